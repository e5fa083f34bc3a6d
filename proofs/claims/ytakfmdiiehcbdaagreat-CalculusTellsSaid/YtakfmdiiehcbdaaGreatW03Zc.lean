/- A part of this claim's proof: models of functions, walks, plain laws. No conditions. -/
import Derived.Test.YtakfmdiiehcbdaaGreatW03Zb
namespace Go.Proofs.YtakfmdiiehcbdaaGreat
open Go Go.RowKit Sep
set_option linter.all false
set_option maxRecDepth 30000
set_option maxHeartbeats 4000000
def y1S (z5g : List (List z2)) (z4r : S41) (z80 : z1) (z34 : List z1) (zhK : Int) : Option (Bool × (Nat × List z1 × Int)) :=
 (y3z (⟨zhK⟩ : zV) z80 z5g z4r).bind fun z5h=>(if decide (((z34.length : Nat) : Int) = 0) then some true else chk ((0 : Int) ≤ 0 ∧ 0 < ((z34.length : Nat) : Int)) ((yM z5h.1 (⟨((nth z34 0).fN),((nth z34 0).fD)⟩ : z1)).bind fun zsj=>some (decide (zsj > 0)))).bind fun zlo=>if zlo then some (true,(0,([z5h.1] : List z1),z5h.2.fE)) else some (true,(0,z34,z5h.2.fE))
def y2Y (zI : List (List z2)) (zi : S41) (z5g : List (List z2)) (z4r : S41) (zJ : List z1) : Option (z1 × Int) :=
 (y2o zI zi z5g z4r zJ).bind fun zfr=>if decide (zfr ≠ 0) then some ((⟨0,0⟩ : z1),zfr) else jp2 (fun (z6R : Int) (z4K : List z1)=>if decide (z6R ≠ 0) then some ((⟨0,0⟩ : z1),z6R) else chk ((0 : Int) ≤ 0 ∧ 0 < ((z4K.length : Nat) : Int)) (some ((⟨((nth z4K 0).fN),((nth z4K 0).fD)⟩ : z1),0))) fun zlp=>(y39 zI zi z5g z4r zJ).bind fun zr=>(y23 (Nat × List z1 × Int) (fun (x : z1) (s : Nat × List z1 × Int)=>chk (s.1 = 0) (y1S z5g z4r x s.2.1 s.2.2)) (0,([] : List z1),0) zI (⟨(⟨zr.1,zr.2.1⟩ : z1),(⟨zr.2.2.1,zr.2.2.2⟩ : z1)⟩ : S41) z5g z4r zJ).bind fun z3l=>zlp z3l.2.2 z3l.2.1
set_option maxRecDepth 20000 in
theorem y7L (Z : Zp) (zW : Option Addr) (zX : Nat) (zR : Addr) (zlq : Option Addr) (zlr : Nat) (zS : Addr) (zY : Option Addr) (zZ : Nat) (zI : List (List z2)) (zi : S41) (z5g : List (List z2)) (z4r : S41) (zJ : List z1) (r : z1 × Int)
  (h : y2Y zI zi z5g z4r zJ = some r) (w₀ : World) (hz : PZ [] w₀ Z)
  (zls : ZS Z 1 (p23 Z) zW zX zI)
  (zhL : ZS Z 1 (p23 Z) zlq zlr z5g)
  (zhM : ZC Z zR [(.slice zlq z5g.length zlr)])
  (zhN : ZC Z zS [(.int .i64 z4r.fR.fN),(.int .i64 z4r.fR.fD),(.int .i64 z4r.fL.fN),(.int .i64 z4r.fL.fD)])
  (zlt : ZS Z 2 (fun r x=>r = e40 x) zY zZ zJ) :
  Calls Tryz.prog 35 #[(.agg #[(.slice zW zI.length zX),(.int .i64 zi.fR.fN),(.int .i64 zi.fR.fD),(.int .i64 zi.fL.fN),(.int .i64 zi.fL.fD),(.func (.func 29) #[] #[(.pointer (some zR)),(.pointer (some zS))]),(.slice zY zJ.length zZ)])] w₀ fun e w'=>∃ Zn : Zp,e = .returned (.tuple #[(.agg #[(.int .i64 r.1.fN),(.int .i64 r.1.fD)]),(.int .i64 r.2)]) ∧ True ∧ Hp [] w₀ w' [fz Zn]:=by
 unfold y2Y at h
 refine Calls.y7t (vs:=[(.agg #[(.slice zW zI.length zX),(.int .i64 zi.fR.fN),(.int .i64 zi.fR.fD),(.int .i64 zi.fL.fN),(.int .i64 zi.fL.fD),(.func (.func 29) #[] #[(.pointer (some zR)),(.pointer (some zS))]),(.slice zY zJ.length zZ)])]) (pre:=[]) (env:=[(0,(.agg #[(.slice zW zI.length zX),(.int .i64 zi.fR.fN),(.int .i64 zi.fR.fD),(.int .i64 zi.fL.fN),(.int .i64 zi.fL.fD),(.func (.func 29) #[] #[(.pointer (some zR)),(.pointer (some zS))]),(.slice zY zJ.length zZ)]))]) Tryz.func35 rfl Tryz.ntmps35 rfl (Hp.nil w₀ _) rfl ?_
 refine WC.pool (WC.b (WC.a ?_))
 refine WL.new (dd:=1) rfl rfl rfl (yx (cs:=[(.slice zW zI.length zX),(.int .i64 zi.fR.fN),(.int .i64 zi.fR.fD),(.int .i64 zi.fL.fN),(.int .i64 zi.fL.fD),(.func (.func 29) #[] #[(.pointer (some zR)),(.pointer (some zS))]),(.slice zY zJ.length zZ)]) rfl rfl) ?_
 intro z2V _
 refine WL.new (dd:=2) rfl rfl rfl (yk (cs:=[(.int .i64 0),(.int .i64 0)]) yo rfl) ?_
 intro z35 _
 refine WL.pu rfl (WL.nil (WX.a (WC.b (WC.b ?_))))
 obtain ⟨zfr,zAj,h⟩:=z8 h
 refine WC.a ?_
 refine WL.a (d:=9) rfl rfl rfl (y9 y70 rfl (y7 .h1) rfl) ?_
 refine WL.y2v (dd:=10) rfl rfl rfl (za (l:=[.tmp 9]) Tryz.call54 (.cons rfl .nil)) .nil (ccz hz .nil .h2 fun w pz ho=>y7o _ _ _ _ _ _ _ _ _ _ _ _ _ _ _ zAj w pz ((zls.mono (Zle.left _ _)).weak (fun _ _ h=>yG (Zle.left _ _) h)) ((zhL.mono (Zle.left _ _)).weak (fun _ _ h=>yG (Zle.left _ _) h)) (zhM.mono (Zle.left _ _)) (zhN.mono (Zle.left _ _)) (zlt.mono (Zle.left _ _))) ?_
 rintro z4s _
 refine WL.merge .here .h2 ?_
 refine WL.pu rfl (WL.nil (WX.a (WC.b (WC.a (WL.pu rfl (WL.pu rfl (WL.nil (WX.a ?_))))))))
 refine WC.cond rfl (fun zlu=>?_) (fun zlu=>?_)
 ·replace h:=yd h zlu
  refine WC.b (WC.a ?_)
  refine WL.a (d:=13) rfl rfl rfl (yz (v:=(.agg #[(.int .i64 0),(.int .i64 0)])) (Eos.parts (l:=[]) .nil []) (fun _=>by kernel_rfl)) ?_
  refine WL.pu rfl ?_
  refine WL.yb rfl rfl (ya yh rfl rfl rfl .h1 rfl rfl rfl) ?_
  refine WL.pu rfl (WL.nil (WX.a (WC.ret (WX.y6 ?_))))
  obtain rfl:=Option.some.inj h
  refine WX.y8y Tryz.results35 (.agg rfl y5 rfl (y7 .here) (.tmp rfl .nil)) (fun w hw=>?_)
  exact ⟨([] ++ z4s),yF rfl rfl,trivial,hw.sub (.cons .h1 .nil)⟩
 ·replace h:=ye h zlu
  refine WC.skip (WX.a (WC.b (WC.a ?_)))
  refine WL.new (dd:=5) rfl rfl rfl (yk (cs:=[(.int .i64 0)]) y87 rfl) ?_
  intro z2m _
  refine WL.nil (WX.a (WC.b (WC.a ?_)))
  refine WL.new (dd:=6) rfl rfl rfl (yk (cs:=[(.slice none 0 0)]) y9o rfl) ?_
  intro z2B _
  refine WL.nil (WX.a ?_)
  obtain ⟨zlp,zAk,h⟩:=y2b h
  refine WC.y7u (fun (zfs : Nat) (z6R : Int) (z4K : List z1) (zba : Zp) (zft : Option Addr) (zfu : Nat)=>(zlp z6R z4K = some r) ∧ (Zle (Z ++ ([] ++ z4s)) (Z ++ zba))) (fun (zfs : Nat) (z6R : Int) (z4K : List z1) (zba : Zp) (zft : Option Addr) (zfu : Nat)=>[(2,(.pointer (some ⟨z35,0,none⟩))),(5,(.pointer (some ⟨z2m,0,none⟩))),(6,(.pointer (some ⟨z2B,0,none⟩)))]) (fun (zfs : Nat) (z6R : Int) (z4K : List z1) (zba : Zp) (zft : Option Addr) (zfu : Nat)=>[fz zba,stb z35 40 [(.int .i64 0),(.int .i64 0)],stb z2m 87 [(.int .i64 z6R)],stb z2B 65 [(.slice zft z4K.length zfu)],row (.slice zft z4K.length zfu) 40 2 (z4K.flatMap e40),dfr zfs]) ?_ ?_
  ·skip
   refine WC.b ?_
   obtain ⟨zr,zAl,h⟩:=z8 h
   refine WC.a ?_
   refine WL.a (d:=15) rfl rfl rfl (y9 y70 rfl (y7 .h4) rfl) ?_
   refine WL.y2v (dd:=16) rfl rfl rfl (za (l:=[.tmp 15]) Tryz.call55 (.cons rfl .nil)) .nil (ccz hz .nil .h2 fun w pz ho=>y7b _ _ _ _ _ _ _ _ _ _ _ _ _ _ _ zAl w pz ((zls.mono ((Zle.left _ _).trans ((Zle.left _ _).trans (Zle.yn _ _ _)))).weak (fun _ _ h=>yG ((Zle.left _ _).trans ((Zle.left _ _).trans (Zle.yn _ _ _))) h)) ((zhL.mono ((Zle.left _ _).trans ((Zle.left _ _).trans (Zle.yn _ _ _)))).weak (fun _ _ h=>yG ((Zle.left _ _).trans ((Zle.left _ _).trans (Zle.yn _ _ _))) h)) (zhM.mono ((Zle.left _ _).trans ((Zle.left _ _).trans (Zle.yn _ _ _)))) (zhN.mono ((Zle.left _ _).trans ((Zle.left _ _).trans (Zle.yn _ _ _)))) (zlt.mono ((Zle.left _ _).trans ((Zle.left _ _).trans (Zle.yn _ _ _))))) ?_
   rintro z3z _
   refine WL.nil (WX.a (WC.block (WC.pool ?_)))
   refine WC.drop (.cons .here (.cons .h1 (.cons .h1 (.cons .h2 (.cons .h2 (.cons .here (.cons .here .nil))))))) ?_
   refine WC.nilRow 40 2 ?_
   refine WC.rangeFunc (f:=78) (caps:=[(.pointer (some ⟨z3z,0,none⟩))]) rfl Tryz.call78 ?_
   intro zJ1 zJ2 z3m z4L z3L zhO zAm zAn w hw
   have hw1:=hw.selAll ((.cons .h3 (.cons .h3 (.cons .h2 (.cons .h2 (.cons .h2 (.cons .h2 (.cons .here .nil))))))) : Sel _ [fz [],stb z2B 65 [(.slice none (([] : List z1).length) 0)],row (.slice none (([] : List z1).length) 0) 40 2 (([] : List z1).flatMap e40),stb z2m 87 [(.int .i64 0)],stb z35 40 [(.int .i64 0),(.int .i64 0)],stb z2V 67 [(.slice zW zI.length zX),(.int .i64 zi.fR.fN),(.int .i64 zi.fR.fD),(.int .i64 zi.fL.fN),(.int .i64 zi.fL.fD),(.func (.func 29) #[] #[(.pointer (some zR)),(.pointer (some zS))]),(.slice zY zJ.length zZ)],blk z3m (z3L .ready none)] _)
   have pz:=(hz.call2 hw1 ((.cons .here .nil) : Sel [y1J [fz [],stb z2B 65 [(.slice none (([] : List z1).length) 0)],row (.slice none (([] : List z1).length) 0) 40 2 (([] : List z1).flatMap e40),stb z2m 87 [(.int .i64 0)],stb z35 40 [(.int .i64 0),(.int .i64 0)],stb z2V 67 [(.slice zW zI.length zX),(.int .i64 zi.fR.fN),(.int .i64 zi.fR.fD),(.int .i64 zi.fL.fN),(.int .i64 zi.fL.fD),(.func (.func 29) #[] #[(.pointer (some zR)),(.pointer (some zS))]),(.slice zY zJ.length zZ)],blk z3m (z3L .ready none)],dfr z4L,stb z3z 67 [(.slice zW zI.length zX),(.int .i64 zr.1),(.int .i64 zr.2.1),(.int .i64 zr.2.2.1),(.int .i64 zr.2.2.2),(.func (.func 29) #[] #[(.pointer (some zR)),(.pointer (some zS))]),(.slice zY zJ.length zZ)],fz ([] ++ z4s)] [y1J [fz [],stb z2B 65 [(.slice none (([] : List z1).length) 0)],row (.slice none (([] : List z1).length) 0) 40 2 (([] : List z1).flatMap e40),stb z2m 87 [(.int .i64 0)],stb z35 40 [(.int .i64 0),(.int .i64 0)],stb z2V 67 [(.slice zW zI.length zX),(.int .i64 zi.fR.fN),(.int .i64 zi.fR.fD),(.int .i64 zi.fL.fN),(.int .i64 zi.fL.fD),(.func (.func 29) #[] #[(.pointer (some zR)),(.pointer (some zS))]),(.slice zY zJ.length zZ)],blk z3m (z3L .ready none)]] [dfr z4L,stb z3z 67 [(.slice zW zI.length zX),(.int .i64 zr.1),(.int .i64 zr.2.1),(.int .i64 zr.2.2.1),(.int .i64 zr.2.2.2),(.func (.func 29) #[] #[(.pointer (some zR)),(.pointer (some zS))]),(.slice zY zJ.length zZ)],fz ([] ++ z4s)]) .h2).lend hw1 ((.cons .here .nil) : Sel [y1J [fz [],stb z2B 65 [(.slice none (([] : List z1).length) 0)],row (.slice none (([] : List z1).length) 0) 40 2 (([] : List z1).flatMap e40),stb z2m 87 [(.int .i64 0)],stb z35 40 [(.int .i64 0),(.int .i64 0)],stb z2V 67 [(.slice zW zI.length zX),(.int .i64 zi.fR.fN),(.int .i64 zi.fR.fD),(.int .i64 zi.fL.fN),(.int .i64 zi.fL.fD),(.func (.func 29) #[] #[(.pointer (some zR)),(.pointer (some zS))]),(.slice zY zJ.length zZ)],blk z3m (z3L .ready none)],dfr z4L,stb z3z 67 [(.slice zW zI.length zX),(.int .i64 zr.1),(.int .i64 zr.2.1),(.int .i64 zr.2.2.1),(.int .i64 zr.2.2.2),(.func (.func 29) #[] #[(.pointer (some zR)),(.pointer (some zS))]),(.slice zY zJ.length zZ)],fz ([] ++ z4s)] [y1J [fz [],stb z2B 65 [(.slice none (([] : List z1).length) 0)],row (.slice none (([] : List z1).length) 0) 40 2 (([] : List z1).flatMap e40),stb z2m 87 [(.int .i64 0)],stb z35 40 [(.int .i64 0),(.int .i64 0)],stb z2V 67 [(.slice zW zI.length zX),(.int .i64 zi.fR.fN),(.int .i64 zi.fR.fD),(.int .i64 zi.fL.fN),(.int .i64 zi.fL.fD),(.func (.func 29) #[] #[(.pointer (some zR)),(.pointer (some zS))]),(.slice zY zJ.length zZ)],blk z3m (z3L .ready none)]] [dfr z4L,stb z3z 67 [(.slice zW zI.length zX),(.int .i64 zr.1),(.int .i64 zr.2.1),(.int .i64 zr.2.2.1),(.int .i64 zr.2.2.2),(.func (.func 29) #[] #[(.pointer (some zR)),(.pointer (some zS))]),(.slice zY zJ.length zZ)],fz ([] ++ z4s)]) (B:=[stb z3z 67 [(.slice zW zI.length zX),(.int .i64 zr.1),(.int .i64 zr.2.1),(.int .i64 zr.2.2.1),(.int .i64 zr.2.2.2),(.func (.func 29) #[] #[(.pointer (some zR)),(.pointer (some zS))]),(.slice zY zJ.length zZ)]]) (fun _ hx'=>((.cons .h1 .nil) : Sel _ [stb z3z 67 [(.slice zW zI.length zX),(.int .i64 zr.1),(.int .i64 zr.2.1),(.int .i64 zr.2.2.1),(.int .i64 zr.2.2.2),(.func (.func 29) #[] #[(.pointer (some zR)),(.pointer (some zS))]),(.slice zY zJ.length zZ)]] _).mem hx')
   obtain ⟨z3l,zAo,h⟩:=z8 h
   refine Calls.mono (y6H (Z:=_) (z5c:=z3m) (zO:=(Option Addr × Nat)) (z1I:=(fun (g : Option Addr × Nat) (s : Nat × List z1 × Int)=>y1J ([fz [],stb z2B 65 [(.slice g.1 s.2.1.length g.2)],row (.slice g.1 s.2.1.length g.2) 40 2 (s.2.1.flatMap e40),stb z2m 87 [(.int .i64 s.2.2)],stb z35 40 [(.int .i64 0),(.int .i64 0)],stb z2V 67 [(.slice zW zI.length zX),(.int .i64 zi.fR.fN),(.int .i64 zi.fR.fD),(.int .i64 zi.fL.fN),(.int .i64 zi.fL.fD),(.func (.func 29) #[] #[(.pointer (some zR)),(.pointer (some zS))]),(.slice zY zJ.length zZ)]] ++ [blk z3m (z3L (rdy (pcs [] s.1)) (pcs [] s.1))]))) (z5d:=(fun (g : Option Addr × Nat) (s : Nat × List z1 × Int)=>True)) (z6M:=(none,0)) (z6i:=⟨z3z,0,none⟩) (z9q:=zW) (z9r:=zX) (zkO:=zR) (zkP:=zlq) (zkQ:=zlr) (zkR:=zS) (zfb:=zY) (zfc:=zZ) (zg:=(Nat × List z1 × Int)) (z1H:=(fun (x : z1) (s : Nat × List z1 × Int)=>chk (s.1 = 0) (y1S z5g z4r x s.2.1 s.2.2))) (s0_13922:=(0,([] : List z1),0)) (z27:=zI) (zb2:=(⟨(⟨zr.1,zr.2.1⟩ : z1),(⟨zr.2.2.1,zr.2.2.2⟩ : z1)⟩ : S41)) (zfa:=z5g) (zb3:=z4r) (z2l:=zJ) (r:=z3l) w pz ?_ trivial ((((zls.mono ((Zle.left _ _).trans ((Zle.left _ _).trans (Zle.yn _ _ _)))).weak (fun _ _ h=>yG ((Zle.left _ _).trans ((Zle.left _ _).trans (Zle.yn _ _ _))) h)).mono (Zle.left _ _)).weak (fun _ _ h=>yG (Zle.left _ _) h)) ((((zhL.mono ((Zle.left _ _).trans ((Zle.left _ _).trans (Zle.yn _ _ _)))).weak (fun _ _ h=>yG ((Zle.left _ _).trans ((Zle.left _ _).trans (Zle.yn _ _ _))) h)).mono (Zle.left _ _)).weak (fun _ _ h=>yG (Zle.left _ _) h)) ((zhM.mono ((Zle.left _ _).trans ((Zle.left _ _).trans (Zle.yn _ _ _)))).mono (Zle.left _ _)) ((zhN.mono ((Zle.left _ _).trans ((Zle.left _ _).trans (Zle.yn _ _ _)))).mono (Zle.left _ _)) ((zlt.mono ((Zle.left _ _).trans ((Zle.left _ _).trans (Zle.yn _ _ _)))).mono (Zle.left _ _)) ((hw1.lent ((.cons .here .nil) : Sel [y1J [fz [],stb z2B 65 [(.slice none (([] : List z1).length) 0)],row (.slice none (([] : List z1).length) 0) 40 2 (([] : List z1).flatMap e40),stb z2m 87 [(.int .i64 0)],stb z35 40 [(.int .i64 0),(.int .i64 0)],stb z2V 67 [(.slice zW zI.length zX),(.int .i64 zi.fR.fN),(.int .i64 zi.fR.fD),(.int .i64 zi.fL.fN),(.int .i64 zi.fL.fD),(.func (.func 29) #[] #[(.pointer (some zR)),(.pointer (some zS))]),(.slice zY zJ.length zZ)],blk z3m (z3L .ready none)],dfr z4L,stb z3z 67 [(.slice zW zI.length zX),(.int .i64 zr.1),(.int .i64 zr.2.1),(.int .i64 zr.2.2.1),(.int .i64 zr.2.2.2),(.func (.func 29) #[] #[(.pointer (some zR)),(.pointer (some zS))]),(.slice zY zJ.length zZ)],fz ([] ++ z4s)] [y1J [fz [],stb z2B 65 [(.slice none (([] : List z1).length) 0)],row (.slice none (([] : List z1).length) 0) 40 2 (([] : List z1).flatMap e40),stb z2m 87 [(.int .i64 0)],stb z35 40 [(.int .i64 0),(.int .i64 0)],stb z2V 67 [(.slice zW zI.length zX),(.int .i64 zi.fR.fN),(.int .i64 zi.fR.fD),(.int .i64 zi.fL.fN),(.int .i64 zi.fL.fD),(.func (.func 29) #[] #[(.pointer (some zR)),(.pointer (some zS))]),(.slice zY zJ.length zZ)],blk z3m (z3L .ready none)]] [dfr z4L,stb z3z 67 [(.slice zW zI.length zX),(.int .i64 zr.1),(.int .i64 zr.2.1),(.int .i64 zr.2.2.1),(.int .i64 zr.2.2.2),(.func (.func 29) #[] #[(.pointer (some zR)),(.pointer (some zS))]),(.slice zY zJ.length zZ)],fz ([] ++ z4s)]) (B:=[stb z3z 67 [(.slice zW zI.length zX),(.int .i64 zr.1),(.int .i64 zr.2.1),(.int .i64 zr.2.2.1),(.int .i64 zr.2.2.2),(.func (.func 29) #[] #[(.pointer (some zR)),(.pointer (some zS))]),(.slice zY zJ.length zZ)]]) (fun _ hx'=>((.cons .h1 .nil) : Sel _ [stb z3z 67 [(.slice zW zI.length zX),(.int .i64 zr.1),(.int .i64 zr.2.1),(.int .i64 zr.2.2.1),(.int .i64 zr.2.2.2),(.func (.func 29) #[] #[(.pointer (some zR)),(.pointer (some zS))]),(.slice zY zJ.length zZ)]] _).mem hx') (.head _) _).stb) zAo (hw1.owns ((.cons .here .nil) : Sel [y1J [fz [],stb z2B 65 [(.slice none (([] : List z1).length) 0)],row (.slice none (([] : List z1).length) 0) 40 2 (([] : List z1).flatMap e40),stb z2m 87 [(.int .i64 0)],stb z35 40 [(.int .i64 0),(.int .i64 0)],stb z2V 67 [(.slice zW zI.length zX),(.int .i64 zi.fR.fN),(.int .i64 zi.fR.fD),(.int .i64 zi.fL.fN),(.int .i64 zi.fL.fD),(.func (.func 29) #[] #[(.pointer (some zR)),(.pointer (some zS))]),(.slice zY zJ.length zZ)],blk z3m (z3L .ready none)],dfr z4L,stb z3z 67 [(.slice zW zI.length zX),(.int .i64 zr.1),(.int .i64 zr.2.1),(.int .i64 zr.2.2.1),(.int .i64 zr.2.2.2),(.func (.func 29) #[] #[(.pointer (some zR)),(.pointer (some zS))]),(.slice zY zJ.length zZ)],fz ([] ++ z4s)] [y1J [fz [],stb z2B 65 [(.slice none (([] : List z1).length) 0)],row (.slice none (([] : List z1).length) 0) 40 2 (([] : List z1).flatMap e40),stb z2m 87 [(.int .i64 0)],stb z35 40 [(.int .i64 0),(.int .i64 0)],stb z2V 67 [(.slice zW zI.length zX),(.int .i64 zi.fR.fN),(.int .i64 zi.fR.fD),(.int .i64 zi.fL.fN),(.int .i64 zi.fL.fD),(.func (.func 29) #[] #[(.pointer (some zR)),(.pointer (some zS))]),(.slice zY zJ.length zZ)],blk z3m (z3L .ready none)]] [dfr z4L,stb z3z 67 [(.slice zW zI.length zX),(.int .i64 zr.1),(.int .i64 zr.2.1),(.int .i64 zr.2.2.1),(.int .i64 zr.2.2.2),(.func (.func 29) #[] #[(.pointer (some zR)),(.pointer (some zS))]),(.slice zY zJ.length zZ)],fz ([] ++ z4s)]))) ?_
   ·skip
    refine y8x (LI:=(fun (g : Option Addr × Nat) (s : Nat × List z1 × Int)=>[fz [],stb z2B 65 [(.slice g.1 s.2.1.length g.2)],row (.slice g.1 s.2.1.length g.2) 40 2 (s.2.1.flatMap e40),stb z2m 87 [(.int .i64 s.2.2)],stb z35 40 [(.int .i64 0),(.int .i64 0)],stb z2V 67 [(.slice zW zI.length zX),(.int .i64 zi.fR.fN),(.int .i64 zi.fR.fD),(.int .i64 zi.fL.fN),(.int .i64 zi.fL.fD),(.func (.func 29) #[] #[(.pointer (some zR)),(.pointer (some zS))]),(.slice zY zJ.length zZ)]])) (pc:=(fun (s : Nat × List z1 × Int)=>pcs [] s.1)) zhO zAm zAn (fun _ _=>rfl) (by decide) ?_
    rintro z80 _ ⟨zcZ,zd0⟩ ⟨zAp,z34,zhK⟩ zAq zAr Fb wb zsk _ hz
    replace hz:=hz.left
    letI : Rnd:=inR z3m
    obtain ⟨hp0,z5i⟩:=yj zsk
    replace hp0 : zAp = 0:=hp0; subst hp0; clear zsk
    replace z5i : y1S z5g z4r z80 z34 zhK = some (zAq,zAr):=z5i
    unfold y1S at z5i
    refine WC.restr (env':=[(1,(.pointer (some ⟨z2V,0,none⟩))),(12,(.bool (decide (zfr ≠ 0)))),(5,(.pointer (some ⟨z2m,0,none⟩))),(6,(.pointer (some ⟨z2B,0,none⟩))),(17,(.agg #[(.int .i64 z80.fN),(.int .i64 z80.fD)]))]) (.cons rfl (.cons rfl (.cons rfl (.cons rfl (.cons rfl .nil))))) ?_
    refine WC.eqL (L':=[fz [],stb z2B 65 [(.slice zcZ z34.length zd0)],row (.slice zcZ z34.length zd0) 40 2 (z34.flatMap e40),stb z2m 87 [(.int .i64 zhK)],stb z35 40 [(.int .i64 0),(.int .i64 0)],stb z2V 67 [(.slice zW zI.length zX),(.int .i64 zi.fR.fN),(.int .i64 zi.fR.fD),(.int .i64 zi.fL.fN),(.int .i64 zi.fL.fD),(.func (.func 29) #[] #[(.pointer (some zR)),(.pointer (some zS))]),(.slice zY zJ.length zZ)],blk z3m (z3L .ready none)]) rfl ?_
    refine WC.a ?_
    refine WL.new (dd:=7) rfl rfl rfl (yk (cs:=[(.int .i64 0),(.int .i64 0)]) yo rfl) ?_
    intro zAs _
    refine WL.yb rfl rfl (ya yh rfl rfl rfl .here rfl rfl rfl) ?_
    refine WL.nil ?_
    refine WX.y9i zhO .h7 ?_
    refine WC.block (WC.b ?_)
    obtain ⟨z5h,zAt,z5i⟩:=z8 z5i
    refine WC.a ?_
    refine WL.a (d:=18) rfl rfl rfl (y4 y8S rfl rfl) ?_
    refine WL.a (d:=19) rfl rfl rfl (yc ybI rfl (yp .h7 rfl)) ?_
    refine WL.a (d:=20) rfl rfl rfl (y9 y5 rfl (y7 .h1) rfl) ?_
    refine WL.b (dd:=21) rfl rfl rfl (y3i (l:=[.tmp 5,.tmp 20]) Tryz.call29 rfl (.cons rfl (.cons rfl .nil))) (.cons .h5 .nil) (ccz hz (.cons .h5 .nil) .h2 fun w pz ho=>y8F _ _ _ _ _ _ _ _ _ _ _ zAt w pz ((zhL.mono ((Zle.left _ _).trans ((Zle.left _ _).trans ((Zle.yn _ _ _).trans (Zle.left _ _))))).weak (fun _ _ h=>yG ((Zle.left _ _).trans ((Zle.left _ _).trans ((Zle.yn _ _ _).trans (Zle.left _ _)))) h)) (zhM.mono ((Zle.left _ _).trans ((Zle.left _ _).trans ((Zle.yn _ _ _).trans (Zle.left _ _))))) (zhN.mono ((Zle.left _ _).trans ((Zle.left _ _).trans ((Zle.yn _ _ _).trans (Zle.left _ _))))) ho) ?_
    refine WL.new (dd:=8) rfl rfl rfl (yk (cs:=[(.int .i64 0),(.int .i64 0)]) yo rfl) ?_
    intro zAu _
    refine WL.yb rfl rfl (ya yh rfl rfl rfl .here rfl rfl rfl) ?_
    refine WL.nil (WX.a (WC.b ?_))
    obtain ⟨zlo,zsl,z5i⟩:=z8 z5i
    refine WC.yH (fun i=>[].contains i) [] rfl ?_
    refine WD.e (i:=0) (d:=22) (by kernel_rfl) rfl z6 z7 rfl rfl rfl (yc y4r rfl (yp .h5 rfl)) ?_
    refine WD.a (i:=1) (d:=23) (by kernel_rfl) rfl z6 z7 rfl rfl rfl (fun _=>yP Tryz.underlying65 rfl) ?_
    refine WD.a (i:=2) (d:=24) (by kernel_rfl) rfl z6 z7 rfl rfl rfl (fun _=>y6M rfl rfl) ?_
    refine WD.a (i:=3) (d:=25) (by kernel_rfl) rfl z6 z7 rfl rfl rfl (fun _=>q_m rfl) ?_
    refine WD.mid (fuel':=0) [(1,(.pointer (some ⟨z2V,0,none⟩))),(12,(.bool (decide (zfr ≠ 0)))),(5,(.pointer (some ⟨z2m,0,none⟩))),(6,(.pointer (some ⟨z2B,0,none⟩))),(17,(.agg #[(.int .i64 z80.fN),(.int .i64 z80.fD)])),(7,(.pointer (some ⟨zAs,0,none⟩))),(18,(.pointer (some ⟨z2V,5,none⟩))),(19,(.func (.func 29) #[] #[(.pointer (some zR)),(.pointer (some zS))])),(20,(.agg #[(.int .i64 z80.fN),(.int .i64 z80.fD)])),(21,(.agg #[(.int .i64 z5h.1.fN),(.int .i64 z5h.1.fD)])),(8,(.pointer (some ⟨zAu,0,none⟩))),(22,(.slice zcZ z34.length zd0)),(23,(.int .i64 ((z34.length : Nat) : Int))),(24,(.bool (decide (((z34.length : Nat) : Int) = 0)))),(25,(.bool (decide (((z34.length : Nat) : Int) = 0)))),(32,(.bool zlo))] (yC 11 [10,9,8,7,6,5,4,3,2,1,0]) ?_ (fun zsm=>?_)
    rotate_left
    ·rcases Bool.eq_false_or_eq_true (decide (((z34.length : Nat) : Int) = 0)) with hb' | hb'
     ·have zlv:=hb'; clear hb'
      have zlw:=yd zsl zlv
      replace zlw:=Option.some.inj zlw
      refine WD.pin (i:=25) rfl zlv ?_
      refine WD.b (i:=4) (d:=26) (by kernel_rfl) rfl z6 z7 rfl rfl rfl ?_
      refine WD.b (i:=5) (d:=27) (by kernel_rfl) rfl z6 z7 rfl rfl rfl ?_
      refine WD.b (i:=6) (d:=28) (by kernel_rfl) rfl z6 z7 rfl rfl rfl ?_
      refine WD.b (i:=7) (d:=29) (by kernel_rfl) rfl z6 z7 rfl rfl rfl ?_
      refine WD.b (i:=8) (d:=30) (by kernel_rfl) rfl z6 z7 rfl rfl rfl ?_
      refine WD.b (i:=9) (d:=31) (by kernel_rfl) rfl z6 z7 rfl rfl rfl ?_
      refine WD.a (i:=10) (d:=32) (by kernel_rfl) rfl z6 z7 rfl rfl rfl (fun _=>y18 rfl rfl) ?_
      refine WD.yt (.cons .here (.cons .here (.cons .here (.cons .here (.cons .here (.cons .here (.cons .here (.cons .here (.cons .here .nil))))))))) ?_ zsm
      exact (.cons rfl (.cons rfl (.cons rfl (.cons rfl (.cons rfl (.cons rfl (.cons rfl (.cons rfl (.cons rfl (.cons rfl (.cons rfl (.cons rfl (.cons rfl (.cons rfl (.cons (zf (Eq.symm zlv)) (.cons (zf zlw) .nil))))))))))))))))
     ·have zlx:=hb'; clear hb'
      have zbb:=ye zsl zlx
      obtain ⟨zfv,zbb⟩:=yj zbb
      obtain ⟨zsj,zAv,zbb⟩:=z8 zbb
      replace zbb:=Option.some.inj zbb
      refine WD.pin (i:=25) rfl zlx ?_
      refine WD.e (i:=4) (d:=26) (by kernel_rfl) rfl z6 z7 rfl rfl rfl (y9 y5 rfl (y7 .here) rfl) ?_
      refine WD.e (i:=5) (d:=27) (by kernel_rfl) rfl z6 z7 rfl rfl rfl (yc y4r rfl (yp .h5 rfl)) ?_
      refine WD.know (fun w hw=>Hp.y3y .h6 hw (by intro hz'; have:=zfv; rw [hz'] at this; omega)) ?_
      rintro ⟨zJ3,rfl⟩
      refine WD.a (i:=6) (d:=28) (by kernel_rfl) rfl z6 z7 rfl rfl rfl (fun _=>y11 yK rfl rfl zfv.1 zfv.2 y3x) ?_
      refine WD.e (i:=7) (d:=29) (by kernel_rfl) rfl z6 z7 rfl rfl rfl (ys (cs:=(e40 (nth z34 0))) y5 rfl rfl (y3B .h6 (y2A (enc:=e40) (l:=z34) (i:=0) (sz:=2) (fun _=>rfl) zfv.1 zfv.2))) ?_
      refine WD.c (i:=8) (d:=30) (by kernel_rfl) rfl z6 z7 rfl rfl rfl (za (l:=[.tmp 26,.tmp 29]) Tryz.call24 (.cons rfl (.cons rfl .nil))) (ccz hz .nil .h4 fun w pz ho=>y2w _ _ _ _ zAv w pz ) ?_
      refine WD.a (i:=9) (d:=31) (by kernel_rfl) rfl z6 z7 rfl rfl rfl (fun _=>y5x rfl rfl) ?_
      refine WD.a (i:=10) (d:=32) (by kernel_rfl) rfl z6 z7 rfl rfl rfl (fun _=>y19 rfl rfl) ?_
      refine WD.yt (.cons .here (.cons .here (.cons .here (.cons .here (.cons .here (.cons .here (.cons .here (.cons .here (.cons .here .nil))))))))) ?_ zsm
      exact (.cons rfl (.cons rfl (.cons rfl (.cons rfl (.cons rfl (.cons rfl (.cons rfl (.cons rfl (.cons rfl (.cons rfl (.cons rfl (.cons rfl (.cons rfl (.cons rfl (.cons (zf (Eq.symm zlx)) (.cons (zf zbb) .nil))))))))))))))))
    refine WD.done (by kernel_rfl) ?_
    refine WX.a ?_
    refine WC.cond rfl (fun zly=>?_) (fun zly=>?_)
    ·replace z5i:=yd z5i zly
     refine WC.a ?_
     refine WL.a (d:=33) rfl rfl rfl (y9 y5 rfl (y7 .here) rfl) ?_
     refine WL.new (dd:=34) rfl rfl rfl (yA (cs:=([z5h.1] : List z1).flatMap e40) yK (Eos.parts (l:=[.tmp 33]) (.cons rfl .nil) [0]) (fun _=>by kernel_rfl) rfl (by unfold maxLen; omega)) ?_
     intro zlz _
     refine WL.yb rfl rfl (ya ya2 rfl rfl rfl .h6 rfl rfl rfl) ?_
     refine WL.nil (WX.yi ?_)
     obtain ⟨rfl,rfl⟩:=y7I z5i
     exact WX.y5b zhO .h4 (fun w' hw'=>⟨((some ⟨zlz,0,none⟩),1),rfl,trivial,(hw'.selAll ((.cons .h6 (.cons .h1 (.cons .h1 (.cons .h2 (.cons .h4 (.cons .h4 (.cons .here .nil))))))) : Sel _ [fz [],stb z2B 65 [(.slice (some ⟨zlz,0,none⟩) (([z5h.1] : List z1).length) 1)],row (.slice (some ⟨zlz,0,none⟩) (([z5h.1] : List z1).length) 1) 40 2 (([z5h.1] : List z1).flatMap e40),stb z2m 87 [(.int .i64 z5h.2.fE)],stb z35 40 [(.int .i64 0),(.int .i64 0)],stb z2V 67 [(.slice zW zI.length zX),(.int .i64 zi.fR.fN),(.int .i64 zi.fR.fD),(.int .i64 zi.fL.fN),(.int .i64 zi.fL.fD),(.func (.func 29) #[] #[(.pointer (some zR)),(.pointer (some zS))]),(.slice zY zJ.length zZ)],blk z3m (z3L .ready none)] _)).sub (.cons .here .nil)⟩)
    ·replace z5i:=ye z5i zly
     refine WC.skip (WX.yi ?_)
     obtain ⟨rfl,rfl⟩:=y7I z5i
     exact WX.y5b zhO .h2 (fun w' hw'=>⟨(zcZ,zd0),rfl,trivial,(hw'.selAll ((.cons .h4 (.cons .h4 (.cons .h4 (.cons .h2 (.cons .h3 (.cons .h3 (.cons .here .nil))))))) : Sel _ [fz [],stb z2B 65 [(.slice zcZ z34.length zd0)],row (.slice zcZ z34.length zd0) 40 2 (z34.flatMap e40),stb z2m 87 [(.int .i64 z5h.2.fE)],stb z35 40 [(.int .i64 0),(.int .i64 0)],stb z2V 67 [(.slice zW zI.length zX),(.int .i64 zi.fR.fN),(.int .i64 zi.fR.fD),(.int .i64 zi.fL.fN),(.int .i64 zi.fL.fD),(.func (.func 29) #[] #[(.pointer (some zR)),(.pointer (some zS))]),(.slice zY zJ.length zZ)],blk z3m (z3L .ready none)] _)).sub (.cons .here .nil)⟩)
   ·skip
    rintro _ w' ⟨zAw,⟨zfw,zfx⟩,rfl,_,hp⟩
    have hp1:=hw1.call ((.cons .here .nil) : Sel [y1J [fz [],stb z2B 65 [(.slice none (([] : List z1).length) 0)],row (.slice none (([] : List z1).length) 0) 40 2 (([] : List z1).flatMap e40),stb z2m 87 [(.int .i64 0)],stb z35 40 [(.int .i64 0),(.int .i64 0)],stb z2V 67 [(.slice zW zI.length zX),(.int .i64 zi.fR.fN),(.int .i64 zi.fR.fD),(.int .i64 zi.fL.fN),(.int .i64 zi.fL.fD),(.func (.func 29) #[] #[(.pointer (some zR)),(.pointer (some zS))]),(.slice zY zJ.length zZ)],blk z3m (z3L .ready none)],dfr z4L,stb z3z 67 [(.slice zW zI.length zX),(.int .i64 zr.1),(.int .i64 zr.2.1),(.int .i64 zr.2.2.1),(.int .i64 zr.2.2.2),(.func (.func 29) #[] #[(.pointer (some zR)),(.pointer (some zS))]),(.slice zY zJ.length zZ)],fz ([] ++ z4s)] [y1J [fz [],stb z2B 65 [(.slice none (([] : List z1).length) 0)],row (.slice none (([] : List z1).length) 0) 40 2 (([] : List z1).flatMap e40),stb z2m 87 [(.int .i64 0)],stb z35 40 [(.int .i64 0),(.int .i64 0)],stb z2V 67 [(.slice zW zI.length zX),(.int .i64 zi.fR.fN),(.int .i64 zi.fR.fD),(.int .i64 zi.fL.fN),(.int .i64 zi.fL.fD),(.func (.func 29) #[] #[(.pointer (some zR)),(.pointer (some zS))]),(.slice zY zJ.length zZ)],blk z3m (z3L .ready none)]] [dfr z4L,stb z3z 67 [(.slice zW zI.length zX),(.int .i64 zr.1),(.int .i64 zr.2.1),(.int .i64 zr.2.2.1),(.int .i64 zr.2.2.2),(.func (.func 29) #[] #[(.pointer (some zR)),(.pointer (some zS))]),(.slice zY zJ.length zZ)],fz ([] ++ z4s)]) hp
    have hp2 : Hp _ _ w' [fz [],stb z2B 65 [(.slice zfw z3l.2.1.length zfx)],row (.slice zfw z3l.2.1.length zfx) 40 2 (z3l.2.1.flatMap e40),stb z2m 87 [(.int .i64 z3l.2.2)],stb z35 40 [(.int .i64 0),(.int .i64 0)],stb z2V 67 [(.slice zW zI.length zX),(.int .i64 zi.fR.fN),(.int .i64 zi.fR.fD),(.int .i64 zi.fL.fN),(.int .i64 zi.fL.fD),(.func (.func 29) #[] #[(.pointer (some zR)),(.pointer (some zS))]),(.slice zY zJ.length zZ)],blk z3m (z3L (rdy (pcs [] z3l.1)) (pcs [] z3l.1)),fz zAw,dfr z4L,stb z3z 67 [(.slice zW zI.length zX),(.int .i64 zr.1),(.int .i64 zr.2.1),(.int .i64 zr.2.2.1),(.int .i64 zr.2.2.2),(.func (.func 29) #[] #[(.pointer (some zR)),(.pointer (some zS))]),(.slice zY zJ.length zZ)],fz ([] ++ z4s)]:=hp1.pickAll .h1
    refine ⟨_,pcs [] z3l.1,_,rfl,(hp2.sub ((.cons .h6 (.cons .here (.cons .here (.cons .here (.cons .here (.cons .here (.cons .here (.cons .h1 (.cons .h1 (.cons .h1 .nil)))))))))) : Sel _ [blk z3m (z3L (rdy (pcs [] z3l.1)) (pcs [] z3l.1)),fz [],stb z2B 65 [(.slice zfw z3l.2.1.length zfx)],row (.slice zfw z3l.2.1.length zfx) 40 2 (z3l.2.1.flatMap e40),stb z2m 87 [(.int .i64 z3l.2.2)],stb z35 40 [(.int .i64 0),(.int .i64 0)],stb z2V 67 [(.slice zW zI.length zX),(.int .i64 zi.fR.fN),(.int .i64 zi.fR.fD),(.int .i64 zi.fL.fN),(.int .i64 zi.fL.fD),(.func (.func 29) #[] #[(.pointer (some zR)),(.pointer (some zS))]),(.slice zY zJ.length zZ)],dfr z4L,stb z3z 67 [(.slice zW zI.length zX),(.int .i64 zr.1),(.int .i64 zr.2.1),(.int .i64 zr.2.2.1),(.int .i64 zr.2.2.2),(.func (.func 29) #[] #[(.pointer (some zR)),(.pointer (some zS))]),(.slice zY zJ.length zZ)],fz ([] ++ z4s)] _)),?_⟩
    clear hp hp1 hp2 pz hw hw1
    refine wjN ?_
    letI : Rnd:=aft z4L
    refine WX.merge .here .h7 ?_
    refine WX.yi ?_
    exact WX.midR (D:=fun (g : Nat × Int × List z1 × Zp × Option Addr × Nat)=>g.1) (G:=Nat × Int × List z1 × Zp × Option Addr × Nat) ⟨z4L,z3l.2.2,z3l.2.1,(([] ++ z4s) ++ []),zfw,zfx⟩ ⟨h,((Zle.left _ _).trans (Zle.yn _ _ _))⟩ (.cons rfl (.cons rfl (.cons rfl .nil))) (.cons .here (.cons .h3 (.cons .h2 (.cons .here (.cons .here (.cons .h1 .nil))))))
  ·rintro zfs z6R z4K zba zft zfu ⟨h,zJ4⟩
   replace h:=(zAk z6R z4K).symm.trans h
   letI : Rnd:=aft zfs
   refine WC.b (WC.b (WC.a ?_))
   refine WL.a (d:=35) rfl rfl rfl (y4 y48 rfl rfl) ?_
   refine WL.a (d:=36) rfl rfl rfl (yc y3s rfl (yp .h2 rfl)) ?_
   refine WL.pu rfl (WL.nil (WX.a ?_))
   refine WC.cond rfl (fun zlA=>?_) (fun zlA=>?_)
   ·replace h:=yd h zlA
    refine WC.b ?_
    refine WC.yH (fun i=>[3].contains i) [stbp z2m 87 [(0,(.int .i64 z6R))]] rfl ?_
    refine WD.a (i:=0) (d:=38) (by kernel_rfl) rfl z6 z7 rfl rfl rfl (fun _=>yz (v:=(.agg #[(.int .i64 0),(.int .i64 0)])) (Eos.parts (l:=[]) .nil []) (fun _=>by kernel_rfl)) ?_
    refine WD.a (i:=1) (d:=39) (by kernel_rfl) rfl z6 z7 rfl rfl rfl (fun _=>y4 y48 rfl rfl) ?_
    refine WD.y2u (i:=2) (d:=40) (by kernel_rfl) rfl z6 z7 rfl rfl rfl (Sin.wk (.cons .h2 .nil) (.stb (.cons rfl .nil) .nil)) (yc y3s rfl (y8P .here (.head _))) ?_
    refine WD.forced0 (i:=3) rfl (by kernel_rfl) rfl rfl rfl (Sin.wk (.cons .h2 .nil) (.stb (.cons rfl .nil) .nil)) (ya yh rfl rfl rfl .h1 rfl rfl rfl) ?_
    refine WD.a (i:=4) (d:=3) (by kernel_rfl) rfl z6 z7 rfl rfl rfl (fun _=>q_z rfl) ?_
    refine WD.done (by kernel_rfl) ?_
    refine WX.a (WC.ret (WX.y6 ?_))
    obtain rfl:=Option.some.inj h
    refine WX.y5J .h5 Tryz.results35 (.agg rfl y5 rfl (y7 .h1) (.tmp rfl .nil)) (fun w hw=>?_)
    exact ⟨zba,yF rfl rfl,trivial,hw.sub (.cons .h2 .nil)⟩
   ·replace h:=ye h zlA
    refine WC.skip (WX.a (WC.b ?_))
    obtain ⟨zfy,h⟩:=yj h
    refine WC.a ?_
    refine WL.a (d:=41) rfl rfl rfl (yc y4r rfl (yp .h3 rfl)) ?_
    refine WL.know (fun w hw=>Hp.y3y .h4 hw (by intro hz'; have:=zfy; rw [hz'] at this; omega)) ?_
    rintro ⟨zJ5,rfl⟩
    refine WL.a (d:=42) rfl rfl rfl (y11 yK rfl rfl zfy.1 zfy.2 y3x) ?_
    refine WL.a (d:=43) rfl rfl rfl (ys (cs:=(e40 (nth z4K 0))) y5 rfl rfl (y3B .h4 (y2A (enc:=e40) (l:=z4K) (i:=0) (sz:=2) (fun _=>rfl) zfy.1 zfy.2))) ?_
    refine WL.yb rfl rfl (ya yh rfl rfl rfl .h1 rfl rfl rfl) ?_
    refine WL.pu rfl (WL.nil (WX.a (WC.ret ?_)))
    obtain rfl:=Option.some.inj h
    refine WX.y5J .h5 Tryz.results35 (.agg rfl y5 rfl (y7 .h1) (.tmp rfl .nil)) (fun w hw=>?_)
    exact ⟨zba,yF rfl rfl,trivial,hw.sub (.cons .h2 .nil)⟩
def y2O (z6o : List (List z2)) (z1F : S41) : Option (z1 × Int) :=
 (y2Y z6o z1F z6o z1F []).bind fun zlB=>some (zlB.1,zlB.2)
set_option maxRecDepth 20000 in
theorem y4E (Z : Zp) (zbc : Option Addr) (zbd : Nat) (z6o : List (List z2)) (z1F : S41) (r : z1 × Int)
  (h : y2O z6o z1F = some r) (w₀ : World) (hz : PZ [] w₀ Z)
  (zsn : ZS Z 1 (p23 Z) zbc zbd z6o) :
  Calls Tryz.prog 11 #[(.slice zbc z6o.length zbd),(.agg #[(.int .i64 z1F.fR.fN),(.int .i64 z1F.fR.fD),(.int .i64 z1F.fL.fN),(.int .i64 z1F.fL.fD)])] w₀ fun e w'=>∃ Zn : Zp,e = .returned (.tuple #[(.agg #[(.int .i64 r.1.fN),(.int .i64 r.1.fD)]),(.int .i64 r.2)]) ∧ True ∧ Hp [] w₀ w' [fz Zn]:=by
 unfold y2O at h
 refine Calls.yg (vs:=[(.slice zbc z6o.length zbd),(.agg #[(.int .i64 z1F.fR.fN),(.int .i64 z1F.fR.fD),(.int .i64 z1F.fL.fN),(.int .i64 z1F.fL.fD)])]) (pre:=[]) (env:=[(0,(.slice zbc z6o.length zbd)),(1,(.agg #[(.int .i64 z1F.fR.fN),(.int .i64 z1F.fR.fD),(.int .i64 z1F.fL.fN),(.int .i64 z1F.fL.fD)]))]) Tryz.func11 rfl Tryz.ntmps11 rfl (Hp.nil w₀ _) rfl ?_
 refine WC.pool (WC.b (WC.a ?_))
 refine WL.new (dd:=2) rfl rfl rfl (yx (cs:=[(.slice zbc z6o.length zbd)]) rfl rfl) ?_
 intro zAx _
 refine WL.new (dd:=3) rfl rfl rfl (yx (cs:=[(.int .i64 z1F.fR.fN),(.int .i64 z1F.fR.fD),(.int .i64 z1F.fL.fN),(.int .i64 z1F.fL.fD)]) rfl rfl) ?_
 intro zAy _
 refine WL.new (dd:=4) rfl rfl rfl (yk (cs:=[(.int .i64 0),(.int .i64 0)]) yo rfl) ?_
 intro zJ6 _
 refine WL.pu rfl (WL.nil (WX.a (WC.b (WC.a ?_))))
 refine WL.a (d:=7) rfl rfl rfl (yc y47 rfl (yp .h2 rfl)) ?_
 refine WL.a (d:=8) rfl rfl rfl (y9 y15 rfl (y7 .h1) rfl) ?_
 refine WL.a (d:=9) rfl rfl rfl (yz (v:=(.agg #[(.slice zbc z6o.length zbd),(.int .i64 z1F.fR.fN),(.int .i64 z1F.fR.fD),(.int .i64 z1F.fL.fN),(.int .i64 z1F.fL.fD),.nilFunc,(.slice none 0 0)])) (Eos.parts (l:=[.tmp 7,.tmp 8]) (.cons rfl (.cons rfl .nil)) [0,1]) (fun _=>by kernel_rfl)) ?_
 refine WL.new (dd:=6) rfl rfl rfl (yk (cs:=[(.slice none 0 0),(.int .i64 0),(.int .i64 0),(.int .i64 0),(.int .i64 0),.nilFunc,(.slice none 0 0)]) yaU rfl) ?_
 intro zJ7 _
 refine WL.yb rfl rfl (ya ybF rfl rfl rfl .here rfl rfl rfl) ?_
 refine WL.nil (WX.a (WC.b (WC.a ?_)))
 refine WL.a (d:=10) rfl rfl rfl (y1i (Eos.caps (l:=[.tmp 2,.tmp 3]) (.cons rfl (.cons rfl .nil)))) ?_
 refine WL.a (d:=11) rfl rfl rfl (y4 y8S rfl rfl) ?_
 refine WL.yb rfl rfl (y9l (ds:=[(.slice zbc z6o.length zbd),(.int .i64 z1F.fR.fN),(.int .i64 z1F.fR.fD),(.int .i64 z1F.fL.fN),(.int .i64 z1F.fL.fD),(.func (.func 29) #[] #[(.pointer (some ⟨zAx,0,none⟩)),(.pointer (some ⟨zAy,0,none⟩))]),(.slice none 0 0)]) ybG rfl rfl rfl rfl rfl .here rfl rfl) ?_
 refine WL.nil (WX.a (WC.b ?_))
 obtain ⟨zlB,zAz,h⟩:=z8 h
 refine WC.a ?_
 refine WL.a (d:=12) rfl rfl rfl (y9 y70 rfl (y7 .here) rfl) ?_
 refine WL.freezeC (Z:=Z) .h3 .h3 ?_
 intro zJ8 zhP zAA
 refine WL.freezeC (Z:=Z) .h3 .here ?_
 intro zAB zfz zAC
 refine WL.y2v (dd:=13) rfl rfl rfl (za (l:=[.tmp 12]) Tryz.call35 (.cons rfl .nil)) .nil (ccz hz .nil .here fun w pz ho=>y7L _ _ _ _ _ _ _ _ _ _ _ _ _ _ _ zAz w pz ((zsn.mono ((Zle.left _ _).trans (zhP.trans zfz))).weak (fun _ _ h=>yG ((Zle.left _ _).trans (zhP.trans zfz)) h)) ((zsn.mono ((Zle.left _ _).trans (zhP.trans zfz))).weak (fun _ _ h=>yG ((Zle.left _ _).trans (zhP.trans zfz)) h)) (zAA.mono zfz) zAC (ZS.nil _ _ _)) ?_
 rintro zAD _
 refine WL.merge .here .here ?_
 refine WL.pu rfl (WL.pu rfl ?_)
 refine WL.yb rfl rfl (ya yh rfl rfl rfl .h2 rfl rfl rfl) ?_
 refine WL.pu rfl (WL.nil (WX.a (WC.ret ?_)))
 obtain rfl:=Option.some.inj h
 refine WX.y8 Tryz.results11 (.agg rfl y5 rfl (y7 .here) (.tmp rfl .nil)) (fun w hw=>?_)
 exact ⟨(zAB ++ zAD),yF rfl rfl,trivial,hw.sub (.cons .h1 .nil)⟩
def y1p (z2n : List (List z2)) (z81 : Int → Int → Int → Option Int) : Nat → Int → Int → Int → Int → Option Int
 | 0,_,_,_,_=>none
 | zlC + 1,z42,z5Q,z5R,z5S=>if decide (z42 < ((z2n.length : Nat) : Int)) then chk ((0 : Int) ≤ z42 ∧ z42 < ((z2n.length : Nat) : Int)) ((y1k (nth z2n z42)).bind fun zlD=>if decide (zlD.2 ≠ 0) then some zlD.2 else (y2C (nth z2n z42)).bind fun zso=>(yO (⟨z5Q⟩ : zV) (fun (y0 : z1) (y1 : z1)=>y1o y0 y1) (⟨z5R,z5S⟩ : z1) zso.1).bind fun zbe=>y1p z2n z81 zlC (i64 (z42 + 1)) zbe.2.fE zbe.1.fN zbe.1.fD) else z81 z5Q z5R z5S
theorem y5F {n : Nat} {z2n : List (List z2)} {z81 : Int → Int → Int → Option Int} {z42 : Int} {z5Q : Int} {z5R : Int} {z5S : Int} {r : Int} (h : y1p z2n z81 n z42 z5Q z5R z5S = some r) : ∃ m,n = m + 1:=by
 cases n with
 | zero=>cases h
 | succ m=>exact ⟨m,rfl⟩
def y2h (z2n : List (List z2)) (z1i : S41) (zhQ : List (List z2)) (zd1 : S41) (z82 : List z1) : Option Int :=
 (if decide (((z2n.length : Nat) : Int) > 32) then some true else (yV z2n (fun (y0 : List z2)=>y17 y0)).bind fun zsp=>some zsp).bind fun zlE=>(if zlE then some true else (y1Y z1i).bind fun zsq=>some (!zsq)).bind fun zlF=>if zlF then some 2 else (y1U).bind fun zfA=>jp3 (fun (z83 : Int) (z9B : Int) (z9C : Int)=>(if decide (z83 = 0) then (yM (⟨z9B,z9C⟩ : z1) z1i.fR).bind fun zsr=>some (decide (zsr > 0)) else some false).bind fun zlG=>if zlG then some 6 else some z83) fun z81=>y1p z2n z81 yu 0 0 zfA.fN zfA.fD
set_option maxRecDepth 20000 in
theorem y7c (Z : Zp) (z9D : Option Addr) (z9E : Nat) (zbf : Addr) (zss : Option Addr) (zst : Nat) (zbg : Addr) (zbh : Option Addr) (zbi : Nat) (z2n : List (List z2)) (z1i : S41) (zhQ : List (List z2)) (zd1 : S41) (z82 : List z1) (r : Int)
  (h : y2h z2n z1i zhQ zd1 z82 = some r) (w₀ : World) (hz : PZ [] w₀ Z)
  (zsu : ZS Z 1 (p23 Z) z9D z9E z2n)
  (zJ9 : ZS Z 1 (p23 Z) zss zst zhQ)
  (zJa : ZC Z zbf [(.slice zss zhQ.length zst)])
  (zJb : ZC Z zbg [(.int .i64 zd1.fR.fN),(.int .i64 zd1.fR.fD),(.int .i64 zd1.fL.fN),(.int .i64 zd1.fL.fD)])
  (zJc : ZS Z 2 (fun r x=>r = e40 x) zbh zbi z82) :
  Calls Tryz.prog 54 #[(.agg #[(.slice z9D z2n.length z9E),(.int .i64 z1i.fR.fN),(.int .i64 z1i.fR.fD),(.int .i64 z1i.fL.fN),(.int .i64 z1i.fL.fD),(.func (.func 38) #[] #[(.pointer (some zbf)),(.pointer (some zbg))]),(.slice zbh z82.length zbi)])] w₀ fun e w'=>∃ Zn : Zp,e = .returned (.int .i64 r) ∧ True ∧ Hp [] w₀ w' [fz Zn]:=by
 unfold y2h at h
 refine Calls.yg (vs:=[(.agg #[(.slice z9D z2n.length z9E),(.int .i64 z1i.fR.fN),(.int .i64 z1i.fR.fD),(.int .i64 z1i.fL.fN),(.int .i64 z1i.fL.fD),(.func (.func 38) #[] #[(.pointer (some zbf)),(.pointer (some zbg))]),(.slice zbh z82.length zbi)])]) (pre:=[]) (env:=[(0,(.agg #[(.slice z9D z2n.length z9E),(.int .i64 z1i.fR.fN),(.int .i64 z1i.fR.fD),(.int .i64 z1i.fL.fN),(.int .i64 z1i.fL.fD),(.func (.func 38) #[] #[(.pointer (some zbf)),(.pointer (some zbg))]),(.slice zbh z82.length zbi)]))]) Tryz.func54 rfl Tryz.ntmps54 rfl (Hp.nil w₀ _) rfl ?_
 refine WC.pool (WC.b (WC.a ?_))
 refine WL.new (dd:=1) rfl rfl rfl (yx (cs:=[(.slice z9D z2n.length z9E),(.int .i64 z1i.fR.fN),(.int .i64 z1i.fR.fD),(.int .i64 z1i.fL.fN),(.int .i64 z1i.fL.fD),(.func (.func 38) #[] #[(.pointer (some zbf)),(.pointer (some zbg))]),(.slice zbh z82.length zbi)]) rfl rfl) ?_
 intro zhR _
 refine WL.pu rfl (WL.nil (WX.a (WC.b (WC.b ?_))))
 obtain ⟨zlE,zsv,h⟩:=z8 h
 obtain ⟨zlF,zsw,h⟩:=z8 h
 refine WC.a ?_
 refine WL.a (d:=11) rfl rfl rfl (y4 y5K rfl rfl) ?_
 refine WL.a (d:=12) rfl rfl rfl (yc y47 rfl (yp .here rfl)) ?_
 refine WL.a (d:=13) rfl rfl rfl (yP Tryz.underlying38 rfl) ?_
 refine WL.pu rfl (WL.pu rfl ?_)
 refine WL.seg false 3 15 (B:=zlE) rfl rfl rfl rfl rfl rfl (fun h=>(Option.some.inj (yd zsv h)).symm) (fun _ zAE=>?_) ?_
 ·skip
  have zfB:=ye zsv zAE
  obtain ⟨zsp,zAF,zfB⟩:=z8 zfB
  replace zfB:=Option.some.inj zfB
  refine WL.a (d:=16) rfl rfl rfl (y4 y5K rfl rfl) ?_
  refine WL.a (d:=17) rfl rfl rfl (yc y47 rfl (yp .here rfl)) ?_
  refine WL.b (dd:=18) rfl rfl rfl (za (l:=[.tmp 17,.func 75]) Tryz.call74 (.cons rfl (.cons rfl .nil))) .nil (ccz hz .nil .h1 fun w pz ho=>y34 _ _ _ (z7j:=75) (zaA:=[]) _ (zaz:=(fun (y0 : List z2)=>y17 y0)) _ zAF w pz ((zsu.mono (Zle.left _ _)).weak (fun _ _ h=>yG (Zle.left _ _) h)) Tryz.call75 (fun w' hz' y0 ga0 gc0 r gh0 hr=>y4S _ _ _ _ _ hr w' hz' gh0)) ?_
  refine WL.pu rfl ?_
  exact WL.yw zfB rfl rfl .all
 refine WL.pu rfl ?_
 refine WL.seg false 4 20 (B:=zlF) rfl rfl rfl rfl rfl rfl (fun h=>(Option.some.inj (yd zsw h)).symm) (fun _ zAG=>?_) ?_
 ·skip
  have zfC:=ye zsw zAG
  obtain ⟨zsq,zAH,zfC⟩:=z8 zfC
  replace zfC:=Option.some.inj zfC
  refine WL.a (d:=21) rfl rfl rfl (y4 y8T rfl rfl) ?_
  refine WL.a (d:=22) rfl rfl rfl (ys (cs:=[(.int .i64 z1i.fR.fN),(.int .i64 z1i.fR.fD),(.int .i64 z1i.fL.fN),(.int .i64 z1i.fL.fD)]) y15 rfl rfl (yW (s:=4) .here rfl)) ?_
  refine WL.b (dd:=23) rfl rfl rfl (za (l:=[.tmp 22]) Tryz.call17 (.cons rfl .nil)) .nil (ccz hz .nil .h1 fun w pz ho=>y3Z _ _ _ zAH w pz ) ?_
  refine WL.pu rfl (WL.pu rfl ?_)
  exact WL.yw zfC rfl rfl .all
 refine WL.nil (WX.a ?_)
 refine WC.cond rfl (fun zlH=>?_) (fun zlH=>?_)
 ·replace h:=yd h zlH
  refine WC.b (WC.a (WL.pu rfl (WL.nil (WX.a (WC.ret (WX.y6 ?_))))))
  obtain rfl:=Option.some.inj h
  refine WX.y8 Tryz.results54 (.tmp rfl .nil) (fun w hw=>?_)
  exact ⟨[],yD rfl,trivial,hw.sub (.cons .h1 .nil)⟩
 ·replace h:=ye h zlH
  refine WC.skip (WX.a (WC.b (WC.a ?_)))
  refine WL.new (dd:=3) rfl rfl rfl (yk (cs:=[(.int .i64 0)]) y87 rfl) ?_
  intro zhS _
  refine WL.nil (WX.a (WC.b ?_))
  obtain ⟨zfA,zAI,h⟩:=z8 h
  refine WC.a ?_
  refine WL.b (dd:=26) rfl rfl rfl (za (l:=[]) Tryz.call52 .nil) .nil (ccz hz .nil .h2 fun w pz ho=>y37 _ _ zAI w pz ) ?_
  refine WL.new (dd:=4) rfl rfl rfl (yk (cs:=[(.int .i64 0),(.int .i64 0)]) yo rfl) ?_
  intro zhT _
  refine WL.yb rfl rfl (ya yh rfl rfl rfl .here rfl rfl rfl) ?_
  refine WL.nil (WX.a ?_)
  obtain ⟨z81,zAJ,h⟩:=y9h h
  refine WC.y3P (fun (z83 : Int) (z9B : Int) (z9C : Int) (zbj : Zp)=>(z81 z83 z9B z9C = some r) ∧ (Zle (Z ++ []) (Z ++ zbj))) (fun (z83 : Int) (z9B : Int) (z9C : Int) (zbj : Zp)=>[(1,(.pointer (some ⟨zhR,0,none⟩))),(3,(.pointer (some ⟨zhS,0,none⟩))),(4,(.pointer (some ⟨zhT,0,none⟩)))]) (fun (z83 : Int) (z9B : Int) (z9C : Int) (zbj : Zp)=>[fz zbj,stb zhR 67 [(.slice z9D z2n.length z9E),(.int .i64 z1i.fR.fN),(.int .i64 z1i.fR.fD),(.int .i64 z1i.fL.fN),(.int .i64 z1i.fL.fD),(.func (.func 38) #[] #[(.pointer (some zbf)),(.pointer (some zbg))]),(.slice zbh z82.length zbi)],stb zhS 87 [(.int .i64 z83)],stb zhT 40 [(.int .i64 z9B),(.int .i64 z9C)]]) ?_ ?_
  ·skip
   refine WC.b (WC.a ?_)
   refine WL.a (d:=27) rfl rfl rfl (y4 y5K rfl rfl) ?_
   refine WL.a (d:=28) rfl rfl rfl (yc y47 rfl (yp .h2 rfl)) ?_
   refine WL.a (d:=29) rfl rfl rfl (yP Tryz.underlying38 rfl) ?_
   refine WL.pu rfl (WL.nil (WX.a (WC.block ?_)))
   refine WC.y4V (fun (zd2 : Nat) (z42 : Int) (z5Q : Int) (z5R : Int) (z5S : Int) (z6p : Zp)=>(y1p z2n z81 zd2 z42 z5Q z5R z5S = some r) ∧ (Zle (Z ++ []) (Z ++ z6p))) (fun (zd2 : Nat) (z42 : Int) (z5Q : Int) (z5R : Int) (z5S : Int) (z6p : Zp)=>[(1,(.pointer (some ⟨zhR,0,none⟩))),(3,(.pointer (some ⟨zhS,0,none⟩))),(4,(.pointer (some ⟨zhT,0,none⟩))),(28,(.slice z9D z2n.length z9E)),(29,(.int .i64 ((z2n.length : Nat) : Int))),(30,(.int .i64 z42))]) (fun (zd2 : Nat) (z42 : Int) (z5Q : Int) (z5R : Int) (z5S : Int) (z6p : Zp)=>[fz z6p,stb zhR 67 [(.slice z9D z2n.length z9E),(.int .i64 z1i.fR.fN),(.int .i64 z1i.fR.fD),(.int .i64 z1i.fL.fN),(.int .i64 z1i.fL.fD),(.func (.func 38) #[] #[(.pointer (some zbf)),(.pointer (some zbg))]),(.slice zbh z82.length zbi)],stb zhS 87 [(.int .i64 z5Q)],stb zhT 40 [(.int .i64 z5R),(.int .i64 z5S)]]) (fun (zd2 : Nat) (z42 : Int) (z5Q : Int) (z5R : Int) (z5S : Int) (z6p : Zp)=>zd2) ⟨yu,0,0,zfA.fN,zfA.fD,[]⟩ ⟨h,(Zle.refl _)⟩ (.cons rfl (.cons rfl (.cons rfl (.cons rfl (.cons rfl (.cons rfl .nil)))))) (.cons .h3 (.cons .h2 (.cons .h1 (.cons .here .nil)))) ?_
   rintro zd2 z42 z5Q z5R z5S z6p ⟨h,zhU⟩
   obtain ⟨zlC,rfl⟩:=y5F h
   rw [y1p] at h
   refine WC.b (WC.a (WL.pu rfl (WL.nil (WX.a (WC.b ?_)))))
   refine WC.cond rfl (fun zlI=>?_) (fun zlI=>?_)
   ·replace h:=yd h zlI
    refine WC.skip (WX.a (WC.b (WC.block (WC.b ?_))))
    obtain ⟨zAK,h⟩:=yj h
    refine WC.a ?_
    refine WL.znth (dd:=32) rfl rfl (Z:=(Z ++ z6p)) (Pr:=(p23 (Z ++ z6p))) y3X rfl rfl ((zsu.mono ((Zle.left _ _).trans zhU)).weak (fun _ _ h=>yG ((Zle.left _ _).trans zhU) h)) zAK ?_
    rintro zJd zJe zAL zJf ⟨zJg,zJh,rfl,zsx⟩
    refine WL.a (d:=33) rfl rfl rfl (yc y3S rfl (y4X (hz.pv2 .here) zAL rfl)) ?_
    refine WL.pu rfl (WL.nil (WX.a (WC.b (WC.b ?_))))
    obtain ⟨zlD,zAM,h⟩:=z8 h
    refine WC.a (WL.pu rfl ?_)
    refine WL.y4e (dd:=36) rfl rfl rfl (za (l:=[.tmp 35]) Tryz.call76 (.cons rfl .nil)) .nil (ccz hz .nil .here fun w pz ho=>y5d _ _ _ _ _ zAM w pz zsx) ?_
    rintro zsy zJi zJj _
    refine WL.merge .here .h1 ?_
    refine WL.pu rfl (WL.pu rfl (WL.pu rfl (WL.pu rfl (WL.pu rfl (WL.nil (WX.a (WC.b (WC.a (WL.pu rfl (WL.pu rfl (WL.nil (WX.a ?_))))))))))))
    refine WC.cond rfl (fun zlJ=>?_) (fun zlJ=>?_)
    ·replace h:=yd h zlJ
     refine WC.b (WC.a (WL.pu rfl (WL.pu rfl (WL.nil (WX.a (WC.ret (WX.y6 (WX.yl (WX.y6 (WX.y6 (WX.yl (WX.y6 ?_))))))))))))
     obtain rfl:=Option.some.inj h
     refine WX.y8 Tryz.results54 (.tmp rfl .nil) (fun w hw=>?_)
     exact ⟨(z6p ++ zsy),yD rfl,trivial,hw.sub (.cons .here .nil)⟩
    ·replace h:=ye h zlJ
     refine WC.skip (WX.a (WC.b ?_))
     obtain ⟨zso,zAN,h⟩:=z8 h
     refine WC.a (WL.pu rfl ?_)
     refine WL.b (dd:=44) rfl rfl rfl (za (l:=[.tmp 43]) Tryz.call77 (.cons rfl .nil)) .nil (ccz hz .nil .here fun w pz ho=>y8C _ _ _ _ _ zAN w pz (zsx.mono ((Zle.left _ _).trans (Zle.yn _ _ _)))) ?_
     refine WL.pu rfl (WL.pu rfl (WL.pu rfl ?_))
     refine WL.new (dd:=9) rfl rfl rfl (yk (cs:=[(.int .i64 0),(.int .i64 0)]) yo rfl) ?_
     intro zJk _
     refine WL.yb rfl rfl (ya yh rfl rfl rfl .here rfl rfl rfl) ?_
     refine WL.pu rfl (WL.nil (WX.a ?_))
     obtain ⟨zbe,zAO,h⟩:=z8 h
     refine WC.a ?_
     refine WL.a (d:=47) rfl rfl rfl (y9 y5 rfl (y7 .h5) rfl) ?_
     refine WL.a (d:=48) rfl rfl rfl (y9 y5 rfl (y7 .here) rfl) ?_
     refine WL.b (dd:=49) rfl rfl rfl (za (l:=[.tmp 3,.func 31,.tmp 47,.tmp 48]) Tryz.call30 (.cons rfl (.cons rfl (.cons rfl (.cons rfl .nil))))) (.cons .h4 .nil) (ccz hz (.cons .h4 .nil) .h1 fun w pz ho=>y1M _ _ (z3X:=31) (z4F:=[]) _ (z5b:=(fun (y0 : z1) (y1 : z1)=>y1o y0 y1)) _ _ _ zAO w pz Tryz.call31 (fun w' hz' y0 y1  r  hr=>y5N _ _ _ _ hr w' hz' ) ho) ?_
     refine WL.yb rfl rfl (ya yh rfl rfl rfl .h5 rfl rfl rfl) ?_
     refine WL.nil (WX.yi (WX.a (WC.a (WL.pu rfl (WL.pu rfl (WL.nil ?_))))))
     exact WX.round (G:=Nat × Int × Int × Int × Int × Zp) ⟨zlC,(i64 (z42 + 1)),zbe.2.fE,zbe.1.fN,zbe.1.fD,(z6p ++ zsy)⟩ ⟨h,(zhU.trans ((Zle.left _ _).trans (Zle.yn _ _ _)))⟩ (Nat.lt_succ_self _) (.cons rfl (.cons rfl (.cons rfl (.cons rfl (.cons rfl (.cons rfl .nil)))))) (.cons .h3 (.cons .h4 (.cons .h1 (.cons .here .nil))))
   ·replace h:=ye h zlI
    refine WC.exit (WX.yf (WX.yf (WX.yv ?_)))
    exact WX.mid (G:=Int × Int × Int × Zp) ⟨z5Q,z5R,z5S,z6p⟩ ⟨h,zhU⟩ (.cons rfl (.cons rfl (.cons rfl .nil))) (.cons .here (.cons .here (.cons .here (.cons .here .nil))))
  ·rintro z83 z9B z9C zbj ⟨h,zJl⟩
   replace h:=(zAJ z83 z9B z9C).symm.trans h
   refine WC.b (WC.b ?_)
   obtain ⟨zlG,zsz,h⟩:=z8 h
   refine WC.a ?_
   refine WL.a (d:=51) rfl rfl rfl (y4 y48 rfl rfl) ?_
   refine WL.a (d:=52) rfl rfl rfl (yc y3s rfl (yp .h2 rfl)) ?_
   refine WL.pu rfl (WL.pu rfl ?_)
   refine WL.seg true 6 54 (B:=zlG) rfl rfl rfl rfl rfl rfl (fun h=>(Option.some.inj (ye zsz h)).symm) (fun _ zAP=>?_) ?_
   ·skip
    have zfD:=yd zsz zAP
    obtain ⟨zsr,zAQ,zfD⟩:=z8 zfD
    replace zfD:=Option.some.inj zfD
    refine WL.a (d:=55) rfl rfl rfl (y9 y5 rfl (y7 .h3) rfl) ?_
    refine WL.a (d:=56) rfl rfl rfl (y4 y8T rfl rfl) ?_
    refine WL.a (d:=57) rfl rfl rfl (y4 y2U rfl rfl) ?_
    refine WL.a (d:=58) rfl rfl rfl (ys (cs:=[(.int .i64 z1i.fR.fN),(.int .i64 z1i.fR.fD)]) y5 rfl rfl (yW (s:=2) .h1 rfl)) ?_
    refine WL.b (dd:=59) rfl rfl rfl (za (l:=[.tmp 55,.tmp 58]) Tryz.call24 (.cons rfl (.cons rfl .nil))) .nil (ccz hz .nil .here fun w pz ho=>y2w _ _ _ _ zAQ w pz ) ?_
    refine WL.pu rfl (WL.pu rfl ?_)
    exact WL.yw zfD rfl rfl .all
   refine WL.nil (WX.a ?_)
   refine WC.cond rfl (fun zlK=>?_) (fun zlK=>?_)
   ·replace h:=yd h zlK
    refine WC.b (WC.a (WL.pu rfl (WL.nil (WX.a (WC.ret (WX.y6 ?_))))))
    obtain rfl:=Option.some.inj h
    refine WX.y8 Tryz.results54 (.tmp rfl .nil) (fun w hw=>?_)
    exact ⟨zbj,yD rfl,trivial,hw.sub (.cons .here .nil)⟩
   ·replace h:=ye h zlK
    refine WC.skip (WX.a (WC.b (WC.a ?_)))
    refine WL.a (d:=62) rfl rfl rfl (y4 y48 rfl rfl) ?_
    refine WL.a (d:=63) rfl rfl rfl (yc y3s rfl (yp .h2 rfl)) ?_
    refine WL.pu rfl (WL.nil (WX.a (WC.ret ?_)))
    obtain rfl:=Option.some.inj h
    refine WX.y8 Tryz.results54 (.tmp rfl .nil) (fun w hw=>?_)
    exact ⟨zbj,yD rfl,trivial,hw.sub (.cons .here .nil)⟩
def y32 (z9F : List (List z2)) (z2C : S41) (zhV : List (List z2)) (zd3 : S41) (z9G : List z1) : Option (Int × Int × Int × Int) :=
 some (z2C.fR.fN,z2C.fR.fD,z2C.fL.fN,z2C.fL.fD)
set_option maxRecDepth 20000 in
theorem y6R (Z : Zp) (zd4 : Option Addr) (zd5 : Nat) (zd6 : Addr) (zsA : Option Addr) (zsB : Nat) (zd7 : Addr) (zd8 : Option Addr) (zd9 : Nat) (z9F : List (List z2)) (z2C : S41) (zhV : List (List z2)) (zd3 : S41) (z9G : List z1) (r : Int × Int × Int × Int)
  (h : y32 z9F z2C zhV zd3 z9G = some r) (w₀ : World) (hz : PZ [] w₀ Z)
  (zJm : ZS Z 1 (p23 Z) zd4 zd5 z9F)
  (zJn : ZS Z 1 (p23 Z) zsA zsB zhV)
  (zJo : ZC Z zd6 [(.slice zsA zhV.length zsB)])
  (zJp : ZC Z zd7 [(.int .i64 zd3.fR.fN),(.int .i64 zd3.fR.fD),(.int .i64 zd3.fL.fN),(.int .i64 zd3.fL.fD)])
  (zJq : ZS Z 2 (fun r x=>r = e40 x) zd8 zd9 z9G) :
  Calls Tryz.prog 55 #[(.agg #[(.slice zd4 z9F.length zd5),(.int .i64 z2C.fR.fN),(.int .i64 z2C.fR.fD),(.int .i64 z2C.fL.fN),(.int .i64 z2C.fL.fD),(.func (.func 38) #[] #[(.pointer (some zd6)),(.pointer (some zd7))]),(.slice zd8 z9G.length zd9)])] w₀ fun e w'=>∃ zsC : Nat,e = .returned (.func (.func 78) #[] #[(.pointer (some ⟨zsC,0,none⟩))]) ∧ True ∧ Hp [] w₀ w' [stb zsC 67 [(.slice zd4 z9F.length zd5),(.int .i64 r.1),(.int .i64 r.2.1),(.int .i64 r.2.2.1),(.int .i64 r.2.2.2),(.func (.func 38) #[] #[(.pointer (some zd6)),(.pointer (some zd7))]),(.slice zd8 z9G.length zd9)]]:=by
 unfold y32 at h
 refine Calls.yg (vs:=[(.agg #[(.slice zd4 z9F.length zd5),(.int .i64 z2C.fR.fN),(.int .i64 z2C.fR.fD),(.int .i64 z2C.fL.fN),(.int .i64 z2C.fL.fD),(.func (.func 38) #[] #[(.pointer (some zd6)),(.pointer (some zd7))]),(.slice zd8 z9G.length zd9)])]) (pre:=[]) (env:=[(0,(.agg #[(.slice zd4 z9F.length zd5),(.int .i64 z2C.fR.fN),(.int .i64 z2C.fR.fD),(.int .i64 z2C.fL.fN),(.int .i64 z2C.fL.fD),(.func (.func 38) #[] #[(.pointer (some zd6)),(.pointer (some zd7))]),(.slice zd8 z9G.length zd9)]))]) Tryz.func55 rfl Tryz.ntmps55 rfl (Hp.nil w₀ _) rfl ?_
 refine WC.b (WC.a ?_)
 refine WL.new (dd:=1) rfl rfl rfl (yx (cs:=[(.slice zd4 z9F.length zd5),(.int .i64 z2C.fR.fN),(.int .i64 z2C.fR.fD),(.int .i64 z2C.fL.fN),(.int .i64 z2C.fL.fD),(.func (.func 38) #[] #[(.pointer (some zd6)),(.pointer (some zd7))]),(.slice zd8 z9G.length zd9)]) rfl rfl) ?_
 intro zAR _
 refine WL.pu rfl (WL.nil (WX.a (WC.b (WC.a ?_))))
 refine WL.a (d:=3) rfl rfl rfl (y1i (Eos.caps (l:=[.tmp 1]) (.cons rfl .nil))) ?_
 refine WL.pu rfl (WL.nil (WX.a (WC.ret ?_)))
 obtain rfl:=Option.some.inj h
 refine WX.y8 Tryz.results55 (.tmp rfl .nil) (fun w hw=>?_)
 exact ⟨zAR,yD rfl,trivial,hw.sub (.cons .here .nil)⟩
def y1b (zh : Type) (z1Y : List z1 × Int) (z1J : z1 → zh → Option (Bool × zh)) (z84 : zh → Option zh) : Nat → Int → zh → Option zh
 | 0,_,_=>none
 | zlL + 1,z2o,z43=>if decide (z2o < ((z1Y.1.length : Nat) : Int)) then chk ((0 : Int) ≤ z2o ∧ z2o < ((z1Y.1.length : Nat) : Int)) ((y1s (⟨((nth z1Y.1 z2o).fN),((nth z1Y.1 z2o).fD)⟩ : z1)).bind fun zsD=>(y13 zsD).bind fun zlM=>(z1J zlM z43).bind fun z6S=>(if !z6S.1 then some (true,z6S.2) else (y1N (⟨((nth z1Y.1 z2o).fN),((nth z1Y.1 z2o).fD)⟩ : z1)).bind fun zsE=>(y13 zsE).bind fun zlN=>(z1J zlN z6S.2).bind fun zfE=>some (!zfE.1,zfE.2)).bind fun z9H=>if z9H.1 then some z9H.2 else y1b zh z1Y z1J z84 zlL (i64 (z2o + 1)) z9H.2) else z84 z43
theorem y5e {n : Nat} {zh : Type} {z1Y : List z1 × Int} {z1J : z1 → zh → Option (Bool × zh)} {z84 : zh → Option zh} {z2o : Int} {z43 : zh} {r : zh} (h : y1b zh z1Y z1J z84 n z2o z43 = some r) : ∃ m,n = m + 1:=by
 cases n with
 | zero=>cases h
 | succ m=>exact ⟨m,rfl⟩
def y1c (zh : Type) (z28 : List (List z2)) (z1J : z1 → zh → Option (Bool × zh)) (z85 : zh → Option zh) : Nat → Int → zh → Option zh
 | 0,_,_=>none
 | zlO + 1,z3n,z4M=>if decide (z3n < ((z28.length : Nat) : Int)) then jp1 (fun (z6T : zh)=>y1c zh z28 z1J z85 zlO (i64 (z3n + 1)) z6T) fun zlP=>chk ((0 : Int) ≤ z3n ∧ z3n < ((z28.length : Nat) : Int)) ((y1k (nth z28 z3n)).bind fun z1Y=>jp1 (fun (z6U : zh)=>zlP z6U) fun z84=>y1b zh z1Y z1J z84 yu 0 z4M) else z85 z4M
theorem y5f {n : Nat} {zh : Type} {z28 : List (List z2)} {z1J : z1 → zh → Option (Bool × zh)} {z85 : zh → Option zh} {z3n : Int} {z4M : zh} {r : zh} (h : y1c zh z28 z1J z85 n z3n z4M = some r) : ∃ m,n = m + 1:=by
 cases n with
 | zero=>cases h
 | succ m=>exact ⟨m,rfl⟩
def y1d (zh : Type) (z2p : List z1) (z1J : z1 → zh → Option (Bool × zh)) (z86 : zh → Option zh) : Nat → Int → zh → Option zh
 | 0,_,_=>none
 | zlQ + 1,z2W,z44=>if decide (z2W < ((z2p.length : Nat) : Int)) then chk ((0 : Int) ≤ z2W ∧ z2W < ((z2p.length : Nat) : Int)) ((y1s (⟨((nth z2p z2W).fN),((nth z2p z2W).fD)⟩ : z1)).bind fun zsF=>(y13 zsF).bind fun zlR=>(z1J zlR z44).bind fun z6V=>(if !z6V.1 then some (true,z6V.2) else (y1N (⟨((nth z2p z2W).fN),((nth z2p z2W).fD)⟩ : z1)).bind fun zsG=>(y13 zsG).bind fun zlS=>(z1J zlS z6V.2).bind fun zfF=>some (!zfF.1,zfF.2)).bind fun z9I=>if z9I.1 then some z9I.2 else y1d zh z2p z1J z86 zlQ (i64 (z2W + 1)) z9I.2) else z86 z44
theorem y5g {n : Nat} {zh : Type} {z2p : List z1} {z1J : z1 → zh → Option (Bool × zh)} {z86 : zh → Option zh} {z2W : Int} {z44 : zh} {r : zh} (h : y1d zh z2p z1J z86 n z2W z44 = some r) : ∃ m,n = m + 1:=by
 cases n with
 | zero=>cases h
 | succ m=>exact ⟨m,rfl⟩
def y1W (zh : Type) (z1J : z1 → zh → Option (Bool × zh)) (s0_26961 : zh) (z28 : List (List z2)) (zbk : S41) (zfG : List (List z2)) (zbl : S41) (z2p : List z1) : Option zh :=
 (y1U).bind fun zlT=>(z1J zlT s0_26961).bind fun zbm=>if !zbm.1 then some zbm.2 else jp1 (fun (z6W : zh)=>jp1 (fun (z87 : zh)=>some z87) fun z86=>y1d zh z2p z1J z86 yu 0 z6W) fun z85=>y1c zh z28 z1J z85 yu 0 zbm.2
set_option maxRecDepth 20000 in
theorem y6x (Z : Zp) (zh : Type) (z5j : Nat) (zP : Type) (z1K : zP → zh → Asrt) (z5k : zP → zh → Prop) (z6X : zP) (z6q : Addr) (z9J : Option Addr) (z9K : Nat) (zlU : Addr) (zlV : Option Addr) (zlW : Nat) (zlX : Addr) (zfH : Option Addr) (zfI : Nat) (z1J : z1 → zh → Option (Bool × zh)) (s0_26961 : zh) (z28 : List (List z2)) (zbk : S41) (zfG : List (List z2)) (zbl : S41) (z2p : List z1) (r : zh) (w₀ : World) (hz : PZ (fps [z1K z6X s0_26961]) w₀ Z)
  (zfJ : y8w Tryz.prog Z z5j (α:=z1) (σ:=zh) (G:=zP) (H:=Unit) (fun h x=>[(.agg #[(.int .i64 x.fN),(.int .i64 x.fD)])]) (fun h x=>[]) z1J z1K z5k)
  (zAS : z5k z6X s0_26961)
  (zAT : ZS Z 1 (p23 Z) z9J z9K z28)
  (zJr : ZS Z 1 (p23 Z) zlV zlW zfG)
  (zJs : ZC Z zlU [(.slice zlV zfG.length zlW)])
  (zJt : ZC Z zlX [(.int .i64 zbl.fR.fN),(.int .i64 zbl.fR.fD),(.int .i64 zbl.fL.fN),(.int .i64 zbl.fL.fD)])
  (zAU : ZS Z 2 (fun r x=>r = e40 x) zfH zfI z2p)
  (zsH : ZC Z z6q [(.slice z9J z28.length z9K),(.int .i64 zbk.fR.fN),(.int .i64 zbk.fR.fD),(.int .i64 zbk.fL.fN),(.int .i64 zbk.fL.fD),(.func (.func 38) #[] #[(.pointer (some zlU)),(.pointer (some zlX))]),(.slice zfH z2p.length zfI)])
  (h : y1W zh z1J s0_26961 z28 zbk zfG zbl z2p = some r)
  (hown : Hp (fps [z1K z6X s0_26961]) w₀ w₀ [z1K z6X s0_26961]) :
  Calls Tryz.prog 78 #[(.func (.yield z5j) #[] #[]),(.pointer (some z6q))] w₀ fun e w'=>∃ Zn : Zp,∃ zsI : zP,e = .returned (.tuple #[]) ∧ (z5k zsI r) ∧ Hp (fps [z1K z6X s0_26961]) w₀ w' [fz Zn,z1K zsI r]:=by
 unfold y1W at h
 refine Calls.yg (vs:=[(.func (.yield z5j) #[] #[]),(.pointer (some z6q))]) (pre:=[z1K z6X s0_26961]) (env:=[(0,(.func (.yield z5j) #[] #[])),(1,(.pointer (some z6q)))]) Tryz.func78 rfl Tryz.ntmps78 rfl (hown) rfl ?_
 refine WC.pool (WC.b (WC.b ?_))
 obtain ⟨zlT,zAV,h⟩:=z8 h
 obtain ⟨zbm,zAW,h⟩:=z8 h
 refine WC.a (WL.pu rfl ?_)
 refine WL.b (dd:=12) rfl rfl rfl (za (l:=[]) Tryz.call52 .nil) .nil (ccz hz .nil .here fun w pz ho=>y37 _ _ zAV w pz ) ?_
 refine WL.yield (dd:=13) (x:=zlT) (h:=()) (g:=z6X) (s:=s0_26961) (b:=zbm.1) (s':=zbm.2) zfJ rfl rfl rfl (.cons rfl .nil) ((.cons .h1 .nil) : Sel _ [z1K z6X s0_26961] _) zAW zAS (fun w hw=>hz.call hw ((.cons .h1 .nil) : Sel _ [z1K z6X s0_26961] _)) ?_
 intro zsJ zsK
 refine WL.pu rfl (WL.nil (WX.a ?_))
 refine WC.cond rfl (fun zlY=>?_) (fun zlY=>?_)
 ·replace h:=yd h zlY
  refine WC.ret (WX.y6 ?_)
  obtain rfl:=Option.some.inj h
  refine WX.y8 Tryz.results78 .nil (fun w hw=>?_)
  exact ⟨[],zsJ,y6E,zsK,hw.sub (.cons .h1 (.cons .here .nil))⟩
 ·replace h:=ye h zlY
  refine WC.skip (WX.a ?_)
  obtain ⟨z85,zAX,h⟩:=y12 h
  refine WC.y3O (fun (z6W : zh) (z6r : Zp) (zda : zP)=>(z85 z6W = some r) ∧ (Zle (Z ++ []) (Z ++ z6r)) ∧ (z5k zda z6W)) (fun (z6W : zh) (z6r : Zp) (zda : zP)=>[(0,(.func (.yield z5j) #[] #[])),(1,(.pointer (some z6q)))]) (fun (z6W : zh) (z6r : Zp) (zda : zP)=>[fz z6r,z1K zda z6W]) ?_ ?_
  ·skip
   refine WC.b (WC.a ?_)
   refine WL.a (d:=15) rfl rfl rfl (y4 y5K rfl rfl) ?_
   refine WL.a (d:=16) rfl rfl rfl (yc y47 rfl (y1V (hz.pv2 .h1) (zsH.mono (Zle.left _ _)) rfl)) ?_
   refine WL.a (d:=17) rfl rfl rfl (yP Tryz.underlying38 rfl) ?_
   refine WL.pu rfl (WL.nil (WX.a (WC.block ?_)))
   refine WC.y75 (fun (zdb : Nat) (z3n : Int) (z4M : zh) (z4t : Zp) (z9L : zP)=>(y1c zh z28 z1J z85 zdb z3n z4M = some r) ∧ (Zle (Z ++ []) (Z ++ z4t)) ∧ (z5k z9L z4M)) (fun (zdb : Nat) (z3n : Int) (z4M : zh) (z4t : Zp) (z9L : zP)=>[(0,(.func (.yield z5j) #[] #[])),(1,(.pointer (some z6q))),(16,(.slice z9J z28.length z9K)),(17,(.int .i64 ((z28.length : Nat) : Int))),(18,(.int .i64 z3n))]) (fun (zdb : Nat) (z3n : Int) (z4M : zh) (z4t : Zp) (z9L : zP)=>[fz z4t,z1K z9L z4M]) (fun (zdb : Nat) (z3n : Int) (z4M : zh) (z4t : Zp) (z9L : zP)=>zdb) ⟨yu,0,zbm.2,[],zsJ⟩ ⟨h,(Zle.refl _),zsK⟩ (.cons rfl (.cons rfl (.cons rfl (.cons rfl (.cons rfl .nil))))) (.cons .h1 (.cons .here .nil)) ?_
   rintro zdb z3n z4M z4t z9L ⟨h,zhW,zsL⟩
   obtain ⟨zlO,rfl⟩:=y5f h
   rw [y1c] at h
   refine WC.b (WC.a (WL.pu rfl (WL.nil (WX.a (WC.b ?_)))))
   refine WC.cond rfl (fun zlZ=>?_) (fun zlZ=>?_)
   ·replace h:=yd h zlZ
    refine WC.skip (WX.a ?_)
    obtain ⟨zlP,zAY,h⟩:=y12 h
    refine WC.y3O (fun (z6T : zh) (zdc : Zp) (zdd : zP)=>(zlP z6T = some r) ∧ (Zle (Z ++ z4t) (Z ++ zdc)) ∧ (z5k zdd z6T)) (fun (z6T : zh) (zdc : Zp) (zdd : zP)=>[(0,(.func (.yield z5j) #[] #[])),(1,(.pointer (some z6q))),(16,(.slice z9J z28.length z9K)),(17,(.int .i64 ((z28.length : Nat) : Int))),(18,(.int .i64 z3n))]) (fun (z6T : zh) (zdc : Zp) (zdd : zP)=>[fz zdc,z1K zdd z6T]) ?_ ?_
    ·skip
     refine WC.block (WC.b ?_)
     obtain ⟨zAZ,h⟩:=yj h
     refine WC.a ?_
     refine WL.znth (dd:=20) rfl rfl (Z:=(Z ++ z4t)) (Pr:=(p23 (Z ++ z4t))) y3X rfl rfl ((zAT.mono ((Zle.left _ _).trans zhW)).weak (fun _ _ h=>yG ((Zle.left _ _).trans zhW) h)) zAZ ?_
     rintro zJu zJv zB0 zJw ⟨zJx,zJy,rfl,zB1⟩
     refine WL.a (d:=21) rfl rfl rfl (yc y3S rfl (y4X (hz.pv2 .here) zB0 rfl)) ?_
     refine WL.pu rfl (WL.nil (WX.a (WC.b ?_)))
     obtain ⟨z1Y,zB2,h⟩:=z8 h
     refine WC.a (WL.pu rfl ?_)
     refine WL.y4e (dd:=24) rfl rfl rfl (za (l:=[.tmp 23]) Tryz.call76 (.cons rfl .nil)) .nil (ccz hz .nil .here fun w pz ho=>y5d _ _ _ _ _ zB2 w pz zB1) ?_
     rintro zfK zsM zhX _
     refine WL.merge .here .h1 ?_
     refine WL.pu rfl (WL.pu rfl (WL.pu rfl (WL.pu rfl (WL.pu rfl (WL.nil (WX.a (WC.b (WC.a (WL.pu rfl ?_)))))))))
     refine WL.a (d:=28) rfl rfl rfl (yP Tryz.underlying65 rfl) ?_
     refine WL.pu rfl (WL.nil (WX.a ?_))
     obtain ⟨z84,zB3,h⟩:=y12 h
     refine WC.y6Z (fun (z6U : zh) (zde : zP)=>(z84 z6U = some r) ∧ (z5k zde z6U)) (fun (z6U : zh) (zde : zP)=>[(0,(.func (.yield z5j) #[] #[])),(1,(.pointer (some z6q))),(16,(.slice z9J z28.length z9K)),(17,(.int .i64 ((z28.length : Nat) : Int))),(18,(.int .i64 z3n))]) (fun (z6U : zh) (zde : zP)=>[fz (z4t ++ zfK),z1K zde z6U]) ?_ ?_
     ·skip
      refine WC.block ?_
      refine WC.y36 (fun (zdf : Nat) (z2o : Int) (z43 : zh) (z6Y : zP)=>(y1b zh z1Y z1J z84 zdf z2o z43 = some r) ∧ (z5k z6Y z43)) (fun (zdf : Nat) (z2o : Int) (z43 : zh) (z6Y : zP)=>[(0,(.func (.yield z5j) #[] #[])),(1,(.pointer (some z6q))),(16,(.slice z9J z28.length z9K)),(17,(.int .i64 ((z28.length : Nat) : Int))),(18,(.int .i64 z3n)),(27,(.slice zsM z1Y.1.length zhX)),(28,(.int .i64 ((z1Y.1.length : Nat) : Int))),(29,(.int .i64 z2o))]) (fun (zdf : Nat) (z2o : Int) (z43 : zh) (z6Y : zP)=>[fz (z4t ++ zfK),row (.slice zsM z1Y.1.length zhX) 40 2 (z1Y.1.flatMap e40),z1K z6Y z43]) (fun (zdf : Nat) (z2o : Int) (z43 : zh) (z6Y : zP)=>zdf) ⟨yu,0,z4M,z9L⟩ ⟨h,zsL⟩ (.cons rfl (.cons rfl (.cons rfl (.cons rfl (.cons rfl (.cons rfl (.cons rfl (.cons rfl .nil)))))))) (.cons .here (.cons .here (.cons .here .nil))) ?_
      rintro zdf z2o z43 z6Y ⟨h,zsN⟩
      obtain ⟨zlL,rfl⟩:=y5e h
      rw [y1b] at h
      refine WC.b (WC.a (WL.pu rfl (WL.nil (WX.a (WC.b ?_)))))
      refine WC.cond rfl (fun zm0=>?_) (fun zm0=>?_)
      ·replace h:=yd h zm0
       refine WC.skip (WX.a (WC.b (WC.block (WC.b ?_))))
       obtain ⟨zfL,h⟩:=yj h
       refine WC.a ?_
       refine WL.know (fun w hw=>Hp.y3y .h1 hw (by intro hz'; have:=zfL; rw [hz'] at this; omega)) ?_
       rintro ⟨zsO,rfl⟩
       refine WL.a (d:=31) rfl rfl rfl (y11 yK rfl rfl zfL.1 zfL.2 y3x) ?_
       refine WL.a (d:=32) rfl rfl rfl (ys (cs:=(e40 (nth z1Y.1 z2o))) y5 rfl rfl (y3B .h1 (y2A (enc:=e40) (l:=z1Y.1) (i:=z2o) (sz:=2) (fun _=>rfl) zfL.1 zfL.2))) ?_
       refine WL.new (dd:=8) rfl rfl rfl (yk (cs:=[(.int .i64 0),(.int .i64 0)]) yo rfl) ?_
       intro zB4 _
       refine WL.yb rfl rfl (ya yh rfl rfl rfl .here rfl rfl rfl) ?_
       refine WL.nil (WX.a (WC.b ?_))
       obtain ⟨zsD,zB5,h⟩:=z8 h
       obtain ⟨zlM,zB6,h⟩:=z8 h
       obtain ⟨z6S,zB7,h⟩:=z8 h
       obtain ⟨z9H,zsP,h⟩:=z8 h
       refine WC.a (WL.pu rfl ?_)
       refine WL.a (d:=34) rfl rfl rfl (y9 y5 rfl (y7 .here) rfl) ?_
       refine WL.b (dd:=35) rfl rfl rfl (za (l:=[.tmp 34]) Tryz.call79 (.cons rfl .nil)) .nil (ccz hz .nil .h1 fun w pz ho=>y5v _ _ _ zB5 w pz ) ?_
       refine WL.b (dd:=36) rfl rfl rfl (za (l:=[.tmp 35]) Tryz.call68 (.cons rfl .nil)) .nil (ccz hz .nil .h1 fun w pz ho=>y1Z _ _ _ zB6 w pz ) ?_
       refine WL.yield (dd:=37) (x:=zlM) (h:=()) (g:=z6Y) (s:=z43) (b:=z6S.1) (s':=z6S.2) zfJ rfl rfl rfl (.cons rfl .nil) ((.cons .h3 .nil) : Sel _ [z1K z6Y z43] _) zB7 zsN (fun w hw=>hz.call hw ((.cons .h3 .nil) : Sel _ [z1K z6Y z43] _)) ?_
       intro zhY zsQ
       refine WL.pu rfl (WL.pu rfl ?_)
       refine WL.y8N (fun (zbn : zP)=>z5k zbn z9H.2) (fun (zbn : zP)=>[(0,(.func (.yield z5j) #[] #[])),(1,(.pointer (some z6q))),(16,(.slice z9J z28.length z9K)),(17,(.int .i64 ((z28.length : Nat) : Int))),(18,(.int .i64 z3n)),(27,(.slice (some ⟨zsO,0,none⟩) z1Y.1.length zhX)),(28,(.int .i64 ((z1Y.1.length : Nat) : Int))),(29,(.int .i64 z2o)),(46,(.bool z9H.1))]) (fun (zbn : zP)=>[z1K zbn z9H.2,stb zB4 40 [(.int .i64 ((nth z1Y.1 z2o).fN)),(.int .i64 ((nth z1Y.1 z2o).fD))],fz (z4t ++ zfK),row (.slice (some ⟨zsO,0,none⟩) z1Y.1.length zhX) 40 2 (z1Y.1.flatMap e40)]) 7 ?_ (fun zbn zsR=>?_)
       ·rcases Bool.eq_false_or_eq_true (!z6S.1) with hb' | hb'
        ·have zsS:=hb'; clear hb'
         have zm1:=yd zsP zsS
         replace zm1:=Option.some.inj zm1
         refine WL.pin (i:=39) rfl zsS ?_
         refine WL.e rfl rfl rfl (WL.e rfl rfl rfl (WL.e rfl rfl rfl (WL.e rfl rfl rfl (WL.e rfl rfl rfl (WL.e rfl rfl rfl (WL.pu rfl ?_))))))
         subst zm1
         exact WL.y4x zhY zsQ (.cons rfl (.cons rfl (.cons rfl (.cons rfl (.cons rfl (.cons rfl (.cons rfl (.cons rfl (.cons rfl .nil))))))))) (.cons .here (.cons .here (.cons .here (.cons .here .nil))))
        ·have zsT:=hb'; clear hb'
         have z88:=ye zsP zsT
         obtain ⟨zsE,zB8,z88⟩:=z8 z88
         obtain ⟨zlN,zB9,z88⟩:=z8 z88
         obtain ⟨zfE,zBa,z88⟩:=z8 z88
         replace z88:=Option.some.inj z88
         refine WL.pin (i:=39) rfl zsT ?_
         refine WL.pu rfl ?_
         refine WL.a (d:=41) rfl rfl rfl (y9 y5 rfl (y7 .h1) rfl) ?_
         refine WL.b (dd:=42) rfl rfl rfl (za (l:=[.tmp 41]) Tryz.call80 (.cons rfl .nil)) .nil (ccz hz .nil .h2 fun w pz ho=>y6Q _ _ _ zB8 w pz ) ?_
         refine WL.b (dd:=43) rfl rfl rfl (za (l:=[.tmp 42]) Tryz.call68 (.cons rfl .nil)) .nil (ccz hz .nil .h2 fun w pz ho=>y1Z _ _ _ zB9 w pz ) ?_
         refine WL.yield (dd:=44) (x:=zlN) (h:=()) (g:=zhY) (s:=z6S.2) (b:=zfE.1) (s':=zfE.2) zfJ rfl rfl rfl (.cons rfl .nil) ((.cons .here .nil) : Sel _ [z1K zhY z6S.2] _) zBa zsQ (fun w hw=>hz.call hw ((.cons .here .nil) : Sel _ [z1K zhY z6S.2] _)) ?_
         intro zBb zBc
         refine WL.pu rfl (WL.pu rfl ?_)
         subst z88
         exact WL.y4x zBb zBc (.cons rfl (.cons rfl (.cons rfl (.cons rfl (.cons rfl (.cons rfl (.cons rfl (.cons rfl (.cons rfl .nil))))))))) (.cons .here (.cons .here (.cons .here (.cons .here .nil))))
       ·skip
        refine WL.nil (WX.a ?_)
        refine WC.cond rfl (fun zm2=>?_) (fun zm2=>?_)
        ·replace h:=yd h zm2
         refine WC.ret (WX.yl (WX.y6 (WX.y6 (WX.yl (WX.y6 (WX.yl (WX.y6 (WX.y6 (WX.yl (WX.y6 ?_))))))))))
         obtain rfl:=Option.some.inj h
         refine WX.y8 Tryz.results78 .nil (fun w hw=>?_)
         exact ⟨(z4t ++ zfK),zbn,y6E,zsR,hw.sub (.cons .h2 (.cons .here .nil))⟩
        ·replace h:=ye h zm2
         refine WC.skip (WX.yi (WX.a (WC.a (WL.pu rfl (WL.pu rfl (WL.nil ?_))))))
         exact WX.round (G:=Nat × Int × zh × zP) ⟨zlL,(i64 (z2o + 1)),z9H.2,zbn⟩ ⟨h,zsR⟩ (Nat.lt_succ_self _) (.cons rfl (.cons rfl (.cons rfl (.cons rfl (.cons rfl (.cons rfl (.cons rfl (.cons rfl .nil)))))))) (.cons .h2 (.cons .h2 (.cons .here .nil)))
      ·replace h:=ye h zm0
       refine WC.exit (WX.yf (WX.yf (WX.yv ?_)))
       exact WX.mid (G:=zh × zP) ⟨z43,z6Y⟩ ⟨h,zsN⟩ (.cons rfl (.cons rfl (.cons rfl (.cons rfl (.cons rfl .nil))))) (.cons .here (.cons .h1 .nil))
     ·rintro z6U zde ⟨h,zBd⟩
      replace h:=(zB3 z6U).symm.trans h
      refine WX.yi ?_
      exact WX.mid (G:=zh × Zp × zP) ⟨z6U,(z4t ++ zfK),zde⟩ ⟨h,((Zle.left _ _).trans (Zle.yn _ _ _)),zBd⟩ (.cons rfl (.cons rfl (.cons rfl (.cons rfl (.cons rfl .nil))))) (.cons .here (.cons .here .nil))
    ·rintro z6T zdc zdd ⟨h,zBe,zBf⟩
     replace h:=(zAY z6T).symm.trans h
     refine WC.a (WL.pu rfl (WL.pu rfl (WL.nil ?_)))
     exact WX.round (G:=Nat × Int × zh × Zp × zP) ⟨zlO,(i64 (z3n + 1)),z6T,zdc,zdd⟩ ⟨h,(zhW.trans zBe),zBf⟩ (Nat.lt_succ_self _) (.cons rfl (.cons rfl (.cons rfl (.cons rfl (.cons rfl .nil))))) (.cons .here (.cons .here .nil))
   ·replace h:=ye h zlZ
    refine WC.exit (WX.yf (WX.yf (WX.yv ?_)))
    exact WX.mid (G:=zh × Zp × zP) ⟨z4M,z4t,z9L⟩ ⟨h,zhW,zsL⟩ (.cons rfl (.cons rfl .nil)) (.cons .here (.cons .here .nil))
  ·rintro z6W z6r zda ⟨h,zsU,zBg⟩
   replace h:=(zAX z6W).symm.trans h
   refine WC.b (WC.a ?_)
   refine WL.a (d:=49) rfl rfl rfl (y4 ybH rfl rfl) ?_
   refine WL.a (d:=50) rfl rfl rfl (yc y4r rfl (y1V (hz.pv2 .here) (zsH.mono ((Zle.left _ _).trans zsU)) rfl)) ?_
   refine WL.a (d:=51) rfl rfl rfl (yP Tryz.underlying65 rfl) ?_
   refine WL.pu rfl (WL.nil (WX.a ?_))
   obtain ⟨z86,zBh,h⟩:=y12 h
   refine WC.y6Z (fun (z87 : zh) (zdg : zP)=>(z86 z87 = some r) ∧ (z5k zdg z87)) (fun (z87 : zh) (zdg : zP)=>[]) (fun (z87 : zh) (zdg : zP)=>[fz z6r,z1K zdg z87]) ?_ ?_
   ·skip
    refine WC.block ?_
    refine WC.y36 (fun (zdh : Nat) (z2W : Int) (z44 : zh) (z6Z : zP)=>(y1d zh z2p z1J z86 zdh z2W z44 = some r) ∧ (z5k z6Z z44)) (fun (zdh : Nat) (z2W : Int) (z44 : zh) (z6Z : zP)=>[(0,(.func (.yield z5j) #[] #[])),(50,(.slice zfH z2p.length zfI)),(51,(.int .i64 ((z2p.length : Nat) : Int))),(52,(.int .i64 z2W))]) (fun (zdh : Nat) (z2W : Int) (z44 : zh) (z6Z : zP)=>[fz z6r,z1K z6Z z44]) (fun (zdh : Nat) (z2W : Int) (z44 : zh) (z6Z : zP)=>zdh) ⟨yu,0,z6W,zda⟩ ⟨h,zBg⟩ (.cons rfl (.cons rfl (.cons rfl (.cons rfl .nil)))) (.cons .here (.cons .here .nil)) ?_
    rintro zdh z2W z44 z6Z ⟨h,zsV⟩
    obtain ⟨zlQ,rfl⟩:=y5g h
    rw [y1d] at h
    refine WC.b (WC.a (WL.pu rfl (WL.nil (WX.a (WC.b ?_)))))
    refine WC.cond rfl (fun zm3=>?_) (fun zm3=>?_)
    ·replace h:=yd h zm3
     refine WC.skip (WX.a (WC.b (WC.block (WC.b ?_))))
     obtain ⟨zBi,h⟩:=yj h
     refine WC.a ?_
     refine WL.znth (dd:=54) rfl rfl (Z:=(Z ++ z6r)) (Pr:=(fun r x=>r = e40 x)) yK rfl rfl (zAU.mono ((Zle.left _ _).trans zsU)) zBi ?_
     rintro zJz zJA zBj zJB rfl
     refine WL.a (d:=55) rfl rfl rfl (y9 y5 rfl (y2k (hz.pv2 .here) zBj) rfl) ?_
     refine WL.new (dd:=10) rfl rfl rfl (yk (cs:=[(.int .i64 0),(.int .i64 0)]) yo rfl) ?_
     intro zBk _
     refine WL.yb rfl rfl (ya yh rfl rfl rfl .here rfl rfl rfl) ?_
     refine WL.nil (WX.a (WC.b ?_))
     obtain ⟨zsF,zBl,h⟩:=z8 h
     obtain ⟨zlR,zBm,h⟩:=z8 h
     obtain ⟨z6V,zBn,h⟩:=z8 h
     obtain ⟨z9I,zsW,h⟩:=z8 h
     refine WC.a (WL.pu rfl ?_)
     refine WL.a (d:=57) rfl rfl rfl (y9 y5 rfl (y7 .here) rfl) ?_
     refine WL.b (dd:=58) rfl rfl rfl (za (l:=[.tmp 57]) Tryz.call79 (.cons rfl .nil)) .nil (ccz hz .nil .h1 fun w pz ho=>y5v _ _ _ zBl w pz ) ?_
     refine WL.b (dd:=59) rfl rfl rfl (za (l:=[.tmp 58]) Tryz.call68 (.cons rfl .nil)) .nil (ccz hz .nil .h1 fun w pz ho=>y1Z _ _ _ zBm w pz ) ?_
     refine WL.yield (dd:=60) (x:=zlR) (h:=()) (g:=z6Z) (s:=z44) (b:=z6V.1) (s':=z6V.2) zfJ rfl rfl rfl (.cons rfl .nil) ((.cons .h2 .nil) : Sel _ [z1K z6Z z44] _) zBn zsV (fun w hw=>hz.call hw ((.cons .h2 .nil) : Sel _ [z1K z6Z z44] _)) ?_
     intro zhZ zsX
     refine WL.pu rfl (WL.pu rfl ?_)
     refine WL.y8N (fun (zbo : zP)=>z5k zbo z9I.2) (fun (zbo : zP)=>[(0,(.func (.yield z5j) #[] #[])),(50,(.slice zfH z2p.length zfI)),(51,(.int .i64 ((z2p.length : Nat) : Int))),(52,(.int .i64 z2W)),(69,(.bool z9I.1))]) (fun (zbo : zP)=>[z1K zbo z9I.2,stb zBk 40 [(.int .i64 ((nth z2p z2W).fN)),(.int .i64 ((nth z2p z2W).fD))],fz z6r]) 7 ?_ (fun zbo zsY=>?_)
     ·rcases Bool.eq_false_or_eq_true (!z6V.1) with hb' | hb'
      ·have zsZ:=hb'; clear hb'
       have zm4:=yd zsW zsZ
       replace zm4:=Option.some.inj zm4
       refine WL.pin (i:=62) rfl zsZ ?_
       refine WL.e rfl rfl rfl (WL.e rfl rfl rfl (WL.e rfl rfl rfl (WL.e rfl rfl rfl (WL.e rfl rfl rfl (WL.e rfl rfl rfl (WL.pu rfl ?_))))))
       subst zm4
       exact WL.y4x zhZ zsX (.cons rfl (.cons rfl (.cons rfl (.cons rfl (.cons rfl .nil))))) (.cons .here (.cons .here (.cons .here .nil)))
      ·have zt0:=hb'; clear hb'
       have z89:=ye zsW zt0
       obtain ⟨zsG,zBo,z89⟩:=z8 z89
       obtain ⟨zlS,zBp,z89⟩:=z8 z89
       obtain ⟨zfF,zBq,z89⟩:=z8 z89
       replace z89:=Option.some.inj z89
       refine WL.pin (i:=62) rfl zt0 ?_
       refine WL.pu rfl ?_
       refine WL.a (d:=64) rfl rfl rfl (y9 y5 rfl (y7 .h1) rfl) ?_
       refine WL.b (dd:=65) rfl rfl rfl (za (l:=[.tmp 64]) Tryz.call80 (.cons rfl .nil)) .nil (ccz hz .nil .h2 fun w pz ho=>y6Q _ _ _ zBo w pz ) ?_
       refine WL.b (dd:=66) rfl rfl rfl (za (l:=[.tmp 65]) Tryz.call68 (.cons rfl .nil)) .nil (ccz hz .nil .h2 fun w pz ho=>y1Z _ _ _ zBp w pz ) ?_
       refine WL.yield (dd:=67) (x:=zlS) (h:=()) (g:=zhZ) (s:=z6V.2) (b:=zfF.1) (s':=zfF.2) zfJ rfl rfl rfl (.cons rfl .nil) ((.cons .here .nil) : Sel _ [z1K zhZ z6V.2] _) zBq zsX (fun w hw=>hz.call hw ((.cons .here .nil) : Sel _ [z1K zhZ z6V.2] _)) ?_
       intro zBr zBs
       refine WL.pu rfl (WL.pu rfl ?_)
       subst z89
       exact WL.y4x zBr zBs (.cons rfl (.cons rfl (.cons rfl (.cons rfl (.cons rfl .nil))))) (.cons .here (.cons .here (.cons .here .nil)))
     ·skip
      refine WL.nil (WX.a ?_)
      refine WC.cond rfl (fun zm5=>?_) (fun zm5=>?_)
      ·replace h:=yd h zm5
       refine WC.ret (WX.yl (WX.y6 (WX.y6 (WX.yl (WX.y6 ?_)))))
       obtain rfl:=Option.some.inj h
       refine WX.y8 Tryz.results78 .nil (fun w hw=>?_)
       exact ⟨z6r,zbo,y6E,zsY,hw.sub (.cons .h2 (.cons .here .nil))⟩
      ·replace h:=ye h zm5
       refine WC.skip (WX.yi (WX.a (WC.a (WL.pu rfl (WL.pu rfl (WL.nil ?_))))))
       exact WX.round (G:=Nat × Int × zh × zP) ⟨zlQ,(i64 (z2W + 1)),z9I.2,zbo⟩ ⟨h,zsY⟩ (Nat.lt_succ_self _) (.cons rfl (.cons rfl (.cons rfl (.cons rfl .nil)))) (.cons .h2 (.cons .here .nil))
    ·replace h:=ye h zm3
     refine WC.exit (WX.yf (WX.yf (WX.yv ?_)))
     exact WX.mid (G:=zh × zP) ⟨z44,z6Z⟩ ⟨h,zsV⟩ .nil (.cons .here (.cons .here .nil))
   ·rintro z87 zdg ⟨h,zBt⟩
    replace h:=(zBh z87).symm.trans h
    obtain rfl:=Option.some.inj h
    refine WX.y5t Tryz.results78 .nil (fun w hw=>?_)
    exact ⟨z6r,zdg,y6E,zBt,hw.sub (.cons .here (.cons .here .nil))⟩
def y3a (z9M : zV) (z5l : z1) (zfM : List (List z2)) (z4u : S41) : Option (z1 × zV) :=
 (y2a z9M zfM z5l).bind fun zbp=>(yM z5l z4u.fL).bind fun zt1=>if decide (zt1 ≤ 0) then some (zbp.1,zbp.2) else (yO zbp.2 (fun (y0 : z1) (y1 : z1)=>y1v y0 y1) z5l z4u.fL).bind fun zm6=>(yO zm6.2 (fun (y0 : z1) (y1 : z1)=>y2X y0 y1) z4u.fR zm6.1).bind fun zm7=>(yO zm7.2 (fun (y0 : z1) (y1 : z1)=>y1v y0 y1) zbp.1 zm7.1).bind fun zm8=>some (zm8.1,zm8.2)
set_option maxRecDepth 20000 in
theorem y89 (Z : Zp) (z8a : Nat) (zi0 : Addr) (zt2 : Option Addr) (zt3 : Nat) (zi1 : Addr) (z9M : zV) (z5l : z1) (zfM : List (List z2)) (z4u : S41) (r : z1 × zV)
  (h : y3a z9M z5l zfM z4u = some r) (w₀ : World) (hz : PZ (fps [stb z8a 87 [(.int .i64 z9M.fE)]]) w₀ Z)
  (zBu : ZS Z 1 (p23 Z) zt2 zt3 zfM)
  (zBv : ZC Z zi0 [(.slice zt2 zfM.length zt3)])
  (zm9 : ZC Z zi1 [(.int .i64 z4u.fR.fN),(.int .i64 z4u.fR.fD),(.int .i64 z4u.fL.fN),(.int .i64 z4u.fL.fD)])
  (hown : Hp (fps [stb z8a 87 [(.int .i64 z9M.fE)]]) w₀ w₀ [stb z8a 87 [(.int .i64 z9M.fE)]]) :
  Calls Tryz.prog 38 #[(.pointer (some ⟨z8a,0,none⟩)),(.agg #[(.int .i64 z5l.fN),(.int .i64 z5l.fD)]),(.pointer (some zi0)),(.pointer (some zi1))] w₀ fun e w'=>e = .returned (.agg #[(.int .i64 r.1.fN),(.int .i64 r.1.fD)]) ∧ Hp (fps [stb z8a 87 [(.int .i64 z9M.fE)]]) w₀ w' [stb z8a 87 [(.int .i64 r.2.fE)]]:=by
 unfold y3a at h
 refine Calls.yg (vs:=[(.pointer (some ⟨z8a,0,none⟩)),(.agg #[(.int .i64 z5l.fN),(.int .i64 z5l.fD)]),(.pointer (some zi0)),(.pointer (some zi1))]) (pre:=[stb z8a 87 [(.int .i64 z9M.fE)]]) (env:=[(0,(.pointer (some ⟨z8a,0,none⟩))),(1,(.agg #[(.int .i64 z5l.fN),(.int .i64 z5l.fD)])),(2,(.pointer (some zi0))),(3,(.pointer (some zi1)))]) Tryz.func38 rfl Tryz.ntmps38 rfl (hown) rfl ?_
 refine WC.b (WC.a ?_)
 refine WL.new (dd:=5) rfl rfl rfl (yx (cs:=[(.int .i64 z5l.fN),(.int .i64 z5l.fD)]) rfl rfl) ?_
 intro zJC _
 refine WL.new (dd:=6) rfl rfl rfl (yk (cs:=[(.int .i64 0),(.int .i64 0)]) yo rfl) ?_
 intro zJD _
 refine WL.nil (WX.a (WC.b ?_))
 obtain ⟨zbp,zBw,h⟩:=z8 h
 refine WC.a (WL.pu rfl ?_)
 refine WL.a (d:=9) rfl rfl rfl (yc y47 rfl (y4X hz.pv zBv rfl)) ?_
 refine WL.a (d:=10) rfl rfl rfl (y9 y5 rfl (y7 .h1) rfl) ?_
 refine WL.b (dd:=11) rfl rfl rfl (za (l:=[.tmp 8,.tmp 9,.tmp 10]) Tryz.call34 (.cons rfl (.cons rfl (.cons rfl .nil)))) (.cons .h2 .nil) (cc hz (.cons .h2 .nil) fun w pz ho=>y5P _ _ _ _ _ _ _ _ zBw w pz zBu ho) ?_
 refine WL.new (dd:=7) rfl rfl rfl (yk (cs:=[(.int .i64 0),(.int .i64 0)]) yo rfl) ?_
 intro zBx _
 refine WL.yb rfl rfl (ya yh rfl rfl rfl .here rfl rfl rfl) ?_
 refine WL.nil (WX.a (WC.b (WC.b ?_)))
 obtain ⟨zt1,zBy,h⟩:=z8 h
 refine WC.a ?_
 refine WL.a (d:=12) rfl rfl rfl (y9 y5 rfl (y7 .h3) rfl) ?_
 refine WL.a (d:=13) rfl rfl rfl (y4 y3r rfl rfl) ?_
 refine WL.a (d:=14) rfl rfl rfl (ys (cs:=[(.int .i64 z4u.fL.fN),(.int .i64 z4u.fL.fD)]) y5 rfl rfl (y3q (off:=2) (s:=2) hz.pv zm9 rfl)) ?_
 refine WL.b (dd:=15) rfl rfl rfl (za (l:=[.tmp 12,.tmp 14]) Tryz.call24 (.cons rfl (.cons rfl .nil))) .nil (cc hz .nil fun w pz ho=>y2w _ _ _ _ zBy w pz ) ?_
 refine WL.pu rfl (WL.nil (WX.a ?_))
 refine WC.cond rfl (fun zma=>?_) (fun zma=>?_)
 ·replace h:=yd h zma
  refine WC.b (WC.a ?_)
  refine WL.a (d:=17) rfl rfl rfl (y9 y5 rfl (y7 .here) rfl) ?_
  refine WL.yb rfl rfl (ya yh rfl rfl rfl .h2 rfl rfl rfl) ?_
  refine WL.nil (WX.a (WC.ret (WX.y6 ?_)))
  obtain rfl:=Option.some.inj h
  refine WX.y8 Tryz.results38 (.agg rfl y5 rfl (y7 .here) .nil) (fun w hw=>?_)
  exact ⟨yD rfl,hw.sub (.cons .h2 .nil)⟩
 ·replace h:=ye h zma
  refine WC.skip (WX.a (WC.b ?_))
  obtain ⟨zm6,zBz,h⟩:=z8 h
  obtain ⟨zm7,zBA,h⟩:=z8 h
  obtain ⟨zm8,zBB,h⟩:=z8 h
  refine WC.yH (fun i=>[9,10,11,12].contains i) [stb zBx 40 [(.int .i64 zbp.1.fN),(.int .i64 zbp.1.fD)]] rfl ?_
  refine WD.a (i:=0) (d:=18) (by kernel_rfl) rfl z6 z7 rfl rfl rfl (fun _=>q_m rfl) ?_
  refine WD.y2u (i:=1) (d:=19) (by kernel_rfl) rfl z6 z7 rfl rfl rfl (Sin.of (.cons .here .nil)) (y9 y5 rfl (y7 .here) rfl) ?_
  refine WD.a (i:=2) (d:=20) (by kernel_rfl) rfl z6 z7 rfl rfl rfl (fun _=>q_m rfl) ?_
  refine WD.a (i:=3) (d:=21) (by kernel_rfl) rfl z6 z7 rfl rfl rfl (fun _=>y4 y2U rfl rfl) ?_
  refine WD.y2u (i:=4) (d:=22) (by kernel_rfl) rfl z6 z7 rfl rfl rfl (Sin.of (.cons .here .nil)) (ys (cs:=[(.int .i64 z4u.fR.fN),(.int .i64 z4u.fR.fD)]) y5 rfl rfl (y3q (off:=0) (s:=2) hz.pv zm9 rfl)) ?_
  refine WD.a (i:=5) (d:=23) (by kernel_rfl) rfl z6 z7 rfl rfl rfl (fun _=>q_m rfl) ?_
  refine WD.e (i:=6) (d:=24) (by kernel_rfl) rfl z6 z7 rfl rfl rfl (y9 y5 rfl (y7 .h3) rfl) ?_
  refine WD.a (i:=7) (d:=25) (by kernel_rfl) rfl z6 z7 rfl rfl rfl (fun _=>y4 y3r rfl rfl) ?_
  refine WD.e (i:=8) (d:=26) (by kernel_rfl) rfl z6 z7 rfl rfl rfl (ys (cs:=[(.int .i64 z4u.fL.fN),(.int .i64 z4u.fL.fD)]) y5 rfl rfl (y3q (off:=2) (s:=2) hz.pv zm9 rfl)) ?_
  refine WD.call0 (i:=9) (dd:=27) rfl (by kernel_rfl) rfl rfl rfl (.inl ⟨rfl,(Sin.of (.cons .h1 .nil))⟩) (za (l:=[.tmp 23,.func 32,.tmp 24,.tmp 26]) Tryz.call30 (.cons rfl (.cons rfl (.cons rfl (.cons rfl .nil))))) (.cons .h1 .nil) (cc hz (.cons .h1 .nil) fun w pz ho=>Calls.mono (y1M _ _ (z3X:=32) (z4F:=[]) _ (z5b:=(fun (y0 : z1) (y1 : z1)=>y1v y0 y1)) _ _ _ zBz w pz Tryz.call32 (fun w' hz' y0 y1  r  hr=>y6w _ _ _ _ hr w' hz' ) ho) (fun _ _ h'=>⟨h'.1,trivial,h'.2⟩)) ?_
  intro _
  refine WD.call0 (i:=10) (dd:=28) rfl (by kernel_rfl) rfl rfl rfl (.inl ⟨rfl,(Sin.of (.cons .h1 .nil))⟩) (za (l:=[.tmp 20,.func 39,.tmp 22,.tmp 27]) Tryz.call30 (.cons rfl (.cons rfl (.cons rfl (.cons rfl .nil))))) (.cons .here .nil) (cc hz (.cons .here .nil) fun w pz ho=>Calls.mono (y1M _ _ (z3X:=39) (z4F:=[]) _ (z5b:=(fun (y0 : z1) (y1 : z1)=>y2X y0 y1)) _ _ _ zBA w pz Tryz.call39 (fun w' hz' y0 y1  r  hr=>yam _ _ _ _ hr w' hz' ) ho) (fun _ _ h'=>⟨h'.1,trivial,h'.2⟩)) ?_
  intro _
  refine WD.call0 (i:=11) (dd:=29) rfl (by kernel_rfl) rfl rfl rfl (.inl ⟨rfl,(Sin.of (.cons .h1 .nil))⟩) (za (l:=[.tmp 18,.func 32,.tmp 19,.tmp 28]) Tryz.call30 (.cons rfl (.cons rfl (.cons rfl (.cons rfl .nil))))) (.cons .here .nil) (cc hz (.cons .here .nil) fun w pz ho=>Calls.mono (y1M _ _ (z3X:=32) (z4F:=[]) _ (z5b:=(fun (y0 : z1) (y1 : z1)=>y1v y0 y1)) _ _ _ zBB w pz Tryz.call32 (fun w' hz' y0 y1  r  hr=>y6w _ _ _ _ hr w' hz' ) ho) (fun _ _ h'=>⟨h'.1,trivial,h'.2⟩)) ?_
  intro _
  refine WD.y7Z (i:=12) rfl (by kernel_rfl) rfl rfl rfl (by kernel_rfl) (ya yh rfl rfl rfl .h2 rfl rfl rfl) ?_
  refine WD.done (by kernel_rfl) ?_
  refine WX.a (WC.ret ?_)
  obtain rfl:=Option.some.inj h
  refine WX.y8 Tryz.results38 (.agg rfl y5 rfl (y7 .here) .nil) (fun w hw=>?_)
  exact ⟨yD rfl,hw.sub (.cons .h1 .nil)⟩
def y1Q (z5m : List (List z2)) (z4v : S41) (z8b : z1) (z36 : List z1) (zi2 : Int) : Option (Bool × (Nat × List z1 × Int)) :=
 (y3a (⟨zi2⟩ : zV) z8b z5m z4v).bind fun z5n=>(if decide (((z36.length : Nat) : Int) = 0) then some true else chk ((0 : Int) ≤ 0 ∧ 0 < ((z36.length : Nat) : Int)) ((yM z5n.1 (⟨((nth z36 0).fN),((nth z36 0).fD)⟩ : z1)).bind fun zt4=>some (decide (zt4 > 0)))).bind fun zmb=>if zmb then some (true,(0,([z5n.1] : List z1),z5n.2.fE)) else some (true,(0,z36,z5n.2.fE))
def y2D (zK : List (List z2)) (zj : S41) (z5m : List (List z2)) (z4v : S41) (zL : List z1) : Option (z1 × Int) :=
 (y2h zK zj z5m z4v zL).bind fun zfN=>if decide (zfN ≠ 0) then some ((⟨0,0⟩ : z1),zfN) else jp2 (fun (z71 : Int) (z4N : List z1)=>if decide (z71 ≠ 0) then some ((⟨0,0⟩ : z1),z71) else chk ((0 : Int) ≤ 0 ∧ 0 < ((z4N.length : Nat) : Int)) (some ((⟨((nth z4N 0).fN),((nth z4N 0).fD)⟩ : z1),0))) fun zmc=>(y32 zK zj z5m z4v zL).bind fun zs=>(y1W (Nat × List z1 × Int) (fun (x : z1) (s : Nat × List z1 × Int)=>chk (s.1 = 0) (y1Q z5m z4v x s.2.1 s.2.2)) (0,([] : List z1),0) zK (⟨(⟨zs.1,zs.2.1⟩ : z1),(⟨zs.2.2.1,zs.2.2.2⟩ : z1)⟩ : S41) z5m z4v zL).bind fun z3o=>zmc z3o.2.2 z3o.2.1
set_option maxRecDepth 20000 in
theorem y7v (Z : Zp) (z10 : Option Addr) (z11 : Nat) (zT : Addr) (zmd : Option Addr) (zme : Nat) (zU : Addr) (z12 : Option Addr) (z13 : Nat) (zK : List (List z2)) (zj : S41) (z5m : List (List z2)) (z4v : S41) (zL : List z1) (r : z1 × Int)
  (h : y2D zK zj z5m z4v zL = some r) (w₀ : World) (hz : PZ [] w₀ Z)
  (zmf : ZS Z 1 (p23 Z) z10 z11 zK)
  (zi3 : ZS Z 1 (p23 Z) zmd zme z5m)
  (zi4 : ZC Z zT [(.slice zmd z5m.length zme)])
  (zi5 : ZC Z zU [(.int .i64 z4v.fR.fN),(.int .i64 z4v.fR.fD),(.int .i64 z4v.fL.fN),(.int .i64 z4v.fL.fD)])
  (zmg : ZS Z 2 (fun r x=>r = e40 x) z12 z13 zL) :
  Calls Tryz.prog 35 #[(.agg #[(.slice z10 zK.length z11),(.int .i64 zj.fR.fN),(.int .i64 zj.fR.fD),(.int .i64 zj.fL.fN),(.int .i64 zj.fL.fD),(.func (.func 38) #[] #[(.pointer (some zT)),(.pointer (some zU))]),(.slice z12 zL.length z13)])] w₀ fun e w'=>∃ Zn : Zp,e = .returned (.tuple #[(.agg #[(.int .i64 r.1.fN),(.int .i64 r.1.fD)]),(.int .i64 r.2)]) ∧ True ∧ Hp [] w₀ w' [fz Zn]:=by
 unfold y2D at h
 refine Calls.y7t (vs:=[(.agg #[(.slice z10 zK.length z11),(.int .i64 zj.fR.fN),(.int .i64 zj.fR.fD),(.int .i64 zj.fL.fN),(.int .i64 zj.fL.fD),(.func (.func 38) #[] #[(.pointer (some zT)),(.pointer (some zU))]),(.slice z12 zL.length z13)])]) (pre:=[]) (env:=[(0,(.agg #[(.slice z10 zK.length z11),(.int .i64 zj.fR.fN),(.int .i64 zj.fR.fD),(.int .i64 zj.fL.fN),(.int .i64 zj.fL.fD),(.func (.func 38) #[] #[(.pointer (some zT)),(.pointer (some zU))]),(.slice z12 zL.length z13)]))]) Tryz.func35 rfl Tryz.ntmps35 rfl (Hp.nil w₀ _) rfl ?_
 refine WC.pool (WC.b (WC.a ?_))
 refine WL.new (dd:=1) rfl rfl rfl (yx (cs:=[(.slice z10 zK.length z11),(.int .i64 zj.fR.fN),(.int .i64 zj.fR.fD),(.int .i64 zj.fL.fN),(.int .i64 zj.fL.fD),(.func (.func 38) #[] #[(.pointer (some zT)),(.pointer (some zU))]),(.slice z12 zL.length z13)]) rfl rfl) ?_
 intro z2X _
 refine WL.new (dd:=2) rfl rfl rfl (yk (cs:=[(.int .i64 0),(.int .i64 0)]) yo rfl) ?_
 intro z37 _
 refine WL.pu rfl (WL.nil (WX.a (WC.b (WC.b ?_))))
 obtain ⟨zfN,zBC,h⟩:=z8 h
 refine WC.a ?_
 refine WL.a (d:=9) rfl rfl rfl (y9 y70 rfl (y7 .h1) rfl) ?_
 refine WL.y2v (dd:=10) rfl rfl rfl (za (l:=[.tmp 9]) Tryz.call54 (.cons rfl .nil)) .nil (ccz hz .nil .h2 fun w pz ho=>y7c _ _ _ _ _ _ _ _ _ _ _ _ _ _ _ zBC w pz ((zmf.mono (Zle.left _ _)).weak (fun _ _ h=>yG (Zle.left _ _) h)) ((zi3.mono (Zle.left _ _)).weak (fun _ _ h=>yG (Zle.left _ _) h)) (zi4.mono (Zle.left _ _)) (zi5.mono (Zle.left _ _)) (zmg.mono (Zle.left _ _))) ?_
 rintro z4w _
 refine WL.merge .here .h2 ?_
 refine WL.pu rfl (WL.nil (WX.a (WC.b (WC.a (WL.pu rfl (WL.pu rfl (WL.nil (WX.a ?_))))))))
 refine WC.cond rfl (fun zmh=>?_) (fun zmh=>?_)
 ·replace h:=yd h zmh
  refine WC.b (WC.a ?_)
  refine WL.a (d:=13) rfl rfl rfl (yz (v:=(.agg #[(.int .i64 0),(.int .i64 0)])) (Eos.parts (l:=[]) .nil []) (fun _=>by kernel_rfl)) ?_
  refine WL.pu rfl ?_
  refine WL.yb rfl rfl (ya yh rfl rfl rfl .h1 rfl rfl rfl) ?_
  refine WL.pu rfl (WL.nil (WX.a (WC.ret (WX.y6 ?_))))
  obtain rfl:=Option.some.inj h
  refine WX.y8y Tryz.results35 (.agg rfl y5 rfl (y7 .here) (.tmp rfl .nil)) (fun w hw=>?_)
  exact ⟨([] ++ z4w),yF rfl rfl,trivial,hw.sub (.cons .h1 .nil)⟩
 ·replace h:=ye h zmh
  refine WC.skip (WX.a (WC.b (WC.a ?_)))
  refine WL.new (dd:=5) rfl rfl rfl (yk (cs:=[(.int .i64 0)]) y87 rfl) ?_
  intro z2q _
  refine WL.nil (WX.a (WC.b (WC.a ?_)))
  refine WL.new (dd:=6) rfl rfl rfl (yk (cs:=[(.slice none 0 0)]) y9o rfl) ?_
  intro z2D _
  refine WL.nil (WX.a ?_)
  obtain ⟨zmc,zBD,h⟩:=y2b h
  refine WC.y7u (fun (zfO : Nat) (z71 : Int) (z4N : List z1) (zbq : Zp) (zfP : Option Addr) (zfQ : Nat)=>(zmc z71 z4N = some r) ∧ (Zle (Z ++ ([] ++ z4w)) (Z ++ zbq))) (fun (zfO : Nat) (z71 : Int) (z4N : List z1) (zbq : Zp) (zfP : Option Addr) (zfQ : Nat)=>[(2,(.pointer (some ⟨z37,0,none⟩))),(5,(.pointer (some ⟨z2q,0,none⟩))),(6,(.pointer (some ⟨z2D,0,none⟩)))]) (fun (zfO : Nat) (z71 : Int) (z4N : List z1) (zbq : Zp) (zfP : Option Addr) (zfQ : Nat)=>[fz zbq,stb z37 40 [(.int .i64 0),(.int .i64 0)],stb z2q 87 [(.int .i64 z71)],stb z2D 65 [(.slice zfP z4N.length zfQ)],row (.slice zfP z4N.length zfQ) 40 2 (z4N.flatMap e40),dfr zfO]) ?_ ?_
  ·skip
   refine WC.b ?_
   obtain ⟨zs,zBE,h⟩:=z8 h
   refine WC.a ?_
   refine WL.a (d:=15) rfl rfl rfl (y9 y70 rfl (y7 .h4) rfl) ?_
   refine WL.y2v (dd:=16) rfl rfl rfl (za (l:=[.tmp 15]) Tryz.call55 (.cons rfl .nil)) .nil (ccz hz .nil .h2 fun w pz ho=>y6R _ _ _ _ _ _ _ _ _ _ _ _ _ _ _ zBE w pz ((zmf.mono ((Zle.left _ _).trans ((Zle.left _ _).trans (Zle.yn _ _ _)))).weak (fun _ _ h=>yG ((Zle.left _ _).trans ((Zle.left _ _).trans (Zle.yn _ _ _))) h)) ((zi3.mono ((Zle.left _ _).trans ((Zle.left _ _).trans (Zle.yn _ _ _)))).weak (fun _ _ h=>yG ((Zle.left _ _).trans ((Zle.left _ _).trans (Zle.yn _ _ _))) h)) (zi4.mono ((Zle.left _ _).trans ((Zle.left _ _).trans (Zle.yn _ _ _)))) (zi5.mono ((Zle.left _ _).trans ((Zle.left _ _).trans (Zle.yn _ _ _)))) (zmg.mono ((Zle.left _ _).trans ((Zle.left _ _).trans (Zle.yn _ _ _))))) ?_
   rintro z3A _
   refine WL.nil (WX.a (WC.block (WC.pool ?_)))
   refine WC.drop (.cons .here (.cons .h1 (.cons .h1 (.cons .h2 (.cons .h2 (.cons .here (.cons .here .nil))))))) ?_
   refine WC.nilRow 40 2 ?_
   refine WC.rangeFunc (f:=78) (caps:=[(.pointer (some ⟨z3A,0,none⟩))]) rfl Tryz.call78 ?_
   intro zJE zJF z3p z4O z3M zi6 zBF zBG w hw
   have hw1:=hw.selAll ((.cons .h3 (.cons .h3 (.cons .h2 (.cons .h2 (.cons .h2 (.cons .h2 (.cons .here .nil))))))) : Sel _ [fz [],stb z2D 65 [(.slice none (([] : List z1).length) 0)],row (.slice none (([] : List z1).length) 0) 40 2 (([] : List z1).flatMap e40),stb z2q 87 [(.int .i64 0)],stb z37 40 [(.int .i64 0),(.int .i64 0)],stb z2X 67 [(.slice z10 zK.length z11),(.int .i64 zj.fR.fN),(.int .i64 zj.fR.fD),(.int .i64 zj.fL.fN),(.int .i64 zj.fL.fD),(.func (.func 38) #[] #[(.pointer (some zT)),(.pointer (some zU))]),(.slice z12 zL.length z13)],blk z3p (z3M .ready none)] _)
   have pz:=(hz.call2 hw1 ((.cons .here .nil) : Sel [y1J [fz [],stb z2D 65 [(.slice none (([] : List z1).length) 0)],row (.slice none (([] : List z1).length) 0) 40 2 (([] : List z1).flatMap e40),stb z2q 87 [(.int .i64 0)],stb z37 40 [(.int .i64 0),(.int .i64 0)],stb z2X 67 [(.slice z10 zK.length z11),(.int .i64 zj.fR.fN),(.int .i64 zj.fR.fD),(.int .i64 zj.fL.fN),(.int .i64 zj.fL.fD),(.func (.func 38) #[] #[(.pointer (some zT)),(.pointer (some zU))]),(.slice z12 zL.length z13)],blk z3p (z3M .ready none)],dfr z4O,stb z3A 67 [(.slice z10 zK.length z11),(.int .i64 zs.1),(.int .i64 zs.2.1),(.int .i64 zs.2.2.1),(.int .i64 zs.2.2.2),(.func (.func 38) #[] #[(.pointer (some zT)),(.pointer (some zU))]),(.slice z12 zL.length z13)],fz ([] ++ z4w)] [y1J [fz [],stb z2D 65 [(.slice none (([] : List z1).length) 0)],row (.slice none (([] : List z1).length) 0) 40 2 (([] : List z1).flatMap e40),stb z2q 87 [(.int .i64 0)],stb z37 40 [(.int .i64 0),(.int .i64 0)],stb z2X 67 [(.slice z10 zK.length z11),(.int .i64 zj.fR.fN),(.int .i64 zj.fR.fD),(.int .i64 zj.fL.fN),(.int .i64 zj.fL.fD),(.func (.func 38) #[] #[(.pointer (some zT)),(.pointer (some zU))]),(.slice z12 zL.length z13)],blk z3p (z3M .ready none)]] [dfr z4O,stb z3A 67 [(.slice z10 zK.length z11),(.int .i64 zs.1),(.int .i64 zs.2.1),(.int .i64 zs.2.2.1),(.int .i64 zs.2.2.2),(.func (.func 38) #[] #[(.pointer (some zT)),(.pointer (some zU))]),(.slice z12 zL.length z13)],fz ([] ++ z4w)]) .h2).lend hw1 ((.cons .here .nil) : Sel [y1J [fz [],stb z2D 65 [(.slice none (([] : List z1).length) 0)],row (.slice none (([] : List z1).length) 0) 40 2 (([] : List z1).flatMap e40),stb z2q 87 [(.int .i64 0)],stb z37 40 [(.int .i64 0),(.int .i64 0)],stb z2X 67 [(.slice z10 zK.length z11),(.int .i64 zj.fR.fN),(.int .i64 zj.fR.fD),(.int .i64 zj.fL.fN),(.int .i64 zj.fL.fD),(.func (.func 38) #[] #[(.pointer (some zT)),(.pointer (some zU))]),(.slice z12 zL.length z13)],blk z3p (z3M .ready none)],dfr z4O,stb z3A 67 [(.slice z10 zK.length z11),(.int .i64 zs.1),(.int .i64 zs.2.1),(.int .i64 zs.2.2.1),(.int .i64 zs.2.2.2),(.func (.func 38) #[] #[(.pointer (some zT)),(.pointer (some zU))]),(.slice z12 zL.length z13)],fz ([] ++ z4w)] [y1J [fz [],stb z2D 65 [(.slice none (([] : List z1).length) 0)],row (.slice none (([] : List z1).length) 0) 40 2 (([] : List z1).flatMap e40),stb z2q 87 [(.int .i64 0)],stb z37 40 [(.int .i64 0),(.int .i64 0)],stb z2X 67 [(.slice z10 zK.length z11),(.int .i64 zj.fR.fN),(.int .i64 zj.fR.fD),(.int .i64 zj.fL.fN),(.int .i64 zj.fL.fD),(.func (.func 38) #[] #[(.pointer (some zT)),(.pointer (some zU))]),(.slice z12 zL.length z13)],blk z3p (z3M .ready none)]] [dfr z4O,stb z3A 67 [(.slice z10 zK.length z11),(.int .i64 zs.1),(.int .i64 zs.2.1),(.int .i64 zs.2.2.1),(.int .i64 zs.2.2.2),(.func (.func 38) #[] #[(.pointer (some zT)),(.pointer (some zU))]),(.slice z12 zL.length z13)],fz ([] ++ z4w)]) (B:=[stb z3A 67 [(.slice z10 zK.length z11),(.int .i64 zs.1),(.int .i64 zs.2.1),(.int .i64 zs.2.2.1),(.int .i64 zs.2.2.2),(.func (.func 38) #[] #[(.pointer (some zT)),(.pointer (some zU))]),(.slice z12 zL.length z13)]]) (fun _ hx'=>((.cons .h1 .nil) : Sel _ [stb z3A 67 [(.slice z10 zK.length z11),(.int .i64 zs.1),(.int .i64 zs.2.1),(.int .i64 zs.2.2.1),(.int .i64 zs.2.2.2),(.func (.func 38) #[] #[(.pointer (some zT)),(.pointer (some zU))]),(.slice z12 zL.length z13)]] _).mem hx')
   obtain ⟨z3o,zBH,h⟩:=z8 h
   refine Calls.mono (y6x (Z:=_) (z5j:=z3p) (zP:=(Option Addr × Nat)) (z1K:=(fun (g : Option Addr × Nat) (s : Nat × List z1 × Int)=>y1J ([fz [],stb z2D 65 [(.slice g.1 s.2.1.length g.2)],row (.slice g.1 s.2.1.length g.2) 40 2 (s.2.1.flatMap e40),stb z2q 87 [(.int .i64 s.2.2)],stb z37 40 [(.int .i64 0),(.int .i64 0)],stb z2X 67 [(.slice z10 zK.length z11),(.int .i64 zj.fR.fN),(.int .i64 zj.fR.fD),(.int .i64 zj.fL.fN),(.int .i64 zj.fL.fD),(.func (.func 38) #[] #[(.pointer (some zT)),(.pointer (some zU))]),(.slice z12 zL.length z13)]] ++ [blk z3p (z3M (rdy (pcs [] s.1)) (pcs [] s.1))]))) (z5k:=(fun (g : Option Addr × Nat) (s : Nat × List z1 × Int)=>True)) (z6X:=(none,0)) (z6q:=⟨z3A,0,none⟩) (z9J:=z10) (z9K:=z11) (zlU:=zT) (zlV:=zmd) (zlW:=zme) (zlX:=zU) (zfH:=z12) (zfI:=z13) (zh:=(Nat × List z1 × Int)) (z1J:=(fun (x : z1) (s : Nat × List z1 × Int)=>chk (s.1 = 0) (y1Q z5m z4v x s.2.1 s.2.2))) (s0_26961:=(0,([] : List z1),0)) (z28:=zK) (zbk:=(⟨(⟨zs.1,zs.2.1⟩ : z1),(⟨zs.2.2.1,zs.2.2.2⟩ : z1)⟩ : S41)) (zfG:=z5m) (zbl:=z4v) (z2p:=zL) (r:=z3o) w pz ?_ trivial ((((zmf.mono ((Zle.left _ _).trans ((Zle.left _ _).trans (Zle.yn _ _ _)))).weak (fun _ _ h=>yG ((Zle.left _ _).trans ((Zle.left _ _).trans (Zle.yn _ _ _))) h)).mono (Zle.left _ _)).weak (fun _ _ h=>yG (Zle.left _ _) h)) ((((zi3.mono ((Zle.left _ _).trans ((Zle.left _ _).trans (Zle.yn _ _ _)))).weak (fun _ _ h=>yG ((Zle.left _ _).trans ((Zle.left _ _).trans (Zle.yn _ _ _))) h)).mono (Zle.left _ _)).weak (fun _ _ h=>yG (Zle.left _ _) h)) ((zi4.mono ((Zle.left _ _).trans ((Zle.left _ _).trans (Zle.yn _ _ _)))).mono (Zle.left _ _)) ((zi5.mono ((Zle.left _ _).trans ((Zle.left _ _).trans (Zle.yn _ _ _)))).mono (Zle.left _ _)) ((zmg.mono ((Zle.left _ _).trans ((Zle.left _ _).trans (Zle.yn _ _ _)))).mono (Zle.left _ _)) ((hw1.lent ((.cons .here .nil) : Sel [y1J [fz [],stb z2D 65 [(.slice none (([] : List z1).length) 0)],row (.slice none (([] : List z1).length) 0) 40 2 (([] : List z1).flatMap e40),stb z2q 87 [(.int .i64 0)],stb z37 40 [(.int .i64 0),(.int .i64 0)],stb z2X 67 [(.slice z10 zK.length z11),(.int .i64 zj.fR.fN),(.int .i64 zj.fR.fD),(.int .i64 zj.fL.fN),(.int .i64 zj.fL.fD),(.func (.func 38) #[] #[(.pointer (some zT)),(.pointer (some zU))]),(.slice z12 zL.length z13)],blk z3p (z3M .ready none)],dfr z4O,stb z3A 67 [(.slice z10 zK.length z11),(.int .i64 zs.1),(.int .i64 zs.2.1),(.int .i64 zs.2.2.1),(.int .i64 zs.2.2.2),(.func (.func 38) #[] #[(.pointer (some zT)),(.pointer (some zU))]),(.slice z12 zL.length z13)],fz ([] ++ z4w)] [y1J [fz [],stb z2D 65 [(.slice none (([] : List z1).length) 0)],row (.slice none (([] : List z1).length) 0) 40 2 (([] : List z1).flatMap e40),stb z2q 87 [(.int .i64 0)],stb z37 40 [(.int .i64 0),(.int .i64 0)],stb z2X 67 [(.slice z10 zK.length z11),(.int .i64 zj.fR.fN),(.int .i64 zj.fR.fD),(.int .i64 zj.fL.fN),(.int .i64 zj.fL.fD),(.func (.func 38) #[] #[(.pointer (some zT)),(.pointer (some zU))]),(.slice z12 zL.length z13)],blk z3p (z3M .ready none)]] [dfr z4O,stb z3A 67 [(.slice z10 zK.length z11),(.int .i64 zs.1),(.int .i64 zs.2.1),(.int .i64 zs.2.2.1),(.int .i64 zs.2.2.2),(.func (.func 38) #[] #[(.pointer (some zT)),(.pointer (some zU))]),(.slice z12 zL.length z13)],fz ([] ++ z4w)]) (B:=[stb z3A 67 [(.slice z10 zK.length z11),(.int .i64 zs.1),(.int .i64 zs.2.1),(.int .i64 zs.2.2.1),(.int .i64 zs.2.2.2),(.func (.func 38) #[] #[(.pointer (some zT)),(.pointer (some zU))]),(.slice z12 zL.length z13)]]) (fun _ hx'=>((.cons .h1 .nil) : Sel _ [stb z3A 67 [(.slice z10 zK.length z11),(.int .i64 zs.1),(.int .i64 zs.2.1),(.int .i64 zs.2.2.1),(.int .i64 zs.2.2.2),(.func (.func 38) #[] #[(.pointer (some zT)),(.pointer (some zU))]),(.slice z12 zL.length z13)]] _).mem hx') (.head _) _).stb) zBH (hw1.owns ((.cons .here .nil) : Sel [y1J [fz [],stb z2D 65 [(.slice none (([] : List z1).length) 0)],row (.slice none (([] : List z1).length) 0) 40 2 (([] : List z1).flatMap e40),stb z2q 87 [(.int .i64 0)],stb z37 40 [(.int .i64 0),(.int .i64 0)],stb z2X 67 [(.slice z10 zK.length z11),(.int .i64 zj.fR.fN),(.int .i64 zj.fR.fD),(.int .i64 zj.fL.fN),(.int .i64 zj.fL.fD),(.func (.func 38) #[] #[(.pointer (some zT)),(.pointer (some zU))]),(.slice z12 zL.length z13)],blk z3p (z3M .ready none)],dfr z4O,stb z3A 67 [(.slice z10 zK.length z11),(.int .i64 zs.1),(.int .i64 zs.2.1),(.int .i64 zs.2.2.1),(.int .i64 zs.2.2.2),(.func (.func 38) #[] #[(.pointer (some zT)),(.pointer (some zU))]),(.slice z12 zL.length z13)],fz ([] ++ z4w)] [y1J [fz [],stb z2D 65 [(.slice none (([] : List z1).length) 0)],row (.slice none (([] : List z1).length) 0) 40 2 (([] : List z1).flatMap e40),stb z2q 87 [(.int .i64 0)],stb z37 40 [(.int .i64 0),(.int .i64 0)],stb z2X 67 [(.slice z10 zK.length z11),(.int .i64 zj.fR.fN),(.int .i64 zj.fR.fD),(.int .i64 zj.fL.fN),(.int .i64 zj.fL.fD),(.func (.func 38) #[] #[(.pointer (some zT)),(.pointer (some zU))]),(.slice z12 zL.length z13)],blk z3p (z3M .ready none)]] [dfr z4O,stb z3A 67 [(.slice z10 zK.length z11),(.int .i64 zs.1),(.int .i64 zs.2.1),(.int .i64 zs.2.2.1),(.int .i64 zs.2.2.2),(.func (.func 38) #[] #[(.pointer (some zT)),(.pointer (some zU))]),(.slice z12 zL.length z13)],fz ([] ++ z4w)]))) ?_
   ·skip
    refine y8x (LI:=(fun (g : Option Addr × Nat) (s : Nat × List z1 × Int)=>[fz [],stb z2D 65 [(.slice g.1 s.2.1.length g.2)],row (.slice g.1 s.2.1.length g.2) 40 2 (s.2.1.flatMap e40),stb z2q 87 [(.int .i64 s.2.2)],stb z37 40 [(.int .i64 0),(.int .i64 0)],stb z2X 67 [(.slice z10 zK.length z11),(.int .i64 zj.fR.fN),(.int .i64 zj.fR.fD),(.int .i64 zj.fL.fN),(.int .i64 zj.fL.fD),(.func (.func 38) #[] #[(.pointer (some zT)),(.pointer (some zU))]),(.slice z12 zL.length z13)]])) (pc:=(fun (s : Nat × List z1 × Int)=>pcs [] s.1)) zi6 zBF zBG (fun _ _=>rfl) (by decide) ?_
    rintro z8b _ ⟨zdi,zdj⟩ ⟨zBI,z36,zi2⟩ zBJ zBK Fb wb zt5 _ hz
    replace hz:=hz.left
    letI : Rnd:=inR z3p
    obtain ⟨hp0,z5o⟩:=yj zt5
    replace hp0 : zBI = 0:=hp0; subst hp0; clear zt5
    replace z5o : y1Q z5m z4v z8b z36 zi2 = some (zBJ,zBK):=z5o
    unfold y1Q at z5o
    refine WC.restr (env':=[(1,(.pointer (some ⟨z2X,0,none⟩))),(12,(.bool (decide (zfN ≠ 0)))),(5,(.pointer (some ⟨z2q,0,none⟩))),(6,(.pointer (some ⟨z2D,0,none⟩))),(17,(.agg #[(.int .i64 z8b.fN),(.int .i64 z8b.fD)]))]) (.cons rfl (.cons rfl (.cons rfl (.cons rfl (.cons rfl .nil))))) ?_
    refine WC.eqL (L':=[fz [],stb z2D 65 [(.slice zdi z36.length zdj)],row (.slice zdi z36.length zdj) 40 2 (z36.flatMap e40),stb z2q 87 [(.int .i64 zi2)],stb z37 40 [(.int .i64 0),(.int .i64 0)],stb z2X 67 [(.slice z10 zK.length z11),(.int .i64 zj.fR.fN),(.int .i64 zj.fR.fD),(.int .i64 zj.fL.fN),(.int .i64 zj.fL.fD),(.func (.func 38) #[] #[(.pointer (some zT)),(.pointer (some zU))]),(.slice z12 zL.length z13)],blk z3p (z3M .ready none)]) rfl ?_
    refine WC.a ?_
    refine WL.new (dd:=7) rfl rfl rfl (yk (cs:=[(.int .i64 0),(.int .i64 0)]) yo rfl) ?_
    intro zBL _
    refine WL.yb rfl rfl (ya yh rfl rfl rfl .here rfl rfl rfl) ?_
    refine WL.nil ?_
    refine WX.y9i zi6 .h7 ?_
    refine WC.block (WC.b ?_)
    obtain ⟨z5n,zBM,z5o⟩:=z8 z5o
    refine WC.a ?_
    refine WL.a (d:=18) rfl rfl rfl (y4 y8S rfl rfl) ?_
    refine WL.a (d:=19) rfl rfl rfl (yc ybI rfl (yp .h7 rfl)) ?_
    refine WL.a (d:=20) rfl rfl rfl (y9 y5 rfl (y7 .h1) rfl) ?_
    refine WL.b (dd:=21) rfl rfl rfl (y3i (l:=[.tmp 5,.tmp 20]) Tryz.call38 rfl (.cons rfl (.cons rfl .nil))) (.cons .h5 .nil) (ccz hz (.cons .h5 .nil) .h2 fun w pz ho=>y89 _ _ _ _ _ _ _ _ _ _ _ zBM w pz ((zi3.mono ((Zle.left _ _).trans ((Zle.left _ _).trans ((Zle.yn _ _ _).trans (Zle.left _ _))))).weak (fun _ _ h=>yG ((Zle.left _ _).trans ((Zle.left _ _).trans ((Zle.yn _ _ _).trans (Zle.left _ _)))) h)) (zi4.mono ((Zle.left _ _).trans ((Zle.left _ _).trans ((Zle.yn _ _ _).trans (Zle.left _ _))))) (zi5.mono ((Zle.left _ _).trans ((Zle.left _ _).trans ((Zle.yn _ _ _).trans (Zle.left _ _))))) ho) ?_
    refine WL.new (dd:=8) rfl rfl rfl (yk (cs:=[(.int .i64 0),(.int .i64 0)]) yo rfl) ?_
    intro zBN _
    refine WL.yb rfl rfl (ya yh rfl rfl rfl .here rfl rfl rfl) ?_
    refine WL.nil (WX.a (WC.b ?_))
    obtain ⟨zmb,zt6,z5o⟩:=z8 z5o
    refine WC.yH (fun i=>[].contains i) [] rfl ?_
    refine WD.e (i:=0) (d:=22) (by kernel_rfl) rfl z6 z7 rfl rfl rfl (yc y4r rfl (yp .h5 rfl)) ?_
    refine WD.a (i:=1) (d:=23) (by kernel_rfl) rfl z6 z7 rfl rfl rfl (fun _=>yP Tryz.underlying65 rfl) ?_
    refine WD.a (i:=2) (d:=24) (by kernel_rfl) rfl z6 z7 rfl rfl rfl (fun _=>y6M rfl rfl) ?_
    refine WD.a (i:=3) (d:=25) (by kernel_rfl) rfl z6 z7 rfl rfl rfl (fun _=>q_m rfl) ?_
    refine WD.mid (fuel':=0) [(1,(.pointer (some ⟨z2X,0,none⟩))),(12,(.bool (decide (zfN ≠ 0)))),(5,(.pointer (some ⟨z2q,0,none⟩))),(6,(.pointer (some ⟨z2D,0,none⟩))),(17,(.agg #[(.int .i64 z8b.fN),(.int .i64 z8b.fD)])),(7,(.pointer (some ⟨zBL,0,none⟩))),(18,(.pointer (some ⟨z2X,5,none⟩))),(19,(.func (.func 38) #[] #[(.pointer (some zT)),(.pointer (some zU))])),(20,(.agg #[(.int .i64 z8b.fN),(.int .i64 z8b.fD)])),(21,(.agg #[(.int .i64 z5n.1.fN),(.int .i64 z5n.1.fD)])),(8,(.pointer (some ⟨zBN,0,none⟩))),(22,(.slice zdi z36.length zdj)),(23,(.int .i64 ((z36.length : Nat) : Int))),(24,(.bool (decide (((z36.length : Nat) : Int) = 0)))),(25,(.bool (decide (((z36.length : Nat) : Int) = 0)))),(32,(.bool zmb))] (yC 11 [10,9,8,7,6,5,4,3,2,1,0]) ?_ (fun zt7=>?_)
    rotate_left
    ·rcases Bool.eq_false_or_eq_true (decide (((z36.length : Nat) : Int) = 0)) with hb' | hb'
     ·have zmi:=hb'; clear hb'
      have zmj:=yd zt6 zmi
      replace zmj:=Option.some.inj zmj
      refine WD.pin (i:=25) rfl zmi ?_
      refine WD.b (i:=4) (d:=26) (by kernel_rfl) rfl z6 z7 rfl rfl rfl ?_
      refine WD.b (i:=5) (d:=27) (by kernel_rfl) rfl z6 z7 rfl rfl rfl ?_
      refine WD.b (i:=6) (d:=28) (by kernel_rfl) rfl z6 z7 rfl rfl rfl ?_
      refine WD.b (i:=7) (d:=29) (by kernel_rfl) rfl z6 z7 rfl rfl rfl ?_
      refine WD.b (i:=8) (d:=30) (by kernel_rfl) rfl z6 z7 rfl rfl rfl ?_
      refine WD.b (i:=9) (d:=31) (by kernel_rfl) rfl z6 z7 rfl rfl rfl ?_
      refine WD.a (i:=10) (d:=32) (by kernel_rfl) rfl z6 z7 rfl rfl rfl (fun _=>y18 rfl rfl) ?_
      refine WD.yt (.cons .here (.cons .here (.cons .here (.cons .here (.cons .here (.cons .here (.cons .here (.cons .here (.cons .here .nil))))))))) ?_ zt7
      exact (.cons rfl (.cons rfl (.cons rfl (.cons rfl (.cons rfl (.cons rfl (.cons rfl (.cons rfl (.cons rfl (.cons rfl (.cons rfl (.cons rfl (.cons rfl (.cons rfl (.cons (zf (Eq.symm zmi)) (.cons (zf zmj) .nil))))))))))))))))
     ·have zmk:=hb'; clear hb'
      have zbr:=ye zt6 zmk
      obtain ⟨zfR,zbr⟩:=yj zbr
      obtain ⟨zt4,zBO,zbr⟩:=z8 zbr
      replace zbr:=Option.some.inj zbr
      refine WD.pin (i:=25) rfl zmk ?_
      refine WD.e (i:=4) (d:=26) (by kernel_rfl) rfl z6 z7 rfl rfl rfl (y9 y5 rfl (y7 .here) rfl) ?_
      refine WD.e (i:=5) (d:=27) (by kernel_rfl) rfl z6 z7 rfl rfl rfl (yc y4r rfl (yp .h5 rfl)) ?_
      refine WD.know (fun w hw=>Hp.y3y .h6 hw (by intro hz'; have:=zfR; rw [hz'] at this; omega)) ?_
      rintro ⟨zJG,rfl⟩
      refine WD.a (i:=6) (d:=28) (by kernel_rfl) rfl z6 z7 rfl rfl rfl (fun _=>y11 yK rfl rfl zfR.1 zfR.2 y3x) ?_
      refine WD.e (i:=7) (d:=29) (by kernel_rfl) rfl z6 z7 rfl rfl rfl (ys (cs:=(e40 (nth z36 0))) y5 rfl rfl (y3B .h6 (y2A (enc:=e40) (l:=z36) (i:=0) (sz:=2) (fun _=>rfl) zfR.1 zfR.2))) ?_
      refine WD.c (i:=8) (d:=30) (by kernel_rfl) rfl z6 z7 rfl rfl rfl (za (l:=[.tmp 26,.tmp 29]) Tryz.call24 (.cons rfl (.cons rfl .nil))) (ccz hz .nil .h4 fun w pz ho=>y2w _ _ _ _ zBO w pz ) ?_
      refine WD.a (i:=9) (d:=31) (by kernel_rfl) rfl z6 z7 rfl rfl rfl (fun _=>y5x rfl rfl) ?_
      refine WD.a (i:=10) (d:=32) (by kernel_rfl) rfl z6 z7 rfl rfl rfl (fun _=>y19 rfl rfl) ?_
      refine WD.yt (.cons .here (.cons .here (.cons .here (.cons .here (.cons .here (.cons .here (.cons .here (.cons .here (.cons .here .nil))))))))) ?_ zt7
      exact (.cons rfl (.cons rfl (.cons rfl (.cons rfl (.cons rfl (.cons rfl (.cons rfl (.cons rfl (.cons rfl (.cons rfl (.cons rfl (.cons rfl (.cons rfl (.cons rfl (.cons (zf (Eq.symm zmk)) (.cons (zf zbr) .nil))))))))))))))))
    refine WD.done (by kernel_rfl) ?_
    refine WX.a ?_
    refine WC.cond rfl (fun zml=>?_) (fun zml=>?_)
    ·replace z5o:=yd z5o zml
     refine WC.a ?_
     refine WL.a (d:=33) rfl rfl rfl (y9 y5 rfl (y7 .here) rfl) ?_
     refine WL.new (dd:=34) rfl rfl rfl (yA (cs:=([z5n.1] : List z1).flatMap e40) yK (Eos.parts (l:=[.tmp 33]) (.cons rfl .nil) [0]) (fun _=>by kernel_rfl) rfl (by unfold maxLen; omega)) ?_
     intro zmm _
     refine WL.yb rfl rfl (ya ya2 rfl rfl rfl .h6 rfl rfl rfl) ?_
     refine WL.nil (WX.yi ?_)
     obtain ⟨rfl,rfl⟩:=y7I z5o
     exact WX.y5b zi6 .h4 (fun w' hw'=>⟨((some ⟨zmm,0,none⟩),1),rfl,trivial,(hw'.selAll ((.cons .h6 (.cons .h1 (.cons .h1 (.cons .h2 (.cons .h4 (.cons .h4 (.cons .here .nil))))))) : Sel _ [fz [],stb z2D 65 [(.slice (some ⟨zmm,0,none⟩) (([z5n.1] : List z1).length) 1)],row (.slice (some ⟨zmm,0,none⟩) (([z5n.1] : List z1).length) 1) 40 2 (([z5n.1] : List z1).flatMap e40),stb z2q 87 [(.int .i64 z5n.2.fE)],stb z37 40 [(.int .i64 0),(.int .i64 0)],stb z2X 67 [(.slice z10 zK.length z11),(.int .i64 zj.fR.fN),(.int .i64 zj.fR.fD),(.int .i64 zj.fL.fN),(.int .i64 zj.fL.fD),(.func (.func 38) #[] #[(.pointer (some zT)),(.pointer (some zU))]),(.slice z12 zL.length z13)],blk z3p (z3M .ready none)] _)).sub (.cons .here .nil)⟩)
    ·replace z5o:=ye z5o zml
     refine WC.skip (WX.yi ?_)
     obtain ⟨rfl,rfl⟩:=y7I z5o
     exact WX.y5b zi6 .h2 (fun w' hw'=>⟨(zdi,zdj),rfl,trivial,(hw'.selAll ((.cons .h4 (.cons .h4 (.cons .h4 (.cons .h2 (.cons .h3 (.cons .h3 (.cons .here .nil))))))) : Sel _ [fz [],stb z2D 65 [(.slice zdi z36.length zdj)],row (.slice zdi z36.length zdj) 40 2 (z36.flatMap e40),stb z2q 87 [(.int .i64 z5n.2.fE)],stb z37 40 [(.int .i64 0),(.int .i64 0)],stb z2X 67 [(.slice z10 zK.length z11),(.int .i64 zj.fR.fN),(.int .i64 zj.fR.fD),(.int .i64 zj.fL.fN),(.int .i64 zj.fL.fD),(.func (.func 38) #[] #[(.pointer (some zT)),(.pointer (some zU))]),(.slice z12 zL.length z13)],blk z3p (z3M .ready none)] _)).sub (.cons .here .nil)⟩)
   ·skip
    rintro _ w' ⟨zBP,⟨zfS,zfT⟩,rfl,_,hp⟩
    have hp1:=hw1.call ((.cons .here .nil) : Sel [y1J [fz [],stb z2D 65 [(.slice none (([] : List z1).length) 0)],row (.slice none (([] : List z1).length) 0) 40 2 (([] : List z1).flatMap e40),stb z2q 87 [(.int .i64 0)],stb z37 40 [(.int .i64 0),(.int .i64 0)],stb z2X 67 [(.slice z10 zK.length z11),(.int .i64 zj.fR.fN),(.int .i64 zj.fR.fD),(.int .i64 zj.fL.fN),(.int .i64 zj.fL.fD),(.func (.func 38) #[] #[(.pointer (some zT)),(.pointer (some zU))]),(.slice z12 zL.length z13)],blk z3p (z3M .ready none)],dfr z4O,stb z3A 67 [(.slice z10 zK.length z11),(.int .i64 zs.1),(.int .i64 zs.2.1),(.int .i64 zs.2.2.1),(.int .i64 zs.2.2.2),(.func (.func 38) #[] #[(.pointer (some zT)),(.pointer (some zU))]),(.slice z12 zL.length z13)],fz ([] ++ z4w)] [y1J [fz [],stb z2D 65 [(.slice none (([] : List z1).length) 0)],row (.slice none (([] : List z1).length) 0) 40 2 (([] : List z1).flatMap e40),stb z2q 87 [(.int .i64 0)],stb z37 40 [(.int .i64 0),(.int .i64 0)],stb z2X 67 [(.slice z10 zK.length z11),(.int .i64 zj.fR.fN),(.int .i64 zj.fR.fD),(.int .i64 zj.fL.fN),(.int .i64 zj.fL.fD),(.func (.func 38) #[] #[(.pointer (some zT)),(.pointer (some zU))]),(.slice z12 zL.length z13)],blk z3p (z3M .ready none)]] [dfr z4O,stb z3A 67 [(.slice z10 zK.length z11),(.int .i64 zs.1),(.int .i64 zs.2.1),(.int .i64 zs.2.2.1),(.int .i64 zs.2.2.2),(.func (.func 38) #[] #[(.pointer (some zT)),(.pointer (some zU))]),(.slice z12 zL.length z13)],fz ([] ++ z4w)]) hp
    have hp2 : Hp _ _ w' [fz [],stb z2D 65 [(.slice zfS z3o.2.1.length zfT)],row (.slice zfS z3o.2.1.length zfT) 40 2 (z3o.2.1.flatMap e40),stb z2q 87 [(.int .i64 z3o.2.2)],stb z37 40 [(.int .i64 0),(.int .i64 0)],stb z2X 67 [(.slice z10 zK.length z11),(.int .i64 zj.fR.fN),(.int .i64 zj.fR.fD),(.int .i64 zj.fL.fN),(.int .i64 zj.fL.fD),(.func (.func 38) #[] #[(.pointer (some zT)),(.pointer (some zU))]),(.slice z12 zL.length z13)],blk z3p (z3M (rdy (pcs [] z3o.1)) (pcs [] z3o.1)),fz zBP,dfr z4O,stb z3A 67 [(.slice z10 zK.length z11),(.int .i64 zs.1),(.int .i64 zs.2.1),(.int .i64 zs.2.2.1),(.int .i64 zs.2.2.2),(.func (.func 38) #[] #[(.pointer (some zT)),(.pointer (some zU))]),(.slice z12 zL.length z13)],fz ([] ++ z4w)]:=hp1.pickAll .h1
    refine ⟨_,pcs [] z3o.1,_,rfl,(hp2.sub ((.cons .h6 (.cons .here (.cons .here (.cons .here (.cons .here (.cons .here (.cons .here (.cons .h1 (.cons .h1 (.cons .h1 .nil)))))))))) : Sel _ [blk z3p (z3M (rdy (pcs [] z3o.1)) (pcs [] z3o.1)),fz [],stb z2D 65 [(.slice zfS z3o.2.1.length zfT)],row (.slice zfS z3o.2.1.length zfT) 40 2 (z3o.2.1.flatMap e40),stb z2q 87 [(.int .i64 z3o.2.2)],stb z37 40 [(.int .i64 0),(.int .i64 0)],stb z2X 67 [(.slice z10 zK.length z11),(.int .i64 zj.fR.fN),(.int .i64 zj.fR.fD),(.int .i64 zj.fL.fN),(.int .i64 zj.fL.fD),(.func (.func 38) #[] #[(.pointer (some zT)),(.pointer (some zU))]),(.slice z12 zL.length z13)],dfr z4O,stb z3A 67 [(.slice z10 zK.length z11),(.int .i64 zs.1),(.int .i64 zs.2.1),(.int .i64 zs.2.2.1),(.int .i64 zs.2.2.2),(.func (.func 38) #[] #[(.pointer (some zT)),(.pointer (some zU))]),(.slice z12 zL.length z13)],fz ([] ++ z4w)] _)),?_⟩
    clear hp hp1 hp2 pz hw hw1
    refine wjN ?_
    letI : Rnd:=aft z4O
    refine WX.merge .here .h7 ?_
    refine WX.yi ?_
    exact WX.midR (D:=fun (g : Nat × Int × List z1 × Zp × Option Addr × Nat)=>g.1) (G:=Nat × Int × List z1 × Zp × Option Addr × Nat) ⟨z4O,z3o.2.2,z3o.2.1,(([] ++ z4w) ++ []),zfS,zfT⟩ ⟨h,((Zle.left _ _).trans (Zle.yn _ _ _))⟩ (.cons rfl (.cons rfl (.cons rfl .nil))) (.cons .here (.cons .h3 (.cons .h2 (.cons .here (.cons .here (.cons .h1 .nil))))))
  ·rintro zfO z71 z4N zbq zfP zfQ ⟨h,zJH⟩
   replace h:=(zBD z71 z4N).symm.trans h
   letI : Rnd:=aft zfO
   refine WC.b (WC.b (WC.a ?_))
   refine WL.a (d:=35) rfl rfl rfl (y4 y48 rfl rfl) ?_
   refine WL.a (d:=36) rfl rfl rfl (yc y3s rfl (yp .h2 rfl)) ?_
   refine WL.pu rfl (WL.nil (WX.a ?_))
   refine WC.cond rfl (fun zmn=>?_) (fun zmn=>?_)
   ·replace h:=yd h zmn
    refine WC.b ?_
    refine WC.yH (fun i=>[3].contains i) [stbp z2q 87 [(0,(.int .i64 z71))]] rfl ?_
    refine WD.a (i:=0) (d:=38) (by kernel_rfl) rfl z6 z7 rfl rfl rfl (fun _=>yz (v:=(.agg #[(.int .i64 0),(.int .i64 0)])) (Eos.parts (l:=[]) .nil []) (fun _=>by kernel_rfl)) ?_
    refine WD.a (i:=1) (d:=39) (by kernel_rfl) rfl z6 z7 rfl rfl rfl (fun _=>y4 y48 rfl rfl) ?_
    refine WD.y2u (i:=2) (d:=40) (by kernel_rfl) rfl z6 z7 rfl rfl rfl (Sin.wk (.cons .h2 .nil) (.stb (.cons rfl .nil) .nil)) (yc y3s rfl (y8P .here (.head _))) ?_
    refine WD.forced0 (i:=3) rfl (by kernel_rfl) rfl rfl rfl (Sin.wk (.cons .h2 .nil) (.stb (.cons rfl .nil) .nil)) (ya yh rfl rfl rfl .h1 rfl rfl rfl) ?_
    refine WD.a (i:=4) (d:=3) (by kernel_rfl) rfl z6 z7 rfl rfl rfl (fun _=>q_z rfl) ?_
    refine WD.done (by kernel_rfl) ?_
    refine WX.a (WC.ret (WX.y6 ?_))
    obtain rfl:=Option.some.inj h
    refine WX.y5J .h5 Tryz.results35 (.agg rfl y5 rfl (y7 .h1) (.tmp rfl .nil)) (fun w hw=>?_)
    exact ⟨zbq,yF rfl rfl,trivial,hw.sub (.cons .h2 .nil)⟩
   ·replace h:=ye h zmn
    refine WC.skip (WX.a (WC.b ?_))
    obtain ⟨zfU,h⟩:=yj h
    refine WC.a ?_
    refine WL.a (d:=41) rfl rfl rfl (yc y4r rfl (yp .h3 rfl)) ?_
    refine WL.know (fun w hw=>Hp.y3y .h4 hw (by intro hz'; have:=zfU; rw [hz'] at this; omega)) ?_
    rintro ⟨zJI,rfl⟩
    refine WL.a (d:=42) rfl rfl rfl (y11 yK rfl rfl zfU.1 zfU.2 y3x) ?_
    refine WL.a (d:=43) rfl rfl rfl (ys (cs:=(e40 (nth z4N 0))) y5 rfl rfl (y3B .h4 (y2A (enc:=e40) (l:=z4N) (i:=0) (sz:=2) (fun _=>rfl) zfU.1 zfU.2))) ?_
    refine WL.yb rfl rfl (ya yh rfl rfl rfl .h1 rfl rfl rfl) ?_
    refine WL.pu rfl (WL.nil (WX.a (WC.ret ?_)))
    obtain rfl:=Option.some.inj h
    refine WX.y5J .h5 Tryz.results35 (.agg rfl y5 rfl (y7 .h1) (.tmp rfl .nil)) (fun w hw=>?_)
    exact ⟨zbq,yF rfl rfl,trivial,hw.sub (.cons .h2 .nil)⟩
def y2Z (z6s : List (List z2)) (z1f : S41) : Option (z1 × Int) :=
 (y2D z6s z1f z6s z1f ([z1f.fL] : List z1)).bind fun zmo=>some (zmo.1,zmo.2)
set_option maxRecDepth 20000 in
theorem y6y (Z : Zp) (zbs : Option Addr) (zbt : Nat) (z6s : List (List z2)) (z1f : S41) (r : z1 × Int)
  (h : y2Z z6s z1f = some r) (w₀ : World) (hz : PZ [] w₀ Z)
  (zt8 : ZS Z 1 (p23 Z) zbs zbt z6s) :
  Calls Tryz.prog 13 #[(.slice zbs z6s.length zbt),(.agg #[(.int .i64 z1f.fR.fN),(.int .i64 z1f.fR.fD),(.int .i64 z1f.fL.fN),(.int .i64 z1f.fL.fD)])] w₀ fun e w'=>∃ Zn : Zp,e = .returned (.tuple #[(.agg #[(.int .i64 r.1.fN),(.int .i64 r.1.fD)]),(.int .i64 r.2)]) ∧ True ∧ Hp [] w₀ w' [fz Zn]:=by
 unfold y2Z at h
 refine Calls.yg (vs:=[(.slice zbs z6s.length zbt),(.agg #[(.int .i64 z1f.fR.fN),(.int .i64 z1f.fR.fD),(.int .i64 z1f.fL.fN),(.int .i64 z1f.fL.fD)])]) (pre:=[]) (env:=[(0,(.slice zbs z6s.length zbt)),(1,(.agg #[(.int .i64 z1f.fR.fN),(.int .i64 z1f.fR.fD),(.int .i64 z1f.fL.fN),(.int .i64 z1f.fL.fD)]))]) Tryz.func13 rfl Tryz.ntmps13 rfl (Hp.nil w₀ _) rfl ?_
 refine WC.pool (WC.b (WC.a ?_))
 refine WL.new (dd:=2) rfl rfl rfl (yx (cs:=[(.slice zbs z6s.length zbt)]) rfl rfl) ?_
 intro zBQ _
 refine WL.new (dd:=3) rfl rfl rfl (yx (cs:=[(.int .i64 z1f.fR.fN),(.int .i64 z1f.fR.fD),(.int .i64 z1f.fL.fN),(.int .i64 z1f.fL.fD)]) rfl rfl) ?_
 intro zBR _
 refine WL.new (dd:=4) rfl rfl rfl (yk (cs:=[(.int .i64 0),(.int .i64 0)]) yo rfl) ?_
 intro zJJ _
 refine WL.pu rfl (WL.nil (WX.a (WC.b (WC.a ?_))))
 refine WL.a (d:=7) rfl rfl rfl (yc y47 rfl (yp .h2 rfl)) ?_
 refine WL.a (d:=8) rfl rfl rfl (y9 y15 rfl (y7 .h1) rfl) ?_
 refine WL.a (d:=9) rfl rfl rfl (y4 y3r rfl rfl) ?_
 refine WL.a (d:=10) rfl rfl rfl (ys (cs:=[(.int .i64 z1f.fL.fN),(.int .i64 z1f.fL.fD)]) y5 rfl rfl (yW (s:=2) .h1 rfl)) ?_
 refine WL.new (dd:=11) rfl rfl rfl (yA (cs:=([z1f.fL] : List z1).flatMap e40) yK (Eos.parts (l:=[.tmp 10]) (.cons rfl .nil) [0]) (fun _=>by kernel_rfl) rfl (by unfold maxLen; omega)) ?_
 intro zt9 _
 refine WL.a (d:=12) rfl rfl rfl (yz (v:=(.agg #[(.slice zbs z6s.length zbt),(.int .i64 z1f.fR.fN),(.int .i64 z1f.fR.fD),(.int .i64 z1f.fL.fN),(.int .i64 z1f.fL.fD),.nilFunc,(.slice (some ⟨zt9,0,none⟩) (([z1f.fL] : List z1).length) 1)])) (Eos.parts (l:=[.tmp 7,.tmp 8,.tmp 11]) (.cons rfl (.cons rfl (.cons rfl .nil))) [0,1,3]) (fun _=>by kernel_rfl)) ?_
 refine WL.new (dd:=6) rfl rfl rfl (yk (cs:=[(.slice none 0 0),(.int .i64 0),(.int .i64 0),(.int .i64 0),(.int .i64 0),.nilFunc,(.slice none 0 0)]) yaU rfl) ?_
 intro zJK _
 refine WL.yb rfl rfl (ya ybF rfl rfl rfl .here rfl rfl rfl) ?_
 refine WL.nil (WX.a (WC.b (WC.a ?_)))
 refine WL.a (d:=13) rfl rfl rfl (y1i (Eos.caps (l:=[.tmp 2,.tmp 3]) (.cons rfl (.cons rfl .nil)))) ?_
 refine WL.a (d:=14) rfl rfl rfl (y4 y8S rfl rfl) ?_
 refine WL.yb rfl rfl (y9l (ds:=[(.slice zbs z6s.length zbt),(.int .i64 z1f.fR.fN),(.int .i64 z1f.fR.fD),(.int .i64 z1f.fL.fN),(.int .i64 z1f.fL.fD),(.func (.func 38) #[] #[(.pointer (some ⟨zBQ,0,none⟩)),(.pointer (some ⟨zBR,0,none⟩))]),(.slice (some ⟨zt9,0,none⟩) (([z1f.fL] : List z1).length) 1)]) ybG rfl rfl rfl rfl rfl .here rfl rfl) ?_
 refine WL.nil (WX.a (WC.b ?_))
 obtain ⟨zmo,zBS,h⟩:=z8 h
 refine WC.a ?_
 refine WL.a (d:=15) rfl rfl rfl (y9 y70 rfl (y7 .here) rfl) ?_
 refine WL.freezeC (Z:=Z) .h4 .h4 ?_
 intro zJL zi7 zBT
 refine WL.freezeC (Z:=Z) .h4 .here ?_
 intro zJM zfV zBU
 refine WL.freezeS (ls:=([z1f.fL] : List z1)) .h2 .here hz (RR.flat (enc:=e40) (fun _=>rfl) _) ?_
 intro zBV zdk zBW
 refine WL.y2v (dd:=16) rfl rfl rfl (za (l:=[.tmp 15]) Tryz.call35 (.cons rfl .nil)) .nil (ccz hz .nil .here fun w pz ho=>y7v _ _ _ _ _ _ _ _ _ _ _ _ _ _ _ zBS w pz ((zt8.mono ((Zle.left _ _).trans (zi7.trans (zfV.trans zdk)))).weak (fun _ _ h=>yG ((Zle.left _ _).trans (zi7.trans (zfV.trans zdk))) h)) ((zt8.mono ((Zle.left _ _).trans (zi7.trans (zfV.trans zdk)))).weak (fun _ _ h=>yG ((Zle.left _ _).trans (zi7.trans (zfV.trans zdk))) h)) (zBT.mono (zfV.trans zdk)) (zBU.mono zdk) zBW) ?_
 rintro zBX _
 refine WL.merge .here .here ?_
 refine WL.pu rfl (WL.pu rfl ?_)
 refine WL.yb rfl rfl (ya yh rfl rfl rfl .h2 rfl rfl rfl) ?_
 refine WL.pu rfl (WL.nil (WX.a (WC.ret ?_)))
 obtain rfl:=Option.some.inj h
 refine WX.y8 Tryz.results13 (.agg rfl y5 rfl (y7 .here) (.tmp rfl .nil)) (fun w hw=>?_)
 exact ⟨(zBV ++ zBX),yF rfl rfl,trivial,hw.sub (.cons .h1 .nil)⟩
def y3b (zm : List zSt) (z8c : Option Bool) : Nat → Int → Option Bool
 | 0,_=>none
 | zmp + 1,zn=>if decide (zn < ((zm.length : Nat) : Int)) then chk ((0 : Int) ≤ zn ∧ zn < ((zm.length : Nat) : Int)) (chk (((((decide (((nth zm zn).fTime) < 0)) || (decide (((nth zm zn).fTime) > 1073741824))) || (decide (((nth zm zn).fSize) < 1))) || (decide (((nth zm zn).fSize) > 72))) = false → ((decide (zn > 0)) = true → ((0 : Int) ≤ (i64 (zn - 1)) ∧ (i64 (zn - 1)) < ((zm.length : Nat) : Int)))) (if ((((decide (((nth zm zn).fTime) < 0)) || (decide (((nth zm zn).fTime) > 1073741824))) || (decide (((nth zm zn).fSize) < 1))) || (decide (((nth zm zn).fSize) > 72))) || ((decide (zn > 0)) && (decide (((nth zm (i64 (zn - 1))).fTime) > ((nth zm zn).fTime)))) then some false else y3b zm z8c zmp (i64 (zn + 1)))) else z8c
theorem y6S {n : Nat} {zm : List zSt} {z8c : Option Bool} {zn : Int} {r : Bool} (h : y3b zm z8c n zn = some r) : ∃ m,n = m + 1:=by
 cases n with
 | zero=>cases h
 | succ m=>exact ⟨m,rfl⟩
def y4n (zm : List zSt) : Option Bool :=
 jp0 (some (decide (((zm.length : Nat) : Int) ≤ 4000))) fun z8c=>y3b zm z8c yu 0
set_option maxRecDepth 20000 in
theorem y6K (Z : Zp) (z3N : Option Addr) (z3O : Nat) (zm : List zSt) (r : Bool)
  (h : y4n zm = some r) (w₀ : World) (hz : PZ [] w₀ Z)
  (zta : ZS Z 3 (fun r x=>r = e58 x) z3N z3O zm) :
  Calls Tryz.prog 22 #[(.slice z3N zm.length z3O)] w₀ fun e w'=>e = .returned (.bool r) ∧ Hp [] w₀ w' []:=by
 unfold y4n at h
 refine Calls.yg (vs:=[(.slice z3N zm.length z3O)]) (pre:=[]) (env:=[(0,(.slice z3N zm.length z3O))]) Tryz.func22 rfl Tryz.ntmps22 rfl (Hp.nil w₀ _) rfl ?_
 refine WC.b (WC.a (WL.pu rfl (WL.nil (WX.a ?_))))
 obtain ⟨z8c,zBY,h⟩:=y3H h
 refine WC.y2J ((z8c = some r)) ([(0,(.slice z3N zm.length z3O))]) ([]) ?_ ?_
 ·skip
  refine WC.b (WC.a (WL.pu rfl ?_))
  refine WL.a (d:=6) rfl rfl rfl (yP Tryz.underlying24 rfl) ?_
  refine WL.pu rfl (WL.nil (WX.a (WC.block ?_)))
  refine WC.y35 (fun (zdl : Nat) (zn : Int)=>(y3b zm z8c zdl zn = some r)) (fun (zdl : Nat) (zn : Int)=>[(0,(.slice z3N zm.length z3O)),(5,(.slice z3N zm.length z3O)),(6,(.int .i64 ((zm.length : Nat) : Int))),(7,(.int .i64 zn))]) (fun (zdl : Nat) (zn : Int)=>[]) (fun (zdl : Nat) (zn : Int)=>zdl) ⟨yu,0⟩ h (.cons rfl (.cons rfl (.cons rfl (.cons rfl .nil)))) .nil ?_
  rintro zdl zn h
  obtain ⟨zmp,rfl⟩:=y6S h
  rw [y3b] at h
  refine WC.b (WC.a (WL.pu rfl (WL.nil (WX.a (WC.b ?_)))))
  refine WC.cond rfl (fun zmq=>?_) (fun zmq=>?_)
  ·replace h:=yd h zmq
   refine WC.skip (WX.a (WC.b (WC.block (WC.b ?_))))
   obtain ⟨zBZ,h⟩:=yj h
   refine WC.a (WL.pu rfl ?_)
   refine WL.znth (dd:=10) rfl rfl (Z:=Z) (Pr:=(fun r x=>r = e58 x)) y77 rfl rfl zta zBZ ?_
   rintro zJN zJO zC0 zJP rfl
   refine WL.a (d:=11) rfl rfl rfl (y9 ya3 rfl (y2k hz.pv zC0) rfl) ?_
   refine WL.new (dd:=4) rfl rfl rfl (yk (cs:=[(.int .i64 0),(.int .i64 0),(.int .i64 0)]) y9p rfl) ?_
   intro zmr _
   refine WL.pu rfl ?_
   refine WL.yb rfl rfl (ya ya4 rfl rfl rfl .here rfl rfl rfl) ?_
   refine WL.nil (WX.a (WC.b ?_))
   obtain ⟨zC1,h⟩:=yj h
   refine WC.yH (fun i=>[].contains i) [] rfl ?_
   refine WD.a (i:=0) (d:=12) (by kernel_rfl) rfl z6 z7 rfl rfl rfl (fun _=>y4 y6h rfl rfl) ?_
   refine WD.e (i:=1) (d:=13) (by kernel_rfl) rfl z6 z7 rfl rfl rfl (yc yr rfl (yp .here rfl)) ?_
   refine WD.a (i:=2) (d:=14) (by kernel_rfl) rfl z6 z7 rfl rfl rfl (fun _=>y8M rfl rfl) ?_
   refine WD.a (i:=3) (d:=15) (by kernel_rfl) rfl z6 z7 rfl rfl rfl (fun _=>q_m rfl) ?_
   refine WD.mid (fuel':=25) [(0,(.slice z3N zm.length z3O)),(5,(.slice z3N zm.length z3O)),(6,(.int .i64 ((zm.length : Nat) : Int))),(7,(.int .i64 zn)),(4,(.pointer (some ⟨zmr,0,none⟩))),(3,(.int .i64 zn)),(15,(.bool (decide (((nth zm zn).fTime) < 0)))),(19,(.bool ((decide (((nth zm zn).fTime) < 0)) || (decide (((nth zm zn).fTime) > 1073741824)))))] (yC 33 [7,6,5,4,3,2,1,0]) ?_ (fun ztb=>?_)
   rotate_left
   ·rcases Bool.eq_false_or_eq_true (decide (((nth zm zn).fTime) < 0)) with hb' | hb'
    ·have zms:=hb'; clear hb'
     refine WD.pin (i:=15) rfl zms ?_
     refine WD.b (i:=4) (d:=16) (by kernel_rfl) rfl z6 z7 rfl rfl rfl ?_
     refine WD.b (i:=5) (d:=17) (by kernel_rfl) rfl z6 z7 rfl rfl rfl ?_
     refine WD.b (i:=6) (d:=18) (by kernel_rfl) rfl z6 z7 rfl rfl rfl ?_
     refine WD.a (i:=7) (d:=19) (by kernel_rfl) rfl z6 z7 rfl rfl rfl (fun _=>y18 rfl rfl) ?_
     refine WD.yt (.cons .here .nil) ?_ ztb
     exact (.cons rfl (.cons rfl (.cons rfl (.cons rfl (.cons rfl (.cons rfl (.cons (zf (Eq.symm zms)) (.cons (zf (y5m zms)) .nil))))))))
    ·have zmt:=hb'; clear hb'
     refine WD.pin (i:=15) rfl zmt ?_
     refine WD.a (i:=4) (d:=16) (by kernel_rfl) rfl z6 z7 rfl rfl rfl (fun _=>y4 y6h rfl rfl) ?_
     refine WD.e (i:=5) (d:=17) (by kernel_rfl) rfl z6 z7 rfl rfl rfl (yc yr rfl (yp .here rfl)) ?_
     refine WD.a (i:=6) (d:=18) (by kernel_rfl) rfl z6 z7 rfl rfl rfl (fun _=>y5x rfl rfl) ?_
     refine WD.a (i:=7) (d:=19) (by kernel_rfl) rfl z6 z7 rfl rfl rfl (fun _=>y19 rfl rfl) ?_
     refine WD.yt (.cons .here .nil) ?_ ztb
     exact (.cons rfl (.cons rfl (.cons rfl (.cons rfl (.cons rfl (.cons rfl (.cons (zf (Eq.symm zmt)) (.cons (zf (y5n zmt)) .nil))))))))
   refine WD.d #[true,true,true,true,true,true,true,true,false,false,false,false,false,false,false,false,false,false,false,false,false,false,false,false,false,false,false,false,false,false,false,false,false] (by kernel_rfl) ?_
   refine WD.a (i:=8) (d:=20) (by kernel_rfl) rfl z6 z7 rfl rfl rfl (fun _=>q_m rfl) ?_
   refine WD.mid (fuel':=20) [(0,(.slice z3N zm.length z3O)),(5,(.slice z3N zm.length z3O)),(6,(.int .i64 ((zm.length : Nat) : Int))),(7,(.int .i64 zn)),(4,(.pointer (some ⟨zmr,0,none⟩))),(3,(.int .i64 zn)),(20,(.bool ((decide (((nth zm zn).fTime) < 0)) || (decide (((nth zm zn).fTime) > 1073741824))))),(24,(.bool (((decide (((nth zm zn).fTime) < 0)) || (decide (((nth zm zn).fTime) > 1073741824))) || (decide (((nth zm zn).fSize) < 1)))))] (yC 33 [12,11,10,9,8,7,6,5,4,3,2,1,0]) ?_ (fun ztc=>?_)
   rotate_left
   ·rcases Bool.eq_false_or_eq_true ((decide (((nth zm zn).fTime) < 0)) || (decide (((nth zm zn).fTime) > 1073741824))) with hb' | hb'
    ·have zmu:=hb'; clear hb'
     refine WD.pin (i:=20) rfl zmu ?_
     refine WD.b (i:=9) (d:=21) (by kernel_rfl) rfl z6 z7 rfl rfl rfl ?_
     refine WD.b (i:=10) (d:=22) (by kernel_rfl) rfl z6 z7 rfl rfl rfl ?_
     refine WD.b (i:=11) (d:=23) (by kernel_rfl) rfl z6 z7 rfl rfl rfl ?_
     refine WD.a (i:=12) (d:=24) (by kernel_rfl) rfl z6 z7 rfl rfl rfl (fun _=>y18 rfl rfl) ?_
     refine WD.yt (.cons .here .nil) ?_ ztc
     exact (.cons rfl (.cons rfl (.cons rfl (.cons rfl (.cons rfl (.cons rfl (.cons (zf (Eq.symm zmu)) (.cons (zf (y5m zmu)) .nil))))))))
    ·have zmv:=hb'; clear hb'
     refine WD.pin (i:=20) rfl zmv ?_
     refine WD.a (i:=9) (d:=21) (by kernel_rfl) rfl z6 z7 rfl rfl rfl (fun _=>y4 y8U rfl rfl) ?_
     refine WD.e (i:=10) (d:=22) (by kernel_rfl) rfl z6 z7 rfl rfl rfl (yc yr rfl (yp .here rfl)) ?_
     refine WD.a (i:=11) (d:=23) (by kernel_rfl) rfl z6 z7 rfl rfl rfl (fun _=>y8M rfl rfl) ?_
     refine WD.a (i:=12) (d:=24) (by kernel_rfl) rfl z6 z7 rfl rfl rfl (fun _=>y19 rfl rfl) ?_
     refine WD.yt (.cons .here .nil) ?_ ztc
     exact (.cons rfl (.cons rfl (.cons rfl (.cons rfl (.cons rfl (.cons rfl (.cons (zf (Eq.symm zmv)) (.cons (zf (y5n zmv)) .nil))))))))
   refine WD.d #[true,true,true,true,true,true,true,true,true,true,true,true,true,false,false,false,false,false,false,false,false,false,false,false,false,false,false,false,false,false,false,false,false] (by kernel_rfl) ?_
   refine WD.a (i:=13) (d:=25) (by kernel_rfl) rfl z6 z7 rfl rfl rfl (fun _=>q_m rfl) ?_
   refine WD.mid (fuel':=15) [(0,(.slice z3N zm.length z3O)),(5,(.slice z3N zm.length z3O)),(6,(.int .i64 ((zm.length : Nat) : Int))),(7,(.int .i64 zn)),(4,(.pointer (some ⟨zmr,0,none⟩))),(3,(.int .i64 zn)),(25,(.bool (((decide (((nth zm zn).fTime) < 0)) || (decide (((nth zm zn).fTime) > 1073741824))) || (decide (((nth zm zn).fSize) < 1))))),(29,(.bool ((((decide (((nth zm zn).fTime) < 0)) || (decide (((nth zm zn).fTime) > 1073741824))) || (decide (((nth zm zn).fSize) < 1))) || (decide (((nth zm zn).fSize) > 72)))))] (yC 33 [17,16,15,14,13,12,11,10,9,8,7,6,5,4,3,2,1,0]) ?_ (fun ztd=>?_)
   rotate_left
   ·rcases Bool.eq_false_or_eq_true (((decide (((nth zm zn).fTime) < 0)) || (decide (((nth zm zn).fTime) > 1073741824))) || (decide (((nth zm zn).fSize) < 1))) with hb' | hb'
    ·have zmw:=hb'; clear hb'
     refine WD.pin (i:=25) rfl zmw ?_
     refine WD.b (i:=14) (d:=26) (by kernel_rfl) rfl z6 z7 rfl rfl rfl ?_
     refine WD.b (i:=15) (d:=27) (by kernel_rfl) rfl z6 z7 rfl rfl rfl ?_
     refine WD.b (i:=16) (d:=28) (by kernel_rfl) rfl z6 z7 rfl rfl rfl ?_
     refine WD.a (i:=17) (d:=29) (by kernel_rfl) rfl z6 z7 rfl rfl rfl (fun _=>y18 rfl rfl) ?_
     refine WD.yt (.cons .here .nil) ?_ ztd
     exact (.cons rfl (.cons rfl (.cons rfl (.cons rfl (.cons rfl (.cons rfl (.cons (zf (Eq.symm zmw)) (.cons (zf (y5m zmw)) .nil))))))))
    ·have zmx:=hb'; clear hb'
     refine WD.pin (i:=25) rfl zmx ?_
     refine WD.a (i:=14) (d:=26) (by kernel_rfl) rfl z6 z7 rfl rfl rfl (fun _=>y4 y8U rfl rfl) ?_
     refine WD.e (i:=15) (d:=27) (by kernel_rfl) rfl z6 z7 rfl rfl rfl (yc yr rfl (yp .here rfl)) ?_
     refine WD.a (i:=16) (d:=28) (by kernel_rfl) rfl z6 z7 rfl rfl rfl (fun _=>y5x rfl rfl) ?_
     refine WD.a (i:=17) (d:=29) (by kernel_rfl) rfl z6 z7 rfl rfl rfl (fun _=>y19 rfl rfl) ?_
     refine WD.yt (.cons .here .nil) ?_ ztd
     exact (.cons rfl (.cons rfl (.cons rfl (.cons rfl (.cons rfl (.cons rfl (.cons (zf (Eq.symm zmx)) (.cons (zf (y5n zmx)) .nil))))))))
   refine WD.d #[true,true,true,true,true,true,true,true,true,true,true,true,true,true,true,true,true,true,false,false,false,false,false,false,false,false,false,false,false,false,false,false,false] (by kernel_rfl) ?_
   refine WD.a (i:=18) (d:=30) (by kernel_rfl) rfl z6 z7 rfl rfl rfl (fun _=>q_m rfl) ?_
   refine WD.mid (fuel':=0) [(0,(.slice z3N zm.length z3O)),(5,(.slice z3N zm.length z3O)),(6,(.int .i64 ((zm.length : Nat) : Int))),(7,(.int .i64 zn)),(30,(.bool ((((decide (((nth zm zn).fTime) < 0)) || (decide (((nth zm zn).fTime) > 1073741824))) || (decide (((nth zm zn).fSize) < 1))) || (decide (((nth zm zn).fSize) > 72))))),(44,(.bool (((((decide (((nth zm zn).fTime) < 0)) || (decide (((nth zm zn).fTime) > 1073741824))) || (decide (((nth zm zn).fSize) < 1))) || (decide (((nth zm zn).fSize) > 72))) || ((decide (zn > 0)) && (decide (((nth zm (i64 (zn - 1))).fTime) > ((nth zm zn).fTime)))))))] (yC 33 [32,31,30,29,28,27,26,25,24,23,22,21,20,19,18,17,16,15,14,13,12,11,10,9,8,7,6,5,4,3,2,1,0]) ?_ (fun zte=>?_)
   rotate_left
   ·rcases Bool.eq_false_or_eq_true ((((decide (((nth zm zn).fTime) < 0)) || (decide (((nth zm zn).fTime) > 1073741824))) || (decide (((nth zm zn).fSize) < 1))) || (decide (((nth zm zn).fSize) > 72))) with hb' | hb'
    ·have zmy:=hb'; clear hb'
     refine WD.pin (i:=30) rfl zmy ?_
     refine WD.b (i:=19) (d:=31) (by kernel_rfl) rfl z6 z7 rfl rfl rfl ?_
     refine WD.b (i:=20) (d:=32) (by kernel_rfl) rfl z6 z7 rfl rfl rfl ?_
     refine WD.b (i:=21) (d:=33) (by kernel_rfl) rfl z6 z7 rfl rfl rfl ?_
     refine WD.b (i:=22) (d:=34) (by kernel_rfl) rfl z6 z7 rfl rfl rfl ?_
     refine WD.b (i:=23) (d:=35) (by kernel_rfl) rfl z6 z7 rfl rfl rfl ?_
     refine WD.b (i:=24) (d:=36) (by kernel_rfl) rfl z6 z7 rfl rfl rfl ?_
     refine WD.b (i:=25) (d:=37) (by kernel_rfl) rfl z6 z7 rfl rfl rfl ?_
     refine WD.b (i:=26) (d:=38) (by kernel_rfl) rfl z6 z7 rfl rfl rfl ?_
     refine WD.b (i:=27) (d:=39) (by kernel_rfl) rfl z6 z7 rfl rfl rfl ?_
     refine WD.b (i:=28) (d:=40) (by kernel_rfl) rfl z6 z7 rfl rfl rfl ?_
     refine WD.b (i:=29) (d:=41) (by kernel_rfl) rfl z6 z7 rfl rfl rfl ?_
     refine WD.b (i:=30) (d:=42) (by kernel_rfl) rfl z6 z7 rfl rfl rfl ?_
     refine WD.b (i:=31) (d:=43) (by kernel_rfl) rfl z6 z7 rfl rfl rfl ?_
     refine WD.a (i:=32) (d:=44) (by kernel_rfl) rfl z6 z7 rfl rfl rfl (fun _=>y18 rfl rfl) ?_
     refine WD.yt (.cons .here .nil) ?_ zte
     exact (.cons rfl (.cons rfl (.cons rfl (.cons rfl (.cons (zf (Eq.symm zmy)) (.cons (zf (y5m zmy)) .nil))))))
    ·have zi8:=hb'; clear hb'
     have zC2:=zC1 zi8
     refine WD.pin (i:=30) rfl zi8 ?_
     refine WD.a (i:=19) (d:=31) (by kernel_rfl) rfl z6 z7 rfl rfl rfl (fun _=>q_m rfl) ?_
     refine WD.a (i:=20) (d:=32) (by kernel_rfl) rfl z6 z7 rfl rfl rfl (fun _=>y5x rfl rfl) ?_
     refine WD.a (i:=21) (d:=33) (by kernel_rfl) rfl z6 z7 rfl rfl rfl (fun _=>q_m rfl) ?_
     refine WD.mid (fuel':=1) [(0,(.slice z3N zm.length z3O)),(5,(.slice z3N zm.length z3O)),(6,(.int .i64 ((zm.length : Nat) : Int))),(7,(.int .i64 zn)),(30,(.bool false)),(33,(.bool (decide (zn > 0)))),(43,(.bool ((decide (zn > 0)) && (decide (((nth zm (i64 (zn - 1))).fTime) > ((nth zm zn).fTime))))))] (yC 33 [31,30,29,28,27,26,25,24,23,22,21,20,19,18,17,16,15,14,13,12,11,10,9,8,7,6,5,4,3,2,1,0]) ?_ (fun ztf=>?_)
     rotate_left
     ·rcases Bool.eq_false_or_eq_true (decide (zn > 0)) with hb' | hb'
      ·have zi9:=hb'; clear hb'
       have zC3:=zC2 zi9
       refine WD.pin (i:=33) rfl zi9 ?_
       refine WD.a (i:=22) (d:=34) (by kernel_rfl) rfl z6 z7 rfl rfl rfl (fun _=>q_m rfl) ?_
       refine WD.a (i:=23) (d:=35) (by kernel_rfl) rfl z6 z7 rfl rfl rfl (fun _=>q_m rfl) ?_
       refine WD.a (i:=24) (d:=36) (by kernel_rfl) rfl z6 z7 rfl rfl rfl (fun _=>y6L rfl rfl rfl) ?_
       refine WD.znth (j:=25) (dd:=37) (by kernel_rfl) rfl z6 z7 rfl rfl (Z:=Z) (Pr:=(fun r x=>r = e58 x)) y77 rfl rfl zta zC3 ?_
       rintro zJQ zJR zC4 zJS rfl
       refine WD.a (i:=26) (d:=38) (by kernel_rfl) rfl z6 z7 rfl rfl rfl (fun _=>y4 y6h rfl rfl) ?_
       refine WD.e (i:=27) (d:=39) (by kernel_rfl) rfl z6 z7 rfl rfl rfl (yc yr rfl (y1V hz.pv zC4 rfl)) ?_
       refine WD.a (i:=28) (d:=40) (by kernel_rfl) rfl z6 z7 rfl rfl rfl (fun _=>y4 y6h rfl rfl) ?_
       refine WD.e (i:=29) (d:=41) (by kernel_rfl) rfl z6 z7 rfl rfl rfl (yc yr rfl (yp .here rfl)) ?_
       refine WD.a (i:=30) (d:=42) (by kernel_rfl) rfl z6 z7 rfl rfl rfl (fun _=>y5x rfl rfl) ?_
       refine WD.a (i:=31) (d:=43) (by kernel_rfl) rfl z6 z7 rfl rfl rfl (fun _=>y18 rfl rfl) ?_
       refine WD.yt (.cons .here .nil) ?_ ztf
       exact (.cons rfl (.cons rfl (.cons rfl (.cons rfl (.cons rfl (.cons (zf (Eq.symm zi9)) (.cons (zf (y31 zi9)) .nil)))))))
      ·have zmz:=hb'; clear hb'
       refine WD.pin (i:=33) rfl zmz ?_
       refine WD.b (i:=22) (d:=34) (by kernel_rfl) rfl z6 z7 rfl rfl rfl ?_
       refine WD.b (i:=23) (d:=35) (by kernel_rfl) rfl z6 z7 rfl rfl rfl ?_
       refine WD.b (i:=24) (d:=36) (by kernel_rfl) rfl z6 z7 rfl rfl rfl ?_
       refine WD.b (i:=25) (d:=37) (by kernel_rfl) rfl z6 z7 rfl rfl rfl ?_
       refine WD.b (i:=26) (d:=38) (by kernel_rfl) rfl z6 z7 rfl rfl rfl ?_
       refine WD.b (i:=27) (d:=39) (by kernel_rfl) rfl z6 z7 rfl rfl rfl ?_
       refine WD.b (i:=28) (d:=40) (by kernel_rfl) rfl z6 z7 rfl rfl rfl ?_
       refine WD.b (i:=29) (d:=41) (by kernel_rfl) rfl z6 z7 rfl rfl rfl ?_
       refine WD.b (i:=30) (d:=42) (by kernel_rfl) rfl z6 z7 rfl rfl rfl ?_
       refine WD.a (i:=31) (d:=43) (by kernel_rfl) rfl z6 z7 rfl rfl rfl (fun _=>y19 rfl rfl) ?_
       refine WD.yt (.cons .here .nil) ?_ ztf
       exact (.cons rfl (.cons rfl (.cons rfl (.cons rfl (.cons rfl (.cons (zf (Eq.symm zmz)) (.cons (zf (y30 zmz)) .nil)))))))
     refine WD.d #[true,true,true,true,true,true,true,true,true,true,true,true,true,true,true,true,true,true,true,true,true,true,true,true,true,true,true,true,true,true,true,true,false] (by kernel_rfl) ?_
     refine WD.a (i:=32) (d:=44) (by kernel_rfl) rfl z6 z7 rfl rfl rfl (fun _=>y19 rfl rfl) ?_
     refine WD.yt (.cons .here .nil) ?_ zte
     exact (.cons rfl (.cons rfl (.cons rfl (.cons rfl (.cons (zf (Eq.symm zi8)) (.cons (zf (y5n zi8)) .nil))))))
   refine WD.d #[true,true,true,true,true,true,true,true,true,true,true,true,true,true,true,true,true,true,true,true,true,true,true,true,true,true,true,true,true,true,true,true,true] (by kernel_rfl) ?_
   refine WD.done (by kernel_rfl) ?_
   refine WX.a ?_
   refine WC.cond rfl (fun zmA=>?_) (fun zmA=>?_)
   ·replace h:=yd h zmA
    refine WC.b (WC.a (WL.pu rfl (WL.nil (WX.a (WC.ret (WX.yl (WX.y6 (WX.y6 (WX.yl (WX.y6 ?_))))))))))
    obtain rfl:=Option.some.inj h
    refine WX.y8 Tryz.results22 (.tmp rfl .nil) (fun w hw=>?_)
    exact ⟨yD rfl,hw.sub .nil⟩
   ·replace h:=ye h zmA
    refine WC.skip (WX.yi (WX.a (WC.a (WL.pu rfl (WL.pu rfl (WL.nil ?_))))))
    exact WX.round (G:=Nat × Int) ⟨zmp,(i64 (zn + 1))⟩ h (Nat.lt_succ_self _) (.cons rfl (.cons rfl (.cons rfl (.cons rfl .nil)))) .nil
  ·replace h:=ye h zmq
   refine WC.exit (WX.yf (WX.yf (WX.yv ?_)))
   exact WX.mid (G:=Unit) () h (.cons rfl .nil) .nil
 ·rintro  h
  replace h:=zBY.symm.trans h
  refine WC.b (WC.a (WL.pu rfl ?_))
  refine WL.a (d:=47) rfl rfl rfl (yP Tryz.underlying24 rfl) ?_
  refine WL.pu rfl (WL.pu rfl (WL.nil (WX.a (WC.ret ?_))))
  obtain rfl:=Option.some.inj h
  refine WX.y8 Tryz.results22 (.tmp rfl .nil) (fun w hw=>?_)
  exact ⟨yD rfl,hw.sub .nil⟩
def y3n (z1l : List zSt) (z1Z : Int) (z1y : Int) (z8d : (List Int) → Option (List Int × Int)) : Nat → (List Int) → Int → Int → Option (List Int × Int)
 | 0,_,_,_=>none
 | zmB + 1,z3B,z3P,z1s=>if decide (z1s < ((z1l.length : Nat) : Int)) then chk ((0 : Int) ≤ z1s ∧ z1s < ((z1l.length : Nat) : Int)) (chk ((((z3B ++ ([i64 ((max z3P (i64 (((nth z1l z1s).fTime) + z1Z))) + (i64 (((nth z1l z1s).fSize) * z1y)))] : List Int)).length : Nat) : Int) * 8 ≤ 140737488355328 ∧ (((z3B ++ ([i64 ((max z3P (i64 (((nth z1l z1s).fTime) + z1Z))) + (i64 (((nth z1l z1s).fSize) * z1y)))] : List Int)).length : Nat) : Int) ≤ 4611686018427387904) (y3n z1l z1Z z1y z8d zmB (z3B ++ ([i64 ((max z3P (i64 (((nth z1l z1s).fTime) + z1Z))) + (i64 (((nth z1l z1s).fSize) * z1y)))] : List Int)) (i64 ((max z3P (i64 (((nth z1l z1s).fTime) + z1Z))) + (i64 (((nth z1l z1s).fSize) * z1y)))) (i64 (z1s + 1)))) else z8d z3B
theorem y7d {n : Nat} {z1l : List zSt} {z1Z : Int} {z1y : Int} {z8d : (List Int) → Option (List Int × Int)} {z3B : List Int} {z3P : Int} {z1s : Int} {r : List Int × Int} (h : y3n z1l z1Z z1y z8d n z3B z3P z1s = some r) : ∃ m,n = m + 1:=by
 cases n with
 | zero=>cases h
 | succ m=>exact ⟨m,rfl⟩
def y5G (z1l : List zSt) (z1y : Int) (z1Z : Int) : Option (List Int × Int) :=
 (y4n z1l).bind fun zdm=>if ((((!zdm) || (decide (z1y < 1))) || (decide (z1y > 16))) || (decide (z1Z < 0))) || (decide (z1Z > 1000)) then some (([] : List Int),2) else jp1 (fun (z72 : List Int)=>some (z72,0)) fun z8d=>y3n z1l z1Z z1y z8d yu ([] : List Int) 0 0
set_option maxRecDepth 20000 in
theorem y9q (Z : Zp) (zfW : Option Addr) (zfX : Nat) (z1l : List zSt) (z1y : Int) (z1Z : Int) (r : List Int × Int)
  (h : y5G z1l z1y z1Z = some r) (w₀ : World) (hz : PZ [] w₀ Z)
  (ztg : ZS Z 3 (fun r x=>r = e58 x) zfW zfX z1l) :
  Calls Tryz.prog 8 #[(.slice zfW z1l.length zfX),(.int .i64 z1y),(.int .i64 z1Z)] w₀ fun e w'=>∃ zth : Option Addr,∃ zti : Nat,e = .returned (.tuple #[(.slice zth r.1.length zti),(.int .i64 r.2)]) ∧ True ∧ Hp [] w₀ w' [row (.slice zth r.1.length zti) 3 1 (r.1.flatMap e3)]:=by
 unfold y5G at h
 refine Calls.yg (vs:=[(.slice zfW z1l.length zfX),(.int .i64 z1y),(.int .i64 z1Z)]) (pre:=[]) (env:=[(0,(.slice zfW z1l.length zfX)),(1,(.int .i64 z1y)),(2,(.int .i64 z1Z))]) Tryz.func8 rfl Tryz.ntmps8 rfl (Hp.nil w₀ _) rfl ?_
 refine WC.b (WC.a (WL.pu rfl (WL.pu rfl (WL.nil (WX.a (WC.b (WC.b ?_)))))))
 obtain ⟨zdm,zC5,h⟩:=z8 h
 refine WC.a (WL.pu rfl ?_)
 refine WL.b (dd:=13) rfl rfl rfl (za (l:=[.tmp 12]) Tryz.call22 (.cons rfl .nil)) .nil (cc hz .nil fun w pz ho=>y6K _ _ _ _ _ zC5 w pz ztg) ?_
 refine WL.pu rfl (WL.pu rfl ?_)
 refine WL.seg false 2 15 (B:=(!zdm) || (decide (z1y < 1))) rfl rfl rfl rfl rfl rfl (fun h=>(y5m h).symm) (fun _ zC6=>?_) ?_
 ·skip
  refine WL.pu rfl (WL.pu rfl (WL.pu rfl ?_))
  exact WL.yw (y5n zC6) rfl rfl .all
 refine WL.pu rfl ?_
 refine WL.seg false 2 19 (B:=((!zdm) || (decide (z1y < 1))) || (decide (z1y > 16))) rfl rfl rfl rfl rfl rfl (fun h=>(y5m h).symm) (fun _ zC7=>?_) ?_
 ·skip
  refine WL.pu rfl (WL.pu rfl (WL.pu rfl ?_))
  exact WL.yw (y5n zC7) rfl rfl .all
 refine WL.pu rfl ?_
 refine WL.seg false 2 23 (B:=(((!zdm) || (decide (z1y < 1))) || (decide (z1y > 16))) || (decide (z1Z < 0))) rfl rfl rfl rfl rfl rfl (fun h=>(y5m h).symm) (fun _ zC8=>?_) ?_
 ·skip
  refine WL.pu rfl (WL.pu rfl (WL.pu rfl ?_))
  exact WL.yw (y5n zC8) rfl rfl .all
 refine WL.pu rfl ?_
 refine WL.seg false 2 27 (B:=((((!zdm) || (decide (z1y < 1))) || (decide (z1y > 16))) || (decide (z1Z < 0))) || (decide (z1Z > 1000))) rfl rfl rfl rfl rfl rfl (fun h=>(y5m h).symm) (fun _ zC9=>?_) ?_
 ·skip
  refine WL.pu rfl (WL.pu rfl (WL.pu rfl ?_))
  exact WL.yw (y5n zC9) rfl rfl .all
 refine WL.nil (WX.a ?_)
 refine WC.cond rfl (fun zmC=>?_) (fun zmC=>?_)
 ·replace h:=yd h zmC
  refine WC.b (WC.a (WL.pu rfl (WL.pu rfl (WL.nil (WX.a (WC.ret (WX.y6 ?_)))))))
  refine WX.nilRow 3 1 ?_
  obtain rfl:=Option.some.inj h
  refine WX.y8 Tryz.results8 (.tmp rfl (.tmp rfl .nil)) (fun w hw=>?_)
  exact ⟨none,0,yF rfl rfl,trivial,hw.sub (.cons .here .nil)⟩
 ·replace h:=ye h zmC
  refine WC.skip (WX.a (WC.b (WC.a (WL.pu rfl (WL.nil (WX.a (WC.b (WC.a (WL.pu rfl (WL.nil (WX.a ?_)))))))))))
  obtain ⟨z8d,zCa,h⟩:=y12 h
  refine WC.y3O (fun (z72 : List Int) (zdn : Option Addr) (zdo : Nat)=>(z8d z72 = some r)) (fun (z72 : List Int) (zdn : Option Addr) (zdo : Nat)=>[(8,(.slice zdn z72.length zdo))]) (fun (z72 : List Int) (zdn : Option Addr) (zdo : Nat)=>[row (.slice zdn z72.length zdo) 3 1 (z72.flatMap e3)]) ?_ ?_
  ·skip
   refine WC.b (WC.a (WL.pu rfl ?_))
   refine WL.a (d:=32) rfl rfl rfl (yP Tryz.underlying24 rfl) ?_
   refine WL.pu rfl (WL.nil (WX.a (WC.block ?_)))
   refine WC.nilRow 3 1 ?_
   refine WC.y4V (fun (zdp : Nat) (z3B : List Int) (z3P : Int) (z1s : Int) (zbu : Option Addr) (zbv : Nat)=>(y3n z1l z1Z z1y z8d zdp z3B z3P z1s = some r)) (fun (zdp : Nat) (z3B : List Int) (z3P : Int) (z1s : Int) (zbu : Option Addr) (zbv : Nat)=>[(1,(.int .i64 z1y)),(2,(.int .i64 z1Z)),(8,(.slice zbu z3B.length zbv)),(9,(.int .i64 z3P)),(31,(.slice zfW z1l.length zfX)),(32,(.int .i64 ((z1l.length : Nat) : Int))),(33,(.int .i64 z1s))]) (fun (zdp : Nat) (z3B : List Int) (z3P : Int) (z1s : Int) (zbu : Option Addr) (zbv : Nat)=>[row (.slice zbu z3B.length zbv) 3 1 (z3B.flatMap e3)]) (fun (zdp : Nat) (z3B : List Int) (z3P : Int) (z1s : Int) (zbu : Option Addr) (zbv : Nat)=>zdp) ⟨yu,([] : List Int),0,0,none,0⟩ h (.cons rfl (.cons rfl (.cons rfl (.cons rfl (.cons rfl (.cons rfl (.cons rfl .nil))))))) (.cons .here .nil) ?_
   rintro zdp z3B z3P z1s zbu zbv h
   obtain ⟨zmB,rfl⟩:=y7d h
   rw [y3n] at h
   refine WC.b (WC.a (WL.pu rfl (WL.nil (WX.a (WC.b ?_)))))
   refine WC.cond rfl (fun zmD=>?_) (fun zmD=>?_)
   ·replace h:=yd h zmD
    refine WC.skip (WX.a (WC.b (WC.block (WC.b ?_))))
    obtain ⟨zCb,h⟩:=yj h
    refine WC.a ?_
    refine WL.znth (dd:=35) rfl rfl (Z:=Z) (Pr:=(fun r x=>r = e58 x)) y77 rfl rfl ztg zCb ?_
    rintro zJT zJU zCc zJV rfl
    refine WL.a (d:=36) rfl rfl rfl (y9 ya3 rfl (y2k hz.pv zCc) rfl) ?_
    refine WL.new (dd:=11) rfl rfl rfl (yk (cs:=[(.int .i64 0),(.int .i64 0),(.int .i64 0)]) y9p rfl) ?_
    intro zJW _
    refine WL.yb rfl rfl (ya ya4 rfl rfl rfl .here rfl rfl rfl) ?_
    refine WL.nil (WX.a (WC.b (WC.a (WL.pu rfl ?_))))
    refine WL.a (d:=38) rfl rfl rfl (y4 y6h rfl rfl) ?_
    refine WL.a (d:=39) rfl rfl rfl (yc yr rfl (yp .here rfl)) ?_
    refine WL.pu rfl (WL.pu rfl ?_)
    refine WL.a (d:=42) rfl rfl rfl (q_max rfl rfl rfl) ?_
    refine WL.a (d:=43) rfl rfl rfl (y4 y8U rfl rfl) ?_
    refine WL.a (d:=44) rfl rfl rfl (yc yr rfl (yp .here rfl)) ?_
    refine WL.pu rfl (WL.pu rfl (WL.pu rfl (WL.pu rfl (WL.nil (WX.a ?_)))))
    obtain ⟨zCd,h⟩:=yj h
    refine WC.a (WL.pu rfl (WL.pu rfl ?_))
    refine WL.new (dd:=50) rfl rfl rfl (yA (cs:=([i64 ((max z3P (i64 (((nth z1l z1s).fTime) + z1Z))) + (i64 (((nth z1l z1s).fSize) * z1y)))] : List Int).flatMap e3) y8B (Eos.parts (l:=[.tmp 49]) (.cons rfl .nil) [0]) (fun _=>by kernel_rfl) rfl (by unfold maxLen; omega)) ?_
    intro zJX _
    refine WL.eff (d:=51) rfl rfl rfl (y2c (enc:=e3) (l1:=z3B) (l2:=([i64 ((max z3P (i64 (((nth z1l z1s).fTime) + z1Z))) + (i64 (((nth z1l z1s).fSize) * z1y)))] : List Int)) y8B rfl rfl .h2 (fun _=>rfl) rfl rfl (y4z .here) (y3g e3_oc _) zCd) ?_
    rintro ⟨zCe,zCf⟩ _
    refine WL.pu rfl (WL.nil (WX.yi (WX.a (WC.a (WL.pu rfl (WL.pu rfl (WL.nil ?_)))))))
    exact WX.round (G:=Nat × List Int × Int × Int × Option Addr × Nat) ⟨zmB,(z3B ++ ([i64 ((max z3P (i64 (((nth z1l z1s).fTime) + z1Z))) + (i64 (((nth z1l z1s).fSize) * z1y)))] : List Int)),(i64 ((max z3P (i64 (((nth z1l z1s).fTime) + z1Z))) + (i64 (((nth z1l z1s).fSize) * z1y)))),(i64 (z1s + 1)),zCe,zCf⟩ h (Nat.lt_succ_self _) (.cons rfl (.cons rfl (.cons rfl (.cons rfl (.cons rfl (.cons rfl (.cons rfl .nil))))))) (.cons .here .nil)
   ·replace h:=ye h zmD
    refine WC.exit (WX.yf (WX.yf (WX.yv ?_)))
    exact WX.mid (G:=List Int × Option Addr × Nat) ⟨z3B,zbu,zbv⟩ h (.cons rfl .nil) (.cons .here .nil)
  ·rintro z72 zdn zdo h
   replace h:=(zCa z72).symm.trans h
   refine WC.b (WC.a (WL.pu rfl (WL.pu rfl (WL.pu rfl (WL.nil (WX.a (WC.ret ?_)))))))
   obtain rfl:=Option.some.inj h
   refine WX.y8 Tryz.results8 (.tmp rfl (.tmp rfl .nil)) (fun w hw=>?_)
   exact ⟨zdn,zdo,yF rfl rfl,trivial,hw.sub (.cons .here .nil)⟩
def y2E (zM : List zSt) (z16 : Int) (z29 : List z2) (z8e : Bool → Option (Bool × Int)) : Nat → Bool → Int → Int → Option (Bool × Int)
 | 0,_,_,_=>none
 | zmE + 1,z5T,z5p,z38=>if decide (z38 < (((zM.drop (z16 : Int).toNat).length : Nat) : Int)) then chk ((0 : Int) ≤ z38 ∧ z38 < (((zM.drop (z16 : Int).toNat).length : Nat) : Int)) (chk ((0 : Int) ≤ z16 ∧ z16 < ((zM.length : Nat) : Int)) ((y2L z29 (⟨i64 (((nth (zM.drop (z16 : Int).toNat) z38).fTime) - ((nth zM z16).fTime)),1⟩ : z1)).bind fun zia=>if decide (zia.2 ≠ 0) then some (false,zia.2) else (if z5T then (yM (⟨i64 (z5p + ((nth (zM.drop (z16 : Int).toNat) z38).fSize)),1⟩ : z1) zia.1).bind fun ztj=>some (decide (ztj ≤ 0)) else some false).bind fun zib=>y2E zM z16 z29 z8e zmE zib (i64 (z5p + ((nth (zM.drop (z16 : Int).toNat) z38).fSize))) (i64 (z38 + 1)))) else z8e z5T
theorem y6z {n : Nat} {zM : List zSt} {z16 : Int} {z29 : List z2} {z8e : Bool → Option (Bool × Int)} {z5T : Bool} {z5p : Int} {z38 : Int} {r : Bool × Int} (h : y2E zM z16 z29 z8e n z5T z5p z38 = some r) : ∃ m,n = m + 1:=by
 cases n with
 | zero=>cases h
 | succ m=>exact ⟨m,rfl⟩
def y2F (zM : List zSt) (z29 : List z2) (z8f : Bool → Option (Bool × Int)) : Nat → Bool → Int → Option (Bool × Int)
 | 0,_,_=>none
 | zmF + 1,z5q,z16=>if decide (z16 < ((zM.length : Nat) : Int)) then jp1 (fun (z8g : Bool)=>y2F zM z29 z8f zmF z8g (i64 (z16 + 1))) fun zmG=>chk ((0 : Int) ≤ z16 ∧ (z16 : Int) ≤ (zM.length : Int) ∧ (zM.length : Int) ≤ ((zM.length : Nat) : Int)) (jp1 (fun (z8h : Bool)=>zmG z8h) fun z8e=>y2E zM z16 z29 z8e yu z5q 0 0) else z8f z5q
theorem y6A {n : Nat} {zM : List zSt} {z29 : List z2} {z8f : Bool → Option (Bool × Int)} {z5q : Bool} {z16 : Int} {r : Bool × Int} (h : y2F zM z29 z8f n z5q z16 = some r) : ∃ m,n = m + 1:=by
 cases n with
 | zero=>cases h
 | succ m=>exact ⟨m,rfl⟩
def y42 (z29 : List z2) (zM : List zSt) : Option (Bool × Int) :=
 (y2K z29).bind fun ztk=>(if !ztk then some true else (y4n zM).bind fun ztl=>some (!ztl)).bind fun zmH=>if zmH then some (false,2) else jp1 (fun (z9N : Bool)=>some (z9N,0)) fun z8f=>y2F zM z29 z8f yu true 0
set_option maxRecDepth 20000 in
theorem y6d (Z : Zp) (z9O : Option Addr) (z9P : Nat) (z9Q : Option Addr) (z9R : Nat) (z29 : List z2) (zM : List zSt) (r : Bool × Int)
  (h : y42 z29 zM = some r) (w₀ : World) (hz : PZ [] w₀ Z)
  (ztm : ZS Z 4 (fun r x=>r = e54 x) z9O z9P z29)
  (zmI : ZS Z 3 (fun r x=>r = e58 x) z9Q z9R zM) :
  Calls Tryz.prog 6 #[(.slice z9O z29.length z9P),(.slice z9Q zM.length z9R)] w₀ fun e w'=>e = .returned (.tuple #[(.bool r.1),(.int .i64 r.2)]) ∧ Hp [] w₀ w' []:=by
 unfold y42 at h
 refine Calls.yg (vs:=[(.slice z9O z29.length z9P),(.slice z9Q zM.length z9R)]) (pre:=[]) (env:=[(0,(.slice z9O z29.length z9P)),(1,(.slice z9Q zM.length z9R))]) Tryz.func6 rfl Tryz.ntmps6 rfl (Hp.nil w₀ _) rfl ?_
 refine WC.b (WC.a (WL.pu rfl (WL.pu rfl (WL.nil (WX.a (WC.b (WC.b ?_)))))))
 obtain ⟨ztk,zCg,h⟩:=z8 h
 obtain ⟨zmH,ztn,h⟩:=z8 h
 refine WC.a (WL.pu rfl ?_)
 refine WL.b (dd:=14) rfl rfl rfl (za (l:=[.tmp 13]) Tryz.call21 (.cons rfl .nil)) .nil (cc hz .nil fun w pz ho=>y4G _ _ _ _ _ zCg w pz ztm) ?_
 refine WL.pu rfl (WL.pu rfl ?_)
 refine WL.seg false 3 16 (B:=zmH) rfl rfl rfl rfl rfl rfl (fun h=>(Option.some.inj (yd ztn h)).symm) (fun _ zCh=>?_) ?_
 ·skip
  have zfY:=ye ztn zCh
  obtain ⟨ztl,zCi,zfY⟩:=z8 zfY
  replace zfY:=Option.some.inj zfY
  refine WL.pu rfl ?_
  refine WL.b (dd:=18) rfl rfl rfl (za (l:=[.tmp 17]) Tryz.call22 (.cons rfl .nil)) .nil (cc hz .nil fun w pz ho=>y6K _ _ _ _ _ zCi w pz zmI) ?_
  refine WL.pu rfl (WL.pu rfl ?_)
  exact WL.yw zfY rfl rfl .all
 refine WL.nil (WX.a ?_)
 refine WC.cond rfl (fun zmJ=>?_) (fun zmJ=>?_)
 ·replace h:=yd h zmJ
  refine WC.b (WC.a (WL.pu rfl (WL.pu rfl (WL.nil (WX.a (WC.ret (WX.y6 ?_)))))))
  obtain rfl:=Option.some.inj h
  refine WX.y8 Tryz.results6 (.tmp rfl (.tmp rfl .nil)) (fun w hw=>?_)
  exact ⟨yF rfl rfl,hw.sub .nil⟩
 ·replace h:=ye h zmJ
  refine WC.skip (WX.a (WC.b (WC.a (WL.pu rfl (WL.nil (WX.a ?_))))))
  obtain ⟨z8f,zCj,h⟩:=y12 h
  refine WC.y3w (fun (z9N : Bool)=>(z8f z9N = some r)) (fun (z9N : Bool)=>[(6,(.bool z9N))]) (fun (z9N : Bool)=>[]) ?_ ?_
  ·skip
   refine WC.b (WC.a (WL.pu rfl ?_))
   refine WL.a (d:=22) rfl rfl rfl (yP Tryz.underlying24 rfl) ?_
   refine WL.pu rfl (WL.nil (WX.a (WC.block ?_)))
   refine WC.yaK (fun (zdq : Nat) (z5q : Bool) (z16 : Int)=>(y2F zM z29 z8f zdq z5q z16 = some r)) (fun (zdq : Nat) (z5q : Bool) (z16 : Int)=>[(0,(.slice z9O z29.length z9P)),(1,(.slice z9Q zM.length z9R)),(6,(.bool z5q)),(22,(.int .i64 ((zM.length : Nat) : Int))),(23,(.int .i64 z16))]) (fun (zdq : Nat) (z5q : Bool) (z16 : Int)=>[]) (fun (zdq : Nat) (z5q : Bool) (z16 : Int)=>zdq) ⟨yu,true,0⟩ h (.cons rfl (.cons rfl (.cons rfl (.cons rfl (.cons rfl .nil))))) .nil ?_
   rintro zdq z5q z16 h
   obtain ⟨zmF,rfl⟩:=y6A h
   rw [y2F] at h
   refine WC.b (WC.a (WL.pu rfl (WL.nil (WX.a (WC.b ?_)))))
   refine WC.cond rfl (fun zmK=>?_) (fun zmK=>?_)
   ·replace h:=yd h zmK
    refine WC.skip (WX.a ?_)
    obtain ⟨zmG,zCk,h⟩:=y12 h
    refine WC.y3w (fun (z8g : Bool)=>(zmG z8g = some r)) (fun (z8g : Bool)=>[(0,(.slice z9O z29.length z9P)),(1,(.slice z9Q zM.length z9R)),(6,(.bool z8g)),(22,(.int .i64 ((zM.length : Nat) : Int))),(23,(.int .i64 z16))]) (fun (z8g : Bool)=>[]) ?_ ?_
    ·skip
     refine WC.block (WC.b (WC.a (WL.pu rfl (WL.pu rfl (WL.nil (WX.a (WC.b (WC.a (WL.pu rfl (WL.nil (WX.a (WC.b ?_))))))))))))
     obtain ⟨zCl,h⟩:=yj h
     refine WC.a (WL.pu rfl (WL.pu rfl ?_))
     refine WL.zsub (dd:=28) rfl rfl (Z:=Z) (Pr:=(fun r x=>r = e58 x)) y77 rfl zmI (ixo rfl) ixn rfl rfl zCl (by rw [Int.toNat_natCast,List.take_length]) ?_
     rintro zCm zCn zCo
     refine WL.a (d:=29) rfl rfl rfl (yP Tryz.underlying24 rfl) ?_
     refine WL.pu rfl (WL.nil (WX.a ?_))
     obtain ⟨z8e,zCp,h⟩:=y12 h
     refine WC.mid1 (fun (z8h : Bool)=>(z8e z8h = some r)) (fun (z8h : Bool)=>[(0,(.slice z9O z29.length z9P)),(1,(.slice z9Q zM.length z9R)),(6,(.bool z8h)),(22,(.int .i64 ((zM.length : Nat) : Int))),(23,(.int .i64 z16))]) (fun (z8h : Bool)=>[]) ?_ ?_
     ·skip
      refine WC.block ?_
      refine WC.y36 (fun (zdr : Nat) (z5T : Bool) (z5p : Int) (z38 : Int)=>(y2E zM z16 z29 z8e zdr z5T z5p z38 = some r)) (fun (zdr : Nat) (z5T : Bool) (z5p : Int) (z38 : Int)=>[(0,(.slice z9O z29.length z9P)),(1,(.slice z9Q zM.length z9R)),(6,(.bool z5T)),(7,(.int .i64 z16)),(8,(.int .i64 z5p)),(22,(.int .i64 ((zM.length : Nat) : Int))),(23,(.int .i64 z16)),(28,(.slice zCm ((zM.drop (z16 : Int).toNat).length) zCn)),(29,(.int .i64 (((zM.drop (z16 : Int).toNat).length : Nat) : Int))),(30,(.int .i64 z38))]) (fun (zdr : Nat) (z5T : Bool) (z5p : Int) (z38 : Int)=>[]) (fun (zdr : Nat) (z5T : Bool) (z5p : Int) (z38 : Int)=>zdr) ⟨yu,z5q,0,0⟩ h (.cons rfl (.cons rfl (.cons rfl (.cons rfl (.cons rfl (.cons rfl (.cons rfl (.cons rfl (.cons rfl (.cons rfl .nil)))))))))) .nil ?_
      rintro zdr z5T z5p z38 h
      obtain ⟨zmE,rfl⟩:=y6z h
      rw [y2E] at h
      refine WC.b (WC.a (WL.pu rfl (WL.nil (WX.a (WC.b ?_)))))
      refine WC.cond rfl (fun zmL=>?_) (fun zmL=>?_)
      ·replace h:=yd h zmL
       refine WC.skip (WX.a (WC.b (WC.block (WC.b ?_))))
       obtain ⟨zCq,h⟩:=yj h
       refine WC.a ?_
       refine WL.znth (dd:=32) rfl rfl (Z:=Z) (Pr:=(fun r x=>r = e58 x)) y77 rfl rfl zCo zCq ?_
       rintro zJY zJZ zCr zK0 rfl
       refine WL.a (d:=33) rfl rfl rfl (y9 ya3 rfl (y2k hz.pv zCr) rfl) ?_
       refine WL.new (dd:=10) rfl rfl rfl (yk (cs:=[(.int .i64 0),(.int .i64 0),(.int .i64 0)]) y9p rfl) ?_
       intro zK1 _
       refine WL.yb rfl rfl (ya ya4 rfl rfl rfl .here rfl rfl rfl) ?_
       refine WL.nil (WX.a (WC.b (WC.a (WL.pu rfl ?_))))
       refine WL.a (d:=35) rfl rfl rfl (y4 y8U rfl rfl) ?_
       refine WL.a (d:=36) rfl rfl rfl (yc yr rfl (yp .here rfl)) ?_
       refine WL.pu rfl (WL.pu rfl (WL.nil (WX.a (WC.b ?_))))
       obtain ⟨zCs,h⟩:=yj h
       obtain ⟨zia,zCt,h⟩:=z8 h
       refine WC.yH (fun i=>[15].contains i) [] rfl ?_
       refine WD.a (i:=0) (d:=39) (by kernel_rfl) rfl z6 z7 rfl rfl rfl (fun _=>q_m rfl) ?_
       refine WD.a (i:=1) (d:=40) (by kernel_rfl) rfl z6 z7 rfl rfl rfl (fun _=>y4 y6h rfl rfl) ?_
       refine WD.e (i:=2) (d:=41) (by kernel_rfl) rfl z6 z7 rfl rfl rfl (yc yr rfl (yp .here rfl)) ?_
       refine WD.a (i:=3) (d:=42) (by kernel_rfl) rfl z6 z7 rfl rfl rfl (fun _=>q_m rfl) ?_
       refine WD.a (i:=4) (d:=43) (by kernel_rfl) rfl z6 z7 rfl rfl rfl (fun _=>q_m rfl) ?_
       refine WD.znth (j:=5) (dd:=44) (by kernel_rfl) rfl z6 z7 rfl rfl (Z:=Z) (Pr:=(fun r x=>r = e58 x)) y77 rfl rfl zmI zCs ?_
       rintro zK2 zK3 zCu zK4 rfl
       refine WD.a (i:=6) (d:=45) (by kernel_rfl) rfl z6 z7 rfl rfl rfl (fun _=>y4 y6h rfl rfl) ?_
       refine WD.e (i:=7) (d:=46) (by kernel_rfl) rfl z6 z7 rfl rfl rfl (yc yr rfl (y1V hz.pv zCu rfl)) ?_
       refine WD.a (i:=8) (d:=47) (by kernel_rfl) rfl z6 z7 rfl rfl rfl (fun _=>y6L rfl rfl rfl) ?_
       refine WD.a (i:=9) (d:=48) (by kernel_rfl) rfl z6 z7 rfl rfl rfl (fun _=>yz (v:=(.agg #[(.int .i64 (i64 (((nth (zM.drop (z16 : Int).toNat) z38).fTime) - ((nth zM z16).fTime)))),(.int .i64 1)])) (Eos.parts (l:=[.tmp 47,.const (.int .i64 1)]) (.cons rfl (.cons rfl .nil)) [0,1]) (fun _=>by kernel_rfl)) ?_
       refine WD.c (i:=10) (d:=49) (by kernel_rfl) rfl z6 z7 rfl rfl rfl (za (l:=[.tmp 39,.tmp 48]) Tryz.call23 (.cons rfl (.cons rfl .nil))) (cc hz .nil fun w pz ho=>y9J _ _ _ _ _ _ zCt w pz ztm) ?_
       refine WD.a (i:=11) (d:=38) (by kernel_rfl) rfl z6 z7 rfl rfl rfl (fun _=>q_m rfl) ?_
       refine WD.a (i:=12) (d:=50) (by kernel_rfl) rfl z6 z7 rfl rfl rfl (fun _=>y1L rfl rfl) ?_
       refine WD.a (i:=13) (d:=51) (by kernel_rfl) rfl z6 z7 rfl rfl rfl (fun _=>y1L rfl rfl) ?_
       refine WD.new (i:=14) (dd:=11) rfl (by kernel_rfl) rfl rfl rfl (yk (cs:=[(.int .i64 0),(.int .i64 0)]) yo rfl) (fun h'=>absurd h' (by decide)) ?_
       intro zK5 _
       refine WD.forced0 (i:=15) rfl (by kernel_rfl) rfl rfl rfl (Sin.of .nil) (ya yh rfl rfl rfl .here rfl rfl rfl) ?_
       refine WD.a (i:=16) (d:=12) (by kernel_rfl) rfl z6 z7 rfl rfl rfl (fun _=>q_z rfl) ?_
       refine WD.done (by kernel_rfl) ?_
       refine WX.a (WC.b (WC.b (WC.a (WL.pu rfl (WL.pu rfl (WL.nil (WX.a ?_)))))))
       refine WC.cond rfl (fun zmM=>?_) (fun zmM=>?_)
       ·replace h:=yd h zmM
        refine WC.b (WC.a (WL.pu rfl (WL.pu rfl (WL.pu rfl (WL.nil (WX.a (WC.ret (WX.y6 (WX.yl (WX.y6 (WX.y6 (WX.yl (WX.y6 (WX.yl (WX.y6 ?_)))))))))))))))
        refine WX.y6 (WX.yl (WX.y6 ?_))
        obtain rfl:=Option.some.inj h
        refine WX.y8 Tryz.results6 (.tmp rfl (.tmp rfl .nil)) (fun w hw=>?_)
        exact ⟨yF rfl rfl,hw.sub .nil⟩
       ·replace h:=ye h zmM
        refine WC.skip (WX.a ?_)
        obtain ⟨zib,zto,h⟩:=z8 h
        refine WC.a (WL.pu rfl (WL.pu rfl ?_))
        refine WL.seg true 5 56 (B:=zib) rfl rfl rfl rfl rfl rfl (fun h=>(Option.some.inj (ye zto h)).symm) (fun _ zCv=>?_) ?_
        ·skip
         have zfZ:=yd zto zCv
         obtain ⟨ztj,zCw,zfZ⟩:=z8 zfZ
         replace zfZ:=Option.some.inj zfZ
         refine WL.pu rfl ?_
         refine WL.a (d:=58) rfl rfl rfl (yz (v:=(.agg #[(.int .i64 (i64 (z5p + ((nth (zM.drop (z16 : Int).toNat) z38).fSize)))),(.int .i64 1)])) (Eos.parts (l:=[.tmp 57,.const (.int .i64 1)]) (.cons rfl (.cons rfl .nil)) [0,1]) (fun _=>by kernel_rfl)) ?_
         refine WL.a (d:=59) rfl rfl rfl (y9 y5 rfl (y7 .here) rfl) ?_
         refine WL.b (dd:=60) rfl rfl rfl (za (l:=[.tmp 58,.tmp 59]) Tryz.call24 (.cons rfl (.cons rfl .nil))) .nil (cc hz .nil fun w pz ho=>y2w _ _ _ _ zCw w pz ) ?_
         refine WL.pu rfl (WL.pu rfl ?_)
         exact WL.yw zfZ rfl rfl .all
        refine WL.pu rfl (WL.nil (WX.yi (WX.a (WC.a (WL.pu rfl (WL.pu rfl (WL.nil ?_)))))))
        exact WX.round (G:=Nat × Bool × Int × Int) ⟨zmE,zib,(i64 (z5p + ((nth (zM.drop (z16 : Int).toNat) z38).fSize))),(i64 (z38 + 1))⟩ h (Nat.lt_succ_self _) (.cons rfl (.cons rfl (.cons rfl (.cons rfl (.cons rfl (.cons rfl (.cons rfl (.cons rfl (.cons rfl (.cons rfl .nil)))))))))) .nil
      ·replace h:=ye h zmL
       refine WC.exit (WX.yf (WX.yf (WX.yv ?_)))
       exact WX.mid (G:=Bool) z5T h (.cons rfl (.cons rfl (.cons rfl (.cons rfl (.cons rfl .nil))))) .nil
     ·rintro z8h h
      replace h:=(zCp z8h).symm.trans h
      refine WX.yi ?_
      exact WX.mid (G:=Bool) z8h h (.cons rfl (.cons rfl (.cons rfl (.cons rfl (.cons rfl .nil))))) .nil
    ·rintro z8g h
     replace h:=(zCk z8g).symm.trans h
     refine WC.a (WL.pu rfl (WL.pu rfl (WL.nil ?_)))
     exact WX.round (G:=Nat × Bool × Int) ⟨zmF,z8g,(i64 (z16 + 1))⟩ h (Nat.lt_succ_self _) (.cons rfl (.cons rfl (.cons rfl (.cons rfl (.cons rfl .nil))))) .nil
   ·replace h:=ye h zmK
    refine WC.exit (WX.yf (WX.yf (WX.yv ?_)))
    exact WX.mid (G:=Bool) z5q h (.cons rfl .nil) .nil
  ·rintro z9N h
   replace h:=(zCj z9N).symm.trans h
   refine WC.b (WC.a (WL.pu rfl (WL.pu rfl (WL.pu rfl (WL.nil (WX.a (WC.ret ?_)))))))
   obtain rfl:=Option.some.inj h
   refine WX.y8 Tryz.results6 (.tmp rfl (.tmp rfl .nil)) (fun w hw=>?_)
   exact ⟨yF rfl rfl,hw.sub .nil⟩
end Go.Proofs.YtakfmdiiehcbdaaGreat
