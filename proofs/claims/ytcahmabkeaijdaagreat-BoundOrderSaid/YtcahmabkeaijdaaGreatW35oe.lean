/- A part of this claim's proof: models of functions, walks, plain laws. No conditions. -/
import Derived.Test.YtcahmabkeaijdaaGreatW35od
namespace Go.Proofs.YtcahmabkeaijdaaGreat
open Go Go.RowKit Sep
set_option linter.all false
set_option maxRecDepth 30000
set_option maxHeartbeats 4000000
def y3s (z6E : List (List z6)) (z5J : zSv) (zaU : z1) (z3A : List z1) (znX : Int) : Option (Bool × (Nat × List z1 × Int)) :=
 (y6e (⟨znX⟩ : z1v) zaU z6E z5J).bind fun z6F=>(if decide (((z3A.length : Nat) : Int) = 0) then some true else chk ((0 : Int) ≤ 0 ∧ 0 < ((z3A.length : Nat) : Int)) ((y2r z6F.1 (⟨((nth z3A 0).fN),((nth z3A 0).fD)⟩ : z1)).bind fun zDB=>some (decide (zDB > 0)))).bind fun zv9=>if zv9 then some (true,(0,([z6F.1] : List z1),z6F.2.fE)) else some (true,(0,z3A,z6F.2.fE))
def y5l (z16 : List (List z6)) (zm : zSv) (z6E : List (List z6)) (z5J : zSv) (z17 : List z1) : Option (z1 × Int) :=
 (y4B z16 zm z6E z5J z17).bind fun zl3=>if decide (zl3 ≠ 0) then some ((⟨0,0⟩ : z1),zl3) else jp2 (fun (z8R : Int) (z67 : List z1)=>if decide (z8R ≠ 0) then some ((⟨0,0⟩ : z1),z8R) else chk ((0 : Int) ≤ 0 ∧ 0 < ((z67.length : Nat) : Int)) (some ((⟨((nth z67 0).fN),((nth z67 0).fD)⟩ : z1),0))) fun zva=>(y4p z16 zm z6E z5J z17).bind fun zy=>(y3Z (Nat × List z1 × Int) (fun (x : z1) (s : Nat × List z1 × Int)=>chk (s.1 = 0) (y3s z6E z5J x s.2.1 s.2.2)) (0,([] : List z1),0) z16 (⟨(⟨zy.1,zy.2.1⟩ : z1),(⟨zy.2.2.1,zy.2.2.2⟩ : z1)⟩ : zSv) z6E z5J z17).bind fun z3U=>zva z3U.2.2 z3U.2.1
set_option maxRecDepth 20000 in
theorem y9r (Z : Zp) (z1l : Option Addr) (z1m : Nat) (z1f : Addr) (zvb : Option Addr) (zvc : Nat) (z1g : Addr) (z1n : Option Addr) (z1o : Nat) (z16 : List (List z6)) (zm : zSv) (z6E : List (List z6)) (z5J : zSv) (z17 : List z1) (r : z1 × Int)
  (h : y5l z16 zm z6E z5J z17 = some r) (w₀ : World) (hz : PZ [] w₀ Z)
  (zvd : ZS Z 1 (y1v Z) z1l z1m z16)
  (znY : ZS Z 1 (y1v Z) zvb zvc z6E)
  (znZ : ZC Z z1f [(.slice zvb z6E.length zvc)])
  (zo0 : ZC Z z1g [(.int .i64 z5J.fRate.fN),(.int .i64 z5J.fRate.fD),(.int .i64 z5J.fL.fN),(.int .i64 z5J.fL.fD)])
  (zve : ZS Z 2 (fun r x=>r = yw x) z1n z1o z17) :
  Calls Tryz.prog 77 #[(.agg #[(.slice z1l z16.length z1m),(.int .i64 zm.fRate.fN),(.int .i64 zm.fRate.fD),(.int .i64 zm.fL.fN),(.int .i64 zm.fL.fD),(.func (.func 72) #[] #[(.pointer (some z1f)),(.pointer (some z1g))]),(.slice z1n z17.length z1o)])] w₀ fun e w'=>∃ Zn : Zp,e = .returned (.tuple #[(.agg #[(.int .i64 r.1.fN),(.int .i64 r.1.fD)]),(.int .i64 r.2)]) ∧ True ∧ Hp [] w₀ w' [fz Zn]:=by
 unfold y5l at h
 refine Calls.y8W (vs:=[(.agg #[(.slice z1l z16.length z1m),(.int .i64 zm.fRate.fN),(.int .i64 zm.fRate.fD),(.int .i64 zm.fL.fN),(.int .i64 zm.fL.fD),(.func (.func 72) #[] #[(.pointer (some z1f)),(.pointer (some z1g))]),(.slice z1n z17.length z1o)])]) (pre:=[]) (env:=[(0,(.agg #[(.slice z1l z16.length z1m),(.int .i64 zm.fRate.fN),(.int .i64 zm.fRate.fD),(.int .i64 zm.fL.fN),(.int .i64 zm.fL.fD),(.func (.func 72) #[] #[(.pointer (some z1f)),(.pointer (some z1g))]),(.slice z1n z17.length z1o)]))]) Tryz.func77 rfl Tryz.ntmps77 rfl (Hp.nil w₀ _) rfl ?_
 refine WC.pool (WC.b (WC.a ?_))
 refine WL.nA 1 (yH (cs:=[(.slice z1l z16.length z1m),(.int .i64 zm.fRate.fN),(.int .i64 zm.fRate.fD),(.int .i64 zm.fL.fN),(.int .i64 zm.fL.fD),(.func (.func 72) #[] #[(.pointer (some z1f)),(.pointer (some z1g))]),(.slice z1n z17.length z1o)]) rfl rfl) ?_
 intro z3o _
 refine WL.nA 2 (yv (cs:=[(.int .i64 0),(.int .i64 0)]) zP rfl) ?_
 intro z3B _
 refine WL.pu rfl (WL.nil (WX.a (WC.b (WC.b ?_))))
 obtain ⟨zl3,zPs,h⟩:=z7 h
 refine WC.a ?_
 refine WL.qA 9 (yg zfR rfl (yh .h1) rfl) ?_
 refine WL.y3I (dd:=10) rfl rfl rfl (za (l:=[.tmp 9]) Tryz.call109 (.cons rfl .nil)) .nil (ccz hz .nil .h2 fun w pz ho=>y8M _ _ _ _ _ _ _ _ _ _ _ _ _ _ _ zPs w pz ((zvd.mono (Zle.left _ _)).weak (fun _ _ h=>yT (Zle.left _ _) h)) ((znY.mono (Zle.left _ _)).weak (fun _ _ h=>yT (Zle.left _ _) h)) (znZ.mono (Zle.left _ _)) (zo0.mono (Zle.left _ _)) (zve.mono (Zle.left _ _))) ?_
 rintro z5K _
 refine WL.merge .here .h2 ?_
 refine WL.pu rfl (WL.nil (WX.a (WC.b (WC.a (WL.pu rfl (WL.pu rfl (WL.nil (WX.a ?_))))))))
 refine WC.cond rfl (fun zvf=>?_) (fun zvf=>?_)
 ·replace h:=yn h zvf
  refine WC.b (WC.a ?_)
  refine WL.qA 13 (yI (v:=(.agg #[(.int .i64 0),(.int .i64 0)])) (Eos.parts (l:=[]) .nil []) (fun _=>by kernel_rfl)) ?_
  refine WL.pu rfl ?_
  refine WL.ym rfl rfl (yl zu rfl rfl rfl .h1 rfl rfl rfl) ?_
  refine WL.pu rfl (WL.nil (WX.a (WC.ret (WX.yd ?_))))
  obtain rfl:=Option.some.inj h
  refine WX.yai Tryz.results77 (.agg rfl zd rfl (yh .here) (.tmp rfl .nil)) (fun w hw=>?_)
  exact ⟨([] ++ z5K),y1z rfl rfl,trivial,hw.sub (.cons .h1 .nil)⟩
 ·replace h:=yo h zvf
  refine WC.skip (WX.a (WC.b (WC.a ?_)))
  refine WL.nA 5 (yv (cs:=[(.int .i64 0)]) zm5 rfl) ?_
  intro z2N _
  refine WL.nil (WX.a (WC.b (WC.a ?_)))
  refine WL.nA 6 (yv (cs:=[(.slice none 0 0)]) zpa rfl) ?_
  intro z36 _
  refine WL.nil (WX.a ?_)
  obtain ⟨zva,zPt,h⟩:=y3D h
  refine WC.y8X (fun (zl4 : Nat) (z8R : Int) (z67 : List z1) (zfn : Zp) (zl5 : Option Addr) (zl6 : Nat)=>(zva z8R z67 = some r) ∧ (Zle (Z ++ ([] ++ z5K)) (Z ++ zfn))) (fun (zl4 : Nat) (z8R : Int) (z67 : List z1) (zfn : Zp) (zl5 : Option Addr) (zl6 : Nat)=>[(2,(.pointer (some ⟨z3B,0,none⟩))),(5,(.pointer (some ⟨z2N,0,none⟩))),(6,(.pointer (some ⟨z36,0,none⟩)))]) (fun (zl4 : Nat) (z8R : Int) (z67 : List z1) (zfn : Zp) (zl5 : Option Addr) (zl6 : Nat)=>[fz zfn,stb z3B 132 [(.int .i64 0),(.int .i64 0)],stb z2N 225 [(.int .i64 z8R)],stb z36 175 [(.slice zl5 z67.length zl6)],row (.slice zl5 z67.length zl6) 132 2 (z67.flatMap yw),dfr zl4]) ?_ ?_
  ·skip
   refine WC.b ?_
   obtain ⟨zy,zPu,h⟩:=z7 h
   refine WC.a ?_
   refine WL.qA 15 (yg zfR rfl (yh .h4) rfl) ?_
   refine WL.y3I (dd:=16) rfl rfl rfl (za (l:=[.tmp 15]) Tryz.call110 (.cons rfl .nil)) .nil (ccz hz .nil .h2 fun w pz ho=>y8C _ _ _ _ _ _ _ _ _ _ _ _ _ _ _ zPu w pz ((zvd.mono ((Zle.left _ _).trans ((Zle.left _ _).trans (Zle.yu _ _ _)))).weak (fun _ _ h=>yT ((Zle.left _ _).trans ((Zle.left _ _).trans (Zle.yu _ _ _))) h)) ((znY.mono ((Zle.left _ _).trans ((Zle.left _ _).trans (Zle.yu _ _ _)))).weak (fun _ _ h=>yT ((Zle.left _ _).trans ((Zle.left _ _).trans (Zle.yu _ _ _))) h)) (znZ.mono ((Zle.left _ _).trans ((Zle.left _ _).trans (Zle.yu _ _ _)))) (zo0.mono ((Zle.left _ _).trans ((Zle.left _ _).trans (Zle.yu _ _ _)))) (zve.mono ((Zle.left _ _).trans ((Zle.left _ _).trans (Zle.yu _ _ _))))) ?_
   rintro z4i _
   refine WL.nil (WX.a (WC.block (WC.pool ?_)))
   refine WC.drop (.cons .here (.cons .h1 (.cons .h1 (.cons .h2 (.cons .h2 (.cons .here (.cons .here .nil))))))) ?_
   refine WC.nilRow 132 2 ?_
   refine WC.rangeFunc (f:=155) (caps:=[(.pointer (some ⟨z4i,0,none⟩))]) rfl Tryz.call155 ?_
   intro zZ7 zZ8 z3V z68 z4S zo1 zPv zPw w hw
   have hw1:=hw.selAll ((.cons .h3 (.cons .h3 (.cons .h2 (.cons .h2 (.cons .h2 (.cons .h2 (.cons .here .nil))))))) : Sel _ [fz [],stb z36 175 [(.slice none (([] : List z1).length) 0)],row (.slice none (([] : List z1).length) 0) 132 2 (([] : List z1).flatMap yw),stb z2N 225 [(.int .i64 0)],stb z3B 132 [(.int .i64 0),(.int .i64 0)],stb z3o 177 [(.slice z1l z16.length z1m),(.int .i64 zm.fRate.fN),(.int .i64 zm.fRate.fD),(.int .i64 zm.fL.fN),(.int .i64 zm.fL.fD),(.func (.func 72) #[] #[(.pointer (some z1f)),(.pointer (some z1g))]),(.slice z1n z17.length z1o)],blk z3V (z4S .ready none)] _)
   have pz:=(hz.call2 hw1 ((.cons .here .nil) : Sel [y1G [fz [],stb z36 175 [(.slice none (([] : List z1).length) 0)],row (.slice none (([] : List z1).length) 0) 132 2 (([] : List z1).flatMap yw),stb z2N 225 [(.int .i64 0)],stb z3B 132 [(.int .i64 0),(.int .i64 0)],stb z3o 177 [(.slice z1l z16.length z1m),(.int .i64 zm.fRate.fN),(.int .i64 zm.fRate.fD),(.int .i64 zm.fL.fN),(.int .i64 zm.fL.fD),(.func (.func 72) #[] #[(.pointer (some z1f)),(.pointer (some z1g))]),(.slice z1n z17.length z1o)],blk z3V (z4S .ready none)],dfr z68,stb z4i 177 [(.slice z1l z16.length z1m),(.int .i64 zy.1),(.int .i64 zy.2.1),(.int .i64 zy.2.2.1),(.int .i64 zy.2.2.2),(.func (.func 72) #[] #[(.pointer (some z1f)),(.pointer (some z1g))]),(.slice z1n z17.length z1o)],fz ([] ++ z5K)] [y1G [fz [],stb z36 175 [(.slice none (([] : List z1).length) 0)],row (.slice none (([] : List z1).length) 0) 132 2 (([] : List z1).flatMap yw),stb z2N 225 [(.int .i64 0)],stb z3B 132 [(.int .i64 0),(.int .i64 0)],stb z3o 177 [(.slice z1l z16.length z1m),(.int .i64 zm.fRate.fN),(.int .i64 zm.fRate.fD),(.int .i64 zm.fL.fN),(.int .i64 zm.fL.fD),(.func (.func 72) #[] #[(.pointer (some z1f)),(.pointer (some z1g))]),(.slice z1n z17.length z1o)],blk z3V (z4S .ready none)]] [dfr z68,stb z4i 177 [(.slice z1l z16.length z1m),(.int .i64 zy.1),(.int .i64 zy.2.1),(.int .i64 zy.2.2.1),(.int .i64 zy.2.2.2),(.func (.func 72) #[] #[(.pointer (some z1f)),(.pointer (some z1g))]),(.slice z1n z17.length z1o)],fz ([] ++ z5K)]) .h2).lend hw1 ((.cons .here .nil) : Sel [y1G [fz [],stb z36 175 [(.slice none (([] : List z1).length) 0)],row (.slice none (([] : List z1).length) 0) 132 2 (([] : List z1).flatMap yw),stb z2N 225 [(.int .i64 0)],stb z3B 132 [(.int .i64 0),(.int .i64 0)],stb z3o 177 [(.slice z1l z16.length z1m),(.int .i64 zm.fRate.fN),(.int .i64 zm.fRate.fD),(.int .i64 zm.fL.fN),(.int .i64 zm.fL.fD),(.func (.func 72) #[] #[(.pointer (some z1f)),(.pointer (some z1g))]),(.slice z1n z17.length z1o)],blk z3V (z4S .ready none)],dfr z68,stb z4i 177 [(.slice z1l z16.length z1m),(.int .i64 zy.1),(.int .i64 zy.2.1),(.int .i64 zy.2.2.1),(.int .i64 zy.2.2.2),(.func (.func 72) #[] #[(.pointer (some z1f)),(.pointer (some z1g))]),(.slice z1n z17.length z1o)],fz ([] ++ z5K)] [y1G [fz [],stb z36 175 [(.slice none (([] : List z1).length) 0)],row (.slice none (([] : List z1).length) 0) 132 2 (([] : List z1).flatMap yw),stb z2N 225 [(.int .i64 0)],stb z3B 132 [(.int .i64 0),(.int .i64 0)],stb z3o 177 [(.slice z1l z16.length z1m),(.int .i64 zm.fRate.fN),(.int .i64 zm.fRate.fD),(.int .i64 zm.fL.fN),(.int .i64 zm.fL.fD),(.func (.func 72) #[] #[(.pointer (some z1f)),(.pointer (some z1g))]),(.slice z1n z17.length z1o)],blk z3V (z4S .ready none)]] [dfr z68,stb z4i 177 [(.slice z1l z16.length z1m),(.int .i64 zy.1),(.int .i64 zy.2.1),(.int .i64 zy.2.2.1),(.int .i64 zy.2.2.2),(.func (.func 72) #[] #[(.pointer (some z1f)),(.pointer (some z1g))]),(.slice z1n z17.length z1o)],fz ([] ++ z5K)]) (B:=[stb z4i 177 [(.slice z1l z16.length z1m),(.int .i64 zy.1),(.int .i64 zy.2.1),(.int .i64 zy.2.2.1),(.int .i64 zy.2.2.2),(.func (.func 72) #[] #[(.pointer (some z1f)),(.pointer (some z1g))]),(.slice z1n z17.length z1o)]]) (fun _ hx'=>((.cons .h1 .nil) : Sel _ [stb z4i 177 [(.slice z1l z16.length z1m),(.int .i64 zy.1),(.int .i64 zy.2.1),(.int .i64 zy.2.2.1),(.int .i64 zy.2.2.2),(.func (.func 72) #[] #[(.pointer (some z1f)),(.pointer (some z1g))]),(.slice z1n z17.length z1o)]] _).mem hx')
   obtain ⟨z3U,zPx,h⟩:=z7 h
   refine Calls.mono (y8b (Z:=_) (z8c:=z3V) (z2g:=(Option Addr × Nat)) (z2h:=(fun (g : Option Addr × Nat) (s : Nat × List z1 × Int)=>y1G ([fz [],stb z36 175 [(.slice g.1 s.2.1.length g.2)],row (.slice g.1 s.2.1.length g.2) 132 2 (s.2.1.flatMap yw),stb z2N 225 [(.int .i64 s.2.2)],stb z3B 132 [(.int .i64 0),(.int .i64 0)],stb z3o 177 [(.slice z1l z16.length z1m),(.int .i64 zm.fRate.fN),(.int .i64 zm.fRate.fD),(.int .i64 zm.fL.fN),(.int .i64 zm.fL.fD),(.func (.func 72) #[] #[(.pointer (some z1f)),(.pointer (some z1g))]),(.slice z1n z17.length z1o)]] ++ [blk z3V (z4S (rdy (pcs [] s.1)) (pcs [] s.1))]))) (z6B:=(fun (g : Option Addr × Nat) (s : Nat × List z1 × Int)=>True)) (zaK:=(none,0)) (zaL:=⟨z4i,0,none⟩) (zde:=z1l) (zdf:=z1m) (zuB:=z1f) (zuC:=zvb) (zuD:=zvc) (zuE:=z1g) (zkS:=z1n) (zkT:=z1o) (zq:=(Nat × List z1 × Int)) (z29:=(fun (x : z1) (s : Nat × List z1 × Int)=>chk (s.1 = 0) (y3s z6E z5J x s.2.1 s.2.2))) (s0_44368:=(0,([] : List z1),0)) (z2C:=z16) (zfc:=(⟨(⟨zy.1,zy.2.1⟩ : z1),(⟨zy.2.2.1,zy.2.2.2⟩ : z1)⟩ : zSv)) (zkR:=z6E) (zfd:=z5J) (z2M:=z17) (r:=z3U) w pz ?_ trivial ((((zvd.mono ((Zle.left _ _).trans ((Zle.left _ _).trans (Zle.yu _ _ _)))).weak (fun _ _ h=>yT ((Zle.left _ _).trans ((Zle.left _ _).trans (Zle.yu _ _ _))) h)).mono (Zle.left _ _)).weak (fun _ _ h=>yT (Zle.left _ _) h)) ((((znY.mono ((Zle.left _ _).trans ((Zle.left _ _).trans (Zle.yu _ _ _)))).weak (fun _ _ h=>yT ((Zle.left _ _).trans ((Zle.left _ _).trans (Zle.yu _ _ _))) h)).mono (Zle.left _ _)).weak (fun _ _ h=>yT (Zle.left _ _) h)) ((znZ.mono ((Zle.left _ _).trans ((Zle.left _ _).trans (Zle.yu _ _ _)))).mono (Zle.left _ _)) ((zo0.mono ((Zle.left _ _).trans ((Zle.left _ _).trans (Zle.yu _ _ _)))).mono (Zle.left _ _)) ((zve.mono ((Zle.left _ _).trans ((Zle.left _ _).trans (Zle.yu _ _ _)))).mono (Zle.left _ _)) ((hw1.lent ((.cons .here .nil) : Sel [y1G [fz [],stb z36 175 [(.slice none (([] : List z1).length) 0)],row (.slice none (([] : List z1).length) 0) 132 2 (([] : List z1).flatMap yw),stb z2N 225 [(.int .i64 0)],stb z3B 132 [(.int .i64 0),(.int .i64 0)],stb z3o 177 [(.slice z1l z16.length z1m),(.int .i64 zm.fRate.fN),(.int .i64 zm.fRate.fD),(.int .i64 zm.fL.fN),(.int .i64 zm.fL.fD),(.func (.func 72) #[] #[(.pointer (some z1f)),(.pointer (some z1g))]),(.slice z1n z17.length z1o)],blk z3V (z4S .ready none)],dfr z68,stb z4i 177 [(.slice z1l z16.length z1m),(.int .i64 zy.1),(.int .i64 zy.2.1),(.int .i64 zy.2.2.1),(.int .i64 zy.2.2.2),(.func (.func 72) #[] #[(.pointer (some z1f)),(.pointer (some z1g))]),(.slice z1n z17.length z1o)],fz ([] ++ z5K)] [y1G [fz [],stb z36 175 [(.slice none (([] : List z1).length) 0)],row (.slice none (([] : List z1).length) 0) 132 2 (([] : List z1).flatMap yw),stb z2N 225 [(.int .i64 0)],stb z3B 132 [(.int .i64 0),(.int .i64 0)],stb z3o 177 [(.slice z1l z16.length z1m),(.int .i64 zm.fRate.fN),(.int .i64 zm.fRate.fD),(.int .i64 zm.fL.fN),(.int .i64 zm.fL.fD),(.func (.func 72) #[] #[(.pointer (some z1f)),(.pointer (some z1g))]),(.slice z1n z17.length z1o)],blk z3V (z4S .ready none)]] [dfr z68,stb z4i 177 [(.slice z1l z16.length z1m),(.int .i64 zy.1),(.int .i64 zy.2.1),(.int .i64 zy.2.2.1),(.int .i64 zy.2.2.2),(.func (.func 72) #[] #[(.pointer (some z1f)),(.pointer (some z1g))]),(.slice z1n z17.length z1o)],fz ([] ++ z5K)]) (B:=[stb z4i 177 [(.slice z1l z16.length z1m),(.int .i64 zy.1),(.int .i64 zy.2.1),(.int .i64 zy.2.2.1),(.int .i64 zy.2.2.2),(.func (.func 72) #[] #[(.pointer (some z1f)),(.pointer (some z1g))]),(.slice z1n z17.length z1o)]]) (fun _ hx'=>((.cons .h1 .nil) : Sel _ [stb z4i 177 [(.slice z1l z16.length z1m),(.int .i64 zy.1),(.int .i64 zy.2.1),(.int .i64 zy.2.2.1),(.int .i64 zy.2.2.2),(.func (.func 72) #[] #[(.pointer (some z1f)),(.pointer (some z1g))]),(.slice z1n z17.length z1o)]] _).mem hx') (.head _) _).stb) zPx (hw1.owns ((.cons .here .nil) : Sel [y1G [fz [],stb z36 175 [(.slice none (([] : List z1).length) 0)],row (.slice none (([] : List z1).length) 0) 132 2 (([] : List z1).flatMap yw),stb z2N 225 [(.int .i64 0)],stb z3B 132 [(.int .i64 0),(.int .i64 0)],stb z3o 177 [(.slice z1l z16.length z1m),(.int .i64 zm.fRate.fN),(.int .i64 zm.fRate.fD),(.int .i64 zm.fL.fN),(.int .i64 zm.fL.fD),(.func (.func 72) #[] #[(.pointer (some z1f)),(.pointer (some z1g))]),(.slice z1n z17.length z1o)],blk z3V (z4S .ready none)],dfr z68,stb z4i 177 [(.slice z1l z16.length z1m),(.int .i64 zy.1),(.int .i64 zy.2.1),(.int .i64 zy.2.2.1),(.int .i64 zy.2.2.2),(.func (.func 72) #[] #[(.pointer (some z1f)),(.pointer (some z1g))]),(.slice z1n z17.length z1o)],fz ([] ++ z5K)] [y1G [fz [],stb z36 175 [(.slice none (([] : List z1).length) 0)],row (.slice none (([] : List z1).length) 0) 132 2 (([] : List z1).flatMap yw),stb z2N 225 [(.int .i64 0)],stb z3B 132 [(.int .i64 0),(.int .i64 0)],stb z3o 177 [(.slice z1l z16.length z1m),(.int .i64 zm.fRate.fN),(.int .i64 zm.fRate.fD),(.int .i64 zm.fL.fN),(.int .i64 zm.fL.fD),(.func (.func 72) #[] #[(.pointer (some z1f)),(.pointer (some z1g))]),(.slice z1n z17.length z1o)],blk z3V (z4S .ready none)]] [dfr z68,stb z4i 177 [(.slice z1l z16.length z1m),(.int .i64 zy.1),(.int .i64 zy.2.1),(.int .i64 zy.2.2.1),(.int .i64 zy.2.2.2),(.func (.func 72) #[] #[(.pointer (some z1f)),(.pointer (some z1g))]),(.slice z1n z17.length z1o)],fz ([] ++ z5K)]))) ?_
   ·skip
    refine yah (LI:=(fun (g : Option Addr × Nat) (s : Nat × List z1 × Int)=>[fz [],stb z36 175 [(.slice g.1 s.2.1.length g.2)],row (.slice g.1 s.2.1.length g.2) 132 2 (s.2.1.flatMap yw),stb z2N 225 [(.int .i64 s.2.2)],stb z3B 132 [(.int .i64 0),(.int .i64 0)],stb z3o 177 [(.slice z1l z16.length z1m),(.int .i64 zm.fRate.fN),(.int .i64 zm.fRate.fD),(.int .i64 zm.fL.fN),(.int .i64 zm.fL.fD),(.func (.func 72) #[] #[(.pointer (some z1f)),(.pointer (some z1g))]),(.slice z1n z17.length z1o)]])) (pc:=(fun (s : Nat × List z1 × Int)=>pcs [] s.1)) zo1 zPv zPw (fun _ _=>rfl) (by decide) ?_
    rintro zaU _ ⟨zhZ,zi0⟩ ⟨zPy,z3A,znX⟩ zPz zPA Fb wb zDC _ hz
    replace hz:=hz.left
    letI : Rnd:=inR z3V
    obtain ⟨hp0,z6G⟩:=yq zDC
    replace hp0 : zPy = 0:=hp0; subst hp0; clear zDC
    replace z6G : y3s z6E z5J zaU z3A znX = some (zPz,zPA):=z6G
    unfold y3s at z6G
    refine WC.restr (env':=[(1,(.pointer (some ⟨z3o,0,none⟩))),(12,(.bool (decide (zl3 ≠ 0)))),(5,(.pointer (some ⟨z2N,0,none⟩))),(6,(.pointer (some ⟨z36,0,none⟩))),(17,(.agg #[(.int .i64 zaU.fN),(.int .i64 zaU.fD)]))]) (.cons rfl (.cons rfl (.cons rfl (.cons rfl (.cons rfl .nil))))) ?_
    refine WC.eqL (L':=[fz [],stb z36 175 [(.slice zhZ z3A.length zi0)],row (.slice zhZ z3A.length zi0) 132 2 (z3A.flatMap yw),stb z2N 225 [(.int .i64 znX)],stb z3B 132 [(.int .i64 0),(.int .i64 0)],stb z3o 177 [(.slice z1l z16.length z1m),(.int .i64 zm.fRate.fN),(.int .i64 zm.fRate.fD),(.int .i64 zm.fL.fN),(.int .i64 zm.fL.fD),(.func (.func 72) #[] #[(.pointer (some z1f)),(.pointer (some z1g))]),(.slice z1n z17.length z1o)],blk z3V (z4S .ready none)]) rfl ?_
    refine WC.a ?_
    refine WL.nA 7 (yv (cs:=[(.int .i64 0),(.int .i64 0)]) zP rfl) ?_
    intro zPB _
    refine WL.ym rfl rfl (yl zu rfl rfl rfl .here rfl rfl rfl) ?_
    refine WL.nil ?_
    refine WX.yb7 zo1 .h7 ?_
    refine WC.block (WC.b ?_)
    obtain ⟨z6F,zPC,z6G⟩:=z7 z6G
    refine WC.a ?_
    refine WL.qA 18 (ya y9C rfl rfl) ?_
    refine WL.qA 19 (yc zya rfl (yk .h7 rfl)) ?_
    refine WL.qA 20 (yg zd rfl (yh .h1) rfl) ?_
    refine WL.cA 21 (y27 (l:=[.tmp 5,.tmp 20]) Tryz.call72 rfl (.cons rfl (.cons rfl .nil))) (.cons .h5 .nil) (ccz hz (.cons .h5 .nil) .h2 fun w pz ho=>yaB _ _ _ _ _ _ _ _ _ _ _ zPC w pz ((znY.mono ((Zle.left _ _).trans ((Zle.left _ _).trans ((Zle.yu _ _ _).trans (Zle.left _ _))))).weak (fun _ _ h=>yT ((Zle.left _ _).trans ((Zle.left _ _).trans ((Zle.yu _ _ _).trans (Zle.left _ _)))) h)) (znZ.mono ((Zle.left _ _).trans ((Zle.left _ _).trans ((Zle.yu _ _ _).trans (Zle.left _ _))))) (zo0.mono ((Zle.left _ _).trans ((Zle.left _ _).trans ((Zle.yu _ _ _).trans (Zle.left _ _))))) ho) ?_
    refine WL.nA 8 (yv (cs:=[(.int .i64 0),(.int .i64 0)]) zP rfl) ?_
    intro zPD _
    refine WL.ym rfl rfl (yl zu rfl rfl rfl .here rfl rfl rfl) ?_
    refine WL.nil (WX.a (WC.b ?_))
    obtain ⟨zv9,zDD,z6G⟩:=z7 z6G
    refine WC.yL (fun i=>[].contains i) [] rfl ?_
    refine WD.qA 0 22 rfl (yc z7I rfl (yk .h5 rfl)) ?_
    refine WD.pA 1 23 rfl (fun _=>yE Tryz.underlying175 rfl) ?_
    refine WD.pA 2 24 rfl (fun _=>y8e rfl rfl) ?_
    refine WD.pA 3 25 rfl (fun _=>q_m rfl) ?_
    refine WD.mid (fuel':=0) [(1,(.pointer (some ⟨z3o,0,none⟩))),(12,(.bool (decide (zl3 ≠ 0)))),(5,(.pointer (some ⟨z2N,0,none⟩))),(6,(.pointer (some ⟨z36,0,none⟩))),(17,(.agg #[(.int .i64 zaU.fN),(.int .i64 zaU.fD)])),(7,(.pointer (some ⟨zPB,0,none⟩))),(18,(.pointer (some ⟨z3o,5,none⟩))),(19,(.func (.func 72) #[] #[(.pointer (some z1f)),(.pointer (some z1g))])),(20,(.agg #[(.int .i64 zaU.fN),(.int .i64 zaU.fD)])),(21,(.agg #[(.int .i64 z6F.1.fN),(.int .i64 z6F.1.fD)])),(8,(.pointer (some ⟨zPD,0,none⟩))),(22,(.slice zhZ z3A.length zi0)),(23,(.int .i64 ((z3A.length : Nat) : Int))),(24,(.bool (decide (((z3A.length : Nat) : Int) = 0)))),(25,(.bool (decide (((z3A.length : Nat) : Int) = 0)))),(32,(.bool zv9))] (y29 11 [10,9,8,7,6,5,4,3,2,1,0]) ?_ (fun zDE=>?_)
    rotate_left
    ·rcases Bool.eq_false_or_eq_true (decide (((z3A.length : Nat) : Int) = 0)) with hb' | hb'
     ·have zvg:=hb'; clear hb'
      have zvh:=yn zDD zvg
      replace zvh:=Option.some.inj zvh
      refine WD.pin (i:=25) rfl zvg ?_
      refine WD.kA 4 26 rfl ?_
      refine WD.kA 5 27 rfl ?_
      refine WD.kA 6 28 rfl ?_
      refine WD.kA 7 29 rfl ?_
      refine WD.kA 8 30 rfl ?_
      refine WD.kA 9 31 rfl ?_
      refine WD.pA 10 32 rfl (fun _=>y2y rfl rfl) ?_
      refine WD.reL (.cons .here (.cons .here (.cons .here (.cons .here (.cons .here (.cons .here (.cons .here (.cons .here (.cons .here .nil))))))))) ?_ zDE
      exact (.cons rfl (.cons rfl (.cons rfl (.cons rfl (.cons rfl (.cons rfl (.cons rfl (.cons rfl (.cons rfl (.cons rfl (.cons rfl (.cons rfl (.cons rfl (.cons rfl (.cons (zx (Eq.symm zvg)) (.cons (zx zvh) .nil))))))))))))))))
     ·have zvi:=hb'; clear hb'
      have zfo:=yo zDD zvi
      obtain ⟨zl7,zfo⟩:=yq zfo
      obtain ⟨zDB,zPE,zfo⟩:=z7 zfo
      replace zfo:=Option.some.inj zfo
      refine WD.pin (i:=25) rfl zvi ?_
      refine WD.qA 4 26 rfl (yg zd rfl (yh .here) rfl) ?_
      refine WD.qA 5 27 rfl (yc z7I rfl (yk .h5 rfl)) ?_
      refine WD.know (fun w hw=>Hp.y2H .h6 hw (by intro hz'; have:=zl7; rw [hz'] at this; omega)) ?_
      rintro ⟨zZ9,rfl⟩
      refine WD.pA 6 28 rfl (fun _=>yY z20 rfl rfl zl7.1 zl7.2 y3z) ?_
      refine WD.qA 7 29 rfl (yQ (cs:=(yw (nth z3A 0))) zd rfl rfl (y3d .h6 (y2Q (enc:=yw) (l:=z3A) (i:=0) (sz:=2) (fun _=>rfl) zl7.1 zl7.2))) ?_
      refine WD.eA 8 30 rfl (za (l:=[.tmp 26,.tmp 29]) Tryz.call79 (.cons rfl (.cons rfl .nil))) (ccz hz .nil .h4 fun w pz ho=>y3w _ _ _ _ zPE w pz ) ?_
      refine WD.pA 9 31 rfl (fun _=>yaG rfl rfl) ?_
      refine WD.pA 10 32 rfl (fun _=>y2z rfl rfl) ?_
      refine WD.reL (.cons .here (.cons .here (.cons .here (.cons .here (.cons .here (.cons .here (.cons .here (.cons .here (.cons .here .nil))))))))) ?_ zDE
      exact (.cons rfl (.cons rfl (.cons rfl (.cons rfl (.cons rfl (.cons rfl (.cons rfl (.cons rfl (.cons rfl (.cons rfl (.cons rfl (.cons rfl (.cons rfl (.cons rfl (.cons (zx (Eq.symm zvi)) (.cons (zx zfo) .nil))))))))))))))))
    refine WD.done (by kernel_rfl) ?_
    refine WX.a ?_
    refine WC.cond rfl (fun zvj=>?_) (fun zvj=>?_)
    ·replace z6G:=yn z6G zvj
     refine WC.a ?_
     refine WL.qA 33 (yg zd rfl (yh .here) rfl) ?_
     refine WL.nA 34 (yS (cs:=([z6F.1] : List z1).flatMap yw) z20 (Eos.parts (l:=[.tmp 33]) (.cons rfl .nil) [0]) (fun _=>by kernel_rfl) rfl (by unfold maxLen; omega)) ?_
     intro zvk _
     refine WL.ym rfl rfl (yl zpb rfl rfl rfl .h6 rfl rfl rfl) ?_
     refine WL.nil (WX.yj ?_)
     obtain ⟨rfl,rfl⟩:=y9a z6G
     exact WX.y6k zo1 .h4 (fun w' hw'=>⟨((some ⟨zvk,0,none⟩),1),rfl,trivial,(hw'.selAll ((.cons .h6 (.cons .h1 (.cons .h1 (.cons .h2 (.cons .h4 (.cons .h4 (.cons .here .nil))))))) : Sel _ [fz [],stb z36 175 [(.slice (some ⟨zvk,0,none⟩) (([z6F.1] : List z1).length) 1)],row (.slice (some ⟨zvk,0,none⟩) (([z6F.1] : List z1).length) 1) 132 2 (([z6F.1] : List z1).flatMap yw),stb z2N 225 [(.int .i64 z6F.2.fE)],stb z3B 132 [(.int .i64 0),(.int .i64 0)],stb z3o 177 [(.slice z1l z16.length z1m),(.int .i64 zm.fRate.fN),(.int .i64 zm.fRate.fD),(.int .i64 zm.fL.fN),(.int .i64 zm.fL.fD),(.func (.func 72) #[] #[(.pointer (some z1f)),(.pointer (some z1g))]),(.slice z1n z17.length z1o)],blk z3V (z4S .ready none)] _)).sub (.cons .here .nil)⟩)
    ·replace z6G:=yo z6G zvj
     refine WC.skip (WX.yj ?_)
     obtain ⟨rfl,rfl⟩:=y9a z6G
     exact WX.y6k zo1 .h2 (fun w' hw'=>⟨(zhZ,zi0),rfl,trivial,(hw'.selAll ((.cons .h4 (.cons .h4 (.cons .h4 (.cons .h2 (.cons .h3 (.cons .h3 (.cons .here .nil))))))) : Sel _ [fz [],stb z36 175 [(.slice zhZ z3A.length zi0)],row (.slice zhZ z3A.length zi0) 132 2 (z3A.flatMap yw),stb z2N 225 [(.int .i64 z6F.2.fE)],stb z3B 132 [(.int .i64 0),(.int .i64 0)],stb z3o 177 [(.slice z1l z16.length z1m),(.int .i64 zm.fRate.fN),(.int .i64 zm.fRate.fD),(.int .i64 zm.fL.fN),(.int .i64 zm.fL.fD),(.func (.func 72) #[] #[(.pointer (some z1f)),(.pointer (some z1g))]),(.slice z1n z17.length z1o)],blk z3V (z4S .ready none)] _)).sub (.cons .here .nil)⟩)
   ·skip
    rintro _ w' ⟨zPF,⟨zl8,zl9⟩,rfl,_,hp⟩
    have hp1:=hw1.call ((.cons .here .nil) : Sel [y1G [fz [],stb z36 175 [(.slice none (([] : List z1).length) 0)],row (.slice none (([] : List z1).length) 0) 132 2 (([] : List z1).flatMap yw),stb z2N 225 [(.int .i64 0)],stb z3B 132 [(.int .i64 0),(.int .i64 0)],stb z3o 177 [(.slice z1l z16.length z1m),(.int .i64 zm.fRate.fN),(.int .i64 zm.fRate.fD),(.int .i64 zm.fL.fN),(.int .i64 zm.fL.fD),(.func (.func 72) #[] #[(.pointer (some z1f)),(.pointer (some z1g))]),(.slice z1n z17.length z1o)],blk z3V (z4S .ready none)],dfr z68,stb z4i 177 [(.slice z1l z16.length z1m),(.int .i64 zy.1),(.int .i64 zy.2.1),(.int .i64 zy.2.2.1),(.int .i64 zy.2.2.2),(.func (.func 72) #[] #[(.pointer (some z1f)),(.pointer (some z1g))]),(.slice z1n z17.length z1o)],fz ([] ++ z5K)] [y1G [fz [],stb z36 175 [(.slice none (([] : List z1).length) 0)],row (.slice none (([] : List z1).length) 0) 132 2 (([] : List z1).flatMap yw),stb z2N 225 [(.int .i64 0)],stb z3B 132 [(.int .i64 0),(.int .i64 0)],stb z3o 177 [(.slice z1l z16.length z1m),(.int .i64 zm.fRate.fN),(.int .i64 zm.fRate.fD),(.int .i64 zm.fL.fN),(.int .i64 zm.fL.fD),(.func (.func 72) #[] #[(.pointer (some z1f)),(.pointer (some z1g))]),(.slice z1n z17.length z1o)],blk z3V (z4S .ready none)]] [dfr z68,stb z4i 177 [(.slice z1l z16.length z1m),(.int .i64 zy.1),(.int .i64 zy.2.1),(.int .i64 zy.2.2.1),(.int .i64 zy.2.2.2),(.func (.func 72) #[] #[(.pointer (some z1f)),(.pointer (some z1g))]),(.slice z1n z17.length z1o)],fz ([] ++ z5K)]) hp
    have hp2 : Hp _ _ w' [fz [],stb z36 175 [(.slice zl8 z3U.2.1.length zl9)],row (.slice zl8 z3U.2.1.length zl9) 132 2 (z3U.2.1.flatMap yw),stb z2N 225 [(.int .i64 z3U.2.2)],stb z3B 132 [(.int .i64 0),(.int .i64 0)],stb z3o 177 [(.slice z1l z16.length z1m),(.int .i64 zm.fRate.fN),(.int .i64 zm.fRate.fD),(.int .i64 zm.fL.fN),(.int .i64 zm.fL.fD),(.func (.func 72) #[] #[(.pointer (some z1f)),(.pointer (some z1g))]),(.slice z1n z17.length z1o)],blk z3V (z4S (rdy (pcs [] z3U.1)) (pcs [] z3U.1)),fz zPF,dfr z68,stb z4i 177 [(.slice z1l z16.length z1m),(.int .i64 zy.1),(.int .i64 zy.2.1),(.int .i64 zy.2.2.1),(.int .i64 zy.2.2.2),(.func (.func 72) #[] #[(.pointer (some z1f)),(.pointer (some z1g))]),(.slice z1n z17.length z1o)],fz ([] ++ z5K)]:=hp1.pickAll .h1
    refine ⟨_,pcs [] z3U.1,_,rfl,(hp2.sub ((.cons .h6 (.cons .here (.cons .here (.cons .here (.cons .here (.cons .here (.cons .here (.cons .h1 (.cons .h1 (.cons .h1 .nil)))))))))) : Sel _ [blk z3V (z4S (rdy (pcs [] z3U.1)) (pcs [] z3U.1)),fz [],stb z36 175 [(.slice zl8 z3U.2.1.length zl9)],row (.slice zl8 z3U.2.1.length zl9) 132 2 (z3U.2.1.flatMap yw),stb z2N 225 [(.int .i64 z3U.2.2)],stb z3B 132 [(.int .i64 0),(.int .i64 0)],stb z3o 177 [(.slice z1l z16.length z1m),(.int .i64 zm.fRate.fN),(.int .i64 zm.fRate.fD),(.int .i64 zm.fL.fN),(.int .i64 zm.fL.fD),(.func (.func 72) #[] #[(.pointer (some z1f)),(.pointer (some z1g))]),(.slice z1n z17.length z1o)],dfr z68,stb z4i 177 [(.slice z1l z16.length z1m),(.int .i64 zy.1),(.int .i64 zy.2.1),(.int .i64 zy.2.2.1),(.int .i64 zy.2.2.2),(.func (.func 72) #[] #[(.pointer (some z1f)),(.pointer (some z1g))]),(.slice z1n z17.length z1o)],fz ([] ++ z5K)] _)),?_⟩
    clear hp hp1 hp2 pz hw hw1
    refine wjN ?_
    letI : Rnd:=aft z68
    refine WX.merge .here .h7 ?_
    refine WX.yj ?_
    exact WX.midR (D:=fun (g : Nat × Int × List z1 × Zp × Option Addr × Nat)=>g.1) (G:=Nat × Int × List z1 × Zp × Option Addr × Nat) ⟨z68,z3U.2.2,z3U.2.1,(([] ++ z5K) ++ []),zl8,zl9⟩ ⟨h,((Zle.left _ _).trans (Zle.yu _ _ _))⟩ (.cons rfl (.cons rfl (.cons rfl .nil))) (.cons .here (.cons .h3 (.cons .h2 (.cons .here (.cons .here (.cons .h1 .nil))))))
  ·rintro zl4 z8R z67 zfn zl5 zl6 ⟨h,zZa⟩
   replace h:=(zPt z8R z67).symm.trans h
   letI : Rnd:=aft zl4
   refine WC.b (WC.b (WC.a ?_))
   refine WL.qA 35 (ya y3W rfl rfl) ?_
   refine WL.qA 36 (yc y2E rfl (yk .h2 rfl)) ?_
   refine WL.pu rfl (WL.nil (WX.a ?_))
   refine WC.cond rfl (fun zvl=>?_) (fun zvl=>?_)
   ·replace h:=yn h zvl
    refine WC.b ?_
    refine WC.yL (fun i=>[3].contains i) [y6D z2N 225 [(0,(.int .i64 z8R))]] rfl ?_
    refine WD.pA 0 38 rfl (fun _=>yI (v:=(.agg #[(.int .i64 0),(.int .i64 0)])) (Eos.parts (l:=[]) .nil []) (fun _=>by kernel_rfl)) ?_
    refine WD.pA 1 39 rfl (fun _=>ya y3W rfl rfl) ?_
    refine WD.sA 2 40 rfl (Sin.wk (.cons .h2 .nil) (.stb (.cons rfl .nil) .nil)) (yc y2E rfl (y4g .here (.head _))) ?_
    refine WD.forced0 (i:=3) rfl (by kernel_rfl) rfl rfl rfl (Sin.wk (.cons .h2 .nil) (.stb (.cons rfl .nil) .nil)) (yl zu rfl rfl rfl .h1 rfl rfl rfl) ?_
    refine WD.pA 4 3 rfl (fun _=>q_z rfl) ?_
    refine WD.done (by kernel_rfl) ?_
    refine WX.a (WC.ret (WX.yd ?_))
    obtain rfl:=Option.some.inj h
    refine WX.y71 .h5 Tryz.results77 (.agg rfl zd rfl (yh .h1) (.tmp rfl .nil)) (fun w hw=>?_)
    exact ⟨zfn,y1z rfl rfl,trivial,hw.sub (.cons .h2 .nil)⟩
   ·replace h:=yo h zvl
    refine WC.skip (WX.a (WC.b ?_))
    obtain ⟨zla,h⟩:=yq h
    refine WC.a ?_
    refine WL.qA 41 (yc z7I rfl (yk .h3 rfl)) ?_
    refine WL.know (fun w hw=>Hp.y2H .h4 hw (by intro hz'; have:=zla; rw [hz'] at this; omega)) ?_
    rintro ⟨zZb,rfl⟩
    refine WL.qA 42 (yY z20 rfl rfl zla.1 zla.2 y3z) ?_
    refine WL.qA 43 (yQ (cs:=(yw (nth z67 0))) zd rfl rfl (y3d .h4 (y2Q (enc:=yw) (l:=z67) (i:=0) (sz:=2) (fun _=>rfl) zla.1 zla.2))) ?_
    refine WL.ym rfl rfl (yl zu rfl rfl rfl .h1 rfl rfl rfl) ?_
    refine WL.pu rfl (WL.nil (WX.a (WC.ret ?_)))
    obtain rfl:=Option.some.inj h
    refine WX.y71 .h5 Tryz.results77 (.agg rfl zd rfl (yh .h1) (.tmp rfl .nil)) (fun w hw=>?_)
    exact ⟨zfn,y1z rfl rfl,trivial,hw.sub (.cons .h2 .nil)⟩
def y6X (zaV : List (List z6)) (z3C : zSv) : Option (z1 × Int) :=
 (y5l zaV z3C zaV z3C []).bind fun zvm=>some (zvm.1,zvm.2)
set_option maxRecDepth 20000 in
theorem ybf (Z : Zp) (zlb : Option Addr) (zlc : Nat) (zaV : List (List z6)) (z3C : zSv) (r : z1 × Int)
  (h : y6X zaV z3C = some r) (w₀ : World) (hz : PZ [] w₀ Z)
  (zDF : ZS Z 1 (y1v Z) zlb zlc zaV) :
  Calls Tryz.prog 44 #[(.slice zlb zaV.length zlc),(.agg #[(.int .i64 z3C.fRate.fN),(.int .i64 z3C.fRate.fD),(.int .i64 z3C.fL.fN),(.int .i64 z3C.fL.fD)])] w₀ fun e w'=>∃ Zn : Zp,e = .returned (.tuple #[(.agg #[(.int .i64 r.1.fN),(.int .i64 r.1.fD)]),(.int .i64 r.2)]) ∧ True ∧ Hp [] w₀ w' [fz Zn]:=by
 unfold y6X at h
 refine Calls.yJ Tryz.func44 Tryz.ntmps44 ?_
 refine WC.pool (WC.b (WC.a ?_))
 refine WL.nA 2 (yH (cs:=[(.slice zlb zaV.length zlc)]) rfl rfl) ?_
 intro zPG _
 refine WL.nA 3 (yH (cs:=[(.int .i64 z3C.fRate.fN),(.int .i64 z3C.fRate.fD),(.int .i64 z3C.fL.fN),(.int .i64 z3C.fL.fD)]) rfl rfl) ?_
 intro zPH _
 refine WL.nA 4 (yv (cs:=[(.int .i64 0),(.int .i64 0)]) zP rfl) ?_
 intro zZc _
 refine WL.pu rfl (WL.nil (WX.a (WC.b (WC.a ?_))))
 refine WL.qA 7 (yc z6V rfl (yk .h2 rfl)) ?_
 refine WL.qA 8 (yg zfQ rfl (yh .h1) rfl) ?_
 refine WL.qA 9 (yI (v:=(.agg #[(.slice zlb zaV.length zlc),(.int .i64 z3C.fRate.fN),(.int .i64 z3C.fRate.fD),(.int .i64 z3C.fL.fN),(.int .i64 z3C.fL.fD),.nilFunc,(.slice none 0 0)])) (Eos.parts (l:=[.tmp 7,.tmp 8]) (.cons rfl (.cons rfl .nil)) [0,1]) (fun _=>by kernel_rfl)) ?_
 refine WL.nA 6 (yv (cs:=[(.slice none 0 0),(.int .i64 0),(.int .i64 0),(.int .i64 0),(.int .i64 0),.nilFunc,(.slice none 0 0)]) zy4 rfl) ?_
 intro zZd _
 refine WL.ym rfl rfl (yl zy5 rfl rfl rfl .here rfl rfl rfl) ?_
 refine WL.nil (WX.a (WC.b (WC.a ?_)))
 refine WL.qA 10 (yX (Eos.caps (l:=[.tmp 2,.tmp 3]) (.cons rfl (.cons rfl .nil)))) ?_
 refine WL.qA 11 (ya y9C rfl rfl) ?_
 refine WL.ym rfl rfl (y5u (ds:=[(.slice zlb zaV.length zlc),(.int .i64 z3C.fRate.fN),(.int .i64 z3C.fRate.fD),(.int .i64 z3C.fL.fN),(.int .i64 z3C.fL.fD),(.func (.func 72) #[] #[(.pointer (some ⟨zPG,0,none⟩)),(.pointer (some ⟨zPH,0,none⟩))]),(.slice none 0 0)]) zy6 rfl rfl rfl rfl rfl .here rfl rfl) ?_
 refine WL.nil (WX.a (WC.b ?_))
 obtain ⟨zvm,zPI,h⟩:=z7 h
 refine WC.a ?_
 refine WL.qA 12 (yg zfR rfl (yh .here) rfl) ?_
 refine WL.freezeC (Z:=Z) .h3 .h3 ?_
 intro zZe zo2 zPJ
 refine WL.freezeC (Z:=Z) .h3 .here ?_
 intro zPK zld zPL
 refine WL.y3I (dd:=13) rfl rfl rfl (za (l:=[.tmp 12]) Tryz.call77 (.cons rfl .nil)) .nil (ccz hz .nil .here fun w pz ho=>y9r _ _ _ _ _ _ _ _ _ _ _ _ _ _ _ zPI w pz ((zDF.mono ((Zle.left _ _).trans (zo2.trans zld))).weak (fun _ _ h=>yT ((Zle.left _ _).trans (zo2.trans zld)) h)) ((zDF.mono ((Zle.left _ _).trans (zo2.trans zld))).weak (fun _ _ h=>yT ((Zle.left _ _).trans (zo2.trans zld)) h)) (zPJ.mono zld) zPL (ZS.nil _ _ _)) ?_
 rintro zPM _
 refine WL.merge .here .here ?_
 refine WL.pu rfl (WL.pu rfl ?_)
 refine WL.ym rfl rfl (yl zu rfl rfl rfl .h2 rfl rfl rfl) ?_
 refine WL.pu rfl (WL.nil (WX.a (WC.ret ?_)))
 obtain rfl:=Option.some.inj h
 refine WX.ye Tryz.results44 (.agg rfl zd rfl (yh .here) (.tmp rfl .nil)) (fun w hw=>?_)
 exact ⟨(zPK ++ zPM),y1z rfl rfl,trivial,hw.sub (.cons .h1 .nil)⟩
def y2e (z3p : List (List z6)) (zaW : Int → Int → Int → Option Int) : Nat → Int → Int → Int → Int → Option Int
 | 0,_,_,_,_=>none
 | zvn + 1,z5m,z7j,z7k,z7l=>if decide (z5m < ((z3p.length : Nat) : Int)) then chk ((0 : Int) ≤ z5m ∧ z5m < ((z3p.length : Nat) : Int)) ((y4j (nth z3p z5m)).bind fun zvo=>if decide (zvo.2 ≠ 0) then some zvo.2 else (y7s (nth z3p z5m)).bind fun zDG=>(y1o (⟨z7j⟩ : z1v) (fun (y0 : z1) (y1 : z1)=>y28 y0 y1) (⟨z7k,z7l⟩ : z1) zDG.1).bind fun zfp=>y2e z3p zaW zvn (i64 (z5m + 1)) zfp.2.fE zfp.1.fN zfp.1.fD) else zaW z7j z7k z7l
theorem y6Y {n : Nat} {z3p : List (List z6)} {zaW : Int → Int → Int → Option Int} {z5m : Int} {z7j : Int} {z7k : Int} {z7l : Int} {r : Int} (h : y2e z3p zaW n z5m z7j z7k z7l = some r) : ∃ m,n = m + 1:=by
 cases n with
 | zero=>cases h
 | succ m=>exact ⟨m,rfl⟩
def y4q (z3p : List (List z6)) (z2i : zSv) (zo3 : List (List z6)) (zi1 : zSv) (zfq : List z1) : Option Int :=
 (if decide (((z3p.length : Nat) : Int) > 32) then some true else (y1w z3p (fun (y0 : List z6)=>y23 y0)).bind fun zDH=>some zDH).bind fun zvp=>(if zvp then some true else (y5A z2i).bind fun zDI=>some (!zDI)).bind fun zvq=>if zvq then some 2 else (y2v).bind fun zle=>jp3 (fun (zaX : Int) (zdp : Int) (zdq : Int)=>(if decide (zaX = 0) then (y2r (⟨zdp,zdq⟩ : z1) z2i.fRate).bind fun zDJ=>some (decide (zDJ > 0)) else some false).bind fun zvr=>if zvr then some 6 else some zaX) fun zaW=>y2e z3p zaW yB 0 0 zle.fN zle.fD
set_option maxRecDepth 20000 in
theorem y8D (Z : Zp) (zi2 : Option Addr) (zi3 : Nat) (zlf : Addr) (zDK : Option Addr) (zDL : Nat) (zlg : Addr) (zlh : Option Addr) (zli : Nat) (z3p : List (List z6)) (z2i : zSv) (zo3 : List (List z6)) (zi1 : zSv) (zfq : List z1) (r : Int)
  (h : y4q z3p z2i zo3 zi1 zfq = some r) (w₀ : World) (hz : PZ [] w₀ Z)
  (zDM : ZS Z 1 (y1v Z) zi2 zi3 z3p)
  (zZf : ZS Z 1 (y1v Z) zDK zDL zo3)
  (zZg : ZC Z zlf [(.slice zDK zo3.length zDL)])
  (zZh : ZC Z zlg [(.int .i64 zi1.fRate.fN),(.int .i64 zi1.fRate.fD),(.int .i64 zi1.fL.fN),(.int .i64 zi1.fL.fD)])
  (zZi : ZS Z 2 (fun r x=>r = yw x) zlh zli zfq) :
  Calls Tryz.prog 109 #[(.agg #[(.slice zi2 z3p.length zi3),(.int .i64 z2i.fRate.fN),(.int .i64 z2i.fRate.fD),(.int .i64 z2i.fL.fN),(.int .i64 z2i.fL.fD),(.func (.func 78) #[] #[(.pointer (some zlf)),(.pointer (some zlg))]),(.slice zlh zfq.length zli)])] w₀ fun e w'=>∃ Zn : Zp,e = .returned (.int .i64 r) ∧ True ∧ Hp [] w₀ w' [fz Zn]:=by
 unfold y4q at h
 refine Calls.on1 Tryz.func109 Tryz.ntmps109 ?_
 refine WC.pool (WC.b (WC.a ?_))
 refine WL.nA 1 (yH (cs:=[(.slice zi2 z3p.length zi3),(.int .i64 z2i.fRate.fN),(.int .i64 z2i.fRate.fD),(.int .i64 z2i.fL.fN),(.int .i64 z2i.fL.fD),(.func (.func 78) #[] #[(.pointer (some zlf)),(.pointer (some zlg))]),(.slice zlh zfq.length zli)]) rfl rfl) ?_
 intro zo4 _
 refine WL.pu rfl (WL.nil (WX.a (WC.b (WC.b ?_))))
 obtain ⟨zvp,zDN,h⟩:=z7 h
 obtain ⟨zvq,zDO,h⟩:=z7 h
 refine WC.a ?_
 refine WL.qA 11 (ya y6a rfl rfl) ?_
 refine WL.qA 12 (yc z6V rfl (yk .here rfl)) ?_
 refine WL.qA 13 (yE Tryz.underlying128 rfl) ?_
 refine WL.pu rfl (WL.pu rfl ?_)
 refine WL.seg false 3 15 (B:=zvp) rfl rfl rfl rfl rfl rfl (fun h=>(Option.some.inj (yn zDN h)).symm) (fun _ zPN=>?_) ?_
 ·skip
  have zlj:=yo zDN zPN
  obtain ⟨zDH,zPO,zlj⟩:=z7 zlj
  replace zlj:=Option.some.inj zlj
  refine WL.qA 16 (ya y6a rfl rfl) ?_
  refine WL.qA 17 (yc z6V rfl (yk .here rfl)) ?_
  refine WL.cA 18 (za (l:=[.tmp 17,.func 151]) Tryz.call150 (.cons rfl (.cons rfl .nil))) .nil (ccz hz .nil .h1 fun w pz ho=>y3l _ _ _ (zeL:=151) (zkj:=[]) _ (zeK:=(fun (y0 : List z6)=>y23 y0)) _ zPO w pz ((zDM.mono (Zle.left _ _)).weak (fun _ _ h=>yT (Zle.left _ _) h)) Tryz.call151 (fun w' hz' y0 ga0 gc0 r gh0 hr=>y5Y _ _ _ _ _ hr w' hz' gh0)) ?_
  refine WL.pu rfl ?_
  exact WL.yC zlj rfl rfl .all
 refine WL.pu rfl ?_
 refine WL.seg false 4 20 (B:=zvq) rfl rfl rfl rfl rfl rfl (fun h=>(Option.some.inj (yn zDO h)).symm) (fun _ zPP=>?_) ?_
 ·skip
  have zlk:=yo zDO zPP
  obtain ⟨zDI,zPQ,zlk⟩:=z7 zlk
  replace zlk:=Option.some.inj zlk
  refine WL.qA 21 (ya y9D rfl rfl) ?_
  refine WL.qA 22 (yQ (cs:=[(.int .i64 z2i.fRate.fN),(.int .i64 z2i.fRate.fD),(.int .i64 z2i.fL.fN),(.int .i64 z2i.fL.fD)]) zfQ rfl rfl (y2G (s:=4) .here rfl)) ?_
  refine WL.cA 23 (za (l:=[.tmp 22]) Tryz.call152 (.cons rfl .nil)) .nil (ccz hz .nil .h1 fun w pz ho=>y8A _ _ _ zPQ w pz ) ?_
  refine WL.pu rfl (WL.pu rfl ?_)
  exact WL.yC zlk rfl rfl .all
 refine WL.nil (WX.a ?_)
 refine WC.cond rfl (fun zvs=>?_) (fun zvs=>?_)
 ·replace h:=yn h zvs
  refine WC.b (WC.a (WL.pu rfl (WL.nil (WX.a (WC.ret (WX.yd ?_))))))
  obtain rfl:=Option.some.inj h
  refine WX.ye Tryz.results109 (.tmp rfl .nil) (fun w hw=>?_)
  exact ⟨[],yD rfl,trivial,hw.sub (.cons .h1 .nil)⟩
 ·replace h:=yo h zvs
  refine WC.skip (WX.a (WC.b (WC.a ?_)))
  refine WL.nA 3 (yv (cs:=[(.int .i64 0)]) zm5 rfl) ?_
  intro zo5 _
  refine WL.nil (WX.a (WC.b ?_))
  obtain ⟨zle,zPR,h⟩:=z7 h
  refine WC.a ?_
  refine WL.cA 26 (za (l:=[]) Tryz.call107 .nil) .nil (ccz hz .nil .h2 fun w pz ho=>y3q _ _ zPR w pz ) ?_
  refine WL.nA 4 (yv (cs:=[(.int .i64 0),(.int .i64 0)]) zP rfl) ?_
  intro zo6 _
  refine WL.ym rfl rfl (yl zu rfl rfl rfl .here rfl rfl rfl) ?_
  refine WL.nil (WX.a ?_)
  obtain ⟨zaW,zPS,h⟩:=y4l h
  refine WC.y5s (fun (zaX : Int) (zdp : Int) (zdq : Int) (zfr : Zp)=>(zaW zaX zdp zdq = some r) ∧ (Zle (Z ++ []) (Z ++ zfr))) (fun zaX zdp zdq zfr=>[(1,(.pointer (some ⟨zo4,0,none⟩))),(3,(.pointer (some ⟨zo5,0,none⟩))),(4,(.pointer (some ⟨zo6,0,none⟩)))]) (fun zaX zdp zdq zfr=>[fz zfr,stb zo4 177 [(.slice zi2 z3p.length zi3),(.int .i64 z2i.fRate.fN),(.int .i64 z2i.fRate.fD),(.int .i64 z2i.fL.fN),(.int .i64 z2i.fL.fD),(.func (.func 78) #[] #[(.pointer (some zlf)),(.pointer (some zlg))]),(.slice zlh zfq.length zli)],stb zo5 225 [(.int .i64 zaX)],stb zo6 132 [(.int .i64 zdp),(.int .i64 zdq)]]) ?_ ?_
  ·skip
   refine WC.b (WC.a ?_)
   refine WL.qA 27 (ya y6a rfl rfl) ?_
   refine WL.qA 28 (yc z6V rfl (yk .h2 rfl)) ?_
   refine WL.qA 29 (yE Tryz.underlying128 rfl) ?_
   refine WL.pu rfl (WL.nil (WX.a (WC.block ?_)))
   refine WC.y8t (fun (zi4 : Nat) (z5m : Int) (z7j : Int) (z7k : Int) (z7l : Int) (z8g : Zp)=>(y2e z3p zaW zi4 z5m z7j z7k z7l = some r) ∧ (Zle (Z ++ []) (Z ++ z8g))) (fun zi4 z5m z7j z7k z7l z8g=>[(1,(.pointer (some ⟨zo4,0,none⟩))),(3,(.pointer (some ⟨zo5,0,none⟩))),(4,(.pointer (some ⟨zo6,0,none⟩))),(28,(.slice zi2 z3p.length zi3)),(29,(.int .i64 ((z3p.length : Nat) : Int))),(30,(.int .i64 z5m))]) (fun zi4 z5m z7j z7k z7l z8g=>[fz z8g,stb zo4 177 [(.slice zi2 z3p.length zi3),(.int .i64 z2i.fRate.fN),(.int .i64 z2i.fRate.fD),(.int .i64 z2i.fL.fN),(.int .i64 z2i.fL.fD),(.func (.func 78) #[] #[(.pointer (some zlf)),(.pointer (some zlg))]),(.slice zlh zfq.length zli)],stb zo5 225 [(.int .i64 z7j)],stb zo6 132 [(.int .i64 z7k),(.int .i64 z7l)]]) (fun zi4 z5m z7j z7k z7l z8g=>zi4) ⟨yB,0,0,zle.fN,zle.fD,[]⟩ ⟨h,(Zle.refl _)⟩ (.cons rfl (.cons rfl (.cons rfl (.cons rfl (.cons rfl (.cons rfl .nil)))))) (.cons .h3 (.cons .h2 (.cons .h1 (.cons .here .nil)))) ?_
   rintro zi4 z5m z7j z7k z7l z8g ⟨h,zo7⟩
   obtain ⟨zvn,rfl⟩:=y6Y h
   rw [y2e] at h
   refine WC.b (WC.a (WL.pu rfl (WL.nil (WX.a (WC.b ?_)))))
   refine WC.cond rfl (fun zvt=>?_) (fun zvt=>?_)
   ·replace h:=yn h zvt
    refine WC.skip (WX.a (WC.b (WC.block (WC.b ?_))))
    obtain ⟨zPT,h⟩:=yq h
    refine WC.a ?_
    refine WL.znth (dd:=32) rfl rfl (Z:=(Z ++ z8g)) (Pr:=(y1v (Z ++ z8g))) z7H rfl rfl ((zDM.mono ((Zle.left _ _).trans zo7)).weak (fun _ _ h=>yT ((Zle.left _ _).trans zo7) h)) zPT ?_
    rintro zZj zZk zPU zZl ⟨zZm,zZn,rfl,zDP⟩
    refine WL.qA 33 (yc zbV rfl (y48 (hz.pv2 .here) zPU rfl)) ?_
    refine WL.pu rfl (WL.nil (WX.a (WC.b (WC.b ?_))))
    obtain ⟨zvo,zPV,h⟩:=z7 h
    refine WC.a (WL.pu rfl ?_)
    refine WL.y8P (dd:=36) rfl rfl rfl (za (l:=[.tmp 35]) Tryz.call153 (.cons rfl .nil)) .nil (ccz hz .nil .here fun w pz ho=>y6v _ _ _ _ _ zPV w pz zDP) ?_
    rintro zDQ zZo zZp _
    refine WL.merge .here .h1 ?_
    refine WL.pu rfl (WL.pu rfl (WL.pu rfl (WL.pu rfl (WL.pu rfl (WL.nil (WX.a (WC.b (WC.a (WL.pu rfl (WL.pu rfl (WL.nil (WX.a ?_))))))))))))
    refine WC.cond rfl (fun zvu=>?_) (fun zvu=>?_)
    ·replace h:=yn h zvu
     refine WC.b (WC.a (WL.pu rfl (WL.pu rfl (WL.nil (WX.a (WC.ret (WX.yd (WX.ys (WX.yd (WX.yd (WX.ys (WX.yd ?_))))))))))))
     obtain rfl:=Option.some.inj h
     refine WX.ye Tryz.results109 (.tmp rfl .nil) (fun w hw=>?_)
     exact ⟨(z8g ++ zDQ),yD rfl,trivial,hw.sub (.cons .here .nil)⟩
    ·replace h:=yo h zvu
     refine WC.skip (WX.a (WC.b ?_))
     obtain ⟨zDG,zPW,h⟩:=z7 h
     refine WC.a (WL.pu rfl ?_)
     refine WL.cA 44 (za (l:=[.tmp 43]) Tryz.call154 (.cons rfl .nil)) .nil (ccz hz .nil .here fun w pz ho=>yay _ _ _ _ _ zPW w pz (zDP.mono ((Zle.left _ _).trans (Zle.yu _ _ _)))) ?_
     refine WL.pu rfl (WL.pu rfl (WL.pu rfl ?_))
     refine WL.nA 9 (yv (cs:=[(.int .i64 0),(.int .i64 0)]) zP rfl) ?_
     intro zZq _
     refine WL.ym rfl rfl (yl zu rfl rfl rfl .here rfl rfl rfl) ?_
     refine WL.pu rfl (WL.nil (WX.a ?_))
     obtain ⟨zfp,zPX,h⟩:=z7 h
     refine WC.a ?_
     refine WL.qA 47 (yg zd rfl (yh .h5) rfl) ?_
     refine WL.qA 48 (yg zd rfl (yh .here) rfl) ?_
     refine WL.cA 49 (za (l:=[.tmp 3,.func 69,.tmp 47,.tmp 48]) Tryz.call73 (.cons rfl (.cons rfl (.cons rfl (.cons rfl .nil))))) (.cons .h4 .nil) (ccz hz (.cons .h4 .nil) .h1 fun w pz ho=>y1N _ _ (z62:=69) (z7d:=[]) _ (z6A:=(fun (y0 : z1) (y1 : z1)=>y28 y0 y1)) _ _ _ zPX w pz Tryz.call69 (fun w' hz' y0 y1  r  hr=>y5q _ _ _ _ hr w' hz' ) ho) ?_
     refine WL.ym rfl rfl (yl zu rfl rfl rfl .h5 rfl rfl rfl) ?_
     refine WL.nil (WX.yj (WX.a (WC.a (WL.pu rfl (WL.pu rfl (WL.nil ?_))))))
     exact WX.round (G:=Nat × Int × Int × Int × Int × Zp) ⟨zvn,(i64 (z5m + 1)),zfp.2.fE,zfp.1.fN,zfp.1.fD,(z8g ++ zDQ)⟩ ⟨h,(zo7.trans ((Zle.left _ _).trans (Zle.yu _ _ _)))⟩ (Nat.lt_succ_self _) (.cons rfl (.cons rfl (.cons rfl (.cons rfl (.cons rfl (.cons rfl .nil)))))) (.cons .h3 (.cons .h4 (.cons .h1 (.cons .here .nil))))
   ·replace h:=yo h zvt
    refine WC.exit (WX.yf (WX.yf (WX.yz ?_)))
    exact WX.mid (G:=Int × Int × Int × Zp) ⟨z7j,z7k,z7l,z8g⟩ ⟨h,zo7⟩ (.cons rfl (.cons rfl (.cons rfl .nil))) (.cons .here (.cons .here (.cons .here (.cons .here .nil))))
  ·rintro zaX zdp zdq zfr ⟨h,zZr⟩
   replace h:=(zPS zaX zdp zdq).symm.trans h
   refine WC.b (WC.b ?_)
   obtain ⟨zvr,zDR,h⟩:=z7 h
   refine WC.a ?_
   refine WL.qA 51 (ya y3W rfl rfl) ?_
   refine WL.qA 52 (yc y2E rfl (yk .h2 rfl)) ?_
   refine WL.pu rfl (WL.pu rfl ?_)
   refine WL.seg true 6 54 (B:=zvr) rfl rfl rfl rfl rfl rfl (fun h=>(Option.some.inj (yo zDR h)).symm) (fun _ zPY=>?_) ?_
   ·skip
    have zll:=yn zDR zPY
    obtain ⟨zDJ,zPZ,zll⟩:=z7 zll
    replace zll:=Option.some.inj zll
    refine WL.qA 55 (yg zd rfl (yh .h3) rfl) ?_
    refine WL.qA 56 (ya y9D rfl rfl) ?_
    refine WL.qA 57 (ya y7I rfl rfl) ?_
    refine WL.qA 58 (yQ (cs:=[(.int .i64 z2i.fRate.fN),(.int .i64 z2i.fRate.fD)]) zd rfl rfl (y2G (s:=2) .h1 rfl)) ?_
    refine WL.cA 59 (za (l:=[.tmp 55,.tmp 58]) Tryz.call79 (.cons rfl (.cons rfl .nil))) .nil (ccz hz .nil .here fun w pz ho=>y3w _ _ _ _ zPZ w pz ) ?_
    refine WL.pu rfl (WL.pu rfl ?_)
    exact WL.yC zll rfl rfl .all
   refine WL.nil (WX.a ?_)
   refine WC.cond rfl (fun zvv=>?_) (fun zvv=>?_)
   ·replace h:=yn h zvv
    refine WC.b (WC.a (WL.pu rfl (WL.nil (WX.a (WC.ret (WX.yd ?_))))))
    obtain rfl:=Option.some.inj h
    refine WX.ye Tryz.results109 (.tmp rfl .nil) (fun w hw=>?_)
    exact ⟨zfr,yD rfl,trivial,hw.sub (.cons .here .nil)⟩
   ·replace h:=yo h zvv
    refine WC.skip (WX.a (WC.b (WC.a ?_)))
    refine WL.qA 62 (ya y3W rfl rfl) ?_
    refine WL.qA 63 (yc y2E rfl (yk .h2 rfl)) ?_
    refine WL.pu rfl (WL.nil (WX.a (WC.ret ?_)))
    obtain rfl:=Option.some.inj h
    refine WX.ye Tryz.results109 (.tmp rfl .nil) (fun w hw=>?_)
    exact ⟨zfr,yD rfl,trivial,hw.sub (.cons .here .nil)⟩
def y4b (zi5 : List (List z6)) (z69 : zSv) (zo8 : List (List z6)) (zi6 : zSv) (zi7 : List z1) : Option (Int × Int × Int × Int) :=
 some (z69.fRate.fN,z69.fRate.fD,z69.fL.fN,z69.fL.fD)
set_option maxRecDepth 20000 in
theorem y8i (Z : Zp) (zo9 : Option Addr) (zoa : Nat) (zob : Addr) (zDS : Option Addr) (zDT : Nat) (zoc : Addr) (zod : Option Addr) (zoe : Nat) (zi5 : List (List z6)) (z69 : zSv) (zo8 : List (List z6)) (zi6 : zSv) (zi7 : List z1) (r : Int × Int × Int × Int)
  (h : y4b zi5 z69 zo8 zi6 zi7 = some r) (w₀ : World) (hz : PZ [] w₀ Z)
  (zZs : ZS Z 1 (y1v Z) zo9 zoa zi5)
  (zZt : ZS Z 1 (y1v Z) zDS zDT zo8)
  (zZu : ZC Z zob [(.slice zDS zo8.length zDT)])
  (zZv : ZC Z zoc [(.int .i64 zi6.fRate.fN),(.int .i64 zi6.fRate.fD),(.int .i64 zi6.fL.fN),(.int .i64 zi6.fL.fD)])
  (zZw : ZS Z 2 (fun r x=>r = yw x) zod zoe zi7) :
  Calls Tryz.prog 110 #[(.agg #[(.slice zo9 zi5.length zoa),(.int .i64 z69.fRate.fN),(.int .i64 z69.fRate.fD),(.int .i64 z69.fL.fN),(.int .i64 z69.fL.fD),(.func (.func 78) #[] #[(.pointer (some zob)),(.pointer (some zoc))]),(.slice zod zi7.length zoe)])] w₀ fun e w'=>∃ zDU : Nat,e = .returned (.func (.func 155) #[] #[(.pointer (some ⟨zDU,0,none⟩))]) ∧ True ∧ Hp [] w₀ w' [stb zDU 177 [(.slice zo9 zi5.length zoa),(.int .i64 r.1),(.int .i64 r.2.1),(.int .i64 r.2.2.1),(.int .i64 r.2.2.2),(.func (.func 78) #[] #[(.pointer (some zob)),(.pointer (some zoc))]),(.slice zod zi7.length zoe)]]:=by
 unfold y4b at h
 refine Calls.on1 Tryz.func110 Tryz.ntmps110 ?_
 refine WC.b (WC.a ?_)
 refine WL.nA 1 (yH (cs:=[(.slice zo9 zi5.length zoa),(.int .i64 z69.fRate.fN),(.int .i64 z69.fRate.fD),(.int .i64 z69.fL.fN),(.int .i64 z69.fL.fD),(.func (.func 78) #[] #[(.pointer (some zob)),(.pointer (some zoc))]),(.slice zod zi7.length zoe)]) rfl rfl) ?_
 intro zQ0 _
 refine WL.pu rfl (WL.nil (WX.a (WC.b (WC.a ?_))))
 refine WL.qA 3 (yX (Eos.caps (l:=[.tmp 1]) (.cons rfl .nil))) ?_
 refine WL.pu rfl (WL.nil (WX.a (WC.ret ?_)))
 obtain rfl:=Option.some.inj h
 refine WX.ye Tryz.results110 (.tmp rfl .nil) (fun w hw=>?_)
 exact ⟨zQ0,yD rfl,trivial,hw.sub (.cons .here .nil)⟩
def y1O (zr : Type) (z2q : List z1 × Int) (z2a : z1 → zr → Option (Bool × zr)) (zaY : zr → Option zr) : Nat → Int → zr → Option zr
 | 0,_,_=>none
 | zvw + 1,z2O,z5n=>if decide (z2O < ((z2q.1.length : Nat) : Int)) then chk ((0 : Int) ≤ z2O ∧ z2O < ((z2q.1.length : Nat) : Int)) ((y3H (⟨((nth z2q.1 z2O).fN),((nth z2q.1 z2O).fD)⟩ : z1)).bind fun zDV=>(y1D zDV).bind fun zvx=>(z2a zvx z5n).bind fun z8S=>(if !z8S.1 then some (true,z8S.2) else (y6x (⟨((nth z2q.1 z2O).fN),((nth z2q.1 z2O).fD)⟩ : z1)).bind fun zDW=>(y1D zDW).bind fun zvy=>(z2a zvy z8S.2).bind fun zlm=>some (!zlm.1,zlm.2)).bind fun zdr=>if zdr.1 then some zdr.2 else y1O zr z2q z2a zaY zvw (i64 (z2O + 1)) zdr.2) else zaY z5n
theorem y6y {n : Nat} {zr : Type} {z2q : List z1 × Int} {z2a : z1 → zr → Option (Bool × zr)} {zaY : zr → Option zr} {z2O : Int} {z5n : zr} {r : zr} (h : y1O zr z2q z2a zaY n z2O z5n = some r) : ∃ m,n = m + 1:=by
 cases n with
 | zero=>cases h
 | succ m=>exact ⟨m,rfl⟩
def y1P (zr : Type) (z2D : List (List z6)) (z2a : z1 → zr → Option (Bool × zr)) (zaZ : zr → Option zr) : Nat → Int → zr → Option zr
 | 0,_,_=>none
 | zvz + 1,z3W,z6a=>if decide (z3W < ((z2D.length : Nat) : Int)) then jp1 (fun (z8T : zr)=>y1P zr z2D z2a zaZ zvz (i64 (z3W + 1)) z8T) fun zvA=>chk ((0 : Int) ≤ z3W ∧ z3W < ((z2D.length : Nat) : Int)) ((y4j (nth z2D z3W)).bind fun z2q=>jp1 (fun (z8U : zr)=>zvA z8U) fun zaY=>y1O zr z2q z2a zaY yB 0 z6a) else zaZ z6a
theorem y6z {n : Nat} {zr : Type} {z2D : List (List z6)} {z2a : z1 → zr → Option (Bool × zr)} {zaZ : zr → Option zr} {z3W : Int} {z6a : zr} {r : zr} (h : y1P zr z2D z2a zaZ n z3W z6a = some r) : ∃ m,n = m + 1:=by
 cases n with
 | zero=>cases h
 | succ m=>exact ⟨m,rfl⟩
def y1Q (zr : Type) (z2P : List z1) (z2a : z1 → zr → Option (Bool × zr)) (zb0 : zr → Option zr) : Nat → Int → zr → Option zr
 | 0,_,_=>none
 | zvB + 1,z3q,z5o=>if decide (z3q < ((z2P.length : Nat) : Int)) then chk ((0 : Int) ≤ z3q ∧ z3q < ((z2P.length : Nat) : Int)) ((y3H (⟨((nth z2P z3q).fN),((nth z2P z3q).fD)⟩ : z1)).bind fun zDX=>(y1D zDX).bind fun zvC=>(z2a zvC z5o).bind fun z8V=>(if !z8V.1 then some (true,z8V.2) else (y6x (⟨((nth z2P z3q).fN),((nth z2P z3q).fD)⟩ : z1)).bind fun zDY=>(y1D zDY).bind fun zvD=>(z2a zvD z8V.2).bind fun zln=>some (!zln.1,zln.2)).bind fun zds=>if zds.1 then some zds.2 else y1Q zr z2P z2a zb0 zvB (i64 (z3q + 1)) zds.2) else zb0 z5o
theorem y6A {n : Nat} {zr : Type} {z2P : List z1} {z2a : z1 → zr → Option (Bool × zr)} {zb0 : zr → Option zr} {z3q : Int} {z5o : zr} {r : zr} (h : y1Q zr z2P z2a zb0 n z3q z5o = some r) : ∃ m,n = m + 1:=by
 cases n with
 | zero=>cases h
 | succ m=>exact ⟨m,rfl⟩
def y3N (zr : Type) (z2a : z1 → zr → Option (Bool × zr)) (s0_57299 : zr) (z2D : List (List z6)) (zfs : zSv) (zlo : List (List z6)) (zft : zSv) (z2P : List z1) : Option zr :=
 (y2v).bind fun zvE=>(z2a zvE s0_57299).bind fun zfu=>if !zfu.1 then some zfu.2 else jp1 (fun (z8W : zr)=>jp1 (fun (zb1 : zr)=>some zb1) fun zb0=>y1Q zr z2P z2a zb0 yB 0 z8W) fun zaZ=>y1P zr z2D z2a zaZ yB 0 zfu.2
set_option maxRecDepth 20000 in
theorem y7W (Z : Zp) (zr : Type) (z8h : Nat) (z2j : Type) (z2k : z2j → zr → Asrt) (z6H : z2j → zr → Prop) (zb2 : z2j) (zb3 : Addr) (zdt : Option Addr) (zdu : Nat) (zvF : Addr) (zvG : Option Addr) (zvH : Nat) (zvI : Addr) (zlp : Option Addr) (zlq : Nat) (z2a : z1 → zr → Option (Bool × zr)) (s0_57299 : zr) (z2D : List (List z6)) (zfs : zSv) (zlo : List (List z6)) (zft : zSv) (z2P : List z1) (r : zr) (w₀ : World) (hz : PZ (fps [z2k zb2 s0_57299]) w₀ Z)
  (zlr : yag Tryz.prog Z z8h (α:=z1) (σ:=zr) (G:=z2j) (H:=Unit) (fun h x=>[(.agg #[(.int .i64 x.fN),(.int .i64 x.fD)])]) (fun h x=>[]) z2a z2k z6H)
  (zQ1 : z6H zb2 s0_57299)
  (zQ2 : ZS Z 1 (y1v Z) zdt zdu z2D)
  (zZx : ZS Z 1 (y1v Z) zvG zvH zlo)
  (zZy : ZC Z zvF [(.slice zvG zlo.length zvH)])
  (zZz : ZC Z zvI [(.int .i64 zft.fRate.fN),(.int .i64 zft.fRate.fD),(.int .i64 zft.fL.fN),(.int .i64 zft.fL.fD)])
  (zQ3 : ZS Z 2 (fun r x=>r = yw x) zlp zlq z2P)
  (zDZ : ZC Z zb3 [(.slice zdt z2D.length zdu),(.int .i64 zfs.fRate.fN),(.int .i64 zfs.fRate.fD),(.int .i64 zfs.fL.fN),(.int .i64 zfs.fL.fD),(.func (.func 78) #[] #[(.pointer (some zvF)),(.pointer (some zvI))]),(.slice zlp z2P.length zlq)])
  (h : y3N zr z2a s0_57299 z2D zfs zlo zft z2P = some r)
  (hown : Hp (fps [z2k zb2 s0_57299]) w₀ w₀ [z2k zb2 s0_57299]) :
  Calls Tryz.prog 155 #[(.func (.yield z8h) #[] #[]),(.pointer (some zb3))] w₀ fun e w'=>∃ Zn : Zp,∃ zE0 : z2j,e = .returned (.tuple #[]) ∧ (z6H zE0 r) ∧ Hp (fps [z2k zb2 s0_57299]) w₀ w' [fz Zn,z2k zE0 r]:=by
 unfold y3N at h
 refine Calls.oh2 Tryz.func155 Tryz.ntmps155 hown ?_
 refine WC.pool (WC.b (WC.b ?_))
 obtain ⟨zvE,zQ4,h⟩:=z7 h
 obtain ⟨zfu,zQ5,h⟩:=z7 h
 refine WC.a (WL.pu rfl ?_)
 refine WL.cA 12 (za (l:=[]) Tryz.call107 .nil) .nil (ccz hz .nil .here fun w pz ho=>y3q _ _ zQ4 w pz ) ?_
 refine WL.yield (dd:=13) (x:=zvE) (h:=()) (g:=zb2) (s:=s0_57299) (b:=zfu.1) (s':=zfu.2) zlr rfl rfl rfl (.cons rfl .nil) ((.cons .h1 .nil) : Sel _ [z2k zb2 s0_57299] _) zQ5 zQ1 (fun w hw=>hz.call hw ((.cons .h1 .nil) : Sel _ [z2k zb2 s0_57299] _)) ?_
 intro zE1 zE2
 refine WL.pu rfl (WL.nil (WX.a ?_))
 refine WC.cond rfl (fun zvJ=>?_) (fun zvJ=>?_)
 ·replace h:=yn h zvJ
  refine WC.ret (WX.yd ?_)
  obtain rfl:=Option.some.inj h
  refine WX.ye Tryz.results155 .nil (fun w hw=>?_)
  exact ⟨[],zE1,y6Q,zE2,hw.sub (.cons .h1 (.cons .here .nil))⟩
 ·replace h:=yo h zvJ
  refine WC.skip (WX.a ?_)
  obtain ⟨zaZ,zQ6,h⟩:=yU h
  refine WC.y1x (fun (z8W : zr) (z8i : Zp) (zi8 : z2j)=>(zaZ z8W = some r) ∧ (Zle (Z ++ []) (Z ++ z8i)) ∧ (z6H zi8 z8W)) (fun z8W z8i zi8=>[(0,(.func (.yield z8h) #[] #[])),(1,(.pointer (some zb3)))]) (fun z8W z8i zi8=>[fz z8i,z2k zi8 z8W]) ?_ ?_
  ·skip
   refine WC.b (WC.a ?_)
   refine WL.qA 15 (ya y6a rfl rfl) ?_
   refine WL.qA 16 (yc z6V rfl (y11 (hz.pv2 .h1) (zDZ.mono (Zle.left _ _)) rfl)) ?_
   refine WL.qA 17 (yE Tryz.underlying128 rfl) ?_
   refine WL.pu rfl (WL.nil (WX.a (WC.block ?_)))
   refine WC.y4k (fun (zi9 : Nat) (z3W : Int) (z6a : zr) (z5L : Zp) (zdv : z2j)=>(y1P zr z2D z2a zaZ zi9 z3W z6a = some r) ∧ (Zle (Z ++ []) (Z ++ z5L)) ∧ (z6H zdv z6a)) (fun zi9 z3W z6a z5L zdv=>[(0,(.func (.yield z8h) #[] #[])),(1,(.pointer (some zb3))),(16,(.slice zdt z2D.length zdu)),(17,(.int .i64 ((z2D.length : Nat) : Int))),(18,(.int .i64 z3W))]) (fun zi9 z3W z6a z5L zdv=>[fz z5L,z2k zdv z6a]) (fun zi9 z3W z6a z5L zdv=>zi9) ⟨yB,0,zfu.2,[],zE1⟩ ⟨h,(Zle.refl _),zE2⟩ (.cons rfl (.cons rfl (.cons rfl (.cons rfl (.cons rfl .nil))))) (.cons .h1 (.cons .here .nil)) ?_
   rintro zi9 z3W z6a z5L zdv ⟨h,zof,zE3⟩
   obtain ⟨zvz,rfl⟩:=y6z h
   rw [y1P] at h
   refine WC.b (WC.a (WL.pu rfl (WL.nil (WX.a (WC.b ?_)))))
   refine WC.cond rfl (fun zvK=>?_) (fun zvK=>?_)
   ·replace h:=yn h zvK
    refine WC.skip (WX.a ?_)
    obtain ⟨zvA,zQ7,h⟩:=yU h
    refine WC.y1x (fun (z8T : zr) (zia : Zp) (zib : z2j)=>(zvA z8T = some r) ∧ (Zle (Z ++ z5L) (Z ++ zia)) ∧ (z6H zib z8T)) (fun z8T zia zib=>[(0,(.func (.yield z8h) #[] #[])),(1,(.pointer (some zb3))),(16,(.slice zdt z2D.length zdu)),(17,(.int .i64 ((z2D.length : Nat) : Int))),(18,(.int .i64 z3W))]) (fun z8T zia zib=>[fz zia,z2k zib z8T]) ?_ ?_
    ·skip
     refine WC.block (WC.b ?_)
     obtain ⟨zQ8,h⟩:=yq h
     refine WC.a ?_
     refine WL.znth (dd:=20) rfl rfl (Z:=(Z ++ z5L)) (Pr:=(y1v (Z ++ z5L))) z7H rfl rfl ((zQ2.mono ((Zle.left _ _).trans zof)).weak (fun _ _ h=>yT ((Zle.left _ _).trans zof) h)) zQ8 ?_
     rintro zZA zZB zQ9 zZC ⟨zZD,zZE,rfl,zQa⟩
     refine WL.qA 21 (yc zbV rfl (y48 (hz.pv2 .here) zQ9 rfl)) ?_
     refine WL.pu rfl (WL.nil (WX.a (WC.b ?_)))
     obtain ⟨z2q,zQb,h⟩:=z7 h
     refine WC.a (WL.pu rfl ?_)
     refine WL.y8P (dd:=24) rfl rfl rfl (za (l:=[.tmp 23]) Tryz.call153 (.cons rfl .nil)) .nil (ccz hz .nil .here fun w pz ho=>y6v _ _ _ _ _ zQb w pz zQa) ?_
     rintro zls zE4 zog _
     refine WL.merge .here .h1 ?_
     refine WL.pu rfl (WL.pu rfl (WL.pu rfl (WL.pu rfl (WL.pu rfl (WL.nil (WX.a (WC.b (WC.a (WL.pu rfl ?_)))))))))
     refine WL.qA 28 (yE Tryz.underlying175 rfl) ?_
     refine WL.pu rfl (WL.nil (WX.a ?_))
     obtain ⟨zaY,zQc,h⟩:=yU h
     refine WC.y8l (fun (z8U : zr) (zic : z2j)=>(zaY z8U = some r) ∧ (z6H zic z8U)) (fun z8U zic=>[(0,(.func (.yield z8h) #[] #[])),(1,(.pointer (some zb3))),(16,(.slice zdt z2D.length zdu)),(17,(.int .i64 ((z2D.length : Nat) : Int))),(18,(.int .i64 z3W))]) (fun z8U zic=>[fz (z5L ++ zls),z2k zic z8U]) ?_ ?_
     ·skip
      refine WC.block ?_
      refine WC.y5t (fun (zid : Nat) (z2O : Int) (z5n : zr) (z8X : z2j)=>(y1O zr z2q z2a zaY zid z2O z5n = some r) ∧ (z6H z8X z5n)) (fun zid z2O z5n z8X=>[(0,(.func (.yield z8h) #[] #[])),(1,(.pointer (some zb3))),(16,(.slice zdt z2D.length zdu)),(17,(.int .i64 ((z2D.length : Nat) : Int))),(18,(.int .i64 z3W)),(27,(.slice zE4 z2q.1.length zog)),(28,(.int .i64 ((z2q.1.length : Nat) : Int))),(29,(.int .i64 z2O))]) (fun zid z2O z5n z8X=>[fz (z5L ++ zls),row (.slice zE4 z2q.1.length zog) 132 2 (z2q.1.flatMap yw),z2k z8X z5n]) (fun zid z2O z5n z8X=>zid) ⟨yB,0,z6a,zdv⟩ ⟨h,zE3⟩ (.cons rfl (.cons rfl (.cons rfl (.cons rfl (.cons rfl (.cons rfl (.cons rfl (.cons rfl .nil)))))))) (.cons .here (.cons .here (.cons .here .nil))) ?_
      rintro zid z2O z5n z8X ⟨h,zE5⟩
      obtain ⟨zvw,rfl⟩:=y6y h
      rw [y1O] at h
      refine WC.b (WC.a (WL.pu rfl (WL.nil (WX.a (WC.b ?_)))))
      refine WC.cond rfl (fun zvL=>?_) (fun zvL=>?_)
      ·replace h:=yn h zvL
       refine WC.skip (WX.a (WC.b (WC.block (WC.b ?_))))
       obtain ⟨zlt,h⟩:=yq h
       refine WC.a ?_
       refine WL.know (fun w hw=>Hp.y2H .h1 hw (by intro hz'; have:=zlt; rw [hz'] at this; omega)) ?_
       rintro ⟨zE6,rfl⟩
       refine WL.qA 31 (yY z20 rfl rfl zlt.1 zlt.2 y3z) ?_
       refine WL.qA 32 (yQ (cs:=(yw (nth z2q.1 z2O))) zd rfl rfl (y3d .h1 (y2Q (enc:=yw) (l:=z2q.1) (i:=z2O) (sz:=2) (fun _=>rfl) zlt.1 zlt.2))) ?_
       refine WL.nA 8 (yv (cs:=[(.int .i64 0),(.int .i64 0)]) zP rfl) ?_
       intro zQd _
       refine WL.ym rfl rfl (yl zu rfl rfl rfl .here rfl rfl rfl) ?_
       refine WL.nil (WX.a (WC.b ?_))
       obtain ⟨zDV,zQe,h⟩:=z7 h
       obtain ⟨zvx,zQf,h⟩:=z7 h
       obtain ⟨z8S,zQg,h⟩:=z7 h
       obtain ⟨zdr,zE7,h⟩:=z7 h
       refine WC.a (WL.pu rfl ?_)
       refine WL.qA 34 (yg zd rfl (yh .here) rfl) ?_
       refine WL.cA 35 (za (l:=[.tmp 34]) Tryz.call46 (.cons rfl .nil)) .nil (ccz hz .nil .h1 fun w pz ho=>y53 _ _ _ zQe w pz ) ?_
       refine WL.cA 36 (za (l:=[.tmp 35]) Tryz.call145 (.cons rfl .nil)) .nil (ccz hz .nil .h1 fun w pz ho=>y2k _ _ _ zQf w pz ) ?_
       refine WL.yield (dd:=37) (x:=zvx) (h:=()) (g:=z8X) (s:=z5n) (b:=z8S.1) (s':=z8S.2) zlr rfl rfl rfl (.cons rfl .nil) ((.cons .h3 .nil) : Sel _ [z2k z8X z5n] _) zQg zE5 (fun w hw=>hz.call hw ((.cons .h3 .nil) : Sel _ [z2k z8X z5n] _)) ?_
       intro zoh zE8
       refine WL.pu rfl (WL.pu rfl ?_)
       refine WL.y96 (fun (zfv : z2j)=>z6H zfv zdr.2) (fun (zfv : z2j)=>[(0,(.func (.yield z8h) #[] #[])),(1,(.pointer (some zb3))),(16,(.slice zdt z2D.length zdu)),(17,(.int .i64 ((z2D.length : Nat) : Int))),(18,(.int .i64 z3W)),(27,(.slice (some ⟨zE6,0,none⟩) z2q.1.length zog)),(28,(.int .i64 ((z2q.1.length : Nat) : Int))),(29,(.int .i64 z2O)),(46,(.bool zdr.1))]) (fun (zfv : z2j)=>[z2k zfv zdr.2,stb zQd 132 [(.int .i64 ((nth z2q.1 z2O).fN)),(.int .i64 ((nth z2q.1 z2O).fD))],fz (z5L ++ zls),row (.slice (some ⟨zE6,0,none⟩) z2q.1.length zog) 132 2 (z2q.1.flatMap yw)]) 7 ?_ (fun zfv zE9=>?_)
       ·rcases Bool.eq_false_or_eq_true (!z8S.1) with hb' | hb'
        ·have zEa:=hb'; clear hb'
         have zvM:=yn zE7 zEa
         replace zvM:=Option.some.inj zvM
         refine WL.pin (i:=39) rfl zEa ?_
         refine WL.e rfl rfl rfl (WL.e rfl rfl rfl (WL.e rfl rfl rfl (WL.e rfl rfl rfl (WL.e rfl rfl rfl (WL.e rfl rfl rfl (WL.pu rfl ?_))))))
         subst zvM
         exact WL.y4d zoh zE8 (.cons rfl (.cons rfl (.cons rfl (.cons rfl (.cons rfl (.cons rfl (.cons rfl (.cons rfl (.cons rfl .nil))))))))) (.cons .here (.cons .here (.cons .here (.cons .here .nil))))
        ·have zEb:=hb'; clear hb'
         have zb4:=yo zE7 zEb
         obtain ⟨zDW,zQh,zb4⟩:=z7 zb4
         obtain ⟨zvy,zQi,zb4⟩:=z7 zb4
         obtain ⟨zlm,zQj,zb4⟩:=z7 zb4
         replace zb4:=Option.some.inj zb4
         refine WL.pin (i:=39) rfl zEb ?_
         refine WL.pu rfl ?_
         refine WL.qA 41 (yg zd rfl (yh .h1) rfl) ?_
         refine WL.cA 42 (za (l:=[.tmp 41]) Tryz.call156 (.cons rfl .nil)) .nil (ccz hz .nil .h2 fun w pz ho=>y8h _ _ _ zQh w pz ) ?_
         refine WL.cA 43 (za (l:=[.tmp 42]) Tryz.call145 (.cons rfl .nil)) .nil (ccz hz .nil .h2 fun w pz ho=>y2k _ _ _ zQi w pz ) ?_
         refine WL.yield (dd:=44) (x:=zvy) (h:=()) (g:=zoh) (s:=z8S.2) (b:=zlm.1) (s':=zlm.2) zlr rfl rfl rfl (.cons rfl .nil) ((.cons .here .nil) : Sel _ [z2k zoh z8S.2] _) zQj zE8 (fun w hw=>hz.call hw ((.cons .here .nil) : Sel _ [z2k zoh z8S.2] _)) ?_
         intro zQk zQl
         refine WL.pu rfl (WL.pu rfl ?_)
         subst zb4
         exact WL.y4d zQk zQl (.cons rfl (.cons rfl (.cons rfl (.cons rfl (.cons rfl (.cons rfl (.cons rfl (.cons rfl (.cons rfl .nil))))))))) (.cons .here (.cons .here (.cons .here (.cons .here .nil))))
       ·skip
        refine WL.nil (WX.a ?_)
        refine WC.cond rfl (fun zvN=>?_) (fun zvN=>?_)
        ·replace h:=yn h zvN
         refine WC.ret (WX.ys (WX.yd (WX.yd (WX.ys (WX.yd (WX.ys (WX.yd (WX.yd (WX.ys (WX.yd ?_))))))))))
         obtain rfl:=Option.some.inj h
         refine WX.ye Tryz.results155 .nil (fun w hw=>?_)
         exact ⟨(z5L ++ zls),zfv,y6Q,zE9,hw.sub (.cons .h2 (.cons .here .nil))⟩
        ·replace h:=yo h zvN
         refine WC.skip (WX.yj (WX.a (WC.a (WL.pu rfl (WL.pu rfl (WL.nil ?_))))))
         exact WX.round (G:=Nat × Int × zr × z2j) ⟨zvw,(i64 (z2O + 1)),zdr.2,zfv⟩ ⟨h,zE9⟩ (Nat.lt_succ_self _) (.cons rfl (.cons rfl (.cons rfl (.cons rfl (.cons rfl (.cons rfl (.cons rfl (.cons rfl .nil)))))))) (.cons .h2 (.cons .h2 (.cons .here .nil)))
      ·replace h:=yo h zvL
       refine WC.exit (WX.yf (WX.yf (WX.yz ?_)))
       exact WX.mid (G:=zr × z2j) ⟨z5n,z8X⟩ ⟨h,zE5⟩ (.cons rfl (.cons rfl (.cons rfl (.cons rfl (.cons rfl .nil))))) (.cons .here (.cons .h1 .nil))
     ·rintro z8U zic ⟨h,zQm⟩
      replace h:=(zQc z8U).symm.trans h
      refine WX.yj ?_
      exact WX.mid (G:=zr × Zp × z2j) ⟨z8U,(z5L ++ zls),zic⟩ ⟨h,((Zle.left _ _).trans (Zle.yu _ _ _)),zQm⟩ (.cons rfl (.cons rfl (.cons rfl (.cons rfl (.cons rfl .nil))))) (.cons .here (.cons .here .nil))
    ·rintro z8T zia zib ⟨h,zQn,zQo⟩
     replace h:=(zQ7 z8T).symm.trans h
     refine WC.a (WL.pu rfl (WL.pu rfl (WL.nil ?_)))
     exact WX.round (G:=Nat × Int × zr × Zp × z2j) ⟨zvz,(i64 (z3W + 1)),z8T,zia,zib⟩ ⟨h,(zof.trans zQn),zQo⟩ (Nat.lt_succ_self _) (.cons rfl (.cons rfl (.cons rfl (.cons rfl (.cons rfl .nil))))) (.cons .here (.cons .here .nil))
   ·replace h:=yo h zvK
    refine WC.exit (WX.yf (WX.yf (WX.yz ?_)))
    exact WX.mid (G:=zr × Zp × z2j) ⟨z6a,z5L,zdv⟩ ⟨h,zof,zE3⟩ (.cons rfl (.cons rfl .nil)) (.cons .here (.cons .here .nil))
  ·rintro z8W z8i zi8 ⟨h,zEc,zQp⟩
   replace h:=(zQ6 z8W).symm.trans h
   refine WC.b (WC.a ?_)
   refine WL.qA 49 (ya ycF rfl rfl) ?_
   refine WL.qA 50 (yc z7I rfl (y11 (hz.pv2 .here) (zDZ.mono ((Zle.left _ _).trans zEc)) rfl)) ?_
   refine WL.qA 51 (yE Tryz.underlying175 rfl) ?_
   refine WL.pu rfl (WL.nil (WX.a ?_))
   obtain ⟨zb0,zQq,h⟩:=yU h
   refine WC.y8l (fun (zb1 : zr) (zie : z2j)=>(zb0 zb1 = some r) ∧ (z6H zie zb1)) (fun zb1 zie=>[]) (fun zb1 zie=>[fz z8i,z2k zie zb1]) ?_ ?_
   ·skip
    refine WC.block ?_
    refine WC.y5t (fun (zif : Nat) (z3q : Int) (z5o : zr) (z8Y : z2j)=>(y1Q zr z2P z2a zb0 zif z3q z5o = some r) ∧ (z6H z8Y z5o)) (fun zif z3q z5o z8Y=>[(0,(.func (.yield z8h) #[] #[])),(50,(.slice zlp z2P.length zlq)),(51,(.int .i64 ((z2P.length : Nat) : Int))),(52,(.int .i64 z3q))]) (fun zif z3q z5o z8Y=>[fz z8i,z2k z8Y z5o]) (fun zif z3q z5o z8Y=>zif) ⟨yB,0,z8W,zi8⟩ ⟨h,zQp⟩ (.cons rfl (.cons rfl (.cons rfl (.cons rfl .nil)))) (.cons .here (.cons .here .nil)) ?_
    rintro zif z3q z5o z8Y ⟨h,zEd⟩
    obtain ⟨zvB,rfl⟩:=y6A h
    rw [y1Q] at h
    refine WC.b (WC.a (WL.pu rfl (WL.nil (WX.a (WC.b ?_)))))
    refine WC.cond rfl (fun zvO=>?_) (fun zvO=>?_)
    ·replace h:=yn h zvO
     refine WC.skip (WX.a (WC.b (WC.block (WC.b ?_))))
     obtain ⟨zQr,h⟩:=yq h
     refine WC.a ?_
     refine WL.znth (dd:=54) rfl rfl (Z:=(Z ++ z8i)) (Pr:=(fun r x=>r = yw x)) z20 rfl rfl (zQ3.mono ((Zle.left _ _).trans zEc)) zQr ?_
     rintro zZF zZG zQs zZH rfl
     refine WL.qA 55 (yg zd rfl (y1A (hz.pv2 .here) zQs) rfl) ?_
     refine WL.nA 10 (yv (cs:=[(.int .i64 0),(.int .i64 0)]) zP rfl) ?_
     intro zQt _
     refine WL.ym rfl rfl (yl zu rfl rfl rfl .here rfl rfl rfl) ?_
     refine WL.nil (WX.a (WC.b ?_))
     obtain ⟨zDX,zQu,h⟩:=z7 h
     obtain ⟨zvC,zQv,h⟩:=z7 h
     obtain ⟨z8V,zQw,h⟩:=z7 h
     obtain ⟨zds,zEe,h⟩:=z7 h
     refine WC.a (WL.pu rfl ?_)
     refine WL.qA 57 (yg zd rfl (yh .here) rfl) ?_
     refine WL.cA 58 (za (l:=[.tmp 57]) Tryz.call46 (.cons rfl .nil)) .nil (ccz hz .nil .h1 fun w pz ho=>y53 _ _ _ zQu w pz ) ?_
     refine WL.cA 59 (za (l:=[.tmp 58]) Tryz.call145 (.cons rfl .nil)) .nil (ccz hz .nil .h1 fun w pz ho=>y2k _ _ _ zQv w pz ) ?_
     refine WL.yield (dd:=60) (x:=zvC) (h:=()) (g:=z8Y) (s:=z5o) (b:=z8V.1) (s':=z8V.2) zlr rfl rfl rfl (.cons rfl .nil) ((.cons .h2 .nil) : Sel _ [z2k z8Y z5o] _) zQw zEd (fun w hw=>hz.call hw ((.cons .h2 .nil) : Sel _ [z2k z8Y z5o] _)) ?_
     intro zoi zEf
     refine WL.pu rfl (WL.pu rfl ?_)
     refine WL.y96 (fun (zfw : z2j)=>z6H zfw zds.2) (fun (zfw : z2j)=>[(0,(.func (.yield z8h) #[] #[])),(50,(.slice zlp z2P.length zlq)),(51,(.int .i64 ((z2P.length : Nat) : Int))),(52,(.int .i64 z3q)),(69,(.bool zds.1))]) (fun (zfw : z2j)=>[z2k zfw zds.2,stb zQt 132 [(.int .i64 ((nth z2P z3q).fN)),(.int .i64 ((nth z2P z3q).fD))],fz z8i]) 7 ?_ (fun zfw zEg=>?_)
     ·rcases Bool.eq_false_or_eq_true (!z8V.1) with hb' | hb'
      ·have zEh:=hb'; clear hb'
       have zvP:=yn zEe zEh
       replace zvP:=Option.some.inj zvP
       refine WL.pin (i:=62) rfl zEh ?_
       refine WL.e rfl rfl rfl (WL.e rfl rfl rfl (WL.e rfl rfl rfl (WL.e rfl rfl rfl (WL.e rfl rfl rfl (WL.e rfl rfl rfl (WL.pu rfl ?_))))))
       subst zvP
       exact WL.y4d zoi zEf (.cons rfl (.cons rfl (.cons rfl (.cons rfl (.cons rfl .nil))))) (.cons .here (.cons .here (.cons .here .nil)))
      ·have zEi:=hb'; clear hb'
       have zb5:=yo zEe zEi
       obtain ⟨zDY,zQx,zb5⟩:=z7 zb5
       obtain ⟨zvD,zQy,zb5⟩:=z7 zb5
       obtain ⟨zln,zQz,zb5⟩:=z7 zb5
       replace zb5:=Option.some.inj zb5
       refine WL.pin (i:=62) rfl zEi ?_
       refine WL.pu rfl ?_
       refine WL.qA 64 (yg zd rfl (yh .h1) rfl) ?_
       refine WL.cA 65 (za (l:=[.tmp 64]) Tryz.call156 (.cons rfl .nil)) .nil (ccz hz .nil .h2 fun w pz ho=>y8h _ _ _ zQx w pz ) ?_
       refine WL.cA 66 (za (l:=[.tmp 65]) Tryz.call145 (.cons rfl .nil)) .nil (ccz hz .nil .h2 fun w pz ho=>y2k _ _ _ zQy w pz ) ?_
       refine WL.yield (dd:=67) (x:=zvD) (h:=()) (g:=zoi) (s:=z8V.2) (b:=zln.1) (s':=zln.2) zlr rfl rfl rfl (.cons rfl .nil) ((.cons .here .nil) : Sel _ [z2k zoi z8V.2] _) zQz zEf (fun w hw=>hz.call hw ((.cons .here .nil) : Sel _ [z2k zoi z8V.2] _)) ?_
       intro zQA zQB
       refine WL.pu rfl (WL.pu rfl ?_)
       subst zb5
       exact WL.y4d zQA zQB (.cons rfl (.cons rfl (.cons rfl (.cons rfl (.cons rfl .nil))))) (.cons .here (.cons .here (.cons .here .nil)))
     ·skip
      refine WL.nil (WX.a ?_)
      refine WC.cond rfl (fun zvQ=>?_) (fun zvQ=>?_)
      ·replace h:=yn h zvQ
       refine WC.ret (WX.ys (WX.yd (WX.yd (WX.ys (WX.yd ?_)))))
       obtain rfl:=Option.some.inj h
       refine WX.ye Tryz.results155 .nil (fun w hw=>?_)
       exact ⟨z8i,zfw,y6Q,zEg,hw.sub (.cons .h2 (.cons .here .nil))⟩
      ·replace h:=yo h zvQ
       refine WC.skip (WX.yj (WX.a (WC.a (WL.pu rfl (WL.pu rfl (WL.nil ?_))))))
       exact WX.round (G:=Nat × Int × zr × z2j) ⟨zvB,(i64 (z3q + 1)),zds.2,zfw⟩ ⟨h,zEg⟩ (Nat.lt_succ_self _) (.cons rfl (.cons rfl (.cons rfl (.cons rfl .nil)))) (.cons .h2 (.cons .here .nil))
    ·replace h:=yo h zvO
     refine WC.exit (WX.yf (WX.yf (WX.yz ?_)))
     exact WX.mid (G:=zr × z2j) ⟨z5o,z8Y⟩ ⟨h,zEd⟩ .nil (.cons .here (.cons .here .nil))
   ·rintro zb1 zie ⟨h,zQC⟩
    replace h:=(zQq zb1).symm.trans h
    obtain rfl:=Option.some.inj h
    refine WX.y4c Tryz.results155 .nil (fun w hw=>?_)
    exact ⟨z8i,zie,y6Q,zQC,hw.sub (.cons .here (.cons .here .nil))⟩
def y5E (zfx : z1v) (zb6 : z1) (zlu : List (List z6)) (z5M : zSv) : Option (z1 × z1v) :=
 (y3U zfx zlu zb6).bind fun zfy=>(y2r zb6 z5M.fL).bind fun zEj=>if decide (zEj ≤ 0) then some (zfy.1,zfy.2) else (y1o zfy.2 (fun (y0 : z1) (y1 : z1)=>y3x y0 y1) zb6 z5M.fL).bind fun zvR=>(y1o zvR.2 (fun (y0 : z1) (y1 : z1)=>y5p y0 y1) z5M.fRate zvR.1).bind fun zvS=>(y1o zvS.2 (fun (y0 : z1) (y1 : z1)=>y3x y0 y1) zfy.1 zvS.1).bind fun zvT=>some (zvT.1,zvT.2)
set_option maxRecDepth 20000 in
theorem y9M (Z : Zp) (zig : Nat) (zEk : Addr) (zEl : Option Addr) (zEm : Nat) (zEn : Addr) (zfx : z1v) (zb6 : z1) (zlu : List (List z6)) (z5M : zSv) (r : z1 × z1v)
  (h : y5E zfx zb6 zlu z5M = some r) (w₀ : World) (hz : PZ (fps [stb zig 225 [(.int .i64 zfx.fE)]]) w₀ Z)
  (zQD : ZS Z 1 (y1v Z) zEl zEm zlu)
  (zQE : ZC Z zEk [(.slice zEl zlu.length zEm)])
  (zvU : ZC Z zEn [(.int .i64 z5M.fRate.fN),(.int .i64 z5M.fRate.fD),(.int .i64 z5M.fL.fN),(.int .i64 z5M.fL.fD)])
  (hown : Hp (fps [stb zig 225 [(.int .i64 zfx.fE)]]) w₀ w₀ [stb zig 225 [(.int .i64 zfx.fE)]]) :
  Calls Tryz.prog 78 #[(.pointer (some ⟨zig,0,none⟩)),(.agg #[(.int .i64 zb6.fN),(.int .i64 zb6.fD)]),(.pointer (some zEk)),(.pointer (some zEn))] w₀ fun e w'=>e = .returned (.agg #[(.int .i64 r.1.fN),(.int .i64 r.1.fD)]) ∧ Hp (fps [stb zig 225 [(.int .i64 zfx.fE)]]) w₀ w' [stb zig 225 [(.int .i64 r.2.fE)]]:=by
 unfold y5E at h
 refine Calls.oh4 Tryz.func78 Tryz.ntmps78 hown ?_
 refine WC.b (WC.a ?_)
 refine WL.nA 5 (yH (cs:=[(.int .i64 zb6.fN),(.int .i64 zb6.fD)]) rfl rfl) ?_
 intro zZI _
 refine WL.nA 6 (yv (cs:=[(.int .i64 0),(.int .i64 0)]) zP rfl) ?_
 intro zZJ _
 refine WL.nil (WX.a (WC.b ?_))
 obtain ⟨zfy,zQF,h⟩:=z7 h
 refine WC.a (WL.pu rfl ?_)
 refine WL.qA 9 (yc z6V rfl (y48 hz.pv zQE rfl)) ?_
 refine WL.qA 10 (yg zd rfl (yh .h1) rfl) ?_
 refine WL.cA 11 (za (l:=[.tmp 8,.tmp 9,.tmp 10]) Tryz.call76 (.cons rfl (.cons rfl (.cons rfl .nil)))) (.cons .h2 .nil) (cc hz (.cons .h2 .nil) fun w pz ho=>y79 _ _ _ _ _ _ _ _ zQF w pz zQD ho) ?_
 refine WL.nA 7 (yv (cs:=[(.int .i64 0),(.int .i64 0)]) zP rfl) ?_
 intro zQG _
 refine WL.ym rfl rfl (yl zu rfl rfl rfl .here rfl rfl rfl) ?_
 refine WL.nil (WX.a (WC.b (WC.b ?_)))
 obtain ⟨zEj,zQH,h⟩:=z7 h
 refine WC.a ?_
 refine WL.qA 12 (yg zd rfl (yh .h3) rfl) ?_
 refine WL.qA 13 (ya y7J rfl rfl) ?_
 refine WL.qA 14 (yQ (cs:=[(.int .i64 z5M.fL.fN),(.int .i64 z5M.fL.fD)]) zd rfl rfl (y98 (off:=2) (s:=2) hz.pv zvU rfl)) ?_
 refine WL.cA 15 (za (l:=[.tmp 12,.tmp 14]) Tryz.call79 (.cons rfl (.cons rfl .nil))) .nil (cc hz .nil fun w pz ho=>y3w _ _ _ _ zQH w pz ) ?_
 refine WL.pu rfl (WL.nil (WX.a ?_))
 refine WC.cond rfl (fun zvV=>?_) (fun zvV=>?_)
 ·replace h:=yn h zvV
  refine WC.b (WC.a ?_)
  refine WL.qA 17 (yg zd rfl (yh .here) rfl) ?_
  refine WL.ym rfl rfl (yl zu rfl rfl rfl .h2 rfl rfl rfl) ?_
  refine WL.nil (WX.a (WC.ret (WX.yd ?_)))
  obtain rfl:=Option.some.inj h
  refine WX.ye Tryz.results78 (.agg rfl zd rfl (yh .here) .nil) (fun w hw=>?_)
  exact ⟨yD rfl,hw.sub (.cons .h2 .nil)⟩
 ·replace h:=yo h zvV
  refine WC.skip (WX.a (WC.b ?_))
  obtain ⟨zvR,zQI,h⟩:=z7 h
  obtain ⟨zvS,zQJ,h⟩:=z7 h
  obtain ⟨zvT,zQK,h⟩:=z7 h
  refine WC.yL (fun i=>[9,10,11,12].contains i) [stb zQG 132 [(.int .i64 zfy.1.fN),(.int .i64 zfy.1.fD)]] rfl ?_
  refine WD.pA 0 18 rfl (fun _=>q_m rfl) ?_
  refine WD.sA 1 19 rfl (Sin.of (.cons .here .nil)) (yg zd rfl (yh .here) rfl) ?_
  refine WD.pA 2 20 rfl (fun _=>q_m rfl) ?_
  refine WD.pA 3 21 rfl (fun _=>ya y7I rfl rfl) ?_
  refine WD.sA 4 22 rfl (Sin.of (.cons .here .nil)) (yQ (cs:=[(.int .i64 z5M.fRate.fN),(.int .i64 z5M.fRate.fD)]) zd rfl rfl (y98 (off:=0) (s:=2) hz.pv zvU rfl)) ?_
  refine WD.pA 5 23 rfl (fun _=>q_m rfl) ?_
  refine WD.qA 6 24 rfl (yg zd rfl (yh .h3) rfl) ?_
  refine WD.pA 7 25 rfl (fun _=>ya y7J rfl rfl) ?_
  refine WD.qA 8 26 rfl (yQ (cs:=[(.int .i64 z5M.fL.fN),(.int .i64 z5M.fL.fD)]) zd rfl rfl (y98 (off:=2) (s:=2) hz.pv zvU rfl)) ?_
  refine WD.call0 (i:=9) (dd:=27) rfl (by kernel_rfl) rfl rfl rfl (.inl ⟨rfl,(Sin.of (.cons .h1 .nil))⟩) (za (l:=[.tmp 23,.func 74,.tmp 24,.tmp 26]) Tryz.call73 (.cons rfl (.cons rfl (.cons rfl (.cons rfl .nil))))) (.cons .h1 .nil) (cc hz (.cons .h1 .nil) fun w pz ho=>Calls.mono (y1N _ _ (z62:=74) (z7d:=[]) _ (z6A:=(fun (y0 : z1) (y1 : z1)=>y3x y0 y1)) _ _ _ zQI w pz Tryz.call74 (fun w' hz' y0 y1  r  hr=>y7V _ _ _ _ hr w' hz' ) ho) (fun _ _ h'=>⟨h'.1,trivial,h'.2⟩)) ?_
  intro _
  refine WD.call0 (i:=10) (dd:=28) rfl (by kernel_rfl) rfl rfl rfl (.inl ⟨rfl,(Sin.of (.cons .h1 .nil))⟩) (za (l:=[.tmp 20,.func 70,.tmp 22,.tmp 27]) Tryz.call73 (.cons rfl (.cons rfl (.cons rfl (.cons rfl .nil))))) (.cons .here .nil) (cc hz (.cons .here .nil) fun w pz ho=>Calls.mono (y1N _ _ (z62:=70) (z7d:=[]) _ (z6A:=(fun (y0 : z1) (y1 : z1)=>y5p y0 y1)) _ _ _ zQJ w pz Tryz.call70 (fun w' hz' y0 y1  r  hr=>yau _ _ _ _ hr w' hz' ) ho) (fun _ _ h'=>⟨h'.1,trivial,h'.2⟩)) ?_
  intro _
  refine WD.call0 (i:=11) (dd:=29) rfl (by kernel_rfl) rfl rfl rfl (.inl ⟨rfl,(Sin.of (.cons .h1 .nil))⟩) (za (l:=[.tmp 18,.func 74,.tmp 19,.tmp 28]) Tryz.call73 (.cons rfl (.cons rfl (.cons rfl (.cons rfl .nil))))) (.cons .here .nil) (cc hz (.cons .here .nil) fun w pz ho=>Calls.mono (y1N _ _ (z62:=74) (z7d:=[]) _ (z6A:=(fun (y0 : z1) (y1 : z1)=>y3x y0 y1)) _ _ _ zQK w pz Tryz.call74 (fun w' hz' y0 y1  r  hr=>y7V _ _ _ _ hr w' hz' ) ho) (fun _ _ h'=>⟨h'.1,trivial,h'.2⟩)) ?_
  intro _
  refine WD.y2F (i:=12) rfl (by kernel_rfl) rfl rfl rfl (by kernel_rfl) (yl zu rfl rfl rfl .h2 rfl rfl rfl) ?_
  refine WD.done (by kernel_rfl) ?_
  refine WX.a (WC.ret ?_)
  obtain rfl:=Option.some.inj h
  refine WX.ye Tryz.results78 (.agg rfl zd rfl (yh .here) .nil) (fun w hw=>?_)
  exact ⟨yD rfl,hw.sub (.cons .h1 .nil)⟩
def y3j (z6I : List (List z6)) (z5N : zSv) (zb7 : z1) (z3D : List z1) (zoj : Int) : Option (Bool × (Nat × List z1 × Int)) :=
 (y5E (⟨zoj⟩ : z1v) zb7 z6I z5N).bind fun z6J=>(if decide (((z3D.length : Nat) : Int) = 0) then some true else chk ((0 : Int) ≤ 0 ∧ 0 < ((z3D.length : Nat) : Int)) ((y2r z6J.1 (⟨((nth z3D 0).fN),((nth z3D 0).fD)⟩ : z1)).bind fun zEo=>some (decide (zEo > 0)))).bind fun zvW=>if zvW then some (true,(0,([z6J.1] : List z1),z6J.2.fE)) else some (true,(0,z3D,z6J.2.fE))
def y54 (z18 : List (List z6)) (zn : zSv) (z6I : List (List z6)) (z5N : zSv) (z19 : List z1) : Option (z1 × Int) :=
 (y4q z18 zn z6I z5N z19).bind fun zlv=>if decide (zlv ≠ 0) then some ((⟨0,0⟩ : z1),zlv) else jp2 (fun (z8Z : Int) (z6b : List z1)=>if decide (z8Z ≠ 0) then some ((⟨0,0⟩ : z1),z8Z) else chk ((0 : Int) ≤ 0 ∧ 0 < ((z6b.length : Nat) : Int)) (some ((⟨((nth z6b 0).fN),((nth z6b 0).fD)⟩ : z1),0))) fun zvX=>(y4b z18 zn z6I z5N z19).bind fun zz=>(y3N (Nat × List z1 × Int) (fun (x : z1) (s : Nat × List z1 × Int)=>chk (s.1 = 0) (y3j z6I z5N x s.2.1 s.2.2)) (0,([] : List z1),0) z18 (⟨(⟨zz.1,zz.2.1⟩ : z1),(⟨zz.2.2.1,zz.2.2.2⟩ : z1)⟩ : zSv) z6I z5N z19).bind fun z3X=>zvX z3X.2.2 z3X.2.1
set_option maxRecDepth 20000 in
theorem y92 (Z : Zp) (z1p : Option Addr) (z1q : Nat) (z1h : Addr) (zvY : Option Addr) (zvZ : Nat) (z1i : Addr) (z1r : Option Addr) (z1s : Nat) (z18 : List (List z6)) (zn : zSv) (z6I : List (List z6)) (z5N : zSv) (z19 : List z1) (r : z1 × Int)
  (h : y54 z18 zn z6I z5N z19 = some r) (w₀ : World) (hz : PZ [] w₀ Z)
  (zw0 : ZS Z 1 (y1v Z) z1p z1q z18)
  (zol : ZS Z 1 (y1v Z) zvY zvZ z6I)
  (zom : ZC Z z1h [(.slice zvY z6I.length zvZ)])
  (zon : ZC Z z1i [(.int .i64 z5N.fRate.fN),(.int .i64 z5N.fRate.fD),(.int .i64 z5N.fL.fN),(.int .i64 z5N.fL.fD)])
  (zw1 : ZS Z 2 (fun r x=>r = yw x) z1r z1s z19) :
  Calls Tryz.prog 77 #[(.agg #[(.slice z1p z18.length z1q),(.int .i64 zn.fRate.fN),(.int .i64 zn.fRate.fD),(.int .i64 zn.fL.fN),(.int .i64 zn.fL.fD),(.func (.func 78) #[] #[(.pointer (some z1h)),(.pointer (some z1i))]),(.slice z1r z19.length z1s)])] w₀ fun e w'=>∃ Zn : Zp,e = .returned (.tuple #[(.agg #[(.int .i64 r.1.fN),(.int .i64 r.1.fD)]),(.int .i64 r.2)]) ∧ True ∧ Hp [] w₀ w' [fz Zn]:=by
 unfold y54 at h
 refine Calls.y8W (vs:=[(.agg #[(.slice z1p z18.length z1q),(.int .i64 zn.fRate.fN),(.int .i64 zn.fRate.fD),(.int .i64 zn.fL.fN),(.int .i64 zn.fL.fD),(.func (.func 78) #[] #[(.pointer (some z1h)),(.pointer (some z1i))]),(.slice z1r z19.length z1s)])]) (pre:=[]) (env:=[(0,(.agg #[(.slice z1p z18.length z1q),(.int .i64 zn.fRate.fN),(.int .i64 zn.fRate.fD),(.int .i64 zn.fL.fN),(.int .i64 zn.fL.fD),(.func (.func 78) #[] #[(.pointer (some z1h)),(.pointer (some z1i))]),(.slice z1r z19.length z1s)]))]) Tryz.func77 rfl Tryz.ntmps77 rfl (Hp.nil w₀ _) rfl ?_
 refine WC.pool (WC.b (WC.a ?_))
 refine WL.nA 1 (yH (cs:=[(.slice z1p z18.length z1q),(.int .i64 zn.fRate.fN),(.int .i64 zn.fRate.fD),(.int .i64 zn.fL.fN),(.int .i64 zn.fL.fD),(.func (.func 78) #[] #[(.pointer (some z1h)),(.pointer (some z1i))]),(.slice z1r z19.length z1s)]) rfl rfl) ?_
 intro z3r _
 refine WL.nA 2 (yv (cs:=[(.int .i64 0),(.int .i64 0)]) zP rfl) ?_
 intro z3E _
 refine WL.pu rfl (WL.nil (WX.a (WC.b (WC.b ?_))))
 obtain ⟨zlv,zQL,h⟩:=z7 h
 refine WC.a ?_
 refine WL.qA 9 (yg zfR rfl (yh .h1) rfl) ?_
 refine WL.y3I (dd:=10) rfl rfl rfl (za (l:=[.tmp 9]) Tryz.call109 (.cons rfl .nil)) .nil (ccz hz .nil .h2 fun w pz ho=>y8D _ _ _ _ _ _ _ _ _ _ _ _ _ _ _ zQL w pz ((zw0.mono (Zle.left _ _)).weak (fun _ _ h=>yT (Zle.left _ _) h)) ((zol.mono (Zle.left _ _)).weak (fun _ _ h=>yT (Zle.left _ _) h)) (zom.mono (Zle.left _ _)) (zon.mono (Zle.left _ _)) (zw1.mono (Zle.left _ _))) ?_
 rintro z5O _
 refine WL.merge .here .h2 ?_
 refine WL.pu rfl (WL.nil (WX.a (WC.b (WC.a (WL.pu rfl (WL.pu rfl (WL.nil (WX.a ?_))))))))
 refine WC.cond rfl (fun zw2=>?_) (fun zw2=>?_)
 ·replace h:=yn h zw2
  refine WC.b (WC.a ?_)
  refine WL.qA 13 (yI (v:=(.agg #[(.int .i64 0),(.int .i64 0)])) (Eos.parts (l:=[]) .nil []) (fun _=>by kernel_rfl)) ?_
  refine WL.pu rfl ?_
  refine WL.ym rfl rfl (yl zu rfl rfl rfl .h1 rfl rfl rfl) ?_
  refine WL.pu rfl (WL.nil (WX.a (WC.ret (WX.yd ?_))))
  obtain rfl:=Option.some.inj h
  refine WX.yai Tryz.results77 (.agg rfl zd rfl (yh .here) (.tmp rfl .nil)) (fun w hw=>?_)
  exact ⟨([] ++ z5O),y1z rfl rfl,trivial,hw.sub (.cons .h1 .nil)⟩
 ·replace h:=yo h zw2
  refine WC.skip (WX.a (WC.b (WC.a ?_)))
  refine WL.nA 5 (yv (cs:=[(.int .i64 0)]) zm5 rfl) ?_
  intro z2Q _
  refine WL.nil (WX.a (WC.b (WC.a ?_)))
  refine WL.nA 6 (yv (cs:=[(.slice none 0 0)]) zpa rfl) ?_
  intro z37 _
  refine WL.nil (WX.a ?_)
  obtain ⟨zvX,zQM,h⟩:=y3D h
  refine WC.y8X (fun (zlw : Nat) (z8Z : Int) (z6b : List z1) (zfz : Zp) (zlx : Option Addr) (zly : Nat)=>(zvX z8Z z6b = some r) ∧ (Zle (Z ++ ([] ++ z5O)) (Z ++ zfz))) (fun (zlw : Nat) (z8Z : Int) (z6b : List z1) (zfz : Zp) (zlx : Option Addr) (zly : Nat)=>[(2,(.pointer (some ⟨z3E,0,none⟩))),(5,(.pointer (some ⟨z2Q,0,none⟩))),(6,(.pointer (some ⟨z37,0,none⟩)))]) (fun (zlw : Nat) (z8Z : Int) (z6b : List z1) (zfz : Zp) (zlx : Option Addr) (zly : Nat)=>[fz zfz,stb z3E 132 [(.int .i64 0),(.int .i64 0)],stb z2Q 225 [(.int .i64 z8Z)],stb z37 175 [(.slice zlx z6b.length zly)],row (.slice zlx z6b.length zly) 132 2 (z6b.flatMap yw),dfr zlw]) ?_ ?_
  ·skip
   refine WC.b ?_
   obtain ⟨zz,zQN,h⟩:=z7 h
   refine WC.a ?_
   refine WL.qA 15 (yg zfR rfl (yh .h4) rfl) ?_
   refine WL.y3I (dd:=16) rfl rfl rfl (za (l:=[.tmp 15]) Tryz.call110 (.cons rfl .nil)) .nil (ccz hz .nil .h2 fun w pz ho=>y8i _ _ _ _ _ _ _ _ _ _ _ _ _ _ _ zQN w pz ((zw0.mono ((Zle.left _ _).trans ((Zle.left _ _).trans (Zle.yu _ _ _)))).weak (fun _ _ h=>yT ((Zle.left _ _).trans ((Zle.left _ _).trans (Zle.yu _ _ _))) h)) ((zol.mono ((Zle.left _ _).trans ((Zle.left _ _).trans (Zle.yu _ _ _)))).weak (fun _ _ h=>yT ((Zle.left _ _).trans ((Zle.left _ _).trans (Zle.yu _ _ _))) h)) (zom.mono ((Zle.left _ _).trans ((Zle.left _ _).trans (Zle.yu _ _ _)))) (zon.mono ((Zle.left _ _).trans ((Zle.left _ _).trans (Zle.yu _ _ _)))) (zw1.mono ((Zle.left _ _).trans ((Zle.left _ _).trans (Zle.yu _ _ _))))) ?_
   rintro z4j _
   refine WL.nil (WX.a (WC.block (WC.pool ?_)))
   refine WC.drop (.cons .here (.cons .h1 (.cons .h1 (.cons .h2 (.cons .h2 (.cons .here (.cons .here .nil))))))) ?_
   refine WC.nilRow 132 2 ?_
   refine WC.rangeFunc (f:=155) (caps:=[(.pointer (some ⟨z4j,0,none⟩))]) rfl Tryz.call155 ?_
   intro zZK zZL z3Y z6c z4T zoo zQO zQP w hw
   have hw1:=hw.selAll ((.cons .h3 (.cons .h3 (.cons .h2 (.cons .h2 (.cons .h2 (.cons .h2 (.cons .here .nil))))))) : Sel _ [fz [],stb z37 175 [(.slice none (([] : List z1).length) 0)],row (.slice none (([] : List z1).length) 0) 132 2 (([] : List z1).flatMap yw),stb z2Q 225 [(.int .i64 0)],stb z3E 132 [(.int .i64 0),(.int .i64 0)],stb z3r 177 [(.slice z1p z18.length z1q),(.int .i64 zn.fRate.fN),(.int .i64 zn.fRate.fD),(.int .i64 zn.fL.fN),(.int .i64 zn.fL.fD),(.func (.func 78) #[] #[(.pointer (some z1h)),(.pointer (some z1i))]),(.slice z1r z19.length z1s)],blk z3Y (z4T .ready none)] _)
   have pz:=(hz.call2 hw1 ((.cons .here .nil) : Sel [y1G [fz [],stb z37 175 [(.slice none (([] : List z1).length) 0)],row (.slice none (([] : List z1).length) 0) 132 2 (([] : List z1).flatMap yw),stb z2Q 225 [(.int .i64 0)],stb z3E 132 [(.int .i64 0),(.int .i64 0)],stb z3r 177 [(.slice z1p z18.length z1q),(.int .i64 zn.fRate.fN),(.int .i64 zn.fRate.fD),(.int .i64 zn.fL.fN),(.int .i64 zn.fL.fD),(.func (.func 78) #[] #[(.pointer (some z1h)),(.pointer (some z1i))]),(.slice z1r z19.length z1s)],blk z3Y (z4T .ready none)],dfr z6c,stb z4j 177 [(.slice z1p z18.length z1q),(.int .i64 zz.1),(.int .i64 zz.2.1),(.int .i64 zz.2.2.1),(.int .i64 zz.2.2.2),(.func (.func 78) #[] #[(.pointer (some z1h)),(.pointer (some z1i))]),(.slice z1r z19.length z1s)],fz ([] ++ z5O)] [y1G [fz [],stb z37 175 [(.slice none (([] : List z1).length) 0)],row (.slice none (([] : List z1).length) 0) 132 2 (([] : List z1).flatMap yw),stb z2Q 225 [(.int .i64 0)],stb z3E 132 [(.int .i64 0),(.int .i64 0)],stb z3r 177 [(.slice z1p z18.length z1q),(.int .i64 zn.fRate.fN),(.int .i64 zn.fRate.fD),(.int .i64 zn.fL.fN),(.int .i64 zn.fL.fD),(.func (.func 78) #[] #[(.pointer (some z1h)),(.pointer (some z1i))]),(.slice z1r z19.length z1s)],blk z3Y (z4T .ready none)]] [dfr z6c,stb z4j 177 [(.slice z1p z18.length z1q),(.int .i64 zz.1),(.int .i64 zz.2.1),(.int .i64 zz.2.2.1),(.int .i64 zz.2.2.2),(.func (.func 78) #[] #[(.pointer (some z1h)),(.pointer (some z1i))]),(.slice z1r z19.length z1s)],fz ([] ++ z5O)]) .h2).lend hw1 ((.cons .here .nil) : Sel [y1G [fz [],stb z37 175 [(.slice none (([] : List z1).length) 0)],row (.slice none (([] : List z1).length) 0) 132 2 (([] : List z1).flatMap yw),stb z2Q 225 [(.int .i64 0)],stb z3E 132 [(.int .i64 0),(.int .i64 0)],stb z3r 177 [(.slice z1p z18.length z1q),(.int .i64 zn.fRate.fN),(.int .i64 zn.fRate.fD),(.int .i64 zn.fL.fN),(.int .i64 zn.fL.fD),(.func (.func 78) #[] #[(.pointer (some z1h)),(.pointer (some z1i))]),(.slice z1r z19.length z1s)],blk z3Y (z4T .ready none)],dfr z6c,stb z4j 177 [(.slice z1p z18.length z1q),(.int .i64 zz.1),(.int .i64 zz.2.1),(.int .i64 zz.2.2.1),(.int .i64 zz.2.2.2),(.func (.func 78) #[] #[(.pointer (some z1h)),(.pointer (some z1i))]),(.slice z1r z19.length z1s)],fz ([] ++ z5O)] [y1G [fz [],stb z37 175 [(.slice none (([] : List z1).length) 0)],row (.slice none (([] : List z1).length) 0) 132 2 (([] : List z1).flatMap yw),stb z2Q 225 [(.int .i64 0)],stb z3E 132 [(.int .i64 0),(.int .i64 0)],stb z3r 177 [(.slice z1p z18.length z1q),(.int .i64 zn.fRate.fN),(.int .i64 zn.fRate.fD),(.int .i64 zn.fL.fN),(.int .i64 zn.fL.fD),(.func (.func 78) #[] #[(.pointer (some z1h)),(.pointer (some z1i))]),(.slice z1r z19.length z1s)],blk z3Y (z4T .ready none)]] [dfr z6c,stb z4j 177 [(.slice z1p z18.length z1q),(.int .i64 zz.1),(.int .i64 zz.2.1),(.int .i64 zz.2.2.1),(.int .i64 zz.2.2.2),(.func (.func 78) #[] #[(.pointer (some z1h)),(.pointer (some z1i))]),(.slice z1r z19.length z1s)],fz ([] ++ z5O)]) (B:=[stb z4j 177 [(.slice z1p z18.length z1q),(.int .i64 zz.1),(.int .i64 zz.2.1),(.int .i64 zz.2.2.1),(.int .i64 zz.2.2.2),(.func (.func 78) #[] #[(.pointer (some z1h)),(.pointer (some z1i))]),(.slice z1r z19.length z1s)]]) (fun _ hx'=>((.cons .h1 .nil) : Sel _ [stb z4j 177 [(.slice z1p z18.length z1q),(.int .i64 zz.1),(.int .i64 zz.2.1),(.int .i64 zz.2.2.1),(.int .i64 zz.2.2.2),(.func (.func 78) #[] #[(.pointer (some z1h)),(.pointer (some z1i))]),(.slice z1r z19.length z1s)]] _).mem hx')
   obtain ⟨z3X,zQQ,h⟩:=z7 h
   refine Calls.mono (y7W (Z:=_) (z8h:=z3Y) (z2j:=(Option Addr × Nat)) (z2k:=(fun (g : Option Addr × Nat) (s : Nat × List z1 × Int)=>y1G ([fz [],stb z37 175 [(.slice g.1 s.2.1.length g.2)],row (.slice g.1 s.2.1.length g.2) 132 2 (s.2.1.flatMap yw),stb z2Q 225 [(.int .i64 s.2.2)],stb z3E 132 [(.int .i64 0),(.int .i64 0)],stb z3r 177 [(.slice z1p z18.length z1q),(.int .i64 zn.fRate.fN),(.int .i64 zn.fRate.fD),(.int .i64 zn.fL.fN),(.int .i64 zn.fL.fD),(.func (.func 78) #[] #[(.pointer (some z1h)),(.pointer (some z1i))]),(.slice z1r z19.length z1s)]] ++ [blk z3Y (z4T (rdy (pcs [] s.1)) (pcs [] s.1))]))) (z6H:=(fun (g : Option Addr × Nat) (s : Nat × List z1 × Int)=>True)) (zb2:=(none,0)) (zb3:=⟨z4j,0,none⟩) (zdt:=z1p) (zdu:=z1q) (zvF:=z1h) (zvG:=zvY) (zvH:=zvZ) (zvI:=z1i) (zlp:=z1r) (zlq:=z1s) (zr:=(Nat × List z1 × Int)) (z2a:=(fun (x : z1) (s : Nat × List z1 × Int)=>chk (s.1 = 0) (y3j z6I z5N x s.2.1 s.2.2))) (s0_57299:=(0,([] : List z1),0)) (z2D:=z18) (zfs:=(⟨(⟨zz.1,zz.2.1⟩ : z1),(⟨zz.2.2.1,zz.2.2.2⟩ : z1)⟩ : zSv)) (zlo:=z6I) (zft:=z5N) (z2P:=z19) (r:=z3X) w pz ?_ trivial ((((zw0.mono ((Zle.left _ _).trans ((Zle.left _ _).trans (Zle.yu _ _ _)))).weak (fun _ _ h=>yT ((Zle.left _ _).trans ((Zle.left _ _).trans (Zle.yu _ _ _))) h)).mono (Zle.left _ _)).weak (fun _ _ h=>yT (Zle.left _ _) h)) ((((zol.mono ((Zle.left _ _).trans ((Zle.left _ _).trans (Zle.yu _ _ _)))).weak (fun _ _ h=>yT ((Zle.left _ _).trans ((Zle.left _ _).trans (Zle.yu _ _ _))) h)).mono (Zle.left _ _)).weak (fun _ _ h=>yT (Zle.left _ _) h)) ((zom.mono ((Zle.left _ _).trans ((Zle.left _ _).trans (Zle.yu _ _ _)))).mono (Zle.left _ _)) ((zon.mono ((Zle.left _ _).trans ((Zle.left _ _).trans (Zle.yu _ _ _)))).mono (Zle.left _ _)) ((zw1.mono ((Zle.left _ _).trans ((Zle.left _ _).trans (Zle.yu _ _ _)))).mono (Zle.left _ _)) ((hw1.lent ((.cons .here .nil) : Sel [y1G [fz [],stb z37 175 [(.slice none (([] : List z1).length) 0)],row (.slice none (([] : List z1).length) 0) 132 2 (([] : List z1).flatMap yw),stb z2Q 225 [(.int .i64 0)],stb z3E 132 [(.int .i64 0),(.int .i64 0)],stb z3r 177 [(.slice z1p z18.length z1q),(.int .i64 zn.fRate.fN),(.int .i64 zn.fRate.fD),(.int .i64 zn.fL.fN),(.int .i64 zn.fL.fD),(.func (.func 78) #[] #[(.pointer (some z1h)),(.pointer (some z1i))]),(.slice z1r z19.length z1s)],blk z3Y (z4T .ready none)],dfr z6c,stb z4j 177 [(.slice z1p z18.length z1q),(.int .i64 zz.1),(.int .i64 zz.2.1),(.int .i64 zz.2.2.1),(.int .i64 zz.2.2.2),(.func (.func 78) #[] #[(.pointer (some z1h)),(.pointer (some z1i))]),(.slice z1r z19.length z1s)],fz ([] ++ z5O)] [y1G [fz [],stb z37 175 [(.slice none (([] : List z1).length) 0)],row (.slice none (([] : List z1).length) 0) 132 2 (([] : List z1).flatMap yw),stb z2Q 225 [(.int .i64 0)],stb z3E 132 [(.int .i64 0),(.int .i64 0)],stb z3r 177 [(.slice z1p z18.length z1q),(.int .i64 zn.fRate.fN),(.int .i64 zn.fRate.fD),(.int .i64 zn.fL.fN),(.int .i64 zn.fL.fD),(.func (.func 78) #[] #[(.pointer (some z1h)),(.pointer (some z1i))]),(.slice z1r z19.length z1s)],blk z3Y (z4T .ready none)]] [dfr z6c,stb z4j 177 [(.slice z1p z18.length z1q),(.int .i64 zz.1),(.int .i64 zz.2.1),(.int .i64 zz.2.2.1),(.int .i64 zz.2.2.2),(.func (.func 78) #[] #[(.pointer (some z1h)),(.pointer (some z1i))]),(.slice z1r z19.length z1s)],fz ([] ++ z5O)]) (B:=[stb z4j 177 [(.slice z1p z18.length z1q),(.int .i64 zz.1),(.int .i64 zz.2.1),(.int .i64 zz.2.2.1),(.int .i64 zz.2.2.2),(.func (.func 78) #[] #[(.pointer (some z1h)),(.pointer (some z1i))]),(.slice z1r z19.length z1s)]]) (fun _ hx'=>((.cons .h1 .nil) : Sel _ [stb z4j 177 [(.slice z1p z18.length z1q),(.int .i64 zz.1),(.int .i64 zz.2.1),(.int .i64 zz.2.2.1),(.int .i64 zz.2.2.2),(.func (.func 78) #[] #[(.pointer (some z1h)),(.pointer (some z1i))]),(.slice z1r z19.length z1s)]] _).mem hx') (.head _) _).stb) zQQ (hw1.owns ((.cons .here .nil) : Sel [y1G [fz [],stb z37 175 [(.slice none (([] : List z1).length) 0)],row (.slice none (([] : List z1).length) 0) 132 2 (([] : List z1).flatMap yw),stb z2Q 225 [(.int .i64 0)],stb z3E 132 [(.int .i64 0),(.int .i64 0)],stb z3r 177 [(.slice z1p z18.length z1q),(.int .i64 zn.fRate.fN),(.int .i64 zn.fRate.fD),(.int .i64 zn.fL.fN),(.int .i64 zn.fL.fD),(.func (.func 78) #[] #[(.pointer (some z1h)),(.pointer (some z1i))]),(.slice z1r z19.length z1s)],blk z3Y (z4T .ready none)],dfr z6c,stb z4j 177 [(.slice z1p z18.length z1q),(.int .i64 zz.1),(.int .i64 zz.2.1),(.int .i64 zz.2.2.1),(.int .i64 zz.2.2.2),(.func (.func 78) #[] #[(.pointer (some z1h)),(.pointer (some z1i))]),(.slice z1r z19.length z1s)],fz ([] ++ z5O)] [y1G [fz [],stb z37 175 [(.slice none (([] : List z1).length) 0)],row (.slice none (([] : List z1).length) 0) 132 2 (([] : List z1).flatMap yw),stb z2Q 225 [(.int .i64 0)],stb z3E 132 [(.int .i64 0),(.int .i64 0)],stb z3r 177 [(.slice z1p z18.length z1q),(.int .i64 zn.fRate.fN),(.int .i64 zn.fRate.fD),(.int .i64 zn.fL.fN),(.int .i64 zn.fL.fD),(.func (.func 78) #[] #[(.pointer (some z1h)),(.pointer (some z1i))]),(.slice z1r z19.length z1s)],blk z3Y (z4T .ready none)]] [dfr z6c,stb z4j 177 [(.slice z1p z18.length z1q),(.int .i64 zz.1),(.int .i64 zz.2.1),(.int .i64 zz.2.2.1),(.int .i64 zz.2.2.2),(.func (.func 78) #[] #[(.pointer (some z1h)),(.pointer (some z1i))]),(.slice z1r z19.length z1s)],fz ([] ++ z5O)]))) ?_
   ·skip
    refine yah (LI:=(fun (g : Option Addr × Nat) (s : Nat × List z1 × Int)=>[fz [],stb z37 175 [(.slice g.1 s.2.1.length g.2)],row (.slice g.1 s.2.1.length g.2) 132 2 (s.2.1.flatMap yw),stb z2Q 225 [(.int .i64 s.2.2)],stb z3E 132 [(.int .i64 0),(.int .i64 0)],stb z3r 177 [(.slice z1p z18.length z1q),(.int .i64 zn.fRate.fN),(.int .i64 zn.fRate.fD),(.int .i64 zn.fL.fN),(.int .i64 zn.fL.fD),(.func (.func 78) #[] #[(.pointer (some z1h)),(.pointer (some z1i))]),(.slice z1r z19.length z1s)]])) (pc:=(fun (s : Nat × List z1 × Int)=>pcs [] s.1)) zoo zQO zQP (fun _ _=>rfl) (by decide) ?_
    rintro zb7 _ ⟨zih,zii⟩ ⟨zQR,z3D,zoj⟩ zQS zQT Fb wb zEp _ hz
    replace hz:=hz.left
    letI : Rnd:=inR z3Y
    obtain ⟨hp0,z6K⟩:=yq zEp
    replace hp0 : zQR = 0:=hp0; subst hp0; clear zEp
    replace z6K : y3j z6I z5N zb7 z3D zoj = some (zQS,zQT):=z6K
    unfold y3j at z6K
    refine WC.restr (env':=[(1,(.pointer (some ⟨z3r,0,none⟩))),(12,(.bool (decide (zlv ≠ 0)))),(5,(.pointer (some ⟨z2Q,0,none⟩))),(6,(.pointer (some ⟨z37,0,none⟩))),(17,(.agg #[(.int .i64 zb7.fN),(.int .i64 zb7.fD)]))]) (.cons rfl (.cons rfl (.cons rfl (.cons rfl (.cons rfl .nil))))) ?_
    refine WC.eqL (L':=[fz [],stb z37 175 [(.slice zih z3D.length zii)],row (.slice zih z3D.length zii) 132 2 (z3D.flatMap yw),stb z2Q 225 [(.int .i64 zoj)],stb z3E 132 [(.int .i64 0),(.int .i64 0)],stb z3r 177 [(.slice z1p z18.length z1q),(.int .i64 zn.fRate.fN),(.int .i64 zn.fRate.fD),(.int .i64 zn.fL.fN),(.int .i64 zn.fL.fD),(.func (.func 78) #[] #[(.pointer (some z1h)),(.pointer (some z1i))]),(.slice z1r z19.length z1s)],blk z3Y (z4T .ready none)]) rfl ?_
    refine WC.a ?_
    refine WL.nA 7 (yv (cs:=[(.int .i64 0),(.int .i64 0)]) zP rfl) ?_
    intro zQU _
    refine WL.ym rfl rfl (yl zu rfl rfl rfl .here rfl rfl rfl) ?_
    refine WL.nil ?_
    refine WX.yb7 zoo .h7 ?_
    refine WC.block (WC.b ?_)
    obtain ⟨z6J,zQV,z6K⟩:=z7 z6K
    refine WC.a ?_
    refine WL.qA 18 (ya y9C rfl rfl) ?_
    refine WL.qA 19 (yc zya rfl (yk .h7 rfl)) ?_
    refine WL.qA 20 (yg zd rfl (yh .h1) rfl) ?_
    refine WL.cA 21 (y27 (l:=[.tmp 5,.tmp 20]) Tryz.call78 rfl (.cons rfl (.cons rfl .nil))) (.cons .h5 .nil) (ccz hz (.cons .h5 .nil) .h2 fun w pz ho=>y9M _ _ _ _ _ _ _ _ _ _ _ zQV w pz ((zol.mono ((Zle.left _ _).trans ((Zle.left _ _).trans ((Zle.yu _ _ _).trans (Zle.left _ _))))).weak (fun _ _ h=>yT ((Zle.left _ _).trans ((Zle.left _ _).trans ((Zle.yu _ _ _).trans (Zle.left _ _)))) h)) (zom.mono ((Zle.left _ _).trans ((Zle.left _ _).trans ((Zle.yu _ _ _).trans (Zle.left _ _))))) (zon.mono ((Zle.left _ _).trans ((Zle.left _ _).trans ((Zle.yu _ _ _).trans (Zle.left _ _))))) ho) ?_
    refine WL.nA 8 (yv (cs:=[(.int .i64 0),(.int .i64 0)]) zP rfl) ?_
    intro zQW _
    refine WL.ym rfl rfl (yl zu rfl rfl rfl .here rfl rfl rfl) ?_
    refine WL.nil (WX.a (WC.b ?_))
    obtain ⟨zvW,zEq,z6K⟩:=z7 z6K
    refine WC.yL (fun i=>[].contains i) [] rfl ?_
    refine WD.qA 0 22 rfl (yc z7I rfl (yk .h5 rfl)) ?_
    refine WD.pA 1 23 rfl (fun _=>yE Tryz.underlying175 rfl) ?_
    refine WD.pA 2 24 rfl (fun _=>y8e rfl rfl) ?_
    refine WD.pA 3 25 rfl (fun _=>q_m rfl) ?_
    refine WD.mid (fuel':=0) [(1,(.pointer (some ⟨z3r,0,none⟩))),(12,(.bool (decide (zlv ≠ 0)))),(5,(.pointer (some ⟨z2Q,0,none⟩))),(6,(.pointer (some ⟨z37,0,none⟩))),(17,(.agg #[(.int .i64 zb7.fN),(.int .i64 zb7.fD)])),(7,(.pointer (some ⟨zQU,0,none⟩))),(18,(.pointer (some ⟨z3r,5,none⟩))),(19,(.func (.func 78) #[] #[(.pointer (some z1h)),(.pointer (some z1i))])),(20,(.agg #[(.int .i64 zb7.fN),(.int .i64 zb7.fD)])),(21,(.agg #[(.int .i64 z6J.1.fN),(.int .i64 z6J.1.fD)])),(8,(.pointer (some ⟨zQW,0,none⟩))),(22,(.slice zih z3D.length zii)),(23,(.int .i64 ((z3D.length : Nat) : Int))),(24,(.bool (decide (((z3D.length : Nat) : Int) = 0)))),(25,(.bool (decide (((z3D.length : Nat) : Int) = 0)))),(32,(.bool zvW))] (y29 11 [10,9,8,7,6,5,4,3,2,1,0]) ?_ (fun zEr=>?_)
    rotate_left
    ·rcases Bool.eq_false_or_eq_true (decide (((z3D.length : Nat) : Int) = 0)) with hb' | hb'
     ·have zw3:=hb'; clear hb'
      have zw4:=yn zEq zw3
      replace zw4:=Option.some.inj zw4
      refine WD.pin (i:=25) rfl zw3 ?_
      refine WD.kA 4 26 rfl ?_
      refine WD.kA 5 27 rfl ?_
      refine WD.kA 6 28 rfl ?_
      refine WD.kA 7 29 rfl ?_
      refine WD.kA 8 30 rfl ?_
      refine WD.kA 9 31 rfl ?_
      refine WD.pA 10 32 rfl (fun _=>y2y rfl rfl) ?_
      refine WD.reL (.cons .here (.cons .here (.cons .here (.cons .here (.cons .here (.cons .here (.cons .here (.cons .here (.cons .here .nil))))))))) ?_ zEr
      exact (.cons rfl (.cons rfl (.cons rfl (.cons rfl (.cons rfl (.cons rfl (.cons rfl (.cons rfl (.cons rfl (.cons rfl (.cons rfl (.cons rfl (.cons rfl (.cons rfl (.cons (zx (Eq.symm zw3)) (.cons (zx zw4) .nil))))))))))))))))
     ·have zw5:=hb'; clear hb'
      have zfA:=yo zEq zw5
      obtain ⟨zlz,zfA⟩:=yq zfA
      obtain ⟨zEo,zQX,zfA⟩:=z7 zfA
      replace zfA:=Option.some.inj zfA
      refine WD.pin (i:=25) rfl zw5 ?_
      refine WD.qA 4 26 rfl (yg zd rfl (yh .here) rfl) ?_
      refine WD.qA 5 27 rfl (yc z7I rfl (yk .h5 rfl)) ?_
      refine WD.know (fun w hw=>Hp.y2H .h6 hw (by intro hz'; have:=zlz; rw [hz'] at this; omega)) ?_
      rintro ⟨zZM,rfl⟩
      refine WD.pA 6 28 rfl (fun _=>yY z20 rfl rfl zlz.1 zlz.2 y3z) ?_
      refine WD.qA 7 29 rfl (yQ (cs:=(yw (nth z3D 0))) zd rfl rfl (y3d .h6 (y2Q (enc:=yw) (l:=z3D) (i:=0) (sz:=2) (fun _=>rfl) zlz.1 zlz.2))) ?_
      refine WD.eA 8 30 rfl (za (l:=[.tmp 26,.tmp 29]) Tryz.call79 (.cons rfl (.cons rfl .nil))) (ccz hz .nil .h4 fun w pz ho=>y3w _ _ _ _ zQX w pz ) ?_
      refine WD.pA 9 31 rfl (fun _=>yaG rfl rfl) ?_
      refine WD.pA 10 32 rfl (fun _=>y2z rfl rfl) ?_
      refine WD.reL (.cons .here (.cons .here (.cons .here (.cons .here (.cons .here (.cons .here (.cons .here (.cons .here (.cons .here .nil))))))))) ?_ zEr
      exact (.cons rfl (.cons rfl (.cons rfl (.cons rfl (.cons rfl (.cons rfl (.cons rfl (.cons rfl (.cons rfl (.cons rfl (.cons rfl (.cons rfl (.cons rfl (.cons rfl (.cons (zx (Eq.symm zw5)) (.cons (zx zfA) .nil))))))))))))))))
    refine WD.done (by kernel_rfl) ?_
    refine WX.a ?_
    refine WC.cond rfl (fun zw6=>?_) (fun zw6=>?_)
    ·replace z6K:=yn z6K zw6
     refine WC.a ?_
     refine WL.qA 33 (yg zd rfl (yh .here) rfl) ?_
     refine WL.nA 34 (yS (cs:=([z6J.1] : List z1).flatMap yw) z20 (Eos.parts (l:=[.tmp 33]) (.cons rfl .nil) [0]) (fun _=>by kernel_rfl) rfl (by unfold maxLen; omega)) ?_
     intro zw7 _
     refine WL.ym rfl rfl (yl zpb rfl rfl rfl .h6 rfl rfl rfl) ?_
     refine WL.nil (WX.yj ?_)
     obtain ⟨rfl,rfl⟩:=y9a z6K
     exact WX.y6k zoo .h4 (fun w' hw'=>⟨((some ⟨zw7,0,none⟩),1),rfl,trivial,(hw'.selAll ((.cons .h6 (.cons .h1 (.cons .h1 (.cons .h2 (.cons .h4 (.cons .h4 (.cons .here .nil))))))) : Sel _ [fz [],stb z37 175 [(.slice (some ⟨zw7,0,none⟩) (([z6J.1] : List z1).length) 1)],row (.slice (some ⟨zw7,0,none⟩) (([z6J.1] : List z1).length) 1) 132 2 (([z6J.1] : List z1).flatMap yw),stb z2Q 225 [(.int .i64 z6J.2.fE)],stb z3E 132 [(.int .i64 0),(.int .i64 0)],stb z3r 177 [(.slice z1p z18.length z1q),(.int .i64 zn.fRate.fN),(.int .i64 zn.fRate.fD),(.int .i64 zn.fL.fN),(.int .i64 zn.fL.fD),(.func (.func 78) #[] #[(.pointer (some z1h)),(.pointer (some z1i))]),(.slice z1r z19.length z1s)],blk z3Y (z4T .ready none)] _)).sub (.cons .here .nil)⟩)
    ·replace z6K:=yo z6K zw6
     refine WC.skip (WX.yj ?_)
     obtain ⟨rfl,rfl⟩:=y9a z6K
     exact WX.y6k zoo .h2 (fun w' hw'=>⟨(zih,zii),rfl,trivial,(hw'.selAll ((.cons .h4 (.cons .h4 (.cons .h4 (.cons .h2 (.cons .h3 (.cons .h3 (.cons .here .nil))))))) : Sel _ [fz [],stb z37 175 [(.slice zih z3D.length zii)],row (.slice zih z3D.length zii) 132 2 (z3D.flatMap yw),stb z2Q 225 [(.int .i64 z6J.2.fE)],stb z3E 132 [(.int .i64 0),(.int .i64 0)],stb z3r 177 [(.slice z1p z18.length z1q),(.int .i64 zn.fRate.fN),(.int .i64 zn.fRate.fD),(.int .i64 zn.fL.fN),(.int .i64 zn.fL.fD),(.func (.func 78) #[] #[(.pointer (some z1h)),(.pointer (some z1i))]),(.slice z1r z19.length z1s)],blk z3Y (z4T .ready none)] _)).sub (.cons .here .nil)⟩)
   ·skip
    rintro _ w' ⟨zQY,⟨zlA,zlB⟩,rfl,_,hp⟩
    have hp1:=hw1.call ((.cons .here .nil) : Sel [y1G [fz [],stb z37 175 [(.slice none (([] : List z1).length) 0)],row (.slice none (([] : List z1).length) 0) 132 2 (([] : List z1).flatMap yw),stb z2Q 225 [(.int .i64 0)],stb z3E 132 [(.int .i64 0),(.int .i64 0)],stb z3r 177 [(.slice z1p z18.length z1q),(.int .i64 zn.fRate.fN),(.int .i64 zn.fRate.fD),(.int .i64 zn.fL.fN),(.int .i64 zn.fL.fD),(.func (.func 78) #[] #[(.pointer (some z1h)),(.pointer (some z1i))]),(.slice z1r z19.length z1s)],blk z3Y (z4T .ready none)],dfr z6c,stb z4j 177 [(.slice z1p z18.length z1q),(.int .i64 zz.1),(.int .i64 zz.2.1),(.int .i64 zz.2.2.1),(.int .i64 zz.2.2.2),(.func (.func 78) #[] #[(.pointer (some z1h)),(.pointer (some z1i))]),(.slice z1r z19.length z1s)],fz ([] ++ z5O)] [y1G [fz [],stb z37 175 [(.slice none (([] : List z1).length) 0)],row (.slice none (([] : List z1).length) 0) 132 2 (([] : List z1).flatMap yw),stb z2Q 225 [(.int .i64 0)],stb z3E 132 [(.int .i64 0),(.int .i64 0)],stb z3r 177 [(.slice z1p z18.length z1q),(.int .i64 zn.fRate.fN),(.int .i64 zn.fRate.fD),(.int .i64 zn.fL.fN),(.int .i64 zn.fL.fD),(.func (.func 78) #[] #[(.pointer (some z1h)),(.pointer (some z1i))]),(.slice z1r z19.length z1s)],blk z3Y (z4T .ready none)]] [dfr z6c,stb z4j 177 [(.slice z1p z18.length z1q),(.int .i64 zz.1),(.int .i64 zz.2.1),(.int .i64 zz.2.2.1),(.int .i64 zz.2.2.2),(.func (.func 78) #[] #[(.pointer (some z1h)),(.pointer (some z1i))]),(.slice z1r z19.length z1s)],fz ([] ++ z5O)]) hp
    have hp2 : Hp _ _ w' [fz [],stb z37 175 [(.slice zlA z3X.2.1.length zlB)],row (.slice zlA z3X.2.1.length zlB) 132 2 (z3X.2.1.flatMap yw),stb z2Q 225 [(.int .i64 z3X.2.2)],stb z3E 132 [(.int .i64 0),(.int .i64 0)],stb z3r 177 [(.slice z1p z18.length z1q),(.int .i64 zn.fRate.fN),(.int .i64 zn.fRate.fD),(.int .i64 zn.fL.fN),(.int .i64 zn.fL.fD),(.func (.func 78) #[] #[(.pointer (some z1h)),(.pointer (some z1i))]),(.slice z1r z19.length z1s)],blk z3Y (z4T (rdy (pcs [] z3X.1)) (pcs [] z3X.1)),fz zQY,dfr z6c,stb z4j 177 [(.slice z1p z18.length z1q),(.int .i64 zz.1),(.int .i64 zz.2.1),(.int .i64 zz.2.2.1),(.int .i64 zz.2.2.2),(.func (.func 78) #[] #[(.pointer (some z1h)),(.pointer (some z1i))]),(.slice z1r z19.length z1s)],fz ([] ++ z5O)]:=hp1.pickAll .h1
    refine ⟨_,pcs [] z3X.1,_,rfl,(hp2.sub ((.cons .h6 (.cons .here (.cons .here (.cons .here (.cons .here (.cons .here (.cons .here (.cons .h1 (.cons .h1 (.cons .h1 .nil)))))))))) : Sel _ [blk z3Y (z4T (rdy (pcs [] z3X.1)) (pcs [] z3X.1)),fz [],stb z37 175 [(.slice zlA z3X.2.1.length zlB)],row (.slice zlA z3X.2.1.length zlB) 132 2 (z3X.2.1.flatMap yw),stb z2Q 225 [(.int .i64 z3X.2.2)],stb z3E 132 [(.int .i64 0),(.int .i64 0)],stb z3r 177 [(.slice z1p z18.length z1q),(.int .i64 zn.fRate.fN),(.int .i64 zn.fRate.fD),(.int .i64 zn.fL.fN),(.int .i64 zn.fL.fD),(.func (.func 78) #[] #[(.pointer (some z1h)),(.pointer (some z1i))]),(.slice z1r z19.length z1s)],dfr z6c,stb z4j 177 [(.slice z1p z18.length z1q),(.int .i64 zz.1),(.int .i64 zz.2.1),(.int .i64 zz.2.2.1),(.int .i64 zz.2.2.2),(.func (.func 78) #[] #[(.pointer (some z1h)),(.pointer (some z1i))]),(.slice z1r z19.length z1s)],fz ([] ++ z5O)] _)),?_⟩
    clear hp hp1 hp2 pz hw hw1
    refine wjN ?_
    letI : Rnd:=aft z6c
    refine WX.merge .here .h7 ?_
    refine WX.yj ?_
    exact WX.midR (D:=fun (g : Nat × Int × List z1 × Zp × Option Addr × Nat)=>g.1) (G:=Nat × Int × List z1 × Zp × Option Addr × Nat) ⟨z6c,z3X.2.2,z3X.2.1,(([] ++ z5O) ++ []),zlA,zlB⟩ ⟨h,((Zle.left _ _).trans (Zle.yu _ _ _))⟩ (.cons rfl (.cons rfl (.cons rfl .nil))) (.cons .here (.cons .h3 (.cons .h2 (.cons .here (.cons .here (.cons .h1 .nil))))))
  ·rintro zlw z8Z z6b zfz zlx zly ⟨h,zZN⟩
   replace h:=(zQM z8Z z6b).symm.trans h
   letI : Rnd:=aft zlw
   refine WC.b (WC.b (WC.a ?_))
   refine WL.qA 35 (ya y3W rfl rfl) ?_
   refine WL.qA 36 (yc y2E rfl (yk .h2 rfl)) ?_
   refine WL.pu rfl (WL.nil (WX.a ?_))
   refine WC.cond rfl (fun zw8=>?_) (fun zw8=>?_)
   ·replace h:=yn h zw8
    refine WC.b ?_
    refine WC.yL (fun i=>[3].contains i) [y6D z2Q 225 [(0,(.int .i64 z8Z))]] rfl ?_
    refine WD.pA 0 38 rfl (fun _=>yI (v:=(.agg #[(.int .i64 0),(.int .i64 0)])) (Eos.parts (l:=[]) .nil []) (fun _=>by kernel_rfl)) ?_
    refine WD.pA 1 39 rfl (fun _=>ya y3W rfl rfl) ?_
    refine WD.sA 2 40 rfl (Sin.wk (.cons .h2 .nil) (.stb (.cons rfl .nil) .nil)) (yc y2E rfl (y4g .here (.head _))) ?_
    refine WD.forced0 (i:=3) rfl (by kernel_rfl) rfl rfl rfl (Sin.wk (.cons .h2 .nil) (.stb (.cons rfl .nil) .nil)) (yl zu rfl rfl rfl .h1 rfl rfl rfl) ?_
    refine WD.pA 4 3 rfl (fun _=>q_z rfl) ?_
    refine WD.done (by kernel_rfl) ?_
    refine WX.a (WC.ret (WX.yd ?_))
    obtain rfl:=Option.some.inj h
    refine WX.y71 .h5 Tryz.results77 (.agg rfl zd rfl (yh .h1) (.tmp rfl .nil)) (fun w hw=>?_)
    exact ⟨zfz,y1z rfl rfl,trivial,hw.sub (.cons .h2 .nil)⟩
   ·replace h:=yo h zw8
    refine WC.skip (WX.a (WC.b ?_))
    obtain ⟨zlC,h⟩:=yq h
    refine WC.a ?_
    refine WL.qA 41 (yc z7I rfl (yk .h3 rfl)) ?_
    refine WL.know (fun w hw=>Hp.y2H .h4 hw (by intro hz'; have:=zlC; rw [hz'] at this; omega)) ?_
    rintro ⟨zZO,rfl⟩
    refine WL.qA 42 (yY z20 rfl rfl zlC.1 zlC.2 y3z) ?_
    refine WL.qA 43 (yQ (cs:=(yw (nth z6b 0))) zd rfl rfl (y3d .h4 (y2Q (enc:=yw) (l:=z6b) (i:=0) (sz:=2) (fun _=>rfl) zlC.1 zlC.2))) ?_
    refine WL.ym rfl rfl (yl zu rfl rfl rfl .h1 rfl rfl rfl) ?_
    refine WL.pu rfl (WL.nil (WX.a (WC.ret ?_)))
    obtain rfl:=Option.some.inj h
    refine WX.y71 .h5 Tryz.results77 (.agg rfl zd rfl (yh .h1) (.tmp rfl .nil)) (fun w hw=>?_)
    exact ⟨zfz,y1z rfl rfl,trivial,hw.sub (.cons .h2 .nil)⟩
def y6f (zb8 : List (List z6)) (z2b : zSv) : Option (z1 × Int) :=
 (y54 zb8 z2b zb8 z2b ([z2b.fL] : List z1)).bind fun zw9=>some (zw9.1,zw9.2)
set_option maxRecDepth 20000 in
theorem yaC (Z : Zp) (zlD : Option Addr) (zlE : Nat) (zb8 : List (List z6)) (z2b : zSv) (r : z1 × Int)
  (h : y6f zb8 z2b = some r) (w₀ : World) (hz : PZ [] w₀ Z)
  (zEs : ZS Z 1 (y1v Z) zlD zlE zb8) :
  Calls Tryz.prog 45 #[(.slice zlD zb8.length zlE),(.agg #[(.int .i64 z2b.fRate.fN),(.int .i64 z2b.fRate.fD),(.int .i64 z2b.fL.fN),(.int .i64 z2b.fL.fD)])] w₀ fun e w'=>∃ Zn : Zp,e = .returned (.tuple #[(.agg #[(.int .i64 r.1.fN),(.int .i64 r.1.fD)]),(.int .i64 r.2)]) ∧ True ∧ Hp [] w₀ w' [fz Zn]:=by
 unfold y6f at h
 refine Calls.yJ Tryz.func45 Tryz.ntmps45 ?_
 refine WC.pool (WC.b (WC.a ?_))
 refine WL.nA 2 (yH (cs:=[(.slice zlD zb8.length zlE)]) rfl rfl) ?_
 intro zQZ _
 refine WL.nA 3 (yH (cs:=[(.int .i64 z2b.fRate.fN),(.int .i64 z2b.fRate.fD),(.int .i64 z2b.fL.fN),(.int .i64 z2b.fL.fD)]) rfl rfl) ?_
 intro zR0 _
 refine WL.nA 4 (yv (cs:=[(.int .i64 0),(.int .i64 0)]) zP rfl) ?_
 intro zZP _
 refine WL.pu rfl (WL.nil (WX.a (WC.b (WC.a ?_))))
 refine WL.qA 7 (yc z6V rfl (yk .h2 rfl)) ?_
 refine WL.qA 8 (yg zfQ rfl (yh .h1) rfl) ?_
 refine WL.qA 9 (ya y7J rfl rfl) ?_
 refine WL.qA 10 (yQ (cs:=[(.int .i64 z2b.fL.fN),(.int .i64 z2b.fL.fD)]) zd rfl rfl (y2G (s:=2) .h1 rfl)) ?_
 refine WL.nA 11 (yS (cs:=([z2b.fL] : List z1).flatMap yw) z20 (Eos.parts (l:=[.tmp 10]) (.cons rfl .nil) [0]) (fun _=>by kernel_rfl) rfl (by unfold maxLen; omega)) ?_
 intro zEt _
 refine WL.qA 12 (yI (v:=(.agg #[(.slice zlD zb8.length zlE),(.int .i64 z2b.fRate.fN),(.int .i64 z2b.fRate.fD),(.int .i64 z2b.fL.fN),(.int .i64 z2b.fL.fD),.nilFunc,(.slice (some ⟨zEt,0,none⟩) (([z2b.fL] : List z1).length) 1)])) (Eos.parts (l:=[.tmp 7,.tmp 8,.tmp 11]) (.cons rfl (.cons rfl (.cons rfl .nil))) [0,1,3]) (fun _=>by kernel_rfl)) ?_
 refine WL.nA 6 (yv (cs:=[(.slice none 0 0),(.int .i64 0),(.int .i64 0),(.int .i64 0),(.int .i64 0),.nilFunc,(.slice none 0 0)]) zy4 rfl) ?_
 intro zZQ _
 refine WL.ym rfl rfl (yl zy5 rfl rfl rfl .here rfl rfl rfl) ?_
 refine WL.nil (WX.a (WC.b (WC.a ?_)))
 refine WL.qA 13 (yX (Eos.caps (l:=[.tmp 2,.tmp 3]) (.cons rfl (.cons rfl .nil)))) ?_
 refine WL.qA 14 (ya y9C rfl rfl) ?_
 refine WL.ym rfl rfl (y5u (ds:=[(.slice zlD zb8.length zlE),(.int .i64 z2b.fRate.fN),(.int .i64 z2b.fRate.fD),(.int .i64 z2b.fL.fN),(.int .i64 z2b.fL.fD),(.func (.func 78) #[] #[(.pointer (some ⟨zQZ,0,none⟩)),(.pointer (some ⟨zR0,0,none⟩))]),(.slice (some ⟨zEt,0,none⟩) (([z2b.fL] : List z1).length) 1)]) zy6 rfl rfl rfl rfl rfl .here rfl rfl) ?_
 refine WL.nil (WX.a (WC.b ?_))
 obtain ⟨zw9,zR1,h⟩:=z7 h
 refine WC.a ?_
 refine WL.qA 15 (yg zfR rfl (yh .here) rfl) ?_
 refine WL.freezeC (Z:=Z) .h4 .h4 ?_
 intro zZR zop zR2
 refine WL.freezeC (Z:=Z) .h4 .here ?_
 intro zZS zlF zR3
 refine WL.freezeS (ls:=([z2b.fL] : List z1)) .h2 .here hz (RR.flat (enc:=yw) (fun _=>rfl) _) ?_
 intro zR4 zij zR5
 refine WL.y3I (dd:=16) rfl rfl rfl (za (l:=[.tmp 15]) Tryz.call77 (.cons rfl .nil)) .nil (ccz hz .nil .here fun w pz ho=>y92 _ _ _ _ _ _ _ _ _ _ _ _ _ _ _ zR1 w pz ((zEs.mono ((Zle.left _ _).trans (zop.trans (zlF.trans zij)))).weak (fun _ _ h=>yT ((Zle.left _ _).trans (zop.trans (zlF.trans zij))) h)) ((zEs.mono ((Zle.left _ _).trans (zop.trans (zlF.trans zij)))).weak (fun _ _ h=>yT ((Zle.left _ _).trans (zop.trans (zlF.trans zij))) h)) (zR2.mono (zlF.trans zij)) (zR3.mono zij) zR5) ?_
 rintro zR6 _
 refine WL.merge .here .here ?_
 refine WL.pu rfl (WL.pu rfl ?_)
 refine WL.ym rfl rfl (yl zu rfl rfl rfl .h2 rfl rfl rfl) ?_
 refine WL.pu rfl (WL.nil (WX.a (WC.ret ?_)))
 obtain rfl:=Option.some.inj h
 refine WX.ye Tryz.results45 (.agg rfl zd rfl (yh .here) (.tmp rfl .nil)) (fun w hw=>?_)
 exact ⟨(zR4 ++ zR6),y1z rfl rfl,trivial,hw.sub (.cons .h1 .nil)⟩
def y3t (z1B : z1 × Int) (z1C : z1 × Int) (zb9 : Int → Option (Sapi_PortBound × Int × (List (Sbound_flow × z1)) × (List (Sbound_place × Int)))) : Nat → Int → Int → Option (Sapi_PortBound × Int × (List (Sbound_flow × z1)) × (List (Sbound_place × Int)))
 | 0,_,_=>none
 | zwa + 1,z3F,z5P=>if decide (z3F < ((([z1B.2,z1C.2] : List Int).length : Nat) : Int)) then jp1 (fun (zba : Int)=>y3t z1B z1C zb9 zwa (i64 (z3F + 1)) zba) fun zoq=>chk ((0 : Int) ≤ z3F ∧ z3F < ((([z1B.2,z1C.2] : List Int).length : Nat) : Int)) (jp1 (fun (z90 : Int)=>if decide (z5P = 0) then zoq z90 else zoq z5P) fun zor=>if decide ((nth ([z1B.2,z1C.2] : List Int) z3F) = 6) then zor 352 else zor (nth ([z1B.2,z1C.2] : List Int) z3F)) else zb9 z5P
theorem y8j {n : Nat} {z1B : z1 × Int} {z1C : z1 × Int} {zb9 : Int → Option (Sapi_PortBound × Int × (List (Sbound_flow × z1)) × (List (Sbound_place × Int)))} {z3F : Int} {z5P : Int} {r : Sapi_PortBound × Int × (List (Sbound_flow × z1)) × (List (Sbound_place × Int))} (h : y3t z1B z1C zb9 n z3F z5P = some r) : ∃ m,n = m + 1:=by
 cases n with
 | zero=>cases h
 | succ m=>exact ⟨m,rfl⟩
def y6K (zh : Sapi_Config) (z5Q : List (List Sapi_Hop)) (zfB : List (Sbound_flow × z1)) (z5R : List (Sbound_place × Int)) (zfC : Int) (z1u : Sbound_place) : Option (Sapi_PortBound × Int × (List (Sbound_flow × z1)) × (List (Sbound_place × Int))) :=
 (y5R zh z5Q zfB z5R zfC z1u).bind fun z3s=>jp2 (fun (z7m : List (List z6)) (zdw : Int)=>chk ((0 : Int) ≤ z1u.fLink ∧ z1u.fLink < ((zh.fLinks.length : Nat) : Int)) ((y36 zdw).bind fun zlG=>(y6X z7m (⟨(⟨1,((nth zh.fLinks z1u.fLink).fSlow)⟩ : z1),zlG⟩ : zSv)).bind fun z1B=>(y6f z7m (⟨(⟨1,((nth zh.fLinks z1u.fLink).fSlow)⟩ : z1),zlG⟩ : zSv)).bind fun z1C=>jp1 (fun (zdx : Int)=>(y3H z1B.1).bind fun zlH=>(y3H z1C.1).bind fun zwb=>some ((⟨z1u.fNode,z1u.fLink,(yp (yG z5R z1u zlH) z1u 0),i64 (zwb + z3s.2.1)⟩ : Sapi_PortBound),zdx,z3s.2.2.2,(yG z5R z1u zlH))) fun zb9=>y3t z1B z1C zb9 yB 0 z3s.2.2.1)) fun zos=>if decide ((i64 (z1u.fNode - ((zh.fModules.length : Nat) : Int))) ≥ 0) then chk ((0 : Int) ≤ (i64 (z1u.fNode - ((zh.fModules.length : Nat) : Int))) ∧ (i64 (z1u.fNode - ((zh.fModules.length : Nat) : Int))) < ((zh.fSwitches.length : Nat) : Int)) (zos z3s.1 ((nth zh.fSwitches (i64 (z1u.fNode - ((zh.fModules.length : Nat) : Int)))).fDelay)) else zos z3s.1 0
set_option maxRecDepth 20000 in
theorem yaT (Z : Zp) (z5p : Nat) (z7n : Option Addr) (z7o : Nat) (z7p : Option Addr) (z7q : Nat) (z7r : Option Addr) (z7s : Nat) (z7t : Option Addr) (z7u : Nat) (z7v : Option Addr) (z7w : Nat) (z7x : Option Addr) (z7y : Nat) (z7z : Option Addr) (z7A : Nat) (z7B : Option Addr) (z7C : Nat) (z7D : Option Addr) (z7E : Nat) (z3t : Nat) (z3u : Nat) (zh : Sapi_Config) (z5Q : List (List Sapi_Hop)) (zfB : List (Sbound_flow × z1)) (z5R : List (Sbound_place × Int)) (zfC : Int) (z1u : Sbound_place) (r : Sapi_PortBound × Int × (List (Sbound_flow × z1)) × (List (Sbound_place × Int)))
  (h : y6K zh z5Q zfB z5R zfC z1u = some r) (w₀ : World) (hz : PZ (fps [stb z5p 95 [(.slice z7n zh.fModules.length z7o),(.slice z7p zh.fChannels.length z7q),(.slice z7r zh.fSwitches.length z7s),(.slice z7t zh.fLinks.length z7u),(.slice z7v zh.fVLs.length z7w),(.slice z7x zh.fHealth.length z7y),(.slice z7z zh.fCauses.length z7A),(.slice z7B zh.fVersions.length z7C),(.slice z7D z5Q.length z7E),(.map (some z3t)),(.map (some z3u)),(.int .i64 zfC)],yr z3t (fun x=>Value.agg (y1M x).toArray) (fun x=>Value.agg (yw x).toArray) zfB,yr z3u (fun x=>Value.agg (e97 x).toArray) (Value.int .i64) z5R]) w₀ Z)
  (zR7 : ZS Z 4 (y3y Z) z7n z7o zh.fModules)
  (zR8 : ZS Z 4 (y49 Z) z7p z7q zh.fChannels)
  (zEu : ZS Z 4 (fun r x=>r = e66 x) z7r z7s zh.fSwitches)
  (zEv : ZS Z 4 (fun r x=>r = e64 x) z7t z7u zh.fLinks)
  (zR9 : ZS Z 7 (p46 Z) z7v z7w zh.fVLs)
  (zRa : ZS Z 5 (fun r x=>r = y4m x) z7x z7y zh.fHealth)
  (zRb : ZS Z 3 (y4a Z) z7z z7A zh.fCauses)
  (zRc : ZS Z 4 (fun r x=>r = y4n x) z7B z7C zh.fVersions)
  (zRd : ZS Z 1 (p48 Z) z7D z7E z5Q)
  (hown : Hp (fps [stb z5p 95 [(.slice z7n zh.fModules.length z7o),(.slice z7p zh.fChannels.length z7q),(.slice z7r zh.fSwitches.length z7s),(.slice z7t zh.fLinks.length z7u),(.slice z7v zh.fVLs.length z7w),(.slice z7x zh.fHealth.length z7y),(.slice z7z zh.fCauses.length z7A),(.slice z7B zh.fVersions.length z7C),(.slice z7D z5Q.length z7E),(.map (some z3t)),(.map (some z3u)),(.int .i64 zfC)],yr z3t (fun x=>Value.agg (y1M x).toArray) (fun x=>Value.agg (yw x).toArray) zfB,yr z3u (fun x=>Value.agg (e97 x).toArray) (Value.int .i64) z5R]) w₀ w₀ [stb z5p 95 [(.slice z7n zh.fModules.length z7o),(.slice z7p zh.fChannels.length z7q),(.slice z7r zh.fSwitches.length z7s),(.slice z7t zh.fLinks.length z7u),(.slice z7v zh.fVLs.length z7w),(.slice z7x zh.fHealth.length z7y),(.slice z7z zh.fCauses.length z7A),(.slice z7B zh.fVersions.length z7C),(.slice z7D z5Q.length z7E),(.map (some z3t)),(.map (some z3u)),(.int .i64 zfC)],yr z3t (fun x=>Value.agg (y1M x).toArray) (fun x=>Value.agg (yw x).toArray) zfB,yr z3u (fun x=>Value.agg (e97 x).toArray) (Value.int .i64) z5R]) :
  Calls Tryz.prog 22 #[(.pointer (some ⟨z5p,0,none⟩)),(.agg #[(.int .i64 z1u.fNode),(.int .i64 z1u.fLink)])] w₀ fun e w'=>∃ Zn : Zp,e = .returned (.agg #[(.int .i64 r.1.fNode),(.int .i64 r.1.fLink),(.int .i64 r.1.fDelay),(.int .i64 r.1.fStore)]) ∧ True ∧ Hp (fps [stb z5p 95 [(.slice z7n zh.fModules.length z7o),(.slice z7p zh.fChannels.length z7q),(.slice z7r zh.fSwitches.length z7s),(.slice z7t zh.fLinks.length z7u),(.slice z7v zh.fVLs.length z7w),(.slice z7x zh.fHealth.length z7y),(.slice z7z zh.fCauses.length z7A),(.slice z7B zh.fVersions.length z7C),(.slice z7D z5Q.length z7E),(.map (some z3t)),(.map (some z3u)),(.int .i64 zfC)],yr z3t (fun x=>Value.agg (y1M x).toArray) (fun x=>Value.agg (yw x).toArray) zfB,yr z3u (fun x=>Value.agg (e97 x).toArray) (Value.int .i64) z5R]) w₀ w' [fz Zn,stb z5p 95 [(.slice z7n zh.fModules.length z7o),(.slice z7p zh.fChannels.length z7q),(.slice z7r zh.fSwitches.length z7s),(.slice z7t zh.fLinks.length z7u),(.slice z7v zh.fVLs.length z7w),(.slice z7x zh.fHealth.length z7y),(.slice z7z zh.fCauses.length z7A),(.slice z7B zh.fVersions.length z7C),(.slice z7D z5Q.length z7E),(.map (some z3t)),(.map (some z3u)),(.int .i64 r.2.1)],yr z3t (fun x=>Value.agg (y1M x).toArray) (fun x=>Value.agg (yw x).toArray) r.2.2.1,yr z3u (fun x=>Value.agg (e97 x).toArray) (Value.int .i64) r.2.2.2]:=by
 unfold y6K at h
 refine Calls.oh2 Tryz.func22 Tryz.ntmps22 hown ?_
 refine WC.pool (WC.b (WC.a ?_))
 refine WL.nA 3 (yH (cs:=[(.int .i64 z1u.fNode),(.int .i64 z1u.fLink)]) rfl rfl) ?_
 intro z91 _
 refine WL.nA 4 (yv (cs:=[(.int .i64 0),(.int .i64 0),(.int .i64 0),(.int .i64 0)]) ycE rfl) ?_
 intro z92 _
 refine WL.nil (WX.a (WC.b ?_))
 obtain ⟨z3s,zRe,h⟩:=z7 h
 refine WC.a (WL.pu rfl ?_)
 refine WL.qA 18 (yg y3f rfl (yh .h1) rfl) ?_
 refine WL.ydM (dd:=19) rfl rfl rfl (za (l:=[.tmp 17,.tmp 18]) Tryz.call42 (.cons rfl (.cons rfl .nil))) (.cons .h3 (.cons .h3 (.cons .h3 .nil))) (ccz hz (.cons .h3 (.cons .h3 (.cons .h3 .nil))) .h2 fun w pz ho=>ya7 _ _ _ _ _ _ _ _ _ _ _ _ _ _ _ _ _ _ _ _ _ _ _ _ _ _ _ _ _ zRe w pz ((zR7.mono (Zle.left _ _)).weak (fun _ _ h=>y1d (Zle.left _ _) h)) ((zR8.mono (Zle.left _ _)).weak (fun _ _ h=>y1m (Zle.left _ _) h)) (zEu.mono (Zle.left _ _)) (zEv.mono (Zle.left _ _)) ((zR9.mono (Zle.left _ _)).weak (fun _ _ h=>y16 (Zle.left _ _) h)) (zRa.mono (Zle.left _ _)) ((zRb.mono (Zle.left _ _)).weak (fun _ _ h=>y1n (Zle.left _ _) h)) (zRc.mono (Zle.left _ _)) ((zRd.mono (Zle.left _ _)).weak (fun _ _ h=>y1i (Zle.left _ _) h)) ho) ?_
 rintro zot zEw zEx zEy zEz
 refine WL.merge .here .h6 ?_
 refine WL.pu rfl (WL.pu rfl (WL.pu rfl (WL.pu rfl (WL.pu rfl (WL.nil (WX.a (WC.b (WC.a (WL.pu rfl (WL.nil (WX.a ?_)))))))))))
 obtain ⟨zos,zRf,h⟩:=y3D h
 refine WC.y1x (fun (z7m : List (List z6)) (zdw : Int) (zlI : List Value)=>(zos z7m zdw = some r) ∧ (RR 1 (y1v (Z ++ ([] ++ zot))) zlI z7m)) (fun z7m zdw zlI=>[(0,(.pointer (some ⟨z5p,0,none⟩))),(3,(.pointer (some ⟨z91,0,none⟩))),(4,(.pointer (some ⟨z92,0,none⟩))),(5,(.slice zEw z7m.length zEx)),(6,(.int .i64 z3s.2.1)),(7,(.int .i64 zdw))]) (fun z7m zdw zlI=>[fz ([] ++ zot),row (.slice zEw z7m.length zEx) 173 1 zlI,stb z5p 95 [(.slice z7n zh.fModules.length z7o),(.slice z7p zh.fChannels.length z7q),(.slice z7r zh.fSwitches.length z7s),(.slice z7t zh.fLinks.length z7u),(.slice z7v zh.fVLs.length z7w),(.slice z7x zh.fHealth.length z7y),(.slice z7z zh.fCauses.length z7A),(.slice z7B zh.fVersions.length z7C),(.slice z7D z5Q.length z7E),(.map (some z3t)),(.map (some z3u)),(.int .i64 z3s.2.2.1)],stb z91 97 [(.int .i64 z1u.fNode),(.int .i64 z1u.fLink)],stb z92 58 [(.int .i64 0),(.int .i64 0),(.int .i64 0),(.int .i64 0)],yr z3t (fun x=>Value.agg (y1M x).toArray) (fun x=>Value.agg (yw x).toArray) z3s.2.2.2,yr z3u (fun x=>Value.agg (e97 x).toArray) (Value.int .i64) z5R]) ?_ ?_
 ·skip
  refine WC.b ?_
  refine WC.yL (fun i=>[].contains i) [] rfl ?_
  refine WD.pA 0 22 rfl (fun _=>ya y8p rfl rfl) ?_
  refine WD.qA 1 23 rfl (yc yt rfl (yk .h6 rfl)) ?_
  refine WD.pA 2 24 rfl (fun _=>q_m rfl) ?_
  refine WD.pA 3 25 rfl (fun _=>yV rfl) ?_
  refine WD.pA 4 26 rfl (fun _=>ya y5M rfl rfl) ?_
  refine WD.pA 5 27 rfl (fun _=>ya y6l rfl rfl) ?_
  refine WD.qA 6 28 rfl (yc y6m rfl (yk .h2 rfl)) ?_
  refine WD.pA 7 29 rfl (fun _=>yE Tryz.underlying22 rfl) ?_
  refine WD.pA 8 30 rfl (fun _=>ybj rfl rfl rfl) ?_
  refine WD.pA 9 8 rfl (fun _=>q_z rfl) ?_
  refine WD.done (by kernel_rfl) ?_
  refine WX.a (WC.b (WC.a (WL.pu rfl (WL.pu rfl (WL.nil (WX.a ?_))))))
  refine WC.cond rfl (fun zwc=>?_) (fun zwc=>?_)
  ·replace h:=yn h zwc
   obtain ⟨zRg,h⟩:=yq h
   refine WC.a (WL.pu rfl ?_)
   refine WL.qA 34 (yV rfl) ?_
   refine WL.qA 35 (ya y5M rfl rfl) ?_
   refine WL.qA 36 (ya y9c rfl rfl) ?_
   refine WL.qA 37 (yc y9d rfl (yk .h2 rfl)) ?_
   refine WL.pu rfl ?_
   refine WL.znth (dd:=39) rfl rfl (Z:=(Z ++ ([] ++ zot))) (Pr:=(fun r x=>r = e66 x)) ybq rfl rfl (zEu.mono ((Zle.left _ _).trans ((Zle.left _ _).trans (Zle.yu _ _ _)))) zRg ?_
   rintro zZT zZU zRh zZV rfl
   refine WL.qA 40 (ya ybJ rfl rfl) ?_
   refine WL.qA 41 (yc yt rfl (y11 (hz.pv2 .here) zRh rfl)) ?_
   refine WL.pu rfl (WL.nil ?_)
   exact WX.mid (G:=List (List z6) × Int × List Value) ⟨z3s.1,((nth zh.fSwitches (i64 (z1u.fNode - ((zh.fModules.length : Nat) : Int)))).fDelay),zEy⟩ ⟨h,(zEz.weak (fun _ _ h=>yT (Zle.yu _ _ _) h))⟩ (.cons rfl (.cons rfl (.cons rfl (.cons rfl (.cons rfl (.cons rfl .nil)))))) (.cons .here (.cons .here (.cons .here (.cons .h3 (.cons .h2 (.cons .here (.cons .here .nil)))))))
  ·replace h:=yo h zwc
   refine WC.skip ?_
   exact WX.mid (G:=List (List z6) × Int × List Value) ⟨z3s.1,0,zEy⟩ ⟨h,(zEz.weak (fun _ _ h=>yT (Zle.yu _ _ _) h))⟩ (.cons rfl (.cons rfl (.cons rfl (.cons rfl (.cons rfl (.cons rfl .nil)))))) (.cons .here (.cons .here (.cons .here (.cons .h3 (.cons .h2 (.cons .here (.cons .here .nil)))))))
 ·rintro z7m zdw zlI ⟨h,zRi⟩
  replace h:=(zRf z7m zdw).symm.trans h
  refine WC.b ?_
  obtain ⟨zRj,h⟩:=yq h
  obtain ⟨zlG,zRk,h⟩:=z7 h
  refine WC.yL (fun i=>[15].contains i) [] rfl ?_
  refine WD.pA 0 42 rfl (fun _=>q_m rfl) ?_
  refine WD.pA 1 43 rfl (fun _=>yV rfl) ?_
  refine WD.pA 2 44 rfl (fun _=>ya y5M rfl rfl) ?_
  refine WD.pA 3 45 rfl (fun _=>ya y8m rfl rfl) ?_
  refine WD.qA 4 46 rfl (yc y8n rfl (yk .h2 rfl)) ?_
  refine WD.pA 5 47 rfl (fun _=>ya y9e rfl rfl) ?_
  refine WD.qA 6 48 rfl (yc yt rfl (yk .h3 rfl)) ?_
  refine WD.znth (j:=7) (dd:=49) (by kernel_rfl) rfl z2E z2F rfl rfl (Z:=(Z ++ ([] ++ zot))) (Pr:=(fun r x=>r = e64 x)) ybo rfl rfl (zEv.mono ((Zle.left _ _).trans ((Zle.left _ _).trans (Zle.yu _ _ _)))) zRj ?_
  rintro zZW zZX zRl zZY rfl
  refine WD.pA 8 50 rfl (fun _=>ya yaL rfl rfl) ?_
  refine WD.qA 9 51 rfl (yc yt rfl (y11 (hz.pv2 .here) zRl rfl)) ?_
  refine WD.pA 10 52 rfl (fun _=>yI (v:=(.agg #[(.int .i64 1),(.int .i64 ((nth zh.fLinks z1u.fLink).fSlow))])) (Eos.parts (l:=[.const (.int .i64 1),.tmp 51]) (.cons rfl (.cons rfl .nil)) [0,1]) (fun _=>by kernel_rfl)) ?_
  refine WD.pA 11 53 rfl (fun _=>q_m rfl) ?_
  refine WD.eA 12 54 rfl (za (l:=[.tmp 53]) Tryz.call43 (.cons rfl .nil)) (ccz hz .nil .here fun w pz ho=>y3Y _ _ _ zRk w pz ) ?_
  refine WD.pA 13 55 rfl (fun _=>yI (v:=(.agg #[(.int .i64 1),(.int .i64 ((nth zh.fLinks z1u.fLink).fSlow)),(.int .i64 zlG.fN),(.int .i64 zlG.fD)])) (Eos.parts (l:=[.tmp 52,.tmp 54]) (.cons rfl (.cons rfl .nil)) [0,1]) (fun _=>by kernel_rfl)) ?_
  refine WD.new (i:=14) (dd:=9) rfl (by kernel_rfl) rfl rfl rfl (yv (cs:=[(.int .i64 0),(.int .i64 0),(.int .i64 0),(.int .i64 0)]) zFB rfl) (fun h'=>absurd h' (by decide)) ?_
  intro zZZ _
  refine WD.y2F (i:=15) rfl (by kernel_rfl) rfl rfl rfl (by kernel_rfl) (yl zFC rfl rfl rfl .here rfl rfl rfl) ?_
  refine WD.done (by kernel_rfl) ?_
  refine WX.a (WC.b ?_)
  obtain ⟨z1B,zRm,h⟩:=z7 h
  refine WC.a (WL.pu rfl ?_)
  refine WL.qA 58 (yg zfQ rfl (yh .here) rfl) ?_
  refine WL.freezeS (ls:=z7m) .h2 .h1 hz zRi ?_
  intro zlJ zRn zou
  replace zou:=zou.weak (fun _ _ h=>yT zRn h)
  refine WL.y3I (dd:=59) rfl rfl rfl (za (l:=[.tmp 57,.tmp 58]) Tryz.call44 (.cons rfl (.cons rfl .nil))) .nil (ccz hz .nil .here fun w pz ho=>ybf _ _ _ _ _ _ zRm w pz zou) ?_
  rintro zlK _
  refine WL.merge .here .here ?_
  refine WL.pu rfl (WL.pu rfl (WL.pu rfl ?_))
  refine WL.nA 10 (yv (cs:=[(.int .i64 0),(.int .i64 0)]) zP rfl) ?_
  intro zdy _
  refine WL.ym rfl rfl (yl zu rfl rfl rfl .here rfl rfl rfl) ?_
  refine WL.pu rfl (WL.nil (WX.a (WC.b ?_)))
  obtain ⟨z1C,zRo,h⟩:=z7 h
  refine WC.a (WL.pu rfl ?_)
  refine WL.qA 64 (yg zfQ rfl (yh .h2) rfl) ?_
  refine WL.y3I (dd:=65) rfl rfl rfl (za (l:=[.tmp 63,.tmp 64]) Tryz.call45 (.cons rfl (.cons rfl .nil))) .nil (ccz hz .nil .h1 fun w pz ho=>yaC _ _ _ _ _ _ zRo w pz ((zou.mono ((Zle.left _ _).trans (Zle.yu _ _ _))).weak (fun _ _ h=>yT ((Zle.left _ _).trans (Zle.yu _ _ _)) h))) ?_
  rintro zlL _
  refine WL.merge .here .h1 ?_
  refine WL.pu rfl (WL.pu rfl (WL.pu rfl ?_))
  refine WL.nA 12 (yv (cs:=[(.int .i64 0),(.int .i64 0)]) zP rfl) ?_
  intro zdz _
  refine WL.ym rfl rfl (yl zu rfl rfl rfl .here rfl rfl rfl) ?_
  refine WL.pu rfl (WL.nil (WX.a ?_))
  obtain ⟨zb9,zRp,h⟩:=yU h
  refine WC.y2P (fun (zdx : Int)=>(zb9 zdx = some r)) (fun zdx=>[(0,(.pointer (some ⟨z5p,0,none⟩))),(3,(.pointer (some ⟨z91,0,none⟩))),(4,(.pointer (some ⟨z92,0,none⟩))),(6,(.int .i64 z3s.2.1)),(10,(.pointer (some ⟨zdy,0,none⟩))),(12,(.pointer (some ⟨zdz,0,none⟩)))]) (fun zdx=>[fz ((zlJ ++ zlK) ++ zlL),stb z5p 95 [(.slice z7n zh.fModules.length z7o),(.slice z7p zh.fChannels.length z7q),(.slice z7r zh.fSwitches.length z7s),(.slice z7t zh.fLinks.length z7u),(.slice z7v zh.fVLs.length z7w),(.slice z7x zh.fHealth.length z7y),(.slice z7z zh.fCauses.length z7A),(.slice z7B zh.fVersions.length z7C),(.slice z7D z5Q.length z7E),(.map (some z3t)),(.map (some z3u)),(.int .i64 zdx)],stb z91 97 [(.int .i64 z1u.fNode),(.int .i64 z1u.fLink)],stb z92 58 [(.int .i64 0),(.int .i64 0),(.int .i64 0),(.int .i64 0)],stb zdy 132 [(.int .i64 z1B.1.fN),(.int .i64 z1B.1.fD)],stb zdz 132 [(.int .i64 z1C.1.fN),(.int .i64 z1C.1.fD)],yr z3t (fun x=>Value.agg (y1M x).toArray) (fun x=>Value.agg (yw x).toArray) z3s.2.2.2,yr z3u (fun x=>Value.agg (e97 x).toArray) (Value.int .i64) z5R]) ?_ ?_
  ·skip
   refine WC.b (WC.a (WL.pu rfl (WL.pu rfl ?_)))
   refine WL.nA 70 (yS (cs:=([z1B.2,z1C.2] : List Int).flatMap e39) zyb (Eos.parts (l:=[.tmp 68,.tmp 69]) (.cons rfl (.cons rfl .nil)) [0,1]) (fun _=>by kernel_rfl) rfl (by unfold maxLen; omega)) ?_
   intro zik _
   refine WL.qA 71 (yE Tryz.underlying138 rfl) ?_
   refine WL.pu rfl (WL.nil (WX.a (WC.block ?_)))
   refine WC.y6R (fun (zil : Nat) (z3F : Int) (z5P : Int)=>(y3t z1B z1C zb9 zil z3F z5P = some r)) (fun zil z3F z5P=>[(0,(.pointer (some ⟨z5p,0,none⟩))),(3,(.pointer (some ⟨z91,0,none⟩))),(4,(.pointer (some ⟨z92,0,none⟩))),(6,(.int .i64 z3s.2.1)),(10,(.pointer (some ⟨zdy,0,none⟩))),(12,(.pointer (some ⟨zdz,0,none⟩))),(70,(.slice (some ⟨zik,0,none⟩) (([z1B.2,z1C.2] : List Int).length) 2)),(71,(.int .i64 ((([z1B.2,z1C.2] : List Int).length : Nat) : Int))),(72,(.int .i64 z3F))]) (fun zil z3F z5P=>[fz ((zlJ ++ zlK) ++ zlL),row (.slice (some ⟨zik,0,none⟩) (([z1B.2,z1C.2] : List Int).length) 2) 39 1 (([z1B.2,z1C.2] : List Int).flatMap e39),stb z5p 95 [(.slice z7n zh.fModules.length z7o),(.slice z7p zh.fChannels.length z7q),(.slice z7r zh.fSwitches.length z7s),(.slice z7t zh.fLinks.length z7u),(.slice z7v zh.fVLs.length z7w),(.slice z7x zh.fHealth.length z7y),(.slice z7z zh.fCauses.length z7A),(.slice z7B zh.fVersions.length z7C),(.slice z7D z5Q.length z7E),(.map (some z3t)),(.map (some z3u)),(.int .i64 z5P)],stb z91 97 [(.int .i64 z1u.fNode),(.int .i64 z1u.fLink)],stb z92 58 [(.int .i64 0),(.int .i64 0),(.int .i64 0),(.int .i64 0)],stb zdy 132 [(.int .i64 z1B.1.fN),(.int .i64 z1B.1.fD)],stb zdz 132 [(.int .i64 z1C.1.fN),(.int .i64 z1C.1.fD)],yr z3t (fun x=>Value.agg (y1M x).toArray) (fun x=>Value.agg (yw x).toArray) z3s.2.2.2,yr z3u (fun x=>Value.agg (e97 x).toArray) (Value.int .i64) z5R]) (fun zil z3F z5P=>zil) ⟨yB,0,z3s.2.2.1⟩ h (.cons rfl (.cons rfl (.cons rfl (.cons rfl (.cons rfl (.cons rfl (.cons rfl (.cons rfl (.cons rfl .nil))))))))) (.cons .h2 (.cons .here (.cons .h3 (.cons .h3 (.cons .h3 (.cons .h1 (.cons .here (.cons .h1 (.cons .h1 .nil))))))))) ?_
   rintro zil z3F z5P h
   obtain ⟨zwa,rfl⟩:=y8j h
   rw [y3t] at h
   refine WC.b (WC.a (WL.pu rfl (WL.nil (WX.a (WC.b ?_)))))
   refine WC.cond rfl (fun zwd=>?_) (fun zwd=>?_)
   ·replace h:=yn h zwd
    refine WC.skip (WX.a ?_)
    obtain ⟨zoq,zRq,h⟩:=yU h
    refine WC.y2P (fun (zba : Int)=>(zoq zba = some r)) (fun zba=>[(0,(.pointer (some ⟨z5p,0,none⟩))),(3,(.pointer (some ⟨z91,0,none⟩))),(4,(.pointer (some ⟨z92,0,none⟩))),(6,(.int .i64 z3s.2.1)),(10,(.pointer (some ⟨zdy,0,none⟩))),(12,(.pointer (some ⟨zdz,0,none⟩))),(70,(.slice (some ⟨zik,0,none⟩) (([z1B.2,z1C.2] : List Int).length) 2)),(71,(.int .i64 ((([z1B.2,z1C.2] : List Int).length : Nat) : Int))),(72,(.int .i64 z3F))]) (fun zba=>[fz ((zlJ ++ zlK) ++ zlL),row (.slice (some ⟨zik,0,none⟩) (([z1B.2,z1C.2] : List Int).length) 2) 39 1 (([z1B.2,z1C.2] : List Int).flatMap e39),stb z5p 95 [(.slice z7n zh.fModules.length z7o),(.slice z7p zh.fChannels.length z7q),(.slice z7r zh.fSwitches.length z7s),(.slice z7t zh.fLinks.length z7u),(.slice z7v zh.fVLs.length z7w),(.slice z7x zh.fHealth.length z7y),(.slice z7z zh.fCauses.length z7A),(.slice z7B zh.fVersions.length z7C),(.slice z7D z5Q.length z7E),(.map (some z3t)),(.map (some z3u)),(.int .i64 zba)],stb z91 97 [(.int .i64 z1u.fNode),(.int .i64 z1u.fLink)],stb z92 58 [(.int .i64 0),(.int .i64 0),(.int .i64 0),(.int .i64 0)],stb zdy 132 [(.int .i64 z1B.1.fN),(.int .i64 z1B.1.fD)],stb zdz 132 [(.int .i64 z1C.1.fN),(.int .i64 z1C.1.fD)],yr z3t (fun x=>Value.agg (y1M x).toArray) (fun x=>Value.agg (yw x).toArray) z3s.2.2.2,yr z3u (fun x=>Value.agg (e97 x).toArray) (Value.int .i64) z5R]) ?_ ?_
    ·skip
     refine WC.block (WC.b ?_)
     obtain ⟨zov,h⟩:=yq h
     refine WC.a ?_
     refine WL.qA 74 (yY zyb rfl rfl zov.1 zov.2 y3z) ?_
     refine WL.qA 75 (yc y2E rfl (ycp .h1 ((y2Q (enc:=e39) (l:=([z1B.2,z1C.2] : List Int)) (i:=z3F) (sz:=1) (fun _=>rfl) zov.1 zov.2) 0 _ rfl))) ?_
     refine WL.pu rfl (WL.nil (WX.a ?_))
     obtain ⟨zor,zRr,h⟩:=yU h
     refine WC.y2P (fun (z90 : Int)=>(zor z90 = some r)) (fun z90=>[(0,(.pointer (some ⟨z5p,0,none⟩))),(3,(.pointer (some ⟨z91,0,none⟩))),(4,(.pointer (some ⟨z92,0,none⟩))),(6,(.int .i64 z3s.2.1)),(10,(.pointer (some ⟨zdy,0,none⟩))),(12,(.pointer (some ⟨zdz,0,none⟩))),(15,(.int .i64 z90)),(70,(.slice (some ⟨zik,0,none⟩) (([z1B.2,z1C.2] : List Int).length) 2)),(71,(.int .i64 ((([z1B.2,z1C.2] : List Int).length : Nat) : Int))),(72,(.int .i64 z3F))]) (fun z90=>[fz ((zlJ ++ zlK) ++ zlL),row (.slice (some ⟨zik,0,none⟩) (([z1B.2,z1C.2] : List Int).length) 2) 39 1 (([z1B.2,z1C.2] : List Int).flatMap e39),stb z5p 95 [(.slice z7n zh.fModules.length z7o),(.slice z7p zh.fChannels.length z7q),(.slice z7r zh.fSwitches.length z7s),(.slice z7t zh.fLinks.length z7u),(.slice z7v zh.fVLs.length z7w),(.slice z7x zh.fHealth.length z7y),(.slice z7z zh.fCauses.length z7A),(.slice z7B zh.fVersions.length z7C),(.slice z7D z5Q.length z7E),(.map (some z3t)),(.map (some z3u)),(.int .i64 z5P)],stb z91 97 [(.int .i64 z1u.fNode),(.int .i64 z1u.fLink)],stb z92 58 [(.int .i64 0),(.int .i64 0),(.int .i64 0),(.int .i64 0)],stb zdy 132 [(.int .i64 z1B.1.fN),(.int .i64 z1B.1.fD)],stb zdz 132 [(.int .i64 z1C.1.fN),(.int .i64 z1C.1.fD)],yr z3t (fun x=>Value.agg (y1M x).toArray) (fun x=>Value.agg (yw x).toArray) z3s.2.2.2,yr z3u (fun x=>Value.agg (e97 x).toArray) (Value.int .i64) z5R]) ?_ ?_
     ·skip
      refine WC.b (WC.a (WL.pu rfl (WL.pu rfl (WL.nil (WX.a ?_)))))
      refine WC.cond rfl (fun zwe=>?_) (fun zwe=>?_)
      ·replace h:=yn h zwe
       refine WC.a (WL.pu rfl (WL.nil ?_))
       exact WX.mid (G:=Int) 352 h (.cons rfl (.cons rfl (.cons rfl (.cons rfl (.cons rfl (.cons rfl (.cons rfl (.cons rfl (.cons rfl (.cons rfl .nil)))))))))) (.cons .here (.cons .here (.cons .here (.cons .here (.cons .here (.cons .here (.cons .here (.cons .here (.cons .here .nil)))))))))
      ·replace h:=yo h zwe
       refine WC.skip ?_
       exact WX.mid (G:=Int) (nth ([z1B.2,z1C.2] : List Int) z3F) h (.cons rfl (.cons rfl (.cons rfl (.cons rfl (.cons rfl (.cons rfl (.cons rfl (.cons rfl (.cons rfl (.cons rfl .nil)))))))))) (.cons .here (.cons .here (.cons .here (.cons .here (.cons .here (.cons .here (.cons .here (.cons .here (.cons .here .nil)))))))))
     ·rintro z90 h
      replace h:=(zRr z90).symm.trans h
      refine WC.b (WC.a (WL.pu rfl ?_))
      refine WL.qA 79 (yV rfl) ?_
      refine WL.qA 80 (ya y8q rfl rfl) ?_
      refine WL.qA 81 (yc y2E rfl (yk .h2 rfl)) ?_
      refine WL.pu rfl (WL.nil (WX.a ?_))
      refine WC.cond rfl (fun zwf=>?_) (fun zwf=>?_)
      ·replace h:=yn h zwf
       refine WC.a (WL.pu rfl (WL.pu rfl ?_))
       refine WL.qA 85 (yV rfl) ?_
       refine WL.qA 86 (ya y8q rfl rfl) ?_
       refine WL.ym rfl rfl (y5u (ds:=[(.slice z7n zh.fModules.length z7o),(.slice z7p zh.fChannels.length z7q),(.slice z7r zh.fSwitches.length z7s),(.slice z7t zh.fLinks.length z7u),(.slice z7v zh.fVLs.length z7w),(.slice z7x zh.fHealth.length z7y),(.slice z7z zh.fCauses.length z7A),(.slice z7B zh.fVersions.length z7C),(.slice z7D z5Q.length z7E),(.map (some z3t)),(.map (some z3u)),(.int .i64 z90)]) y9g rfl rfl rfl rfl rfl .h2 rfl rfl) ?_
       refine WL.nil (WX.yj ?_)
       exact WX.mid (G:=Int) z90 h (.cons rfl (.cons rfl (.cons rfl (.cons rfl (.cons rfl (.cons rfl (.cons rfl (.cons rfl (.cons rfl .nil))))))))) (.cons .h1 (.cons .h1 (.cons .here (.cons .here (.cons .here (.cons .here (.cons .here (.cons .here (.cons .here .nil)))))))))
      ·replace h:=yo h zwf
       refine WC.skip (WX.yj ?_)
       exact WX.mid (G:=Int) z5P h (.cons rfl (.cons rfl (.cons rfl (.cons rfl (.cons rfl (.cons rfl (.cons rfl (.cons rfl (.cons rfl .nil))))))))) (.cons .here (.cons .here (.cons .here (.cons .here (.cons .here (.cons .here (.cons .here (.cons .here (.cons .here .nil)))))))))
    ·rintro zba h
     replace h:=(zRq zba).symm.trans h
     refine WC.a (WL.pu rfl (WL.pu rfl (WL.nil ?_)))
     exact WX.round (G:=Nat × Int × Int) ⟨zwa,(i64 (z3F + 1)),zba⟩ h (Nat.lt_succ_self _) (.cons rfl (.cons rfl (.cons rfl (.cons rfl (.cons rfl (.cons rfl (.cons rfl (.cons rfl (.cons rfl .nil))))))))) (.cons .here (.cons .here (.cons .here (.cons .here (.cons .here (.cons .here (.cons .here (.cons .here (.cons .here .nil)))))))))
   ·replace h:=yo h zwd
    refine WC.exit (WX.yf (WX.yf (WX.yz ?_)))
    exact WX.mid (G:=Int) z5P h (.cons rfl (.cons rfl (.cons rfl (.cons rfl (.cons rfl (.cons rfl .nil)))))) (.cons .here (.cons .h1 (.cons .h1 (.cons .h1 (.cons .h1 (.cons .h1 (.cons .h1 (.cons .h1 .nil))))))))
  ·rintro zdx h
   replace h:=(zRp zdx).symm.trans h
   refine WC.b ?_
   obtain ⟨zlH,zRs,h⟩:=z7 h
   refine WC.yL (fun i=>[7].contains i) [] rfl ?_
   refine WD.pA 0 88 rfl (fun _=>q_m rfl) ?_
   refine WD.pA 1 89 rfl (fun _=>yV rfl) ?_
   refine WD.pA 2 90 rfl (fun _=>ya ybN rfl rfl) ?_
   refine WD.qA 3 91 rfl (yc y9f rfl (yk .h1 rfl)) ?_
   refine WD.qA 4 92 rfl (yg y3f rfl (yh .h2) rfl) ?_
   refine WD.qA 5 93 rfl (yg zd rfl (yh .h4) rfl) ?_
   refine WD.eA 6 94 rfl (za (l:=[.tmp 93]) Tryz.call46 (.cons rfl .nil)) (ccz hz .nil .here fun w pz ho=>y53 _ _ _ zRs w pz ) ?_
   refine WD.y2F (i:=7) rfl (by kernel_rfl) rfl rfl rfl (by kernel_rfl) (y3m (k:=z1u) (v:=zlH) y76 Tryz.underlying93 rfl rfl rfl rfl .h7) ?_
   refine WD.done (by kernel_rfl) ?_
   refine WX.a (WC.b ?_)
   obtain ⟨zwb,zRt,h⟩:=z7 h
   refine WC.yL (fun i=>[15].contains i) [] rfl ?_
   refine WD.pA 0 95 rfl (fun _=>ya y8p rfl rfl) ?_
   refine WD.qA 1 96 rfl (yc yt rfl (yk .h3 rfl)) ?_
   refine WD.pA 2 97 rfl (fun _=>ya y9e rfl rfl) ?_
   refine WD.qA 3 98 rfl (yc yt rfl (yk .h3 rfl)) ?_
   refine WD.pA 4 99 rfl (fun _=>q_m rfl) ?_
   refine WD.pA 5 100 rfl (fun _=>yV rfl) ?_
   refine WD.pA 6 101 rfl (fun _=>ya ybN rfl rfl) ?_
   refine WD.qA 7 102 rfl (yc y9f rfl (yk .h2 rfl)) ?_
   refine WD.qA 8 103 rfl (yg y3f rfl (yh .h3) rfl) ?_
   refine WD.qA 9 104 rfl (y1J (k:=z1u) (dflt:=(0 : Int)) y76 Tryz.underlying93 y2D rfl rfl rfl .here) ?_
   refine WD.qA 10 105 rfl (yg zd rfl (yh .h6) rfl) ?_
   refine WD.eA 11 106 rfl (za (l:=[.tmp 105]) Tryz.call46 (.cons rfl .nil)) (ccz hz .nil .h1 fun w pz ho=>y53 _ _ _ zRt w pz ) ?_
   refine WD.pA 12 107 rfl (fun _=>q_m rfl) ?_
   refine WD.pA 13 108 rfl (fun _=>yaF rfl rfl rfl) ?_
   refine WD.pA 14 109 rfl (fun _=>yI (v:=(.agg #[(.int .i64 z1u.fNode),(.int .i64 z1u.fLink),(.int .i64 (yp (yG z5R z1u zlH) z1u 0)),(.int .i64 (i64 (zwb + z3s.2.1)))])) (Eos.parts (l:=[.tmp 96,.tmp 98,.tmp 104,.tmp 108]) (.cons rfl (.cons rfl (.cons rfl (.cons rfl .nil)))) [0,1,2,3]) (fun _=>by kernel_rfl)) ?_
   refine WD.y2F (i:=15) rfl (by kernel_rfl) rfl rfl rfl (by kernel_rfl) (yl ydb rfl rfl rfl .h4 rfl rfl rfl) ?_
   refine WD.done (by kernel_rfl) ?_
   refine WX.a (WC.ret ?_)
   obtain rfl:=Option.some.inj h
   refine WX.ye Tryz.results22 (.agg rfl y8r rfl (yh .here) .nil) (fun w hw=>?_)
   exact ⟨((zlJ ++ zlK) ++ zlL),yD rfl,trivial,hw.sub (.cons .h2 (.cons .h2 (.cons .h5 (.cons .h1 .nil))))⟩
def y59 (z6d : Sapi_PortBound) (z6e : Sapi_PortBound) : Option Int :=
 (yZ (⟨z6d.fNode,z6d.fLink⟩ : Sbound_place) (⟨z6e.fNode,z6e.fLink⟩ : Sbound_place)).bind fun zEA=>some zEA
set_option maxRecDepth 20000 in
theorem yaU (Z : Zp)  (z6d : Sapi_PortBound) (z6e : Sapi_PortBound) (r : Int)
  (h : y59 z6d z6e = some r) (w₀ : World) (hz : PZ [] w₀ Z) :
  Calls Tryz.prog 24 #[(.agg #[(.int .i64 z6d.fNode),(.int .i64 z6d.fLink),(.int .i64 z6d.fDelay),(.int .i64 z6d.fStore)]),(.agg #[(.int .i64 z6e.fNode),(.int .i64 z6e.fLink),(.int .i64 z6e.fDelay),(.int .i64 z6e.fStore)])] w₀ fun e w'=>e = .returned (.int .i64 r) ∧ Hp [] w₀ w' []:=by
 unfold y59 at h
 refine Calls.yJ Tryz.func24 Tryz.ntmps24 ?_
 refine WC.b (WC.a ?_)
 refine WL.nA 2 (yH (cs:=[(.int .i64 z6d.fNode),(.int .i64 z6d.fLink),(.int .i64 z6d.fDelay),(.int .i64 z6d.fStore)]) rfl rfl) ?_
 intro z100 _
 refine WL.nA 3 (yH (cs:=[(.int .i64 z6e.fNode),(.int .i64 z6e.fLink),(.int .i64 z6e.fDelay),(.int .i64 z6e.fStore)]) rfl rfl) ?_
 intro z101 _
 refine WL.pu rfl (WL.nil (WX.a (WC.b ?_)))
 obtain ⟨zEA,zRu,h⟩:=z7 h
 refine WC.a ?_
 refine WL.qA 5 (ya y9h rfl rfl) ?_
 refine WL.qA 6 (yc yt rfl (yk .h1 rfl)) ?_
 refine WL.qA 7 (ya y9i rfl rfl) ?_
 refine WL.qA 8 (yc yt rfl (yk .h1 rfl)) ?_
 refine WL.qA 9 (yI (v:=(.agg #[(.int .i64 z6d.fNode),(.int .i64 z6d.fLink)])) (Eos.parts (l:=[.tmp 6,.tmp 8]) (.cons rfl (.cons rfl .nil)) [0,1]) (fun _=>by kernel_rfl)) ?_
 refine WL.qA 10 (ya y9h rfl rfl) ?_
 refine WL.qA 11 (yc yt rfl (yk .here rfl)) ?_
 refine WL.qA 12 (ya y9i rfl rfl) ?_
 refine WL.qA 13 (yc yt rfl (yk .here rfl)) ?_
 refine WL.qA 14 (yI (v:=(.agg #[(.int .i64 z6e.fNode),(.int .i64 z6e.fLink)])) (Eos.parts (l:=[.tmp 11,.tmp 13]) (.cons rfl (.cons rfl .nil)) [0,1]) (fun _=>by kernel_rfl)) ?_
 refine WL.cA 15 (za (l:=[.tmp 9,.tmp 14]) Tryz.call25 (.cons rfl (.cons rfl .nil))) .nil (cc hz .nil fun w pz ho=>y7n _ _ _ _ zRu w pz ) ?_
 refine WL.pu rfl (WL.nil (WX.a (WC.ret ?_)))
 obtain rfl:=Option.some.inj h
 refine WX.ye Tryz.results24 (.tmp rfl .nil) (fun w hw=>?_)
 exact ⟨yD rfl,hw.sub .nil⟩
theorem srtA_47 : ∀ w,(isAgg (Tryz.y2U.t 24)).run Tryz.prog w = .ok true w:=fun _=>by kernel_rfl
theorem srtZ_47 : ∀ w,(Go.sizeOf (Tryz.y2U.t 24)).run Tryz.prog w = .ok 4 w:=fun _=>by kernel_rfl
def y3G (z4U : List Sapi_PortBound) (zlM : Int) (zlN : Int) (zim : Int) (zfD : Sapi_PortBound → Sapi_PortBound → Option Int) : Option (List Sapi_PortBound):=chk ((zlM = 0 ∧ zlN = ((z4U.length : Nat) : Int)) ∧ (0 ≤ zim ∧ zim < 4611686018427387904 ∧ z4U.length < 4611686018427387904)) (chk (y7B zfD (y1k zfD z4U) = true) (some (y1k zfD z4U)))
theorem y62 (Z : Zp) (zfE : Option Addr) (zfF : Nat) (zlO : FuncId) (zwg : List Value) (z4U : List Sapi_PortBound) (zlM : Int) (zlN : Int) (zim : Int) (zfD : Sapi_PortBound → Sapi_PortBound → Option Int) (r : List Sapi_PortBound) (w₀ : World) (hz : PZ (fps [row (.slice zfE z4U.length zfF) 58 4 (z4U.flatMap e58)]) w₀ Z)
  (zRv : ∀ args w,(callFunc zlO args).run Tryz.prog w = .ok (.enter zlO args) w)
  (zRw : ∀ w : World,PZ [] w Z → ∀ (x0 : Sapi_PortBound) (x1 : Sapi_PortBound) (r : Int),zfD x0 x1 = some r → Calls Tryz.prog zlO (([(.agg #[(.int .i64 x0.fNode),(.int .i64 x0.fLink),(.int .i64 x0.fDelay),(.int .i64 x0.fStore)]),(.agg #[(.int .i64 x1.fNode),(.int .i64 x1.fLink),(.int .i64 x1.fDelay),(.int .i64 x1.fStore)])] : List Value) ++ zwg).toArray w fun e w'=>e = .returned (.int .i64 r) ∧ Hp [] w w' [])
  (h : y3G z4U zlM zlN zim zfD = some r) (hown : Hp (fps [row (.slice zfE z4U.length zfF) 58 4 (z4U.flatMap e58)]) w₀ w₀ [row (.slice zfE z4U.length zfF) 58 4 (z4U.flatMap e58)]) :
  Calls Tryz.prog 47 #[(.slice zfE z4U.length zfF),(.int .i64 zlM),(.int .i64 zlN),(.int .i64 zim),(.func (.func zlO) #[] (zwg).toArray)] w₀ fun e w'=>e = .returned (.tuple #[]) ∧ (r.length = z4U.length) ∧ Hp (fps [row (.slice zfE z4U.length zfF) 58 4 (z4U.flatMap e58)]) w₀ w' [row (.slice zfE r.length zfF) 58 4 (r.flatMap e58)]:=by
 obtain ⟨h0,h⟩:=yq h
 obtain ⟨h1,h⟩:=yq h
 have hr:=(Option.some.inj h).symm
 exact y7O (P:=Tryz.prog) (f:=47) (e:=58) (k:=4) (enc:=e58) (fun _=>rfl) (by decide) ycC (fun β _ enc cf g cb hO blk off cap d0 w0 eg hC R=>Tryz.y7Q 4 srtA_47 srtZ_47 enc cf g cb hO blk off cap d0 w0 eg hC R) (Tryz.y7F (α:=Unit)) hz zRv zRw h0 h1 hr hown
def y1R (z4k : List Sapi_PortBound) (zin : Sapi_PortBound → Sapi_PortBound → Option Int) : Option (List Sapi_PortBound) :=
 (y5w (u64 ((z4k.length : Nat) : Int))).bind fun zow=>(y3G z4k 0 ((z4k.length : Nat) : Int) zow zin).bind fun zox=>some zox
set_option maxRecDepth 20000 in
theorem y4R (Z : Zp) (zdA : Option Addr) (zdB : Nat) (zio : FuncId) (zoy : List Value) (z4k : List Sapi_PortBound) (zin : Sapi_PortBound → Sapi_PortBound → Option Int) (r : List Sapi_PortBound)
  (h : y1R z4k zin = some r) (w₀ : World) (hz : PZ (fps [row (.slice zdA z4k.length zdB) 58 4 (z4k.flatMap e58)]) w₀ Z)
  (zRx : ∀ args w,(callFunc zio args).run Tryz.prog w = .ok (.enter zio args) w)
  (zRy : ∀ w : World,PZ [] w Z → ∀ (x0 : Sapi_PortBound) (x1 : Sapi_PortBound) (r : Int),zin x0 x1 = some r → Calls Tryz.prog zio (([(.agg #[(.int .i64 x0.fNode),(.int .i64 x0.fLink),(.int .i64 x0.fDelay),(.int .i64 x0.fStore)]),(.agg #[(.int .i64 x1.fNode),(.int .i64 x1.fLink),(.int .i64 x1.fDelay),(.int .i64 x1.fStore)])] : List Value) ++ zoy).toArray w fun e w'=>e = .returned (.int .i64 r) ∧ Hp [] w w' [])
  (hown : Hp (fps [row (.slice zdA z4k.length zdB) 58 4 (z4k.flatMap e58)]) w₀ w₀ [row (.slice zdA z4k.length zdB) 58 4 (z4k.flatMap e58)]) :
  Calls Tryz.prog 23 #[(.slice zdA z4k.length zdB),(.func (.func zio) #[] (zoy).toArray)] w₀ fun e w'=>e = .returned (.tuple #[]) ∧ (r.length = z4k.length) ∧ Hp (fps [row (.slice zdA z4k.length zdB) 58 4 (z4k.flatMap e58)]) w₀ w' [row (.slice zdA r.length zdB) 58 4 (r.flatMap e58)]:=by
 unfold y1R at h
 refine Calls.oh2 Tryz.func23 Tryz.ntmps23 hown ?_
 refine WC.b (WC.a (WL.pu rfl ?_))
 refine WL.qA 6 (yE Tryz.underlying35 rfl) ?_
 refine WL.pu rfl (WL.nil (WX.a ?_))
 obtain ⟨zow,zRz,h⟩:=z7 h
 obtain ⟨zox,zRA,h⟩:=z7 h
 refine WC.a (WL.pu rfl (WL.pu rfl (WL.pu rfl ?_)))
 refine WL.qA 10 (y7f Tryz.underlying3 Tryz.underlying142 rfl rfl) ?_
 refine WL.cA 11 (za (l:=[.tmp 10]) Tryz.call48 (.cons rfl .nil)) .nil (cc hz .nil fun w pz ho=>y7o (Z:=_)  (z71:=(u64 ((z4k.length : Nat) : Int))) (r:=zow) w pz  zRz) ?_
 refine WL.pu rfl ?_
 refine WL.y4e (dd:=13) rfl rfl rfl (za (l:=[.tmp 7,.const (.int .i64 0),.tmp 8,.tmp 11,.tmp 12]) Tryz.call47 (.cons rfl (.cons rfl (.cons rfl (.cons rfl (.cons rfl .nil)))))) (.cons .here .nil) (cc hz (.cons .here .nil) fun w pz ho=>y62 (Z:=_) (zfE:=zdA) (zfF:=zdB) (zlO:=zio) (zwg:=zoy) (z4U:=z4k) (zlM:=0) (zlN:=((z4k.length : Nat) : Int)) (zim:=zow) (zfD:=zin) (r:=zox) w pz zRx zRy zRA ho) ?_
 rintro  zEB
 refine WL.repin (i:=0) rfl (u:=(.slice zdA zox.length zdB)) (y89 zEB.symm) ?_
 refine WL.nil ?_
 obtain rfl:=Option.some.inj h
 refine WX.y4c Tryz.results23 .nil (fun w hw=>?_)
 exact ⟨y6Q,(zEB.trans rfl),hw.sub (.cons .here .nil)⟩
end Go.Proofs.YtcahmabkeaijdaaGreat
