/- A part of this claim's proof: models of functions, walks, plain laws. No conditions. -/
import Derived.Test.YtcahmabkeaijdaaGreatW35xd
set_option linter.all false
namespace Go.Proofs.YtcahmabkeaijdaaGreat
open Go Go.RowKit Sep
set_option maxRecDepth 30000
set_option maxHeartbeats 4000000
def y2x (z69 : List (List z6)) (z5l : zSv) (za8 : z2) (z3f : List z2) (zmA : Int) : Option (Bool × (Nat × List z2 × Int)) :=
 (y4n (⟨zmA⟩ : z18) za8 z69 z5l).bind fun z6a=>(if decide (((z3f.length : Nat) : Int) = 0) then some true else chk ((0 : Int) ≤ 0 ∧ 0 < ((z3f.length : Nat) : Int)) ((y1i z6a.1 (⟨((nth z3f 0).fN),((nth z3f 0).fD)⟩ : z2)).bind fun zBq=>some (decide (zBq > 0)))).bind fun ztt=>if ztt then some (true,(0,([z6a.1] : List z2),z6a.2.fE)) else some (true,(0,z3f,z6a.2.fE))
def y3L (zV : List (List z6)) (zj : zSv) (z69 : List (List z6)) (z5l : zSv) (zW : List z2) : Option (z2 × Int) :=
 (y3k zV zj z69 z5l zW).bind fun zjM=>if decide (zjM ≠ 0) then some ((⟨0,0⟩ : z2),zjM) else jp2 (fun (z87 : Int) (z5E : List z2)=>if decide (z87 ≠ 0) then some ((⟨0,0⟩ : z2),z87) else chk ((0 : Int) ≤ 0 ∧ 0 < ((z5E.length : Nat) : Int)) (some ((⟨((nth z5E 0).fN),((nth z5E 0).fD)⟩ : z2),0))) fun ztu=>(y3Z zV zj z69 z5l zW).bind fun zs=>(y2L (Nat × List z2 × Int) (fun (x : z2) (s : Nat × List z2 × Int)=>chk (s.1 = 0) (y2x z69 z5l x s.2.1 s.2.2)) (0,([] : List z2),0) zV (⟨(⟨zs.1,zs.2.1⟩ : z2),(⟨zs.2.2.1,zs.2.2.2⟩ : z2)⟩ : zSv) z69 z5l zW).bind fun z3y=>ztu z3y.2.2 z3y.2.1
theorem y9I (Z : Zp) (z1a : Option Addr) (z1b : Nat) (z14 : Addr) (ztv : Option Addr) (ztw : Nat) (z15 : Addr) (z1c : Option Addr) (z1d : Nat) (zV : List (List z6)) (zj : zSv) (z69 : List (List z6)) (z5l : zSv) (zW : List z2) (r : z2 × Int)
  (h : y3L zV zj z69 z5l zW = some r) (w₀ : World) (hz : PZ [] w₀ Z)
  (ztx : ZS Z 1 (y1P Z) z1a z1b zV)
  (zmB : ZS Z 1 (y1P Z) ztv ztw z69)
  (zmC : ZC Z z14 [(.slice ztv z69.length ztw)])
  (zmD : ZC Z z15 [(.int .i64 z5l.fRate.fN),(.int .i64 z5l.fRate.fD),(.int .i64 z5l.fL.fN),(.int .i64 z5l.fL.fD)])
  (zty : ZS Z 2 (fun r x=>r = yu x) z1c z1d zW) :
  Calls Tryz.prog 77 #[(.agg #[(.slice z1a zV.length z1b),(.int .i64 zj.fRate.fN),(.int .i64 zj.fRate.fD),(.int .i64 zj.fL.fN),(.int .i64 zj.fL.fD),(.func (.func 72) #[] #[(.pointer (some z14)),(.pointer (some z15))]),(.slice z1c zW.length z1d)])] w₀ fun e w'=>e = .returned (.tuple #[(.agg #[(.int .i64 r.1.fN),(.int .i64 r.1.fD)]),(.int .i64 r.2)]) ∧ Hp [] w₀ w' []:=by
 unfold y3L at h
 refine Calls.y9m (vs:=[(.agg #[(.slice z1a zV.length z1b),(.int .i64 zj.fRate.fN),(.int .i64 zj.fRate.fD),(.int .i64 zj.fL.fN),(.int .i64 zj.fL.fD),(.func (.func 72) #[] #[(.pointer (some z14)),(.pointer (some z15))]),(.slice z1c zW.length z1d)])]) (pre:=[]) (env:=[(0,(.agg #[(.slice z1a zV.length z1b),(.int .i64 zj.fRate.fN),(.int .i64 zj.fRate.fD),(.int .i64 zj.fL.fN),(.int .i64 zj.fL.fD),(.func (.func 72) #[] #[(.pointer (some z14)),(.pointer (some z15))]),(.slice z1c zW.length z1d)]))]) Tryz.func77 rfl Tryz.ntmps77 rfl (Hp.nil w₀ _) rfl ?_
 refine WC.b (WC.a (WL.nA 1 (yH (cs:=[(.slice z1a zV.length z1b),(.int .i64 zj.fRate.fN),(.int .i64 zj.fRate.fD),(.int .i64 zj.fL.fN),(.int .i64 zj.fL.fD),(.func (.func 72) #[] #[(.pointer (some z14)),(.pointer (some z15))]),(.slice z1c zW.length z1d)]) rfl rfl) ?_))
 intro z32 _
 refine WL.nA 2 (yx (cs:=[(.int .i64 0),(.int .i64 0)]) zH rfl) ?_
 intro z3g _
 refine WL.pu rfl (WL.nil (WX.a (WC.b (WC.b ?_))))
 obtain ⟨zjM,zNc,h⟩:=z7 h
 refine WC.a (WL.qA 9 (yf zeM rfl (yh .h1) rfl) (WL.cA 10 (z8 Tryz.call109 (.cons rfl .nil)) .nil (cc hz .nil fun w pz ho=>y9a _ _ _ _ _ _ _ _ _ _ _ _ _ _ _ zNc w pz ztx zmB zmC zmD zty) (WL.pu rfl (WL.nil (WX.a (WC.b (WC.a (WL.pu rfl (WL.pu rfl (WL.nil (WX.a (WC.cond rfl (fun ztz=>?_) (fun ztz=>?_)))))))))))))
 ·replace h:=yo h ztz
  refine WC.b (WC.a (WL.qA 13 (yL (v:=(.agg #[(.int .i64 0),(.int .i64 0)])) (Eos.parts (l:=[]) .nil []) (fun _=>by kernel_rfl)) (WL.pu rfl (WL.yl rfl rfl (yk zq rfl rfl rfl .here rfl rfl rfl) (WL.pu rfl (WL.nil (WX.a (WC.ret (WX.yd ?_)))))))))
  obtain rfl:=Option.some.inj h
  refine WX.yaB Tryz.results77 (.agg rfl zb rfl (yh .here) (.tmp rfl .nil)) (fun w hw=>?_)
  exact ⟨y1U rfl rfl,hw.sub .nil⟩
 ·replace h:=yp h ztz
  refine WC.skip (WX.a (WC.b (WC.a (WL.nA 5 (yx (cs:=[(.int .i64 0)]) zkK rfl) ?_))))
  intro z2u _
  refine WL.nil (WX.a (WC.b (WC.a (WL.nA 6 (yx (cs:=[(.slice none 0 0)]) znt rfl) ?_))))
  intro z2N _
  refine WL.nil (WX.a ?_)
  obtain ⟨ztu,zNd,h⟩:=y4t h
  refine WC.ybs (fun (zjN : Nat) (z87 : Int) (z5E : List z2) (zjO : Option Addr) (zjP : Nat)=>(ztu z87 z5E = some r)) (fun (zjN : Nat) (z87 : Int) (z5E : List z2) (zjO : Option Addr) (zjP : Nat)=>[(2,(.pointer (some ⟨z3g,0,none⟩))),(5,(.pointer (some ⟨z2u,0,none⟩))),(6,(.pointer (some ⟨z2N,0,none⟩)))]) (fun (zjN : Nat) (z87 : Int) (z5E : List z2) (zjO : Option Addr) (zjP : Nat)=>[stb z3g 132 [(.int .i64 0),(.int .i64 0)],stb z2u 225 [(.int .i64 z87)],stb z2N 175 [(.slice zjO z5E.length zjP)],row (.slice zjO z5E.length zjP) 132 2 (z5E.flatMap yu),dfr zjN]) ?_ ?_
  ·skip
   refine WC.b ?_
   obtain ⟨zs,zNe,h⟩:=z7 h
   refine WC.a (WL.qA 15 (yf zeM rfl (yh .h3) rfl) (WL.ycX (dd:=16) rfl rfl rfl (z8 Tryz.call110 (.cons rfl .nil)) .nil (cc hz .nil fun w pz ho=>y8X _ _ _ _ _ _ _ _ _ _ _ _ _ _ _ zNe w pz ztx zmB zmC zmD zty) ?_))
   rintro z3V _
   refine WL.nil (WX.a (WC.block (WC.drop (.s5 .h1 .h1 .h1 .h1 .here) (WC.nilRow 132 2 (WC.rangeFunc (f:=155) (caps:=[(.pointer (some ⟨z3V,0,none⟩))]) rfl Tryz.call155 ?_)))))
   intro zWa zWb z3z z5F z4x zmE zNf zNg w hw
   have hw1:=hw.selAll ((.s6 .h3 .h2 .h2 .h2 .h2 .here) : Sel _ [stb z2N 175 [(.slice none (([] : List z2).length) 0)],row (.slice none (([] : List z2).length) 0) 132 2 (([] : List z2).flatMap yu),stb z2u 225 [(.int .i64 0)],stb z3g 132 [(.int .i64 0),(.int .i64 0)],stb z32 177 [(.slice z1a zV.length z1b),(.int .i64 zj.fRate.fN),(.int .i64 zj.fRate.fD),(.int .i64 zj.fL.fN),(.int .i64 zj.fL.fD),(.func (.func 72) #[] #[(.pointer (some z14)),(.pointer (some z15))]),(.slice z1c zW.length z1d)],blk z3z (z4x .ready none)] _)
   have pz:=(hz.call hw1 ((.cons .here .nil) : Sel [y26 [stb z2N 175 [(.slice none (([] : List z2).length) 0)],row (.slice none (([] : List z2).length) 0) 132 2 (([] : List z2).flatMap yu),stb z2u 225 [(.int .i64 0)],stb z3g 132 [(.int .i64 0),(.int .i64 0)],stb z32 177 [(.slice z1a zV.length z1b),(.int .i64 zj.fRate.fN),(.int .i64 zj.fRate.fD),(.int .i64 zj.fL.fN),(.int .i64 zj.fL.fD),(.func (.func 72) #[] #[(.pointer (some z14)),(.pointer (some z15))]),(.slice z1c zW.length z1d)],blk z3z (z4x .ready none)],dfr z5F,stb z3V 177 [(.slice z1a zV.length z1b),(.int .i64 zs.1),(.int .i64 zs.2.1),(.int .i64 zs.2.2.1),(.int .i64 zs.2.2.2),(.func (.func 72) #[] #[(.pointer (some z14)),(.pointer (some z15))]),(.slice z1c zW.length z1d)]] [y26 [stb z2N 175 [(.slice none (([] : List z2).length) 0)],row (.slice none (([] : List z2).length) 0) 132 2 (([] : List z2).flatMap yu),stb z2u 225 [(.int .i64 0)],stb z3g 132 [(.int .i64 0),(.int .i64 0)],stb z32 177 [(.slice z1a zV.length z1b),(.int .i64 zj.fRate.fN),(.int .i64 zj.fRate.fD),(.int .i64 zj.fL.fN),(.int .i64 zj.fL.fD),(.func (.func 72) #[] #[(.pointer (some z14)),(.pointer (some z15))]),(.slice z1c zW.length z1d)],blk z3z (z4x .ready none)]] [dfr z5F,stb z3V 177 [(.slice z1a zV.length z1b),(.int .i64 zs.1),(.int .i64 zs.2.1),(.int .i64 zs.2.2.1),(.int .i64 zs.2.2.2),(.func (.func 72) #[] #[(.pointer (some z14)),(.pointer (some z15))]),(.slice z1c zW.length z1d)]])).lend hw1 ((.cons .here .nil) : Sel [y26 [stb z2N 175 [(.slice none (([] : List z2).length) 0)],row (.slice none (([] : List z2).length) 0) 132 2 (([] : List z2).flatMap yu),stb z2u 225 [(.int .i64 0)],stb z3g 132 [(.int .i64 0),(.int .i64 0)],stb z32 177 [(.slice z1a zV.length z1b),(.int .i64 zj.fRate.fN),(.int .i64 zj.fRate.fD),(.int .i64 zj.fL.fN),(.int .i64 zj.fL.fD),(.func (.func 72) #[] #[(.pointer (some z14)),(.pointer (some z15))]),(.slice z1c zW.length z1d)],blk z3z (z4x .ready none)],dfr z5F,stb z3V 177 [(.slice z1a zV.length z1b),(.int .i64 zs.1),(.int .i64 zs.2.1),(.int .i64 zs.2.2.1),(.int .i64 zs.2.2.2),(.func (.func 72) #[] #[(.pointer (some z14)),(.pointer (some z15))]),(.slice z1c zW.length z1d)]] [y26 [stb z2N 175 [(.slice none (([] : List z2).length) 0)],row (.slice none (([] : List z2).length) 0) 132 2 (([] : List z2).flatMap yu),stb z2u 225 [(.int .i64 0)],stb z3g 132 [(.int .i64 0),(.int .i64 0)],stb z32 177 [(.slice z1a zV.length z1b),(.int .i64 zj.fRate.fN),(.int .i64 zj.fRate.fD),(.int .i64 zj.fL.fN),(.int .i64 zj.fL.fD),(.func (.func 72) #[] #[(.pointer (some z14)),(.pointer (some z15))]),(.slice z1c zW.length z1d)],blk z3z (z4x .ready none)]] [dfr z5F,stb z3V 177 [(.slice z1a zV.length z1b),(.int .i64 zs.1),(.int .i64 zs.2.1),(.int .i64 zs.2.2.1),(.int .i64 zs.2.2.2),(.func (.func 72) #[] #[(.pointer (some z14)),(.pointer (some z15))]),(.slice z1c zW.length z1d)]]) (B:=[stb z3V 177 [(.slice z1a zV.length z1b),(.int .i64 zs.1),(.int .i64 zs.2.1),(.int .i64 zs.2.2.1),(.int .i64 zs.2.2.2),(.func (.func 72) #[] #[(.pointer (some z14)),(.pointer (some z15))]),(.slice z1c zW.length z1d)]]) (fun _ hx'=>((.cons .h1 .nil) : Sel _ [stb z3V 177 [(.slice z1a zV.length z1b),(.int .i64 zs.1),(.int .i64 zs.2.1),(.int .i64 zs.2.2.1),(.int .i64 zs.2.2.2),(.func (.func 72) #[] #[(.pointer (some z14)),(.pointer (some z15))]),(.slice z1c zW.length z1d)]] _).mem hx')
   obtain ⟨z3y,zNh,h⟩:=z7 h
   refine Calls.mono (y8l (Z:=_) (z7v:=z3z) (z3w:=(Option Addr × Nat)) (z1W:=(fun (g : Option Addr × Nat) (s : Nat × List z2 × Int)=>y26 ([stb z2N 175 [(.slice g.1 s.2.1.length g.2)],row (.slice g.1 s.2.1.length g.2) 132 2 (s.2.1.flatMap yu),stb z2u 225 [(.int .i64 s.2.2)],stb z3g 132 [(.int .i64 0),(.int .i64 0)],stb z32 177 [(.slice z1a zV.length z1b),(.int .i64 zj.fRate.fN),(.int .i64 zj.fRate.fD),(.int .i64 zj.fL.fN),(.int .i64 zj.fL.fD),(.func (.func 72) #[] #[(.pointer (some z14)),(.pointer (some z15))]),(.slice z1c zW.length z1d)]] ++ [blk z3z (z4x (rdy (pcs [] s.1)) (pcs [] s.1))]))) (z65:=(fun (g : Option Addr × Nat) (s : Nat × List z2 × Int)=>True)) (z9Y:=(none,0)) (z9Z:=⟨z3V,0,none⟩) (zbY:=z1a) (zbZ:=z1b) (zsV:=z14) (zsW:=ztv) (zsX:=ztw) (zsY:=z15) (zjC:=z1c) (zjD:=z1d) (zo:=(Nat × List z2 × Int)) (z1P:=(fun (x : z2) (s : Nat × List z2 × Int)=>chk (s.1 = 0) (y2x z69 z5l x s.2.1 s.2.2))) (s0_44021:=(0,([] : List z2),0)) (z2i:=zV) (zea:=(⟨(⟨zs.1,zs.2.1⟩ : z2),(⟨zs.2.2.1,zs.2.2.2⟩ : z2)⟩ : zSv)) (zjB:=z69) (zeb:=z5l) (z2t:=zW) (r:=z3y) w pz ?_ trivial ((ztx.mono (Zle.left _ _)).weak (fun _ _ h=>y37 (Zle.left _ _) h)) ((zmB.mono (Zle.left _ _)).weak (fun _ _ h=>y37 (Zle.left _ _) h)) (zmC.mono (Zle.left _ _)) (zmD.mono (Zle.left _ _)) (zty.mono (Zle.left _ _)) ((hw1.lent ((.cons .here .nil) : Sel [y26 [stb z2N 175 [(.slice none (([] : List z2).length) 0)],row (.slice none (([] : List z2).length) 0) 132 2 (([] : List z2).flatMap yu),stb z2u 225 [(.int .i64 0)],stb z3g 132 [(.int .i64 0),(.int .i64 0)],stb z32 177 [(.slice z1a zV.length z1b),(.int .i64 zj.fRate.fN),(.int .i64 zj.fRate.fD),(.int .i64 zj.fL.fN),(.int .i64 zj.fL.fD),(.func (.func 72) #[] #[(.pointer (some z14)),(.pointer (some z15))]),(.slice z1c zW.length z1d)],blk z3z (z4x .ready none)],dfr z5F,stb z3V 177 [(.slice z1a zV.length z1b),(.int .i64 zs.1),(.int .i64 zs.2.1),(.int .i64 zs.2.2.1),(.int .i64 zs.2.2.2),(.func (.func 72) #[] #[(.pointer (some z14)),(.pointer (some z15))]),(.slice z1c zW.length z1d)]] [y26 [stb z2N 175 [(.slice none (([] : List z2).length) 0)],row (.slice none (([] : List z2).length) 0) 132 2 (([] : List z2).flatMap yu),stb z2u 225 [(.int .i64 0)],stb z3g 132 [(.int .i64 0),(.int .i64 0)],stb z32 177 [(.slice z1a zV.length z1b),(.int .i64 zj.fRate.fN),(.int .i64 zj.fRate.fD),(.int .i64 zj.fL.fN),(.int .i64 zj.fL.fD),(.func (.func 72) #[] #[(.pointer (some z14)),(.pointer (some z15))]),(.slice z1c zW.length z1d)],blk z3z (z4x .ready none)]] [dfr z5F,stb z3V 177 [(.slice z1a zV.length z1b),(.int .i64 zs.1),(.int .i64 zs.2.1),(.int .i64 zs.2.2.1),(.int .i64 zs.2.2.2),(.func (.func 72) #[] #[(.pointer (some z14)),(.pointer (some z15))]),(.slice z1c zW.length z1d)]]) (B:=[stb z3V 177 [(.slice z1a zV.length z1b),(.int .i64 zs.1),(.int .i64 zs.2.1),(.int .i64 zs.2.2.1),(.int .i64 zs.2.2.2),(.func (.func 72) #[] #[(.pointer (some z14)),(.pointer (some z15))]),(.slice z1c zW.length z1d)]]) (fun _ hx'=>((.cons .h1 .nil) : Sel _ [stb z3V 177 [(.slice z1a zV.length z1b),(.int .i64 zs.1),(.int .i64 zs.2.1),(.int .i64 zs.2.2.1),(.int .i64 zs.2.2.2),(.func (.func 72) #[] #[(.pointer (some z14)),(.pointer (some z15))]),(.slice z1c zW.length z1d)]] _).mem hx') (.head _) _).stb) zNh (hw1.owns ((.cons .here .nil) : Sel [y26 [stb z2N 175 [(.slice none (([] : List z2).length) 0)],row (.slice none (([] : List z2).length) 0) 132 2 (([] : List z2).flatMap yu),stb z2u 225 [(.int .i64 0)],stb z3g 132 [(.int .i64 0),(.int .i64 0)],stb z32 177 [(.slice z1a zV.length z1b),(.int .i64 zj.fRate.fN),(.int .i64 zj.fRate.fD),(.int .i64 zj.fL.fN),(.int .i64 zj.fL.fD),(.func (.func 72) #[] #[(.pointer (some z14)),(.pointer (some z15))]),(.slice z1c zW.length z1d)],blk z3z (z4x .ready none)],dfr z5F,stb z3V 177 [(.slice z1a zV.length z1b),(.int .i64 zs.1),(.int .i64 zs.2.1),(.int .i64 zs.2.2.1),(.int .i64 zs.2.2.2),(.func (.func 72) #[] #[(.pointer (some z14)),(.pointer (some z15))]),(.slice z1c zW.length z1d)]] [y26 [stb z2N 175 [(.slice none (([] : List z2).length) 0)],row (.slice none (([] : List z2).length) 0) 132 2 (([] : List z2).flatMap yu),stb z2u 225 [(.int .i64 0)],stb z3g 132 [(.int .i64 0),(.int .i64 0)],stb z32 177 [(.slice z1a zV.length z1b),(.int .i64 zj.fRate.fN),(.int .i64 zj.fRate.fD),(.int .i64 zj.fL.fN),(.int .i64 zj.fL.fD),(.func (.func 72) #[] #[(.pointer (some z14)),(.pointer (some z15))]),(.slice z1c zW.length z1d)],blk z3z (z4x .ready none)]] [dfr z5F,stb z3V 177 [(.slice z1a zV.length z1b),(.int .i64 zs.1),(.int .i64 zs.2.1),(.int .i64 zs.2.2.1),(.int .i64 zs.2.2.2),(.func (.func 72) #[] #[(.pointer (some z14)),(.pointer (some z15))]),(.slice z1c zW.length z1d)]]))) ?_
   ·skip
    refine yaA (LI:=(fun (g : Option Addr × Nat) (s : Nat × List z2 × Int)=>[stb z2N 175 [(.slice g.1 s.2.1.length g.2)],row (.slice g.1 s.2.1.length g.2) 132 2 (s.2.1.flatMap yu),stb z2u 225 [(.int .i64 s.2.2)],stb z3g 132 [(.int .i64 0),(.int .i64 0)],stb z32 177 [(.slice z1a zV.length z1b),(.int .i64 zj.fRate.fN),(.int .i64 zj.fRate.fD),(.int .i64 zj.fL.fN),(.int .i64 zj.fL.fD),(.func (.func 72) #[] #[(.pointer (some z14)),(.pointer (some z15))]),(.slice z1c zW.length z1d)]])) (pc:=(fun (s : Nat × List z2 × Int)=>pcs [] s.1)) zmE zNf zNg (fun _ _=>rfl) (by decide) ?_
    rintro za8 _ ⟨zgT,zgU⟩ ⟨zNi,z3f,zmA⟩ zNj zNk Fb wb zBr _ hz
    replace hz:=hz.left
    letI : Rnd:=inR z3z
    obtain ⟨hp0,z6b⟩:=ym zBr
    replace hp0 : zNi = 0:=hp0; subst hp0; clear zBr
    replace z6b : y2x z69 z5l za8 z3f zmA = some (zNj,zNk):=z6b
    unfold y2x at z6b
    refine WC.restr (env':=[(1,(.pointer (some ⟨z32,0,none⟩))),(12,(.bool (decide (zjM ≠ 0)))),(5,(.pointer (some ⟨z2u,0,none⟩))),(6,(.pointer (some ⟨z2N,0,none⟩))),(17,(.agg #[(.int .i64 za8.fN),(.int .i64 za8.fD)]))]) (.r5 rfl rfl rfl rfl rfl) (WC.eqL (L':=[stb z2N 175 [(.slice zgT z3f.length zgU)],row (.slice zgT z3f.length zgU) 132 2 (z3f.flatMap yu),stb z2u 225 [(.int .i64 zmA)],stb z3g 132 [(.int .i64 0),(.int .i64 0)],stb z32 177 [(.slice z1a zV.length z1b),(.int .i64 zj.fRate.fN),(.int .i64 zj.fRate.fD),(.int .i64 zj.fL.fN),(.int .i64 zj.fL.fD),(.func (.func 72) #[] #[(.pointer (some z14)),(.pointer (some z15))]),(.slice z1c zW.length z1d)],blk z3z (z4x .ready none)]) rfl (WC.a (WL.nA 7 (yx (cs:=[(.int .i64 0),(.int .i64 0)]) zH rfl) ?_)))
    intro zNl _
    refine WL.yl rfl rfl (yk zq rfl rfl rfl .here rfl rfl rfl) (WL.nil (WX.ybF zmE .h6 (WC.block (WC.b ?_))))
    obtain ⟨z6a,zNm,z6b⟩:=z7 z6b
    refine WC.a (WL.qA 18 (ya y9Z rfl rfl) (WL.qA 19 (yc zw1 rfl (yj .h6 rfl)) (WL.qA 20 (yf zb rfl (yh .h1) rfl) (WL.cA 21 (y2q (l:=[.tmp 5,.tmp 20]) Tryz.call72 rfl (.r2 rfl rfl)) (.cons .h4 .nil) (cc hz (.cons .h4 .nil) fun w pz ho=>yaT _ _ _ _ _ _ _ _ _ _ _ zNm w pz zmB zmC zmD ho) (WL.nA 8 (yx (cs:=[(.int .i64 0),(.int .i64 0)]) zH rfl) ?_)))))
    intro zNn _
    refine WL.yl rfl rfl (yk zq rfl rfl rfl .here rfl rfl rfl) (WL.nil (WX.a (WC.b ?_)))
    obtain ⟨ztt,zBs,z6b⟩:=z7 z6b
    refine WC.yP (fun i=>[].contains i) [] rfl (WD.qA 0 22 rfl (yc z6Y rfl (yj .h4 rfl)) (WD.pA 1 23 rfl (fun _=>yG Tryz.underlying175 rfl) (WD.pA 2 24 rfl (fun _=>y9P rfl rfl) (WD.pA 3 25 rfl (fun _=>q_m rfl) (WD.mid (fuel':=0) [(1,(.pointer (some ⟨z32,0,none⟩))),(12,(.bool (decide (zjM ≠ 0)))),(5,(.pointer (some ⟨z2u,0,none⟩))),(6,(.pointer (some ⟨z2N,0,none⟩))),(17,(.agg #[(.int .i64 za8.fN),(.int .i64 za8.fD)])),(7,(.pointer (some ⟨zNl,0,none⟩))),(18,(.pointer (some ⟨z32,5,none⟩))),(19,(.func (.func 72) #[] #[(.pointer (some z14)),(.pointer (some z15))])),(20,(.agg #[(.int .i64 za8.fN),(.int .i64 za8.fD)])),(21,(.agg #[(.int .i64 z6a.1.fN),(.int .i64 z6a.1.fD)])),(8,(.pointer (some ⟨zNn,0,none⟩))),(22,(.slice zgT z3f.length zgU)),(23,(.int .i64 ((z3f.length : Nat) : Int))),(24,(.bool (decide (((z3f.length : Nat) : Int) = 0)))),(25,(.bool (decide (((z3f.length : Nat) : Int) = 0)))),(32,(.bool ztt))] (y4c 11 [10,9,8,7,6,5,4,3,2,1,0]) ?_ (fun zBt=>?_))))))
    rotate_left
    ·rcases Bool.eq_false_or_eq_true (decide (((z3f.length : Nat) : Int) = 0)) with hb' | hb'
     ·have ztA:=hb'; clear hb'
      have ztB:=yo zBs ztA
      replace ztB:=Option.some.inj ztB
      refine WD.pin (i:=25) rfl ztA (WD.kA 4 26 rfl (WD.kA 5 27 rfl (WD.kA 6 28 rfl (WD.kA 7 29 rfl (WD.kA 8 30 rfl (WD.kA 9 31 rfl (WD.pA 10 32 rfl (fun _=>y3C rfl rfl) (WD.reL (.s8 .here .here .here .here .here .here .here .here) ?_ zBt))))))))
      exact (.cons rfl (.cons rfl (.cons rfl (.cons rfl (.cons rfl (.cons rfl (.cons rfl (.cons rfl (.cons rfl (.cons rfl (.cons rfl (.cons rfl (.cons rfl (.cons rfl (.cons (zB (Eq.symm ztA)) (.cons (zB ztB) .nil))))))))))))))))
     ·have ztC:=hb'; clear hb'
      have zel:=yp zBs ztC
      obtain ⟨zjQ,zel⟩:=ym zel
      obtain ⟨zBq,zNo,zel⟩:=z7 zel
      replace zel:=Option.some.inj zel
      refine WD.pin (i:=25) rfl ztC (WD.qA 4 26 rfl (yf zb rfl (yh .here) rfl) (WD.qA 5 27 rfl (yc z6Y rfl (yj .h4 rfl)) (WD.know (fun w hw=>Hp.y31 .h5 hw (by intro hz'; have:=zjQ; rw [hz'] at this; omega)) ?_)))
      rintro ⟨zWc,rfl⟩
      refine WD.pA 6 28 rfl (fun _=>y17 z1I rfl rfl zjQ.1 zjQ.2 y3S) (WD.qA 7 29 rfl (yR (cs:=(yu (nth z3f 0))) zb rfl rfl (y3F .h5 (y3e (enc:=yu) (l:=z3f) (i:=0) (sz:=2) (fun _=>rfl) zjQ.1 zjQ.2))) (WD.eA 8 30 rfl (z8 Tryz.call79 (.r2 rfl rfl)) (cc hz .nil fun w pz ho=>y47 _ _ _ _ zNo w pz ) (WD.pA 9 31 rfl (fun _=>ybZ rfl rfl) (WD.pA 10 32 rfl (fun _=>y3D rfl rfl) (WD.reL (.s8 .here .here .here .here .here .here .here .here) ?_ zBt)))))
      exact (.cons rfl (.cons rfl (.cons rfl (.cons rfl (.cons rfl (.cons rfl (.cons rfl (.cons rfl (.cons rfl (.cons rfl (.cons rfl (.cons rfl (.cons rfl (.cons rfl (.cons (zB (Eq.symm ztC)) (.cons (zB zel) .nil))))))))))))))))
    refine WD.done (by kernel_rfl) (WX.a (WC.cond rfl (fun ztD=>?_) (fun ztD=>?_)))
    ·replace z6b:=yo z6b ztD
     refine WC.a (WL.qA 33 (yf zb rfl (yh .here) rfl) (WL.nA 34 (yX (cs:=([z6a.1] : List z2).flatMap yu) z1I (Eos.parts (l:=[.tmp 33]) (.cons rfl .nil) [0]) (fun _=>by kernel_rfl) rfl (by unfold maxLen; omega)) ?_))
     intro ztE _
     refine WL.yl rfl rfl (yk znu rfl rfl rfl .h5 rfl rfl rfl) (WL.nil (WX.yq ?_))
     obtain ⟨rfl,rfl⟩:=y9w z6b
     exact WX.y6F zmE .h4 (fun w' hw'=>⟨((some ⟨ztE,0,none⟩),1),rfl,trivial,(hw'.selAll ((.s6 .h1 .h1 .h2 .h4 .h4 .here) : Sel _ [stb z2N 175 [(.slice (some ⟨ztE,0,none⟩) (([z6a.1] : List z2).length) 1)],row (.slice (some ⟨ztE,0,none⟩) (([z6a.1] : List z2).length) 1) 132 2 (([z6a.1] : List z2).flatMap yu),stb z2u 225 [(.int .i64 z6a.2.fE)],stb z3g 132 [(.int .i64 0),(.int .i64 0)],stb z32 177 [(.slice z1a zV.length z1b),(.int .i64 zj.fRate.fN),(.int .i64 zj.fRate.fD),(.int .i64 zj.fL.fN),(.int .i64 zj.fL.fD),(.func (.func 72) #[] #[(.pointer (some z14)),(.pointer (some z15))]),(.slice z1c zW.length z1d)],blk z3z (z4x .ready none)] _)).sub (.cons .here .nil)⟩)
    ·replace z6b:=yp z6b ztD
     refine WC.skip (WX.yq ?_)
     obtain ⟨rfl,rfl⟩:=y9w z6b
     exact WX.y6F zmE .h2 (fun w' hw'=>⟨(zgT,zgU),rfl,trivial,(hw'.selAll ((.s6 .h4 .h4 .h2 .h3 .h3 .here) : Sel _ [stb z2N 175 [(.slice zgT z3f.length zgU)],row (.slice zgT z3f.length zgU) 132 2 (z3f.flatMap yu),stb z2u 225 [(.int .i64 z6a.2.fE)],stb z3g 132 [(.int .i64 0),(.int .i64 0)],stb z32 177 [(.slice z1a zV.length z1b),(.int .i64 zj.fRate.fN),(.int .i64 zj.fRate.fD),(.int .i64 zj.fL.fN),(.int .i64 zj.fL.fD),(.func (.func 72) #[] #[(.pointer (some z14)),(.pointer (some z15))]),(.slice z1c zW.length z1d)],blk z3z (z4x .ready none)] _)).sub (.cons .here .nil)⟩)
   ·skip
    rintro _ w' ⟨⟨zjR,zjS⟩,rfl,_,hp⟩
    have hp1:=hw1.call ((.cons .here .nil) : Sel [y26 [stb z2N 175 [(.slice none (([] : List z2).length) 0)],row (.slice none (([] : List z2).length) 0) 132 2 (([] : List z2).flatMap yu),stb z2u 225 [(.int .i64 0)],stb z3g 132 [(.int .i64 0),(.int .i64 0)],stb z32 177 [(.slice z1a zV.length z1b),(.int .i64 zj.fRate.fN),(.int .i64 zj.fRate.fD),(.int .i64 zj.fL.fN),(.int .i64 zj.fL.fD),(.func (.func 72) #[] #[(.pointer (some z14)),(.pointer (some z15))]),(.slice z1c zW.length z1d)],blk z3z (z4x .ready none)],dfr z5F,stb z3V 177 [(.slice z1a zV.length z1b),(.int .i64 zs.1),(.int .i64 zs.2.1),(.int .i64 zs.2.2.1),(.int .i64 zs.2.2.2),(.func (.func 72) #[] #[(.pointer (some z14)),(.pointer (some z15))]),(.slice z1c zW.length z1d)]] [y26 [stb z2N 175 [(.slice none (([] : List z2).length) 0)],row (.slice none (([] : List z2).length) 0) 132 2 (([] : List z2).flatMap yu),stb z2u 225 [(.int .i64 0)],stb z3g 132 [(.int .i64 0),(.int .i64 0)],stb z32 177 [(.slice z1a zV.length z1b),(.int .i64 zj.fRate.fN),(.int .i64 zj.fRate.fD),(.int .i64 zj.fL.fN),(.int .i64 zj.fL.fD),(.func (.func 72) #[] #[(.pointer (some z14)),(.pointer (some z15))]),(.slice z1c zW.length z1d)],blk z3z (z4x .ready none)]] [dfr z5F,stb z3V 177 [(.slice z1a zV.length z1b),(.int .i64 zs.1),(.int .i64 zs.2.1),(.int .i64 zs.2.2.1),(.int .i64 zs.2.2.2),(.func (.func 72) #[] #[(.pointer (some z14)),(.pointer (some z15))]),(.slice z1c zW.length z1d)]]) hp
    have hp2 : Hp _ _ w' [stb z2N 175 [(.slice zjR z3y.2.1.length zjS)],row (.slice zjR z3y.2.1.length zjS) 132 2 (z3y.2.1.flatMap yu),stb z2u 225 [(.int .i64 z3y.2.2)],stb z3g 132 [(.int .i64 0),(.int .i64 0)],stb z32 177 [(.slice z1a zV.length z1b),(.int .i64 zj.fRate.fN),(.int .i64 zj.fRate.fD),(.int .i64 zj.fL.fN),(.int .i64 zj.fL.fD),(.func (.func 72) #[] #[(.pointer (some z14)),(.pointer (some z15))]),(.slice z1c zW.length z1d)],blk z3z (z4x (rdy (pcs [] z3y.1)) (pcs [] z3y.1)),dfr z5F,stb z3V 177 [(.slice z1a zV.length z1b),(.int .i64 zs.1),(.int .i64 zs.2.1),(.int .i64 zs.2.2.1),(.int .i64 zs.2.2.2),(.func (.func 72) #[] #[(.pointer (some z14)),(.pointer (some z15))]),(.slice z1c zW.length z1d)]]:=hp1.pickAll .here
    refine ⟨_,pcs [] z3y.1,_,rfl,(hp2.sub ((.s8 .h5 .here .here .here .here .here .here .here) : Sel _ [blk z3z (z4x (rdy (pcs [] z3y.1)) (pcs [] z3y.1)),stb z2N 175 [(.slice zjR z3y.2.1.length zjS)],row (.slice zjR z3y.2.1.length zjS) 132 2 (z3y.2.1.flatMap yu),stb z2u 225 [(.int .i64 z3y.2.2)],stb z3g 132 [(.int .i64 0),(.int .i64 0)],stb z32 177 [(.slice z1a zV.length z1b),(.int .i64 zj.fRate.fN),(.int .i64 zj.fRate.fD),(.int .i64 zj.fL.fN),(.int .i64 zj.fL.fD),(.func (.func 72) #[] #[(.pointer (some z14)),(.pointer (some z15))]),(.slice z1c zW.length z1d)],dfr z5F,stb z3V 177 [(.slice z1a zV.length z1b),(.int .i64 zs.1),(.int .i64 zs.2.1),(.int .i64 zs.2.2.1),(.int .i64 zs.2.2.2),(.func (.func 72) #[] #[(.pointer (some z14)),(.pointer (some z15))]),(.slice z1c zW.length z1d)]] _)),?_⟩
    clear hp hp1 hp2 pz hw hw1
    refine wjN ?_
    letI : Rnd:=aft z5F
    refine WX.yq ?_
    exact WX.midR (D:=fun (g : Nat × Int × List z2 × Option Addr × Nat)=>g.1) (G:=Nat × Int × List z2 × Option Addr × Nat) ⟨z5F,z3y.2.2,z3y.2.1,zjR,zjS⟩ h (.r3 rfl rfl rfl) (.s5 .h3 .h2 .here .here .h1)
  ·rintro zjN z87 z5E zjO zjP h
   replace h:=(zNd z87 z5E).symm.trans h
   letI : Rnd:=aft zjN
   refine WC.b (WC.b (WC.a (WL.qA 35 (ya y4v rfl rfl) (WL.qA 36 (yc y2Y rfl (yj .h1 rfl)) (WL.pu rfl (WL.nil (WX.a (WC.cond rfl (fun ztF=>?_) (fun ztF=>?_)))))))))
   ·replace h:=yo h ztF
    refine WC.b (WC.yP (fun i=>[3].contains i) [y7c z2u 225 [(0,(.int .i64 z87))]] rfl (WD.pA 0 38 rfl (fun _=>yL (v:=(.agg #[(.int .i64 0),(.int .i64 0)])) (Eos.parts (l:=[]) .nil []) (fun _=>by kernel_rfl)) (WD.pA 1 39 rfl (fun _=>ya y4v rfl rfl) (WD.sA 2 40 rfl (Sin.wk (.cons .h1 .nil) (.stb (.cons rfl .nil) .nil)) (yc y2Y rfl (y5C .here (.head _))) (WD.forced0 (i:=3) rfl (by kernel_rfl) rfl rfl rfl (Sin.wk (.cons .h1 .nil) (.stb (.cons rfl .nil) .nil)) (yk zq rfl rfl rfl .here rfl rfl rfl) (WD.pA 4 3 rfl (fun _=>q_z rfl) (WD.done (by kernel_rfl) (WX.a (WC.ret (WX.yd ?_))))))))))
    obtain rfl:=Option.some.inj h
    refine WX.y7k .h4 Tryz.results77 (.agg rfl zb rfl (yh .h1) (.tmp rfl .nil)) (fun w hw=>?_)
    exact ⟨y1U rfl rfl,hw.sub .nil⟩
   ·replace h:=yp h ztF
    refine WC.skip (WX.a (WC.b ?_))
    obtain ⟨zjT,h⟩:=ym h
    refine WC.a (WL.qA 41 (yc z6Y rfl (yj .h2 rfl)) (WL.know (fun w hw=>Hp.y31 .h3 hw (by intro hz'; have:=zjT; rw [hz'] at this; omega)) ?_))
    rintro ⟨zWd,rfl⟩
    refine WL.qA 42 (y17 z1I rfl rfl zjT.1 zjT.2 y3S) (WL.qA 43 (yR (cs:=(yu (nth z5E 0))) zb rfl rfl (y3F .h3 (y3e (enc:=yu) (l:=z5E) (i:=0) (sz:=2) (fun _=>rfl) zjT.1 zjT.2))) (WL.yl rfl rfl (yk zq rfl rfl rfl .here rfl rfl rfl) (WL.pu rfl (WL.nil (WX.a (WC.ret ?_))))))
    obtain rfl:=Option.some.inj h
    refine WX.y7k .h4 Tryz.results77 (.agg rfl zb rfl (yh .h1) (.tmp rfl .nil)) (fun w hw=>?_)
    exact ⟨y1U rfl rfl,hw.sub .nil⟩
def y4Y (za9 : List (List z6)) (z3h : zSv) : Option (z2 × Int) :=
 (y3L za9 z3h za9 z3h []).bind fun ztG=>some (ztG.1,ztG.2)
theorem ybK (Z : Zp) (zjU : Option Addr) (zjV : Nat) (za9 : List (List z6)) (z3h : zSv) (r : z2 × Int)
  (h : y4Y za9 z3h = some r) (w₀ : World) (hz : PZ [] w₀ Z)
  (zBu : ZS Z 1 (y1P Z) zjU zjV za9) :
  Calls Tryz.prog 44 #[(.slice zjU za9.length zjV),(.agg #[(.int .i64 z3h.fRate.fN),(.int .i64 z3h.fRate.fD),(.int .i64 z3h.fL.fN),(.int .i64 z3h.fL.fD)])] w₀ fun e w'=>e = .returned (.tuple #[(.agg #[(.int .i64 r.1.fN),(.int .i64 r.1.fD)]),(.int .i64 r.2)]) ∧ Hp [] w₀ w' []:=by
 unfold y4Y at h
 refine Calls.yI Tryz.func44 Tryz.ntmps44 ?_
 refine WC.b (WC.a (WL.nA 2 (yH (cs:=[(.slice zjU za9.length zjV)]) rfl rfl) ?_))
 intro zNp _
 refine WL.nA 3 (yH (cs:=[(.int .i64 z3h.fRate.fN),(.int .i64 z3h.fRate.fD),(.int .i64 z3h.fL.fN),(.int .i64 z3h.fL.fD)]) rfl rfl) ?_
 intro zNq _
 refine WL.nA 4 (yx (cs:=[(.int .i64 0),(.int .i64 0)]) zH rfl) ?_
 intro zWe _
 refine WL.pu rfl (WL.nil (WX.a (WC.b (WC.a (WL.qA 7 (yc z6h rfl (yj .h2 rfl)) (WL.qA 8 (yf zeL rfl (yh .h1) rfl) (WL.qA 9 (yL (v:=(.agg #[(.slice zjU za9.length zjV),(.int .i64 z3h.fRate.fN),(.int .i64 z3h.fRate.fD),(.int .i64 z3h.fL.fN),(.int .i64 z3h.fL.fD),.nilFunc,(.slice none 0 0)])) (Eos.parts (l:=[.tmp 7,.tmp 8]) (.r2 rfl rfl) [0,1]) (fun _=>by kernel_rfl)) (WL.nA 6 (yx (cs:=[(.slice none 0 0),(.int .i64 0),(.int .i64 0),(.int .i64 0),(.int .i64 0),.nilFunc,(.slice none 0 0)]) zvV rfl) ?_))))))))
 intro zWf _
 refine WL.yl rfl rfl (yk zvW rfl rfl rfl .here rfl rfl rfl) (WL.nil (WX.a (WC.b (WC.a (WL.qA 10 (y18 (Eos.caps (l:=[.tmp 2,.tmp 3]) (.r2 rfl rfl))) (WL.qA 11 (ya y9Z rfl rfl) (WL.yl rfl rfl (y5T (ds:=[(.slice zjU za9.length zjV),(.int .i64 z3h.fRate.fN),(.int .i64 z3h.fRate.fD),(.int .i64 z3h.fL.fN),(.int .i64 z3h.fL.fD),(.func (.func 72) #[] #[(.pointer (some ⟨zNp,0,none⟩)),(.pointer (some ⟨zNq,0,none⟩))]),(.slice none 0 0)]) zvX rfl rfl rfl rfl rfl .here rfl rfl) (WL.nil (WX.a (WC.b ?_))))))))))
 obtain ⟨ztG,zNr,h⟩:=z7 h
 refine WC.a (WL.qA 12 (yf zeM rfl (yh .here) rfl) (WL.cA 13 (z8 Tryz.call77 (.cons rfl .nil)) .nil (ccl hz .nil (.s2 .h3 .h2) fun w pz ho la=>y9I _ _ _ _ _ _ _ _ _ _ _ _ _ _ _ zNr w pz ((zBu.mono (Zle.left _ _)).weak (fun _ _ h=>y37 (Zle.left _ _) h)) ((zBu.mono (Zle.left _ _)).weak (fun _ _ h=>y37 (Zle.left _ _) h)) ((la _ (.head _) _).stb) ((la _ (.tail _ (.head _)) _).stb) (ZS.nil _ _ _)) (WL.pu rfl (WL.pu rfl (WL.yl rfl rfl (yk zq rfl rfl rfl .h1 rfl rfl rfl) (WL.pu rfl (WL.nil (WX.a (WC.ret ?_)))))))))
 obtain rfl:=Option.some.inj h
 refine WX.ye Tryz.results44 (.agg rfl zb rfl (yh .here) (.tmp rfl .nil)) (fun w hw=>?_)
 exact ⟨y1U rfl rfl,hw.sub .nil⟩
def y1L (z33 : List (List z6)) (zaa : Int → Int → Int → Option Int) : Nat → Int → Int → Int → Int → Option Int
 | 0,_,_,_,_=>none
 | ztH + 1,z4W,z6C,z6D,z6E=>if decide (z4W < ((z33.length : Nat) : Int)) then chk ((0 : Int) ≤ z4W ∧ z4W < ((z33.length : Nat) : Int)) ((y1O (nth z33 z4W)).bind fun ztI=>if decide (ztI.2 ≠ 0) then some ztI.2 else (y4m (nth z33 z4W)).bind fun zBv=>(y10 (⟨z6C⟩ : z18) (fun (y0 : z2) (y1 : z2)=>y1d y0 y1) (⟨z6D,z6E⟩ : z2) zBv.1).bind fun zem=>y1L z33 zaa ztH (i64 (z4W + 1)) zem.2.fE zem.1.fN zem.1.fD) else zaa z6C z6D z6E
theorem y7h {n : Nat} {z33 : List (List z6)} {zaa : Int → Int → Int → Option Int} {z4W : Int} {z6C : Int} {z6D : Int} {z6E : Int} {r : Int} (h : y1L z33 zaa n z4W z6C z6D z6E = some r) : ∃ m,n = m + 1:=by
 cases n with
 | zero=>cases h
 | succ m=>exact ⟨m,rfl⟩
def y3d (z33 : List (List z6)) (z1X : zSv) (zmF : List (List z6)) (zgV : zSv) (zen : List z2) : Option Int :=
 (if decide (((z33.length : Nat) : Int) > 32) then some true else (y16 z33 (fun (y0 : List z6)=>y1p y0)).bind fun zBw=>some zBw).bind fun ztJ=>(if ztJ then some true else (y4g z1X).bind fun zBx=>some (!zBx)).bind fun ztK=>if ztK then some 2 else (y2z).bind fun zjW=>jp3 (fun (zab : Int) (zc9 : Int) (zca : Int)=>(if decide (zab = 0) then (y1i (⟨zc9,zca⟩ : z2) z1X.fRate).bind fun zBy=>some (decide (zBy > 0)) else some false).bind fun ztL=>if ztL then some 6 else some zab) fun zaa=>y1L z33 zaa yz 0 0 zjW.fN zjW.fD
theorem y8Y (Z : Zp) (zgW : Option Addr) (zgX : Nat) (zjX : Addr) (zBz : Option Addr) (zBA : Nat) (zjY : Addr) (zjZ : Option Addr) (zk0 : Nat) (z33 : List (List z6)) (z1X : zSv) (zmF : List (List z6)) (zgV : zSv) (zen : List z2) (r : Int)
  (h : y3d z33 z1X zmF zgV zen = some r) (w₀ : World) (hz : PZ [] w₀ Z)
  (zBB : ZS Z 1 (y1P Z) zgW zgX z33)
  (zWg : ZS Z 1 (y1P Z) zBz zBA zmF)
  (zWh : ZC Z zjX [(.slice zBz zmF.length zBA)])
  (zWi : ZC Z zjY [(.int .i64 zgV.fRate.fN),(.int .i64 zgV.fRate.fD),(.int .i64 zgV.fL.fN),(.int .i64 zgV.fL.fD)])
  (zWj : ZS Z 2 (fun r x=>r = yu x) zjZ zk0 zen) :
  Calls Tryz.prog 109 #[(.agg #[(.slice zgW z33.length zgX),(.int .i64 z1X.fRate.fN),(.int .i64 z1X.fRate.fD),(.int .i64 z1X.fL.fN),(.int .i64 z1X.fL.fD),(.func (.func 78) #[] #[(.pointer (some zjX)),(.pointer (some zjY))]),(.slice zjZ zen.length zk0)])] w₀ fun e w'=>e = .returned (.int .i64 r) ∧ Hp [] w₀ w' []:=by
 unfold y3d at h
 refine Calls.on1 Tryz.func109 Tryz.ntmps109 ?_
 refine WC.b (WC.a (WL.nA 1 (yH (cs:=[(.slice zgW z33.length zgX),(.int .i64 z1X.fRate.fN),(.int .i64 z1X.fRate.fD),(.int .i64 z1X.fL.fN),(.int .i64 z1X.fL.fD),(.func (.func 78) #[] #[(.pointer (some zjX)),(.pointer (some zjY))]),(.slice zjZ zen.length zk0)]) rfl rfl) ?_))
 intro zmG _
 refine WL.pu rfl (WL.nil (WX.a (WC.b (WC.b ?_))))
 obtain ⟨ztJ,zBC,h⟩:=z7 h
 obtain ⟨ztK,zBD,h⟩:=z7 h
 refine WC.a (WL.qA 11 (ya y6w rfl rfl) (WL.qA 12 (yc z6h rfl (yj .here rfl)) (WL.qA 13 (yG Tryz.underlying128 rfl) (WL.pu rfl (WL.pu rfl (WL.seg false 3 15 (B:=ztJ) rfl rfl rfl rfl rfl rfl (fun h=>(Option.some.inj (yo zBC h)).symm) (fun _ zNs=>?_) ?_))))))
 ·skip
  have zk1:=yp zBC zNs
  obtain ⟨zBw,zNt,zk1⟩:=z7 zk1
  replace zk1:=Option.some.inj zk1
  refine WL.qA 16 (ya y6w rfl rfl) (WL.qA 17 (yc z6h rfl (yj .here rfl)) (WL.cA 18 (z8 Tryz.call150 (.r2 rfl rfl)) .nil (cc hz .nil fun w pz ho=>y3R _ _ _ (zdL:=151) (zj2:=[]) _ (zdK:=(fun (y0 : List z6)=>y1p y0)) _ zNt w pz zBB Tryz.call151 (fun w' hz' y0 ga0 gc0 r gh0 hr=>y6l _ _ _ _ _ hr w' hz' gh0)) (WL.pu rfl ?_)))
  exact WL.yB zk1 rfl rfl .all
 refine WL.pu rfl (WL.seg false 4 20 (B:=ztK) rfl rfl rfl rfl rfl rfl (fun h=>(Option.some.inj (yo zBD h)).symm) (fun _ zNu=>?_) ?_)
 ·skip
  have zk2:=yp zBD zNu
  obtain ⟨zBx,zNv,zk2⟩:=z7 zk2
  replace zk2:=Option.some.inj zk2
  refine WL.qA 21 (ya ya0 rfl rfl) (WL.qA 22 (yR (cs:=[(.int .i64 z1X.fRate.fN),(.int .i64 z1X.fRate.fD),(.int .i64 z1X.fL.fN),(.int .i64 z1X.fL.fD)]) zeL rfl rfl (y30 (s:=4) .here rfl)) (WL.cA 23 (z8 Tryz.call152 (.cons rfl .nil)) .nil (cc hz .nil fun w pz ho=>y8W _ _ _ zNv w pz ) (WL.pu rfl (WL.pu rfl ?_))))
  exact WL.yB zk2 rfl rfl .all
 refine WL.nil (WX.a (WC.cond rfl (fun ztM=>?_) (fun ztM=>?_)))
 ·replace h:=yo h ztM
  refine WC.b (WC.a (WL.pu rfl (WL.nil (WX.a (WC.ret (WX.yd ?_))))))
  obtain rfl:=Option.some.inj h
  refine WX.ye Tryz.results109 (.tmp rfl .nil) (fun w hw=>?_)
  exact ⟨yC rfl,hw.sub .nil⟩
 ·replace h:=yp h ztM
  refine WC.skip (WX.a (WC.b (WC.a (WL.nA 3 (yx (cs:=[(.int .i64 0)]) zkK rfl) ?_))))
  intro zmH _
  refine WL.nil (WX.a (WC.b ?_))
  obtain ⟨zjW,zNw,h⟩:=z7 h
  refine WC.a (WL.cA 26 (z8 Tryz.call107 .nil) .nil (cc hz .nil fun w pz ho=>y3X _ _ zNw w pz ) (WL.nA 4 (yx (cs:=[(.int .i64 0),(.int .i64 0)]) zH rfl) ?_))
  intro zmI _
  refine WL.yl rfl rfl (yk zq rfl rfl rfl .here rfl rfl rfl) (WL.nil (WX.a ?_))
  obtain ⟨zaa,zNx,h⟩:=y9U h
  refine WC.y2F (fun (zab : Int) (zc9 : Int) (zca : Int)=>(zaa zab zc9 zca = some r)) (fun zab zc9 zca=>[(1,(.pointer (some ⟨zmG,0,none⟩))),(3,(.pointer (some ⟨zmH,0,none⟩))),(4,(.pointer (some ⟨zmI,0,none⟩)))]) (fun zab zc9 zca=>[stb zmG 177 [(.slice zgW z33.length zgX),(.int .i64 z1X.fRate.fN),(.int .i64 z1X.fRate.fD),(.int .i64 z1X.fL.fN),(.int .i64 z1X.fL.fD),(.func (.func 78) #[] #[(.pointer (some zjX)),(.pointer (some zjY))]),(.slice zjZ zen.length zk0)],stb zmH 225 [(.int .i64 zab)],stb zmI 132 [(.int .i64 zc9),(.int .i64 zca)]]) ?_ ?_
  ·skip
   refine WC.b (WC.a (WL.qA 27 (ya y6w rfl rfl) (WL.qA 28 (yc z6h rfl (yj .h2 rfl)) (WL.qA 29 (yG Tryz.underlying128 rfl) (WL.pu rfl (WL.nil (WX.a (WC.block (WC.y6s (fun (zgY : Nat) (z4W : Int) (z6C : Int) (z6D : Int) (z6E : Int)=>(y1L z33 zaa zgY z4W z6C z6D z6E = some r)) (fun zgY z4W z6C z6D z6E=>[(1,(.pointer (some ⟨zmG,0,none⟩))),(3,(.pointer (some ⟨zmH,0,none⟩))),(4,(.pointer (some ⟨zmI,0,none⟩))),(28,(.slice zgW z33.length zgX)),(29,(.int .i64 ((z33.length : Nat) : Int))),(30,(.int .i64 z4W))]) (fun zgY z4W z6C z6D z6E=>[stb zmG 177 [(.slice zgW z33.length zgX),(.int .i64 z1X.fRate.fN),(.int .i64 z1X.fRate.fD),(.int .i64 z1X.fL.fN),(.int .i64 z1X.fL.fD),(.func (.func 78) #[] #[(.pointer (some zjX)),(.pointer (some zjY))]),(.slice zjZ zen.length zk0)],stb zmH 225 [(.int .i64 z6C)],stb zmI 132 [(.int .i64 z6D),(.int .i64 z6E)]]) (fun zgY z4W z6C z6D z6E=>zgY) ⟨yz,0,0,zjW.fN,zjW.fD⟩ h (.r6 rfl rfl rfl rfl rfl rfl) (.s3 .h2 .h1 .here) ?_)))))))))
   rintro zgY z4W z6C z6D z6E h
   obtain ⟨ztH,rfl⟩:=y7h h
   rw [y1L] at h
   refine WC.b (WC.a (WL.pu rfl (WL.nil (WX.a (WC.b (WC.cond rfl (fun ztN=>?_) (fun ztN=>?_)))))))
   ·replace h:=yo h ztN
    refine WC.skip (WX.a (WC.b (WC.block (WC.b ?_))))
    obtain ⟨zNy,h⟩:=ym h
    refine WC.a (WL.znth (dd:=32) rfl rfl (Z:=Z) (Pr:=(y1P Z)) z6X rfl rfl zBB zNy ?_)
    rintro zWk zWl zNz zWm ⟨zWn,zWo,rfl,zBE⟩
    refine WL.qA 33 (yc zaF rfl (y53 hz.pv zNz rfl)) (WL.pu rfl (WL.nil (WX.a (WC.b (WC.b ?_)))))
    obtain ⟨ztI,zNA,h⟩:=z7 h
    refine WC.a (WL.pu rfl (WL.y45 (dd:=36) rfl rfl rfl (z8 Tryz.call153 (.cons rfl .nil)) .nil (cc hz .nil fun w pz ho=>y6N _ _ _ _ _ zNA w pz zBE) ?_))
    rintro zWp zWq _
    refine WL.pu rfl (WL.pu rfl (WL.pu rfl (WL.pu rfl (WL.pu rfl (WL.nil (WX.a (WC.b (WC.a (WL.pu rfl (WL.pu rfl (WL.nil (WX.a (WC.cond rfl (fun ztO=>?_) (fun ztO=>?_))))))))))))))
    ·replace h:=yo h ztO
     refine WC.b (WC.a (WL.pu rfl (WL.pu rfl (WL.nil (WX.a (WC.ret (WX.yd (WX.yt (WX.yd (WX.yd (WX.yt (WX.yd ?_))))))))))))
     obtain rfl:=Option.some.inj h
     refine WX.ye Tryz.results109 (.tmp rfl .nil) (fun w hw=>?_)
     exact ⟨yC rfl,hw.sub .nil⟩
    ·replace h:=yp h ztO
     refine WC.skip (WX.a (WC.b ?_))
     obtain ⟨zBv,zNB,h⟩:=z7 h
     refine WC.a (WL.pu rfl (WL.cA 44 (z8 Tryz.call154 (.cons rfl .nil)) .nil (cc hz .nil fun w pz ho=>yaQ _ _ _ _ _ zNB w pz zBE) (WL.pu rfl (WL.pu rfl (WL.pu rfl (WL.nA 9 (yx (cs:=[(.int .i64 0),(.int .i64 0)]) zH rfl) ?_))))))
     intro zWr _
     refine WL.yl rfl rfl (yk zq rfl rfl rfl .here rfl rfl rfl) (WL.pu rfl (WL.nil (WX.a ?_)))
     obtain ⟨zem,zNC,h⟩:=z7 h
     refine WC.a (WL.qA 47 (yf zb rfl (yh .h4) rfl) (WL.qA 48 (yf zb rfl (yh .here) rfl) (WL.cA 49 (z8 Tryz.call73 (.r4 rfl rfl rfl rfl)) (.cons .h3 .nil) (cc hz (.cons .h3 .nil) fun w pz ho=>y2f _ _ (z5A:=69) (z6w:=[]) _ (z64:=(fun (y0 : z2) (y1 : z2)=>y1d y0 y1)) _ _ _ zNC w pz Tryz.call69 (fun w' hz' y0 y1  r  hr=>y5S _ _ _ _ hr w' hz' ) ho) (WL.yl rfl rfl (yk zq rfl rfl rfl .h4 rfl rfl rfl) (WL.nil (WX.yq (WX.a (WC.a (WL.pu rfl (WL.pu rfl (WL.nil ?_)))))))))))
     exact WX.round ⟨ztH,(i64 (z4W + 1)),zem.2.fE,zem.1.fN,zem.1.fD⟩ h (Nat.lt_succ_self _) (.r6 rfl rfl rfl rfl rfl rfl) (.s3 .h4 .h1 .here)
   ·replace h:=yp h ztN
    refine WC.exit (WX.yg (WX.yg (WX.yA ?_)))
    exact WX.mid ⟨z6C,z6D,z6E⟩ h (.r3 rfl rfl rfl) (.s3 .here .here .here)
  ·rintro zab zc9 zca h
   replace h:=(zNx zab zc9 zca).symm.trans h
   refine WC.b (WC.b ?_)
   obtain ⟨ztL,zBF,h⟩:=z7 h
   refine WC.a (WL.qA 51 (ya y4v rfl rfl) (WL.qA 52 (yc y2Y rfl (yj .h1 rfl)) (WL.pu rfl (WL.pu rfl (WL.seg true 6 54 (B:=ztL) rfl rfl rfl rfl rfl rfl (fun h=>(Option.some.inj (yp zBF h)).symm) (fun _ zND=>?_) ?_)))))
   ·skip
    have zk3:=yo zBF zND
    obtain ⟨zBy,zNE,zk3⟩:=z7 zk3
    replace zk3:=Option.some.inj zk3
    refine WL.qA 55 (yf zb rfl (yh .h2) rfl) (WL.qA 56 (ya ya0 rfl rfl) (WL.qA 57 (ya y7W rfl rfl) (WL.qA 58 (yR (cs:=[(.int .i64 z1X.fRate.fN),(.int .i64 z1X.fRate.fD)]) zb rfl rfl (y30 (s:=2) .here rfl)) (WL.cA 59 (z8 Tryz.call79 (.r2 rfl rfl)) .nil (cc hz .nil fun w pz ho=>y47 _ _ _ _ zNE w pz ) (WL.pu rfl (WL.pu rfl ?_))))))
    exact WL.yB zk3 rfl rfl .all
   refine WL.nil (WX.a (WC.cond rfl (fun ztP=>?_) (fun ztP=>?_)))
   ·replace h:=yo h ztP
    refine WC.b (WC.a (WL.pu rfl (WL.nil (WX.a (WC.ret (WX.yd ?_))))))
    obtain rfl:=Option.some.inj h
    refine WX.ye Tryz.results109 (.tmp rfl .nil) (fun w hw=>?_)
    exact ⟨yC rfl,hw.sub .nil⟩
   ·replace h:=yp h ztP
    refine WC.skip (WX.a (WC.b (WC.a (WL.qA 62 (ya y4v rfl rfl) (WL.qA 63 (yc y2Y rfl (yj .h1 rfl)) (WL.pu rfl (WL.nil (WX.a (WC.ret ?_)))))))))
    obtain rfl:=Option.some.inj h
    refine WX.ye Tryz.results109 (.tmp rfl .nil) (fun w hw=>?_)
    exact ⟨yC rfl,hw.sub .nil⟩
def y3N (zgZ : List (List z6)) (z5G : zSv) (zmJ : List (List z6)) (zh0 : zSv) (zh1 : List z2) : Option (Int × Int × Int × Int) :=
 some (z5G.fRate.fN,z5G.fRate.fD,z5G.fL.fN,z5G.fL.fD)
theorem y8B (Z : Zp) (zmK : Option Addr) (zmL : Nat) (zmM : Addr) (zBG : Option Addr) (zBH : Nat) (zmN : Addr) (zmO : Option Addr) (zmP : Nat) (zgZ : List (List z6)) (z5G : zSv) (zmJ : List (List z6)) (zh0 : zSv) (zh1 : List z2) (r : Int × Int × Int × Int)
  (h : y3N zgZ z5G zmJ zh0 zh1 = some r) (w₀ : World) (hz : PZ [] w₀ Z)
  (zWs : ZS Z 1 (y1P Z) zmK zmL zgZ)
  (zWt : ZS Z 1 (y1P Z) zBG zBH zmJ)
  (zWu : ZC Z zmM [(.slice zBG zmJ.length zBH)])
  (zWv : ZC Z zmN [(.int .i64 zh0.fRate.fN),(.int .i64 zh0.fRate.fD),(.int .i64 zh0.fL.fN),(.int .i64 zh0.fL.fD)])
  (zWw : ZS Z 2 (fun r x=>r = yu x) zmO zmP zh1) :
  Calls Tryz.prog 110 #[(.agg #[(.slice zmK zgZ.length zmL),(.int .i64 z5G.fRate.fN),(.int .i64 z5G.fRate.fD),(.int .i64 z5G.fL.fN),(.int .i64 z5G.fL.fD),(.func (.func 78) #[] #[(.pointer (some zmM)),(.pointer (some zmN))]),(.slice zmO zh1.length zmP)])] w₀ fun e w'=>∃ zBI : Nat,e = .returned (.func (.func 155) #[] #[(.pointer (some ⟨zBI,0,none⟩))]) ∧ True ∧ Hp [] w₀ w' [stb zBI 177 [(.slice zmK zgZ.length zmL),(.int .i64 r.1),(.int .i64 r.2.1),(.int .i64 r.2.2.1),(.int .i64 r.2.2.2),(.func (.func 78) #[] #[(.pointer (some zmM)),(.pointer (some zmN))]),(.slice zmO zh1.length zmP)]]:=by
 unfold y3N at h
 refine Calls.on1 Tryz.func110 Tryz.ntmps110 ?_
 refine WC.b (WC.a (WL.nA 1 (yH (cs:=[(.slice zmK zgZ.length zmL),(.int .i64 z5G.fRate.fN),(.int .i64 z5G.fRate.fD),(.int .i64 z5G.fL.fN),(.int .i64 z5G.fL.fD),(.func (.func 78) #[] #[(.pointer (some zmM)),(.pointer (some zmN))]),(.slice zmO zh1.length zmP)]) rfl rfl) ?_))
 intro zNF _
 refine WL.pu rfl (WL.nil (WX.a (WC.b (WC.a (WL.qA 3 (y18 (Eos.caps (l:=[.tmp 1]) (.cons rfl .nil))) (WL.pu rfl (WL.nil (WX.a (WC.ret ?_)))))))))
 obtain rfl:=Option.some.inj h
 refine WX.ye Tryz.results110 (.tmp rfl .nil) (fun w hw=>?_)
 exact ⟨zNF,yC rfl,trivial,hw.sub (.cons .here .nil)⟩
def y1t (zp : Type) (z27 : List z2 × Int) (z1Q : z2 → zp → Option (Bool × zp)) (zac : zp → Option zp) : Nat → Int → zp → Option zp
 | 0,_,_=>none
 | ztQ + 1,z2v,z4X=>if decide (z2v < ((z27.1.length : Nat) : Int)) then chk ((0 : Int) ≤ z2v ∧ z2v < ((z27.1.length : Nat) : Int)) ((y1I (⟨((nth z27.1 z2v).fN),((nth z27.1 z2v).fD)⟩ : z2)).bind fun zBJ=>(y1k zBJ).bind fun ztR=>(z1Q ztR z4X).bind fun z88=>(if !z88.1 then some (true,z88.2) else (y2u (⟨((nth z27.1 z2v).fN),((nth z27.1 z2v).fD)⟩ : z2)).bind fun zBK=>(y1k zBK).bind fun ztS=>(z1Q ztS z88.2).bind fun zk4=>some (!zk4.1,zk4.2)).bind fun zcb=>if zcb.1 then some zcb.2 else y1t zp z27 z1Q zac ztQ (i64 (z2v + 1)) zcb.2) else zac z4X
theorem y6O {n : Nat} {zp : Type} {z27 : List z2 × Int} {z1Q : z2 → zp → Option (Bool × zp)} {zac : zp → Option zp} {z2v : Int} {z4X : zp} {r : zp} (h : y1t zp z27 z1Q zac n z2v z4X = some r) : ∃ m,n = m + 1:=by
 cases n with
 | zero=>cases h
 | succ m=>exact ⟨m,rfl⟩
def y1u (zp : Type) (z2j : List (List z6)) (z1Q : z2 → zp → Option (Bool × zp)) (zad : zp → Option zp) : Nat → Int → zp → Option zp
 | 0,_,_=>none
 | ztT + 1,z3A,z5H=>if decide (z3A < ((z2j.length : Nat) : Int)) then jp1 (fun (z89 : zp)=>y1u zp z2j z1Q zad ztT (i64 (z3A + 1)) z89) fun ztU=>chk ((0 : Int) ≤ z3A ∧ z3A < ((z2j.length : Nat) : Int)) ((y1O (nth z2j z3A)).bind fun z27=>jp1 (fun (z8a : zp)=>ztU z8a) fun zac=>y1t zp z27 z1Q zac yz 0 z5H) else zad z5H
theorem y6P {n : Nat} {zp : Type} {z2j : List (List z6)} {z1Q : z2 → zp → Option (Bool × zp)} {zad : zp → Option zp} {z3A : Int} {z5H : zp} {r : zp} (h : y1u zp z2j z1Q zad n z3A z5H = some r) : ∃ m,n = m + 1:=by
 cases n with
 | zero=>cases h
 | succ m=>exact ⟨m,rfl⟩
def y1v (zp : Type) (z2w : List z2) (z1Q : z2 → zp → Option (Bool × zp)) (zae : zp → Option zp) : Nat → Int → zp → Option zp
 | 0,_,_=>none
 | ztV + 1,z34,z4Y=>if decide (z34 < ((z2w.length : Nat) : Int)) then chk ((0 : Int) ≤ z34 ∧ z34 < ((z2w.length : Nat) : Int)) ((y1I (⟨((nth z2w z34).fN),((nth z2w z34).fD)⟩ : z2)).bind fun zBL=>(y1k zBL).bind fun ztW=>(z1Q ztW z4Y).bind fun z8b=>(if !z8b.1 then some (true,z8b.2) else (y2u (⟨((nth z2w z34).fN),((nth z2w z34).fD)⟩ : z2)).bind fun zBM=>(y1k zBM).bind fun ztX=>(z1Q ztX z8b.2).bind fun zk5=>some (!zk5.1,zk5.2)).bind fun zcc=>if zcc.1 then some zcc.2 else y1v zp z2w z1Q zae ztV (i64 (z34 + 1)) zcc.2) else zae z4Y
theorem y6Q {n : Nat} {zp : Type} {z2w : List z2} {z1Q : z2 → zp → Option (Bool × zp)} {zae : zp → Option zp} {z34 : Int} {z4Y : zp} {r : zp} (h : y1v zp z2w z1Q zae n z34 z4Y = some r) : ∃ m,n = m + 1:=by
 cases n with
 | zero=>cases h
 | succ m=>exact ⟨m,rfl⟩
def y2B (zp : Type) (z1Q : z2 → zp → Option (Bool × zp)) (s0_56417 : zp) (z2j : List (List z6)) (zeo : zSv) (zk6 : List (List z6)) (zep : zSv) (z2w : List z2) : Option zp :=
 (y2z).bind fun ztY=>(z1Q ztY s0_56417).bind fun zeq=>if !zeq.1 then some zeq.2 else jp1 (fun (z8c : zp)=>jp1 (fun (zaf : zp)=>some zaf) fun zae=>y1v zp z2w z1Q zae yz 0 z8c) fun zad=>y1u zp z2j z1Q zad yz 0 zeq.2
theorem y8h (Z : Zp) (zp : Type) (z7y : Nat) (z3B : Type) (z1Y : z3B → zp → Asrt) (z6c : z3B → zp → Prop) (zag : z3B) (zah : Addr) (zcd : Option Addr) (zce : Nat) (ztZ : Addr) (zu0 : Option Addr) (zu1 : Nat) (zu2 : Addr) (zk7 : Option Addr) (zk8 : Nat) (z1Q : z2 → zp → Option (Bool × zp)) (s0_56417 : zp) (z2j : List (List z6)) (zeo : zSv) (zk6 : List (List z6)) (zep : zSv) (z2w : List z2) (r : zp) (w₀ : World) (hz : PZ (fps [z1Y zag s0_56417]) w₀ Z)
  (zk9 : yaz Tryz.prog Z z7y (α:=z2) (σ:=zp) (G:=z3B) (H:=Unit) (fun h x=>[(.agg #[(.int .i64 x.fN),(.int .i64 x.fD)])]) (fun h x=>[]) z1Q z1Y z6c)
  (zNG : z6c zag s0_56417)
  (zNH : ZS Z 1 (y1P Z) zcd zce z2j)
  (zWx : ZS Z 1 (y1P Z) zu0 zu1 zk6)
  (zWy : ZC Z ztZ [(.slice zu0 zk6.length zu1)])
  (zWz : ZC Z zu2 [(.int .i64 zep.fRate.fN),(.int .i64 zep.fRate.fD),(.int .i64 zep.fL.fN),(.int .i64 zep.fL.fD)])
  (zNI : ZS Z 2 (fun r x=>r = yu x) zk7 zk8 z2w)
  (zBN : ZC Z zah [(.slice zcd z2j.length zce),(.int .i64 zeo.fRate.fN),(.int .i64 zeo.fRate.fD),(.int .i64 zeo.fL.fN),(.int .i64 zeo.fL.fD),(.func (.func 78) #[] #[(.pointer (some ztZ)),(.pointer (some zu2))]),(.slice zk7 z2w.length zk8)])
  (h : y2B zp z1Q s0_56417 z2j zeo zk6 zep z2w = some r)
  (hown : Hp (fps [z1Y zag s0_56417]) w₀ w₀ [z1Y zag s0_56417]) :
  Calls Tryz.prog 155 #[(.func (.yield z7y) #[] #[]),(.pointer (some zah))] w₀ fun e w'=>∃ zBO : z3B,e = .returned (.tuple #[]) ∧ (z6c zBO r) ∧ Hp (fps [z1Y zag s0_56417]) w₀ w' [z1Y zBO r]:=by
 unfold y2B at h
 refine Calls.oh2 Tryz.func155 Tryz.ntmps155 hown ?_
 refine WC.b (WC.b ?_)
 obtain ⟨ztY,zNJ,h⟩:=z7 h
 obtain ⟨zeq,zNK,h⟩:=z7 h
 refine WC.a (WL.pu rfl (WL.cA 12 (z8 Tryz.call107 .nil) .nil (cc hz .nil fun w pz ho=>y3X _ _ zNJ w pz ) (WL.yield (dd:=13) (x:=ztY) (h:=()) (g:=zag) (s:=s0_56417) (b:=zeq.1) (s':=zeq.2) zk9 rfl rfl rfl (.cons rfl .nil) ((.cons .here .nil) : Sel _ [z1Y zag s0_56417] _) zNK zNG (fun w hw=>hz.call hw ((.cons .here .nil) : Sel _ [z1Y zag s0_56417] _)) ?_)))
 intro zBP zBQ
 refine WL.pu rfl (WL.nil (WX.a (WC.cond rfl (fun zu3=>?_) (fun zu3=>?_))))
 ·replace h:=yo h zu3
  refine WC.ret (WX.yd ?_)
  obtain rfl:=Option.some.inj h
  refine WX.ye Tryz.results155 .nil (fun w hw=>?_)
  exact ⟨zBP,y7a,zBQ,hw.sub (.cons .here .nil)⟩
 ·replace h:=yp h zu3
  refine WC.skip (WX.a ?_)
  obtain ⟨zad,zNL,h⟩:=y14 h
  refine WC.y4G (fun (z8c : zp) (zh2 : z3B)=>(zad z8c = some r) ∧ (z6c zh2 z8c)) (fun z8c zh2=>[(0,(.func (.yield z7y) #[] #[])),(1,(.pointer (some zah)))]) (fun z8c zh2=>[z1Y zh2 z8c]) ?_ ?_
  ·skip
   refine WC.b (WC.a (WL.qA 15 (ya y6w rfl rfl) (WL.qA 16 (yc z6h rfl (y1e hz.pv zBN rfl)) (WL.qA 17 (yG Tryz.underlying128 rfl) (WL.pu rfl (WL.nil (WX.a (WC.block (WC.y4T (fun (zh3 : Nat) (z3A : Int) (z5H : zp) (zcf : z3B)=>(y1u zp z2j z1Q zad zh3 z3A z5H = some r) ∧ (z6c zcf z5H)) (fun zh3 z3A z5H zcf=>[(0,(.func (.yield z7y) #[] #[])),(1,(.pointer (some zah))),(16,(.slice zcd z2j.length zce)),(17,(.int .i64 ((z2j.length : Nat) : Int))),(18,(.int .i64 z3A))]) (fun zh3 z3A z5H zcf=>[z1Y zcf z5H]) (fun zh3 z3A z5H zcf=>zh3) ⟨yz,0,zeq.2,zBP⟩ ⟨h,zBQ⟩ (.r5 rfl rfl rfl rfl rfl) (.cons .here .nil) ?_)))))))))
   rintro zh3 z3A z5H zcf ⟨h,zBR⟩
   obtain ⟨ztT,rfl⟩:=y6P h
   rw [y1u] at h
   refine WC.b (WC.a (WL.pu rfl (WL.nil (WX.a (WC.b (WC.cond rfl (fun zu4=>?_) (fun zu4=>?_)))))))
   ·replace h:=yo h zu4
    refine WC.skip (WX.a ?_)
    obtain ⟨ztU,zNM,h⟩:=y14 h
    refine WC.y4G (fun (z89 : zp) (zh4 : z3B)=>(ztU z89 = some r) ∧ (z6c zh4 z89)) (fun z89 zh4=>[(0,(.func (.yield z7y) #[] #[])),(1,(.pointer (some zah))),(16,(.slice zcd z2j.length zce)),(17,(.int .i64 ((z2j.length : Nat) : Int))),(18,(.int .i64 z3A))]) (fun z89 zh4=>[z1Y zh4 z89]) ?_ ?_
    ·skip
     refine WC.block (WC.b ?_)
     obtain ⟨zNN,h⟩:=ym h
     refine WC.a (WL.znth (dd:=20) rfl rfl (Z:=Z) (Pr:=(y1P Z)) z6X rfl rfl zNH zNN ?_)
     rintro zWA zWB zNO zWC ⟨zWD,zWE,rfl,zNP⟩
     refine WL.qA 21 (yc zaF rfl (y53 hz.pv zNO rfl)) (WL.pu rfl (WL.nil (WX.a (WC.b ?_))))
     obtain ⟨z27,zNQ,h⟩:=z7 h
     refine WC.a (WL.pu rfl (WL.y45 (dd:=24) rfl rfl rfl (z8 Tryz.call153 (.cons rfl .nil)) .nil (cc hz .nil fun w pz ho=>y6N _ _ _ _ _ zNQ w pz zNP) ?_))
     rintro zBS zmQ _
     refine WL.pu rfl (WL.pu rfl (WL.pu rfl (WL.pu rfl (WL.pu rfl (WL.nil (WX.a (WC.b (WC.a (WL.pu rfl (WL.qA 28 (yG Tryz.underlying175 rfl) (WL.pu rfl (WL.nil (WX.a ?_)))))))))))))
     obtain ⟨zac,zNR,h⟩:=y14 h
     refine WC.y8F (fun (z8a : zp) (zh5 : z3B)=>(zac z8a = some r) ∧ (z6c zh5 z8a)) (fun z8a zh5=>[(0,(.func (.yield z7y) #[] #[])),(1,(.pointer (some zah))),(16,(.slice zcd z2j.length zce)),(17,(.int .i64 ((z2j.length : Nat) : Int))),(18,(.int .i64 z3A))]) (fun z8a zh5=>[z1Y zh5 z8a]) ?_ ?_
     ·skip
      refine WC.block (WC.y4T (fun (zh6 : Nat) (z2v : Int) (z4X : zp) (z8d : z3B)=>(y1t zp z27 z1Q zac zh6 z2v z4X = some r) ∧ (z6c z8d z4X)) (fun zh6 z2v z4X z8d=>[(0,(.func (.yield z7y) #[] #[])),(1,(.pointer (some zah))),(16,(.slice zcd z2j.length zce)),(17,(.int .i64 ((z2j.length : Nat) : Int))),(18,(.int .i64 z3A)),(27,(.slice zBS z27.1.length zmQ)),(28,(.int .i64 ((z27.1.length : Nat) : Int))),(29,(.int .i64 z2v))]) (fun zh6 z2v z4X z8d=>[row (.slice zBS z27.1.length zmQ) 132 2 (z27.1.flatMap yu),z1Y z8d z4X]) (fun zh6 z2v z4X z8d=>zh6) ⟨yz,0,z5H,zcf⟩ ⟨h,zBR⟩ (.r8 rfl rfl rfl rfl rfl rfl rfl rfl) (.s2 .here .here) ?_)
      rintro zh6 z2v z4X z8d ⟨h,zBT⟩
      obtain ⟨ztQ,rfl⟩:=y6O h
      rw [y1t] at h
      refine WC.b (WC.a (WL.pu rfl (WL.nil (WX.a (WC.b (WC.cond rfl (fun zu5=>?_) (fun zu5=>?_)))))))
      ·replace h:=yo h zu5
       refine WC.skip (WX.a (WC.b (WC.block (WC.b ?_))))
       obtain ⟨zka,h⟩:=ym h
       refine WC.a (WL.know (fun w hw=>Hp.y31 .here hw (by intro hz'; have:=zka; rw [hz'] at this; omega)) ?_)
       rintro ⟨zBU,rfl⟩
       refine WL.qA 31 (y17 z1I rfl rfl zka.1 zka.2 y3S) (WL.qA 32 (yR (cs:=(yu (nth z27.1 z2v))) zb rfl rfl (y3F .here (y3e (enc:=yu) (l:=z27.1) (i:=z2v) (sz:=2) (fun _=>rfl) zka.1 zka.2))) (WL.nA 8 (yx (cs:=[(.int .i64 0),(.int .i64 0)]) zH rfl) ?_))
       intro zNS _
       refine WL.yl rfl rfl (yk zq rfl rfl rfl .here rfl rfl rfl) (WL.nil (WX.a (WC.b ?_)))
       obtain ⟨zBJ,zNT,h⟩:=z7 h
       obtain ⟨ztR,zNU,h⟩:=z7 h
       obtain ⟨z88,zNV,h⟩:=z7 h
       obtain ⟨zcb,zBV,h⟩:=z7 h
       refine WC.a (WL.pu rfl (WL.qA 34 (yf zb rfl (yh .here) rfl) (WL.cA 35 (z8 Tryz.call46 (.cons rfl .nil)) .nil (cc hz .nil fun w pz ho=>y5x _ _ _ zNT w pz ) (WL.cA 36 (z8 Tryz.call145 (.cons rfl .nil)) .nil (cc hz .nil fun w pz ho=>y2H _ _ _ zNU w pz ) (WL.yield (dd:=37) (x:=ztR) (h:=()) (g:=z8d) (s:=z4X) (b:=z88.1) (s':=z88.2) zk9 rfl rfl rfl (.cons rfl .nil) ((.cons .h2 .nil) : Sel _ [z1Y z8d z4X] _) zNV zBT (fun w hw=>hz.call hw ((.cons .h2 .nil) : Sel _ [z1Y z8d z4X] _)) ?_)))))
       intro zmR zBW
       refine WL.pu rfl (WL.pu rfl (WL.yb3 (fun (zer : z3B)=>z6c zer zcb.2) (fun (zer : z3B)=>[(0,(.func (.yield z7y) #[] #[])),(1,(.pointer (some zah))),(16,(.slice zcd z2j.length zce)),(17,(.int .i64 ((z2j.length : Nat) : Int))),(18,(.int .i64 z3A)),(27,(.slice (some ⟨zBU,0,none⟩) z27.1.length zmQ)),(28,(.int .i64 ((z27.1.length : Nat) : Int))),(29,(.int .i64 z2v)),(46,(.bool zcb.1))]) (fun (zer : z3B)=>[z1Y zer zcb.2,stb zNS 132 [(.int .i64 ((nth z27.1 z2v).fN)),(.int .i64 ((nth z27.1 z2v).fD))],row (.slice (some ⟨zBU,0,none⟩) z27.1.length zmQ) 132 2 (z27.1.flatMap yu)]) 7 ?_ (fun zer zBX=>?_)))
       ·rcases Bool.eq_false_or_eq_true (!z88.1) with hb' | hb'
        ·have zBY:=hb'; clear hb'
         have zu6:=yo zBV zBY
         replace zu6:=Option.some.inj zu6
         refine WL.pin (i:=39) rfl zBY (WL.e rfl rfl rfl (WL.e rfl rfl rfl (WL.e rfl rfl rfl (WL.e rfl rfl rfl (WL.e rfl rfl rfl (WL.e rfl rfl rfl (WL.pu rfl ?_)))))))
         subst zu6
         exact WL.y5R zmR zBW (.r9 rfl rfl rfl rfl rfl rfl rfl rfl rfl) (.s3 .here .here .here)
        ·have zBZ:=hb'; clear hb'
         have zai:=yp zBV zBZ
         obtain ⟨zBK,zNW,zai⟩:=z7 zai
         obtain ⟨ztS,zNX,zai⟩:=z7 zai
         obtain ⟨zk4,zNY,zai⟩:=z7 zai
         replace zai:=Option.some.inj zai
         refine WL.pin (i:=39) rfl zBZ (WL.pu rfl (WL.qA 41 (yf zb rfl (yh .h1) rfl) (WL.cA 42 (z8 Tryz.call156 (.cons rfl .nil)) .nil (cc hz .nil fun w pz ho=>y8A _ _ _ zNW w pz ) (WL.cA 43 (z8 Tryz.call145 (.cons rfl .nil)) .nil (cc hz .nil fun w pz ho=>y2H _ _ _ zNX w pz ) (WL.yield (dd:=44) (x:=ztS) (h:=()) (g:=zmR) (s:=z88.2) (b:=zk4.1) (s':=zk4.2) zk9 rfl rfl rfl (.cons rfl .nil) ((.cons .here .nil) : Sel _ [z1Y zmR z88.2] _) zNY zBW (fun w hw=>hz.call hw ((.cons .here .nil) : Sel _ [z1Y zmR z88.2] _)) ?_)))))
         intro zNZ zO0
         refine WL.pu rfl (WL.pu rfl ?_)
         subst zai
         exact WL.y5R zNZ zO0 (.r9 rfl rfl rfl rfl rfl rfl rfl rfl rfl) (.s3 .here .here .here)
       ·skip
        refine WL.nil (WX.a (WC.cond rfl (fun zu7=>?_) (fun zu7=>?_)))
        ·replace h:=yo h zu7
         refine WC.ret (WX.yt (WX.yd (WX.yd (WX.yt (WX.yd (WX.yt (WX.yd (WX.yd (WX.yt (WX.yd ?_))))))))))
         obtain rfl:=Option.some.inj h
         refine WX.ye Tryz.results155 .nil (fun w hw=>?_)
         exact ⟨zer,y7a,zBX,hw.sub (.cons .here .nil)⟩
        ·replace h:=yp h zu7
         refine WC.skip (WX.yq (WX.a (WC.a (WL.pu rfl (WL.pu rfl (WL.nil ?_))))))
         exact WX.round ⟨ztQ,(i64 (z2v + 1)),zcb.2,zer⟩ ⟨h,zBX⟩ (Nat.lt_succ_self _) (.r8 rfl rfl rfl rfl rfl rfl rfl rfl) (.s2 .h2 .here)
      ·replace h:=yp h zu5
       refine WC.exit (WX.yg (WX.yg (WX.yA ?_)))
       exact WX.mid ⟨z4X,z8d⟩ ⟨h,zBT⟩ (.r5 rfl rfl rfl rfl rfl) (.cons .h1 .nil)
     ·rintro z8a zh5 ⟨h,zO1⟩
      replace h:=(zNR z8a).symm.trans h
      refine WX.yq ?_
      exact WX.mid ⟨z8a,zh5⟩ ⟨h,zO1⟩ (.r5 rfl rfl rfl rfl rfl) (.cons .here .nil)
    ·rintro z89 zh4 ⟨h,zO2⟩
     replace h:=(zNM z89).symm.trans h
     refine WC.a (WL.pu rfl (WL.pu rfl (WL.nil ?_)))
     exact WX.round ⟨ztT,(i64 (z3A + 1)),z89,zh4⟩ ⟨h,zO2⟩ (Nat.lt_succ_self _) (.r5 rfl rfl rfl rfl rfl) (.cons .here .nil)
   ·replace h:=yp h zu4
    refine WC.exit (WX.yg (WX.yg (WX.yA ?_)))
    exact WX.mid ⟨z5H,zcf⟩ ⟨h,zBR⟩ (.r2 rfl rfl) (.cons .here .nil)
  ·rintro z8c zh2 ⟨h,zO3⟩
   replace h:=(zNL z8c).symm.trans h
   refine WC.b (WC.a (WL.qA 49 (ya ydN rfl rfl) (WL.qA 50 (yc z6Y rfl (y1e hz.pv zBN rfl)) (WL.qA 51 (yG Tryz.underlying175 rfl) (WL.pu rfl (WL.nil (WX.a ?_)))))))
   obtain ⟨zae,zO4,h⟩:=y14 h
   refine WC.y8F (fun (zaf : zp) (zh7 : z3B)=>(zae zaf = some r) ∧ (z6c zh7 zaf)) (fun zaf zh7=>[]) (fun zaf zh7=>[z1Y zh7 zaf]) ?_ ?_
   ·skip
    refine WC.block (WC.y4T (fun (zh8 : Nat) (z34 : Int) (z4Y : zp) (z8e : z3B)=>(y1v zp z2w z1Q zae zh8 z34 z4Y = some r) ∧ (z6c z8e z4Y)) (fun zh8 z34 z4Y z8e=>[(0,(.func (.yield z7y) #[] #[])),(50,(.slice zk7 z2w.length zk8)),(51,(.int .i64 ((z2w.length : Nat) : Int))),(52,(.int .i64 z34))]) (fun zh8 z34 z4Y z8e=>[z1Y z8e z4Y]) (fun zh8 z34 z4Y z8e=>zh8) ⟨yz,0,z8c,zh2⟩ ⟨h,zO3⟩ (.r4 rfl rfl rfl rfl) (.cons .here .nil) ?_)
    rintro zh8 z34 z4Y z8e ⟨h,zC0⟩
    obtain ⟨ztV,rfl⟩:=y6Q h
    rw [y1v] at h
    refine WC.b (WC.a (WL.pu rfl (WL.nil (WX.a (WC.b (WC.cond rfl (fun zu8=>?_) (fun zu8=>?_)))))))
    ·replace h:=yo h zu8
     refine WC.skip (WX.a (WC.b (WC.block (WC.b ?_))))
     obtain ⟨zO5,h⟩:=ym h
     refine WC.a (WL.znth (dd:=54) rfl rfl (Z:=Z) (Pr:=(fun r x=>r = yu x)) z1I rfl rfl zNI zO5 ?_)
     rintro zWF zWG zO6 zWH rfl
     refine WL.qA 55 (yf zb rfl (y2o hz.pv zO6) rfl) (WL.nA 10 (yx (cs:=[(.int .i64 0),(.int .i64 0)]) zH rfl) ?_)
     intro zO7 _
     refine WL.yl rfl rfl (yk zq rfl rfl rfl .here rfl rfl rfl) (WL.nil (WX.a (WC.b ?_)))
     obtain ⟨zBL,zO8,h⟩:=z7 h
     obtain ⟨ztW,zO9,h⟩:=z7 h
     obtain ⟨z8b,zOa,h⟩:=z7 h
     obtain ⟨zcc,zC1,h⟩:=z7 h
     refine WC.a (WL.pu rfl (WL.qA 57 (yf zb rfl (yh .here) rfl) (WL.cA 58 (z8 Tryz.call46 (.cons rfl .nil)) .nil (cc hz .nil fun w pz ho=>y5x _ _ _ zO8 w pz ) (WL.cA 59 (z8 Tryz.call145 (.cons rfl .nil)) .nil (cc hz .nil fun w pz ho=>y2H _ _ _ zO9 w pz ) (WL.yield (dd:=60) (x:=ztW) (h:=()) (g:=z8e) (s:=z4Y) (b:=z8b.1) (s':=z8b.2) zk9 rfl rfl rfl (.cons rfl .nil) ((.cons .h1 .nil) : Sel _ [z1Y z8e z4Y] _) zOa zC0 (fun w hw=>hz.call hw ((.cons .h1 .nil) : Sel _ [z1Y z8e z4Y] _)) ?_)))))
     intro zmS zC2
     refine WL.pu rfl (WL.pu rfl (WL.yb3 (fun (zes : z3B)=>z6c zes zcc.2) (fun (zes : z3B)=>[(0,(.func (.yield z7y) #[] #[])),(50,(.slice zk7 z2w.length zk8)),(51,(.int .i64 ((z2w.length : Nat) : Int))),(52,(.int .i64 z34)),(69,(.bool zcc.1))]) (fun (zes : z3B)=>[z1Y zes zcc.2,stb zO7 132 [(.int .i64 ((nth z2w z34).fN)),(.int .i64 ((nth z2w z34).fD))]]) 7 ?_ (fun zes zC3=>?_)))
     ·rcases Bool.eq_false_or_eq_true (!z8b.1) with hb' | hb'
      ·have zC4:=hb'; clear hb'
       have zu9:=yo zC1 zC4
       replace zu9:=Option.some.inj zu9
       refine WL.pin (i:=62) rfl zC4 (WL.e rfl rfl rfl (WL.e rfl rfl rfl (WL.e rfl rfl rfl (WL.e rfl rfl rfl (WL.e rfl rfl rfl (WL.e rfl rfl rfl (WL.pu rfl ?_)))))))
       subst zu9
       exact WL.y5R zmS zC2 (.r5 rfl rfl rfl rfl rfl) (.s2 .here .here)
      ·have zC5:=hb'; clear hb'
       have zaj:=yp zC1 zC5
       obtain ⟨zBM,zOb,zaj⟩:=z7 zaj
       obtain ⟨ztX,zOc,zaj⟩:=z7 zaj
       obtain ⟨zk5,zOd,zaj⟩:=z7 zaj
       replace zaj:=Option.some.inj zaj
       refine WL.pin (i:=62) rfl zC5 (WL.pu rfl (WL.qA 64 (yf zb rfl (yh .h1) rfl) (WL.cA 65 (z8 Tryz.call156 (.cons rfl .nil)) .nil (cc hz .nil fun w pz ho=>y8A _ _ _ zOb w pz ) (WL.cA 66 (z8 Tryz.call145 (.cons rfl .nil)) .nil (cc hz .nil fun w pz ho=>y2H _ _ _ zOc w pz ) (WL.yield (dd:=67) (x:=ztX) (h:=()) (g:=zmS) (s:=z8b.2) (b:=zk5.1) (s':=zk5.2) zk9 rfl rfl rfl (.cons rfl .nil) ((.cons .here .nil) : Sel _ [z1Y zmS z8b.2] _) zOd zC2 (fun w hw=>hz.call hw ((.cons .here .nil) : Sel _ [z1Y zmS z8b.2] _)) ?_)))))
       intro zOe zOf
       refine WL.pu rfl (WL.pu rfl ?_)
       subst zaj
       exact WL.y5R zOe zOf (.r5 rfl rfl rfl rfl rfl) (.s2 .here .here)
     ·skip
      refine WL.nil (WX.a (WC.cond rfl (fun zua=>?_) (fun zua=>?_)))
      ·replace h:=yo h zua
       refine WC.ret (WX.yt (WX.yd (WX.yd (WX.yt (WX.yd ?_)))))
       obtain rfl:=Option.some.inj h
       refine WX.ye Tryz.results155 .nil (fun w hw=>?_)
       exact ⟨zes,y7a,zC3,hw.sub (.cons .here .nil)⟩
      ·replace h:=yp h zua
       refine WC.skip (WX.yq (WX.a (WC.a (WL.pu rfl (WL.pu rfl (WL.nil ?_))))))
       exact WX.round ⟨ztV,(i64 (z34 + 1)),zcc.2,zes⟩ ⟨h,zC3⟩ (Nat.lt_succ_self _) (.r4 rfl rfl rfl rfl) (.cons .here .nil)
    ·replace h:=yp h zu8
     refine WC.exit (WX.yg (WX.yg (WX.yA ?_)))
     exact WX.mid ⟨z4Y,z8e⟩ ⟨h,zC0⟩ .nil (.cons .here .nil)
   ·rintro zaf zh7 ⟨h,zOg⟩
    replace h:=(zO4 zaf).symm.trans h
    obtain rfl:=Option.some.inj h
    refine WX.y4K Tryz.results155 .nil (fun w hw=>?_)
    exact ⟨zh7,y7a,zOg,hw.sub (.cons .here .nil)⟩
def y40 (zet : z18) (zak : z2) (zkb : List (List z6)) (z5m : zSv) : Option (z2 × z18) :=
 (y2Z zet zkb zak).bind fun zeu=>(y1i zak z5m.fL).bind fun zC6=>if decide (zC6 ≤ 0) then some (zeu.1,zeu.2) else (y10 zeu.2 (fun (y0 : z2) (y1 : z2)=>y24 y0 y1) zak z5m.fL).bind fun zub=>(y10 zub.2 (fun (y0 : z2) (y1 : z2)=>y3a y0 y1) z5m.fRate zub.1).bind fun zuc=>(y10 zuc.2 (fun (y0 : z2) (y1 : z2)=>y24 y0 y1) zeu.1 zuc.1).bind fun zud=>some (zud.1,zud.2)
theorem ya3 (Z : Zp) (zh9 : Nat) (zC7 : Addr) (zC8 : Option Addr) (zC9 : Nat) (zCa : Addr) (zet : z18) (zak : z2) (zkb : List (List z6)) (z5m : zSv) (r : z2 × z18)
  (h : y40 zet zak zkb z5m = some r) (w₀ : World) (hz : PZ (fps [stb zh9 225 [(.int .i64 zet.fE)]]) w₀ Z)
  (zOh : ZS Z 1 (y1P Z) zC8 zC9 zkb)
  (zOi : ZC Z zC7 [(.slice zC8 zkb.length zC9)])
  (zue : ZC Z zCa [(.int .i64 z5m.fRate.fN),(.int .i64 z5m.fRate.fD),(.int .i64 z5m.fL.fN),(.int .i64 z5m.fL.fD)])
  (hown : Hp (fps [stb zh9 225 [(.int .i64 zet.fE)]]) w₀ w₀ [stb zh9 225 [(.int .i64 zet.fE)]]) :
  Calls Tryz.prog 78 #[(.pointer (some ⟨zh9,0,none⟩)),(.agg #[(.int .i64 zak.fN),(.int .i64 zak.fD)]),(.pointer (some zC7)),(.pointer (some zCa))] w₀ fun e w'=>e = .returned (.agg #[(.int .i64 r.1.fN),(.int .i64 r.1.fD)]) ∧ Hp (fps [stb zh9 225 [(.int .i64 zet.fE)]]) w₀ w' [stb zh9 225 [(.int .i64 r.2.fE)]]:=by
 unfold y40 at h
 refine Calls.oh4 Tryz.func78 Tryz.ntmps78 hown ?_
 refine WC.b (WC.a (WL.nA 5 (yH (cs:=[(.int .i64 zak.fN),(.int .i64 zak.fD)]) rfl rfl) ?_))
 intro zWI _
 refine WL.nA 6 (yx (cs:=[(.int .i64 0),(.int .i64 0)]) zH rfl) ?_
 intro zWJ _
 refine WL.nil (WX.a (WC.b ?_))
 obtain ⟨zeu,zOj,h⟩:=z7 h
 refine WC.a (WL.pu rfl (WL.qA 9 (yc z6h rfl (y53 hz.pv zOi rfl)) (WL.qA 10 (yf zb rfl (yh .h1) rfl) (WL.cA 11 (z8 Tryz.call76 (.r3 rfl rfl rfl)) (.cons .h2 .nil) (cc hz (.cons .h2 .nil) fun w pz ho=>y7p _ _ _ _ _ _ _ _ zOj w pz zOh ho) (WL.nA 7 (yx (cs:=[(.int .i64 0),(.int .i64 0)]) zH rfl) ?_)))))
 intro zOk _
 refine WL.yl rfl rfl (yk zq rfl rfl rfl .here rfl rfl rfl) (WL.nil (WX.a (WC.b (WC.b ?_))))
 obtain ⟨zC6,zOl,h⟩:=z7 h
 refine WC.a (WL.qA 12 (yf zb rfl (yh .h3) rfl) (WL.qA 13 (ya y7X rfl rfl) (WL.qA 14 (yR (cs:=[(.int .i64 z5m.fL.fN),(.int .i64 z5m.fL.fD)]) zb rfl rfl (y9v (off:=2) (s:=2) hz.pv zue rfl)) (WL.cA 15 (z8 Tryz.call79 (.r2 rfl rfl)) .nil (cc hz .nil fun w pz ho=>y47 _ _ _ _ zOl w pz ) (WL.pu rfl (WL.nil (WX.a (WC.cond rfl (fun zuf=>?_) (fun zuf=>?_)))))))))
 ·replace h:=yo h zuf
  refine WC.b (WC.a (WL.qA 17 (yf zb rfl (yh .here) rfl) (WL.yl rfl rfl (yk zq rfl rfl rfl .h2 rfl rfl rfl) (WL.nil (WX.a (WC.ret (WX.yd ?_)))))))
  obtain rfl:=Option.some.inj h
  refine WX.ye Tryz.results78 (.agg rfl zb rfl (yh .here) .nil) (fun w hw=>?_)
  exact ⟨yC rfl,hw.sub (.cons .h2 .nil)⟩
 ·replace h:=yp h zuf
  refine WC.skip (WX.a (WC.b ?_))
  obtain ⟨zub,zOm,h⟩:=z7 h
  obtain ⟨zuc,zOn,h⟩:=z7 h
  obtain ⟨zud,zOo,h⟩:=z7 h
  refine WC.yP (fun i=>[9,10,11,12].contains i) [stb zOk 132 [(.int .i64 zeu.1.fN),(.int .i64 zeu.1.fD)]] rfl (WD.pA 0 18 rfl (fun _=>q_m rfl) (WD.sA 1 19 rfl (Sin.of (.cons .here .nil)) (yf zb rfl (yh .here) rfl) (WD.pA 2 20 rfl (fun _=>q_m rfl) (WD.pA 3 21 rfl (fun _=>ya y7W rfl rfl) (WD.sA 4 22 rfl (Sin.of (.cons .here .nil)) (yR (cs:=[(.int .i64 z5m.fRate.fN),(.int .i64 z5m.fRate.fD)]) zb rfl rfl (y9v (off:=0) (s:=2) hz.pv zue rfl)) (WD.pA 5 23 rfl (fun _=>q_m rfl) (WD.qA 6 24 rfl (yf zb rfl (yh .h3) rfl) (WD.pA 7 25 rfl (fun _=>ya y7X rfl rfl) (WD.qA 8 26 rfl (yR (cs:=[(.int .i64 z5m.fL.fN),(.int .i64 z5m.fL.fD)]) zb rfl rfl (y9v (off:=2) (s:=2) hz.pv zue rfl)) (WD.call0 (i:=9) (dd:=27) rfl (by kernel_rfl) rfl rfl rfl (.inl ⟨rfl,(Sin.of (.cons .h1 .nil))⟩) (z8 Tryz.call73 (.r4 rfl rfl rfl rfl)) (.cons .h1 .nil) (cc hz (.cons .h1 .nil) fun w pz ho=>Calls.mono (y2f _ _ (z5A:=74) (z6w:=[]) _ (z64:=(fun (y0 : z2) (y1 : z2)=>y24 y0 y1)) _ _ _ zOm w pz Tryz.call74 (fun w' hz' y0 y1  r  hr=>y8f _ _ _ _ hr w' hz' ) ho) (fun _ _ h'=>⟨h'.1,trivial,h'.2⟩)) ?_))))))))))
  intro _
  refine WD.call0 (i:=10) (dd:=28) rfl (by kernel_rfl) rfl rfl rfl (.inl ⟨rfl,(Sin.of (.cons .h1 .nil))⟩) (z8 Tryz.call73 (.r4 rfl rfl rfl rfl)) (.cons .here .nil) (cc hz (.cons .here .nil) fun w pz ho=>Calls.mono (y2f _ _ (z5A:=70) (z6w:=[]) _ (z64:=(fun (y0 : z2) (y1 : z2)=>y3a y0 y1)) _ _ _ zOn w pz Tryz.call70 (fun w' hz' y0 y1  r  hr=>yaP _ _ _ _ hr w' hz' ) ho) (fun _ _ h'=>⟨h'.1,trivial,h'.2⟩)) ?_
  intro _
  refine WD.call0 (i:=11) (dd:=29) rfl (by kernel_rfl) rfl rfl rfl (.inl ⟨rfl,(Sin.of (.cons .h1 .nil))⟩) (z8 Tryz.call73 (.r4 rfl rfl rfl rfl)) (.cons .here .nil) (cc hz (.cons .here .nil) fun w pz ho=>Calls.mono (y2f _ _ (z5A:=74) (z6w:=[]) _ (z64:=(fun (y0 : z2) (y1 : z2)=>y24 y0 y1)) _ _ _ zOo w pz Tryz.call74 (fun w' hz' y0 y1  r  hr=>y8f _ _ _ _ hr w' hz' ) ho) (fun _ _ h'=>⟨h'.1,trivial,h'.2⟩)) ?_
  intro _
  refine WD.y3A (i:=12) rfl (by kernel_rfl) rfl rfl rfl (by kernel_rfl) (yk zq rfl rfl rfl .h2 rfl rfl rfl) (WD.done (by kernel_rfl) (WX.a (WC.ret ?_)))
  obtain rfl:=Option.some.inj h
  refine WX.ye Tryz.results78 (.agg rfl zb rfl (yh .here) .nil) (fun w hw=>?_)
  exact ⟨yC rfl,hw.sub (.cons .h1 .nil)⟩
def y2p (z6d : List (List z6)) (z5n : zSv) (zal : z2) (z3i : List z2) (zmT : Int) : Option (Bool × (Nat × List z2 × Int)) :=
 (y40 (⟨zmT⟩ : z18) zal z6d z5n).bind fun z6e=>(if decide (((z3i.length : Nat) : Int) = 0) then some true else chk ((0 : Int) ≤ 0 ∧ 0 < ((z3i.length : Nat) : Int)) ((y1i z6e.1 (⟨((nth z3i 0).fN),((nth z3i 0).fD)⟩ : z2)).bind fun zCb=>some (decide (zCb > 0)))).bind fun zug=>if zug then some (true,(0,([z6e.1] : List z2),z6e.2.fE)) else some (true,(0,z3i,z6e.2.fE))
def y3y (zX : List (List z6)) (zk : zSv) (z6d : List (List z6)) (z5n : zSv) (zY : List z2) : Option (z2 × Int) :=
 (y3d zX zk z6d z5n zY).bind fun zkc=>if decide (zkc ≠ 0) then some ((⟨0,0⟩ : z2),zkc) else jp2 (fun (z8f : Int) (z5I : List z2)=>if decide (z8f ≠ 0) then some ((⟨0,0⟩ : z2),z8f) else chk ((0 : Int) ≤ 0 ∧ 0 < ((z5I.length : Nat) : Int)) (some ((⟨((nth z5I 0).fN),((nth z5I 0).fD)⟩ : z2),0))) fun zuh=>(y3N zX zk z6d z5n zY).bind fun zt=>(y2B (Nat × List z2 × Int) (fun (x : z2) (s : Nat × List z2 × Int)=>chk (s.1 = 0) (y2p z6d z5n x s.2.1 s.2.2)) (0,([] : List z2),0) zX (⟨(⟨zt.1,zt.2.1⟩ : z2),(⟨zt.2.2.1,zt.2.2.2⟩ : z2)⟩ : zSv) z6d z5n zY).bind fun z3C=>zuh z3C.2.2 z3C.2.1
theorem y9q (Z : Zp) (z1e : Option Addr) (z1f : Nat) (z16 : Addr) (zui : Option Addr) (zuj : Nat) (z17 : Addr) (z1g : Option Addr) (z1h : Nat) (zX : List (List z6)) (zk : zSv) (z6d : List (List z6)) (z5n : zSv) (zY : List z2) (r : z2 × Int)
  (h : y3y zX zk z6d z5n zY = some r) (w₀ : World) (hz : PZ [] w₀ Z)
  (zuk : ZS Z 1 (y1P Z) z1e z1f zX)
  (zmU : ZS Z 1 (y1P Z) zui zuj z6d)
  (zmV : ZC Z z16 [(.slice zui z6d.length zuj)])
  (zmW : ZC Z z17 [(.int .i64 z5n.fRate.fN),(.int .i64 z5n.fRate.fD),(.int .i64 z5n.fL.fN),(.int .i64 z5n.fL.fD)])
  (zul : ZS Z 2 (fun r x=>r = yu x) z1g z1h zY) :
  Calls Tryz.prog 77 #[(.agg #[(.slice z1e zX.length z1f),(.int .i64 zk.fRate.fN),(.int .i64 zk.fRate.fD),(.int .i64 zk.fL.fN),(.int .i64 zk.fL.fD),(.func (.func 78) #[] #[(.pointer (some z16)),(.pointer (some z17))]),(.slice z1g zY.length z1h)])] w₀ fun e w'=>e = .returned (.tuple #[(.agg #[(.int .i64 r.1.fN),(.int .i64 r.1.fD)]),(.int .i64 r.2)]) ∧ Hp [] w₀ w' []:=by
 unfold y3y at h
 refine Calls.y9m (vs:=[(.agg #[(.slice z1e zX.length z1f),(.int .i64 zk.fRate.fN),(.int .i64 zk.fRate.fD),(.int .i64 zk.fL.fN),(.int .i64 zk.fL.fD),(.func (.func 78) #[] #[(.pointer (some z16)),(.pointer (some z17))]),(.slice z1g zY.length z1h)])]) (pre:=[]) (env:=[(0,(.agg #[(.slice z1e zX.length z1f),(.int .i64 zk.fRate.fN),(.int .i64 zk.fRate.fD),(.int .i64 zk.fL.fN),(.int .i64 zk.fL.fD),(.func (.func 78) #[] #[(.pointer (some z16)),(.pointer (some z17))]),(.slice z1g zY.length z1h)]))]) Tryz.func77 rfl Tryz.ntmps77 rfl (Hp.nil w₀ _) rfl ?_
 refine WC.b (WC.a (WL.nA 1 (yH (cs:=[(.slice z1e zX.length z1f),(.int .i64 zk.fRate.fN),(.int .i64 zk.fRate.fD),(.int .i64 zk.fL.fN),(.int .i64 zk.fL.fD),(.func (.func 78) #[] #[(.pointer (some z16)),(.pointer (some z17))]),(.slice z1g zY.length z1h)]) rfl rfl) ?_))
 intro z35 _
 refine WL.nA 2 (yx (cs:=[(.int .i64 0),(.int .i64 0)]) zH rfl) ?_
 intro z3j _
 refine WL.pu rfl (WL.nil (WX.a (WC.b (WC.b ?_))))
 obtain ⟨zkc,zOp,h⟩:=z7 h
 refine WC.a (WL.qA 9 (yf zeM rfl (yh .h1) rfl) (WL.cA 10 (z8 Tryz.call109 (.cons rfl .nil)) .nil (cc hz .nil fun w pz ho=>y8Y _ _ _ _ _ _ _ _ _ _ _ _ _ _ _ zOp w pz zuk zmU zmV zmW zul) (WL.pu rfl (WL.nil (WX.a (WC.b (WC.a (WL.pu rfl (WL.pu rfl (WL.nil (WX.a (WC.cond rfl (fun zum=>?_) (fun zum=>?_)))))))))))))
 ·replace h:=yo h zum
  refine WC.b (WC.a (WL.qA 13 (yL (v:=(.agg #[(.int .i64 0),(.int .i64 0)])) (Eos.parts (l:=[]) .nil []) (fun _=>by kernel_rfl)) (WL.pu rfl (WL.yl rfl rfl (yk zq rfl rfl rfl .here rfl rfl rfl) (WL.pu rfl (WL.nil (WX.a (WC.ret (WX.yd ?_)))))))))
  obtain rfl:=Option.some.inj h
  refine WX.yaB Tryz.results77 (.agg rfl zb rfl (yh .here) (.tmp rfl .nil)) (fun w hw=>?_)
  exact ⟨y1U rfl rfl,hw.sub .nil⟩
 ·replace h:=yp h zum
  refine WC.skip (WX.a (WC.b (WC.a (WL.nA 5 (yx (cs:=[(.int .i64 0)]) zkK rfl) ?_))))
  intro z2x _
  refine WL.nil (WX.a (WC.b (WC.a (WL.nA 6 (yx (cs:=[(.slice none 0 0)]) znt rfl) ?_))))
  intro z2O _
  refine WL.nil (WX.a ?_)
  obtain ⟨zuh,zOq,h⟩:=y4t h
  refine WC.ybs (fun (zkd : Nat) (z8f : Int) (z5I : List z2) (zke : Option Addr) (zkf : Nat)=>(zuh z8f z5I = some r)) (fun (zkd : Nat) (z8f : Int) (z5I : List z2) (zke : Option Addr) (zkf : Nat)=>[(2,(.pointer (some ⟨z3j,0,none⟩))),(5,(.pointer (some ⟨z2x,0,none⟩))),(6,(.pointer (some ⟨z2O,0,none⟩)))]) (fun (zkd : Nat) (z8f : Int) (z5I : List z2) (zke : Option Addr) (zkf : Nat)=>[stb z3j 132 [(.int .i64 0),(.int .i64 0)],stb z2x 225 [(.int .i64 z8f)],stb z2O 175 [(.slice zke z5I.length zkf)],row (.slice zke z5I.length zkf) 132 2 (z5I.flatMap yu),dfr zkd]) ?_ ?_
  ·skip
   refine WC.b ?_
   obtain ⟨zt,zOr,h⟩:=z7 h
   refine WC.a (WL.qA 15 (yf zeM rfl (yh .h3) rfl) (WL.ycX (dd:=16) rfl rfl rfl (z8 Tryz.call110 (.cons rfl .nil)) .nil (cc hz .nil fun w pz ho=>y8B _ _ _ _ _ _ _ _ _ _ _ _ _ _ _ zOr w pz zuk zmU zmV zmW zul) ?_))
   rintro z3W _
   refine WL.nil (WX.a (WC.block (WC.drop (.s5 .h1 .h1 .h1 .h1 .here) (WC.nilRow 132 2 (WC.rangeFunc (f:=155) (caps:=[(.pointer (some ⟨z3W,0,none⟩))]) rfl Tryz.call155 ?_)))))
   intro zWK zWL z3D z5J z4y zmX zOs zOt w hw
   have hw1:=hw.selAll ((.s6 .h3 .h2 .h2 .h2 .h2 .here) : Sel _ [stb z2O 175 [(.slice none (([] : List z2).length) 0)],row (.slice none (([] : List z2).length) 0) 132 2 (([] : List z2).flatMap yu),stb z2x 225 [(.int .i64 0)],stb z3j 132 [(.int .i64 0),(.int .i64 0)],stb z35 177 [(.slice z1e zX.length z1f),(.int .i64 zk.fRate.fN),(.int .i64 zk.fRate.fD),(.int .i64 zk.fL.fN),(.int .i64 zk.fL.fD),(.func (.func 78) #[] #[(.pointer (some z16)),(.pointer (some z17))]),(.slice z1g zY.length z1h)],blk z3D (z4y .ready none)] _)
   have pz:=(hz.call hw1 ((.cons .here .nil) : Sel [y26 [stb z2O 175 [(.slice none (([] : List z2).length) 0)],row (.slice none (([] : List z2).length) 0) 132 2 (([] : List z2).flatMap yu),stb z2x 225 [(.int .i64 0)],stb z3j 132 [(.int .i64 0),(.int .i64 0)],stb z35 177 [(.slice z1e zX.length z1f),(.int .i64 zk.fRate.fN),(.int .i64 zk.fRate.fD),(.int .i64 zk.fL.fN),(.int .i64 zk.fL.fD),(.func (.func 78) #[] #[(.pointer (some z16)),(.pointer (some z17))]),(.slice z1g zY.length z1h)],blk z3D (z4y .ready none)],dfr z5J,stb z3W 177 [(.slice z1e zX.length z1f),(.int .i64 zt.1),(.int .i64 zt.2.1),(.int .i64 zt.2.2.1),(.int .i64 zt.2.2.2),(.func (.func 78) #[] #[(.pointer (some z16)),(.pointer (some z17))]),(.slice z1g zY.length z1h)]] [y26 [stb z2O 175 [(.slice none (([] : List z2).length) 0)],row (.slice none (([] : List z2).length) 0) 132 2 (([] : List z2).flatMap yu),stb z2x 225 [(.int .i64 0)],stb z3j 132 [(.int .i64 0),(.int .i64 0)],stb z35 177 [(.slice z1e zX.length z1f),(.int .i64 zk.fRate.fN),(.int .i64 zk.fRate.fD),(.int .i64 zk.fL.fN),(.int .i64 zk.fL.fD),(.func (.func 78) #[] #[(.pointer (some z16)),(.pointer (some z17))]),(.slice z1g zY.length z1h)],blk z3D (z4y .ready none)]] [dfr z5J,stb z3W 177 [(.slice z1e zX.length z1f),(.int .i64 zt.1),(.int .i64 zt.2.1),(.int .i64 zt.2.2.1),(.int .i64 zt.2.2.2),(.func (.func 78) #[] #[(.pointer (some z16)),(.pointer (some z17))]),(.slice z1g zY.length z1h)]])).lend hw1 ((.cons .here .nil) : Sel [y26 [stb z2O 175 [(.slice none (([] : List z2).length) 0)],row (.slice none (([] : List z2).length) 0) 132 2 (([] : List z2).flatMap yu),stb z2x 225 [(.int .i64 0)],stb z3j 132 [(.int .i64 0),(.int .i64 0)],stb z35 177 [(.slice z1e zX.length z1f),(.int .i64 zk.fRate.fN),(.int .i64 zk.fRate.fD),(.int .i64 zk.fL.fN),(.int .i64 zk.fL.fD),(.func (.func 78) #[] #[(.pointer (some z16)),(.pointer (some z17))]),(.slice z1g zY.length z1h)],blk z3D (z4y .ready none)],dfr z5J,stb z3W 177 [(.slice z1e zX.length z1f),(.int .i64 zt.1),(.int .i64 zt.2.1),(.int .i64 zt.2.2.1),(.int .i64 zt.2.2.2),(.func (.func 78) #[] #[(.pointer (some z16)),(.pointer (some z17))]),(.slice z1g zY.length z1h)]] [y26 [stb z2O 175 [(.slice none (([] : List z2).length) 0)],row (.slice none (([] : List z2).length) 0) 132 2 (([] : List z2).flatMap yu),stb z2x 225 [(.int .i64 0)],stb z3j 132 [(.int .i64 0),(.int .i64 0)],stb z35 177 [(.slice z1e zX.length z1f),(.int .i64 zk.fRate.fN),(.int .i64 zk.fRate.fD),(.int .i64 zk.fL.fN),(.int .i64 zk.fL.fD),(.func (.func 78) #[] #[(.pointer (some z16)),(.pointer (some z17))]),(.slice z1g zY.length z1h)],blk z3D (z4y .ready none)]] [dfr z5J,stb z3W 177 [(.slice z1e zX.length z1f),(.int .i64 zt.1),(.int .i64 zt.2.1),(.int .i64 zt.2.2.1),(.int .i64 zt.2.2.2),(.func (.func 78) #[] #[(.pointer (some z16)),(.pointer (some z17))]),(.slice z1g zY.length z1h)]]) (B:=[stb z3W 177 [(.slice z1e zX.length z1f),(.int .i64 zt.1),(.int .i64 zt.2.1),(.int .i64 zt.2.2.1),(.int .i64 zt.2.2.2),(.func (.func 78) #[] #[(.pointer (some z16)),(.pointer (some z17))]),(.slice z1g zY.length z1h)]]) (fun _ hx'=>((.cons .h1 .nil) : Sel _ [stb z3W 177 [(.slice z1e zX.length z1f),(.int .i64 zt.1),(.int .i64 zt.2.1),(.int .i64 zt.2.2.1),(.int .i64 zt.2.2.2),(.func (.func 78) #[] #[(.pointer (some z16)),(.pointer (some z17))]),(.slice z1g zY.length z1h)]] _).mem hx')
   obtain ⟨z3C,zOu,h⟩:=z7 h
   refine Calls.mono (y8h (Z:=_) (z7y:=z3D) (z3B:=(Option Addr × Nat)) (z1Y:=(fun (g : Option Addr × Nat) (s : Nat × List z2 × Int)=>y26 ([stb z2O 175 [(.slice g.1 s.2.1.length g.2)],row (.slice g.1 s.2.1.length g.2) 132 2 (s.2.1.flatMap yu),stb z2x 225 [(.int .i64 s.2.2)],stb z3j 132 [(.int .i64 0),(.int .i64 0)],stb z35 177 [(.slice z1e zX.length z1f),(.int .i64 zk.fRate.fN),(.int .i64 zk.fRate.fD),(.int .i64 zk.fL.fN),(.int .i64 zk.fL.fD),(.func (.func 78) #[] #[(.pointer (some z16)),(.pointer (some z17))]),(.slice z1g zY.length z1h)]] ++ [blk z3D (z4y (rdy (pcs [] s.1)) (pcs [] s.1))]))) (z6c:=(fun (g : Option Addr × Nat) (s : Nat × List z2 × Int)=>True)) (zag:=(none,0)) (zah:=⟨z3W,0,none⟩) (zcd:=z1e) (zce:=z1f) (ztZ:=z16) (zu0:=zui) (zu1:=zuj) (zu2:=z17) (zk7:=z1g) (zk8:=z1h) (zp:=(Nat × List z2 × Int)) (z1Q:=(fun (x : z2) (s : Nat × List z2 × Int)=>chk (s.1 = 0) (y2p z6d z5n x s.2.1 s.2.2))) (s0_56417:=(0,([] : List z2),0)) (z2j:=zX) (zeo:=(⟨(⟨zt.1,zt.2.1⟩ : z2),(⟨zt.2.2.1,zt.2.2.2⟩ : z2)⟩ : zSv)) (zk6:=z6d) (zep:=z5n) (z2w:=zY) (r:=z3C) w pz ?_ trivial ((zuk.mono (Zle.left _ _)).weak (fun _ _ h=>y37 (Zle.left _ _) h)) ((zmU.mono (Zle.left _ _)).weak (fun _ _ h=>y37 (Zle.left _ _) h)) (zmV.mono (Zle.left _ _)) (zmW.mono (Zle.left _ _)) (zul.mono (Zle.left _ _)) ((hw1.lent ((.cons .here .nil) : Sel [y26 [stb z2O 175 [(.slice none (([] : List z2).length) 0)],row (.slice none (([] : List z2).length) 0) 132 2 (([] : List z2).flatMap yu),stb z2x 225 [(.int .i64 0)],stb z3j 132 [(.int .i64 0),(.int .i64 0)],stb z35 177 [(.slice z1e zX.length z1f),(.int .i64 zk.fRate.fN),(.int .i64 zk.fRate.fD),(.int .i64 zk.fL.fN),(.int .i64 zk.fL.fD),(.func (.func 78) #[] #[(.pointer (some z16)),(.pointer (some z17))]),(.slice z1g zY.length z1h)],blk z3D (z4y .ready none)],dfr z5J,stb z3W 177 [(.slice z1e zX.length z1f),(.int .i64 zt.1),(.int .i64 zt.2.1),(.int .i64 zt.2.2.1),(.int .i64 zt.2.2.2),(.func (.func 78) #[] #[(.pointer (some z16)),(.pointer (some z17))]),(.slice z1g zY.length z1h)]] [y26 [stb z2O 175 [(.slice none (([] : List z2).length) 0)],row (.slice none (([] : List z2).length) 0) 132 2 (([] : List z2).flatMap yu),stb z2x 225 [(.int .i64 0)],stb z3j 132 [(.int .i64 0),(.int .i64 0)],stb z35 177 [(.slice z1e zX.length z1f),(.int .i64 zk.fRate.fN),(.int .i64 zk.fRate.fD),(.int .i64 zk.fL.fN),(.int .i64 zk.fL.fD),(.func (.func 78) #[] #[(.pointer (some z16)),(.pointer (some z17))]),(.slice z1g zY.length z1h)],blk z3D (z4y .ready none)]] [dfr z5J,stb z3W 177 [(.slice z1e zX.length z1f),(.int .i64 zt.1),(.int .i64 zt.2.1),(.int .i64 zt.2.2.1),(.int .i64 zt.2.2.2),(.func (.func 78) #[] #[(.pointer (some z16)),(.pointer (some z17))]),(.slice z1g zY.length z1h)]]) (B:=[stb z3W 177 [(.slice z1e zX.length z1f),(.int .i64 zt.1),(.int .i64 zt.2.1),(.int .i64 zt.2.2.1),(.int .i64 zt.2.2.2),(.func (.func 78) #[] #[(.pointer (some z16)),(.pointer (some z17))]),(.slice z1g zY.length z1h)]]) (fun _ hx'=>((.cons .h1 .nil) : Sel _ [stb z3W 177 [(.slice z1e zX.length z1f),(.int .i64 zt.1),(.int .i64 zt.2.1),(.int .i64 zt.2.2.1),(.int .i64 zt.2.2.2),(.func (.func 78) #[] #[(.pointer (some z16)),(.pointer (some z17))]),(.slice z1g zY.length z1h)]] _).mem hx') (.head _) _).stb) zOu (hw1.owns ((.cons .here .nil) : Sel [y26 [stb z2O 175 [(.slice none (([] : List z2).length) 0)],row (.slice none (([] : List z2).length) 0) 132 2 (([] : List z2).flatMap yu),stb z2x 225 [(.int .i64 0)],stb z3j 132 [(.int .i64 0),(.int .i64 0)],stb z35 177 [(.slice z1e zX.length z1f),(.int .i64 zk.fRate.fN),(.int .i64 zk.fRate.fD),(.int .i64 zk.fL.fN),(.int .i64 zk.fL.fD),(.func (.func 78) #[] #[(.pointer (some z16)),(.pointer (some z17))]),(.slice z1g zY.length z1h)],blk z3D (z4y .ready none)],dfr z5J,stb z3W 177 [(.slice z1e zX.length z1f),(.int .i64 zt.1),(.int .i64 zt.2.1),(.int .i64 zt.2.2.1),(.int .i64 zt.2.2.2),(.func (.func 78) #[] #[(.pointer (some z16)),(.pointer (some z17))]),(.slice z1g zY.length z1h)]] [y26 [stb z2O 175 [(.slice none (([] : List z2).length) 0)],row (.slice none (([] : List z2).length) 0) 132 2 (([] : List z2).flatMap yu),stb z2x 225 [(.int .i64 0)],stb z3j 132 [(.int .i64 0),(.int .i64 0)],stb z35 177 [(.slice z1e zX.length z1f),(.int .i64 zk.fRate.fN),(.int .i64 zk.fRate.fD),(.int .i64 zk.fL.fN),(.int .i64 zk.fL.fD),(.func (.func 78) #[] #[(.pointer (some z16)),(.pointer (some z17))]),(.slice z1g zY.length z1h)],blk z3D (z4y .ready none)]] [dfr z5J,stb z3W 177 [(.slice z1e zX.length z1f),(.int .i64 zt.1),(.int .i64 zt.2.1),(.int .i64 zt.2.2.1),(.int .i64 zt.2.2.2),(.func (.func 78) #[] #[(.pointer (some z16)),(.pointer (some z17))]),(.slice z1g zY.length z1h)]]))) ?_
   ·skip
    refine yaA (LI:=(fun (g : Option Addr × Nat) (s : Nat × List z2 × Int)=>[stb z2O 175 [(.slice g.1 s.2.1.length g.2)],row (.slice g.1 s.2.1.length g.2) 132 2 (s.2.1.flatMap yu),stb z2x 225 [(.int .i64 s.2.2)],stb z3j 132 [(.int .i64 0),(.int .i64 0)],stb z35 177 [(.slice z1e zX.length z1f),(.int .i64 zk.fRate.fN),(.int .i64 zk.fRate.fD),(.int .i64 zk.fL.fN),(.int .i64 zk.fL.fD),(.func (.func 78) #[] #[(.pointer (some z16)),(.pointer (some z17))]),(.slice z1g zY.length z1h)]])) (pc:=(fun (s : Nat × List z2 × Int)=>pcs [] s.1)) zmX zOs zOt (fun _ _=>rfl) (by decide) ?_
    rintro zal _ ⟨zha,zhb⟩ ⟨zOv,z3i,zmT⟩ zOw zOx Fb wb zCc _ hz
    replace hz:=hz.left
    letI : Rnd:=inR z3D
    obtain ⟨hp0,z6f⟩:=ym zCc
    replace hp0 : zOv = 0:=hp0; subst hp0; clear zCc
    replace z6f : y2p z6d z5n zal z3i zmT = some (zOw,zOx):=z6f
    unfold y2p at z6f
    refine WC.restr (env':=[(1,(.pointer (some ⟨z35,0,none⟩))),(12,(.bool (decide (zkc ≠ 0)))),(5,(.pointer (some ⟨z2x,0,none⟩))),(6,(.pointer (some ⟨z2O,0,none⟩))),(17,(.agg #[(.int .i64 zal.fN),(.int .i64 zal.fD)]))]) (.r5 rfl rfl rfl rfl rfl) (WC.eqL (L':=[stb z2O 175 [(.slice zha z3i.length zhb)],row (.slice zha z3i.length zhb) 132 2 (z3i.flatMap yu),stb z2x 225 [(.int .i64 zmT)],stb z3j 132 [(.int .i64 0),(.int .i64 0)],stb z35 177 [(.slice z1e zX.length z1f),(.int .i64 zk.fRate.fN),(.int .i64 zk.fRate.fD),(.int .i64 zk.fL.fN),(.int .i64 zk.fL.fD),(.func (.func 78) #[] #[(.pointer (some z16)),(.pointer (some z17))]),(.slice z1g zY.length z1h)],blk z3D (z4y .ready none)]) rfl (WC.a (WL.nA 7 (yx (cs:=[(.int .i64 0),(.int .i64 0)]) zH rfl) ?_)))
    intro zOy _
    refine WL.yl rfl rfl (yk zq rfl rfl rfl .here rfl rfl rfl) (WL.nil (WX.ybF zmX .h6 (WC.block (WC.b ?_))))
    obtain ⟨z6e,zOz,z6f⟩:=z7 z6f
    refine WC.a (WL.qA 18 (ya y9Z rfl rfl) (WL.qA 19 (yc zw1 rfl (yj .h6 rfl)) (WL.qA 20 (yf zb rfl (yh .h1) rfl) (WL.cA 21 (y2q (l:=[.tmp 5,.tmp 20]) Tryz.call78 rfl (.r2 rfl rfl)) (.cons .h4 .nil) (cc hz (.cons .h4 .nil) fun w pz ho=>ya3 _ _ _ _ _ _ _ _ _ _ _ zOz w pz zmU zmV zmW ho) (WL.nA 8 (yx (cs:=[(.int .i64 0),(.int .i64 0)]) zH rfl) ?_)))))
    intro zOA _
    refine WL.yl rfl rfl (yk zq rfl rfl rfl .here rfl rfl rfl) (WL.nil (WX.a (WC.b ?_)))
    obtain ⟨zug,zCd,z6f⟩:=z7 z6f
    refine WC.yP (fun i=>[].contains i) [] rfl (WD.qA 0 22 rfl (yc z6Y rfl (yj .h4 rfl)) (WD.pA 1 23 rfl (fun _=>yG Tryz.underlying175 rfl) (WD.pA 2 24 rfl (fun _=>y9P rfl rfl) (WD.pA 3 25 rfl (fun _=>q_m rfl) (WD.mid (fuel':=0) [(1,(.pointer (some ⟨z35,0,none⟩))),(12,(.bool (decide (zkc ≠ 0)))),(5,(.pointer (some ⟨z2x,0,none⟩))),(6,(.pointer (some ⟨z2O,0,none⟩))),(17,(.agg #[(.int .i64 zal.fN),(.int .i64 zal.fD)])),(7,(.pointer (some ⟨zOy,0,none⟩))),(18,(.pointer (some ⟨z35,5,none⟩))),(19,(.func (.func 78) #[] #[(.pointer (some z16)),(.pointer (some z17))])),(20,(.agg #[(.int .i64 zal.fN),(.int .i64 zal.fD)])),(21,(.agg #[(.int .i64 z6e.1.fN),(.int .i64 z6e.1.fD)])),(8,(.pointer (some ⟨zOA,0,none⟩))),(22,(.slice zha z3i.length zhb)),(23,(.int .i64 ((z3i.length : Nat) : Int))),(24,(.bool (decide (((z3i.length : Nat) : Int) = 0)))),(25,(.bool (decide (((z3i.length : Nat) : Int) = 0)))),(32,(.bool zug))] (y4c 11 [10,9,8,7,6,5,4,3,2,1,0]) ?_ (fun zCe=>?_))))))
    rotate_left
    ·rcases Bool.eq_false_or_eq_true (decide (((z3i.length : Nat) : Int) = 0)) with hb' | hb'
     ·have zun:=hb'; clear hb'
      have zuo:=yo zCd zun
      replace zuo:=Option.some.inj zuo
      refine WD.pin (i:=25) rfl zun (WD.kA 4 26 rfl (WD.kA 5 27 rfl (WD.kA 6 28 rfl (WD.kA 7 29 rfl (WD.kA 8 30 rfl (WD.kA 9 31 rfl (WD.pA 10 32 rfl (fun _=>y3C rfl rfl) (WD.reL (.s8 .here .here .here .here .here .here .here .here) ?_ zCe))))))))
      exact (.cons rfl (.cons rfl (.cons rfl (.cons rfl (.cons rfl (.cons rfl (.cons rfl (.cons rfl (.cons rfl (.cons rfl (.cons rfl (.cons rfl (.cons rfl (.cons rfl (.cons (zB (Eq.symm zun)) (.cons (zB zuo) .nil))))))))))))))))
     ·have zup:=hb'; clear hb'
      have zev:=yp zCd zup
      obtain ⟨zkg,zev⟩:=ym zev
      obtain ⟨zCb,zOB,zev⟩:=z7 zev
      replace zev:=Option.some.inj zev
      refine WD.pin (i:=25) rfl zup (WD.qA 4 26 rfl (yf zb rfl (yh .here) rfl) (WD.qA 5 27 rfl (yc z6Y rfl (yj .h4 rfl)) (WD.know (fun w hw=>Hp.y31 .h5 hw (by intro hz'; have:=zkg; rw [hz'] at this; omega)) ?_)))
      rintro ⟨zWM,rfl⟩
      refine WD.pA 6 28 rfl (fun _=>y17 z1I rfl rfl zkg.1 zkg.2 y3S) (WD.qA 7 29 rfl (yR (cs:=(yu (nth z3i 0))) zb rfl rfl (y3F .h5 (y3e (enc:=yu) (l:=z3i) (i:=0) (sz:=2) (fun _=>rfl) zkg.1 zkg.2))) (WD.eA 8 30 rfl (z8 Tryz.call79 (.r2 rfl rfl)) (cc hz .nil fun w pz ho=>y47 _ _ _ _ zOB w pz ) (WD.pA 9 31 rfl (fun _=>ybZ rfl rfl) (WD.pA 10 32 rfl (fun _=>y3D rfl rfl) (WD.reL (.s8 .here .here .here .here .here .here .here .here) ?_ zCe)))))
      exact (.cons rfl (.cons rfl (.cons rfl (.cons rfl (.cons rfl (.cons rfl (.cons rfl (.cons rfl (.cons rfl (.cons rfl (.cons rfl (.cons rfl (.cons rfl (.cons rfl (.cons (zB (Eq.symm zup)) (.cons (zB zev) .nil))))))))))))))))
    refine WD.done (by kernel_rfl) (WX.a (WC.cond rfl (fun zuq=>?_) (fun zuq=>?_)))
    ·replace z6f:=yo z6f zuq
     refine WC.a (WL.qA 33 (yf zb rfl (yh .here) rfl) (WL.nA 34 (yX (cs:=([z6e.1] : List z2).flatMap yu) z1I (Eos.parts (l:=[.tmp 33]) (.cons rfl .nil) [0]) (fun _=>by kernel_rfl) rfl (by unfold maxLen; omega)) ?_))
     intro zur _
     refine WL.yl rfl rfl (yk znu rfl rfl rfl .h5 rfl rfl rfl) (WL.nil (WX.yq ?_))
     obtain ⟨rfl,rfl⟩:=y9w z6f
     exact WX.y6F zmX .h4 (fun w' hw'=>⟨((some ⟨zur,0,none⟩),1),rfl,trivial,(hw'.selAll ((.s6 .h1 .h1 .h2 .h4 .h4 .here) : Sel _ [stb z2O 175 [(.slice (some ⟨zur,0,none⟩) (([z6e.1] : List z2).length) 1)],row (.slice (some ⟨zur,0,none⟩) (([z6e.1] : List z2).length) 1) 132 2 (([z6e.1] : List z2).flatMap yu),stb z2x 225 [(.int .i64 z6e.2.fE)],stb z3j 132 [(.int .i64 0),(.int .i64 0)],stb z35 177 [(.slice z1e zX.length z1f),(.int .i64 zk.fRate.fN),(.int .i64 zk.fRate.fD),(.int .i64 zk.fL.fN),(.int .i64 zk.fL.fD),(.func (.func 78) #[] #[(.pointer (some z16)),(.pointer (some z17))]),(.slice z1g zY.length z1h)],blk z3D (z4y .ready none)] _)).sub (.cons .here .nil)⟩)
    ·replace z6f:=yp z6f zuq
     refine WC.skip (WX.yq ?_)
     obtain ⟨rfl,rfl⟩:=y9w z6f
     exact WX.y6F zmX .h2 (fun w' hw'=>⟨(zha,zhb),rfl,trivial,(hw'.selAll ((.s6 .h4 .h4 .h2 .h3 .h3 .here) : Sel _ [stb z2O 175 [(.slice zha z3i.length zhb)],row (.slice zha z3i.length zhb) 132 2 (z3i.flatMap yu),stb z2x 225 [(.int .i64 z6e.2.fE)],stb z3j 132 [(.int .i64 0),(.int .i64 0)],stb z35 177 [(.slice z1e zX.length z1f),(.int .i64 zk.fRate.fN),(.int .i64 zk.fRate.fD),(.int .i64 zk.fL.fN),(.int .i64 zk.fL.fD),(.func (.func 78) #[] #[(.pointer (some z16)),(.pointer (some z17))]),(.slice z1g zY.length z1h)],blk z3D (z4y .ready none)] _)).sub (.cons .here .nil)⟩)
   ·skip
    rintro _ w' ⟨⟨zkh,zki⟩,rfl,_,hp⟩
    have hp1:=hw1.call ((.cons .here .nil) : Sel [y26 [stb z2O 175 [(.slice none (([] : List z2).length) 0)],row (.slice none (([] : List z2).length) 0) 132 2 (([] : List z2).flatMap yu),stb z2x 225 [(.int .i64 0)],stb z3j 132 [(.int .i64 0),(.int .i64 0)],stb z35 177 [(.slice z1e zX.length z1f),(.int .i64 zk.fRate.fN),(.int .i64 zk.fRate.fD),(.int .i64 zk.fL.fN),(.int .i64 zk.fL.fD),(.func (.func 78) #[] #[(.pointer (some z16)),(.pointer (some z17))]),(.slice z1g zY.length z1h)],blk z3D (z4y .ready none)],dfr z5J,stb z3W 177 [(.slice z1e zX.length z1f),(.int .i64 zt.1),(.int .i64 zt.2.1),(.int .i64 zt.2.2.1),(.int .i64 zt.2.2.2),(.func (.func 78) #[] #[(.pointer (some z16)),(.pointer (some z17))]),(.slice z1g zY.length z1h)]] [y26 [stb z2O 175 [(.slice none (([] : List z2).length) 0)],row (.slice none (([] : List z2).length) 0) 132 2 (([] : List z2).flatMap yu),stb z2x 225 [(.int .i64 0)],stb z3j 132 [(.int .i64 0),(.int .i64 0)],stb z35 177 [(.slice z1e zX.length z1f),(.int .i64 zk.fRate.fN),(.int .i64 zk.fRate.fD),(.int .i64 zk.fL.fN),(.int .i64 zk.fL.fD),(.func (.func 78) #[] #[(.pointer (some z16)),(.pointer (some z17))]),(.slice z1g zY.length z1h)],blk z3D (z4y .ready none)]] [dfr z5J,stb z3W 177 [(.slice z1e zX.length z1f),(.int .i64 zt.1),(.int .i64 zt.2.1),(.int .i64 zt.2.2.1),(.int .i64 zt.2.2.2),(.func (.func 78) #[] #[(.pointer (some z16)),(.pointer (some z17))]),(.slice z1g zY.length z1h)]]) hp
    have hp2 : Hp _ _ w' [stb z2O 175 [(.slice zkh z3C.2.1.length zki)],row (.slice zkh z3C.2.1.length zki) 132 2 (z3C.2.1.flatMap yu),stb z2x 225 [(.int .i64 z3C.2.2)],stb z3j 132 [(.int .i64 0),(.int .i64 0)],stb z35 177 [(.slice z1e zX.length z1f),(.int .i64 zk.fRate.fN),(.int .i64 zk.fRate.fD),(.int .i64 zk.fL.fN),(.int .i64 zk.fL.fD),(.func (.func 78) #[] #[(.pointer (some z16)),(.pointer (some z17))]),(.slice z1g zY.length z1h)],blk z3D (z4y (rdy (pcs [] z3C.1)) (pcs [] z3C.1)),dfr z5J,stb z3W 177 [(.slice z1e zX.length z1f),(.int .i64 zt.1),(.int .i64 zt.2.1),(.int .i64 zt.2.2.1),(.int .i64 zt.2.2.2),(.func (.func 78) #[] #[(.pointer (some z16)),(.pointer (some z17))]),(.slice z1g zY.length z1h)]]:=hp1.pickAll .here
    refine ⟨_,pcs [] z3C.1,_,rfl,(hp2.sub ((.s8 .h5 .here .here .here .here .here .here .here) : Sel _ [blk z3D (z4y (rdy (pcs [] z3C.1)) (pcs [] z3C.1)),stb z2O 175 [(.slice zkh z3C.2.1.length zki)],row (.slice zkh z3C.2.1.length zki) 132 2 (z3C.2.1.flatMap yu),stb z2x 225 [(.int .i64 z3C.2.2)],stb z3j 132 [(.int .i64 0),(.int .i64 0)],stb z35 177 [(.slice z1e zX.length z1f),(.int .i64 zk.fRate.fN),(.int .i64 zk.fRate.fD),(.int .i64 zk.fL.fN),(.int .i64 zk.fL.fD),(.func (.func 78) #[] #[(.pointer (some z16)),(.pointer (some z17))]),(.slice z1g zY.length z1h)],dfr z5J,stb z3W 177 [(.slice z1e zX.length z1f),(.int .i64 zt.1),(.int .i64 zt.2.1),(.int .i64 zt.2.2.1),(.int .i64 zt.2.2.2),(.func (.func 78) #[] #[(.pointer (some z16)),(.pointer (some z17))]),(.slice z1g zY.length z1h)]] _)),?_⟩
    clear hp hp1 hp2 pz hw hw1
    refine wjN ?_
    letI : Rnd:=aft z5J
    refine WX.yq ?_
    exact WX.midR (D:=fun (g : Nat × Int × List z2 × Option Addr × Nat)=>g.1) (G:=Nat × Int × List z2 × Option Addr × Nat) ⟨z5J,z3C.2.2,z3C.2.1,zkh,zki⟩ h (.r3 rfl rfl rfl) (.s5 .h3 .h2 .here .here .h1)
  ·rintro zkd z8f z5I zke zkf h
   replace h:=(zOq z8f z5I).symm.trans h
   letI : Rnd:=aft zkd
   refine WC.b (WC.b (WC.a (WL.qA 35 (ya y4v rfl rfl) (WL.qA 36 (yc y2Y rfl (yj .h1 rfl)) (WL.pu rfl (WL.nil (WX.a (WC.cond rfl (fun zus=>?_) (fun zus=>?_)))))))))
   ·replace h:=yo h zus
    refine WC.b (WC.yP (fun i=>[3].contains i) [y7c z2x 225 [(0,(.int .i64 z8f))]] rfl (WD.pA 0 38 rfl (fun _=>yL (v:=(.agg #[(.int .i64 0),(.int .i64 0)])) (Eos.parts (l:=[]) .nil []) (fun _=>by kernel_rfl)) (WD.pA 1 39 rfl (fun _=>ya y4v rfl rfl) (WD.sA 2 40 rfl (Sin.wk (.cons .h1 .nil) (.stb (.cons rfl .nil) .nil)) (yc y2Y rfl (y5C .here (.head _))) (WD.forced0 (i:=3) rfl (by kernel_rfl) rfl rfl rfl (Sin.wk (.cons .h1 .nil) (.stb (.cons rfl .nil) .nil)) (yk zq rfl rfl rfl .here rfl rfl rfl) (WD.pA 4 3 rfl (fun _=>q_z rfl) (WD.done (by kernel_rfl) (WX.a (WC.ret (WX.yd ?_))))))))))
    obtain rfl:=Option.some.inj h
    refine WX.y7k .h4 Tryz.results77 (.agg rfl zb rfl (yh .h1) (.tmp rfl .nil)) (fun w hw=>?_)
    exact ⟨y1U rfl rfl,hw.sub .nil⟩
   ·replace h:=yp h zus
    refine WC.skip (WX.a (WC.b ?_))
    obtain ⟨zkj,h⟩:=ym h
    refine WC.a (WL.qA 41 (yc z6Y rfl (yj .h2 rfl)) (WL.know (fun w hw=>Hp.y31 .h3 hw (by intro hz'; have:=zkj; rw [hz'] at this; omega)) ?_))
    rintro ⟨zWN,rfl⟩
    refine WL.qA 42 (y17 z1I rfl rfl zkj.1 zkj.2 y3S) (WL.qA 43 (yR (cs:=(yu (nth z5I 0))) zb rfl rfl (y3F .h3 (y3e (enc:=yu) (l:=z5I) (i:=0) (sz:=2) (fun _=>rfl) zkj.1 zkj.2))) (WL.yl rfl rfl (yk zq rfl rfl rfl .here rfl rfl rfl) (WL.pu rfl (WL.nil (WX.a (WC.ret ?_))))))
    obtain rfl:=Option.some.inj h
    refine WX.y7k .h4 Tryz.results77 (.agg rfl zb rfl (yh .h1) (.tmp rfl .nil)) (fun w hw=>?_)
    exact ⟨y1U rfl rfl,hw.sub .nil⟩
def y4o (zam : List (List z6)) (z1Z : zSv) : Option (z2 × Int) :=
 (y3y zam z1Z zam z1Z ([z1Z.fL] : List z2)).bind fun zut=>some (zut.1,zut.2)
theorem yaU (Z : Zp) (zkk : Option Addr) (zkl : Nat) (zam : List (List z6)) (z1Z : zSv) (r : z2 × Int)
  (h : y4o zam z1Z = some r) (w₀ : World) (hz : PZ [] w₀ Z)
  (zCf : ZS Z 1 (y1P Z) zkk zkl zam) :
  Calls Tryz.prog 45 #[(.slice zkk zam.length zkl),(.agg #[(.int .i64 z1Z.fRate.fN),(.int .i64 z1Z.fRate.fD),(.int .i64 z1Z.fL.fN),(.int .i64 z1Z.fL.fD)])] w₀ fun e w'=>e = .returned (.tuple #[(.agg #[(.int .i64 r.1.fN),(.int .i64 r.1.fD)]),(.int .i64 r.2)]) ∧ Hp [] w₀ w' []:=by
 unfold y4o at h
 refine Calls.yI Tryz.func45 Tryz.ntmps45 ?_
 refine WC.b (WC.a (WL.nA 2 (yH (cs:=[(.slice zkk zam.length zkl)]) rfl rfl) ?_))
 intro zOC _
 refine WL.nA 3 (yH (cs:=[(.int .i64 z1Z.fRate.fN),(.int .i64 z1Z.fRate.fD),(.int .i64 z1Z.fL.fN),(.int .i64 z1Z.fL.fD)]) rfl rfl) ?_
 intro zOD _
 refine WL.nA 4 (yx (cs:=[(.int .i64 0),(.int .i64 0)]) zH rfl) ?_
 intro zWO _
 refine WL.pu rfl (WL.nil (WX.a (WC.b (WC.a (WL.qA 7 (yc z6h rfl (yj .h2 rfl)) (WL.qA 8 (yf zeL rfl (yh .h1) rfl) (WL.qA 9 (ya y7X rfl rfl) (WL.qA 10 (yR (cs:=[(.int .i64 z1Z.fL.fN),(.int .i64 z1Z.fL.fD)]) zb rfl rfl (y30 (s:=2) .h1 rfl)) (WL.nA 11 (yX (cs:=([z1Z.fL] : List z2).flatMap yu) z1I (Eos.parts (l:=[.tmp 10]) (.cons rfl .nil) [0]) (fun _=>by kernel_rfl) rfl (by unfold maxLen; omega)) ?_)))))))))
 intro zCg _
 refine WL.qA 12 (yL (v:=(.agg #[(.slice zkk zam.length zkl),(.int .i64 z1Z.fRate.fN),(.int .i64 z1Z.fRate.fD),(.int .i64 z1Z.fL.fN),(.int .i64 z1Z.fL.fD),.nilFunc,(.slice (some ⟨zCg,0,none⟩) (([z1Z.fL] : List z2).length) 1)])) (Eos.parts (l:=[.tmp 7,.tmp 8,.tmp 11]) (.r3 rfl rfl rfl) [0,1,3]) (fun _=>by kernel_rfl)) (WL.nA 6 (yx (cs:=[(.slice none 0 0),(.int .i64 0),(.int .i64 0),(.int .i64 0),(.int .i64 0),.nilFunc,(.slice none 0 0)]) zvV rfl) ?_)
 intro zWP _
 refine WL.yl rfl rfl (yk zvW rfl rfl rfl .here rfl rfl rfl) (WL.nil (WX.a (WC.b (WC.a (WL.qA 13 (y18 (Eos.caps (l:=[.tmp 2,.tmp 3]) (.r2 rfl rfl))) (WL.qA 14 (ya y9Z rfl rfl) (WL.yl rfl rfl (y5T (ds:=[(.slice zkk zam.length zkl),(.int .i64 z1Z.fRate.fN),(.int .i64 z1Z.fRate.fD),(.int .i64 z1Z.fL.fN),(.int .i64 z1Z.fL.fD),(.func (.func 78) #[] #[(.pointer (some ⟨zOC,0,none⟩)),(.pointer (some ⟨zOD,0,none⟩))]),(.slice (some ⟨zCg,0,none⟩) (([z1Z.fL] : List z2).length) 1)]) zvX rfl rfl rfl rfl rfl .here rfl rfl) (WL.nil (WX.a (WC.b ?_))))))))))
 obtain ⟨zut,zOE,h⟩:=z7 h
 refine WC.a (WL.qA 15 (yf zeM rfl (yh .here) rfl) (WL.cA 16 (z8 Tryz.call77 (.cons rfl .nil)) .nil (ccl hz .nil (.s3 .h4 .h3 .h1) fun w pz ho la=>y9q _ _ _ _ _ _ _ _ _ _ _ _ _ _ _ zOE w pz ((zCf.mono (Zle.left _ _)).weak (fun _ _ h=>y37 (Zle.left _ _) h)) ((zCf.mono (Zle.left _ _)).weak (fun _ _ h=>y37 (Zle.left _ _) h)) ((la _ (.head _) _).stb) ((la _ (.tail _ (.head _)) _).stb) (ZA.row (la _ (.tail _ (.tail _ (.head _))) _) (RR.flat (enc:=yu) (fun _=>rfl) _) ⟨w,pz.1⟩)) (WL.pu rfl (WL.pu rfl (WL.yl rfl rfl (yk zq rfl rfl rfl .h2 rfl rfl rfl) (WL.pu rfl (WL.nil (WX.a (WC.ret ?_)))))))))
 obtain rfl:=Option.some.inj h
 refine WX.ye Tryz.results45 (.agg rfl zb rfl (yh .here) (.tmp rfl .nil)) (fun w hw=>?_)
 exact ⟨y1U rfl rfl,hw.sub .nil⟩
def y1J (z1p : z2 × Int) (z1q : z2 × Int) (zan : Int → Option (Sapi_PortBound × Int × (List (Sbound_flow × z2)) × (List (Sbound_place × Int)))) : Nat → Int → Int → Option (Sapi_PortBound × Int × (List (Sbound_flow × z2)) × (List (Sbound_place × Int)))
 | 0,_,_=>none
 | zuu + 1,z3k,z5o=>if decide (z3k < ((([z1p.2,z1q.2] : List Int).length : Nat) : Int)) then jp1 (fun (zao : Int)=>y1J z1p z1q zan zuu (i64 (z3k + 1)) zao) fun zmY=>chk ((0 : Int) ≤ z3k ∧ z3k < ((([z1p.2,z1q.2] : List Int).length : Nat) : Int)) (jp1 (fun (z8g : Int)=>if decide (z5o = 0) then zmY z8g else zmY z5o) fun zmZ=>if decide ((nth ([z1p.2,z1q.2] : List Int) z3k) = 6) then zmZ 352 else zmZ (nth ([z1p.2,z1q.2] : List Int) z3k)) else zan z5o
theorem y8C {n : Nat} {z1p : z2 × Int} {z1q : z2 × Int} {zan : Int → Option (Sapi_PortBound × Int × (List (Sbound_flow × z2)) × (List (Sbound_place × Int)))} {z3k : Int} {z5o : Int} {r : Sapi_PortBound × Int × (List (Sbound_flow × z2)) × (List (Sbound_place × Int))} (h : y1J z1p z1q zan n z3k z5o = some r) : ∃ m,n = m + 1:=by
 cases n with
 | zero=>cases h
 | succ m=>exact ⟨m,rfl⟩
def y4D (zg : Sapi_Config) (z5p : List (List Sapi_Hop)) (zew : List (Sbound_flow × z2)) (z5q : List (Sbound_place × Int)) (zex : Int) (z1k : Sbound_place) : Option (Sapi_PortBound × Int × (List (Sbound_flow × z2)) × (List (Sbound_place × Int))) :=
 (y4a zg z5p zew z5q zex z1k).bind fun z36=>jp2 (fun (z7z : List (List z6)) (zcg : Int)=>chk ((0 : Int) ≤ z1k.fLink ∧ z1k.fLink < ((zg.fLinks.length : Nat) : Int)) ((y2c zcg).bind fun zkm=>(y4Y z7z (⟨(⟨1,((nth zg.fLinks z1k.fLink).fSlow)⟩ : z2),zkm⟩ : zSv)).bind fun z1p=>(y4o z7z (⟨(⟨1,((nth zg.fLinks z1k.fLink).fSlow)⟩ : z2),zkm⟩ : zSv)).bind fun z1q=>jp1 (fun (zch : Int)=>(y1I z1p.1).bind fun zkn=>(y1I z1q.1).bind fun zuv=>some (({z1k with fDelay:=(yn (yJ z5q z1k zkn) z1k 0),fStore:=i64 (zuv + z36.2.1)} : Sapi_PortBound),zch,z36.2.2.2,(yJ z5q z1k zkn))) fun zan=>y1J z1p z1q zan yz 0 z36.2.2.1)) fun zn0=>if decide ((i64 (z1k.fNode - ((zg.fModules.length : Nat) : Int))) ≥ 0) then chk ((0 : Int) ≤ (i64 (z1k.fNode - ((zg.fModules.length : Nat) : Int))) ∧ (i64 (z1k.fNode - ((zg.fModules.length : Nat) : Int))) < ((zg.fSwitches.length : Nat) : Int)) (zn0 z36.1 ((nth zg.fSwitches (i64 (z1k.fNode - ((zg.fModules.length : Nat) : Int)))).fDelay)) else zn0 z36.1 0
theorem ybp (Z : Zp) (z4Z : Nat) (z6F : Option Addr) (z6G : Nat) (z6H : Option Addr) (z6I : Nat) (z6J : Option Addr) (z6K : Nat) (z6L : Option Addr) (z6M : Nat) (z6N : Option Addr) (z6O : Nat) (z6P : Option Addr) (z6Q : Nat) (z6R : Option Addr) (z6S : Nat) (z6T : Option Addr) (z6U : Nat) (z6V : Option Addr) (z6W : Nat) (z37 : Nat) (z38 : Nat) (zg : Sapi_Config) (z5p : List (List Sapi_Hop)) (zew : List (Sbound_flow × z2)) (z5q : List (Sbound_place × Int)) (zex : Int) (z1k : Sbound_place) (r : Sapi_PortBound × Int × (List (Sbound_flow × z2)) × (List (Sbound_place × Int)))
  (h : y4D zg z5p zew z5q zex z1k = some r) (w₀ : World) (hz : PZ (fps [stb z4Z 95 [(.slice z6F zg.fModules.length z6G),(.slice z6H zg.fChannels.length z6I),(.slice z6J zg.fSwitches.length z6K),(.slice z6L zg.fLinks.length z6M),(.slice z6N zg.fVLs.length z6O),(.slice z6P zg.fHealth.length z6Q),(.slice z6R zg.fCauses.length z6S),(.slice z6T zg.fVersions.length z6U),(.slice z6V z5p.length z6W),(.map (some z37)),(.map (some z38)),(.int .i64 zex)],yy z37 (fun x=>Value.agg (y2e x).toArray) (fun x=>Value.agg (yu x).toArray) zew,yy z38 (fun x=>Value.agg (e97 x).toArray) (Value.int .i64) z5q]) w₀ Z)
  (zOF : ZS Z 4 (y48 Z) z6F z6G zg.fModules)
  (zOG : ZS Z 4 (y4H Z) z6H z6I zg.fChannels)
  (zCh : ZS Z 4 (fun r x=>r = e66 x) z6J z6K zg.fSwitches)
  (zCi : ZS Z 4 (fun r x=>r = e64 x) z6L z6M zg.fLinks)
  (zOH : ZS Z 7 (p46 Z) z6N z6O zg.fVLs)
  (zOI : ZS Z 5 (fun r x=>r = y4U x) z6P z6Q zg.fHealth)
  (zOJ : ZS Z 3 (y4I Z) z6R z6S zg.fCauses)
  (zOK : ZS Z 4 (fun r x=>r = y4V x) z6T z6U zg.fVersions)
  (zOL : ZS Z 1 (p48 Z) z6V z6W z5p)
  (hown : Hp (fps [stb z4Z 95 [(.slice z6F zg.fModules.length z6G),(.slice z6H zg.fChannels.length z6I),(.slice z6J zg.fSwitches.length z6K),(.slice z6L zg.fLinks.length z6M),(.slice z6N zg.fVLs.length z6O),(.slice z6P zg.fHealth.length z6Q),(.slice z6R zg.fCauses.length z6S),(.slice z6T zg.fVersions.length z6U),(.slice z6V z5p.length z6W),(.map (some z37)),(.map (some z38)),(.int .i64 zex)],yy z37 (fun x=>Value.agg (y2e x).toArray) (fun x=>Value.agg (yu x).toArray) zew,yy z38 (fun x=>Value.agg (e97 x).toArray) (Value.int .i64) z5q]) w₀ w₀ [stb z4Z 95 [(.slice z6F zg.fModules.length z6G),(.slice z6H zg.fChannels.length z6I),(.slice z6J zg.fSwitches.length z6K),(.slice z6L zg.fLinks.length z6M),(.slice z6N zg.fVLs.length z6O),(.slice z6P zg.fHealth.length z6Q),(.slice z6R zg.fCauses.length z6S),(.slice z6T zg.fVersions.length z6U),(.slice z6V z5p.length z6W),(.map (some z37)),(.map (some z38)),(.int .i64 zex)],yy z37 (fun x=>Value.agg (y2e x).toArray) (fun x=>Value.agg (yu x).toArray) zew,yy z38 (fun x=>Value.agg (e97 x).toArray) (Value.int .i64) z5q]) :
  Calls Tryz.prog 22 #[(.pointer (some ⟨z4Z,0,none⟩)),(.agg #[(.int .i64 z1k.fNode),(.int .i64 z1k.fLink)])] w₀ fun e w'=>e = .returned (.agg #[(.int .i64 r.1.fNode),(.int .i64 r.1.fLink),(.int .i64 r.1.fDelay),(.int .i64 r.1.fStore)]) ∧ Hp (fps [stb z4Z 95 [(.slice z6F zg.fModules.length z6G),(.slice z6H zg.fChannels.length z6I),(.slice z6J zg.fSwitches.length z6K),(.slice z6L zg.fLinks.length z6M),(.slice z6N zg.fVLs.length z6O),(.slice z6P zg.fHealth.length z6Q),(.slice z6R zg.fCauses.length z6S),(.slice z6T zg.fVersions.length z6U),(.slice z6V z5p.length z6W),(.map (some z37)),(.map (some z38)),(.int .i64 zex)],yy z37 (fun x=>Value.agg (y2e x).toArray) (fun x=>Value.agg (yu x).toArray) zew,yy z38 (fun x=>Value.agg (e97 x).toArray) (Value.int .i64) z5q]) w₀ w' [stb z4Z 95 [(.slice z6F zg.fModules.length z6G),(.slice z6H zg.fChannels.length z6I),(.slice z6J zg.fSwitches.length z6K),(.slice z6L zg.fLinks.length z6M),(.slice z6N zg.fVLs.length z6O),(.slice z6P zg.fHealth.length z6Q),(.slice z6R zg.fCauses.length z6S),(.slice z6T zg.fVersions.length z6U),(.slice z6V z5p.length z6W),(.map (some z37)),(.map (some z38)),(.int .i64 r.2.1)],yy z37 (fun x=>Value.agg (y2e x).toArray) (fun x=>Value.agg (yu x).toArray) r.2.2.1,yy z38 (fun x=>Value.agg (e97 x).toArray) (Value.int .i64) r.2.2.2]:=by
 unfold y4D at h
 refine Calls.oh2 Tryz.func22 Tryz.ntmps22 hown ?_
 refine WC.pool (WC.b (WC.a (WL.nA 3 (yH (cs:=[(.int .i64 z1k.fNode),(.int .i64 z1k.fLink)]) rfl rfl) ?_)))
 intro z8h _
 refine WL.nA 4 (yx (cs:=[(.int .i64 0),(.int .i64 0),(.int .i64 0),(.int .i64 0)]) ydM rfl) ?_
 intro z8i _
 refine WL.nil (WX.a (WC.b ?_))
 obtain ⟨z36,zOM,h⟩:=z7 h
 refine WC.a (WL.pu rfl (WL.qA 18 (yf y3H rfl (yh .h1) rfl) (WL.yat (dd:=19) rfl rfl rfl (z8 Tryz.call42 (.r2 rfl rfl)) (.s3 .h3 .h3 .h3) (ccz hz (.s3 .h3 .h3 .h3) .h2 fun w pz ho=>yap _ _ _ _ _ _ _ _ _ _ _ _ _ _ _ _ _ _ _ _ _ _ _ _ _ _ _ _ _ zOM w pz ((zOF.mono (Zle.left _ _)).weak (fun _ _ h=>y2d (Zle.left _ _) h)) ((zOG.mono (Zle.left _ _)).weak (fun _ _ h=>y2r (Zle.left _ _) h)) (zCh.mono (Zle.left _ _)) (zCi.mono (Zle.left _ _)) ((zOH.mono (Zle.left _ _)).weak (fun _ _ h=>y29 (Zle.left _ _) h)) (zOI.mono (Zle.left _ _)) ((zOJ.mono (Zle.left _ _)).weak (fun _ _ h=>y2s (Zle.left _ _) h)) (zOK.mono (Zle.left _ _)) ((zOL.mono (Zle.left _ _)).weak (fun _ _ h=>y2v (Zle.left _ _) h)) ho) ?_)))
 rintro zci zCj zCk zCl zCm
 refine WL.merge .here .h6 (WL.pu rfl (WL.pu rfl (WL.pu rfl (WL.pu rfl (WL.pu rfl (WL.nil (WX.a (WC.b (WC.a (WL.pu rfl (WL.nil (WX.a ?_))))))))))))
 obtain ⟨zn0,zON,h⟩:=y4t h
 refine WC.y2F (fun (z7z : List (List z6)) (zcg : Int) (zko : List Value)=>(zn0 z7z zcg = some r) ∧ (RR 1 (y1P (Z ++ ([] ++ zci))) zko z7z)) (fun z7z zcg zko=>[(0,(.pointer (some ⟨z4Z,0,none⟩))),(3,(.pointer (some ⟨z8h,0,none⟩))),(4,(.pointer (some ⟨z8i,0,none⟩))),(5,(.slice zCj z7z.length zCk)),(6,(.int .i64 z36.2.1)),(7,(.int .i64 zcg))]) (fun z7z zcg zko=>[fz ([] ++ zci),row (.slice zCj z7z.length zCk) 173 1 zko,stb z4Z 95 [(.slice z6F zg.fModules.length z6G),(.slice z6H zg.fChannels.length z6I),(.slice z6J zg.fSwitches.length z6K),(.slice z6L zg.fLinks.length z6M),(.slice z6N zg.fVLs.length z6O),(.slice z6P zg.fHealth.length z6Q),(.slice z6R zg.fCauses.length z6S),(.slice z6T zg.fVersions.length z6U),(.slice z6V z5p.length z6W),(.map (some z37)),(.map (some z38)),(.int .i64 z36.2.2.1)],stb z8h 97 [(.int .i64 z1k.fNode),(.int .i64 z1k.fLink)],stb z8i 58 [(.int .i64 0),(.int .i64 0),(.int .i64 0),(.int .i64 0)],yy z37 (fun x=>Value.agg (y2e x).toArray) (fun x=>Value.agg (yu x).toArray) z36.2.2.2,yy z38 (fun x=>Value.agg (e97 x).toArray) (Value.int .i64) z5q]) ?_ ?_
 ·skip
  refine WC.b (WC.yP (fun i=>[].contains i) [] rfl (WD.pA 0 22 rfl (fun _=>ya y8J rfl rfl) (WD.qA 1 23 rfl (yc yw rfl (yj .h6 rfl)) (WD.pA 2 24 rfl (fun _=>q_m rfl) (WD.pA 3 25 rfl (fun _=>y11 rfl) (WD.pA 4 26 rfl (fun _=>ya y6a rfl rfl) (WD.pA 5 27 rfl (fun _=>ya y67 rfl rfl) (WD.qA 6 28 rfl (yc y68 rfl (yj .h2 rfl)) (WD.pA 7 29 rfl (fun _=>yG Tryz.underlying22 rfl) (WD.pA 8 30 rfl (fun _=>ybY rfl rfl rfl) (WD.pA 9 8 rfl (fun _=>q_z rfl) (WD.done (by kernel_rfl) (WX.a (WC.b (WC.a (WL.pu rfl (WL.pu rfl (WL.nil (WX.a (WC.cond rfl (fun zuw=>?_) (fun zuw=>?_)))))))))))))))))))))
  ·replace h:=yo h zuw
   obtain ⟨zOO,h⟩:=ym h
   refine WC.a (WL.pu rfl (WL.qA 34 (y11 rfl) (WL.qA 35 (ya y6a rfl rfl) (WL.qA 36 (ya y8G rfl rfl) (WL.qA 37 (yc y8H rfl (yj .h2 rfl)) (WL.pu rfl (WL.znth (dd:=39) rfl rfl (Z:=(Z ++ ([] ++ zci))) (Pr:=(fun r x=>r = e66 x)) yaN rfl rfl (zCh.mono ((Zle.left _ _).trans ((Zle.left _ _).trans (Zle.y1K _ _ _)))) zOO ?_)))))))
   rintro zWQ zWR zOP zWS rfl
   refine WL.qA 40 (ya yb9 rfl rfl) (WL.qA 41 (yc yw rfl (y1e (hz.pv2 .here) zOP rfl)) (WL.pu rfl (WL.nil ?_)))
   exact WX.mid ⟨z36.1,((nth zg.fSwitches (i64 (z1k.fNode - ((zg.fModules.length : Nat) : Int)))).fDelay),zCl⟩ ⟨h,(zCm.weak (fun _ _ h=>y37 (Zle.y1K _ _ _) h))⟩ (.r6 rfl rfl rfl rfl rfl rfl) (.s7 .here .here .here .h3 .h2 .here .here)
  ·replace h:=yp h zuw
   refine WC.skip ?_
   exact WX.mid ⟨z36.1,0,zCl⟩ ⟨h,(zCm.weak (fun _ _ h=>y37 (Zle.y1K _ _ _) h))⟩ (.r6 rfl rfl rfl rfl rfl rfl) (.s7 .here .here .here .h3 .h2 .here .here)
 ·rintro z7z zcg zko ⟨h,zCn⟩
  replace h:=(zON z7z zcg).symm.trans h
  refine WC.b ?_
  obtain ⟨zOQ,h⟩:=ym h
  obtain ⟨zkm,zOR,h⟩:=z7 h
  refine WC.yP (fun i=>[15].contains i) [] rfl (WD.pA 0 42 rfl (fun _=>q_m rfl) (WD.pA 1 43 rfl (fun _=>y11 rfl) (WD.pA 2 44 rfl (fun _=>ya y6a rfl rfl) (WD.pA 3 45 rfl (fun _=>ya y7T rfl rfl) (WD.qA 4 46 rfl (yc y7U rfl (yj .h2 rfl)) (WD.pA 5 47 rfl (fun _=>ya y9y rfl rfl) (WD.qA 6 48 rfl (yc yw rfl (yj .h3 rfl)) (WD.znth (j:=7) (dd:=49) (by kernel_rfl) rfl z2l z2m rfl rfl (Z:=(Z ++ ([] ++ zci))) (Pr:=(fun r x=>r = e64 x)) yaO rfl rfl (zCi.mono ((Zle.left _ _).trans ((Zle.left _ _).trans (Zle.y1K _ _ _)))) zOQ ?_))))))))
  rintro zWT zWU zOS zWV rfl
  refine WD.pA 8 50 rfl (fun _=>ya y8I rfl rfl) (WD.qA 9 51 rfl (yc yw rfl (y1e (hz.pv2 .here) zOS rfl)) (WD.pA 10 52 rfl (fun _=>yL (v:=(.agg #[(.int .i64 1),(.int .i64 ((nth zg.fLinks z1k.fLink).fSlow))])) (Eos.parts (l:=[.const (.int .i64 1),.tmp 51]) (.r2 rfl rfl) [0,1]) (fun _=>by kernel_rfl)) (WD.pA 11 53 rfl (fun _=>q_m rfl) (WD.eA 12 54 rfl (z8 Tryz.call43 (.cons rfl .nil)) (ccz hz .nil .here fun w pz ho=>y4x _ _ _ zOR w pz ) (WD.pA 13 55 rfl (fun _=>yL (v:=(.agg #[(.int .i64 1),(.int .i64 ((nth zg.fLinks z1k.fLink).fSlow)),(.int .i64 zkm.fN),(.int .i64 zkm.fD)])) (Eos.parts (l:=[.tmp 52,.tmp 54]) (.r2 rfl rfl) [0,1]) (fun _=>by kernel_rfl)) (WD.new (i:=14) (dd:=9) rfl (by kernel_rfl) rfl rfl rfl (yx (cs:=[(.int .i64 0),(.int .i64 0),(.int .i64 0),(.int .i64 0)]) zDm rfl) (fun h'=>absurd h' (by decide)) ?_))))))
  intro zWW _
  refine WD.y3A (i:=15) rfl (by kernel_rfl) rfl rfl rfl (by kernel_rfl) (yk zDn rfl rfl rfl .here rfl rfl rfl) (WD.done (by kernel_rfl) (WX.a (WC.b ?_)))
  obtain ⟨z1p,zOT,h⟩:=z7 h
  refine WC.a (WL.pu rfl (WL.qA 58 (yf zeL rfl (yh .here) rfl) (WL.cA 59 (z8 Tryz.call44 (.r2 rfl rfl)) .nil (cclz hz .nil .h1 (.cons .h2 .nil) fun w pz ho la=>ybK _ _ _ _ _ _ zOT w pz (ZA.row (la _ (.head _) _) (zCn.weak (fun _ _ h=>y37 (Zle.left _ _) h)) ⟨w,pz.1⟩)) (WL.pu rfl (WL.pu rfl (WL.pu rfl (WL.nA 10 (yx (cs:=[(.int .i64 0),(.int .i64 0)]) zH rfl) ?_)))))))
  intro zcj _
  refine WL.yl rfl rfl (yk zq rfl rfl rfl .here rfl rfl rfl) (WL.pu rfl (WL.nil (WX.a (WC.b ?_))))
  obtain ⟨z1q,zOU,h⟩:=z7 h
  refine WC.a (WL.pu rfl (WL.qA 64 (yf zeL rfl (yh .h1) rfl) (WL.cA 65 (z8 Tryz.call45 (.r2 rfl rfl)) .nil (cclz hz .nil .h2 (.cons .h3 .nil) fun w pz ho la=>yaU _ _ _ _ _ _ zOU w pz (ZA.row (la _ (.head _) _) (zCn.weak (fun _ _ h=>y37 (Zle.left _ _) h)) ⟨w,pz.1⟩)) (WL.pu rfl (WL.pu rfl (WL.pu rfl (WL.nA 12 (yx (cs:=[(.int .i64 0),(.int .i64 0)]) zH rfl) ?_)))))))
  intro zck _
  refine WL.yl rfl rfl (yk zq rfl rfl rfl .here rfl rfl rfl) (WL.pu rfl (WL.nil (WX.a ?_)))
  obtain ⟨zan,zOV,h⟩:=y14 h
  refine WC.y3z (fun (zch : Int)=>(zan zch = some r)) (fun zch=>[(0,(.pointer (some ⟨z4Z,0,none⟩))),(3,(.pointer (some ⟨z8h,0,none⟩))),(4,(.pointer (some ⟨z8i,0,none⟩))),(6,(.int .i64 z36.2.1)),(10,(.pointer (some ⟨zcj,0,none⟩))),(12,(.pointer (some ⟨zck,0,none⟩)))]) (fun zch=>[fz ([] ++ zci),stb z4Z 95 [(.slice z6F zg.fModules.length z6G),(.slice z6H zg.fChannels.length z6I),(.slice z6J zg.fSwitches.length z6K),(.slice z6L zg.fLinks.length z6M),(.slice z6N zg.fVLs.length z6O),(.slice z6P zg.fHealth.length z6Q),(.slice z6R zg.fCauses.length z6S),(.slice z6T zg.fVersions.length z6U),(.slice z6V z5p.length z6W),(.map (some z37)),(.map (some z38)),(.int .i64 zch)],stb z8h 97 [(.int .i64 z1k.fNode),(.int .i64 z1k.fLink)],stb z8i 58 [(.int .i64 0),(.int .i64 0),(.int .i64 0),(.int .i64 0)],stb zcj 132 [(.int .i64 z1p.1.fN),(.int .i64 z1p.1.fD)],stb zck 132 [(.int .i64 z1q.1.fN),(.int .i64 z1q.1.fD)],yy z37 (fun x=>Value.agg (y2e x).toArray) (fun x=>Value.agg (yu x).toArray) z36.2.2.2,yy z38 (fun x=>Value.agg (e97 x).toArray) (Value.int .i64) z5q]) ?_ ?_
  ·skip
   refine WC.b (WC.a (WL.pu rfl (WL.pu rfl (WL.nA 70 (yX (cs:=([z1p.2,z1q.2] : List Int).flatMap e39) zw2 (Eos.parts (l:=[.tmp 68,.tmp 69]) (.r2 rfl rfl) [0,1]) (fun _=>by kernel_rfl) rfl (by unfold maxLen; omega)) ?_))))
   intro zhc _
   refine WL.qA 71 (yG Tryz.underlying138 rfl) (WL.pu rfl (WL.nil (WX.a (WC.block (WC.y8O (fun (zhd : Nat) (z3k : Int) (z5o : Int)=>(y1J z1p z1q zan zhd z3k z5o = some r)) (fun zhd z3k z5o=>[(0,(.pointer (some ⟨z4Z,0,none⟩))),(3,(.pointer (some ⟨z8h,0,none⟩))),(4,(.pointer (some ⟨z8i,0,none⟩))),(6,(.int .i64 z36.2.1)),(10,(.pointer (some ⟨zcj,0,none⟩))),(12,(.pointer (some ⟨zck,0,none⟩))),(70,(.slice (some ⟨zhc,0,none⟩) (([z1p.2,z1q.2] : List Int).length) 2)),(71,(.int .i64 ((([z1p.2,z1q.2] : List Int).length : Nat) : Int))),(72,(.int .i64 z3k))]) (fun zhd z3k z5o=>[fz ([] ++ zci),row (.slice (some ⟨zhc,0,none⟩) (([z1p.2,z1q.2] : List Int).length) 2) 39 1 (([z1p.2,z1q.2] : List Int).flatMap e39),stb z4Z 95 [(.slice z6F zg.fModules.length z6G),(.slice z6H zg.fChannels.length z6I),(.slice z6J zg.fSwitches.length z6K),(.slice z6L zg.fLinks.length z6M),(.slice z6N zg.fVLs.length z6O),(.slice z6P zg.fHealth.length z6Q),(.slice z6R zg.fCauses.length z6S),(.slice z6T zg.fVersions.length z6U),(.slice z6V z5p.length z6W),(.map (some z37)),(.map (some z38)),(.int .i64 z5o)],stb z8h 97 [(.int .i64 z1k.fNode),(.int .i64 z1k.fLink)],stb z8i 58 [(.int .i64 0),(.int .i64 0),(.int .i64 0),(.int .i64 0)],stb zcj 132 [(.int .i64 z1p.1.fN),(.int .i64 z1p.1.fD)],stb zck 132 [(.int .i64 z1q.1.fN),(.int .i64 z1q.1.fD)],yy z37 (fun x=>Value.agg (y2e x).toArray) (fun x=>Value.agg (yu x).toArray) z36.2.2.2,yy z38 (fun x=>Value.agg (e97 x).toArray) (Value.int .i64) z5q]) (fun zhd z3k z5o=>zhd) ⟨yz,0,z36.2.2.1⟩ h (.r9 rfl rfl rfl rfl rfl rfl rfl rfl rfl) (.s9 .h4 .here .h4 .h4 .h4 .h1 .here .h2 .h2) ?_)))))
   rintro zhd z3k z5o h
   obtain ⟨zuu,rfl⟩:=y8C h
   rw [y1J] at h
   refine WC.b (WC.a (WL.pu rfl (WL.nil (WX.a (WC.b (WC.cond rfl (fun zux=>?_) (fun zux=>?_)))))))
   ·replace h:=yo h zux
    refine WC.skip (WX.a ?_)
    obtain ⟨zmY,zOW,h⟩:=y14 h
    refine WC.y3z (fun (zao : Int)=>(zmY zao = some r)) (fun zao=>[(0,(.pointer (some ⟨z4Z,0,none⟩))),(3,(.pointer (some ⟨z8h,0,none⟩))),(4,(.pointer (some ⟨z8i,0,none⟩))),(6,(.int .i64 z36.2.1)),(10,(.pointer (some ⟨zcj,0,none⟩))),(12,(.pointer (some ⟨zck,0,none⟩))),(70,(.slice (some ⟨zhc,0,none⟩) (([z1p.2,z1q.2] : List Int).length) 2)),(71,(.int .i64 ((([z1p.2,z1q.2] : List Int).length : Nat) : Int))),(72,(.int .i64 z3k))]) (fun zao=>[fz ([] ++ zci),row (.slice (some ⟨zhc,0,none⟩) (([z1p.2,z1q.2] : List Int).length) 2) 39 1 (([z1p.2,z1q.2] : List Int).flatMap e39),stb z4Z 95 [(.slice z6F zg.fModules.length z6G),(.slice z6H zg.fChannels.length z6I),(.slice z6J zg.fSwitches.length z6K),(.slice z6L zg.fLinks.length z6M),(.slice z6N zg.fVLs.length z6O),(.slice z6P zg.fHealth.length z6Q),(.slice z6R zg.fCauses.length z6S),(.slice z6T zg.fVersions.length z6U),(.slice z6V z5p.length z6W),(.map (some z37)),(.map (some z38)),(.int .i64 zao)],stb z8h 97 [(.int .i64 z1k.fNode),(.int .i64 z1k.fLink)],stb z8i 58 [(.int .i64 0),(.int .i64 0),(.int .i64 0),(.int .i64 0)],stb zcj 132 [(.int .i64 z1p.1.fN),(.int .i64 z1p.1.fD)],stb zck 132 [(.int .i64 z1q.1.fN),(.int .i64 z1q.1.fD)],yy z37 (fun x=>Value.agg (y2e x).toArray) (fun x=>Value.agg (yu x).toArray) z36.2.2.2,yy z38 (fun x=>Value.agg (e97 x).toArray) (Value.int .i64) z5q]) ?_ ?_
    ·skip
     refine WC.block (WC.b ?_)
     obtain ⟨zn1,h⟩:=ym h
     refine WC.a (WL.qA 74 (y17 zw2 rfl rfl zn1.1 zn1.2 y3S) (WL.qA 75 (yc y2Y rfl (ydv .h1 ((y3e (enc:=e39) (l:=([z1p.2,z1q.2] : List Int)) (i:=z3k) (sz:=1) (fun _=>rfl) zn1.1 zn1.2) 0 _ rfl))) (WL.pu rfl (WL.nil (WX.a ?_)))))
     obtain ⟨zmZ,zOX,h⟩:=y14 h
     refine WC.y3z (fun (z8g : Int)=>(zmZ z8g = some r)) (fun z8g=>[(0,(.pointer (some ⟨z4Z,0,none⟩))),(3,(.pointer (some ⟨z8h,0,none⟩))),(4,(.pointer (some ⟨z8i,0,none⟩))),(6,(.int .i64 z36.2.1)),(10,(.pointer (some ⟨zcj,0,none⟩))),(12,(.pointer (some ⟨zck,0,none⟩))),(15,(.int .i64 z8g)),(70,(.slice (some ⟨zhc,0,none⟩) (([z1p.2,z1q.2] : List Int).length) 2)),(71,(.int .i64 ((([z1p.2,z1q.2] : List Int).length : Nat) : Int))),(72,(.int .i64 z3k))]) (fun z8g=>[fz ([] ++ zci),row (.slice (some ⟨zhc,0,none⟩) (([z1p.2,z1q.2] : List Int).length) 2) 39 1 (([z1p.2,z1q.2] : List Int).flatMap e39),stb z4Z 95 [(.slice z6F zg.fModules.length z6G),(.slice z6H zg.fChannels.length z6I),(.slice z6J zg.fSwitches.length z6K),(.slice z6L zg.fLinks.length z6M),(.slice z6N zg.fVLs.length z6O),(.slice z6P zg.fHealth.length z6Q),(.slice z6R zg.fCauses.length z6S),(.slice z6T zg.fVersions.length z6U),(.slice z6V z5p.length z6W),(.map (some z37)),(.map (some z38)),(.int .i64 z5o)],stb z8h 97 [(.int .i64 z1k.fNode),(.int .i64 z1k.fLink)],stb z8i 58 [(.int .i64 0),(.int .i64 0),(.int .i64 0),(.int .i64 0)],stb zcj 132 [(.int .i64 z1p.1.fN),(.int .i64 z1p.1.fD)],stb zck 132 [(.int .i64 z1q.1.fN),(.int .i64 z1q.1.fD)],yy z37 (fun x=>Value.agg (y2e x).toArray) (fun x=>Value.agg (yu x).toArray) z36.2.2.2,yy z38 (fun x=>Value.agg (e97 x).toArray) (Value.int .i64) z5q]) ?_ ?_
     ·skip
      refine WC.b (WC.a (WL.pu rfl (WL.pu rfl (WL.nil (WX.a (WC.cond rfl (fun zuy=>?_) (fun zuy=>?_)))))))
      ·replace h:=yo h zuy
       refine WC.a (WL.pu rfl (WL.nil ?_))
       exact WX.mid 352 h (.r10 rfl rfl rfl rfl rfl rfl rfl rfl rfl rfl) (.s9 .here .here .here .here .here .here .here .here .here)
      ·replace h:=yp h zuy
       refine WC.skip ?_
       exact WX.mid (nth ([z1p.2,z1q.2] : List Int) z3k) h (.r10 rfl rfl rfl rfl rfl rfl rfl rfl rfl rfl) (.s9 .here .here .here .here .here .here .here .here .here)
     ·rintro z8g h
      replace h:=(zOX z8g).symm.trans h
      refine WC.b (WC.a (WL.pu rfl (WL.qA 79 (y11 rfl) (WL.qA 80 (ya y8K rfl rfl) (WL.qA 81 (yc y2Y rfl (yj .h2 rfl)) (WL.pu rfl (WL.nil (WX.a (WC.cond rfl (fun zuz=>?_) (fun zuz=>?_))))))))))
      ·replace h:=yo h zuz
       refine WC.a (WL.pu rfl (WL.pu rfl (WL.qA 85 (y11 rfl) (WL.qA 86 (ya y8K rfl rfl) (WL.yl rfl rfl (y5T (ds:=[(.slice z6F zg.fModules.length z6G),(.slice z6H zg.fChannels.length z6I),(.slice z6J zg.fSwitches.length z6K),(.slice z6L zg.fLinks.length z6M),(.slice z6N zg.fVLs.length z6O),(.slice z6P zg.fHealth.length z6Q),(.slice z6R zg.fCauses.length z6S),(.slice z6T zg.fVersions.length z6U),(.slice z6V z5p.length z6W),(.map (some z37)),(.map (some z38)),(.int .i64 z8g)]) y9A rfl rfl rfl rfl rfl .h2 rfl rfl) (WL.nil (WX.yq ?_)))))))
       exact WX.mid z8g h (.r9 rfl rfl rfl rfl rfl rfl rfl rfl rfl) (.s9 .h1 .h1 .here .here .here .here .here .here .here)
      ·replace h:=yp h zuz
       refine WC.skip (WX.yq ?_)
       exact WX.mid z5o h (.r9 rfl rfl rfl rfl rfl rfl rfl rfl rfl) (.s9 .here .here .here .here .here .here .here .here .here)
    ·rintro zao h
     replace h:=(zOW zao).symm.trans h
     refine WC.a (WL.pu rfl (WL.pu rfl (WL.nil ?_)))
     exact WX.round ⟨zuu,(i64 (z3k + 1)),zao⟩ h (Nat.lt_succ_self _) (.r9 rfl rfl rfl rfl rfl rfl rfl rfl rfl) (.s9 .here .here .here .here .here .here .here .here .here)
   ·replace h:=yp h zux
    refine WC.exit (WX.yg (WX.yg (WX.yA ?_)))
    exact WX.mid z5o h (.r6 rfl rfl rfl rfl rfl rfl) (.s8 .here .h1 .h1 .h1 .h1 .h1 .h1 .h1)
  ·rintro zch h
   replace h:=(zOV zch).symm.trans h
   refine WC.b ?_
   obtain ⟨zkn,zOY,h⟩:=z7 h
   refine WC.yP (fun i=>[7].contains i) [] rfl (WD.pA 0 88 rfl (fun _=>q_m rfl) (WD.pA 1 89 rfl (fun _=>y11 rfl) (WD.pA 2 90 rfl (fun _=>ya ycC rfl rfl) (WD.qA 3 91 rfl (yc y9z rfl (yj .h1 rfl)) (WD.qA 4 92 rfl (yf y3H rfl (yh .h2) rfl) (WD.qA 5 93 rfl (yf zb rfl (yh .h4) rfl) (WD.eA 6 94 rfl (z8 Tryz.call46 (.cons rfl .nil)) (ccz hz .nil .here fun w pz ho=>y5x _ _ _ zOY w pz ) (WD.y3A (i:=7) rfl (by kernel_rfl) rfl rfl rfl (by kernel_rfl) (y5u (k:=z1k) (v:=zkn) y7o Tryz.underlying93 rfl rfl rfl rfl .h7) (WD.done (by kernel_rfl) (WX.a (WC.b ?_)))))))))))
   obtain ⟨zuv,zOZ,h⟩:=z7 h
   refine WC.yP (fun i=>[15].contains i) [] rfl (WD.pA 0 95 rfl (fun _=>ya y8J rfl rfl) (WD.qA 1 96 rfl (yc yw rfl (yj .h3 rfl)) (WD.pA 2 97 rfl (fun _=>ya y9y rfl rfl) (WD.qA 3 98 rfl (yc yw rfl (yj .h3 rfl)) (WD.pA 4 99 rfl (fun _=>q_m rfl) (WD.pA 5 100 rfl (fun _=>y11 rfl) (WD.pA 6 101 rfl (fun _=>ya ycC rfl rfl) (WD.qA 7 102 rfl (yc y9z rfl (yj .h2 rfl)) (WD.qA 8 103 rfl (yf y3H rfl (yh .h3) rfl) (WD.qA 9 104 rfl (y3l (k:=z1k) (dflt:=(0 : Int)) y7o Tryz.underlying93 y4P rfl rfl rfl .here) (WD.qA 10 105 rfl (yf zb rfl (yh .h6) rfl) (WD.eA 11 106 rfl (z8 Tryz.call46 (.cons rfl .nil)) (ccz hz .nil .h1 fun w pz ho=>y5x _ _ _ zOZ w pz ) (WD.pA 12 107 rfl (fun _=>q_m rfl) (WD.pA 13 108 rfl (fun _=>ybX rfl rfl rfl) (WD.pA 14 109 rfl (fun _=>yL (v:=(.agg #[(.int .i64 z1k.fNode),(.int .i64 z1k.fLink),(.int .i64 (yn (yJ z5q z1k zkn) z1k 0)),(.int .i64 (i64 (zuv + z36.2.1)))])) (Eos.parts (l:=[.tmp 96,.tmp 98,.tmp 104,.tmp 108]) (.r4 rfl rfl rfl rfl) [0,1,2,3]) (fun _=>by kernel_rfl)) (WD.y3A (i:=15) rfl (by kernel_rfl) rfl rfl rfl (by kernel_rfl) (yk yeQ rfl rfl rfl .h4 rfl rfl rfl) (WD.done (by kernel_rfl) (WX.a (WC.ret ?_)))))))))))))))))))
   obtain rfl:=Option.some.inj h
   refine WX.ye Tryz.results22 (.agg rfl y8L rfl (yh .here) .nil) (fun w hw=>?_)
   exact ⟨yC rfl,hw.sub (.s3 .h3 .h6 .h1)⟩
def y13 (z5K : Sapi_PortBound) (z5L : Sapi_PortBound) : Option Int :=
 (y1j (⟨z5K.fNode,z5K.fLink⟩ : Sbound_place) (⟨z5L.fNode,z5L.fLink⟩ : Sbound_place)).bind fun zCo=>some zCo
theorem ybq (Z : Zp)  (z5K : Sapi_PortBound) (z5L : Sapi_PortBound) (r : Int)
  (h : y13 z5K z5L = some r) (w₀ : World) (hz : PZ [] w₀ Z) :
  Calls Tryz.prog 24 #[(.agg #[(.int .i64 z5K.fNode),(.int .i64 z5K.fLink),(.int .i64 z5K.fDelay),(.int .i64 z5K.fStore)]),(.agg #[(.int .i64 z5L.fNode),(.int .i64 z5L.fLink),(.int .i64 z5L.fDelay),(.int .i64 z5L.fStore)])] w₀ fun e w'=>e = .returned (.int .i64 r) ∧ Hp [] w₀ w' []:=by
 unfold y13 at h
 refine Calls.yI Tryz.func24 Tryz.ntmps24 ?_
 refine WC.b (WC.a (WL.nA 2 (yH (cs:=[(.int .i64 z5K.fNode),(.int .i64 z5K.fLink),(.int .i64 z5K.fDelay),(.int .i64 z5K.fStore)]) rfl rfl) ?_))
 intro zWX _
 refine WL.nA 3 (yH (cs:=[(.int .i64 z5L.fNode),(.int .i64 z5L.fLink),(.int .i64 z5L.fDelay),(.int .i64 z5L.fStore)]) rfl rfl) ?_
 intro zWY _
 refine WL.pu rfl (WL.nil (WX.a (WC.b ?_)))
 obtain ⟨zCo,zP0,h⟩:=z7 h
 refine WC.a (WL.qA 5 (ya ybb rfl rfl) (WL.qA 6 (yc yw rfl (yj .h1 rfl)) (WL.qA 7 (ya ycD rfl rfl) (WL.qA 8 (yc yw rfl (yj .h1 rfl)) (WL.qA 9 (yL (v:=(.agg #[(.int .i64 z5K.fNode),(.int .i64 z5K.fLink)])) (Eos.parts (l:=[.tmp 6,.tmp 8]) (.r2 rfl rfl) [0,1]) (fun _=>by kernel_rfl)) (WL.qA 10 (ya ybb rfl rfl) (WL.qA 11 (yc yw rfl (yj .here rfl)) (WL.qA 12 (ya ycD rfl rfl) (WL.qA 13 (yc yw rfl (yj .here rfl)) (WL.qA 14 (yL (v:=(.agg #[(.int .i64 z5L.fNode),(.int .i64 z5L.fLink)])) (Eos.parts (l:=[.tmp 11,.tmp 13]) (.r2 rfl rfl) [0,1]) (fun _=>by kernel_rfl)) (WL.cA 15 (z8 Tryz.call25 (.r2 rfl rfl)) .nil (cc hz .nil fun w pz ho=>y7C _ _ _ _ zP0 w pz ) (WL.pu rfl (WL.nil (WX.a (WC.ret ?_)))))))))))))))
 obtain rfl:=Option.some.inj h
 refine WX.ye Tryz.results24 (.tmp rfl .nil) (fun w hw=>?_)
 exact ⟨yC rfl,hw.sub .nil⟩
theorem srtA_47 : ∀ w,(isAgg (Tryz.y3i.t 24)).run Tryz.prog w = .ok true w:=fun _=>by kernel_rfl
theorem srtZ_47 : ∀ w,(Go.sizeOf (Tryz.y3i.t 24)).run Tryz.prog w = .ok 4 w:=fun _=>by kernel_rfl
def y2V (z4z : List Sapi_PortBound) (zkp : Int) (zkq : Int) (zhe : Int) (zey : Sapi_PortBound → Sapi_PortBound → Option Int) : Option (List Sapi_PortBound):=chk ((zkp = 0 ∧ zkq = ((z4z.length : Nat) : Int)) ∧ (0 ≤ zhe ∧ zhe < 4611686018427387904 ∧ z4z.length < 4611686018427387904)) (chk (y7d zey (yS zey z4z) = true) (some (yS zey z4z)))
theorem y6o (Z : Zp) (zez : Option Addr) (zeA : Nat) (zkr : FuncId) (zuA : List Value) (z4z : List Sapi_PortBound) (zkp : Int) (zkq : Int) (zhe : Int) (zey : Sapi_PortBound → Sapi_PortBound → Option Int) (r : List Sapi_PortBound) (w₀ : World) (hz : PZ (fps [row (.slice zez z4z.length zeA) 58 4 (z4z.flatMap e58)]) w₀ Z)
  (zP1 : ∀ args w,(callFunc zkr args).run Tryz.prog w = .ok (.enter zkr args) w)
  (zP2 : ∀ w : World,PZ [] w Z → ∀ (x0 : Sapi_PortBound) (x1 : Sapi_PortBound) (r : Int),zey x0 x1 = some r → Calls Tryz.prog zkr (([(.agg #[(.int .i64 x0.fNode),(.int .i64 x0.fLink),(.int .i64 x0.fDelay),(.int .i64 x0.fStore)]),(.agg #[(.int .i64 x1.fNode),(.int .i64 x1.fLink),(.int .i64 x1.fDelay),(.int .i64 x1.fStore)])] : List Value) ++ zuA).toArray w fun e w'=>e = .returned (.int .i64 r) ∧ Hp [] w w' [])
  (h : y2V z4z zkp zkq zhe zey = some r) (hown : Hp (fps [row (.slice zez z4z.length zeA) 58 4 (z4z.flatMap e58)]) w₀ w₀ [row (.slice zez z4z.length zeA) 58 4 (z4z.flatMap e58)]) :
  Calls Tryz.prog 47 #[(.slice zez z4z.length zeA),(.int .i64 zkp),(.int .i64 zkq),(.int .i64 zhe),(.func (.func zkr) #[] (zuA).toArray)] w₀ fun e w'=>e = .returned (.tuple #[]) ∧ (r.length = z4z.length) ∧ Hp (fps [row (.slice zez z4z.length zeA) 58 4 (z4z.flatMap e58)]) w₀ w' [row (.slice zez r.length zeA) 58 4 (r.flatMap e58)]:=by
 obtain ⟨h0,h⟩:=ym h
 obtain ⟨h1,h⟩:=ym h
 have hr:=(Option.some.inj h).symm
 exact y85 (P:=Tryz.prog) (f:=47) (e:=58) (k:=4) (enc:=e58) (fun _=>rfl) (by decide) ydJ (fun β _ enc cf g cb hO blk off cap d0 w0 eg hC R=>Tryz.y87 4 srtA_47 srtZ_47 enc cf g cb hO blk off cap d0 w0 eg hC R) (Tryz.y7R (α:=Unit)) hz zP1 zP2 h0 h1 hr hown
def y1f (z3X : List Sapi_PortBound) (zhf : Sapi_PortBound → Sapi_PortBound → Option Int) : Option (List Sapi_PortBound) :=
 (y3W (u64 ((z3X.length : Nat) : Int))).bind fun zn2=>(y2V z3X 0 ((z3X.length : Nat) : Int) zn2 zhf).bind fun zn3=>some zn3
theorem y5p (Z : Zp) (zcl : Option Addr) (zcm : Nat) (zhg : FuncId) (zn4 : List Value) (z3X : List Sapi_PortBound) (zhf : Sapi_PortBound → Sapi_PortBound → Option Int) (r : List Sapi_PortBound)
  (h : y1f z3X zhf = some r) (w₀ : World) (hz : PZ (fps [row (.slice zcl z3X.length zcm) 58 4 (z3X.flatMap e58)]) w₀ Z)
  (zP3 : ∀ args w,(callFunc zhg args).run Tryz.prog w = .ok (.enter zhg args) w)
  (zP4 : ∀ w : World,PZ [] w Z → ∀ (x0 : Sapi_PortBound) (x1 : Sapi_PortBound) (r : Int),zhf x0 x1 = some r → Calls Tryz.prog zhg (([(.agg #[(.int .i64 x0.fNode),(.int .i64 x0.fLink),(.int .i64 x0.fDelay),(.int .i64 x0.fStore)]),(.agg #[(.int .i64 x1.fNode),(.int .i64 x1.fLink),(.int .i64 x1.fDelay),(.int .i64 x1.fStore)])] : List Value) ++ zn4).toArray w fun e w'=>e = .returned (.int .i64 r) ∧ Hp [] w w' [])
  (hown : Hp (fps [row (.slice zcl z3X.length zcm) 58 4 (z3X.flatMap e58)]) w₀ w₀ [row (.slice zcl z3X.length zcm) 58 4 (z3X.flatMap e58)]) :
  Calls Tryz.prog 23 #[(.slice zcl z3X.length zcm),(.func (.func zhg) #[] (zn4).toArray)] w₀ fun e w'=>e = .returned (.tuple #[]) ∧ (r.length = z3X.length) ∧ Hp (fps [row (.slice zcl z3X.length zcm) 58 4 (z3X.flatMap e58)]) w₀ w' [row (.slice zcl r.length zcm) 58 4 (r.flatMap e58)]:=by
 unfold y1f at h
 refine Calls.oh2 Tryz.func23 Tryz.ntmps23 hown ?_
 refine WC.b (WC.a (WL.pu rfl (WL.qA 6 (yG Tryz.underlying35 rfl) (WL.pu rfl (WL.nil (WX.a ?_))))))
 obtain ⟨zn2,zP5,h⟩:=z7 h
 obtain ⟨zn3,zP6,h⟩:=z7 h
 refine WC.a (WL.pu rfl (WL.pu rfl (WL.pu rfl (WL.qA 10 (y72 Tryz.underlying3 Tryz.underlying142 rfl rfl) (WL.cA 11 (z8 Tryz.call48 (.cons rfl .nil)) .nil (cc hz .nil fun w pz ho=>y7D (Z:=_)  (z6m:=(u64 ((z3X.length : Nat) : Int))) (r:=zn2) w pz  zP5) (WL.pu rfl (WL.y4L (dd:=13) rfl rfl rfl (z8 Tryz.call47 (.r5 rfl rfl rfl rfl rfl)) (.cons .here .nil) (cc hz (.cons .here .nil) fun w pz ho=>y6o (Z:=_) (zez:=zcl) (zeA:=zcm) (zkr:=zhg) (zuA:=zn4) (z4z:=z3X) (zkp:=0) (zkq:=((z3X.length : Nat) : Int)) (zhe:=zn2) (zey:=zhf) (r:=zn3) w pz zP3 zP4 zP6 ho) ?_)))))))
 rintro  zCp
 refine WL.repin (i:=0) rfl (u:=(.slice zcl zn3.length zcm)) (y7u zCp.symm) (WL.nil ?_)
 obtain rfl:=Option.some.inj h
 refine WX.y4K Tryz.results23 .nil (fun w hw=>?_)
 exact ⟨y7a,(zCp.trans rfl),hw.sub (.cons .here .nil)⟩
def y3w (z1w : List Sapi_Hop) (zap : Option Bool) : Nat → Int → Option Bool
 | 0,_=>none
 | zuB + 1,z1D=>if decide (z1D < ((z1w.length : Nat) : Int)) then chk ((0 : Int) ≤ z1D ∧ z1D < ((z1w.length : Nat) : Int)) (chk ((0 : Int) ≤ 0 ∧ (0 : Int) ≤ z1D ∧ z1D ≤ ((z1w.length : Nat) : Int)) ((y4W (z1w.take (z1D : Int).toNat) ((nth z1w z1D).fNode)).bind fun z3a=>chk ((!z3a.2) = true → ((0 : Int) ≤ 0 ∧ 0 < ((z1w.length : Nat) : Int))) (if (!z3a.2) && (decide (((nth z1w z1D).fNode) ≠ ((nth z1w 0).fNode))) then some false else y3w z1w zap zuB (i64 (z1D + 1))))) else zap
theorem ya4 {n : Nat} {z1w : List Sapi_Hop} {zap : Option Bool} {z1D : Int} {r : Bool} (h : y3w z1w zap n z1D = some r) : ∃ m,n = m + 1:=by
 cases n with
 | zero=>cases h
 | succ m=>exact ⟨m,rfl⟩
def y6z (z1w : List Sapi_Hop) : Option Bool :=
 jp0 (some true) fun zap=>y3w z1w zap yz 0
theorem ydR (Z : Zp) (zeB : Option Addr) (zeC : Nat) (z1w : List Sapi_Hop) (r : Bool)
  (h : y6z z1w = some r) (w₀ : World) (hz : PZ [] w₀ Z)
  (zuC : ZS Z 3 (fun r x=>r = e62 x) zeB zeC z1w) :
  Calls Tryz.prog 52 #[(.slice zeB z1w.length zeC)] w₀ fun e w'=>e = .returned (.bool r) ∧ Hp [] w₀ w' []:=by
 unfold y6z at h
 refine Calls.on1 Tryz.func52 Tryz.ntmps52 ?_
 refine WC.b (WC.a (WL.pu rfl (WL.nil (WX.a ?_))))
 obtain ⟨zap,zP7,h⟩:=y2i h
 refine WC.y1G ((zap = some r)) ([]) ([]) ?_ ?_
 ·skip
  refine WC.b (WC.a (WL.pu rfl (WL.qA 8 (yG Tryz.underlying48 rfl) (WL.pu rfl (WL.nil (WX.a (WC.block (WC.y2S (fun (zhh : Nat) (z1D : Int)=>(y3w z1w zap zhh z1D = some r)) (fun zhh z1D=>[(0,(.slice zeB z1w.length zeC)),(7,(.slice zeB z1w.length zeC)),(8,(.int .i64 ((z1w.length : Nat) : Int))),(9,(.int .i64 z1D))]) (fun zhh z1D=>[]) (fun zhh z1D=>zhh) ⟨yz,0⟩ h (.r4 rfl rfl rfl rfl) .nil ?_))))))))
  rintro zhh z1D h
  obtain ⟨zuB,rfl⟩:=ya4 h
  rw [y3w] at h
  refine WC.b (WC.a (WL.pu rfl (WL.nil (WX.a (WC.b (WC.cond rfl (fun zuD=>?_) (fun zuD=>?_)))))))
  ·replace h:=yo h zuD
   refine WC.skip (WX.a (WC.b (WC.block (WC.b ?_))))
   obtain ⟨zP8,h⟩:=ym h
   refine WC.a (WL.pu rfl (WL.znth (dd:=12) rfl rfl (Z:=Z) (Pr:=(fun r x=>r = e62 x)) y61 rfl rfl zuC zP8 ?_))
   rintro zP9 zWZ zPa zX0 rfl
   refine WL.qA 13 (yf y3G rfl (y2o hz.pv zPa) rfl) (WL.nA 4 (yx (cs:=[(.int .i64 0),(.int .i64 0),(.int .i64 0)]) y6v rfl) ?_)
   intro zCq _
   refine WL.pu rfl (WL.yl rfl rfl (yk y6I rfl rfl rfl .here rfl rfl rfl) (WL.nil (WX.a (WC.b ?_))))
   obtain ⟨zPb,h⟩:=ym h
   obtain ⟨z3a,zPc,h⟩:=z7 h
   refine WC.yP (fun i=>[10].contains i) [] rfl (WD.pA 0 15 rfl (fun _=>q_m rfl) (WD.pA 1 16 rfl (fun _=>q_m rfl) (WD.zsub (j:=2) (dd:=17) (by kernel_rfl) rfl z2l z2m rfl rfl (Z:=Z) (Pr:=(fun r x=>r = e62 x)) y61 rfl zuC (fun _=>ixn) (fun _=>ixo rfl) rfl rfl zPb (List.drop_zero).symm ?_)))
   rintro zPd zPe zPf
   refine WD.pA 3 18 rfl (fun _=>ya y4O rfl rfl) (WD.qA 4 19 rfl (yc yw rfl (yj .here rfl)) (WD.eA 5 20 rfl (z8 Tryz.call39 (.r2 rfl rfl)) (cc hz .nil fun w pz ho=>y8R _ _ _ _ _ _ zPc w pz zPf) (WD.pA 6 14 rfl (fun _=>q_m rfl) (WD.pA 7 21 rfl (fun _=>y7j rfl rfl) (WD.pA 8 22 rfl (fun _=>y7j rfl rfl) (WD.new (i:=9) (dd:=5) rfl (by kernel_rfl) rfl rfl rfl (yx (cs:=[(.int .i64 0),(.int .i64 0),(.int .i64 0)]) y6v rfl) (fun h'=>absurd h' (by decide)) ?_))))))
   intro zPg _
   refine WD.forced0 (i:=10) rfl (by kernel_rfl) rfl rfl rfl (Sin.of .nil) (yk y6I rfl rfl rfl .here rfl rfl rfl) (WD.pA 11 6 rfl (fun _=>q_z rfl) (WD.done (by kernel_rfl) (WX.a (WC.b ?_))))
   obtain ⟨zPh,h⟩:=ym h
   refine WC.yP (fun i=>[].contains i) [] rfl (WD.pA 0 23 rfl (fun _=>q_m rfl) (WD.pA 1 24 rfl (fun _=>q_not rfl) (WD.pA 2 25 rfl (fun _=>q_m rfl) (WD.mid (fuel':=0) [(0,(.slice zeB z1w.length zeC)),(7,(.slice zeB z1w.length zeC)),(8,(.int .i64 ((z1w.length : Nat) : Int))),(9,(.int .i64 z1D)),(10,(.bool (decide (z1D < ((z1w.length : Nat) : Int))))),(11,(.int .i64 z1D)),(12,(.pointer (some zP9))),(13,(.agg #[(.int .i64 ((nth z1w z1D).fNode)),(.int .i64 ((nth z1w z1D).fNext)),(.int .i64 ((nth z1w z1D).fLink))])),(4,(.pointer (some ⟨zCq,0,none⟩))),(3,(.int .i64 z1D)),(15,(.slice zeB z1w.length zeC)),(16,(.int .i64 z1D)),(17,(.slice zPd ((z1w.take (z1D : Int).toNat).length) zPe)),(18,(.pointer (some ⟨zCq,0,none⟩))),(19,(.int .i64 ((nth z1w z1D).fNode))),(20,(.tuple #[(.agg #[(.int .i64 z3a.1.fNode),(.int .i64 z3a.1.fNext),(.int .i64 z3a.1.fLink)]),(.bool z3a.2)])),(14,(.tuple #[(.agg #[(.int .i64 z3a.1.fNode),(.int .i64 z3a.1.fNext),(.int .i64 z3a.1.fLink)]),(.bool z3a.2)])),(21,(.agg #[(.int .i64 z3a.1.fNode),(.int .i64 z3a.1.fNext),(.int .i64 z3a.1.fLink)])),(22,(.bool z3a.2)),(5,(.pointer (some ⟨zPg,0,none⟩))),(6,(.bool z3a.2)),(23,(.bool z3a.2)),(24,(.bool (!z3a.2))),(25,(.bool (!z3a.2))),(33,(.bool ((!z3a.2) && (decide (((nth z1w z1D).fNode) ≠ ((nth z1w 0).fNode))))))] (y4c 11 [10,9,8,7,6,5,4,3,2,1,0]) ?_ (fun zCr=>?_)))))
   rotate_left
   ·rcases Bool.eq_false_or_eq_true (!z3a.2) with hb' | hb'
    ·have zn5:=hb'; clear hb'
     have zPi:=zPh zn5
     refine WD.pin (i:=25) rfl zn5 (WD.pA 3 26 rfl (fun _=>ya y4O rfl rfl) (WD.qA 4 27 rfl (yc yw rfl (yj .h1 rfl)) (WD.pA 5 28 rfl (fun _=>q_m rfl) (WD.znth (j:=6) (dd:=29) (by kernel_rfl) rfl z2l z2m rfl rfl (Z:=Z) (Pr:=(fun r x=>r = e62 x)) y61 rfl rfl zuC zPi ?_))))
     rintro zX1 zX2 zPj zX3 rfl
     refine WD.pA 7 30 rfl (fun _=>ya y4O rfl rfl) (WD.qA 8 31 rfl (yc yw rfl (y1e hz.pv zPj rfl)) (WD.pA 9 32 rfl (fun _=>q_neq rfl rfl) (WD.pA 10 33 rfl (fun _=>y3C rfl rfl) (WD.reL (.s2 .here .here) ?_ zCr))))
     exact (.cons rfl (.cons rfl (.cons rfl (.cons rfl (.cons rfl (.cons rfl (.cons rfl (.cons rfl (.cons rfl (.cons rfl (.cons rfl (.cons rfl (.cons rfl (.cons rfl (.cons rfl (.cons rfl (.cons rfl (.cons rfl (.cons rfl (.cons rfl (.cons rfl (.cons rfl (.cons rfl (.cons (zB (Eq.symm zn5)) (.cons (zB (y2U zn5)) .nil)))))))))))))))))))))))))
    ·have zuE:=hb'; clear hb'
     refine WD.pin (i:=25) rfl zuE (WD.kA 3 26 rfl (WD.kA 4 27 rfl (WD.kA 5 28 rfl (WD.kA 6 29 rfl (WD.kA 7 30 rfl (WD.kA 8 31 rfl (WD.kA 9 32 rfl (WD.pA 10 33 rfl (fun _=>y3D rfl rfl) (WD.reL (.s2 .here .here) ?_ zCr)))))))))
     exact (.cons rfl (.cons rfl (.cons rfl (.cons rfl (.cons rfl (.cons rfl (.cons rfl (.cons rfl (.cons rfl (.cons rfl (.cons rfl (.cons rfl (.cons rfl (.cons rfl (.cons rfl (.cons rfl (.cons rfl (.cons rfl (.cons rfl (.cons rfl (.cons rfl (.cons rfl (.cons rfl (.cons (zB (Eq.symm zuE)) (.cons (zB (y2T zuE)) .nil)))))))))))))))))))))))))
   refine WD.done (by kernel_rfl) (WX.a (WC.cond rfl (fun zuF=>?_) (fun zuF=>?_)))
   ·replace h:=yo h zuF
    refine WC.b (WC.a (WL.pu rfl (WL.nil (WX.a (WC.ret (WX.yt (WX.yd (WX.yd (WX.yt (WX.yd ?_))))))))))
    obtain rfl:=Option.some.inj h
    refine WX.ye Tryz.results52 (.tmp rfl .nil) (fun w hw=>?_)
    exact ⟨yC rfl,hw.sub .nil⟩
   ·replace h:=yp h zuF
    refine WC.skip (WX.yq (WX.a (WC.a (WL.pu rfl (WL.pu rfl (WL.nil ?_))))))
    exact WX.round ⟨zuB,(i64 (z1D + 1))⟩ h (Nat.lt_succ_self _) (.r4 rfl rfl rfl rfl) .nil
  ·replace h:=yp h zuD
   refine WC.exit (WX.yg (WX.yg (WX.yA ?_)))
   exact WX.mid () h .nil .nil
 ·rintro  h
  replace h:=zP7.symm.trans h
  refine WC.b (WC.a (WL.pu rfl (WL.nil (WX.a (WC.ret ?_)))))
  obtain rfl:=Option.some.inj h
  refine WX.ye Tryz.results52 (.tmp rfl .nil) (fun w hw=>?_)
  exact ⟨yC rfl,hw.sub .nil⟩
def y3M (zks : List Sapi_Hop) : Option Bool :=
 (y6z zks).bind fun zCs=>some (!zCs)
theorem ycK (Z : Zp) (zCt : Option Addr) (zCu : Nat) (zks : List Sapi_Hop) (r : Bool)
  (h : y3M zks = some r) (w₀ : World) (hz : PZ [] w₀ Z)
  (zPk : ZS Z 3 (fun r x=>r = e62 x) zCt zCu zks) :
  Calls Tryz.prog 51 #[(.slice zCt zks.length zCu)] w₀ fun e w'=>e = .returned (.bool r) ∧ Hp [] w₀ w' []:=by
 unfold y3M at h
 refine Calls.on1 Tryz.func51 Tryz.ntmps51 ?_
 refine WC.b (WC.a (WL.pu rfl (WL.nil (WX.a (WC.b ?_)))))
 obtain ⟨zCs,zPl,h⟩:=z7 h
 refine WC.a (WL.pu rfl (WL.cA 4 (z8 Tryz.call52 (.cons rfl .nil)) .nil (cc hz .nil fun w pz ho=>ydR _ _ _ _ _ zPl w pz zPk) (WL.pu rfl (WL.pu rfl (WL.nil (WX.a (WC.ret ?_)))))))
 obtain rfl:=Option.some.inj h
 refine WX.ye Tryz.results51 (.tmp rfl .nil) (fun w hw=>?_)
 exact ⟨yC rfl,hw.sub .nil⟩
def y2Q (zaq : Sapi_End) (zar : Sapi_End) : Option Int :=
 some (i64 (zaq.fNode - zar.fNode))
theorem ycL (Z : Zp)  (zaq : Sapi_End) (zar : Sapi_End) (r : Int)
  (h : y2Q zaq zar = some r) (w₀ : World) (hz : PZ [] w₀ Z) :
  Calls Tryz.prog 54 #[(.agg #[(.int .i64 zaq.fVL),(.int .i64 zaq.fNode),(.int .i64 zaq.fDelay)]),(.agg #[(.int .i64 zar.fVL),(.int .i64 zar.fNode),(.int .i64 zar.fDelay)])] w₀ fun e w'=>e = .returned (.int .i64 r) ∧ Hp [] w₀ w' []:=by
 unfold y2Q at h
 refine Calls.yI Tryz.func54 Tryz.ntmps54 ?_
 refine WC.b (WC.a (WL.nA 2 (yH (cs:=[(.int .i64 zaq.fVL),(.int .i64 zaq.fNode),(.int .i64 zaq.fDelay)]) rfl rfl) ?_))
 intro zX4 _
 refine WL.nA 3 (yH (cs:=[(.int .i64 zar.fVL),(.int .i64 zar.fNode),(.int .i64 zar.fDelay)]) rfl rfl) ?_
 intro zX5 _
 refine WL.pu rfl (WL.nil (WX.a (WC.b (WC.a (WL.qA 5 (ya yeS rfl rfl) (WL.qA 6 (yc yw rfl (yj .h1 rfl)) (WL.qA 7 (ya yeS rfl rfl) (WL.qA 8 (yc yw rfl (yj .here rfl)) (WL.pu rfl (WL.pu rfl (WL.nil (WX.a (WC.ret ?_)))))))))))))
 obtain rfl:=Option.some.inj h
 refine WX.ye Tryz.results54 (.tmp rfl .nil) (fun w hw=>?_)
 exact ⟨yC rfl,hw.sub .nil⟩
end Go.Proofs.YtcahmabkeaijdaaGreat
