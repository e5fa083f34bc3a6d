/- A part of this claim's proof: models of functions, walks, plain laws. No conditions. -/
import Derived.Test.YtcahmabkeaijdaaGreatW35xd
set_option linter.all false
namespace Go.Proofs.YtcahmabkeaijdaaGreat
open Go Go.RowKit Sep
set_option maxRecDepth 30000
set_option maxHeartbeats 4000000
def y2B (z6e : List (List z2)) (z5n : zSv) (zaB : z1) (z3e : List z1) (znq : Int) : Option (Bool × (Nat × List z1 × Int)) :=
 (y4t (⟨znq⟩ : z18) zaB z6e z5n).bind fun z6f=>(if decide (((z3e.length : Nat) : Int) = 0) then some true else chk ((0 : Int) ≤ 0 ∧ 0 < ((z3e.length : Nat) : Int)) ((y1i z6f.1 (⟨((nth z3e 0).fN),((nth z3e 0).fD)⟩ : z1)).bind fun zCm=>some (decide (zCm > 0)))).bind fun zuf=>if zuf then some (true,(0,([z6f.1] : List z1),z6f.2.fE)) else some (true,(0,z3e,z6f.2.fE))
def y3N (zW : List (List z2)) (zi : zSv) (z6e : List (List z2)) (z5n : zSv) (zX : List z1) : Option (z1 × Int) :=
 (y3k zW zi z6e z5n zX).bind fun zkp=>if decide (zkp ≠ 0) then some ((⟨0,0⟩ : z1),zkp) else jp2 (fun (z8x : Int) (z5G : List z1)=>if decide (z8x ≠ 0) then some ((⟨0,0⟩ : z1),z8x) else chk ((0 : Int) ≤ 0 ∧ 0 < ((z5G.length : Nat) : Int)) (some ((⟨((nth z5G 0).fN),((nth z5G 0).fD)⟩ : z1),0))) fun zug=>(y43 zW zi z6e z5n zX).bind fun zs=>(y2M (Nat × List z1 × Int) (fun (x : z1) (s : Nat × List z1 × Int)=>chk (s.1 = 0) (y2B z6e z5n x s.2.1 s.2.2)) (0,([] : List z1),0) zW (⟨(⟨zs.1,zs.2.1⟩ : z1),(⟨zs.2.2.1,zs.2.2.2⟩ : z1)⟩ : zSv) z6e z5n zX).bind fun z3y=>zug z3y.2.2 z3y.2.1
theorem y9L (Z : Zp) (z1a : Option Addr) (z1b : Nat) (z14 : Addr) (zuh : Option Addr) (zui : Nat) (z15 : Addr) (z1c : Option Addr) (z1d : Nat) (zW : List (List z2)) (zi : zSv) (z6e : List (List z2)) (z5n : zSv) (zX : List z1) (r : z1 × Int)
  (h : y3N zW zi z6e z5n zX = some r) (w₀ : World) (hz : PZ [] w₀ Z)
  (zuj : ZS Z 1 (y1T Z) z1a z1b zW)
  (znr : ZS Z 1 (y1T Z) zuh zui z6e)
  (zns : ZC Z z14 [(.slice zuh z6e.length zui)])
  (znt : ZC Z z15 [(.int .i64 z5n.fRate.fN),(.int .i64 z5n.fRate.fD),(.int .i64 z5n.fL.fN),(.int .i64 z5n.fL.fD)])
  (zuk : ZS Z 2 (fun r x=>r = yu x) z1c z1d zX) :
  Calls Tryz.prog 77 #[(.agg #[(.slice z1a zW.length z1b),(.int .i64 zi.fRate.fN),(.int .i64 zi.fRate.fD),(.int .i64 zi.fL.fN),(.int .i64 zi.fL.fD),(.func (.func 72) #[] #[(.pointer (some z14)),(.pointer (some z15))]),(.slice z1c zX.length z1d)])] w₀ fun e w'=>e = .returned (.tuple #[(.agg #[(.int .i64 r.1.fN),(.int .i64 r.1.fD)]),(.int .i64 r.2)]) ∧ Hp [] w₀ w' []:=by
 unfold y3N at h
 refine Calls.y9k (vs:=[(.agg #[(.slice z1a zW.length z1b),(.int .i64 zi.fRate.fN),(.int .i64 zi.fRate.fD),(.int .i64 zi.fL.fN),(.int .i64 zi.fL.fD),(.func (.func 72) #[] #[(.pointer (some z14)),(.pointer (some z15))]),(.slice z1c zX.length z1d)])]) (pre:=[]) (env:=[(0,(.agg #[(.slice z1a zW.length z1b),(.int .i64 zi.fRate.fN),(.int .i64 zi.fRate.fD),(.int .i64 zi.fL.fN),(.int .i64 zi.fL.fD),(.func (.func 72) #[] #[(.pointer (some z14)),(.pointer (some z15))]),(.slice z1c zX.length z1d)]))]) Tryz.func77 rfl Tryz.ntmps77 rfl (Hp.nil w₀ _) rfl ?_
 refine WC.b (WC.a (WL.nA 1 (yH (cs:=[(.slice z1a zW.length z1b),(.int .i64 zi.fRate.fN),(.int .i64 zi.fRate.fD),(.int .i64 zi.fL.fN),(.int .i64 zi.fL.fD),(.func (.func 72) #[] #[(.pointer (some z14)),(.pointer (some z15))]),(.slice z1c zX.length z1d)]) rfl rfl) ?_))
 intro z30 _
 refine WL.nA 2 (yw (cs:=[(.int .i64 0),(.int .i64 0)]) zH rfl) ?_
 intro z3f _
 refine WL.pu rfl (WL.nil (WX.a (WC.b (WC.b ?_))))
 obtain ⟨zkp,zOo,h⟩:=z6 h
 refine WC.a (WL.qA 9 (yf zfo rfl (yh .h1) rfl) (WL.cA 10 (z8 Tryz.call109 (.cons rfl .nil)) .nil (cc hz .nil fun w pz ho=>y96 _ _ _ _ _ _ _ _ _ _ _ _ _ _ _ zOo w pz zuj znr zns znt zuk) (WL.pu rfl (WL.nil (WX.a (WC.b (WC.a (WL.pu rfl (WL.pu rfl (WL.nil (WX.a (WC.cond rfl (fun zul=>?_) (fun zul=>?_)))))))))))))
 ·replace h:=yo h zul
  refine WC.b (WC.a (WL.qA 13 (yI (v:=(.agg #[(.int .i64 0),(.int .i64 0)])) (Eos.parts (l:=[]) .nil []) (fun _=>by kernel_rfl)) (WL.pu rfl (WL.yj rfl rfl (yl zq rfl rfl rfl .here rfl rfl rfl) (WL.pu rfl (WL.nil (WX.a (WC.ret (WX.yd ?_)))))))))
  obtain rfl:=Option.some.inj h
  refine WX.yaE Tryz.results77 (.agg rfl zb rfl (yh .here) (.tmp rfl .nil)) (fun w hw=>?_)
  exact ⟨y1Z rfl rfl,hw.sub .nil⟩
 ·replace h:=yp h zul
  refine WC.skip (WX.a (WC.b (WC.a (WL.nA 5 (yw (cs:=[(.int .i64 0)]) zlA rfl) ?_))))
  intro z2s _
  refine WL.nil (WX.a (WC.b (WC.a (WL.nA 6 (yw (cs:=[(.slice none 0 0)]) zof rfl) ?_))))
  intro z2L _
  refine WL.nil (WX.a ?_)
  obtain ⟨zug,zOp,h⟩:=y3W h
  refine WC.ybq (fun (zkq : Nat) (z8x : Int) (z5G : List z1) (zkr : Option Addr) (zks : Nat)=>(zug z8x z5G = some r)) (fun (zkq : Nat) (z8x : Int) (z5G : List z1) (zkr : Option Addr) (zks : Nat)=>[(2,(.pointer (some ⟨z3f,0,none⟩))),(5,(.pointer (some ⟨z2s,0,none⟩))),(6,(.pointer (some ⟨z2L,0,none⟩)))]) (fun (zkq : Nat) (z8x : Int) (z5G : List z1) (zkr : Option Addr) (zks : Nat)=>[stb z3f 132 [(.int .i64 0),(.int .i64 0)],stb z2s 225 [(.int .i64 z8x)],stb z2L 175 [(.slice zkr z5G.length zks)],row (.slice zkr z5G.length zks) 132 2 (z5G.flatMap yu),dfr zkq]) ?_ ?_
  ·skip
   refine WC.b ?_
   obtain ⟨zs,zOq,h⟩:=z6 h
   refine WC.a (WL.qA 15 (yf zfo rfl (yh .h3) rfl) (WL.ycQ (dd:=16) rfl rfl rfl (z8 Tryz.call110 (.cons rfl .nil)) .nil (cc hz .nil fun w pz ho=>y8V _ _ _ _ _ _ _ _ _ _ _ _ _ _ _ zOq w pz zuj znr zns znt zuk) ?_))
   rintro z3W _
   refine WL.nil (WX.a (WC.block (WC.drop (.s5 .h1 .h1 .h1 .h1 .here) (WC.nilRow 132 2 (WC.rangeFunc (f:=155) (caps:=[(.pointer (some ⟨z3W,0,none⟩))]) rfl Tryz.call155 ?_)))))
   intro zXU zXV z3z z5H z4y znu zOr zOs w hw
   have hw1:=hw.selAll ((.s6 .h3 .h2 .h2 .h2 .h2 .here) : Sel _ [stb z2L 175 [(.slice none (([] : List z1).length) 0)],row (.slice none (([] : List z1).length) 0) 132 2 (([] : List z1).flatMap yu),stb z2s 225 [(.int .i64 0)],stb z3f 132 [(.int .i64 0),(.int .i64 0)],stb z30 177 [(.slice z1a zW.length z1b),(.int .i64 zi.fRate.fN),(.int .i64 zi.fRate.fD),(.int .i64 zi.fL.fN),(.int .i64 zi.fL.fD),(.func (.func 72) #[] #[(.pointer (some z14)),(.pointer (some z15))]),(.slice z1c zX.length z1d)],blk z3z (z4y .ready none)] _)
   have pz:=(hz.call hw1 ((.cons .here .nil) : Sel [y2c [stb z2L 175 [(.slice none (([] : List z1).length) 0)],row (.slice none (([] : List z1).length) 0) 132 2 (([] : List z1).flatMap yu),stb z2s 225 [(.int .i64 0)],stb z3f 132 [(.int .i64 0),(.int .i64 0)],stb z30 177 [(.slice z1a zW.length z1b),(.int .i64 zi.fRate.fN),(.int .i64 zi.fRate.fD),(.int .i64 zi.fL.fN),(.int .i64 zi.fL.fD),(.func (.func 72) #[] #[(.pointer (some z14)),(.pointer (some z15))]),(.slice z1c zX.length z1d)],blk z3z (z4y .ready none)],dfr z5H,stb z3W 177 [(.slice z1a zW.length z1b),(.int .i64 zs.1),(.int .i64 zs.2.1),(.int .i64 zs.2.2.1),(.int .i64 zs.2.2.2),(.func (.func 72) #[] #[(.pointer (some z14)),(.pointer (some z15))]),(.slice z1c zX.length z1d)]] [y2c [stb z2L 175 [(.slice none (([] : List z1).length) 0)],row (.slice none (([] : List z1).length) 0) 132 2 (([] : List z1).flatMap yu),stb z2s 225 [(.int .i64 0)],stb z3f 132 [(.int .i64 0),(.int .i64 0)],stb z30 177 [(.slice z1a zW.length z1b),(.int .i64 zi.fRate.fN),(.int .i64 zi.fRate.fD),(.int .i64 zi.fL.fN),(.int .i64 zi.fL.fD),(.func (.func 72) #[] #[(.pointer (some z14)),(.pointer (some z15))]),(.slice z1c zX.length z1d)],blk z3z (z4y .ready none)]] [dfr z5H,stb z3W 177 [(.slice z1a zW.length z1b),(.int .i64 zs.1),(.int .i64 zs.2.1),(.int .i64 zs.2.2.1),(.int .i64 zs.2.2.2),(.func (.func 72) #[] #[(.pointer (some z14)),(.pointer (some z15))]),(.slice z1c zX.length z1d)]])).lend hw1 ((.cons .here .nil) : Sel [y2c [stb z2L 175 [(.slice none (([] : List z1).length) 0)],row (.slice none (([] : List z1).length) 0) 132 2 (([] : List z1).flatMap yu),stb z2s 225 [(.int .i64 0)],stb z3f 132 [(.int .i64 0),(.int .i64 0)],stb z30 177 [(.slice z1a zW.length z1b),(.int .i64 zi.fRate.fN),(.int .i64 zi.fRate.fD),(.int .i64 zi.fL.fN),(.int .i64 zi.fL.fD),(.func (.func 72) #[] #[(.pointer (some z14)),(.pointer (some z15))]),(.slice z1c zX.length z1d)],blk z3z (z4y .ready none)],dfr z5H,stb z3W 177 [(.slice z1a zW.length z1b),(.int .i64 zs.1),(.int .i64 zs.2.1),(.int .i64 zs.2.2.1),(.int .i64 zs.2.2.2),(.func (.func 72) #[] #[(.pointer (some z14)),(.pointer (some z15))]),(.slice z1c zX.length z1d)]] [y2c [stb z2L 175 [(.slice none (([] : List z1).length) 0)],row (.slice none (([] : List z1).length) 0) 132 2 (([] : List z1).flatMap yu),stb z2s 225 [(.int .i64 0)],stb z3f 132 [(.int .i64 0),(.int .i64 0)],stb z30 177 [(.slice z1a zW.length z1b),(.int .i64 zi.fRate.fN),(.int .i64 zi.fRate.fD),(.int .i64 zi.fL.fN),(.int .i64 zi.fL.fD),(.func (.func 72) #[] #[(.pointer (some z14)),(.pointer (some z15))]),(.slice z1c zX.length z1d)],blk z3z (z4y .ready none)]] [dfr z5H,stb z3W 177 [(.slice z1a zW.length z1b),(.int .i64 zs.1),(.int .i64 zs.2.1),(.int .i64 zs.2.2.1),(.int .i64 zs.2.2.2),(.func (.func 72) #[] #[(.pointer (some z14)),(.pointer (some z15))]),(.slice z1c zX.length z1d)]]) (B:=[stb z3W 177 [(.slice z1a zW.length z1b),(.int .i64 zs.1),(.int .i64 zs.2.1),(.int .i64 zs.2.2.1),(.int .i64 zs.2.2.2),(.func (.func 72) #[] #[(.pointer (some z14)),(.pointer (some z15))]),(.slice z1c zX.length z1d)]]) (fun _ hx'=>((.cons .h1 .nil) : Sel _ [stb z3W 177 [(.slice z1a zW.length z1b),(.int .i64 zs.1),(.int .i64 zs.2.1),(.int .i64 zs.2.2.1),(.int .i64 zs.2.2.2),(.func (.func 72) #[] #[(.pointer (some z14)),(.pointer (some z15))]),(.slice z1c zX.length z1d)]] _).mem hx')
   obtain ⟨z3y,zOt,h⟩:=z6 h
   refine Calls.mono (y8l (Z:=_) (z7S:=z3z) (z3w:=(Option Addr × Nat)) (z1U:=(fun (g : Option Addr × Nat) (s : Nat × List z1 × Int)=>y2c ([stb z2L 175 [(.slice g.1 s.2.1.length g.2)],row (.slice g.1 s.2.1.length g.2) 132 2 (s.2.1.flatMap yu),stb z2s 225 [(.int .i64 s.2.2)],stb z3f 132 [(.int .i64 0),(.int .i64 0)],stb z30 177 [(.slice z1a zW.length z1b),(.int .i64 zi.fRate.fN),(.int .i64 zi.fRate.fD),(.int .i64 zi.fL.fN),(.int .i64 zi.fL.fD),(.func (.func 72) #[] #[(.pointer (some z14)),(.pointer (some z15))]),(.slice z1c zX.length z1d)]] ++ [blk z3z (z4y (rdy (pcs [] s.1)) (pcs [] s.1))]))) (z6b:=(fun (g : Option Addr × Nat) (s : Nat × List z1 × Int)=>True)) (zar:=(none,0)) (zas:=⟨z3W,0,none⟩) (zcu:=z1a) (zcv:=z1b) (ztH:=z14) (ztI:=zuh) (ztJ:=zui) (ztK:=z15) (zkf:=z1c) (zkg:=z1d) (zo:=(Nat × List z1 × Int)) (z1O:=(fun (x : z1) (s : Nat × List z1 × Int)=>chk (s.1 = 0) (y2B z6e z5n x s.2.1 s.2.2))) (s0_44021:=(0,([] : List z1),0)) (z2g:=zW) (zeu:=(⟨(⟨zs.1,zs.2.1⟩ : z1),(⟨zs.2.2.1,zs.2.2.2⟩ : z1)⟩ : zSv)) (zke:=z6e) (zev:=z5n) (z2r:=zX) (r:=z3y) w pz ?_ trivial ((zuj.mono (Zle.left _ _)).weak (fun _ _ h=>y38 (Zle.left _ _) h)) ((znr.mono (Zle.left _ _)).weak (fun _ _ h=>y38 (Zle.left _ _) h)) (zns.mono (Zle.left _ _)) (znt.mono (Zle.left _ _)) (zuk.mono (Zle.left _ _)) ((hw1.lent ((.cons .here .nil) : Sel [y2c [stb z2L 175 [(.slice none (([] : List z1).length) 0)],row (.slice none (([] : List z1).length) 0) 132 2 (([] : List z1).flatMap yu),stb z2s 225 [(.int .i64 0)],stb z3f 132 [(.int .i64 0),(.int .i64 0)],stb z30 177 [(.slice z1a zW.length z1b),(.int .i64 zi.fRate.fN),(.int .i64 zi.fRate.fD),(.int .i64 zi.fL.fN),(.int .i64 zi.fL.fD),(.func (.func 72) #[] #[(.pointer (some z14)),(.pointer (some z15))]),(.slice z1c zX.length z1d)],blk z3z (z4y .ready none)],dfr z5H,stb z3W 177 [(.slice z1a zW.length z1b),(.int .i64 zs.1),(.int .i64 zs.2.1),(.int .i64 zs.2.2.1),(.int .i64 zs.2.2.2),(.func (.func 72) #[] #[(.pointer (some z14)),(.pointer (some z15))]),(.slice z1c zX.length z1d)]] [y2c [stb z2L 175 [(.slice none (([] : List z1).length) 0)],row (.slice none (([] : List z1).length) 0) 132 2 (([] : List z1).flatMap yu),stb z2s 225 [(.int .i64 0)],stb z3f 132 [(.int .i64 0),(.int .i64 0)],stb z30 177 [(.slice z1a zW.length z1b),(.int .i64 zi.fRate.fN),(.int .i64 zi.fRate.fD),(.int .i64 zi.fL.fN),(.int .i64 zi.fL.fD),(.func (.func 72) #[] #[(.pointer (some z14)),(.pointer (some z15))]),(.slice z1c zX.length z1d)],blk z3z (z4y .ready none)]] [dfr z5H,stb z3W 177 [(.slice z1a zW.length z1b),(.int .i64 zs.1),(.int .i64 zs.2.1),(.int .i64 zs.2.2.1),(.int .i64 zs.2.2.2),(.func (.func 72) #[] #[(.pointer (some z14)),(.pointer (some z15))]),(.slice z1c zX.length z1d)]]) (B:=[stb z3W 177 [(.slice z1a zW.length z1b),(.int .i64 zs.1),(.int .i64 zs.2.1),(.int .i64 zs.2.2.1),(.int .i64 zs.2.2.2),(.func (.func 72) #[] #[(.pointer (some z14)),(.pointer (some z15))]),(.slice z1c zX.length z1d)]]) (fun _ hx'=>((.cons .h1 .nil) : Sel _ [stb z3W 177 [(.slice z1a zW.length z1b),(.int .i64 zs.1),(.int .i64 zs.2.1),(.int .i64 zs.2.2.1),(.int .i64 zs.2.2.2),(.func (.func 72) #[] #[(.pointer (some z14)),(.pointer (some z15))]),(.slice z1c zX.length z1d)]] _).mem hx') (.head _) _).stb) zOt (hw1.owns ((.cons .here .nil) : Sel [y2c [stb z2L 175 [(.slice none (([] : List z1).length) 0)],row (.slice none (([] : List z1).length) 0) 132 2 (([] : List z1).flatMap yu),stb z2s 225 [(.int .i64 0)],stb z3f 132 [(.int .i64 0),(.int .i64 0)],stb z30 177 [(.slice z1a zW.length z1b),(.int .i64 zi.fRate.fN),(.int .i64 zi.fRate.fD),(.int .i64 zi.fL.fN),(.int .i64 zi.fL.fD),(.func (.func 72) #[] #[(.pointer (some z14)),(.pointer (some z15))]),(.slice z1c zX.length z1d)],blk z3z (z4y .ready none)],dfr z5H,stb z3W 177 [(.slice z1a zW.length z1b),(.int .i64 zs.1),(.int .i64 zs.2.1),(.int .i64 zs.2.2.1),(.int .i64 zs.2.2.2),(.func (.func 72) #[] #[(.pointer (some z14)),(.pointer (some z15))]),(.slice z1c zX.length z1d)]] [y2c [stb z2L 175 [(.slice none (([] : List z1).length) 0)],row (.slice none (([] : List z1).length) 0) 132 2 (([] : List z1).flatMap yu),stb z2s 225 [(.int .i64 0)],stb z3f 132 [(.int .i64 0),(.int .i64 0)],stb z30 177 [(.slice z1a zW.length z1b),(.int .i64 zi.fRate.fN),(.int .i64 zi.fRate.fD),(.int .i64 zi.fL.fN),(.int .i64 zi.fL.fD),(.func (.func 72) #[] #[(.pointer (some z14)),(.pointer (some z15))]),(.slice z1c zX.length z1d)],blk z3z (z4y .ready none)]] [dfr z5H,stb z3W 177 [(.slice z1a zW.length z1b),(.int .i64 zs.1),(.int .i64 zs.2.1),(.int .i64 zs.2.2.1),(.int .i64 zs.2.2.2),(.func (.func 72) #[] #[(.pointer (some z14)),(.pointer (some z15))]),(.slice z1c zX.length z1d)]]))) ?_
   ·skip
    refine yaD (LI:=(fun (g : Option Addr × Nat) (s : Nat × List z1 × Int)=>[stb z2L 175 [(.slice g.1 s.2.1.length g.2)],row (.slice g.1 s.2.1.length g.2) 132 2 (s.2.1.flatMap yu),stb z2s 225 [(.int .i64 s.2.2)],stb z3f 132 [(.int .i64 0),(.int .i64 0)],stb z30 177 [(.slice z1a zW.length z1b),(.int .i64 zi.fRate.fN),(.int .i64 zi.fRate.fD),(.int .i64 zi.fL.fN),(.int .i64 zi.fL.fD),(.func (.func 72) #[] #[(.pointer (some z14)),(.pointer (some z15))]),(.slice z1c zX.length z1d)]])) (pc:=(fun (s : Nat × List z1 × Int)=>pcs [] s.1)) znu zOr zOs (fun _ _=>rfl) (by decide) ?_
    rintro zaB _ ⟨zhv,zhw⟩ ⟨zOu,z3e,znq⟩ zOv zOw Fb wb zCn _ hz
    replace hz:=hz.left
    letI : Rnd:=inR z3z
    obtain ⟨hp0,z6g⟩:=yn zCn
    replace hp0 : zOu = 0:=hp0; subst hp0; clear zCn
    replace z6g : y2B z6e z5n zaB z3e znq = some (zOv,zOw):=z6g
    unfold y2B at z6g
    refine WC.restr (env':=[(1,(.pointer (some ⟨z30,0,none⟩))),(12,(.bool (decide (zkp ≠ 0)))),(5,(.pointer (some ⟨z2s,0,none⟩))),(6,(.pointer (some ⟨z2L,0,none⟩))),(17,(.agg #[(.int .i64 zaB.fN),(.int .i64 zaB.fD)]))]) (.r5 rfl rfl rfl rfl rfl) (WC.eqL (L':=[stb z2L 175 [(.slice zhv z3e.length zhw)],row (.slice zhv z3e.length zhw) 132 2 (z3e.flatMap yu),stb z2s 225 [(.int .i64 znq)],stb z3f 132 [(.int .i64 0),(.int .i64 0)],stb z30 177 [(.slice z1a zW.length z1b),(.int .i64 zi.fRate.fN),(.int .i64 zi.fRate.fD),(.int .i64 zi.fL.fN),(.int .i64 zi.fL.fD),(.func (.func 72) #[] #[(.pointer (some z14)),(.pointer (some z15))]),(.slice z1c zX.length z1d)],blk z3z (z4y .ready none)]) rfl (WC.a (WL.nA 7 (yw (cs:=[(.int .i64 0),(.int .i64 0)]) zH rfl) ?_)))
    intro zOx _
    refine WL.yj rfl rfl (yl zq rfl rfl rfl .here rfl rfl rfl) (WL.nil (WX.ybD znu .h6 (WC.block (WC.b ?_))))
    obtain ⟨z6f,zOy,z6g⟩:=z6 z6g
    refine WC.a (WL.qA 18 (ya ya4 rfl rfl) (WL.qA 19 (yc zwX rfl (ym .h6 rfl)) (WL.qA 20 (yf zb rfl (yh .h1) rfl) (WL.cA 21 (y2t (l:=[.tmp 5,.tmp 20]) Tryz.call72 rfl (.r2 rfl rfl)) (.cons .h4 .nil) (cc hz (.cons .h4 .nil) fun w pz ho=>yaU _ _ _ _ _ _ _ _ _ _ _ zOy w pz znr zns znt ho) (WL.nA 8 (yw (cs:=[(.int .i64 0),(.int .i64 0)]) zH rfl) ?_)))))
    intro zOz _
    refine WL.yj rfl rfl (yl zq rfl rfl rfl .here rfl rfl rfl) (WL.nil (WX.a (WC.b ?_)))
    obtain ⟨zuf,zCo,z6g⟩:=z6 z6g
    refine WC.yO (fun i=>[].contains i) [] rfl (WD.qA 0 22 rfl (yc z7o rfl (ym .h4 rfl)) (WD.pA 1 23 rfl (fun _=>yG Tryz.underlying175 rfl) (WD.pA 2 24 rfl (fun _=>y9T rfl rfl) (WD.pA 3 25 rfl (fun _=>q_m rfl) (WD.mid (fuel':=0) [(1,(.pointer (some ⟨z30,0,none⟩))),(12,(.bool (decide (zkp ≠ 0)))),(5,(.pointer (some ⟨z2s,0,none⟩))),(6,(.pointer (some ⟨z2L,0,none⟩))),(17,(.agg #[(.int .i64 zaB.fN),(.int .i64 zaB.fD)])),(7,(.pointer (some ⟨zOx,0,none⟩))),(18,(.pointer (some ⟨z30,5,none⟩))),(19,(.func (.func 72) #[] #[(.pointer (some z14)),(.pointer (some z15))])),(20,(.agg #[(.int .i64 zaB.fN),(.int .i64 zaB.fD)])),(21,(.agg #[(.int .i64 z6f.1.fN),(.int .i64 z6f.1.fD)])),(8,(.pointer (some ⟨zOz,0,none⟩))),(22,(.slice zhv z3e.length zhw)),(23,(.int .i64 ((z3e.length : Nat) : Int))),(24,(.bool (decide (((z3e.length : Nat) : Int) = 0)))),(25,(.bool (decide (((z3e.length : Nat) : Int) = 0)))),(32,(.bool zuf))] (y4h 11 [10,9,8,7,6,5,4,3,2,1,0]) ?_ (fun zCp=>?_))))))
    rotate_left
    ·rcases Bool.eq_false_or_eq_true (decide (((z3e.length : Nat) : Int) = 0)) with hb' | hb'
     ·have zum:=hb'; clear hb'
      have zun:=yo zCo zum
      replace zun:=Option.some.inj zun
      refine WD.pin (i:=25) rfl zum (WD.kA 4 26 rfl (WD.kA 5 27 rfl (WD.kA 6 28 rfl (WD.kA 7 29 rfl (WD.kA 8 30 rfl (WD.kA 9 31 rfl (WD.pA 10 32 rfl (fun _=>y3E rfl rfl) (WD.reL (.s8 .here .here .here .here .here .here .here .here) ?_ zCp))))))))
      exact (.cons rfl (.cons rfl (.cons rfl (.cons rfl (.cons rfl (.cons rfl (.cons rfl (.cons rfl (.cons rfl (.cons rfl (.cons rfl (.cons rfl (.cons rfl (.cons rfl (.cons (zB (Eq.symm zum)) (.cons (zB zun) .nil))))))))))))))))
     ·have zuo:=hb'; clear hb'
      have zeF:=yp zCo zuo
      obtain ⟨zkt,zeF⟩:=yn zeF
      obtain ⟨zCm,zOA,zeF⟩:=z6 zeF
      replace zeF:=Option.some.inj zeF
      refine WD.pin (i:=25) rfl zuo (WD.qA 4 26 rfl (yf zb rfl (yh .here) rfl) (WD.qA 5 27 rfl (yc z7o rfl (ym .h4 rfl)) (WD.know (fun w hw=>Hp.y2j .h5 hw (by intro hz'; have:=zkt; rw [hz'] at this; omega)) ?_)))
      rintro ⟨zXW,rfl⟩
      refine WD.pA 6 28 rfl (fun _=>yV z1H rfl rfl zkt.1 zkt.2 y32) (WD.qA 7 29 rfl (yT (cs:=(yu (nth z3e 0))) zb rfl rfl (y49 .h5 (y3y (enc:=yu) (l:=z3e) (i:=0) (sz:=2) (fun _=>rfl) zkt.1 zkt.2))) (WD.eA 8 30 rfl (z8 Tryz.call79 (.r2 rfl rfl)) (cc hz .nil fun w pz ho=>y4d _ _ _ _ zOA w pz ) (WD.pA 9 31 rfl (fun _=>ybU rfl rfl) (WD.pA 10 32 rfl (fun _=>y3F rfl rfl) (WD.reL (.s8 .here .here .here .here .here .here .here .here) ?_ zCp)))))
      exact (.cons rfl (.cons rfl (.cons rfl (.cons rfl (.cons rfl (.cons rfl (.cons rfl (.cons rfl (.cons rfl (.cons rfl (.cons rfl (.cons rfl (.cons rfl (.cons rfl (.cons (zB (Eq.symm zuo)) (.cons (zB zeF) .nil))))))))))))))))
    refine WD.done (by kernel_rfl) (WX.a (WC.cond rfl (fun zup=>?_) (fun zup=>?_)))
    ·replace z6g:=yo z6g zup
     refine WC.a (WL.qA 33 (yf zb rfl (yh .here) rfl) (WL.nA 34 (yN (cs:=([z6f.1] : List z1).flatMap yu) z1H (Eos.parts (l:=[.tmp 33]) (.cons rfl .nil) [0]) (fun _=>by kernel_rfl) rfl (by unfold maxLen; omega)) ?_))
     intro zuq _
     refine WL.yj rfl rfl (yl zog rfl rfl rfl .h5 rfl rfl rfl) (WL.nil (WX.yk ?_))
     obtain ⟨rfl,rfl⟩:=y9v z6g
     exact WX.y6L znu .h4 (fun w' hw'=>⟨((some ⟨zuq,0,none⟩),1),rfl,trivial,(hw'.selAll ((.s6 .h1 .h1 .h2 .h4 .h4 .here) : Sel _ [stb z2L 175 [(.slice (some ⟨zuq,0,none⟩) (([z6f.1] : List z1).length) 1)],row (.slice (some ⟨zuq,0,none⟩) (([z6f.1] : List z1).length) 1) 132 2 (([z6f.1] : List z1).flatMap yu),stb z2s 225 [(.int .i64 z6f.2.fE)],stb z3f 132 [(.int .i64 0),(.int .i64 0)],stb z30 177 [(.slice z1a zW.length z1b),(.int .i64 zi.fRate.fN),(.int .i64 zi.fRate.fD),(.int .i64 zi.fL.fN),(.int .i64 zi.fL.fD),(.func (.func 72) #[] #[(.pointer (some z14)),(.pointer (some z15))]),(.slice z1c zX.length z1d)],blk z3z (z4y .ready none)] _)).sub (.cons .here .nil)⟩)
    ·replace z6g:=yp z6g zup
     refine WC.skip (WX.yk ?_)
     obtain ⟨rfl,rfl⟩:=y9v z6g
     exact WX.y6L znu .h2 (fun w' hw'=>⟨(zhv,zhw),rfl,trivial,(hw'.selAll ((.s6 .h4 .h4 .h2 .h3 .h3 .here) : Sel _ [stb z2L 175 [(.slice zhv z3e.length zhw)],row (.slice zhv z3e.length zhw) 132 2 (z3e.flatMap yu),stb z2s 225 [(.int .i64 z6f.2.fE)],stb z3f 132 [(.int .i64 0),(.int .i64 0)],stb z30 177 [(.slice z1a zW.length z1b),(.int .i64 zi.fRate.fN),(.int .i64 zi.fRate.fD),(.int .i64 zi.fL.fN),(.int .i64 zi.fL.fD),(.func (.func 72) #[] #[(.pointer (some z14)),(.pointer (some z15))]),(.slice z1c zX.length z1d)],blk z3z (z4y .ready none)] _)).sub (.cons .here .nil)⟩)
   ·skip
    rintro _ w' ⟨⟨zku,zkv⟩,rfl,_,hp⟩
    have hp1:=hw1.call ((.cons .here .nil) : Sel [y2c [stb z2L 175 [(.slice none (([] : List z1).length) 0)],row (.slice none (([] : List z1).length) 0) 132 2 (([] : List z1).flatMap yu),stb z2s 225 [(.int .i64 0)],stb z3f 132 [(.int .i64 0),(.int .i64 0)],stb z30 177 [(.slice z1a zW.length z1b),(.int .i64 zi.fRate.fN),(.int .i64 zi.fRate.fD),(.int .i64 zi.fL.fN),(.int .i64 zi.fL.fD),(.func (.func 72) #[] #[(.pointer (some z14)),(.pointer (some z15))]),(.slice z1c zX.length z1d)],blk z3z (z4y .ready none)],dfr z5H,stb z3W 177 [(.slice z1a zW.length z1b),(.int .i64 zs.1),(.int .i64 zs.2.1),(.int .i64 zs.2.2.1),(.int .i64 zs.2.2.2),(.func (.func 72) #[] #[(.pointer (some z14)),(.pointer (some z15))]),(.slice z1c zX.length z1d)]] [y2c [stb z2L 175 [(.slice none (([] : List z1).length) 0)],row (.slice none (([] : List z1).length) 0) 132 2 (([] : List z1).flatMap yu),stb z2s 225 [(.int .i64 0)],stb z3f 132 [(.int .i64 0),(.int .i64 0)],stb z30 177 [(.slice z1a zW.length z1b),(.int .i64 zi.fRate.fN),(.int .i64 zi.fRate.fD),(.int .i64 zi.fL.fN),(.int .i64 zi.fL.fD),(.func (.func 72) #[] #[(.pointer (some z14)),(.pointer (some z15))]),(.slice z1c zX.length z1d)],blk z3z (z4y .ready none)]] [dfr z5H,stb z3W 177 [(.slice z1a zW.length z1b),(.int .i64 zs.1),(.int .i64 zs.2.1),(.int .i64 zs.2.2.1),(.int .i64 zs.2.2.2),(.func (.func 72) #[] #[(.pointer (some z14)),(.pointer (some z15))]),(.slice z1c zX.length z1d)]]) hp
    have hp2 : Hp _ _ w' [stb z2L 175 [(.slice zku z3y.2.1.length zkv)],row (.slice zku z3y.2.1.length zkv) 132 2 (z3y.2.1.flatMap yu),stb z2s 225 [(.int .i64 z3y.2.2)],stb z3f 132 [(.int .i64 0),(.int .i64 0)],stb z30 177 [(.slice z1a zW.length z1b),(.int .i64 zi.fRate.fN),(.int .i64 zi.fRate.fD),(.int .i64 zi.fL.fN),(.int .i64 zi.fL.fD),(.func (.func 72) #[] #[(.pointer (some z14)),(.pointer (some z15))]),(.slice z1c zX.length z1d)],blk z3z (z4y (rdy (pcs [] z3y.1)) (pcs [] z3y.1)),dfr z5H,stb z3W 177 [(.slice z1a zW.length z1b),(.int .i64 zs.1),(.int .i64 zs.2.1),(.int .i64 zs.2.2.1),(.int .i64 zs.2.2.2),(.func (.func 72) #[] #[(.pointer (some z14)),(.pointer (some z15))]),(.slice z1c zX.length z1d)]]:=hp1.pickAll .here
    refine ⟨_,pcs [] z3y.1,_,rfl,(hp2.sub ((.s8 .h5 .here .here .here .here .here .here .here) : Sel _ [blk z3z (z4y (rdy (pcs [] z3y.1)) (pcs [] z3y.1)),stb z2L 175 [(.slice zku z3y.2.1.length zkv)],row (.slice zku z3y.2.1.length zkv) 132 2 (z3y.2.1.flatMap yu),stb z2s 225 [(.int .i64 z3y.2.2)],stb z3f 132 [(.int .i64 0),(.int .i64 0)],stb z30 177 [(.slice z1a zW.length z1b),(.int .i64 zi.fRate.fN),(.int .i64 zi.fRate.fD),(.int .i64 zi.fL.fN),(.int .i64 zi.fL.fD),(.func (.func 72) #[] #[(.pointer (some z14)),(.pointer (some z15))]),(.slice z1c zX.length z1d)],dfr z5H,stb z3W 177 [(.slice z1a zW.length z1b),(.int .i64 zs.1),(.int .i64 zs.2.1),(.int .i64 zs.2.2.1),(.int .i64 zs.2.2.2),(.func (.func 72) #[] #[(.pointer (some z14)),(.pointer (some z15))]),(.slice z1c zX.length z1d)]] _)),?_⟩
    clear hp hp1 hp2 pz hw hw1
    refine wjN ?_
    letI : Rnd:=aft z5H
    refine WX.yk ?_
    exact WX.midR (D:=fun (g : Nat × Int × List z1 × Option Addr × Nat)=>g.1) (G:=Nat × Int × List z1 × Option Addr × Nat) ⟨z5H,z3y.2.2,z3y.2.1,zku,zkv⟩ h (.r3 rfl rfl rfl) (.s5 .h3 .h2 .here .here .h1)
  ·rintro zkq z8x z5G zkr zks h
   replace h:=(zOp z8x z5G).symm.trans h
   letI : Rnd:=aft zkq
   refine WC.b (WC.b (WC.a (WL.qA 35 (ya y4A rfl rfl) (WL.qA 36 (yc y2Z rfl (ym .h1 rfl)) (WL.pu rfl (WL.nil (WX.a (WC.cond rfl (fun zur=>?_) (fun zur=>?_)))))))))
   ·replace h:=yo h zur
    refine WC.b (WC.yO (fun i=>[3].contains i) [y71 z2s 225 [(0,(.int .i64 z8x))]] rfl (WD.pA 0 38 rfl (fun _=>yI (v:=(.agg #[(.int .i64 0),(.int .i64 0)])) (Eos.parts (l:=[]) .nil []) (fun _=>by kernel_rfl)) (WD.pA 1 39 rfl (fun _=>ya y4A rfl rfl) (WD.sA 2 40 rfl (Sin.wk (.cons .h1 .nil) (.stb (.cons rfl .nil) .nil)) (yc y2Z rfl (y5e .here (.head _))) (WD.forced0 (i:=3) rfl (by kernel_rfl) rfl rfl rfl (Sin.wk (.cons .h1 .nil) (.stb (.cons rfl .nil) .nil)) (yl zq rfl rfl rfl .here rfl rfl rfl) (WD.pA 4 3 rfl (fun _=>q_z rfl) (WD.done (by kernel_rfl) (WX.a (WC.ret (WX.yd ?_))))))))))
    obtain rfl:=Option.some.inj h
    refine WX.y7p .h4 Tryz.results77 (.agg rfl zb rfl (yh .h1) (.tmp rfl .nil)) (fun w hw=>?_)
    exact ⟨y1Z rfl rfl,hw.sub .nil⟩
   ·replace h:=yp h zur
    refine WC.skip (WX.a (WC.b ?_))
    obtain ⟨zkw,h⟩:=yn h
    refine WC.a (WL.qA 41 (yc z7o rfl (ym .h2 rfl)) (WL.know (fun w hw=>Hp.y2j .h3 hw (by intro hz'; have:=zkw; rw [hz'] at this; omega)) ?_))
    rintro ⟨zXX,rfl⟩
    refine WL.qA 42 (yV z1H rfl rfl zkw.1 zkw.2 y32) (WL.qA 43 (yT (cs:=(yu (nth z5G 0))) zb rfl rfl (y49 .h3 (y3y (enc:=yu) (l:=z5G) (i:=0) (sz:=2) (fun _=>rfl) zkw.1 zkw.2))) (WL.yj rfl rfl (yl zq rfl rfl rfl .here rfl rfl rfl) (WL.pu rfl (WL.nil (WX.a (WC.ret ?_))))))
    obtain rfl:=Option.some.inj h
    refine WX.y7p .h4 Tryz.results77 (.agg rfl zb rfl (yh .h1) (.tmp rfl .nil)) (fun w hw=>?_)
    exact ⟨y1Z rfl rfl,hw.sub .nil⟩
def y53 (zaC : List (List z2)) (z3g : zSv) : Option (z1 × Int) :=
 (y3N zaC z3g zaC z3g []).bind fun zus=>some (zus.1,zus.2)
theorem ybH (Z : Zp) (zkx : Option Addr) (zky : Nat) (zaC : List (List z2)) (z3g : zSv) (r : z1 × Int)
  (h : y53 zaC z3g = some r) (w₀ : World) (hz : PZ [] w₀ Z)
  (zCq : ZS Z 1 (y1T Z) zkx zky zaC) :
  Calls Tryz.prog 44 #[(.slice zkx zaC.length zky),(.agg #[(.int .i64 z3g.fRate.fN),(.int .i64 z3g.fRate.fD),(.int .i64 z3g.fL.fN),(.int .i64 z3g.fL.fD)])] w₀ fun e w'=>e = .returned (.tuple #[(.agg #[(.int .i64 r.1.fN),(.int .i64 r.1.fD)]),(.int .i64 r.2)]) ∧ Hp [] w₀ w' []:=by
 unfold y53 at h
 refine Calls.yJ Tryz.func44 Tryz.ntmps44 ?_
 refine WC.b (WC.a (WL.nA 2 (yH (cs:=[(.slice zkx zaC.length zky)]) rfl rfl) ?_))
 intro zOB _
 refine WL.nA 3 (yH (cs:=[(.int .i64 z3g.fRate.fN),(.int .i64 z3g.fRate.fD),(.int .i64 z3g.fL.fN),(.int .i64 z3g.fL.fD)]) rfl rfl) ?_
 intro zOC _
 refine WL.nA 4 (yw (cs:=[(.int .i64 0),(.int .i64 0)]) zH rfl) ?_
 intro zXY _
 refine WL.pu rfl (WL.nil (WX.a (WC.b (WC.a (WL.qA 7 (yc z6A rfl (ym .h2 rfl)) (WL.qA 8 (yf zfn rfl (yh .h1) rfl) (WL.qA 9 (yI (v:=(.agg #[(.slice zkx zaC.length zky),(.int .i64 z3g.fRate.fN),(.int .i64 z3g.fRate.fD),(.int .i64 z3g.fL.fN),(.int .i64 z3g.fL.fD),.nilFunc,(.slice none 0 0)])) (Eos.parts (l:=[.tmp 7,.tmp 8]) (.r2 rfl rfl) [0,1]) (fun _=>by kernel_rfl)) (WL.nA 6 (yw (cs:=[(.slice none 0 0),(.int .i64 0),(.int .i64 0),(.int .i64 0),(.int .i64 0),.nilFunc,(.slice none 0 0)]) zwR rfl) ?_))))))))
 intro zXZ _
 refine WL.yj rfl rfl (yl zwS rfl rfl rfl .here rfl rfl rfl) (WL.nil (WX.a (WC.b (WC.a (WL.qA 10 (y17 (Eos.caps (l:=[.tmp 2,.tmp 3]) (.r2 rfl rfl))) (WL.qA 11 (ya ya4 rfl rfl) (WL.yj rfl rfl (y4y (ds:=[(.slice zkx zaC.length zky),(.int .i64 z3g.fRate.fN),(.int .i64 z3g.fRate.fD),(.int .i64 z3g.fL.fN),(.int .i64 z3g.fL.fD),(.func (.func 72) #[] #[(.pointer (some ⟨zOB,0,none⟩)),(.pointer (some ⟨zOC,0,none⟩))]),(.slice none 0 0)]) zwT rfl rfl rfl rfl rfl .here rfl rfl) (WL.nil (WX.a (WC.b ?_))))))))))
 obtain ⟨zus,zOD,h⟩:=z6 h
 refine WC.a (WL.qA 12 (yf zfo rfl (yh .here) rfl) (WL.cA 13 (z8 Tryz.call77 (.cons rfl .nil)) .nil (ccl hz .nil (.s2 .h3 .h2) fun w pz ho la=>y9L _ _ _ _ _ _ _ _ _ _ _ _ _ _ _ zOD w pz ((zCq.mono (Zle.left _ _)).weak (fun _ _ h=>y38 (Zle.left _ _) h)) ((zCq.mono (Zle.left _ _)).weak (fun _ _ h=>y38 (Zle.left _ _) h)) ((la _ (.head _) _).stb) ((la _ (.tail _ (.head _)) _).stb) (ZS.nil _ _ _)) (WL.pu rfl (WL.pu rfl (WL.yj rfl rfl (yl zq rfl rfl rfl .h1 rfl rfl rfl) (WL.pu rfl (WL.nil (WX.a (WC.ret ?_)))))))))
 obtain rfl:=Option.some.inj h
 refine WX.ye Tryz.results44 (.agg rfl zb rfl (yh .here) (.tmp rfl .nil)) (fun w hw=>?_)
 exact ⟨y1Z rfl rfl,hw.sub .nil⟩
def y1O (z31 : List (List z2)) (zaD : Int → Int → Int → Option Int) : Nat → Int → Int → Int → Int → Option Int
 | 0,_,_,_,_=>none
 | zut + 1,z4Y,z6V,z6W,z6X=>if decide (z4Y < ((z31.length : Nat) : Int)) then chk ((0 : Int) ≤ z4Y ∧ z4Y < ((z31.length : Nat) : Int)) ((y1S (nth z31 z4Y)).bind fun zuu=>if decide (zuu.2 ≠ 0) then some zuu.2 else (y4s (nth z31 z4Y)).bind fun zCr=>(y12 (⟨z6V⟩ : z18) (fun (y0 : z1) (y1 : z1)=>y1c y0 y1) (⟨z6W,z6X⟩ : z1) zCr.1).bind fun zeG=>y1O z31 zaD zut (i64 (z4Y + 1)) zeG.2.fE zeG.1.fN zeG.1.fD) else zaD z6V z6W z6X
theorem y7l {n : Nat} {z31 : List (List z2)} {zaD : Int → Int → Int → Option Int} {z4Y : Int} {z6V : Int} {z6W : Int} {z6X : Int} {r : Int} (h : y1O z31 zaD n z4Y z6V z6W z6X = some r) : ∃ m,n = m + 1:=by
 cases n with
 | zero=>cases h
 | succ m=>exact ⟨m,rfl⟩
def y3e (z31 : List (List z2)) (z1V : zSv) (znv : List (List z2)) (zhx : zSv) (zeH : List z1) : Option Int :=
 (if decide (((z31.length : Nat) : Int) > 32) then some true else (y16 z31 (fun (y0 : List z2)=>y1q y0)).bind fun zCs=>some zCs).bind fun zuv=>(if zuv then some true else (y4k z1V).bind fun zCt=>some (!zCt)).bind fun zuw=>if zuw then some 2 else (y2E).bind fun zkz=>jp3 (fun (zaE : Int) (zcF : Int) (zcG : Int)=>(if decide (zaE = 0) then (y1i (⟨zcF,zcG⟩ : z1) z1V.fRate).bind fun zCu=>some (decide (zCu > 0)) else some false).bind fun zux=>if zux then some 6 else some zaE) fun zaD=>y1O z31 zaD yz 0 0 zkz.fN zkz.fD
theorem y8W (Z : Zp) (zhy : Option Addr) (zhz : Nat) (zkA : Addr) (zCv : Option Addr) (zCw : Nat) (zkB : Addr) (zkC : Option Addr) (zkD : Nat) (z31 : List (List z2)) (z1V : zSv) (znv : List (List z2)) (zhx : zSv) (zeH : List z1) (r : Int)
  (h : y3e z31 z1V znv zhx zeH = some r) (w₀ : World) (hz : PZ [] w₀ Z)
  (zCx : ZS Z 1 (y1T Z) zhy zhz z31)
  (zY0 : ZS Z 1 (y1T Z) zCv zCw znv)
  (zY1 : ZC Z zkA [(.slice zCv znv.length zCw)])
  (zY2 : ZC Z zkB [(.int .i64 zhx.fRate.fN),(.int .i64 zhx.fRate.fD),(.int .i64 zhx.fL.fN),(.int .i64 zhx.fL.fD)])
  (zY3 : ZS Z 2 (fun r x=>r = yu x) zkC zkD zeH) :
  Calls Tryz.prog 109 #[(.agg #[(.slice zhy z31.length zhz),(.int .i64 z1V.fRate.fN),(.int .i64 z1V.fRate.fD),(.int .i64 z1V.fL.fN),(.int .i64 z1V.fL.fD),(.func (.func 78) #[] #[(.pointer (some zkA)),(.pointer (some zkB))]),(.slice zkC zeH.length zkD)])] w₀ fun e w'=>e = .returned (.int .i64 r) ∧ Hp [] w₀ w' []:=by
 unfold y3e at h
 refine Calls.on1 Tryz.func109 Tryz.ntmps109 ?_
 refine WC.b (WC.a (WL.nA 1 (yH (cs:=[(.slice zhy z31.length zhz),(.int .i64 z1V.fRate.fN),(.int .i64 z1V.fRate.fD),(.int .i64 z1V.fL.fN),(.int .i64 z1V.fL.fD),(.func (.func 78) #[] #[(.pointer (some zkA)),(.pointer (some zkB))]),(.slice zkC zeH.length zkD)]) rfl rfl) ?_))
 intro znw _
 refine WL.pu rfl (WL.nil (WX.a (WC.b (WC.b ?_))))
 obtain ⟨zuv,zCy,h⟩:=z6 h
 obtain ⟨zuw,zCz,h⟩:=z6 h
 refine WC.a (WL.qA 11 (ya y6C rfl rfl) (WL.qA 12 (yc z6A rfl (ym .here rfl)) (WL.qA 13 (yG Tryz.underlying128 rfl) (WL.pu rfl (WL.pu rfl (WL.seg false 3 15 (B:=zuv) rfl rfl rfl rfl rfl rfl (fun h=>(Option.some.inj (yo zCy h)).symm) (fun _ zOE=>?_) ?_))))))
 ·skip
  have zkE:=yp zCy zOE
  obtain ⟨zCs,zOF,zkE⟩:=z6 zkE
  replace zkE:=Option.some.inj zkE
  refine WL.qA 16 (ya y6C rfl rfl) (WL.qA 17 (yc z6A rfl (ym .here rfl)) (WL.cA 18 (z8 Tryz.call150 (.r2 rfl rfl)) .nil (cc hz .nil fun w pz ho=>y3U _ _ _ (ze5:=151) (zjF:=[]) _ (ze4:=(fun (y0 : List z2)=>y1q y0)) _ zOF w pz zCx Tryz.call151 (fun w' hz' y0 ga0 gc0 r gh0 hr=>y6p _ _ _ _ _ hr w' hz' gh0)) (WL.pu rfl ?_)))
  exact WL.yB zkE rfl rfl .all
 refine WL.pu rfl (WL.seg false 4 20 (B:=zuw) rfl rfl rfl rfl rfl rfl (fun h=>(Option.some.inj (yo zCz h)).symm) (fun _ zOG=>?_) ?_)
 ·skip
  have zkF:=yp zCz zOG
  obtain ⟨zCt,zOH,zkF⟩:=z6 zkF
  replace zkF:=Option.some.inj zkF
  refine WL.qA 21 (ya ya5 rfl rfl) (WL.qA 22 (yT (cs:=[(.int .i64 z1V.fRate.fN),(.int .i64 z1V.fRate.fD),(.int .i64 z1V.fL.fN),(.int .i64 z1V.fL.fD)]) zfn rfl rfl (y31 (s:=4) .here rfl)) (WL.cA 23 (z8 Tryz.call152 (.cons rfl .nil)) .nil (cc hz .nil fun w pz ho=>y8U _ _ _ zOH w pz ) (WL.pu rfl (WL.pu rfl ?_))))
  exact WL.yB zkF rfl rfl .all
 refine WL.nil (WX.a (WC.cond rfl (fun zuy=>?_) (fun zuy=>?_)))
 ·replace h:=yo h zuy
  refine WC.b (WC.a (WL.pu rfl (WL.nil (WX.a (WC.ret (WX.yd ?_))))))
  obtain rfl:=Option.some.inj h
  refine WX.ye Tryz.results109 (.tmp rfl .nil) (fun w hw=>?_)
  exact ⟨yC rfl,hw.sub .nil⟩
 ·replace h:=yp h zuy
  refine WC.skip (WX.a (WC.b (WC.a (WL.nA 3 (yw (cs:=[(.int .i64 0)]) zlA rfl) ?_))))
  intro znx _
  refine WL.nil (WX.a (WC.b ?_))
  obtain ⟨zkz,zOI,h⟩:=z6 h
  refine WC.a (WL.cA 26 (z8 Tryz.call107 .nil) .nil (cc hz .nil fun w pz ho=>y41 _ _ zOI w pz ) (WL.nA 4 (yw (cs:=[(.int .i64 0),(.int .i64 0)]) zH rfl) ?_))
  intro zny _
  refine WL.yj rfl rfl (yl zq rfl rfl rfl .here rfl rfl rfl) (WL.nil (WX.a ?_))
  obtain ⟨zaD,zOJ,h⟩:=y9Z h
  refine WC.y2u (fun (zaE : Int) (zcF : Int) (zcG : Int)=>(zaD zaE zcF zcG = some r)) (fun zaE zcF zcG=>[(1,(.pointer (some ⟨znw,0,none⟩))),(3,(.pointer (some ⟨znx,0,none⟩))),(4,(.pointer (some ⟨zny,0,none⟩)))]) (fun zaE zcF zcG=>[stb znw 177 [(.slice zhy z31.length zhz),(.int .i64 z1V.fRate.fN),(.int .i64 z1V.fRate.fD),(.int .i64 z1V.fL.fN),(.int .i64 z1V.fL.fD),(.func (.func 78) #[] #[(.pointer (some zkA)),(.pointer (some zkB))]),(.slice zkC zeH.length zkD)],stb znx 225 [(.int .i64 zaE)],stb zny 132 [(.int .i64 zcF),(.int .i64 zcG)]]) ?_ ?_
  ·skip
   refine WC.b (WC.a (WL.qA 27 (ya y6C rfl rfl) (WL.qA 28 (yc z6A rfl (ym .h2 rfl)) (WL.qA 29 (yG Tryz.underlying128 rfl) (WL.pu rfl (WL.nil (WX.a (WC.block (WC.y5V (fun (zhA : Nat) (z4Y : Int) (z6V : Int) (z6W : Int) (z6X : Int)=>(y1O z31 zaD zhA z4Y z6V z6W z6X = some r)) (fun zhA z4Y z6V z6W z6X=>[(1,(.pointer (some ⟨znw,0,none⟩))),(3,(.pointer (some ⟨znx,0,none⟩))),(4,(.pointer (some ⟨zny,0,none⟩))),(28,(.slice zhy z31.length zhz)),(29,(.int .i64 ((z31.length : Nat) : Int))),(30,(.int .i64 z4Y))]) (fun zhA z4Y z6V z6W z6X=>[stb znw 177 [(.slice zhy z31.length zhz),(.int .i64 z1V.fRate.fN),(.int .i64 z1V.fRate.fD),(.int .i64 z1V.fL.fN),(.int .i64 z1V.fL.fD),(.func (.func 78) #[] #[(.pointer (some zkA)),(.pointer (some zkB))]),(.slice zkC zeH.length zkD)],stb znx 225 [(.int .i64 z6V)],stb zny 132 [(.int .i64 z6W),(.int .i64 z6X)]]) (fun zhA z4Y z6V z6W z6X=>zhA) ⟨yz,0,0,zkz.fN,zkz.fD⟩ h (.r6 rfl rfl rfl rfl rfl rfl) (.s3 .h2 .h1 .here) ?_)))))))))
   rintro zhA z4Y z6V z6W z6X h
   obtain ⟨zut,rfl⟩:=y7l h
   rw [y1O] at h
   refine WC.b (WC.a (WL.pu rfl (WL.nil (WX.a (WC.b (WC.cond rfl (fun zuz=>?_) (fun zuz=>?_)))))))
   ·replace h:=yo h zuz
    refine WC.skip (WX.a (WC.b (WC.block (WC.b ?_))))
    obtain ⟨zOK,h⟩:=yn h
    refine WC.a (WL.znth (dd:=32) rfl rfl (Z:=Z) (Pr:=(y1T Z)) z7n rfl rfl zCx zOK ?_)
    rintro zY4 zY5 zOL zY6 ⟨zY7,zY8,rfl,zCA⟩
    refine WL.qA 33 (yc zbb rfl (y57 hz.pv zOL rfl)) (WL.pu rfl (WL.nil (WX.a (WC.b (WC.b ?_)))))
    obtain ⟨zuu,zOM,h⟩:=z6 h
    refine WC.a (WL.pu rfl (WL.y4b (dd:=36) rfl rfl rfl (z8 Tryz.call153 (.cons rfl .nil)) .nil (cc hz .nil fun w pz ho=>y6W _ _ _ _ _ zOM w pz zCA) ?_))
    rintro zY9 zYa _
    refine WL.pu rfl (WL.pu rfl (WL.pu rfl (WL.pu rfl (WL.pu rfl (WL.nil (WX.a (WC.b (WC.a (WL.pu rfl (WL.pu rfl (WL.nil (WX.a (WC.cond rfl (fun zuA=>?_) (fun zuA=>?_))))))))))))))
    ·replace h:=yo h zuA
     refine WC.b (WC.a (WL.pu rfl (WL.pu rfl (WL.nil (WX.a (WC.ret (WX.yd (WX.yt (WX.yd (WX.yd (WX.yt (WX.yd ?_))))))))))))
     obtain rfl:=Option.some.inj h
     refine WX.ye Tryz.results109 (.tmp rfl .nil) (fun w hw=>?_)
     exact ⟨yC rfl,hw.sub .nil⟩
    ·replace h:=yp h zuA
     refine WC.skip (WX.a (WC.b ?_))
     obtain ⟨zCr,zON,h⟩:=z6 h
     refine WC.a (WL.pu rfl (WL.cA 44 (z8 Tryz.call154 (.cons rfl .nil)) .nil (cc hz .nil fun w pz ho=>yaR _ _ _ _ _ zON w pz zCA) (WL.pu rfl (WL.pu rfl (WL.pu rfl (WL.nA 9 (yw (cs:=[(.int .i64 0),(.int .i64 0)]) zH rfl) ?_))))))
     intro zYb _
     refine WL.yj rfl rfl (yl zq rfl rfl rfl .here rfl rfl rfl) (WL.pu rfl (WL.nil (WX.a ?_)))
     obtain ⟨zeG,zOO,h⟩:=z6 h
     refine WC.a (WL.qA 47 (yf zb rfl (yh .h4) rfl) (WL.qA 48 (yf zb rfl (yh .here) rfl) (WL.cA 49 (z8 Tryz.call73 (.r4 rfl rfl rfl rfl)) (.cons .h3 .nil) (cc hz (.cons .h3 .nil) fun w pz ho=>y2l _ _ (z5C:=69) (z6P:=[]) _ (z6a:=(fun (y0 : z1) (y1 : z1)=>y1c y0 y1)) _ _ _ zOO w pz Tryz.call69 (fun w' hz' y0 y1  r  hr=>y5T _ _ _ _ hr w' hz' ) ho) (WL.yj rfl rfl (yl zq rfl rfl rfl .h4 rfl rfl rfl) (WL.nil (WX.yk (WX.a (WC.a (WL.pu rfl (WL.pu rfl (WL.nil ?_)))))))))))
     exact WX.round ⟨zut,(i64 (z4Y + 1)),zeG.2.fE,zeG.1.fN,zeG.1.fD⟩ h (Nat.lt_succ_self _) (.r6 rfl rfl rfl rfl rfl rfl) (.s3 .h4 .h1 .here)
   ·replace h:=yp h zuz
    refine WC.exit (WX.yg (WX.yg (WX.yA ?_)))
    exact WX.mid ⟨z6V,z6W,z6X⟩ h (.r3 rfl rfl rfl) (.s3 .here .here .here)
  ·rintro zaE zcF zcG h
   replace h:=(zOJ zaE zcF zcG).symm.trans h
   refine WC.b (WC.b ?_)
   obtain ⟨zux,zCB,h⟩:=z6 h
   refine WC.a (WL.qA 51 (ya y4A rfl rfl) (WL.qA 52 (yc y2Z rfl (ym .h1 rfl)) (WL.pu rfl (WL.pu rfl (WL.seg true 6 54 (B:=zux) rfl rfl rfl rfl rfl rfl (fun h=>(Option.some.inj (yp zCB h)).symm) (fun _ zOP=>?_) ?_)))))
   ·skip
    have zkG:=yo zCB zOP
    obtain ⟨zCu,zOQ,zkG⟩:=z6 zkG
    replace zkG:=Option.some.inj zkG
    refine WL.qA 55 (yf zb rfl (yh .h2) rfl) (WL.qA 56 (ya ya5 rfl rfl) (WL.qA 57 (ya y7V rfl rfl) (WL.qA 58 (yT (cs:=[(.int .i64 z1V.fRate.fN),(.int .i64 z1V.fRate.fD)]) zb rfl rfl (y31 (s:=2) .here rfl)) (WL.cA 59 (z8 Tryz.call79 (.r2 rfl rfl)) .nil (cc hz .nil fun w pz ho=>y4d _ _ _ _ zOQ w pz ) (WL.pu rfl (WL.pu rfl ?_))))))
    exact WL.yB zkG rfl rfl .all
   refine WL.nil (WX.a (WC.cond rfl (fun zuB=>?_) (fun zuB=>?_)))
   ·replace h:=yo h zuB
    refine WC.b (WC.a (WL.pu rfl (WL.nil (WX.a (WC.ret (WX.yd ?_))))))
    obtain rfl:=Option.some.inj h
    refine WX.ye Tryz.results109 (.tmp rfl .nil) (fun w hw=>?_)
    exact ⟨yC rfl,hw.sub .nil⟩
   ·replace h:=yp h zuB
    refine WC.skip (WX.a (WC.b (WC.a (WL.qA 62 (ya y4A rfl rfl) (WL.qA 63 (yc y2Z rfl (ym .h1 rfl)) (WL.pu rfl (WL.nil (WX.a (WC.ret ?_)))))))))
    obtain rfl:=Option.some.inj h
    refine WX.ye Tryz.results109 (.tmp rfl .nil) (fun w hw=>?_)
    exact ⟨yC rfl,hw.sub .nil⟩
def y3Q (zhB : List (List z2)) (z5I : zSv) (znz : List (List z2)) (zhC : zSv) (zhD : List z1) : Option (Int × Int × Int × Int) :=
 some (z5I.fRate.fN,z5I.fRate.fD,z5I.fL.fN,z5I.fL.fD)
theorem y8A (Z : Zp) (znA : Option Addr) (znB : Nat) (znC : Addr) (zCC : Option Addr) (zCD : Nat) (znD : Addr) (znE : Option Addr) (znF : Nat) (zhB : List (List z2)) (z5I : zSv) (znz : List (List z2)) (zhC : zSv) (zhD : List z1) (r : Int × Int × Int × Int)
  (h : y3Q zhB z5I znz zhC zhD = some r) (w₀ : World) (hz : PZ [] w₀ Z)
  (zYc : ZS Z 1 (y1T Z) znA znB zhB)
  (zYd : ZS Z 1 (y1T Z) zCC zCD znz)
  (zYe : ZC Z znC [(.slice zCC znz.length zCD)])
  (zYf : ZC Z znD [(.int .i64 zhC.fRate.fN),(.int .i64 zhC.fRate.fD),(.int .i64 zhC.fL.fN),(.int .i64 zhC.fL.fD)])
  (zYg : ZS Z 2 (fun r x=>r = yu x) znE znF zhD) :
  Calls Tryz.prog 110 #[(.agg #[(.slice znA zhB.length znB),(.int .i64 z5I.fRate.fN),(.int .i64 z5I.fRate.fD),(.int .i64 z5I.fL.fN),(.int .i64 z5I.fL.fD),(.func (.func 78) #[] #[(.pointer (some znC)),(.pointer (some znD))]),(.slice znE zhD.length znF)])] w₀ fun e w'=>∃ zCE : Nat,e = .returned (.func (.func 155) #[] #[(.pointer (some ⟨zCE,0,none⟩))]) ∧ True ∧ Hp [] w₀ w' [stb zCE 177 [(.slice znA zhB.length znB),(.int .i64 r.1),(.int .i64 r.2.1),(.int .i64 r.2.2.1),(.int .i64 r.2.2.2),(.func (.func 78) #[] #[(.pointer (some znC)),(.pointer (some znD))]),(.slice znE zhD.length znF)]]:=by
 unfold y3Q at h
 refine Calls.on1 Tryz.func110 Tryz.ntmps110 ?_
 refine WC.b (WC.a (WL.nA 1 (yH (cs:=[(.slice znA zhB.length znB),(.int .i64 z5I.fRate.fN),(.int .i64 z5I.fRate.fD),(.int .i64 z5I.fL.fN),(.int .i64 z5I.fL.fD),(.func (.func 78) #[] #[(.pointer (some znC)),(.pointer (some znD))]),(.slice znE zhD.length znF)]) rfl rfl) ?_))
 intro zOR _
 refine WL.pu rfl (WL.nil (WX.a (WC.b (WC.a (WL.qA 3 (y17 (Eos.caps (l:=[.tmp 1]) (.cons rfl .nil))) (WL.pu rfl (WL.nil (WX.a (WC.ret ?_)))))))))
 obtain rfl:=Option.some.inj h
 refine WX.ye Tryz.results110 (.tmp rfl .nil) (fun w hw=>?_)
 exact ⟨zOR,yC rfl,trivial,hw.sub (.cons .here .nil)⟩
def y1w (zp : Type) (z24 : List z1 × Int) (z1P : z1 → zp → Option (Bool × zp)) (zaF : zp → Option zp) : Nat → Int → zp → Option zp
 | 0,_,_=>none
 | zuC + 1,z2t,z4Z=>if decide (z2t < ((z24.1.length : Nat) : Int)) then chk ((0 : Int) ≤ z2t ∧ z2t < ((z24.1.length : Nat) : Int)) ((y1M (⟨((nth z24.1 z2t).fN),((nth z24.1 z2t).fD)⟩ : z1)).bind fun zCF=>(y1l zCF).bind fun zuD=>(z1P zuD z4Z).bind fun z8y=>(if !z8y.1 then some (true,z8y.2) else (y2x (⟨((nth z24.1 z2t).fN),((nth z24.1 z2t).fD)⟩ : z1)).bind fun zCG=>(y1l zCG).bind fun zuE=>(z1P zuE z8y.2).bind fun zkH=>some (!zkH.1,zkH.2)).bind fun zcH=>if zcH.1 then some zcH.2 else y1w zp z24 z1P zaF zuC (i64 (z2t + 1)) zcH.2) else zaF z4Z
theorem y6X {n : Nat} {zp : Type} {z24 : List z1 × Int} {z1P : z1 → zp → Option (Bool × zp)} {zaF : zp → Option zp} {z2t : Int} {z4Z : zp} {r : zp} (h : y1w zp z24 z1P zaF n z2t z4Z = some r) : ∃ m,n = m + 1:=by
 cases n with
 | zero=>cases h
 | succ m=>exact ⟨m,rfl⟩
def y1x (zp : Type) (z2h : List (List z2)) (z1P : z1 → zp → Option (Bool × zp)) (zaG : zp → Option zp) : Nat → Int → zp → Option zp
 | 0,_,_=>none
 | zuF + 1,z3A,z5J=>if decide (z3A < ((z2h.length : Nat) : Int)) then jp1 (fun (z8z : zp)=>y1x zp z2h z1P zaG zuF (i64 (z3A + 1)) z8z) fun zuG=>chk ((0 : Int) ≤ z3A ∧ z3A < ((z2h.length : Nat) : Int)) ((y1S (nth z2h z3A)).bind fun z24=>jp1 (fun (z8A : zp)=>zuG z8A) fun zaF=>y1w zp z24 z1P zaF yz 0 z5J) else zaG z5J
theorem y6Y {n : Nat} {zp : Type} {z2h : List (List z2)} {z1P : z1 → zp → Option (Bool × zp)} {zaG : zp → Option zp} {z3A : Int} {z5J : zp} {r : zp} (h : y1x zp z2h z1P zaG n z3A z5J = some r) : ∃ m,n = m + 1:=by
 cases n with
 | zero=>cases h
 | succ m=>exact ⟨m,rfl⟩
def y1y (zp : Type) (z2u : List z1) (z1P : z1 → zp → Option (Bool × zp)) (zaH : zp → Option zp) : Nat → Int → zp → Option zp
 | 0,_,_=>none
 | zuH + 1,z32,z52=>if decide (z32 < ((z2u.length : Nat) : Int)) then chk ((0 : Int) ≤ z32 ∧ z32 < ((z2u.length : Nat) : Int)) ((y1M (⟨((nth z2u z32).fN),((nth z2u z32).fD)⟩ : z1)).bind fun zCH=>(y1l zCH).bind fun zuI=>(z1P zuI z52).bind fun z8B=>(if !z8B.1 then some (true,z8B.2) else (y2x (⟨((nth z2u z32).fN),((nth z2u z32).fD)⟩ : z1)).bind fun zCI=>(y1l zCI).bind fun zuJ=>(z1P zuJ z8B.2).bind fun zkI=>some (!zkI.1,zkI.2)).bind fun zcI=>if zcI.1 then some zcI.2 else y1y zp z2u z1P zaH zuH (i64 (z32 + 1)) zcI.2) else zaH z52
theorem y6Z {n : Nat} {zp : Type} {z2u : List z1} {z1P : z1 → zp → Option (Bool × zp)} {zaH : zp → Option zp} {z32 : Int} {z52 : zp} {r : zp} (h : y1y zp z2u z1P zaH n z32 z52 = some r) : ∃ m,n = m + 1:=by
 cases n with
 | zero=>cases h
 | succ m=>exact ⟨m,rfl⟩
def y2G (zp : Type) (z1P : z1 → zp → Option (Bool × zp)) (s0_56417 : zp) (z2h : List (List z2)) (zeI : zSv) (zkJ : List (List z2)) (zeJ : zSv) (z2u : List z1) : Option zp :=
 (y2E).bind fun zuK=>(z1P zuK s0_56417).bind fun zeK=>if !zeK.1 then some zeK.2 else jp1 (fun (z8C : zp)=>jp1 (fun (zaI : zp)=>some zaI) fun zaH=>y1y zp z2u z1P zaH yz 0 z8C) fun zaG=>y1x zp z2h z1P zaG yz 0 zeK.2
theorem y8f (Z : Zp) (zp : Type) (z7V : Nat) (z3B : Type) (z1W : z3B → zp → Asrt) (z6h : z3B → zp → Prop) (zaJ : z3B) (zaK : Addr) (zcJ : Option Addr) (zcK : Nat) (zuL : Addr) (zuM : Option Addr) (zuN : Nat) (zuO : Addr) (zkK : Option Addr) (zkL : Nat) (z1P : z1 → zp → Option (Bool × zp)) (s0_56417 : zp) (z2h : List (List z2)) (zeI : zSv) (zkJ : List (List z2)) (zeJ : zSv) (z2u : List z1) (r : zp) (w₀ : World) (hz : PZ (fps [z1W zaJ s0_56417]) w₀ Z)
  (zkM : yaC Tryz.prog Z z7V (α:=z1) (σ:=zp) (G:=z3B) (H:=Unit) (fun h x=>[(.agg #[(.int .i64 x.fN),(.int .i64 x.fD)])]) (fun h x=>[]) z1P z1W z6h)
  (zOS : z6h zaJ s0_56417)
  (zOT : ZS Z 1 (y1T Z) zcJ zcK z2h)
  (zYh : ZS Z 1 (y1T Z) zuM zuN zkJ)
  (zYi : ZC Z zuL [(.slice zuM zkJ.length zuN)])
  (zYj : ZC Z zuO [(.int .i64 zeJ.fRate.fN),(.int .i64 zeJ.fRate.fD),(.int .i64 zeJ.fL.fN),(.int .i64 zeJ.fL.fD)])
  (zOU : ZS Z 2 (fun r x=>r = yu x) zkK zkL z2u)
  (zCJ : ZC Z zaK [(.slice zcJ z2h.length zcK),(.int .i64 zeI.fRate.fN),(.int .i64 zeI.fRate.fD),(.int .i64 zeI.fL.fN),(.int .i64 zeI.fL.fD),(.func (.func 78) #[] #[(.pointer (some zuL)),(.pointer (some zuO))]),(.slice zkK z2u.length zkL)])
  (h : y2G zp z1P s0_56417 z2h zeI zkJ zeJ z2u = some r)
  (hown : Hp (fps [z1W zaJ s0_56417]) w₀ w₀ [z1W zaJ s0_56417]) :
  Calls Tryz.prog 155 #[(.func (.yield z7V) #[] #[]),(.pointer (some zaK))] w₀ fun e w'=>∃ zCK : z3B,e = .returned (.tuple #[]) ∧ (z6h zCK r) ∧ Hp (fps [z1W zaJ s0_56417]) w₀ w' [z1W zCK r]:=by
 unfold y2G at h
 refine Calls.oh2 Tryz.func155 Tryz.ntmps155 hown ?_
 refine WC.b (WC.b ?_)
 obtain ⟨zuK,zOV,h⟩:=z6 h
 obtain ⟨zeK,zOW,h⟩:=z6 h
 refine WC.a (WL.pu rfl (WL.cA 12 (z8 Tryz.call107 .nil) .nil (cc hz .nil fun w pz ho=>y41 _ _ zOV w pz ) (WL.yield (dd:=13) (x:=zuK) (h:=()) (g:=zaJ) (s:=s0_56417) (b:=zeK.1) (s':=zeK.2) zkM rfl rfl rfl (.cons rfl .nil) ((.cons .here .nil) : Sel _ [z1W zaJ s0_56417] _) zOW zOS (fun w hw=>hz.call hw ((.cons .here .nil) : Sel _ [z1W zaJ s0_56417] _)) ?_)))
 intro zCL zCM
 refine WL.pu rfl (WL.nil (WX.a (WC.cond rfl (fun zuP=>?_) (fun zuP=>?_))))
 ·replace h:=yo h zuP
  refine WC.ret (WX.yd ?_)
  obtain rfl:=Option.some.inj h
  refine WX.ye Tryz.results155 .nil (fun w hw=>?_)
  exact ⟨zCL,y7f,zCM,hw.sub (.cons .here .nil)⟩
 ·replace h:=yp h zuP
  refine WC.skip (WX.a ?_)
  obtain ⟨zaG,zOX,h⟩:=y1d h
  refine WC.y4L (fun (z8C : zp) (zhE : z3B)=>(zaG z8C = some r) ∧ (z6h zhE z8C)) (fun z8C zhE=>[(0,(.func (.yield z7V) #[] #[])),(1,(.pointer (some zaK)))]) (fun z8C zhE=>[z1W zhE z8C]) ?_ ?_
  ·skip
   refine WC.b (WC.a (WL.qA 15 (ya y6C rfl rfl) (WL.qA 16 (yc z6A rfl (y1k hz.pv zCJ rfl)) (WL.qA 17 (yG Tryz.underlying128 rfl) (WL.pu rfl (WL.nil (WX.a (WC.block (WC.y5y (fun (zhF : Nat) (z3A : Int) (z5J : zp) (zcL : z3B)=>(y1x zp z2h z1P zaG zhF z3A z5J = some r) ∧ (z6h zcL z5J)) (fun zhF z3A z5J zcL=>[(0,(.func (.yield z7V) #[] #[])),(1,(.pointer (some zaK))),(16,(.slice zcJ z2h.length zcK)),(17,(.int .i64 ((z2h.length : Nat) : Int))),(18,(.int .i64 z3A))]) (fun zhF z3A z5J zcL=>[z1W zcL z5J]) (fun zhF z3A z5J zcL=>zhF) ⟨yz,0,zeK.2,zCL⟩ ⟨h,zCM⟩ (.r5 rfl rfl rfl rfl rfl) (.cons .here .nil) ?_)))))))))
   rintro zhF z3A z5J zcL ⟨h,zCN⟩
   obtain ⟨zuF,rfl⟩:=y6Y h
   rw [y1x] at h
   refine WC.b (WC.a (WL.pu rfl (WL.nil (WX.a (WC.b (WC.cond rfl (fun zuQ=>?_) (fun zuQ=>?_)))))))
   ·replace h:=yo h zuQ
    refine WC.skip (WX.a ?_)
    obtain ⟨zuG,zOY,h⟩:=y1d h
    refine WC.y4L (fun (z8z : zp) (zhG : z3B)=>(zuG z8z = some r) ∧ (z6h zhG z8z)) (fun z8z zhG=>[(0,(.func (.yield z7V) #[] #[])),(1,(.pointer (some zaK))),(16,(.slice zcJ z2h.length zcK)),(17,(.int .i64 ((z2h.length : Nat) : Int))),(18,(.int .i64 z3A))]) (fun z8z zhG=>[z1W zhG z8z]) ?_ ?_
    ·skip
     refine WC.block (WC.b ?_)
     obtain ⟨zOZ,h⟩:=yn h
     refine WC.a (WL.znth (dd:=20) rfl rfl (Z:=Z) (Pr:=(y1T Z)) z7n rfl rfl zOT zOZ ?_)
     rintro zYk zYl zP0 zYm ⟨zYn,zYo,rfl,zP1⟩
     refine WL.qA 21 (yc zbb rfl (y57 hz.pv zP0 rfl)) (WL.pu rfl (WL.nil (WX.a (WC.b ?_))))
     obtain ⟨z24,zP2,h⟩:=z6 h
     refine WC.a (WL.pu rfl (WL.y4b (dd:=24) rfl rfl rfl (z8 Tryz.call153 (.cons rfl .nil)) .nil (cc hz .nil fun w pz ho=>y6W _ _ _ _ _ zP2 w pz zP1) ?_))
     rintro zCO znG _
     refine WL.pu rfl (WL.pu rfl (WL.pu rfl (WL.pu rfl (WL.pu rfl (WL.nil (WX.a (WC.b (WC.a (WL.pu rfl (WL.qA 28 (yG Tryz.underlying175 rfl) (WL.pu rfl (WL.nil (WX.a ?_)))))))))))))
     obtain ⟨zaF,zP3,h⟩:=y1d h
     refine WC.y8E (fun (z8A : zp) (zhH : z3B)=>(zaF z8A = some r) ∧ (z6h zhH z8A)) (fun z8A zhH=>[(0,(.func (.yield z7V) #[] #[])),(1,(.pointer (some zaK))),(16,(.slice zcJ z2h.length zcK)),(17,(.int .i64 ((z2h.length : Nat) : Int))),(18,(.int .i64 z3A))]) (fun z8A zhH=>[z1W zhH z8A]) ?_ ?_
     ·skip
      refine WC.block (WC.y5y (fun (zhI : Nat) (z2t : Int) (z4Z : zp) (z8D : z3B)=>(y1w zp z24 z1P zaF zhI z2t z4Z = some r) ∧ (z6h z8D z4Z)) (fun zhI z2t z4Z z8D=>[(0,(.func (.yield z7V) #[] #[])),(1,(.pointer (some zaK))),(16,(.slice zcJ z2h.length zcK)),(17,(.int .i64 ((z2h.length : Nat) : Int))),(18,(.int .i64 z3A)),(27,(.slice zCO z24.1.length znG)),(28,(.int .i64 ((z24.1.length : Nat) : Int))),(29,(.int .i64 z2t))]) (fun zhI z2t z4Z z8D=>[row (.slice zCO z24.1.length znG) 132 2 (z24.1.flatMap yu),z1W z8D z4Z]) (fun zhI z2t z4Z z8D=>zhI) ⟨yz,0,z5J,zcL⟩ ⟨h,zCN⟩ (.r8 rfl rfl rfl rfl rfl rfl rfl rfl) (.s2 .here .here) ?_)
      rintro zhI z2t z4Z z8D ⟨h,zCP⟩
      obtain ⟨zuC,rfl⟩:=y6X h
      rw [y1w] at h
      refine WC.b (WC.a (WL.pu rfl (WL.nil (WX.a (WC.b (WC.cond rfl (fun zuR=>?_) (fun zuR=>?_)))))))
      ·replace h:=yo h zuR
       refine WC.skip (WX.a (WC.b (WC.block (WC.b ?_))))
       obtain ⟨zkN,h⟩:=yn h
       refine WC.a (WL.know (fun w hw=>Hp.y2j .here hw (by intro hz'; have:=zkN; rw [hz'] at this; omega)) ?_)
       rintro ⟨zCQ,rfl⟩
       refine WL.qA 31 (yV z1H rfl rfl zkN.1 zkN.2 y32) (WL.qA 32 (yT (cs:=(yu (nth z24.1 z2t))) zb rfl rfl (y49 .here (y3y (enc:=yu) (l:=z24.1) (i:=z2t) (sz:=2) (fun _=>rfl) zkN.1 zkN.2))) (WL.nA 8 (yw (cs:=[(.int .i64 0),(.int .i64 0)]) zH rfl) ?_))
       intro zP4 _
       refine WL.yj rfl rfl (yl zq rfl rfl rfl .here rfl rfl rfl) (WL.nil (WX.a (WC.b ?_)))
       obtain ⟨zCF,zP5,h⟩:=z6 h
       obtain ⟨zuD,zP6,h⟩:=z6 h
       obtain ⟨z8y,zP7,h⟩:=z6 h
       obtain ⟨zcH,zCR,h⟩:=z6 h
       refine WC.a (WL.pu rfl (WL.qA 34 (yf zb rfl (yh .here) rfl) (WL.cA 35 (z8 Tryz.call46 (.cons rfl .nil)) .nil (cc hz .nil fun w pz ho=>y5C _ _ _ zP5 w pz ) (WL.cA 36 (z8 Tryz.call145 (.cons rfl .nil)) .nil (cc hz .nil fun w pz ho=>y2J _ _ _ zP6 w pz ) (WL.yield (dd:=37) (x:=zuD) (h:=()) (g:=z8D) (s:=z4Z) (b:=z8y.1) (s':=z8y.2) zkM rfl rfl rfl (.cons rfl .nil) ((.cons .h2 .nil) : Sel _ [z1W z8D z4Z] _) zP7 zCP (fun w hw=>hz.call hw ((.cons .h2 .nil) : Sel _ [z1W z8D z4Z] _)) ?_)))))
       intro znH zCS
       refine WL.pu rfl (WL.pu rfl (WL.yb3 (fun (zeL : z3B)=>z6h zeL zcH.2) (fun (zeL : z3B)=>[(0,(.func (.yield z7V) #[] #[])),(1,(.pointer (some zaK))),(16,(.slice zcJ z2h.length zcK)),(17,(.int .i64 ((z2h.length : Nat) : Int))),(18,(.int .i64 z3A)),(27,(.slice (some ⟨zCQ,0,none⟩) z24.1.length znG)),(28,(.int .i64 ((z24.1.length : Nat) : Int))),(29,(.int .i64 z2t)),(46,(.bool zcH.1))]) (fun (zeL : z3B)=>[z1W zeL zcH.2,stb zP4 132 [(.int .i64 ((nth z24.1 z2t).fN)),(.int .i64 ((nth z24.1 z2t).fD))],row (.slice (some ⟨zCQ,0,none⟩) z24.1.length znG) 132 2 (z24.1.flatMap yu)]) 7 ?_ (fun zeL zCT=>?_)))
       ·rcases Bool.eq_false_or_eq_true (!z8y.1) with hb' | hb'
        ·have zCU:=hb'; clear hb'
         have zuS:=yo zCR zCU
         replace zuS:=Option.some.inj zuS
         refine WL.pin (i:=39) rfl zCU (WL.e rfl rfl rfl (WL.e rfl rfl rfl (WL.e rfl rfl rfl (WL.e rfl rfl rfl (WL.e rfl rfl rfl (WL.e rfl rfl rfl (WL.pu rfl ?_)))))))
         subst zuS
         exact WL.y5S znH zCS (.r9 rfl rfl rfl rfl rfl rfl rfl rfl rfl) (.s3 .here .here .here)
        ·have zCV:=hb'; clear hb'
         have zaL:=yp zCR zCV
         obtain ⟨zCG,zP8,zaL⟩:=z6 zaL
         obtain ⟨zuE,zP9,zaL⟩:=z6 zaL
         obtain ⟨zkH,zPa,zaL⟩:=z6 zaL
         replace zaL:=Option.some.inj zaL
         refine WL.pin (i:=39) rfl zCV (WL.pu rfl (WL.qA 41 (yf zb rfl (yh .h1) rfl) (WL.cA 42 (z8 Tryz.call156 (.cons rfl .nil)) .nil (cc hz .nil fun w pz ho=>y8z _ _ _ zP8 w pz ) (WL.cA 43 (z8 Tryz.call145 (.cons rfl .nil)) .nil (cc hz .nil fun w pz ho=>y2J _ _ _ zP9 w pz ) (WL.yield (dd:=44) (x:=zuE) (h:=()) (g:=znH) (s:=z8y.2) (b:=zkH.1) (s':=zkH.2) zkM rfl rfl rfl (.cons rfl .nil) ((.cons .here .nil) : Sel _ [z1W znH z8y.2] _) zPa zCS (fun w hw=>hz.call hw ((.cons .here .nil) : Sel _ [z1W znH z8y.2] _)) ?_)))))
         intro zPb zPc
         refine WL.pu rfl (WL.pu rfl ?_)
         subst zaL
         exact WL.y5S zPb zPc (.r9 rfl rfl rfl rfl rfl rfl rfl rfl rfl) (.s3 .here .here .here)
       ·skip
        refine WL.nil (WX.a (WC.cond rfl (fun zuT=>?_) (fun zuT=>?_)))
        ·replace h:=yo h zuT
         refine WC.ret (WX.yt (WX.yd (WX.yd (WX.yt (WX.yd (WX.yt (WX.yd (WX.yd (WX.yt (WX.yd ?_))))))))))
         obtain rfl:=Option.some.inj h
         refine WX.ye Tryz.results155 .nil (fun w hw=>?_)
         exact ⟨zeL,y7f,zCT,hw.sub (.cons .here .nil)⟩
        ·replace h:=yp h zuT
         refine WC.skip (WX.yk (WX.a (WC.a (WL.pu rfl (WL.pu rfl (WL.nil ?_))))))
         exact WX.round ⟨zuC,(i64 (z2t + 1)),zcH.2,zeL⟩ ⟨h,zCT⟩ (Nat.lt_succ_self _) (.r8 rfl rfl rfl rfl rfl rfl rfl rfl) (.s2 .h2 .here)
      ·replace h:=yp h zuR
       refine WC.exit (WX.yg (WX.yg (WX.yA ?_)))
       exact WX.mid ⟨z4Z,z8D⟩ ⟨h,zCP⟩ (.r5 rfl rfl rfl rfl rfl) (.cons .h1 .nil)
     ·rintro z8A zhH ⟨h,zPd⟩
      replace h:=(zP3 z8A).symm.trans h
      refine WX.yk ?_
      exact WX.mid ⟨z8A,zhH⟩ ⟨h,zPd⟩ (.r5 rfl rfl rfl rfl rfl) (.cons .here .nil)
    ·rintro z8z zhG ⟨h,zPe⟩
     replace h:=(zOY z8z).symm.trans h
     refine WC.a (WL.pu rfl (WL.pu rfl (WL.nil ?_)))
     exact WX.round ⟨zuF,(i64 (z3A + 1)),z8z,zhG⟩ ⟨h,zPe⟩ (Nat.lt_succ_self _) (.r5 rfl rfl rfl rfl rfl) (.cons .here .nil)
   ·replace h:=yp h zuQ
    refine WC.exit (WX.yg (WX.yg (WX.yA ?_)))
    exact WX.mid ⟨z5J,zcL⟩ ⟨h,zCN⟩ (.r2 rfl rfl) (.cons .here .nil)
  ·rintro z8C zhE ⟨h,zPf⟩
   replace h:=(zOX z8C).symm.trans h
   refine WC.b (WC.a (WL.qA 49 (ya ydA rfl rfl) (WL.qA 50 (yc z7o rfl (y1k hz.pv zCJ rfl)) (WL.qA 51 (yG Tryz.underlying175 rfl) (WL.pu rfl (WL.nil (WX.a ?_)))))))
   obtain ⟨zaH,zPg,h⟩:=y1d h
   refine WC.y8E (fun (zaI : zp) (zhJ : z3B)=>(zaH zaI = some r) ∧ (z6h zhJ zaI)) (fun zaI zhJ=>[]) (fun zaI zhJ=>[z1W zhJ zaI]) ?_ ?_
   ·skip
    refine WC.block (WC.y5y (fun (zhK : Nat) (z32 : Int) (z52 : zp) (z8E : z3B)=>(y1y zp z2u z1P zaH zhK z32 z52 = some r) ∧ (z6h z8E z52)) (fun zhK z32 z52 z8E=>[(0,(.func (.yield z7V) #[] #[])),(50,(.slice zkK z2u.length zkL)),(51,(.int .i64 ((z2u.length : Nat) : Int))),(52,(.int .i64 z32))]) (fun zhK z32 z52 z8E=>[z1W z8E z52]) (fun zhK z32 z52 z8E=>zhK) ⟨yz,0,z8C,zhE⟩ ⟨h,zPf⟩ (.r4 rfl rfl rfl rfl) (.cons .here .nil) ?_)
    rintro zhK z32 z52 z8E ⟨h,zCW⟩
    obtain ⟨zuH,rfl⟩:=y6Z h
    rw [y1y] at h
    refine WC.b (WC.a (WL.pu rfl (WL.nil (WX.a (WC.b (WC.cond rfl (fun zuU=>?_) (fun zuU=>?_)))))))
    ·replace h:=yo h zuU
     refine WC.skip (WX.a (WC.b (WC.block (WC.b ?_))))
     obtain ⟨zPh,h⟩:=yn h
     refine WC.a (WL.znth (dd:=54) rfl rfl (Z:=Z) (Pr:=(fun r x=>r = yu x)) z1H rfl rfl zOU zPh ?_)
     rintro zYp zYq zPi zYr rfl
     refine WL.qA 55 (yf zb rfl (y2v hz.pv zPi) rfl) (WL.nA 10 (yw (cs:=[(.int .i64 0),(.int .i64 0)]) zH rfl) ?_)
     intro zPj _
     refine WL.yj rfl rfl (yl zq rfl rfl rfl .here rfl rfl rfl) (WL.nil (WX.a (WC.b ?_)))
     obtain ⟨zCH,zPk,h⟩:=z6 h
     obtain ⟨zuI,zPl,h⟩:=z6 h
     obtain ⟨z8B,zPm,h⟩:=z6 h
     obtain ⟨zcI,zCX,h⟩:=z6 h
     refine WC.a (WL.pu rfl (WL.qA 57 (yf zb rfl (yh .here) rfl) (WL.cA 58 (z8 Tryz.call46 (.cons rfl .nil)) .nil (cc hz .nil fun w pz ho=>y5C _ _ _ zPk w pz ) (WL.cA 59 (z8 Tryz.call145 (.cons rfl .nil)) .nil (cc hz .nil fun w pz ho=>y2J _ _ _ zPl w pz ) (WL.yield (dd:=60) (x:=zuI) (h:=()) (g:=z8E) (s:=z52) (b:=z8B.1) (s':=z8B.2) zkM rfl rfl rfl (.cons rfl .nil) ((.cons .h1 .nil) : Sel _ [z1W z8E z52] _) zPm zCW (fun w hw=>hz.call hw ((.cons .h1 .nil) : Sel _ [z1W z8E z52] _)) ?_)))))
     intro znI zCY
     refine WL.pu rfl (WL.pu rfl (WL.yb3 (fun (zeM : z3B)=>z6h zeM zcI.2) (fun (zeM : z3B)=>[(0,(.func (.yield z7V) #[] #[])),(50,(.slice zkK z2u.length zkL)),(51,(.int .i64 ((z2u.length : Nat) : Int))),(52,(.int .i64 z32)),(69,(.bool zcI.1))]) (fun (zeM : z3B)=>[z1W zeM zcI.2,stb zPj 132 [(.int .i64 ((nth z2u z32).fN)),(.int .i64 ((nth z2u z32).fD))]]) 7 ?_ (fun zeM zCZ=>?_)))
     ·rcases Bool.eq_false_or_eq_true (!z8B.1) with hb' | hb'
      ·have zD0:=hb'; clear hb'
       have zuV:=yo zCX zD0
       replace zuV:=Option.some.inj zuV
       refine WL.pin (i:=62) rfl zD0 (WL.e rfl rfl rfl (WL.e rfl rfl rfl (WL.e rfl rfl rfl (WL.e rfl rfl rfl (WL.e rfl rfl rfl (WL.e rfl rfl rfl (WL.pu rfl ?_)))))))
       subst zuV
       exact WL.y5S znI zCY (.r5 rfl rfl rfl rfl rfl) (.s2 .here .here)
      ·have zD1:=hb'; clear hb'
       have zaM:=yp zCX zD1
       obtain ⟨zCI,zPn,zaM⟩:=z6 zaM
       obtain ⟨zuJ,zPo,zaM⟩:=z6 zaM
       obtain ⟨zkI,zPp,zaM⟩:=z6 zaM
       replace zaM:=Option.some.inj zaM
       refine WL.pin (i:=62) rfl zD1 (WL.pu rfl (WL.qA 64 (yf zb rfl (yh .h1) rfl) (WL.cA 65 (z8 Tryz.call156 (.cons rfl .nil)) .nil (cc hz .nil fun w pz ho=>y8z _ _ _ zPn w pz ) (WL.cA 66 (z8 Tryz.call145 (.cons rfl .nil)) .nil (cc hz .nil fun w pz ho=>y2J _ _ _ zPo w pz ) (WL.yield (dd:=67) (x:=zuJ) (h:=()) (g:=znI) (s:=z8B.2) (b:=zkI.1) (s':=zkI.2) zkM rfl rfl rfl (.cons rfl .nil) ((.cons .here .nil) : Sel _ [z1W znI z8B.2] _) zPp zCY (fun w hw=>hz.call hw ((.cons .here .nil) : Sel _ [z1W znI z8B.2] _)) ?_)))))
       intro zPq zPr
       refine WL.pu rfl (WL.pu rfl ?_)
       subst zaM
       exact WL.y5S zPq zPr (.r5 rfl rfl rfl rfl rfl) (.s2 .here .here)
     ·skip
      refine WL.nil (WX.a (WC.cond rfl (fun zuW=>?_) (fun zuW=>?_)))
      ·replace h:=yo h zuW
       refine WC.ret (WX.yt (WX.yd (WX.yd (WX.yt (WX.yd ?_)))))
       obtain rfl:=Option.some.inj h
       refine WX.ye Tryz.results155 .nil (fun w hw=>?_)
       exact ⟨zeM,y7f,zCZ,hw.sub (.cons .here .nil)⟩
      ·replace h:=yp h zuW
       refine WC.skip (WX.yk (WX.a (WC.a (WL.pu rfl (WL.pu rfl (WL.nil ?_))))))
       exact WX.round ⟨zuH,(i64 (z32 + 1)),zcI.2,zeM⟩ ⟨h,zCZ⟩ (Nat.lt_succ_self _) (.r4 rfl rfl rfl rfl) (.cons .here .nil)
    ·replace h:=yp h zuU
     refine WC.exit (WX.yg (WX.yg (WX.yA ?_)))
     exact WX.mid ⟨z52,z8E⟩ ⟨h,zCW⟩ .nil (.cons .here .nil)
   ·rintro zaI zhJ ⟨h,zPs⟩
    replace h:=(zPg zaI).symm.trans h
    obtain rfl:=Option.some.inj h
    refine WX.y4Q Tryz.results155 .nil (fun w hw=>?_)
    exact ⟨zhJ,y7f,zPs,hw.sub (.cons .here .nil)⟩
def y44 (zeN : z18) (zaN : z1) (zkO : List (List z2)) (z5o : zSv) : Option (z1 × z18) :=
 (y30 zeN zkO zaN).bind fun zeO=>(y1i zaN z5o.fL).bind fun zD2=>if decide (zD2 ≤ 0) then some (zeO.1,zeO.2) else (y12 zeO.2 (fun (y0 : z1) (y1 : z1)=>y2b y0 y1) zaN z5o.fL).bind fun zuX=>(y12 zuX.2 (fun (y0 : z1) (y1 : z1)=>y3b y0 y1) z5o.fRate zuX.1).bind fun zuY=>(y12 zuY.2 (fun (y0 : z1) (y1 : z1)=>y2b y0 y1) zeO.1 zuY.1).bind fun zuZ=>some (zuZ.1,zuZ.2)
theorem ya8 (Z : Zp) (zhL : Nat) (zD3 : Addr) (zD4 : Option Addr) (zD5 : Nat) (zD6 : Addr) (zeN : z18) (zaN : z1) (zkO : List (List z2)) (z5o : zSv) (r : z1 × z18)
  (h : y44 zeN zaN zkO z5o = some r) (w₀ : World) (hz : PZ (fps [stb zhL 225 [(.int .i64 zeN.fE)]]) w₀ Z)
  (zPt : ZS Z 1 (y1T Z) zD4 zD5 zkO)
  (zPu : ZC Z zD3 [(.slice zD4 zkO.length zD5)])
  (zv0 : ZC Z zD6 [(.int .i64 z5o.fRate.fN),(.int .i64 z5o.fRate.fD),(.int .i64 z5o.fL.fN),(.int .i64 z5o.fL.fD)])
  (hown : Hp (fps [stb zhL 225 [(.int .i64 zeN.fE)]]) w₀ w₀ [stb zhL 225 [(.int .i64 zeN.fE)]]) :
  Calls Tryz.prog 78 #[(.pointer (some ⟨zhL,0,none⟩)),(.agg #[(.int .i64 zaN.fN),(.int .i64 zaN.fD)]),(.pointer (some zD3)),(.pointer (some zD6))] w₀ fun e w'=>e = .returned (.agg #[(.int .i64 r.1.fN),(.int .i64 r.1.fD)]) ∧ Hp (fps [stb zhL 225 [(.int .i64 zeN.fE)]]) w₀ w' [stb zhL 225 [(.int .i64 r.2.fE)]]:=by
 unfold y44 at h
 refine Calls.oh4 Tryz.func78 Tryz.ntmps78 hown ?_
 refine WC.b (WC.a (WL.nA 5 (yH (cs:=[(.int .i64 zaN.fN),(.int .i64 zaN.fD)]) rfl rfl) ?_))
 intro zYs _
 refine WL.nA 6 (yw (cs:=[(.int .i64 0),(.int .i64 0)]) zH rfl) ?_
 intro zYt _
 refine WL.nil (WX.a (WC.b ?_))
 obtain ⟨zeO,zPv,h⟩:=z6 h
 refine WC.a (WL.pu rfl (WL.qA 9 (yc z6A rfl (y57 hz.pv zPu rfl)) (WL.qA 10 (yf zb rfl (yh .h1) rfl) (WL.cA 11 (z8 Tryz.call76 (.r3 rfl rfl rfl)) (.cons .h2 .nil) (cc hz (.cons .h2 .nil) fun w pz ho=>y7t _ _ _ _ _ _ _ _ zPv w pz zPt ho) (WL.nA 7 (yw (cs:=[(.int .i64 0),(.int .i64 0)]) zH rfl) ?_)))))
 intro zPw _
 refine WL.yj rfl rfl (yl zq rfl rfl rfl .here rfl rfl rfl) (WL.nil (WX.a (WC.b (WC.b ?_))))
 obtain ⟨zD2,zPx,h⟩:=z6 h
 refine WC.a (WL.qA 12 (yf zb rfl (yh .h3) rfl) (WL.qA 13 (ya y7W rfl rfl) (WL.qA 14 (yT (cs:=[(.int .i64 z5o.fL.fN),(.int .i64 z5o.fL.fD)]) zb rfl rfl (y9u (off:=2) (s:=2) hz.pv zv0 rfl)) (WL.cA 15 (z8 Tryz.call79 (.r2 rfl rfl)) .nil (cc hz .nil fun w pz ho=>y4d _ _ _ _ zPx w pz ) (WL.pu rfl (WL.nil (WX.a (WC.cond rfl (fun zv1=>?_) (fun zv1=>?_)))))))))
 ·replace h:=yo h zv1
  refine WC.b (WC.a (WL.qA 17 (yf zb rfl (yh .here) rfl) (WL.yj rfl rfl (yl zq rfl rfl rfl .h2 rfl rfl rfl) (WL.nil (WX.a (WC.ret (WX.yd ?_)))))))
  obtain rfl:=Option.some.inj h
  refine WX.ye Tryz.results78 (.agg rfl zb rfl (yh .here) .nil) (fun w hw=>?_)
  exact ⟨yC rfl,hw.sub (.cons .h2 .nil)⟩
 ·replace h:=yp h zv1
  refine WC.skip (WX.a (WC.b ?_))
  obtain ⟨zuX,zPy,h⟩:=z6 h
  obtain ⟨zuY,zPz,h⟩:=z6 h
  obtain ⟨zuZ,zPA,h⟩:=z6 h
  refine WC.yO (fun i=>[9,10,11,12].contains i) [stb zPw 132 [(.int .i64 zeO.1.fN),(.int .i64 zeO.1.fD)]] rfl (WD.pA 0 18 rfl (fun _=>q_m rfl) (WD.sA 1 19 rfl (Sin.of (.cons .here .nil)) (yf zb rfl (yh .here) rfl) (WD.pA 2 20 rfl (fun _=>q_m rfl) (WD.pA 3 21 rfl (fun _=>ya y7V rfl rfl) (WD.sA 4 22 rfl (Sin.of (.cons .here .nil)) (yT (cs:=[(.int .i64 z5o.fRate.fN),(.int .i64 z5o.fRate.fD)]) zb rfl rfl (y9u (off:=0) (s:=2) hz.pv zv0 rfl)) (WD.pA 5 23 rfl (fun _=>q_m rfl) (WD.qA 6 24 rfl (yf zb rfl (yh .h3) rfl) (WD.pA 7 25 rfl (fun _=>ya y7W rfl rfl) (WD.qA 8 26 rfl (yT (cs:=[(.int .i64 z5o.fL.fN),(.int .i64 z5o.fL.fD)]) zb rfl rfl (y9u (off:=2) (s:=2) hz.pv zv0 rfl)) (WD.call0 (i:=9) (dd:=27) rfl (by kernel_rfl) rfl rfl rfl (.inl ⟨rfl,(Sin.of (.cons .h1 .nil))⟩) (z8 Tryz.call73 (.r4 rfl rfl rfl rfl)) (.cons .h1 .nil) (cc hz (.cons .h1 .nil) fun w pz ho=>Calls.mono (y2l _ _ (z5C:=74) (z6P:=[]) _ (z6a:=(fun (y0 : z1) (y1 : z1)=>y2b y0 y1)) _ _ _ zPy w pz Tryz.call74 (fun w' hz' y0 y1  r  hr=>y8d _ _ _ _ hr w' hz' ) ho) (fun _ _ h'=>⟨h'.1,trivial,h'.2⟩)) ?_))))))))))
  intro _
  refine WD.call0 (i:=10) (dd:=28) rfl (by kernel_rfl) rfl rfl rfl (.inl ⟨rfl,(Sin.of (.cons .h1 .nil))⟩) (z8 Tryz.call73 (.r4 rfl rfl rfl rfl)) (.cons .here .nil) (cc hz (.cons .here .nil) fun w pz ho=>Calls.mono (y2l _ _ (z5C:=70) (z6P:=[]) _ (z6a:=(fun (y0 : z1) (y1 : z1)=>y3b y0 y1)) _ _ _ zPz w pz Tryz.call70 (fun w' hz' y0 y1  r  hr=>yaQ _ _ _ _ hr w' hz' ) ho) (fun _ _ h'=>⟨h'.1,trivial,h'.2⟩)) ?_
  intro _
  refine WD.call0 (i:=11) (dd:=29) rfl (by kernel_rfl) rfl rfl rfl (.inl ⟨rfl,(Sin.of (.cons .h1 .nil))⟩) (z8 Tryz.call73 (.r4 rfl rfl rfl rfl)) (.cons .here .nil) (cc hz (.cons .here .nil) fun w pz ho=>Calls.mono (y2l _ _ (z5C:=74) (z6P:=[]) _ (z6a:=(fun (y0 : z1) (y1 : z1)=>y2b y0 y1)) _ _ _ zPA w pz Tryz.call74 (fun w' hz' y0 y1  r  hr=>y8d _ _ _ _ hr w' hz' ) ho) (fun _ _ h'=>⟨h'.1,trivial,h'.2⟩)) ?_
  intro _
  refine WD.y3l (i:=12) rfl (by kernel_rfl) rfl rfl rfl (by kernel_rfl) (yl zq rfl rfl rfl .h2 rfl rfl rfl) (WD.done (by kernel_rfl) (WX.a (WC.ret ?_)))
  obtain rfl:=Option.some.inj h
  refine WX.ye Tryz.results78 (.agg rfl zb rfl (yh .here) .nil) (fun w hw=>?_)
  exact ⟨yC rfl,hw.sub (.cons .h1 .nil)⟩
def y2s (z6i : List (List z2)) (z5p : zSv) (zaO : z1) (z3h : List z1) (znJ : Int) : Option (Bool × (Nat × List z1 × Int)) :=
 (y44 (⟨znJ⟩ : z18) zaO z6i z5p).bind fun z6j=>(if decide (((z3h.length : Nat) : Int) = 0) then some true else chk ((0 : Int) ≤ 0 ∧ 0 < ((z3h.length : Nat) : Int)) ((y1i z6j.1 (⟨((nth z3h 0).fN),((nth z3h 0).fD)⟩ : z1)).bind fun zD7=>some (decide (zD7 > 0)))).bind fun zv2=>if zv2 then some (true,(0,([z6j.1] : List z1),z6j.2.fE)) else some (true,(0,z3h,z6j.2.fE))
def y3B (zY : List (List z2)) (zj : zSv) (z6i : List (List z2)) (z5p : zSv) (zZ : List z1) : Option (z1 × Int) :=
 (y3e zY zj z6i z5p zZ).bind fun zkP=>if decide (zkP ≠ 0) then some ((⟨0,0⟩ : z1),zkP) else jp2 (fun (z8F : Int) (z5K : List z1)=>if decide (z8F ≠ 0) then some ((⟨0,0⟩ : z1),z8F) else chk ((0 : Int) ≤ 0 ∧ 0 < ((z5K.length : Nat) : Int)) (some ((⟨((nth z5K 0).fN),((nth z5K 0).fD)⟩ : z1),0))) fun zv3=>(y3Q zY zj z6i z5p zZ).bind fun zt=>(y2G (Nat × List z1 × Int) (fun (x : z1) (s : Nat × List z1 × Int)=>chk (s.1 = 0) (y2s z6i z5p x s.2.1 s.2.2)) (0,([] : List z1),0) zY (⟨(⟨zt.1,zt.2.1⟩ : z1),(⟨zt.2.2.1,zt.2.2.2⟩ : z1)⟩ : zSv) z6i z5p zZ).bind fun z3C=>zv3 z3C.2.2 z3C.2.1
theorem y9o (Z : Zp) (z1e : Option Addr) (z1f : Nat) (z16 : Addr) (zv4 : Option Addr) (zv5 : Nat) (z17 : Addr) (z1g : Option Addr) (z1h : Nat) (zY : List (List z2)) (zj : zSv) (z6i : List (List z2)) (z5p : zSv) (zZ : List z1) (r : z1 × Int)
  (h : y3B zY zj z6i z5p zZ = some r) (w₀ : World) (hz : PZ [] w₀ Z)
  (zv6 : ZS Z 1 (y1T Z) z1e z1f zY)
  (znK : ZS Z 1 (y1T Z) zv4 zv5 z6i)
  (znL : ZC Z z16 [(.slice zv4 z6i.length zv5)])
  (znM : ZC Z z17 [(.int .i64 z5p.fRate.fN),(.int .i64 z5p.fRate.fD),(.int .i64 z5p.fL.fN),(.int .i64 z5p.fL.fD)])
  (zv7 : ZS Z 2 (fun r x=>r = yu x) z1g z1h zZ) :
  Calls Tryz.prog 77 #[(.agg #[(.slice z1e zY.length z1f),(.int .i64 zj.fRate.fN),(.int .i64 zj.fRate.fD),(.int .i64 zj.fL.fN),(.int .i64 zj.fL.fD),(.func (.func 78) #[] #[(.pointer (some z16)),(.pointer (some z17))]),(.slice z1g zZ.length z1h)])] w₀ fun e w'=>e = .returned (.tuple #[(.agg #[(.int .i64 r.1.fN),(.int .i64 r.1.fD)]),(.int .i64 r.2)]) ∧ Hp [] w₀ w' []:=by
 unfold y3B at h
 refine Calls.y9k (vs:=[(.agg #[(.slice z1e zY.length z1f),(.int .i64 zj.fRate.fN),(.int .i64 zj.fRate.fD),(.int .i64 zj.fL.fN),(.int .i64 zj.fL.fD),(.func (.func 78) #[] #[(.pointer (some z16)),(.pointer (some z17))]),(.slice z1g zZ.length z1h)])]) (pre:=[]) (env:=[(0,(.agg #[(.slice z1e zY.length z1f),(.int .i64 zj.fRate.fN),(.int .i64 zj.fRate.fD),(.int .i64 zj.fL.fN),(.int .i64 zj.fL.fD),(.func (.func 78) #[] #[(.pointer (some z16)),(.pointer (some z17))]),(.slice z1g zZ.length z1h)]))]) Tryz.func77 rfl Tryz.ntmps77 rfl (Hp.nil w₀ _) rfl ?_
 refine WC.b (WC.a (WL.nA 1 (yH (cs:=[(.slice z1e zY.length z1f),(.int .i64 zj.fRate.fN),(.int .i64 zj.fRate.fD),(.int .i64 zj.fL.fN),(.int .i64 zj.fL.fD),(.func (.func 78) #[] #[(.pointer (some z16)),(.pointer (some z17))]),(.slice z1g zZ.length z1h)]) rfl rfl) ?_))
 intro z33 _
 refine WL.nA 2 (yw (cs:=[(.int .i64 0),(.int .i64 0)]) zH rfl) ?_
 intro z3i _
 refine WL.pu rfl (WL.nil (WX.a (WC.b (WC.b ?_))))
 obtain ⟨zkP,zPB,h⟩:=z6 h
 refine WC.a (WL.qA 9 (yf zfo rfl (yh .h1) rfl) (WL.cA 10 (z8 Tryz.call109 (.cons rfl .nil)) .nil (cc hz .nil fun w pz ho=>y8W _ _ _ _ _ _ _ _ _ _ _ _ _ _ _ zPB w pz zv6 znK znL znM zv7) (WL.pu rfl (WL.nil (WX.a (WC.b (WC.a (WL.pu rfl (WL.pu rfl (WL.nil (WX.a (WC.cond rfl (fun zv8=>?_) (fun zv8=>?_)))))))))))))
 ·replace h:=yo h zv8
  refine WC.b (WC.a (WL.qA 13 (yI (v:=(.agg #[(.int .i64 0),(.int .i64 0)])) (Eos.parts (l:=[]) .nil []) (fun _=>by kernel_rfl)) (WL.pu rfl (WL.yj rfl rfl (yl zq rfl rfl rfl .here rfl rfl rfl) (WL.pu rfl (WL.nil (WX.a (WC.ret (WX.yd ?_)))))))))
  obtain rfl:=Option.some.inj h
  refine WX.yaE Tryz.results77 (.agg rfl zb rfl (yh .here) (.tmp rfl .nil)) (fun w hw=>?_)
  exact ⟨y1Z rfl rfl,hw.sub .nil⟩
 ·replace h:=yp h zv8
  refine WC.skip (WX.a (WC.b (WC.a (WL.nA 5 (yw (cs:=[(.int .i64 0)]) zlA rfl) ?_))))
  intro z2v _
  refine WL.nil (WX.a (WC.b (WC.a (WL.nA 6 (yw (cs:=[(.slice none 0 0)]) zof rfl) ?_))))
  intro z2M _
  refine WL.nil (WX.a ?_)
  obtain ⟨zv3,zPC,h⟩:=y3W h
  refine WC.ybq (fun (zkQ : Nat) (z8F : Int) (z5K : List z1) (zkR : Option Addr) (zkS : Nat)=>(zv3 z8F z5K = some r)) (fun (zkQ : Nat) (z8F : Int) (z5K : List z1) (zkR : Option Addr) (zkS : Nat)=>[(2,(.pointer (some ⟨z3i,0,none⟩))),(5,(.pointer (some ⟨z2v,0,none⟩))),(6,(.pointer (some ⟨z2M,0,none⟩)))]) (fun (zkQ : Nat) (z8F : Int) (z5K : List z1) (zkR : Option Addr) (zkS : Nat)=>[stb z3i 132 [(.int .i64 0),(.int .i64 0)],stb z2v 225 [(.int .i64 z8F)],stb z2M 175 [(.slice zkR z5K.length zkS)],row (.slice zkR z5K.length zkS) 132 2 (z5K.flatMap yu),dfr zkQ]) ?_ ?_
  ·skip
   refine WC.b ?_
   obtain ⟨zt,zPD,h⟩:=z6 h
   refine WC.a (WL.qA 15 (yf zfo rfl (yh .h3) rfl) (WL.ycQ (dd:=16) rfl rfl rfl (z8 Tryz.call110 (.cons rfl .nil)) .nil (cc hz .nil fun w pz ho=>y8A _ _ _ _ _ _ _ _ _ _ _ _ _ _ _ zPD w pz zv6 znK znL znM zv7) ?_))
   rintro z3X _
   refine WL.nil (WX.a (WC.block (WC.drop (.s5 .h1 .h1 .h1 .h1 .here) (WC.nilRow 132 2 (WC.rangeFunc (f:=155) (caps:=[(.pointer (some ⟨z3X,0,none⟩))]) rfl Tryz.call155 ?_)))))
   intro zYu zYv z3D z5L z4z znN zPE zPF w hw
   have hw1:=hw.selAll ((.s6 .h3 .h2 .h2 .h2 .h2 .here) : Sel _ [stb z2M 175 [(.slice none (([] : List z1).length) 0)],row (.slice none (([] : List z1).length) 0) 132 2 (([] : List z1).flatMap yu),stb z2v 225 [(.int .i64 0)],stb z3i 132 [(.int .i64 0),(.int .i64 0)],stb z33 177 [(.slice z1e zY.length z1f),(.int .i64 zj.fRate.fN),(.int .i64 zj.fRate.fD),(.int .i64 zj.fL.fN),(.int .i64 zj.fL.fD),(.func (.func 78) #[] #[(.pointer (some z16)),(.pointer (some z17))]),(.slice z1g zZ.length z1h)],blk z3D (z4z .ready none)] _)
   have pz:=(hz.call hw1 ((.cons .here .nil) : Sel [y2c [stb z2M 175 [(.slice none (([] : List z1).length) 0)],row (.slice none (([] : List z1).length) 0) 132 2 (([] : List z1).flatMap yu),stb z2v 225 [(.int .i64 0)],stb z3i 132 [(.int .i64 0),(.int .i64 0)],stb z33 177 [(.slice z1e zY.length z1f),(.int .i64 zj.fRate.fN),(.int .i64 zj.fRate.fD),(.int .i64 zj.fL.fN),(.int .i64 zj.fL.fD),(.func (.func 78) #[] #[(.pointer (some z16)),(.pointer (some z17))]),(.slice z1g zZ.length z1h)],blk z3D (z4z .ready none)],dfr z5L,stb z3X 177 [(.slice z1e zY.length z1f),(.int .i64 zt.1),(.int .i64 zt.2.1),(.int .i64 zt.2.2.1),(.int .i64 zt.2.2.2),(.func (.func 78) #[] #[(.pointer (some z16)),(.pointer (some z17))]),(.slice z1g zZ.length z1h)]] [y2c [stb z2M 175 [(.slice none (([] : List z1).length) 0)],row (.slice none (([] : List z1).length) 0) 132 2 (([] : List z1).flatMap yu),stb z2v 225 [(.int .i64 0)],stb z3i 132 [(.int .i64 0),(.int .i64 0)],stb z33 177 [(.slice z1e zY.length z1f),(.int .i64 zj.fRate.fN),(.int .i64 zj.fRate.fD),(.int .i64 zj.fL.fN),(.int .i64 zj.fL.fD),(.func (.func 78) #[] #[(.pointer (some z16)),(.pointer (some z17))]),(.slice z1g zZ.length z1h)],blk z3D (z4z .ready none)]] [dfr z5L,stb z3X 177 [(.slice z1e zY.length z1f),(.int .i64 zt.1),(.int .i64 zt.2.1),(.int .i64 zt.2.2.1),(.int .i64 zt.2.2.2),(.func (.func 78) #[] #[(.pointer (some z16)),(.pointer (some z17))]),(.slice z1g zZ.length z1h)]])).lend hw1 ((.cons .here .nil) : Sel [y2c [stb z2M 175 [(.slice none (([] : List z1).length) 0)],row (.slice none (([] : List z1).length) 0) 132 2 (([] : List z1).flatMap yu),stb z2v 225 [(.int .i64 0)],stb z3i 132 [(.int .i64 0),(.int .i64 0)],stb z33 177 [(.slice z1e zY.length z1f),(.int .i64 zj.fRate.fN),(.int .i64 zj.fRate.fD),(.int .i64 zj.fL.fN),(.int .i64 zj.fL.fD),(.func (.func 78) #[] #[(.pointer (some z16)),(.pointer (some z17))]),(.slice z1g zZ.length z1h)],blk z3D (z4z .ready none)],dfr z5L,stb z3X 177 [(.slice z1e zY.length z1f),(.int .i64 zt.1),(.int .i64 zt.2.1),(.int .i64 zt.2.2.1),(.int .i64 zt.2.2.2),(.func (.func 78) #[] #[(.pointer (some z16)),(.pointer (some z17))]),(.slice z1g zZ.length z1h)]] [y2c [stb z2M 175 [(.slice none (([] : List z1).length) 0)],row (.slice none (([] : List z1).length) 0) 132 2 (([] : List z1).flatMap yu),stb z2v 225 [(.int .i64 0)],stb z3i 132 [(.int .i64 0),(.int .i64 0)],stb z33 177 [(.slice z1e zY.length z1f),(.int .i64 zj.fRate.fN),(.int .i64 zj.fRate.fD),(.int .i64 zj.fL.fN),(.int .i64 zj.fL.fD),(.func (.func 78) #[] #[(.pointer (some z16)),(.pointer (some z17))]),(.slice z1g zZ.length z1h)],blk z3D (z4z .ready none)]] [dfr z5L,stb z3X 177 [(.slice z1e zY.length z1f),(.int .i64 zt.1),(.int .i64 zt.2.1),(.int .i64 zt.2.2.1),(.int .i64 zt.2.2.2),(.func (.func 78) #[] #[(.pointer (some z16)),(.pointer (some z17))]),(.slice z1g zZ.length z1h)]]) (B:=[stb z3X 177 [(.slice z1e zY.length z1f),(.int .i64 zt.1),(.int .i64 zt.2.1),(.int .i64 zt.2.2.1),(.int .i64 zt.2.2.2),(.func (.func 78) #[] #[(.pointer (some z16)),(.pointer (some z17))]),(.slice z1g zZ.length z1h)]]) (fun _ hx'=>((.cons .h1 .nil) : Sel _ [stb z3X 177 [(.slice z1e zY.length z1f),(.int .i64 zt.1),(.int .i64 zt.2.1),(.int .i64 zt.2.2.1),(.int .i64 zt.2.2.2),(.func (.func 78) #[] #[(.pointer (some z16)),(.pointer (some z17))]),(.slice z1g zZ.length z1h)]] _).mem hx')
   obtain ⟨z3C,zPG,h⟩:=z6 h
   refine Calls.mono (y8f (Z:=_) (z7V:=z3D) (z3B:=(Option Addr × Nat)) (z1W:=(fun (g : Option Addr × Nat) (s : Nat × List z1 × Int)=>y2c ([stb z2M 175 [(.slice g.1 s.2.1.length g.2)],row (.slice g.1 s.2.1.length g.2) 132 2 (s.2.1.flatMap yu),stb z2v 225 [(.int .i64 s.2.2)],stb z3i 132 [(.int .i64 0),(.int .i64 0)],stb z33 177 [(.slice z1e zY.length z1f),(.int .i64 zj.fRate.fN),(.int .i64 zj.fRate.fD),(.int .i64 zj.fL.fN),(.int .i64 zj.fL.fD),(.func (.func 78) #[] #[(.pointer (some z16)),(.pointer (some z17))]),(.slice z1g zZ.length z1h)]] ++ [blk z3D (z4z (rdy (pcs [] s.1)) (pcs [] s.1))]))) (z6h:=(fun (g : Option Addr × Nat) (s : Nat × List z1 × Int)=>True)) (zaJ:=(none,0)) (zaK:=⟨z3X,0,none⟩) (zcJ:=z1e) (zcK:=z1f) (zuL:=z16) (zuM:=zv4) (zuN:=zv5) (zuO:=z17) (zkK:=z1g) (zkL:=z1h) (zp:=(Nat × List z1 × Int)) (z1P:=(fun (x : z1) (s : Nat × List z1 × Int)=>chk (s.1 = 0) (y2s z6i z5p x s.2.1 s.2.2))) (s0_56417:=(0,([] : List z1),0)) (z2h:=zY) (zeI:=(⟨(⟨zt.1,zt.2.1⟩ : z1),(⟨zt.2.2.1,zt.2.2.2⟩ : z1)⟩ : zSv)) (zkJ:=z6i) (zeJ:=z5p) (z2u:=zZ) (r:=z3C) w pz ?_ trivial ((zv6.mono (Zle.left _ _)).weak (fun _ _ h=>y38 (Zle.left _ _) h)) ((znK.mono (Zle.left _ _)).weak (fun _ _ h=>y38 (Zle.left _ _) h)) (znL.mono (Zle.left _ _)) (znM.mono (Zle.left _ _)) (zv7.mono (Zle.left _ _)) ((hw1.lent ((.cons .here .nil) : Sel [y2c [stb z2M 175 [(.slice none (([] : List z1).length) 0)],row (.slice none (([] : List z1).length) 0) 132 2 (([] : List z1).flatMap yu),stb z2v 225 [(.int .i64 0)],stb z3i 132 [(.int .i64 0),(.int .i64 0)],stb z33 177 [(.slice z1e zY.length z1f),(.int .i64 zj.fRate.fN),(.int .i64 zj.fRate.fD),(.int .i64 zj.fL.fN),(.int .i64 zj.fL.fD),(.func (.func 78) #[] #[(.pointer (some z16)),(.pointer (some z17))]),(.slice z1g zZ.length z1h)],blk z3D (z4z .ready none)],dfr z5L,stb z3X 177 [(.slice z1e zY.length z1f),(.int .i64 zt.1),(.int .i64 zt.2.1),(.int .i64 zt.2.2.1),(.int .i64 zt.2.2.2),(.func (.func 78) #[] #[(.pointer (some z16)),(.pointer (some z17))]),(.slice z1g zZ.length z1h)]] [y2c [stb z2M 175 [(.slice none (([] : List z1).length) 0)],row (.slice none (([] : List z1).length) 0) 132 2 (([] : List z1).flatMap yu),stb z2v 225 [(.int .i64 0)],stb z3i 132 [(.int .i64 0),(.int .i64 0)],stb z33 177 [(.slice z1e zY.length z1f),(.int .i64 zj.fRate.fN),(.int .i64 zj.fRate.fD),(.int .i64 zj.fL.fN),(.int .i64 zj.fL.fD),(.func (.func 78) #[] #[(.pointer (some z16)),(.pointer (some z17))]),(.slice z1g zZ.length z1h)],blk z3D (z4z .ready none)]] [dfr z5L,stb z3X 177 [(.slice z1e zY.length z1f),(.int .i64 zt.1),(.int .i64 zt.2.1),(.int .i64 zt.2.2.1),(.int .i64 zt.2.2.2),(.func (.func 78) #[] #[(.pointer (some z16)),(.pointer (some z17))]),(.slice z1g zZ.length z1h)]]) (B:=[stb z3X 177 [(.slice z1e zY.length z1f),(.int .i64 zt.1),(.int .i64 zt.2.1),(.int .i64 zt.2.2.1),(.int .i64 zt.2.2.2),(.func (.func 78) #[] #[(.pointer (some z16)),(.pointer (some z17))]),(.slice z1g zZ.length z1h)]]) (fun _ hx'=>((.cons .h1 .nil) : Sel _ [stb z3X 177 [(.slice z1e zY.length z1f),(.int .i64 zt.1),(.int .i64 zt.2.1),(.int .i64 zt.2.2.1),(.int .i64 zt.2.2.2),(.func (.func 78) #[] #[(.pointer (some z16)),(.pointer (some z17))]),(.slice z1g zZ.length z1h)]] _).mem hx') (.head _) _).stb) zPG (hw1.owns ((.cons .here .nil) : Sel [y2c [stb z2M 175 [(.slice none (([] : List z1).length) 0)],row (.slice none (([] : List z1).length) 0) 132 2 (([] : List z1).flatMap yu),stb z2v 225 [(.int .i64 0)],stb z3i 132 [(.int .i64 0),(.int .i64 0)],stb z33 177 [(.slice z1e zY.length z1f),(.int .i64 zj.fRate.fN),(.int .i64 zj.fRate.fD),(.int .i64 zj.fL.fN),(.int .i64 zj.fL.fD),(.func (.func 78) #[] #[(.pointer (some z16)),(.pointer (some z17))]),(.slice z1g zZ.length z1h)],blk z3D (z4z .ready none)],dfr z5L,stb z3X 177 [(.slice z1e zY.length z1f),(.int .i64 zt.1),(.int .i64 zt.2.1),(.int .i64 zt.2.2.1),(.int .i64 zt.2.2.2),(.func (.func 78) #[] #[(.pointer (some z16)),(.pointer (some z17))]),(.slice z1g zZ.length z1h)]] [y2c [stb z2M 175 [(.slice none (([] : List z1).length) 0)],row (.slice none (([] : List z1).length) 0) 132 2 (([] : List z1).flatMap yu),stb z2v 225 [(.int .i64 0)],stb z3i 132 [(.int .i64 0),(.int .i64 0)],stb z33 177 [(.slice z1e zY.length z1f),(.int .i64 zj.fRate.fN),(.int .i64 zj.fRate.fD),(.int .i64 zj.fL.fN),(.int .i64 zj.fL.fD),(.func (.func 78) #[] #[(.pointer (some z16)),(.pointer (some z17))]),(.slice z1g zZ.length z1h)],blk z3D (z4z .ready none)]] [dfr z5L,stb z3X 177 [(.slice z1e zY.length z1f),(.int .i64 zt.1),(.int .i64 zt.2.1),(.int .i64 zt.2.2.1),(.int .i64 zt.2.2.2),(.func (.func 78) #[] #[(.pointer (some z16)),(.pointer (some z17))]),(.slice z1g zZ.length z1h)]]))) ?_
   ·skip
    refine yaD (LI:=(fun (g : Option Addr × Nat) (s : Nat × List z1 × Int)=>[stb z2M 175 [(.slice g.1 s.2.1.length g.2)],row (.slice g.1 s.2.1.length g.2) 132 2 (s.2.1.flatMap yu),stb z2v 225 [(.int .i64 s.2.2)],stb z3i 132 [(.int .i64 0),(.int .i64 0)],stb z33 177 [(.slice z1e zY.length z1f),(.int .i64 zj.fRate.fN),(.int .i64 zj.fRate.fD),(.int .i64 zj.fL.fN),(.int .i64 zj.fL.fD),(.func (.func 78) #[] #[(.pointer (some z16)),(.pointer (some z17))]),(.slice z1g zZ.length z1h)]])) (pc:=(fun (s : Nat × List z1 × Int)=>pcs [] s.1)) znN zPE zPF (fun _ _=>rfl) (by decide) ?_
    rintro zaO _ ⟨zhM,zhN⟩ ⟨zPH,z3h,znJ⟩ zPI zPJ Fb wb zD8 _ hz
    replace hz:=hz.left
    letI : Rnd:=inR z3D
    obtain ⟨hp0,z6k⟩:=yn zD8
    replace hp0 : zPH = 0:=hp0; subst hp0; clear zD8
    replace z6k : y2s z6i z5p zaO z3h znJ = some (zPI,zPJ):=z6k
    unfold y2s at z6k
    refine WC.restr (env':=[(1,(.pointer (some ⟨z33,0,none⟩))),(12,(.bool (decide (zkP ≠ 0)))),(5,(.pointer (some ⟨z2v,0,none⟩))),(6,(.pointer (some ⟨z2M,0,none⟩))),(17,(.agg #[(.int .i64 zaO.fN),(.int .i64 zaO.fD)]))]) (.r5 rfl rfl rfl rfl rfl) (WC.eqL (L':=[stb z2M 175 [(.slice zhM z3h.length zhN)],row (.slice zhM z3h.length zhN) 132 2 (z3h.flatMap yu),stb z2v 225 [(.int .i64 znJ)],stb z3i 132 [(.int .i64 0),(.int .i64 0)],stb z33 177 [(.slice z1e zY.length z1f),(.int .i64 zj.fRate.fN),(.int .i64 zj.fRate.fD),(.int .i64 zj.fL.fN),(.int .i64 zj.fL.fD),(.func (.func 78) #[] #[(.pointer (some z16)),(.pointer (some z17))]),(.slice z1g zZ.length z1h)],blk z3D (z4z .ready none)]) rfl (WC.a (WL.nA 7 (yw (cs:=[(.int .i64 0),(.int .i64 0)]) zH rfl) ?_)))
    intro zPK _
    refine WL.yj rfl rfl (yl zq rfl rfl rfl .here rfl rfl rfl) (WL.nil (WX.ybD znN .h6 (WC.block (WC.b ?_))))
    obtain ⟨z6j,zPL,z6k⟩:=z6 z6k
    refine WC.a (WL.qA 18 (ya ya4 rfl rfl) (WL.qA 19 (yc zwX rfl (ym .h6 rfl)) (WL.qA 20 (yf zb rfl (yh .h1) rfl) (WL.cA 21 (y2t (l:=[.tmp 5,.tmp 20]) Tryz.call78 rfl (.r2 rfl rfl)) (.cons .h4 .nil) (cc hz (.cons .h4 .nil) fun w pz ho=>ya8 _ _ _ _ _ _ _ _ _ _ _ zPL w pz znK znL znM ho) (WL.nA 8 (yw (cs:=[(.int .i64 0),(.int .i64 0)]) zH rfl) ?_)))))
    intro zPM _
    refine WL.yj rfl rfl (yl zq rfl rfl rfl .here rfl rfl rfl) (WL.nil (WX.a (WC.b ?_)))
    obtain ⟨zv2,zD9,z6k⟩:=z6 z6k
    refine WC.yO (fun i=>[].contains i) [] rfl (WD.qA 0 22 rfl (yc z7o rfl (ym .h4 rfl)) (WD.pA 1 23 rfl (fun _=>yG Tryz.underlying175 rfl) (WD.pA 2 24 rfl (fun _=>y9T rfl rfl) (WD.pA 3 25 rfl (fun _=>q_m rfl) (WD.mid (fuel':=0) [(1,(.pointer (some ⟨z33,0,none⟩))),(12,(.bool (decide (zkP ≠ 0)))),(5,(.pointer (some ⟨z2v,0,none⟩))),(6,(.pointer (some ⟨z2M,0,none⟩))),(17,(.agg #[(.int .i64 zaO.fN),(.int .i64 zaO.fD)])),(7,(.pointer (some ⟨zPK,0,none⟩))),(18,(.pointer (some ⟨z33,5,none⟩))),(19,(.func (.func 78) #[] #[(.pointer (some z16)),(.pointer (some z17))])),(20,(.agg #[(.int .i64 zaO.fN),(.int .i64 zaO.fD)])),(21,(.agg #[(.int .i64 z6j.1.fN),(.int .i64 z6j.1.fD)])),(8,(.pointer (some ⟨zPM,0,none⟩))),(22,(.slice zhM z3h.length zhN)),(23,(.int .i64 ((z3h.length : Nat) : Int))),(24,(.bool (decide (((z3h.length : Nat) : Int) = 0)))),(25,(.bool (decide (((z3h.length : Nat) : Int) = 0)))),(32,(.bool zv2))] (y4h 11 [10,9,8,7,6,5,4,3,2,1,0]) ?_ (fun zDa=>?_))))))
    rotate_left
    ·rcases Bool.eq_false_or_eq_true (decide (((z3h.length : Nat) : Int) = 0)) with hb' | hb'
     ·have zv9:=hb'; clear hb'
      have zva:=yo zD9 zv9
      replace zva:=Option.some.inj zva
      refine WD.pin (i:=25) rfl zv9 (WD.kA 4 26 rfl (WD.kA 5 27 rfl (WD.kA 6 28 rfl (WD.kA 7 29 rfl (WD.kA 8 30 rfl (WD.kA 9 31 rfl (WD.pA 10 32 rfl (fun _=>y3E rfl rfl) (WD.reL (.s8 .here .here .here .here .here .here .here .here) ?_ zDa))))))))
      exact (.cons rfl (.cons rfl (.cons rfl (.cons rfl (.cons rfl (.cons rfl (.cons rfl (.cons rfl (.cons rfl (.cons rfl (.cons rfl (.cons rfl (.cons rfl (.cons rfl (.cons (zB (Eq.symm zv9)) (.cons (zB zva) .nil))))))))))))))))
     ·have zvb:=hb'; clear hb'
      have zeP:=yp zD9 zvb
      obtain ⟨zkT,zeP⟩:=yn zeP
      obtain ⟨zD7,zPN,zeP⟩:=z6 zeP
      replace zeP:=Option.some.inj zeP
      refine WD.pin (i:=25) rfl zvb (WD.qA 4 26 rfl (yf zb rfl (yh .here) rfl) (WD.qA 5 27 rfl (yc z7o rfl (ym .h4 rfl)) (WD.know (fun w hw=>Hp.y2j .h5 hw (by intro hz'; have:=zkT; rw [hz'] at this; omega)) ?_)))
      rintro ⟨zYw,rfl⟩
      refine WD.pA 6 28 rfl (fun _=>yV z1H rfl rfl zkT.1 zkT.2 y32) (WD.qA 7 29 rfl (yT (cs:=(yu (nth z3h 0))) zb rfl rfl (y49 .h5 (y3y (enc:=yu) (l:=z3h) (i:=0) (sz:=2) (fun _=>rfl) zkT.1 zkT.2))) (WD.eA 8 30 rfl (z8 Tryz.call79 (.r2 rfl rfl)) (cc hz .nil fun w pz ho=>y4d _ _ _ _ zPN w pz ) (WD.pA 9 31 rfl (fun _=>ybU rfl rfl) (WD.pA 10 32 rfl (fun _=>y3F rfl rfl) (WD.reL (.s8 .here .here .here .here .here .here .here .here) ?_ zDa)))))
      exact (.cons rfl (.cons rfl (.cons rfl (.cons rfl (.cons rfl (.cons rfl (.cons rfl (.cons rfl (.cons rfl (.cons rfl (.cons rfl (.cons rfl (.cons rfl (.cons rfl (.cons (zB (Eq.symm zvb)) (.cons (zB zeP) .nil))))))))))))))))
    refine WD.done (by kernel_rfl) (WX.a (WC.cond rfl (fun zvc=>?_) (fun zvc=>?_)))
    ·replace z6k:=yo z6k zvc
     refine WC.a (WL.qA 33 (yf zb rfl (yh .here) rfl) (WL.nA 34 (yN (cs:=([z6j.1] : List z1).flatMap yu) z1H (Eos.parts (l:=[.tmp 33]) (.cons rfl .nil) [0]) (fun _=>by kernel_rfl) rfl (by unfold maxLen; omega)) ?_))
     intro zvd _
     refine WL.yj rfl rfl (yl zog rfl rfl rfl .h5 rfl rfl rfl) (WL.nil (WX.yk ?_))
     obtain ⟨rfl,rfl⟩:=y9v z6k
     exact WX.y6L znN .h4 (fun w' hw'=>⟨((some ⟨zvd,0,none⟩),1),rfl,trivial,(hw'.selAll ((.s6 .h1 .h1 .h2 .h4 .h4 .here) : Sel _ [stb z2M 175 [(.slice (some ⟨zvd,0,none⟩) (([z6j.1] : List z1).length) 1)],row (.slice (some ⟨zvd,0,none⟩) (([z6j.1] : List z1).length) 1) 132 2 (([z6j.1] : List z1).flatMap yu),stb z2v 225 [(.int .i64 z6j.2.fE)],stb z3i 132 [(.int .i64 0),(.int .i64 0)],stb z33 177 [(.slice z1e zY.length z1f),(.int .i64 zj.fRate.fN),(.int .i64 zj.fRate.fD),(.int .i64 zj.fL.fN),(.int .i64 zj.fL.fD),(.func (.func 78) #[] #[(.pointer (some z16)),(.pointer (some z17))]),(.slice z1g zZ.length z1h)],blk z3D (z4z .ready none)] _)).sub (.cons .here .nil)⟩)
    ·replace z6k:=yp z6k zvc
     refine WC.skip (WX.yk ?_)
     obtain ⟨rfl,rfl⟩:=y9v z6k
     exact WX.y6L znN .h2 (fun w' hw'=>⟨(zhM,zhN),rfl,trivial,(hw'.selAll ((.s6 .h4 .h4 .h2 .h3 .h3 .here) : Sel _ [stb z2M 175 [(.slice zhM z3h.length zhN)],row (.slice zhM z3h.length zhN) 132 2 (z3h.flatMap yu),stb z2v 225 [(.int .i64 z6j.2.fE)],stb z3i 132 [(.int .i64 0),(.int .i64 0)],stb z33 177 [(.slice z1e zY.length z1f),(.int .i64 zj.fRate.fN),(.int .i64 zj.fRate.fD),(.int .i64 zj.fL.fN),(.int .i64 zj.fL.fD),(.func (.func 78) #[] #[(.pointer (some z16)),(.pointer (some z17))]),(.slice z1g zZ.length z1h)],blk z3D (z4z .ready none)] _)).sub (.cons .here .nil)⟩)
   ·skip
    rintro _ w' ⟨⟨zkU,zkV⟩,rfl,_,hp⟩
    have hp1:=hw1.call ((.cons .here .nil) : Sel [y2c [stb z2M 175 [(.slice none (([] : List z1).length) 0)],row (.slice none (([] : List z1).length) 0) 132 2 (([] : List z1).flatMap yu),stb z2v 225 [(.int .i64 0)],stb z3i 132 [(.int .i64 0),(.int .i64 0)],stb z33 177 [(.slice z1e zY.length z1f),(.int .i64 zj.fRate.fN),(.int .i64 zj.fRate.fD),(.int .i64 zj.fL.fN),(.int .i64 zj.fL.fD),(.func (.func 78) #[] #[(.pointer (some z16)),(.pointer (some z17))]),(.slice z1g zZ.length z1h)],blk z3D (z4z .ready none)],dfr z5L,stb z3X 177 [(.slice z1e zY.length z1f),(.int .i64 zt.1),(.int .i64 zt.2.1),(.int .i64 zt.2.2.1),(.int .i64 zt.2.2.2),(.func (.func 78) #[] #[(.pointer (some z16)),(.pointer (some z17))]),(.slice z1g zZ.length z1h)]] [y2c [stb z2M 175 [(.slice none (([] : List z1).length) 0)],row (.slice none (([] : List z1).length) 0) 132 2 (([] : List z1).flatMap yu),stb z2v 225 [(.int .i64 0)],stb z3i 132 [(.int .i64 0),(.int .i64 0)],stb z33 177 [(.slice z1e zY.length z1f),(.int .i64 zj.fRate.fN),(.int .i64 zj.fRate.fD),(.int .i64 zj.fL.fN),(.int .i64 zj.fL.fD),(.func (.func 78) #[] #[(.pointer (some z16)),(.pointer (some z17))]),(.slice z1g zZ.length z1h)],blk z3D (z4z .ready none)]] [dfr z5L,stb z3X 177 [(.slice z1e zY.length z1f),(.int .i64 zt.1),(.int .i64 zt.2.1),(.int .i64 zt.2.2.1),(.int .i64 zt.2.2.2),(.func (.func 78) #[] #[(.pointer (some z16)),(.pointer (some z17))]),(.slice z1g zZ.length z1h)]]) hp
    have hp2 : Hp _ _ w' [stb z2M 175 [(.slice zkU z3C.2.1.length zkV)],row (.slice zkU z3C.2.1.length zkV) 132 2 (z3C.2.1.flatMap yu),stb z2v 225 [(.int .i64 z3C.2.2)],stb z3i 132 [(.int .i64 0),(.int .i64 0)],stb z33 177 [(.slice z1e zY.length z1f),(.int .i64 zj.fRate.fN),(.int .i64 zj.fRate.fD),(.int .i64 zj.fL.fN),(.int .i64 zj.fL.fD),(.func (.func 78) #[] #[(.pointer (some z16)),(.pointer (some z17))]),(.slice z1g zZ.length z1h)],blk z3D (z4z (rdy (pcs [] z3C.1)) (pcs [] z3C.1)),dfr z5L,stb z3X 177 [(.slice z1e zY.length z1f),(.int .i64 zt.1),(.int .i64 zt.2.1),(.int .i64 zt.2.2.1),(.int .i64 zt.2.2.2),(.func (.func 78) #[] #[(.pointer (some z16)),(.pointer (some z17))]),(.slice z1g zZ.length z1h)]]:=hp1.pickAll .here
    refine ⟨_,pcs [] z3C.1,_,rfl,(hp2.sub ((.s8 .h5 .here .here .here .here .here .here .here) : Sel _ [blk z3D (z4z (rdy (pcs [] z3C.1)) (pcs [] z3C.1)),stb z2M 175 [(.slice zkU z3C.2.1.length zkV)],row (.slice zkU z3C.2.1.length zkV) 132 2 (z3C.2.1.flatMap yu),stb z2v 225 [(.int .i64 z3C.2.2)],stb z3i 132 [(.int .i64 0),(.int .i64 0)],stb z33 177 [(.slice z1e zY.length z1f),(.int .i64 zj.fRate.fN),(.int .i64 zj.fRate.fD),(.int .i64 zj.fL.fN),(.int .i64 zj.fL.fD),(.func (.func 78) #[] #[(.pointer (some z16)),(.pointer (some z17))]),(.slice z1g zZ.length z1h)],dfr z5L,stb z3X 177 [(.slice z1e zY.length z1f),(.int .i64 zt.1),(.int .i64 zt.2.1),(.int .i64 zt.2.2.1),(.int .i64 zt.2.2.2),(.func (.func 78) #[] #[(.pointer (some z16)),(.pointer (some z17))]),(.slice z1g zZ.length z1h)]] _)),?_⟩
    clear hp hp1 hp2 pz hw hw1
    refine wjN ?_
    letI : Rnd:=aft z5L
    refine WX.yk ?_
    exact WX.midR (D:=fun (g : Nat × Int × List z1 × Option Addr × Nat)=>g.1) (G:=Nat × Int × List z1 × Option Addr × Nat) ⟨z5L,z3C.2.2,z3C.2.1,zkU,zkV⟩ h (.r3 rfl rfl rfl) (.s5 .h3 .h2 .here .here .h1)
  ·rintro zkQ z8F z5K zkR zkS h
   replace h:=(zPC z8F z5K).symm.trans h
   letI : Rnd:=aft zkQ
   refine WC.b (WC.b (WC.a (WL.qA 35 (ya y4A rfl rfl) (WL.qA 36 (yc y2Z rfl (ym .h1 rfl)) (WL.pu rfl (WL.nil (WX.a (WC.cond rfl (fun zve=>?_) (fun zve=>?_)))))))))
   ·replace h:=yo h zve
    refine WC.b (WC.yO (fun i=>[3].contains i) [y71 z2v 225 [(0,(.int .i64 z8F))]] rfl (WD.pA 0 38 rfl (fun _=>yI (v:=(.agg #[(.int .i64 0),(.int .i64 0)])) (Eos.parts (l:=[]) .nil []) (fun _=>by kernel_rfl)) (WD.pA 1 39 rfl (fun _=>ya y4A rfl rfl) (WD.sA 2 40 rfl (Sin.wk (.cons .h1 .nil) (.stb (.cons rfl .nil) .nil)) (yc y2Z rfl (y5e .here (.head _))) (WD.forced0 (i:=3) rfl (by kernel_rfl) rfl rfl rfl (Sin.wk (.cons .h1 .nil) (.stb (.cons rfl .nil) .nil)) (yl zq rfl rfl rfl .here rfl rfl rfl) (WD.pA 4 3 rfl (fun _=>q_z rfl) (WD.done (by kernel_rfl) (WX.a (WC.ret (WX.yd ?_))))))))))
    obtain rfl:=Option.some.inj h
    refine WX.y7p .h4 Tryz.results77 (.agg rfl zb rfl (yh .h1) (.tmp rfl .nil)) (fun w hw=>?_)
    exact ⟨y1Z rfl rfl,hw.sub .nil⟩
   ·replace h:=yp h zve
    refine WC.skip (WX.a (WC.b ?_))
    obtain ⟨zkW,h⟩:=yn h
    refine WC.a (WL.qA 41 (yc z7o rfl (ym .h2 rfl)) (WL.know (fun w hw=>Hp.y2j .h3 hw (by intro hz'; have:=zkW; rw [hz'] at this; omega)) ?_))
    rintro ⟨zYx,rfl⟩
    refine WL.qA 42 (yV z1H rfl rfl zkW.1 zkW.2 y32) (WL.qA 43 (yT (cs:=(yu (nth z5K 0))) zb rfl rfl (y49 .h3 (y3y (enc:=yu) (l:=z5K) (i:=0) (sz:=2) (fun _=>rfl) zkW.1 zkW.2))) (WL.yj rfl rfl (yl zq rfl rfl rfl .here rfl rfl rfl) (WL.pu rfl (WL.nil (WX.a (WC.ret ?_))))))
    obtain rfl:=Option.some.inj h
    refine WX.y7p .h4 Tryz.results77 (.agg rfl zb rfl (yh .h1) (.tmp rfl .nil)) (fun w hw=>?_)
    exact ⟨y1Z rfl rfl,hw.sub .nil⟩
def y4u (zaP : List (List z2)) (z1X : zSv) : Option (z1 × Int) :=
 (y3B zaP z1X zaP z1X ([z1X.fL] : List z1)).bind fun zvf=>some (zvf.1,zvf.2)
theorem yaV (Z : Zp) (zkX : Option Addr) (zkY : Nat) (zaP : List (List z2)) (z1X : zSv) (r : z1 × Int)
  (h : y4u zaP z1X = some r) (w₀ : World) (hz : PZ [] w₀ Z)
  (zDb : ZS Z 1 (y1T Z) zkX zkY zaP) :
  Calls Tryz.prog 45 #[(.slice zkX zaP.length zkY),(.agg #[(.int .i64 z1X.fRate.fN),(.int .i64 z1X.fRate.fD),(.int .i64 z1X.fL.fN),(.int .i64 z1X.fL.fD)])] w₀ fun e w'=>e = .returned (.tuple #[(.agg #[(.int .i64 r.1.fN),(.int .i64 r.1.fD)]),(.int .i64 r.2)]) ∧ Hp [] w₀ w' []:=by
 unfold y4u at h
 refine Calls.yJ Tryz.func45 Tryz.ntmps45 ?_
 refine WC.b (WC.a (WL.nA 2 (yH (cs:=[(.slice zkX zaP.length zkY)]) rfl rfl) ?_))
 intro zPO _
 refine WL.nA 3 (yH (cs:=[(.int .i64 z1X.fRate.fN),(.int .i64 z1X.fRate.fD),(.int .i64 z1X.fL.fN),(.int .i64 z1X.fL.fD)]) rfl rfl) ?_
 intro zPP _
 refine WL.nA 4 (yw (cs:=[(.int .i64 0),(.int .i64 0)]) zH rfl) ?_
 intro zYy _
 refine WL.pu rfl (WL.nil (WX.a (WC.b (WC.a (WL.qA 7 (yc z6A rfl (ym .h2 rfl)) (WL.qA 8 (yf zfn rfl (yh .h1) rfl) (WL.qA 9 (ya y7W rfl rfl) (WL.qA 10 (yT (cs:=[(.int .i64 z1X.fL.fN),(.int .i64 z1X.fL.fD)]) zb rfl rfl (y31 (s:=2) .h1 rfl)) (WL.nA 11 (yN (cs:=([z1X.fL] : List z1).flatMap yu) z1H (Eos.parts (l:=[.tmp 10]) (.cons rfl .nil) [0]) (fun _=>by kernel_rfl) rfl (by unfold maxLen; omega)) ?_)))))))))
 intro zDc _
 refine WL.qA 12 (yI (v:=(.agg #[(.slice zkX zaP.length zkY),(.int .i64 z1X.fRate.fN),(.int .i64 z1X.fRate.fD),(.int .i64 z1X.fL.fN),(.int .i64 z1X.fL.fD),.nilFunc,(.slice (some ⟨zDc,0,none⟩) (([z1X.fL] : List z1).length) 1)])) (Eos.parts (l:=[.tmp 7,.tmp 8,.tmp 11]) (.r3 rfl rfl rfl) [0,1,3]) (fun _=>by kernel_rfl)) (WL.nA 6 (yw (cs:=[(.slice none 0 0),(.int .i64 0),(.int .i64 0),(.int .i64 0),(.int .i64 0),.nilFunc,(.slice none 0 0)]) zwR rfl) ?_)
 intro zYz _
 refine WL.yj rfl rfl (yl zwS rfl rfl rfl .here rfl rfl rfl) (WL.nil (WX.a (WC.b (WC.a (WL.qA 13 (y17 (Eos.caps (l:=[.tmp 2,.tmp 3]) (.r2 rfl rfl))) (WL.qA 14 (ya ya4 rfl rfl) (WL.yj rfl rfl (y4y (ds:=[(.slice zkX zaP.length zkY),(.int .i64 z1X.fRate.fN),(.int .i64 z1X.fRate.fD),(.int .i64 z1X.fL.fN),(.int .i64 z1X.fL.fD),(.func (.func 78) #[] #[(.pointer (some ⟨zPO,0,none⟩)),(.pointer (some ⟨zPP,0,none⟩))]),(.slice (some ⟨zDc,0,none⟩) (([z1X.fL] : List z1).length) 1)]) zwT rfl rfl rfl rfl rfl .here rfl rfl) (WL.nil (WX.a (WC.b ?_))))))))))
 obtain ⟨zvf,zPQ,h⟩:=z6 h
 refine WC.a (WL.qA 15 (yf zfo rfl (yh .here) rfl) (WL.cA 16 (z8 Tryz.call77 (.cons rfl .nil)) .nil (ccl hz .nil (.s3 .h4 .h3 .h1) fun w pz ho la=>y9o _ _ _ _ _ _ _ _ _ _ _ _ _ _ _ zPQ w pz ((zDb.mono (Zle.left _ _)).weak (fun _ _ h=>y38 (Zle.left _ _) h)) ((zDb.mono (Zle.left _ _)).weak (fun _ _ h=>y38 (Zle.left _ _) h)) ((la _ (.head _) _).stb) ((la _ (.tail _ (.head _)) _).stb) (ZA.row (la _ (.tail _ (.tail _ (.head _))) _) (RR.flat (enc:=yu) (fun _=>rfl) _) ⟨w,pz.1⟩)) (WL.pu rfl (WL.pu rfl (WL.yj rfl rfl (yl zq rfl rfl rfl .h2 rfl rfl rfl) (WL.pu rfl (WL.nil (WX.a (WC.ret ?_)))))))))
 obtain rfl:=Option.some.inj h
 refine WX.ye Tryz.results45 (.agg rfl zb rfl (yh .here) (.tmp rfl .nil)) (fun w hw=>?_)
 exact ⟨y1Z rfl rfl,hw.sub .nil⟩
def y1N (z1q : z1 × Int) (z1r : z1 × Int) (zaQ : Int → Option (Sapi_PortBound × Int × (List (Sbound_flow × z1)) × (List (Sbound_place × Int)))) : Nat → Int → Int → Option (Sapi_PortBound × Int × (List (Sbound_flow × z1)) × (List (Sbound_place × Int)))
 | 0,_,_=>none
 | zvg + 1,z3j,z5q=>if decide (z3j < ((([z1q.2,z1r.2] : List Int).length : Nat) : Int)) then jp1 (fun (zaR : Int)=>y1N z1q z1r zaQ zvg (i64 (z3j + 1)) zaR) fun znO=>chk ((0 : Int) ≤ z3j ∧ z3j < ((([z1q.2,z1r.2] : List Int).length : Nat) : Int)) (jp1 (fun (z8G : Int)=>if decide (z5q = 0) then znO z8G else znO z5q) fun znP=>if decide ((nth ([z1q.2,z1r.2] : List Int) z3j) = 6) then znP 352 else znP (nth ([z1q.2,z1r.2] : List Int) z3j)) else zaQ z5q
theorem y8B {n : Nat} {z1q : z1 × Int} {z1r : z1 × Int} {zaQ : Int → Option (Sapi_PortBound × Int × (List (Sbound_flow × z1)) × (List (Sbound_place × Int)))} {z3j : Int} {z5q : Int} {r : Sapi_PortBound × Int × (List (Sbound_flow × z1)) × (List (Sbound_place × Int))} (h : y1N z1q z1r zaQ n z3j z5q = some r) : ∃ m,n = m + 1:=by
 cases n with
 | zero=>cases h
 | succ m=>exact ⟨m,rfl⟩
def y4H (zf : Sapi_Config) (z5r : List (List Sapi_Hop)) (zeQ : List (Sbound_flow × z1)) (z5s : List (Sbound_place × Int)) (zeR : Int) (z1l : Sbound_place) : Option (Sapi_PortBound × Int × (List (Sbound_flow × z1)) × (List (Sbound_place × Int))) :=
 (y4f zf z5r zeQ z5s zeR z1l).bind fun z34=>jp2 (fun (z7W : List (List z2)) (zcM : Int)=>chk ((0 : Int) ≤ z1l.fLink ∧ z1l.fLink < ((zf.fLinks.length : Nat) : Int)) ((y2i zcM).bind fun zkZ=>(y53 z7W (⟨(⟨1,((nth zf.fLinks z1l.fLink).fSlow)⟩ : z1),zkZ⟩ : zSv)).bind fun z1q=>(y4u z7W (⟨(⟨1,((nth zf.fLinks z1l.fLink).fSlow)⟩ : z1),zkZ⟩ : zSv)).bind fun z1r=>jp1 (fun (zcN : Int)=>(y1M z1q.1).bind fun zl0=>(y1M z1r.1).bind fun zvh=>some (({z1l with fDelay:=(yq (yL z5s z1l zl0) z1l 0),fStore:=i64 (zvh + z34.2.1)} : Sapi_PortBound),zcN,z34.2.2.2,(yL z5s z1l zl0))) fun zaQ=>y1N z1q z1r zaQ yz 0 z34.2.2.1)) fun znQ=>if decide ((i64 (z1l.fNode - ((zf.fModules.length : Nat) : Int))) ≥ 0) then chk ((0 : Int) ≤ (i64 (z1l.fNode - ((zf.fModules.length : Nat) : Int))) ∧ (i64 (z1l.fNode - ((zf.fModules.length : Nat) : Int))) < ((zf.fSwitches.length : Nat) : Int)) (znQ z34.1 ((nth zf.fSwitches (i64 (z1l.fNode - ((zf.fModules.length : Nat) : Int)))).fDelay)) else znQ z34.1 0
theorem ybn (Z : Zp) (z54 : Nat) (z6Y : Option Addr) (z6Z : Nat) (z71 : Option Addr) (z72 : Nat) (z73 : Option Addr) (z74 : Nat) (z75 : Option Addr) (z78 : Nat) (z79 : Option Addr) (z7a : Nat) (z7b : Option Addr) (z7c : Nat) (z7d : Option Addr) (z7e : Nat) (z7f : Option Addr) (z7g : Nat) (z7h : Option Addr) (z7i : Nat) (z35 : Nat) (z36 : Nat) (zf : Sapi_Config) (z5r : List (List Sapi_Hop)) (zeQ : List (Sbound_flow × z1)) (z5s : List (Sbound_place × Int)) (zeR : Int) (z1l : Sbound_place) (r : Sapi_PortBound × Int × (List (Sbound_flow × z1)) × (List (Sbound_place × Int)))
  (h : y4H zf z5r zeQ z5s zeR z1l = some r) (w₀ : World) (hz : PZ (fps [stb z54 95 [(.slice z6Y zf.fModules.length z6Z),(.slice z71 zf.fChannels.length z72),(.slice z73 zf.fSwitches.length z74),(.slice z75 zf.fLinks.length z78),(.slice z79 zf.fVLs.length z7a),(.slice z7b zf.fHealth.length z7c),(.slice z7d zf.fCauses.length z7e),(.slice z7f zf.fVersions.length z7g),(.slice z7h z5r.length z7i),(.map (some z35)),(.map (some z36)),(.int .i64 zeR)],yy z35 (fun x=>Value.agg (y2k x).toArray) (fun x=>Value.agg (yu x).toArray) zeQ,yy z36 (fun x=>Value.agg (e97 x).toArray) (Value.int .i64) z5s]) w₀ Z)
  (zPR : ZS Z 4 (y4e Z) z6Y z6Z zf.fModules)
  (zPS : ZS Z 4 (y4M Z) z71 z72 zf.fChannels)
  (zDd : ZS Z 4 (fun r x=>r = e66 x) z73 z74 zf.fSwitches)
  (zDe : ZS Z 4 (fun r x=>r = e64 x) z75 z78 zf.fLinks)
  (zPT : ZS Z 7 (p46 Z) z79 z7a zf.fVLs)
  (zPU : ZS Z 5 (fun r x=>r = y4Z x) z7b z7c zf.fHealth)
  (zPV : ZS Z 3 (y4N Z) z7d z7e zf.fCauses)
  (zPW : ZS Z 4 (fun r x=>r = y50 x) z7f z7g zf.fVersions)
  (zPX : ZS Z 1 (p48 Z) z7h z7i z5r)
  (hown : Hp (fps [stb z54 95 [(.slice z6Y zf.fModules.length z6Z),(.slice z71 zf.fChannels.length z72),(.slice z73 zf.fSwitches.length z74),(.slice z75 zf.fLinks.length z78),(.slice z79 zf.fVLs.length z7a),(.slice z7b zf.fHealth.length z7c),(.slice z7d zf.fCauses.length z7e),(.slice z7f zf.fVersions.length z7g),(.slice z7h z5r.length z7i),(.map (some z35)),(.map (some z36)),(.int .i64 zeR)],yy z35 (fun x=>Value.agg (y2k x).toArray) (fun x=>Value.agg (yu x).toArray) zeQ,yy z36 (fun x=>Value.agg (e97 x).toArray) (Value.int .i64) z5s]) w₀ w₀ [stb z54 95 [(.slice z6Y zf.fModules.length z6Z),(.slice z71 zf.fChannels.length z72),(.slice z73 zf.fSwitches.length z74),(.slice z75 zf.fLinks.length z78),(.slice z79 zf.fVLs.length z7a),(.slice z7b zf.fHealth.length z7c),(.slice z7d zf.fCauses.length z7e),(.slice z7f zf.fVersions.length z7g),(.slice z7h z5r.length z7i),(.map (some z35)),(.map (some z36)),(.int .i64 zeR)],yy z35 (fun x=>Value.agg (y2k x).toArray) (fun x=>Value.agg (yu x).toArray) zeQ,yy z36 (fun x=>Value.agg (e97 x).toArray) (Value.int .i64) z5s]) :
  Calls Tryz.prog 22 #[(.pointer (some ⟨z54,0,none⟩)),(.agg #[(.int .i64 z1l.fNode),(.int .i64 z1l.fLink)])] w₀ fun e w'=>e = .returned (.agg #[(.int .i64 r.1.fNode),(.int .i64 r.1.fLink),(.int .i64 r.1.fDelay),(.int .i64 r.1.fStore)]) ∧ Hp (fps [stb z54 95 [(.slice z6Y zf.fModules.length z6Z),(.slice z71 zf.fChannels.length z72),(.slice z73 zf.fSwitches.length z74),(.slice z75 zf.fLinks.length z78),(.slice z79 zf.fVLs.length z7a),(.slice z7b zf.fHealth.length z7c),(.slice z7d zf.fCauses.length z7e),(.slice z7f zf.fVersions.length z7g),(.slice z7h z5r.length z7i),(.map (some z35)),(.map (some z36)),(.int .i64 zeR)],yy z35 (fun x=>Value.agg (y2k x).toArray) (fun x=>Value.agg (yu x).toArray) zeQ,yy z36 (fun x=>Value.agg (e97 x).toArray) (Value.int .i64) z5s]) w₀ w' [stb z54 95 [(.slice z6Y zf.fModules.length z6Z),(.slice z71 zf.fChannels.length z72),(.slice z73 zf.fSwitches.length z74),(.slice z75 zf.fLinks.length z78),(.slice z79 zf.fVLs.length z7a),(.slice z7b zf.fHealth.length z7c),(.slice z7d zf.fCauses.length z7e),(.slice z7f zf.fVersions.length z7g),(.slice z7h z5r.length z7i),(.map (some z35)),(.map (some z36)),(.int .i64 r.2.1)],yy z35 (fun x=>Value.agg (y2k x).toArray) (fun x=>Value.agg (yu x).toArray) r.2.2.1,yy z36 (fun x=>Value.agg (e97 x).toArray) (Value.int .i64) r.2.2.2]:=by
 unfold y4H at h
 refine Calls.oh2 Tryz.func22 Tryz.ntmps22 hown ?_
 refine WC.pool (WC.b (WC.a (WL.nA 3 (yH (cs:=[(.int .i64 z1l.fNode),(.int .i64 z1l.fLink)]) rfl rfl) ?_)))
 intro z8H _
 refine WL.nA 4 (yw (cs:=[(.int .i64 0),(.int .i64 0),(.int .i64 0),(.int .i64 0)]) zeroT_58 rfl) ?_
 intro z8I _
 refine WL.nil (WX.a (WC.b ?_))
 obtain ⟨z34,zPY,h⟩:=z6 h
 refine WC.a (WL.pu rfl (WL.qA 18 (yf y3I rfl (yh .h1) rfl) (WL.y7n (dd:=19) rfl rfl rfl (z8 Tryz.call42 (.r2 rfl rfl)) (.s3 .h3 .h3 .h3) (ccz hz (.s3 .h3 .h3 .h3) .h2 fun w pz ho=>yau _ _ _ _ _ _ _ _ _ _ _ _ _ _ _ _ _ _ _ _ _ _ _ _ _ _ _ _ _ zPY w pz ((zPR.mono (Zle.left _ _)).weak (fun _ _ h=>y1t (Zle.left _ _) h)) ((zPS.mono (Zle.left _ _)).weak (fun _ _ h=>y1A (Zle.left _ _) h)) (zDd.mono (Zle.left _ _)) (zDe.mono (Zle.left _ _)) ((zPT.mono (Zle.left _ _)).weak (fun _ _ h=>y1C (Zle.left _ _) h)) (zPU.mono (Zle.left _ _)) ((zPV.mono (Zle.left _ _)).weak (fun _ _ h=>y1B (Zle.left _ _) h)) (zPW.mono (Zle.left _ _)) ((zPX.mono (Zle.left _ _)).weak (fun _ _ h=>y1e (Zle.left _ _) h)) ho) ?_)))
 rintro zcO zDf zDg zDh zDi
 refine WL.merge .here .h6 (WL.pu rfl (WL.pu rfl (WL.pu rfl (WL.pu rfl (WL.pu rfl (WL.nil (WX.a (WC.b (WC.a (WL.pu rfl (WL.nil (WX.a ?_))))))))))))
 obtain ⟨znQ,zPZ,h⟩:=y3W h
 refine WC.y2u (fun (z7W : List (List z2)) (zcM : Int) (zl1 : List Value)=>(znQ z7W zcM = some r) ∧ (RR 1 (y1T (Z ++ ([] ++ zcO))) zl1 z7W)) (fun z7W zcM zl1=>[(0,(.pointer (some ⟨z54,0,none⟩))),(3,(.pointer (some ⟨z8H,0,none⟩))),(4,(.pointer (some ⟨z8I,0,none⟩))),(5,(.slice zDf z7W.length zDg)),(6,(.int .i64 z34.2.1)),(7,(.int .i64 zcM))]) (fun z7W zcM zl1=>[fz ([] ++ zcO),row (.slice zDf z7W.length zDg) 173 1 zl1,stb z54 95 [(.slice z6Y zf.fModules.length z6Z),(.slice z71 zf.fChannels.length z72),(.slice z73 zf.fSwitches.length z74),(.slice z75 zf.fLinks.length z78),(.slice z79 zf.fVLs.length z7a),(.slice z7b zf.fHealth.length z7c),(.slice z7d zf.fCauses.length z7e),(.slice z7f zf.fVersions.length z7g),(.slice z7h z5r.length z7i),(.map (some z35)),(.map (some z36)),(.int .i64 z34.2.2.1)],stb z8H 97 [(.int .i64 z1l.fNode),(.int .i64 z1l.fLink)],stb z8I 58 [(.int .i64 0),(.int .i64 0),(.int .i64 0),(.int .i64 0)],yy z35 (fun x=>Value.agg (y2k x).toArray) (fun x=>Value.agg (yu x).toArray) z34.2.2.2,yy z36 (fun x=>Value.agg (e97 x).toArray) (Value.int .i64) z5s]) ?_ ?_
 ·skip
  refine WC.b (WC.yO (fun i=>[].contains i) [] rfl (WD.pA 0 22 rfl (fun _=>ya y8H rfl rfl) (WD.qA 1 23 rfl (yc yx rfl (ym .h6 rfl)) (WD.pA 2 24 rfl (fun _=>q_m rfl) (WD.pA 3 25 rfl (fun _=>y13 rfl) (WD.pA 4 26 rfl (fun _=>ya y6d rfl rfl) (WD.pA 5 27 rfl (fun _=>ya y6N rfl rfl) (WD.qA 6 28 rfl (yc y6O rfl (ym .h2 rfl)) (WD.pA 7 29 rfl (fun _=>yG Tryz.underlying22 rfl) (WD.pA 8 30 rfl (fun _=>ybT rfl rfl rfl) (WD.pA 9 8 rfl (fun _=>q_z rfl) (WD.done (by kernel_rfl) (WX.a (WC.b (WC.a (WL.pu rfl (WL.pu rfl (WL.nil (WX.a (WC.cond rfl (fun zvi=>?_) (fun zvi=>?_)))))))))))))))))))))
  ·replace h:=yo h zvi
   obtain ⟨zQ0,h⟩:=yn h
   refine WC.a (WL.pu rfl (WL.qA 34 (y13 rfl) (WL.qA 35 (ya y6d rfl rfl) (WL.qA 36 (ya y9x rfl rfl) (WL.qA 37 (yc y9y rfl (ym .h2 rfl)) (WL.pu rfl (WL.znth (dd:=39) rfl rfl (Z:=(Z ++ ([] ++ zcO))) (Pr:=(fun r x=>r = e66 x)) yc1 rfl rfl (zDd.mono ((Zle.left _ _).trans ((Zle.left _ _).trans (Zle.yU _ _ _)))) zQ0 ?_)))))))
   rintro zYA zYB zQ1 zYC rfl
   refine WL.qA 40 (ya ycs rfl rfl) (WL.qA 41 (yc yx rfl (y1k (hz.pv2 .here) zQ1 rfl)) (WL.pu rfl (WL.nil ?_)))
   exact WX.mid ⟨z34.1,((nth zf.fSwitches (i64 (z1l.fNode - ((zf.fModules.length : Nat) : Int)))).fDelay),zDh⟩ ⟨h,(zDi.weak (fun _ _ h=>y38 (Zle.yU _ _ _) h))⟩ (.r6 rfl rfl rfl rfl rfl rfl) (.s7 .here .here .here .h3 .h2 .here .here)
  ·replace h:=yp h zvi
   refine WC.skip ?_
   exact WX.mid ⟨z34.1,0,zDh⟩ ⟨h,(zDi.weak (fun _ _ h=>y38 (Zle.yU _ _ _) h))⟩ (.r6 rfl rfl rfl rfl rfl rfl) (.s7 .here .here .here .h3 .h2 .here .here)
 ·rintro z7W zcM zl1 ⟨h,zDj⟩
  replace h:=(zPZ z7W zcM).symm.trans h
  refine WC.b ?_
  obtain ⟨zQ2,h⟩:=yn h
  obtain ⟨zkZ,zQ3,h⟩:=z6 h
  refine WC.yO (fun i=>[15].contains i) [] rfl (WD.pA 0 42 rfl (fun _=>q_m rfl) (WD.pA 1 43 rfl (fun _=>y13 rfl) (WD.pA 2 44 rfl (fun _=>ya y6d rfl rfl) (WD.pA 3 45 rfl (fun _=>ya y8F rfl rfl) (WD.qA 4 46 rfl (yc y8G rfl (ym .h2 rfl)) (WD.pA 5 47 rfl (fun _=>ya y9B rfl rfl) (WD.qA 6 48 rfl (yc yx rfl (ym .h3 rfl)) (WD.znth (j:=7) (dd:=49) (by kernel_rfl) rfl z2j z2k rfl rfl (Z:=(Z ++ ([] ++ zcO))) (Pr:=(fun r x=>r = e64 x)) yc2 rfl rfl (zDe.mono ((Zle.left _ _).trans ((Zle.left _ _).trans (Zle.yU _ _ _)))) zQ2 ?_))))))))
  rintro zYD zYE zQ4 zYF rfl
  refine WD.pA 8 50 rfl (fun _=>ya yb9 rfl rfl) (WD.qA 9 51 rfl (yc yx rfl (y1k (hz.pv2 .here) zQ4 rfl)) (WD.pA 10 52 rfl (fun _=>yI (v:=(.agg #[(.int .i64 1),(.int .i64 ((nth zf.fLinks z1l.fLink).fSlow))])) (Eos.parts (l:=[.const (.int .i64 1),.tmp 51]) (.r2 rfl rfl) [0,1]) (fun _=>by kernel_rfl)) (WD.pA 11 53 rfl (fun _=>q_m rfl) (WD.eA 12 54 rfl (z8 Tryz.call43 (.cons rfl .nil)) (ccz hz .nil .here fun w pz ho=>y4C _ _ _ zQ3 w pz ) (WD.pA 13 55 rfl (fun _=>yI (v:=(.agg #[(.int .i64 1),(.int .i64 ((nth zf.fLinks z1l.fLink).fSlow)),(.int .i64 zkZ.fN),(.int .i64 zkZ.fD)])) (Eos.parts (l:=[.tmp 52,.tmp 54]) (.r2 rfl rfl) [0,1]) (fun _=>by kernel_rfl)) (WD.new (i:=14) (dd:=9) rfl (by kernel_rfl) rfl rfl rfl (yw (cs:=[(.int .i64 0),(.int .i64 0),(.int .i64 0),(.int .i64 0)]) zEy rfl) (fun h'=>absurd h' (by decide)) ?_))))))
  intro zYG _
  refine WD.y3l (i:=15) rfl (by kernel_rfl) rfl rfl rfl (by kernel_rfl) (yl zEz rfl rfl rfl .here rfl rfl rfl) (WD.done (by kernel_rfl) (WX.a (WC.b ?_)))
  obtain ⟨z1q,zQ5,h⟩:=z6 h
  refine WC.a (WL.pu rfl (WL.qA 58 (yf zfn rfl (yh .here) rfl) (WL.cA 59 (z8 Tryz.call44 (.r2 rfl rfl)) .nil (y8k hz .nil .h1 (.cons .h2 .nil) fun w pz ho la=>ybH _ _ _ _ _ _ zQ5 w pz (ZA.row (la _ (.head _) _) (zDj.weak (fun _ _ h=>y38 (Zle.left _ _) h)) ⟨w,pz.1⟩)) (WL.pu rfl (WL.pu rfl (WL.pu rfl (WL.nA 10 (yw (cs:=[(.int .i64 0),(.int .i64 0)]) zH rfl) ?_)))))))
  intro zcP _
  refine WL.yj rfl rfl (yl zq rfl rfl rfl .here rfl rfl rfl) (WL.pu rfl (WL.nil (WX.a (WC.b ?_))))
  obtain ⟨z1r,zQ6,h⟩:=z6 h
  refine WC.a (WL.pu rfl (WL.qA 64 (yf zfn rfl (yh .h1) rfl) (WL.cA 65 (z8 Tryz.call45 (.r2 rfl rfl)) .nil (y8k hz .nil .h2 (.cons .h3 .nil) fun w pz ho la=>yaV _ _ _ _ _ _ zQ6 w pz (ZA.row (la _ (.head _) _) (zDj.weak (fun _ _ h=>y38 (Zle.left _ _) h)) ⟨w,pz.1⟩)) (WL.pu rfl (WL.pu rfl (WL.pu rfl (WL.nA 12 (yw (cs:=[(.int .i64 0),(.int .i64 0)]) zH rfl) ?_)))))))
  intro zcQ _
  refine WL.yj rfl rfl (yl zq rfl rfl rfl .here rfl rfl rfl) (WL.pu rfl (WL.nil (WX.a ?_)))
  obtain ⟨zaQ,zQ7,h⟩:=y1d h
  refine WC.y4m (fun (zcN : Int)=>(zaQ zcN = some r)) (fun zcN=>[(0,(.pointer (some ⟨z54,0,none⟩))),(3,(.pointer (some ⟨z8H,0,none⟩))),(4,(.pointer (some ⟨z8I,0,none⟩))),(6,(.int .i64 z34.2.1)),(10,(.pointer (some ⟨zcP,0,none⟩))),(12,(.pointer (some ⟨zcQ,0,none⟩)))]) (fun zcN=>[fz ([] ++ zcO),stb z54 95 [(.slice z6Y zf.fModules.length z6Z),(.slice z71 zf.fChannels.length z72),(.slice z73 zf.fSwitches.length z74),(.slice z75 zf.fLinks.length z78),(.slice z79 zf.fVLs.length z7a),(.slice z7b zf.fHealth.length z7c),(.slice z7d zf.fCauses.length z7e),(.slice z7f zf.fVersions.length z7g),(.slice z7h z5r.length z7i),(.map (some z35)),(.map (some z36)),(.int .i64 zcN)],stb z8H 97 [(.int .i64 z1l.fNode),(.int .i64 z1l.fLink)],stb z8I 58 [(.int .i64 0),(.int .i64 0),(.int .i64 0),(.int .i64 0)],stb zcP 132 [(.int .i64 z1q.1.fN),(.int .i64 z1q.1.fD)],stb zcQ 132 [(.int .i64 z1r.1.fN),(.int .i64 z1r.1.fD)],yy z35 (fun x=>Value.agg (y2k x).toArray) (fun x=>Value.agg (yu x).toArray) z34.2.2.2,yy z36 (fun x=>Value.agg (e97 x).toArray) (Value.int .i64) z5s]) ?_ ?_
  ·skip
   refine WC.b (WC.a (WL.pu rfl (WL.pu rfl (WL.nA 70 (yN (cs:=([z1q.2,z1r.2] : List Int).flatMap e39) zwY (Eos.parts (l:=[.tmp 68,.tmp 69]) (.r2 rfl rfl) [0,1]) (fun _=>by kernel_rfl) rfl (by unfold maxLen; omega)) ?_))))
   intro zhO _
   refine WL.qA 71 (yG Tryz.underlying138 rfl) (WL.pu rfl (WL.nil (WX.a (WC.block (WC.y9U (fun (zhP : Nat) (z3j : Int) (z5q : Int)=>(y1N z1q z1r zaQ zhP z3j z5q = some r)) (fun zhP z3j z5q=>[(0,(.pointer (some ⟨z54,0,none⟩))),(3,(.pointer (some ⟨z8H,0,none⟩))),(4,(.pointer (some ⟨z8I,0,none⟩))),(6,(.int .i64 z34.2.1)),(10,(.pointer (some ⟨zcP,0,none⟩))),(12,(.pointer (some ⟨zcQ,0,none⟩))),(70,(.slice (some ⟨zhO,0,none⟩) (([z1q.2,z1r.2] : List Int).length) 2)),(71,(.int .i64 ((([z1q.2,z1r.2] : List Int).length : Nat) : Int))),(72,(.int .i64 z3j))]) (fun zhP z3j z5q=>[fz ([] ++ zcO),row (.slice (some ⟨zhO,0,none⟩) (([z1q.2,z1r.2] : List Int).length) 2) 39 1 (([z1q.2,z1r.2] : List Int).flatMap e39),stb z54 95 [(.slice z6Y zf.fModules.length z6Z),(.slice z71 zf.fChannels.length z72),(.slice z73 zf.fSwitches.length z74),(.slice z75 zf.fLinks.length z78),(.slice z79 zf.fVLs.length z7a),(.slice z7b zf.fHealth.length z7c),(.slice z7d zf.fCauses.length z7e),(.slice z7f zf.fVersions.length z7g),(.slice z7h z5r.length z7i),(.map (some z35)),(.map (some z36)),(.int .i64 z5q)],stb z8H 97 [(.int .i64 z1l.fNode),(.int .i64 z1l.fLink)],stb z8I 58 [(.int .i64 0),(.int .i64 0),(.int .i64 0),(.int .i64 0)],stb zcP 132 [(.int .i64 z1q.1.fN),(.int .i64 z1q.1.fD)],stb zcQ 132 [(.int .i64 z1r.1.fN),(.int .i64 z1r.1.fD)],yy z35 (fun x=>Value.agg (y2k x).toArray) (fun x=>Value.agg (yu x).toArray) z34.2.2.2,yy z36 (fun x=>Value.agg (e97 x).toArray) (Value.int .i64) z5s]) (fun zhP z3j z5q=>zhP) ⟨yz,0,z34.2.2.1⟩ h (.r9 rfl rfl rfl rfl rfl rfl rfl rfl rfl) (.s9 .h4 .here .h4 .h4 .h4 .h1 .here .h2 .h2) ?_)))))
   rintro zhP z3j z5q h
   obtain ⟨zvg,rfl⟩:=y8B h
   rw [y1N] at h
   refine WC.b (WC.a (WL.pu rfl (WL.nil (WX.a (WC.b (WC.cond rfl (fun zvj=>?_) (fun zvj=>?_)))))))
   ·replace h:=yo h zvj
    refine WC.skip (WX.a ?_)
    obtain ⟨znO,zQ8,h⟩:=y1d h
    refine WC.y4m (fun (zaR : Int)=>(znO zaR = some r)) (fun zaR=>[(0,(.pointer (some ⟨z54,0,none⟩))),(3,(.pointer (some ⟨z8H,0,none⟩))),(4,(.pointer (some ⟨z8I,0,none⟩))),(6,(.int .i64 z34.2.1)),(10,(.pointer (some ⟨zcP,0,none⟩))),(12,(.pointer (some ⟨zcQ,0,none⟩))),(70,(.slice (some ⟨zhO,0,none⟩) (([z1q.2,z1r.2] : List Int).length) 2)),(71,(.int .i64 ((([z1q.2,z1r.2] : List Int).length : Nat) : Int))),(72,(.int .i64 z3j))]) (fun zaR=>[fz ([] ++ zcO),row (.slice (some ⟨zhO,0,none⟩) (([z1q.2,z1r.2] : List Int).length) 2) 39 1 (([z1q.2,z1r.2] : List Int).flatMap e39),stb z54 95 [(.slice z6Y zf.fModules.length z6Z),(.slice z71 zf.fChannels.length z72),(.slice z73 zf.fSwitches.length z74),(.slice z75 zf.fLinks.length z78),(.slice z79 zf.fVLs.length z7a),(.slice z7b zf.fHealth.length z7c),(.slice z7d zf.fCauses.length z7e),(.slice z7f zf.fVersions.length z7g),(.slice z7h z5r.length z7i),(.map (some z35)),(.map (some z36)),(.int .i64 zaR)],stb z8H 97 [(.int .i64 z1l.fNode),(.int .i64 z1l.fLink)],stb z8I 58 [(.int .i64 0),(.int .i64 0),(.int .i64 0),(.int .i64 0)],stb zcP 132 [(.int .i64 z1q.1.fN),(.int .i64 z1q.1.fD)],stb zcQ 132 [(.int .i64 z1r.1.fN),(.int .i64 z1r.1.fD)],yy z35 (fun x=>Value.agg (y2k x).toArray) (fun x=>Value.agg (yu x).toArray) z34.2.2.2,yy z36 (fun x=>Value.agg (e97 x).toArray) (Value.int .i64) z5s]) ?_ ?_
    ·skip
     refine WC.block (WC.b ?_)
     obtain ⟨znR,h⟩:=yn h
     refine WC.a (WL.qA 74 (yV zwY rfl rfl znR.1 znR.2 y32) (WL.qA 75 (yc y2Z rfl (ydm .h1 ((y3y (enc:=e39) (l:=([z1q.2,z1r.2] : List Int)) (i:=z3j) (sz:=1) (fun _=>rfl) znR.1 znR.2) 0 _ rfl))) (WL.pu rfl (WL.nil (WX.a ?_)))))
     obtain ⟨znP,zQ9,h⟩:=y1d h
     refine WC.y4m (fun (z8G : Int)=>(znP z8G = some r)) (fun z8G=>[(0,(.pointer (some ⟨z54,0,none⟩))),(3,(.pointer (some ⟨z8H,0,none⟩))),(4,(.pointer (some ⟨z8I,0,none⟩))),(6,(.int .i64 z34.2.1)),(10,(.pointer (some ⟨zcP,0,none⟩))),(12,(.pointer (some ⟨zcQ,0,none⟩))),(15,(.int .i64 z8G)),(70,(.slice (some ⟨zhO,0,none⟩) (([z1q.2,z1r.2] : List Int).length) 2)),(71,(.int .i64 ((([z1q.2,z1r.2] : List Int).length : Nat) : Int))),(72,(.int .i64 z3j))]) (fun z8G=>[fz ([] ++ zcO),row (.slice (some ⟨zhO,0,none⟩) (([z1q.2,z1r.2] : List Int).length) 2) 39 1 (([z1q.2,z1r.2] : List Int).flatMap e39),stb z54 95 [(.slice z6Y zf.fModules.length z6Z),(.slice z71 zf.fChannels.length z72),(.slice z73 zf.fSwitches.length z74),(.slice z75 zf.fLinks.length z78),(.slice z79 zf.fVLs.length z7a),(.slice z7b zf.fHealth.length z7c),(.slice z7d zf.fCauses.length z7e),(.slice z7f zf.fVersions.length z7g),(.slice z7h z5r.length z7i),(.map (some z35)),(.map (some z36)),(.int .i64 z5q)],stb z8H 97 [(.int .i64 z1l.fNode),(.int .i64 z1l.fLink)],stb z8I 58 [(.int .i64 0),(.int .i64 0),(.int .i64 0),(.int .i64 0)],stb zcP 132 [(.int .i64 z1q.1.fN),(.int .i64 z1q.1.fD)],stb zcQ 132 [(.int .i64 z1r.1.fN),(.int .i64 z1r.1.fD)],yy z35 (fun x=>Value.agg (y2k x).toArray) (fun x=>Value.agg (yu x).toArray) z34.2.2.2,yy z36 (fun x=>Value.agg (e97 x).toArray) (Value.int .i64) z5s]) ?_ ?_
     ·skip
      refine WC.b (WC.a (WL.pu rfl (WL.pu rfl (WL.nil (WX.a (WC.cond rfl (fun zvk=>?_) (fun zvk=>?_)))))))
      ·replace h:=yo h zvk
       refine WC.a (WL.pu rfl (WL.nil ?_))
       exact WX.mid 352 h (.r10 rfl rfl rfl rfl rfl rfl rfl rfl rfl rfl) (.s9 .here .here .here .here .here .here .here .here .here)
      ·replace h:=yp h zvk
       refine WC.skip ?_
       exact WX.mid (nth ([z1q.2,z1r.2] : List Int) z3j) h (.r10 rfl rfl rfl rfl rfl rfl rfl rfl rfl rfl) (.s9 .here .here .here .here .here .here .here .here .here)
     ·rintro z8G h
      replace h:=(zQ9 z8G).symm.trans h
      refine WC.b (WC.a (WL.pu rfl (WL.qA 79 (y13 rfl) (WL.qA 80 (ya y8I rfl rfl) (WL.qA 81 (yc y2Z rfl (ym .h2 rfl)) (WL.pu rfl (WL.nil (WX.a (WC.cond rfl (fun zvl=>?_) (fun zvl=>?_))))))))))
      ·replace h:=yo h zvl
       refine WC.a (WL.pu rfl (WL.pu rfl (WL.qA 85 (y13 rfl) (WL.qA 86 (ya y8I rfl rfl) (WL.yj rfl rfl (y4y (ds:=[(.slice z6Y zf.fModules.length z6Z),(.slice z71 zf.fChannels.length z72),(.slice z73 zf.fSwitches.length z74),(.slice z75 zf.fLinks.length z78),(.slice z79 zf.fVLs.length z7a),(.slice z7b zf.fHealth.length z7c),(.slice z7d zf.fCauses.length z7e),(.slice z7f zf.fVersions.length z7g),(.slice z7h z5r.length z7i),(.map (some z35)),(.map (some z36)),(.int .i64 z8G)]) y9D rfl rfl rfl rfl rfl .h2 rfl rfl) (WL.nil (WX.yk ?_)))))))
       exact WX.mid z8G h (.r9 rfl rfl rfl rfl rfl rfl rfl rfl rfl) (.s9 .h1 .h1 .here .here .here .here .here .here .here)
      ·replace h:=yp h zvl
       refine WC.skip (WX.yk ?_)
       exact WX.mid z5q h (.r9 rfl rfl rfl rfl rfl rfl rfl rfl rfl) (.s9 .here .here .here .here .here .here .here .here .here)
    ·rintro zaR h
     replace h:=(zQ8 zaR).symm.trans h
     refine WC.a (WL.pu rfl (WL.pu rfl (WL.nil ?_)))
     exact WX.round ⟨zvg,(i64 (z3j + 1)),zaR⟩ h (Nat.lt_succ_self _) (.r9 rfl rfl rfl rfl rfl rfl rfl rfl rfl) (.s9 .here .here .here .here .here .here .here .here .here)
   ·replace h:=yp h zvj
    refine WC.exit (WX.yg (WX.yg (WX.yA ?_)))
    exact WX.mid z5q h (.r6 rfl rfl rfl rfl rfl rfl) (.s8 .here .h1 .h1 .h1 .h1 .h1 .h1 .h1)
  ·rintro zcN h
   replace h:=(zQ7 zcN).symm.trans h
   refine WC.b ?_
   obtain ⟨zl0,zQa,h⟩:=z6 h
   refine WC.yO (fun i=>[7].contains i) [] rfl (WD.pA 0 88 rfl (fun _=>q_m rfl) (WD.pA 1 89 rfl (fun _=>y13 rfl) (WD.pA 2 90 rfl (fun _=>ya ycv rfl rfl) (WD.qA 3 91 rfl (yc y9C rfl (ym .h1 rfl)) (WD.qA 4 92 rfl (yf y3I rfl (yh .h2) rfl) (WD.qA 5 93 rfl (yf zb rfl (yh .h4) rfl) (WD.eA 6 94 rfl (z8 Tryz.call46 (.cons rfl .nil)) (ccz hz .nil .here fun w pz ho=>y5C _ _ _ zQa w pz ) (WD.y3l (i:=7) rfl (by kernel_rfl) rfl rfl rfl (by kernel_rfl) (y5z (k:=z1l) (v:=zl0) y7s Tryz.underlying93 rfl rfl rfl rfl .h7) (WD.done (by kernel_rfl) (WX.a (WC.b ?_)))))))))))
   obtain ⟨zvh,zQb,h⟩:=z6 h
   refine WC.yO (fun i=>[15].contains i) [] rfl (WD.pA 0 95 rfl (fun _=>ya y8H rfl rfl) (WD.qA 1 96 rfl (yc yx rfl (ym .h3 rfl)) (WD.pA 2 97 rfl (fun _=>ya y9B rfl rfl) (WD.qA 3 98 rfl (yc yx rfl (ym .h3 rfl)) (WD.pA 4 99 rfl (fun _=>q_m rfl) (WD.pA 5 100 rfl (fun _=>y13 rfl) (WD.pA 6 101 rfl (fun _=>ya ycv rfl rfl) (WD.qA 7 102 rfl (yc y9C rfl (ym .h2 rfl)) (WD.qA 8 103 rfl (yf y3I rfl (yh .h3) rfl) (WD.qA 9 104 rfl (y3m (k:=z1l) (dflt:=(0 : Int)) y7s Tryz.underlying93 y4V rfl rfl rfl .here) (WD.qA 10 105 rfl (yf zb rfl (yh .h6) rfl) (WD.eA 11 106 rfl (z8 Tryz.call46 (.cons rfl .nil)) (ccz hz .nil .h1 fun w pz ho=>y5C _ _ _ zQb w pz ) (WD.pA 12 107 rfl (fun _=>q_m rfl) (WD.pA 13 108 rfl (fun _=>ybS rfl rfl rfl) (WD.pA 14 109 rfl (fun _=>yI (v:=(.agg #[(.int .i64 z1l.fNode),(.int .i64 z1l.fLink),(.int .i64 (yq (yL z5s z1l zl0) z1l 0)),(.int .i64 (i64 (zvh + z34.2.1)))])) (Eos.parts (l:=[.tmp 96,.tmp 98,.tmp 104,.tmp 108]) (.r4 rfl rfl rfl rfl) [0,1,2,3]) (fun _=>by kernel_rfl)) (WD.y3l (i:=15) rfl (by kernel_rfl) rfl rfl rfl (by kernel_rfl) (yl sizT_58 rfl rfl rfl .h4 rfl rfl rfl) (WD.done (by kernel_rfl) (WX.a (WC.ret ?_)))))))))))))))))))
   obtain rfl:=Option.some.inj h
   refine WX.ye Tryz.results22 (.agg rfl y9E rfl (yh .here) .nil) (fun w hw=>?_)
   exact ⟨yC rfl,hw.sub (.s3 .h3 .h6 .h1)⟩
def y1V (z5M : Sapi_PortBound) (z5N : Sapi_PortBound) : Option Int :=
 (y1j (⟨z5M.fNode,z5M.fLink⟩ : Sbound_place) (⟨z5N.fNode,z5N.fLink⟩ : Sbound_place)).bind fun zDk=>some zDk
theorem ybo (Z : Zp)  (z5M : Sapi_PortBound) (z5N : Sapi_PortBound) (r : Int)
  (h : y1V z5M z5N = some r) (w₀ : World) (hz : PZ [] w₀ Z) :
  Calls Tryz.prog 24 #[(.agg #[(.int .i64 z5M.fNode),(.int .i64 z5M.fLink),(.int .i64 z5M.fDelay),(.int .i64 z5M.fStore)]),(.agg #[(.int .i64 z5N.fNode),(.int .i64 z5N.fLink),(.int .i64 z5N.fDelay),(.int .i64 z5N.fStore)])] w₀ fun e w'=>e = .returned (.int .i64 r) ∧ Hp [] w₀ w' []:=by
 unfold y1V at h
 refine Calls.yJ Tryz.func24 Tryz.ntmps24 ?_
 refine WC.b (WC.a (WL.nA 2 (yH (cs:=[(.int .i64 z5M.fNode),(.int .i64 z5M.fLink),(.int .i64 z5M.fDelay),(.int .i64 z5M.fStore)]) rfl rfl) ?_))
 intro zYH _
 refine WL.nA 3 (yH (cs:=[(.int .i64 z5N.fNode),(.int .i64 z5N.fLink),(.int .i64 z5N.fDelay),(.int .i64 z5N.fStore)]) rfl rfl) ?_
 intro zYI _
 refine WL.pu rfl (WL.nil (WX.a (WC.b ?_)))
 obtain ⟨zDk,zQc,h⟩:=z6 h
 refine WC.a (WL.qA 5 (ya ycw rfl rfl) (WL.qA 6 (yc yx rfl (ym .h1 rfl)) (WL.qA 7 (ya ycx rfl rfl) (WL.qA 8 (yc yx rfl (ym .h1 rfl)) (WL.qA 9 (yI (v:=(.agg #[(.int .i64 z5M.fNode),(.int .i64 z5M.fLink)])) (Eos.parts (l:=[.tmp 6,.tmp 8]) (.r2 rfl rfl) [0,1]) (fun _=>by kernel_rfl)) (WL.qA 10 (ya ycw rfl rfl) (WL.qA 11 (yc yx rfl (ym .here rfl)) (WL.qA 12 (ya ycx rfl rfl) (WL.qA 13 (yc yx rfl (ym .here rfl)) (WL.qA 14 (yI (v:=(.agg #[(.int .i64 z5N.fNode),(.int .i64 z5N.fLink)])) (Eos.parts (l:=[.tmp 11,.tmp 13]) (.r2 rfl rfl) [0,1]) (fun _=>by kernel_rfl)) (WL.cA 15 (z8 Tryz.call25 (.r2 rfl rfl)) .nil (cc hz .nil fun w pz ho=>y7F _ _ _ _ zQc w pz ) (WL.pu rfl (WL.nil (WX.a (WC.ret ?_)))))))))))))))
 obtain rfl:=Option.some.inj h
 refine WX.ye Tryz.results24 (.tmp rfl .nil) (fun w hw=>?_)
 exact ⟨yC rfl,hw.sub .nil⟩
theorem srtA_47 : ∀ w,(isAgg (Tryz.y3i.t 24)).run Tryz.prog w = .ok true w:=fun _=>by kernel_rfl
theorem srtZ_47 : ∀ w,(Go.sizeOf (Tryz.y3i.t 24)).run Tryz.prog w = .ok 4 w:=fun _=>by kernel_rfl
def y2X (z4A : List Sapi_PortBound) (zl2 : Int) (zl3 : Int) (zhQ : Int) (zeS : Sapi_PortBound → Sapi_PortBound → Option Int) : Option (List Sapi_PortBound):=chk ((zl2 = 0 ∧ zl3 = ((z4A.length : Nat) : Int)) ∧ (0 ≤ zhQ ∧ zhQ < 4611686018427387904 ∧ z4A.length < 4611686018427387904)) (chk (y7h zeS (yZ zeS z4A) = true) (some (yZ zeS z4A)))
theorem y6s (Z : Zp) (zeT : Option Addr) (zeU : Nat) (zl4 : FuncId) (zvm : List Value) (z4A : List Sapi_PortBound) (zl2 : Int) (zl3 : Int) (zhQ : Int) (zeS : Sapi_PortBound → Sapi_PortBound → Option Int) (r : List Sapi_PortBound) (w₀ : World) (hz : PZ (fps [row (.slice zeT z4A.length zeU) 58 4 (z4A.flatMap e58)]) w₀ Z)
  (zQd : ∀ args w,(callFunc zl4 args).run Tryz.prog w = .ok (.enter zl4 args) w)
  (zQe : ∀ w : World,PZ [] w Z → ∀ (x0 : Sapi_PortBound) (x1 : Sapi_PortBound) (r : Int),zeS x0 x1 = some r → Calls Tryz.prog zl4 (([(.agg #[(.int .i64 x0.fNode),(.int .i64 x0.fLink),(.int .i64 x0.fDelay),(.int .i64 x0.fStore)]),(.agg #[(.int .i64 x1.fNode),(.int .i64 x1.fLink),(.int .i64 x1.fDelay),(.int .i64 x1.fStore)])] : List Value) ++ zvm).toArray w fun e w'=>e = .returned (.int .i64 r) ∧ Hp [] w w' [])
  (h : y2X z4A zl2 zl3 zhQ zeS = some r) (hown : Hp (fps [row (.slice zeT z4A.length zeU) 58 4 (z4A.flatMap e58)]) w₀ w₀ [row (.slice zeT z4A.length zeU) 58 4 (z4A.flatMap e58)]) :
  Calls Tryz.prog 47 #[(.slice zeT z4A.length zeU),(.int .i64 zl2),(.int .i64 zl3),(.int .i64 zhQ),(.func (.func zl4) #[] (zvm).toArray)] w₀ fun e w'=>e = .returned (.tuple #[]) ∧ (r.length = z4A.length) ∧ Hp (fps [row (.slice zeT z4A.length zeU) 58 4 (z4A.flatMap e58)]) w₀ w' [row (.slice zeT r.length zeU) 58 4 (r.flatMap e58)]:=by
 obtain ⟨h0,h⟩:=yn h
 obtain ⟨h1,h⟩:=yn h
 have hr:=(Option.some.inj h).symm
 exact y84 (P:=Tryz.prog) (f:=47) (e:=58) (k:=4) (enc:=e58) (fun _=>rfl) (by decide) ydy (fun β _ enc cf g cb hO blk off cap d0 w0 eg hC R=>Tryz.y86 4 srtA_47 srtZ_47 enc cf g cb hO blk off cap d0 w0 eg hC R) (Tryz.y7T (α:=Unit)) hz zQd zQe h0 h1 hr hown
def y1f (z3Y : List Sapi_PortBound) (zhR : Sapi_PortBound → Sapi_PortBound → Option Int) : Option (List Sapi_PortBound) :=
 (y40 (u64 ((z3Y.length : Nat) : Int))).bind fun znS=>(y2X z3Y 0 ((z3Y.length : Nat) : Int) znS zhR).bind fun znT=>some znT
theorem y5s (Z : Zp) (zcR : Option Addr) (zcS : Nat) (zhS : FuncId) (znU : List Value) (z3Y : List Sapi_PortBound) (zhR : Sapi_PortBound → Sapi_PortBound → Option Int) (r : List Sapi_PortBound)
  (h : y1f z3Y zhR = some r) (w₀ : World) (hz : PZ (fps [row (.slice zcR z3Y.length zcS) 58 4 (z3Y.flatMap e58)]) w₀ Z)
  (zQf : ∀ args w,(callFunc zhS args).run Tryz.prog w = .ok (.enter zhS args) w)
  (zQg : ∀ w : World,PZ [] w Z → ∀ (x0 : Sapi_PortBound) (x1 : Sapi_PortBound) (r : Int),zhR x0 x1 = some r → Calls Tryz.prog zhS (([(.agg #[(.int .i64 x0.fNode),(.int .i64 x0.fLink),(.int .i64 x0.fDelay),(.int .i64 x0.fStore)]),(.agg #[(.int .i64 x1.fNode),(.int .i64 x1.fLink),(.int .i64 x1.fDelay),(.int .i64 x1.fStore)])] : List Value) ++ znU).toArray w fun e w'=>e = .returned (.int .i64 r) ∧ Hp [] w w' [])
  (hown : Hp (fps [row (.slice zcR z3Y.length zcS) 58 4 (z3Y.flatMap e58)]) w₀ w₀ [row (.slice zcR z3Y.length zcS) 58 4 (z3Y.flatMap e58)]) :
  Calls Tryz.prog 23 #[(.slice zcR z3Y.length zcS),(.func (.func zhS) #[] (znU).toArray)] w₀ fun e w'=>e = .returned (.tuple #[]) ∧ (r.length = z3Y.length) ∧ Hp (fps [row (.slice zcR z3Y.length zcS) 58 4 (z3Y.flatMap e58)]) w₀ w' [row (.slice zcR r.length zcS) 58 4 (r.flatMap e58)]:=by
 unfold y1f at h
 refine Calls.oh2 Tryz.func23 Tryz.ntmps23 hown ?_
 refine WC.b (WC.a (WL.pu rfl (WL.qA 6 (yG Tryz.underlying35 rfl) (WL.pu rfl (WL.nil (WX.a ?_))))))
 obtain ⟨znS,zQh,h⟩:=z6 h
 obtain ⟨znT,zQi,h⟩:=z6 h
 refine WC.a (WL.pu rfl (WL.pu rfl (WL.pu rfl (WL.qA 10 (y77 Tryz.underlying3 Tryz.underlying142 rfl rfl) (WL.cA 11 (z8 Tryz.call48 (.cons rfl .nil)) .nil (cc hz .nil fun w pz ho=>y7G (Z:=_)  (z6F:=(u64 ((z3Y.length : Nat) : Int))) (r:=znS) w pz  zQh) (WL.pu rfl (WL.y4R (dd:=13) rfl rfl rfl (z8 Tryz.call47 (.r5 rfl rfl rfl rfl rfl)) (.cons .here .nil) (cc hz (.cons .here .nil) fun w pz ho=>y6s (Z:=_) (zeT:=zcR) (zeU:=zcS) (zl4:=zhS) (zvm:=znU) (z4A:=z3Y) (zl2:=0) (zl3:=((z3Y.length : Nat) : Int)) (zhQ:=znS) (zeS:=zhR) (r:=znT) w pz zQf zQg zQi ho) ?_)))))))
 rintro  zDl
 refine WL.repin (i:=0) rfl (u:=(.slice zcR znT.length zcS)) (y5W zDl.symm) (WL.nil ?_)
 obtain rfl:=Option.some.inj h
 refine WX.y4Q Tryz.results23 .nil (fun w hw=>?_)
 exact ⟨y7f,(zDl.trans rfl),hw.sub (.cons .here .nil)⟩
def y3x (z1w : List Sapi_Hop) (zaS : Option Bool) : Nat → Int → Option Bool
 | 0,_=>none
 | zvn + 1,z1D=>if decide (z1D < ((z1w.length : Nat) : Int)) then chk ((0 : Int) ≤ z1D ∧ z1D < ((z1w.length : Nat) : Int)) (chk ((0 : Int) ≤ 0 ∧ (0 : Int) ≤ z1D ∧ z1D ≤ ((z1w.length : Nat) : Int)) ((y51 (z1w.take (z1D : Int).toNat) ((nth z1w z1D).fNode)).bind fun z37=>chk ((!z37.2) = true → ((0 : Int) ≤ 0 ∧ 0 < ((z1w.length : Nat) : Int))) (if (!z37.2) && (decide (((nth z1w z1D).fNode) ≠ ((nth z1w 0).fNode))) then some false else y3x z1w zaS zvn (i64 (z1D + 1))))) else zaS
theorem ya9 {n : Nat} {z1w : List Sapi_Hop} {zaS : Option Bool} {z1D : Int} {r : Bool} (h : y3x z1w zaS n z1D = some r) : ∃ m,n = m + 1:=by
 cases n with
 | zero=>cases h
 | succ m=>exact ⟨m,rfl⟩
def y6F (z1w : List Sapi_Hop) : Option Bool :=
 jp0 (some true) fun zaS=>y3x z1w zaS yz 0
theorem ydE (Z : Zp) (zeV : Option Addr) (zeW : Nat) (z1w : List Sapi_Hop) (r : Bool)
  (h : y6F z1w = some r) (w₀ : World) (hz : PZ [] w₀ Z)
  (zvo : ZS Z 3 (fun r x=>r = e62 x) zeV zeW z1w) :
  Calls Tryz.prog 52 #[(.slice zeV z1w.length zeW)] w₀ fun e w'=>e = .returned (.bool r) ∧ Hp [] w₀ w' []:=by
 unfold y6F at h
 refine Calls.on1 Tryz.func52 Tryz.ntmps52 ?_
 refine WC.b (WC.a (WL.pu rfl (WL.nil (WX.a ?_))))
 obtain ⟨zaS,zQj,h⟩:=y2y h
 refine WC.y1P ((zaS = some r)) ([]) ([]) ?_ ?_
 ·skip
  refine WC.b (WC.a (WL.pu rfl (WL.qA 8 (yG Tryz.underlying48 rfl) (WL.pu rfl (WL.nil (WX.a (WC.block (WC.y2V (fun (zhT : Nat) (z1D : Int)=>(y3x z1w zaS zhT z1D = some r)) (fun zhT z1D=>[(0,(.slice zeV z1w.length zeW)),(7,(.slice zeV z1w.length zeW)),(8,(.int .i64 ((z1w.length : Nat) : Int))),(9,(.int .i64 z1D))]) (fun zhT z1D=>[]) (fun zhT z1D=>zhT) ⟨yz,0⟩ h (.r4 rfl rfl rfl rfl) .nil ?_))))))))
  rintro zhT z1D h
  obtain ⟨zvn,rfl⟩:=ya9 h
  rw [y3x] at h
  refine WC.b (WC.a (WL.pu rfl (WL.nil (WX.a (WC.b (WC.cond rfl (fun zvp=>?_) (fun zvp=>?_)))))))
  ·replace h:=yo h zvp
   refine WC.skip (WX.a (WC.b (WC.block (WC.b ?_))))
   obtain ⟨zQk,h⟩:=yn h
   refine WC.a (WL.pu rfl (WL.znth (dd:=12) rfl rfl (Z:=Z) (Pr:=(fun r x=>r = e62 x)) y5H rfl rfl zvo zQk ?_))
   rintro zQl zYJ zQm zYK rfl
   refine WL.qA 13 (yf y3H rfl (y2v hz.pv zQm) rfl) (WL.nA 4 (yw (cs:=[(.int .i64 0),(.int .i64 0),(.int .i64 0)]) y6B rfl) ?_)
   intro zDm _
   refine WL.pu rfl (WL.yj rfl rfl (yl y6Q rfl rfl rfl .here rfl rfl rfl) (WL.nil (WX.a (WC.b ?_))))
   obtain ⟨zQn,h⟩:=yn h
   obtain ⟨z37,zQo,h⟩:=z6 h
   refine WC.yO (fun i=>[10].contains i) [] rfl (WD.pA 0 15 rfl (fun _=>q_m rfl) (WD.pA 1 16 rfl (fun _=>q_m rfl) (WD.zsub (j:=2) (dd:=17) (by kernel_rfl) rfl z2j z2k rfl rfl (Z:=Z) (Pr:=(fun r x=>r = e62 x)) y5H rfl zvo (fun _=>ixn) (fun _=>ixo rfl) rfl rfl zQn (List.drop_zero).symm ?_)))
   rintro zQp zQq zQr
   refine WD.pA 3 18 rfl (fun _=>ya y4U rfl rfl) (WD.qA 4 19 rfl (yc yx rfl (ym .here rfl)) (WD.eA 5 20 rfl (z8 Tryz.call39 (.r2 rfl rfl)) (cc hz .nil fun w pz ho=>y8P _ _ _ _ _ _ zQo w pz zQr) (WD.pA 6 14 rfl (fun _=>q_m rfl) (WD.pA 7 21 rfl (fun _=>y7m rfl rfl) (WD.pA 8 22 rfl (fun _=>y7m rfl rfl) (WD.new (i:=9) (dd:=5) rfl (by kernel_rfl) rfl rfl rfl (yw (cs:=[(.int .i64 0),(.int .i64 0),(.int .i64 0)]) y6B rfl) (fun h'=>absurd h' (by decide)) ?_))))))
   intro zQs _
   refine WD.forced0 (i:=10) rfl (by kernel_rfl) rfl rfl rfl (Sin.of .nil) (yl y6Q rfl rfl rfl .here rfl rfl rfl) (WD.pA 11 6 rfl (fun _=>q_z rfl) (WD.done (by kernel_rfl) (WX.a (WC.b ?_))))
   obtain ⟨zQt,h⟩:=yn h
   refine WC.yO (fun i=>[].contains i) [] rfl (WD.pA 0 23 rfl (fun _=>q_m rfl) (WD.pA 1 24 rfl (fun _=>q_not rfl) (WD.pA 2 25 rfl (fun _=>q_m rfl) (WD.mid (fuel':=0) [(0,(.slice zeV z1w.length zeW)),(7,(.slice zeV z1w.length zeW)),(8,(.int .i64 ((z1w.length : Nat) : Int))),(9,(.int .i64 z1D)),(10,(.bool (decide (z1D < ((z1w.length : Nat) : Int))))),(11,(.int .i64 z1D)),(12,(.pointer (some zQl))),(13,(.agg #[(.int .i64 ((nth z1w z1D).fNode)),(.int .i64 ((nth z1w z1D).fNext)),(.int .i64 ((nth z1w z1D).fLink))])),(4,(.pointer (some ⟨zDm,0,none⟩))),(3,(.int .i64 z1D)),(15,(.slice zeV z1w.length zeW)),(16,(.int .i64 z1D)),(17,(.slice zQp ((z1w.take (z1D : Int).toNat).length) zQq)),(18,(.pointer (some ⟨zDm,0,none⟩))),(19,(.int .i64 ((nth z1w z1D).fNode))),(20,(.tuple #[(.agg #[(.int .i64 z37.1.fNode),(.int .i64 z37.1.fNext),(.int .i64 z37.1.fLink)]),(.bool z37.2)])),(14,(.tuple #[(.agg #[(.int .i64 z37.1.fNode),(.int .i64 z37.1.fNext),(.int .i64 z37.1.fLink)]),(.bool z37.2)])),(21,(.agg #[(.int .i64 z37.1.fNode),(.int .i64 z37.1.fNext),(.int .i64 z37.1.fLink)])),(22,(.bool z37.2)),(5,(.pointer (some ⟨zQs,0,none⟩))),(6,(.bool z37.2)),(23,(.bool z37.2)),(24,(.bool (!z37.2))),(25,(.bool (!z37.2))),(33,(.bool ((!z37.2) && (decide (((nth z1w z1D).fNode) ≠ ((nth z1w 0).fNode))))))] (y4h 11 [10,9,8,7,6,5,4,3,2,1,0]) ?_ (fun zDn=>?_)))))
   rotate_left
   ·rcases Bool.eq_false_or_eq_true (!z37.2) with hb' | hb'
    ·have znV:=hb'; clear hb'
     have zQu:=zQt znV
     refine WD.pin (i:=25) rfl znV (WD.pA 3 26 rfl (fun _=>ya y4U rfl rfl) (WD.qA 4 27 rfl (yc yx rfl (ym .h1 rfl)) (WD.pA 5 28 rfl (fun _=>q_m rfl) (WD.znth (j:=6) (dd:=29) (by kernel_rfl) rfl z2j z2k rfl rfl (Z:=Z) (Pr:=(fun r x=>r = e62 x)) y5H rfl rfl zvo zQu ?_))))
     rintro zYL zYM zQv zYN rfl
     refine WD.pA 7 30 rfl (fun _=>ya y4U rfl rfl) (WD.qA 8 31 rfl (yc yx rfl (y1k hz.pv zQv rfl)) (WD.pA 9 32 rfl (fun _=>q_neq rfl rfl) (WD.pA 10 33 rfl (fun _=>y3E rfl rfl) (WD.reL (.s2 .here .here) ?_ zDn))))
     exact (.cons rfl (.cons rfl (.cons rfl (.cons rfl (.cons rfl (.cons rfl (.cons rfl (.cons rfl (.cons rfl (.cons rfl (.cons rfl (.cons rfl (.cons rfl (.cons rfl (.cons rfl (.cons rfl (.cons rfl (.cons rfl (.cons rfl (.cons rfl (.cons rfl (.cons rfl (.cons rfl (.cons (zB (Eq.symm znV)) (.cons (zB (y2P znV)) .nil)))))))))))))))))))))))))
    ·have zvq:=hb'; clear hb'
     refine WD.pin (i:=25) rfl zvq (WD.kA 3 26 rfl (WD.kA 4 27 rfl (WD.kA 5 28 rfl (WD.kA 6 29 rfl (WD.kA 7 30 rfl (WD.kA 8 31 rfl (WD.kA 9 32 rfl (WD.pA 10 33 rfl (fun _=>y3F rfl rfl) (WD.reL (.s2 .here .here) ?_ zDn)))))))))
     exact (.cons rfl (.cons rfl (.cons rfl (.cons rfl (.cons rfl (.cons rfl (.cons rfl (.cons rfl (.cons rfl (.cons rfl (.cons rfl (.cons rfl (.cons rfl (.cons rfl (.cons rfl (.cons rfl (.cons rfl (.cons rfl (.cons rfl (.cons rfl (.cons rfl (.cons rfl (.cons rfl (.cons (zB (Eq.symm zvq)) (.cons (zB (y2O zvq)) .nil)))))))))))))))))))))))))
   refine WD.done (by kernel_rfl) (WX.a (WC.cond rfl (fun zvr=>?_) (fun zvr=>?_)))
   ·replace h:=yo h zvr
    refine WC.b (WC.a (WL.pu rfl (WL.nil (WX.a (WC.ret (WX.yt (WX.yd (WX.yd (WX.yt (WX.yd ?_))))))))))
    obtain rfl:=Option.some.inj h
    refine WX.ye Tryz.results52 (.tmp rfl .nil) (fun w hw=>?_)
    exact ⟨yC rfl,hw.sub .nil⟩
   ·replace h:=yp h zvr
    refine WC.skip (WX.yk (WX.a (WC.a (WL.pu rfl (WL.pu rfl (WL.nil ?_))))))
    exact WX.round ⟨zvn,(i64 (z1D + 1))⟩ h (Nat.lt_succ_self _) (.r4 rfl rfl rfl rfl) .nil
  ·replace h:=yp h zvp
   refine WC.exit (WX.yg (WX.yg (WX.yA ?_)))
   exact WX.mid () h .nil .nil
 ·rintro  h
  replace h:=zQj.symm.trans h
  refine WC.b (WC.a (WL.pu rfl (WL.nil (WX.a (WC.ret ?_)))))
  obtain rfl:=Option.some.inj h
  refine WX.ye Tryz.results52 (.tmp rfl .nil) (fun w hw=>?_)
  exact ⟨yC rfl,hw.sub .nil⟩
def y3O (zl5 : List Sapi_Hop) : Option Bool :=
 (y6F zl5).bind fun zDo=>some (!zDo)
theorem ycF (Z : Zp) (zDp : Option Addr) (zDq : Nat) (zl5 : List Sapi_Hop) (r : Bool)
  (h : y3O zl5 = some r) (w₀ : World) (hz : PZ [] w₀ Z)
  (zQw : ZS Z 3 (fun r x=>r = e62 x) zDp zDq zl5) :
  Calls Tryz.prog 51 #[(.slice zDp zl5.length zDq)] w₀ fun e w'=>e = .returned (.bool r) ∧ Hp [] w₀ w' []:=by
 unfold y3O at h
 refine Calls.on1 Tryz.func51 Tryz.ntmps51 ?_
 refine WC.b (WC.a (WL.pu rfl (WL.nil (WX.a (WC.b ?_)))))
 obtain ⟨zDo,zQx,h⟩:=z6 h
 refine WC.a (WL.pu rfl (WL.cA 4 (z8 Tryz.call52 (.cons rfl .nil)) .nil (cc hz .nil fun w pz ho=>ydE _ _ _ _ _ zQx w pz zQw) (WL.pu rfl (WL.pu rfl (WL.nil (WX.a (WC.ret ?_)))))))
 obtain rfl:=Option.some.inj h
 refine WX.ye Tryz.results51 (.tmp rfl .nil) (fun w hw=>?_)
 exact ⟨yC rfl,hw.sub .nil⟩
def y2T (zaT : Sapi_End) (zaU : Sapi_End) : Option Int :=
 some (i64 (zaT.fNode - zaU.fNode))
theorem ycG (Z : Zp)  (zaT : Sapi_End) (zaU : Sapi_End) (r : Int)
  (h : y2T zaT zaU = some r) (w₀ : World) (hz : PZ [] w₀ Z) :
  Calls Tryz.prog 54 #[(.agg #[(.int .i64 zaT.fVL),(.int .i64 zaT.fNode),(.int .i64 zaT.fDelay)]),(.agg #[(.int .i64 zaU.fVL),(.int .i64 zaU.fNode),(.int .i64 zaU.fDelay)])] w₀ fun e w'=>e = .returned (.int .i64 r) ∧ Hp [] w₀ w' []:=by
 unfold y2T at h
 refine Calls.yJ Tryz.func54 Tryz.ntmps54 ?_
 refine WC.b (WC.a (WL.nA 2 (yH (cs:=[(.int .i64 zaT.fVL),(.int .i64 zaT.fNode),(.int .i64 zaT.fDelay)]) rfl rfl) ?_))
 intro zYO _
 refine WL.nA 3 (yH (cs:=[(.int .i64 zaU.fVL),(.int .i64 zaU.fNode),(.int .i64 zaU.fDelay)]) rfl rfl) ?_
 intro zYP _
 refine WL.pu rfl (WL.nil (WX.a (WC.b (WC.a (WL.qA 5 (ya yew rfl rfl) (WL.qA 6 (yc yx rfl (ym .h1 rfl)) (WL.qA 7 (ya yew rfl rfl) (WL.qA 8 (yc yx rfl (ym .here rfl)) (WL.pu rfl (WL.pu rfl (WL.nil (WX.a (WC.ret ?_)))))))))))))
 obtain rfl:=Option.some.inj h
 refine WX.ye Tryz.results54 (.tmp rfl .nil) (fun w hw=>?_)
 exact ⟨yC rfl,hw.sub .nil⟩
end Go.Proofs.YtcahmabkeaijdaaGreat
