/- A part of this claim's proof: models of functions, walks, plain laws. No conditions. -/
import Derived.Test.YtcahmabkeaijdaaGreatW35xd
set_option linter.all false
namespace Go.Proofs.YtcahmabkeaijdaaGreat
open Go Go.RowKit Sep
set_option maxRecDepth 30000
set_option maxHeartbeats 4000000
def y2G(z6Z:List (List z7))(z68:zSv)(zbf:z2)(z3S:List z2)(znO:Int):Option (Bool×(Nat×List z2×Int)):=
 (y4F (⟨znO⟩:z1C) zbf z6Z z68).bind fun z71=>(if decide (((z3S.length:Nat):Int)=0) then some true else chk ((0:Int)≤0∧0<((z3S.length:Nat):Int)) ((y1i z71.1 (⟨((nth z3S 0).fN),((nth z3S 0).fD)⟩:z2)).bind fun zCO=>some (decide (zCO>0)))).bind fun zuF=>if zuF then some (true,(0,([z71.1]:List z2),z71.2.fE)) else some (true,(0,z3S,z71.2.fE))
def y3W(z1m:List (List z7))(zq:zSv)(z6Z:List (List z7))(z68:zSv)(z1n:List z2):Option (z2×Int):=
 (y3q z1m zq z6Z z68 z1n).bind fun zkQ=>if decide (zkQ≠0) then some ((⟨0,0⟩:z2),zkQ) else jp2 (fun(z9b:Int) (z6r:List z2)=>if decide (z9b≠0) then some ((⟨0,0⟩:z2),z9b) else chk ((0:Int)≤0∧0<((z6r.length:Nat):Int)) (some ((⟨((nth z6r 0).fN),((nth z6r 0).fD)⟩:z2),0))) fun zuG=>(y4e z1m zq z6Z z68 z1n).bind fun zC=>(y2X (Nat×List z2×Int) (fun(x:z2) (s:Nat×List z2×Int)=>chk (s.1=0) (y2G z6Z z68 x s.2.1 s.2.2)) (0,([]:List z2),0) z1m (⟨(⟨zC.1,zC.2.1⟩:z2),(⟨zC.2.2.1,zC.2.2.2⟩:z2)⟩:zSv) z6Z z68 z1n).bind fun z4i=>zuG z4i.2.2 z4i.2.1
theorem yav(Z:Zp)(z1E:Option Addr)(z1F:Nat)(z1w:Addr)(zuH:Option Addr)(zuI:Nat)(z1x:Addr)(z1G:Option Addr)(z1H:Nat)(z1m:List (List z7))(zq:zSv)(z6Z:List (List z7))(z68:zSv)(z1n:List z2)(r:z2×Int)(h:y3W z1m zq z6Z z68 z1n=some r)(w₀:World)(hz:PZ [] w₀ Z)(zuJ:ZS Z 1 (y1W Z) z1E z1F z1m)(znP:ZS Z 1 (y1W Z) zuH zuI z6Z)(znQ:ZC Z z1w [(.slice zuH z6Z.length zuI)])(znR:ZC Z z1x [(.int .i64 z68.fRate.fN),(.int .i64 z68.fRate.fD),(.int .i64 z68.fL.fN),(.int .i64 z68.fL.fD)])(zuK:ZS Z 2 (fun r x=>r=yw x) z1G z1H z1n):
  Calls Tryz.prog 77 #[(.agg #[(.slice z1E z1m.length z1F),(.int .i64 zq.fRate.fN),(.int .i64 zq.fRate.fD),(.int .i64 zq.fL.fN),(.int .i64 zq.fL.fD),(.func (.func 72) #[] #[(.pointer (some z1w)),(.pointer (some z1x))]),(.slice z1G z1n.length z1H)])] w₀ fun e w'=>e = .returned (.tuple #[(.agg #[(.int .i64 r.1.fN),(.int .i64 r.1.fD)]),(.int .i64 r.2)])∧Hp [] w₀ w' []:=by
 unfold y3W at h
 refine Calls.ya1 (vs:=[(.agg #[(.slice z1E z1m.length z1F),(.int .i64 zq.fRate.fN),(.int .i64 zq.fRate.fD),(.int .i64 zq.fL.fN),(.int .i64 zq.fL.fD),(.func (.func 72) #[] #[(.pointer (some z1w)),(.pointer (some z1x))]),(.slice z1G z1n.length z1H)])]) (pre:=[]) (env:=[(0,(.agg #[(.slice z1E z1m.length z1F),(.int .i64 zq.fRate.fN),(.int .i64 zq.fRate.fD),(.int .i64 zq.fL.fN),(.int .i64 zq.fL.fD),(.func (.func 72) #[] #[(.pointer (some z1w)),(.pointer (some z1x))]),(.slice z1G z1n.length z1H)]))]) Tryz.func77 rfl Tryz.ntmps77 rfl (Hp.nil w₀ _) rfl ?_
 refine WC.b (WC.a (WL.nA 1 (yI (cs:=[(.slice z1E z1m.length z1F),(.int .i64 zq.fRate.fN),(.int .i64 zq.fRate.fD),(.int .i64 zq.fL.fN),(.int .i64 zq.fL.fD),(.func (.func 72) #[] #[(.pointer (some z1w)),(.pointer (some z1x))]),(.slice z1G z1n.length z1H)]) rfl rfl) ?_))
 intro z3E _
 refine WL.nA 2 (yv (cs:=[(.int .i64 0),(.int .i64 0)]) zT rfl) ?_
 intro z3T _
 refine WL.pu rfl (WL.nil (WX.a (WC.b (WC.b ?_))))
 obtain⟨zkQ,zOR,h⟩:=z8 h
 refine WC.a (WL.qA 9 (yh zfM rfl (yi .h1) rfl) (WL.cA 10 (zb Tryz.call109 (.cons rfl .nil)) .nil (cc hz .nil fun w pz ho=>y9L _ _ _ _ _ _ _ _ _ _ _ _ _ _ _ zOR w pz zuJ znP znQ znR zuK) (WL.pu rfl (WL.nil (WX.a (WC.b (WC.a (WL.pu rfl (WL.pu rfl (WL.nil (WX.a (WC.cond rfl (fun zuL=>?_) (fun zuL=>?_)))))))))))))
 ·replace h:=yp h zuL
  refine WC.b (WC.a (WL.qA 13 (yL (v:=(.agg #[(.int .i64 0),(.int .i64 0)])) (Eos.parts (l:=[]) .nil []) (fun _=>by kernel_rfl)) (WL.pu rfl (WL.ym rfl rfl (yl zz rfl rfl rfl .here rfl rfl rfl) (WL.pu rfl (WL.nil (WX.a (WC.ret (WX.ye ?_)))))))))
  obtain rfl:=oJ h
  refine WX.ybx Tryz.results77 (.agg rfl zf rfl (yi .here) (.tmp rfl .nil)) (fun w hw=>?_)
  exact⟨y24 rfl rfl,hw.sub .nil⟩
 ·replace h:=yq h zuL
  refine WC.skip (WX.a (WC.b (WC.a (WL.nA 5 (yv (cs:=[(.int .i64 0)]) zlY rfl) ?_))))
  intro z34 _
  refine WL.nil (WX.a (WC.b (WC.a (WL.nA 6 (yv (cs:=[(.slice none 0 0)]) zoG rfl) ?_))))
  intro z3o _
  refine WL.nil (WX.a ?_)
  obtain⟨zuG,zOS,h⟩:=y4s h
  refine WC.ycB (fun(zkR:Nat) (z9b:Int) (z6r:List z2) (zkS:Option Addr) (zkT:Nat)=>(zuG z9b z6r=some r)) (fun(zkR:Nat) (z9b:Int) (z6r:List z2) (zkS:Option Addr) (zkT:Nat)=>[(2,(.pointer (some ⟨z3T,0,none⟩))),(5,(.pointer (some ⟨z34,0,none⟩))),(6,(.pointer (some ⟨z3o,0,none⟩)))]) (fun(zkR:Nat) (z9b:Int) (z6r:List z2) (zkS:Option Addr) (zkT:Nat)=>[stb z3T 132 [(.int .i64 0),(.int .i64 0)],stb z34 225 [(.int .i64 z9b)],stb z3o 175 [(.slice zkS z6r.length zkT)],row (.slice zkS z6r.length zkT) 132 2 (z6r.flatMap yw),dfr zkR]) ?_ ?_
  ·skip
   refine WC.b ?_
   obtain⟨zC,zOT,h⟩:=z8 h
   refine WC.a (WL.qA 15 (yh zfM rfl (yi .h3) rfl) (WL.yel (dd:=16) rfl rfl rfl (zb Tryz.call110 (.cons rfl .nil)) .nil (cc hz .nil fun w pz ho=>y9t _ _ _ _ _ _ _ _ _ _ _ _ _ _ _ zOT w pz zuJ znP znQ znR zuK) ?_))
   rintro z4E _
   refine WL.nil (WX.a (WC.block (WC.drop (.s5 .h1 .h1 .h1 .h1 .here) (WC.nilRow 132 2 (WC.rangeFunc (f:=155) (caps:=[(.pointer (some ⟨z4E,0,none⟩))]) rfl Tryz.call155 ?_)))))
   intro zYG zYH z4j z6s z5k znS zOU zOV w hw
   have hw1:=hw.selAll ((.s6 .h3 .h2 .h2 .h2 .h2 .here):Sel _ [stb z3o 175 [(.slice none (([]:List z2).length) 0)],row (.slice none (([]:List z2).length) 0) 132 2 (([]:List z2).flatMap yw),stb z34 225 [(.int .i64 0)],stb z3T 132 [(.int .i64 0),(.int .i64 0)],stb z3E 177 [(.slice z1E z1m.length z1F),(.int .i64 zq.fRate.fN),(.int .i64 zq.fRate.fD),(.int .i64 zq.fL.fN),(.int .i64 zq.fL.fD),(.func (.func 72) #[] #[(.pointer (some z1w)),(.pointer (some z1x))]),(.slice z1G z1n.length z1H)],blk z4j (z5k .ready none)] _)
   have pz:=(hz.call hw1 ((.cons .here .nil):Sel [y2h [stb z3o 175 [(.slice none (([]:List z2).length) 0)],row (.slice none (([]:List z2).length) 0) 132 2 (([]:List z2).flatMap yw),stb z34 225 [(.int .i64 0)],stb z3T 132 [(.int .i64 0),(.int .i64 0)],stb z3E 177 [(.slice z1E z1m.length z1F),(.int .i64 zq.fRate.fN),(.int .i64 zq.fRate.fD),(.int .i64 zq.fL.fN),(.int .i64 zq.fL.fD),(.func (.func 72) #[] #[(.pointer (some z1w)),(.pointer (some z1x))]),(.slice z1G z1n.length z1H)],blk z4j (z5k .ready none)],dfr z6s,stb z4E 177 [(.slice z1E z1m.length z1F),(.int .i64 zC.1),(.int .i64 zC.2.1),(.int .i64 zC.2.2.1),(.int .i64 zC.2.2.2),(.func (.func 72) #[] #[(.pointer (some z1w)),(.pointer (some z1x))]),(.slice z1G z1n.length z1H)]] [y2h [stb z3o 175 [(.slice none (([]:List z2).length) 0)],row (.slice none (([]:List z2).length) 0) 132 2 (([]:List z2).flatMap yw),stb z34 225 [(.int .i64 0)],stb z3T 132 [(.int .i64 0),(.int .i64 0)],stb z3E 177 [(.slice z1E z1m.length z1F),(.int .i64 zq.fRate.fN),(.int .i64 zq.fRate.fD),(.int .i64 zq.fL.fN),(.int .i64 zq.fL.fD),(.func (.func 72) #[] #[(.pointer (some z1w)),(.pointer (some z1x))]),(.slice z1G z1n.length z1H)],blk z4j (z5k .ready none)]] [dfr z6s,stb z4E 177 [(.slice z1E z1m.length z1F),(.int .i64 zC.1),(.int .i64 zC.2.1),(.int .i64 zC.2.2.1),(.int .i64 zC.2.2.2),(.func (.func 72) #[] #[(.pointer (some z1w)),(.pointer (some z1x))]),(.slice z1G z1n.length z1H)]])).lend hw1 ((.cons .here .nil):Sel [y2h [stb z3o 175 [(.slice none (([]:List z2).length) 0)],row (.slice none (([]:List z2).length) 0) 132 2 (([]:List z2).flatMap yw),stb z34 225 [(.int .i64 0)],stb z3T 132 [(.int .i64 0),(.int .i64 0)],stb z3E 177 [(.slice z1E z1m.length z1F),(.int .i64 zq.fRate.fN),(.int .i64 zq.fRate.fD),(.int .i64 zq.fL.fN),(.int .i64 zq.fL.fD),(.func (.func 72) #[] #[(.pointer (some z1w)),(.pointer (some z1x))]),(.slice z1G z1n.length z1H)],blk z4j (z5k .ready none)],dfr z6s,stb z4E 177 [(.slice z1E z1m.length z1F),(.int .i64 zC.1),(.int .i64 zC.2.1),(.int .i64 zC.2.2.1),(.int .i64 zC.2.2.2),(.func (.func 72) #[] #[(.pointer (some z1w)),(.pointer (some z1x))]),(.slice z1G z1n.length z1H)]] [y2h [stb z3o 175 [(.slice none (([]:List z2).length) 0)],row (.slice none (([]:List z2).length) 0) 132 2 (([]:List z2).flatMap yw),stb z34 225 [(.int .i64 0)],stb z3T 132 [(.int .i64 0),(.int .i64 0)],stb z3E 177 [(.slice z1E z1m.length z1F),(.int .i64 zq.fRate.fN),(.int .i64 zq.fRate.fD),(.int .i64 zq.fL.fN),(.int .i64 zq.fL.fD),(.func (.func 72) #[] #[(.pointer (some z1w)),(.pointer (some z1x))]),(.slice z1G z1n.length z1H)],blk z4j (z5k .ready none)]] [dfr z6s,stb z4E 177 [(.slice z1E z1m.length z1F),(.int .i64 zC.1),(.int .i64 zC.2.1),(.int .i64 zC.2.2.1),(.int .i64 zC.2.2.2),(.func (.func 72) #[] #[(.pointer (some z1w)),(.pointer (some z1x))]),(.slice z1G z1n.length z1H)]]) (B:=[stb z4E 177 [(.slice z1E z1m.length z1F),(.int .i64 zC.1),(.int .i64 zC.2.1),(.int .i64 zC.2.2.1),(.int .i64 zC.2.2.2),(.func (.func 72) #[] #[(.pointer (some z1w)),(.pointer (some z1x))]),(.slice z1G z1n.length z1H)]]) (fun _ hx'=>((.cons .h1 .nil):Sel _ [stb z4E 177 [(.slice z1E z1m.length z1F),(.int .i64 zC.1),(.int .i64 zC.2.1),(.int .i64 zC.2.2.1),(.int .i64 zC.2.2.2),(.func (.func 72) #[] #[(.pointer (some z1w)),(.pointer (some z1x))]),(.slice z1G z1n.length z1H)]] _).mem hx')
   obtain⟨z4i,zOW,h⟩:=z8 h
   refine Calls.mono (y8Q (Z:=_) (z8x:=z4j) (z4g:=(Option Addr×Nat)) (z2y:=(fun(g:Option Addr×Nat) (s:Nat×List z2×Int)=>y2h ([stb z3o 175 [(.slice g.1 s.2.1.length g.2)],row (.slice g.1 s.2.1.length g.2) 132 2 (s.2.1.flatMap yw),stb z34 225 [(.int .i64 s.2.2)],stb z3T 132 [(.int .i64 0),(.int .i64 0)],stb z3E 177 [(.slice z1E z1m.length z1F),(.int .i64 zq.fRate.fN),(.int .i64 zq.fRate.fD),(.int .i64 zq.fL.fN),(.int .i64 zq.fL.fD),(.func (.func 72) #[] #[(.pointer (some z1w)),(.pointer (some z1x))]),(.slice z1G z1n.length z1H)]]++[blk z4j (z5k (rdy (pcs [] s.1)) (pcs [] s.1))]))) (z6W:=(fun(g:Option Addr×Nat) (s:Nat×List z2×Int)=>True)) (zb5:=(none,0)) (zb6:=⟨z4E,0,none⟩) (zd7:=z1E) (zd8:=z1F) (zu7:=z1w) (zu8:=zuH) (zu9:=zuI) (zua:=z1x) (zkG:=z1G) (zkH:=z1H) (zx:=(Nat×List z2×Int)) (z2q:=(fun(x:z2) (s:Nat×List z2×Int)=>chk (s.1=0) (y2G z6Z z68 x s.2.1 s.2.2))) (s0_44021:=(0,([]:List z2),0)) (z2S:=z1m) (zf6:=(⟨(⟨zC.1,zC.2.1⟩:z2),(⟨zC.2.2.1,zC.2.2.2⟩:z2)⟩:zSv)) (zkF:=z6Z) (zf7:=z68) (z33:=z1n) (r:=z4i) w pz ?_ trivial ((zuJ.mono (Zle.left _ _)).weak (fun _ _ h=>y3d (Zle.left _ _) h)) ((znP.mono (Zle.left _ _)).weak (fun _ _ h=>y3d (Zle.left _ _) h)) (znQ.mono (Zle.left _ _)) (znR.mono (Zle.left _ _)) (zuK.mono (Zle.left _ _)) ((hw1.lent ((.cons .here .nil):Sel [y2h [stb z3o 175 [(.slice none (([]:List z2).length) 0)],row (.slice none (([]:List z2).length) 0) 132 2 (([]:List z2).flatMap yw),stb z34 225 [(.int .i64 0)],stb z3T 132 [(.int .i64 0),(.int .i64 0)],stb z3E 177 [(.slice z1E z1m.length z1F),(.int .i64 zq.fRate.fN),(.int .i64 zq.fRate.fD),(.int .i64 zq.fL.fN),(.int .i64 zq.fL.fD),(.func (.func 72) #[] #[(.pointer (some z1w)),(.pointer (some z1x))]),(.slice z1G z1n.length z1H)],blk z4j (z5k .ready none)],dfr z6s,stb z4E 177 [(.slice z1E z1m.length z1F),(.int .i64 zC.1),(.int .i64 zC.2.1),(.int .i64 zC.2.2.1),(.int .i64 zC.2.2.2),(.func (.func 72) #[] #[(.pointer (some z1w)),(.pointer (some z1x))]),(.slice z1G z1n.length z1H)]] [y2h [stb z3o 175 [(.slice none (([]:List z2).length) 0)],row (.slice none (([]:List z2).length) 0) 132 2 (([]:List z2).flatMap yw),stb z34 225 [(.int .i64 0)],stb z3T 132 [(.int .i64 0),(.int .i64 0)],stb z3E 177 [(.slice z1E z1m.length z1F),(.int .i64 zq.fRate.fN),(.int .i64 zq.fRate.fD),(.int .i64 zq.fL.fN),(.int .i64 zq.fL.fD),(.func (.func 72) #[] #[(.pointer (some z1w)),(.pointer (some z1x))]),(.slice z1G z1n.length z1H)],blk z4j (z5k .ready none)]] [dfr z6s,stb z4E 177 [(.slice z1E z1m.length z1F),(.int .i64 zC.1),(.int .i64 zC.2.1),(.int .i64 zC.2.2.1),(.int .i64 zC.2.2.2),(.func (.func 72) #[] #[(.pointer (some z1w)),(.pointer (some z1x))]),(.slice z1G z1n.length z1H)]]) (B:=[stb z4E 177 [(.slice z1E z1m.length z1F),(.int .i64 zC.1),(.int .i64 zC.2.1),(.int .i64 zC.2.2.1),(.int .i64 zC.2.2.2),(.func (.func 72) #[] #[(.pointer (some z1w)),(.pointer (some z1x))]),(.slice z1G z1n.length z1H)]]) (fun _ hx'=>((.cons .h1 .nil):Sel _ [stb z4E 177 [(.slice z1E z1m.length z1F),(.int .i64 zC.1),(.int .i64 zC.2.1),(.int .i64 zC.2.2.1),(.int .i64 zC.2.2.2),(.func (.func 72) #[] #[(.pointer (some z1w)),(.pointer (some z1x))]),(.slice z1G z1n.length z1H)]] _).mem hx') (.head _) _).stb) zOW (hw1.owns ((.cons .here .nil):Sel [y2h [stb z3o 175 [(.slice none (([]:List z2).length) 0)],row (.slice none (([]:List z2).length) 0) 132 2 (([]:List z2).flatMap yw),stb z34 225 [(.int .i64 0)],stb z3T 132 [(.int .i64 0),(.int .i64 0)],stb z3E 177 [(.slice z1E z1m.length z1F),(.int .i64 zq.fRate.fN),(.int .i64 zq.fRate.fD),(.int .i64 zq.fL.fN),(.int .i64 zq.fL.fD),(.func (.func 72) #[] #[(.pointer (some z1w)),(.pointer (some z1x))]),(.slice z1G z1n.length z1H)],blk z4j (z5k .ready none)],dfr z6s,stb z4E 177 [(.slice z1E z1m.length z1F),(.int .i64 zC.1),(.int .i64 zC.2.1),(.int .i64 zC.2.2.1),(.int .i64 zC.2.2.2),(.func (.func 72) #[] #[(.pointer (some z1w)),(.pointer (some z1x))]),(.slice z1G z1n.length z1H)]] [y2h [stb z3o 175 [(.slice none (([]:List z2).length) 0)],row (.slice none (([]:List z2).length) 0) 132 2 (([]:List z2).flatMap yw),stb z34 225 [(.int .i64 0)],stb z3T 132 [(.int .i64 0),(.int .i64 0)],stb z3E 177 [(.slice z1E z1m.length z1F),(.int .i64 zq.fRate.fN),(.int .i64 zq.fRate.fD),(.int .i64 zq.fL.fN),(.int .i64 zq.fL.fD),(.func (.func 72) #[] #[(.pointer (some z1w)),(.pointer (some z1x))]),(.slice z1G z1n.length z1H)],blk z4j (z5k .ready none)]] [dfr z6s,stb z4E 177 [(.slice z1E z1m.length z1F),(.int .i64 zC.1),(.int .i64 zC.2.1),(.int .i64 zC.2.2.1),(.int .i64 zC.2.2.2),(.func (.func 72) #[] #[(.pointer (some z1w)),(.pointer (some z1x))]),(.slice z1G z1n.length z1H)]]))) ?_
   ·skip
    refine ybw (LI:=(fun(g:Option Addr×Nat) (s:Nat×List z2×Int)=>[stb z3o 175 [(.slice g.1 s.2.1.length g.2)],row (.slice g.1 s.2.1.length g.2) 132 2 (s.2.1.flatMap yw),stb z34 225 [(.int .i64 s.2.2)],stb z3T 132 [(.int .i64 0),(.int .i64 0)],stb z3E 177 [(.slice z1E z1m.length z1F),(.int .i64 zq.fRate.fN),(.int .i64 zq.fRate.fD),(.int .i64 zq.fL.fN),(.int .i64 zq.fL.fD),(.func (.func 72) #[] #[(.pointer (some z1w)),(.pointer (some z1x))]),(.slice z1G z1n.length z1H)]])) (pc:=(fun(s:Nat×List z2×Int)=>pcs [] s.1)) znS zOU zOV (fun _ _=>rfl) (by decide) ?_
    rintro zbf _ ⟨zhT,zhU⟩ ⟨zOX,z3S,znO⟩ zOY zOZ Fb wb zCP _ hz
    replace hz:=hz.left
    letI:Rnd:=inR z4j
    obtain⟨hp0,z72⟩:=yo zCP
    replace hp0:zOX=0:=hp0;subst hp0;clear zCP
    replace z72:y2G z6Z z68 zbf z3S znO=some (zOY,zOZ):=z72
    unfold y2G at z72
    refine WC.restr (env':=[(1,(.pointer (some ⟨z3E,0,none⟩))),(12,(.bool (decide (zkQ≠0)))),(5,(.pointer (some ⟨z34,0,none⟩))),(6,(.pointer (some ⟨z3o,0,none⟩))),(17,(.agg #[(.int .i64 zbf.fN),(.int .i64 zbf.fD)]))]) (.r5 rfl rfl rfl rfl rfl) (WC.eqL (L':=[stb z3o 175 [(.slice zhT z3S.length zhU)],row (.slice zhT z3S.length zhU) 132 2 (z3S.flatMap yw),stb z34 225 [(.int .i64 znO)],stb z3T 132 [(.int .i64 0),(.int .i64 0)],stb z3E 177 [(.slice z1E z1m.length z1F),(.int .i64 zq.fRate.fN),(.int .i64 zq.fRate.fD),(.int .i64 zq.fL.fN),(.int .i64 zq.fL.fD),(.func (.func 72) #[] #[(.pointer (some z1w)),(.pointer (some z1x))]),(.slice z1G z1n.length z1H)],blk z4j (z5k .ready none)]) rfl (WC.a (WL.nA 7 (yv (cs:=[(.int .i64 0),(.int .i64 0)]) zT rfl) ?_)))
    intro zP0 _
    refine WL.ym rfl rfl (yl zz rfl rfl rfl .here rfl rfl rfl) (WL.nil (WX.ycN znS .h6 (WC.block (WC.b ?_))))
    obtain⟨z71,zP1,z72⟩:=z8 z72
    refine WC.a (WL.qA 18 (ya yaT rfl rfl) (WL.qA 19 (yc zxp rfl (yk .h6 rfl)) (WL.qA 20 (yh zf rfl (yi .h1) rfl) (WL.cA 21 (y2y (l:=[.tmp 5,.tmp 20]) Tryz.call72 rfl (.r2 rfl rfl)) (.cons .h4 .nil) (cc hz (.cons .h4 .nil) fun w pz ho=>ybN _ _ _ _ _ _ _ _ _ _ _ zP1 w pz znP znQ znR ho) (WL.nA 8 (yv (cs:=[(.int .i64 0),(.int .i64 0)]) zT rfl) ?_)))))
    intro zP2 _
    refine WL.ym rfl rfl (yl zz rfl rfl rfl .here rfl rfl rfl) (WL.nil (WX.a (WC.b ?_)))
    obtain⟨zuF,zCQ,z72⟩:=z8 z72
    refine WC.yP (fun i=>[].contains i) [] rfl (WD.qA 0 22 rfl (yc z83 rfl (yk .h4 rfl)) (WD.pA 1 23 rfl (fun _=>yH Tryz.underlying175 rfl) (WD.pA 2 24 rfl (fun _=>yaI rfl rfl) (WD.pA 3 25 rfl (fun _=>q_m rfl) (WD.mid (fuel':=0) [(1,(.pointer (some ⟨z3E,0,none⟩))),(12,(.bool (decide (zkQ≠0)))),(5,(.pointer (some ⟨z34,0,none⟩))),(6,(.pointer (some ⟨z3o,0,none⟩))),(17,(.agg #[(.int .i64 zbf.fN),(.int .i64 zbf.fD)])),(7,(.pointer (some ⟨zP0,0,none⟩))),(18,(.pointer (some ⟨z3E,5,none⟩))),(19,(.func (.func 72) #[] #[(.pointer (some z1w)),(.pointer (some z1x))])),(20,(.agg #[(.int .i64 zbf.fN),(.int .i64 zbf.fD)])),(21,(.agg #[(.int .i64 z71.1.fN),(.int .i64 z71.1.fD)])),(8,(.pointer (some ⟨zP2,0,none⟩))),(22,(.slice zhT z3S.length zhU)),(23,(.int .i64 ((z3S.length:Nat):Int))),(24,(.bool (decide (((z3S.length:Nat):Int)=0)))),(25,(.bool (decide (((z3S.length:Nat):Int)=0)))),(32,(.bool zuF))] (y34 11 [10,9,8,7,6,5,4,3,2,1,0]) ?_ (fun zCR=>?_))))))
    rotate_left
    ·rcases Bool.eq_false_or_eq_true (decide (((z3S.length:Nat):Int)=0)) with hb' | hb'
     ·have zuM:=hb';clear hb'
      have zuN:=yp zCQ zuM
      replace zuN:=oJ zuN
      refine WD.pin (i:=25) rfl zuM (WD.kA 4 26 rfl (WD.kA 5 27 rfl (WD.kA 6 28 rfl (WD.kA 7 29 rfl (WD.kA 8 30 rfl (WD.kA 9 31 rfl (WD.pA 10 32 rfl (fun _=>y3M rfl rfl) (WD.reL (.s8 .here .here .here .here .here .here .here .here) ?_ zCR))))))))
      exact(.cons rfl (.cons rfl (.cons rfl (.cons rfl (.cons rfl (.cons rfl (.cons rfl (.cons rfl (.cons rfl (.cons rfl (.cons rfl (.cons rfl (.cons rfl (.cons rfl (.cons (zN (Eq.symm zuM)) (.cons (zN zuN) .nil))))))))))))))))
     ·have zuO:=hb';clear hb'
      have zfh:=yq zCQ zuO
      obtain⟨zkU,zfh⟩:=yo zfh
      obtain⟨zCO,zP3,zfh⟩:=z8 zfh
      replace zfh:=oJ zfh
      refine WD.pin (i:=25) rfl zuO (WD.qA 4 26 rfl (yh zf rfl (yi .here) rfl) (WD.qA 5 27 rfl (yc z83 rfl (yk .h4 rfl)) (WD.know (fun w hw=>Hp.y2M .h5 hw (by intro hz';have:=zkU;rw[hz'] at this;omega)) ?_)))
      rintro⟨zYI,rfl⟩
      refine WD.pA 6 28 rfl (fun _=>yX z2g rfl rfl zkU.1 zkU.2 y32) (WD.qA 7 29 rfl (yT (cs:=(yw (nth z3S 0))) zf rfl rfl (y3P .h5 (y3D (enc:=yw) (l:=z3S) (i:=0) (sz:=2) (fun _=>rfl) zkU.1 zkU.2))) (WD.eA 8 30 rfl (zb Tryz.call79 (.r2 rfl rfl)) (cc hz .nil fun w pz ho=>y4n _ _ _ _ zP3 w pz ) (WD.pA 9 31 rfl (fun _=>yd6 rfl rfl) (WD.pA 10 32 rfl (fun _=>y3N rfl rfl) (WD.reL (.s8 .here .here .here .here .here .here .here .here) ?_ zCR)))))
      exact(.cons rfl (.cons rfl (.cons rfl (.cons rfl (.cons rfl (.cons rfl (.cons rfl (.cons rfl (.cons rfl (.cons rfl (.cons rfl (.cons rfl (.cons rfl (.cons rfl (.cons (zN (Eq.symm zuO)) (.cons (zN zfh) .nil))))))))))))))))
    refine WD.done (by kernel_rfl) (WX.a (WC.cond rfl (fun zuP=>?_) (fun zuP=>?_)))
    ·replace z72:=yp z72 zuP
     refine WC.a (WL.qA 33 (yh zf rfl (yi .here) rfl) (WL.nA 34 (yR (cs:=([z71.1]:List z2).flatMap yw) z2g (Eos.parts (l:=[.tmp 33]) (.cons rfl .nil) [0]) (fun _=>by kernel_rfl) rfl (by unfold maxLen;omega)) ?_))
     intro zuQ _
     refine WL.ym rfl rfl (yl zoH rfl rfl rfl .h5 rfl rfl rfl) (WL.nil (WX.yn ?_))
     obtain⟨rfl,rfl⟩:=yaf z72
     exact WX.y6W znS .h4 (fun w' hw'=>⟨((some ⟨zuQ,0,none⟩),1),rfl,trivial,(hw'.selAll ((.s6 .h1 .h1 .h2 .h4 .h4 .here):Sel _ [stb z3o 175 [(.slice (some ⟨zuQ,0,none⟩) (([z71.1]:List z2).length) 1)],row (.slice (some ⟨zuQ,0,none⟩) (([z71.1]:List z2).length) 1) 132 2 (([z71.1]:List z2).flatMap yw),stb z34 225 [(.int .i64 z71.2.fE)],stb z3T 132 [(.int .i64 0),(.int .i64 0)],stb z3E 177 [(.slice z1E z1m.length z1F),(.int .i64 zq.fRate.fN),(.int .i64 zq.fRate.fD),(.int .i64 zq.fL.fN),(.int .i64 zq.fL.fD),(.func (.func 72) #[] #[(.pointer (some z1w)),(.pointer (some z1x))]),(.slice z1G z1n.length z1H)],blk z4j (z5k .ready none)] _)).sub (.cons .here .nil)⟩)
    ·replace z72:=yq z72 zuP
     refine WC.skip (WX.yn ?_)
     obtain⟨rfl,rfl⟩:=yaf z72
     exact WX.y6W znS .h2 (fun w' hw'=>⟨(zhT,zhU),rfl,trivial,(hw'.selAll ((.s6 .h4 .h4 .h2 .h3 .h3 .here):Sel _ [stb z3o 175 [(.slice zhT z3S.length zhU)],row (.slice zhT z3S.length zhU) 132 2 (z3S.flatMap yw),stb z34 225 [(.int .i64 z71.2.fE)],stb z3T 132 [(.int .i64 0),(.int .i64 0)],stb z3E 177 [(.slice z1E z1m.length z1F),(.int .i64 zq.fRate.fN),(.int .i64 zq.fRate.fD),(.int .i64 zq.fL.fN),(.int .i64 zq.fL.fD),(.func (.func 72) #[] #[(.pointer (some z1w)),(.pointer (some z1x))]),(.slice z1G z1n.length z1H)],blk z4j (z5k .ready none)] _)).sub (.cons .here .nil)⟩)
   ·skip
    rintro _ w' ⟨⟨zkV,zkW⟩,rfl,_,hp⟩
    have hp1:=hw1.call ((.cons .here .nil):Sel [y2h [stb z3o 175 [(.slice none (([]:List z2).length) 0)],row (.slice none (([]:List z2).length) 0) 132 2 (([]:List z2).flatMap yw),stb z34 225 [(.int .i64 0)],stb z3T 132 [(.int .i64 0),(.int .i64 0)],stb z3E 177 [(.slice z1E z1m.length z1F),(.int .i64 zq.fRate.fN),(.int .i64 zq.fRate.fD),(.int .i64 zq.fL.fN),(.int .i64 zq.fL.fD),(.func (.func 72) #[] #[(.pointer (some z1w)),(.pointer (some z1x))]),(.slice z1G z1n.length z1H)],blk z4j (z5k .ready none)],dfr z6s,stb z4E 177 [(.slice z1E z1m.length z1F),(.int .i64 zC.1),(.int .i64 zC.2.1),(.int .i64 zC.2.2.1),(.int .i64 zC.2.2.2),(.func (.func 72) #[] #[(.pointer (some z1w)),(.pointer (some z1x))]),(.slice z1G z1n.length z1H)]] [y2h [stb z3o 175 [(.slice none (([]:List z2).length) 0)],row (.slice none (([]:List z2).length) 0) 132 2 (([]:List z2).flatMap yw),stb z34 225 [(.int .i64 0)],stb z3T 132 [(.int .i64 0),(.int .i64 0)],stb z3E 177 [(.slice z1E z1m.length z1F),(.int .i64 zq.fRate.fN),(.int .i64 zq.fRate.fD),(.int .i64 zq.fL.fN),(.int .i64 zq.fL.fD),(.func (.func 72) #[] #[(.pointer (some z1w)),(.pointer (some z1x))]),(.slice z1G z1n.length z1H)],blk z4j (z5k .ready none)]] [dfr z6s,stb z4E 177 [(.slice z1E z1m.length z1F),(.int .i64 zC.1),(.int .i64 zC.2.1),(.int .i64 zC.2.2.1),(.int .i64 zC.2.2.2),(.func (.func 72) #[] #[(.pointer (some z1w)),(.pointer (some z1x))]),(.slice z1G z1n.length z1H)]]) hp
    have hp2:Hp _ _ w' [stb z3o 175 [(.slice zkV z4i.2.1.length zkW)],row (.slice zkV z4i.2.1.length zkW) 132 2 (z4i.2.1.flatMap yw),stb z34 225 [(.int .i64 z4i.2.2)],stb z3T 132 [(.int .i64 0),(.int .i64 0)],stb z3E 177 [(.slice z1E z1m.length z1F),(.int .i64 zq.fRate.fN),(.int .i64 zq.fRate.fD),(.int .i64 zq.fL.fN),(.int .i64 zq.fL.fD),(.func (.func 72) #[] #[(.pointer (some z1w)),(.pointer (some z1x))]),(.slice z1G z1n.length z1H)],blk z4j (z5k (rdy (pcs [] z4i.1)) (pcs [] z4i.1)),dfr z6s,stb z4E 177 [(.slice z1E z1m.length z1F),(.int .i64 zC.1),(.int .i64 zC.2.1),(.int .i64 zC.2.2.1),(.int .i64 zC.2.2.2),(.func (.func 72) #[] #[(.pointer (some z1w)),(.pointer (some z1x))]),(.slice z1G z1n.length z1H)]]:=hp1.pickAll .here
    refine⟨_,pcs [] z4i.1,_,rfl,(hp2.sub ((.s8 .h5 .here .here .here .here .here .here .here):Sel _ [blk z4j (z5k (rdy (pcs [] z4i.1)) (pcs [] z4i.1)),stb z3o 175 [(.slice zkV z4i.2.1.length zkW)],row (.slice zkV z4i.2.1.length zkW) 132 2 (z4i.2.1.flatMap yw),stb z34 225 [(.int .i64 z4i.2.2)],stb z3T 132 [(.int .i64 0),(.int .i64 0)],stb z3E 177 [(.slice z1E z1m.length z1F),(.int .i64 zq.fRate.fN),(.int .i64 zq.fRate.fD),(.int .i64 zq.fL.fN),(.int .i64 zq.fL.fD),(.func (.func 72) #[] #[(.pointer (some z1w)),(.pointer (some z1x))]),(.slice z1G z1n.length z1H)],dfr z6s,stb z4E 177 [(.slice z1E z1m.length z1F),(.int .i64 zC.1),(.int .i64 zC.2.1),(.int .i64 zC.2.2.1),(.int .i64 zC.2.2.2),(.func (.func 72) #[] #[(.pointer (some z1w)),(.pointer (some z1x))]),(.slice z1G z1n.length z1H)]] _)),?_⟩
    clear hp hp1 hp2 pz hw hw1
    refine wjN ?_
    letI:Rnd:=aft z6s
    refine WX.yn ?_
    exact WX.midR (D:=fun(g:Nat×Int×List z2×Option Addr×Nat)=>g.1) (G:=Nat×Int×List z2×Option Addr×Nat) ⟨z6s,z4i.2.2,z4i.2.1,zkV,zkW⟩ h (.r3 rfl rfl rfl) (.s5 .h3 .h2 .here .here .h1)
  ·rintro zkR z9b z6r zkS zkT h
   replace h:=(zOS z9b z6r).symm.trans h
   letI:Rnd:=aft zkR
   refine WC.b (WC.b (WC.a (WL.qA 35 (ya y4P rfl rfl) (WL.qA 36 (yc y35 rfl (yk .h1 rfl)) (WL.pu rfl (WL.nil (WX.a (WC.cond rfl (fun zuR=>?_) (fun zuR=>?_)))))))))
   ·replace h:=yp h zuR
    refine WC.b (WC.yP (fun i=>[3].contains i) [y7q z34 225 [(0,(.int .i64 z9b))]] rfl (WD.pA 0 38 rfl (fun _=>yL (v:=(.agg #[(.int .i64 0),(.int .i64 0)])) (Eos.parts (l:=[]) .nil []) (fun _=>by kernel_rfl)) (WD.pA 1 39 rfl (fun _=>ya y4P rfl rfl) (WD.sA 2 40 rfl (Sin.wk (.cons .h1 .nil) (.stb (.cons rfl .nil) .nil)) (yc y35 rfl (y5S .here (.head _))) (WD.forced0 (i:=3) rfl (by kernel_rfl) rfl rfl rfl (Sin.wk (.cons .h1 .nil) (.stb (.cons rfl .nil) .nil)) (yl zz rfl rfl rfl .here rfl rfl rfl) (WD.pA 4 3 rfl (fun _=>q_z rfl) (WD.done (by kernel_rfl) (WX.a (WC.ret (WX.ye ?_))))))))))
    obtain rfl:=oJ h
    refine WX.y7C .h4 Tryz.results77 (.agg rfl zf rfl (yi .h1) (.tmp rfl .nil)) (fun w hw=>?_)
    exact⟨y24 rfl rfl,hw.sub .nil⟩
   ·replace h:=yq h zuR
    refine WC.skip (WX.a (WC.b ?_))
    obtain⟨zkX,h⟩:=yo h
    refine WC.a (WL.qA 41 (yc z83 rfl (yk .h2 rfl)) (WL.know (fun w hw=>Hp.y2M .h3 hw (by intro hz';have:=zkX;rw[hz'] at this;omega)) ?_))
    rintro⟨zYJ,rfl⟩
    refine WL.qA 42 (yX z2g rfl rfl zkX.1 zkX.2 y32) (WL.qA 43 (yT (cs:=(yw (nth z6r 0))) zf rfl rfl (y3P .h3 (y3D (enc:=yw) (l:=z6r) (i:=0) (sz:=2) (fun _=>rfl) zkX.1 zkX.2))) (WL.ym rfl rfl (yl zz rfl rfl rfl .here rfl rfl rfl) (WL.pu rfl (WL.nil (WX.a (WC.ret ?_))))))
    obtain rfl:=oJ h
    refine WX.y7C .h4 Tryz.results77 (.agg rfl zf rfl (yi .h1) (.tmp rfl .nil)) (fun w hw=>?_)
    exact⟨y24 rfl rfl,hw.sub .nil⟩
def y5e(zbg:List (List z7))(z3U:zSv):Option (z2×Int):=
 (y3W zbg z3U zbg z3U []).bind fun zuS=>some (zuS.1,zuS.2)
theorem ycS(Z:Zp)(zkY:Option Addr)(zkZ:Nat)(zbg:List (List z7))(z3U:zSv)(r:z2×Int)(h:y5e zbg z3U=some r)(w₀:World)(hz:PZ [] w₀ Z)(zCS:ZS Z 1 (y1W Z) zkY zkZ zbg):
  Calls Tryz.prog 44 #[(.slice zkY zbg.length zkZ),(.agg #[(.int .i64 z3U.fRate.fN),(.int .i64 z3U.fRate.fD),(.int .i64 z3U.fL.fN),(.int .i64 z3U.fL.fD)])] w₀ fun e w'=>e = .returned (.tuple #[(.agg #[(.int .i64 r.1.fN),(.int .i64 r.1.fD)]),(.int .i64 r.2)])∧Hp [] w₀ w' []:=by
 unfold y5e at h
 refine Calls.yK Tryz.func44 Tryz.ntmps44 ?_
 refine WC.b (WC.a (WL.nA 2 (yI (cs:=[(.slice zkY zbg.length zkZ)]) rfl rfl) ?_))
 intro zP4 _
 refine WL.nA 3 (yI (cs:=[(.int .i64 z3U.fRate.fN),(.int .i64 z3U.fRate.fD),(.int .i64 z3U.fL.fN),(.int .i64 z3U.fL.fD)]) rfl rfl) ?_
 intro zP5 _
 refine WL.nA 4 (yv (cs:=[(.int .i64 0),(.int .i64 0)]) zT rfl) ?_
 intro zYK _
 refine WL.pu rfl (WL.nil (WX.a (WC.b (WC.a (WL.qA 7 (yc z7h rfl (yk .h2 rfl)) (WL.qA 8 (yh zfL rfl (yi .h1) rfl) (WL.qA 9 (yL (v:=(.agg #[(.slice zkY zbg.length zkZ),(.int .i64 z3U.fRate.fN),(.int .i64 z3U.fRate.fD),(.int .i64 z3U.fL.fN),(.int .i64 z3U.fL.fD),.nilFunc,(.slice none 0 0)])) (Eos.parts (l:=[.tmp 7,.tmp 8]) (.r2 rfl rfl) [0,1]) (fun _=>by kernel_rfl)) (WL.nA 6 (yv (cs:=[(.slice none 0 0),(.int .i64 0),(.int .i64 0),(.int .i64 0),(.int .i64 0),.nilFunc,(.slice none 0 0)]) zxj rfl) ?_))))))))
 intro zYL _
 refine WL.ym rfl rfl (yl zxk rfl rfl rfl .here rfl rfl rfl) (WL.nil (WX.a (WC.b (WC.a (WL.qA 10 (y19 (Eos.caps (l:=[.tmp 2,.tmp 3]) (.r2 rfl rfl))) (WL.qA 11 (ya yaT rfl rfl) (WL.ym rfl rfl (y5b (ds:=[(.slice zkY zbg.length zkZ),(.int .i64 z3U.fRate.fN),(.int .i64 z3U.fRate.fD),(.int .i64 z3U.fL.fN),(.int .i64 z3U.fL.fD),(.func (.func 72) #[] #[(.pointer (some ⟨zP4,0,none⟩)),(.pointer (some ⟨zP5,0,none⟩))]),(.slice none 0 0)]) zxl rfl rfl rfl rfl rfl .here rfl rfl) (WL.nil (WX.a (WC.b ?_))))))))))
 obtain⟨zuS,zP6,h⟩:=z8 h
 refine WC.a (WL.qA 12 (yh zfM rfl (yi .here) rfl) (WL.cA 13 (zb Tryz.call77 (.cons rfl .nil)) .nil (ccl hz .nil (.s2 .h3 .h2) fun w pz ho la=>yav _ _ _ _ _ _ _ _ _ _ _ _ _ _ _ zP6 w pz ((zCS.mono (Zle.left _ _)).weak (fun _ _ h=>y3d (Zle.left _ _) h)) ((zCS.mono (Zle.left _ _)).weak (fun _ _ h=>y3d (Zle.left _ _) h)) ((la _ (.head _) _).stb) ((la _ (.tail _ (.head _)) _).stb) (ZS.nil _ _ _)) (WL.pu rfl (WL.pu rfl (WL.ym rfl rfl (yl zz rfl rfl rfl .h1 rfl rfl rfl) (WL.pu rfl (WL.nil (WX.a (WC.ret ?_)))))))))
 obtain rfl:=oJ h
 refine WX.yf Tryz.results44 (.agg rfl zf rfl (yi .here) (.tmp rfl .nil)) (fun w hw=>?_)
 exact⟨y24 rfl rfl,hw.sub .nil⟩
def y1R(z3F:List (List z7))(zbh:Int→Int→Int→Option Int):Nat→Int→Int→Int→Int→Option Int
 | 0,_,_,_,_=>none
 | zuT+1,z5L,z7C,z7D,z7E=>if decide (z5L<((z3F.length:Nat):Int)) then chk ((0:Int)≤z5L∧z5L<((z3F.length:Nat):Int)) ((y1V (nth z3F z5L)).bind fun zuU=>if decide (zuU.2≠0) then some zuU.2 else(y4E (nth z3F z5L)).bind fun zCT=>(y13 (⟨z7C⟩:z1C) (fun(y0:z2) (y1:z2)=>y1e y0 y1) (⟨z7D,z7E⟩:z2) zCT.1).bind fun zfi=>y1R z3F zbh zuT (i64 (z5L+1)) zfi.2.fE zfi.1.fN zfi.1.fD) else zbh z7C z7D z7E
theorem y7w{n:Nat}{z3F:List (List z7)}{zbh:Int→Int→Int→Option Int}{z5L:Int}{z7C:Int}{z7D:Int}{z7E:Int}{r:Int}(h:y1R z3F zbh n z5L z7C z7D z7E=some r):∃ m,n=m+1:=by
 cases n with
 | zero=>cases h
 | succ m=>exact⟨m,rfl⟩
def y3j(z3F:List (List z7))(z2z:zSv)(znT:List (List z7))(zhV:zSv)(zfj:List z2):Option Int:=
 (if decide (((z3F.length:Nat):Int)>32) then some true else(y18 z3F (fun(y0:List z7)=>y1s y0)).bind fun zCU=>some zCU).bind fun zuV=>(if zuV then some true else(y4v z2z).bind fun zCV=>some (!zCV)).bind fun zuW=>if zuW then some 2 else(y2J).bind fun zl0=>jp3 (fun(zbi:Int) (zdi:Int) (zdj:Int)=>(if decide (zbi=0) then(y1i (⟨zdi,zdj⟩:z2) z2z.fRate).bind fun zCW=>some (decide (zCW>0)) else some false).bind fun zuX=>if zuX then some 6 else some zbi) fun zbh=>y1R z3F zbh yy 0 0 zl0.fN zl0.fD
theorem y9u(Z:Zp)(zhW:Option Addr)(zhX:Nat)(zl1:Addr)(zCX:Option Addr)(zCY:Nat)(zl2:Addr)(zl3:Option Addr)(zl4:Nat)(z3F:List (List z7))(z2z:zSv)(znT:List (List z7))(zhV:zSv)(zfj:List z2)(r:Int)(h:y3j z3F z2z znT zhV zfj=some r)(w₀:World)(hz:PZ [] w₀ Z)(zCZ:ZS Z 1 (y1W Z) zhW zhX z3F)(zYM:ZS Z 1 (y1W Z) zCX zCY znT)(zYN:ZC Z zl1 [(.slice zCX znT.length zCY)])(zYO:ZC Z zl2 [(.int .i64 zhV.fRate.fN),(.int .i64 zhV.fRate.fD),(.int .i64 zhV.fL.fN),(.int .i64 zhV.fL.fD)])(zYP:ZS Z 2 (fun r x=>r=yw x) zl3 zl4 zfj):
  Calls Tryz.prog 109 #[(.agg #[(.slice zhW z3F.length zhX),(.int .i64 z2z.fRate.fN),(.int .i64 z2z.fRate.fD),(.int .i64 z2z.fL.fN),(.int .i64 z2z.fL.fD),(.func (.func 78) #[] #[(.pointer (some zl1)),(.pointer (some zl2))]),(.slice zl3 zfj.length zl4)])] w₀ fun e w'=>e = .returned (.int .i64 r)∧Hp [] w₀ w' []:=by
 unfold y3j at h
 refine Calls.on1 Tryz.func109 Tryz.ntmps109 ?_
 refine WC.b (WC.a (WL.nA 1 (yI (cs:=[(.slice zhW z3F.length zhX),(.int .i64 z2z.fRate.fN),(.int .i64 z2z.fRate.fD),(.int .i64 z2z.fL.fN),(.int .i64 z2z.fL.fD),(.func (.func 78) #[] #[(.pointer (some zl1)),(.pointer (some zl2))]),(.slice zl3 zfj.length zl4)]) rfl rfl) ?_))
 intro znU _
 refine WL.pu rfl (WL.nil (WX.a (WC.b (WC.b ?_))))
 obtain⟨zuV,zD0,h⟩:=z8 h
 obtain⟨zuW,zD1,h⟩:=z8 h
 refine WC.a (WL.qA 11 (ya y6M rfl rfl) (WL.qA 12 (yc z7h rfl (yk .here rfl)) (WL.qA 13 (yH Tryz.underlying128 rfl) (WL.pu rfl (WL.pu rfl (WL.seg false 3 15 (B:=zuV) rfl rfl rfl rfl rfl rfl (fun h=>(oJ (yp zD0 h)).symm) (fun _ zP7=>?_) ?_))))))
 ·skip
  have zl5:=yq zD0 zP7
  obtain⟨zCU,zP8,zl5⟩:=z8 zl5
  replace zl5:=oJ zl5
  refine WL.qA 16 (ya y6M rfl rfl) (WL.qA 17 (yc z7h rfl (yk .here rfl)) (WL.cA 18 (zb Tryz.call150 (.r2 rfl rfl)) .nil (cc hz .nil fun w pz ho=>y46 _ _ _ (zeH:=151) (zk6:=[]) _ (zeG:=(fun(y0:List z7)=>y1s y0)) _ zP8 w pz zCZ Tryz.call151 (fun w' hz' y0 ga0 gc0 r gh0 hr=>y6z _ _ _ _ _ hr w' hz' gh0)) (WL.pu rfl ?_)))
  exact WL.yB zl5 rfl rfl .all
 refine WL.pu rfl (WL.seg false 4 20 (B:=zuW) rfl rfl rfl rfl rfl rfl (fun h=>(oJ (yp zD1 h)).symm) (fun _ zP9=>?_) ?_)
 ·skip
  have zl6:=yq zD1 zP9
  obtain⟨zCV,zPa,zl6⟩:=z8 zl6
  replace zl6:=oJ zl6
  refine WL.qA 21 (ya yaU rfl rfl) (WL.qA 22 (yT (cs:=[(.int .i64 z2z.fRate.fN),(.int .i64 z2z.fRate.fD),(.int .i64 z2z.fL.fN),(.int .i64 z2z.fL.fD)]) zfL rfl rfl (y31 (s:=4) .here rfl)) (WL.cA 23 (zb Tryz.call152 (.cons rfl .nil)) .nil (cc hz .nil fun w pz ho=>y9s _ _ _ zPa w pz ) (WL.pu rfl (WL.pu rfl ?_))))
  exact WL.yB zl6 rfl rfl .all
 refine WL.nil (WX.a (WC.cond rfl (fun zuY=>?_) (fun zuY=>?_)))
 ·replace h:=yp h zuY
  refine WC.b (WC.a (WL.pu rfl (WL.nil (WX.a (WC.ret (WX.ye ?_))))))
  obtain rfl:=oJ h
  refine WX.yf Tryz.results109 (.tmp rfl .nil) (fun w hw=>?_)
  exact⟨yD rfl,hw.sub .nil⟩
 ·replace h:=yq h zuY
  refine WC.skip (WX.a (WC.b (WC.a (WL.nA 3 (yv (cs:=[(.int .i64 0)]) zlY rfl) ?_))))
  intro znV _
  refine WL.nil (WX.a (WC.b ?_))
  obtain⟨zl0,zPb,h⟩:=z8 h
  refine WC.a (WL.cA 26 (zb Tryz.call107 .nil) .nil (cc hz .nil fun w pz ho=>y4c _ _ zPb w pz ) (WL.nA 4 (yv (cs:=[(.int .i64 0),(.int .i64 0)]) zT rfl) ?_))
  intro znW _
  refine WL.ym rfl rfl (yl zz rfl rfl rfl .here rfl rfl rfl) (WL.nil (WX.a ?_))
  obtain⟨zbh,zPc,h⟩:=yaO h
  refine WC.y2R (fun(zbi:Int) (zdi:Int) (zdj:Int)=>(zbh zbi zdi zdj=some r)) (fun zbi zdi zdj=>[(1,(.pointer (some ⟨znU,0,none⟩))),(3,(.pointer (some ⟨znV,0,none⟩))),(4,(.pointer (some ⟨znW,0,none⟩)))]) (fun zbi zdi zdj=>[stb znU 177 [(.slice zhW z3F.length zhX),(.int .i64 z2z.fRate.fN),(.int .i64 z2z.fRate.fD),(.int .i64 z2z.fL.fN),(.int .i64 z2z.fL.fD),(.func (.func 78) #[] #[(.pointer (some zl1)),(.pointer (some zl2))]),(.slice zl3 zfj.length zl4)],stb znV 225 [(.int .i64 zbi)],stb znW 132 [(.int .i64 zdi),(.int .i64 zdj)]]) ?_ ?_
  ·skip
   refine WC.b (WC.a (WL.qA 27 (ya y6M rfl rfl) (WL.qA 28 (yc z7h rfl (yk .h2 rfl)) (WL.qA 29 (yH Tryz.underlying128 rfl) (WL.pu rfl (WL.nil (WX.a (WC.block (WC.y6I (fun(zhY:Nat) (z5L:Int) (z7C:Int) (z7D:Int) (z7E:Int)=>(y1R z3F zbh zhY z5L z7C z7D z7E=some r)) (fun zhY z5L z7C z7D z7E=>[(1,(.pointer (some ⟨znU,0,none⟩))),(3,(.pointer (some ⟨znV,0,none⟩))),(4,(.pointer (some ⟨znW,0,none⟩))),(28,(.slice zhW z3F.length zhX)),(29,(.int .i64 ((z3F.length:Nat):Int))),(30,(.int .i64 z5L))]) (fun zhY z5L z7C z7D z7E=>[stb znU 177 [(.slice zhW z3F.length zhX),(.int .i64 z2z.fRate.fN),(.int .i64 z2z.fRate.fD),(.int .i64 z2z.fL.fN),(.int .i64 z2z.fL.fD),(.func (.func 78) #[] #[(.pointer (some zl1)),(.pointer (some zl2))]),(.slice zl3 zfj.length zl4)],stb znV 225 [(.int .i64 z7C)],stb znW 132 [(.int .i64 z7D),(.int .i64 z7E)]]) (fun zhY z5L z7C z7D z7E=>zhY) ⟨yy,0,0,zl0.fN,zl0.fD⟩ h (.r6 rfl rfl rfl rfl rfl rfl) (.s3 .h2 .h1 .here) ?_)))))))))
   rintro zhY z5L z7C z7D z7E h
   obtain⟨zuT,rfl⟩:=y7w h
   rw[y1R] at h
   refine WC.b (WC.a (WL.pu rfl (WL.nil (WX.a (WC.b (WC.cond rfl (fun zuZ=>?_) (fun zuZ=>?_)))))))
   ·replace h:=yp h zuZ
    refine WC.skip (WX.a (WC.b (WC.block (WC.b ?_))))
    obtain⟨zPd,h⟩:=yo h
    refine WC.a (WL.znth (dd:=32) rfl rfl (Z:=Z) (Pr:=(y1W Z)) z82 rfl rfl zCZ zPd ?_)
    rintro zYQ zYR zPe zYS ⟨zYT,zYU,rfl,zD2⟩
    refine WL.qA 33 (yc zbO rfl (y5I hz.pv zPe rfl)) (WL.pu rfl (WL.nil (WX.a (WC.b (WC.b ?_)))))
    obtain⟨zuU,zPf,h⟩:=z8 h
    refine WC.a (WL.pu rfl (WL.y4l (dd:=36) rfl rfl rfl (zb Tryz.call153 (.cons rfl .nil)) .nil (cc hz .nil fun w pz ho=>y75 _ _ _ _ _ zPf w pz zD2) ?_))
    rintro zYV zYW _
    refine WL.pu rfl (WL.pu rfl (WL.pu rfl (WL.pu rfl (WL.pu rfl (WL.nil (WX.a (WC.b (WC.a (WL.pu rfl (WL.pu rfl (WL.nil (WX.a (WC.cond rfl (fun zv0=>?_) (fun zv0=>?_))))))))))))))
    ·replace h:=yp h zv0
     refine WC.b (WC.a (WL.pu rfl (WL.pu rfl (WL.nil (WX.a (WC.ret (WX.ye (WX.ys (WX.ye (WX.ye (WX.ys (WX.ye ?_))))))))))))
     obtain rfl:=oJ h
     refine WX.yf Tryz.results109 (.tmp rfl .nil) (fun w hw=>?_)
     exact⟨yD rfl,hw.sub .nil⟩
    ·replace h:=yq h zv0
     refine WC.skip (WX.a (WC.b ?_))
     obtain⟨zCT,zPg,h⟩:=z8 h
     refine WC.a (WL.pu rfl (WL.cA 44 (zb Tryz.call154 (.cons rfl .nil)) .nil (cc hz .nil fun w pz ho=>ybK _ _ _ _ _ zPg w pz zD2) (WL.pu rfl (WL.pu rfl (WL.pu rfl (WL.nA 9 (yv (cs:=[(.int .i64 0),(.int .i64 0)]) zT rfl) ?_))))))
     intro zYX _
     refine WL.ym rfl rfl (yl zz rfl rfl rfl .here rfl rfl rfl) (WL.pu rfl (WL.nil (WX.a ?_)))
     obtain⟨zfi,zPh,h⟩:=z8 h
     refine WC.a (WL.qA 47 (yh zf rfl (yi .h4) rfl) (WL.qA 48 (yh zf rfl (yi .here) rfl) (WL.cA 49 (zb Tryz.call73 (.r4 rfl rfl rfl rfl)) (.cons .h3 .nil) (cc hz (.cons .h3 .nil) fun w pz ho=>y2p _ _ (z6n:=69) (z7w:=[]) _ (z6V:=(fun(y0:z2) (y1:z2)=>y1e y0 y1)) _ _ _ zPh w pz Tryz.call69 (fun w' hz' y0 y1  r  hr=>y65 _ _ _ _ hr w' hz' ) ho) (WL.ym rfl rfl (yl zz rfl rfl rfl .h4 rfl rfl rfl) (WL.nil (WX.yn (WX.a (WC.a (WL.pu rfl (WL.pu rfl (WL.nil ?_)))))))))))
     exact WX.round ⟨zuT,(i64 (z5L+1)),zfi.2.fE,zfi.1.fN,zfi.1.fD⟩ h (Nat.lt_succ_self _) (.r6 rfl rfl rfl rfl rfl rfl) (.s3 .h4 .h1 .here)
   ·replace h:=yq h zuZ
    refine WC.exit (WX.yg (WX.yg (WX.yz ?_)))
    exact WX.mid ⟨z7C,z7D,z7E⟩ h (.r3 rfl rfl rfl) (.s3 .here .here .here)
  ·rintro zbi zdi zdj h
   replace h:=(zPc zbi zdi zdj).symm.trans h
   refine WC.b (WC.b ?_)
   obtain⟨zuX,zD3,h⟩:=z8 h
   refine WC.a (WL.qA 51 (ya y4P rfl rfl) (WL.qA 52 (yc y35 rfl (yk .h1 rfl)) (WL.pu rfl (WL.pu rfl (WL.seg true 6 54 (B:=zuX) rfl rfl rfl rfl rfl rfl (fun h=>(oJ (yq zD3 h)).symm) (fun _ zPi=>?_) ?_)))))
   ·skip
    have zl7:=yp zD3 zPi
    obtain⟨zCW,zPj,zl7⟩:=z8 zl7
    replace zl7:=oJ zl7
    refine WL.qA 55 (yh zf rfl (yi .h2) rfl) (WL.qA 56 (ya yaU rfl rfl) (WL.qA 57 (ya y8h rfl rfl) (WL.qA 58 (yT (cs:=[(.int .i64 z2z.fRate.fN),(.int .i64 z2z.fRate.fD)]) zf rfl rfl (y31 (s:=2) .here rfl)) (WL.cA 59 (zb Tryz.call79 (.r2 rfl rfl)) .nil (cc hz .nil fun w pz ho=>y4n _ _ _ _ zPj w pz ) (WL.pu rfl (WL.pu rfl ?_))))))
    exact WL.yB zl7 rfl rfl .all
   refine WL.nil (WX.a (WC.cond rfl (fun zv1=>?_) (fun zv1=>?_)))
   ·replace h:=yp h zv1
    refine WC.b (WC.a (WL.pu rfl (WL.nil (WX.a (WC.ret (WX.ye ?_))))))
    obtain rfl:=oJ h
    refine WX.yf Tryz.results109 (.tmp rfl .nil) (fun w hw=>?_)
    exact⟨yD rfl,hw.sub .nil⟩
   ·replace h:=yq h zv1
    refine WC.skip (WX.a (WC.b (WC.a (WL.qA 62 (ya y4P rfl rfl) (WL.qA 63 (yc y35 rfl (yk .h1 rfl)) (WL.pu rfl (WL.nil (WX.a (WC.ret ?_)))))))))
    obtain rfl:=oJ h
    refine WX.yf Tryz.results109 (.tmp rfl .nil) (fun w hw=>?_)
    exact⟨yD rfl,hw.sub .nil⟩
def y40(zhZ:List (List z7))(z6t:zSv)(znX:List (List z7))(zi0:zSv)(zi1:List z2):Option (Int×Int×Int×Int):=
 some (z6t.fRate.fN,z6t.fRate.fD,z6t.fL.fN,z6t.fL.fD)
theorem y95(Z:Zp)(znY:Option Addr)(znZ:Nat)(zo0:Addr)(zD4:Option Addr)(zD5:Nat)(zo1:Addr)(zo2:Option Addr)(zo3:Nat)(zhZ:List (List z7))(z6t:zSv)(znX:List (List z7))(zi0:zSv)(zi1:List z2)(r:Int×Int×Int×Int)(h:y40 zhZ z6t znX zi0 zi1=some r)(w₀:World)(hz:PZ [] w₀ Z)(zYY:ZS Z 1 (y1W Z) znY znZ zhZ)(zYZ:ZS Z 1 (y1W Z) zD4 zD5 znX)(zZ0:ZC Z zo0 [(.slice zD4 znX.length zD5)])(zZ1:ZC Z zo1 [(.int .i64 zi0.fRate.fN),(.int .i64 zi0.fRate.fD),(.int .i64 zi0.fL.fN),(.int .i64 zi0.fL.fD)])(zZ2:ZS Z 2 (fun r x=>r=yw x) zo2 zo3 zi1):
  Calls Tryz.prog 110 #[(.agg #[(.slice znY zhZ.length znZ),(.int .i64 z6t.fRate.fN),(.int .i64 z6t.fRate.fD),(.int .i64 z6t.fL.fN),(.int .i64 z6t.fL.fD),(.func (.func 78) #[] #[(.pointer (some zo0)),(.pointer (some zo1))]),(.slice zo2 zi1.length zo3)])] w₀ fun e w'=>∃ zD6:Nat,e = .returned (.func (.func 155) #[] #[(.pointer (some ⟨zD6,0,none⟩))])∧True∧Hp [] w₀ w' [stb zD6 177 [(.slice znY zhZ.length znZ),(.int .i64 r.1),(.int .i64 r.2.1),(.int .i64 r.2.2.1),(.int .i64 r.2.2.2),(.func (.func 78) #[] #[(.pointer (some zo0)),(.pointer (some zo1))]),(.slice zo2 zi1.length zo3)]]:=by
 unfold y40 at h
 refine Calls.on1 Tryz.func110 Tryz.ntmps110 ?_
 refine WC.b (WC.a (WL.nA 1 (yI (cs:=[(.slice znY zhZ.length znZ),(.int .i64 z6t.fRate.fN),(.int .i64 z6t.fRate.fD),(.int .i64 z6t.fL.fN),(.int .i64 z6t.fL.fD),(.func (.func 78) #[] #[(.pointer (some zo0)),(.pointer (some zo1))]),(.slice zo2 zi1.length zo3)]) rfl rfl) ?_))
 intro zPk _
 refine WL.pu rfl (WL.nil (WX.a (WC.b (WC.a (WL.qA 3 (y19 (Eos.caps (l:=[.tmp 1]) (.cons rfl .nil))) (WL.pu rfl (WL.nil (WX.a (WC.ret ?_)))))))))
 obtain rfl:=oJ h
 refine WX.yf Tryz.results110 (.tmp rfl .nil) (fun w hw=>?_)
 exact⟨zPk,yD rfl,trivial,hw.sub (.cons .here .nil)⟩
def y1w(zy:Type)(z2H:List z2×Int)(z2r:z2→zy→Option (Bool×zy))(zbj:zy→Option zy):Nat→Int→zy→Option zy
 | 0,_,_=>none
 | zv2+1,z35,z5M=>if decide (z35<((z2H.1.length:Nat):Int)) then chk ((0:Int)≤z35∧z35<((z2H.1.length:Nat):Int)) ((y1E (⟨((nth z2H.1 z35).fN),((nth z2H.1 z35).fD)⟩:z2)).bind fun zD7=>(y1n zD7).bind fun zv3=>(z2r zv3 z5M).bind fun z9c=>(if !z9c.1 then some (true,z9c.2) else(y2q (⟨((nth z2H.1 z35).fN),((nth z2H.1 z35).fD)⟩:z2)).bind fun zD8=>(y1n zD8).bind fun zv4=>(z2r zv4 z9c.2).bind fun zl8=>some (!zl8.1,zl8.2)).bind fun zdk=>if zdk.1 then some zdk.2 else y1w zy z2H z2r zbj zv2 (i64 (z35+1)) zdk.2) else zbj z5M
theorem y76{n:Nat}{zy:Type}{z2H:List z2×Int}{z2r:z2→zy→Option (Bool×zy)}{zbj:zy→Option zy}{z35:Int}{z5M:zy}{r:zy}(h:y1w zy z2H z2r zbj n z35 z5M=some r):∃ m,n=m+1:=by
 cases n with
 | zero=>cases h
 | succ m=>exact⟨m,rfl⟩
def y1x(zy:Type)(z2T:List (List z7))(z2r:z2→zy→Option (Bool×zy))(zbk:zy→Option zy):Nat→Int→zy→Option zy
 | 0,_,_=>none
 | zv5+1,z4k,z6u=>if decide (z4k<((z2T.length:Nat):Int)) then jp1 (fun(z9d:zy)=>y1x zy z2T z2r zbk zv5 (i64 (z4k+1)) z9d) fun zv6=>chk ((0:Int)≤z4k∧z4k<((z2T.length:Nat):Int)) ((y1V (nth z2T z4k)).bind fun z2H=>jp1 (fun(z9e:zy)=>zv6 z9e) fun zbj=>y1w zy z2H z2r zbj yy 0 z6u) else zbk z6u
theorem y77{n:Nat}{zy:Type}{z2T:List (List z7)}{z2r:z2→zy→Option (Bool×zy)}{zbk:zy→Option zy}{z4k:Int}{z6u:zy}{r:zy}(h:y1x zy z2T z2r zbk n z4k z6u=some r):∃ m,n=m+1:=by
 cases n with
 | zero=>cases h
 | succ m=>exact⟨m,rfl⟩
def y1y(zy:Type)(z36:List z2)(z2r:z2→zy→Option (Bool×zy))(zbl:zy→Option zy):Nat→Int→zy→Option zy
 | 0,_,_=>none
 | zv7+1,z3G,z5N=>if decide (z3G<((z36.length:Nat):Int)) then chk ((0:Int)≤z3G∧z3G<((z36.length:Nat):Int)) ((y1E (⟨((nth z36 z3G).fN),((nth z36 z3G).fD)⟩:z2)).bind fun zD9=>(y1n zD9).bind fun zv8=>(z2r zv8 z5N).bind fun z9f=>(if !z9f.1 then some (true,z9f.2) else(y2q (⟨((nth z36 z3G).fN),((nth z36 z3G).fD)⟩:z2)).bind fun zDa=>(y1n zDa).bind fun zv9=>(z2r zv9 z9f.2).bind fun zl9=>some (!zl9.1,zl9.2)).bind fun zdl=>if zdl.1 then some zdl.2 else y1y zy z36 z2r zbl zv7 (i64 (z3G+1)) zdl.2) else zbl z5N
theorem y78{n:Nat}{zy:Type}{z36:List z2}{z2r:z2→zy→Option (Bool×zy)}{zbl:zy→Option zy}{z3G:Int}{z5N:zy}{r:zy}(h:y1y zy z36 z2r zbl n z3G z5N=some r):∃ m,n=m+1:=by
 cases n with
 | zero=>cases h
 | succ m=>exact⟨m,rfl⟩
def y2O(zy:Type)(z2r:z2→zy→Option (Bool×zy))(s0_56417:zy)(z2T:List (List z7))(zfk:zSv)(zla:List (List z7))(zfl:zSv)(z36:List z2):Option zy:=
 (y2J).bind fun zva=>(z2r zva s0_56417).bind fun zfm=>if !zfm.1 then some zfm.2 else jp1 (fun(z9g:zy)=>jp1 (fun(zbm:zy)=>some zbm) fun zbl=>y1y zy z36 z2r zbl yy 0 z9g) fun zbk=>y1x zy z2T z2r zbk yy 0 zfm.2
theorem y8I(Z:Zp)(zy:Type)(z8A:Nat)(z4l:Type)(z2A:z4l→zy→Asrt)(z73:z4l→zy→Prop)(zbn:z4l)(zbo:Addr)(zdm:Option Addr)(zdn:Nat)(zvb:Addr)(zvc:Option Addr)(zvd:Nat)(zve:Addr)(zlb:Option Addr)(zlc:Nat)(z2r:z2→zy→Option (Bool×zy))(s0_56417:zy)(z2T:List (List z7))(zfk:zSv)(zla:List (List z7))(zfl:zSv)(z36:List z2)(r:zy)(w₀:World)(hz:PZ (fps [z2A zbn s0_56417]) w₀ Z)(zld:ybv Tryz.prog Z z8A (α:=z2) (σ:=zy) (G:=z4l) (H:=Unit) (fun h x=>[(.agg #[(.int .i64 x.fN),(.int .i64 x.fD)])]) (fun h x=>[]) z2r z2A z73)(zPl:z73 zbn s0_56417)(zPm:ZS Z 1 (y1W Z) zdm zdn z2T)(zZ3:ZS Z 1 (y1W Z) zvc zvd zla)(zZ4:ZC Z zvb [(.slice zvc zla.length zvd)])(zZ5:ZC Z zve [(.int .i64 zfl.fRate.fN),(.int .i64 zfl.fRate.fD),(.int .i64 zfl.fL.fN),(.int .i64 zfl.fL.fD)])(zPn:ZS Z 2 (fun r x=>r=yw x) zlb zlc z36)(zDb:ZC Z zbo [(.slice zdm z2T.length zdn),(.int .i64 zfk.fRate.fN),(.int .i64 zfk.fRate.fD),(.int .i64 zfk.fL.fN),(.int .i64 zfk.fL.fD),(.func (.func 78) #[] #[(.pointer (some zvb)),(.pointer (some zve))]),(.slice zlb z36.length zlc)])(h:y2O zy z2r s0_56417 z2T zfk zla zfl z36=some r)(hown:Hp (fps [z2A zbn s0_56417]) w₀ w₀ [z2A zbn s0_56417]):
  Calls Tryz.prog 155 #[(.func (.yield z8A) #[] #[]),(.pointer (some zbo))] w₀ fun e w'=>∃ zDc:z4l,e = .returned (.tuple #[])∧(z73 zDc r)∧Hp (fps [z2A zbn s0_56417]) w₀ w' [z2A zDc r]:=by
 unfold y2O at h
 refine Calls.oh2 Tryz.func155 Tryz.ntmps155 hown ?_
 refine WC.b (WC.b ?_)
 obtain⟨zva,zPo,h⟩:=z8 h
 obtain⟨zfm,zPp,h⟩:=z8 h
 refine WC.a (WL.pu rfl (WL.cA 12 (zb Tryz.call107 .nil) .nil (cc hz .nil fun w pz ho=>y4c _ _ zPo w pz ) (WL.yield (dd:=13) (x:=zva) (h:=()) (g:=zbn) (s:=s0_56417) (b:=zfm.1) (s':=zfm.2) zld rfl rfl rfl (.cons rfl .nil) ((.cons .here .nil):Sel _ [z2A zbn s0_56417] _) zPp zPl (fun w hw=>hz.call hw ((.cons .here .nil):Sel _ [z2A zbn s0_56417] _)) ?_)))
 intro zDd zDe
 refine WL.pu rfl (WL.nil (WX.a (WC.cond rfl (fun zvf=>?_) (fun zvf=>?_))))
 ·replace h:=yp h zvf
  refine WC.ret (WX.ye ?_)
  obtain rfl:=oJ h
  refine WX.yf Tryz.results155 .nil (fun w hw=>?_)
  exact⟨zDd,y7o,zDe,hw.sub (.cons .here .nil)⟩
 ·replace h:=yq h zvf
  refine WC.skip (WX.a ?_)
  obtain⟨zbk,zPq,h⟩:=y15 h
  refine WC.y4z (fun(z9g:zy) (zi2:z4l)=>(zbk z9g=some r)∧(z73 zi2 z9g)) (fun z9g zi2=>[(0,(.func (.yield z8A) #[] #[])),(1,(.pointer (some zbo)))]) (fun z9g zi2=>[z2A zi2 z9g]) ?_ ?_
  ·skip
   refine WC.b (WC.a (WL.qA 15 (ya y6M rfl rfl) (WL.qA 16 (yc z7h rfl (y1l hz.pv zDb rfl)) (WL.qA 17 (yH Tryz.underlying128 rfl) (WL.pu rfl (WL.nil (WX.a (WC.block (WC.y5a (fun(zi3:Nat) (z4k:Int) (z6u:zy) (zdo:z4l)=>(y1x zy z2T z2r zbk zi3 z4k z6u=some r)∧(z73 zdo z6u)) (fun zi3 z4k z6u zdo=>[(0,(.func (.yield z8A) #[] #[])),(1,(.pointer (some zbo))),(16,(.slice zdm z2T.length zdn)),(17,(.int .i64 ((z2T.length:Nat):Int))),(18,(.int .i64 z4k))]) (fun zi3 z4k z6u zdo=>[z2A zdo z6u]) (fun zi3 z4k z6u zdo=>zi3) ⟨yy,0,zfm.2,zDd⟩ ⟨h,zDe⟩ (.r5 rfl rfl rfl rfl rfl) (.cons .here .nil) ?_)))))))))
   rintro zi3 z4k z6u zdo ⟨h,zDf⟩
   obtain⟨zv5,rfl⟩:=y77 h
   rw[y1x] at h
   refine WC.b (WC.a (WL.pu rfl (WL.nil (WX.a (WC.b (WC.cond rfl (fun zvg=>?_) (fun zvg=>?_)))))))
   ·replace h:=yp h zvg
    refine WC.skip (WX.a ?_)
    obtain⟨zv6,zPr,h⟩:=y15 h
    refine WC.y4z (fun(z9d:zy) (zi4:z4l)=>(zv6 z9d=some r)∧(z73 zi4 z9d)) (fun z9d zi4=>[(0,(.func (.yield z8A) #[] #[])),(1,(.pointer (some zbo))),(16,(.slice zdm z2T.length zdn)),(17,(.int .i64 ((z2T.length:Nat):Int))),(18,(.int .i64 z4k))]) (fun z9d zi4=>[z2A zi4 z9d]) ?_ ?_
    ·skip
     refine WC.block (WC.b ?_)
     obtain⟨zPs,h⟩:=yo h
     refine WC.a (WL.znth (dd:=20) rfl rfl (Z:=Z) (Pr:=(y1W Z)) z82 rfl rfl zPm zPs ?_)
     rintro zZ6 zZ7 zPt zZ8 ⟨zZ9,zZa,rfl,zPu⟩
     refine WL.qA 21 (yc zbO rfl (y5I hz.pv zPt rfl)) (WL.pu rfl (WL.nil (WX.a (WC.b ?_))))
     obtain⟨z2H,zPv,h⟩:=z8 h
     refine WC.a (WL.pu rfl (WL.y4l (dd:=24) rfl rfl rfl (zb Tryz.call153 (.cons rfl .nil)) .nil (cc hz .nil fun w pz ho=>y75 _ _ _ _ _ zPv w pz zPu) ?_))
     rintro zDg zo4 _
     refine WL.pu rfl (WL.pu rfl (WL.pu rfl (WL.pu rfl (WL.pu rfl (WL.nil (WX.a (WC.b (WC.a (WL.pu rfl (WL.qA 28 (yH Tryz.underlying175 rfl) (WL.pu rfl (WL.nil (WX.a ?_)))))))))))))
     obtain⟨zbj,zPw,h⟩:=y15 h
     refine WC.y9e (fun(z9e:zy) (zi5:z4l)=>(zbj z9e=some r)∧(z73 zi5 z9e)) (fun z9e zi5=>[(0,(.func (.yield z8A) #[] #[])),(1,(.pointer (some zbo))),(16,(.slice zdm z2T.length zdn)),(17,(.int .i64 ((z2T.length:Nat):Int))),(18,(.int .i64 z4k))]) (fun z9e zi5=>[z2A zi5 z9e]) ?_ ?_
     ·skip
      refine WC.block (WC.y5a (fun(zi6:Nat) (z35:Int) (z5M:zy) (z9h:z4l)=>(y1w zy z2H z2r zbj zi6 z35 z5M=some r)∧(z73 z9h z5M)) (fun zi6 z35 z5M z9h=>[(0,(.func (.yield z8A) #[] #[])),(1,(.pointer (some zbo))),(16,(.slice zdm z2T.length zdn)),(17,(.int .i64 ((z2T.length:Nat):Int))),(18,(.int .i64 z4k)),(27,(.slice zDg z2H.1.length zo4)),(28,(.int .i64 ((z2H.1.length:Nat):Int))),(29,(.int .i64 z35))]) (fun zi6 z35 z5M z9h=>[row (.slice zDg z2H.1.length zo4) 132 2 (z2H.1.flatMap yw),z2A z9h z5M]) (fun zi6 z35 z5M z9h=>zi6) ⟨yy,0,z6u,zdo⟩ ⟨h,zDf⟩ (.r8 rfl rfl rfl rfl rfl rfl rfl rfl) (.s2 .here .here) ?_)
      rintro zi6 z35 z5M z9h ⟨h,zDh⟩
      obtain⟨zv2,rfl⟩:=y76 h
      rw[y1w] at h
      refine WC.b (WC.a (WL.pu rfl (WL.nil (WX.a (WC.b (WC.cond rfl (fun zvh=>?_) (fun zvh=>?_)))))))
      ·replace h:=yp h zvh
       refine WC.skip (WX.a (WC.b (WC.block (WC.b ?_))))
       obtain⟨zle,h⟩:=yo h
       refine WC.a (WL.know (fun w hw=>Hp.y2M .here hw (by intro hz';have:=zle;rw[hz'] at this;omega)) ?_)
       rintro⟨zDi,rfl⟩
       refine WL.qA 31 (yX z2g rfl rfl zle.1 zle.2 y32) (WL.qA 32 (yT (cs:=(yw (nth z2H.1 z35))) zf rfl rfl (y3P .here (y3D (enc:=yw) (l:=z2H.1) (i:=z35) (sz:=2) (fun _=>rfl) zle.1 zle.2))) (WL.nA 8 (yv (cs:=[(.int .i64 0),(.int .i64 0)]) zT rfl) ?_))
       intro zPx _
       refine WL.ym rfl rfl (yl zz rfl rfl rfl .here rfl rfl rfl) (WL.nil (WX.a (WC.b ?_)))
       obtain⟨zD7,zPy,h⟩:=z8 h
       obtain⟨zv3,zPz,h⟩:=z8 h
       obtain⟨z9c,zPA,h⟩:=z8 h
       obtain⟨zdk,zDj,h⟩:=z8 h
       refine WC.a (WL.pu rfl (WL.qA 34 (yh zf rfl (yi .here) rfl) (WL.cA 35 (zb Tryz.call46 (.cons rfl .nil)) .nil (cc hz .nil fun w pz ho=>y5M _ _ _ zPy w pz ) (WL.cA 36 (zb Tryz.call145 (.cons rfl .nil)) .nil (cc hz .nil fun w pz ho=>y2T _ _ _ zPz w pz ) (WL.yield (dd:=37) (x:=zv3) (h:=()) (g:=z9h) (s:=z5M) (b:=z9c.1) (s':=z9c.2) zld rfl rfl rfl (.cons rfl .nil) ((.cons .h2 .nil):Sel _ [z2A z9h z5M] _) zPA zDh (fun w hw=>hz.call hw ((.cons .h2 .nil):Sel _ [z2A z9h z5M] _)) ?_)))))
       intro zo5 zDk
       refine WL.pu rfl (WL.pu rfl (WL.yc3 (fun(zfn:z4l)=>z73 zfn zdk.2) (fun(zfn:z4l)=>[(0,(.func (.yield z8A) #[] #[])),(1,(.pointer (some zbo))),(16,(.slice zdm z2T.length zdn)),(17,(.int .i64 ((z2T.length:Nat):Int))),(18,(.int .i64 z4k)),(27,(.slice (some ⟨zDi,0,none⟩) z2H.1.length zo4)),(28,(.int .i64 ((z2H.1.length:Nat):Int))),(29,(.int .i64 z35)),(46,(.bool zdk.1))]) (fun(zfn:z4l)=>[z2A zfn zdk.2,stb zPx 132 [(.int .i64 ((nth z2H.1 z35).fN)),(.int .i64 ((nth z2H.1 z35).fD))],row (.slice (some ⟨zDi,0,none⟩) z2H.1.length zo4) 132 2 (z2H.1.flatMap yw)]) 7 ?_ (fun zfn zDl=>?_)))
       ·rcases Bool.eq_false_or_eq_true (!z9c.1) with hb' | hb'
        ·have zDm:=hb';clear hb'
         have zvi:=yp zDj zDm
         replace zvi:=oJ zvi
         refine WL.pin (i:=39) rfl zDm (WL.e rfl rfl rfl (WL.e rfl rfl rfl (WL.e rfl rfl rfl (WL.e rfl rfl rfl (WL.e rfl rfl rfl (WL.e rfl rfl rfl (WL.pu rfl ?_)))))))
         subst zvi
         exact WL.y64 zo5 zDk (.r9 rfl rfl rfl rfl rfl rfl rfl rfl rfl) (.s3 .here .here .here)
        ·have zDn:=hb';clear hb'
         have zbp:=yq zDj zDn
         obtain⟨zD8,zPB,zbp⟩:=z8 zbp
         obtain⟨zv4,zPC,zbp⟩:=z8 zbp
         obtain⟨zl8,zPD,zbp⟩:=z8 zbp
         replace zbp:=oJ zbp
         refine WL.pin (i:=39) rfl zDn (WL.pu rfl (WL.qA 41 (yh zf rfl (yi .h1) rfl) (WL.cA 42 (zb Tryz.call156 (.cons rfl .nil)) .nil (cc hz .nil fun w pz ho=>y94 _ _ _ zPB w pz ) (WL.cA 43 (zb Tryz.call145 (.cons rfl .nil)) .nil (cc hz .nil fun w pz ho=>y2T _ _ _ zPC w pz ) (WL.yield (dd:=44) (x:=zv4) (h:=()) (g:=zo5) (s:=z9c.2) (b:=zl8.1) (s':=zl8.2) zld rfl rfl rfl (.cons rfl .nil) ((.cons .here .nil):Sel _ [z2A zo5 z9c.2] _) zPD zDk (fun w hw=>hz.call hw ((.cons .here .nil):Sel _ [z2A zo5 z9c.2] _)) ?_)))))
         intro zPE zPF
         refine WL.pu rfl (WL.pu rfl ?_)
         subst zbp
         exact WL.y64 zPE zPF (.r9 rfl rfl rfl rfl rfl rfl rfl rfl rfl) (.s3 .here .here .here)
       ·skip
        refine WL.nil (WX.a (WC.cond rfl (fun zvj=>?_) (fun zvj=>?_)))
        ·replace h:=yp h zvj
         refine WC.ret (WX.ys (WX.ye (WX.ye (WX.ys (WX.ye (WX.ys (WX.ye (WX.ye (WX.ys (WX.ye ?_))))))))))
         obtain rfl:=oJ h
         refine WX.yf Tryz.results155 .nil (fun w hw=>?_)
         exact⟨zfn,y7o,zDl,hw.sub (.cons .here .nil)⟩
        ·replace h:=yq h zvj
         refine WC.skip (WX.yn (WX.a (WC.a (WL.pu rfl (WL.pu rfl (WL.nil ?_))))))
         exact WX.round ⟨zv2,(i64 (z35+1)),zdk.2,zfn⟩ ⟨h,zDl⟩ (Nat.lt_succ_self _) (.r8 rfl rfl rfl rfl rfl rfl rfl rfl) (.s2 .h2 .here)
      ·replace h:=yq h zvh
       refine WC.exit (WX.yg (WX.yg (WX.yz ?_)))
       exact WX.mid ⟨z5M,z9h⟩ ⟨h,zDh⟩ (.r5 rfl rfl rfl rfl rfl) (.cons .h1 .nil)
     ·rintro z9e zi5 ⟨h,zPG⟩
      replace h:=(zPw z9e).symm.trans h
      refine WX.yn ?_
      exact WX.mid ⟨z9e,zi5⟩ ⟨h,zPG⟩ (.r5 rfl rfl rfl rfl rfl) (.cons .here .nil)
    ·rintro z9d zi4 ⟨h,zPH⟩
     replace h:=(zPr z9d).symm.trans h
     refine WC.a (WL.pu rfl (WL.pu rfl (WL.nil ?_)))
     exact WX.round ⟨zv5,(i64 (z4k+1)),z9d,zi4⟩ ⟨h,zPH⟩ (Nat.lt_succ_self _) (.r5 rfl rfl rfl rfl rfl) (.cons .here .nil)
   ·replace h:=yq h zvg
    refine WC.exit (WX.yg (WX.yg (WX.yz ?_)))
    exact WX.mid ⟨z6u,zdo⟩ ⟨h,zDf⟩ (.r2 rfl rfl) (.cons .here .nil)
  ·rintro z9g zi2 ⟨h,zPI⟩
   replace h:=(zPq z9g).symm.trans h
   refine WC.b (WC.a (WL.qA 49 (ya yff rfl rfl) (WL.qA 50 (yc z83 rfl (y1l hz.pv zDb rfl)) (WL.qA 51 (yH Tryz.underlying175 rfl) (WL.pu rfl (WL.nil (WX.a ?_)))))))
   obtain⟨zbl,zPJ,h⟩:=y15 h
   refine WC.y9e (fun(zbm:zy) (zi7:z4l)=>(zbl zbm=some r)∧(z73 zi7 zbm)) (fun zbm zi7=>[]) (fun zbm zi7=>[z2A zi7 zbm]) ?_ ?_
   ·skip
    refine WC.block (WC.y5a (fun(zi8:Nat) (z3G:Int) (z5N:zy) (z9i:z4l)=>(y1y zy z36 z2r zbl zi8 z3G z5N=some r)∧(z73 z9i z5N)) (fun zi8 z3G z5N z9i=>[(0,(.func (.yield z8A) #[] #[])),(50,(.slice zlb z36.length zlc)),(51,(.int .i64 ((z36.length:Nat):Int))),(52,(.int .i64 z3G))]) (fun zi8 z3G z5N z9i=>[z2A z9i z5N]) (fun zi8 z3G z5N z9i=>zi8) ⟨yy,0,z9g,zi2⟩ ⟨h,zPI⟩ (.r4 rfl rfl rfl rfl) (.cons .here .nil) ?_)
    rintro zi8 z3G z5N z9i ⟨h,zDo⟩
    obtain⟨zv7,rfl⟩:=y78 h
    rw[y1y] at h
    refine WC.b (WC.a (WL.pu rfl (WL.nil (WX.a (WC.b (WC.cond rfl (fun zvk=>?_) (fun zvk=>?_)))))))
    ·replace h:=yp h zvk
     refine WC.skip (WX.a (WC.b (WC.block (WC.b ?_))))
     obtain⟨zPK,h⟩:=yo h
     refine WC.a (WL.znth (dd:=54) rfl rfl (Z:=Z) (Pr:=(fun r x=>r=yw x)) z2g rfl rfl zPn zPK ?_)
     rintro zZb zZc zPL zZd rfl
     refine WL.qA 55 (yh zf rfl (y2b hz.pv zPL) rfl) (WL.nA 10 (yv (cs:=[(.int .i64 0),(.int .i64 0)]) zT rfl) ?_)
     intro zPM _
     refine WL.ym rfl rfl (yl zz rfl rfl rfl .here rfl rfl rfl) (WL.nil (WX.a (WC.b ?_)))
     obtain⟨zD9,zPN,h⟩:=z8 h
     obtain⟨zv8,zPO,h⟩:=z8 h
     obtain⟨z9f,zPP,h⟩:=z8 h
     obtain⟨zdl,zDp,h⟩:=z8 h
     refine WC.a (WL.pu rfl (WL.qA 57 (yh zf rfl (yi .here) rfl) (WL.cA 58 (zb Tryz.call46 (.cons rfl .nil)) .nil (cc hz .nil fun w pz ho=>y5M _ _ _ zPN w pz ) (WL.cA 59 (zb Tryz.call145 (.cons rfl .nil)) .nil (cc hz .nil fun w pz ho=>y2T _ _ _ zPO w pz ) (WL.yield (dd:=60) (x:=zv8) (h:=()) (g:=z9i) (s:=z5N) (b:=z9f.1) (s':=z9f.2) zld rfl rfl rfl (.cons rfl .nil) ((.cons .h1 .nil):Sel _ [z2A z9i z5N] _) zPP zDo (fun w hw=>hz.call hw ((.cons .h1 .nil):Sel _ [z2A z9i z5N] _)) ?_)))))
     intro zo6 zDq
     refine WL.pu rfl (WL.pu rfl (WL.yc3 (fun(zfo:z4l)=>z73 zfo zdl.2) (fun(zfo:z4l)=>[(0,(.func (.yield z8A) #[] #[])),(50,(.slice zlb z36.length zlc)),(51,(.int .i64 ((z36.length:Nat):Int))),(52,(.int .i64 z3G)),(69,(.bool zdl.1))]) (fun(zfo:z4l)=>[z2A zfo zdl.2,stb zPM 132 [(.int .i64 ((nth z36 z3G).fN)),(.int .i64 ((nth z36 z3G).fD))]]) 7 ?_ (fun zfo zDr=>?_)))
     ·rcases Bool.eq_false_or_eq_true (!z9f.1) with hb' | hb'
      ·have zDs:=hb';clear hb'
       have zvl:=yp zDp zDs
       replace zvl:=oJ zvl
       refine WL.pin (i:=62) rfl zDs (WL.e rfl rfl rfl (WL.e rfl rfl rfl (WL.e rfl rfl rfl (WL.e rfl rfl rfl (WL.e rfl rfl rfl (WL.e rfl rfl rfl (WL.pu rfl ?_)))))))
       subst zvl
       exact WL.y64 zo6 zDq (.r5 rfl rfl rfl rfl rfl) (.s2 .here .here)
      ·have zDt:=hb';clear hb'
       have zbq:=yq zDp zDt
       obtain⟨zDa,zPQ,zbq⟩:=z8 zbq
       obtain⟨zv9,zPR,zbq⟩:=z8 zbq
       obtain⟨zl9,zPS,zbq⟩:=z8 zbq
       replace zbq:=oJ zbq
       refine WL.pin (i:=62) rfl zDt (WL.pu rfl (WL.qA 64 (yh zf rfl (yi .h1) rfl) (WL.cA 65 (zb Tryz.call156 (.cons rfl .nil)) .nil (cc hz .nil fun w pz ho=>y94 _ _ _ zPQ w pz ) (WL.cA 66 (zb Tryz.call145 (.cons rfl .nil)) .nil (cc hz .nil fun w pz ho=>y2T _ _ _ zPR w pz ) (WL.yield (dd:=67) (x:=zv9) (h:=()) (g:=zo6) (s:=z9f.2) (b:=zl9.1) (s':=zl9.2) zld rfl rfl rfl (.cons rfl .nil) ((.cons .here .nil):Sel _ [z2A zo6 z9f.2] _) zPS zDq (fun w hw=>hz.call hw ((.cons .here .nil):Sel _ [z2A zo6 z9f.2] _)) ?_)))))
       intro zPT zPU
       refine WL.pu rfl (WL.pu rfl ?_)
       subst zbq
       exact WL.y64 zPT zPU (.r5 rfl rfl rfl rfl rfl) (.s2 .here .here)
     ·skip
      refine WL.nil (WX.a (WC.cond rfl (fun zvm=>?_) (fun zvm=>?_)))
      ·replace h:=yp h zvm
       refine WC.ret (WX.ys (WX.ye (WX.ye (WX.ys (WX.ye ?_)))))
       obtain rfl:=oJ h
       refine WX.yf Tryz.results155 .nil (fun w hw=>?_)
       exact⟨zfo,y7o,zDr,hw.sub (.cons .here .nil)⟩
      ·replace h:=yq h zvm
       refine WC.skip (WX.yn (WX.a (WC.a (WL.pu rfl (WL.pu rfl (WL.nil ?_))))))
       exact WX.round ⟨zv7,(i64 (z3G+1)),zdl.2,zfo⟩ ⟨h,zDr⟩ (Nat.lt_succ_self _) (.r4 rfl rfl rfl rfl) (.cons .here .nil)
    ·replace h:=yq h zvk
     refine WC.exit (WX.yg (WX.yg (WX.yz ?_)))
     exact WX.mid ⟨z5N,z9i⟩ ⟨h,zDo⟩ .nil (.cons .here .nil)
   ·rintro zbm zi7 ⟨h,zPV⟩
    replace h:=(zPJ zbm).symm.trans h
    obtain rfl:=oJ h
    refine WX.y52 Tryz.results155 .nil (fun w hw=>?_)
    exact⟨zi7,y7o,zPV,hw.sub (.cons .here .nil)⟩
def y4f(zfp:z1C)(zbr:z2)(zlf:List (List z7))(z69:zSv):Option (z2×z1C):=
 (y36 zfp zlf zbr).bind fun zfq=>(y1i zbr z69.fL).bind fun zDu=>if decide (zDu≤0) then some (zfq.1,zfq.2) else(y13 zfq.2 (fun(y0:z2) (y1:z2)=>y2g y0 y1) zbr z69.fL).bind fun zvn=>(y13 zvn.2 (fun(y0:z2) (y1:z2)=>y3g y0 y1) z69.fRate zvn.1).bind fun zvo=>(y13 zvo.2 (fun(y0:z2) (y1:z2)=>y2g y0 y1) zfq.1 zvo.1).bind fun zvp=>some (zvp.1,zvp.2)
theorem yaX(Z:Zp)(zi9:Nat)(zDv:Addr)(zDw:Option Addr)(zDx:Nat)(zDy:Addr)(zfp:z1C)(zbr:z2)(zlf:List (List z7))(z69:zSv)(r:z2×z1C)(h:y4f zfp zbr zlf z69=some r)(w₀:World)(hz:PZ (fps [stb zi9 225 [(.int .i64 zfp.fE)]]) w₀ Z)(zPW:ZS Z 1 (y1W Z) zDw zDx zlf)(zPX:ZC Z zDv [(.slice zDw zlf.length zDx)])(zvq:ZC Z zDy [(.int .i64 z69.fRate.fN),(.int .i64 z69.fRate.fD),(.int .i64 z69.fL.fN),(.int .i64 z69.fL.fD)])(hown:Hp (fps [stb zi9 225 [(.int .i64 zfp.fE)]]) w₀ w₀ [stb zi9 225 [(.int .i64 zfp.fE)]]):
  Calls Tryz.prog 78 #[(.pointer (some ⟨zi9,0,none⟩)),(.agg #[(.int .i64 zbr.fN),(.int .i64 zbr.fD)]),(.pointer (some zDv)),(.pointer (some zDy))] w₀ fun e w'=>e = .returned (.agg #[(.int .i64 r.1.fN),(.int .i64 r.1.fD)])∧Hp (fps [stb zi9 225 [(.int .i64 zfp.fE)]]) w₀ w' [stb zi9 225 [(.int .i64 r.2.fE)]]:=by
 unfold y4f at h
 refine Calls.oh4 Tryz.func78 Tryz.ntmps78 hown ?_
 refine WC.b (WC.a (WL.nA 5 (yI (cs:=[(.int .i64 zbr.fN),(.int .i64 zbr.fD)]) rfl rfl) ?_))
 intro zZe _
 refine WL.nA 6 (yv (cs:=[(.int .i64 0),(.int .i64 0)]) zT rfl) ?_
 intro zZf _
 refine WL.nil (WX.a (WC.b ?_))
 obtain⟨zfq,zPY,h⟩:=z8 h
 refine WC.a (WL.pu rfl (WL.qA 9 (yc z7h rfl (y5I hz.pv zPX rfl)) (WL.qA 10 (yh zf rfl (yi .h1) rfl) (WL.cA 11 (zb Tryz.call76 (.r3 rfl rfl rfl)) (.cons .h2 .nil) (cc hz (.cons .h2 .nil) fun w pz ho=>y7I _ _ _ _ _ _ _ _ zPY w pz zPW ho) (WL.nA 7 (yv (cs:=[(.int .i64 0),(.int .i64 0)]) zT rfl) ?_)))))
 intro zPZ _
 refine WL.ym rfl rfl (yl zz rfl rfl rfl .here rfl rfl rfl) (WL.nil (WX.a (WC.b (WC.b ?_))))
 obtain⟨zDu,zQ0,h⟩:=z8 h
 refine WC.a (WL.qA 12 (yh zf rfl (yi .h3) rfl) (WL.qA 13 (ya y8i rfl rfl) (WL.qA 14 (yT (cs:=[(.int .i64 z69.fL.fN),(.int .i64 z69.fL.fD)]) zf rfl rfl (yae (off:=2) (s:=2) hz.pv zvq rfl)) (WL.cA 15 (zb Tryz.call79 (.r2 rfl rfl)) .nil (cc hz .nil fun w pz ho=>y4n _ _ _ _ zQ0 w pz ) (WL.pu rfl (WL.nil (WX.a (WC.cond rfl (fun zvr=>?_) (fun zvr=>?_)))))))))
 ·replace h:=yp h zvr
  refine WC.b (WC.a (WL.qA 17 (yh zf rfl (yi .here) rfl) (WL.ym rfl rfl (yl zz rfl rfl rfl .h2 rfl rfl rfl) (WL.nil (WX.a (WC.ret (WX.ye ?_)))))))
  obtain rfl:=oJ h
  refine WX.yf Tryz.results78 (.agg rfl zf rfl (yi .here) .nil) (fun w hw=>?_)
  exact⟨yD rfl,hw.sub (.cons .h2 .nil)⟩
 ·replace h:=yq h zvr
  refine WC.skip (WX.a (WC.b ?_))
  obtain⟨zvn,zQ1,h⟩:=z8 h
  obtain⟨zvo,zQ2,h⟩:=z8 h
  obtain⟨zvp,zQ3,h⟩:=z8 h
  refine WC.yP (fun i=>[9,10,11,12].contains i) [stb zPZ 132 [(.int .i64 zfq.1.fN),(.int .i64 zfq.1.fD)]] rfl (WD.pA 0 18 rfl (fun _=>q_m rfl) (WD.sA 1 19 rfl (Sin.of (.cons .here .nil)) (yh zf rfl (yi .here) rfl) (WD.pA 2 20 rfl (fun _=>q_m rfl) (WD.pA 3 21 rfl (fun _=>ya y8h rfl rfl) (WD.sA 4 22 rfl (Sin.of (.cons .here .nil)) (yT (cs:=[(.int .i64 z69.fRate.fN),(.int .i64 z69.fRate.fD)]) zf rfl rfl (yae (off:=0) (s:=2) hz.pv zvq rfl)) (WD.pA 5 23 rfl (fun _=>q_m rfl) (WD.qA 6 24 rfl (yh zf rfl (yi .h3) rfl) (WD.pA 7 25 rfl (fun _=>ya y8i rfl rfl) (WD.qA 8 26 rfl (yT (cs:=[(.int .i64 z69.fL.fN),(.int .i64 z69.fL.fD)]) zf rfl rfl (yae (off:=2) (s:=2) hz.pv zvq rfl)) (WD.call0 (i:=9) (dd:=27) rfl (by kernel_rfl) rfl rfl rfl (.inl ⟨rfl,(Sin.of (.cons .h1 .nil))⟩) (zb Tryz.call73 (.r4 rfl rfl rfl rfl)) (.cons .h1 .nil) (cc hz (.cons .h1 .nil) fun w pz ho=>Calls.mono (y2p _ _ (z6n:=74) (z7w:=[]) _ (z6V:=(fun(y0:z2) (y1:z2)=>y2g y0 y1)) _ _ _ zQ1 w pz Tryz.call74 (fun w' hz' y0 y1  r  hr=>y8G _ _ _ _ hr w' hz' ) ho) (fun _ _ h'=>⟨h'.1,trivial,h'.2⟩)) ?_))))))))))
  intro _
  refine WD.call0 (i:=10) (dd:=28) rfl (by kernel_rfl) rfl rfl rfl (.inl ⟨rfl,(Sin.of (.cons .h1 .nil))⟩) (zb Tryz.call73 (.r4 rfl rfl rfl rfl)) (.cons .here .nil) (cc hz (.cons .here .nil) fun w pz ho=>Calls.mono (y2p _ _ (z6n:=70) (z7w:=[]) _ (z6V:=(fun(y0:z2) (y1:z2)=>y3g y0 y1)) _ _ _ zQ2 w pz Tryz.call70 (fun w' hz' y0 y1  r  hr=>ybJ _ _ _ _ hr w' hz' ) ho) (fun _ _ h'=>⟨h'.1,trivial,h'.2⟩)) ?_
  intro _
  refine WD.call0 (i:=11) (dd:=29) rfl (by kernel_rfl) rfl rfl rfl (.inl ⟨rfl,(Sin.of (.cons .h1 .nil))⟩) (zb Tryz.call73 (.r4 rfl rfl rfl rfl)) (.cons .here .nil) (cc hz (.cons .here .nil) fun w pz ho=>Calls.mono (y2p _ _ (z6n:=74) (z7w:=[]) _ (z6V:=(fun(y0:z2) (y1:z2)=>y2g y0 y1)) _ _ _ zQ3 w pz Tryz.call74 (fun w' hz' y0 y1  r  hr=>y8G _ _ _ _ hr w' hz' ) ho) (fun _ _ h'=>⟨h'.1,trivial,h'.2⟩)) ?_
  intro _
  refine WD.y37 (i:=12) rfl (by kernel_rfl) rfl rfl rfl (by kernel_rfl) (yl zz rfl rfl rfl .h2 rfl rfl rfl) (WD.done (by kernel_rfl) (WX.a (WC.ret ?_)))
  obtain rfl:=oJ h
  refine WX.yf Tryz.results78 (.agg rfl zf rfl (yi .here) .nil) (fun w hw=>?_)
  exact⟨yD rfl,hw.sub (.cons .h1 .nil)⟩
def y2w(z74:List (List z7))(z6a:zSv)(zbs:z2)(z3V:List z2)(zo7:Int):Option (Bool×(Nat×List z2×Int)):=
 (y4f (⟨zo7⟩:z1C) zbs z74 z6a).bind fun z75=>(if decide (((z3V.length:Nat):Int)=0) then some true else chk ((0:Int)≤0∧0<((z3V.length:Nat):Int)) ((y1i z75.1 (⟨((nth z3V 0).fN),((nth z3V 0).fD)⟩:z2)).bind fun zDz=>some (decide (zDz>0)))).bind fun zvs=>if zvs then some (true,(0,([z75.1]:List z2),z75.2.fE)) else some (true,(0,z3V,z75.2.fE))
def y3F(z1o:List (List z7))(zr:zSv)(z74:List (List z7))(z6a:zSv)(z1p:List z2):Option (z2×Int):=
 (y3j z1o zr z74 z6a z1p).bind fun zlg=>if decide (zlg≠0) then some ((⟨0,0⟩:z2),zlg) else jp2 (fun(z9j:Int) (z6v:List z2)=>if decide (z9j≠0) then some ((⟨0,0⟩:z2),z9j) else chk ((0:Int)≤0∧0<((z6v.length:Nat):Int)) (some ((⟨((nth z6v 0).fN),((nth z6v 0).fD)⟩:z2),0))) fun zvt=>(y40 z1o zr z74 z6a z1p).bind fun zD=>(y2O (Nat×List z2×Int) (fun(x:z2) (s:Nat×List z2×Int)=>chk (s.1=0) (y2w z74 z6a x s.2.1 s.2.2)) (0,([]:List z2),0) z1o (⟨(⟨zD.1,zD.2.1⟩:z2),(⟨zD.2.2.1,zD.2.2.2⟩:z2)⟩:zSv) z74 z6a z1p).bind fun z4m=>zvt z4m.2.2 z4m.2.1
theorem ya5(Z:Zp)(z1I:Option Addr)(z1J:Nat)(z1y:Addr)(zvu:Option Addr)(zvv:Nat)(z1z:Addr)(z1K:Option Addr)(z1L:Nat)(z1o:List (List z7))(zr:zSv)(z74:List (List z7))(z6a:zSv)(z1p:List z2)(r:z2×Int)(h:y3F z1o zr z74 z6a z1p=some r)(w₀:World)(hz:PZ [] w₀ Z)(zvw:ZS Z 1 (y1W Z) z1I z1J z1o)(zo8:ZS Z 1 (y1W Z) zvu zvv z74)(zo9:ZC Z z1y [(.slice zvu z74.length zvv)])(zoa:ZC Z z1z [(.int .i64 z6a.fRate.fN),(.int .i64 z6a.fRate.fD),(.int .i64 z6a.fL.fN),(.int .i64 z6a.fL.fD)])(zvx:ZS Z 2 (fun r x=>r=yw x) z1K z1L z1p):
  Calls Tryz.prog 77 #[(.agg #[(.slice z1I z1o.length z1J),(.int .i64 zr.fRate.fN),(.int .i64 zr.fRate.fD),(.int .i64 zr.fL.fN),(.int .i64 zr.fL.fD),(.func (.func 78) #[] #[(.pointer (some z1y)),(.pointer (some z1z))]),(.slice z1K z1p.length z1L)])] w₀ fun e w'=>e = .returned (.tuple #[(.agg #[(.int .i64 r.1.fN),(.int .i64 r.1.fD)]),(.int .i64 r.2)])∧Hp [] w₀ w' []:=by
 unfold y3F at h
 refine Calls.ya1 (vs:=[(.agg #[(.slice z1I z1o.length z1J),(.int .i64 zr.fRate.fN),(.int .i64 zr.fRate.fD),(.int .i64 zr.fL.fN),(.int .i64 zr.fL.fD),(.func (.func 78) #[] #[(.pointer (some z1y)),(.pointer (some z1z))]),(.slice z1K z1p.length z1L)])]) (pre:=[]) (env:=[(0,(.agg #[(.slice z1I z1o.length z1J),(.int .i64 zr.fRate.fN),(.int .i64 zr.fRate.fD),(.int .i64 zr.fL.fN),(.int .i64 zr.fL.fD),(.func (.func 78) #[] #[(.pointer (some z1y)),(.pointer (some z1z))]),(.slice z1K z1p.length z1L)]))]) Tryz.func77 rfl Tryz.ntmps77 rfl (Hp.nil w₀ _) rfl ?_
 refine WC.b (WC.a (WL.nA 1 (yI (cs:=[(.slice z1I z1o.length z1J),(.int .i64 zr.fRate.fN),(.int .i64 zr.fRate.fD),(.int .i64 zr.fL.fN),(.int .i64 zr.fL.fD),(.func (.func 78) #[] #[(.pointer (some z1y)),(.pointer (some z1z))]),(.slice z1K z1p.length z1L)]) rfl rfl) ?_))
 intro z3H _
 refine WL.nA 2 (yv (cs:=[(.int .i64 0),(.int .i64 0)]) zT rfl) ?_
 intro z3W _
 refine WL.pu rfl (WL.nil (WX.a (WC.b (WC.b ?_))))
 obtain⟨zlg,zQ4,h⟩:=z8 h
 refine WC.a (WL.qA 9 (yh zfM rfl (yi .h1) rfl) (WL.cA 10 (zb Tryz.call109 (.cons rfl .nil)) .nil (cc hz .nil fun w pz ho=>y9u _ _ _ _ _ _ _ _ _ _ _ _ _ _ _ zQ4 w pz zvw zo8 zo9 zoa zvx) (WL.pu rfl (WL.nil (WX.a (WC.b (WC.a (WL.pu rfl (WL.pu rfl (WL.nil (WX.a (WC.cond rfl (fun zvy=>?_) (fun zvy=>?_)))))))))))))
 ·replace h:=yp h zvy
  refine WC.b (WC.a (WL.qA 13 (yL (v:=(.agg #[(.int .i64 0),(.int .i64 0)])) (Eos.parts (l:=[]) .nil []) (fun _=>by kernel_rfl)) (WL.pu rfl (WL.ym rfl rfl (yl zz rfl rfl rfl .here rfl rfl rfl) (WL.pu rfl (WL.nil (WX.a (WC.ret (WX.ye ?_)))))))))
  obtain rfl:=oJ h
  refine WX.ybx Tryz.results77 (.agg rfl zf rfl (yi .here) (.tmp rfl .nil)) (fun w hw=>?_)
  exact⟨y24 rfl rfl,hw.sub .nil⟩
 ·replace h:=yq h zvy
  refine WC.skip (WX.a (WC.b (WC.a (WL.nA 5 (yv (cs:=[(.int .i64 0)]) zlY rfl) ?_))))
  intro z37 _
  refine WL.nil (WX.a (WC.b (WC.a (WL.nA 6 (yv (cs:=[(.slice none 0 0)]) zoG rfl) ?_))))
  intro z3p _
  refine WL.nil (WX.a ?_)
  obtain⟨zvt,zQ5,h⟩:=y4s h
  refine WC.ycB (fun(zlh:Nat) (z9j:Int) (z6v:List z2) (zli:Option Addr) (zlj:Nat)=>(zvt z9j z6v=some r)) (fun(zlh:Nat) (z9j:Int) (z6v:List z2) (zli:Option Addr) (zlj:Nat)=>[(2,(.pointer (some ⟨z3W,0,none⟩))),(5,(.pointer (some ⟨z37,0,none⟩))),(6,(.pointer (some ⟨z3p,0,none⟩)))]) (fun(zlh:Nat) (z9j:Int) (z6v:List z2) (zli:Option Addr) (zlj:Nat)=>[stb z3W 132 [(.int .i64 0),(.int .i64 0)],stb z37 225 [(.int .i64 z9j)],stb z3p 175 [(.slice zli z6v.length zlj)],row (.slice zli z6v.length zlj) 132 2 (z6v.flatMap yw),dfr zlh]) ?_ ?_
  ·skip
   refine WC.b ?_
   obtain⟨zD,zQ6,h⟩:=z8 h
   refine WC.a (WL.qA 15 (yh zfM rfl (yi .h3) rfl) (WL.yel (dd:=16) rfl rfl rfl (zb Tryz.call110 (.cons rfl .nil)) .nil (cc hz .nil fun w pz ho=>y95 _ _ _ _ _ _ _ _ _ _ _ _ _ _ _ zQ6 w pz zvw zo8 zo9 zoa zvx) ?_))
   rintro z4F _
   refine WL.nil (WX.a (WC.block (WC.drop (.s5 .h1 .h1 .h1 .h1 .here) (WC.nilRow 132 2 (WC.rangeFunc (f:=155) (caps:=[(.pointer (some ⟨z4F,0,none⟩))]) rfl Tryz.call155 ?_)))))
   intro zZg zZh z4n z6w z5l zob zQ7 zQ8 w hw
   have hw1:=hw.selAll ((.s6 .h3 .h2 .h2 .h2 .h2 .here):Sel _ [stb z3p 175 [(.slice none (([]:List z2).length) 0)],row (.slice none (([]:List z2).length) 0) 132 2 (([]:List z2).flatMap yw),stb z37 225 [(.int .i64 0)],stb z3W 132 [(.int .i64 0),(.int .i64 0)],stb z3H 177 [(.slice z1I z1o.length z1J),(.int .i64 zr.fRate.fN),(.int .i64 zr.fRate.fD),(.int .i64 zr.fL.fN),(.int .i64 zr.fL.fD),(.func (.func 78) #[] #[(.pointer (some z1y)),(.pointer (some z1z))]),(.slice z1K z1p.length z1L)],blk z4n (z5l .ready none)] _)
   have pz:=(hz.call hw1 ((.cons .here .nil):Sel [y2h [stb z3p 175 [(.slice none (([]:List z2).length) 0)],row (.slice none (([]:List z2).length) 0) 132 2 (([]:List z2).flatMap yw),stb z37 225 [(.int .i64 0)],stb z3W 132 [(.int .i64 0),(.int .i64 0)],stb z3H 177 [(.slice z1I z1o.length z1J),(.int .i64 zr.fRate.fN),(.int .i64 zr.fRate.fD),(.int .i64 zr.fL.fN),(.int .i64 zr.fL.fD),(.func (.func 78) #[] #[(.pointer (some z1y)),(.pointer (some z1z))]),(.slice z1K z1p.length z1L)],blk z4n (z5l .ready none)],dfr z6w,stb z4F 177 [(.slice z1I z1o.length z1J),(.int .i64 zD.1),(.int .i64 zD.2.1),(.int .i64 zD.2.2.1),(.int .i64 zD.2.2.2),(.func (.func 78) #[] #[(.pointer (some z1y)),(.pointer (some z1z))]),(.slice z1K z1p.length z1L)]] [y2h [stb z3p 175 [(.slice none (([]:List z2).length) 0)],row (.slice none (([]:List z2).length) 0) 132 2 (([]:List z2).flatMap yw),stb z37 225 [(.int .i64 0)],stb z3W 132 [(.int .i64 0),(.int .i64 0)],stb z3H 177 [(.slice z1I z1o.length z1J),(.int .i64 zr.fRate.fN),(.int .i64 zr.fRate.fD),(.int .i64 zr.fL.fN),(.int .i64 zr.fL.fD),(.func (.func 78) #[] #[(.pointer (some z1y)),(.pointer (some z1z))]),(.slice z1K z1p.length z1L)],blk z4n (z5l .ready none)]] [dfr z6w,stb z4F 177 [(.slice z1I z1o.length z1J),(.int .i64 zD.1),(.int .i64 zD.2.1),(.int .i64 zD.2.2.1),(.int .i64 zD.2.2.2),(.func (.func 78) #[] #[(.pointer (some z1y)),(.pointer (some z1z))]),(.slice z1K z1p.length z1L)]])).lend hw1 ((.cons .here .nil):Sel [y2h [stb z3p 175 [(.slice none (([]:List z2).length) 0)],row (.slice none (([]:List z2).length) 0) 132 2 (([]:List z2).flatMap yw),stb z37 225 [(.int .i64 0)],stb z3W 132 [(.int .i64 0),(.int .i64 0)],stb z3H 177 [(.slice z1I z1o.length z1J),(.int .i64 zr.fRate.fN),(.int .i64 zr.fRate.fD),(.int .i64 zr.fL.fN),(.int .i64 zr.fL.fD),(.func (.func 78) #[] #[(.pointer (some z1y)),(.pointer (some z1z))]),(.slice z1K z1p.length z1L)],blk z4n (z5l .ready none)],dfr z6w,stb z4F 177 [(.slice z1I z1o.length z1J),(.int .i64 zD.1),(.int .i64 zD.2.1),(.int .i64 zD.2.2.1),(.int .i64 zD.2.2.2),(.func (.func 78) #[] #[(.pointer (some z1y)),(.pointer (some z1z))]),(.slice z1K z1p.length z1L)]] [y2h [stb z3p 175 [(.slice none (([]:List z2).length) 0)],row (.slice none (([]:List z2).length) 0) 132 2 (([]:List z2).flatMap yw),stb z37 225 [(.int .i64 0)],stb z3W 132 [(.int .i64 0),(.int .i64 0)],stb z3H 177 [(.slice z1I z1o.length z1J),(.int .i64 zr.fRate.fN),(.int .i64 zr.fRate.fD),(.int .i64 zr.fL.fN),(.int .i64 zr.fL.fD),(.func (.func 78) #[] #[(.pointer (some z1y)),(.pointer (some z1z))]),(.slice z1K z1p.length z1L)],blk z4n (z5l .ready none)]] [dfr z6w,stb z4F 177 [(.slice z1I z1o.length z1J),(.int .i64 zD.1),(.int .i64 zD.2.1),(.int .i64 zD.2.2.1),(.int .i64 zD.2.2.2),(.func (.func 78) #[] #[(.pointer (some z1y)),(.pointer (some z1z))]),(.slice z1K z1p.length z1L)]]) (B:=[stb z4F 177 [(.slice z1I z1o.length z1J),(.int .i64 zD.1),(.int .i64 zD.2.1),(.int .i64 zD.2.2.1),(.int .i64 zD.2.2.2),(.func (.func 78) #[] #[(.pointer (some z1y)),(.pointer (some z1z))]),(.slice z1K z1p.length z1L)]]) (fun _ hx'=>((.cons .h1 .nil):Sel _ [stb z4F 177 [(.slice z1I z1o.length z1J),(.int .i64 zD.1),(.int .i64 zD.2.1),(.int .i64 zD.2.2.1),(.int .i64 zD.2.2.2),(.func (.func 78) #[] #[(.pointer (some z1y)),(.pointer (some z1z))]),(.slice z1K z1p.length z1L)]] _).mem hx')
   obtain⟨z4m,zQ9,h⟩:=z8 h
   refine Calls.mono (y8I (Z:=_) (z8A:=z4n) (z4l:=(Option Addr×Nat)) (z2A:=(fun(g:Option Addr×Nat) (s:Nat×List z2×Int)=>y2h ([stb z3p 175 [(.slice g.1 s.2.1.length g.2)],row (.slice g.1 s.2.1.length g.2) 132 2 (s.2.1.flatMap yw),stb z37 225 [(.int .i64 s.2.2)],stb z3W 132 [(.int .i64 0),(.int .i64 0)],stb z3H 177 [(.slice z1I z1o.length z1J),(.int .i64 zr.fRate.fN),(.int .i64 zr.fRate.fD),(.int .i64 zr.fL.fN),(.int .i64 zr.fL.fD),(.func (.func 78) #[] #[(.pointer (some z1y)),(.pointer (some z1z))]),(.slice z1K z1p.length z1L)]]++[blk z4n (z5l (rdy (pcs [] s.1)) (pcs [] s.1))]))) (z73:=(fun(g:Option Addr×Nat) (s:Nat×List z2×Int)=>True)) (zbn:=(none,0)) (zbo:=⟨z4F,0,none⟩) (zdm:=z1I) (zdn:=z1J) (zvb:=z1y) (zvc:=zvu) (zvd:=zvv) (zve:=z1z) (zlb:=z1K) (zlc:=z1L) (zy:=(Nat×List z2×Int)) (z2r:=(fun(x:z2) (s:Nat×List z2×Int)=>chk (s.1=0) (y2w z74 z6a x s.2.1 s.2.2))) (s0_56417:=(0,([]:List z2),0)) (z2T:=z1o) (zfk:=(⟨(⟨zD.1,zD.2.1⟩:z2),(⟨zD.2.2.1,zD.2.2.2⟩:z2)⟩:zSv)) (zla:=z74) (zfl:=z6a) (z36:=z1p) (r:=z4m) w pz ?_ trivial ((zvw.mono (Zle.left _ _)).weak (fun _ _ h=>y3d (Zle.left _ _) h)) ((zo8.mono (Zle.left _ _)).weak (fun _ _ h=>y3d (Zle.left _ _) h)) (zo9.mono (Zle.left _ _)) (zoa.mono (Zle.left _ _)) (zvx.mono (Zle.left _ _)) ((hw1.lent ((.cons .here .nil):Sel [y2h [stb z3p 175 [(.slice none (([]:List z2).length) 0)],row (.slice none (([]:List z2).length) 0) 132 2 (([]:List z2).flatMap yw),stb z37 225 [(.int .i64 0)],stb z3W 132 [(.int .i64 0),(.int .i64 0)],stb z3H 177 [(.slice z1I z1o.length z1J),(.int .i64 zr.fRate.fN),(.int .i64 zr.fRate.fD),(.int .i64 zr.fL.fN),(.int .i64 zr.fL.fD),(.func (.func 78) #[] #[(.pointer (some z1y)),(.pointer (some z1z))]),(.slice z1K z1p.length z1L)],blk z4n (z5l .ready none)],dfr z6w,stb z4F 177 [(.slice z1I z1o.length z1J),(.int .i64 zD.1),(.int .i64 zD.2.1),(.int .i64 zD.2.2.1),(.int .i64 zD.2.2.2),(.func (.func 78) #[] #[(.pointer (some z1y)),(.pointer (some z1z))]),(.slice z1K z1p.length z1L)]] [y2h [stb z3p 175 [(.slice none (([]:List z2).length) 0)],row (.slice none (([]:List z2).length) 0) 132 2 (([]:List z2).flatMap yw),stb z37 225 [(.int .i64 0)],stb z3W 132 [(.int .i64 0),(.int .i64 0)],stb z3H 177 [(.slice z1I z1o.length z1J),(.int .i64 zr.fRate.fN),(.int .i64 zr.fRate.fD),(.int .i64 zr.fL.fN),(.int .i64 zr.fL.fD),(.func (.func 78) #[] #[(.pointer (some z1y)),(.pointer (some z1z))]),(.slice z1K z1p.length z1L)],blk z4n (z5l .ready none)]] [dfr z6w,stb z4F 177 [(.slice z1I z1o.length z1J),(.int .i64 zD.1),(.int .i64 zD.2.1),(.int .i64 zD.2.2.1),(.int .i64 zD.2.2.2),(.func (.func 78) #[] #[(.pointer (some z1y)),(.pointer (some z1z))]),(.slice z1K z1p.length z1L)]]) (B:=[stb z4F 177 [(.slice z1I z1o.length z1J),(.int .i64 zD.1),(.int .i64 zD.2.1),(.int .i64 zD.2.2.1),(.int .i64 zD.2.2.2),(.func (.func 78) #[] #[(.pointer (some z1y)),(.pointer (some z1z))]),(.slice z1K z1p.length z1L)]]) (fun _ hx'=>((.cons .h1 .nil):Sel _ [stb z4F 177 [(.slice z1I z1o.length z1J),(.int .i64 zD.1),(.int .i64 zD.2.1),(.int .i64 zD.2.2.1),(.int .i64 zD.2.2.2),(.func (.func 78) #[] #[(.pointer (some z1y)),(.pointer (some z1z))]),(.slice z1K z1p.length z1L)]] _).mem hx') (.head _) _).stb) zQ9 (hw1.owns ((.cons .here .nil):Sel [y2h [stb z3p 175 [(.slice none (([]:List z2).length) 0)],row (.slice none (([]:List z2).length) 0) 132 2 (([]:List z2).flatMap yw),stb z37 225 [(.int .i64 0)],stb z3W 132 [(.int .i64 0),(.int .i64 0)],stb z3H 177 [(.slice z1I z1o.length z1J),(.int .i64 zr.fRate.fN),(.int .i64 zr.fRate.fD),(.int .i64 zr.fL.fN),(.int .i64 zr.fL.fD),(.func (.func 78) #[] #[(.pointer (some z1y)),(.pointer (some z1z))]),(.slice z1K z1p.length z1L)],blk z4n (z5l .ready none)],dfr z6w,stb z4F 177 [(.slice z1I z1o.length z1J),(.int .i64 zD.1),(.int .i64 zD.2.1),(.int .i64 zD.2.2.1),(.int .i64 zD.2.2.2),(.func (.func 78) #[] #[(.pointer (some z1y)),(.pointer (some z1z))]),(.slice z1K z1p.length z1L)]] [y2h [stb z3p 175 [(.slice none (([]:List z2).length) 0)],row (.slice none (([]:List z2).length) 0) 132 2 (([]:List z2).flatMap yw),stb z37 225 [(.int .i64 0)],stb z3W 132 [(.int .i64 0),(.int .i64 0)],stb z3H 177 [(.slice z1I z1o.length z1J),(.int .i64 zr.fRate.fN),(.int .i64 zr.fRate.fD),(.int .i64 zr.fL.fN),(.int .i64 zr.fL.fD),(.func (.func 78) #[] #[(.pointer (some z1y)),(.pointer (some z1z))]),(.slice z1K z1p.length z1L)],blk z4n (z5l .ready none)]] [dfr z6w,stb z4F 177 [(.slice z1I z1o.length z1J),(.int .i64 zD.1),(.int .i64 zD.2.1),(.int .i64 zD.2.2.1),(.int .i64 zD.2.2.2),(.func (.func 78) #[] #[(.pointer (some z1y)),(.pointer (some z1z))]),(.slice z1K z1p.length z1L)]]))) ?_
   ·skip
    refine ybw (LI:=(fun(g:Option Addr×Nat) (s:Nat×List z2×Int)=>[stb z3p 175 [(.slice g.1 s.2.1.length g.2)],row (.slice g.1 s.2.1.length g.2) 132 2 (s.2.1.flatMap yw),stb z37 225 [(.int .i64 s.2.2)],stb z3W 132 [(.int .i64 0),(.int .i64 0)],stb z3H 177 [(.slice z1I z1o.length z1J),(.int .i64 zr.fRate.fN),(.int .i64 zr.fRate.fD),(.int .i64 zr.fL.fN),(.int .i64 zr.fL.fD),(.func (.func 78) #[] #[(.pointer (some z1y)),(.pointer (some z1z))]),(.slice z1K z1p.length z1L)]])) (pc:=(fun(s:Nat×List z2×Int)=>pcs [] s.1)) zob zQ7 zQ8 (fun _ _=>rfl) (by decide) ?_
    rintro zbs _ ⟨zia,zib⟩ ⟨zQa,z3V,zo7⟩ zQb zQc Fb wb zDA _ hz
    replace hz:=hz.left
    letI:Rnd:=inR z4n
    obtain⟨hp0,z78⟩:=yo zDA
    replace hp0:zQa=0:=hp0;subst hp0;clear zDA
    replace z78:y2w z74 z6a zbs z3V zo7=some (zQb,zQc):=z78
    unfold y2w at z78
    refine WC.restr (env':=[(1,(.pointer (some ⟨z3H,0,none⟩))),(12,(.bool (decide (zlg≠0)))),(5,(.pointer (some ⟨z37,0,none⟩))),(6,(.pointer (some ⟨z3p,0,none⟩))),(17,(.agg #[(.int .i64 zbs.fN),(.int .i64 zbs.fD)]))]) (.r5 rfl rfl rfl rfl rfl) (WC.eqL (L':=[stb z3p 175 [(.slice zia z3V.length zib)],row (.slice zia z3V.length zib) 132 2 (z3V.flatMap yw),stb z37 225 [(.int .i64 zo7)],stb z3W 132 [(.int .i64 0),(.int .i64 0)],stb z3H 177 [(.slice z1I z1o.length z1J),(.int .i64 zr.fRate.fN),(.int .i64 zr.fRate.fD),(.int .i64 zr.fL.fN),(.int .i64 zr.fL.fD),(.func (.func 78) #[] #[(.pointer (some z1y)),(.pointer (some z1z))]),(.slice z1K z1p.length z1L)],blk z4n (z5l .ready none)]) rfl (WC.a (WL.nA 7 (yv (cs:=[(.int .i64 0),(.int .i64 0)]) zT rfl) ?_)))
    intro zQd _
    refine WL.ym rfl rfl (yl zz rfl rfl rfl .here rfl rfl rfl) (WL.nil (WX.ycN zob .h6 (WC.block (WC.b ?_))))
    obtain⟨z75,zQe,z78⟩:=z8 z78
    refine WC.a (WL.qA 18 (ya yaT rfl rfl) (WL.qA 19 (yc zxp rfl (yk .h6 rfl)) (WL.qA 20 (yh zf rfl (yi .h1) rfl) (WL.cA 21 (y2y (l:=[.tmp 5,.tmp 20]) Tryz.call78 rfl (.r2 rfl rfl)) (.cons .h4 .nil) (cc hz (.cons .h4 .nil) fun w pz ho=>yaX _ _ _ _ _ _ _ _ _ _ _ zQe w pz zo8 zo9 zoa ho) (WL.nA 8 (yv (cs:=[(.int .i64 0),(.int .i64 0)]) zT rfl) ?_)))))
    intro zQf _
    refine WL.ym rfl rfl (yl zz rfl rfl rfl .here rfl rfl rfl) (WL.nil (WX.a (WC.b ?_)))
    obtain⟨zvs,zDB,z78⟩:=z8 z78
    refine WC.yP (fun i=>[].contains i) [] rfl (WD.qA 0 22 rfl (yc z83 rfl (yk .h4 rfl)) (WD.pA 1 23 rfl (fun _=>yH Tryz.underlying175 rfl) (WD.pA 2 24 rfl (fun _=>yaI rfl rfl) (WD.pA 3 25 rfl (fun _=>q_m rfl) (WD.mid (fuel':=0) [(1,(.pointer (some ⟨z3H,0,none⟩))),(12,(.bool (decide (zlg≠0)))),(5,(.pointer (some ⟨z37,0,none⟩))),(6,(.pointer (some ⟨z3p,0,none⟩))),(17,(.agg #[(.int .i64 zbs.fN),(.int .i64 zbs.fD)])),(7,(.pointer (some ⟨zQd,0,none⟩))),(18,(.pointer (some ⟨z3H,5,none⟩))),(19,(.func (.func 78) #[] #[(.pointer (some z1y)),(.pointer (some z1z))])),(20,(.agg #[(.int .i64 zbs.fN),(.int .i64 zbs.fD)])),(21,(.agg #[(.int .i64 z75.1.fN),(.int .i64 z75.1.fD)])),(8,(.pointer (some ⟨zQf,0,none⟩))),(22,(.slice zia z3V.length zib)),(23,(.int .i64 ((z3V.length:Nat):Int))),(24,(.bool (decide (((z3V.length:Nat):Int)=0)))),(25,(.bool (decide (((z3V.length:Nat):Int)=0)))),(32,(.bool zvs))] (y34 11 [10,9,8,7,6,5,4,3,2,1,0]) ?_ (fun zDC=>?_))))))
    rotate_left
    ·rcases Bool.eq_false_or_eq_true (decide (((z3V.length:Nat):Int)=0)) with hb' | hb'
     ·have zvz:=hb';clear hb'
      have zvA:=yp zDB zvz
      replace zvA:=oJ zvA
      refine WD.pin (i:=25) rfl zvz (WD.kA 4 26 rfl (WD.kA 5 27 rfl (WD.kA 6 28 rfl (WD.kA 7 29 rfl (WD.kA 8 30 rfl (WD.kA 9 31 rfl (WD.pA 10 32 rfl (fun _=>y3M rfl rfl) (WD.reL (.s8 .here .here .here .here .here .here .here .here) ?_ zDC))))))))
      exact(.cons rfl (.cons rfl (.cons rfl (.cons rfl (.cons rfl (.cons rfl (.cons rfl (.cons rfl (.cons rfl (.cons rfl (.cons rfl (.cons rfl (.cons rfl (.cons rfl (.cons (zN (Eq.symm zvz)) (.cons (zN zvA) .nil))))))))))))))))
     ·have zvB:=hb';clear hb'
      have zfr:=yq zDB zvB
      obtain⟨zlk,zfr⟩:=yo zfr
      obtain⟨zDz,zQg,zfr⟩:=z8 zfr
      replace zfr:=oJ zfr
      refine WD.pin (i:=25) rfl zvB (WD.qA 4 26 rfl (yh zf rfl (yi .here) rfl) (WD.qA 5 27 rfl (yc z83 rfl (yk .h4 rfl)) (WD.know (fun w hw=>Hp.y2M .h5 hw (by intro hz';have:=zlk;rw[hz'] at this;omega)) ?_)))
      rintro⟨zZi,rfl⟩
      refine WD.pA 6 28 rfl (fun _=>yX z2g rfl rfl zlk.1 zlk.2 y32) (WD.qA 7 29 rfl (yT (cs:=(yw (nth z3V 0))) zf rfl rfl (y3P .h5 (y3D (enc:=yw) (l:=z3V) (i:=0) (sz:=2) (fun _=>rfl) zlk.1 zlk.2))) (WD.eA 8 30 rfl (zb Tryz.call79 (.r2 rfl rfl)) (cc hz .nil fun w pz ho=>y4n _ _ _ _ zQg w pz ) (WD.pA 9 31 rfl (fun _=>yd6 rfl rfl) (WD.pA 10 32 rfl (fun _=>y3N rfl rfl) (WD.reL (.s8 .here .here .here .here .here .here .here .here) ?_ zDC)))))
      exact(.cons rfl (.cons rfl (.cons rfl (.cons rfl (.cons rfl (.cons rfl (.cons rfl (.cons rfl (.cons rfl (.cons rfl (.cons rfl (.cons rfl (.cons rfl (.cons rfl (.cons (zN (Eq.symm zvB)) (.cons (zN zfr) .nil))))))))))))))))
    refine WD.done (by kernel_rfl) (WX.a (WC.cond rfl (fun zvC=>?_) (fun zvC=>?_)))
    ·replace z78:=yp z78 zvC
     refine WC.a (WL.qA 33 (yh zf rfl (yi .here) rfl) (WL.nA 34 (yR (cs:=([z75.1]:List z2).flatMap yw) z2g (Eos.parts (l:=[.tmp 33]) (.cons rfl .nil) [0]) (fun _=>by kernel_rfl) rfl (by unfold maxLen;omega)) ?_))
     intro zvD _
     refine WL.ym rfl rfl (yl zoH rfl rfl rfl .h5 rfl rfl rfl) (WL.nil (WX.yn ?_))
     obtain⟨rfl,rfl⟩:=yaf z78
     exact WX.y6W zob .h4 (fun w' hw'=>⟨((some ⟨zvD,0,none⟩),1),rfl,trivial,(hw'.selAll ((.s6 .h1 .h1 .h2 .h4 .h4 .here):Sel _ [stb z3p 175 [(.slice (some ⟨zvD,0,none⟩) (([z75.1]:List z2).length) 1)],row (.slice (some ⟨zvD,0,none⟩) (([z75.1]:List z2).length) 1) 132 2 (([z75.1]:List z2).flatMap yw),stb z37 225 [(.int .i64 z75.2.fE)],stb z3W 132 [(.int .i64 0),(.int .i64 0)],stb z3H 177 [(.slice z1I z1o.length z1J),(.int .i64 zr.fRate.fN),(.int .i64 zr.fRate.fD),(.int .i64 zr.fL.fN),(.int .i64 zr.fL.fD),(.func (.func 78) #[] #[(.pointer (some z1y)),(.pointer (some z1z))]),(.slice z1K z1p.length z1L)],blk z4n (z5l .ready none)] _)).sub (.cons .here .nil)⟩)
    ·replace z78:=yq z78 zvC
     refine WC.skip (WX.yn ?_)
     obtain⟨rfl,rfl⟩:=yaf z78
     exact WX.y6W zob .h2 (fun w' hw'=>⟨(zia,zib),rfl,trivial,(hw'.selAll ((.s6 .h4 .h4 .h2 .h3 .h3 .here):Sel _ [stb z3p 175 [(.slice zia z3V.length zib)],row (.slice zia z3V.length zib) 132 2 (z3V.flatMap yw),stb z37 225 [(.int .i64 z75.2.fE)],stb z3W 132 [(.int .i64 0),(.int .i64 0)],stb z3H 177 [(.slice z1I z1o.length z1J),(.int .i64 zr.fRate.fN),(.int .i64 zr.fRate.fD),(.int .i64 zr.fL.fN),(.int .i64 zr.fL.fD),(.func (.func 78) #[] #[(.pointer (some z1y)),(.pointer (some z1z))]),(.slice z1K z1p.length z1L)],blk z4n (z5l .ready none)] _)).sub (.cons .here .nil)⟩)
   ·skip
    rintro _ w' ⟨⟨zll,zlm⟩,rfl,_,hp⟩
    have hp1:=hw1.call ((.cons .here .nil):Sel [y2h [stb z3p 175 [(.slice none (([]:List z2).length) 0)],row (.slice none (([]:List z2).length) 0) 132 2 (([]:List z2).flatMap yw),stb z37 225 [(.int .i64 0)],stb z3W 132 [(.int .i64 0),(.int .i64 0)],stb z3H 177 [(.slice z1I z1o.length z1J),(.int .i64 zr.fRate.fN),(.int .i64 zr.fRate.fD),(.int .i64 zr.fL.fN),(.int .i64 zr.fL.fD),(.func (.func 78) #[] #[(.pointer (some z1y)),(.pointer (some z1z))]),(.slice z1K z1p.length z1L)],blk z4n (z5l .ready none)],dfr z6w,stb z4F 177 [(.slice z1I z1o.length z1J),(.int .i64 zD.1),(.int .i64 zD.2.1),(.int .i64 zD.2.2.1),(.int .i64 zD.2.2.2),(.func (.func 78) #[] #[(.pointer (some z1y)),(.pointer (some z1z))]),(.slice z1K z1p.length z1L)]] [y2h [stb z3p 175 [(.slice none (([]:List z2).length) 0)],row (.slice none (([]:List z2).length) 0) 132 2 (([]:List z2).flatMap yw),stb z37 225 [(.int .i64 0)],stb z3W 132 [(.int .i64 0),(.int .i64 0)],stb z3H 177 [(.slice z1I z1o.length z1J),(.int .i64 zr.fRate.fN),(.int .i64 zr.fRate.fD),(.int .i64 zr.fL.fN),(.int .i64 zr.fL.fD),(.func (.func 78) #[] #[(.pointer (some z1y)),(.pointer (some z1z))]),(.slice z1K z1p.length z1L)],blk z4n (z5l .ready none)]] [dfr z6w,stb z4F 177 [(.slice z1I z1o.length z1J),(.int .i64 zD.1),(.int .i64 zD.2.1),(.int .i64 zD.2.2.1),(.int .i64 zD.2.2.2),(.func (.func 78) #[] #[(.pointer (some z1y)),(.pointer (some z1z))]),(.slice z1K z1p.length z1L)]]) hp
    have hp2:Hp _ _ w' [stb z3p 175 [(.slice zll z4m.2.1.length zlm)],row (.slice zll z4m.2.1.length zlm) 132 2 (z4m.2.1.flatMap yw),stb z37 225 [(.int .i64 z4m.2.2)],stb z3W 132 [(.int .i64 0),(.int .i64 0)],stb z3H 177 [(.slice z1I z1o.length z1J),(.int .i64 zr.fRate.fN),(.int .i64 zr.fRate.fD),(.int .i64 zr.fL.fN),(.int .i64 zr.fL.fD),(.func (.func 78) #[] #[(.pointer (some z1y)),(.pointer (some z1z))]),(.slice z1K z1p.length z1L)],blk z4n (z5l (rdy (pcs [] z4m.1)) (pcs [] z4m.1)),dfr z6w,stb z4F 177 [(.slice z1I z1o.length z1J),(.int .i64 zD.1),(.int .i64 zD.2.1),(.int .i64 zD.2.2.1),(.int .i64 zD.2.2.2),(.func (.func 78) #[] #[(.pointer (some z1y)),(.pointer (some z1z))]),(.slice z1K z1p.length z1L)]]:=hp1.pickAll .here
    refine⟨_,pcs [] z4m.1,_,rfl,(hp2.sub ((.s8 .h5 .here .here .here .here .here .here .here):Sel _ [blk z4n (z5l (rdy (pcs [] z4m.1)) (pcs [] z4m.1)),stb z3p 175 [(.slice zll z4m.2.1.length zlm)],row (.slice zll z4m.2.1.length zlm) 132 2 (z4m.2.1.flatMap yw),stb z37 225 [(.int .i64 z4m.2.2)],stb z3W 132 [(.int .i64 0),(.int .i64 0)],stb z3H 177 [(.slice z1I z1o.length z1J),(.int .i64 zr.fRate.fN),(.int .i64 zr.fRate.fD),(.int .i64 zr.fL.fN),(.int .i64 zr.fL.fD),(.func (.func 78) #[] #[(.pointer (some z1y)),(.pointer (some z1z))]),(.slice z1K z1p.length z1L)],dfr z6w,stb z4F 177 [(.slice z1I z1o.length z1J),(.int .i64 zD.1),(.int .i64 zD.2.1),(.int .i64 zD.2.2.1),(.int .i64 zD.2.2.2),(.func (.func 78) #[] #[(.pointer (some z1y)),(.pointer (some z1z))]),(.slice z1K z1p.length z1L)]] _)),?_⟩
    clear hp hp1 hp2 pz hw hw1
    refine wjN ?_
    letI:Rnd:=aft z6w
    refine WX.yn ?_
    exact WX.midR (D:=fun(g:Nat×Int×List z2×Option Addr×Nat)=>g.1) (G:=Nat×Int×List z2×Option Addr×Nat) ⟨z6w,z4m.2.2,z4m.2.1,zll,zlm⟩ h (.r3 rfl rfl rfl) (.s5 .h3 .h2 .here .here .h1)
  ·rintro zlh z9j z6v zli zlj h
   replace h:=(zQ5 z9j z6v).symm.trans h
   letI:Rnd:=aft zlh
   refine WC.b (WC.b (WC.a (WL.qA 35 (ya y4P rfl rfl) (WL.qA 36 (yc y35 rfl (yk .h1 rfl)) (WL.pu rfl (WL.nil (WX.a (WC.cond rfl (fun zvE=>?_) (fun zvE=>?_)))))))))
   ·replace h:=yp h zvE
    refine WC.b (WC.yP (fun i=>[3].contains i) [y7q z37 225 [(0,(.int .i64 z9j))]] rfl (WD.pA 0 38 rfl (fun _=>yL (v:=(.agg #[(.int .i64 0),(.int .i64 0)])) (Eos.parts (l:=[]) .nil []) (fun _=>by kernel_rfl)) (WD.pA 1 39 rfl (fun _=>ya y4P rfl rfl) (WD.sA 2 40 rfl (Sin.wk (.cons .h1 .nil) (.stb (.cons rfl .nil) .nil)) (yc y35 rfl (y5S .here (.head _))) (WD.forced0 (i:=3) rfl (by kernel_rfl) rfl rfl rfl (Sin.wk (.cons .h1 .nil) (.stb (.cons rfl .nil) .nil)) (yl zz rfl rfl rfl .here rfl rfl rfl) (WD.pA 4 3 rfl (fun _=>q_z rfl) (WD.done (by kernel_rfl) (WX.a (WC.ret (WX.ye ?_))))))))))
    obtain rfl:=oJ h
    refine WX.y7C .h4 Tryz.results77 (.agg rfl zf rfl (yi .h1) (.tmp rfl .nil)) (fun w hw=>?_)
    exact⟨y24 rfl rfl,hw.sub .nil⟩
   ·replace h:=yq h zvE
    refine WC.skip (WX.a (WC.b ?_))
    obtain⟨zln,h⟩:=yo h
    refine WC.a (WL.qA 41 (yc z83 rfl (yk .h2 rfl)) (WL.know (fun w hw=>Hp.y2M .h3 hw (by intro hz';have:=zln;rw[hz'] at this;omega)) ?_))
    rintro⟨zZj,rfl⟩
    refine WL.qA 42 (yX z2g rfl rfl zln.1 zln.2 y32) (WL.qA 43 (yT (cs:=(yw (nth z6v 0))) zf rfl rfl (y3P .h3 (y3D (enc:=yw) (l:=z6v) (i:=0) (sz:=2) (fun _=>rfl) zln.1 zln.2))) (WL.ym rfl rfl (yl zz rfl rfl rfl .here rfl rfl rfl) (WL.pu rfl (WL.nil (WX.a (WC.ret ?_))))))
    obtain rfl:=oJ h
    refine WX.y7C .h4 Tryz.results77 (.agg rfl zf rfl (yi .h1) (.tmp rfl .nil)) (fun w hw=>?_)
    exact⟨y24 rfl rfl,hw.sub .nil⟩
def y4G(zbt:List (List z7))(z2B:zSv):Option (z2×Int):=
 (y3F zbt z2B zbt z2B ([z2B.fL]:List z2)).bind fun zvF=>some (zvF.1,zvF.2)
theorem ybO(Z:Zp)(zlo:Option Addr)(zlp:Nat)(zbt:List (List z7))(z2B:zSv)(r:z2×Int)(h:y4G zbt z2B=some r)(w₀:World)(hz:PZ [] w₀ Z)(zDD:ZS Z 1 (y1W Z) zlo zlp zbt):
  Calls Tryz.prog 45 #[(.slice zlo zbt.length zlp),(.agg #[(.int .i64 z2B.fRate.fN),(.int .i64 z2B.fRate.fD),(.int .i64 z2B.fL.fN),(.int .i64 z2B.fL.fD)])] w₀ fun e w'=>e = .returned (.tuple #[(.agg #[(.int .i64 r.1.fN),(.int .i64 r.1.fD)]),(.int .i64 r.2)])∧Hp [] w₀ w' []:=by
 unfold y4G at h
 refine Calls.yK Tryz.func45 Tryz.ntmps45 ?_
 refine WC.b (WC.a (WL.nA 2 (yI (cs:=[(.slice zlo zbt.length zlp)]) rfl rfl) ?_))
 intro zQh _
 refine WL.nA 3 (yI (cs:=[(.int .i64 z2B.fRate.fN),(.int .i64 z2B.fRate.fD),(.int .i64 z2B.fL.fN),(.int .i64 z2B.fL.fD)]) rfl rfl) ?_
 intro zQi _
 refine WL.nA 4 (yv (cs:=[(.int .i64 0),(.int .i64 0)]) zT rfl) ?_
 intro zZk _
 refine WL.pu rfl (WL.nil (WX.a (WC.b (WC.a (WL.qA 7 (yc z7h rfl (yk .h2 rfl)) (WL.qA 8 (yh zfL rfl (yi .h1) rfl) (WL.qA 9 (ya y8i rfl rfl) (WL.qA 10 (yT (cs:=[(.int .i64 z2B.fL.fN),(.int .i64 z2B.fL.fD)]) zf rfl rfl (y31 (s:=2) .h1 rfl)) (WL.nA 11 (yR (cs:=([z2B.fL]:List z2).flatMap yw) z2g (Eos.parts (l:=[.tmp 10]) (.cons rfl .nil) [0]) (fun _=>by kernel_rfl) rfl (by unfold maxLen;omega)) ?_)))))))))
 intro zDE _
 refine WL.qA 12 (yL (v:=(.agg #[(.slice zlo zbt.length zlp),(.int .i64 z2B.fRate.fN),(.int .i64 z2B.fRate.fD),(.int .i64 z2B.fL.fN),(.int .i64 z2B.fL.fD),.nilFunc,(.slice (some ⟨zDE,0,none⟩) (([z2B.fL]:List z2).length) 1)])) (Eos.parts (l:=[.tmp 7,.tmp 8,.tmp 11]) (.r3 rfl rfl rfl) [0,1,3]) (fun _=>by kernel_rfl)) (WL.nA 6 (yv (cs:=[(.slice none 0 0),(.int .i64 0),(.int .i64 0),(.int .i64 0),(.int .i64 0),.nilFunc,(.slice none 0 0)]) zxj rfl) ?_)
 intro zZl _
 refine WL.ym rfl rfl (yl zxk rfl rfl rfl .here rfl rfl rfl) (WL.nil (WX.a (WC.b (WC.a (WL.qA 13 (y19 (Eos.caps (l:=[.tmp 2,.tmp 3]) (.r2 rfl rfl))) (WL.qA 14 (ya yaT rfl rfl) (WL.ym rfl rfl (y5b (ds:=[(.slice zlo zbt.length zlp),(.int .i64 z2B.fRate.fN),(.int .i64 z2B.fRate.fD),(.int .i64 z2B.fL.fN),(.int .i64 z2B.fL.fD),(.func (.func 78) #[] #[(.pointer (some ⟨zQh,0,none⟩)),(.pointer (some ⟨zQi,0,none⟩))]),(.slice (some ⟨zDE,0,none⟩) (([z2B.fL]:List z2).length) 1)]) zxl rfl rfl rfl rfl rfl .here rfl rfl) (WL.nil (WX.a (WC.b ?_))))))))))
 obtain⟨zvF,zQj,h⟩:=z8 h
 refine WC.a (WL.qA 15 (yh zfM rfl (yi .here) rfl) (WL.cA 16 (zb Tryz.call77 (.cons rfl .nil)) .nil (ccl hz .nil (.s3 .h4 .h3 .h1) fun w pz ho la=>ya5 _ _ _ _ _ _ _ _ _ _ _ _ _ _ _ zQj w pz ((zDD.mono (Zle.left _ _)).weak (fun _ _ h=>y3d (Zle.left _ _) h)) ((zDD.mono (Zle.left _ _)).weak (fun _ _ h=>y3d (Zle.left _ _) h)) ((la _ (.head _) _).stb) ((la _ (.tail _ (.head _)) _).stb) (ZA.row (la _ (.tail _ (.tail _ (.head _))) _) (RR.flat (enc:=yw) (fun _=>rfl) _) ⟨w,pz.1⟩)) (WL.pu rfl (WL.pu rfl (WL.ym rfl rfl (yl zz rfl rfl rfl .h2 rfl rfl rfl) (WL.pu rfl (WL.nil (WX.a (WC.ret ?_)))))))))
 obtain rfl:=oJ h
 refine WX.yf Tryz.results45 (.agg rfl zf rfl (yi .here) (.tmp rfl .nil)) (fun w hw=>?_)
 exact⟨y24 rfl rfl,hw.sub .nil⟩
def y1M(z1W:z2×Int)(z1X:z2×Int)(zbu:Int→Option (zg×Int×(List (zO×z2))×(List (za×Int)))):Nat→Int→Int→Option (zg×Int×(List (zO×z2))×(List (za×Int)))
 | 0,_,_=>none
 | zvG+1,z3X,z6b=>if decide (z3X<((([z1W.2,z1X.2]:List Int).length:Nat):Int)) then jp1 (fun(zbv:Int)=>y1M z1W z1X zbu zvG (i64 (z3X+1)) zbv) fun zoc=>chk ((0:Int)≤z3X∧z3X<((([z1W.2,z1X.2]:List Int).length:Nat):Int)) (jp1 (fun(z9k:Int)=>if decide (z6b=0) then zoc z9k else zoc z6b) fun zod=>if decide ((nth ([z1W.2,z1X.2]:List Int) z3X)=6) then zod 352 else zod (nth ([z1W.2,z1X.2]:List Int) z3X)) else zbu z6b
theorem y96{n:Nat}{z1W:z2×Int}{z1X:z2×Int}{zbu:Int→Option (zg×Int×(List (zO×z2))×(List (za×Int)))}{z3X:Int}{z6b:Int}{r:zg×Int×(List (zO×z2))×(List (za×Int))}(h:y1M z1W z1X zbu n z3X z6b=some r):∃ m,n=m+1:=by
 cases n with
 | zero=>cases h
 | succ m=>exact⟨m,rfl⟩
def y4X(zk:zB)(z6c:List (List zd))(zfs:List (zO×z2))(z6d:List (za×Int))(zft:Int)(z1Q:za):Option (zg×Int×(List (zO×z2))×(List (za×Int))):=
 (y4o zk z6c zfs z6d zft z1Q).bind fun z3I=>jp2 (fun(z8B:List (List z7)) (zdp:Int)=>chk ((0:Int)≤z1Q.fQ∧z1Q.fQ<((zk.fK.length:Nat):Int)) ((y2n zdp).bind fun zlq=>(y5e z8B (⟨(⟨1,((nth zk.fK z1Q.fQ).fSlow)⟩:z2),zlq⟩:zSv)).bind fun z1W=>(y4G z8B (⟨(⟨1,((nth zk.fK z1Q.fQ).fSlow)⟩:z2),zlq⟩:zSv)).bind fun z1X=>jp1 (fun(zdq:Int)=>(y1E z1W.1).bind fun zlr=>(y1E z1X.1).bind fun zvH=>some (({z1Q with fDelay:=(yd (yE z6d z1Q zlr) z1Q 0),fT:=i64 (zvH+z3I.2.1)}:zg),zdq,z3I.2.2.2,(yE z6d z1Q zlr))) fun zbu=>y1M z1W z1X zbu yy 0 z3I.2.2.1)) fun zoe=>if decide ((i64 (z1Q.fNode-((zk.fM.length:Nat):Int)))≥0) then chk ((0:Int)≤(i64 (z1Q.fNode-((zk.fM.length:Nat):Int)))∧(i64 (z1Q.fNode-((zk.fM.length:Nat):Int)))<((zk.fS.length:Nat):Int)) (zoe z3I.1 ((nth zk.fS (i64 (z1Q.fNode-((zk.fM.length:Nat):Int)))).fDelay)) else zoe z3I.1 0
theorem ycx(Z:Zp)(z5O:Nat)(z7F:Option Addr)(z7G:Nat)(z7H:Option Addr)(z7I:Nat)(z7J:Option Addr)(z7K:Nat)(z7L:Option Addr)(z7M:Nat)(z7N:Option Addr)(z7O:Nat)(z7P:Option Addr)(z7Q:Nat)(z7R:Option Addr)(z7S:Nat)(z7T:Option Addr)(z7U:Nat)(z7V:Option Addr)(z7W:Nat)(z3J:Nat)(z3K:Nat)(zk:zB)(z6c:List (List zd))(zfs:List (zO×z2))(z6d:List (za×Int))(zft:Int)(z1Q:za)(r:zg×Int×(List (zO×z2))×(List (za×Int)))(h:y4X zk z6c zfs z6d zft z1Q=some r)(w₀:World)(hz:PZ (fps [stb z5O 95 [(.slice z7F zk.fM.length z7G),(.slice z7H zk.fC0.length z7I),(.slice z7J zk.fS.length z7K),(.slice z7L zk.fK.length z7M),(.slice z7N zk.fVLs.length z7O),(.slice z7P zk.fH.length z7Q),(.slice z7R zk.fU.length z7S),(.slice z7T zk.fV0.length z7U),(.slice z7V z6c.length z7W),(.map (some z3J)),(.map (some z3K)),(.int .i64 zft)],yA z3J (fun x=>Value.agg (y2o x).toArray) (fun x=>Value.agg (yw x).toArray) zfs,yA z3K (fun x=>Value.agg (e97 x).toArray) (Value.int .i64) z6d]) w₀ Z)(zQk:ZS Z 4 (y48 Z) z7F z7G zk.fM)(zQl:ZS Z 4 (y4M Z) z7H z7I zk.fC0)(zDF:ZS Z 4 (fun r x=>r=e66 x) z7J z7K zk.fS)(zDG:ZS Z 4 (fun r x=>r=e64 x) z7L z7M zk.fK)(zQm:ZS Z 7 (p46 Z) z7N z7O zk.fVLs)(zQn:ZS Z 5 (fun r x=>r=y4Z x) z7P z7Q zk.fH)(zQo:ZS Z 3 (y4N Z) z7R z7S zk.fU)(zQp:ZS Z 4 (fun r x=>r=y50 x) z7T z7U zk.fV0)(zQq:ZS Z 1 (p48 Z) z7V z7W z6c)(hown:Hp (fps [stb z5O 95 [(.slice z7F zk.fM.length z7G),(.slice z7H zk.fC0.length z7I),(.slice z7J zk.fS.length z7K),(.slice z7L zk.fK.length z7M),(.slice z7N zk.fVLs.length z7O),(.slice z7P zk.fH.length z7Q),(.slice z7R zk.fU.length z7S),(.slice z7T zk.fV0.length z7U),(.slice z7V z6c.length z7W),(.map (some z3J)),(.map (some z3K)),(.int .i64 zft)],yA z3J (fun x=>Value.agg (y2o x).toArray) (fun x=>Value.agg (yw x).toArray) zfs,yA z3K (fun x=>Value.agg (e97 x).toArray) (Value.int .i64) z6d]) w₀ w₀ [stb z5O 95 [(.slice z7F zk.fM.length z7G),(.slice z7H zk.fC0.length z7I),(.slice z7J zk.fS.length z7K),(.slice z7L zk.fK.length z7M),(.slice z7N zk.fVLs.length z7O),(.slice z7P zk.fH.length z7Q),(.slice z7R zk.fU.length z7S),(.slice z7T zk.fV0.length z7U),(.slice z7V z6c.length z7W),(.map (some z3J)),(.map (some z3K)),(.int .i64 zft)],yA z3J (fun x=>Value.agg (y2o x).toArray) (fun x=>Value.agg (yw x).toArray) zfs,yA z3K (fun x=>Value.agg (e97 x).toArray) (Value.int .i64) z6d]):
  Calls Tryz.prog 22 #[(.pointer (some ⟨z5O,0,none⟩)),(.agg #[(.int .i64 z1Q.fNode),(.int .i64 z1Q.fQ)])] w₀ fun e w'=>e = .returned (.agg #[(.int .i64 r.1.fNode),(.int .i64 r.1.fQ),(.int .i64 r.1.fDelay),(.int .i64 r.1.fT)])∧Hp (fps [stb z5O 95 [(.slice z7F zk.fM.length z7G),(.slice z7H zk.fC0.length z7I),(.slice z7J zk.fS.length z7K),(.slice z7L zk.fK.length z7M),(.slice z7N zk.fVLs.length z7O),(.slice z7P zk.fH.length z7Q),(.slice z7R zk.fU.length z7S),(.slice z7T zk.fV0.length z7U),(.slice z7V z6c.length z7W),(.map (some z3J)),(.map (some z3K)),(.int .i64 zft)],yA z3J (fun x=>Value.agg (y2o x).toArray) (fun x=>Value.agg (yw x).toArray) zfs,yA z3K (fun x=>Value.agg (e97 x).toArray) (Value.int .i64) z6d]) w₀ w' [stb z5O 95 [(.slice z7F zk.fM.length z7G),(.slice z7H zk.fC0.length z7I),(.slice z7J zk.fS.length z7K),(.slice z7L zk.fK.length z7M),(.slice z7N zk.fVLs.length z7O),(.slice z7P zk.fH.length z7Q),(.slice z7R zk.fU.length z7S),(.slice z7T zk.fV0.length z7U),(.slice z7V z6c.length z7W),(.map (some z3J)),(.map (some z3K)),(.int .i64 r.2.1)],yA z3J (fun x=>Value.agg (y2o x).toArray) (fun x=>Value.agg (yw x).toArray) r.2.2.1,yA z3K (fun x=>Value.agg (e97 x).toArray) (Value.int .i64) r.2.2.2]:=by
 unfold y4X at h
 refine Calls.oh2 Tryz.func22 Tryz.ntmps22 hown ?_
 refine WC.pool (WC.b (WC.a (WL.nA 3 (yI (cs:=[(.int .i64 z1Q.fNode),(.int .i64 z1Q.fQ)]) rfl rfl) ?_)))
 intro z9l _
 refine WL.nA 4 (yv (cs:=[(.int .i64 0),(.int .i64 0),(.int .i64 0),(.int .i64 0)]) ycR rfl) ?_
 intro z9m _
 refine WL.nil (WX.a (WC.b ?_))
 obtain⟨z3I,zQr,h⟩:=z8 h
 refine WC.a (WL.pu rfl (WL.qA 18 (yh y3R rfl (yi .h1) rfl) (WL.y9O (dd:=19) rfl rfl rfl (zb Tryz.call42 (.r2 rfl rfl)) (.s3 .h3 .h3 .h3) (ccz hz (.s3 .h3 .h3 .h3) .h2 fun w pz ho=>ybm _ _ _ _ _ _ _ _ _ _ _ _ _ _ _ _ _ _ _ _ _ _ _ _ _ _ _ _ _ zQr w pz ((zQk.mono (Zle.left _ _)).weak (fun _ _ h=>y1P (Zle.left _ _) h)) ((zQl.mono (Zle.left _ _)).weak (fun _ _ h=>y1Y (Zle.left _ _) h)) (zDF.mono (Zle.left _ _)) (zDG.mono (Zle.left _ _)) ((zQm.mono (Zle.left _ _)).weak (fun _ _ h=>y1m (Zle.left _ _) h)) (zQn.mono (Zle.left _ _)) ((zQo.mono (Zle.left _ _)).weak (fun _ _ h=>y1Z (Zle.left _ _) h)) (zQp.mono (Zle.left _ _)) ((zQq.mono (Zle.left _ _)).weak (fun _ _ h=>y1Q (Zle.left _ _) h)) ho) ?_)))
 rintro zdr zDH zDI zDJ zDK
 refine WL.merge .here .h6 (WL.pu rfl (WL.pu rfl (WL.pu rfl (WL.pu rfl (WL.pu rfl (WL.nil (WX.a (WC.b (WC.a (WL.pu rfl (WL.nil (WX.a ?_))))))))))))
 obtain⟨zoe,zQs,h⟩:=y4s h
 refine WC.y2R (fun(z8B:List (List z7)) (zdp:Int) (zls:List Value)=>(zoe z8B zdp=some r)∧(RR 1 (y1W (Z++([]++zdr))) zls z8B)) (fun z8B zdp zls=>[(0,(.pointer (some ⟨z5O,0,none⟩))),(3,(.pointer (some ⟨z9l,0,none⟩))),(4,(.pointer (some ⟨z9m,0,none⟩))),(5,(.slice zDH z8B.length zDI)),(6,(.int .i64 z3I.2.1)),(7,(.int .i64 zdp))]) (fun z8B zdp zls=>[fz ([]++zdr),row (.slice zDH z8B.length zDI) 173 1 zls,stb z5O 95 [(.slice z7F zk.fM.length z7G),(.slice z7H zk.fC0.length z7I),(.slice z7J zk.fS.length z7K),(.slice z7L zk.fK.length z7M),(.slice z7N zk.fVLs.length z7O),(.slice z7P zk.fH.length z7Q),(.slice z7R zk.fU.length z7S),(.slice z7T zk.fV0.length z7U),(.slice z7V z6c.length z7W),(.map (some z3J)),(.map (some z3K)),(.int .i64 z3I.2.2.1)],stb z9l 97 [(.int .i64 z1Q.fNode),(.int .i64 z1Q.fQ)],stb z9m 58 [(.int .i64 0),(.int .i64 0),(.int .i64 0),(.int .i64 0)],yA z3J (fun x=>Value.agg (y2o x).toArray) (fun x=>Value.agg (yw x).toArray) z3I.2.2.2,yA z3K (fun x=>Value.agg (e97 x).toArray) (Value.int .i64) z6d]) ?_ ?_
 ·skip
  refine WC.b (WC.yP (fun i=>[].contains i) [] rfl (WD.pA 0 22 rfl (fun _=>ya y9h rfl rfl) (WD.qA 1 23 rfl (yc yt rfl (yk .h6 rfl)) (WD.pA 2 24 rfl (fun _=>q_m rfl) (WD.pA 3 25 rfl (fun _=>y14 rfl) (WD.pA 4 26 rfl (fun _=>ya y6n rfl rfl) (WD.pA 5 27 rfl (fun _=>ya y6Y rfl rfl) (WD.qA 6 28 rfl (yc y6Z rfl (yk .h2 rfl)) (WD.pA 7 29 rfl (fun _=>yH Tryz.underlying22 rfl) (WD.pA 8 30 rfl (fun _=>yc2 rfl rfl rfl) (WD.pA 9 8 rfl (fun _=>q_z rfl) (WD.done (by kernel_rfl) (WX.a (WC.b (WC.a (WL.pu rfl (WL.pu rfl (WL.nil (WX.a (WC.cond rfl (fun zvI=>?_) (fun zvI=>?_)))))))))))))))))))))
  ·replace h:=yp h zvI
   obtain⟨zQt,h⟩:=yo h
   refine WC.a (WL.pu rfl (WL.qA 34 (y14 rfl) (WL.qA 35 (ya y6n rfl rfl) (WL.qA 36 (ya yah rfl rfl) (WL.qA 37 (yc yai rfl (yk .h2 rfl)) (WL.pu rfl (WL.znth (dd:=39) rfl rfl (Z:=(Z++([]++zdr))) (Pr:=(fun r x=>r=e66 x)) ydc rfl rfl (zDF.mono ((Zle.left _ _).trans ((Zle.left _ _).trans (Zle.y1O _ _ _)))) zQt ?_)))))))
   rintro zZm zZn zQu zZo rfl
   refine WL.qA 40 (ya ydO rfl rfl) (WL.qA 41 (yc yt rfl (y1l (hz.pv2 .here) zQu rfl)) (WL.pu rfl (WL.nil ?_)))
   exact WX.mid ⟨z3I.1,((nth zk.fS (i64 (z1Q.fNode-((zk.fM.length:Nat):Int)))).fDelay),zDJ⟩ ⟨h,(zDK.weak (fun _ _ h=>y3d (Zle.y1O _ _ _) h))⟩ (.r6 rfl rfl rfl rfl rfl rfl) (.s7 .here .here .here .h3 .h2 .here .here)
  ·replace h:=yq h zvI
   refine WC.skip ?_
   exact WX.mid ⟨z3I.1,0,zDJ⟩ ⟨h,(zDK.weak (fun _ _ h=>y3d (Zle.y1O _ _ _) h))⟩ (.r6 rfl rfl rfl rfl rfl rfl) (.s7 .here .here .here .h3 .h2 .here .here)
 ·rintro z8B zdp zls ⟨h,zDL⟩
  replace h:=(zQs z8B zdp).symm.trans h
  refine WC.b ?_
  obtain⟨zQv,h⟩:=yo h
  obtain⟨zlq,zQw,h⟩:=z8 h
  refine WC.yP (fun i=>[15].contains i) [] rfl (WD.pA 0 42 rfl (fun _=>q_m rfl) (WD.pA 1 43 rfl (fun _=>y14 rfl) (WD.pA 2 44 rfl (fun _=>ya y6n rfl rfl) (WD.pA 3 45 rfl (fun _=>ya y9f rfl rfl) (WD.qA 4 46 rfl (yc y9g rfl (yk .h2 rfl)) (WD.pA 5 47 rfl (fun _=>ya yal rfl rfl) (WD.qA 6 48 rfl (yc yt rfl (yk .h3 rfl)) (WD.znth (j:=7) (dd:=49) (by kernel_rfl) rfl z2V z2W rfl rfl (Z:=(Z++([]++zdr))) (Pr:=(fun r x=>r=e64 x)) ydd rfl rfl (zDG.mono ((Zle.left _ _).trans ((Zle.left _ _).trans (Zle.y1O _ _ _)))) zQv ?_))))))))
  rintro zZp zZq zQx zZr rfl
  refine WD.pA 8 50 rfl (fun _=>ya yca rfl rfl) (WD.qA 9 51 rfl (yc yt rfl (y1l (hz.pv2 .here) zQx rfl)) (WD.pA 10 52 rfl (fun _=>yL (v:=(.agg #[(.int .i64 1),(.int .i64 ((nth zk.fK z1Q.fQ).fSlow))])) (Eos.parts (l:=[.const (.int .i64 1),.tmp 51]) (.r2 rfl rfl) [0,1]) (fun _=>by kernel_rfl)) (WD.pA 11 53 rfl (fun _=>q_m rfl) (WD.eA 12 54 rfl (zb Tryz.call43 (.cons rfl .nil)) (ccz hz .nil .here fun w pz ho=>y4R _ _ _ zQw w pz ) (WD.pA 13 55 rfl (fun _=>yL (v:=(.agg #[(.int .i64 1),(.int .i64 ((nth zk.fK z1Q.fQ).fSlow)),(.int .i64 zlq.fN),(.int .i64 zlq.fD)])) (Eos.parts (l:=[.tmp 52,.tmp 54]) (.r2 rfl rfl) [0,1]) (fun _=>by kernel_rfl)) (WD.new (i:=14) (dd:=9) rfl (by kernel_rfl) rfl rfl rfl (yv (cs:=[(.int .i64 0),(.int .i64 0),(.int .i64 0),(.int .i64 0)]) zF1 rfl) (fun h'=>absurd h' (by decide)) ?_))))))
  intro zZs _
  refine WD.y37 (i:=15) rfl (by kernel_rfl) rfl rfl rfl (by kernel_rfl) (yl zF2 rfl rfl rfl .here rfl rfl rfl) (WD.done (by kernel_rfl) (WX.a (WC.b ?_)))
  obtain⟨z1W,zQy,h⟩:=z8 h
  refine WC.a (WL.pu rfl (WL.qA 58 (yh zfL rfl (yi .here) rfl) (WL.cA 59 (zb Tryz.call44 (.r2 rfl rfl)) .nil (cclz hz .nil .h1 (.cons .h2 .nil) fun w pz ho la=>ycS _ _ _ _ _ _ zQy w pz (ZA.row (la _ (.head _) _) (zDL.weak (fun _ _ h=>y3d (Zle.left _ _) h)) ⟨w,pz.1⟩)) (WL.pu rfl (WL.pu rfl (WL.pu rfl (WL.nA 10 (yv (cs:=[(.int .i64 0),(.int .i64 0)]) zT rfl) ?_)))))))
  intro zds _
  refine WL.ym rfl rfl (yl zz rfl rfl rfl .here rfl rfl rfl) (WL.pu rfl (WL.nil (WX.a (WC.b ?_))))
  obtain⟨z1X,zQz,h⟩:=z8 h
  refine WC.a (WL.pu rfl (WL.qA 64 (yh zfL rfl (yi .h1) rfl) (WL.cA 65 (zb Tryz.call45 (.r2 rfl rfl)) .nil (cclz hz .nil .h2 (.cons .h3 .nil) fun w pz ho la=>ybO _ _ _ _ _ _ zQz w pz (ZA.row (la _ (.head _) _) (zDL.weak (fun _ _ h=>y3d (Zle.left _ _) h)) ⟨w,pz.1⟩)) (WL.pu rfl (WL.pu rfl (WL.pu rfl (WL.nA 12 (yv (cs:=[(.int .i64 0),(.int .i64 0)]) zT rfl) ?_)))))))
  intro zdt _
  refine WL.ym rfl rfl (yl zz rfl rfl rfl .here rfl rfl rfl) (WL.pu rfl (WL.nil (WX.a ?_)))
  obtain⟨zbu,zQA,h⟩:=y15 h
  refine WC.y3k (fun(zdq:Int)=>(zbu zdq=some r)) (fun zdq=>[(0,(.pointer (some ⟨z5O,0,none⟩))),(3,(.pointer (some ⟨z9l,0,none⟩))),(4,(.pointer (some ⟨z9m,0,none⟩))),(6,(.int .i64 z3I.2.1)),(10,(.pointer (some ⟨zds,0,none⟩))),(12,(.pointer (some ⟨zdt,0,none⟩)))]) (fun zdq=>[fz ([]++zdr),stb z5O 95 [(.slice z7F zk.fM.length z7G),(.slice z7H zk.fC0.length z7I),(.slice z7J zk.fS.length z7K),(.slice z7L zk.fK.length z7M),(.slice z7N zk.fVLs.length z7O),(.slice z7P zk.fH.length z7Q),(.slice z7R zk.fU.length z7S),(.slice z7T zk.fV0.length z7U),(.slice z7V z6c.length z7W),(.map (some z3J)),(.map (some z3K)),(.int .i64 zdq)],stb z9l 97 [(.int .i64 z1Q.fNode),(.int .i64 z1Q.fQ)],stb z9m 58 [(.int .i64 0),(.int .i64 0),(.int .i64 0),(.int .i64 0)],stb zds 132 [(.int .i64 z1W.1.fN),(.int .i64 z1W.1.fD)],stb zdt 132 [(.int .i64 z1X.1.fN),(.int .i64 z1X.1.fD)],yA z3J (fun x=>Value.agg (y2o x).toArray) (fun x=>Value.agg (yw x).toArray) z3I.2.2.2,yA z3K (fun x=>Value.agg (e97 x).toArray) (Value.int .i64) z6d]) ?_ ?_
  ·skip
   refine WC.b (WC.a (WL.pu rfl (WL.pu rfl (WL.nA 70 (yR (cs:=([z1W.2,z1X.2]:List Int).flatMap e39) zxq (Eos.parts (l:=[.tmp 68,.tmp 69]) (.r2 rfl rfl) [0,1]) (fun _=>by kernel_rfl) rfl (by unfold maxLen;omega)) ?_))))
   intro zic _
   refine WL.qA 71 (yH Tryz.underlying138 rfl) (WL.pu rfl (WL.nil (WX.a (WC.block (WC.y8a (fun(zid:Nat) (z3X:Int) (z6b:Int)=>(y1M z1W z1X zbu zid z3X z6b=some r)) (fun zid z3X z6b=>[(0,(.pointer (some ⟨z5O,0,none⟩))),(3,(.pointer (some ⟨z9l,0,none⟩))),(4,(.pointer (some ⟨z9m,0,none⟩))),(6,(.int .i64 z3I.2.1)),(10,(.pointer (some ⟨zds,0,none⟩))),(12,(.pointer (some ⟨zdt,0,none⟩))),(70,(.slice (some ⟨zic,0,none⟩) (([z1W.2,z1X.2]:List Int).length) 2)),(71,(.int .i64 ((([z1W.2,z1X.2]:List Int).length:Nat):Int))),(72,(.int .i64 z3X))]) (fun zid z3X z6b=>[fz ([]++zdr),row (.slice (some ⟨zic,0,none⟩) (([z1W.2,z1X.2]:List Int).length) 2) 39 1 (([z1W.2,z1X.2]:List Int).flatMap e39),stb z5O 95 [(.slice z7F zk.fM.length z7G),(.slice z7H zk.fC0.length z7I),(.slice z7J zk.fS.length z7K),(.slice z7L zk.fK.length z7M),(.slice z7N zk.fVLs.length z7O),(.slice z7P zk.fH.length z7Q),(.slice z7R zk.fU.length z7S),(.slice z7T zk.fV0.length z7U),(.slice z7V z6c.length z7W),(.map (some z3J)),(.map (some z3K)),(.int .i64 z6b)],stb z9l 97 [(.int .i64 z1Q.fNode),(.int .i64 z1Q.fQ)],stb z9m 58 [(.int .i64 0),(.int .i64 0),(.int .i64 0),(.int .i64 0)],stb zds 132 [(.int .i64 z1W.1.fN),(.int .i64 z1W.1.fD)],stb zdt 132 [(.int .i64 z1X.1.fN),(.int .i64 z1X.1.fD)],yA z3J (fun x=>Value.agg (y2o x).toArray) (fun x=>Value.agg (yw x).toArray) z3I.2.2.2,yA z3K (fun x=>Value.agg (e97 x).toArray) (Value.int .i64) z6d]) (fun zid z3X z6b=>zid) ⟨yy,0,z3I.2.2.1⟩ h (.r9 rfl rfl rfl rfl rfl rfl rfl rfl rfl) (.s9 .h4 .here .h4 .h4 .h4 .h1 .here .h2 .h2) ?_)))))
   rintro zid z3X z6b h
   obtain⟨zvG,rfl⟩:=y96 h
   rw[y1M] at h
   refine WC.b (WC.a (WL.pu rfl (WL.nil (WX.a (WC.b (WC.cond rfl (fun zvJ=>?_) (fun zvJ=>?_)))))))
   ·replace h:=yp h zvJ
    refine WC.skip (WX.a ?_)
    obtain⟨zoc,zQB,h⟩:=y15 h
    refine WC.y3k (fun(zbv:Int)=>(zoc zbv=some r)) (fun zbv=>[(0,(.pointer (some ⟨z5O,0,none⟩))),(3,(.pointer (some ⟨z9l,0,none⟩))),(4,(.pointer (some ⟨z9m,0,none⟩))),(6,(.int .i64 z3I.2.1)),(10,(.pointer (some ⟨zds,0,none⟩))),(12,(.pointer (some ⟨zdt,0,none⟩))),(70,(.slice (some ⟨zic,0,none⟩) (([z1W.2,z1X.2]:List Int).length) 2)),(71,(.int .i64 ((([z1W.2,z1X.2]:List Int).length:Nat):Int))),(72,(.int .i64 z3X))]) (fun zbv=>[fz ([]++zdr),row (.slice (some ⟨zic,0,none⟩) (([z1W.2,z1X.2]:List Int).length) 2) 39 1 (([z1W.2,z1X.2]:List Int).flatMap e39),stb z5O 95 [(.slice z7F zk.fM.length z7G),(.slice z7H zk.fC0.length z7I),(.slice z7J zk.fS.length z7K),(.slice z7L zk.fK.length z7M),(.slice z7N zk.fVLs.length z7O),(.slice z7P zk.fH.length z7Q),(.slice z7R zk.fU.length z7S),(.slice z7T zk.fV0.length z7U),(.slice z7V z6c.length z7W),(.map (some z3J)),(.map (some z3K)),(.int .i64 zbv)],stb z9l 97 [(.int .i64 z1Q.fNode),(.int .i64 z1Q.fQ)],stb z9m 58 [(.int .i64 0),(.int .i64 0),(.int .i64 0),(.int .i64 0)],stb zds 132 [(.int .i64 z1W.1.fN),(.int .i64 z1W.1.fD)],stb zdt 132 [(.int .i64 z1X.1.fN),(.int .i64 z1X.1.fD)],yA z3J (fun x=>Value.agg (y2o x).toArray) (fun x=>Value.agg (yw x).toArray) z3I.2.2.2,yA z3K (fun x=>Value.agg (e97 x).toArray) (Value.int .i64) z6d]) ?_ ?_
    ·skip
     refine WC.block (WC.b ?_)
     obtain⟨zof,h⟩:=yo h
     refine WC.a (WL.qA 74 (yX zxq rfl rfl zof.1 zof.2 y32) (WL.qA 75 (yc y35 rfl (yab .h1 ((y3D (enc:=e39) (l:=([z1W.2,z1X.2]:List Int)) (i:=z3X) (sz:=1) (fun _=>rfl) zof.1 zof.2) 0 _ rfl))) (WL.pu rfl (WL.nil (WX.a ?_)))))
     obtain⟨zod,zQC,h⟩:=y15 h
     refine WC.y3k (fun(z9k:Int)=>(zod z9k=some r)) (fun z9k=>[(0,(.pointer (some ⟨z5O,0,none⟩))),(3,(.pointer (some ⟨z9l,0,none⟩))),(4,(.pointer (some ⟨z9m,0,none⟩))),(6,(.int .i64 z3I.2.1)),(10,(.pointer (some ⟨zds,0,none⟩))),(12,(.pointer (some ⟨zdt,0,none⟩))),(15,(.int .i64 z9k)),(70,(.slice (some ⟨zic,0,none⟩) (([z1W.2,z1X.2]:List Int).length) 2)),(71,(.int .i64 ((([z1W.2,z1X.2]:List Int).length:Nat):Int))),(72,(.int .i64 z3X))]) (fun z9k=>[fz ([]++zdr),row (.slice (some ⟨zic,0,none⟩) (([z1W.2,z1X.2]:List Int).length) 2) 39 1 (([z1W.2,z1X.2]:List Int).flatMap e39),stb z5O 95 [(.slice z7F zk.fM.length z7G),(.slice z7H zk.fC0.length z7I),(.slice z7J zk.fS.length z7K),(.slice z7L zk.fK.length z7M),(.slice z7N zk.fVLs.length z7O),(.slice z7P zk.fH.length z7Q),(.slice z7R zk.fU.length z7S),(.slice z7T zk.fV0.length z7U),(.slice z7V z6c.length z7W),(.map (some z3J)),(.map (some z3K)),(.int .i64 z6b)],stb z9l 97 [(.int .i64 z1Q.fNode),(.int .i64 z1Q.fQ)],stb z9m 58 [(.int .i64 0),(.int .i64 0),(.int .i64 0),(.int .i64 0)],stb zds 132 [(.int .i64 z1W.1.fN),(.int .i64 z1W.1.fD)],stb zdt 132 [(.int .i64 z1X.1.fN),(.int .i64 z1X.1.fD)],yA z3J (fun x=>Value.agg (y2o x).toArray) (fun x=>Value.agg (yw x).toArray) z3I.2.2.2,yA z3K (fun x=>Value.agg (e97 x).toArray) (Value.int .i64) z6d]) ?_ ?_
     ·skip
      refine WC.b (WC.a (WL.pu rfl (WL.pu rfl (WL.nil (WX.a (WC.cond rfl (fun zvK=>?_) (fun zvK=>?_)))))))
      ·replace h:=yp h zvK
       refine WC.a (WL.pu rfl (WL.nil ?_))
       exact WX.mid 352 h (.r10 rfl rfl rfl rfl rfl rfl rfl rfl rfl rfl) (.s9 .here .here .here .here .here .here .here .here .here)
      ·replace h:=yq h zvK
       refine WC.skip ?_
       exact WX.mid (nth ([z1W.2,z1X.2]:List Int) z3X) h (.r10 rfl rfl rfl rfl rfl rfl rfl rfl rfl rfl) (.s9 .here .here .here .here .here .here .here .here .here)
     ·rintro z9k h
      replace h:=(zQC z9k).symm.trans h
      refine WC.b (WC.a (WL.pu rfl (WL.qA 79 (y14 rfl) (WL.qA 80 (ya y9i rfl rfl) (WL.qA 81 (yc y35 rfl (yk .h2 rfl)) (WL.pu rfl (WL.nil (WX.a (WC.cond rfl (fun zvL=>?_) (fun zvL=>?_))))))))))
      ·replace h:=yp h zvL
       refine WC.a (WL.pu rfl (WL.pu rfl (WL.qA 85 (y14 rfl) (WL.qA 86 (ya y9i rfl rfl) (WL.ym rfl rfl (y5b (ds:=[(.slice z7F zk.fM.length z7G),(.slice z7H zk.fC0.length z7I),(.slice z7J zk.fS.length z7K),(.slice z7L zk.fK.length z7M),(.slice z7N zk.fVLs.length z7O),(.slice z7P zk.fH.length z7Q),(.slice z7R zk.fU.length z7S),(.slice z7T zk.fV0.length z7U),(.slice z7V z6c.length z7W),(.map (some z3J)),(.map (some z3K)),(.int .i64 z9k)]) yan rfl rfl rfl rfl rfl .h2 rfl rfl) (WL.nil (WX.yn ?_)))))))
       exact WX.mid z9k h (.r9 rfl rfl rfl rfl rfl rfl rfl rfl rfl) (.s9 .h1 .h1 .here .here .here .here .here .here .here)
      ·replace h:=yq h zvL
       refine WC.skip (WX.yn ?_)
       exact WX.mid z6b h (.r9 rfl rfl rfl rfl rfl rfl rfl rfl rfl) (.s9 .here .here .here .here .here .here .here .here .here)
    ·rintro zbv h
     replace h:=(zQB zbv).symm.trans h
     refine WC.a (WL.pu rfl (WL.pu rfl (WL.nil ?_)))
     exact WX.round ⟨zvG,(i64 (z3X+1)),zbv⟩ h (Nat.lt_succ_self _) (.r9 rfl rfl rfl rfl rfl rfl rfl rfl rfl) (.s9 .here .here .here .here .here .here .here .here .here)
   ·replace h:=yq h zvJ
    refine WC.exit (WX.yg (WX.yg (WX.yz ?_)))
    exact WX.mid z6b h (.r6 rfl rfl rfl rfl rfl rfl) (.s8 .here .h1 .h1 .h1 .h1 .h1 .h1 .h1)
  ·rintro zdq h
   replace h:=(zQA zdq).symm.trans h
   refine WC.b ?_
   obtain⟨zlr,zQD,h⟩:=z8 h
   refine WC.yP (fun i=>[7].contains i) [] rfl (WD.pA 0 88 rfl (fun _=>q_m rfl) (WD.pA 1 89 rfl (fun _=>y14 rfl) (WD.pA 2 90 rfl (fun _=>ya ydR rfl rfl) (WD.qA 3 91 rfl (yc yam rfl (yk .h1 rfl)) (WD.qA 4 92 rfl (yh y3R rfl (yi .h2) rfl) (WD.qA 5 93 rfl (yh zf rfl (yi .h4) rfl) (WD.eA 6 94 rfl (zb Tryz.call46 (.cons rfl .nil)) (ccz hz .nil .here fun w pz ho=>y5M _ _ _ zQD w pz ) (WD.y37 (i:=7) rfl (by kernel_rfl) rfl rfl rfl (by kernel_rfl) (y5J (k:=z1Q) (v:=zlr) y7G Tryz.underlying93 rfl rfl rfl rfl .h7) (WD.done (by kernel_rfl) (WX.a (WC.b ?_)))))))))))
   obtain⟨zvH,zQE,h⟩:=z8 h
   refine WC.yP (fun i=>[15].contains i) [] rfl (WD.pA 0 95 rfl (fun _=>ya y9h rfl rfl) (WD.qA 1 96 rfl (yc yt rfl (yk .h3 rfl)) (WD.pA 2 97 rfl (fun _=>ya yal rfl rfl) (WD.qA 3 98 rfl (yc yt rfl (yk .h3 rfl)) (WD.pA 4 99 rfl (fun _=>q_m rfl) (WD.pA 5 100 rfl (fun _=>y14 rfl) (WD.pA 6 101 rfl (fun _=>ya ydR rfl rfl) (WD.qA 7 102 rfl (yc yam rfl (yk .h2 rfl)) (WD.qA 8 103 rfl (yh y3R rfl (yi .h3) rfl) (WD.qA 9 104 rfl (y3r (k:=z1Q) (dflt:=(0:Int)) y7G Tryz.underlying93 y56 rfl rfl rfl .here) (WD.qA 10 105 rfl (yh zf rfl (yi .h6) rfl) (WD.eA 11 106 rfl (zb Tryz.call46 (.cons rfl .nil)) (ccz hz .nil .h1 fun w pz ho=>y5M _ _ _ zQE w pz ) (WD.pA 12 107 rfl (fun _=>q_m rfl) (WD.pA 13 108 rfl (fun _=>yd5 rfl rfl rfl) (WD.pA 14 109 rfl (fun _=>yL (v:=(.agg #[(.int .i64 z1Q.fNode),(.int .i64 z1Q.fQ),(.int .i64 (yd (yE z6d z1Q zlr) z1Q 0)),(.int .i64 (i64 (zvH+z3I.2.1)))])) (Eos.parts (l:=[.tmp 96,.tmp 98,.tmp 104,.tmp 108]) (.r4 rfl rfl rfl rfl) [0,1,2,3]) (fun _=>by kernel_rfl)) (WD.y37 (i:=15) rfl (by kernel_rfl) rfl rfl rfl (by kernel_rfl) (yl ydS rfl rfl rfl .h4 rfl rfl rfl) (WD.done (by kernel_rfl) (WX.a (WC.ret ?_)))))))))))))))))))
   obtain rfl:=oJ h
   refine WX.yf Tryz.results22 (.agg rfl y8k rfl (yi .here) .nil) (fun w hw=>?_)
   exact⟨yD rfl,hw.sub (.s3 .h3 .h6 .h1)⟩
def yJ(z6x:zg)(z6y:zg):Option Int:=
 (y1k (⟨z6x.fNode,z6x.fQ⟩:za) (⟨z6y.fNode,z6y.fQ⟩:za)).bind fun zDM=>some zDM
theorem ycy(Z:Zp)(z6x:zg)(z6y:zg)(r:Int)(h:yJ z6x z6y=some r)(w₀:World)(hz:PZ [] w₀ Z):
  Calls Tryz.prog 24 #[(.agg #[(.int .i64 z6x.fNode),(.int .i64 z6x.fQ),(.int .i64 z6x.fDelay),(.int .i64 z6x.fT)]),(.agg #[(.int .i64 z6y.fNode),(.int .i64 z6y.fQ),(.int .i64 z6y.fDelay),(.int .i64 z6y.fT)])] w₀ fun e w'=>e = .returned (.int .i64 r)∧Hp [] w₀ w' []:=by
 unfold yJ at h
 refine Calls.yK Tryz.func24 Tryz.ntmps24 ?_
 refine WC.b (WC.a (WL.nA 2 (yI (cs:=[(.int .i64 z6x.fNode),(.int .i64 z6x.fQ),(.int .i64 z6x.fDelay),(.int .i64 z6x.fT)]) rfl rfl) ?_))
 intro zZt _
 refine WL.nA 3 (yI (cs:=[(.int .i64 z6y.fNode),(.int .i64 z6y.fQ),(.int .i64 z6y.fDelay),(.int .i64 z6y.fT)]) rfl rfl) ?_
 intro zZu _
 refine WL.pu rfl (WL.nil (WX.a (WC.b ?_)))
 obtain⟨zDM,zQF,h⟩:=z8 h
 refine WC.a (WL.qA 5 (ya yao rfl rfl) (WL.qA 6 (yc yt rfl (yk .h1 rfl)) (WL.qA 7 (ya yap rfl rfl) (WL.qA 8 (yc yt rfl (yk .h1 rfl)) (WL.qA 9 (yL (v:=(.agg #[(.int .i64 z6x.fNode),(.int .i64 z6x.fQ)])) (Eos.parts (l:=[.tmp 6,.tmp 8]) (.r2 rfl rfl) [0,1]) (fun _=>by kernel_rfl)) (WL.qA 10 (ya yao rfl rfl) (WL.qA 11 (yc yt rfl (yk .here rfl)) (WL.qA 12 (ya yap rfl rfl) (WL.qA 13 (yc yt rfl (yk .here rfl)) (WL.qA 14 (yL (v:=(.agg #[(.int .i64 z6y.fNode),(.int .i64 z6y.fQ)])) (Eos.parts (l:=[.tmp 11,.tmp 13]) (.r2 rfl rfl) [0,1]) (fun _=>by kernel_rfl)) (WL.cA 15 (zb Tryz.call25 (.r2 rfl rfl)) .nil (cc hz .nil fun w pz ho=>y7U _ _ _ _ zQF w pz ) (WL.pu rfl (WL.nil (WX.a (WC.ret ?_)))))))))))))))
 obtain rfl:=oJ h
 refine WX.yf Tryz.results24 (.tmp rfl .nil) (fun w hw=>?_)
 exact⟨yD rfl,hw.sub .nil⟩
theorem srtA_47:∀ w,(isAgg (Tryz.y3o.t 24)).run Tryz.prog w = .ok true w:=fun _=>by kernel_rfl
theorem srtZ_47:∀ w,(Go.sizeOf (Tryz.y3o.t 24)).run Tryz.prog w = .ok 4 w:=fun _=>by kernel_rfl
def y33(z5m:List zg)(zlt:Int)(zlu:Int)(zie:Int)(zfu:zg→zg→Option Int):Option (List zg):=chk ((zlt=0∧zlu=((z5m.length:Nat):Int))∧(0≤zie∧zie<4611686018427387904∧z5m.length<4611686018427387904)) (chk (y7r zfu (yM zfu z5m)=true) (some (yM zfu z5m)))
theorem y6D(Z:Zp)(zfv:Option Addr)(zfw:Nat)(zlv:FuncId)(zvM:List Value)(z5m:List zg)(zlt:Int)(zlu:Int)(zie:Int)(zfu:zg→zg→Option Int)(r:List zg)(w₀:World)(hz:PZ (fps [row (.slice zfv z5m.length zfw) 58 4 (z5m.flatMap e58)]) w₀ Z)(zQG:∀ args w,(callFunc zlv args).run Tryz.prog w = .ok (.enter zlv args) w)(zQH:∀ w:World,PZ [] w Z→∀(x0:zg) (x1:zg) (r:Int),zfu x0 x1=some r→Calls Tryz.prog zlv (([(.agg #[(.int .i64 x0.fNode),(.int .i64 x0.fQ),(.int .i64 x0.fDelay),(.int .i64 x0.fT)]),(.agg #[(.int .i64 x1.fNode),(.int .i64 x1.fQ),(.int .i64 x1.fDelay),(.int .i64 x1.fT)])]:List Value)++zvM).toArray w fun e w'=>e = .returned (.int .i64 r)∧Hp [] w w' [])(h:y33 z5m zlt zlu zie zfu=some r)(hown:Hp (fps [row (.slice zfv z5m.length zfw) 58 4 (z5m.flatMap e58)]) w₀ w₀ [row (.slice zfv z5m.length zfw) 58 4 (z5m.flatMap e58)]):
  Calls Tryz.prog 47 #[(.slice zfv z5m.length zfw),(.int .i64 zlt),(.int .i64 zlu),(.int .i64 zie),(.func (.func zlv) #[] (zvM).toArray)] w₀ fun e w'=>e = .returned (.tuple #[])∧(r.length=z5m.length)∧Hp (fps [row (.slice zfv z5m.length zfw) 58 4 (z5m.flatMap e58)]) w₀ w' [row (.slice zfv r.length zfw) 58 4 (r.flatMap e58)]:=by
 obtain⟨h0,h⟩:=yo h
 obtain⟨h1,h⟩:=yo h
 have hr:=(oJ h).symm
 exact y8w (P:=Tryz.prog) (f:=47) (e:=58) (k:=4) (enc:=e58) (fun _=>rfl) (by decide) yfc (fun β _ enc cf g cb hO blk off cap d0 w0 eg hC R=>Tryz.y8y 4 srtA_47 srtZ_47 enc cf g cb hO blk off cap d0 w0 eg hC R) (Tryz.y8e (α:=Unit)) hz zQG zQH h0 h1 hr hown
def y1f(z4G:List zg)(zif:zg→zg→Option Int):Option (List zg):=
 (y4b (u64 ((z4G.length:Nat):Int))).bind fun zog=>(y33 z4G 0 ((z4G.length:Nat):Int) zog zif).bind fun zoh=>some zoh
theorem y5F(Z:Zp)(zdu:Option Addr)(zdv:Nat)(zig:FuncId)(zoi:List Value)(z4G:List zg)(zif:zg→zg→Option Int)(r:List zg)(h:y1f z4G zif=some r)(w₀:World)(hz:PZ (fps [row (.slice zdu z4G.length zdv) 58 4 (z4G.flatMap e58)]) w₀ Z)(zQI:∀ args w,(callFunc zig args).run Tryz.prog w = .ok (.enter zig args) w)(zQJ:∀ w:World,PZ [] w Z→∀(x0:zg) (x1:zg) (r:Int),zif x0 x1=some r→Calls Tryz.prog zig (([(.agg #[(.int .i64 x0.fNode),(.int .i64 x0.fQ),(.int .i64 x0.fDelay),(.int .i64 x0.fT)]),(.agg #[(.int .i64 x1.fNode),(.int .i64 x1.fQ),(.int .i64 x1.fDelay),(.int .i64 x1.fT)])]:List Value)++zoi).toArray w fun e w'=>e = .returned (.int .i64 r)∧Hp [] w w' [])(hown:Hp (fps [row (.slice zdu z4G.length zdv) 58 4 (z4G.flatMap e58)]) w₀ w₀ [row (.slice zdu z4G.length zdv) 58 4 (z4G.flatMap e58)]):
  Calls Tryz.prog 23 #[(.slice zdu z4G.length zdv),(.func (.func zig) #[] (zoi).toArray)] w₀ fun e w'=>e = .returned (.tuple #[])∧(r.length=z4G.length)∧Hp (fps [row (.slice zdu z4G.length zdv) 58 4 (z4G.flatMap e58)]) w₀ w' [row (.slice zdu r.length zdv) 58 4 (r.flatMap e58)]:=by
 unfold y1f at h
 refine Calls.oh2 Tryz.func23 Tryz.ntmps23 hown ?_
 refine WC.b (WC.a (WL.pu rfl (WL.qA 6 (yH Tryz.underlying35 rfl) (WL.pu rfl (WL.nil (WX.a ?_))))))
 obtain⟨zog,zQK,h⟩:=z8 h
 obtain⟨zoh,zQL,h⟩:=z8 h
 refine WC.a (WL.pu rfl (WL.pu rfl (WL.pu rfl (WL.qA 10 (y6G Tryz.underlying3 Tryz.underlying142 rfl rfl) (WL.cA 11 (zb Tryz.call48 (.cons rfl .nil)) .nil (cc hz .nil fun w pz ho=>y7V (Z:=_)  (z7m:=(u64 ((z4G.length:Nat):Int))) (r:=zog) w pz  zQK) (WL.pu rfl (WL.y53 (dd:=13) rfl rfl rfl (zb Tryz.call47 (.r5 rfl rfl rfl rfl rfl)) (.cons .here .nil) (cc hz (.cons .here .nil) fun w pz ho=>y6D (Z:=_) (zfv:=zdu) (zfw:=zdv) (zlv:=zig) (zvM:=zoi) (z5m:=z4G) (zlt:=0) (zlu:=((z4G.length:Nat):Int)) (zie:=zog) (zfu:=zif) (r:=zoh) w pz zQI zQJ zQL ho) ?_)))))))
 rintro  zDN
 refine WL.repin (i:=0) rfl (u:=(.slice zdu zoh.length zdv)) (y7b zDN.symm) (WL.nil ?_)
 obtain rfl:=oJ h
 refine WX.y52 Tryz.results23 .nil (fun w hw=>?_)
 exact⟨y7o,(zDN.trans rfl),hw.sub (.cons .here .nil)⟩
def y3C(z24:List zd)(zbw:Option Bool):Nat→Int→Option Bool
 | 0,_=>none
 | zvN+1,z2c=>if decide (z2c<((z24.length:Nat):Int)) then chk ((0:Int)≤z2c∧z2c<((z24.length:Nat):Int)) (chk ((0:Int)≤0∧(0:Int)≤z2c∧z2c≤((z24.length:Nat):Int)) ((y5c (z24.take (z2c:Int).toNat) ((nth z24 z2c).fNode)).bind fun z3L=>chk ((!z3L.2)=true→((0:Int)≤0∧0<((z24.length:Nat):Int))) (if (!z3L.2)&&(decide (((nth z24 z2c).fNode)≠((nth z24 0).fNode))) then some false else y3C z24 zbw zvN (i64 (z2c+1))))) else zbw
theorem yaY{n:Nat}{z24:List zd}{zbw:Option Bool}{z2c:Int}{r:Bool}(h:y3C z24 zbw n z2c=some r):∃ m,n=m+1:=by
 cases n with
 | zero=>cases h
 | succ m=>exact⟨m,rfl⟩
def y6P(z24:List zd):Option Bool:=
 jp0 (some true) fun zbw=>y3C z24 zbw yy 0
theorem yfk(Z:Zp)(zfx:Option Addr)(zfy:Nat)(z24:List zd)(r:Bool)(h:y6P z24=some r)(w₀:World)(hz:PZ [] w₀ Z)(zvO:ZS Z 3 (fun r x=>r=e62 x) zfx zfy z24):
  Calls Tryz.prog 52 #[(.slice zfx z24.length zfy)] w₀ fun e w'=>e = .returned (.bool r)∧Hp [] w₀ w' []:=by
 unfold y6P at h
 refine Calls.on1 Tryz.func52 Tryz.ntmps52 ?_
 refine WC.b (WC.a (WL.pu rfl (WL.nil (WX.a ?_))))
 obtain⟨zbw,zQM,h⟩:=y1N h
 refine WC.y1j ((zbw=some r)) ([]) ([]) ?_ ?_
 ·skip
  refine WC.b (WC.a (WL.pu rfl (WL.qA 8 (yH Tryz.underlying48 rfl) (WL.pu rfl (WL.nil (WX.a (WC.block (WC.y2E (fun(zih:Nat) (z2c:Int)=>(y3C z24 zbw zih z2c=some r)) (fun zih z2c=>[(0,(.slice zfx z24.length zfy)),(7,(.slice zfx z24.length zfy)),(8,(.int .i64 ((z24.length:Nat):Int))),(9,(.int .i64 z2c))]) (fun zih z2c=>[]) (fun zih z2c=>zih) ⟨yy,0⟩ h (.r4 rfl rfl rfl rfl) .nil ?_))))))))
  rintro zih z2c h
  obtain⟨zvN,rfl⟩:=yaY h
  rw[y3C] at h
  refine WC.b (WC.a (WL.pu rfl (WL.nil (WX.a (WC.b (WC.cond rfl (fun zvP=>?_) (fun zvP=>?_)))))))
  ·replace h:=yp h zvP
   refine WC.skip (WX.a (WC.b (WC.block (WC.b ?_))))
   obtain⟨zQN,h⟩:=yo h
   refine WC.a (WL.pu rfl (WL.znth (dd:=12) rfl rfl (Z:=Z) (Pr:=(fun r x=>r=e62 x)) y6e rfl rfl zvO zQN ?_))
   rintro zQO zZv zQP zZw rfl
   refine WL.qA 13 (yh y3Q rfl (y2b hz.pv zQP) rfl) (WL.nA 4 (yv (cs:=[(.int .i64 0),(.int .i64 0),(.int .i64 0)]) y6L rfl) ?_)
   intro zDO _
   refine WL.pu rfl (WL.ym rfl rfl (yl y70 rfl rfl rfl .here rfl rfl rfl) (WL.nil (WX.a (WC.b ?_))))
   obtain⟨zQQ,h⟩:=yo h
   obtain⟨z3L,zQR,h⟩:=z8 h
   refine WC.yP (fun i=>[10].contains i) [] rfl (WD.pA 0 15 rfl (fun _=>q_m rfl) (WD.pA 1 16 rfl (fun _=>q_m rfl) (WD.zsub (j:=2) (dd:=17) (by kernel_rfl) rfl z2V z2W rfl rfl (Z:=Z) (Pr:=(fun r x=>r=e62 x)) y6e rfl zvO (fun _=>ixn) (fun _=>ixo rfl) rfl rfl zQQ (List.drop_zero).symm ?_)))
   rintro zQS zQT zQU
   refine WD.pA 3 18 rfl (fun _=>ya y55 rfl rfl) (WD.qA 4 19 rfl (yc yt rfl (yk .here rfl)) (WD.eA 5 20 rfl (zb Tryz.call39 (.r2 rfl rfl)) (cc hz .nil fun w pz ho=>y9n _ _ _ _ _ _ zQR w pz zQU) (WD.pA 6 14 rfl (fun _=>q_m rfl) (WD.pA 7 21 rfl (fun _=>y7A rfl rfl) (WD.pA 8 22 rfl (fun _=>y7A rfl rfl) (WD.new (i:=9) (dd:=5) rfl (by kernel_rfl) rfl rfl rfl (yv (cs:=[(.int .i64 0),(.int .i64 0),(.int .i64 0)]) y6L rfl) (fun h'=>absurd h' (by decide)) ?_))))))
   intro zQV _
   refine WD.forced0 (i:=10) rfl (by kernel_rfl) rfl rfl rfl (Sin.of .nil) (yl y70 rfl rfl rfl .here rfl rfl rfl) (WD.pA 11 6 rfl (fun _=>q_z rfl) (WD.done (by kernel_rfl) (WX.a (WC.b ?_))))
   obtain⟨zQW,h⟩:=yo h
   refine WC.yP (fun i=>[].contains i) [] rfl (WD.pA 0 23 rfl (fun _=>q_m rfl) (WD.pA 1 24 rfl (fun _=>q_not rfl) (WD.pA 2 25 rfl (fun _=>q_m rfl) (WD.mid (fuel':=0) [(0,(.slice zfx z24.length zfy)),(7,(.slice zfx z24.length zfy)),(8,(.int .i64 ((z24.length:Nat):Int))),(9,(.int .i64 z2c)),(10,(.bool (decide (z2c<((z24.length:Nat):Int))))),(11,(.int .i64 z2c)),(12,(.pointer (some zQO))),(13,(.agg #[(.int .i64 ((nth z24 z2c).fNode)),(.int .i64 ((nth z24 z2c).fNext)),(.int .i64 ((nth z24 z2c).fQ))])),(4,(.pointer (some ⟨zDO,0,none⟩))),(3,(.int .i64 z2c)),(15,(.slice zfx z24.length zfy)),(16,(.int .i64 z2c)),(17,(.slice zQS ((z24.take (z2c:Int).toNat).length) zQT)),(18,(.pointer (some ⟨zDO,0,none⟩))),(19,(.int .i64 ((nth z24 z2c).fNode))),(20,(.tuple #[(.agg #[(.int .i64 z3L.1.fNode),(.int .i64 z3L.1.fNext),(.int .i64 z3L.1.fQ)]),(.bool z3L.2)])),(14,(.tuple #[(.agg #[(.int .i64 z3L.1.fNode),(.int .i64 z3L.1.fNext),(.int .i64 z3L.1.fQ)]),(.bool z3L.2)])),(21,(.agg #[(.int .i64 z3L.1.fNode),(.int .i64 z3L.1.fNext),(.int .i64 z3L.1.fQ)])),(22,(.bool z3L.2)),(5,(.pointer (some ⟨zQV,0,none⟩))),(6,(.bool z3L.2)),(23,(.bool z3L.2)),(24,(.bool (!z3L.2))),(25,(.bool (!z3L.2))),(33,(.bool ((!z3L.2)&&(decide (((nth z24 z2c).fNode)≠((nth z24 0).fNode))))))] (y34 11 [10,9,8,7,6,5,4,3,2,1,0]) ?_ (fun zDP=>?_)))))
   rotate_left
   ·rcases Bool.eq_false_or_eq_true (!z3L.2) with hb' | hb'
    ·have zoj:=hb';clear hb'
     have zQX:=zQW zoj
     refine WD.pin (i:=25) rfl zoj (WD.pA 3 26 rfl (fun _=>ya y55 rfl rfl) (WD.qA 4 27 rfl (yc yt rfl (yk .h1 rfl)) (WD.pA 5 28 rfl (fun _=>q_m rfl) (WD.znth (j:=6) (dd:=29) (by kernel_rfl) rfl z2V z2W rfl rfl (Z:=Z) (Pr:=(fun r x=>r=e62 x)) y6e rfl rfl zvO zQX ?_))))
     rintro zZx zZy zQY zZz rfl
     refine WD.pA 7 30 rfl (fun _=>ya y55 rfl rfl) (WD.qA 8 31 rfl (yc yt rfl (y1l hz.pv zQY rfl)) (WD.pA 9 32 rfl (fun _=>q_neq rfl rfl) (WD.pA 10 33 rfl (fun _=>y3M rfl rfl) (WD.reL (.s2 .here .here) ?_ zDP))))
     exact(.cons rfl (.cons rfl (.cons rfl (.cons rfl (.cons rfl (.cons rfl (.cons rfl (.cons rfl (.cons rfl (.cons rfl (.cons rfl (.cons rfl (.cons rfl (.cons rfl (.cons rfl (.cons rfl (.cons rfl (.cons rfl (.cons rfl (.cons rfl (.cons rfl (.cons rfl (.cons rfl (.cons (zN (Eq.symm zoj)) (.cons (zN (y2A zoj)) .nil)))))))))))))))))))))))))
    ·have zvQ:=hb';clear hb'
     refine WD.pin (i:=25) rfl zvQ (WD.kA 3 26 rfl (WD.kA 4 27 rfl (WD.kA 5 28 rfl (WD.kA 6 29 rfl (WD.kA 7 30 rfl (WD.kA 8 31 rfl (WD.kA 9 32 rfl (WD.pA 10 33 rfl (fun _=>y3N rfl rfl) (WD.reL (.s2 .here .here) ?_ zDP)))))))))
     exact(.cons rfl (.cons rfl (.cons rfl (.cons rfl (.cons rfl (.cons rfl (.cons rfl (.cons rfl (.cons rfl (.cons rfl (.cons rfl (.cons rfl (.cons rfl (.cons rfl (.cons rfl (.cons rfl (.cons rfl (.cons rfl (.cons rfl (.cons rfl (.cons rfl (.cons rfl (.cons rfl (.cons (zN (Eq.symm zvQ)) (.cons (zN (y2z zvQ)) .nil)))))))))))))))))))))))))
   refine WD.done (by kernel_rfl) (WX.a (WC.cond rfl (fun zvR=>?_) (fun zvR=>?_)))
   ·replace h:=yp h zvR
    refine WC.b (WC.a (WL.pu rfl (WL.nil (WX.a (WC.ret (WX.ys (WX.ye (WX.ye (WX.ys (WX.ye ?_))))))))))
    obtain rfl:=oJ h
    refine WX.yf Tryz.results52 (.tmp rfl .nil) (fun w hw=>?_)
    exact⟨yD rfl,hw.sub .nil⟩
   ·replace h:=yq h zvR
    refine WC.skip (WX.yn (WX.a (WC.a (WL.pu rfl (WL.pu rfl (WL.nil ?_))))))
    exact WX.round ⟨zvN,(i64 (z2c+1))⟩ h (Nat.lt_succ_self _) (.r4 rfl rfl rfl rfl) .nil
  ·replace h:=yq h zvP
   refine WC.exit (WX.yg (WX.yg (WX.yz ?_)))
   exact WX.mid () h .nil .nil
 ·rintro  h
  replace h:=zQM.symm.trans h
  refine WC.b (WC.a (WL.pu rfl (WL.nil (WX.a (WC.ret ?_)))))
  obtain rfl:=oJ h
  refine WX.yf Tryz.results52 (.tmp rfl .nil) (fun w hw=>?_)
  exact⟨yD rfl,hw.sub .nil⟩
def y3X(zlw:List zd):Option Bool:=
 (y6P zlw).bind fun zDQ=>some (!zDQ)
theorem ye0(Z:Zp)(zDR:Option Addr)(zDS:Nat)(zlw:List zd)(r:Bool)(h:y3X zlw=some r)(w₀:World)(hz:PZ [] w₀ Z)(zQZ:ZS Z 3 (fun r x=>r=e62 x) zDR zDS zlw):
  Calls Tryz.prog 51 #[(.slice zDR zlw.length zDS)] w₀ fun e w'=>e = .returned (.bool r)∧Hp [] w₀ w' []:=by
 unfold y3X at h
 refine Calls.on1 Tryz.func51 Tryz.ntmps51 ?_
 refine WC.b (WC.a (WL.pu rfl (WL.nil (WX.a (WC.b ?_)))))
 obtain⟨zDQ,zR0,h⟩:=z8 h
 refine WC.a (WL.pu rfl (WL.cA 4 (zb Tryz.call52 (.cons rfl .nil)) .nil (cc hz .nil fun w pz ho=>yfk _ _ _ _ _ zR0 w pz zQZ) (WL.pu rfl (WL.pu rfl (WL.nil (WX.a (WC.ret ?_)))))))
 obtain rfl:=oJ h
 refine WX.yf Tryz.results51 (.tmp rfl .nil) (fun w hw=>?_)
 exact⟨yD rfl,hw.sub .nil⟩
def y2H(zbx:zl)(zby:zl):Option Int:=
 some (i64 (zbx.fNode-zby.fNode))
theorem ye1(Z:Zp)(zbx:zl)(zby:zl)(r:Int)(h:y2H zbx zby=some r)(w₀:World)(hz:PZ [] w₀ Z):
  Calls Tryz.prog 54 #[(.agg #[(.int .i64 zbx.fVL),(.int .i64 zbx.fNode),(.int .i64 zbx.fDelay)]),(.agg #[(.int .i64 zby.fVL),(.int .i64 zby.fNode),(.int .i64 zby.fDelay)])] w₀ fun e w'=>e = .returned (.int .i64 r)∧Hp [] w₀ w' []:=by
 unfold y2H at h
 refine Calls.yK Tryz.func54 Tryz.ntmps54 ?_
 refine WC.b (WC.a (WL.nA 2 (yI (cs:=[(.int .i64 zbx.fVL),(.int .i64 zbx.fNode),(.int .i64 zbx.fDelay)]) rfl rfl) ?_))
 intro zZA _
 refine WL.nA 3 (yI (cs:=[(.int .i64 zby.fVL),(.int .i64 zby.fNode),(.int .i64 zby.fDelay)]) rfl rfl) ?_
 intro zZB _
 refine WL.pu rfl (WL.nil (WX.a (WC.b (WC.a (WL.qA 5 (ya ycc rfl rfl) (WL.qA 6 (yc yt rfl (yk .h1 rfl)) (WL.qA 7 (ya ycc rfl rfl) (WL.qA 8 (yc yt rfl (yk .here rfl)) (WL.pu rfl (WL.pu rfl (WL.nil (WX.a (WC.ret ?_)))))))))))))
 obtain rfl:=oJ h
 refine WX.yf Tryz.results54 (.tmp rfl .nil) (fun w hw=>?_)
 exact⟨yD rfl,hw.sub .nil⟩
end Go.Proofs.YtcahmabkeaijdaaGreat
