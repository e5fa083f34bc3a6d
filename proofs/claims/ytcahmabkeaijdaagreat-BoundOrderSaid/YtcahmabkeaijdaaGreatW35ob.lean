/- A part of this claim's proof: models of functions, walks, plain laws. No conditions. -/
import Derived.Test.YtcahmabkeaijdaaGreatW35oa
namespace Go.Proofs.YtcahmabkeaijdaaGreat
open Go Go.RowKit Sep
set_option linter.all false
set_option maxRecDepth 30000
set_option maxHeartbeats 4000000
def y5j (z9L : Sapi_Hop) (zmF : Int) : Option Bool :=
 some (decide (z9L.fNext = zmF))
set_option maxRecDepth 20000 in
theorem ybQ (Z : Zp) (zzL : Addr) (z9L : Sapi_Hop) (zmF : Int) (r : Bool)
  (h : y5j z9L zmF = some r) (w₀ : World) (hz : PZ [] w₀ Z)
  (zIl : ZC Z zzL [(.int .i64 zmF)]) :
  Calls Tryz.prog 66 #[(.agg #[(.int .i64 z9L.fNode),(.int .i64 z9L.fNext),(.int .i64 z9L.fLink)]),(.pointer (some zzL))] w₀ fun e w'=>e = .returned (.bool r) ∧ Hp [] w₀ w' []:=by
 unfold y5j at h
 refine Calls.yJ Tryz.func66 Tryz.ntmps66 ?_
 refine WC.b (WC.a ?_)
 refine WL.nA 2 (yH (cs:=[(.int .i64 z9L.fNode),(.int .i64 z9L.fNext),(.int .i64 z9L.fLink)]) rfl rfl) ?_
 intro zVA _
 refine WL.pu rfl (WL.nil (WX.a (WC.b (WC.a ?_))))
 refine WL.qA 4 (ya y4h rfl rfl) ?_
 refine WL.qA 5 (yc yt rfl (yk .here rfl)) ?_
 refine WL.qA 6 (yc yt rfl (y48 hz.pv zIl rfl)) ?_
 refine WL.pu rfl (WL.pu rfl (WL.nil (WX.a (WC.ret ?_))))
 obtain rfl:=Option.some.inj h
 refine WX.ye Tryz.results66 (.tmp rfl .nil) (fun w hw=>?_)
 exact ⟨yD rfl,hw.sub .nil⟩
def yR (z3w : List Sapi_Hop) (z72 : Sapi_Hop → Option Bool) (z9M : Option Int) : Nat → Int → Option Int
 | 0,_=>none
 | zrD + 1,z3d=>if decide (z3d < ((z3w.length : Nat) : Int)) then chk ((0 : Int) ≤ z3d ∧ z3d < ((z3w.length : Nat) : Int)) ((z72 (⟨((nth z3w z3d).fNode),((nth z3w z3d).fNext),((nth z3w z3d).fLink)⟩ : Sapi_Hop)).bind fun zrE=>if zrE then some z3d else yR z3w z72 z9M zrD (i64 (z3d + 1))) else z9M
theorem y52 {n : Nat} {z3w : List Sapi_Hop} {z72 : Sapi_Hop → Option Bool} {z9M : Option Int} {z3d : Int} {r : Int} (h : yR z3w z72 z9M n z3d = some r) : ∃ m,n = m + 1:=by
 cases n with
 | zero=>cases h
 | succ m=>exact ⟨m,rfl⟩
def yW (z3w : List Sapi_Hop) (z72 : Sapi_Hop → Option Bool) : Option Int :=
 jp0 (some (-1)) fun z9M=>yR z3w z72 z9M yB 0
set_option maxRecDepth 20000 in
theorem y3K (Z : Zp) (zrF : Option Addr) (zrG : Nat) (zc5 : FuncId) (zgf : List Value) (z3w : List Sapi_Hop) (z72 : Sapi_Hop → Option Bool) (r : Int)
  (h : yW z3w z72 = some r) (w₀ : World) (hz : PZ [] w₀ Z)
  (zIm : ZS Z 3 (fun r x=>r = e62 x) zrF zrG z3w)
  (zIn : ∀ args w,(callFunc zc5 args).run Tryz.prog w = .ok (.enter zc5 args) w)
  (zIo : ∀ w : World,PZ [] w Z → ∀ (x0 : Sapi_Hop) (r : Bool),z72 x0 = some r → Calls Tryz.prog zc5 (([(.agg #[(.int .i64 x0.fNode),(.int .i64 x0.fNext),(.int .i64 x0.fLink)])] : List Value) ++ zgf).toArray w fun e w'=>e = .returned (.bool r) ∧ Hp [] w w' []) :
  Calls Tryz.prog 65 #[(.slice zrF z3w.length zrG),(.func (.func zc5) #[] (zgf).toArray)] w₀ fun e w'=>e = .returned (.int .i64 r) ∧ Hp [] w₀ w' []:=by
 unfold yW at h
 refine Calls.yJ Tryz.func65 Tryz.ntmps65 ?_
 refine WC.b (WC.a (WL.pu rfl (WL.nil (WX.a ?_))))
 obtain ⟨z9M,zIp,h⟩:=y1u h
 refine WC.y1g ((z9M = some r)) ([]) ([]) ?_ ?_
 ·skip
  refine WC.b (WC.a (WL.pu rfl ?_))
  refine WL.qA 7 (yE Tryz.underlying48 rfl) ?_
  refine WL.pu rfl (WL.nil (WX.a (WC.block ?_)))
  refine WC.y1S (fun (zgg : Nat) (z3d : Int)=>(yR z3w z72 z9M zgg z3d = some r)) (fun zgg z3d=>[(0,(.slice zrF z3w.length zrG)),(1,(.func (.func zc5) #[] (zgf).toArray)),(7,(.int .i64 ((z3w.length : Nat) : Int))),(8,(.int .i64 z3d))]) (fun zgg z3d=>[]) (fun zgg z3d=>zgg) ⟨yB,0⟩ h (.cons rfl (.cons rfl (.cons rfl (.cons rfl .nil)))) .nil ?_
  rintro zgg z3d h
  obtain ⟨zrD,rfl⟩:=y52 h
  rw [yR] at h
  refine WC.b (WC.a (WL.pu rfl (WL.nil (WX.a (WC.b ?_)))))
  refine WC.cond rfl (fun zrH=>?_) (fun zrH=>?_)
  ·replace h:=yn h zrH
   refine WC.skip (WX.a (WC.b (WC.block (WC.b (WC.a (WL.pu rfl (WL.pu rfl (WL.nil (WX.a (WC.b ?_))))))))))
   obtain ⟨zIq,h⟩:=yq h
   obtain ⟨zrE,zIr,h⟩:=z7 h
   refine WC.a (WL.pu rfl (WL.pu rfl (WL.pu rfl ?_)))
   refine WL.znth (dd:=14) rfl rfl (Z:=Z) (Pr:=(fun r x=>r = e62 x)) y3J rfl rfl zIm zIq ?_
   rintro zVB zVC zIs zVD rfl
   refine WL.qA 15 (yg y2g rfl (y1A hz.pv zIs) rfl) ?_
   refine WL.cA 16 (y27 (l:=[.tmp 15]) (f:=zc5) (caps:=zgf) zIn rfl (.cons rfl .nil)) .nil (fun w hw=>zIo w (hz.now hw) (⟨((nth z3w z3d).fNode),((nth z3w z3d).fNext),((nth z3w z3d).fLink)⟩ : Sapi_Hop) zrE  zIr) ?_
   refine WL.nil (WX.a ?_)
   refine WC.cond rfl (fun zrI=>?_) (fun zrI=>?_)
   ·replace h:=yn h zrI
    refine WC.b (WC.a (WL.pu rfl (WL.pu rfl (WL.nil (WX.a (WC.ret (WX.ys (WX.yd (WX.yd (WX.ys (WX.yd ?_)))))))))))
    obtain rfl:=Option.some.inj h
    refine WX.ye Tryz.results65 (.tmp rfl .nil) (fun w hw=>?_)
    exact ⟨yD rfl,hw.sub .nil⟩
   ·replace h:=yo h zrI
    refine WC.skip (WX.yj (WX.a (WC.a (WL.pu rfl (WL.pu rfl (WL.nil ?_))))))
    exact WX.round (G:=Nat × Int) ⟨zrD,(i64 (z3d + 1))⟩ h (Nat.lt_succ_self _) (.cons rfl (.cons rfl (.cons rfl (.cons rfl .nil)))) .nil
  ·replace h:=yo h zrH
   refine WC.exit (WX.yf (WX.yf (WX.yz ?_)))
   exact WX.mid (G:=Unit) () h .nil .nil
 ·rintro  h
  replace h:=zIp.symm.trans h
  refine WC.b (WC.a (WL.pu rfl (WL.nil (WX.a (WC.ret ?_)))))
  obtain rfl:=Option.some.inj h
  refine WX.ye Tryz.results65 (.tmp rfl .nil) (fun w hw=>?_)
  exact ⟨yD rfl,hw.sub .nil⟩
def y4o (z9N : List Sapi_Hop) (zgh : Int) : Option (Sapi_Hop × Bool) :=
 (yW z9N (fun (y0 : Sapi_Hop)=>y5j y0 zgh)).bind fun zee=>if decide (zee < 0) then some ((⟨0,0,0⟩ : Sapi_Hop),false) else chk ((0 : Int) ≤ zee ∧ zee < ((z9N.length : Nat) : Int)) (some ((⟨((nth z9N zee).fNode),((nth z9N zee).fNext),((nth z9N zee).fLink)⟩ : Sapi_Hop),true))
set_option maxRecDepth 20000 in
theorem y8w (Z : Zp) (zzM : Option Addr) (zzN : Nat) (z9N : List Sapi_Hop) (zgh : Int) (r : Sapi_Hop × Bool)
  (h : y4o z9N zgh = some r) (w₀ : World) (hz : PZ [] w₀ Z)
  (zzO : ZS Z 3 (fun r x=>r = e62 x) zzM zzN z9N) :
  Calls Tryz.prog 39 #[(.slice zzM z9N.length zzN),(.int .i64 zgh)] w₀ fun e w'=>e = .returned (.tuple #[(.agg #[(.int .i64 r.1.fNode),(.int .i64 r.1.fNext),(.int .i64 r.1.fLink)]),(.bool r.2)]) ∧ Hp [] w₀ w' []:=by
 unfold y4o at h
 refine Calls.yJ Tryz.func39 Tryz.ntmps39 ?_
 refine WC.b (WC.a ?_)
 refine WL.nA 3 (yH (cs:=[(.int .i64 zgh)]) rfl rfl) ?_
 intro zIt _
 refine WL.nA 4 (yv (cs:=[(.int .i64 0),(.int .i64 0),(.int .i64 0)]) y3E rfl) ?_
 intro zVE _
 refine WL.pu rfl (WL.nil (WX.a (WC.b ?_)))
 obtain ⟨zee,zIu,h⟩:=z7 h
 refine WC.a (WL.pu rfl ?_)
 refine WL.qA 8 (yX (Eos.caps (l:=[.tmp 3]) (.cons rfl .nil))) ?_
 refine WL.cA 9 (za (l:=[.tmp 7,.tmp 8]) Tryz.call65 (.cons rfl (.cons rfl .nil))) .nil (ccl hz .nil (.cons .h1 .nil) fun w pz ho la=>y3K _ _ _ (zc5:=66) (zgf:=[(.pointer (some ⟨zIt,0,none⟩))]) _ (z72:=(fun (y0 : Sapi_Hop)=>y5j y0 zgh)) _ zIu w pz (zzO.mono (Zle.left _ _)) Tryz.call66 (fun w' hz' y0  r  hr=>ybQ _ _ _ _ _ hr w' hz' ((la _ (.head _) _).stb))) ?_
 refine WL.pu rfl (WL.nil (WX.a (WC.b (WC.b (WC.a (WL.pu rfl (WL.pu rfl (WL.nil (WX.a ?_)))))))))
 refine WC.cond rfl (fun zrJ=>?_) (fun zrJ=>?_)
 ·replace h:=yn h zrJ
  refine WC.b (WC.a ?_)
  refine WL.qA 12 (yI (v:=(.agg #[(.int .i64 0),(.int .i64 0),(.int .i64 0)])) (Eos.parts (l:=[]) .nil []) (fun _=>by kernel_rfl)) ?_
  refine WL.ym rfl rfl (yl y3Q rfl rfl rfl .here rfl rfl rfl) ?_
  refine WL.pu rfl (WL.nil (WX.a (WC.ret (WX.yd ?_))))
  obtain rfl:=Option.some.inj h
  refine WX.ye Tryz.results39 (.agg rfl y2g rfl (yh .here) (.tmp rfl .nil)) (fun w hw=>?_)
  exact ⟨y1z rfl rfl,hw.sub .nil⟩
 ·replace h:=yo h zrJ
  refine WC.skip (WX.a (WC.b ?_))
  obtain ⟨zIv,h⟩:=yq h
  refine WC.a (WL.pu rfl (WL.pu rfl ?_))
  refine WL.znth (dd:=15) rfl rfl (Z:=Z) (Pr:=(fun r x=>r = e62 x)) y3J rfl rfl zzO zIv ?_
  rintro zVF zVG zIw zVH rfl
  refine WL.qA 16 (yg y2g rfl (y1A hz.pv zIw) rfl) ?_
  refine WL.ym rfl rfl (yl y3Q rfl rfl rfl .here rfl rfl rfl) ?_
  refine WL.pu rfl (WL.nil (WX.a (WC.ret ?_)))
  obtain rfl:=Option.some.inj h
  refine WX.ye Tryz.results39 (.agg rfl y2g rfl (yh .here) (.tmp rfl .nil)) (fun w hw=>?_)
  exact ⟨y1z rfl rfl,hw.sub .nil⟩
def y42 (z2v : Sapi_Hop) (zef : List Sapi_Hop) (z3L : Sbound_place) (zc6 : List (Sbound_place × Int)) : Option Bool :=
 (y4o zef z2v.fNode).bind fun z1F=>(y3o z2v).bind fun z56=>(if (decide (z56 = z3L)) && z1F.2 then (y3o z1F.1).bind fun zrK=>some (decide ((yp zc6 zrK 0) = 0)) else some false).bind fun zrL=>some zrL
set_option maxRecDepth 20000 in
theorem yaR (Z : Zp) (zmG : Addr) (zmH : Option Addr) (zmI : Nat) (zmJ : Addr) (zmK : Addr) (zgi : Nat) (z2v : Sapi_Hop) (zef : List Sapi_Hop) (z3L : Sbound_place) (zc6 : List (Sbound_place × Int)) (r : Bool)
  (h : y42 z2v zef z3L zc6 = some r) (w₀ : World) (hz : PZ (fps [yr zgi (fun x=>Value.agg (e97 x).toArray) (Value.int .i64) zc6]) w₀ Z)
  (zIx : ZS Z 3 (fun r x=>r = e62 x) zmH zmI zef)
  (zIy : ZC Z zmG [(.slice zmH zef.length zmI)])
  (zIz : ZC Z zmJ [(.int .i64 z3L.fNode),(.int .i64 z3L.fLink)])
  (zIA : ZC Z zmK [(.map (some zgi))])
  (hown : Hp (fps [yr zgi (fun x=>Value.agg (e97 x).toArray) (Value.int .i64) zc6]) w₀ w₀ [yr zgi (fun x=>Value.agg (e97 x).toArray) (Value.int .i64) zc6]) :
  Calls Tryz.prog 38 #[(.agg #[(.int .i64 z2v.fNode),(.int .i64 z2v.fNext),(.int .i64 z2v.fLink)]),(.pointer (some zmG)),(.pointer (some zmJ)),(.pointer (some zmK))] w₀ fun e w'=>e = .returned (.bool r) ∧ Hp (fps [yr zgi (fun x=>Value.agg (e97 x).toArray) (Value.int .i64) zc6]) w₀ w' [yr zgi (fun x=>Value.agg (e97 x).toArray) (Value.int .i64) zc6]:=by
 unfold y42 at h
 refine Calls.oh4 Tryz.func38 Tryz.ntmps38 hown ?_
 refine WC.b (WC.a ?_)
 refine WL.nA 4 (yH (cs:=[(.int .i64 z2v.fNode),(.int .i64 z2v.fNext),(.int .i64 z2v.fLink)]) rfl rfl) ?_
 intro zmL _
 refine WL.pu rfl (WL.nil (WX.a (WC.b ?_)))
 obtain ⟨z1F,zIB,h⟩:=z7 h
 refine WC.a ?_
 refine WL.qA 9 (yc y5e rfl (y48 hz.pv zIy rfl)) ?_
 refine WL.qA 10 (ya y2C rfl rfl) ?_
 refine WL.qA 11 (yc yt rfl (yk .here rfl)) ?_
 refine WL.cA 12 (za (l:=[.tmp 9,.tmp 11]) Tryz.call39 (.cons rfl (.cons rfl .nil))) .nil (cc hz .nil fun w pz ho=>y8w _ _ _ _ _ _ zIB w pz zIx) ?_
 refine WL.pu rfl (WL.pu rfl (WL.pu rfl ?_))
 refine WL.nA 6 (yv (cs:=[(.int .i64 0),(.int .i64 0),(.int .i64 0)]) y3E rfl) ?_
 intro zzP _
 refine WL.ym rfl rfl (yl y3Q rfl rfl rfl .here rfl rfl rfl) ?_
 refine WL.pu rfl (WL.nil (WX.a (WC.b ?_)))
 obtain ⟨z56,zIC,h⟩:=z7 h
 obtain ⟨zrL,zzQ,h⟩:=z7 h
 refine WC.yL (fun i=>[].contains i) [] rfl ?_
 refine WD.qA 0 15 rfl (yg y2g rfl (yh .h1) rfl) ?_
 refine WD.eA 1 16 rfl (za (l:=[.tmp 15]) Tryz.call40 (.cons rfl .nil)) (cc hz .nil fun w pz ho=>y4K _ _ _ zIC w pz ) ?_
 refine WD.qA 2 17 rfl (yg y3f rfl (y1A hz.pv zIz) rfl) ?_
 refine WD.pA 3 18 rfl (fun _=>y6T (enc:=e97) (a:=z56) (b:=z3L) ybr rfl rfl) ?_
 refine WD.pA 4 19 rfl (fun _=>q_m rfl) ?_
 refine WD.mid (fuel':=8) [(0,(.agg #[(.int .i64 z2v.fNode),(.int .i64 z2v.fNext),(.int .i64 z2v.fLink)])),(1,(.pointer (some zmG))),(2,(.pointer (some zmJ))),(3,(.pointer (some zmK))),(4,(.pointer (some ⟨zmL,0,none⟩))),(5,(.bool false)),(9,(.slice zmH zef.length zmI)),(10,(.pointer (some ⟨zmL,0,none⟩))),(11,(.int .i64 z2v.fNode)),(12,(.tuple #[(.agg #[(.int .i64 z1F.1.fNode),(.int .i64 z1F.1.fNext),(.int .i64 z1F.1.fLink)]),(.bool z1F.2)])),(8,(.tuple #[(.agg #[(.int .i64 z1F.1.fNode),(.int .i64 z1F.1.fNext),(.int .i64 z1F.1.fLink)]),(.bool z1F.2)])),(13,(.agg #[(.int .i64 z1F.1.fNode),(.int .i64 z1F.1.fNext),(.int .i64 z1F.1.fLink)])),(14,(.bool z1F.2)),(6,(.pointer (some ⟨zzP,0,none⟩))),(7,(.bool z1F.2)),(15,(.agg #[(.int .i64 z2v.fNode),(.int .i64 z2v.fNext),(.int .i64 z2v.fLink)])),(16,(.agg #[(.int .i64 z56.fNode),(.int .i64 z56.fLink)])),(17,(.agg #[(.int .i64 z3L.fNode),(.int .i64 z3L.fLink)])),(18,(.bool (decide (z56 = z3L)))),(19,(.bool (decide (z56 = z3L)))),(21,(.bool ((decide (z56 = z3L)) && z1F.2)))] (y29 15 [6,5,4,3,2,1,0]) ?_ (fun zzR=>?_)
 rotate_left
 ·rcases Bool.eq_false_or_eq_true (decide (z56 = z3L)) with hb' | hb'
  ·have zrM:=hb'; clear hb'
   refine WD.pin (i:=19) rfl zrM ?_
   refine WD.pA 5 20 rfl (fun _=>q_m rfl) ?_
   refine WD.pA 6 21 rfl (fun _=>y2y rfl rfl) ?_
   refine WD.reL (.cons .here (.cons .here (.cons .here .nil))) ?_ zzR
   exact (.cons rfl (.cons rfl (.cons rfl (.cons rfl (.cons rfl (.cons rfl (.cons rfl (.cons rfl (.cons rfl (.cons rfl (.cons rfl (.cons rfl (.cons rfl (.cons rfl (.cons rfl (.cons rfl (.cons rfl (.cons rfl (.cons rfl (.cons (zx (Eq.symm zrM)) (.cons (zx (y2c zrM)) .nil)))))))))))))))))))))
  ·have zrN:=hb'; clear hb'
   refine WD.pin (i:=19) rfl zrN ?_
   refine WD.kA 5 20 rfl ?_
   refine WD.pA 6 21 rfl (fun _=>y2z rfl rfl) ?_
   refine WD.reL (.cons .here (.cons .here (.cons .here .nil))) ?_ zzR
   exact (.cons rfl (.cons rfl (.cons rfl (.cons rfl (.cons rfl (.cons rfl (.cons rfl (.cons rfl (.cons rfl (.cons rfl (.cons rfl (.cons rfl (.cons rfl (.cons rfl (.cons rfl (.cons rfl (.cons rfl (.cons rfl (.cons rfl (.cons (zx (Eq.symm zrN)) (.cons (zx (y2b zrN)) .nil)))))))))))))))))))))
 refine WD.pA 7 22 rfl (fun _=>q_m rfl) ?_
 refine WD.mid (fuel':=1) [(0,(.agg #[(.int .i64 z2v.fNode),(.int .i64 z2v.fNext),(.int .i64 z2v.fLink)])),(1,(.pointer (some zmG))),(2,(.pointer (some zmJ))),(3,(.pointer (some zmK))),(4,(.pointer (some ⟨zmL,0,none⟩))),(5,(.bool false)),(9,(.slice zmH zef.length zmI)),(10,(.pointer (some ⟨zmL,0,none⟩))),(11,(.int .i64 z2v.fNode)),(12,(.tuple #[(.agg #[(.int .i64 z1F.1.fNode),(.int .i64 z1F.1.fNext),(.int .i64 z1F.1.fLink)]),(.bool z1F.2)])),(8,(.tuple #[(.agg #[(.int .i64 z1F.1.fNode),(.int .i64 z1F.1.fNext),(.int .i64 z1F.1.fLink)]),(.bool z1F.2)])),(13,(.agg #[(.int .i64 z1F.1.fNode),(.int .i64 z1F.1.fNext),(.int .i64 z1F.1.fLink)])),(14,(.bool z1F.2)),(6,(.pointer (some ⟨zzP,0,none⟩))),(7,(.bool z1F.2)),(15,(.agg #[(.int .i64 z2v.fNode),(.int .i64 z2v.fNext),(.int .i64 z2v.fLink)])),(16,(.agg #[(.int .i64 z56.fNode),(.int .i64 z56.fLink)])),(17,(.agg #[(.int .i64 z3L.fNode),(.int .i64 z3L.fLink)])),(18,(.bool (decide (z56 = z3L)))),(19,(.bool (decide (z56 = z3L)))),(21,(.bool ((decide (z56 = z3L)) && z1F.2))),(22,(.bool ((decide (z56 = z3L)) && z1F.2))),(28,(.bool zrL))] (y29 15 [13,12,11,10,9,8,7,6,5,4,3,2,1,0]) ?_ (fun zzS=>?_)
 rotate_left
 ·rcases Bool.eq_false_or_eq_true ((decide (z56 = z3L)) && z1F.2) with hb' | hb'
  ·have zrO:=hb'; clear hb'
   have zjL:=yn zzQ zrO
   obtain ⟨zrK,zID,zjL⟩:=z7 zjL
   replace zjL:=Option.some.inj zjL
   refine WD.pin (i:=22) rfl zrO ?_
   refine WD.qA 8 23 rfl (yc y9f rfl (y48 hz.pv zIA rfl)) ?_
   refine WD.qA 9 24 rfl (yg y2g rfl (yh .here) rfl) ?_
   refine WD.eA 10 25 rfl (za (l:=[.tmp 24]) Tryz.call40 (.cons rfl .nil)) (cc hz .nil fun w pz ho=>y4K _ _ _ zID w pz ) ?_
   refine WD.qA 11 26 rfl (y1J (k:=zrK) (dflt:=(0 : Int)) y76 Tryz.underlying93 y2D rfl rfl rfl .h2) ?_
   refine WD.pA 12 27 rfl (fun _=>y8e rfl rfl) ?_
   refine WD.pA 13 28 rfl (fun _=>y2y rfl rfl) ?_
   refine WD.reL (.cons .here (.cons .here (.cons .here .nil))) ?_ zzS
   exact (.cons rfl (.cons rfl (.cons rfl (.cons rfl (.cons rfl (.cons rfl (.cons rfl (.cons rfl (.cons rfl (.cons rfl (.cons rfl (.cons rfl (.cons rfl (.cons rfl (.cons rfl (.cons rfl (.cons rfl (.cons rfl (.cons rfl (.cons rfl (.cons rfl (.cons (zx (Eq.symm zrO)) (.cons (zx zjL) .nil)))))))))))))))))))))))
  ·have zrP:=hb'; clear hb'
   have zrQ:=yo zzQ zrP
   replace zrQ:=Option.some.inj zrQ
   refine WD.pin (i:=22) rfl zrP ?_
   refine WD.kA 8 23 rfl ?_
   refine WD.kA 9 24 rfl ?_
   refine WD.kA 10 25 rfl ?_
   refine WD.kA 11 26 rfl ?_
   refine WD.kA 12 27 rfl ?_
   refine WD.pA 13 28 rfl (fun _=>y2z rfl rfl) ?_
   refine WD.reL (.cons .here (.cons .here (.cons .here .nil))) ?_ zzS
   exact (.cons rfl (.cons rfl (.cons rfl (.cons rfl (.cons rfl (.cons rfl (.cons rfl (.cons rfl (.cons rfl (.cons rfl (.cons rfl (.cons rfl (.cons rfl (.cons rfl (.cons rfl (.cons rfl (.cons rfl (.cons rfl (.cons rfl (.cons rfl (.cons rfl (.cons (zx (Eq.symm zrP)) (.cons (zx zrQ) .nil)))))))))))))))))))))))
 refine WD.pA 14 5 rfl (fun _=>q_z rfl) ?_
 refine WD.done (by kernel_rfl) ?_
 refine WX.a (WC.ret ?_)
 obtain rfl:=Option.some.inj h
 refine WX.ye Tryz.results38 (.tmp rfl .nil) (fun w hw=>?_)
 exact ⟨yD rfl,hw.sub (.cons .h2 .nil)⟩
def yP (z4u : List Sapi_Hop) (z7S : List Sapi_Hop) (z7T : Sbound_place) (z57 : List (Sbound_place × Int)) (z9O : Option Int) : Nat → Int → Option Int
 | 0,_=>none
 | zrR + 1,z44=>if decide (z44 < ((z4u.length : Nat) : Int)) then chk ((0 : Int) ≤ z44 ∧ z44 < ((z4u.length : Nat) : Int)) ((y42 (⟨((nth z4u z44).fNode),((nth z4u z44).fNext),((nth z4u z44).fLink)⟩ : Sapi_Hop) z7S z7T z57).bind fun zzT=>if zzT then some z44 else yP z4u z7S z7T z57 z9O zrR (i64 (z44 + 1))) else z9O
theorem y4M {n : Nat} {z4u : List Sapi_Hop} {z7S : List Sapi_Hop} {z7T : Sbound_place} {z57 : List (Sbound_place × Int)} {z9O : Option Int} {z44 : Int} {r : Int} (h : yP z4u z7S z7T z57 z9O n z44 = some r) : ∃ m,n = m + 1:=by
 cases n with
 | zero=>cases h
 | succ m=>exact ⟨m,rfl⟩
def y1I (z4u : List Sapi_Hop) (z7S : List Sapi_Hop) (z7T : Sbound_place) (z57 : List (Sbound_place × Int)) : Option Int :=
 jp0 (some (-1)) fun z9O=>yP z4u z7S z7T z57 z9O yB 0
set_option maxRecDepth 20000 in
theorem y60 (Z : Zp) (zrS : Option Addr) (zrT : Nat) (zrU : Addr) (zzU : Option Addr) (zzV : Nat) (zrV : Addr) (zrW : Addr) (zc7 : Nat) (z4u : List Sapi_Hop) (z7S : List Sapi_Hop) (z7T : Sbound_place) (z57 : List (Sbound_place × Int)) (r : Int)
  (h : y1I z4u z7S z7T z57 = some r) (w₀ : World) (hz : PZ (fps [yr zc7 (fun x=>Value.agg (e97 x).toArray) (Value.int .i64) z57]) w₀ Z)
  (zIE : ZS Z 3 (fun r x=>r = e62 x) zrS zrT z4u)
  (zIF : ZS Z 3 (fun r x=>r = e62 x) zzU zzV z7S)
  (zIG : ZC Z zrU [(.slice zzU z7S.length zzV)])
  (zIH : ZC Z zrV [(.int .i64 z7T.fNode),(.int .i64 z7T.fLink)])
  (zII : ZC Z zrW [(.map (some zc7))])
  (hown : Hp (fps [yr zc7 (fun x=>Value.agg (e97 x).toArray) (Value.int .i64) z57]) w₀ w₀ [yr zc7 (fun x=>Value.agg (e97 x).toArray) (Value.int .i64) z57]) :
  Calls Tryz.prog 65 #[(.slice zrS z4u.length zrT),(.func (.func 38) #[] #[(.pointer (some zrU)),(.pointer (some zrV)),(.pointer (some zrW))])] w₀ fun e w'=>e = .returned (.int .i64 r) ∧ Hp (fps [yr zc7 (fun x=>Value.agg (e97 x).toArray) (Value.int .i64) z57]) w₀ w' [yr zc7 (fun x=>Value.agg (e97 x).toArray) (Value.int .i64) z57]:=by
 unfold y1I at h
 refine Calls.oh2 Tryz.func65 Tryz.ntmps65 hown ?_
 refine WC.b (WC.a (WL.pu rfl (WL.nil (WX.a ?_))))
 obtain ⟨z9O,zIJ,h⟩:=y1u h
 refine WC.y1g ((z9O = some r)) ([]) ([yr zc7 (fun x=>Value.agg (e97 x).toArray) (Value.int .i64) z57]) ?_ ?_
 ·skip
  refine WC.b (WC.a (WL.pu rfl ?_))
  refine WL.qA 7 (yE Tryz.underlying48 rfl) ?_
  refine WL.pu rfl (WL.nil (WX.a (WC.block ?_)))
  refine WC.y1S (fun (zgj : Nat) (z44 : Int)=>(yP z4u z7S z7T z57 z9O zgj z44 = some r)) (fun zgj z44=>[(0,(.slice zrS z4u.length zrT)),(1,(.func (.func 38) #[] #[(.pointer (some zrU)),(.pointer (some zrV)),(.pointer (some zrW))])),(7,(.int .i64 ((z4u.length : Nat) : Int))),(8,(.int .i64 z44))]) (fun zgj z44=>[yr zc7 (fun x=>Value.agg (e97 x).toArray) (Value.int .i64) z57]) (fun zgj z44=>zgj) ⟨yB,0⟩ h (.cons rfl (.cons rfl (.cons rfl (.cons rfl .nil)))) (.cons .here .nil) ?_
  rintro zgj z44 h
  obtain ⟨zrR,rfl⟩:=y4M h
  rw [yP] at h
  refine WC.b (WC.a (WL.pu rfl (WL.nil (WX.a (WC.b ?_)))))
  refine WC.cond rfl (fun zrX=>?_) (fun zrX=>?_)
  ·replace h:=yn h zrX
   refine WC.skip (WX.a (WC.b (WC.block (WC.b (WC.a (WL.pu rfl (WL.pu rfl (WL.nil (WX.a (WC.b ?_))))))))))
   obtain ⟨zIK,h⟩:=yq h
   obtain ⟨zzT,zIL,h⟩:=z7 h
   refine WC.a (WL.pu rfl (WL.pu rfl (WL.pu rfl ?_)))
   refine WL.znth (dd:=14) rfl rfl (Z:=Z) (Pr:=(fun r x=>r = e62 x)) y3J rfl rfl zIE zIK ?_
   rintro zVI zVJ zIM zVK rfl
   refine WL.qA 15 (yg y2g rfl (y1A hz.pv zIM) rfl) ?_
   refine WL.cA 16 (y27 (l:=[.tmp 15]) Tryz.call38 rfl (.cons rfl .nil)) (.cons .here .nil) (cc hz (.cons .here .nil) fun w pz ho=>yaR _ _ _ _ _ _ _ _ _ _ _ _ zIL w pz zIF zIG zIH zII ho) ?_
   refine WL.nil (WX.a ?_)
   refine WC.cond rfl (fun zrY=>?_) (fun zrY=>?_)
   ·replace h:=yn h zrY
    refine WC.b (WC.a (WL.pu rfl (WL.pu rfl (WL.nil (WX.a (WC.ret (WX.ys (WX.yd (WX.yd (WX.ys (WX.yd ?_)))))))))))
    obtain rfl:=Option.some.inj h
    refine WX.ye Tryz.results65 (.tmp rfl .nil) (fun w hw=>?_)
    exact ⟨yD rfl,hw.sub (.cons .here .nil)⟩
   ·replace h:=yo h zrY
    refine WC.skip (WX.yj (WX.a (WC.a (WL.pu rfl (WL.pu rfl (WL.nil ?_))))))
    exact WX.round (G:=Nat × Int) ⟨zrR,(i64 (z44 + 1))⟩ h (Nat.lt_succ_self _) (.cons rfl (.cons rfl (.cons rfl (.cons rfl .nil)))) (.cons .here .nil)
  ·replace h:=yo h zrX
   refine WC.exit (WX.yf (WX.yf (WX.yz ?_)))
   exact WX.mid (G:=Unit) () h .nil (.cons .here .nil)
 ·rintro  h
  replace h:=zIJ.symm.trans h
  refine WC.b (WC.a (WL.pu rfl (WL.nil (WX.a (WC.ret ?_)))))
  obtain rfl:=Option.some.inj h
  refine WX.ye Tryz.results65 (.tmp rfl .nil) (fun w hw=>?_)
  exact ⟨yD rfl,hw.sub (.cons .here .nil)⟩
def y1B (zjM : List Sapi_Hop) (zjN : List Sapi_Hop) (zjO : Sbound_place) (zc8 : List (Sbound_place × Int)) : Option Bool :=
 (y1I zjM zjN zjO zc8).bind fun zzW=>some (decide (zzW ≥ 0))
set_option maxRecDepth 20000 in
theorem y5H (Z : Zp) (zzX : Option Addr) (zzY : Nat) (zzZ : Addr) (zA0 : Option Addr) (zA1 : Nat) (zA2 : Addr) (zA3 : Addr) (zgk : Nat) (zjM : List Sapi_Hop) (zjN : List Sapi_Hop) (zjO : Sbound_place) (zc8 : List (Sbound_place × Int)) (r : Bool)
  (h : y1B zjM zjN zjO zc8 = some r) (w₀ : World) (hz : PZ (fps [yr zgk (fun x=>Value.agg (e97 x).toArray) (Value.int .i64) zc8]) w₀ Z)
  (zIN : ZS Z 3 (fun r x=>r = e62 x) zzX zzY zjM)
  (zIO : ZS Z 3 (fun r x=>r = e62 x) zA0 zA1 zjN)
  (zIP : ZC Z zzZ [(.slice zA0 zjN.length zA1)])
  (zIQ : ZC Z zA2 [(.int .i64 zjO.fNode),(.int .i64 zjO.fLink)])
  (zIR : ZC Z zA3 [(.map (some zgk))])
  (hown : Hp (fps [yr zgk (fun x=>Value.agg (e97 x).toArray) (Value.int .i64) zc8]) w₀ w₀ [yr zgk (fun x=>Value.agg (e97 x).toArray) (Value.int .i64) zc8]) :
  Calls Tryz.prog 37 #[(.slice zzX zjM.length zzY),(.func (.func 38) #[] #[(.pointer (some zzZ)),(.pointer (some zA2)),(.pointer (some zA3))])] w₀ fun e w'=>e = .returned (.bool r) ∧ Hp (fps [yr zgk (fun x=>Value.agg (e97 x).toArray) (Value.int .i64) zc8]) w₀ w' [yr zgk (fun x=>Value.agg (e97 x).toArray) (Value.int .i64) zc8]:=by
 unfold y1B at h
 refine Calls.oh2 Tryz.func37 Tryz.ntmps37 hown ?_
 refine WC.b (WC.a (WL.pu rfl (WL.nil (WX.a (WC.b ?_)))))
 obtain ⟨zzW,zIS,h⟩:=z7 h
 refine WC.a (WL.pu rfl (WL.pu rfl ?_))
 refine WL.cA 7 (za (l:=[.tmp 5,.tmp 6]) Tryz.call65 (.cons rfl (.cons rfl .nil))) (.cons .here .nil) (cc hz (.cons .here .nil) fun w pz ho=>y60 _ _ _ _ _ _ _ _ _ _ _ _ _ _ zIS w pz zIN zIO zIP zIQ zIR ho) ?_
 refine WL.pu rfl (WL.pu rfl (WL.nil (WX.a (WC.ret ?_))))
 obtain rfl:=Option.some.inj h
 refine WX.ye Tryz.results37 (.tmp rfl .nil) (fun w hw=>?_)
 exact ⟨yD rfl,hw.sub (.cons .here .nil)⟩
def y4N (zeg : List Sapi_Hop) (zjP : Sbound_place) (zc9 : List (Sbound_place × Int)) : Option Bool :=
 (y1B zeg zeg zjP zc9).bind fun zA4=>some zA4
set_option maxRecDepth 20000 in
theorem ybv (Z : Zp) (zrZ : Option Addr) (zs0 : Nat) (zA5 : Addr) (zA6 : Addr) (zgl : Nat) (zeg : List Sapi_Hop) (zjP : Sbound_place) (zc9 : List (Sbound_place × Int)) (r : Bool)
  (h : y4N zeg zjP zc9 = some r) (w₀ : World) (hz : PZ (fps [yr zgl (fun x=>Value.agg (e97 x).toArray) (Value.int .i64) zc9]) w₀ Z)
  (zA7 : ZS Z 3 (fun r x=>r = e62 x) zrZ zs0 zeg)
  (zIT : ZC Z zA5 [(.int .i64 zjP.fNode),(.int .i64 zjP.fLink)])
  (zIU : ZC Z zA6 [(.map (some zgl))])
  (hown : Hp (fps [yr zgl (fun x=>Value.agg (e97 x).toArray) (Value.int .i64) zc9]) w₀ w₀ [yr zgl (fun x=>Value.agg (e97 x).toArray) (Value.int .i64) zc9]) :
  Calls Tryz.prog 36 #[(.slice zrZ zeg.length zs0),(.pointer (some zA5)),(.pointer (some zA6))] w₀ fun e w'=>e = .returned (.bool r) ∧ Hp (fps [yr zgl (fun x=>Value.agg (e97 x).toArray) (Value.int .i64) zc9]) w₀ w' [yr zgl (fun x=>Value.agg (e97 x).toArray) (Value.int .i64) zc9]:=by
 unfold y4N at h
 refine Calls.oh3 Tryz.func36 Tryz.ntmps36 hown ?_
 refine WC.b (WC.a ?_)
 refine WL.nA 3 (yH (cs:=[(.slice zrZ zeg.length zs0)]) rfl rfl) ?_
 intro zVL _
 refine WL.pu rfl (WL.nil (WX.a (WC.b ?_)))
 obtain ⟨zA4,zIV,h⟩:=z7 h
 refine WC.a ?_
 refine WL.qA 5 (yc y5e rfl (yk .here rfl)) ?_
 refine WL.qA 6 (yX (Eos.caps (l:=[.tmp 3,.tmp 1,.tmp 2]) (.cons rfl (.cons rfl (.cons rfl .nil))))) ?_
 refine WL.cA 7 (za (l:=[.tmp 5,.tmp 6]) Tryz.call37 (.cons rfl (.cons rfl .nil))) (.cons .h1 .nil) (ccl hz (.cons .h1 .nil) (.cons .here .nil) fun w pz ho la=>y5H _ _ _ _ _ _ _ _ _ _ _ _ _ _ zIV w pz (zA7.mono (Zle.left _ _)) (zA7.mono (Zle.left _ _)) ((la _ (.head _) _).stb) (zIT.mono (Zle.left _ _)) (zIU.mono (Zle.left _ _)) ho) ?_
 refine WL.pu rfl (WL.nil (WX.a (WC.ret ?_)))
 obtain rfl:=Option.some.inj h
 refine WX.ye Tryz.results36 (.tmp rfl .nil) (fun w hw=>?_)
 exact ⟨yD rfl,hw.sub (.cons .here .nil)⟩
def yM (z5t : List (List Sapi_Hop)) (z7U : Sbound_place) (z58 : List (Sbound_place × Int)) (z9P : Option Int) : Nat → Int → Option Int
 | 0,_=>none
 | zs1 + 1,z59=>if decide (z59 < ((z5t.length : Nat) : Int)) then chk ((0 : Int) ≤ z59 ∧ z59 < ((z5t.length : Nat) : Int)) ((y4N (nth z5t z59) z7U z58).bind fun zA8=>if zA8 then some z59 else yM z5t z7U z58 z9P zs1 (i64 (z59 + 1))) else z9P
theorem y4s {n : Nat} {z5t : List (List Sapi_Hop)} {z7U : Sbound_place} {z58 : List (Sbound_place × Int)} {z9P : Option Int} {z59 : Int} {r : Int} (h : yM z5t z7U z58 z9P n z59 = some r) : ∃ m,n = m + 1:=by
 cases n with
 | zero=>cases h
 | succ m=>exact ⟨m,rfl⟩
def y1C (z5t : List (List Sapi_Hop)) (z7U : Sbound_place) (z58 : List (Sbound_place × Int)) : Option Int :=
 jp0 (some (-1)) fun z9P=>yM z5t z7U z58 z9P yB 0
set_option maxRecDepth 20000 in
theorem y5I (Z : Zp) (zs2 : Option Addr) (zs3 : Nat) (zs4 : Addr) (zs5 : Addr) (zca : Nat) (z5t : List (List Sapi_Hop)) (z7U : Sbound_place) (z58 : List (Sbound_place × Int)) (r : Int)
  (h : y1C z5t z7U z58 = some r) (w₀ : World) (hz : PZ (fps [yr zca (fun x=>Value.agg (e97 x).toArray) (Value.int .i64) z58]) w₀ Z)
  (zIW : ZS Z 1 (p48 Z) zs2 zs3 z5t)
  (zIX : ZC Z zs4 [(.int .i64 z7U.fNode),(.int .i64 z7U.fLink)])
  (zIY : ZC Z zs5 [(.map (some zca))])
  (hown : Hp (fps [yr zca (fun x=>Value.agg (e97 x).toArray) (Value.int .i64) z58]) w₀ w₀ [yr zca (fun x=>Value.agg (e97 x).toArray) (Value.int .i64) z58]) :
  Calls Tryz.prog 55 #[(.slice zs2 z5t.length zs3),(.func (.func 36) #[] #[(.pointer (some zs4)),(.pointer (some zs5))])] w₀ fun e w'=>e = .returned (.int .i64 r) ∧ Hp (fps [yr zca (fun x=>Value.agg (e97 x).toArray) (Value.int .i64) z58]) w₀ w' [yr zca (fun x=>Value.agg (e97 x).toArray) (Value.int .i64) z58]:=by
 unfold y1C at h
 refine Calls.oh2 Tryz.func55 Tryz.ntmps55 hown ?_
 refine WC.b (WC.a (WL.pu rfl (WL.nil (WX.a ?_))))
 obtain ⟨z9P,zIZ,h⟩:=y1u h
 refine WC.y1g ((z9P = some r)) ([]) ([yr zca (fun x=>Value.agg (e97 x).toArray) (Value.int .i64) z58]) ?_ ?_
 ·skip
  refine WC.b (WC.a (WL.pu rfl ?_))
  refine WL.qA 7 (yE Tryz.underlying32 rfl) ?_
  refine WL.pu rfl (WL.nil (WX.a (WC.block ?_)))
  refine WC.y1S (fun (zgm : Nat) (z59 : Int)=>(yM z5t z7U z58 z9P zgm z59 = some r)) (fun zgm z59=>[(0,(.slice zs2 z5t.length zs3)),(1,(.func (.func 36) #[] #[(.pointer (some zs4)),(.pointer (some zs5))])),(7,(.int .i64 ((z5t.length : Nat) : Int))),(8,(.int .i64 z59))]) (fun zgm z59=>[yr zca (fun x=>Value.agg (e97 x).toArray) (Value.int .i64) z58]) (fun zgm z59=>zgm) ⟨yB,0⟩ h (.cons rfl (.cons rfl (.cons rfl (.cons rfl .nil)))) (.cons .here .nil) ?_
  rintro zgm z59 h
  obtain ⟨zs1,rfl⟩:=y4s h
  rw [yM] at h
  refine WC.b (WC.a (WL.pu rfl (WL.nil (WX.a (WC.b ?_)))))
  refine WC.cond rfl (fun zs6=>?_) (fun zs6=>?_)
  ·replace h:=yn h zs6
   refine WC.skip (WX.a (WC.b (WC.block (WC.b (WC.a (WL.pu rfl (WL.pu rfl (WL.nil (WX.a (WC.b ?_))))))))))
   obtain ⟨zJ0,h⟩:=yq h
   obtain ⟨zA8,zJ1,h⟩:=z7 h
   refine WC.a (WL.pu rfl (WL.pu rfl (WL.pu rfl ?_)))
   refine WL.znth (dd:=14) rfl rfl (Z:=Z) (Pr:=(p48 Z)) y6L rfl rfl zIW zJ0 ?_
   rintro zVM zVN zJ2 zVO ⟨zVP,zVQ,rfl,zJ3⟩
   refine WL.qA 15 (yc y5e rfl (y48 hz.pv zJ2 rfl)) ?_
   refine WL.cA 16 (y27 (l:=[.tmp 15]) Tryz.call36 rfl (.cons rfl .nil)) (.cons .here .nil) (cc hz (.cons .here .nil) fun w pz ho=>ybv _ _ _ _ _ _ _ _ _ _ zJ1 w pz zJ3 zIX zIY ho) ?_
   refine WL.nil (WX.a ?_)
   refine WC.cond rfl (fun zs7=>?_) (fun zs7=>?_)
   ·replace h:=yn h zs7
    refine WC.b (WC.a (WL.pu rfl (WL.pu rfl (WL.nil (WX.a (WC.ret (WX.ys (WX.yd (WX.yd (WX.ys (WX.yd ?_)))))))))))
    obtain rfl:=Option.some.inj h
    refine WX.ye Tryz.results55 (.tmp rfl .nil) (fun w hw=>?_)
    exact ⟨yD rfl,hw.sub (.cons .here .nil)⟩
   ·replace h:=yo h zs7
    refine WC.skip (WX.yj (WX.a (WC.a (WL.pu rfl (WL.pu rfl (WL.nil ?_))))))
    exact WX.round (G:=Nat × Int) ⟨zs1,(i64 (z59 + 1))⟩ h (Nat.lt_succ_self _) (.cons rfl (.cons rfl (.cons rfl (.cons rfl .nil)))) (.cons .here .nil)
  ·replace h:=yo h zs6
   refine WC.exit (WX.yf (WX.yf (WX.yz ?_)))
   exact WX.mid (G:=Unit) () h .nil (.cons .here .nil)
 ·rintro  h
  replace h:=zIZ.symm.trans h
  refine WC.b (WC.a (WL.pu rfl (WL.nil (WX.a (WC.ret ?_)))))
  obtain rfl:=Option.some.inj h
  refine WX.ye Tryz.results55 (.tmp rfl .nil) (fun w hw=>?_)
  exact ⟨yD rfl,hw.sub (.cons .here .nil)⟩
def y14 (zjQ : List (List Sapi_Hop)) (zjR : Sbound_place) (zcb : List (Sbound_place × Int)) : Option Bool :=
 (y1C zjQ zjR zcb).bind fun zA9=>some (decide (zA9 ≥ 0))
set_option maxRecDepth 20000 in
theorem y5k (Z : Zp) (zAa : Option Addr) (zAb : Nat) (zAc : Addr) (zAd : Addr) (zgn : Nat) (zjQ : List (List Sapi_Hop)) (zjR : Sbound_place) (zcb : List (Sbound_place × Int)) (r : Bool)
  (h : y14 zjQ zjR zcb = some r) (w₀ : World) (hz : PZ (fps [yr zgn (fun x=>Value.agg (e97 x).toArray) (Value.int .i64) zcb]) w₀ Z)
  (zJ4 : ZS Z 1 (p48 Z) zAa zAb zjQ)
  (zJ5 : ZC Z zAc [(.int .i64 zjR.fNode),(.int .i64 zjR.fLink)])
  (zJ6 : ZC Z zAd [(.map (some zgn))])
  (hown : Hp (fps [yr zgn (fun x=>Value.agg (e97 x).toArray) (Value.int .i64) zcb]) w₀ w₀ [yr zgn (fun x=>Value.agg (e97 x).toArray) (Value.int .i64) zcb]) :
  Calls Tryz.prog 27 #[(.slice zAa zjQ.length zAb),(.func (.func 36) #[] #[(.pointer (some zAc)),(.pointer (some zAd))])] w₀ fun e w'=>e = .returned (.bool r) ∧ Hp (fps [yr zgn (fun x=>Value.agg (e97 x).toArray) (Value.int .i64) zcb]) w₀ w' [yr zgn (fun x=>Value.agg (e97 x).toArray) (Value.int .i64) zcb]:=by
 unfold y14 at h
 refine Calls.oh2 Tryz.func27 Tryz.ntmps27 hown ?_
 refine WC.b (WC.a (WL.pu rfl (WL.nil (WX.a (WC.b ?_)))))
 obtain ⟨zA9,zJ7,h⟩:=z7 h
 refine WC.a (WL.pu rfl (WL.pu rfl ?_))
 refine WL.cA 7 (za (l:=[.tmp 5,.tmp 6]) Tryz.call55 (.cons rfl (.cons rfl .nil))) (.cons .here .nil) (cc hz (.cons .here .nil) fun w pz ho=>y5I _ _ _ _ _ _ _ _ _ _ zJ7 w pz zJ4 zJ5 zJ6 ho) ?_
 refine WL.pu rfl (WL.pu rfl (WL.nil (WX.a (WC.ret ?_))))
 obtain rfl:=Option.some.inj h
 refine WX.ye Tryz.results27 (.tmp rfl .nil) (fun w hw=>?_)
 exact ⟨yD rfl,hw.sub (.cons .here .nil)⟩
def y7p (l : List Sbound_place) (i j : Int) : Option (List Sbound_place):=chk (((0 : Int) ≤ i ∧ i ≤ j ∧ j ≤ l.length) ∧ l.length * 16 ≤ 140737488355328) (some (l.take i.toNat ++ l.drop j.toNat))
theorem ybw (Z : Zp) (ao : Option Addr) (cap : Nat) (l : List Sbound_place) (i j : Int) (r : List Sbound_place) (w₀ : World) (hz : PZ (fps [row (.slice ao l.length cap) 97 2 (l.flatMap e97)]) w₀ Z) (h : y7p l i j = some r) (hown : Hp (fps [row (.slice ao l.length cap) 97 2 (l.flatMap e97)]) w₀ w₀ [row (.slice ao l.length cap) 97 2 (l.flatMap e97)]) :
  Calls Tryz.prog 41 #[.slice ao l.length cap,.int .i64 i,.int .i64 j] w₀ fun e w'=>∃ aor : Option Addr,∃ capr : Nat,e = .returned (.slice aor r.length capr) ∧ True ∧ Hp (fps [row (.slice ao l.length cap) 97 2 (l.flatMap e97)]) w₀ w' [row (.slice aor r.length capr) 97 2 (r.flatMap e97)]:=by
 obtain ⟨⟨c1,c2⟩,h⟩:=yq h
 obtain rfl:=Option.some.inj h
 clear h
 refine Calls.oh3 Tryz.func41 Tryz.ntmps41 hown ?_
 refine WC.b (WC.a (WL.pu rfl (WL.nil (WX.a (WC.b ?_)))))
 refine WC.a (WL.pu rfl (WL.pu rfl (WL.pu rfl (WL.pu rfl ?_))))
 refine WL.qA 12 (yE Tryz.underlying88 rfl) ?_
 refine WL.know (fun w h=>h.rowShape .here) fun hs=>?_
 obtain ⟨hs1,hs2,hs3,_⟩:=hs
 refine WL.qA 13 (q_slice3 y4H rfl rfl rfl rfl (by omega) (by omega) (by omega) (by omega)) ?_
 refine WL.nil (WX.a (WC.b (WC.b (WC.a (WL.pu rfl (WL.pu rfl (WL.pu rfl (WL.nil (WX.a ?_)))))))))
 refine WC.cond rfl (fun hb=>?_) (fun hb=>?_)
 ·have e : i = j:=by simpa using hb
  refine WC.b (WC.a (WL.pu rfl (WL.pu rfl (WL.nil (WX.a (WC.ret (WX.yd ?_)))))))
  refine WX.ye Tryz.results41 (.tmp rfl .nil) (fun w hw=>?_)
  have e2 : l.take i.toNat ++ l.drop j.toNat = l:=by subst e; exact List.take_append_drop _ _
  rw [e2]; exact ⟨ao,cap,yD rfl,trivial,hw.sub (.cons .here .nil)⟩
 ·have hne : i < j:=by
   have : i ≠ j:=by simpa using hb
   omega
  clear hb
  refine WC.skip (WX.a (WC.b (WC.a (WL.pu rfl ?_))))
  refine WL.qA 19 (yE Tryz.underlying88 rfl) ?_
  refine WL.pu rfl (WL.nil (WX.a (WC.b ?_)))
  refine WC.know (fun w hw=>Hp.y2H .here hw (by omega)) ?_
  rintro ⟨b,rfl⟩
  have hlen : (l.take i.toNat ++ l.drop j.toNat).length = i.toNat + (l.length - j.toNat):=by rw [List.length_append,List.length_take,List.length_drop]; omega
  refine WC.yL (fun i=>[6].contains i) [] rfl ?_
  refine WD.pA 0 20 rfl (fun _=>q_m rfl) ?_
  refine WD.pA 1 21 rfl (fun _=>q_m rfl) ?_
  refine WD.pA 2 22 rfl (fun _=>y6j (lo:=0) (hi:=i.toNat) (lv:=none) (hv:=some (.int .i64 i)) y4H rfl (fun _ _ _=>rfl) (fun a w h=>by rw [Option.map_some,h.eval rfl]) rfl (by show i = _; omega) (by omega) (by omega) (by simp)) ?_
  refine WD.repin (i:=22) rfl (u:=.slice (some ⟨b,0,none⟩) i.toNat cap) (by split <;> simp [Addr.add]) ?_
  refine WD.pA 3 23 rfl (fun _=>q_m rfl) ?_
  refine WD.pA 4 24 rfl (fun _=>q_m rfl) ?_
  refine WD.pA 5 25 rfl (fun _=>y6j (lo:=j.toNat) (hi:=l.length) (lv:=some (.int .i64 j)) (hv:=none) y4H rfl (fun a w h=>by rw [Option.map_some,h.eval rfl]) (fun _ _ _=>rfl) (by show j = _; omega) rfl (by omega) (by omega) (fun _=>hs2)) ?_
  refine WD.old (i:=6) (dd:=26) rfl (by kernel_rfl) rfl rfl rfl rfl (fun _=>Sin.of .nil) (ydy (i:=i.toNat) (j:=j.toNat) (m:=l.length) (cs:=l.flatMap e97) y4H rfl rfl (fun hk=>if_neg (by omega)) .here (by omega) (by omega) (y4C yat _) (by omega)) ?_
  intro tl _
  refine WD.pA 7 0 rfl (fun _=>q_z rfl) ?_
  refine WD.done (by kernel_rfl) (WX.a (WC.b ?_))
  refine WC.a (WL.pu rfl (WL.pu rfl ?_))
  refine WL.qA 29 (yE Tryz.underlying88 rfl) ?_
  refine WL.pu rfl ?_
  refine WL.qA 31 (y6j (lo:=i.toNat + (l.length - j.toNat)) (hi:=l.length) (lv:=some (.int .i64 ((i.toNat + (l.length - j.toNat) : Nat) : Int))) (hv:=some (.int .i64 ((l.length : Nat) : Int))) y4H rfl (fun a w h=>by rw [Option.map_some,h.eval rfl]) (fun a w h=>by rw [Option.map_some,h.eval rfl]) rfl rfl (by omega) (by omega) (by simp)) ?_
  refine WL.ym rfl rfl (yaV (i:=i.toNat + (l.length - j.toNat)) y4H y8v rfl rfl (by omega) (yd5 (enc:=e97) (sz:=2) (z0:=((⟨0,0⟩ : Sbound_place) : Sbound_place)) (fun _=>rfl) (by decide) rfl yat) .here rfl) ?_
  refine WL.nil (WX.a (WC.b ?_))
  refine WC.a (WL.pu rfl (WL.pu rfl (WL.nil (WX.a (WC.ret ?_)))))
  refine WX.ye Tryz.results41 (.tmp rfl .nil) (fun w hw=>?_)
  rw [hlen]
  refine ⟨some ⟨b,0,none⟩,cap,yD rfl,trivial,?_⟩
  have h5:=Hp.rowShort (m:=l.length) (i:=i.toNat + (l.length - j.toNat)) (R:=[]) .here (by omega) hw
  have e1 : (l.flatMap e97).take (i.toNat * 2) = (l.take i.toNat).flatMap e97:=y8Q (enc:=e97) (sz:=2) (fun _=>rfl) l i.toNat (by omega)
  have e2 : (l.flatMap e97).drop (j.toNat * 2) = (l.drop j.toNat).flatMap e97:=yab (enc:=e97) (sz:=2) (fun _=>rfl) l j.toNat (by omega)
  have e3 : ((l.take i.toNat ++ l.drop j.toNat).flatMap e97).length = (i.toNat + (l.length - j.toNat)) * 2:=by rw [y6S (sz:=2) (fun _=>rfl),hlen]
  rw [e1,e2,← List.flatMap_append,← e3,List.take_left,List.take_left] at h5
  exact h5.sub (.cons .here .nil)
def y2M (zG : List Sbound_place) (z3e : List (List Sapi_Hop)) (z2H : List (Sbound_place × Int)) (z27 : List Sbound_place) (z9Q : (List Sbound_place) → (List Sbound_place) → (List (Sbound_place × Int)) → Option (List Sbound_place × Int)) (z9R : Option (List Sbound_place × Int)) : Nat → Int → Option (List Sbound_place × Int)
 | 0,_=>none
 | zs8 + 1,zR=>if decide (zR < ((zG.length : Nat) : Int)) then chk ((0 : Int) ≤ zR ∧ zR < ((zG.length : Nat) : Int)) ((y14 z3e (⟨((nth zG zR).fNode),((nth zG zR).fLink)⟩ : Sbound_place) z2H).bind fun zAe=>if !zAe then chk ((((z27 ++ ([(⟨((nth zG zR).fNode),((nth zG zR).fLink)⟩ : Sbound_place)] : List Sbound_place)).length : Nat) : Int) * 16 ≤ 140737488355328 ∧ (((z27 ++ ([(⟨((nth zG zR).fNode),((nth zG zR).fLink)⟩ : Sbound_place)] : List Sbound_place)).length : Nat) : Int) ≤ 4611686018427387904) ((y7p zG zR (i64 (zR + 1))).bind fun zmM=>z9Q zmM (z27 ++ ([(⟨((nth zG zR).fNode),((nth zG zR).fLink)⟩ : Sbound_place)] : List Sbound_place)) (yG z2H (⟨((nth zG zR).fNode),((nth zG zR).fLink)⟩ : Sbound_place) (i64 ((yp z2H (⟨((nth zG zR).fNode),((nth zG zR).fLink)⟩ : Sbound_place) 0) + 1)))) else y2M zG z3e z2H z27 z9Q z9R zs8 (i64 (zR + 1))) else z9R
theorem y9o {n : Nat} {zG : List Sbound_place} {z3e : List (List Sapi_Hop)} {z2H : List (Sbound_place × Int)} {z27 : List Sbound_place} {z9Q : (List Sbound_place) → (List Sbound_place) → (List (Sbound_place × Int)) → Option (List Sbound_place × Int)} {z9R : Option (List Sbound_place × Int)} {zR : Int} {r : List Sbound_place × Int} (h : y2M zG z3e z2H z27 z9Q z9R n zR = some r) : ∃ m,n = m + 1:=by
 cases n with
 | zero=>cases h
 | succ m=>exact ⟨m,rfl⟩
def y2N (z3e : List (List Sapi_Hop)) (z9S : (List Sbound_place) → Option (List Sbound_place × Int)) : Nat → (List Sbound_place) → (List Sbound_place) → (List (Sbound_place × Int)) → Option (List Sbound_place × Int)
 | 0,_,_,_=>none
 | zs9 + 1,zG,z27,z2H=>if decide (((zG.length : Nat) : Int) > 0) then jp3 (fun (z7V : List Sbound_place) (z7W : List Sbound_place) (z9T : List (Sbound_place × Int))=>y2N z3e z9S zs9 z7V z7W z9T) fun z9Q=>jp0 (some (([] : List Sbound_place),351)) fun z9R=>y2M zG z3e z2H z27 z9Q z9R yB 0 else z9S z27
theorem y9p {n : Nat} {z3e : List (List Sapi_Hop)} {z9S : (List Sbound_place) → Option (List Sbound_place × Int)} {zG : List Sbound_place} {z27 : List Sbound_place} {z2H : List (Sbound_place × Int)} {r : List Sbound_place × Int} (h : y2N z3e z9S n zG z27 z2H = some r) : ∃ m,n = m + 1:=by
 cases n with
 | zero=>cases h
 | succ m=>exact ⟨m,rfl⟩
def y3X (z3e : List (List Sapi_Hop)) : Option (List Sbound_place × Int) :=
 (y5i z3e).bind fun zsa=>jp1 (fun (z8p : List Sbound_place)=>some (z8p,0)) fun z9S=>y2N z3e z9S yB zsa ([] : List Sbound_place) ([] : List (Sbound_place × Int))
set_option maxRecDepth 20000 in
theorem ya2 (Z : Zp) (zjS : Option Addr) (zjT : Nat) (z3e : List (List Sapi_Hop)) (r : List Sbound_place × Int)
  (h : y3X z3e = some r) (w₀ : World) (hz : PZ [] w₀ Z)
  (zAf : ZS Z 1 (p48 Z) zjS zjT z3e) :
  Calls Tryz.prog 21 #[(.slice zjS z3e.length zjT)] w₀ fun e w'=>∃ zAg : Option Addr,∃ zAh : Nat,e = .returned (.tuple #[(.slice zAg r.1.length zAh),(.int .i64 r.2)]) ∧ True ∧ Hp [] w₀ w' [row (.slice zAg r.1.length zAh) 97 2 (r.1.flatMap e97)]:=by
 unfold y3X at h
 refine Calls.on1 Tryz.func21 Tryz.ntmps21 ?_
 refine WC.b (WC.a (WL.pu rfl (WL.pu rfl (WL.nil (WX.a (WC.scope (WC.b ?_)))))))
 obtain ⟨zsa,zJ8,h⟩:=z7 h
 refine WC.a (WL.pu rfl ?_)
 refine WL.y4F (dd:=11) rfl rfl rfl (za (l:=[.tmp 10]) Tryz.call35 (.cons rfl .nil)) .nil (cc hz .nil fun w pz ho=>ybP _ _ _ _ _ zJ8 w pz zAf) ?_
 rintro zJ9 zJa _
 refine WL.pu rfl (WL.nil (WX.a (WC.b (WC.a ?_))))
 refine WL.nA 12 (y3e (fun x=>Value.agg (e97 x).toArray) (Value.int .i64)) ?_
 intro zeh _
 refine WL.nA 5 (yv (cs:=[(.map none)]) zeroT_93 rfl) ?_
 intro zgo _
 refine WL.ym rfl rfl (yl sizT_93 rfl rfl rfl .here rfl rfl rfl) ?_
 refine WL.nil (WX.a (WC.b (WC.a (WL.pu rfl (WL.nil (WX.a (WC.b (WC.label (WX.a ?_)))))))))
 obtain ⟨z9S,zJb,h⟩:=yU h
 refine WC.y1x (fun (z8p : List Sbound_place) (zgp : Option Addr) (zgq : Nat)=>(z9S z8p = some r)) (fun z8p zgp zgq=>[(6,(.slice zgp z8p.length zgq))]) (fun z8p zgp zgq=>[row (.slice zgp z8p.length zgq) 97 2 (z8p.flatMap e97)]) ?_ ?_
 ·skip
  refine WC.block ?_
  refine WC.nilRow 97 2 ?_
  refine WC.yb4 (fun (zgr : Nat) (zG : List Sbound_place) (z27 : List Sbound_place) (z2H : List (Sbound_place × Int)) (z9U : Option Addr) (z8q : Nat) (z9V : Option Addr) (z9W : Nat)=>(y2N z3e z9S zgr zG z27 z2H = some r)) (fun zgr zG z27 z2H z9U z8q z9V z9W=>[(0,(.slice zjS z3e.length zjT)),(4,(.slice z9U zG.length z8q)),(5,(.pointer (some ⟨zgo,0,none⟩))),(6,(.slice z9V z27.length z9W))]) (fun zgr zG z27 z2H z9U z8q z9V z9W=>[row (.slice z9U zG.length z8q) 97 2 (zG.flatMap e97),row (.slice z9V z27.length z9W) 97 2 (z27.flatMap e97),stb zgo 93 [(.map (some zeh))],yr zeh (fun x=>Value.agg (e97 x).toArray) (Value.int .i64) z2H]) (fun zgr zG z27 z2H z9U z8q z9V z9W=>zgr) ⟨yB,zsa,([] : List Sbound_place),([] : List (Sbound_place × Int)),zJ9,zJa,none,0⟩ h (.cons rfl (.cons rfl (.cons rfl (.cons rfl .nil)))) (.cons .h3 (.cons .here (.cons .here (.cons .here .nil)))) ?_
  rintro zgr zG z27 z2H z9U z8q z9V z9W h
  obtain ⟨zs9,rfl⟩:=y9p h
  rw [y2N] at h
  refine WC.b (WC.b (WC.a (WL.pu rfl ?_)))
  refine WL.qA 14 (yE Tryz.underlying88 rfl) ?_
  refine WL.pu rfl (WL.nil (WX.a ?_))
  refine WC.cond rfl (fun zsb=>?_) (fun zsb=>?_)
  ·replace h:=yn h zsb
   refine WC.skip (WX.a ?_)
   obtain ⟨z9Q,zJc,h⟩:=y4l h
   refine WC.mid7 (fun (z7V : List Sbound_place) (z7W : List Sbound_place) (z9T : List (Sbound_place × Int)) (zgs : Option Addr) (zgt : Nat) (zgu : Option Addr) (zgv : Nat)=>(z9Q z7V z7W z9T = some r)) (fun z7V z7W z9T zgs zgt zgu zgv=>[(0,(.slice zjS z3e.length zjT)),(4,(.slice zgs z7V.length zgt)),(5,(.pointer (some ⟨zgo,0,none⟩))),(6,(.slice zgu z7W.length zgv))]) (fun z7V z7W z9T zgs zgt zgu zgv=>[row (.slice zgs z7V.length zgt) 97 2 (z7V.flatMap e97),row (.slice zgu z7W.length zgv) 97 2 (z7W.flatMap e97),stb zgo 93 [(.map (some zeh))],yr zeh (fun x=>Value.agg (e97 x).toArray) (Value.int .i64) z9T]) ?_ ?_
   ·skip
    refine WC.block ?_
    obtain ⟨z9R,zJd,h⟩:=y1u h
    refine WC.y1g ((z9R = some r)) ([]) ([]) ?_ ?_
    ·skip
     refine WC.b (WC.a (WL.pu rfl ?_))
     refine WL.qA 17 (yE Tryz.underlying88 rfl) ?_
     refine WL.pu rfl (WL.nil (WX.a (WC.block ?_)))
     refine WC.y1S (fun (zgw : Nat) (zR : Int)=>(y2M zG z3e z2H z27 z9Q z9R zgw zR = some r)) (fun zgw zR=>[(0,(.slice zjS z3e.length zjT)),(4,(.slice z9U zG.length z8q)),(5,(.pointer (some ⟨zgo,0,none⟩))),(6,(.slice z9V z27.length z9W)),(16,(.slice z9U zG.length z8q)),(17,(.int .i64 ((zG.length : Nat) : Int))),(18,(.int .i64 zR))]) (fun zgw zR=>[row (.slice z9U zG.length z8q) 97 2 (zG.flatMap e97),row (.slice z9V z27.length z9W) 97 2 (z27.flatMap e97),stb zgo 93 [(.map (some zeh))],yr zeh (fun x=>Value.agg (e97 x).toArray) (Value.int .i64) z2H]) (fun zgw zR=>zgw) ⟨yB,0⟩ h (.cons rfl (.cons rfl (.cons rfl (.cons rfl (.cons rfl (.cons rfl (.cons rfl .nil))))))) (.cons .here (.cons .here (.cons .here (.cons .here .nil)))) ?_
     rintro zgw zR h
     obtain ⟨zs8,rfl⟩:=y9o h
     rw [y2M] at h
     refine WC.b (WC.a (WL.pu rfl (WL.nil (WX.a (WC.b ?_)))))
     refine WC.cond rfl (fun zsc=>?_) (fun zsc=>?_)
     ·replace h:=yn h zsc
      refine WC.skip (WX.a (WC.b (WC.block (WC.b ?_))))
      obtain ⟨zjU,h⟩:=yq h
      refine WC.a (WL.pu rfl ?_)
      refine WL.know (fun w hw=>Hp.y2H .here hw (by intro hz'; have:=zjU; rw [hz'] at this; omega)) ?_
      rintro ⟨zJe,rfl⟩
      refine WL.qA 21 (yY y4H rfl rfl zjU.1 zjU.2 y3z) ?_
      refine WL.qA 22 (yQ (cs:=(e97 (nth zG zR))) y3f rfl rfl (y3d .here (y2Q (enc:=e97) (l:=zG) (i:=zR) (sz:=2) (fun _=>rfl) zjU.1 zjU.2))) ?_
      refine WL.nA 8 (yv (cs:=[(.int .i64 0),(.int .i64 0)]) y8v rfl) ?_
      intro zVR _
      refine WL.pu rfl ?_
      refine WL.ym rfl rfl (yl yaM rfl rfl rfl .here rfl rfl rfl) ?_
      refine WL.nil (WX.a (WC.b ?_))
      obtain ⟨zAe,zJf,h⟩:=z7 h
      refine WC.a (WL.pu rfl ?_)
      refine WL.qA 24 (yX (Eos.caps (l:=[.tmp 8,.tmp 5]) (.cons rfl (.cons rfl .nil)))) ?_
      refine WL.cA 25 (za (l:=[.tmp 23,.tmp 24]) Tryz.call27 (.cons rfl (.cons rfl .nil))) (.cons .h4 .nil) (ccl hz (.cons .h4 .nil) (.cons .here (.cons .h2 .nil)) fun w pz ho la=>y5k _ _ _ _ _ _ _ _ _ _ zJf w pz ((zAf.mono (Zle.left _ _)).weak (fun _ _ h=>y1i (Zle.left _ _) h)) ((la _ (.head _) _).stb) ((la _ (.tail _ (.head _)) _).stb) ho) ?_
      refine WL.pu rfl (WL.pu rfl (WL.nil (WX.a (WC.b (WC.a (WL.pu rfl (WL.nil (WX.a ?_))))))))
      refine WC.cond rfl (fun zsd=>?_) (fun zsd=>?_)
      ·replace h:=yn h zsd
       refine WC.b ?_
       refine WC.yL (fun i=>[4,6].contains i) [ybn zeh (fun x=>Value.agg (e97 x).toArray) (Value.int .i64) (⟨((nth zG zR).fNode),((nth zG zR).fLink)⟩ : Sbound_place) (0 : Int) (yp z2H (⟨((nth zG zR).fNode),((nth zG zR).fLink)⟩ : Sbound_place) 0)] rfl ?_
       refine WD.qA 0 28 rfl (yc y9f rfl (yk .h4 rfl)) ?_
       refine WD.qA 1 29 rfl (yg y3f rfl (yh .h1) rfl) ?_
       refine WD.sA 2 30 rfl (Sin.wk (.cons .here .nil) (.any rfl (fun _ h=>y69 h) .nil)) (yc7 (k:=(⟨((nth zG zR).fNode),((nth zG zR).fLink)⟩ : Sbound_place)) (dflt:=(0 : Int)) y76 Tryz.underlying93 y2D rfl rfl rfl .here) ?_
       refine WD.pA 3 31 rfl (fun _=>yaF rfl rfl rfl) ?_
       refine WD.oldQ (i:=4) (dd:=32) rfl (by kernel_rfl) rfl rfl rfl rfl (ydu (k:=(⟨((nth zG zR).fNode),((nth zG zR).fLink)⟩ : Sbound_place)) (dflt:=(0 : Int)) y76 Tryz.underlying93 y2D rfl rfl rfl .here) (fun _=>(Sin.wk (.cons .here .nil) (.any rfl (fun _ h=>ydZ h) .nil))) ?_
       rintro zVS _
       refine WD.pA 5 33 rfl (fun _=>y70 rfl rfl) ?_
       refine WD.y2F (i:=6) rfl (by kernel_rfl) rfl rfl rfl (by kernel_rfl) (yci (k:=(⟨((nth zG zR).fNode),((nth zG zR).fLink)⟩ : Sbound_place)) (v:=i64 ((yp z2H (⟨((nth zG zR).fNode),((nth zG zR).fLink)⟩ : Sbound_place) 0) + 1)) rfl rfl rfl rfl .here) ?_
       refine WD.done (by kernel_rfl) ?_
       refine WX.a (WC.b ?_)
       obtain ⟨zJg,h⟩:=yq h
       refine WC.a (WL.pu rfl ?_)
       refine WL.qA 35 (yg y3f rfl (yh .h1) rfl) ?_
       refine WL.nA 36 (yS (cs:=([(⟨((nth zG zR).fNode),((nth zG zR).fLink)⟩ : Sbound_place)] : List Sbound_place).flatMap e97) y4H (Eos.parts (l:=[.tmp 35]) (.cons rfl .nil) [0]) (fun _=>by kernel_rfl) rfl (by unfold maxLen; omega)) ?_
       intro zVT _
       refine WL.fA 37 (y4f (enc:=e97) (l1:=z27) (l2:=([(⟨((nth zG zR).fNode),((nth zG zR).fLink)⟩ : Sbound_place)] : List Sbound_place)) y4H rfl rfl .h4 (fun _=>rfl) rfl rfl (y3C .here) (y4C yat _) zJg) ?_
       rintro ⟨zJh,zJi⟩ _
       refine WL.pu rfl (WL.nil (WX.a (WC.b ?_)))
       obtain ⟨zmM,zJj,h⟩:=z7 h
       refine WC.a (WL.pu rfl (WL.pu rfl (WL.pu rfl (WL.pu rfl ?_))))
       refine WL.y4F (dd:=42) rfl rfl rfl (za (l:=[.tmp 38,.tmp 39,.tmp 41]) Tryz.call41 (.cons rfl (.cons rfl (.cons rfl .nil)))) (.cons .h4 .nil) (cc hz (.cons .h4 .nil) fun w pz ho=>ybw (Z:=_) (ao:=(some ⟨zJe,0,none⟩)) (cap:=z8q) (l:=zG) (i:=zR) (j:=(i64 (zR + 1))) (r:=zmM) w pz  zJj ho) ?_
       rintro zJk zJl _
       refine WL.pu rfl (WL.nil (WX.a (WC.exit (WX.ya8 rfl (WX.yf (WX.yf (WX.ya8 rfl (WX.yf (WX.yz ?_)))))))))
       exact WX.mid (G:=List Sbound_place × List Sbound_place × (List (Sbound_place × Int)) × Option Addr × Nat × Option Addr × Nat) ⟨zmM,(z27 ++ ([(⟨((nth zG zR).fNode),((nth zG zR).fLink)⟩ : Sbound_place)] : List Sbound_place)),(yG z2H (⟨((nth zG zR).fNode),((nth zG zR).fLink)⟩ : Sbound_place) (i64 ((yp z2H (⟨((nth zG zR).fNode),((nth zG zR).fLink)⟩ : Sbound_place) 0) + 1))),zJk,zJl,zJh,zJi⟩ h (.cons rfl (.cons rfl (.cons rfl (.cons rfl .nil)))) (.cons .here (.cons .here (.cons .h3 (.cons .h1 .nil))))
      ·replace h:=yo h zsd
       refine WC.skip (WX.yj (WX.a (WC.a (WL.pu rfl (WL.pu rfl (WL.nil ?_))))))
       exact WX.round (G:=Nat × Int) ⟨zs8,(i64 (zR + 1))⟩ h (Nat.lt_succ_self _) (.cons rfl (.cons rfl (.cons rfl (.cons rfl (.cons rfl (.cons rfl (.cons rfl .nil))))))) (.cons .h2 (.cons .h2 (.cons .h2 (.cons .here .nil))))
     ·replace h:=yo h zsc
      refine WC.exit (WX.yf (WX.yf (WX.yz ?_)))
      exact WX.mid (G:=Unit) () h .nil .nil
    ·rintro  h
     replace h:=zJd.symm.trans h
     refine WC.b (WC.a (WL.pu rfl (WL.pu rfl (WL.nil (WX.a (WC.ret (WX.ys (WX.yd (WX.yd (WX.ys (WX.yd (WX.yaZ ?_))))))))))))
     refine WX.nilRow 97 2 ?_
     obtain rfl:=Option.some.inj h
     refine WX.ye Tryz.results21 (.tmp rfl (.tmp rfl .nil)) (fun w hw=>?_)
     exact ⟨none,0,y1z rfl rfl,trivial,hw.sub (.cons .here .nil)⟩
   ·rintro z7V z7W z9T zgs zgt zgu zgv h
    replace h:=(zJc z7V z7W z9T).symm.trans h
    exact WX.round (G:=Nat × List Sbound_place × List Sbound_place × (List (Sbound_place × Int)) × Option Addr × Nat × Option Addr × Nat) ⟨zs9,z7V,z7W,z9T,zgs,zgt,zgu,zgv⟩ h (Nat.lt_succ_self _) (.cons rfl (.cons rfl (.cons rfl (.cons rfl .nil)))) (.cons .here (.cons .here (.cons .here (.cons .here .nil))))
  ·replace h:=yo h zsb
   refine WC.exit (WX.yf (WX.yf (WX.yz ?_)))
   exact WX.mid (G:=List Sbound_place × Option Addr × Nat) ⟨z27,z9V,z9W⟩ h (.cons rfl .nil) (.cons .h1 .nil)
 ·rintro z8p zgp zgq h
  replace h:=(zJb z8p).symm.trans h
  refine WC.b (WC.a (WL.pu rfl (WL.pu rfl (WL.pu rfl (WL.nil (WX.a (WC.ret (WX.yaZ ?_))))))))
  obtain rfl:=Option.some.inj h
  refine WX.ye Tryz.results21 (.tmp rfl (.tmp rfl .nil)) (fun w hw=>?_)
  exact ⟨zgp,zgq,y1z rfl rfl,trivial,hw.sub (.cons .here .nil)⟩
def y3S (z9X : Sapi_Hop) (zgx : Sbound_place) : Option Bool :=
 (y3o z9X).bind fun zse=>some (decide (zse = zgx))
set_option maxRecDepth 20000 in
theorem y9q (Z : Zp) (zAi : Addr) (z9X : Sapi_Hop) (zgx : Sbound_place) (r : Bool)
  (h : y3S z9X zgx = some r) (w₀ : World) (hz : PZ [] w₀ Z)
  (zJm : ZC Z zAi [(.int .i64 zgx.fNode),(.int .i64 zgx.fLink)]) :
  Calls Tryz.prog 67 #[(.agg #[(.int .i64 z9X.fNode),(.int .i64 z9X.fNext),(.int .i64 z9X.fLink)]),(.pointer (some zAi))] w₀ fun e w'=>e = .returned (.bool r) ∧ Hp [] w₀ w' []:=by
 unfold y3S at h
 refine Calls.yJ Tryz.func67 Tryz.ntmps67 ?_
 refine WC.b (WC.a ?_)
 refine WL.nA 2 (yH (cs:=[(.int .i64 z9X.fNode),(.int .i64 z9X.fNext),(.int .i64 z9X.fLink)]) rfl rfl) ?_
 intro zVU _
 refine WL.pu rfl (WL.nil (WX.a (WC.b ?_)))
 obtain ⟨zse,zJn,h⟩:=z7 h
 refine WC.yL (fun i=>[].contains i) [] rfl ?_
 refine WD.qA 0 4 rfl (yg y2g rfl (yh .here) rfl) ?_
 refine WD.eA 1 5 rfl (za (l:=[.tmp 4]) Tryz.call40 (.cons rfl .nil)) (cc hz .nil fun w pz ho=>y4K _ _ _ zJn w pz ) ?_
 refine WD.qA 2 6 rfl (yg y3f rfl (y1A hz.pv zJm) rfl) ?_
 refine WD.pA 3 7 rfl (fun _=>y6T (enc:=e97) (a:=zse) (b:=zgx) ybr rfl rfl) ?_
 refine WD.pA 4 3 rfl (fun _=>q_z rfl) ?_
 refine WD.done (by kernel_rfl) ?_
 refine WX.a (WC.ret ?_)
 obtain rfl:=Option.some.inj h
 refine WX.ye Tryz.results67 (.tmp rfl .nil) (fun w hw=>?_)
 exact ⟨yD rfl,hw.sub .nil⟩
def y2j (zjV : List Sapi_Hop) (zgy : Sapi_Hop → Option Bool) : Option Bool :=
 (yW zjV zgy).bind fun zAj=>some (decide (zAj ≥ 0))
set_option maxRecDepth 20000 in
theorem y5x (Z : Zp) (zAk : Option Addr) (zAl : Nat) (zgz : FuncId) (zmN : List Value) (zjV : List Sapi_Hop) (zgy : Sapi_Hop → Option Bool) (r : Bool)
  (h : y2j zjV zgy = some r) (w₀ : World) (hz : PZ [] w₀ Z)
  (zJo : ZS Z 3 (fun r x=>r = e62 x) zAk zAl zjV)
  (zJp : ∀ args w,(callFunc zgz args).run Tryz.prog w = .ok (.enter zgz args) w)
  (zJq : ∀ w : World,PZ [] w Z → ∀ (x0 : Sapi_Hop) (r : Bool),zgy x0 = some r → Calls Tryz.prog zgz (([(.agg #[(.int .i64 x0.fNode),(.int .i64 x0.fNext),(.int .i64 x0.fLink)])] : List Value) ++ zmN).toArray w fun e w'=>e = .returned (.bool r) ∧ Hp [] w w' []) :
  Calls Tryz.prog 37 #[(.slice zAk zjV.length zAl),(.func (.func zgz) #[] (zmN).toArray)] w₀ fun e w'=>e = .returned (.bool r) ∧ Hp [] w₀ w' []:=by
 unfold y2j at h
 refine Calls.yJ Tryz.func37 Tryz.ntmps37 ?_
 refine WC.b (WC.a (WL.pu rfl (WL.nil (WX.a (WC.b ?_)))))
 obtain ⟨zAj,zJr,h⟩:=z7 h
 refine WC.a (WL.pu rfl (WL.pu rfl ?_))
 refine WL.cA 7 (za (l:=[.tmp 5,.tmp 6]) Tryz.call65 (.cons rfl (.cons rfl .nil))) .nil (cc hz .nil fun w pz ho=>y3K _ _ _ (zc5:=zgz) (zgf:=zmN) _ (z72:=zgy) _ zJr w pz zJo zJp zJq) ?_
 refine WL.pu rfl (WL.pu rfl (WL.nil (WX.a (WC.ret ?_))))
 obtain rfl:=Option.some.inj h
 refine WX.ye Tryz.results37 (.tmp rfl .nil) (fun w hw=>?_)
 exact ⟨yD rfl,hw.sub .nil⟩
def y36 (zjW : Int) : Option z1 :=
 some (⟨zjW,1⟩ : z1)
set_option maxRecDepth 20000 in
theorem y3Y (Z : Zp)  (zjW : Int) (r : z1)
  (h : y36 zjW = some r) (w₀ : World) (hz : PZ [] w₀ Z) :
  Calls Tryz.prog 43 #[(.int .i64 zjW)] w₀ fun e w'=>e = .returned (.agg #[(.int .i64 r.fN),(.int .i64 r.fD)]) ∧ Hp [] w₀ w' []:=by
 unfold y36 at h
 refine Calls.on1 Tryz.func43 Tryz.ntmps43 ?_
 refine WC.b (WC.a ?_)
 refine WL.nA 2 (yv (cs:=[(.int .i64 0),(.int .i64 0)]) zP rfl) ?_
 intro zVV _
 refine WL.nil (WX.a (WC.b (WC.a (WL.pu rfl ?_))))
 refine WL.qA 4 (yI (v:=(.agg #[(.int .i64 zjW),(.int .i64 1)])) (Eos.parts (l:=[.tmp 3,.const (.int .i64 1)]) (.cons rfl (.cons rfl .nil)) [0,1]) (fun _=>by kernel_rfl)) ?_
 refine WL.ym rfl rfl (yl zu rfl rfl rfl .here rfl rfl rfl) ?_
 refine WL.nil (WX.a (WC.ret ?_))
 obtain rfl:=Option.some.inj h
 refine WX.ye Tryz.results43 (.agg rfl zd rfl (yh .here) .nil) (fun w hw=>?_)
 exact ⟨yD rfl,hw.sub .nil⟩
def y6r (zgA : Int) : Option Int :=
 if decide (zgA < 0) then some (u64 ((u64 (i64 (0 - (i64 (zgA + 1))))) + 1)) else some (u64 zgA)
set_option maxRecDepth 20000 in
theorem y8g (Z : Zp)  (zgA : Int) (r : Int)
  (h : y6r zgA = some r) (w₀ : World) (hz : PZ [] w₀ Z) :
  Calls Tryz.prog 112 #[(.int .i64 zgA)] w₀ fun e w'=>e = .returned (.int .u64 r) ∧ Hp [] w₀ w' []:=by
 unfold y6r at h
 refine Calls.on1 Tryz.func112 Tryz.ntmps112 ?_
 refine WC.b (WC.a (WL.pu rfl (WL.nil (WX.a (WC.b (WC.b (WC.a (WL.pu rfl (WL.pu rfl (WL.nil (WX.a ?_)))))))))))
 refine WC.cond rfl (fun zsf=>?_) (fun zsf=>?_)
 ·replace h:=yn h zsf
  refine WC.b (WC.a (WL.pu rfl (WL.pu rfl ?_)))
  refine WL.qA 7 (q_neg rfl rfl) ?_
  refine WL.qA 8 (y7f Tryz.underlying3 Tryz.underlying193 rfl rfl) ?_
  refine WL.pu rfl (WL.pu rfl (WL.nil (WX.a (WC.ret (WX.yd ?_)))))
  obtain rfl:=Option.some.inj h
  refine WX.ye Tryz.results112 (.tmp rfl .nil) (fun w hw=>?_)
  exact ⟨yD rfl,hw.sub .nil⟩
 ·replace h:=yo h zsf
  refine WC.skip (WX.a (WC.b (WC.a (WL.pu rfl ?_))))
  refine WL.qA 11 (y7f Tryz.underlying3 Tryz.underlying193 rfl rfl) ?_
  refine WL.pu rfl (WL.nil (WX.a (WC.ret ?_)))
  obtain rfl:=Option.some.inj h
  refine WX.ye Tryz.results112 (.tmp rfl .nil) (fun w hw=>?_)
  exact ⟨yD rfl,hw.sub .nil⟩
def y3A (z9Y : Int → Option Int) : Nat → Int → Int → Option Int
 | 0,_,_=>none
 | zsg + 1,z6n,z5u=>if decide (z5u ≠ 0) then chk ((z5u : Int) ≠ 0) (y3A z9Y zsg z5u (Int.tmod z6n z5u)) else z9Y z6n
theorem y8x {n : Nat} {z9Y : Int → Option Int} {z6n : Int} {z5u : Int} {r : Int} (h : y3A z9Y n z6n z5u = some r) : ∃ m,n = m + 1:=by
 cases n with
 | zero=>cases h
 | succ m=>exact ⟨m,rfl⟩
def y5y (zjX : Int) (zjY : Int) : Option Int :=
 jp1 (fun (zcc : Int)=>some zcc) fun z9Y=>y3A z9Y yB zjX zjY
set_option maxRecDepth 20000 in
theorem y8y (Z : Zp)  (zjX : Int) (zjY : Int) (r : Int)
  (h : y5y zjX zjY = some r) (w₀ : World) (hz : PZ [] w₀ Z) :
  Calls Tryz.prog 111 #[(.int .u64 zjX),(.int .u64 zjY)] w₀ fun e w'=>e = .returned (.int .u64 r) ∧ Hp [] w₀ w' []:=by
 unfold y5y at h
 refine Calls.yJ Tryz.func111 Tryz.ntmps111 ?_
 refine WC.b (WC.a (WL.pu rfl (WL.nil (WX.a ?_))))
 obtain ⟨z9Y,zJs,h⟩:=yU h
 refine WC.y2P (fun (zcc : Int)=>(z9Y zcc = some r)) (fun zcc=>[(0,(.int .u64 zcc))]) (fun zcc=>[]) ?_ ?_
 ·skip
  refine WC.block ?_
  refine WC.y6R (fun (zgB : Nat) (z6n : Int) (z5u : Int)=>(y3A z9Y zgB z6n z5u = some r)) (fun zgB z6n z5u=>[(0,(.int .u64 z6n)),(1,(.int .u64 z5u))]) (fun zgB z6n z5u=>[]) (fun zgB z6n z5u=>zgB) ⟨yB,zjX,zjY⟩ h (.cons rfl (.cons rfl .nil)) .nil ?_
  rintro zgB z6n z5u h
  obtain ⟨zsg,rfl⟩:=y8x h
  rw [y3A] at h
  refine WC.b (WC.b (WC.a (WL.pu rfl (WL.pu rfl (WL.nil (WX.a ?_))))))
  refine WC.cond rfl (fun zsh=>?_) (fun zsh=>?_)
  ·replace h:=yn h zsh
   refine WC.skip (WX.a (WC.block ?_))
   obtain ⟨zJt,h⟩:=yq h
   refine WC.yL (fun i=>[].contains i) [] rfl ?_
   refine WD.pA 0 7 rfl (fun _=>q_m rfl) ?_
   refine WD.pA 1 8 rfl (fun _=>q_m rfl) ?_
   refine WD.pA 2 9 rfl (fun _=>q_m rfl) ?_
   refine WD.pA 3 10 rfl (fun _=>q_rem rfl rfl zJt rfl) ?_
   refine WD.pA 4 0 rfl (fun _=>q_z rfl) ?_
   refine WD.pA 5 1 rfl (fun _=>q_z rfl) ?_
   refine WD.done (by kernel_rfl) ?_
   refine WX.yj ?_
   exact WX.round (G:=Nat × Int × Int) ⟨zsg,z5u,(Int.tmod z6n z5u)⟩ h (Nat.lt_succ_self _) (.cons rfl (.cons rfl .nil)) .nil
  ·replace h:=yo h zsh
   refine WC.exit (WX.yf (WX.yf (WX.yz ?_)))
   exact WX.mid (G:=Int) z6n h (.cons rfl .nil) .nil
 ·rintro zcc h
  replace h:=(zJs zcc).symm.trans h
  refine WC.b (WC.a (WL.pu rfl (WL.pu rfl (WL.nil (WX.a (WC.ret ?_))))))
  obtain rfl:=Option.some.inj h
  refine WX.ye Tryz.results111 (.tmp rfl .nil) (fun w hw=>?_)
  exact ⟨yD rfl,hw.sub .nil⟩
def y5z (zjZ : Int) (zgC : Int) : Option (z1 × Int) :=
 if decide (zgC = 0) then some ((⟨0,0⟩ : z1),2) else (y6r zjZ).bind fun z8r=>(y6r zgC).bind fun zcd=>(y5y z8r zcd).bind fun z5a=>chk ((z5a : Int) ≠ 0) (if (decide ((u64 (Int.tdiv z8r z5a)) > 1073741824)) || (decide ((u64 (Int.tdiv zcd z5a)) > 1073741824)) then some ((⟨0,0⟩ : z1),3) else jp1 (fun (zce : Int)=>some ((⟨zce,i64 (u64 (Int.tdiv zcd z5a))⟩ : z1),0)) fun zmO=>if (decide (zjZ < 0)) != (decide (zgC < 0)) then zmO (i64 (0 - (i64 (u64 (Int.tdiv z8r z5a))))) else zmO (i64 (u64 (Int.tdiv z8r z5a))))
set_option maxRecDepth 20000 in
theorem y7q (Z : Zp)  (zjZ : Int) (zgC : Int) (r : z1 × Int)
  (h : y5z zjZ zgC = some r) (w₀ : World) (hz : PZ [] w₀ Z) :
  Calls Tryz.prog 106 #[(.int .i64 zjZ),(.int .i64 zgC)] w₀ fun e w'=>e = .returned (.tuple #[(.agg #[(.int .i64 r.1.fN),(.int .i64 r.1.fD)]),(.int .i64 r.2)]) ∧ Hp [] w₀ w' []:=by
 unfold y5z at h
 refine Calls.yJ Tryz.func106 Tryz.ntmps106 ?_
 refine WC.b (WC.a ?_)
 refine WL.nA 4 (yv (cs:=[(.int .i64 0),(.int .i64 0)]) zP rfl) ?_
 intro zAm _
 refine WL.pu rfl (WL.nil (WX.a (WC.b (WC.b (WC.a (WL.pu rfl (WL.pu rfl (WL.nil (WX.a ?_)))))))))
 refine WC.cond rfl (fun zsi=>?_) (fun zsi=>?_)
 ·replace h:=yn h zsi
  refine WC.b (WC.a ?_)
  refine WL.qA 12 (yI (v:=(.agg #[(.int .i64 0),(.int .i64 0)])) (Eos.parts (l:=[]) .nil []) (fun _=>by kernel_rfl)) ?_
  refine WL.ym rfl rfl (yl zu rfl rfl rfl .here rfl rfl rfl) ?_
  refine WL.pu rfl (WL.nil (WX.a (WC.ret (WX.yd ?_))))
  obtain rfl:=Option.some.inj h
  refine WX.ye Tryz.results106 (.agg rfl zd rfl (yh .here) (.tmp rfl .nil)) (fun w hw=>?_)
  exact ⟨y1z rfl rfl,hw.sub .nil⟩
 ·replace h:=yo h zsi
  refine WC.skip (WX.a (WC.b ?_))
  obtain ⟨z8r,zJu,h⟩:=z7 h
  obtain ⟨zcd,zJv,h⟩:=z7 h
  refine WC.a (WL.pu rfl ?_)
  refine WL.cA 14 (za (l:=[.tmp 13]) Tryz.call112 (.cons rfl .nil)) .nil (cc hz .nil fun w pz ho=>y8g _ _ _ zJu w pz ) ?_
  refine WL.pu rfl ?_
  refine WL.cA 16 (za (l:=[.tmp 15]) Tryz.call112 (.cons rfl .nil)) .nil (cc hz .nil fun w pz ho=>y8g _ _ _ zJv w pz ) ?_
  refine WL.pu rfl (WL.pu rfl (WL.nil (WX.a (WC.b ?_))))
  obtain ⟨z5a,zJw,h⟩:=z7 h
  refine WC.a (WL.pu rfl (WL.pu rfl ?_))
  refine WL.cA 19 (za (l:=[.tmp 17,.tmp 18]) Tryz.call111 (.cons rfl (.cons rfl .nil))) .nil (cc hz .nil fun w pz ho=>y8y _ _ _ _ zJw w pz ) ?_
  refine WL.pu rfl (WL.nil (WX.a (WC.b ?_)))
  obtain ⟨zAn,h⟩:=yq h
  refine WC.yL (fun i=>[].contains i) [] rfl ?_
  refine WD.pA 0 20 rfl (fun _=>q_m rfl) ?_
  refine WD.pA 1 21 rfl (fun _=>q_m rfl) ?_
  refine WD.pA 2 22 rfl (fun _=>q_quo rfl rfl zAn rfl) ?_
  refine WD.pA 3 23 rfl (fun _=>q_m rfl) ?_
  refine WD.pA 4 24 rfl (fun _=>q_m rfl) ?_
  refine WD.pA 5 25 rfl (fun _=>q_quo rfl rfl zAn rfl) ?_
  refine WD.pA 6 6 rfl (fun _=>q_z rfl) ?_
  refine WD.pA 7 7 rfl (fun _=>q_z rfl) ?_
  refine WD.done (by kernel_rfl) ?_
  refine WX.a (WC.b (WC.b (WC.a (WL.pu rfl (WL.pu rfl (WL.pu rfl ?_))))))
  refine WL.seg false 2 28 (B:=(decide ((u64 (Int.tdiv z8r z5a)) > 1073741824)) || (decide ((u64 (Int.tdiv zcd z5a)) > 1073741824))) rfl rfl rfl rfl rfl rfl (fun h=>(y67 h).symm) (fun _ zJx=>?_) ?_
  ·skip
   refine WL.pu rfl (WL.pu rfl (WL.pu rfl ?_))
   exact WL.yC (y68 zJx) rfl rfl .all
  refine WL.nil (WX.a ?_)
  refine WC.cond rfl (fun zsj=>?_) (fun zsj=>?_)
  ·replace h:=yn h zsj
   refine WC.b (WC.a ?_)
   refine WL.qA 32 (yI (v:=(.agg #[(.int .i64 0),(.int .i64 0)])) (Eos.parts (l:=[]) .nil []) (fun _=>by kernel_rfl)) ?_
   refine WL.ym rfl rfl (yl zu rfl rfl rfl .here rfl rfl rfl) ?_
   refine WL.pu rfl (WL.nil (WX.a (WC.ret (WX.yd ?_))))
   obtain rfl:=Option.some.inj h
   refine WX.ye Tryz.results106 (.agg rfl zd rfl (yh .here) (.tmp rfl .nil)) (fun w hw=>?_)
   exact ⟨y1z rfl rfl,hw.sub .nil⟩
  ·replace h:=yo h zsj
   refine WC.skip (WX.a (WC.b (WC.a (WL.pu rfl ?_))))
   refine WL.qA 34 (y7f Tryz.underlying193 Tryz.underlying3 rfl rfl) ?_
   refine WL.pu rfl ?_
   refine WL.qA 36 (y7f Tryz.underlying193 Tryz.underlying3 rfl rfl) ?_
   refine WL.qA 37 (yI (v:=(.agg #[(.int .i64 (i64 (u64 (Int.tdiv z8r z5a)))),(.int .i64 (i64 (u64 (Int.tdiv zcd z5a))))])) (Eos.parts (l:=[.tmp 34,.tmp 36]) (.cons rfl (.cons rfl .nil)) [0,1]) (fun _=>by kernel_rfl)) ?_
   refine WL.nA 9 (yv (cs:=[(.int .i64 0),(.int .i64 0)]) zP rfl) ?_
   intro zAo _
   refine WL.ym rfl rfl (yl zu rfl rfl rfl .here rfl rfl rfl) ?_
   refine WL.nil (WX.a ?_)
   obtain ⟨zmO,zJy,h⟩:=yU h
   refine WC.y2P (fun (zce : Int)=>(zmO zce = some r)) (fun zce=>[(4,(.pointer (some ⟨zAm,0,none⟩))),(9,(.pointer (some ⟨zAo,0,none⟩)))]) (fun zce=>[stb zAm 132 [(.int .i64 0),(.int .i64 0)],stb zAo 132 [(.int .i64 zce),(.int .i64 (i64 (u64 (Int.tdiv zcd z5a))))]]) ?_ ?_
   ·skip
    refine WC.b (WC.a (WL.pu rfl (WL.pu rfl (WL.pu rfl (WL.pu rfl ?_)))))
    refine WL.qA 42 (q_bneq Tryz.underlying4 rfl rfl) ?_
    refine WL.nil (WX.a ?_)
    refine WC.cond rfl (fun zsk=>?_) (fun zsk=>?_)
    ·replace h:=yn h zsk
     refine WC.a ?_
     refine WL.qA 43 (ya y1K rfl rfl) ?_
     refine WL.qA 44 (yc yt rfl (yk .here rfl)) ?_
     refine WL.qA 45 (q_neg rfl rfl) ?_
     refine WL.qA 46 (ya y1K rfl rfl) ?_
     refine WL.ym rfl rfl (y5u (ds:=[(.int .i64 (i64 (0 - (i64 (u64 (Int.tdiv z8r z5a)))))),(.int .i64 (i64 (u64 (Int.tdiv zcd z5a))))]) sizT_3 rfl rfl rfl rfl rfl .here rfl rfl) ?_
     refine WL.nil ?_
     exact WX.mid (G:=Int) (i64 (0 - (i64 (u64 (Int.tdiv z8r z5a))))) h (.cons rfl (.cons rfl .nil)) (.cons .h1 (.cons .here .nil))
    ·replace h:=yo h zsk
     refine WC.skip ?_
     exact WX.mid (G:=Int) (i64 (u64 (Int.tdiv z8r z5a))) h (.cons rfl (.cons rfl .nil)) (.cons .h1 (.cons .here .nil))
   ·rintro zce h
    replace h:=(zJy zce).symm.trans h
    refine WC.b (WC.a ?_)
    refine WL.qA 47 (yg zd rfl (yh .h1) rfl) ?_
    refine WL.ym rfl rfl (yl zu rfl rfl rfl .here rfl rfl rfl) ?_
    refine WL.pu rfl (WL.nil (WX.a (WC.ret ?_)))
    obtain rfl:=Option.some.inj h
    refine WX.ye Tryz.results106 (.agg rfl zd rfl (yh .here) (.tmp rfl .nil)) (fun w hw=>?_)
    exact ⟨y1z rfl rfl,hw.sub .nil⟩
def y43 (z3f : Sapi_Config) (zmP : List (List Sapi_Hop)) (zei : List (Sbound_flow × z1)) (zej : List (Sbound_place × Int)) (zsl : Int) (zek : Int) : Option z1 :=
 chk ((0 : Int) ≤ zek ∧ zek < ((z3f.fVLs.length : Nat) : Int)) ((y5z ((nth z3f.fVLs zek).fMax) ((nth z3f.fVLs zek).fBag)).bind fun zAp=>some zAp.1)
set_option maxRecDepth 20000 in
theorem y6E (Z : Zp) (zAq : Addr) (zAr : Option Addr) (zAs : Nat) (zAt : Option Addr) (zAu : Nat) (zAv : Option Addr) (zAw : Nat) (zAx : Option Addr) (zAy : Nat) (zAz : Option Addr) (zAA : Nat) (zAB : Option Addr) (zAC : Nat) (zAD : Option Addr) (zAE : Nat) (zAF : Option Addr) (zAG : Nat) (zAH : Option Addr) (zAI : Nat) (zgD : Nat) (zgE : Nat) (z3f : Sapi_Config) (zmP : List (List Sapi_Hop)) (zei : List (Sbound_flow × z1)) (zej : List (Sbound_place × Int)) (zsl : Int) (zek : Int) (r : z1)
  (h : y43 z3f zmP zei zej zsl zek = some r) (w₀ : World) (hz : PZ (fps [yr zgD (fun x=>Value.agg (y1M x).toArray) (fun x=>Value.agg (yw x).toArray) zei,yr zgE (fun x=>Value.agg (e97 x).toArray) (Value.int .i64) zej]) w₀ Z)
  (zVW : ZS Z 4 (y3y Z) zAr zAs z3f.fModules)
  (zVX : ZS Z 4 (y49 Z) zAt zAu z3f.fChannels)
  (zVY : ZS Z 4 (fun r x=>r = e66 x) zAv zAw z3f.fSwitches)
  (zVZ : ZS Z 4 (fun r x=>r = e64 x) zAx zAy z3f.fLinks)
  (zAJ : ZS Z 7 (p46 Z) zAz zAA z3f.fVLs)
  (zW0 : ZS Z 5 (fun r x=>r = y4m x) zAB zAC z3f.fHealth)
  (zW1 : ZS Z 3 (y4a Z) zAD zAE z3f.fCauses)
  (zW2 : ZS Z 4 (fun r x=>r = y4n x) zAF zAG z3f.fVersions)
  (zW3 : ZS Z 1 (p48 Z) zAH zAI zmP)
  (zAK : ZC Z zAq [(.slice zAr z3f.fModules.length zAs),(.slice zAt z3f.fChannels.length zAu),(.slice zAv z3f.fSwitches.length zAw),(.slice zAx z3f.fLinks.length zAy),(.slice zAz z3f.fVLs.length zAA),(.slice zAB z3f.fHealth.length zAC),(.slice zAD z3f.fCauses.length zAE),(.slice zAF z3f.fVersions.length zAG),(.slice zAH zmP.length zAI),(.map (some zgD)),(.map (some zgE)),(.int .i64 zsl)])
  (hown : Hp (fps [yr zgD (fun x=>Value.agg (y1M x).toArray) (fun x=>Value.agg (yw x).toArray) zei,yr zgE (fun x=>Value.agg (e97 x).toArray) (Value.int .i64) zej]) w₀ w₀ [yr zgD (fun x=>Value.agg (y1M x).toArray) (fun x=>Value.agg (yw x).toArray) zei,yr zgE (fun x=>Value.agg (e97 x).toArray) (Value.int .i64) zej]) :
  Calls Tryz.prog 71 #[(.pointer (some zAq)),(.int .i64 zek)] w₀ fun e w'=>e = .returned (.agg #[(.int .i64 r.fN),(.int .i64 r.fD)]) ∧ Hp (fps [yr zgD (fun x=>Value.agg (y1M x).toArray) (fun x=>Value.agg (yw x).toArray) zei,yr zgE (fun x=>Value.agg (e97 x).toArray) (Value.int .i64) zej]) w₀ w' [yr zgD (fun x=>Value.agg (y1M x).toArray) (fun x=>Value.agg (yw x).toArray) zei,yr zgE (fun x=>Value.agg (e97 x).toArray) (Value.int .i64) zej]:=by
 unfold y43 at h
 refine Calls.oh2 Tryz.func71 Tryz.ntmps71 hown ?_
 refine WC.b (WC.a ?_)
 refine WL.nA 4 (yv (cs:=[(.int .i64 0),(.int .i64 0)]) zP rfl) ?_
 intro zW4 _
 refine WL.nil (WX.a (WC.b ?_))
 obtain ⟨zAL,h⟩:=yq h
 obtain ⟨zAp,zJz,h⟩:=z7 h
 refine WC.yL (fun i=>[23].contains i) [] rfl ?_
 refine WD.pA 0 8 rfl (fun _=>q_m rfl) ?_
 refine WD.pA 1 9 rfl (fun _=>yV rfl) ?_
 refine WD.pA 2 10 rfl (fun _=>ya y5M rfl rfl) ?_
 refine WD.pA 3 11 rfl (fun _=>ya y73 rfl rfl) ?_
 refine WD.qA 4 12 rfl (yc y74 rfl (y11 hz.pv zAK rfl)) ?_
 refine WD.pA 5 13 rfl (fun _=>q_m rfl) ?_
 refine WD.znth (j:=6) (dd:=14) (by kernel_rfl) rfl z2E z2F rfl rfl (Z:=Z) (Pr:=(p46 Z)) y8u rfl rfl zAJ zAL ?_
 rintro zW5 zW6 zJA zW7 ⟨zW8,zW9,rfl,zWa⟩
 refine WD.pA 7 15 rfl (fun _=>ya y8o rfl rfl) ?_
 refine WD.qA 8 16 rfl (yc yt rfl (y11 hz.pv zJA rfl)) ?_
 refine WD.pA 9 17 rfl (fun _=>q_m rfl) ?_
 refine WD.pA 10 18 rfl (fun _=>yV rfl) ?_
 refine WD.pA 11 19 rfl (fun _=>ya y5M rfl rfl) ?_
 refine WD.pA 12 20 rfl (fun _=>ya y73 rfl rfl) ?_
 refine WD.qA 13 21 rfl (yc y74 rfl (y11 hz.pv zAK rfl)) ?_
 refine WD.pA 14 22 rfl (fun _=>q_m rfl) ?_
 refine WD.znth (j:=15) (dd:=23) (by kernel_rfl) rfl z2E z2F rfl rfl (Z:=Z) (Pr:=(p46 Z)) y8u rfl rfl zAJ zAL ?_
 rintro zWb zWc zJB zWd ⟨zWe,zWf,rfl,zWg⟩
 refine WD.pA 16 24 rfl (fun _=>ya yda rfl rfl) ?_
 refine WD.qA 17 25 rfl (yc yt rfl (y11 hz.pv zJB rfl)) ?_
 refine WD.eA 18 26 rfl (za (l:=[.tmp 16,.tmp 25]) Tryz.call106 (.cons rfl (.cons rfl .nil))) (cc hz .nil fun w pz ho=>y7q _ _ _ _ zJz w pz ) ?_
 refine WD.pA 19 7 rfl (fun _=>q_m rfl) ?_
 refine WD.pA 20 27 rfl (fun _=>y70 rfl rfl) ?_
 refine WD.pA 21 28 rfl (fun _=>y70 rfl rfl) ?_
 refine WD.new (i:=22) (dd:=5) rfl (by kernel_rfl) rfl rfl rfl (yv (cs:=[(.int .i64 0),(.int .i64 0)]) zP rfl) (fun h'=>absurd h' (by decide)) ?_
 intro zWh _
 refine WD.forced0 (i:=23) rfl (by kernel_rfl) rfl rfl rfl (Sin.of .nil) (yl zu rfl rfl rfl .here rfl rfl rfl) ?_
 refine WD.pA 24 6 rfl (fun _=>q_z rfl) ?_
 refine WD.done (by kernel_rfl) ?_
 refine WX.a (WC.b (WC.a ?_))
 refine WL.qA 29 (yg zd rfl (yh .here) rfl) ?_
 refine WL.ym rfl rfl (yl zu rfl rfl rfl .h1 rfl rfl rfl) ?_
 refine WL.nil (WX.a (WC.ret ?_))
 obtain rfl:=Option.some.inj h
 refine WX.ye Tryz.results71 (.agg rfl zd rfl (yh .here) .nil) (fun w hw=>?_)
 exact ⟨yD rfl,hw.sub (.cons .h2 (.cons .h2 .nil))⟩
def y1y (z1d : z1) : Option Bool :=
 (if (((decide (z1d.fD ≥ 1)) && (decide (z1d.fD ≤ 1073741824))) && (decide (z1d.fN ≥ (-1073741824)))) && (decide (z1d.fN ≤ 1073741824)) then (y6r z1d.fN).bind fun zAM=>(y6r z1d.fD).bind fun zAN=>(y5y zAM zAN).bind fun zAO=>some (decide (zAO = 1)) else some false).bind fun zsm=>some zsm
set_option maxRecDepth 20000 in
theorem y1T (Z : Zp)  (z1d : z1) (r : Bool)
  (h : y1y z1d = some r) (w₀ : World) (hz : PZ [] w₀ Z) :
  Calls Tryz.prog 80 #[(.agg #[(.int .i64 z1d.fN),(.int .i64 z1d.fD)])] w₀ fun e w'=>e = .returned (.bool r) ∧ Hp [] w₀ w' []:=by
 unfold y1y at h
 refine Calls.on1 Tryz.func80 Tryz.ntmps80 ?_
 refine WC.b (WC.a ?_)
 refine WL.nA 1 (yH (cs:=[(.int .i64 z1d.fN),(.int .i64 z1d.fD)]) rfl rfl) ?_
 intro zsn _
 refine WL.pu rfl (WL.nil (WX.a (WC.b ?_)))
 obtain ⟨zsm,zAP,h⟩:=z7 h
 refine WC.yL (fun i=>[].contains i) [] rfl ?_
 refine WD.pA 0 3 rfl (fun _=>ya y2a rfl rfl) ?_
 refine WD.qA 1 4 rfl (yc yt rfl (yk .here rfl)) ?_
 refine WD.pA 2 5 rfl (fun _=>q_geq rfl rfl) ?_
 refine WD.pA 3 6 rfl (fun _=>q_m rfl) ?_
 refine WD.mid (fuel':=21) [(1,(.pointer (some ⟨zsn,0,none⟩))),(2,(.bool false)),(6,(.bool (decide (z1d.fD ≥ 1)))),(10,(.bool ((decide (z1d.fD ≥ 1)) && (decide (z1d.fD ≤ 1073741824)))))] (y29 29 [7,6,5,4,3,2,1,0]) ?_ (fun zAQ=>?_)
 rotate_left
 ·rcases Bool.eq_false_or_eq_true (decide (z1d.fD ≥ 1)) with hb' | hb'
  ·have zso:=hb'; clear hb'
   refine WD.pin (i:=6) rfl zso ?_
   refine WD.pA 4 7 rfl (fun _=>ya y2a rfl rfl) ?_
   refine WD.qA 5 8 rfl (yc yt rfl (yk .here rfl)) ?_
   refine WD.pA 6 9 rfl (fun _=>q_leq rfl rfl) ?_
   refine WD.pA 7 10 rfl (fun _=>y2y rfl rfl) ?_
   refine WD.reL (.cons .here .nil) ?_ zAQ
   exact (.cons rfl (.cons rfl (.cons (zx (Eq.symm zso)) (.cons (zx (y2c zso)) .nil))))
  ·have zsp:=hb'; clear hb'
   refine WD.pin (i:=6) rfl zsp ?_
   refine WD.kA 4 7 rfl ?_
   refine WD.kA 5 8 rfl ?_
   refine WD.kA 6 9 rfl ?_
   refine WD.pA 7 10 rfl (fun _=>y2z rfl rfl) ?_
   refine WD.reL (.cons .here .nil) ?_ zAQ
   exact (.cons rfl (.cons rfl (.cons (zx (Eq.symm zsp)) (.cons (zx (y2b zsp)) .nil))))
 refine WD.d #[true,true,true,true,true,true,true,true,false,false,false,false,false,false,false,false,false,false,false,false,false,false,false,false,false,false,false,false,false] (by kernel_rfl) ?_
 refine WD.pA 8 11 rfl (fun _=>q_m rfl) ?_
 refine WD.mid (fuel':=16) [(1,(.pointer (some ⟨zsn,0,none⟩))),(2,(.bool false)),(11,(.bool ((decide (z1d.fD ≥ 1)) && (decide (z1d.fD ≤ 1073741824))))),(15,(.bool (((decide (z1d.fD ≥ 1)) && (decide (z1d.fD ≤ 1073741824))) && (decide (z1d.fN ≥ (-1073741824))))))] (y29 29 [12,11,10,9,8,7,6,5,4,3,2,1,0]) ?_ (fun zAR=>?_)
 rotate_left
 ·rcases Bool.eq_false_or_eq_true ((decide (z1d.fD ≥ 1)) && (decide (z1d.fD ≤ 1073741824))) with hb' | hb'
  ·have zsq:=hb'; clear hb'
   refine WD.pin (i:=11) rfl zsq ?_
   refine WD.pA 9 12 rfl (fun _=>ya y1K rfl rfl) ?_
   refine WD.qA 10 13 rfl (yc yt rfl (yk .here rfl)) ?_
   refine WD.pA 11 14 rfl (fun _=>q_geq rfl rfl) ?_
   refine WD.pA 12 15 rfl (fun _=>y2y rfl rfl) ?_
   refine WD.reL (.cons .here .nil) ?_ zAR
   exact (.cons rfl (.cons rfl (.cons (zx (Eq.symm zsq)) (.cons (zx (y2c zsq)) .nil))))
  ·have zsr:=hb'; clear hb'
   refine WD.pin (i:=11) rfl zsr ?_
   refine WD.kA 9 12 rfl ?_
   refine WD.kA 10 13 rfl ?_
   refine WD.kA 11 14 rfl ?_
   refine WD.pA 12 15 rfl (fun _=>y2z rfl rfl) ?_
   refine WD.reL (.cons .here .nil) ?_ zAR
   exact (.cons rfl (.cons rfl (.cons (zx (Eq.symm zsr)) (.cons (zx (y2b zsr)) .nil))))
 refine WD.d #[true,true,true,true,true,true,true,true,true,true,true,true,true,false,false,false,false,false,false,false,false,false,false,false,false,false,false,false,false] (by kernel_rfl) ?_
 refine WD.pA 13 16 rfl (fun _=>q_m rfl) ?_
 refine WD.mid (fuel':=11) [(1,(.pointer (some ⟨zsn,0,none⟩))),(2,(.bool false)),(16,(.bool (((decide (z1d.fD ≥ 1)) && (decide (z1d.fD ≤ 1073741824))) && (decide (z1d.fN ≥ (-1073741824)))))),(20,(.bool ((((decide (z1d.fD ≥ 1)) && (decide (z1d.fD ≤ 1073741824))) && (decide (z1d.fN ≥ (-1073741824)))) && (decide (z1d.fN ≤ 1073741824)))))] (y29 29 [17,16,15,14,13,12,11,10,9,8,7,6,5,4,3,2,1,0]) ?_ (fun zAS=>?_)
 rotate_left
 ·rcases Bool.eq_false_or_eq_true (((decide (z1d.fD ≥ 1)) && (decide (z1d.fD ≤ 1073741824))) && (decide (z1d.fN ≥ (-1073741824)))) with hb' | hb'
  ·have zss:=hb'; clear hb'
   refine WD.pin (i:=16) rfl zss ?_
   refine WD.pA 14 17 rfl (fun _=>ya y1K rfl rfl) ?_
   refine WD.qA 15 18 rfl (yc yt rfl (yk .here rfl)) ?_
   refine WD.pA 16 19 rfl (fun _=>q_leq rfl rfl) ?_
   refine WD.pA 17 20 rfl (fun _=>y2y rfl rfl) ?_
   refine WD.reL (.cons .here .nil) ?_ zAS
   exact (.cons rfl (.cons rfl (.cons (zx (Eq.symm zss)) (.cons (zx (y2c zss)) .nil))))
  ·have zst:=hb'; clear hb'
   refine WD.pin (i:=16) rfl zst ?_
   refine WD.kA 14 17 rfl ?_
   refine WD.kA 15 18 rfl ?_
   refine WD.kA 16 19 rfl ?_
   refine WD.pA 17 20 rfl (fun _=>y2z rfl rfl) ?_
   refine WD.reL (.cons .here .nil) ?_ zAS
   exact (.cons rfl (.cons rfl (.cons (zx (Eq.symm zst)) (.cons (zx (y2b zst)) .nil))))
 refine WD.d #[true,true,true,true,true,true,true,true,true,true,true,true,true,true,true,true,true,true,false,false,false,false,false,false,false,false,false,false,false] (by kernel_rfl) ?_
 refine WD.pA 18 21 rfl (fun _=>q_m rfl) ?_
 refine WD.mid (fuel':=1) [(2,(.bool false)),(21,(.bool ((((decide (z1d.fD ≥ 1)) && (decide (z1d.fD ≤ 1073741824))) && (decide (z1d.fN ≥ (-1073741824)))) && (decide (z1d.fN ≤ 1073741824))))),(30,(.bool zsm))] (y29 29 [27,26,25,24,23,22,21,20,19,18,17,16,15,14,13,12,11,10,9,8,7,6,5,4,3,2,1,0]) ?_ (fun zAT=>?_)
 rotate_left
 ·rcases Bool.eq_false_or_eq_true ((((decide (z1d.fD ≥ 1)) && (decide (z1d.fD ≤ 1073741824))) && (decide (z1d.fN ≥ (-1073741824)))) && (decide (z1d.fN ≤ 1073741824))) with hb' | hb'
  ·have zsu:=hb'; clear hb'
   have z9Z:=yn zAP zsu
   obtain ⟨zAM,zJC,z9Z⟩:=z7 z9Z
   obtain ⟨zAN,zJD,z9Z⟩:=z7 z9Z
   obtain ⟨zAO,zJE,z9Z⟩:=z7 z9Z
   replace z9Z:=Option.some.inj z9Z
   refine WD.pin (i:=21) rfl zsu ?_
   refine WD.pA 19 22 rfl (fun _=>ya y1K rfl rfl) ?_
   refine WD.qA 20 23 rfl (yc yt rfl (yk .here rfl)) ?_
   refine WD.eA 21 24 rfl (za (l:=[.tmp 23]) Tryz.call112 (.cons rfl .nil)) (cc hz .nil fun w pz ho=>y8g _ _ _ zJC w pz ) ?_
   refine WD.pA 22 25 rfl (fun _=>ya y2a rfl rfl) ?_
   refine WD.qA 23 26 rfl (yc yt rfl (yk .here rfl)) ?_
   refine WD.eA 24 27 rfl (za (l:=[.tmp 26]) Tryz.call112 (.cons rfl .nil)) (cc hz .nil fun w pz ho=>y8g _ _ _ zJD w pz ) ?_
   refine WD.eA 25 28 rfl (za (l:=[.tmp 24,.tmp 27]) Tryz.call111 (.cons rfl (.cons rfl .nil))) (cc hz .nil fun w pz ho=>y8y _ _ _ _ zJE w pz ) ?_
   refine WD.pA 26 29 rfl (fun _=>y8e rfl rfl) ?_
   refine WD.pA 27 30 rfl (fun _=>y2y rfl rfl) ?_
   refine WD.reL (.cons .here .nil) ?_ zAT
   exact (.cons rfl (.cons (zx (Eq.symm zsu)) (.cons (zx z9Z) .nil)))
  ·have zsv:=hb'; clear hb'
   have zsw:=yo zAP zsv
   replace zsw:=Option.some.inj zsw
   refine WD.pin (i:=21) rfl zsv ?_
   refine WD.kA 19 22 rfl ?_
   refine WD.kA 20 23 rfl ?_
   refine WD.kA 21 24 rfl ?_
   refine WD.kA 22 25 rfl ?_
   refine WD.kA 23 26 rfl ?_
   refine WD.kA 24 27 rfl ?_
   refine WD.kA 25 28 rfl ?_
   refine WD.kA 26 29 rfl ?_
   refine WD.pA 27 30 rfl (fun _=>y2z rfl rfl) ?_
   refine WD.reL (.cons .here .nil) ?_ zAT
   exact (.cons rfl (.cons (zx (Eq.symm zsv)) (.cons (zx zsw) .nil)))
 refine WD.d #[true,true,true,true,true,true,true,true,true,true,true,true,true,true,true,true,true,true,true,true,true,true,true,true,true,true,true,true,false] (by kernel_rfl) ?_
 refine WD.pA 28 2 rfl (fun _=>q_z rfl) ?_
 refine WD.done (by kernel_rfl) ?_
 refine WX.a (WC.ret ?_)
 obtain rfl:=Option.some.inj h
 refine WX.ye Tryz.results80 (.tmp rfl .nil) (fun w hw=>?_)
 exact ⟨yD rfl,hw.sub .nil⟩
def y9G (zgF : z1) (zgG : z1) : Option (Int × Int) :=
 some ((i64 (zgF.fN * zgG.fN)),(i64 (zgF.fD * zgG.fD)))
set_option maxRecDepth 20000 in
theorem ydA (Z : Zp) (zAU : Addr) (zAV : Addr) (zgF : z1) (zgG : z1) (r : Int × Int)
  (h : y9G zgF zgG = some r) (w₀ : World) (hz : PZ [] w₀ Z)
  (zAW : ZC Z zAU [(.int .i64 zgF.fN),(.int .i64 zgF.fD)])
  (zAX : ZC Z zAV [(.int .i64 zgG.fN),(.int .i64 zgG.fD)]) :
  Calls Tryz.prog 143 #[(.pointer (some zAU)),(.pointer (some zAV))] w₀ fun e w'=>e = .returned (.tuple #[(.int .i64 r.1),(.int .i64 r.2)]) ∧ Hp [] w₀ w' []:=by
 unfold y9G at h
 refine Calls.yJ Tryz.func143 Tryz.ntmps143 ?_
 refine WC.b (WC.a (WL.pu rfl (WL.pu rfl (WL.nil (WX.a (WC.b ?_))))))
 refine WC.yL (fun i=>[].contains i) [] rfl ?_
 refine WD.pA 0 4 rfl (fun _=>ya y1K rfl rfl) ?_
 refine WD.qA 1 5 rfl (yc yt rfl (y11 hz.pv zAW rfl)) ?_
 refine WD.pA 2 6 rfl (fun _=>ya y1K rfl rfl) ?_
 refine WD.qA 3 7 rfl (yc yt rfl (y11 hz.pv zAX rfl)) ?_
 refine WD.pA 4 8 rfl (fun _=>y6g rfl rfl rfl) ?_
 refine WD.pA 5 9 rfl (fun _=>ya y2a rfl rfl) ?_
 refine WD.qA 6 10 rfl (yc yt rfl (y11 hz.pv zAW rfl)) ?_
 refine WD.pA 7 11 rfl (fun _=>ya y2a rfl rfl) ?_
 refine WD.qA 8 12 rfl (yc yt rfl (y11 hz.pv zAX rfl)) ?_
 refine WD.pA 9 13 rfl (fun _=>y6g rfl rfl rfl) ?_
 refine WD.pA 10 2 rfl (fun _=>q_z rfl) ?_
 refine WD.pA 11 3 rfl (fun _=>q_z rfl) ?_
 refine WD.done (by kernel_rfl) ?_
 refine WX.a (WC.ret ?_)
 obtain rfl:=Option.some.inj h
 refine WX.ye Tryz.results143 (.tmp rfl (.tmp rfl .nil)) (fun w hw=>?_)
 exact ⟨y1z rfl rfl,hw.sub .nil⟩
def ybe (zcf : z1) (zcg : z1) : Option (z1 × Int) :=
 (y1y zcf).bind fun zAY=>(if !zAY then some true else (y1y zcg).bind fun zAZ=>some (!zAZ)).bind fun zmQ=>if zmQ then some ((⟨0,0⟩ : z1),2) else (y9G zcf zcg).bind fun zsx=>(y5z zsx.1 zsx.2).bind fun zsy=>some (zsy.1,zsy.2)
set_option maxRecDepth 20000 in
theorem w_rat_do (Z : Zp)  (zcf : z1) (zcg : z1) (r : z1 × Int)
  (h : ybe zcf zcg = some r) (w₀ : World) (hz : PZ [] w₀ Z) :
  Calls Tryz.prog 105 #[(.string ⟨#[42]⟩),(.agg #[(.int .i64 zcf.fN),(.int .i64 zcf.fD)]),(.agg #[(.int .i64 zcg.fN),(.int .i64 zcg.fD)])] w₀ fun e w'=>e = .returned (.tuple #[(.agg #[(.int .i64 r.1.fN),(.int .i64 r.1.fD)]),(.int .i64 r.2)]) ∧ Hp [] w₀ w' []:=by
 unfold ybe at h
 refine Calls.on3 Tryz.func105 Tryz.ntmps105 ?_
 refine WC.b (WC.a ?_)
 refine WL.nA 4 (yH (cs:=[(.int .i64 zcf.fN),(.int .i64 zcf.fD)]) rfl rfl) ?_
 intro zk0 _
 refine WL.nA 5 (yH (cs:=[(.int .i64 zcg.fN),(.int .i64 zcg.fD)]) rfl rfl) ?_
 intro zk1 _
 refine WL.nA 6 (yv (cs:=[(.int .i64 0),(.int .i64 0)]) zP rfl) ?_
 intro zWi _
 refine WL.pu rfl (WL.nil (WX.a (WC.b (WC.b ?_))))
 obtain ⟨zAY,zJF,h⟩:=z7 h
 obtain ⟨zmQ,zB0,h⟩:=z7 h
 refine WC.a ?_
 refine WL.qA 9 (yg zd rfl (yh .h2) rfl) ?_
 refine WL.cA 10 (za (l:=[.tmp 9]) Tryz.call80 (.cons rfl .nil)) .nil (cc hz .nil fun w pz ho=>y1T _ _ _ zJF w pz ) ?_
 refine WL.pu rfl (WL.pu rfl ?_)
 refine WL.seg false 3 12 (B:=zmQ) rfl rfl rfl rfl rfl rfl (fun h=>(Option.some.inj (yn zB0 h)).symm) (fun _ zJG=>?_) ?_
 ·skip
  have zk2:=yo zB0 zJG
  obtain ⟨zAZ,zJH,zk2⟩:=z7 zk2
  replace zk2:=Option.some.inj zk2
  refine WL.qA 13 (yg zd rfl (yh .h1) rfl) ?_
  refine WL.cA 14 (za (l:=[.tmp 13]) Tryz.call80 (.cons rfl .nil)) .nil (cc hz .nil fun w pz ho=>y1T _ _ _ zJH w pz ) ?_
  refine WL.pu rfl (WL.pu rfl ?_)
  exact WL.yC zk2 rfl rfl .all
 refine WL.pu rfl ?_
 refine WL.seg false 7 17 (B:=zmQ) rfl rfl rfl rfl rfl rfl (fun h=>h) (fun _ zJI=>?_) ?_
 ·skip
  refine WL.pu rfl ?_
  refine WL.qA 19 (yaJ (r:=false) (by decide) rfl rfl) ?_
  refine WL.pu rfl (WL.e rfl rfl rfl (WL.e rfl rfl rfl (WL.e rfl rfl rfl (WL.pu rfl (WL.pu rfl ?_)))))
  exact WL.yC (Eq.symm zJI) rfl rfl .all
 refine WL.nil (WX.a ?_)
 refine WC.cond rfl (fun zsz=>?_) (fun zsz=>?_)
 ·replace h:=yn h zsz
  refine WC.b (WC.a ?_)
  refine WL.qA 26 (yI (v:=(.agg #[(.int .i64 0),(.int .i64 0)])) (Eos.parts (l:=[]) .nil []) (fun _=>by kernel_rfl)) ?_
  refine WL.ym rfl rfl (yl zu rfl rfl rfl .here rfl rfl rfl) ?_
  refine WL.pu rfl (WL.nil (WX.a (WC.ret (WX.yd ?_))))
  obtain rfl:=Option.some.inj h
  refine WX.ye Tryz.results105 (.agg rfl zd rfl (yh .here) (.tmp rfl .nil)) (fun w hw=>?_)
  exact ⟨y1z rfl rfl,hw.sub .nil⟩
 ·replace h:=yo h zsz
  refine WC.skip (WX.a (WC.b (WC.a ?_)))
  refine WL.nA 27 (y3e Value.string (fun x=>x)) ?_
  intro zWj _
  refine WL.qA 28 (yX (Eos.caps (l:=[.tmp 4,.tmp 5]) (.cons rfl (.cons rfl .nil)))) ?_
  refine WL.ym rfl rfl (y2W (k:=⟨#[43]⟩) (v:=(.func (.func 141) #[] #[(.pointer (some ⟨zk0,0,none⟩)),(.pointer (some ⟨zk1,0,none⟩))])) y3g Tryz.underlying258 rfl rfl rfl rfl .here) ?_
  refine WL.qA 29 (yX (Eos.caps (l:=[.tmp 4,.tmp 5]) (.cons rfl (.cons rfl .nil)))) ?_
  refine WL.ym rfl rfl (y2W (k:=⟨#[45]⟩) (v:=(.func (.func 142) #[] #[(.pointer (some ⟨zk0,0,none⟩)),(.pointer (some ⟨zk1,0,none⟩))])) y3g Tryz.underlying258 rfl rfl rfl rfl .here) ?_
  refine WL.qA 30 (yX (Eos.caps (l:=[.tmp 4,.tmp 5]) (.cons rfl (.cons rfl .nil)))) ?_
  refine WL.ym rfl rfl (y2W (k:=⟨#[42]⟩) (v:=(.func (.func 143) #[] #[(.pointer (some ⟨zk0,0,none⟩)),(.pointer (some ⟨zk1,0,none⟩))])) y3g Tryz.underlying258 rfl rfl rfl rfl .here) ?_
  refine WL.qA 31 (yX (Eos.caps (l:=[.tmp 4,.tmp 5]) (.cons rfl (.cons rfl .nil)))) ?_
  refine WL.ym rfl rfl (y2W (k:=⟨#[47]⟩) (v:=(.func (.func 144) #[] #[(.pointer (some ⟨zk0,0,none⟩)),(.pointer (some ⟨zk1,0,none⟩))])) y3g Tryz.underlying258 rfl rfl rfl rfl .here) ?_
  refine WL.pu rfl (WL.pu rfl (WL.nil (WX.a (WC.b ?_))))
  obtain ⟨zsx,zJJ,h⟩:=z7 h
  obtain ⟨zsy,zJK,h⟩:=z7 h
  refine WC.a (WL.pu rfl (WL.pu rfl ?_))
  refine WL.qA 35 (yaI (k:=⟨#[42]⟩) (dflt:=.nilFunc) (r:=(.func (.func 143) #[] #[(.pointer (some ⟨zk0,0,none⟩)),(.pointer (some ⟨zk1,0,none⟩))])) y3g Tryz.underlying258 zm4 rfl rfl rfl .here (by rfl)) ?_
  refine WL.cA 36 (y27 (l:=[]) Tryz.call143 rfl .nil) .nil (ccl hz .nil (.cons .h3 (.cons .h2 .nil)) fun w pz ho la=>ydA _ _ _ _ _ _ zJJ w pz ((la _ (.head _) _).stb) ((la _ (.tail _ (.head _)) _).stb)) ?_
  refine WL.pu rfl (WL.pu rfl ?_)
  refine WL.cA 39 (za (l:=[.tmp 37,.tmp 38]) Tryz.call106 (.cons rfl (.cons rfl .nil))) .nil (cc hz .nil fun w pz ho=>y7q _ _ _ _ zJK w pz ) ?_
  refine WL.pu rfl (WL.pu rfl ?_)
  refine WL.ym rfl rfl (yl zu rfl rfl rfl .h1 rfl rfl rfl) ?_
  refine WL.pu rfl (WL.nil (WX.a (WC.ret ?_)))
  obtain rfl:=Option.some.inj h
  refine WX.ye Tryz.results105 (.agg rfl zd rfl (yh .here) (.tmp rfl .nil)) (fun w hw=>?_)
  exact ⟨y1z rfl rfl,hw.sub .nil⟩
def y5p (zel : z1) (zem : z1) : Option (z1 × Int) :=
 (ybe zel zem).bind fun zsA=>some (zsA.1,zsA.2)
set_option maxRecDepth 20000 in
theorem yau (Z : Zp)  (zel : z1) (zem : z1) (r : z1 × Int)
  (h : y5p zel zem = some r) (w₀ : World) (hz : PZ [] w₀ Z) :
  Calls Tryz.prog 70 #[(.agg #[(.int .i64 zel.fN),(.int .i64 zel.fD)]),(.agg #[(.int .i64 zem.fN),(.int .i64 zem.fD)])] w₀ fun e w'=>e = .returned (.tuple #[(.agg #[(.int .i64 r.1.fN),(.int .i64 r.1.fD)]),(.int .i64 r.2)]) ∧ Hp [] w₀ w' []:=by
 unfold y5p at h
 refine Calls.yJ Tryz.func70 Tryz.ntmps70 ?_
 refine WC.b (WC.a ?_)
 refine WL.nA 2 (yH (cs:=[(.int .i64 zel.fN),(.int .i64 zel.fD)]) rfl rfl) ?_
 intro zWk _
 refine WL.nA 3 (yH (cs:=[(.int .i64 zem.fN),(.int .i64 zem.fD)]) rfl rfl) ?_
 intro zWl _
 refine WL.nA 4 (yv (cs:=[(.int .i64 0),(.int .i64 0)]) zP rfl) ?_
 intro zWm _
 refine WL.pu rfl (WL.nil (WX.a (WC.b ?_)))
 obtain ⟨zsA,zJL,h⟩:=z7 h
 refine WC.a ?_
 refine WL.qA 6 (yg zd rfl (yh .h2) rfl) ?_
 refine WL.qA 7 (yg zd rfl (yh .h1) rfl) ?_
 refine WL.cA 8 (za (l:=[.const (.string ⟨#[42]⟩),.tmp 6,.tmp 7]) Tryz.call105 (.cons rfl (.cons rfl (.cons rfl .nil)))) .nil (cc hz .nil fun w pz ho=>w_rat_do _ _ _ _ zJL w pz ) ?_
 refine WL.pu rfl (WL.pu rfl ?_)
 refine WL.ym rfl rfl (yl zu rfl rfl rfl .here rfl rfl rfl) ?_
 refine WL.pu rfl (WL.nil (WX.a (WC.ret ?_)))
 obtain rfl:=Option.some.inj h
 refine WX.ye Tryz.results70 (.agg rfl zd rfl (yh .here) (.tmp rfl .nil)) (fun w hw=>?_)
 exact ⟨y1z rfl rfl,hw.sub .nil⟩
def y3T (zB : Sapi_Config) (z8s : List (List Sapi_Hop)) (zch : List (Sbound_flow × z1)) (zci : List (Sbound_place × Int)) (za0 : Int) (zcj : z1 → z1 → Option (z1 × Int)) (zck : z1) (zcl : z1) : Option (z1 × Int) :=
 (zcj zck zcl).bind fun z8t=>jp1 (fun (za1 : Int)=>if decide (z8t.2 ≠ 0) then (y36 0).bind fun zB1=>some (zB1,za1) else some (z8t.1,za1)) fun zmR=>if decide (za0 = 0) then zmR z8t.2 else zmR za0
set_option maxRecDepth 20000 in
theorem y5W (Z : Zp) (zen : Nat) (zcm : Option Addr) (zcn : Nat) (zco : Option Addr) (zcp : Nat) (zcq : Option Addr) (zcr : Nat) (zcs : Option Addr) (zct : Nat) (zcu : Option Addr) (zcv : Nat) (zcw : Option Addr) (zcx : Nat) (zcy : Option Addr) (zcz : Nat) (zcA : Option Addr) (zcB : Nat) (zcC : Option Addr) (zcD : Nat) (z6o : Nat) (z6p : Nat) (za2 : FuncId) (zeo : List Value) (zB : Sapi_Config) (z8s : List (List Sapi_Hop)) (zch : List (Sbound_flow × z1)) (zci : List (Sbound_place × Int)) (za0 : Int) (zcj : z1 → z1 → Option (z1 × Int)) (zck : z1) (zcl : z1) (r : z1 × Int)
  (h : y3T zB z8s zch zci za0 zcj zck zcl = some r) (w₀ : World) (hz : PZ (fps [stb zen 95 [(.slice zcm zB.fModules.length zcn),(.slice zco zB.fChannels.length zcp),(.slice zcq zB.fSwitches.length zcr),(.slice zcs zB.fLinks.length zct),(.slice zcu zB.fVLs.length zcv),(.slice zcw zB.fHealth.length zcx),(.slice zcy zB.fCauses.length zcz),(.slice zcA zB.fVersions.length zcB),(.slice zcC z8s.length zcD),(.map (some z6o)),(.map (some z6p)),(.int .i64 za0)],yr z6o (fun x=>Value.agg (y1M x).toArray) (fun x=>Value.agg (yw x).toArray) zch,yr z6p (fun x=>Value.agg (e97 x).toArray) (Value.int .i64) zci]) w₀ Z)
  (zWn : ZS Z 4 (y3y Z) zcm zcn zB.fModules)
  (zWo : ZS Z 4 (y49 Z) zco zcp zB.fChannels)
  (zWp : ZS Z 4 (fun r x=>r = e66 x) zcq zcr zB.fSwitches)
  (zWq : ZS Z 4 (fun r x=>r = e64 x) zcs zct zB.fLinks)
  (zWr : ZS Z 7 (p46 Z) zcu zcv zB.fVLs)
  (zWs : ZS Z 5 (fun r x=>r = y4m x) zcw zcx zB.fHealth)
  (zWt : ZS Z 3 (y4a Z) zcy zcz zB.fCauses)
  (zWu : ZS Z 4 (fun r x=>r = y4n x) zcA zcB zB.fVersions)
  (zWv : ZS Z 1 (p48 Z) zcC zcD z8s)
  (zJM : ∀ args w,(callFunc za2 args).run Tryz.prog w = .ok (.enter za2 args) w)
  (zJN : ∀ w : World,PZ [] w Z → ∀ (x0 : z1) (x1 : z1) (r : z1 × Int),zcj x0 x1 = some r → Calls Tryz.prog za2 (([(.agg #[(.int .i64 x0.fN),(.int .i64 x0.fD)]),(.agg #[(.int .i64 x1.fN),(.int .i64 x1.fD)])] : List Value) ++ zeo).toArray w fun e w'=>e = .returned (.tuple #[(.agg #[(.int .i64 r.1.fN),(.int .i64 r.1.fD)]),(.int .i64 r.2)]) ∧ Hp [] w w' [])
  (hown : Hp (fps [stb zen 95 [(.slice zcm zB.fModules.length zcn),(.slice zco zB.fChannels.length zcp),(.slice zcq zB.fSwitches.length zcr),(.slice zcs zB.fLinks.length zct),(.slice zcu zB.fVLs.length zcv),(.slice zcw zB.fHealth.length zcx),(.slice zcy zB.fCauses.length zcz),(.slice zcA zB.fVersions.length zcB),(.slice zcC z8s.length zcD),(.map (some z6o)),(.map (some z6p)),(.int .i64 za0)],yr z6o (fun x=>Value.agg (y1M x).toArray) (fun x=>Value.agg (yw x).toArray) zch,yr z6p (fun x=>Value.agg (e97 x).toArray) (Value.int .i64) zci]) w₀ w₀ [stb zen 95 [(.slice zcm zB.fModules.length zcn),(.slice zco zB.fChannels.length zcp),(.slice zcq zB.fSwitches.length zcr),(.slice zcs zB.fLinks.length zct),(.slice zcu zB.fVLs.length zcv),(.slice zcw zB.fHealth.length zcx),(.slice zcy zB.fCauses.length zcz),(.slice zcA zB.fVersions.length zcB),(.slice zcC z8s.length zcD),(.map (some z6o)),(.map (some z6p)),(.int .i64 za0)],yr z6o (fun x=>Value.agg (y1M x).toArray) (fun x=>Value.agg (yw x).toArray) zch,yr z6p (fun x=>Value.agg (e97 x).toArray) (Value.int .i64) zci]) :
  Calls Tryz.prog 68 #[(.pointer (some ⟨zen,0,none⟩)),(.func (.func za2) #[] (zeo).toArray),(.agg #[(.int .i64 zck.fN),(.int .i64 zck.fD)]),(.agg #[(.int .i64 zcl.fN),(.int .i64 zcl.fD)])] w₀ fun e w'=>e = .returned (.agg #[(.int .i64 r.1.fN),(.int .i64 r.1.fD)]) ∧ Hp (fps [stb zen 95 [(.slice zcm zB.fModules.length zcn),(.slice zco zB.fChannels.length zcp),(.slice zcq zB.fSwitches.length zcr),(.slice zcs zB.fLinks.length zct),(.slice zcu zB.fVLs.length zcv),(.slice zcw zB.fHealth.length zcx),(.slice zcy zB.fCauses.length zcz),(.slice zcA zB.fVersions.length zcB),(.slice zcC z8s.length zcD),(.map (some z6o)),(.map (some z6p)),(.int .i64 za0)],yr z6o (fun x=>Value.agg (y1M x).toArray) (fun x=>Value.agg (yw x).toArray) zch,yr z6p (fun x=>Value.agg (e97 x).toArray) (Value.int .i64) zci]) w₀ w' [stb zen 95 [(.slice zcm zB.fModules.length zcn),(.slice zco zB.fChannels.length zcp),(.slice zcq zB.fSwitches.length zcr),(.slice zcs zB.fLinks.length zct),(.slice zcu zB.fVLs.length zcv),(.slice zcw zB.fHealth.length zcx),(.slice zcy zB.fCauses.length zcz),(.slice zcA zB.fVersions.length zcB),(.slice zcC z8s.length zcD),(.map (some z6o)),(.map (some z6p)),(.int .i64 r.2)],yr z6o (fun x=>Value.agg (y1M x).toArray) (fun x=>Value.agg (yw x).toArray) zch,yr z6p (fun x=>Value.agg (e97 x).toArray) (Value.int .i64) zci]:=by
 unfold y3T at h
 refine Calls.oh4 Tryz.func68 Tryz.ntmps68 hown ?_
 refine WC.b (WC.a ?_)
 refine WL.nA 6 (yH (cs:=[(.int .i64 zck.fN),(.int .i64 zck.fD)]) rfl rfl) ?_
 intro zWw _
 refine WL.nA 7 (yH (cs:=[(.int .i64 zcl.fN),(.int .i64 zcl.fD)]) rfl rfl) ?_
 intro zWx _
 refine WL.nA 8 (yv (cs:=[(.int .i64 0),(.int .i64 0)]) zP rfl) ?_
 intro zB2 _
 refine WL.nil (WX.a (WC.b ?_))
 obtain ⟨z8t,zJO,h⟩:=z7 h
 refine WC.a (WL.pu rfl ?_)
 refine WL.qA 13 (yg zd rfl (yh .h2) rfl) ?_
 refine WL.qA 14 (yg zd rfl (yh .h1) rfl) ?_
 refine WL.cA 15 (y27 (l:=[.tmp 13,.tmp 14]) (f:=za2) (caps:=zeo) zJM rfl (.cons rfl (.cons rfl .nil))) .nil (fun w hw=>zJN w (hz.now hw) zck zcl z8t  zJO) ?_
 refine WL.pu rfl (WL.pu rfl (WL.pu rfl ?_))
 refine WL.nA 9 (yv (cs:=[(.int .i64 0),(.int .i64 0)]) zP rfl) ?_
 intro zB3 _
 refine WL.ym rfl rfl (yl zu rfl rfl rfl .here rfl rfl rfl) ?_
 refine WL.pu rfl (WL.nil (WX.a ?_))
 obtain ⟨zmR,zJP,h⟩:=yU h
 refine WC.y2P (fun (za1 : Int)=>(zmR za1 = some r)) (fun za1=>[(8,(.pointer (some ⟨zB2,0,none⟩))),(9,(.pointer (some ⟨zB3,0,none⟩))),(10,(.int .i64 z8t.2))]) (fun za1=>[stb zB2 132 [(.int .i64 0),(.int .i64 0)],stb zB3 132 [(.int .i64 z8t.1.fN),(.int .i64 z8t.1.fD)],stb zen 95 [(.slice zcm zB.fModules.length zcn),(.slice zco zB.fChannels.length zcp),(.slice zcq zB.fSwitches.length zcr),(.slice zcs zB.fLinks.length zct),(.slice zcu zB.fVLs.length zcv),(.slice zcw zB.fHealth.length zcx),(.slice zcy zB.fCauses.length zcz),(.slice zcA zB.fVersions.length zcB),(.slice zcC z8s.length zcD),(.map (some z6o)),(.map (some z6p)),(.int .i64 za1)],yr z6o (fun x=>Value.agg (y1M x).toArray) (fun x=>Value.agg (yw x).toArray) zch,yr z6p (fun x=>Value.agg (e97 x).toArray) (Value.int .i64) zci]) ?_ ?_
 ·skip
  refine WC.b (WC.a (WL.pu rfl ?_))
  refine WL.qA 19 (yV rfl) ?_
  refine WL.qA 20 (ya y8q rfl rfl) ?_
  refine WL.qA 21 (yc y2E rfl (yk .h4 rfl)) ?_
  refine WL.pu rfl (WL.nil (WX.a ?_))
  refine WC.cond rfl (fun zsB=>?_) (fun zsB=>?_)
  ·replace h:=yn h zsB
   refine WC.a (WL.pu rfl (WL.pu rfl ?_))
   refine WL.qA 25 (yV rfl) ?_
   refine WL.qA 26 (ya y8q rfl rfl) ?_
   refine WL.ym rfl rfl (y5u (ds:=[(.slice zcm zB.fModules.length zcn),(.slice zco zB.fChannels.length zcp),(.slice zcq zB.fSwitches.length zcr),(.slice zcs zB.fLinks.length zct),(.slice zcu zB.fVLs.length zcv),(.slice zcw zB.fHealth.length zcx),(.slice zcy zB.fCauses.length zcz),(.slice zcA zB.fVersions.length zcB),(.slice zcC z8s.length zcD),(.map (some z6o)),(.map (some z6p)),(.int .i64 z8t.2)]) y9g rfl rfl rfl rfl rfl .h4 rfl rfl) ?_
   refine WL.nil ?_
   exact WX.mid (G:=Int) z8t.2 h (.cons rfl (.cons rfl (.cons rfl .nil))) (.cons .h2 (.cons .h1 (.cons .here (.cons .h2 (.cons .h2 .nil)))))
  ·replace h:=yo h zsB
   refine WC.skip ?_
   exact WX.mid (G:=Int) za0 h (.cons rfl (.cons rfl (.cons rfl .nil))) (.cons .h1 (.cons .here (.cons .h2 (.cons .h2 (.cons .h2 .nil)))))
 ·rintro za1 h
  replace h:=(zJP za1).symm.trans h
  refine WC.b (WC.b (WC.a (WL.pu rfl (WL.pu rfl (WL.nil (WX.a ?_))))))
  refine WC.cond rfl (fun zsC=>?_) (fun zsC=>?_)
  ·replace h:=yn h zsC
   refine WC.b ?_
   obtain ⟨zB1,zJQ,h⟩:=z7 h
   refine WC.a ?_
   refine WL.cA 29 (za (l:=[.const (.int .i64 0)]) Tryz.call43 (.cons rfl .nil)) .nil (cc hz .nil fun w pz ho=>y3Y _ _ _ zJQ w pz ) ?_
   refine WL.ym rfl rfl (yl zu rfl rfl rfl .here rfl rfl rfl) ?_
   refine WL.nil (WX.a (WC.ret (WX.yd ?_)))
   obtain rfl:=Option.some.inj h
   refine WX.ye Tryz.results68 (.agg rfl zd rfl (yh .here) .nil) (fun w hw=>?_)
   exact ⟨yD rfl,hw.sub (.cons .h2 (.cons .h2 (.cons .h2 .nil)))⟩
  ·replace h:=yo h zsC
   refine WC.skip (WX.a (WC.b (WC.a ?_)))
   refine WL.qA 30 (yg zd rfl (yh .h1) rfl) ?_
   refine WL.ym rfl rfl (yl zu rfl rfl rfl .here rfl rfl rfl) ?_
   refine WL.nil (WX.a (WC.ret ?_))
   obtain rfl:=Option.some.inj h
   refine WX.ye Tryz.results68 (.agg rfl zd rfl (yh .here) .nil) (fun w hw=>?_)
   exact ⟨yD rfl,hw.sub (.cons .h2 (.cons .h2 (.cons .h2 .nil)))⟩
def y9H (zep : z1) (zeq : z1) : Option (Int × Int) :=
 some ((i64 ((i64 (zep.fN * zeq.fD)) + (i64 (zeq.fN * zep.fD)))),(i64 (zep.fD * zeq.fD)))
set_option maxRecDepth 20000 in
theorem ydB (Z : Zp) (zB4 : Addr) (zB5 : Addr) (zep : z1) (zeq : z1) (r : Int × Int)
  (h : y9H zep zeq = some r) (w₀ : World) (hz : PZ [] w₀ Z)
  (zsD : ZC Z zB4 [(.int .i64 zep.fN),(.int .i64 zep.fD)])
  (zsE : ZC Z zB5 [(.int .i64 zeq.fN),(.int .i64 zeq.fD)]) :
  Calls Tryz.prog 141 #[(.pointer (some zB4)),(.pointer (some zB5))] w₀ fun e w'=>e = .returned (.tuple #[(.int .i64 r.1),(.int .i64 r.2)]) ∧ Hp [] w₀ w' []:=by
 unfold y9H at h
 refine Calls.yJ Tryz.func141 Tryz.ntmps141 ?_
 refine WC.b (WC.a (WL.pu rfl (WL.pu rfl (WL.nil (WX.a (WC.b ?_))))))
 refine WC.yL (fun i=>[].contains i) [] rfl ?_
 refine WD.pA 0 4 rfl (fun _=>ya y1K rfl rfl) ?_
 refine WD.qA 1 5 rfl (yc yt rfl (y11 hz.pv zsD rfl)) ?_
 refine WD.pA 2 6 rfl (fun _=>ya y2a rfl rfl) ?_
 refine WD.qA 3 7 rfl (yc yt rfl (y11 hz.pv zsE rfl)) ?_
 refine WD.pA 4 8 rfl (fun _=>y6g rfl rfl rfl) ?_
 refine WD.pA 5 9 rfl (fun _=>ya y1K rfl rfl) ?_
 refine WD.qA 6 10 rfl (yc yt rfl (y11 hz.pv zsE rfl)) ?_
 refine WD.pA 7 11 rfl (fun _=>ya y2a rfl rfl) ?_
 refine WD.qA 8 12 rfl (yc yt rfl (y11 hz.pv zsD rfl)) ?_
 refine WD.pA 9 13 rfl (fun _=>y6g rfl rfl rfl) ?_
 refine WD.pA 10 14 rfl (fun _=>yaF rfl rfl rfl) ?_
 refine WD.pA 11 15 rfl (fun _=>ya y2a rfl rfl) ?_
 refine WD.qA 12 16 rfl (yc yt rfl (y11 hz.pv zsD rfl)) ?_
 refine WD.pA 13 17 rfl (fun _=>ya y2a rfl rfl) ?_
 refine WD.qA 14 18 rfl (yc yt rfl (y11 hz.pv zsE rfl)) ?_
 refine WD.pA 15 19 rfl (fun _=>y6g rfl rfl rfl) ?_
 refine WD.pA 16 2 rfl (fun _=>q_z rfl) ?_
 refine WD.pA 17 3 rfl (fun _=>q_z rfl) ?_
 refine WD.done (by kernel_rfl) ?_
 refine WX.a (WC.ret ?_)
 obtain rfl:=Option.some.inj h
 refine WX.ye Tryz.results141 (.tmp rfl (.tmp rfl .nil)) (fun w hw=>?_)
 exact ⟨y1z rfl rfl,hw.sub .nil⟩
def yav (zcE : z1) (zcF : z1) : Option (z1 × Int) :=
 (y1y zcE).bind fun zB6=>(if !zB6 then some true else (y1y zcF).bind fun zB7=>some (!zB7)).bind fun zmS=>if zmS then some ((⟨0,0⟩ : z1),2) else (y9H zcE zcF).bind fun zsF=>(y5z zsF.1 zsF.2).bind fun zsG=>some (zsG.1,zsG.2)
set_option maxRecDepth 20000 in
theorem ye0 (Z : Zp)  (zcE : z1) (zcF : z1) (r : z1 × Int)
  (h : yav zcE zcF = some r) (w₀ : World) (hz : PZ [] w₀ Z) :
  Calls Tryz.prog 105 #[(.string ⟨#[43]⟩),(.agg #[(.int .i64 zcE.fN),(.int .i64 zcE.fD)]),(.agg #[(.int .i64 zcF.fN),(.int .i64 zcF.fD)])] w₀ fun e w'=>e = .returned (.tuple #[(.agg #[(.int .i64 r.1.fN),(.int .i64 r.1.fD)]),(.int .i64 r.2)]) ∧ Hp [] w₀ w' []:=by
 unfold yav at h
 refine Calls.on3 Tryz.func105 Tryz.ntmps105 ?_
 refine WC.b (WC.a ?_)
 refine WL.nA 4 (yH (cs:=[(.int .i64 zcE.fN),(.int .i64 zcE.fD)]) rfl rfl) ?_
 intro zk3 _
 refine WL.nA 5 (yH (cs:=[(.int .i64 zcF.fN),(.int .i64 zcF.fD)]) rfl rfl) ?_
 intro zk4 _
 refine WL.nA 6 (yv (cs:=[(.int .i64 0),(.int .i64 0)]) zP rfl) ?_
 intro zWy _
 refine WL.pu rfl (WL.nil (WX.a (WC.b (WC.b ?_))))
 obtain ⟨zB6,zJR,h⟩:=z7 h
 obtain ⟨zmS,zB8,h⟩:=z7 h
 refine WC.a ?_
 refine WL.qA 9 (yg zd rfl (yh .h2) rfl) ?_
 refine WL.cA 10 (za (l:=[.tmp 9]) Tryz.call80 (.cons rfl .nil)) .nil (cc hz .nil fun w pz ho=>y1T _ _ _ zJR w pz ) ?_
 refine WL.pu rfl (WL.pu rfl ?_)
 refine WL.seg false 3 12 (B:=zmS) rfl rfl rfl rfl rfl rfl (fun h=>(Option.some.inj (yn zB8 h)).symm) (fun _ zJS=>?_) ?_
 ·skip
  have zk5:=yo zB8 zJS
  obtain ⟨zB7,zJT,zk5⟩:=z7 zk5
  replace zk5:=Option.some.inj zk5
  refine WL.qA 13 (yg zd rfl (yh .h1) rfl) ?_
  refine WL.cA 14 (za (l:=[.tmp 13]) Tryz.call80 (.cons rfl .nil)) .nil (cc hz .nil fun w pz ho=>y1T _ _ _ zJT w pz ) ?_
  refine WL.pu rfl (WL.pu rfl ?_)
  exact WL.yC zk5 rfl rfl .all
 refine WL.pu rfl ?_
 refine WL.seg false 7 17 (B:=zmS) rfl rfl rfl rfl rfl rfl (fun h=>h) (fun _ zJU=>?_) ?_
 ·skip
  refine WL.pu rfl ?_
  refine WL.qA 19 (yaJ (r:=false) (by decide) rfl rfl) ?_
  refine WL.pu rfl (WL.e rfl rfl rfl (WL.e rfl rfl rfl (WL.e rfl rfl rfl (WL.pu rfl (WL.pu rfl ?_)))))
  exact WL.yC (Eq.symm zJU) rfl rfl .all
 refine WL.nil (WX.a ?_)
 refine WC.cond rfl (fun zsH=>?_) (fun zsH=>?_)
 ·replace h:=yn h zsH
  refine WC.b (WC.a ?_)
  refine WL.qA 26 (yI (v:=(.agg #[(.int .i64 0),(.int .i64 0)])) (Eos.parts (l:=[]) .nil []) (fun _=>by kernel_rfl)) ?_
  refine WL.ym rfl rfl (yl zu rfl rfl rfl .here rfl rfl rfl) ?_
  refine WL.pu rfl (WL.nil (WX.a (WC.ret (WX.yd ?_))))
  obtain rfl:=Option.some.inj h
  refine WX.ye Tryz.results105 (.agg rfl zd rfl (yh .here) (.tmp rfl .nil)) (fun w hw=>?_)
  exact ⟨y1z rfl rfl,hw.sub .nil⟩
 ·replace h:=yo h zsH
  refine WC.skip (WX.a (WC.b (WC.a ?_)))
  refine WL.nA 27 (y3e Value.string (fun x=>x)) ?_
  intro zWz _
  refine WL.qA 28 (yX (Eos.caps (l:=[.tmp 4,.tmp 5]) (.cons rfl (.cons rfl .nil)))) ?_
  refine WL.ym rfl rfl (y2W (k:=⟨#[43]⟩) (v:=(.func (.func 141) #[] #[(.pointer (some ⟨zk3,0,none⟩)),(.pointer (some ⟨zk4,0,none⟩))])) y3g Tryz.underlying258 rfl rfl rfl rfl .here) ?_
  refine WL.qA 29 (yX (Eos.caps (l:=[.tmp 4,.tmp 5]) (.cons rfl (.cons rfl .nil)))) ?_
  refine WL.ym rfl rfl (y2W (k:=⟨#[45]⟩) (v:=(.func (.func 142) #[] #[(.pointer (some ⟨zk3,0,none⟩)),(.pointer (some ⟨zk4,0,none⟩))])) y3g Tryz.underlying258 rfl rfl rfl rfl .here) ?_
  refine WL.qA 30 (yX (Eos.caps (l:=[.tmp 4,.tmp 5]) (.cons rfl (.cons rfl .nil)))) ?_
  refine WL.ym rfl rfl (y2W (k:=⟨#[42]⟩) (v:=(.func (.func 143) #[] #[(.pointer (some ⟨zk3,0,none⟩)),(.pointer (some ⟨zk4,0,none⟩))])) y3g Tryz.underlying258 rfl rfl rfl rfl .here) ?_
  refine WL.qA 31 (yX (Eos.caps (l:=[.tmp 4,.tmp 5]) (.cons rfl (.cons rfl .nil)))) ?_
  refine WL.ym rfl rfl (y2W (k:=⟨#[47]⟩) (v:=(.func (.func 144) #[] #[(.pointer (some ⟨zk3,0,none⟩)),(.pointer (some ⟨zk4,0,none⟩))])) y3g Tryz.underlying258 rfl rfl rfl rfl .here) ?_
  refine WL.pu rfl (WL.pu rfl (WL.nil (WX.a (WC.b ?_))))
  obtain ⟨zsF,zJV,h⟩:=z7 h
  obtain ⟨zsG,zJW,h⟩:=z7 h
  refine WC.a (WL.pu rfl (WL.pu rfl ?_))
  refine WL.qA 35 (yaI (k:=⟨#[43]⟩) (dflt:=.nilFunc) (r:=(.func (.func 141) #[] #[(.pointer (some ⟨zk3,0,none⟩)),(.pointer (some ⟨zk4,0,none⟩))])) y3g Tryz.underlying258 zm4 rfl rfl rfl .here (by rfl)) ?_
  refine WL.cA 36 (y27 (l:=[]) Tryz.call141 rfl .nil) .nil (ccl hz .nil (.cons .h3 (.cons .h2 .nil)) fun w pz ho la=>ydB _ _ _ _ _ _ zJV w pz ((la _ (.head _) _).stb) ((la _ (.tail _ (.head _)) _).stb)) ?_
  refine WL.pu rfl (WL.pu rfl ?_)
  refine WL.cA 39 (za (l:=[.tmp 37,.tmp 38]) Tryz.call106 (.cons rfl (.cons rfl .nil))) .nil (cc hz .nil fun w pz ho=>y7q _ _ _ _ zJW w pz ) ?_
  refine WL.pu rfl (WL.pu rfl ?_)
  refine WL.ym rfl rfl (yl zu rfl rfl rfl .h1 rfl rfl rfl) ?_
  refine WL.pu rfl (WL.nil (WX.a (WC.ret ?_)))
  obtain rfl:=Option.some.inj h
  refine WX.ye Tryz.results105 (.agg rfl zd rfl (yh .here) (.tmp rfl .nil)) (fun w hw=>?_)
  exact ⟨y1z rfl rfl,hw.sub .nil⟩
def y28 (zer : z1) (zes : z1) : Option (z1 × Int) :=
 (yav zer zes).bind fun zsI=>some (zsI.1,zsI.2)
set_option maxRecDepth 20000 in
theorem y5q (Z : Zp)  (zer : z1) (zes : z1) (r : z1 × Int)
  (h : y28 zer zes = some r) (w₀ : World) (hz : PZ [] w₀ Z) :
  Calls Tryz.prog 69 #[(.agg #[(.int .i64 zer.fN),(.int .i64 zer.fD)]),(.agg #[(.int .i64 zes.fN),(.int .i64 zes.fD)])] w₀ fun e w'=>e = .returned (.tuple #[(.agg #[(.int .i64 r.1.fN),(.int .i64 r.1.fD)]),(.int .i64 r.2)]) ∧ Hp [] w₀ w' []:=by
 unfold y28 at h
 refine Calls.yJ Tryz.func69 Tryz.ntmps69 ?_
 refine WC.b (WC.a ?_)
 refine WL.nA 2 (yH (cs:=[(.int .i64 zer.fN),(.int .i64 zer.fD)]) rfl rfl) ?_
 intro zWA _
 refine WL.nA 3 (yH (cs:=[(.int .i64 zes.fN),(.int .i64 zes.fD)]) rfl rfl) ?_
 intro zWB _
 refine WL.nA 4 (yv (cs:=[(.int .i64 0),(.int .i64 0)]) zP rfl) ?_
 intro zWC _
 refine WL.pu rfl (WL.nil (WX.a (WC.b ?_)))
 obtain ⟨zsI,zJX,h⟩:=z7 h
 refine WC.a ?_
 refine WL.qA 6 (yg zd rfl (yh .h2) rfl) ?_
 refine WL.qA 7 (yg zd rfl (yh .h1) rfl) ?_
 refine WL.cA 8 (za (l:=[.const (.string ⟨#[43]⟩),.tmp 6,.tmp 7]) Tryz.call105 (.cons rfl (.cons rfl (.cons rfl .nil)))) .nil (cc hz .nil fun w pz ho=>ye0 _ _ _ _ zJX w pz ) ?_
 refine WL.pu rfl (WL.pu rfl ?_)
 refine WL.ym rfl rfl (yl zu rfl rfl rfl .here rfl rfl rfl) ?_
 refine WL.pu rfl (WL.nil (WX.a (WC.ret ?_)))
 obtain rfl:=Option.some.inj h
 refine WX.ye Tryz.results69 (.agg rfl zd rfl (yh .here) (.tmp rfl .nil)) (fun w hw=>?_)
 exact ⟨y1z rfl rfl,hw.sub .nil⟩
end Go.Proofs.YtcahmabkeaijdaaGreat
