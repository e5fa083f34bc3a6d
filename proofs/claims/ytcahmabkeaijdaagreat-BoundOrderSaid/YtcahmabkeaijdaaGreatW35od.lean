/- A part of this claim's proof: models of functions, walks, plain laws. No conditions. -/
import Derived.Test.YtcahmabkeaijdaaGreatW35oc
namespace Go.Proofs.YtcahmabkeaijdaaGreat
open Go Go.RowKit Sep
set_option linter.all false
set_option maxRecDepth 30000
set_option maxHeartbeats 4000000
def y3r (zcT : z1v) (zau : z1 → z1 → Option (z1 × Int)) (zcU : z1) (zcV : z1) : Option (z1 × z1v) :=
 if decide (zcT.fE ≠ 0) then some ((⟨0,0⟩ : z1),zcT) else (zau zcU zcV).bind fun znf=>some (znf.1,(⟨znf.2⟩ : z1v))
set_option maxRecDepth 20000 in
theorem y4P (Z : Zp) (zhd : Nat) (z8E : FuncId) (zcW : List Value) (zcT : z1v) (zau : z1 → z1 → Option (z1 × Int)) (zcU : z1) (zcV : z1) (r : z1 × z1v)
  (h : y3r zcT zau zcU zcV = some r) (w₀ : World) (hz : PZ (fps [stb zhd 262 [(.int .i64 zcT.fE)]]) w₀ Z)
  (zMI : ∀ args w,(callFunc z8E args).run Tryz.prog w = .ok (.enter z8E args) w)
  (zMJ : ∀ w : World,PZ [] w Z → ∀ (x0 : z1) (x1 : z1) (r : z1 × Int),zau x0 x1 = some r → Calls Tryz.prog z8E (([(.agg #[(.int .i64 x0.fN),(.int .i64 x0.fD)]),(.agg #[(.int .i64 x1.fN),(.int .i64 x1.fD)])] : List Value) ++ zcW).toArray w fun e w'=>e = .returned (.tuple #[(.agg #[(.int .i64 r.1.fN),(.int .i64 r.1.fD)]),(.int .i64 r.2)]) ∧ Hp [] w w' [])
  (hown : Hp (fps [stb zhd 262 [(.int .i64 zcT.fE)]]) w₀ w₀ [stb zhd 262 [(.int .i64 zcT.fE)]]) :
  Calls Tryz.prog 167 #[(.pointer (some ⟨zhd,0,none⟩)),(.func (.func z8E) #[] (zcW).toArray),(.agg #[(.int .i64 zcU.fN),(.int .i64 zcU.fD)]),(.agg #[(.int .i64 zcV.fN),(.int .i64 zcV.fD)])] w₀ fun e w'=>e = .returned (.agg #[(.int .i64 r.1.fN),(.int .i64 r.1.fD)]) ∧ Hp (fps [stb zhd 262 [(.int .i64 zcT.fE)]]) w₀ w' [stb zhd 262 [(.int .i64 r.2.fE)]]:=by
 unfold y3r at h
 refine Calls.oh4 Tryz.func167 Tryz.ntmps167 hown ?_
 refine WC.b (WC.a ?_)
 refine WL.nA 6 (yH (cs:=[(.int .i64 zcU.fN),(.int .i64 zcU.fD)]) rfl rfl) ?_
 intro zXI _
 refine WL.nA 7 (yH (cs:=[(.int .i64 zcV.fN),(.int .i64 zcV.fD)]) rfl rfl) ?_
 intro zXJ _
 refine WL.nA 8 (yv (cs:=[(.int .i64 0),(.int .i64 0)]) zP rfl) ?_
 intro zXK _
 refine WL.nil (WX.a (WC.b (WC.b (WC.a (WL.pu rfl ?_)))))
 refine WL.qA 12 (yV rfl) ?_
 refine WL.qA 13 (ya y7K rfl rfl) ?_
 refine WL.qA 14 (yc y2E rfl (yk .h3 rfl)) ?_
 refine WL.pu rfl (WL.nil (WX.a ?_))
 refine WC.cond rfl (fun ztJ=>?_) (fun ztJ=>?_)
 ·replace h:=yn h ztJ
  refine WC.b (WC.a ?_)
  refine WL.qA 16 (yI (v:=(.agg #[(.int .i64 0),(.int .i64 0)])) (Eos.parts (l:=[]) .nil []) (fun _=>by kernel_rfl)) ?_
  refine WL.ym rfl rfl (yl zu rfl rfl rfl .here rfl rfl rfl) ?_
  refine WL.nil (WX.a (WC.ret (WX.yd ?_)))
  obtain rfl:=Option.some.inj h
  refine WX.ye Tryz.results167 (.agg rfl zd rfl (yh .here) .nil) (fun w hw=>?_)
  exact ⟨yD rfl,hw.sub (.cons .h3 .nil)⟩
 ·replace h:=yo h ztJ
  refine WC.skip (WX.a (WC.b ?_))
  obtain ⟨znf,zMK,h⟩:=z7 h
  refine WC.a (WL.pu rfl ?_)
  refine WL.qA 19 (yg zd rfl (yh .h2) rfl) ?_
  refine WL.qA 20 (yg zd rfl (yh .h1) rfl) ?_
  refine WL.cA 21 (y27 (l:=[.tmp 19,.tmp 20]) (f:=z8E) (caps:=zcW) zMI rfl (.cons rfl (.cons rfl .nil))) .nil (fun w hw=>zMJ w (hz.now hw) zcU zcV znf  zMK) ?_
  refine WL.pu rfl (WL.pu rfl (WL.pu rfl ?_))
  refine WL.nA 9 (yv (cs:=[(.int .i64 0),(.int .i64 0)]) zP rfl) ?_
  intro zXL _
  refine WL.ym rfl rfl (yl zu rfl rfl rfl .here rfl rfl rfl) ?_
  refine WL.pu rfl (WL.nil (WX.a (WC.b (WC.a (WL.pu rfl (WL.pu rfl ?_))))))
  refine WL.qA 26 (yV rfl) ?_
  refine WL.qA 27 (ya y7K rfl rfl) ?_
  refine WL.ym rfl rfl (yl y9g rfl rfl rfl .h4 rfl rfl rfl) ?_
  refine WL.nil (WX.a (WC.b (WC.a ?_)))
  refine WL.qA 28 (yg zd rfl (yh .h1) rfl) ?_
  refine WL.ym rfl rfl (yl zu rfl rfl rfl .h2 rfl rfl rfl) ?_
  refine WL.nil (WX.a (WC.ret ?_))
  obtain rfl:=Option.some.inj h
  refine WX.ye Tryz.results167 (.agg rfl zd rfl (yh .here) .nil) (fun w hw=>?_)
  exact ⟨yD rfl,hw.sub (.cons .h1 .nil)⟩
def y9K (zhe : z1) (zhf : z1) : Option (Int × Int) :=
 some ((i64 (zhe.fN * zhf.fD)),(i64 (zhe.fD * zhf.fN)))
set_option maxRecDepth 20000 in
theorem ydD (Z : Zp) (zCi : Addr) (zCj : Addr) (zhe : z1) (zhf : z1) (r : Int × Int)
  (h : y9K zhe zhf = some r) (w₀ : World) (hz : PZ [] w₀ Z)
  (zCk : ZC Z zCi [(.int .i64 zhe.fN),(.int .i64 zhe.fD)])
  (zCl : ZC Z zCj [(.int .i64 zhf.fN),(.int .i64 zhf.fD)]) :
  Calls Tryz.prog 144 #[(.pointer (some zCi)),(.pointer (some zCj))] w₀ fun e w'=>e = .returned (.tuple #[(.int .i64 r.1),(.int .i64 r.2)]) ∧ Hp [] w₀ w' []:=by
 unfold y9K at h
 refine Calls.yJ Tryz.func144 Tryz.ntmps144 ?_
 refine WC.b (WC.a (WL.pu rfl (WL.pu rfl (WL.nil (WX.a (WC.b ?_))))))
 refine WC.yL (fun i=>[].contains i) [] rfl ?_
 refine WD.pA 0 4 rfl (fun _=>ya y1K rfl rfl) ?_
 refine WD.qA 1 5 rfl (yc yt rfl (y11 hz.pv zCk rfl)) ?_
 refine WD.pA 2 6 rfl (fun _=>ya y2a rfl rfl) ?_
 refine WD.qA 3 7 rfl (yc yt rfl (y11 hz.pv zCl rfl)) ?_
 refine WD.pA 4 8 rfl (fun _=>y6g rfl rfl rfl) ?_
 refine WD.pA 5 9 rfl (fun _=>ya y2a rfl rfl) ?_
 refine WD.qA 6 10 rfl (yc yt rfl (y11 hz.pv zCk rfl)) ?_
 refine WD.pA 7 11 rfl (fun _=>ya y1K rfl rfl) ?_
 refine WD.qA 8 12 rfl (yc yt rfl (y11 hz.pv zCl rfl)) ?_
 refine WD.pA 9 13 rfl (fun _=>y6g rfl rfl rfl) ?_
 refine WD.pA 10 2 rfl (fun _=>q_z rfl) ?_
 refine WD.pA 11 3 rfl (fun _=>q_z rfl) ?_
 refine WD.done (by kernel_rfl) ?_
 refine WX.a (WC.ret ?_)
 obtain rfl:=Option.some.inj h
 refine WX.ye Tryz.results144 (.tmp rfl (.tmp rfl .nil)) (fun w hw=>?_)
 exact ⟨y1z rfl rfl,hw.sub .nil⟩
def yax (zcX : z1) (z8F : z1) : Option (z1 × Int) :=
 (y1y zcX).bind fun zCm=>(if !zCm then some true else (y1y z8F).bind fun zCn=>some (!zCn)).bind fun zng=>if zng || (decide (z8F.fN = 0)) then some ((⟨0,0⟩ : z1),2) else (y9K zcX z8F).bind fun ztK=>(y5z ztK.1 ztK.2).bind fun ztL=>some (ztL.1,ztL.2)
set_option maxRecDepth 20000 in
theorem ye2 (Z : Zp)  (zcX : z1) (z8F : z1) (r : z1 × Int)
  (h : yax zcX z8F = some r) (w₀ : World) (hz : PZ [] w₀ Z) :
  Calls Tryz.prog 105 #[(.string ⟨#[47]⟩),(.agg #[(.int .i64 zcX.fN),(.int .i64 zcX.fD)]),(.agg #[(.int .i64 z8F.fN),(.int .i64 z8F.fD)])] w₀ fun e w'=>e = .returned (.tuple #[(.agg #[(.int .i64 r.1.fN),(.int .i64 r.1.fD)]),(.int .i64 r.2)]) ∧ Hp [] w₀ w' []:=by
 unfold yax at h
 refine Calls.on3 Tryz.func105 Tryz.ntmps105 ?_
 refine WC.b (WC.a ?_)
 refine WL.nA 4 (yH (cs:=[(.int .i64 zcX.fN),(.int .i64 zcX.fD)]) rfl rfl) ?_
 intro zkx _
 refine WL.nA 5 (yH (cs:=[(.int .i64 z8F.fN),(.int .i64 z8F.fD)]) rfl rfl) ?_
 intro zky _
 refine WL.nA 6 (yv (cs:=[(.int .i64 0),(.int .i64 0)]) zP rfl) ?_
 intro zXM _
 refine WL.pu rfl (WL.nil (WX.a (WC.b (WC.b ?_))))
 obtain ⟨zCm,zML,h⟩:=z7 h
 obtain ⟨zng,zCo,h⟩:=z7 h
 refine WC.a ?_
 refine WL.qA 9 (yg zd rfl (yh .h2) rfl) ?_
 refine WL.cA 10 (za (l:=[.tmp 9]) Tryz.call80 (.cons rfl .nil)) .nil (cc hz .nil fun w pz ho=>y1T _ _ _ zML w pz ) ?_
 refine WL.pu rfl (WL.pu rfl ?_)
 refine WL.seg false 3 12 (B:=zng) rfl rfl rfl rfl rfl rfl (fun h=>(Option.some.inj (yn zCo h)).symm) (fun _ zMM=>?_) ?_
 ·skip
  have zkz:=yo zCo zMM
  obtain ⟨zCn,zMN,zkz⟩:=z7 zkz
  replace zkz:=Option.some.inj zkz
  refine WL.qA 13 (yg zd rfl (yh .h1) rfl) ?_
  refine WL.cA 14 (za (l:=[.tmp 13]) Tryz.call80 (.cons rfl .nil)) .nil (cc hz .nil fun w pz ho=>y1T _ _ _ zMN w pz ) ?_
  refine WL.pu rfl (WL.pu rfl ?_)
  exact WL.yC zkz rfl rfl .all
 refine WL.pu rfl ?_
 refine WL.seg false 7 17 (B:=zng || (decide (z8F.fN = 0))) rfl rfl rfl rfl rfl rfl (fun h=>(y67 h).symm) (fun _ zMO=>?_) ?_
 ·skip
  refine WL.pu rfl ?_
  refine WL.qA 19 (yaJ (r:=true) (by decide) rfl rfl) ?_
  refine WL.pu rfl ?_
  refine WL.qA 21 (ya y1K rfl rfl) ?_
  refine WL.qA 22 (yc yt rfl (yk .h1 rfl)) ?_
  refine WL.pu rfl (WL.pu rfl (WL.pu rfl ?_))
  exact WL.yC (y68 zMO) rfl rfl .all
 refine WL.nil (WX.a ?_)
 refine WC.cond rfl (fun ztM=>?_) (fun ztM=>?_)
 ·replace h:=yn h ztM
  refine WC.b (WC.a ?_)
  refine WL.qA 26 (yI (v:=(.agg #[(.int .i64 0),(.int .i64 0)])) (Eos.parts (l:=[]) .nil []) (fun _=>by kernel_rfl)) ?_
  refine WL.ym rfl rfl (yl zu rfl rfl rfl .here rfl rfl rfl) ?_
  refine WL.pu rfl (WL.nil (WX.a (WC.ret (WX.yd ?_))))
  obtain rfl:=Option.some.inj h
  refine WX.ye Tryz.results105 (.agg rfl zd rfl (yh .here) (.tmp rfl .nil)) (fun w hw=>?_)
  exact ⟨y1z rfl rfl,hw.sub .nil⟩
 ·replace h:=yo h ztM
  refine WC.skip (WX.a (WC.b (WC.a ?_)))
  refine WL.nA 27 (y3e Value.string (fun x=>x)) ?_
  intro zXN _
  refine WL.qA 28 (yX (Eos.caps (l:=[.tmp 4,.tmp 5]) (.cons rfl (.cons rfl .nil)))) ?_
  refine WL.ym rfl rfl (y2W (k:=⟨#[43]⟩) (v:=(.func (.func 141) #[] #[(.pointer (some ⟨zkx,0,none⟩)),(.pointer (some ⟨zky,0,none⟩))])) y3g Tryz.underlying258 rfl rfl rfl rfl .here) ?_
  refine WL.qA 29 (yX (Eos.caps (l:=[.tmp 4,.tmp 5]) (.cons rfl (.cons rfl .nil)))) ?_
  refine WL.ym rfl rfl (y2W (k:=⟨#[45]⟩) (v:=(.func (.func 142) #[] #[(.pointer (some ⟨zkx,0,none⟩)),(.pointer (some ⟨zky,0,none⟩))])) y3g Tryz.underlying258 rfl rfl rfl rfl .here) ?_
  refine WL.qA 30 (yX (Eos.caps (l:=[.tmp 4,.tmp 5]) (.cons rfl (.cons rfl .nil)))) ?_
  refine WL.ym rfl rfl (y2W (k:=⟨#[42]⟩) (v:=(.func (.func 143) #[] #[(.pointer (some ⟨zkx,0,none⟩)),(.pointer (some ⟨zky,0,none⟩))])) y3g Tryz.underlying258 rfl rfl rfl rfl .here) ?_
  refine WL.qA 31 (yX (Eos.caps (l:=[.tmp 4,.tmp 5]) (.cons rfl (.cons rfl .nil)))) ?_
  refine WL.ym rfl rfl (y2W (k:=⟨#[47]⟩) (v:=(.func (.func 144) #[] #[(.pointer (some ⟨zkx,0,none⟩)),(.pointer (some ⟨zky,0,none⟩))])) y3g Tryz.underlying258 rfl rfl rfl rfl .here) ?_
  refine WL.pu rfl (WL.pu rfl (WL.nil (WX.a (WC.b ?_))))
  obtain ⟨ztK,zMP,h⟩:=z7 h
  obtain ⟨ztL,zMQ,h⟩:=z7 h
  refine WC.a (WL.pu rfl (WL.pu rfl ?_))
  refine WL.qA 35 (yaI (k:=⟨#[47]⟩) (dflt:=.nilFunc) (r:=(.func (.func 144) #[] #[(.pointer (some ⟨zkx,0,none⟩)),(.pointer (some ⟨zky,0,none⟩))])) y3g Tryz.underlying258 zm4 rfl rfl rfl .here (by rfl)) ?_
  refine WL.cA 36 (y27 (l:=[]) Tryz.call144 rfl .nil) .nil (ccl hz .nil (.cons .h3 (.cons .h2 .nil)) fun w pz ho la=>ydD _ _ _ _ _ _ zMP w pz ((la _ (.head _) _).stb) ((la _ (.tail _ (.head _)) _).stb)) ?_
  refine WL.pu rfl (WL.pu rfl ?_)
  refine WL.cA 39 (za (l:=[.tmp 37,.tmp 38]) Tryz.call106 (.cons rfl (.cons rfl .nil))) .nil (cc hz .nil fun w pz ho=>y7q _ _ _ _ zMQ w pz ) ?_
  refine WL.pu rfl (WL.pu rfl ?_)
  refine WL.ym rfl rfl (yl zu rfl rfl rfl .h1 rfl rfl rfl) ?_
  refine WL.pu rfl (WL.nil (WX.a (WC.ret ?_)))
  obtain rfl:=Option.some.inj h
  refine WX.ye Tryz.results105 (.agg rfl zd rfl (yh .here) (.tmp rfl .nil)) (fun w hw=>?_)
  exact ⟨y1z rfl rfl,hw.sub .nil⟩
def y78 (zf2 : z1) (zf3 : z1) : Option (z1 × Int) :=
 (yax zf2 zf3).bind fun ztN=>some (ztN.1,ztN.2)
set_option maxRecDepth 20000 in
theorem ycc (Z : Zp)  (zf2 : z1) (zf3 : z1) (r : z1 × Int)
  (h : y78 zf2 zf3 = some r) (w₀ : World) (hz : PZ [] w₀ Z) :
  Calls Tryz.prog 75 #[(.agg #[(.int .i64 zf2.fN),(.int .i64 zf2.fD)]),(.agg #[(.int .i64 zf3.fN),(.int .i64 zf3.fD)])] w₀ fun e w'=>e = .returned (.tuple #[(.agg #[(.int .i64 r.1.fN),(.int .i64 r.1.fD)]),(.int .i64 r.2)]) ∧ Hp [] w₀ w' []:=by
 unfold y78 at h
 refine Calls.yJ Tryz.func75 Tryz.ntmps75 ?_
 refine WC.b (WC.a ?_)
 refine WL.nA 2 (yH (cs:=[(.int .i64 zf2.fN),(.int .i64 zf2.fD)]) rfl rfl) ?_
 intro zXO _
 refine WL.nA 3 (yH (cs:=[(.int .i64 zf3.fN),(.int .i64 zf3.fD)]) rfl rfl) ?_
 intro zXP _
 refine WL.nA 4 (yv (cs:=[(.int .i64 0),(.int .i64 0)]) zP rfl) ?_
 intro zXQ _
 refine WL.pu rfl (WL.nil (WX.a (WC.b ?_)))
 obtain ⟨ztN,zMR,h⟩:=z7 h
 refine WC.a ?_
 refine WL.qA 6 (yg zd rfl (yh .h2) rfl) ?_
 refine WL.qA 7 (yg zd rfl (yh .h1) rfl) ?_
 refine WL.cA 8 (za (l:=[.const (.string ⟨#[47]⟩),.tmp 6,.tmp 7]) Tryz.call105 (.cons rfl (.cons rfl (.cons rfl .nil)))) .nil (cc hz .nil fun w pz ho=>ye2 _ _ _ _ zMR w pz ) ?_
 refine WL.pu rfl (WL.pu rfl ?_)
 refine WL.ym rfl rfl (yl zu rfl rfl rfl .here rfl rfl rfl) ?_
 refine WL.pu rfl (WL.nil (WX.a (WC.ret ?_)))
 obtain rfl:=Option.some.inj h
 refine WX.ye Tryz.results75 (.agg rfl zd rfl (yh .here) (.tmp rfl .nil)) (fun w hw=>?_)
 exact ⟨y1z rfl rfl,hw.sub .nil⟩
theorem zMS : ∀ w,(isAgg (Tryz.y2K.t 24)).run Tryz.prog w = .ok true w:=fun _=>by kernel_rfl
theorem zMT : ∀ w,(Go.sizeOf (Tryz.y2K.t 24)).run Tryz.prog w = .ok 2 w:=fun _=>by kernel_rfl
def y4u (z4O : List z1) (zkA : Int) (zkB : Int) (zhg : Int) (zf4 : z1 → z1 → Option Int) : Option (List z1):=chk ((zkA = 0 ∧ zkB = ((z4O.length : Nat) : Int)) ∧ (0 ≤ zhg ∧ zhg < 4611686018427387904 ∧ z4O.length < 4611686018427387904)) (chk (y7B zf4 (y1k zf4 z4O) = true) (some (y1k zf4 z4O)))
theorem y7b (Z : Zp) (zf5 : Option Addr) (zf6 : Nat) (zkC : FuncId) (ztO : List Value) (z4O : List z1) (zkA : Int) (zkB : Int) (zhg : Int) (zf4 : z1 → z1 → Option Int) (r : List z1) (w₀ : World) (hz : PZ (fps [row (.slice zf5 z4O.length zf6) 132 2 (z4O.flatMap yw)]) w₀ Z)
  (zMU : ∀ args w,(callFunc zkC args).run Tryz.prog w = .ok (.enter zkC args) w)
  (zMV : ∀ w : World,PZ [] w Z → ∀ (x0 : z1) (x1 : z1) (r : Int),zf4 x0 x1 = some r → Calls Tryz.prog zkC (([(.agg #[(.int .i64 x0.fN),(.int .i64 x0.fD)]),(.agg #[(.int .i64 x1.fN),(.int .i64 x1.fD)])] : List Value) ++ ztO).toArray w fun e w'=>e = .returned (.int .i64 r) ∧ Hp [] w w' [])
  (h : y4u z4O zkA zkB zhg zf4 = some r) (hown : Hp (fps [row (.slice zf5 z4O.length zf6) 132 2 (z4O.flatMap yw)]) w₀ w₀ [row (.slice zf5 z4O.length zf6) 132 2 (z4O.flatMap yw)]) :
  Calls Tryz.prog 185 #[(.slice zf5 z4O.length zf6),(.int .i64 zkA),(.int .i64 zkB),(.int .i64 zhg),(.func (.func zkC) #[] (ztO).toArray)] w₀ fun e w'=>e = .returned (.tuple #[]) ∧ (r.length = z4O.length) ∧ Hp (fps [row (.slice zf5 z4O.length zf6) 132 2 (z4O.flatMap yw)]) w₀ w' [row (.slice zf5 r.length zf6) 132 2 (r.flatMap yw)]:=by
 obtain ⟨h0,h⟩:=yq h
 obtain ⟨h1,h⟩:=yq h
 have hr:=(Option.some.inj h).symm
 exact y7O (P:=Tryz.prog) (f:=185) (e:=132) (k:=2) (enc:=yw) (fun _=>rfl) (by decide) yaK (fun β _ enc cf g cb hO blk off cap d0 w0 eg hC R=>Tryz.y7D 2 zMS zMT enc cf g cb hO blk off cap d0 w0 eg hC R) (Tryz.y7v (α:=Unit)) hz zMU zMV h0 h1 hr hown
def y34 (z4e : List z1) (zhh : z1 → z1 → Option Int) : Option (List z1) :=
 (y5w (u64 ((z4e.length : Nat) : Int))).bind fun znh=>(y4u z4e 0 ((z4e.length : Nat) : Int) znh zhh).bind fun zni=>some zni
set_option maxRecDepth 20000 in
theorem y6N (Z : Zp) (zcY : Option Addr) (zcZ : Nat) (zhi : FuncId) (znj : List Value) (z4e : List z1) (zhh : z1 → z1 → Option Int) (r : List z1)
  (h : y34 z4e zhh = some r) (w₀ : World) (hz : PZ (fps [row (.slice zcY z4e.length zcZ) 132 2 (z4e.flatMap yw)]) w₀ Z)
  (zMW : ∀ args w,(callFunc zhi args).run Tryz.prog w = .ok (.enter zhi args) w)
  (zMX : ∀ w : World,PZ [] w Z → ∀ (x0 : z1) (x1 : z1) (r : Int),zhh x0 x1 = some r → Calls Tryz.prog zhi (([(.agg #[(.int .i64 x0.fN),(.int .i64 x0.fD)]),(.agg #[(.int .i64 x1.fN),(.int .i64 x1.fD)])] : List Value) ++ znj).toArray w fun e w'=>e = .returned (.int .i64 r) ∧ Hp [] w w' [])
  (hown : Hp (fps [row (.slice zcY z4e.length zcZ) 132 2 (z4e.flatMap yw)]) w₀ w₀ [row (.slice zcY z4e.length zcZ) 132 2 (z4e.flatMap yw)]) :
  Calls Tryz.prog 171 #[(.slice zcY z4e.length zcZ),(.func (.func zhi) #[] (znj).toArray)] w₀ fun e w'=>e = .returned (.tuple #[]) ∧ (r.length = z4e.length) ∧ Hp (fps [row (.slice zcY z4e.length zcZ) 132 2 (z4e.flatMap yw)]) w₀ w' [row (.slice zcY r.length zcZ) 132 2 (r.flatMap yw)]:=by
 unfold y34 at h
 refine Calls.oh2 Tryz.func171 Tryz.ntmps171 hown ?_
 refine WC.b (WC.a (WL.pu rfl ?_))
 refine WL.qA 6 (yE Tryz.underlying175 rfl) ?_
 refine WL.pu rfl (WL.nil (WX.a ?_))
 obtain ⟨znh,zMY,h⟩:=z7 h
 obtain ⟨zni,zMZ,h⟩:=z7 h
 refine WC.a (WL.pu rfl (WL.pu rfl (WL.pu rfl ?_)))
 refine WL.qA 10 (y7f Tryz.underlying3 Tryz.underlying142 rfl rfl) ?_
 refine WL.cA 11 (za (l:=[.tmp 10]) Tryz.call48 (.cons rfl .nil)) .nil (cc hz .nil fun w pz ho=>y7o (Z:=_)  (z71:=(u64 ((z4e.length : Nat) : Int))) (r:=znh) w pz  zMY) ?_
 refine WL.pu rfl ?_
 refine WL.y4e (dd:=13) rfl rfl rfl (za (l:=[.tmp 7,.const (.int .i64 0),.tmp 8,.tmp 11,.tmp 12]) Tryz.call185 (.cons rfl (.cons rfl (.cons rfl (.cons rfl (.cons rfl .nil)))))) (.cons .here .nil) (cc hz (.cons .here .nil) fun w pz ho=>y7b (Z:=_) (zf5:=zcY) (zf6:=zcZ) (zkC:=zhi) (ztO:=znj) (z4O:=z4e) (zkA:=0) (zkB:=((z4e.length : Nat) : Int)) (zhg:=znh) (zf4:=zhh) (r:=zni) w pz zMW zMX zMZ ho) ?_
 rintro  zCp
 refine WL.repin (i:=0) rfl (u:=(.slice zcY zni.length zcZ)) (y89 zCp.symm) ?_
 refine WL.nil ?_
 obtain rfl:=Option.some.inj h
 refine WX.y4c Tryz.results171 .nil (fun w hw=>?_)
 exact ⟨y6Q,(zCp.trans rfl),hw.sub (.cons .here .nil)⟩
def y1r (zI : List z1) (zs : Int) (zav : (List z1) → Int → Option (List z1)) : Nat → (List z1) → Int → Int → Option (List z1)
 | 0,_,_,_=>none
 | ztP + 1,zL,z31,k2_42009=>if decide (k2_42009 < ((zI.length - (zs : Int).toNat : Nat) : Int)) then jp2 (fun (z7b : List z1) (zaw : Int)=>y1r zI zs zav ztP z7b zaw (i64 (k2_42009 + 1))) fun znk=>chk ((0 : Int) ≤ k2_42009 ∧ k2_42009 < ((zI.length - (zs : Int).toNat : Nat) : Int)) (chk ((0 : Int) ≤ (i64 (k2_42009 - 1)) ∧ (i64 (k2_42009 - 1)) < ((zI.length - (zs : Int).toNat : Nat) : Int)) (if decide ((⟨((nth zL (zs + k2_42009)).fN),((nth zL (zs + k2_42009)).fD)⟩ : z1) ≠ (⟨((nth zL (zs + (i64 (k2_42009 - 1)))).fN),((nth zL (zs + (i64 (k2_42009 - 1)))).fD)⟩ : z1)) then chk ((0 : Int) ≤ k2_42009 ∧ k2_42009 < ((zI.length - (zs : Int).toNat : Nat) : Int)) (chk ((0 : Int) ≤ z31 ∧ z31 < ((zL.length : Nat) : Int)) (znk (zL.set (z31 : Int).toNat (⟨((nth zL (zs + k2_42009)).fN),((nth zL (zs + k2_42009)).fD)⟩ : z1)) (i64 (z31 + 1)))) else znk zL z31)) else zav zL z31
theorem y5B {n : Nat} {zI : List z1} {zs : Int} {zav : (List z1) → Int → Option (List z1)} {zL : List z1} {z31 : Int} {k2_42009 : Int} {r : List z1} (h : y1r zI zs zav n zL z31 k2_42009 = some r) : ∃ m,n = m + 1:=by
 cases n with
 | zero=>cases h
 | succ m=>exact ⟨m,rfl⟩
def y1s (zI : List z1) (zax : Option (List z1)) : Nat → Int → Option (List z1)
 | 0,_=>none
 | ztQ + 1,zs=>if decide (zs < ((zI.length : Nat) : Int)) then jp0 (y1s zI zax ztQ (i64 (zs + 1))) fun ztR=>chk ((0 : Int) ≤ zs ∧ zs < ((zI.length : Nat) : Int)) (chk ((0 : Int) ≤ (i64 (zs - 1)) ∧ (i64 (zs - 1)) < ((zI.length : Nat) : Int)) (if decide ((⟨((nth zI zs).fN),((nth zI zs).fD)⟩ : z1) = (⟨((nth zI (i64 (zs - 1))).fN),((nth zI (i64 (zs - 1))).fD)⟩ : z1)) then chk ((0 : Int) ≤ zs ∧ zs < ((zI.length : Nat) : Int)) (jp2 (fun (z32 : List z1) (z33 : Int)=>chk ((0 : Int) ≤ z33 ∧ z33 ≤ ((z32.length : Nat) : Int)) (chk ((0 : Int) ≤ z33 ∧ z33 ≤ (((z32.take (z33 : Int).toNat ++ List.replicate (z32.length - (z33 : Int).toNat) ((⟨0,0⟩ : z1) : z1)).length : Nat) : Int)) (some ((z32.take (z33 : Int).toNat ++ List.replicate (z32.length - (z33 : Int).toNat) ((⟨0,0⟩ : z1) : z1)).take (z33 : Int).toNat)))) fun zav=>y1r zI zs zav yB zI zs 1) else ztR)) else zax
theorem y5C {n : Nat} {zI : List z1} {zax : Option (List z1)} {zs : Int} {r : List z1} (h : y1s zI zax n zs = some r) : ∃ m,n = m + 1:=by
 cases n with
 | zero=>cases h
 | succ m=>exact ⟨m,rfl⟩
def y38 (zI : List z1) : Option (List z1) :=
 if decide (((zI.length : Nat) : Int) < 2) then some zI else jp0 (some zI) fun zax=>y1s zI zax yB 1
set_option maxRecDepth 20000 in
theorem y6V (Z : Zp) (z6x : Option Addr) (z2n : Nat) (zI : List z1) (r : List z1)
  (h : y38 zI = some r) (w₀ : World) (hz : PZ (fps [row (.slice z6x zI.length z2n) 132 2 (zI.flatMap yw)]) w₀ Z)
  (hown : Hp (fps [row (.slice z6x zI.length z2n) 132 2 (zI.flatMap yw)]) w₀ w₀ [row (.slice z6x zI.length z2n) 132 2 (zI.flatMap yw)]) :
  Calls Tryz.prog 172 #[(.slice z6x zI.length z2n)] w₀ fun e w'=>∃ zCq : Option Addr,∃ zCr : Nat,e = .returned (.slice zCq r.length zCr) ∧ True ∧ Hp (fps [row (.slice z6x zI.length z2n) 132 2 (zI.flatMap yw)]) w₀ w' [row (.slice zCq r.length zCr) 132 2 (r.flatMap yw)]:=by
 unfold y38 at h
 refine Calls.oh1 Tryz.func172 Tryz.ntmps172 hown ?_
 refine WC.b (WC.a (WL.pu rfl (WL.nil (WX.a (WC.b (WC.b (WC.a (WL.pu rfl ?_))))))))
 refine WL.qA 7 (yE Tryz.underlying175 rfl) ?_
 refine WL.pu rfl (WL.nil (WX.a ?_))
 refine WC.cond rfl (fun ztS=>?_) (fun ztS=>?_)
 ·replace h:=yn h ztS
  refine WC.b (WC.a (WL.pu rfl (WL.pu rfl (WL.nil (WX.a (WC.ret (WX.yd ?_)))))))
  obtain rfl:=Option.some.inj h
  refine WX.ye Tryz.results172 (.tmp rfl .nil) (fun w hw=>?_)
  exact ⟨z6x,z2n,yD rfl,trivial,hw.sub (.cons .here .nil)⟩
 ·replace h:=yo h ztS
  refine WC.skip (WX.a ?_)
  obtain ⟨zax,zN0,h⟩:=y1u h
  refine WC.y1g ((zax = some r)) ([(0,(.slice z6x zI.length z2n))]) ([row (.slice z6x zI.length z2n) 132 2 (zI.flatMap yw)]) ?_ ?_
  ·skip
   refine WC.b (WC.a (WL.pu rfl (WL.nil (WX.a (WC.block ?_)))))
   refine WC.y1S (fun (zhj : Nat) (zs : Int)=>(y1s zI zax zhj zs = some r)) (fun zhj zs=>[(0,(.slice z6x zI.length z2n)),(3,(.int .i64 zs))]) (fun zhj zs=>[row (.slice z6x zI.length z2n) 132 2 (zI.flatMap yw)]) (fun zhj zs=>zhj) ⟨yB,1⟩ h (.cons rfl (.cons rfl .nil)) (.cons .here .nil) ?_
   rintro zhj zs h
   obtain ⟨ztQ,rfl⟩:=y5C h
   rw [y1s] at h
   refine WC.b (WC.b (WC.a (WL.pu rfl (WL.pu rfl ?_))))
   refine WL.qA 12 (yE Tryz.underlying175 rfl) ?_
   refine WL.pu rfl (WL.nil (WX.a ?_))
   refine WC.cond rfl (fun ztT=>?_) (fun ztT=>?_)
   ·replace h:=yn h ztT
    refine WC.skip (WX.a ?_)
    obtain ⟨ztR,zN1,h⟩:=y1u h
    refine WC.y1g ((ztR = some r)) ([(0,(.slice z6x zI.length z2n)),(3,(.int .i64 zs))]) ([row (.slice z6x zI.length z2n) 132 2 (zI.flatMap yw)]) ?_ ?_
    ·skip
     refine WC.block (WC.b ?_)
     obtain ⟨zkD,h⟩:=yq h
     obtain ⟨znl,h⟩:=yq h
     refine WC.yL (fun i=>[].contains i) [] rfl ?_
     refine WD.pA 0 16 rfl (fun _=>q_m rfl) ?_
     refine WD.pA 1 17 rfl (fun _=>q_m rfl) ?_
     refine WD.know (fun w hw=>Hp.y2H .here hw (by intro hz'; have:=zkD; rw [hz'] at this; omega)) ?_
     rintro ⟨z7c,rfl⟩
     refine WD.pA 2 18 rfl (fun _=>yY z20 rfl rfl zkD.1 zkD.2 y3z) ?_
     refine WD.qA 3 19 rfl (yQ (cs:=(yw (nth zI zs))) zd rfl rfl (y3d .here (y2Q (enc:=yw) (l:=zI) (i:=zs) (sz:=2) (fun _=>rfl) zkD.1 zkD.2))) ?_
     refine WD.pA 4 20 rfl (fun _=>q_m rfl) ?_
     refine WD.pA 5 21 rfl (fun _=>q_m rfl) ?_
     refine WD.pA 6 22 rfl (fun _=>ybj rfl rfl rfl) ?_
     refine WD.pA 7 23 rfl (fun _=>yY z20 rfl rfl znl.1 znl.2 y3z) ?_
     refine WD.qA 8 24 rfl (yQ (cs:=(yw (nth zI (i64 (zs - 1))))) zd rfl rfl (y3d .here (y2Q (enc:=yw) (l:=zI) (i:=i64 (zs - 1)) (sz:=2) (fun _=>rfl) znl.1 znl.2))) ?_
     refine WD.pA 9 25 rfl (fun _=>y6T (enc:=yw) (a:=(⟨((nth zI zs).fN),((nth zI zs).fD)⟩ : z1)) (b:=(⟨((nth zI (i64 (zs - 1))).fN),((nth zI (i64 (zs - 1))).fD)⟩ : z1)) zy9 rfl rfl) ?_
     refine WD.done (by kernel_rfl) ?_
     refine WX.a ?_
     refine WC.cond rfl (fun ztU=>?_) (fun ztU=>?_)
     ·replace h:=yn h ztU
      refine WC.b ?_
      obtain ⟨zf7,h⟩:=yq h
      refine WC.a (WL.pu rfl (WL.pu rfl ?_))
      refine WL.ydU (dd:=28) rfl rfl z20 rfl rfl .here zf7 ?_
      refine WL.pu rfl (WL.nil (WX.a ?_))
      obtain ⟨zav,zN2,h⟩:=y3D h
      refine WC.y6i (fun (z32 : List z1) (z33 : Int)=>(zav z32 z33 = some r) ∧ (z32.length = zI.length)) (fun z32 z33=>[(0,(.slice (some ⟨z7c,0,none⟩) z32.length z2n)),(3,(.int .i64 z33))]) (fun z32 z33=>[row (.slice (some ⟨z7c,0,none⟩) z32.length z2n) 132 2 (z32.flatMap yw)]) ?_ ?_
      ·skip
       refine WC.b (WC.a (WL.pu rfl (WL.nil (WX.a (WC.block ?_)))))
       refine WC.y5t (fun (zhk : Nat) (zL : List z1) (z31 : Int) (k2_42009 : Int)=>(y1r zI zs zav zhk zL z31 k2_42009 = some r) ∧ (zL.length = zI.length)) (fun zhk zL z31 k2_42009=>[(0,(.slice (some ⟨z7c,0,none⟩) zL.length z2n)),(3,(.int .i64 z31)),(4,(.slice (some ⟨z7c,(zs : Int).toNat * 2,none⟩) (zI.length - (zs : Int).toNat) (z2n - (zs : Int).toNat))),(5,(.int .i64 k2_42009))]) (fun zhk zL z31 k2_42009=>[row (.slice (some ⟨z7c,0,none⟩) zL.length z2n) 132 2 (zL.flatMap yw)]) (fun zhk zL z31 k2_42009=>zhk) ⟨yB,zI,zs,1⟩ ⟨h,rfl⟩ (.cons rfl (.cons rfl (.cons rfl (.cons rfl .nil)))) (.cons .here .nil) ?_
       rintro zhk zL z31 k2_42009 ⟨h,zhl⟩
       obtain ⟨ztP,rfl⟩:=y5B h
       rw [y1r] at h
       refine WC.b (WC.b (WC.a (WL.pu rfl (WL.pu rfl ?_))))
       refine WL.qA 31 (yE Tryz.underlying175 rfl) ?_
       refine WL.pu rfl (WL.nil (WX.a ?_))
       refine WC.cond rfl (fun ztV=>?_) (fun ztV=>?_)
       ·replace h:=yn h ztV
        refine WC.skip (WX.a ?_)
        obtain ⟨znk,zN3,h⟩:=y3D h
        refine WC.y6i (fun (z7b : List z1) (zaw : Int)=>(znk z7b zaw = some r) ∧ (z7b.length = zI.length)) (fun z7b zaw=>[(0,(.slice (some ⟨z7c,0,none⟩) z7b.length z2n)),(3,(.int .i64 zaw)),(4,(.slice (some ⟨z7c,(zs : Int).toNat * 2,none⟩) (zI.length - (zs : Int).toNat) (z2n - (zs : Int).toNat))),(5,(.int .i64 k2_42009))]) (fun z7b zaw=>[row (.slice (some ⟨z7c,0,none⟩) z7b.length z2n) 132 2 (z7b.flatMap yw)]) ?_ ?_
        ·skip
         refine WC.block (WC.b ?_)
         obtain ⟨znm,h⟩:=yq h
         obtain ⟨znn,h⟩:=yq h
         refine WC.yL (fun i=>[].contains i) [] rfl ?_
         refine WD.pA 0 35 rfl (fun _=>q_m rfl) ?_
         refine WD.pA 1 36 rfl (fun _=>q_m rfl) ?_
         have zCs : (0 : Int) ≤ zs + k2_42009 ∧ zs + k2_42009 < ((zL.length : Nat) : Int):=by have h1:=zhl; have h2:=zf7; have h3:=znm; omega
         refine WD.pA 2 37 rfl (fun _=>yY z20 rfl rfl znm.1 znm.2 (yb8 zf7.1 znm.1)) ?_
         refine WD.qA 3 38 rfl (yQ (cs:=(yw (nth zL (zs + k2_42009)))) zd rfl rfl (y3d .here (y2Q (enc:=yw) (l:=zL) (i:=zs + k2_42009) (sz:=2) (fun _=>rfl) zCs.1 zCs.2))) ?_
         refine WD.pA 4 39 rfl (fun _=>q_m rfl) ?_
         refine WD.pA 5 40 rfl (fun _=>q_m rfl) ?_
         refine WD.pA 6 41 rfl (fun _=>ybj rfl rfl rfl) ?_
         have zCt : (0 : Int) ≤ zs + (i64 (k2_42009 - 1)) ∧ zs + (i64 (k2_42009 - 1)) < ((zL.length : Nat) : Int):=by have h1:=zhl; have h2:=zf7; have h3:=znn; omega
         refine WD.pA 7 42 rfl (fun _=>yY z20 rfl rfl znn.1 znn.2 (yb8 zf7.1 znn.1)) ?_
         refine WD.qA 8 43 rfl (yQ (cs:=(yw (nth zL (zs + (i64 (k2_42009 - 1)))))) zd rfl rfl (y3d .here (y2Q (enc:=yw) (l:=zL) (i:=zs + (i64 (k2_42009 - 1))) (sz:=2) (fun _=>rfl) zCt.1 zCt.2))) ?_
         refine WD.pA 9 44 rfl (fun _=>y9y (enc:=yw) (a:=(⟨((nth zL (zs + k2_42009)).fN),((nth zL (zs + k2_42009)).fD)⟩ : z1)) (b:=(⟨((nth zL (zs + (i64 (k2_42009 - 1)))).fN),((nth zL (zs + (i64 (k2_42009 - 1)))).fD)⟩ : z1)) zy9 rfl rfl) ?_
         refine WD.done (by kernel_rfl) ?_
         refine WX.a ?_
         refine WC.cond rfl (fun ztW=>?_) (fun ztW=>?_)
         ·replace h:=yn h ztW
          refine WC.b ?_
          obtain ⟨zno,h⟩:=yq h
          obtain ⟨zhm,h⟩:=yq h
          refine WC.a (WL.pu rfl (WL.pu rfl (WL.pu rfl (WL.pu rfl ?_))))
          have zCu : (0 : Int) ≤ zs + k2_42009 ∧ zs + k2_42009 < ((zL.length : Nat) : Int):=by have h1:=zhl; have h2:=zf7; have h3:=zno; omega
          refine WL.qA 49 (yY z20 rfl rfl zno.1 zno.2 (yb8 zf7.1 zno.1)) ?_
          refine WL.qA 50 (yQ (cs:=(yw (nth zL (zs + k2_42009)))) zd rfl rfl (y3d .here (y2Q (enc:=yw) (l:=zL) (i:=zs + k2_42009) (sz:=2) (fun _=>rfl) zCu.1 zCu.2))) ?_
          refine WL.qA 51 (yY z20 rfl rfl zhm.1 zhm.2 y3z) ?_
          refine WL.ym rfl rfl (ydn (vs:=[(.int .i64 ((nth zL (zs + k2_42009)).fN)),(.int .i64 ((nth zL (zs + k2_42009)).fD))]) (ds:=(zL.set (z31 : Int).toNat (⟨((nth zL (zs + k2_42009)).fN),((nth zL (zs + k2_42009)).fD)⟩ : z1)).flatMap yw) zu rfl rfl rfl rfl (ocB rfl) .here (flat_fit (enc:=yw) (sz:=2) (k:=0) (fun _=>rfl) zhm.1 zhm.2 (by decide)) (flat_put (enc:=yw) (l:=zL) (sz:=2) (vs:=[(.int .i64 ((nth zL (zs + k2_42009)).fN)),(.int .i64 ((nth zL (zs + k2_42009)).fD))]) (y:=(⟨((nth zL (zs + k2_42009)).fN),((nth zL (zs + k2_42009)).fD)⟩ : z1)) (k:=0) (fun _=>rfl) zhm.1 zhm.2 rfl (Nat.le_of_ble_eq_true rfl))) ?_
          refine WL.relen .here (u:=(.slice (some ⟨z7c,0,none⟩) ((zL.set (z31 : Int).toNat (⟨((nth zL (zs + k2_42009)).fN),((nth zL (zs + k2_42009)).fD)⟩ : z1)).length) z2n)) (y89 (List.length_set).symm) ?_
          refine WL.repin (i:=0) rfl (u:=(.slice (some ⟨z7c,0,none⟩) ((zL.set (z31 : Int).toNat (⟨((nth zL (zs + k2_42009)).fN),((nth zL (zs + k2_42009)).fD)⟩ : z1)).length) z2n)) (y89 (List.length_set).symm) ?_
          refine WL.nil (WX.a (WC.a (WL.pu rfl (WL.pu rfl (WL.pu rfl (WL.nil (WX.yj ?_)))))))
          exact WX.mid (G:=List z1 × Int) ⟨(zL.set (z31 : Int).toNat (⟨((nth zL (zs + k2_42009)).fN),((nth zL (zs + k2_42009)).fD)⟩ : z1)),(i64 (z31 + 1))⟩ ⟨h,((List.length_set).trans zhl)⟩ (.cons rfl (.cons rfl (.cons rfl (.cons rfl .nil)))) (.cons .here .nil)
         ·replace h:=yo h ztW
          refine WC.skip (WX.yj ?_)
          exact WX.mid (G:=List z1 × Int) ⟨zL,z31⟩ ⟨h,zhl⟩ (.cons rfl (.cons rfl (.cons rfl (.cons rfl .nil)))) (.cons .here .nil)
        ·rintro z7b zaw ⟨h,zN4⟩
         replace h:=(zN3 z7b zaw).symm.trans h
         refine WC.a (WL.pu rfl (WL.pu rfl (WL.pu rfl (WL.nil ?_))))
         exact WX.round (G:=Nat × List z1 × Int × Int) ⟨ztP,z7b,zaw,(i64 (k2_42009 + 1))⟩ ⟨h,zN4⟩ (Nat.lt_succ_self _) (.cons rfl (.cons rfl (.cons rfl (.cons rfl .nil)))) (.cons .here .nil)
       ·replace h:=yo h ztV
        refine WC.exit (WX.yf (WX.yf (WX.yz ?_)))
        exact WX.mid (G:=List z1 × Int) ⟨zL,z31⟩ ⟨h,zhl⟩ (.cons rfl (.cons rfl .nil)) (.cons .here .nil)
      ·rintro z32 z33 ⟨h,zXR⟩
       replace h:=(zN2 z32 z33).symm.trans h
       refine WC.b ?_
       obtain ⟨znp,h⟩:=yq h
       refine WC.a (WL.pu rfl (WL.pu rfl ?_))
       refine WL.ydS (dd:=56) rfl rfl z20 rfl rfl .here znp ?_
       intro zXS zXT zN5
       refine WL.ym rfl rfl (yct (enc:=yw) (z0:=((⟨0,0⟩ : z1) : z1)) (l:=z32) z20 zP rfl zN5 znp (fun _=>rfl) (by decide) rfl yaK .here) ?_
       refine WL.relen .here (u:=(.slice (some ⟨z7c,0,none⟩) ((z32.take (z33 : Int).toNat ++ List.replicate (z32.length - (z33 : Int).toNat) ((⟨0,0⟩ : z1) : z1)).length) z2n)) (y89 (yaf znp).symm) ?_
       refine WL.repin (i:=0) rfl (u:=(.slice (some ⟨z7c,0,none⟩) ((z32.take (z33 : Int).toNat ++ List.replicate (z32.length - (z33 : Int).toNat) ((⟨0,0⟩ : z1) : z1)).length) z2n)) (y89 (yaf znp).symm) ?_
       refine WL.nil (WX.a (WC.b ?_))
       obtain ⟨zN6,h⟩:=yq h
       refine WC.a (WL.pu rfl (WL.pu rfl ?_))
       refine WL.ydR (dd:=59) (enc:=yw) (ls:=z32.take (z33 : Int).toNat ++ List.replicate (z32.length - (z33 : Int).toNat) ((⟨0,0⟩ : z1) : z1)) rfl rfl z20 rfl rfl .here (fun _=>rfl) zN6 ?_
       intro zN7 zN8
       refine WL.pu rfl (WL.nil (WX.a (WC.ret (WX.ys (WX.yd (WX.yd (WX.ys (WX.yd ?_))))))))
       obtain rfl:=Option.some.inj h
       refine WX.ye Tryz.results172 (.tmp rfl .nil) (fun w hw=>?_)
       exact ⟨zN7,zN8,yD rfl,trivial,hw.sub (.cons .here .nil)⟩
     ·replace h:=yo h ztU
      refine WC.skip (WX.yj ?_)
      exact WX.mid (G:=Unit) () h (.cons rfl (.cons rfl .nil)) (.cons .here .nil)
    ·rintro  h
     replace h:=zN1.symm.trans h
     refine WC.a (WL.pu rfl (WL.pu rfl (WL.pu rfl (WL.nil ?_))))
     exact WX.round (G:=Nat × Int) ⟨ztQ,(i64 (zs + 1))⟩ h (Nat.lt_succ_self _) (.cons rfl (.cons rfl .nil)) (.cons .here .nil)
   ·replace h:=yo h ztT
    refine WC.exit (WX.yf (WX.yf (WX.yz ?_)))
    exact WX.mid (G:=Unit) () h (.cons rfl .nil) (.cons .here .nil)
  ·rintro  h
   replace h:=zN0.symm.trans h
   refine WC.b (WC.a (WL.pu rfl (WL.pu rfl (WL.nil (WX.a (WC.ret ?_))))))
   obtain rfl:=Option.some.inj h
   refine WX.ye Tryz.results172 (.tmp rfl .nil) (fun w hw=>?_)
   exact ⟨z6x,z2n,yD rfl,trivial,hw.sub (.cons .here .nil)⟩
def y58  (z1N : z6 × z6) (z4P : List z1) (zhn : Int) : Option (Bool × (Nat × List z1 × Int)) :=
 (y2r z1N.1.fBurst z1N.2.fBurst).bind fun zCv=>if decide (zCv < 0) then (y3r (⟨zhn⟩ : z1v) (fun (y0 : z1) (y1 : z1)=>y3x y0 y1) z1N.2.fBurst z1N.1.fBurst).bind fun ztX=>(y3r ztX.2 (fun (y0 : z1) (y1 : z1)=>y3x y0 y1) z1N.1.fRate z1N.2.fRate).bind fun ztY=>(y3r ztY.2 (fun (y0 : z1) (y1 : z1)=>y78 y0 y1) ztX.1 ztY.1).bind fun z88=>chk ((((z4P ++ ([z88.1] : List z1)).length : Nat) : Int) * 16 ≤ 140737488355328 ∧ (((z4P ++ ([z88.1] : List z1)).length : Nat) : Int) ≤ 4611686018427387904) (some (true,(0,(z4P ++ ([z88.1] : List z1)),z88.2.fE))) else some (true,(0,z4P,zhn))
def y4j (zd0 : List z6) : Option (List z1 × Int) :=
 (y4D zd0).bind fun ztZ=>if !ztZ then some (([] : List z1),2) else (y8B zd0).bind fun znq=>jp2 (fun (zay : Int) (z8G : List z1)=>if decide (zay ≠ 0) then some (([] : List z1),zay) else (y34 z8G (fun (y0 : z1) (y1 : z1)=>y2r y0 y1)).bind fun zu0=>(y38 zu0).bind fun zCw=>some (zCw,0)) fun zu1=>(y8a znq znq).bind fun z15=>(y7r (Nat × List z1 × Int) (fun (x : z6 × z6) (s : Nat × List z1 × Int)=>chk (s.1 = 0) (y58 x s.2.1 s.2.2)) (0,([] : List z1),0) z15.1 z15.2).bind fun z3O=>zu1 z3O.2.2 z3O.2.1
set_option maxRecDepth 20000 in
theorem y6v (Z : Zp) (znr : Option Addr) (zns : Nat) (zd0 : List z6) (r : List z1 × Int)
  (h : y4j zd0 = some r) (w₀ : World) (hz : PZ [] w₀ Z)
  (zCx : ZS Z 4 (fun r x=>r = y1j x) znr zns zd0) :
  Calls Tryz.prog 153 #[(.slice znr zd0.length zns)] w₀ fun e w'=>∃ Zn : Zp,∃ zCy : Option Addr,∃ zCz : Nat,e = .returned (.tuple #[(.slice zCy r.1.length zCz),(.int .i64 r.2)]) ∧ True ∧ Hp [] w₀ w' [fz Zn,row (.slice zCy r.1.length zCz) 132 2 (r.1.flatMap yw)]:=by
 unfold y4j at h
 refine Calls.y8W (vs:=[(.slice znr zd0.length zns)]) (pre:=[]) (env:=[(0,(.slice znr zd0.length zns))]) Tryz.func153 rfl Tryz.ntmps153 rfl (Hp.nil w₀ _) rfl ?_
 refine WC.pool (WC.b (WC.a (WL.pu rfl (WL.pu rfl (WL.nil (WX.a (WC.b (WC.b ?_))))))))
 obtain ⟨ztZ,zN9,h⟩:=z7 h
 refine WC.a (WL.pu rfl ?_)
 refine WL.cA 10 (za (l:=[.tmp 9]) Tryz.call146 (.cons rfl .nil)) .nil (ccz hz .nil .here fun w pz ho=>y6P _ _ _ _ _ zN9 w pz (zCx.mono (Zle.left _ _))) ?_
 refine WL.pu rfl (WL.nil (WX.a ?_))
 refine WC.cond rfl (fun zu2=>?_) (fun zu2=>?_)
 ·replace h:=yn h zu2
  refine WC.b (WC.a (WL.pu rfl (WL.pu rfl (WL.nil (WX.a (WC.ret (WX.yd ?_)))))))
  refine WX.nilRow 132 2 ?_
  obtain rfl:=Option.some.inj h
  refine WX.yai Tryz.results153 (.tmp rfl (.tmp rfl .nil)) (fun w hw=>?_)
  exact ⟨[],none,0,y1z rfl rfl,trivial,hw.sub (.cons .h1 (.cons .here .nil))⟩
 ·replace h:=yo h zu2
  refine WC.skip (WX.a (WC.b (WC.a ?_)))
  refine WL.nA 4 (yv (cs:=[(.int .i64 0)]) zy7 rfl) ?_
  intro z2K _
  refine WL.nil (WX.a (WC.b (WC.a ?_)))
  refine WL.nA 5 (yv (cs:=[(.slice none 0 0)]) zpa rfl) ?_
  intro z2B _
  refine WL.nil (WX.a (WC.b ?_))
  obtain ⟨znq,zNa,h⟩:=z7 h
  refine WC.a (WL.pu rfl ?_)
  refine WL.y4F (dd:=13) rfl rfl rfl (za (l:=[.tmp 12]) Tryz.call169 (.cons rfl .nil)) .nil (ccz hz .nil .h2 fun w pz ho=>ycI _ _ _ _ _ zNa w pz (zCx.mono (Zle.left _ _))) ?_
  rintro zXU zXV _
  refine WL.pu rfl (WL.nil (WX.a ?_))
  obtain ⟨zu1,zNb,h⟩:=y3D h
  refine WC.y8X (fun (zkE : Nat) (zay : Int) (z8G : List z1) (zf8 : Zp) (zho : Option Addr) (zhp : Nat)=>(zu1 zay z8G = some r) ∧ (Zle (Z ++ []) (Z ++ zf8))) (fun (zkE : Nat) (zay : Int) (z8G : List z1) (zf8 : Zp) (zho : Option Addr) (zhp : Nat)=>[(4,(.pointer (some ⟨z2K,0,none⟩))),(5,(.pointer (some ⟨z2B,0,none⟩)))]) (fun (zkE : Nat) (zay : Int) (z8G : List z1) (zf8 : Zp) (zho : Option Addr) (zhp : Nat)=>[fz zf8,stb z2K 262 [(.int .i64 zay)],stb z2B 175 [(.slice zho z8G.length zhp)],row (.slice zho z8G.length zhp) 132 2 (z8G.flatMap yw),dfr zkE]) ?_ ?_
  ·skip
   refine WC.b ?_
   refine WC.freezeS (ls:=znq) .here .h2 hz (RR.flat (enc:=y1j) (fun _=>rfl) _) ?_
   intro z5B zNc zCA
   obtain ⟨z15,zNd,h⟩:=z7 h
   refine WC.a (WL.pu rfl (WL.pu rfl ?_))
   refine WL.ydO (dd:=16) rfl rfl rfl (za (l:=[.tmp 14,.tmp 15]) Tryz.call170 (.cons rfl (.cons rfl .nil))) .nil (ccz hz .nil .here fun w pz ho=>yck _ _ _ _ _ _ _ _ zNd w pz zCA zCA) ?_
   rintro z34 z35 z3h z3i z3j z3k ⟨zNe,zNf⟩
   refine WL.nil (WX.a (WC.block (WC.pool ?_)))
   refine WC.drop (.cons .here (.cons .h3 (.cons .h3 (.cons .here (.cons .here (.cons .here .nil)))))) ?_
   refine WC.nilRow 132 2 ?_
   refine WC.rangeFunc (f:=184) (caps:=[(.pointer (some ⟨z34,0,none⟩)),(.pointer (some ⟨z35,0,none⟩))]) rfl Tryz.call184 ?_
   intro zXW zXX z3l z5g z3P znt zNg zNh w hw
   have hw1:=hw.selAll ((.cons .h3 (.cons .h3 (.cons .h2 (.cons .h2 (.cons .here .nil))))) : Sel _ [fz [],stb z2B 175 [(.slice none (([] : List z1).length) 0)],row (.slice none (([] : List z1).length) 0) 132 2 (([] : List z1).flatMap yw),stb z2K 262 [(.int .i64 0)],blk z3l (z3P .ready none)] _)
   have pz:=(hz.call2 hw1 ((.cons .here .nil) : Sel [y1G [fz [],stb z2B 175 [(.slice none (([] : List z1).length) 0)],row (.slice none (([] : List z1).length) 0) 132 2 (([] : List z1).flatMap yw),stb z2K 262 [(.int .i64 0)],blk z3l (z3P .ready none)],dfr z5g,stb z34 173 [(.slice z3h z15.1.length z3i)],stb z35 173 [(.slice z3j z15.2.length z3k)],fz z5B] [y1G [fz [],stb z2B 175 [(.slice none (([] : List z1).length) 0)],row (.slice none (([] : List z1).length) 0) 132 2 (([] : List z1).flatMap yw),stb z2K 262 [(.int .i64 0)],blk z3l (z3P .ready none)]] [dfr z5g,stb z34 173 [(.slice z3h z15.1.length z3i)],stb z35 173 [(.slice z3j z15.2.length z3k)],fz z5B]) .h3).lend hw1 ((.cons .here .nil) : Sel [y1G [fz [],stb z2B 175 [(.slice none (([] : List z1).length) 0)],row (.slice none (([] : List z1).length) 0) 132 2 (([] : List z1).flatMap yw),stb z2K 262 [(.int .i64 0)],blk z3l (z3P .ready none)],dfr z5g,stb z34 173 [(.slice z3h z15.1.length z3i)],stb z35 173 [(.slice z3j z15.2.length z3k)],fz z5B] [y1G [fz [],stb z2B 175 [(.slice none (([] : List z1).length) 0)],row (.slice none (([] : List z1).length) 0) 132 2 (([] : List z1).flatMap yw),stb z2K 262 [(.int .i64 0)],blk z3l (z3P .ready none)]] [dfr z5g,stb z34 173 [(.slice z3h z15.1.length z3i)],stb z35 173 [(.slice z3j z15.2.length z3k)],fz z5B]) (B:=[stb z34 173 [(.slice z3h z15.1.length z3i)],stb z35 173 [(.slice z3j z15.2.length z3k)]]) (fun _ hx'=>((.cons .h1 (.cons .h1 .nil)) : Sel _ [stb z34 173 [(.slice z3h z15.1.length z3i)],stb z35 173 [(.slice z3j z15.2.length z3k)]] _).mem hx')
   obtain ⟨z3O,zNi,h⟩:=z7 h
   refine Calls.mono (yby (Z:=_) (zeT:=z3l) (z5f:=(Option Addr × Nat)) (z61:=(fun (g : Option Addr × Nat) (s : Nat × List z1 × Int)=>y1G ([fz [],stb z2B 175 [(.slice g.1 s.2.1.length g.2)],row (.slice g.1 s.2.1.length g.2) 132 2 (s.2.1.flatMap yw),stb z2K 262 [(.int .i64 s.2.2)]] ++ [blk z3l (z3P (rdy (pcs [] s.1)) (pcs [] s.1))]))) (zat:=(fun (g : Option Addr × Nat) (s : Nat × List z1 × Int)=>True)) (zeU:=(none,0)) (ztz:=⟨z34,0,none⟩) (zeV:=z3h) (zeW:=z3i) (zeX:=⟨z35,0,none⟩) (znc:=z3j) (znd:=z3k) (zH:=(Nat × List z1 × Int)) (z4N:=(fun (x : z6 × z6) (s : Nat × List z1 × Int)=>chk (s.1 = 0) (y58 x s.2.1 s.2.2))) (s0_32956:=(0,([] : List z1),0)) (z1t:=z15.1) (z1Y:=z15.2) (r:=z3O) w pz ?_ trivial (zNe.mono (Zle.left _ _)) ((hw1.lent ((.cons .here .nil) : Sel [y1G [fz [],stb z2B 175 [(.slice none (([] : List z1).length) 0)],row (.slice none (([] : List z1).length) 0) 132 2 (([] : List z1).flatMap yw),stb z2K 262 [(.int .i64 0)],blk z3l (z3P .ready none)],dfr z5g,stb z34 173 [(.slice z3h z15.1.length z3i)],stb z35 173 [(.slice z3j z15.2.length z3k)],fz z5B] [y1G [fz [],stb z2B 175 [(.slice none (([] : List z1).length) 0)],row (.slice none (([] : List z1).length) 0) 132 2 (([] : List z1).flatMap yw),stb z2K 262 [(.int .i64 0)],blk z3l (z3P .ready none)]] [dfr z5g,stb z34 173 [(.slice z3h z15.1.length z3i)],stb z35 173 [(.slice z3j z15.2.length z3k)],fz z5B]) (B:=[stb z34 173 [(.slice z3h z15.1.length z3i)],stb z35 173 [(.slice z3j z15.2.length z3k)]]) (fun _ hx'=>((.cons .h1 (.cons .h1 .nil)) : Sel _ [stb z34 173 [(.slice z3h z15.1.length z3i)],stb z35 173 [(.slice z3j z15.2.length z3k)]] _).mem hx') (.head _) _).stb) (zNf.mono (Zle.left _ _)) ((hw1.lent ((.cons .here .nil) : Sel [y1G [fz [],stb z2B 175 [(.slice none (([] : List z1).length) 0)],row (.slice none (([] : List z1).length) 0) 132 2 (([] : List z1).flatMap yw),stb z2K 262 [(.int .i64 0)],blk z3l (z3P .ready none)],dfr z5g,stb z34 173 [(.slice z3h z15.1.length z3i)],stb z35 173 [(.slice z3j z15.2.length z3k)],fz z5B] [y1G [fz [],stb z2B 175 [(.slice none (([] : List z1).length) 0)],row (.slice none (([] : List z1).length) 0) 132 2 (([] : List z1).flatMap yw),stb z2K 262 [(.int .i64 0)],blk z3l (z3P .ready none)]] [dfr z5g,stb z34 173 [(.slice z3h z15.1.length z3i)],stb z35 173 [(.slice z3j z15.2.length z3k)],fz z5B]) (B:=[stb z34 173 [(.slice z3h z15.1.length z3i)],stb z35 173 [(.slice z3j z15.2.length z3k)]]) (fun _ hx'=>((.cons .h1 (.cons .h1 .nil)) : Sel _ [stb z34 173 [(.slice z3h z15.1.length z3i)],stb z35 173 [(.slice z3j z15.2.length z3k)]] _).mem hx') (.tail _ (.head _)) _).stb) zNi (hw1.owns ((.cons .here .nil) : Sel [y1G [fz [],stb z2B 175 [(.slice none (([] : List z1).length) 0)],row (.slice none (([] : List z1).length) 0) 132 2 (([] : List z1).flatMap yw),stb z2K 262 [(.int .i64 0)],blk z3l (z3P .ready none)],dfr z5g,stb z34 173 [(.slice z3h z15.1.length z3i)],stb z35 173 [(.slice z3j z15.2.length z3k)],fz z5B] [y1G [fz [],stb z2B 175 [(.slice none (([] : List z1).length) 0)],row (.slice none (([] : List z1).length) 0) 132 2 (([] : List z1).flatMap yw),stb z2K 262 [(.int .i64 0)],blk z3l (z3P .ready none)]] [dfr z5g,stb z34 173 [(.slice z3h z15.1.length z3i)],stb z35 173 [(.slice z3j z15.2.length z3k)],fz z5B]))) ?_
   ·skip
    refine yah (LI:=(fun (g : Option Addr × Nat) (s : Nat × List z1 × Int)=>[fz [],stb z2B 175 [(.slice g.1 s.2.1.length g.2)],row (.slice g.1 s.2.1.length g.2) 132 2 (s.2.1.flatMap yw),stb z2K 262 [(.int .i64 s.2.2)]])) (pc:=(fun (s : Nat × List z1 × Int)=>pcs [] s.1)) znt zNg zNh (fun _ _=>rfl) (by decide) ?_
    rintro z1N _ ⟨zhq,zhr⟩ ⟨zNj,z4P,zhn⟩ zNk zNl Fb wb zCB _ hz
    replace hz:=hz.left
    letI : Rnd:=inR z3l
    obtain ⟨hp0,z3Q⟩:=yq zCB
    replace hp0 : zNj = 0:=hp0; subst hp0; clear zCB
    replace z3Q : y58 z1N z4P zhn = some (zNk,zNl):=z3Q
    unfold y58 at z3Q
    refine WC.restr (env':=[(11,(.bool (!ztZ))),(4,(.pointer (some ⟨z2K,0,none⟩))),(5,(.pointer (some ⟨z2B,0,none⟩))),(17,(.agg #[(.int .i64 z1N.1.fBurst.fN),(.int .i64 z1N.1.fBurst.fD),(.int .i64 z1N.1.fRate.fN),(.int .i64 z1N.1.fRate.fD)])),(18,(.agg #[(.int .i64 z1N.2.fBurst.fN),(.int .i64 z1N.2.fBurst.fD),(.int .i64 z1N.2.fRate.fN),(.int .i64 z1N.2.fRate.fD)]))]) (.cons rfl (.cons rfl (.cons rfl (.cons rfl (.cons rfl .nil))))) ?_
    refine WC.eqL (L':=[fz [],stb z2B 175 [(.slice zhq z4P.length zhr)],row (.slice zhq z4P.length zhr) 132 2 (z4P.flatMap yw),stb z2K 262 [(.int .i64 zhn)],blk z3l (z3P .ready none)]) rfl ?_
    refine WC.b (WC.a ?_)
    refine WL.nA 7 (yv (cs:=[(.int .i64 0),(.int .i64 0),(.int .i64 0),(.int .i64 0)]) z9w rfl) ?_
    intro zNm _
    refine WL.ym rfl rfl (yl z8m rfl rfl rfl .here rfl rfl rfl) ?_
    refine WL.nil (WX.a (WC.a ?_))
    refine WL.nA 8 (yv (cs:=[(.int .i64 0),(.int .i64 0),(.int .i64 0),(.int .i64 0)]) z9w rfl) ?_
    intro zNn _
    refine WL.ym rfl rfl (yl z8m rfl rfl rfl .here rfl rfl rfl) ?_
    refine WL.nil ?_
    refine WX.yb7 znt .h6 ?_
    refine WC.block (WC.b ?_)
    obtain ⟨zCv,zNo,z3Q⟩:=z7 z3Q
    refine WC.a ?_
    refine WL.qA 19 (ya y3V rfl rfl) ?_
    refine WL.qA 20 (yQ (cs:=[(.int .i64 z1N.1.fBurst.fN),(.int .i64 z1N.1.fBurst.fD)]) zd rfl rfl (y2G (s:=2) .h2 rfl)) ?_
    refine WL.qA 21 (ya y3V rfl rfl) ?_
    refine WL.qA 22 (yQ (cs:=[(.int .i64 z1N.2.fBurst.fN),(.int .i64 z1N.2.fBurst.fD)]) zd rfl rfl (y2G (s:=2) .h1 rfl)) ?_
    refine WL.cA 23 (za (l:=[.tmp 20,.tmp 22]) Tryz.call79 (.cons rfl (.cons rfl .nil))) .nil (ccz hz .nil .h3 fun w pz ho=>y3w _ _ _ _ zNo w pz ) ?_
    refine WL.pu rfl (WL.nil (WX.a ?_))
    refine WC.cond rfl (fun zu3=>?_) (fun zu3=>?_)
    ·replace z3Q:=yn z3Q zu3
     obtain ⟨ztX,zNp,z3Q⟩:=z7 z3Q
     obtain ⟨ztY,zNq,z3Q⟩:=z7 z3Q
     obtain ⟨z88,zNr,z3Q⟩:=z7 z3Q
     obtain ⟨zNs,z3Q⟩:=yq z3Q
     refine WC.yL (fun i=>[5,10,11,13,14].contains i) [y6D z2B 175 [(0,(.slice zhq z4P.length zhr))],y6D zNm 171 [(2,(.int .i64 z1N.1.fRate.fN)),(3,(.int .i64 z1N.1.fRate.fD))],y6D zNn 171 [(2,(.int .i64 z1N.2.fRate.fN)),(3,(.int .i64 z1N.2.fRate.fD))]] rfl ?_
     refine WD.sA 0 25 rfl (Sin.wk (.cons .h4 (.cons .h2 (.cons .h1 .nil))) (.stb (.cons rfl .nil) (.stb (.cons rfl (.cons rfl .nil)) (.stb (.cons rfl (.cons rfl .nil)) .nil)))) (yc z7I rfl (y4g .here (.head _))) ?_
     refine WD.pA 1 26 rfl (fun _=>ya y3V rfl rfl) ?_
     refine WD.qA 2 27 rfl (yQ (cs:=[(.int .i64 z1N.2.fBurst.fN),(.int .i64 z1N.2.fBurst.fD)]) zd rfl rfl (y2G (s:=2) .h1 rfl)) ?_
     refine WD.pA 3 28 rfl (fun _=>ya y3V rfl rfl) ?_
     refine WD.qA 4 29 rfl (yQ (cs:=[(.int .i64 z1N.1.fBurst.fN),(.int .i64 z1N.1.fBurst.fD)]) zd rfl rfl (y2G (s:=2) .h2 rfl)) ?_
     refine WD.pA 6 31 rfl (fun _=>ya y51 rfl rfl) ?_
     refine WD.sA 7 32 rfl (Sin.wk (.cons .h4 (.cons .h2 (.cons .h1 .nil))) (.stb (.cons rfl .nil) (.stb (.cons rfl (.cons rfl .nil)) (.stb (.cons rfl (.cons rfl .nil)) .nil)))) (yQ (cs:=[(.int .i64 z1N.1.fRate.fN),(.int .i64 z1N.1.fRate.fD)]) zd rfl rfl (y9A .h1 ((.head _)) ((.tail _ (.head _))))) ?_
     refine WD.pA 8 33 rfl (fun _=>ya y51 rfl rfl) ?_
     refine WD.sA 9 34 rfl (Sin.wk (.cons .h4 (.cons .h2 (.cons .h1 .nil))) (.stb (.cons rfl .nil) (.stb (.cons rfl (.cons rfl .nil)) (.stb (.cons rfl (.cons rfl .nil)) .nil)))) (yQ (cs:=[(.int .i64 z1N.2.fRate.fN),(.int .i64 z1N.2.fRate.fD)]) zd rfl rfl (y9A .h2 ((.head _)) ((.tail _ (.head _))))) ?_
     refine WD.call0 (i:=5) (dd:=30) rfl (by kernel_rfl) rfl rfl rfl (.inl ⟨rfl,(Sin.wk (.cons .h5 (.cons .h3 (.cons .h2 .nil))) (.stb (.cons rfl .nil) (.stb (.cons rfl (.cons rfl .nil)) (.stb (.cons rfl (.cons rfl .nil)) .nil))))⟩) (za (l:=[.tmp 4,.func 74,.tmp 27,.tmp 29]) Tryz.call167 (.cons rfl (.cons rfl (.cons rfl (.cons rfl .nil))))) (.cons .h6 .nil) (ccz hz (.cons .h6 .nil) .h3 fun w pz ho=>Calls.mono (y4P _ _ (z8E:=74) (zcW:=[]) _ (zau:=(fun (y0 : z1) (y1 : z1)=>y3x y0 y1)) _ _ _ zNp w pz Tryz.call74 (fun w' hz' y0 y1  r  hr=>y7V _ _ _ _ hr w' hz' ) ho) (fun _ _ h'=>⟨h'.1,trivial,h'.2⟩)) ?_
     intro _
     refine WD.call0 (i:=10) (dd:=35) rfl (by kernel_rfl) rfl rfl rfl (.inl ⟨rfl,(Sin.wk (.cons .h5 (.cons .h3 (.cons .h2 .nil))) (.stb (.cons rfl .nil) (.stb (.cons rfl (.cons rfl .nil)) (.stb (.cons rfl (.cons rfl .nil)) .nil))))⟩) (za (l:=[.tmp 4,.func 74,.tmp 32,.tmp 34]) Tryz.call167 (.cons rfl (.cons rfl (.cons rfl (.cons rfl .nil))))) (.cons .here .nil) (ccz hz (.cons .here .nil) .h3 fun w pz ho=>Calls.mono (y4P _ _ (z8E:=74) (zcW:=[]) _ (zau:=(fun (y0 : z1) (y1 : z1)=>y3x y0 y1)) _ _ _ zNq w pz Tryz.call74 (fun w' hz' y0 y1  r  hr=>y7V _ _ _ _ hr w' hz' ) ho) (fun _ _ h'=>⟨h'.1,trivial,h'.2⟩)) ?_
     intro _
     refine WD.call0 (i:=11) (dd:=36) rfl (by kernel_rfl) rfl rfl rfl (.inl ⟨rfl,(Sin.wk (.cons .h5 (.cons .h3 (.cons .h2 .nil))) (.stb (.cons rfl .nil) (.stb (.cons rfl (.cons rfl .nil)) (.stb (.cons rfl (.cons rfl .nil)) .nil))))⟩) (za (l:=[.tmp 4,.func 75,.tmp 30,.tmp 35]) Tryz.call167 (.cons rfl (.cons rfl (.cons rfl (.cons rfl .nil))))) (.cons .here .nil) (ccz hz (.cons .here .nil) .h3 fun w pz ho=>Calls.mono (y4P _ _ (z8E:=75) (zcW:=[]) _ (zau:=(fun (y0 : z1) (y1 : z1)=>y78 y0 y1)) _ _ _ zNr w pz Tryz.call75 (fun w' hz' y0 y1  r  hr=>ycc _ _ _ _ hr w' hz' ) ho) (fun _ _ h'=>⟨h'.1,trivial,h'.2⟩)) ?_
     intro _
     refine WD.new (i:=12) (dd:=37) rfl (by kernel_rfl) rfl rfl rfl (yS (cs:=([z88.1] : List z1).flatMap yw) z20 (Eos.parts (l:=[.tmp 36]) (.cons rfl .nil) [0]) (fun _=>by kernel_rfl) rfl (by unfold maxLen; omega)) (fun h'=>absurd h' (by decide)) ?_
     intro zXY _
     refine WD.old (i:=13) (dd:=38) rfl (by kernel_rfl) rfl rfl rfl rfl (fun _=>(Sin.wk (.cons .h7 (.cons .h5 (.cons .h4 .nil))) (.stb (.cons rfl .nil) (.stb (.cons rfl (.cons rfl .nil)) (.stb (.cons rfl (.cons rfl .nil)) .nil))))) (y4f (enc:=yw) (l1:=z4P) (l2:=([z88.1] : List z1)) z20 rfl rfl .h7 (fun _=>rfl) rfl rfl (y3C .here) (y4C yaK _) zNs) ?_
     rintro ⟨zu4,zu5⟩ _
     refine WD.y2F (i:=14) rfl (by kernel_rfl) rfl rfl rfl (by kernel_rfl) (yl zpb rfl rfl rfl .h7 rfl rfl rfl) ?_
     refine WD.done (by kernel_rfl) ?_
     refine WX.yj ?_
     obtain ⟨rfl,rfl⟩:=y9a z3Q
     exact WX.y6k znt .h4 (fun w' hw'=>⟨(zu4,zu5),rfl,trivial,(hw'.selAll ((.cons .h7 (.cons .h1 (.cons .h1 (.cons .h2 (.cons .here .nil))))) : Sel _ [fz [],stb z2B 175 [(.slice zu4 ((z4P ++ ([z88.1] : List z1)).length) zu5)],row (.slice zu4 ((z4P ++ ([z88.1] : List z1)).length) zu5) 132 2 ((z4P ++ ([z88.1] : List z1)).flatMap yw),stb z2K 262 [(.int .i64 z88.2.fE)],blk z3l (z3P .ready none)] _)).sub (.cons .here .nil)⟩)
    ·replace z3Q:=yo z3Q zu3
     refine WC.skip (WX.yj ?_)
     obtain ⟨rfl,rfl⟩:=y9a z3Q
     exact WX.y6k znt .here (fun w' hw'=>⟨(zhq,zhr),rfl,trivial,(hw'.selAll ((.cons .h3 (.cons .h3 (.cons .h3 (.cons .h3 (.cons .here .nil))))) : Sel _ [fz [],stb z2B 175 [(.slice zhq z4P.length zhr)],row (.slice zhq z4P.length zhr) 132 2 (z4P.flatMap yw),stb z2K 262 [(.int .i64 zhn)],blk z3l (z3P .ready none)] _)).sub (.cons .here .nil)⟩)
   ·skip
    rintro _ w' ⟨⟨zkF,zkG⟩,rfl,_,hp⟩
    have hp1:=hw1.call ((.cons .here .nil) : Sel [y1G [fz [],stb z2B 175 [(.slice none (([] : List z1).length) 0)],row (.slice none (([] : List z1).length) 0) 132 2 (([] : List z1).flatMap yw),stb z2K 262 [(.int .i64 0)],blk z3l (z3P .ready none)],dfr z5g,stb z34 173 [(.slice z3h z15.1.length z3i)],stb z35 173 [(.slice z3j z15.2.length z3k)],fz z5B] [y1G [fz [],stb z2B 175 [(.slice none (([] : List z1).length) 0)],row (.slice none (([] : List z1).length) 0) 132 2 (([] : List z1).flatMap yw),stb z2K 262 [(.int .i64 0)],blk z3l (z3P .ready none)]] [dfr z5g,stb z34 173 [(.slice z3h z15.1.length z3i)],stb z35 173 [(.slice z3j z15.2.length z3k)],fz z5B]) hp
    have hp2 : Hp _ _ w' [fz [],stb z2B 175 [(.slice zkF z3O.2.1.length zkG)],row (.slice zkF z3O.2.1.length zkG) 132 2 (z3O.2.1.flatMap yw),stb z2K 262 [(.int .i64 z3O.2.2)],blk z3l (z3P (rdy (pcs [] z3O.1)) (pcs [] z3O.1)),dfr z5g,stb z34 173 [(.slice z3h z15.1.length z3i)],stb z35 173 [(.slice z3j z15.2.length z3k)],fz z5B]:=hp1.pickAll .here
    refine ⟨_,pcs [] z3O.1,_,rfl,(hp2.sub ((.cons .h4 (.cons .here (.cons .here (.cons .here (.cons .here (.cons .here (.cons .here (.cons .here (.cons .here .nil))))))))) : Sel _ [blk z3l (z3P (rdy (pcs [] z3O.1)) (pcs [] z3O.1)),fz [],stb z2B 175 [(.slice zkF z3O.2.1.length zkG)],row (.slice zkF z3O.2.1.length zkG) 132 2 (z3O.2.1.flatMap yw),stb z2K 262 [(.int .i64 z3O.2.2)],dfr z5g,stb z34 173 [(.slice z3h z15.1.length z3i)],stb z35 173 [(.slice z3j z15.2.length z3k)],fz z5B] _)),?_⟩
    clear hp hp1 hp2 pz hw hw1
    refine wjN ?_
    letI : Rnd:=aft z5g
    refine WX.merge .here .h6 ?_
    refine WX.yj ?_
    exact WX.midR (D:=fun (g : Nat × Int × List z1 × Zp × Option Addr × Nat)=>g.1) (G:=Nat × Int × List z1 × Zp × Option Addr × Nat) ⟨z5g,z3O.2.2,z3O.2.1,(z5B ++ []),zkF,zkG⟩ ⟨h,(zNc.trans ((Zle.left _ _).trans (Zle.yu _ _ _)))⟩ (.cons rfl (.cons rfl .nil)) (.cons .here (.cons .h2 (.cons .here (.cons .here (.cons .here .nil)))))
  ·rintro zkE zay z8G zf8 zho zhp ⟨h,zXZ⟩
   replace h:=(zNb zay z8G).symm.trans h
   letI : Rnd:=aft zkE
   refine WC.b (WC.b (WC.a ?_))
   refine WL.qA 39 (ya y7K rfl rfl) ?_
   refine WL.qA 40 (yc y2E rfl (yk .h1 rfl)) ?_
   refine WL.pu rfl (WL.nil (WX.a ?_))
   refine WC.cond rfl (fun zu6=>?_) (fun zu6=>?_)
   ·replace h:=yn h zu6
    refine WC.b ?_
    refine WC.yL (fun i=>[].contains i) [] rfl ?_
    refine WD.pA 0 42 rfl (fun _=>ya y7K rfl rfl) ?_
    refine WD.qA 1 43 rfl (yc y2E rfl (yk .h1 rfl)) ?_
    refine WD.pA 2 2 rfl (fun _=>q_z rfl) ?_
    refine WD.pA 3 3 rfl (fun _=>q_z rfl) ?_
    refine WD.done (by kernel_rfl) ?_
    refine WX.a (WC.ret (WX.yd ?_))
    refine WX.nilRow 132 2 ?_
    obtain rfl:=Option.some.inj h
    refine WX.y71 .h5 Tryz.results153 (.tmp rfl (.tmp rfl .nil)) (fun w hw=>?_)
    exact ⟨zf8,none,0,y1z rfl rfl,trivial,hw.sub (.cons .h2 (.cons .h1 .nil))⟩
   ·replace h:=yo h zu6
    refine WC.skip (WX.a (WC.b ?_))
    obtain ⟨zu0,zNt,h⟩:=z7 h
    refine WC.a ?_
    refine WL.qA 44 (yc z7I rfl (yk .h2 rfl)) ?_
    refine WL.y4e (dd:=45) rfl rfl rfl (za (l:=[.tmp 44,.func 79]) Tryz.call171 (.cons rfl (.cons rfl .nil))) (.cons .h3 .nil) (ccz hz (.cons .h3 .nil) .here fun w pz ho=>y6N _ _ _ (zhi:=79) (znj:=[]) _ (zhh:=(fun (y0 : z1) (y1 : z1)=>y2r y0 y1)) _ zNt w pz Tryz.call79 (fun w' hz' y0 y1  r  hr=>y3w _ _ _ _ hr w' hz' ) ho) ?_
    rintro  zNu
    refine WL.restb (cs':=[(.slice zho zu0.length zhp)]) .h3 (by rw [zNu]) ?_
    refine WL.nil (WX.a (WC.b ?_))
    obtain ⟨zCw,zNv,h⟩:=z7 h
    refine WC.a ?_
    refine WL.qA 46 (yc z7I rfl (yk .here rfl)) ?_
    refine WL.y4F (dd:=47) rfl rfl rfl (za (l:=[.tmp 46]) Tryz.call172 (.cons rfl .nil)) (.cons .h1 .nil) (ccz hz (.cons .h1 .nil) .h1 fun w pz ho=>y6V _ _ _ _ _ zNv w pz  ho) ?_
    rintro zNw zNx _
    refine WL.pu rfl (WL.pu rfl (WL.nil (WX.a (WC.ret ?_))))
    obtain rfl:=Option.some.inj h
    refine WX.y71 .h4 Tryz.results153 (.tmp rfl (.tmp rfl .nil)) (fun w hw=>?_)
    exact ⟨zf8,zNw,zNx,y1z rfl rfl,trivial,hw.sub (.cons .h3 (.cons .h1 .nil))⟩
def y6w (z6y : z6) (z6z : z6) : Option Int :=
 (y2r z6y.fRate z6z.fRate).bind fun zCC=>some zCC
set_option maxRecDepth 20000 in
theorem ybT (Z : Zp)  (z6y : z6) (z6z : z6) (r : Int)
  (h : y6w z6y z6z = some r) (w₀ : World) (hz : PZ [] w₀ Z) :
  Calls Tryz.prog 174 #[(.agg #[(.int .i64 z6y.fBurst.fN),(.int .i64 z6y.fBurst.fD),(.int .i64 z6y.fRate.fN),(.int .i64 z6y.fRate.fD)]),(.agg #[(.int .i64 z6z.fBurst.fN),(.int .i64 z6z.fBurst.fD),(.int .i64 z6z.fRate.fN),(.int .i64 z6z.fRate.fD)])] w₀ fun e w'=>e = .returned (.int .i64 r) ∧ Hp [] w₀ w' []:=by
 unfold y6w at h
 refine Calls.yJ Tryz.func174 Tryz.ntmps174 ?_
 refine WC.b (WC.a ?_)
 refine WL.nA 2 (yH (cs:=[(.int .i64 z6y.fBurst.fN),(.int .i64 z6y.fBurst.fD),(.int .i64 z6y.fRate.fN),(.int .i64 z6y.fRate.fD)]) rfl rfl) ?_
 intro zY0 _
 refine WL.nA 3 (yH (cs:=[(.int .i64 z6z.fBurst.fN),(.int .i64 z6z.fBurst.fD),(.int .i64 z6z.fRate.fN),(.int .i64 z6z.fRate.fD)]) rfl rfl) ?_
 intro zY1 _
 refine WL.pu rfl (WL.nil (WX.a (WC.b ?_)))
 obtain ⟨zCC,zNy,h⟩:=z7 h
 refine WC.a ?_
 refine WL.qA 5 (ya y51 rfl rfl) ?_
 refine WL.qA 6 (yQ (cs:=[(.int .i64 z6y.fRate.fN),(.int .i64 z6y.fRate.fD)]) zd rfl rfl (y2G (s:=2) .h1 rfl)) ?_
 refine WL.qA 7 (ya y51 rfl rfl) ?_
 refine WL.qA 8 (yQ (cs:=[(.int .i64 z6z.fRate.fN),(.int .i64 z6z.fRate.fD)]) zd rfl rfl (y2G (s:=2) .here rfl)) ?_
 refine WL.cA 9 (za (l:=[.tmp 6,.tmp 8]) Tryz.call79 (.cons rfl (.cons rfl .nil))) .nil (cc hz .nil fun w pz ho=>y3w _ _ _ _ zNy w pz ) ?_
 refine WL.pu rfl (WL.nil (WX.a (WC.ret ?_)))
 obtain rfl:=Option.some.inj h
 refine WX.ye Tryz.results174 (.tmp rfl .nil) (fun w hw=>?_)
 exact ⟨yD rfl,hw.sub .nil⟩
def y1h (z1e : List z6) (z89 : z6 → z6 → Option Int) (zaz : Int → Int → Int → Int → Option z6) : Nat → Int → Int → Int → Int → Int → Option z6
 | 0,_,_,_,_,_=>none
 | zu7 + 1,z1H,z5C,z5D,z5E,z5F=>if decide (z1H < ((z1e.length : Nat) : Int)) then jp4 (fun (zaA : Int) (zaB : Int) (zaC : Int) (zaD : Int)=>y1h z1e z89 zaz zu7 (i64 (z1H + 1)) zaA zaB zaC zaD) fun znu=>chk ((0 : Int) ≤ z1H ∧ z1H < ((z1e.length : Nat) : Int)) ((z89 (⟨(⟨(((nth z1e z1H).fBurst).fN),(((nth z1e z1H).fBurst).fD)⟩ : z1),(⟨(((nth z1e z1H).fRate).fN),(((nth z1e z1H).fRate).fD)⟩ : z1)⟩ : z6) (⟨(⟨z5C,z5D⟩ : z1),(⟨z5E,z5F⟩ : z1)⟩ : z6)).bind fun zu8=>if decide (zu8 < 0) then chk ((0 : Int) ≤ z1H ∧ z1H < ((z1e.length : Nat) : Int)) (znu (((nth z1e z1H).fBurst).fN) (((nth z1e z1H).fBurst).fD) (((nth z1e z1H).fRate).fN) (((nth z1e z1H).fRate).fD)) else znu z5C z5D z5E z5F) else zaz z5C z5D z5E z5F
theorem y4Q {n : Nat} {z1e : List z6} {z89 : z6 → z6 → Option Int} {zaz : Int → Int → Int → Int → Option z6} {z1H : Int} {z5C : Int} {z5D : Int} {z5E : Int} {z5F : Int} {r : z6} (h : y1h z1e z89 zaz n z1H z5C z5D z5E z5F = some r) : ∃ m,n = m + 1:=by
 cases n with
 | zero=>cases h
 | succ m=>exact ⟨m,rfl⟩
def y2x (z1e : List z6) (z89 : z6 → z6 → Option Int) : Option z6 :=
 if decide (((z1e.length : Nat) : Int) < 1) then none else chk ((0 : Int) ≤ 0 ∧ 0 < ((z1e.length : Nat) : Int)) (jp4 (fun (zd1 : Int) (zd2 : Int) (zd3 : Int) (zd4 : Int)=>some (⟨(⟨zd1,zd2⟩ : z1),(⟨zd3,zd4⟩ : z1)⟩ : z6)) fun zaz=>y1h z1e z89 zaz yB 1 (((nth z1e 0).fBurst).fN) (((nth z1e 0).fBurst).fD) (((nth z1e 0).fRate).fN) (((nth z1e 0).fRate).fD))
set_option maxRecDepth 20000 in
theorem y61 (Z : Zp) (znv : Option Addr) (znw : Nat) (zd5 : FuncId) (zhs : List Value) (z1e : List z6) (z89 : z6 → z6 → Option Int) (r : z6)
  (h : y2x z1e z89 = some r) (w₀ : World) (hz : PZ [] w₀ Z)
  (zu9 : ZS Z 4 (fun r x=>r = y1j x) znv znw z1e)
  (zNz : ∀ args w,(callFunc zd5 args).run Tryz.prog w = .ok (.enter zd5 args) w)
  (zNA : ∀ w : World,PZ [] w Z → ∀ (x0 : z6) (x1 : z6) (r : Int),z89 x0 x1 = some r → Calls Tryz.prog zd5 (([(.agg #[(.int .i64 x0.fBurst.fN),(.int .i64 x0.fBurst.fD),(.int .i64 x0.fRate.fN),(.int .i64 x0.fRate.fD)]),(.agg #[(.int .i64 x1.fBurst.fN),(.int .i64 x1.fBurst.fD),(.int .i64 x1.fRate.fN),(.int .i64 x1.fRate.fD)])] : List Value) ++ zhs).toArray w fun e w'=>e = .returned (.int .i64 r) ∧ Hp [] w w' []) :
  Calls Tryz.prog 173 #[(.slice znv z1e.length znw),(.func (.func zd5) #[] (zhs).toArray)] w₀ fun e w'=>e = .returned (.agg #[(.int .i64 r.fBurst.fN),(.int .i64 r.fBurst.fD),(.int .i64 r.fRate.fN),(.int .i64 r.fRate.fD)]) ∧ Hp [] w₀ w' []:=by
 unfold y2x at h
 refine Calls.yJ Tryz.func173 Tryz.ntmps173 ?_
 refine WC.b (WC.a ?_)
 refine WL.nA 4 (yv (cs:=[(.int .i64 0),(.int .i64 0),(.int .i64 0),(.int .i64 0)]) z9w rfl) ?_
 intro zht _
 refine WL.nil (WX.a (WC.b (WC.b (WC.a (WL.pu rfl ?_)))))
 refine WL.qA 8 (yE Tryz.underlying173 rfl) ?_
 refine WL.pu rfl (WL.nil (WX.a ?_))
 refine WC.cond rfl (fun zua=>?_) (fun zua=>?_)
 ·replace h:=yn h zua
  cases h
 ·replace h:=yo h zua
  refine WC.skip (WX.a (WC.b ?_))
  obtain ⟨zNB,h⟩:=yq h
  refine WC.a (WL.pu rfl ?_)
  refine WL.znth (dd:=12) rfl rfl (Z:=Z) (Pr:=(fun r x=>r = y1j x)) z6l rfl rfl zu9 zNB ?_
  rintro zY2 zY3 zNC zY4 rfl
  refine WL.qA 13 (yg z2u rfl (y1A hz.pv zNC) rfl) ?_
  refine WL.nA 5 (yv (cs:=[(.int .i64 0),(.int .i64 0),(.int .i64 0),(.int .i64 0)]) z9w rfl) ?_
  intro zhu _
  refine WL.ym rfl rfl (yl z8m rfl rfl rfl .here rfl rfl rfl) ?_
  refine WL.nil (WX.a ?_)
  obtain ⟨zaz,zND,h⟩:=ycs h
  refine WC.y5s (fun (zd1 : Int) (zd2 : Int) (zd3 : Int) (zd4 : Int)=>(zaz zd1 zd2 zd3 zd4 = some r)) (fun zd1 zd2 zd3 zd4=>[(4,(.pointer (some ⟨zht,0,none⟩))),(5,(.pointer (some ⟨zhu,0,none⟩)))]) (fun zd1 zd2 zd3 zd4=>[stb zht 171 [(.int .i64 0),(.int .i64 0),(.int .i64 0),(.int .i64 0)],stb zhu 171 [(.int .i64 zd1),(.int .i64 zd2),(.int .i64 zd3),(.int .i64 zd4)]]) ?_ ?_
  ·skip
   refine WC.b (WC.a (WL.pu rfl (WL.nil (WX.a (WC.block ?_)))))
   refine WC.y8t (fun (zhv : Nat) (z1H : Int) (z5C : Int) (z5D : Int) (z5E : Int) (z5F : Int)=>(y1h z1e z89 zaz zhv z1H z5C z5D z5E z5F = some r)) (fun zhv z1H z5C z5D z5E z5F=>[(0,(.slice znv z1e.length znw)),(1,(.func (.func zd5) #[] (zhs).toArray)),(4,(.pointer (some ⟨zht,0,none⟩))),(5,(.pointer (some ⟨zhu,0,none⟩))),(6,(.int .i64 z1H))]) (fun zhv z1H z5C z5D z5E z5F=>[stb zht 171 [(.int .i64 0),(.int .i64 0),(.int .i64 0),(.int .i64 0)],stb zhu 171 [(.int .i64 z5C),(.int .i64 z5D),(.int .i64 z5E),(.int .i64 z5F)]]) (fun zhv z1H z5C z5D z5E z5F=>zhv) ⟨yB,1,(((nth z1e 0).fBurst).fN),(((nth z1e 0).fBurst).fD),(((nth z1e 0).fRate).fN),(((nth z1e 0).fRate).fD)⟩ h (.cons rfl (.cons rfl (.cons rfl (.cons rfl (.cons rfl .nil))))) (.cons .h1 (.cons .here .nil)) ?_
   rintro zhv z1H z5C z5D z5E z5F h
   obtain ⟨zu7,rfl⟩:=y4Q h
   rw [y1h] at h
   refine WC.b (WC.b (WC.a (WL.pu rfl (WL.pu rfl ?_))))
   refine WL.qA 16 (yE Tryz.underlying173 rfl) ?_
   refine WL.pu rfl (WL.nil (WX.a ?_))
   refine WC.cond rfl (fun zub=>?_) (fun zub=>?_)
   ·replace h:=yn h zub
    refine WC.skip (WX.a ?_)
    obtain ⟨znu,zNE,h⟩:=ycs h
    refine WC.y5s (fun (zaA : Int) (zaB : Int) (zaC : Int) (zaD : Int)=>(znu zaA zaB zaC zaD = some r)) (fun zaA zaB zaC zaD=>[(0,(.slice znv z1e.length znw)),(1,(.func (.func zd5) #[] (zhs).toArray)),(4,(.pointer (some ⟨zht,0,none⟩))),(5,(.pointer (some ⟨zhu,0,none⟩))),(6,(.int .i64 z1H))]) (fun zaA zaB zaC zaD=>[stb zht 171 [(.int .i64 0),(.int .i64 0),(.int .i64 0),(.int .i64 0)],stb zhu 171 [(.int .i64 zaA),(.int .i64 zaB),(.int .i64 zaC),(.int .i64 zaD)]]) ?_ ?_
    ·skip
     refine WC.block (WC.b ?_)
     obtain ⟨zNF,h⟩:=yq h
     obtain ⟨zu8,zNG,h⟩:=z7 h
     refine WC.yL (fun i=>[].contains i) [] rfl ?_
     refine WD.pA 0 20 rfl (fun _=>q_m rfl) ?_
     refine WD.pA 1 21 rfl (fun _=>q_m rfl) ?_
     refine WD.pA 2 22 rfl (fun _=>q_m rfl) ?_
     refine WD.znth (j:=3) (dd:=23) (by kernel_rfl) rfl z2E z2F rfl rfl (Z:=Z) (Pr:=(fun r x=>r = y1j x)) z6l rfl rfl zu9 zNF ?_
     rintro zY5 zY6 zNH zY7 rfl
     refine WD.qA 4 24 rfl (yg z2u rfl (y1A hz.pv zNH) rfl) ?_
     refine WD.qA 5 25 rfl (yg z2u rfl (yh .h1) rfl) ?_
     refine WD.eA 6 26 rfl (y27 (l:=[.tmp 24,.tmp 25]) (f:=zd5) (caps:=zhs) zNz rfl (.cons rfl (.cons rfl .nil))) (fun w hw=>zNA w (hz.now hw) (⟨(⟨(((nth z1e z1H).fBurst).fN),(((nth z1e z1H).fBurst).fD)⟩ : z1),(⟨(((nth z1e z1H).fRate).fN),(((nth z1e z1H).fRate).fD)⟩ : z1)⟩ : z6) (⟨(⟨z5C,z5D⟩ : z1),(⟨z5E,z5F⟩ : z1)⟩ : z6) zu8  zNG) ?_
     refine WD.pA 7 27 rfl (fun _=>q_lss rfl rfl) ?_
     refine WD.done (by kernel_rfl) ?_
     refine WX.a ?_
     refine WC.cond rfl (fun zuc=>?_) (fun zuc=>?_)
     ·replace h:=yn h zuc
      obtain ⟨zNI,h⟩:=yq h
      refine WC.a (WL.pu rfl (WL.pu rfl ?_))
      refine WL.znth (dd:=30) rfl rfl (Z:=Z) (Pr:=(fun r x=>r = y1j x)) z6l rfl rfl zu9 zNI ?_
      rintro zY8 zY9 zNJ zYa rfl
      refine WL.qA 31 (yg z2u rfl (y1A hz.pv zNJ) rfl) ?_
      refine WL.ym rfl rfl (yl z8m rfl rfl rfl .h1 rfl rfl rfl) ?_
      refine WL.nil (WX.yj ?_)
      exact WX.mid (G:=Int × Int × Int × Int) ⟨(((nth z1e z1H).fBurst).fN),(((nth z1e z1H).fBurst).fD),(((nth z1e z1H).fRate).fN),(((nth z1e z1H).fRate).fD)⟩ h (.cons rfl (.cons rfl (.cons rfl (.cons rfl (.cons rfl .nil))))) (.cons .h1 (.cons .here .nil))
     ·replace h:=yo h zuc
      refine WC.skip (WX.yj ?_)
      exact WX.mid (G:=Int × Int × Int × Int) ⟨z5C,z5D,z5E,z5F⟩ h (.cons rfl (.cons rfl (.cons rfl (.cons rfl (.cons rfl .nil))))) (.cons .here (.cons .here .nil))
    ·rintro zaA zaB zaC zaD h
     replace h:=(zNE zaA zaB zaC zaD).symm.trans h
     refine WC.a (WL.pu rfl (WL.pu rfl (WL.pu rfl (WL.nil ?_))))
     exact WX.round (G:=Nat × Int × Int × Int × Int × Int) ⟨zu7,(i64 (z1H + 1)),zaA,zaB,zaC,zaD⟩ h (Nat.lt_succ_self _) (.cons rfl (.cons rfl (.cons rfl (.cons rfl (.cons rfl .nil))))) (.cons .here (.cons .here .nil))
   ·replace h:=yo h zub
    refine WC.exit (WX.yf (WX.yf (WX.yz ?_)))
    exact WX.mid (G:=Int × Int × Int × Int) ⟨z5C,z5D,z5E,z5F⟩ h (.cons rfl (.cons rfl .nil)) (.cons .here (.cons .here .nil))
  ·rintro zd1 zd2 zd3 zd4 h
   replace h:=(zND zd1 zd2 zd3 zd4).symm.trans h
   refine WC.b (WC.a ?_)
   refine WL.qA 32 (yg z2u rfl (yh .h1) rfl) ?_
   refine WL.ym rfl rfl (yl z8m rfl rfl rfl .here rfl rfl rfl) ?_
   refine WL.nil (WX.a (WC.ret ?_))
   obtain rfl:=Option.some.inj h
   refine WX.ye Tryz.results173 (.agg rfl z2u rfl (yh .here) .nil) (fun w hw=>?_)
   exact ⟨yD rfl,hw.sub .nil⟩
def y7s (zhw : List z6) : Option (z1 × Int) :=
 (y4D zhw).bind fun zCD=>if !zCD then some ((⟨0,0⟩ : z1),2) else (y2x zhw (fun (y0 : z6) (y1 : z6)=>y6w y0 y1)).bind fun znx=>some (znx.fRate,0)
set_option maxRecDepth 20000 in
theorem yay (Z : Zp) (zCE : Option Addr) (zCF : Nat) (zhw : List z6) (r : z1 × Int)
  (h : y7s zhw = some r) (w₀ : World) (hz : PZ [] w₀ Z)
  (zCG : ZS Z 4 (fun r x=>r = y1j x) zCE zCF zhw) :
  Calls Tryz.prog 154 #[(.slice zCE zhw.length zCF)] w₀ fun e w'=>e = .returned (.tuple #[(.agg #[(.int .i64 r.1.fN),(.int .i64 r.1.fD)]),(.int .i64 r.2)]) ∧ Hp [] w₀ w' []:=by
 unfold y7s at h
 refine Calls.on1 Tryz.func154 Tryz.ntmps154 ?_
 refine WC.b (WC.a ?_)
 refine WL.nA 2 (yv (cs:=[(.int .i64 0),(.int .i64 0)]) zP rfl) ?_
 intro zYb _
 refine WL.pu rfl (WL.nil (WX.a (WC.b (WC.b ?_))))
 obtain ⟨zCD,zNK,h⟩:=z7 h
 refine WC.a (WL.pu rfl ?_)
 refine WL.cA 5 (za (l:=[.tmp 4]) Tryz.call146 (.cons rfl .nil)) .nil (cc hz .nil fun w pz ho=>y6P _ _ _ _ _ zNK w pz zCG) ?_
 refine WL.pu rfl (WL.nil (WX.a ?_))
 refine WC.cond rfl (fun zud=>?_) (fun zud=>?_)
 ·replace h:=yn h zud
  refine WC.b (WC.a ?_)
  refine WL.qA 7 (yI (v:=(.agg #[(.int .i64 0),(.int .i64 0)])) (Eos.parts (l:=[]) .nil []) (fun _=>by kernel_rfl)) ?_
  refine WL.ym rfl rfl (yl zu rfl rfl rfl .here rfl rfl rfl) ?_
  refine WL.pu rfl (WL.nil (WX.a (WC.ret (WX.yd ?_))))
  obtain rfl:=Option.some.inj h
  refine WX.ye Tryz.results154 (.agg rfl zd rfl (yh .here) (.tmp rfl .nil)) (fun w hw=>?_)
  exact ⟨y1z rfl rfl,hw.sub .nil⟩
 ·replace h:=yo h zud
  refine WC.skip (WX.a (WC.b ?_))
  obtain ⟨znx,zNL,h⟩:=z7 h
  refine WC.a (WL.pu rfl ?_)
  refine WL.cA 9 (za (l:=[.tmp 8,.func 174]) Tryz.call173 (.cons rfl (.cons rfl .nil))) .nil (cc hz .nil fun w pz ho=>y61 _ _ _ (zd5:=174) (zhs:=[]) _ (z89:=(fun (y0 : z6) (y1 : z6)=>y6w y0 y1)) _ zNL w pz zCG Tryz.call174 (fun w' hz' y0 y1  r  hr=>ybT _ _ _ _ hr w' hz' )) ?_
  refine WL.qA 10 (q_fieldA (cs':=#[(.int .i64 znx.fRate.fN),(.int .i64 znx.fRate.fD)]) ydz zd rfl rfl) ?_
  refine WL.ym rfl rfl (yl zu rfl rfl rfl .here rfl rfl rfl) ?_
  refine WL.pu rfl (WL.nil (WX.a (WC.ret ?_)))
  obtain rfl:=Option.some.inj h
  refine WX.ye Tryz.results154 (.agg rfl zd rfl (yh .here) (.tmp rfl .nil)) (fun w hw=>?_)
  exact ⟨y1z rfl rfl,hw.sub .nil⟩
def y1o (zd6 : z1v) (z6A : z1 → z1 → Option (z1 × Int)) (zd7 : z1) (zd8 : z1) : Option (z1 × z1v) :=
 if decide (zd6.fE ≠ 0) then (y2v).bind fun zCH=>some (zCH,zd6) else (z6A zd7 zd8).bind fun zhx=>if decide (zhx.2 ≠ 0) then (y2v).bind fun zCI=>some (zCI,(⟨zhx.2⟩ : z1v)) else some (zhx.1,(⟨zhx.2⟩ : z1v))
set_option maxRecDepth 20000 in
theorem y1N (Z : Zp) (zhy : Nat) (z62 : FuncId) (z7d : List Value) (zd6 : z1v) (z6A : z1 → z1 → Option (z1 × Int)) (zd7 : z1) (zd8 : z1) (r : z1 × z1v)
  (h : y1o zd6 z6A zd7 zd8 = some r) (w₀ : World) (hz : PZ (fps [stb zhy 225 [(.int .i64 zd6.fE)]]) w₀ Z)
  (zNM : ∀ args w,(callFunc z62 args).run Tryz.prog w = .ok (.enter z62 args) w)
  (zNN : ∀ w : World,PZ [] w Z → ∀ (x0 : z1) (x1 : z1) (r : z1 × Int),z6A x0 x1 = some r → Calls Tryz.prog z62 (([(.agg #[(.int .i64 x0.fN),(.int .i64 x0.fD)]),(.agg #[(.int .i64 x1.fN),(.int .i64 x1.fD)])] : List Value) ++ z7d).toArray w fun e w'=>e = .returned (.tuple #[(.agg #[(.int .i64 r.1.fN),(.int .i64 r.1.fD)]),(.int .i64 r.2)]) ∧ Hp [] w w' [])
  (hown : Hp (fps [stb zhy 225 [(.int .i64 zd6.fE)]]) w₀ w₀ [stb zhy 225 [(.int .i64 zd6.fE)]]) :
  Calls Tryz.prog 73 #[(.pointer (some ⟨zhy,0,none⟩)),(.func (.func z62) #[] (z7d).toArray),(.agg #[(.int .i64 zd7.fN),(.int .i64 zd7.fD)]),(.agg #[(.int .i64 zd8.fN),(.int .i64 zd8.fD)])] w₀ fun e w'=>e = .returned (.agg #[(.int .i64 r.1.fN),(.int .i64 r.1.fD)]) ∧ Hp (fps [stb zhy 225 [(.int .i64 zd6.fE)]]) w₀ w' [stb zhy 225 [(.int .i64 r.2.fE)]]:=by
 unfold y1o at h
 refine Calls.oh4 Tryz.func73 Tryz.ntmps73 hown ?_
 refine WC.b (WC.a ?_)
 refine WL.nA 6 (yH (cs:=[(.int .i64 zd7.fN),(.int .i64 zd7.fD)]) rfl rfl) ?_
 intro zYc _
 refine WL.nA 7 (yH (cs:=[(.int .i64 zd8.fN),(.int .i64 zd8.fD)]) rfl rfl) ?_
 intro zYd _
 refine WL.nA 8 (yv (cs:=[(.int .i64 0),(.int .i64 0)]) zP rfl) ?_
 intro zYe _
 refine WL.nil (WX.a (WC.b (WC.b (WC.a (WL.pu rfl ?_)))))
 refine WL.qA 12 (yV rfl) ?_
 refine WL.qA 13 (ya y3W rfl rfl) ?_
 refine WL.qA 14 (yc y2E rfl (yk .h3 rfl)) ?_
 refine WL.pu rfl (WL.nil (WX.a ?_))
 refine WC.cond rfl (fun zue=>?_) (fun zue=>?_)
 ·replace h:=yn h zue
  refine WC.b ?_
  obtain ⟨zCH,zNO,h⟩:=z7 h
  refine WC.a ?_
  refine WL.cA 16 (za (l:=[]) Tryz.call107 .nil) .nil (cc hz .nil fun w pz ho=>y3q _ _ zNO w pz ) ?_
  refine WL.ym rfl rfl (yl zu rfl rfl rfl .here rfl rfl rfl) ?_
  refine WL.nil (WX.a (WC.ret (WX.yd ?_)))
  obtain rfl:=Option.some.inj h
  refine WX.ye Tryz.results73 (.agg rfl zd rfl (yh .here) .nil) (fun w hw=>?_)
  exact ⟨yD rfl,hw.sub (.cons .h3 .nil)⟩
 ·replace h:=yo h zue
  refine WC.skip (WX.a (WC.b ?_))
  obtain ⟨zhx,zNP,h⟩:=z7 h
  refine WC.a (WL.pu rfl ?_)
  refine WL.qA 19 (yg zd rfl (yh .h2) rfl) ?_
  refine WL.qA 20 (yg zd rfl (yh .h1) rfl) ?_
  refine WL.cA 21 (y27 (l:=[.tmp 19,.tmp 20]) (f:=z62) (caps:=z7d) zNM rfl (.cons rfl (.cons rfl .nil))) .nil (fun w hw=>zNN w (hz.now hw) zd7 zd8 zhx  zNP) ?_
  refine WL.pu rfl (WL.pu rfl (WL.pu rfl ?_))
  refine WL.nA 9 (yv (cs:=[(.int .i64 0),(.int .i64 0)]) zP rfl) ?_
  intro zYf _
  refine WL.ym rfl rfl (yl zu rfl rfl rfl .here rfl rfl rfl) ?_
  refine WL.pu rfl (WL.nil (WX.a (WC.b (WC.b (WC.a (WL.pu rfl (WL.pu rfl ?_)))))))
  refine WL.qA 26 (yV rfl) ?_
  refine WL.qA 27 (ya y3W rfl rfl) ?_
  refine WL.ym rfl rfl (yl y9g rfl rfl rfl .h4 rfl rfl rfl) ?_
  refine WL.nil (WX.a (WC.b (WC.a (WL.pu rfl (WL.pu rfl (WL.nil (WX.a ?_)))))))
  refine WC.cond rfl (fun zuf=>?_) (fun zuf=>?_)
  ·replace h:=yn h zuf
   refine WC.b ?_
   obtain ⟨zCI,zNQ,h⟩:=z7 h
   refine WC.a ?_
   refine WL.cA 30 (za (l:=[]) Tryz.call107 .nil) .nil (cc hz .nil fun w pz ho=>y3q _ _ zNQ w pz ) ?_
   refine WL.ym rfl rfl (yl zu rfl rfl rfl .h2 rfl rfl rfl) ?_
   refine WL.nil (WX.a (WC.ret (WX.yd ?_)))
   obtain rfl:=Option.some.inj h
   refine WX.ye Tryz.results73 (.agg rfl zd rfl (yh .here) .nil) (fun w hw=>?_)
   exact ⟨yD rfl,hw.sub (.cons .h1 .nil)⟩
  ·replace h:=yo h zuf
   refine WC.skip (WX.a (WC.b (WC.a ?_)))
   refine WL.qA 31 (yg zd rfl (yh .h1) rfl) ?_
   refine WL.ym rfl rfl (yl zu rfl rfl rfl .h2 rfl rfl rfl) ?_
   refine WL.nil (WX.a (WC.ret ?_))
   obtain rfl:=Option.some.inj h
   refine WX.ye Tryz.results73 (.agg rfl zd rfl (yh .here) .nil) (fun w hw=>?_)
   exact ⟨yD rfl,hw.sub (.cons .h1 .nil)⟩
def y2m (z3m : List (List z6)) (zaE : Int → Int → Int → Option Int) : Nat → Int → Int → Int → Int → Option Int
 | 0,_,_,_,_=>none
 | zug + 1,z5h,z7e,z7f,z7g=>if decide (z5h < ((z3m.length : Nat) : Int)) then chk ((0 : Int) ≤ z5h ∧ z5h < ((z3m.length : Nat) : Int)) ((y4j (nth z3m z5h)).bind fun zuh=>if decide (zuh.2 ≠ 0) then some zuh.2 else (y7s (nth z3m z5h)).bind fun zCJ=>(y1o (⟨z7e⟩ : z1v) (fun (y0 : z1) (y1 : z1)=>y28 y0 y1) (⟨z7f,z7g⟩ : z1) zCJ.1).bind fun zf9=>y2m z3m zaE zug (i64 (z5h + 1)) zf9.2.fE zf9.1.fN zf9.1.fD) else zaE z7e z7f z7g
theorem y7c {n : Nat} {z3m : List (List z6)} {zaE : Int → Int → Int → Option Int} {z5h : Int} {z7e : Int} {z7f : Int} {z7g : Int} {r : Int} (h : y2m z3m zaE n z5h z7e z7f z7g = some r) : ∃ m,n = m + 1:=by
 cases n with
 | zero=>cases h
 | succ m=>exact ⟨m,rfl⟩
def y4B (z3m : List (List z6)) (z2f : zSv) (zny : List (List z6)) (zhz : zSv) (zfa : List z1) : Option Int :=
 (if decide (((z3m.length : Nat) : Int) > 32) then some true else (y1w z3m (fun (y0 : List z6)=>y23 y0)).bind fun zCK=>some zCK).bind fun zui=>(if zui then some true else (y5A z2f).bind fun zCL=>some (!zCL)).bind fun zuj=>if zuj then some 2 else (y2v).bind fun zkH=>jp3 (fun (zaF : Int) (zd9 : Int) (zda : Int)=>(if decide (zaF = 0) then (y2r (⟨zd9,zda⟩ : z1) z2f.fRate).bind fun zCM=>some (decide (zCM > 0)) else some false).bind fun zuk=>if zuk then some 6 else some zaF) fun zaE=>y2m z3m zaE yB 0 0 zkH.fN zkH.fD
set_option maxRecDepth 20000 in
theorem y8M (Z : Zp) (zhA : Option Addr) (zhB : Nat) (zkI : Addr) (zCN : Option Addr) (zCO : Nat) (zkJ : Addr) (zkK : Option Addr) (zkL : Nat) (z3m : List (List z6)) (z2f : zSv) (zny : List (List z6)) (zhz : zSv) (zfa : List z1) (r : Int)
  (h : y4B z3m z2f zny zhz zfa = some r) (w₀ : World) (hz : PZ [] w₀ Z)
  (zCP : ZS Z 1 (y1v Z) zhA zhB z3m)
  (zYg : ZS Z 1 (y1v Z) zCN zCO zny)
  (zYh : ZC Z zkI [(.slice zCN zny.length zCO)])
  (zYi : ZC Z zkJ [(.int .i64 zhz.fRate.fN),(.int .i64 zhz.fRate.fD),(.int .i64 zhz.fL.fN),(.int .i64 zhz.fL.fD)])
  (zYj : ZS Z 2 (fun r x=>r = yw x) zkK zkL zfa) :
  Calls Tryz.prog 109 #[(.agg #[(.slice zhA z3m.length zhB),(.int .i64 z2f.fRate.fN),(.int .i64 z2f.fRate.fD),(.int .i64 z2f.fL.fN),(.int .i64 z2f.fL.fD),(.func (.func 72) #[] #[(.pointer (some zkI)),(.pointer (some zkJ))]),(.slice zkK zfa.length zkL)])] w₀ fun e w'=>∃ Zn : Zp,e = .returned (.int .i64 r) ∧ True ∧ Hp [] w₀ w' [fz Zn]:=by
 unfold y4B at h
 refine Calls.on1 Tryz.func109 Tryz.ntmps109 ?_
 refine WC.pool (WC.b (WC.a ?_))
 refine WL.nA 1 (yH (cs:=[(.slice zhA z3m.length zhB),(.int .i64 z2f.fRate.fN),(.int .i64 z2f.fRate.fD),(.int .i64 z2f.fL.fN),(.int .i64 z2f.fL.fD),(.func (.func 72) #[] #[(.pointer (some zkI)),(.pointer (some zkJ))]),(.slice zkK zfa.length zkL)]) rfl rfl) ?_
 intro znz _
 refine WL.pu rfl (WL.nil (WX.a (WC.b (WC.b ?_))))
 obtain ⟨zui,zCQ,h⟩:=z7 h
 obtain ⟨zuj,zCR,h⟩:=z7 h
 refine WC.a ?_
 refine WL.qA 11 (ya y6a rfl rfl) ?_
 refine WL.qA 12 (yc z6V rfl (yk .here rfl)) ?_
 refine WL.qA 13 (yE Tryz.underlying128 rfl) ?_
 refine WL.pu rfl (WL.pu rfl ?_)
 refine WL.seg false 3 15 (B:=zui) rfl rfl rfl rfl rfl rfl (fun h=>(Option.some.inj (yn zCQ h)).symm) (fun _ zNR=>?_) ?_
 ·skip
  have zkM:=yo zCQ zNR
  obtain ⟨zCK,zNS,zkM⟩:=z7 zkM
  replace zkM:=Option.some.inj zkM
  refine WL.qA 16 (ya y6a rfl rfl) ?_
  refine WL.qA 17 (yc z6V rfl (yk .here rfl)) ?_
  refine WL.cA 18 (za (l:=[.tmp 17,.func 151]) Tryz.call150 (.cons rfl (.cons rfl .nil))) .nil (ccz hz .nil .h1 fun w pz ho=>y3l _ _ _ (zeL:=151) (zkj:=[]) _ (zeK:=(fun (y0 : List z6)=>y23 y0)) _ zNS w pz ((zCP.mono (Zle.left _ _)).weak (fun _ _ h=>yT (Zle.left _ _) h)) Tryz.call151 (fun w' hz' y0 ga0 gc0 r gh0 hr=>y5Y _ _ _ _ _ hr w' hz' gh0)) ?_
  refine WL.pu rfl ?_
  exact WL.yC zkM rfl rfl .all
 refine WL.pu rfl ?_
 refine WL.seg false 4 20 (B:=zuj) rfl rfl rfl rfl rfl rfl (fun h=>(Option.some.inj (yn zCR h)).symm) (fun _ zNT=>?_) ?_
 ·skip
  have zkN:=yo zCR zNT
  obtain ⟨zCL,zNU,zkN⟩:=z7 zkN
  replace zkN:=Option.some.inj zkN
  refine WL.qA 21 (ya y9D rfl rfl) ?_
  refine WL.qA 22 (yQ (cs:=[(.int .i64 z2f.fRate.fN),(.int .i64 z2f.fRate.fD),(.int .i64 z2f.fL.fN),(.int .i64 z2f.fL.fD)]) zfQ rfl rfl (y2G (s:=4) .here rfl)) ?_
  refine WL.cA 23 (za (l:=[.tmp 22]) Tryz.call152 (.cons rfl .nil)) .nil (ccz hz .nil .h1 fun w pz ho=>y8A _ _ _ zNU w pz ) ?_
  refine WL.pu rfl (WL.pu rfl ?_)
  exact WL.yC zkN rfl rfl .all
 refine WL.nil (WX.a ?_)
 refine WC.cond rfl (fun zul=>?_) (fun zul=>?_)
 ·replace h:=yn h zul
  refine WC.b (WC.a (WL.pu rfl (WL.nil (WX.a (WC.ret (WX.yd ?_))))))
  obtain rfl:=Option.some.inj h
  refine WX.ye Tryz.results109 (.tmp rfl .nil) (fun w hw=>?_)
  exact ⟨[],yD rfl,trivial,hw.sub (.cons .h1 .nil)⟩
 ·replace h:=yo h zul
  refine WC.skip (WX.a (WC.b (WC.a ?_)))
  refine WL.nA 3 (yv (cs:=[(.int .i64 0)]) zm5 rfl) ?_
  intro znA _
  refine WL.nil (WX.a (WC.b ?_))
  obtain ⟨zkH,zNV,h⟩:=z7 h
  refine WC.a ?_
  refine WL.cA 26 (za (l:=[]) Tryz.call107 .nil) .nil (ccz hz .nil .h2 fun w pz ho=>y3q _ _ zNV w pz ) ?_
  refine WL.nA 4 (yv (cs:=[(.int .i64 0),(.int .i64 0)]) zP rfl) ?_
  intro znB _
  refine WL.ym rfl rfl (yl zu rfl rfl rfl .here rfl rfl rfl) ?_
  refine WL.nil (WX.a ?_)
  obtain ⟨zaE,zNW,h⟩:=y4l h
  refine WC.y5s (fun (zaF : Int) (zd9 : Int) (zda : Int) (zfb : Zp)=>(zaE zaF zd9 zda = some r) ∧ (Zle (Z ++ []) (Z ++ zfb))) (fun zaF zd9 zda zfb=>[(1,(.pointer (some ⟨znz,0,none⟩))),(3,(.pointer (some ⟨znA,0,none⟩))),(4,(.pointer (some ⟨znB,0,none⟩)))]) (fun zaF zd9 zda zfb=>[fz zfb,stb znz 177 [(.slice zhA z3m.length zhB),(.int .i64 z2f.fRate.fN),(.int .i64 z2f.fRate.fD),(.int .i64 z2f.fL.fN),(.int .i64 z2f.fL.fD),(.func (.func 72) #[] #[(.pointer (some zkI)),(.pointer (some zkJ))]),(.slice zkK zfa.length zkL)],stb znA 225 [(.int .i64 zaF)],stb znB 132 [(.int .i64 zd9),(.int .i64 zda)]]) ?_ ?_
  ·skip
   refine WC.b (WC.a ?_)
   refine WL.qA 27 (ya y6a rfl rfl) ?_
   refine WL.qA 28 (yc z6V rfl (yk .h2 rfl)) ?_
   refine WL.qA 29 (yE Tryz.underlying128 rfl) ?_
   refine WL.pu rfl (WL.nil (WX.a (WC.block ?_)))
   refine WC.y8t (fun (zhC : Nat) (z5h : Int) (z7e : Int) (z7f : Int) (z7g : Int) (z8a : Zp)=>(y2m z3m zaE zhC z5h z7e z7f z7g = some r) ∧ (Zle (Z ++ []) (Z ++ z8a))) (fun zhC z5h z7e z7f z7g z8a=>[(1,(.pointer (some ⟨znz,0,none⟩))),(3,(.pointer (some ⟨znA,0,none⟩))),(4,(.pointer (some ⟨znB,0,none⟩))),(28,(.slice zhA z3m.length zhB)),(29,(.int .i64 ((z3m.length : Nat) : Int))),(30,(.int .i64 z5h))]) (fun zhC z5h z7e z7f z7g z8a=>[fz z8a,stb znz 177 [(.slice zhA z3m.length zhB),(.int .i64 z2f.fRate.fN),(.int .i64 z2f.fRate.fD),(.int .i64 z2f.fL.fN),(.int .i64 z2f.fL.fD),(.func (.func 72) #[] #[(.pointer (some zkI)),(.pointer (some zkJ))]),(.slice zkK zfa.length zkL)],stb znA 225 [(.int .i64 z7e)],stb znB 132 [(.int .i64 z7f),(.int .i64 z7g)]]) (fun zhC z5h z7e z7f z7g z8a=>zhC) ⟨yB,0,0,zkH.fN,zkH.fD,[]⟩ ⟨h,(Zle.refl _)⟩ (.cons rfl (.cons rfl (.cons rfl (.cons rfl (.cons rfl (.cons rfl .nil)))))) (.cons .h3 (.cons .h2 (.cons .h1 (.cons .here .nil)))) ?_
   rintro zhC z5h z7e z7f z7g z8a ⟨h,znC⟩
   obtain ⟨zug,rfl⟩:=y7c h
   rw [y2m] at h
   refine WC.b (WC.a (WL.pu rfl (WL.nil (WX.a (WC.b ?_)))))
   refine WC.cond rfl (fun zum=>?_) (fun zum=>?_)
   ·replace h:=yn h zum
    refine WC.skip (WX.a (WC.b (WC.block (WC.b ?_))))
    obtain ⟨zNX,h⟩:=yq h
    refine WC.a ?_
    refine WL.znth (dd:=32) rfl rfl (Z:=(Z ++ z8a)) (Pr:=(y1v (Z ++ z8a))) z7H rfl rfl ((zCP.mono ((Zle.left _ _).trans znC)).weak (fun _ _ h=>yT ((Zle.left _ _).trans znC) h)) zNX ?_
    rintro zYk zYl zNY zYm ⟨zYn,zYo,rfl,zCS⟩
    refine WL.qA 33 (yc zbV rfl (y48 (hz.pv2 .here) zNY rfl)) ?_
    refine WL.pu rfl (WL.nil (WX.a (WC.b (WC.b ?_))))
    obtain ⟨zuh,zNZ,h⟩:=z7 h
    refine WC.a (WL.pu rfl ?_)
    refine WL.y8P (dd:=36) rfl rfl rfl (za (l:=[.tmp 35]) Tryz.call153 (.cons rfl .nil)) .nil (ccz hz .nil .here fun w pz ho=>y6v _ _ _ _ _ zNZ w pz zCS) ?_
    rintro zCT zYp zYq _
    refine WL.merge .here .h1 ?_
    refine WL.pu rfl (WL.pu rfl (WL.pu rfl (WL.pu rfl (WL.pu rfl (WL.nil (WX.a (WC.b (WC.a (WL.pu rfl (WL.pu rfl (WL.nil (WX.a ?_))))))))))))
    refine WC.cond rfl (fun zun=>?_) (fun zun=>?_)
    ·replace h:=yn h zun
     refine WC.b (WC.a (WL.pu rfl (WL.pu rfl (WL.nil (WX.a (WC.ret (WX.yd (WX.ys (WX.yd (WX.yd (WX.ys (WX.yd ?_))))))))))))
     obtain rfl:=Option.some.inj h
     refine WX.ye Tryz.results109 (.tmp rfl .nil) (fun w hw=>?_)
     exact ⟨(z8a ++ zCT),yD rfl,trivial,hw.sub (.cons .here .nil)⟩
    ·replace h:=yo h zun
     refine WC.skip (WX.a (WC.b ?_))
     obtain ⟨zCJ,zO0,h⟩:=z7 h
     refine WC.a (WL.pu rfl ?_)
     refine WL.cA 44 (za (l:=[.tmp 43]) Tryz.call154 (.cons rfl .nil)) .nil (ccz hz .nil .here fun w pz ho=>yay _ _ _ _ _ zO0 w pz (zCS.mono ((Zle.left _ _).trans (Zle.yu _ _ _)))) ?_
     refine WL.pu rfl (WL.pu rfl (WL.pu rfl ?_))
     refine WL.nA 9 (yv (cs:=[(.int .i64 0),(.int .i64 0)]) zP rfl) ?_
     intro zYr _
     refine WL.ym rfl rfl (yl zu rfl rfl rfl .here rfl rfl rfl) ?_
     refine WL.pu rfl (WL.nil (WX.a ?_))
     obtain ⟨zf9,zO1,h⟩:=z7 h
     refine WC.a ?_
     refine WL.qA 47 (yg zd rfl (yh .h5) rfl) ?_
     refine WL.qA 48 (yg zd rfl (yh .here) rfl) ?_
     refine WL.cA 49 (za (l:=[.tmp 3,.func 69,.tmp 47,.tmp 48]) Tryz.call73 (.cons rfl (.cons rfl (.cons rfl (.cons rfl .nil))))) (.cons .h4 .nil) (ccz hz (.cons .h4 .nil) .h1 fun w pz ho=>y1N _ _ (z62:=69) (z7d:=[]) _ (z6A:=(fun (y0 : z1) (y1 : z1)=>y28 y0 y1)) _ _ _ zO1 w pz Tryz.call69 (fun w' hz' y0 y1  r  hr=>y5q _ _ _ _ hr w' hz' ) ho) ?_
     refine WL.ym rfl rfl (yl zu rfl rfl rfl .h5 rfl rfl rfl) ?_
     refine WL.nil (WX.yj (WX.a (WC.a (WL.pu rfl (WL.pu rfl (WL.nil ?_))))))
     exact WX.round (G:=Nat × Int × Int × Int × Int × Zp) ⟨zug,(i64 (z5h + 1)),zf9.2.fE,zf9.1.fN,zf9.1.fD,(z8a ++ zCT)⟩ ⟨h,(znC.trans ((Zle.left _ _).trans (Zle.yu _ _ _)))⟩ (Nat.lt_succ_self _) (.cons rfl (.cons rfl (.cons rfl (.cons rfl (.cons rfl (.cons rfl .nil)))))) (.cons .h3 (.cons .h4 (.cons .h1 (.cons .here .nil))))
   ·replace h:=yo h zum
    refine WC.exit (WX.yf (WX.yf (WX.yz ?_)))
    exact WX.mid (G:=Int × Int × Int × Zp) ⟨z7e,z7f,z7g,z8a⟩ ⟨h,znC⟩ (.cons rfl (.cons rfl (.cons rfl .nil))) (.cons .here (.cons .here (.cons .here (.cons .here .nil))))
  ·rintro zaF zd9 zda zfb ⟨h,zYs⟩
   replace h:=(zNW zaF zd9 zda).symm.trans h
   refine WC.b (WC.b ?_)
   obtain ⟨zuk,zCU,h⟩:=z7 h
   refine WC.a ?_
   refine WL.qA 51 (ya y3W rfl rfl) ?_
   refine WL.qA 52 (yc y2E rfl (yk .h2 rfl)) ?_
   refine WL.pu rfl (WL.pu rfl ?_)
   refine WL.seg true 6 54 (B:=zuk) rfl rfl rfl rfl rfl rfl (fun h=>(Option.some.inj (yo zCU h)).symm) (fun _ zO2=>?_) ?_
   ·skip
    have zkO:=yn zCU zO2
    obtain ⟨zCM,zO3,zkO⟩:=z7 zkO
    replace zkO:=Option.some.inj zkO
    refine WL.qA 55 (yg zd rfl (yh .h3) rfl) ?_
    refine WL.qA 56 (ya y9D rfl rfl) ?_
    refine WL.qA 57 (ya y7I rfl rfl) ?_
    refine WL.qA 58 (yQ (cs:=[(.int .i64 z2f.fRate.fN),(.int .i64 z2f.fRate.fD)]) zd rfl rfl (y2G (s:=2) .h1 rfl)) ?_
    refine WL.cA 59 (za (l:=[.tmp 55,.tmp 58]) Tryz.call79 (.cons rfl (.cons rfl .nil))) .nil (ccz hz .nil .here fun w pz ho=>y3w _ _ _ _ zO3 w pz ) ?_
    refine WL.pu rfl (WL.pu rfl ?_)
    exact WL.yC zkO rfl rfl .all
   refine WL.nil (WX.a ?_)
   refine WC.cond rfl (fun zuo=>?_) (fun zuo=>?_)
   ·replace h:=yn h zuo
    refine WC.b (WC.a (WL.pu rfl (WL.nil (WX.a (WC.ret (WX.yd ?_))))))
    obtain rfl:=Option.some.inj h
    refine WX.ye Tryz.results109 (.tmp rfl .nil) (fun w hw=>?_)
    exact ⟨zfb,yD rfl,trivial,hw.sub (.cons .here .nil)⟩
   ·replace h:=yo h zuo
    refine WC.skip (WX.a (WC.b (WC.a ?_)))
    refine WL.qA 62 (ya y3W rfl rfl) ?_
    refine WL.qA 63 (yc y2E rfl (yk .h2 rfl)) ?_
    refine WL.pu rfl (WL.nil (WX.a (WC.ret ?_)))
    obtain rfl:=Option.some.inj h
    refine WX.ye Tryz.results109 (.tmp rfl .nil) (fun w hw=>?_)
    exact ⟨zfb,yD rfl,trivial,hw.sub (.cons .here .nil)⟩
def y4p (zhD : List (List z6)) (z63 : zSv) (znD : List (List z6)) (zhE : zSv) (zhF : List z1) : Option (Int × Int × Int × Int) :=
 some (z63.fRate.fN,z63.fRate.fD,z63.fL.fN,z63.fL.fD)
set_option maxRecDepth 20000 in
theorem y8C (Z : Zp) (znE : Option Addr) (znF : Nat) (znG : Addr) (zCV : Option Addr) (zCW : Nat) (znH : Addr) (znI : Option Addr) (znJ : Nat) (zhD : List (List z6)) (z63 : zSv) (znD : List (List z6)) (zhE : zSv) (zhF : List z1) (r : Int × Int × Int × Int)
  (h : y4p zhD z63 znD zhE zhF = some r) (w₀ : World) (hz : PZ [] w₀ Z)
  (zYt : ZS Z 1 (y1v Z) znE znF zhD)
  (zYu : ZS Z 1 (y1v Z) zCV zCW znD)
  (zYv : ZC Z znG [(.slice zCV znD.length zCW)])
  (zYw : ZC Z znH [(.int .i64 zhE.fRate.fN),(.int .i64 zhE.fRate.fD),(.int .i64 zhE.fL.fN),(.int .i64 zhE.fL.fD)])
  (zYx : ZS Z 2 (fun r x=>r = yw x) znI znJ zhF) :
  Calls Tryz.prog 110 #[(.agg #[(.slice znE zhD.length znF),(.int .i64 z63.fRate.fN),(.int .i64 z63.fRate.fD),(.int .i64 z63.fL.fN),(.int .i64 z63.fL.fD),(.func (.func 72) #[] #[(.pointer (some znG)),(.pointer (some znH))]),(.slice znI zhF.length znJ)])] w₀ fun e w'=>∃ zCX : Nat,e = .returned (.func (.func 155) #[] #[(.pointer (some ⟨zCX,0,none⟩))]) ∧ True ∧ Hp [] w₀ w' [stb zCX 177 [(.slice znE zhD.length znF),(.int .i64 r.1),(.int .i64 r.2.1),(.int .i64 r.2.2.1),(.int .i64 r.2.2.2),(.func (.func 72) #[] #[(.pointer (some znG)),(.pointer (some znH))]),(.slice znI zhF.length znJ)]]:=by
 unfold y4p at h
 refine Calls.on1 Tryz.func110 Tryz.ntmps110 ?_
 refine WC.b (WC.a ?_)
 refine WL.nA 1 (yH (cs:=[(.slice znE zhD.length znF),(.int .i64 z63.fRate.fN),(.int .i64 z63.fRate.fD),(.int .i64 z63.fL.fN),(.int .i64 z63.fL.fD),(.func (.func 72) #[] #[(.pointer (some znG)),(.pointer (some znH))]),(.slice znI zhF.length znJ)]) rfl rfl) ?_
 intro zO4 _
 refine WL.pu rfl (WL.nil (WX.a (WC.b (WC.a ?_))))
 refine WL.qA 3 (yX (Eos.caps (l:=[.tmp 1]) (.cons rfl .nil))) ?_
 refine WL.pu rfl (WL.nil (WX.a (WC.ret ?_)))
 obtain rfl:=Option.some.inj h
 refine WX.ye Tryz.results110 (.tmp rfl .nil) (fun w hw=>?_)
 exact ⟨zO4,yD rfl,trivial,hw.sub (.cons .here .nil)⟩
def y3H (z3R : z1) : Option Int :=
 (y1y z3R).bind fun zCY=>if !zCY then some 0 else chk ((z3R.fD : Int) ≠ 0) (jp1 (fun (zdb : Int)=>some zdb) fun znK=>chk ((z3R.fD : Int) ≠ 0) (if decide ((Int.tmod z3R.fN z3R.fD) < 0) then znK (i64 ((i64 (Int.tdiv z3R.fN z3R.fD)) - 1)) else znK (i64 (Int.tdiv z3R.fN z3R.fD))))
set_option maxRecDepth 20000 in
theorem y53 (Z : Zp)  (z3R : z1) (r : Int)
  (h : y3H z3R = some r) (w₀ : World) (hz : PZ [] w₀ Z) :
  Calls Tryz.prog 46 #[(.agg #[(.int .i64 z3R.fN),(.int .i64 z3R.fD)])] w₀ fun e w'=>e = .returned (.int .i64 r) ∧ Hp [] w₀ w' []:=by
 unfold y3H at h
 refine Calls.on1 Tryz.func46 Tryz.ntmps46 ?_
 refine WC.b (WC.a ?_)
 refine WL.nA 1 (yH (cs:=[(.int .i64 z3R.fN),(.int .i64 z3R.fD)]) rfl rfl) ?_
 intro zYy _
 refine WL.pu rfl (WL.nil (WX.a (WC.b (WC.b ?_))))
 obtain ⟨zCY,zO5,h⟩:=z7 h
 refine WC.a ?_
 refine WL.qA 4 (yg zd rfl (yh .here) rfl) ?_
 refine WL.cA 5 (za (l:=[.tmp 4]) Tryz.call80 (.cons rfl .nil)) .nil (cc hz .nil fun w pz ho=>y1T _ _ _ zO5 w pz ) ?_
 refine WL.pu rfl (WL.nil (WX.a ?_))
 refine WC.cond rfl (fun zup=>?_) (fun zup=>?_)
 ·replace h:=yn h zup
  refine WC.b (WC.a (WL.pu rfl (WL.nil (WX.a (WC.ret (WX.yd ?_))))))
  obtain rfl:=Option.some.inj h
  refine WX.ye Tryz.results46 (.tmp rfl .nil) (fun w hw=>?_)
  exact ⟨yD rfl,hw.sub .nil⟩
 ·replace h:=yo h zup
  refine WC.skip (WX.a (WC.b ?_))
  obtain ⟨zO6,h⟩:=yq h
  refine WC.a ?_
  refine WL.qA 7 (ya y1K rfl rfl) ?_
  refine WL.qA 8 (yc yt rfl (yk .here rfl)) ?_
  refine WL.qA 9 (ya y2a rfl rfl) ?_
  refine WL.qA 10 (yc yt rfl (yk .here rfl)) ?_
  refine WL.qA 11 (q_quo rfl rfl zO6 rfl) ?_
  refine WL.pu rfl (WL.nil (WX.a ?_))
  obtain ⟨znK,zO7,h⟩:=yU h
  refine WC.y2P (fun (zdb : Int)=>(znK zdb = some r)) (fun zdb=>[(3,(.int .i64 zdb))]) (fun zdb=>[]) ?_ ?_
  ·skip
   refine WC.b ?_
   obtain ⟨zO8,h⟩:=yq h
   refine WC.a ?_
   refine WL.qA 12 (ya y1K rfl rfl) ?_
   refine WL.qA 13 (yc yt rfl (yk .here rfl)) ?_
   refine WL.qA 14 (ya y2a rfl rfl) ?_
   refine WL.qA 15 (yc yt rfl (yk .here rfl)) ?_
   refine WL.qA 16 (q_rem rfl rfl zO8 rfl) ?_
   refine WL.pu rfl (WL.nil (WX.a ?_))
   refine WC.cond rfl (fun zuq=>?_) (fun zuq=>?_)
   ·replace h:=yn h zuq
    refine WC.a (WL.pu rfl (WL.pu rfl (WL.pu rfl (WL.nil ?_))))
    exact WX.mid (G:=Int) (i64 ((i64 (Int.tdiv z3R.fN z3R.fD)) - 1)) h (.cons rfl .nil) .nil
   ·replace h:=yo h zuq
    refine WC.skip ?_
    exact WX.mid (G:=Int) (i64 (Int.tdiv z3R.fN z3R.fD)) h (.cons rfl .nil) .nil
  ·rintro zdb h
   replace h:=(zO7 zdb).symm.trans h
   refine WC.b (WC.a (WL.pu rfl (WL.pu rfl (WL.nil (WX.a (WC.ret ?_))))))
   obtain rfl:=Option.some.inj h
   refine WX.ye Tryz.results46 (.tmp rfl .nil) (fun w hw=>?_)
   exact ⟨yD rfl,hw.sub .nil⟩
def y6x (z8b : z1) : Option Int :=
 (y1y z8b).bind fun zCZ=>if !zCZ then some 0 else (y3H (⟨i64 (0 - z8b.fN),z8b.fD⟩ : z1)).bind fun zD0=>some (i64 (0 - zD0))
set_option maxRecDepth 20000 in
theorem y8h (Z : Zp)  (z8b : z1) (r : Int)
  (h : y6x z8b = some r) (w₀ : World) (hz : PZ [] w₀ Z) :
  Calls Tryz.prog 156 #[(.agg #[(.int .i64 z8b.fN),(.int .i64 z8b.fD)])] w₀ fun e w'=>e = .returned (.int .i64 r) ∧ Hp [] w₀ w' []:=by
 unfold y6x at h
 refine Calls.on1 Tryz.func156 Tryz.ntmps156 ?_
 refine WC.b (WC.a ?_)
 refine WL.nA 1 (yH (cs:=[(.int .i64 z8b.fN),(.int .i64 z8b.fD)]) rfl rfl) ?_
 intro zYz _
 refine WL.pu rfl (WL.nil (WX.a (WC.b (WC.b ?_))))
 obtain ⟨zCZ,zO9,h⟩:=z7 h
 refine WC.a ?_
 refine WL.qA 3 (yg zd rfl (yh .here) rfl) ?_
 refine WL.cA 4 (za (l:=[.tmp 3]) Tryz.call80 (.cons rfl .nil)) .nil (cc hz .nil fun w pz ho=>y1T _ _ _ zO9 w pz ) ?_
 refine WL.pu rfl (WL.nil (WX.a ?_))
 refine WC.cond rfl (fun zur=>?_) (fun zur=>?_)
 ·replace h:=yn h zur
  refine WC.b (WC.a (WL.pu rfl (WL.nil (WX.a (WC.ret (WX.yd ?_))))))
  obtain rfl:=Option.some.inj h
  refine WX.ye Tryz.results156 (.tmp rfl .nil) (fun w hw=>?_)
  exact ⟨yD rfl,hw.sub .nil⟩
 ·replace h:=yo h zur
  refine WC.skip (WX.a (WC.b ?_))
  obtain ⟨zD0,zOa,h⟩:=z7 h
  refine WC.a ?_
  refine WL.qA 6 (ya y1K rfl rfl) ?_
  refine WL.qA 7 (yc yt rfl (yk .here rfl)) ?_
  refine WL.qA 8 (q_neg rfl rfl) ?_
  refine WL.qA 9 (ya y2a rfl rfl) ?_
  refine WL.qA 10 (yc yt rfl (yk .here rfl)) ?_
  refine WL.qA 11 (yI (v:=(.agg #[(.int .i64 (i64 (0 - z8b.fN))),(.int .i64 z8b.fD)])) (Eos.parts (l:=[.tmp 8,.tmp 10]) (.cons rfl (.cons rfl .nil)) [0,1]) (fun _=>by kernel_rfl)) ?_
  refine WL.cA 12 (za (l:=[.tmp 11]) Tryz.call46 (.cons rfl .nil)) .nil (cc hz .nil fun w pz ho=>y53 _ _ _ zOa w pz ) ?_
  refine WL.qA 13 (q_neg rfl rfl) ?_
  refine WL.pu rfl (WL.nil (WX.a (WC.ret ?_)))
  obtain rfl:=Option.some.inj h
  refine WX.ye Tryz.results156 (.tmp rfl .nil) (fun w hw=>?_)
  exact ⟨yD rfl,hw.sub .nil⟩
def y24 (zq : Type) (z2o : List z1 × Int) (z29 : z1 → zq → Option (Bool × zq)) (zaG : zq → Option zq) : Nat → Int → zq → Option zq
 | 0,_,_=>none
 | zus + 1,z2L,z5i=>if decide (z2L < ((z2o.1.length : Nat) : Int)) then chk ((0 : Int) ≤ z2L ∧ z2L < ((z2o.1.length : Nat) : Int)) ((y3H (⟨((nth z2o.1 z2L).fN),((nth z2o.1 z2L).fD)⟩ : z1)).bind fun zD1=>(y1D zD1).bind fun zut=>(z29 zut z5i).bind fun z8H=>(if !z8H.1 then some (true,z8H.2) else (y6x (⟨((nth z2o.1 z2L).fN),((nth z2o.1 z2L).fD)⟩ : z1)).bind fun zD2=>(y1D zD2).bind fun zuu=>(z29 zuu z8H.2).bind fun zkP=>some (!zkP.1,zkP.2)).bind fun zdc=>if zdc.1 then some zdc.2 else y24 zq z2o z29 zaG zus (i64 (z2L + 1)) zdc.2) else zaG z5i
theorem y6H {n : Nat} {zq : Type} {z2o : List z1 × Int} {z29 : z1 → zq → Option (Bool × zq)} {zaG : zq → Option zq} {z2L : Int} {z5i : zq} {r : zq} (h : y24 zq z2o z29 zaG n z2L z5i = some r) : ∃ m,n = m + 1:=by
 cases n with
 | zero=>cases h
 | succ m=>exact ⟨m,rfl⟩
def y25 (zq : Type) (z2C : List (List z6)) (z29 : z1 → zq → Option (Bool × zq)) (zaH : zq → Option zq) : Nat → Int → zq → Option zq
 | 0,_,_=>none
 | zuv + 1,z3S,z64=>if decide (z3S < ((z2C.length : Nat) : Int)) then jp1 (fun (z8I : zq)=>y25 zq z2C z29 zaH zuv (i64 (z3S + 1)) z8I) fun zuw=>chk ((0 : Int) ≤ z3S ∧ z3S < ((z2C.length : Nat) : Int)) ((y4j (nth z2C z3S)).bind fun z2o=>jp1 (fun (z8J : zq)=>zuw z8J) fun zaG=>y24 zq z2o z29 zaG yB 0 z64) else zaH z64
theorem y6I {n : Nat} {zq : Type} {z2C : List (List z6)} {z29 : z1 → zq → Option (Bool × zq)} {zaH : zq → Option zq} {z3S : Int} {z64 : zq} {r : zq} (h : y25 zq z2C z29 zaH n z3S z64 = some r) : ∃ m,n = m + 1:=by
 cases n with
 | zero=>cases h
 | succ m=>exact ⟨m,rfl⟩
def y26 (zq : Type) (z2M : List z1) (z29 : z1 → zq → Option (Bool × zq)) (zaI : zq → Option zq) : Nat → Int → zq → Option zq
 | 0,_,_=>none
 | zux + 1,z3n,z5j=>if decide (z3n < ((z2M.length : Nat) : Int)) then chk ((0 : Int) ≤ z3n ∧ z3n < ((z2M.length : Nat) : Int)) ((y3H (⟨((nth z2M z3n).fN),((nth z2M z3n).fD)⟩ : z1)).bind fun zD3=>(y1D zD3).bind fun zuy=>(z29 zuy z5j).bind fun z8K=>(if !z8K.1 then some (true,z8K.2) else (y6x (⟨((nth z2M z3n).fN),((nth z2M z3n).fD)⟩ : z1)).bind fun zD4=>(y1D zD4).bind fun zuz=>(z29 zuz z8K.2).bind fun zkQ=>some (!zkQ.1,zkQ.2)).bind fun zdd=>if zdd.1 then some zdd.2 else y26 zq z2M z29 zaI zux (i64 (z3n + 1)) zdd.2) else zaI z5j
theorem y6J {n : Nat} {zq : Type} {z2M : List z1} {z29 : z1 → zq → Option (Bool × zq)} {zaI : zq → Option zq} {z3n : Int} {z5j : zq} {r : zq} (h : y26 zq z2M z29 zaI n z3n z5j = some r) : ∃ m,n = m + 1:=by
 cases n with
 | zero=>cases h
 | succ m=>exact ⟨m,rfl⟩
def y3Z (zq : Type) (z29 : z1 → zq → Option (Bool × zq)) (s0_44368 : zq) (z2C : List (List z6)) (zfc : zSv) (zkR : List (List z6)) (zfd : zSv) (z2M : List z1) : Option zq :=
 (y2v).bind fun zuA=>(z29 zuA s0_44368).bind fun zfe=>if !zfe.1 then some zfe.2 else jp1 (fun (z8L : zq)=>jp1 (fun (zaJ : zq)=>some zaJ) fun zaI=>y26 zq z2M z29 zaI yB 0 z8L) fun zaH=>y25 zq z2C z29 zaH yB 0 zfe.2
set_option maxRecDepth 20000 in
theorem y8b (Z : Zp) (zq : Type) (z8c : Nat) (z2g : Type) (z2h : z2g → zq → Asrt) (z6B : z2g → zq → Prop) (zaK : z2g) (zaL : Addr) (zde : Option Addr) (zdf : Nat) (zuB : Addr) (zuC : Option Addr) (zuD : Nat) (zuE : Addr) (zkS : Option Addr) (zkT : Nat) (z29 : z1 → zq → Option (Bool × zq)) (s0_44368 : zq) (z2C : List (List z6)) (zfc : zSv) (zkR : List (List z6)) (zfd : zSv) (z2M : List z1) (r : zq) (w₀ : World) (hz : PZ (fps [z2h zaK s0_44368]) w₀ Z)
  (zkU : yag Tryz.prog Z z8c (α:=z1) (σ:=zq) (G:=z2g) (H:=Unit) (fun h x=>[(.agg #[(.int .i64 x.fN),(.int .i64 x.fD)])]) (fun h x=>[]) z29 z2h z6B)
  (zOb : z6B zaK s0_44368)
  (zOc : ZS Z 1 (y1v Z) zde zdf z2C)
  (zYA : ZS Z 1 (y1v Z) zuC zuD zkR)
  (zYB : ZC Z zuB [(.slice zuC zkR.length zuD)])
  (zYC : ZC Z zuE [(.int .i64 zfd.fRate.fN),(.int .i64 zfd.fRate.fD),(.int .i64 zfd.fL.fN),(.int .i64 zfd.fL.fD)])
  (zOd : ZS Z 2 (fun r x=>r = yw x) zkS zkT z2M)
  (zD5 : ZC Z zaL [(.slice zde z2C.length zdf),(.int .i64 zfc.fRate.fN),(.int .i64 zfc.fRate.fD),(.int .i64 zfc.fL.fN),(.int .i64 zfc.fL.fD),(.func (.func 72) #[] #[(.pointer (some zuB)),(.pointer (some zuE))]),(.slice zkS z2M.length zkT)])
  (h : y3Z zq z29 s0_44368 z2C zfc zkR zfd z2M = some r)
  (hown : Hp (fps [z2h zaK s0_44368]) w₀ w₀ [z2h zaK s0_44368]) :
  Calls Tryz.prog 155 #[(.func (.yield z8c) #[] #[]),(.pointer (some zaL))] w₀ fun e w'=>∃ Zn : Zp,∃ zD6 : z2g,e = .returned (.tuple #[]) ∧ (z6B zD6 r) ∧ Hp (fps [z2h zaK s0_44368]) w₀ w' [fz Zn,z2h zD6 r]:=by
 unfold y3Z at h
 refine Calls.oh2 Tryz.func155 Tryz.ntmps155 hown ?_
 refine WC.pool (WC.b (WC.b ?_))
 obtain ⟨zuA,zOe,h⟩:=z7 h
 obtain ⟨zfe,zOf,h⟩:=z7 h
 refine WC.a (WL.pu rfl ?_)
 refine WL.cA 12 (za (l:=[]) Tryz.call107 .nil) .nil (ccz hz .nil .here fun w pz ho=>y3q _ _ zOe w pz ) ?_
 refine WL.yield (dd:=13) (x:=zuA) (h:=()) (g:=zaK) (s:=s0_44368) (b:=zfe.1) (s':=zfe.2) zkU rfl rfl rfl (.cons rfl .nil) ((.cons .h1 .nil) : Sel _ [z2h zaK s0_44368] _) zOf zOb (fun w hw=>hz.call hw ((.cons .h1 .nil) : Sel _ [z2h zaK s0_44368] _)) ?_
 intro zD7 zD8
 refine WL.pu rfl (WL.nil (WX.a ?_))
 refine WC.cond rfl (fun zuF=>?_) (fun zuF=>?_)
 ·replace h:=yn h zuF
  refine WC.ret (WX.yd ?_)
  obtain rfl:=Option.some.inj h
  refine WX.ye Tryz.results155 .nil (fun w hw=>?_)
  exact ⟨[],zD7,y6Q,zD8,hw.sub (.cons .h1 (.cons .here .nil))⟩
 ·replace h:=yo h zuF
  refine WC.skip (WX.a ?_)
  obtain ⟨zaH,zOg,h⟩:=yU h
  refine WC.y1x (fun (z8L : zq) (z8d : Zp) (zhG : z2g)=>(zaH z8L = some r) ∧ (Zle (Z ++ []) (Z ++ z8d)) ∧ (z6B zhG z8L)) (fun z8L z8d zhG=>[(0,(.func (.yield z8c) #[] #[])),(1,(.pointer (some zaL)))]) (fun z8L z8d zhG=>[fz z8d,z2h zhG z8L]) ?_ ?_
  ·skip
   refine WC.b (WC.a ?_)
   refine WL.qA 15 (ya y6a rfl rfl) ?_
   refine WL.qA 16 (yc z6V rfl (y11 (hz.pv2 .h1) (zD5.mono (Zle.left _ _)) rfl)) ?_
   refine WL.qA 17 (yE Tryz.underlying128 rfl) ?_
   refine WL.pu rfl (WL.nil (WX.a (WC.block ?_)))
   refine WC.y4k (fun (zhH : Nat) (z3S : Int) (z64 : zq) (z5G : Zp) (zdg : z2g)=>(y25 zq z2C z29 zaH zhH z3S z64 = some r) ∧ (Zle (Z ++ []) (Z ++ z5G)) ∧ (z6B zdg z64)) (fun zhH z3S z64 z5G zdg=>[(0,(.func (.yield z8c) #[] #[])),(1,(.pointer (some zaL))),(16,(.slice zde z2C.length zdf)),(17,(.int .i64 ((z2C.length : Nat) : Int))),(18,(.int .i64 z3S))]) (fun zhH z3S z64 z5G zdg=>[fz z5G,z2h zdg z64]) (fun zhH z3S z64 z5G zdg=>zhH) ⟨yB,0,zfe.2,[],zD7⟩ ⟨h,(Zle.refl _),zD8⟩ (.cons rfl (.cons rfl (.cons rfl (.cons rfl (.cons rfl .nil))))) (.cons .h1 (.cons .here .nil)) ?_
   rintro zhH z3S z64 z5G zdg ⟨h,znL,zD9⟩
   obtain ⟨zuv,rfl⟩:=y6I h
   rw [y25] at h
   refine WC.b (WC.a (WL.pu rfl (WL.nil (WX.a (WC.b ?_)))))
   refine WC.cond rfl (fun zuG=>?_) (fun zuG=>?_)
   ·replace h:=yn h zuG
    refine WC.skip (WX.a ?_)
    obtain ⟨zuw,zOh,h⟩:=yU h
    refine WC.y1x (fun (z8I : zq) (zhI : Zp) (zhJ : z2g)=>(zuw z8I = some r) ∧ (Zle (Z ++ z5G) (Z ++ zhI)) ∧ (z6B zhJ z8I)) (fun z8I zhI zhJ=>[(0,(.func (.yield z8c) #[] #[])),(1,(.pointer (some zaL))),(16,(.slice zde z2C.length zdf)),(17,(.int .i64 ((z2C.length : Nat) : Int))),(18,(.int .i64 z3S))]) (fun z8I zhI zhJ=>[fz zhI,z2h zhJ z8I]) ?_ ?_
    ·skip
     refine WC.block (WC.b ?_)
     obtain ⟨zOi,h⟩:=yq h
     refine WC.a ?_
     refine WL.znth (dd:=20) rfl rfl (Z:=(Z ++ z5G)) (Pr:=(y1v (Z ++ z5G))) z7H rfl rfl ((zOc.mono ((Zle.left _ _).trans znL)).weak (fun _ _ h=>yT ((Zle.left _ _).trans znL) h)) zOi ?_
     rintro zYD zYE zOj zYF ⟨zYG,zYH,rfl,zOk⟩
     refine WL.qA 21 (yc zbV rfl (y48 (hz.pv2 .here) zOj rfl)) ?_
     refine WL.pu rfl (WL.nil (WX.a (WC.b ?_)))
     obtain ⟨z2o,zOl,h⟩:=z7 h
     refine WC.a (WL.pu rfl ?_)
     refine WL.y8P (dd:=24) rfl rfl rfl (za (l:=[.tmp 23]) Tryz.call153 (.cons rfl .nil)) .nil (ccz hz .nil .here fun w pz ho=>y6v _ _ _ _ _ zOl w pz zOk) ?_
     rintro zkV zDa znM _
     refine WL.merge .here .h1 ?_
     refine WL.pu rfl (WL.pu rfl (WL.pu rfl (WL.pu rfl (WL.pu rfl (WL.nil (WX.a (WC.b (WC.a (WL.pu rfl ?_)))))))))
     refine WL.qA 28 (yE Tryz.underlying175 rfl) ?_
     refine WL.pu rfl (WL.nil (WX.a ?_))
     obtain ⟨zaG,zOm,h⟩:=yU h
     refine WC.y8l (fun (z8J : zq) (zhK : z2g)=>(zaG z8J = some r) ∧ (z6B zhK z8J)) (fun z8J zhK=>[(0,(.func (.yield z8c) #[] #[])),(1,(.pointer (some zaL))),(16,(.slice zde z2C.length zdf)),(17,(.int .i64 ((z2C.length : Nat) : Int))),(18,(.int .i64 z3S))]) (fun z8J zhK=>[fz (z5G ++ zkV),z2h zhK z8J]) ?_ ?_
     ·skip
      refine WC.block ?_
      refine WC.y5t (fun (zhL : Nat) (z2L : Int) (z5i : zq) (z8M : z2g)=>(y24 zq z2o z29 zaG zhL z2L z5i = some r) ∧ (z6B z8M z5i)) (fun zhL z2L z5i z8M=>[(0,(.func (.yield z8c) #[] #[])),(1,(.pointer (some zaL))),(16,(.slice zde z2C.length zdf)),(17,(.int .i64 ((z2C.length : Nat) : Int))),(18,(.int .i64 z3S)),(27,(.slice zDa z2o.1.length znM)),(28,(.int .i64 ((z2o.1.length : Nat) : Int))),(29,(.int .i64 z2L))]) (fun zhL z2L z5i z8M=>[fz (z5G ++ zkV),row (.slice zDa z2o.1.length znM) 132 2 (z2o.1.flatMap yw),z2h z8M z5i]) (fun zhL z2L z5i z8M=>zhL) ⟨yB,0,z64,zdg⟩ ⟨h,zD9⟩ (.cons rfl (.cons rfl (.cons rfl (.cons rfl (.cons rfl (.cons rfl (.cons rfl (.cons rfl .nil)))))))) (.cons .here (.cons .here (.cons .here .nil))) ?_
      rintro zhL z2L z5i z8M ⟨h,zDb⟩
      obtain ⟨zus,rfl⟩:=y6H h
      rw [y24] at h
      refine WC.b (WC.a (WL.pu rfl (WL.nil (WX.a (WC.b ?_)))))
      refine WC.cond rfl (fun zuH=>?_) (fun zuH=>?_)
      ·replace h:=yn h zuH
       refine WC.skip (WX.a (WC.b (WC.block (WC.b ?_))))
       obtain ⟨zkW,h⟩:=yq h
       refine WC.a ?_
       refine WL.know (fun w hw=>Hp.y2H .h1 hw (by intro hz'; have:=zkW; rw [hz'] at this; omega)) ?_
       rintro ⟨zDc,rfl⟩
       refine WL.qA 31 (yY z20 rfl rfl zkW.1 zkW.2 y3z) ?_
       refine WL.qA 32 (yQ (cs:=(yw (nth z2o.1 z2L))) zd rfl rfl (y3d .h1 (y2Q (enc:=yw) (l:=z2o.1) (i:=z2L) (sz:=2) (fun _=>rfl) zkW.1 zkW.2))) ?_
       refine WL.nA 8 (yv (cs:=[(.int .i64 0),(.int .i64 0)]) zP rfl) ?_
       intro zOn _
       refine WL.ym rfl rfl (yl zu rfl rfl rfl .here rfl rfl rfl) ?_
       refine WL.nil (WX.a (WC.b ?_))
       obtain ⟨zD1,zOo,h⟩:=z7 h
       obtain ⟨zut,zOp,h⟩:=z7 h
       obtain ⟨z8H,zOq,h⟩:=z7 h
       obtain ⟨zdc,zDd,h⟩:=z7 h
       refine WC.a (WL.pu rfl ?_)
       refine WL.qA 34 (yg zd rfl (yh .here) rfl) ?_
       refine WL.cA 35 (za (l:=[.tmp 34]) Tryz.call46 (.cons rfl .nil)) .nil (ccz hz .nil .h1 fun w pz ho=>y53 _ _ _ zOo w pz ) ?_
       refine WL.cA 36 (za (l:=[.tmp 35]) Tryz.call145 (.cons rfl .nil)) .nil (ccz hz .nil .h1 fun w pz ho=>y2k _ _ _ zOp w pz ) ?_
       refine WL.yield (dd:=37) (x:=zut) (h:=()) (g:=z8M) (s:=z5i) (b:=z8H.1) (s':=z8H.2) zkU rfl rfl rfl (.cons rfl .nil) ((.cons .h3 .nil) : Sel _ [z2h z8M z5i] _) zOq zDb (fun w hw=>hz.call hw ((.cons .h3 .nil) : Sel _ [z2h z8M z5i] _)) ?_
       intro znN zDe
       refine WL.pu rfl (WL.pu rfl ?_)
       refine WL.y96 (fun (zff : z2g)=>z6B zff zdc.2) (fun (zff : z2g)=>[(0,(.func (.yield z8c) #[] #[])),(1,(.pointer (some zaL))),(16,(.slice zde z2C.length zdf)),(17,(.int .i64 ((z2C.length : Nat) : Int))),(18,(.int .i64 z3S)),(27,(.slice (some ⟨zDc,0,none⟩) z2o.1.length znM)),(28,(.int .i64 ((z2o.1.length : Nat) : Int))),(29,(.int .i64 z2L)),(46,(.bool zdc.1))]) (fun (zff : z2g)=>[z2h zff zdc.2,stb zOn 132 [(.int .i64 ((nth z2o.1 z2L).fN)),(.int .i64 ((nth z2o.1 z2L).fD))],fz (z5G ++ zkV),row (.slice (some ⟨zDc,0,none⟩) z2o.1.length znM) 132 2 (z2o.1.flatMap yw)]) 7 ?_ (fun zff zDf=>?_)
       ·rcases Bool.eq_false_or_eq_true (!z8H.1) with hb' | hb'
        ·have zDg:=hb'; clear hb'
         have zuI:=yn zDd zDg
         replace zuI:=Option.some.inj zuI
         refine WL.pin (i:=39) rfl zDg ?_
         refine WL.e rfl rfl rfl (WL.e rfl rfl rfl (WL.e rfl rfl rfl (WL.e rfl rfl rfl (WL.e rfl rfl rfl (WL.e rfl rfl rfl (WL.pu rfl ?_))))))
         subst zuI
         exact WL.y4d znN zDe (.cons rfl (.cons rfl (.cons rfl (.cons rfl (.cons rfl (.cons rfl (.cons rfl (.cons rfl (.cons rfl .nil))))))))) (.cons .here (.cons .here (.cons .here (.cons .here .nil))))
        ·have zDh:=hb'; clear hb'
         have zaM:=yo zDd zDh
         obtain ⟨zD2,zOr,zaM⟩:=z7 zaM
         obtain ⟨zuu,zOs,zaM⟩:=z7 zaM
         obtain ⟨zkP,zOt,zaM⟩:=z7 zaM
         replace zaM:=Option.some.inj zaM
         refine WL.pin (i:=39) rfl zDh ?_
         refine WL.pu rfl ?_
         refine WL.qA 41 (yg zd rfl (yh .h1) rfl) ?_
         refine WL.cA 42 (za (l:=[.tmp 41]) Tryz.call156 (.cons rfl .nil)) .nil (ccz hz .nil .h2 fun w pz ho=>y8h _ _ _ zOr w pz ) ?_
         refine WL.cA 43 (za (l:=[.tmp 42]) Tryz.call145 (.cons rfl .nil)) .nil (ccz hz .nil .h2 fun w pz ho=>y2k _ _ _ zOs w pz ) ?_
         refine WL.yield (dd:=44) (x:=zuu) (h:=()) (g:=znN) (s:=z8H.2) (b:=zkP.1) (s':=zkP.2) zkU rfl rfl rfl (.cons rfl .nil) ((.cons .here .nil) : Sel _ [z2h znN z8H.2] _) zOt zDe (fun w hw=>hz.call hw ((.cons .here .nil) : Sel _ [z2h znN z8H.2] _)) ?_
         intro zOu zOv
         refine WL.pu rfl (WL.pu rfl ?_)
         subst zaM
         exact WL.y4d zOu zOv (.cons rfl (.cons rfl (.cons rfl (.cons rfl (.cons rfl (.cons rfl (.cons rfl (.cons rfl (.cons rfl .nil))))))))) (.cons .here (.cons .here (.cons .here (.cons .here .nil))))
       ·skip
        refine WL.nil (WX.a ?_)
        refine WC.cond rfl (fun zuJ=>?_) (fun zuJ=>?_)
        ·replace h:=yn h zuJ
         refine WC.ret (WX.ys (WX.yd (WX.yd (WX.ys (WX.yd (WX.ys (WX.yd (WX.yd (WX.ys (WX.yd ?_))))))))))
         obtain rfl:=Option.some.inj h
         refine WX.ye Tryz.results155 .nil (fun w hw=>?_)
         exact ⟨(z5G ++ zkV),zff,y6Q,zDf,hw.sub (.cons .h2 (.cons .here .nil))⟩
        ·replace h:=yo h zuJ
         refine WC.skip (WX.yj (WX.a (WC.a (WL.pu rfl (WL.pu rfl (WL.nil ?_))))))
         exact WX.round (G:=Nat × Int × zq × z2g) ⟨zus,(i64 (z2L + 1)),zdc.2,zff⟩ ⟨h,zDf⟩ (Nat.lt_succ_self _) (.cons rfl (.cons rfl (.cons rfl (.cons rfl (.cons rfl (.cons rfl (.cons rfl (.cons rfl .nil)))))))) (.cons .h2 (.cons .h2 (.cons .here .nil)))
      ·replace h:=yo h zuH
       refine WC.exit (WX.yf (WX.yf (WX.yz ?_)))
       exact WX.mid (G:=zq × z2g) ⟨z5i,z8M⟩ ⟨h,zDb⟩ (.cons rfl (.cons rfl (.cons rfl (.cons rfl (.cons rfl .nil))))) (.cons .here (.cons .h1 .nil))
     ·rintro z8J zhK ⟨h,zOw⟩
      replace h:=(zOm z8J).symm.trans h
      refine WX.yj ?_
      exact WX.mid (G:=zq × Zp × z2g) ⟨z8J,(z5G ++ zkV),zhK⟩ ⟨h,((Zle.left _ _).trans (Zle.yu _ _ _)),zOw⟩ (.cons rfl (.cons rfl (.cons rfl (.cons rfl (.cons rfl .nil))))) (.cons .here (.cons .here .nil))
    ·rintro z8I zhI zhJ ⟨h,zOx,zOy⟩
     replace h:=(zOh z8I).symm.trans h
     refine WC.a (WL.pu rfl (WL.pu rfl (WL.nil ?_)))
     exact WX.round (G:=Nat × Int × zq × Zp × z2g) ⟨zuv,(i64 (z3S + 1)),z8I,zhI,zhJ⟩ ⟨h,(znL.trans zOx),zOy⟩ (Nat.lt_succ_self _) (.cons rfl (.cons rfl (.cons rfl (.cons rfl (.cons rfl .nil))))) (.cons .here (.cons .here .nil))
   ·replace h:=yo h zuG
    refine WC.exit (WX.yf (WX.yf (WX.yz ?_)))
    exact WX.mid (G:=zq × Zp × z2g) ⟨z64,z5G,zdg⟩ ⟨h,znL,zD9⟩ (.cons rfl (.cons rfl .nil)) (.cons .here (.cons .here .nil))
  ·rintro z8L z8d zhG ⟨h,zDi,zOz⟩
   replace h:=(zOg z8L).symm.trans h
   refine WC.b (WC.a ?_)
   refine WL.qA 49 (ya ycF rfl rfl) ?_
   refine WL.qA 50 (yc z7I rfl (y11 (hz.pv2 .here) (zD5.mono ((Zle.left _ _).trans zDi)) rfl)) ?_
   refine WL.qA 51 (yE Tryz.underlying175 rfl) ?_
   refine WL.pu rfl (WL.nil (WX.a ?_))
   obtain ⟨zaI,zOA,h⟩:=yU h
   refine WC.y8l (fun (zaJ : zq) (zhM : z2g)=>(zaI zaJ = some r) ∧ (z6B zhM zaJ)) (fun zaJ zhM=>[]) (fun zaJ zhM=>[fz z8d,z2h zhM zaJ]) ?_ ?_
   ·skip
    refine WC.block ?_
    refine WC.y5t (fun (zhN : Nat) (z3n : Int) (z5j : zq) (z8N : z2g)=>(y26 zq z2M z29 zaI zhN z3n z5j = some r) ∧ (z6B z8N z5j)) (fun zhN z3n z5j z8N=>[(0,(.func (.yield z8c) #[] #[])),(50,(.slice zkS z2M.length zkT)),(51,(.int .i64 ((z2M.length : Nat) : Int))),(52,(.int .i64 z3n))]) (fun zhN z3n z5j z8N=>[fz z8d,z2h z8N z5j]) (fun zhN z3n z5j z8N=>zhN) ⟨yB,0,z8L,zhG⟩ ⟨h,zOz⟩ (.cons rfl (.cons rfl (.cons rfl (.cons rfl .nil)))) (.cons .here (.cons .here .nil)) ?_
    rintro zhN z3n z5j z8N ⟨h,zDj⟩
    obtain ⟨zux,rfl⟩:=y6J h
    rw [y26] at h
    refine WC.b (WC.a (WL.pu rfl (WL.nil (WX.a (WC.b ?_)))))
    refine WC.cond rfl (fun zuK=>?_) (fun zuK=>?_)
    ·replace h:=yn h zuK
     refine WC.skip (WX.a (WC.b (WC.block (WC.b ?_))))
     obtain ⟨zOB,h⟩:=yq h
     refine WC.a ?_
     refine WL.znth (dd:=54) rfl rfl (Z:=(Z ++ z8d)) (Pr:=(fun r x=>r = yw x)) z20 rfl rfl (zOd.mono ((Zle.left _ _).trans zDi)) zOB ?_
     rintro zYI zYJ zOC zYK rfl
     refine WL.qA 55 (yg zd rfl (y1A (hz.pv2 .here) zOC) rfl) ?_
     refine WL.nA 10 (yv (cs:=[(.int .i64 0),(.int .i64 0)]) zP rfl) ?_
     intro zOD _
     refine WL.ym rfl rfl (yl zu rfl rfl rfl .here rfl rfl rfl) ?_
     refine WL.nil (WX.a (WC.b ?_))
     obtain ⟨zD3,zOE,h⟩:=z7 h
     obtain ⟨zuy,zOF,h⟩:=z7 h
     obtain ⟨z8K,zOG,h⟩:=z7 h
     obtain ⟨zdd,zDk,h⟩:=z7 h
     refine WC.a (WL.pu rfl ?_)
     refine WL.qA 57 (yg zd rfl (yh .here) rfl) ?_
     refine WL.cA 58 (za (l:=[.tmp 57]) Tryz.call46 (.cons rfl .nil)) .nil (ccz hz .nil .h1 fun w pz ho=>y53 _ _ _ zOE w pz ) ?_
     refine WL.cA 59 (za (l:=[.tmp 58]) Tryz.call145 (.cons rfl .nil)) .nil (ccz hz .nil .h1 fun w pz ho=>y2k _ _ _ zOF w pz ) ?_
     refine WL.yield (dd:=60) (x:=zuy) (h:=()) (g:=z8N) (s:=z5j) (b:=z8K.1) (s':=z8K.2) zkU rfl rfl rfl (.cons rfl .nil) ((.cons .h2 .nil) : Sel _ [z2h z8N z5j] _) zOG zDj (fun w hw=>hz.call hw ((.cons .h2 .nil) : Sel _ [z2h z8N z5j] _)) ?_
     intro znO zDl
     refine WL.pu rfl (WL.pu rfl ?_)
     refine WL.y96 (fun (zfg : z2g)=>z6B zfg zdd.2) (fun (zfg : z2g)=>[(0,(.func (.yield z8c) #[] #[])),(50,(.slice zkS z2M.length zkT)),(51,(.int .i64 ((z2M.length : Nat) : Int))),(52,(.int .i64 z3n)),(69,(.bool zdd.1))]) (fun (zfg : z2g)=>[z2h zfg zdd.2,stb zOD 132 [(.int .i64 ((nth z2M z3n).fN)),(.int .i64 ((nth z2M z3n).fD))],fz z8d]) 7 ?_ (fun zfg zDm=>?_)
     ·rcases Bool.eq_false_or_eq_true (!z8K.1) with hb' | hb'
      ·have zDn:=hb'; clear hb'
       have zuL:=yn zDk zDn
       replace zuL:=Option.some.inj zuL
       refine WL.pin (i:=62) rfl zDn ?_
       refine WL.e rfl rfl rfl (WL.e rfl rfl rfl (WL.e rfl rfl rfl (WL.e rfl rfl rfl (WL.e rfl rfl rfl (WL.e rfl rfl rfl (WL.pu rfl ?_))))))
       subst zuL
       exact WL.y4d znO zDl (.cons rfl (.cons rfl (.cons rfl (.cons rfl (.cons rfl .nil))))) (.cons .here (.cons .here (.cons .here .nil)))
      ·have zDo:=hb'; clear hb'
       have zaN:=yo zDk zDo
       obtain ⟨zD4,zOH,zaN⟩:=z7 zaN
       obtain ⟨zuz,zOI,zaN⟩:=z7 zaN
       obtain ⟨zkQ,zOJ,zaN⟩:=z7 zaN
       replace zaN:=Option.some.inj zaN
       refine WL.pin (i:=62) rfl zDo ?_
       refine WL.pu rfl ?_
       refine WL.qA 64 (yg zd rfl (yh .h1) rfl) ?_
       refine WL.cA 65 (za (l:=[.tmp 64]) Tryz.call156 (.cons rfl .nil)) .nil (ccz hz .nil .h2 fun w pz ho=>y8h _ _ _ zOH w pz ) ?_
       refine WL.cA 66 (za (l:=[.tmp 65]) Tryz.call145 (.cons rfl .nil)) .nil (ccz hz .nil .h2 fun w pz ho=>y2k _ _ _ zOI w pz ) ?_
       refine WL.yield (dd:=67) (x:=zuz) (h:=()) (g:=znO) (s:=z8K.2) (b:=zkQ.1) (s':=zkQ.2) zkU rfl rfl rfl (.cons rfl .nil) ((.cons .here .nil) : Sel _ [z2h znO z8K.2] _) zOJ zDl (fun w hw=>hz.call hw ((.cons .here .nil) : Sel _ [z2h znO z8K.2] _)) ?_
       intro zOK zOL
       refine WL.pu rfl (WL.pu rfl ?_)
       subst zaN
       exact WL.y4d zOK zOL (.cons rfl (.cons rfl (.cons rfl (.cons rfl (.cons rfl .nil))))) (.cons .here (.cons .here (.cons .here .nil)))
     ·skip
      refine WL.nil (WX.a ?_)
      refine WC.cond rfl (fun zuM=>?_) (fun zuM=>?_)
      ·replace h:=yn h zuM
       refine WC.ret (WX.ys (WX.yd (WX.yd (WX.ys (WX.yd ?_)))))
       obtain rfl:=Option.some.inj h
       refine WX.ye Tryz.results155 .nil (fun w hw=>?_)
       exact ⟨z8d,zfg,y6Q,zDm,hw.sub (.cons .h2 (.cons .here .nil))⟩
      ·replace h:=yo h zuM
       refine WC.skip (WX.yj (WX.a (WC.a (WL.pu rfl (WL.pu rfl (WL.nil ?_))))))
       exact WX.round (G:=Nat × Int × zq × z2g) ⟨zux,(i64 (z3n + 1)),zdd.2,zfg⟩ ⟨h,zDm⟩ (Nat.lt_succ_self _) (.cons rfl (.cons rfl (.cons rfl (.cons rfl .nil)))) (.cons .h2 (.cons .here .nil))
    ·replace h:=yo h zuK
     refine WC.exit (WX.yf (WX.yf (WX.yz ?_)))
     exact WX.mid (G:=zq × z2g) ⟨z5j,z8N⟩ ⟨h,zDj⟩ .nil (.cons .here (.cons .here .nil))
   ·rintro zaJ zhM ⟨h,zOM⟩
    replace h:=(zOA zaJ).symm.trans h
    obtain rfl:=Option.some.inj h
    refine WX.y4c Tryz.results155 .nil (fun w hw=>?_)
    exact ⟨z8d,zhM,y6Q,zOM,hw.sub (.cons .here (.cons .here .nil))⟩
def y6d (zfh : z1v) (z4f : z6) (zfi : z1) : Option (z1 × z1v) :=
 (y3r zfh (fun (y0 : z1) (y1 : z1)=>y5p y0 y1) z4f.fRate zfi).bind fun zuN=>(y3r zuN.2 (fun (y0 : z1) (y1 : z1)=>y28 y0 y1) z4f.fBurst zuN.1).bind fun zuO=>some (zuO.1,zuO.2)
set_option maxRecDepth 20000 in
theorem yaz (Z : Zp) (zhO : Nat) (zfh : z1v) (z4f : z6) (zfi : z1) (r : z1 × z1v)
  (h : y6d zfh z4f zfi = some r) (w₀ : World) (hz : PZ (fps [stb zhO 262 [(.int .i64 zfh.fE)]]) w₀ Z)
  (hown : Hp (fps [stb zhO 262 [(.int .i64 zfh.fE)]]) w₀ w₀ [stb zhO 262 [(.int .i64 zfh.fE)]]) :
  Calls Tryz.prog 148 #[(.pointer (some ⟨zhO,0,none⟩)),(.agg #[(.int .i64 z4f.fBurst.fN),(.int .i64 z4f.fBurst.fD),(.int .i64 z4f.fRate.fN),(.int .i64 z4f.fRate.fD)]),(.agg #[(.int .i64 zfi.fN),(.int .i64 zfi.fD)])] w₀ fun e w'=>e = .returned (.agg #[(.int .i64 r.1.fN),(.int .i64 r.1.fD)]) ∧ Hp (fps [stb zhO 262 [(.int .i64 zfh.fE)]]) w₀ w' [stb zhO 262 [(.int .i64 r.2.fE)]]:=by
 unfold y6d at h
 refine Calls.oh3 Tryz.func148 Tryz.ntmps148 hown ?_
 refine WC.b (WC.a ?_)
 refine WL.nA 4 (yH (cs:=[(.int .i64 z4f.fBurst.fN),(.int .i64 z4f.fBurst.fD),(.int .i64 z4f.fRate.fN),(.int .i64 z4f.fRate.fD)]) rfl rfl) ?_
 intro zON _
 refine WL.nA 5 (yH (cs:=[(.int .i64 zfi.fN),(.int .i64 zfi.fD)]) rfl rfl) ?_
 intro zYL _
 refine WL.nA 6 (yv (cs:=[(.int .i64 0),(.int .i64 0)]) zP rfl) ?_
 intro zYM _
 refine WL.nil (WX.a (WC.b ?_))
 obtain ⟨zuN,zOO,h⟩:=z7 h
 obtain ⟨zuO,zOP,h⟩:=z7 h
 refine WC.yL (fun i=>[7,8,9].contains i) [y6D zON 171 [(0,(.int .i64 z4f.fBurst.fN)),(1,(.int .i64 z4f.fBurst.fD))]] rfl ?_
 refine WD.pA 0 7 rfl (fun _=>q_m rfl) ?_
 refine WD.pA 1 8 rfl (fun _=>ya y3V rfl rfl) ?_
 refine WD.sA 2 9 rfl (Sin.wk (.cons .h2 .nil) (.stb (.cons rfl (.cons rfl .nil)) .nil)) (yQ (cs:=[(.int .i64 z4f.fBurst.fN),(.int .i64 z4f.fBurst.fD)]) zd rfl rfl (y9A .here ((.head _)) ((.tail _ (.head _))))) ?_
 refine WD.pA 3 10 rfl (fun _=>q_m rfl) ?_
 refine WD.pA 4 11 rfl (fun _=>ya y51 rfl rfl) ?_
 refine WD.qA 5 12 rfl (yQ (cs:=[(.int .i64 z4f.fRate.fN),(.int .i64 z4f.fRate.fD)]) zd rfl rfl (y2G (s:=2) .h2 rfl)) ?_
 refine WD.qA 6 13 rfl (yg zd rfl (yh .h1) rfl) ?_
 refine WD.call0 (i:=7) (dd:=14) rfl (by kernel_rfl) rfl rfl rfl (.inl ⟨rfl,(Sin.wk (.cons .h3 .nil) (.stb (.cons rfl (.cons rfl .nil)) .nil))⟩) (za (l:=[.tmp 10,.func 70,.tmp 12,.tmp 13]) Tryz.call167 (.cons rfl (.cons rfl (.cons rfl (.cons rfl .nil))))) (.cons .h3 .nil) (cc hz (.cons .h3 .nil) fun w pz ho=>Calls.mono (y4P _ _ (z8E:=70) (zcW:=[]) _ (zau:=(fun (y0 : z1) (y1 : z1)=>y5p y0 y1)) _ _ _ zOO w pz Tryz.call70 (fun w' hz' y0 y1  r  hr=>yau _ _ _ _ hr w' hz' ) ho) (fun _ _ h'=>⟨h'.1,trivial,h'.2⟩)) ?_
 intro _
 refine WD.call0 (i:=8) (dd:=15) rfl (by kernel_rfl) rfl rfl rfl (.inl ⟨rfl,(Sin.wk (.cons .h3 .nil) (.stb (.cons rfl (.cons rfl .nil)) .nil))⟩) (za (l:=[.tmp 7,.func 69,.tmp 9,.tmp 14]) Tryz.call167 (.cons rfl (.cons rfl (.cons rfl (.cons rfl .nil))))) (.cons .here .nil) (cc hz (.cons .here .nil) fun w pz ho=>Calls.mono (y4P _ _ (z8E:=69) (zcW:=[]) _ (zau:=(fun (y0 : z1) (y1 : z1)=>y28 y0 y1)) _ _ _ zOP w pz Tryz.call69 (fun w' hz' y0 y1  r  hr=>y5q _ _ _ _ hr w' hz' ) ho) (fun _ _ h'=>⟨h'.1,trivial,h'.2⟩)) ?_
 intro _
 refine WD.y2F (i:=9) rfl (by kernel_rfl) rfl rfl rfl (by kernel_rfl) (yl zu rfl rfl rfl .h1 rfl rfl rfl) ?_
 refine WD.done (by kernel_rfl) ?_
 refine WX.a (WC.ret ?_)
 obtain rfl:=Option.some.inj h
 refine WX.ye Tryz.results148 (.agg rfl zd rfl (yh .here) .nil) (fun w hw=>?_)
 exact ⟨yD rfl,hw.sub (.cons .h1 .nil)⟩
def y1t (z1Z : List z1) (z8e : z1 → z1 → Option Int) (zaO : Int → Int → Option z1) : Nat → Int → Int → Int → Option z1
 | 0,_,_,_=>none
 | zuP + 1,z2p,z5H,z5I=>if decide (z2p < ((z1Z.length : Nat) : Int)) then jp2 (fun (zaP : Int) (zaQ : Int)=>y1t z1Z z8e zaO zuP (i64 (z2p + 1)) zaP zaQ) fun znP=>chk ((0 : Int) ≤ z2p ∧ z2p < ((z1Z.length : Nat) : Int)) ((z8e (⟨((nth z1Z z2p).fN),((nth z1Z z2p).fD)⟩ : z1) (⟨z5H,z5I⟩ : z1)).bind fun zuQ=>if decide (zuQ < 0) then chk ((0 : Int) ≤ z2p ∧ z2p < ((z1Z.length : Nat) : Int)) (znP ((nth z1Z z2p).fN) ((nth z1Z z2p).fD)) else znP z5H z5I) else zaO z5H z5I
theorem y5D {n : Nat} {z1Z : List z1} {z8e : z1 → z1 → Option Int} {zaO : Int → Int → Option z1} {z2p : Int} {z5H : Int} {z5I : Int} {r : z1} (h : y1t z1Z z8e zaO n z2p z5H z5I = some r) : ∃ m,n = m + 1:=by
 cases n with
 | zero=>cases h
 | succ m=>exact ⟨m,rfl⟩
def y39 (z1Z : List z1) (z8e : z1 → z1 → Option Int) : Option z1 :=
 if decide (((z1Z.length : Nat) : Int) < 1) then none else chk ((0 : Int) ≤ 0 ∧ 0 < ((z1Z.length : Nat) : Int)) (jp2 (fun (zdh : Int) (zdi : Int)=>some (⟨zdh,zdi⟩ : z1)) fun zaO=>y1t z1Z z8e zaO yB 1 ((nth z1Z 0).fN) ((nth z1Z 0).fD))
set_option maxRecDepth 20000 in
theorem y6W (Z : Zp) (znQ : Option Addr) (znR : Nat) (zdj : FuncId) (zhP : List Value) (z1Z : List z1) (z8e : z1 → z1 → Option Int) (r : z1)
  (h : y39 z1Z z8e = some r) (w₀ : World) (hz : PZ [] w₀ Z)
  (zuR : ZS Z 2 (fun r x=>r = yw x) znQ znR z1Z)
  (zOQ : ∀ args w,(callFunc zdj args).run Tryz.prog w = .ok (.enter zdj args) w)
  (zOR : ∀ w : World,PZ [] w Z → ∀ (x0 : z1) (x1 : z1) (r : Int),z8e x0 x1 = some r → Calls Tryz.prog zdj (([(.agg #[(.int .i64 x0.fN),(.int .i64 x0.fD)]),(.agg #[(.int .i64 x1.fN),(.int .i64 x1.fD)])] : List Value) ++ zhP).toArray w fun e w'=>e = .returned (.int .i64 r) ∧ Hp [] w w' []) :
  Calls Tryz.prog 149 #[(.slice znQ z1Z.length znR),(.func (.func zdj) #[] (zhP).toArray)] w₀ fun e w'=>e = .returned (.agg #[(.int .i64 r.fN),(.int .i64 r.fD)]) ∧ Hp [] w₀ w' []:=by
 unfold y39 at h
 refine Calls.yJ Tryz.func149 Tryz.ntmps149 ?_
 refine WC.b (WC.a ?_)
 refine WL.nA 4 (yv (cs:=[(.int .i64 0),(.int .i64 0)]) zP rfl) ?_
 intro zhQ _
 refine WL.nil (WX.a (WC.b (WC.b (WC.a (WL.pu rfl ?_)))))
 refine WL.qA 8 (yE Tryz.underlying175 rfl) ?_
 refine WL.pu rfl (WL.nil (WX.a ?_))
 refine WC.cond rfl (fun zuS=>?_) (fun zuS=>?_)
 ·replace h:=yn h zuS
  cases h
 ·replace h:=yo h zuS
  refine WC.skip (WX.a (WC.b ?_))
  obtain ⟨zOS,h⟩:=yq h
  refine WC.a (WL.pu rfl ?_)
  refine WL.znth (dd:=12) rfl rfl (Z:=Z) (Pr:=(fun r x=>r = yw x)) z20 rfl rfl zuR zOS ?_
  rintro zYN zYO zOT zYP rfl
  refine WL.qA 13 (yg zd rfl (y1A hz.pv zOT) rfl) ?_
  refine WL.nA 5 (yv (cs:=[(.int .i64 0),(.int .i64 0)]) zP rfl) ?_
  intro zhR _
  refine WL.ym rfl rfl (yl zu rfl rfl rfl .here rfl rfl rfl) ?_
  refine WL.nil (WX.a ?_)
  obtain ⟨zaO,zOU,h⟩:=y3D h
  refine WC.y6i (fun (zdh : Int) (zdi : Int)=>(zaO zdh zdi = some r)) (fun zdh zdi=>[(4,(.pointer (some ⟨zhQ,0,none⟩))),(5,(.pointer (some ⟨zhR,0,none⟩)))]) (fun zdh zdi=>[stb zhQ 132 [(.int .i64 0),(.int .i64 0)],stb zhR 132 [(.int .i64 zdh),(.int .i64 zdi)]]) ?_ ?_
  ·skip
   refine WC.b (WC.a (WL.pu rfl (WL.nil (WX.a (WC.block ?_)))))
   refine WC.y5t (fun (zhS : Nat) (z2p : Int) (z5H : Int) (z5I : Int)=>(y1t z1Z z8e zaO zhS z2p z5H z5I = some r)) (fun zhS z2p z5H z5I=>[(0,(.slice znQ z1Z.length znR)),(1,(.func (.func zdj) #[] (zhP).toArray)),(4,(.pointer (some ⟨zhQ,0,none⟩))),(5,(.pointer (some ⟨zhR,0,none⟩))),(6,(.int .i64 z2p))]) (fun zhS z2p z5H z5I=>[stb zhQ 132 [(.int .i64 0),(.int .i64 0)],stb zhR 132 [(.int .i64 z5H),(.int .i64 z5I)]]) (fun zhS z2p z5H z5I=>zhS) ⟨yB,1,((nth z1Z 0).fN),((nth z1Z 0).fD)⟩ h (.cons rfl (.cons rfl (.cons rfl (.cons rfl (.cons rfl .nil))))) (.cons .h1 (.cons .here .nil)) ?_
   rintro zhS z2p z5H z5I h
   obtain ⟨zuP,rfl⟩:=y5D h
   rw [y1t] at h
   refine WC.b (WC.b (WC.a (WL.pu rfl (WL.pu rfl ?_))))
   refine WL.qA 16 (yE Tryz.underlying175 rfl) ?_
   refine WL.pu rfl (WL.nil (WX.a ?_))
   refine WC.cond rfl (fun zuT=>?_) (fun zuT=>?_)
   ·replace h:=yn h zuT
    refine WC.skip (WX.a ?_)
    obtain ⟨znP,zOV,h⟩:=y3D h
    refine WC.y6i (fun (zaP : Int) (zaQ : Int)=>(znP zaP zaQ = some r)) (fun zaP zaQ=>[(0,(.slice znQ z1Z.length znR)),(1,(.func (.func zdj) #[] (zhP).toArray)),(4,(.pointer (some ⟨zhQ,0,none⟩))),(5,(.pointer (some ⟨zhR,0,none⟩))),(6,(.int .i64 z2p))]) (fun zaP zaQ=>[stb zhQ 132 [(.int .i64 0),(.int .i64 0)],stb zhR 132 [(.int .i64 zaP),(.int .i64 zaQ)]]) ?_ ?_
    ·skip
     refine WC.block (WC.b ?_)
     obtain ⟨zOW,h⟩:=yq h
     obtain ⟨zuQ,zOX,h⟩:=z7 h
     refine WC.yL (fun i=>[].contains i) [] rfl ?_
     refine WD.pA 0 20 rfl (fun _=>q_m rfl) ?_
     refine WD.pA 1 21 rfl (fun _=>q_m rfl) ?_
     refine WD.pA 2 22 rfl (fun _=>q_m rfl) ?_
     refine WD.znth (j:=3) (dd:=23) (by kernel_rfl) rfl z2E z2F rfl rfl (Z:=Z) (Pr:=(fun r x=>r = yw x)) z20 rfl rfl zuR zOW ?_
     rintro zYQ zYR zOY zYS rfl
     refine WD.qA 4 24 rfl (yg zd rfl (y1A hz.pv zOY) rfl) ?_
     refine WD.qA 5 25 rfl (yg zd rfl (yh .h1) rfl) ?_
     refine WD.eA 6 26 rfl (y27 (l:=[.tmp 24,.tmp 25]) (f:=zdj) (caps:=zhP) zOQ rfl (.cons rfl (.cons rfl .nil))) (fun w hw=>zOR w (hz.now hw) (⟨((nth z1Z z2p).fN),((nth z1Z z2p).fD)⟩ : z1) (⟨z5H,z5I⟩ : z1) zuQ  zOX) ?_
     refine WD.pA 7 27 rfl (fun _=>q_lss rfl rfl) ?_
     refine WD.done (by kernel_rfl) ?_
     refine WX.a ?_
     refine WC.cond rfl (fun zuU=>?_) (fun zuU=>?_)
     ·replace h:=yn h zuU
      obtain ⟨zOZ,h⟩:=yq h
      refine WC.a (WL.pu rfl (WL.pu rfl ?_))
      refine WL.znth (dd:=30) rfl rfl (Z:=Z) (Pr:=(fun r x=>r = yw x)) z20 rfl rfl zuR zOZ ?_
      rintro zYT zYU zP0 zYV rfl
      refine WL.qA 31 (yg zd rfl (y1A hz.pv zP0) rfl) ?_
      refine WL.ym rfl rfl (yl zu rfl rfl rfl .h1 rfl rfl rfl) ?_
      refine WL.nil (WX.yj ?_)
      exact WX.mid (G:=Int × Int) ⟨((nth z1Z z2p).fN),((nth z1Z z2p).fD)⟩ h (.cons rfl (.cons rfl (.cons rfl (.cons rfl (.cons rfl .nil))))) (.cons .h1 (.cons .here .nil))
     ·replace h:=yo h zuU
      refine WC.skip (WX.yj ?_)
      exact WX.mid (G:=Int × Int) ⟨z5H,z5I⟩ h (.cons rfl (.cons rfl (.cons rfl (.cons rfl (.cons rfl .nil))))) (.cons .here (.cons .here .nil))
    ·rintro zaP zaQ h
     replace h:=(zOV zaP zaQ).symm.trans h
     refine WC.a (WL.pu rfl (WL.pu rfl (WL.pu rfl (WL.nil ?_))))
     exact WX.round (G:=Nat × Int × Int × Int) ⟨zuP,(i64 (z2p + 1)),zaP,zaQ⟩ h (Nat.lt_succ_self _) (.cons rfl (.cons rfl (.cons rfl (.cons rfl (.cons rfl .nil))))) (.cons .here (.cons .here .nil))
   ·replace h:=yo h zuT
    refine WC.exit (WX.yf (WX.yf (WX.yz ?_)))
    exact WX.mid (G:=Int × Int) ⟨z5H,z5I⟩ h (.cons rfl (.cons rfl .nil)) (.cons .here (.cons .here .nil))
  ·rintro zdh zdi h
   replace h:=(zOU zdh zdi).symm.trans h
   refine WC.b (WC.a ?_)
   refine WL.qA 32 (yg zd rfl (yh .h1) rfl) ?_
   refine WL.ym rfl rfl (yl zu rfl rfl rfl .here rfl rfl rfl) ?_
   refine WL.nil (WX.a (WC.ret ?_))
   obtain rfl:=Option.some.inj h
   refine WX.ye Tryz.results149 (.agg rfl zd rfl (yh .here) .nil) (fun w hw=>?_)
   exact ⟨yD rfl,hw.sub .nil⟩
def y5K (z3T : List z6) (z5k : z1) (zaR : (List z1) → Int → Option (z1 × Int)) : Nat → (List z1) → Int → Int → Option (z1 × Int)
 | 0,_,_,_=>none
 | zuV + 1,z4g,z4h,z7h=>if decide (z4h < ((z3T.length : Nat) : Int)) then chk ((0 : Int) ≤ z4h ∧ z4h < ((z3T.length : Nat) : Int)) ((y6d (⟨z7h⟩ : z1v) (⟨(⟨(((nth z3T z4h).fBurst).fN),(((nth z3T z4h).fBurst).fD)⟩ : z1),(⟨(((nth z3T z4h).fRate).fN),(((nth z3T z4h).fRate).fD)⟩ : z1)⟩ : z6) z5k).bind fun zaS=>chk ((((z4g ++ ([zaS.1] : List z1)).length : Nat) : Int) * 16 ≤ 140737488355328 ∧ (((z4g ++ ([zaS.1] : List z1)).length : Nat) : Int) ≤ 4611686018427387904) (y5K z3T z5k zaR zuV (z4g ++ ([zaS.1] : List z1)) (i64 (z4h + 1)) zaS.2.fE)) else zaR z4g z7h
theorem yaA {n : Nat} {z3T : List z6} {z5k : z1} {zaR : (List z1) → Int → Option (z1 × Int)} {z4g : List z1} {z4h : Int} {z7h : Int} {r : z1 × Int} (h : y5K z3T z5k zaR n z4g z4h z7h = some r) : ∃ m,n = m + 1:=by
 cases n with
 | zero=>cases h
 | succ m=>exact ⟨m,rfl⟩
def y9L (z3T : List z6) (z5k : z1) : Option (z1 × Int) :=
 (y4D z3T).bind fun zDp=>(if !zDp then some true else (y6c z5k).bind fun zDq=>some (!zDq)).bind fun zuW=>if zuW then some ((⟨0,0⟩ : z1),2) else jp2 (fun (z8O : List z1) (z8P : Int)=>if decide (z8P ≠ 0) then some ((⟨0,0⟩ : z1),z8P) else (y39 z8O (fun (y0 : z1) (y1 : z1)=>y2r y0 y1)).bind fun zDr=>some (zDr,0)) fun zaR=>y5K z3T z5k zaR yB ([] : List z1) 0 0
set_option maxRecDepth 20000 in
theorem ydE (Z : Zp) (zuX : Option Addr) (zuY : Nat) (z3T : List z6) (z5k : z1) (r : z1 × Int)
  (h : y9L z3T z5k = some r) (w₀ : World) (hz : PZ [] w₀ Z)
  (zDs : ZS Z 4 (fun r x=>r = y1j x) zuX zuY z3T) :
  Calls Tryz.prog 108 #[(.slice zuX z3T.length zuY),(.agg #[(.int .i64 z5k.fN),(.int .i64 z5k.fD)])] w₀ fun e w'=>e = .returned (.tuple #[(.agg #[(.int .i64 r.1.fN),(.int .i64 r.1.fD)]),(.int .i64 r.2)]) ∧ Hp [] w₀ w' []:=by
 unfold y9L at h
 refine Calls.yJ Tryz.func108 Tryz.ntmps108 ?_
 refine WC.b (WC.a ?_)
 refine WL.nA 3 (yH (cs:=[(.int .i64 z5k.fN),(.int .i64 z5k.fD)]) rfl rfl) ?_
 intro zDt _
 refine WL.nA 4 (yv (cs:=[(.int .i64 0),(.int .i64 0)]) zP rfl) ?_
 intro znS _
 refine WL.pu rfl (WL.nil (WX.a (WC.b (WC.b ?_))))
 obtain ⟨zDp,zP1,h⟩:=z7 h
 obtain ⟨zuW,zDu,h⟩:=z7 h
 refine WC.a (WL.pu rfl ?_)
 refine WL.cA 11 (za (l:=[.tmp 10]) Tryz.call146 (.cons rfl .nil)) .nil (cc hz .nil fun w pz ho=>y6P _ _ _ _ _ zP1 w pz zDs) ?_
 refine WL.pu rfl (WL.pu rfl ?_)
 refine WL.seg false 3 13 (B:=zuW) rfl rfl rfl rfl rfl rfl (fun h=>(Option.some.inj (yn zDu h)).symm) (fun _ zP2=>?_) ?_
 ·skip
  have zkX:=yo zDu zP2
  obtain ⟨zDq,zP3,zkX⟩:=z7 zkX
  replace zkX:=Option.some.inj zkX
  refine WL.qA 14 (yg zd rfl (yh .h1) rfl) ?_
  refine WL.cA 15 (za (l:=[.tmp 14]) Tryz.call147 (.cons rfl .nil)) .nil (cc hz .nil fun w pz ho=>y8z _ _ _ zP3 w pz ) ?_
  refine WL.pu rfl (WL.pu rfl ?_)
  exact WL.yC zkX rfl rfl .all
 refine WL.nil (WX.a ?_)
 refine WC.cond rfl (fun zuZ=>?_) (fun zuZ=>?_)
 ·replace h:=yn h zuZ
  refine WC.b (WC.a ?_)
  refine WL.qA 18 (yI (v:=(.agg #[(.int .i64 0),(.int .i64 0)])) (Eos.parts (l:=[]) .nil []) (fun _=>by kernel_rfl)) ?_
  refine WL.ym rfl rfl (yl zu rfl rfl rfl .here rfl rfl rfl) ?_
  refine WL.pu rfl (WL.nil (WX.a (WC.ret (WX.yd ?_))))
  obtain rfl:=Option.some.inj h
  refine WX.ye Tryz.results108 (.agg rfl zd rfl (yh .here) (.tmp rfl .nil)) (fun w hw=>?_)
  exact ⟨y1z rfl rfl,hw.sub .nil⟩
 ·replace h:=yo h zuZ
  refine WC.skip (WX.a (WC.b (WC.a ?_)))
  refine WL.nA 6 (yv (cs:=[(.int .i64 0)]) zy7 rfl) ?_
  intro zkY _
  refine WL.nil (WX.a (WC.b (WC.a (WL.pu rfl (WL.nil (WX.a ?_))))))
  obtain ⟨zaR,zP4,h⟩:=y3D h
  refine WC.y5s (fun (z8O : List z1) (z8P : Int) (zkZ : Option Addr) (zl0 : Nat)=>(zaR z8O z8P = some r)) (fun z8O z8P zkZ zl0=>[(4,(.pointer (some ⟨znS,0,none⟩))),(6,(.pointer (some ⟨zkY,0,none⟩))),(7,(.slice zkZ z8O.length zl0))]) (fun z8O z8P zkZ zl0=>[row (.slice zkZ z8O.length zl0) 132 2 (z8O.flatMap yw),stb znS 132 [(.int .i64 0),(.int .i64 0)],stb zkY 262 [(.int .i64 z8P)]]) ?_ ?_
  ·skip
   refine WC.b (WC.a (WL.pu rfl ?_))
   refine WL.qA 20 (yE Tryz.underlying173 rfl) ?_
   refine WL.pu rfl (WL.nil (WX.a (WC.block ?_)))
   refine WC.nilRow 132 2 ?_
   refine WC.y8t (fun (zhT : Nat) (z4g : List z1) (z4h : Int) (z7h : Int) (zfj : Option Addr) (zfk : Nat)=>(y5K z3T z5k zaR zhT z4g z4h z7h = some r)) (fun zhT z4g z4h z7h zfj zfk=>[(3,(.pointer (some ⟨zDt,0,none⟩))),(4,(.pointer (some ⟨znS,0,none⟩))),(6,(.pointer (some ⟨zkY,0,none⟩))),(7,(.slice zfj z4g.length zfk)),(19,(.slice zuX z3T.length zuY)),(20,(.int .i64 ((z3T.length : Nat) : Int))),(21,(.int .i64 z4h))]) (fun zhT z4g z4h z7h zfj zfk=>[row (.slice zfj z4g.length zfk) 132 2 (z4g.flatMap yw),stb zDt 132 [(.int .i64 z5k.fN),(.int .i64 z5k.fD)],stb znS 132 [(.int .i64 0),(.int .i64 0)],stb zkY 262 [(.int .i64 z7h)]]) (fun zhT z4g z4h z7h zfj zfk=>zhT) ⟨yB,([] : List z1),0,0,none,0⟩ h (.cons rfl (.cons rfl (.cons rfl (.cons rfl (.cons rfl (.cons rfl (.cons rfl .nil))))))) (.cons .here (.cons .h2 (.cons .h1 (.cons .here .nil)))) ?_
   rintro zhT z4g z4h z7h zfj zfk h
   obtain ⟨zuV,rfl⟩:=yaA h
   rw [y5K] at h
   refine WC.b (WC.a (WL.pu rfl (WL.nil (WX.a (WC.b ?_)))))
   refine WC.cond rfl (fun zv0=>?_) (fun zv0=>?_)
   ·replace h:=yn h zv0
    refine WC.skip (WX.a (WC.b (WC.block (WC.b ?_))))
    obtain ⟨zP5,h⟩:=yq h
    refine WC.a ?_
    refine WL.znth (dd:=23) rfl rfl (Z:=Z) (Pr:=(fun r x=>r = y1j x)) z6l rfl rfl zDs zP5 ?_
    rintro zYW zYX zP6 zYY rfl
    refine WL.qA 24 (yg z2u rfl (y1A hz.pv zP6) rfl) ?_
    refine WL.nA 9 (yv (cs:=[(.int .i64 0),(.int .i64 0),(.int .i64 0),(.int .i64 0)]) z9w rfl) ?_
    intro zYZ _
    refine WL.ym rfl rfl (yl z8m rfl rfl rfl .here rfl rfl rfl) ?_
    refine WL.nil (WX.a ?_)
    obtain ⟨zaS,zP7,h⟩:=z7 h
    obtain ⟨zP8,h⟩:=yq h
    refine WC.a (WL.pu rfl ?_)
    refine WL.qA 26 (yg z2u rfl (yh .here) rfl) ?_
    refine WL.qA 27 (yg zd rfl (yh .h2) rfl) ?_
    refine WL.cA 28 (za (l:=[.tmp 6,.tmp 26,.tmp 27]) Tryz.call148 (.cons rfl (.cons rfl (.cons rfl .nil)))) (.cons .h4 .nil) (cc hz (.cons .h4 .nil) fun w pz ho=>yaz _ _ _ _ _ _ zP7 w pz  ho) ?_
    refine WL.nA 29 (yS (cs:=([zaS.1] : List z1).flatMap yw) z20 (Eos.parts (l:=[.tmp 28]) (.cons rfl .nil) [0]) (fun _=>by kernel_rfl) rfl (by unfold maxLen; omega)) ?_
    intro zZ0 _
    refine WL.fA 30 (y4f (enc:=yw) (l1:=z4g) (l2:=([zaS.1] : List z1)) z20 rfl rfl .h3 (fun _=>rfl) rfl rfl (y3C .here) (y4C yaK _) zP8) ?_
    rintro ⟨zP9,zPa⟩ _
    refine WL.pu rfl (WL.nil (WX.yj (WX.a (WC.a (WL.pu rfl (WL.pu rfl (WL.nil ?_)))))))
    exact WX.round (G:=Nat × List z1 × Int × Int × Option Addr × Nat) ⟨zuV,(z4g ++ ([zaS.1] : List z1)),(i64 (z4h + 1)),zaS.2.fE,zP9,zPa⟩ h (Nat.lt_succ_self _) (.cons rfl (.cons rfl (.cons rfl (.cons rfl (.cons rfl (.cons rfl (.cons rfl .nil))))))) (.cons .here (.cons .h3 (.cons .h3 (.cons .h1 .nil))))
   ·replace h:=yo h zv0
    refine WC.exit (WX.yf (WX.yf (WX.yz ?_)))
    exact WX.mid (G:=List z1 × Int × Option Addr × Nat) ⟨z4g,z7h,zfj,zfk⟩ h (.cons rfl (.cons rfl (.cons rfl .nil))) (.cons .here (.cons .h1 (.cons .h1 .nil)))
  ·rintro z8O z8P zkZ zl0 h
   replace h:=(zP4 z8O z8P).symm.trans h
   refine WC.b (WC.b (WC.a ?_))
   refine WL.qA 32 (ya y7K rfl rfl) ?_
   refine WL.qA 33 (yc y2E rfl (yk .h2 rfl)) ?_
   refine WL.pu rfl (WL.nil (WX.a ?_))
   refine WC.cond rfl (fun zv1=>?_) (fun zv1=>?_)
   ·replace h:=yn h zv1
    refine WC.b ?_
    refine WC.yL (fun i=>[3].contains i) [y6D zkY 262 [(0,(.int .i64 z8P))]] rfl ?_
    refine WD.pA 0 35 rfl (fun _=>yI (v:=(.agg #[(.int .i64 0),(.int .i64 0)])) (Eos.parts (l:=[]) .nil []) (fun _=>by kernel_rfl)) ?_
    refine WD.pA 1 36 rfl (fun _=>ya y7K rfl rfl) ?_
    refine WD.sA 2 37 rfl (Sin.wk (.cons .h2 .nil) (.stb (.cons rfl .nil) .nil)) (yc y2E rfl (y4g .here (.head _))) ?_
    refine WD.forced0 (i:=3) rfl (by kernel_rfl) rfl rfl rfl (Sin.wk (.cons .h2 .nil) (.stb (.cons rfl .nil) .nil)) (yl zu rfl rfl rfl .h1 rfl rfl rfl) ?_
    refine WD.pA 4 5 rfl (fun _=>q_z rfl) ?_
    refine WD.done (by kernel_rfl) ?_
    refine WX.a (WC.ret (WX.yd ?_))
    obtain rfl:=Option.some.inj h
    refine WX.ye Tryz.results108 (.agg rfl zd rfl (yh .here) (.tmp rfl .nil)) (fun w hw=>?_)
    exact ⟨y1z rfl rfl,hw.sub .nil⟩
   ·replace h:=yo h zv1
    refine WC.skip (WX.a (WC.b ?_))
    obtain ⟨zDr,zPb,h⟩:=z7 h
    refine WC.a (WL.pu rfl ?_)
    refine WL.cA 39 (za (l:=[.tmp 38,.func 79]) Tryz.call149 (.cons rfl (.cons rfl .nil))) .nil (ccl hz .nil (.cons .here .nil) fun w pz ho la=>y6W _ _ _ (zdj:=79) (zhP:=[]) _ (z8e:=(fun (y0 : z1) (y1 : z1)=>y2r y0 y1)) _ zPb w pz (ZA.row (la _ (.head _) _) (RR.flat (enc:=yw) (fun _=>rfl) _) ⟨w,pz.1⟩) Tryz.call79 (fun w' hz' y0 y1  r  hr=>y3w _ _ _ _ hr w' hz' )) ?_
    refine WL.ym rfl rfl (yl zu rfl rfl rfl .h1 rfl rfl rfl) ?_
    refine WL.pu rfl (WL.nil (WX.a (WC.ret ?_)))
    obtain rfl:=Option.some.inj h
    refine WX.ye Tryz.results108 (.agg rfl zd rfl (yh .here) (.tmp rfl .nil)) (fun w hw=>?_)
    exact ⟨y1z rfl rfl,hw.sub .nil⟩
def y2O (z4Q : List (List z6)) (z4R : z1) (zaT : Int → Int → Int → Option (z1 × z1v)) : Nat → Int → Int → Int → Int → Option (z1 × z1v)
 | 0,_,_,_,_=>none
 | zv2 + 1,z5l,z65,z6C,z6D=>if decide (z5l < ((z4Q.length : Nat) : Int)) then chk ((0 : Int) ≤ z5l ∧ z5l < ((z4Q.length : Nat) : Int)) ((y9L (nth z4Q z5l) z4R).bind fun zhU=>jp1 (fun (zdk : Int)=>(y1o (⟨zdk⟩ : z1v) (fun (y0 : z1) (y1 : z1)=>y28 y0 y1) (⟨z6C,z6D⟩ : z1) zhU.1).bind fun zfl=>y2O z4Q z4R zaT zv2 (i64 (z5l + 1)) zfl.2.fE zfl.1.fN zfl.1.fD) fun znT=>if decide (z65 = 0) then znT zhU.2 else znT z65) else zaT z6C z6D z65
theorem y7x {n : Nat} {z4Q : List (List z6)} {z4R : z1} {zaT : Int → Int → Int → Option (z1 × z1v)} {z5l : Int} {z65 : Int} {z6C : Int} {z6D : Int} {r : z1 × z1v} (h : y2O z4Q z4R zaT n z5l z65 z6C z6D = some r) : ∃ m,n = m + 1:=by
 cases n with
 | zero=>cases h
 | succ m=>exact ⟨m,rfl⟩
def y3U (zdl : z1v) (z4Q : List (List z6)) (z4R : z1) : Option (z1 × z1v) :=
 (y2v).bind fun zl1=>jp3 (fun (zdm : Int) (zdn : Int) (zdo : Int)=>some ((⟨zdm,zdn⟩ : z1),(⟨zdo⟩ : z1v))) fun zaT=>y2O z4Q z4R zaT yB 0 zdl.fE zl1.fN zl1.fD
set_option maxRecDepth 20000 in
theorem y79 (Z : Zp) (z8f : Nat) (znU : Option Addr) (znV : Nat) (zdl : z1v) (z4Q : List (List z6)) (z4R : z1) (r : z1 × z1v)
  (h : y3U zdl z4Q z4R = some r) (w₀ : World) (hz : PZ (fps [stb z8f 225 [(.int .i64 zdl.fE)]]) w₀ Z)
  (zPc : ZS Z 1 (y1v Z) znU znV z4Q)
  (hown : Hp (fps [stb z8f 225 [(.int .i64 zdl.fE)]]) w₀ w₀ [stb z8f 225 [(.int .i64 zdl.fE)]]) :
  Calls Tryz.prog 76 #[(.pointer (some ⟨z8f,0,none⟩)),(.slice znU z4Q.length znV),(.agg #[(.int .i64 z4R.fN),(.int .i64 z4R.fD)])] w₀ fun e w'=>e = .returned (.agg #[(.int .i64 r.1.fN),(.int .i64 r.1.fD)]) ∧ Hp (fps [stb z8f 225 [(.int .i64 zdl.fE)]]) w₀ w' [stb z8f 225 [(.int .i64 r.2.fE)]]:=by
 unfold y3U at h
 refine Calls.oh3 Tryz.func76 Tryz.ntmps76 hown ?_
 refine WC.b (WC.a ?_)
 refine WL.nA 5 (yH (cs:=[(.int .i64 z4R.fN),(.int .i64 z4R.fD)]) rfl rfl) ?_
 intro znW _
 refine WL.nA 6 (yv (cs:=[(.int .i64 0),(.int .i64 0)]) zP rfl) ?_
 intro zhV _
 refine WL.nil (WX.a (WC.b ?_))
 obtain ⟨zl1,zPd,h⟩:=z7 h
 refine WC.a ?_
 refine WL.cA 12 (za (l:=[]) Tryz.call107 .nil) .nil (cc hz .nil fun w pz ho=>y3q _ _ zPd w pz ) ?_
 refine WL.nA 7 (yv (cs:=[(.int .i64 0),(.int .i64 0)]) zP rfl) ?_
 intro zhW _
 refine WL.ym rfl rfl (yl zu rfl rfl rfl .here rfl rfl rfl) ?_
 refine WL.nil (WX.a ?_)
 obtain ⟨zaT,zPe,h⟩:=y4l h
 refine WC.y1x (fun (zdm : Int) (zdn : Int) (zdo : Int)=>(zaT zdm zdn zdo = some r)) (fun zdm zdn zdo=>[(6,(.pointer (some ⟨zhV,0,none⟩))),(7,(.pointer (some ⟨zhW,0,none⟩)))]) (fun zdm zdn zdo=>[stb zhV 132 [(.int .i64 0),(.int .i64 0)],stb zhW 132 [(.int .i64 zdm),(.int .i64 zdn)],stb z8f 225 [(.int .i64 zdo)]]) ?_ ?_
 ·skip
  refine WC.b (WC.a (WL.pu rfl ?_))
  refine WL.qA 14 (yE Tryz.underlying128 rfl) ?_
  refine WL.pu rfl (WL.nil (WX.a (WC.block ?_)))
  refine WC.y4k (fun (zhX : Nat) (z5l : Int) (z65 : Int) (z6C : Int) (z6D : Int)=>(y2O z4Q z4R zaT zhX z5l z65 z6C z6D = some r)) (fun zhX z5l z65 z6C z6D=>[(0,(.pointer (some ⟨z8f,0,none⟩))),(5,(.pointer (some ⟨znW,0,none⟩))),(6,(.pointer (some ⟨zhV,0,none⟩))),(7,(.pointer (some ⟨zhW,0,none⟩))),(13,(.slice znU z4Q.length znV)),(14,(.int .i64 ((z4Q.length : Nat) : Int))),(15,(.int .i64 z5l))]) (fun zhX z5l z65 z6C z6D=>[stb z8f 225 [(.int .i64 z65)],stb znW 132 [(.int .i64 z4R.fN),(.int .i64 z4R.fD)],stb zhV 132 [(.int .i64 0),(.int .i64 0)],stb zhW 132 [(.int .i64 z6C),(.int .i64 z6D)]]) (fun zhX z5l z65 z6C z6D=>zhX) ⟨yB,0,zdl.fE,zl1.fN,zl1.fD⟩ h (.cons rfl (.cons rfl (.cons rfl (.cons rfl (.cons rfl (.cons rfl (.cons rfl .nil))))))) (.cons .h3 (.cons .h2 (.cons .h1 (.cons .here .nil)))) ?_
  rintro zhX z5l z65 z6C z6D h
  obtain ⟨zv2,rfl⟩:=y7x h
  rw [y2O] at h
  refine WC.b (WC.a (WL.pu rfl (WL.nil (WX.a (WC.b ?_)))))
  refine WC.cond rfl (fun zv3=>?_) (fun zv3=>?_)
  ·replace h:=yn h zv3
   refine WC.skip (WX.a (WC.b (WC.block (WC.b ?_))))
   obtain ⟨zPf,h⟩:=yq h
   refine WC.a ?_
   refine WL.znth (dd:=17) rfl rfl (Z:=Z) (Pr:=(y1v Z)) z7H rfl rfl zPc zPf ?_
   rintro zZ1 zZ2 zPg zZ3 ⟨zZ4,zZ5,rfl,zPh⟩
   refine WL.qA 18 (yc zbV rfl (y48 hz.pv zPg rfl)) ?_
   refine WL.pu rfl (WL.nil (WX.a (WC.b ?_)))
   obtain ⟨zhU,zPi,h⟩:=z7 h
   refine WC.a (WL.pu rfl ?_)
   refine WL.qA 21 (yg zd rfl (yh .h1) rfl) ?_
   refine WL.cA 22 (za (l:=[.tmp 20,.tmp 21]) Tryz.call108 (.cons rfl (.cons rfl .nil))) .nil (cc hz .nil fun w pz ho=>ydE _ _ _ _ _ _ zPi w pz zPh) ?_
   refine WL.pu rfl (WL.pu rfl (WL.pu rfl ?_))
   refine WL.nA 10 (yv (cs:=[(.int .i64 0),(.int .i64 0)]) zP rfl) ?_
   intro zDv _
   refine WL.ym rfl rfl (yl zu rfl rfl rfl .here rfl rfl rfl) ?_
   refine WL.pu rfl (WL.nil (WX.a ?_))
   obtain ⟨znT,zPj,h⟩:=yU h
   refine WC.y2P (fun (zdk : Int)=>(znT zdk = some r)) (fun zdk=>[(0,(.pointer (some ⟨z8f,0,none⟩))),(5,(.pointer (some ⟨znW,0,none⟩))),(6,(.pointer (some ⟨zhV,0,none⟩))),(7,(.pointer (some ⟨zhW,0,none⟩))),(10,(.pointer (some ⟨zDv,0,none⟩))),(13,(.slice znU z4Q.length znV)),(14,(.int .i64 ((z4Q.length : Nat) : Int))),(15,(.int .i64 z5l))]) (fun zdk=>[stb z8f 225 [(.int .i64 zdk)],stb znW 132 [(.int .i64 z4R.fN),(.int .i64 z4R.fD)],stb zhV 132 [(.int .i64 0),(.int .i64 0)],stb zhW 132 [(.int .i64 z6C),(.int .i64 z6D)],stb zDv 132 [(.int .i64 zhU.1.fN),(.int .i64 zhU.1.fD)]]) ?_ ?_
   ·skip
    refine WC.b (WC.a (WL.pu rfl ?_))
    refine WL.qA 26 (yV rfl) ?_
    refine WL.qA 27 (ya y3W rfl rfl) ?_
    refine WL.qA 28 (yc y2E rfl (yk .h1 rfl)) ?_
    refine WL.pu rfl (WL.nil (WX.a ?_))
    refine WC.cond rfl (fun zv4=>?_) (fun zv4=>?_)
    ·replace h:=yn h zv4
     refine WC.a (WL.pu rfl (WL.pu rfl ?_))
     refine WL.qA 32 (yV rfl) ?_
     refine WL.qA 33 (ya y3W rfl rfl) ?_
     refine WL.ym rfl rfl (yl y9g rfl rfl rfl .h1 rfl rfl rfl) ?_
     refine WL.nil ?_
     exact WX.mid (G:=Int) zhU.2 h (.cons rfl (.cons rfl (.cons rfl (.cons rfl (.cons rfl (.cons rfl (.cons rfl (.cons rfl .nil)))))))) (.cons .here (.cons .h1 (.cons .h1 (.cons .h1 (.cons .here .nil)))))
    ·replace h:=yo h zv4
     refine WC.skip ?_
     exact WX.mid (G:=Int) z65 h (.cons rfl (.cons rfl (.cons rfl (.cons rfl (.cons rfl (.cons rfl (.cons rfl (.cons rfl .nil)))))))) (.cons .h1 (.cons .h1 (.cons .h1 (.cons .h1 (.cons .here .nil)))))
   ·rintro zdk h
    replace h:=(zPj zdk).symm.trans h
    obtain ⟨zfl,zPk,h⟩:=z7 h
    refine WC.a (WL.pu rfl ?_)
    refine WL.qA 35 (yg zd rfl (yh .h3) rfl) ?_
    refine WL.qA 36 (yg zd rfl (yh .h4) rfl) ?_
    refine WL.cA 37 (za (l:=[.tmp 34,.func 69,.tmp 35,.tmp 36]) Tryz.call73 (.cons rfl (.cons rfl (.cons rfl (.cons rfl .nil))))) (.cons .here .nil) (cc hz (.cons .here .nil) fun w pz ho=>y1N _ _ (z62:=69) (z7d:=[]) _ (z6A:=(fun (y0 : z1) (y1 : z1)=>y28 y0 y1)) _ _ _ zPk w pz Tryz.call69 (fun w' hz' y0 y1  r  hr=>y5q _ _ _ _ hr w' hz' ) ho) ?_
    refine WL.ym rfl rfl (yl zu rfl rfl rfl .h3 rfl rfl rfl) ?_
    refine WL.nil (WX.yj (WX.a (WC.a (WL.pu rfl (WL.pu rfl (WL.nil ?_))))))
    exact WX.round (G:=Nat × Int × Int × Int × Int) ⟨zv2,(i64 (z5l + 1)),zfl.2.fE,zfl.1.fN,zfl.1.fD⟩ h (Nat.lt_succ_self _) (.cons rfl (.cons rfl (.cons rfl (.cons rfl (.cons rfl (.cons rfl (.cons rfl .nil))))))) (.cons .h1 (.cons .h1 (.cons .h1 (.cons .here .nil))))
  ·replace h:=yo h zv3
   refine WC.exit (WX.yf (WX.yf (WX.yz ?_)))
   exact WX.mid (G:=Int × Int × Int) ⟨z6C,z6D,z65⟩ h (.cons rfl (.cons rfl .nil)) (.cons .h2 (.cons .h2 (.cons .here .nil)))
 ·rintro zdm zdn zdo h
  replace h:=(zPe zdm zdn zdo).symm.trans h
  refine WC.b (WC.a ?_)
  refine WL.qA 39 (yg zd rfl (yh .h1) rfl) ?_
  refine WL.ym rfl rfl (yl zu rfl rfl rfl .here rfl rfl rfl) ?_
  refine WL.nil (WX.a (WC.ret ?_))
  obtain rfl:=Option.some.inj h
  refine WX.ye Tryz.results76 (.agg rfl zd rfl (yh .here) .nil) (fun w hw=>?_)
  exact ⟨yD rfl,hw.sub (.cons .h2 .nil)⟩
def y6e (zfm : z1v) (z8Q : z1) (zl2 : List (List z6)) (z7i : zSv) : Option (z1 × z1v) :=
 (y3U zfm zl2 z8Q).bind fun zv5=>(y1o zv5.2 (fun (y0 : z1) (y1 : z1)=>y78 y0 y1) zv5.1 z7i.fRate).bind fun zv6=>(y1o zv6.2 (fun (y0 : z1) (y1 : z1)=>y3x y0 y1) zv6.1 z8Q).bind fun zv7=>(y1o zv7.2 (fun (y0 : z1) (y1 : z1)=>y28 y0 y1) zv7.1 z7i.fL).bind fun zv8=>some (zv8.1,zv8.2)
set_option maxRecDepth 20000 in
theorem yaB (Z : Zp) (zhY : Nat) (zDw : Addr) (zDx : Option Addr) (zDy : Nat) (zDz : Addr) (zfm : z1v) (z8Q : z1) (zl2 : List (List z6)) (z7i : zSv) (r : z1 × z1v)
  (h : y6e zfm z8Q zl2 z7i = some r) (w₀ : World) (hz : PZ (fps [stb zhY 225 [(.int .i64 zfm.fE)]]) w₀ Z)
  (zPl : ZS Z 1 (y1v Z) zDx zDy zl2)
  (zPm : ZC Z zDw [(.slice zDx zl2.length zDy)])
  (zDA : ZC Z zDz [(.int .i64 z7i.fRate.fN),(.int .i64 z7i.fRate.fD),(.int .i64 z7i.fL.fN),(.int .i64 z7i.fL.fD)])
  (hown : Hp (fps [stb zhY 225 [(.int .i64 zfm.fE)]]) w₀ w₀ [stb zhY 225 [(.int .i64 zfm.fE)]]) :
  Calls Tryz.prog 72 #[(.pointer (some ⟨zhY,0,none⟩)),(.agg #[(.int .i64 z8Q.fN),(.int .i64 z8Q.fD)]),(.pointer (some zDw)),(.pointer (some zDz))] w₀ fun e w'=>e = .returned (.agg #[(.int .i64 r.1.fN),(.int .i64 r.1.fD)]) ∧ Hp (fps [stb zhY 225 [(.int .i64 zfm.fE)]]) w₀ w' [stb zhY 225 [(.int .i64 r.2.fE)]]:=by
 unfold y6e at h
 refine Calls.oh4 Tryz.func72 Tryz.ntmps72 hown ?_
 refine WC.b (WC.a ?_)
 refine WL.nA 5 (yH (cs:=[(.int .i64 z8Q.fN),(.int .i64 z8Q.fD)]) rfl rfl) ?_
 intro zPn _
 refine WL.nA 6 (yv (cs:=[(.int .i64 0),(.int .i64 0)]) zP rfl) ?_
 intro zZ6 _
 refine WL.nil (WX.a (WC.b ?_))
 obtain ⟨zv5,zPo,h⟩:=z7 h
 obtain ⟨zv6,zPp,h⟩:=z7 h
 obtain ⟨zv7,zPq,h⟩:=z7 h
 obtain ⟨zv8,zPr,h⟩:=z7 h
 refine WC.yL (fun i=>[6,9,11,14,15].contains i) [stb zPn 132 [(.int .i64 z8Q.fN),(.int .i64 z8Q.fD)]] rfl ?_
 refine WD.pA 0 7 rfl (fun _=>q_m rfl) ?_
 refine WD.pA 1 8 rfl (fun _=>q_m rfl) ?_
 refine WD.pA 2 9 rfl (fun _=>q_m rfl) ?_
 refine WD.pA 3 10 rfl (fun _=>q_m rfl) ?_
 refine WD.qA 4 11 rfl (yc z6V rfl (y48 hz.pv zPm rfl)) ?_
 refine WD.qA 5 12 rfl (yg zd rfl (yh .h1) rfl) ?_
 refine WD.pA 7 14 rfl (fun _=>ya y7I rfl rfl) ?_
 refine WD.sA 8 15 rfl (Sin.of (.cons .h1 .nil)) (yQ (cs:=[(.int .i64 z7i.fRate.fN),(.int .i64 z7i.fRate.fD)]) zd rfl rfl (y98 (off:=0) (s:=2) hz.pv zDA rfl)) ?_
 refine WD.sA 10 17 rfl (Sin.of (.cons .h1 .nil)) (yg zd rfl (yh .here) rfl) ?_
 refine WD.pA 12 19 rfl (fun _=>ya y7J rfl rfl) ?_
 refine WD.sA 13 20 rfl (Sin.of (.cons .h1 .nil)) (yQ (cs:=[(.int .i64 z7i.fL.fN),(.int .i64 z7i.fL.fD)]) zd rfl rfl (y98 (off:=2) (s:=2) hz.pv zDA rfl)) ?_
 refine WD.call0 (i:=6) (dd:=13) rfl (by kernel_rfl) rfl rfl rfl (.inl ⟨rfl,(Sin.of (.cons .h2 .nil))⟩) (za (l:=[.tmp 10,.tmp 11,.tmp 12]) Tryz.call76 (.cons rfl (.cons rfl (.cons rfl .nil)))) (.cons .h2 .nil) (cc hz (.cons .h2 .nil) fun w pz ho=>Calls.mono (y79 _ _ _ _ _ _ _ _ zPo w pz zPl ho) (fun _ _ h'=>⟨h'.1,trivial,h'.2⟩)) ?_
 intro _
 refine WD.call0 (i:=9) (dd:=16) rfl (by kernel_rfl) rfl rfl rfl (.inl ⟨rfl,(Sin.of (.cons .h2 .nil))⟩) (za (l:=[.tmp 9,.func 75,.tmp 13,.tmp 15]) Tryz.call73 (.cons rfl (.cons rfl (.cons rfl (.cons rfl .nil))))) (.cons .here .nil) (cc hz (.cons .here .nil) fun w pz ho=>Calls.mono (y1N _ _ (z62:=75) (z7d:=[]) _ (z6A:=(fun (y0 : z1) (y1 : z1)=>y78 y0 y1)) _ _ _ zPp w pz Tryz.call75 (fun w' hz' y0 y1  r  hr=>ycc _ _ _ _ hr w' hz' ) ho) (fun _ _ h'=>⟨h'.1,trivial,h'.2⟩)) ?_
 intro _
 refine WD.call0 (i:=11) (dd:=18) rfl (by kernel_rfl) rfl rfl rfl (.inl ⟨rfl,(Sin.of (.cons .h2 .nil))⟩) (za (l:=[.tmp 8,.func 74,.tmp 16,.tmp 17]) Tryz.call73 (.cons rfl (.cons rfl (.cons rfl (.cons rfl .nil))))) (.cons .here .nil) (cc hz (.cons .here .nil) fun w pz ho=>Calls.mono (y1N _ _ (z62:=74) (z7d:=[]) _ (z6A:=(fun (y0 : z1) (y1 : z1)=>y3x y0 y1)) _ _ _ zPq w pz Tryz.call74 (fun w' hz' y0 y1  r  hr=>y7V _ _ _ _ hr w' hz' ) ho) (fun _ _ h'=>⟨h'.1,trivial,h'.2⟩)) ?_
 intro _
 refine WD.call0 (i:=14) (dd:=21) rfl (by kernel_rfl) rfl rfl rfl (.inl ⟨rfl,(Sin.of (.cons .h2 .nil))⟩) (za (l:=[.tmp 7,.func 69,.tmp 18,.tmp 20]) Tryz.call73 (.cons rfl (.cons rfl (.cons rfl (.cons rfl .nil))))) (.cons .here .nil) (cc hz (.cons .here .nil) fun w pz ho=>Calls.mono (y1N _ _ (z62:=69) (z7d:=[]) _ (z6A:=(fun (y0 : z1) (y1 : z1)=>y28 y0 y1)) _ _ _ zPr w pz Tryz.call69 (fun w' hz' y0 y1  r  hr=>y5q _ _ _ _ hr w' hz' ) ho) (fun _ _ h'=>⟨h'.1,trivial,h'.2⟩)) ?_
 intro _
 refine WD.y2F (i:=15) rfl (by kernel_rfl) rfl rfl rfl (by kernel_rfl) (yl zu rfl rfl rfl .h1 rfl rfl rfl) ?_
 refine WD.done (by kernel_rfl) ?_
 refine WX.a (WC.ret ?_)
 obtain rfl:=Option.some.inj h
 refine WX.ye Tryz.results72 (.agg rfl zd rfl (yh .here) .nil) (fun w hw=>?_)
 exact ⟨yD rfl,hw.sub (.cons .h1 .nil)⟩
end Go.Proofs.YtcahmabkeaijdaaGreat
