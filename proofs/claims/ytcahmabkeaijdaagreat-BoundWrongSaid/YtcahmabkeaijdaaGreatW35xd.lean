/- A part of this claim's proof: models of functions, walks, plain laws. No conditions. -/
import Derived.Test.YtcahmabkeaijdaaGreatW35xc
set_option linter.all false
namespace Go.Proofs.YtcahmabkeaijdaaGreat
open Go Go.RowKit Sep
set_option maxRecDepth 30000
set_option maxHeartbeats 4000000
def y1R (zc9 : z18) (zab : z1 → z1 → Option (z1 × Int)) (zca : z1) (zcb : z1) : Option (z1 × z18) :=
 if decide (zc9.fE ≠ 0) then some ((⟨0,0⟩ : z1),zc9) else (zab zca zcb).bind fun zmK=>some (zmK.1,(⟨zmK.2⟩ : z18))
theorem y5q (Z : Zp) (zgK : Nat) (z8k : FuncId) (zcc : List Value) (zc9 : z18) (zab : z1 → z1 → Option (z1 × Int)) (zca : z1) (zcb : z1) (r : z1 × z18)
  (h : y1R zc9 zab zca zcb = some r) (w₀ : World) (hz : PZ (fps [stb zgK 262 [(.int .i64 zc9.fE)]]) w₀ Z)
  (zLF : ∀ args w,(callFunc z8k args).run Tryz.prog w = .ok (.enter z8k args) w)
  (zLG : ∀ w : World,PZ [] w Z → ∀ (x0 : z1) (x1 : z1) (r : z1 × Int),zab x0 x1 = some r → Calls Tryz.prog z8k (([(.agg #[(.int .i64 x0.fN),(.int .i64 x0.fD)]),(.agg #[(.int .i64 x1.fN),(.int .i64 x1.fD)])] : List Value) ++ zcc).toArray w fun e w'=>e = .returned (.tuple #[(.agg #[(.int .i64 r.1.fN),(.int .i64 r.1.fD)]),(.int .i64 r.2)]) ∧ Hp [] w w' [])
  (hown : Hp (fps [stb zgK 262 [(.int .i64 zc9.fE)]]) w₀ w₀ [stb zgK 262 [(.int .i64 zc9.fE)]]) :
  Calls Tryz.prog 167 #[(.pointer (some ⟨zgK,0,none⟩)),(.func (.func z8k) #[] (zcc).toArray),(.agg #[(.int .i64 zca.fN),(.int .i64 zca.fD)]),(.agg #[(.int .i64 zcb.fN),(.int .i64 zcb.fD)])] w₀ fun e w'=>e = .returned (.agg #[(.int .i64 r.1.fN),(.int .i64 r.1.fD)]) ∧ Hp (fps [stb zgK 262 [(.int .i64 zc9.fE)]]) w₀ w' [stb zgK 262 [(.int .i64 r.2.fE)]]:=by
 unfold y1R at h
 refine Calls.oh4 Tryz.func167 Tryz.ntmps167 hown ?_
 refine WC.b (WC.a (WL.nA 6 (yH (cs:=[(.int .i64 zca.fN),(.int .i64 zca.fD)]) rfl rfl) ?_))
 intro zWw _
 refine WL.nA 7 (yH (cs:=[(.int .i64 zcb.fN),(.int .i64 zcb.fD)]) rfl rfl) ?_
 intro zWx _
 refine WL.nA 8 (yw (cs:=[(.int .i64 0),(.int .i64 0)]) zH rfl) ?_
 intro zWy _
 refine WL.nil (WX.a (WC.b (WC.b (WC.a (WL.pu rfl (WL.qA 12 (y13 rfl) (WL.qA 13 (ya y7X rfl rfl) (WL.qA 14 (yc y2Z rfl (ym .h3 rfl)) (WL.pu rfl (WL.nil (WX.a (WC.cond rfl (fun zsP=>?_) (fun zsP=>?_)))))))))))))
 ·replace h:=yo h zsP
  refine WC.b (WC.a (WL.qA 16 (yI (v:=(.agg #[(.int .i64 0),(.int .i64 0)])) (Eos.parts (l:=[]) .nil []) (fun _=>by kernel_rfl)) (WL.yj rfl rfl (yl zq rfl rfl rfl .here rfl rfl rfl) (WL.nil (WX.a (WC.ret (WX.yd ?_)))))))
  obtain rfl:=Option.some.inj h
  refine WX.ye Tryz.results167 (.agg rfl zb rfl (yh .here) .nil) (fun w hw=>?_)
  exact ⟨yC rfl,hw.sub (.cons .h3 .nil)⟩
 ·replace h:=yp h zsP
  refine WC.skip (WX.a (WC.b ?_))
  obtain ⟨zmK,zLH,h⟩:=z6 h
  refine WC.a (WL.pu rfl (WL.qA 19 (yf zb rfl (yh .h2) rfl) (WL.qA 20 (yf zb rfl (yh .h1) rfl) (WL.cA 21 (y2t (l:=[.tmp 19,.tmp 20]) (f:=z8k) (caps:=zcc) zLF rfl (.r2 rfl rfl)) .nil (fun w hw=>zLG w (hz.now hw) zca zcb zmK  zLH) (WL.pu rfl (WL.pu rfl (WL.pu rfl (WL.nA 9 (yw (cs:=[(.int .i64 0),(.int .i64 0)]) zH rfl) ?_))))))))
  intro zWz _
  refine WL.yj rfl rfl (yl zq rfl rfl rfl .here rfl rfl rfl) (WL.pu rfl (WL.nil (WX.a (WC.b (WC.a (WL.pu rfl (WL.pu rfl (WL.qA 26 (y13 rfl) (WL.qA 27 (ya y7X rfl rfl) (WL.yj rfl rfl (yl y9D rfl rfl rfl .h4 rfl rfl rfl) (WL.nil (WX.a (WC.b (WC.a (WL.qA 28 (yf zb rfl (yh .h1) rfl) (WL.yj rfl rfl (yl zq rfl rfl rfl .h2 rfl rfl rfl) (WL.nil (WX.a (WC.ret ?_)))))))))))))))))))
  obtain rfl:=Option.some.inj h
  refine WX.ye Tryz.results167 (.agg rfl zb rfl (yh .here) .nil) (fun w hw=>?_)
  exact ⟨yC rfl,hw.sub (.cons .h1 .nil)⟩
def y8y (zgL : z1) (zgM : z1) : Option (Int × Int) :=
 some ((i64 (zgL.fN * zgM.fD)),(i64 (zgL.fD * zgM.fN)))
theorem yeZ (Z : Zp) (zB5 : Addr) (zB6 : Addr) (zgL : z1) (zgM : z1) (r : Int × Int)
  (h : y8y zgL zgM = some r) (w₀ : World) (hz : PZ [] w₀ Z)
  (zB7 : ZC Z zB5 [(.int .i64 zgL.fN),(.int .i64 zgL.fD)])
  (zB8 : ZC Z zB6 [(.int .i64 zgM.fN),(.int .i64 zgM.fD)]) :
  Calls Tryz.prog 144 #[(.pointer (some zB5)),(.pointer (some zB6))] w₀ fun e w'=>e = .returned (.tuple #[(.int .i64 r.1),(.int .i64 r.2)]) ∧ Hp [] w₀ w' []:=by
 unfold y8y at h
 refine Calls.yJ Tryz.func144 Tryz.ntmps144 ?_
 refine WC.b (WC.a (WL.pu rfl (WL.pu rfl (WL.nil (WX.a (WC.b (WC.yO (fun i=>[].contains i) [] rfl (WD.pA 0 4 rfl (fun _=>ya y2f rfl rfl) (WD.qA 1 5 rfl (yc yx rfl (y1k hz.pv zB7 rfl)) (WD.pA 2 6 rfl (fun _=>ya y2A rfl rfl) (WD.qA 3 7 rfl (yc yx rfl (y1k hz.pv zB8 rfl)) (WD.pA 4 8 rfl (fun _=>y6H rfl rfl rfl) (WD.pA 5 9 rfl (fun _=>ya y2A rfl rfl) (WD.qA 6 10 rfl (yc yx rfl (y1k hz.pv zB7 rfl)) (WD.pA 7 11 rfl (fun _=>ya y2f rfl rfl) (WD.qA 8 12 rfl (yc yx rfl (y1k hz.pv zB8 rfl)) (WD.pA 9 13 rfl (fun _=>y6H rfl rfl rfl) (WD.pA 10 2 rfl (fun _=>q_z rfl) (WD.pA 11 3 rfl (fun _=>q_z rfl) (WD.done (by kernel_rfl) (WX.a (WC.ret ?_))))))))))))))))))))))
 obtain rfl:=Option.some.inj h
 refine WX.ye Tryz.results144 (.tmp rfl (.tmp rfl .nil)) (fun w hw=>?_)
 exact ⟨y1Z rfl rfl,hw.sub .nil⟩
def y8e (zcd : z1) (z8l : z1) : Option (z1 × Int) :=
 (y1L zcd).bind fun zB9=>(if !zB9 then some true else (y1L z8l).bind fun zBa=>some (!zBa)).bind fun zmL=>if zmL || (decide (z8l.fN = 0)) then some ((⟨0,0⟩ : z1),2) else (y8y zcd z8l).bind fun zsQ=>(y4O zsQ.1 zsQ.2).bind fun zsR=>some (zsR.1,zsR.2)
theorem yfv (Z : Zp)  (zcd : z1) (z8l : z1) (r : z1 × Int)
  (h : y8e zcd z8l = some r) (w₀ : World) (hz : PZ [] w₀ Z) :
  Calls Tryz.prog 105 #[(.string ⟨#[47]⟩),(.agg #[(.int .i64 zcd.fN),(.int .i64 zcd.fD)]),(.agg #[(.int .i64 z8l.fN),(.int .i64 z8l.fD)])] w₀ fun e w'=>e = .returned (.tuple #[(.agg #[(.int .i64 r.1.fN),(.int .i64 r.1.fD)]),(.int .i64 r.2)]) ∧ Hp [] w₀ w' []:=by
 unfold y8e at h
 refine Calls.on3 Tryz.func105 Tryz.ntmps105 ?_
 refine WC.b (WC.a (WL.nA 4 (yH (cs:=[(.int .i64 zcd.fN),(.int .i64 zcd.fD)]) rfl rfl) ?_))
 intro zjT _
 refine WL.nA 5 (yH (cs:=[(.int .i64 z8l.fN),(.int .i64 z8l.fD)]) rfl rfl) ?_
 intro zjU _
 refine WL.nA 6 (yw (cs:=[(.int .i64 0),(.int .i64 0)]) zH rfl) ?_
 intro zWA _
 refine WL.pu rfl (WL.nil (WX.a (WC.b (WC.b ?_))))
 obtain ⟨zB9,zLI,h⟩:=z6 h
 obtain ⟨zmL,zBb,h⟩:=z6 h
 refine WC.a (WL.qA 9 (yf zb rfl (yh .h2) rfl) (WL.cA 10 (z8 Tryz.call80 (.cons rfl .nil)) .nil (cc hz .nil fun w pz ho=>y2n _ _ _ zLI w pz ) (WL.pu rfl (WL.pu rfl (WL.seg false 3 12 (B:=zmL) rfl rfl rfl rfl rfl rfl (fun h=>(Option.some.inj (yo zBb h)).symm) (fun _ zLJ=>?_) ?_)))))
 ·skip
  have zjV:=yp zBb zLJ
  obtain ⟨zBa,zLK,zjV⟩:=z6 zjV
  replace zjV:=Option.some.inj zjV
  refine WL.qA 13 (yf zb rfl (yh .h1) rfl) (WL.cA 14 (z8 Tryz.call80 (.cons rfl .nil)) .nil (cc hz .nil fun w pz ho=>y2n _ _ _ zLK w pz ) (WL.pu rfl (WL.pu rfl ?_)))
  exact WL.yB zjV rfl rfl .all
 refine WL.pu rfl (WL.seg false 7 17 (B:=zmL || (decide (z8l.fN = 0))) rfl rfl rfl rfl rfl rfl (fun h=>(y6v h).symm) (fun _ zLL=>?_) ?_)
 ·skip
  refine WL.pu rfl (WL.qA 19 (yb6 (r:=true) (by decide) rfl rfl) (WL.pu rfl (WL.qA 21 (ya y2f rfl rfl) (WL.qA 22 (yc yx rfl (ym .h1 rfl)) (WL.pu rfl (WL.pu rfl (WL.pu rfl ?_)))))))
  exact WL.yB (y6w zLL) rfl rfl .all
 refine WL.nil (WX.a (WC.cond rfl (fun zsS=>?_) (fun zsS=>?_)))
 ·replace h:=yo h zsS
  refine WC.b (WC.a (WL.qA 26 (yI (v:=(.agg #[(.int .i64 0),(.int .i64 0)])) (Eos.parts (l:=[]) .nil []) (fun _=>by kernel_rfl)) (WL.yj rfl rfl (yl zq rfl rfl rfl .here rfl rfl rfl) (WL.pu rfl (WL.nil (WX.a (WC.ret (WX.yd ?_))))))))
  obtain rfl:=Option.some.inj h
  refine WX.ye Tryz.results105 (.agg rfl zb rfl (yh .here) (.tmp rfl .nil)) (fun w hw=>?_)
  exact ⟨y1Z rfl rfl,hw.sub .nil⟩
 ·replace h:=yp h zsS
  refine WC.skip (WX.a (WC.b (WC.a (WL.nA 27 (y4o Value.string (fun x=>x)) ?_))))
  intro zWB _
  refine WL.qA 28 (y17 (Eos.caps (l:=[.tmp 4,.tmp 5]) (.r2 rfl rfl))) (WL.yj rfl rfl (y3n (k:=⟨#[43]⟩) (v:=(.func (.func 141) #[] #[(.pointer (some ⟨zjT,0,none⟩)),(.pointer (some ⟨zjU,0,none⟩))])) y3J Tryz.underlying258 rfl rfl rfl rfl .here) (WL.qA 29 (y17 (Eos.caps (l:=[.tmp 4,.tmp 5]) (.r2 rfl rfl))) (WL.yj rfl rfl (y3n (k:=⟨#[45]⟩) (v:=(.func (.func 142) #[] #[(.pointer (some ⟨zjT,0,none⟩)),(.pointer (some ⟨zjU,0,none⟩))])) y3J Tryz.underlying258 rfl rfl rfl rfl .here) (WL.qA 30 (y17 (Eos.caps (l:=[.tmp 4,.tmp 5]) (.r2 rfl rfl))) (WL.yj rfl rfl (y3n (k:=⟨#[42]⟩) (v:=(.func (.func 143) #[] #[(.pointer (some ⟨zjT,0,none⟩)),(.pointer (some ⟨zjU,0,none⟩))])) y3J Tryz.underlying258 rfl rfl rfl rfl .here) (WL.qA 31 (y17 (Eos.caps (l:=[.tmp 4,.tmp 5]) (.r2 rfl rfl))) (WL.yj rfl rfl (y3n (k:=⟨#[47]⟩) (v:=(.func (.func 144) #[] #[(.pointer (some ⟨zjT,0,none⟩)),(.pointer (some ⟨zjU,0,none⟩))])) y3J Tryz.underlying258 rfl rfl rfl rfl .here) (WL.pu rfl (WL.pu rfl (WL.nil (WX.a (WC.b ?_))))))))))))
  obtain ⟨zsQ,zLM,h⟩:=z6 h
  obtain ⟨zsR,zLN,h⟩:=z6 h
  refine WC.a (WL.pu rfl (WL.pu rfl (WL.qA 35 (yb5 (k:=⟨#[47]⟩) (dflt:=.nilFunc) (r:=(.func (.func 144) #[] #[(.pointer (some ⟨zjT,0,none⟩)),(.pointer (some ⟨zjU,0,none⟩))])) y3J Tryz.underlying258 zlz rfl rfl rfl .here (by rfl)) (WL.cA 36 (y2t (l:=[]) Tryz.call144 rfl .nil) .nil (ccl hz .nil (.s2 .h3 .h2) fun w pz ho la=>yeZ _ _ _ _ _ _ zLM w pz ((la _ (.head _) _).stb) ((la _ (.tail _ (.head _)) _).stb)) (WL.pu rfl (WL.pu rfl (WL.cA 39 (z8 Tryz.call106 (.r2 rfl rfl)) .nil (cc hz .nil fun w pz ho=>y7I _ _ _ _ zLN w pz ) (WL.pu rfl (WL.pu rfl (WL.yj rfl rfl (yl zq rfl rfl rfl .h1 rfl rfl rfl) (WL.pu rfl (WL.nil (WX.a (WC.ret ?_))))))))))))))
  obtain rfl:=Option.some.inj h
  refine WX.ye Tryz.results105 (.agg rfl zb rfl (yh .here) (.tmp rfl .nil)) (fun w hw=>?_)
  exact ⟨y1Z rfl rfl,hw.sub .nil⟩
def y3w (zem : z1) (zen : z1) : Option (z1 × Int) :=
 (y8e zem zen).bind fun zsT=>some (zsT.1,zsT.2)
theorem yd0 (Z : Zp)  (zem : z1) (zen : z1) (r : z1 × Int)
  (h : y3w zem zen = some r) (w₀ : World) (hz : PZ [] w₀ Z) :
  Calls Tryz.prog 75 #[(.agg #[(.int .i64 zem.fN),(.int .i64 zem.fD)]),(.agg #[(.int .i64 zen.fN),(.int .i64 zen.fD)])] w₀ fun e w'=>e = .returned (.tuple #[(.agg #[(.int .i64 r.1.fN),(.int .i64 r.1.fD)]),(.int .i64 r.2)]) ∧ Hp [] w₀ w' []:=by
 unfold y3w at h
 refine Calls.yJ Tryz.func75 Tryz.ntmps75 ?_
 refine WC.b (WC.a (WL.nA 2 (yH (cs:=[(.int .i64 zem.fN),(.int .i64 zem.fD)]) rfl rfl) ?_))
 intro zWC _
 refine WL.nA 3 (yH (cs:=[(.int .i64 zen.fN),(.int .i64 zen.fD)]) rfl rfl) ?_
 intro zWD _
 refine WL.nA 4 (yw (cs:=[(.int .i64 0),(.int .i64 0)]) zH rfl) ?_
 intro zWE _
 refine WL.pu rfl (WL.nil (WX.a (WC.b ?_)))
 obtain ⟨zsT,zLO,h⟩:=z6 h
 refine WC.a (WL.qA 6 (yf zb rfl (yh .h2) rfl) (WL.qA 7 (yf zb rfl (yh .h1) rfl) (WL.cA 8 (z8 Tryz.call105 (.r3 rfl rfl rfl)) .nil (cc hz .nil fun w pz ho=>yfv _ _ _ _ zLO w pz ) (WL.pu rfl (WL.pu rfl (WL.yj rfl rfl (yl zq rfl rfl rfl .here rfl rfl rfl) (WL.pu rfl (WL.nil (WX.a (WC.ret ?_))))))))))
 obtain rfl:=Option.some.inj h
 refine WX.ye Tryz.results75 (.agg rfl zb rfl (yh .here) (.tmp rfl .nil)) (fun w hw=>?_)
 exact ⟨y1Z rfl rfl,hw.sub .nil⟩
theorem zLP : ∀ w,(isAgg (Tryz.y36.t 24)).run Tryz.prog w = .ok true w:=fun _=>by kernel_rfl
theorem zLQ : ∀ w,(Go.sizeOf (Tryz.y36.t 24)).run Tryz.prog w = .ok 2 w:=fun _=>by kernel_rfl
def y3R (z4u : List z1) (zjW : Int) (zjX : Int) (zgN : Int) (zeo : z1 → z1 → Option Int) : Option (List z1):=chk ((zjW = 0 ∧ zjX = ((z4u.length : Nat) : Int)) ∧ (0 ≤ zgN ∧ zgN < 4611686018427387904 ∧ z4u.length < 4611686018427387904)) (chk (y7h zeo (yZ zeo z4u) = true) (some (yZ zeo z4u)))
theorem y7v (Z : Zp) (zep : Option Addr) (zeq : Nat) (zjY : FuncId) (zsU : List Value) (z4u : List z1) (zjW : Int) (zjX : Int) (zgN : Int) (zeo : z1 → z1 → Option Int) (r : List z1) (w₀ : World) (hz : PZ (fps [row (.slice zep z4u.length zeq) 132 2 (z4u.flatMap yu)]) w₀ Z)
  (zLR : ∀ args w,(callFunc zjY args).run Tryz.prog w = .ok (.enter zjY args) w)
  (zLS : ∀ w : World,PZ [] w Z → ∀ (x0 : z1) (x1 : z1) (r : Int),zeo x0 x1 = some r → Calls Tryz.prog zjY (([(.agg #[(.int .i64 x0.fN),(.int .i64 x0.fD)]),(.agg #[(.int .i64 x1.fN),(.int .i64 x1.fD)])] : List Value) ++ zsU).toArray w fun e w'=>e = .returned (.int .i64 r) ∧ Hp [] w w' [])
  (h : y3R z4u zjW zjX zgN zeo = some r) (hown : Hp (fps [row (.slice zep z4u.length zeq) 132 2 (z4u.flatMap yu)]) w₀ w₀ [row (.slice zep z4u.length zeq) 132 2 (z4u.flatMap yu)]) :
  Calls Tryz.prog 185 #[(.slice zep z4u.length zeq),(.int .i64 zjW),(.int .i64 zjX),(.int .i64 zgN),(.func (.func zjY) #[] (zsU).toArray)] w₀ fun e w'=>e = .returned (.tuple #[]) ∧ (r.length = z4u.length) ∧ Hp (fps [row (.slice zep z4u.length zeq) 132 2 (z4u.flatMap yu)]) w₀ w' [row (.slice zep r.length zeq) 132 2 (r.flatMap yu)]:=by
 obtain ⟨h0,h⟩:=yn h
 obtain ⟨h1,h⟩:=yn h
 have hr:=(Option.some.inj h).symm
 exact y84 (P:=Tryz.prog) (f:=185) (e:=132) (k:=2) (enc:=yu) (fun _=>rfl) (by decide) yb7 (fun β _ enc cf g cb hO blk off cap d0 w0 eg hC R=>Tryz.y7R 2 zLP zLQ enc cf g cb hO blk off cap d0 w0 eg hC R) (Tryz.y7K (α:=Unit)) hz zLR zLS h0 h1 hr hown
def y1W (z3S : List z1) (zgO : z1 → z1 → Option Int) : Option (List z1) :=
 (y40 (u64 ((z3S.length : Nat) : Int))).bind fun zmM=>(y3R z3S 0 ((z3S.length : Nat) : Int) zmM zgO).bind fun zmN=>some zmN
theorem y7a (Z : Zp) (zce : Option Addr) (zcf : Nat) (zgP : FuncId) (zmO : List Value) (z3S : List z1) (zgO : z1 → z1 → Option Int) (r : List z1)
  (h : y1W z3S zgO = some r) (w₀ : World) (hz : PZ (fps [row (.slice zce z3S.length zcf) 132 2 (z3S.flatMap yu)]) w₀ Z)
  (zLT : ∀ args w,(callFunc zgP args).run Tryz.prog w = .ok (.enter zgP args) w)
  (zLU : ∀ w : World,PZ [] w Z → ∀ (x0 : z1) (x1 : z1) (r : Int),zgO x0 x1 = some r → Calls Tryz.prog zgP (([(.agg #[(.int .i64 x0.fN),(.int .i64 x0.fD)]),(.agg #[(.int .i64 x1.fN),(.int .i64 x1.fD)])] : List Value) ++ zmO).toArray w fun e w'=>e = .returned (.int .i64 r) ∧ Hp [] w w' [])
  (hown : Hp (fps [row (.slice zce z3S.length zcf) 132 2 (z3S.flatMap yu)]) w₀ w₀ [row (.slice zce z3S.length zcf) 132 2 (z3S.flatMap yu)]) :
  Calls Tryz.prog 171 #[(.slice zce z3S.length zcf),(.func (.func zgP) #[] (zmO).toArray)] w₀ fun e w'=>e = .returned (.tuple #[]) ∧ (r.length = z3S.length) ∧ Hp (fps [row (.slice zce z3S.length zcf) 132 2 (z3S.flatMap yu)]) w₀ w' [row (.slice zce r.length zcf) 132 2 (r.flatMap yu)]:=by
 unfold y1W at h
 refine Calls.oh2 Tryz.func171 Tryz.ntmps171 hown ?_
 refine WC.b (WC.a (WL.pu rfl (WL.qA 6 (yG Tryz.underlying175 rfl) (WL.pu rfl (WL.nil (WX.a ?_))))))
 obtain ⟨zmM,zLV,h⟩:=z6 h
 obtain ⟨zmN,zLW,h⟩:=z6 h
 refine WC.a (WL.pu rfl (WL.pu rfl (WL.pu rfl (WL.qA 10 (y77 Tryz.underlying3 Tryz.underlying142 rfl rfl) (WL.cA 11 (z8 Tryz.call48 (.cons rfl .nil)) .nil (cc hz .nil fun w pz ho=>y7G (Z:=_)  (z6F:=(u64 ((z3S.length : Nat) : Int))) (r:=zmM) w pz  zLV) (WL.pu rfl (WL.y4R (dd:=13) rfl rfl rfl (z8 Tryz.call185 (.r5 rfl rfl rfl rfl rfl)) (.cons .here .nil) (cc hz (.cons .here .nil) fun w pz ho=>y7v (Z:=_) (zep:=zce) (zeq:=zcf) (zjY:=zgP) (zsU:=zmO) (z4u:=z3S) (zjW:=0) (zjX:=((z3S.length : Nat) : Int)) (zgN:=zmM) (zeo:=zgO) (r:=zmN) w pz zLT zLU zLW ho) ?_)))))))
 rintro  zBc
 refine WL.repin (i:=0) rfl (u:=(.slice zce zmN.length zcf)) (y5W zBc.symm) (WL.nil ?_)
 obtain rfl:=Option.some.inj h
 refine WX.y4Q Tryz.results171 .nil (fun w hw=>?_)
 exact ⟨y7f,(zBc.trans rfl),hw.sub (.cons .here .nil)⟩
def y19 (zA : List z1) (zm : Int) (zac : (List z1) → Int → Option (List z1)) : Nat → (List z1) → Int → Int → Option (List z1)
 | 0,_,_,_=>none
 | zsV + 1,zF,z2G,k2_42006=>if decide (k2_42006 < ((zA.length - (zm : Int).toNat : Nat) : Int)) then jp2 (fun (z6N : List z1) (zad : Int)=>y19 zA zm zac zsV z6N zad (i64 (k2_42006 + 1))) fun zmP=>chk ((0 : Int) ≤ k2_42006 ∧ k2_42006 < ((zA.length - (zm : Int).toNat : Nat) : Int)) (chk ((0 : Int) ≤ (i64 (k2_42006 - 1)) ∧ (i64 (k2_42006 - 1)) < ((zA.length - (zm : Int).toNat : Nat) : Int)) (if decide ((⟨((nth zF (zm + k2_42006)).fN),((nth zF (zm + k2_42006)).fD)⟩ : z1) ≠ (⟨((nth zF (zm + (i64 (k2_42006 - 1)))).fN),((nth zF (zm + (i64 (k2_42006 - 1)))).fD)⟩ : z1)) then chk ((0 : Int) ≤ k2_42006 ∧ k2_42006 < ((zA.length - (zm : Int).toNat : Nat) : Int)) (chk ((0 : Int) ≤ z2G ∧ z2G < ((zF.length : Nat) : Int)) (zmP (zF.set (z2G : Int).toNat (⟨((nth zF (zm + k2_42006)).fN),((nth zF (zm + k2_42006)).fD)⟩ : z1)) (i64 (z2G + 1)))) else zmP zF z2G)) else zac zF z2G
theorem y5Z {n : Nat} {zA : List z1} {zm : Int} {zac : (List z1) → Int → Option (List z1)} {zF : List z1} {z2G : Int} {k2_42006 : Int} {r : List z1} (h : y19 zA zm zac n zF z2G k2_42006 = some r) : ∃ m,n = m + 1:=by
 cases n with
 | zero=>cases h
 | succ m=>exact ⟨m,rfl⟩
def y1a (zA : List z1) (zae : Option (List z1)) : Nat → Int → Option (List z1)
 | 0,_=>none
 | zsW + 1,zm=>if decide (zm < ((zA.length : Nat) : Int)) then jp0 (y1a zA zae zsW (i64 (zm + 1))) fun zsX=>chk ((0 : Int) ≤ zm ∧ zm < ((zA.length : Nat) : Int)) (chk ((0 : Int) ≤ (i64 (zm - 1)) ∧ (i64 (zm - 1)) < ((zA.length : Nat) : Int)) (if decide ((⟨((nth zA zm).fN),((nth zA zm).fD)⟩ : z1) = (⟨((nth zA (i64 (zm - 1))).fN),((nth zA (i64 (zm - 1))).fD)⟩ : z1)) then chk ((0 : Int) ≤ zm ∧ zm < ((zA.length : Nat) : Int)) (jp2 (fun (z2H : List z1) (z2I : Int)=>chk ((0 : Int) ≤ z2I ∧ z2I ≤ ((z2H.length : Nat) : Int)) (chk ((0 : Int) ≤ z2I ∧ z2I ≤ (((z2H.take (z2I : Int).toNat ++ List.replicate (z2H.length - (z2I : Int).toNat) ((⟨0,0⟩ : z1) : z1)).length : Nat) : Int)) (some ((z2H.take (z2I : Int).toNat ++ List.replicate (z2H.length - (z2I : Int).toNat) ((⟨0,0⟩ : z1) : z1)).take (z2I : Int).toNat)))) fun zac=>y19 zA zm zac yz zA zm 1) else zsX)) else zae
theorem y60 {n : Nat} {zA : List z1} {zae : Option (List z1)} {zm : Int} {r : List z1} (h : y1a zA zae n zm = some r) : ∃ m,n = m + 1:=by
 cases n with
 | zero=>cases h
 | succ m=>exact ⟨m,rfl⟩
def y24 (zA : List z1) : Option (List z1) :=
 if decide (((zA.length : Nat) : Int) < 2) then some zA else jp0 (some zA) fun zae=>y1a zA zae yz 1
theorem y7j (Z : Zp) (z67 : Option Addr) (z20 : Nat) (zA : List z1) (r : List z1)
  (h : y24 zA = some r) (w₀ : World) (hz : PZ (fps [row (.slice z67 zA.length z20) 132 2 (zA.flatMap yu)]) w₀ Z)
  (hown : Hp (fps [row (.slice z67 zA.length z20) 132 2 (zA.flatMap yu)]) w₀ w₀ [row (.slice z67 zA.length z20) 132 2 (zA.flatMap yu)]) :
  Calls Tryz.prog 172 #[(.slice z67 zA.length z20)] w₀ fun e w'=>∃ zBd : Option Addr,∃ zBe : Nat,e = .returned (.slice zBd r.length zBe) ∧ True ∧ Hp (fps [row (.slice z67 zA.length z20) 132 2 (zA.flatMap yu)]) w₀ w' [row (.slice zBd r.length zBe) 132 2 (r.flatMap yu)]:=by
 unfold y24 at h
 refine Calls.oh1 Tryz.func172 Tryz.ntmps172 hown ?_
 refine WC.b (WC.a (WL.pu rfl (WL.nil (WX.a (WC.b (WC.b (WC.a (WL.pu rfl (WL.qA 7 (yG Tryz.underlying175 rfl) (WL.pu rfl (WL.nil (WX.a (WC.cond rfl (fun zsY=>?_) (fun zsY=>?_))))))))))))))
 ·replace h:=yo h zsY
  refine WC.b (WC.a (WL.pu rfl (WL.pu rfl (WL.nil (WX.a (WC.ret (WX.yd ?_)))))))
  obtain rfl:=Option.some.inj h
  refine WX.ye Tryz.results172 (.tmp rfl .nil) (fun w hw=>?_)
  exact ⟨z67,z20,yC rfl,trivial,hw.sub (.cons .here .nil)⟩
 ·replace h:=yp h zsY
  refine WC.skip (WX.a ?_)
  obtain ⟨zae,zLX,h⟩:=y2y h
  refine WC.y1P ((zae = some r)) ([(0,(.slice z67 zA.length z20))]) ([row (.slice z67 zA.length z20) 132 2 (zA.flatMap yu)]) ?_ ?_
  ·skip
   refine WC.b (WC.a (WL.pu rfl (WL.nil (WX.a (WC.block (WC.y2V (fun (zgQ : Nat) (zm : Int)=>(y1a zA zae zgQ zm = some r)) (fun zgQ zm=>[(0,(.slice z67 zA.length z20)),(3,(.int .i64 zm))]) (fun zgQ zm=>[row (.slice z67 zA.length z20) 132 2 (zA.flatMap yu)]) (fun zgQ zm=>zgQ) ⟨yz,1⟩ h (.r2 rfl rfl) (.cons .here .nil) ?_))))))
   rintro zgQ zm h
   obtain ⟨zsW,rfl⟩:=y60 h
   rw [y1a] at h
   refine WC.b (WC.b (WC.a (WL.pu rfl (WL.pu rfl (WL.qA 12 (yG Tryz.underlying175 rfl) (WL.pu rfl (WL.nil (WX.a (WC.cond rfl (fun zsZ=>?_) (fun zsZ=>?_))))))))))
   ·replace h:=yo h zsZ
    refine WC.skip (WX.a ?_)
    obtain ⟨zsX,zLY,h⟩:=y2y h
    refine WC.y1P ((zsX = some r)) ([(0,(.slice z67 zA.length z20)),(3,(.int .i64 zm))]) ([row (.slice z67 zA.length z20) 132 2 (zA.flatMap yu)]) ?_ ?_
    ·skip
     refine WC.block (WC.b ?_)
     obtain ⟨zjZ,h⟩:=yn h
     obtain ⟨zmQ,h⟩:=yn h
     refine WC.yO (fun i=>[].contains i) [] rfl (WD.pA 0 16 rfl (fun _=>q_m rfl) (WD.pA 1 17 rfl (fun _=>q_m rfl) (WD.know (fun w hw=>Hp.y2j .here hw (by intro hz'; have:=zjZ; rw [hz'] at this; omega)) ?_)))
     rintro ⟨z6O,rfl⟩
     refine WD.pA 2 18 rfl (fun _=>yV z1H rfl rfl zjZ.1 zjZ.2 y32) (WD.qA 3 19 rfl (yT (cs:=(yu (nth zA zm))) zb rfl rfl (y49 .here (y3y (enc:=yu) (l:=zA) (i:=zm) (sz:=2) (fun _=>rfl) zjZ.1 zjZ.2))) (WD.pA 4 20 rfl (fun _=>q_m rfl) (WD.pA 5 21 rfl (fun _=>q_m rfl) (WD.pA 6 22 rfl (fun _=>ybT rfl rfl rfl) (WD.pA 7 23 rfl (fun _=>yV z1H rfl rfl zmQ.1 zmQ.2 y32) (WD.qA 8 24 rfl (yT (cs:=(yu (nth zA (i64 (zm - 1))))) zb rfl rfl (y49 .here (y3y (enc:=yu) (l:=zA) (i:=i64 (zm - 1)) (sz:=2) (fun _=>rfl) zmQ.1 zmQ.2))) (WD.pA 9 25 rfl (fun _=>y7g (enc:=yu) (a:=(⟨((nth zA zm).fN),((nth zA zm).fD)⟩ : z1)) (b:=(⟨((nth zA (i64 (zm - 1))).fN),((nth zA (i64 (zm - 1))).fD)⟩ : z1)) zwW rfl rfl) (WD.done (by kernel_rfl) (WX.a (WC.cond rfl (fun zt0=>?_) (fun zt0=>?_)))))))))))
     ·replace h:=yo h zt0
      refine WC.b ?_
      obtain ⟨zer,h⟩:=yn h
      refine WC.a (WL.pu rfl (WL.pu rfl (WL.yfm (dd:=28) rfl rfl z1H rfl rfl .here zer (WL.pu rfl (WL.nil (WX.a ?_))))))
      obtain ⟨zac,zLZ,h⟩:=y3W h
      refine WC.y4L (fun (z2H : List z1) (z2I : Int)=>(zac z2H z2I = some r) ∧ (z2H.length = zA.length)) (fun z2H z2I=>[(0,(.slice (some ⟨z6O,0,none⟩) z2H.length z20)),(3,(.int .i64 z2I))]) (fun z2H z2I=>[row (.slice (some ⟨z6O,0,none⟩) z2H.length z20) 132 2 (z2H.flatMap yu)]) ?_ ?_
      ·skip
       refine WC.b (WC.a (WL.pu rfl (WL.nil (WX.a (WC.block (WC.y5y (fun (zgR : Nat) (zF : List z1) (z2G : Int) (k2_42006 : Int)=>(y19 zA zm zac zgR zF z2G k2_42006 = some r) ∧ (zF.length = zA.length)) (fun zgR zF z2G k2_42006=>[(0,(.slice (some ⟨z6O,0,none⟩) zF.length z20)),(3,(.int .i64 z2G)),(4,(.slice (some ⟨z6O,(zm : Int).toNat * 2,none⟩) (zA.length - (zm : Int).toNat) (z20 - (zm : Int).toNat))),(5,(.int .i64 k2_42006))]) (fun zgR zF z2G k2_42006=>[row (.slice (some ⟨z6O,0,none⟩) zF.length z20) 132 2 (zF.flatMap yu)]) (fun zgR zF z2G k2_42006=>zgR) ⟨yz,zA,zm,1⟩ ⟨h,rfl⟩ (.r4 rfl rfl rfl rfl) (.cons .here .nil) ?_))))))
       rintro zgR zF z2G k2_42006 ⟨h,zgS⟩
       obtain ⟨zsV,rfl⟩:=y5Z h
       rw [y19] at h
       refine WC.b (WC.b (WC.a (WL.pu rfl (WL.pu rfl (WL.qA 31 (yG Tryz.underlying175 rfl) (WL.pu rfl (WL.nil (WX.a (WC.cond rfl (fun zt1=>?_) (fun zt1=>?_))))))))))
       ·replace h:=yo h zt1
        refine WC.skip (WX.a ?_)
        obtain ⟨zmP,zM0,h⟩:=y3W h
        refine WC.y4L (fun (z6N : List z1) (zad : Int)=>(zmP z6N zad = some r) ∧ (z6N.length = zA.length)) (fun z6N zad=>[(0,(.slice (some ⟨z6O,0,none⟩) z6N.length z20)),(3,(.int .i64 zad)),(4,(.slice (some ⟨z6O,(zm : Int).toNat * 2,none⟩) (zA.length - (zm : Int).toNat) (z20 - (zm : Int).toNat))),(5,(.int .i64 k2_42006))]) (fun z6N zad=>[row (.slice (some ⟨z6O,0,none⟩) z6N.length z20) 132 2 (z6N.flatMap yu)]) ?_ ?_
        ·skip
         refine WC.block (WC.b ?_)
         obtain ⟨zmR,h⟩:=yn h
         obtain ⟨zmS,h⟩:=yn h
         refine WC.yO (fun i=>[].contains i) [] rfl (WD.pA 0 35 rfl (fun _=>q_m rfl) (WD.pA 1 36 rfl (fun _=>q_m rfl) ?_))
         have zBf : (0 : Int) ≤ zm + k2_42006 ∧ zm + k2_42006 < ((zF.length : Nat) : Int):=by have h1:=zgS; have h2:=zer; have h3:=zmR; omega
         refine WD.pA 2 37 rfl (fun _=>yV z1H rfl rfl zmR.1 zmR.2 (ybE zer.1 zmR.1)) (WD.qA 3 38 rfl (yT (cs:=(yu (nth zF (zm + k2_42006)))) zb rfl rfl (y49 .here (y3y (enc:=yu) (l:=zF) (i:=zm + k2_42006) (sz:=2) (fun _=>rfl) zBf.1 zBf.2))) (WD.pA 4 39 rfl (fun _=>q_m rfl) (WD.pA 5 40 rfl (fun _=>q_m rfl) (WD.pA 6 41 rfl (fun _=>ybT rfl rfl rfl) ?_))))
         have zBg : (0 : Int) ≤ zm + (i64 (k2_42006 - 1)) ∧ zm + (i64 (k2_42006 - 1)) < ((zF.length : Nat) : Int):=by have h1:=zgS; have h2:=zer; have h3:=zmS; omega
         refine WD.pA 7 42 rfl (fun _=>yV z1H rfl rfl zmS.1 zmS.2 (ybE zer.1 zmS.1)) (WD.qA 8 43 rfl (yT (cs:=(yu (nth zF (zm + (i64 (k2_42006 - 1)))))) zb rfl rfl (y49 .here (y3y (enc:=yu) (l:=zF) (i:=zm + (i64 (k2_42006 - 1))) (sz:=2) (fun _=>rfl) zBg.1 zBg.2))) (WD.pA 9 44 rfl (fun _=>ya0 (enc:=yu) (a:=(⟨((nth zF (zm + k2_42006)).fN),((nth zF (zm + k2_42006)).fD)⟩ : z1)) (b:=(⟨((nth zF (zm + (i64 (k2_42006 - 1)))).fN),((nth zF (zm + (i64 (k2_42006 - 1)))).fD)⟩ : z1)) zwW rfl rfl) (WD.done (by kernel_rfl) (WX.a (WC.cond rfl (fun zt2=>?_) (fun zt2=>?_))))))
         ·replace h:=yo h zt2
          refine WC.b ?_
          obtain ⟨zmT,h⟩:=yn h
          obtain ⟨zgT,h⟩:=yn h
          refine WC.a (WL.pu rfl (WL.pu rfl (WL.pu rfl (WL.pu rfl ?_))))
          have zBh : (0 : Int) ≤ zm + k2_42006 ∧ zm + k2_42006 < ((zF.length : Nat) : Int):=by have h1:=zgS; have h2:=zer; have h3:=zmT; omega
          refine WL.qA 49 (yV z1H rfl rfl zmT.1 zmT.2 (ybE zer.1 zmT.1)) (WL.qA 50 (yT (cs:=(yu (nth zF (zm + k2_42006)))) zb rfl rfl (y49 .here (y3y (enc:=yu) (l:=zF) (i:=zm + k2_42006) (sz:=2) (fun _=>rfl) zBh.1 zBh.2))) (WL.qA 51 (yV z1H rfl rfl zgT.1 zgT.2 y32) (WL.yj rfl rfl (y5U (vs:=[(.int .i64 ((nth zF (zm + k2_42006)).fN)),(.int .i64 ((nth zF (zm + k2_42006)).fD))]) (ds:=(zF.set (z2G : Int).toNat (⟨((nth zF (zm + k2_42006)).fN),((nth zF (zm + k2_42006)).fD)⟩ : z1)).flatMap yu) zq rfl rfl rfl rfl (ocB rfl) .here (flat_fit (enc:=yu) (sz:=2) (k:=0) (fun _=>rfl) zgT.1 zgT.2 (by decide)) (flat_put (enc:=yu) (l:=zF) (sz:=2) (vs:=[(.int .i64 ((nth zF (zm + k2_42006)).fN)),(.int .i64 ((nth zF (zm + k2_42006)).fD))]) (y:=(⟨((nth zF (zm + k2_42006)).fN),((nth zF (zm + k2_42006)).fD)⟩ : z1)) (k:=0) (fun _=>rfl) zgT.1 zgT.2 rfl (Nat.le_of_ble_eq_true rfl))) (WL.relen .here (u:=(.slice (some ⟨z6O,0,none⟩) ((zF.set (z2G : Int).toNat (⟨((nth zF (zm + k2_42006)).fN),((nth zF (zm + k2_42006)).fD)⟩ : z1)).length) z20)) (y5W (List.length_set).symm) (WL.repin (i:=0) rfl (u:=(.slice (some ⟨z6O,0,none⟩) ((zF.set (z2G : Int).toNat (⟨((nth zF (zm + k2_42006)).fN),((nth zF (zm + k2_42006)).fD)⟩ : z1)).length) z20)) (y5W (List.length_set).symm) (WL.nil (WX.a (WC.a (WL.pu rfl (WL.pu rfl (WL.pu rfl (WL.nil (WX.yk ?_)))))))))))))
          exact WX.mid ⟨(zF.set (z2G : Int).toNat (⟨((nth zF (zm + k2_42006)).fN),((nth zF (zm + k2_42006)).fD)⟩ : z1)),(i64 (z2G + 1))⟩ ⟨h,((List.length_set).trans zgS)⟩ (.r4 rfl rfl rfl rfl) (.cons .here .nil)
         ·replace h:=yp h zt2
          refine WC.skip (WX.yk ?_)
          exact WX.mid ⟨zF,z2G⟩ ⟨h,zgS⟩ (.r4 rfl rfl rfl rfl) (.cons .here .nil)
        ·rintro z6N zad ⟨h,zM1⟩
         replace h:=(zM0 z6N zad).symm.trans h
         refine WC.a (WL.pu rfl (WL.pu rfl (WL.pu rfl (WL.nil ?_))))
         exact WX.round ⟨zsV,z6N,zad,(i64 (k2_42006 + 1))⟩ ⟨h,zM1⟩ (Nat.lt_succ_self _) (.r4 rfl rfl rfl rfl) (.cons .here .nil)
       ·replace h:=yp h zt1
        refine WC.exit (WX.yg (WX.yg (WX.yA ?_)))
        exact WX.mid ⟨zF,z2G⟩ ⟨h,zgS⟩ (.r2 rfl rfl) (.cons .here .nil)
      ·rintro z2H z2I ⟨h,zWF⟩
       replace h:=(zLZ z2H z2I).symm.trans h
       refine WC.b ?_
       obtain ⟨zmU,h⟩:=yn h
       refine WC.a (WL.pu rfl (WL.pu rfl (WL.yfj (dd:=56) rfl rfl z1H rfl rfl .here zmU ?_)))
       intro zWG zWH zM2
       refine WL.yj rfl rfl (ydo (enc:=yu) (z0:=((⟨0,0⟩ : z1) : z1)) (l:=z2H) z1H zH rfl zM2 zmU (fun _=>rfl) (by decide) rfl yb7 .here) (WL.relen .here (u:=(.slice (some ⟨z6O,0,none⟩) ((z2H.take (z2I : Int).toNat ++ List.replicate (z2H.length - (z2I : Int).toNat) ((⟨0,0⟩ : z1) : z1)).length) z20)) (y5W (yaB zmU).symm) (WL.repin (i:=0) rfl (u:=(.slice (some ⟨z6O,0,none⟩) ((z2H.take (z2I : Int).toNat ++ List.replicate (z2H.length - (z2I : Int).toNat) ((⟨0,0⟩ : z1) : z1)).length) z20)) (y5W (yaB zmU).symm) (WL.nil (WX.a (WC.b ?_)))))
       obtain ⟨zM3,h⟩:=yn h
       refine WC.a (WL.pu rfl (WL.pu rfl (WL.yfi (dd:=59) (enc:=yu) (ls:=z2H.take (z2I : Int).toNat ++ List.replicate (z2H.length - (z2I : Int).toNat) ((⟨0,0⟩ : z1) : z1)) rfl rfl z1H rfl rfl .here (fun _=>rfl) zM3 ?_)))
       intro zM4 zM5
       refine WL.pu rfl (WL.nil (WX.a (WC.ret (WX.yt (WX.yd (WX.yd (WX.yt (WX.yd ?_))))))))
       obtain rfl:=Option.some.inj h
       refine WX.ye Tryz.results172 (.tmp rfl .nil) (fun w hw=>?_)
       exact ⟨zM4,zM5,yC rfl,trivial,hw.sub (.cons .here .nil)⟩
     ·replace h:=yp h zt0
      refine WC.skip (WX.yk ?_)
      exact WX.mid () h (.r2 rfl rfl) (.cons .here .nil)
    ·rintro  h
     replace h:=zLY.symm.trans h
     refine WC.a (WL.pu rfl (WL.pu rfl (WL.pu rfl (WL.nil ?_))))
     exact WX.round ⟨zsW,(i64 (zm + 1))⟩ h (Nat.lt_succ_self _) (.r2 rfl rfl) (.cons .here .nil)
   ·replace h:=yp h zsZ
    refine WC.exit (WX.yg (WX.yg (WX.yA ?_)))
    exact WX.mid () h (.cons rfl .nil) (.cons .here .nil)
  ·rintro  h
   replace h:=zLX.symm.trans h
   refine WC.b (WC.a (WL.pu rfl (WL.pu rfl (WL.nil (WX.a (WC.ret ?_))))))
   obtain rfl:=Option.some.inj h
   refine WX.ye Tryz.results172 (.tmp rfl .nil) (fun w hw=>?_)
   exact ⟨z67,z20,yC rfl,trivial,hw.sub (.cons .here .nil)⟩
def y1z  (z1x : z2 × z2) (z4v : List z1) (zgU : Int) : Option (Bool × (Nat × List z1 × Int)) :=
 (y1i z1x.1.fBurst z1x.2.fBurst).bind fun zBi=>if decide (zBi < 0) then (y1R (⟨zgU⟩ : z18) (fun (y0 : z1) (y1 : z1)=>y2b y0 y1) z1x.2.fBurst z1x.1.fBurst).bind fun zt3=>(y1R zt3.2 (fun (y0 : z1) (y1 : z1)=>y2b y0 y1) z1x.1.fRate z1x.2.fRate).bind fun zt4=>(y1R zt4.2 (fun (y0 : z1) (y1 : z1)=>y3w y0 y1) zt3.1 zt4.1).bind fun z7P=>chk ((((z4v ++ ([z7P.1] : List z1)).length : Nat) : Int) * 16 ≤ 140737488355328 ∧ (((z4v ++ ([z7P.1] : List z1)).length : Nat) : Int) ≤ 4611686018427387904) (some (true,(0,(z4v ++ ([z7P.1] : List z1)),z7P.2.fE))) else some (true,(0,z4v,zgU))
def y1S (zcg : List z2) : Option (List z1 × Int) :=
 (y4c zcg).bind fun zt5=>if !zt5 then some (([] : List z1),2) else (y6E zcg).bind fun zmV=>jp2 (fun (zaf : Int) (z8m : List z1)=>if decide (zaf ≠ 0) then some (([] : List z1),zaf) else (y1W z8m (fun (y0 : z1) (y1 : z1)=>y1i y0 y1)).bind fun zt6=>(y24 zt6).bind fun zBj=>some (zBj,0)) fun zt7=>(y6a zmV zmV).bind fun zV=>(y4x (Nat × List z1 × Int) (fun (x : z2 × z2) (s : Nat × List z1 × Int)=>chk (s.1 = 0) (y1z x s.2.1 s.2.2)) (0,([] : List z1),0) zV.1 zV.2).bind fun z3r=>zt7 z3r.2.2 z3r.2.1
theorem y6W (Z : Zp) (zmW : Option Addr) (zmX : Nat) (zcg : List z2) (r : List z1 × Int)
  (h : y1S zcg = some r) (w₀ : World) (hz : PZ [] w₀ Z)
  (zBk : ZS Z 4 (fun r x=>r = y1D x) zmW zmX zcg) :
  Calls Tryz.prog 153 #[(.slice zmW zcg.length zmX)] w₀ fun e w'=>∃ zBl : Option Addr,∃ zBm : Nat,e = .returned (.tuple #[(.slice zBl r.1.length zBm),(.int .i64 r.2)]) ∧ True ∧ Hp [] w₀ w' [row (.slice zBl r.1.length zBm) 132 2 (r.1.flatMap yu)]:=by
 unfold y1S at h
 refine Calls.y9k (vs:=[(.slice zmW zcg.length zmX)]) (pre:=[]) (env:=[(0,(.slice zmW zcg.length zmX))]) Tryz.func153 rfl Tryz.ntmps153 rfl (Hp.nil w₀ _) rfl ?_
 refine WC.pool (WC.b (WC.a (WL.pu rfl (WL.pu rfl (WL.nil (WX.a (WC.b (WC.b ?_))))))))
 obtain ⟨zt5,zM6,h⟩:=z6 h
 refine WC.a (WL.pu rfl (WL.cA 10 (z8 Tryz.call146 (.cons rfl .nil)) .nil (ccz hz .nil .here fun w pz ho=>y7d _ _ _ _ _ zM6 w pz (zBk.mono (Zle.left _ _))) (WL.pu rfl (WL.nil (WX.a (WC.cond rfl (fun zt8=>?_) (fun zt8=>?_)))))))
 ·replace h:=yo h zt8
  refine WC.b (WC.a (WL.pu rfl (WL.pu rfl (WL.nil (WX.a (WC.ret (WX.yd (WX.nilRow 132 2 ?_))))))))
  obtain rfl:=Option.some.inj h
  refine WX.yaE Tryz.results153 (.tmp rfl (.tmp rfl .nil)) (fun w hw=>?_)
  exact ⟨none,0,y1Z rfl rfl,trivial,hw.sub (.cons .here .nil)⟩
 ·replace h:=yp h zt8
  refine WC.skip (WX.a (WC.b (WC.a (WL.nA 4 (yw (cs:=[(.int .i64 0)]) zwU rfl) ?_))))
  intro z2p _
  refine WL.nil (WX.a (WC.b (WC.a (WL.nA 5 (yw (cs:=[(.slice none 0 0)]) zof rfl) ?_))))
  intro z2f _
  refine WL.nil (WX.a (WC.b ?_))
  obtain ⟨zmV,zM7,h⟩:=z6 h
  refine WC.a (WL.pu rfl (WL.y4b (dd:=13) rfl rfl rfl (z8 Tryz.call169 (.cons rfl .nil)) .nil (ccz hz .nil .h2 fun w pz ho=>ydD _ _ _ _ _ zM7 w pz (zBk.mono (Zle.left _ _))) ?_))
  rintro zWI zWJ _
  refine WL.pu rfl (WL.nil (WX.a ?_))
  obtain ⟨zt7,zM8,h⟩:=y3W h
  refine WC.yea (fun (zk0 : Nat) (zaf : Int) (z8m : List z1) (zk1 : Zp) (zgV : Option Addr) (zgW : Nat)=>(zt7 zaf z8m = some r) ∧ (Zle (Z ++ []) (Z ++ zk1))) (fun (zk0 : Nat) (zaf : Int) (z8m : List z1) (zk1 : Zp) (zgV : Option Addr) (zgW : Nat)=>[(4,(.pointer (some ⟨z2p,0,none⟩))),(5,(.pointer (some ⟨z2f,0,none⟩)))]) (fun (zk0 : Nat) (zaf : Int) (z8m : List z1) (zk1 : Zp) (zgV : Option Addr) (zgW : Nat)=>[fz zk1,stb z2p 262 [(.int .i64 zaf)],stb z2f 175 [(.slice zgV z8m.length zgW)],row (.slice zgV z8m.length zgW) 132 2 (z8m.flatMap yu),dfr zk0]) ?_ ?_
  ·skip
   refine WC.b (WC.freezeS (ls:=zmV) .here .h2 hz (RR.flat (enc:=y1D) (fun _=>rfl) _) ?_)
   intro z5g zM9 zBn
   obtain ⟨zV,zMa,h⟩:=z6 h
   refine WC.a (WL.pu rfl (WL.pu rfl (WL.yfe (dd:=16) rfl rfl rfl (z8 Tryz.call170 (.r2 rfl rfl)) .nil (ccz hz .nil .here fun w pz ho=>ydg _ _ _ _ _ _ _ _ zMa w pz zBn zBn) ?_)))
   rintro z2J z2K z2T z2U z2V z2W ⟨zMb,zMc⟩
   refine WL.nil (WX.a (WC.block (WC.pool (WC.drop (.s6 .here .h3 .h3 .here .here .here) (WC.nilRow 132 2 (WC.rangeFunc (f:=184) (caps:=[(.pointer (some ⟨z2J,0,none⟩)),(.pointer (some ⟨z2K,0,none⟩))]) rfl Tryz.call184 ?_))))))
   intro zWK zWL z2X z4S z3s zmY zMd zMe w hw
   have hw1:=hw.selAll ((.s5 .h3 .h3 .h2 .h2 .here) : Sel _ [fz [],stb z2f 175 [(.slice none (([] : List z1).length) 0)],row (.slice none (([] : List z1).length) 0) 132 2 (([] : List z1).flatMap yu),stb z2p 262 [(.int .i64 0)],blk z2X (z3s .ready none)] _)
   have pz:=(hz.call2 hw1 ((.cons .here .nil) : Sel [y2c [fz [],stb z2f 175 [(.slice none (([] : List z1).length) 0)],row (.slice none (([] : List z1).length) 0) 132 2 (([] : List z1).flatMap yu),stb z2p 262 [(.int .i64 0)],blk z2X (z3s .ready none)],dfr z4S,stb z2J 173 [(.slice z2T zV.1.length z2U)],stb z2K 173 [(.slice z2V zV.2.length z2W)],fz z5g] [y2c [fz [],stb z2f 175 [(.slice none (([] : List z1).length) 0)],row (.slice none (([] : List z1).length) 0) 132 2 (([] : List z1).flatMap yu),stb z2p 262 [(.int .i64 0)],blk z2X (z3s .ready none)]] [dfr z4S,stb z2J 173 [(.slice z2T zV.1.length z2U)],stb z2K 173 [(.slice z2V zV.2.length z2W)],fz z5g]) .h3).lend hw1 ((.cons .here .nil) : Sel [y2c [fz [],stb z2f 175 [(.slice none (([] : List z1).length) 0)],row (.slice none (([] : List z1).length) 0) 132 2 (([] : List z1).flatMap yu),stb z2p 262 [(.int .i64 0)],blk z2X (z3s .ready none)],dfr z4S,stb z2J 173 [(.slice z2T zV.1.length z2U)],stb z2K 173 [(.slice z2V zV.2.length z2W)],fz z5g] [y2c [fz [],stb z2f 175 [(.slice none (([] : List z1).length) 0)],row (.slice none (([] : List z1).length) 0) 132 2 (([] : List z1).flatMap yu),stb z2p 262 [(.int .i64 0)],blk z2X (z3s .ready none)]] [dfr z4S,stb z2J 173 [(.slice z2T zV.1.length z2U)],stb z2K 173 [(.slice z2V zV.2.length z2W)],fz z5g]) (B:=[stb z2J 173 [(.slice z2T zV.1.length z2U)],stb z2K 173 [(.slice z2V zV.2.length z2W)]]) (fun _ hx'=>((.s2 .h1 .h1) : Sel _ [stb z2J 173 [(.slice z2T zV.1.length z2U)],stb z2K 173 [(.slice z2V zV.2.length z2W)]] _).mem hx')
   obtain ⟨z3r,zMf,h⟩:=z6 h
   refine Calls.mono (yca (Z:=_) (zed:=z2X) (z7O:=(Option Addr × Nat)) (z5B:=(fun (g : Option Addr × Nat) (s : Nat × List z1 × Int)=>y2c ([fz [],stb z2f 175 [(.slice g.1 s.2.1.length g.2)],row (.slice g.1 s.2.1.length g.2) 132 2 (s.2.1.flatMap yu),stb z2p 262 [(.int .i64 s.2.2)]] ++ [blk z2X (z3s (rdy (pcs [] s.1)) (pcs [] s.1))]))) (zaa:=(fun (g : Option Addr × Nat) (s : Nat × List z1 × Int)=>True)) (zee:=(none,0)) (zsF:=⟨z2J,0,none⟩) (zef:=z2T) (zeg:=z2U) (zeh:=⟨z2K,0,none⟩) (zmH:=z2V) (zmI:=z2W) (zC:=(Nat × List z1 × Int)) (z4t:=(fun (x : z2 × z2) (s : Nat × List z1 × Int)=>chk (s.1 = 0) (y1z x s.2.1 s.2.2))) (s0_32953:=(0,([] : List z1),0)) (z1i:=zV.1) (z1F:=zV.2) (r:=z3r) w pz ?_ trivial (zMb.mono (Zle.left _ _)) ((hw1.lent ((.cons .here .nil) : Sel [y2c [fz [],stb z2f 175 [(.slice none (([] : List z1).length) 0)],row (.slice none (([] : List z1).length) 0) 132 2 (([] : List z1).flatMap yu),stb z2p 262 [(.int .i64 0)],blk z2X (z3s .ready none)],dfr z4S,stb z2J 173 [(.slice z2T zV.1.length z2U)],stb z2K 173 [(.slice z2V zV.2.length z2W)],fz z5g] [y2c [fz [],stb z2f 175 [(.slice none (([] : List z1).length) 0)],row (.slice none (([] : List z1).length) 0) 132 2 (([] : List z1).flatMap yu),stb z2p 262 [(.int .i64 0)],blk z2X (z3s .ready none)]] [dfr z4S,stb z2J 173 [(.slice z2T zV.1.length z2U)],stb z2K 173 [(.slice z2V zV.2.length z2W)],fz z5g]) (B:=[stb z2J 173 [(.slice z2T zV.1.length z2U)],stb z2K 173 [(.slice z2V zV.2.length z2W)]]) (fun _ hx'=>((.s2 .h1 .h1) : Sel _ [stb z2J 173 [(.slice z2T zV.1.length z2U)],stb z2K 173 [(.slice z2V zV.2.length z2W)]] _).mem hx') (.head _) _).stb) (zMc.mono (Zle.left _ _)) ((hw1.lent ((.cons .here .nil) : Sel [y2c [fz [],stb z2f 175 [(.slice none (([] : List z1).length) 0)],row (.slice none (([] : List z1).length) 0) 132 2 (([] : List z1).flatMap yu),stb z2p 262 [(.int .i64 0)],blk z2X (z3s .ready none)],dfr z4S,stb z2J 173 [(.slice z2T zV.1.length z2U)],stb z2K 173 [(.slice z2V zV.2.length z2W)],fz z5g] [y2c [fz [],stb z2f 175 [(.slice none (([] : List z1).length) 0)],row (.slice none (([] : List z1).length) 0) 132 2 (([] : List z1).flatMap yu),stb z2p 262 [(.int .i64 0)],blk z2X (z3s .ready none)]] [dfr z4S,stb z2J 173 [(.slice z2T zV.1.length z2U)],stb z2K 173 [(.slice z2V zV.2.length z2W)],fz z5g]) (B:=[stb z2J 173 [(.slice z2T zV.1.length z2U)],stb z2K 173 [(.slice z2V zV.2.length z2W)]]) (fun _ hx'=>((.s2 .h1 .h1) : Sel _ [stb z2J 173 [(.slice z2T zV.1.length z2U)],stb z2K 173 [(.slice z2V zV.2.length z2W)]] _).mem hx') (.tail _ (.head _)) _).stb) zMf (hw1.owns ((.cons .here .nil) : Sel [y2c [fz [],stb z2f 175 [(.slice none (([] : List z1).length) 0)],row (.slice none (([] : List z1).length) 0) 132 2 (([] : List z1).flatMap yu),stb z2p 262 [(.int .i64 0)],blk z2X (z3s .ready none)],dfr z4S,stb z2J 173 [(.slice z2T zV.1.length z2U)],stb z2K 173 [(.slice z2V zV.2.length z2W)],fz z5g] [y2c [fz [],stb z2f 175 [(.slice none (([] : List z1).length) 0)],row (.slice none (([] : List z1).length) 0) 132 2 (([] : List z1).flatMap yu),stb z2p 262 [(.int .i64 0)],blk z2X (z3s .ready none)]] [dfr z4S,stb z2J 173 [(.slice z2T zV.1.length z2U)],stb z2K 173 [(.slice z2V zV.2.length z2W)],fz z5g]))) ?_
   ·skip
    refine yaD (LI:=(fun (g : Option Addr × Nat) (s : Nat × List z1 × Int)=>[fz [],stb z2f 175 [(.slice g.1 s.2.1.length g.2)],row (.slice g.1 s.2.1.length g.2) 132 2 (s.2.1.flatMap yu),stb z2p 262 [(.int .i64 s.2.2)]])) (pc:=(fun (s : Nat × List z1 × Int)=>pcs [] s.1)) zmY zMd zMe (fun _ _=>rfl) (by decide) ?_
    rintro z1x _ ⟨zgX,zgY⟩ ⟨zMg,z4v,zgU⟩ zMh zMi Fb wb zBo _ hz
    replace hz:=hz.left
    letI : Rnd:=inR z2X
    obtain ⟨hp0,z3t⟩:=yn zBo
    replace hp0 : zMg = 0:=hp0; subst hp0; clear zBo
    replace z3t : y1z z1x z4v zgU = some (zMh,zMi):=z3t
    unfold y1z at z3t
    refine WC.restr (env':=[(11,(.bool (!zt5))),(4,(.pointer (some ⟨z2p,0,none⟩))),(5,(.pointer (some ⟨z2f,0,none⟩))),(17,(.agg #[(.int .i64 z1x.1.fBurst.fN),(.int .i64 z1x.1.fBurst.fD),(.int .i64 z1x.1.fRate.fN),(.int .i64 z1x.1.fRate.fD)])),(18,(.agg #[(.int .i64 z1x.2.fBurst.fN),(.int .i64 z1x.2.fBurst.fD),(.int .i64 z1x.2.fRate.fN),(.int .i64 z1x.2.fRate.fD)]))]) (.r5 rfl rfl rfl rfl rfl) (WC.eqL (L':=[fz [],stb z2f 175 [(.slice zgX z4v.length zgY)],row (.slice zgX z4v.length zgY) 132 2 (z4v.flatMap yu),stb z2p 262 [(.int .i64 zgU)],blk z2X (z3s .ready none)]) rfl (WC.b (WC.a (WL.nA 7 (yw (cs:=[(.int .i64 0),(.int .i64 0),(.int .i64 0),(.int .i64 0)]) z9d rfl) ?_))))
    intro zMj _
    refine WL.yj rfl rfl (yl z82 rfl rfl rfl .here rfl rfl rfl) (WL.nil (WX.a (WC.a (WL.nA 8 (yw (cs:=[(.int .i64 0),(.int .i64 0),(.int .i64 0),(.int .i64 0)]) z9d rfl) ?_))))
    intro zMk _
    refine WL.yj rfl rfl (yl z82 rfl rfl rfl .here rfl rfl rfl) (WL.nil (WX.ybD zmY .h6 (WC.block (WC.b ?_))))
    obtain ⟨zBi,zMl,z3t⟩:=z6 z3t
    refine WC.a (WL.qA 19 (ya y4z rfl rfl) (WL.qA 20 (yT (cs:=[(.int .i64 z1x.1.fBurst.fN),(.int .i64 z1x.1.fBurst.fD)]) zb rfl rfl (y31 (s:=2) .h2 rfl)) (WL.qA 21 (ya y4z rfl rfl) (WL.qA 22 (yT (cs:=[(.int .i64 z1x.2.fBurst.fN),(.int .i64 z1x.2.fBurst.fD)]) zb rfl rfl (y31 (s:=2) .h1 rfl)) (WL.cA 23 (z8 Tryz.call79 (.r2 rfl rfl)) .nil (ccz hz .nil .h3 fun w pz ho=>y4d _ _ _ _ zMl w pz ) (WL.pu rfl (WL.nil (WX.a (WC.cond rfl (fun zt9=>?_) (fun zt9=>?_))))))))))
    ·replace z3t:=yo z3t zt9
     obtain ⟨zt3,zMm,z3t⟩:=z6 z3t
     obtain ⟨zt4,zMn,z3t⟩:=z6 z3t
     obtain ⟨z7P,zMo,z3t⟩:=z6 z3t
     obtain ⟨zMp,z3t⟩:=yn z3t
     refine WC.yO (fun i=>[5,10,11,13,14].contains i) [y71 z2f 175 [(0,(.slice zgX z4v.length zgY))],y71 zMj 171 [(2,(.int .i64 z1x.1.fRate.fN)),(3,(.int .i64 z1x.1.fRate.fD))],y71 zMk 171 [(2,(.int .i64 z1x.2.fRate.fN)),(3,(.int .i64 z1x.2.fRate.fD))]] rfl (WD.sA 0 25 rfl (Sin.wk (.s3 .h4 .h2 .h1) (.stb (.cons rfl .nil) (.stb (.cons rfl (.cons rfl .nil)) (.stb (.cons rfl (.cons rfl .nil)) .nil)))) (yc z7o rfl (y5e .here (.head _))) (WD.pA 1 26 rfl (fun _=>ya y4z rfl rfl) (WD.qA 2 27 rfl (yT (cs:=[(.int .i64 z1x.2.fBurst.fN),(.int .i64 z1x.2.fBurst.fD)]) zb rfl rfl (y31 (s:=2) .h1 rfl)) (WD.pA 3 28 rfl (fun _=>ya y4z rfl rfl) (WD.qA 4 29 rfl (yT (cs:=[(.int .i64 z1x.1.fBurst.fN),(.int .i64 z1x.1.fBurst.fD)]) zb rfl rfl (y31 (s:=2) .h2 rfl)) (WD.pA 6 31 rfl (fun _=>ya y5A rfl rfl) (WD.sA 7 32 rfl (Sin.wk (.s3 .h4 .h2 .h1) (.stb (.cons rfl .nil) (.stb (.cons rfl (.cons rfl .nil)) (.stb (.cons rfl (.cons rfl .nil)) .nil)))) (yT (cs:=[(.int .i64 z1x.1.fRate.fN),(.int .i64 z1x.1.fRate.fD)]) zb rfl rfl (ya3 .h1 ((.head _)) ((.tail _ (.head _))))) (WD.pA 8 33 rfl (fun _=>ya y5A rfl rfl) (WD.sA 9 34 rfl (Sin.wk (.s3 .h4 .h2 .h1) (.stb (.cons rfl .nil) (.stb (.cons rfl (.cons rfl .nil)) (.stb (.cons rfl (.cons rfl .nil)) .nil)))) (yT (cs:=[(.int .i64 z1x.2.fRate.fN),(.int .i64 z1x.2.fRate.fD)]) zb rfl rfl (ya3 .h2 ((.head _)) ((.tail _ (.head _))))) (WD.call0 (i:=5) (dd:=30) rfl (by kernel_rfl) rfl rfl rfl (.inl ⟨rfl,(Sin.wk (.s3 .h5 .h3 .h2) (.stb (.cons rfl .nil) (.stb (.cons rfl (.cons rfl .nil)) (.stb (.cons rfl (.cons rfl .nil)) .nil))))⟩) (z8 Tryz.call167 (.r4 rfl rfl rfl rfl)) (.cons .h6 .nil) (ccz hz (.cons .h6 .nil) .h3 fun w pz ho=>Calls.mono (y5q _ _ (z8k:=74) (zcc:=[]) _ (zab:=(fun (y0 : z1) (y1 : z1)=>y2b y0 y1)) _ _ _ zMm w pz Tryz.call74 (fun w' hz' y0 y1  r  hr=>y8d _ _ _ _ hr w' hz' ) ho) (fun _ _ h'=>⟨h'.1,trivial,h'.2⟩)) ?_))))))))))
     intro _
     refine WD.call0 (i:=10) (dd:=35) rfl (by kernel_rfl) rfl rfl rfl (.inl ⟨rfl,(Sin.wk (.s3 .h5 .h3 .h2) (.stb (.cons rfl .nil) (.stb (.cons rfl (.cons rfl .nil)) (.stb (.cons rfl (.cons rfl .nil)) .nil))))⟩) (z8 Tryz.call167 (.r4 rfl rfl rfl rfl)) (.cons .here .nil) (ccz hz (.cons .here .nil) .h3 fun w pz ho=>Calls.mono (y5q _ _ (z8k:=74) (zcc:=[]) _ (zab:=(fun (y0 : z1) (y1 : z1)=>y2b y0 y1)) _ _ _ zMn w pz Tryz.call74 (fun w' hz' y0 y1  r  hr=>y8d _ _ _ _ hr w' hz' ) ho) (fun _ _ h'=>⟨h'.1,trivial,h'.2⟩)) ?_
     intro _
     refine WD.call0 (i:=11) (dd:=36) rfl (by kernel_rfl) rfl rfl rfl (.inl ⟨rfl,(Sin.wk (.s3 .h5 .h3 .h2) (.stb (.cons rfl .nil) (.stb (.cons rfl (.cons rfl .nil)) (.stb (.cons rfl (.cons rfl .nil)) .nil))))⟩) (z8 Tryz.call167 (.r4 rfl rfl rfl rfl)) (.cons .here .nil) (ccz hz (.cons .here .nil) .h3 fun w pz ho=>Calls.mono (y5q _ _ (z8k:=75) (zcc:=[]) _ (zab:=(fun (y0 : z1) (y1 : z1)=>y3w y0 y1)) _ _ _ zMo w pz Tryz.call75 (fun w' hz' y0 y1  r  hr=>yd0 _ _ _ _ hr w' hz' ) ho) (fun _ _ h'=>⟨h'.1,trivial,h'.2⟩)) ?_
     intro _
     refine WD.new (i:=12) (dd:=37) rfl (by kernel_rfl) rfl rfl rfl (yN (cs:=([z7P.1] : List z1).flatMap yu) z1H (Eos.parts (l:=[.tmp 36]) (.cons rfl .nil) [0]) (fun _=>by kernel_rfl) rfl (by unfold maxLen; omega)) (fun h'=>absurd h' (by decide)) ?_
     intro zWM _
     refine WD.old (i:=13) (dd:=38) rfl (by kernel_rfl) rfl rfl rfl rfl (fun _=>(Sin.wk (.s3 .h7 .h5 .h4) (.stb (.cons rfl .nil) (.stb (.cons rfl (.cons rfl .nil)) (.stb (.cons rfl (.cons rfl .nil)) .nil))))) (y4S (enc:=yu) (l1:=z4v) (l2:=([z7P.1] : List z1)) z1H rfl rfl .h7 (fun _=>rfl) rfl rfl (y3C .here) (y5d yb7 _) zMp) ?_
     rintro ⟨zta,ztb⟩ _
     refine WD.y3l (i:=14) rfl (by kernel_rfl) rfl rfl rfl (by kernel_rfl) (yl zog rfl rfl rfl .h7 rfl rfl rfl) (WD.done (by kernel_rfl) (WX.yk ?_))
     obtain ⟨rfl,rfl⟩:=y9v z3t
     exact WX.y6L zmY .h4 (fun w' hw'=>⟨(zta,ztb),rfl,trivial,(hw'.selAll ((.s5 .h7 .h1 .h1 .h2 .here) : Sel _ [fz [],stb z2f 175 [(.slice zta ((z4v ++ ([z7P.1] : List z1)).length) ztb)],row (.slice zta ((z4v ++ ([z7P.1] : List z1)).length) ztb) 132 2 ((z4v ++ ([z7P.1] : List z1)).flatMap yu),stb z2p 262 [(.int .i64 z7P.2.fE)],blk z2X (z3s .ready none)] _)).sub (.cons .here .nil)⟩)
    ·replace z3t:=yp z3t zt9
     refine WC.skip (WX.yk ?_)
     obtain ⟨rfl,rfl⟩:=y9v z3t
     exact WX.y6L zmY .here (fun w' hw'=>⟨(zgX,zgY),rfl,trivial,(hw'.selAll ((.s5 .h3 .h3 .h3 .h3 .here) : Sel _ [fz [],stb z2f 175 [(.slice zgX z4v.length zgY)],row (.slice zgX z4v.length zgY) 132 2 (z4v.flatMap yu),stb z2p 262 [(.int .i64 zgU)],blk z2X (z3s .ready none)] _)).sub (.cons .here .nil)⟩)
   ·skip
    rintro _ w' ⟨⟨zk2,zk3⟩,rfl,_,hp⟩
    have hp1:=hw1.call ((.cons .here .nil) : Sel [y2c [fz [],stb z2f 175 [(.slice none (([] : List z1).length) 0)],row (.slice none (([] : List z1).length) 0) 132 2 (([] : List z1).flatMap yu),stb z2p 262 [(.int .i64 0)],blk z2X (z3s .ready none)],dfr z4S,stb z2J 173 [(.slice z2T zV.1.length z2U)],stb z2K 173 [(.slice z2V zV.2.length z2W)],fz z5g] [y2c [fz [],stb z2f 175 [(.slice none (([] : List z1).length) 0)],row (.slice none (([] : List z1).length) 0) 132 2 (([] : List z1).flatMap yu),stb z2p 262 [(.int .i64 0)],blk z2X (z3s .ready none)]] [dfr z4S,stb z2J 173 [(.slice z2T zV.1.length z2U)],stb z2K 173 [(.slice z2V zV.2.length z2W)],fz z5g]) hp
    have hp2 : Hp _ _ w' [fz [],stb z2f 175 [(.slice zk2 z3r.2.1.length zk3)],row (.slice zk2 z3r.2.1.length zk3) 132 2 (z3r.2.1.flatMap yu),stb z2p 262 [(.int .i64 z3r.2.2)],blk z2X (z3s (rdy (pcs [] z3r.1)) (pcs [] z3r.1)),dfr z4S,stb z2J 173 [(.slice z2T zV.1.length z2U)],stb z2K 173 [(.slice z2V zV.2.length z2W)],fz z5g]:=hp1.pickAll .here
    refine ⟨_,pcs [] z3r.1,_,rfl,(hp2.sub ((.s9 .h4 .here .here .here .here .here .here .here .here) : Sel _ [blk z2X (z3s (rdy (pcs [] z3r.1)) (pcs [] z3r.1)),fz [],stb z2f 175 [(.slice zk2 z3r.2.1.length zk3)],row (.slice zk2 z3r.2.1.length zk3) 132 2 (z3r.2.1.flatMap yu),stb z2p 262 [(.int .i64 z3r.2.2)],dfr z4S,stb z2J 173 [(.slice z2T zV.1.length z2U)],stb z2K 173 [(.slice z2V zV.2.length z2W)],fz z5g] _)),?_⟩
    clear hp hp1 hp2 pz hw hw1
    refine wjN ?_
    letI : Rnd:=aft z4S
    refine WX.merge .here .h6 (WX.yk ?_)
    exact WX.midR (D:=fun (g : Nat × Int × List z1 × Zp × Option Addr × Nat)=>g.1) (G:=Nat × Int × List z1 × Zp × Option Addr × Nat) ⟨z4S,z3r.2.2,z3r.2.1,(z5g ++ []),zk2,zk3⟩ ⟨h,(zM9.trans ((Zle.left _ _).trans (Zle.yU _ _ _)))⟩ (.r2 rfl rfl) (.s5 .here .h2 .here .here .here)
  ·rintro zk0 zaf z8m zk1 zgV zgW ⟨h,zWN⟩
   replace h:=(zM8 zaf z8m).symm.trans h
   letI : Rnd:=aft zk0
   refine WC.b (WC.b (WC.a (WL.qA 39 (ya y7X rfl rfl) (WL.qA 40 (yc y2Z rfl (ym .h1 rfl)) (WL.pu rfl (WL.nil (WX.a (WC.cond rfl (fun ztc=>?_) (fun ztc=>?_)))))))))
   ·replace h:=yo h ztc
    refine WC.b (WC.yO (fun i=>[].contains i) [] rfl (WD.pA 0 42 rfl (fun _=>ya y7X rfl rfl) (WD.qA 1 43 rfl (yc y2Z rfl (ym .h1 rfl)) (WD.pA 2 2 rfl (fun _=>q_z rfl) (WD.pA 3 3 rfl (fun _=>q_z rfl) (WD.done (by kernel_rfl) (WX.a (WC.ret (WX.yd (WX.nilRow 132 2 ?_))))))))))
    obtain rfl:=Option.some.inj h
    refine WX.y7p .h5 Tryz.results153 (.tmp rfl (.tmp rfl .nil)) (fun w hw=>?_)
    exact ⟨none,0,y1Z rfl rfl,trivial,hw.sub (.cons .h1 .nil)⟩
   ·replace h:=yp h ztc
    refine WC.skip (WX.a (WC.b ?_))
    obtain ⟨zt6,zMq,h⟩:=z6 h
    refine WC.a (WL.qA 44 (yc z7o rfl (ym .h2 rfl)) (WL.y4R (dd:=45) rfl rfl rfl (z8 Tryz.call171 (.r2 rfl rfl)) (.cons .h3 .nil) (ccz hz (.cons .h3 .nil) .here fun w pz ho=>y7a _ _ _ (zgP:=79) (zmO:=[]) _ (zgO:=(fun (y0 : z1) (y1 : z1)=>y1i y0 y1)) _ zMq w pz Tryz.call79 (fun w' hz' y0 y1  r  hr=>y4d _ _ _ _ hr w' hz' ) ho) ?_))
    rintro  zMr
    refine WL.restb (cs':=[(.slice zgV zt6.length zgW)]) .h3 (by rw [zMr]) (WL.nil (WX.a (WC.b ?_)))
    obtain ⟨zBj,zMs,h⟩:=z6 h
    refine WC.a (WL.qA 46 (yc z7o rfl (ym .here rfl)) (WL.y4b (dd:=47) rfl rfl rfl (z8 Tryz.call172 (.cons rfl .nil)) (.cons .h1 .nil) (ccz hz (.cons .h1 .nil) .h1 fun w pz ho=>y7j _ _ _ _ _ zMs w pz  ho) ?_))
    rintro zMt zMu _
    refine WL.pu rfl (WL.pu rfl (WL.nil (WX.a (WC.ret ?_))))
    obtain rfl:=Option.some.inj h
    refine WX.y7p .h4 Tryz.results153 (.tmp rfl (.tmp rfl .nil)) (fun w hw=>?_)
    exact ⟨zMt,zMu,y1Z rfl rfl,trivial,hw.sub (.cons .h1 .nil)⟩
def y3h (z68 : z2) (z69 : z2) : Option Int :=
 (y1i z68.fRate z69.fRate).bind fun zBp=>some zBp
theorem ycE (Z : Zp)  (z68 : z2) (z69 : z2) (r : Int)
  (h : y3h z68 z69 = some r) (w₀ : World) (hz : PZ [] w₀ Z) :
  Calls Tryz.prog 174 #[(.agg #[(.int .i64 z68.fBurst.fN),(.int .i64 z68.fBurst.fD),(.int .i64 z68.fRate.fN),(.int .i64 z68.fRate.fD)]),(.agg #[(.int .i64 z69.fBurst.fN),(.int .i64 z69.fBurst.fD),(.int .i64 z69.fRate.fN),(.int .i64 z69.fRate.fD)])] w₀ fun e w'=>e = .returned (.int .i64 r) ∧ Hp [] w₀ w' []:=by
 unfold y3h at h
 refine Calls.yJ Tryz.func174 Tryz.ntmps174 ?_
 refine WC.b (WC.a (WL.nA 2 (yH (cs:=[(.int .i64 z68.fBurst.fN),(.int .i64 z68.fBurst.fD),(.int .i64 z68.fRate.fN),(.int .i64 z68.fRate.fD)]) rfl rfl) ?_))
 intro zWO _
 refine WL.nA 3 (yH (cs:=[(.int .i64 z69.fBurst.fN),(.int .i64 z69.fBurst.fD),(.int .i64 z69.fRate.fN),(.int .i64 z69.fRate.fD)]) rfl rfl) ?_
 intro zWP _
 refine WL.pu rfl (WL.nil (WX.a (WC.b ?_)))
 obtain ⟨zBp,zMv,h⟩:=z6 h
 refine WC.a (WL.qA 5 (ya y5A rfl rfl) (WL.qA 6 (yT (cs:=[(.int .i64 z68.fRate.fN),(.int .i64 z68.fRate.fD)]) zb rfl rfl (y31 (s:=2) .h1 rfl)) (WL.qA 7 (ya y5A rfl rfl) (WL.qA 8 (yT (cs:=[(.int .i64 z69.fRate.fN),(.int .i64 z69.fRate.fD)]) zb rfl rfl (y31 (s:=2) .here rfl)) (WL.cA 9 (z8 Tryz.call79 (.r2 rfl rfl)) .nil (cc hz .nil fun w pz ho=>y4d _ _ _ _ zMv w pz ) (WL.pu rfl (WL.nil (WX.a (WC.ret ?_)))))))))
 obtain rfl:=Option.some.inj h
 refine WX.ye Tryz.results174 (.tmp rfl .nil) (fun w hw=>?_)
 exact ⟨yC rfl,hw.sub .nil⟩
def y10 (z13 : List z2) (z7Q : z2 → z2 → Option Int) (zag : Int → Int → Int → Int → Option z2) : Nat → Int → Int → Int → Int → Int → Option z2
 | 0,_,_,_,_,_=>none
 | ztd + 1,z1v,z5h,z5i,z5j,z5k=>if decide (z1v < ((z13.length : Nat) : Int)) then jp4 (fun (zah : Int) (zai : Int) (zaj : Int) (zak : Int)=>y10 z13 z7Q zag ztd (i64 (z1v + 1)) zah zai zaj zak) fun zmZ=>chk ((0 : Int) ≤ z1v ∧ z1v < ((z13.length : Nat) : Int)) ((z7Q (⟨(⟨(((nth z13 z1v).fBurst).fN),(((nth z13 z1v).fBurst).fD)⟩ : z1),(⟨(((nth z13 z1v).fRate).fN),(((nth z13 z1v).fRate).fD)⟩ : z1)⟩ : z2) (⟨(⟨z5h,z5i⟩ : z1),(⟨z5j,z5k⟩ : z1)⟩ : z2)).bind fun zte=>if decide (zte < 0) then chk ((0 : Int) ≤ z1v ∧ z1v < ((z13.length : Nat) : Int)) (zmZ (((nth z13 z1v).fBurst).fN) (((nth z13 z1v).fBurst).fD) (((nth z13 z1v).fRate).fN) (((nth z13 z1v).fRate).fD)) else zmZ z5h z5i z5j z5k) else zag z5h z5i z5j z5k
theorem y5r {n : Nat} {z13 : List z2} {z7Q : z2 → z2 → Option Int} {zag : Int → Int → Int → Int → Option z2} {z1v : Int} {z5h : Int} {z5i : Int} {z5j : Int} {z5k : Int} {r : z2} (h : y10 z13 z7Q zag n z1v z5h z5i z5j z5k = some r) : ∃ m,n = m + 1:=by
 cases n with
 | zero=>cases h
 | succ m=>exact ⟨m,rfl⟩
def y1J (z13 : List z2) (z7Q : z2 → z2 → Option Int) : Option z2 :=
 if decide (((z13.length : Nat) : Int) < 1) then none else chk ((0 : Int) ≤ 0 ∧ 0 < ((z13.length : Nat) : Int)) (jp4 (fun (zch : Int) (zci : Int) (zcj : Int) (zck : Int)=>some (⟨(⟨zch,zci⟩ : z1),(⟨zcj,zck⟩ : z1)⟩ : z2)) fun zag=>y10 z13 z7Q zag yz 1 (((nth z13 0).fBurst).fN) (((nth z13 0).fBurst).fD) (((nth z13 0).fRate).fN) (((nth z13 0).fRate).fD))
theorem y6r (Z : Zp) (zn0 : Option Addr) (zn1 : Nat) (zcl : FuncId) (zgZ : List Value) (z13 : List z2) (z7Q : z2 → z2 → Option Int) (r : z2)
  (h : y1J z13 z7Q = some r) (w₀ : World) (hz : PZ [] w₀ Z)
  (ztf : ZS Z 4 (fun r x=>r = y1D x) zn0 zn1 z13)
  (zMw : ∀ args w,(callFunc zcl args).run Tryz.prog w = .ok (.enter zcl args) w)
  (zMx : ∀ w : World,PZ [] w Z → ∀ (x0 : z2) (x1 : z2) (r : Int),z7Q x0 x1 = some r → Calls Tryz.prog zcl (([(.agg #[(.int .i64 x0.fBurst.fN),(.int .i64 x0.fBurst.fD),(.int .i64 x0.fRate.fN),(.int .i64 x0.fRate.fD)]),(.agg #[(.int .i64 x1.fBurst.fN),(.int .i64 x1.fBurst.fD),(.int .i64 x1.fRate.fN),(.int .i64 x1.fRate.fD)])] : List Value) ++ zgZ).toArray w fun e w'=>e = .returned (.int .i64 r) ∧ Hp [] w w' []) :
  Calls Tryz.prog 173 #[(.slice zn0 z13.length zn1),(.func (.func zcl) #[] (zgZ).toArray)] w₀ fun e w'=>e = .returned (.agg #[(.int .i64 r.fBurst.fN),(.int .i64 r.fBurst.fD),(.int .i64 r.fRate.fN),(.int .i64 r.fRate.fD)]) ∧ Hp [] w₀ w' []:=by
 unfold y1J at h
 refine Calls.yJ Tryz.func173 Tryz.ntmps173 ?_
 refine WC.b (WC.a (WL.nA 4 (yw (cs:=[(.int .i64 0),(.int .i64 0),(.int .i64 0),(.int .i64 0)]) z9d rfl) ?_))
 intro zh0 _
 refine WL.nil (WX.a (WC.b (WC.b (WC.a (WL.pu rfl (WL.qA 8 (yG Tryz.underlying173 rfl) (WL.pu rfl (WL.nil (WX.a (WC.cond rfl (fun ztg=>?_) (fun ztg=>?_)))))))))))
 ·replace h:=yo h ztg
  cases h
 ·replace h:=yp h ztg
  refine WC.skip (WX.a (WC.b ?_))
  obtain ⟨zMy,h⟩:=yn h
  refine WC.a (WL.pu rfl (WL.znth (dd:=12) rfl rfl (Z:=Z) (Pr:=(fun r x=>r = y1D x)) z5U rfl rfl ztf zMy ?_))
  rintro zWQ zWR zMz zWS rfl
  refine WL.qA 13 (yf z28 rfl (y2v hz.pv zMz) rfl) (WL.nA 5 (yw (cs:=[(.int .i64 0),(.int .i64 0),(.int .i64 0),(.int .i64 0)]) z9d rfl) ?_)
  intro zh1 _
  refine WL.yj rfl rfl (yl z82 rfl rfl rfl .here rfl rfl rfl) (WL.nil (WX.a ?_))
  obtain ⟨zag,zMA,h⟩:=ybB h
  refine WC.y8t (fun (zch : Int) (zci : Int) (zcj : Int) (zck : Int)=>(zag zch zci zcj zck = some r)) (fun zch zci zcj zck=>[(4,(.pointer (some ⟨zh0,0,none⟩))),(5,(.pointer (some ⟨zh1,0,none⟩)))]) (fun zch zci zcj zck=>[stb zh0 171 [(.int .i64 0),(.int .i64 0),(.int .i64 0),(.int .i64 0)],stb zh1 171 [(.int .i64 zch),(.int .i64 zci),(.int .i64 zcj),(.int .i64 zck)]]) ?_ ?_
  ·skip
   refine WC.b (WC.a (WL.pu rfl (WL.nil (WX.a (WC.block (WC.ybA (fun (zh2 : Nat) (z1v : Int) (z5h : Int) (z5i : Int) (z5j : Int) (z5k : Int)=>(y10 z13 z7Q zag zh2 z1v z5h z5i z5j z5k = some r)) (fun zh2 z1v z5h z5i z5j z5k=>[(0,(.slice zn0 z13.length zn1)),(1,(.func (.func zcl) #[] (zgZ).toArray)),(4,(.pointer (some ⟨zh0,0,none⟩))),(5,(.pointer (some ⟨zh1,0,none⟩))),(6,(.int .i64 z1v))]) (fun zh2 z1v z5h z5i z5j z5k=>[stb zh0 171 [(.int .i64 0),(.int .i64 0),(.int .i64 0),(.int .i64 0)],stb zh1 171 [(.int .i64 z5h),(.int .i64 z5i),(.int .i64 z5j),(.int .i64 z5k)]]) (fun zh2 z1v z5h z5i z5j z5k=>zh2) ⟨yz,1,(((nth z13 0).fBurst).fN),(((nth z13 0).fBurst).fD),(((nth z13 0).fRate).fN),(((nth z13 0).fRate).fD)⟩ h (.r5 rfl rfl rfl rfl rfl) (.s2 .h1 .here) ?_))))))
   rintro zh2 z1v z5h z5i z5j z5k h
   obtain ⟨ztd,rfl⟩:=y5r h
   rw [y10] at h
   refine WC.b (WC.b (WC.a (WL.pu rfl (WL.pu rfl (WL.qA 16 (yG Tryz.underlying173 rfl) (WL.pu rfl (WL.nil (WX.a (WC.cond rfl (fun zth=>?_) (fun zth=>?_))))))))))
   ·replace h:=yo h zth
    refine WC.skip (WX.a ?_)
    obtain ⟨zmZ,zMB,h⟩:=ybB h
    refine WC.y8t (fun (zah : Int) (zai : Int) (zaj : Int) (zak : Int)=>(zmZ zah zai zaj zak = some r)) (fun zah zai zaj zak=>[(0,(.slice zn0 z13.length zn1)),(1,(.func (.func zcl) #[] (zgZ).toArray)),(4,(.pointer (some ⟨zh0,0,none⟩))),(5,(.pointer (some ⟨zh1,0,none⟩))),(6,(.int .i64 z1v))]) (fun zah zai zaj zak=>[stb zh0 171 [(.int .i64 0),(.int .i64 0),(.int .i64 0),(.int .i64 0)],stb zh1 171 [(.int .i64 zah),(.int .i64 zai),(.int .i64 zaj),(.int .i64 zak)]]) ?_ ?_
    ·skip
     refine WC.block (WC.b ?_)
     obtain ⟨zMC,h⟩:=yn h
     obtain ⟨zte,zMD,h⟩:=z6 h
     refine WC.yO (fun i=>[].contains i) [] rfl (WD.pA 0 20 rfl (fun _=>q_m rfl) (WD.pA 1 21 rfl (fun _=>q_m rfl) (WD.pA 2 22 rfl (fun _=>q_m rfl) (WD.znth (j:=3) (dd:=23) (by kernel_rfl) rfl z2j z2k rfl rfl (Z:=Z) (Pr:=(fun r x=>r = y1D x)) z5U rfl rfl ztf zMC ?_))))
     rintro zWT zWU zME zWV rfl
     refine WD.qA 4 24 rfl (yf z28 rfl (y2v hz.pv zME) rfl) (WD.qA 5 25 rfl (yf z28 rfl (yh .h1) rfl) (WD.eA 6 26 rfl (y2t (l:=[.tmp 24,.tmp 25]) (f:=zcl) (caps:=zgZ) zMw rfl (.r2 rfl rfl)) (fun w hw=>zMx w (hz.now hw) (⟨(⟨(((nth z13 z1v).fBurst).fN),(((nth z13 z1v).fBurst).fD)⟩ : z1),(⟨(((nth z13 z1v).fRate).fN),(((nth z13 z1v).fRate).fD)⟩ : z1)⟩ : z2) (⟨(⟨z5h,z5i⟩ : z1),(⟨z5j,z5k⟩ : z1)⟩ : z2) zte  zMD) (WD.pA 7 27 rfl (fun _=>q_lss rfl rfl) (WD.done (by kernel_rfl) (WX.a (WC.cond rfl (fun zti=>?_) (fun zti=>?_)))))))
     ·replace h:=yo h zti
      obtain ⟨zMF,h⟩:=yn h
      refine WC.a (WL.pu rfl (WL.pu rfl (WL.znth (dd:=30) rfl rfl (Z:=Z) (Pr:=(fun r x=>r = y1D x)) z5U rfl rfl ztf zMF ?_)))
      rintro zWW zWX zMG zWY rfl
      refine WL.qA 31 (yf z28 rfl (y2v hz.pv zMG) rfl) (WL.yj rfl rfl (yl z82 rfl rfl rfl .h1 rfl rfl rfl) (WL.nil (WX.yk ?_)))
      exact WX.mid ⟨(((nth z13 z1v).fBurst).fN),(((nth z13 z1v).fBurst).fD),(((nth z13 z1v).fRate).fN),(((nth z13 z1v).fRate).fD)⟩ h (.r5 rfl rfl rfl rfl rfl) (.s2 .h1 .here)
     ·replace h:=yp h zti
      refine WC.skip (WX.yk ?_)
      exact WX.mid ⟨z5h,z5i,z5j,z5k⟩ h (.r5 rfl rfl rfl rfl rfl) (.s2 .here .here)
    ·rintro zah zai zaj zak h
     replace h:=(zMB zah zai zaj zak).symm.trans h
     refine WC.a (WL.pu rfl (WL.pu rfl (WL.pu rfl (WL.nil ?_))))
     exact WX.round ⟨ztd,(i64 (z1v + 1)),zah,zai,zaj,zak⟩ h (Nat.lt_succ_self _) (.r5 rfl rfl rfl rfl rfl) (.s2 .here .here)
   ·replace h:=yp h zth
    refine WC.exit (WX.yg (WX.yg (WX.yA ?_)))
    exact WX.mid ⟨z5h,z5i,z5j,z5k⟩ h (.r2 rfl rfl) (.s2 .here .here)
  ·rintro zch zci zcj zck h
   replace h:=(zMA zch zci zcj zck).symm.trans h
   refine WC.b (WC.a (WL.qA 32 (yf z28 rfl (yh .h1) rfl) (WL.yj rfl rfl (yl z82 rfl rfl rfl .here rfl rfl rfl) (WL.nil (WX.a (WC.ret ?_))))))
   obtain rfl:=Option.some.inj h
   refine WX.ye Tryz.results173 (.agg rfl z28 rfl (yh .here) .nil) (fun w hw=>?_)
   exact ⟨yC rfl,hw.sub .nil⟩
def y4s (zh3 : List z2) : Option (z1 × Int) :=
 (y4c zh3).bind fun zBq=>if !zBq then some ((⟨0,0⟩ : z1),2) else (y1J zh3 (fun (y0 : z2) (y1 : z2)=>y3h y0 y1)).bind fun zn2=>some (zn2.fRate,0)
theorem yaR (Z : Zp) (zBr : Option Addr) (zBs : Nat) (zh3 : List z2) (r : z1 × Int)
  (h : y4s zh3 = some r) (w₀ : World) (hz : PZ [] w₀ Z)
  (zBt : ZS Z 4 (fun r x=>r = y1D x) zBr zBs zh3) :
  Calls Tryz.prog 154 #[(.slice zBr zh3.length zBs)] w₀ fun e w'=>e = .returned (.tuple #[(.agg #[(.int .i64 r.1.fN),(.int .i64 r.1.fD)]),(.int .i64 r.2)]) ∧ Hp [] w₀ w' []:=by
 unfold y4s at h
 refine Calls.on1 Tryz.func154 Tryz.ntmps154 ?_
 refine WC.b (WC.a (WL.nA 2 (yw (cs:=[(.int .i64 0),(.int .i64 0)]) zH rfl) ?_))
 intro zWZ _
 refine WL.pu rfl (WL.nil (WX.a (WC.b (WC.b ?_))))
 obtain ⟨zBq,zMH,h⟩:=z6 h
 refine WC.a (WL.pu rfl (WL.cA 5 (z8 Tryz.call146 (.cons rfl .nil)) .nil (cc hz .nil fun w pz ho=>y7d _ _ _ _ _ zMH w pz zBt) (WL.pu rfl (WL.nil (WX.a (WC.cond rfl (fun ztj=>?_) (fun ztj=>?_)))))))
 ·replace h:=yo h ztj
  refine WC.b (WC.a (WL.qA 7 (yI (v:=(.agg #[(.int .i64 0),(.int .i64 0)])) (Eos.parts (l:=[]) .nil []) (fun _=>by kernel_rfl)) (WL.yj rfl rfl (yl zq rfl rfl rfl .here rfl rfl rfl) (WL.pu rfl (WL.nil (WX.a (WC.ret (WX.yd ?_))))))))
  obtain rfl:=Option.some.inj h
  refine WX.ye Tryz.results154 (.agg rfl zb rfl (yh .here) (.tmp rfl .nil)) (fun w hw=>?_)
  exact ⟨y1Z rfl rfl,hw.sub .nil⟩
 ·replace h:=yp h ztj
  refine WC.skip (WX.a (WC.b ?_))
  obtain ⟨zn2,zMI,h⟩:=z6 h
  refine WC.a (WL.pu rfl (WL.cA 9 (z8 Tryz.call173 (.r2 rfl rfl)) .nil (cc hz .nil fun w pz ho=>y6r _ _ _ (zcl:=174) (zgZ:=[]) _ (z7Q:=(fun (y0 : z2) (y1 : z2)=>y3h y0 y1)) _ zMI w pz zBt Tryz.call174 (fun w' hz' y0 y1  r  hr=>ycE _ _ _ _ hr w' hz' )) (WL.qA 10 (q_fieldA (cs':=#[(.int .i64 zn2.fRate.fN),(.int .i64 zn2.fRate.fD)]) yeV zb rfl rfl) (WL.yj rfl rfl (yl zq rfl rfl rfl .here rfl rfl rfl) (WL.pu rfl (WL.nil (WX.a (WC.ret ?_))))))))
  obtain rfl:=Option.some.inj h
  refine WX.ye Tryz.results154 (.agg rfl zb rfl (yh .here) (.tmp rfl .nil)) (fun w hw=>?_)
  exact ⟨y1Z rfl rfl,hw.sub .nil⟩
def y12 (zcm : z18) (z6a : z1 → z1 → Option (z1 × Int)) (zcn : z1) (zco : z1) : Option (z1 × z18) :=
 if decide (zcm.fE ≠ 0) then (y2E).bind fun zBu=>some (zBu,zcm) else (z6a zcn zco).bind fun zh4=>if decide (zh4.2 ≠ 0) then (y2E).bind fun zBv=>some (zBv,(⟨zh4.2⟩ : z18)) else some (zh4.1,(⟨zh4.2⟩ : z18))
theorem y2l (Z : Zp) (zh5 : Nat) (z5C : FuncId) (z6P : List Value) (zcm : z18) (z6a : z1 → z1 → Option (z1 × Int)) (zcn : z1) (zco : z1) (r : z1 × z18)
  (h : y12 zcm z6a zcn zco = some r) (w₀ : World) (hz : PZ (fps [stb zh5 225 [(.int .i64 zcm.fE)]]) w₀ Z)
  (zMJ : ∀ args w,(callFunc z5C args).run Tryz.prog w = .ok (.enter z5C args) w)
  (zMK : ∀ w : World,PZ [] w Z → ∀ (x0 : z1) (x1 : z1) (r : z1 × Int),z6a x0 x1 = some r → Calls Tryz.prog z5C (([(.agg #[(.int .i64 x0.fN),(.int .i64 x0.fD)]),(.agg #[(.int .i64 x1.fN),(.int .i64 x1.fD)])] : List Value) ++ z6P).toArray w fun e w'=>e = .returned (.tuple #[(.agg #[(.int .i64 r.1.fN),(.int .i64 r.1.fD)]),(.int .i64 r.2)]) ∧ Hp [] w w' [])
  (hown : Hp (fps [stb zh5 225 [(.int .i64 zcm.fE)]]) w₀ w₀ [stb zh5 225 [(.int .i64 zcm.fE)]]) :
  Calls Tryz.prog 73 #[(.pointer (some ⟨zh5,0,none⟩)),(.func (.func z5C) #[] (z6P).toArray),(.agg #[(.int .i64 zcn.fN),(.int .i64 zcn.fD)]),(.agg #[(.int .i64 zco.fN),(.int .i64 zco.fD)])] w₀ fun e w'=>e = .returned (.agg #[(.int .i64 r.1.fN),(.int .i64 r.1.fD)]) ∧ Hp (fps [stb zh5 225 [(.int .i64 zcm.fE)]]) w₀ w' [stb zh5 225 [(.int .i64 r.2.fE)]]:=by
 unfold y12 at h
 refine Calls.oh4 Tryz.func73 Tryz.ntmps73 hown ?_
 refine WC.b (WC.a (WL.nA 6 (yH (cs:=[(.int .i64 zcn.fN),(.int .i64 zcn.fD)]) rfl rfl) ?_))
 intro zX0 _
 refine WL.nA 7 (yH (cs:=[(.int .i64 zco.fN),(.int .i64 zco.fD)]) rfl rfl) ?_
 intro zX1 _
 refine WL.nA 8 (yw (cs:=[(.int .i64 0),(.int .i64 0)]) zH rfl) ?_
 intro zX2 _
 refine WL.nil (WX.a (WC.b (WC.b (WC.a (WL.pu rfl (WL.qA 12 (y13 rfl) (WL.qA 13 (ya y4A rfl rfl) (WL.qA 14 (yc y2Z rfl (ym .h3 rfl)) (WL.pu rfl (WL.nil (WX.a (WC.cond rfl (fun ztk=>?_) (fun ztk=>?_)))))))))))))
 ·replace h:=yo h ztk
  refine WC.b ?_
  obtain ⟨zBu,zML,h⟩:=z6 h
  refine WC.a (WL.cA 16 (z8 Tryz.call107 .nil) .nil (cc hz .nil fun w pz ho=>y41 _ _ zML w pz ) (WL.yj rfl rfl (yl zq rfl rfl rfl .here rfl rfl rfl) (WL.nil (WX.a (WC.ret (WX.yd ?_))))))
  obtain rfl:=Option.some.inj h
  refine WX.ye Tryz.results73 (.agg rfl zb rfl (yh .here) .nil) (fun w hw=>?_)
  exact ⟨yC rfl,hw.sub (.cons .h3 .nil)⟩
 ·replace h:=yp h ztk
  refine WC.skip (WX.a (WC.b ?_))
  obtain ⟨zh4,zMM,h⟩:=z6 h
  refine WC.a (WL.pu rfl (WL.qA 19 (yf zb rfl (yh .h2) rfl) (WL.qA 20 (yf zb rfl (yh .h1) rfl) (WL.cA 21 (y2t (l:=[.tmp 19,.tmp 20]) (f:=z5C) (caps:=z6P) zMJ rfl (.r2 rfl rfl)) .nil (fun w hw=>zMK w (hz.now hw) zcn zco zh4  zMM) (WL.pu rfl (WL.pu rfl (WL.pu rfl (WL.nA 9 (yw (cs:=[(.int .i64 0),(.int .i64 0)]) zH rfl) ?_))))))))
  intro zX3 _
  refine WL.yj rfl rfl (yl zq rfl rfl rfl .here rfl rfl rfl) (WL.pu rfl (WL.nil (WX.a (WC.b (WC.b (WC.a (WL.pu rfl (WL.pu rfl (WL.qA 26 (y13 rfl) (WL.qA 27 (ya y4A rfl rfl) (WL.yj rfl rfl (yl y9D rfl rfl rfl .h4 rfl rfl rfl) (WL.nil (WX.a (WC.b (WC.a (WL.pu rfl (WL.pu rfl (WL.nil (WX.a (WC.cond rfl (fun ztl=>?_) (fun ztl=>?_)))))))))))))))))))))
  ·replace h:=yo h ztl
   refine WC.b ?_
   obtain ⟨zBv,zMN,h⟩:=z6 h
   refine WC.a (WL.cA 30 (z8 Tryz.call107 .nil) .nil (cc hz .nil fun w pz ho=>y41 _ _ zMN w pz ) (WL.yj rfl rfl (yl zq rfl rfl rfl .h2 rfl rfl rfl) (WL.nil (WX.a (WC.ret (WX.yd ?_))))))
   obtain rfl:=Option.some.inj h
   refine WX.ye Tryz.results73 (.agg rfl zb rfl (yh .here) .nil) (fun w hw=>?_)
   exact ⟨yC rfl,hw.sub (.cons .h1 .nil)⟩
  ·replace h:=yp h ztl
   refine WC.skip (WX.a (WC.b (WC.a (WL.qA 31 (yf zb rfl (yh .h1) rfl) (WL.yj rfl rfl (yl zq rfl rfl rfl .h2 rfl rfl rfl) (WL.nil (WX.a (WC.ret ?_))))))))
   obtain rfl:=Option.some.inj h
   refine WX.ye Tryz.results73 (.agg rfl zb rfl (yh .here) .nil) (fun w hw=>?_)
   exact ⟨yC rfl,hw.sub (.cons .h1 .nil)⟩
def y1U (z2Y : List (List z2)) (zal : Int → Int → Int → Option Int) : Nat → Int → Int → Int → Int → Option Int
 | 0,_,_,_,_=>none
 | ztm + 1,z4T,z6Q,z6R,z6S=>if decide (z4T < ((z2Y.length : Nat) : Int)) then chk ((0 : Int) ≤ z4T ∧ z4T < ((z2Y.length : Nat) : Int)) ((y1S (nth z2Y z4T)).bind fun ztn=>if decide (ztn.2 ≠ 0) then some ztn.2 else (y4s (nth z2Y z4T)).bind fun zBw=>(y12 (⟨z6Q⟩ : z18) (fun (y0 : z1) (y1 : z1)=>y1c y0 y1) (⟨z6R,z6S⟩ : z1) zBw.1).bind fun zes=>y1U z2Y zal ztm (i64 (z4T + 1)) zes.2.fE zes.1.fN zes.1.fD) else zal z6Q z6R z6S
theorem y7w {n : Nat} {z2Y : List (List z2)} {zal : Int → Int → Int → Option Int} {z4T : Int} {z6Q : Int} {z6R : Int} {z6S : Int} {r : Int} (h : y1U z2Y zal n z4T z6Q z6R z6S = some r) : ∃ m,n = m + 1:=by
 cases n with
 | zero=>cases h
 | succ m=>exact ⟨m,rfl⟩
def y3k (z2Y : List (List z2)) (z1T : zSv) (zn3 : List (List z2)) (zh6 : zSv) (zet : List z1) : Option Int :=
 (if decide (((z2Y.length : Nat) : Int) > 32) then some true else (y16 z2Y (fun (y0 : List z2)=>y1q y0)).bind fun zBx=>some zBx).bind fun zto=>(if zto then some true else (y4k z1T).bind fun zBy=>some (!zBy)).bind fun ztp=>if ztp then some 2 else (y2E).bind fun zk4=>jp3 (fun (zam : Int) (zcp : Int) (zcq : Int)=>(if decide (zam = 0) then (y1i (⟨zcp,zcq⟩ : z1) z1T.fRate).bind fun zBz=>some (decide (zBz > 0)) else some false).bind fun ztq=>if ztq then some 6 else some zam) fun zal=>y1U z2Y zal yz 0 0 zk4.fN zk4.fD
theorem y96 (Z : Zp) (zh7 : Option Addr) (zh8 : Nat) (zk5 : Addr) (zBA : Option Addr) (zBB : Nat) (zk6 : Addr) (zk7 : Option Addr) (zk8 : Nat) (z2Y : List (List z2)) (z1T : zSv) (zn3 : List (List z2)) (zh6 : zSv) (zet : List z1) (r : Int)
  (h : y3k z2Y z1T zn3 zh6 zet = some r) (w₀ : World) (hz : PZ [] w₀ Z)
  (zBC : ZS Z 1 (y1T Z) zh7 zh8 z2Y)
  (zX4 : ZS Z 1 (y1T Z) zBA zBB zn3)
  (zX5 : ZC Z zk5 [(.slice zBA zn3.length zBB)])
  (zX6 : ZC Z zk6 [(.int .i64 zh6.fRate.fN),(.int .i64 zh6.fRate.fD),(.int .i64 zh6.fL.fN),(.int .i64 zh6.fL.fD)])
  (zX7 : ZS Z 2 (fun r x=>r = yu x) zk7 zk8 zet) :
  Calls Tryz.prog 109 #[(.agg #[(.slice zh7 z2Y.length zh8),(.int .i64 z1T.fRate.fN),(.int .i64 z1T.fRate.fD),(.int .i64 z1T.fL.fN),(.int .i64 z1T.fL.fD),(.func (.func 72) #[] #[(.pointer (some zk5)),(.pointer (some zk6))]),(.slice zk7 zet.length zk8)])] w₀ fun e w'=>e = .returned (.int .i64 r) ∧ Hp [] w₀ w' []:=by
 unfold y3k at h
 refine Calls.on1 Tryz.func109 Tryz.ntmps109 ?_
 refine WC.b (WC.a (WL.nA 1 (yH (cs:=[(.slice zh7 z2Y.length zh8),(.int .i64 z1T.fRate.fN),(.int .i64 z1T.fRate.fD),(.int .i64 z1T.fL.fN),(.int .i64 z1T.fL.fD),(.func (.func 72) #[] #[(.pointer (some zk5)),(.pointer (some zk6))]),(.slice zk7 zet.length zk8)]) rfl rfl) ?_))
 intro zn4 _
 refine WL.pu rfl (WL.nil (WX.a (WC.b (WC.b ?_))))
 obtain ⟨zto,zBD,h⟩:=z6 h
 obtain ⟨ztp,zBE,h⟩:=z6 h
 refine WC.a (WL.qA 11 (ya y6C rfl rfl) (WL.qA 12 (yc z6A rfl (ym .here rfl)) (WL.qA 13 (yG Tryz.underlying128 rfl) (WL.pu rfl (WL.pu rfl (WL.seg false 3 15 (B:=zto) rfl rfl rfl rfl rfl rfl (fun h=>(Option.some.inj (yo zBD h)).symm) (fun _ zMO=>?_) ?_))))))
 ·skip
  have zk9:=yp zBD zMO
  obtain ⟨zBx,zMP,zk9⟩:=z6 zk9
  replace zk9:=Option.some.inj zk9
  refine WL.qA 16 (ya y6C rfl rfl) (WL.qA 17 (yc z6A rfl (ym .here rfl)) (WL.cA 18 (z8 Tryz.call150 (.r2 rfl rfl)) .nil (cc hz .nil fun w pz ho=>y3U _ _ _ (ze5:=151) (zjF:=[]) _ (ze4:=(fun (y0 : List z2)=>y1q y0)) _ zMP w pz zBC Tryz.call151 (fun w' hz' y0 ga0 gc0 r gh0 hr=>y6p _ _ _ _ _ hr w' hz' gh0)) (WL.pu rfl ?_)))
  exact WL.yB zk9 rfl rfl .all
 refine WL.pu rfl (WL.seg false 4 20 (B:=ztp) rfl rfl rfl rfl rfl rfl (fun h=>(Option.some.inj (yo zBE h)).symm) (fun _ zMQ=>?_) ?_)
 ·skip
  have zka:=yp zBE zMQ
  obtain ⟨zBy,zMR,zka⟩:=z6 zka
  replace zka:=Option.some.inj zka
  refine WL.qA 21 (ya ya5 rfl rfl) (WL.qA 22 (yT (cs:=[(.int .i64 z1T.fRate.fN),(.int .i64 z1T.fRate.fD),(.int .i64 z1T.fL.fN),(.int .i64 z1T.fL.fD)]) zfn rfl rfl (y31 (s:=4) .here rfl)) (WL.cA 23 (z8 Tryz.call152 (.cons rfl .nil)) .nil (cc hz .nil fun w pz ho=>y8U _ _ _ zMR w pz ) (WL.pu rfl (WL.pu rfl ?_))))
  exact WL.yB zka rfl rfl .all
 refine WL.nil (WX.a (WC.cond rfl (fun ztr=>?_) (fun ztr=>?_)))
 ·replace h:=yo h ztr
  refine WC.b (WC.a (WL.pu rfl (WL.nil (WX.a (WC.ret (WX.yd ?_))))))
  obtain rfl:=Option.some.inj h
  refine WX.ye Tryz.results109 (.tmp rfl .nil) (fun w hw=>?_)
  exact ⟨yC rfl,hw.sub .nil⟩
 ·replace h:=yp h ztr
  refine WC.skip (WX.a (WC.b (WC.a (WL.nA 3 (yw (cs:=[(.int .i64 0)]) zlA rfl) ?_))))
  intro zn5 _
  refine WL.nil (WX.a (WC.b ?_))
  obtain ⟨zk4,zMS,h⟩:=z6 h
  refine WC.a (WL.cA 26 (z8 Tryz.call107 .nil) .nil (cc hz .nil fun w pz ho=>y41 _ _ zMS w pz ) (WL.nA 4 (yw (cs:=[(.int .i64 0),(.int .i64 0)]) zH rfl) ?_))
  intro zn6 _
  refine WL.yj rfl rfl (yl zq rfl rfl rfl .here rfl rfl rfl) (WL.nil (WX.a ?_))
  obtain ⟨zal,zMT,h⟩:=y9Z h
  refine WC.y2u (fun (zam : Int) (zcp : Int) (zcq : Int)=>(zal zam zcp zcq = some r)) (fun zam zcp zcq=>[(1,(.pointer (some ⟨zn4,0,none⟩))),(3,(.pointer (some ⟨zn5,0,none⟩))),(4,(.pointer (some ⟨zn6,0,none⟩)))]) (fun zam zcp zcq=>[stb zn4 177 [(.slice zh7 z2Y.length zh8),(.int .i64 z1T.fRate.fN),(.int .i64 z1T.fRate.fD),(.int .i64 z1T.fL.fN),(.int .i64 z1T.fL.fD),(.func (.func 72) #[] #[(.pointer (some zk5)),(.pointer (some zk6))]),(.slice zk7 zet.length zk8)],stb zn5 225 [(.int .i64 zam)],stb zn6 132 [(.int .i64 zcp),(.int .i64 zcq)]]) ?_ ?_
  ·skip
   refine WC.b (WC.a (WL.qA 27 (ya y6C rfl rfl) (WL.qA 28 (yc z6A rfl (ym .h2 rfl)) (WL.qA 29 (yG Tryz.underlying128 rfl) (WL.pu rfl (WL.nil (WX.a (WC.block (WC.y5V (fun (zh9 : Nat) (z4T : Int) (z6Q : Int) (z6R : Int) (z6S : Int)=>(y1U z2Y zal zh9 z4T z6Q z6R z6S = some r)) (fun zh9 z4T z6Q z6R z6S=>[(1,(.pointer (some ⟨zn4,0,none⟩))),(3,(.pointer (some ⟨zn5,0,none⟩))),(4,(.pointer (some ⟨zn6,0,none⟩))),(28,(.slice zh7 z2Y.length zh8)),(29,(.int .i64 ((z2Y.length : Nat) : Int))),(30,(.int .i64 z4T))]) (fun zh9 z4T z6Q z6R z6S=>[stb zn4 177 [(.slice zh7 z2Y.length zh8),(.int .i64 z1T.fRate.fN),(.int .i64 z1T.fRate.fD),(.int .i64 z1T.fL.fN),(.int .i64 z1T.fL.fD),(.func (.func 72) #[] #[(.pointer (some zk5)),(.pointer (some zk6))]),(.slice zk7 zet.length zk8)],stb zn5 225 [(.int .i64 z6Q)],stb zn6 132 [(.int .i64 z6R),(.int .i64 z6S)]]) (fun zh9 z4T z6Q z6R z6S=>zh9) ⟨yz,0,0,zk4.fN,zk4.fD⟩ h (.r6 rfl rfl rfl rfl rfl rfl) (.s3 .h2 .h1 .here) ?_)))))))))
   rintro zh9 z4T z6Q z6R z6S h
   obtain ⟨ztm,rfl⟩:=y7w h
   rw [y1U] at h
   refine WC.b (WC.a (WL.pu rfl (WL.nil (WX.a (WC.b (WC.cond rfl (fun zts=>?_) (fun zts=>?_)))))))
   ·replace h:=yo h zts
    refine WC.skip (WX.a (WC.b (WC.block (WC.b ?_))))
    obtain ⟨zMU,h⟩:=yn h
    refine WC.a (WL.znth (dd:=32) rfl rfl (Z:=Z) (Pr:=(y1T Z)) z7n rfl rfl zBC zMU ?_)
    rintro zX8 zX9 zMV zXa ⟨zXb,zXc,rfl,zBF⟩
    refine WL.qA 33 (yc zbb rfl (y57 hz.pv zMV rfl)) (WL.pu rfl (WL.nil (WX.a (WC.b (WC.b ?_)))))
    obtain ⟨ztn,zMW,h⟩:=z6 h
    refine WC.a (WL.pu rfl (WL.y4b (dd:=36) rfl rfl rfl (z8 Tryz.call153 (.cons rfl .nil)) .nil (cc hz .nil fun w pz ho=>y6W _ _ _ _ _ zMW w pz zBF) ?_))
    rintro zXd zXe _
    refine WL.pu rfl (WL.pu rfl (WL.pu rfl (WL.pu rfl (WL.pu rfl (WL.nil (WX.a (WC.b (WC.a (WL.pu rfl (WL.pu rfl (WL.nil (WX.a (WC.cond rfl (fun ztt=>?_) (fun ztt=>?_))))))))))))))
    ·replace h:=yo h ztt
     refine WC.b (WC.a (WL.pu rfl (WL.pu rfl (WL.nil (WX.a (WC.ret (WX.yd (WX.yt (WX.yd (WX.yd (WX.yt (WX.yd ?_))))))))))))
     obtain rfl:=Option.some.inj h
     refine WX.ye Tryz.results109 (.tmp rfl .nil) (fun w hw=>?_)
     exact ⟨yC rfl,hw.sub .nil⟩
    ·replace h:=yp h ztt
     refine WC.skip (WX.a (WC.b ?_))
     obtain ⟨zBw,zMX,h⟩:=z6 h
     refine WC.a (WL.pu rfl (WL.cA 44 (z8 Tryz.call154 (.cons rfl .nil)) .nil (cc hz .nil fun w pz ho=>yaR _ _ _ _ _ zMX w pz zBF) (WL.pu rfl (WL.pu rfl (WL.pu rfl (WL.nA 9 (yw (cs:=[(.int .i64 0),(.int .i64 0)]) zH rfl) ?_))))))
     intro zXf _
     refine WL.yj rfl rfl (yl zq rfl rfl rfl .here rfl rfl rfl) (WL.pu rfl (WL.nil (WX.a ?_)))
     obtain ⟨zes,zMY,h⟩:=z6 h
     refine WC.a (WL.qA 47 (yf zb rfl (yh .h4) rfl) (WL.qA 48 (yf zb rfl (yh .here) rfl) (WL.cA 49 (z8 Tryz.call73 (.r4 rfl rfl rfl rfl)) (.cons .h3 .nil) (cc hz (.cons .h3 .nil) fun w pz ho=>y2l _ _ (z5C:=69) (z6P:=[]) _ (z6a:=(fun (y0 : z1) (y1 : z1)=>y1c y0 y1)) _ _ _ zMY w pz Tryz.call69 (fun w' hz' y0 y1  r  hr=>y5T _ _ _ _ hr w' hz' ) ho) (WL.yj rfl rfl (yl zq rfl rfl rfl .h4 rfl rfl rfl) (WL.nil (WX.yk (WX.a (WC.a (WL.pu rfl (WL.pu rfl (WL.nil ?_)))))))))))
     exact WX.round ⟨ztm,(i64 (z4T + 1)),zes.2.fE,zes.1.fN,zes.1.fD⟩ h (Nat.lt_succ_self _) (.r6 rfl rfl rfl rfl rfl rfl) (.s3 .h4 .h1 .here)
   ·replace h:=yp h zts
    refine WC.exit (WX.yg (WX.yg (WX.yA ?_)))
    exact WX.mid ⟨z6Q,z6R,z6S⟩ h (.r3 rfl rfl rfl) (.s3 .here .here .here)
  ·rintro zam zcp zcq h
   replace h:=(zMT zam zcp zcq).symm.trans h
   refine WC.b (WC.b ?_)
   obtain ⟨ztq,zBG,h⟩:=z6 h
   refine WC.a (WL.qA 51 (ya y4A rfl rfl) (WL.qA 52 (yc y2Z rfl (ym .h1 rfl)) (WL.pu rfl (WL.pu rfl (WL.seg true 6 54 (B:=ztq) rfl rfl rfl rfl rfl rfl (fun h=>(Option.some.inj (yp zBG h)).symm) (fun _ zMZ=>?_) ?_)))))
   ·skip
    have zkb:=yo zBG zMZ
    obtain ⟨zBz,zN0,zkb⟩:=z6 zkb
    replace zkb:=Option.some.inj zkb
    refine WL.qA 55 (yf zb rfl (yh .h2) rfl) (WL.qA 56 (ya ya5 rfl rfl) (WL.qA 57 (ya y7V rfl rfl) (WL.qA 58 (yT (cs:=[(.int .i64 z1T.fRate.fN),(.int .i64 z1T.fRate.fD)]) zb rfl rfl (y31 (s:=2) .here rfl)) (WL.cA 59 (z8 Tryz.call79 (.r2 rfl rfl)) .nil (cc hz .nil fun w pz ho=>y4d _ _ _ _ zN0 w pz ) (WL.pu rfl (WL.pu rfl ?_))))))
    exact WL.yB zkb rfl rfl .all
   refine WL.nil (WX.a (WC.cond rfl (fun ztu=>?_) (fun ztu=>?_)))
   ·replace h:=yo h ztu
    refine WC.b (WC.a (WL.pu rfl (WL.nil (WX.a (WC.ret (WX.yd ?_))))))
    obtain rfl:=Option.some.inj h
    refine WX.ye Tryz.results109 (.tmp rfl .nil) (fun w hw=>?_)
    exact ⟨yC rfl,hw.sub .nil⟩
   ·replace h:=yp h ztu
    refine WC.skip (WX.a (WC.b (WC.a (WL.qA 62 (ya y4A rfl rfl) (WL.qA 63 (yc y2Z rfl (ym .h1 rfl)) (WL.pu rfl (WL.nil (WX.a (WC.ret ?_)))))))))
    obtain rfl:=Option.some.inj h
    refine WX.ye Tryz.results109 (.tmp rfl .nil) (fun w hw=>?_)
    exact ⟨yC rfl,hw.sub .nil⟩
def y43 (zha : List (List z2)) (z5D : zSv) (zn7 : List (List z2)) (zhb : zSv) (zhc : List z1) : Option (Int × Int × Int × Int) :=
 some (z5D.fRate.fN,z5D.fRate.fD,z5D.fL.fN,z5D.fL.fD)
theorem y8V (Z : Zp) (zn8 : Option Addr) (zn9 : Nat) (zna : Addr) (zBH : Option Addr) (zBI : Nat) (znb : Addr) (znc : Option Addr) (znd : Nat) (zha : List (List z2)) (z5D : zSv) (zn7 : List (List z2)) (zhb : zSv) (zhc : List z1) (r : Int × Int × Int × Int)
  (h : y43 zha z5D zn7 zhb zhc = some r) (w₀ : World) (hz : PZ [] w₀ Z)
  (zXg : ZS Z 1 (y1T Z) zn8 zn9 zha)
  (zXh : ZS Z 1 (y1T Z) zBH zBI zn7)
  (zXi : ZC Z zna [(.slice zBH zn7.length zBI)])
  (zXj : ZC Z znb [(.int .i64 zhb.fRate.fN),(.int .i64 zhb.fRate.fD),(.int .i64 zhb.fL.fN),(.int .i64 zhb.fL.fD)])
  (zXk : ZS Z 2 (fun r x=>r = yu x) znc znd zhc) :
  Calls Tryz.prog 110 #[(.agg #[(.slice zn8 zha.length zn9),(.int .i64 z5D.fRate.fN),(.int .i64 z5D.fRate.fD),(.int .i64 z5D.fL.fN),(.int .i64 z5D.fL.fD),(.func (.func 72) #[] #[(.pointer (some zna)),(.pointer (some znb))]),(.slice znc zhc.length znd)])] w₀ fun e w'=>∃ zBJ : Nat,e = .returned (.func (.func 155) #[] #[(.pointer (some ⟨zBJ,0,none⟩))]) ∧ True ∧ Hp [] w₀ w' [stb zBJ 177 [(.slice zn8 zha.length zn9),(.int .i64 r.1),(.int .i64 r.2.1),(.int .i64 r.2.2.1),(.int .i64 r.2.2.2),(.func (.func 72) #[] #[(.pointer (some zna)),(.pointer (some znb))]),(.slice znc zhc.length znd)]]:=by
 unfold y43 at h
 refine Calls.on1 Tryz.func110 Tryz.ntmps110 ?_
 refine WC.b (WC.a (WL.nA 1 (yH (cs:=[(.slice zn8 zha.length zn9),(.int .i64 z5D.fRate.fN),(.int .i64 z5D.fRate.fD),(.int .i64 z5D.fL.fN),(.int .i64 z5D.fL.fD),(.func (.func 72) #[] #[(.pointer (some zna)),(.pointer (some znb))]),(.slice znc zhc.length znd)]) rfl rfl) ?_))
 intro zN1 _
 refine WL.pu rfl (WL.nil (WX.a (WC.b (WC.a (WL.qA 3 (y17 (Eos.caps (l:=[.tmp 1]) (.cons rfl .nil))) (WL.pu rfl (WL.nil (WX.a (WC.ret ?_)))))))))
 obtain rfl:=Option.some.inj h
 refine WX.ye Tryz.results110 (.tmp rfl .nil) (fun w hw=>?_)
 exact ⟨zN1,yC rfl,trivial,hw.sub (.cons .here .nil)⟩
def y1M (z3u : z1) : Option Int :=
 (y1L z3u).bind fun zBK=>if !zBK then some 0 else chk ((z3u.fD : Int) ≠ 0) (jp1 (fun (zcr : Int)=>some zcr) fun zne=>chk ((z3u.fD : Int) ≠ 0) (if decide ((Int.tmod z3u.fN z3u.fD) < 0) then zne (i64 ((i64 (Int.tdiv z3u.fN z3u.fD)) - 1)) else zne (i64 (Int.tdiv z3u.fN z3u.fD))))
theorem y5C (Z : Zp)  (z3u : z1) (r : Int)
  (h : y1M z3u = some r) (w₀ : World) (hz : PZ [] w₀ Z) :
  Calls Tryz.prog 46 #[(.agg #[(.int .i64 z3u.fN),(.int .i64 z3u.fD)])] w₀ fun e w'=>e = .returned (.int .i64 r) ∧ Hp [] w₀ w' []:=by
 unfold y1M at h
 refine Calls.on1 Tryz.func46 Tryz.ntmps46 ?_
 refine WC.b (WC.a (WL.nA 1 (yH (cs:=[(.int .i64 z3u.fN),(.int .i64 z3u.fD)]) rfl rfl) ?_))
 intro zXl _
 refine WL.pu rfl (WL.nil (WX.a (WC.b (WC.b ?_))))
 obtain ⟨zBK,zN2,h⟩:=z6 h
 refine WC.a (WL.qA 4 (yf zb rfl (yh .here) rfl) (WL.cA 5 (z8 Tryz.call80 (.cons rfl .nil)) .nil (cc hz .nil fun w pz ho=>y2n _ _ _ zN2 w pz ) (WL.pu rfl (WL.nil (WX.a (WC.cond rfl (fun ztv=>?_) (fun ztv=>?_)))))))
 ·replace h:=yo h ztv
  refine WC.b (WC.a (WL.pu rfl (WL.nil (WX.a (WC.ret (WX.yd ?_))))))
  obtain rfl:=Option.some.inj h
  refine WX.ye Tryz.results46 (.tmp rfl .nil) (fun w hw=>?_)
  exact ⟨yC rfl,hw.sub .nil⟩
 ·replace h:=yp h ztv
  refine WC.skip (WX.a (WC.b ?_))
  obtain ⟨zN3,h⟩:=yn h
  refine WC.a (WL.qA 7 (ya y2f rfl rfl) (WL.qA 8 (yc yx rfl (ym .here rfl)) (WL.qA 9 (ya y2A rfl rfl) (WL.qA 10 (yc yx rfl (ym .here rfl)) (WL.qA 11 (q_quo rfl rfl zN3 rfl) (WL.pu rfl (WL.nil (WX.a ?_))))))))
  obtain ⟨zne,zN4,h⟩:=y1d h
  refine WC.y4m (fun (zcr : Int)=>(zne zcr = some r)) (fun zcr=>[(3,(.int .i64 zcr))]) (fun zcr=>[]) ?_ ?_
  ·skip
   refine WC.b ?_
   obtain ⟨zN5,h⟩:=yn h
   refine WC.a (WL.qA 12 (ya y2f rfl rfl) (WL.qA 13 (yc yx rfl (ym .here rfl)) (WL.qA 14 (ya y2A rfl rfl) (WL.qA 15 (yc yx rfl (ym .here rfl)) (WL.qA 16 (q_rem rfl rfl zN5 rfl) (WL.pu rfl (WL.nil (WX.a (WC.cond rfl (fun ztw=>?_) (fun ztw=>?_))))))))))
   ·replace h:=yo h ztw
    refine WC.a (WL.pu rfl (WL.pu rfl (WL.pu rfl (WL.nil ?_))))
    exact WX.mid (i64 ((i64 (Int.tdiv z3u.fN z3u.fD)) - 1)) h (.cons rfl .nil) .nil
   ·replace h:=yp h ztw
    refine WC.skip ?_
    exact WX.mid (i64 (Int.tdiv z3u.fN z3u.fD)) h (.cons rfl .nil) .nil
  ·rintro zcr h
   replace h:=(zN4 zcr).symm.trans h
   refine WC.b (WC.a (WL.pu rfl (WL.pu rfl (WL.nil (WX.a (WC.ret ?_))))))
   obtain rfl:=Option.some.inj h
   refine WX.ye Tryz.results46 (.tmp rfl .nil) (fun w hw=>?_)
   exact ⟨yC rfl,hw.sub .nil⟩
def y2x (z7R : z1) : Option Int :=
 (y1L z7R).bind fun zBL=>if !zBL then some 0 else (y1M (⟨i64 (0 - z7R.fN),z7R.fD⟩ : z1)).bind fun zBM=>some (i64 (0 - zBM))
theorem y8z (Z : Zp)  (z7R : z1) (r : Int)
  (h : y2x z7R = some r) (w₀ : World) (hz : PZ [] w₀ Z) :
  Calls Tryz.prog 156 #[(.agg #[(.int .i64 z7R.fN),(.int .i64 z7R.fD)])] w₀ fun e w'=>e = .returned (.int .i64 r) ∧ Hp [] w₀ w' []:=by
 unfold y2x at h
 refine Calls.on1 Tryz.func156 Tryz.ntmps156 ?_
 refine WC.b (WC.a (WL.nA 1 (yH (cs:=[(.int .i64 z7R.fN),(.int .i64 z7R.fD)]) rfl rfl) ?_))
 intro zXm _
 refine WL.pu rfl (WL.nil (WX.a (WC.b (WC.b ?_))))
 obtain ⟨zBL,zN6,h⟩:=z6 h
 refine WC.a (WL.qA 3 (yf zb rfl (yh .here) rfl) (WL.cA 4 (z8 Tryz.call80 (.cons rfl .nil)) .nil (cc hz .nil fun w pz ho=>y2n _ _ _ zN6 w pz ) (WL.pu rfl (WL.nil (WX.a (WC.cond rfl (fun ztx=>?_) (fun ztx=>?_)))))))
 ·replace h:=yo h ztx
  refine WC.b (WC.a (WL.pu rfl (WL.nil (WX.a (WC.ret (WX.yd ?_))))))
  obtain rfl:=Option.some.inj h
  refine WX.ye Tryz.results156 (.tmp rfl .nil) (fun w hw=>?_)
  exact ⟨yC rfl,hw.sub .nil⟩
 ·replace h:=yp h ztx
  refine WC.skip (WX.a (WC.b ?_))
  obtain ⟨zBM,zN7,h⟩:=z6 h
  refine WC.a (WL.qA 6 (ya y2f rfl rfl) (WL.qA 7 (yc yx rfl (ym .here rfl)) (WL.qA 8 (q_neg rfl rfl) (WL.qA 9 (ya y2A rfl rfl) (WL.qA 10 (yc yx rfl (ym .here rfl)) (WL.qA 11 (yI (v:=(.agg #[(.int .i64 (i64 (0 - z7R.fN))),(.int .i64 z7R.fD)])) (Eos.parts (l:=[.tmp 8,.tmp 10]) (.r2 rfl rfl) [0,1]) (fun _=>by kernel_rfl)) (WL.cA 12 (z8 Tryz.call46 (.cons rfl .nil)) .nil (cc hz .nil fun w pz ho=>y5C _ _ _ zN7 w pz ) (WL.qA 13 (q_neg rfl rfl) (WL.pu rfl (WL.nil (WX.a (WC.ret ?_))))))))))))
  obtain rfl:=Option.some.inj h
  refine WX.ye Tryz.results156 (.tmp rfl .nil) (fun w hw=>?_)
  exact ⟨yC rfl,hw.sub .nil⟩
def y1E (zo : Type) (z21 : List z1 × Int) (z1O : z1 → zo → Option (Bool × zo)) (zan : zo → Option zo) : Nat → Int → zo → Option zo
 | 0,_,_=>none
 | zty + 1,z2q,z4U=>if decide (z2q < ((z21.1.length : Nat) : Int)) then chk ((0 : Int) ≤ z2q ∧ z2q < ((z21.1.length : Nat) : Int)) ((y1M (⟨((nth z21.1 z2q).fN),((nth z21.1 z2q).fD)⟩ : z1)).bind fun zBN=>(y1l zBN).bind fun ztz=>(z1O ztz z4U).bind fun z8n=>(if !z8n.1 then some (true,z8n.2) else (y2x (⟨((nth z21.1 z2q).fN),((nth z21.1 z2q).fD)⟩ : z1)).bind fun zBO=>(y1l zBO).bind fun ztA=>(z1O ztA z8n.2).bind fun zkc=>some (!zkc.1,zkc.2)).bind fun zcs=>if zcs.1 then some zcs.2 else y1E zo z21 z1O zan zty (i64 (z2q + 1)) zcs.2) else zan z4U
theorem y74 {n : Nat} {zo : Type} {z21 : List z1 × Int} {z1O : z1 → zo → Option (Bool × zo)} {zan : zo → Option zo} {z2q : Int} {z4U : zo} {r : zo} (h : y1E zo z21 z1O zan n z2q z4U = some r) : ∃ m,n = m + 1:=by
 cases n with
 | zero=>cases h
 | succ m=>exact ⟨m,rfl⟩
def y1F (zo : Type) (z2g : List (List z2)) (z1O : z1 → zo → Option (Bool × zo)) (zao : zo → Option zo) : Nat → Int → zo → Option zo
 | 0,_,_=>none
 | ztB + 1,z3v,z5E=>if decide (z3v < ((z2g.length : Nat) : Int)) then jp1 (fun (z8o : zo)=>y1F zo z2g z1O zao ztB (i64 (z3v + 1)) z8o) fun ztC=>chk ((0 : Int) ≤ z3v ∧ z3v < ((z2g.length : Nat) : Int)) ((y1S (nth z2g z3v)).bind fun z21=>jp1 (fun (z8p : zo)=>ztC z8p) fun zan=>y1E zo z21 z1O zan yz 0 z5E) else zao z5E
theorem y75 {n : Nat} {zo : Type} {z2g : List (List z2)} {z1O : z1 → zo → Option (Bool × zo)} {zao : zo → Option zo} {z3v : Int} {z5E : zo} {r : zo} (h : y1F zo z2g z1O zao n z3v z5E = some r) : ∃ m,n = m + 1:=by
 cases n with
 | zero=>cases h
 | succ m=>exact ⟨m,rfl⟩
def y1G (zo : Type) (z2r : List z1) (z1O : z1 → zo → Option (Bool × zo)) (zap : zo → Option zo) : Nat → Int → zo → Option zo
 | 0,_,_=>none
 | ztD + 1,z2Z,z4V=>if decide (z2Z < ((z2r.length : Nat) : Int)) then chk ((0 : Int) ≤ z2Z ∧ z2Z < ((z2r.length : Nat) : Int)) ((y1M (⟨((nth z2r z2Z).fN),((nth z2r z2Z).fD)⟩ : z1)).bind fun zBP=>(y1l zBP).bind fun ztE=>(z1O ztE z4V).bind fun z8q=>(if !z8q.1 then some (true,z8q.2) else (y2x (⟨((nth z2r z2Z).fN),((nth z2r z2Z).fD)⟩ : z1)).bind fun zBQ=>(y1l zBQ).bind fun ztF=>(z1O ztF z8q.2).bind fun zkd=>some (!zkd.1,zkd.2)).bind fun zct=>if zct.1 then some zct.2 else y1G zo z2r z1O zap ztD (i64 (z2Z + 1)) zct.2) else zap z4V
theorem y76 {n : Nat} {zo : Type} {z2r : List z1} {z1O : z1 → zo → Option (Bool × zo)} {zap : zo → Option zo} {z2Z : Int} {z4V : zo} {r : zo} (h : y1G zo z2r z1O zap n z2Z z4V = some r) : ∃ m,n = m + 1:=by
 cases n with
 | zero=>cases h
 | succ m=>exact ⟨m,rfl⟩
def y2M (zo : Type) (z1O : z1 → zo → Option (Bool × zo)) (s0_44021 : zo) (z2g : List (List z2)) (zeu : zSv) (zke : List (List z2)) (zev : zSv) (z2r : List z1) : Option zo :=
 (y2E).bind fun ztG=>(z1O ztG s0_44021).bind fun zew=>if !zew.1 then some zew.2 else jp1 (fun (z8r : zo)=>jp1 (fun (zaq : zo)=>some zaq) fun zap=>y1G zo z2r z1O zap yz 0 z8r) fun zao=>y1F zo z2g z1O zao yz 0 zew.2
theorem y8l (Z : Zp) (zo : Type) (z7S : Nat) (z3w : Type) (z1U : z3w → zo → Asrt) (z6b : z3w → zo → Prop) (zar : z3w) (zas : Addr) (zcu : Option Addr) (zcv : Nat) (ztH : Addr) (ztI : Option Addr) (ztJ : Nat) (ztK : Addr) (zkf : Option Addr) (zkg : Nat) (z1O : z1 → zo → Option (Bool × zo)) (s0_44021 : zo) (z2g : List (List z2)) (zeu : zSv) (zke : List (List z2)) (zev : zSv) (z2r : List z1) (r : zo) (w₀ : World) (hz : PZ (fps [z1U zar s0_44021]) w₀ Z)
  (zkh : yaC Tryz.prog Z z7S (α:=z1) (σ:=zo) (G:=z3w) (H:=Unit) (fun h x=>[(.agg #[(.int .i64 x.fN),(.int .i64 x.fD)])]) (fun h x=>[]) z1O z1U z6b)
  (zN8 : z6b zar s0_44021)
  (zN9 : ZS Z 1 (y1T Z) zcu zcv z2g)
  (zXn : ZS Z 1 (y1T Z) ztI ztJ zke)
  (zXo : ZC Z ztH [(.slice ztI zke.length ztJ)])
  (zXp : ZC Z ztK [(.int .i64 zev.fRate.fN),(.int .i64 zev.fRate.fD),(.int .i64 zev.fL.fN),(.int .i64 zev.fL.fD)])
  (zNa : ZS Z 2 (fun r x=>r = yu x) zkf zkg z2r)
  (zBR : ZC Z zas [(.slice zcu z2g.length zcv),(.int .i64 zeu.fRate.fN),(.int .i64 zeu.fRate.fD),(.int .i64 zeu.fL.fN),(.int .i64 zeu.fL.fD),(.func (.func 72) #[] #[(.pointer (some ztH)),(.pointer (some ztK))]),(.slice zkf z2r.length zkg)])
  (h : y2M zo z1O s0_44021 z2g zeu zke zev z2r = some r)
  (hown : Hp (fps [z1U zar s0_44021]) w₀ w₀ [z1U zar s0_44021]) :
  Calls Tryz.prog 155 #[(.func (.yield z7S) #[] #[]),(.pointer (some zas))] w₀ fun e w'=>∃ zBS : z3w,e = .returned (.tuple #[]) ∧ (z6b zBS r) ∧ Hp (fps [z1U zar s0_44021]) w₀ w' [z1U zBS r]:=by
 unfold y2M at h
 refine Calls.oh2 Tryz.func155 Tryz.ntmps155 hown ?_
 refine WC.b (WC.b ?_)
 obtain ⟨ztG,zNb,h⟩:=z6 h
 obtain ⟨zew,zNc,h⟩:=z6 h
 refine WC.a (WL.pu rfl (WL.cA 12 (z8 Tryz.call107 .nil) .nil (cc hz .nil fun w pz ho=>y41 _ _ zNb w pz ) (WL.yield (dd:=13) (x:=ztG) (h:=()) (g:=zar) (s:=s0_44021) (b:=zew.1) (s':=zew.2) zkh rfl rfl rfl (.cons rfl .nil) ((.cons .here .nil) : Sel _ [z1U zar s0_44021] _) zNc zN8 (fun w hw=>hz.call hw ((.cons .here .nil) : Sel _ [z1U zar s0_44021] _)) ?_)))
 intro zBT zBU
 refine WL.pu rfl (WL.nil (WX.a (WC.cond rfl (fun ztL=>?_) (fun ztL=>?_))))
 ·replace h:=yo h ztL
  refine WC.ret (WX.yd ?_)
  obtain rfl:=Option.some.inj h
  refine WX.ye Tryz.results155 .nil (fun w hw=>?_)
  exact ⟨zBT,y7f,zBU,hw.sub (.cons .here .nil)⟩
 ·replace h:=yp h ztL
  refine WC.skip (WX.a ?_)
  obtain ⟨zao,zNd,h⟩:=y1d h
  refine WC.y4L (fun (z8r : zo) (zhd : z3w)=>(zao z8r = some r) ∧ (z6b zhd z8r)) (fun z8r zhd=>[(0,(.func (.yield z7S) #[] #[])),(1,(.pointer (some zas)))]) (fun z8r zhd=>[z1U zhd z8r]) ?_ ?_
  ·skip
   refine WC.b (WC.a (WL.qA 15 (ya y6C rfl rfl) (WL.qA 16 (yc z6A rfl (y1k hz.pv zBR rfl)) (WL.qA 17 (yG Tryz.underlying128 rfl) (WL.pu rfl (WL.nil (WX.a (WC.block (WC.y5y (fun (zhe : Nat) (z3v : Int) (z5E : zo) (zcw : z3w)=>(y1F zo z2g z1O zao zhe z3v z5E = some r) ∧ (z6b zcw z5E)) (fun zhe z3v z5E zcw=>[(0,(.func (.yield z7S) #[] #[])),(1,(.pointer (some zas))),(16,(.slice zcu z2g.length zcv)),(17,(.int .i64 ((z2g.length : Nat) : Int))),(18,(.int .i64 z3v))]) (fun zhe z3v z5E zcw=>[z1U zcw z5E]) (fun zhe z3v z5E zcw=>zhe) ⟨yz,0,zew.2,zBT⟩ ⟨h,zBU⟩ (.r5 rfl rfl rfl rfl rfl) (.cons .here .nil) ?_)))))))))
   rintro zhe z3v z5E zcw ⟨h,zBV⟩
   obtain ⟨ztB,rfl⟩:=y75 h
   rw [y1F] at h
   refine WC.b (WC.a (WL.pu rfl (WL.nil (WX.a (WC.b (WC.cond rfl (fun ztM=>?_) (fun ztM=>?_)))))))
   ·replace h:=yo h ztM
    refine WC.skip (WX.a ?_)
    obtain ⟨ztC,zNe,h⟩:=y1d h
    refine WC.y4L (fun (z8o : zo) (zhf : z3w)=>(ztC z8o = some r) ∧ (z6b zhf z8o)) (fun z8o zhf=>[(0,(.func (.yield z7S) #[] #[])),(1,(.pointer (some zas))),(16,(.slice zcu z2g.length zcv)),(17,(.int .i64 ((z2g.length : Nat) : Int))),(18,(.int .i64 z3v))]) (fun z8o zhf=>[z1U zhf z8o]) ?_ ?_
    ·skip
     refine WC.block (WC.b ?_)
     obtain ⟨zNf,h⟩:=yn h
     refine WC.a (WL.znth (dd:=20) rfl rfl (Z:=Z) (Pr:=(y1T Z)) z7n rfl rfl zN9 zNf ?_)
     rintro zXq zXr zNg zXs ⟨zXt,zXu,rfl,zNh⟩
     refine WL.qA 21 (yc zbb rfl (y57 hz.pv zNg rfl)) (WL.pu rfl (WL.nil (WX.a (WC.b ?_))))
     obtain ⟨z21,zNi,h⟩:=z6 h
     refine WC.a (WL.pu rfl (WL.y4b (dd:=24) rfl rfl rfl (z8 Tryz.call153 (.cons rfl .nil)) .nil (cc hz .nil fun w pz ho=>y6W _ _ _ _ _ zNi w pz zNh) ?_))
     rintro zBW znf _
     refine WL.pu rfl (WL.pu rfl (WL.pu rfl (WL.pu rfl (WL.pu rfl (WL.nil (WX.a (WC.b (WC.a (WL.pu rfl (WL.qA 28 (yG Tryz.underlying175 rfl) (WL.pu rfl (WL.nil (WX.a ?_)))))))))))))
     obtain ⟨zan,zNj,h⟩:=y1d h
     refine WC.y8E (fun (z8p : zo) (zhg : z3w)=>(zan z8p = some r) ∧ (z6b zhg z8p)) (fun z8p zhg=>[(0,(.func (.yield z7S) #[] #[])),(1,(.pointer (some zas))),(16,(.slice zcu z2g.length zcv)),(17,(.int .i64 ((z2g.length : Nat) : Int))),(18,(.int .i64 z3v))]) (fun z8p zhg=>[z1U zhg z8p]) ?_ ?_
     ·skip
      refine WC.block (WC.y5y (fun (zhh : Nat) (z2q : Int) (z4U : zo) (z8s : z3w)=>(y1E zo z21 z1O zan zhh z2q z4U = some r) ∧ (z6b z8s z4U)) (fun zhh z2q z4U z8s=>[(0,(.func (.yield z7S) #[] #[])),(1,(.pointer (some zas))),(16,(.slice zcu z2g.length zcv)),(17,(.int .i64 ((z2g.length : Nat) : Int))),(18,(.int .i64 z3v)),(27,(.slice zBW z21.1.length znf)),(28,(.int .i64 ((z21.1.length : Nat) : Int))),(29,(.int .i64 z2q))]) (fun zhh z2q z4U z8s=>[row (.slice zBW z21.1.length znf) 132 2 (z21.1.flatMap yu),z1U z8s z4U]) (fun zhh z2q z4U z8s=>zhh) ⟨yz,0,z5E,zcw⟩ ⟨h,zBV⟩ (.r8 rfl rfl rfl rfl rfl rfl rfl rfl) (.s2 .here .here) ?_)
      rintro zhh z2q z4U z8s ⟨h,zBX⟩
      obtain ⟨zty,rfl⟩:=y74 h
      rw [y1E] at h
      refine WC.b (WC.a (WL.pu rfl (WL.nil (WX.a (WC.b (WC.cond rfl (fun ztN=>?_) (fun ztN=>?_)))))))
      ·replace h:=yo h ztN
       refine WC.skip (WX.a (WC.b (WC.block (WC.b ?_))))
       obtain ⟨zki,h⟩:=yn h
       refine WC.a (WL.know (fun w hw=>Hp.y2j .here hw (by intro hz'; have:=zki; rw [hz'] at this; omega)) ?_)
       rintro ⟨zBY,rfl⟩
       refine WL.qA 31 (yV z1H rfl rfl zki.1 zki.2 y32) (WL.qA 32 (yT (cs:=(yu (nth z21.1 z2q))) zb rfl rfl (y49 .here (y3y (enc:=yu) (l:=z21.1) (i:=z2q) (sz:=2) (fun _=>rfl) zki.1 zki.2))) (WL.nA 8 (yw (cs:=[(.int .i64 0),(.int .i64 0)]) zH rfl) ?_))
       intro zNk _
       refine WL.yj rfl rfl (yl zq rfl rfl rfl .here rfl rfl rfl) (WL.nil (WX.a (WC.b ?_)))
       obtain ⟨zBN,zNl,h⟩:=z6 h
       obtain ⟨ztz,zNm,h⟩:=z6 h
       obtain ⟨z8n,zNn,h⟩:=z6 h
       obtain ⟨zcs,zBZ,h⟩:=z6 h
       refine WC.a (WL.pu rfl (WL.qA 34 (yf zb rfl (yh .here) rfl) (WL.cA 35 (z8 Tryz.call46 (.cons rfl .nil)) .nil (cc hz .nil fun w pz ho=>y5C _ _ _ zNl w pz ) (WL.cA 36 (z8 Tryz.call145 (.cons rfl .nil)) .nil (cc hz .nil fun w pz ho=>y2J _ _ _ zNm w pz ) (WL.yield (dd:=37) (x:=ztz) (h:=()) (g:=z8s) (s:=z4U) (b:=z8n.1) (s':=z8n.2) zkh rfl rfl rfl (.cons rfl .nil) ((.cons .h2 .nil) : Sel _ [z1U z8s z4U] _) zNn zBX (fun w hw=>hz.call hw ((.cons .h2 .nil) : Sel _ [z1U z8s z4U] _)) ?_)))))
       intro zng zC0
       refine WL.pu rfl (WL.pu rfl (WL.yb3 (fun (zex : z3w)=>z6b zex zcs.2) (fun (zex : z3w)=>[(0,(.func (.yield z7S) #[] #[])),(1,(.pointer (some zas))),(16,(.slice zcu z2g.length zcv)),(17,(.int .i64 ((z2g.length : Nat) : Int))),(18,(.int .i64 z3v)),(27,(.slice (some ⟨zBY,0,none⟩) z21.1.length znf)),(28,(.int .i64 ((z21.1.length : Nat) : Int))),(29,(.int .i64 z2q)),(46,(.bool zcs.1))]) (fun (zex : z3w)=>[z1U zex zcs.2,stb zNk 132 [(.int .i64 ((nth z21.1 z2q).fN)),(.int .i64 ((nth z21.1 z2q).fD))],row (.slice (some ⟨zBY,0,none⟩) z21.1.length znf) 132 2 (z21.1.flatMap yu)]) 7 ?_ (fun zex zC1=>?_)))
       ·rcases Bool.eq_false_or_eq_true (!z8n.1) with hb' | hb'
        ·have zC2:=hb'; clear hb'
         have ztO:=yo zBZ zC2
         replace ztO:=Option.some.inj ztO
         refine WL.pin (i:=39) rfl zC2 (WL.e rfl rfl rfl (WL.e rfl rfl rfl (WL.e rfl rfl rfl (WL.e rfl rfl rfl (WL.e rfl rfl rfl (WL.e rfl rfl rfl (WL.pu rfl ?_)))))))
         subst ztO
         exact WL.y5S zng zC0 (.r9 rfl rfl rfl rfl rfl rfl rfl rfl rfl) (.s3 .here .here .here)
        ·have zC3:=hb'; clear hb'
         have zat:=yp zBZ zC3
         obtain ⟨zBO,zNo,zat⟩:=z6 zat
         obtain ⟨ztA,zNp,zat⟩:=z6 zat
         obtain ⟨zkc,zNq,zat⟩:=z6 zat
         replace zat:=Option.some.inj zat
         refine WL.pin (i:=39) rfl zC3 (WL.pu rfl (WL.qA 41 (yf zb rfl (yh .h1) rfl) (WL.cA 42 (z8 Tryz.call156 (.cons rfl .nil)) .nil (cc hz .nil fun w pz ho=>y8z _ _ _ zNo w pz ) (WL.cA 43 (z8 Tryz.call145 (.cons rfl .nil)) .nil (cc hz .nil fun w pz ho=>y2J _ _ _ zNp w pz ) (WL.yield (dd:=44) (x:=ztA) (h:=()) (g:=zng) (s:=z8n.2) (b:=zkc.1) (s':=zkc.2) zkh rfl rfl rfl (.cons rfl .nil) ((.cons .here .nil) : Sel _ [z1U zng z8n.2] _) zNq zC0 (fun w hw=>hz.call hw ((.cons .here .nil) : Sel _ [z1U zng z8n.2] _)) ?_)))))
         intro zNr zNs
         refine WL.pu rfl (WL.pu rfl ?_)
         subst zat
         exact WL.y5S zNr zNs (.r9 rfl rfl rfl rfl rfl rfl rfl rfl rfl) (.s3 .here .here .here)
       ·skip
        refine WL.nil (WX.a (WC.cond rfl (fun ztP=>?_) (fun ztP=>?_)))
        ·replace h:=yo h ztP
         refine WC.ret (WX.yt (WX.yd (WX.yd (WX.yt (WX.yd (WX.yt (WX.yd (WX.yd (WX.yt (WX.yd ?_))))))))))
         obtain rfl:=Option.some.inj h
         refine WX.ye Tryz.results155 .nil (fun w hw=>?_)
         exact ⟨zex,y7f,zC1,hw.sub (.cons .here .nil)⟩
        ·replace h:=yp h ztP
         refine WC.skip (WX.yk (WX.a (WC.a (WL.pu rfl (WL.pu rfl (WL.nil ?_))))))
         exact WX.round ⟨zty,(i64 (z2q + 1)),zcs.2,zex⟩ ⟨h,zC1⟩ (Nat.lt_succ_self _) (.r8 rfl rfl rfl rfl rfl rfl rfl rfl) (.s2 .h2 .here)
      ·replace h:=yp h ztN
       refine WC.exit (WX.yg (WX.yg (WX.yA ?_)))
       exact WX.mid ⟨z4U,z8s⟩ ⟨h,zBX⟩ (.r5 rfl rfl rfl rfl rfl) (.cons .h1 .nil)
     ·rintro z8p zhg ⟨h,zNt⟩
      replace h:=(zNj z8p).symm.trans h
      refine WX.yk ?_
      exact WX.mid ⟨z8p,zhg⟩ ⟨h,zNt⟩ (.r5 rfl rfl rfl rfl rfl) (.cons .here .nil)
    ·rintro z8o zhf ⟨h,zNu⟩
     replace h:=(zNe z8o).symm.trans h
     refine WC.a (WL.pu rfl (WL.pu rfl (WL.nil ?_)))
     exact WX.round ⟨ztB,(i64 (z3v + 1)),z8o,zhf⟩ ⟨h,zNu⟩ (Nat.lt_succ_self _) (.r5 rfl rfl rfl rfl rfl) (.cons .here .nil)
   ·replace h:=yp h ztM
    refine WC.exit (WX.yg (WX.yg (WX.yA ?_)))
    exact WX.mid ⟨z5E,zcw⟩ ⟨h,zBV⟩ (.r2 rfl rfl) (.cons .here .nil)
  ·rintro z8r zhd ⟨h,zNv⟩
   replace h:=(zNd z8r).symm.trans h
   refine WC.b (WC.a (WL.qA 49 (ya ydA rfl rfl) (WL.qA 50 (yc z7o rfl (y1k hz.pv zBR rfl)) (WL.qA 51 (yG Tryz.underlying175 rfl) (WL.pu rfl (WL.nil (WX.a ?_)))))))
   obtain ⟨zap,zNw,h⟩:=y1d h
   refine WC.y8E (fun (zaq : zo) (zhi : z3w)=>(zap zaq = some r) ∧ (z6b zhi zaq)) (fun zaq zhi=>[]) (fun zaq zhi=>[z1U zhi zaq]) ?_ ?_
   ·skip
    refine WC.block (WC.y5y (fun (zhj : Nat) (z2Z : Int) (z4V : zo) (z8t : z3w)=>(y1G zo z2r z1O zap zhj z2Z z4V = some r) ∧ (z6b z8t z4V)) (fun zhj z2Z z4V z8t=>[(0,(.func (.yield z7S) #[] #[])),(50,(.slice zkf z2r.length zkg)),(51,(.int .i64 ((z2r.length : Nat) : Int))),(52,(.int .i64 z2Z))]) (fun zhj z2Z z4V z8t=>[z1U z8t z4V]) (fun zhj z2Z z4V z8t=>zhj) ⟨yz,0,z8r,zhd⟩ ⟨h,zNv⟩ (.r4 rfl rfl rfl rfl) (.cons .here .nil) ?_)
    rintro zhj z2Z z4V z8t ⟨h,zC4⟩
    obtain ⟨ztD,rfl⟩:=y76 h
    rw [y1G] at h
    refine WC.b (WC.a (WL.pu rfl (WL.nil (WX.a (WC.b (WC.cond rfl (fun ztQ=>?_) (fun ztQ=>?_)))))))
    ·replace h:=yo h ztQ
     refine WC.skip (WX.a (WC.b (WC.block (WC.b ?_))))
     obtain ⟨zNx,h⟩:=yn h
     refine WC.a (WL.znth (dd:=54) rfl rfl (Z:=Z) (Pr:=(fun r x=>r = yu x)) z1H rfl rfl zNa zNx ?_)
     rintro zXv zXw zNy zXx rfl
     refine WL.qA 55 (yf zb rfl (y2v hz.pv zNy) rfl) (WL.nA 10 (yw (cs:=[(.int .i64 0),(.int .i64 0)]) zH rfl) ?_)
     intro zNz _
     refine WL.yj rfl rfl (yl zq rfl rfl rfl .here rfl rfl rfl) (WL.nil (WX.a (WC.b ?_)))
     obtain ⟨zBP,zNA,h⟩:=z6 h
     obtain ⟨ztE,zNB,h⟩:=z6 h
     obtain ⟨z8q,zNC,h⟩:=z6 h
     obtain ⟨zct,zC5,h⟩:=z6 h
     refine WC.a (WL.pu rfl (WL.qA 57 (yf zb rfl (yh .here) rfl) (WL.cA 58 (z8 Tryz.call46 (.cons rfl .nil)) .nil (cc hz .nil fun w pz ho=>y5C _ _ _ zNA w pz ) (WL.cA 59 (z8 Tryz.call145 (.cons rfl .nil)) .nil (cc hz .nil fun w pz ho=>y2J _ _ _ zNB w pz ) (WL.yield (dd:=60) (x:=ztE) (h:=()) (g:=z8t) (s:=z4V) (b:=z8q.1) (s':=z8q.2) zkh rfl rfl rfl (.cons rfl .nil) ((.cons .h1 .nil) : Sel _ [z1U z8t z4V] _) zNC zC4 (fun w hw=>hz.call hw ((.cons .h1 .nil) : Sel _ [z1U z8t z4V] _)) ?_)))))
     intro znh zC6
     refine WL.pu rfl (WL.pu rfl (WL.yb3 (fun (zey : z3w)=>z6b zey zct.2) (fun (zey : z3w)=>[(0,(.func (.yield z7S) #[] #[])),(50,(.slice zkf z2r.length zkg)),(51,(.int .i64 ((z2r.length : Nat) : Int))),(52,(.int .i64 z2Z)),(69,(.bool zct.1))]) (fun (zey : z3w)=>[z1U zey zct.2,stb zNz 132 [(.int .i64 ((nth z2r z2Z).fN)),(.int .i64 ((nth z2r z2Z).fD))]]) 7 ?_ (fun zey zC7=>?_)))
     ·rcases Bool.eq_false_or_eq_true (!z8q.1) with hb' | hb'
      ·have zC8:=hb'; clear hb'
       have ztR:=yo zC5 zC8
       replace ztR:=Option.some.inj ztR
       refine WL.pin (i:=62) rfl zC8 (WL.e rfl rfl rfl (WL.e rfl rfl rfl (WL.e rfl rfl rfl (WL.e rfl rfl rfl (WL.e rfl rfl rfl (WL.e rfl rfl rfl (WL.pu rfl ?_)))))))
       subst ztR
       exact WL.y5S znh zC6 (.r5 rfl rfl rfl rfl rfl) (.s2 .here .here)
      ·have zC9:=hb'; clear hb'
       have zau:=yp zC5 zC9
       obtain ⟨zBQ,zND,zau⟩:=z6 zau
       obtain ⟨ztF,zNE,zau⟩:=z6 zau
       obtain ⟨zkd,zNF,zau⟩:=z6 zau
       replace zau:=Option.some.inj zau
       refine WL.pin (i:=62) rfl zC9 (WL.pu rfl (WL.qA 64 (yf zb rfl (yh .h1) rfl) (WL.cA 65 (z8 Tryz.call156 (.cons rfl .nil)) .nil (cc hz .nil fun w pz ho=>y8z _ _ _ zND w pz ) (WL.cA 66 (z8 Tryz.call145 (.cons rfl .nil)) .nil (cc hz .nil fun w pz ho=>y2J _ _ _ zNE w pz ) (WL.yield (dd:=67) (x:=ztF) (h:=()) (g:=znh) (s:=z8q.2) (b:=zkd.1) (s':=zkd.2) zkh rfl rfl rfl (.cons rfl .nil) ((.cons .here .nil) : Sel _ [z1U znh z8q.2] _) zNF zC6 (fun w hw=>hz.call hw ((.cons .here .nil) : Sel _ [z1U znh z8q.2] _)) ?_)))))
       intro zNG zNH
       refine WL.pu rfl (WL.pu rfl ?_)
       subst zau
       exact WL.y5S zNG zNH (.r5 rfl rfl rfl rfl rfl) (.s2 .here .here)
     ·skip
      refine WL.nil (WX.a (WC.cond rfl (fun ztS=>?_) (fun ztS=>?_)))
      ·replace h:=yo h ztS
       refine WC.ret (WX.yt (WX.yd (WX.yd (WX.yt (WX.yd ?_)))))
       obtain rfl:=Option.some.inj h
       refine WX.ye Tryz.results155 .nil (fun w hw=>?_)
       exact ⟨zey,y7f,zC7,hw.sub (.cons .here .nil)⟩
      ·replace h:=yp h ztS
       refine WC.skip (WX.yk (WX.a (WC.a (WL.pu rfl (WL.pu rfl (WL.nil ?_))))))
       exact WX.round ⟨ztD,(i64 (z2Z + 1)),zct.2,zey⟩ ⟨h,zC7⟩ (Nat.lt_succ_self _) (.r4 rfl rfl rfl rfl) (.cons .here .nil)
    ·replace h:=yp h ztQ
     refine WC.exit (WX.yg (WX.yg (WX.yA ?_)))
     exact WX.mid ⟨z4V,z8t⟩ ⟨h,zC4⟩ .nil (.cons .here .nil)
   ·rintro zaq zhi ⟨h,zNI⟩
    replace h:=(zNw zaq).symm.trans h
    obtain rfl:=Option.some.inj h
    refine WX.y4Q Tryz.results155 .nil (fun w hw=>?_)
    exact ⟨zhi,y7f,zNI,hw.sub (.cons .here .nil)⟩
def y1X (zez : z18) (z3T : z2) (zeA : z1) : Option (z1 × z18) :=
 (y1R zez (fun (y0 : z1) (y1 : z1)=>y3b y0 y1) z3T.fRate zeA).bind fun ztT=>(y1R ztT.2 (fun (y0 : z1) (y1 : z1)=>y1c y0 y1) z3T.fBurst ztT.1).bind fun ztU=>some (ztU.1,ztU.2)
theorem yaS (Z : Zp) (zhk : Nat) (zez : z18) (z3T : z2) (zeA : z1) (r : z1 × z18)
  (h : y1X zez z3T zeA = some r) (w₀ : World) (hz : PZ (fps [stb zhk 262 [(.int .i64 zez.fE)]]) w₀ Z)
  (hown : Hp (fps [stb zhk 262 [(.int .i64 zez.fE)]]) w₀ w₀ [stb zhk 262 [(.int .i64 zez.fE)]]) :
  Calls Tryz.prog 148 #[(.pointer (some ⟨zhk,0,none⟩)),(.agg #[(.int .i64 z3T.fBurst.fN),(.int .i64 z3T.fBurst.fD),(.int .i64 z3T.fRate.fN),(.int .i64 z3T.fRate.fD)]),(.agg #[(.int .i64 zeA.fN),(.int .i64 zeA.fD)])] w₀ fun e w'=>e = .returned (.agg #[(.int .i64 r.1.fN),(.int .i64 r.1.fD)]) ∧ Hp (fps [stb zhk 262 [(.int .i64 zez.fE)]]) w₀ w' [stb zhk 262 [(.int .i64 r.2.fE)]]:=by
 unfold y1X at h
 refine Calls.oh3 Tryz.func148 Tryz.ntmps148 hown ?_
 refine WC.b (WC.a (WL.nA 4 (yH (cs:=[(.int .i64 z3T.fBurst.fN),(.int .i64 z3T.fBurst.fD),(.int .i64 z3T.fRate.fN),(.int .i64 z3T.fRate.fD)]) rfl rfl) ?_))
 intro zNJ _
 refine WL.nA 5 (yH (cs:=[(.int .i64 zeA.fN),(.int .i64 zeA.fD)]) rfl rfl) ?_
 intro zXy _
 refine WL.nA 6 (yw (cs:=[(.int .i64 0),(.int .i64 0)]) zH rfl) ?_
 intro zXz _
 refine WL.nil (WX.a (WC.b ?_))
 obtain ⟨ztT,zNK,h⟩:=z6 h
 obtain ⟨ztU,zNL,h⟩:=z6 h
 refine WC.yO (fun i=>[7,8,9].contains i) [y71 zNJ 171 [(0,(.int .i64 z3T.fBurst.fN)),(1,(.int .i64 z3T.fBurst.fD))]] rfl (WD.pA 0 7 rfl (fun _=>q_m rfl) (WD.pA 1 8 rfl (fun _=>ya y4z rfl rfl) (WD.sA 2 9 rfl (Sin.wk (.cons .h2 .nil) (.stb (.cons rfl (.cons rfl .nil)) .nil)) (yT (cs:=[(.int .i64 z3T.fBurst.fN),(.int .i64 z3T.fBurst.fD)]) zb rfl rfl (ya3 .here ((.head _)) ((.tail _ (.head _))))) (WD.pA 3 10 rfl (fun _=>q_m rfl) (WD.pA 4 11 rfl (fun _=>ya y5A rfl rfl) (WD.qA 5 12 rfl (yT (cs:=[(.int .i64 z3T.fRate.fN),(.int .i64 z3T.fRate.fD)]) zb rfl rfl (y31 (s:=2) .h2 rfl)) (WD.qA 6 13 rfl (yf zb rfl (yh .h1) rfl) (WD.call0 (i:=7) (dd:=14) rfl (by kernel_rfl) rfl rfl rfl (.inl ⟨rfl,(Sin.wk (.cons .h3 .nil) (.stb (.cons rfl (.cons rfl .nil)) .nil))⟩) (z8 Tryz.call167 (.r4 rfl rfl rfl rfl)) (.cons .h3 .nil) (cc hz (.cons .h3 .nil) fun w pz ho=>Calls.mono (y5q _ _ (z8k:=70) (zcc:=[]) _ (zab:=(fun (y0 : z1) (y1 : z1)=>y3b y0 y1)) _ _ _ zNK w pz Tryz.call70 (fun w' hz' y0 y1  r  hr=>yaQ _ _ _ _ hr w' hz' ) ho) (fun _ _ h'=>⟨h'.1,trivial,h'.2⟩)) ?_))))))))
 intro _
 refine WD.call0 (i:=8) (dd:=15) rfl (by kernel_rfl) rfl rfl rfl (.inl ⟨rfl,(Sin.wk (.cons .h3 .nil) (.stb (.cons rfl (.cons rfl .nil)) .nil))⟩) (z8 Tryz.call167 (.r4 rfl rfl rfl rfl)) (.cons .here .nil) (cc hz (.cons .here .nil) fun w pz ho=>Calls.mono (y5q _ _ (z8k:=69) (zcc:=[]) _ (zab:=(fun (y0 : z1) (y1 : z1)=>y1c y0 y1)) _ _ _ zNL w pz Tryz.call69 (fun w' hz' y0 y1  r  hr=>y5T _ _ _ _ hr w' hz' ) ho) (fun _ _ h'=>⟨h'.1,trivial,h'.2⟩)) ?_
 intro _
 refine WD.y3l (i:=9) rfl (by kernel_rfl) rfl rfl rfl (by kernel_rfl) (yl zq rfl rfl rfl .h1 rfl rfl rfl) (WD.done (by kernel_rfl) (WX.a (WC.ret ?_)))
 obtain rfl:=Option.some.inj h
 refine WX.ye Tryz.results148 (.agg rfl zb rfl (yh .here) .nil) (fun w hw=>?_)
 exact ⟨yC rfl,hw.sub (.cons .h1 .nil)⟩
def y1b (z1G : List z1) (z7T : z1 → z1 → Option Int) (zav : Int → Int → Option z1) : Nat → Int → Int → Int → Option z1
 | 0,_,_,_=>none
 | ztV + 1,z23,z5l,z5m=>if decide (z23 < ((z1G.length : Nat) : Int)) then jp2 (fun (zaw : Int) (zax : Int)=>y1b z1G z7T zav ztV (i64 (z23 + 1)) zaw zax) fun zni=>chk ((0 : Int) ≤ z23 ∧ z23 < ((z1G.length : Nat) : Int)) ((z7T (⟨((nth z1G z23).fN),((nth z1G z23).fD)⟩ : z1) (⟨z5l,z5m⟩ : z1)).bind fun ztW=>if decide (ztW < 0) then chk ((0 : Int) ≤ z23 ∧ z23 < ((z1G.length : Nat) : Int)) (zni ((nth z1G z23).fN) ((nth z1G z23).fD)) else zni z5l z5m) else zav z5l z5m
theorem y61 {n : Nat} {z1G : List z1} {z7T : z1 → z1 → Option Int} {zav : Int → Int → Option z1} {z23 : Int} {z5l : Int} {z5m : Int} {r : z1} (h : y1b z1G z7T zav n z23 z5l z5m = some r) : ∃ m,n = m + 1:=by
 cases n with
 | zero=>cases h
 | succ m=>exact ⟨m,rfl⟩
def y25 (z1G : List z1) (z7T : z1 → z1 → Option Int) : Option z1 :=
 if decide (((z1G.length : Nat) : Int) < 1) then none else chk ((0 : Int) ≤ 0 ∧ 0 < ((z1G.length : Nat) : Int)) (jp2 (fun (zcx : Int) (zcy : Int)=>some (⟨zcx,zcy⟩ : z1)) fun zav=>y1b z1G z7T zav yz 1 ((nth z1G 0).fN) ((nth z1G 0).fD))
theorem y7k (Z : Zp) (znj : Option Addr) (znk : Nat) (zcz : FuncId) (zhl : List Value) (z1G : List z1) (z7T : z1 → z1 → Option Int) (r : z1)
  (h : y25 z1G z7T = some r) (w₀ : World) (hz : PZ [] w₀ Z)
  (ztX : ZS Z 2 (fun r x=>r = yu x) znj znk z1G)
  (zNM : ∀ args w,(callFunc zcz args).run Tryz.prog w = .ok (.enter zcz args) w)
  (zNN : ∀ w : World,PZ [] w Z → ∀ (x0 : z1) (x1 : z1) (r : Int),z7T x0 x1 = some r → Calls Tryz.prog zcz (([(.agg #[(.int .i64 x0.fN),(.int .i64 x0.fD)]),(.agg #[(.int .i64 x1.fN),(.int .i64 x1.fD)])] : List Value) ++ zhl).toArray w fun e w'=>e = .returned (.int .i64 r) ∧ Hp [] w w' []) :
  Calls Tryz.prog 149 #[(.slice znj z1G.length znk),(.func (.func zcz) #[] (zhl).toArray)] w₀ fun e w'=>e = .returned (.agg #[(.int .i64 r.fN),(.int .i64 r.fD)]) ∧ Hp [] w₀ w' []:=by
 unfold y25 at h
 refine Calls.yJ Tryz.func149 Tryz.ntmps149 ?_
 refine WC.b (WC.a (WL.nA 4 (yw (cs:=[(.int .i64 0),(.int .i64 0)]) zH rfl) ?_))
 intro zhm _
 refine WL.nil (WX.a (WC.b (WC.b (WC.a (WL.pu rfl (WL.qA 8 (yG Tryz.underlying175 rfl) (WL.pu rfl (WL.nil (WX.a (WC.cond rfl (fun ztY=>?_) (fun ztY=>?_)))))))))))
 ·replace h:=yo h ztY
  cases h
 ·replace h:=yp h ztY
  refine WC.skip (WX.a (WC.b ?_))
  obtain ⟨zNO,h⟩:=yn h
  refine WC.a (WL.pu rfl (WL.znth (dd:=12) rfl rfl (Z:=Z) (Pr:=(fun r x=>r = yu x)) z1H rfl rfl ztX zNO ?_))
  rintro zXA zXB zNP zXC rfl
  refine WL.qA 13 (yf zb rfl (y2v hz.pv zNP) rfl) (WL.nA 5 (yw (cs:=[(.int .i64 0),(.int .i64 0)]) zH rfl) ?_)
  intro zhn _
  refine WL.yj rfl rfl (yl zq rfl rfl rfl .here rfl rfl rfl) (WL.nil (WX.a ?_))
  obtain ⟨zav,zNQ,h⟩:=y3W h
  refine WC.y4L (fun (zcx : Int) (zcy : Int)=>(zav zcx zcy = some r)) (fun zcx zcy=>[(4,(.pointer (some ⟨zhm,0,none⟩))),(5,(.pointer (some ⟨zhn,0,none⟩)))]) (fun zcx zcy=>[stb zhm 132 [(.int .i64 0),(.int .i64 0)],stb zhn 132 [(.int .i64 zcx),(.int .i64 zcy)]]) ?_ ?_
  ·skip
   refine WC.b (WC.a (WL.pu rfl (WL.nil (WX.a (WC.block (WC.y5y (fun (zho : Nat) (z23 : Int) (z5l : Int) (z5m : Int)=>(y1b z1G z7T zav zho z23 z5l z5m = some r)) (fun zho z23 z5l z5m=>[(0,(.slice znj z1G.length znk)),(1,(.func (.func zcz) #[] (zhl).toArray)),(4,(.pointer (some ⟨zhm,0,none⟩))),(5,(.pointer (some ⟨zhn,0,none⟩))),(6,(.int .i64 z23))]) (fun zho z23 z5l z5m=>[stb zhm 132 [(.int .i64 0),(.int .i64 0)],stb zhn 132 [(.int .i64 z5l),(.int .i64 z5m)]]) (fun zho z23 z5l z5m=>zho) ⟨yz,1,((nth z1G 0).fN),((nth z1G 0).fD)⟩ h (.r5 rfl rfl rfl rfl rfl) (.s2 .h1 .here) ?_))))))
   rintro zho z23 z5l z5m h
   obtain ⟨ztV,rfl⟩:=y61 h
   rw [y1b] at h
   refine WC.b (WC.b (WC.a (WL.pu rfl (WL.pu rfl (WL.qA 16 (yG Tryz.underlying175 rfl) (WL.pu rfl (WL.nil (WX.a (WC.cond rfl (fun ztZ=>?_) (fun ztZ=>?_))))))))))
   ·replace h:=yo h ztZ
    refine WC.skip (WX.a ?_)
    obtain ⟨zni,zNR,h⟩:=y3W h
    refine WC.y4L (fun (zaw : Int) (zax : Int)=>(zni zaw zax = some r)) (fun zaw zax=>[(0,(.slice znj z1G.length znk)),(1,(.func (.func zcz) #[] (zhl).toArray)),(4,(.pointer (some ⟨zhm,0,none⟩))),(5,(.pointer (some ⟨zhn,0,none⟩))),(6,(.int .i64 z23))]) (fun zaw zax=>[stb zhm 132 [(.int .i64 0),(.int .i64 0)],stb zhn 132 [(.int .i64 zaw),(.int .i64 zax)]]) ?_ ?_
    ·skip
     refine WC.block (WC.b ?_)
     obtain ⟨zNS,h⟩:=yn h
     obtain ⟨ztW,zNT,h⟩:=z6 h
     refine WC.yO (fun i=>[].contains i) [] rfl (WD.pA 0 20 rfl (fun _=>q_m rfl) (WD.pA 1 21 rfl (fun _=>q_m rfl) (WD.pA 2 22 rfl (fun _=>q_m rfl) (WD.znth (j:=3) (dd:=23) (by kernel_rfl) rfl z2j z2k rfl rfl (Z:=Z) (Pr:=(fun r x=>r = yu x)) z1H rfl rfl ztX zNS ?_))))
     rintro zXD zXE zNU zXF rfl
     refine WD.qA 4 24 rfl (yf zb rfl (y2v hz.pv zNU) rfl) (WD.qA 5 25 rfl (yf zb rfl (yh .h1) rfl) (WD.eA 6 26 rfl (y2t (l:=[.tmp 24,.tmp 25]) (f:=zcz) (caps:=zhl) zNM rfl (.r2 rfl rfl)) (fun w hw=>zNN w (hz.now hw) (⟨((nth z1G z23).fN),((nth z1G z23).fD)⟩ : z1) (⟨z5l,z5m⟩ : z1) ztW  zNT) (WD.pA 7 27 rfl (fun _=>q_lss rfl rfl) (WD.done (by kernel_rfl) (WX.a (WC.cond rfl (fun zu0=>?_) (fun zu0=>?_)))))))
     ·replace h:=yo h zu0
      obtain ⟨zNV,h⟩:=yn h
      refine WC.a (WL.pu rfl (WL.pu rfl (WL.znth (dd:=30) rfl rfl (Z:=Z) (Pr:=(fun r x=>r = yu x)) z1H rfl rfl ztX zNV ?_)))
      rintro zXG zXH zNW zXI rfl
      refine WL.qA 31 (yf zb rfl (y2v hz.pv zNW) rfl) (WL.yj rfl rfl (yl zq rfl rfl rfl .h1 rfl rfl rfl) (WL.nil (WX.yk ?_)))
      exact WX.mid ⟨((nth z1G z23).fN),((nth z1G z23).fD)⟩ h (.r5 rfl rfl rfl rfl rfl) (.s2 .h1 .here)
     ·replace h:=yp h zu0
      refine WC.skip (WX.yk ?_)
      exact WX.mid ⟨z5l,z5m⟩ h (.r5 rfl rfl rfl rfl rfl) (.s2 .here .here)
    ·rintro zaw zax h
     replace h:=(zNR zaw zax).symm.trans h
     refine WC.a (WL.pu rfl (WL.pu rfl (WL.pu rfl (WL.nil ?_))))
     exact WX.round ⟨ztV,(i64 (z23 + 1)),zaw,zax⟩ h (Nat.lt_succ_self _) (.r5 rfl rfl rfl rfl rfl) (.s2 .here .here)
   ·replace h:=yp h ztZ
    refine WC.exit (WX.yg (WX.yg (WX.yA ?_)))
    exact WX.mid ⟨z5l,z5m⟩ h (.r2 rfl rfl) (.s2 .here .here)
  ·rintro zcx zcy h
   replace h:=(zNQ zcx zcy).symm.trans h
   refine WC.b (WC.a (WL.qA 32 (yf zb rfl (yh .h1) rfl) (WL.yj rfl rfl (yl zq rfl rfl rfl .here rfl rfl rfl) (WL.nil (WX.a (WC.ret ?_))))))
   obtain rfl:=Option.some.inj h
   refine WX.ye Tryz.results149 (.agg rfl zb rfl (yh .here) .nil) (fun w hw=>?_)
   exact ⟨yC rfl,hw.sub .nil⟩
def y2N (z3x : List z2) (z4W : z1) (zay : (List z1) → Int → Option (z1 × Int)) : Nat → (List z1) → Int → Int → Option (z1 × Int)
 | 0,_,_,_=>none
 | zu1 + 1,z3U,z3V,z6T=>if decide (z3V < ((z3x.length : Nat) : Int)) then chk ((0 : Int) ≤ z3V ∧ z3V < ((z3x.length : Nat) : Int)) ((y1X (⟨z6T⟩ : z18) (⟨(⟨(((nth z3x z3V).fBurst).fN),(((nth z3x z3V).fBurst).fD)⟩ : z1),(⟨(((nth z3x z3V).fRate).fN),(((nth z3x z3V).fRate).fD)⟩ : z1)⟩ : z2) z4W).bind fun zaz=>chk ((((z3U ++ ([zaz.1] : List z1)).length : Nat) : Int) * 16 ≤ 140737488355328 ∧ (((z3U ++ ([zaz.1] : List z1)).length : Nat) : Int) ≤ 4611686018427387904) (y2N z3x z4W zay zu1 (z3U ++ ([zaz.1] : List z1)) (i64 (z3V + 1)) zaz.2.fE)) else zay z3U z6T
theorem yaT {n : Nat} {z3x : List z2} {z4W : z1} {zay : (List z1) → Int → Option (z1 × Int)} {z3U : List z1} {z3V : Int} {z6T : Int} {r : z1 × Int} (h : y2N z3x z4W zay n z3U z3V z6T = some r) : ∃ m,n = m + 1:=by
 cases n with
 | zero=>cases h
 | succ m=>exact ⟨m,rfl⟩
def y4n (z3x : List z2) (z4W : z1) : Option (z1 × Int) :=
 (y4c z3x).bind fun zCa=>(if !zCa then some true else (y52 z4W).bind fun zCb=>some (!zCb)).bind fun zu2=>if zu2 then some ((⟨0,0⟩ : z1),2) else jp2 (fun (z8u : List z1) (z8v : Int)=>if decide (z8v ≠ 0) then some ((⟨0,0⟩ : z1),z8v) else (y25 z8u (fun (y0 : z1) (y1 : z1)=>y1i y0 y1)).bind fun zCc=>some (zCc,0)) fun zay=>y2N z3x z4W zay yz ([] : List z1) 0 0
theorem yf0 (Z : Zp) (zu3 : Option Addr) (zu4 : Nat) (z3x : List z2) (z4W : z1) (r : z1 × Int)
  (h : y4n z3x z4W = some r) (w₀ : World) (hz : PZ [] w₀ Z)
  (zCd : ZS Z 4 (fun r x=>r = y1D x) zu3 zu4 z3x) :
  Calls Tryz.prog 108 #[(.slice zu3 z3x.length zu4),(.agg #[(.int .i64 z4W.fN),(.int .i64 z4W.fD)])] w₀ fun e w'=>e = .returned (.tuple #[(.agg #[(.int .i64 r.1.fN),(.int .i64 r.1.fD)]),(.int .i64 r.2)]) ∧ Hp [] w₀ w' []:=by
 unfold y4n at h
 refine Calls.yJ Tryz.func108 Tryz.ntmps108 ?_
 refine WC.b (WC.a (WL.nA 3 (yH (cs:=[(.int .i64 z4W.fN),(.int .i64 z4W.fD)]) rfl rfl) ?_))
 intro zCe _
 refine WL.nA 4 (yw (cs:=[(.int .i64 0),(.int .i64 0)]) zH rfl) ?_
 intro znl _
 refine WL.pu rfl (WL.nil (WX.a (WC.b (WC.b ?_))))
 obtain ⟨zCa,zNX,h⟩:=z6 h
 obtain ⟨zu2,zCf,h⟩:=z6 h
 refine WC.a (WL.pu rfl (WL.cA 11 (z8 Tryz.call146 (.cons rfl .nil)) .nil (cc hz .nil fun w pz ho=>y7d _ _ _ _ _ zNX w pz zCd) (WL.pu rfl (WL.pu rfl (WL.seg false 3 13 (B:=zu2) rfl rfl rfl rfl rfl rfl (fun h=>(Option.some.inj (yo zCf h)).symm) (fun _ zNY=>?_) ?_)))))
 ·skip
  have zkj:=yp zCf zNY
  obtain ⟨zCb,zNZ,zkj⟩:=z6 zkj
  replace zkj:=Option.some.inj zkj
  refine WL.qA 14 (yf zb rfl (yh .h1) rfl) (WL.cA 15 (z8 Tryz.call147 (.cons rfl .nil)) .nil (cc hz .nil fun w pz ho=>y8T _ _ _ zNZ w pz ) (WL.pu rfl (WL.pu rfl ?_)))
  exact WL.yB zkj rfl rfl .all
 refine WL.nil (WX.a (WC.cond rfl (fun zu5=>?_) (fun zu5=>?_)))
 ·replace h:=yo h zu5
  refine WC.b (WC.a (WL.qA 18 (yI (v:=(.agg #[(.int .i64 0),(.int .i64 0)])) (Eos.parts (l:=[]) .nil []) (fun _=>by kernel_rfl)) (WL.yj rfl rfl (yl zq rfl rfl rfl .here rfl rfl rfl) (WL.pu rfl (WL.nil (WX.a (WC.ret (WX.yd ?_))))))))
  obtain rfl:=Option.some.inj h
  refine WX.ye Tryz.results108 (.agg rfl zb rfl (yh .here) (.tmp rfl .nil)) (fun w hw=>?_)
  exact ⟨y1Z rfl rfl,hw.sub .nil⟩
 ·replace h:=yp h zu5
  refine WC.skip (WX.a (WC.b (WC.a (WL.nA 6 (yw (cs:=[(.int .i64 0)]) zwU rfl) ?_))))
  intro zkk _
  refine WL.nil (WX.a (WC.b (WC.a (WL.pu rfl (WL.nil (WX.a ?_))))))
  obtain ⟨zay,zO0,h⟩:=y3W h
  refine WC.y8t (fun (z8u : List z1) (z8v : Int) (zkl : Option Addr) (zkm : Nat)=>(zay z8u z8v = some r)) (fun z8u z8v zkl zkm=>[(4,(.pointer (some ⟨znl,0,none⟩))),(6,(.pointer (some ⟨zkk,0,none⟩))),(7,(.slice zkl z8u.length zkm))]) (fun z8u z8v zkl zkm=>[row (.slice zkl z8u.length zkm) 132 2 (z8u.flatMap yu),stb znl 132 [(.int .i64 0),(.int .i64 0)],stb zkk 262 [(.int .i64 z8v)]]) ?_ ?_
  ·skip
   refine WC.b (WC.a (WL.pu rfl (WL.qA 20 (yG Tryz.underlying173 rfl) (WL.pu rfl (WL.nil (WX.a (WC.block (WC.nilRow 132 2 (WC.ybA (fun (zhp : Nat) (z3U : List z1) (z3V : Int) (z6T : Int) (zeB : Option Addr) (zeC : Nat)=>(y2N z3x z4W zay zhp z3U z3V z6T = some r)) (fun zhp z3U z3V z6T zeB zeC=>[(3,(.pointer (some ⟨zCe,0,none⟩))),(4,(.pointer (some ⟨znl,0,none⟩))),(6,(.pointer (some ⟨zkk,0,none⟩))),(7,(.slice zeB z3U.length zeC)),(19,(.slice zu3 z3x.length zu4)),(20,(.int .i64 ((z3x.length : Nat) : Int))),(21,(.int .i64 z3V))]) (fun zhp z3U z3V z6T zeB zeC=>[row (.slice zeB z3U.length zeC) 132 2 (z3U.flatMap yu),stb zCe 132 [(.int .i64 z4W.fN),(.int .i64 z4W.fD)],stb znl 132 [(.int .i64 0),(.int .i64 0)],stb zkk 262 [(.int .i64 z6T)]]) (fun zhp z3U z3V z6T zeB zeC=>zhp) ⟨yz,([] : List z1),0,0,none,0⟩ h (.r7 rfl rfl rfl rfl rfl rfl rfl) (.s4 .here .h2 .h1 .here) ?_)))))))))
   rintro zhp z3U z3V z6T zeB zeC h
   obtain ⟨zu1,rfl⟩:=yaT h
   rw [y2N] at h
   refine WC.b (WC.a (WL.pu rfl (WL.nil (WX.a (WC.b (WC.cond rfl (fun zu6=>?_) (fun zu6=>?_)))))))
   ·replace h:=yo h zu6
    refine WC.skip (WX.a (WC.b (WC.block (WC.b ?_))))
    obtain ⟨zO1,h⟩:=yn h
    refine WC.a (WL.znth (dd:=23) rfl rfl (Z:=Z) (Pr:=(fun r x=>r = y1D x)) z5U rfl rfl zCd zO1 ?_)
    rintro zXJ zXK zO2 zXL rfl
    refine WL.qA 24 (yf z28 rfl (y2v hz.pv zO2) rfl) (WL.nA 9 (yw (cs:=[(.int .i64 0),(.int .i64 0),(.int .i64 0),(.int .i64 0)]) z9d rfl) ?_)
    intro zXM _
    refine WL.yj rfl rfl (yl z82 rfl rfl rfl .here rfl rfl rfl) (WL.nil (WX.a ?_))
    obtain ⟨zaz,zO3,h⟩:=z6 h
    obtain ⟨zO4,h⟩:=yn h
    refine WC.a (WL.pu rfl (WL.qA 26 (yf z28 rfl (yh .here) rfl) (WL.qA 27 (yf zb rfl (yh .h2) rfl) (WL.cA 28 (z8 Tryz.call148 (.r3 rfl rfl rfl)) (.cons .h4 .nil) (cc hz (.cons .h4 .nil) fun w pz ho=>yaS _ _ _ _ _ _ zO3 w pz  ho) (WL.nA 29 (yN (cs:=([zaz.1] : List z1).flatMap yu) z1H (Eos.parts (l:=[.tmp 28]) (.cons rfl .nil) [0]) (fun _=>by kernel_rfl) rfl (by unfold maxLen; omega)) ?_)))))
    intro zXN _
    refine WL.fA 30 (y4S (enc:=yu) (l1:=z3U) (l2:=([zaz.1] : List z1)) z1H rfl rfl .h3 (fun _=>rfl) rfl rfl (y3C .here) (y5d yb7 _) zO4) ?_
    rintro ⟨zO5,zO6⟩ _
    refine WL.pu rfl (WL.nil (WX.yk (WX.a (WC.a (WL.pu rfl (WL.pu rfl (WL.nil ?_)))))))
    exact WX.round ⟨zu1,(z3U ++ ([zaz.1] : List z1)),(i64 (z3V + 1)),zaz.2.fE,zO5,zO6⟩ h (Nat.lt_succ_self _) (.r7 rfl rfl rfl rfl rfl rfl rfl) (.s4 .here .h3 .h3 .h1)
   ·replace h:=yp h zu6
    refine WC.exit (WX.yg (WX.yg (WX.yA ?_)))
    exact WX.mid ⟨z3U,z6T,zeB,zeC⟩ h (.r3 rfl rfl rfl) (.s3 .here .h1 .h1)
  ·rintro z8u z8v zkl zkm h
   replace h:=(zO0 z8u z8v).symm.trans h
   refine WC.b (WC.b (WC.a (WL.qA 32 (ya y7X rfl rfl) (WL.qA 33 (yc y2Z rfl (ym .h2 rfl)) (WL.pu rfl (WL.nil (WX.a (WC.cond rfl (fun zu7=>?_) (fun zu7=>?_)))))))))
   ·replace h:=yo h zu7
    refine WC.b (WC.yO (fun i=>[3].contains i) [y71 zkk 262 [(0,(.int .i64 z8v))]] rfl (WD.pA 0 35 rfl (fun _=>yI (v:=(.agg #[(.int .i64 0),(.int .i64 0)])) (Eos.parts (l:=[]) .nil []) (fun _=>by kernel_rfl)) (WD.pA 1 36 rfl (fun _=>ya y7X rfl rfl) (WD.sA 2 37 rfl (Sin.wk (.cons .h2 .nil) (.stb (.cons rfl .nil) .nil)) (yc y2Z rfl (y5e .here (.head _))) (WD.forced0 (i:=3) rfl (by kernel_rfl) rfl rfl rfl (Sin.wk (.cons .h2 .nil) (.stb (.cons rfl .nil) .nil)) (yl zq rfl rfl rfl .h1 rfl rfl rfl) (WD.pA 4 5 rfl (fun _=>q_z rfl) (WD.done (by kernel_rfl) (WX.a (WC.ret (WX.yd ?_))))))))))
    obtain rfl:=Option.some.inj h
    refine WX.ye Tryz.results108 (.agg rfl zb rfl (yh .here) (.tmp rfl .nil)) (fun w hw=>?_)
    exact ⟨y1Z rfl rfl,hw.sub .nil⟩
   ·replace h:=yp h zu7
    refine WC.skip (WX.a (WC.b ?_))
    obtain ⟨zCc,zO7,h⟩:=z6 h
    refine WC.a (WL.pu rfl (WL.cA 39 (z8 Tryz.call149 (.r2 rfl rfl)) .nil (ccl hz .nil (.cons .here .nil) fun w pz ho la=>y7k _ _ _ (zcz:=79) (zhl:=[]) _ (z7T:=(fun (y0 : z1) (y1 : z1)=>y1i y0 y1)) _ zO7 w pz (ZA.row (la _ (.head _) _) (RR.flat (enc:=yu) (fun _=>rfl) _) ⟨w,pz.1⟩) Tryz.call79 (fun w' hz' y0 y1  r  hr=>y4d _ _ _ _ hr w' hz' )) (WL.yj rfl rfl (yl zq rfl rfl rfl .h1 rfl rfl rfl) (WL.pu rfl (WL.nil (WX.a (WC.ret ?_)))))))
    obtain rfl:=Option.some.inj h
    refine WX.ye Tryz.results108 (.agg rfl zb rfl (yh .here) (.tmp rfl .nil)) (fun w hw=>?_)
    exact ⟨y1Z rfl rfl,hw.sub .nil⟩
def y26 (z4w : List (List z2)) (z4x : z1) (zaA : Int → Int → Int → Option (z1 × z18)) : Nat → Int → Int → Int → Int → Option (z1 × z18)
 | 0,_,_,_,_=>none
 | zu8 + 1,z4X,z5F,z6c,z6d=>if decide (z4X < ((z4w.length : Nat) : Int)) then chk ((0 : Int) ≤ z4X ∧ z4X < ((z4w.length : Nat) : Int)) ((y4n (nth z4w z4X) z4x).bind fun zhq=>jp1 (fun (zcA : Int)=>(y12 (⟨zcA⟩ : z18) (fun (y0 : z1) (y1 : z1)=>y1c y0 y1) (⟨z6c,z6d⟩ : z1) zhq.1).bind fun zeD=>y26 z4w z4x zaA zu8 (i64 (z4X + 1)) zeD.2.fE zeD.1.fN zeD.1.fD) fun znm=>if decide (z5F = 0) then znm zhq.2 else znm z5F) else zaA z6c z6d z5F
theorem y7M {n : Nat} {z4w : List (List z2)} {z4x : z1} {zaA : Int → Int → Int → Option (z1 × z18)} {z4X : Int} {z5F : Int} {z6c : Int} {z6d : Int} {r : z1 × z18} (h : y26 z4w z4x zaA n z4X z5F z6c z6d = some r) : ∃ m,n = m + 1:=by
 cases n with
 | zero=>cases h
 | succ m=>exact ⟨m,rfl⟩
def y30 (zcB : z18) (z4w : List (List z2)) (z4x : z1) : Option (z1 × z18) :=
 (y2E).bind fun zkn=>jp3 (fun (zcC : Int) (zcD : Int) (zcE : Int)=>some ((⟨zcC,zcD⟩ : z1),(⟨zcE⟩ : z18))) fun zaA=>y26 z4w z4x zaA yz 0 zcB.fE zkn.fN zkn.fD
theorem y7t (Z : Zp) (z7U : Nat) (znn : Option Addr) (zno : Nat) (zcB : z18) (z4w : List (List z2)) (z4x : z1) (r : z1 × z18)
  (h : y30 zcB z4w z4x = some r) (w₀ : World) (hz : PZ (fps [stb z7U 225 [(.int .i64 zcB.fE)]]) w₀ Z)
  (zO8 : ZS Z 1 (y1T Z) znn zno z4w)
  (hown : Hp (fps [stb z7U 225 [(.int .i64 zcB.fE)]]) w₀ w₀ [stb z7U 225 [(.int .i64 zcB.fE)]]) :
  Calls Tryz.prog 76 #[(.pointer (some ⟨z7U,0,none⟩)),(.slice znn z4w.length zno),(.agg #[(.int .i64 z4x.fN),(.int .i64 z4x.fD)])] w₀ fun e w'=>e = .returned (.agg #[(.int .i64 r.1.fN),(.int .i64 r.1.fD)]) ∧ Hp (fps [stb z7U 225 [(.int .i64 zcB.fE)]]) w₀ w' [stb z7U 225 [(.int .i64 r.2.fE)]]:=by
 unfold y30 at h
 refine Calls.oh3 Tryz.func76 Tryz.ntmps76 hown ?_
 refine WC.b (WC.a (WL.nA 5 (yH (cs:=[(.int .i64 z4x.fN),(.int .i64 z4x.fD)]) rfl rfl) ?_))
 intro znp _
 refine WL.nA 6 (yw (cs:=[(.int .i64 0),(.int .i64 0)]) zH rfl) ?_
 intro zhr _
 refine WL.nil (WX.a (WC.b ?_))
 obtain ⟨zkn,zO9,h⟩:=z6 h
 refine WC.a (WL.cA 12 (z8 Tryz.call107 .nil) .nil (cc hz .nil fun w pz ho=>y41 _ _ zO9 w pz ) (WL.nA 7 (yw (cs:=[(.int .i64 0),(.int .i64 0)]) zH rfl) ?_))
 intro zhs _
 refine WL.yj rfl rfl (yl zq rfl rfl rfl .here rfl rfl rfl) (WL.nil (WX.a ?_))
 obtain ⟨zaA,zOa,h⟩:=y9Z h
 refine WC.y2u (fun (zcC : Int) (zcD : Int) (zcE : Int)=>(zaA zcC zcD zcE = some r)) (fun zcC zcD zcE=>[(6,(.pointer (some ⟨zhr,0,none⟩))),(7,(.pointer (some ⟨zhs,0,none⟩)))]) (fun zcC zcD zcE=>[stb zhr 132 [(.int .i64 0),(.int .i64 0)],stb zhs 132 [(.int .i64 zcC),(.int .i64 zcD)],stb z7U 225 [(.int .i64 zcE)]]) ?_ ?_
 ·skip
  refine WC.b (WC.a (WL.pu rfl (WL.qA 14 (yG Tryz.underlying128 rfl) (WL.pu rfl (WL.nil (WX.a (WC.block (WC.y5V (fun (zht : Nat) (z4X : Int) (z5F : Int) (z6c : Int) (z6d : Int)=>(y26 z4w z4x zaA zht z4X z5F z6c z6d = some r)) (fun zht z4X z5F z6c z6d=>[(0,(.pointer (some ⟨z7U,0,none⟩))),(5,(.pointer (some ⟨znp,0,none⟩))),(6,(.pointer (some ⟨zhr,0,none⟩))),(7,(.pointer (some ⟨zhs,0,none⟩))),(13,(.slice znn z4w.length zno)),(14,(.int .i64 ((z4w.length : Nat) : Int))),(15,(.int .i64 z4X))]) (fun zht z4X z5F z6c z6d=>[stb z7U 225 [(.int .i64 z5F)],stb znp 132 [(.int .i64 z4x.fN),(.int .i64 z4x.fD)],stb zhr 132 [(.int .i64 0),(.int .i64 0)],stb zhs 132 [(.int .i64 z6c),(.int .i64 z6d)]]) (fun zht z4X z5F z6c z6d=>zht) ⟨yz,0,zcB.fE,zkn.fN,zkn.fD⟩ h (.r7 rfl rfl rfl rfl rfl rfl rfl) (.s4 .h3 .h2 .h1 .here) ?_))))))))
  rintro zht z4X z5F z6c z6d h
  obtain ⟨zu8,rfl⟩:=y7M h
  rw [y26] at h
  refine WC.b (WC.a (WL.pu rfl (WL.nil (WX.a (WC.b (WC.cond rfl (fun zu9=>?_) (fun zu9=>?_)))))))
  ·replace h:=yo h zu9
   refine WC.skip (WX.a (WC.b (WC.block (WC.b ?_))))
   obtain ⟨zOb,h⟩:=yn h
   refine WC.a (WL.znth (dd:=17) rfl rfl (Z:=Z) (Pr:=(y1T Z)) z7n rfl rfl zO8 zOb ?_)
   rintro zXO zXP zOc zXQ ⟨zXR,zXS,rfl,zOd⟩
   refine WL.qA 18 (yc zbb rfl (y57 hz.pv zOc rfl)) (WL.pu rfl (WL.nil (WX.a (WC.b ?_))))
   obtain ⟨zhq,zOe,h⟩:=z6 h
   refine WC.a (WL.pu rfl (WL.qA 21 (yf zb rfl (yh .h1) rfl) (WL.cA 22 (z8 Tryz.call108 (.r2 rfl rfl)) .nil (cc hz .nil fun w pz ho=>yf0 _ _ _ _ _ _ zOe w pz zOd) (WL.pu rfl (WL.pu rfl (WL.pu rfl (WL.nA 10 (yw (cs:=[(.int .i64 0),(.int .i64 0)]) zH rfl) ?_)))))))
   intro zCg _
   refine WL.yj rfl rfl (yl zq rfl rfl rfl .here rfl rfl rfl) (WL.pu rfl (WL.nil (WX.a ?_)))
   obtain ⟨znm,zOf,h⟩:=y1d h
   refine WC.y4m (fun (zcA : Int)=>(znm zcA = some r)) (fun zcA=>[(0,(.pointer (some ⟨z7U,0,none⟩))),(5,(.pointer (some ⟨znp,0,none⟩))),(6,(.pointer (some ⟨zhr,0,none⟩))),(7,(.pointer (some ⟨zhs,0,none⟩))),(10,(.pointer (some ⟨zCg,0,none⟩))),(13,(.slice znn z4w.length zno)),(14,(.int .i64 ((z4w.length : Nat) : Int))),(15,(.int .i64 z4X))]) (fun zcA=>[stb z7U 225 [(.int .i64 zcA)],stb znp 132 [(.int .i64 z4x.fN),(.int .i64 z4x.fD)],stb zhr 132 [(.int .i64 0),(.int .i64 0)],stb zhs 132 [(.int .i64 z6c),(.int .i64 z6d)],stb zCg 132 [(.int .i64 zhq.1.fN),(.int .i64 zhq.1.fD)]]) ?_ ?_
   ·skip
    refine WC.b (WC.a (WL.pu rfl (WL.qA 26 (y13 rfl) (WL.qA 27 (ya y4A rfl rfl) (WL.qA 28 (yc y2Z rfl (ym .h1 rfl)) (WL.pu rfl (WL.nil (WX.a (WC.cond rfl (fun zua=>?_) (fun zua=>?_))))))))))
    ·replace h:=yo h zua
     refine WC.a (WL.pu rfl (WL.pu rfl (WL.qA 32 (y13 rfl) (WL.qA 33 (ya y4A rfl rfl) (WL.yj rfl rfl (yl y9D rfl rfl rfl .h1 rfl rfl rfl) (WL.nil ?_))))))
     exact WX.mid zhq.2 h (.r8 rfl rfl rfl rfl rfl rfl rfl rfl) (.s5 .here .h1 .h1 .h1 .here)
    ·replace h:=yp h zua
     refine WC.skip ?_
     exact WX.mid z5F h (.r8 rfl rfl rfl rfl rfl rfl rfl rfl) (.s5 .h1 .h1 .h1 .h1 .here)
   ·rintro zcA h
    replace h:=(zOf zcA).symm.trans h
    obtain ⟨zeD,zOg,h⟩:=z6 h
    refine WC.a (WL.pu rfl (WL.qA 35 (yf zb rfl (yh .h3) rfl) (WL.qA 36 (yf zb rfl (yh .h4) rfl) (WL.cA 37 (z8 Tryz.call73 (.r4 rfl rfl rfl rfl)) (.cons .here .nil) (cc hz (.cons .here .nil) fun w pz ho=>y2l _ _ (z5C:=69) (z6P:=[]) _ (z6a:=(fun (y0 : z1) (y1 : z1)=>y1c y0 y1)) _ _ _ zOg w pz Tryz.call69 (fun w' hz' y0 y1  r  hr=>y5T _ _ _ _ hr w' hz' ) ho) (WL.yj rfl rfl (yl zq rfl rfl rfl .h3 rfl rfl rfl) (WL.nil (WX.yk (WX.a (WC.a (WL.pu rfl (WL.pu rfl (WL.nil ?_))))))))))))
    exact WX.round ⟨zu8,(i64 (z4X + 1)),zeD.2.fE,zeD.1.fN,zeD.1.fD⟩ h (Nat.lt_succ_self _) (.r7 rfl rfl rfl rfl rfl rfl rfl) (.s4 .h1 .h1 .h1 .here)
  ·replace h:=yp h zu9
   refine WC.exit (WX.yg (WX.yg (WX.yA ?_)))
   exact WX.mid ⟨z6c,z6d,z5F⟩ h (.r2 rfl rfl) (.s3 .h2 .h2 .here)
 ·rintro zcC zcD zcE h
  replace h:=(zOa zcC zcD zcE).symm.trans h
  refine WC.b (WC.a (WL.qA 39 (yf zb rfl (yh .h1) rfl) (WL.yj rfl rfl (yl zq rfl rfl rfl .here rfl rfl rfl) (WL.nil (WX.a (WC.ret ?_))))))
  obtain rfl:=Option.some.inj h
  refine WX.ye Tryz.results76 (.agg rfl zb rfl (yh .here) .nil) (fun w hw=>?_)
  exact ⟨yC rfl,hw.sub (.cons .h2 .nil)⟩
def y4t (zeE : z18) (z8w : z1) (zko : List (List z2)) (z6U : zSv) : Option (z1 × z18) :=
 (y30 zeE zko z8w).bind fun zub=>(y12 zub.2 (fun (y0 : z1) (y1 : z1)=>y3w y0 y1) zub.1 z6U.fRate).bind fun zuc=>(y12 zuc.2 (fun (y0 : z1) (y1 : z1)=>y2b y0 y1) zuc.1 z8w).bind fun zud=>(y12 zud.2 (fun (y0 : z1) (y1 : z1)=>y1c y0 y1) zud.1 z6U.fL).bind fun zue=>some (zue.1,zue.2)
theorem yaU (Z : Zp) (zhu : Nat) (zCh : Addr) (zCi : Option Addr) (zCj : Nat) (zCk : Addr) (zeE : z18) (z8w : z1) (zko : List (List z2)) (z6U : zSv) (r : z1 × z18)
  (h : y4t zeE z8w zko z6U = some r) (w₀ : World) (hz : PZ (fps [stb zhu 225 [(.int .i64 zeE.fE)]]) w₀ Z)
  (zOh : ZS Z 1 (y1T Z) zCi zCj zko)
  (zOi : ZC Z zCh [(.slice zCi zko.length zCj)])
  (zCl : ZC Z zCk [(.int .i64 z6U.fRate.fN),(.int .i64 z6U.fRate.fD),(.int .i64 z6U.fL.fN),(.int .i64 z6U.fL.fD)])
  (hown : Hp (fps [stb zhu 225 [(.int .i64 zeE.fE)]]) w₀ w₀ [stb zhu 225 [(.int .i64 zeE.fE)]]) :
  Calls Tryz.prog 72 #[(.pointer (some ⟨zhu,0,none⟩)),(.agg #[(.int .i64 z8w.fN),(.int .i64 z8w.fD)]),(.pointer (some zCh)),(.pointer (some zCk))] w₀ fun e w'=>e = .returned (.agg #[(.int .i64 r.1.fN),(.int .i64 r.1.fD)]) ∧ Hp (fps [stb zhu 225 [(.int .i64 zeE.fE)]]) w₀ w' [stb zhu 225 [(.int .i64 r.2.fE)]]:=by
 unfold y4t at h
 refine Calls.oh4 Tryz.func72 Tryz.ntmps72 hown ?_
 refine WC.b (WC.a (WL.nA 5 (yH (cs:=[(.int .i64 z8w.fN),(.int .i64 z8w.fD)]) rfl rfl) ?_))
 intro zOj _
 refine WL.nA 6 (yw (cs:=[(.int .i64 0),(.int .i64 0)]) zH rfl) ?_
 intro zXT _
 refine WL.nil (WX.a (WC.b ?_))
 obtain ⟨zub,zOk,h⟩:=z6 h
 obtain ⟨zuc,zOl,h⟩:=z6 h
 obtain ⟨zud,zOm,h⟩:=z6 h
 obtain ⟨zue,zOn,h⟩:=z6 h
 refine WC.yO (fun i=>[6,9,11,14,15].contains i) [stb zOj 132 [(.int .i64 z8w.fN),(.int .i64 z8w.fD)]] rfl (WD.pA 0 7 rfl (fun _=>q_m rfl) (WD.pA 1 8 rfl (fun _=>q_m rfl) (WD.pA 2 9 rfl (fun _=>q_m rfl) (WD.pA 3 10 rfl (fun _=>q_m rfl) (WD.qA 4 11 rfl (yc z6A rfl (y57 hz.pv zOi rfl)) (WD.qA 5 12 rfl (yf zb rfl (yh .h1) rfl) (WD.pA 7 14 rfl (fun _=>ya y7V rfl rfl) (WD.sA 8 15 rfl (Sin.of (.cons .h1 .nil)) (yT (cs:=[(.int .i64 z6U.fRate.fN),(.int .i64 z6U.fRate.fD)]) zb rfl rfl (y9u (off:=0) (s:=2) hz.pv zCl rfl)) (WD.sA 10 17 rfl (Sin.of (.cons .h1 .nil)) (yf zb rfl (yh .here) rfl) (WD.pA 12 19 rfl (fun _=>ya y7W rfl rfl) (WD.sA 13 20 rfl (Sin.of (.cons .h1 .nil)) (yT (cs:=[(.int .i64 z6U.fL.fN),(.int .i64 z6U.fL.fD)]) zb rfl rfl (y9u (off:=2) (s:=2) hz.pv zCl rfl)) (WD.call0 (i:=6) (dd:=13) rfl (by kernel_rfl) rfl rfl rfl (.inl ⟨rfl,(Sin.of (.cons .h2 .nil))⟩) (z8 Tryz.call76 (.r3 rfl rfl rfl)) (.cons .h2 .nil) (cc hz (.cons .h2 .nil) fun w pz ho=>Calls.mono (y7t _ _ _ _ _ _ _ _ zOk w pz zOh ho) (fun _ _ h'=>⟨h'.1,trivial,h'.2⟩)) ?_))))))))))))
 intro _
 refine WD.call0 (i:=9) (dd:=16) rfl (by kernel_rfl) rfl rfl rfl (.inl ⟨rfl,(Sin.of (.cons .h2 .nil))⟩) (z8 Tryz.call73 (.r4 rfl rfl rfl rfl)) (.cons .here .nil) (cc hz (.cons .here .nil) fun w pz ho=>Calls.mono (y2l _ _ (z5C:=75) (z6P:=[]) _ (z6a:=(fun (y0 : z1) (y1 : z1)=>y3w y0 y1)) _ _ _ zOl w pz Tryz.call75 (fun w' hz' y0 y1  r  hr=>yd0 _ _ _ _ hr w' hz' ) ho) (fun _ _ h'=>⟨h'.1,trivial,h'.2⟩)) ?_
 intro _
 refine WD.call0 (i:=11) (dd:=18) rfl (by kernel_rfl) rfl rfl rfl (.inl ⟨rfl,(Sin.of (.cons .h2 .nil))⟩) (z8 Tryz.call73 (.r4 rfl rfl rfl rfl)) (.cons .here .nil) (cc hz (.cons .here .nil) fun w pz ho=>Calls.mono (y2l _ _ (z5C:=74) (z6P:=[]) _ (z6a:=(fun (y0 : z1) (y1 : z1)=>y2b y0 y1)) _ _ _ zOm w pz Tryz.call74 (fun w' hz' y0 y1  r  hr=>y8d _ _ _ _ hr w' hz' ) ho) (fun _ _ h'=>⟨h'.1,trivial,h'.2⟩)) ?_
 intro _
 refine WD.call0 (i:=14) (dd:=21) rfl (by kernel_rfl) rfl rfl rfl (.inl ⟨rfl,(Sin.of (.cons .h2 .nil))⟩) (z8 Tryz.call73 (.r4 rfl rfl rfl rfl)) (.cons .here .nil) (cc hz (.cons .here .nil) fun w pz ho=>Calls.mono (y2l _ _ (z5C:=69) (z6P:=[]) _ (z6a:=(fun (y0 : z1) (y1 : z1)=>y1c y0 y1)) _ _ _ zOn w pz Tryz.call69 (fun w' hz' y0 y1  r  hr=>y5T _ _ _ _ hr w' hz' ) ho) (fun _ _ h'=>⟨h'.1,trivial,h'.2⟩)) ?_
 intro _
 refine WD.y3l (i:=15) rfl (by kernel_rfl) rfl rfl rfl (by kernel_rfl) (yl zq rfl rfl rfl .h1 rfl rfl rfl) (WD.done (by kernel_rfl) (WX.a (WC.ret ?_)))
 obtain rfl:=Option.some.inj h
 refine WX.ye Tryz.results72 (.agg rfl zb rfl (yh .here) .nil) (fun w hw=>?_)
 exact ⟨yC rfl,hw.sub (.cons .h1 .nil)⟩
end Go.Proofs.YtcahmabkeaijdaaGreat
