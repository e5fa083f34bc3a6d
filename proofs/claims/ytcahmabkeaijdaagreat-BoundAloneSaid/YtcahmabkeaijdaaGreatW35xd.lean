/- A part of this claim's proof: models of functions, walks, plain laws. No conditions. -/
import Derived.Test.YtcahmabkeaijdaaGreatW35xc
set_option linter.all false
namespace Go.Proofs.YtcahmabkeaijdaaGreat
open Go Go.RowKit Sep
set_option maxRecDepth 30000
set_option maxHeartbeats 4000000
def y1N (zbD : z18) (z9I : z2 → z2 → Option (z2 × Int)) (zbE : z2) (zbF : z2) : Option (z2 × z18) :=
 if decide (zbD.fE ≠ 0) then some ((⟨0,0⟩ : z2),zbD) else (z9I zbE zbF).bind fun zlU=>some (zlU.1,(⟨zlU.2⟩ : z18))
theorem y5n (Z : Zp) (zg8 : Nat) (z7U : FuncId) (zbG : List Value) (zbD : z18) (z9I : z2 → z2 → Option (z2 × Int)) (zbE : z2) (zbF : z2) (r : z2 × z18)
  (h : y1N zbD z9I zbE zbF = some r) (w₀ : World) (hz : PZ (fps [stb zg8 262 [(.int .i64 zbD.fE)]]) w₀ Z)
  (zKt : ∀ args w,(callFunc z7U args).run Tryz.prog w = .ok (.enter z7U args) w)
  (zKu : ∀ w : World,PZ [] w Z → ∀ (x0 : z2) (x1 : z2) (r : z2 × Int),z9I x0 x1 = some r → Calls Tryz.prog z7U (([(.agg #[(.int .i64 x0.fN),(.int .i64 x0.fD)]),(.agg #[(.int .i64 x1.fN),(.int .i64 x1.fD)])] : List Value) ++ zbG).toArray w fun e w'=>e = .returned (.tuple #[(.agg #[(.int .i64 r.1.fN),(.int .i64 r.1.fD)]),(.int .i64 r.2)]) ∧ Hp [] w w' [])
  (hown : Hp (fps [stb zg8 262 [(.int .i64 zbD.fE)]]) w₀ w₀ [stb zg8 262 [(.int .i64 zbD.fE)]]) :
  Calls Tryz.prog 167 #[(.pointer (some ⟨zg8,0,none⟩)),(.func (.func z7U) #[] (zbG).toArray),(.agg #[(.int .i64 zbE.fN),(.int .i64 zbE.fD)]),(.agg #[(.int .i64 zbF.fN),(.int .i64 zbF.fD)])] w₀ fun e w'=>e = .returned (.agg #[(.int .i64 r.1.fN),(.int .i64 r.1.fD)]) ∧ Hp (fps [stb zg8 262 [(.int .i64 zbD.fE)]]) w₀ w' [stb zg8 262 [(.int .i64 r.2.fE)]]:=by
 unfold y1N at h
 refine Calls.oh4 Tryz.func167 Tryz.ntmps167 hown ?_
 refine WC.b (WC.a (WL.nA 6 (yH (cs:=[(.int .i64 zbE.fN),(.int .i64 zbE.fD)]) rfl rfl) ?_))
 intro zUM _
 refine WL.nA 7 (yH (cs:=[(.int .i64 zbF.fN),(.int .i64 zbF.fD)]) rfl rfl) ?_
 intro zUN _
 refine WL.nA 8 (yx (cs:=[(.int .i64 0),(.int .i64 0)]) zH rfl) ?_
 intro zUO _
 refine WL.nil (WX.a (WC.b (WC.b (WC.a (WL.pu rfl (WL.qA 12 (y11 rfl) (WL.qA 13 (ya y7Y rfl rfl) (WL.qA 14 (yc y2Y rfl (yj .h3 rfl)) (WL.pu rfl (WL.nil (WX.a (WC.cond rfl (fun zs3=>?_) (fun zs3=>?_)))))))))))))
 ·replace h:=yo h zs3
  refine WC.b (WC.a (WL.qA 16 (yL (v:=(.agg #[(.int .i64 0),(.int .i64 0)])) (Eos.parts (l:=[]) .nil []) (fun _=>by kernel_rfl)) (WL.yl rfl rfl (yk zq rfl rfl rfl .here rfl rfl rfl) (WL.nil (WX.a (WC.ret (WX.yd ?_)))))))
  obtain rfl:=Option.some.inj h
  refine WX.ye Tryz.results167 (.agg rfl zb rfl (yh .here) .nil) (fun w hw=>?_)
  exact ⟨yC rfl,hw.sub (.cons .h3 .nil)⟩
 ·replace h:=yp h zs3
  refine WC.skip (WX.a (WC.b ?_))
  obtain ⟨zlU,zKv,h⟩:=z7 h
  refine WC.a (WL.pu rfl (WL.qA 19 (yf zb rfl (yh .h2) rfl) (WL.qA 20 (yf zb rfl (yh .h1) rfl) (WL.cA 21 (y2q (l:=[.tmp 19,.tmp 20]) (f:=z7U) (caps:=zbG) zKt rfl (.r2 rfl rfl)) .nil (fun w hw=>zKu w (hz.now hw) zbE zbF zlU  zKv) (WL.pu rfl (WL.pu rfl (WL.pu rfl (WL.nA 9 (yx (cs:=[(.int .i64 0),(.int .i64 0)]) zH rfl) ?_))))))))
  intro zUP _
  refine WL.yl rfl rfl (yk zq rfl rfl rfl .here rfl rfl rfl) (WL.pu rfl (WL.nil (WX.a (WC.b (WC.a (WL.pu rfl (WL.pu rfl (WL.qA 26 (y11 rfl) (WL.qA 27 (ya y7Y rfl rfl) (WL.yl rfl rfl (yk y9A rfl rfl rfl .h4 rfl rfl rfl) (WL.nil (WX.a (WC.b (WC.a (WL.qA 28 (yf zb rfl (yh .h1) rfl) (WL.yl rfl rfl (yk zq rfl rfl rfl .h2 rfl rfl rfl) (WL.nil (WX.a (WC.ret ?_)))))))))))))))))))
  obtain rfl:=Option.some.inj h
  refine WX.ye Tryz.results167 (.agg rfl zb rfl (yh .here) .nil) (fun w hw=>?_)
  exact ⟨yC rfl,hw.sub (.cons .h1 .nil)⟩
def y8z (zg9 : z2) (zga : z2) : Option (Int × Int) :=
 some ((i64 (zg9.fN * zga.fD)),(i64 (zg9.fD * zga.fN)))
theorem yfr (Z : Zp) (zA9 : Addr) (zAa : Addr) (zg9 : z2) (zga : z2) (r : Int × Int)
  (h : y8z zg9 zga = some r) (w₀ : World) (hz : PZ [] w₀ Z)
  (zAb : ZC Z zA9 [(.int .i64 zg9.fN),(.int .i64 zg9.fD)])
  (zAc : ZC Z zAa [(.int .i64 zga.fN),(.int .i64 zga.fD)]) :
  Calls Tryz.prog 144 #[(.pointer (some zA9)),(.pointer (some zAa))] w₀ fun e w'=>e = .returned (.tuple #[(.int .i64 r.1),(.int .i64 r.2)]) ∧ Hp [] w₀ w' []:=by
 unfold y8z at h
 refine Calls.yI Tryz.func144 Tryz.ntmps144 ?_
 refine WC.b (WC.a (WL.pu rfl (WL.pu rfl (WL.nil (WX.a (WC.b (WC.yP (fun i=>[].contains i) [] rfl (WD.pA 0 4 rfl (fun _=>ya y2a rfl rfl) (WD.qA 1 5 rfl (yc yw rfl (y1e hz.pv zAb rfl)) (WD.pA 2 6 rfl (fun _=>ya y2w rfl rfl) (WD.qA 3 7 rfl (yc yw rfl (y1e hz.pv zAc rfl)) (WD.pA 4 8 rfl (fun _=>y6B rfl rfl rfl) (WD.pA 5 9 rfl (fun _=>ya y2w rfl rfl) (WD.qA 6 10 rfl (yc yw rfl (y1e hz.pv zAb rfl)) (WD.pA 7 11 rfl (fun _=>ya y2a rfl rfl) (WD.qA 8 12 rfl (yc yw rfl (y1e hz.pv zAc rfl)) (WD.pA 9 13 rfl (fun _=>y6B rfl rfl rfl) (WD.pA 10 2 rfl (fun _=>q_z rfl) (WD.pA 11 3 rfl (fun _=>q_z rfl) (WD.done (by kernel_rfl) (WX.a (WC.ret ?_))))))))))))))))))))))
 obtain rfl:=Option.some.inj h
 refine WX.ye Tryz.results144 (.tmp rfl (.tmp rfl .nil)) (fun w hw=>?_)
 exact ⟨y1U rfl rfl,hw.sub .nil⟩
def y8g (zbH : z2) (z7V : z2) : Option (z2 × Int) :=
 (y1H zbH).bind fun zAd=>(if !zAd then some true else (y1H z7V).bind fun zAe=>some (!zAe)).bind fun zlV=>if zlV || (decide (z7V.fN = 0)) then some ((⟨0,0⟩ : z2),2) else (y8z zbH z7V).bind fun zs4=>(y4J zs4.1 zs4.2).bind fun zs5=>some (zs5.1,zs5.2)
theorem yfX (Z : Zp)  (zbH : z2) (z7V : z2) (r : z2 × Int)
  (h : y8g zbH z7V = some r) (w₀ : World) (hz : PZ [] w₀ Z) :
  Calls Tryz.prog 105 #[(.string ⟨#[47]⟩),(.agg #[(.int .i64 zbH.fN),(.int .i64 zbH.fD)]),(.agg #[(.int .i64 z7V.fN),(.int .i64 z7V.fD)])] w₀ fun e w'=>e = .returned (.tuple #[(.agg #[(.int .i64 r.1.fN),(.int .i64 r.1.fD)]),(.int .i64 r.2)]) ∧ Hp [] w₀ w' []:=by
 unfold y8g at h
 refine Calls.on3 Tryz.func105 Tryz.ntmps105 ?_
 refine WC.b (WC.a (WL.nA 4 (yH (cs:=[(.int .i64 zbH.fN),(.int .i64 zbH.fD)]) rfl rfl) ?_))
 intro zjg _
 refine WL.nA 5 (yH (cs:=[(.int .i64 z7V.fN),(.int .i64 z7V.fD)]) rfl rfl) ?_
 intro zjh _
 refine WL.nA 6 (yx (cs:=[(.int .i64 0),(.int .i64 0)]) zH rfl) ?_
 intro zUQ _
 refine WL.pu rfl (WL.nil (WX.a (WC.b (WC.b ?_))))
 obtain ⟨zAd,zKw,h⟩:=z7 h
 obtain ⟨zlV,zAf,h⟩:=z7 h
 refine WC.a (WL.qA 9 (yf zb rfl (yh .h2) rfl) (WL.cA 10 (z8 Tryz.call80 (.cons rfl .nil)) .nil (cc hz .nil fun w pz ho=>y2j _ _ _ zKw w pz ) (WL.pu rfl (WL.pu rfl (WL.seg false 3 12 (B:=zlV) rfl rfl rfl rfl rfl rfl (fun h=>(Option.some.inj (yo zAf h)).symm) (fun _ zKx=>?_) ?_)))))
 ·skip
  have zji:=yp zAf zKx
  obtain ⟨zAe,zKy,zji⟩:=z7 zji
  replace zji:=Option.some.inj zji
  refine WL.qA 13 (yf zb rfl (yh .h1) rfl) (WL.cA 14 (z8 Tryz.call80 (.cons rfl .nil)) .nil (cc hz .nil fun w pz ho=>y2j _ _ _ zKy w pz ) (WL.pu rfl (WL.pu rfl ?_)))
  exact WL.yB zji rfl rfl .all
 refine WL.pu rfl (WL.seg false 7 17 (B:=zlV || (decide (z7V.fN = 0))) rfl rfl rfl rfl rfl rfl (fun h=>(y6V h).symm) (fun _ zKz=>?_) ?_)
 ·skip
  refine WL.pu rfl (WL.qA 19 (yb6 (r:=true) (by decide) rfl rfl) (WL.pu rfl (WL.qA 21 (ya y2a rfl rfl) (WL.qA 22 (yc yw rfl (yj .h1 rfl)) (WL.pu rfl (WL.pu rfl (WL.pu rfl ?_)))))))
  exact WL.yB (y6W zKz) rfl rfl .all
 refine WL.nil (WX.a (WC.cond rfl (fun zs6=>?_) (fun zs6=>?_)))
 ·replace h:=yo h zs6
  refine WC.b (WC.a (WL.qA 26 (yL (v:=(.agg #[(.int .i64 0),(.int .i64 0)])) (Eos.parts (l:=[]) .nil []) (fun _=>by kernel_rfl)) (WL.yl rfl rfl (yk zq rfl rfl rfl .here rfl rfl rfl) (WL.pu rfl (WL.nil (WX.a (WC.ret (WX.yd ?_))))))))
  obtain rfl:=Option.some.inj h
  refine WX.ye Tryz.results105 (.agg rfl zb rfl (yh .here) (.tmp rfl .nil)) (fun w hw=>?_)
  exact ⟨y1U rfl rfl,hw.sub .nil⟩
 ·replace h:=yp h zs6
  refine WC.skip (WX.a (WC.b (WC.a (WL.nA 27 (y4j Value.string (fun x=>x)) ?_))))
  intro zUR _
  refine WL.qA 28 (y18 (Eos.caps (l:=[.tmp 4,.tmp 5]) (.r2 rfl rfl))) (WL.yl rfl rfl (y3m (k:=⟨#[43]⟩) (v:=(.func (.func 141) #[] #[(.pointer (some ⟨zjg,0,none⟩)),(.pointer (some ⟨zjh,0,none⟩))])) y3I Tryz.underlying258 rfl rfl rfl rfl .here) (WL.qA 29 (y18 (Eos.caps (l:=[.tmp 4,.tmp 5]) (.r2 rfl rfl))) (WL.yl rfl rfl (y3m (k:=⟨#[45]⟩) (v:=(.func (.func 142) #[] #[(.pointer (some ⟨zjg,0,none⟩)),(.pointer (some ⟨zjh,0,none⟩))])) y3I Tryz.underlying258 rfl rfl rfl rfl .here) (WL.qA 30 (y18 (Eos.caps (l:=[.tmp 4,.tmp 5]) (.r2 rfl rfl))) (WL.yl rfl rfl (y3m (k:=⟨#[42]⟩) (v:=(.func (.func 143) #[] #[(.pointer (some ⟨zjg,0,none⟩)),(.pointer (some ⟨zjh,0,none⟩))])) y3I Tryz.underlying258 rfl rfl rfl rfl .here) (WL.qA 31 (y18 (Eos.caps (l:=[.tmp 4,.tmp 5]) (.r2 rfl rfl))) (WL.yl rfl rfl (y3m (k:=⟨#[47]⟩) (v:=(.func (.func 144) #[] #[(.pointer (some ⟨zjg,0,none⟩)),(.pointer (some ⟨zjh,0,none⟩))])) y3I Tryz.underlying258 rfl rfl rfl rfl .here) (WL.pu rfl (WL.pu rfl (WL.nil (WX.a (WC.b ?_))))))))))))
  obtain ⟨zs4,zKA,h⟩:=z7 h
  obtain ⟨zs5,zKB,h⟩:=z7 h
  refine WC.a (WL.pu rfl (WL.pu rfl (WL.qA 35 (yb5 (k:=⟨#[47]⟩) (dflt:=.nilFunc) (r:=(.func (.func 144) #[] #[(.pointer (some ⟨zjg,0,none⟩)),(.pointer (some ⟨zjh,0,none⟩))])) y3I Tryz.underlying258 zkJ rfl rfl rfl .here (by rfl)) (WL.cA 36 (y2q (l:=[]) Tryz.call144 rfl .nil) .nil (ccl hz .nil (.s2 .h3 .h2) fun w pz ho la=>yfr _ _ _ _ _ _ zKA w pz ((la _ (.head _) _).stb) ((la _ (.tail _ (.head _)) _).stb)) (WL.pu rfl (WL.pu rfl (WL.cA 39 (z8 Tryz.call106 (.r2 rfl rfl)) .nil (cc hz .nil fun w pz ho=>y7F _ _ _ _ zKB w pz ) (WL.pu rfl (WL.pu rfl (WL.yl rfl rfl (yk zq rfl rfl rfl .h1 rfl rfl rfl) (WL.pu rfl (WL.nil (WX.a (WC.ret ?_))))))))))))))
  obtain rfl:=Option.some.inj h
  refine WX.ye Tryz.results105 (.agg rfl zb rfl (yh .here) (.tmp rfl .nil)) (fun w hw=>?_)
  exact ⟨y1U rfl rfl,hw.sub .nil⟩
def y3v (ze2 : z2) (ze3 : z2) : Option (z2 × Int) :=
 (y8g ze2 ze3).bind fun zs7=>some (zs7.1,zs7.2)
theorem yd6 (Z : Zp)  (ze2 : z2) (ze3 : z2) (r : z2 × Int)
  (h : y3v ze2 ze3 = some r) (w₀ : World) (hz : PZ [] w₀ Z) :
  Calls Tryz.prog 75 #[(.agg #[(.int .i64 ze2.fN),(.int .i64 ze2.fD)]),(.agg #[(.int .i64 ze3.fN),(.int .i64 ze3.fD)])] w₀ fun e w'=>e = .returned (.tuple #[(.agg #[(.int .i64 r.1.fN),(.int .i64 r.1.fD)]),(.int .i64 r.2)]) ∧ Hp [] w₀ w' []:=by
 unfold y3v at h
 refine Calls.yI Tryz.func75 Tryz.ntmps75 ?_
 refine WC.b (WC.a (WL.nA 2 (yH (cs:=[(.int .i64 ze2.fN),(.int .i64 ze2.fD)]) rfl rfl) ?_))
 intro zUS _
 refine WL.nA 3 (yH (cs:=[(.int .i64 ze3.fN),(.int .i64 ze3.fD)]) rfl rfl) ?_
 intro zUT _
 refine WL.nA 4 (yx (cs:=[(.int .i64 0),(.int .i64 0)]) zH rfl) ?_
 intro zUU _
 refine WL.pu rfl (WL.nil (WX.a (WC.b ?_)))
 obtain ⟨zs7,zKC,h⟩:=z7 h
 refine WC.a (WL.qA 6 (yf zb rfl (yh .h2) rfl) (WL.qA 7 (yf zb rfl (yh .h1) rfl) (WL.cA 8 (z8 Tryz.call105 (.r3 rfl rfl rfl)) .nil (cc hz .nil fun w pz ho=>yfX _ _ _ _ zKC w pz ) (WL.pu rfl (WL.pu rfl (WL.yl rfl rfl (yk zq rfl rfl rfl .here rfl rfl rfl) (WL.pu rfl (WL.nil (WX.a (WC.ret ?_))))))))))
 obtain rfl:=Option.some.inj h
 refine WX.ye Tryz.results75 (.agg rfl zb rfl (yh .here) (.tmp rfl .nil)) (fun w hw=>?_)
 exact ⟨y1U rfl rfl,hw.sub .nil⟩
theorem zKD : ∀ w,(isAgg (Tryz.y35.t 24)).run Tryz.prog w = .ok true w:=fun _=>by kernel_rfl
theorem zKE : ∀ w,(Go.sizeOf (Tryz.y35.t 24)).run Tryz.prog w = .ok 2 w:=fun _=>by kernel_rfl
def y3O (z4t : List z2) (zjj : Int) (zjk : Int) (zgb : Int) (ze4 : z2 → z2 → Option Int) : Option (List z2):=chk ((zjj = 0 ∧ zjk = ((z4t.length : Nat) : Int)) ∧ (0 ≤ zgb ∧ zgb < 4611686018427387904 ∧ z4t.length < 4611686018427387904)) (chk (y7d ze4 (yS ze4 z4t) = true) (some (yS ze4 z4t)))
theorem y7q (Z : Zp) (ze5 : Option Addr) (ze6 : Nat) (zjl : FuncId) (zs8 : List Value) (z4t : List z2) (zjj : Int) (zjk : Int) (zgb : Int) (ze4 : z2 → z2 → Option Int) (r : List z2) (w₀ : World) (hz : PZ (fps [row (.slice ze5 z4t.length ze6) 132 2 (z4t.flatMap yu)]) w₀ Z)
  (zKF : ∀ args w,(callFunc zjl args).run Tryz.prog w = .ok (.enter zjl args) w)
  (zKG : ∀ w : World,PZ [] w Z → ∀ (x0 : z2) (x1 : z2) (r : Int),ze4 x0 x1 = some r → Calls Tryz.prog zjl (([(.agg #[(.int .i64 x0.fN),(.int .i64 x0.fD)]),(.agg #[(.int .i64 x1.fN),(.int .i64 x1.fD)])] : List Value) ++ zs8).toArray w fun e w'=>e = .returned (.int .i64 r) ∧ Hp [] w w' [])
  (h : y3O z4t zjj zjk zgb ze4 = some r) (hown : Hp (fps [row (.slice ze5 z4t.length ze6) 132 2 (z4t.flatMap yu)]) w₀ w₀ [row (.slice ze5 z4t.length ze6) 132 2 (z4t.flatMap yu)]) :
  Calls Tryz.prog 185 #[(.slice ze5 z4t.length ze6),(.int .i64 zjj),(.int .i64 zjk),(.int .i64 zgb),(.func (.func zjl) #[] (zs8).toArray)] w₀ fun e w'=>e = .returned (.tuple #[]) ∧ (r.length = z4t.length) ∧ Hp (fps [row (.slice ze5 z4t.length ze6) 132 2 (z4t.flatMap yu)]) w₀ w' [row (.slice ze5 r.length ze6) 132 2 (r.flatMap yu)]:=by
 obtain ⟨h0,h⟩:=ym h
 obtain ⟨h1,h⟩:=ym h
 have hr:=(Option.some.inj h).symm
 exact y85 (P:=Tryz.prog) (f:=185) (e:=132) (k:=2) (enc:=yu) (fun _=>rfl) (by decide) yb7 (fun β _ enc cf g cb hO blk off cap d0 w0 eg hC R=>Tryz.y7P 2 zKD zKE enc cf g cb hO blk off cap d0 w0 eg hC R) (Tryz.y7I (α:=Unit)) hz zKF zKG h0 h1 hr hown
def y1R (z3R : List z2) (zgc : z2 → z2 → Option Int) : Option (List z2) :=
 (y3W (u64 ((z3R.length : Nat) : Int))).bind fun zlW=>(y3O z3R 0 ((z3R.length : Nat) : Int) zlW zgc).bind fun zlX=>some zlX
theorem y76 (Z : Zp) (zbI : Option Addr) (zbJ : Nat) (zgd : FuncId) (zlY : List Value) (z3R : List z2) (zgc : z2 → z2 → Option Int) (r : List z2)
  (h : y1R z3R zgc = some r) (w₀ : World) (hz : PZ (fps [row (.slice zbI z3R.length zbJ) 132 2 (z3R.flatMap yu)]) w₀ Z)
  (zKH : ∀ args w,(callFunc zgd args).run Tryz.prog w = .ok (.enter zgd args) w)
  (zKI : ∀ w : World,PZ [] w Z → ∀ (x0 : z2) (x1 : z2) (r : Int),zgc x0 x1 = some r → Calls Tryz.prog zgd (([(.agg #[(.int .i64 x0.fN),(.int .i64 x0.fD)]),(.agg #[(.int .i64 x1.fN),(.int .i64 x1.fD)])] : List Value) ++ zlY).toArray w fun e w'=>e = .returned (.int .i64 r) ∧ Hp [] w w' [])
  (hown : Hp (fps [row (.slice zbI z3R.length zbJ) 132 2 (z3R.flatMap yu)]) w₀ w₀ [row (.slice zbI z3R.length zbJ) 132 2 (z3R.flatMap yu)]) :
  Calls Tryz.prog 171 #[(.slice zbI z3R.length zbJ),(.func (.func zgd) #[] (zlY).toArray)] w₀ fun e w'=>e = .returned (.tuple #[]) ∧ (r.length = z3R.length) ∧ Hp (fps [row (.slice zbI z3R.length zbJ) 132 2 (z3R.flatMap yu)]) w₀ w' [row (.slice zbI r.length zbJ) 132 2 (r.flatMap yu)]:=by
 unfold y1R at h
 refine Calls.oh2 Tryz.func171 Tryz.ntmps171 hown ?_
 refine WC.b (WC.a (WL.pu rfl (WL.qA 6 (yG Tryz.underlying175 rfl) (WL.pu rfl (WL.nil (WX.a ?_))))))
 obtain ⟨zlW,zKJ,h⟩:=z7 h
 obtain ⟨zlX,zKK,h⟩:=z7 h
 refine WC.a (WL.pu rfl (WL.pu rfl (WL.pu rfl (WL.qA 10 (y72 Tryz.underlying3 Tryz.underlying142 rfl rfl) (WL.cA 11 (z8 Tryz.call48 (.cons rfl .nil)) .nil (cc hz .nil fun w pz ho=>y7D (Z:=_)  (z6m:=(u64 ((z3R.length : Nat) : Int))) (r:=zlW) w pz  zKJ) (WL.pu rfl (WL.y4L (dd:=13) rfl rfl rfl (z8 Tryz.call185 (.r5 rfl rfl rfl rfl rfl)) (.cons .here .nil) (cc hz (.cons .here .nil) fun w pz ho=>y7q (Z:=_) (ze5:=zbI) (ze6:=zbJ) (zjl:=zgd) (zs8:=zlY) (z4t:=z3R) (zjj:=0) (zjk:=((z3R.length : Nat) : Int)) (zgb:=zlW) (ze4:=zgc) (r:=zlX) w pz zKH zKI zKK ho) ?_)))))))
 rintro  zAg
 refine WL.repin (i:=0) rfl (u:=(.slice zbI zlX.length zbJ)) (y7u zAg.symm) (WL.nil ?_)
 obtain rfl:=Option.some.inj h
 refine WX.y4K Tryz.results171 .nil (fun w hw=>?_)
 exact ⟨y7a,(zAg.trans rfl),hw.sub (.cons .here .nil)⟩
def y1a (zA : List z2) (zm : Int) (z9J : (List z2) → Int → Option (List z2)) : Nat → (List z2) → Int → Int → Option (List z2)
 | 0,_,_,_=>none
 | zs9 + 1,zF,z2I,k2_42006=>if decide (k2_42006 < ((zA.length - (zm : Int).toNat : Nat) : Int)) then jp2 (fun (z6u : List z2) (z9K : Int)=>y1a zA zm z9J zs9 z6u z9K (i64 (k2_42006 + 1))) fun zlZ=>chk ((0 : Int) ≤ k2_42006 ∧ k2_42006 < ((zA.length - (zm : Int).toNat : Nat) : Int)) (chk ((0 : Int) ≤ (i64 (k2_42006 - 1)) ∧ (i64 (k2_42006 - 1)) < ((zA.length - (zm : Int).toNat : Nat) : Int)) (if decide ((⟨((nth zF (zm + k2_42006)).fN),((nth zF (zm + k2_42006)).fD)⟩ : z2) ≠ (⟨((nth zF (zm + (i64 (k2_42006 - 1)))).fN),((nth zF (zm + (i64 (k2_42006 - 1)))).fD)⟩ : z2)) then chk ((0 : Int) ≤ k2_42006 ∧ k2_42006 < ((zA.length - (zm : Int).toNat : Nat) : Int)) (chk ((0 : Int) ≤ z2I ∧ z2I < ((zF.length : Nat) : Int)) (zlZ (zF.set (z2I : Int).toNat (⟨((nth zF (zm + k2_42006)).fN),((nth zF (zm + k2_42006)).fD)⟩ : z2)) (i64 (z2I + 1)))) else zlZ zF z2I)) else z9J zF z2I
theorem y5W {n : Nat} {zA : List z2} {zm : Int} {z9J : (List z2) → Int → Option (List z2)} {zF : List z2} {z2I : Int} {k2_42006 : Int} {r : List z2} (h : y1a zA zm z9J n zF z2I k2_42006 = some r) : ∃ m,n = m + 1:=by
 cases n with
 | zero=>cases h
 | succ m=>exact ⟨m,rfl⟩
def y1b (zA : List z2) (z9L : Option (List z2)) : Nat → Int → Option (List z2)
 | 0,_=>none
 | zsa + 1,zm=>if decide (zm < ((zA.length : Nat) : Int)) then jp0 (y1b zA z9L zsa (i64 (zm + 1))) fun zsb=>chk ((0 : Int) ≤ zm ∧ zm < ((zA.length : Nat) : Int)) (chk ((0 : Int) ≤ (i64 (zm - 1)) ∧ (i64 (zm - 1)) < ((zA.length : Nat) : Int)) (if decide ((⟨((nth zA zm).fN),((nth zA zm).fD)⟩ : z2) = (⟨((nth zA (i64 (zm - 1))).fN),((nth zA (i64 (zm - 1))).fD)⟩ : z2)) then chk ((0 : Int) ≤ zm ∧ zm < ((zA.length : Nat) : Int)) (jp2 (fun (z2J : List z2) (z2K : Int)=>chk ((0 : Int) ≤ z2K ∧ z2K ≤ ((z2J.length : Nat) : Int)) (chk ((0 : Int) ≤ z2K ∧ z2K ≤ (((z2J.take (z2K : Int).toNat ++ List.replicate (z2J.length - (z2K : Int).toNat) ((⟨0,0⟩ : z2) : z2)).length : Nat) : Int)) (some ((z2J.take (z2K : Int).toNat ++ List.replicate (z2J.length - (z2K : Int).toNat) ((⟨0,0⟩ : z2) : z2)).take (z2K : Int).toNat)))) fun z9J=>y1a zA zm z9J yz zA zm 1) else zsb)) else z9L
theorem y5X {n : Nat} {zA : List z2} {z9L : Option (List z2)} {zm : Int} {r : List z2} (h : y1b zA z9L n zm = some r) : ∃ m,n = m + 1:=by
 cases n with
 | zero=>cases h
 | succ m=>exact ⟨m,rfl⟩
def y1X (zA : List z2) : Option (List z2) :=
 if decide (((zA.length : Nat) : Int) < 2) then some zA else jp0 (some zA) fun z9L=>y1b zA z9L yz 1
theorem y7f (Z : Zp) (z61 : Option Addr) (z23 : Nat) (zA : List z2) (r : List z2)
  (h : y1X zA = some r) (w₀ : World) (hz : PZ (fps [row (.slice z61 zA.length z23) 132 2 (zA.flatMap yu)]) w₀ Z)
  (hown : Hp (fps [row (.slice z61 zA.length z23) 132 2 (zA.flatMap yu)]) w₀ w₀ [row (.slice z61 zA.length z23) 132 2 (zA.flatMap yu)]) :
  Calls Tryz.prog 172 #[(.slice z61 zA.length z23)] w₀ fun e w'=>∃ zAh : Option Addr,∃ zAi : Nat,e = .returned (.slice zAh r.length zAi) ∧ True ∧ Hp (fps [row (.slice z61 zA.length z23) 132 2 (zA.flatMap yu)]) w₀ w' [row (.slice zAh r.length zAi) 132 2 (r.flatMap yu)]:=by
 unfold y1X at h
 refine Calls.oh1 Tryz.func172 Tryz.ntmps172 hown ?_
 refine WC.b (WC.a (WL.pu rfl (WL.nil (WX.a (WC.b (WC.b (WC.a (WL.pu rfl (WL.qA 7 (yG Tryz.underlying175 rfl) (WL.pu rfl (WL.nil (WX.a (WC.cond rfl (fun zsc=>?_) (fun zsc=>?_))))))))))))))
 ·replace h:=yo h zsc
  refine WC.b (WC.a (WL.pu rfl (WL.pu rfl (WL.nil (WX.a (WC.ret (WX.yd ?_)))))))
  obtain rfl:=Option.some.inj h
  refine WX.ye Tryz.results172 (.tmp rfl .nil) (fun w hw=>?_)
  exact ⟨z61,z23,yC rfl,trivial,hw.sub (.cons .here .nil)⟩
 ·replace h:=yp h zsc
  refine WC.skip (WX.a ?_)
  obtain ⟨z9L,zKL,h⟩:=y2i h
  refine WC.y1G ((z9L = some r)) ([(0,(.slice z61 zA.length z23))]) ([row (.slice z61 zA.length z23) 132 2 (zA.flatMap yu)]) ?_ ?_
  ·skip
   refine WC.b (WC.a (WL.pu rfl (WL.nil (WX.a (WC.block (WC.y2S (fun (zge : Nat) (zm : Int)=>(y1b zA z9L zge zm = some r)) (fun zge zm=>[(0,(.slice z61 zA.length z23)),(3,(.int .i64 zm))]) (fun zge zm=>[row (.slice z61 zA.length z23) 132 2 (zA.flatMap yu)]) (fun zge zm=>zge) ⟨yz,1⟩ h (.r2 rfl rfl) (.cons .here .nil) ?_))))))
   rintro zge zm h
   obtain ⟨zsa,rfl⟩:=y5X h
   rw [y1b] at h
   refine WC.b (WC.b (WC.a (WL.pu rfl (WL.pu rfl (WL.qA 12 (yG Tryz.underlying175 rfl) (WL.pu rfl (WL.nil (WX.a (WC.cond rfl (fun zsd=>?_) (fun zsd=>?_))))))))))
   ·replace h:=yo h zsd
    refine WC.skip (WX.a ?_)
    obtain ⟨zsb,zKM,h⟩:=y2i h
    refine WC.y1G ((zsb = some r)) ([(0,(.slice z61 zA.length z23)),(3,(.int .i64 zm))]) ([row (.slice z61 zA.length z23) 132 2 (zA.flatMap yu)]) ?_ ?_
    ·skip
     refine WC.block (WC.b ?_)
     obtain ⟨zjm,h⟩:=ym h
     obtain ⟨zm0,h⟩:=ym h
     refine WC.yP (fun i=>[].contains i) [] rfl (WD.pA 0 16 rfl (fun _=>q_m rfl) (WD.pA 1 17 rfl (fun _=>q_m rfl) (WD.know (fun w hw=>Hp.y31 .here hw (by intro hz'; have:=zjm; rw [hz'] at this; omega)) ?_)))
     rintro ⟨z6v,rfl⟩
     refine WD.pA 2 18 rfl (fun _=>y17 z1I rfl rfl zjm.1 zjm.2 y3S) (WD.qA 3 19 rfl (yR (cs:=(yu (nth zA zm))) zb rfl rfl (y3F .here (y3e (enc:=yu) (l:=zA) (i:=zm) (sz:=2) (fun _=>rfl) zjm.1 zjm.2))) (WD.pA 4 20 rfl (fun _=>q_m rfl) (WD.pA 5 21 rfl (fun _=>q_m rfl) (WD.pA 6 22 rfl (fun _=>ybY rfl rfl rfl) (WD.pA 7 23 rfl (fun _=>y17 z1I rfl rfl zm0.1 zm0.2 y3S) (WD.qA 8 24 rfl (yR (cs:=(yu (nth zA (i64 (zm - 1))))) zb rfl rfl (y3F .here (y3e (enc:=yu) (l:=zA) (i:=i64 (zm - 1)) (sz:=2) (fun _=>rfl) zm0.1 zm0.2))) (WD.pA 9 25 rfl (fun _=>y7b (enc:=yu) (a:=(⟨((nth zA zm).fN),((nth zA zm).fD)⟩ : z2)) (b:=(⟨((nth zA (i64 (zm - 1))).fN),((nth zA (i64 (zm - 1))).fD)⟩ : z2)) zw0 rfl rfl) (WD.done (by kernel_rfl) (WX.a (WC.cond rfl (fun zse=>?_) (fun zse=>?_)))))))))))
     ·replace h:=yo h zse
      refine WC.b ?_
      obtain ⟨ze7,h⟩:=ym h
      refine WC.a (WL.pu rfl (WL.pu rfl (WL.yfM (dd:=28) rfl rfl z1I rfl rfl .here ze7 (WL.pu rfl (WL.nil (WX.a ?_))))))
      obtain ⟨z9J,zKN,h⟩:=y4t h
      refine WC.y4G (fun (z2J : List z2) (z2K : Int)=>(z9J z2J z2K = some r) ∧ (z2J.length = zA.length)) (fun z2J z2K=>[(0,(.slice (some ⟨z6v,0,none⟩) z2J.length z23)),(3,(.int .i64 z2K))]) (fun z2J z2K=>[row (.slice (some ⟨z6v,0,none⟩) z2J.length z23) 132 2 (z2J.flatMap yu)]) ?_ ?_
      ·skip
       refine WC.b (WC.a (WL.pu rfl (WL.nil (WX.a (WC.block (WC.y4T (fun (zgf : Nat) (zF : List z2) (z2I : Int) (k2_42006 : Int)=>(y1a zA zm z9J zgf zF z2I k2_42006 = some r) ∧ (zF.length = zA.length)) (fun zgf zF z2I k2_42006=>[(0,(.slice (some ⟨z6v,0,none⟩) zF.length z23)),(3,(.int .i64 z2I)),(4,(.slice (some ⟨z6v,(zm : Int).toNat * 2,none⟩) (zA.length - (zm : Int).toNat) (z23 - (zm : Int).toNat))),(5,(.int .i64 k2_42006))]) (fun zgf zF z2I k2_42006=>[row (.slice (some ⟨z6v,0,none⟩) zF.length z23) 132 2 (zF.flatMap yu)]) (fun zgf zF z2I k2_42006=>zgf) ⟨yz,zA,zm,1⟩ ⟨h,rfl⟩ (.r4 rfl rfl rfl rfl) (.cons .here .nil) ?_))))))
       rintro zgf zF z2I k2_42006 ⟨h,zgg⟩
       obtain ⟨zs9,rfl⟩:=y5W h
       rw [y1a] at h
       refine WC.b (WC.b (WC.a (WL.pu rfl (WL.pu rfl (WL.qA 31 (yG Tryz.underlying175 rfl) (WL.pu rfl (WL.nil (WX.a (WC.cond rfl (fun zsf=>?_) (fun zsf=>?_))))))))))
       ·replace h:=yo h zsf
        refine WC.skip (WX.a ?_)
        obtain ⟨zlZ,zKO,h⟩:=y4t h
        refine WC.y4G (fun (z6u : List z2) (z9K : Int)=>(zlZ z6u z9K = some r) ∧ (z6u.length = zA.length)) (fun z6u z9K=>[(0,(.slice (some ⟨z6v,0,none⟩) z6u.length z23)),(3,(.int .i64 z9K)),(4,(.slice (some ⟨z6v,(zm : Int).toNat * 2,none⟩) (zA.length - (zm : Int).toNat) (z23 - (zm : Int).toNat))),(5,(.int .i64 k2_42006))]) (fun z6u z9K=>[row (.slice (some ⟨z6v,0,none⟩) z6u.length z23) 132 2 (z6u.flatMap yu)]) ?_ ?_
        ·skip
         refine WC.block (WC.b ?_)
         obtain ⟨zm1,h⟩:=ym h
         obtain ⟨zm2,h⟩:=ym h
         refine WC.yP (fun i=>[].contains i) [] rfl (WD.pA 0 35 rfl (fun _=>q_m rfl) (WD.pA 1 36 rfl (fun _=>q_m rfl) ?_))
         have zAj : (0 : Int) ≤ zm + k2_42006 ∧ zm + k2_42006 < ((zF.length : Nat) : Int):=by have h1:=zgg; have h2:=ze7; have h3:=zm1; omega
         refine WD.pA 2 37 rfl (fun _=>y17 z1I rfl rfl zm1.1 zm1.2 (ybG ze7.1 zm1.1)) (WD.qA 3 38 rfl (yR (cs:=(yu (nth zF (zm + k2_42006)))) zb rfl rfl (y3F .here (y3e (enc:=yu) (l:=zF) (i:=zm + k2_42006) (sz:=2) (fun _=>rfl) zAj.1 zAj.2))) (WD.pA 4 39 rfl (fun _=>q_m rfl) (WD.pA 5 40 rfl (fun _=>q_m rfl) (WD.pA 6 41 rfl (fun _=>ybY rfl rfl rfl) ?_))))
         have zAk : (0 : Int) ≤ zm + (i64 (k2_42006 - 1)) ∧ zm + (i64 (k2_42006 - 1)) < ((zF.length : Nat) : Int):=by have h1:=zgg; have h2:=ze7; have h3:=zm2; omega
         refine WD.pA 7 42 rfl (fun _=>y17 z1I rfl rfl zm2.1 zm2.2 (ybG ze7.1 zm2.1)) (WD.qA 8 43 rfl (yR (cs:=(yu (nth zF (zm + (i64 (k2_42006 - 1)))))) zb rfl rfl (y3F .here (y3e (enc:=yu) (l:=zF) (i:=zm + (i64 (k2_42006 - 1))) (sz:=2) (fun _=>rfl) zAk.1 zAk.2))) (WD.pA 9 44 rfl (fun _=>y9V (enc:=yu) (a:=(⟨((nth zF (zm + k2_42006)).fN),((nth zF (zm + k2_42006)).fD)⟩ : z2)) (b:=(⟨((nth zF (zm + (i64 (k2_42006 - 1)))).fN),((nth zF (zm + (i64 (k2_42006 - 1)))).fD)⟩ : z2)) zw0 rfl rfl) (WD.done (by kernel_rfl) (WX.a (WC.cond rfl (fun zsg=>?_) (fun zsg=>?_))))))
         ·replace h:=yo h zsg
          refine WC.b ?_
          obtain ⟨zm3,h⟩:=ym h
          obtain ⟨zgh,h⟩:=ym h
          refine WC.a (WL.pu rfl (WL.pu rfl (WL.pu rfl (WL.pu rfl ?_))))
          have zAl : (0 : Int) ≤ zm + k2_42006 ∧ zm + k2_42006 < ((zF.length : Nat) : Int):=by have h1:=zgg; have h2:=ze7; have h3:=zm3; omega
          refine WL.qA 49 (y17 z1I rfl rfl zm3.1 zm3.2 (ybG ze7.1 zm3.1)) (WL.qA 50 (yR (cs:=(yu (nth zF (zm + k2_42006)))) zb rfl rfl (y3F .here (y3e (enc:=yu) (l:=zF) (i:=zm + k2_42006) (sz:=2) (fun _=>rfl) zAl.1 zAl.2))) (WL.qA 51 (y17 z1I rfl rfl zgh.1 zgh.2 y3S) (WL.yl rfl rfl (yc0 (vs:=[(.int .i64 ((nth zF (zm + k2_42006)).fN)),(.int .i64 ((nth zF (zm + k2_42006)).fD))]) (ds:=(zF.set (z2I : Int).toNat (⟨((nth zF (zm + k2_42006)).fN),((nth zF (zm + k2_42006)).fD)⟩ : z2)).flatMap yu) zq rfl rfl rfl rfl (ocB rfl) .here (flat_fit (enc:=yu) (sz:=2) (k:=0) (fun _=>rfl) zgh.1 zgh.2 (by decide)) (flat_put (enc:=yu) (l:=zF) (sz:=2) (vs:=[(.int .i64 ((nth zF (zm + k2_42006)).fN)),(.int .i64 ((nth zF (zm + k2_42006)).fD))]) (y:=(⟨((nth zF (zm + k2_42006)).fN),((nth zF (zm + k2_42006)).fD)⟩ : z2)) (k:=0) (fun _=>rfl) zgh.1 zgh.2 rfl (Nat.le_of_ble_eq_true rfl))) (WL.relen .here (u:=(.slice (some ⟨z6v,0,none⟩) ((zF.set (z2I : Int).toNat (⟨((nth zF (zm + k2_42006)).fN),((nth zF (zm + k2_42006)).fD)⟩ : z2)).length) z23)) (y7u (List.length_set).symm) (WL.repin (i:=0) rfl (u:=(.slice (some ⟨z6v,0,none⟩) ((zF.set (z2I : Int).toNat (⟨((nth zF (zm + k2_42006)).fN),((nth zF (zm + k2_42006)).fD)⟩ : z2)).length) z23)) (y7u (List.length_set).symm) (WL.nil (WX.a (WC.a (WL.pu rfl (WL.pu rfl (WL.pu rfl (WL.nil (WX.yq ?_)))))))))))))
          exact WX.mid ⟨(zF.set (z2I : Int).toNat (⟨((nth zF (zm + k2_42006)).fN),((nth zF (zm + k2_42006)).fD)⟩ : z2)),(i64 (z2I + 1))⟩ ⟨h,((List.length_set).trans zgg)⟩ (.r4 rfl rfl rfl rfl) (.cons .here .nil)
         ·replace h:=yp h zsg
          refine WC.skip (WX.yq ?_)
          exact WX.mid ⟨zF,z2I⟩ ⟨h,zgg⟩ (.r4 rfl rfl rfl rfl) (.cons .here .nil)
        ·rintro z6u z9K ⟨h,zKP⟩
         replace h:=(zKO z6u z9K).symm.trans h
         refine WC.a (WL.pu rfl (WL.pu rfl (WL.pu rfl (WL.nil ?_))))
         exact WX.round ⟨zs9,z6u,z9K,(i64 (k2_42006 + 1))⟩ ⟨h,zKP⟩ (Nat.lt_succ_self _) (.r4 rfl rfl rfl rfl) (.cons .here .nil)
       ·replace h:=yp h zsf
        refine WC.exit (WX.yg (WX.yg (WX.yA ?_)))
        exact WX.mid ⟨zF,z2I⟩ ⟨h,zgg⟩ (.r2 rfl rfl) (.cons .here .nil)
      ·rintro z2J z2K ⟨h,zUV⟩
       replace h:=(zKN z2J z2K).symm.trans h
       refine WC.b ?_
       obtain ⟨zm4,h⟩:=ym h
       refine WC.a (WL.pu rfl (WL.pu rfl (WL.yfJ (dd:=56) rfl rfl z1I rfl rfl .here zm4 ?_)))
       intro zUW zUX zKQ
       refine WL.yl rfl rfl (ydz (enc:=yu) (z0:=((⟨0,0⟩ : z2) : z2)) (l:=z2J) z1I zH rfl zKQ zm4 (fun _=>rfl) (by decide) rfl yb7 .here) (WL.relen .here (u:=(.slice (some ⟨z6v,0,none⟩) ((z2J.take (z2K : Int).toNat ++ List.replicate (z2J.length - (z2K : Int).toNat) ((⟨0,0⟩ : z2) : z2)).length) z23)) (y7u (yay zm4).symm) (WL.repin (i:=0) rfl (u:=(.slice (some ⟨z6v,0,none⟩) ((z2J.take (z2K : Int).toNat ++ List.replicate (z2J.length - (z2K : Int).toNat) ((⟨0,0⟩ : z2) : z2)).length) z23)) (y7u (yay zm4).symm) (WL.nil (WX.a (WC.b ?_)))))
       obtain ⟨zKR,h⟩:=ym h
       refine WC.a (WL.pu rfl (WL.pu rfl (WL.yfI (dd:=59) (enc:=yu) (ls:=z2J.take (z2K : Int).toNat ++ List.replicate (z2J.length - (z2K : Int).toNat) ((⟨0,0⟩ : z2) : z2)) rfl rfl z1I rfl rfl .here (fun _=>rfl) zKR ?_)))
       intro zKS zKT
       refine WL.pu rfl (WL.nil (WX.a (WC.ret (WX.yt (WX.yd (WX.yd (WX.yt (WX.yd ?_))))))))
       obtain rfl:=Option.some.inj h
       refine WX.ye Tryz.results172 (.tmp rfl .nil) (fun w hw=>?_)
       exact ⟨zKS,zKT,yC rfl,trivial,hw.sub (.cons .here .nil)⟩
     ·replace h:=yp h zse
      refine WC.skip (WX.yq ?_)
      exact WX.mid () h (.r2 rfl rfl) (.cons .here .nil)
    ·rintro  h
     replace h:=zKM.symm.trans h
     refine WC.a (WL.pu rfl (WL.pu rfl (WL.pu rfl (WL.nil ?_))))
     exact WX.round ⟨zsa,(i64 (zm + 1))⟩ h (Nat.lt_succ_self _) (.r2 rfl rfl) (.cons .here .nil)
   ·replace h:=yp h zsd
    refine WC.exit (WX.yg (WX.yg (WX.yA ?_)))
    exact WX.mid () h (.cons rfl .nil) (.cons .here .nil)
  ·rintro  h
   replace h:=zKL.symm.trans h
   refine WC.b (WC.a (WL.pu rfl (WL.pu rfl (WL.nil (WX.a (WC.ret ?_))))))
   obtain rfl:=Option.some.inj h
   refine WX.ye Tryz.results172 (.tmp rfl .nil) (fun w hw=>?_)
   exact ⟨z61,z23,yC rfl,trivial,hw.sub (.cons .here .nil)⟩
def y1w  (z1x : z6 × z6) (z4u : List z2) (zgi : Int) : Option (Bool × (Nat × List z2 × Int)) :=
 (y1i z1x.1.fBurst z1x.2.fBurst).bind fun zAm=>if decide (zAm < 0) then (y1N (⟨zgi⟩ : z18) (fun (y0 : z2) (y1 : z2)=>y24 y0 y1) z1x.2.fBurst z1x.1.fBurst).bind fun zsh=>(y1N zsh.2 (fun (y0 : z2) (y1 : z2)=>y24 y0 y1) z1x.1.fRate z1x.2.fRate).bind fun zsi=>(y1N zsi.2 (fun (y0 : z2) (y1 : z2)=>y3v y0 y1) zsh.1 zsi.1).bind fun z7s=>chk ((((z4u ++ ([z7s.1] : List z2)).length : Nat) : Int) * 16 ≤ 140737488355328 ∧ (((z4u ++ ([z7s.1] : List z2)).length : Nat) : Int) ≤ 4611686018427387904) (some (true,(0,(z4u ++ ([z7s.1] : List z2)),z7s.2.fE))) else some (true,(0,z4u,zgi))
def y1O (zbK : List z6) : Option (List z2 × Int) :=
 (y46 zbK).bind fun zsj=>if !zsj then some (([] : List z2),2) else (y6y zbK).bind fun zm5=>jp2 (fun (z9M : Int) (z7W : List z2)=>if decide (z9M ≠ 0) then some (([] : List z2),z9M) else (y1R z7W (fun (y0 : z2) (y1 : z2)=>y1i y0 y1)).bind fun zsk=>(y1X zsk).bind fun zAn=>some (zAn,0)) fun zsl=>(y65 zm5 zm5).bind fun zU=>(y4r (Nat × List z2 × Int) (fun (x : z6 × z6) (s : Nat × List z2 × Int)=>chk (s.1 = 0) (y1w x s.2.1 s.2.2)) (0,([] : List z2),0) zU.1 zU.2).bind fun z3r=>zsl z3r.2.2 z3r.2.1
theorem y6N (Z : Zp) (zm6 : Option Addr) (zm7 : Nat) (zbK : List z6) (r : List z2 × Int)
  (h : y1O zbK = some r) (w₀ : World) (hz : PZ [] w₀ Z)
  (zAo : ZS Z 4 (fun r x=>r = y1x x) zm6 zm7 zbK) :
  Calls Tryz.prog 153 #[(.slice zm6 zbK.length zm7)] w₀ fun e w'=>∃ zAp : Option Addr,∃ zAq : Nat,e = .returned (.tuple #[(.slice zAp r.1.length zAq),(.int .i64 r.2)]) ∧ True ∧ Hp [] w₀ w' [row (.slice zAp r.1.length zAq) 132 2 (r.1.flatMap yu)]:=by
 unfold y1O at h
 refine Calls.y9m (vs:=[(.slice zm6 zbK.length zm7)]) (pre:=[]) (env:=[(0,(.slice zm6 zbK.length zm7))]) Tryz.func153 rfl Tryz.ntmps153 rfl (Hp.nil w₀ _) rfl ?_
 refine WC.pool (WC.b (WC.a (WL.pu rfl (WL.pu rfl (WL.nil (WX.a (WC.b (WC.b ?_))))))))
 obtain ⟨zsj,zKU,h⟩:=z7 h
 refine WC.a (WL.pu rfl (WL.cA 10 (z8 Tryz.call146 (.cons rfl .nil)) .nil (ccz hz .nil .here fun w pz ho=>y78 _ _ _ _ _ zKU w pz (zAo.mono (Zle.left _ _))) (WL.pu rfl (WL.nil (WX.a (WC.cond rfl (fun zsm=>?_) (fun zsm=>?_)))))))
 ·replace h:=yo h zsm
  refine WC.b (WC.a (WL.pu rfl (WL.pu rfl (WL.nil (WX.a (WC.ret (WX.yd (WX.nilRow 132 2 ?_))))))))
  obtain rfl:=Option.some.inj h
  refine WX.yaB Tryz.results153 (.tmp rfl (.tmp rfl .nil)) (fun w hw=>?_)
  exact ⟨none,0,y1U rfl rfl,trivial,hw.sub (.cons .here .nil)⟩
 ·replace h:=yp h zsm
  refine WC.skip (WX.a (WC.b (WC.a (WL.nA 4 (yx (cs:=[(.int .i64 0)]) zvY rfl) ?_))))
  intro z2r _
  refine WL.nil (WX.a (WC.b (WC.a (WL.nA 5 (yx (cs:=[(.slice none 0 0)]) znt rfl) ?_))))
  intro z2h _
  refine WL.nil (WX.a (WC.b ?_))
  obtain ⟨zm5,zKV,h⟩:=z7 h
  refine WC.a (WL.pu rfl (WL.y45 (dd:=13) rfl rfl rfl (z8 Tryz.call169 (.cons rfl .nil)) .nil (ccz hz .nil .h2 fun w pz ho=>ydQ _ _ _ _ _ zKV w pz (zAo.mono (Zle.left _ _))) ?_))
  rintro zUY zUZ _
  refine WL.pu rfl (WL.nil (WX.a ?_))
  obtain ⟨zsl,zKW,h⟩:=y4t h
  refine WC.yer (fun (zjn : Nat) (z9M : Int) (z7W : List z2) (zjo : Zp) (zgj : Option Addr) (zgk : Nat)=>(zsl z9M z7W = some r) ∧ (Zle (Z ++ []) (Z ++ zjo))) (fun (zjn : Nat) (z9M : Int) (z7W : List z2) (zjo : Zp) (zgj : Option Addr) (zgk : Nat)=>[(4,(.pointer (some ⟨z2r,0,none⟩))),(5,(.pointer (some ⟨z2h,0,none⟩)))]) (fun (zjn : Nat) (z9M : Int) (z7W : List z2) (zjo : Zp) (zgj : Option Addr) (zgk : Nat)=>[fz zjo,stb z2r 262 [(.int .i64 z9M)],stb z2h 175 [(.slice zgj z7W.length zgk)],row (.slice zgj z7W.length zgk) 132 2 (z7W.flatMap yu),dfr zjn]) ?_ ?_
  ·skip
   refine WC.b (WC.freezeS (ls:=zm5) .here .h2 hz (RR.flat (enc:=y1x) (fun _=>rfl) _) ?_)
   intro z5e zKX zAr
   obtain ⟨zU,zKY,h⟩:=z7 h
   refine WC.a (WL.pu rfl (WL.pu rfl (WL.yfF (dd:=16) rfl rfl rfl (z8 Tryz.call170 (.r2 rfl rfl)) .nil (ccz hz .nil .here fun w pz ho=>ydp _ _ _ _ _ _ _ _ zKY w pz zAr zAr) ?_)))
   rintro z2L z2M z2V z2W z2X z2Y ⟨zKZ,zL0⟩
   refine WL.nil (WX.a (WC.block (WC.pool (WC.drop (.s6 .here .h3 .h3 .here .here .here) (WC.nilRow 132 2 (WC.rangeFunc (f:=184) (caps:=[(.pointer (some ⟨z2L,0,none⟩)),(.pointer (some ⟨z2M,0,none⟩))]) rfl Tryz.call184 ?_))))))
   intro zV0 zV1 z2Z z4Q z3s zm8 zL1 zL2 w hw
   have hw1:=hw.selAll ((.s5 .h3 .h3 .h2 .h2 .here) : Sel _ [fz [],stb z2h 175 [(.slice none (([] : List z2).length) 0)],row (.slice none (([] : List z2).length) 0) 132 2 (([] : List z2).flatMap yu),stb z2r 262 [(.int .i64 0)],blk z2Z (z3s .ready none)] _)
   have pz:=(hz.call2 hw1 ((.cons .here .nil) : Sel [y26 [fz [],stb z2h 175 [(.slice none (([] : List z2).length) 0)],row (.slice none (([] : List z2).length) 0) 132 2 (([] : List z2).flatMap yu),stb z2r 262 [(.int .i64 0)],blk z2Z (z3s .ready none)],dfr z4Q,stb z2L 173 [(.slice z2V zU.1.length z2W)],stb z2M 173 [(.slice z2X zU.2.length z2Y)],fz z5e] [y26 [fz [],stb z2h 175 [(.slice none (([] : List z2).length) 0)],row (.slice none (([] : List z2).length) 0) 132 2 (([] : List z2).flatMap yu),stb z2r 262 [(.int .i64 0)],blk z2Z (z3s .ready none)]] [dfr z4Q,stb z2L 173 [(.slice z2V zU.1.length z2W)],stb z2M 173 [(.slice z2X zU.2.length z2Y)],fz z5e]) .h3).lend hw1 ((.cons .here .nil) : Sel [y26 [fz [],stb z2h 175 [(.slice none (([] : List z2).length) 0)],row (.slice none (([] : List z2).length) 0) 132 2 (([] : List z2).flatMap yu),stb z2r 262 [(.int .i64 0)],blk z2Z (z3s .ready none)],dfr z4Q,stb z2L 173 [(.slice z2V zU.1.length z2W)],stb z2M 173 [(.slice z2X zU.2.length z2Y)],fz z5e] [y26 [fz [],stb z2h 175 [(.slice none (([] : List z2).length) 0)],row (.slice none (([] : List z2).length) 0) 132 2 (([] : List z2).flatMap yu),stb z2r 262 [(.int .i64 0)],blk z2Z (z3s .ready none)]] [dfr z4Q,stb z2L 173 [(.slice z2V zU.1.length z2W)],stb z2M 173 [(.slice z2X zU.2.length z2Y)],fz z5e]) (B:=[stb z2L 173 [(.slice z2V zU.1.length z2W)],stb z2M 173 [(.slice z2X zU.2.length z2Y)]]) (fun _ hx'=>((.s2 .h1 .h1) : Sel _ [stb z2L 173 [(.slice z2V zU.1.length z2W)],stb z2M 173 [(.slice z2X zU.2.length z2Y)]] _).mem hx')
   obtain ⟨z3r,zL3,h⟩:=z7 h
   refine Calls.mono (yce (Z:=_) (zdT:=z2Z) (z7r:=(Option Addr × Nat)) (z5z:=(fun (g : Option Addr × Nat) (s : Nat × List z2 × Int)=>y26 ([fz [],stb z2h 175 [(.slice g.1 s.2.1.length g.2)],row (.slice g.1 s.2.1.length g.2) 132 2 (s.2.1.flatMap yu),stb z2r 262 [(.int .i64 s.2.2)]] ++ [blk z2Z (z3s (rdy (pcs [] s.1)) (pcs [] s.1))]))) (z9H:=(fun (g : Option Addr × Nat) (s : Nat × List z2 × Int)=>True)) (zdU:=(none,0)) (zrT:=⟨z2L,0,none⟩) (zdV:=z2V) (zdW:=z2W) (zdX:=⟨z2M,0,none⟩) (zlR:=z2X) (zlS:=z2Y) (zC:=(Nat × List z2 × Int)) (z4s:=(fun (x : z6 × z6) (s : Nat × List z2 × Int)=>chk (s.1 = 0) (y1w x s.2.1 s.2.2))) (s0_32953:=(0,([] : List z2),0)) (z1i:=zU.1) (z1F:=zU.2) (r:=z3r) w pz ?_ trivial (zKZ.mono (Zle.left _ _)) ((hw1.lent ((.cons .here .nil) : Sel [y26 [fz [],stb z2h 175 [(.slice none (([] : List z2).length) 0)],row (.slice none (([] : List z2).length) 0) 132 2 (([] : List z2).flatMap yu),stb z2r 262 [(.int .i64 0)],blk z2Z (z3s .ready none)],dfr z4Q,stb z2L 173 [(.slice z2V zU.1.length z2W)],stb z2M 173 [(.slice z2X zU.2.length z2Y)],fz z5e] [y26 [fz [],stb z2h 175 [(.slice none (([] : List z2).length) 0)],row (.slice none (([] : List z2).length) 0) 132 2 (([] : List z2).flatMap yu),stb z2r 262 [(.int .i64 0)],blk z2Z (z3s .ready none)]] [dfr z4Q,stb z2L 173 [(.slice z2V zU.1.length z2W)],stb z2M 173 [(.slice z2X zU.2.length z2Y)],fz z5e]) (B:=[stb z2L 173 [(.slice z2V zU.1.length z2W)],stb z2M 173 [(.slice z2X zU.2.length z2Y)]]) (fun _ hx'=>((.s2 .h1 .h1) : Sel _ [stb z2L 173 [(.slice z2V zU.1.length z2W)],stb z2M 173 [(.slice z2X zU.2.length z2Y)]] _).mem hx') (.head _) _).stb) (zL0.mono (Zle.left _ _)) ((hw1.lent ((.cons .here .nil) : Sel [y26 [fz [],stb z2h 175 [(.slice none (([] : List z2).length) 0)],row (.slice none (([] : List z2).length) 0) 132 2 (([] : List z2).flatMap yu),stb z2r 262 [(.int .i64 0)],blk z2Z (z3s .ready none)],dfr z4Q,stb z2L 173 [(.slice z2V zU.1.length z2W)],stb z2M 173 [(.slice z2X zU.2.length z2Y)],fz z5e] [y26 [fz [],stb z2h 175 [(.slice none (([] : List z2).length) 0)],row (.slice none (([] : List z2).length) 0) 132 2 (([] : List z2).flatMap yu),stb z2r 262 [(.int .i64 0)],blk z2Z (z3s .ready none)]] [dfr z4Q,stb z2L 173 [(.slice z2V zU.1.length z2W)],stb z2M 173 [(.slice z2X zU.2.length z2Y)],fz z5e]) (B:=[stb z2L 173 [(.slice z2V zU.1.length z2W)],stb z2M 173 [(.slice z2X zU.2.length z2Y)]]) (fun _ hx'=>((.s2 .h1 .h1) : Sel _ [stb z2L 173 [(.slice z2V zU.1.length z2W)],stb z2M 173 [(.slice z2X zU.2.length z2Y)]] _).mem hx') (.tail _ (.head _)) _).stb) zL3 (hw1.owns ((.cons .here .nil) : Sel [y26 [fz [],stb z2h 175 [(.slice none (([] : List z2).length) 0)],row (.slice none (([] : List z2).length) 0) 132 2 (([] : List z2).flatMap yu),stb z2r 262 [(.int .i64 0)],blk z2Z (z3s .ready none)],dfr z4Q,stb z2L 173 [(.slice z2V zU.1.length z2W)],stb z2M 173 [(.slice z2X zU.2.length z2Y)],fz z5e] [y26 [fz [],stb z2h 175 [(.slice none (([] : List z2).length) 0)],row (.slice none (([] : List z2).length) 0) 132 2 (([] : List z2).flatMap yu),stb z2r 262 [(.int .i64 0)],blk z2Z (z3s .ready none)]] [dfr z4Q,stb z2L 173 [(.slice z2V zU.1.length z2W)],stb z2M 173 [(.slice z2X zU.2.length z2Y)],fz z5e]))) ?_
   ·skip
    refine yaA (LI:=(fun (g : Option Addr × Nat) (s : Nat × List z2 × Int)=>[fz [],stb z2h 175 [(.slice g.1 s.2.1.length g.2)],row (.slice g.1 s.2.1.length g.2) 132 2 (s.2.1.flatMap yu),stb z2r 262 [(.int .i64 s.2.2)]])) (pc:=(fun (s : Nat × List z2 × Int)=>pcs [] s.1)) zm8 zL1 zL2 (fun _ _=>rfl) (by decide) ?_
    rintro z1x _ ⟨zgl,zgm⟩ ⟨zL4,z4u,zgi⟩ zL5 zL6 Fb wb zAs _ hz
    replace hz:=hz.left
    letI : Rnd:=inR z2Z
    obtain ⟨hp0,z3t⟩:=ym zAs
    replace hp0 : zL4 = 0:=hp0; subst hp0; clear zAs
    replace z3t : y1w z1x z4u zgi = some (zL5,zL6):=z3t
    unfold y1w at z3t
    refine WC.restr (env':=[(11,(.bool (!zsj))),(4,(.pointer (some ⟨z2r,0,none⟩))),(5,(.pointer (some ⟨z2h,0,none⟩))),(17,(.agg #[(.int .i64 z1x.1.fBurst.fN),(.int .i64 z1x.1.fBurst.fD),(.int .i64 z1x.1.fRate.fN),(.int .i64 z1x.1.fRate.fD)])),(18,(.agg #[(.int .i64 z1x.2.fBurst.fN),(.int .i64 z1x.2.fBurst.fD),(.int .i64 z1x.2.fRate.fN),(.int .i64 z1x.2.fRate.fD)]))]) (.r5 rfl rfl rfl rfl rfl) (WC.eqL (L':=[fz [],stb z2h 175 [(.slice zgl z4u.length zgm)],row (.slice zgl z4u.length zgm) 132 2 (z4u.flatMap yu),stb z2r 262 [(.int .i64 zgi)],blk z2Z (z3s .ready none)]) rfl (WC.b (WC.a (WL.nA 7 (yx (cs:=[(.int .i64 0),(.int .i64 0),(.int .i64 0),(.int .i64 0)]) z8K rfl) ?_))))
    intro zL7 _
    refine WL.yl rfl rfl (yk z7C rfl rfl rfl .here rfl rfl rfl) (WL.nil (WX.a (WC.a (WL.nA 8 (yx (cs:=[(.int .i64 0),(.int .i64 0),(.int .i64 0),(.int .i64 0)]) z8K rfl) ?_))))
    intro zL8 _
    refine WL.yl rfl rfl (yk z7C rfl rfl rfl .here rfl rfl rfl) (WL.nil (WX.ybF zm8 .h6 (WC.block (WC.b ?_))))
    obtain ⟨zAm,zL9,z3t⟩:=z7 z3t
    refine WC.a (WL.qA 19 (ya y4u rfl rfl) (WL.qA 20 (yR (cs:=[(.int .i64 z1x.1.fBurst.fN),(.int .i64 z1x.1.fBurst.fD)]) zb rfl rfl (y30 (s:=2) .h2 rfl)) (WL.qA 21 (ya y4u rfl rfl) (WL.qA 22 (yR (cs:=[(.int .i64 z1x.2.fBurst.fN),(.int .i64 z1x.2.fBurst.fD)]) zb rfl rfl (y30 (s:=2) .h1 rfl)) (WL.cA 23 (z8 Tryz.call79 (.r2 rfl rfl)) .nil (ccz hz .nil .h3 fun w pz ho=>y47 _ _ _ _ zL9 w pz ) (WL.pu rfl (WL.nil (WX.a (WC.cond rfl (fun zsn=>?_) (fun zsn=>?_))))))))))
    ·replace z3t:=yo z3t zsn
     obtain ⟨zsh,zLa,z3t⟩:=z7 z3t
     obtain ⟨zsi,zLb,z3t⟩:=z7 z3t
     obtain ⟨z7s,zLc,z3t⟩:=z7 z3t
     obtain ⟨zLd,z3t⟩:=ym z3t
     refine WC.yP (fun i=>[5,10,11,13,14].contains i) [y7c z2h 175 [(0,(.slice zgl z4u.length zgm))],y7c zL7 171 [(2,(.int .i64 z1x.1.fRate.fN)),(3,(.int .i64 z1x.1.fRate.fD))],y7c zL8 171 [(2,(.int .i64 z1x.2.fRate.fN)),(3,(.int .i64 z1x.2.fRate.fD))]] rfl (WD.sA 0 25 rfl (Sin.wk (.s3 .h4 .h2 .h1) (.stb (.cons rfl .nil) (.stb (.cons rfl (.cons rfl .nil)) (.stb (.cons rfl (.cons rfl .nil)) .nil)))) (yc z6Y rfl (y5C .here (.head _))) (WD.pA 1 26 rfl (fun _=>ya y4u rfl rfl) (WD.qA 2 27 rfl (yR (cs:=[(.int .i64 z1x.2.fBurst.fN),(.int .i64 z1x.2.fBurst.fD)]) zb rfl rfl (y30 (s:=2) .h1 rfl)) (WD.pA 3 28 rfl (fun _=>ya y4u rfl rfl) (WD.qA 4 29 rfl (yR (cs:=[(.int .i64 z1x.1.fBurst.fN),(.int .i64 z1x.1.fBurst.fD)]) zb rfl rfl (y30 (s:=2) .h2 rfl)) (WD.pA 6 31 rfl (fun _=>ya y5v rfl rfl) (WD.sA 7 32 rfl (Sin.wk (.s3 .h4 .h2 .h1) (.stb (.cons rfl .nil) (.stb (.cons rfl (.cons rfl .nil)) (.stb (.cons rfl (.cons rfl .nil)) .nil)))) (yR (cs:=[(.int .i64 z1x.1.fRate.fN),(.int .i64 z1x.1.fRate.fD)]) zb rfl rfl (y9Y .h1 ((.head _)) ((.tail _ (.head _))))) (WD.pA 8 33 rfl (fun _=>ya y5v rfl rfl) (WD.sA 9 34 rfl (Sin.wk (.s3 .h4 .h2 .h1) (.stb (.cons rfl .nil) (.stb (.cons rfl (.cons rfl .nil)) (.stb (.cons rfl (.cons rfl .nil)) .nil)))) (yR (cs:=[(.int .i64 z1x.2.fRate.fN),(.int .i64 z1x.2.fRate.fD)]) zb rfl rfl (y9Y .h2 ((.head _)) ((.tail _ (.head _))))) (WD.call0 (i:=5) (dd:=30) rfl (by kernel_rfl) rfl rfl rfl (.inl ⟨rfl,(Sin.wk (.s3 .h5 .h3 .h2) (.stb (.cons rfl .nil) (.stb (.cons rfl (.cons rfl .nil)) (.stb (.cons rfl (.cons rfl .nil)) .nil))))⟩) (z8 Tryz.call167 (.r4 rfl rfl rfl rfl)) (.cons .h6 .nil) (ccz hz (.cons .h6 .nil) .h3 fun w pz ho=>Calls.mono (y5n _ _ (z7U:=74) (zbG:=[]) _ (z9I:=(fun (y0 : z2) (y1 : z2)=>y24 y0 y1)) _ _ _ zLa w pz Tryz.call74 (fun w' hz' y0 y1  r  hr=>y8f _ _ _ _ hr w' hz' ) ho) (fun _ _ h'=>⟨h'.1,trivial,h'.2⟩)) ?_))))))))))
     intro _
     refine WD.call0 (i:=10) (dd:=35) rfl (by kernel_rfl) rfl rfl rfl (.inl ⟨rfl,(Sin.wk (.s3 .h5 .h3 .h2) (.stb (.cons rfl .nil) (.stb (.cons rfl (.cons rfl .nil)) (.stb (.cons rfl (.cons rfl .nil)) .nil))))⟩) (z8 Tryz.call167 (.r4 rfl rfl rfl rfl)) (.cons .here .nil) (ccz hz (.cons .here .nil) .h3 fun w pz ho=>Calls.mono (y5n _ _ (z7U:=74) (zbG:=[]) _ (z9I:=(fun (y0 : z2) (y1 : z2)=>y24 y0 y1)) _ _ _ zLb w pz Tryz.call74 (fun w' hz' y0 y1  r  hr=>y8f _ _ _ _ hr w' hz' ) ho) (fun _ _ h'=>⟨h'.1,trivial,h'.2⟩)) ?_
     intro _
     refine WD.call0 (i:=11) (dd:=36) rfl (by kernel_rfl) rfl rfl rfl (.inl ⟨rfl,(Sin.wk (.s3 .h5 .h3 .h2) (.stb (.cons rfl .nil) (.stb (.cons rfl (.cons rfl .nil)) (.stb (.cons rfl (.cons rfl .nil)) .nil))))⟩) (z8 Tryz.call167 (.r4 rfl rfl rfl rfl)) (.cons .here .nil) (ccz hz (.cons .here .nil) .h3 fun w pz ho=>Calls.mono (y5n _ _ (z7U:=75) (zbG:=[]) _ (z9I:=(fun (y0 : z2) (y1 : z2)=>y3v y0 y1)) _ _ _ zLc w pz Tryz.call75 (fun w' hz' y0 y1  r  hr=>yd6 _ _ _ _ hr w' hz' ) ho) (fun _ _ h'=>⟨h'.1,trivial,h'.2⟩)) ?_
     intro _
     refine WD.new (i:=12) (dd:=37) rfl (by kernel_rfl) rfl rfl rfl (yX (cs:=([z7s.1] : List z2).flatMap yu) z1I (Eos.parts (l:=[.tmp 36]) (.cons rfl .nil) [0]) (fun _=>by kernel_rfl) rfl (by unfold maxLen; omega)) (fun h'=>absurd h' (by decide)) ?_
     intro zV2 _
     refine WD.old (i:=13) (dd:=38) rfl (by kernel_rfl) rfl rfl rfl rfl (fun _=>(Sin.wk (.s3 .h7 .h5 .h4) (.stb (.cons rfl .nil) (.stb (.cons rfl (.cons rfl .nil)) (.stb (.cons rfl (.cons rfl .nil)) .nil))))) (y4M (enc:=yu) (l1:=z4u) (l2:=([z7s.1] : List z2)) z1I rfl rfl .h7 (fun _=>rfl) rfl rfl (y4d .here) (y5a yb7 _) zLd) ?_
     rintro ⟨zso,zsp⟩ _
     refine WD.y3A (i:=14) rfl (by kernel_rfl) rfl rfl rfl (by kernel_rfl) (yk znu rfl rfl rfl .h7 rfl rfl rfl) (WD.done (by kernel_rfl) (WX.yq ?_))
     obtain ⟨rfl,rfl⟩:=y9w z3t
     exact WX.y6F zm8 .h4 (fun w' hw'=>⟨(zso,zsp),rfl,trivial,(hw'.selAll ((.s5 .h7 .h1 .h1 .h2 .here) : Sel _ [fz [],stb z2h 175 [(.slice zso ((z4u ++ ([z7s.1] : List z2)).length) zsp)],row (.slice zso ((z4u ++ ([z7s.1] : List z2)).length) zsp) 132 2 ((z4u ++ ([z7s.1] : List z2)).flatMap yu),stb z2r 262 [(.int .i64 z7s.2.fE)],blk z2Z (z3s .ready none)] _)).sub (.cons .here .nil)⟩)
    ·replace z3t:=yp z3t zsn
     refine WC.skip (WX.yq ?_)
     obtain ⟨rfl,rfl⟩:=y9w z3t
     exact WX.y6F zm8 .here (fun w' hw'=>⟨(zgl,zgm),rfl,trivial,(hw'.selAll ((.s5 .h3 .h3 .h3 .h3 .here) : Sel _ [fz [],stb z2h 175 [(.slice zgl z4u.length zgm)],row (.slice zgl z4u.length zgm) 132 2 (z4u.flatMap yu),stb z2r 262 [(.int .i64 zgi)],blk z2Z (z3s .ready none)] _)).sub (.cons .here .nil)⟩)
   ·skip
    rintro _ w' ⟨⟨zjp,zjq⟩,rfl,_,hp⟩
    have hp1:=hw1.call ((.cons .here .nil) : Sel [y26 [fz [],stb z2h 175 [(.slice none (([] : List z2).length) 0)],row (.slice none (([] : List z2).length) 0) 132 2 (([] : List z2).flatMap yu),stb z2r 262 [(.int .i64 0)],blk z2Z (z3s .ready none)],dfr z4Q,stb z2L 173 [(.slice z2V zU.1.length z2W)],stb z2M 173 [(.slice z2X zU.2.length z2Y)],fz z5e] [y26 [fz [],stb z2h 175 [(.slice none (([] : List z2).length) 0)],row (.slice none (([] : List z2).length) 0) 132 2 (([] : List z2).flatMap yu),stb z2r 262 [(.int .i64 0)],blk z2Z (z3s .ready none)]] [dfr z4Q,stb z2L 173 [(.slice z2V zU.1.length z2W)],stb z2M 173 [(.slice z2X zU.2.length z2Y)],fz z5e]) hp
    have hp2 : Hp _ _ w' [fz [],stb z2h 175 [(.slice zjp z3r.2.1.length zjq)],row (.slice zjp z3r.2.1.length zjq) 132 2 (z3r.2.1.flatMap yu),stb z2r 262 [(.int .i64 z3r.2.2)],blk z2Z (z3s (rdy (pcs [] z3r.1)) (pcs [] z3r.1)),dfr z4Q,stb z2L 173 [(.slice z2V zU.1.length z2W)],stb z2M 173 [(.slice z2X zU.2.length z2Y)],fz z5e]:=hp1.pickAll .here
    refine ⟨_,pcs [] z3r.1,_,rfl,(hp2.sub ((.s9 .h4 .here .here .here .here .here .here .here .here) : Sel _ [blk z2Z (z3s (rdy (pcs [] z3r.1)) (pcs [] z3r.1)),fz [],stb z2h 175 [(.slice zjp z3r.2.1.length zjq)],row (.slice zjp z3r.2.1.length zjq) 132 2 (z3r.2.1.flatMap yu),stb z2r 262 [(.int .i64 z3r.2.2)],dfr z4Q,stb z2L 173 [(.slice z2V zU.1.length z2W)],stb z2M 173 [(.slice z2X zU.2.length z2Y)],fz z5e] _)),?_⟩
    clear hp hp1 hp2 pz hw hw1
    refine wjN ?_
    letI : Rnd:=aft z4Q
    refine WX.merge .here .h6 (WX.yq ?_)
    exact WX.midR (D:=fun (g : Nat × Int × List z2 × Zp × Option Addr × Nat)=>g.1) (G:=Nat × Int × List z2 × Zp × Option Addr × Nat) ⟨z4Q,z3r.2.2,z3r.2.1,(z5e ++ []),zjp,zjq⟩ ⟨h,(zKX.trans ((Zle.left _ _).trans (Zle.y1K _ _ _)))⟩ (.r2 rfl rfl) (.s5 .here .h2 .here .here .here)
  ·rintro zjn z9M z7W zjo zgj zgk ⟨h,zV3⟩
   replace h:=(zKW z9M z7W).symm.trans h
   letI : Rnd:=aft zjn
   refine WC.b (WC.b (WC.a (WL.qA 39 (ya y7Y rfl rfl) (WL.qA 40 (yc y2Y rfl (yj .h1 rfl)) (WL.pu rfl (WL.nil (WX.a (WC.cond rfl (fun zsq=>?_) (fun zsq=>?_)))))))))
   ·replace h:=yo h zsq
    refine WC.b (WC.yP (fun i=>[].contains i) [] rfl (WD.pA 0 42 rfl (fun _=>ya y7Y rfl rfl) (WD.qA 1 43 rfl (yc y2Y rfl (yj .h1 rfl)) (WD.pA 2 2 rfl (fun _=>q_z rfl) (WD.pA 3 3 rfl (fun _=>q_z rfl) (WD.done (by kernel_rfl) (WX.a (WC.ret (WX.yd (WX.nilRow 132 2 ?_))))))))))
    obtain rfl:=Option.some.inj h
    refine WX.y7k .h5 Tryz.results153 (.tmp rfl (.tmp rfl .nil)) (fun w hw=>?_)
    exact ⟨none,0,y1U rfl rfl,trivial,hw.sub (.cons .h1 .nil)⟩
   ·replace h:=yp h zsq
    refine WC.skip (WX.a (WC.b ?_))
    obtain ⟨zsk,zLe,h⟩:=z7 h
    refine WC.a (WL.qA 44 (yc z6Y rfl (yj .h2 rfl)) (WL.y4L (dd:=45) rfl rfl rfl (z8 Tryz.call171 (.r2 rfl rfl)) (.cons .h3 .nil) (ccz hz (.cons .h3 .nil) .here fun w pz ho=>y76 _ _ _ (zgd:=79) (zlY:=[]) _ (zgc:=(fun (y0 : z2) (y1 : z2)=>y1i y0 y1)) _ zLe w pz Tryz.call79 (fun w' hz' y0 y1  r  hr=>y47 _ _ _ _ hr w' hz' ) ho) ?_))
    rintro  zLf
    refine WL.restb (cs':=[(.slice zgj zsk.length zgk)]) .h3 (by rw [zLf]) (WL.nil (WX.a (WC.b ?_)))
    obtain ⟨zAn,zLg,h⟩:=z7 h
    refine WC.a (WL.qA 46 (yc z6Y rfl (yj .here rfl)) (WL.y45 (dd:=47) rfl rfl rfl (z8 Tryz.call172 (.cons rfl .nil)) (.cons .h1 .nil) (ccz hz (.cons .h1 .nil) .h1 fun w pz ho=>y7f _ _ _ _ _ zLg w pz  ho) ?_))
    rintro zLh zLi _
    refine WL.pu rfl (WL.pu rfl (WL.nil (WX.a (WC.ret ?_))))
    obtain rfl:=Option.some.inj h
    refine WX.y7k .h4 Tryz.results153 (.tmp rfl (.tmp rfl .nil)) (fun w hw=>?_)
    exact ⟨zLh,zLi,y1U rfl rfl,trivial,hw.sub (.cons .h1 .nil)⟩
def y3h (z62 : z6) (z63 : z6) : Option Int :=
 (y1i z62.fRate z63.fRate).bind fun zAt=>some zAt
theorem ycJ (Z : Zp)  (z62 : z6) (z63 : z6) (r : Int)
  (h : y3h z62 z63 = some r) (w₀ : World) (hz : PZ [] w₀ Z) :
  Calls Tryz.prog 174 #[(.agg #[(.int .i64 z62.fBurst.fN),(.int .i64 z62.fBurst.fD),(.int .i64 z62.fRate.fN),(.int .i64 z62.fRate.fD)]),(.agg #[(.int .i64 z63.fBurst.fN),(.int .i64 z63.fBurst.fD),(.int .i64 z63.fRate.fN),(.int .i64 z63.fRate.fD)])] w₀ fun e w'=>e = .returned (.int .i64 r) ∧ Hp [] w₀ w' []:=by
 unfold y3h at h
 refine Calls.yI Tryz.func174 Tryz.ntmps174 ?_
 refine WC.b (WC.a (WL.nA 2 (yH (cs:=[(.int .i64 z62.fBurst.fN),(.int .i64 z62.fBurst.fD),(.int .i64 z62.fRate.fN),(.int .i64 z62.fRate.fD)]) rfl rfl) ?_))
 intro zV4 _
 refine WL.nA 3 (yH (cs:=[(.int .i64 z63.fBurst.fN),(.int .i64 z63.fBurst.fD),(.int .i64 z63.fRate.fN),(.int .i64 z63.fRate.fD)]) rfl rfl) ?_
 intro zV5 _
 refine WL.pu rfl (WL.nil (WX.a (WC.b ?_)))
 obtain ⟨zAt,zLj,h⟩:=z7 h
 refine WC.a (WL.qA 5 (ya y5v rfl rfl) (WL.qA 6 (yR (cs:=[(.int .i64 z62.fRate.fN),(.int .i64 z62.fRate.fD)]) zb rfl rfl (y30 (s:=2) .h1 rfl)) (WL.qA 7 (ya y5v rfl rfl) (WL.qA 8 (yR (cs:=[(.int .i64 z63.fRate.fN),(.int .i64 z63.fRate.fD)]) zb rfl rfl (y30 (s:=2) .here rfl)) (WL.cA 9 (z8 Tryz.call79 (.r2 rfl rfl)) .nil (cc hz .nil fun w pz ho=>y47 _ _ _ _ zLj w pz ) (WL.pu rfl (WL.nil (WX.a (WC.ret ?_)))))))))
 obtain rfl:=Option.some.inj h
 refine WX.ye Tryz.results174 (.tmp rfl .nil) (fun w hw=>?_)
 exact ⟨yC rfl,hw.sub .nil⟩
def yY (z13 : List z6) (z7t : z6 → z6 → Option Int) (z9N : Int → Int → Int → Int → Option z6) : Nat → Int → Int → Int → Int → Int → Option z6
 | 0,_,_,_,_,_=>none
 | zsr + 1,z1v,z5f,z5g,z5h,z5i=>if decide (z1v < ((z13.length : Nat) : Int)) then jp4 (fun (z9O : Int) (z9P : Int) (z9Q : Int) (z9R : Int)=>yY z13 z7t z9N zsr (i64 (z1v + 1)) z9O z9P z9Q z9R) fun zm9=>chk ((0 : Int) ≤ z1v ∧ z1v < ((z13.length : Nat) : Int)) ((z7t (⟨(⟨(((nth z13 z1v).fBurst).fN),(((nth z13 z1v).fBurst).fD)⟩ : z2),(⟨(((nth z13 z1v).fRate).fN),(((nth z13 z1v).fRate).fD)⟩ : z2)⟩ : z6) (⟨(⟨z5f,z5g⟩ : z2),(⟨z5h,z5i⟩ : z2)⟩ : z6)).bind fun zss=>if decide (zss < 0) then chk ((0 : Int) ≤ z1v ∧ z1v < ((z13.length : Nat) : Int)) (zm9 (((nth z13 z1v).fBurst).fN) (((nth z13 z1v).fBurst).fD) (((nth z13 z1v).fRate).fN) (((nth z13 z1v).fRate).fD)) else zm9 z5f z5g z5h z5i) else z9N z5f z5g z5h z5i
theorem y5o {n : Nat} {z13 : List z6} {z7t : z6 → z6 → Option Int} {z9N : Int → Int → Int → Int → Option z6} {z1v : Int} {z5f : Int} {z5g : Int} {z5h : Int} {z5i : Int} {r : z6} (h : yY z13 z7t z9N n z1v z5f z5g z5h z5i = some r) : ∃ m,n = m + 1:=by
 cases n with
 | zero=>cases h
 | succ m=>exact ⟨m,rfl⟩
def y1F (z13 : List z6) (z7t : z6 → z6 → Option Int) : Option z6 :=
 if decide (((z13.length : Nat) : Int) < 1) then none else chk ((0 : Int) ≤ 0 ∧ 0 < ((z13.length : Nat) : Int)) (jp4 (fun (zbL : Int) (zbM : Int) (zbN : Int) (zbO : Int)=>some (⟨(⟨zbL,zbM⟩ : z2),(⟨zbN,zbO⟩ : z2)⟩ : z6)) fun z9N=>yY z13 z7t z9N yz 1 (((nth z13 0).fBurst).fN) (((nth z13 0).fBurst).fD) (((nth z13 0).fRate).fN) (((nth z13 0).fRate).fD))
theorem y6n (Z : Zp) (zma : Option Addr) (zmb : Nat) (zbP : FuncId) (zgn : List Value) (z13 : List z6) (z7t : z6 → z6 → Option Int) (r : z6)
  (h : y1F z13 z7t = some r) (w₀ : World) (hz : PZ [] w₀ Z)
  (zst : ZS Z 4 (fun r x=>r = y1x x) zma zmb z13)
  (zLk : ∀ args w,(callFunc zbP args).run Tryz.prog w = .ok (.enter zbP args) w)
  (zLl : ∀ w : World,PZ [] w Z → ∀ (x0 : z6) (x1 : z6) (r : Int),z7t x0 x1 = some r → Calls Tryz.prog zbP (([(.agg #[(.int .i64 x0.fBurst.fN),(.int .i64 x0.fBurst.fD),(.int .i64 x0.fRate.fN),(.int .i64 x0.fRate.fD)]),(.agg #[(.int .i64 x1.fBurst.fN),(.int .i64 x1.fBurst.fD),(.int .i64 x1.fRate.fN),(.int .i64 x1.fRate.fD)])] : List Value) ++ zgn).toArray w fun e w'=>e = .returned (.int .i64 r) ∧ Hp [] w w' []) :
  Calls Tryz.prog 173 #[(.slice zma z13.length zmb),(.func (.func zbP) #[] (zgn).toArray)] w₀ fun e w'=>e = .returned (.agg #[(.int .i64 r.fBurst.fN),(.int .i64 r.fBurst.fD),(.int .i64 r.fRate.fN),(.int .i64 r.fRate.fD)]) ∧ Hp [] w₀ w' []:=by
 unfold y1F at h
 refine Calls.yI Tryz.func173 Tryz.ntmps173 ?_
 refine WC.b (WC.a (WL.nA 4 (yx (cs:=[(.int .i64 0),(.int .i64 0),(.int .i64 0),(.int .i64 0)]) z8K rfl) ?_))
 intro zgo _
 refine WL.nil (WX.a (WC.b (WC.b (WC.a (WL.pu rfl (WL.qA 8 (yG Tryz.underlying173 rfl) (WL.pu rfl (WL.nil (WX.a (WC.cond rfl (fun zsu=>?_) (fun zsu=>?_)))))))))))
 ·replace h:=yo h zsu
  cases h
 ·replace h:=yp h zsu
  refine WC.skip (WX.a (WC.b ?_))
  obtain ⟨zLm,h⟩:=ym h
  refine WC.a (WL.pu rfl (WL.znth (dd:=12) rfl rfl (Z:=Z) (Pr:=(fun r x=>r = y1x x)) z5P rfl rfl zst zLm ?_))
  rintro zV6 zV7 zLn zV8 rfl
  refine WL.qA 13 (yf z2a rfl (y2o hz.pv zLn) rfl) (WL.nA 5 (yx (cs:=[(.int .i64 0),(.int .i64 0),(.int .i64 0),(.int .i64 0)]) z8K rfl) ?_)
  intro zgp _
  refine WL.yl rfl rfl (yk z7C rfl rfl rfl .here rfl rfl rfl) (WL.nil (WX.a ?_))
  obtain ⟨z9N,zLo,h⟩:=ydy h
  refine WC.y8u (fun (zbL : Int) (zbM : Int) (zbN : Int) (zbO : Int)=>(z9N zbL zbM zbN zbO = some r)) (fun zbL zbM zbN zbO=>[(4,(.pointer (some ⟨zgo,0,none⟩))),(5,(.pointer (some ⟨zgp,0,none⟩)))]) (fun zbL zbM zbN zbO=>[stb zgo 171 [(.int .i64 0),(.int .i64 0),(.int .i64 0),(.int .i64 0)],stb zgp 171 [(.int .i64 zbL),(.int .i64 zbM),(.int .i64 zbN),(.int .i64 zbO)]]) ?_ ?_
  ·skip
   refine WC.b (WC.a (WL.pu rfl (WL.nil (WX.a (WC.block (WC.ybD (fun (zgq : Nat) (z1v : Int) (z5f : Int) (z5g : Int) (z5h : Int) (z5i : Int)=>(yY z13 z7t z9N zgq z1v z5f z5g z5h z5i = some r)) (fun zgq z1v z5f z5g z5h z5i=>[(0,(.slice zma z13.length zmb)),(1,(.func (.func zbP) #[] (zgn).toArray)),(4,(.pointer (some ⟨zgo,0,none⟩))),(5,(.pointer (some ⟨zgp,0,none⟩))),(6,(.int .i64 z1v))]) (fun zgq z1v z5f z5g z5h z5i=>[stb zgo 171 [(.int .i64 0),(.int .i64 0),(.int .i64 0),(.int .i64 0)],stb zgp 171 [(.int .i64 z5f),(.int .i64 z5g),(.int .i64 z5h),(.int .i64 z5i)]]) (fun zgq z1v z5f z5g z5h z5i=>zgq) ⟨yz,1,(((nth z13 0).fBurst).fN),(((nth z13 0).fBurst).fD),(((nth z13 0).fRate).fN),(((nth z13 0).fRate).fD)⟩ h (.r5 rfl rfl rfl rfl rfl) (.s2 .h1 .here) ?_))))))
   rintro zgq z1v z5f z5g z5h z5i h
   obtain ⟨zsr,rfl⟩:=y5o h
   rw [yY] at h
   refine WC.b (WC.b (WC.a (WL.pu rfl (WL.pu rfl (WL.qA 16 (yG Tryz.underlying173 rfl) (WL.pu rfl (WL.nil (WX.a (WC.cond rfl (fun zsv=>?_) (fun zsv=>?_))))))))))
   ·replace h:=yo h zsv
    refine WC.skip (WX.a ?_)
    obtain ⟨zm9,zLp,h⟩:=ydy h
    refine WC.y8u (fun (z9O : Int) (z9P : Int) (z9Q : Int) (z9R : Int)=>(zm9 z9O z9P z9Q z9R = some r)) (fun z9O z9P z9Q z9R=>[(0,(.slice zma z13.length zmb)),(1,(.func (.func zbP) #[] (zgn).toArray)),(4,(.pointer (some ⟨zgo,0,none⟩))),(5,(.pointer (some ⟨zgp,0,none⟩))),(6,(.int .i64 z1v))]) (fun z9O z9P z9Q z9R=>[stb zgo 171 [(.int .i64 0),(.int .i64 0),(.int .i64 0),(.int .i64 0)],stb zgp 171 [(.int .i64 z9O),(.int .i64 z9P),(.int .i64 z9Q),(.int .i64 z9R)]]) ?_ ?_
    ·skip
     refine WC.block (WC.b ?_)
     obtain ⟨zLq,h⟩:=ym h
     obtain ⟨zss,zLr,h⟩:=z7 h
     refine WC.yP (fun i=>[].contains i) [] rfl (WD.pA 0 20 rfl (fun _=>q_m rfl) (WD.pA 1 21 rfl (fun _=>q_m rfl) (WD.pA 2 22 rfl (fun _=>q_m rfl) (WD.znth (j:=3) (dd:=23) (by kernel_rfl) rfl z2l z2m rfl rfl (Z:=Z) (Pr:=(fun r x=>r = y1x x)) z5P rfl rfl zst zLq ?_))))
     rintro zV9 zVa zLs zVb rfl
     refine WD.qA 4 24 rfl (yf z2a rfl (y2o hz.pv zLs) rfl) (WD.qA 5 25 rfl (yf z2a rfl (yh .h1) rfl) (WD.eA 6 26 rfl (y2q (l:=[.tmp 24,.tmp 25]) (f:=zbP) (caps:=zgn) zLk rfl (.r2 rfl rfl)) (fun w hw=>zLl w (hz.now hw) (⟨(⟨(((nth z13 z1v).fBurst).fN),(((nth z13 z1v).fBurst).fD)⟩ : z2),(⟨(((nth z13 z1v).fRate).fN),(((nth z13 z1v).fRate).fD)⟩ : z2)⟩ : z6) (⟨(⟨z5f,z5g⟩ : z2),(⟨z5h,z5i⟩ : z2)⟩ : z6) zss  zLr) (WD.pA 7 27 rfl (fun _=>q_lss rfl rfl) (WD.done (by kernel_rfl) (WX.a (WC.cond rfl (fun zsw=>?_) (fun zsw=>?_)))))))
     ·replace h:=yo h zsw
      obtain ⟨zLt,h⟩:=ym h
      refine WC.a (WL.pu rfl (WL.pu rfl (WL.znth (dd:=30) rfl rfl (Z:=Z) (Pr:=(fun r x=>r = y1x x)) z5P rfl rfl zst zLt ?_)))
      rintro zVc zVd zLu zVe rfl
      refine WL.qA 31 (yf z2a rfl (y2o hz.pv zLu) rfl) (WL.yl rfl rfl (yk z7C rfl rfl rfl .h1 rfl rfl rfl) (WL.nil (WX.yq ?_)))
      exact WX.mid ⟨(((nth z13 z1v).fBurst).fN),(((nth z13 z1v).fBurst).fD),(((nth z13 z1v).fRate).fN),(((nth z13 z1v).fRate).fD)⟩ h (.r5 rfl rfl rfl rfl rfl) (.s2 .h1 .here)
     ·replace h:=yp h zsw
      refine WC.skip (WX.yq ?_)
      exact WX.mid ⟨z5f,z5g,z5h,z5i⟩ h (.r5 rfl rfl rfl rfl rfl) (.s2 .here .here)
    ·rintro z9O z9P z9Q z9R h
     replace h:=(zLp z9O z9P z9Q z9R).symm.trans h
     refine WC.a (WL.pu rfl (WL.pu rfl (WL.pu rfl (WL.nil ?_))))
     exact WX.round ⟨zsr,(i64 (z1v + 1)),z9O,z9P,z9Q,z9R⟩ h (Nat.lt_succ_self _) (.r5 rfl rfl rfl rfl rfl) (.s2 .here .here)
   ·replace h:=yp h zsv
    refine WC.exit (WX.yg (WX.yg (WX.yA ?_)))
    exact WX.mid ⟨z5f,z5g,z5h,z5i⟩ h (.r2 rfl rfl) (.s2 .here .here)
  ·rintro zbL zbM zbN zbO h
   replace h:=(zLo zbL zbM zbN zbO).symm.trans h
   refine WC.b (WC.a (WL.qA 32 (yf z2a rfl (yh .h1) rfl) (WL.yl rfl rfl (yk z7C rfl rfl rfl .here rfl rfl rfl) (WL.nil (WX.a (WC.ret ?_))))))
   obtain rfl:=Option.some.inj h
   refine WX.ye Tryz.results173 (.agg rfl z2a rfl (yh .here) .nil) (fun w hw=>?_)
   exact ⟨yC rfl,hw.sub .nil⟩
def y4m (zgr : List z6) : Option (z2 × Int) :=
 (y46 zgr).bind fun zAu=>if !zAu then some ((⟨0,0⟩ : z2),2) else (y1F zgr (fun (y0 : z6) (y1 : z6)=>y3h y0 y1)).bind fun zmc=>some (zmc.fRate,0)
theorem yaQ (Z : Zp) (zAv : Option Addr) (zAw : Nat) (zgr : List z6) (r : z2 × Int)
  (h : y4m zgr = some r) (w₀ : World) (hz : PZ [] w₀ Z)
  (zAx : ZS Z 4 (fun r x=>r = y1x x) zAv zAw zgr) :
  Calls Tryz.prog 154 #[(.slice zAv zgr.length zAw)] w₀ fun e w'=>e = .returned (.tuple #[(.agg #[(.int .i64 r.1.fN),(.int .i64 r.1.fD)]),(.int .i64 r.2)]) ∧ Hp [] w₀ w' []:=by
 unfold y4m at h
 refine Calls.on1 Tryz.func154 Tryz.ntmps154 ?_
 refine WC.b (WC.a (WL.nA 2 (yx (cs:=[(.int .i64 0),(.int .i64 0)]) zH rfl) ?_))
 intro zVf _
 refine WL.pu rfl (WL.nil (WX.a (WC.b (WC.b ?_))))
 obtain ⟨zAu,zLv,h⟩:=z7 h
 refine WC.a (WL.pu rfl (WL.cA 5 (z8 Tryz.call146 (.cons rfl .nil)) .nil (cc hz .nil fun w pz ho=>y78 _ _ _ _ _ zLv w pz zAx) (WL.pu rfl (WL.nil (WX.a (WC.cond rfl (fun zsx=>?_) (fun zsx=>?_)))))))
 ·replace h:=yo h zsx
  refine WC.b (WC.a (WL.qA 7 (yL (v:=(.agg #[(.int .i64 0),(.int .i64 0)])) (Eos.parts (l:=[]) .nil []) (fun _=>by kernel_rfl)) (WL.yl rfl rfl (yk zq rfl rfl rfl .here rfl rfl rfl) (WL.pu rfl (WL.nil (WX.a (WC.ret (WX.yd ?_))))))))
  obtain rfl:=Option.some.inj h
  refine WX.ye Tryz.results154 (.agg rfl zb rfl (yh .here) (.tmp rfl .nil)) (fun w hw=>?_)
  exact ⟨y1U rfl rfl,hw.sub .nil⟩
 ·replace h:=yp h zsx
  refine WC.skip (WX.a (WC.b ?_))
  obtain ⟨zmc,zLw,h⟩:=z7 h
  refine WC.a (WL.pu rfl (WL.cA 9 (z8 Tryz.call173 (.r2 rfl rfl)) .nil (cc hz .nil fun w pz ho=>y6n _ _ _ (zbP:=174) (zgn:=[]) _ (z7t:=(fun (y0 : z6) (y1 : z6)=>y3h y0 y1)) _ zLw w pz zAx Tryz.call174 (fun w' hz' y0 y1  r  hr=>ycJ _ _ _ _ hr w' hz' )) (WL.qA 10 (q_fieldA (cs':=#[(.int .i64 zmc.fRate.fN),(.int .i64 zmc.fRate.fD)]) yfn zb rfl rfl) (WL.yl rfl rfl (yk zq rfl rfl rfl .here rfl rfl rfl) (WL.pu rfl (WL.nil (WX.a (WC.ret ?_))))))))
  obtain rfl:=Option.some.inj h
  refine WX.ye Tryz.results154 (.agg rfl zb rfl (yh .here) (.tmp rfl .nil)) (fun w hw=>?_)
  exact ⟨y1U rfl rfl,hw.sub .nil⟩
def y10 (zbQ : z18) (z64 : z2 → z2 → Option (z2 × Int)) (zbR : z2) (zbS : z2) : Option (z2 × z18) :=
 if decide (zbQ.fE ≠ 0) then (y2z).bind fun zAy=>some (zAy,zbQ) else (z64 zbR zbS).bind fun zgs=>if decide (zgs.2 ≠ 0) then (y2z).bind fun zAz=>some (zAz,(⟨zgs.2⟩ : z18)) else some (zgs.1,(⟨zgs.2⟩ : z18))
theorem y2f (Z : Zp) (zgt : Nat) (z5A : FuncId) (z6w : List Value) (zbQ : z18) (z64 : z2 → z2 → Option (z2 × Int)) (zbR : z2) (zbS : z2) (r : z2 × z18)
  (h : y10 zbQ z64 zbR zbS = some r) (w₀ : World) (hz : PZ (fps [stb zgt 225 [(.int .i64 zbQ.fE)]]) w₀ Z)
  (zLx : ∀ args w,(callFunc z5A args).run Tryz.prog w = .ok (.enter z5A args) w)
  (zLy : ∀ w : World,PZ [] w Z → ∀ (x0 : z2) (x1 : z2) (r : z2 × Int),z64 x0 x1 = some r → Calls Tryz.prog z5A (([(.agg #[(.int .i64 x0.fN),(.int .i64 x0.fD)]),(.agg #[(.int .i64 x1.fN),(.int .i64 x1.fD)])] : List Value) ++ z6w).toArray w fun e w'=>e = .returned (.tuple #[(.agg #[(.int .i64 r.1.fN),(.int .i64 r.1.fD)]),(.int .i64 r.2)]) ∧ Hp [] w w' [])
  (hown : Hp (fps [stb zgt 225 [(.int .i64 zbQ.fE)]]) w₀ w₀ [stb zgt 225 [(.int .i64 zbQ.fE)]]) :
  Calls Tryz.prog 73 #[(.pointer (some ⟨zgt,0,none⟩)),(.func (.func z5A) #[] (z6w).toArray),(.agg #[(.int .i64 zbR.fN),(.int .i64 zbR.fD)]),(.agg #[(.int .i64 zbS.fN),(.int .i64 zbS.fD)])] w₀ fun e w'=>e = .returned (.agg #[(.int .i64 r.1.fN),(.int .i64 r.1.fD)]) ∧ Hp (fps [stb zgt 225 [(.int .i64 zbQ.fE)]]) w₀ w' [stb zgt 225 [(.int .i64 r.2.fE)]]:=by
 unfold y10 at h
 refine Calls.oh4 Tryz.func73 Tryz.ntmps73 hown ?_
 refine WC.b (WC.a (WL.nA 6 (yH (cs:=[(.int .i64 zbR.fN),(.int .i64 zbR.fD)]) rfl rfl) ?_))
 intro zVg _
 refine WL.nA 7 (yH (cs:=[(.int .i64 zbS.fN),(.int .i64 zbS.fD)]) rfl rfl) ?_
 intro zVh _
 refine WL.nA 8 (yx (cs:=[(.int .i64 0),(.int .i64 0)]) zH rfl) ?_
 intro zVi _
 refine WL.nil (WX.a (WC.b (WC.b (WC.a (WL.pu rfl (WL.qA 12 (y11 rfl) (WL.qA 13 (ya y4v rfl rfl) (WL.qA 14 (yc y2Y rfl (yj .h3 rfl)) (WL.pu rfl (WL.nil (WX.a (WC.cond rfl (fun zsy=>?_) (fun zsy=>?_)))))))))))))
 ·replace h:=yo h zsy
  refine WC.b ?_
  obtain ⟨zAy,zLz,h⟩:=z7 h
  refine WC.a (WL.cA 16 (z8 Tryz.call107 .nil) .nil (cc hz .nil fun w pz ho=>y3X _ _ zLz w pz ) (WL.yl rfl rfl (yk zq rfl rfl rfl .here rfl rfl rfl) (WL.nil (WX.a (WC.ret (WX.yd ?_))))))
  obtain rfl:=Option.some.inj h
  refine WX.ye Tryz.results73 (.agg rfl zb rfl (yh .here) .nil) (fun w hw=>?_)
  exact ⟨yC rfl,hw.sub (.cons .h3 .nil)⟩
 ·replace h:=yp h zsy
  refine WC.skip (WX.a (WC.b ?_))
  obtain ⟨zgs,zLA,h⟩:=z7 h
  refine WC.a (WL.pu rfl (WL.qA 19 (yf zb rfl (yh .h2) rfl) (WL.qA 20 (yf zb rfl (yh .h1) rfl) (WL.cA 21 (y2q (l:=[.tmp 19,.tmp 20]) (f:=z5A) (caps:=z6w) zLx rfl (.r2 rfl rfl)) .nil (fun w hw=>zLy w (hz.now hw) zbR zbS zgs  zLA) (WL.pu rfl (WL.pu rfl (WL.pu rfl (WL.nA 9 (yx (cs:=[(.int .i64 0),(.int .i64 0)]) zH rfl) ?_))))))))
  intro zVj _
  refine WL.yl rfl rfl (yk zq rfl rfl rfl .here rfl rfl rfl) (WL.pu rfl (WL.nil (WX.a (WC.b (WC.b (WC.a (WL.pu rfl (WL.pu rfl (WL.qA 26 (y11 rfl) (WL.qA 27 (ya y4v rfl rfl) (WL.yl rfl rfl (yk y9A rfl rfl rfl .h4 rfl rfl rfl) (WL.nil (WX.a (WC.b (WC.a (WL.pu rfl (WL.pu rfl (WL.nil (WX.a (WC.cond rfl (fun zsz=>?_) (fun zsz=>?_)))))))))))))))))))))
  ·replace h:=yo h zsz
   refine WC.b ?_
   obtain ⟨zAz,zLB,h⟩:=z7 h
   refine WC.a (WL.cA 30 (z8 Tryz.call107 .nil) .nil (cc hz .nil fun w pz ho=>y3X _ _ zLB w pz ) (WL.yl rfl rfl (yk zq rfl rfl rfl .h2 rfl rfl rfl) (WL.nil (WX.a (WC.ret (WX.yd ?_))))))
   obtain rfl:=Option.some.inj h
   refine WX.ye Tryz.results73 (.agg rfl zb rfl (yh .here) .nil) (fun w hw=>?_)
   exact ⟨yC rfl,hw.sub (.cons .h1 .nil)⟩
  ·replace h:=yp h zsz
   refine WC.skip (WX.a (WC.b (WC.a (WL.qA 31 (yf zb rfl (yh .h1) rfl) (WL.yl rfl rfl (yk zq rfl rfl rfl .h2 rfl rfl rfl) (WL.nil (WX.a (WC.ret ?_))))))))
   obtain rfl:=Option.some.inj h
   refine WX.ye Tryz.results73 (.agg rfl zb rfl (yh .here) .nil) (fun w hw=>?_)
   exact ⟨yC rfl,hw.sub (.cons .h1 .nil)⟩
def y1Q (z30 : List (List z6)) (z9S : Int → Int → Int → Option Int) : Nat → Int → Int → Int → Int → Option Int
 | 0,_,_,_,_=>none
 | zsA + 1,z4R,z6x,z6y,z6z=>if decide (z4R < ((z30.length : Nat) : Int)) then chk ((0 : Int) ≤ z4R ∧ z4R < ((z30.length : Nat) : Int)) ((y1O (nth z30 z4R)).bind fun zsB=>if decide (zsB.2 ≠ 0) then some zsB.2 else (y4m (nth z30 z4R)).bind fun zAA=>(y10 (⟨z6x⟩ : z18) (fun (y0 : z2) (y1 : z2)=>y1d y0 y1) (⟨z6y,z6z⟩ : z2) zAA.1).bind fun ze8=>y1Q z30 z9S zsA (i64 (z4R + 1)) ze8.2.fE ze8.1.fN ze8.1.fD) else z9S z6x z6y z6z
theorem y7r {n : Nat} {z30 : List (List z6)} {z9S : Int → Int → Int → Option Int} {z4R : Int} {z6x : Int} {z6y : Int} {z6z : Int} {r : Int} (h : y1Q z30 z9S n z4R z6x z6y z6z = some r) : ∃ m,n = m + 1:=by
 cases n with
 | zero=>cases h
 | succ m=>exact ⟨m,rfl⟩
def y3k (z30 : List (List z6)) (z1V : zSv) (zmd : List (List z6)) (zgu : zSv) (ze9 : List z2) : Option Int :=
 (if decide (((z30.length : Nat) : Int) > 32) then some true else (y16 z30 (fun (y0 : List z6)=>y1p y0)).bind fun zAB=>some zAB).bind fun zsC=>(if zsC then some true else (y4g z1V).bind fun zAC=>some (!zAC)).bind fun zsD=>if zsD then some 2 else (y2z).bind fun zjr=>jp3 (fun (z9T : Int) (zbT : Int) (zbU : Int)=>(if decide (z9T = 0) then (y1i (⟨zbT,zbU⟩ : z2) z1V.fRate).bind fun zAD=>some (decide (zAD > 0)) else some false).bind fun zsE=>if zsE then some 6 else some z9T) fun z9S=>y1Q z30 z9S yz 0 0 zjr.fN zjr.fD
theorem y9a (Z : Zp) (zgv : Option Addr) (zgw : Nat) (zjs : Addr) (zAE : Option Addr) (zAF : Nat) (zjt : Addr) (zju : Option Addr) (zjv : Nat) (z30 : List (List z6)) (z1V : zSv) (zmd : List (List z6)) (zgu : zSv) (ze9 : List z2) (r : Int)
  (h : y3k z30 z1V zmd zgu ze9 = some r) (w₀ : World) (hz : PZ [] w₀ Z)
  (zAG : ZS Z 1 (y1P Z) zgv zgw z30)
  (zVk : ZS Z 1 (y1P Z) zAE zAF zmd)
  (zVl : ZC Z zjs [(.slice zAE zmd.length zAF)])
  (zVm : ZC Z zjt [(.int .i64 zgu.fRate.fN),(.int .i64 zgu.fRate.fD),(.int .i64 zgu.fL.fN),(.int .i64 zgu.fL.fD)])
  (zVn : ZS Z 2 (fun r x=>r = yu x) zju zjv ze9) :
  Calls Tryz.prog 109 #[(.agg #[(.slice zgv z30.length zgw),(.int .i64 z1V.fRate.fN),(.int .i64 z1V.fRate.fD),(.int .i64 z1V.fL.fN),(.int .i64 z1V.fL.fD),(.func (.func 72) #[] #[(.pointer (some zjs)),(.pointer (some zjt))]),(.slice zju ze9.length zjv)])] w₀ fun e w'=>e = .returned (.int .i64 r) ∧ Hp [] w₀ w' []:=by
 unfold y3k at h
 refine Calls.on1 Tryz.func109 Tryz.ntmps109 ?_
 refine WC.b (WC.a (WL.nA 1 (yH (cs:=[(.slice zgv z30.length zgw),(.int .i64 z1V.fRate.fN),(.int .i64 z1V.fRate.fD),(.int .i64 z1V.fL.fN),(.int .i64 z1V.fL.fD),(.func (.func 72) #[] #[(.pointer (some zjs)),(.pointer (some zjt))]),(.slice zju ze9.length zjv)]) rfl rfl) ?_))
 intro zme _
 refine WL.pu rfl (WL.nil (WX.a (WC.b (WC.b ?_))))
 obtain ⟨zsC,zAH,h⟩:=z7 h
 obtain ⟨zsD,zAI,h⟩:=z7 h
 refine WC.a (WL.qA 11 (ya y6w rfl rfl) (WL.qA 12 (yc z6h rfl (yj .here rfl)) (WL.qA 13 (yG Tryz.underlying128 rfl) (WL.pu rfl (WL.pu rfl (WL.seg false 3 15 (B:=zsC) rfl rfl rfl rfl rfl rfl (fun h=>(Option.some.inj (yo zAH h)).symm) (fun _ zLC=>?_) ?_))))))
 ·skip
  have zjw:=yp zAH zLC
  obtain ⟨zAB,zLD,zjw⟩:=z7 zjw
  replace zjw:=Option.some.inj zjw
  refine WL.qA 16 (ya y6w rfl rfl) (WL.qA 17 (yc z6h rfl (yj .here rfl)) (WL.cA 18 (z8 Tryz.call150 (.r2 rfl rfl)) .nil (cc hz .nil fun w pz ho=>y3R _ _ _ (zdL:=151) (zj2:=[]) _ (zdK:=(fun (y0 : List z6)=>y1p y0)) _ zLD w pz zAG Tryz.call151 (fun w' hz' y0 ga0 gc0 r gh0 hr=>y6l _ _ _ _ _ hr w' hz' gh0)) (WL.pu rfl ?_)))
  exact WL.yB zjw rfl rfl .all
 refine WL.pu rfl (WL.seg false 4 20 (B:=zsD) rfl rfl rfl rfl rfl rfl (fun h=>(Option.some.inj (yo zAI h)).symm) (fun _ zLE=>?_) ?_)
 ·skip
  have zjx:=yp zAI zLE
  obtain ⟨zAC,zLF,zjx⟩:=z7 zjx
  replace zjx:=Option.some.inj zjx
  refine WL.qA 21 (ya ya0 rfl rfl) (WL.qA 22 (yR (cs:=[(.int .i64 z1V.fRate.fN),(.int .i64 z1V.fRate.fD),(.int .i64 z1V.fL.fN),(.int .i64 z1V.fL.fD)]) zeL rfl rfl (y30 (s:=4) .here rfl)) (WL.cA 23 (z8 Tryz.call152 (.cons rfl .nil)) .nil (cc hz .nil fun w pz ho=>y8W _ _ _ zLF w pz ) (WL.pu rfl (WL.pu rfl ?_))))
  exact WL.yB zjx rfl rfl .all
 refine WL.nil (WX.a (WC.cond rfl (fun zsF=>?_) (fun zsF=>?_)))
 ·replace h:=yo h zsF
  refine WC.b (WC.a (WL.pu rfl (WL.nil (WX.a (WC.ret (WX.yd ?_))))))
  obtain rfl:=Option.some.inj h
  refine WX.ye Tryz.results109 (.tmp rfl .nil) (fun w hw=>?_)
  exact ⟨yC rfl,hw.sub .nil⟩
 ·replace h:=yp h zsF
  refine WC.skip (WX.a (WC.b (WC.a (WL.nA 3 (yx (cs:=[(.int .i64 0)]) zkK rfl) ?_))))
  intro zmf _
  refine WL.nil (WX.a (WC.b ?_))
  obtain ⟨zjr,zLG,h⟩:=z7 h
  refine WC.a (WL.cA 26 (z8 Tryz.call107 .nil) .nil (cc hz .nil fun w pz ho=>y3X _ _ zLG w pz ) (WL.nA 4 (yx (cs:=[(.int .i64 0),(.int .i64 0)]) zH rfl) ?_))
  intro zmg _
  refine WL.yl rfl rfl (yk zq rfl rfl rfl .here rfl rfl rfl) (WL.nil (WX.a ?_))
  obtain ⟨z9S,zLH,h⟩:=y9U h
  refine WC.y2F (fun (z9T : Int) (zbT : Int) (zbU : Int)=>(z9S z9T zbT zbU = some r)) (fun z9T zbT zbU=>[(1,(.pointer (some ⟨zme,0,none⟩))),(3,(.pointer (some ⟨zmf,0,none⟩))),(4,(.pointer (some ⟨zmg,0,none⟩)))]) (fun z9T zbT zbU=>[stb zme 177 [(.slice zgv z30.length zgw),(.int .i64 z1V.fRate.fN),(.int .i64 z1V.fRate.fD),(.int .i64 z1V.fL.fN),(.int .i64 z1V.fL.fD),(.func (.func 72) #[] #[(.pointer (some zjs)),(.pointer (some zjt))]),(.slice zju ze9.length zjv)],stb zmf 225 [(.int .i64 z9T)],stb zmg 132 [(.int .i64 zbT),(.int .i64 zbU)]]) ?_ ?_
  ·skip
   refine WC.b (WC.a (WL.qA 27 (ya y6w rfl rfl) (WL.qA 28 (yc z6h rfl (yj .h2 rfl)) (WL.qA 29 (yG Tryz.underlying128 rfl) (WL.pu rfl (WL.nil (WX.a (WC.block (WC.y6s (fun (zgx : Nat) (z4R : Int) (z6x : Int) (z6y : Int) (z6z : Int)=>(y1Q z30 z9S zgx z4R z6x z6y z6z = some r)) (fun zgx z4R z6x z6y z6z=>[(1,(.pointer (some ⟨zme,0,none⟩))),(3,(.pointer (some ⟨zmf,0,none⟩))),(4,(.pointer (some ⟨zmg,0,none⟩))),(28,(.slice zgv z30.length zgw)),(29,(.int .i64 ((z30.length : Nat) : Int))),(30,(.int .i64 z4R))]) (fun zgx z4R z6x z6y z6z=>[stb zme 177 [(.slice zgv z30.length zgw),(.int .i64 z1V.fRate.fN),(.int .i64 z1V.fRate.fD),(.int .i64 z1V.fL.fN),(.int .i64 z1V.fL.fD),(.func (.func 72) #[] #[(.pointer (some zjs)),(.pointer (some zjt))]),(.slice zju ze9.length zjv)],stb zmf 225 [(.int .i64 z6x)],stb zmg 132 [(.int .i64 z6y),(.int .i64 z6z)]]) (fun zgx z4R z6x z6y z6z=>zgx) ⟨yz,0,0,zjr.fN,zjr.fD⟩ h (.r6 rfl rfl rfl rfl rfl rfl) (.s3 .h2 .h1 .here) ?_)))))))))
   rintro zgx z4R z6x z6y z6z h
   obtain ⟨zsA,rfl⟩:=y7r h
   rw [y1Q] at h
   refine WC.b (WC.a (WL.pu rfl (WL.nil (WX.a (WC.b (WC.cond rfl (fun zsG=>?_) (fun zsG=>?_)))))))
   ·replace h:=yo h zsG
    refine WC.skip (WX.a (WC.b (WC.block (WC.b ?_))))
    obtain ⟨zLI,h⟩:=ym h
    refine WC.a (WL.znth (dd:=32) rfl rfl (Z:=Z) (Pr:=(y1P Z)) z6X rfl rfl zAG zLI ?_)
    rintro zVo zVp zLJ zVq ⟨zVr,zVs,rfl,zAJ⟩
    refine WL.qA 33 (yc zaF rfl (y53 hz.pv zLJ rfl)) (WL.pu rfl (WL.nil (WX.a (WC.b (WC.b ?_)))))
    obtain ⟨zsB,zLK,h⟩:=z7 h
    refine WC.a (WL.pu rfl (WL.y45 (dd:=36) rfl rfl rfl (z8 Tryz.call153 (.cons rfl .nil)) .nil (cc hz .nil fun w pz ho=>y6N _ _ _ _ _ zLK w pz zAJ) ?_))
    rintro zVt zVu _
    refine WL.pu rfl (WL.pu rfl (WL.pu rfl (WL.pu rfl (WL.pu rfl (WL.nil (WX.a (WC.b (WC.a (WL.pu rfl (WL.pu rfl (WL.nil (WX.a (WC.cond rfl (fun zsH=>?_) (fun zsH=>?_))))))))))))))
    ·replace h:=yo h zsH
     refine WC.b (WC.a (WL.pu rfl (WL.pu rfl (WL.nil (WX.a (WC.ret (WX.yd (WX.yt (WX.yd (WX.yd (WX.yt (WX.yd ?_))))))))))))
     obtain rfl:=Option.some.inj h
     refine WX.ye Tryz.results109 (.tmp rfl .nil) (fun w hw=>?_)
     exact ⟨yC rfl,hw.sub .nil⟩
    ·replace h:=yp h zsH
     refine WC.skip (WX.a (WC.b ?_))
     obtain ⟨zAA,zLL,h⟩:=z7 h
     refine WC.a (WL.pu rfl (WL.cA 44 (z8 Tryz.call154 (.cons rfl .nil)) .nil (cc hz .nil fun w pz ho=>yaQ _ _ _ _ _ zLL w pz zAJ) (WL.pu rfl (WL.pu rfl (WL.pu rfl (WL.nA 9 (yx (cs:=[(.int .i64 0),(.int .i64 0)]) zH rfl) ?_))))))
     intro zVv _
     refine WL.yl rfl rfl (yk zq rfl rfl rfl .here rfl rfl rfl) (WL.pu rfl (WL.nil (WX.a ?_)))
     obtain ⟨ze8,zLM,h⟩:=z7 h
     refine WC.a (WL.qA 47 (yf zb rfl (yh .h4) rfl) (WL.qA 48 (yf zb rfl (yh .here) rfl) (WL.cA 49 (z8 Tryz.call73 (.r4 rfl rfl rfl rfl)) (.cons .h3 .nil) (cc hz (.cons .h3 .nil) fun w pz ho=>y2f _ _ (z5A:=69) (z6w:=[]) _ (z64:=(fun (y0 : z2) (y1 : z2)=>y1d y0 y1)) _ _ _ zLM w pz Tryz.call69 (fun w' hz' y0 y1  r  hr=>y5S _ _ _ _ hr w' hz' ) ho) (WL.yl rfl rfl (yk zq rfl rfl rfl .h4 rfl rfl rfl) (WL.nil (WX.yq (WX.a (WC.a (WL.pu rfl (WL.pu rfl (WL.nil ?_)))))))))))
     exact WX.round ⟨zsA,(i64 (z4R + 1)),ze8.2.fE,ze8.1.fN,ze8.1.fD⟩ h (Nat.lt_succ_self _) (.r6 rfl rfl rfl rfl rfl rfl) (.s3 .h4 .h1 .here)
   ·replace h:=yp h zsG
    refine WC.exit (WX.yg (WX.yg (WX.yA ?_)))
    exact WX.mid ⟨z6x,z6y,z6z⟩ h (.r3 rfl rfl rfl) (.s3 .here .here .here)
  ·rintro z9T zbT zbU h
   replace h:=(zLH z9T zbT zbU).symm.trans h
   refine WC.b (WC.b ?_)
   obtain ⟨zsE,zAK,h⟩:=z7 h
   refine WC.a (WL.qA 51 (ya y4v rfl rfl) (WL.qA 52 (yc y2Y rfl (yj .h1 rfl)) (WL.pu rfl (WL.pu rfl (WL.seg true 6 54 (B:=zsE) rfl rfl rfl rfl rfl rfl (fun h=>(Option.some.inj (yp zAK h)).symm) (fun _ zLN=>?_) ?_)))))
   ·skip
    have zjy:=yo zAK zLN
    obtain ⟨zAD,zLO,zjy⟩:=z7 zjy
    replace zjy:=Option.some.inj zjy
    refine WL.qA 55 (yf zb rfl (yh .h2) rfl) (WL.qA 56 (ya ya0 rfl rfl) (WL.qA 57 (ya y7W rfl rfl) (WL.qA 58 (yR (cs:=[(.int .i64 z1V.fRate.fN),(.int .i64 z1V.fRate.fD)]) zb rfl rfl (y30 (s:=2) .here rfl)) (WL.cA 59 (z8 Tryz.call79 (.r2 rfl rfl)) .nil (cc hz .nil fun w pz ho=>y47 _ _ _ _ zLO w pz ) (WL.pu rfl (WL.pu rfl ?_))))))
    exact WL.yB zjy rfl rfl .all
   refine WL.nil (WX.a (WC.cond rfl (fun zsI=>?_) (fun zsI=>?_)))
   ·replace h:=yo h zsI
    refine WC.b (WC.a (WL.pu rfl (WL.nil (WX.a (WC.ret (WX.yd ?_))))))
    obtain rfl:=Option.some.inj h
    refine WX.ye Tryz.results109 (.tmp rfl .nil) (fun w hw=>?_)
    exact ⟨yC rfl,hw.sub .nil⟩
   ·replace h:=yp h zsI
    refine WC.skip (WX.a (WC.b (WC.a (WL.qA 62 (ya y4v rfl rfl) (WL.qA 63 (yc y2Y rfl (yj .h1 rfl)) (WL.pu rfl (WL.nil (WX.a (WC.ret ?_)))))))))
    obtain rfl:=Option.some.inj h
    refine WX.ye Tryz.results109 (.tmp rfl .nil) (fun w hw=>?_)
    exact ⟨yC rfl,hw.sub .nil⟩
def y3Z (zgy : List (List z6)) (z5B : zSv) (zmh : List (List z6)) (zgz : zSv) (zgA : List z2) : Option (Int × Int × Int × Int) :=
 some (z5B.fRate.fN,z5B.fRate.fD,z5B.fL.fN,z5B.fL.fD)
theorem y8X (Z : Zp) (zmi : Option Addr) (zmj : Nat) (zmk : Addr) (zAL : Option Addr) (zAM : Nat) (zml : Addr) (zmm : Option Addr) (zmn : Nat) (zgy : List (List z6)) (z5B : zSv) (zmh : List (List z6)) (zgz : zSv) (zgA : List z2) (r : Int × Int × Int × Int)
  (h : y3Z zgy z5B zmh zgz zgA = some r) (w₀ : World) (hz : PZ [] w₀ Z)
  (zVw : ZS Z 1 (y1P Z) zmi zmj zgy)
  (zVx : ZS Z 1 (y1P Z) zAL zAM zmh)
  (zVy : ZC Z zmk [(.slice zAL zmh.length zAM)])
  (zVz : ZC Z zml [(.int .i64 zgz.fRate.fN),(.int .i64 zgz.fRate.fD),(.int .i64 zgz.fL.fN),(.int .i64 zgz.fL.fD)])
  (zVA : ZS Z 2 (fun r x=>r = yu x) zmm zmn zgA) :
  Calls Tryz.prog 110 #[(.agg #[(.slice zmi zgy.length zmj),(.int .i64 z5B.fRate.fN),(.int .i64 z5B.fRate.fD),(.int .i64 z5B.fL.fN),(.int .i64 z5B.fL.fD),(.func (.func 72) #[] #[(.pointer (some zmk)),(.pointer (some zml))]),(.slice zmm zgA.length zmn)])] w₀ fun e w'=>∃ zAN : Nat,e = .returned (.func (.func 155) #[] #[(.pointer (some ⟨zAN,0,none⟩))]) ∧ True ∧ Hp [] w₀ w' [stb zAN 177 [(.slice zmi zgy.length zmj),(.int .i64 r.1),(.int .i64 r.2.1),(.int .i64 r.2.2.1),(.int .i64 r.2.2.2),(.func (.func 72) #[] #[(.pointer (some zmk)),(.pointer (some zml))]),(.slice zmm zgA.length zmn)]]:=by
 unfold y3Z at h
 refine Calls.on1 Tryz.func110 Tryz.ntmps110 ?_
 refine WC.b (WC.a (WL.nA 1 (yH (cs:=[(.slice zmi zgy.length zmj),(.int .i64 z5B.fRate.fN),(.int .i64 z5B.fRate.fD),(.int .i64 z5B.fL.fN),(.int .i64 z5B.fL.fD),(.func (.func 72) #[] #[(.pointer (some zmk)),(.pointer (some zml))]),(.slice zmm zgA.length zmn)]) rfl rfl) ?_))
 intro zLP _
 refine WL.pu rfl (WL.nil (WX.a (WC.b (WC.a (WL.qA 3 (y18 (Eos.caps (l:=[.tmp 1]) (.cons rfl .nil))) (WL.pu rfl (WL.nil (WX.a (WC.ret ?_)))))))))
 obtain rfl:=Option.some.inj h
 refine WX.ye Tryz.results110 (.tmp rfl .nil) (fun w hw=>?_)
 exact ⟨zLP,yC rfl,trivial,hw.sub (.cons .here .nil)⟩
def y1I (z3u : z2) : Option Int :=
 (y1H z3u).bind fun zAO=>if !zAO then some 0 else chk ((z3u.fD : Int) ≠ 0) (jp1 (fun (zbV : Int)=>some zbV) fun zmo=>chk ((z3u.fD : Int) ≠ 0) (if decide ((Int.tmod z3u.fN z3u.fD) < 0) then zmo (i64 ((i64 (Int.tdiv z3u.fN z3u.fD)) - 1)) else zmo (i64 (Int.tdiv z3u.fN z3u.fD))))
theorem y5x (Z : Zp)  (z3u : z2) (r : Int)
  (h : y1I z3u = some r) (w₀ : World) (hz : PZ [] w₀ Z) :
  Calls Tryz.prog 46 #[(.agg #[(.int .i64 z3u.fN),(.int .i64 z3u.fD)])] w₀ fun e w'=>e = .returned (.int .i64 r) ∧ Hp [] w₀ w' []:=by
 unfold y1I at h
 refine Calls.on1 Tryz.func46 Tryz.ntmps46 ?_
 refine WC.b (WC.a (WL.nA 1 (yH (cs:=[(.int .i64 z3u.fN),(.int .i64 z3u.fD)]) rfl rfl) ?_))
 intro zVB _
 refine WL.pu rfl (WL.nil (WX.a (WC.b (WC.b ?_))))
 obtain ⟨zAO,zLQ,h⟩:=z7 h
 refine WC.a (WL.qA 4 (yf zb rfl (yh .here) rfl) (WL.cA 5 (z8 Tryz.call80 (.cons rfl .nil)) .nil (cc hz .nil fun w pz ho=>y2j _ _ _ zLQ w pz ) (WL.pu rfl (WL.nil (WX.a (WC.cond rfl (fun zsJ=>?_) (fun zsJ=>?_)))))))
 ·replace h:=yo h zsJ
  refine WC.b (WC.a (WL.pu rfl (WL.nil (WX.a (WC.ret (WX.yd ?_))))))
  obtain rfl:=Option.some.inj h
  refine WX.ye Tryz.results46 (.tmp rfl .nil) (fun w hw=>?_)
  exact ⟨yC rfl,hw.sub .nil⟩
 ·replace h:=yp h zsJ
  refine WC.skip (WX.a (WC.b ?_))
  obtain ⟨zLR,h⟩:=ym h
  refine WC.a (WL.qA 7 (ya y2a rfl rfl) (WL.qA 8 (yc yw rfl (yj .here rfl)) (WL.qA 9 (ya y2w rfl rfl) (WL.qA 10 (yc yw rfl (yj .here rfl)) (WL.qA 11 (q_quo rfl rfl zLR rfl) (WL.pu rfl (WL.nil (WX.a ?_))))))))
  obtain ⟨zmo,zLS,h⟩:=y14 h
  refine WC.y3z (fun (zbV : Int)=>(zmo zbV = some r)) (fun zbV=>[(3,(.int .i64 zbV))]) (fun zbV=>[]) ?_ ?_
  ·skip
   refine WC.b ?_
   obtain ⟨zLT,h⟩:=ym h
   refine WC.a (WL.qA 12 (ya y2a rfl rfl) (WL.qA 13 (yc yw rfl (yj .here rfl)) (WL.qA 14 (ya y2w rfl rfl) (WL.qA 15 (yc yw rfl (yj .here rfl)) (WL.qA 16 (q_rem rfl rfl zLT rfl) (WL.pu rfl (WL.nil (WX.a (WC.cond rfl (fun zsK=>?_) (fun zsK=>?_))))))))))
   ·replace h:=yo h zsK
    refine WC.a (WL.pu rfl (WL.pu rfl (WL.pu rfl (WL.nil ?_))))
    exact WX.mid (i64 ((i64 (Int.tdiv z3u.fN z3u.fD)) - 1)) h (.cons rfl .nil) .nil
   ·replace h:=yp h zsK
    refine WC.skip ?_
    exact WX.mid (i64 (Int.tdiv z3u.fN z3u.fD)) h (.cons rfl .nil) .nil
  ·rintro zbV h
   replace h:=(zLS zbV).symm.trans h
   refine WC.b (WC.a (WL.pu rfl (WL.pu rfl (WL.nil (WX.a (WC.ret ?_))))))
   obtain rfl:=Option.some.inj h
   refine WX.ye Tryz.results46 (.tmp rfl .nil) (fun w hw=>?_)
   exact ⟨yC rfl,hw.sub .nil⟩
def y2u (z7u : z2) : Option Int :=
 (y1H z7u).bind fun zAP=>if !zAP then some 0 else (y1I (⟨i64 (0 - z7u.fN),z7u.fD⟩ : z2)).bind fun zAQ=>some (i64 (0 - zAQ))
theorem y8A (Z : Zp)  (z7u : z2) (r : Int)
  (h : y2u z7u = some r) (w₀ : World) (hz : PZ [] w₀ Z) :
  Calls Tryz.prog 156 #[(.agg #[(.int .i64 z7u.fN),(.int .i64 z7u.fD)])] w₀ fun e w'=>e = .returned (.int .i64 r) ∧ Hp [] w₀ w' []:=by
 unfold y2u at h
 refine Calls.on1 Tryz.func156 Tryz.ntmps156 ?_
 refine WC.b (WC.a (WL.nA 1 (yH (cs:=[(.int .i64 z7u.fN),(.int .i64 z7u.fD)]) rfl rfl) ?_))
 intro zVC _
 refine WL.pu rfl (WL.nil (WX.a (WC.b (WC.b ?_))))
 obtain ⟨zAP,zLU,h⟩:=z7 h
 refine WC.a (WL.qA 3 (yf zb rfl (yh .here) rfl) (WL.cA 4 (z8 Tryz.call80 (.cons rfl .nil)) .nil (cc hz .nil fun w pz ho=>y2j _ _ _ zLU w pz ) (WL.pu rfl (WL.nil (WX.a (WC.cond rfl (fun zsL=>?_) (fun zsL=>?_)))))))
 ·replace h:=yo h zsL
  refine WC.b (WC.a (WL.pu rfl (WL.nil (WX.a (WC.ret (WX.yd ?_))))))
  obtain rfl:=Option.some.inj h
  refine WX.ye Tryz.results156 (.tmp rfl .nil) (fun w hw=>?_)
  exact ⟨yC rfl,hw.sub .nil⟩
 ·replace h:=yp h zsL
  refine WC.skip (WX.a (WC.b ?_))
  obtain ⟨zAQ,zLV,h⟩:=z7 h
  refine WC.a (WL.qA 6 (ya y2a rfl rfl) (WL.qA 7 (yc yw rfl (yj .here rfl)) (WL.qA 8 (q_neg rfl rfl) (WL.qA 9 (ya y2w rfl rfl) (WL.qA 10 (yc yw rfl (yj .here rfl)) (WL.qA 11 (yL (v:=(.agg #[(.int .i64 (i64 (0 - z7u.fN))),(.int .i64 z7u.fD)])) (Eos.parts (l:=[.tmp 8,.tmp 10]) (.r2 rfl rfl) [0,1]) (fun _=>by kernel_rfl)) (WL.cA 12 (z8 Tryz.call46 (.cons rfl .nil)) .nil (cc hz .nil fun w pz ho=>y5x _ _ _ zLV w pz ) (WL.qA 13 (q_neg rfl rfl) (WL.pu rfl (WL.nil (WX.a (WC.ret ?_))))))))))))
  obtain rfl:=Option.some.inj h
  refine WX.ye Tryz.results156 (.tmp rfl .nil) (fun w hw=>?_)
  exact ⟨yC rfl,hw.sub .nil⟩
def y1y (zo : Type) (z24 : List z2 × Int) (z1P : z2 → zo → Option (Bool × zo)) (z9U : zo → Option zo) : Nat → Int → zo → Option zo
 | 0,_,_=>none
 | zsM + 1,z2s,z4S=>if decide (z2s < ((z24.1.length : Nat) : Int)) then chk ((0 : Int) ≤ z2s ∧ z2s < ((z24.1.length : Nat) : Int)) ((y1I (⟨((nth z24.1 z2s).fN),((nth z24.1 z2s).fD)⟩ : z2)).bind fun zAR=>(y1k zAR).bind fun zsN=>(z1P zsN z4S).bind fun z7X=>(if !z7X.1 then some (true,z7X.2) else (y2u (⟨((nth z24.1 z2s).fN),((nth z24.1 z2s).fD)⟩ : z2)).bind fun zAS=>(y1k zAS).bind fun zsO=>(z1P zsO z7X.2).bind fun zjz=>some (!zjz.1,zjz.2)).bind fun zbW=>if zbW.1 then some zbW.2 else y1y zo z24 z1P z9U zsM (i64 (z2s + 1)) zbW.2) else z9U z4S
theorem y6Z {n : Nat} {zo : Type} {z24 : List z2 × Int} {z1P : z2 → zo → Option (Bool × zo)} {z9U : zo → Option zo} {z2s : Int} {z4S : zo} {r : zo} (h : y1y zo z24 z1P z9U n z2s z4S = some r) : ∃ m,n = m + 1:=by
 cases n with
 | zero=>cases h
 | succ m=>exact ⟨m,rfl⟩
def y1z (zo : Type) (z2i : List (List z6)) (z1P : z2 → zo → Option (Bool × zo)) (z9V : zo → Option zo) : Nat → Int → zo → Option zo
 | 0,_,_=>none
 | zsP + 1,z3v,z5C=>if decide (z3v < ((z2i.length : Nat) : Int)) then jp1 (fun (z7Y : zo)=>y1z zo z2i z1P z9V zsP (i64 (z3v + 1)) z7Y) fun zsQ=>chk ((0 : Int) ≤ z3v ∧ z3v < ((z2i.length : Nat) : Int)) ((y1O (nth z2i z3v)).bind fun z24=>jp1 (fun (z7Z : zo)=>zsQ z7Z) fun z9U=>y1y zo z24 z1P z9U yz 0 z5C) else z9V z5C
theorem y70 {n : Nat} {zo : Type} {z2i : List (List z6)} {z1P : z2 → zo → Option (Bool × zo)} {z9V : zo → Option zo} {z3v : Int} {z5C : zo} {r : zo} (h : y1z zo z2i z1P z9V n z3v z5C = some r) : ∃ m,n = m + 1:=by
 cases n with
 | zero=>cases h
 | succ m=>exact ⟨m,rfl⟩
def y1A (zo : Type) (z2t : List z2) (z1P : z2 → zo → Option (Bool × zo)) (z9W : zo → Option zo) : Nat → Int → zo → Option zo
 | 0,_,_=>none
 | zsR + 1,z31,z4T=>if decide (z31 < ((z2t.length : Nat) : Int)) then chk ((0 : Int) ≤ z31 ∧ z31 < ((z2t.length : Nat) : Int)) ((y1I (⟨((nth z2t z31).fN),((nth z2t z31).fD)⟩ : z2)).bind fun zAT=>(y1k zAT).bind fun zsS=>(z1P zsS z4T).bind fun z80=>(if !z80.1 then some (true,z80.2) else (y2u (⟨((nth z2t z31).fN),((nth z2t z31).fD)⟩ : z2)).bind fun zAU=>(y1k zAU).bind fun zsT=>(z1P zsT z80.2).bind fun zjA=>some (!zjA.1,zjA.2)).bind fun zbX=>if zbX.1 then some zbX.2 else y1A zo z2t z1P z9W zsR (i64 (z31 + 1)) zbX.2) else z9W z4T
theorem y71 {n : Nat} {zo : Type} {z2t : List z2} {z1P : z2 → zo → Option (Bool × zo)} {z9W : zo → Option zo} {z31 : Int} {z4T : zo} {r : zo} (h : y1A zo z2t z1P z9W n z31 z4T = some r) : ∃ m,n = m + 1:=by
 cases n with
 | zero=>cases h
 | succ m=>exact ⟨m,rfl⟩
def y2L (zo : Type) (z1P : z2 → zo → Option (Bool × zo)) (s0_44021 : zo) (z2i : List (List z6)) (zea : zSv) (zjB : List (List z6)) (zeb : zSv) (z2t : List z2) : Option zo :=
 (y2z).bind fun zsU=>(z1P zsU s0_44021).bind fun zec=>if !zec.1 then some zec.2 else jp1 (fun (z81 : zo)=>jp1 (fun (z9X : zo)=>some z9X) fun z9W=>y1A zo z2t z1P z9W yz 0 z81) fun z9V=>y1z zo z2i z1P z9V yz 0 zec.2
theorem y8l (Z : Zp) (zo : Type) (z7v : Nat) (z3w : Type) (z1W : z3w → zo → Asrt) (z65 : z3w → zo → Prop) (z9Y : z3w) (z9Z : Addr) (zbY : Option Addr) (zbZ : Nat) (zsV : Addr) (zsW : Option Addr) (zsX : Nat) (zsY : Addr) (zjC : Option Addr) (zjD : Nat) (z1P : z2 → zo → Option (Bool × zo)) (s0_44021 : zo) (z2i : List (List z6)) (zea : zSv) (zjB : List (List z6)) (zeb : zSv) (z2t : List z2) (r : zo) (w₀ : World) (hz : PZ (fps [z1W z9Y s0_44021]) w₀ Z)
  (zjE : yaz Tryz.prog Z z7v (α:=z2) (σ:=zo) (G:=z3w) (H:=Unit) (fun h x=>[(.agg #[(.int .i64 x.fN),(.int .i64 x.fD)])]) (fun h x=>[]) z1P z1W z65)
  (zLW : z65 z9Y s0_44021)
  (zLX : ZS Z 1 (y1P Z) zbY zbZ z2i)
  (zVD : ZS Z 1 (y1P Z) zsW zsX zjB)
  (zVE : ZC Z zsV [(.slice zsW zjB.length zsX)])
  (zVF : ZC Z zsY [(.int .i64 zeb.fRate.fN),(.int .i64 zeb.fRate.fD),(.int .i64 zeb.fL.fN),(.int .i64 zeb.fL.fD)])
  (zLY : ZS Z 2 (fun r x=>r = yu x) zjC zjD z2t)
  (zAV : ZC Z z9Z [(.slice zbY z2i.length zbZ),(.int .i64 zea.fRate.fN),(.int .i64 zea.fRate.fD),(.int .i64 zea.fL.fN),(.int .i64 zea.fL.fD),(.func (.func 72) #[] #[(.pointer (some zsV)),(.pointer (some zsY))]),(.slice zjC z2t.length zjD)])
  (h : y2L zo z1P s0_44021 z2i zea zjB zeb z2t = some r)
  (hown : Hp (fps [z1W z9Y s0_44021]) w₀ w₀ [z1W z9Y s0_44021]) :
  Calls Tryz.prog 155 #[(.func (.yield z7v) #[] #[]),(.pointer (some z9Z))] w₀ fun e w'=>∃ zAW : z3w,e = .returned (.tuple #[]) ∧ (z65 zAW r) ∧ Hp (fps [z1W z9Y s0_44021]) w₀ w' [z1W zAW r]:=by
 unfold y2L at h
 refine Calls.oh2 Tryz.func155 Tryz.ntmps155 hown ?_
 refine WC.b (WC.b ?_)
 obtain ⟨zsU,zLZ,h⟩:=z7 h
 obtain ⟨zec,zM0,h⟩:=z7 h
 refine WC.a (WL.pu rfl (WL.cA 12 (z8 Tryz.call107 .nil) .nil (cc hz .nil fun w pz ho=>y3X _ _ zLZ w pz ) (WL.yield (dd:=13) (x:=zsU) (h:=()) (g:=z9Y) (s:=s0_44021) (b:=zec.1) (s':=zec.2) zjE rfl rfl rfl (.cons rfl .nil) ((.cons .here .nil) : Sel _ [z1W z9Y s0_44021] _) zM0 zLW (fun w hw=>hz.call hw ((.cons .here .nil) : Sel _ [z1W z9Y s0_44021] _)) ?_)))
 intro zAX zAY
 refine WL.pu rfl (WL.nil (WX.a (WC.cond rfl (fun zsZ=>?_) (fun zsZ=>?_))))
 ·replace h:=yo h zsZ
  refine WC.ret (WX.yd ?_)
  obtain rfl:=Option.some.inj h
  refine WX.ye Tryz.results155 .nil (fun w hw=>?_)
  exact ⟨zAX,y7a,zAY,hw.sub (.cons .here .nil)⟩
 ·replace h:=yp h zsZ
  refine WC.skip (WX.a ?_)
  obtain ⟨z9V,zM1,h⟩:=y14 h
  refine WC.y4G (fun (z81 : zo) (zgB : z3w)=>(z9V z81 = some r) ∧ (z65 zgB z81)) (fun z81 zgB=>[(0,(.func (.yield z7v) #[] #[])),(1,(.pointer (some z9Z)))]) (fun z81 zgB=>[z1W zgB z81]) ?_ ?_
  ·skip
   refine WC.b (WC.a (WL.qA 15 (ya y6w rfl rfl) (WL.qA 16 (yc z6h rfl (y1e hz.pv zAV rfl)) (WL.qA 17 (yG Tryz.underlying128 rfl) (WL.pu rfl (WL.nil (WX.a (WC.block (WC.y4T (fun (zgC : Nat) (z3v : Int) (z5C : zo) (zc0 : z3w)=>(y1z zo z2i z1P z9V zgC z3v z5C = some r) ∧ (z65 zc0 z5C)) (fun zgC z3v z5C zc0=>[(0,(.func (.yield z7v) #[] #[])),(1,(.pointer (some z9Z))),(16,(.slice zbY z2i.length zbZ)),(17,(.int .i64 ((z2i.length : Nat) : Int))),(18,(.int .i64 z3v))]) (fun zgC z3v z5C zc0=>[z1W zc0 z5C]) (fun zgC z3v z5C zc0=>zgC) ⟨yz,0,zec.2,zAX⟩ ⟨h,zAY⟩ (.r5 rfl rfl rfl rfl rfl) (.cons .here .nil) ?_)))))))))
   rintro zgC z3v z5C zc0 ⟨h,zAZ⟩
   obtain ⟨zsP,rfl⟩:=y70 h
   rw [y1z] at h
   refine WC.b (WC.a (WL.pu rfl (WL.nil (WX.a (WC.b (WC.cond rfl (fun zt0=>?_) (fun zt0=>?_)))))))
   ·replace h:=yo h zt0
    refine WC.skip (WX.a ?_)
    obtain ⟨zsQ,zM2,h⟩:=y14 h
    refine WC.y4G (fun (z7Y : zo) (zgD : z3w)=>(zsQ z7Y = some r) ∧ (z65 zgD z7Y)) (fun z7Y zgD=>[(0,(.func (.yield z7v) #[] #[])),(1,(.pointer (some z9Z))),(16,(.slice zbY z2i.length zbZ)),(17,(.int .i64 ((z2i.length : Nat) : Int))),(18,(.int .i64 z3v))]) (fun z7Y zgD=>[z1W zgD z7Y]) ?_ ?_
    ·skip
     refine WC.block (WC.b ?_)
     obtain ⟨zM3,h⟩:=ym h
     refine WC.a (WL.znth (dd:=20) rfl rfl (Z:=Z) (Pr:=(y1P Z)) z6X rfl rfl zLX zM3 ?_)
     rintro zVG zVH zM4 zVI ⟨zVJ,zVK,rfl,zM5⟩
     refine WL.qA 21 (yc zaF rfl (y53 hz.pv zM4 rfl)) (WL.pu rfl (WL.nil (WX.a (WC.b ?_))))
     obtain ⟨z24,zM6,h⟩:=z7 h
     refine WC.a (WL.pu rfl (WL.y45 (dd:=24) rfl rfl rfl (z8 Tryz.call153 (.cons rfl .nil)) .nil (cc hz .nil fun w pz ho=>y6N _ _ _ _ _ zM6 w pz zM5) ?_))
     rintro zB0 zmp _
     refine WL.pu rfl (WL.pu rfl (WL.pu rfl (WL.pu rfl (WL.pu rfl (WL.nil (WX.a (WC.b (WC.a (WL.pu rfl (WL.qA 28 (yG Tryz.underlying175 rfl) (WL.pu rfl (WL.nil (WX.a ?_)))))))))))))
     obtain ⟨z9U,zM7,h⟩:=y14 h
     refine WC.y8F (fun (z7Z : zo) (zgE : z3w)=>(z9U z7Z = some r) ∧ (z65 zgE z7Z)) (fun z7Z zgE=>[(0,(.func (.yield z7v) #[] #[])),(1,(.pointer (some z9Z))),(16,(.slice zbY z2i.length zbZ)),(17,(.int .i64 ((z2i.length : Nat) : Int))),(18,(.int .i64 z3v))]) (fun z7Z zgE=>[z1W zgE z7Z]) ?_ ?_
     ·skip
      refine WC.block (WC.y4T (fun (zgF : Nat) (z2s : Int) (z4S : zo) (z82 : z3w)=>(y1y zo z24 z1P z9U zgF z2s z4S = some r) ∧ (z65 z82 z4S)) (fun zgF z2s z4S z82=>[(0,(.func (.yield z7v) #[] #[])),(1,(.pointer (some z9Z))),(16,(.slice zbY z2i.length zbZ)),(17,(.int .i64 ((z2i.length : Nat) : Int))),(18,(.int .i64 z3v)),(27,(.slice zB0 z24.1.length zmp)),(28,(.int .i64 ((z24.1.length : Nat) : Int))),(29,(.int .i64 z2s))]) (fun zgF z2s z4S z82=>[row (.slice zB0 z24.1.length zmp) 132 2 (z24.1.flatMap yu),z1W z82 z4S]) (fun zgF z2s z4S z82=>zgF) ⟨yz,0,z5C,zc0⟩ ⟨h,zAZ⟩ (.r8 rfl rfl rfl rfl rfl rfl rfl rfl) (.s2 .here .here) ?_)
      rintro zgF z2s z4S z82 ⟨h,zB1⟩
      obtain ⟨zsM,rfl⟩:=y6Z h
      rw [y1y] at h
      refine WC.b (WC.a (WL.pu rfl (WL.nil (WX.a (WC.b (WC.cond rfl (fun zt1=>?_) (fun zt1=>?_)))))))
      ·replace h:=yo h zt1
       refine WC.skip (WX.a (WC.b (WC.block (WC.b ?_))))
       obtain ⟨zjF,h⟩:=ym h
       refine WC.a (WL.know (fun w hw=>Hp.y31 .here hw (by intro hz'; have:=zjF; rw [hz'] at this; omega)) ?_)
       rintro ⟨zB2,rfl⟩
       refine WL.qA 31 (y17 z1I rfl rfl zjF.1 zjF.2 y3S) (WL.qA 32 (yR (cs:=(yu (nth z24.1 z2s))) zb rfl rfl (y3F .here (y3e (enc:=yu) (l:=z24.1) (i:=z2s) (sz:=2) (fun _=>rfl) zjF.1 zjF.2))) (WL.nA 8 (yx (cs:=[(.int .i64 0),(.int .i64 0)]) zH rfl) ?_))
       intro zM8 _
       refine WL.yl rfl rfl (yk zq rfl rfl rfl .here rfl rfl rfl) (WL.nil (WX.a (WC.b ?_)))
       obtain ⟨zAR,zM9,h⟩:=z7 h
       obtain ⟨zsN,zMa,h⟩:=z7 h
       obtain ⟨z7X,zMb,h⟩:=z7 h
       obtain ⟨zbW,zB3,h⟩:=z7 h
       refine WC.a (WL.pu rfl (WL.qA 34 (yf zb rfl (yh .here) rfl) (WL.cA 35 (z8 Tryz.call46 (.cons rfl .nil)) .nil (cc hz .nil fun w pz ho=>y5x _ _ _ zM9 w pz ) (WL.cA 36 (z8 Tryz.call145 (.cons rfl .nil)) .nil (cc hz .nil fun w pz ho=>y2H _ _ _ zMa w pz ) (WL.yield (dd:=37) (x:=zsN) (h:=()) (g:=z82) (s:=z4S) (b:=z7X.1) (s':=z7X.2) zjE rfl rfl rfl (.cons rfl .nil) ((.cons .h2 .nil) : Sel _ [z1W z82 z4S] _) zMb zB1 (fun w hw=>hz.call hw ((.cons .h2 .nil) : Sel _ [z1W z82 z4S] _)) ?_)))))
       intro zmq zB4
       refine WL.pu rfl (WL.pu rfl (WL.yb3 (fun (zed : z3w)=>z65 zed zbW.2) (fun (zed : z3w)=>[(0,(.func (.yield z7v) #[] #[])),(1,(.pointer (some z9Z))),(16,(.slice zbY z2i.length zbZ)),(17,(.int .i64 ((z2i.length : Nat) : Int))),(18,(.int .i64 z3v)),(27,(.slice (some ⟨zB2,0,none⟩) z24.1.length zmp)),(28,(.int .i64 ((z24.1.length : Nat) : Int))),(29,(.int .i64 z2s)),(46,(.bool zbW.1))]) (fun (zed : z3w)=>[z1W zed zbW.2,stb zM8 132 [(.int .i64 ((nth z24.1 z2s).fN)),(.int .i64 ((nth z24.1 z2s).fD))],row (.slice (some ⟨zB2,0,none⟩) z24.1.length zmp) 132 2 (z24.1.flatMap yu)]) 7 ?_ (fun zed zB5=>?_)))
       ·rcases Bool.eq_false_or_eq_true (!z7X.1) with hb' | hb'
        ·have zB6:=hb'; clear hb'
         have zt2:=yo zB3 zB6
         replace zt2:=Option.some.inj zt2
         refine WL.pin (i:=39) rfl zB6 (WL.e rfl rfl rfl (WL.e rfl rfl rfl (WL.e rfl rfl rfl (WL.e rfl rfl rfl (WL.e rfl rfl rfl (WL.e rfl rfl rfl (WL.pu rfl ?_)))))))
         subst zt2
         exact WL.y5R zmq zB4 (.r9 rfl rfl rfl rfl rfl rfl rfl rfl rfl) (.s3 .here .here .here)
        ·have zB7:=hb'; clear hb'
         have za0:=yp zB3 zB7
         obtain ⟨zAS,zMc,za0⟩:=z7 za0
         obtain ⟨zsO,zMd,za0⟩:=z7 za0
         obtain ⟨zjz,zMe,za0⟩:=z7 za0
         replace za0:=Option.some.inj za0
         refine WL.pin (i:=39) rfl zB7 (WL.pu rfl (WL.qA 41 (yf zb rfl (yh .h1) rfl) (WL.cA 42 (z8 Tryz.call156 (.cons rfl .nil)) .nil (cc hz .nil fun w pz ho=>y8A _ _ _ zMc w pz ) (WL.cA 43 (z8 Tryz.call145 (.cons rfl .nil)) .nil (cc hz .nil fun w pz ho=>y2H _ _ _ zMd w pz ) (WL.yield (dd:=44) (x:=zsO) (h:=()) (g:=zmq) (s:=z7X.2) (b:=zjz.1) (s':=zjz.2) zjE rfl rfl rfl (.cons rfl .nil) ((.cons .here .nil) : Sel _ [z1W zmq z7X.2] _) zMe zB4 (fun w hw=>hz.call hw ((.cons .here .nil) : Sel _ [z1W zmq z7X.2] _)) ?_)))))
         intro zMf zMg
         refine WL.pu rfl (WL.pu rfl ?_)
         subst za0
         exact WL.y5R zMf zMg (.r9 rfl rfl rfl rfl rfl rfl rfl rfl rfl) (.s3 .here .here .here)
       ·skip
        refine WL.nil (WX.a (WC.cond rfl (fun zt3=>?_) (fun zt3=>?_)))
        ·replace h:=yo h zt3
         refine WC.ret (WX.yt (WX.yd (WX.yd (WX.yt (WX.yd (WX.yt (WX.yd (WX.yd (WX.yt (WX.yd ?_))))))))))
         obtain rfl:=Option.some.inj h
         refine WX.ye Tryz.results155 .nil (fun w hw=>?_)
         exact ⟨zed,y7a,zB5,hw.sub (.cons .here .nil)⟩
        ·replace h:=yp h zt3
         refine WC.skip (WX.yq (WX.a (WC.a (WL.pu rfl (WL.pu rfl (WL.nil ?_))))))
         exact WX.round ⟨zsM,(i64 (z2s + 1)),zbW.2,zed⟩ ⟨h,zB5⟩ (Nat.lt_succ_self _) (.r8 rfl rfl rfl rfl rfl rfl rfl rfl) (.s2 .h2 .here)
      ·replace h:=yp h zt1
       refine WC.exit (WX.yg (WX.yg (WX.yA ?_)))
       exact WX.mid ⟨z4S,z82⟩ ⟨h,zB1⟩ (.r5 rfl rfl rfl rfl rfl) (.cons .h1 .nil)
     ·rintro z7Z zgE ⟨h,zMh⟩
      replace h:=(zM7 z7Z).symm.trans h
      refine WX.yq ?_
      exact WX.mid ⟨z7Z,zgE⟩ ⟨h,zMh⟩ (.r5 rfl rfl rfl rfl rfl) (.cons .here .nil)
    ·rintro z7Y zgD ⟨h,zMi⟩
     replace h:=(zM2 z7Y).symm.trans h
     refine WC.a (WL.pu rfl (WL.pu rfl (WL.nil ?_)))
     exact WX.round ⟨zsP,(i64 (z3v + 1)),z7Y,zgD⟩ ⟨h,zMi⟩ (Nat.lt_succ_self _) (.r5 rfl rfl rfl rfl rfl) (.cons .here .nil)
   ·replace h:=yp h zt0
    refine WC.exit (WX.yg (WX.yg (WX.yA ?_)))
    exact WX.mid ⟨z5C,zc0⟩ ⟨h,zAZ⟩ (.r2 rfl rfl) (.cons .here .nil)
  ·rintro z81 zgB ⟨h,zMj⟩
   replace h:=(zM1 z81).symm.trans h
   refine WC.b (WC.a (WL.qA 49 (ya ydN rfl rfl) (WL.qA 50 (yc z6Y rfl (y1e hz.pv zAV rfl)) (WL.qA 51 (yG Tryz.underlying175 rfl) (WL.pu rfl (WL.nil (WX.a ?_)))))))
   obtain ⟨z9W,zMk,h⟩:=y14 h
   refine WC.y8F (fun (z9X : zo) (zgG : z3w)=>(z9W z9X = some r) ∧ (z65 zgG z9X)) (fun z9X zgG=>[]) (fun z9X zgG=>[z1W zgG z9X]) ?_ ?_
   ·skip
    refine WC.block (WC.y4T (fun (zgH : Nat) (z31 : Int) (z4T : zo) (z83 : z3w)=>(y1A zo z2t z1P z9W zgH z31 z4T = some r) ∧ (z65 z83 z4T)) (fun zgH z31 z4T z83=>[(0,(.func (.yield z7v) #[] #[])),(50,(.slice zjC z2t.length zjD)),(51,(.int .i64 ((z2t.length : Nat) : Int))),(52,(.int .i64 z31))]) (fun zgH z31 z4T z83=>[z1W z83 z4T]) (fun zgH z31 z4T z83=>zgH) ⟨yz,0,z81,zgB⟩ ⟨h,zMj⟩ (.r4 rfl rfl rfl rfl) (.cons .here .nil) ?_)
    rintro zgH z31 z4T z83 ⟨h,zB8⟩
    obtain ⟨zsR,rfl⟩:=y71 h
    rw [y1A] at h
    refine WC.b (WC.a (WL.pu rfl (WL.nil (WX.a (WC.b (WC.cond rfl (fun zt4=>?_) (fun zt4=>?_)))))))
    ·replace h:=yo h zt4
     refine WC.skip (WX.a (WC.b (WC.block (WC.b ?_))))
     obtain ⟨zMl,h⟩:=ym h
     refine WC.a (WL.znth (dd:=54) rfl rfl (Z:=Z) (Pr:=(fun r x=>r = yu x)) z1I rfl rfl zLY zMl ?_)
     rintro zVL zVM zMm zVN rfl
     refine WL.qA 55 (yf zb rfl (y2o hz.pv zMm) rfl) (WL.nA 10 (yx (cs:=[(.int .i64 0),(.int .i64 0)]) zH rfl) ?_)
     intro zMn _
     refine WL.yl rfl rfl (yk zq rfl rfl rfl .here rfl rfl rfl) (WL.nil (WX.a (WC.b ?_)))
     obtain ⟨zAT,zMo,h⟩:=z7 h
     obtain ⟨zsS,zMp,h⟩:=z7 h
     obtain ⟨z80,zMq,h⟩:=z7 h
     obtain ⟨zbX,zB9,h⟩:=z7 h
     refine WC.a (WL.pu rfl (WL.qA 57 (yf zb rfl (yh .here) rfl) (WL.cA 58 (z8 Tryz.call46 (.cons rfl .nil)) .nil (cc hz .nil fun w pz ho=>y5x _ _ _ zMo w pz ) (WL.cA 59 (z8 Tryz.call145 (.cons rfl .nil)) .nil (cc hz .nil fun w pz ho=>y2H _ _ _ zMp w pz ) (WL.yield (dd:=60) (x:=zsS) (h:=()) (g:=z83) (s:=z4T) (b:=z80.1) (s':=z80.2) zjE rfl rfl rfl (.cons rfl .nil) ((.cons .h1 .nil) : Sel _ [z1W z83 z4T] _) zMq zB8 (fun w hw=>hz.call hw ((.cons .h1 .nil) : Sel _ [z1W z83 z4T] _)) ?_)))))
     intro zmr zBa
     refine WL.pu rfl (WL.pu rfl (WL.yb3 (fun (zee : z3w)=>z65 zee zbX.2) (fun (zee : z3w)=>[(0,(.func (.yield z7v) #[] #[])),(50,(.slice zjC z2t.length zjD)),(51,(.int .i64 ((z2t.length : Nat) : Int))),(52,(.int .i64 z31)),(69,(.bool zbX.1))]) (fun (zee : z3w)=>[z1W zee zbX.2,stb zMn 132 [(.int .i64 ((nth z2t z31).fN)),(.int .i64 ((nth z2t z31).fD))]]) 7 ?_ (fun zee zBb=>?_)))
     ·rcases Bool.eq_false_or_eq_true (!z80.1) with hb' | hb'
      ·have zBc:=hb'; clear hb'
       have zt5:=yo zB9 zBc
       replace zt5:=Option.some.inj zt5
       refine WL.pin (i:=62) rfl zBc (WL.e rfl rfl rfl (WL.e rfl rfl rfl (WL.e rfl rfl rfl (WL.e rfl rfl rfl (WL.e rfl rfl rfl (WL.e rfl rfl rfl (WL.pu rfl ?_)))))))
       subst zt5
       exact WL.y5R zmr zBa (.r5 rfl rfl rfl rfl rfl) (.s2 .here .here)
      ·have zBd:=hb'; clear hb'
       have za1:=yp zB9 zBd
       obtain ⟨zAU,zMr,za1⟩:=z7 za1
       obtain ⟨zsT,zMs,za1⟩:=z7 za1
       obtain ⟨zjA,zMt,za1⟩:=z7 za1
       replace za1:=Option.some.inj za1
       refine WL.pin (i:=62) rfl zBd (WL.pu rfl (WL.qA 64 (yf zb rfl (yh .h1) rfl) (WL.cA 65 (z8 Tryz.call156 (.cons rfl .nil)) .nil (cc hz .nil fun w pz ho=>y8A _ _ _ zMr w pz ) (WL.cA 66 (z8 Tryz.call145 (.cons rfl .nil)) .nil (cc hz .nil fun w pz ho=>y2H _ _ _ zMs w pz ) (WL.yield (dd:=67) (x:=zsT) (h:=()) (g:=zmr) (s:=z80.2) (b:=zjA.1) (s':=zjA.2) zjE rfl rfl rfl (.cons rfl .nil) ((.cons .here .nil) : Sel _ [z1W zmr z80.2] _) zMt zBa (fun w hw=>hz.call hw ((.cons .here .nil) : Sel _ [z1W zmr z80.2] _)) ?_)))))
       intro zMu zMv
       refine WL.pu rfl (WL.pu rfl ?_)
       subst za1
       exact WL.y5R zMu zMv (.r5 rfl rfl rfl rfl rfl) (.s2 .here .here)
     ·skip
      refine WL.nil (WX.a (WC.cond rfl (fun zt6=>?_) (fun zt6=>?_)))
      ·replace h:=yo h zt6
       refine WC.ret (WX.yt (WX.yd (WX.yd (WX.yt (WX.yd ?_)))))
       obtain rfl:=Option.some.inj h
       refine WX.ye Tryz.results155 .nil (fun w hw=>?_)
       exact ⟨zee,y7a,zBb,hw.sub (.cons .here .nil)⟩
      ·replace h:=yp h zt6
       refine WC.skip (WX.yq (WX.a (WC.a (WL.pu rfl (WL.pu rfl (WL.nil ?_))))))
       exact WX.round ⟨zsR,(i64 (z31 + 1)),zbX.2,zee⟩ ⟨h,zBb⟩ (Nat.lt_succ_self _) (.r4 rfl rfl rfl rfl) (.cons .here .nil)
    ·replace h:=yp h zt4
     refine WC.exit (WX.yg (WX.yg (WX.yA ?_)))
     exact WX.mid ⟨z4T,z83⟩ ⟨h,zB8⟩ .nil (.cons .here .nil)
   ·rintro z9X zgG ⟨h,zMw⟩
    replace h:=(zMk z9X).symm.trans h
    obtain rfl:=Option.some.inj h
    refine WX.y4K Tryz.results155 .nil (fun w hw=>?_)
    exact ⟨zgG,y7a,zMw,hw.sub (.cons .here .nil)⟩
def y1S (zef : z18) (z3S : z6) (zeg : z2) : Option (z2 × z18) :=
 (y1N zef (fun (y0 : z2) (y1 : z2)=>y3a y0 y1) z3S.fRate zeg).bind fun zt7=>(y1N zt7.2 (fun (y0 : z2) (y1 : z2)=>y1d y0 y1) z3S.fBurst zt7.1).bind fun zt8=>some (zt8.1,zt8.2)
theorem yaR (Z : Zp) (zgI : Nat) (zef : z18) (z3S : z6) (zeg : z2) (r : z2 × z18)
  (h : y1S zef z3S zeg = some r) (w₀ : World) (hz : PZ (fps [stb zgI 262 [(.int .i64 zef.fE)]]) w₀ Z)
  (hown : Hp (fps [stb zgI 262 [(.int .i64 zef.fE)]]) w₀ w₀ [stb zgI 262 [(.int .i64 zef.fE)]]) :
  Calls Tryz.prog 148 #[(.pointer (some ⟨zgI,0,none⟩)),(.agg #[(.int .i64 z3S.fBurst.fN),(.int .i64 z3S.fBurst.fD),(.int .i64 z3S.fRate.fN),(.int .i64 z3S.fRate.fD)]),(.agg #[(.int .i64 zeg.fN),(.int .i64 zeg.fD)])] w₀ fun e w'=>e = .returned (.agg #[(.int .i64 r.1.fN),(.int .i64 r.1.fD)]) ∧ Hp (fps [stb zgI 262 [(.int .i64 zef.fE)]]) w₀ w' [stb zgI 262 [(.int .i64 r.2.fE)]]:=by
 unfold y1S at h
 refine Calls.oh3 Tryz.func148 Tryz.ntmps148 hown ?_
 refine WC.b (WC.a (WL.nA 4 (yH (cs:=[(.int .i64 z3S.fBurst.fN),(.int .i64 z3S.fBurst.fD),(.int .i64 z3S.fRate.fN),(.int .i64 z3S.fRate.fD)]) rfl rfl) ?_))
 intro zMx _
 refine WL.nA 5 (yH (cs:=[(.int .i64 zeg.fN),(.int .i64 zeg.fD)]) rfl rfl) ?_
 intro zVO _
 refine WL.nA 6 (yx (cs:=[(.int .i64 0),(.int .i64 0)]) zH rfl) ?_
 intro zVP _
 refine WL.nil (WX.a (WC.b ?_))
 obtain ⟨zt7,zMy,h⟩:=z7 h
 obtain ⟨zt8,zMz,h⟩:=z7 h
 refine WC.yP (fun i=>[7,8,9].contains i) [y7c zMx 171 [(0,(.int .i64 z3S.fBurst.fN)),(1,(.int .i64 z3S.fBurst.fD))]] rfl (WD.pA 0 7 rfl (fun _=>q_m rfl) (WD.pA 1 8 rfl (fun _=>ya y4u rfl rfl) (WD.sA 2 9 rfl (Sin.wk (.cons .h2 .nil) (.stb (.cons rfl (.cons rfl .nil)) .nil)) (yR (cs:=[(.int .i64 z3S.fBurst.fN),(.int .i64 z3S.fBurst.fD)]) zb rfl rfl (y9Y .here ((.head _)) ((.tail _ (.head _))))) (WD.pA 3 10 rfl (fun _=>q_m rfl) (WD.pA 4 11 rfl (fun _=>ya y5v rfl rfl) (WD.qA 5 12 rfl (yR (cs:=[(.int .i64 z3S.fRate.fN),(.int .i64 z3S.fRate.fD)]) zb rfl rfl (y30 (s:=2) .h2 rfl)) (WD.qA 6 13 rfl (yf zb rfl (yh .h1) rfl) (WD.call0 (i:=7) (dd:=14) rfl (by kernel_rfl) rfl rfl rfl (.inl ⟨rfl,(Sin.wk (.cons .h3 .nil) (.stb (.cons rfl (.cons rfl .nil)) .nil))⟩) (z8 Tryz.call167 (.r4 rfl rfl rfl rfl)) (.cons .h3 .nil) (cc hz (.cons .h3 .nil) fun w pz ho=>Calls.mono (y5n _ _ (z7U:=70) (zbG:=[]) _ (z9I:=(fun (y0 : z2) (y1 : z2)=>y3a y0 y1)) _ _ _ zMy w pz Tryz.call70 (fun w' hz' y0 y1  r  hr=>yaP _ _ _ _ hr w' hz' ) ho) (fun _ _ h'=>⟨h'.1,trivial,h'.2⟩)) ?_))))))))
 intro _
 refine WD.call0 (i:=8) (dd:=15) rfl (by kernel_rfl) rfl rfl rfl (.inl ⟨rfl,(Sin.wk (.cons .h3 .nil) (.stb (.cons rfl (.cons rfl .nil)) .nil))⟩) (z8 Tryz.call167 (.r4 rfl rfl rfl rfl)) (.cons .here .nil) (cc hz (.cons .here .nil) fun w pz ho=>Calls.mono (y5n _ _ (z7U:=69) (zbG:=[]) _ (z9I:=(fun (y0 : z2) (y1 : z2)=>y1d y0 y1)) _ _ _ zMz w pz Tryz.call69 (fun w' hz' y0 y1  r  hr=>y5S _ _ _ _ hr w' hz' ) ho) (fun _ _ h'=>⟨h'.1,trivial,h'.2⟩)) ?_
 intro _
 refine WD.y3A (i:=9) rfl (by kernel_rfl) rfl rfl rfl (by kernel_rfl) (yk zq rfl rfl rfl .h1 rfl rfl rfl) (WD.done (by kernel_rfl) (WX.a (WC.ret ?_)))
 obtain rfl:=Option.some.inj h
 refine WX.ye Tryz.results148 (.agg rfl zb rfl (yh .here) .nil) (fun w hw=>?_)
 exact ⟨yC rfl,hw.sub (.cons .h1 .nil)⟩
def y1c (z1G : List z2) (z7w : z2 → z2 → Option Int) (za2 : Int → Int → Option z2) : Nat → Int → Int → Int → Option z2
 | 0,_,_,_=>none
 | zt9 + 1,z26,z5j,z5k=>if decide (z26 < ((z1G.length : Nat) : Int)) then jp2 (fun (za3 : Int) (za4 : Int)=>y1c z1G z7w za2 zt9 (i64 (z26 + 1)) za3 za4) fun zms=>chk ((0 : Int) ≤ z26 ∧ z26 < ((z1G.length : Nat) : Int)) ((z7w (⟨((nth z1G z26).fN),((nth z1G z26).fD)⟩ : z2) (⟨z5j,z5k⟩ : z2)).bind fun zta=>if decide (zta < 0) then chk ((0 : Int) ≤ z26 ∧ z26 < ((z1G.length : Nat) : Int)) (zms ((nth z1G z26).fN) ((nth z1G z26).fD)) else zms z5j z5k) else za2 z5j z5k
theorem y5Y {n : Nat} {z1G : List z2} {z7w : z2 → z2 → Option Int} {za2 : Int → Int → Option z2} {z26 : Int} {z5j : Int} {z5k : Int} {r : z2} (h : y1c z1G z7w za2 n z26 z5j z5k = some r) : ∃ m,n = m + 1:=by
 cases n with
 | zero=>cases h
 | succ m=>exact ⟨m,rfl⟩
def y1Y (z1G : List z2) (z7w : z2 → z2 → Option Int) : Option z2 :=
 if decide (((z1G.length : Nat) : Int) < 1) then none else chk ((0 : Int) ≤ 0 ∧ 0 < ((z1G.length : Nat) : Int)) (jp2 (fun (zc1 : Int) (zc2 : Int)=>some (⟨zc1,zc2⟩ : z2)) fun za2=>y1c z1G z7w za2 yz 1 ((nth z1G 0).fN) ((nth z1G 0).fD))
theorem y7g (Z : Zp) (zmt : Option Addr) (zmu : Nat) (zc3 : FuncId) (zgJ : List Value) (z1G : List z2) (z7w : z2 → z2 → Option Int) (r : z2)
  (h : y1Y z1G z7w = some r) (w₀ : World) (hz : PZ [] w₀ Z)
  (ztb : ZS Z 2 (fun r x=>r = yu x) zmt zmu z1G)
  (zMA : ∀ args w,(callFunc zc3 args).run Tryz.prog w = .ok (.enter zc3 args) w)
  (zMB : ∀ w : World,PZ [] w Z → ∀ (x0 : z2) (x1 : z2) (r : Int),z7w x0 x1 = some r → Calls Tryz.prog zc3 (([(.agg #[(.int .i64 x0.fN),(.int .i64 x0.fD)]),(.agg #[(.int .i64 x1.fN),(.int .i64 x1.fD)])] : List Value) ++ zgJ).toArray w fun e w'=>e = .returned (.int .i64 r) ∧ Hp [] w w' []) :
  Calls Tryz.prog 149 #[(.slice zmt z1G.length zmu),(.func (.func zc3) #[] (zgJ).toArray)] w₀ fun e w'=>e = .returned (.agg #[(.int .i64 r.fN),(.int .i64 r.fD)]) ∧ Hp [] w₀ w' []:=by
 unfold y1Y at h
 refine Calls.yI Tryz.func149 Tryz.ntmps149 ?_
 refine WC.b (WC.a (WL.nA 4 (yx (cs:=[(.int .i64 0),(.int .i64 0)]) zH rfl) ?_))
 intro zgK _
 refine WL.nil (WX.a (WC.b (WC.b (WC.a (WL.pu rfl (WL.qA 8 (yG Tryz.underlying175 rfl) (WL.pu rfl (WL.nil (WX.a (WC.cond rfl (fun ztc=>?_) (fun ztc=>?_)))))))))))
 ·replace h:=yo h ztc
  cases h
 ·replace h:=yp h ztc
  refine WC.skip (WX.a (WC.b ?_))
  obtain ⟨zMC,h⟩:=ym h
  refine WC.a (WL.pu rfl (WL.znth (dd:=12) rfl rfl (Z:=Z) (Pr:=(fun r x=>r = yu x)) z1I rfl rfl ztb zMC ?_))
  rintro zVQ zVR zMD zVS rfl
  refine WL.qA 13 (yf zb rfl (y2o hz.pv zMD) rfl) (WL.nA 5 (yx (cs:=[(.int .i64 0),(.int .i64 0)]) zH rfl) ?_)
  intro zgL _
  refine WL.yl rfl rfl (yk zq rfl rfl rfl .here rfl rfl rfl) (WL.nil (WX.a ?_))
  obtain ⟨za2,zME,h⟩:=y4t h
  refine WC.y4G (fun (zc1 : Int) (zc2 : Int)=>(za2 zc1 zc2 = some r)) (fun zc1 zc2=>[(4,(.pointer (some ⟨zgK,0,none⟩))),(5,(.pointer (some ⟨zgL,0,none⟩)))]) (fun zc1 zc2=>[stb zgK 132 [(.int .i64 0),(.int .i64 0)],stb zgL 132 [(.int .i64 zc1),(.int .i64 zc2)]]) ?_ ?_
  ·skip
   refine WC.b (WC.a (WL.pu rfl (WL.nil (WX.a (WC.block (WC.y4T (fun (zgM : Nat) (z26 : Int) (z5j : Int) (z5k : Int)=>(y1c z1G z7w za2 zgM z26 z5j z5k = some r)) (fun zgM z26 z5j z5k=>[(0,(.slice zmt z1G.length zmu)),(1,(.func (.func zc3) #[] (zgJ).toArray)),(4,(.pointer (some ⟨zgK,0,none⟩))),(5,(.pointer (some ⟨zgL,0,none⟩))),(6,(.int .i64 z26))]) (fun zgM z26 z5j z5k=>[stb zgK 132 [(.int .i64 0),(.int .i64 0)],stb zgL 132 [(.int .i64 z5j),(.int .i64 z5k)]]) (fun zgM z26 z5j z5k=>zgM) ⟨yz,1,((nth z1G 0).fN),((nth z1G 0).fD)⟩ h (.r5 rfl rfl rfl rfl rfl) (.s2 .h1 .here) ?_))))))
   rintro zgM z26 z5j z5k h
   obtain ⟨zt9,rfl⟩:=y5Y h
   rw [y1c] at h
   refine WC.b (WC.b (WC.a (WL.pu rfl (WL.pu rfl (WL.qA 16 (yG Tryz.underlying175 rfl) (WL.pu rfl (WL.nil (WX.a (WC.cond rfl (fun ztd=>?_) (fun ztd=>?_))))))))))
   ·replace h:=yo h ztd
    refine WC.skip (WX.a ?_)
    obtain ⟨zms,zMF,h⟩:=y4t h
    refine WC.y4G (fun (za3 : Int) (za4 : Int)=>(zms za3 za4 = some r)) (fun za3 za4=>[(0,(.slice zmt z1G.length zmu)),(1,(.func (.func zc3) #[] (zgJ).toArray)),(4,(.pointer (some ⟨zgK,0,none⟩))),(5,(.pointer (some ⟨zgL,0,none⟩))),(6,(.int .i64 z26))]) (fun za3 za4=>[stb zgK 132 [(.int .i64 0),(.int .i64 0)],stb zgL 132 [(.int .i64 za3),(.int .i64 za4)]]) ?_ ?_
    ·skip
     refine WC.block (WC.b ?_)
     obtain ⟨zMG,h⟩:=ym h
     obtain ⟨zta,zMH,h⟩:=z7 h
     refine WC.yP (fun i=>[].contains i) [] rfl (WD.pA 0 20 rfl (fun _=>q_m rfl) (WD.pA 1 21 rfl (fun _=>q_m rfl) (WD.pA 2 22 rfl (fun _=>q_m rfl) (WD.znth (j:=3) (dd:=23) (by kernel_rfl) rfl z2l z2m rfl rfl (Z:=Z) (Pr:=(fun r x=>r = yu x)) z1I rfl rfl ztb zMG ?_))))
     rintro zVT zVU zMI zVV rfl
     refine WD.qA 4 24 rfl (yf zb rfl (y2o hz.pv zMI) rfl) (WD.qA 5 25 rfl (yf zb rfl (yh .h1) rfl) (WD.eA 6 26 rfl (y2q (l:=[.tmp 24,.tmp 25]) (f:=zc3) (caps:=zgJ) zMA rfl (.r2 rfl rfl)) (fun w hw=>zMB w (hz.now hw) (⟨((nth z1G z26).fN),((nth z1G z26).fD)⟩ : z2) (⟨z5j,z5k⟩ : z2) zta  zMH) (WD.pA 7 27 rfl (fun _=>q_lss rfl rfl) (WD.done (by kernel_rfl) (WX.a (WC.cond rfl (fun zte=>?_) (fun zte=>?_)))))))
     ·replace h:=yo h zte
      obtain ⟨zMJ,h⟩:=ym h
      refine WC.a (WL.pu rfl (WL.pu rfl (WL.znth (dd:=30) rfl rfl (Z:=Z) (Pr:=(fun r x=>r = yu x)) z1I rfl rfl ztb zMJ ?_)))
      rintro zVW zVX zMK zVY rfl
      refine WL.qA 31 (yf zb rfl (y2o hz.pv zMK) rfl) (WL.yl rfl rfl (yk zq rfl rfl rfl .h1 rfl rfl rfl) (WL.nil (WX.yq ?_)))
      exact WX.mid ⟨((nth z1G z26).fN),((nth z1G z26).fD)⟩ h (.r5 rfl rfl rfl rfl rfl) (.s2 .h1 .here)
     ·replace h:=yp h zte
      refine WC.skip (WX.yq ?_)
      exact WX.mid ⟨z5j,z5k⟩ h (.r5 rfl rfl rfl rfl rfl) (.s2 .here .here)
    ·rintro za3 za4 h
     replace h:=(zMF za3 za4).symm.trans h
     refine WC.a (WL.pu rfl (WL.pu rfl (WL.pu rfl (WL.nil ?_))))
     exact WX.round ⟨zt9,(i64 (z26 + 1)),za3,za4⟩ h (Nat.lt_succ_self _) (.r5 rfl rfl rfl rfl rfl) (.s2 .here .here)
   ·replace h:=yp h ztd
    refine WC.exit (WX.yg (WX.yg (WX.yA ?_)))
    exact WX.mid ⟨z5j,z5k⟩ h (.r2 rfl rfl) (.s2 .here .here)
  ·rintro zc1 zc2 h
   replace h:=(zME zc1 zc2).symm.trans h
   refine WC.b (WC.a (WL.qA 32 (yf zb rfl (yh .h1) rfl) (WL.yl rfl rfl (yk zq rfl rfl rfl .here rfl rfl rfl) (WL.nil (WX.a (WC.ret ?_))))))
   obtain rfl:=Option.some.inj h
   refine WX.ye Tryz.results149 (.agg rfl zb rfl (yh .here) .nil) (fun w hw=>?_)
   exact ⟨yC rfl,hw.sub .nil⟩
def y2M (z3x : List z6) (z4U : z2) (za5 : (List z2) → Int → Option (z2 × Int)) : Nat → (List z2) → Int → Int → Option (z2 × Int)
 | 0,_,_,_=>none
 | ztf + 1,z3T,z3U,z6A=>if decide (z3U < ((z3x.length : Nat) : Int)) then chk ((0 : Int) ≤ z3U ∧ z3U < ((z3x.length : Nat) : Int)) ((y1S (⟨z6A⟩ : z18) (⟨(⟨(((nth z3x z3U).fBurst).fN),(((nth z3x z3U).fBurst).fD)⟩ : z2),(⟨(((nth z3x z3U).fRate).fN),(((nth z3x z3U).fRate).fD)⟩ : z2)⟩ : z6) z4U).bind fun za6=>chk ((((z3T ++ ([za6.1] : List z2)).length : Nat) : Int) * 16 ≤ 140737488355328 ∧ (((z3T ++ ([za6.1] : List z2)).length : Nat) : Int) ≤ 4611686018427387904) (y2M z3x z4U za5 ztf (z3T ++ ([za6.1] : List z2)) (i64 (z3U + 1)) za6.2.fE)) else za5 z3T z6A
theorem yaS {n : Nat} {z3x : List z6} {z4U : z2} {za5 : (List z2) → Int → Option (z2 × Int)} {z3T : List z2} {z3U : Int} {z6A : Int} {r : z2 × Int} (h : y2M z3x z4U za5 n z3T z3U z6A = some r) : ∃ m,n = m + 1:=by
 cases n with
 | zero=>cases h
 | succ m=>exact ⟨m,rfl⟩
def y4i (z3x : List z6) (z4U : z2) : Option (z2 × Int) :=
 (y46 z3x).bind fun zBe=>(if !zBe then some true else (y4X z4U).bind fun zBf=>some (!zBf)).bind fun ztg=>if ztg then some ((⟨0,0⟩ : z2),2) else jp2 (fun (z84 : List z2) (z85 : Int)=>if decide (z85 ≠ 0) then some ((⟨0,0⟩ : z2),z85) else (y1Y z84 (fun (y0 : z2) (y1 : z2)=>y1i y0 y1)).bind fun zBg=>some (zBg,0)) fun za5=>y2M z3x z4U za5 yz ([] : List z2) 0 0
theorem yfs (Z : Zp) (zth : Option Addr) (zti : Nat) (z3x : List z6) (z4U : z2) (r : z2 × Int)
  (h : y4i z3x z4U = some r) (w₀ : World) (hz : PZ [] w₀ Z)
  (zBh : ZS Z 4 (fun r x=>r = y1x x) zth zti z3x) :
  Calls Tryz.prog 108 #[(.slice zth z3x.length zti),(.agg #[(.int .i64 z4U.fN),(.int .i64 z4U.fD)])] w₀ fun e w'=>e = .returned (.tuple #[(.agg #[(.int .i64 r.1.fN),(.int .i64 r.1.fD)]),(.int .i64 r.2)]) ∧ Hp [] w₀ w' []:=by
 unfold y4i at h
 refine Calls.yI Tryz.func108 Tryz.ntmps108 ?_
 refine WC.b (WC.a (WL.nA 3 (yH (cs:=[(.int .i64 z4U.fN),(.int .i64 z4U.fD)]) rfl rfl) ?_))
 intro zBi _
 refine WL.nA 4 (yx (cs:=[(.int .i64 0),(.int .i64 0)]) zH rfl) ?_
 intro zmv _
 refine WL.pu rfl (WL.nil (WX.a (WC.b (WC.b ?_))))
 obtain ⟨zBe,zML,h⟩:=z7 h
 obtain ⟨ztg,zBj,h⟩:=z7 h
 refine WC.a (WL.pu rfl (WL.cA 11 (z8 Tryz.call146 (.cons rfl .nil)) .nil (cc hz .nil fun w pz ho=>y78 _ _ _ _ _ zML w pz zBh) (WL.pu rfl (WL.pu rfl (WL.seg false 3 13 (B:=ztg) rfl rfl rfl rfl rfl rfl (fun h=>(Option.some.inj (yo zBj h)).symm) (fun _ zMM=>?_) ?_)))))
 ·skip
  have zjG:=yp zBj zMM
  obtain ⟨zBf,zMN,zjG⟩:=z7 zjG
  replace zjG:=Option.some.inj zjG
  refine WL.qA 14 (yf zb rfl (yh .h1) rfl) (WL.cA 15 (z8 Tryz.call147 (.cons rfl .nil)) .nil (cc hz .nil fun w pz ho=>y8V _ _ _ zMN w pz ) (WL.pu rfl (WL.pu rfl ?_)))
  exact WL.yB zjG rfl rfl .all
 refine WL.nil (WX.a (WC.cond rfl (fun ztj=>?_) (fun ztj=>?_)))
 ·replace h:=yo h ztj
  refine WC.b (WC.a (WL.qA 18 (yL (v:=(.agg #[(.int .i64 0),(.int .i64 0)])) (Eos.parts (l:=[]) .nil []) (fun _=>by kernel_rfl)) (WL.yl rfl rfl (yk zq rfl rfl rfl .here rfl rfl rfl) (WL.pu rfl (WL.nil (WX.a (WC.ret (WX.yd ?_))))))))
  obtain rfl:=Option.some.inj h
  refine WX.ye Tryz.results108 (.agg rfl zb rfl (yh .here) (.tmp rfl .nil)) (fun w hw=>?_)
  exact ⟨y1U rfl rfl,hw.sub .nil⟩
 ·replace h:=yp h ztj
  refine WC.skip (WX.a (WC.b (WC.a (WL.nA 6 (yx (cs:=[(.int .i64 0)]) zvY rfl) ?_))))
  intro zjH _
  refine WL.nil (WX.a (WC.b (WC.a (WL.pu rfl (WL.nil (WX.a ?_))))))
  obtain ⟨za5,zMO,h⟩:=y4t h
  refine WC.y8u (fun (z84 : List z2) (z85 : Int) (zjI : Option Addr) (zjJ : Nat)=>(za5 z84 z85 = some r)) (fun z84 z85 zjI zjJ=>[(4,(.pointer (some ⟨zmv,0,none⟩))),(6,(.pointer (some ⟨zjH,0,none⟩))),(7,(.slice zjI z84.length zjJ))]) (fun z84 z85 zjI zjJ=>[row (.slice zjI z84.length zjJ) 132 2 (z84.flatMap yu),stb zmv 132 [(.int .i64 0),(.int .i64 0)],stb zjH 262 [(.int .i64 z85)]]) ?_ ?_
  ·skip
   refine WC.b (WC.a (WL.pu rfl (WL.qA 20 (yG Tryz.underlying173 rfl) (WL.pu rfl (WL.nil (WX.a (WC.block (WC.nilRow 132 2 (WC.ybD (fun (zgN : Nat) (z3T : List z2) (z3U : Int) (z6A : Int) (zeh : Option Addr) (zei : Nat)=>(y2M z3x z4U za5 zgN z3T z3U z6A = some r)) (fun zgN z3T z3U z6A zeh zei=>[(3,(.pointer (some ⟨zBi,0,none⟩))),(4,(.pointer (some ⟨zmv,0,none⟩))),(6,(.pointer (some ⟨zjH,0,none⟩))),(7,(.slice zeh z3T.length zei)),(19,(.slice zth z3x.length zti)),(20,(.int .i64 ((z3x.length : Nat) : Int))),(21,(.int .i64 z3U))]) (fun zgN z3T z3U z6A zeh zei=>[row (.slice zeh z3T.length zei) 132 2 (z3T.flatMap yu),stb zBi 132 [(.int .i64 z4U.fN),(.int .i64 z4U.fD)],stb zmv 132 [(.int .i64 0),(.int .i64 0)],stb zjH 262 [(.int .i64 z6A)]]) (fun zgN z3T z3U z6A zeh zei=>zgN) ⟨yz,([] : List z2),0,0,none,0⟩ h (.r7 rfl rfl rfl rfl rfl rfl rfl) (.s4 .here .h2 .h1 .here) ?_)))))))))
   rintro zgN z3T z3U z6A zeh zei h
   obtain ⟨ztf,rfl⟩:=yaS h
   rw [y2M] at h
   refine WC.b (WC.a (WL.pu rfl (WL.nil (WX.a (WC.b (WC.cond rfl (fun ztk=>?_) (fun ztk=>?_)))))))
   ·replace h:=yo h ztk
    refine WC.skip (WX.a (WC.b (WC.block (WC.b ?_))))
    obtain ⟨zMP,h⟩:=ym h
    refine WC.a (WL.znth (dd:=23) rfl rfl (Z:=Z) (Pr:=(fun r x=>r = y1x x)) z5P rfl rfl zBh zMP ?_)
    rintro zVZ zW0 zMQ zW1 rfl
    refine WL.qA 24 (yf z2a rfl (y2o hz.pv zMQ) rfl) (WL.nA 9 (yx (cs:=[(.int .i64 0),(.int .i64 0),(.int .i64 0),(.int .i64 0)]) z8K rfl) ?_)
    intro zW2 _
    refine WL.yl rfl rfl (yk z7C rfl rfl rfl .here rfl rfl rfl) (WL.nil (WX.a ?_))
    obtain ⟨za6,zMR,h⟩:=z7 h
    obtain ⟨zMS,h⟩:=ym h
    refine WC.a (WL.pu rfl (WL.qA 26 (yf z2a rfl (yh .here) rfl) (WL.qA 27 (yf zb rfl (yh .h2) rfl) (WL.cA 28 (z8 Tryz.call148 (.r3 rfl rfl rfl)) (.cons .h4 .nil) (cc hz (.cons .h4 .nil) fun w pz ho=>yaR _ _ _ _ _ _ zMR w pz  ho) (WL.nA 29 (yX (cs:=([za6.1] : List z2).flatMap yu) z1I (Eos.parts (l:=[.tmp 28]) (.cons rfl .nil) [0]) (fun _=>by kernel_rfl) rfl (by unfold maxLen; omega)) ?_)))))
    intro zW3 _
    refine WL.fA 30 (y4M (enc:=yu) (l1:=z3T) (l2:=([za6.1] : List z2)) z1I rfl rfl .h3 (fun _=>rfl) rfl rfl (y4d .here) (y5a yb7 _) zMS) ?_
    rintro ⟨zMT,zMU⟩ _
    refine WL.pu rfl (WL.nil (WX.yq (WX.a (WC.a (WL.pu rfl (WL.pu rfl (WL.nil ?_)))))))
    exact WX.round ⟨ztf,(z3T ++ ([za6.1] : List z2)),(i64 (z3U + 1)),za6.2.fE,zMT,zMU⟩ h (Nat.lt_succ_self _) (.r7 rfl rfl rfl rfl rfl rfl rfl) (.s4 .here .h3 .h3 .h1)
   ·replace h:=yp h ztk
    refine WC.exit (WX.yg (WX.yg (WX.yA ?_)))
    exact WX.mid ⟨z3T,z6A,zeh,zei⟩ h (.r3 rfl rfl rfl) (.s3 .here .h1 .h1)
  ·rintro z84 z85 zjI zjJ h
   replace h:=(zMO z84 z85).symm.trans h
   refine WC.b (WC.b (WC.a (WL.qA 32 (ya y7Y rfl rfl) (WL.qA 33 (yc y2Y rfl (yj .h2 rfl)) (WL.pu rfl (WL.nil (WX.a (WC.cond rfl (fun ztl=>?_) (fun ztl=>?_)))))))))
   ·replace h:=yo h ztl
    refine WC.b (WC.yP (fun i=>[3].contains i) [y7c zjH 262 [(0,(.int .i64 z85))]] rfl (WD.pA 0 35 rfl (fun _=>yL (v:=(.agg #[(.int .i64 0),(.int .i64 0)])) (Eos.parts (l:=[]) .nil []) (fun _=>by kernel_rfl)) (WD.pA 1 36 rfl (fun _=>ya y7Y rfl rfl) (WD.sA 2 37 rfl (Sin.wk (.cons .h2 .nil) (.stb (.cons rfl .nil) .nil)) (yc y2Y rfl (y5C .here (.head _))) (WD.forced0 (i:=3) rfl (by kernel_rfl) rfl rfl rfl (Sin.wk (.cons .h2 .nil) (.stb (.cons rfl .nil) .nil)) (yk zq rfl rfl rfl .h1 rfl rfl rfl) (WD.pA 4 5 rfl (fun _=>q_z rfl) (WD.done (by kernel_rfl) (WX.a (WC.ret (WX.yd ?_))))))))))
    obtain rfl:=Option.some.inj h
    refine WX.ye Tryz.results108 (.agg rfl zb rfl (yh .here) (.tmp rfl .nil)) (fun w hw=>?_)
    exact ⟨y1U rfl rfl,hw.sub .nil⟩
   ·replace h:=yp h ztl
    refine WC.skip (WX.a (WC.b ?_))
    obtain ⟨zBg,zMV,h⟩:=z7 h
    refine WC.a (WL.pu rfl (WL.cA 39 (z8 Tryz.call149 (.r2 rfl rfl)) .nil (ccl hz .nil (.cons .here .nil) fun w pz ho la=>y7g _ _ _ (zc3:=79) (zgJ:=[]) _ (z7w:=(fun (y0 : z2) (y1 : z2)=>y1i y0 y1)) _ zMV w pz (ZA.row (la _ (.head _) _) (RR.flat (enc:=yu) (fun _=>rfl) _) ⟨w,pz.1⟩) Tryz.call79 (fun w' hz' y0 y1  r  hr=>y47 _ _ _ _ hr w' hz' )) (WL.yl rfl rfl (yk zq rfl rfl rfl .h1 rfl rfl rfl) (WL.pu rfl (WL.nil (WX.a (WC.ret ?_)))))))
    obtain rfl:=Option.some.inj h
    refine WX.ye Tryz.results108 (.agg rfl zb rfl (yh .here) (.tmp rfl .nil)) (fun w hw=>?_)
    exact ⟨y1U rfl rfl,hw.sub .nil⟩
def y1Z (z4v : List (List z6)) (z4w : z2) (za7 : Int → Int → Int → Option (z2 × z18)) : Nat → Int → Int → Int → Int → Option (z2 × z18)
 | 0,_,_,_,_=>none
 | ztm + 1,z4V,z5D,z67,z68=>if decide (z4V < ((z4v.length : Nat) : Int)) then chk ((0 : Int) ≤ z4V ∧ z4V < ((z4v.length : Nat) : Int)) ((y4i (nth z4v z4V) z4w).bind fun zgO=>jp1 (fun (zc4 : Int)=>(y10 (⟨zc4⟩ : z18) (fun (y0 : z2) (y1 : z2)=>y1d y0 y1) (⟨z67,z68⟩ : z2) zgO.1).bind fun zej=>y1Z z4v z4w za7 ztm (i64 (z4V + 1)) zej.2.fE zej.1.fN zej.1.fD) fun zmw=>if decide (z5D = 0) then zmw zgO.2 else zmw z5D) else za7 z67 z68 z5D
theorem y7K {n : Nat} {z4v : List (List z6)} {z4w : z2} {za7 : Int → Int → Int → Option (z2 × z18)} {z4V : Int} {z5D : Int} {z67 : Int} {z68 : Int} {r : z2 × z18} (h : y1Z z4v z4w za7 n z4V z5D z67 z68 = some r) : ∃ m,n = m + 1:=by
 cases n with
 | zero=>cases h
 | succ m=>exact ⟨m,rfl⟩
def y2Z (zc5 : z18) (z4v : List (List z6)) (z4w : z2) : Option (z2 × z18) :=
 (y2z).bind fun zjK=>jp3 (fun (zc6 : Int) (zc7 : Int) (zc8 : Int)=>some ((⟨zc6,zc7⟩ : z2),(⟨zc8⟩ : z18))) fun za7=>y1Z z4v z4w za7 yz 0 zc5.fE zjK.fN zjK.fD
theorem y7p (Z : Zp) (z7x : Nat) (zmx : Option Addr) (zmy : Nat) (zc5 : z18) (z4v : List (List z6)) (z4w : z2) (r : z2 × z18)
  (h : y2Z zc5 z4v z4w = some r) (w₀ : World) (hz : PZ (fps [stb z7x 225 [(.int .i64 zc5.fE)]]) w₀ Z)
  (zMW : ZS Z 1 (y1P Z) zmx zmy z4v)
  (hown : Hp (fps [stb z7x 225 [(.int .i64 zc5.fE)]]) w₀ w₀ [stb z7x 225 [(.int .i64 zc5.fE)]]) :
  Calls Tryz.prog 76 #[(.pointer (some ⟨z7x,0,none⟩)),(.slice zmx z4v.length zmy),(.agg #[(.int .i64 z4w.fN),(.int .i64 z4w.fD)])] w₀ fun e w'=>e = .returned (.agg #[(.int .i64 r.1.fN),(.int .i64 r.1.fD)]) ∧ Hp (fps [stb z7x 225 [(.int .i64 zc5.fE)]]) w₀ w' [stb z7x 225 [(.int .i64 r.2.fE)]]:=by
 unfold y2Z at h
 refine Calls.oh3 Tryz.func76 Tryz.ntmps76 hown ?_
 refine WC.b (WC.a (WL.nA 5 (yH (cs:=[(.int .i64 z4w.fN),(.int .i64 z4w.fD)]) rfl rfl) ?_))
 intro zmz _
 refine WL.nA 6 (yx (cs:=[(.int .i64 0),(.int .i64 0)]) zH rfl) ?_
 intro zgP _
 refine WL.nil (WX.a (WC.b ?_))
 obtain ⟨zjK,zMX,h⟩:=z7 h
 refine WC.a (WL.cA 12 (z8 Tryz.call107 .nil) .nil (cc hz .nil fun w pz ho=>y3X _ _ zMX w pz ) (WL.nA 7 (yx (cs:=[(.int .i64 0),(.int .i64 0)]) zH rfl) ?_))
 intro zgQ _
 refine WL.yl rfl rfl (yk zq rfl rfl rfl .here rfl rfl rfl) (WL.nil (WX.a ?_))
 obtain ⟨za7,zMY,h⟩:=y9U h
 refine WC.y2F (fun (zc6 : Int) (zc7 : Int) (zc8 : Int)=>(za7 zc6 zc7 zc8 = some r)) (fun zc6 zc7 zc8=>[(6,(.pointer (some ⟨zgP,0,none⟩))),(7,(.pointer (some ⟨zgQ,0,none⟩)))]) (fun zc6 zc7 zc8=>[stb zgP 132 [(.int .i64 0),(.int .i64 0)],stb zgQ 132 [(.int .i64 zc6),(.int .i64 zc7)],stb z7x 225 [(.int .i64 zc8)]]) ?_ ?_
 ·skip
  refine WC.b (WC.a (WL.pu rfl (WL.qA 14 (yG Tryz.underlying128 rfl) (WL.pu rfl (WL.nil (WX.a (WC.block (WC.y6s (fun (zgR : Nat) (z4V : Int) (z5D : Int) (z67 : Int) (z68 : Int)=>(y1Z z4v z4w za7 zgR z4V z5D z67 z68 = some r)) (fun zgR z4V z5D z67 z68=>[(0,(.pointer (some ⟨z7x,0,none⟩))),(5,(.pointer (some ⟨zmz,0,none⟩))),(6,(.pointer (some ⟨zgP,0,none⟩))),(7,(.pointer (some ⟨zgQ,0,none⟩))),(13,(.slice zmx z4v.length zmy)),(14,(.int .i64 ((z4v.length : Nat) : Int))),(15,(.int .i64 z4V))]) (fun zgR z4V z5D z67 z68=>[stb z7x 225 [(.int .i64 z5D)],stb zmz 132 [(.int .i64 z4w.fN),(.int .i64 z4w.fD)],stb zgP 132 [(.int .i64 0),(.int .i64 0)],stb zgQ 132 [(.int .i64 z67),(.int .i64 z68)]]) (fun zgR z4V z5D z67 z68=>zgR) ⟨yz,0,zc5.fE,zjK.fN,zjK.fD⟩ h (.r7 rfl rfl rfl rfl rfl rfl rfl) (.s4 .h3 .h2 .h1 .here) ?_))))))))
  rintro zgR z4V z5D z67 z68 h
  obtain ⟨ztm,rfl⟩:=y7K h
  rw [y1Z] at h
  refine WC.b (WC.a (WL.pu rfl (WL.nil (WX.a (WC.b (WC.cond rfl (fun ztn=>?_) (fun ztn=>?_)))))))
  ·replace h:=yo h ztn
   refine WC.skip (WX.a (WC.b (WC.block (WC.b ?_))))
   obtain ⟨zMZ,h⟩:=ym h
   refine WC.a (WL.znth (dd:=17) rfl rfl (Z:=Z) (Pr:=(y1P Z)) z6X rfl rfl zMW zMZ ?_)
   rintro zW4 zW5 zN0 zW6 ⟨zW7,zW8,rfl,zN1⟩
   refine WL.qA 18 (yc zaF rfl (y53 hz.pv zN0 rfl)) (WL.pu rfl (WL.nil (WX.a (WC.b ?_))))
   obtain ⟨zgO,zN2,h⟩:=z7 h
   refine WC.a (WL.pu rfl (WL.qA 21 (yf zb rfl (yh .h1) rfl) (WL.cA 22 (z8 Tryz.call108 (.r2 rfl rfl)) .nil (cc hz .nil fun w pz ho=>yfs _ _ _ _ _ _ zN2 w pz zN1) (WL.pu rfl (WL.pu rfl (WL.pu rfl (WL.nA 10 (yx (cs:=[(.int .i64 0),(.int .i64 0)]) zH rfl) ?_)))))))
   intro zBk _
   refine WL.yl rfl rfl (yk zq rfl rfl rfl .here rfl rfl rfl) (WL.pu rfl (WL.nil (WX.a ?_)))
   obtain ⟨zmw,zN3,h⟩:=y14 h
   refine WC.y3z (fun (zc4 : Int)=>(zmw zc4 = some r)) (fun zc4=>[(0,(.pointer (some ⟨z7x,0,none⟩))),(5,(.pointer (some ⟨zmz,0,none⟩))),(6,(.pointer (some ⟨zgP,0,none⟩))),(7,(.pointer (some ⟨zgQ,0,none⟩))),(10,(.pointer (some ⟨zBk,0,none⟩))),(13,(.slice zmx z4v.length zmy)),(14,(.int .i64 ((z4v.length : Nat) : Int))),(15,(.int .i64 z4V))]) (fun zc4=>[stb z7x 225 [(.int .i64 zc4)],stb zmz 132 [(.int .i64 z4w.fN),(.int .i64 z4w.fD)],stb zgP 132 [(.int .i64 0),(.int .i64 0)],stb zgQ 132 [(.int .i64 z67),(.int .i64 z68)],stb zBk 132 [(.int .i64 zgO.1.fN),(.int .i64 zgO.1.fD)]]) ?_ ?_
   ·skip
    refine WC.b (WC.a (WL.pu rfl (WL.qA 26 (y11 rfl) (WL.qA 27 (ya y4v rfl rfl) (WL.qA 28 (yc y2Y rfl (yj .h1 rfl)) (WL.pu rfl (WL.nil (WX.a (WC.cond rfl (fun zto=>?_) (fun zto=>?_))))))))))
    ·replace h:=yo h zto
     refine WC.a (WL.pu rfl (WL.pu rfl (WL.qA 32 (y11 rfl) (WL.qA 33 (ya y4v rfl rfl) (WL.yl rfl rfl (yk y9A rfl rfl rfl .h1 rfl rfl rfl) (WL.nil ?_))))))
     exact WX.mid zgO.2 h (.r8 rfl rfl rfl rfl rfl rfl rfl rfl) (.s5 .here .h1 .h1 .h1 .here)
    ·replace h:=yp h zto
     refine WC.skip ?_
     exact WX.mid z5D h (.r8 rfl rfl rfl rfl rfl rfl rfl rfl) (.s5 .h1 .h1 .h1 .h1 .here)
   ·rintro zc4 h
    replace h:=(zN3 zc4).symm.trans h
    obtain ⟨zej,zN4,h⟩:=z7 h
    refine WC.a (WL.pu rfl (WL.qA 35 (yf zb rfl (yh .h3) rfl) (WL.qA 36 (yf zb rfl (yh .h4) rfl) (WL.cA 37 (z8 Tryz.call73 (.r4 rfl rfl rfl rfl)) (.cons .here .nil) (cc hz (.cons .here .nil) fun w pz ho=>y2f _ _ (z5A:=69) (z6w:=[]) _ (z64:=(fun (y0 : z2) (y1 : z2)=>y1d y0 y1)) _ _ _ zN4 w pz Tryz.call69 (fun w' hz' y0 y1  r  hr=>y5S _ _ _ _ hr w' hz' ) ho) (WL.yl rfl rfl (yk zq rfl rfl rfl .h3 rfl rfl rfl) (WL.nil (WX.yq (WX.a (WC.a (WL.pu rfl (WL.pu rfl (WL.nil ?_))))))))))))
    exact WX.round ⟨ztm,(i64 (z4V + 1)),zej.2.fE,zej.1.fN,zej.1.fD⟩ h (Nat.lt_succ_self _) (.r7 rfl rfl rfl rfl rfl rfl rfl) (.s4 .h1 .h1 .h1 .here)
  ·replace h:=yp h ztn
   refine WC.exit (WX.yg (WX.yg (WX.yA ?_)))
   exact WX.mid ⟨z67,z68,z5D⟩ h (.r2 rfl rfl) (.s3 .h2 .h2 .here)
 ·rintro zc6 zc7 zc8 h
  replace h:=(zMY zc6 zc7 zc8).symm.trans h
  refine WC.b (WC.a (WL.qA 39 (yf zb rfl (yh .h1) rfl) (WL.yl rfl rfl (yk zq rfl rfl rfl .here rfl rfl rfl) (WL.nil (WX.a (WC.ret ?_))))))
  obtain rfl:=Option.some.inj h
  refine WX.ye Tryz.results76 (.agg rfl zb rfl (yh .here) .nil) (fun w hw=>?_)
  exact ⟨yC rfl,hw.sub (.cons .h2 .nil)⟩
def y4n (zek : z18) (z86 : z2) (zjL : List (List z6)) (z6B : zSv) : Option (z2 × z18) :=
 (y2Z zek zjL z86).bind fun ztp=>(y10 ztp.2 (fun (y0 : z2) (y1 : z2)=>y3v y0 y1) ztp.1 z6B.fRate).bind fun ztq=>(y10 ztq.2 (fun (y0 : z2) (y1 : z2)=>y24 y0 y1) ztq.1 z86).bind fun ztr=>(y10 ztr.2 (fun (y0 : z2) (y1 : z2)=>y1d y0 y1) ztr.1 z6B.fL).bind fun zts=>some (zts.1,zts.2)
theorem yaT (Z : Zp) (zgS : Nat) (zBl : Addr) (zBm : Option Addr) (zBn : Nat) (zBo : Addr) (zek : z18) (z86 : z2) (zjL : List (List z6)) (z6B : zSv) (r : z2 × z18)
  (h : y4n zek z86 zjL z6B = some r) (w₀ : World) (hz : PZ (fps [stb zgS 225 [(.int .i64 zek.fE)]]) w₀ Z)
  (zN5 : ZS Z 1 (y1P Z) zBm zBn zjL)
  (zN6 : ZC Z zBl [(.slice zBm zjL.length zBn)])
  (zBp : ZC Z zBo [(.int .i64 z6B.fRate.fN),(.int .i64 z6B.fRate.fD),(.int .i64 z6B.fL.fN),(.int .i64 z6B.fL.fD)])
  (hown : Hp (fps [stb zgS 225 [(.int .i64 zek.fE)]]) w₀ w₀ [stb zgS 225 [(.int .i64 zek.fE)]]) :
  Calls Tryz.prog 72 #[(.pointer (some ⟨zgS,0,none⟩)),(.agg #[(.int .i64 z86.fN),(.int .i64 z86.fD)]),(.pointer (some zBl)),(.pointer (some zBo))] w₀ fun e w'=>e = .returned (.agg #[(.int .i64 r.1.fN),(.int .i64 r.1.fD)]) ∧ Hp (fps [stb zgS 225 [(.int .i64 zek.fE)]]) w₀ w' [stb zgS 225 [(.int .i64 r.2.fE)]]:=by
 unfold y4n at h
 refine Calls.oh4 Tryz.func72 Tryz.ntmps72 hown ?_
 refine WC.b (WC.a (WL.nA 5 (yH (cs:=[(.int .i64 z86.fN),(.int .i64 z86.fD)]) rfl rfl) ?_))
 intro zN7 _
 refine WL.nA 6 (yx (cs:=[(.int .i64 0),(.int .i64 0)]) zH rfl) ?_
 intro zW9 _
 refine WL.nil (WX.a (WC.b ?_))
 obtain ⟨ztp,zN8,h⟩:=z7 h
 obtain ⟨ztq,zN9,h⟩:=z7 h
 obtain ⟨ztr,zNa,h⟩:=z7 h
 obtain ⟨zts,zNb,h⟩:=z7 h
 refine WC.yP (fun i=>[6,9,11,14,15].contains i) [stb zN7 132 [(.int .i64 z86.fN),(.int .i64 z86.fD)]] rfl (WD.pA 0 7 rfl (fun _=>q_m rfl) (WD.pA 1 8 rfl (fun _=>q_m rfl) (WD.pA 2 9 rfl (fun _=>q_m rfl) (WD.pA 3 10 rfl (fun _=>q_m rfl) (WD.qA 4 11 rfl (yc z6h rfl (y53 hz.pv zN6 rfl)) (WD.qA 5 12 rfl (yf zb rfl (yh .h1) rfl) (WD.pA 7 14 rfl (fun _=>ya y7W rfl rfl) (WD.sA 8 15 rfl (Sin.of (.cons .h1 .nil)) (yR (cs:=[(.int .i64 z6B.fRate.fN),(.int .i64 z6B.fRate.fD)]) zb rfl rfl (y9v (off:=0) (s:=2) hz.pv zBp rfl)) (WD.sA 10 17 rfl (Sin.of (.cons .h1 .nil)) (yf zb rfl (yh .here) rfl) (WD.pA 12 19 rfl (fun _=>ya y7X rfl rfl) (WD.sA 13 20 rfl (Sin.of (.cons .h1 .nil)) (yR (cs:=[(.int .i64 z6B.fL.fN),(.int .i64 z6B.fL.fD)]) zb rfl rfl (y9v (off:=2) (s:=2) hz.pv zBp rfl)) (WD.call0 (i:=6) (dd:=13) rfl (by kernel_rfl) rfl rfl rfl (.inl ⟨rfl,(Sin.of (.cons .h2 .nil))⟩) (z8 Tryz.call76 (.r3 rfl rfl rfl)) (.cons .h2 .nil) (cc hz (.cons .h2 .nil) fun w pz ho=>Calls.mono (y7p _ _ _ _ _ _ _ _ zN8 w pz zN5 ho) (fun _ _ h'=>⟨h'.1,trivial,h'.2⟩)) ?_))))))))))))
 intro _
 refine WD.call0 (i:=9) (dd:=16) rfl (by kernel_rfl) rfl rfl rfl (.inl ⟨rfl,(Sin.of (.cons .h2 .nil))⟩) (z8 Tryz.call73 (.r4 rfl rfl rfl rfl)) (.cons .here .nil) (cc hz (.cons .here .nil) fun w pz ho=>Calls.mono (y2f _ _ (z5A:=75) (z6w:=[]) _ (z64:=(fun (y0 : z2) (y1 : z2)=>y3v y0 y1)) _ _ _ zN9 w pz Tryz.call75 (fun w' hz' y0 y1  r  hr=>yd6 _ _ _ _ hr w' hz' ) ho) (fun _ _ h'=>⟨h'.1,trivial,h'.2⟩)) ?_
 intro _
 refine WD.call0 (i:=11) (dd:=18) rfl (by kernel_rfl) rfl rfl rfl (.inl ⟨rfl,(Sin.of (.cons .h2 .nil))⟩) (z8 Tryz.call73 (.r4 rfl rfl rfl rfl)) (.cons .here .nil) (cc hz (.cons .here .nil) fun w pz ho=>Calls.mono (y2f _ _ (z5A:=74) (z6w:=[]) _ (z64:=(fun (y0 : z2) (y1 : z2)=>y24 y0 y1)) _ _ _ zNa w pz Tryz.call74 (fun w' hz' y0 y1  r  hr=>y8f _ _ _ _ hr w' hz' ) ho) (fun _ _ h'=>⟨h'.1,trivial,h'.2⟩)) ?_
 intro _
 refine WD.call0 (i:=14) (dd:=21) rfl (by kernel_rfl) rfl rfl rfl (.inl ⟨rfl,(Sin.of (.cons .h2 .nil))⟩) (z8 Tryz.call73 (.r4 rfl rfl rfl rfl)) (.cons .here .nil) (cc hz (.cons .here .nil) fun w pz ho=>Calls.mono (y2f _ _ (z5A:=69) (z6w:=[]) _ (z64:=(fun (y0 : z2) (y1 : z2)=>y1d y0 y1)) _ _ _ zNb w pz Tryz.call69 (fun w' hz' y0 y1  r  hr=>y5S _ _ _ _ hr w' hz' ) ho) (fun _ _ h'=>⟨h'.1,trivial,h'.2⟩)) ?_
 intro _
 refine WD.y3A (i:=15) rfl (by kernel_rfl) rfl rfl rfl (by kernel_rfl) (yk zq rfl rfl rfl .h1 rfl rfl rfl) (WD.done (by kernel_rfl) (WX.a (WC.ret ?_)))
 obtain rfl:=Option.some.inj h
 refine WX.ye Tryz.results72 (.agg rfl zb rfl (yh .here) .nil) (fun w hw=>?_)
 exact ⟨yC rfl,hw.sub (.cons .h1 .nil)⟩
end Go.Proofs.YtcahmabkeaijdaaGreat
