/- A part of this claim's proof: models of functions, walks, plain laws. No conditions. -/
import Derived.Test.YtcahmabkeaijdaaGreatW35xc
set_option linter.all false
namespace Go.Proofs.YtcahmabkeaijdaaGreat
open Go Go.RowKit Sep
set_option maxRecDepth 30000
set_option maxHeartbeats 4000000
def y1U(zcM:z1C)(zaP:z2→z2→Option (z2×Int))(zcN:z2)(zcO:z2):Option (z2×z1C):=
 if decide (zcM.fE≠0) then some ((⟨0,0⟩:z2),zcM) else(zaP zcN zcO).bind fun zn8=>some (zn8.1,(⟨zn8.2⟩:z1C))
theorem y5D(Z:Zp)(zh8:Nat)(z8Y:FuncId)(zcP:List Value)(zcM:z1C)(zaP:z2→z2→Option (z2×Int))(zcN:z2)(zcO:z2)(r:z2×z1C)(h:y1U zcM zaP zcN zcO=some r)(w₀:World)(hz:PZ (fps [stb zh8 262 [(.int .i64 zcM.fE)]]) w₀ Z)(zM8:∀ args w,(callFunc z8Y args).run Tryz.prog w = .ok (.enter z8Y args) w)(zM9:∀ w:World,PZ [] w Z→∀(x0:z2) (x1:z2) (r:z2×Int),zaP x0 x1=some r→Calls Tryz.prog z8Y (([(.agg #[(.int .i64 x0.fN),(.int .i64 x0.fD)]),(.agg #[(.int .i64 x1.fN),(.int .i64 x1.fD)])]:List Value)++zcP).toArray w fun e w'=>e = .returned (.tuple #[(.agg #[(.int .i64 r.1.fN),(.int .i64 r.1.fD)]),(.int .i64 r.2)])∧Hp [] w w' [])(hown:Hp (fps [stb zh8 262 [(.int .i64 zcM.fE)]]) w₀ w₀ [stb zh8 262 [(.int .i64 zcM.fE)]]):
  Calls Tryz.prog 167 #[(.pointer (some ⟨zh8,0,none⟩)),(.func (.func z8Y) #[] (zcP).toArray),(.agg #[(.int .i64 zcN.fN),(.int .i64 zcN.fD)]),(.agg #[(.int .i64 zcO.fN),(.int .i64 zcO.fD)])] w₀ fun e w'=>e = .returned (.agg #[(.int .i64 r.1.fN),(.int .i64 r.1.fD)])∧Hp (fps [stb zh8 262 [(.int .i64 zcM.fE)]]) w₀ w' [stb zh8 262 [(.int .i64 r.2.fE)]]:=by
 unfold y1U at h
 refine Calls.oh4 Tryz.func167 Tryz.ntmps167 hown ?_
 refine WC.b (WC.a (WL.nA 6 (yI (cs:=[(.int .i64 zcN.fN),(.int .i64 zcN.fD)]) rfl rfl) ?_))
 intro zXi _
 refine WL.nA 7 (yI (cs:=[(.int .i64 zcO.fN),(.int .i64 zcO.fD)]) rfl rfl) ?_
 intro zXj _
 refine WL.nA 8 (yv (cs:=[(.int .i64 0),(.int .i64 0)]) zT rfl) ?_
 intro zXk _
 refine WL.nil (WX.a (WC.b (WC.b (WC.a (WL.pu rfl (WL.qA 12 (y14 rfl) (WL.qA 13 (ya y8j rfl rfl) (WL.qA 14 (yc y35 rfl (yk .h3 rfl)) (WL.pu rfl (WL.nil (WX.a (WC.cond rfl (fun ztf=>?_) (fun ztf=>?_)))))))))))))
 ·replace h:=yp h ztf
  refine WC.b (WC.a (WL.qA 16 (yL (v:=(.agg #[(.int .i64 0),(.int .i64 0)])) (Eos.parts (l:=[]) .nil []) (fun _=>by kernel_rfl)) (WL.ym rfl rfl (yl zz rfl rfl rfl .here rfl rfl rfl) (WL.nil (WX.a (WC.ret (WX.ye ?_)))))))
  obtain rfl:=oJ h
  refine WX.yf Tryz.results167 (.agg rfl zf rfl (yi .here) .nil) (fun w hw=>?_)
  exact⟨yD rfl,hw.sub (.cons .h3 .nil)⟩
 ·replace h:=yq h ztf
  refine WC.skip (WX.a (WC.b ?_))
  obtain⟨zn8,zMa,h⟩:=z8 h
  refine WC.a (WL.pu rfl (WL.qA 19 (yh zf rfl (yi .h2) rfl) (WL.qA 20 (yh zf rfl (yi .h1) rfl) (WL.cA 21 (y2y (l:=[.tmp 19,.tmp 20]) (f:=z8Y) (caps:=zcP) zM8 rfl (.r2 rfl rfl)) .nil (fun w hw=>zM9 w (hz.now hw) zcN zcO zn8  zMa) (WL.pu rfl (WL.pu rfl (WL.pu rfl (WL.nA 9 (yv (cs:=[(.int .i64 0),(.int .i64 0)]) zT rfl) ?_))))))))
  intro zXl _
  refine WL.ym rfl rfl (yl zz rfl rfl rfl .here rfl rfl rfl) (WL.pu rfl (WL.nil (WX.a (WC.b (WC.a (WL.pu rfl (WL.pu rfl (WL.qA 26 (y14 rfl) (WL.qA 27 (ya y8j rfl rfl) (WL.ym rfl rfl (yl yan rfl rfl rfl .h4 rfl rfl rfl) (WL.nil (WX.a (WC.b (WC.a (WL.qA 28 (yh zf rfl (yi .h1) rfl) (WL.ym rfl rfl (yl zz rfl rfl rfl .h2 rfl rfl rfl) (WL.nil (WX.a (WC.ret ?_)))))))))))))))))))
  obtain rfl:=oJ h
  refine WX.yf Tryz.results167 (.agg rfl zf rfl (yi .here) .nil) (fun w hw=>?_)
  exact⟨yD rfl,hw.sub (.cons .h1 .nil)⟩
def y93(zh9:z2)(zha:z2):Option (Int×Int):=
 some ((i64 (zh9.fN*zha.fD)),(i64 (zh9.fD*zha.fN)))
theorem ygW(Z:Zp)(zBx:Addr)(zBy:Addr)(zh9:z2)(zha:z2)(r:Int×Int)(h:y93 zh9 zha=some r)(w₀:World)(hz:PZ [] w₀ Z)(zBz:ZC Z zBx [(.int .i64 zh9.fN),(.int .i64 zh9.fD)])(zBA:ZC Z zBy [(.int .i64 zha.fN),(.int .i64 zha.fD)]):
  Calls Tryz.prog 144 #[(.pointer (some zBx)),(.pointer (some zBy))] w₀ fun e w'=>e = .returned (.tuple #[(.int .i64 r.1),(.int .i64 r.2)])∧Hp [] w₀ w' []:=by
 unfold y93 at h
 refine Calls.yK Tryz.func144 Tryz.ntmps144 ?_
 refine WC.b (WC.a (WL.pu rfl (WL.pu rfl (WL.nil (WX.a (WC.b (WC.yP (fun i=>[].contains i) [] rfl (WD.pA 0 4 rfl (fun _=>ya y2k rfl rfl) (WD.qA 1 5 rfl (yc yt rfl (y1l hz.pv zBz rfl)) (WD.pA 2 6 rfl (fun _=>ya y2F rfl rfl) (WD.qA 3 7 rfl (yc yt rfl (y1l hz.pv zBA rfl)) (WD.pA 4 8 rfl (fun _=>y6T rfl rfl rfl) (WD.pA 5 9 rfl (fun _=>ya y2F rfl rfl) (WD.qA 6 10 rfl (yc yt rfl (y1l hz.pv zBz rfl)) (WD.pA 7 11 rfl (fun _=>ya y2k rfl rfl) (WD.qA 8 12 rfl (yc yt rfl (y1l hz.pv zBA rfl)) (WD.pA 9 13 rfl (fun _=>y6T rfl rfl rfl) (WD.pA 10 2 rfl (fun _=>q_z rfl) (WD.pA 11 3 rfl (fun _=>q_z rfl) (WD.done (by kernel_rfl) (WX.a (WC.ret ?_))))))))))))))))))))))
 obtain rfl:=oJ h
 refine WX.yf Tryz.results144 (.tmp rfl (.tmp rfl .nil)) (fun w hw=>?_)
 exact⟨y24 rfl rfl,hw.sub .nil⟩
def y8H(zcQ:z2)(z8Z:z2):Option (z2×Int):=
 (y1L zcQ).bind fun zBB=>(if !zBB then some true else(y1L z8Z).bind fun zBC=>some (!zBC)).bind fun zn9=>if zn9||(decide (z8Z.fN=0)) then some ((⟨0,0⟩:z2),2) else(y93 zcQ z8Z).bind fun ztg=>(y51 ztg.1 ztg.2).bind fun zth=>some (zth.1,zth.2)
theorem yhv(Z:Zp)(zcQ:z2)(z8Z:z2)(r:z2×Int)(h:y8H zcQ z8Z=some r)(w₀:World)(hz:PZ [] w₀ Z):
  Calls Tryz.prog 105 #[(.string ⟨#[47]⟩),(.agg #[(.int .i64 zcQ.fN),(.int .i64 zcQ.fD)]),(.agg #[(.int .i64 z8Z.fN),(.int .i64 z8Z.fD)])] w₀ fun e w'=>e = .returned (.tuple #[(.agg #[(.int .i64 r.1.fN),(.int .i64 r.1.fD)]),(.int .i64 r.2)])∧Hp [] w₀ w' []:=by
 unfold y8H at h
 refine Calls.on3 Tryz.func105 Tryz.ntmps105 ?_
 refine WC.b (WC.a (WL.nA 4 (yI (cs:=[(.int .i64 zcQ.fN),(.int .i64 zcQ.fD)]) rfl rfl) ?_))
 intro zkk _
 refine WL.nA 5 (yI (cs:=[(.int .i64 z8Z.fN),(.int .i64 z8Z.fD)]) rfl rfl) ?_
 intro zkl _
 refine WL.nA 6 (yv (cs:=[(.int .i64 0),(.int .i64 0)]) zT rfl) ?_
 intro zXm _
 refine WL.pu rfl (WL.nil (WX.a (WC.b (WC.b ?_))))
 obtain⟨zBB,zMb,h⟩:=z8 h
 obtain⟨zn9,zBD,h⟩:=z8 h
 refine WC.a (WL.qA 9 (yh zf rfl (yi .h2) rfl) (WL.cA 10 (zb Tryz.call80 (.cons rfl .nil)) .nil (cc hz .nil fun w pz ho=>y2s _ _ _ zMb w pz ) (WL.pu rfl (WL.pu rfl (WL.seg false 3 12 (B:=zn9) rfl rfl rfl rfl rfl rfl (fun h=>(oJ (yp zBD h)).symm) (fun _ zMc=>?_) ?_)))))
 ·skip
  have zkm:=yq zBD zMc
  obtain⟨zBC,zMd,zkm⟩:=z8 zkm
  replace zkm:=oJ zkm
  refine WL.qA 13 (yh zf rfl (yi .h1) rfl) (WL.cA 14 (zb Tryz.call80 (.cons rfl .nil)) .nil (cc hz .nil fun w pz ho=>y2s _ _ _ zMd w pz ) (WL.pu rfl (WL.pu rfl ?_)))
  exact WL.yB zkm rfl rfl .all
 refine WL.pu rfl (WL.seg false 7 17 (B:=zn9||(decide (z8Z.fN=0))) rfl rfl rfl rfl rfl rfl (fun h=>(y6p h).symm) (fun _ zMe=>?_) ?_)
 ·skip
  refine WL.pu rfl (WL.qA 19 (yc7 (r:=true) (by decide) rfl rfl) (WL.pu rfl (WL.qA 21 (ya y2k rfl rfl) (WL.qA 22 (yc yt rfl (yk .h1 rfl)) (WL.pu rfl (WL.pu rfl (WL.pu rfl ?_)))))))
  exact WL.yB (y6q zMe) rfl rfl .all
 refine WL.nil (WX.a (WC.cond rfl (fun zti=>?_) (fun zti=>?_)))
 ·replace h:=yp h zti
  refine WC.b (WC.a (WL.qA 26 (yL (v:=(.agg #[(.int .i64 0),(.int .i64 0)])) (Eos.parts (l:=[]) .nil []) (fun _=>by kernel_rfl)) (WL.ym rfl rfl (yl zz rfl rfl rfl .here rfl rfl rfl) (WL.pu rfl (WL.nil (WX.a (WC.ret (WX.ye ?_))))))))
  obtain rfl:=oJ h
  refine WX.yf Tryz.results105 (.agg rfl zf rfl (yi .here) (.tmp rfl .nil)) (fun w hw=>?_)
  exact⟨y24 rfl rfl,hw.sub .nil⟩
 ·replace h:=yq h zti
  refine WC.skip (WX.a (WC.b (WC.a (WL.nA 27 (y4B Value.string (fun x=>x)) ?_))))
  intro zXn _
  refine WL.qA 28 (y19 (Eos.caps (l:=[.tmp 4,.tmp 5]) (.r2 rfl rfl))) (WL.ym rfl rfl (y3s (k:=⟨#[43]⟩) (v:=(.func (.func 141) #[] #[(.pointer (some ⟨zkk,0,none⟩)),(.pointer (some ⟨zkl,0,none⟩))])) y3S Tryz.underlying258 rfl rfl rfl rfl .here) (WL.qA 29 (y19 (Eos.caps (l:=[.tmp 4,.tmp 5]) (.r2 rfl rfl))) (WL.ym rfl rfl (y3s (k:=⟨#[45]⟩) (v:=(.func (.func 142) #[] #[(.pointer (some ⟨zkk,0,none⟩)),(.pointer (some ⟨zkl,0,none⟩))])) y3S Tryz.underlying258 rfl rfl rfl rfl .here) (WL.qA 30 (y19 (Eos.caps (l:=[.tmp 4,.tmp 5]) (.r2 rfl rfl))) (WL.ym rfl rfl (y3s (k:=⟨#[42]⟩) (v:=(.func (.func 143) #[] #[(.pointer (some ⟨zkk,0,none⟩)),(.pointer (some ⟨zkl,0,none⟩))])) y3S Tryz.underlying258 rfl rfl rfl rfl .here) (WL.qA 31 (y19 (Eos.caps (l:=[.tmp 4,.tmp 5]) (.r2 rfl rfl))) (WL.ym rfl rfl (y3s (k:=⟨#[47]⟩) (v:=(.func (.func 144) #[] #[(.pointer (some ⟨zkk,0,none⟩)),(.pointer (some ⟨zkl,0,none⟩))])) y3S Tryz.underlying258 rfl rfl rfl rfl .here) (WL.pu rfl (WL.pu rfl (WL.nil (WX.a (WC.b ?_))))))))))))
  obtain⟨ztg,zMf,h⟩:=z8 h
  obtain⟨zth,zMg,h⟩:=z8 h
  refine WC.a (WL.pu rfl (WL.pu rfl (WL.qA 35 (yc6 (k:=⟨#[47]⟩) (dflt:=.nilFunc) (r:=(.func (.func 144) #[] #[(.pointer (some ⟨zkk,0,none⟩)),(.pointer (some ⟨zkl,0,none⟩))])) y3S Tryz.underlying258 zlX rfl rfl rfl .here (by rfl)) (WL.cA 36 (y2y (l:=[]) Tryz.call144 rfl .nil) .nil (ccl hz .nil (.s2 .h3 .h2) fun w pz ho la=>ygW _ _ _ _ _ _ zMf w pz ((la _ (.head _) _).stb) ((la _ (.tail _ (.head _)) _).stb)) (WL.pu rfl (WL.pu rfl (WL.cA 39 (zb Tryz.call106 (.r2 rfl rfl)) .nil (cc hz .nil fun w pz ho=>y7X _ _ _ _ zMg w pz ) (WL.pu rfl (WL.pu rfl (WL.ym rfl rfl (yl zz rfl rfl rfl .h1 rfl rfl rfl) (WL.pu rfl (WL.nil (WX.a (WC.ret ?_))))))))))))))
  obtain rfl:=oJ h
  refine WX.yf Tryz.results105 (.agg rfl zf rfl (yi .here) (.tmp rfl .nil)) (fun w hw=>?_)
  exact⟨y24 rfl rfl,hw.sub .nil⟩
def y3B(zeY:z2)(zeZ:z2):Option (z2×Int):=
 (y8H zeY zeZ).bind fun ztj=>some (ztj.1,ztj.2)
theorem yev(Z:Zp)(zeY:z2)(zeZ:z2)(r:z2×Int)(h:y3B zeY zeZ=some r)(w₀:World)(hz:PZ [] w₀ Z):
  Calls Tryz.prog 75 #[(.agg #[(.int .i64 zeY.fN),(.int .i64 zeY.fD)]),(.agg #[(.int .i64 zeZ.fN),(.int .i64 zeZ.fD)])] w₀ fun e w'=>e = .returned (.tuple #[(.agg #[(.int .i64 r.1.fN),(.int .i64 r.1.fD)]),(.int .i64 r.2)])∧Hp [] w₀ w' []:=by
 unfold y3B at h
 refine Calls.yK Tryz.func75 Tryz.ntmps75 ?_
 refine WC.b (WC.a (WL.nA 2 (yI (cs:=[(.int .i64 zeY.fN),(.int .i64 zeY.fD)]) rfl rfl) ?_))
 intro zXo _
 refine WL.nA 3 (yI (cs:=[(.int .i64 zeZ.fN),(.int .i64 zeZ.fD)]) rfl rfl) ?_
 intro zXp _
 refine WL.nA 4 (yv (cs:=[(.int .i64 0),(.int .i64 0)]) zT rfl) ?_
 intro zXq _
 refine WL.pu rfl (WL.nil (WX.a (WC.b ?_)))
 obtain⟨ztj,zMh,h⟩:=z8 h
 refine WC.a (WL.qA 6 (yh zf rfl (yi .h2) rfl) (WL.qA 7 (yh zf rfl (yi .h1) rfl) (WL.cA 8 (zb Tryz.call105 (.r3 rfl rfl rfl)) .nil (cc hz .nil fun w pz ho=>yhv _ _ _ _ zMh w pz ) (WL.pu rfl (WL.pu rfl (WL.ym rfl rfl (yl zz rfl rfl rfl .here rfl rfl rfl) (WL.pu rfl (WL.nil (WX.a (WC.ret ?_))))))))))
 obtain rfl:=oJ h
 refine WX.yf Tryz.results75 (.agg rfl zf rfl (yi .here) (.tmp rfl .nil)) (fun w hw=>?_)
 exact⟨y24 rfl rfl,hw.sub .nil⟩
theorem zMi:∀ w,(isAgg (Tryz.y3b.t 24)).run Tryz.prog w = .ok true w:=fun _=>by kernel_rfl
theorem zMj:∀ w,(Go.sizeOf (Tryz.y3b.t 24)).run Tryz.prog w = .ok 2 w:=fun _=>by kernel_rfl
def y42(z5g:List z2)(zkn:Int)(zko:Int)(zhb:Int)(zf0:z2→z2→Option Int):Option (List z2):=chk ((zkn=0∧zko=((z5g.length:Nat):Int))∧(0≤zhb∧zhb<4611686018427387904∧z5g.length<4611686018427387904)) (chk (y7r zf0 (yM zf0 z5g)=true) (some (yM zf0 z5g)))
theorem y7J(Z:Zp)(zf1:Option Addr)(zf2:Nat)(zkp:FuncId)(ztk:List Value)(z5g:List z2)(zkn:Int)(zko:Int)(zhb:Int)(zf0:z2→z2→Option Int)(r:List z2)(w₀:World)(hz:PZ (fps [row (.slice zf1 z5g.length zf2) 132 2 (z5g.flatMap yw)]) w₀ Z)(zMk:∀ args w,(callFunc zkp args).run Tryz.prog w = .ok (.enter zkp args) w)(zMl:∀ w:World,PZ [] w Z→∀(x0:z2) (x1:z2) (r:Int),zf0 x0 x1=some r→Calls Tryz.prog zkp (([(.agg #[(.int .i64 x0.fN),(.int .i64 x0.fD)]),(.agg #[(.int .i64 x1.fN),(.int .i64 x1.fD)])]:List Value)++ztk).toArray w fun e w'=>e = .returned (.int .i64 r)∧Hp [] w w' [])(h:y42 z5g zkn zko zhb zf0=some r)(hown:Hp (fps [row (.slice zf1 z5g.length zf2) 132 2 (z5g.flatMap yw)]) w₀ w₀ [row (.slice zf1 z5g.length zf2) 132 2 (z5g.flatMap yw)]):
  Calls Tryz.prog 185 #[(.slice zf1 z5g.length zf2),(.int .i64 zkn),(.int .i64 zko),(.int .i64 zhb),(.func (.func zkp) #[] (ztk).toArray)] w₀ fun e w'=>e = .returned (.tuple #[])∧(r.length=z5g.length)∧Hp (fps [row (.slice zf1 z5g.length zf2) 132 2 (z5g.flatMap yw)]) w₀ w' [row (.slice zf1 r.length zf2) 132 2 (r.flatMap yw)]:=by
 obtain⟨h0,h⟩:=yo h
 obtain⟨h1,h⟩:=yo h
 have hr:=(oJ h).symm
 exact y8w (P:=Tryz.prog) (f:=185) (e:=132) (k:=2) (enc:=yw) (fun _=>rfl) (by decide) yc8 (fun β _ enc cf g cb hO blk off cap d0 w0 eg hC R=>Tryz.y8c 2 zMi zMj enc cf g cb hO blk off cap d0 w0 eg hC R) (Tryz.y84 (α:=Unit)) hz zMk zMl h0 h1 hr hown
def y21(z4A:List z2)(zhc:z2→z2→Option Int):Option (List z2):=
 (y4b (u64 ((z4A.length:Nat):Int))).bind fun zna=>(y42 z4A 0 ((z4A.length:Nat):Int) zna zhc).bind fun znb=>some znb
theorem y7k(Z:Zp)(zcR:Option Addr)(zcS:Nat)(zhd:FuncId)(znc:List Value)(z4A:List z2)(zhc:z2→z2→Option Int)(r:List z2)(h:y21 z4A zhc=some r)(w₀:World)(hz:PZ (fps [row (.slice zcR z4A.length zcS) 132 2 (z4A.flatMap yw)]) w₀ Z)(zMm:∀ args w,(callFunc zhd args).run Tryz.prog w = .ok (.enter zhd args) w)(zMn:∀ w:World,PZ [] w Z→∀(x0:z2) (x1:z2) (r:Int),zhc x0 x1=some r→Calls Tryz.prog zhd (([(.agg #[(.int .i64 x0.fN),(.int .i64 x0.fD)]),(.agg #[(.int .i64 x1.fN),(.int .i64 x1.fD)])]:List Value)++znc).toArray w fun e w'=>e = .returned (.int .i64 r)∧Hp [] w w' [])(hown:Hp (fps [row (.slice zcR z4A.length zcS) 132 2 (z4A.flatMap yw)]) w₀ w₀ [row (.slice zcR z4A.length zcS) 132 2 (z4A.flatMap yw)]):
  Calls Tryz.prog 171 #[(.slice zcR z4A.length zcS),(.func (.func zhd) #[] (znc).toArray)] w₀ fun e w'=>e = .returned (.tuple #[])∧(r.length=z4A.length)∧Hp (fps [row (.slice zcR z4A.length zcS) 132 2 (z4A.flatMap yw)]) w₀ w' [row (.slice zcR r.length zcS) 132 2 (r.flatMap yw)]:=by
 unfold y21 at h
 refine Calls.oh2 Tryz.func171 Tryz.ntmps171 hown ?_
 refine WC.b (WC.a (WL.pu rfl (WL.qA 6 (yH Tryz.underlying175 rfl) (WL.pu rfl (WL.nil (WX.a ?_))))))
 obtain⟨zna,zMo,h⟩:=z8 h
 obtain⟨znb,zMp,h⟩:=z8 h
 refine WC.a (WL.pu rfl (WL.pu rfl (WL.pu rfl (WL.qA 10 (y6G Tryz.underlying3 Tryz.underlying142 rfl rfl) (WL.cA 11 (zb Tryz.call48 (.cons rfl .nil)) .nil (cc hz .nil fun w pz ho=>y7V (Z:=_)  (z7m:=(u64 ((z4A.length:Nat):Int))) (r:=zna) w pz  zMo) (WL.pu rfl (WL.y53 (dd:=13) rfl rfl rfl (zb Tryz.call185 (.r5 rfl rfl rfl rfl rfl)) (.cons .here .nil) (cc hz (.cons .here .nil) fun w pz ho=>y7J (Z:=_) (zf1:=zcR) (zf2:=zcS) (zkp:=zhd) (ztk:=znc) (z5g:=z4A) (zkn:=0) (zko:=((z4A.length:Nat):Int)) (zhb:=zna) (zf0:=zhc) (r:=znb) w pz zMm zMn zMp ho) ?_)))))))
 rintro  zBE
 refine WL.repin (i:=0) rfl (u:=(.slice zcR znb.length zcS)) (y7b zBE.symm) (WL.nil ?_)
 obtain rfl:=oJ h
 refine WX.y52 Tryz.results171 .nil (fun w hw=>?_)
 exact⟨y7o,(zBE.trans rfl),hw.sub (.cons .here .nil)⟩
def y1b(zL:List z2)(zu:Int)(zaQ:(List z2)→Int→Option (List z2)):Nat→(List z2)→Int→Int→Option (List z2)
 | 0,_,_,_=>none
 | ztl+1,zR,z3j,k2_42006=>if decide (k2_42006<((zL.length-(zu:Int).toNat:Nat):Int)) then jp2 (fun(z7u:List z2) (zaR:Int)=>y1b zL zu zaQ ztl z7u zaR (i64 (k2_42006+1))) fun znd=>chk ((0:Int)≤k2_42006∧k2_42006<((zL.length-(zu:Int).toNat:Nat):Int)) (chk ((0:Int)≤(i64 (k2_42006-1))∧(i64 (k2_42006-1))<((zL.length-(zu:Int).toNat:Nat):Int)) (if decide ((⟨((nth zR (zu+k2_42006)).fN),((nth zR (zu+k2_42006)).fD)⟩:z2)≠(⟨((nth zR (zu+(i64 (k2_42006-1)))).fN),((nth zR (zu+(i64 (k2_42006-1)))).fD)⟩:z2)) then chk ((0:Int)≤k2_42006∧k2_42006<((zL.length-(zu:Int).toNat:Nat):Int)) (chk ((0:Int)≤z3j∧z3j<((zR.length:Nat):Int)) (znd (zR.set (z3j:Int).toNat (⟨((nth zR (zu+k2_42006)).fN),((nth zR (zu+k2_42006)).fD)⟩:z2)) (i64 (z3j+1)))) else znd zR z3j)) else zaQ zR z3j
theorem y69{n:Nat}{zL:List z2}{zu:Int}{zaQ:(List z2)→Int→Option (List z2)}{zR:List z2}{z3j:Int}{k2_42006:Int}{r:List z2}(h:y1b zL zu zaQ n zR z3j k2_42006=some r):∃ m,n=m+1:=by
 cases n with
 | zero=>cases h
 | succ m=>exact⟨m,rfl⟩
def y1c(zL:List z2)(zaS:Option (List z2)):Nat→Int→Option (List z2)
 | 0,_=>none
 | ztm+1,zu=>if decide (zu<((zL.length:Nat):Int)) then jp0 (y1c zL zaS ztm (i64 (zu+1))) fun ztn=>chk ((0:Int)≤zu∧zu<((zL.length:Nat):Int)) (chk ((0:Int)≤(i64 (zu-1))∧(i64 (zu-1))<((zL.length:Nat):Int)) (if decide ((⟨((nth zL zu).fN),((nth zL zu).fD)⟩:z2)=(⟨((nth zL (i64 (zu-1))).fN),((nth zL (i64 (zu-1))).fD)⟩:z2)) then chk ((0:Int)≤zu∧zu<((zL.length:Nat):Int)) (jp2 (fun(z3k:List z2) (z3l:Int)=>chk ((0:Int)≤z3l∧z3l≤((z3k.length:Nat):Int)) (chk ((0:Int)≤z3l∧z3l≤(((z3k.take (z3l:Int).toNat++List.replicate (z3k.length-(z3l:Int).toNat) ((⟨0,0⟩:z2):z2)).length:Nat):Int)) (some ((z3k.take (z3l:Int).toNat++List.replicate (z3k.length-(z3l:Int).toNat) ((⟨0,0⟩:z2):z2)).take (z3l:Int).toNat)))) fun zaQ=>y1b zL zu zaQ yy zL zu 1) else ztn)) else zaS
theorem y6a{n:Nat}{zL:List z2}{zaS:Option (List z2)}{zu:Int}{r:List z2}(h:y1c zL zaS n zu=some r):∃ m,n=m+1:=by
 cases n with
 | zero=>cases h
 | succ m=>exact⟨m,rfl⟩
def y28(zL:List z2):Option (List z2):=
 if decide (((zL.length:Nat):Int)<2) then some zL else jp0 (some zL) fun zaS=>y1c zL zaS yy 1
theorem y7u(Z:Zp)(z6S:Option Addr)(z2E:Nat)(zL:List z2)(r:List z2)(h:y28 zL=some r)(w₀:World)(hz:PZ (fps [row (.slice z6S zL.length z2E) 132 2 (zL.flatMap yw)]) w₀ Z)(hown:Hp (fps [row (.slice z6S zL.length z2E) 132 2 (zL.flatMap yw)]) w₀ w₀ [row (.slice z6S zL.length z2E) 132 2 (zL.flatMap yw)]):
  Calls Tryz.prog 172 #[(.slice z6S zL.length z2E)] w₀ fun e w'=>∃ zBF:Option Addr,∃ zBG:Nat,e = .returned (.slice zBF r.length zBG)∧True∧Hp (fps [row (.slice z6S zL.length z2E) 132 2 (zL.flatMap yw)]) w₀ w' [row (.slice zBF r.length zBG) 132 2 (r.flatMap yw)]:=by
 unfold y28 at h
 refine Calls.oh1 Tryz.func172 Tryz.ntmps172 hown ?_
 refine WC.b (WC.a (WL.pu rfl (WL.nil (WX.a (WC.b (WC.b (WC.a (WL.pu rfl (WL.qA 7 (yH Tryz.underlying175 rfl) (WL.pu rfl (WL.nil (WX.a (WC.cond rfl (fun zto=>?_) (fun zto=>?_))))))))))))))
 ·replace h:=yp h zto
  refine WC.b (WC.a (WL.pu rfl (WL.pu rfl (WL.nil (WX.a (WC.ret (WX.ye ?_)))))))
  obtain rfl:=oJ h
  refine WX.yf Tryz.results172 (.tmp rfl .nil) (fun w hw=>?_)
  exact⟨z6S,z2E,yD rfl,trivial,hw.sub (.cons .here .nil)⟩
 ·replace h:=yq h zto
  refine WC.skip (WX.a ?_)
  obtain⟨zaS,zMq,h⟩:=y1N h
  refine WC.y1j ((zaS=some r)) ([(0,(.slice z6S zL.length z2E))]) ([row (.slice z6S zL.length z2E) 132 2 (zL.flatMap yw)]) ?_ ?_
  ·skip
   refine WC.b (WC.a (WL.pu rfl (WL.nil (WX.a (WC.block (WC.y2E (fun(zhe:Nat) (zu:Int)=>(y1c zL zaS zhe zu=some r)) (fun zhe zu=>[(0,(.slice z6S zL.length z2E)),(3,(.int .i64 zu))]) (fun zhe zu=>[row (.slice z6S zL.length z2E) 132 2 (zL.flatMap yw)]) (fun zhe zu=>zhe) ⟨yy,1⟩ h (.r2 rfl rfl) (.cons .here .nil) ?_))))))
   rintro zhe zu h
   obtain⟨ztm,rfl⟩:=y6a h
   rw[y1c] at h
   refine WC.b (WC.b (WC.a (WL.pu rfl (WL.pu rfl (WL.qA 12 (yH Tryz.underlying175 rfl) (WL.pu rfl (WL.nil (WX.a (WC.cond rfl (fun ztp=>?_) (fun ztp=>?_))))))))))
   ·replace h:=yp h ztp
    refine WC.skip (WX.a ?_)
    obtain⟨ztn,zMr,h⟩:=y1N h
    refine WC.y1j ((ztn=some r)) ([(0,(.slice z6S zL.length z2E)),(3,(.int .i64 zu))]) ([row (.slice z6S zL.length z2E) 132 2 (zL.flatMap yw)]) ?_ ?_
    ·skip
     refine WC.block (WC.b ?_)
     obtain⟨zkq,h⟩:=yo h
     obtain⟨zne,h⟩:=yo h
     refine WC.yP (fun i=>[].contains i) [] rfl (WD.pA 0 16 rfl (fun _=>q_m rfl) (WD.pA 1 17 rfl (fun _=>q_m rfl) (WD.know (fun w hw=>Hp.y2M .here hw (by intro hz';have:=zkq;rw[hz'] at this;omega)) ?_)))
     rintro⟨z7v,rfl⟩
     refine WD.pA 2 18 rfl (fun _=>yX z2g rfl rfl zkq.1 zkq.2 y32) (WD.qA 3 19 rfl (yT (cs:=(yw (nth zL zu))) zf rfl rfl (y3P .here (y3D (enc:=yw) (l:=zL) (i:=zu) (sz:=2) (fun _=>rfl) zkq.1 zkq.2))) (WD.pA 4 20 rfl (fun _=>q_m rfl) (WD.pA 5 21 rfl (fun _=>q_m rfl) (WD.pA 6 22 rfl (fun _=>yc2 rfl rfl rfl) (WD.pA 7 23 rfl (fun _=>yX z2g rfl rfl zne.1 zne.2 y32) (WD.qA 8 24 rfl (yT (cs:=(yw (nth zL (i64 (zu-1))))) zf rfl rfl (y3P .here (y3D (enc:=yw) (l:=zL) (i:=i64 (zu-1)) (sz:=2) (fun _=>rfl) zne.1 zne.2))) (WD.pA 9 25 rfl (fun _=>y7p (enc:=yw) (a:=(⟨((nth zL zu).fN),((nth zL zu).fD)⟩:z2)) (b:=(⟨((nth zL (i64 (zu-1))).fN),((nth zL (i64 (zu-1))).fD)⟩:z2)) zxo rfl rfl) (WD.done (by kernel_rfl) (WX.a (WC.cond rfl (fun ztq=>?_) (fun ztq=>?_)))))))))))
     ·replace h:=yp h ztq
      refine WC.b ?_
      obtain⟨zf3,h⟩:=yo h
      refine WC.a (WL.pu rfl (WL.pu rfl (WL.yhk (dd:=28) rfl rfl z2g rfl rfl .here zf3 (WL.pu rfl (WL.nil (WX.a ?_))))))
      obtain⟨zaQ,zMs,h⟩:=y4s h
      refine WC.y4z (fun(z3k:List z2) (z3l:Int)=>(zaQ z3k z3l=some r)∧(z3k.length=zL.length)) (fun z3k z3l=>[(0,(.slice (some ⟨z7v,0,none⟩) z3k.length z2E)),(3,(.int .i64 z3l))]) (fun z3k z3l=>[row (.slice (some ⟨z7v,0,none⟩) z3k.length z2E) 132 2 (z3k.flatMap yw)]) ?_ ?_
      ·skip
       refine WC.b (WC.a (WL.pu rfl (WL.nil (WX.a (WC.block (WC.y5a (fun(zhf:Nat) (zR:List z2) (z3j:Int) (k2_42006:Int)=>(y1b zL zu zaQ zhf zR z3j k2_42006=some r)∧(zR.length=zL.length)) (fun zhf zR z3j k2_42006=>[(0,(.slice (some ⟨z7v,0,none⟩) zR.length z2E)),(3,(.int .i64 z3j)),(4,(.slice (some ⟨z7v,(zu:Int).toNat*2,none⟩) (zL.length-(zu:Int).toNat) (z2E-(zu:Int).toNat))),(5,(.int .i64 k2_42006))]) (fun zhf zR z3j k2_42006=>[row (.slice (some ⟨z7v,0,none⟩) zR.length z2E) 132 2 (zR.flatMap yw)]) (fun zhf zR z3j k2_42006=>zhf) ⟨yy,zL,zu,1⟩ ⟨h,rfl⟩ (.r4 rfl rfl rfl rfl) (.cons .here .nil) ?_))))))
       rintro zhf zR z3j k2_42006 ⟨h,zhg⟩
       obtain⟨ztl,rfl⟩:=y69 h
       rw[y1b] at h
       refine WC.b (WC.b (WC.a (WL.pu rfl (WL.pu rfl (WL.qA 31 (yH Tryz.underlying175 rfl) (WL.pu rfl (WL.nil (WX.a (WC.cond rfl (fun ztr=>?_) (fun ztr=>?_))))))))))
       ·replace h:=yp h ztr
        refine WC.skip (WX.a ?_)
        obtain⟨znd,zMt,h⟩:=y4s h
        refine WC.y4z (fun(z7u:List z2) (zaR:Int)=>(znd z7u zaR=some r)∧(z7u.length=zL.length)) (fun z7u zaR=>[(0,(.slice (some ⟨z7v,0,none⟩) z7u.length z2E)),(3,(.int .i64 zaR)),(4,(.slice (some ⟨z7v,(zu:Int).toNat*2,none⟩) (zL.length-(zu:Int).toNat) (z2E-(zu:Int).toNat))),(5,(.int .i64 k2_42006))]) (fun z7u zaR=>[row (.slice (some ⟨z7v,0,none⟩) z7u.length z2E) 132 2 (z7u.flatMap yw)]) ?_ ?_
        ·skip
         refine WC.block (WC.b ?_)
         obtain⟨znf,h⟩:=yo h
         obtain⟨zng,h⟩:=yo h
         refine WC.yP (fun i=>[].contains i) [] rfl (WD.pA 0 35 rfl (fun _=>q_m rfl) (WD.pA 1 36 rfl (fun _=>q_m rfl) ?_))
         have zBH:(0:Int)≤zu+k2_42006∧zu+k2_42006<((zR.length:Nat):Int):=by have h1:=zhg;have h2:=zf3;have h3:=znf;omega
         refine WD.pA 2 37 rfl (fun _=>yX z2g rfl rfl znf.1 znf.2 (ycO zf3.1 znf.1)) (WD.qA 3 38 rfl (yT (cs:=(yw (nth zR (zu+k2_42006)))) zf rfl rfl (y3P .here (y3D (enc:=yw) (l:=zR) (i:=zu+k2_42006) (sz:=2) (fun _=>rfl) zBH.1 zBH.2))) (WD.pA 4 39 rfl (fun _=>q_m rfl) (WD.pA 5 40 rfl (fun _=>q_m rfl) (WD.pA 6 41 rfl (fun _=>yc2 rfl rfl rfl) ?_))))
         have zBI:(0:Int)≤zu+(i64 (k2_42006-1))∧zu+(i64 (k2_42006-1))<((zR.length:Nat):Int):=by have h1:=zhg;have h2:=zf3;have h3:=zng;omega
         refine WD.pA 7 42 rfl (fun _=>yX z2g rfl rfl zng.1 zng.2 (ycO zf3.1 zng.1)) (WD.qA 8 43 rfl (yT (cs:=(yw (nth zR (zu+(i64 (k2_42006-1)))))) zf rfl rfl (y3P .here (y3D (enc:=yw) (l:=zR) (i:=zu+(i64 (k2_42006-1))) (sz:=2) (fun _=>rfl) zBI.1 zBI.2))) (WD.pA 9 44 rfl (fun _=>yaP (enc:=yw) (a:=(⟨((nth zR (zu+k2_42006)).fN),((nth zR (zu+k2_42006)).fD)⟩:z2)) (b:=(⟨((nth zR (zu+(i64 (k2_42006-1)))).fN),((nth zR (zu+(i64 (k2_42006-1)))).fD)⟩:z2)) zxo rfl rfl) (WD.done (by kernel_rfl) (WX.a (WC.cond rfl (fun zts=>?_) (fun zts=>?_))))))
         ·replace h:=yp h zts
          refine WC.b ?_
          obtain⟨znh,h⟩:=yo h
          obtain⟨zhh,h⟩:=yo h
          refine WC.a (WL.pu rfl (WL.pu rfl (WL.pu rfl (WL.pu rfl ?_))))
          have zBJ:(0:Int)≤zu+k2_42006∧zu+k2_42006<((zR.length:Nat):Int):=by have h1:=zhg;have h2:=zf3;have h3:=znh;omega
          refine WL.qA 49 (yX z2g rfl rfl znh.1 znh.2 (ycO zf3.1 znh.1)) (WL.qA 50 (yT (cs:=(yw (nth zR (zu+k2_42006)))) zf rfl rfl (y3P .here (y3D (enc:=yw) (l:=zR) (i:=zu+k2_42006) (sz:=2) (fun _=>rfl) zBJ.1 zBJ.2))) (WL.qA 51 (yX z2g rfl rfl zhh.1 zhh.2 y32) (WL.ym rfl rfl (y8Y (vs:=[(.int .i64 ((nth zR (zu+k2_42006)).fN)),(.int .i64 ((nth zR (zu+k2_42006)).fD))]) (ds:=(zR.set (z3j:Int).toNat (⟨((nth zR (zu+k2_42006)).fN),((nth zR (zu+k2_42006)).fD)⟩:z2)).flatMap yw) zz rfl rfl rfl rfl (ocB rfl) .here (flat_fit (enc:=yw) (sz:=2) (k:=0) (fun _=>rfl) zhh.1 zhh.2 (by decide)) (flat_put (enc:=yw) (l:=zR) (sz:=2) (vs:=[(.int .i64 ((nth zR (zu+k2_42006)).fN)),(.int .i64 ((nth zR (zu+k2_42006)).fD))]) (y:=(⟨((nth zR (zu+k2_42006)).fN),((nth zR (zu+k2_42006)).fD)⟩:z2)) (k:=0) (fun _=>rfl) zhh.1 zhh.2 rfl (Nat.le_of_ble_eq_true rfl))) (WL.relen .here (u:=(.slice (some ⟨z7v,0,none⟩) ((zR.set (z3j:Int).toNat (⟨((nth zR (zu+k2_42006)).fN),((nth zR (zu+k2_42006)).fD)⟩:z2)).length) z2E)) (y7b (List.length_set).symm) (WL.repin (i:=0) rfl (u:=(.slice (some ⟨z7v,0,none⟩) ((zR.set (z3j:Int).toNat (⟨((nth zR (zu+k2_42006)).fN),((nth zR (zu+k2_42006)).fD)⟩:z2)).length) z2E)) (y7b (List.length_set).symm) (WL.nil (WX.a (WC.a (WL.pu rfl (WL.pu rfl (WL.pu rfl (WL.nil (WX.yn ?_)))))))))))))
          exact WX.mid ⟨(zR.set (z3j:Int).toNat (⟨((nth zR (zu+k2_42006)).fN),((nth zR (zu+k2_42006)).fD)⟩:z2)),(i64 (z3j+1))⟩ ⟨h,((List.length_set).trans zhg)⟩ (.r4 rfl rfl rfl rfl) (.cons .here .nil)
         ·replace h:=yq h zts
          refine WC.skip (WX.yn ?_)
          exact WX.mid ⟨zR,z3j⟩ ⟨h,zhg⟩ (.r4 rfl rfl rfl rfl) (.cons .here .nil)
        ·rintro z7u zaR ⟨h,zMu⟩
         replace h:=(zMt z7u zaR).symm.trans h
         refine WC.a (WL.pu rfl (WL.pu rfl (WL.pu rfl (WL.nil ?_))))
         exact WX.round ⟨ztl,z7u,zaR,(i64 (k2_42006+1))⟩ ⟨h,zMu⟩ (Nat.lt_succ_self _) (.r4 rfl rfl rfl rfl) (.cons .here .nil)
       ·replace h:=yq h ztr
        refine WC.exit (WX.yg (WX.yg (WX.yz ?_)))
        exact WX.mid ⟨zR,z3j⟩ ⟨h,zhg⟩ (.r2 rfl rfl) (.cons .here .nil)
      ·rintro z3k z3l ⟨h,zXr⟩
       replace h:=(zMs z3k z3l).symm.trans h
       refine WC.b ?_
       obtain⟨zni,h⟩:=yo h
       refine WC.a (WL.pu rfl (WL.pu rfl (WL.yhh (dd:=56) rfl rfl z2g rfl rfl .here zni ?_)))
       intro zXs zXt zMv
       refine WL.ym rfl rfl (yf2 (enc:=yw) (z0:=((⟨0,0⟩:z2):z2)) (l:=z3k) z2g zT rfl zMv zni (fun _=>rfl) (by decide) rfl yc8 .here) (WL.relen .here (u:=(.slice (some ⟨z7v,0,none⟩) ((z3k.take (z3l:Int).toNat++List.replicate (z3k.length-(z3l:Int).toNat) ((⟨0,0⟩:z2):z2)).length) z2E)) (y7b (ybu zni).symm) (WL.repin (i:=0) rfl (u:=(.slice (some ⟨z7v,0,none⟩) ((z3k.take (z3l:Int).toNat++List.replicate (z3k.length-(z3l:Int).toNat) ((⟨0,0⟩:z2):z2)).length) z2E)) (y7b (ybu zni).symm) (WL.nil (WX.a (WC.b ?_)))))
       obtain⟨zMw,h⟩:=yo h
       refine WC.a (WL.pu rfl (WL.pu rfl (WL.yhg (dd:=59) (enc:=yw) (ls:=z3k.take (z3l:Int).toNat++List.replicate (z3k.length-(z3l:Int).toNat) ((⟨0,0⟩:z2):z2)) rfl rfl z2g rfl rfl .here (fun _=>rfl) zMw ?_)))
       intro zMx zMy
       refine WL.pu rfl (WL.nil (WX.a (WC.ret (WX.ys (WX.ye (WX.ye (WX.ys (WX.ye ?_))))))))
       obtain rfl:=oJ h
       refine WX.yf Tryz.results172 (.tmp rfl .nil) (fun w hw=>?_)
       exact⟨zMx,zMy,yD rfl,trivial,hw.sub (.cons .here .nil)⟩
     ·replace h:=yq h ztq
      refine WC.skip (WX.yn ?_)
      exact WX.mid () h (.r2 rfl rfl) (.cons .here .nil)
    ·rintro  h
     replace h:=zMr.symm.trans h
     refine WC.a (WL.pu rfl (WL.pu rfl (WL.pu rfl (WL.nil ?_))))
     exact WX.round ⟨ztm,(i64 (zu+1))⟩ h (Nat.lt_succ_self _) (.r2 rfl rfl) (.cons .here .nil)
   ·replace h:=yq h ztp
    refine WC.exit (WX.yg (WX.yg (WX.yz ?_)))
    exact WX.mid () h (.cons rfl .nil) (.cons .here .nil)
  ·rintro  h
   replace h:=zMq.symm.trans h
   refine WC.b (WC.a (WL.pu rfl (WL.pu rfl (WL.nil (WX.a (WC.ret ?_))))))
   obtain rfl:=oJ h
   refine WX.yf Tryz.results172 (.tmp rfl .nil) (fun w hw=>?_)
   exact⟨z6S,z2E,yD rfl,trivial,hw.sub (.cons .here .nil)⟩
def y1z(z26:z7×z7)(z5h:List z2)(zhi:Int):Option (Bool×(Nat×List z2×Int)):=
 (y1i z26.1.fBurst z26.2.fBurst).bind fun zBK=>if decide (zBK<0) then(y1U (⟨zhi⟩:z1C) (fun(y0:z2) (y1:z2)=>y2g y0 y1) z26.2.fBurst z26.1.fBurst).bind fun ztt=>(y1U ztt.2 (fun(y0:z2) (y1:z2)=>y2g y0 y1) z26.1.fRate z26.2.fRate).bind fun ztu=>(y1U ztu.2 (fun(y0:z2) (y1:z2)=>y3B y0 y1) ztt.1 ztu.1).bind fun z8u=>chk ((((z5h++([z8u.1]:List z2)).length:Nat):Int)*16≤140737488355328∧(((z5h++([z8u.1]:List z2)).length:Nat):Int)≤4611686018427387904) (some (true,(0,(z5h++([z8u.1]:List z2)),z8u.2.fE))) else some (true,(0,z5h,zhi))
def y1V(zcT:List z7):Option (List z2×Int):=
 (y4m zcT).bind fun ztv=>if !ztv then some (([]:List z2),2) else(y6O zcT).bind fun znj=>jp2 (fun(zaT:Int) (z90:List z2)=>if decide (zaT≠0) then some (([]:List z2),zaT) else(y21 z90 (fun(y0:z2) (y1:z2)=>y1i y0 y1)).bind fun ztw=>(y28 ztw).bind fun zBL=>some (zBL,0)) fun ztx=>(y6i znj znj).bind fun z1l=>(y4K (Nat×List z2×Int) (fun(x:z7×z7) (s:Nat×List z2×Int)=>chk (s.1=0) (y1z x s.2.1 s.2.2)) (0,([]:List z2),0) z1l.1 z1l.2).bind fun z4b=>ztx z4b.2.2 z4b.2.1
theorem y75(Z:Zp)(znk:Option Addr)(znl:Nat)(zcT:List z7)(r:List z2×Int)(h:y1V zcT=some r)(w₀:World)(hz:PZ [] w₀ Z)(zBM:ZS Z 4 (fun r x=>r=y1A x) znk znl zcT):
  Calls Tryz.prog 153 #[(.slice znk zcT.length znl)] w₀ fun e w'=>∃ zBN:Option Addr,∃ zBO:Nat,e = .returned (.tuple #[(.slice zBN r.1.length zBO),(.int .i64 r.2)])∧True∧Hp [] w₀ w' [row (.slice zBN r.1.length zBO) 132 2 (r.1.flatMap yw)]:=by
 unfold y1V at h
 refine Calls.ya1 (vs:=[(.slice znk zcT.length znl)]) (pre:=[]) (env:=[(0,(.slice znk zcT.length znl))]) Tryz.func153 rfl Tryz.ntmps153 rfl (Hp.nil w₀ _) rfl ?_
 refine WC.pool (WC.b (WC.a (WL.pu rfl (WL.pu rfl (WL.nil (WX.a (WC.b (WC.b ?_))))))))
 obtain⟨ztv,zMz,h⟩:=z8 h
 refine WC.a (WL.pu rfl (WL.cA 10 (zb Tryz.call146 (.cons rfl .nil)) .nil (ccz hz .nil .here fun w pz ho=>y7n _ _ _ _ _ zMz w pz (zBM.mono (Zle.left _ _))) (WL.pu rfl (WL.nil (WX.a (WC.cond rfl (fun zty=>?_) (fun zty=>?_)))))))
 ·replace h:=yp h zty
  refine WC.b (WC.a (WL.pu rfl (WL.pu rfl (WL.nil (WX.a (WC.ret (WX.ye (WX.nilRow 132 2 ?_))))))))
  obtain rfl:=oJ h
  refine WX.ybx Tryz.results153 (.tmp rfl (.tmp rfl .nil)) (fun w hw=>?_)
  exact⟨none,0,y24 rfl rfl,trivial,hw.sub (.cons .here .nil)⟩
 ·replace h:=yq h zty
  refine WC.skip (WX.a (WC.b (WC.a (WL.nA 4 (yv (cs:=[(.int .i64 0)]) zxm rfl) ?_))))
  intro z31 _
  refine WL.nil (WX.a (WC.b (WC.a (WL.nA 5 (yv (cs:=[(.slice none 0 0)]) zoG rfl) ?_))))
  intro z2R _
  refine WL.nil (WX.a (WC.b ?_))
  obtain⟨znj,zMA,h⟩:=z8 h
  refine WC.a (WL.pu rfl (WL.y4l (dd:=13) rfl rfl rfl (zb Tryz.call169 (.cons rfl .nil)) .nil (ccz hz .nil .h2 fun w pz ho=>yfj _ _ _ _ _ zMA w pz (zBM.mono (Zle.left _ _))) ?_))
  rintro zXu zXv _
  refine WL.pu rfl (WL.nil (WX.a ?_))
  obtain⟨ztx,zMB,h⟩:=y4s h
  refine WC.yfV (fun(zkr:Nat) (zaT:Int) (z90:List z2) (zks:Zp) (zhj:Option Addr) (zhk:Nat)=>(ztx zaT z90=some r)∧(Zle (Z++[]) (Z++zks))) (fun(zkr:Nat) (zaT:Int) (z90:List z2) (zks:Zp) (zhj:Option Addr) (zhk:Nat)=>[(4,(.pointer (some ⟨z31,0,none⟩))),(5,(.pointer (some ⟨z2R,0,none⟩)))]) (fun(zkr:Nat) (zaT:Int) (z90:List z2) (zks:Zp) (zhj:Option Addr) (zhk:Nat)=>[fz zks,stb z31 262 [(.int .i64 zaT)],stb z2R 175 [(.slice zhj z90.length zhk)],row (.slice zhj z90.length zhk) 132 2 (z90.flatMap yw),dfr zkr]) ?_ ?_
  ·skip
   refine WC.b (WC.freezeS (ls:=znj) .here .h2 hz (RR.flat (enc:=y1A) (fun _=>rfl) _) ?_)
   intro z60 zMC zBP
   obtain⟨z1l,zMD,h⟩:=z8 h
   refine WC.a (WL.pu rfl (WL.pu rfl (WL.yhd (dd:=16) rfl rfl rfl (zb Tryz.call170 (.r2 rfl rfl)) .nil (ccz hz .nil .here fun w pz ho=>yeR _ _ _ _ _ _ _ _ zMD w pz zBP zBP) ?_)))
   rintro z3m z3n z3x z3y z3z z3A ⟨zME,zMF⟩
   refine WL.nil (WX.a (WC.block (WC.pool (WC.drop (.s6 .here .h3 .h3 .here .here .here) (WC.nilRow 132 2 (WC.rangeFunc (f:=184) (caps:=[(.pointer (some ⟨z3m,0,none⟩)),(.pointer (some ⟨z3n,0,none⟩))]) rfl Tryz.call184 ?_))))))
   intro zXw zXx z3B z5F z4c znm zMG zMH w hw
   have hw1:=hw.selAll ((.s5 .h3 .h3 .h2 .h2 .here):Sel _ [fz [],stb z2R 175 [(.slice none (([]:List z2).length) 0)],row (.slice none (([]:List z2).length) 0) 132 2 (([]:List z2).flatMap yw),stb z31 262 [(.int .i64 0)],blk z3B (z4c .ready none)] _)
   have pz:=(hz.call2 hw1 ((.cons .here .nil):Sel [y2h [fz [],stb z2R 175 [(.slice none (([]:List z2).length) 0)],row (.slice none (([]:List z2).length) 0) 132 2 (([]:List z2).flatMap yw),stb z31 262 [(.int .i64 0)],blk z3B (z4c .ready none)],dfr z5F,stb z3m 173 [(.slice z3x z1l.1.length z3y)],stb z3n 173 [(.slice z3z z1l.2.length z3A)],fz z60] [y2h [fz [],stb z2R 175 [(.slice none (([]:List z2).length) 0)],row (.slice none (([]:List z2).length) 0) 132 2 (([]:List z2).flatMap yw),stb z31 262 [(.int .i64 0)],blk z3B (z4c .ready none)]] [dfr z5F,stb z3m 173 [(.slice z3x z1l.1.length z3y)],stb z3n 173 [(.slice z3z z1l.2.length z3A)],fz z60]) .h3).lend hw1 ((.cons .here .nil):Sel [y2h [fz [],stb z2R 175 [(.slice none (([]:List z2).length) 0)],row (.slice none (([]:List z2).length) 0) 132 2 (([]:List z2).flatMap yw),stb z31 262 [(.int .i64 0)],blk z3B (z4c .ready none)],dfr z5F,stb z3m 173 [(.slice z3x z1l.1.length z3y)],stb z3n 173 [(.slice z3z z1l.2.length z3A)],fz z60] [y2h [fz [],stb z2R 175 [(.slice none (([]:List z2).length) 0)],row (.slice none (([]:List z2).length) 0) 132 2 (([]:List z2).flatMap yw),stb z31 262 [(.int .i64 0)],blk z3B (z4c .ready none)]] [dfr z5F,stb z3m 173 [(.slice z3x z1l.1.length z3y)],stb z3n 173 [(.slice z3z z1l.2.length z3A)],fz z60]) (B:=[stb z3m 173 [(.slice z3x z1l.1.length z3y)],stb z3n 173 [(.slice z3z z1l.2.length z3A)]]) (fun _ hx'=>((.s2 .h1 .h1):Sel _ [stb z3m 173 [(.slice z3x z1l.1.length z3y)],stb z3n 173 [(.slice z3z z1l.2.length z3A)]] _).mem hx')
   obtain⟨z4b,zMI,h⟩:=z8 h
   refine Calls.mono (ydm (Z:=_) (zeP:=z3B) (z8t:=(Option Addr×Nat)) (z6m:=(fun(g:Option Addr×Nat) (s:Nat×List z2×Int)=>y2h ([fz [],stb z2R 175 [(.slice g.1 s.2.1.length g.2)],row (.slice g.1 s.2.1.length g.2) 132 2 (s.2.1.flatMap yw),stb z31 262 [(.int .i64 s.2.2)]]++[blk z3B (z4c (rdy (pcs [] s.1)) (pcs [] s.1))]))) (zaO:=(fun(g:Option Addr×Nat) (s:Nat×List z2×Int)=>True)) (zeQ:=(none,0)) (zt5:=⟨z3m,0,none⟩) (zeR:=z3x) (zeS:=z3y) (zeT:=⟨z3n,0,none⟩) (zn5:=z3z) (zn6:=z3A) (zP:=(Nat×List z2×Int)) (z5f:=(fun(x:z7×z7) (s:Nat×List z2×Int)=>chk (s.1=0) (y1z x s.2.1 s.2.2))) (s0_32953:=(0,([]:List z2),0)) (z1O:=z1l.1) (z2e:=z1l.2) (r:=z4b) w pz ?_ trivial (zME.mono (Zle.left _ _)) ((hw1.lent ((.cons .here .nil):Sel [y2h [fz [],stb z2R 175 [(.slice none (([]:List z2).length) 0)],row (.slice none (([]:List z2).length) 0) 132 2 (([]:List z2).flatMap yw),stb z31 262 [(.int .i64 0)],blk z3B (z4c .ready none)],dfr z5F,stb z3m 173 [(.slice z3x z1l.1.length z3y)],stb z3n 173 [(.slice z3z z1l.2.length z3A)],fz z60] [y2h [fz [],stb z2R 175 [(.slice none (([]:List z2).length) 0)],row (.slice none (([]:List z2).length) 0) 132 2 (([]:List z2).flatMap yw),stb z31 262 [(.int .i64 0)],blk z3B (z4c .ready none)]] [dfr z5F,stb z3m 173 [(.slice z3x z1l.1.length z3y)],stb z3n 173 [(.slice z3z z1l.2.length z3A)],fz z60]) (B:=[stb z3m 173 [(.slice z3x z1l.1.length z3y)],stb z3n 173 [(.slice z3z z1l.2.length z3A)]]) (fun _ hx'=>((.s2 .h1 .h1):Sel _ [stb z3m 173 [(.slice z3x z1l.1.length z3y)],stb z3n 173 [(.slice z3z z1l.2.length z3A)]] _).mem hx') (.head _) _).stb) (zMF.mono (Zle.left _ _)) ((hw1.lent ((.cons .here .nil):Sel [y2h [fz [],stb z2R 175 [(.slice none (([]:List z2).length) 0)],row (.slice none (([]:List z2).length) 0) 132 2 (([]:List z2).flatMap yw),stb z31 262 [(.int .i64 0)],blk z3B (z4c .ready none)],dfr z5F,stb z3m 173 [(.slice z3x z1l.1.length z3y)],stb z3n 173 [(.slice z3z z1l.2.length z3A)],fz z60] [y2h [fz [],stb z2R 175 [(.slice none (([]:List z2).length) 0)],row (.slice none (([]:List z2).length) 0) 132 2 (([]:List z2).flatMap yw),stb z31 262 [(.int .i64 0)],blk z3B (z4c .ready none)]] [dfr z5F,stb z3m 173 [(.slice z3x z1l.1.length z3y)],stb z3n 173 [(.slice z3z z1l.2.length z3A)],fz z60]) (B:=[stb z3m 173 [(.slice z3x z1l.1.length z3y)],stb z3n 173 [(.slice z3z z1l.2.length z3A)]]) (fun _ hx'=>((.s2 .h1 .h1):Sel _ [stb z3m 173 [(.slice z3x z1l.1.length z3y)],stb z3n 173 [(.slice z3z z1l.2.length z3A)]] _).mem hx') (.tail _ (.head _)) _).stb) zMI (hw1.owns ((.cons .here .nil):Sel [y2h [fz [],stb z2R 175 [(.slice none (([]:List z2).length) 0)],row (.slice none (([]:List z2).length) 0) 132 2 (([]:List z2).flatMap yw),stb z31 262 [(.int .i64 0)],blk z3B (z4c .ready none)],dfr z5F,stb z3m 173 [(.slice z3x z1l.1.length z3y)],stb z3n 173 [(.slice z3z z1l.2.length z3A)],fz z60] [y2h [fz [],stb z2R 175 [(.slice none (([]:List z2).length) 0)],row (.slice none (([]:List z2).length) 0) 132 2 (([]:List z2).flatMap yw),stb z31 262 [(.int .i64 0)],blk z3B (z4c .ready none)]] [dfr z5F,stb z3m 173 [(.slice z3x z1l.1.length z3y)],stb z3n 173 [(.slice z3z z1l.2.length z3A)],fz z60]))) ?_
   ·skip
    refine ybw (LI:=(fun(g:Option Addr×Nat) (s:Nat×List z2×Int)=>[fz [],stb z2R 175 [(.slice g.1 s.2.1.length g.2)],row (.slice g.1 s.2.1.length g.2) 132 2 (s.2.1.flatMap yw),stb z31 262 [(.int .i64 s.2.2)]])) (pc:=(fun(s:Nat×List z2×Int)=>pcs [] s.1)) znm zMG zMH (fun _ _=>rfl) (by decide) ?_
    rintro z26 _ ⟨zhl,zhm⟩ ⟨zMJ,z5h,zhi⟩ zMK zML Fb wb zBQ _ hz
    replace hz:=hz.left
    letI:Rnd:=inR z3B
    obtain⟨hp0,z4d⟩:=yo zBQ
    replace hp0:zMJ=0:=hp0;subst hp0;clear zBQ
    replace z4d:y1z z26 z5h zhi=some (zMK,zML):=z4d
    unfold y1z at z4d
    refine WC.restr (env':=[(11,(.bool (!ztv))),(4,(.pointer (some ⟨z31,0,none⟩))),(5,(.pointer (some ⟨z2R,0,none⟩))),(17,(.agg #[(.int .i64 z26.1.fBurst.fN),(.int .i64 z26.1.fBurst.fD),(.int .i64 z26.1.fRate.fN),(.int .i64 z26.1.fRate.fD)])),(18,(.agg #[(.int .i64 z26.2.fBurst.fN),(.int .i64 z26.2.fBurst.fD),(.int .i64 z26.2.fRate.fN),(.int .i64 z26.2.fRate.fD)]))]) (.r5 rfl rfl rfl rfl rfl) (WC.eqL (L':=[fz [],stb z2R 175 [(.slice zhl z5h.length zhm)],row (.slice zhl z5h.length zhm) 132 2 (z5h.flatMap yw),stb z31 262 [(.int .i64 zhi)],blk z3B (z4c .ready none)]) rfl (WC.b (WC.a (WL.nA 7 (yv (cs:=[(.int .i64 0),(.int .i64 0),(.int .i64 0),(.int .i64 0)]) z9R rfl) ?_))))
    intro zMM _
    refine WL.ym rfl rfl (yl z8G rfl rfl rfl .here rfl rfl rfl) (WL.nil (WX.a (WC.a (WL.nA 8 (yv (cs:=[(.int .i64 0),(.int .i64 0),(.int .i64 0),(.int .i64 0)]) z9R rfl) ?_))))
    intro zMN _
    refine WL.ym rfl rfl (yl z8G rfl rfl rfl .here rfl rfl rfl) (WL.nil (WX.ycN znm .h6 (WC.block (WC.b ?_))))
    obtain⟨zBK,zMO,z4d⟩:=z8 z4d
    refine WC.a (WL.qA 19 (ya y4O rfl rfl) (WL.qA 20 (yT (cs:=[(.int .i64 z26.1.fBurst.fN),(.int .i64 z26.1.fBurst.fD)]) zf rfl rfl (y31 (s:=2) .h2 rfl)) (WL.qA 21 (ya y4O rfl rfl) (WL.qA 22 (yT (cs:=[(.int .i64 z26.2.fBurst.fN),(.int .i64 z26.2.fBurst.fD)]) zf rfl rfl (y31 (s:=2) .h1 rfl)) (WL.cA 23 (zb Tryz.call79 (.r2 rfl rfl)) .nil (ccz hz .nil .h3 fun w pz ho=>y4n _ _ _ _ zMO w pz ) (WL.pu rfl (WL.nil (WX.a (WC.cond rfl (fun ztz=>?_) (fun ztz=>?_))))))))))
    ·replace z4d:=yp z4d ztz
     obtain⟨ztt,zMP,z4d⟩:=z8 z4d
     obtain⟨ztu,zMQ,z4d⟩:=z8 z4d
     obtain⟨z8u,zMR,z4d⟩:=z8 z4d
     obtain⟨zMS,z4d⟩:=yo z4d
     refine WC.yP (fun i=>[5,10,11,13,14].contains i) [y7q z2R 175 [(0,(.slice zhl z5h.length zhm))],y7q zMM 171 [(2,(.int .i64 z26.1.fRate.fN)),(3,(.int .i64 z26.1.fRate.fD))],y7q zMN 171 [(2,(.int .i64 z26.2.fRate.fN)),(3,(.int .i64 z26.2.fRate.fD))]] rfl (WD.sA 0 25 rfl (Sin.wk (.s3 .h4 .h2 .h1) (.stb (.cons rfl .nil) (.stb (.cons rfl (.cons rfl .nil)) (.stb (.cons rfl (.cons rfl .nil)) .nil)))) (yc z83 rfl (y5S .here (.head _))) (WD.pA 1 26 rfl (fun _=>ya y4O rfl rfl) (WD.qA 2 27 rfl (yT (cs:=[(.int .i64 z26.2.fBurst.fN),(.int .i64 z26.2.fBurst.fD)]) zf rfl rfl (y31 (s:=2) .h1 rfl)) (WD.pA 3 28 rfl (fun _=>ya y4O rfl rfl) (WD.qA 4 29 rfl (yT (cs:=[(.int .i64 z26.1.fBurst.fN),(.int .i64 z26.1.fBurst.fD)]) zf rfl rfl (y31 (s:=2) .h2 rfl)) (WD.pA 6 31 rfl (fun _=>ya y5K rfl rfl) (WD.sA 7 32 rfl (Sin.wk (.s3 .h4 .h2 .h1) (.stb (.cons rfl .nil) (.stb (.cons rfl (.cons rfl .nil)) (.stb (.cons rfl (.cons rfl .nil)) .nil)))) (yT (cs:=[(.int .i64 z26.1.fRate.fN),(.int .i64 z26.1.fRate.fD)]) zf rfl rfl (yaS .h1 ((.head _)) ((.tail _ (.head _))))) (WD.pA 8 33 rfl (fun _=>ya y5K rfl rfl) (WD.sA 9 34 rfl (Sin.wk (.s3 .h4 .h2 .h1) (.stb (.cons rfl .nil) (.stb (.cons rfl (.cons rfl .nil)) (.stb (.cons rfl (.cons rfl .nil)) .nil)))) (yT (cs:=[(.int .i64 z26.2.fRate.fN),(.int .i64 z26.2.fRate.fD)]) zf rfl rfl (yaS .h2 ((.head _)) ((.tail _ (.head _))))) (WD.call0 (i:=5) (dd:=30) rfl (by kernel_rfl) rfl rfl rfl (.inl ⟨rfl,(Sin.wk (.s3 .h5 .h3 .h2) (.stb (.cons rfl .nil) (.stb (.cons rfl (.cons rfl .nil)) (.stb (.cons rfl (.cons rfl .nil)) .nil))))⟩) (zb Tryz.call167 (.r4 rfl rfl rfl rfl)) (.cons .h6 .nil) (ccz hz (.cons .h6 .nil) .h3 fun w pz ho=>Calls.mono (y5D _ _ (z8Y:=74) (zcP:=[]) _ (zaP:=(fun(y0:z2) (y1:z2)=>y2g y0 y1)) _ _ _ zMP w pz Tryz.call74 (fun w' hz' y0 y1  r  hr=>y8G _ _ _ _ hr w' hz' ) ho) (fun _ _ h'=>⟨h'.1,trivial,h'.2⟩)) ?_))))))))))
     intro _
     refine WD.call0 (i:=10) (dd:=35) rfl (by kernel_rfl) rfl rfl rfl (.inl ⟨rfl,(Sin.wk (.s3 .h5 .h3 .h2) (.stb (.cons rfl .nil) (.stb (.cons rfl (.cons rfl .nil)) (.stb (.cons rfl (.cons rfl .nil)) .nil))))⟩) (zb Tryz.call167 (.r4 rfl rfl rfl rfl)) (.cons .here .nil) (ccz hz (.cons .here .nil) .h3 fun w pz ho=>Calls.mono (y5D _ _ (z8Y:=74) (zcP:=[]) _ (zaP:=(fun(y0:z2) (y1:z2)=>y2g y0 y1)) _ _ _ zMQ w pz Tryz.call74 (fun w' hz' y0 y1  r  hr=>y8G _ _ _ _ hr w' hz' ) ho) (fun _ _ h'=>⟨h'.1,trivial,h'.2⟩)) ?_
     intro _
     refine WD.call0 (i:=11) (dd:=36) rfl (by kernel_rfl) rfl rfl rfl (.inl ⟨rfl,(Sin.wk (.s3 .h5 .h3 .h2) (.stb (.cons rfl .nil) (.stb (.cons rfl (.cons rfl .nil)) (.stb (.cons rfl (.cons rfl .nil)) .nil))))⟩) (zb Tryz.call167 (.r4 rfl rfl rfl rfl)) (.cons .here .nil) (ccz hz (.cons .here .nil) .h3 fun w pz ho=>Calls.mono (y5D _ _ (z8Y:=75) (zcP:=[]) _ (zaP:=(fun(y0:z2) (y1:z2)=>y3B y0 y1)) _ _ _ zMR w pz Tryz.call75 (fun w' hz' y0 y1  r  hr=>yev _ _ _ _ hr w' hz' ) ho) (fun _ _ h'=>⟨h'.1,trivial,h'.2⟩)) ?_
     intro _
     refine WD.new (i:=12) (dd:=37) rfl (by kernel_rfl) rfl rfl rfl (yR (cs:=([z8u.1]:List z2).flatMap yw) z2g (Eos.parts (l:=[.tmp 36]) (.cons rfl .nil) [0]) (fun _=>by kernel_rfl) rfl (by unfold maxLen;omega)) (fun h'=>absurd h' (by decide)) ?_
     intro zXy _
     refine WD.old (i:=13) (dd:=38) rfl (by kernel_rfl) rfl rfl rfl rfl (fun _=>(Sin.wk (.s3 .h7 .h5 .h4) (.stb (.cons rfl .nil) (.stb (.cons rfl (.cons rfl .nil)) (.stb (.cons rfl (.cons rfl .nil)) .nil))))) (y54 (enc:=yw) (l1:=z5h) (l2:=([z8u.1]:List z2)) z2g rfl rfl .h7 (fun _=>rfl) rfl rfl (y4r .here) (y5o yc8 _) zMS) ?_
     rintro⟨ztA,ztB⟩ _
     refine WD.y37 (i:=14) rfl (by kernel_rfl) rfl rfl rfl (by kernel_rfl) (yl zoH rfl rfl rfl .h7 rfl rfl rfl) (WD.done (by kernel_rfl) (WX.yn ?_))
     obtain⟨rfl,rfl⟩:=yaf z4d
     exact WX.y6W znm .h4 (fun w' hw'=>⟨(ztA,ztB),rfl,trivial,(hw'.selAll ((.s5 .h7 .h1 .h1 .h2 .here):Sel _ [fz [],stb z2R 175 [(.slice ztA ((z5h++([z8u.1]:List z2)).length) ztB)],row (.slice ztA ((z5h++([z8u.1]:List z2)).length) ztB) 132 2 ((z5h++([z8u.1]:List z2)).flatMap yw),stb z31 262 [(.int .i64 z8u.2.fE)],blk z3B (z4c .ready none)] _)).sub (.cons .here .nil)⟩)
    ·replace z4d:=yq z4d ztz
     refine WC.skip (WX.yn ?_)
     obtain⟨rfl,rfl⟩:=yaf z4d
     exact WX.y6W znm .here (fun w' hw'=>⟨(zhl,zhm),rfl,trivial,(hw'.selAll ((.s5 .h3 .h3 .h3 .h3 .here):Sel _ [fz [],stb z2R 175 [(.slice zhl z5h.length zhm)],row (.slice zhl z5h.length zhm) 132 2 (z5h.flatMap yw),stb z31 262 [(.int .i64 zhi)],blk z3B (z4c .ready none)] _)).sub (.cons .here .nil)⟩)
   ·skip
    rintro _ w' ⟨⟨zkt,zku⟩,rfl,_,hp⟩
    have hp1:=hw1.call ((.cons .here .nil):Sel [y2h [fz [],stb z2R 175 [(.slice none (([]:List z2).length) 0)],row (.slice none (([]:List z2).length) 0) 132 2 (([]:List z2).flatMap yw),stb z31 262 [(.int .i64 0)],blk z3B (z4c .ready none)],dfr z5F,stb z3m 173 [(.slice z3x z1l.1.length z3y)],stb z3n 173 [(.slice z3z z1l.2.length z3A)],fz z60] [y2h [fz [],stb z2R 175 [(.slice none (([]:List z2).length) 0)],row (.slice none (([]:List z2).length) 0) 132 2 (([]:List z2).flatMap yw),stb z31 262 [(.int .i64 0)],blk z3B (z4c .ready none)]] [dfr z5F,stb z3m 173 [(.slice z3x z1l.1.length z3y)],stb z3n 173 [(.slice z3z z1l.2.length z3A)],fz z60]) hp
    have hp2:Hp _ _ w' [fz [],stb z2R 175 [(.slice zkt z4b.2.1.length zku)],row (.slice zkt z4b.2.1.length zku) 132 2 (z4b.2.1.flatMap yw),stb z31 262 [(.int .i64 z4b.2.2)],blk z3B (z4c (rdy (pcs [] z4b.1)) (pcs [] z4b.1)),dfr z5F,stb z3m 173 [(.slice z3x z1l.1.length z3y)],stb z3n 173 [(.slice z3z z1l.2.length z3A)],fz z60]:=hp1.pickAll .here
    refine⟨_,pcs [] z4b.1,_,rfl,(hp2.sub ((.s9 .h4 .here .here .here .here .here .here .here .here):Sel _ [blk z3B (z4c (rdy (pcs [] z4b.1)) (pcs [] z4b.1)),fz [],stb z2R 175 [(.slice zkt z4b.2.1.length zku)],row (.slice zkt z4b.2.1.length zku) 132 2 (z4b.2.1.flatMap yw),stb z31 262 [(.int .i64 z4b.2.2)],dfr z5F,stb z3m 173 [(.slice z3x z1l.1.length z3y)],stb z3n 173 [(.slice z3z z1l.2.length z3A)],fz z60] _)),?_⟩
    clear hp hp1 hp2 pz hw hw1
    refine wjN ?_
    letI:Rnd:=aft z5F
    refine WX.merge .here .h6 (WX.yn ?_)
    exact WX.midR (D:=fun(g:Nat×Int×List z2×Zp×Option Addr×Nat)=>g.1) (G:=Nat×Int×List z2×Zp×Option Addr×Nat) ⟨z5F,z4b.2.2,z4b.2.1,(z60++[]),zkt,zku⟩ ⟨h,(zMC.trans ((Zle.left _ _).trans (Zle.y1O _ _ _)))⟩ (.r2 rfl rfl) (.s5 .here .h2 .here .here .here)
  ·rintro zkr zaT z90 zks zhj zhk ⟨h,zXz⟩
   replace h:=(zMB zaT z90).symm.trans h
   letI:Rnd:=aft zkr
   refine WC.b (WC.b (WC.a (WL.qA 39 (ya y8j rfl rfl) (WL.qA 40 (yc y35 rfl (yk .h1 rfl)) (WL.pu rfl (WL.nil (WX.a (WC.cond rfl (fun ztC=>?_) (fun ztC=>?_)))))))))
   ·replace h:=yp h ztC
    refine WC.b (WC.yP (fun i=>[].contains i) [] rfl (WD.pA 0 42 rfl (fun _=>ya y8j rfl rfl) (WD.qA 1 43 rfl (yc y35 rfl (yk .h1 rfl)) (WD.pA 2 2 rfl (fun _=>q_z rfl) (WD.pA 3 3 rfl (fun _=>q_z rfl) (WD.done (by kernel_rfl) (WX.a (WC.ret (WX.ye (WX.nilRow 132 2 ?_))))))))))
    obtain rfl:=oJ h
    refine WX.y7C .h5 Tryz.results153 (.tmp rfl (.tmp rfl .nil)) (fun w hw=>?_)
    exact⟨none,0,y24 rfl rfl,trivial,hw.sub (.cons .h1 .nil)⟩
   ·replace h:=yq h ztC
    refine WC.skip (WX.a (WC.b ?_))
    obtain⟨ztw,zMT,h⟩:=z8 h
    refine WC.a (WL.qA 44 (yc z83 rfl (yk .h2 rfl)) (WL.y53 (dd:=45) rfl rfl rfl (zb Tryz.call171 (.r2 rfl rfl)) (.cons .h3 .nil) (ccz hz (.cons .h3 .nil) .here fun w pz ho=>y7k _ _ _ (zhd:=79) (znc:=[]) _ (zhc:=(fun(y0:z2) (y1:z2)=>y1i y0 y1)) _ zMT w pz Tryz.call79 (fun w' hz' y0 y1  r  hr=>y4n _ _ _ _ hr w' hz' ) ho) ?_))
    rintro  zMU
    refine WL.restb (cs':=[(.slice zhj ztw.length zhk)]) .h3 (by rw[zMU]) (WL.nil (WX.a (WC.b ?_)))
    obtain⟨zBL,zMV,h⟩:=z8 h
    refine WC.a (WL.qA 46 (yc z83 rfl (yk .here rfl)) (WL.y4l (dd:=47) rfl rfl rfl (zb Tryz.call172 (.cons rfl .nil)) (.cons .h1 .nil) (ccz hz (.cons .h1 .nil) .h1 fun w pz ho=>y7u _ _ _ _ _ zMV w pz  ho) ?_))
    rintro zMW zMX _
    refine WL.pu rfl (WL.pu rfl (WL.nil (WX.a (WC.ret ?_))))
    obtain rfl:=oJ h
    refine WX.y7C .h4 Tryz.results153 (.tmp rfl (.tmp rfl .nil)) (fun w hw=>?_)
    exact⟨zMW,zMX,y24 rfl rfl,trivial,hw.sub (.cons .h1 .nil)⟩
def y3n(z6T:z7)(z6U:z7):Option Int:=
 (y1i z6T.fRate z6U.fRate).bind fun zBR=>some zBR
theorem ydZ(Z:Zp)(z6T:z7)(z6U:z7)(r:Int)(h:y3n z6T z6U=some r)(w₀:World)(hz:PZ [] w₀ Z):
  Calls Tryz.prog 174 #[(.agg #[(.int .i64 z6T.fBurst.fN),(.int .i64 z6T.fBurst.fD),(.int .i64 z6T.fRate.fN),(.int .i64 z6T.fRate.fD)]),(.agg #[(.int .i64 z6U.fBurst.fN),(.int .i64 z6U.fBurst.fD),(.int .i64 z6U.fRate.fN),(.int .i64 z6U.fRate.fD)])] w₀ fun e w'=>e = .returned (.int .i64 r)∧Hp [] w₀ w' []:=by
 unfold y3n at h
 refine Calls.yK Tryz.func174 Tryz.ntmps174 ?_
 refine WC.b (WC.a (WL.nA 2 (yI (cs:=[(.int .i64 z6T.fBurst.fN),(.int .i64 z6T.fBurst.fD),(.int .i64 z6T.fRate.fN),(.int .i64 z6T.fRate.fD)]) rfl rfl) ?_))
 intro zXA _
 refine WL.nA 3 (yI (cs:=[(.int .i64 z6U.fBurst.fN),(.int .i64 z6U.fBurst.fD),(.int .i64 z6U.fRate.fN),(.int .i64 z6U.fRate.fD)]) rfl rfl) ?_
 intro zXB _
 refine WL.pu rfl (WL.nil (WX.a (WC.b ?_)))
 obtain⟨zBR,zMY,h⟩:=z8 h
 refine WC.a (WL.qA 5 (ya y5K rfl rfl) (WL.qA 6 (yT (cs:=[(.int .i64 z6T.fRate.fN),(.int .i64 z6T.fRate.fD)]) zf rfl rfl (y31 (s:=2) .h1 rfl)) (WL.qA 7 (ya y5K rfl rfl) (WL.qA 8 (yT (cs:=[(.int .i64 z6U.fRate.fN),(.int .i64 z6U.fRate.fD)]) zf rfl rfl (y31 (s:=2) .here rfl)) (WL.cA 9 (zb Tryz.call79 (.r2 rfl rfl)) .nil (cc hz .nil fun w pz ho=>y4n _ _ _ _ zMY w pz ) (WL.pu rfl (WL.nil (WX.a (WC.ret ?_)))))))))
 obtain rfl:=oJ h
 refine WX.yf Tryz.results174 (.tmp rfl .nil) (fun w hw=>?_)
 exact⟨yD rfl,hw.sub .nil⟩
def y11(z1v:List z7)(z8v:z7→z7→Option Int)(zaU:Int→Int→Int→Int→Option z7):Nat→Int→Int→Int→Int→Int→Option z7
 | 0,_,_,_,_,_=>none
 | ztD+1,z23,z61,z62,z63,z64=>if decide (z23<((z1v.length:Nat):Int)) then jp4 (fun(zaV:Int) (zaW:Int) (zaX:Int) (zaY:Int)=>y11 z1v z8v zaU ztD (i64 (z23+1)) zaV zaW zaX zaY) fun znn=>chk ((0:Int)≤z23∧z23<((z1v.length:Nat):Int)) ((z8v (⟨(⟨(((nth z1v z23).fBurst).fN),(((nth z1v z23).fBurst).fD)⟩:z2),(⟨(((nth z1v z23).fRate).fN),(((nth z1v z23).fRate).fD)⟩:z2)⟩:z7) (⟨(⟨z61,z62⟩:z2),(⟨z63,z64⟩:z2)⟩:z7)).bind fun ztE=>if decide (ztE<0) then chk ((0:Int)≤z23∧z23<((z1v.length:Nat):Int)) (znn (((nth z1v z23).fBurst).fN) (((nth z1v z23).fBurst).fD) (((nth z1v z23).fRate).fN) (((nth z1v z23).fRate).fD)) else znn z61 z62 z63 z64) else zaU z61 z62 z63 z64
theorem y5E{n:Nat}{z1v:List z7}{z8v:z7→z7→Option Int}{zaU:Int→Int→Int→Int→Option z7}{z23:Int}{z61:Int}{z62:Int}{z63:Int}{z64:Int}{r:z7}(h:y11 z1v z8v zaU n z23 z61 z62 z63 z64=some r):∃ m,n=m+1:=by
 cases n with
 | zero=>cases h
 | succ m=>exact⟨m,rfl⟩
def y1J(z1v:List z7)(z8v:z7→z7→Option Int):Option z7:=
 if decide (((z1v.length:Nat):Int)<1) then none else chk ((0:Int)≤0∧0<((z1v.length:Nat):Int)) (jp4 (fun(zcU:Int) (zcV:Int) (zcW:Int) (zcX:Int)=>some (⟨(⟨zcU,zcV⟩:z2),(⟨zcW,zcX⟩:z2)⟩:z7)) fun zaU=>y11 z1v z8v zaU yy 1 (((nth z1v 0).fBurst).fN) (((nth z1v 0).fBurst).fD) (((nth z1v 0).fRate).fN) (((nth z1v 0).fRate).fD))
theorem y6C(Z:Zp)(zno:Option Addr)(znp:Nat)(zcY:FuncId)(zhn:List Value)(z1v:List z7)(z8v:z7→z7→Option Int)(r:z7)(h:y1J z1v z8v=some r)(w₀:World)(hz:PZ [] w₀ Z)(ztF:ZS Z 4 (fun r x=>r=y1A x) zno znp z1v)(zMZ:∀ args w,(callFunc zcY args).run Tryz.prog w = .ok (.enter zcY args) w)(zN0:∀ w:World,PZ [] w Z→∀(x0:z7) (x1:z7) (r:Int),z8v x0 x1=some r→Calls Tryz.prog zcY (([(.agg #[(.int .i64 x0.fBurst.fN),(.int .i64 x0.fBurst.fD),(.int .i64 x0.fRate.fN),(.int .i64 x0.fRate.fD)]),(.agg #[(.int .i64 x1.fBurst.fN),(.int .i64 x1.fBurst.fD),(.int .i64 x1.fRate.fN),(.int .i64 x1.fRate.fD)])]:List Value)++zhn).toArray w fun e w'=>e = .returned (.int .i64 r)∧Hp [] w w' []):
  Calls Tryz.prog 173 #[(.slice zno z1v.length znp),(.func (.func zcY) #[] (zhn).toArray)] w₀ fun e w'=>e = .returned (.agg #[(.int .i64 r.fBurst.fN),(.int .i64 r.fBurst.fD),(.int .i64 r.fRate.fN),(.int .i64 r.fRate.fD)])∧Hp [] w₀ w' []:=by
 unfold y1J at h
 refine Calls.yK Tryz.func173 Tryz.ntmps173 ?_
 refine WC.b (WC.a (WL.nA 4 (yv (cs:=[(.int .i64 0),(.int .i64 0),(.int .i64 0),(.int .i64 0)]) z9R rfl) ?_))
 intro zho _
 refine WL.nil (WX.a (WC.b (WC.b (WC.a (WL.pu rfl (WL.qA 8 (yH Tryz.underlying173 rfl) (WL.pu rfl (WL.nil (WX.a (WC.cond rfl (fun ztG=>?_) (fun ztG=>?_)))))))))))
 ·replace h:=yp h ztG
  cases h
 ·replace h:=yq h ztG
  refine WC.skip (WX.a (WC.b ?_))
  obtain⟨zN1,h⟩:=yo h
  refine WC.a (WL.pu rfl (WL.znth (dd:=12) rfl rfl (Z:=Z) (Pr:=(fun r x=>r=y1A x)) z6G rfl rfl ztF zN1 ?_))
  rintro zXC zXD zN2 zXE rfl
  refine WL.qA 13 (yh z2K rfl (y2b hz.pv zN2) rfl) (WL.nA 5 (yv (cs:=[(.int .i64 0),(.int .i64 0),(.int .i64 0),(.int .i64 0)]) z9R rfl) ?_)
  intro zhp _
  refine WL.ym rfl rfl (yl z8G rfl rfl rfl .here rfl rfl rfl) (WL.nil (WX.a ?_))
  obtain⟨zaU,zN3,h⟩:=yf1 h
  refine WC.y7N (fun(zcU:Int) (zcV:Int) (zcW:Int) (zcX:Int)=>(zaU zcU zcV zcW zcX=some r)) (fun zcU zcV zcW zcX=>[(4,(.pointer (some ⟨zho,0,none⟩))),(5,(.pointer (some ⟨zhp,0,none⟩)))]) (fun zcU zcV zcW zcX=>[stb zho 171 [(.int .i64 0),(.int .i64 0),(.int .i64 0),(.int .i64 0)],stb zhp 171 [(.int .i64 zcU),(.int .i64 zcV),(.int .i64 zcW),(.int .i64 zcX)]]) ?_ ?_
  ·skip
   refine WC.b (WC.a (WL.pu rfl (WL.nil (WX.a (WC.block (WC.yaK (fun(zhq:Nat) (z23:Int) (z61:Int) (z62:Int) (z63:Int) (z64:Int)=>(y11 z1v z8v zaU zhq z23 z61 z62 z63 z64=some r)) (fun zhq z23 z61 z62 z63 z64=>[(0,(.slice zno z1v.length znp)),(1,(.func (.func zcY) #[] (zhn).toArray)),(4,(.pointer (some ⟨zho,0,none⟩))),(5,(.pointer (some ⟨zhp,0,none⟩))),(6,(.int .i64 z23))]) (fun zhq z23 z61 z62 z63 z64=>[stb zho 171 [(.int .i64 0),(.int .i64 0),(.int .i64 0),(.int .i64 0)],stb zhp 171 [(.int .i64 z61),(.int .i64 z62),(.int .i64 z63),(.int .i64 z64)]]) (fun zhq z23 z61 z62 z63 z64=>zhq) ⟨yy,1,(((nth z1v 0).fBurst).fN),(((nth z1v 0).fBurst).fD),(((nth z1v 0).fRate).fN),(((nth z1v 0).fRate).fD)⟩ h (.r5 rfl rfl rfl rfl rfl) (.s2 .h1 .here) ?_))))))
   rintro zhq z23 z61 z62 z63 z64 h
   obtain⟨ztD,rfl⟩:=y5E h
   rw[y11] at h
   refine WC.b (WC.b (WC.a (WL.pu rfl (WL.pu rfl (WL.qA 16 (yH Tryz.underlying173 rfl) (WL.pu rfl (WL.nil (WX.a (WC.cond rfl (fun ztH=>?_) (fun ztH=>?_))))))))))
   ·replace h:=yp h ztH
    refine WC.skip (WX.a ?_)
    obtain⟨znn,zN4,h⟩:=yf1 h
    refine WC.y7N (fun(zaV:Int) (zaW:Int) (zaX:Int) (zaY:Int)=>(znn zaV zaW zaX zaY=some r)) (fun zaV zaW zaX zaY=>[(0,(.slice zno z1v.length znp)),(1,(.func (.func zcY) #[] (zhn).toArray)),(4,(.pointer (some ⟨zho,0,none⟩))),(5,(.pointer (some ⟨zhp,0,none⟩))),(6,(.int .i64 z23))]) (fun zaV zaW zaX zaY=>[stb zho 171 [(.int .i64 0),(.int .i64 0),(.int .i64 0),(.int .i64 0)],stb zhp 171 [(.int .i64 zaV),(.int .i64 zaW),(.int .i64 zaX),(.int .i64 zaY)]]) ?_ ?_
    ·skip
     refine WC.block (WC.b ?_)
     obtain⟨zN5,h⟩:=yo h
     obtain⟨ztE,zN6,h⟩:=z8 h
     refine WC.yP (fun i=>[].contains i) [] rfl (WD.pA 0 20 rfl (fun _=>q_m rfl) (WD.pA 1 21 rfl (fun _=>q_m rfl) (WD.pA 2 22 rfl (fun _=>q_m rfl) (WD.znth (j:=3) (dd:=23) (by kernel_rfl) rfl z2V z2W rfl rfl (Z:=Z) (Pr:=(fun r x=>r=y1A x)) z6G rfl rfl ztF zN5 ?_))))
     rintro zXF zXG zN7 zXH rfl
     refine WD.qA 4 24 rfl (yh z2K rfl (y2b hz.pv zN7) rfl) (WD.qA 5 25 rfl (yh z2K rfl (yi .h1) rfl) (WD.eA 6 26 rfl (y2y (l:=[.tmp 24,.tmp 25]) (f:=zcY) (caps:=zhn) zMZ rfl (.r2 rfl rfl)) (fun w hw=>zN0 w (hz.now hw) (⟨(⟨(((nth z1v z23).fBurst).fN),(((nth z1v z23).fBurst).fD)⟩:z2),(⟨(((nth z1v z23).fRate).fN),(((nth z1v z23).fRate).fD)⟩:z2)⟩:z7) (⟨(⟨z61,z62⟩:z2),(⟨z63,z64⟩:z2)⟩:z7) ztE  zN6) (WD.pA 7 27 rfl (fun _=>q_lss rfl rfl) (WD.done (by kernel_rfl) (WX.a (WC.cond rfl (fun ztI=>?_) (fun ztI=>?_)))))))
     ·replace h:=yp h ztI
      obtain⟨zN8,h⟩:=yo h
      refine WC.a (WL.pu rfl (WL.pu rfl (WL.znth (dd:=30) rfl rfl (Z:=Z) (Pr:=(fun r x=>r=y1A x)) z6G rfl rfl ztF zN8 ?_)))
      rintro zXI zXJ zN9 zXK rfl
      refine WL.qA 31 (yh z2K rfl (y2b hz.pv zN9) rfl) (WL.ym rfl rfl (yl z8G rfl rfl rfl .h1 rfl rfl rfl) (WL.nil (WX.yn ?_)))
      exact WX.mid ⟨(((nth z1v z23).fBurst).fN),(((nth z1v z23).fBurst).fD),(((nth z1v z23).fRate).fN),(((nth z1v z23).fRate).fD)⟩ h (.r5 rfl rfl rfl rfl rfl) (.s2 .h1 .here)
     ·replace h:=yq h ztI
      refine WC.skip (WX.yn ?_)
      exact WX.mid ⟨z61,z62,z63,z64⟩ h (.r5 rfl rfl rfl rfl rfl) (.s2 .here .here)
    ·rintro zaV zaW zaX zaY h
     replace h:=(zN4 zaV zaW zaX zaY).symm.trans h
     refine WC.a (WL.pu rfl (WL.pu rfl (WL.pu rfl (WL.nil ?_))))
     exact WX.round ⟨ztD,(i64 (z23+1)),zaV,zaW,zaX,zaY⟩ h (Nat.lt_succ_self _) (.r5 rfl rfl rfl rfl rfl) (.s2 .here .here)
   ·replace h:=yq h ztH
    refine WC.exit (WX.yg (WX.yg (WX.yz ?_)))
    exact WX.mid ⟨z61,z62,z63,z64⟩ h (.r2 rfl rfl) (.s2 .here .here)
  ·rintro zcU zcV zcW zcX h
   replace h:=(zN3 zcU zcV zcW zcX).symm.trans h
   refine WC.b (WC.a (WL.qA 32 (yh z2K rfl (yi .h1) rfl) (WL.ym rfl rfl (yl z8G rfl rfl rfl .here rfl rfl rfl) (WL.nil (WX.a (WC.ret ?_))))))
   obtain rfl:=oJ h
   refine WX.yf Tryz.results173 (.agg rfl z2K rfl (yi .here) .nil) (fun w hw=>?_)
   exact⟨yD rfl,hw.sub .nil⟩
def y4E(zhr:List z7):Option (z2×Int):=
 (y4m zhr).bind fun zBS=>if !zBS then some ((⟨0,0⟩:z2),2) else(y1J zhr (fun(y0:z7) (y1:z7)=>y3n y0 y1)).bind fun znq=>some (znq.fRate,0)
theorem ybK(Z:Zp)(zBT:Option Addr)(zBU:Nat)(zhr:List z7)(r:z2×Int)(h:y4E zhr=some r)(w₀:World)(hz:PZ [] w₀ Z)(zBV:ZS Z 4 (fun r x=>r=y1A x) zBT zBU zhr):
  Calls Tryz.prog 154 #[(.slice zBT zhr.length zBU)] w₀ fun e w'=>e = .returned (.tuple #[(.agg #[(.int .i64 r.1.fN),(.int .i64 r.1.fD)]),(.int .i64 r.2)])∧Hp [] w₀ w' []:=by
 unfold y4E at h
 refine Calls.on1 Tryz.func154 Tryz.ntmps154 ?_
 refine WC.b (WC.a (WL.nA 2 (yv (cs:=[(.int .i64 0),(.int .i64 0)]) zT rfl) ?_))
 intro zXL _
 refine WL.pu rfl (WL.nil (WX.a (WC.b (WC.b ?_))))
 obtain⟨zBS,zNa,h⟩:=z8 h
 refine WC.a (WL.pu rfl (WL.cA 5 (zb Tryz.call146 (.cons rfl .nil)) .nil (cc hz .nil fun w pz ho=>y7n _ _ _ _ _ zNa w pz zBV) (WL.pu rfl (WL.nil (WX.a (WC.cond rfl (fun ztJ=>?_) (fun ztJ=>?_)))))))
 ·replace h:=yp h ztJ
  refine WC.b (WC.a (WL.qA 7 (yL (v:=(.agg #[(.int .i64 0),(.int .i64 0)])) (Eos.parts (l:=[]) .nil []) (fun _=>by kernel_rfl)) (WL.ym rfl rfl (yl zz rfl rfl rfl .here rfl rfl rfl) (WL.pu rfl (WL.nil (WX.a (WC.ret (WX.ye ?_))))))))
  obtain rfl:=oJ h
  refine WX.yf Tryz.results154 (.agg rfl zf rfl (yi .here) (.tmp rfl .nil)) (fun w hw=>?_)
  exact⟨y24 rfl rfl,hw.sub .nil⟩
 ·replace h:=yq h ztJ
  refine WC.skip (WX.a (WC.b ?_))
  obtain⟨znq,zNb,h⟩:=z8 h
  refine WC.a (WL.pu rfl (WL.cA 9 (zb Tryz.call173 (.r2 rfl rfl)) .nil (cc hz .nil fun w pz ho=>y6C _ _ _ (zcY:=174) (zhn:=[]) _ (z8v:=(fun(y0:z7) (y1:z7)=>y3n y0 y1)) _ zNb w pz zBV Tryz.call174 (fun w' hz' y0 y1  r  hr=>ydZ _ _ _ _ hr w' hz' )) (WL.qA 10 (q_fieldA (cs':=#[(.int .i64 znq.fRate.fN),(.int .i64 znq.fRate.fD)]) ygS zf rfl rfl) (WL.ym rfl rfl (yl zz rfl rfl rfl .here rfl rfl rfl) (WL.pu rfl (WL.nil (WX.a (WC.ret ?_))))))))
  obtain rfl:=oJ h
  refine WX.yf Tryz.results154 (.agg rfl zf rfl (yi .here) (.tmp rfl .nil)) (fun w hw=>?_)
  exact⟨y24 rfl rfl,hw.sub .nil⟩
def y13(zcZ:z1C)(z6V:z2→z2→Option (z2×Int))(zd0:z2)(zd1:z2):Option (z2×z1C):=
 if decide (zcZ.fE≠0) then(y2J).bind fun zBW=>some (zBW,zcZ) else(z6V zd0 zd1).bind fun zhs=>if decide (zhs.2≠0) then(y2J).bind fun zBX=>some (zBX,(⟨zhs.2⟩:z1C)) else some (zhs.1,(⟨zhs.2⟩:z1C))
theorem y2p(Z:Zp)(zht:Nat)(z6n:FuncId)(z7w:List Value)(zcZ:z1C)(z6V:z2→z2→Option (z2×Int))(zd0:z2)(zd1:z2)(r:z2×z1C)(h:y13 zcZ z6V zd0 zd1=some r)(w₀:World)(hz:PZ (fps [stb zht 225 [(.int .i64 zcZ.fE)]]) w₀ Z)(zNc:∀ args w,(callFunc z6n args).run Tryz.prog w = .ok (.enter z6n args) w)(zNd:∀ w:World,PZ [] w Z→∀(x0:z2) (x1:z2) (r:z2×Int),z6V x0 x1=some r→Calls Tryz.prog z6n (([(.agg #[(.int .i64 x0.fN),(.int .i64 x0.fD)]),(.agg #[(.int .i64 x1.fN),(.int .i64 x1.fD)])]:List Value)++z7w).toArray w fun e w'=>e = .returned (.tuple #[(.agg #[(.int .i64 r.1.fN),(.int .i64 r.1.fD)]),(.int .i64 r.2)])∧Hp [] w w' [])(hown:Hp (fps [stb zht 225 [(.int .i64 zcZ.fE)]]) w₀ w₀ [stb zht 225 [(.int .i64 zcZ.fE)]]):
  Calls Tryz.prog 73 #[(.pointer (some ⟨zht,0,none⟩)),(.func (.func z6n) #[] (z7w).toArray),(.agg #[(.int .i64 zd0.fN),(.int .i64 zd0.fD)]),(.agg #[(.int .i64 zd1.fN),(.int .i64 zd1.fD)])] w₀ fun e w'=>e = .returned (.agg #[(.int .i64 r.1.fN),(.int .i64 r.1.fD)])∧Hp (fps [stb zht 225 [(.int .i64 zcZ.fE)]]) w₀ w' [stb zht 225 [(.int .i64 r.2.fE)]]:=by
 unfold y13 at h
 refine Calls.oh4 Tryz.func73 Tryz.ntmps73 hown ?_
 refine WC.b (WC.a (WL.nA 6 (yI (cs:=[(.int .i64 zd0.fN),(.int .i64 zd0.fD)]) rfl rfl) ?_))
 intro zXM _
 refine WL.nA 7 (yI (cs:=[(.int .i64 zd1.fN),(.int .i64 zd1.fD)]) rfl rfl) ?_
 intro zXN _
 refine WL.nA 8 (yv (cs:=[(.int .i64 0),(.int .i64 0)]) zT rfl) ?_
 intro zXO _
 refine WL.nil (WX.a (WC.b (WC.b (WC.a (WL.pu rfl (WL.qA 12 (y14 rfl) (WL.qA 13 (ya y4P rfl rfl) (WL.qA 14 (yc y35 rfl (yk .h3 rfl)) (WL.pu rfl (WL.nil (WX.a (WC.cond rfl (fun ztK=>?_) (fun ztK=>?_)))))))))))))
 ·replace h:=yp h ztK
  refine WC.b ?_
  obtain⟨zBW,zNe,h⟩:=z8 h
  refine WC.a (WL.cA 16 (zb Tryz.call107 .nil) .nil (cc hz .nil fun w pz ho=>y4c _ _ zNe w pz ) (WL.ym rfl rfl (yl zz rfl rfl rfl .here rfl rfl rfl) (WL.nil (WX.a (WC.ret (WX.ye ?_))))))
  obtain rfl:=oJ h
  refine WX.yf Tryz.results73 (.agg rfl zf rfl (yi .here) .nil) (fun w hw=>?_)
  exact⟨yD rfl,hw.sub (.cons .h3 .nil)⟩
 ·replace h:=yq h ztK
  refine WC.skip (WX.a (WC.b ?_))
  obtain⟨zhs,zNf,h⟩:=z8 h
  refine WC.a (WL.pu rfl (WL.qA 19 (yh zf rfl (yi .h2) rfl) (WL.qA 20 (yh zf rfl (yi .h1) rfl) (WL.cA 21 (y2y (l:=[.tmp 19,.tmp 20]) (f:=z6n) (caps:=z7w) zNc rfl (.r2 rfl rfl)) .nil (fun w hw=>zNd w (hz.now hw) zd0 zd1 zhs  zNf) (WL.pu rfl (WL.pu rfl (WL.pu rfl (WL.nA 9 (yv (cs:=[(.int .i64 0),(.int .i64 0)]) zT rfl) ?_))))))))
  intro zXP _
  refine WL.ym rfl rfl (yl zz rfl rfl rfl .here rfl rfl rfl) (WL.pu rfl (WL.nil (WX.a (WC.b (WC.b (WC.a (WL.pu rfl (WL.pu rfl (WL.qA 26 (y14 rfl) (WL.qA 27 (ya y4P rfl rfl) (WL.ym rfl rfl (yl yan rfl rfl rfl .h4 rfl rfl rfl) (WL.nil (WX.a (WC.b (WC.a (WL.pu rfl (WL.pu rfl (WL.nil (WX.a (WC.cond rfl (fun ztL=>?_) (fun ztL=>?_)))))))))))))))))))))
  ·replace h:=yp h ztL
   refine WC.b ?_
   obtain⟨zBX,zNg,h⟩:=z8 h
   refine WC.a (WL.cA 30 (zb Tryz.call107 .nil) .nil (cc hz .nil fun w pz ho=>y4c _ _ zNg w pz ) (WL.ym rfl rfl (yl zz rfl rfl rfl .h2 rfl rfl rfl) (WL.nil (WX.a (WC.ret (WX.ye ?_))))))
   obtain rfl:=oJ h
   refine WX.yf Tryz.results73 (.agg rfl zf rfl (yi .here) .nil) (fun w hw=>?_)
   exact⟨yD rfl,hw.sub (.cons .h1 .nil)⟩
  ·replace h:=yq h ztL
   refine WC.skip (WX.a (WC.b (WC.a (WL.qA 31 (yh zf rfl (yi .h1) rfl) (WL.ym rfl rfl (yl zz rfl rfl rfl .h2 rfl rfl rfl) (WL.nil (WX.a (WC.ret ?_))))))))
   obtain rfl:=oJ h
   refine WX.yf Tryz.results73 (.agg rfl zf rfl (yi .here) .nil) (fun w hw=>?_)
   exact⟨yD rfl,hw.sub (.cons .h1 .nil)⟩
def y1X(z3C:List (List z7))(zaZ:Int→Int→Int→Option Int):Nat→Int→Int→Int→Int→Option Int
 | 0,_,_,_,_=>none
 | ztM+1,z5G,z7x,z7y,z7z=>if decide (z5G<((z3C.length:Nat):Int)) then chk ((0:Int)≤z5G∧z5G<((z3C.length:Nat):Int)) ((y1V (nth z3C z5G)).bind fun ztN=>if decide (ztN.2≠0) then some ztN.2 else(y4E (nth z3C z5G)).bind fun zBY=>(y13 (⟨z7x⟩:z1C) (fun(y0:z2) (y1:z2)=>y1e y0 y1) (⟨z7y,z7z⟩:z2) zBY.1).bind fun zf4=>y1X z3C zaZ ztM (i64 (z5G+1)) zf4.2.fE zf4.1.fN zf4.1.fD) else zaZ z7x z7y z7z
theorem y7K{n:Nat}{z3C:List (List z7)}{zaZ:Int→Int→Int→Option Int}{z5G:Int}{z7x:Int}{z7y:Int}{z7z:Int}{r:Int}(h:y1X z3C zaZ n z5G z7x z7y z7z=some r):∃ m,n=m+1:=by
 cases n with
 | zero=>cases h
 | succ m=>exact⟨m,rfl⟩
def y3q(z3C:List (List z7))(z2x:zSv)(znr:List (List z7))(zhu:zSv)(zf5:List z2):Option Int:=
 (if decide (((z3C.length:Nat):Int)>32) then some true else(y18 z3C (fun(y0:List z7)=>y1s y0)).bind fun zBZ=>some zBZ).bind fun ztO=>(if ztO then some true else(y4v z2x).bind fun zC0=>some (!zC0)).bind fun ztP=>if ztP then some 2 else(y2J).bind fun zkv=>jp3 (fun(zb0:Int) (zd2:Int) (zd3:Int)=>(if decide (zb0=0) then(y1i (⟨zd2,zd3⟩:z2) z2x.fRate).bind fun zC1=>some (decide (zC1>0)) else some false).bind fun ztQ=>if ztQ then some 6 else some zb0) fun zaZ=>y1X z3C zaZ yy 0 0 zkv.fN zkv.fD
theorem y9L(Z:Zp)(zhv:Option Addr)(zhw:Nat)(zkw:Addr)(zC2:Option Addr)(zC3:Nat)(zkx:Addr)(zky:Option Addr)(zkz:Nat)(z3C:List (List z7))(z2x:zSv)(znr:List (List z7))(zhu:zSv)(zf5:List z2)(r:Int)(h:y3q z3C z2x znr zhu zf5=some r)(w₀:World)(hz:PZ [] w₀ Z)(zC4:ZS Z 1 (y1W Z) zhv zhw z3C)(zXQ:ZS Z 1 (y1W Z) zC2 zC3 znr)(zXR:ZC Z zkw [(.slice zC2 znr.length zC3)])(zXS:ZC Z zkx [(.int .i64 zhu.fRate.fN),(.int .i64 zhu.fRate.fD),(.int .i64 zhu.fL.fN),(.int .i64 zhu.fL.fD)])(zXT:ZS Z 2 (fun r x=>r=yw x) zky zkz zf5):
  Calls Tryz.prog 109 #[(.agg #[(.slice zhv z3C.length zhw),(.int .i64 z2x.fRate.fN),(.int .i64 z2x.fRate.fD),(.int .i64 z2x.fL.fN),(.int .i64 z2x.fL.fD),(.func (.func 72) #[] #[(.pointer (some zkw)),(.pointer (some zkx))]),(.slice zky zf5.length zkz)])] w₀ fun e w'=>e = .returned (.int .i64 r)∧Hp [] w₀ w' []:=by
 unfold y3q at h
 refine Calls.on1 Tryz.func109 Tryz.ntmps109 ?_
 refine WC.b (WC.a (WL.nA 1 (yI (cs:=[(.slice zhv z3C.length zhw),(.int .i64 z2x.fRate.fN),(.int .i64 z2x.fRate.fD),(.int .i64 z2x.fL.fN),(.int .i64 z2x.fL.fD),(.func (.func 72) #[] #[(.pointer (some zkw)),(.pointer (some zkx))]),(.slice zky zf5.length zkz)]) rfl rfl) ?_))
 intro zns _
 refine WL.pu rfl (WL.nil (WX.a (WC.b (WC.b ?_))))
 obtain⟨ztO,zC5,h⟩:=z8 h
 obtain⟨ztP,zC6,h⟩:=z8 h
 refine WC.a (WL.qA 11 (ya y6M rfl rfl) (WL.qA 12 (yc z7h rfl (yk .here rfl)) (WL.qA 13 (yH Tryz.underlying128 rfl) (WL.pu rfl (WL.pu rfl (WL.seg false 3 15 (B:=ztO) rfl rfl rfl rfl rfl rfl (fun h=>(oJ (yp zC5 h)).symm) (fun _ zNh=>?_) ?_))))))
 ·skip
  have zkA:=yq zC5 zNh
  obtain⟨zBZ,zNi,zkA⟩:=z8 zkA
  replace zkA:=oJ zkA
  refine WL.qA 16 (ya y6M rfl rfl) (WL.qA 17 (yc z7h rfl (yk .here rfl)) (WL.cA 18 (zb Tryz.call150 (.r2 rfl rfl)) .nil (cc hz .nil fun w pz ho=>y46 _ _ _ (zeH:=151) (zk6:=[]) _ (zeG:=(fun(y0:List z7)=>y1s y0)) _ zNi w pz zC4 Tryz.call151 (fun w' hz' y0 ga0 gc0 r gh0 hr=>y6z _ _ _ _ _ hr w' hz' gh0)) (WL.pu rfl ?_)))
  exact WL.yB zkA rfl rfl .all
 refine WL.pu rfl (WL.seg false 4 20 (B:=ztP) rfl rfl rfl rfl rfl rfl (fun h=>(oJ (yp zC6 h)).symm) (fun _ zNj=>?_) ?_)
 ·skip
  have zkB:=yq zC6 zNj
  obtain⟨zC0,zNk,zkB⟩:=z8 zkB
  replace zkB:=oJ zkB
  refine WL.qA 21 (ya yaU rfl rfl) (WL.qA 22 (yT (cs:=[(.int .i64 z2x.fRate.fN),(.int .i64 z2x.fRate.fD),(.int .i64 z2x.fL.fN),(.int .i64 z2x.fL.fD)]) zfL rfl rfl (y31 (s:=4) .here rfl)) (WL.cA 23 (zb Tryz.call152 (.cons rfl .nil)) .nil (cc hz .nil fun w pz ho=>y9s _ _ _ zNk w pz ) (WL.pu rfl (WL.pu rfl ?_))))
  exact WL.yB zkB rfl rfl .all
 refine WL.nil (WX.a (WC.cond rfl (fun ztR=>?_) (fun ztR=>?_)))
 ·replace h:=yp h ztR
  refine WC.b (WC.a (WL.pu rfl (WL.nil (WX.a (WC.ret (WX.ye ?_))))))
  obtain rfl:=oJ h
  refine WX.yf Tryz.results109 (.tmp rfl .nil) (fun w hw=>?_)
  exact⟨yD rfl,hw.sub .nil⟩
 ·replace h:=yq h ztR
  refine WC.skip (WX.a (WC.b (WC.a (WL.nA 3 (yv (cs:=[(.int .i64 0)]) zlY rfl) ?_))))
  intro znt _
  refine WL.nil (WX.a (WC.b ?_))
  obtain⟨zkv,zNl,h⟩:=z8 h
  refine WC.a (WL.cA 26 (zb Tryz.call107 .nil) .nil (cc hz .nil fun w pz ho=>y4c _ _ zNl w pz ) (WL.nA 4 (yv (cs:=[(.int .i64 0),(.int .i64 0)]) zT rfl) ?_))
  intro znu _
  refine WL.ym rfl rfl (yl zz rfl rfl rfl .here rfl rfl rfl) (WL.nil (WX.a ?_))
  obtain⟨zaZ,zNm,h⟩:=yaO h
  refine WC.y2R (fun(zb0:Int) (zd2:Int) (zd3:Int)=>(zaZ zb0 zd2 zd3=some r)) (fun zb0 zd2 zd3=>[(1,(.pointer (some ⟨zns,0,none⟩))),(3,(.pointer (some ⟨znt,0,none⟩))),(4,(.pointer (some ⟨znu,0,none⟩)))]) (fun zb0 zd2 zd3=>[stb zns 177 [(.slice zhv z3C.length zhw),(.int .i64 z2x.fRate.fN),(.int .i64 z2x.fRate.fD),(.int .i64 z2x.fL.fN),(.int .i64 z2x.fL.fD),(.func (.func 72) #[] #[(.pointer (some zkw)),(.pointer (some zkx))]),(.slice zky zf5.length zkz)],stb znt 225 [(.int .i64 zb0)],stb znu 132 [(.int .i64 zd2),(.int .i64 zd3)]]) ?_ ?_
  ·skip
   refine WC.b (WC.a (WL.qA 27 (ya y6M rfl rfl) (WL.qA 28 (yc z7h rfl (yk .h2 rfl)) (WL.qA 29 (yH Tryz.underlying128 rfl) (WL.pu rfl (WL.nil (WX.a (WC.block (WC.y6I (fun(zhx:Nat) (z5G:Int) (z7x:Int) (z7y:Int) (z7z:Int)=>(y1X z3C zaZ zhx z5G z7x z7y z7z=some r)) (fun zhx z5G z7x z7y z7z=>[(1,(.pointer (some ⟨zns,0,none⟩))),(3,(.pointer (some ⟨znt,0,none⟩))),(4,(.pointer (some ⟨znu,0,none⟩))),(28,(.slice zhv z3C.length zhw)),(29,(.int .i64 ((z3C.length:Nat):Int))),(30,(.int .i64 z5G))]) (fun zhx z5G z7x z7y z7z=>[stb zns 177 [(.slice zhv z3C.length zhw),(.int .i64 z2x.fRate.fN),(.int .i64 z2x.fRate.fD),(.int .i64 z2x.fL.fN),(.int .i64 z2x.fL.fD),(.func (.func 72) #[] #[(.pointer (some zkw)),(.pointer (some zkx))]),(.slice zky zf5.length zkz)],stb znt 225 [(.int .i64 z7x)],stb znu 132 [(.int .i64 z7y),(.int .i64 z7z)]]) (fun zhx z5G z7x z7y z7z=>zhx) ⟨yy,0,0,zkv.fN,zkv.fD⟩ h (.r6 rfl rfl rfl rfl rfl rfl) (.s3 .h2 .h1 .here) ?_)))))))))
   rintro zhx z5G z7x z7y z7z h
   obtain⟨ztM,rfl⟩:=y7K h
   rw[y1X] at h
   refine WC.b (WC.a (WL.pu rfl (WL.nil (WX.a (WC.b (WC.cond rfl (fun ztS=>?_) (fun ztS=>?_)))))))
   ·replace h:=yp h ztS
    refine WC.skip (WX.a (WC.b (WC.block (WC.b ?_))))
    obtain⟨zNn,h⟩:=yo h
    refine WC.a (WL.znth (dd:=32) rfl rfl (Z:=Z) (Pr:=(y1W Z)) z82 rfl rfl zC4 zNn ?_)
    rintro zXU zXV zNo zXW ⟨zXX,zXY,rfl,zC7⟩
    refine WL.qA 33 (yc zbO rfl (y5I hz.pv zNo rfl)) (WL.pu rfl (WL.nil (WX.a (WC.b (WC.b ?_)))))
    obtain⟨ztN,zNp,h⟩:=z8 h
    refine WC.a (WL.pu rfl (WL.y4l (dd:=36) rfl rfl rfl (zb Tryz.call153 (.cons rfl .nil)) .nil (cc hz .nil fun w pz ho=>y75 _ _ _ _ _ zNp w pz zC7) ?_))
    rintro zXZ zY0 _
    refine WL.pu rfl (WL.pu rfl (WL.pu rfl (WL.pu rfl (WL.pu rfl (WL.nil (WX.a (WC.b (WC.a (WL.pu rfl (WL.pu rfl (WL.nil (WX.a (WC.cond rfl (fun ztT=>?_) (fun ztT=>?_))))))))))))))
    ·replace h:=yp h ztT
     refine WC.b (WC.a (WL.pu rfl (WL.pu rfl (WL.nil (WX.a (WC.ret (WX.ye (WX.ys (WX.ye (WX.ye (WX.ys (WX.ye ?_))))))))))))
     obtain rfl:=oJ h
     refine WX.yf Tryz.results109 (.tmp rfl .nil) (fun w hw=>?_)
     exact⟨yD rfl,hw.sub .nil⟩
    ·replace h:=yq h ztT
     refine WC.skip (WX.a (WC.b ?_))
     obtain⟨zBY,zNq,h⟩:=z8 h
     refine WC.a (WL.pu rfl (WL.cA 44 (zb Tryz.call154 (.cons rfl .nil)) .nil (cc hz .nil fun w pz ho=>ybK _ _ _ _ _ zNq w pz zC7) (WL.pu rfl (WL.pu rfl (WL.pu rfl (WL.nA 9 (yv (cs:=[(.int .i64 0),(.int .i64 0)]) zT rfl) ?_))))))
     intro zY1 _
     refine WL.ym rfl rfl (yl zz rfl rfl rfl .here rfl rfl rfl) (WL.pu rfl (WL.nil (WX.a ?_)))
     obtain⟨zf4,zNr,h⟩:=z8 h
     refine WC.a (WL.qA 47 (yh zf rfl (yi .h4) rfl) (WL.qA 48 (yh zf rfl (yi .here) rfl) (WL.cA 49 (zb Tryz.call73 (.r4 rfl rfl rfl rfl)) (.cons .h3 .nil) (cc hz (.cons .h3 .nil) fun w pz ho=>y2p _ _ (z6n:=69) (z7w:=[]) _ (z6V:=(fun(y0:z2) (y1:z2)=>y1e y0 y1)) _ _ _ zNr w pz Tryz.call69 (fun w' hz' y0 y1  r  hr=>y65 _ _ _ _ hr w' hz' ) ho) (WL.ym rfl rfl (yl zz rfl rfl rfl .h4 rfl rfl rfl) (WL.nil (WX.yn (WX.a (WC.a (WL.pu rfl (WL.pu rfl (WL.nil ?_)))))))))))
     exact WX.round ⟨ztM,(i64 (z5G+1)),zf4.2.fE,zf4.1.fN,zf4.1.fD⟩ h (Nat.lt_succ_self _) (.r6 rfl rfl rfl rfl rfl rfl) (.s3 .h4 .h1 .here)
   ·replace h:=yq h ztS
    refine WC.exit (WX.yg (WX.yg (WX.yz ?_)))
    exact WX.mid ⟨z7x,z7y,z7z⟩ h (.r3 rfl rfl rfl) (.s3 .here .here .here)
  ·rintro zb0 zd2 zd3 h
   replace h:=(zNm zb0 zd2 zd3).symm.trans h
   refine WC.b (WC.b ?_)
   obtain⟨ztQ,zC8,h⟩:=z8 h
   refine WC.a (WL.qA 51 (ya y4P rfl rfl) (WL.qA 52 (yc y35 rfl (yk .h1 rfl)) (WL.pu rfl (WL.pu rfl (WL.seg true 6 54 (B:=ztQ) rfl rfl rfl rfl rfl rfl (fun h=>(oJ (yq zC8 h)).symm) (fun _ zNs=>?_) ?_)))))
   ·skip
    have zkC:=yp zC8 zNs
    obtain⟨zC1,zNt,zkC⟩:=z8 zkC
    replace zkC:=oJ zkC
    refine WL.qA 55 (yh zf rfl (yi .h2) rfl) (WL.qA 56 (ya yaU rfl rfl) (WL.qA 57 (ya y8h rfl rfl) (WL.qA 58 (yT (cs:=[(.int .i64 z2x.fRate.fN),(.int .i64 z2x.fRate.fD)]) zf rfl rfl (y31 (s:=2) .here rfl)) (WL.cA 59 (zb Tryz.call79 (.r2 rfl rfl)) .nil (cc hz .nil fun w pz ho=>y4n _ _ _ _ zNt w pz ) (WL.pu rfl (WL.pu rfl ?_))))))
    exact WL.yB zkC rfl rfl .all
   refine WL.nil (WX.a (WC.cond rfl (fun ztU=>?_) (fun ztU=>?_)))
   ·replace h:=yp h ztU
    refine WC.b (WC.a (WL.pu rfl (WL.nil (WX.a (WC.ret (WX.ye ?_))))))
    obtain rfl:=oJ h
    refine WX.yf Tryz.results109 (.tmp rfl .nil) (fun w hw=>?_)
    exact⟨yD rfl,hw.sub .nil⟩
   ·replace h:=yq h ztU
    refine WC.skip (WX.a (WC.b (WC.a (WL.qA 62 (ya y4P rfl rfl) (WL.qA 63 (yc y35 rfl (yk .h1 rfl)) (WL.pu rfl (WL.nil (WX.a (WC.ret ?_)))))))))
    obtain rfl:=oJ h
    refine WX.yf Tryz.results109 (.tmp rfl .nil) (fun w hw=>?_)
    exact⟨yD rfl,hw.sub .nil⟩
def y4e(zhy:List (List z7))(z6o:zSv)(znv:List (List z7))(zhz:zSv)(zhA:List z2):Option (Int×Int×Int×Int):=
 some (z6o.fRate.fN,z6o.fRate.fD,z6o.fL.fN,z6o.fL.fD)
theorem y9t(Z:Zp)(znw:Option Addr)(znx:Nat)(zny:Addr)(zC9:Option Addr)(zCa:Nat)(znz:Addr)(znA:Option Addr)(znB:Nat)(zhy:List (List z7))(z6o:zSv)(znv:List (List z7))(zhz:zSv)(zhA:List z2)(r:Int×Int×Int×Int)(h:y4e zhy z6o znv zhz zhA=some r)(w₀:World)(hz:PZ [] w₀ Z)(zY2:ZS Z 1 (y1W Z) znw znx zhy)(zY3:ZS Z 1 (y1W Z) zC9 zCa znv)(zY4:ZC Z zny [(.slice zC9 znv.length zCa)])(zY5:ZC Z znz [(.int .i64 zhz.fRate.fN),(.int .i64 zhz.fRate.fD),(.int .i64 zhz.fL.fN),(.int .i64 zhz.fL.fD)])(zY6:ZS Z 2 (fun r x=>r=yw x) znA znB zhA):
  Calls Tryz.prog 110 #[(.agg #[(.slice znw zhy.length znx),(.int .i64 z6o.fRate.fN),(.int .i64 z6o.fRate.fD),(.int .i64 z6o.fL.fN),(.int .i64 z6o.fL.fD),(.func (.func 72) #[] #[(.pointer (some zny)),(.pointer (some znz))]),(.slice znA zhA.length znB)])] w₀ fun e w'=>∃ zCb:Nat,e = .returned (.func (.func 155) #[] #[(.pointer (some ⟨zCb,0,none⟩))])∧True∧Hp [] w₀ w' [stb zCb 177 [(.slice znw zhy.length znx),(.int .i64 r.1),(.int .i64 r.2.1),(.int .i64 r.2.2.1),(.int .i64 r.2.2.2),(.func (.func 72) #[] #[(.pointer (some zny)),(.pointer (some znz))]),(.slice znA zhA.length znB)]]:=by
 unfold y4e at h
 refine Calls.on1 Tryz.func110 Tryz.ntmps110 ?_
 refine WC.b (WC.a (WL.nA 1 (yI (cs:=[(.slice znw zhy.length znx),(.int .i64 z6o.fRate.fN),(.int .i64 z6o.fRate.fD),(.int .i64 z6o.fL.fN),(.int .i64 z6o.fL.fD),(.func (.func 72) #[] #[(.pointer (some zny)),(.pointer (some znz))]),(.slice znA zhA.length znB)]) rfl rfl) ?_))
 intro zNu _
 refine WL.pu rfl (WL.nil (WX.a (WC.b (WC.a (WL.qA 3 (y19 (Eos.caps (l:=[.tmp 1]) (.cons rfl .nil))) (WL.pu rfl (WL.nil (WX.a (WC.ret ?_)))))))))
 obtain rfl:=oJ h
 refine WX.yf Tryz.results110 (.tmp rfl .nil) (fun w hw=>?_)
 exact⟨zNu,yD rfl,trivial,hw.sub (.cons .here .nil)⟩
def y1E(z4e:z2):Option Int:=
 (y1L z4e).bind fun zCc=>if !zCc then some 0 else chk ((z4e.fD:Int)≠0) (jp1 (fun(zd4:Int)=>some zd4) fun znC=>chk ((z4e.fD:Int)≠0) (if decide ((Int.tmod z4e.fN z4e.fD)<0) then znC (i64 ((i64 (Int.tdiv z4e.fN z4e.fD))-1)) else znC (i64 (Int.tdiv z4e.fN z4e.fD))))
theorem y5M(Z:Zp)(z4e:z2)(r:Int)(h:y1E z4e=some r)(w₀:World)(hz:PZ [] w₀ Z):
  Calls Tryz.prog 46 #[(.agg #[(.int .i64 z4e.fN),(.int .i64 z4e.fD)])] w₀ fun e w'=>e = .returned (.int .i64 r)∧Hp [] w₀ w' []:=by
 unfold y1E at h
 refine Calls.on1 Tryz.func46 Tryz.ntmps46 ?_
 refine WC.b (WC.a (WL.nA 1 (yI (cs:=[(.int .i64 z4e.fN),(.int .i64 z4e.fD)]) rfl rfl) ?_))
 intro zY7 _
 refine WL.pu rfl (WL.nil (WX.a (WC.b (WC.b ?_))))
 obtain⟨zCc,zNv,h⟩:=z8 h
 refine WC.a (WL.qA 4 (yh zf rfl (yi .here) rfl) (WL.cA 5 (zb Tryz.call80 (.cons rfl .nil)) .nil (cc hz .nil fun w pz ho=>y2s _ _ _ zNv w pz ) (WL.pu rfl (WL.nil (WX.a (WC.cond rfl (fun ztV=>?_) (fun ztV=>?_)))))))
 ·replace h:=yp h ztV
  refine WC.b (WC.a (WL.pu rfl (WL.nil (WX.a (WC.ret (WX.ye ?_))))))
  obtain rfl:=oJ h
  refine WX.yf Tryz.results46 (.tmp rfl .nil) (fun w hw=>?_)
  exact⟨yD rfl,hw.sub .nil⟩
 ·replace h:=yq h ztV
  refine WC.skip (WX.a (WC.b ?_))
  obtain⟨zNw,h⟩:=yo h
  refine WC.a (WL.qA 7 (ya y2k rfl rfl) (WL.qA 8 (yc yt rfl (yk .here rfl)) (WL.qA 9 (ya y2F rfl rfl) (WL.qA 10 (yc yt rfl (yk .here rfl)) (WL.qA 11 (q_quo rfl rfl zNw rfl) (WL.pu rfl (WL.nil (WX.a ?_))))))))
  obtain⟨znC,zNx,h⟩:=y15 h
  refine WC.y3k (fun(zd4:Int)=>(znC zd4=some r)) (fun zd4=>[(3,(.int .i64 zd4))]) (fun zd4=>[]) ?_ ?_
  ·skip
   refine WC.b ?_
   obtain⟨zNy,h⟩:=yo h
   refine WC.a (WL.qA 12 (ya y2k rfl rfl) (WL.qA 13 (yc yt rfl (yk .here rfl)) (WL.qA 14 (ya y2F rfl rfl) (WL.qA 15 (yc yt rfl (yk .here rfl)) (WL.qA 16 (q_rem rfl rfl zNy rfl) (WL.pu rfl (WL.nil (WX.a (WC.cond rfl (fun ztW=>?_) (fun ztW=>?_))))))))))
   ·replace h:=yp h ztW
    refine WC.a (WL.pu rfl (WL.pu rfl (WL.pu rfl (WL.nil ?_))))
    exact WX.mid (i64 ((i64 (Int.tdiv z4e.fN z4e.fD))-1)) h (.cons rfl .nil) .nil
   ·replace h:=yq h ztW
    refine WC.skip ?_
    exact WX.mid (i64 (Int.tdiv z4e.fN z4e.fD)) h (.cons rfl .nil) .nil
  ·rintro zd4 h
   replace h:=(zNx zd4).symm.trans h
   refine WC.b (WC.a (WL.pu rfl (WL.pu rfl (WL.nil (WX.a (WC.ret ?_))))))
   obtain rfl:=oJ h
   refine WX.yf Tryz.results46 (.tmp rfl .nil) (fun w hw=>?_)
   exact⟨yD rfl,hw.sub .nil⟩
def y2q(z8w:z2):Option Int:=
 (y1L z8w).bind fun zCd=>if !zCd then some 0 else(y1E (⟨i64 (0-z8w.fN),z8w.fD⟩:z2)).bind fun zCe=>some (i64 (0-zCe))
theorem y94(Z:Zp)(z8w:z2)(r:Int)(h:y2q z8w=some r)(w₀:World)(hz:PZ [] w₀ Z):
  Calls Tryz.prog 156 #[(.agg #[(.int .i64 z8w.fN),(.int .i64 z8w.fD)])] w₀ fun e w'=>e = .returned (.int .i64 r)∧Hp [] w₀ w' []:=by
 unfold y2q at h
 refine Calls.on1 Tryz.func156 Tryz.ntmps156 ?_
 refine WC.b (WC.a (WL.nA 1 (yI (cs:=[(.int .i64 z8w.fN),(.int .i64 z8w.fD)]) rfl rfl) ?_))
 intro zY8 _
 refine WL.pu rfl (WL.nil (WX.a (WC.b (WC.b ?_))))
 obtain⟨zCd,zNz,h⟩:=z8 h
 refine WC.a (WL.qA 3 (yh zf rfl (yi .here) rfl) (WL.cA 4 (zb Tryz.call80 (.cons rfl .nil)) .nil (cc hz .nil fun w pz ho=>y2s _ _ _ zNz w pz ) (WL.pu rfl (WL.nil (WX.a (WC.cond rfl (fun ztX=>?_) (fun ztX=>?_)))))))
 ·replace h:=yp h ztX
  refine WC.b (WC.a (WL.pu rfl (WL.nil (WX.a (WC.ret (WX.ye ?_))))))
  obtain rfl:=oJ h
  refine WX.yf Tryz.results156 (.tmp rfl .nil) (fun w hw=>?_)
  exact⟨yD rfl,hw.sub .nil⟩
 ·replace h:=yq h ztX
  refine WC.skip (WX.a (WC.b ?_))
  obtain⟨zCe,zNA,h⟩:=z8 h
  refine WC.a (WL.qA 6 (ya y2k rfl rfl) (WL.qA 7 (yc yt rfl (yk .here rfl)) (WL.qA 8 (q_neg rfl rfl) (WL.qA 9 (ya y2F rfl rfl) (WL.qA 10 (yc yt rfl (yk .here rfl)) (WL.qA 11 (yL (v:=(.agg #[(.int .i64 (i64 (0-z8w.fN))),(.int .i64 z8w.fD)])) (Eos.parts (l:=[.tmp 8,.tmp 10]) (.r2 rfl rfl) [0,1]) (fun _=>by kernel_rfl)) (WL.cA 12 (zb Tryz.call46 (.cons rfl .nil)) .nil (cc hz .nil fun w pz ho=>y5M _ _ _ zNA w pz ) (WL.qA 13 (q_neg rfl rfl) (WL.pu rfl (WL.nil (WX.a (WC.ret ?_))))))))))))
  obtain rfl:=oJ h
  refine WX.yf Tryz.results156 (.tmp rfl .nil) (fun w hw=>?_)
  exact⟨yD rfl,hw.sub .nil⟩
def y1B(zx:Type)(z2F:List z2×Int)(z2q:z2→zx→Option (Bool×zx))(zb1:zx→Option zx):Nat→Int→zx→Option zx
 | 0,_,_=>none
 | ztY+1,z32,z5H=>if decide (z32<((z2F.1.length:Nat):Int)) then chk ((0:Int)≤z32∧z32<((z2F.1.length:Nat):Int)) ((y1E (⟨((nth z2F.1 z32).fN),((nth z2F.1 z32).fD)⟩:z2)).bind fun zCf=>(y1n zCf).bind fun ztZ=>(z2q ztZ z5H).bind fun z91=>(if !z91.1 then some (true,z91.2) else(y2q (⟨((nth z2F.1 z32).fN),((nth z2F.1 z32).fD)⟩:z2)).bind fun zCg=>(y1n zCg).bind fun zu0=>(z2q zu0 z91.2).bind fun zkD=>some (!zkD.1,zkD.2)).bind fun zd5=>if zd5.1 then some zd5.2 else y1B zx z2F z2q zb1 ztY (i64 (z32+1)) zd5.2) else zb1 z5H
theorem y7e{n:Nat}{zx:Type}{z2F:List z2×Int}{z2q:z2→zx→Option (Bool×zx)}{zb1:zx→Option zx}{z32:Int}{z5H:zx}{r:zx}(h:y1B zx z2F z2q zb1 n z32 z5H=some r):∃ m,n=m+1:=by
 cases n with
 | zero=>cases h
 | succ m=>exact⟨m,rfl⟩
def y1C(zx:Type)(z2S:List (List z7))(z2q:z2→zx→Option (Bool×zx))(zb2:zx→Option zx):Nat→Int→zx→Option zx
 | 0,_,_=>none
 | zu1+1,z4f,z6p=>if decide (z4f<((z2S.length:Nat):Int)) then jp1 (fun(z92:zx)=>y1C zx z2S z2q zb2 zu1 (i64 (z4f+1)) z92) fun zu2=>chk ((0:Int)≤z4f∧z4f<((z2S.length:Nat):Int)) ((y1V (nth z2S z4f)).bind fun z2F=>jp1 (fun(z93:zx)=>zu2 z93) fun zb1=>y1B zx z2F z2q zb1 yy 0 z6p) else zb2 z6p
theorem y7f{n:Nat}{zx:Type}{z2S:List (List z7)}{z2q:z2→zx→Option (Bool×zx)}{zb2:zx→Option zx}{z4f:Int}{z6p:zx}{r:zx}(h:y1C zx z2S z2q zb2 n z4f z6p=some r):∃ m,n=m+1:=by
 cases n with
 | zero=>cases h
 | succ m=>exact⟨m,rfl⟩
def y1D(zx:Type)(z33:List z2)(z2q:z2→zx→Option (Bool×zx))(zb3:zx→Option zx):Nat→Int→zx→Option zx
 | 0,_,_=>none
 | zu3+1,z3D,z5I=>if decide (z3D<((z33.length:Nat):Int)) then chk ((0:Int)≤z3D∧z3D<((z33.length:Nat):Int)) ((y1E (⟨((nth z33 z3D).fN),((nth z33 z3D).fD)⟩:z2)).bind fun zCh=>(y1n zCh).bind fun zu4=>(z2q zu4 z5I).bind fun z94=>(if !z94.1 then some (true,z94.2) else(y2q (⟨((nth z33 z3D).fN),((nth z33 z3D).fD)⟩:z2)).bind fun zCi=>(y1n zCi).bind fun zu5=>(z2q zu5 z94.2).bind fun zkE=>some (!zkE.1,zkE.2)).bind fun zd6=>if zd6.1 then some zd6.2 else y1D zx z33 z2q zb3 zu3 (i64 (z3D+1)) zd6.2) else zb3 z5I
theorem y7g{n:Nat}{zx:Type}{z33:List z2}{z2q:z2→zx→Option (Bool×zx)}{zb3:zx→Option zx}{z3D:Int}{z5I:zx}{r:zx}(h:y1D zx z33 z2q zb3 n z3D z5I=some r):∃ m,n=m+1:=by
 cases n with
 | zero=>cases h
 | succ m=>exact⟨m,rfl⟩
def y2X(zx:Type)(z2q:z2→zx→Option (Bool×zx))(s0_44021:zx)(z2S:List (List z7))(zf6:zSv)(zkF:List (List z7))(zf7:zSv)(z33:List z2):Option zx:=
 (y2J).bind fun zu6=>(z2q zu6 s0_44021).bind fun zf8=>if !zf8.1 then some zf8.2 else jp1 (fun(z95:zx)=>jp1 (fun(zb4:zx)=>some zb4) fun zb3=>y1D zx z33 z2q zb3 yy 0 z95) fun zb2=>y1C zx z2S z2q zb2 yy 0 zf8.2
theorem y8Q(Z:Zp)(zx:Type)(z8x:Nat)(z4g:Type)(z2y:z4g→zx→Asrt)(z6W:z4g→zx→Prop)(zb5:z4g)(zb6:Addr)(zd7:Option Addr)(zd8:Nat)(zu7:Addr)(zu8:Option Addr)(zu9:Nat)(zua:Addr)(zkG:Option Addr)(zkH:Nat)(z2q:z2→zx→Option (Bool×zx))(s0_44021:zx)(z2S:List (List z7))(zf6:zSv)(zkF:List (List z7))(zf7:zSv)(z33:List z2)(r:zx)(w₀:World)(hz:PZ (fps [z2y zb5 s0_44021]) w₀ Z)(zkI:ybv Tryz.prog Z z8x (α:=z2) (σ:=zx) (G:=z4g) (H:=Unit) (fun h x=>[(.agg #[(.int .i64 x.fN),(.int .i64 x.fD)])]) (fun h x=>[]) z2q z2y z6W)(zNB:z6W zb5 s0_44021)(zNC:ZS Z 1 (y1W Z) zd7 zd8 z2S)(zY9:ZS Z 1 (y1W Z) zu8 zu9 zkF)(zYa:ZC Z zu7 [(.slice zu8 zkF.length zu9)])(zYb:ZC Z zua [(.int .i64 zf7.fRate.fN),(.int .i64 zf7.fRate.fD),(.int .i64 zf7.fL.fN),(.int .i64 zf7.fL.fD)])(zND:ZS Z 2 (fun r x=>r=yw x) zkG zkH z33)(zCj:ZC Z zb6 [(.slice zd7 z2S.length zd8),(.int .i64 zf6.fRate.fN),(.int .i64 zf6.fRate.fD),(.int .i64 zf6.fL.fN),(.int .i64 zf6.fL.fD),(.func (.func 72) #[] #[(.pointer (some zu7)),(.pointer (some zua))]),(.slice zkG z33.length zkH)])(h:y2X zx z2q s0_44021 z2S zf6 zkF zf7 z33=some r)(hown:Hp (fps [z2y zb5 s0_44021]) w₀ w₀ [z2y zb5 s0_44021]):
  Calls Tryz.prog 155 #[(.func (.yield z8x) #[] #[]),(.pointer (some zb6))] w₀ fun e w'=>∃ zCk:z4g,e = .returned (.tuple #[])∧(z6W zCk r)∧Hp (fps [z2y zb5 s0_44021]) w₀ w' [z2y zCk r]:=by
 unfold y2X at h
 refine Calls.oh2 Tryz.func155 Tryz.ntmps155 hown ?_
 refine WC.b (WC.b ?_)
 obtain⟨zu6,zNE,h⟩:=z8 h
 obtain⟨zf8,zNF,h⟩:=z8 h
 refine WC.a (WL.pu rfl (WL.cA 12 (zb Tryz.call107 .nil) .nil (cc hz .nil fun w pz ho=>y4c _ _ zNE w pz ) (WL.yield (dd:=13) (x:=zu6) (h:=()) (g:=zb5) (s:=s0_44021) (b:=zf8.1) (s':=zf8.2) zkI rfl rfl rfl (.cons rfl .nil) ((.cons .here .nil):Sel _ [z2y zb5 s0_44021] _) zNF zNB (fun w hw=>hz.call hw ((.cons .here .nil):Sel _ [z2y zb5 s0_44021] _)) ?_)))
 intro zCl zCm
 refine WL.pu rfl (WL.nil (WX.a (WC.cond rfl (fun zub=>?_) (fun zub=>?_))))
 ·replace h:=yp h zub
  refine WC.ret (WX.ye ?_)
  obtain rfl:=oJ h
  refine WX.yf Tryz.results155 .nil (fun w hw=>?_)
  exact⟨zCl,y7o,zCm,hw.sub (.cons .here .nil)⟩
 ·replace h:=yq h zub
  refine WC.skip (WX.a ?_)
  obtain⟨zb2,zNG,h⟩:=y15 h
  refine WC.y4z (fun(z95:zx) (zhB:z4g)=>(zb2 z95=some r)∧(z6W zhB z95)) (fun z95 zhB=>[(0,(.func (.yield z8x) #[] #[])),(1,(.pointer (some zb6)))]) (fun z95 zhB=>[z2y zhB z95]) ?_ ?_
  ·skip
   refine WC.b (WC.a (WL.qA 15 (ya y6M rfl rfl) (WL.qA 16 (yc z7h rfl (y1l hz.pv zCj rfl)) (WL.qA 17 (yH Tryz.underlying128 rfl) (WL.pu rfl (WL.nil (WX.a (WC.block (WC.y5a (fun(zhC:Nat) (z4f:Int) (z6p:zx) (zd9:z4g)=>(y1C zx z2S z2q zb2 zhC z4f z6p=some r)∧(z6W zd9 z6p)) (fun zhC z4f z6p zd9=>[(0,(.func (.yield z8x) #[] #[])),(1,(.pointer (some zb6))),(16,(.slice zd7 z2S.length zd8)),(17,(.int .i64 ((z2S.length:Nat):Int))),(18,(.int .i64 z4f))]) (fun zhC z4f z6p zd9=>[z2y zd9 z6p]) (fun zhC z4f z6p zd9=>zhC) ⟨yy,0,zf8.2,zCl⟩ ⟨h,zCm⟩ (.r5 rfl rfl rfl rfl rfl) (.cons .here .nil) ?_)))))))))
   rintro zhC z4f z6p zd9 ⟨h,zCn⟩
   obtain⟨zu1,rfl⟩:=y7f h
   rw[y1C] at h
   refine WC.b (WC.a (WL.pu rfl (WL.nil (WX.a (WC.b (WC.cond rfl (fun zuc=>?_) (fun zuc=>?_)))))))
   ·replace h:=yp h zuc
    refine WC.skip (WX.a ?_)
    obtain⟨zu2,zNH,h⟩:=y15 h
    refine WC.y4z (fun(z92:zx) (zhD:z4g)=>(zu2 z92=some r)∧(z6W zhD z92)) (fun z92 zhD=>[(0,(.func (.yield z8x) #[] #[])),(1,(.pointer (some zb6))),(16,(.slice zd7 z2S.length zd8)),(17,(.int .i64 ((z2S.length:Nat):Int))),(18,(.int .i64 z4f))]) (fun z92 zhD=>[z2y zhD z92]) ?_ ?_
    ·skip
     refine WC.block (WC.b ?_)
     obtain⟨zNI,h⟩:=yo h
     refine WC.a (WL.znth (dd:=20) rfl rfl (Z:=Z) (Pr:=(y1W Z)) z82 rfl rfl zNC zNI ?_)
     rintro zYc zYd zNJ zYe ⟨zYf,zYg,rfl,zNK⟩
     refine WL.qA 21 (yc zbO rfl (y5I hz.pv zNJ rfl)) (WL.pu rfl (WL.nil (WX.a (WC.b ?_))))
     obtain⟨z2F,zNL,h⟩:=z8 h
     refine WC.a (WL.pu rfl (WL.y4l (dd:=24) rfl rfl rfl (zb Tryz.call153 (.cons rfl .nil)) .nil (cc hz .nil fun w pz ho=>y75 _ _ _ _ _ zNL w pz zNK) ?_))
     rintro zCo znD _
     refine WL.pu rfl (WL.pu rfl (WL.pu rfl (WL.pu rfl (WL.pu rfl (WL.nil (WX.a (WC.b (WC.a (WL.pu rfl (WL.qA 28 (yH Tryz.underlying175 rfl) (WL.pu rfl (WL.nil (WX.a ?_)))))))))))))
     obtain⟨zb1,zNM,h⟩:=y15 h
     refine WC.y9e (fun(z93:zx) (zhE:z4g)=>(zb1 z93=some r)∧(z6W zhE z93)) (fun z93 zhE=>[(0,(.func (.yield z8x) #[] #[])),(1,(.pointer (some zb6))),(16,(.slice zd7 z2S.length zd8)),(17,(.int .i64 ((z2S.length:Nat):Int))),(18,(.int .i64 z4f))]) (fun z93 zhE=>[z2y zhE z93]) ?_ ?_
     ·skip
      refine WC.block (WC.y5a (fun(zhF:Nat) (z32:Int) (z5H:zx) (z96:z4g)=>(y1B zx z2F z2q zb1 zhF z32 z5H=some r)∧(z6W z96 z5H)) (fun zhF z32 z5H z96=>[(0,(.func (.yield z8x) #[] #[])),(1,(.pointer (some zb6))),(16,(.slice zd7 z2S.length zd8)),(17,(.int .i64 ((z2S.length:Nat):Int))),(18,(.int .i64 z4f)),(27,(.slice zCo z2F.1.length znD)),(28,(.int .i64 ((z2F.1.length:Nat):Int))),(29,(.int .i64 z32))]) (fun zhF z32 z5H z96=>[row (.slice zCo z2F.1.length znD) 132 2 (z2F.1.flatMap yw),z2y z96 z5H]) (fun zhF z32 z5H z96=>zhF) ⟨yy,0,z6p,zd9⟩ ⟨h,zCn⟩ (.r8 rfl rfl rfl rfl rfl rfl rfl rfl) (.s2 .here .here) ?_)
      rintro zhF z32 z5H z96 ⟨h,zCp⟩
      obtain⟨ztY,rfl⟩:=y7e h
      rw[y1B] at h
      refine WC.b (WC.a (WL.pu rfl (WL.nil (WX.a (WC.b (WC.cond rfl (fun zud=>?_) (fun zud=>?_)))))))
      ·replace h:=yp h zud
       refine WC.skip (WX.a (WC.b (WC.block (WC.b ?_))))
       obtain⟨zkJ,h⟩:=yo h
       refine WC.a (WL.know (fun w hw=>Hp.y2M .here hw (by intro hz';have:=zkJ;rw[hz'] at this;omega)) ?_)
       rintro⟨zCq,rfl⟩
       refine WL.qA 31 (yX z2g rfl rfl zkJ.1 zkJ.2 y32) (WL.qA 32 (yT (cs:=(yw (nth z2F.1 z32))) zf rfl rfl (y3P .here (y3D (enc:=yw) (l:=z2F.1) (i:=z32) (sz:=2) (fun _=>rfl) zkJ.1 zkJ.2))) (WL.nA 8 (yv (cs:=[(.int .i64 0),(.int .i64 0)]) zT rfl) ?_))
       intro zNN _
       refine WL.ym rfl rfl (yl zz rfl rfl rfl .here rfl rfl rfl) (WL.nil (WX.a (WC.b ?_)))
       obtain⟨zCf,zNO,h⟩:=z8 h
       obtain⟨ztZ,zNP,h⟩:=z8 h
       obtain⟨z91,zNQ,h⟩:=z8 h
       obtain⟨zd5,zCr,h⟩:=z8 h
       refine WC.a (WL.pu rfl (WL.qA 34 (yh zf rfl (yi .here) rfl) (WL.cA 35 (zb Tryz.call46 (.cons rfl .nil)) .nil (cc hz .nil fun w pz ho=>y5M _ _ _ zNO w pz ) (WL.cA 36 (zb Tryz.call145 (.cons rfl .nil)) .nil (cc hz .nil fun w pz ho=>y2T _ _ _ zNP w pz ) (WL.yield (dd:=37) (x:=ztZ) (h:=()) (g:=z96) (s:=z5H) (b:=z91.1) (s':=z91.2) zkI rfl rfl rfl (.cons rfl .nil) ((.cons .h2 .nil):Sel _ [z2y z96 z5H] _) zNQ zCp (fun w hw=>hz.call hw ((.cons .h2 .nil):Sel _ [z2y z96 z5H] _)) ?_)))))
       intro znE zCs
       refine WL.pu rfl (WL.pu rfl (WL.yc3 (fun(zf9:z4g)=>z6W zf9 zd5.2) (fun(zf9:z4g)=>[(0,(.func (.yield z8x) #[] #[])),(1,(.pointer (some zb6))),(16,(.slice zd7 z2S.length zd8)),(17,(.int .i64 ((z2S.length:Nat):Int))),(18,(.int .i64 z4f)),(27,(.slice (some ⟨zCq,0,none⟩) z2F.1.length znD)),(28,(.int .i64 ((z2F.1.length:Nat):Int))),(29,(.int .i64 z32)),(46,(.bool zd5.1))]) (fun(zf9:z4g)=>[z2y zf9 zd5.2,stb zNN 132 [(.int .i64 ((nth z2F.1 z32).fN)),(.int .i64 ((nth z2F.1 z32).fD))],row (.slice (some ⟨zCq,0,none⟩) z2F.1.length znD) 132 2 (z2F.1.flatMap yw)]) 7 ?_ (fun zf9 zCt=>?_)))
       ·rcases Bool.eq_false_or_eq_true (!z91.1) with hb' | hb'
        ·have zCu:=hb';clear hb'
         have zue:=yp zCr zCu
         replace zue:=oJ zue
         refine WL.pin (i:=39) rfl zCu (WL.e rfl rfl rfl (WL.e rfl rfl rfl (WL.e rfl rfl rfl (WL.e rfl rfl rfl (WL.e rfl rfl rfl (WL.e rfl rfl rfl (WL.pu rfl ?_)))))))
         subst zue
         exact WL.y64 znE zCs (.r9 rfl rfl rfl rfl rfl rfl rfl rfl rfl) (.s3 .here .here .here)
        ·have zCv:=hb';clear hb'
         have zb7:=yq zCr zCv
         obtain⟨zCg,zNR,zb7⟩:=z8 zb7
         obtain⟨zu0,zNS,zb7⟩:=z8 zb7
         obtain⟨zkD,zNT,zb7⟩:=z8 zb7
         replace zb7:=oJ zb7
         refine WL.pin (i:=39) rfl zCv (WL.pu rfl (WL.qA 41 (yh zf rfl (yi .h1) rfl) (WL.cA 42 (zb Tryz.call156 (.cons rfl .nil)) .nil (cc hz .nil fun w pz ho=>y94 _ _ _ zNR w pz ) (WL.cA 43 (zb Tryz.call145 (.cons rfl .nil)) .nil (cc hz .nil fun w pz ho=>y2T _ _ _ zNS w pz ) (WL.yield (dd:=44) (x:=zu0) (h:=()) (g:=znE) (s:=z91.2) (b:=zkD.1) (s':=zkD.2) zkI rfl rfl rfl (.cons rfl .nil) ((.cons .here .nil):Sel _ [z2y znE z91.2] _) zNT zCs (fun w hw=>hz.call hw ((.cons .here .nil):Sel _ [z2y znE z91.2] _)) ?_)))))
         intro zNU zNV
         refine WL.pu rfl (WL.pu rfl ?_)
         subst zb7
         exact WL.y64 zNU zNV (.r9 rfl rfl rfl rfl rfl rfl rfl rfl rfl) (.s3 .here .here .here)
       ·skip
        refine WL.nil (WX.a (WC.cond rfl (fun zuf=>?_) (fun zuf=>?_)))
        ·replace h:=yp h zuf
         refine WC.ret (WX.ys (WX.ye (WX.ye (WX.ys (WX.ye (WX.ys (WX.ye (WX.ye (WX.ys (WX.ye ?_))))))))))
         obtain rfl:=oJ h
         refine WX.yf Tryz.results155 .nil (fun w hw=>?_)
         exact⟨zf9,y7o,zCt,hw.sub (.cons .here .nil)⟩
        ·replace h:=yq h zuf
         refine WC.skip (WX.yn (WX.a (WC.a (WL.pu rfl (WL.pu rfl (WL.nil ?_))))))
         exact WX.round ⟨ztY,(i64 (z32+1)),zd5.2,zf9⟩ ⟨h,zCt⟩ (Nat.lt_succ_self _) (.r8 rfl rfl rfl rfl rfl rfl rfl rfl) (.s2 .h2 .here)
      ·replace h:=yq h zud
       refine WC.exit (WX.yg (WX.yg (WX.yz ?_)))
       exact WX.mid ⟨z5H,z96⟩ ⟨h,zCp⟩ (.r5 rfl rfl rfl rfl rfl) (.cons .h1 .nil)
     ·rintro z93 zhE ⟨h,zNW⟩
      replace h:=(zNM z93).symm.trans h
      refine WX.yn ?_
      exact WX.mid ⟨z93,zhE⟩ ⟨h,zNW⟩ (.r5 rfl rfl rfl rfl rfl) (.cons .here .nil)
    ·rintro z92 zhD ⟨h,zNX⟩
     replace h:=(zNH z92).symm.trans h
     refine WC.a (WL.pu rfl (WL.pu rfl (WL.nil ?_)))
     exact WX.round ⟨zu1,(i64 (z4f+1)),z92,zhD⟩ ⟨h,zNX⟩ (Nat.lt_succ_self _) (.r5 rfl rfl rfl rfl rfl) (.cons .here .nil)
   ·replace h:=yq h zuc
    refine WC.exit (WX.yg (WX.yg (WX.yz ?_)))
    exact WX.mid ⟨z6p,zd9⟩ ⟨h,zCn⟩ (.r2 rfl rfl) (.cons .here .nil)
  ·rintro z95 zhB ⟨h,zNY⟩
   replace h:=(zNG z95).symm.trans h
   refine WC.b (WC.a (WL.qA 49 (ya yff rfl rfl) (WL.qA 50 (yc z83 rfl (y1l hz.pv zCj rfl)) (WL.qA 51 (yH Tryz.underlying175 rfl) (WL.pu rfl (WL.nil (WX.a ?_)))))))
   obtain⟨zb3,zNZ,h⟩:=y15 h
   refine WC.y9e (fun(zb4:zx) (zhG:z4g)=>(zb3 zb4=some r)∧(z6W zhG zb4)) (fun zb4 zhG=>[]) (fun zb4 zhG=>[z2y zhG zb4]) ?_ ?_
   ·skip
    refine WC.block (WC.y5a (fun(zhH:Nat) (z3D:Int) (z5I:zx) (z97:z4g)=>(y1D zx z33 z2q zb3 zhH z3D z5I=some r)∧(z6W z97 z5I)) (fun zhH z3D z5I z97=>[(0,(.func (.yield z8x) #[] #[])),(50,(.slice zkG z33.length zkH)),(51,(.int .i64 ((z33.length:Nat):Int))),(52,(.int .i64 z3D))]) (fun zhH z3D z5I z97=>[z2y z97 z5I]) (fun zhH z3D z5I z97=>zhH) ⟨yy,0,z95,zhB⟩ ⟨h,zNY⟩ (.r4 rfl rfl rfl rfl) (.cons .here .nil) ?_)
    rintro zhH z3D z5I z97 ⟨h,zCw⟩
    obtain⟨zu3,rfl⟩:=y7g h
    rw[y1D] at h
    refine WC.b (WC.a (WL.pu rfl (WL.nil (WX.a (WC.b (WC.cond rfl (fun zug=>?_) (fun zug=>?_)))))))
    ·replace h:=yp h zug
     refine WC.skip (WX.a (WC.b (WC.block (WC.b ?_))))
     obtain⟨zO0,h⟩:=yo h
     refine WC.a (WL.znth (dd:=54) rfl rfl (Z:=Z) (Pr:=(fun r x=>r=yw x)) z2g rfl rfl zND zO0 ?_)
     rintro zYh zYi zO1 zYj rfl
     refine WL.qA 55 (yh zf rfl (y2b hz.pv zO1) rfl) (WL.nA 10 (yv (cs:=[(.int .i64 0),(.int .i64 0)]) zT rfl) ?_)
     intro zO2 _
     refine WL.ym rfl rfl (yl zz rfl rfl rfl .here rfl rfl rfl) (WL.nil (WX.a (WC.b ?_)))
     obtain⟨zCh,zO3,h⟩:=z8 h
     obtain⟨zu4,zO4,h⟩:=z8 h
     obtain⟨z94,zO5,h⟩:=z8 h
     obtain⟨zd6,zCx,h⟩:=z8 h
     refine WC.a (WL.pu rfl (WL.qA 57 (yh zf rfl (yi .here) rfl) (WL.cA 58 (zb Tryz.call46 (.cons rfl .nil)) .nil (cc hz .nil fun w pz ho=>y5M _ _ _ zO3 w pz ) (WL.cA 59 (zb Tryz.call145 (.cons rfl .nil)) .nil (cc hz .nil fun w pz ho=>y2T _ _ _ zO4 w pz ) (WL.yield (dd:=60) (x:=zu4) (h:=()) (g:=z97) (s:=z5I) (b:=z94.1) (s':=z94.2) zkI rfl rfl rfl (.cons rfl .nil) ((.cons .h1 .nil):Sel _ [z2y z97 z5I] _) zO5 zCw (fun w hw=>hz.call hw ((.cons .h1 .nil):Sel _ [z2y z97 z5I] _)) ?_)))))
     intro znF zCy
     refine WL.pu rfl (WL.pu rfl (WL.yc3 (fun(zfa:z4g)=>z6W zfa zd6.2) (fun(zfa:z4g)=>[(0,(.func (.yield z8x) #[] #[])),(50,(.slice zkG z33.length zkH)),(51,(.int .i64 ((z33.length:Nat):Int))),(52,(.int .i64 z3D)),(69,(.bool zd6.1))]) (fun(zfa:z4g)=>[z2y zfa zd6.2,stb zO2 132 [(.int .i64 ((nth z33 z3D).fN)),(.int .i64 ((nth z33 z3D).fD))]]) 7 ?_ (fun zfa zCz=>?_)))
     ·rcases Bool.eq_false_or_eq_true (!z94.1) with hb' | hb'
      ·have zCA:=hb';clear hb'
       have zuh:=yp zCx zCA
       replace zuh:=oJ zuh
       refine WL.pin (i:=62) rfl zCA (WL.e rfl rfl rfl (WL.e rfl rfl rfl (WL.e rfl rfl rfl (WL.e rfl rfl rfl (WL.e rfl rfl rfl (WL.e rfl rfl rfl (WL.pu rfl ?_)))))))
       subst zuh
       exact WL.y64 znF zCy (.r5 rfl rfl rfl rfl rfl) (.s2 .here .here)
      ·have zCB:=hb';clear hb'
       have zb8:=yq zCx zCB
       obtain⟨zCi,zO6,zb8⟩:=z8 zb8
       obtain⟨zu5,zO7,zb8⟩:=z8 zb8
       obtain⟨zkE,zO8,zb8⟩:=z8 zb8
       replace zb8:=oJ zb8
       refine WL.pin (i:=62) rfl zCB (WL.pu rfl (WL.qA 64 (yh zf rfl (yi .h1) rfl) (WL.cA 65 (zb Tryz.call156 (.cons rfl .nil)) .nil (cc hz .nil fun w pz ho=>y94 _ _ _ zO6 w pz ) (WL.cA 66 (zb Tryz.call145 (.cons rfl .nil)) .nil (cc hz .nil fun w pz ho=>y2T _ _ _ zO7 w pz ) (WL.yield (dd:=67) (x:=zu5) (h:=()) (g:=znF) (s:=z94.2) (b:=zkE.1) (s':=zkE.2) zkI rfl rfl rfl (.cons rfl .nil) ((.cons .here .nil):Sel _ [z2y znF z94.2] _) zO8 zCy (fun w hw=>hz.call hw ((.cons .here .nil):Sel _ [z2y znF z94.2] _)) ?_)))))
       intro zO9 zOa
       refine WL.pu rfl (WL.pu rfl ?_)
       subst zb8
       exact WL.y64 zO9 zOa (.r5 rfl rfl rfl rfl rfl) (.s2 .here .here)
     ·skip
      refine WL.nil (WX.a (WC.cond rfl (fun zui=>?_) (fun zui=>?_)))
      ·replace h:=yp h zui
       refine WC.ret (WX.ys (WX.ye (WX.ye (WX.ys (WX.ye ?_)))))
       obtain rfl:=oJ h
       refine WX.yf Tryz.results155 .nil (fun w hw=>?_)
       exact⟨zfa,y7o,zCz,hw.sub (.cons .here .nil)⟩
      ·replace h:=yq h zui
       refine WC.skip (WX.yn (WX.a (WC.a (WL.pu rfl (WL.pu rfl (WL.nil ?_))))))
       exact WX.round ⟨zu3,(i64 (z3D+1)),zd6.2,zfa⟩ ⟨h,zCz⟩ (Nat.lt_succ_self _) (.r4 rfl rfl rfl rfl) (.cons .here .nil)
    ·replace h:=yq h zug
     refine WC.exit (WX.yg (WX.yg (WX.yz ?_)))
     exact WX.mid ⟨z5I,z97⟩ ⟨h,zCw⟩ .nil (.cons .here .nil)
   ·rintro zb4 zhG ⟨h,zOb⟩
    replace h:=(zNZ zb4).symm.trans h
    obtain rfl:=oJ h
    refine WX.y52 Tryz.results155 .nil (fun w hw=>?_)
    exact⟨zhG,y7o,zOb,hw.sub (.cons .here .nil)⟩
def y22(zfb:z1C)(z4B:z7)(zfc:z2):Option (z2×z1C):=
 (y1U zfb (fun(y0:z2) (y1:z2)=>y3g y0 y1) z4B.fRate zfc).bind fun zuj=>(y1U zuj.2 (fun(y0:z2) (y1:z2)=>y1e y0 y1) z4B.fBurst zuj.1).bind fun zuk=>some (zuk.1,zuk.2)
theorem ybL(Z:Zp)(zhI:Nat)(zfb:z1C)(z4B:z7)(zfc:z2)(r:z2×z1C)(h:y22 zfb z4B zfc=some r)(w₀:World)(hz:PZ (fps [stb zhI 262 [(.int .i64 zfb.fE)]]) w₀ Z)(hown:Hp (fps [stb zhI 262 [(.int .i64 zfb.fE)]]) w₀ w₀ [stb zhI 262 [(.int .i64 zfb.fE)]]):
  Calls Tryz.prog 148 #[(.pointer (some ⟨zhI,0,none⟩)),(.agg #[(.int .i64 z4B.fBurst.fN),(.int .i64 z4B.fBurst.fD),(.int .i64 z4B.fRate.fN),(.int .i64 z4B.fRate.fD)]),(.agg #[(.int .i64 zfc.fN),(.int .i64 zfc.fD)])] w₀ fun e w'=>e = .returned (.agg #[(.int .i64 r.1.fN),(.int .i64 r.1.fD)])∧Hp (fps [stb zhI 262 [(.int .i64 zfb.fE)]]) w₀ w' [stb zhI 262 [(.int .i64 r.2.fE)]]:=by
 unfold y22 at h
 refine Calls.oh3 Tryz.func148 Tryz.ntmps148 hown ?_
 refine WC.b (WC.a (WL.nA 4 (yI (cs:=[(.int .i64 z4B.fBurst.fN),(.int .i64 z4B.fBurst.fD),(.int .i64 z4B.fRate.fN),(.int .i64 z4B.fRate.fD)]) rfl rfl) ?_))
 intro zOc _
 refine WL.nA 5 (yI (cs:=[(.int .i64 zfc.fN),(.int .i64 zfc.fD)]) rfl rfl) ?_
 intro zYk _
 refine WL.nA 6 (yv (cs:=[(.int .i64 0),(.int .i64 0)]) zT rfl) ?_
 intro zYl _
 refine WL.nil (WX.a (WC.b ?_))
 obtain⟨zuj,zOd,h⟩:=z8 h
 obtain⟨zuk,zOe,h⟩:=z8 h
 refine WC.yP (fun i=>[7,8,9].contains i) [y7q zOc 171 [(0,(.int .i64 z4B.fBurst.fN)),(1,(.int .i64 z4B.fBurst.fD))]] rfl (WD.pA 0 7 rfl (fun _=>q_m rfl) (WD.pA 1 8 rfl (fun _=>ya y4O rfl rfl) (WD.sA 2 9 rfl (Sin.wk (.cons .h2 .nil) (.stb (.cons rfl (.cons rfl .nil)) .nil)) (yT (cs:=[(.int .i64 z4B.fBurst.fN),(.int .i64 z4B.fBurst.fD)]) zf rfl rfl (yaS .here ((.head _)) ((.tail _ (.head _))))) (WD.pA 3 10 rfl (fun _=>q_m rfl) (WD.pA 4 11 rfl (fun _=>ya y5K rfl rfl) (WD.qA 5 12 rfl (yT (cs:=[(.int .i64 z4B.fRate.fN),(.int .i64 z4B.fRate.fD)]) zf rfl rfl (y31 (s:=2) .h2 rfl)) (WD.qA 6 13 rfl (yh zf rfl (yi .h1) rfl) (WD.call0 (i:=7) (dd:=14) rfl (by kernel_rfl) rfl rfl rfl (.inl ⟨rfl,(Sin.wk (.cons .h3 .nil) (.stb (.cons rfl (.cons rfl .nil)) .nil))⟩) (zb Tryz.call167 (.r4 rfl rfl rfl rfl)) (.cons .h3 .nil) (cc hz (.cons .h3 .nil) fun w pz ho=>Calls.mono (y5D _ _ (z8Y:=70) (zcP:=[]) _ (zaP:=(fun(y0:z2) (y1:z2)=>y3g y0 y1)) _ _ _ zOd w pz Tryz.call70 (fun w' hz' y0 y1  r  hr=>ybJ _ _ _ _ hr w' hz' ) ho) (fun _ _ h'=>⟨h'.1,trivial,h'.2⟩)) ?_))))))))
 intro _
 refine WD.call0 (i:=8) (dd:=15) rfl (by kernel_rfl) rfl rfl rfl (.inl ⟨rfl,(Sin.wk (.cons .h3 .nil) (.stb (.cons rfl (.cons rfl .nil)) .nil))⟩) (zb Tryz.call167 (.r4 rfl rfl rfl rfl)) (.cons .here .nil) (cc hz (.cons .here .nil) fun w pz ho=>Calls.mono (y5D _ _ (z8Y:=69) (zcP:=[]) _ (zaP:=(fun(y0:z2) (y1:z2)=>y1e y0 y1)) _ _ _ zOe w pz Tryz.call69 (fun w' hz' y0 y1  r  hr=>y65 _ _ _ _ hr w' hz' ) ho) (fun _ _ h'=>⟨h'.1,trivial,h'.2⟩)) ?_
 intro _
 refine WD.y37 (i:=9) rfl (by kernel_rfl) rfl rfl rfl (by kernel_rfl) (yl zz rfl rfl rfl .h1 rfl rfl rfl) (WD.done (by kernel_rfl) (WX.a (WC.ret ?_)))
 obtain rfl:=oJ h
 refine WX.yf Tryz.results148 (.agg rfl zf rfl (yi .here) .nil) (fun w hw=>?_)
 exact⟨yD rfl,hw.sub (.cons .h1 .nil)⟩
def y1d(z2f:List z2)(z8y:z2→z2→Option Int)(zb9:Int→Int→Option z2):Nat→Int→Int→Int→Option z2
 | 0,_,_,_=>none
 | zul+1,z2G,z65,z67=>if decide (z2G<((z2f.length:Nat):Int)) then jp2 (fun(zba:Int) (zbb:Int)=>y1d z2f z8y zb9 zul (i64 (z2G+1)) zba zbb) fun znG=>chk ((0:Int)≤z2G∧z2G<((z2f.length:Nat):Int)) ((z8y (⟨((nth z2f z2G).fN),((nth z2f z2G).fD)⟩:z2) (⟨z65,z67⟩:z2)).bind fun zum=>if decide (zum<0) then chk ((0:Int)≤z2G∧z2G<((z2f.length:Nat):Int)) (znG ((nth z2f z2G).fN) ((nth z2f z2G).fD)) else znG z65 z67) else zb9 z65 z67
theorem y6b{n:Nat}{z2f:List z2}{z8y:z2→z2→Option Int}{zb9:Int→Int→Option z2}{z2G:Int}{z65:Int}{z67:Int}{r:z2}(h:y1d z2f z8y zb9 n z2G z65 z67=some r):∃ m,n=m+1:=by
 cases n with
 | zero=>cases h
 | succ m=>exact⟨m,rfl⟩
def y29(z2f:List z2)(z8y:z2→z2→Option Int):Option z2:=
 if decide (((z2f.length:Nat):Int)<1) then none else chk ((0:Int)≤0∧0<((z2f.length:Nat):Int)) (jp2 (fun(zda:Int) (zdb:Int)=>some (⟨zda,zdb⟩:z2)) fun zb9=>y1d z2f z8y zb9 yy 1 ((nth z2f 0).fN) ((nth z2f 0).fD))
theorem y7v(Z:Zp)(znH:Option Addr)(znI:Nat)(zdc:FuncId)(zhJ:List Value)(z2f:List z2)(z8y:z2→z2→Option Int)(r:z2)(h:y29 z2f z8y=some r)(w₀:World)(hz:PZ [] w₀ Z)(zun:ZS Z 2 (fun r x=>r=yw x) znH znI z2f)(zOf:∀ args w,(callFunc zdc args).run Tryz.prog w = .ok (.enter zdc args) w)(zOg:∀ w:World,PZ [] w Z→∀(x0:z2) (x1:z2) (r:Int),z8y x0 x1=some r→Calls Tryz.prog zdc (([(.agg #[(.int .i64 x0.fN),(.int .i64 x0.fD)]),(.agg #[(.int .i64 x1.fN),(.int .i64 x1.fD)])]:List Value)++zhJ).toArray w fun e w'=>e = .returned (.int .i64 r)∧Hp [] w w' []):
  Calls Tryz.prog 149 #[(.slice znH z2f.length znI),(.func (.func zdc) #[] (zhJ).toArray)] w₀ fun e w'=>e = .returned (.agg #[(.int .i64 r.fN),(.int .i64 r.fD)])∧Hp [] w₀ w' []:=by
 unfold y29 at h
 refine Calls.yK Tryz.func149 Tryz.ntmps149 ?_
 refine WC.b (WC.a (WL.nA 4 (yv (cs:=[(.int .i64 0),(.int .i64 0)]) zT rfl) ?_))
 intro zhK _
 refine WL.nil (WX.a (WC.b (WC.b (WC.a (WL.pu rfl (WL.qA 8 (yH Tryz.underlying175 rfl) (WL.pu rfl (WL.nil (WX.a (WC.cond rfl (fun zuo=>?_) (fun zuo=>?_)))))))))))
 ·replace h:=yp h zuo
  cases h
 ·replace h:=yq h zuo
  refine WC.skip (WX.a (WC.b ?_))
  obtain⟨zOh,h⟩:=yo h
  refine WC.a (WL.pu rfl (WL.znth (dd:=12) rfl rfl (Z:=Z) (Pr:=(fun r x=>r=yw x)) z2g rfl rfl zun zOh ?_))
  rintro zYm zYn zOi zYo rfl
  refine WL.qA 13 (yh zf rfl (y2b hz.pv zOi) rfl) (WL.nA 5 (yv (cs:=[(.int .i64 0),(.int .i64 0)]) zT rfl) ?_)
  intro zhL _
  refine WL.ym rfl rfl (yl zz rfl rfl rfl .here rfl rfl rfl) (WL.nil (WX.a ?_))
  obtain⟨zb9,zOj,h⟩:=y4s h
  refine WC.y4z (fun(zda:Int) (zdb:Int)=>(zb9 zda zdb=some r)) (fun zda zdb=>[(4,(.pointer (some ⟨zhK,0,none⟩))),(5,(.pointer (some ⟨zhL,0,none⟩)))]) (fun zda zdb=>[stb zhK 132 [(.int .i64 0),(.int .i64 0)],stb zhL 132 [(.int .i64 zda),(.int .i64 zdb)]]) ?_ ?_
  ·skip
   refine WC.b (WC.a (WL.pu rfl (WL.nil (WX.a (WC.block (WC.y5a (fun(zhM:Nat) (z2G:Int) (z65:Int) (z67:Int)=>(y1d z2f z8y zb9 zhM z2G z65 z67=some r)) (fun zhM z2G z65 z67=>[(0,(.slice znH z2f.length znI)),(1,(.func (.func zdc) #[] (zhJ).toArray)),(4,(.pointer (some ⟨zhK,0,none⟩))),(5,(.pointer (some ⟨zhL,0,none⟩))),(6,(.int .i64 z2G))]) (fun zhM z2G z65 z67=>[stb zhK 132 [(.int .i64 0),(.int .i64 0)],stb zhL 132 [(.int .i64 z65),(.int .i64 z67)]]) (fun zhM z2G z65 z67=>zhM) ⟨yy,1,((nth z2f 0).fN),((nth z2f 0).fD)⟩ h (.r5 rfl rfl rfl rfl rfl) (.s2 .h1 .here) ?_))))))
   rintro zhM z2G z65 z67 h
   obtain⟨zul,rfl⟩:=y6b h
   rw[y1d] at h
   refine WC.b (WC.b (WC.a (WL.pu rfl (WL.pu rfl (WL.qA 16 (yH Tryz.underlying175 rfl) (WL.pu rfl (WL.nil (WX.a (WC.cond rfl (fun zup=>?_) (fun zup=>?_))))))))))
   ·replace h:=yp h zup
    refine WC.skip (WX.a ?_)
    obtain⟨znG,zOk,h⟩:=y4s h
    refine WC.y4z (fun(zba:Int) (zbb:Int)=>(znG zba zbb=some r)) (fun zba zbb=>[(0,(.slice znH z2f.length znI)),(1,(.func (.func zdc) #[] (zhJ).toArray)),(4,(.pointer (some ⟨zhK,0,none⟩))),(5,(.pointer (some ⟨zhL,0,none⟩))),(6,(.int .i64 z2G))]) (fun zba zbb=>[stb zhK 132 [(.int .i64 0),(.int .i64 0)],stb zhL 132 [(.int .i64 zba),(.int .i64 zbb)]]) ?_ ?_
    ·skip
     refine WC.block (WC.b ?_)
     obtain⟨zOl,h⟩:=yo h
     obtain⟨zum,zOm,h⟩:=z8 h
     refine WC.yP (fun i=>[].contains i) [] rfl (WD.pA 0 20 rfl (fun _=>q_m rfl) (WD.pA 1 21 rfl (fun _=>q_m rfl) (WD.pA 2 22 rfl (fun _=>q_m rfl) (WD.znth (j:=3) (dd:=23) (by kernel_rfl) rfl z2V z2W rfl rfl (Z:=Z) (Pr:=(fun r x=>r=yw x)) z2g rfl rfl zun zOl ?_))))
     rintro zYp zYq zOn zYr rfl
     refine WD.qA 4 24 rfl (yh zf rfl (y2b hz.pv zOn) rfl) (WD.qA 5 25 rfl (yh zf rfl (yi .h1) rfl) (WD.eA 6 26 rfl (y2y (l:=[.tmp 24,.tmp 25]) (f:=zdc) (caps:=zhJ) zOf rfl (.r2 rfl rfl)) (fun w hw=>zOg w (hz.now hw) (⟨((nth z2f z2G).fN),((nth z2f z2G).fD)⟩:z2) (⟨z65,z67⟩:z2) zum  zOm) (WD.pA 7 27 rfl (fun _=>q_lss rfl rfl) (WD.done (by kernel_rfl) (WX.a (WC.cond rfl (fun zuq=>?_) (fun zuq=>?_)))))))
     ·replace h:=yp h zuq
      obtain⟨zOo,h⟩:=yo h
      refine WC.a (WL.pu rfl (WL.pu rfl (WL.znth (dd:=30) rfl rfl (Z:=Z) (Pr:=(fun r x=>r=yw x)) z2g rfl rfl zun zOo ?_)))
      rintro zYs zYt zOp zYu rfl
      refine WL.qA 31 (yh zf rfl (y2b hz.pv zOp) rfl) (WL.ym rfl rfl (yl zz rfl rfl rfl .h1 rfl rfl rfl) (WL.nil (WX.yn ?_)))
      exact WX.mid ⟨((nth z2f z2G).fN),((nth z2f z2G).fD)⟩ h (.r5 rfl rfl rfl rfl rfl) (.s2 .h1 .here)
     ·replace h:=yq h zuq
      refine WC.skip (WX.yn ?_)
      exact WX.mid ⟨z65,z67⟩ h (.r5 rfl rfl rfl rfl rfl) (.s2 .here .here)
    ·rintro zba zbb h
     replace h:=(zOk zba zbb).symm.trans h
     refine WC.a (WL.pu rfl (WL.pu rfl (WL.pu rfl (WL.nil ?_))))
     exact WX.round ⟨zul,(i64 (z2G+1)),zba,zbb⟩ h (Nat.lt_succ_self _) (.r5 rfl rfl rfl rfl rfl) (.s2 .here .here)
   ·replace h:=yq h zup
    refine WC.exit (WX.yg (WX.yg (WX.yz ?_)))
    exact WX.mid ⟨z65,z67⟩ h (.r2 rfl rfl) (.s2 .here .here)
  ·rintro zda zdb h
   replace h:=(zOj zda zdb).symm.trans h
   refine WC.b (WC.a (WL.qA 32 (yh zf rfl (yi .h1) rfl) (WL.ym rfl rfl (yl zz rfl rfl rfl .here rfl rfl rfl) (WL.nil (WX.a (WC.ret ?_))))))
   obtain rfl:=oJ h
   refine WX.yf Tryz.results149 (.agg rfl zf rfl (yi .here) .nil) (fun w hw=>?_)
   exact⟨yD rfl,hw.sub .nil⟩
def y2Y(z4h:List z7)(z5J:z2)(zbc:(List z2)→Int→Option (z2×Int)):Nat→(List z2)→Int→Int→Option (z2×Int)
 | 0,_,_,_=>none
 | zur+1,z4C,z4D,z7A=>if decide (z4D<((z4h.length:Nat):Int)) then chk ((0:Int)≤z4D∧z4D<((z4h.length:Nat):Int)) ((y22 (⟨z7A⟩:z1C) (⟨(⟨(((nth z4h z4D).fBurst).fN),(((nth z4h z4D).fBurst).fD)⟩:z2),(⟨(((nth z4h z4D).fRate).fN),(((nth z4h z4D).fRate).fD)⟩:z2)⟩:z7) z5J).bind fun zbd=>chk ((((z4C++([zbd.1]:List z2)).length:Nat):Int)*16≤140737488355328∧(((z4C++([zbd.1]:List z2)).length:Nat):Int)≤4611686018427387904) (y2Y z4h z5J zbc zur (z4C++([zbd.1]:List z2)) (i64 (z4D+1)) zbd.2.fE)) else zbc z4C z7A
theorem ybM{n:Nat}{z4h:List z7}{z5J:z2}{zbc:(List z2)→Int→Option (z2×Int)}{z4C:List z2}{z4D:Int}{z7A:Int}{r:z2×Int}(h:y2Y z4h z5J zbc n z4C z4D z7A=some r):∃ m,n=m+1:=by
 cases n with
 | zero=>cases h
 | succ m=>exact⟨m,rfl⟩
def y4A(z4h:List z7)(z5J:z2):Option (z2×Int):=
 (y4m z4h).bind fun zCC=>(if !zCC then some true else(y5d z5J).bind fun zCD=>some (!zCD)).bind fun zus=>if zus then some ((⟨0,0⟩:z2),2) else jp2 (fun(z98:List z2) (z99:Int)=>if decide (z99≠0) then some ((⟨0,0⟩:z2),z99) else(y29 z98 (fun(y0:z2) (y1:z2)=>y1i y0 y1)).bind fun zCE=>some (zCE,0)) fun zbc=>y2Y z4h z5J zbc yy ([]:List z2) 0 0
theorem ygX(Z:Zp)(zut:Option Addr)(zuu:Nat)(z4h:List z7)(z5J:z2)(r:z2×Int)(h:y4A z4h z5J=some r)(w₀:World)(hz:PZ [] w₀ Z)(zCF:ZS Z 4 (fun r x=>r=y1A x) zut zuu z4h):
  Calls Tryz.prog 108 #[(.slice zut z4h.length zuu),(.agg #[(.int .i64 z5J.fN),(.int .i64 z5J.fD)])] w₀ fun e w'=>e = .returned (.tuple #[(.agg #[(.int .i64 r.1.fN),(.int .i64 r.1.fD)]),(.int .i64 r.2)])∧Hp [] w₀ w' []:=by
 unfold y4A at h
 refine Calls.yK Tryz.func108 Tryz.ntmps108 ?_
 refine WC.b (WC.a (WL.nA 3 (yI (cs:=[(.int .i64 z5J.fN),(.int .i64 z5J.fD)]) rfl rfl) ?_))
 intro zCG _
 refine WL.nA 4 (yv (cs:=[(.int .i64 0),(.int .i64 0)]) zT rfl) ?_
 intro znJ _
 refine WL.pu rfl (WL.nil (WX.a (WC.b (WC.b ?_))))
 obtain⟨zCC,zOq,h⟩:=z8 h
 obtain⟨zus,zCH,h⟩:=z8 h
 refine WC.a (WL.pu rfl (WL.cA 11 (zb Tryz.call146 (.cons rfl .nil)) .nil (cc hz .nil fun w pz ho=>y7n _ _ _ _ _ zOq w pz zCF) (WL.pu rfl (WL.pu rfl (WL.seg false 3 13 (B:=zus) rfl rfl rfl rfl rfl rfl (fun h=>(oJ (yp zCH h)).symm) (fun _ zOr=>?_) ?_)))))
 ·skip
  have zkK:=yq zCH zOr
  obtain⟨zCD,zOs,zkK⟩:=z8 zkK
  replace zkK:=oJ zkK
  refine WL.qA 14 (yh zf rfl (yi .h1) rfl) (WL.cA 15 (zb Tryz.call147 (.cons rfl .nil)) .nil (cc hz .nil fun w pz ho=>y9r _ _ _ zOs w pz ) (WL.pu rfl (WL.pu rfl ?_)))
  exact WL.yB zkK rfl rfl .all
 refine WL.nil (WX.a (WC.cond rfl (fun zuv=>?_) (fun zuv=>?_)))
 ·replace h:=yp h zuv
  refine WC.b (WC.a (WL.qA 18 (yL (v:=(.agg #[(.int .i64 0),(.int .i64 0)])) (Eos.parts (l:=[]) .nil []) (fun _=>by kernel_rfl)) (WL.ym rfl rfl (yl zz rfl rfl rfl .here rfl rfl rfl) (WL.pu rfl (WL.nil (WX.a (WC.ret (WX.ye ?_))))))))
  obtain rfl:=oJ h
  refine WX.yf Tryz.results108 (.agg rfl zf rfl (yi .here) (.tmp rfl .nil)) (fun w hw=>?_)
  exact⟨y24 rfl rfl,hw.sub .nil⟩
 ·replace h:=yq h zuv
  refine WC.skip (WX.a (WC.b (WC.a (WL.nA 6 (yv (cs:=[(.int .i64 0)]) zxm rfl) ?_))))
  intro zkL _
  refine WL.nil (WX.a (WC.b (WC.a (WL.pu rfl (WL.nil (WX.a ?_))))))
  obtain⟨zbc,zOt,h⟩:=y4s h
  refine WC.y7N (fun(z98:List z2) (z99:Int) (zkM:Option Addr) (zkN:Nat)=>(zbc z98 z99=some r)) (fun z98 z99 zkM zkN=>[(4,(.pointer (some ⟨znJ,0,none⟩))),(6,(.pointer (some ⟨zkL,0,none⟩))),(7,(.slice zkM z98.length zkN))]) (fun z98 z99 zkM zkN=>[row (.slice zkM z98.length zkN) 132 2 (z98.flatMap yw),stb znJ 132 [(.int .i64 0),(.int .i64 0)],stb zkL 262 [(.int .i64 z99)]]) ?_ ?_
  ·skip
   refine WC.b (WC.a (WL.pu rfl (WL.qA 20 (yH Tryz.underlying173 rfl) (WL.pu rfl (WL.nil (WX.a (WC.block (WC.nilRow 132 2 (WC.yaK (fun(zhN:Nat) (z4C:List z2) (z4D:Int) (z7A:Int) (zfd:Option Addr) (zfe:Nat)=>(y2Y z4h z5J zbc zhN z4C z4D z7A=some r)) (fun zhN z4C z4D z7A zfd zfe=>[(3,(.pointer (some ⟨zCG,0,none⟩))),(4,(.pointer (some ⟨znJ,0,none⟩))),(6,(.pointer (some ⟨zkL,0,none⟩))),(7,(.slice zfd z4C.length zfe)),(19,(.slice zut z4h.length zuu)),(20,(.int .i64 ((z4h.length:Nat):Int))),(21,(.int .i64 z4D))]) (fun zhN z4C z4D z7A zfd zfe=>[row (.slice zfd z4C.length zfe) 132 2 (z4C.flatMap yw),stb zCG 132 [(.int .i64 z5J.fN),(.int .i64 z5J.fD)],stb znJ 132 [(.int .i64 0),(.int .i64 0)],stb zkL 262 [(.int .i64 z7A)]]) (fun zhN z4C z4D z7A zfd zfe=>zhN) ⟨yy,([]:List z2),0,0,none,0⟩ h (.r7 rfl rfl rfl rfl rfl rfl rfl) (.s4 .here .h2 .h1 .here) ?_)))))))))
   rintro zhN z4C z4D z7A zfd zfe h
   obtain⟨zur,rfl⟩:=ybM h
   rw[y2Y] at h
   refine WC.b (WC.a (WL.pu rfl (WL.nil (WX.a (WC.b (WC.cond rfl (fun zuw=>?_) (fun zuw=>?_)))))))
   ·replace h:=yp h zuw
    refine WC.skip (WX.a (WC.b (WC.block (WC.b ?_))))
    obtain⟨zOu,h⟩:=yo h
    refine WC.a (WL.znth (dd:=23) rfl rfl (Z:=Z) (Pr:=(fun r x=>r=y1A x)) z6G rfl rfl zCF zOu ?_)
    rintro zYv zYw zOv zYx rfl
    refine WL.qA 24 (yh z2K rfl (y2b hz.pv zOv) rfl) (WL.nA 9 (yv (cs:=[(.int .i64 0),(.int .i64 0),(.int .i64 0),(.int .i64 0)]) z9R rfl) ?_)
    intro zYy _
    refine WL.ym rfl rfl (yl z8G rfl rfl rfl .here rfl rfl rfl) (WL.nil (WX.a ?_))
    obtain⟨zbd,zOw,h⟩:=z8 h
    obtain⟨zOx,h⟩:=yo h
    refine WC.a (WL.pu rfl (WL.qA 26 (yh z2K rfl (yi .here) rfl) (WL.qA 27 (yh zf rfl (yi .h2) rfl) (WL.cA 28 (zb Tryz.call148 (.r3 rfl rfl rfl)) (.cons .h4 .nil) (cc hz (.cons .h4 .nil) fun w pz ho=>ybL _ _ _ _ _ _ zOw w pz  ho) (WL.nA 29 (yR (cs:=([zbd.1]:List z2).flatMap yw) z2g (Eos.parts (l:=[.tmp 28]) (.cons rfl .nil) [0]) (fun _=>by kernel_rfl) rfl (by unfold maxLen;omega)) ?_)))))
    intro zYz _
    refine WL.fA 30 (y54 (enc:=yw) (l1:=z4C) (l2:=([zbd.1]:List z2)) z2g rfl rfl .h3 (fun _=>rfl) rfl rfl (y4r .here) (y5o yc8 _) zOx) ?_
    rintro⟨zOy,zOz⟩ _
    refine WL.pu rfl (WL.nil (WX.yn (WX.a (WC.a (WL.pu rfl (WL.pu rfl (WL.nil ?_)))))))
    exact WX.round ⟨zur,(z4C++([zbd.1]:List z2)),(i64 (z4D+1)),zbd.2.fE,zOy,zOz⟩ h (Nat.lt_succ_self _) (.r7 rfl rfl rfl rfl rfl rfl rfl) (.s4 .here .h3 .h3 .h1)
   ·replace h:=yq h zuw
    refine WC.exit (WX.yg (WX.yg (WX.yz ?_)))
    exact WX.mid ⟨z4C,z7A,zfd,zfe⟩ h (.r3 rfl rfl rfl) (.s3 .here .h1 .h1)
  ·rintro z98 z99 zkM zkN h
   replace h:=(zOt z98 z99).symm.trans h
   refine WC.b (WC.b (WC.a (WL.qA 32 (ya y8j rfl rfl) (WL.qA 33 (yc y35 rfl (yk .h2 rfl)) (WL.pu rfl (WL.nil (WX.a (WC.cond rfl (fun zux=>?_) (fun zux=>?_)))))))))
   ·replace h:=yp h zux
    refine WC.b (WC.yP (fun i=>[3].contains i) [y7q zkL 262 [(0,(.int .i64 z99))]] rfl (WD.pA 0 35 rfl (fun _=>yL (v:=(.agg #[(.int .i64 0),(.int .i64 0)])) (Eos.parts (l:=[]) .nil []) (fun _=>by kernel_rfl)) (WD.pA 1 36 rfl (fun _=>ya y8j rfl rfl) (WD.sA 2 37 rfl (Sin.wk (.cons .h2 .nil) (.stb (.cons rfl .nil) .nil)) (yc y35 rfl (y5S .here (.head _))) (WD.forced0 (i:=3) rfl (by kernel_rfl) rfl rfl rfl (Sin.wk (.cons .h2 .nil) (.stb (.cons rfl .nil) .nil)) (yl zz rfl rfl rfl .h1 rfl rfl rfl) (WD.pA 4 5 rfl (fun _=>q_z rfl) (WD.done (by kernel_rfl) (WX.a (WC.ret (WX.ye ?_))))))))))
    obtain rfl:=oJ h
    refine WX.yf Tryz.results108 (.agg rfl zf rfl (yi .here) (.tmp rfl .nil)) (fun w hw=>?_)
    exact⟨y24 rfl rfl,hw.sub .nil⟩
   ·replace h:=yq h zux
    refine WC.skip (WX.a (WC.b ?_))
    obtain⟨zCE,zOA,h⟩:=z8 h
    refine WC.a (WL.pu rfl (WL.cA 39 (zb Tryz.call149 (.r2 rfl rfl)) .nil (ccl hz .nil (.cons .here .nil) fun w pz ho la=>y7v _ _ _ (zdc:=79) (zhJ:=[]) _ (z8y:=(fun(y0:z2) (y1:z2)=>y1i y0 y1)) _ zOA w pz (ZA.row (la _ (.head _) _) (RR.flat (enc:=yw) (fun _=>rfl) _) ⟨w,pz.1⟩) Tryz.call79 (fun w' hz' y0 y1  r  hr=>y4n _ _ _ _ hr w' hz' )) (WL.ym rfl rfl (yl zz rfl rfl rfl .h1 rfl rfl rfl) (WL.pu rfl (WL.nil (WX.a (WC.ret ?_)))))))
    obtain rfl:=oJ h
    refine WX.yf Tryz.results108 (.agg rfl zf rfl (yi .here) (.tmp rfl .nil)) (fun w hw=>?_)
    exact⟨y24 rfl rfl,hw.sub .nil⟩
def y2a(z5i:List (List z7))(z5j:z2)(zbe:Int→Int→Int→Option (z2×z1C)):Nat→Int→Int→Int→Int→Option (z2×z1C)
 | 0,_,_,_,_=>none
 | zuy+1,z5K,z6q,z6X,z6Y=>if decide (z5K<((z5i.length:Nat):Int)) then chk ((0:Int)≤z5K∧z5K<((z5i.length:Nat):Int)) ((y4A (nth z5i z5K) z5j).bind fun zhO=>jp1 (fun(zdd:Int)=>(y13 (⟨zdd⟩:z1C) (fun(y0:z2) (y1:z2)=>y1e y0 y1) (⟨z6X,z6Y⟩:z2) zhO.1).bind fun zff=>y2a z5i z5j zbe zuy (i64 (z5K+1)) zff.2.fE zff.1.fN zff.1.fD) fun znK=>if decide (z6q=0) then znK zhO.2 else znK z6q) else zbe z6X z6Y z6q
theorem y86{n:Nat}{z5i:List (List z7)}{z5j:z2}{zbe:Int→Int→Int→Option (z2×z1C)}{z5K:Int}{z6q:Int}{z6X:Int}{z6Y:Int}{r:z2×z1C}(h:y2a z5i z5j zbe n z5K z6q z6X z6Y=some r):∃ m,n=m+1:=by
 cases n with
 | zero=>cases h
 | succ m=>exact⟨m,rfl⟩
def y36(zde:z1C)(z5i:List (List z7))(z5j:z2):Option (z2×z1C):=
 (y2J).bind fun zkO=>jp3 (fun(zdf:Int) (zdg:Int) (zdh:Int)=>some ((⟨zdf,zdg⟩:z2),(⟨zdh⟩:z1C))) fun zbe=>y2a z5i z5j zbe yy 0 zde.fE zkO.fN zkO.fD
theorem y7I(Z:Zp)(z8z:Nat)(znL:Option Addr)(znM:Nat)(zde:z1C)(z5i:List (List z7))(z5j:z2)(r:z2×z1C)(h:y36 zde z5i z5j=some r)(w₀:World)(hz:PZ (fps [stb z8z 225 [(.int .i64 zde.fE)]]) w₀ Z)(zOB:ZS Z 1 (y1W Z) znL znM z5i)(hown:Hp (fps [stb z8z 225 [(.int .i64 zde.fE)]]) w₀ w₀ [stb z8z 225 [(.int .i64 zde.fE)]]):
  Calls Tryz.prog 76 #[(.pointer (some ⟨z8z,0,none⟩)),(.slice znL z5i.length znM),(.agg #[(.int .i64 z5j.fN),(.int .i64 z5j.fD)])] w₀ fun e w'=>e = .returned (.agg #[(.int .i64 r.1.fN),(.int .i64 r.1.fD)])∧Hp (fps [stb z8z 225 [(.int .i64 zde.fE)]]) w₀ w' [stb z8z 225 [(.int .i64 r.2.fE)]]:=by
 unfold y36 at h
 refine Calls.oh3 Tryz.func76 Tryz.ntmps76 hown ?_
 refine WC.b (WC.a (WL.nA 5 (yI (cs:=[(.int .i64 z5j.fN),(.int .i64 z5j.fD)]) rfl rfl) ?_))
 intro znN _
 refine WL.nA 6 (yv (cs:=[(.int .i64 0),(.int .i64 0)]) zT rfl) ?_
 intro zhP _
 refine WL.nil (WX.a (WC.b ?_))
 obtain⟨zkO,zOC,h⟩:=z8 h
 refine WC.a (WL.cA 12 (zb Tryz.call107 .nil) .nil (cc hz .nil fun w pz ho=>y4c _ _ zOC w pz ) (WL.nA 7 (yv (cs:=[(.int .i64 0),(.int .i64 0)]) zT rfl) ?_))
 intro zhQ _
 refine WL.ym rfl rfl (yl zz rfl rfl rfl .here rfl rfl rfl) (WL.nil (WX.a ?_))
 obtain⟨zbe,zOD,h⟩:=yaO h
 refine WC.y2R (fun(zdf:Int) (zdg:Int) (zdh:Int)=>(zbe zdf zdg zdh=some r)) (fun zdf zdg zdh=>[(6,(.pointer (some ⟨zhP,0,none⟩))),(7,(.pointer (some ⟨zhQ,0,none⟩)))]) (fun zdf zdg zdh=>[stb zhP 132 [(.int .i64 0),(.int .i64 0)],stb zhQ 132 [(.int .i64 zdf),(.int .i64 zdg)],stb z8z 225 [(.int .i64 zdh)]]) ?_ ?_
 ·skip
  refine WC.b (WC.a (WL.pu rfl (WL.qA 14 (yH Tryz.underlying128 rfl) (WL.pu rfl (WL.nil (WX.a (WC.block (WC.y6I (fun(zhR:Nat) (z5K:Int) (z6q:Int) (z6X:Int) (z6Y:Int)=>(y2a z5i z5j zbe zhR z5K z6q z6X z6Y=some r)) (fun zhR z5K z6q z6X z6Y=>[(0,(.pointer (some ⟨z8z,0,none⟩))),(5,(.pointer (some ⟨znN,0,none⟩))),(6,(.pointer (some ⟨zhP,0,none⟩))),(7,(.pointer (some ⟨zhQ,0,none⟩))),(13,(.slice znL z5i.length znM)),(14,(.int .i64 ((z5i.length:Nat):Int))),(15,(.int .i64 z5K))]) (fun zhR z5K z6q z6X z6Y=>[stb z8z 225 [(.int .i64 z6q)],stb znN 132 [(.int .i64 z5j.fN),(.int .i64 z5j.fD)],stb zhP 132 [(.int .i64 0),(.int .i64 0)],stb zhQ 132 [(.int .i64 z6X),(.int .i64 z6Y)]]) (fun zhR z5K z6q z6X z6Y=>zhR) ⟨yy,0,zde.fE,zkO.fN,zkO.fD⟩ h (.r7 rfl rfl rfl rfl rfl rfl rfl) (.s4 .h3 .h2 .h1 .here) ?_))))))))
  rintro zhR z5K z6q z6X z6Y h
  obtain⟨zuy,rfl⟩:=y86 h
  rw[y2a] at h
  refine WC.b (WC.a (WL.pu rfl (WL.nil (WX.a (WC.b (WC.cond rfl (fun zuz=>?_) (fun zuz=>?_)))))))
  ·replace h:=yp h zuz
   refine WC.skip (WX.a (WC.b (WC.block (WC.b ?_))))
   obtain⟨zOE,h⟩:=yo h
   refine WC.a (WL.znth (dd:=17) rfl rfl (Z:=Z) (Pr:=(y1W Z)) z82 rfl rfl zOB zOE ?_)
   rintro zYA zYB zOF zYC ⟨zYD,zYE,rfl,zOG⟩
   refine WL.qA 18 (yc zbO rfl (y5I hz.pv zOF rfl)) (WL.pu rfl (WL.nil (WX.a (WC.b ?_))))
   obtain⟨zhO,zOH,h⟩:=z8 h
   refine WC.a (WL.pu rfl (WL.qA 21 (yh zf rfl (yi .h1) rfl) (WL.cA 22 (zb Tryz.call108 (.r2 rfl rfl)) .nil (cc hz .nil fun w pz ho=>ygX _ _ _ _ _ _ zOH w pz zOG) (WL.pu rfl (WL.pu rfl (WL.pu rfl (WL.nA 10 (yv (cs:=[(.int .i64 0),(.int .i64 0)]) zT rfl) ?_)))))))
   intro zCI _
   refine WL.ym rfl rfl (yl zz rfl rfl rfl .here rfl rfl rfl) (WL.pu rfl (WL.nil (WX.a ?_)))
   obtain⟨znK,zOI,h⟩:=y15 h
   refine WC.y3k (fun(zdd:Int)=>(znK zdd=some r)) (fun zdd=>[(0,(.pointer (some ⟨z8z,0,none⟩))),(5,(.pointer (some ⟨znN,0,none⟩))),(6,(.pointer (some ⟨zhP,0,none⟩))),(7,(.pointer (some ⟨zhQ,0,none⟩))),(10,(.pointer (some ⟨zCI,0,none⟩))),(13,(.slice znL z5i.length znM)),(14,(.int .i64 ((z5i.length:Nat):Int))),(15,(.int .i64 z5K))]) (fun zdd=>[stb z8z 225 [(.int .i64 zdd)],stb znN 132 [(.int .i64 z5j.fN),(.int .i64 z5j.fD)],stb zhP 132 [(.int .i64 0),(.int .i64 0)],stb zhQ 132 [(.int .i64 z6X),(.int .i64 z6Y)],stb zCI 132 [(.int .i64 zhO.1.fN),(.int .i64 zhO.1.fD)]]) ?_ ?_
   ·skip
    refine WC.b (WC.a (WL.pu rfl (WL.qA 26 (y14 rfl) (WL.qA 27 (ya y4P rfl rfl) (WL.qA 28 (yc y35 rfl (yk .h1 rfl)) (WL.pu rfl (WL.nil (WX.a (WC.cond rfl (fun zuA=>?_) (fun zuA=>?_))))))))))
    ·replace h:=yp h zuA
     refine WC.a (WL.pu rfl (WL.pu rfl (WL.qA 32 (y14 rfl) (WL.qA 33 (ya y4P rfl rfl) (WL.ym rfl rfl (yl yan rfl rfl rfl .h1 rfl rfl rfl) (WL.nil ?_))))))
     exact WX.mid zhO.2 h (.r8 rfl rfl rfl rfl rfl rfl rfl rfl) (.s5 .here .h1 .h1 .h1 .here)
    ·replace h:=yq h zuA
     refine WC.skip ?_
     exact WX.mid z6q h (.r8 rfl rfl rfl rfl rfl rfl rfl rfl) (.s5 .h1 .h1 .h1 .h1 .here)
   ·rintro zdd h
    replace h:=(zOI zdd).symm.trans h
    obtain⟨zff,zOJ,h⟩:=z8 h
    refine WC.a (WL.pu rfl (WL.qA 35 (yh zf rfl (yi .h3) rfl) (WL.qA 36 (yh zf rfl (yi .h4) rfl) (WL.cA 37 (zb Tryz.call73 (.r4 rfl rfl rfl rfl)) (.cons .here .nil) (cc hz (.cons .here .nil) fun w pz ho=>y2p _ _ (z6n:=69) (z7w:=[]) _ (z6V:=(fun(y0:z2) (y1:z2)=>y1e y0 y1)) _ _ _ zOJ w pz Tryz.call69 (fun w' hz' y0 y1  r  hr=>y65 _ _ _ _ hr w' hz' ) ho) (WL.ym rfl rfl (yl zz rfl rfl rfl .h3 rfl rfl rfl) (WL.nil (WX.yn (WX.a (WC.a (WL.pu rfl (WL.pu rfl (WL.nil ?_))))))))))))
    exact WX.round ⟨zuy,(i64 (z5K+1)),zff.2.fE,zff.1.fN,zff.1.fD⟩ h (Nat.lt_succ_self _) (.r7 rfl rfl rfl rfl rfl rfl rfl) (.s4 .h1 .h1 .h1 .here)
  ·replace h:=yq h zuz
   refine WC.exit (WX.yg (WX.yg (WX.yz ?_)))
   exact WX.mid ⟨z6X,z6Y,z6q⟩ h (.r2 rfl rfl) (.s3 .h2 .h2 .here)
 ·rintro zdf zdg zdh h
  replace h:=(zOD zdf zdg zdh).symm.trans h
  refine WC.b (WC.a (WL.qA 39 (yh zf rfl (yi .h1) rfl) (WL.ym rfl rfl (yl zz rfl rfl rfl .here rfl rfl rfl) (WL.nil (WX.a (WC.ret ?_))))))
  obtain rfl:=oJ h
  refine WX.yf Tryz.results76 (.agg rfl zf rfl (yi .here) .nil) (fun w hw=>?_)
  exact⟨yD rfl,hw.sub (.cons .h2 .nil)⟩
def y4F(zfg:z1C)(z9a:z2)(zkP:List (List z7))(z7B:zSv):Option (z2×z1C):=
 (y36 zfg zkP z9a).bind fun zuB=>(y13 zuB.2 (fun(y0:z2) (y1:z2)=>y3B y0 y1) zuB.1 z7B.fRate).bind fun zuC=>(y13 zuC.2 (fun(y0:z2) (y1:z2)=>y2g y0 y1) zuC.1 z9a).bind fun zuD=>(y13 zuD.2 (fun(y0:z2) (y1:z2)=>y1e y0 y1) zuD.1 z7B.fL).bind fun zuE=>some (zuE.1,zuE.2)
theorem ybN(Z:Zp)(zhS:Nat)(zCJ:Addr)(zCK:Option Addr)(zCL:Nat)(zCM:Addr)(zfg:z1C)(z9a:z2)(zkP:List (List z7))(z7B:zSv)(r:z2×z1C)(h:y4F zfg z9a zkP z7B=some r)(w₀:World)(hz:PZ (fps [stb zhS 225 [(.int .i64 zfg.fE)]]) w₀ Z)(zOK:ZS Z 1 (y1W Z) zCK zCL zkP)(zOL:ZC Z zCJ [(.slice zCK zkP.length zCL)])(zCN:ZC Z zCM [(.int .i64 z7B.fRate.fN),(.int .i64 z7B.fRate.fD),(.int .i64 z7B.fL.fN),(.int .i64 z7B.fL.fD)])(hown:Hp (fps [stb zhS 225 [(.int .i64 zfg.fE)]]) w₀ w₀ [stb zhS 225 [(.int .i64 zfg.fE)]]):
  Calls Tryz.prog 72 #[(.pointer (some ⟨zhS,0,none⟩)),(.agg #[(.int .i64 z9a.fN),(.int .i64 z9a.fD)]),(.pointer (some zCJ)),(.pointer (some zCM))] w₀ fun e w'=>e = .returned (.agg #[(.int .i64 r.1.fN),(.int .i64 r.1.fD)])∧Hp (fps [stb zhS 225 [(.int .i64 zfg.fE)]]) w₀ w' [stb zhS 225 [(.int .i64 r.2.fE)]]:=by
 unfold y4F at h
 refine Calls.oh4 Tryz.func72 Tryz.ntmps72 hown ?_
 refine WC.b (WC.a (WL.nA 5 (yI (cs:=[(.int .i64 z9a.fN),(.int .i64 z9a.fD)]) rfl rfl) ?_))
 intro zOM _
 refine WL.nA 6 (yv (cs:=[(.int .i64 0),(.int .i64 0)]) zT rfl) ?_
 intro zYF _
 refine WL.nil (WX.a (WC.b ?_))
 obtain⟨zuB,zON,h⟩:=z8 h
 obtain⟨zuC,zOO,h⟩:=z8 h
 obtain⟨zuD,zOP,h⟩:=z8 h
 obtain⟨zuE,zOQ,h⟩:=z8 h
 refine WC.yP (fun i=>[6,9,11,14,15].contains i) [stb zOM 132 [(.int .i64 z9a.fN),(.int .i64 z9a.fD)]] rfl (WD.pA 0 7 rfl (fun _=>q_m rfl) (WD.pA 1 8 rfl (fun _=>q_m rfl) (WD.pA 2 9 rfl (fun _=>q_m rfl) (WD.pA 3 10 rfl (fun _=>q_m rfl) (WD.qA 4 11 rfl (yc z7h rfl (y5I hz.pv zOL rfl)) (WD.qA 5 12 rfl (yh zf rfl (yi .h1) rfl) (WD.pA 7 14 rfl (fun _=>ya y8h rfl rfl) (WD.sA 8 15 rfl (Sin.of (.cons .h1 .nil)) (yT (cs:=[(.int .i64 z7B.fRate.fN),(.int .i64 z7B.fRate.fD)]) zf rfl rfl (yae (off:=0) (s:=2) hz.pv zCN rfl)) (WD.sA 10 17 rfl (Sin.of (.cons .h1 .nil)) (yh zf rfl (yi .here) rfl) (WD.pA 12 19 rfl (fun _=>ya y8i rfl rfl) (WD.sA 13 20 rfl (Sin.of (.cons .h1 .nil)) (yT (cs:=[(.int .i64 z7B.fL.fN),(.int .i64 z7B.fL.fD)]) zf rfl rfl (yae (off:=2) (s:=2) hz.pv zCN rfl)) (WD.call0 (i:=6) (dd:=13) rfl (by kernel_rfl) rfl rfl rfl (.inl ⟨rfl,(Sin.of (.cons .h2 .nil))⟩) (zb Tryz.call76 (.r3 rfl rfl rfl)) (.cons .h2 .nil) (cc hz (.cons .h2 .nil) fun w pz ho=>Calls.mono (y7I _ _ _ _ _ _ _ _ zON w pz zOK ho) (fun _ _ h'=>⟨h'.1,trivial,h'.2⟩)) ?_))))))))))))
 intro _
 refine WD.call0 (i:=9) (dd:=16) rfl (by kernel_rfl) rfl rfl rfl (.inl ⟨rfl,(Sin.of (.cons .h2 .nil))⟩) (zb Tryz.call73 (.r4 rfl rfl rfl rfl)) (.cons .here .nil) (cc hz (.cons .here .nil) fun w pz ho=>Calls.mono (y2p _ _ (z6n:=75) (z7w:=[]) _ (z6V:=(fun(y0:z2) (y1:z2)=>y3B y0 y1)) _ _ _ zOO w pz Tryz.call75 (fun w' hz' y0 y1  r  hr=>yev _ _ _ _ hr w' hz' ) ho) (fun _ _ h'=>⟨h'.1,trivial,h'.2⟩)) ?_
 intro _
 refine WD.call0 (i:=11) (dd:=18) rfl (by kernel_rfl) rfl rfl rfl (.inl ⟨rfl,(Sin.of (.cons .h2 .nil))⟩) (zb Tryz.call73 (.r4 rfl rfl rfl rfl)) (.cons .here .nil) (cc hz (.cons .here .nil) fun w pz ho=>Calls.mono (y2p _ _ (z6n:=74) (z7w:=[]) _ (z6V:=(fun(y0:z2) (y1:z2)=>y2g y0 y1)) _ _ _ zOP w pz Tryz.call74 (fun w' hz' y0 y1  r  hr=>y8G _ _ _ _ hr w' hz' ) ho) (fun _ _ h'=>⟨h'.1,trivial,h'.2⟩)) ?_
 intro _
 refine WD.call0 (i:=14) (dd:=21) rfl (by kernel_rfl) rfl rfl rfl (.inl ⟨rfl,(Sin.of (.cons .h2 .nil))⟩) (zb Tryz.call73 (.r4 rfl rfl rfl rfl)) (.cons .here .nil) (cc hz (.cons .here .nil) fun w pz ho=>Calls.mono (y2p _ _ (z6n:=69) (z7w:=[]) _ (z6V:=(fun(y0:z2) (y1:z2)=>y1e y0 y1)) _ _ _ zOQ w pz Tryz.call69 (fun w' hz' y0 y1  r  hr=>y65 _ _ _ _ hr w' hz' ) ho) (fun _ _ h'=>⟨h'.1,trivial,h'.2⟩)) ?_
 intro _
 refine WD.y37 (i:=15) rfl (by kernel_rfl) rfl rfl rfl (by kernel_rfl) (yl zz rfl rfl rfl .h1 rfl rfl rfl) (WD.done (by kernel_rfl) (WX.a (WC.ret ?_)))
 obtain rfl:=oJ h
 refine WX.yf Tryz.results72 (.agg rfl zf rfl (yi .here) .nil) (fun w hw=>?_)
 exact⟨yD rfl,hw.sub (.cons .h1 .nil)⟩
end Go.Proofs.YtcahmabkeaijdaaGreat
