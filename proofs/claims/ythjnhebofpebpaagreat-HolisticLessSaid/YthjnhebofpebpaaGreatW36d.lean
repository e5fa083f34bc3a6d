/- A part of this claim's proof: models of functions, walks, plain laws. No conditions. -/
import Derived.Test.YthjnhebofpebpaaGreatW36c
set_option linter.all false
namespace Go.Proofs.YthjnhebofpebpaaGreat
open Go Go.RowKit Sep
set_option maxRecDepth 30000
set_option maxHeartbeats 4000000
def y23(zeG:z1z)(zcn:z1→z1→Option (z1×Int))(zeH:z1)(zeI:z1):Option (z1×z1z):=
 if decide (zeG.fE≠0) then some ((⟨0,0⟩:z1),zeG) else(zcn zeH zeI).bind fun zqQ=>some (zqQ.1,(⟨zqQ.2⟩:z1z))
theorem y6e(Z:Zp)(zjK:Nat)(zao:FuncId)(zeJ:List Value)(zeG:z1z)(zcn:z1→z1→Option (z1×Int))(zeH:z1)(zeI:z1)(r:z1×z1z)(h:y23 zeG zcn zeH zeI=some r)(w₀:World)(hz:PZ (fps [stb zjK 307 [(vi zeG.fE)]]) w₀ Z)(zUh:∀ args w,(callFunc zao args).run Tryz.prog w = .ok (.enter zao args) w)(zUi:∀ w:World,PZ [] w Z→∀(x0:z1) (x1:z1) (r:z1×Int),zcn x0 x1=some r→Calls Tryz.prog zao (([(.agg #[(vi x0.fN),(vi x0.fD)]),(.agg #[(vi x1.fN),(vi x1.fD)])]:List Value)++zeJ).toArray w fun e w'=>e = .returned (.tuple #[(.agg #[(vi r.1.fN),(vi r.1.fD)]),(vi r.2)])∧Hp [] w w' [])(hown:Hp (fps [stb zjK 307 [(vi zeG.fE)]]) w₀ w₀ [stb zjK 307 [(vi zeG.fE)]]):
  Calls Tryz.prog 210 #[(vp zjK),(.func (.func zao) #[] (zeJ).toArray),(.agg #[(vi zeH.fN),(vi zeH.fD)]),(.agg #[(vi zeI.fN),(vi zeI.fD)])] w₀ fun e w'=>e = .returned (.agg #[(vi r.1.fN),(vi r.1.fD)])∧Hp (fps [stb zjK 307 [(vi zeG.fE)]]) w₀ w' [stb zjK 307 [(vi r.2.fE)]]:=by
 unfold y23 at h
 refine Calls.oh4 Tryz.func210 Tryz.ntmps210 hown ?_
 refine WC.b<|Ld (Lg 6 (yH (cs:=[(vi zeH.fN),(vi zeH.fD)]) U U) fun z17b _=>Lg 7 (yH (cs:=[(vi zeI.fN),(vi zeI.fD)]) U U) fun z17c _=>Lg 8 (yv (cs:=[(vi 0),(vi 0)]) zW U) fun z17d _=>WL.nil<|Lb<|WC.b<|WC.b<|Ld<|La U<|Le 12 (y1e U)<|Le 13 (ya y9h U U)<|Le 14 (yc y3A U<|yh .h3 U)<|La U<|WL.nil<|Lb<|WC.cond U (fun zyr=>?_)<|fun zyr=>?_)
 ·replace h:=yq h zyr
  refine WC.b<|Ld<|Le 16 (yL (v:=(.agg #[(vi 0),(vi 0)])) (Lo (l:=[]) .nil []) (fun _=>by kernel_rfl))<|Lk U U (yl zA U U U .here U U U)<|WL.nil<|Lb<|WC.ret<|Li ?_
  obtain rfl:=oJ h
  refine Lh Tryz.results210 (.agg U zg U (yk .here) .nil)<|fun w hw=>?_
  exact⟨yC U,hw.sub (.cons .h3 .nil)⟩
 ·replace h:=yr h zyr
  refine WC.skip<|Lb<|WC.b ?_
  obtain⟨zqQ,zUj,h⟩:=za h
  refine Ld<|La U<|Le 19 (yi zg U (yk .h2) U)<|Le 20 (yi zg U (yk .h1) U)<|Ll 21 (y2J (l:=[.tmp 19,.tmp 20]) (f:=zao) (caps:=zeJ) zUh U<|.r2 U U) .nil (fun w hw=>zUi w (hz.now hw) zeH zeI zqQ  zUj)<|La U<|La U<|La U (Lg 9 (yv (cs:=[(vi 0),(vi 0)]) zW U) fun z17e _=>Lk U U (yl zA U U U .here U U U)<|La U<|WL.nil<|Lb<|WC.b<|Ld<|La U<|La U<|Le 26 (y1e U)<|Le 27 (ya y9h U U)<|Lk U U (yl ybh U U U .h4 U U U)<|WL.nil<|Lb<|WC.b<|Ld<|Le 28 (yi zg U (yk .h1) U)<|Lk U U (yl zA U U U .h2 U U U)<|WL.nil<|Lb<|WC.ret ?_)
  obtain rfl:=oJ h
  refine Lh Tryz.results210 (.agg U zg U (yk .here) .nil)<|fun w hw=>?_
  exact⟨yC U,hw.sub (.cons .h1 .nil)⟩
def ya8(zjL:z1)(zjM:z1):Option (Int×Int):=
 some ((i64 (zjL.fN*zjM.fD)),(i64 (zjL.fD*zjM.fN)))
theorem yia{Z:Zp}{zIv:Addr}{zIw:Addr}{zjL:z1}{zjM:z1}{r:Int×Int}(h:ya8 zjL zjM=some r)(w₀:World)(hz:PZ [] w₀ Z)(zIx:ZC Z zIv [(vi zjL.fN),(vi zjL.fD)])(zIy:ZC Z zIw [(vi zjM.fN),(vi zjM.fD)]):
  Calls Tryz.prog 190 #[(vq zIv),(vq zIw)] w₀ fun e w'=>e = .returned (.tuple #[(vi r.1),(vi r.2)])∧Hp [] w₀ w' []:=by
 unfold ya8 at h
 refine Lz Tryz.func190 Tryz.ntmps190 ?_
 refine WC.b<|Ld<|La U<|La U<|WL.nil<|Lb<|WC.b<|Lx (fun i=>[].contains i) [] U<|Lf 0 4 U (fun _=>ya y2C U U)<|Lj 1 5 U (yc ys U<|y1c hz.pv zIx U)<|Lf 2 6 U (fun _=>ya y37 U U)<|Lj 3 7 U (yc ys U<|y1c hz.pv zIy U)<|Lf 4 8 U (fun _=>y7k U U U)<|Lf 5 9 U (fun _=>ya y37 U U)<|Lj 6 10 U (yc ys U<|y1c hz.pv zIx U)<|Lf 7 11 U (fun _=>ya y2C U U)<|Lj 8 12 U (yc ys U<|y1c hz.pv zIy U)<|Lf 9 13 U (fun _=>y7k U U U)<|Lf 10 2 U (fun _=>q_z U)<|Lf 11 3 U (fun _=>q_z U)<|WD.done (by kernel_rfl)<|Lb<|WC.ret ?_
 obtain rfl:=oJ h
 refine Lh Tryz.results190 (.tmp U<|.tmp U .nil)<|fun w hw=>?_
 exact⟨y1R U U,hw.sub .nil⟩
def y9L(zeK:z1)(zap:z1):Option (z1×Int):=
 (y1Y zeK).bind fun zIz=>(if !zIz then some true else(y1Y zap).bind fun zIA=>some (!zIA)).bind fun zqR=>if zqR||(decide (zap.fN=0)) then some ((⟨0,0⟩:z1),2) else(ya8 zeK zap).bind fun zys=>(y5G zys.1 zys.2).bind fun zyt=>some (zyt.1,zyt.2)
theorem yiI{Z:Zp}{zeK:z1}{zap:z1}{r:z1×Int}(h:y9L zeK zap=some r)(w₀:World)(hz:PZ [] w₀ Z):
  Calls Tryz.prog 159 #[(.string ⟨#[47]⟩),(.agg #[(vi zeK.fN),(vi zeK.fD)]),(.agg #[(vi zap.fN),(vi zap.fD)])] w₀ fun e w'=>e = .returned (.tuple #[(.agg #[(vi r.1.fN),(vi r.1.fD)]),(vi r.2)])∧Hp [] w₀ w' []:=by
 unfold y9L at h
 refine Ke Tryz.func159 Tryz.ntmps159 ?_
 refine WC.b<|Ld (Lg 4 (yH (cs:=[(vi zeK.fN),(vi zeK.fD)]) U U) fun znu _=>Lg 5 (yH (cs:=[(vi zap.fN),(vi zap.fD)]) U U) fun znv _=>Lg 6 (yv (cs:=[(vi 0),(vi 0)]) zW U) fun z17f _=>La U<|WL.nil<|Lb<|WC.b<|WC.b ?_)
 obtain⟨zIz,zUk,h⟩:=za h
 obtain⟨zqR,zIB,h⟩:=za h
 refine Ld<|Le 9 (yi zg U (yk .h2) U)<|Ll 10 (zb Tryz.call130<|.cons U .nil) .nil (cc hz .nil fun w pz ho=>y2T zUk w pz )<|La U<|La U<|Lv false 3 12 (B:=zqR) U U U U U U (fun h=>(oJ<|yq zIB h).symm) (fun _ zUl=>?_) ?_
 ·skip
  have znw:=yr zIB zUl
  obtain⟨zIA,zUm,znw⟩:=za znw
  replace znw:=oJ znw
  refine Le 13 (yi zg U (yk .h1) U)<|Ll 14 (zb Tryz.call130<|.cons U .nil) .nil (cc hz .nil fun w pz ho=>y2T zUm w pz )<|La U<|La U ?_
  exact Lw znw U U .all
 refine La U<|Lv false 7 17 (B:=zqR||(decide (zap.fN=0))) U U U U U U (fun h=>(y7w h).symm) (fun _ zUn=>?_) ?_
 ·skip
  refine La U<|Le 19 (ydb (r:=true) (by decide) U U)<|La U<|Le 21 (ya y2C U U)<|Le 22 (yc ys U<|yh .h1 U)<|La U<|La U<|La U ?_
  exact Lw (y7x zUn) U U .all
 refine WL.nil<|Lb<|WC.cond U (fun zyu=>?_)<|fun zyu=>?_
 ·replace h:=yq h zyu
  refine WC.b<|Ld<|Le 26 (yL (v:=(.agg #[(vi 0),(vi 0)])) (Lo (l:=[]) .nil []) (fun _=>by kernel_rfl))<|Lk U U (yl zA U U U .here U U U)<|La U<|WL.nil<|Lb<|WC.ret<|Li ?_
  obtain rfl:=oJ h
  refine Lh Tryz.results159 (.agg U zg U (yk .here)<|.tmp U .nil)<|fun w hw=>?_
  exact⟨y1R U U,hw.sub .nil⟩
 ·replace h:=yr h zyu
  refine WC.skip<|Lb<|WC.b<|Ld<|Lg 27 (y3r Value.string<|fun x=>x) ?_
  intro z17g _
  let A:Value:=(.func (.func 190) #[] #[(vp znu),(vp znv)]);refine Le 28 (y14 (L2 (l:=[.tmp 4,.tmp 5]) (.r2 U U))) (Lk U U (y43 (k:=⟨#[43]⟩) (v:=(.func (.func 187) #[] #[(vp znu),(vp znv)])) y4y Tryz.underlying304 U U U U .here) (Le 29 (y14 (L2 (l:=[.tmp 4,.tmp 5]) (.r2 U U))) (Lk U U (y43 (k:=⟨#[45]⟩) (v:=(.func (.func 188) #[] #[(vp znu),(vp znv)])) y4y Tryz.underlying304 U U U U .here) (Le 30 (y14 (L2 (l:=[.tmp 4,.tmp 5]) (.r2 U U))) (Lk U U (y43 (k:=⟨#[42]⟩) (v:=(.func (.func 189) #[] #[(vp znu),(vp znv)])) y4y Tryz.underlying304 U U U U .here) (Le 31 (y14 (L2 (l:=[.tmp 4,.tmp 5]) (.r2 U U))) (Lk U U (y43 (k:=⟨#[47]⟩) (v:=A) y4y Tryz.underlying304 U U U U .here) (La U (La U (WL.nil (Lb (WC.b ?_))))))))))))
  obtain⟨zys,zUo,h⟩:=za h
  obtain⟨zyt,zUp,h⟩:=za h
  refine Ld<|La U<|La U<|Le 35 (yda (k:=⟨#[47]⟩) (dflt:=.nilFunc) (r:=A) y4y Tryz.underlying304 zpE U U U .here (by rfl))<|Ll 36 (y2J (l:=[]) Tryz.call190 U .nil) .nil (ccl hz .nil (.s2 .h3 .h2) fun w pz ho la=>yia zUo w pz ((la _ (.head _) _).stb)<|(la _ (.tail _<|.head _) _).stb)<|La U<|La U<|Ll 39 (zb Tryz.call160<|.r2 U U) .nil (cc hz .nil fun w pz ho=>y8R zUp w pz )<|La U<|La U<|Lk U U (yl zA U U U .h1 U U U)<|La U<|WL.nil<|Lb<|WC.ret ?_
  obtain rfl:=oJ h
  refine Lh Tryz.results159 (.agg U zg U (yk .here)<|.tmp U .nil)<|fun w hw=>?_
  exact⟨y1R U U,hw.sub .nil⟩
def y4d(zh7:z1)(zh8:z1):Option (z1×Int):=
 (y9L zh7 zh8).bind fun zyv=>some (zyv.1,zyv.2)
theorem yfr{Z:Zp}{zh7:z1}{zh8:z1}{r:z1×Int}(h:y4d zh7 zh8=some r)(w₀:World)(hz:PZ [] w₀ Z):
  Calls Tryz.prog 125 #[(.agg #[(vi zh7.fN),(vi zh7.fD)]),(.agg #[(vi zh8.fN),(vi zh8.fD)])] w₀ fun e w'=>e = .returned (.tuple #[(.agg #[(vi r.1.fN),(vi r.1.fD)]),(vi r.2)])∧Hp [] w₀ w' []:=by
 unfold y4d at h
 refine Lz Tryz.func125 Tryz.ntmps125 ?_
 refine WC.b<|Ld (Lg 2 (yH (cs:=[(vi zh7.fN),(vi zh7.fD)]) U U) fun z17h _=>Lg 3 (yH (cs:=[(vi zh8.fN),(vi zh8.fD)]) U U) fun z17i _=>Lg 4 (yv (cs:=[(vi 0),(vi 0)]) zW U) fun z17j _=>La U<|WL.nil<|Lb<|WC.b ?_)
 obtain⟨zyv,zUq,h⟩:=za h
 refine Ld<|Le 6 (yi zg U (yk .h2) U)<|Le 7 (yi zg U (yk .h1) U)<|Ll 8 (zb Tryz.call159<|.r3 U U U) .nil (cc hz .nil fun w pz ho=>yiI zUq w pz )<|La U<|La U<|Lk U U (yl zA U U U .here U U U)<|La U<|WL.nil<|Lb<|WC.ret ?_
 obtain rfl:=oJ h
 refine Lh Tryz.results125 (.agg U zg U (yk .here)<|.tmp U .nil)<|fun w hw=>?_
 exact⟨y1R U U,hw.sub .nil⟩
theorem zUr:∀ w,(isAgg (Tryz.y3J.t 24)).run Tryz.prog w = .ok true w:=fun _=>by kernel_rfl
theorem zUs:∀ w,(Go.sizeOf (Tryz.y3J.t 24)).run Tryz.prog w = .ok 2 w:=fun _=>by kernel_rfl
def y4L(z5V:List z1)(znx:Int)(zny:Int)(zjN:Int)(zh9:z1→z1→Option Int):Option (List z1):=chk ((znx=0∧zny=((z5V.length:Nat):Int))∧(0≤zjN∧zjN<4611686018427387904∧z5V.length<4611686018427387904)) (chk (y8o zh9 (yV zh9 z5V)=true) (some (yV zh9 z5V)))
theorem y8D(Z:Zp)(zha:Option Addr)(zhb:Nat)(znz:FuncId)(zyw:List Value)(z5V:List z1)(znx:Int)(zny:Int)(zjN:Int)(zh9:z1→z1→Option Int)(r:List z1)(w₀:World)(hz:PZ (fps [row (.slice zha z5V.length zhb) 175 2 (z5V.flatMap yA)]) w₀ Z)(zUt:∀ args w,(callFunc znz args).run Tryz.prog w = .ok (.enter znz args) w)(zUu:∀ w:World,PZ [] w Z→∀(x0:z1) (x1:z1) (r:Int),zh9 x0 x1=some r→Calls Tryz.prog znz (([(.agg #[(vi x0.fN),(vi x0.fD)]),(.agg #[(vi x1.fN),(vi x1.fD)])]:List Value)++zyw).toArray w fun e w'=>e = .returned (vi r)∧Hp [] w w' [])(h:y4L z5V znx zny zjN zh9=some r)(hown:Hp (fps [row (.slice zha z5V.length zhb) 175 2 (z5V.flatMap yA)]) w₀ w₀ [row (.slice zha z5V.length zhb) 175 2 (z5V.flatMap yA)]):
  Calls Tryz.prog 227 #[(.slice zha z5V.length zhb),(vi znx),(vi zny),(vi zjN),(.func (.func znz) #[] (zyw).toArray)] w₀ fun e w'=>e = .returned (.tuple #[])∧(r.length=z5V.length)∧Hp (fps [row (.slice zha z5V.length zhb) 175 2 (z5V.flatMap yA)]) w₀ w' [row (.slice zha r.length zhb) 175 2 (r.flatMap yA)]:=by
 obtain⟨h0,h⟩:=yn h
 obtain⟨h1,h⟩:=yn h
 have hr:=(oJ h).symm
 exact y9C (P:=Tryz.prog) (f:=227) (e:=175) (k:=2) (enc:=yA) (fun _=>U) (by decide) ydc (fun β _ enc cf g cb hO blk off cap d0 w0 eg hC R=>Tryz.y99 2 zUr zUs enc cf g cb hO blk off cap d0 w0 eg hC R) (Tryz.y8X (α:=Unit)) hz zUt zUu h0 h1 hr hown
def y2e(z5d:List z1)(zjO:z1→z1→Option Int):Option (List z1):=
 (y4p (u64 ((z5d.length:Nat):Int))).bind fun zqS=>(y4L z5d 0 ((z5d.length:Nat):Int) zqS zjO).bind fun zqT=>some zqT
theorem y8h(Z:Zp)(zeL:Option Addr)(zeM:Nat)(zjP:FuncId)(zqU:List Value)(z5d:List z1)(zjO:z1→z1→Option Int)(r:List z1)(h:y2e z5d zjO=some r)(w₀:World)(hz:PZ (fps [row (.slice zeL z5d.length zeM) 175 2 (z5d.flatMap yA)]) w₀ Z)(zUv:∀ args w,(callFunc zjP args).run Tryz.prog w = .ok (.enter zjP args) w)(zUw:∀ w:World,PZ [] w Z→∀(x0:z1) (x1:z1) (r:Int),zjO x0 x1=some r→Calls Tryz.prog zjP (([(.agg #[(vi x0.fN),(vi x0.fD)]),(.agg #[(vi x1.fN),(vi x1.fD)])]:List Value)++zqU).toArray w fun e w'=>e = .returned (vi r)∧Hp [] w w' [])(hown:Hp (fps [row (.slice zeL z5d.length zeM) 175 2 (z5d.flatMap yA)]) w₀ w₀ [row (.slice zeL z5d.length zeM) 175 2 (z5d.flatMap yA)]):
  Calls Tryz.prog 214 #[(.slice zeL z5d.length zeM),(.func (.func zjP) #[] (zqU).toArray)] w₀ fun e w'=>e = .returned (.tuple #[])∧(r.length=z5d.length)∧Hp (fps [row (.slice zeL z5d.length zeM) 175 2 (z5d.flatMap yA)]) w₀ w' [row (.slice zeL r.length zeM) 175 2 (r.flatMap yA)]:=by
 unfold y2e at h
 refine Kh Tryz.func214 Tryz.ntmps214 hown ?_
 refine WC.b<|Ld<|La U<|Le 6 (yI Tryz.underlying229 U)<|La U<|WL.nil<|Lb ?_
 obtain⟨zqS,zUx,h⟩:=za h
 obtain⟨zqT,zUy,h⟩:=za h
 refine Ld<|La U<|La U<|La U<|Le 10 (y7t Tryz.underlying3 Tryz.underlying147 U U)<|Ll 11 (zb Tryz.call57<|.cons U .nil) .nil (cc hz .nil fun w pz ho=>y8P (Z:=_)  (z8E:=(u64 ((z5d.length:Nat):Int))) (r:=zqS) w pz  zUx)<|La U<|WL.y5j (dd:=13) U U U (zb Tryz.call227<|.r5 U U U U U) (.cons .here .nil) (cc hz (.cons .here .nil) fun w pz ho=>y8D (Z:=_) (zha:=zeL) (zhb:=zeM) (znz:=zjP) (zyw:=zqU) (z5V:=z5d) (znx:=0) (zny:=((z5d.length:Nat):Int)) (zjN:=zqS) (zh9:=zjO) (r:=zqT) w pz zUv zUw zUy ho) ?_
 rintro  zIC
 refine Ki (i:=0) U (u:=(.slice zeL zqT.length zeM)) (y8n zIC.symm)<|WL.nil ?_
 obtain rfl:=oJ h
 refine WX.y5f Tryz.results214 .nil<|fun w hw=>?_
 exact⟨y7v,(zIC.trans U),hw.sub (.cons .here .nil)⟩
def y1n(zM:List z1)(zw:Int)(zco:(List z1)→Int→Option (List z1)):Nat→(List z1)→Int→Int→Option (List z1)
 | 0,_,_,_=>none
 | zyx+1,zS,z3M,k2_42445=>if decide (k2_42445<((zM.length-(zw:Int).toNat:Nat):Int)) then jp2 (fun(z8L:List z1) (zcp:Int)=>y1n zM zw zco zyx z8L zcp (i64 (k2_42445+1))) fun zqV=>chk ((0:Int)≤k2_42445∧k2_42445<((zM.length-(zw:Int).toNat:Nat):Int)) (chk ((0:Int)≤(i64 (k2_42445-1))∧(i64 (k2_42445-1))<((zM.length-(zw:Int).toNat:Nat):Int)) (if decide ((⟨((nth zS (zw+k2_42445)).fN),((nth zS (zw+k2_42445)).fD)⟩:z1)≠(⟨((nth zS (zw+(i64 (k2_42445-1)))).fN),((nth zS (zw+(i64 (k2_42445-1)))).fD)⟩:z1)) then chk ((0:Int)≤k2_42445∧k2_42445<((zM.length-(zw:Int).toNat:Nat):Int)) (chk ((0:Int)≤z3M∧z3M<((zS.length:Nat):Int)) (zqV (zS.set (z3M:Int).toNat (⟨((nth zS (zw+k2_42445)).fN),((nth zS (zw+k2_42445)).fD)⟩:z1)) (i64 (z3M+1)))) else zqV zS z3M)) else zco zS z3M
theorem y6T{n:Nat}{zM:List z1}{zw:Int}{zco:(List z1)→Int→Option (List z1)}{zS:List z1}{z3M:Int}{k2_42445:Int}{r:List z1}(h:y1n zM zw zco n zS z3M k2_42445=some r):∃ m,n=m+1:=by
 cases n with
 | zero=>cases h
 | succ m=>exact⟨m,rfl⟩
def y1o(zM:List z1)(zcq:Option (List z1)):Nat→Int→Option (List z1)
 | 0,_=>none
 | zyy+1,zw=>if decide (zw<((zM.length:Nat):Int)) then jp0 (y1o zM zcq zyy (i64 (zw+1))) fun zyz=>chk ((0:Int)≤zw∧zw<((zM.length:Nat):Int)) (chk ((0:Int)≤(i64 (zw-1))∧(i64 (zw-1))<((zM.length:Nat):Int)) (if decide ((⟨((nth zM zw).fN),((nth zM zw).fD)⟩:z1)=(⟨((nth zM (i64 (zw-1))).fN),((nth zM (i64 (zw-1))).fD)⟩:z1)) then chk ((0:Int)≤zw∧zw<((zM.length:Nat):Int)) (jp2 (fun(z3N:List z1) (z3O:Int)=>chk ((0:Int)≤z3O∧z3O≤((z3N.length:Nat):Int)) (chk ((0:Int)≤z3O∧z3O≤(((z3N.take (z3O:Int).toNat++List.replicate (z3N.length-(z3O:Int).toNat) ((⟨0,0⟩:z1):z1)).length:Nat):Int)) (some ((z3N.take (z3O:Int).toNat++List.replicate (z3N.length-(z3O:Int).toNat) ((⟨0,0⟩:z1):z1)).take (z3O:Int).toNat)))) fun zco=>y1n zM zw zco yx zM zw 1) else zyz)) else zcq
theorem y6U{n:Nat}{zM:List z1}{zcq:Option (List z1)}{zw:Int}{r:List z1}(h:y1o zM zcq n zw=some r):∃ m,n=m+1:=by
 cases n with
 | zero=>cases h
 | succ m=>exact⟨m,rfl⟩
def y2p(zM:List z1):Option (List z1):=
 if decide (((zM.length:Nat):Int)<2) then some zM else jp0 (some zM) fun zcq=>y1o zM zcq yx 1
theorem y8q{Z:Zp}{z8d:Option Addr}{z34:Nat}{zM:List z1}{r:List z1}(h:y2p zM=some r)(w₀:World)(hz:PZ (fps [row (.slice z8d zM.length z34) 175 2 (zM.flatMap yA)]) w₀ Z)(hown:Hp (fps [row (.slice z8d zM.length z34) 175 2 (zM.flatMap yA)]) w₀ w₀ [row (.slice z8d zM.length z34) 175 2 (zM.flatMap yA)]):
  Calls Tryz.prog 215 #[(.slice z8d zM.length z34)] w₀ fun e w'=>∃ zID:Option Addr,∃ zIE:Nat,e = .returned (.slice zID r.length zIE)∧True∧Hp (fps [row (.slice z8d zM.length z34) 175 2 (zM.flatMap yA)]) w₀ w' [row (.slice zID r.length zIE) 175 2 (r.flatMap yA)]:=by
 unfold y2p at h
 refine Calls.oh1 Tryz.func215 Tryz.ntmps215 hown ?_
 refine WC.b<|Ld<|La U<|WL.nil<|Lb<|WC.b<|WC.b<|Ld<|La U<|Le 7 (yI Tryz.underlying229 U)<|La U<|WL.nil<|Lb<|WC.cond U (fun zyA=>?_)<|fun zyA=>?_
 ·replace h:=yq h zyA
  refine WC.b<|Ld<|La U<|La U<|WL.nil<|Lb<|WC.ret<|Li ?_
  obtain rfl:=oJ h
  refine Lh Tryz.results215 (.tmp U .nil)<|fun w hw=>?_
  exact⟨z8d,z34,yC U,trivial,hw.sub (.cons .here .nil)⟩
 ·replace h:=yr h zyA
  refine WC.skip<|Lb ?_
  obtain⟨zcq,zUz,h⟩:=y1G h
  let C:Value:=(.slice z8d zM.length z34);let F:List Asrt:=[row C 175 2 (zM.flatMap yA)];refine L8 ((zcq=some r)) ([(0,C)]) (F) ?_ ?_
  ·skip
   refine WC.b<|Ld<|La U<|WL.nil<|Lb<|WC.block<|L9 (fun(zjQ:Nat) (zw:Int)=>(y1o zM zcq zjQ zw=some r)) (fun zjQ zw=>[(0,C),(3,(vi zw))]) (fun zjQ zw=>F) (fun zjQ zw=>zjQ) ⟨yx,1⟩ h (.r2 U U) (.cons .here .nil) ?_
   rintro zjQ zw h
   obtain⟨zyy,rfl⟩:=y6U h
   rw[y1o] at h
   refine WC.b<|WC.b<|Ld<|La U<|La U<|Le 12 (yI Tryz.underlying229 U)<|La U<|WL.nil<|Lb<|WC.cond U (fun zyB=>?_)<|fun zyB=>?_
   ·replace h:=yq h zyB
    refine WC.skip<|Lb ?_
    obtain⟨zyz,zUA,h⟩:=y1G h
    refine L8 ((zyz=some r)) ([(0,C),(3,(vi zw))]) (F) ?_ ?_
    ·skip
     refine WC.block<|WC.b ?_
     obtain⟨znA,h⟩:=yn h
     obtain⟨zqW,h⟩:=yn h
     refine Lx (fun i=>[].contains i) [] U<|Lf 0 16 U (fun _=>q_m U)<|Lf 1 17 U (fun _=>q_m U)<|WD.know (fun w hw=>Hp.y1T .here hw (by intro hz';have:=znA;rw[hz'] at this;omega)) ?_
     rintro⟨z8M,rfl⟩
     refine Lf 2 18 U (fun _=>yS z2q U U znA.1 znA.2 y2L)<|Lj 3 19 U (yU (cs:=(yA<|nth zM zw)) zg U U<|y3z .here<|y2x (enc:=yA) (l:=zM) (i:=zw) (sz:=2) (fun _=>U) znA.1 znA.2)<|Lf 4 20 U (fun _=>q_m U)<|Lf 5 21 U (fun _=>q_m U)<|Lf 6 22 U (fun _=>y8H U U U)<|Lf 7 23 U (fun _=>yS z2q U U zqW.1 zqW.2 y2L)<|Lj 8 24 U (yU (cs:=(yA<|nth zM<|i64 (zw-1))) zg U U<|y3z .here<|y2x (enc:=yA) (l:=zM) (i:=i64 (zw-1)) (sz:=2) (fun _=>U) zqW.1 zqW.2)<|Lf 9 25 U (fun _=>y96 (enc:=yA) (a:=(⟨((nth zM zw).fN),((nth zM zw).fD)⟩:z1)) (b:=(⟨((nth zM<|i64 (zw-1)).fN),((nth zM<|i64 (zw-1)).fD)⟩:z1)) zEc U U)<|WD.done (by kernel_rfl)<|Lb<|WC.cond U (fun zyC=>?_)<|fun zyC=>?_
     ·replace h:=yq h zyC
      refine WC.b ?_
      obtain⟨zhc,h⟩:=yn h
      refine Ld<|La U<|La U<|WL.yiw (dd:=28) U U z2q U U .here zhc<|La U<|WL.nil<|Lb ?_
      obtain⟨zco,zUB,h⟩:=y59 h
      refine WC.y5g (fun(z3N:List z1) (z3O:Int)=>(zco z3N z3O=some r)∧(z3N.length=zM.length)) (fun z3N z3O=>[(0,(.slice (some ⟨z8M,0,none⟩) z3N.length z34)),(3,(vi z3O))]) (fun z3N z3O=>[row (.slice (some ⟨z8M,0,none⟩) z3N.length z34) 175 2 (z3N.flatMap yA)]) ?_ ?_
      ·skip
       let D:Value:=(.slice (some ⟨z8M,(zw:Int).toNat*2,none⟩) (zM.length-(zw:Int).toNat) (z34-(zw:Int).toNat));refine WC.b (Ld (La U (WL.nil (Lb (WC.block (WC.y4P (fun(zjR:Nat) (zS:List z1) (z3M:Int) (k2_42445:Int)=>(y1n zM zw zco zjR zS z3M k2_42445=some r)∧(zS.length=zM.length)) (fun zjR zS z3M k2_42445=>[(0,(.slice (some ⟨z8M,0,none⟩) zS.length z34)),(3,(vi z3M)),(4,D),(5,(vi k2_42445))]) (fun zjR zS z3M k2_42445=>[row (.slice (some ⟨z8M,0,none⟩) zS.length z34) 175 2 (zS.flatMap yA)]) (fun zjR zS z3M k2_42445=>zjR) ⟨yx,zM,zw,1⟩ ⟨h,U⟩ (.r4 U U U U) (.cons .here .nil) ?_))))))
       rintro zjR zS z3M k2_42445 ⟨h,zjS⟩
       obtain⟨zyx,rfl⟩:=y6T h
       rw[y1n] at h
       refine WC.b<|WC.b<|Ld<|La U<|La U<|Le 31 (yI Tryz.underlying229 U)<|La U<|WL.nil<|Lb<|WC.cond U (fun zyD=>?_)<|fun zyD=>?_
       ·replace h:=yq h zyD
        refine WC.skip<|Lb ?_
        obtain⟨zqV,zUC,h⟩:=y59 h
        refine WC.y5g (fun(z8L:List z1) (zcp:Int)=>(zqV z8L zcp=some r)∧(z8L.length=zM.length)) (fun z8L zcp=>[(0,(.slice (some ⟨z8M,0,none⟩) z8L.length z34)),(3,(vi zcp)),(4,D),(5,(vi k2_42445))]) (fun z8L zcp=>[row (.slice (some ⟨z8M,0,none⟩) z8L.length z34) 175 2 (z8L.flatMap yA)]) ?_ ?_
        ·skip
         refine WC.block<|WC.b ?_
         obtain⟨zqX,h⟩:=yn h
         obtain⟨zqY,h⟩:=yn h
         refine Lx (fun i=>[].contains i) [] U<|Lf 0 35 U (fun _=>q_m U)<|Lf 1 36 U (fun _=>q_m U) ?_
         have zIF:(0:Int)≤zw+k2_42445∧zw+k2_42445<((zS.length:Nat):Int):=by have h1:=zjS;have h2:=zhc;have h3:=zqX;omega
         refine Lf 2 37 U (fun _=>yS z2q U U zqX.1 zqX.2<|ydR zhc.1 zqX.1)<|Lj 3 38 U (yU (cs:=(yA<|nth zS (zw+k2_42445))) zg U U<|y3z .here<|y2x (enc:=yA) (l:=zS) (i:=zw+k2_42445) (sz:=2) (fun _=>U) zIF.1 zIF.2)<|Lf 4 39 U (fun _=>q_m U)<|Lf 5 40 U (fun _=>q_m U)<|Lf 6 41 U (fun _=>y8H U U U) ?_
         have zIG:(0:Int)≤zw+(i64 (k2_42445-1))∧zw+(i64 (k2_42445-1))<((zS.length:Nat):Int):=by have h1:=zjS;have h2:=zhc;have h3:=zqY;omega
         refine Lf 7 42 U (fun _=>yS z2q U U zqY.1 zqY.2<|ydR zhc.1 zqY.1)<|Lj 8 43 U (yU (cs:=(yA<|nth zS (zw+(i64 (k2_42445-1))))) zg U U<|y3z .here<|y2x (enc:=yA) (l:=zS) (i:=zw+(i64 (k2_42445-1))) (sz:=2) (fun _=>U) zIG.1 zIG.2)<|Lf 9 44 U (fun _=>ybG (enc:=yA) (a:=(⟨((nth zS (zw+k2_42445)).fN),((nth zS (zw+k2_42445)).fD)⟩:z1)) (b:=(⟨((nth zS (zw+(i64 (k2_42445-1)))).fN),((nth zS (zw+(i64 (k2_42445-1)))).fD)⟩:z1)) zEc U U)<|WD.done (by kernel_rfl)<|Lb<|WC.cond U (fun zyE=>?_)<|fun zyE=>?_
         ·replace h:=yq h zyE
          refine WC.b ?_
          obtain⟨zqZ,h⟩:=yn h
          obtain⟨zjT,h⟩:=yn h
          refine Ld<|La U<|La U<|La U<|La U ?_
          have zIH:(0:Int)≤zw+k2_42445∧zw+k2_42445<((zS.length:Nat):Int):=by have h1:=zjS;have h2:=zhc;have h3:=zqZ;omega
          let E:List Value:=[(vi ((nth zS (zw+k2_42445)).fN)),(vi ((nth zS (zw+k2_42445)).fD))];refine Le 49 (yS z2q U U zqZ.1 zqZ.2 (ydR zhc.1 zqZ.1)) (Le 50 (yU (cs:=(yA (nth zS (zw+k2_42445)))) zg U U (y3z .here (y2x (enc:=yA) (l:=zS) (i:=zw+k2_42445) (sz:=2) (fun _=>U) zIH.1 zIH.2))) (Le 51 (yS z2q U U zjT.1 zjT.2 y2L) (Lk U U (ybA (vs:=E) (ds:=(zS.set (z3M:Int).toNat (⟨((nth zS (zw+k2_42445)).fN),((nth zS (zw+k2_42445)).fD)⟩:z1)).flatMap yA) zA U U U U (ocB U) .here (flat_fit (enc:=yA) (sz:=2) (k:=0) (fun _=>U) zjT.1 zjT.2 (by decide)) (flat_put (enc:=yA) (l:=zS) (sz:=2) (vs:=E) (y:=(⟨((nth zS (zw+k2_42445)).fN),((nth zS (zw+k2_42445)).fD)⟩:z1)) (k:=0) (fun _=>U) zjT.1 zjT.2 U (Nat.le_of_ble_eq_true U))) (WL.relen .here (u:=(.slice (some ⟨z8M,0,none⟩) ((zS.set (z3M:Int).toNat (⟨((nth zS (zw+k2_42445)).fN),((nth zS (zw+k2_42445)).fD)⟩:z1)).length) z34)) (y8n (List.length_set).symm) (Ki (i:=0) U (u:=(.slice (some ⟨z8M,0,none⟩) ((zS.set (z3M:Int).toNat (⟨((nth zS (zw+k2_42445)).fN),((nth zS (zw+k2_42445)).fD)⟩:z1)).length) z34)) (y8n (List.length_set).symm) (WL.nil (Lb (Ld (La U (La U (La U (WL.nil (Lt ?_)))))))))))))
          exact Ln ⟨(zS.set (z3M:Int).toNat (⟨((nth zS (zw+k2_42445)).fN),((nth zS (zw+k2_42445)).fD)⟩:z1)),(i64 (z3M+1))⟩ ⟨h,((List.length_set).trans zjS)⟩ (.r4 U U U U)<|.cons .here .nil
         ·replace h:=yr h zyE
          refine WC.skip<|Lt ?_
          exact Ln ⟨zS,z3M⟩ ⟨h,zjS⟩ (.r4 U U U U)<|.cons .here .nil
        ·rintro z8L zcp ⟨h,zUD⟩
         replace h:=(zUC z8L zcp).symm.trans h
         refine Ld<|La U<|La U<|La U<|WL.nil ?_
         exact WX.round ⟨zyx,z8L,zcp,(i64 (k2_42445+1))⟩ ⟨h,zUD⟩ (Nat.lt_succ_self _) (.r4 U U U U)<|.cons .here .nil
       ·replace h:=yr h zyD
        refine WC.exit<|Lm<|Lm<|Lu ?_
        exact Ln ⟨zS,z3M⟩ ⟨h,zjS⟩ (.r2 U U)<|.cons .here .nil
      ·rintro z3N z3O ⟨h,z17k⟩
       replace h:=(zUB z3N z3O).symm.trans h
       refine WC.b ?_
       obtain⟨zr0,h⟩:=yn h
       refine Ld<|La U<|La U<|WL.yit (dd:=56) U U z2q U U .here zr0 ?_
       intro z17l z17m zUE
       let A:Value:=(.slice (some ⟨z8M,0,none⟩) ((z3N.take (z3O:Int).toNat++List.replicate (z3N.length-(z3O:Int).toNat) ((⟨0,0⟩:z1):z1)).length) z34);refine Lk U U (yfY (enc:=yA) (z0:=((⟨0,0⟩:z1):z1)) (l:=z3N) z2q zW U zUE zr0 (fun _=>U) (by decide) U ydc .here) (WL.relen .here (u:=A) (y8n (ycy zr0).symm) (Ki (i:=0) U (u:=A) (y8n (ycy zr0).symm) (WL.nil (Lb (WC.b ?_)))))
       obtain⟨zUF,h⟩:=yn h
       refine Ld<|La U<|La U (WL.yis (dd:=59) (enc:=yA) (ls:=z3N.take (z3O:Int).toNat++List.replicate (z3N.length-(z3O:Int).toNat) ((⟨0,0⟩:z1):z1)) U U z2q U U .here (fun _=>U) zUF fun zUG zUH=>La U<|WL.nil<|Lb<|WC.ret<|Lq<|Li<|Li<|Lq<|Li ?_)
       obtain rfl:=oJ h
       refine Lh Tryz.results215 (.tmp U .nil)<|fun w hw=>?_
       exact⟨zUG,zUH,yC U,trivial,hw.sub (.cons .here .nil)⟩
     ·replace h:=yr h zyC
      refine WC.skip<|Lt ?_
      exact Ln () h (.r2 U U)<|.cons .here .nil
    ·rintro  h
     replace h:=zUA.symm.trans h
     refine Ld<|La U<|La U<|La U<|WL.nil ?_
     exact WX.round ⟨zyy,(i64 (zw+1))⟩ h (Nat.lt_succ_self _) (.r2 U U)<|.cons .here .nil
   ·replace h:=yr h zyB
    refine WC.exit<|Lm<|Lm<|Lu ?_
    exact Ln () h (.cons U .nil)<|.cons .here .nil
  ·rintro  h
   replace h:=zUz.symm.trans h
   refine WC.b<|Ld<|La U<|La U<|WL.nil<|Lb<|WC.ret ?_
   obtain rfl:=oJ h
   refine Lh Tryz.results215 (.tmp U .nil)<|fun w hw=>?_
   exact⟨z8d,z34,yC U,trivial,hw.sub (.cons .here .nil)⟩
def y1K(z28:z2×z2)(z5W:List z1)(zjU:Int):Option (Bool×(Nat×List z1×Int)):=
 (y1v z28.1.fBurst z28.2.fBurst).bind fun zII=>if decide (zII<0) then(y23 (⟨zjU⟩:z1z) (fun(y0:z1) (y1:z1)=>y2y y0 y1) z28.2.fBurst z28.1.fBurst).bind fun zyF=>(y23 zyF.2 (fun(y0:z1) (y1:z1)=>y2y y0 y1) z28.1.fRate z28.2.fRate).bind fun zyG=>(y23 zyG.2 (fun(y0:z1) (y1:z1)=>y4d y0 y1) zyF.1 zyG.1).bind fun z9J=>chk ((((z5W++([z9J.1]:List z1)).length:Nat):Int)*16≤140737488355328∧(((z5W++([z9J.1]:List z1)).length:Nat):Int)≤4611686018427387904) (some (true,(0,(z5W++([z9J.1]:List z1)),z9J.2.fE))) else some (true,(0,z5W,zjU))
def y24(zeN:List z2):Option (List z1×Int):=
 (y54 zeN).bind fun zyH=>if !zyH then some (([]:List z1),2) else(y7G zeN).bind fun zr1=>jp2 (fun(zcr:Int) (zaq:List z1)=>if decide (zcr≠0) then some (([]:List z1),zcr) else(y2e zaq (fun(y0:z1) (y1:z1)=>y1v y0 y1)).bind fun zyI=>(y2p zyI).bind fun zIJ=>some (zIJ,0)) fun zyJ=>(y76 zr1 zr1).bind fun z1e=>(y5s (Nat×List z1×Int) (fun(x:z2×z2) (s:Nat×List z1×Int)=>chk (s.1=0) (y1K x s.2.1 s.2.2)) (0,([]:List z1),0) z1e.1 z1e.2).bind fun z4F=>zyJ z4F.2.2 z4F.2.1
theorem y7Z{Z:Zp}{zr2:Option Addr}{zr3:Nat}{zeN:List z2}{r:List z1×Int}(h:y24 zeN=some r)(w₀:World)(hz:PZ [] w₀ Z)(zIK:ZS Z 4 (fun r x=>r=y1M x) zr2 zr3 zeN):
  Calls Tryz.prog 199 #[(.slice zr2 zeN.length zr3)] w₀ fun e w'=>∃ zIL:Option Addr,∃ zIM:Nat,e = .returned (.tuple #[(.slice zIL r.1.length zIM),(vi r.2)])∧True∧Hp [] w₀ w' [row (.slice zIL r.1.length zIM) 175 2 (r.1.flatMap yA)]:=by
 unfold y24 at h
 let P:Value:=(.slice zr2 zeN.length zr3);refine Calls.y9t (vs:=[P]) (pre:=[]) (env:=[(0,P)]) Tryz.func199 U Tryz.ntmps199 U (Hp.nil w₀ _) U ?_
 refine WC.pool<|WC.b<|Ld<|La U<|La U<|WL.nil<|Lb<|WC.b<|WC.b ?_
 obtain⟨zyH,zUI,h⟩:=za h
 refine Ld<|La U<|Ll 10 (zb Tryz.call192<|.cons U .nil) .nil (ccz hz .nil .here fun w pz ho=>y8k zUI w pz<|zIK.mono<|Zle.left _ _)<|La U<|WL.nil<|Lb<|WC.cond U (fun zyK=>?_)<|fun zyK=>?_
 ·replace h:=yq h zyK
  refine WC.b<|Ld<|La U<|La U<|WL.nil<|Lb<|WC.ret<|Li<|WX.nilRow 175 2 ?_
  obtain rfl:=oJ h
  refine WX.ycz Tryz.results199 (.tmp U<|.tmp U .nil)<|fun w hw=>?_
  exact⟨none,0,y1R U U,trivial,hw.sub (.cons .here .nil)⟩
 ·replace h:=yr h zyK
  refine WC.skip<|Lb<|WC.b<|Ld (Lg 4 (yv (cs:=[(vi 0)]) zEa U) fun z3v _=>WL.nil<|Lb<|WC.b<|Ld (Lg 5 (yv (cs:=[vn]) zty U) fun z3j _=>WL.nil<|Lb<|WC.b ?_))
  obtain⟨zr1,zUJ,h⟩:=za h
  refine Ld<|La U<|WL.y49 (dd:=13) U U U (zb Tryz.call212<|.cons U .nil) .nil (ccz hz .nil .h2 fun w pz ho=>yge zUJ w pz<|zIK.mono<|Zle.left _ _) ?_
  rintro z17n z17o _
  refine La U<|WL.nil<|Lb ?_
  obtain⟨zyJ,zUK,h⟩:=y59 h
  refine WC.yh1 (fun(znB:Nat) (zcr:Int) (zaq:List z1) (znC:Zp) (zjV:Option Addr) (zjW:Nat)=>(zyJ zcr zaq=some r)∧(Zle (Z++[]) (Z++znC))) (fun(znB:Nat) (zcr:Int) (zaq:List z1) (znC:Zp) (zjV:Option Addr) (zjW:Nat)=>[(4,(vp z3v)),(5,(vp z3j))]) (fun(znB:Nat) (zcr:Int) (zaq:List z1) (znC:Zp) (zjV:Option Addr) (zjW:Nat)=>[fz znC,stb z3v 307 [(vi zcr)],stb z3j 229 [(.slice zjV zaq.length zjW)],row (.slice zjV zaq.length zjW) 175 2 (zaq.flatMap yA),dfr znB]) ?_ ?_
  ·skip
   refine WC.b<|WC.freezeS (ls:=zr1) .here .h2 hz (RR.flat (enc:=y1M) (fun _=>U) _) ?_
   intro z7d zUL zIN
   obtain⟨z1e,zUM,h⟩:=za h
   refine Ld<|La U<|La U<|WL.yip (dd:=16) U U U (zb Tryz.call213<|.r2 U U) .nil (ccz hz .nil .here fun w pz ho=>yfO zUM w pz zIN zIN) ?_
   rintro z3P z3Q z44 z47 z48 z49 ⟨zUN,zUO⟩
   refine WL.nil<|Lb<|WC.block<|WC.pool<|WC.drop (.s6 .here .h3 .h3 .here .here .here)<|WC.nilRow 175 2<|WC.rangeFunc (f:=226) (caps:=[(vp z3P),(vp z3Q)]) U Tryz.call226 ?_
   intro z17p z17q z4a z6o z4G zr4 zUP zUQ w hw
   let O:Value:=(.slice none (([]:List z1).length) 0);let A:List Asrt:=[fz [],stb z3j 229 [O],row O 175 2 (([]:List z1).flatMap yA),stb z3v 307 [(vi 0)],blk z4a (z4G .ready none)];have hw1:=hw.selAll ((.s5 .h3 .h3 .h2 .h2 .here):Sel _ A _)
   let C:List Value:=[(.slice z44 z1e.1.length z47)];let E:List Value:=[(.slice z48 z1e.2.length z49)];let F:List Asrt:=[dfr z6o,stb z3P 227 C,stb z3Q 227 E,fz z7d];let I:List Asrt:=[stb z3P 227 C,stb z3Q 227 E];have pz:=(hz.call2 hw1 ((.cons .here .nil):Sel [y1L A,dfr z6o,stb z3P 227 C,stb z3Q 227 E,fz z7d] [y1L A] F) .h3).lend hw1 ((.cons .here .nil):Sel [y1L A,dfr z6o,stb z3P 227 C,stb z3Q 227 E,fz z7d] [y1L A] F) (B:=I) (fun _ hx'=>((.s2 .h1 .h1):Sel _ I _).mem hx')
   obtain⟨z4F,zUR,h⟩:=za h
   refine Calls.mono (yev (Z:=_) (zgY:=z4a) (z9I:=(Option Addr×Nat)) (z7F:=(fun(g:Option Addr×Nat) (s:Nat×List z1×Int)=>y1L ([fz [],stb z3j 229 [(.slice g.1 s.2.1.length g.2)],row (.slice g.1 s.2.1.length g.2) 175 2 (s.2.1.flatMap yA),stb z3v 307 [(vi s.2.2)]]++[blk z4a (z4G (rdy<|pcs [] s.1)<|pcs [] s.1)]))) (zcm:=(fun(g:Option Addr×Nat) (s:Nat×List z1×Int)=>True)) (zgZ:=(none,0)) (zyh:=⟨z3P,0,none⟩) (zh0:=z44) (zh1:=z47) (zh2:=⟨z3Q,0,none⟩) (zqN:=z48) (zqO:=z49) (zQ:=(Nat×List z1×Int)) (z5U:=(fun(x:z2×z2) (s:Nat×List z1×Int)=>chk (s.1=0)<|y1K x s.2.1 s.2.2)) (s0_33392:=(0,([]:List z1),0)) (z1K:=z1e.1) (z2m:=z1e.2) (r:=z4F) w pz ?_ trivial (zUN.mono<|Zle.left _ _) ((hw1.lent ((.cons .here .nil):Sel [y1L A,dfr z6o,stb z3P 227 C,stb z3Q 227 E,fz z7d] [y1L A] F) (B:=I) (fun _ hx'=>((.s2 .h1 .h1):Sel _ I _).mem hx') (.head _) _).stb) (zUO.mono<|Zle.left _ _) ((hw1.lent ((.cons .here .nil):Sel [y1L A,dfr z6o,stb z3P 227 C,stb z3Q 227 E,fz z7d] [y1L A] F) (B:=I) (fun _ hx'=>((.s2 .h1 .h1):Sel _ I _).mem hx') (.tail _<|.head _) _).stb) zUR<|hw1.owns ((.cons .here .nil):Sel [y1L A,dfr z6o,stb z3P 227 C,stb z3Q 227 E,fz z7d] [y1L A] F)) ?_
   ·skip
    refine yaW (LI:=(fun(g:Option Addr×Nat) (s:Nat×List z1×Int)=>[fz [],stb z3j 229 [(.slice g.1 s.2.1.length g.2)],row (.slice g.1 s.2.1.length g.2) 175 2 (s.2.1.flatMap yA),stb z3v 307 [(vi s.2.2)]])) (pc:=(fun(s:Nat×List z1×Int)=>pcs [] s.1)) zr4 zUP zUQ (fun _ _=>U) (by decide) ?_
    rintro z28 _ ⟨zjX,zjY⟩ ⟨zUS,z5W,zjU⟩ zUT zUU Fb wb zIO _ hz
    replace hz:=hz.left
    letI:Rnd:=inR z4a
    obtain⟨hp0,z4H⟩:=yn zIO
    replace hp0:zUS=0:=hp0;subst hp0;clear zIO
    replace z4H:y1K z28 z5W zjU=some (zUT,zUU):=z4H
    unfold y1K at z4H
    let K:Value:=(.slice zjX z5W.length zjY);let H:List Asrt:=[fz [],stb z3j 229 [K],row K 175 2 (z5W.flatMap yA),stb z3v 307 [(vi zjU)],blk z4a (z4G .ready none)];refine WC.restr (env':=[(11,(.bool (!zyH))),(4,(vp z3v)),(5,(vp z3j)),(17,(.agg #[(vi z28.1.fBurst.fN),(vi z28.1.fBurst.fD),(vi z28.1.fRate.fN),(vi z28.1.fRate.fD)])),(18,(.agg #[(vi z28.2.fBurst.fN),(vi z28.2.fBurst.fD),(vi z28.2.fRate.fN),(vi z28.2.fRate.fD)]))]) (.r5 U U U U U) (WC.eqL (L':=H) U (WC.b (Ld (Lg 7 (yv (cs:=[(vi 0),(vi 0),(vi 0),(vi 0)]) zbo U) ?_))))
    intro zUV _
    refine Lk U U (yl za4 U U U .here U U U)<|WL.nil<|Lb<|Ld (Lg 8 (yv (cs:=[(vi 0),(vi 0),(vi 0),(vi 0)]) zbo U) fun zUW _=>Lk U U (yl za4 U U U .here U U U)<|WL.nil<|WX.ybH zr4 .h6<|WC.block<|WC.b ?_)
    obtain⟨zII,zUX,z4H⟩:=za z4H
    let M:List Value:=[(vi z28.1.fBurst.fN),(vi z28.1.fBurst.fD)];let N:List Value:=[(vi z28.2.fBurst.fN),(vi z28.2.fBurst.fD)];refine Ld (Le 19 (ya y5v U U) (Le 20 (yU (cs:=M) zg U U (y3w (s:=2) .h2 U)) (Le 21 (ya y5v U U) (Le 22 (yU (cs:=N) zg U U (y3w (s:=2) .h1 U)) (Ll 23 (zb Tryz.call129 (.r2 U U)) .nil (ccz hz .nil .h3 fun w pz ho=>y55 zUX w pz ) (La U (WL.nil (Lb (WC.cond U (fun zyL=>?_) (fun zyL=>?_))))))))))
    ·replace z4H:=yq z4H zyL
     obtain⟨zyF,zUY,z4H⟩:=za z4H
     obtain⟨zyG,zUZ,z4H⟩:=za z4H
     obtain⟨z9J,zV0,z4H⟩:=za z4H
     obtain⟨zV1,z4H⟩:=yn z4H
     refine Lx (fun i=>[5,10,11,13,14].contains i) [y85 z3j 229 [(0,K)],y85 zUV 225 [(2,(vi z28.1.fRate.fN)),(3,(vi z28.1.fRate.fD))],y85 zUW 225 [(2,(vi z28.2.fRate.fN)),(3,(vi z28.2.fRate.fD))]] U<|L6 0 25 U (Sin.wk (.s3 .h4 .h2 .h1)<|.stb (.cons U .nil)<|.stb (.cons U<|.cons U .nil)<|.stb (.cons U<|.cons U .nil) .nil) (yc z9i U<|y5Z .here<|.head _)<|Lf 1 26 U (fun _=>ya y5v U U)<|Lj 2 27 U (yU (cs:=N) zg U U<|y3w (s:=2) .h1 U)<|Lf 3 28 U (fun _=>ya y5v U U)<|Lj 4 29 U (yU (cs:=M) zg U U<|y3w (s:=2) .h2 U)<|Lf 6 31 U (fun _=>ya y6m U U)<|L6 7 32 U (Sin.wk (.s3 .h4 .h2 .h1)<|.stb (.cons U .nil)<|.stb (.cons U<|.cons U .nil)<|.stb (.cons U<|.cons U .nil) .nil) (yU (cs:=[(vi z28.1.fRate.fN),(vi z28.1.fRate.fD)]) zg U U<|ybL .h1 ((.head _))<|(.tail _<|.head _))<|Lf 8 33 U (fun _=>ya y6m U U)<|L6 9 34 U (Sin.wk (.s3 .h4 .h2 .h1)<|.stb (.cons U .nil)<|.stb (.cons U<|.cons U .nil)<|.stb (.cons U<|.cons U .nil) .nil) (yU (cs:=[(vi z28.2.fRate.fN),(vi z28.2.fRate.fD)]) zg U U<|ybL .h2 ((.head _))<|(.tail _<|.head _)) (Ka (i:=5) (dd:=30) U (by kernel_rfl) U U U (.inl ⟨U,(Sin.wk (.s3 .h5 .h3 .h2)<|.stb (.cons U .nil)<|.stb (.cons U<|.cons U .nil)<|.stb (.cons U<|.cons U .nil) .nil)⟩) (zb Tryz.call210<|.r4 U U U U) (.cons .h6 .nil) (ccz hz (.cons .h6 .nil) .h3 fun w pz ho=>Calls.mono (y6e _ _ (zao:=124) (zeJ:=[]) _ (zcn:=(fun(y0:z1) (y1:z1)=>y2y y0 y1)) _ _ _ zUY w pz Tryz.call124 (fun w' hz' y0 y1  r  hr=>y9K hr w' hz' ) ho)<|fun _ _ h'=>⟨h'.1,trivial,h'.2⟩) fun _=>Ka (i:=10) (dd:=35) U (by kernel_rfl) U U U (.inl ⟨U,(Sin.wk (.s3 .h5 .h3 .h2)<|.stb (.cons U .nil)<|.stb (.cons U<|.cons U .nil)<|.stb (.cons U<|.cons U .nil) .nil)⟩) (zb Tryz.call210<|.r4 U U U U) (.cons .here .nil) (ccz hz (.cons .here .nil) .h3 fun w pz ho=>Calls.mono (y6e _ _ (zao:=124) (zeJ:=[]) _ (zcn:=(fun(y0:z1) (y1:z1)=>y2y y0 y1)) _ _ _ zUZ w pz Tryz.call124 (fun w' hz' y0 y1  r  hr=>y9K hr w' hz' ) ho)<|fun _ _ h'=>⟨h'.1,trivial,h'.2⟩) fun _=>Ka (i:=11) (dd:=36) U (by kernel_rfl) U U U (.inl ⟨U,(Sin.wk (.s3 .h5 .h3 .h2)<|.stb (.cons U .nil)<|.stb (.cons U<|.cons U .nil)<|.stb (.cons U<|.cons U .nil) .nil)⟩) (zb Tryz.call210<|.r4 U U U U) (.cons .here .nil) (ccz hz (.cons .here .nil) .h3 fun w pz ho=>Calls.mono (y6e _ _ (zao:=125) (zeJ:=[]) _ (zcn:=(fun(y0:z1) (y1:z1)=>y4d y0 y1)) _ _ _ zV0 w pz Tryz.call125 (fun w' hz' y0 y1  r  hr=>yfr hr w' hz' ) ho)<|fun _ _ h'=>⟨h'.1,trivial,h'.2⟩) ?_)
     intro _
     refine WD.new (i:=12) (dd:=37) U (by kernel_rfl) U U U (yM (cs:=([z9J.1]:List z1).flatMap yA) z2q (Lo (l:=[.tmp 36]) (.cons U .nil) [0]) (fun _=>by kernel_rfl) U (by unfold maxLen;omega)) (fun h'=>absurd h' (by decide)) fun z17r _=>WD.old (i:=13) (dd:=38) U (by kernel_rfl) U U U U (fun _=>(Sin.wk (.s3 .h7 .h5 .h4)<|.stb (.cons U .nil)<|.stb (.cons U<|.cons U .nil)<|.stb (.cons U<|.cons U .nil) .nil)) (y52 (enc:=yA) (l1:=z5W) (l2:=([z9J.1]:List z1)) z2q U U .h7 (fun _=>U) U U (y3t .here) (y5o ydc _) zV1) ?_
     rintro⟨zyM,zyN⟩ _
     refine Kb (i:=14) U (by kernel_rfl) U U U (by kernel_rfl) (yl ztz U U U .h7 U U U)<|WD.done (by kernel_rfl)<|Lt ?_
     obtain⟨rfl,rfl⟩:=yao z4H
     let L:Value:=(.slice zyM ((z5W++([z9J.1]:List z1)).length) zyN);exact WX.y6O zr4 .h4 (fun w' hw'=>⟨(zyM,zyN),U,trivial,(hw'.selAll ((.s5 .h7 .h1 .h1 .h2 .here):Sel _ [fz [],stb z3j 229 [L],row L 175 2 ((z5W++([z9J.1]:List z1)).flatMap yA),stb z3v 307 [(vi z9J.2.fE)],blk z4a (z4G .ready none)] _)).sub (.cons .here .nil)⟩)
    ·replace z4H:=yr z4H zyL
     refine WC.skip<|Lt ?_
     obtain⟨rfl,rfl⟩:=yao z4H
     exact WX.y6O zr4 .here<|fun w' hw'=>⟨(zjX,zjY),U,trivial,(hw'.selAll ((.s5 .h3 .h3 .h3 .h3 .here):Sel _ H _)).sub (.cons .here .nil)⟩
   ·skip
    rintro _ w' ⟨⟨znD,znE⟩,rfl,_,hp⟩
    have hp1:=hw1.call ((.cons .here .nil):Sel [y1L A,dfr z6o,stb z3P 227 C,stb z3Q 227 E,fz z7d] [y1L A] F) hp
    let J:Value:=(.slice znD z4F.2.1.length znE);have hp2:Hp _ _ w' [fz [],stb z3j 229 [J],row J 175 2 (z4F.2.1.flatMap yA),stb z3v 307 [(vi z4F.2.2)],blk z4a (z4G (rdy (pcs [] z4F.1)) (pcs [] z4F.1)),dfr z6o,stb z3P 227 C,stb z3Q 227 E,fz z7d]:=hp1.pickAll .here
    refine⟨_,pcs [] z4F.1,_,U,(hp2.sub ((.s9 .h4 .here .here .here .here .here .here .here .here):Sel _ [blk z4a (z4G (rdy (pcs [] z4F.1)) (pcs [] z4F.1)),fz [],stb z3j 229 [J],row J 175 2 (z4F.2.1.flatMap yA),stb z3v 307 [(vi z4F.2.2)],dfr z6o,stb z3P 227 C,stb z3Q 227 E,fz z7d] _)),?_⟩
    clear hp hp1 hp2 pz hw hw1
    refine wjN ?_
    letI:Rnd:=aft z6o
    refine WX.merge .here .h6<|Lt ?_
    exact WX.midR (D:=fun(g:Nat×Int×List z1×Zp×Option Addr×Nat)=>g.1) (G:=Nat×Int×List z1×Zp×Option Addr×Nat) ⟨z6o,z4F.2.2,z4F.2.1,(z7d++[]),znD,znE⟩ ⟨h,(zUL.trans<|(Zle.left _ _).trans (Zle.yT _ _ _))⟩ (.r2 U U)<|.s5 .here .h2 .here .here .here
  ·rintro znB zcr zaq znC zjV zjW ⟨h,z17s⟩
   replace h:=(zUK zcr zaq).symm.trans h
   letI:Rnd:=aft znB
   refine WC.b<|WC.b<|Ld<|Le 39 (ya y9h U U)<|Le 40 (yc y3A U<|yh .h1 U)<|La U<|WL.nil<|Lb<|WC.cond U (fun zyO=>?_)<|fun zyO=>?_
   ·replace h:=yq h zyO
    refine WC.b<|Lx (fun i=>[].contains i) [] U<|Lf 0 42 U (fun _=>ya y9h U U)<|Lj 1 43 U (yc y3A U<|yh .h1 U)<|Lf 2 2 U (fun _=>q_z U)<|Lf 3 3 U (fun _=>q_z U)<|WD.done (by kernel_rfl)<|Lb<|WC.ret<|Li<|WX.nilRow 175 2 ?_
    obtain rfl:=oJ h
    refine WX.y7A .h5 Tryz.results199 (.tmp U<|.tmp U .nil)<|fun w hw=>?_
    exact⟨none,0,y1R U U,trivial,hw.sub (.cons .h1 .nil)⟩
   ·replace h:=yr h zyO
    refine WC.skip<|Lb<|WC.b ?_
    obtain⟨zyI,zV2,h⟩:=za h
    refine Ld<|Le 44 (yc z9i U<|yh .h2 U)<|WL.y5j (dd:=45) U U U (zb Tryz.call214<|.r2 U U) (.cons .h3 .nil) (ccz hz (.cons .h3 .nil) .here fun w pz ho=>y8h _ _ _ (zjP:=129) (zqU:=[]) _ (zjO:=(fun(y0:z1) (y1:z1)=>y1v y0 y1)) _ zV2 w pz Tryz.call129 (fun w' hz' y0 y1  r  hr=>y55 hr w' hz' ) ho) ?_
    rintro  zV3
    refine WL.restb (cs':=[(.slice zjV zyI.length zjW)]) .h3 (by rw[zV3])<|WL.nil<|Lb<|WC.b ?_
    obtain⟨zIJ,zV4,h⟩:=za h
    refine Ld<|Le 46 (yc z9i U<|yh .here U)<|WL.y49 (dd:=47) U U U (zb Tryz.call215<|.cons U .nil) (.cons .h1 .nil) (ccz hz (.cons .h1 .nil) .h1 fun w pz ho=>y8q zV4 w pz  ho) ?_
    rintro zV5 zV6 _
    refine La U<|La U<|WL.nil<|Lb<|WC.ret ?_
    obtain rfl:=oJ h
    refine WX.y7A .h4 Tryz.results199 (.tmp U<|.tmp U .nil)<|fun w hw=>?_
    exact⟨zV5,zV6,y1R U U,trivial,hw.sub (.cons .h1 .nil)⟩
def y3X(z8e:z2)(z8f:z2):Option Int:=
 (y1v z8e.fRate z8f.fRate).bind fun zIP=>some zIP
theorem yf9{Z:Zp}{z8e:z2}{z8f:z2}{r:Int}(h:y3X z8e z8f=some r)(w₀:World)(hz:PZ [] w₀ Z):
  Calls Tryz.prog 217 #[(.agg #[(vi z8e.fBurst.fN),(vi z8e.fBurst.fD),(vi z8e.fRate.fN),(vi z8e.fRate.fD)]),(.agg #[(vi z8f.fBurst.fN),(vi z8f.fBurst.fD),(vi z8f.fRate.fN),(vi z8f.fRate.fD)])] w₀ fun e w'=>e = .returned (vi r)∧Hp [] w₀ w' []:=by
 unfold y3X at h
 refine Lz Tryz.func217 Tryz.ntmps217 ?_
 refine WC.b<|Ld (Lg 2 (yH (cs:=[(vi z8e.fBurst.fN),(vi z8e.fBurst.fD),(vi z8e.fRate.fN),(vi z8e.fRate.fD)]) U U) fun z17t _=>Lg 3 (yH (cs:=[(vi z8f.fBurst.fN),(vi z8f.fBurst.fD),(vi z8f.fRate.fN),(vi z8f.fRate.fD)]) U U) fun z17u _=>La U<|WL.nil<|Lb<|WC.b ?_)
 obtain⟨zIP,zV7,h⟩:=za h
 refine Ld<|Le 5 (ya y6m U U)<|Le 6 (yU (cs:=[(vi z8e.fRate.fN),(vi z8e.fRate.fD)]) zg U U<|y3w (s:=2) .h1 U)<|Le 7 (ya y6m U U)<|Le 8 (yU (cs:=[(vi z8f.fRate.fN),(vi z8f.fRate.fD)]) zg U U<|y3w (s:=2) .here U)<|Ll 9 (zb Tryz.call129<|.r2 U U) .nil (cc hz .nil fun w pz ho=>y55 zV7 w pz )<|La U<|WL.nil<|Lb<|WC.ret ?_
 obtain rfl:=oJ h
 refine Lh Tryz.results217 (.tmp U .nil)<|fun w hw=>?_
 exact⟨yC U,hw.sub .nil⟩
def y19(z1s:List z2)(z9K:z2→z2→Option Int)(zcs:Int→Int→Int→Int→Option z2):Nat→Int→Int→Int→Int→Int→Option z2
 | 0,_,_,_,_,_=>none
 | zyP+1,z24,z7e,z7f,z7g,z7h=>if decide (z24<((z1s.length:Nat):Int)) then jp4 (fun(zct:Int) (zcu:Int) (zcv:Int) (zcw:Int)=>y19 z1s z9K zcs zyP (i64 (z24+1)) zct zcu zcv zcw) fun zr5=>chk ((0:Int)≤z24∧z24<((z1s.length:Nat):Int)) ((z9K (⟨(⟨(((nth z1s z24).fBurst).fN),(((nth z1s z24).fBurst).fD)⟩:z1),(⟨(((nth z1s z24).fRate).fN),(((nth z1s z24).fRate).fD)⟩:z1)⟩:z2) (⟨(⟨z7e,z7f⟩:z1),(⟨z7g,z7h⟩:z1)⟩:z2)).bind fun zyQ=>if decide (zyQ<0) then chk ((0:Int)≤z24∧z24<((z1s.length:Nat):Int)) (zr5 (((nth z1s z24).fBurst).fN) (((nth z1s z24).fBurst).fD) (((nth z1s z24).fRate).fN) (((nth z1s z24).fRate).fD)) else zr5 z7e z7f z7g z7h) else zcs z7e z7f z7g z7h
theorem y6f{n:Nat}{z1s:List z2}{z9K:z2→z2→Option Int}{zcs:Int→Int→Int→Int→Option z2}{z24:Int}{z7e:Int}{z7f:Int}{z7g:Int}{z7h:Int}{r:z2}(h:y19 z1s z9K zcs n z24 z7e z7f z7g z7h=some r):∃ m,n=m+1:=by
 cases n with
 | zero=>cases h
 | succ m=>exact⟨m,rfl⟩
def y1V(z1s:List z2)(z9K:z2→z2→Option Int):Option z2:=
 if decide (((z1s.length:Nat):Int)<1) then none else chk ((0:Int)≤0∧0<((z1s.length:Nat):Int)) (jp4 (fun(zeO:Int) (zeP:Int) (zeQ:Int) (zeR:Int)=>some (⟨(⟨zeO,zeP⟩:z1),(⟨zeQ,zeR⟩:z1)⟩:z2)) fun zcs=>y19 z1s z9K zcs yx 1 (((nth z1s 0).fBurst).fN) (((nth z1s 0).fBurst).fD) (((nth z1s 0).fRate).fN) (((nth z1s 0).fRate).fD))
theorem y7q(Z:Zp)(zr6:Option Addr)(zr7:Nat)(zeS:FuncId)(zjZ:List Value)(z1s:List z2)(z9K:z2→z2→Option Int)(r:z2)(h:y1V z1s z9K=some r)(w₀:World)(hz:PZ [] w₀ Z)(zyR:ZS Z 4 (fun r x=>r=y1M x) zr6 zr7 z1s)(zV8:∀ args w,(callFunc zeS args).run Tryz.prog w = .ok (.enter zeS args) w)(zV9:∀ w:World,PZ [] w Z→∀(x0:z2) (x1:z2) (r:Int),z9K x0 x1=some r→Calls Tryz.prog zeS (([(.agg #[(vi x0.fBurst.fN),(vi x0.fBurst.fD),(vi x0.fRate.fN),(vi x0.fRate.fD)]),(.agg #[(vi x1.fBurst.fN),(vi x1.fBurst.fD),(vi x1.fRate.fN),(vi x1.fRate.fD)])]:List Value)++zjZ).toArray w fun e w'=>e = .returned (vi r)∧Hp [] w w' []):
  Calls Tryz.prog 216 #[(.slice zr6 z1s.length zr7),(.func (.func zeS) #[] (zjZ).toArray)] w₀ fun e w'=>e = .returned (.agg #[(vi r.fBurst.fN),(vi r.fBurst.fD),(vi r.fRate.fN),(vi r.fRate.fD)])∧Hp [] w₀ w' []:=by
 unfold y1V at h
 refine Lz Tryz.func216 Tryz.ntmps216 ?_
 let A:List Value:=[(vi 0),(vi 0),(vi 0),(vi 0)];refine WC.b (Ld (Lg 4 (yv (cs:=A) zbo U) ?_))
 intro zk0 _
 refine WL.nil<|Lb<|WC.b<|WC.b<|Ld<|La U<|Le 8 (yI Tryz.underlying227 U)<|La U<|WL.nil<|Lb<|WC.cond U (fun zyS=>?_)<|fun zyS=>?_
 ·replace h:=yq h zyS
  cases h
 ·replace h:=yr h zyS
  refine WC.skip<|Lb<|WC.b ?_
  obtain⟨zVa,h⟩:=yn h
  refine Ld<|La U<|L0 (dd:=12) U U (Z:=Z) (Pr:=(fun r x=>r=y1M x)) z81 U U zyR zVa ?_
  rintro z17v z17w zVb z17x rfl
  refine Le 13 (yi z3b U (y2l hz.pv zVb) U) (Lg 5 (yv (cs:=A) zbo U) fun zk1 _=>Lk U U (yl za4 U U U .here U U U)<|WL.nil<|Lb ?_)
  obtain⟨zcs,zVc,h⟩:=yfX h
  refine WC.y63 (fun(zeO:Int) (zeP:Int) (zeQ:Int) (zeR:Int)=>(zcs zeO zeP zeQ zeR=some r)) (fun zeO zeP zeQ zeR=>[(4,(vp zk0)),(5,(vp zk1))]) (fun zeO zeP zeQ zeR=>[stb zk0 225 A,stb zk1 225 [(vi zeO),(vi zeP),(vi zeQ),(vi zeR)]]) ?_ ?_
  ·skip
   let C:Value:=(.func (.func zeS) #[] (zjZ).toArray);let D:Value:=(.slice zr6 z1s.length zr7);refine WC.b (Ld (La U (WL.nil (Lb (WC.block (WC.y8m (fun(zk2:Nat) (z24:Int) (z7e:Int) (z7f:Int) (z7g:Int) (z7h:Int)=>(y19 z1s z9K zcs zk2 z24 z7e z7f z7g z7h=some r)) (fun zk2 z24 z7e z7f z7g z7h=>[(0,D),(1,C),(4,(vp zk0)),(5,(vp zk1)),(6,(vi z24))]) (fun zk2 z24 z7e z7f z7g z7h=>[stb zk0 225 A,stb zk1 225 [(vi z7e),(vi z7f),(vi z7g),(vi z7h)]]) (fun zk2 z24 z7e z7f z7g z7h=>zk2) ⟨yx,1,(((nth z1s 0).fBurst).fN),(((nth z1s 0).fBurst).fD),(((nth z1s 0).fRate).fN),(((nth z1s 0).fRate).fD)⟩ h (.r5 U U U U U) (.s2 .h1 .here) ?_))))))
   rintro zk2 z24 z7e z7f z7g z7h h
   obtain⟨zyP,rfl⟩:=y6f h
   rw[y19] at h
   refine WC.b<|WC.b<|Ld<|La U<|La U<|Le 16 (yI Tryz.underlying227 U)<|La U<|WL.nil<|Lb<|WC.cond U (fun zyT=>?_)<|fun zyT=>?_
   ·replace h:=yq h zyT
    refine WC.skip<|Lb ?_
    obtain⟨zr5,zVd,h⟩:=yfX h
    refine WC.y63 (fun(zct:Int) (zcu:Int) (zcv:Int) (zcw:Int)=>(zr5 zct zcu zcv zcw=some r)) (fun zct zcu zcv zcw=>[(0,D),(1,C),(4,(vp zk0)),(5,(vp zk1)),(6,(vi z24))]) (fun zct zcu zcv zcw=>[stb zk0 225 A,stb zk1 225 [(vi zct),(vi zcu),(vi zcv),(vi zcw)]]) ?_ ?_
    ·skip
     refine WC.block<|WC.b ?_
     obtain⟨zVe,h⟩:=yn h
     obtain⟨zyQ,zVf,h⟩:=za h
     refine Lx (fun i=>[].contains i) [] U<|Lf 0 20 U (fun _=>q_m U)<|Lf 1 21 U (fun _=>q_m U)<|Lf 2 22 U (fun _=>q_m U)<|L7 (j:=3) (dd:=23) (by kernel_rfl) U z2j z2k U U (Z:=Z) (Pr:=(fun r x=>r=y1M x)) z81 U U zyR zVe ?_
     rintro z17y z17z zVg z17A rfl
     refine Lj 4 24 U (yi z3b U (y2l hz.pv zVg) U)<|Lj 5 25 U (yi z3b U (yk .h1) U)<|L4 6 26 U (y2J (l:=[.tmp 24,.tmp 25]) (f:=zeS) (caps:=zjZ) zV8 U<|.r2 U U) (fun w hw=>zV9 w (hz.now hw) (⟨(⟨(((nth z1s z24).fBurst).fN),(((nth z1s z24).fBurst).fD)⟩:z1),(⟨(((nth z1s z24).fRate).fN),(((nth z1s z24).fRate).fD)⟩:z1)⟩:z2) (⟨(⟨z7e,z7f⟩:z1),(⟨z7g,z7h⟩:z1)⟩:z2) zyQ  zVf)<|Lf 7 27 U (fun _=>q_lss U U)<|WD.done (by kernel_rfl)<|Lb<|WC.cond U (fun zyU=>?_)<|fun zyU=>?_
     ·replace h:=yq h zyU
      obtain⟨zVh,h⟩:=yn h
      refine Ld<|La U<|La U<|L0 (dd:=30) U U (Z:=Z) (Pr:=(fun r x=>r=y1M x)) z81 U U zyR zVh ?_
      rintro z17B z17C zVi z17D rfl
      refine Le 31 (yi z3b U (y2l hz.pv zVi) U)<|Lk U U (yl za4 U U U .h1 U U U)<|WL.nil<|Lt ?_
      exact Ln ⟨(((nth z1s z24).fBurst).fN),(((nth z1s z24).fBurst).fD),(((nth z1s z24).fRate).fN),(((nth z1s z24).fRate).fD)⟩ h (.r5 U U U U U)<|.s2 .h1 .here
     ·replace h:=yr h zyU
      refine WC.skip<|Lt ?_
      exact Ln ⟨z7e,z7f,z7g,z7h⟩ h (.r5 U U U U U)<|.a2
    ·rintro zct zcu zcv zcw h
     replace h:=(zVd zct zcu zcv zcw).symm.trans h
     refine Ld<|La U<|La U<|La U<|WL.nil ?_
     exact WX.round ⟨zyP,(i64 (z24+1)),zct,zcu,zcv,zcw⟩ h (Nat.lt_succ_self _) (.r5 U U U U U)<|.a2
   ·replace h:=yr h zyT
    refine WC.exit<|Lm<|Lm<|Lu ?_
    exact Ln ⟨z7e,z7f,z7g,z7h⟩ h (.r2 U U)<|.a2
  ·rintro zeO zeP zeQ zeR h
   replace h:=(zVc zeO zeP zeQ zeR).symm.trans h
   refine WC.b<|Ld<|Le 32 (yi z3b U (yk .h1) U)<|Lk U U (yl za4 U U U .here U U U)<|WL.nil<|Lb<|WC.ret ?_
   obtain rfl:=oJ h
   refine Lh Tryz.results216 (.agg U z3b U (yk .here) .nil)<|fun w hw=>?_
   exact⟨yC U,hw.sub .nil⟩
def y5k(zk3:List z2):Option (z1×Int):=
 (y54 zk3).bind fun zIQ=>if !zIQ then some ((⟨0,0⟩:z1),2) else(y1V zk3 (fun(y0:z2) (y1:z2)=>y3X y0 y1)).bind fun zr8=>some (zr8.fRate,0)
theorem ycN{Z:Zp}{zIR:Option Addr}{zIS:Nat}{zk3:List z2}{r:z1×Int}(h:y5k zk3=some r)(w₀:World)(hz:PZ [] w₀ Z)(zIT:ZS Z 4 (fun r x=>r=y1M x) zIR zIS zk3):
  Calls Tryz.prog 200 #[(.slice zIR zk3.length zIS)] w₀ fun e w'=>e = .returned (.tuple #[(.agg #[(vi r.1.fN),(vi r.1.fD)]),(vi r.2)])∧Hp [] w₀ w' []:=by
 unfold y5k at h
 refine L5 Tryz.func200 Tryz.ntmps200 ?_
 refine WC.b<|Ld (Lg 2 (yv (cs:=[(vi 0),(vi 0)]) zW U) fun z17E _=>La U<|WL.nil<|Lb<|WC.b<|WC.b ?_)
 obtain⟨zIQ,zVj,h⟩:=za h
 refine Ld<|La U<|Ll 5 (zb Tryz.call192<|.cons U .nil) .nil (cc hz .nil fun w pz ho=>y8k zVj w pz zIT)<|La U<|WL.nil<|Lb<|WC.cond U (fun zyV=>?_)<|fun zyV=>?_
 ·replace h:=yq h zyV
  refine WC.b<|Ld<|Le 7 (yL (v:=(.agg #[(vi 0),(vi 0)])) (Lo (l:=[]) .nil []) (fun _=>by kernel_rfl))<|Lk U U (yl zA U U U .here U U U)<|La U<|WL.nil<|Lb<|WC.ret<|Li ?_
  obtain rfl:=oJ h
  refine Lh Tryz.results200 (.agg U zg U (yk .here)<|.tmp U .nil)<|fun w hw=>?_
  exact⟨y1R U U,hw.sub .nil⟩
 ·replace h:=yr h zyV
  refine WC.skip<|Lb<|WC.b ?_
  obtain⟨zr8,zVk,h⟩:=za h
  refine Ld<|La U<|Ll 9 (zb Tryz.call216<|.r2 U U) .nil (cc hz .nil fun w pz ho=>y7q _ _ _ (zeS:=217) (zjZ:=[]) _ (z9K:=(fun(y0:z2) (y1:z2)=>y3X y0 y1)) _ zVk w pz zIT Tryz.call217<|fun w' hz' y0 y1  r  hr=>yf9 hr w' hz' )<|Le 10 (q_fieldA (cs':=#[(vi zr8.fRate.fN),(vi zr8.fRate.fD)]) yi6 zg U U)<|Lk U U (yl zA U U U .here U U U)<|La U<|WL.nil<|Lb<|WC.ret ?_
  obtain rfl:=oJ h
  refine Lh Tryz.results200 (.agg U zg U (yk .here)<|.tmp U .nil)<|fun w hw=>?_
  exact⟨y1R U U,hw.sub .nil⟩
def y1d(zeT:z1z)(z8g:z1→z1→Option (z1×Int))(zeU:z1)(zeV:z1):Option (z1×z1z):=
 if decide (zeT.fE≠0) then(y3d).bind fun zIU=>some (zIU,zeT) else(z8g zeU zeV).bind fun zk4=>if decide (zk4.2≠0) then(y3d).bind fun zIV=>some (zIV,(⟨zk4.2⟩:z1z)) else some (zk4.1,(⟨zk4.2⟩:z1z))
theorem y2P(Z:Zp)(zk5:Nat)(z7G:FuncId)(z8N:List Value)(zeT:z1z)(z8g:z1→z1→Option (z1×Int))(zeU:z1)(zeV:z1)(r:z1×z1z)(h:y1d zeT z8g zeU zeV=some r)(w₀:World)(hz:PZ (fps [stb zk5 277 [(vi zeT.fE)]]) w₀ Z)(zVl:∀ args w,(callFunc z7G args).run Tryz.prog w = .ok (.enter z7G args) w)(zVm:∀ w:World,PZ [] w Z→∀(x0:z1) (x1:z1) (r:z1×Int),z8g x0 x1=some r→Calls Tryz.prog z7G (([(.agg #[(vi x0.fN),(vi x0.fD)]),(.agg #[(vi x1.fN),(vi x1.fD)])]:List Value)++z8N).toArray w fun e w'=>e = .returned (.tuple #[(.agg #[(vi r.1.fN),(vi r.1.fD)]),(vi r.2)])∧Hp [] w w' [])(hown:Hp (fps [stb zk5 277 [(vi zeT.fE)]]) w₀ w₀ [stb zk5 277 [(vi zeT.fE)]]):
  Calls Tryz.prog 123 #[(vp zk5),(.func (.func z7G) #[] (z8N).toArray),(.agg #[(vi zeU.fN),(vi zeU.fD)]),(.agg #[(vi zeV.fN),(vi zeV.fD)])] w₀ fun e w'=>e = .returned (.agg #[(vi r.1.fN),(vi r.1.fD)])∧Hp (fps [stb zk5 277 [(vi zeT.fE)]]) w₀ w' [stb zk5 277 [(vi r.2.fE)]]:=by
 unfold y1d at h
 refine Calls.oh4 Tryz.func123 Tryz.ntmps123 hown ?_
 refine WC.b<|Ld (Lg 6 (yH (cs:=[(vi zeU.fN),(vi zeU.fD)]) U U) fun z17F _=>Lg 7 (yH (cs:=[(vi zeV.fN),(vi zeV.fD)]) U U) fun z17G _=>Lg 8 (yv (cs:=[(vi 0),(vi 0)]) zW U) fun z17H _=>WL.nil<|Lb<|WC.b<|WC.b<|Ld<|La U<|Le 12 (y1e U)<|Le 13 (ya y5w U U)<|Le 14 (yc y3A U<|yh .h3 U)<|La U<|WL.nil<|Lb<|WC.cond U (fun zyW=>?_)<|fun zyW=>?_)
 ·replace h:=yq h zyW
  refine WC.b ?_
  obtain⟨zIU,zVn,h⟩:=za h
  refine Ld<|Ll 16 (zb Tryz.call161 .nil) .nil (cc hz .nil fun w pz ho=>y4S zVn w pz )<|Lk U U (yl zA U U U .here U U U)<|WL.nil<|Lb<|WC.ret<|Li ?_
  obtain rfl:=oJ h
  refine Lh Tryz.results123 (.agg U zg U (yk .here) .nil)<|fun w hw=>?_
  exact⟨yC U,hw.sub (.cons .h3 .nil)⟩
 ·replace h:=yr h zyW
  refine WC.skip<|Lb<|WC.b ?_
  obtain⟨zk4,zVo,h⟩:=za h
  refine Ld<|La U<|Le 19 (yi zg U (yk .h2) U)<|Le 20 (yi zg U (yk .h1) U)<|Ll 21 (y2J (l:=[.tmp 19,.tmp 20]) (f:=z7G) (caps:=z8N) zVl U<|.r2 U U) .nil (fun w hw=>zVm w (hz.now hw) zeU zeV zk4  zVo)<|La U<|La U<|La U (Lg 9 (yv (cs:=[(vi 0),(vi 0)]) zW U) fun z17I _=>Lk U U (yl zA U U U .here U U U)<|La U<|WL.nil<|Lb<|WC.b<|WC.b<|Ld<|La U<|La U<|Le 26 (y1e U)<|Le 27 (ya y5w U U)<|Lk U U (yl ybh U U U .h4 U U U)<|WL.nil<|Lb<|WC.b<|Ld<|La U<|La U<|WL.nil<|Lb<|WC.cond U (fun zyX=>?_)<|fun zyX=>?_)
  ·replace h:=yq h zyX
   refine WC.b ?_
   obtain⟨zIV,zVp,h⟩:=za h
   refine Ld<|Ll 30 (zb Tryz.call161 .nil) .nil (cc hz .nil fun w pz ho=>y4S zVp w pz )<|Lk U U (yl zA U U U .h2 U U U)<|WL.nil<|Lb<|WC.ret<|Li ?_
   obtain rfl:=oJ h
   refine Lh Tryz.results123 (.agg U zg U (yk .here) .nil)<|fun w hw=>?_
   exact⟨yC U,hw.sub (.cons .h1 .nil)⟩
  ·replace h:=yr h zyX
   refine WC.skip<|Lb<|WC.b<|Ld<|Le 31 (yi zg U (yk .h1) U)<|Lk U U (yl zA U U U .h2 U U U)<|WL.nil<|Lb<|WC.ret ?_
   obtain rfl:=oJ h
   refine Lh Tryz.results123 (.agg U zg U (yk .here) .nil)<|fun w hw=>?_
   exact⟨yC U,hw.sub (.cons .h1 .nil)⟩
def y28(z4b:List (List z2))(zcx:Int→Int→Int→Option Int):Nat→Int→Int→Int→Int→Option Int
 | 0,_,_,_,_=>none
 | zyY+1,z6p,z8O,z8P,z8Q=>if decide (z6p<((z4b.length:Nat):Int)) then chk ((0:Int)≤z6p∧z6p<((z4b.length:Nat):Int)) ((y24 (nth z4b z6p)).bind fun zyZ=>if decide (zyZ.2≠0) then some zyZ.2 else(y5k (nth z4b z6p)).bind fun zIW=>(y1d (⟨z8O⟩:z1z) (fun(y0:z1) (y1:z1)=>y1q y0 y1) (⟨z8P,z8Q⟩:z1) zIW.1).bind fun zhd=>y28 z4b zcx zyY (i64 (z6p+1)) zhd.2.fE zhd.1.fN zhd.1.fD) else zcx z8O z8P z8Q
theorem y8E{n:Nat}{z4b:List (List z2)}{zcx:Int→Int→Int→Option Int}{z6p:Int}{z8O:Int}{z8P:Int}{z8Q:Int}{r:Int}(h:y28 z4b zcx n z6p z8O z8P z8Q=some r):∃ m,n=m+1:=by
 cases n with
 | zero=>cases h
 | succ m=>exact⟨m,rfl⟩
def y41(z4b:List (List z2))(z2W:zSv)(zr9:List (List z2))(zk6:zSv)(zhe:List z1):Option Int:=
 (if decide (((z4b.length:Nat):Int)>32) then some true else(y1k z4b (fun(y0:List z2)=>y1B y0)).bind fun zIX=>some zIX).bind fun zz0=>(if zz0 then some true else(y5e z2W).bind fun zIY=>some (!zIY)).bind fun zz1=>if zz1 then some 2 else(y3d).bind fun znF=>jp3 (fun(zcy:Int) (zeW:Int) (zeX:Int)=>(if decide (zcy=0) then(y1v (⟨zeW,zeX⟩:z1) z2W.fRate).bind fun zIZ=>some (decide (zIZ>0)) else some false).bind fun zz2=>if zz2 then some 6 else some zcy) fun zcx=>y28 z4b zcx yx 0 0 znF.fN znF.fD
theorem yaP{Z:Zp}{zk7:Option Addr}{zk8:Nat}{znG:Addr}{zJ0:Option Addr}{zJ1:Nat}{znH:Addr}{znI:Option Addr}{znJ:Nat}{z4b:List (List z2)}{z2W:zSv}{zr9:List (List z2)}{zk6:zSv}{zhe:List z1}{r:Int}(h:y41 z4b z2W zr9 zk6 zhe=some r)(w₀:World)(hz:PZ [] w₀ Z)(zJ2:ZS Z 1 (y27 Z) zk7 zk8 z4b)(z17J:ZS Z 1 (y27 Z) zJ0 zJ1 zr9)(z17K:ZC Z znG [(.slice zJ0 zr9.length zJ1)])(z17L:ZC Z znH [(vi zk6.fRate.fN),(vi zk6.fRate.fD),(vi zk6.fL.fN),(vi zk6.fL.fD)])(z17M:ZS Z 2 (fun r x=>r=yA x) znI znJ zhe):
  Calls Tryz.prog 163 #[(.agg #[(.slice zk7 z4b.length zk8),(vi z2W.fRate.fN),(vi z2W.fRate.fD),(vi z2W.fL.fN),(vi z2W.fL.fD),(.func (.func 122) #[] #[(vq znG),(vq znH)]),(.slice znI zhe.length znJ)])] w₀ fun e w'=>e = .returned (vi r)∧Hp [] w₀ w' []:=by
 unfold y41 at h
 refine L5 Tryz.func163 Tryz.ntmps163 ?_
 let C:Value:=(.slice zk7 z4b.length zk8);let A:List Value:=[C,(vi z2W.fRate.fN),(vi z2W.fRate.fD),(vi z2W.fL.fN),(vi z2W.fL.fD),(.func (.func 122) #[] #[(vq znG),(vq znH)]),(.slice znI zhe.length znJ)];refine WC.b (Ld (Lg 1 (yH (cs:=A) U U) ?_))
 intro zra _
 refine La U<|WL.nil<|Lb<|WC.b<|WC.b ?_
 obtain⟨zz0,zJ3,h⟩:=za h
 obtain⟨zz1,zJ4,h⟩:=za h
 refine Ld<|Le 11 (ya y7E U U)<|Le 12 (yc z8z U<|yh .here U)<|Le 13 (yI Tryz.underlying171 U)<|La U<|La U<|Lv false 3 15 (B:=zz0) U U U U U U (fun h=>(oJ<|yq zJ3 h).symm) (fun _ zVq=>?_) ?_
 ·skip
  have znK:=yr zJ3 zVq
  obtain⟨zIX,zVr,znK⟩:=za znK
  replace znK:=oJ znK
  refine Le 16 (ya y7E U U)<|Le 17 (yc z8z U<|yh .here U)<|Ll 18 (zb Tryz.call196<|.r2 U U) .nil (cc hz .nil fun w pz ho=>y4O _ _ _ (zgQ:=197) (zng:=[]) _ (zgP:=(fun(y0:List z2)=>y1B y0)) _ zVr w pz zJ2 Tryz.call197<|fun w' hz' y0 ga0 gc0 r gh0 hr=>y7o hr w' hz' gh0)<|La U ?_
  exact Lw znK U U .all
 refine La U<|Lv false 4 20 (B:=zz1) U U U U U U (fun h=>(oJ<|yq zJ4 h).symm) (fun _ zVs=>?_) ?_
 ·skip
  have znL:=yr zJ4 zVs
  obtain⟨zIY,zVt,znL⟩:=za znL
  replace znL:=oJ znL
  refine Le 21 (ya ybO U U)<|Le 22 (yU (cs:=[(vi z2W.fRate.fN),(vi z2W.fRate.fD),(vi z2W.fL.fN),(vi z2W.fL.fD)]) zij U U<|y3w (s:=4) .here U)<|Ll 23 (zb Tryz.call198<|.cons U .nil) .nil (cc hz .nil fun w pz ho=>yay zVt w pz )<|La U<|La U ?_
  exact Lw znL U U .all
 refine WL.nil<|Lb<|WC.cond U (fun zz3=>?_)<|fun zz3=>?_
 ·replace h:=yq h zz3
  refine WC.b<|Ld<|La U<|WL.nil<|Lb<|WC.ret<|Li ?_
  obtain rfl:=oJ h
  refine Lh Tryz.results163 (.tmp U .nil)<|fun w hw=>?_
  exact⟨yC U,hw.sub .nil⟩
 ·replace h:=yr h zz3
  refine WC.skip<|Lb<|WC.b<|Ld (Lg 3 (yv (cs:=[(vi 0)]) zpF U) fun zrb _=>WL.nil<|Lb<|WC.b ?_)
  obtain⟨znF,zVu,h⟩:=za h
  refine Ld<|Ll 26 (zb Tryz.call161 .nil) .nil (cc hz .nil fun w pz ho=>y4S zVu w pz ) (Lg 4 (yv (cs:=[(vi 0),(vi 0)]) zW U) fun zrc _=>Lk U U (yl zA U U U .here U U U)<|WL.nil<|Lb ?_)
  obtain⟨zcx,zVv,h⟩:=y95 h
  refine Kc (fun(zcy:Int) (zeW:Int) (zeX:Int)=>(zcx zcy zeW zeX=some r)) (fun zcy zeW zeX=>[(1,(vp zra)),(3,(vp zrb)),(4,(vp zrc))]) (fun zcy zeW zeX=>[stb zra 231 A,stb zrb 277 [(vi zcy)],stb zrc 175 [(vi zeW),(vi zeX)]]) ?_ ?_
  ·skip
   refine WC.b<|Ld<|Le 27 (ya y7E U U)<|Le 28 (yc z8z U<|yh .h2 U)<|Le 29 (yI Tryz.underlying171 U)<|La U<|WL.nil<|Lb<|WC.block<|WC.y7y (fun(zk9:Nat) (z6p:Int) (z8O:Int) (z8P:Int) (z8Q:Int)=>(y28 z4b zcx zk9 z6p z8O z8P z8Q=some r)) (fun zk9 z6p z8O z8P z8Q=>[(1,(vp zra)),(3,(vp zrb)),(4,(vp zrc)),(28,C),(29,(vi ((z4b.length:Nat):Int))),(30,(vi z6p))]) (fun zk9 z6p z8O z8P z8Q=>[stb zra 231 A,stb zrb 277 [(vi z8O)],stb zrc 175 [(vi z8P),(vi z8Q)]]) (fun zk9 z6p z8O z8P z8Q=>zk9) ⟨yx,0,0,znF.fN,znF.fD⟩ h (.r6 U U U U U U) (.s3 .h2 .h1 .here) ?_
   rintro zk9 z6p z8O z8P z8Q h
   obtain⟨zyY,rfl⟩:=y8E h
   rw[y28] at h
   refine WC.b<|Ld<|La U<|WL.nil<|Lb<|WC.b<|WC.cond U (fun zz4=>?_)<|fun zz4=>?_
   ·replace h:=yq h zz4
    refine WC.skip<|Lb<|WC.b<|WC.block<|WC.b ?_
    obtain⟨zVw,h⟩:=yn h
    refine Ld<|L0 (dd:=32) U U (Z:=Z) (Pr:=(y27 Z)) z9h U U zJ2 zVw ?_
    rintro z17N z17O zVx z17P ⟨z17Q,z17R,rfl,zJ5⟩
    refine Le 33 (yc zdI U<|y3C hz.pv zVx U)<|La U<|WL.nil<|Lb<|WC.b<|WC.b ?_
    obtain⟨zyZ,zVy,h⟩:=za h
    refine Ld<|La U<|WL.y49 (dd:=36) U U U (zb Tryz.call199<|.cons U .nil) .nil (cc hz .nil fun w pz ho=>y7Z zVy w pz zJ5) ?_
    rintro z17S z17T _
    refine La U<|La U<|La U<|La U<|La U<|WL.nil<|Lb<|WC.b<|Ld<|La U<|La U<|WL.nil<|Lb<|WC.cond U (fun zz5=>?_)<|fun zz5=>?_
    ·replace h:=yq h zz5
     refine WC.b<|Ld<|La U<|La U<|WL.nil<|Lb<|WC.ret<|Li<|Lq<|Li<|Li<|Lq<|Li ?_
     obtain rfl:=oJ h
     refine Lh Tryz.results163 (.tmp U .nil)<|fun w hw=>?_
     exact⟨yC U,hw.sub .nil⟩
    ·replace h:=yr h zz5
     refine WC.skip<|Lb<|WC.b ?_
     obtain⟨zIW,zVz,h⟩:=za h
     refine Ld<|La U<|Ll 44 (zb Tryz.call200<|.cons U .nil) .nil (cc hz .nil fun w pz ho=>ycN zVz w pz zJ5)<|La U<|La U<|La U (Lg 9 (yv (cs:=[(vi 0),(vi 0)]) zW U) fun z17U _=>Lk U U (yl zA U U U .here U U U)<|La U<|WL.nil<|Lb ?_)
     obtain⟨zhd,zVA,h⟩:=za h
     refine Ld<|Le 47 (yi zg U (yk .h4) U)<|Le 48 (yi zg U (yk .here) U)<|Ll 49 (zb Tryz.call123<|.r4 U U U U) (.cons .h3 .nil) (cc hz (.cons .h3 .nil) fun w pz ho=>y2P _ _ (z7G:=119) (z8N:=[]) _ (z8g:=(fun(y0:z1) (y1:z1)=>y1q y0 y1)) _ _ _ zVA w pz Tryz.call119 (fun w' hz' y0 y1  r  hr=>y6N hr w' hz' ) ho)<|Lk U U (yl zA U U U .h4 U U U)<|WL.nil<|Lt<|Lb<|Ld<|La U<|La U<|WL.nil ?_
     exact WX.round ⟨zyY,(i64 (z6p+1)),zhd.2.fE,zhd.1.fN,zhd.1.fD⟩ h (Nat.lt_succ_self _) (.r6 U U U U U U)<|.s3 .h4 .h1 .here
   ·replace h:=yr h zz4
    refine WC.exit<|Lm<|Lm<|Lu ?_
    exact Ln ⟨z8O,z8P,z8Q⟩ h (.r3 U U U)<|.a3
  ·rintro zcy zeW zeX h
   replace h:=(zVv zcy zeW zeX).symm.trans h
   refine WC.b<|WC.b ?_
   obtain⟨zz2,zJ6,h⟩:=za h
   refine Ld<|Le 51 (ya y5w U U)<|Le 52 (yc y3A U<|yh .h1 U)<|La U<|La U<|Lv true 6 54 (B:=zz2) U U U U U U (fun h=>(oJ<|yr zJ6 h).symm) (fun _ zVB=>?_) ?_
   ·skip
    have znM:=yq zJ6 zVB
    obtain⟨zIZ,zVC,znM⟩:=za znM
    replace znM:=oJ znM
    refine Le 55 (yi zg U (yk .h2) U)<|Le 56 (ya ybO U U)<|Le 57 (ya y9f U U)<|Le 58 (yU (cs:=[(vi z2W.fRate.fN),(vi z2W.fRate.fD)]) zg U U<|y3w (s:=2) .here U)<|Ll 59 (zb Tryz.call129<|.r2 U U) .nil (cc hz .nil fun w pz ho=>y55 zVC w pz )<|La U<|La U ?_
    exact Lw znM U U .all
   refine WL.nil<|Lb<|WC.cond U (fun zz6=>?_)<|fun zz6=>?_
   ·replace h:=yq h zz6
    refine WC.b<|Ld<|La U<|WL.nil<|Lb<|WC.ret<|Li ?_
    obtain rfl:=oJ h
    refine Lh Tryz.results163 (.tmp U .nil)<|fun w hw=>?_
    exact⟨yC U,hw.sub .nil⟩
   ·replace h:=yr h zz6
    refine WC.skip<|Lb<|WC.b<|Ld<|Le 62 (ya y5w U U)<|Le 63 (yc y3A U<|yh .h1 U)<|La U<|WL.nil<|Lb<|WC.ret ?_
    obtain rfl:=oJ h
    refine Lh Tryz.results163 (.tmp U .nil)<|fun w hw=>?_
    exact⟨yC U,hw.sub .nil⟩
def y4U(zka:List (List z2))(z7H:zSv)(zrd:List (List z2))(zkb:zSv)(zkc:List z1):Option (Int×Int×Int×Int):=
 some (z7H.fRate.fN,z7H.fRate.fD,z7H.fL.fN,z7H.fL.fD)
theorem yaz{Z:Zp}{zre:Option Addr}{zrf:Nat}{zrg:Addr}{zJ7:Option Addr}{zJ8:Nat}{zrh:Addr}{zri:Option Addr}{zrj:Nat}{zka:List (List z2)}{z7H:zSv}{zrd:List (List z2)}{zkb:zSv}{zkc:List z1}{r:Int×Int×Int×Int}(h:y4U zka z7H zrd zkb zkc=some r)(w₀:World)(hz:PZ [] w₀ Z)(z17V:ZS Z 1 (y27 Z) zre zrf zka)(z17W:ZS Z 1 (y27 Z) zJ7 zJ8 zrd)(z17X:ZC Z zrg [(.slice zJ7 zrd.length zJ8)])(z17Y:ZC Z zrh [(vi zkb.fRate.fN),(vi zkb.fRate.fD),(vi zkb.fL.fN),(vi zkb.fL.fD)])(z17Z:ZS Z 2 (fun r x=>r=yA x) zri zrj zkc):
  Calls Tryz.prog 164 #[(.agg #[(.slice zre zka.length zrf),(vi z7H.fRate.fN),(vi z7H.fRate.fD),(vi z7H.fL.fN),(vi z7H.fL.fD),(.func (.func 122) #[] #[(vq zrg),(vq zrh)]),(.slice zri zkc.length zrj)])] w₀ fun e w'=>∃ zJ9:Nat,e = .returned (.func (.func 201) #[] #[(vp zJ9)])∧True∧Hp [] w₀ w' [stb zJ9 231 [(.slice zre zka.length zrf),(vi r.1),(vi r.2.1),(vi r.2.2.1),(vi r.2.2.2),(.func (.func 122) #[] #[(vq zrg),(vq zrh)]),(.slice zri zkc.length zrj)]]:=by
 unfold y4U at h
 refine L5 Tryz.func164 Tryz.ntmps164 ?_
 refine WC.b<|Ld (Lg 1 (yH (cs:=[(.slice zre zka.length zrf),(vi z7H.fRate.fN),(vi z7H.fRate.fD),(vi z7H.fL.fN),(vi z7H.fL.fD),(.func (.func 122) #[] #[(vq zrg),(vq zrh)]),(.slice zri zkc.length zrj)]) U U) fun zVD _=>La U<|WL.nil<|Lb<|WC.b<|Ld<|Le 3 (y14<|L2 (l:=[.tmp 1])<|.cons U .nil)<|La U<|WL.nil<|Lb<|WC.ret ?_)
 obtain rfl:=oJ h
 refine Lh Tryz.results164 (.tmp U .nil)<|fun w hw=>?_
 exact⟨zVD,yC U,trivial,hw.sub (.cons .here .nil)⟩
def y1Z(z4I:z1):Option Int:=
 (y1Y z4I).bind fun zJa=>if !zJa then some 0 else chk ((z4I.fD:Int)≠0) (jp1 (fun(zeY:Int)=>some zeY) fun zrk=>chk ((z4I.fD:Int)≠0) (if decide ((Int.tmod z4I.fN z4I.fD)<0) then zrk (i64 ((i64 (Int.tdiv z4I.fN z4I.fD))-1)) else zrk (i64 (Int.tdiv z4I.fN z4I.fD))))
theorem y6o{Z:Zp}{z4I:z1}{r:Int}(h:y1Z z4I=some r)(w₀:World)(hz:PZ [] w₀ Z):
  Calls Tryz.prog 83 #[(.agg #[(vi z4I.fN),(vi z4I.fD)])] w₀ fun e w'=>e = .returned (vi r)∧Hp [] w₀ w' []:=by
 unfold y1Z at h
 refine L5 Tryz.func83 Tryz.ntmps83 ?_
 refine WC.b<|Ld (Lg 1 (yH (cs:=[(vi z4I.fN),(vi z4I.fD)]) U U) fun z180 _=>La U<|WL.nil<|Lb<|WC.b<|WC.b ?_)
 obtain⟨zJa,zVE,h⟩:=za h
 refine Ld<|Le 4 (yi zg U (yk .here) U)<|Ll 5 (zb Tryz.call130<|.cons U .nil) .nil (cc hz .nil fun w pz ho=>y2T zVE w pz )<|La U<|WL.nil<|Lb<|WC.cond U (fun zz7=>?_)<|fun zz7=>?_
 ·replace h:=yq h zz7
  refine WC.b<|Ld<|La U<|WL.nil<|Lb<|WC.ret<|Li ?_
  obtain rfl:=oJ h
  refine Lh Tryz.results83 (.tmp U .nil)<|fun w hw=>?_
  exact⟨yC U,hw.sub .nil⟩
 ·replace h:=yr h zz7
  refine WC.skip<|Lb<|WC.b ?_
  obtain⟨zVF,h⟩:=yn h
  refine Ld<|Le 7 (ya y2C U U)<|Le 8 (yc ys U<|yh .here U)<|Le 9 (ya y37 U U)<|Le 10 (yc ys U<|yh .here U)<|Le 11 (yd7 U U zVF U)<|La U<|WL.nil<|Lb ?_
  obtain⟨zrk,zVG,h⟩:=y12 h
  refine Kf (fun(zeY:Int)=>(zrk zeY=some r)) (fun zeY=>[(3,(vi zeY))]) (fun zeY=>[]) ?_ ?_
  ·skip
   refine WC.b ?_
   obtain⟨zVH,h⟩:=yn h
   refine Ld<|Le 12 (ya y2C U U)<|Le 13 (yc ys U<|yh .here U)<|Le 14 (ya y37 U U)<|Le 15 (yc ys U<|yh .here U)<|Le 16 (q_rem U U zVH U)<|La U<|WL.nil<|Lb<|WC.cond U (fun zz8=>?_)<|fun zz8=>?_
   ·replace h:=yq h zz8
    refine Ld<|La U<|La U<|La U<|WL.nil ?_
    exact Ln (i64 ((i64<|Int.tdiv z4I.fN z4I.fD)-1)) h (.cons U .nil) .nil
   ·replace h:=yr h zz8
    refine WC.skip ?_
    exact Ln (i64<|Int.tdiv z4I.fN z4I.fD) h (.cons U .nil) .nil
  ·rintro zeY h
   replace h:=(zVG zeY).symm.trans h
   refine WC.b<|Ld<|La U<|La U<|WL.nil<|Lb<|WC.ret ?_
   obtain rfl:=oJ h
   refine Lh Tryz.results83 (.tmp U .nil)<|fun w hw=>?_
   exact⟨yC U,hw.sub .nil⟩
def y35(z9L:z1):Option Int:=
 (y1Y z9L).bind fun zJb=>if !zJb then some 0 else(y1Z (⟨i64 (0-z9L.fN),z9L.fD⟩:z1)).bind fun zJc=>some (i64 (0-zJc))
theorem ya9{Z:Zp}{z9L:z1}{r:Int}(h:y35 z9L=some r)(w₀:World)(hz:PZ [] w₀ Z):
  Calls Tryz.prog 202 #[(.agg #[(vi z9L.fN),(vi z9L.fD)])] w₀ fun e w'=>e = .returned (vi r)∧Hp [] w₀ w' []:=by
 unfold y35 at h
 refine L5 Tryz.func202 Tryz.ntmps202 ?_
 refine WC.b<|Ld (Lg 1 (yH (cs:=[(vi z9L.fN),(vi z9L.fD)]) U U) fun z181 _=>La U<|WL.nil<|Lb<|WC.b<|WC.b ?_)
 obtain⟨zJb,zVI,h⟩:=za h
 refine Ld<|Le 3 (yi zg U (yk .here) U)<|Ll 4 (zb Tryz.call130<|.cons U .nil) .nil (cc hz .nil fun w pz ho=>y2T zVI w pz )<|La U<|WL.nil<|Lb<|WC.cond U (fun zz9=>?_)<|fun zz9=>?_
 ·replace h:=yq h zz9
  refine WC.b<|Ld<|La U<|WL.nil<|Lb<|WC.ret<|Li ?_
  obtain rfl:=oJ h
  refine Lh Tryz.results202 (.tmp U .nil)<|fun w hw=>?_
  exact⟨yC U,hw.sub .nil⟩
 ·replace h:=yr h zz9
  refine WC.skip<|Lb<|WC.b ?_
  obtain⟨zJc,zVJ,h⟩:=za h
  refine Ld<|Le 6 (ya y2C U U)<|Le 7 (yc ys U<|yh .here U)<|Le 8 (q_neg U U)<|Le 9 (ya y37 U U)<|Le 10 (yc ys U<|yh .here U)<|Le 11 (yL (v:=(.agg #[(vi<|i64 (0-z9L.fN)),(vi z9L.fD)])) (Lo (l:=[.tmp 8,.tmp 10]) (.r2 U U) [0,1]) (fun _=>by kernel_rfl))<|Ll 12 (zb Tryz.call83<|.cons U .nil) .nil (cc hz .nil fun w pz ho=>y6o zVJ w pz )<|Le 13 (q_neg U U)<|La U<|WL.nil<|Lb<|WC.ret ?_
  obtain rfl:=oJ h
  refine Lh Tryz.results202 (.tmp U .nil)<|fun w hw=>?_
  exact⟨yC U,hw.sub .nil⟩
def y1N(zy:Type)(z35:List z1×Int)(z2C:z1→zy→Option (Bool×zy))(zcz:zy→Option zy):Nat→Int→zy→Option zy
 | 0,_,_=>none
 | zza+1,z3w,z6q=>if decide (z3w<((z35.1.length:Nat):Int)) then chk ((0:Int)≤z3w∧z3w<((z35.1.length:Nat):Int)) ((y1Z (⟨((nth z35.1 z3w).fN),((nth z35.1 z3w).fD)⟩:z1)).bind fun zJd=>(y1x zJd).bind fun zzb=>(z2C zzb z6q).bind fun zar=>(if !zar.1 then some (true,zar.2) else(y35 (⟨((nth z35.1 z3w).fN),((nth z35.1 z3w).fD)⟩:z1)).bind fun zJe=>(y1x zJe).bind fun zzc=>(z2C zzc zar.2).bind fun znN=>some (!znN.1,znN.2)).bind fun zeZ=>if zeZ.1 then some zeZ.2 else y1N zy z35 z2C zcz zza (i64 (z3w+1)) zeZ.2) else zcz z6q
theorem y89{n:Nat}{zy:Type}{z35:List z1×Int}{z2C:z1→zy→Option (Bool×zy)}{zcz:zy→Option zy}{z3w:Int}{z6q:zy}{r:zy}(h:y1N zy z35 z2C zcz n z3w z6q=some r):∃ m,n=m+1:=by
 cases n with
 | zero=>cases h
 | succ m=>exact⟨m,rfl⟩
def y1O(zy:Type)(z3k:List (List z2))(z2C:z1→zy→Option (Bool×zy))(zcA:zy→Option zy):Nat→Int→zy→Option zy
 | 0,_,_=>none
 | zzd+1,z4J,z7I=>if decide (z4J<((z3k.length:Nat):Int)) then jp1 (fun(zas:zy)=>y1O zy z3k z2C zcA zzd (i64 (z4J+1)) zas) fun zze=>chk ((0:Int)≤z4J∧z4J<((z3k.length:Nat):Int)) ((y24 (nth z3k z4J)).bind fun z35=>jp1 (fun(zat:zy)=>zze zat) fun zcz=>y1N zy z35 z2C zcz yx 0 z7I) else zcA z7I
theorem y8a{n:Nat}{zy:Type}{z3k:List (List z2)}{z2C:z1→zy→Option (Bool×zy)}{zcA:zy→Option zy}{z4J:Int}{z7I:zy}{r:zy}(h:y1O zy z3k z2C zcA n z4J z7I=some r):∃ m,n=m+1:=by
 cases n with
 | zero=>cases h
 | succ m=>exact⟨m,rfl⟩
def y1P(zy:Type)(z3x:List z1)(z2C:z1→zy→Option (Bool×zy))(zcB:zy→Option zy):Nat→Int→zy→Option zy
 | 0,_,_=>none
 | zzf+1,z4c,z6r=>if decide (z4c<((z3x.length:Nat):Int)) then chk ((0:Int)≤z4c∧z4c<((z3x.length:Nat):Int)) ((y1Z (⟨((nth z3x z4c).fN),((nth z3x z4c).fD)⟩:z1)).bind fun zJf=>(y1x zJf).bind fun zzg=>(z2C zzg z6r).bind fun zau=>(if !zau.1 then some (true,zau.2) else(y35 (⟨((nth z3x z4c).fN),((nth z3x z4c).fD)⟩:z1)).bind fun zJg=>(y1x zJg).bind fun zzh=>(z2C zzh zau.2).bind fun znO=>some (!znO.1,znO.2)).bind fun zf0=>if zf0.1 then some zf0.2 else y1P zy z3x z2C zcB zzf (i64 (z4c+1)) zf0.2) else zcB z6r
theorem y8b{n:Nat}{zy:Type}{z3x:List z1}{z2C:z1→zy→Option (Bool×zy)}{zcB:zy→Option zy}{z4c:Int}{z6r:zy}{r:zy}(h:y1P zy z3x z2C zcB n z4c z6r=some r):∃ m,n=m+1:=by
 cases n with
 | zero=>cases h
 | succ m=>exact⟨m,rfl⟩
def y3n(zy:Type)(z2C:z1→zy→Option (Bool×zy))(s0_44460:zy)(z3k:List (List z2))(zhf:zSv)(znP:List (List z2))(zhg:zSv)(z3x:List z1):Option zy:=
 (y3d).bind fun zzi=>(z2C zzi s0_44460).bind fun zhh=>if !zhh.1 then some zhh.2 else jp1 (fun(zav:zy)=>jp1 (fun(zcC:zy)=>some zcC) fun zcB=>y1P zy z3x z2C zcB yx 0 zav) fun zcA=>y1O zy z3k z2C zcA yx 0 zhh.2
theorem y9T(Z:Zp)(zy:Type)(z9M:Nat)(z4K:Type)(z2X:z4K→zy→Asrt)(z8h:z4K→zy→Prop)(zcD:z4K)(zcE:Addr)(zf1:Option Addr)(zf2:Nat)(zzj:Addr)(zzk:Option Addr)(zzl:Nat)(zzm:Addr)(znQ:Option Addr)(znR:Nat)(z2C:z1→zy→Option (Bool×zy))(s0_44460:zy)(z3k:List (List z2))(zhf:zSv)(znP:List (List z2))(zhg:zSv)(z3x:List z1)(r:zy)(w₀:World)(hz:PZ (fps [z2X zcD s0_44460]) w₀ Z)(znS:ybf Tryz.prog Z z9M (α:=z1) (σ:=zy) (G:=z4K) (H:=Unit) (fun h x=>[(.agg #[(vi x.fN),(vi x.fD)])]) (fun h x=>[]) z2C z2X z8h)(zVK:z8h zcD s0_44460)(zVL:ZS Z 1 (y27 Z) zf1 zf2 z3k)(z182:ZS Z 1 (y27 Z) zzk zzl znP)(z183:ZC Z zzj [(.slice zzk znP.length zzl)])(z184:ZC Z zzm [(vi zhg.fRate.fN),(vi zhg.fRate.fD),(vi zhg.fL.fN),(vi zhg.fL.fD)])(zVM:ZS Z 2 (fun r x=>r=yA x) znQ znR z3x)(zJh:ZC Z zcE [(.slice zf1 z3k.length zf2),(vi zhf.fRate.fN),(vi zhf.fRate.fD),(vi zhf.fL.fN),(vi zhf.fL.fD),(.func (.func 122) #[] #[(vq zzj),(vq zzm)]),(.slice znQ z3x.length znR)])(h:y3n zy z2C s0_44460 z3k zhf znP zhg z3x=some r)(hown:Hp (fps [z2X zcD s0_44460]) w₀ w₀ [z2X zcD s0_44460]):
  Calls Tryz.prog 201 #[(.func (.yield z9M) #[] #[]),(vq zcE)] w₀ fun e w'=>∃ zJi:z4K,e = .returned (.tuple #[])∧(z8h zJi r)∧Hp (fps [z2X zcD s0_44460]) w₀ w' [z2X zJi r]:=by
 unfold y3n at h
 refine Kh Tryz.func201 Tryz.ntmps201 hown ?_
 refine WC.b<|WC.b ?_
 obtain⟨zzi,zVN,h⟩:=za h
 obtain⟨zhh,zVO,h⟩:=za h
 refine Ld<|La U<|Ll 12 (zb Tryz.call161 .nil) .nil (cc hz .nil fun w pz ho=>y4S zVN w pz ) (WL.yield (dd:=13) (x:=zzi) (h:=()) (g:=zcD) (s:=s0_44460) (b:=zhh.1) (s':=zhh.2) znS U U U (.cons U .nil) ((.cons .here .nil):Sel _ [z2X zcD s0_44460] _) zVO zVK (fun w hw=>hz.call hw ((.cons .here .nil):Sel _ [z2X zcD s0_44460] _)) fun zJj zJk=>La U<|WL.nil<|Lb<|WC.cond U (fun zzn=>?_)<|fun zzn=>?_)
 ·replace h:=yq h zzn
  refine WC.ret<|Li ?_
  obtain rfl:=oJ h
  refine Lh Tryz.results201 .nil<|fun w hw=>?_
  exact⟨zJj,y7v,zJk,hw.sub (.cons .here .nil)⟩
 ·replace h:=yr h zzn
  refine WC.skip<|Lb ?_
  obtain⟨zcA,zVP,h⟩:=y12 h
  let A:Value:=(.func (.yield z9M) #[] #[]);refine WC.y5g (fun(zav:zy) (zkd:z4K)=>(zcA zav=some r)∧(z8h zkd zav)) (fun zav zkd=>[(0,A),(1,(vq zcE))]) (fun zav zkd=>[z2X zkd zav]) ?_ ?_
  ·skip
   let C:Value:=(.slice zf1 z3k.length zf2);let D:Value:=(vi ((z3k.length:Nat):Int));refine WC.b (Ld (Le 15 (ya y7E U U) (Le 16 (yc z8z U (y1c hz.pv zJh U)) (Le 17 (yI Tryz.underlying171 U) (La U (WL.nil (Lb (WC.block (WC.y4P (fun(zke:Nat) (z4J:Int) (z7I:zy) (zf3:z4K)=>(y1O zy z3k z2C zcA zke z4J z7I=some r)∧(z8h zf3 z7I)) (fun zke z4J z7I zf3=>[(0,A),(1,(vq zcE)),(16,C),(17,D),(18,(vi z4J))]) (fun zke z4J z7I zf3=>[z2X zf3 z7I]) (fun zke z4J z7I zf3=>zke) ⟨yx,0,zhh.2,zJj⟩ ⟨h,zJk⟩ (.r5 U U U U U) (.cons .here .nil) ?_)))))))))
   rintro zke z4J z7I zf3 ⟨h,zJl⟩
   obtain⟨zzd,rfl⟩:=y8a h
   rw[y1O] at h
   refine WC.b<|Ld<|La U<|WL.nil<|Lb<|WC.b<|WC.cond U (fun zzo=>?_)<|fun zzo=>?_
   ·replace h:=yq h zzo
    refine WC.skip<|Lb ?_
    obtain⟨zze,zVQ,h⟩:=y12 h
    refine WC.y5g (fun(zas:zy) (zkf:z4K)=>(zze zas=some r)∧(z8h zkf zas)) (fun zas zkf=>[(0,A),(1,(vq zcE)),(16,C),(17,D),(18,(vi z4J))]) (fun zas zkf=>[z2X zkf zas]) ?_ ?_
    ·skip
     refine WC.block<|WC.b ?_
     obtain⟨zVR,h⟩:=yn h
     refine Ld<|L0 (dd:=20) U U (Z:=Z) (Pr:=(y27 Z)) z9h U U zVL zVR ?_
     rintro z185 z186 zVS z187 ⟨z188,z189,rfl,zVT⟩
     refine Le 21 (yc zdI U<|y3C hz.pv zVS U)<|La U<|WL.nil<|Lb<|WC.b ?_
     obtain⟨z35,zVU,h⟩:=za h
     refine Ld<|La U<|WL.y49 (dd:=24) U U U (zb Tryz.call199<|.cons U .nil) .nil (cc hz .nil fun w pz ho=>y7Z zVU w pz zVT) ?_
     rintro zJm zrl _
     refine La U<|La U<|La U<|La U<|La U<|WL.nil<|Lb<|WC.b<|Ld<|La U<|Le 28 (yI Tryz.underlying229 U)<|La U<|WL.nil<|Lb ?_
     obtain⟨zcz,zVV,h⟩:=y12 h
     refine WC.y78 (fun(zat:zy) (zkg:z4K)=>(zcz zat=some r)∧(z8h zkg zat)) (fun zat zkg=>[(0,A),(1,(vq zcE)),(16,C),(17,D),(18,(vi z4J))]) (fun zat zkg=>[z2X zkg zat]) ?_ ?_
     ·skip
      let F:=((z35.1.length:Nat):Int);let I:Value:=(.slice zJm z35.1.length zrl);refine WC.block (WC.y4P (fun(zkh:Nat) (z3w:Int) (z6q:zy) (zaw:z4K)=>(y1N zy z35 z2C zcz zkh z3w z6q=some r)∧(z8h zaw z6q)) (fun zkh z3w z6q zaw=>[(0,A),(1,(vq zcE)),(16,C),(17,D),(18,(vi z4J)),(27,I),(28,(vi F)),(29,(vi z3w))]) (fun zkh z3w z6q zaw=>[row I 175 2 (z35.1.flatMap yA),z2X zaw z6q]) (fun zkh z3w z6q zaw=>zkh) ⟨yx,0,z7I,zf3⟩ ⟨h,zJl⟩ (.r8 U U U U U U U U) (.a2) ?_)
      rintro zkh z3w z6q zaw ⟨h,zJn⟩
      obtain⟨zza,rfl⟩:=y89 h
      rw[y1N] at h
      refine WC.b<|Ld<|La U<|WL.nil<|Lb<|WC.b<|WC.cond U (fun zzp=>?_)<|fun zzp=>?_
      ·replace h:=yq h zzp
       refine WC.skip<|Lb<|WC.b<|WC.block<|WC.b ?_
       obtain⟨znT,h⟩:=yn h
       refine Ld<|Kd (fun w hw=>Hp.y1T .here hw (by intro hz';have:=znT;rw[hz'] at this;omega)) ?_
       rintro⟨zJo,rfl⟩
       refine Le 31 (yS z2q U U znT.1 znT.2 y2L)<|Le 32 (yU (cs:=(yA<|nth z35.1 z3w)) zg U U<|y3z .here<|y2x (enc:=yA) (l:=z35.1) (i:=z3w) (sz:=2) (fun _=>U) znT.1 znT.2) (Lg 8 (yv (cs:=[(vi 0),(vi 0)]) zW U) fun zVW _=>Lk U U (yl zA U U U .here U U U)<|WL.nil<|Lb<|WC.b ?_)
       obtain⟨zJd,zVX,h⟩:=za h
       obtain⟨zzb,zVY,h⟩:=za h
       obtain⟨zar,zVZ,h⟩:=za h
       obtain⟨zeZ,zJp,h⟩:=za h
       refine Ld<|La U<|Le 34 (yi zg U (yk .here) U)<|Ll 35 (zb Tryz.call83<|.cons U .nil) .nil (cc hz .nil fun w pz ho=>y6o zVX w pz )<|Ll 36 (zb Tryz.call191<|.cons U .nil) .nil (cc hz .nil fun w pz ho=>y3k zVY w pz )<|WL.yield (dd:=37) (x:=zzb) (h:=()) (g:=zaw) (s:=z6q) (b:=zar.1) (s':=zar.2) znS U U U (.cons U .nil) ((.cons .h2 .nil):Sel _ [z2X zaw z6q] _) zVZ zJn (fun w hw=>hz.call hw ((.cons .h2 .nil):Sel _ [z2X zaw z6q] _)) ?_
       intro zrm zJq
       let E:Value:=(.slice (some ⟨zJo,0,none⟩) z35.1.length zrl);refine La U (La U (WL.yd8 (fun(zhi:z4K)=>z8h zhi zeZ.2) (fun(zhi:z4K)=>[(0,A),(1,(vq zcE)),(16,C),(17,D),(18,(vi z4J)),(27,E),(28,(vi F)),(29,(vi z3w)),(46,(.bool zeZ.1))]) (fun(zhi:z4K)=>[z2X zhi zeZ.2,stb zVW 175 [(vi ((nth z35.1 z3w).fN)),(vi ((nth z35.1 z3w).fD))],row E 175 2 (z35.1.flatMap yA)]) 7 ?_ (fun zhi zJr=>?_)))
       ·rcases Bool.eq_false_or_eq_true (!zar.1) with hb' | hb'
        ·have zJs:=hb';clear hb'
         have zzq:=yq zJp zJs
         replace zzq:=oJ zzq
         refine WL.pin (i:=39) U zJs<|WL.e U U U<|WL.e U U U<|WL.e U U U<|WL.e U U U<|WL.e U U U<|WL.e U U U<|La U ?_
         subst zzq
         exact WL.y6K zrm zJq (.r9 U U U U U U U U U)<|.a3
        ·have zJt:=hb';clear hb'
         have zcF:=yr zJp zJt
         obtain⟨zJe,zW0,zcF⟩:=za zcF
         obtain⟨zzc,zW1,zcF⟩:=za zcF
         obtain⟨znN,zW2,zcF⟩:=za zcF
         replace zcF:=oJ zcF
         refine WL.pin (i:=39) U zJt<|La U<|Le 41 (yi zg U (yk .h1) U)<|Ll 42 (zb Tryz.call202<|.cons U .nil) .nil (cc hz .nil fun w pz ho=>ya9 zW0 w pz )<|Ll 43 (zb Tryz.call191<|.cons U .nil) .nil (cc hz .nil fun w pz ho=>y3k zW1 w pz ) (WL.yield (dd:=44) (x:=zzc) (h:=()) (g:=zrm) (s:=zar.2) (b:=znN.1) (s':=znN.2) znS U U U (.cons U .nil) ((.cons .here .nil):Sel _ [z2X zrm zar.2] _) zW2 zJq (fun w hw=>hz.call hw ((.cons .here .nil):Sel _ [z2X zrm zar.2] _)) fun zW3 zW4=>La U<|La U ?_)
         subst zcF
         exact WL.y6K zW3 zW4 (.r9 U U U U U U U U U)<|.a3
       ·skip
        refine WL.nil<|Lb<|WC.cond U (fun zzr=>?_)<|fun zzr=>?_
        ·replace h:=yq h zzr
         refine WC.ret<|Lq<|Li<|Li<|Lq<|Li<|Lq<|Li<|Li<|Lq<|Li ?_
         obtain rfl:=oJ h
         refine Lh Tryz.results201 .nil<|fun w hw=>?_
         exact⟨zhi,y7v,zJr,hw.sub (.cons .here .nil)⟩
        ·replace h:=yr h zzr
         refine WC.skip<|Lt<|Lb<|Ld<|La U<|La U<|WL.nil ?_
         exact WX.round ⟨zza,(i64 (z3w+1)),zeZ.2,zhi⟩ ⟨h,zJr⟩ (Nat.lt_succ_self _) (.r8 U U U U U U U U)<|.s2 .h2 .here
      ·replace h:=yr h zzp
       refine WC.exit<|Lm<|Lm<|Lu ?_
       exact Ln ⟨z6q,zaw⟩ ⟨h,zJn⟩ (.r5 U U U U U)<|.cons .h1 .nil
     ·rintro zat zkg ⟨h,zW5⟩
      replace h:=(zVV zat).symm.trans h
      refine Lt ?_
      exact Ln ⟨zat,zkg⟩ ⟨h,zW5⟩ (.r5 U U U U U)<|.cons .here .nil
    ·rintro zas zkf ⟨h,zW6⟩
     replace h:=(zVQ zas).symm.trans h
     refine Ld<|La U<|La U<|WL.nil ?_
     exact WX.round ⟨zzd,(i64 (z4J+1)),zas,zkf⟩ ⟨h,zW6⟩ (Nat.lt_succ_self _) (.r5 U U U U U)<|.cons .here .nil
   ·replace h:=yr h zzo
    refine WC.exit<|Lm<|Lm<|Lu ?_
    exact Ln ⟨z7I,zf3⟩ ⟨h,zJl⟩ (.r2 U U)<|.cons .here .nil
  ·rintro zav zkd ⟨h,zW7⟩
   replace h:=(zVP zav).symm.trans h
   refine WC.b<|Ld<|Le 49 (ya yga U U)<|Le 50 (yc z9i U<|y1c hz.pv zJh U)<|Le 51 (yI Tryz.underlying229 U)<|La U<|WL.nil<|Lb ?_
   obtain⟨zcB,zW8,h⟩:=y12 h
   refine WC.y78 (fun(zcC:zy) (zki:z4K)=>(zcB zcC=some r)∧(z8h zki zcC)) (fun zcC zki=>[]) (fun zcC zki=>[z2X zki zcC]) ?_ ?_
   ·skip
    let J:Value:=(.slice znQ z3x.length znR);let K:Value:=(vi ((z3x.length:Nat):Int));refine WC.block (WC.y4P (fun(zkj:Nat) (z4c:Int) (z6r:zy) (zax:z4K)=>(y1P zy z3x z2C zcB zkj z4c z6r=some r)∧(z8h zax z6r)) (fun zkj z4c z6r zax=>[(0,A),(50,J),(51,K),(52,(vi z4c))]) (fun zkj z4c z6r zax=>[z2X zax z6r]) (fun zkj z4c z6r zax=>zkj) ⟨yx,0,zav,zkd⟩ ⟨h,zW7⟩ (.r4 U U U U) (.cons .here .nil) ?_)
    rintro zkj z4c z6r zax ⟨h,zJu⟩
    obtain⟨zzf,rfl⟩:=y8b h
    rw[y1P] at h
    refine WC.b<|Ld<|La U<|WL.nil<|Lb<|WC.b<|WC.cond U (fun zzs=>?_)<|fun zzs=>?_
    ·replace h:=yq h zzs
     refine WC.skip<|Lb<|WC.b<|WC.block<|WC.b ?_
     obtain⟨zW9,h⟩:=yn h
     refine Ld<|L0 (dd:=54) U U (Z:=Z) (Pr:=(fun r x=>r=yA x)) z2q U U zVM zW9 ?_
     rintro z18a z18b zWa z18c rfl
     refine Le 55 (yi zg U (y2l hz.pv zWa) U) (Lg 10 (yv (cs:=[(vi 0),(vi 0)]) zW U) fun zWb _=>Lk U U (yl zA U U U .here U U U)<|WL.nil<|Lb<|WC.b ?_)
     obtain⟨zJf,zWc,h⟩:=za h
     obtain⟨zzg,zWd,h⟩:=za h
     obtain⟨zau,zWe,h⟩:=za h
     obtain⟨zf0,zJv,h⟩:=za h
     refine Ld<|La U<|Le 57 (yi zg U (yk .here) U)<|Ll 58 (zb Tryz.call83<|.cons U .nil) .nil (cc hz .nil fun w pz ho=>y6o zWc w pz )<|Ll 59 (zb Tryz.call191<|.cons U .nil) .nil (cc hz .nil fun w pz ho=>y3k zWd w pz ) (WL.yield (dd:=60) (x:=zzg) (h:=()) (g:=zax) (s:=z6r) (b:=zau.1) (s':=zau.2) znS U U U (.cons U .nil) ((.cons .h1 .nil):Sel _ [z2X zax z6r] _) zWe zJu (fun w hw=>hz.call hw ((.cons .h1 .nil):Sel _ [z2X zax z6r] _)) fun zrn zJw=>La U<|La U<|WL.yd8 (fun(zhj:z4K)=>z8h zhj zf0.2) (fun(zhj:z4K)=>[(0,A),(50,J),(51,K),(52,(vi z4c)),(69,(.bool zf0.1))]) (fun(zhj:z4K)=>[z2X zhj zf0.2,stb zWb 175 [(vi<|(nth z3x z4c).fN),(vi<|(nth z3x z4c).fD)]]) 7 ?_<|fun zhj zJx=>?_)
     ·rcases Bool.eq_false_or_eq_true (!zau.1) with hb' | hb'
      ·have zJy:=hb';clear hb'
       have zzt:=yq zJv zJy
       replace zzt:=oJ zzt
       refine WL.pin (i:=62) U zJy<|WL.e U U U<|WL.e U U U<|WL.e U U U<|WL.e U U U<|WL.e U U U<|WL.e U U U<|La U ?_
       subst zzt
       exact WL.y6K zrn zJw (.r5 U U U U U)<|.a2
      ·have zJz:=hb';clear hb'
       have zcG:=yr zJv zJz
       obtain⟨zJg,zWf,zcG⟩:=za zcG
       obtain⟨zzh,zWg,zcG⟩:=za zcG
       obtain⟨znO,zWh,zcG⟩:=za zcG
       replace zcG:=oJ zcG
       refine WL.pin (i:=62) U zJz<|La U<|Le 64 (yi zg U (yk .h1) U)<|Ll 65 (zb Tryz.call202<|.cons U .nil) .nil (cc hz .nil fun w pz ho=>ya9 zWf w pz )<|Ll 66 (zb Tryz.call191<|.cons U .nil) .nil (cc hz .nil fun w pz ho=>y3k zWg w pz ) (WL.yield (dd:=67) (x:=zzh) (h:=()) (g:=zrn) (s:=zau.2) (b:=znO.1) (s':=znO.2) znS U U U (.cons U .nil) ((.cons .here .nil):Sel _ [z2X zrn zau.2] _) zWh zJw (fun w hw=>hz.call hw ((.cons .here .nil):Sel _ [z2X zrn zau.2] _)) fun zWi zWj=>La U<|La U ?_)
       subst zcG
       exact WL.y6K zWi zWj (.r5 U U U U U)<|.a2
     ·skip
      refine WL.nil<|Lb<|WC.cond U (fun zzu=>?_)<|fun zzu=>?_
      ·replace h:=yq h zzu
       refine WC.ret<|Lq<|Li<|Li<|Lq<|Li ?_
       obtain rfl:=oJ h
       refine Lh Tryz.results201 .nil<|fun w hw=>?_
       exact⟨zhj,y7v,zJx,hw.sub (.cons .here .nil)⟩
      ·replace h:=yr h zzu
       refine WC.skip<|Lt<|Lb<|Ld<|La U<|La U<|WL.nil ?_
       exact WX.round ⟨zzf,(i64 (z4c+1)),zf0.2,zhj⟩ ⟨h,zJx⟩ (Nat.lt_succ_self _) (.r4 U U U U)<|.cons .here .nil
    ·replace h:=yr h zzs
     refine WC.exit<|Lm<|Lm<|Lu ?_
     exact Ln ⟨z6r,zax⟩ ⟨h,zJu⟩ .nil<|.cons .here .nil
   ·rintro zcC zki ⟨h,zWk⟩
    replace h:=(zW8 zcC).symm.trans h
    obtain rfl:=oJ h
    refine WX.y5f Tryz.results201 .nil<|fun w hw=>?_
    exact⟨zki,y7v,zWk,hw.sub (.cons .here .nil)⟩
def y2f(zhk:z1z)(z5e:z2)(zhl:z1):Option (z1×z1z):=
 (y23 zhk (fun(y0:z1) (y1:z1)=>y3O y0 y1) z5e.fRate zhl).bind fun zzv=>(y23 zzv.2 (fun(y0:z1) (y1:z1)=>y1q y0 y1) z5e.fBurst zzv.1).bind fun zzw=>some (zzw.1,zzw.2)
theorem ycO{Z:Zp}{zkk:Nat}{zhk:z1z}{z5e:z2}{zhl:z1}{r:z1×z1z}(h:y2f zhk z5e zhl=some r)(w₀:World)(hz:PZ (fps [stb zkk 307 [(vi zhk.fE)]]) w₀ Z)(hown:Hp (fps [stb zkk 307 [(vi zhk.fE)]]) w₀ w₀ [stb zkk 307 [(vi zhk.fE)]]):
  Calls Tryz.prog 194 #[(vp zkk),(.agg #[(vi z5e.fBurst.fN),(vi z5e.fBurst.fD),(vi z5e.fRate.fN),(vi z5e.fRate.fD)]),(.agg #[(vi zhl.fN),(vi zhl.fD)])] w₀ fun e w'=>e = .returned (.agg #[(vi r.1.fN),(vi r.1.fD)])∧Hp (fps [stb zkk 307 [(vi zhk.fE)]]) w₀ w' [stb zkk 307 [(vi r.2.fE)]]:=by
 unfold y2f at h
 refine Calls.oh3 Tryz.func194 Tryz.ntmps194 hown ?_
 refine WC.b<|Ld (Lg 4 (yH (cs:=[(vi z5e.fBurst.fN),(vi z5e.fBurst.fD),(vi z5e.fRate.fN),(vi z5e.fRate.fD)]) U U) fun zWl _=>Lg 5 (yH (cs:=[(vi zhl.fN),(vi zhl.fD)]) U U) fun z18d _=>Lg 6 (yv (cs:=[(vi 0),(vi 0)]) zW U) fun z18e _=>WL.nil<|Lb<|WC.b ?_)
 obtain⟨zzv,zWm,h⟩:=za h
 obtain⟨zzw,zWn,h⟩:=za h
 refine Lx (fun i=>[7,8,9].contains i) [y85 zWl 225 [(0,(vi z5e.fBurst.fN)),(1,(vi z5e.fBurst.fD))]] U<|Lf 0 7 U (fun _=>q_m U)<|Lf 1 8 U (fun _=>ya y5v U U)<|L6 2 9 U (Sin.wk (.cons .h2 .nil)<|.stb (.cons U<|.cons U .nil) .nil) (yU (cs:=[(vi z5e.fBurst.fN),(vi z5e.fBurst.fD)]) zg U U<|ybL .here ((.head _))<|(.tail _<|.head _))<|Lf 3 10 U (fun _=>q_m U)<|Lf 4 11 U (fun _=>ya y6m U U)<|Lj 5 12 U (yU (cs:=[(vi z5e.fRate.fN),(vi z5e.fRate.fD)]) zg U U<|y3w (s:=2) .h2 U)<|Lj 6 13 U (yi zg U (yk .h1) U) (Ka (i:=7) (dd:=14) U (by kernel_rfl) U U U (.inl ⟨U,(Sin.wk (.cons .h3 .nil)<|.stb (.cons U<|.cons U .nil) .nil)⟩) (zb Tryz.call210<|.r4 U U U U) (.cons .h3 .nil) (cc hz (.cons .h3 .nil) fun w pz ho=>Calls.mono (y6e _ _ (zao:=120) (zeJ:=[]) _ (zcn:=(fun(y0:z1) (y1:z1)=>y3O y0 y1)) _ _ _ zWm w pz Tryz.call120 (fun w' hz' y0 y1  r  hr=>ycM hr w' hz' ) ho)<|fun _ _ h'=>⟨h'.1,trivial,h'.2⟩) fun _=>Ka (i:=8) (dd:=15) U (by kernel_rfl) U U U (.inl ⟨U,(Sin.wk (.cons .h3 .nil)<|.stb (.cons U<|.cons U .nil) .nil)⟩) (zb Tryz.call210<|.r4 U U U U) (.cons .here .nil) (cc hz (.cons .here .nil) fun w pz ho=>Calls.mono (y6e _ _ (zao:=119) (zeJ:=[]) _ (zcn:=(fun(y0:z1) (y1:z1)=>y1q y0 y1)) _ _ _ zWn w pz Tryz.call119 (fun w' hz' y0 y1  r  hr=>y6N hr w' hz' ) ho)<|fun _ _ h'=>⟨h'.1,trivial,h'.2⟩) fun _=>Kb (i:=9) U (by kernel_rfl) U U U (by kernel_rfl) (yl zA U U U .h1 U U U)<|WD.done (by kernel_rfl)<|Lb<|WC.ret ?_)
 obtain rfl:=oJ h
 refine Lh Tryz.results194 (.agg U zg U (yk .here) .nil)<|fun w hw=>?_
 exact⟨yC U,hw.sub (.cons .h1 .nil)⟩
def y1p(z2n:List z1)(z9N:z1→z1→Option Int)(zcH:Int→Int→Option z1):Nat→Int→Int→Int→Option z1
 | 0,_,_,_=>none
 | zzx+1,z36,z7i,z7j=>if decide (z36<((z2n.length:Nat):Int)) then jp2 (fun(zcI:Int) (zcJ:Int)=>y1p z2n z9N zcH zzx (i64 (z36+1)) zcI zcJ) fun zro=>chk ((0:Int)≤z36∧z36<((z2n.length:Nat):Int)) ((z9N (⟨((nth z2n z36).fN),((nth z2n z36).fD)⟩:z1) (⟨z7i,z7j⟩:z1)).bind fun zzy=>if decide (zzy<0) then chk ((0:Int)≤z36∧z36<((z2n.length:Nat):Int)) (zro ((nth z2n z36).fN) ((nth z2n z36).fD)) else zro z7i z7j) else zcH z7i z7j
theorem y6V{n:Nat}{z2n:List z1}{z9N:z1→z1→Option Int}{zcH:Int→Int→Option z1}{z36:Int}{z7i:Int}{z7j:Int}{r:z1}(h:y1p z2n z9N zcH n z36 z7i z7j=some r):∃ m,n=m+1:=by
 cases n with
 | zero=>cases h
 | succ m=>exact⟨m,rfl⟩
def y2q(z2n:List z1)(z9N:z1→z1→Option Int):Option z1:=
 if decide (((z2n.length:Nat):Int)<1) then none else chk ((0:Int)≤0∧0<((z2n.length:Nat):Int)) (jp2 (fun(zf4:Int) (zf5:Int)=>some (⟨zf4,zf5⟩:z1)) fun zcH=>y1p z2n z9N zcH yx 1 ((nth z2n 0).fN) ((nth z2n 0).fD))
theorem y8r(Z:Zp)(zrp:Option Addr)(zrq:Nat)(zf6:FuncId)(zkl:List Value)(z2n:List z1)(z9N:z1→z1→Option Int)(r:z1)(h:y2q z2n z9N=some r)(w₀:World)(hz:PZ [] w₀ Z)(zzz:ZS Z 2 (fun r x=>r=yA x) zrp zrq z2n)(zWo:∀ args w,(callFunc zf6 args).run Tryz.prog w = .ok (.enter zf6 args) w)(zWp:∀ w:World,PZ [] w Z→∀(x0:z1) (x1:z1) (r:Int),z9N x0 x1=some r→Calls Tryz.prog zf6 (([(.agg #[(vi x0.fN),(vi x0.fD)]),(.agg #[(vi x1.fN),(vi x1.fD)])]:List Value)++zkl).toArray w fun e w'=>e = .returned (vi r)∧Hp [] w w' []):
  Calls Tryz.prog 195 #[(.slice zrp z2n.length zrq),(.func (.func zf6) #[] (zkl).toArray)] w₀ fun e w'=>e = .returned (.agg #[(vi r.fN),(vi r.fD)])∧Hp [] w₀ w' []:=by
 unfold y2q at h
 refine Lz Tryz.func195 Tryz.ntmps195 ?_
 refine WC.b<|Ld (Lg 4 (yv (cs:=[(vi 0),(vi 0)]) zW U) fun zkm _=>WL.nil<|Lb<|WC.b<|WC.b<|Ld<|La U<|Le 8 (yI Tryz.underlying229 U)<|La U<|WL.nil<|Lb<|WC.cond U (fun zzA=>?_)<|fun zzA=>?_)
 ·replace h:=yq h zzA
  cases h
 ·replace h:=yr h zzA
  refine WC.skip<|Lb<|WC.b ?_
  obtain⟨zWq,h⟩:=yn h
  refine Ld<|La U<|L0 (dd:=12) U U (Z:=Z) (Pr:=(fun r x=>r=yA x)) z2q U U zzz zWq ?_
  rintro z18f z18g zWr z18h rfl
  refine Le 13 (yi zg U (y2l hz.pv zWr) U) (Lg 5 (yv (cs:=[(vi 0),(vi 0)]) zW U) fun zkn _=>Lk U U (yl zA U U U .here U U U)<|WL.nil<|Lb ?_)
  obtain⟨zcH,zWs,h⟩:=y59 h
  refine WC.y5g (fun(zf4:Int) (zf5:Int)=>(zcH zf4 zf5=some r)) (fun zf4 zf5=>[(4,(vp zkm)),(5,(vp zkn))]) (fun zf4 zf5=>[stb zkm 175 [(vi 0),(vi 0)],stb zkn 175 [(vi zf4),(vi zf5)]]) ?_ ?_
  ·skip
   let A:Value:=(.func (.func zf6) #[] (zkl).toArray);let C:Value:=(.slice zrp z2n.length zrq);refine WC.b (Ld (La U (WL.nil (Lb (WC.block (WC.y4P (fun(zko:Nat) (z36:Int) (z7i:Int) (z7j:Int)=>(y1p z2n z9N zcH zko z36 z7i z7j=some r)) (fun zko z36 z7i z7j=>[(0,C),(1,A),(4,(vp zkm)),(5,(vp zkn)),(6,(vi z36))]) (fun zko z36 z7i z7j=>[stb zkm 175 [(vi 0),(vi 0)],stb zkn 175 [(vi z7i),(vi z7j)]]) (fun zko z36 z7i z7j=>zko) ⟨yx,1,((nth z2n 0).fN),((nth z2n 0).fD)⟩ h (.r5 U U U U U) (.s2 .h1 .here) ?_))))))
   rintro zko z36 z7i z7j h
   obtain⟨zzx,rfl⟩:=y6V h
   rw[y1p] at h
   refine WC.b<|WC.b<|Ld<|La U<|La U<|Le 16 (yI Tryz.underlying229 U)<|La U<|WL.nil<|Lb<|WC.cond U (fun zzB=>?_)<|fun zzB=>?_
   ·replace h:=yq h zzB
    refine WC.skip<|Lb ?_
    obtain⟨zro,zWt,h⟩:=y59 h
    refine WC.y5g (fun(zcI:Int) (zcJ:Int)=>(zro zcI zcJ=some r)) (fun zcI zcJ=>[(0,C),(1,A),(4,(vp zkm)),(5,(vp zkn)),(6,(vi z36))]) (fun zcI zcJ=>[stb zkm 175 [(vi 0),(vi 0)],stb zkn 175 [(vi zcI),(vi zcJ)]]) ?_ ?_
    ·skip
     refine WC.block<|WC.b ?_
     obtain⟨zWu,h⟩:=yn h
     obtain⟨zzy,zWv,h⟩:=za h
     refine Lx (fun i=>[].contains i) [] U<|Lf 0 20 U (fun _=>q_m U)<|Lf 1 21 U (fun _=>q_m U)<|Lf 2 22 U (fun _=>q_m U)<|L7 (j:=3) (dd:=23) (by kernel_rfl) U z2j z2k U U (Z:=Z) (Pr:=(fun r x=>r=yA x)) z2q U U zzz zWu ?_
     rintro z18i z18j zWw z18k rfl
     refine Lj 4 24 U (yi zg U (y2l hz.pv zWw) U)<|Lj 5 25 U (yi zg U (yk .h1) U)<|L4 6 26 U (y2J (l:=[.tmp 24,.tmp 25]) (f:=zf6) (caps:=zkl) zWo U<|.r2 U U) (fun w hw=>zWp w (hz.now hw) (⟨((nth z2n z36).fN),((nth z2n z36).fD)⟩:z1) (⟨z7i,z7j⟩:z1) zzy  zWv)<|Lf 7 27 U (fun _=>q_lss U U)<|WD.done (by kernel_rfl)<|Lb<|WC.cond U (fun zzC=>?_)<|fun zzC=>?_
     ·replace h:=yq h zzC
      obtain⟨zWx,h⟩:=yn h
      refine Ld<|La U<|La U<|L0 (dd:=30) U U (Z:=Z) (Pr:=(fun r x=>r=yA x)) z2q U U zzz zWx ?_
      rintro z18l z18m zWy z18n rfl
      refine Le 31 (yi zg U (y2l hz.pv zWy) U)<|Lk U U (yl zA U U U .h1 U U U)<|WL.nil<|Lt ?_
      exact Ln ⟨((nth z2n z36).fN),((nth z2n z36).fD)⟩ h (.r5 U U U U U)<|.s2 .h1 .here
     ·replace h:=yr h zzC
      refine WC.skip<|Lt ?_
      exact Ln ⟨z7i,z7j⟩ h (.r5 U U U U U)<|.a2
    ·rintro zcI zcJ h
     replace h:=(zWt zcI zcJ).symm.trans h
     refine Ld<|La U<|La U<|La U<|WL.nil ?_
     exact WX.round ⟨zzx,(i64 (z36+1)),zcI,zcJ⟩ h (Nat.lt_succ_self _) (.r5 U U U U U)<|.a2
   ·replace h:=yr h zzB
    refine WC.exit<|Lm<|Lm<|Lu ?_
    exact Ln ⟨z7i,z7j⟩ h (.r2 U U)<|.a2
  ·rintro zf4 zf5 h
   replace h:=(zWs zf4 zf5).symm.trans h
   refine WC.b<|Ld<|Le 32 (yi zg U (yk .h1) U)<|Lk U U (yl zA U U U .here U U U)<|WL.nil<|Lb<|WC.ret ?_
   obtain rfl:=oJ h
   refine Lh Tryz.results195 (.agg U zg U (yk .here) .nil)<|fun w hw=>?_
   exact⟨yC U,hw.sub .nil⟩
def y3o(z4L:List z2)(z6s:z1)(zcK:(List z1)→Int→Option (z1×Int)):Nat→(List z1)→Int→Int→Option (z1×Int)
 | 0,_,_,_=>none
 | zzD+1,z5f,z5g,z8R=>if decide (z5g<((z4L.length:Nat):Int)) then chk ((0:Int)≤z5g∧z5g<((z4L.length:Nat):Int)) ((y2f (⟨z8R⟩:z1z) (⟨(⟨(((nth z4L z5g).fBurst).fN),(((nth z4L z5g).fBurst).fD)⟩:z1),(⟨(((nth z4L z5g).fRate).fN),(((nth z4L z5g).fRate).fD)⟩:z1)⟩:z2) z6s).bind fun zcL=>chk ((((z5f++([zcL.1]:List z1)).length:Nat):Int)*16≤140737488355328∧(((z5f++([zcL.1]:List z1)).length:Nat):Int)≤4611686018427387904) (y3o z4L z6s zcK zzD (z5f++([zcL.1]:List z1)) (i64 (z5g+1)) zcL.2.fE)) else zcK z5f z8R
theorem ycP{n:Nat}{z4L:List z2}{z6s:z1}{zcK:(List z1)→Int→Option (z1×Int)}{z5f:List z1}{z5g:Int}{z8R:Int}{r:z1×Int}(h:y3o z4L z6s zcK n z5f z5g z8R=some r):∃ m,n=m+1:=by
 cases n with
 | zero=>cases h
 | succ m=>exact⟨m,rfl⟩
def y5h(z4L:List z2)(z6s:z1):Option (z1×Int):=
 (y54 z4L).bind fun zJA=>(if !zJA then some true else(y5O z6s).bind fun zJB=>some (!zJB)).bind fun zzE=>if zzE then some ((⟨0,0⟩:z1),2) else jp2 (fun(zay:List z1) (zaz:Int)=>if decide (zaz≠0) then some ((⟨0,0⟩:z1),zaz) else(y2q zay (fun(y0:z1) (y1:z1)=>y1v y0 y1)).bind fun zJC=>some (zJC,0)) fun zcK=>y3o z4L z6s zcK yx ([]:List z1) 0 0
theorem yib{Z:Zp}{zzF:Option Addr}{zzG:Nat}{z4L:List z2}{z6s:z1}{r:z1×Int}(h:y5h z4L z6s=some r)(w₀:World)(hz:PZ [] w₀ Z)(zJD:ZS Z 4 (fun r x=>r=y1M x) zzF zzG z4L):
  Calls Tryz.prog 162 #[(.slice zzF z4L.length zzG),(.agg #[(vi z6s.fN),(vi z6s.fD)])] w₀ fun e w'=>e = .returned (.tuple #[(.agg #[(vi r.1.fN),(vi r.1.fD)]),(vi r.2)])∧Hp [] w₀ w' []:=by
 unfold y5h at h
 refine Lz Tryz.func162 Tryz.ntmps162 ?_
 refine WC.b<|Ld (Lg 3 (yH (cs:=[(vi z6s.fN),(vi z6s.fD)]) U U) fun zJE _=>Lg 4 (yv (cs:=[(vi 0),(vi 0)]) zW U) fun zrr _=>La U<|WL.nil<|Lb<|WC.b<|WC.b ?_)
 obtain⟨zJA,zWz,h⟩:=za h
 obtain⟨zzE,zJF,h⟩:=za h
 refine Ld<|La U<|Ll 11 (zb Tryz.call192<|.cons U .nil) .nil (cc hz .nil fun w pz ho=>y8k zWz w pz zJD)<|La U<|La U<|Lv false 3 13 (B:=zzE) U U U U U U (fun h=>(oJ<|yq zJF h).symm) (fun _ zWA=>?_) ?_
 ·skip
  have znU:=yr zJF zWA
  obtain⟨zJB,zWB,znU⟩:=za znU
  replace znU:=oJ znU
  refine Le 14 (yi zg U (yk .h1) U)<|Ll 15 (zb Tryz.call193<|.cons U .nil) .nil (cc hz .nil fun w pz ho=>yax zWB w pz )<|La U<|La U ?_
  exact Lw znU U U .all
 refine WL.nil<|Lb<|WC.cond U (fun zzH=>?_)<|fun zzH=>?_
 ·replace h:=yq h zzH
  refine WC.b<|Ld<|Le 18 (yL (v:=(.agg #[(vi 0),(vi 0)])) (Lo (l:=[]) .nil []) (fun _=>by kernel_rfl))<|Lk U U (yl zA U U U .here U U U)<|La U<|WL.nil<|Lb<|WC.ret<|Li ?_
  obtain rfl:=oJ h
  refine Lh Tryz.results162 (.agg U zg U (yk .here)<|.tmp U .nil)<|fun w hw=>?_
  exact⟨y1R U U,hw.sub .nil⟩
 ·replace h:=yr h zzH
  refine WC.skip<|Lb<|WC.b<|Ld (Lg 6 (yv (cs:=[(vi 0)]) zEa U) fun znV _=>WL.nil<|Lb<|WC.b<|Ld<|La U<|WL.nil<|Lb ?_)
  obtain⟨zcK,zWC,h⟩:=y59 h
  refine WC.y63 (fun(zay:List z1) (zaz:Int) (znW:Option Addr) (znX:Nat)=>(zcK zay zaz=some r)) (fun zay zaz znW znX=>[(4,(vp zrr)),(6,(vp znV)),(7,(.slice znW zay.length znX))]) (fun zay zaz znW znX=>[row (.slice znW zay.length znX) 175 2 (zay.flatMap yA),stb zrr 175 [(vi 0),(vi 0)],stb znV 307 [(vi zaz)]]) ?_ ?_
  ·skip
   refine WC.b<|Ld<|La U<|Le 20 (yI Tryz.underlying227 U)<|La U<|WL.nil<|Lb<|WC.block<|WC.nilRow 175 2<|WC.y8m (fun(zkp:Nat) (z5f:List z1) (z5g:Int) (z8R:Int) (zhm:Option Addr) (zhn:Nat)=>(y3o z4L z6s zcK zkp z5f z5g z8R=some r)) (fun zkp z5f z5g z8R zhm zhn=>[(3,(vp zJE)),(4,(vp zrr)),(6,(vp znV)),(7,(.slice zhm z5f.length zhn)),(19,(.slice zzF z4L.length zzG)),(20,(vi ((z4L.length:Nat):Int))),(21,(vi z5g))]) (fun zkp z5f z5g z8R zhm zhn=>[row (.slice zhm z5f.length zhn) 175 2 (z5f.flatMap yA),stb zJE 175 [(vi z6s.fN),(vi z6s.fD)],stb zrr 175 [(vi 0),(vi 0)],stb znV 307 [(vi z8R)]]) (fun zkp z5f z5g z8R zhm zhn=>zkp) ⟨yx,([]:List z1),0,0,none,0⟩ h (.r7 U U U U U U U) (.s4 .here .h2 .h1 .here) ?_
   rintro zkp z5f z5g z8R zhm zhn h
   obtain⟨zzD,rfl⟩:=ycP h
   rw[y3o] at h
   refine WC.b<|Ld<|La U<|WL.nil<|Lb<|WC.b<|WC.cond U (fun zzI=>?_)<|fun zzI=>?_
   ·replace h:=yq h zzI
    refine WC.skip<|Lb<|WC.b<|WC.block<|WC.b ?_
    obtain⟨zWD,h⟩:=yn h
    refine Ld<|L0 (dd:=23) U U (Z:=Z) (Pr:=(fun r x=>r=y1M x)) z81 U U zJD zWD ?_
    rintro z18o z18p zWE z18q rfl
    refine Le 24 (yi z3b U (y2l hz.pv zWE) U) (Lg 9 (yv (cs:=[(vi 0),(vi 0),(vi 0),(vi 0)]) zbo U) fun z18r _=>Lk U U (yl za4 U U U .here U U U)<|WL.nil<|Lb ?_)
    obtain⟨zcL,zWF,h⟩:=za h
    obtain⟨zWG,h⟩:=yn h
    refine Ld<|La U<|Le 26 (yi z3b U (yk .here) U)<|Le 27 (yi zg U (yk .h2) U)<|Ll 28 (zb Tryz.call194<|.r3 U U U) (.cons .h4 .nil) (cc hz (.cons .h4 .nil) fun w pz ho=>ycO zWF w pz  ho) (Lg 29 (yM (cs:=([zcL.1]:List z1).flatMap yA) z2q (Lo (l:=[.tmp 28]) (.cons U .nil) [0]) (fun _=>by kernel_rfl) U (by unfold maxLen;omega)) fun z18s _=>WL.fA 30 (y52 (enc:=yA) (l1:=z5f) (l2:=([zcL.1]:List z1)) z2q U U .h3 (fun _=>U) U U (y3t .here) (y5o ydc _) zWG) ?_)
    rintro⟨zWH,zWI⟩ _
    refine La U<|WL.nil<|Lt<|Lb<|Ld<|La U<|La U<|WL.nil ?_
    exact WX.round ⟨zzD,(z5f++([zcL.1]:List z1)),(i64 (z5g+1)),zcL.2.fE,zWH,zWI⟩ h (Nat.lt_succ_self _) (.r7 U U U U U U U)<|.s4 .here .h3 .h3 .h1
   ·replace h:=yr h zzI
    refine WC.exit<|Lm<|Lm<|Lu ?_
    exact Ln ⟨z5f,z8R,zhm,zhn⟩ h (.r3 U U U)<|.s3 .here .h1 .h1
  ·rintro zay zaz znW znX h
   replace h:=(zWC zay zaz).symm.trans h
   refine WC.b<|WC.b<|Ld<|Le 32 (ya y9h U U)<|Le 33 (yc y3A U<|yh .h2 U)<|La U<|WL.nil<|Lb<|WC.cond U (fun zzJ=>?_)<|fun zzJ=>?_
   ·replace h:=yq h zzJ
    refine WC.b<|Lx (fun i=>[3].contains i) [y85 znV 307 [(0,(vi zaz))]] U<|Lf 0 35 U (fun _=>yL (v:=(.agg #[(vi 0),(vi 0)])) (Lo (l:=[]) .nil []) (fun _=>by kernel_rfl))<|Lf 1 36 U (fun _=>ya y9h U U)<|L6 2 37 U (Sin.wk (.cons .h2 .nil)<|.stb (.cons U .nil) .nil) (yc y3A U<|y5Z .here<|.head _)<|WD.forced0 (i:=3) U (by kernel_rfl) U U U (Sin.wk (.cons .h2 .nil)<|.stb (.cons U .nil) .nil) (yl zA U U U .h1 U U U)<|Lf 4 5 U (fun _=>q_z U)<|WD.done (by kernel_rfl)<|Lb<|WC.ret<|Li ?_
    obtain rfl:=oJ h
    refine Lh Tryz.results162 (.agg U zg U (yk .here)<|.tmp U .nil)<|fun w hw=>?_
    exact⟨y1R U U,hw.sub .nil⟩
   ·replace h:=yr h zzJ
    refine WC.skip<|Lb<|WC.b ?_
    obtain⟨zJC,zWJ,h⟩:=za h
    refine Ld<|La U<|Ll 39 (zb Tryz.call195<|.r2 U U) .nil (ccl hz .nil (.cons .here .nil) fun w pz ho la=>y8r _ _ _ (zf6:=129) (zkl:=[]) _ (z9N:=(fun(y0:z1) (y1:z1)=>y1v y0 y1)) _ zWJ w pz (ZA.row (la _ (.head _) _) (RR.flat (enc:=yA) (fun _=>U) _) ⟨w,pz.1⟩) Tryz.call129<|fun w' hz' y0 y1  r  hr=>y55 hr w' hz' )<|Lk U U (yl zA U U U .h1 U U U)<|La U<|WL.nil<|Lb<|WC.ret ?_
    obtain rfl:=oJ h
    refine Lh Tryz.results162 (.agg U zg U (yk .here)<|.tmp U .nil)<|fun w hw=>?_
    exact⟨y1R U U,hw.sub .nil⟩
def y2r(z5X:List (List z2))(z5Y:z1)(zcM:Int→Int→Int→Option (z1×z1z)):Nat→Int→Int→Int→Int→Option (z1×z1z)
 | 0,_,_,_,_=>none
 | zzK+1,z6t,z7J,z8i,z8j=>if decide (z6t<((z5X.length:Nat):Int)) then chk ((0:Int)≤z6t∧z6t<((z5X.length:Nat):Int)) ((y5h (nth z5X z6t) z5Y).bind fun zkq=>jp1 (fun(zf7:Int)=>(y1d (⟨zf7⟩:z1z) (fun(y0:z1) (y1:z1)=>y1q y0 y1) (⟨z8i,z8j⟩:z1) zkq.1).bind fun zho=>y2r z5X z5Y zcM zzK (i64 (z6t+1)) zho.2.fE zho.1.fN zho.1.fD) fun zrs=>if decide (z7J=0) then zrs zkq.2 else zrs z7J) else zcM z8i z8j z7J
theorem y8Z{n:Nat}{z5X:List (List z2)}{z5Y:z1}{zcM:Int→Int→Int→Option (z1×z1z)}{z6t:Int}{z7J:Int}{z8i:Int}{z8j:Int}{r:z1×z1z}(h:y2r z5X z5Y zcM n z6t z7J z8i z8j=some r):∃ m,n=m+1:=by
 cases n with
 | zero=>cases h
 | succ m=>exact⟨m,rfl⟩
def y3B(zf8:z1z)(z5X:List (List z2))(z5Y:z1):Option (z1×z1z):=
 (y3d).bind fun znY=>jp3 (fun(zf9:Int) (zfa:Int) (zfb:Int)=>some ((⟨zf9,zfa⟩:z1),(⟨zfb⟩:z1z))) fun zcM=>y2r z5X z5Y zcM yx 0 zf8.fE znY.fN znY.fD
theorem y8C{Z:Zp}{z9O:Nat}{zrt:Option Addr}{zru:Nat}{zf8:z1z}{z5X:List (List z2)}{z5Y:z1}{r:z1×z1z}(h:y3B zf8 z5X z5Y=some r)(w₀:World)(hz:PZ (fps [stb z9O 277 [(vi zf8.fE)]]) w₀ Z)(zWK:ZS Z 1 (y27 Z) zrt zru z5X)(hown:Hp (fps [stb z9O 277 [(vi zf8.fE)]]) w₀ w₀ [stb z9O 277 [(vi zf8.fE)]]):
  Calls Tryz.prog 126 #[(vp z9O),(.slice zrt z5X.length zru),(.agg #[(vi z5Y.fN),(vi z5Y.fD)])] w₀ fun e w'=>e = .returned (.agg #[(vi r.1.fN),(vi r.1.fD)])∧Hp (fps [stb z9O 277 [(vi zf8.fE)]]) w₀ w' [stb z9O 277 [(vi r.2.fE)]]:=by
 unfold y3B at h
 refine Calls.oh3 Tryz.func126 Tryz.ntmps126 hown ?_
 let A:List Value:=[(vi z5Y.fN),(vi z5Y.fD)];refine WC.b (Ld (Lg 5 (yH (cs:=A) U U) ?_))
 intro zrv _
 refine Lg 6 (yv (cs:=[(vi 0),(vi 0)]) zW U) fun zkr _=>WL.nil<|Lb<|WC.b ?_
 obtain⟨znY,zWL,h⟩:=za h
 refine Ld<|Ll 12 (zb Tryz.call161 .nil) .nil (cc hz .nil fun w pz ho=>y4S zWL w pz ) (Lg 7 (yv (cs:=[(vi 0),(vi 0)]) zW U) fun zks _=>Lk U U (yl zA U U U .here U U U)<|WL.nil<|Lb ?_)
 obtain⟨zcM,zWM,h⟩:=y95 h
 refine Kc (fun(zf9:Int) (zfa:Int) (zfb:Int)=>(zcM zf9 zfa zfb=some r)) (fun zf9 zfa zfb=>[(6,(vp zkr)),(7,(vp zks))]) (fun zf9 zfa zfb=>[stb zkr 175 [(vi 0),(vi 0)],stb zks 175 [(vi zf9),(vi zfa)],stb z9O 277 [(vi zfb)]]) ?_ ?_
 ·skip
  let C:Value:=(.slice zrt z5X.length zru);let D:Value:=(vi ((z5X.length:Nat):Int));refine WC.b (Ld (La U (Le 14 (yI Tryz.underlying171 U) (La U (WL.nil (Lb (WC.block (WC.y7y (fun(zkt:Nat) (z6t:Int) (z7J:Int) (z8i:Int) (z8j:Int)=>(y2r z5X z5Y zcM zkt z6t z7J z8i z8j=some r)) (fun zkt z6t z7J z8i z8j=>[(0,(vp z9O)),(5,(vp zrv)),(6,(vp zkr)),(7,(vp zks)),(13,C),(14,D),(15,(vi z6t))]) (fun zkt z6t z7J z8i z8j=>[stb z9O 277 [(vi z7J)],stb zrv 175 A,stb zkr 175 [(vi 0),(vi 0)],stb zks 175 [(vi z8i),(vi z8j)]]) (fun zkt z6t z7J z8i z8j=>zkt) ⟨yx,0,zf8.fE,znY.fN,znY.fD⟩ h (.r7 U U U U U U U) (.s4 .h3 .h2 .h1 .here) ?_))))))))
  rintro zkt z6t z7J z8i z8j h
  obtain⟨zzK,rfl⟩:=y8Z h
  rw[y2r] at h
  refine WC.b<|Ld<|La U<|WL.nil<|Lb<|WC.b<|WC.cond U (fun zzL=>?_)<|fun zzL=>?_
  ·replace h:=yq h zzL
   refine WC.skip<|Lb<|WC.b<|WC.block<|WC.b ?_
   obtain⟨zWN,h⟩:=yn h
   refine Ld<|L0 (dd:=17) U U (Z:=Z) (Pr:=(y27 Z)) z9h U U zWK zWN ?_
   rintro z18t z18u zWO z18v ⟨z18w,z18x,rfl,zWP⟩
   refine Le 18 (yc zdI U<|y3C hz.pv zWO U)<|La U<|WL.nil<|Lb<|WC.b ?_
   obtain⟨zkq,zWQ,h⟩:=za h
   refine Ld<|La U<|Le 21 (yi zg U (yk .h1) U)<|Ll 22 (zb Tryz.call162<|.r2 U U) .nil (cc hz .nil fun w pz ho=>yib zWQ w pz zWP)<|La U<|La U<|La U (Lg 10 (yv (cs:=[(vi 0),(vi 0)]) zW U) fun zJG _=>Lk U U (yl zA U U U .here U U U)<|La U<|WL.nil<|Lb ?_)
   obtain⟨zrs,zWR,h⟩:=y12 h
   refine Kf (fun(zf7:Int)=>(zrs zf7=some r)) (fun zf7=>[(0,(vp z9O)),(5,(vp zrv)),(6,(vp zkr)),(7,(vp zks)),(10,(vp zJG)),(13,C),(14,D),(15,(vi z6t))]) (fun zf7=>[stb z9O 277 [(vi zf7)],stb zrv 175 A,stb zkr 175 [(vi 0),(vi 0)],stb zks 175 [(vi z8i),(vi z8j)],stb zJG 175 [(vi zkq.1.fN),(vi zkq.1.fD)]]) ?_ ?_
   ·skip
    refine WC.b<|Ld<|La U<|Le 26 (y1e U)<|Le 27 (ya y5w U U)<|Le 28 (yc y3A U<|yh .h1 U)<|La U<|WL.nil<|Lb<|WC.cond U (fun zzM=>?_)<|fun zzM=>?_
    ·replace h:=yq h zzM
     refine Ld<|La U<|La U<|Le 32 (y1e U)<|Le 33 (ya y5w U U)<|Lk U U (yl ybh U U U .h1 U U U)<|WL.nil ?_
     exact Ln zkq.2 h (.r8 U U U U U U U U)<|.s5 .here .h1 .h1 .h1 .here
    ·replace h:=yr h zzM
     refine WC.skip ?_
     exact Ln z7J h (.r8 U U U U U U U U)<|.s5 .h1 .h1 .h1 .h1 .here
   ·rintro zf7 h
    replace h:=(zWR zf7).symm.trans h
    obtain⟨zho,zWS,h⟩:=za h
    refine Ld<|La U<|Le 35 (yi zg U (yk .h3) U)<|Le 36 (yi zg U (yk .h4) U)<|Ll 37 (zb Tryz.call123<|.r4 U U U U) (.cons .here .nil) (cc hz (.cons .here .nil) fun w pz ho=>y2P _ _ (z7G:=119) (z8N:=[]) _ (z8g:=(fun(y0:z1) (y1:z1)=>y1q y0 y1)) _ _ _ zWS w pz Tryz.call119 (fun w' hz' y0 y1  r  hr=>y6N hr w' hz' ) ho)<|Lk U U (yl zA U U U .h3 U U U)<|WL.nil<|Lt<|Lb<|Ld<|La U<|La U<|WL.nil ?_
    exact WX.round ⟨zzK,(i64 (z6t+1)),zho.2.fE,zho.1.fN,zho.1.fD⟩ h (Nat.lt_succ_self _) (.r7 U U U U U U U)<|.s4 .h1 .h1 .h1 .here
  ·replace h:=yr h zzL
   refine WC.exit<|Lm<|Lm<|Lu ?_
   exact Ln ⟨z8i,z8j,z7J⟩ h (.r2 U U)<|.s3 .h2 .h2 .here
 ·rintro zf9 zfa zfb h
  replace h:=(zWM zf9 zfa zfb).symm.trans h
  refine WC.b<|Ld<|Le 39 (yi zg U (yk .h1) U)<|Lk U U (yl zA U U U .here U U U)<|WL.nil<|Lb<|WC.ret ?_
  obtain rfl:=oJ h
  refine Lh Tryz.results126 (.agg U zg U (yk .here) .nil)<|fun w hw=>?_
  exact⟨yC U,hw.sub (.cons .h2 .nil)⟩
def y5l(zhp:z1z)(zaA:z1)(znZ:List (List z2))(z8S:zSv):Option (z1×z1z):=
 (y3B zhp znZ zaA).bind fun zzN=>(y1d zzN.2 (fun(y0:z1) (y1:z1)=>y4d y0 y1) zzN.1 z8S.fRate).bind fun zzO=>(y1d zzO.2 (fun(y0:z1) (y1:z1)=>y2y y0 y1) zzO.1 zaA).bind fun zzP=>(y1d zzP.2 (fun(y0:z1) (y1:z1)=>y1q y0 y1) zzP.1 z8S.fL).bind fun zzQ=>some (zzQ.1,zzQ.2)
theorem ycQ{Z:Zp}{zku:Nat}{zJH:Addr}{zJI:Option Addr}{zJJ:Nat}{zJK:Addr}{zhp:z1z}{zaA:z1}{znZ:List (List z2)}{z8S:zSv}{r:z1×z1z}(h:y5l zhp zaA znZ z8S=some r)(w₀:World)(hz:PZ (fps [stb zku 277 [(vi zhp.fE)]]) w₀ Z)(zWT:ZS Z 1 (y27 Z) zJI zJJ znZ)(zWU:ZC Z zJH [(.slice zJI znZ.length zJJ)])(zJL:ZC Z zJK [(vi z8S.fRate.fN),(vi z8S.fRate.fD),(vi z8S.fL.fN),(vi z8S.fL.fD)])(hown:Hp (fps [stb zku 277 [(vi zhp.fE)]]) w₀ w₀ [stb zku 277 [(vi zhp.fE)]]):
  Calls Tryz.prog 122 #[(vp zku),(.agg #[(vi zaA.fN),(vi zaA.fD)]),(vq zJH),(vq zJK)] w₀ fun e w'=>e = .returned (.agg #[(vi r.1.fN),(vi r.1.fD)])∧Hp (fps [stb zku 277 [(vi zhp.fE)]]) w₀ w' [stb zku 277 [(vi r.2.fE)]]:=by
 unfold y5l at h
 refine Calls.oh4 Tryz.func122 Tryz.ntmps122 hown ?_
 refine WC.b<|Ld (Lg 5 (yH (cs:=[(vi zaA.fN),(vi zaA.fD)]) U U) fun zWV _=>Lg 6 (yv (cs:=[(vi 0),(vi 0)]) zW U) fun z18y _=>WL.nil<|Lb<|WC.b ?_)
 obtain⟨zzN,zWW,h⟩:=za h
 obtain⟨zzO,zWX,h⟩:=za h
 obtain⟨zzP,zWY,h⟩:=za h
 obtain⟨zzQ,zWZ,h⟩:=za h
 refine Lx (fun i=>[6,9,11,14,15].contains i) [stb zWV 175 [(vi zaA.fN),(vi zaA.fD)]] U<|Lf 0 7 U (fun _=>q_m U)<|Lf 1 8 U (fun _=>q_m U)<|Lf 2 9 U (fun _=>q_m U)<|Lf 3 10 U (fun _=>q_m U)<|Lj 4 11 U (yc z8z U<|y3C hz.pv zWU U)<|Lj 5 12 U (yi zg U (yk .h1) U)<|Lf 7 14 U (fun _=>ya y9f U U)<|L6 8 15 U (Sin.of<|.cons .h1 .nil) (yU (cs:=[(vi z8S.fRate.fN),(vi z8S.fRate.fD)]) zg U U<|ybe (off:=0) (s:=2) hz.pv zJL U)<|L6 10 17 U (Sin.of<|.cons .h1 .nil) (yi zg U (yk .here) U)<|Lf 12 19 U (fun _=>ya y9g U U)<|L6 13 20 U (Sin.of<|.cons .h1 .nil) (yU (cs:=[(vi z8S.fL.fN),(vi z8S.fL.fD)]) zg U U<|ybe (off:=2) (s:=2) hz.pv zJL U) (Ka (i:=6) (dd:=13) U (by kernel_rfl) U U U (.inl ⟨U,(Sin.of<|.cons .h2 .nil)⟩) (zb Tryz.call126<|.r3 U U U) (.cons .h2 .nil) (cc hz (.cons .h2 .nil) fun w pz ho=>Calls.mono (y8C zWW w pz zWT ho)<|fun _ _ h'=>⟨h'.1,trivial,h'.2⟩) fun _=>Ka (i:=9) (dd:=16) U (by kernel_rfl) U U U (.inl ⟨U,(Sin.of<|.cons .h2 .nil)⟩) (zb Tryz.call123<|.r4 U U U U) (.cons .here .nil) (cc hz (.cons .here .nil) fun w pz ho=>Calls.mono (y2P _ _ (z7G:=125) (z8N:=[]) _ (z8g:=(fun(y0:z1) (y1:z1)=>y4d y0 y1)) _ _ _ zWX w pz Tryz.call125 (fun w' hz' y0 y1  r  hr=>yfr hr w' hz' ) ho)<|fun _ _ h'=>⟨h'.1,trivial,h'.2⟩) fun _=>Ka (i:=11) (dd:=18) U (by kernel_rfl) U U U (.inl ⟨U,(Sin.of<|.cons .h2 .nil)⟩) (zb Tryz.call123<|.r4 U U U U) (.cons .here .nil) (cc hz (.cons .here .nil) fun w pz ho=>Calls.mono (y2P _ _ (z7G:=124) (z8N:=[]) _ (z8g:=(fun(y0:z1) (y1:z1)=>y2y y0 y1)) _ _ _ zWY w pz Tryz.call124 (fun w' hz' y0 y1  r  hr=>y9K hr w' hz' ) ho)<|fun _ _ h'=>⟨h'.1,trivial,h'.2⟩) fun _=>Ka (i:=14) (dd:=21) U (by kernel_rfl) U U U (.inl ⟨U,(Sin.of<|.cons .h2 .nil)⟩) (zb Tryz.call123<|.r4 U U U U) (.cons .here .nil) (cc hz (.cons .here .nil) fun w pz ho=>Calls.mono (y2P _ _ (z7G:=119) (z8N:=[]) _ (z8g:=(fun(y0:z1) (y1:z1)=>y1q y0 y1)) _ _ _ zWZ w pz Tryz.call119 (fun w' hz' y0 y1  r  hr=>y6N hr w' hz' ) ho)<|fun _ _ h'=>⟨h'.1,trivial,h'.2⟩) fun _=>Kb (i:=15) U (by kernel_rfl) U U U (by kernel_rfl) (yl zA U U U .h1 U U U)<|WD.done (by kernel_rfl)<|Lb<|WC.ret ?_)
 obtain rfl:=oJ h
 refine Lh Tryz.results122 (.agg U zg U (yk .here) .nil)<|fun w hw=>?_
 exact⟨yC U,hw.sub (.cons .h1 .nil)⟩
end Go.Proofs.YthjnhebofpebpaaGreat
