/- A part of this claim's proof: models of functions, walks, plain laws. No conditions. -/
import Derived.Test.YthjnhebofpebpaaGreatW36c
set_option linter.all false
namespace Go.Proofs.YthjnhebofpebpaaGreat
open Go Go.RowKit Sep
set_option maxRecDepth 30000
set_option maxHeartbeats 4000000
def y23(zez:z1y)(zck:z2→z2→Option (z2×Int))(zeA:z2)(zeB:z2):Option (z2×z1y):=
 if decide (zez.fE≠0) then some ((⟨0,0⟩:z2),zez) else(zck zeA zeB).bind fun zqf=>some (zqf.1,(⟨zqf.2⟩:z1y))
theorem y6c(Z:Zp)(zjm:Nat)(zam:FuncId)(zeC:List Value)(zez:z1y)(zck:z2→z2→Option (z2×Int))(zeA:z2)(zeB:z2)(r:z2×z1y)(h:y23 zez zck zeA zeB=some r)(w₀:World)(hz:PZ (fps [stb zjm 307 [(vi zez.fE)]]) w₀ Z)(zTs:∀ args w,(callFunc zam args).run Tryz.prog w = .ok (.enter zam args) w)(zTt:∀ w:World,PZ [] w Z→∀(x0:z2) (x1:z2) (r:z2×Int),zck x0 x1=some r→Calls Tryz.prog zam (([(.agg #[(vi x0.fN),(vi x0.fD)]),(.agg #[(vi x1.fN),(vi x1.fD)])]:List Value)++zeC).toArray w fun e w'=>e = .returned (.tuple #[(.agg #[(vi r.1.fN),(vi r.1.fD)]),(vi r.2)])∧Hp [] w w' [])(hown:Hp (fps [stb zjm 307 [(vi zez.fE)]]) w₀ w₀ [stb zjm 307 [(vi zez.fE)]]):
  Calls Tryz.prog 210 #[(vp zjm),(.func (.func zam) #[] (zeC).toArray),(.agg #[(vi zeA.fN),(vi zeA.fD)]),(.agg #[(vi zeB.fN),(vi zeB.fD)])] w₀ fun e w'=>e = .returned (.agg #[(vi r.1.fN),(vi r.1.fD)])∧Hp (fps [stb zjm 307 [(vi zez.fE)]]) w₀ w' [stb zjm 307 [(vi r.2.fE)]]:=by
 unfold y23 at h
 refine Calls.oh4 Tryz.func210 Tryz.ntmps210 hown ?_
 refine WC.b<|Ld (Lg 6 (yI (cs:=[(vi zeA.fN),(vi zeA.fD)]) U U) fun z16l _=>Lg 7 (yI (cs:=[(vi zeB.fN),(vi zeB.fD)]) U U) fun z16m _=>Lg 8 (yv (cs:=[(vi 0),(vi 0)]) zV U) fun z16n _=>WL.nil<|Lb<|WC.b<|WC.b<|Ld<|La U<|Le 12 (y1f U)<|Le 13 (ya y98 U U)<|Le 14 (yc y3A U<|yi .h3 U)<|La U<|WL.nil<|Lb<|WC.cond U (fun zxQ=>?_)<|fun zxQ=>?_)
 ·replace h:=yr h zxQ
  refine WC.b<|Ld<|Le 16 (yL (v:=(.agg #[(vi 0),(vi 0)])) (Lp (l:=[]) .nil []) (fun _=>by kernel_rfl))<|Ll U U (yn zz U U U .here U U U)<|WL.nil<|Lb<|WC.ret<|Lj ?_
  obtain rfl:=oJ h
  refine Lh Tryz.results210 (.agg U zg U (yj .here) .nil)<|fun w hw=>?_
  exact⟨yD U,hw.sub (.cons .h3 .nil)⟩
 ·replace h:=ys h zxQ
  refine WC.skip<|Lb<|WC.b ?_
  obtain⟨zqf,zTu,h⟩:=za h
  refine Ld<|La U<|Le 19 (yh zg U (yj .h2) U)<|Le 20 (yh zg U (yj .h1) U)<|Lk 21 (y2G (l:=[.tmp 19,.tmp 20]) (f:=zam) (caps:=zeC) zTs U<|.r2 U U) .nil (fun w hw=>zTt w (hz.now hw) zeA zeB zqf  zTu)<|La U<|La U<|La U (Lg 9 (yv (cs:=[(vi 0),(vi 0)]) zV U) fun z16o _=>Ll U U (yn zz U U U .here U U U)<|La U<|WL.nil<|Lb<|WC.b<|Ld<|La U<|La U<|Le 26 (y1f U)<|Le 27 (ya y98 U U)<|Ll U U (yn ybd U U U .h4 U U U)<|WL.nil<|Lb<|WC.b<|Ld<|Le 28 (yh zg U (yj .h1) U)<|Ll U U (yn zz U U U .h2 U U U)<|WL.nil<|Lb<|WC.ret ?_)
  obtain rfl:=oJ h
  refine Lh Tryz.results210 (.agg U zg U (yj .here) .nil)<|fun w hw=>?_
  exact⟨yD U,hw.sub (.cons .h1 .nil)⟩
def ya1(zjn:z2)(zjo:z2):Option (Int×Int):=
 some ((i64 (zjn.fN*zjo.fD)),(i64 (zjn.fD*zjo.fN)))
theorem yhW{Z:Zp}{zHV:Addr}{zHW:Addr}{zjn:z2}{zjo:z2}{r:Int×Int}(h:ya1 zjn zjo=some r)(w₀:World)(hz:PZ [] w₀ Z)(zHX:ZC Z zHV [(vi zjn.fN),(vi zjn.fD)])(zHY:ZC Z zHW [(vi zjo.fN),(vi zjo.fD)]):
  Calls Tryz.prog 190 #[(vq zHV),(vq zHW)] w₀ fun e w'=>e = .returned (.tuple #[(vi r.1),(vi r.2)])∧Hp [] w₀ w' []:=by
 unfold ya1 at h
 refine Lz Tryz.func190 Tryz.ntmps190 ?_
 refine WC.b<|Ld<|La U<|La U<|WL.nil<|Lb<|WC.b<|Lv (fun i=>[].contains i) [] U<|Lf 0 4 U (fun _=>ya y2D U U)<|Li 1 5 U (yc yq U<|y17 hz.pv zHX U)<|Lf 2 6 U (fun _=>ya y33 U U)<|Li 3 7 U (yc yq U<|y17 hz.pv zHY U)<|Lf 4 8 U (fun _=>y7f U U U)<|Lf 5 9 U (fun _=>ya y33 U U)<|Li 6 10 U (yc yq U<|y17 hz.pv zHX U)<|Lf 7 11 U (fun _=>ya y2D U U)<|Li 8 12 U (yc yq U<|y17 hz.pv zHY U)<|Lf 9 13 U (fun _=>y7f U U U)<|Lf 10 2 U (fun _=>q_z U)<|Lf 11 3 U (fun _=>q_z U)<|WD.done (by kernel_rfl)<|Lb<|WC.ret ?_
 obtain rfl:=oJ h
 refine Lh Tryz.results190 (.tmp U<|.tmp U .nil)<|fun w hw=>?_
 exact⟨y1R U U,hw.sub .nil⟩
def y9y(zeD:z2)(zan:z2):Option (z2×Int):=
 (y1Y zeD).bind fun zHZ=>(if !zHZ then some true else(y1Y zan).bind fun zI0=>some (!zI0)).bind fun zqg=>if zqg||(decide (zan.fN=0)) then some ((⟨0,0⟩:z2),2) else(ya1 zeD zan).bind fun zxR=>(y5J zxR.1 zxR.2).bind fun zxS=>some (zxS.1,zxS.2)
theorem yiu{Z:Zp}{zeD:z2}{zan:z2}{r:z2×Int}(h:y9y zeD zan=some r)(w₀:World)(hz:PZ [] w₀ Z):
  Calls Tryz.prog 159 #[(.string ⟨#[47]⟩),(.agg #[(vi zeD.fN),(vi zeD.fD)]),(.agg #[(vi zan.fN),(vi zan.fD)])] w₀ fun e w'=>e = .returned (.tuple #[(.agg #[(vi r.1.fN),(vi r.1.fD)]),(vi r.2)])∧Hp [] w₀ w' []:=by
 unfold y9y at h
 refine Ke Tryz.func159 Tryz.ntmps159 ?_
 refine WC.b<|Ld (Lg 4 (yI (cs:=[(vi zeD.fN),(vi zeD.fD)]) U U) fun zmV _=>Lg 5 (yI (cs:=[(vi zan.fN),(vi zan.fD)]) U U) fun zmW _=>Lg 6 (yv (cs:=[(vi 0),(vi 0)]) zV U) fun z16p _=>La U<|WL.nil<|Lb<|WC.b<|WC.b ?_)
 obtain⟨zHZ,zTv,h⟩:=za h
 obtain⟨zqg,zI1,h⟩:=za h
 refine Ld<|Le 9 (yh zg U (yj .h2) U)<|Lk 10 (zb Tryz.call130<|.cons U .nil) .nil (cc hz .nil fun w pz ho=>y2N zTv w pz )<|La U<|La U<|Lx false 3 12 (B:=zqg) U U U U U U (fun h=>(oJ<|yr zI1 h).symm) (fun _ zTw=>?_) ?_
 ·skip
  have zmX:=ys zI1 zTw
  obtain⟨zI0,zTx,zmX⟩:=za zmX
  replace zmX:=oJ zmX
  refine Le 13 (yh zg U (yj .h1) U)<|Lk 14 (zb Tryz.call130<|.cons U .nil) .nil (cc hz .nil fun w pz ho=>y2N zTx w pz )<|La U<|La U ?_
  exact Ly zmX U U .all
 refine La U<|Lx false 7 17 (B:=zqg||(decide (zan.fN=0))) U U U U U U (fun h=>(y7Q h).symm) (fun _ zTy=>?_) ?_
 ·skip
  refine La U<|Le 19 (yd5 (r:=true) (by decide) U U)<|La U<|Le 21 (ya y2D U U)<|Le 22 (yc yq U<|yi .h1 U)<|La U<|La U<|La U ?_
  exact Ly (y7R zTy) U U .all
 refine WL.nil<|Lb<|WC.cond U (fun zxT=>?_)<|fun zxT=>?_
 ·replace h:=yr h zxT
  refine WC.b<|Ld<|Le 26 (yL (v:=(.agg #[(vi 0),(vi 0)])) (Lp (l:=[]) .nil []) (fun _=>by kernel_rfl))<|Ll U U (yn zz U U U .here U U U)<|La U<|WL.nil<|Lb<|WC.ret<|Lj ?_
  obtain rfl:=oJ h
  refine Lh Tryz.results159 (.agg U zg U (yj .here)<|.tmp U .nil)<|fun w hw=>?_
  exact⟨y1R U U,hw.sub .nil⟩
 ·replace h:=ys h zxT
  refine WC.skip<|Lb<|WC.b<|Ld<|Lg 27 (y3b Value.string<|fun x=>x) ?_
  intro z16q _
  let A:Value:=(.func (.func 190) #[] #[(vp zmV),(vp zmW)]);refine Le 28 (y16 (L3 (l:=[.tmp 4,.tmp 5]) (.r2 U U))) (Ll U U (y45 (k:=⟨#[43]⟩) (v:=(.func (.func 187) #[] #[(vp zmV),(vp zmW)])) y4q Tryz.underlying304 U U U U .here) (Le 29 (y16 (L3 (l:=[.tmp 4,.tmp 5]) (.r2 U U))) (Ll U U (y45 (k:=⟨#[45]⟩) (v:=(.func (.func 188) #[] #[(vp zmV),(vp zmW)])) y4q Tryz.underlying304 U U U U .here) (Le 30 (y16 (L3 (l:=[.tmp 4,.tmp 5]) (.r2 U U))) (Ll U U (y45 (k:=⟨#[42]⟩) (v:=(.func (.func 189) #[] #[(vp zmV),(vp zmW)])) y4q Tryz.underlying304 U U U U .here) (Le 31 (y16 (L3 (l:=[.tmp 4,.tmp 5]) (.r2 U U))) (Ll U U (y45 (k:=⟨#[47]⟩) (v:=A) y4q Tryz.underlying304 U U U U .here) (La U (La U (WL.nil (Lb (WC.b ?_))))))))))))
  obtain⟨zxR,zTz,h⟩:=za h
  obtain⟨zxS,zTA,h⟩:=za h
  refine Ld<|La U<|La U<|Le 35 (yd4 (k:=⟨#[47]⟩) (dflt:=.nilFunc) (r:=A) y4q Tryz.underlying304 zp3 U U U .here (by rfl))<|Lk 36 (y2G (l:=[]) Tryz.call190 U .nil) .nil (ccl hz .nil (.s2 .h3 .h2) fun w pz ho la=>yhW zTz w pz ((la _ (.head _) _).stb)<|(la _ (.tail _<|.head _) _).stb)<|La U<|La U<|Lk 39 (zb Tryz.call160<|.r2 U U) .nil (cc hz .nil fun w pz ho=>y8J zTA w pz )<|La U<|La U<|Ll U U (yn zz U U U .h1 U U U)<|La U<|WL.nil<|Lb<|WC.ret ?_
  obtain rfl:=oJ h
  refine Lh Tryz.results159 (.agg U zg U (yj .here)<|.tmp U .nil)<|fun w hw=>?_
  exact⟨y1R U U,hw.sub .nil⟩
def y4e(zgR:z2)(zgS:z2):Option (z2×Int):=
 (y9y zgR zgS).bind fun zxU=>some (zxU.1,zxU.2)
theorem yfi{Z:Zp}{zgR:z2}{zgS:z2}{r:z2×Int}(h:y4e zgR zgS=some r)(w₀:World)(hz:PZ [] w₀ Z):
  Calls Tryz.prog 125 #[(.agg #[(vi zgR.fN),(vi zgR.fD)]),(.agg #[(vi zgS.fN),(vi zgS.fD)])] w₀ fun e w'=>e = .returned (.tuple #[(.agg #[(vi r.1.fN),(vi r.1.fD)]),(vi r.2)])∧Hp [] w₀ w' []:=by
 unfold y4e at h
 refine Lz Tryz.func125 Tryz.ntmps125 ?_
 refine WC.b<|Ld (Lg 2 (yI (cs:=[(vi zgR.fN),(vi zgR.fD)]) U U) fun z16r _=>Lg 3 (yI (cs:=[(vi zgS.fN),(vi zgS.fD)]) U U) fun z16s _=>Lg 4 (yv (cs:=[(vi 0),(vi 0)]) zV U) fun z16t _=>La U<|WL.nil<|Lb<|WC.b ?_)
 obtain⟨zxU,zTB,h⟩:=za h
 refine Ld<|Le 6 (yh zg U (yj .h2) U)<|Le 7 (yh zg U (yj .h1) U)<|Lk 8 (zb Tryz.call159<|.r3 U U U) .nil (cc hz .nil fun w pz ho=>yiu zTB w pz )<|La U<|La U<|Ll U U (yn zz U U U .here U U U)<|La U<|WL.nil<|Lb<|WC.ret ?_
 obtain rfl:=oJ h
 refine Lh Tryz.results125 (.agg U zg U (yj .here)<|.tmp U .nil)<|fun w hw=>?_
 exact⟨y1R U U,hw.sub .nil⟩
theorem zTC:∀ w,(isAgg (Tryz.y3J.t 24)).run Tryz.prog w = .ok true w:=fun _=>by kernel_rfl
theorem zTD:∀ w,(Go.sizeOf (Tryz.y3J.t 24)).run Tryz.prog w = .ok 2 w:=fun _=>by kernel_rfl
def y4E(z5V:List z2)(zmY:Int)(zmZ:Int)(zjp:Int)(zgT:z2→z2→Option Int):Option (List z2):=chk ((zmY=0∧zmZ=((z5V.length:Nat):Int))∧(0≤zjp∧zjp<4611686018427387904∧z5V.length<4611686018427387904)) (chk (y87 zgT (yX zgT z5V)=true) (some (yX zgT z5V)))
theorem y8o(Z:Zp)(zgU:Option Addr)(zgV:Nat)(zn0:FuncId)(zxV:List Value)(z5V:List z2)(zmY:Int)(zmZ:Int)(zjp:Int)(zgT:z2→z2→Option Int)(r:List z2)(w₀:World)(hz:PZ (fps [row (.slice zgU z5V.length zgV) 175 2 (z5V.flatMap yA)]) w₀ Z)(zTE:∀ args w,(callFunc zn0 args).run Tryz.prog w = .ok (.enter zn0 args) w)(zTF:∀ w:World,PZ [] w Z→∀(x0:z2) (x1:z2) (r:Int),zgT x0 x1=some r→Calls Tryz.prog zn0 (([(.agg #[(vi x0.fN),(vi x0.fD)]),(.agg #[(vi x1.fN),(vi x1.fD)])]:List Value)++zxV).toArray w fun e w'=>e = .returned (vi r)∧Hp [] w w' [])(h:y4E z5V zmY zmZ zjp zgT=some r)(hown:Hp (fps [row (.slice zgU z5V.length zgV) 175 2 (z5V.flatMap yA)]) w₀ w₀ [row (.slice zgU z5V.length zgV) 175 2 (z5V.flatMap yA)]):
  Calls Tryz.prog 227 #[(.slice zgU z5V.length zgV),(vi zmY),(vi zmZ),(vi zjp),(.func (.func zn0) #[] (zxV).toArray)] w₀ fun e w'=>e = .returned (.tuple #[])∧(r.length=z5V.length)∧Hp (fps [row (.slice zgU z5V.length zgV) 175 2 (z5V.flatMap yA)]) w₀ w' [row (.slice zgU r.length zgV) 175 2 (r.flatMap yA)]:=by
 obtain⟨h0,h⟩:=yl h
 obtain⟨h1,h⟩:=yl h
 have hr:=(oJ h).symm
 exact y9n (P:=Tryz.prog) (f:=227) (e:=175) (k:=2) (enc:=yA) (fun _=>U) (by decide) yd6 (fun β _ enc cf g cb hO blk off cap d0 w0 eg hC R=>Tryz.y8Z 2 zTC zTD enc cf g cb hO blk off cap d0 w0 eg hC R) (Tryz.y8N (α:=Unit)) hz zTE zTF h0 h1 hr hown
def y2g(z5d:List z2)(zjq:z2→z2→Option Int):Option (List z2):=
 (y4k (u64 ((z5d.length:Nat):Int))).bind fun zqh=>(y4E z5d 0 ((z5d.length:Nat):Int) zqh zjq).bind fun zqi=>some zqi
theorem y84(Z:Zp)(zeE:Option Addr)(zeF:Nat)(zjr:FuncId)(zqj:List Value)(z5d:List z2)(zjq:z2→z2→Option Int)(r:List z2)(h:y2g z5d zjq=some r)(w₀:World)(hz:PZ (fps [row (.slice zeE z5d.length zeF) 175 2 (z5d.flatMap yA)]) w₀ Z)(zTG:∀ args w,(callFunc zjr args).run Tryz.prog w = .ok (.enter zjr args) w)(zTH:∀ w:World,PZ [] w Z→∀(x0:z2) (x1:z2) (r:Int),zjq x0 x1=some r→Calls Tryz.prog zjr (([(.agg #[(vi x0.fN),(vi x0.fD)]),(.agg #[(vi x1.fN),(vi x1.fD)])]:List Value)++zqj).toArray w fun e w'=>e = .returned (vi r)∧Hp [] w w' [])(hown:Hp (fps [row (.slice zeE z5d.length zeF) 175 2 (z5d.flatMap yA)]) w₀ w₀ [row (.slice zeE z5d.length zeF) 175 2 (z5d.flatMap yA)]):
  Calls Tryz.prog 214 #[(.slice zeE z5d.length zeF),(.func (.func zjr) #[] (zqj).toArray)] w₀ fun e w'=>e = .returned (.tuple #[])∧(r.length=z5d.length)∧Hp (fps [row (.slice zeE z5d.length zeF) 175 2 (z5d.flatMap yA)]) w₀ w' [row (.slice zeE r.length zeF) 175 2 (r.flatMap yA)]:=by
 unfold y2g at h
 refine Kg Tryz.func214 Tryz.ntmps214 hown ?_
 refine WC.b<|Ld<|La U<|Le 6 (yG Tryz.underlying229 U)<|La U<|WL.nil<|Lb ?_
 obtain⟨zqh,zTI,h⟩:=za h
 obtain⟨zqi,zTJ,h⟩:=za h
 refine Ld<|La U<|La U<|La U<|Le 10 (y8y Tryz.underlying3 Tryz.underlying147 U U)<|Lk 11 (zb Tryz.call57<|.cons U .nil) .nil (cc hz .nil fun w pz ho=>y8H (Z:=_)  (z8F:=(u64 ((z5d.length:Nat):Int))) (r:=zqh) w pz  zTI)<|La U<|WL.y5h (dd:=13) U U U (zb Tryz.call227<|.r5 U U U U U) (.cons .here .nil) (cc hz (.cons .here .nil) fun w pz ho=>y8o (Z:=_) (zgU:=zeE) (zgV:=zeF) (zn0:=zjr) (zxV:=zqj) (z5V:=z5d) (zmY:=0) (zmZ:=((z5d.length:Nat):Int)) (zjp:=zqh) (zgT:=zjq) (r:=zqi) w pz zTG zTH zTJ ho) ?_
 rintro  zI2
 refine Kh (i:=0) U (u:=(.slice zeE zqi.length zeF)) (y9I zI2.symm)<|WL.nil ?_
 obtain rfl:=oJ h
 refine WX.y5d Tryz.results214 .nil<|fun w hw=>?_
 exact⟨y7p,(zI2.trans U),hw.sub (.cons .here .nil)⟩
def y1l(zN:List z2)(zu:Int)(zcl:(List z2)→Int→Option (List z2)):Nat→(List z2)→Int→Int→Option (List z2)
 | 0,_,_,_=>none
 | zxW+1,zR,z3J,k2_42445=>if decide (k2_42445<((zN.length-(zu:Int).toNat:Nat):Int)) then jp2 (fun(z8M:List z2) (zcm:Int)=>y1l zN zu zcl zxW z8M zcm (i64 (k2_42445+1))) fun zqk=>chk ((0:Int)≤k2_42445∧k2_42445<((zN.length-(zu:Int).toNat:Nat):Int)) (chk ((0:Int)≤(i64 (k2_42445-1))∧(i64 (k2_42445-1))<((zN.length-(zu:Int).toNat:Nat):Int)) (if decide ((⟨((nth zR (zu+k2_42445)).fN),((nth zR (zu+k2_42445)).fD)⟩:z2)≠(⟨((nth zR (zu+(i64 (k2_42445-1)))).fN),((nth zR (zu+(i64 (k2_42445-1)))).fD)⟩:z2)) then chk ((0:Int)≤k2_42445∧k2_42445<((zN.length-(zu:Int).toNat:Nat):Int)) (chk ((0:Int)≤z3J∧z3J<((zR.length:Nat):Int)) (zqk (zR.set (z3J:Int).toNat (⟨((nth zR (zu+k2_42445)).fN),((nth zR (zu+k2_42445)).fD)⟩:z2)) (i64 (z3J+1)))) else zqk zR z3J)) else zcl zR z3J
theorem y6Q{n:Nat}{zN:List z2}{zu:Int}{zcl:(List z2)→Int→Option (List z2)}{zR:List z2}{z3J:Int}{k2_42445:Int}{r:List z2}(h:y1l zN zu zcl n zR z3J k2_42445=some r):∃ m,n=m+1:=by
 cases n with
 | zero=>cases h
 | succ m=>exact⟨m,rfl⟩
def y1m(zN:List z2)(zcn:Option (List z2)):Nat→Int→Option (List z2)
 | 0,_=>none
 | zxX+1,zu=>if decide (zu<((zN.length:Nat):Int)) then jp0 (y1m zN zcn zxX (i64 (zu+1))) fun zxY=>chk ((0:Int)≤zu∧zu<((zN.length:Nat):Int)) (chk ((0:Int)≤(i64 (zu-1))∧(i64 (zu-1))<((zN.length:Nat):Int)) (if decide ((⟨((nth zN zu).fN),((nth zN zu).fD)⟩:z2)=(⟨((nth zN (i64 (zu-1))).fN),((nth zN (i64 (zu-1))).fD)⟩:z2)) then chk ((0:Int)≤zu∧zu<((zN.length:Nat):Int)) (jp2 (fun(z3K:List z2) (z3L:Int)=>chk ((0:Int)≤z3L∧z3L≤((z3K.length:Nat):Int)) (chk ((0:Int)≤z3L∧z3L≤(((z3K.take (z3L:Int).toNat++List.replicate (z3K.length-(z3L:Int).toNat) ((⟨0,0⟩:z2):z2)).length:Nat):Int)) (some ((z3K.take (z3L:Int).toNat++List.replicate (z3K.length-(z3L:Int).toNat) ((⟨0,0⟩:z2):z2)).take (z3L:Int).toNat)))) fun zcl=>y1l zN zu zcl yx zN zu 1) else zxY)) else zcn
theorem y6R{n:Nat}{zN:List z2}{zcn:Option (List z2)}{zu:Int}{r:List z2}(h:y1m zN zcn n zu=some r):∃ m,n=m+1:=by
 cases n with
 | zero=>cases h
 | succ m=>exact⟨m,rfl⟩
def y2n(zN:List z2):Option (List z2):=
 if decide (((zN.length:Nat):Int)<2) then some zN else jp0 (some zN) fun zcn=>y1m zN zcn yx 1
theorem y8a{Z:Zp}{z8c:Option Addr}{z33:Nat}{zN:List z2}{r:List z2}(h:y2n zN=some r)(w₀:World)(hz:PZ (fps [row (.slice z8c zN.length z33) 175 2 (zN.flatMap yA)]) w₀ Z)(hown:Hp (fps [row (.slice z8c zN.length z33) 175 2 (zN.flatMap yA)]) w₀ w₀ [row (.slice z8c zN.length z33) 175 2 (zN.flatMap yA)]):
  Calls Tryz.prog 215 #[(.slice z8c zN.length z33)] w₀ fun e w'=>∃ zI3:Option Addr,∃ zI4:Nat,e = .returned (.slice zI3 r.length zI4)∧True∧Hp (fps [row (.slice z8c zN.length z33) 175 2 (zN.flatMap yA)]) w₀ w' [row (.slice zI3 r.length zI4) 175 2 (r.flatMap yA)]:=by
 unfold y2n at h
 refine Calls.oh1 Tryz.func215 Tryz.ntmps215 hown ?_
 refine WC.b<|Ld<|La U<|WL.nil<|Lb<|WC.b<|WC.b<|Ld<|La U<|Le 7 (yG Tryz.underlying229 U)<|La U<|WL.nil<|Lb<|WC.cond U (fun zxZ=>?_)<|fun zxZ=>?_
 ·replace h:=yr h zxZ
  refine WC.b<|Ld<|La U<|La U<|WL.nil<|Lb<|WC.ret<|Lj ?_
  obtain rfl:=oJ h
  refine Lh Tryz.results215 (.tmp U .nil)<|fun w hw=>?_
  exact⟨z8c,z33,yD U,trivial,hw.sub (.cons .here .nil)⟩
 ·replace h:=ys h zxZ
  refine WC.skip<|Lb ?_
  obtain⟨zcn,zTK,h⟩:=y25 h
  let C:Value:=(.slice z8c zN.length z33);let F:List Asrt:=[row C 175 2 (zN.flatMap yA)];refine L8 ((zcn=some r)) ([(0,C)]) (F) ?_ ?_
  ·skip
   refine WC.b<|Ld<|La U<|WL.nil<|Lb<|WC.block<|L9 (fun(zjs:Nat) (zu:Int)=>(y1m zN zcn zjs zu=some r)) (fun zjs zu=>[(0,C),(3,(vi zu))]) (fun zjs zu=>F) (fun zjs zu=>zjs) ⟨yx,1⟩ h (.r2 U U) (.cons .here .nil) ?_
   rintro zjs zu h
   obtain⟨zxX,rfl⟩:=y6R h
   rw[y1m] at h
   refine WC.b<|WC.b<|Ld<|La U<|La U<|Le 12 (yG Tryz.underlying229 U)<|La U<|WL.nil<|Lb<|WC.cond U (fun zy0=>?_)<|fun zy0=>?_
   ·replace h:=yr h zy0
    refine WC.skip<|Lb ?_
    obtain⟨zxY,zTL,h⟩:=y25 h
    refine L8 ((zxY=some r)) ([(0,C),(3,(vi zu))]) (F) ?_ ?_
    ·skip
     refine WC.block<|WC.b ?_
     obtain⟨zn1,h⟩:=yl h
     obtain⟨zql,h⟩:=yl h
     refine Lv (fun i=>[].contains i) [] U<|Lf 0 16 U (fun _=>q_m U)<|Lf 1 17 U (fun _=>q_m U)<|WD.know (fun w hw=>Hp.y2u .here hw (by intro hz';have:=zn1;rw[hz'] at this;omega)) ?_
     rintro⟨z8N,rfl⟩
     refine Lf 2 18 U (fun _=>yW z2p U U zn1.1 zn1.2 y30)<|Li 3 19 U (y14 (cs:=(yA<|nth zN zu)) zg U U<|y4S .here<|y31 (enc:=yA) (l:=zN) (i:=zu) (sz:=2) (fun _=>U) zn1.1 zn1.2)<|Lf 4 20 U (fun _=>q_m U)<|Lf 5 21 U (fun _=>q_m U)<|Lf 6 22 U (fun _=>y8x U U U)<|Lf 7 23 U (fun _=>yW z2p U U zql.1 zql.2 y30)<|Li 8 24 U (y14 (cs:=(yA<|nth zN<|i64 (zu-1))) zg U U<|y4S .here<|y31 (enc:=yA) (l:=zN) (i:=i64 (zu-1)) (sz:=2) (fun _=>U) zql.1 zql.2)<|Lf 9 25 U (fun _=>y8V (enc:=yA) (a:=(⟨((nth zN zu).fN),((nth zN zu).fD)⟩:z2)) (b:=(⟨((nth zN<|i64 (zu-1)).fN),((nth zN<|i64 (zu-1)).fD)⟩:z2)) zDC U U)<|WD.done (by kernel_rfl)<|Lb<|WC.cond U (fun zy1=>?_)<|fun zy1=>?_
     ·replace h:=yr h zy1
      refine WC.b ?_
      obtain⟨zgW,h⟩:=yl h
      refine Ld<|La U<|La U<|WL.yii (dd:=28) U U z2p U U .here zgW<|La U<|WL.nil<|Lb ?_
      obtain⟨zcl,zTM,h⟩:=y57 h
      refine WC.y5e (fun(z3K:List z2) (z3L:Int)=>(zcl z3K z3L=some r)∧(z3K.length=zN.length)) (fun z3K z3L=>[(0,(.slice (some ⟨z8N,0,none⟩) z3K.length z33)),(3,(vi z3L))]) (fun z3K z3L=>[row (.slice (some ⟨z8N,0,none⟩) z3K.length z33) 175 2 (z3K.flatMap yA)]) ?_ ?_
      ·skip
       let D:Value:=(.slice (some ⟨z8N,(zu:Int).toNat*2,none⟩) (zN.length-(zu:Int).toNat) (z33-(zu:Int).toNat));refine WC.b (Ld (La U (WL.nil (Lb (WC.block (WC.y5y (fun(zjt:Nat) (zR:List z2) (z3J:Int) (k2_42445:Int)=>(y1l zN zu zcl zjt zR z3J k2_42445=some r)∧(zR.length=zN.length)) (fun zjt zR z3J k2_42445=>[(0,(.slice (some ⟨z8N,0,none⟩) zR.length z33)),(3,(vi z3J)),(4,D),(5,(vi k2_42445))]) (fun zjt zR z3J k2_42445=>[row (.slice (some ⟨z8N,0,none⟩) zR.length z33) 175 2 (zR.flatMap yA)]) (fun zjt zR z3J k2_42445=>zjt) ⟨yx,zN,zu,1⟩ ⟨h,U⟩ (.r4 U U U U) (.cons .here .nil) ?_))))))
       rintro zjt zR z3J k2_42445 ⟨h,zju⟩
       obtain⟨zxW,rfl⟩:=y6Q h
       rw[y1l] at h
       refine WC.b<|WC.b<|Ld<|La U<|La U<|Le 31 (yG Tryz.underlying229 U)<|La U<|WL.nil<|Lb<|WC.cond U (fun zy2=>?_)<|fun zy2=>?_
       ·replace h:=yr h zy2
        refine WC.skip<|Lb ?_
        obtain⟨zqk,zTN,h⟩:=y57 h
        refine WC.y5e (fun(z8M:List z2) (zcm:Int)=>(zqk z8M zcm=some r)∧(z8M.length=zN.length)) (fun z8M zcm=>[(0,(.slice (some ⟨z8N,0,none⟩) z8M.length z33)),(3,(vi zcm)),(4,D),(5,(vi k2_42445))]) (fun z8M zcm=>[row (.slice (some ⟨z8N,0,none⟩) z8M.length z33) 175 2 (z8M.flatMap yA)]) ?_ ?_
        ·skip
         refine WC.block<|WC.b ?_
         obtain⟨zqm,h⟩:=yl h
         obtain⟨zqn,h⟩:=yl h
         refine Lv (fun i=>[].contains i) [] U<|Lf 0 35 U (fun _=>q_m U)<|Lf 1 36 U (fun _=>q_m U) ?_
         have zI5:(0:Int)≤zu+k2_42445∧zu+k2_42445<((zR.length:Nat):Int):=by have h1:=zju;have h2:=zgW;have h3:=zqm;omega
         refine Lf 2 37 U (fun _=>yW z2p U U zqm.1 zqm.2<|ydI zgW.1 zqm.1)<|Li 3 38 U (y14 (cs:=(yA<|nth zR (zu+k2_42445))) zg U U<|y4S .here<|y31 (enc:=yA) (l:=zR) (i:=zu+k2_42445) (sz:=2) (fun _=>U) zI5.1 zI5.2)<|Lf 4 39 U (fun _=>q_m U)<|Lf 5 40 U (fun _=>q_m U)<|Lf 6 41 U (fun _=>y8x U U U) ?_
         have zI6:(0:Int)≤zu+(i64 (k2_42445-1))∧zu+(i64 (k2_42445-1))<((zR.length:Nat):Int):=by have h1:=zju;have h2:=zgW;have h3:=zqn;omega
         refine Lf 7 42 U (fun _=>yW z2p U U zqn.1 zqn.2<|ydI zgW.1 zqn.1)<|Li 8 43 U (y14 (cs:=(yA<|nth zR (zu+(i64 (k2_42445-1))))) zg U U<|y4S .here<|y31 (enc:=yA) (l:=zR) (i:=zu+(i64 (k2_42445-1))) (sz:=2) (fun _=>U) zI6.1 zI6.2)<|Lf 9 44 U (fun _=>ybD (enc:=yA) (a:=(⟨((nth zR (zu+k2_42445)).fN),((nth zR (zu+k2_42445)).fD)⟩:z2)) (b:=(⟨((nth zR (zu+(i64 (k2_42445-1)))).fN),((nth zR (zu+(i64 (k2_42445-1)))).fD)⟩:z2)) zDC U U)<|WD.done (by kernel_rfl)<|Lb<|WC.cond U (fun zy3=>?_)<|fun zy3=>?_
         ·replace h:=yr h zy3
          refine WC.b ?_
          obtain⟨zqo,h⟩:=yl h
          obtain⟨zjv,h⟩:=yl h
          refine Ld<|La U<|La U<|La U<|La U ?_
          have zI7:(0:Int)≤zu+k2_42445∧zu+k2_42445<((zR.length:Nat):Int):=by have h1:=zju;have h2:=zgW;have h3:=zqo;omega
          let E:List Value:=[(vi ((nth zR (zu+k2_42445)).fN)),(vi ((nth zR (zu+k2_42445)).fD))];refine Le 49 (yW z2p U U zqo.1 zqo.2 (ydI zgW.1 zqo.1)) (Le 50 (y14 (cs:=(yA (nth zR (zu+k2_42445)))) zg U U (y4S .here (y31 (enc:=yA) (l:=zR) (i:=zu+k2_42445) (sz:=2) (fun _=>U) zI7.1 zI7.2))) (Le 51 (yW z2p U U zjv.1 zjv.2 y30) (Ll U U (yhG (vs:=E) (ds:=(zR.set (z3J:Int).toNat (⟨((nth zR (zu+k2_42445)).fN),((nth zR (zu+k2_42445)).fD)⟩:z2)).flatMap yA) zz U U U U (ocB U) .here (flat_fit (enc:=yA) (sz:=2) (k:=0) (fun _=>U) zjv.1 zjv.2 (by decide)) (flat_put (enc:=yA) (l:=zR) (sz:=2) (vs:=E) (y:=(⟨((nth zR (zu+k2_42445)).fN),((nth zR (zu+k2_42445)).fD)⟩:z2)) (k:=0) (fun _=>U) zjv.1 zjv.2 U (Nat.le_of_ble_eq_true U))) (WL.relen .here (u:=(.slice (some ⟨z8N,0,none⟩) ((zR.set (z3J:Int).toNat (⟨((nth zR (zu+k2_42445)).fN),((nth zR (zu+k2_42445)).fD)⟩:z2)).length) z33)) (y9I (List.length_set).symm) (Kh (i:=0) U (u:=(.slice (some ⟨z8N,0,none⟩) ((zR.set (z3J:Int).toNat (⟨((nth zR (zu+k2_42445)).fN),((nth zR (zu+k2_42445)).fD)⟩:z2)).length) z33)) (y9I (List.length_set).symm) (WL.nil (Lb (Ld (La U (La U (La U (WL.nil (Lt ?_)))))))))))))
          exact Lo ⟨(zR.set (z3J:Int).toNat (⟨((nth zR (zu+k2_42445)).fN),((nth zR (zu+k2_42445)).fD)⟩:z2)),(i64 (z3J+1))⟩ ⟨h,((List.length_set).trans zju)⟩ (.r4 U U U U)<|.cons .here .nil
         ·replace h:=ys h zy3
          refine WC.skip<|Lt ?_
          exact Lo ⟨zR,z3J⟩ ⟨h,zju⟩ (.r4 U U U U)<|.cons .here .nil
        ·rintro z8M zcm ⟨h,zTO⟩
         replace h:=(zTN z8M zcm).symm.trans h
         refine Ld<|La U<|La U<|La U<|WL.nil ?_
         exact WX.round ⟨zxW,z8M,zcm,(i64 (k2_42445+1))⟩ ⟨h,zTO⟩ (Nat.lt_succ_self _) (.r4 U U U U)<|.cons .here .nil
       ·replace h:=ys h zy2
        refine WC.exit<|Ln<|Ln<|Lu ?_
        exact Lo ⟨zR,z3J⟩ ⟨h,zju⟩ (.r2 U U)<|.cons .here .nil
      ·rintro z3K z3L ⟨h,z16u⟩
       replace h:=(zTM z3K z3L).symm.trans h
       refine WC.b ?_
       obtain⟨zqp,h⟩:=yl h
       refine Ld<|La U<|La U<|WL.yif (dd:=56) U U z2p U U .here zqp ?_
       intro z16v z16w zTP
       let A:Value:=(.slice (some ⟨z8N,0,none⟩) ((z3K.take (z3L:Int).toNat++List.replicate (z3K.length-(z3L:Int).toNat) ((⟨0,0⟩:z2):z2)).length) z33);refine Ll U U (yfQ (enc:=yA) (z0:=((⟨0,0⟩:z2):z2)) (l:=z3K) z2p zV U zTP zqp (fun _=>U) (by decide) U yd6 .here) (WL.relen .here (u:=A) (y9I (ycu zqp).symm) (Kh (i:=0) U (u:=A) (y9I (ycu zqp).symm) (WL.nil (Lb (WC.b ?_)))))
       obtain⟨zTQ,h⟩:=yl h
       refine Ld<|La U<|La U (WL.yie (dd:=59) (enc:=yA) (ls:=z3K.take (z3L:Int).toNat++List.replicate (z3K.length-(z3L:Int).toNat) ((⟨0,0⟩:z2):z2)) U U z2p U U .here (fun _=>U) zTQ fun zTR zTS=>La U<|WL.nil<|Lb<|WC.ret<|Lq<|Lj<|Lj<|Lq<|Lj ?_)
       obtain rfl:=oJ h
       refine Lh Tryz.results215 (.tmp U .nil)<|fun w hw=>?_
       exact⟨zTR,zTS,yD U,trivial,hw.sub (.cons .here .nil)⟩
     ·replace h:=ys h zy1
      refine WC.skip<|Lt ?_
      exact Lo () h (.r2 U U)<|.cons .here .nil
    ·rintro  h
     replace h:=zTL.symm.trans h
     refine Ld<|La U<|La U<|La U<|WL.nil ?_
     exact WX.round ⟨zxX,(i64 (zu+1))⟩ h (Nat.lt_succ_self _) (.r2 U U)<|.cons .here .nil
   ·replace h:=ys h zy0
    refine WC.exit<|Ln<|Ln<|Lu ?_
    exact Lo () h (.cons U .nil)<|.cons .here .nil
  ·rintro  h
   replace h:=zTK.symm.trans h
   refine WC.b<|Ld<|La U<|La U<|WL.nil<|Lb<|WC.ret ?_
   obtain rfl:=oJ h
   refine Lh Tryz.results215 (.tmp U .nil)<|fun w hw=>?_
   exact⟨z8c,z33,yD U,trivial,hw.sub (.cons .here .nil)⟩
def y1K(z29:z6×z6)(z5W:List z2)(zjw:Int):Option (Bool×(Nat×List z2×Int)):=
 (y1u z29.1.fBurst z29.2.fBurst).bind fun zI8=>if decide (zI8<0) then(y23 (⟨zjw⟩:z1y) (fun(y0:z2) (y1:z2)=>y2w y0 y1) z29.2.fBurst z29.1.fBurst).bind fun zy4=>(y23 zy4.2 (fun(y0:z2) (y1:z2)=>y2w y0 y1) z29.1.fRate z29.2.fRate).bind fun zy5=>(y23 zy5.2 (fun(y0:z2) (y1:z2)=>y4e y0 y1) zy4.1 zy5.1).bind fun z9K=>chk ((((z5W++([z9K.1]:List z2)).length:Nat):Int)*16≤140737488355328∧(((z5W++([z9K.1]:List z2)).length:Nat):Int)≤4611686018427387904) (some (true,(0,(z5W++([z9K.1]:List z2)),z9K.2.fE))) else some (true,(0,z5W,zjw))
def y24(zeG:List z6):Option (List z2×Int):=
 (y4Y zeG).bind fun zy6=>if !zy6 then some (([]:List z2),2) else(y7y zeG).bind fun zqq=>jp2 (fun(zco:Int) (zao:List z2)=>if decide (zco≠0) then some (([]:List z2),zco) else(y2g zao (fun(y0:z2) (y1:z2)=>y1u y0 y1)).bind fun zy7=>(y2n zy7).bind fun zI9=>some (zI9,0)) fun zy8=>(y72 zqq zqq).bind fun z1e=>(y5u (Nat×List z2×Int) (fun(x:z6×z6) (s:Nat×List z2×Int)=>chk (s.1=0) (y1K x s.2.1 s.2.2)) (0,([]:List z2),0) z1e.1 z1e.2).bind fun z4D=>zy8 z4D.2.2 z4D.2.1
theorem y7L{Z:Zp}{zqr:Option Addr}{zqs:Nat}{zeG:List z6}{r:List z2×Int}(h:y24 zeG=some r)(w₀:World)(hz:PZ [] w₀ Z)(zIa:ZS Z 4 (fun r x=>r=y1N x) zqr zqs zeG):
  Calls Tryz.prog 199 #[(.slice zqr zeG.length zqs)] w₀ fun e w'=>∃ zIb:Option Addr,∃ zIc:Nat,e = .returned (.tuple #[(.slice zIb r.1.length zIc),(vi r.2)])∧True∧Hp [] w₀ w' [row (.slice zIb r.1.length zIc) 175 2 (r.1.flatMap yA)]:=by
 unfold y24 at h
 let P:Value:=(.slice zqr zeG.length zqs);refine Calls.y9f (vs:=[P]) (pre:=[]) (env:=[(0,P)]) Tryz.func199 U Tryz.ntmps199 U (Hp.nil w₀ _) U ?_
 refine WC.pool<|WC.b<|Ld<|La U<|La U<|WL.nil<|Lb<|WC.b<|WC.b ?_
 obtain⟨zy6,zTT,h⟩:=za h
 refine Ld<|La U<|Lk 10 (zb Tryz.call192<|.cons U .nil) .nil (ccz hz .nil .here fun w pz ho=>y86 zTT w pz<|zIa.mono<|Zle.left _ _)<|La U<|WL.nil<|Lb<|WC.cond U (fun zy9=>?_)<|fun zy9=>?_
 ·replace h:=yr h zy9
  refine WC.b<|Ld<|La U<|La U<|WL.nil<|Lb<|WC.ret<|Lj<|WX.nilRow 175 2 ?_
  obtain rfl:=oJ h
  refine WX.ycv Tryz.results199 (.tmp U<|.tmp U .nil)<|fun w hw=>?_
  exact⟨none,0,y1R U U,trivial,hw.sub (.cons .here .nil)⟩
 ·replace h:=ys h zy9
  refine WC.skip<|Lb<|WC.b<|Ld (Lg 4 (yv (cs:=[(vi 0)]) zDA U) fun z3q _=>WL.nil<|Lb<|WC.b<|Ld (Lg 5 (yv (cs:=[vn]) zsX U) fun z3i _=>WL.nil<|Lb<|WC.b ?_))
  obtain⟨zqq,zTU,h⟩:=za h
  refine Ld<|La U<|WL.y4b (dd:=13) U U U (zb Tryz.call212<|.cons U .nil) .nil (ccz hz .nil .h2 fun w pz ho=>yg3 zTU w pz<|zIa.mono<|Zle.left _ _) ?_
  rintro z16x z16y _
  refine La U<|WL.nil<|Lb ?_
  obtain⟨zy8,zTV,h⟩:=y57 h
  refine WC.ygN (fun(zn2:Nat) (zco:Int) (zao:List z2) (zn3:Zp) (zjx:Option Addr) (zjy:Nat)=>(zy8 zco zao=some r)∧(Zle (Z++[]) (Z++zn3))) (fun(zn2:Nat) (zco:Int) (zao:List z2) (zn3:Zp) (zjx:Option Addr) (zjy:Nat)=>[(4,(vp z3q)),(5,(vp z3i))]) (fun(zn2:Nat) (zco:Int) (zao:List z2) (zn3:Zp) (zjx:Option Addr) (zjy:Nat)=>[fz zn3,stb z3q 307 [(vi zco)],stb z3i 229 [(.slice zjx zao.length zjy)],row (.slice zjx zao.length zjy) 175 2 (zao.flatMap yA),dfr zn2]) ?_ ?_
  ·skip
   refine WC.b<|WC.freezeS (ls:=zqq) .here .h2 hz (RR.flat (enc:=y1N) (fun _=>U) _) ?_
   intro z6U zTW zId
   obtain⟨z1e,zTX,h⟩:=za h
   refine Ld<|La U<|La U<|WL.yib (dd:=16) U U U (zb Tryz.call213<|.r2 U U) .nil (ccz hz .nil .here fun w pz ho=>yfG zTX w pz zId zId) ?_
   rintro z3M z3N z42 z43 z44 z47 ⟨zTY,zTZ⟩
   refine WL.nil<|Lb<|WC.block<|WC.pool<|WC.drop (.s6 .here .h3 .h3 .here .here .here)<|WC.nilRow 175 2<|WC.rangeFunc (f:=226) (caps:=[(vp z3M),(vp z3N)]) U Tryz.call226 ?_
   intro z16z z16A z48 z6m z4E zqt zU0 zU1 w hw
   let O:Value:=(.slice none (([]:List z2).length) 0);let A:List Asrt:=[fz [],stb z3i 229 [O],row O 175 2 (([]:List z2).flatMap yA),stb z3q 307 [(vi 0)],blk z48 (z4E .ready none)];have hw1:=hw.selAll ((.s5 .h3 .h3 .h2 .h2 .here):Sel _ A _)
   let C:List Value:=[(.slice z42 z1e.1.length z43)];let E:List Value:=[(.slice z44 z1e.2.length z47)];let F:List Asrt:=[dfr z6m,stb z3M 227 C,stb z3N 227 E,fz z6U];let I:List Asrt:=[stb z3M 227 C,stb z3N 227 E];have pz:=(hz.call2 hw1 ((.cons .here .nil):Sel [y1M A,dfr z6m,stb z3M 227 C,stb z3N 227 E,fz z6U] [y1M A] F) .h3).lend hw1 ((.cons .here .nil):Sel [y1M A,dfr z6m,stb z3M 227 C,stb z3N 227 E,fz z6U] [y1M A] F) (B:=I) (fun _ hx'=>((.s2 .h1 .h1):Sel _ I _).mem hx')
   obtain⟨z4D,zU2,h⟩:=za h
   refine Calls.mono (yem (Z:=_) (zgI:=z48) (z9J:=(Option Addr×Nat)) (z7o:=(fun(g:Option Addr×Nat) (s:Nat×List z2×Int)=>y1M ([fz [],stb z3i 229 [(.slice g.1 s.2.1.length g.2)],row (.slice g.1 s.2.1.length g.2) 175 2 (s.2.1.flatMap yA),stb z3q 307 [(vi s.2.2)]]++[blk z48 (z4E (rdy<|pcs [] s.1)<|pcs [] s.1)]))) (zcj:=(fun(g:Option Addr×Nat) (s:Nat×List z2×Int)=>True)) (zgJ:=(none,0)) (zxG:=⟨z3M,0,none⟩) (zgK:=z42) (zgL:=z43) (zgM:=⟨z3N,0,none⟩) (zqc:=z44) (zqd:=z47) (zP:=(Nat×List z2×Int)) (z5U:=(fun(x:z6×z6) (s:Nat×List z2×Int)=>chk (s.1=0)<|y1K x s.2.1 s.2.2)) (s0_33392:=(0,([]:List z2),0)) (z1J:=z1e.1) (z2l:=z1e.2) (r:=z4D) w pz ?_ trivial (zTY.mono<|Zle.left _ _) ((hw1.lent ((.cons .here .nil):Sel [y1M A,dfr z6m,stb z3M 227 C,stb z3N 227 E,fz z6U] [y1M A] F) (B:=I) (fun _ hx'=>((.s2 .h1 .h1):Sel _ I _).mem hx') (.head _) _).stb) (zTZ.mono<|Zle.left _ _) ((hw1.lent ((.cons .here .nil):Sel [y1M A,dfr z6m,stb z3M 227 C,stb z3N 227 E,fz z6U] [y1M A] F) (B:=I) (fun _ hx'=>((.s2 .h1 .h1):Sel _ I _).mem hx') (.tail _<|.head _) _).stb) zU2<|hw1.owns ((.cons .here .nil):Sel [y1M A,dfr z6m,stb z3M 227 C,stb z3N 227 E,fz z6U] [y1M A] F)) ?_
   ·skip
    refine yaO (LI:=(fun(g:Option Addr×Nat) (s:Nat×List z2×Int)=>[fz [],stb z3i 229 [(.slice g.1 s.2.1.length g.2)],row (.slice g.1 s.2.1.length g.2) 175 2 (s.2.1.flatMap yA),stb z3q 307 [(vi s.2.2)]])) (pc:=(fun(s:Nat×List z2×Int)=>pcs [] s.1)) zqt zU0 zU1 (fun _ _=>U) (by decide) ?_
    rintro z29 _ ⟨zjz,zjA⟩ ⟨zU3,z5W,zjw⟩ zU4 zU5 Fb wb zIe _ hz
    replace hz:=hz.left
    letI:Rnd:=inR z48
    obtain⟨hp0,z4F⟩:=yl zIe
    replace hp0:zU3=0:=hp0;subst hp0;clear zIe
    replace z4F:y1K z29 z5W zjw=some (zU4,zU5):=z4F
    unfold y1K at z4F
    let K:Value:=(.slice zjz z5W.length zjA);let H:List Asrt:=[fz [],stb z3i 229 [K],row K 175 2 (z5W.flatMap yA),stb z3q 307 [(vi zjw)],blk z48 (z4E .ready none)];refine WC.restr (env':=[(11,(.bool (!zy6))),(4,(vp z3q)),(5,(vp z3i)),(17,(.agg #[(vi z29.1.fBurst.fN),(vi z29.1.fBurst.fD),(vi z29.1.fRate.fN),(vi z29.1.fRate.fD)])),(18,(.agg #[(vi z29.2.fBurst.fN),(vi z29.2.fBurst.fD),(vi z29.2.fRate.fN),(vi z29.2.fRate.fD)]))]) (.r5 U U U U U) (WC.eqL (L':=H) U (WC.b (Ld (Lg 7 (yv (cs:=[(vi 0),(vi 0),(vi 0),(vi 0)]) zbl U) ?_))))
    intro zU6 _
    refine Ll U U (yn za2 U U U .here U U U)<|WL.nil<|Lb<|Ld (Lg 8 (yv (cs:=[(vi 0),(vi 0),(vi 0),(vi 0)]) zbl U) fun zU7 _=>Ll U U (yn za2 U U U .here U U U)<|WL.nil<|WX.ybE zqt .h6<|WC.block<|WC.b ?_)
    obtain⟨zI8,zU8,z4F⟩:=za z4F
    let M:List Value:=[(vi z29.1.fBurst.fN),(vi z29.1.fBurst.fD)];let N:List Value:=[(vi z29.2.fBurst.fN),(vi z29.2.fBurst.fD)];refine Ld (Le 19 (ya y5z U U) (Le 20 (y14 (cs:=M) zg U U (y3D (s:=2) .h2 U)) (Le 21 (ya y5z U U) (Le 22 (y14 (cs:=N) zg U U (y3D (s:=2) .h1 U)) (Lk 23 (zb Tryz.call129 (.r2 U U)) .nil (ccz hz .nil .h3 fun w pz ho=>y4Z zU8 w pz ) (La U (WL.nil (Lb (WC.cond U (fun zya=>?_) (fun zya=>?_))))))))))
    ·replace z4F:=yr z4F zya
     obtain⟨zy4,zU9,z4F⟩:=za z4F
     obtain⟨zy5,zUa,z4F⟩:=za z4F
     obtain⟨z9K,zUb,z4F⟩:=za z4F
     obtain⟨zUc,z4F⟩:=yl z4F
     refine Lv (fun i=>[5,10,11,13,14].contains i) [y7S z3i 229 [(0,K)],y7S zU6 225 [(2,(vi z29.1.fRate.fN)),(3,(vi z29.1.fRate.fD))],y7S zU7 225 [(2,(vi z29.2.fRate.fN)),(3,(vi z29.2.fRate.fD))]] U<|L7 0 25 U (Sin.wk (.s3 .h4 .h2 .h1)<|.stb (.cons U .nil)<|.stb (.cons U<|.cons U .nil)<|.stb (.cons U<|.cons U .nil) .nil) (yc z9j U<|y5Z .here<|.head _)<|Lf 1 26 U (fun _=>ya y5z U U)<|Li 2 27 U (y14 (cs:=N) zg U U<|y3D (s:=2) .h1 U)<|Lf 3 28 U (fun _=>ya y5z U U)<|Li 4 29 U (y14 (cs:=M) zg U U<|y3D (s:=2) .h2 U)<|Lf 6 31 U (fun _=>ya y6k U U)<|L7 7 32 U (Sin.wk (.s3 .h4 .h2 .h1)<|.stb (.cons U .nil)<|.stb (.cons U<|.cons U .nil)<|.stb (.cons U<|.cons U .nil) .nil) (y14 (cs:=[(vi z29.1.fRate.fN),(vi z29.1.fRate.fD)]) zg U U<|ybJ .h1 ((.head _))<|(.tail _<|.head _))<|Lf 8 33 U (fun _=>ya y6k U U)<|L7 9 34 U (Sin.wk (.s3 .h4 .h2 .h1)<|.stb (.cons U .nil)<|.stb (.cons U<|.cons U .nil)<|.stb (.cons U<|.cons U .nil) .nil) (y14 (cs:=[(vi z29.2.fRate.fN),(vi z29.2.fRate.fD)]) zg U U<|ybJ .h2 ((.head _))<|(.tail _<|.head _)) (Ka (i:=5) (dd:=30) U (by kernel_rfl) U U U (.inl ⟨U,(Sin.wk (.s3 .h5 .h3 .h2)<|.stb (.cons U .nil)<|.stb (.cons U<|.cons U .nil)<|.stb (.cons U<|.cons U .nil) .nil)⟩) (zb Tryz.call210<|.r4 U U U U) (.cons .h6 .nil) (ccz hz (.cons .h6 .nil) .h3 fun w pz ho=>Calls.mono (y6c _ _ (zam:=124) (zeC:=[]) _ (zck:=(fun(y0:z2) (y1:z2)=>y2w y0 y1)) _ _ _ zU9 w pz Tryz.call124 (fun w' hz' y0 y1  r  hr=>y9x hr w' hz' ) ho)<|fun _ _ h'=>⟨h'.1,trivial,h'.2⟩) fun _=>Ka (i:=10) (dd:=35) U (by kernel_rfl) U U U (.inl ⟨U,(Sin.wk (.s3 .h5 .h3 .h2)<|.stb (.cons U .nil)<|.stb (.cons U<|.cons U .nil)<|.stb (.cons U<|.cons U .nil) .nil)⟩) (zb Tryz.call210<|.r4 U U U U) (.cons .here .nil) (ccz hz (.cons .here .nil) .h3 fun w pz ho=>Calls.mono (y6c _ _ (zam:=124) (zeC:=[]) _ (zck:=(fun(y0:z2) (y1:z2)=>y2w y0 y1)) _ _ _ zUa w pz Tryz.call124 (fun w' hz' y0 y1  r  hr=>y9x hr w' hz' ) ho)<|fun _ _ h'=>⟨h'.1,trivial,h'.2⟩) fun _=>Ka (i:=11) (dd:=36) U (by kernel_rfl) U U U (.inl ⟨U,(Sin.wk (.s3 .h5 .h3 .h2)<|.stb (.cons U .nil)<|.stb (.cons U<|.cons U .nil)<|.stb (.cons U<|.cons U .nil) .nil)⟩) (zb Tryz.call210<|.r4 U U U U) (.cons .here .nil) (ccz hz (.cons .here .nil) .h3 fun w pz ho=>Calls.mono (y6c _ _ (zam:=125) (zeC:=[]) _ (zck:=(fun(y0:z2) (y1:z2)=>y4e y0 y1)) _ _ _ zUb w pz Tryz.call125 (fun w' hz' y0 y1  r  hr=>yfi hr w' hz' ) ho)<|fun _ _ h'=>⟨h'.1,trivial,h'.2⟩) ?_)
     intro _
     refine WD.new (i:=12) (dd:=37) U (by kernel_rfl) U U U (yS (cs:=([z9K.1]:List z2).flatMap yA) z2p (Lp (l:=[.tmp 36]) (.cons U .nil) [0]) (fun _=>by kernel_rfl) U (by unfold maxLen;omega)) (fun h'=>absurd h' (by decide)) fun z16B _=>WD.old (i:=13) (dd:=38) U (by kernel_rfl) U U U U (fun _=>(Sin.wk (.s3 .h7 .h5 .h4)<|.stb (.cons U .nil)<|.stb (.cons U<|.cons U .nil)<|.stb (.cons U<|.cons U .nil) .nil)) (y4W (enc:=yA) (l1:=z5W) (l2:=([z9K.1]:List z2)) z2p U U .h7 (fun _=>U) U U (y3u .here) (y5o yd6 _) zUc) ?_
     rintro⟨zyb,zyc⟩ _
     refine Kd (i:=14) U (by kernel_rfl) U U U (by kernel_rfl) (yn zsY U U U .h7 U U U)<|WD.done (by kernel_rfl)<|Lt ?_
     obtain⟨rfl,rfl⟩:=yah z4F
     let L:Value:=(.slice zyb ((z5W++([z9K.1]:List z2)).length) zyc);exact WX.y6N zqt .h4 (fun w' hw'=>⟨(zyb,zyc),U,trivial,(hw'.selAll ((.s5 .h7 .h1 .h1 .h2 .here):Sel _ [fz [],stb z3i 229 [L],row L 175 2 ((z5W++([z9K.1]:List z2)).flatMap yA),stb z3q 307 [(vi z9K.2.fE)],blk z48 (z4E .ready none)] _)).sub (.cons .here .nil)⟩)
    ·replace z4F:=ys z4F zya
     refine WC.skip<|Lt ?_
     obtain⟨rfl,rfl⟩:=yah z4F
     exact WX.y6N zqt .here<|fun w' hw'=>⟨(zjz,zjA),U,trivial,(hw'.selAll ((.s5 .h3 .h3 .h3 .h3 .here):Sel _ H _)).sub (.cons .here .nil)⟩
   ·skip
    rintro _ w' ⟨⟨zn4,zn5⟩,rfl,_,hp⟩
    have hp1:=hw1.call ((.cons .here .nil):Sel [y1M A,dfr z6m,stb z3M 227 C,stb z3N 227 E,fz z6U] [y1M A] F) hp
    let J:Value:=(.slice zn4 z4D.2.1.length zn5);have hp2:Hp _ _ w' [fz [],stb z3i 229 [J],row J 175 2 (z4D.2.1.flatMap yA),stb z3q 307 [(vi z4D.2.2)],blk z48 (z4E (rdy (pcs [] z4D.1)) (pcs [] z4D.1)),dfr z6m,stb z3M 227 C,stb z3N 227 E,fz z6U]:=hp1.pickAll .here
    refine⟨_,pcs [] z4D.1,_,U,(hp2.sub ((.s9 .h4 .here .here .here .here .here .here .here .here):Sel _ [blk z48 (z4E (rdy (pcs [] z4D.1)) (pcs [] z4D.1)),fz [],stb z3i 229 [J],row J 175 2 (z4D.2.1.flatMap yA),stb z3q 307 [(vi z4D.2.2)],dfr z6m,stb z3M 227 C,stb z3N 227 E,fz z6U] _)),?_⟩
    clear hp hp1 hp2 pz hw hw1
    refine wjN ?_
    letI:Rnd:=aft z6m
    refine WX.merge .here .h6<|Lt ?_
    exact WX.midR (D:=fun(g:Nat×Int×List z2×Zp×Option Addr×Nat)=>g.1) (G:=Nat×Int×List z2×Zp×Option Addr×Nat) ⟨z6m,z4D.2.2,z4D.2.1,(z6U++[]),zn4,zn5⟩ ⟨h,(zTW.trans<|(Zle.left _ _).trans (Zle.yN _ _ _))⟩ (.r2 U U)<|.s5 .here .h2 .here .here .here
  ·rintro zn2 zco zao zn3 zjx zjy ⟨h,z16C⟩
   replace h:=(zTV zco zao).symm.trans h
   letI:Rnd:=aft zn2
   refine WC.b<|WC.b<|Ld<|Le 39 (ya y98 U U)<|Le 40 (yc y3A U<|yi .h1 U)<|La U<|WL.nil<|Lb<|WC.cond U (fun zyd=>?_)<|fun zyd=>?_
   ·replace h:=yr h zyd
    refine WC.b<|Lv (fun i=>[].contains i) [] U<|Lf 0 42 U (fun _=>ya y98 U U)<|Li 1 43 U (yc y3A U<|yi .h1 U)<|Lf 2 2 U (fun _=>q_z U)<|Lf 3 3 U (fun _=>q_z U)<|WD.done (by kernel_rfl)<|Lb<|WC.ret<|Lj<|WX.nilRow 175 2 ?_
    obtain rfl:=oJ h
    refine WX.y7s .h5 Tryz.results199 (.tmp U<|.tmp U .nil)<|fun w hw=>?_
    exact⟨none,0,y1R U U,trivial,hw.sub (.cons .h1 .nil)⟩
   ·replace h:=ys h zyd
    refine WC.skip<|Lb<|WC.b ?_
    obtain⟨zy7,zUd,h⟩:=za h
    refine Ld<|Le 44 (yc z9j U<|yi .h2 U)<|WL.y5h (dd:=45) U U U (zb Tryz.call214<|.r2 U U) (.cons .h3 .nil) (ccz hz (.cons .h3 .nil) .here fun w pz ho=>y84 _ _ _ (zjr:=129) (zqj:=[]) _ (zjq:=(fun(y0:z2) (y1:z2)=>y1u y0 y1)) _ zUd w pz Tryz.call129 (fun w' hz' y0 y1  r  hr=>y4Z hr w' hz' ) ho) ?_
    rintro  zUe
    refine WL.restb (cs':=[(.slice zjx zy7.length zjy)]) .h3 (by rw[zUe])<|WL.nil<|Lb<|WC.b ?_
    obtain⟨zI9,zUf,h⟩:=za h
    refine Ld<|Le 46 (yc z9j U<|yi .here U)<|WL.y4b (dd:=47) U U U (zb Tryz.call215<|.cons U .nil) (.cons .h1 .nil) (ccz hz (.cons .h1 .nil) .h1 fun w pz ho=>y8a zUf w pz  ho) ?_
    rintro zUg zUh _
    refine La U<|La U<|WL.nil<|Lb<|WC.ret ?_
    obtain rfl:=oJ h
    refine WX.y7s .h4 Tryz.results199 (.tmp U<|.tmp U .nil)<|fun w hw=>?_
    exact⟨zUg,zUh,y1R U U,trivial,hw.sub (.cons .h1 .nil)⟩
def y40(z8d:z6)(z8e:z6):Option Int:=
 (y1u z8d.fRate z8e.fRate).bind fun zIf=>some zIf
theorem yf0{Z:Zp}{z8d:z6}{z8e:z6}{r:Int}(h:y40 z8d z8e=some r)(w₀:World)(hz:PZ [] w₀ Z):
  Calls Tryz.prog 217 #[(.agg #[(vi z8d.fBurst.fN),(vi z8d.fBurst.fD),(vi z8d.fRate.fN),(vi z8d.fRate.fD)]),(.agg #[(vi z8e.fBurst.fN),(vi z8e.fBurst.fD),(vi z8e.fRate.fN),(vi z8e.fRate.fD)])] w₀ fun e w'=>e = .returned (vi r)∧Hp [] w₀ w' []:=by
 unfold y40 at h
 refine Lz Tryz.func217 Tryz.ntmps217 ?_
 refine WC.b<|Ld (Lg 2 (yI (cs:=[(vi z8d.fBurst.fN),(vi z8d.fBurst.fD),(vi z8d.fRate.fN),(vi z8d.fRate.fD)]) U U) fun z16D _=>Lg 3 (yI (cs:=[(vi z8e.fBurst.fN),(vi z8e.fBurst.fD),(vi z8e.fRate.fN),(vi z8e.fRate.fD)]) U U) fun z16E _=>La U<|WL.nil<|Lb<|WC.b ?_)
 obtain⟨zIf,zUi,h⟩:=za h
 refine Ld<|Le 5 (ya y6k U U)<|Le 6 (y14 (cs:=[(vi z8d.fRate.fN),(vi z8d.fRate.fD)]) zg U U<|y3D (s:=2) .h1 U)<|Le 7 (ya y6k U U)<|Le 8 (y14 (cs:=[(vi z8e.fRate.fN),(vi z8e.fRate.fD)]) zg U U<|y3D (s:=2) .here U)<|Lk 9 (zb Tryz.call129<|.r2 U U) .nil (cc hz .nil fun w pz ho=>y4Z zUi w pz )<|La U<|WL.nil<|Lb<|WC.ret ?_
 obtain rfl:=oJ h
 refine Lh Tryz.results217 (.tmp U .nil)<|fun w hw=>?_
 exact⟨yD U,hw.sub .nil⟩
def y1a(z1s:List z6)(z9L:z6→z6→Option Int)(zcp:Int→Int→Int→Int→Option z6):Nat→Int→Int→Int→Int→Int→Option z6
 | 0,_,_,_,_,_=>none
 | zye+1,z26,z6V,z6W,z6X,z6Y=>if decide (z26<((z1s.length:Nat):Int)) then jp4 (fun(zcq:Int) (zcr:Int) (zcs:Int) (zct:Int)=>y1a z1s z9L zcp zye (i64 (z26+1)) zcq zcr zcs zct) fun zqu=>chk ((0:Int)≤z26∧z26<((z1s.length:Nat):Int)) ((z9L (⟨(⟨(((nth z1s z26).fBurst).fN),(((nth z1s z26).fBurst).fD)⟩:z2),(⟨(((nth z1s z26).fRate).fN),(((nth z1s z26).fRate).fD)⟩:z2)⟩:z6) (⟨(⟨z6V,z6W⟩:z2),(⟨z6X,z6Y⟩:z2)⟩:z6)).bind fun zyf=>if decide (zyf<0) then chk ((0:Int)≤z26∧z26<((z1s.length:Nat):Int)) (zqu (((nth z1s z26).fBurst).fN) (((nth z1s z26).fBurst).fD) (((nth z1s z26).fRate).fN) (((nth z1s z26).fRate).fD)) else zqu z6V z6W z6X z6Y) else zcp z6V z6W z6X z6Y
theorem y6d{n:Nat}{z1s:List z6}{z9L:z6→z6→Option Int}{zcp:Int→Int→Int→Int→Option z6}{z26:Int}{z6V:Int}{z6W:Int}{z6X:Int}{z6Y:Int}{r:z6}(h:y1a z1s z9L zcp n z26 z6V z6W z6X z6Y=some r):∃ m,n=m+1:=by
 cases n with
 | zero=>cases h
 | succ m=>exact⟨m,rfl⟩
def y1X(z1s:List z6)(z9L:z6→z6→Option Int):Option z6:=
 if decide (((z1s.length:Nat):Int)<1) then none else chk ((0:Int)≤0∧0<((z1s.length:Nat):Int)) (jp4 (fun(zeH:Int) (zeI:Int) (zeJ:Int) (zeK:Int)=>some (⟨(⟨zeH,zeI⟩:z2),(⟨zeJ,zeK⟩:z2)⟩:z6)) fun zcp=>y1a z1s z9L zcp yx 1 (((nth z1s 0).fBurst).fN) (((nth z1s 0).fBurst).fD) (((nth z1s 0).fRate).fN) (((nth z1s 0).fRate).fD))
theorem y7l(Z:Zp)(zqv:Option Addr)(zqw:Nat)(zeL:FuncId)(zjB:List Value)(z1s:List z6)(z9L:z6→z6→Option Int)(r:z6)(h:y1X z1s z9L=some r)(w₀:World)(hz:PZ [] w₀ Z)(zyg:ZS Z 4 (fun r x=>r=y1N x) zqv zqw z1s)(zUj:∀ args w,(callFunc zeL args).run Tryz.prog w = .ok (.enter zeL args) w)(zUk:∀ w:World,PZ [] w Z→∀(x0:z6) (x1:z6) (r:Int),z9L x0 x1=some r→Calls Tryz.prog zeL (([(.agg #[(vi x0.fBurst.fN),(vi x0.fBurst.fD),(vi x0.fRate.fN),(vi x0.fRate.fD)]),(.agg #[(vi x1.fBurst.fN),(vi x1.fBurst.fD),(vi x1.fRate.fN),(vi x1.fRate.fD)])]:List Value)++zjB).toArray w fun e w'=>e = .returned (vi r)∧Hp [] w w' []):
  Calls Tryz.prog 216 #[(.slice zqv z1s.length zqw),(.func (.func zeL) #[] (zjB).toArray)] w₀ fun e w'=>e = .returned (.agg #[(vi r.fBurst.fN),(vi r.fBurst.fD),(vi r.fRate.fN),(vi r.fRate.fD)])∧Hp [] w₀ w' []:=by
 unfold y1X at h
 refine Lz Tryz.func216 Tryz.ntmps216 ?_
 let A:List Value:=[(vi 0),(vi 0),(vi 0),(vi 0)];refine WC.b (Ld (Lg 4 (yv (cs:=A) zbl U) ?_))
 intro zjC _
 refine WL.nil<|Lb<|WC.b<|WC.b<|Ld<|La U<|Le 8 (yG Tryz.underlying227 U)<|La U<|WL.nil<|Lb<|WC.cond U (fun zyh=>?_)<|fun zyh=>?_
 ·replace h:=yr h zyh
  cases h
 ·replace h:=ys h zyh
  refine WC.skip<|Lb<|WC.b ?_
  obtain⟨zUl,h⟩:=yl h
  refine Ld<|La U<|L0 (dd:=12) U U (Z:=Z) (Pr:=(fun r x=>r=y1N x)) z80 U U zyg zUl ?_
  rintro z16F z16G zUm z16H rfl
  refine Le 13 (yh z3a U (y2d hz.pv zUm) U) (Lg 5 (yv (cs:=A) zbl U) fun zjD _=>Ll U U (yn za2 U U U .here U U U)<|WL.nil<|Lb ?_)
  obtain⟨zcp,zUn,h⟩:=yfP h
  refine WC.y8z (fun(zeH:Int) (zeI:Int) (zeJ:Int) (zeK:Int)=>(zcp zeH zeI zeJ zeK=some r)) (fun zeH zeI zeJ zeK=>[(4,(vp zjC)),(5,(vp zjD))]) (fun zeH zeI zeJ zeK=>[stb zjC 225 A,stb zjD 225 [(vi zeH),(vi zeI),(vi zeJ),(vi zeK)]]) ?_ ?_
  ·skip
   let C:Value:=(.func (.func zeL) #[] (zjB).toArray);let D:Value:=(.slice zqv z1s.length zqw);refine WC.b (Ld (La U (WL.nil (Lb (WC.block (WC.y8T (fun(zjE:Nat) (z26:Int) (z6V:Int) (z6W:Int) (z6X:Int) (z6Y:Int)=>(y1a z1s z9L zcp zjE z26 z6V z6W z6X z6Y=some r)) (fun zjE z26 z6V z6W z6X z6Y=>[(0,D),(1,C),(4,(vp zjC)),(5,(vp zjD)),(6,(vi z26))]) (fun zjE z26 z6V z6W z6X z6Y=>[stb zjC 225 A,stb zjD 225 [(vi z6V),(vi z6W),(vi z6X),(vi z6Y)]]) (fun zjE z26 z6V z6W z6X z6Y=>zjE) ⟨yx,1,(((nth z1s 0).fBurst).fN),(((nth z1s 0).fBurst).fD),(((nth z1s 0).fRate).fN),(((nth z1s 0).fRate).fD)⟩ h (.r5 U U U U U) (.s2 .h1 .here) ?_))))))
   rintro zjE z26 z6V z6W z6X z6Y h
   obtain⟨zye,rfl⟩:=y6d h
   rw[y1a] at h
   refine WC.b<|WC.b<|Ld<|La U<|La U<|Le 16 (yG Tryz.underlying227 U)<|La U<|WL.nil<|Lb<|WC.cond U (fun zyi=>?_)<|fun zyi=>?_
   ·replace h:=yr h zyi
    refine WC.skip<|Lb ?_
    obtain⟨zqu,zUo,h⟩:=yfP h
    refine WC.y8z (fun(zcq:Int) (zcr:Int) (zcs:Int) (zct:Int)=>(zqu zcq zcr zcs zct=some r)) (fun zcq zcr zcs zct=>[(0,D),(1,C),(4,(vp zjC)),(5,(vp zjD)),(6,(vi z26))]) (fun zcq zcr zcs zct=>[stb zjC 225 A,stb zjD 225 [(vi zcq),(vi zcr),(vi zcs),(vi zct)]]) ?_ ?_
    ·skip
     refine WC.block<|WC.b ?_
     obtain⟨zUp,h⟩:=yl h
     obtain⟨zyf,zUq,h⟩:=za h
     refine Lv (fun i=>[].contains i) [] U<|Lf 0 20 U (fun _=>q_m U)<|Lf 1 21 U (fun _=>q_m U)<|Lf 2 22 U (fun _=>q_m U)<|L5 (j:=3) (dd:=23) (by kernel_rfl) U z1Z z20 U U (Z:=Z) (Pr:=(fun r x=>r=y1N x)) z80 U U zyg zUp ?_
     rintro z16I z16J zUr z16K rfl
     refine Li 4 24 U (yh z3a U (y2d hz.pv zUr) U)<|Li 5 25 U (yh z3a U (yj .h1) U)<|L4 6 26 U (y2G (l:=[.tmp 24,.tmp 25]) (f:=zeL) (caps:=zjB) zUj U<|.r2 U U) (fun w hw=>zUk w (hz.now hw) (⟨(⟨(((nth z1s z26).fBurst).fN),(((nth z1s z26).fBurst).fD)⟩:z2),(⟨(((nth z1s z26).fRate).fN),(((nth z1s z26).fRate).fD)⟩:z2)⟩:z6) (⟨(⟨z6V,z6W⟩:z2),(⟨z6X,z6Y⟩:z2)⟩:z6) zyf  zUq)<|Lf 7 27 U (fun _=>ye3 U U)<|WD.done (by kernel_rfl)<|Lb<|WC.cond U (fun zyj=>?_)<|fun zyj=>?_
     ·replace h:=yr h zyj
      obtain⟨zUs,h⟩:=yl h
      refine Ld<|La U<|La U<|L0 (dd:=30) U U (Z:=Z) (Pr:=(fun r x=>r=y1N x)) z80 U U zyg zUs ?_
      rintro z16L z16M zUt z16N rfl
      refine Le 31 (yh z3a U (y2d hz.pv zUt) U)<|Ll U U (yn za2 U U U .h1 U U U)<|WL.nil<|Lt ?_
      exact Lo ⟨(((nth z1s z26).fBurst).fN),(((nth z1s z26).fBurst).fD),(((nth z1s z26).fRate).fN),(((nth z1s z26).fRate).fD)⟩ h (.r5 U U U U U)<|.s2 .h1 .here
     ·replace h:=ys h zyj
      refine WC.skip<|Lt ?_
      exact Lo ⟨z6V,z6W,z6X,z6Y⟩ h (.r5 U U U U U)<|.a2
    ·rintro zcq zcr zcs zct h
     replace h:=(zUo zcq zcr zcs zct).symm.trans h
     refine Ld<|La U<|La U<|La U<|WL.nil ?_
     exact WX.round ⟨zye,(i64 (z26+1)),zcq,zcr,zcs,zct⟩ h (Nat.lt_succ_self _) (.r5 U U U U U)<|.a2
   ·replace h:=ys h zyi
    refine WC.exit<|Ln<|Ln<|Lu ?_
    exact Lo ⟨z6V,z6W,z6X,z6Y⟩ h (.r2 U U)<|.a2
  ·rintro zeH zeI zeJ zeK h
   replace h:=(zUn zeH zeI zeJ zeK).symm.trans h
   refine WC.b<|Ld<|Le 32 (yh z3a U (yj .h1) U)<|Ll U U (yn za2 U U U .here U U U)<|WL.nil<|Lb<|WC.ret ?_
   obtain rfl:=oJ h
   refine Lh Tryz.results216 (.agg U z3a U (yj .here) .nil)<|fun w hw=>?_
   exact⟨yD U,hw.sub .nil⟩
def y5j(zjF:List z6):Option (z2×Int):=
 (y4Y zjF).bind fun zIg=>if !zIg then some ((⟨0,0⟩:z2),2) else(y1X zjF (fun(y0:z6) (y1:z6)=>y40 y0 y1)).bind fun zqx=>some (zqx.fRate,0)
theorem ycH{Z:Zp}{zIh:Option Addr}{zIi:Nat}{zjF:List z6}{r:z2×Int}(h:y5j zjF=some r)(w₀:World)(hz:PZ [] w₀ Z)(zIj:ZS Z 4 (fun r x=>r=y1N x) zIh zIi zjF):
  Calls Tryz.prog 200 #[(.slice zIh zjF.length zIi)] w₀ fun e w'=>e = .returned (.tuple #[(.agg #[(vi r.1.fN),(vi r.1.fD)]),(vi r.2)])∧Hp [] w₀ w' []:=by
 unfold y5j at h
 refine L6 Tryz.func200 Tryz.ntmps200 ?_
 refine WC.b<|Ld (Lg 2 (yv (cs:=[(vi 0),(vi 0)]) zV U) fun z16O _=>La U<|WL.nil<|Lb<|WC.b<|WC.b ?_)
 obtain⟨zIg,zUu,h⟩:=za h
 refine Ld<|La U<|Lk 5 (zb Tryz.call192<|.cons U .nil) .nil (cc hz .nil fun w pz ho=>y86 zUu w pz zIj)<|La U<|WL.nil<|Lb<|WC.cond U (fun zyk=>?_)<|fun zyk=>?_
 ·replace h:=yr h zyk
  refine WC.b<|Ld<|Le 7 (yL (v:=(.agg #[(vi 0),(vi 0)])) (Lp (l:=[]) .nil []) (fun _=>by kernel_rfl))<|Ll U U (yn zz U U U .here U U U)<|La U<|WL.nil<|Lb<|WC.ret<|Lj ?_
  obtain rfl:=oJ h
  refine Lh Tryz.results200 (.agg U zg U (yj .here)<|.tmp U .nil)<|fun w hw=>?_
  exact⟨y1R U U,hw.sub .nil⟩
 ·replace h:=ys h zyk
  refine WC.skip<|Lb<|WC.b ?_
  obtain⟨zqx,zUv,h⟩:=za h
  refine Ld<|La U<|Lk 9 (zb Tryz.call216<|.r2 U U) .nil (cc hz .nil fun w pz ho=>y7l _ _ _ (zeL:=217) (zjB:=[]) _ (z9L:=(fun(y0:z6) (y1:z6)=>y40 y0 y1)) _ zUv w pz zIj Tryz.call217<|fun w' hz' y0 y1  r  hr=>yf0 hr w' hz' )<|Le 10 (q_fieldA (cs':=#[(vi zqx.fRate.fN),(vi zqx.fRate.fD)]) yhS zg U U)<|Ll U U (yn zz U U U .here U U U)<|La U<|WL.nil<|Lb<|WC.ret ?_
  obtain rfl:=oJ h
  refine Lh Tryz.results200 (.agg U zg U (yj .here)<|.tmp U .nil)<|fun w hw=>?_
  exact⟨y1R U U,hw.sub .nil⟩
def y1d(zeM:z1y)(z8f:z2→z2→Option (z2×Int))(zeN:z2)(zeO:z2):Option (z2×z1y):=
 if decide (zeM.fE≠0) then(y39).bind fun zIk=>some (zIk,zeM) else(z8f zeN zeO).bind fun zjG=>if decide (zjG.2≠0) then(y39).bind fun zIl=>some (zIl,(⟨zjG.2⟩:z1y)) else some (zjG.1,(⟨zjG.2⟩:z1y))
theorem y2L(Z:Zp)(zjH:Nat)(z7p:FuncId)(z8O:List Value)(zeM:z1y)(z8f:z2→z2→Option (z2×Int))(zeN:z2)(zeO:z2)(r:z2×z1y)(h:y1d zeM z8f zeN zeO=some r)(w₀:World)(hz:PZ (fps [stb zjH 277 [(vi zeM.fE)]]) w₀ Z)(zUw:∀ args w,(callFunc z7p args).run Tryz.prog w = .ok (.enter z7p args) w)(zUx:∀ w:World,PZ [] w Z→∀(x0:z2) (x1:z2) (r:z2×Int),z8f x0 x1=some r→Calls Tryz.prog z7p (([(.agg #[(vi x0.fN),(vi x0.fD)]),(.agg #[(vi x1.fN),(vi x1.fD)])]:List Value)++z8O).toArray w fun e w'=>e = .returned (.tuple #[(.agg #[(vi r.1.fN),(vi r.1.fD)]),(vi r.2)])∧Hp [] w w' [])(hown:Hp (fps [stb zjH 277 [(vi zeM.fE)]]) w₀ w₀ [stb zjH 277 [(vi zeM.fE)]]):
  Calls Tryz.prog 123 #[(vp zjH),(.func (.func z7p) #[] (z8O).toArray),(.agg #[(vi zeN.fN),(vi zeN.fD)]),(.agg #[(vi zeO.fN),(vi zeO.fD)])] w₀ fun e w'=>e = .returned (.agg #[(vi r.1.fN),(vi r.1.fD)])∧Hp (fps [stb zjH 277 [(vi zeM.fE)]]) w₀ w' [stb zjH 277 [(vi r.2.fE)]]:=by
 unfold y1d at h
 refine Calls.oh4 Tryz.func123 Tryz.ntmps123 hown ?_
 refine WC.b<|Ld (Lg 6 (yI (cs:=[(vi zeN.fN),(vi zeN.fD)]) U U) fun z16P _=>Lg 7 (yI (cs:=[(vi zeO.fN),(vi zeO.fD)]) U U) fun z16Q _=>Lg 8 (yv (cs:=[(vi 0),(vi 0)]) zV U) fun z16R _=>WL.nil<|Lb<|WC.b<|WC.b<|Ld<|La U<|Le 12 (y1f U)<|Le 13 (ya y5A U U)<|Le 14 (yc y3A U<|yi .h3 U)<|La U<|WL.nil<|Lb<|WC.cond U (fun zyl=>?_)<|fun zyl=>?_)
 ·replace h:=yr h zyl
  refine WC.b ?_
  obtain⟨zIk,zUy,h⟩:=za h
  refine Ld<|Lk 16 (zb Tryz.call161 .nil) .nil (cc hz .nil fun w pz ho=>y4L zUy w pz )<|Ll U U (yn zz U U U .here U U U)<|WL.nil<|Lb<|WC.ret<|Lj ?_
  obtain rfl:=oJ h
  refine Lh Tryz.results123 (.agg U zg U (yj .here) .nil)<|fun w hw=>?_
  exact⟨yD U,hw.sub (.cons .h3 .nil)⟩
 ·replace h:=ys h zyl
  refine WC.skip<|Lb<|WC.b ?_
  obtain⟨zjG,zUz,h⟩:=za h
  refine Ld<|La U<|Le 19 (yh zg U (yj .h2) U)<|Le 20 (yh zg U (yj .h1) U)<|Lk 21 (y2G (l:=[.tmp 19,.tmp 20]) (f:=z7p) (caps:=z8O) zUw U<|.r2 U U) .nil (fun w hw=>zUx w (hz.now hw) zeN zeO zjG  zUz)<|La U<|La U<|La U (Lg 9 (yv (cs:=[(vi 0),(vi 0)]) zV U) fun z16S _=>Ll U U (yn zz U U U .here U U U)<|La U<|WL.nil<|Lb<|WC.b<|WC.b<|Ld<|La U<|La U<|Le 26 (y1f U)<|Le 27 (ya y5A U U)<|Ll U U (yn ybd U U U .h4 U U U)<|WL.nil<|Lb<|WC.b<|Ld<|La U<|La U<|WL.nil<|Lb<|WC.cond U (fun zym=>?_)<|fun zym=>?_)
  ·replace h:=yr h zym
   refine WC.b ?_
   obtain⟨zIl,zUA,h⟩:=za h
   refine Ld<|Lk 30 (zb Tryz.call161 .nil) .nil (cc hz .nil fun w pz ho=>y4L zUA w pz )<|Ll U U (yn zz U U U .h2 U U U)<|WL.nil<|Lb<|WC.ret<|Lj ?_
   obtain rfl:=oJ h
   refine Lh Tryz.results123 (.agg U zg U (yj .here) .nil)<|fun w hw=>?_
   exact⟨yD U,hw.sub (.cons .h1 .nil)⟩
  ·replace h:=ys h zym
   refine WC.skip<|Lb<|WC.b<|Ld<|Le 31 (yh zg U (yj .h1) U)<|Ll U U (yn zz U U U .h2 U U U)<|WL.nil<|Lb<|WC.ret ?_
   obtain rfl:=oJ h
   refine Lh Tryz.results123 (.agg U zg U (yj .here) .nil)<|fun w hw=>?_
   exact⟨yD U,hw.sub (.cons .h1 .nil)⟩
def y27(z49:List (List z6))(zcu:Int→Int→Int→Option Int):Nat→Int→Int→Int→Int→Option Int
 | 0,_,_,_,_=>none
 | zyn+1,z6n,z8P,z8Q,z8R=>if decide (z6n<((z49.length:Nat):Int)) then chk ((0:Int)≤z6n∧z6n<((z49.length:Nat):Int)) ((y24 (nth z49 z6n)).bind fun zyo=>if decide (zyo.2≠0) then some zyo.2 else(y5j (nth z49 z6n)).bind fun zIm=>(y1d (⟨z8P⟩:z1y) (fun(y0:z2) (y1:z2)=>y1q y0 y1) (⟨z8Q,z8R⟩:z2) zIm.1).bind fun zgX=>y27 z49 zcu zyn (i64 (z6n+1)) zgX.2.fE zgX.1.fN zgX.1.fD) else zcu z8P z8Q z8R
theorem y8p{n:Nat}{z49:List (List z6)}{zcu:Int→Int→Int→Option Int}{z6n:Int}{z8P:Int}{z8Q:Int}{z8R:Int}{r:Int}(h:y27 z49 zcu n z6n z8P z8Q z8R=some r):∃ m,n=m+1:=by
 cases n with
 | zero=>cases h
 | succ m=>exact⟨m,rfl⟩
def y44(z49:List (List z6))(z2V:zSv)(zqy:List (List z6))(zjI:zSv)(zgY:List z2):Option Int:=
 (if decide (((z49.length:Nat):Int)>32) then some true else(y1i z49 (fun(y0:List z6)=>y1A y0)).bind fun zIn=>some zIn).bind fun zyp=>(if zyp then some true else(y5a z2V).bind fun zIo=>some (!zIo)).bind fun zyq=>if zyq then some 2 else(y39).bind fun zn6=>jp3 (fun(zcv:Int) (zeP:Int) (zeQ:Int)=>(if decide (zcv=0) then(y1u (⟨zeP,zeQ⟩:z2) z2V.fRate).bind fun zIp=>some (decide (zIp>0)) else some false).bind fun zyr=>if zyr then some 6 else some zcv) fun zcu=>y27 z49 zcu yx 0 0 zn6.fN zn6.fD
theorem yaH{Z:Zp}{zjJ:Option Addr}{zjK:Nat}{zn7:Addr}{zIq:Option Addr}{zIr:Nat}{zn8:Addr}{zn9:Option Addr}{zna:Nat}{z49:List (List z6)}{z2V:zSv}{zqy:List (List z6)}{zjI:zSv}{zgY:List z2}{r:Int}(h:y44 z49 z2V zqy zjI zgY=some r)(w₀:World)(hz:PZ [] w₀ Z)(zIs:ZS Z 1 (y26 Z) zjJ zjK z49)(z16T:ZS Z 1 (y26 Z) zIq zIr zqy)(z16U:ZC Z zn7 [(.slice zIq zqy.length zIr)])(z16V:ZC Z zn8 [(vi zjI.fRate.fN),(vi zjI.fRate.fD),(vi zjI.fL.fN),(vi zjI.fL.fD)])(z16W:ZS Z 2 (fun r x=>r=yA x) zn9 zna zgY):
  Calls Tryz.prog 163 #[(.agg #[(.slice zjJ z49.length zjK),(vi z2V.fRate.fN),(vi z2V.fRate.fD),(vi z2V.fL.fN),(vi z2V.fL.fD),(.func (.func 122) #[] #[(vq zn7),(vq zn8)]),(.slice zn9 zgY.length zna)])] w₀ fun e w'=>e = .returned (vi r)∧Hp [] w₀ w' []:=by
 unfold y44 at h
 refine L6 Tryz.func163 Tryz.ntmps163 ?_
 let C:Value:=(.slice zjJ z49.length zjK);let A:List Value:=[C,(vi z2V.fRate.fN),(vi z2V.fRate.fD),(vi z2V.fL.fN),(vi z2V.fL.fD),(.func (.func 122) #[] #[(vq zn7),(vq zn8)]),(.slice zn9 zgY.length zna)];refine WC.b (Ld (Lg 1 (yI (cs:=A) U U) ?_))
 intro zqz _
 refine La U<|WL.nil<|Lb<|WC.b<|WC.b ?_
 obtain⟨zyp,zIt,h⟩:=za h
 obtain⟨zyq,zIu,h⟩:=za h
 refine Ld<|Le 11 (ya y7w U U)<|Le 12 (yc z8A U<|yi .here U)<|Le 13 (yG Tryz.underlying171 U)<|La U<|La U<|Lx false 3 15 (B:=zyp) U U U U U U (fun h=>(oJ<|yr zIt h).symm) (fun _ zUB=>?_) ?_
 ·skip
  have znb:=ys zIt zUB
  obtain⟨zIn,zUC,znb⟩:=za znb
  replace znb:=oJ znb
  refine Le 16 (ya y7w U U)<|Le 17 (yc z8A U<|yi .here U)<|Lk 18 (zb Tryz.call196<|.r2 U U) .nil (cc hz .nil fun w pz ho=>y4H _ _ _ (zgA:=197) (zmH:=[]) _ (zgz:=(fun(y0:List z6)=>y1A y0)) _ zUC w pz zIs Tryz.call197<|fun w' hz' y0 ga0 gc0 r gh0 hr=>y7j hr w' hz' gh0)<|La U ?_
  exact Ly znb U U .all
 refine La U<|Lx false 4 20 (B:=zyq) U U U U U U (fun h=>(oJ<|yr zIu h).symm) (fun _ zUD=>?_) ?_
 ·skip
  have znc:=ys zIu zUD
  obtain⟨zIo,zUE,znc⟩:=za znc
  replace znc:=oJ znc
  refine Le 21 (ya ybL U U)<|Le 22 (y14 (cs:=[(vi z2V.fRate.fN),(vi z2V.fRate.fD),(vi z2V.fL.fN),(vi z2V.fL.fD)]) zhV U U<|y3D (s:=4) .here U)<|Lk 23 (zb Tryz.call198<|.cons U .nil) .nil (cc hz .nil fun w pz ho=>yap zUE w pz )<|La U<|La U ?_
  exact Ly znc U U .all
 refine WL.nil<|Lb<|WC.cond U (fun zys=>?_)<|fun zys=>?_
 ·replace h:=yr h zys
  refine WC.b<|Ld<|La U<|WL.nil<|Lb<|WC.ret<|Lj ?_
  obtain rfl:=oJ h
  refine Lh Tryz.results163 (.tmp U .nil)<|fun w hw=>?_
  exact⟨yD U,hw.sub .nil⟩
 ·replace h:=ys h zys
  refine WC.skip<|Lb<|WC.b<|Ld (Lg 3 (yv (cs:=[(vi 0)]) zp4 U) fun zqA _=>WL.nil<|Lb<|WC.b ?_)
  obtain⟨zn6,zUF,h⟩:=za h
  refine Ld<|Lk 26 (zb Tryz.call161 .nil) .nil (cc hz .nil fun w pz ho=>y4L zUF w pz ) (Lg 4 (yv (cs:=[(vi 0),(vi 0)]) zV U) fun zqB _=>Ll U U (yn zz U U U .here U U U)<|WL.nil<|Lb ?_)
  obtain⟨zcu,zUG,h⟩:=y8U h
  refine Kc (fun(zcv:Int) (zeP:Int) (zeQ:Int)=>(zcu zcv zeP zeQ=some r)) (fun zcv zeP zeQ=>[(1,(vp zqz)),(3,(vp zqA)),(4,(vp zqB))]) (fun zcv zeP zeQ=>[stb zqz 231 A,stb zqA 277 [(vi zcv)],stb zqB 175 [(vi zeP),(vi zeQ)]]) ?_ ?_
  ·skip
   refine WC.b<|Ld<|Le 27 (ya y7w U U)<|Le 28 (yc z8A U<|yi .h2 U)<|Le 29 (yG Tryz.underlying171 U)<|La U<|WL.nil<|Lb<|WC.block<|WC.y7q (fun(zjL:Nat) (z6n:Int) (z8P:Int) (z8Q:Int) (z8R:Int)=>(y27 z49 zcu zjL z6n z8P z8Q z8R=some r)) (fun zjL z6n z8P z8Q z8R=>[(1,(vp zqz)),(3,(vp zqA)),(4,(vp zqB)),(28,C),(29,(vi ((z49.length:Nat):Int))),(30,(vi z6n))]) (fun zjL z6n z8P z8Q z8R=>[stb zqz 231 A,stb zqA 277 [(vi z8P)],stb zqB 175 [(vi z8Q),(vi z8R)]]) (fun zjL z6n z8P z8Q z8R=>zjL) ⟨yx,0,0,zn6.fN,zn6.fD⟩ h (.r6 U U U U U U) (.s3 .h2 .h1 .here) ?_
   rintro zjL z6n z8P z8Q z8R h
   obtain⟨zyn,rfl⟩:=y8p h
   rw[y27] at h
   refine WC.b<|Ld<|La U<|WL.nil<|Lb<|WC.b<|WC.cond U (fun zyt=>?_)<|fun zyt=>?_
   ·replace h:=yr h zyt
    refine WC.skip<|Lb<|WC.b<|WC.block<|WC.b ?_
    obtain⟨zUH,h⟩:=yl h
    refine Ld<|L0 (dd:=32) U U (Z:=Z) (Pr:=(y26 Z)) z9i U U zIs zUH ?_
    rintro z16X z16Y zUI z16Z ⟨z170,z171,rfl,zIv⟩
    refine Le 33 (yc zdB U<|y3a hz.pv zUI U)<|La U<|WL.nil<|Lb<|WC.b<|WC.b ?_
    obtain⟨zyo,zUJ,h⟩:=za h
    refine Ld<|La U<|WL.y4b (dd:=36) U U U (zb Tryz.call199<|.cons U .nil) .nil (cc hz .nil fun w pz ho=>y7L zUJ w pz zIv) ?_
    rintro z172 z173 _
    refine La U<|La U<|La U<|La U<|La U<|WL.nil<|Lb<|WC.b<|Ld<|La U<|La U<|WL.nil<|Lb<|WC.cond U (fun zyu=>?_)<|fun zyu=>?_
    ·replace h:=yr h zyu
     refine WC.b<|Ld<|La U<|La U<|WL.nil<|Lb<|WC.ret<|Lj<|Lq<|Lj<|Lj<|Lq<|Lj ?_
     obtain rfl:=oJ h
     refine Lh Tryz.results163 (.tmp U .nil)<|fun w hw=>?_
     exact⟨yD U,hw.sub .nil⟩
    ·replace h:=ys h zyu
     refine WC.skip<|Lb<|WC.b ?_
     obtain⟨zIm,zUK,h⟩:=za h
     refine Ld<|La U<|Lk 44 (zb Tryz.call200<|.cons U .nil) .nil (cc hz .nil fun w pz ho=>ycH zUK w pz zIv)<|La U<|La U<|La U (Lg 9 (yv (cs:=[(vi 0),(vi 0)]) zV U) fun z174 _=>Ll U U (yn zz U U U .here U U U)<|La U<|WL.nil<|Lb ?_)
     obtain⟨zgX,zUL,h⟩:=za h
     refine Ld<|Le 47 (yh zg U (yj .h4) U)<|Le 48 (yh zg U (yj .here) U)<|Lk 49 (zb Tryz.call123<|.r4 U U U U) (.cons .h3 .nil) (cc hz (.cons .h3 .nil) fun w pz ho=>y2L _ _ (z7p:=119) (z8O:=[]) _ (z8f:=(fun(y0:z2) (y1:z2)=>y1q y0 y1)) _ _ _ zUL w pz Tryz.call119 (fun w' hz' y0 y1  r  hr=>y6L hr w' hz' ) ho)<|Ll U U (yn zz U U U .h4 U U U)<|WL.nil<|Lt<|Lb<|Ld<|La U<|La U<|WL.nil ?_
     exact WX.round ⟨zyn,(i64 (z6n+1)),zgX.2.fE,zgX.1.fN,zgX.1.fD⟩ h (Nat.lt_succ_self _) (.r6 U U U U U U)<|.s3 .h4 .h1 .here
   ·replace h:=ys h zyt
    refine WC.exit<|Ln<|Ln<|Lu ?_
    exact Lo ⟨z8P,z8Q,z8R⟩ h (.r3 U U U)<|.a3
  ·rintro zcv zeP zeQ h
   replace h:=(zUG zcv zeP zeQ).symm.trans h
   refine WC.b<|WC.b ?_
   obtain⟨zyr,zIw,h⟩:=za h
   refine Ld<|Le 51 (ya y5A U U)<|Le 52 (yc y3A U<|yi .h1 U)<|La U<|La U<|Lx true 6 54 (B:=zyr) U U U U U U (fun h=>(oJ<|ys zIw h).symm) (fun _ zUM=>?_) ?_
   ·skip
    have znd:=yr zIw zUM
    obtain⟨zIp,zUN,znd⟩:=za znd
    replace znd:=oJ znd
    refine Le 55 (yh zg U (yj .h2) U)<|Le 56 (ya ybL U U)<|Le 57 (ya y96 U U)<|Le 58 (y14 (cs:=[(vi z2V.fRate.fN),(vi z2V.fRate.fD)]) zg U U<|y3D (s:=2) .here U)<|Lk 59 (zb Tryz.call129<|.r2 U U) .nil (cc hz .nil fun w pz ho=>y4Z zUN w pz )<|La U<|La U ?_
    exact Ly znd U U .all
   refine WL.nil<|Lb<|WC.cond U (fun zyv=>?_)<|fun zyv=>?_
   ·replace h:=yr h zyv
    refine WC.b<|Ld<|La U<|WL.nil<|Lb<|WC.ret<|Lj ?_
    obtain rfl:=oJ h
    refine Lh Tryz.results163 (.tmp U .nil)<|fun w hw=>?_
    exact⟨yD U,hw.sub .nil⟩
   ·replace h:=ys h zyv
    refine WC.skip<|Lb<|WC.b<|Ld<|Le 62 (ya y5A U U)<|Le 63 (yc y3A U<|yi .h1 U)<|La U<|WL.nil<|Lb<|WC.ret ?_
    obtain rfl:=oJ h
    refine Lh Tryz.results163 (.tmp U .nil)<|fun w hw=>?_
    exact⟨yD U,hw.sub .nil⟩
def y4N(zjM:List (List z6))(z7q:zSv)(zqC:List (List z6))(zjN:zSv)(zjO:List z2):Option (Int×Int×Int×Int):=
 some (z7q.fRate.fN,z7q.fRate.fD,z7q.fL.fN,z7q.fL.fD)
theorem yaq{Z:Zp}{zqD:Option Addr}{zqE:Nat}{zqF:Addr}{zIx:Option Addr}{zIy:Nat}{zqG:Addr}{zqH:Option Addr}{zqI:Nat}{zjM:List (List z6)}{z7q:zSv}{zqC:List (List z6)}{zjN:zSv}{zjO:List z2}{r:Int×Int×Int×Int}(h:y4N zjM z7q zqC zjN zjO=some r)(w₀:World)(hz:PZ [] w₀ Z)(z175:ZS Z 1 (y26 Z) zqD zqE zjM)(z176:ZS Z 1 (y26 Z) zIx zIy zqC)(z177:ZC Z zqF [(.slice zIx zqC.length zIy)])(z178:ZC Z zqG [(vi zjN.fRate.fN),(vi zjN.fRate.fD),(vi zjN.fL.fN),(vi zjN.fL.fD)])(z179:ZS Z 2 (fun r x=>r=yA x) zqH zqI zjO):
  Calls Tryz.prog 164 #[(.agg #[(.slice zqD zjM.length zqE),(vi z7q.fRate.fN),(vi z7q.fRate.fD),(vi z7q.fL.fN),(vi z7q.fL.fD),(.func (.func 122) #[] #[(vq zqF),(vq zqG)]),(.slice zqH zjO.length zqI)])] w₀ fun e w'=>∃ zIz:Nat,e = .returned (.func (.func 201) #[] #[(vp zIz)])∧True∧Hp [] w₀ w' [stb zIz 231 [(.slice zqD zjM.length zqE),(vi r.1),(vi r.2.1),(vi r.2.2.1),(vi r.2.2.2),(.func (.func 122) #[] #[(vq zqF),(vq zqG)]),(.slice zqH zjO.length zqI)]]:=by
 unfold y4N at h
 refine L6 Tryz.func164 Tryz.ntmps164 ?_
 refine WC.b<|Ld (Lg 1 (yI (cs:=[(.slice zqD zjM.length zqE),(vi z7q.fRate.fN),(vi z7q.fRate.fD),(vi z7q.fL.fN),(vi z7q.fL.fD),(.func (.func 122) #[] #[(vq zqF),(vq zqG)]),(.slice zqH zjO.length zqI)]) U U) fun zUO _=>La U<|WL.nil<|Lb<|WC.b<|Ld<|Le 3 (y16<|L3 (l:=[.tmp 1])<|.cons U .nil)<|La U<|WL.nil<|Lb<|WC.ret ?_)
 obtain rfl:=oJ h
 refine Lh Tryz.results164 (.tmp U .nil)<|fun w hw=>?_
 exact⟨zUO,yD U,trivial,hw.sub (.cons .here .nil)⟩
def y1Z(z4G:z2):Option Int:=
 (y1Y z4G).bind fun zIA=>if !zIA then some 0 else chk ((z4G.fD:Int)≠0) (jp1 (fun(zeR:Int)=>some zeR) fun zqJ=>chk ((z4G.fD:Int)≠0) (if decide ((Int.tmod z4G.fN z4G.fD)<0) then zqJ (i64 ((i64 (Int.tdiv z4G.fN z4G.fD))-1)) else zqJ (i64 (Int.tdiv z4G.fN z4G.fD))))
theorem y6m{Z:Zp}{z4G:z2}{r:Int}(h:y1Z z4G=some r)(w₀:World)(hz:PZ [] w₀ Z):
  Calls Tryz.prog 83 #[(.agg #[(vi z4G.fN),(vi z4G.fD)])] w₀ fun e w'=>e = .returned (vi r)∧Hp [] w₀ w' []:=by
 unfold y1Z at h
 refine L6 Tryz.func83 Tryz.ntmps83 ?_
 refine WC.b<|Ld (Lg 1 (yI (cs:=[(vi z4G.fN),(vi z4G.fD)]) U U) fun z17a _=>La U<|WL.nil<|Lb<|WC.b<|WC.b ?_)
 obtain⟨zIA,zUP,h⟩:=za h
 refine Ld<|Le 4 (yh zg U (yj .here) U)<|Lk 5 (zb Tryz.call130<|.cons U .nil) .nil (cc hz .nil fun w pz ho=>y2N zUP w pz )<|La U<|WL.nil<|Lb<|WC.cond U (fun zyw=>?_)<|fun zyw=>?_
 ·replace h:=yr h zyw
  refine WC.b<|Ld<|La U<|WL.nil<|Lb<|WC.ret<|Lj ?_
  obtain rfl:=oJ h
  refine Lh Tryz.results83 (.tmp U .nil)<|fun w hw=>?_
  exact⟨yD U,hw.sub .nil⟩
 ·replace h:=ys h zyw
  refine WC.skip<|Lb<|WC.b ?_
  obtain⟨zUQ,h⟩:=yl h
  refine Ld<|Le 7 (ya y2D U U)<|Le 8 (yc yq U<|yi .here U)<|Le 9 (ya y33 U U)<|Le 10 (yc yq U<|yi .here U)<|Le 11 (yd0 U U zUQ U)<|La U<|WL.nil<|Lb ?_
  obtain⟨zqJ,zUR,h⟩:=yZ h
  refine Kf (fun(zeR:Int)=>(zqJ zeR=some r)) (fun zeR=>[(3,(vi zeR))]) (fun zeR=>[]) ?_ ?_
  ·skip
   refine WC.b ?_
   obtain⟨zUS,h⟩:=yl h
   refine Ld<|Le 12 (ya y2D U U)<|Le 13 (yc yq U<|yi .here U)<|Le 14 (ya y33 U U)<|Le 15 (yc yq U<|yi .here U)<|Le 16 (q_rem U U zUS U)<|La U<|WL.nil<|Lb<|WC.cond U (fun zyx=>?_)<|fun zyx=>?_
   ·replace h:=yr h zyx
    refine Ld<|La U<|La U<|La U<|WL.nil ?_
    exact Lo (i64 ((i64<|Int.tdiv z4G.fN z4G.fD)-1)) h (.cons U .nil) .nil
   ·replace h:=ys h zyx
    refine WC.skip ?_
    exact Lo (i64<|Int.tdiv z4G.fN z4G.fD) h (.cons U .nil) .nil
  ·rintro zeR h
   replace h:=(zUR zeR).symm.trans h
   refine WC.b<|Ld<|La U<|La U<|WL.nil<|Lb<|WC.ret ?_
   obtain rfl:=oJ h
   refine Lh Tryz.results83 (.tmp U .nil)<|fun w hw=>?_
   exact⟨yD U,hw.sub .nil⟩
def y2Z(z9M:z2):Option Int:=
 (y1Y z9M).bind fun zIB=>if !zIB then some 0 else(y1Z (⟨i64 (0-z9M.fN),z9M.fD⟩:z2)).bind fun zIC=>some (i64 (0-zIC))
theorem ya2{Z:Zp}{z9M:z2}{r:Int}(h:y2Z z9M=some r)(w₀:World)(hz:PZ [] w₀ Z):
  Calls Tryz.prog 202 #[(.agg #[(vi z9M.fN),(vi z9M.fD)])] w₀ fun e w'=>e = .returned (vi r)∧Hp [] w₀ w' []:=by
 unfold y2Z at h
 refine L6 Tryz.func202 Tryz.ntmps202 ?_
 refine WC.b<|Ld (Lg 1 (yI (cs:=[(vi z9M.fN),(vi z9M.fD)]) U U) fun z17b _=>La U<|WL.nil<|Lb<|WC.b<|WC.b ?_)
 obtain⟨zIB,zUT,h⟩:=za h
 refine Ld<|Le 3 (yh zg U (yj .here) U)<|Lk 4 (zb Tryz.call130<|.cons U .nil) .nil (cc hz .nil fun w pz ho=>y2N zUT w pz )<|La U<|WL.nil<|Lb<|WC.cond U (fun zyy=>?_)<|fun zyy=>?_
 ·replace h:=yr h zyy
  refine WC.b<|Ld<|La U<|WL.nil<|Lb<|WC.ret<|Lj ?_
  obtain rfl:=oJ h
  refine Lh Tryz.results202 (.tmp U .nil)<|fun w hw=>?_
  exact⟨yD U,hw.sub .nil⟩
 ·replace h:=ys h zyy
  refine WC.skip<|Lb<|WC.b ?_
  obtain⟨zIC,zUU,h⟩:=za h
  refine Ld<|Le 6 (ya y2D U U)<|Le 7 (yc yq U<|yi .here U)<|Le 8 (q_neg U U)<|Le 9 (ya y33 U U)<|Le 10 (yc yq U<|yi .here U)<|Le 11 (yL (v:=(.agg #[(vi<|i64 (0-z9M.fN)),(vi z9M.fD)])) (Lp (l:=[.tmp 8,.tmp 10]) (.r2 U U) [0,1]) (fun _=>by kernel_rfl))<|Lk 12 (zb Tryz.call83<|.cons U .nil) .nil (cc hz .nil fun w pz ho=>y6m zUU w pz )<|Le 13 (q_neg U U)<|La U<|WL.nil<|Lb<|WC.ret ?_
  obtain rfl:=oJ h
  refine Lh Tryz.results202 (.tmp U .nil)<|fun w hw=>?_
  exact⟨yD U,hw.sub .nil⟩
def y1O(zx:Type)(z34:List z2×Int)(z2z:z2→zx→Option (Bool×zx))(zcw:zx→Option zx):Nat→Int→zx→Option zx
 | 0,_,_=>none
 | zyz+1,z3r,z6o=>if decide (z3r<((z34.1.length:Nat):Int)) then chk ((0:Int)≤z3r∧z3r<((z34.1.length:Nat):Int)) ((y1Z (⟨((nth z34.1 z3r).fN),((nth z34.1 z3r).fD)⟩:z2)).bind fun zID=>(y1w zID).bind fun zyA=>(z2z zyA z6o).bind fun zap=>(if !zap.1 then some (true,zap.2) else(y2Z (⟨((nth z34.1 z3r).fN),((nth z34.1 z3r).fD)⟩:z2)).bind fun zIE=>(y1w zIE).bind fun zyB=>(z2z zyB zap.2).bind fun zne=>some (!zne.1,zne.2)).bind fun zeS=>if zeS.1 then some zeS.2 else y1O zx z34 z2z zcw zyz (i64 (z3r+1)) zeS.2) else zcw z6o
theorem y7W{n:Nat}{zx:Type}{z34:List z2×Int}{z2z:z2→zx→Option (Bool×zx)}{zcw:zx→Option zx}{z3r:Int}{z6o:zx}{r:zx}(h:y1O zx z34 z2z zcw n z3r z6o=some r):∃ m,n=m+1:=by
 cases n with
 | zero=>cases h
 | succ m=>exact⟨m,rfl⟩
def y1P(zx:Type)(z3j:List (List z6))(z2z:z2→zx→Option (Bool×zx))(zcx:zx→Option zx):Nat→Int→zx→Option zx
 | 0,_,_=>none
 | zyC+1,z4H,z7r=>if decide (z4H<((z3j.length:Nat):Int)) then jp1 (fun(zaq:zx)=>y1P zx z3j z2z zcx zyC (i64 (z4H+1)) zaq) fun zyD=>chk ((0:Int)≤z4H∧z4H<((z3j.length:Nat):Int)) ((y24 (nth z3j z4H)).bind fun z34=>jp1 (fun(zar:zx)=>zyD zar) fun zcw=>y1O zx z34 z2z zcw yx 0 z7r) else zcx z7r
theorem y7X{n:Nat}{zx:Type}{z3j:List (List z6)}{z2z:z2→zx→Option (Bool×zx)}{zcx:zx→Option zx}{z4H:Int}{z7r:zx}{r:zx}(h:y1P zx z3j z2z zcx n z4H z7r=some r):∃ m,n=m+1:=by
 cases n with
 | zero=>cases h
 | succ m=>exact⟨m,rfl⟩
def y1Q(zx:Type)(z3s:List z2)(z2z:z2→zx→Option (Bool×zx))(zcy:zx→Option zx):Nat→Int→zx→Option zx
 | 0,_,_=>none
 | zyE+1,z4a,z6p=>if decide (z4a<((z3s.length:Nat):Int)) then chk ((0:Int)≤z4a∧z4a<((z3s.length:Nat):Int)) ((y1Z (⟨((nth z3s z4a).fN),((nth z3s z4a).fD)⟩:z2)).bind fun zIF=>(y1w zIF).bind fun zyF=>(z2z zyF z6p).bind fun zas=>(if !zas.1 then some (true,zas.2) else(y2Z (⟨((nth z3s z4a).fN),((nth z3s z4a).fD)⟩:z2)).bind fun zIG=>(y1w zIG).bind fun zyG=>(z2z zyG zas.2).bind fun znf=>some (!znf.1,znf.2)).bind fun zeT=>if zeT.1 then some zeT.2 else y1Q zx z3s z2z zcy zyE (i64 (z4a+1)) zeT.2) else zcy z6p
theorem y7Y{n:Nat}{zx:Type}{z3s:List z2}{z2z:z2→zx→Option (Bool×zx)}{zcy:zx→Option zx}{z4a:Int}{z6p:zx}{r:zx}(h:y1Q zx z3s z2z zcy n z4a z6p=some r):∃ m,n=m+1:=by
 cases n with
 | zero=>cases h
 | succ m=>exact⟨m,rfl⟩
def y3l(zx:Type)(z2z:z2→zx→Option (Bool×zx))(s0_44460:zx)(z3j:List (List z6))(zgZ:zSv)(zng:List (List z6))(zh0:zSv)(z3s:List z2):Option zx:=
 (y39).bind fun zyH=>(z2z zyH s0_44460).bind fun zh1=>if !zh1.1 then some zh1.2 else jp1 (fun(zat:zx)=>jp1 (fun(zcz:zx)=>some zcz) fun zcy=>y1Q zx z3s z2z zcy yx 0 zat) fun zcx=>y1P zx z3j z2z zcx yx 0 zh1.2
theorem y9J(Z:Zp)(zx:Type)(z9N:Nat)(z4I:Type)(z2W:z4I→zx→Asrt)(z8g:z4I→zx→Prop)(zcA:z4I)(zcB:Addr)(zeU:Option Addr)(zeV:Nat)(zyI:Addr)(zyJ:Option Addr)(zyK:Nat)(zyL:Addr)(znh:Option Addr)(zni:Nat)(z2z:z2→zx→Option (Bool×zx))(s0_44460:zx)(z3j:List (List z6))(zgZ:zSv)(zng:List (List z6))(zh0:zSv)(z3s:List z2)(r:zx)(w₀:World)(hz:PZ (fps [z2W zcA s0_44460]) w₀ Z)(znj:yb8 Tryz.prog Z z9N (α:=z2) (σ:=zx) (G:=z4I) (H:=Unit) (fun h x=>[(.agg #[(vi x.fN),(vi x.fD)])]) (fun h x=>[]) z2z z2W z8g)(zUV:z8g zcA s0_44460)(zUW:ZS Z 1 (y26 Z) zeU zeV z3j)(z17c:ZS Z 1 (y26 Z) zyJ zyK zng)(z17d:ZC Z zyI [(.slice zyJ zng.length zyK)])(z17e:ZC Z zyL [(vi zh0.fRate.fN),(vi zh0.fRate.fD),(vi zh0.fL.fN),(vi zh0.fL.fD)])(zUX:ZS Z 2 (fun r x=>r=yA x) znh zni z3s)(zIH:ZC Z zcB [(.slice zeU z3j.length zeV),(vi zgZ.fRate.fN),(vi zgZ.fRate.fD),(vi zgZ.fL.fN),(vi zgZ.fL.fD),(.func (.func 122) #[] #[(vq zyI),(vq zyL)]),(.slice znh z3s.length zni)])(h:y3l zx z2z s0_44460 z3j zgZ zng zh0 z3s=some r)(hown:Hp (fps [z2W zcA s0_44460]) w₀ w₀ [z2W zcA s0_44460]):
  Calls Tryz.prog 201 #[(.func (.yield z9N) #[] #[]),(vq zcB)] w₀ fun e w'=>∃ zII:z4I,e = .returned (.tuple #[])∧(z8g zII r)∧Hp (fps [z2W zcA s0_44460]) w₀ w' [z2W zII r]:=by
 unfold y3l at h
 refine Kg Tryz.func201 Tryz.ntmps201 hown ?_
 refine WC.b<|WC.b ?_
 obtain⟨zyH,zUY,h⟩:=za h
 obtain⟨zh1,zUZ,h⟩:=za h
 refine Ld<|La U<|Lk 12 (zb Tryz.call161 .nil) .nil (cc hz .nil fun w pz ho=>y4L zUY w pz ) (WL.yield (dd:=13) (x:=zyH) (h:=()) (g:=zcA) (s:=s0_44460) (b:=zh1.1) (s':=zh1.2) znj U U U (.cons U .nil) ((.cons .here .nil):Sel _ [z2W zcA s0_44460] _) zUZ zUV (fun w hw=>hz.call hw ((.cons .here .nil):Sel _ [z2W zcA s0_44460] _)) fun zIJ zIK=>La U<|WL.nil<|Lb<|WC.cond U (fun zyM=>?_)<|fun zyM=>?_)
 ·replace h:=yr h zyM
  refine WC.ret<|Lj ?_
  obtain rfl:=oJ h
  refine Lh Tryz.results201 .nil<|fun w hw=>?_
  exact⟨zIJ,y7p,zIK,hw.sub (.cons .here .nil)⟩
 ·replace h:=ys h zyM
  refine WC.skip<|Lb ?_
  obtain⟨zcx,zV0,h⟩:=yZ h
  let A:Value:=(.func (.yield z9N) #[] #[]);refine WC.y5e (fun(zat:zx) (zjP:z4I)=>(zcx zat=some r)∧(z8g zjP zat)) (fun zat zjP=>[(0,A),(1,(vq zcB))]) (fun zat zjP=>[z2W zjP zat]) ?_ ?_
  ·skip
   let C:Value:=(.slice zeU z3j.length zeV);let D:Value:=(vi ((z3j.length:Nat):Int));refine WC.b (Ld (Le 15 (ya y7w U U) (Le 16 (yc z8A U (y17 hz.pv zIH U)) (Le 17 (yG Tryz.underlying171 U) (La U (WL.nil (Lb (WC.block (WC.y5y (fun(zjQ:Nat) (z4H:Int) (z7r:zx) (zeW:z4I)=>(y1P zx z3j z2z zcx zjQ z4H z7r=some r)∧(z8g zeW z7r)) (fun zjQ z4H z7r zeW=>[(0,A),(1,(vq zcB)),(16,C),(17,D),(18,(vi z4H))]) (fun zjQ z4H z7r zeW=>[z2W zeW z7r]) (fun zjQ z4H z7r zeW=>zjQ) ⟨yx,0,zh1.2,zIJ⟩ ⟨h,zIK⟩ (.r5 U U U U U) (.cons .here .nil) ?_)))))))))
   rintro zjQ z4H z7r zeW ⟨h,zIL⟩
   obtain⟨zyC,rfl⟩:=y7X h
   rw[y1P] at h
   refine WC.b<|Ld<|La U<|WL.nil<|Lb<|WC.b<|WC.cond U (fun zyN=>?_)<|fun zyN=>?_
   ·replace h:=yr h zyN
    refine WC.skip<|Lb ?_
    obtain⟨zyD,zV1,h⟩:=yZ h
    refine WC.y5e (fun(zaq:zx) (zjR:z4I)=>(zyD zaq=some r)∧(z8g zjR zaq)) (fun zaq zjR=>[(0,A),(1,(vq zcB)),(16,C),(17,D),(18,(vi z4H))]) (fun zaq zjR=>[z2W zjR zaq]) ?_ ?_
    ·skip
     refine WC.block<|WC.b ?_
     obtain⟨zV2,h⟩:=yl h
     refine Ld<|L0 (dd:=20) U U (Z:=Z) (Pr:=(y26 Z)) z9i U U zUW zV2 ?_
     rintro z17f z17g zV3 z17h ⟨z17i,z17j,rfl,zV4⟩
     refine Le 21 (yc zdB U<|y3a hz.pv zV3 U)<|La U<|WL.nil<|Lb<|WC.b ?_
     obtain⟨z34,zV5,h⟩:=za h
     refine Ld<|La U<|WL.y4b (dd:=24) U U U (zb Tryz.call199<|.cons U .nil) .nil (cc hz .nil fun w pz ho=>y7L zV5 w pz zV4) ?_
     rintro zIM zqK _
     refine La U<|La U<|La U<|La U<|La U<|WL.nil<|Lb<|WC.b<|Ld<|La U<|Le 28 (yG Tryz.underlying229 U)<|La U<|WL.nil<|Lb ?_
     obtain⟨zcw,zV6,h⟩:=yZ h
     refine WC.y8W (fun(zar:zx) (zjS:z4I)=>(zcw zar=some r)∧(z8g zjS zar)) (fun zar zjS=>[(0,A),(1,(vq zcB)),(16,C),(17,D),(18,(vi z4H))]) (fun zar zjS=>[z2W zjS zar]) ?_ ?_
     ·skip
      let F:=((z34.1.length:Nat):Int);let I:Value:=(.slice zIM z34.1.length zqK);refine WC.block (WC.y5y (fun(zjT:Nat) (z3r:Int) (z6o:zx) (zau:z4I)=>(y1O zx z34 z2z zcw zjT z3r z6o=some r)∧(z8g zau z6o)) (fun zjT z3r z6o zau=>[(0,A),(1,(vq zcB)),(16,C),(17,D),(18,(vi z4H)),(27,I),(28,(vi F)),(29,(vi z3r))]) (fun zjT z3r z6o zau=>[row I 175 2 (z34.1.flatMap yA),z2W zau z6o]) (fun zjT z3r z6o zau=>zjT) ⟨yx,0,z7r,zeW⟩ ⟨h,zIL⟩ (.r8 U U U U U U U U) (.a2) ?_)
      rintro zjT z3r z6o zau ⟨h,zIN⟩
      obtain⟨zyz,rfl⟩:=y7W h
      rw[y1O] at h
      refine WC.b<|Ld<|La U<|WL.nil<|Lb<|WC.b<|WC.cond U (fun zyO=>?_)<|fun zyO=>?_
      ·replace h:=yr h zyO
       refine WC.skip<|Lb<|WC.b<|WC.block<|WC.b ?_
       obtain⟨znk,h⟩:=yl h
       refine Ld<|Ki (fun w hw=>Hp.y2u .here hw (by intro hz';have:=znk;rw[hz'] at this;omega)) ?_
       rintro⟨zIO,rfl⟩
       refine Le 31 (yW z2p U U znk.1 znk.2 y30)<|Le 32 (y14 (cs:=(yA<|nth z34.1 z3r)) zg U U<|y4S .here<|y31 (enc:=yA) (l:=z34.1) (i:=z3r) (sz:=2) (fun _=>U) znk.1 znk.2) (Lg 8 (yv (cs:=[(vi 0),(vi 0)]) zV U) fun zV7 _=>Ll U U (yn zz U U U .here U U U)<|WL.nil<|Lb<|WC.b ?_)
       obtain⟨zID,zV8,h⟩:=za h
       obtain⟨zyA,zV9,h⟩:=za h
       obtain⟨zap,zVa,h⟩:=za h
       obtain⟨zeS,zIP,h⟩:=za h
       refine Ld<|La U<|Le 34 (yh zg U (yj .here) U)<|Lk 35 (zb Tryz.call83<|.cons U .nil) .nil (cc hz .nil fun w pz ho=>y6m zV8 w pz )<|Lk 36 (zb Tryz.call191<|.cons U .nil) .nil (cc hz .nil fun w pz ho=>y3i zV9 w pz )<|WL.yield (dd:=37) (x:=zyA) (h:=()) (g:=zau) (s:=z6o) (b:=zap.1) (s':=zap.2) znj U U U (.cons U .nil) ((.cons .h2 .nil):Sel _ [z2W zau z6o] _) zVa zIN (fun w hw=>hz.call hw ((.cons .h2 .nil):Sel _ [z2W zau z6o] _)) ?_
       intro zqL zIQ
       let E:Value:=(.slice (some ⟨zIO,0,none⟩) z34.1.length zqK);refine La U (La U (WL.yd2 (fun(zh2:z4I)=>z8g zh2 zeS.2) (fun(zh2:z4I)=>[(0,A),(1,(vq zcB)),(16,C),(17,D),(18,(vi z4H)),(27,E),(28,(vi F)),(29,(vi z3r)),(46,(.bool zeS.1))]) (fun(zh2:z4I)=>[z2W zh2 zeS.2,stb zV7 175 [(vi ((nth z34.1 z3r).fN)),(vi ((nth z34.1 z3r).fD))],row E 175 2 (z34.1.flatMap yA)]) 7 ?_ (fun zh2 zIR=>?_)))
       ·rcases Bool.eq_false_or_eq_true (!zap.1) with hb' | hb'
        ·have zIS:=hb';clear hb'
         have zyP:=yr zIP zIS
         replace zyP:=oJ zyP
         refine WL.pin (i:=39) U zIS<|WL.e U U U<|WL.e U U U<|WL.e U U U<|WL.e U U U<|WL.e U U U<|WL.e U U U<|La U ?_
         subst zyP
         exact WL.y6J zqL zIQ (.r9 U U U U U U U U U)<|.a3
        ·have zIT:=hb';clear hb'
         have zcC:=ys zIP zIT
         obtain⟨zIE,zVb,zcC⟩:=za zcC
         obtain⟨zyB,zVc,zcC⟩:=za zcC
         obtain⟨zne,zVd,zcC⟩:=za zcC
         replace zcC:=oJ zcC
         refine WL.pin (i:=39) U zIT<|La U<|Le 41 (yh zg U (yj .h1) U)<|Lk 42 (zb Tryz.call202<|.cons U .nil) .nil (cc hz .nil fun w pz ho=>ya2 zVb w pz )<|Lk 43 (zb Tryz.call191<|.cons U .nil) .nil (cc hz .nil fun w pz ho=>y3i zVc w pz ) (WL.yield (dd:=44) (x:=zyB) (h:=()) (g:=zqL) (s:=zap.2) (b:=zne.1) (s':=zne.2) znj U U U (.cons U .nil) ((.cons .here .nil):Sel _ [z2W zqL zap.2] _) zVd zIQ (fun w hw=>hz.call hw ((.cons .here .nil):Sel _ [z2W zqL zap.2] _)) fun zVe zVf=>La U<|La U ?_)
         subst zcC
         exact WL.y6J zVe zVf (.r9 U U U U U U U U U)<|.a3
       ·skip
        refine WL.nil<|Lb<|WC.cond U (fun zyQ=>?_)<|fun zyQ=>?_
        ·replace h:=yr h zyQ
         refine WC.ret<|Lq<|Lj<|Lj<|Lq<|Lj<|Lq<|Lj<|Lj<|Lq<|Lj ?_
         obtain rfl:=oJ h
         refine Lh Tryz.results201 .nil<|fun w hw=>?_
         exact⟨zh2,y7p,zIR,hw.sub (.cons .here .nil)⟩
        ·replace h:=ys h zyQ
         refine WC.skip<|Lt<|Lb<|Ld<|La U<|La U<|WL.nil ?_
         exact WX.round ⟨zyz,(i64 (z3r+1)),zeS.2,zh2⟩ ⟨h,zIR⟩ (Nat.lt_succ_self _) (.r8 U U U U U U U U)<|.s2 .h2 .here
      ·replace h:=ys h zyO
       refine WC.exit<|Ln<|Ln<|Lu ?_
       exact Lo ⟨z6o,zau⟩ ⟨h,zIN⟩ (.r5 U U U U U)<|.cons .h1 .nil
     ·rintro zar zjS ⟨h,zVg⟩
      replace h:=(zV6 zar).symm.trans h
      refine Lt ?_
      exact Lo ⟨zar,zjS⟩ ⟨h,zVg⟩ (.r5 U U U U U)<|.cons .here .nil
    ·rintro zaq zjR ⟨h,zVh⟩
     replace h:=(zV1 zaq).symm.trans h
     refine Ld<|La U<|La U<|WL.nil ?_
     exact WX.round ⟨zyC,(i64 (z4H+1)),zaq,zjR⟩ ⟨h,zVh⟩ (Nat.lt_succ_self _) (.r5 U U U U U)<|.cons .here .nil
   ·replace h:=ys h zyN
    refine WC.exit<|Ln<|Ln<|Lu ?_
    exact Lo ⟨z7r,zeW⟩ ⟨h,zIL⟩ (.r2 U U)<|.cons .here .nil
  ·rintro zat zjP ⟨h,zVi⟩
   replace h:=(zV0 zat).symm.trans h
   refine WC.b<|Ld<|Le 49 (ya yg1 U U)<|Le 50 (yc z9j U<|y17 hz.pv zIH U)<|Le 51 (yG Tryz.underlying229 U)<|La U<|WL.nil<|Lb ?_
   obtain⟨zcy,zVj,h⟩:=yZ h
   refine WC.y8W (fun(zcz:zx) (zjU:z4I)=>(zcy zcz=some r)∧(z8g zjU zcz)) (fun zcz zjU=>[]) (fun zcz zjU=>[z2W zjU zcz]) ?_ ?_
   ·skip
    let J:Value:=(.slice znh z3s.length zni);let K:Value:=(vi ((z3s.length:Nat):Int));refine WC.block (WC.y5y (fun(zjV:Nat) (z4a:Int) (z6p:zx) (zav:z4I)=>(y1Q zx z3s z2z zcy zjV z4a z6p=some r)∧(z8g zav z6p)) (fun zjV z4a z6p zav=>[(0,A),(50,J),(51,K),(52,(vi z4a))]) (fun zjV z4a z6p zav=>[z2W zav z6p]) (fun zjV z4a z6p zav=>zjV) ⟨yx,0,zat,zjP⟩ ⟨h,zVi⟩ (.r4 U U U U) (.cons .here .nil) ?_)
    rintro zjV z4a z6p zav ⟨h,zIU⟩
    obtain⟨zyE,rfl⟩:=y7Y h
    rw[y1Q] at h
    refine WC.b<|Ld<|La U<|WL.nil<|Lb<|WC.b<|WC.cond U (fun zyR=>?_)<|fun zyR=>?_
    ·replace h:=yr h zyR
     refine WC.skip<|Lb<|WC.b<|WC.block<|WC.b ?_
     obtain⟨zVk,h⟩:=yl h
     refine Ld<|L0 (dd:=54) U U (Z:=Z) (Pr:=(fun r x=>r=yA x)) z2p U U zUX zVk ?_
     rintro z17k z17l zVl z17m rfl
     refine Le 55 (yh zg U (y2d hz.pv zVl) U) (Lg 10 (yv (cs:=[(vi 0),(vi 0)]) zV U) fun zVm _=>Ll U U (yn zz U U U .here U U U)<|WL.nil<|Lb<|WC.b ?_)
     obtain⟨zIF,zVn,h⟩:=za h
     obtain⟨zyF,zVo,h⟩:=za h
     obtain⟨zas,zVp,h⟩:=za h
     obtain⟨zeT,zIV,h⟩:=za h
     refine Ld<|La U<|Le 57 (yh zg U (yj .here) U)<|Lk 58 (zb Tryz.call83<|.cons U .nil) .nil (cc hz .nil fun w pz ho=>y6m zVn w pz )<|Lk 59 (zb Tryz.call191<|.cons U .nil) .nil (cc hz .nil fun w pz ho=>y3i zVo w pz ) (WL.yield (dd:=60) (x:=zyF) (h:=()) (g:=zav) (s:=z6p) (b:=zas.1) (s':=zas.2) znj U U U (.cons U .nil) ((.cons .h1 .nil):Sel _ [z2W zav z6p] _) zVp zIU (fun w hw=>hz.call hw ((.cons .h1 .nil):Sel _ [z2W zav z6p] _)) fun zqM zIW=>La U<|La U<|WL.yd2 (fun(zh3:z4I)=>z8g zh3 zeT.2) (fun(zh3:z4I)=>[(0,A),(50,J),(51,K),(52,(vi z4a)),(69,(.bool zeT.1))]) (fun(zh3:z4I)=>[z2W zh3 zeT.2,stb zVm 175 [(vi<|(nth z3s z4a).fN),(vi<|(nth z3s z4a).fD)]]) 7 ?_<|fun zh3 zIX=>?_)
     ·rcases Bool.eq_false_or_eq_true (!zas.1) with hb' | hb'
      ·have zIY:=hb';clear hb'
       have zyS:=yr zIV zIY
       replace zyS:=oJ zyS
       refine WL.pin (i:=62) U zIY<|WL.e U U U<|WL.e U U U<|WL.e U U U<|WL.e U U U<|WL.e U U U<|WL.e U U U<|La U ?_
       subst zyS
       exact WL.y6J zqM zIW (.r5 U U U U U)<|.a2
      ·have zIZ:=hb';clear hb'
       have zcD:=ys zIV zIZ
       obtain⟨zIG,zVq,zcD⟩:=za zcD
       obtain⟨zyG,zVr,zcD⟩:=za zcD
       obtain⟨znf,zVs,zcD⟩:=za zcD
       replace zcD:=oJ zcD
       refine WL.pin (i:=62) U zIZ<|La U<|Le 64 (yh zg U (yj .h1) U)<|Lk 65 (zb Tryz.call202<|.cons U .nil) .nil (cc hz .nil fun w pz ho=>ya2 zVq w pz )<|Lk 66 (zb Tryz.call191<|.cons U .nil) .nil (cc hz .nil fun w pz ho=>y3i zVr w pz ) (WL.yield (dd:=67) (x:=zyG) (h:=()) (g:=zqM) (s:=zas.2) (b:=znf.1) (s':=znf.2) znj U U U (.cons U .nil) ((.cons .here .nil):Sel _ [z2W zqM zas.2] _) zVs zIW (fun w hw=>hz.call hw ((.cons .here .nil):Sel _ [z2W zqM zas.2] _)) fun zVt zVu=>La U<|La U ?_)
       subst zcD
       exact WL.y6J zVt zVu (.r5 U U U U U)<|.a2
     ·skip
      refine WL.nil<|Lb<|WC.cond U (fun zyT=>?_)<|fun zyT=>?_
      ·replace h:=yr h zyT
       refine WC.ret<|Lq<|Lj<|Lj<|Lq<|Lj ?_
       obtain rfl:=oJ h
       refine Lh Tryz.results201 .nil<|fun w hw=>?_
       exact⟨zh3,y7p,zIX,hw.sub (.cons .here .nil)⟩
      ·replace h:=ys h zyT
       refine WC.skip<|Lt<|Lb<|Ld<|La U<|La U<|WL.nil ?_
       exact WX.round ⟨zyE,(i64 (z4a+1)),zeT.2,zh3⟩ ⟨h,zIX⟩ (Nat.lt_succ_self _) (.r4 U U U U)<|.cons .here .nil
    ·replace h:=ys h zyR
     refine WC.exit<|Ln<|Ln<|Lu ?_
     exact Lo ⟨z6p,zav⟩ ⟨h,zIU⟩ .nil<|.cons .here .nil
   ·rintro zcz zjU ⟨h,zVv⟩
    replace h:=(zVj zcz).symm.trans h
    obtain rfl:=oJ h
    refine WX.y5d Tryz.results201 .nil<|fun w hw=>?_
    exact⟨zjU,y7p,zVv,hw.sub (.cons .here .nil)⟩
def y2h(zh4:z1y)(z5e:z6)(zh5:z2):Option (z2×z1y):=
 (y23 zh4 (fun(y0:z2) (y1:z2)=>y3P y0 y1) z5e.fRate zh5).bind fun zyU=>(y23 zyU.2 (fun(y0:z2) (y1:z2)=>y1q y0 y1) z5e.fBurst zyU.1).bind fun zyV=>some (zyV.1,zyV.2)
theorem ycI{Z:Zp}{zjW:Nat}{zh4:z1y}{z5e:z6}{zh5:z2}{r:z2×z1y}(h:y2h zh4 z5e zh5=some r)(w₀:World)(hz:PZ (fps [stb zjW 307 [(vi zh4.fE)]]) w₀ Z)(hown:Hp (fps [stb zjW 307 [(vi zh4.fE)]]) w₀ w₀ [stb zjW 307 [(vi zh4.fE)]]):
  Calls Tryz.prog 194 #[(vp zjW),(.agg #[(vi z5e.fBurst.fN),(vi z5e.fBurst.fD),(vi z5e.fRate.fN),(vi z5e.fRate.fD)]),(.agg #[(vi zh5.fN),(vi zh5.fD)])] w₀ fun e w'=>e = .returned (.agg #[(vi r.1.fN),(vi r.1.fD)])∧Hp (fps [stb zjW 307 [(vi zh4.fE)]]) w₀ w' [stb zjW 307 [(vi r.2.fE)]]:=by
 unfold y2h at h
 refine Calls.oh3 Tryz.func194 Tryz.ntmps194 hown ?_
 refine WC.b<|Ld (Lg 4 (yI (cs:=[(vi z5e.fBurst.fN),(vi z5e.fBurst.fD),(vi z5e.fRate.fN),(vi z5e.fRate.fD)]) U U) fun zVw _=>Lg 5 (yI (cs:=[(vi zh5.fN),(vi zh5.fD)]) U U) fun z17n _=>Lg 6 (yv (cs:=[(vi 0),(vi 0)]) zV U) fun z17o _=>WL.nil<|Lb<|WC.b ?_)
 obtain⟨zyU,zVx,h⟩:=za h
 obtain⟨zyV,zVy,h⟩:=za h
 refine Lv (fun i=>[7,8,9].contains i) [y7S zVw 225 [(0,(vi z5e.fBurst.fN)),(1,(vi z5e.fBurst.fD))]] U<|Lf 0 7 U (fun _=>q_m U)<|Lf 1 8 U (fun _=>ya y5z U U)<|L7 2 9 U (Sin.wk (.cons .h2 .nil)<|.stb (.cons U<|.cons U .nil) .nil) (y14 (cs:=[(vi z5e.fBurst.fN),(vi z5e.fBurst.fD)]) zg U U<|ybJ .here ((.head _))<|(.tail _<|.head _))<|Lf 3 10 U (fun _=>q_m U)<|Lf 4 11 U (fun _=>ya y6k U U)<|Li 5 12 U (y14 (cs:=[(vi z5e.fRate.fN),(vi z5e.fRate.fD)]) zg U U<|y3D (s:=2) .h2 U)<|Li 6 13 U (yh zg U (yj .h1) U) (Ka (i:=7) (dd:=14) U (by kernel_rfl) U U U (.inl ⟨U,(Sin.wk (.cons .h3 .nil)<|.stb (.cons U<|.cons U .nil) .nil)⟩) (zb Tryz.call210<|.r4 U U U U) (.cons .h3 .nil) (cc hz (.cons .h3 .nil) fun w pz ho=>Calls.mono (y6c _ _ (zam:=120) (zeC:=[]) _ (zck:=(fun(y0:z2) (y1:z2)=>y3P y0 y1)) _ _ _ zVx w pz Tryz.call120 (fun w' hz' y0 y1  r  hr=>ycG hr w' hz' ) ho)<|fun _ _ h'=>⟨h'.1,trivial,h'.2⟩) fun _=>Ka (i:=8) (dd:=15) U (by kernel_rfl) U U U (.inl ⟨U,(Sin.wk (.cons .h3 .nil)<|.stb (.cons U<|.cons U .nil) .nil)⟩) (zb Tryz.call210<|.r4 U U U U) (.cons .here .nil) (cc hz (.cons .here .nil) fun w pz ho=>Calls.mono (y6c _ _ (zam:=119) (zeC:=[]) _ (zck:=(fun(y0:z2) (y1:z2)=>y1q y0 y1)) _ _ _ zVy w pz Tryz.call119 (fun w' hz' y0 y1  r  hr=>y6L hr w' hz' ) ho)<|fun _ _ h'=>⟨h'.1,trivial,h'.2⟩) fun _=>Kd (i:=9) U (by kernel_rfl) U U U (by kernel_rfl) (yn zz U U U .h1 U U U)<|WD.done (by kernel_rfl)<|Lb<|WC.ret ?_)
 obtain rfl:=oJ h
 refine Lh Tryz.results194 (.agg U zg U (yj .here) .nil)<|fun w hw=>?_
 exact⟨yD U,hw.sub (.cons .h1 .nil)⟩
def y1n(z2m:List z2)(z9O:z2→z2→Option Int)(zcE:Int→Int→Option z2):Nat→Int→Int→Int→Option z2
 | 0,_,_,_=>none
 | zyW+1,z35,z6Z,z71=>if decide (z35<((z2m.length:Nat):Int)) then jp2 (fun(zcF:Int) (zcG:Int)=>y1n z2m z9O zcE zyW (i64 (z35+1)) zcF zcG) fun zqN=>chk ((0:Int)≤z35∧z35<((z2m.length:Nat):Int)) ((z9O (⟨((nth z2m z35).fN),((nth z2m z35).fD)⟩:z2) (⟨z6Z,z71⟩:z2)).bind fun zyX=>if decide (zyX<0) then chk ((0:Int)≤z35∧z35<((z2m.length:Nat):Int)) (zqN ((nth z2m z35).fN) ((nth z2m z35).fD)) else zqN z6Z z71) else zcE z6Z z71
theorem y6S{n:Nat}{z2m:List z2}{z9O:z2→z2→Option Int}{zcE:Int→Int→Option z2}{z35:Int}{z6Z:Int}{z71:Int}{r:z2}(h:y1n z2m z9O zcE n z35 z6Z z71=some r):∃ m,n=m+1:=by
 cases n with
 | zero=>cases h
 | succ m=>exact⟨m,rfl⟩
def y2o(z2m:List z2)(z9O:z2→z2→Option Int):Option z2:=
 if decide (((z2m.length:Nat):Int)<1) then none else chk ((0:Int)≤0∧0<((z2m.length:Nat):Int)) (jp2 (fun(zeX:Int) (zeY:Int)=>some (⟨zeX,zeY⟩:z2)) fun zcE=>y1n z2m z9O zcE yx 1 ((nth z2m 0).fN) ((nth z2m 0).fD))
theorem y8b(Z:Zp)(zqO:Option Addr)(zqP:Nat)(zeZ:FuncId)(zjX:List Value)(z2m:List z2)(z9O:z2→z2→Option Int)(r:z2)(h:y2o z2m z9O=some r)(w₀:World)(hz:PZ [] w₀ Z)(zyY:ZS Z 2 (fun r x=>r=yA x) zqO zqP z2m)(zVz:∀ args w,(callFunc zeZ args).run Tryz.prog w = .ok (.enter zeZ args) w)(zVA:∀ w:World,PZ [] w Z→∀(x0:z2) (x1:z2) (r:Int),z9O x0 x1=some r→Calls Tryz.prog zeZ (([(.agg #[(vi x0.fN),(vi x0.fD)]),(.agg #[(vi x1.fN),(vi x1.fD)])]:List Value)++zjX).toArray w fun e w'=>e = .returned (vi r)∧Hp [] w w' []):
  Calls Tryz.prog 195 #[(.slice zqO z2m.length zqP),(.func (.func zeZ) #[] (zjX).toArray)] w₀ fun e w'=>e = .returned (.agg #[(vi r.fN),(vi r.fD)])∧Hp [] w₀ w' []:=by
 unfold y2o at h
 refine Lz Tryz.func195 Tryz.ntmps195 ?_
 refine WC.b<|Ld (Lg 4 (yv (cs:=[(vi 0),(vi 0)]) zV U) fun zjY _=>WL.nil<|Lb<|WC.b<|WC.b<|Ld<|La U<|Le 8 (yG Tryz.underlying229 U)<|La U<|WL.nil<|Lb<|WC.cond U (fun zyZ=>?_)<|fun zyZ=>?_)
 ·replace h:=yr h zyZ
  cases h
 ·replace h:=ys h zyZ
  refine WC.skip<|Lb<|WC.b ?_
  obtain⟨zVB,h⟩:=yl h
  refine Ld<|La U<|L0 (dd:=12) U U (Z:=Z) (Pr:=(fun r x=>r=yA x)) z2p U U zyY zVB ?_
  rintro z17p z17q zVC z17r rfl
  refine Le 13 (yh zg U (y2d hz.pv zVC) U) (Lg 5 (yv (cs:=[(vi 0),(vi 0)]) zV U) fun zjZ _=>Ll U U (yn zz U U U .here U U U)<|WL.nil<|Lb ?_)
  obtain⟨zcE,zVD,h⟩:=y57 h
  refine WC.y5e (fun(zeX:Int) (zeY:Int)=>(zcE zeX zeY=some r)) (fun zeX zeY=>[(4,(vp zjY)),(5,(vp zjZ))]) (fun zeX zeY=>[stb zjY 175 [(vi 0),(vi 0)],stb zjZ 175 [(vi zeX),(vi zeY)]]) ?_ ?_
  ·skip
   let A:Value:=(.func (.func zeZ) #[] (zjX).toArray);let C:Value:=(.slice zqO z2m.length zqP);refine WC.b (Ld (La U (WL.nil (Lb (WC.block (WC.y5y (fun(zk0:Nat) (z35:Int) (z6Z:Int) (z71:Int)=>(y1n z2m z9O zcE zk0 z35 z6Z z71=some r)) (fun zk0 z35 z6Z z71=>[(0,C),(1,A),(4,(vp zjY)),(5,(vp zjZ)),(6,(vi z35))]) (fun zk0 z35 z6Z z71=>[stb zjY 175 [(vi 0),(vi 0)],stb zjZ 175 [(vi z6Z),(vi z71)]]) (fun zk0 z35 z6Z z71=>zk0) ⟨yx,1,((nth z2m 0).fN),((nth z2m 0).fD)⟩ h (.r5 U U U U U) (.s2 .h1 .here) ?_))))))
   rintro zk0 z35 z6Z z71 h
   obtain⟨zyW,rfl⟩:=y6S h
   rw[y1n] at h
   refine WC.b<|WC.b<|Ld<|La U<|La U<|Le 16 (yG Tryz.underlying229 U)<|La U<|WL.nil<|Lb<|WC.cond U (fun zz0=>?_)<|fun zz0=>?_
   ·replace h:=yr h zz0
    refine WC.skip<|Lb ?_
    obtain⟨zqN,zVE,h⟩:=y57 h
    refine WC.y5e (fun(zcF:Int) (zcG:Int)=>(zqN zcF zcG=some r)) (fun zcF zcG=>[(0,C),(1,A),(4,(vp zjY)),(5,(vp zjZ)),(6,(vi z35))]) (fun zcF zcG=>[stb zjY 175 [(vi 0),(vi 0)],stb zjZ 175 [(vi zcF),(vi zcG)]]) ?_ ?_
    ·skip
     refine WC.block<|WC.b ?_
     obtain⟨zVF,h⟩:=yl h
     obtain⟨zyX,zVG,h⟩:=za h
     refine Lv (fun i=>[].contains i) [] U<|Lf 0 20 U (fun _=>q_m U)<|Lf 1 21 U (fun _=>q_m U)<|Lf 2 22 U (fun _=>q_m U)<|L5 (j:=3) (dd:=23) (by kernel_rfl) U z1Z z20 U U (Z:=Z) (Pr:=(fun r x=>r=yA x)) z2p U U zyY zVF ?_
     rintro z17s z17t zVH z17u rfl
     refine Li 4 24 U (yh zg U (y2d hz.pv zVH) U)<|Li 5 25 U (yh zg U (yj .h1) U)<|L4 6 26 U (y2G (l:=[.tmp 24,.tmp 25]) (f:=zeZ) (caps:=zjX) zVz U<|.r2 U U) (fun w hw=>zVA w (hz.now hw) (⟨((nth z2m z35).fN),((nth z2m z35).fD)⟩:z2) (⟨z6Z,z71⟩:z2) zyX  zVG)<|Lf 7 27 U (fun _=>ye3 U U)<|WD.done (by kernel_rfl)<|Lb<|WC.cond U (fun zz1=>?_)<|fun zz1=>?_
     ·replace h:=yr h zz1
      obtain⟨zVI,h⟩:=yl h
      refine Ld<|La U<|La U<|L0 (dd:=30) U U (Z:=Z) (Pr:=(fun r x=>r=yA x)) z2p U U zyY zVI ?_
      rintro z17v z17w zVJ z17x rfl
      refine Le 31 (yh zg U (y2d hz.pv zVJ) U)<|Ll U U (yn zz U U U .h1 U U U)<|WL.nil<|Lt ?_
      exact Lo ⟨((nth z2m z35).fN),((nth z2m z35).fD)⟩ h (.r5 U U U U U)<|.s2 .h1 .here
     ·replace h:=ys h zz1
      refine WC.skip<|Lt ?_
      exact Lo ⟨z6Z,z71⟩ h (.r5 U U U U U)<|.a2
    ·rintro zcF zcG h
     replace h:=(zVE zcF zcG).symm.trans h
     refine Ld<|La U<|La U<|La U<|WL.nil ?_
     exact WX.round ⟨zyW,(i64 (z35+1)),zcF,zcG⟩ h (Nat.lt_succ_self _) (.r5 U U U U U)<|.a2
   ·replace h:=ys h zz0
    refine WC.exit<|Ln<|Ln<|Lu ?_
    exact Lo ⟨z6Z,z71⟩ h (.r2 U U)<|.a2
  ·rintro zeX zeY h
   replace h:=(zVD zeX zeY).symm.trans h
   refine WC.b<|Ld<|Le 32 (yh zg U (yj .h1) U)<|Ll U U (yn zz U U U .here U U U)<|WL.nil<|Lb<|WC.ret ?_
   obtain rfl:=oJ h
   refine Lh Tryz.results195 (.agg U zg U (yj .here) .nil)<|fun w hw=>?_
   exact⟨yD U,hw.sub .nil⟩
def y3m(z4J:List z6)(z6q:z2)(zcH:(List z2)→Int→Option (z2×Int)):Nat→(List z2)→Int→Int→Option (z2×Int)
 | 0,_,_,_=>none
 | zz2+1,z5f,z5g,z8S=>if decide (z5g<((z4J.length:Nat):Int)) then chk ((0:Int)≤z5g∧z5g<((z4J.length:Nat):Int)) ((y2h (⟨z8S⟩:z1y) (⟨(⟨(((nth z4J z5g).fBurst).fN),(((nth z4J z5g).fBurst).fD)⟩:z2),(⟨(((nth z4J z5g).fRate).fN),(((nth z4J z5g).fRate).fD)⟩:z2)⟩:z6) z6q).bind fun zcI=>chk ((((z5f++([zcI.1]:List z2)).length:Nat):Int)*16≤140737488355328∧(((z5f++([zcI.1]:List z2)).length:Nat):Int)≤4611686018427387904) (y3m z4J z6q zcH zz2 (z5f++([zcI.1]:List z2)) (i64 (z5g+1)) zcI.2.fE)) else zcH z5f z8S
theorem ycJ{n:Nat}{z4J:List z6}{z6q:z2}{zcH:(List z2)→Int→Option (z2×Int)}{z5f:List z2}{z5g:Int}{z8S:Int}{r:z2×Int}(h:y3m z4J z6q zcH n z5f z5g z8S=some r):∃ m,n=m+1:=by
 cases n with
 | zero=>cases h
 | succ m=>exact⟨m,rfl⟩
def y5f(z4J:List z6)(z6q:z2):Option (z2×Int):=
 (y4Y z4J).bind fun zJ0=>(if !zJ0 then some true else(y5Q z6q).bind fun zJ1=>some (!zJ1)).bind fun zz3=>if zz3 then some ((⟨0,0⟩:z2),2) else jp2 (fun(zaw:List z2) (zax:Int)=>if decide (zax≠0) then some ((⟨0,0⟩:z2),zax) else(y2o zaw (fun(y0:z2) (y1:z2)=>y1u y0 y1)).bind fun zJ2=>some (zJ2,0)) fun zcH=>y3m z4J z6q zcH yx ([]:List z2) 0 0
theorem yhX{Z:Zp}{zz4:Option Addr}{zz5:Nat}{z4J:List z6}{z6q:z2}{r:z2×Int}(h:y5f z4J z6q=some r)(w₀:World)(hz:PZ [] w₀ Z)(zJ3:ZS Z 4 (fun r x=>r=y1N x) zz4 zz5 z4J):
  Calls Tryz.prog 162 #[(.slice zz4 z4J.length zz5),(.agg #[(vi z6q.fN),(vi z6q.fD)])] w₀ fun e w'=>e = .returned (.tuple #[(.agg #[(vi r.1.fN),(vi r.1.fD)]),(vi r.2)])∧Hp [] w₀ w' []:=by
 unfold y5f at h
 refine Lz Tryz.func162 Tryz.ntmps162 ?_
 refine WC.b<|Ld (Lg 3 (yI (cs:=[(vi z6q.fN),(vi z6q.fD)]) U U) fun zJ4 _=>Lg 4 (yv (cs:=[(vi 0),(vi 0)]) zV U) fun zqQ _=>La U<|WL.nil<|Lb<|WC.b<|WC.b ?_)
 obtain⟨zJ0,zVK,h⟩:=za h
 obtain⟨zz3,zJ5,h⟩:=za h
 refine Ld<|La U<|Lk 11 (zb Tryz.call192<|.cons U .nil) .nil (cc hz .nil fun w pz ho=>y86 zVK w pz zJ3)<|La U<|La U<|Lx false 3 13 (B:=zz3) U U U U U U (fun h=>(oJ<|yr zJ5 h).symm) (fun _ zVL=>?_) ?_
 ·skip
  have znl:=ys zJ5 zVL
  obtain⟨zJ1,zVM,znl⟩:=za znl
  replace znl:=oJ znl
  refine Le 14 (yh zg U (yj .h1) U)<|Lk 15 (zb Tryz.call193<|.cons U .nil) .nil (cc hz .nil fun w pz ho=>yao zVM w pz )<|La U<|La U ?_
  exact Ly znl U U .all
 refine WL.nil<|Lb<|WC.cond U (fun zz6=>?_)<|fun zz6=>?_
 ·replace h:=yr h zz6
  refine WC.b<|Ld<|Le 18 (yL (v:=(.agg #[(vi 0),(vi 0)])) (Lp (l:=[]) .nil []) (fun _=>by kernel_rfl))<|Ll U U (yn zz U U U .here U U U)<|La U<|WL.nil<|Lb<|WC.ret<|Lj ?_
  obtain rfl:=oJ h
  refine Lh Tryz.results162 (.agg U zg U (yj .here)<|.tmp U .nil)<|fun w hw=>?_
  exact⟨y1R U U,hw.sub .nil⟩
 ·replace h:=ys h zz6
  refine WC.skip<|Lb<|WC.b<|Ld (Lg 6 (yv (cs:=[(vi 0)]) zDA U) fun znm _=>WL.nil<|Lb<|WC.b<|Ld<|La U<|WL.nil<|Lb ?_)
  obtain⟨zcH,zVN,h⟩:=y57 h
  refine WC.y8z (fun(zaw:List z2) (zax:Int) (znn:Option Addr) (zno:Nat)=>(zcH zaw zax=some r)) (fun zaw zax znn zno=>[(4,(vp zqQ)),(6,(vp znm)),(7,(.slice znn zaw.length zno))]) (fun zaw zax znn zno=>[row (.slice znn zaw.length zno) 175 2 (zaw.flatMap yA),stb zqQ 175 [(vi 0),(vi 0)],stb znm 307 [(vi zax)]]) ?_ ?_
  ·skip
   refine WC.b<|Ld<|La U<|Le 20 (yG Tryz.underlying227 U)<|La U<|WL.nil<|Lb<|WC.block<|WC.nilRow 175 2<|WC.y8T (fun(zk1:Nat) (z5f:List z2) (z5g:Int) (z8S:Int) (zh6:Option Addr) (zh7:Nat)=>(y3m z4J z6q zcH zk1 z5f z5g z8S=some r)) (fun zk1 z5f z5g z8S zh6 zh7=>[(3,(vp zJ4)),(4,(vp zqQ)),(6,(vp znm)),(7,(.slice zh6 z5f.length zh7)),(19,(.slice zz4 z4J.length zz5)),(20,(vi ((z4J.length:Nat):Int))),(21,(vi z5g))]) (fun zk1 z5f z5g z8S zh6 zh7=>[row (.slice zh6 z5f.length zh7) 175 2 (z5f.flatMap yA),stb zJ4 175 [(vi z6q.fN),(vi z6q.fD)],stb zqQ 175 [(vi 0),(vi 0)],stb znm 307 [(vi z8S)]]) (fun zk1 z5f z5g z8S zh6 zh7=>zk1) ⟨yx,([]:List z2),0,0,none,0⟩ h (.r7 U U U U U U U) (.s4 .here .h2 .h1 .here) ?_
   rintro zk1 z5f z5g z8S zh6 zh7 h
   obtain⟨zz2,rfl⟩:=ycJ h
   rw[y3m] at h
   refine WC.b<|Ld<|La U<|WL.nil<|Lb<|WC.b<|WC.cond U (fun zz7=>?_)<|fun zz7=>?_
   ·replace h:=yr h zz7
    refine WC.skip<|Lb<|WC.b<|WC.block<|WC.b ?_
    obtain⟨zVO,h⟩:=yl h
    refine Ld<|L0 (dd:=23) U U (Z:=Z) (Pr:=(fun r x=>r=y1N x)) z80 U U zJ3 zVO ?_
    rintro z17y z17z zVP z17A rfl
    refine Le 24 (yh z3a U (y2d hz.pv zVP) U) (Lg 9 (yv (cs:=[(vi 0),(vi 0),(vi 0),(vi 0)]) zbl U) fun z17B _=>Ll U U (yn za2 U U U .here U U U)<|WL.nil<|Lb ?_)
    obtain⟨zcI,zVQ,h⟩:=za h
    obtain⟨zVR,h⟩:=yl h
    refine Ld<|La U<|Le 26 (yh z3a U (yj .here) U)<|Le 27 (yh zg U (yj .h2) U)<|Lk 28 (zb Tryz.call194<|.r3 U U U) (.cons .h4 .nil) (cc hz (.cons .h4 .nil) fun w pz ho=>ycI zVQ w pz  ho) (Lg 29 (yS (cs:=([zcI.1]:List z2).flatMap yA) z2p (Lp (l:=[.tmp 28]) (.cons U .nil) [0]) (fun _=>by kernel_rfl) U (by unfold maxLen;omega)) fun z17C _=>WL.fA 30 (y4W (enc:=yA) (l1:=z5f) (l2:=([zcI.1]:List z2)) z2p U U .h3 (fun _=>U) U U (y3u .here) (y5o yd6 _) zVR) ?_)
    rintro⟨zVS,zVT⟩ _
    refine La U<|WL.nil<|Lt<|Lb<|Ld<|La U<|La U<|WL.nil ?_
    exact WX.round ⟨zz2,(z5f++([zcI.1]:List z2)),(i64 (z5g+1)),zcI.2.fE,zVS,zVT⟩ h (Nat.lt_succ_self _) (.r7 U U U U U U U)<|.s4 .here .h3 .h3 .h1
   ·replace h:=ys h zz7
    refine WC.exit<|Ln<|Ln<|Lu ?_
    exact Lo ⟨z5f,z8S,zh6,zh7⟩ h (.r3 U U U)<|.s3 .here .h1 .h1
  ·rintro zaw zax znn zno h
   replace h:=(zVN zaw zax).symm.trans h
   refine WC.b<|WC.b<|Ld<|Le 32 (ya y98 U U)<|Le 33 (yc y3A U<|yi .h2 U)<|La U<|WL.nil<|Lb<|WC.cond U (fun zz8=>?_)<|fun zz8=>?_
   ·replace h:=yr h zz8
    refine WC.b<|Lv (fun i=>[3].contains i) [y7S znm 307 [(0,(vi zax))]] U<|Lf 0 35 U (fun _=>yL (v:=(.agg #[(vi 0),(vi 0)])) (Lp (l:=[]) .nil []) (fun _=>by kernel_rfl))<|Lf 1 36 U (fun _=>ya y98 U U)<|L7 2 37 U (Sin.wk (.cons .h2 .nil)<|.stb (.cons U .nil) .nil) (yc y3A U<|y5Z .here<|.head _)<|WD.forced0 (i:=3) U (by kernel_rfl) U U U (Sin.wk (.cons .h2 .nil)<|.stb (.cons U .nil) .nil) (yn zz U U U .h1 U U U)<|Lf 4 5 U (fun _=>q_z U)<|WD.done (by kernel_rfl)<|Lb<|WC.ret<|Lj ?_
    obtain rfl:=oJ h
    refine Lh Tryz.results162 (.agg U zg U (yj .here)<|.tmp U .nil)<|fun w hw=>?_
    exact⟨y1R U U,hw.sub .nil⟩
   ·replace h:=ys h zz8
    refine WC.skip<|Lb<|WC.b ?_
    obtain⟨zJ2,zVU,h⟩:=za h
    refine Ld<|La U<|Lk 39 (zb Tryz.call195<|.r2 U U) .nil (ccl hz .nil (.cons .here .nil) fun w pz ho la=>y8b _ _ _ (zeZ:=129) (zjX:=[]) _ (z9O:=(fun(y0:z2) (y1:z2)=>y1u y0 y1)) _ zVU w pz (ZA.row (la _ (.head _) _) (RR.flat (enc:=yA) (fun _=>U) _) ⟨w,pz.1⟩) Tryz.call129<|fun w' hz' y0 y1  r  hr=>y4Z hr w' hz' )<|Ll U U (yn zz U U U .h1 U U U)<|La U<|WL.nil<|Lb<|WC.ret ?_
    obtain rfl:=oJ h
    refine Lh Tryz.results162 (.agg U zg U (yj .here)<|.tmp U .nil)<|fun w hw=>?_
    exact⟨y1R U U,hw.sub .nil⟩
def y2p(z5X:List (List z6))(z5Y:z2)(zcJ:Int→Int→Int→Option (z2×z1y)):Nat→Int→Int→Int→Int→Option (z2×z1y)
 | 0,_,_,_,_=>none
 | zz9+1,z6r,z7s,z8h,z8i=>if decide (z6r<((z5X.length:Nat):Int)) then chk ((0:Int)≤z6r∧z6r<((z5X.length:Nat):Int)) ((y5f (nth z5X z6r) z5Y).bind fun zk2=>jp1 (fun(zf0:Int)=>(y1d (⟨zf0⟩:z1y) (fun(y0:z2) (y1:z2)=>y1q y0 y1) (⟨z8h,z8i⟩:z2) zk2.1).bind fun zh8=>y2p z5X z5Y zcJ zz9 (i64 (z6r+1)) zh8.2.fE zh8.1.fN zh8.1.fD) fun zqR=>if decide (z7s=0) then zqR zk2.2 else zqR z7s) else zcJ z8h z8i z7s
theorem y8P{n:Nat}{z5X:List (List z6)}{z5Y:z2}{zcJ:Int→Int→Int→Option (z2×z1y)}{z6r:Int}{z7s:Int}{z8h:Int}{z8i:Int}{r:z2×z1y}(h:y2p z5X z5Y zcJ n z6r z7s z8h z8i=some r):∃ m,n=m+1:=by
 cases n with
 | zero=>cases h
 | succ m=>exact⟨m,rfl⟩
def y3B(zf1:z1y)(z5X:List (List z6))(z5Y:z2):Option (z2×z1y):=
 (y39).bind fun znp=>jp3 (fun(zf2:Int) (zf3:Int) (zf4:Int)=>some ((⟨zf2,zf3⟩:z2),(⟨zf4⟩:z1y))) fun zcJ=>y2p z5X z5Y zcJ yx 0 zf1.fE znp.fN znp.fD
theorem y8m{Z:Zp}{z9P:Nat}{zqS:Option Addr}{zqT:Nat}{zf1:z1y}{z5X:List (List z6)}{z5Y:z2}{r:z2×z1y}(h:y3B zf1 z5X z5Y=some r)(w₀:World)(hz:PZ (fps [stb z9P 277 [(vi zf1.fE)]]) w₀ Z)(zVV:ZS Z 1 (y26 Z) zqS zqT z5X)(hown:Hp (fps [stb z9P 277 [(vi zf1.fE)]]) w₀ w₀ [stb z9P 277 [(vi zf1.fE)]]):
  Calls Tryz.prog 126 #[(vp z9P),(.slice zqS z5X.length zqT),(.agg #[(vi z5Y.fN),(vi z5Y.fD)])] w₀ fun e w'=>e = .returned (.agg #[(vi r.1.fN),(vi r.1.fD)])∧Hp (fps [stb z9P 277 [(vi zf1.fE)]]) w₀ w' [stb z9P 277 [(vi r.2.fE)]]:=by
 unfold y3B at h
 refine Calls.oh3 Tryz.func126 Tryz.ntmps126 hown ?_
 let A:List Value:=[(vi z5Y.fN),(vi z5Y.fD)];refine WC.b (Ld (Lg 5 (yI (cs:=A) U U) ?_))
 intro zqU _
 refine Lg 6 (yv (cs:=[(vi 0),(vi 0)]) zV U) fun zk3 _=>WL.nil<|Lb<|WC.b ?_
 obtain⟨znp,zVW,h⟩:=za h
 refine Ld<|Lk 12 (zb Tryz.call161 .nil) .nil (cc hz .nil fun w pz ho=>y4L zVW w pz ) (Lg 7 (yv (cs:=[(vi 0),(vi 0)]) zV U) fun zk4 _=>Ll U U (yn zz U U U .here U U U)<|WL.nil<|Lb ?_)
 obtain⟨zcJ,zVX,h⟩:=y8U h
 refine Kc (fun(zf2:Int) (zf3:Int) (zf4:Int)=>(zcJ zf2 zf3 zf4=some r)) (fun zf2 zf3 zf4=>[(6,(vp zk3)),(7,(vp zk4))]) (fun zf2 zf3 zf4=>[stb zk3 175 [(vi 0),(vi 0)],stb zk4 175 [(vi zf2),(vi zf3)],stb z9P 277 [(vi zf4)]]) ?_ ?_
 ·skip
  let C:Value:=(.slice zqS z5X.length zqT);let D:Value:=(vi ((z5X.length:Nat):Int));refine WC.b (Ld (La U (Le 14 (yG Tryz.underlying171 U) (La U (WL.nil (Lb (WC.block (WC.y7q (fun(zk5:Nat) (z6r:Int) (z7s:Int) (z8h:Int) (z8i:Int)=>(y2p z5X z5Y zcJ zk5 z6r z7s z8h z8i=some r)) (fun zk5 z6r z7s z8h z8i=>[(0,(vp z9P)),(5,(vp zqU)),(6,(vp zk3)),(7,(vp zk4)),(13,C),(14,D),(15,(vi z6r))]) (fun zk5 z6r z7s z8h z8i=>[stb z9P 277 [(vi z7s)],stb zqU 175 A,stb zk3 175 [(vi 0),(vi 0)],stb zk4 175 [(vi z8h),(vi z8i)]]) (fun zk5 z6r z7s z8h z8i=>zk5) ⟨yx,0,zf1.fE,znp.fN,znp.fD⟩ h (.r7 U U U U U U U) (.s4 .h3 .h2 .h1 .here) ?_))))))))
  rintro zk5 z6r z7s z8h z8i h
  obtain⟨zz9,rfl⟩:=y8P h
  rw[y2p] at h
  refine WC.b<|Ld<|La U<|WL.nil<|Lb<|WC.b<|WC.cond U (fun zza=>?_)<|fun zza=>?_
  ·replace h:=yr h zza
   refine WC.skip<|Lb<|WC.b<|WC.block<|WC.b ?_
   obtain⟨zVY,h⟩:=yl h
   refine Ld<|L0 (dd:=17) U U (Z:=Z) (Pr:=(y26 Z)) z9i U U zVV zVY ?_
   rintro z17D z17E zVZ z17F ⟨z17G,z17H,rfl,zW0⟩
   refine Le 18 (yc zdB U<|y3a hz.pv zVZ U)<|La U<|WL.nil<|Lb<|WC.b ?_
   obtain⟨zk2,zW1,h⟩:=za h
   refine Ld<|La U<|Le 21 (yh zg U (yj .h1) U)<|Lk 22 (zb Tryz.call162<|.r2 U U) .nil (cc hz .nil fun w pz ho=>yhX zW1 w pz zW0)<|La U<|La U<|La U (Lg 10 (yv (cs:=[(vi 0),(vi 0)]) zV U) fun zJ6 _=>Ll U U (yn zz U U U .here U U U)<|La U<|WL.nil<|Lb ?_)
   obtain⟨zqR,zW2,h⟩:=yZ h
   refine Kf (fun(zf0:Int)=>(zqR zf0=some r)) (fun zf0=>[(0,(vp z9P)),(5,(vp zqU)),(6,(vp zk3)),(7,(vp zk4)),(10,(vp zJ6)),(13,C),(14,D),(15,(vi z6r))]) (fun zf0=>[stb z9P 277 [(vi zf0)],stb zqU 175 A,stb zk3 175 [(vi 0),(vi 0)],stb zk4 175 [(vi z8h),(vi z8i)],stb zJ6 175 [(vi zk2.1.fN),(vi zk2.1.fD)]]) ?_ ?_
   ·skip
    refine WC.b<|Ld<|La U<|Le 26 (y1f U)<|Le 27 (ya y5A U U)<|Le 28 (yc y3A U<|yi .h1 U)<|La U<|WL.nil<|Lb<|WC.cond U (fun zzb=>?_)<|fun zzb=>?_
    ·replace h:=yr h zzb
     refine Ld<|La U<|La U<|Le 32 (y1f U)<|Le 33 (ya y5A U U)<|Ll U U (yn ybd U U U .h1 U U U)<|WL.nil ?_
     exact Lo zk2.2 h (.r8 U U U U U U U U)<|.s5 .here .h1 .h1 .h1 .here
    ·replace h:=ys h zzb
     refine WC.skip ?_
     exact Lo z7s h (.r8 U U U U U U U U)<|.s5 .h1 .h1 .h1 .h1 .here
   ·rintro zf0 h
    replace h:=(zW2 zf0).symm.trans h
    obtain⟨zh8,zW3,h⟩:=za h
    refine Ld<|La U<|Le 35 (yh zg U (yj .h3) U)<|Le 36 (yh zg U (yj .h4) U)<|Lk 37 (zb Tryz.call123<|.r4 U U U U) (.cons .here .nil) (cc hz (.cons .here .nil) fun w pz ho=>y2L _ _ (z7p:=119) (z8O:=[]) _ (z8f:=(fun(y0:z2) (y1:z2)=>y1q y0 y1)) _ _ _ zW3 w pz Tryz.call119 (fun w' hz' y0 y1  r  hr=>y6L hr w' hz' ) ho)<|Ll U U (yn zz U U U .h3 U U U)<|WL.nil<|Lt<|Lb<|Ld<|La U<|La U<|WL.nil ?_
    exact WX.round ⟨zz9,(i64 (z6r+1)),zh8.2.fE,zh8.1.fN,zh8.1.fD⟩ h (Nat.lt_succ_self _) (.r7 U U U U U U U)<|.s4 .h1 .h1 .h1 .here
  ·replace h:=ys h zza
   refine WC.exit<|Ln<|Ln<|Lu ?_
   exact Lo ⟨z8h,z8i,z7s⟩ h (.r2 U U)<|.s3 .h2 .h2 .here
 ·rintro zf2 zf3 zf4 h
  replace h:=(zVX zf2 zf3 zf4).symm.trans h
  refine WC.b<|Ld<|Le 39 (yh zg U (yj .h1) U)<|Ll U U (yn zz U U U .here U U U)<|WL.nil<|Lb<|WC.ret ?_
  obtain rfl:=oJ h
  refine Lh Tryz.results126 (.agg U zg U (yj .here) .nil)<|fun w hw=>?_
  exact⟨yD U,hw.sub (.cons .h2 .nil)⟩
def y5k(zh9:z1y)(zay:z2)(znq:List (List z6))(z8T:zSv):Option (z2×z1y):=
 (y3B zh9 znq zay).bind fun zzc=>(y1d zzc.2 (fun(y0:z2) (y1:z2)=>y4e y0 y1) zzc.1 z8T.fRate).bind fun zzd=>(y1d zzd.2 (fun(y0:z2) (y1:z2)=>y2w y0 y1) zzd.1 zay).bind fun zze=>(y1d zze.2 (fun(y0:z2) (y1:z2)=>y1q y0 y1) zze.1 z8T.fL).bind fun zzf=>some (zzf.1,zzf.2)
theorem ycK{Z:Zp}{zk6:Nat}{zJ7:Addr}{zJ8:Option Addr}{zJ9:Nat}{zJa:Addr}{zh9:z1y}{zay:z2}{znq:List (List z6)}{z8T:zSv}{r:z2×z1y}(h:y5k zh9 zay znq z8T=some r)(w₀:World)(hz:PZ (fps [stb zk6 277 [(vi zh9.fE)]]) w₀ Z)(zW4:ZS Z 1 (y26 Z) zJ8 zJ9 znq)(zW5:ZC Z zJ7 [(.slice zJ8 znq.length zJ9)])(zJb:ZC Z zJa [(vi z8T.fRate.fN),(vi z8T.fRate.fD),(vi z8T.fL.fN),(vi z8T.fL.fD)])(hown:Hp (fps [stb zk6 277 [(vi zh9.fE)]]) w₀ w₀ [stb zk6 277 [(vi zh9.fE)]]):
  Calls Tryz.prog 122 #[(vp zk6),(.agg #[(vi zay.fN),(vi zay.fD)]),(vq zJ7),(vq zJa)] w₀ fun e w'=>e = .returned (.agg #[(vi r.1.fN),(vi r.1.fD)])∧Hp (fps [stb zk6 277 [(vi zh9.fE)]]) w₀ w' [stb zk6 277 [(vi r.2.fE)]]:=by
 unfold y5k at h
 refine Calls.oh4 Tryz.func122 Tryz.ntmps122 hown ?_
 refine WC.b<|Ld (Lg 5 (yI (cs:=[(vi zay.fN),(vi zay.fD)]) U U) fun zW6 _=>Lg 6 (yv (cs:=[(vi 0),(vi 0)]) zV U) fun z17I _=>WL.nil<|Lb<|WC.b ?_)
 obtain⟨zzc,zW7,h⟩:=za h
 obtain⟨zzd,zW8,h⟩:=za h
 obtain⟨zze,zW9,h⟩:=za h
 obtain⟨zzf,zWa,h⟩:=za h
 refine Lv (fun i=>[6,9,11,14,15].contains i) [stb zW6 175 [(vi zay.fN),(vi zay.fD)]] U<|Lf 0 7 U (fun _=>q_m U)<|Lf 1 8 U (fun _=>q_m U)<|Lf 2 9 U (fun _=>q_m U)<|Lf 3 10 U (fun _=>q_m U)<|Li 4 11 U (yc z8A U<|y3a hz.pv zW5 U)<|Li 5 12 U (yh zg U (yj .h1) U)<|Lf 7 14 U (fun _=>ya y96 U U)<|L7 8 15 U (Sin.of<|.cons .h1 .nil) (y14 (cs:=[(vi z8T.fRate.fN),(vi z8T.fRate.fD)]) zg U U<|yb7 (off:=0) (s:=2) hz.pv zJb U)<|L7 10 17 U (Sin.of<|.cons .h1 .nil) (yh zg U (yj .here) U)<|Lf 12 19 U (fun _=>ya y97 U U)<|L7 13 20 U (Sin.of<|.cons .h1 .nil) (y14 (cs:=[(vi z8T.fL.fN),(vi z8T.fL.fD)]) zg U U<|yb7 (off:=2) (s:=2) hz.pv zJb U) (Ka (i:=6) (dd:=13) U (by kernel_rfl) U U U (.inl ⟨U,(Sin.of<|.cons .h2 .nil)⟩) (zb Tryz.call126<|.r3 U U U) (.cons .h2 .nil) (cc hz (.cons .h2 .nil) fun w pz ho=>Calls.mono (y8m zW7 w pz zW4 ho)<|fun _ _ h'=>⟨h'.1,trivial,h'.2⟩) fun _=>Ka (i:=9) (dd:=16) U (by kernel_rfl) U U U (.inl ⟨U,(Sin.of<|.cons .h2 .nil)⟩) (zb Tryz.call123<|.r4 U U U U) (.cons .here .nil) (cc hz (.cons .here .nil) fun w pz ho=>Calls.mono (y2L _ _ (z7p:=125) (z8O:=[]) _ (z8f:=(fun(y0:z2) (y1:z2)=>y4e y0 y1)) _ _ _ zW8 w pz Tryz.call125 (fun w' hz' y0 y1  r  hr=>yfi hr w' hz' ) ho)<|fun _ _ h'=>⟨h'.1,trivial,h'.2⟩) fun _=>Ka (i:=11) (dd:=18) U (by kernel_rfl) U U U (.inl ⟨U,(Sin.of<|.cons .h2 .nil)⟩) (zb Tryz.call123<|.r4 U U U U) (.cons .here .nil) (cc hz (.cons .here .nil) fun w pz ho=>Calls.mono (y2L _ _ (z7p:=124) (z8O:=[]) _ (z8f:=(fun(y0:z2) (y1:z2)=>y2w y0 y1)) _ _ _ zW9 w pz Tryz.call124 (fun w' hz' y0 y1  r  hr=>y9x hr w' hz' ) ho)<|fun _ _ h'=>⟨h'.1,trivial,h'.2⟩) fun _=>Ka (i:=14) (dd:=21) U (by kernel_rfl) U U U (.inl ⟨U,(Sin.of<|.cons .h2 .nil)⟩) (zb Tryz.call123<|.r4 U U U U) (.cons .here .nil) (cc hz (.cons .here .nil) fun w pz ho=>Calls.mono (y2L _ _ (z7p:=119) (z8O:=[]) _ (z8f:=(fun(y0:z2) (y1:z2)=>y1q y0 y1)) _ _ _ zWa w pz Tryz.call119 (fun w' hz' y0 y1  r  hr=>y6L hr w' hz' ) ho)<|fun _ _ h'=>⟨h'.1,trivial,h'.2⟩) fun _=>Kd (i:=15) U (by kernel_rfl) U U U (by kernel_rfl) (yn zz U U U .h1 U U U)<|WD.done (by kernel_rfl)<|Lb<|WC.ret ?_)
 obtain rfl:=oJ h
 refine Lh Tryz.results122 (.agg U zg U (yj .here) .nil)<|fun w hw=>?_
 exact⟨yD U,hw.sub (.cons .h1 .nil)⟩
end Go.Proofs.YthjnhebofpebpaaGreat
