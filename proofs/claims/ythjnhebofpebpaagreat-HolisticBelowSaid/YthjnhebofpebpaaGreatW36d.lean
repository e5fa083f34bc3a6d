/- A part of this claim's proof: models of functions, walks, plain laws. No conditions. -/
import Derived.Test.YthjnhebofpebpaaGreatW36c
set_option linter.all false
namespace Go.Proofs.YthjnhebofpebpaaGreat
open Go Go.RowKit Sep Tryz
variable {j y E:Nat}{f q:z2}{g:List z2}{m D H:Option Addr}{k z:zSv}{l:z6}{p F:List (List z6)}{i:Type}{n:z1A}{t:List z6}{u v:Addr}{s:Int}
set_option maxRecDepth 30000
set_option maxHeartbeats 4000000
def y26(a:z1A)(zbW:z2->z2->Option (z2×Int))(c:z2)(d:z2):Option (z2×z1A):=
 if decide (a.fE≠0) then some ((⟨0,0⟩:z2),a) else(zbW c d).bind fun b=>some (b.1,(⟨b.2⟩:z1A))
theorem y6i(Z:Zp)(a:Nat)(z9X:FuncId)(zeb:List Value)(d:z1A)(zbW:z2->z2->Option (z2×Int))(b:z2)(c:z2)(r:z2×z1A)(h:y26 d zbW b c=some r)(w₀:World)(hz:PZ (fps [stb a 307 [(vi d.fE)]]) w₀ Z)(i:∀ args w,(callFunc z9X args).run Tryz.prog w = .ok (.enter z9X args) w)(j:∀ w:World,PZ [] w Z->∀(x0:z2) (x1:z2) (r:z2×Int),zbW x0 x1=some r->Calls Tryz.prog z9X (([(.agg #[(vi x0.fN),(vi x0.fD)]),(.agg #[(vi x1.fN),(vi x1.fD)])]:List Value)++zeb).toArray w fun e w'=>e = .returned (.tuple #[(.agg #[(vi r.1.fN),(vi r.1.fD)]),(vi r.2)])/\Hp [] w w' [])(hown:Hp (fps [stb a 307 [(vi d.fE)]]) w₀ w₀ [stb a 307 [(vi d.fE)]]):
  Calls Tryz.prog 210 #[(vp a),(.func (.func z9X) #[] (zeb).toArray),(.agg #[(vi b.fN),(vi b.fD)]),(.agg #[(vi c.fN),(vi c.fD)])] w₀ fun e w'=>e = .returned (.agg #[(vi r.1.fN),(vi r.1.fD)])/\Hp (fps [stb a 307 [(vi d.fE)]]) w₀ w' [stb a 307 [(vi r.2.fE)]]:=by
 unfold y26 at h
 refine Calls.oh4 func210 ntmps210 hown ?_
 refine WC.b<|Ld (Lg 6 (yI (cs:=[(vi b.fN),(vi b.fD)]) U U) fun n _=>Lg 7 (yI (cs:=[(vi c.fN),(vi c.fD)]) U U) fun o _=>Lg 8 (yu (cs:=[(vi 0),(vi 0)]) zX U) fun p _=>WL.nil<|Lb<|WC.b<|WC.b<|Ld<|La U<|Le 12 (y1d U)<|Le 13 (ya y9x U U)<|Le 14 (yc y3t U<|yh .h3 U)<|La U<|WL.nil<|Lb<|WC.cond U (fun g=>?_)<|fun g=>?_)
 ·replace h:=yr h g
  refine WC.b<|Ld<|Le 16 (yN (v:=(.agg #[(vi 0),(vi 0)])) (Lo (l:=[]) .nil []) (fun _=>by kernel_rfl))<|Lk U U (yl zy U U U .here U U U)<|WL.nil<|Lb<|WC.ret<|Lj ?_
  obtain rfl:=oJ h
  refine Lh results210 (.agg U zg U (yj .here) .nil)<|fun w hw=>?_
  exact⟨yD U,hw.sub (.cons .h3 .nil)⟩
 ·replace h:=ys h g
  refine WC.skip<|Lb<|WC.b ?_
  obtain⟨k,m,h⟩:=za h
  refine Ld<|La U<|Le 19 (yi zg U (yj .h2) U)<|Le 20 (yi zg U (yj .h1) U)<|Ll 21 (y2M (l:=[.tmp 19,.tmp 20]) (f:=z9X) (caps:=zeb) i U<|.r2 U U) .nil (fun w hw=>j w (hz.now hw) b c k  m)<|La U<|La U<|La U (Lg 9 (yu (cs:=[(vi 0),(vi 0)]) zX U) fun q _=>Lk U U (yl zy U U U .here U U U)<|La U<|WL.nil<|Lb<|WC.b<|Ld<|La U<|La U<|Le 26 (y1d U)<|Le 27 (ya y9x U U)<|Lk U U (yl ybP U U U .h4 U U U)<|WL.nil<|Lb<|WC.b<|Ld<|Le 28 (yi zg U (yj .h1) U)<|Lk U U (yl zy U U U .h2 U U U)<|WL.nil<|Lb<|WC.ret ?_)
  obtain rfl:=oJ h
  refine Lh results210 (.agg U zg U (yj .here) .nil)<|fun w hw=>?_
  exact⟨yD U,hw.sub (.cons .h1 .nil)⟩
def yax(a:z2)(b:z2):Option (Int×Int):=
 some ((i64 (a.fN*b.fD)),(i64 (a.fD*b.fN)))
theorem yjN{Z:Zp}{r:Int×Int}(h:yax f q=some r)(w₀:World)(hz:PZ [] w₀ Z)(a:ZC Z u [(vi f.fN),(vi f.fD)])(b:ZC Z v [(vi q.fN),(vi q.fD)]):
  Calls Tryz.prog 190 #[(vq u),(vq v)] w₀ fun e w'=>e = .returned (.tuple #[(vi r.1),(vi r.2)])/\Hp [] w₀ w' []:=by
 unfold yax at h
 refine Lz func190 ntmps190 ?_
 refine WC.b<|Ld<|La U<|La U<|WL.nil<|Lb<|WC.b<|Lx (fun i=>[].contains i) [] U<|Lf 0 4 U (fun _=>ya y2G U U)<|Li 1 5 U (yc yq U<|y1b hz.pv a U)<|Lf 2 6 U (fun _=>ya y34 U U)<|Li 3 7 U (yc yq U<|y1b hz.pv b U)<|Lf 4 8 U (fun _=>y7p U U U)<|Lf 5 9 U (fun _=>ya y34 U U)<|Li 6 10 U (yc yq U<|y1b hz.pv a U)<|Lf 7 11 U (fun _=>ya y2G U U)<|Li 8 12 U (yc yq U<|y1b hz.pv b U)<|Lf 9 13 U (fun _=>y7p U U U)<|Lf 10 2 U (fun _=>q_z U)<|Lf 11 3 U (fun _=>q_z U)<|WD.done (by kernel_rfl)<|Lb<|WC.ret ?_
 obtain rfl:=oJ h
 refine Lh results190 (.tmp U<|.tmp U .nil)<|fun w hw=>?_
 exact⟨y1T U U,hw.sub .nil⟩
def ya2(b:z2)(a:z2):Option (z2×Int):=
 (y1Y b).bind fun e=>(if !e then some true else(y1Y a).bind fun f=>some (!f)).bind fun g=>if g||(decide (a.fN=0)) then some ((⟨0,0⟩:z2),2) else(yax b a).bind fun c=>(y5G c.1 c.2).bind fun d=>some (d.1,d.2)
theorem ykl{Z:Zp}{r:z2×Int}(h:ya2 f q=some r)(w₀:World)(hz:PZ [] w₀ Z):
  Calls Tryz.prog 159 #[(.string ⟨#[47]⟩),(.agg #[(vi f.fN),(vi f.fD)]),(.agg #[(vi q.fN),(vi q.fD)])] w₀ fun e w'=>e = .returned (.tuple #[(.agg #[(vi r.1.fN),(vi r.1.fD)]),(vi r.2)])/\Hp [] w₀ w' []:=by
 unfold ya2 at h
 refine Kd func159 ntmps159 ?_
 refine WC.b<|Ld (Lg 4 (yI (cs:=[(vi f.fN),(vi f.fD)]) U U) fun b _=>Lg 5 (yI (cs:=[(vi q.fN),(vi q.fD)]) U U) fun c _=>Lg 6 (yu (cs:=[(vi 0),(vi 0)]) zX U) fun t _=>La U<|WL.nil<|Lb<|WC.b<|WC.b ?_)
 obtain⟨y,j,h⟩:=za h
 obtain⟨g,i,h⟩:=za h
 refine Ld<|Le 9 (yi zg U (yj .h2) U)<|Ll 10 (zb call130<|.cons U .nil) .nil (cc hz .nil fun w pz ho=>y2W j w pz )<|La U<|La U<|Lu false 3 12 (B:=g) U U U U U U (fun h=>(oJ<|yr i h).symm) (fun _ m=>?_) ?_
 ·skip
  have a:=ys i m
  obtain⟨z,n,a⟩:=za a
  replace a:=oJ a
  refine Le 13 (yi zg U (yj .h1) U)<|Ll 14 (zb call130<|.cons U .nil) .nil (cc hz .nil fun w pz ho=>y2W n w pz )<|La U<|La U ?_
  exact Lv a U U .all
 refine La U<|Lu false 7 17 (B:=g||(decide (q.fN=0))) U U U U U U (fun h=>(y5V h).symm) (fun _ o=>?_) ?_
 ·skip
  refine La U<|Le 19 (ydZ (r:=true) (by decide) U U)<|La U<|Le 21 (ya y2G U U)<|Le 22 (yc yq U<|yh .h1 U)<|La U<|La U<|La U ?_
  exact Lv (y5W o) U U .all
 refine WL.nil<|Lb<|WC.cond U (fun d=>?_)<|fun d=>?_
 ·replace h:=yr h d
  refine WC.b<|Ld<|Le 26 (yN (v:=(.agg #[(vi 0),(vi 0)])) (Lo (l:=[]) .nil []) (fun _=>by kernel_rfl))<|Lk U U (yl zy U U U .here U U U)<|La U<|WL.nil<|Lb<|WC.ret<|Lj ?_
  obtain rfl:=oJ h
  refine Lh results159 (.agg U zg U (yj .here)<|.tmp U .nil)<|fun w hw=>?_
  exact⟨y1T U U,hw.sub .nil⟩
 ·replace h:=ys h d
  refine WC.skip<|Lb<|WC.b<|Ld<|Lg 27 (y3n Value.string<|fun x=>x) ?_
  intro u _
  let A:Value:=(.func (.func 190) #[] #[(vp b),(vp c)]);refine Le 28 (y15 (L2 (l:=[.tmp 4,.tmp 5]) (.r2 U U))) (Lk U U (y3X (k:=⟨#[43]⟩) (v:=(.func (.func 187) #[] #[(vp b),(vp c)])) y4q underlying304 U U U U .here) (Le 29 (y15 (L2 (l:=[.tmp 4,.tmp 5]) (.r2 U U))) (Lk U U (y3X (k:=⟨#[45]⟩) (v:=(.func (.func 188) #[] #[(vp b),(vp c)])) y4q underlying304 U U U U .here) (Le 30 (y15 (L2 (l:=[.tmp 4,.tmp 5]) (.r2 U U))) (Lk U U (y3X (k:=⟨#[42]⟩) (v:=(.func (.func 189) #[] #[(vp b),(vp c)])) y4q underlying304 U U U U .here) (Le 31 (y15 (L2 (l:=[.tmp 4,.tmp 5]) (.r2 U U))) (Lk U U (y3X (k:=⟨#[47]⟩) (v:=A) y4q underlying304 U U U U .here) (La U (La U (WL.nil (Lb (WC.b ?_))))))))))))
  obtain⟨C,p,h⟩:=za h
  obtain⟨D,s,h⟩:=za h
  refine Ld<|La U<|La U<|Le 35 (ydY (k:=⟨#[47]⟩) (dflt:=.nilFunc) (r:=A) y4q underlying304 zoB U U U .here (by rfl))<|Ll 36 (y2M (l:=[]) call190 U .nil) .nil (ccl hz .nil (.s2 .h3 .h2) fun w pz ho la=>yjN p w pz ((la _ (.head _) _).stb)<|(la _ (.tail _<|.head _) _).stb)<|La U<|La U<|Ll 39 (zb call160<|.r2 U U) .nil (cc hz .nil fun w pz ho=>y93 s w pz )<|La U<|La U<|Lk U U (yl zy U U U .h1 U U U)<|La U<|WL.nil<|Lb<|WC.ret ?_
  obtain rfl:=oJ h
  refine Lh results159 (.agg U zg U (yj .here)<|.tmp U .nil)<|fun w hw=>?_
  exact⟨y1T U U,hw.sub .nil⟩
def y46(b:z2)(c:z2):Option (z2×Int):=
 (ya2 b c).bind fun a=>some (a.1,a.2)
theorem ygR{Z:Zp}{r:z2×Int}(h:y46 f q=some r)(w₀:World)(hz:PZ [] w₀ Z):
  Calls Tryz.prog 125 #[(.agg #[(vi f.fN),(vi f.fD)]),(.agg #[(vi q.fN),(vi q.fD)])] w₀ fun e w'=>e = .returned (.tuple #[(.agg #[(vi r.1.fN),(vi r.1.fD)]),(vi r.2)])/\Hp [] w₀ w' []:=by
 unfold y46 at h
 refine Lz func125 ntmps125 ?_
 refine WC.b<|Ld (Lg 2 (yI (cs:=[(vi f.fN),(vi f.fD)]) U U) fun b _=>Lg 3 (yI (cs:=[(vi q.fN),(vi q.fD)]) U U) fun c _=>Lg 4 (yu (cs:=[(vi 0),(vi 0)]) zX U) fun d _=>La U<|WL.nil<|Lb<|WC.b ?_)
 obtain⟨g,a,h⟩:=za h
 refine Ld<|Le 6 (yi zg U (yj .h2) U)<|Le 7 (yi zg U (yj .h1) U)<|Ll 8 (zb call159<|.r3 U U U) .nil (cc hz .nil fun w pz ho=>ykl a w pz )<|La U<|La U<|Lk U U (yl zy U U U .here U U U)<|La U<|WL.nil<|Lb<|WC.ret ?_
 obtain rfl:=oJ h
 refine Lh results125 (.agg U zg U (yj .here)<|.tmp U .nil)<|fun w hw=>?_
 exact⟨y1T U U,hw.sub .nil⟩
theorem zTt:∀ w,(isAgg (Tryz.y3D.t 24)).run Tryz.prog w = .ok true w:=fun _=>by kernel_rfl
theorem zTu:∀ w,(Go.sizeOf (Tryz.y3D.t 24)).run Tryz.prog w = .ok 2 w:=fun _=>by kernel_rfl
def y4F(z5O:List z2)(zmw:Int)(zmx:Int)(ziX:Int)(zgs:z2->z2->Option Int):Option (List z2):=chk ((zmw=0/\zmx=(z5O.length:Int))/\(0<=ziX/\ziX<4611686018427387904/\z5O.length<4611686018427387904)) (chk (y8r zgs (yK zgs z5O)=true) (some (yK zgs z5O)))
theorem y8N(Z:Zp)(zgt:Option Addr)(zgu:Nat)(zmy:FuncId)(zxB:List Value)(z5O:List z2)(zmw:Int)(zmx:Int)(ziX:Int)(zgs:z2->z2->Option Int)(r:List z2)(w₀:World)(hz:PZ (fps [row (vs zgt z5O.length zgu) 175 2 (z5O.flatMap yx)]) w₀ Z)(a:∀ args w,(callFunc zmy args).run Tryz.prog w = .ok (.enter zmy args) w)(b:∀ w:World,PZ [] w Z->∀(x0:z2) (x1:z2) (r:Int),zgs x0 x1=some r->Calls Tryz.prog zmy (([(.agg #[(vi x0.fN),(vi x0.fD)]),(.agg #[(vi x1.fN),(vi x1.fD)])]:List Value)++zxB).toArray w fun e w'=>e = .returned (vi r)/\Hp [] w w' [])(h:y4F z5O zmw zmx ziX zgs=some r)(hown:Hp (fps [row (vs zgt z5O.length zgu) 175 2 (z5O.flatMap yx)]) w₀ w₀ [row (vs zgt z5O.length zgu) 175 2 (z5O.flatMap yx)]):
  Calls Tryz.prog 227 #[(vs zgt z5O.length zgu),(vi zmw),(vi zmx),(vi ziX),(.func (.func zmy) #[] (zxB).toArray)] w₀ fun e w'=>e = .returned (.tuple #[])/\(r.length=z5O.length)/\Hp (fps [row (vs zgt z5O.length zgu) 175 2 (z5O.flatMap yx)]) w₀ w' [row (vs zgt r.length zgu) 175 2 (r.flatMap yx)]:=by
 obtain⟨h0,h⟩:=yo h
 obtain⟨h1,h⟩:=yo h
 have hr:=(oJ h).symm
 exact y9S (P:=Tryz.prog) (f:=227) (e:=175) (k:=2) (enc:=yx) (fun _=>U) (by decide) ye0 (fun β _ enc cf g cb hO blk off cap d0 w0 eg hC R=>Tryz.y9p 2 zTt zTu enc cf g cb hO blk off cap d0 w0 eg hC R) (Tryz.y9d (α:=Unit)) hz a b h0 h1 hr hown
def y2g(a:List z2)(ziY:z2->z2->Option Int):Option (List z2):=
 (y4i (u64 (a.length:Int))).bind fun b=>(y4F a 0 (a.length:Int) b ziY).bind fun c=>some c
theorem y8l(Z:Zp)(b:Option Addr)(c:Nat)(ziZ:FuncId)(zpR:List Value)(a:List z2)(ziY:z2->z2->Option Int)(r:List z2)(h:y2g a ziY=some r)(w₀:World)(hz:PZ (fps [row (vs b a.length c) 175 2 (a.flatMap yx)]) w₀ Z)(j:∀ args w,(callFunc ziZ args).run Tryz.prog w = .ok (.enter ziZ args) w)(k:∀ w:World,PZ [] w Z->∀(x0:z2) (x1:z2) (r:Int),ziY x0 x1=some r->Calls Tryz.prog ziZ (([(.agg #[(vi x0.fN),(vi x0.fD)]),(.agg #[(vi x1.fN),(vi x1.fD)])]:List Value)++zpR).toArray w fun e w'=>e = .returned (vi r)/\Hp [] w w' [])(hown:Hp (fps [row (vs b a.length c) 175 2 (a.flatMap yx)]) w₀ w₀ [row (vs b a.length c) 175 2 (a.flatMap yx)]):
  Calls Tryz.prog 214 #[(vs b a.length c),(.func (.func ziZ) #[] (zpR).toArray)] w₀ fun e w'=>e = .returned (.tuple #[])/\(r.length=a.length)/\Hp (fps [row (vs b a.length c) 175 2 (a.flatMap yx)]) w₀ w' [row (vs b r.length c) 175 2 (r.flatMap yx)]:=by
 unfold y2g at h
 refine Kf func214 ntmps214 hown ?_
 refine WC.b<|Ld<|La U<|Le 6 (yJ underlying229 U)<|La U<|WL.nil<|Lb ?_
 obtain⟨d,l,h⟩:=za h
 obtain⟨f,m,h⟩:=za h
 refine Ld<|La U<|La U<|La U<|Le 10 (y8R underlying3 underlying147 U U)<|Ll 11 (zb call57<|.cons U .nil) .nil (cc hz .nil fun w pz ho=>y91 (Z:=_)  (z8d:=(u64 (a.length:Int))) (r:=d) w pz  l)<|La U<|WL.y5c (dd:=13) U U U (zb call227<|.r5 U U U U U) (.cons .here .nil) (cc hz (.cons .here .nil) fun w pz ho=>y8N (Z:=_) (zgt:=b) (zgu:=c) (zmy:=ziZ) (zxB:=zpR) (z5O:=a) (zmw:=0) (zmx:=(a.length:Int)) (ziX:=d) (zgs:=ziY) (r:=f) w pz j k m ho) ?_
 rintro  g
 refine Kh (i:=0) U (u:=(vs b f.length c)) (yac g.symm)<|WL.nil ?_
 obtain rfl:=oJ h
 refine WX.y58 results214 .nil<|fun w hw=>?_
 exact⟨y7A,(g.trans U),hw.sub (.cons .here .nil)⟩
def y1m(e:List z2)(b:Int)(f:(List z2)->Int->Option (List z2)):Nat->(List z2)->Int->Int->Option (List z2)
 | 0,_,_,_=>none
 | h+1,c,d,a=>if decide (a<((e.length-(b:Int).toNat:Nat):Int)) then jp2 (fun(i:List z2) (j:Int)=>y1m e b f h i j (i64 (a+1))) fun g=>chk ((0:Int)<=a/\a<((e.length-(b:Int).toNat:Nat):Int)) (chk ((0:Int)<=(i64 (a-1))/\(i64 (a-1))<((e.length-(b:Int).toNat:Nat):Int)) (if decide ((⟨((nth c (b+a)).fN),((nth c (b+a)).fD)⟩:z2)≠(⟨((nth c (b+(i64 (a-1)))).fN),((nth c (b+(i64 (a-1)))).fD)⟩:z2)) then chk ((0:Int)<=a/\a<((e.length-(b:Int).toNat:Nat):Int)) (chk ((0:Int)<=d/\d<(c.length:Int)) (g (c.set (d:Int).toNat (⟨((nth c (b+a)).fN),((nth c (b+a)).fD)⟩:z2)) (i64 (d+1)))) else g c d)) else f c d
theorem y71{n:Nat}{a:(List z2)->Int->Option (List z2)}{c:List z2}{b:Int}{d:Int}{r:List z2}(h:y1m g s a n c b d=some r):∃ m,n=m+1:=by
 cases n with
 | zero=>cases h
 | succ m=>exact⟨m,rfl⟩
def y1n(b:List z2)(e:Option (List z2)):Nat->Int->Option (List z2)
 | 0,_=>none
 | f+1,a=>if decide (a<(b.length:Int)) then jp0 (y1n b e f (i64 (a+1))) fun g=>chk ((0:Int)<=a/\a<(b.length:Int)) (chk ((0:Int)<=(i64 (a-1))/\(i64 (a-1))<(b.length:Int)) (if decide ((⟨((nth b a).fN),((nth b a).fD)⟩:z2)=(⟨((nth b (i64 (a-1))).fN),((nth b (i64 (a-1))).fD)⟩:z2)) then chk ((0:Int)<=a/\a<(b.length:Int)) (jp2 (fun(d:List z2) (c:Int)=>chk ((0:Int)<=c/\c<=(d.length:Int)) (chk ((0:Int)<=c/\c<=(((d.take (c:Int).toNat++List.replicate (d.length-(c:Int).toNat) ((⟨0,0⟩:z2):z2)).length:Nat):Int)) (some ((d.take (c:Int).toNat++List.replicate (d.length-(c:Int).toNat) ((⟨0,0⟩:z2):z2)).take (c:Int).toNat)))) fun h=>y1m b a h yy b a 1) else g)) else e
def y2o(a:List z2):Option (List z2):=
 if decide ((a.length:Int)<2) then some a else jp0 (some a) fun b=>y1n a b yy 1
theorem y8t{Z:Zp}{r:List z2}(h:y2o g=some r)(w₀:World)(hz:PZ (fps [row (vs m g.length j) 175 2 (g.flatMap yx)]) w₀ Z)(hown:Hp (fps [row (vs m g.length j) 175 2 (g.flatMap yx)]) w₀ w₀ [row (vs m g.length j) 175 2 (g.flatMap yx)]):
  Calls Tryz.prog 215 #[(vs m g.length j)] w₀ fun e w'=>∃ S:Option Addr,∃ T:Nat,e = .returned (vs S r.length T)/\True/\Hp (fps [row (vs m g.length j) 175 2 (g.flatMap yx)]) w₀ w' [row (vs S r.length T) 175 2 (r.flatMap yx)]:=by
 unfold y2o at h
 refine Calls.oh1 func215 ntmps215 hown ?_
 refine WC.b<|Ld<|La U<|WL.nil<|Lb<|WC.b<|WC.b<|Ld<|La U<|Le 7 (yJ underlying229 U)<|La U<|WL.nil<|Lb<|WC.cond U (fun N=>?_)<|fun N=>?_
 ·replace h:=yr h N
  refine WC.b<|Ld<|La U<|La U<|WL.nil<|Lb<|WC.ret<|Lj ?_
  obtain rfl:=oJ h
  refine Lh results215 (.tmp U .nil)<|fun w hw=>?_
  exact⟨m,j,yD U,trivial,hw.sub (.cons .here .nil)⟩
 ·replace h:=ys h N
  refine WC.skip<|Lb ?_
  obtain⟨V,ab,h⟩:=y2m h
  let C:Value:=(vs m g.length j);let E:List Asrt:=[row C 175 2 (g.flatMap yx)];refine L8 ((V=some r)) ([(0,C)]) (E) ?_ ?_
  ·skip
   refine WC.b<|Ld<|La U<|WL.nil<|Lb<|WC.block<|L9 (fun(G:Nat) (c:Int)=>(y1n g V G c=some r)) (fun G c=>[(0,C),(3,(vi c))]) (fun G c=>E) (fun G c=>G) ⟨yy,1⟩ h (.r2 U U) (.cons .here .nil) ?_
   rintro(_|ad) c h;·cases h
   rw[y1n] at h
   refine WC.b<|WC.b<|Ld<|La U<|La U<|Le 12 (yJ underlying229 U)<|La U<|WL.nil<|Lb<|WC.cond U (fun O=>?_)<|fun O=>?_
   ·replace h:=yr h O
    refine WC.skip<|Lb ?_
    obtain⟨ae,af,h⟩:=y2m h
    refine L8 ((ae=some r)) ([(0,C),(3,(vi c))]) (E) ?_ ?_
    ·skip
     refine WC.block<|WC.b ?_
     obtain⟨H,h⟩:=yo h
     obtain⟨I,h⟩:=yo h
     refine Lx (fun i=>[].contains i) [] U<|Lf 0 16 U (fun _=>q_m U)<|Lf 1 17 U (fun _=>q_m U)<|WD.know (fun w hw=>Hp.y2c .here hw (by intro hz';have:=H;rw[hz'] at this;omega)) ?_
     rintro⟨p,rfl⟩
     refine Lf 2 18 U (fun _=>y11 z2r U U H.1 H.2 y3g)<|Li 3 19 U (yX (cs:=(yx<|nth g c)) zg U U<|y3Q .here<|y2y (enc:=yx) (l:=g) (i:=c) (sz:=2) (fun _=>U) H.1 H.2)<|Lf 4 20 U (fun _=>q_m U)<|Lf 5 21 U (fun _=>q_m U)<|Lf 6 22 U (fun _=>y9I U U U)<|Lf 7 23 U (fun _=>y11 z2r U U I.1 I.2 y3g)<|Li 8 24 U (yX (cs:=(yx<|nth g<|i64 (c-1))) zg U U<|y3Q .here<|y2y (enc:=yx) (l:=g) (i:=i64 (c-1)) (sz:=2) (fun _=>U) I.1 I.2)<|Lf 9 25 U (fun _=>y9l (enc:=yx) (a:=(⟨((nth g c).fN),((nth g c).fD)⟩:z2)) (b:=(⟨((nth g<|i64 (c-1)).fN),((nth g<|i64 (c-1)).fD)⟩:z2)) zDh U U)<|WD.done (by kernel_rfl)<|Lb<|WC.cond U (fun P=>?_)<|fun P=>?_
     ·replace h:=yr h P
      refine WC.b ?_
      obtain⟨t,h⟩:=yo h
      refine Ld<|La U<|La U<|WL.yk9 (dd:=28) U U z2r U U .here t<|La U<|WL.nil<|Lb ?_
      obtain⟨W,ag,h⟩:=y52 h
      refine WC.y59 (fun(n:List z2) (q:Int)=>(W n q=some r)/\(n.length=g.length)) (fun n q=>[(0,(vs (some ⟨p,0,none⟩) n.length j)),(3,(vi q))]) (fun n q=>[row (vs (some ⟨p,0,none⟩) n.length j) 175 2 (n.flatMap yx)]) ?_ ?_
      ·skip
       let D:Value:=(vs (some ⟨p,(c:Int).toNat*2,none⟩) (g.length-(c:Int).toNat) (j-(c:Int).toNat));refine WC.b (Ld (La U (WL.nil (Lb (WC.block (WC.y5s (fun(x:Nat) (d:List z2) (o:Int) (f:Int)=>(y1m g c W x d o f=some r)/\(d.length=g.length)) (fun x d o f=>[(0,(vs (some ⟨p,0,none⟩) d.length j)),(3,(vi o)),(4,D),(5,(vi f))]) (fun x d o f=>[row (vs (some ⟨p,0,none⟩) d.length j) 175 2 (d.flatMap yx)]) (fun x d o f=>x) ⟨yy,g,c,1⟩ ⟨h,U⟩ (.r4 U U U U) (.cons .here .nil) ?_))))))
       rintro x d o f ⟨h,z⟩
       obtain⟨ah,rfl⟩:=y71 h
       rw[y1m] at h
       refine WC.b<|WC.b<|Ld<|La U<|La U<|Le 31 (yJ underlying229 U)<|La U<|WL.nil<|Lb<|WC.cond U (fun Q=>?_)<|fun Q=>?_
       ·replace h:=yr h Q
        refine WC.skip<|Lb ?_
        obtain⟨ai,aj,h⟩:=y52 h
        refine WC.y59 (fun(s:List z2) (v:Int)=>(ai s v=some r)/\(s.length=g.length)) (fun s v=>[(0,(vs (some ⟨p,0,none⟩) s.length j)),(3,(vi v)),(4,D),(5,(vi f))]) (fun s v=>[row (vs (some ⟨p,0,none⟩) s.length j) 175 2 (s.flatMap yx)]) ?_ ?_
        ·skip
         refine WC.block<|WC.b ?_
         obtain⟨J,h⟩:=yo h
         obtain⟨K,h⟩:=yo h
         refine Lx (fun i=>[].contains i) [] U<|Lf 0 35 U (fun _=>q_m U)<|Lf 1 36 U (fun _=>q_m U) ?_
         have X:(0:Int)<=c+f/\c+f<(d.length:Int):=by have h1:=z;have h2:=t;have h3:=J;omega
         refine Lf 2 37 U (fun _=>y11 z2r U U J.1 J.2<|yeS t.1 J.1)<|Li 3 38 U (yX (cs:=(yx<|nth d (c+f))) zg U U<|y3Q .here<|y2y (enc:=yx) (l:=d) (i:=c+f) (sz:=2) (fun _=>U) X.1 X.2)<|Lf 4 39 U (fun _=>q_m U)<|Lf 5 40 U (fun _=>q_m U)<|Lf 6 41 U (fun _=>y9I U U U) ?_
         have Y:(0:Int)<=c+(i64 (f-1))/\c+(i64 (f-1))<(d.length:Int):=by have h1:=z;have h2:=t;have h3:=K;omega
         refine Lf 7 42 U (fun _=>y11 z2r U U K.1 K.2<|yeS t.1 K.1)<|Li 8 43 U (yX (cs:=(yx<|nth d (c+(i64 (f-1))))) zg U U<|y3Q .here<|y2y (enc:=yx) (l:=d) (i:=c+(i64 (f-1))) (sz:=2) (fun _=>U) Y.1 Y.2)<|Lf 9 44 U (fun _=>yck (enc:=yx) (a:=(⟨((nth d (c+f)).fN),((nth d (c+f)).fD)⟩:z2)) (b:=(⟨((nth d (c+(i64 (f-1)))).fN),((nth d (c+(i64 (f-1)))).fD)⟩:z2)) zDh U U)<|WD.done (by kernel_rfl)<|Lb<|WC.cond U (fun R=>?_)<|fun R=>?_
         ·replace h:=yr h R
          refine WC.b ?_
          obtain⟨L,h⟩:=yo h
          obtain⟨B,h⟩:=yo h
          refine Ld<|La U<|La U<|La U<|La U ?_
          have aa:(0:Int)<=c+f/\c+f<(d.length:Int):=by have h1:=z;have h2:=t;have h3:=L;omega
          let F:List Value:=[(vi ((nth d (c+f)).fN)),(vi ((nth d (c+f)).fD))];refine Le 49 (y11 z2r U U L.1 L.2 (yeS t.1 L.1)) (Le 50 (yX (cs:=(yx (nth d (c+f)))) zg U U (y3Q .here (y2y (enc:=yx) (l:=d) (i:=c+f) (sz:=2) (fun _=>U) aa.1 aa.2))) (Le 51 (y11 z2r U U B.1 B.2 y3g) (Lk U U (yjx (vs:=F) (ds:=(d.set (o:Int).toNat (⟨((nth d (c+f)).fN),((nth d (c+f)).fD)⟩:z2)).flatMap yx) zy U U U U (ocB U) .here (flat_fit (enc:=yx) (sz:=2) (k:=0) (fun _=>U) B.1 B.2 (by decide)) (flat_put (enc:=yx) (l:=d) (sz:=2) (vs:=F) (y:=(⟨((nth d (c+f)).fN),((nth d (c+f)).fD)⟩:z2)) (k:=0) (fun _=>U) B.1 B.2 U (Nat.le_of_ble_eq_true U))) (WL.relen .here (u:=(vs (some ⟨p,0,none⟩) ((d.set (o:Int).toNat (⟨((nth d (c+f)).fN),((nth d (c+f)).fD)⟩:z2)).length) j)) (yac (List.length_set).symm) (Kh (i:=0) U (u:=(vs (some ⟨p,0,none⟩) ((d.set (o:Int).toNat (⟨((nth d (c+f)).fN),((nth d (c+f)).fD)⟩:z2)).length) j)) (yac (List.length_set).symm) (WL.nil (Lb (Ld (La U (La U (La U (WL.nil (Lq ?_)))))))))))))
          exact Ln ⟨(d.set (o:Int).toNat (⟨((nth d (c+f)).fN),((nth d (c+f)).fD)⟩:z2)),(i64 (o+1))⟩ ⟨h,((List.length_set).trans z)⟩ (.r4 U U U U)<|.cons .here .nil
         ·replace h:=ys h R
          refine WC.skip<|Lq ?_
          exact Ln ⟨d,o⟩ ⟨h,z⟩ (.r4 U U U U)<|.cons .here .nil
        ·rintro s v ⟨h,ak⟩
         replace h:=(aj s v).symm.trans h
         refine Ld<|La U<|La U<|La U<|WL.nil ?_
         exact WX.round ⟨ah,s,v,(i64 (f+1))⟩ ⟨h,ak⟩ (Nat.lt_succ_self _) (.r4 U U U U)<|.cons .here .nil
       ·replace h:=ys h Q
        refine WC.exit<|Lm<|Lm<|Lw ?_
        exact Ln ⟨d,o⟩ ⟨h,z⟩ (.r2 U U)<|.cons .here .nil
      ·rintro n q ⟨h,ap⟩
       replace h:=(ag n q).symm.trans h
       refine WC.b ?_
       obtain⟨M,h⟩:=yo h
       refine Ld<|La U<|La U<|WL.yk6 (dd:=56) U U z2r U U .here M ?_
       intro aq ar al
       let A:Value:=(vs (some ⟨p,0,none⟩) ((n.take (q:Int).toNat++List.replicate (n.length-(q:Int).toNat) ((⟨0,0⟩:z2):z2)).length) j);refine Lk U U (yhr (enc:=yx) (z0:=((⟨0,0⟩:z2):z2)) (l:=n) z2r zX U al M (fun _=>U) (by decide) U ye0 .here) (WL.relen .here (u:=A) (yac (ydc M).symm) (Kh (i:=0) U (u:=A) (yac (ydc M).symm) (WL.nil (Lb (WC.b ?_)))))
       obtain⟨am,h⟩:=yo h
       refine Ld<|La U<|La U (WL.yk5 (dd:=59) (enc:=yx) (ls:=n.take (q:Int).toNat++List.replicate (n.length-(q:Int).toNat) ((⟨0,0⟩:z2):z2)) U U z2r U U .here (fun _=>U) am fun an ao=>La U<|WL.nil<|Lb<|WC.ret<|Lt<|Lj<|Lj<|Lt<|Lj ?_)
       obtain rfl:=oJ h
       refine Lh results215 (.tmp U .nil)<|fun w hw=>?_
       exact⟨an,ao,yD U,trivial,hw.sub (.cons .here .nil)⟩
     ·replace h:=ys h P
      refine WC.skip<|Lq ?_
      exact Ln () h (.r2 U U)<|.cons .here .nil
    ·rintro  h
     replace h:=af.symm.trans h
     refine Ld<|La U<|La U<|La U<|WL.nil ?_
     exact WX.round ⟨ad,(i64 (c+1))⟩ h (Nat.lt_succ_self _) (.r2 U U)<|.cons .here .nil
   ·replace h:=ys h O
    refine WC.exit<|Lm<|Lm<|Lw ?_
    exact Ln () h (.cons U .nil)<|.cons .here .nil
  ·rintro  h
   replace h:=ab.symm.trans h
   refine WC.b<|Ld<|La U<|La U<|WL.nil<|Lb<|WC.ret ?_
   obtain rfl:=oJ h
   refine Lh results215 (.tmp U .nil)<|fun w hw=>?_
   exact⟨m,j,yD U,trivial,hw.sub (.cons .here .nil)⟩
def y1M(a:z6×z6)(b:List z2)(d:Int):Option (Bool×(Nat×List z2×Int)):=
 (y1w a.1.fBurst a.2.fBurst).bind fun g=>if decide (g<0) then(y26 (⟨d⟩:z1A) (fun(y0:z2) (y1:z2)=>y2z y0 y1) a.2.fBurst a.1.fBurst).bind fun e=>(y26 e.2 (fun(y0:z2) (y1:z2)=>y2z y0 y1) a.1.fRate a.2.fRate).bind fun f=>(y26 f.2 (fun(y0:z2) (y1:z2)=>y46 y0 y1) e.1 f.1).bind fun c=>chk (((b++([c.1]:List z2)).length:Int)*16<=140737488355328/\((b++([c.1]:List z2)).length:Int)<=4611686018427387904) (some (true,(0,(b++([c.1]:List z2)),c.2.fE))) else some (true,(0,b,d))
def y27(a:List z6):Option (List z2×Int):=
 (y4Y a).bind fun f=>if !f then some (([]:List z2),2) else(y7J a).bind fun b=>jp2 (fun(c:Int) (g:List z2)=>if decide (c≠0) then some (([]:List z2),c) else(y2g g (fun(y0:z2) (y1:z2)=>y1w y0 y1)).bind fun h=>(y2o h).bind fun i=>some (i,0)) fun j=>(y7b b b).bind fun d=>(y5m (Nat×List z2×Int) (fun(x:z6×z6) (s:Nat×List z2×Int)=>chk (s.1=0) (y1M x s.2.1 s.2.2)) (0,([]:List z2),0) d.1 d.2).bind fun e=>j e.2.2 e.2.1
theorem y83{Z:Zp}{r:List z2×Int}(h:y27 t=some r)(w₀:World)(hz:PZ [] w₀ Z)(ae:ZS Z 4 (fun r x=>r=y1O x) m j t):
  Calls Tryz.prog 199 #[(vs m t.length j)] w₀ fun e w'=>∃ af:Option Addr,∃ ag:Nat,e = .returned (.tuple #[(vs af r.1.length ag),(vi r.2)])/\True/\Hp [] w₀ w' [row (vs af r.1.length ag) 175 2 (r.1.flatMap yx)]:=by
 unfold y27 at h
 let P:Value:=(vs m t.length j);refine Calls.y9J (vs:=[P]) (pre:=[]) (env:=[(0,P)]) func199 U ntmps199 U (Hp.nil w₀ _) U ?_
 refine WC.pool<|WC.b<|Ld<|La U<|La U<|WL.nil<|Lb<|WC.b<|WC.b ?_
 obtain⟨aw,ax,h⟩:=za h
 refine Ld<|La U<|Ll 10 (zb call192<|.cons U .nil) .nil (ccz hz .nil .here fun w pz ho=>y8p ax w pz<|ae.mono<|Zle.left _ _)<|La U<|WL.nil<|Lb<|WC.cond U (fun aa=>?_)<|fun aa=>?_
 ·replace h:=yr h aa
  refine WC.b<|Ld<|La U<|La U<|WL.nil<|Lb<|WC.ret<|Lj<|WX.nilRow 175 2 ?_
  obtain rfl:=oJ h
  refine WX.ydd results199 (.tmp U<|.tmp U .nil)<|fun w hw=>?_
  exact⟨none,0,y1T U U,trivial,hw.sub (.cons .here .nil)⟩
 ·replace h:=ys h aa
  refine WC.skip<|Lb<|WC.b<|Ld (Lg 4 (yu (cs:=[(vi 0)]) zDe U) fun p _=>WL.nil<|Lb<|WC.b<|Ld (Lg 5 (yu (cs:=[vn]) zsD U) fun n _=>WL.nil<|Lb<|WC.b ?_))
  obtain⟨ay,az,h⟩:=za h
  refine Ld<|La U<|WL.y43 (dd:=13) U U U (zb call212<|.cons U .nil) .nil (ccz hz .nil .h2 fun w pz ho=>yhH az w pz<|ae.mono<|Zle.left _ _) ?_
  rintro aZ a0 _
  refine La U<|WL.nil<|Lb ?_
  obtain⟨aA,aB,h⟩:=y52 h
  refine WC.yix (fun(T:Nat) (y:Int) (u:List z2) (V:Zp) (z:Option Addr) (Q:Nat)=>(aA y u=some r)/\(Zle (Z++[]) (Z++V))) (fun(T:Nat) (y:Int) (u:List z2) (V:Zp) (z:Option Addr) (Q:Nat)=>[(4,(vp p)),(5,(vp n))]) (fun(T:Nat) (y:Int) (u:List z2) (V:Zp) (z:Option Addr) (Q:Nat)=>[fz V,stb p 307 [(vi y)],stb n 229 [(vs z u.length Q)],row (vs z u.length Q) 175 2 (u.flatMap yx),dfr T]) ?_ ?_
  ·skip
   refine WC.b<|WC.freezeS (ls:=ay) .here .h2 hz (RR.flat (enc:=y1O) (fun _=>U) _) ?_
   intro q aC ah
   obtain⟨X,aD,h⟩:=za h
   refine Ld<|La U<|La U<|WL.yk2 (dd:=16) U U U (zb call213<|.r2 U U) .nil (ccz hz .nil .here fun w pz ho=>yhg aD w pz ah ah) ?_
   rintro d k ai aj ak al ⟨aE,aF⟩
   refine WL.nil<|Lb<|WC.block<|WC.pool<|WC.drop (.s6 .here .h3 .h3 .here .here .here)<|WC.nilRow 175 2<|WC.rangeFunc (f:=226) (caps:=[(vp d),(vp k)]) U call226 ?_
   intro a1 a2 v o R Y aG aH w hw
   let O:Value:=(vs none (([]:List z2).length) 0);let A:List Asrt:=[fz [],stb n 229 [O],row O 175 2 (([]:List z2).flatMap yx),stb p 307 [(vi 0)],blk v (R .ready none)];have hw1:=hw.selAll ((.s5 .h3 .h3 .h2 .h2 .here):Sel _ A _)
   let C:List Value:=[(vs ai X.1.length aj)];let E:List Value:=[(vs ak X.2.length al)];let F:List Asrt:=[dfr o,stb d 227 C,stb k 227 E,fz q];let I:List Asrt:=[stb d 227 C,stb k 227 E];have pz:=(hz.call2 hw1 ((.cons .here .nil):Sel [y1N A,dfr o,stb d 227 C,stb k 227 E,fz q] [y1N A] F) .h3).lend hw1 ((.cons .here .nil):Sel [y1N A,dfr o,stb d 227 C,stb k 227 E,fz q] [y1N A] F) (B:=I) (fun _ hx'=>((.s2 .h1 .h1):Sel _ I _).mem hx')
   obtain⟨c,aI,h⟩:=za h
   refine Calls.mono (yfC (Z:=_) (zgh:=v) (z9k:=(Option Addr×Nat)) (z7e:=(fun(g:Option Addr×Nat) (s:Nat×List z2×Int)=>y1N ([fz [],stb n 229 [(vs g.1 s.2.1.length g.2)],row (vs g.1 s.2.1.length g.2) 175 2 (s.2.1.flatMap yx),stb p 307 [(vi s.2.2)]]++[blk v (R (rdy<|pcs [] s.1)<|pcs [] s.1)]))) (zbV:=(fun(g:Option Addr×Nat) (s:Nat×List z2×Int)=>True)) (zgi:=(none,0)) (zxm:=⟨d,0,none⟩) (zgj:=ai) (zgk:=aj) (zgl:=⟨k,0,none⟩) (zpK:=ak) (zpL:=al) (zQ:=(Nat×List z2×Int)) (z5N:=(fun(x:z6×z6) (s:Nat×List z2×Int)=>chk (s.1=0)<|y1M x s.2.1 s.2.2)) (z9V:=(0,([]:List z2),0)) (z1L:=X.1) (z2n:=X.2) (r:=c) w pz ?_ trivial (aE.mono<|Zle.left _ _) ((hw1.lent ((.cons .here .nil):Sel [y1N A,dfr o,stb d 227 C,stb k 227 E,fz q] [y1N A] F) (B:=I) (fun _ hx'=>((.s2 .h1 .h1):Sel _ I _).mem hx') (.head _) _).stb) (aF.mono<|Zle.left _ _) ((hw1.lent ((.cons .here .nil):Sel [y1N A,dfr o,stb d 227 C,stb k 227 E,fz q] [y1N A] F) (B:=I) (fun _ hx'=>((.s2 .h1 .h1):Sel _ I _).mem hx') (.tail _<|.head _) _).stb) aI<|hw1.owns ((.cons .here .nil):Sel [y1N A,dfr o,stb d 227 C,stb k 227 E,fz q] [y1N A] F)) ?_
   ·skip
    refine ybn (LI:=(fun(g:Option Addr×Nat) (s:Nat×List z2×Int)=>[fz [],stb n 229 [(vs g.1 s.2.1.length g.2)],row (vs g.1 s.2.1.length g.2) 175 2 (s.2.1.flatMap yx),stb p 307 [(vi s.2.2)]])) (pc:=(fun(s:Nat×List z2×Int)=>pcs [] s.1)) Y aG aH (fun _ _=>U) (by decide) ?_
    rintro a _ ⟨am,an⟩ ⟨aJ,S,ao⟩ aK aL Fb wb ap _ hz
    replace hz:=hz.left
    letI:Rnd:=inR v
    obtain⟨hp0,b⟩:=yo ap
    replace hp0:aJ=0:=hp0;subst hp0;clear ap
    replace b:y1M a S ao=some (aK,aL):=b
    unfold y1M at b
    let K:Value:=(vs am S.length an);let H:List Asrt:=[fz [],stb n 229 [K],row K 175 2 (S.flatMap yx),stb p 307 [(vi ao)],blk v (R .ready none)];refine WC.restr (env':=[(11,(.bool (!aw))),(4,(vp p)),(5,(vp n)),(17,(.agg #[(vi a.1.fBurst.fN),(vi a.1.fBurst.fD),(vi a.1.fRate.fN),(vi a.1.fRate.fD)])),(18,(.agg #[(vi a.2.fBurst.fN),(vi a.2.fBurst.fD),(vi a.2.fRate.fN),(vi a.2.fRate.fD)]))]) (.r5 U U U U U) (WC.eqL (L':=H) U (WC.b (Ld (Lg 7 (yu (cs:=[(vi 0),(vi 0),(vi 0),(vi 0)]) zaX U) ?_))))
    intro aM _
    refine Lk U U (yl z9C U U U .here U U U)<|WL.nil<|Lb<|Ld (Lg 8 (yu (cs:=[(vi 0),(vi 0),(vi 0),(vi 0)]) zaX U) fun aN _=>Lk U U (yl z9C U U U .here U U U)<|WL.nil<|WX.ycl Y .h6<|WC.block<|WC.b ?_)
    obtain⟨a5,aO,b⟩:=za b
    let M:List Value:=[(vi a.1.fBurst.fN),(vi a.1.fBurst.fD)];let N:List Value:=[(vi a.2.fBurst.fN),(vi a.2.fBurst.fD)];refine Ld (Le 19 (ya y5t U U) (Le 20 (yX (cs:=M) zg U U (y3w (s:=2) .h2 U)) (Le 21 (ya y5t U U) (Le 22 (yX (cs:=N) zg U U (y3w (s:=2) .h1 U)) (Ll 23 (zb call129 (.r2 U U)) .nil (ccz hz .nil .h3 fun w pz ho=>y4Z aO w pz ) (La U (WL.nil (Lb (WC.cond U (fun ab=>?_) (fun ab=>?_))))))))))
    ·replace b:=yr b ab
     obtain⟨a6,aP,b⟩:=za b
     obtain⟨a7,aQ,b⟩:=za b
     obtain⟨W,aR,b⟩:=za b
     obtain⟨aS,b⟩:=yo b
     refine Lx (fun i=>[5,10,11,13,14].contains i) [y8a n 229 [(0,K)],y8a aM 225 [(2,(vi a.1.fRate.fN)),(3,(vi a.1.fRate.fD))],y8a aN 225 [(2,(vi a.2.fRate.fN)),(3,(vi a.2.fRate.fD))]] U<|L6 0 25 U (Sin.wk (.s3 .h4 .h2 .h1)<|.stb (.cons U .nil)<|.stb (.cons U<|.cons U .nil)<|.stb (.cons U<|.cons U .nil) .nil) (yc z8U U<|y62 .here<|.head _)<|Lf 1 26 U (fun _=>ya y5t U U)<|Li 2 27 U (yX (cs:=N) zg U U<|y3w (s:=2) .h1 U)<|Lf 3 28 U (fun _=>ya y5t U U)<|Li 4 29 U (yX (cs:=M) zg U U<|y3w (s:=2) .h2 U)<|Lf 6 31 U (fun _=>ya y6p U U)<|L6 7 32 U (Sin.wk (.s3 .h4 .h2 .h1)<|.stb (.cons U .nil)<|.stb (.cons U<|.cons U .nil)<|.stb (.cons U<|.cons U .nil) .nil) (yX (cs:=[(vi a.1.fRate.fN),(vi a.1.fRate.fD)]) zg U U<|ycp .h1 ((.head _))<|(.tail _<|.head _))<|Lf 8 33 U (fun _=>ya y6p U U)<|L6 9 34 U (Sin.wk (.s3 .h4 .h2 .h1)<|.stb (.cons U .nil)<|.stb (.cons U<|.cons U .nil)<|.stb (.cons U<|.cons U .nil) .nil) (yX (cs:=[(vi a.2.fRate.fN),(vi a.2.fRate.fD)]) zg U U<|ycp .h2 ((.head _))<|(.tail _<|.head _)) (Ka (i:=5) (dd:=30) U (by kernel_rfl) U U U (.inl ⟨U,(Sin.wk (.s3 .h5 .h3 .h2)<|.stb (.cons U .nil)<|.stb (.cons U<|.cons U .nil)<|.stb (.cons U<|.cons U .nil) .nil)⟩) (zb call210<|.r4 U U U U) (.cons .h6 .nil) (ccz hz (.cons .h6 .nil) .h3 fun w pz ho=>Calls.mono (y6i _ _ (z9X:=124) (zeb:=[]) _ (zbW:=(fun(y0:z2) (y1:z2)=>y2z y0 y1)) _ _ _ aP w pz call124 (fun w' hz' y0 y1  r  hr=>ya1 hr w' hz' ) ho)<|fun _ _ h'=>⟨h'.1,trivial,h'.2⟩) fun _=>Ka (i:=10) (dd:=35) U (by kernel_rfl) U U U (.inl ⟨U,(Sin.wk (.s3 .h5 .h3 .h2)<|.stb (.cons U .nil)<|.stb (.cons U<|.cons U .nil)<|.stb (.cons U<|.cons U .nil) .nil)⟩) (zb call210<|.r4 U U U U) (.cons .here .nil) (ccz hz (.cons .here .nil) .h3 fun w pz ho=>Calls.mono (y6i _ _ (z9X:=124) (zeb:=[]) _ (zbW:=(fun(y0:z2) (y1:z2)=>y2z y0 y1)) _ _ _ aQ w pz call124 (fun w' hz' y0 y1  r  hr=>ya1 hr w' hz' ) ho)<|fun _ _ h'=>⟨h'.1,trivial,h'.2⟩) fun _=>Ka (i:=11) (dd:=36) U (by kernel_rfl) U U U (.inl ⟨U,(Sin.wk (.s3 .h5 .h3 .h2)<|.stb (.cons U .nil)<|.stb (.cons U<|.cons U .nil)<|.stb (.cons U<|.cons U .nil) .nil)⟩) (zb call210<|.r4 U U U U) (.cons .here .nil) (ccz hz (.cons .here .nil) .h3 fun w pz ho=>Calls.mono (y6i _ _ (z9X:=125) (zeb:=[]) _ (zbW:=(fun(y0:z2) (y1:z2)=>y46 y0 y1)) _ _ _ aR w pz call125 (fun w' hz' y0 y1  r  hr=>ygR hr w' hz' ) ho)<|fun _ _ h'=>⟨h'.1,trivial,h'.2⟩) ?_)
     intro _
     refine WD.new (i:=12) (dd:=37) U (by kernel_rfl) U U U (yT (cs:=([W.1]:List z2).flatMap yx) z2r (Lo (l:=[.tmp 36]) (.cons U .nil) [0]) (fun _=>by kernel_rfl) U (by unfold maxLen;omega)) (fun h'=>absurd h' (by decide)) fun a3 _=>WD.old (i:=13) (dd:=38) U (by kernel_rfl) U U U U (fun _=>(Sin.wk (.s3 .h7 .h5 .h4)<|.stb (.cons U .nil)<|.stb (.cons U<|.cons U .nil)<|.stb (.cons U<|.cons U .nil) .nil)) (y4W (enc:=yx) (l1:=S) (l2:=([W.1]:List z2)) z2r U U .h7 (fun _=>U) U U (y3q .here) (y5i ye0 _) aS) ?_
     rintro⟨aq,ar⟩ _
     refine Kc (i:=14) U (by kernel_rfl) U U U (by kernel_rfl) (yl zsE U U U .h7 U U U)<|WD.done (by kernel_rfl)<|Lq ?_
     obtain⟨rfl,rfl⟩:=yaP b
     let L:Value:=(vs aq ((S++([W.1]:List z2)).length) ar);exact WX.y6W Y .h4 (fun w' hw'=>⟨(aq,ar),U,trivial,(hw'.selAll ((.s5 .h7 .h1 .h1 .h2 .here):Sel _ [fz [],stb n 229 [L],row L 175 2 ((S++([W.1]:List z2)).flatMap yx),stb p 307 [(vi W.2.fE)],blk v (R .ready none)] _)).sub (.cons .here .nil)⟩)
    ·replace b:=ys b ab
     refine WC.skip<|Lq ?_
     obtain⟨rfl,rfl⟩:=yaP b
     exact WX.y6W Y .here<|fun w' hw'=>⟨(am,an),U,trivial,(hw'.selAll ((.s5 .h3 .h3 .h3 .h3 .here):Sel _ H _)).sub (.cons .here .nil)⟩
   ·skip
    rintro _ w' ⟨⟨au,av⟩,rfl,_,hp⟩
    have hp1:=hw1.call ((.cons .here .nil):Sel [y1N A,dfr o,stb d 227 C,stb k 227 E,fz q] [y1N A] F) hp
    let J:Value:=(vs au c.2.1.length av);have hp2:Hp _ _ w' [fz [],stb n 229 [J],row J 175 2 (c.2.1.flatMap yx),stb p 307 [(vi c.2.2)],blk v (R (rdy (pcs [] c.1)) (pcs [] c.1)),dfr o,stb d 227 C,stb k 227 E,fz q]:=hp1.pickAll .here
    refine⟨_,pcs [] c.1,_,U,(hp2.sub ((.s9 .h4 .here .here .here .here .here .here .here .here):Sel _ [blk v (R (rdy (pcs [] c.1)) (pcs [] c.1)),fz [],stb n 229 [J],row J 175 2 (c.2.1.flatMap yx),stb p 307 [(vi c.2.2)],dfr o,stb d 227 C,stb k 227 E,fz q] _)),?_⟩
    clear hp hp1 hp2 pz hw hw1
    refine wjN ?_
    letI:Rnd:=aft o
    refine WX.merge .here .h6<|Lq ?_
    exact WX.midR (D:=fun(g:Nat×Int×List z2×Zp×Option Addr×Nat)=>g.1) (G:=Nat×Int×List z2×Zp×Option Addr×Nat) ⟨o,c.2.2,c.2.1,(q++[]),au,av⟩ ⟨h,(aC.trans<|(Zle.left _ _).trans (Zle.yU _ _ _))⟩ (.r2 U U)<|.s5 .here .h2 .here .here .here
  ·rintro T y u V z Q ⟨h,a4⟩
   replace h:=(aB y u).symm.trans h
   letI:Rnd:=aft T
   refine WC.b<|WC.b<|Ld<|Le 39 (ya y9x U U)<|Le 40 (yc y3t U<|yh .h1 U)<|La U<|WL.nil<|Lb<|WC.cond U (fun ad=>?_)<|fun ad=>?_
   ·replace h:=yr h ad
    refine WC.b<|Lx (fun i=>[].contains i) [] U<|Lf 0 42 U (fun _=>ya y9x U U)<|Li 1 43 U (yc y3t U<|yh .h1 U)<|Lf 2 2 U (fun _=>q_z U)<|Lf 3 3 U (fun _=>q_z U)<|WD.done (by kernel_rfl)<|Lb<|WC.ret<|Lj<|WX.nilRow 175 2 ?_
    obtain rfl:=oJ h
    refine WX.y7D .h5 results199 (.tmp U<|.tmp U .nil)<|fun w hw=>?_
    exact⟨none,0,y1T U U,trivial,hw.sub (.cons .h1 .nil)⟩
   ·replace h:=ys h ad
    refine WC.skip<|Lb<|WC.b ?_
    obtain⟨aT,aU,h⟩:=za h
    refine Ld<|Le 44 (yc z8U U<|yh .h2 U)<|WL.y5c (dd:=45) U U U (zb call214<|.r2 U U) (.cons .h3 .nil) (ccz hz (.cons .h3 .nil) .here fun w pz ho=>y8l _ _ _ (ziZ:=129) (zpR:=[]) _ (ziY:=(fun(y0:z2) (y1:z2)=>y1w y0 y1)) _ aU w pz call129 (fun w' hz' y0 y1  r  hr=>y4Z hr w' hz' ) ho) ?_
    rintro  aV
    refine WL.restb (cs':=[(vs z aT.length Q)]) .h3 (by rw[aV])<|WL.nil<|Lb<|WC.b ?_
    obtain⟨a8,aW,h⟩:=za h
    refine Ld<|Le 46 (yc z8U U<|yh .here U)<|WL.y43 (dd:=47) U U U (zb call215<|.cons U .nil) (.cons .h1 .nil) (ccz hz (.cons .h1 .nil) .h1 fun w pz ho=>y8t aW w pz  ho) ?_
    rintro aX aY _
    refine La U<|La U<|WL.nil<|Lb<|WC.ret ?_
    obtain rfl:=oJ h
    refine WX.y7D .h4 results199 (.tmp U<|.tmp U .nil)<|fun w hw=>?_
    exact⟨aX,aY,y1T U U,trivial,hw.sub (.cons .h1 .nil)⟩
def y3T(a:z6)(b:z6):Option Int:=
 (y1w a.fRate b.fRate).bind fun c=>some c
theorem ygm{Z:Zp}{a:z6}{r:Int}(h:y3T l a=some r)(w₀:World)(hz:PZ [] w₀ Z):
  Calls Tryz.prog 217 #[(.agg #[(vi l.fBurst.fN),(vi l.fBurst.fD),(vi l.fRate.fN),(vi l.fRate.fD)]),(.agg #[(vi a.fBurst.fN),(vi a.fBurst.fD),(vi a.fRate.fN),(vi a.fRate.fD)])] w₀ fun e w'=>e = .returned (vi r)/\Hp [] w₀ w' []:=by
 unfold y3T at h
 refine Lz func217 ntmps217 ?_
 refine WC.b<|Ld (Lg 2 (yI (cs:=[(vi l.fBurst.fN),(vi l.fBurst.fD),(vi l.fRate.fN),(vi l.fRate.fD)]) U U) fun c _=>Lg 3 (yI (cs:=[(vi a.fBurst.fN),(vi a.fBurst.fD),(vi a.fRate.fN),(vi a.fRate.fD)]) U U) fun d _=>La U<|WL.nil<|Lb<|WC.b ?_)
 obtain⟨f,b,h⟩:=za h
 refine Ld<|Le 5 (ya y6p U U)<|Le 6 (yX (cs:=[(vi l.fRate.fN),(vi l.fRate.fD)]) zg U U<|y3w (s:=2) .h1 U)<|Le 7 (ya y6p U U)<|Le 8 (yX (cs:=[(vi a.fRate.fN),(vi a.fRate.fD)]) zg U U<|y3w (s:=2) .here U)<|Ll 9 (zb call129<|.r2 U U) .nil (cc hz .nil fun w pz ho=>y4Z b w pz )<|La U<|WL.nil<|Lb<|WC.ret ?_
 obtain rfl:=oJ h
 refine Lh results217 (.tmp U .nil)<|fun w hw=>?_
 exact⟨yD U,hw.sub .nil⟩
def y19(b:List z6)(z9m:z6->z6->Option Int)(g:Int->Int->Int->Int->Option z6):Nat->Int->Int->Int->Int->Int->Option z6
 | 0,_,_,_,_,_=>none
 | i+1,a,c,d,e,f=>if decide (a<(b.length:Int)) then jp4 (fun(j:Int) (k:Int) (l:Int) (m:Int)=>y19 b z9m g i (i64 (a+1)) j k l m) fun h=>chk ((0:Int)<=a/\a<(b.length:Int)) ((z9m (⟨(⟨(((nth b a).fBurst).fN),(((nth b a).fBurst).fD)⟩:z2),(⟨(((nth b a).fRate).fN),(((nth b a).fRate).fD)⟩:z2)⟩:z6) (⟨(⟨c,d⟩:z2),(⟨e,f⟩:z2)⟩:z6)).bind fun n=>if decide (n<0) then chk ((0:Int)<=a/\a<(b.length:Int)) (h (((nth b a).fBurst).fN) (((nth b a).fBurst).fD) (((nth b a).fRate).fN) (((nth b a).fRate).fD)) else h c d e f) else g c d e f
def y1X(a:List z6)(z9m:z6->z6->Option Int):Option z6:=
 if decide ((a.length:Int)<1) then none else chk ((0:Int)<=0/\0<(a.length:Int)) (jp4 (fun(b:Int) (c:Int) (d:Int) (e:Int)=>some (⟨(⟨b,c⟩:z2),(⟨d,e⟩:z2)⟩:z6)) fun f=>y19 a z9m f yy 1 (((nth a 0).fBurst).fN) (((nth a 0).fBurst).fD) (((nth a 0).fRate).fN) (((nth a 0).fRate).fD))
theorem y7w(Z:Zp)(B:Option Addr)(E:Nat)(zek:FuncId)(zj9:List Value)(a:List z6)(z9m:z6->z6->Option Int)(r:z6)(h:y1X a z9m=some r)(w₀:World)(hz:PZ [] w₀ Z)(F:ZS Z 4 (fun r x=>r=y1O x) B E a)(K:∀ args w,(callFunc zek args).run Tryz.prog w = .ok (.enter zek args) w)(L:∀ w:World,PZ [] w Z->∀(x0:z6) (x1:z6) (r:Int),z9m x0 x1=some r->Calls Tryz.prog zek (([(.agg #[(vi x0.fBurst.fN),(vi x0.fBurst.fD),(vi x0.fRate.fN),(vi x0.fRate.fD)]),(.agg #[(vi x1.fBurst.fN),(vi x1.fBurst.fD),(vi x1.fRate.fN),(vi x1.fRate.fD)])]:List Value)++zj9).toArray w fun e w'=>e = .returned (vi r)/\Hp [] w w' []):
  Calls Tryz.prog 216 #[(vs B a.length E),(.func (.func zek) #[] (zj9).toArray)] w₀ fun e w'=>e = .returned (.agg #[(vi r.fBurst.fN),(vi r.fBurst.fD),(vi r.fRate.fN),(vi r.fRate.fD)])/\Hp [] w₀ w' []:=by
 unfold y1X at h
 refine Lz func216 ntmps216 ?_
 let A:List Value:=[(vi 0),(vi 0),(vi 0),(vi 0)];refine WC.b (Ld (Lg 4 (yu (cs:=A) zaX U) ?_))
 intro q _
 refine WL.nil<|Lb<|WC.b<|WC.b<|Ld<|La U<|Le 8 (yJ underlying227 U)<|La U<|WL.nil<|Lb<|WC.cond U (fun G=>?_)<|fun G=>?_
 ·replace h:=yr h G
  cases h
 ·replace h:=ys h G
  refine WC.skip<|Lb<|WC.b ?_
  obtain⟨M,h⟩:=yo h
  refine Ld<|La U<|L0 (dd:=12) U U (Z:=Z) (Pr:=(fun r x=>r=y1O x)) z7A U U F M ?_
  rintro aa ab N ad rfl
  refine Le 13 (yi z38 U (y2j hz.pv N) U) (Lg 5 (yu (cs:=A) zaX U) fun s _=>Lk U U (yl z9C U U U .here U U U)<|WL.nil<|Lb ?_)
  obtain⟨J,O,h⟩:=yhq h
  refine WC.yar (fun(t:Int) (u:Int) (v:Int) (y:Int)=>(J t u v y=some r)) (fun t u v y=>[(4,(vp q)),(5,(vp s))]) (fun t u v y=>[stb q 225 A,stb s 225 [(vi t),(vi u),(vi v),(vi y)]]) ?_ ?_
  ·skip
   let C:Value:=(.func (.func zek) #[] (zj9).toArray);let D:Value:=(vs B a.length E);refine WC.b (Ld (La U (WL.nil (Lb (WC.block (WC.yaN (fun(z:Nat) (b:Int) (c:Int) (d:Int) (g:Int) (k:Int)=>(y19 a z9m J z b c d g k=some r)) (fun z b c d g k=>[(0,D),(1,C),(4,(vp q)),(5,(vp s)),(6,(vi b))]) (fun z b c d g k=>[stb q 225 A,stb s 225 [(vi c),(vi d),(vi g),(vi k)]]) (fun z b c d g k=>z) ⟨yy,1,(((nth a 0).fBurst).fN),(((nth a 0).fBurst).fD),(((nth a 0).fRate).fN),(((nth a 0).fRate).fD)⟩ h (.r5 U U U U U) (.s2 .h1 .here) ?_))))))
   rintro(_|P) b c d g k h;·cases h
   rw[y19] at h
   refine WC.b<|WC.b<|Ld<|La U<|La U<|Le 16 (yJ underlying227 U)<|La U<|WL.nil<|Lb<|WC.cond U (fun H=>?_)<|fun H=>?_
   ·replace h:=yr h H
    refine WC.skip<|Lb ?_
    obtain⟨Q,R,h⟩:=yhq h
    refine WC.yar (fun(m:Int) (n:Int) (o:Int) (p:Int)=>(Q m n o p=some r)) (fun m n o p=>[(0,D),(1,C),(4,(vp q)),(5,(vp s)),(6,(vi b))]) (fun m n o p=>[stb q 225 A,stb s 225 [(vi m),(vi n),(vi o),(vi p)]]) ?_ ?_
    ·skip
     refine WC.block<|WC.b ?_
     obtain⟨S,h⟩:=yo h
     obtain⟨T,V,h⟩:=za h
     refine Lx (fun i=>[].contains i) [] U<|Lf 0 20 U (fun _=>q_m U)<|Lf 1 21 U (fun _=>q_m U)<|Lf 2 22 U (fun _=>q_m U)<|L7 (j:=3) (dd:=23) (by kernel_rfl) U z2k z2l U U (Z:=Z) (Pr:=(fun r x=>r=y1O x)) z7A U U F S ?_
     rintro ae af W ag rfl
     refine Li 4 24 U (yi z38 U (y2j hz.pv W) U)<|Li 5 25 U (yi z38 U (yj .h1) U)<|L4 6 26 U (y2M (l:=[.tmp 24,.tmp 25]) (f:=zek) (caps:=zj9) K U<|.r2 U U) (fun w hw=>L w (hz.now hw) (⟨(⟨(((nth a b).fBurst).fN),(((nth a b).fBurst).fD)⟩:z2),(⟨(((nth a b).fRate).fN),(((nth a b).fRate).fD)⟩:z2)⟩:z6) (⟨(⟨c,d⟩:z2),(⟨g,k⟩:z2)⟩:z6) T  V)<|Lf 7 27 U (fun _=>q_lss U U)<|WD.done (by kernel_rfl)<|Lb<|WC.cond U (fun I=>?_)<|fun I=>?_
     ·replace h:=yr h I
      obtain⟨X,h⟩:=yo h
      refine Ld<|La U<|La U<|L0 (dd:=30) U U (Z:=Z) (Pr:=(fun r x=>r=y1O x)) z7A U U F X ?_
      rintro ah ai Y aj rfl
      refine Le 31 (yi z38 U (y2j hz.pv Y) U)<|Lk U U (yl z9C U U U .h1 U U U)<|WL.nil<|Lq ?_
      exact Ln ⟨(((nth a b).fBurst).fN),(((nth a b).fBurst).fD),(((nth a b).fRate).fN),(((nth a b).fRate).fD)⟩ h (.r5 U U U U U)<|.s2 .h1 .here
     ·replace h:=ys h I
      refine WC.skip<|Lq ?_
      exact Ln ⟨c,d,g,k⟩ h (.r5 U U U U U)<|.a2
    ·rintro m n o p h
     replace h:=(R m n o p).symm.trans h
     refine Ld<|La U<|La U<|La U<|WL.nil ?_
     exact WX.round ⟨P,(i64 (b+1)),m,n,o,p⟩ h (Nat.lt_succ_self _) (.r5 U U U U U)<|.a2
   ·replace h:=ys h H
    refine WC.exit<|Lm<|Lm<|Lw ?_
    exact Ln ⟨c,d,g,k⟩ h (.r2 U U)<|.a2
  ·rintro t u v y h
   replace h:=(O t u v y).symm.trans h
   refine WC.b<|Ld<|Le 32 (yi z38 U (yj .h1) U)<|Lk U U (yl z9C U U U .here U U U)<|WL.nil<|Lb<|WC.ret ?_
   obtain rfl:=oJ h
   refine Lh results216 (.agg U z38 U (yj .here) .nil)<|fun w hw=>?_
   exact⟨yD U,hw.sub .nil⟩
def y5d(a:List z6):Option (z2×Int):=
 (y4Y a).bind fun b=>if !b then some ((⟨0,0⟩:z2),2) else(y1X a (fun(y0:z6) (y1:z6)=>y3T y0 y1)).bind fun c=>some (c.fRate,0)
theorem ydq{Z:Zp}{r:z2×Int}(h:y5d t=some r)(w₀:World)(hz:PZ [] w₀ Z)(b:ZS Z 4 (fun r x=>r=y1O x) m j t):
  Calls Tryz.prog 200 #[(vs m t.length j)] w₀ fun e w'=>e = .returned (.tuple #[(.agg #[(vi r.1.fN),(vi r.1.fD)]),(vi r.2)])/\Hp [] w₀ w' []:=by
 unfold y5d at h
 refine L5 func200 ntmps200 ?_
 refine WC.b<|Ld (Lg 2 (yu (cs:=[(vi 0),(vi 0)]) zX U) fun g _=>La U<|WL.nil<|Lb<|WC.b<|WC.b ?_)
 obtain⟨i,d,h⟩:=za h
 refine Ld<|La U<|Ll 5 (zb call192<|.cons U .nil) .nil (cc hz .nil fun w pz ho=>y8p d w pz b)<|La U<|WL.nil<|Lb<|WC.cond U (fun a=>?_)<|fun a=>?_
 ·replace h:=yr h a
  refine WC.b<|Ld<|Le 7 (yN (v:=(.agg #[(vi 0),(vi 0)])) (Lo (l:=[]) .nil []) (fun _=>by kernel_rfl))<|Lk U U (yl zy U U U .here U U U)<|La U<|WL.nil<|Lb<|WC.ret<|Lj ?_
  obtain rfl:=oJ h
  refine Lh results200 (.agg U zg U (yj .here)<|.tmp U .nil)<|fun w hw=>?_
  exact⟨y1T U U,hw.sub .nil⟩
 ·replace h:=ys h a
  refine WC.skip<|Lb<|WC.b ?_
  obtain⟨c,f,h⟩:=za h
  refine Ld<|La U<|Ll 9 (zb call216<|.r2 U U) .nil (cc hz .nil fun w pz ho=>y7w _ _ _ (zek:=217) (zj9:=[]) _ (z9m:=(fun(y0:z6) (y1:z6)=>y3T y0 y1)) _ f w pz b call217<|fun w' hz' y0 y1  r  hr=>ygm hr w' hz' )<|Le 10 (q_fieldA (cs':=#[(vi c.fRate.fN),(vi c.fRate.fD)]) yjJ zg U U)<|Lk U U (yl zy U U U .here U U U)<|La U<|WL.nil<|Lb<|WC.ret ?_
  obtain rfl:=oJ h
  refine Lh results200 (.agg U zg U (yj .here)<|.tmp U .nil)<|fun w hw=>?_
  exact⟨y1T U U,hw.sub .nil⟩
def y1c(b:z1A)(z7P:z2->z2->Option (z2×Int))(c:z2)(d:z2):Option (z2×z1A):=
 if decide (b.fE≠0) then(y38).bind fun e=>some (e,b) else(z7P c d).bind fun a=>if decide (a.2≠0) then(y38).bind fun f=>some (f,(⟨a.2⟩:z1A)) else some (a.1,(⟨a.2⟩:z1A))
theorem y2R(Z:Zp)(a:Nat)(z7f:FuncId)(z8m:List Value)(d:z1A)(z7P:z2->z2->Option (z2×Int))(b:z2)(c:z2)(r:z2×z1A)(h:y1c d z7P b c=some r)(w₀:World)(hz:PZ (fps [stb a 277 [(vi d.fE)]]) w₀ Z)(j:∀ args w,(callFunc z7f args).run Tryz.prog w = .ok (.enter z7f args) w)(k:∀ w:World,PZ [] w Z->∀(x0:z2) (x1:z2) (r:z2×Int),z7P x0 x1=some r->Calls Tryz.prog z7f (([(.agg #[(vi x0.fN),(vi x0.fD)]),(.agg #[(vi x1.fN),(vi x1.fD)])]:List Value)++z8m).toArray w fun e w'=>e = .returned (.tuple #[(.agg #[(vi r.1.fN),(vi r.1.fD)]),(vi r.2)])/\Hp [] w w' [])(hown:Hp (fps [stb a 277 [(vi d.fE)]]) w₀ w₀ [stb a 277 [(vi d.fE)]]):
  Calls Tryz.prog 123 #[(vp a),(.func (.func z7f) #[] (z8m).toArray),(.agg #[(vi b.fN),(vi b.fD)]),(.agg #[(vi c.fN),(vi c.fD)])] w₀ fun e w'=>e = .returned (.agg #[(vi r.1.fN),(vi r.1.fD)])/\Hp (fps [stb a 277 [(vi d.fE)]]) w₀ w' [stb a 277 [(vi r.2.fE)]]:=by
 unfold y1c at h
 refine Calls.oh4 func123 ntmps123 hown ?_
 refine WC.b<|Ld (Lg 6 (yI (cs:=[(vi b.fN),(vi b.fD)]) U U) fun q _=>Lg 7 (yI (cs:=[(vi c.fN),(vi c.fD)]) U U) fun s _=>Lg 8 (yu (cs:=[(vi 0),(vi 0)]) zX U) fun t _=>WL.nil<|Lb<|WC.b<|WC.b<|Ld<|La U<|Le 12 (y1d U)<|Le 13 (ya y5u U U)<|Le 14 (yc y3t U<|yh .h3 U)<|La U<|WL.nil<|Lb<|WC.cond U (fun g=>?_)<|fun g=>?_)
 ·replace h:=yr h g
  refine WC.b ?_
  obtain⟨v,m,h⟩:=za h
  refine Ld<|Ll 16 (zb call161 .nil) .nil (cc hz .nil fun w pz ho=>y4O m w pz )<|Lk U U (yl zy U U U .here U U U)<|WL.nil<|Lb<|WC.ret<|Lj ?_
  obtain rfl:=oJ h
  refine Lh results123 (.agg U zg U (yj .here) .nil)<|fun w hw=>?_
  exact⟨yD U,hw.sub (.cons .h3 .nil)⟩
 ·replace h:=ys h g
  refine WC.skip<|Lb<|WC.b ?_
  obtain⟨n,o,h⟩:=za h
  refine Ld<|La U<|Le 19 (yi zg U (yj .h2) U)<|Le 20 (yi zg U (yj .h1) U)<|Ll 21 (y2M (l:=[.tmp 19,.tmp 20]) (f:=z7f) (caps:=z8m) j U<|.r2 U U) .nil (fun w hw=>k w (hz.now hw) b c n  o)<|La U<|La U<|La U (Lg 9 (yu (cs:=[(vi 0),(vi 0)]) zX U) fun u _=>Lk U U (yl zy U U U .here U U U)<|La U<|WL.nil<|Lb<|WC.b<|WC.b<|Ld<|La U<|La U<|Le 26 (y1d U)<|Le 27 (ya y5u U U)<|Lk U U (yl ybP U U U .h4 U U U)<|WL.nil<|Lb<|WC.b<|Ld<|La U<|La U<|WL.nil<|Lb<|WC.cond U (fun i=>?_)<|fun i=>?_)
  ·replace h:=yr h i
   refine WC.b ?_
   obtain⟨x,p,h⟩:=za h
   refine Ld<|Ll 30 (zb call161 .nil) .nil (cc hz .nil fun w pz ho=>y4O p w pz )<|Lk U U (yl zy U U U .h2 U U U)<|WL.nil<|Lb<|WC.ret<|Lj ?_
   obtain rfl:=oJ h
   refine Lh results123 (.agg U zg U (yj .here) .nil)<|fun w hw=>?_
   exact⟨yD U,hw.sub (.cons .h1 .nil)⟩
  ·replace h:=ys h i
   refine WC.skip<|Lb<|WC.b<|Ld<|Le 31 (yi zg U (yj .h1) U)<|Lk U U (yl zy U U U .h2 U U U)<|WL.nil<|Lb<|WC.ret ?_
   obtain rfl:=oJ h
   refine Lh results123 (.agg U zg U (yj .here) .nil)<|fun w hw=>?_
   exact⟨yD U,hw.sub (.cons .h1 .nil)⟩
def y2a(b:List (List z6))(d:Int->Int->Int->Option Int):Nat->Int->Int->Int->Int->Option Int
 | 0,_,_,_,_=>none
 | i+1,a,e,f,g=>if decide (a<(b.length:Int)) then chk ((0:Int)<=a/\a<(b.length:Int)) ((y27 (nth b a)).bind fun h=>if decide (h.2≠0) then some h.2 else(y5d (nth b a)).bind fun j=>(y1c (⟨e⟩:z1A) (fun(y0:z2) (y1:z2)=>y1q y0 y1) (⟨f,g⟩:z2) j.1).bind fun c=>y2a b d i (i64 (a+1)) c.2.fE c.1.fN c.1.fD) else d e f g
def y3W(a:List (List z6))(b:zSv)(n:List (List z6))(o:zSv)(p:List z2):Option Int:=
 (if decide ((a.length:Int)>32) then some true else(y1i a (fun(y0:List z6)=>y1E y0)).bind fun e=>some e).bind fun f=>(if f then some true else(y56 b).bind fun g=>some (!g)).bind fun h=>if h then some 2 else(y38).bind fun c=>jp3 (fun(d:Int) (i:Int) (j:Int)=>(if decide (d=0) then(y1w (⟨i,j⟩:z2) b.fRate).bind fun k=>some (decide (k>0)) else some false).bind fun l=>if l then some 6 else some d) fun m=>y2a a m yy 0 0 c.fN c.fD
theorem ybh{Z:Zp}{r:Int}(h:y3W p k F z g=some r)(w₀:World)(hz:PZ [] w₀ Z)(P:ZS Z 1 (y29 Z) m j p)(aq:ZS Z 1 (y29 Z) H y F)(ar:ZC Z u [(vs H F.length y)])(au:ZC Z v [(vi z.fRate.fN),(vi z.fRate.fD),(vi z.fL.fN),(vi z.fL.fD)])(av:ZS Z 2 (fun r x=>r=yx x) D E g):
  Calls Tryz.prog 163 #[(.agg #[(vs m p.length j),(vi k.fRate.fN),(vi k.fRate.fD),(vi k.fL.fN),(vi k.fL.fD),(.func (.func 122) #[] #[(vq u),(vq v)]),(vs D g.length E)])] w₀ fun e w'=>e = .returned (vi r)/\Hp [] w₀ w' []:=by
 unfold y3W at h
 refine L5 func163 ntmps163 ?_
 let C:Value:=(vs m p.length j);let A:List Value:=[C,(vi k.fRate.fN),(vi k.fRate.fD),(vi k.fL.fN),(vi k.fL.fD),(.func (.func 122) #[] #[(vq u),(vq v)]),(vs D g.length E)];refine WC.b (Ld (Lg 1 (yI (cs:=A) U U) ?_))
 intro G _
 refine La U<|WL.nil<|Lb<|WC.b<|WC.b ?_
 obtain⟨X,Q,h⟩:=za h
 obtain⟨Y,R,h⟩:=za h
 refine Ld<|Le 11 (ya y7H U U)<|Le 12 (yc z88 U<|yh .here U)<|Le 13 (yJ underlying171 U)<|La U<|La U<|Lu false 3 15 (B:=X) U U U U U U (fun h=>(oJ<|yr Q h).symm) (fun _ aa=>?_) ?_
 ·skip
  have n:=ys Q aa
  obtain⟨aE,ab,n⟩:=za n
  replace n:=oJ n
  refine Le 16 (ya y7H U U)<|Le 17 (yc z88 U<|yh .here U)<|Ll 18 (zb call196<|.r2 U U) .nil (cc hz .nil fun w pz ho=>y4J _ _ _ (zg9:=197) (zmf:=[]) _ (zg8:=(fun(y0:List z6)=>y1E y0)) _ ab w pz P call197<|fun w' hz' y0 ga0 gc0 r gh0 hr=>y7t hr w' hz' gh0)<|La U ?_
  exact Lv n U U .all
 refine La U<|Lu false 4 20 (B:=Y) U U U U U U (fun h=>(oJ<|yr R h).symm) (fun _ ad=>?_) ?_
 ·skip
  have o:=ys R ad
  obtain⟨aF,ae,o⟩:=za o
  replace o:=oJ o
  refine Le 21 (ya ycr U U)<|Le 22 (yX (cs:=[(vi k.fRate.fN),(vi k.fRate.fD),(vi k.fL.fN),(vi k.fL.fD)]) zht U U<|y3w (s:=4) .here U)<|Ll 23 (zb call198<|.cons U .nil) .nil (cc hz .nil fun w pz ho=>yaY ae w pz )<|La U<|La U ?_
  exact Lv o U U .all
 refine WL.nil<|Lb<|WC.cond U (fun K=>?_)<|fun K=>?_
 ·replace h:=yr h K
  refine WC.b<|Ld<|La U<|WL.nil<|Lb<|WC.ret<|Lj ?_
  obtain rfl:=oJ h
  refine Lh results163 (.tmp U .nil)<|fun w hw=>?_
  exact⟨yD U,hw.sub .nil⟩
 ·replace h:=ys h K
  refine WC.skip<|Lb<|WC.b<|Ld (Lg 3 (yu (cs:=[(vi 0)]) zoC U) fun I _=>WL.nil<|Lb<|WC.b ?_)
  obtain⟨S,af,h⟩:=za h
  refine Ld<|Ll 26 (zb call161 .nil) .nil (cc hz .nil fun w pz ho=>y4O af w pz ) (Lg 4 (yu (cs:=[(vi 0),(vi 0)]) zX U) fun J _=>Lk U U (yl zy U U U .here U U U)<|WL.nil<|Lb ?_)
  obtain⟨T,ag,h⟩:=y9k h
  refine Kb (fun(f:Int) (i:Int) (l:Int)=>(T f i l=some r)) (fun f i l=>[(1,(vp G)),(3,(vp I)),(4,(vp J))]) (fun f i l=>[stb G 231 A,stb I 277 [(vi f)],stb J 175 [(vi i),(vi l)]]) ?_ ?_
  ·skip
   refine WC.b<|Ld<|Le 27 (ya y7H U U)<|Le 28 (yc z88 U<|yh .h2 U)<|Le 29 (yJ underlying171 U)<|La U<|WL.nil<|Lb<|WC.block<|WC.y7B (fun(q:Nat) (a:Int) (b:Int) (c:Int) (d:Int)=>(y2a p T q a b c d=some r)) (fun q a b c d=>[(1,(vp G)),(3,(vp I)),(4,(vp J)),(28,C),(29,(vi (p.length:Int))),(30,(vi a))]) (fun q a b c d=>[stb G 231 A,stb I 277 [(vi b)],stb J 175 [(vi c),(vi d)]]) (fun q a b c d=>q) ⟨yy,0,0,S.fN,S.fD⟩ h (.r6 U U U U U U) (.s3 .h2 .h1 .here) ?_
   rintro(_|ah) a b c d h;·cases h
   rw[y2a] at h
   refine WC.b<|Ld<|La U<|WL.nil<|Lb<|WC.b<|WC.cond U (fun L=>?_)<|fun L=>?_
   ·replace h:=yr h L
    refine WC.skip<|Lb<|WC.b<|WC.block<|WC.b ?_
    obtain⟨ai,h⟩:=yo h
    refine Ld<|L0 (dd:=32) U U (Z:=Z) (Pr:=(y29 Z)) z8T U U P ai ?_
    rintro aw ax aj ay ⟨az,aA,rfl,V⟩
    refine Le 33 (yc zda U<|y3x hz.pv aj U)<|La U<|WL.nil<|Lb<|WC.b<|WC.b ?_
    obtain⟨aG,ak,h⟩:=za h
    refine Ld<|La U<|WL.y43 (dd:=36) U U U (zb call199<|.cons U .nil) .nil (cc hz .nil fun w pz ho=>y83 ak w pz V) ?_
    rintro aB aC _
    refine La U<|La U<|La U<|La U<|La U<|WL.nil<|Lb<|WC.b<|Ld<|La U<|La U<|WL.nil<|Lb<|WC.cond U (fun M=>?_)<|fun M=>?_
    ·replace h:=yr h M
     refine WC.b<|Ld<|La U<|La U<|WL.nil<|Lb<|WC.ret<|Lj<|Lt<|Lj<|Lj<|Lt<|Lj ?_
     obtain rfl:=oJ h
     refine Lh results163 (.tmp U .nil)<|fun w hw=>?_
     exact⟨yD U,hw.sub .nil⟩
    ·replace h:=ys h M
     refine WC.skip<|Lb<|WC.b ?_
     obtain⟨aH,al,h⟩:=za h
     refine Ld<|La U<|Ll 44 (zb call200<|.cons U .nil) .nil (cc hz .nil fun w pz ho=>ydq al w pz V)<|La U<|La U<|La U (Lg 9 (yu (cs:=[(vi 0),(vi 0)]) zX U) fun aD _=>Lk U U (yl zy U U U .here U U U)<|La U<|WL.nil<|Lb ?_)
     obtain⟨N,am,h⟩:=za h
     refine Ld<|Le 47 (yi zg U (yj .h4) U)<|Le 48 (yi zg U (yj .here) U)<|Ll 49 (zb call123<|.r4 U U U U) (.cons .h3 .nil) (cc hz (.cons .h3 .nil) fun w pz ho=>y2R _ _ (z7f:=119) (z8m:=[]) _ (z7P:=(fun(y0:z2) (y1:z2)=>y1q y0 y1)) _ _ _ am w pz call119 (fun w' hz' y0 y1  r  hr=>y6U hr w' hz' ) ho)<|Lk U U (yl zy U U U .h4 U U U)<|WL.nil<|Lq<|Lb<|Ld<|La U<|La U<|WL.nil ?_
     exact WX.round ⟨ah,(i64 (a+1)),N.2.fE,N.1.fN,N.1.fD⟩ h (Nat.lt_succ_self _) (.r6 U U U U U U)<|.s3 .h4 .h1 .here
   ·replace h:=ys h L
    refine WC.exit<|Lm<|Lm<|Lw ?_
    exact Ln ⟨b,c,d⟩ h (.r3 U U U)<|.a3
  ·rintro f i l h
   replace h:=(ag f i l).symm.trans h
   refine WC.b<|WC.b ?_
   obtain⟨an,W,h⟩:=za h
   refine Ld<|Le 51 (ya y5u U U)<|Le 52 (yc y3t U<|yh .h1 U)<|La U<|La U<|Lu true 6 54 (B:=an) U U U U U U (fun h=>(oJ<|ys W h).symm) (fun _ ao=>?_) ?_
   ·skip
    have t:=yr W ao
    obtain⟨aI,ap,t⟩:=za t
    replace t:=oJ t
    refine Le 55 (yi zg U (yj .h2) U)<|Le 56 (ya ycr U U)<|Le 57 (ya y9v U U)<|Le 58 (yX (cs:=[(vi k.fRate.fN),(vi k.fRate.fD)]) zg U U<|y3w (s:=2) .here U)<|Ll 59 (zb call129<|.r2 U U) .nil (cc hz .nil fun w pz ho=>y4Z ap w pz )<|La U<|La U ?_
    exact Lv t U U .all
   refine WL.nil<|Lb<|WC.cond U (fun O=>?_)<|fun O=>?_
   ·replace h:=yr h O
    refine WC.b<|Ld<|La U<|WL.nil<|Lb<|WC.ret<|Lj ?_
    obtain rfl:=oJ h
    refine Lh results163 (.tmp U .nil)<|fun w hw=>?_
    exact⟨yD U,hw.sub .nil⟩
   ·replace h:=ys h O
    refine WC.skip<|Lb<|WC.b<|Ld<|Le 62 (ya y5u U U)<|Le 63 (yc y3t U<|yh .h1 U)<|La U<|WL.nil<|Lb<|WC.ret ?_
    obtain rfl:=oJ h
    refine Lh results163 (.tmp U .nil)<|fun w hw=>?_
    exact⟨yD U,hw.sub .nil⟩
def y4Q(b:List (List z6))(a:zSv)(c:List (List z6))(d:zSv)(e:List z2):Option (Int×Int×Int×Int):=
 some (a.fRate.fN,a.fRate.fD,a.fL.fN,a.fL.fD)
theorem yaZ{Z:Zp}{r:Int×Int×Int×Int}(h:y4Q p k F z g=some r)(w₀:World)(hz:PZ [] w₀ Z)(c:ZS Z 1 (y29 Z) m j p)(d:ZS Z 1 (y29 Z) H y F)(f:ZC Z u [(vs H F.length y)])(i:ZC Z v [(vi z.fRate.fN),(vi z.fRate.fD),(vi z.fL.fN),(vi z.fL.fD)])(n:ZS Z 2 (fun r x=>r=yx x) D E g):
  Calls Tryz.prog 164 #[(.agg #[(vs m p.length j),(vi k.fRate.fN),(vi k.fRate.fD),(vi k.fL.fN),(vi k.fL.fD),(.func (.func 122) #[] #[(vq u),(vq v)]),(vs D g.length E)])] w₀ fun e w'=>∃ a:Nat,e = .returned (.func (.func 201) #[] #[(vp a)])/\True/\Hp [] w₀ w' [stb a 231 [(vs m p.length j),(vi r.1),(vi r.2.1),(vi r.2.2.1),(vi r.2.2.2),(.func (.func 122) #[] #[(vq u),(vq v)]),(vs D g.length E)]]:=by
 unfold y4Q at h
 refine L5 func164 ntmps164 ?_
 refine WC.b<|Ld (Lg 1 (yI (cs:=[(vs m p.length j),(vi k.fRate.fN),(vi k.fRate.fD),(vi k.fL.fN),(vi k.fL.fD),(.func (.func 122) #[] #[(vq u),(vq v)]),(vs D g.length E)]) U U) fun b _=>La U<|WL.nil<|Lb<|WC.b<|Ld<|Le 3 (y15<|L2 (l:=[.tmp 1])<|.cons U .nil)<|La U<|WL.nil<|Lb<|WC.ret ?_)
 obtain rfl:=oJ h
 refine Lh results164 (.tmp U .nil)<|fun w hw=>?_
 exact⟨b,yD U,trivial,hw.sub (.cons .here .nil)⟩
def y1S(a:z2):Option Int:=
 (y1Y a).bind fun c=>if !c then some 0 else chk ((a.fD:Int)≠0) (jp1 (fun(d:Int)=>some d) fun b=>chk ((a.fD:Int)≠0) (if decide ((Int.tmod a.fN a.fD)<0) then b (i64 ((i64 (Int.tdiv a.fN a.fD))-1)) else b (i64 (Int.tdiv a.fN a.fD))))
theorem y6r{Z:Zp}{r:Int}(h:y1S f=some r)(w₀:World)(hz:PZ [] w₀ Z):
  Calls Tryz.prog 83 #[(.agg #[(vi f.fN),(vi f.fD)])] w₀ fun e w'=>e = .returned (vi r)/\Hp [] w₀ w' []:=by
 unfold y1S at h
 refine L5 func83 ntmps83 ?_
 refine WC.b<|Ld (Lg 1 (yI (cs:=[(vi f.fN),(vi f.fD)]) U U) fun l _=>La U<|WL.nil<|Lb<|WC.b<|WC.b ?_)
 obtain⟨m,d,h⟩:=za h
 refine Ld<|Le 4 (yi zg U (yj .here) U)<|Ll 5 (zb call130<|.cons U .nil) .nil (cc hz .nil fun w pz ho=>y2W d w pz )<|La U<|WL.nil<|Lb<|WC.cond U (fun b=>?_)<|fun b=>?_
 ·replace h:=yr h b
  refine WC.b<|Ld<|La U<|WL.nil<|Lb<|WC.ret<|Lj ?_
  obtain rfl:=oJ h
  refine Lh results83 (.tmp U .nil)<|fun w hw=>?_
  exact⟨yD U,hw.sub .nil⟩
 ·replace h:=ys h b
  refine WC.skip<|Lb<|WC.b ?_
  obtain⟨g,h⟩:=yo h
  refine Ld<|Le 7 (ya y2G U U)<|Le 8 (yc yq U<|yh .here U)<|Le 9 (ya y34 U U)<|Le 10 (yc yq U<|yh .here U)<|Le 11 (ydV U U g U)<|La U<|WL.nil<|Lb ?_
  obtain⟨i,j,h⟩:=y13 h
  refine WC.y3r (fun(a:Int)=>(i a=some r)) (fun a=>[(3,(vi a))]) (fun a=>[]) ?_ ?_
  ·skip
   refine WC.b ?_
   obtain⟨k,h⟩:=yo h
   refine Ld<|Le 12 (ya y2G U U)<|Le 13 (yc yq U<|yh .here U)<|Le 14 (ya y34 U U)<|Le 15 (yc yq U<|yh .here U)<|Le 16 (q_rem U U k U)<|La U<|WL.nil<|Lb<|WC.cond U (fun c=>?_)<|fun c=>?_
   ·replace h:=yr h c
    refine Ld<|La U<|La U<|La U<|WL.nil ?_
    exact Ln (i64 ((i64<|Int.tdiv f.fN f.fD)-1)) h (.cons U .nil) .nil
   ·replace h:=ys h c
    refine WC.skip ?_
    exact Ln (i64<|Int.tdiv f.fN f.fD) h (.cons U .nil) .nil
  ·rintro a h
   replace h:=(j a).symm.trans h
   refine WC.b<|Ld<|La U<|La U<|WL.nil<|Lb<|WC.ret ?_
   obtain rfl:=oJ h
   refine Lh results83 (.tmp U .nil)<|fun w hw=>?_
   exact⟨yD U,hw.sub .nil⟩
def y2S(a:z2):Option Int:=
 (y1Y a).bind fun b=>if !b then some 0 else(y1S (⟨i64 (0-a.fN),a.fD⟩:z2)).bind fun c=>some (i64 (0-c))
theorem yay{Z:Zp}{r:Int}(h:y2S f=some r)(w₀:World)(hz:PZ [] w₀ Z):
  Calls Tryz.prog 202 #[(.agg #[(vi f.fN),(vi f.fD)])] w₀ fun e w'=>e = .returned (vi r)/\Hp [] w₀ w' []:=by
 unfold y2S at h
 refine L5 func202 ntmps202 ?_
 refine WC.b<|Ld (Lg 1 (yI (cs:=[(vi f.fN),(vi f.fD)]) U U) fun d _=>La U<|WL.nil<|Lb<|WC.b<|WC.b ?_)
 obtain⟨g,b,h⟩:=za h
 refine Ld<|Le 3 (yi zg U (yj .here) U)<|Ll 4 (zb call130<|.cons U .nil) .nil (cc hz .nil fun w pz ho=>y2W b w pz )<|La U<|WL.nil<|Lb<|WC.cond U (fun a=>?_)<|fun a=>?_
 ·replace h:=yr h a
  refine WC.b<|Ld<|La U<|WL.nil<|Lb<|WC.ret<|Lj ?_
  obtain rfl:=oJ h
  refine Lh results202 (.tmp U .nil)<|fun w hw=>?_
  exact⟨yD U,hw.sub .nil⟩
 ·replace h:=ys h a
  refine WC.skip<|Lb<|WC.b ?_
  obtain⟨i,c,h⟩:=za h
  refine Ld<|Le 6 (ya y2G U U)<|Le 7 (yc yq U<|yh .here U)<|Le 8 (q_neg U U)<|Le 9 (ya y34 U U)<|Le 10 (yc yq U<|yh .here U)<|Le 11 (yN (v:=(.agg #[(vi<|i64 (0-f.fN)),(vi f.fD)])) (Lo (l:=[.tmp 8,.tmp 10]) (.r2 U U) [0,1]) (fun _=>by kernel_rfl))<|Ll 12 (zb call83<|.cons U .nil) .nil (cc hz .nil fun w pz ho=>y6r c w pz )<|Le 13 (q_neg U U)<|La U<|WL.nil<|Lb<|WC.ret ?_
  obtain rfl:=oJ h
  refine Lh results202 (.tmp U .nil)<|fun w hw=>?_
  exact⟨yD U,hw.sub .nil⟩
def y1P(zw:Type)(b:List z2×Int)(z2B:z2->zw->Option (Bool×zw))(e:zw->Option zw):Nat->Int->zw->Option zw
 | 0,_,_=>none
 | h+1,a,f=>if decide (a<(b.1.length:Int)) then chk ((0:Int)<=a/\a<(b.1.length:Int)) ((y1S (⟨((nth b.1 a).fN),((nth b.1 a).fD)⟩:z2)).bind fun i=>(y1y i).bind fun j=>(z2B j f).bind fun c=>(if !c.1 then some (true,c.2) else(y2S (⟨((nth b.1 a).fN),((nth b.1 a).fD)⟩:z2)).bind fun k=>(y1y k).bind fun l=>(z2B l c.2).bind fun g=>some (!g.1,g.2)).bind fun d=>if d.1 then some d.2 else y1P zw b z2B e h (i64 (a+1)) d.2) else e f
theorem y8e{n:Nat}{a:List z2×Int}{z2B:z2->i->Option (Bool×i)}{b:i->Option i}{c:i}{r:i}(h:y1P i a z2B b n s c=some r):∃ m,n=m+1:=by
 cases n with
 | zero=>cases h
 | succ m=>exact⟨m,rfl⟩
def y1Q(zw:Type)(z3i:List (List z6))(z2B:z2->zw->Option (Bool×zw))(b:zw->Option zw):Nat->Int->zw->Option zw
 | 0,_,_=>none
 | d+1,a,c=>if decide (a<(z3i.length:Int)) then jp1 (fun(e:zw)=>y1Q zw z3i z2B b d (i64 (a+1)) e) fun f=>chk ((0:Int)<=a/\a<(z3i.length:Int)) ((y27 (nth z3i a)).bind fun g=>jp1 (fun(h:zw)=>f h) fun i=>y1P zw g z2B i yy 0 c) else b c
theorem y8f{n:Nat}{z2B:z2->i->Option (Bool×i)}{a:i->Option i}{b:i}{r:i}(h:y1Q i p z2B a n s b=some r):∃ m,n=m+1:=by
 cases n with
 | zero=>cases h
 | succ m=>exact⟨m,rfl⟩
def y1R(zw:Type)(z3r:List z2)(z2B:z2->zw->Option (Bool×zw))(d:zw->Option zw):Nat->Int->zw->Option zw
 | 0,_,_=>none
 | g+1,a,e=>if decide (a<(z3r.length:Int)) then chk ((0:Int)<=a/\a<(z3r.length:Int)) ((y1S (⟨((nth z3r a).fN),((nth z3r a).fD)⟩:z2)).bind fun h=>(y1y h).bind fun i=>(z2B i e).bind fun b=>(if !b.1 then some (true,b.2) else(y2S (⟨((nth z3r a).fN),((nth z3r a).fD)⟩:z2)).bind fun j=>(y1y j).bind fun k=>(z2B k b.2).bind fun f=>some (!f.1,f.2)).bind fun c=>if c.1 then some c.2 else y1R zw z3r z2B d g (i64 (a+1)) c.2) else d e
theorem y8g{n:Nat}{z2B:z2->i->Option (Bool×i)}{a:i->Option i}{b:i}{r:i}(h:y1R i g z2B a n s b=some r):∃ m,n=m+1:=by
 cases n with
 | zero=>cases h
 | succ m=>exact⟨m,rfl⟩
def y3i(zw:Type)(z2B:z2->zw->Option (Bool×zw))(z8q:zw)(z3i:List (List z6))(zgy:zSv)(zmO:List (List z6))(zgz:zSv)(z3r:List z2):Option zw:=
 (y38).bind fun b=>(z2B b z8q).bind fun a=>if !a.1 then some a.2 else jp1 (fun(c:zw)=>jp1 (fun(d:zw)=>some d) fun e=>y1R zw z3r z2B e yy 0 c) fun f=>y1Q zw z3i z2B f yy 0 a.2
theorem yad(Z:Zp)(zw:Type)(z9o:Nat)(z4E:Type)(z2V:z4E->zw->Asrt)(z7Q:z4E->zw->Prop)(zcc:z4E)(zcd:Addr)(zet:Option Addr)(zeu:Nat)(zyo:Addr)(zyp:Option Addr)(zyq:Nat)(zyr:Addr)(zmP:Option Addr)(zmQ:Nat)(z2B:z2->zw->Option (Bool×zw))(z8q:zw)(z3i:List (List z6))(zgy:zSv)(zmO:List (List z6))(zgz:zSv)(z3r:List z2)(r:zw)(w₀:World)(hz:PZ (fps [z2V zcc z8q]) w₀ Z)(W:ybM Tryz.prog Z z9o (α:=z2) (σ:=zw) (G:=z4E) (H:=Unit) (fun h x=>[(.agg #[(vi x.fN),(vi x.fD)])]) (fun h x=>[]) z2B z2V z7Q)(aM:z7Q zcc z8q)(aN:ZS Z 1 (y29 Z) zet zeu z3i)(bz:ZS Z 1 (y29 Z) zyp zyq zmO)(bA:ZC Z zyo [(vs zyp zmO.length zyq)])(bB:ZC Z zyr [(vi zgz.fRate.fN),(vi zgz.fRate.fD),(vi zgz.fL.fN),(vi zgz.fL.fD)])(aO:ZS Z 2 (fun r x=>r=yx x) zmP zmQ z3r)(an:ZC Z zcd [(vs zet z3i.length zeu),(vi zgy.fRate.fN),(vi zgy.fRate.fD),(vi zgy.fL.fN),(vi zgy.fL.fD),(.func (.func 122) #[] #[(vq zyo),(vq zyr)]),(vs zmP z3r.length zmQ)])(h:y3i zw z2B z8q z3i zgy zmO zgz z3r=some r)(hown:Hp (fps [z2V zcc z8q]) w₀ w₀ [z2V zcc z8q]):
  Calls Tryz.prog 201 #[(.func (.yield z9o) #[] #[]),(vq zcd)] w₀ fun e w'=>∃ ao:z4E,e = .returned (.tuple #[])/\(z7Q ao r)/\Hp (fps [z2V zcc z8q]) w₀ w' [z2V ao r]:=by
 unfold y3i at h
 refine Kf func201 ntmps201 hown ?_
 refine WC.b<|WC.b ?_
 obtain⟨aP,aQ,h⟩:=za h
 obtain⟨ae,aR,h⟩:=za h
 refine Ld<|La U<|Ll 12 (zb call161 .nil) .nil (cc hz .nil fun w pz ho=>y4O aQ w pz ) (WL.yield (dd:=13) (x:=aP) (h:=()) (g:=zcc) (s:=z8q) (b:=ae.1) (s':=ae.2) W U U U (.cons U .nil) ((.cons .here .nil):Sel _ [z2V zcc z8q] _) aR aM (fun w hw=>hz.call hw ((.cons .here .nil):Sel _ [z2V zcc z8q] _)) fun ap aq=>La U<|WL.nil<|Lb<|WC.cond U (fun af=>?_)<|fun af=>?_)
 ·replace h:=yr h af
  refine WC.ret<|Lj ?_
  obtain rfl:=oJ h
  refine Lh results201 .nil<|fun w hw=>?_
  exact⟨ap,y7A,aq,hw.sub (.cons .here .nil)⟩
 ·replace h:=ys h af
  refine WC.skip<|Lb ?_
  obtain⟨ar,aS,h⟩:=y13 h
  let A:Value:=(.func (.yield z9o) #[] #[]);refine WC.y59 (fun(t:zw) (M:z4E)=>(ar t=some r)/\(z7Q M t)) (fun t M=>[(0,A),(1,(vq zcd))]) (fun t M=>[z2V M t]) ?_ ?_
  ·skip
   let C:Value:=(vs zet z3i.length zeu);let D:Value:=(vi (z3i.length:Int));refine WC.b (Ld (Le 15 (ya y7H U U) (Le 16 (yc z88 U (y1b hz.pv an U)) (Le 17 (yJ underlying171 U) (La U (WL.nil (Lb (WC.block (WC.y5s (fun(N:Nat) (c:Int) (o:zw) (u:z4E)=>(y1Q zw z3i z2B ar N c o=some r)/\(z7Q u o)) (fun N c o u=>[(0,A),(1,(vq zcd)),(16,C),(17,D),(18,(vi c))]) (fun N c o u=>[z2V u o]) (fun N c o u=>N) ⟨yy,0,ae.2,ap⟩ ⟨h,aq⟩ (.r5 U U U U U) (.cons .here .nil) ?_)))))))))
   rintro N c o u ⟨h,au⟩
   obtain⟨aT,rfl⟩:=y8f h
   rw[y1Q] at h
   refine WC.b<|Ld<|La U<|WL.nil<|Lb<|WC.b<|WC.cond U (fun ag=>?_)<|fun ag=>?_
   ·replace h:=yr h ag
    refine WC.skip<|Lb ?_
    obtain⟨aU,aV,h⟩:=y13 h
    refine WC.y59 (fun(v:zw) (O:z4E)=>(aU v=some r)/\(z7Q O v)) (fun v O=>[(0,A),(1,(vq zcd)),(16,C),(17,D),(18,(vi c))]) (fun v O=>[z2V O v]) ?_ ?_
    ·skip
     refine WC.block<|WC.b ?_
     obtain⟨aW,h⟩:=yo h
     refine Ld<|L0 (dd:=20) U U (Z:=Z) (Pr:=(y29 Z)) z8T U U aN aW ?_
     rintro bC bD aX bE ⟨bF,bG,rfl,aY⟩
     refine Le 21 (yc zda U<|y3x hz.pv aX U)<|La U<|WL.nil<|Lb<|WC.b ?_
     obtain⟨j,aZ,h⟩:=za h
     refine Ld<|La U<|WL.y43 (dd:=24) U U U (zb call199<|.cons U .nil) .nil (cc hz .nil fun w pz ho=>y83 aZ w pz aY) ?_
     rintro a0 av _
     refine La U<|La U<|La U<|La U<|La U<|WL.nil<|Lb<|WC.b<|Ld<|La U<|Le 28 (yJ underlying229 U)<|La U<|WL.nil<|Lb ?_
     obtain⟨aw,a1,h⟩:=y13 h
     refine WC.y9m (fun(y:zw) (P:z4E)=>(aw y=some r)/\(z7Q P y)) (fun y P=>[(0,A),(1,(vq zcd)),(16,C),(17,D),(18,(vi c))]) (fun y P=>[z2V P y]) ?_ ?_
     ·skip
      let F:=(j.1.length:Int);let I:Value:=(vs a0 j.1.length av);refine WC.block (WC.y5s (fun(Q:Nat) (a:Int) (d:zw) (k:z4E)=>(y1P zw j z2B aw Q a d=some r)/\(z7Q k d)) (fun Q a d k=>[(0,A),(1,(vq zcd)),(16,C),(17,D),(18,(vi c)),(27,I),(28,(vi F)),(29,(vi a))]) (fun Q a d k=>[row I 175 2 (j.1.flatMap yx),z2V k d]) (fun Q a d k=>Q) ⟨yy,0,o,u⟩ ⟨h,au⟩ (.r8 U U U U U U U U) (.a2) ?_)
      rintro Q a d k ⟨h,ax⟩
      obtain⟨a2,rfl⟩:=y8e h
      rw[y1P] at h
      refine WC.b<|Ld<|La U<|WL.nil<|Lb<|WC.b<|WC.cond U (fun ah=>?_)<|fun ah=>?_
      ·replace h:=yr h ah
       refine WC.skip<|Lb<|WC.b<|WC.block<|WC.b ?_
       obtain⟨X,h⟩:=yo h
       refine Ld<|Kg (fun w hw=>Hp.y2c .here hw (by intro hz';have:=X;rw[hz'] at this;omega)) ?_
       rintro⟨a3,rfl⟩
       refine Le 31 (y11 z2r U U X.1 X.2 y3g)<|Le 32 (yX (cs:=(yx<|nth j.1 a)) zg U U<|y3Q .here<|y2y (enc:=yx) (l:=j.1) (i:=a) (sz:=2) (fun _=>U) X.1 X.2) (Lg 8 (yu (cs:=[(vi 0),(vi 0)]) zX U) fun a4 _=>Lk U U (yl zy U U U .here U U U)<|WL.nil<|Lb<|WC.b ?_)
       obtain⟨bK,a5,h⟩:=za h
       obtain⟨a6,a7,h⟩:=za h
       obtain⟨R,a8,h⟩:=za h
       obtain⟨Y,ay,h⟩:=za h
       refine Ld<|La U<|Le 34 (yi zg U (yj .here) U)<|Ll 35 (zb call83<|.cons U .nil) .nil (cc hz .nil fun w pz ho=>y6r a5 w pz )<|Ll 36 (zb call191<|.cons U .nil) .nil (cc hz .nil fun w pz ho=>y3f a7 w pz )<|WL.yield (dd:=37) (x:=a6) (h:=()) (g:=k) (s:=d) (b:=R.1) (s':=R.2) W U U U (.cons U .nil) ((.cons .h2 .nil):Sel _ [z2V k d] _) a8 ax (fun w hw=>hz.call hw ((.cons .h2 .nil):Sel _ [z2V k d] _)) ?_
       intro aa az
       let E:Value:=(vs (some ⟨a3,0,none⟩) j.1.length av);refine La U (La U (WL.ydW (fun(z:z4E)=>z7Q z Y.2) (fun(z:z4E)=>[(0,A),(1,(vq zcd)),(16,C),(17,D),(18,(vi c)),(27,E),(28,(vi F)),(29,(vi a)),(46,(.bool Y.1))]) (fun(z:z4E)=>[z2V z Y.2,stb a4 175 [(vi ((nth j.1 a).fN)),(vi ((nth j.1 a).fD))],row E 175 2 (j.1.flatMap yx)]) 7 ?_ (fun z aA=>?_)))
       ·rcases Bool.eq_false_or_eq_true (!R.1) with hb' | hb'
        ·have aB:=hb';clear hb'
         have ai:=yr ay aB
         replace ai:=oJ ai
         refine WL.pin (i:=39) U aB<|WL.e U U U<|WL.e U U U<|WL.e U U U<|WL.e U U U<|WL.e U U U<|WL.e U U U<|La U ?_
         subst ai
         exact WL.y6S aa az (.r9 U U U U U U U U U)<|.a3
        ·have aC:=hb';clear hb'
         have p:=ys ay aC
         obtain⟨bL,a9,p⟩:=za p
         obtain⟨ba,bb,p⟩:=za p
         obtain⟨aD,bc,p⟩:=za p
         replace p:=oJ p
         refine WL.pin (i:=39) U aC<|La U<|Le 41 (yi zg U (yj .h1) U)<|Ll 42 (zb call202<|.cons U .nil) .nil (cc hz .nil fun w pz ho=>yay a9 w pz )<|Ll 43 (zb call191<|.cons U .nil) .nil (cc hz .nil fun w pz ho=>y3f bb w pz ) (WL.yield (dd:=44) (x:=ba) (h:=()) (g:=aa) (s:=R.2) (b:=aD.1) (s':=aD.2) W U U U (.cons U .nil) ((.cons .here .nil):Sel _ [z2V aa R.2] _) bc az (fun w hw=>hz.call hw ((.cons .here .nil):Sel _ [z2V aa R.2] _)) fun bd be=>La U<|La U ?_)
         subst p
         exact WL.y6S bd be (.r9 U U U U U U U U U)<|.a3
       ·skip
        refine WL.nil<|Lb<|WC.cond U (fun aj=>?_)<|fun aj=>?_
        ·replace h:=yr h aj
         refine WC.ret<|Lt<|Lj<|Lj<|Lt<|Lj<|Lt<|Lj<|Lj<|Lt<|Lj ?_
         obtain rfl:=oJ h
         refine Lh results201 .nil<|fun w hw=>?_
         exact⟨z,y7A,aA,hw.sub (.cons .here .nil)⟩
        ·replace h:=ys h aj
         refine WC.skip<|Lq<|Lb<|Ld<|La U<|La U<|WL.nil ?_
         exact WX.round ⟨a2,(i64 (a+1)),Y.2,z⟩ ⟨h,aA⟩ (Nat.lt_succ_self _) (.r8 U U U U U U U U)<|.s2 .h2 .here
      ·replace h:=ys h ah
       refine WC.exit<|Lm<|Lm<|Lw ?_
       exact Ln ⟨d,k⟩ ⟨h,ax⟩ (.r5 U U U U U)<|.cons .h1 .nil
     ·rintro y P ⟨h,bf⟩
      replace h:=(a1 y).symm.trans h
      refine Lq ?_
      exact Ln ⟨y,P⟩ ⟨h,bf⟩ (.r5 U U U U U)<|.cons .here .nil
    ·rintro v O ⟨h,bg⟩
     replace h:=(aV v).symm.trans h
     refine Ld<|La U<|La U<|WL.nil ?_
     exact WX.round ⟨aT,(i64 (c+1)),v,O⟩ ⟨h,bg⟩ (Nat.lt_succ_self _) (.r5 U U U U U)<|.cons .here .nil
   ·replace h:=ys h ag
    refine WC.exit<|Lm<|Lm<|Lw ?_
    exact Ln ⟨o,u⟩ ⟨h,au⟩ (.r2 U U)<|.cons .here .nil
  ·rintro t M ⟨h,bh⟩
   replace h:=(aS t).symm.trans h
   refine WC.b<|Ld<|Le 49 (ya yhD U U)<|Le 50 (yc z8U U<|y1b hz.pv an U)<|Le 51 (yJ underlying229 U)<|La U<|WL.nil<|Lb ?_
   obtain⟨aE,bi,h⟩:=y13 h
   refine WC.y9m (fun(B:zw) (S:z4E)=>(aE B=some r)/\(z7Q S B)) (fun B S=>[]) (fun B S=>[z2V S B]) ?_ ?_
   ·skip
    let J:Value:=(vs zmP z3r.length zmQ);let K:Value:=(vi (z3r.length:Int));refine WC.block (WC.y5s (fun(T:Nat) (m:Int) (f:zw) (n:z4E)=>(y1R zw z3r z2B aE T m f=some r)/\(z7Q n f)) (fun T m f n=>[(0,A),(50,J),(51,K),(52,(vi m))]) (fun T m f n=>[z2V n f]) (fun T m f n=>T) ⟨yy,0,t,M⟩ ⟨h,bh⟩ (.r4 U U U U) (.cons .here .nil) ?_)
    rintro T m f n ⟨h,aF⟩
    obtain⟨bj,rfl⟩:=y8g h
    rw[y1R] at h
    refine WC.b<|Ld<|La U<|WL.nil<|Lb<|WC.b<|WC.cond U (fun ak=>?_)<|fun ak=>?_
    ·replace h:=yr h ak
     refine WC.skip<|Lb<|WC.b<|WC.block<|WC.b ?_
     obtain⟨bk,h⟩:=yo h
     refine Ld<|L0 (dd:=54) U U (Z:=Z) (Pr:=(fun r x=>r=yx x)) z2r U U aO bk ?_
     rintro bH bI bl bJ rfl
     refine Le 55 (yi zg U (y2j hz.pv bl) U) (Lg 10 (yu (cs:=[(vi 0),(vi 0)]) zX U) fun bm _=>Lk U U (yl zy U U U .here U U U)<|WL.nil<|Lb<|WC.b ?_)
     obtain⟨bM,bn,h⟩:=za h
     obtain⟨bo,bp,h⟩:=za h
     obtain⟨V,bq,h⟩:=za h
     obtain⟨ab,aG,h⟩:=za h
     refine Ld<|La U<|Le 57 (yi zg U (yj .here) U)<|Ll 58 (zb call83<|.cons U .nil) .nil (cc hz .nil fun w pz ho=>y6r bn w pz )<|Ll 59 (zb call191<|.cons U .nil) .nil (cc hz .nil fun w pz ho=>y3f bp w pz ) (WL.yield (dd:=60) (x:=bo) (h:=()) (g:=n) (s:=f) (b:=V.1) (s':=V.2) W U U U (.cons U .nil) ((.cons .h1 .nil):Sel _ [z2V n f] _) bq aF (fun w hw=>hz.call hw ((.cons .h1 .nil):Sel _ [z2V n f] _)) fun ad aH=>La U<|La U<|WL.ydW (fun(L:z4E)=>z7Q L ab.2) (fun(L:z4E)=>[(0,A),(50,J),(51,K),(52,(vi m)),(69,(.bool ab.1))]) (fun(L:z4E)=>[z2V L ab.2,stb bm 175 [(vi<|(nth z3r m).fN),(vi<|(nth z3r m).fD)]]) 7 ?_<|fun L aI=>?_)
     ·rcases Bool.eq_false_or_eq_true (!V.1) with hb' | hb'
      ·have aJ:=hb';clear hb'
       have al:=yr aG aJ
       replace al:=oJ al
       refine WL.pin (i:=62) U aJ<|WL.e U U U<|WL.e U U U<|WL.e U U U<|WL.e U U U<|WL.e U U U<|WL.e U U U<|La U ?_
       subst al
       exact WL.y6S ad aH (.r5 U U U U U)<|.a2
      ·have aK:=hb';clear hb'
       have q:=ys aG aK
       obtain⟨bN,br,q⟩:=za q
       obtain⟨bs,bt,q⟩:=za q
       obtain⟨aL,bu,q⟩:=za q
       replace q:=oJ q
       refine WL.pin (i:=62) U aK<|La U<|Le 64 (yi zg U (yj .h1) U)<|Ll 65 (zb call202<|.cons U .nil) .nil (cc hz .nil fun w pz ho=>yay br w pz )<|Ll 66 (zb call191<|.cons U .nil) .nil (cc hz .nil fun w pz ho=>y3f bt w pz ) (WL.yield (dd:=67) (x:=bs) (h:=()) (g:=ad) (s:=V.2) (b:=aL.1) (s':=aL.2) W U U U (.cons U .nil) ((.cons .here .nil):Sel _ [z2V ad V.2] _) bu aH (fun w hw=>hz.call hw ((.cons .here .nil):Sel _ [z2V ad V.2] _)) fun bv bw=>La U<|La U ?_)
       subst q
       exact WL.y6S bv bw (.r5 U U U U U)<|.a2
     ·skip
      refine WL.nil<|Lb<|WC.cond U (fun am=>?_)<|fun am=>?_
      ·replace h:=yr h am
       refine WC.ret<|Lt<|Lj<|Lj<|Lt<|Lj ?_
       obtain rfl:=oJ h
       refine Lh results201 .nil<|fun w hw=>?_
       exact⟨L,y7A,aI,hw.sub (.cons .here .nil)⟩
      ·replace h:=ys h am
       refine WC.skip<|Lq<|Lb<|Ld<|La U<|La U<|WL.nil ?_
       exact WX.round ⟨bj,(i64 (m+1)),ab.2,L⟩ ⟨h,aI⟩ (Nat.lt_succ_self _) (.r4 U U U U)<|.cons .here .nil
    ·replace h:=ys h ak
     refine WC.exit<|Lm<|Lm<|Lw ?_
     exact Ln ⟨f,n⟩ ⟨h,aF⟩ .nil<|.cons .here .nil
   ·rintro B S ⟨h,bx⟩
    replace h:=(bi B).symm.trans h
    obtain rfl:=oJ h
    refine WX.y58 results201 .nil<|fun w hw=>?_
    exact⟨S,y7A,bx,hw.sub (.cons .here .nil)⟩
def y2h(d:z1A)(a:z6)(e:z2):Option (z2×z1A):=
 (y26 d (fun(y0:z2) (y1:z2)=>y3J y0 y1) a.fRate e).bind fun b=>(y26 b.2 (fun(y0:z2) (y1:z2)=>y1q y0 y1) a.fBurst b.1).bind fun c=>some (c.1,c.2)
theorem ydr{Z:Zp}{r:z2×z1A}(h:y2h n l f=some r)(w₀:World)(hz:PZ (fps [stb j 307 [(vi n.fE)]]) w₀ Z)(hown:Hp (fps [stb j 307 [(vi n.fE)]]) w₀ w₀ [stb j 307 [(vi n.fE)]]):
  Calls Tryz.prog 194 #[(vp j),(.agg #[(vi l.fBurst.fN),(vi l.fBurst.fD),(vi l.fRate.fN),(vi l.fRate.fD)]),(.agg #[(vi f.fN),(vi f.fD)])] w₀ fun e w'=>e = .returned (.agg #[(vi r.1.fN),(vi r.1.fD)])/\Hp (fps [stb j 307 [(vi n.fE)]]) w₀ w' [stb j 307 [(vi r.2.fE)]]:=by
 unfold y2h at h
 refine Calls.oh3 func194 ntmps194 hown ?_
 refine WC.b<|Ld (Lg 4 (yI (cs:=[(vi l.fBurst.fN),(vi l.fBurst.fD),(vi l.fRate.fN),(vi l.fRate.fD)]) U U) fun a _=>Lg 5 (yI (cs:=[(vi f.fN),(vi f.fD)]) U U) fun d _=>Lg 6 (yu (cs:=[(vi 0),(vi 0)]) zX U) fun g _=>WL.nil<|Lb<|WC.b ?_)
 obtain⟨k,b,h⟩:=za h
 obtain⟨m,c,h⟩:=za h
 refine Lx (fun i=>[7,8,9].contains i) [y8a a 225 [(0,(vi l.fBurst.fN)),(1,(vi l.fBurst.fD))]] U<|Lf 0 7 U (fun _=>q_m U)<|Lf 1 8 U (fun _=>ya y5t U U)<|L6 2 9 U (Sin.wk (.cons .h2 .nil)<|.stb (.cons U<|.cons U .nil) .nil) (yX (cs:=[(vi l.fBurst.fN),(vi l.fBurst.fD)]) zg U U<|ycp .here ((.head _))<|(.tail _<|.head _))<|Lf 3 10 U (fun _=>q_m U)<|Lf 4 11 U (fun _=>ya y6p U U)<|Li 5 12 U (yX (cs:=[(vi l.fRate.fN),(vi l.fRate.fD)]) zg U U<|y3w (s:=2) .h2 U)<|Li 6 13 U (yi zg U (yj .h1) U) (Ka (i:=7) (dd:=14) U (by kernel_rfl) U U U (.inl ⟨U,(Sin.wk (.cons .h3 .nil)<|.stb (.cons U<|.cons U .nil) .nil)⟩) (zb call210<|.r4 U U U U) (.cons .h3 .nil) (cc hz (.cons .h3 .nil) fun w pz ho=>Calls.mono (y6i _ _ (z9X:=120) (zeb:=[]) _ (zbW:=(fun(y0:z2) (y1:z2)=>y3J y0 y1)) _ _ _ b w pz call120 (fun w' hz' y0 y1  r  hr=>ydp hr w' hz' ) ho)<|fun _ _ h'=>⟨h'.1,trivial,h'.2⟩) fun _=>Ka (i:=8) (dd:=15) U (by kernel_rfl) U U U (.inl ⟨U,(Sin.wk (.cons .h3 .nil)<|.stb (.cons U<|.cons U .nil) .nil)⟩) (zb call210<|.r4 U U U U) (.cons .here .nil) (cc hz (.cons .here .nil) fun w pz ho=>Calls.mono (y6i _ _ (z9X:=119) (zeb:=[]) _ (zbW:=(fun(y0:z2) (y1:z2)=>y1q y0 y1)) _ _ _ c w pz call119 (fun w' hz' y0 y1  r  hr=>y6U hr w' hz' ) ho)<|fun _ _ h'=>⟨h'.1,trivial,h'.2⟩) fun _=>Kc (i:=9) U (by kernel_rfl) U U U (by kernel_rfl) (yl zy U U U .h1 U U U)<|WD.done (by kernel_rfl)<|Lb<|WC.ret ?_)
 obtain rfl:=oJ h
 refine Lh results194 (.agg U zg U (yj .here) .nil)<|fun w hw=>?_
 exact⟨yD U,hw.sub (.cons .h1 .nil)⟩
def y1o(b:List z2)(z9p:z2->z2->Option Int)(e:Int->Int->Option z2):Nat->Int->Int->Int->Option z2
 | 0,_,_,_=>none
 | g+1,a,c,d=>if decide (a<(b.length:Int)) then jp2 (fun(h:Int) (i:Int)=>y1o b z9p e g (i64 (a+1)) h i) fun f=>chk ((0:Int)<=a/\a<(b.length:Int)) ((z9p (⟨((nth b a).fN),((nth b a).fD)⟩:z2) (⟨c,d⟩:z2)).bind fun j=>if decide (j<0) then chk ((0:Int)<=a/\a<(b.length:Int)) (f ((nth b a).fN) ((nth b a).fD)) else f c d) else e c d
def y2p(a:List z2)(z9p:z2->z2->Option Int):Option z2:=
 if decide ((a.length:Int)<1) then none else chk ((0:Int)<=0/\0<(a.length:Int)) (jp2 (fun(b:Int) (c:Int)=>some (⟨b,c⟩:z2)) fun d=>y1o a z9p d yy 1 ((nth a 0).fN) ((nth a 0).fD))
theorem y8u(Z:Zp)(s:Option Addr)(t:Nat)(zey:FuncId)(zjv:List Value)(b:List z2)(z9p:z2->z2->Option Int)(r:z2)(h:y2p b z9p=some r)(w₀:World)(hz:PZ [] w₀ Z)(u:ZS Z 2 (fun r x=>r=yx x) s t b)(D:∀ args w,(callFunc zey args).run Tryz.prog w = .ok (.enter zey args) w)(E:∀ w:World,PZ [] w Z->∀(x0:z2) (x1:z2) (r:Int),z9p x0 x1=some r->Calls Tryz.prog zey (([(.agg #[(vi x0.fN),(vi x0.fD)]),(.agg #[(vi x1.fN),(vi x1.fD)])]:List Value)++zjv).toArray w fun e w'=>e = .returned (vi r)/\Hp [] w w' []):
  Calls Tryz.prog 195 #[(vs s b.length t),(.func (.func zey) #[] (zjv).toArray)] w₀ fun e w'=>e = .returned (.agg #[(vi r.fN),(vi r.fD)])/\Hp [] w₀ w' []:=by
 unfold y2p at h
 refine Lz func195 ntmps195 ?_
 refine WC.b<|Ld (Lg 4 (yu (cs:=[(vi 0),(vi 0)]) zX U) fun m _=>WL.nil<|Lb<|WC.b<|WC.b<|Ld<|La U<|Le 8 (yJ underlying229 U)<|La U<|WL.nil<|Lb<|WC.cond U (fun v=>?_)<|fun v=>?_)
 ·replace h:=yr h v
  cases h
 ·replace h:=ys h v
  refine WC.skip<|Lb<|WC.b ?_
  obtain⟨F,h⟩:=yo h
  refine Ld<|La U<|L0 (dd:=12) U U (Z:=Z) (Pr:=(fun r x=>r=yx x)) z2r U U u F ?_
  rintro R S G T rfl
  refine Le 13 (yi zg U (y2j hz.pv G) U) (Lg 5 (yu (cs:=[(vi 0),(vi 0)]) zX U) fun n _=>Lk U U (yl zy U U U .here U U U)<|WL.nil<|Lb ?_)
  obtain⟨B,H,h⟩:=y52 h
  refine WC.y59 (fun(o:Int) (p:Int)=>(B o p=some r)) (fun o p=>[(4,(vp m)),(5,(vp n))]) (fun o p=>[stb m 175 [(vi 0),(vi 0)],stb n 175 [(vi o),(vi p)]]) ?_ ?_
  ·skip
   let A:Value:=(.func (.func zey) #[] (zjv).toArray);let C:Value:=(vs s b.length t);refine WC.b (Ld (La U (WL.nil (Lb (WC.block (WC.y5s (fun(q:Nat) (a:Int) (c:Int) (d:Int)=>(y1o b z9p B q a c d=some r)) (fun q a c d=>[(0,C),(1,A),(4,(vp m)),(5,(vp n)),(6,(vi a))]) (fun q a c d=>[stb m 175 [(vi 0),(vi 0)],stb n 175 [(vi c),(vi d)]]) (fun q a c d=>q) ⟨yy,1,((nth b 0).fN),((nth b 0).fD)⟩ h (.r5 U U U U U) (.s2 .h1 .here) ?_))))))
   rintro(_|I) a c d h;·cases h
   rw[y1o] at h
   refine WC.b<|WC.b<|Ld<|La U<|La U<|Le 16 (yJ underlying229 U)<|La U<|WL.nil<|Lb<|WC.cond U (fun y=>?_)<|fun y=>?_
   ·replace h:=yr h y
    refine WC.skip<|Lb ?_
    obtain⟨J,K,h⟩:=y52 h
    refine WC.y59 (fun(g:Int) (k:Int)=>(J g k=some r)) (fun g k=>[(0,C),(1,A),(4,(vp m)),(5,(vp n)),(6,(vi a))]) (fun g k=>[stb m 175 [(vi 0),(vi 0)],stb n 175 [(vi g),(vi k)]]) ?_ ?_
    ·skip
     refine WC.block<|WC.b ?_
     obtain⟨L,h⟩:=yo h
     obtain⟨M,N,h⟩:=za h
     refine Lx (fun i=>[].contains i) [] U<|Lf 0 20 U (fun _=>q_m U)<|Lf 1 21 U (fun _=>q_m U)<|Lf 2 22 U (fun _=>q_m U)<|L7 (j:=3) (dd:=23) (by kernel_rfl) U z2k z2l U U (Z:=Z) (Pr:=(fun r x=>r=yx x)) z2r U U u L ?_
     rintro V W O X rfl
     refine Li 4 24 U (yi zg U (y2j hz.pv O) U)<|Li 5 25 U (yi zg U (yj .h1) U)<|L4 6 26 U (y2M (l:=[.tmp 24,.tmp 25]) (f:=zey) (caps:=zjv) D U<|.r2 U U) (fun w hw=>E w (hz.now hw) (⟨((nth b a).fN),((nth b a).fD)⟩:z2) (⟨c,d⟩:z2) M  N)<|Lf 7 27 U (fun _=>q_lss U U)<|WD.done (by kernel_rfl)<|Lb<|WC.cond U (fun z=>?_)<|fun z=>?_
     ·replace h:=yr h z
      obtain⟨P,h⟩:=yo h
      refine Ld<|La U<|La U<|L0 (dd:=30) U U (Z:=Z) (Pr:=(fun r x=>r=yx x)) z2r U U u P ?_
      rintro Y aa Q ab rfl
      refine Le 31 (yi zg U (y2j hz.pv Q) U)<|Lk U U (yl zy U U U .h1 U U U)<|WL.nil<|Lq ?_
      exact Ln ⟨((nth b a).fN),((nth b a).fD)⟩ h (.r5 U U U U U)<|.s2 .h1 .here
     ·replace h:=ys h z
      refine WC.skip<|Lq ?_
      exact Ln ⟨c,d⟩ h (.r5 U U U U U)<|.a2
    ·rintro g k h
     replace h:=(K g k).symm.trans h
     refine Ld<|La U<|La U<|La U<|WL.nil ?_
     exact WX.round ⟨I,(i64 (a+1)),g,k⟩ h (Nat.lt_succ_self _) (.r5 U U U U U)<|.a2
   ·replace h:=ys h y
    refine WC.exit<|Lm<|Lm<|Lw ?_
    exact Ln ⟨c,d⟩ h (.r2 U U)<|.a2
  ·rintro o p h
   replace h:=(H o p).symm.trans h
   refine WC.b<|Ld<|Le 32 (yi zg U (yj .h1) U)<|Lk U U (yl zy U U U .here U U U)<|WL.nil<|Lb<|WC.ret ?_
   obtain rfl:=oJ h
   refine Lh results195 (.agg U zg U (yj .here) .nil)<|fun w hw=>?_
   exact⟨yD U,hw.sub .nil⟩
def y3j(b:List z6)(e:z2)(f:(List z2)->Int->Option (z2×Int)):Nat->(List z2)->Int->Int->Option (z2×Int)
 | 0,_,_,_=>none
 | h+1,c,a,g=>if decide (a<(b.length:Int)) then chk ((0:Int)<=a/\a<(b.length:Int)) ((y2h (⟨g⟩:z1A) (⟨(⟨(((nth b a).fBurst).fN),(((nth b a).fBurst).fD)⟩:z2),(⟨(((nth b a).fRate).fN),(((nth b a).fRate).fD)⟩:z2)⟩:z6) e).bind fun d=>chk (((c++([d.1]:List z2)).length:Int)*16<=140737488355328/\((c++([d.1]:List z2)).length:Int)<=4611686018427387904) (y3j b e f h (c++([d.1]:List z2)) (i64 (a+1)) d.2.fE)) else f c g
def y5a(a:List z6)(b:z2):Option (z2×Int):=
 (y4Y a).bind fun d=>(if !d then some true else(y5N b).bind fun e=>some (!e)).bind fun f=>if f then some ((⟨0,0⟩:z2),2) else jp2 (fun(g:List z2) (c:Int)=>if decide (c≠0) then some ((⟨0,0⟩:z2),c) else(y2p g (fun(y0:z2) (y1:z2)=>y1w y0 y1)).bind fun h=>some (h,0)) fun i=>y3j a b i yy ([]:List z2) 0 0
theorem yjO{Z:Zp}{r:z2×Int}(h:y5a t f=some r)(w₀:World)(hz:PZ [] w₀ Z)(E:ZS Z 4 (fun r x=>r=y1O x) m j t):
  Calls Tryz.prog 162 #[(vs m t.length j),(.agg #[(vi f.fN),(vi f.fD)])] w₀ fun e w'=>e = .returned (.tuple #[(.agg #[(vi r.1.fN),(vi r.1.fD)]),(vi r.2)])/\Hp [] w₀ w' []:=by
 unfold y5a at h
 refine Lz func162 ntmps162 ?_
 refine WC.b<|Ld (Lg 3 (yI (cs:=[(vi f.fN),(vi f.fD)]) U U) fun F _=>Lg 4 (yu (cs:=[(vi 0),(vi 0)]) zX U) fun y _=>La U<|WL.nil<|Lb<|WC.b<|WC.b ?_)
 obtain⟨ad,I,h⟩:=za h
 obtain⟨J,G,h⟩:=za h
 refine Ld<|La U<|Ll 11 (zb call192<|.cons U .nil) .nil (cc hz .nil fun w pz ho=>y8p I w pz E)<|La U<|La U<|Lu false 3 13 (B:=J) U U U U U U (fun h=>(oJ<|yr G h).symm) (fun _ K=>?_) ?_
 ·skip
  have o:=ys G K
  obtain⟨ae,L,o⟩:=za o
  replace o:=oJ o
  refine Le 14 (yi zg U (yj .h1) U)<|Ll 15 (zb call193<|.cons U .nil) .nil (cc hz .nil fun w pz ho=>yaX L w pz )<|La U<|La U ?_
  exact Lv o U U .all
 refine WL.nil<|Lb<|WC.cond U (fun A=>?_)<|fun A=>?_
 ·replace h:=yr h A
  refine WC.b<|Ld<|Le 18 (yN (v:=(.agg #[(vi 0),(vi 0)])) (Lo (l:=[]) .nil []) (fun _=>by kernel_rfl))<|Lk U U (yl zy U U U .here U U U)<|La U<|WL.nil<|Lb<|WC.ret<|Lj ?_
  obtain rfl:=oJ h
  refine Lh results162 (.agg U zg U (yj .here)<|.tmp U .nil)<|fun w hw=>?_
  exact⟨y1T U U,hw.sub .nil⟩
 ·replace h:=ys h A
  refine WC.skip<|Lb<|WC.b<|Ld (Lg 6 (yu (cs:=[(vi 0)]) zDe U) fun p _=>WL.nil<|Lb<|WC.b<|Ld<|La U<|WL.nil<|Lb ?_)
  obtain⟨H,M,h⟩:=y52 h
  refine WC.yar (fun(b:List z2) (c:Int) (q:Option Addr) (s:Nat)=>(H b c=some r)) (fun b c q s=>[(4,(vp y)),(6,(vp p)),(7,(vs q b.length s))]) (fun b c q s=>[row (vs q b.length s) 175 2 (b.flatMap yx),stb y 175 [(vi 0),(vi 0)],stb p 307 [(vi c)]]) ?_ ?_
  ·skip
   refine WC.b<|Ld<|La U<|Le 20 (yJ underlying227 U)<|La U<|WL.nil<|Lb<|WC.block<|WC.nilRow 175 2<|WC.yaN (fun(u:Nat) (a:List z2) (d:Int) (g:Int) (k:Option Addr) (n:Nat)=>(y3j t f H u a d g=some r)) (fun u a d g k n=>[(3,(vp F)),(4,(vp y)),(6,(vp p)),(7,(vs k a.length n)),(19,(vs m t.length j)),(20,(vi (t.length:Int))),(21,(vi d))]) (fun u a d g k n=>[row (vs k a.length n) 175 2 (a.flatMap yx),stb F 175 [(vi f.fN),(vi f.fD)],stb y 175 [(vi 0),(vi 0)],stb p 307 [(vi g)]]) (fun u a d g k n=>u) ⟨yy,([]:List z2),0,0,none,0⟩ h (.r7 U U U U U U U) (.s4 .here .h2 .h1 .here) ?_
   rintro(_|N) a d g k n h;·cases h
   rw[y3j] at h
   refine WC.b<|Ld<|La U<|WL.nil<|Lb<|WC.b<|WC.cond U (fun C=>?_)<|fun C=>?_
   ·replace h:=yr h C
    refine WC.skip<|Lb<|WC.b<|WC.block<|WC.b ?_
    obtain⟨O,h⟩:=yo h
    refine Ld<|L0 (dd:=23) U U (Z:=Z) (Pr:=(fun r x=>r=y1O x)) z7A U U E O ?_
    rintro W X P Y rfl
    refine Le 24 (yi z38 U (y2j hz.pv P) U) (Lg 9 (yu (cs:=[(vi 0),(vi 0),(vi 0),(vi 0)]) zaX U) fun aa _=>Lk U U (yl z9C U U U .here U U U)<|WL.nil<|Lb ?_)
    obtain⟨z,Q,h⟩:=za h
    obtain⟨R,h⟩:=yo h
    refine Ld<|La U<|Le 26 (yi z38 U (yj .here) U)<|Le 27 (yi zg U (yj .h2) U)<|Ll 28 (zb call194<|.r3 U U U) (.cons .h4 .nil) (cc hz (.cons .h4 .nil) fun w pz ho=>ydr Q w pz  ho) (Lg 29 (yT (cs:=([z.1]:List z2).flatMap yx) z2r (Lo (l:=[.tmp 28]) (.cons U .nil) [0]) (fun _=>by kernel_rfl) U (by unfold maxLen;omega)) fun ab _=>WL.fA 30 (y4W (enc:=yx) (l1:=a) (l2:=([z.1]:List z2)) z2r U U .h3 (fun _=>U) U U (y3q .here) (y5i ye0 _) R) ?_)
    rintro⟨S,T⟩ _
    refine La U<|WL.nil<|Lq<|Lb<|Ld<|La U<|La U<|WL.nil ?_
    exact WX.round ⟨N,(a++([z.1]:List z2)),(i64 (d+1)),z.2.fE,S,T⟩ h (Nat.lt_succ_self _) (.r7 U U U U U U U)<|.s4 .here .h3 .h3 .h1
   ·replace h:=ys h C
    refine WC.exit<|Lm<|Lm<|Lw ?_
    exact Ln ⟨a,g,k,n⟩ h (.r3 U U U)<|.s3 .here .h1 .h1
  ·rintro b c q s h
   replace h:=(M b c).symm.trans h
   refine WC.b<|WC.b<|Ld<|Le 32 (ya y9x U U)<|Le 33 (yc y3t U<|yh .h2 U)<|La U<|WL.nil<|Lb<|WC.cond U (fun D=>?_)<|fun D=>?_
   ·replace h:=yr h D
    refine WC.b<|Lx (fun i=>[3].contains i) [y8a p 307 [(0,(vi c))]] U<|Lf 0 35 U (fun _=>yN (v:=(.agg #[(vi 0),(vi 0)])) (Lo (l:=[]) .nil []) (fun _=>by kernel_rfl))<|Lf 1 36 U (fun _=>ya y9x U U)<|L6 2 37 U (Sin.wk (.cons .h2 .nil)<|.stb (.cons U .nil) .nil) (yc y3t U<|y62 .here<|.head _)<|WD.forced0 (i:=3) U (by kernel_rfl) U U U (Sin.wk (.cons .h2 .nil)<|.stb (.cons U .nil) .nil) (yl zy U U U .h1 U U U)<|Lf 4 5 U (fun _=>q_z U)<|WD.done (by kernel_rfl)<|Lb<|WC.ret<|Lj ?_
    obtain rfl:=oJ h
    refine Lh results162 (.agg U zg U (yj .here)<|.tmp U .nil)<|fun w hw=>?_
    exact⟨y1T U U,hw.sub .nil⟩
   ·replace h:=ys h D
    refine WC.skip<|Lb<|WC.b ?_
    obtain⟨af,V,h⟩:=za h
    refine Ld<|La U<|Ll 39 (zb call195<|.r2 U U) .nil (ccl hz .nil (.cons .here .nil) fun w pz ho la=>y8u _ _ _ (zey:=129) (zjv:=[]) _ (z9p:=(fun(y0:z2) (y1:z2)=>y1w y0 y1)) _ V w pz (ZA.row (la _ (.head _) _) (RR.flat (enc:=yx) (fun _=>U) _) ⟨w,pz.1⟩) call129<|fun w' hz' y0 y1  r  hr=>y4Z hr w' hz' )<|Lk U U (yl zy U U U .h1 U U U)<|La U<|WL.nil<|Lb<|WC.ret ?_
    obtain rfl:=oJ h
    refine Lh results162 (.agg U zg U (yj .here)<|.tmp U .nil)<|fun w hw=>?_
    exact⟨y1T U U,hw.sub .nil⟩
def y2q(b:List (List z6))(e:z2)(f:Int->Int->Int->Option (z2×z1A)):Nat->Int->Int->Int->Int->Option (z2×z1A)
 | 0,_,_,_,_=>none
 | k+1,a,c,g,h=>if decide (a<(b.length:Int)) then chk ((0:Int)<=a/\a<(b.length:Int)) ((y5a (nth b a) e).bind fun i=>jp1 (fun(l:Int)=>(y1c (⟨l⟩:z1A) (fun(y0:z2) (y1:z2)=>y1q y0 y1) (⟨g,h⟩:z2) i.1).bind fun d=>y2q b e f k (i64 (a+1)) d.2.fE d.1.fN d.1.fD) fun j=>if decide (c=0) then j i.2 else j c) else f g h c
def y3u(b:z1A)(c:List (List z6))(d:z2):Option (z2×z1A):=
 (y38).bind fun a=>jp3 (fun(e:Int) (f:Int) (g:Int)=>some ((⟨e,f⟩:z2),(⟨g⟩:z1A))) fun h=>y2q c d h yy 0 b.fE a.fN a.fD
theorem y8I{Z:Zp}{r:z2×z1A}(h:y3u n p f=some r)(w₀:World)(hz:PZ (fps [stb j 277 [(vi n.fE)]]) w₀ Z)(G:ZS Z 1 (y29 Z) m y p)(hown:Hp (fps [stb j 277 [(vi n.fE)]]) w₀ w₀ [stb j 277 [(vi n.fE)]]):
  Calls Tryz.prog 126 #[(vp j),(vs m p.length y),(.agg #[(vi f.fN),(vi f.fD)])] w₀ fun e w'=>e = .returned (.agg #[(vi r.1.fN),(vi r.1.fD)])/\Hp (fps [stb j 277 [(vi n.fE)]]) w₀ w' [stb j 277 [(vi r.2.fE)]]:=by
 unfold y3u at h
 refine Calls.oh3 func126 ntmps126 hown ?_
 let A:List Value:=[(vi f.fN),(vi f.fD)];refine WC.b (Ld (Lg 5 (yI (cs:=A) U U) ?_))
 intro t _
 refine Lg 6 (yu (cs:=[(vi 0),(vi 0)]) zX U) fun g _=>WL.nil<|Lb<|WC.b ?_
 obtain⟨B,H,h⟩:=za h
 refine Ld<|Ll 12 (zb call161 .nil) .nil (cc hz .nil fun w pz ho=>y4O H w pz ) (Lg 7 (yu (cs:=[(vi 0),(vi 0)]) zX U) fun i _=>Lk U U (yl zy U U U .here U U U)<|WL.nil<|Lb ?_)
 obtain⟨E,I,h⟩:=y9k h
 refine Kb (fun(k:Int) (l:Int) (o:Int)=>(E k l o=some r)) (fun k l o=>[(6,(vp g)),(7,(vp i))]) (fun k l o=>[stb g 175 [(vi 0),(vi 0)],stb i 175 [(vi k),(vi l)],stb j 277 [(vi o)]]) ?_ ?_
 ·skip
  let C:Value:=(vs m p.length y);let D:Value:=(vi (p.length:Int));refine WC.b (Ld (La U (Le 14 (yJ underlying171 U) (La U (WL.nil (Lb (WC.block (WC.y7B (fun(s:Nat) (a:Int) (b:Int) (c:Int) (d:Int)=>(y2q p f E s a b c d=some r)) (fun s a b c d=>[(0,(vp j)),(5,(vp t)),(6,(vp g)),(7,(vp i)),(13,C),(14,D),(15,(vi a))]) (fun s a b c d=>[stb j 277 [(vi b)],stb t 175 A,stb g 175 [(vi 0),(vi 0)],stb i 175 [(vi c),(vi d)]]) (fun s a b c d=>s) ⟨yy,0,n.fE,B.fN,B.fD⟩ h (.r7 U U U U U U U) (.s4 .h3 .h2 .h1 .here) ?_))))))))
  rintro(_|J) a b c d h;·cases h
  rw[y2q] at h
  refine WC.b<|Ld<|La U<|WL.nil<|Lb<|WC.b<|WC.cond U (fun u=>?_)<|fun u=>?_
  ·replace h:=yr h u
   refine WC.skip<|Lb<|WC.b<|WC.block<|WC.b ?_
   obtain⟨K,h⟩:=yo h
   refine Ld<|L0 (dd:=17) U U (Z:=Z) (Pr:=(y29 Z)) z8T U U G K ?_
   rintro R S L T ⟨V,W,rfl,M⟩
   refine Le 18 (yc zda U<|y3x hz.pv L U)<|La U<|WL.nil<|Lb<|WC.b ?_
   obtain⟨v,N,h⟩:=za h
   refine Ld<|La U<|Le 21 (yi zg U (yj .h1) U)<|Ll 22 (zb call162<|.r2 U U) .nil (cc hz .nil fun w pz ho=>yjO N w pz M)<|La U<|La U<|La U (Lg 10 (yu (cs:=[(vi 0),(vi 0)]) zX U) fun F _=>Lk U U (yl zy U U U .here U U U)<|La U<|WL.nil<|Lb ?_)
   obtain⟨O,P,h⟩:=y13 h
   refine WC.y3r (fun(q:Int)=>(O q=some r)) (fun q=>[(0,(vp j)),(5,(vp t)),(6,(vp g)),(7,(vp i)),(10,(vp F)),(13,C),(14,D),(15,(vi a))]) (fun q=>[stb j 277 [(vi q)],stb t 175 A,stb g 175 [(vi 0),(vi 0)],stb i 175 [(vi c),(vi d)],stb F 175 [(vi v.1.fN),(vi v.1.fD)]]) ?_ ?_
   ·skip
    refine WC.b<|Ld<|La U<|Le 26 (y1d U)<|Le 27 (ya y5u U U)<|Le 28 (yc y3t U<|yh .h1 U)<|La U<|WL.nil<|Lb<|WC.cond U (fun x=>?_)<|fun x=>?_
    ·replace h:=yr h x
     refine Ld<|La U<|La U<|Le 32 (y1d U)<|Le 33 (ya y5u U U)<|Lk U U (yl ybP U U U .h1 U U U)<|WL.nil ?_
     exact Ln v.2 h (.r8 U U U U U U U U)<|.s5 .here .h1 .h1 .h1 .here
    ·replace h:=ys h x
     refine WC.skip ?_
     exact Ln b h (.r8 U U U U U U U U)<|.s5 .h1 .h1 .h1 .h1 .here
   ·rintro q h
    replace h:=(P q).symm.trans h
    obtain⟨z,Q,h⟩:=za h
    refine Ld<|La U<|Le 35 (yi zg U (yj .h3) U)<|Le 36 (yi zg U (yj .h4) U)<|Ll 37 (zb call123<|.r4 U U U U) (.cons .here .nil) (cc hz (.cons .here .nil) fun w pz ho=>y2R _ _ (z7f:=119) (z8m:=[]) _ (z7P:=(fun(y0:z2) (y1:z2)=>y1q y0 y1)) _ _ _ Q w pz call119 (fun w' hz' y0 y1  r  hr=>y6U hr w' hz' ) ho)<|Lk U U (yl zy U U U .h3 U U U)<|WL.nil<|Lq<|Lb<|Ld<|La U<|La U<|WL.nil ?_
    exact WX.round ⟨J,(i64 (a+1)),z.2.fE,z.1.fN,z.1.fD⟩ h (Nat.lt_succ_self _) (.r7 U U U U U U U)<|.s4 .h1 .h1 .h1 .here
  ·replace h:=ys h u
   refine WC.exit<|Lm<|Lm<|Lw ?_
   exact Ln ⟨c,d,b⟩ h (.r2 U U)<|.s3 .h2 .h2 .here
 ·rintro k l o h
  replace h:=(I k l o).symm.trans h
  refine WC.b<|Ld<|Le 39 (yi zg U (yj .h1) U)<|Lk U U (yl zy U U U .here U U U)<|WL.nil<|Lb<|WC.ret ?_
  obtain rfl:=oJ h
  refine Lh results126 (.agg U zg U (yj .here) .nil)<|fun w hw=>?_
  exact⟨yD U,hw.sub (.cons .h2 .nil)⟩
def y5e(g:z1A)(a:z2)(h:List (List z6))(b:zSv):Option (z2×z1A):=
 (y3u g h a).bind fun c=>(y1c c.2 (fun(y0:z2) (y1:z2)=>y46 y0 y1) c.1 b.fRate).bind fun d=>(y1c d.2 (fun(y0:z2) (y1:z2)=>y2z y0 y1) d.1 a).bind fun e=>(y1c e.2 (fun(y0:z2) (y1:z2)=>y1q y0 y1) e.1 b.fL).bind fun f=>some (f.1,f.2)
theorem ydt{Z:Zp}{r:z2×z1A}(h:y5e n f p k=some r)(w₀:World)(hz:PZ (fps [stb j 277 [(vi n.fE)]]) w₀ Z)(b:ZS Z 1 (y29 Z) m y p)(c:ZC Z u [(vs m p.length y)])(a:ZC Z v [(vi k.fRate.fN),(vi k.fRate.fD),(vi k.fL.fN),(vi k.fL.fD)])(hown:Hp (fps [stb j 277 [(vi n.fE)]]) w₀ w₀ [stb j 277 [(vi n.fE)]]):
  Calls Tryz.prog 122 #[(vp j),(.agg #[(vi f.fN),(vi f.fD)]),(vq u),(vq v)] w₀ fun e w'=>e = .returned (.agg #[(vi r.1.fN),(vi r.1.fD)])/\Hp (fps [stb j 277 [(vi n.fE)]]) w₀ w' [stb j 277 [(vi r.2.fE)]]:=by
 unfold y5e at h
 refine Calls.oh4 func122 ntmps122 hown ?_
 refine WC.b<|Ld (Lg 5 (yI (cs:=[(vi f.fN),(vi f.fD)]) U U) fun d _=>Lg 6 (yu (cs:=[(vi 0),(vi 0)]) zX U) fun t _=>WL.nil<|Lb<|WC.b ?_)
 obtain⟨x,g,h⟩:=za h
 obtain⟨z,l,h⟩:=za h
 obtain⟨A,o,h⟩:=za h
 obtain⟨B,q,h⟩:=za h
 refine Lx (fun i=>[6,9,11,14,15].contains i) [stb d 175 [(vi f.fN),(vi f.fD)]] U<|Lf 0 7 U (fun _=>q_m U)<|Lf 1 8 U (fun _=>q_m U)<|Lf 2 9 U (fun _=>q_m U)<|Lf 3 10 U (fun _=>q_m U)<|Li 4 11 U (yc z88 U<|y3x hz.pv c U)<|Li 5 12 U (yi zg U (yj .h1) U)<|Lf 7 14 U (fun _=>ya y9v U U)<|L6 8 15 U (Sin.of<|.cons .h1 .nil) (yX (cs:=[(vi k.fRate.fN),(vi k.fRate.fD)]) zg U U<|ybL (off:=0) (s:=2) hz.pv a U)<|L6 10 17 U (Sin.of<|.cons .h1 .nil) (yi zg U (yj .here) U)<|Lf 12 19 U (fun _=>ya y9w U U)<|L6 13 20 U (Sin.of<|.cons .h1 .nil) (yX (cs:=[(vi k.fL.fN),(vi k.fL.fD)]) zg U U<|ybL (off:=2) (s:=2) hz.pv a U) (Ka (i:=6) (dd:=13) U (by kernel_rfl) U U U (.inl ⟨U,(Sin.of<|.cons .h2 .nil)⟩) (zb call126<|.r3 U U U) (.cons .h2 .nil) (cc hz (.cons .h2 .nil) fun w pz ho=>Calls.mono (y8I g w pz b ho)<|fun _ _ h'=>⟨h'.1,trivial,h'.2⟩) fun _=>Ka (i:=9) (dd:=16) U (by kernel_rfl) U U U (.inl ⟨U,(Sin.of<|.cons .h2 .nil)⟩) (zb call123<|.r4 U U U U) (.cons .here .nil) (cc hz (.cons .here .nil) fun w pz ho=>Calls.mono (y2R _ _ (z7f:=125) (z8m:=[]) _ (z7P:=(fun(y0:z2) (y1:z2)=>y46 y0 y1)) _ _ _ l w pz call125 (fun w' hz' y0 y1  r  hr=>ygR hr w' hz' ) ho)<|fun _ _ h'=>⟨h'.1,trivial,h'.2⟩) fun _=>Ka (i:=11) (dd:=18) U (by kernel_rfl) U U U (.inl ⟨U,(Sin.of<|.cons .h2 .nil)⟩) (zb call123<|.r4 U U U U) (.cons .here .nil) (cc hz (.cons .here .nil) fun w pz ho=>Calls.mono (y2R _ _ (z7f:=124) (z8m:=[]) _ (z7P:=(fun(y0:z2) (y1:z2)=>y2z y0 y1)) _ _ _ o w pz call124 (fun w' hz' y0 y1  r  hr=>ya1 hr w' hz' ) ho)<|fun _ _ h'=>⟨h'.1,trivial,h'.2⟩) fun _=>Ka (i:=14) (dd:=21) U (by kernel_rfl) U U U (.inl ⟨U,(Sin.of<|.cons .h2 .nil)⟩) (zb call123<|.r4 U U U U) (.cons .here .nil) (cc hz (.cons .here .nil) fun w pz ho=>Calls.mono (y2R _ _ (z7f:=119) (z8m:=[]) _ (z7P:=(fun(y0:z2) (y1:z2)=>y1q y0 y1)) _ _ _ q w pz call119 (fun w' hz' y0 y1  r  hr=>y6U hr w' hz' ) ho)<|fun _ _ h'=>⟨h'.1,trivial,h'.2⟩) fun _=>Kc (i:=15) U (by kernel_rfl) U U U (by kernel_rfl) (yl zy U U U .h1 U U U)<|WD.done (by kernel_rfl)<|Lb<|WC.ret ?_)
 obtain rfl:=oJ h
 refine Lh results122 (.agg U zg U (yj .here) .nil)<|fun w hw=>?_
 exact⟨yD U,hw.sub (.cons .h1 .nil)⟩
end Go.Proofs.YthjnhebofpebpaaGreat
