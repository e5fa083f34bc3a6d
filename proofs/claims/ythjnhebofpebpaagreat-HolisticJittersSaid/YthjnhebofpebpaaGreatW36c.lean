/- A part of this claim's proof: models of functions, walks, plain laws. No conditions. -/
import Derived.Test.YthjnhebofpebpaaGreatW36b
set_option linter.all false
namespace Go.Proofs.YthjnhebofpebpaaGreat
open Go Go.RowKit Sep
set_option maxRecDepth 30000
set_option maxHeartbeats 4000000
def y2O(zY:List (List ze))(zQ:z8)(zf:zs)(z1k:List (z8×Int))(zbT:(List (List z6))→Int→Int→(List (Int×List Int))→(List (zO×z2))→Option (List (List z6)×Int×Int×(List (zO×z2)))):Nat→(List (List z6))→Int→Int→Int→(List (Int×List Int))→(List (zO×z2))→Option (List (List z6)×Int×Int×(List (zO×z2)))
 | 0,_,_,_,_,_,_=>none
 | zwQ+1,z3d,z6i,z12,z56,z2y,z3e=>if decide (z12<((zY.length:Nat):Int)) then jp5 (fun(z9y:List (List z6)) (zbU:Int) (zbV:Int) (zbW:List (Int×List Int)) (zbX:List (zO×z2))=>y2O zY zQ zf z1k zbT zwQ z9y zbU (i64 (z12+1)) zbV zbW zbX) fun zpT=>chk ((0:Int)≤z12∧z12<((zY.length:Nat):Int)) ((y1k (nth zY z12) (fun(y0:ze)=>y4r y0 zQ)).bind fun zGM=>if !zGM then zpT z3d z6i z56 z2y z3e else chk ((0:Int)≤z12∧z12<((zf.fVLs.length:Nat):Int)) (chk ((0:Int)≤z12∧z12<((zf.fVLs.length:Nat):Int)) ((y2F ((nth zf.fVLs z12).fMax)).bind fun z3f=>jp5 (fun(z9z:List (List z6)) (zbY:Int) (zbZ:List (Int×List Int)) (zac:Int) (zad:Int)=>zpT z9z (max z6i ((nth zf.fVLs z12).fMax)) zbY zbZ (yF z3e (⟨z12,zQ⟩:zO) (⟨zac,zad⟩:z2))) fun zpU=>(y5P (nth zY z12) zQ.fNode).bind fun z2g=>if z2g.2 then(y4J z2g.1).bind fun zem=>(y48 zf zY z3e z1k z56 z12).bind fun zGN=>(y4J z2g.1).bind fun zwR=>(y2F (yf z1k zwR 0)).bind fun zGO=>(y4d zf zY z3e z1k z56 (fun(y0:z2) (y1:z2)=>y3P y0 y1) zGN zGO).bind fun zwS=>(y4d zf zY z3e z1k zwS.2 (fun(y0:z2) (y1:z2)=>y1q y0 y1) (⟨((yf z3e (⟨z12,zem⟩:zO) (⟨0,0⟩:z2)).fN),((yf z3e (⟨z12,zem⟩:zO) (⟨0,0⟩:z2)).fD)⟩:z2) zwS.1).bind fun zae=>chk (((((yf z2y z2g.1.fQ [])++([z12]:List Int)).length:Nat):Int)*8≤140737488355328∧((((yf z2y z2g.1.fQ [])++([z12]:List Int)).length:Nat):Int)≤4611686018427387904) (zpU z3d zae.2 (yF z2y z2g.1.fQ ((yf z2y z2g.1.fQ [])++([z12]:List Int))) zae.1.fN zae.1.fD) else(y48 zf zY z3e z1k z56 z12).bind fun z57=>chk ((((z3d++([([(⟨z3f,z57⟩:z6)]:List z6)]:List (List z6))).length:Nat):Int)*24≤140737488355328∧(((z3d++([([(⟨z3f,z57⟩:z6)]:List z6)]:List (List z6))).length:Nat):Int)≤4611686018427387904) (zpU (z3d++([([(⟨z3f,z57⟩:z6)]:List z6)]:List (List z6))) z56 z2y z3f.fN z3f.fD)))) else zbT z3d z6i z56 z2y z3e
theorem y9t{n:Nat}{zY:List (List ze)}{zQ:z8}{zf:zs}{z1k:List (z8×Int)}{zbT:(List (List z6))→Int→Int→(List (Int×List Int))→(List (zO×z2))→Option (List (List z6)×Int×Int×(List (zO×z2)))}{z3d:List (List z6)}{z6i:Int}{z12:Int}{z56:Int}{z2y:List (Int×List Int)}{z3e:List (zO×z2)}{r:List (List z6)×Int×Int×(List (zO×z2))}(h:y2O zY zQ zf z1k zbT n z3d z6i z12 z56 z2y z3e=some r):∃ m,n=m+1:=by
 cases n with
 | zero=>cases h
 | succ m=>exact⟨m,rfl⟩
def y2P(z1M:List (Int×List Int))(zI:Int)(zf:zs)(zY:List (List ze))(z2h:List (zO×z2))(z1k:List (z8×Int))(zQ:z8)(zc0:Int→Int→Int→Int→Int→Int→Option (List (List z6)×Int×Int×(List (zO×z2)))):Nat→Int→Int→Int→Int→Int→Int→Int→Option (List (List z6)×Int×Int×(List (zO×z2)))
 | 0,_,_,_,_,_,_,_=>none
 | zwT+1,z85,z3g,z8G,z86,z87,z6O,z6P=>if decide (z3g<(((yf z1M zI []).length:Nat):Int)) then chk ((0:Int)≤z3g∧z3g<(((yf z1M zI []).length:Nat):Int)) ((y4d zf zY z2h z1k z8G (fun(y0:z2) (y1:z2)=>y1q y0 y1) (⟨z86,z87⟩:z2) (⟨((yf z2h (⟨(nth (yf z1M zI []) z3g),zQ⟩:zO) (⟨0,0⟩:z2)).fN),((yf z2h (⟨(nth (yf z1M zI []) z3g),zQ⟩:zO) (⟨0,0⟩:z2)).fD)⟩:z2)).bind fun z9A=>(y48 zf zY z2h z1k z9A.2 (nth (yf z1M zI []) z3g)).bind fun zGP=>(y4d zf zY z2h z1k z9A.2 (fun(y0:z2) (y1:z2)=>y1q y0 y1) (⟨z6O,z6P⟩:z2) zGP).bind fun zc1=>chk ((0:Int)≤(nth (yf z1M zI []) z3g)∧(nth (yf z1M zI []) z3g)<((zf.fVLs.length:Nat):Int)) (y2P z1M zI zf zY z2h z1k zQ zc0 zwT (max z85 ((nth zf.fVLs (nth (yf z1M zI []) z3g)).fMax)) (i64 (z3g+1)) zc1.2 z9A.1.fN z9A.1.fD zc1.1.fN zc1.1.fD)) else zc0 z85 z8G z86 z87 z6O z6P
theorem y9u{n:Nat}{z1M:List (Int×List Int)}{zI:Int}{zf:zs}{zY:List (List ze)}{z2h:List (zO×z2)}{z1k:List (z8×Int)}{zQ:z8}{zc0:Int→Int→Int→Int→Int→Int→Option (List (List z6)×Int×Int×(List (zO×z2)))}{z85:Int}{z3g:Int}{z8G:Int}{z86:Int}{z87:Int}{z6O:Int}{z6P:Int}{r:List (List z6)×Int×Int×(List (zO×z2))}(h:y2P z1M zI zf zY z2h z1k zQ zc0 n z85 z3g z8G z86 z87 z6O z6P=some r):∃ m,n=m+1:=by
 cases n with
 | zero=>cases h
 | succ m=>exact⟨m,rfl⟩
def y2Q(zf:zs)(z1M:List (Int×List Int))(zY:List (List ze))(z2h:List (zO×z2))(z1k:List (z8×Int))(zQ:z8)(zc2:(List (List z6))→Int→Option (List (List z6)×Int×Int×(List (zO×z2)))):Nat→(List (List z6))→Int→Int→Option (List (List z6)×Int×Int×(List (zO×z2)))
 | 0,_,_,_=>none
 | zwU+1,z32,zI,z6Q=>if decide (zI<((zf.fK.length:Nat):Int)) then jp2 (fun(z9B:List (List z6)) (zc3:Int)=>y2Q zf z1M zY z2h z1k zQ zc2 zwU z9B (i64 (zI+1)) zc3) fun zpV=>if decide ((((yf z1M zI []).length:Nat):Int)=0) then zpV z32 z6Q else(y2F 0).bind fun zgi=>(y2F 0).bind fun zgj=>jp6 (fun(zen:Int) (zc4:Int) (z3B:Int) (z3C:Int) (z3D:Int) (z3E:Int)=>(y2F zen).bind fun z58=>chk ((0:Int)≤zI∧zI<((zf.fK.length:Nat):Int)) (chk ((((z32++([([(⟨(⟨z3B,z3C⟩:z2),(⟨z3D,z3E⟩:z2)⟩:z6),(⟨z58,(⟨1,((nth zf.fK zI).fSlow)⟩:z2)⟩:z6)]:List z6)]:List (List z6))).length:Nat):Int)*24≤140737488355328∧(((z32++([([(⟨(⟨z3B,z3C⟩:z2),(⟨z3D,z3E⟩:z2)⟩:z6),(⟨z58,(⟨1,((nth zf.fK zI).fSlow)⟩:z2)⟩:z6)]:List z6)]:List (List z6))).length:Nat):Int)≤4611686018427387904) (zpV (z32++([([(⟨(⟨z3B,z3C⟩:z2),(⟨z3D,z3E⟩:z2)⟩:z6),(⟨z58,(⟨1,((nth zf.fK zI).fSlow)⟩:z2)⟩:z6)]:List z6)]:List (List z6))) zc4))) fun zc0=>y2P z1M zI zf zY z2h z1k zQ zc0 yx 0 0 z6Q zgi.fN zgi.fD zgj.fN zgj.fD else zc2 z32 z6Q
theorem y9v{n:Nat}{zf:zs}{z1M:List (Int×List Int)}{zY:List (List ze)}{z2h:List (zO×z2)}{z1k:List (z8×Int)}{zQ:z8}{zc2:(List (List z6))→Int→Option (List (List z6)×Int×Int×(List (zO×z2)))}{z32:List (List z6)}{zI:Int}{z6Q:Int}{r:List (List z6)×Int×Int×(List (zO×z2))}(h:y2Q zf z1M zY z2h z1k zQ zc2 n z32 zI z6Q=some r):∃ m,n=m+1:=by
 cases n with
 | zero=>cases h
 | succ m=>exact⟨m,rfl⟩
def y53(zf:zs)(zY:List (List ze))(zc5:List (zO×z2))(z1k:List (z8×Int))(zc6:Int)(zQ:z8):Option (List (List z6)×Int×Int×(List (zO×z2))):=
 jp5 (fun(z3h:List (List z6)) (z88:Int) (zc7:Int) (z1M:List (Int×List Int)) (z2h:List (zO×z2))=>jp2 (fun(z7l:List (List z6)) (zeo:Int)=>chk ((((z3h++z7l).length:Nat):Int)*24≤140737488355328∧(((z3h++z7l).length:Nat):Int)≤4611686018427387904) (some ((z3h++z7l),z88,zeo,z2h))) fun zc2=>y2Q zf z1M zY z2h z1k zQ zc2 yx ([]:List (List z6)) 0 zc7) fun zbT=>y2O zY zQ zf z1k zbT yx ([]:List (List z6)) 0 0 zc6 ([]:List (Int×List Int)) zc5
theorem yck{Z:Zp}{z2U:Nat}{z5C:Option Addr}{z5D:Nat}{z5E:Option Addr}{z5F:Nat}{z5G:Option Addr}{z5H:Nat}{z5I:Option Addr}{z5J:Nat}{z5K:Option Addr}{z5L:Nat}{z5M:Option Addr}{z5N:Nat}{z5O:Option Addr}{z5P:Nat}{z5Q:Option Addr}{z5R:Nat}{z4k:Option Addr}{z4l:Nat}{z21:Nat}{z24:Nat}{zf:zs}{zY:List (List ze)}{zc5:List (zO×z2)}{z1k:List (z8×Int)}{zc6:Int}{zQ:z8}{r:List (List z6)×Int×Int×(List (zO×z2))}(h:y53 zf zY zc5 z1k zc6 zQ=some r)(w₀:World)(hz:PZ (fps [stb z2U 119 [(.slice z5C zf.fM.length z5D),(.slice z5E zf.fC0.length z5F),(.slice z5G zf.fS.length z5H),(.slice z5I zf.fK.length z5J),(.slice z5K zf.fVLs.length z5L),(.slice z5M zf.fH.length z5N),(.slice z5O zf.fU.length z5P),(.slice z5Q zf.fV0.length z5R),(.slice z4k zY.length z4l),(.map (some z21)),(.map (some z24)),(vi zc6)],ym z21 (fun x=>Value.agg (y2J x).toArray) (fun x=>Value.agg (yA x).toArray) zc5,ym z24 (fun x=>Value.agg (yE x).toArray) (Value.int .i64) z1k]) w₀ Z)(zgk:ZS Z 4 (y3L Z) z5C z5D zf.fM)(zgl:ZS Z 4 (y4n Z) z5E z5F zf.fC0)(zgm:ZS Z 4 (fun r x=>r=e64 x) z5G z5H zf.fS)(zep:ZS Z 4 (fun r x=>r=e62 x) z5I z5J zf.fK)(zaf:ZS Z 7 (p69 Z) z5K z5L zf.fVLs)(zgn:ZS Z 5 (fun r x=>r=y4C x) z5M z5N zf.fH)(zgo:ZS Z 3 (y4o Z) z5O z5P zf.fU)(zgp:ZS Z 4 (fun r x=>r=y4D x) z5Q z5R zf.fV0)(zeq:ZS Z 1 (p58 Z) z4k z4l zY)(hown:Hp (fps [stb z2U 119 [(.slice z5C zf.fM.length z5D),(.slice z5E zf.fC0.length z5F),(.slice z5G zf.fS.length z5H),(.slice z5I zf.fK.length z5J),(.slice z5K zf.fVLs.length z5L),(.slice z5M zf.fH.length z5N),(.slice z5O zf.fU.length z5P),(.slice z5Q zf.fV0.length z5R),(.slice z4k zY.length z4l),(.map (some z21)),(.map (some z24)),(vi zc6)],ym z21 (fun x=>Value.agg (y2J x).toArray) (fun x=>Value.agg (yA x).toArray) zc5,ym z24 (fun x=>Value.agg (yE x).toArray) (Value.int .i64) z1k]) w₀ w₀ [stb z2U 119 [(.slice z5C zf.fM.length z5D),(.slice z5E zf.fC0.length z5F),(.slice z5G zf.fS.length z5H),(.slice z5I zf.fK.length z5J),(.slice z5K zf.fVLs.length z5L),(.slice z5M zf.fH.length z5N),(.slice z5O zf.fU.length z5P),(.slice z5Q zf.fV0.length z5R),(.slice z4k zY.length z4l),(.map (some z21)),(.map (some z24)),(vi zc6)],ym z21 (fun x=>Value.agg (y2J x).toArray) (fun x=>Value.agg (yA x).toArray) zc5,ym z24 (fun x=>Value.agg (yE x).toArray) (Value.int .i64) z1k]):
  Calls Tryz.prog 79 #[(vp z2U),(.agg #[(vi zQ.fNode),(vi zQ.fQ)])] w₀ fun e w'=>∃ Zn:Zp,∃ zGQ:Option Addr,∃ zGR:Nat,∃ zGS:List Value,e = .returned (.tuple #[(.slice zGQ r.1.length zGR),(vi r.2.1)])∧(RR 1 (y26 (Z++Zn)) zGS r.1)∧Hp (fps [stb z2U 119 [(.slice z5C zf.fM.length z5D),(.slice z5E zf.fC0.length z5F),(.slice z5G zf.fS.length z5H),(.slice z5I zf.fK.length z5J),(.slice z5K zf.fVLs.length z5L),(.slice z5M zf.fH.length z5N),(.slice z5O zf.fU.length z5P),(.slice z5Q zf.fV0.length z5R),(.slice z4k zY.length z4l),(.map (some z21)),(.map (some z24)),(vi zc6)],ym z21 (fun x=>Value.agg (y2J x).toArray) (fun x=>Value.agg (yA x).toArray) zc5,ym z24 (fun x=>Value.agg (yE x).toArray) (Value.int .i64) z1k]) w₀ w' [fz Zn,row (.slice zGQ r.1.length zGR) 227 1 zGS,stb z2U 119 [(.slice z5C zf.fM.length z5D),(.slice z5E zf.fC0.length z5F),(.slice z5G zf.fS.length z5H),(.slice z5I zf.fK.length z5J),(.slice z5K zf.fVLs.length z5L),(.slice z5M zf.fH.length z5N),(.slice z5O zf.fU.length z5P),(.slice z5Q zf.fV0.length z5R),(.slice z4k zY.length z4l),(.map (some z21)),(.map (some z24)),(vi r.2.2.1)],ym z21 (fun x=>Value.agg (y2J x).toArray) (fun x=>Value.agg (yA x).toArray) r.2.2.2,ym z24 (fun x=>Value.agg (yE x).toArray) (Value.int .i64) z1k]:=by
 unfold y53 at h
 refine Kg Tryz.func79 Tryz.ntmps79 hown ?_
 let N:List Value:=[(vi zQ.fNode),(vi zQ.fQ)];refine WC.pool (WC.b (Ld (Lg 3 (yI (cs:=N) U U) ?_)))
 intro z4B _
 refine La U<|La U<|WL.nil<|Lb<|WC.b<|Ld<|La U<|La U<|WL.nil<|Lb<|WC.b<|Ld<|Lg 20 (y3b (Value.int .i64)<|slv (α:=Int)) ?_
 intro z59 _
 let C:Value:=(.slice z4k zY.length z4l);let D:Value:=(.slice z5K zf.fVLs.length z5L);let F:Value:=(.slice z5E zf.fC0.length z5F);let G:Value:=(.slice z5Q zf.fV0.length z5R);let H:Value:=(.slice z5C zf.fM.length z5D);let I:Value:=(.slice z5G zf.fS.length z5H);let J:Value:=(.slice z5I zf.fK.length z5J);let K:Value:=(.slice z5M zf.fH.length z5N);let L:Value:=(.slice z5O zf.fU.length z5P);refine WL.ghL (M:=[y2m (y2e 3 1 e3) ([]:List (Int×((Nat×(Option Addr×Nat))×List Int))),ym z59 (Value.int .i64) slv (y2I ([]:List (Int×((Nat×(Option Addr×Nat))×List Int)))),stb z4B 121 N,fz [],stb z2U 119 [H,F,I,J,D,K,L,G,C,(.map (some z21)),(.map (some z24)),(vi zc6)],ym z21 (fun x=>Value.agg (y2J x).toArray) (fun x=>Value.agg (yA x).toArray) zc5,ym z24 (fun x=>Value.agg (yE x).toArray) (Value.int .i64) z1k]) (fun _ h=>Hp.ye9 (y2e 3 1 e3) h) (La U (WL.nil (Lb (WC.b (Ld (La U (WL.nil (Lb ?_))))))))
 obtain⟨zbT,zQI,h⟩:=ydH h
 refine WC.yaU (fun(z3h:List (List z6)) (z88:Int) (zc7:Int) (z1M:List (Int×List Int)) (z2h:List (zO×z2)) (zc8:Zp) (z6R:Option Addr) (z6S:Nat) (z8H:List Value) (z7m:List (Int×((Nat×(Option Addr×Nat))×List Int)))=>(zbT z3h z88 zc7 z1M z2h=some r)∧(Zle (Z++[]) (Z++zc8))∧(RR 1 (y26 (Z++zc8)) z8H z3h)∧(dat z7m=z1M)) (fun z3h z88 zc7 z1M z2h zc8 z6R z6S z8H z7m=>[(0,(vp z2U)),(3,(vp z4B)),(6,(.slice z6R z3h.length z6S)),(7,vn),(8,(.map<|some z59)),(9,(vi z88))]) (fun z3h z88 zc7 z1M z2h zc8 z6R z6S z8H z7m=>[fz zc8,row (.slice z6R z3h.length z6S) 227 1 z8H,stb z2U 119 [H,F,I,J,D,K,L,G,C,(.map<|some z21),(.map<|some z24),(vi zc7)],stb z4B 121 N,ym z59 (Value.int .i64) slv (y2I z7m),y2m (y2e 3 1 e3) z7m,ym z21 (fun x=>Value.agg (y2J x).toArray) (fun x=>Value.agg (yA x).toArray) z2h,ym z24 (fun x=>Value.agg (yE x).toArray) (Value.int .i64) z1k]) ?_ ?_
 ·skip
  refine WC.b<|Ld<|La U<|Le 22 (y1f U)<|Le 23 (ya fo_119_1 U U)<|Le 24 (yc oneT_32 U<|yi .h4 U)<|Le 25 (yG Tryz.underlying32 U)<|La U<|WL.nil<|Lb<|WC.block<|WC.nilRow 227 1<|WC.yic (fun(ziQ:Nat) (z3d:List (List z6)) (z6i:Int) (z12:Int) (z56:Int) (z2y:List (Int×List Int)) (z3e:List (zO×z2)) (z4C:Zp) (zag:Option Addr) (zah:Nat) (z8I:List Value) (z89:List (Int×((Nat×(Option Addr×Nat))×List Int)))=>(y2O zY zQ zf z1k zbT ziQ z3d z6i z12 z56 z2y z3e=some r)∧(Zle (Z++[]) (Z++z4C))∧(RR 1 (y26 (Z++z4C)) z8I z3d)∧(dat z89=z2y)) (fun ziQ z3d z6i z12 z56 z2y z3e z4C zag zah z8I z89=>[(0,(vp z2U)),(3,(vp z4B)),(6,(.slice zag z3d.length zah)),(7,vn),(8,(.map<|some z59)),(9,(vi z6i)),(24,C),(25,(vi ((zY.length:Nat):Int))),(26,(vi z12))]) (fun ziQ z3d z6i z12 z56 z2y z3e z4C zag zah z8I z89=>[fz z4C,row (.slice zag z3d.length zah) 227 1 z8I,stb z2U 119 [H,F,I,J,D,K,L,G,C,(.map<|some z21),(.map<|some z24),(vi z56)],stb z4B 121 N,ym z59 (Value.int .i64) slv (y2I z89),y2m (y2e 3 1 e3) z89,ym z21 (fun x=>Value.agg (y2J x).toArray) (fun x=>Value.agg (yA x).toArray) z3e,ym z24 (fun x=>Value.agg (yE x).toArray) (Value.int .i64) z1k]) (fun ziQ z3d z6i z12 z56 z2y z3e z4C zag zah z8I z89=>ziQ) ⟨yx,([]:List (List z6)),0,0,zc6,([]:List (Int×List Int)),zc5,[],none,0,[],([]:List (Int×((Nat×(Option Addr×Nat))×List Int)))⟩ ⟨h,(Zle.refl _),(RR.nil _ _),U⟩ (.r9 U U U U U U U U U) (.s8 .h4 .here .h3 .h2 .h1 .here .here .here) ?_
  rintro ziQ z3d z6i z12 z56 z2y z3e z4C zag zah z8I z89 ⟨h,zK,zpW,zmu⟩
  obtain⟨zwQ,rfl⟩:=y9t h
  rw[y2O] at h
  refine WC.b<|Ld<|La U<|WL.nil<|Lb<|WC.b<|WC.cond U (fun zwV=>?_)<|fun zwV=>?_
  ·replace h:=yr h zwV
   refine WC.skip<|Lb ?_
   obtain⟨zpT,zQJ,h⟩:=ydH h
   refine WC.yaU (fun(z9y:List (List z6)) (zbU:Int) (zbV:Int) (zbW:List (Int×List Int)) (zbX:List (zO×z2)) (zgq:Zp) (ziR:Option Addr) (ziS:Nat) (ziT:List Value) (zgr:List (Int×((Nat×(Option Addr×Nat))×List Int)))=>(zpT z9y zbU zbV zbW zbX=some r)∧(Zle (Z++z4C) (Z++zgq))∧(RR 1 (y26 (Z++zgq)) ziT z9y)∧(dat zgr=zbW)) (fun z9y zbU zbV zbW zbX zgq ziR ziS ziT zgr=>[(0,(vp z2U)),(3,(vp z4B)),(6,(.slice ziR z9y.length ziS)),(7,vn),(8,(.map<|some z59)),(9,(vi zbU)),(24,C),(25,(vi ((zY.length:Nat):Int))),(26,(vi z12))]) (fun z9y zbU zbV zbW zbX zgq ziR ziS ziT zgr=>[fz zgq,row (.slice ziR z9y.length ziS) 227 1 ziT,stb z2U 119 [H,F,I,J,D,K,L,G,C,(.map<|some z21),(.map<|some z24),(vi zbV)],stb z4B 121 N,ym z59 (Value.int .i64) slv (y2I zgr),y2m (y2e 3 1 e3) zgr,ym z21 (fun x=>Value.agg (y2J x).toArray) (fun x=>Value.agg (yA x).toArray) zbX,ym z24 (fun x=>Value.agg (yE x).toArray) (Value.int .i64) z1k]) ?_ ?_
   ·skip
    refine WC.block<|WC.b ?_
    obtain⟨zQK,h⟩:=yl h
    refine Ld<|La U<|L0 (dd:=29) U U (Z:=(Z++z4C)) (Pr:=(p58 (Z++z4C))) y81 U U ((zeq.mono<|(Zle.left _ _).trans zK).weak (fun _ _ h=>y1B ((Zle.left _ _).trans zK) h)) zQK ?_
    rintro z15g z15h zQL z15i ⟨z15j,z15k,rfl,zGT⟩
    refine Le 30 (yc y6w U<|y3a (hz.pv2 .here) zQL U)<|La U<|La U<|WL.nil<|Lb<|WC.b<|WC.b ?_
    obtain⟨zGM,zQM,h⟩:=za h
    refine Ld<|La U<|Le 32 (y16<|L3 (l:=[.tmp 3])<|.cons U .nil)<|Lk 33 (zb Tryz.call75<|.r2 U U) .nil (yai hz .nil .here (.cons .h3 .nil) fun w pz ho la=>y6P _ _ _ (ziI:=117) (zpN:=[(vp z4B)]) _ (ziH:=(fun(y0:ze)=>y4r y0 zQ)) _ zQM w pz (zGT.mono<|Zle.left _ _) Tryz.call117<|fun w' hz' y0  r  hr=>ybl hr w' hz'<|(la _ (.head _) _).stb)<|La U<|WL.nil<|Lb<|WC.cond U (fun zwW=>?_)<|fun zwW=>?_
    ·replace h:=yr h zwW
     refine WC.exit<|Ln<|Lu ?_
     exact Lo ⟨z3d,z6i,z56,z2y,z3e,z4C,zag,zah,z8I,z89⟩ ⟨h,(Zle.refl _),zpW,zmu⟩ (.r9 U U U U U U U U U)<|.a8
    ·replace h:=ys h zwW
     refine WC.skip<|Lb<|WC.b ?_
     obtain⟨zQN,h⟩:=yl h
     refine Ld<|La U<|La U<|Le 37 (y1f U)<|Le 38 (ya y6j U U)<|Le 39 (ya y7F U U)<|Le 40 (yc y7G U<|yi .h2 U)<|La U<|L0 (dd:=42) U U (Z:=(Z++z4C)) (Pr:=(p69 (Z++z4C))) y9q U U ((zaf.mono<|(Zle.left _ _).trans zK).weak (fun _ _ h=>y1e ((Zle.left _ _).trans zK) h)) zQN ?_
     rintro z15l z15m zQO z15n ⟨z15o,z15p,rfl,z15q⟩
     refine Le 43 (ya y7H U U)<|Le 44 (yc yq U<|y17 (hz.pv2 .here) zQO U)<|Le 45 (ybx U U U)<|La U<|WL.nil<|Lb<|WC.b ?_
     obtain⟨zQP,h⟩:=yl h
     obtain⟨z3f,zQQ,h⟩:=za h
     refine Ld<|La U<|Le 47 (y1f U)<|Le 48 (ya y6j U U)<|Le 49 (ya y7F U U)<|Le 50 (yc y7G U<|yi .h2 U)<|La U<|L0 (dd:=52) U U (Z:=(Z++z4C)) (Pr:=(p69 (Z++z4C))) y9q U U ((zaf.mono<|(Zle.left _ _).trans zK).weak (fun _ _ h=>y1e ((Zle.left _ _).trans zK) h)) zQP ?_
     rintro z15r z15s zQR z15t ⟨z15u,z15v,rfl,z15w⟩
     refine Le 53 (ya y7H U U)<|Le 54 (yc yq U<|y17 (hz.pv2 .here) zQR U)<|Lk 55 (zb Tryz.call80<|.cons U .nil) .nil (ccz hz .nil .here fun w pz ho=>y5C zQQ w pz ) (Lg 12 (yv (cs:=[(vi 0),(vi 0)]) zV U) fun zpX _=>Ll U U (yn zz U U U .here U U U)<|WL.nil<|Lb ?_)
     obtain⟨zpU,zQS,h⟩:=ydH h
     refine WC.yaU (fun(z9z:List (List z6)) (zbY:Int) (zbZ:List (Int×List Int)) (zac:Int) (zad:Int) (zgs:Zp) (ziU:Option Addr) (ziV:Nat) (ziW:List Value) (zgt:List (Int×((Nat×(Option Addr×Nat))×List Int)))=>(zpU z9z zbY zbZ zac zad=some r)∧(Zle (Z++z4C) (Z++zgs))∧(RR 1 (y26 (Z++zgs)) ziW z9z)∧(dat zgt=zbZ)) (fun z9z zbY zbZ zac zad zgs ziU ziV ziW zgt=>[(0,(vp z2U)),(3,(vp z4B)),(6,(.slice ziU z9z.length ziV)),(7,vn),(8,(.map<|some z59)),(9,(vi<|max z6i<|(nth zf.fVLs z12).fMax)),(10,(vi z12)),(12,(vp zpX)),(24,C),(25,(vi ((zY.length:Nat):Int))),(26,(vi z12))]) (fun z9z zbY zbZ zac zad zgs ziU ziV ziW zgt=>[fz zgs,row (.slice ziU z9z.length ziV) 227 1 ziW,stb z2U 119 [H,F,I,J,D,K,L,G,C,(.map<|some z21),(.map<|some z24),(vi zbY)],stb z4B 121 N,ym z59 (Value.int .i64) slv (y2I zgt),y2m (y2e 3 1 e3) zgt,stb zpX 175 [(vi zac),(vi zad)],ym z21 (fun x=>Value.agg (y2J x).toArray) (fun x=>Value.agg (yA x).toArray) z3e,ym z24 (fun x=>Value.agg (yE x).toArray) (Value.int .i64) z1k]) ?_ ?_
     ·skip
      refine WC.b ?_
      obtain⟨z2g,zQT,h⟩:=za h
      refine Ld<|La U<|Le 58 (ya y94 U U)<|Le 59 (yc yq U<|yi .h4 U)<|Lk 60 (zb Tryz.call77<|.r2 U U) .nil (ccz hz .nil .h1 fun w pz ho=>yak zQT w pz zGT)<|La U<|La U<|La U (Lg 13 (yv (cs:=[(vi 0),(vi 0),(vi 0)]) y5N U) fun zwX _=>Ll U U (yn y60 U U U .here U U U)<|La U<|WL.nil<|Lb<|WC.b<|Ld<|La U<|WL.nil<|Lb<|WC.cond U (fun zwY=>?_)<|fun zwY=>?_)
      ·replace h:=yr h zwY
       refine WC.b ?_
       obtain⟨zem,zQU,h⟩:=za h
       obtain⟨zGN,zQV,h⟩:=za h
       obtain⟨zwR,zQW,h⟩:=za h
       obtain⟨zGO,zQX,h⟩:=za h
       obtain⟨zwS,zQY,h⟩:=za h
       obtain⟨zae,zQZ,h⟩:=za h
       let S:List Value:=[(vi z2g.1.fNode),(vi z2g.1.fNext),(vi z2g.1.fQ)];refine Lv (fun i=>[13,22,23,24].contains i) [y7S z2U 119 [(9,(.map (some z21))),(10,(.map (some z24)))],yea z21 (fun x=>Value.agg (y2J x).toArray) (fun x=>Value.agg (yA x).toArray) (⟨z12,zem⟩:zO) ((⟨0,0⟩:z2):z2) (yf z3e (⟨z12,zem⟩:zO) (⟨0,0⟩:z2)),stb zwX 60 S] U (Lf 0 64 U (fun _=>q_m U) (Lf 1 65 U (fun _=>q_m U) (Lf 2 66 U (fun _=>y1f U) (Lf 3 67 U (fun _=>ya ydN U U) (L7 4 68 U (Sin.wk (.s3 .h4 .h7 .here) (.stb (.cons U (.cons U .nil)) (.any U (fun _ h=>y7t h) (.same .nil)))) (yc zsV U (y5Z .here (.head _))) (Lf 5 69 U (fun _=>q_m U) (Li 6 70 U (yh y3z U (yj .here) U) (L4 7 71 U (zb Tryz.call60 (.cons U .nil)) (ccz hz .nil .h2 fun w pz ho=>y67 zQU w pz ) (Lf 8 72 U (fun _=>yL (v:=(.agg #[(vi z12),(vi zem.fNode),(vi zem.fQ)])) (Lp (l:=[.tmp 69,.tmp 71]) (.r2 U U) [0,1]) (fun _=>by kernel_rfl)) (L7 9 73 U (Sin.wk (.s3 .h4 .h7 .here) (.stb (.cons U (.cons U .nil)) (.any U (fun _ h=>y7t h) (.same .nil)))) (yfg (k:=(⟨z12,zem⟩:zO)) (dflt:=((⟨0,0⟩:z2):z2)) zsW Tryz.underlying116 zV U U U .h1) (Lf 10 74 U (fun _=>q_m U) (Lf 11 75 U (fun _=>q_m U) (Lf 12 76 U (fun _=>q_m U) (Lf 14 78 U (fun _=>q_m U) (Lf 15 79 U (fun _=>y1f U) (Lf 16 80 U (fun _=>ya ydO U U) (L7 17 81 U (Sin.wk (.s3 .h4 .h7 .here) (.stb (.cons U (.cons U .nil)) (.any U (fun _ h=>y7t h) (.same .nil)))) (yc zlz U (y5Z .here (.tail _ (.head _)))) (L7 18 82 U (Sin.wk (.s3 .h4 .h7 .here) (.stb (.cons U (.cons U .nil)) (.any U (fun _ h=>y7t h) (.same .nil)))) (yh y3z U (yj .h2) U) (Ka (i:=13) (dd:=77) U (by kernel_rfl) U U U (.inl ⟨U,(by exact(Sin.wk (.s3 .h6 .here .h1) (.stb (.cons U (.cons U .nil)) (.any U (fun _ h=>y7t h) (.same .nil)))))⟩) (zb Tryz.call121 (.r2 U U)) (.s2 (.there .h7) (.there .h7)) (yai hz (.s2 (.there .h7) (.there .h7)) .h2 (.cons .h4 .nil) fun w pz ho la=>Calls.mono (y7U zQV w pz ((((zgk.mono ((Zle.left _ _).trans zK)).weak (fun _ _ h=>y1c ((Zle.left _ _).trans zK) h)).mono (Zle.left _ _)).weak (fun _ _ h=>y1c (Zle.left _ _) h)) ((((zgl.mono ((Zle.left _ _).trans zK)).weak (fun _ _ h=>y1o ((Zle.left _ _).trans zK) h)).mono (Zle.left _ _)).weak (fun _ _ h=>y1o (Zle.left _ _) h)) ((zgm.mono ((Zle.left _ _).trans zK)).mono (Zle.left _ _)) ((zep.mono ((Zle.left _ _).trans zK)).mono (Zle.left _ _)) ((((zaf.mono ((Zle.left _ _).trans zK)).weak (fun _ _ h=>y1e ((Zle.left _ _).trans zK) h)).mono (Zle.left _ _)).weak (fun _ _ h=>y1e (Zle.left _ _) h)) ((zgn.mono ((Zle.left _ _).trans zK)).mono (Zle.left _ _)) ((((zgo.mono ((Zle.left _ _).trans zK)).weak (fun _ _ h=>y1p ((Zle.left _ _).trans zK) h)).mono (Zle.left _ _)).weak (fun _ _ h=>y1p (Zle.left _ _) h)) ((zgp.mono ((Zle.left _ _).trans zK)).mono (Zle.left _ _)) ((((zeq.mono ((Zle.left _ _).trans zK)).weak (fun _ _ h=>y1B ((Zle.left _ _).trans zK) h)).mono (Zle.left _ _)).weak (fun _ _ h=>y1B (Zle.left _ _) h)) ((la _ (.head _) _).stb) ho) (fun _ _ h'=>⟨h'.1,trivial,h'.2⟩)) ?_)))))))))))))))))))
       intro _
       refine L4 19 83 U (zb Tryz.call60<|.cons U .nil) (ccz hz .nil .h4 fun w pz ho=>y67 zQW w pz )<|Li 20 84 U (y2C (k:=zwR) (dflt:=(0:Int)) zdA Tryz.underlying117 y2v U U U .h1)<|L4 21 85 U (zb Tryz.call80<|.cons U .nil) (ccz hz .nil .h4 fun w pz ho=>y5C zQX w pz ) (Ka (i:=22) (dd:=86) U (by kernel_rfl) U U U (.inl ⟨U,(by exact(Sin.wk (.s3 .here .here .h1)<|.stb (.cons U<|.cons U .nil)<|.any U (fun _ h=>y7t h)<|.same .nil))⟩) (zb Tryz.call118<|.r4 U U U U) (.s3 .h6 .here .here) (ccz hz (.s3 .h6 .here .here) .h2 fun w pz ho=>Calls.mono (y7i _ _ _ _ _ _ _ _ _ _ _ _ _ _ _ _ _ _ _ _ _ _ (zbS:=120) (zgd:=[]) _ _ _ _ _ (zdZ:=(fun(y0:z2) (y1:z2)=>y3P y0 y1)) _ _ _ zQY w pz ((zgk.mono<|(Zle.left _ _).trans zK).weak (fun _ _ h=>y1c ((Zle.left _ _).trans zK) h)) ((zgl.mono<|(Zle.left _ _).trans zK).weak (fun _ _ h=>y1o ((Zle.left _ _).trans zK) h)) (zgm.mono<|(Zle.left _ _).trans zK) (zep.mono<|(Zle.left _ _).trans zK) ((zaf.mono<|(Zle.left _ _).trans zK).weak (fun _ _ h=>y1e ((Zle.left _ _).trans zK) h)) (zgn.mono<|(Zle.left _ _).trans zK) ((zgo.mono<|(Zle.left _ _).trans zK).weak (fun _ _ h=>y1p ((Zle.left _ _).trans zK) h)) (zgp.mono<|(Zle.left _ _).trans zK) ((zeq.mono<|(Zle.left _ _).trans zK).weak (fun _ _ h=>y1B ((Zle.left _ _).trans zK) h)) Tryz.call120 (fun w' hz' y0 y1  r  hr=>ycG hr w' hz' ) ho)<|fun _ _ h'=>⟨h'.1,trivial,h'.2⟩) fun _=>Ka (i:=23) (dd:=87) U (by kernel_rfl) U U U (.inl ⟨U,(by exact(Sin.wk (.s3 .here .here .h1)<|.stb (.cons U<|.cons U .nil)<|.any U (fun _ h=>y7t h)<|.same .nil))⟩) (zb Tryz.call118<|.r4 U U U U) (.a3) (ccz hz (.a3) .h2 fun w pz ho=>Calls.mono (y7i _ _ _ _ _ _ _ _ _ _ _ _ _ _ _ _ _ _ _ _ _ _ (zbS:=119) (zgd:=[]) _ _ _ _ _ (zdZ:=(fun(y0:z2) (y1:z2)=>y1q y0 y1)) _ _ _ zQZ w pz ((zgk.mono<|(Zle.left _ _).trans zK).weak (fun _ _ h=>y1c ((Zle.left _ _).trans zK) h)) ((zgl.mono<|(Zle.left _ _).trans zK).weak (fun _ _ h=>y1o ((Zle.left _ _).trans zK) h)) (zgm.mono<|(Zle.left _ _).trans zK) (zep.mono<|(Zle.left _ _).trans zK) ((zaf.mono<|(Zle.left _ _).trans zK).weak (fun _ _ h=>y1e ((Zle.left _ _).trans zK) h)) (zgn.mono<|(Zle.left _ _).trans zK) ((zgo.mono<|(Zle.left _ _).trans zK).weak (fun _ _ h=>y1p ((Zle.left _ _).trans zK) h)) (zgp.mono<|(Zle.left _ _).trans zK) ((zeq.mono<|(Zle.left _ _).trans zK).weak (fun _ _ h=>y1B ((Zle.left _ _).trans zK) h)) Tryz.call119 (fun w' hz' y0 y1  r  hr=>y6L hr w' hz' ) ho)<|fun _ _ h'=>⟨h'.1,trivial,h'.2⟩) ?_)
       intro _
       refine Kd (i:=24) U (by kernel_rfl) U U U (by kernel_rfl) (yn zz U U U .h4 U U U)<|WD.done (by kernel_rfl)<|Lb ?_
       obtain⟨zR0,h⟩:=yl h
       refine Lv (fun i=>[9,10].contains i) [y7S zwX 60 [(2,(vi z2g.1.fQ))]] U<|Lf 0 88 U (fun _=>q_m U)<|Lf 1 89 U (fun _=>ya y76 U U)<|L7 2 90 U (Sin.wk (.cons .h4 .nil)<|.stb (.cons U .nil) .nil) (yc yq U<|y5Z .here<|.head _)<|Lf 3 91 U (fun _=>q_m U)<|Lf 4 92 U (fun _=>ya y76 U U)<|Li 5 93 U (yc yq U<|yi .h4 U)<|Li 6 94 U (y2C (k:=z2g.1.fQ) (dflt:=(((none,0),[]):(Option Addr×Nat)×List Int)) y43 Tryz.underlying219 ydP U U U<|.there .h7)<|WD.gh (fun _ h=>Hp.yaP z2g.1.fQ zmu (.there<|.there .h7) h) ?_
       rintro⟨zR1,zR2⟩ zR3
       refine WD.repin (i:=94) U (u:=(.slice zR1 ((yf z2y z2g.1.fQ []).length) zR2)) (congrArg slv zR3)<|Lf 7 95 U (fun _=>q_m U) (WD.new (i:=8) (dd:=96) U (by kernel_rfl) U U U (yS (cs:=([z12]:List Int).flatMap e3) y52 (Lp (l:=[.tmp 95]) (.cons U .nil) [0]) (fun _=>by kernel_rfl) U (by unfold maxLen;omega)) (fun h'=>absurd h' (by decide)) fun zR4 _=>WD.old (i:=9) (dd:=97) U (by kernel_rfl) U U U U (fun _=>(Sin.wk (.cons .h7 .nil)<|.stb (.cons U .nil) .nil)) (y4W (enc:=e3) (l1:=yf z2y z2g.1.fQ []) (l2:=([z12]:List Int)) y52 U U .h1 (fun _=>U) U U (y3u .here) (y5o e3_oc _) zR0) ?_)
       rintro⟨zpY,zpZ⟩ _
       refine Kd (i:=10) U (by kernel_rfl) U U U (by kernel_rfl) (y3o (k:=z2g.1.fQ) (v:=(((zpY,zpZ),(yf z2y z2g.1.fQ [])++([z12]:List Int)):(Option Addr×Nat)×List Int)) y43 Tryz.underlying219 U U U U<|.there<|.there<|.there<|.there .h7)<|WD.ghL (fun _ h=>Hp.yec (k:=z2g.1.fQ) (.s2 .h1 .h2) h)<|WD.ghL (M:=[ym z59 (Value.int .i64) slv (y2I<|yF z89 z2g.1.fQ ((0,(zpY,zpZ)),(yf z2y z2g.1.fQ [])++([z12]:List Int))),y2m (y2e 3 1 e3) (yF z89 z2g.1.fQ ((0,(zpY,zpZ)),(yf z2y z2g.1.fQ [])++([z12]:List Int))),row (.slice (some ⟨zR4,0,none⟩) (([z12]:List Int).length) 1) 3 1 (([z12]:List Int).flatMap e3),stb zpX 175 [(vi zae.1.fN),(vi zae.1.fD)],stb z2U 119 [H,F,I,J,D,K,L,G,C,(.map<|some z21),(.map<|some z24),(vi zae.2)],ym z21 (fun x=>Value.agg (y2J x).toArray) (fun x=>Value.agg (yA x).toArray) z3e,ym z24 (fun x=>Value.agg (yE x).toArray) (Value.int .i64) z1k,stb zwX 60 S,fz z4C,row (.slice zag z3d.length zah) 227 1 z8I,stb z4B 121 N]) (fun _ h=>Hp.yfW .h1 (ycE _ _ _ _).symm h)<|WD.done (by kernel_rfl) ?_
       exact Lo ⟨z3d,zae.2,(yF z2y z2g.1.fQ ((yf z2y z2g.1.fQ [])++([z12]:List Int))),zae.1.fN,zae.1.fD,z4C,zag,zah,z8I,(yF z89 z2g.1.fQ ((0,(zpY,zpZ)),(yf z2y z2g.1.fQ [])++([z12]:List Int)))⟩ ⟨h,(Zle.refl _),zpW,(yfV zmu _ _ _)⟩ (.r11 U U U U U U U U U U U)<|.s9 (.there .h7) (.there .h7) .h4 .h7 .here .here .h1 .h1 .h1
      ·replace h:=ys h zwY
       obtain⟨z57,zR5,h⟩:=za h
       obtain⟨zR6,h⟩:=yl h
       refine Lv (fun i=>[4,8].contains i) [stb zpX 175 [(vi z3f.fN),(vi z3f.fD)]] U<|Lf 0 98 U (fun _=>q_m U)<|L7 1 99 U (Sin.of<|.cons .h1 .nil) (yh zg U (yj .here) U)<|Lf 2 100 U (fun _=>q_m U)<|Lf 3 101 U (fun _=>q_m U) (Ka (i:=4) (dd:=102) U (by kernel_rfl) U U U (.inl ⟨U,(Sin.of<|.cons .h3 .nil)⟩) (zb Tryz.call121<|.r2 U U) (.s2 (.there .h7)<|.there .h7) (yai hz (.s2 (.there .h7)<|.there .h7) .h2 (.cons .h4 .nil) fun w pz ho la=>Calls.mono (y7U zR5 w pz ((((zgk.mono<|(Zle.left _ _).trans zK).weak (fun _ _ h=>y1c ((Zle.left _ _).trans zK) h)).mono (Zle.left _ _)).weak (fun _ _ h=>y1c (Zle.left _ _) h)) ((((zgl.mono<|(Zle.left _ _).trans zK).weak (fun _ _ h=>y1o ((Zle.left _ _).trans zK) h)).mono (Zle.left _ _)).weak (fun _ _ h=>y1o (Zle.left _ _) h)) ((zgm.mono<|(Zle.left _ _).trans zK).mono (Zle.left _ _)) ((zep.mono<|(Zle.left _ _).trans zK).mono (Zle.left _ _)) ((((zaf.mono<|(Zle.left _ _).trans zK).weak (fun _ _ h=>y1e ((Zle.left _ _).trans zK) h)).mono (Zle.left _ _)).weak (fun _ _ h=>y1e (Zle.left _ _) h)) ((zgn.mono<|(Zle.left _ _).trans zK).mono (Zle.left _ _)) ((((zgo.mono<|(Zle.left _ _).trans zK).weak (fun _ _ h=>y1p ((Zle.left _ _).trans zK) h)).mono (Zle.left _ _)).weak (fun _ _ h=>y1p (Zle.left _ _) h)) ((zgp.mono<|(Zle.left _ _).trans zK).mono (Zle.left _ _)) ((((zeq.mono<|(Zle.left _ _).trans zK).weak (fun _ _ h=>y1B ((Zle.left _ _).trans zK) h)).mono (Zle.left _ _)).weak (fun _ _ h=>y1B (Zle.left _ _) h)) ((la _ (.head _) _).stb) ho)<|fun _ _ h'=>⟨h'.1,trivial,h'.2⟩) fun _=>Lf 5 103 U (fun _=>yL (v:=(.agg #[(vi z3f.fN),(vi z3f.fD),(vi z57.fN),(vi z57.fD)])) (Lp (l:=[.tmp 99,.tmp 102]) (.r2 U U) [0,1]) (fun _=>by kernel_rfl)) (WD.new (i:=6) (dd:=104) U (by kernel_rfl) U U U (yS (cs:=([(⟨z3f,z57⟩:z6)]:List z6).flatMap y1N) z80 (Lp (l:=[.tmp 103]) (.cons U .nil) [0]) (fun _=>by kernel_rfl) U (by unfold maxLen;omega)) (fun h'=>absurd h' (by decide)) fun ziX _=>WD.freezeS (ls:=([(⟨z3f,z57⟩:z6)]:List z6)) .here .h4 hz (RR.flat (enc:=y1N) (fun _=>U) _) ?_))
       intro zq0 zGU zR7
       let E:List Value:=[(.slice (some ⟨ziX,0,none⟩) (([(⟨z3f,z57⟩:z6)]:List z6).length) 1)];have zGV:RR 1 (y26 (Z++zq0)) E ([([(⟨z3f,z57⟩:z6)]:List z6)]:List (List z6)):=(RR.cons (r:=E) U (show y26 _ _ _ from⟨_,_,U,zR7⟩) (RR.nil _ _))
       refine WD.new (i:=7) (dd:=105) U (by kernel_rfl) U U U (yS (cs:=[(.slice (some ⟨ziX,0,none⟩) (([(⟨z3f,z57⟩:z6)]:List z6).length) 1)]) z9i (Lp (l:=[.tmp 104]) (.cons U .nil) [0]) (fun _=>by kernel_rfl) U (by unfold maxLen;omega)) (fun h'=>absurd h' (by decide)) ?_
       intro z15x _
       have zR8:RR 1 (y26 (Z++zq0)) (z8I++E) (z3d++([([(⟨z3f,z57⟩:z6)]:List z6)]:List (List z6))):=RR.app (zpW.weak (fun _ _ h=>y3M zGU h)) zGV
       refine WD.old (i:=8) (dd:=106) U (by kernel_rfl) U U U U (fun _=>(Sin.of<|.cons .h6 .nil)) (y8h (l1:=z3d) (l2:=([([(⟨z3f,z57⟩:z6)]:List z6)]:List (List z6))) (news:=E) (Pr:=(y26 (Z++zq0))) z9i U U .h6 zGV (y3u .here) (yb5 U ycq) zR6) ?_
       rintro⟨zR9,zRa⟩ _
       refine Lf 9 6 U (fun _=>q_z U)<|WD.done (by kernel_rfl) ?_
       exact Lo ⟨(z3d++([([(⟨z3f,z57⟩:z6)]:List z6)]:List (List z6))),z56,z2y,z3f.fN,z3f.fD,zq0,zR9,zRa,(z8I++E),z89⟩ ⟨h,zGU,zR8,zmu⟩ (.r11 U U U U U U U U U U U)<|.s9 .h2 .here .h5 .h5 .h5 .h5 .h4 .h1 .h1
     ·rintro z9z zbY zbZ zac zad zgs ziU ziV ziW zgt ⟨h,zRb,zRc,zRd⟩
      replace h:=(zQS z9z zbY zbZ zac zad).symm.trans h
      refine Lv (fun i=>[8].contains i) [] U<|Lf 0 107 U (fun _=>q_m U)<|Lf 1 108 U (fun _=>y1f U)<|Lf 2 109 U (fun _=>ya ydN U U)<|Li 3 110 U (yc zsV U<|yi .h2 U)<|Lf 4 111 U (fun _=>q_m U)<|Li 5 112 U (yh z5v U (yj .h3) U)<|Lf 6 113 U (fun _=>yL (v:=(.agg #[(vi z12),(vi zQ.fNode),(vi zQ.fQ)])) (Lp (l:=[.tmp 111,.tmp 112]) (.r2 U U) [0,1]) (fun _=>by kernel_rfl))<|Li 7 114 U (yh zg U (yj .h6) U)<|Kd (i:=8) U (by kernel_rfl) U U U (by kernel_rfl) (y3o (k:=(⟨z12,zQ⟩:zO)) (v:=(⟨zac,zad⟩:z2)) zsW Tryz.underlying116 U U U U .h7)<|WD.done (by kernel_rfl)<|Lt ?_
      exact Lo ⟨z9z,(max z6i<|(nth zf.fVLs z12).fMax),zbY,zbZ,(yF z3e (⟨z12,zQ⟩:zO) (⟨zac,zad⟩:z2)),zgs,ziU,ziV,ziW,zgt⟩ ⟨h,zRb,zRc,zRd⟩ (.r9 U U U U U U U U U)<|.s8 .h1 .h1 .h1 .h1 .h1 .h1 .here .h1
   ·rintro z9y zbU zbV zbW zbX zgq ziR ziS ziT zgr ⟨h,zRe,zRf,zRg⟩
    replace h:=(zQJ z9y zbU zbV zbW zbX).symm.trans h
    refine Ld<|La U<|La U<|WL.nil ?_
    exact WX.round ⟨zwQ,z9y,zbU,(i64 (z12+1)),zbV,zbW,zbX,zgq,ziR,ziS,ziT,zgr⟩ ⟨h,(zK.trans zRe),zRf,zRg⟩ (Nat.lt_succ_self _) (.r9 U U U U U U U U U)<|.a8
  ·replace h:=ys h zwV
   refine WC.exit<|Ln<|Ln<|Lu ?_
   exact Lo ⟨z3d,z6i,z56,z2y,z3e,z4C,zag,zah,z8I,z89⟩ ⟨h,zK,zpW,zmu⟩ (.r6 U U U U U U)<|.a8
 ·rintro z3h z88 zc7 z1M z2h zc8 z6R z6S z8H z7m ⟨h,z1d,zRh,zq1⟩
  replace h:=(zQI z3h z88 zc7 z1M z2h).symm.trans h
  obtain⟨zc2,zRi,h⟩:=y57 h
  let O:Value:=(.slice z6R z3h.length z6S);refine WC.yby (fun(z7l:List (List z6)) (zeo:Int) (zc9:Zp) (zmv:Option Addr) (zmw:Nat) (zer:List Value)=>(zc2 z7l zeo=some r)∧(Zle (Z++zc8) (Z++zc9))∧(RR 1 (y26 (Z++zc9)) zer z7l)) (fun z7l zeo zc9 zmv zmw zer=>[(6,O),(7,(.slice zmv z7l.length zmw)),(9,(vi z88))]) (fun z7l zeo zc9 zmv zmw zer=>[fz zc9,row O 227 1 z8H,row (.slice zmv z7l.length zmw) 227 1 zer,stb z2U 119 [H,F,I,J,D,K,L,G,C,(.map (some z21)),(.map (some z24)),(vi zeo)],ym z21 (fun x=>Value.agg (y2J x).toArray) (fun x=>Value.agg (yA x).toArray) z2h,ym z24 (fun x=>Value.agg (yE x).toArray) (Value.int .i64) z1k]) ?_ ?_
  ·skip
   let P:Value:=(vi ((zf.fK.length:Nat):Int));refine WC.b (Ld (La U (Le 117 (y1f U) (Le 118 (ya y6j U U) (Le 119 (ya y74 U U) (Le 120 (yc y75 U (yi .h2 U)) (Le 121 (yG Tryz.underlying25 U) (La U (WL.nil (Lb (WC.block (WC.nilRow 227 1 (WC.yag (fun(ziY:Nat) (z32:List (List z6)) (zI:Int) (z6Q:Int) (z6T:Zp) (z8J:Option Addr) (z8K:Nat) (z8L:List Value)=>(y2Q zf z1M zY z2h z1k zQ zc2 ziY z32 zI z6Q=some r)∧(Zle (Z++zc8) (Z++z6T))∧(RR 1 (y26 (Z++z6T)) z8L z32)) (fun ziY z32 zI z6Q z6T z8J z8K z8L=>[(0,(vp z2U)),(3,(vp z4B)),(6,O),(7,(.slice z8J z32.length z8K)),(8,(.map (some z59))),(9,(vi z88)),(121,P),(122,(vi zI))]) (fun ziY z32 zI z6Q z6T z8J z8K z8L=>[fz z6T,row O 227 1 z8H,row (.slice z8J z32.length z8K) 227 1 z8L,stb z2U 119 [H,F,I,J,D,K,L,G,C,(.map (some z21)),(.map (some z24)),(vi z6Q)],stb z4B 121 N,ym z59 (Value.int .i64) slv (y2I z7m),y2m (y2e 3 1 e3) z7m,ym z21 (fun x=>Value.agg (y2J x).toArray) (fun x=>Value.agg (yA x).toArray) z2h,ym z24 (fun x=>Value.agg (yE x).toArray) (Value.int .i64) z1k]) (fun ziY z32 zI z6Q z6T z8J z8K z8L=>ziY) ⟨yx,([]:List (List z6)),0,zc7,zc8,none,0,[]⟩ ⟨h,(Zle.refl _),(RR.nil _ _)⟩ (.r8 U U U U U U U U) (.s9 .h1 .h1 .here .here .here .here .here .here .here) ?_)))))))))))))
   rintro ziY z32 zI z6Q z6T z8J z8K z8L ⟨h,z19,zwZ⟩
   obtain⟨zwU,rfl⟩:=y9v h
   rw[y2Q] at h
   refine WC.b<|Ld<|La U<|WL.nil<|Lb<|WC.b<|WC.cond U (fun zx0=>?_)<|fun zx0=>?_
   ·replace h:=yr h zx0
    refine WC.skip<|Lb ?_
    obtain⟨zpV,zRj,h⟩:=y57 h
    refine WC.yby (fun(z9B:List (List z6)) (zc3:Int) (zgu:Zp) (ziZ:Option Addr) (zj0:Nat) (zj1:List Value)=>(zpV z9B zc3=some r)∧(Zle (Z++z6T) (Z++zgu))∧(RR 1 (y26 (Z++zgu)) zj1 z9B)) (fun z9B zc3 zgu ziZ zj0 zj1=>[(0,(vp z2U)),(3,(vp z4B)),(6,O),(7,(.slice ziZ z9B.length zj0)),(8,(.map<|some z59)),(9,(vi z88)),(121,P),(122,(vi zI))]) (fun z9B zc3 zgu ziZ zj0 zj1=>[fz zgu,row O 227 1 z8H,row (.slice ziZ z9B.length zj0) 227 1 zj1,stb z2U 119 [H,F,I,J,D,K,L,G,C,(.map<|some z21),(.map<|some z24),(vi zc3)],stb z4B 121 N,ym z59 (Value.int .i64) slv (y2I z7m),y2m (y2e 3 1 e3) z7m,ym z21 (fun x=>Value.agg (y2J x).toArray) (fun x=>Value.agg (yA x).toArray) z2h,ym z24 (fun x=>Value.agg (yE x).toArray) (Value.int .i64) z1k]) ?_ ?_
    ·skip
     refine WC.block<|WC.b<|Ld<|La U<|La U<|WL.nil<|Lb<|WC.b<|WC.b<|Ld<|La U<|La U<|Le 127 (y2C (k:=zI) (dflt:=(((none,0),[]):(Option Addr×Nat)×List Int)) y43 Tryz.underlying219 ydP U U U .h5)<|WL.gh (fun _ h=>Hp.yaP zI zq1 .h6 h) ?_
     rintro⟨zRk,zRl⟩ zGW
     refine Kh (i:=127) U (u:=(.slice zRk ((yf z1M zI []).length) zRl)) (congrArg slv zGW)<|Le 128 (yG Tryz.underlying50 U)<|La U<|WL.ghL (fun _ h=>Hp.yfh zq1 zGW (.a2) h)<|WL.nil<|Lb<|WC.cond U (fun zx1=>?_)<|fun zx1=>?_
     ·replace h:=yr h zx1
      refine WC.exit<|Ln<|Lu ?_
      exact Lo ⟨z32,z6Q,z6T,z8J,z8K,z8L⟩ ⟨h,(Zle.refl _),zwZ⟩ (.r8 U U U U U U U U)<|.s9 .h1 .h1 .h1 .h1 .h1 .h1 .here .here .here
     ·replace h:=ys h zx1
      refine WC.skip<|Lb<|WC.b ?_
      obtain⟨zgi,zRm,h⟩:=za h
      obtain⟨zgj,zRn,h⟩:=za h
      refine Ld<|Lk 130 (zb Tryz.call80<|.cons U .nil) .nil (ccz hz .nil .h1 fun w pz ho=>y5C zRm w pz )<|Lk 131 (zb Tryz.call80<|.cons U .nil) .nil (ccz hz .nil .h1 fun w pz ho=>y5C zRn w pz )<|Le 132 (yL (v:=(.agg #[(vi zgi.fN),(vi zgi.fD),(vi zgj.fN),(vi zgj.fD)])) (Lp (l:=[.tmp 130,.tmp 131]) (.r2 U U) [0,1]) (fun _=>by kernel_rfl)) (Lg 16 (yv (cs:=[(vi 0),(vi 0),(vi 0),(vi 0)]) zbl U) fun zmx _=>Ll U U (yn za2 U U U .here U U U)<|WL.nil<|Lb<|WC.b<|Ld<|La U<|WL.nil<|Lb ?_)
      obtain⟨zc0,zRo,h⟩:=jp6_elim h
      let Q:Value:=(.slice z8J z32.length z8K);refine WC.yby (fun(zen:Int) (zc4:Int) (z3B:Int) (z3C:Int) (z3D:Int) (z3E:Int)=>(zc0 zen zc4 z3B z3C z3D z3E=some r)) (fun zen zc4 z3B z3C z3D z3E=>[(0,(vp z2U)),(3,(vp z4B)),(6,O),(7,Q),(8,(.map (some z59))),(9,(vi z88)),(15,(vi zI)),(16,(vp zmx)),(17,(vi zen)),(121,P),(122,(vi zI))]) (fun zen zc4 z3B z3C z3D z3E=>[fz z6T,row O 227 1 z8H,row Q 227 1 z8L,stb z2U 119 [H,F,I,J,D,K,L,G,C,(.map (some z21)),(.map (some z24)),(vi zc4)],stb z4B 121 N,ym z59 (Value.int .i64) slv (y2I z7m),y2m (y2e 3 1 e3) z7m,stb zmx 225 [(vi z3B),(vi z3C),(vi z3D),(vi z3E)],ym z21 (fun x=>Value.agg (y2J x).toArray) (fun x=>Value.agg (yA x).toArray) z2h,ym z24 (fun x=>Value.agg (yE x).toArray) (Value.int .i64) z1k]) ?_ ?_
      ·skip
       refine WC.b<|Ld<|La U<|La U<|Le 135 (y2C (k:=zI) (dflt:=(((none,0),[]):(Option Addr×Nat)×List Int)) y43 Tryz.underlying219 ydP U U U .h7)<|WL.gh (fun _ h=>Hp.yaP zI zq1 .h1 h) ?_
       rintro⟨zx2,zx3⟩ zGX
       let R:Value:=(.slice zx2 ((yf z1M zI []).length) zx3);refine Kh (i:=135) U (u:=R) (congrArg slv zGX) (Le 136 (yG Tryz.underlying50 U) (La U (WL.nil (Lb (WC.block (WC.yag (fun(zj2:Nat) (z85:Int) (z3g:Int) (z8G:Int) (z86:Int) (z87:Int) (z6O:Int) (z6P:Int)=>(y2P z1M zI zf zY z2h z1k zQ zc0 zj2 z85 z3g z8G z86 z87 z6O z6P=some r)) (fun zj2 z85 z3g z8G z86 z87 z6O z6P=>[(0,(vp z2U)),(3,(vp z4B)),(6,O),(7,Q),(8,(.map (some z59))),(9,(vi z88)),(15,(vi zI)),(16,(vp zmx)),(17,(vi z85)),(121,P),(122,(vi zI)),(135,R),(136,(vi (((yf z1M zI []).length:Nat):Int))),(137,(vi z3g))]) (fun zj2 z85 z3g z8G z86 z87 z6O z6P=>[fz z6T,row O 227 1 z8H,row Q 227 1 z8L,row R 3 1 ((yf z1M zI []).flatMap e3),stb z2U 119 [H,F,I,J,D,K,L,G,C,(.map (some z21)),(.map (some z24)),(vi z8G)],stb z4B 121 N,ym z59 (Value.int .i64) slv (y2I z7m),y2m (y2e 3 1 e3) (y7T zI z7m),stb zmx 225 [(vi z86),(vi z87),(vi z6O),(vi z6P)],ym z21 (fun x=>Value.agg (y2J x).toArray) (fun x=>Value.agg (yA x).toArray) z2h,ym z24 (fun x=>Value.agg (yE x).toArray) (Value.int .i64) z1k]) (fun zj2 z85 z3g z8G z86 z87 z6O z6P=>zj2) ⟨yx,0,0,z6Q,zgi.fN,zgi.fD,zgj.fN,zgj.fD⟩ h (.r14 U U U U U U U U U U U U U U) (.s11 .h3 .h3 .h3 .here .h2 .h2 .h2 .here .here .here .here) ?_))))))
       rintro zj2 z85 z3g z8G z86 z87 z6O z6P h
       obtain⟨zwT,rfl⟩:=y9u h
       rw[y2P] at h
       refine WC.b<|Ld<|La U<|WL.nil<|Lb<|WC.b<|WC.cond U (fun zx4=>?_)<|fun zx4=>?_
       ·replace h:=yr h zx4
        refine WC.skip<|Lb<|WC.b<|WC.block<|WC.b ?_
        obtain⟨zmy,h⟩:=yl h
        refine Ld<|Ki (fun w hw=>Hp.y2u .h3 hw (by intro hz';have:=zmy;rw[hz'] at this;omega)) ?_
        rintro⟨z15y,rfl⟩
        refine Le 139 (yW y52 U U zmy.1 zmy.2 y30)<|Le 140 (yc yq U<|y63 .h3<|(y31 (enc:=e3) (l:=yf z1M zI []) (i:=z3g) (sz:=1) (fun _=>U) zmy.1 zmy.2) 0 _ U)<|La U<|WL.nil<|Lb<|WC.b ?_
        obtain⟨z9A,zRp,h⟩:=za h
        obtain⟨zGP,zRq,h⟩:=za h
        obtain⟨zc1,zRr,h⟩:=za h
        refine Lv (fun i=>[11,17,18,20,22].contains i) [y7S zmx 225 [(2,(vi z6O)),(3,(vi z6P))]] U<|Lf 0 141 U (fun _=>q_m U)<|Lf 1 142 U (fun _=>ya y5z U U)<|Li 2 143 U (y14 (cs:=[(vi z86),(vi z87)]) zg U U<|y3D (s:=2) (.there .h7) U)<|Lf 3 144 U (fun _=>q_m U)<|Lf 4 145 U (fun _=>y1f U)<|Lf 5 146 U (fun _=>ya ydN U U)<|Li 6 147 U (yc zsV U<|yi .h4 U)<|Lf 7 148 U (fun _=>q_m U)<|Li 8 149 U (yh z5v U (yj .h5) U)<|Lf 9 150 U (fun _=>yL (v:=(.agg #[(vi<|nth (yf z1M zI []) z3g),(vi zQ.fNode),(vi zQ.fQ)])) (Lp (l:=[.tmp 148,.tmp 149]) (.r2 U U) [0,1]) (fun _=>by kernel_rfl))<|Li 10 151 U (y2C (k:=(⟨(nth (yf z1M zI []) z3g),zQ⟩:zO)) (dflt:=((⟨0,0⟩:z2):z2)) zsW Tryz.underlying116 zV U U U<|.there<|.there .h7)<|Lf 12 153 U (fun _=>q_m U)<|Lf 13 154 U (fun _=>ya y6k U U)<|L7 14 155 U (Sin.wk (.cons (.there .h7) .nil)<|.stb (.cons U<|.cons U .nil) .nil) (y14 (cs:=[(vi z6O),(vi z6P)]) zg U U<|ybJ .here ((.head _))<|(.tail _<|.head _))<|Lf 15 156 U (fun _=>q_m U)<|Lf 16 157 U (fun _=>q_m U) (Ka (i:=11) (dd:=152) U (by kernel_rfl) U U U (.inl ⟨U,(Sin.wk (.cons (.there<|.there<|.there .h7) .nil)<|.stb (.cons U<|.cons U .nil) .nil)⟩) (zb Tryz.call118<|.r4 U U U U) (.s3 .h4 (.there .h7)<|.there .h7) (ccz hz (.s3 .h4 (.there .h7)<|.there .h7) .here fun w pz ho=>Calls.mono (y7i _ _ _ _ _ _ _ _ _ _ _ _ _ _ _ _ _ _ _ _ _ _ (zbS:=119) (zgd:=[]) _ _ _ _ _ (zdZ:=(fun(y0:z2) (y1:z2)=>y1q y0 y1)) _ _ _ zRp w pz ((zgk.mono<|(Zle.left _ _).trans (z1d.trans z19)).weak (fun _ _ h=>y1c ((Zle.left _ _).trans (z1d.trans z19)) h)) ((zgl.mono<|(Zle.left _ _).trans (z1d.trans z19)).weak (fun _ _ h=>y1o ((Zle.left _ _).trans (z1d.trans z19)) h)) (zgm.mono<|(Zle.left _ _).trans (z1d.trans z19)) (zep.mono<|(Zle.left _ _).trans (z1d.trans z19)) ((zaf.mono<|(Zle.left _ _).trans (z1d.trans z19)).weak (fun _ _ h=>y1e ((Zle.left _ _).trans (z1d.trans z19)) h)) (zgn.mono<|(Zle.left _ _).trans (z1d.trans z19)) ((zgo.mono<|(Zle.left _ _).trans (z1d.trans z19)).weak (fun _ _ h=>y1p ((Zle.left _ _).trans (z1d.trans z19)) h)) (zgp.mono<|(Zle.left _ _).trans (z1d.trans z19)) ((zeq.mono<|(Zle.left _ _).trans (z1d.trans z19)).weak (fun _ _ h=>y1B ((Zle.left _ _).trans (z1d.trans z19)) h)) Tryz.call119 (fun w' hz' y0 y1  r  hr=>y6L hr w' hz' ) ho)<|fun _ _ h'=>⟨h'.1,trivial,h'.2⟩) fun _=>Lf 19 160 U (fun _=>ya y5z U U)<|Ka (i:=17) (dd:=158) U (by kernel_rfl) U U U (.inl ⟨U,(Sin.wk (.cons (.there<|.there<|.there .h7) .nil)<|.stb (.cons U<|.cons U .nil) .nil)⟩) (zb Tryz.call121<|.r2 U U) (.s2 .h1 .h1) (yai hz (.s2 .h1 .h1) .h1 (.cons .here .nil) fun w pz ho la=>Calls.mono (y7U zRq w pz ((((zgk.mono<|(Zle.left _ _).trans (z1d.trans z19)).weak (fun _ _ h=>y1c ((Zle.left _ _).trans (z1d.trans z19)) h)).mono (Zle.left _ _)).weak (fun _ _ h=>y1c (Zle.left _ _) h)) ((((zgl.mono<|(Zle.left _ _).trans (z1d.trans z19)).weak (fun _ _ h=>y1o ((Zle.left _ _).trans (z1d.trans z19)) h)).mono (Zle.left _ _)).weak (fun _ _ h=>y1o (Zle.left _ _) h)) ((zgm.mono<|(Zle.left _ _).trans (z1d.trans z19)).mono (Zle.left _ _)) ((zep.mono<|(Zle.left _ _).trans (z1d.trans z19)).mono (Zle.left _ _)) ((((zaf.mono<|(Zle.left _ _).trans (z1d.trans z19)).weak (fun _ _ h=>y1e ((Zle.left _ _).trans (z1d.trans z19)) h)).mono (Zle.left _ _)).weak (fun _ _ h=>y1e (Zle.left _ _) h)) ((zgn.mono<|(Zle.left _ _).trans (z1d.trans z19)).mono (Zle.left _ _)) ((((zgo.mono<|(Zle.left _ _).trans (z1d.trans z19)).weak (fun _ _ h=>y1p ((Zle.left _ _).trans (z1d.trans z19)) h)).mono (Zle.left _ _)).weak (fun _ _ h=>y1p (Zle.left _ _) h)) ((zgp.mono<|(Zle.left _ _).trans (z1d.trans z19)).mono (Zle.left _ _)) ((((zeq.mono<|(Zle.left _ _).trans (z1d.trans z19)).weak (fun _ _ h=>y1B ((Zle.left _ _).trans (z1d.trans z19)) h)).mono (Zle.left _ _)).weak (fun _ _ h=>y1B (Zle.left _ _) h)) ((la _ (.head _) _).stb) ho)<|fun _ _ h'=>⟨h'.1,trivial,h'.2⟩) ?_)
        intro _
        refine Ka (i:=18) (dd:=159) U (by kernel_rfl) U U U (.inl ⟨U,(Sin.wk (.cons (.there<|.there<|.there .h7) .nil)<|.stb (.cons U<|.cons U .nil) .nil)⟩) (zb Tryz.call118<|.r4 U U U U) (.s3 .h2 .here .here) (ccz hz (.s3 .h2 .here .here) .here fun w pz ho=>Calls.mono (y7i _ _ _ _ _ _ _ _ _ _ _ _ _ _ _ _ _ _ _ _ _ _ (zbS:=119) (zgd:=[]) _ _ _ _ _ (zdZ:=(fun(y0:z2) (y1:z2)=>y1q y0 y1)) _ _ _ zRr w pz ((zgk.mono<|(Zle.left _ _).trans (z1d.trans z19)).weak (fun _ _ h=>y1c ((Zle.left _ _).trans (z1d.trans z19)) h)) ((zgl.mono<|(Zle.left _ _).trans (z1d.trans z19)).weak (fun _ _ h=>y1o ((Zle.left _ _).trans (z1d.trans z19)) h)) (zgm.mono<|(Zle.left _ _).trans (z1d.trans z19)) (zep.mono<|(Zle.left _ _).trans (z1d.trans z19)) ((zaf.mono<|(Zle.left _ _).trans (z1d.trans z19)).weak (fun _ _ h=>y1e ((Zle.left _ _).trans (z1d.trans z19)) h)) (zgn.mono<|(Zle.left _ _).trans (z1d.trans z19)) ((zgo.mono<|(Zle.left _ _).trans (z1d.trans z19)).weak (fun _ _ h=>y1p ((Zle.left _ _).trans (z1d.trans z19)) h)) (zgp.mono<|(Zle.left _ _).trans (z1d.trans z19)) ((zeq.mono<|(Zle.left _ _).trans (z1d.trans z19)).weak (fun _ _ h=>y1B ((Zle.left _ _).trans (z1d.trans z19)) h)) Tryz.call119 (fun w' hz' y0 y1  r  hr=>y6L hr w' hz' ) ho)<|fun _ _ h'=>⟨h'.1,trivial,h'.2⟩) fun _=>WD.yhO (i:=20) U (by kernel_rfl) U U U (Sin.wk (.cons .here .nil)<|.stb (.cons U<|.cons U .nil) .nil) (y4I (ds:=[(vi z9A.1.fN),(vi z9A.1.fD),(vi z6O),(vi z6P)]) zz U U U U U (.there<|.there<|.there .h7) U U)<|Lf 21 161 U (fun _=>ya y6k U U)<|Kd (i:=22) U (by kernel_rfl) U U U (by kernel_rfl) (y4I (ds:=[(vi z9A.1.fN),(vi z9A.1.fD),(vi zc1.1.fN),(vi zc1.1.fD)]) zz U U U U U .here U U)<|WD.done (by kernel_rfl)<|Lb ?_
        obtain⟨zRs,h⟩:=yl h
        refine Ld<|La U<|La U<|Le 164 (y1f U)<|Le 165 (ya y6j U U)<|Le 166 (ya y7F U U)<|Le 167 (yc y7G U<|yi .h1 U)<|La U<|L0 (dd:=169) U U (Z:=(Z++z6T)) (Pr:=(p69 (Z++z6T))) y9q U U ((zaf.mono<|(Zle.left _ _).trans (z1d.trans z19)).weak (fun _ _ h=>y1e ((Zle.left _ _).trans (z1d.trans z19)) h)) zRs ?_
        rintro z15z z15A zRt z15B ⟨z15C,z15D,rfl,z15E⟩
        refine Le 170 (ya y7H U U)<|Le 171 (yc yq U<|y17 (hz.pv2 .h4) zRt U)<|Le 172 (ybx U U U)<|La U<|WL.nil<|Lt<|Lb<|Ld<|La U<|La U<|WL.nil ?_
        exact WX.round ⟨zwT,(max z85<|(nth zf.fVLs<|nth (yf z1M zI []) z3g).fMax),(i64 (z3g+1)),zc1.2,z9A.1.fN,z9A.1.fD,zc1.1.fN,zc1.1.fD⟩ h (Nat.lt_succ_self _) (.r14 U U U U U U U U U U U U U U)<|.s11 .h4 .h4 .h4 .h4 .h1 .h3 .h3 .h3 .here .here .here
       ·replace h:=ys h zx4
        refine WC.exit<|Ln<|Ln<|Lu<|WX.ghL (fun _ h=>Hp.yfh zq1 zGX (.s2 .h3 .h6) h) ?_
        exact Lo ⟨z85,z8G,z86,z87,z6O,z6P⟩ h (.r11 U U U U U U U U U U U)<|.s10 .h1 .h1 .h1 .h1 .h1 .h1 .here .here .here .here
      ·rintro zen zc4 z3B z3C z3D z3E h
       replace h:=(zRo zen zc4 z3B z3C z3D z3E).symm.trans h
       obtain⟨z58,zRu,h⟩:=za h
       obtain⟨zRv,h⟩:=yl h
       obtain⟨zRw,h⟩:=yl h
       refine Lv (fun i=>[17].contains i) [] U<|Lf 0 174 U (fun _=>q_m U)<|Li 1 175 U (yh z3a U (yj .h7) U)<|Lf 2 176 U (fun _=>q_m U)<|L4 3 177 U (zb Tryz.call80<|.cons U .nil) (ccz hz .nil .here fun w pz ho=>y5C zRu w pz )<|Lf 4 178 U (fun _=>q_m U)<|Lf 5 179 U (fun _=>y1f U)<|Lf 6 180 U (fun _=>ya y6j U U)<|Lf 7 181 U (fun _=>ya y74 U U)<|Li 8 182 U (yc y75 U<|yi .h3 U)<|Lf 9 183 U (fun _=>q_m U)<|L5 (j:=10) (dd:=184) (by kernel_rfl) U z1Z z20 U U (Z:=(Z++z6T)) (Pr:=(fun r x=>r=e62 x)) y9p U U (zep.mono<|(Zle.left _ _).trans (z1d.trans z19)) zRv ?_
       rintro z15F z15G zRx z15H rfl
       refine Lf 11 185 U (fun _=>ya y8j U U)<|Li 12 186 U (yc yq U<|y17 (hz.pv2 .here) zRx U)<|Lf 13 187 U (fun _=>yL (v:=(.agg #[(vi 1),(vi<|(nth zf.fK zI).fSlow)])) (Lp (l:=[.const (vi 1),.tmp 186]) (.r2 U U) [0,1]) (fun _=>by kernel_rfl))<|Lf 14 188 U (fun _=>yL (v:=(.agg #[(vi z58.fN),(vi z58.fD),(vi 1),(vi<|(nth zf.fK zI).fSlow)])) (Lp (l:=[.tmp 177,.tmp 187]) (.r2 U U) [0,1]) (fun _=>by kernel_rfl)) (WD.new (i:=15) (dd:=189) U (by kernel_rfl) U U U (yS (cs:=([(⟨(⟨z3B,z3C⟩:z2),(⟨z3D,z3E⟩:z2)⟩:z6),(⟨z58,(⟨1,((nth zf.fK zI).fSlow)⟩:z2)⟩:z6)]:List z6).flatMap y1N) z80 (Lp (l:=[.tmp 175,.tmp 188]) (.r2 U U) [0,1]) (fun _=>by kernel_rfl) U (by unfold maxLen;omega)) (fun h'=>absurd h' (by decide)) fun zj3 _=>WD.freezeS (ls:=([(⟨(⟨z3B,z3C⟩:z2),(⟨z3D,z3E⟩:z2)⟩:z6),(⟨z58,(⟨1,((nth zf.fK zI).fSlow)⟩:z2)⟩:z6)]:List z6)) .here .here hz (RR.flat (enc:=y1N) (fun _=>U) _) ?_)
       intro zq2 zGY zRy
       let A:List Value:=[(.slice (some ⟨zj3,0,none⟩) (([(⟨(⟨z3B,z3C⟩:z2),(⟨z3D,z3E⟩:z2)⟩:z6),(⟨z58,(⟨1,((nth zf.fK zI).fSlow)⟩:z2)⟩:z6)]:List z6).length) 2)];have zGZ:RR 1 (y26 (Z++zq2)) A ([([(⟨(⟨z3B,z3C⟩:z2),(⟨z3D,z3E⟩:z2)⟩:z6),(⟨z58,(⟨1,((nth zf.fK zI).fSlow)⟩:z2)⟩:z6)]:List z6)]:List (List z6)):=(RR.cons (r:=A) U (show y26 _ _ _ from⟨_,_,U,zRy⟩) (RR.nil _ _))
       refine WD.new (i:=16) (dd:=190) U (by kernel_rfl) U U U (yS (cs:=[(.slice (some ⟨zj3,0,none⟩) (([(⟨(⟨z3B,z3C⟩:z2),(⟨z3D,z3E⟩:z2)⟩:z6),(⟨z58,(⟨1,((nth zf.fK zI).fSlow)⟩:z2)⟩:z6)]:List z6).length) 2)]) z9i (Lp (l:=[.tmp 189]) (.cons U .nil) [0]) (fun _=>by kernel_rfl) U (by unfold maxLen;omega)) (fun h'=>absurd h' (by decide)) ?_
       intro z15I _
       have zRz:RR 1 (y26 (Z++zq2)) (z8L++A) (z32++([([(⟨(⟨z3B,z3C⟩:z2),(⟨z3D,z3E⟩:z2)⟩:z6),(⟨z58,(⟨1,((nth zf.fK zI).fSlow)⟩:z2)⟩:z6)]:List z6)]:List (List z6))):=RR.app (zwZ.weak (fun _ _ h=>y3M zGY h)) zGZ
       refine WD.old (i:=17) (dd:=191) U (by kernel_rfl) U U U U (fun _=>(Sin.of .nil)) (y8h (l1:=z32) (l2:=([([(⟨(⟨z3B,z3C⟩:z2),(⟨z3D,z3E⟩:z2)⟩:z6),(⟨z58,(⟨1,((nth zf.fK zI).fSlow)⟩:z2)⟩:z6)]:List z6)]:List (List z6))) (news:=A) (Pr:=(y26 (Z++zq2))) z9i U U .h3 zGZ (y3u .here) (yb5 U ycq) zRw) ?_
       rintro⟨zRA,zRB⟩ _
       refine Lf 18 7 U (fun _=>q_z U)<|WD.done (by kernel_rfl)<|Lt ?_
       exact Lo ⟨(z32++([([(⟨(⟨z3B,z3C⟩:z2),(⟨z3D,z3E⟩:z2)⟩:z6),(⟨z58,(⟨1,((nth zf.fK zI).fSlow)⟩:z2)⟩:z6)]:List z6)]:List (List z6))),zc4,zq2,zRA,zRB,(z8L++A)⟩ ⟨h,zGY,zRz⟩ (.r8 U U U U U U U U)<|.s9 .h2 .h2 .here .h1 .h1 .h1 .h1 .h2 .h2
    ·rintro z9B zc3 zgu ziZ zj0 zj1 ⟨h,zRC,zRD⟩
     replace h:=(zRj z9B zc3).symm.trans h
     refine Ld<|La U<|La U<|WL.nil ?_
     exact WX.round ⟨zwU,z9B,(i64 (zI+1)),zc3,zgu,ziZ,zj0,zj1⟩ ⟨h,(z19.trans zRC),zRD⟩ (Nat.lt_succ_self _) (.r8 U U U U U U U U)<|.a9
   ·replace h:=ys h zx0
    refine WC.exit<|Ln<|Ln<|Lu ?_
    exact Lo ⟨z32,z6Q,z6T,z8J,z8K,z8L⟩ ⟨h,z19,zwZ⟩ (.r3 U U U)<|.s6 .here .here .here .here .h3 .h3
  ·rintro z7l zeo zc9 zmv zmw zer ⟨h,zRE,zx5⟩
   replace h:=(zRi z7l zeo).symm.trans h
   refine WC.b ?_
   obtain⟨zRF,h⟩:=yl h
   refine Ld<|La U<|La U ?_
   have zRG:RR 1 (y26 (Z++zc9)) (z8H++zer) (z3h++z7l):=RR.app (zRh.weak (fun _ _ h=>y3M zRE h)) zx5
   refine WL.fA 195 (y8h (l1:=z3h) (l2:=z7l) (news:=zer) (Pr:=(y26 (Z++zc9))) z9i U U .h1 zx5 (y3u .h2) (RR.oc zx5<|fun _ _ h=>p227_oc h) zRF) ?_
   rintro⟨zRH,zRI⟩ _
   refine La U<|La U<|La U<|WL.nil<|Lb<|WC.ret ?_
   obtain rfl:=oJ h
   refine Lh Tryz.results79 (.tmp U<|.tmp U .nil)<|fun w hw=>?_
   exact⟨zc9,zRH,zRI,(z8H++zer),y1R U U,zRG,hw.sub (.s5 .h1 .here .h1 .h1 .h1)⟩
def y5Q(zca:z2):Option Bool:=
 (y1Y zca).bind fun zx6=>some (zx6&&(decide (zca.fN≥0)))
theorem yao{Z:Zp}{zca:z2}{r:Bool}(h:y5Q zca=some r)(w₀:World)(hz:PZ [] w₀ Z):
  Calls Tryz.prog 193 #[(.agg #[(vi zca.fN),(vi zca.fD)])] w₀ fun e w'=>e = .returned (.bool r)∧Hp [] w₀ w' []:=by
 unfold y5Q at h
 refine L6 Tryz.func193 Tryz.ntmps193 ?_
 refine WC.b<|Ld (Lg 1 (yI (cs:=[(vi zca.fN),(vi zca.fD)]) U U) fun z15J _=>La U<|WL.nil<|Lb<|WC.b ?_)
 obtain⟨zx6,zRJ,h⟩:=za h
 refine Ld<|Le 3 (yh zg U (yj .here) U)<|Lk 4 (zb Tryz.call130<|.cons U .nil) .nil (cc hz .nil fun w pz ho=>y2N zRJ w pz )<|La U<|Lx true 3 5 (B:=zx6&&(decide (zca.fN≥0))) U U U U U U (fun h=>(y3W h).symm) (fun _ zRK=>?_) ?_
 ·skip
  refine Le 6 (ya y2D U U)<|Le 7 (yc yq U<|yi .here U)<|La U<|La U ?_
  exact Ly (y3X zRK) U U .all
 refine La U<|WL.nil<|Lb<|WC.ret ?_
 obtain rfl:=oJ h
 refine Lh Tryz.results193 (.tmp U .nil)<|fun w hw=>?_
 exact⟨yD U,hw.sub .nil⟩
def y5t(z6j:z6):Option Bool:=
 (y5Q z6j.fBurst).bind fun zH0=>(if !zH0 then some true else(y5Q z6j.fRate).bind fun zH1=>some (!zH1)).bind fun zx7=>some zx7
theorem yel{Z:Zp}{z6j:z6}{r:Bool}(h:y5t z6j=some r)(w₀:World)(hz:PZ [] w₀ Z):
  Calls Tryz.prog 209 #[(.agg #[(vi z6j.fBurst.fN),(vi z6j.fBurst.fD),(vi z6j.fRate.fN),(vi z6j.fRate.fD)])] w₀ fun e w'=>e = .returned (.bool r)∧Hp [] w₀ w' []:=by
 unfold y5t at h
 refine L6 Tryz.func209 Tryz.ntmps209 ?_
 refine WC.b<|Ld (Lg 1 (yI (cs:=[(vi z6j.fBurst.fN),(vi z6j.fBurst.fD),(vi z6j.fRate.fN),(vi z6j.fRate.fD)]) U U) fun z15K _=>La U<|WL.nil<|Lb<|WC.b ?_)
 obtain⟨zH0,zRL,h⟩:=za h
 obtain⟨zx7,zH2,h⟩:=za h
 refine Ld<|Le 3 (ya y5z U U)<|Le 4 (y14 (cs:=[(vi z6j.fBurst.fN),(vi z6j.fBurst.fD)]) zg U U<|y3D (s:=2) .here U)<|Lk 5 (zb Tryz.call193<|.cons U .nil) .nil (cc hz .nil fun w pz ho=>yao zRL w pz )<|La U<|La U<|Lx false 4 7 (B:=zx7) U U U U U U (fun h=>(oJ<|yr zH2 h).symm) (fun _ zRM=>?_) ?_
 ·skip
  have zmz:=ys zH2 zRM
  obtain⟨zH1,zRN,zmz⟩:=za zmz
  replace zmz:=oJ zmz
  refine Le 8 (ya y6k U U)<|Le 9 (y14 (cs:=[(vi z6j.fRate.fN),(vi z6j.fRate.fD)]) zg U U<|y3D (s:=2) .here U)<|Lk 10 (zb Tryz.call193<|.cons U .nil) .nil (cc hz .nil fun w pz ho=>yao zRN w pz )<|La U<|La U ?_
  exact Ly zmz U U .all
 refine La U<|WL.nil<|Lb<|WC.ret ?_
 obtain rfl:=oJ h
 refine Lh Tryz.results209 (.tmp U .nil)<|fun w hw=>?_
 exact⟨yD U,hw.sub .nil⟩
def y1g(z3F:List z6)(z9C:z6→Option Bool)(zcb:Option Int):Nat→Int→Option Int
 | 0,_=>none
 | zx8+1,z3o=>if decide (z3o<((z3F.length:Nat):Int)) then chk ((0:Int)≤z3o∧z3o<((z3F.length:Nat):Int)) ((z9C (⟨(⟨(((nth z3F z3o).fBurst).fN),(((nth z3F z3o).fBurst).fD)⟩:z2),(⟨(((nth z3F z3o).fRate).fN),(((nth z3F z3o).fRate).fD)⟩:z2)⟩:z6)).bind fun zx9=>if zx9 then some z3o else y1g z3F z9C zcb zx8 (i64 (z3o+1))) else zcb
theorem y5T{n:Nat}{z3F:List z6}{z9C:z6→Option Bool}{zcb:Option Int}{z3o:Int}{r:Int}(h:y1g z3F z9C zcb n z3o=some r):∃ m,n=m+1:=by
 cases n with
 | zero=>cases h
 | succ m=>exact⟨m,rfl⟩
def y3k(z3F:List z6)(z9C:z6→Option Bool):Option Int:=
 jp0 (some (-1)) fun zcb=>y1g z3F z9C zcb yx 0
theorem y71(Z:Zp)(zxa:Option Addr)(zxb:Nat)(zgv:FuncId)(zmA:List Value)(z3F:List z6)(z9C:z6→Option Bool)(r:Int)(h:y3k z3F z9C=some r)(w₀:World)(hz:PZ [] w₀ Z)(zRO:ZS Z 4 (fun r x=>r=y1N x) zxa zxb z3F)(zRP:∀ args w,(callFunc zgv args).run Tryz.prog w = .ok (.enter zgv args) w)(zRQ:∀ w:World,PZ [] w Z→∀(x0:z6) (r:Bool),z9C x0=some r→Calls Tryz.prog zgv (([(.agg #[(vi x0.fBurst.fN),(vi x0.fBurst.fD),(vi x0.fRate.fN),(vi x0.fRate.fD)])]:List Value)++zmA).toArray w fun e w'=>e = .returned (.bool r)∧Hp [] w w' []):
  Calls Tryz.prog 220 #[(.slice zxa z3F.length zxb),(.func (.func zgv) #[] (zmA).toArray)] w₀ fun e w'=>e = .returned (vi r)∧Hp [] w₀ w' []:=by
 unfold y3k at h
 refine Lz Tryz.func220 Tryz.ntmps220 ?_
 refine WC.b<|Ld<|La U<|WL.nil<|Lb ?_
 obtain⟨zcb,zRR,h⟩:=y25 h
 refine L8 ((zcb=some r)) ([]) ([]) ?_ ?_
 ·skip
  refine WC.b<|Ld<|La U<|Le 7 (yG Tryz.underlying227 U)<|La U<|WL.nil<|Lb<|WC.block<|L9 (fun(zj4:Nat) (z3o:Int)=>(y1g z3F z9C zcb zj4 z3o=some r)) (fun zj4 z3o=>[(0,(.slice zxa z3F.length zxb)),(1,(.func (.func zgv) #[] (zmA).toArray)),(7,(vi ((z3F.length:Nat):Int))),(8,(vi z3o))]) (fun zj4 z3o=>[]) (fun zj4 z3o=>zj4) ⟨yx,0⟩ h (.r4 U U U U) .nil ?_
  rintro zj4 z3o h
  obtain⟨zx8,rfl⟩:=y5T h
  rw[y1g] at h
  refine WC.b<|Ld<|La U<|WL.nil<|Lb<|WC.b<|WC.cond U (fun zxc=>?_)<|fun zxc=>?_
  ·replace h:=yr h zxc
   refine WC.skip<|Lb<|WC.b<|WC.block<|WC.b<|Ld<|La U<|La U<|WL.nil<|Lb<|WC.b ?_
   obtain⟨zRS,h⟩:=yl h
   obtain⟨zx9,zRT,h⟩:=za h
   refine Ld<|La U<|La U<|La U<|L0 (dd:=14) U U (Z:=Z) (Pr:=(fun r x=>r=y1N x)) z80 U U zRO zRS ?_
   rintro z15L z15M zRU z15N rfl
   refine Le 15 (yh z3a U (y2d hz.pv zRU) U)<|Lk 16 (y2G (l:=[.tmp 15]) (f:=zgv) (caps:=zmA) zRP U<|.cons U .nil) .nil (fun w hw=>zRQ w (hz.now hw) (⟨(⟨(((nth z3F z3o).fBurst).fN),(((nth z3F z3o).fBurst).fD)⟩:z2),(⟨(((nth z3F z3o).fRate).fN),(((nth z3F z3o).fRate).fD)⟩:z2)⟩:z6) zx9  zRT)<|WL.nil<|Lb<|WC.cond U (fun zxd=>?_)<|fun zxd=>?_
   ·replace h:=yr h zxd
    refine WC.b<|Ld<|La U<|La U<|WL.nil<|Lb<|WC.ret<|Lq<|Lj<|Lj<|Lq<|Lj ?_
    obtain rfl:=oJ h
    refine Lh Tryz.results220 (.tmp U .nil)<|fun w hw=>?_
    exact⟨yD U,hw.sub .nil⟩
   ·replace h:=ys h zxd
    refine WC.skip<|Lt<|Lb<|Ld<|La U<|La U<|WL.nil ?_
    exact WX.round ⟨zx8,(i64 (z3o+1))⟩ h (Nat.lt_succ_self _) (.r4 U U U U) .nil
  ·replace h:=ys h zxc
   refine WC.exit<|Ln<|Ln<|Lu ?_
   exact Lo () h .nil .nil
 ·rintro  h
  replace h:=zRR.symm.trans h
  refine WC.b<|Ld<|La U<|WL.nil<|Lb<|WC.ret ?_
  obtain rfl:=oJ h
  refine Lh Tryz.results220 (.tmp U .nil)<|fun w hw=>?_
  exact⟨yD U,hw.sub .nil⟩
def y1z(zmB:List z6)(zgw:z6→Option Bool):Option Bool:=
 (y3k zmB zgw).bind fun zH3=>some (decide (zH3≥0))
theorem y4s(Z:Zp)(zH4:Option Addr)(zH5:Nat)(zgx:FuncId)(zmC:List Value)(zmB:List z6)(zgw:z6→Option Bool)(r:Bool)(h:y1z zmB zgw=some r)(w₀:World)(hz:PZ [] w₀ Z)(zRV:ZS Z 4 (fun r x=>r=y1N x) zH4 zH5 zmB)(zRW:∀ args w,(callFunc zgx args).run Tryz.prog w = .ok (.enter zgx args) w)(zRX:∀ w:World,PZ [] w Z→∀(x0:z6) (r:Bool),zgw x0=some r→Calls Tryz.prog zgx (([(.agg #[(vi x0.fBurst.fN),(vi x0.fBurst.fD),(vi x0.fRate.fN),(vi x0.fRate.fD)])]:List Value)++zmC).toArray w fun e w'=>e = .returned (.bool r)∧Hp [] w w' []):
  Calls Tryz.prog 208 #[(.slice zH4 zmB.length zH5),(.func (.func zgx) #[] (zmC).toArray)] w₀ fun e w'=>e = .returned (.bool r)∧Hp [] w₀ w' []:=by
 unfold y1z at h
 refine Lz Tryz.func208 Tryz.ntmps208 ?_
 refine WC.b<|Ld<|La U<|WL.nil<|Lb<|WC.b ?_
 obtain⟨zH3,zRY,h⟩:=za h
 refine Ld<|La U<|La U<|Lk 7 (zb Tryz.call220<|.r2 U U) .nil (cc hz .nil fun w pz ho=>y71 _ _ _ (zgv:=zgx) (zmA:=zmC) _ (z9C:=zgw) _ zRY w pz zRV zRW zRX)<|La U<|La U<|WL.nil<|Lb<|WC.ret ?_
 obtain rfl:=oJ h
 refine Lh Tryz.results208 (.tmp U .nil)<|fun w hw=>?_
 exact⟨yD U,hw.sub .nil⟩
def y4Y(zcc:List z6):Option Bool:=
 (if (decide (((zcc.length:Nat):Int)≥1))&&(decide (((zcc.length:Nat):Int)≤32)) then(y1z zcc (fun(y0:z6)=>y5t y0)).bind fun zH6=>some (!zH6) else some false).bind fun zxe=>some zxe
theorem y86{Z:Zp}{zH7:Option Addr}{zH8:Nat}{zcc:List z6}{r:Bool}(h:y4Y zcc=some r)(w₀:World)(hz:PZ [] w₀ Z)(zRZ:ZS Z 4 (fun r x=>r=y1N x) zH7 zH8 zcc):
  Calls Tryz.prog 192 #[(.slice zH7 zcc.length zH8)] w₀ fun e w'=>e = .returned (.bool r)∧Hp [] w₀ w' []:=by
 unfold y4Y at h
 refine L6 Tryz.func192 Tryz.ntmps192 ?_
 refine WC.b<|Ld<|La U<|WL.nil<|Lb<|WC.b ?_
 obtain⟨zxe,zH9,h⟩:=za h
 refine Ld<|La U<|Le 4 (yG Tryz.underlying227 U)<|La U<|La U<|Lx true 3 6 (B:=(decide (((zcc.length:Nat):Int)≥1))&&(decide (((zcc.length:Nat):Int)≤32))) U U U U U U (fun h=>(y3W h).symm) (fun _ zS0=>?_) ?_
 ·skip
  refine La U<|Le 8 (yG Tryz.underlying227 U)<|La U<|La U ?_
  exact Ly (y3X zS0) U U .all
 refine La U<|Lx true 3 11 (B:=zxe) U U U U U U (fun h=>(oJ<|ys zH9 h).symm) (fun _ zS1=>?_) ?_
 ·skip
  have zmD:=yr zH9 zS1
  obtain⟨zH6,zS2,zmD⟩:=za zmD
  replace zmD:=oJ zmD
  refine La U<|Lk 13 (zb Tryz.call208<|.r2 U U) .nil (cc hz .nil fun w pz ho=>y4s _ _ _ (zgx:=209) (zmC:=[]) _ (zgw:=(fun(y0:z6)=>y5t y0)) _ zS2 w pz zRZ Tryz.call209<|fun w' hz' y0  r  hr=>yel hr w' hz' )<|La U<|La U ?_
  exact Ly zmD U U .all
 refine La U<|WL.nil<|Lb<|WC.ret ?_
 obtain rfl:=oJ h
 refine Lh Tryz.results192 (.tmp U .nil)<|fun w hw=>?_
 exact⟨yD U,hw.sub .nil⟩
def y1A(zmE:List z6):Option Bool:=
 (y4Y zmE).bind fun zHa=>some (!zHa)
theorem y7j{Z:Zp}{zHb:Option Addr}{zHc:Nat}{zmE:List z6}{r:Bool}(h:y1A zmE=some r)(w₀:World)(hz:PZ [] w₀ Z)(zS3:ZS Z 4 (fun r x=>r=y1N x) zHb zHc zmE):
  Calls Tryz.prog 197 #[(.slice zHb zmE.length zHc)] w₀ fun e w'=>e = .returned (.bool r)∧Hp [] w₀ w' []:=by
 unfold y1A at h
 refine L6 Tryz.func197 Tryz.ntmps197 ?_
 refine WC.b<|Ld<|La U<|WL.nil<|Lb<|WC.b ?_
 obtain⟨zHa,zS4,h⟩:=za h
 refine Ld<|La U<|Lk 4 (zb Tryz.call192<|.cons U .nil) .nil (cc hz .nil fun w pz ho=>y86 zS4 w pz zS3)<|La U<|La U<|WL.nil<|Lb<|WC.ret ?_
 obtain rfl:=oJ h
 refine Lh Tryz.results197 (.tmp U .nil)<|fun w hw=>?_
 exact⟨yD U,hw.sub .nil⟩
def y19(z6k:List (List z6))(z9D:(List z6)→Option Bool)(zcd:Option Int):Nat→Int→Option Int
 | 0,_=>none
 | zxf+1,z5S=>if decide (z5S<((z6k.length:Nat):Int)) then chk ((0:Int)≤z5S∧z5S<((z6k.length:Nat):Int)) ((z9D (nth z6k z5S)).bind fun zxg=>if zxg then some z5S else y19 z6k z9D zcd zxf (i64 (z5S+1))) else zcd
theorem y5Y{n:Nat}{z6k:List (List z6)}{z9D:(List z6)→Option Bool}{zcd:Option Int}{z5S:Int}{r:Int}(h:y19 z6k z9D zcd n z5S=some r):∃ m,n=m+1:=by
 cases n with
 | zero=>cases h
 | succ m=>exact⟨m,rfl⟩
def y2s(z6k:List (List z6))(z9D:(List z6)→Option Bool):Option Int:=
 jp0 (some (-1)) fun zcd=>y19 z6k z9D zcd yx 0
theorem y7c(Z:Zp)(zxh:Option Addr)(zxi:Nat)(zgy:FuncId)(zmF:List Value)(z6k:List (List z6))(z9D:(List z6)→Option Bool)(r:Int)(h:y2s z6k z9D=some r)(w₀:World)(hz:PZ [] w₀ Z)(zS5:ZS Z 1 (y26 Z) zxh zxi z6k)(zS6:∀ args w,(callFunc zgy args).run Tryz.prog w = .ok (.enter zgy args) w)(zS7:∀ w:World,PZ [] w Z→∀(x0:List z6) (ao0:Option Addr) (cap0:Nat) (r:Bool),ZS Z 4 (fun r x=>r=y1N x) ao0 cap0 x0→z9D x0=some r→Calls Tryz.prog zgy (([(.slice ao0 x0.length cap0)]:List Value)++zmF).toArray w fun e w'=>e = .returned (.bool r)∧Hp [] w w' []):
  Calls Tryz.prog 211 #[(.slice zxh z6k.length zxi),(.func (.func zgy) #[] (zmF).toArray)] w₀ fun e w'=>e = .returned (vi r)∧Hp [] w₀ w' []:=by
 unfold y2s at h
 refine Lz Tryz.func211 Tryz.ntmps211 ?_
 refine WC.b<|Ld<|La U<|WL.nil<|Lb ?_
 obtain⟨zcd,zS8,h⟩:=y25 h
 refine L8 ((zcd=some r)) ([]) ([]) ?_ ?_
 ·skip
  refine WC.b<|Ld<|La U<|Le 7 (yG Tryz.underlying171 U)<|La U<|WL.nil<|Lb<|WC.block<|L9 (fun(zj5:Nat) (z5S:Int)=>(y19 z6k z9D zcd zj5 z5S=some r)) (fun zj5 z5S=>[(0,(.slice zxh z6k.length zxi)),(1,(.func (.func zgy) #[] (zmF).toArray)),(7,(vi ((z6k.length:Nat):Int))),(8,(vi z5S))]) (fun zj5 z5S=>[]) (fun zj5 z5S=>zj5) ⟨yx,0⟩ h (.r4 U U U U) .nil ?_
  rintro zj5 z5S h
  obtain⟨zxf,rfl⟩:=y5Y h
  rw[y19] at h
  refine WC.b<|Ld<|La U<|WL.nil<|Lb<|WC.b<|WC.cond U (fun zxj=>?_)<|fun zxj=>?_
  ·replace h:=yr h zxj
   refine WC.skip<|Lb<|WC.b<|WC.block<|WC.b<|Ld<|La U<|La U<|WL.nil<|Lb<|WC.b ?_
   obtain⟨zS9,h⟩:=yl h
   obtain⟨zxg,zSa,h⟩:=za h
   refine Ld<|La U<|La U<|La U<|L0 (dd:=14) U U (Z:=Z) (Pr:=(y26 Z)) z9i U U zS5 zS9 ?_
   rintro z15O z15P zSb z15Q ⟨zSc,zSd,rfl,zSe⟩
   refine Le 15 (yc zdB U<|y3a hz.pv zSb U)<|Lk 16 (y2G (l:=[.tmp 15]) (f:=zgy) (caps:=zmF) zS6 U<|.cons U .nil) .nil (fun w hw=>zS7 w (hz.now hw) (nth z6k z5S) zSc zSd zxg zSe zSa)<|WL.nil<|Lb<|WC.cond U (fun zxk=>?_)<|fun zxk=>?_
   ·replace h:=yr h zxk
    refine WC.b<|Ld<|La U<|La U<|WL.nil<|Lb<|WC.ret<|Lq<|Lj<|Lj<|Lq<|Lj ?_
    obtain rfl:=oJ h
    refine Lh Tryz.results211 (.tmp U .nil)<|fun w hw=>?_
    exact⟨yD U,hw.sub .nil⟩
   ·replace h:=ys h zxk
    refine WC.skip<|Lt<|Lb<|Ld<|La U<|La U<|WL.nil ?_
    exact WX.round ⟨zxf,(i64 (z5S+1))⟩ h (Nat.lt_succ_self _) (.r4 U U U U) .nil
  ·replace h:=ys h zxj
   refine WC.exit<|Ln<|Ln<|Lu ?_
   exact Lo () h .nil .nil
 ·rintro  h
  replace h:=zS8.symm.trans h
  refine WC.b<|Ld<|La U<|WL.nil<|Lb<|WC.ret ?_
  obtain rfl:=oJ h
  refine Lh Tryz.results211 (.tmp U .nil)<|fun w hw=>?_
  exact⟨yD U,hw.sub .nil⟩
def y1i(zmG:List (List z6))(zgz:(List z6)→Option Bool):Option Bool:=
 (y2s zmG zgz).bind fun zHd=>some (decide (zHd≥0))
theorem y4H(Z:Zp)(zHe:Option Addr)(zHf:Nat)(zgA:FuncId)(zmH:List Value)(zmG:List (List z6))(zgz:(List z6)→Option Bool)(r:Bool)(h:y1i zmG zgz=some r)(w₀:World)(hz:PZ [] w₀ Z)(zSf:ZS Z 1 (y26 Z) zHe zHf zmG)(zSg:∀ args w,(callFunc zgA args).run Tryz.prog w = .ok (.enter zgA args) w)(zSh:∀ w:World,PZ [] w Z→∀(x0:List z6) (ao0:Option Addr) (cap0:Nat) (r:Bool),ZS Z 4 (fun r x=>r=y1N x) ao0 cap0 x0→zgz x0=some r→Calls Tryz.prog zgA (([(.slice ao0 x0.length cap0)]:List Value)++zmH).toArray w fun e w'=>e = .returned (.bool r)∧Hp [] w w' []):
  Calls Tryz.prog 196 #[(.slice zHe zmG.length zHf),(.func (.func zgA) #[] (zmH).toArray)] w₀ fun e w'=>e = .returned (.bool r)∧Hp [] w₀ w' []:=by
 unfold y1i at h
 refine Lz Tryz.func196 Tryz.ntmps196 ?_
 refine WC.b<|Ld<|La U<|WL.nil<|Lb<|WC.b ?_
 obtain⟨zHd,zSi,h⟩:=za h
 refine Ld<|La U<|La U<|Lk 7 (zb Tryz.call211<|.r2 U U) .nil (cc hz .nil fun w pz ho=>y7c _ _ _ (zgy:=zgA) (zmF:=zmH) _ (z9D:=zgz) _ zSi w pz zSf zSg zSh)<|La U<|La U<|WL.nil<|Lb<|WC.ret ?_
 obtain rfl:=oJ h
 refine Lh Tryz.results196 (.tmp U .nil)<|fun w hw=>?_
 exact⟨yD U,hw.sub .nil⟩
def y5a(z4m:zSv):Option Bool:=
 (y1Y z4m.fRate).bind fun zxl=>(if zxl&&(decide (z4m.fRate.fN>0)) then(y1Y z4m.fL).bind fun zHg=>some zHg else some false).bind fun zq3=>some (zq3&&(decide (z4m.fL.fN≥0)))
theorem yap{Z:Zp}{z4m:zSv}{r:Bool}(h:y5a z4m=some r)(w₀:World)(hz:PZ [] w₀ Z):
  Calls Tryz.prog 198 #[(.agg #[(vi z4m.fRate.fN),(vi z4m.fRate.fD),(vi z4m.fL.fN),(vi z4m.fL.fD)])] w₀ fun e w'=>e = .returned (.bool r)∧Hp [] w₀ w' []:=by
 unfold y5a at h
 refine L6 Tryz.func198 Tryz.ntmps198 ?_
 refine WC.b<|Ld (Lg 1 (yI (cs:=[(vi z4m.fRate.fN),(vi z4m.fRate.fD),(vi z4m.fL.fN),(vi z4m.fL.fD)]) U U) fun z15R _=>La U<|WL.nil<|Lb<|WC.b ?_)
 obtain⟨zxl,zSj,h⟩:=za h
 obtain⟨zq3,zHh,h⟩:=za h
 refine Ld<|Le 3 (ya y96 U U)<|Le 4 (y14 (cs:=[(vi z4m.fRate.fN),(vi z4m.fRate.fD)]) zg U U<|y3D (s:=2) .here U)<|Lk 5 (zb Tryz.call130<|.cons U .nil) .nil (cc hz .nil fun w pz ho=>y2N zSj w pz )<|La U<|Lx true 4 6 (B:=zxl&&(decide (z4m.fRate.fN>0))) U U U U U U (fun h=>(y3W h).symm) (fun _ zSk=>?_) ?_
 ·skip
  refine Le 7 (ya y96 U U)<|Le 8 (ya y2D U U)<|Le 9 (yc yq U<|yi .here U)<|La U<|La U ?_
  exact Ly (y3X zSk) U U .all
 refine La U<|Lx true 3 12 (B:=zq3) U U U U U U (fun h=>(oJ<|ys zHh h).symm) (fun _ zSl=>?_) ?_
 ·skip
  have zmI:=yr zHh zSl
  obtain⟨zHg,zSm,zmI⟩:=za zmI
  replace zmI:=oJ zmI
  refine Le 13 (ya y97 U U)<|Le 14 (y14 (cs:=[(vi z4m.fL.fN),(vi z4m.fL.fD)]) zg U U<|y3D (s:=2) .here U)<|Lk 15 (zb Tryz.call130<|.cons U .nil) .nil (cc hz .nil fun w pz ho=>y2N zSm w pz )<|La U ?_
  exact Ly zmI U U .all
 refine La U<|Lx true 4 17 (B:=zq3&&(decide (z4m.fL.fN≥0))) U U U U U U (fun h=>(y3W h).symm) (fun _ zSn=>?_) ?_
 ·skip
  refine Le 18 (ya y97 U U)<|Le 19 (ya y2D U U)<|Le 20 (yc yq U<|yi .here U)<|La U<|La U ?_
  exact Ly (y3X zSn) U U .all
 refine La U<|WL.nil<|Lb<|WC.ret ?_
 obtain rfl:=oJ h
 refine Lh Tryz.results198 (.tmp U .nil)<|fun w hw=>?_
 exact⟨yD U,hw.sub .nil⟩
def y1w(zmJ:Int):Option z2:=
 some (⟨zmJ,1⟩:z2)
theorem y3i{Z:Zp}{zmJ:Int}{r:z2}(h:y1w zmJ=some r)(w₀:World)(hz:PZ [] w₀ Z):
  Calls Tryz.prog 191 #[(vi zmJ)] w₀ fun e w'=>e = .returned (.agg #[(vi r.fN),(vi r.fD)])∧Hp [] w₀ w' []:=by
 unfold y1w at h
 refine L6 Tryz.func191 Tryz.ntmps191 ?_
 refine WC.b<|Ld (Lg 2 (yv (cs:=[(vi 0),(vi 0)]) zV U) fun z15S _=>WL.nil<|Lb<|WC.b<|Ld<|La U<|Le 4 (yL (v:=(.agg #[(vi zmJ),(vi 1)])) (Lp (l:=[.tmp 3,.const (vi 1)]) (.r2 U U) [0,1]) (fun _=>by kernel_rfl))<|Ll U U (yn zz U U U .here U U U)<|WL.nil<|Lb<|WC.ret ?_)
 obtain rfl:=oJ h
 refine Lh Tryz.results191 (.agg U zg U (yj .here) .nil)<|fun w hw=>?_
 exact⟨yD U,hw.sub .nil⟩
def y39  : Option z2:=
 (y1w 0).bind fun zHi=>some zHi
theorem y4L{Z:Zp}{r:z2}(h:y39=some r)(w₀:World)(hz:PZ [] w₀ Z):
  Calls Tryz.prog 161 #[] w₀ fun e w'=>e = .returned (.agg #[(vi r.fN),(vi r.fD)])∧Hp [] w₀ w' []:=by
 unfold y39 at h
 refine Calls.on0 Tryz.func161 Tryz.ntmps161 ?_
 refine WC.b<|Ld (Lg 0 (yv (cs:=[(vi 0),(vi 0)]) zV U) fun z15T _=>WL.nil<|Lb<|WC.b ?_)
 obtain⟨zHi,zSo,h⟩:=za h
 refine Ld<|Lk 1 (zb Tryz.call191<|.cons U .nil) .nil (cc hz .nil fun w pz ho=>y3i zSo w pz )<|Ll U U (yn zz U U U .here U U U)<|WL.nil<|Lb<|WC.ret ?_
 obtain rfl:=oJ h
 refine Lh Tryz.results161 (.agg U zg U (yj .here) .nil)<|fun w hw=>?_
 exact⟨yD U,hw.sub .nil⟩
def y1r(z3G:List z6)(z3H:z6)(zce:Option Int):Nat→Int→Option Int
 | 0,_=>none
 | zxm+1,z3p=>if decide (z3p<((z3G.length:Nat):Int)) then chk ((0:Int)≤z3p∧z3p<((z3G.length:Nat):Int)) (if decide (z3H=(⟨(⟨(((nth z3G z3p).fBurst).fN),(((nth z3G z3p).fBurst).fD)⟩:z2),(⟨(((nth z3G z3p).fRate).fN),(((nth z3G z3p).fRate).fD)⟩:z2)⟩:z6)) then some z3p else y1r z3G z3H zce zxm (i64 (z3p+1))) else zce
theorem y6n{n:Nat}{z3G:List z6}{z3H:z6}{zce:Option Int}{z3p:Int}{r:Int}(h:y1r z3G z3H zce n z3p=some r):∃ m,n=m+1:=by
 cases n with
 | zero=>cases h
 | succ m=>exact⟨m,rfl⟩
def y3Z(z3G:List z6)(z3H:z6):Option Int:=
 jp0 (some (-1)) fun zce=>y1r z3G z3H zce yx 0
theorem y7K{Z:Zp}{zxn:Option Addr}{zxo:Nat}{z3G:List z6}{z3H:z6}{r:Int}(h:y3Z z3G z3H=some r)(w₀:World)(hz:PZ [] w₀ Z)(zSp:ZS Z 4 (fun r x=>r=y1N x) zxn zxo z3G):
  Calls Tryz.prog 228 #[(.slice zxn z3G.length zxo),(.agg #[(vi z3H.fBurst.fN),(vi z3H.fBurst.fD),(vi z3H.fRate.fN),(vi z3H.fRate.fD)])] w₀ fun e w'=>e = .returned (vi r)∧Hp [] w₀ w' []:=by
 unfold y3Z at h
 refine Lz Tryz.func228 Tryz.ntmps228 ?_
 let A:List Value:=[(vi z3H.fBurst.fN),(vi z3H.fBurst.fD),(vi z3H.fRate.fN),(vi z3H.fRate.fD)];refine WC.b (Ld (Lg 3 (yI (cs:=A) U U) ?_))
 intro zHj _
 refine La U<|WL.nil<|Lb ?_
 obtain⟨zce,zSq,h⟩:=y25 h
 refine L8 ((zce=some r)) ([]) ([]) ?_ ?_
 ·skip
  refine WC.b<|Ld<|La U<|Le 7 (yG Tryz.underlying227 U)<|La U<|WL.nil<|Lb<|WC.block<|L9 (fun(zj6:Nat) (z3p:Int)=>(y1r z3G z3H zce zj6 z3p=some r)) (fun zj6 z3p=>[(0,(.slice zxn z3G.length zxo)),(3,(vp zHj)),(7,(vi ((z3G.length:Nat):Int))),(8,(vi z3p))]) (fun zj6 z3p=>[stb zHj 225 A]) (fun zj6 z3p=>zj6) ⟨yx,0⟩ h (.r4 U U U U) (.cons .here .nil) ?_
  rintro zj6 z3p h
  obtain⟨zxm,rfl⟩:=y6n h
  rw[y1r] at h
  refine WC.b<|Ld<|La U<|WL.nil<|Lb<|WC.b<|WC.cond U (fun zxp=>?_)<|fun zxp=>?_
  ·replace h:=yr h zxp
   refine WC.skip<|Lb<|WC.b<|WC.block<|WC.b<|Ld<|La U<|La U<|WL.nil<|Lb<|WC.b ?_
   obtain⟨zSr,h⟩:=yl h
   refine Lv (fun i=>[].contains i) [] U<|Li 0 11 U (yh z3a U (yj .here) U)<|Lf 1 12 U (fun _=>q_m U)<|Lf 2 13 U (fun _=>q_m U)<|L5 (j:=3) (dd:=14) (by kernel_rfl) U z1Z z20 U U (Z:=Z) (Pr:=(fun r x=>r=y1N x)) z80 U U zSp zSr ?_
   rintro z15U z15V zSs z15W rfl
   refine Li 4 15 U (yh z3a U (y2d hz.pv zSs) U)<|Lf 5 16 U (fun _=>y8V (enc:=y1N) (a:=z3H) (b:=(⟨(⟨(((nth z3G z3p).fBurst).fN),(((nth z3G z3p).fBurst).fD)⟩:z2),(⟨(((nth z3G z3p).fRate).fN),(((nth z3G z3p).fRate).fD)⟩:z2)⟩:z6)) zDB U U)<|WD.done (by kernel_rfl)<|Lb<|WC.cond U (fun zxq=>?_)<|fun zxq=>?_
   ·replace h:=yr h zxq
    refine WC.b<|Ld<|La U<|La U<|WL.nil<|Lb<|WC.ret<|Lq<|Lj<|Lj<|Lq<|Lj ?_
    obtain rfl:=oJ h
    refine Lh Tryz.results228 (.tmp U .nil)<|fun w hw=>?_
    exact⟨yD U,hw.sub .nil⟩
   ·replace h:=ys h zxq
    refine WC.skip<|Lt<|Lb<|Ld<|La U<|La U<|WL.nil ?_
    exact WX.round ⟨zxm,(i64 (z3p+1))⟩ h (Nat.lt_succ_self _) (.r4 U U U U)<|.cons .here .nil
  ·replace h:=ys h zxp
   refine WC.exit<|Ln<|Ln<|Lu ?_
   exact Lo () h .nil .nil
 ·rintro  h
  replace h:=zSq.symm.trans h
  refine WC.b<|Ld<|La U<|WL.nil<|Lb<|WC.ret ?_
  obtain rfl:=oJ h
  refine Lh Tryz.results228 (.tmp U .nil)<|fun w hw=>?_
  exact⟨yD U,hw.sub .nil⟩
def y2t(zmK:List z6)(z9E:z6):Option Bool:=
 (y3Z zmK z9E).bind fun zHk=>some (decide (zHk≥0))
theorem y7d{Z:Zp}{zHl:Option Addr}{zHm:Nat}{zmK:List z6}{z9E:z6}{r:Bool}(h:y2t zmK z9E=some r)(w₀:World)(hz:PZ [] w₀ Z)(zSt:ZS Z 4 (fun r x=>r=y1N x) zHl zHm zmK):
  Calls Tryz.prog 221 #[(.slice zHl zmK.length zHm),(.agg #[(vi z9E.fBurst.fN),(vi z9E.fBurst.fD),(vi z9E.fRate.fN),(vi z9E.fRate.fD)])] w₀ fun e w'=>e = .returned (.bool r)∧Hp [] w₀ w' []:=by
 unfold y2t at h
 refine Lz Tryz.func221 Tryz.ntmps221 ?_
 refine WC.b<|Ld (Lg 3 (yI (cs:=[(vi z9E.fBurst.fN),(vi z9E.fBurst.fD),(vi z9E.fRate.fN),(vi z9E.fRate.fD)]) U U) fun z15X _=>La U<|WL.nil<|Lb<|WC.b ?_)
 obtain⟨zHk,zSu,h⟩:=za h
 refine Ld<|La U<|Le 6 (yh z3a U (yj .here) U)<|Lk 7 (zb Tryz.call228<|.r2 U U) .nil (cc hz .nil fun w pz ho=>y7K zSu w pz zSt)<|La U<|La U<|WL.nil<|Lb<|WC.ret ?_
 obtain rfl:=oJ h
 refine Lh Tryz.results221 (.tmp U .nil)<|fun w hw=>?_
 exact⟨yD U,hw.sub .nil⟩
def y1u(z9F:z2)(z9G:z2):Option Int:=
 (y1Y z9F).bind fun zHn=>(if !zHn then some true else(y1Y z9G).bind fun zHo=>some (!zHo)).bind fun zxr=>if zxr then some 0 else if decide ((i64 (z9F.fN*z9G.fD))<(i64 (z9G.fN*z9F.fD))) then some (-1) else if decide ((i64 (z9F.fN*z9G.fD))>(i64 (z9G.fN*z9F.fD))) then some 1 else some 0
theorem y4Z{Z:Zp}{z9F:z2}{z9G:z2}{r:Int}(h:y1u z9F z9G=some r)(w₀:World)(hz:PZ [] w₀ Z):
  Calls Tryz.prog 129 #[(.agg #[(vi z9F.fN),(vi z9F.fD)]),(.agg #[(vi z9G.fN),(vi z9G.fD)])] w₀ fun e w'=>e = .returned (vi r)∧Hp [] w₀ w' []:=by
 unfold y1u at h
 refine Lz Tryz.func129 Tryz.ntmps129 ?_
 refine WC.b<|Ld (Lg 2 (yI (cs:=[(vi z9F.fN),(vi z9F.fD)]) U U) fun z15Y _=>Lg 3 (yI (cs:=[(vi z9G.fN),(vi z9G.fD)]) U U) fun z15Z _=>La U<|WL.nil<|Lb<|WC.b<|WC.b ?_)
 obtain⟨zHn,zSv,h⟩:=za h
 obtain⟨zxr,zHp,h⟩:=za h
 refine Ld<|Le 7 (yh zg U (yj .h1) U)<|Lk 8 (zb Tryz.call130<|.cons U .nil) .nil (cc hz .nil fun w pz ho=>y2N zSv w pz )<|La U<|La U<|Lx false 3 10 (B:=zxr) U U U U U U (fun h=>(oJ<|yr zHp h).symm) (fun _ zSw=>?_) ?_
 ·skip
  have zmL:=ys zHp zSw
  obtain⟨zHo,zSx,zmL⟩:=za zmL
  replace zmL:=oJ zmL
  refine Le 11 (yh zg U (yj .here) U)<|Lk 12 (zb Tryz.call130<|.cons U .nil) .nil (cc hz .nil fun w pz ho=>y2N zSx w pz )<|La U<|La U ?_
  exact Ly zmL U U .all
 refine WL.nil<|Lb<|WC.cond U (fun zxs=>?_)<|fun zxs=>?_
 ·replace h:=yr h zxs
  refine WC.b<|Ld<|La U<|WL.nil<|Lb<|WC.ret<|Lj ?_
  obtain rfl:=oJ h
  refine Lh Tryz.results129 (.tmp U .nil)<|fun w hw=>?_
  exact⟨yD U,hw.sub .nil⟩
 ·replace h:=ys h zxs
  refine WC.skip<|Lb<|WC.b<|WC.b<|Lv (fun i=>[].contains i) [] U<|Lf 0 15 U (fun _=>ya y2D U U)<|Li 1 16 U (yc yq U<|yi .h1 U)<|Lf 2 17 U (fun _=>ya y33 U U)<|Li 3 18 U (yc yq U<|yi .here U)<|Lf 4 19 U (fun _=>y7f U U U)<|Lf 5 20 U (fun _=>ya y2D U U)<|Li 6 21 U (yc yq U<|yi .here U)<|Lf 7 22 U (fun _=>ya y33 U U)<|Li 8 23 U (yc yq U<|yi .h1 U)<|Lf 9 24 U (fun _=>y7f U U U)<|Lf 10 5 U (fun _=>q_z U)<|Lf 11 6 U (fun _=>q_z U)<|WD.done (by kernel_rfl)<|Lb<|WC.block<|WC.b<|Ld<|La U<|La U<|La U<|La U<|WL.nil<|Lb<|WC.cond U (fun zxt=>?_)<|fun zxt=>?_
  ·replace h:=yr h zxt
   refine WC.b<|Ld<|La U<|WL.nil<|Lb<|WC.ret<|Lq<|Lj ?_
   obtain rfl:=oJ h
   refine Lh Tryz.results129 (.tmp U .nil)<|fun w hw=>?_
   exact⟨yD U,hw.sub .nil⟩
  ·replace h:=ys h zxt
   refine WC.b<|Ld<|La U<|La U<|La U<|La U<|WL.nil<|Lb<|WC.cond U (fun zxu=>?_)<|fun zxu=>?_
   ·replace h:=yr h zxu
    refine WC.b<|Ld<|La U<|WL.nil<|Lb<|WC.ret<|Lq<|Lj ?_
    obtain rfl:=oJ h
    refine Lh Tryz.results129 (.tmp U .nil)<|fun w hw=>?_
    exact⟨yD U,hw.sub .nil⟩
   ·replace h:=ys h zxu
    refine WC.skip<|Lt<|Lb<|WC.b<|Ld<|La U<|WL.nil<|Lb<|WC.ret ?_
    obtain rfl:=oJ h
    refine Lh Tryz.results129 (.tmp U .nil)<|fun w hw=>?_
    exact⟨yD U,hw.sub .nil⟩
def y5F(z5a:z6)(z5b:z6):Option Bool:=
 (if decide (z5a≠z5b) then(y1u z5a.fBurst z5b.fBurst).bind fun zHq=>some (decide (zHq≤0)) else some false).bind fun zxv=>(if zxv then(y1u z5a.fRate z5b.fRate).bind fun zHr=>some (decide (zHr≤0)) else some false).bind fun zxw=>some zxw
theorem ydn{Z:Zp}{z5a:z6}{z5b:z6}{r:Bool}(h:y5F z5a z5b=some r)(w₀:World)(hz:PZ [] w₀ Z):
  Calls Tryz.prog 223 #[(.agg #[(vi z5a.fBurst.fN),(vi z5a.fBurst.fD),(vi z5a.fRate.fN),(vi z5a.fRate.fD)]),(.agg #[(vi z5b.fBurst.fN),(vi z5b.fBurst.fD),(vi z5b.fRate.fN),(vi z5b.fRate.fD)])] w₀ fun e w'=>e = .returned (.bool r)∧Hp [] w₀ w' []:=by
 unfold y5F at h
 refine Lz Tryz.func223 Tryz.ntmps223 ?_
 refine WC.b<|Ld (Lg 2 (yI (cs:=[(vi z5a.fBurst.fN),(vi z5a.fBurst.fD),(vi z5a.fRate.fN),(vi z5a.fRate.fD)]) U U) fun z160 _=>Lg 3 (yI (cs:=[(vi z5b.fBurst.fN),(vi z5b.fBurst.fD),(vi z5b.fRate.fN),(vi z5b.fRate.fD)]) U U) fun z161 _=>La U<|WL.nil<|Lb<|WC.b ?_)
 obtain⟨zxv,zHs,h⟩:=za h
 obtain⟨zxw,zHt,h⟩:=za h
 refine Ld<|Le 5 (yh z3a U (yj .h1) U)<|Le 6 (yh z3a U (yj .here) U)<|Le 7 (ybD (enc:=y1N) (a:=z5a) (b:=z5b) zDB U U)<|La U<|Lx true 6 8 (B:=zxv) U U U U U U (fun h=>(oJ<|ys zHs h).symm) (fun _ zSy=>?_) ?_
 ·skip
  have zmM:=yr zHs zSy
  obtain⟨zHq,zSz,zmM⟩:=za zmM
  replace zmM:=oJ zmM
  refine Le 9 (ya y5z U U)<|Le 10 (y14 (cs:=[(vi z5a.fBurst.fN),(vi z5a.fBurst.fD)]) zg U U<|y3D (s:=2) .h1 U)<|Le 11 (ya y5z U U)<|Le 12 (y14 (cs:=[(vi z5b.fBurst.fN),(vi z5b.fBurst.fD)]) zg U U<|y3D (s:=2) .here U)<|Lk 13 (zb Tryz.call129<|.r2 U U) .nil (cc hz .nil fun w pz ho=>y4Z zSz w pz )<|La U<|La U ?_
  exact Ly zmM U U .all
 refine La U<|Lx true 6 16 (B:=zxw) U U U U U U (fun h=>(oJ<|ys zHt h).symm) (fun _ zSA=>?_) ?_
 ·skip
  have zmN:=yr zHt zSA
  obtain⟨zHr,zSB,zmN⟩:=za zmN
  replace zmN:=oJ zmN
  refine Le 17 (ya y6k U U)<|Le 18 (y14 (cs:=[(vi z5a.fRate.fN),(vi z5a.fRate.fD)]) zg U U<|y3D (s:=2) .h1 U)<|Le 19 (ya y6k U U)<|Le 20 (y14 (cs:=[(vi z5b.fRate.fN),(vi z5b.fRate.fD)]) zg U U<|y3D (s:=2) .here U)<|Lk 21 (zb Tryz.call129<|.r2 U U) .nil (cc hz .nil fun w pz ho=>y4Z zSB w pz )<|La U<|La U ?_
  exact Ly zmN U U .all
 refine La U<|WL.nil<|Lb<|WC.ret ?_
 obtain rfl:=oJ h
 refine Lh Tryz.results223 (.tmp U .nil)<|fun w hw=>?_
 exact⟨yD U,hw.sub .nil⟩
def y5L(z9H:z6)(zgB:z6):Option Bool:=
 (y5F z9H zgB).bind fun zHu=>some zHu
theorem yeY{Z:Zp}{zHv:Addr}{z9H:z6}{zgB:z6}{r:Bool}(h:y5L z9H zgB=some r)(w₀:World)(hz:PZ [] w₀ Z)(zSC:ZC Z zHv [(vi zgB.fBurst.fN),(vi zgB.fBurst.fD),(vi zgB.fRate.fN),(vi zgB.fRate.fD)]):
  Calls Tryz.prog 222 #[(.agg #[(vi z9H.fBurst.fN),(vi z9H.fBurst.fD),(vi z9H.fRate.fN),(vi z9H.fRate.fD)]),(vq zHv)] w₀ fun e w'=>e = .returned (.bool r)∧Hp [] w₀ w' []:=by
 unfold y5L at h
 refine Lz Tryz.func222 Tryz.ntmps222 ?_
 refine WC.b<|Ld (Lg 2 (yI (cs:=[(vi z9H.fBurst.fN),(vi z9H.fBurst.fD),(vi z9H.fRate.fN),(vi z9H.fRate.fD)]) U U) fun z162 _=>La U<|WL.nil<|Lb<|WC.b ?_)
 obtain⟨zHu,zSD,h⟩:=za h
 refine Ld<|Le 4 (yh z3a U (yj .here) U)<|Le 5 (yh z3a U (y2d hz.pv zSC) U)<|Lk 6 (zb Tryz.call223<|.r2 U U) .nil (cc hz .nil fun w pz ho=>ydn zSD w pz )<|La U<|WL.nil<|Lb<|WC.ret ?_
 obtain rfl:=oJ h
 refine Lh Tryz.results222 (.tmp U .nil)<|fun w hw=>?_
 exact⟨yD U,hw.sub .nil⟩
def y6B(z8a:z6)(z8b:z6):Option Int:=
 (y1u z8a.fBurst z8b.fBurst).bind fun zHw=>some zHw
theorem yeZ{Z:Zp}{z8a:z6}{z8b:z6}{r:Int}(h:y6B z8a z8b=some r)(w₀:World)(hz:PZ [] w₀ Z):
  Calls Tryz.prog 225 #[(.agg #[(vi z8a.fBurst.fN),(vi z8a.fBurst.fD),(vi z8a.fRate.fN),(vi z8a.fRate.fD)]),(.agg #[(vi z8b.fBurst.fN),(vi z8b.fBurst.fD),(vi z8b.fRate.fN),(vi z8b.fRate.fD)])] w₀ fun e w'=>e = .returned (vi r)∧Hp [] w₀ w' []:=by
 unfold y6B at h
 refine Lz Tryz.func225 Tryz.ntmps225 ?_
 refine WC.b<|Ld (Lg 2 (yI (cs:=[(vi z8a.fBurst.fN),(vi z8a.fBurst.fD),(vi z8a.fRate.fN),(vi z8a.fRate.fD)]) U U) fun z163 _=>Lg 3 (yI (cs:=[(vi z8b.fBurst.fN),(vi z8b.fBurst.fD),(vi z8b.fRate.fN),(vi z8b.fRate.fD)]) U U) fun z164 _=>La U<|WL.nil<|Lb<|WC.b ?_)
 obtain⟨zHw,zSE,h⟩:=za h
 refine Ld<|Le 5 (ya y5z U U)<|Le 6 (y14 (cs:=[(vi z8a.fBurst.fN),(vi z8a.fBurst.fD)]) zg U U<|y3D (s:=2) .h1 U)<|Le 7 (ya y5z U U)<|Le 8 (y14 (cs:=[(vi z8b.fBurst.fN),(vi z8b.fBurst.fD)]) zg U U<|y3D (s:=2) .here U)<|Lk 9 (zb Tryz.call129<|.r2 U U) .nil (cc hz .nil fun w pz ho=>y4Z zSE w pz )<|La U<|WL.nil<|Lb<|WC.ret ?_
 obtain rfl:=oJ h
 refine Lh Tryz.results225 (.tmp U .nil)<|fun w hw=>?_
 exact⟨yD U,hw.sub .nil⟩
theorem zSF:∀ w,(isAgg (Tryz.y3K.t 24)).run Tryz.prog w = .ok true w:=fun _=>by kernel_rfl
theorem zSG:∀ w,(Go.sizeOf (Tryz.y3K.t 24)).run Tryz.prog w = .ok 4 w:=fun _=>by kernel_rfl
def y49(z5T:List z6)(zmO:Int)(zmP:Int)(zj7:Int)(zgC:z6→z6→Option Int):Option (List z6):=chk ((zmO=0∧zmP=((z5T.length:Nat):Int))∧(0≤zj7∧zj7<4611686018427387904∧z5T.length<4611686018427387904)) (chk (y87 zgC (yX zgC z5T)=true) (some (yX zgC z5T)))
theorem y7V(Z:Zp)(zgD:Option Addr)(zgE:Nat)(zmQ:FuncId)(zxx:List Value)(z5T:List z6)(zmO:Int)(zmP:Int)(zj7:Int)(zgC:z6→z6→Option Int)(r:List z6)(w₀:World)(hz:PZ (fps [row (.slice zgD z5T.length zgE) 225 4 (z5T.flatMap y1N)]) w₀ Z)(zSH:∀ args w,(callFunc zmQ args).run Tryz.prog w = .ok (.enter zmQ args) w)(zSI:∀ w:World,PZ [] w Z→∀(x0:z6) (x1:z6) (r:Int),zgC x0 x1=some r→Calls Tryz.prog zmQ (([(.agg #[(vi x0.fBurst.fN),(vi x0.fBurst.fD),(vi x0.fRate.fN),(vi x0.fRate.fD)]),(.agg #[(vi x1.fBurst.fN),(vi x1.fBurst.fD),(vi x1.fRate.fN),(vi x1.fRate.fD)])]:List Value)++zxx).toArray w fun e w'=>e = .returned (vi r)∧Hp [] w w' [])(h:y49 z5T zmO zmP zj7 zgC=some r)(hown:Hp (fps [row (.slice zgD z5T.length zgE) 225 4 (z5T.flatMap y1N)]) w₀ w₀ [row (.slice zgD z5T.length zgE) 225 4 (z5T.flatMap y1N)]):
  Calls Tryz.prog 229 #[(.slice zgD z5T.length zgE),(vi zmO),(vi zmP),(vi zj7),(.func (.func zmQ) #[] (zxx).toArray)] w₀ fun e w'=>e = .returned (.tuple #[])∧(r.length=z5T.length)∧Hp (fps [row (.slice zgD z5T.length zgE) 225 4 (z5T.flatMap y1N)]) w₀ w' [row (.slice zgD r.length zgE) 225 4 (r.flatMap y1N)]:=by
 obtain⟨h0,h⟩:=yl h
 obtain⟨h1,h⟩:=yl h
 have hr:=(oJ h).symm
 exact y9n (P:=Tryz.prog) (f:=229) (e:=225) (k:=4) (enc:=y1N) (fun _=>U) (by decide) yhd (fun β _ enc cf g cb hO blk off cap d0 w0 eg hC R=>Tryz.y90 4 zSF zSG enc cf g cb hO blk off cap d0 w0 eg hC R) (Tryz.y8O (α:=Unit)) hz zSH zSI h0 h1 hr hown
def y1s(z5c:List z6)(zj8:z6→z6→Option Int):Option (List z6):=
 (y4k (u64 ((z5c.length:Nat):Int))).bind fun zq4=>(y49 z5c 0 ((z5c.length:Nat):Int) zq4 zj8).bind fun zq5=>some zq5
theorem y7e(Z:Zp)(zes:Option Addr)(zet:Nat)(zj9:FuncId)(zq6:List Value)(z5c:List z6)(zj8:z6→z6→Option Int)(r:List z6)(h:y1s z5c zj8=some r)(w₀:World)(hz:PZ (fps [row (.slice zes z5c.length zet) 225 4 (z5c.flatMap y1N)]) w₀ Z)(zSJ:∀ args w,(callFunc zj9 args).run Tryz.prog w = .ok (.enter zj9 args) w)(zSK:∀ w:World,PZ [] w Z→∀(x0:z6) (x1:z6) (r:Int),zj8 x0 x1=some r→Calls Tryz.prog zj9 (([(.agg #[(vi x0.fBurst.fN),(vi x0.fBurst.fD),(vi x0.fRate.fN),(vi x0.fRate.fD)]),(.agg #[(vi x1.fBurst.fN),(vi x1.fBurst.fD),(vi x1.fRate.fN),(vi x1.fRate.fD)])]:List Value)++zq6).toArray w fun e w'=>e = .returned (vi r)∧Hp [] w w' [])(hown:Hp (fps [row (.slice zes z5c.length zet) 225 4 (z5c.flatMap y1N)]) w₀ w₀ [row (.slice zes z5c.length zet) 225 4 (z5c.flatMap y1N)]):
  Calls Tryz.prog 224 #[(.slice zes z5c.length zet),(.func (.func zj9) #[] (zq6).toArray)] w₀ fun e w'=>e = .returned (.tuple #[])∧(r.length=z5c.length)∧Hp (fps [row (.slice zes z5c.length zet) 225 4 (z5c.flatMap y1N)]) w₀ w' [row (.slice zes r.length zet) 225 4 (r.flatMap y1N)]:=by
 unfold y1s at h
 refine Kg Tryz.func224 Tryz.ntmps224 hown ?_
 refine WC.b<|Ld<|La U<|Le 6 (yG Tryz.underlying227 U)<|La U<|WL.nil<|Lb ?_
 obtain⟨zq4,zSL,h⟩:=za h
 obtain⟨zq5,zSM,h⟩:=za h
 refine Ld<|La U<|La U<|La U<|Le 10 (y8y Tryz.underlying3 Tryz.underlying147 U U)<|Lk 11 (zb Tryz.call57<|.cons U .nil) .nil (cc hz .nil fun w pz ho=>y8H (Z:=_)  (z8F:=(u64 ((z5c.length:Nat):Int))) (r:=zq4) w pz  zSL)<|La U<|WL.y5h (dd:=13) U U U (zb Tryz.call229<|.r5 U U U U U) (.cons .here .nil) (cc hz (.cons .here .nil) fun w pz ho=>y7V (Z:=_) (zgD:=zes) (zgE:=zet) (zmQ:=zj9) (zxx:=zq6) (z5T:=z5c) (zmO:=0) (zmP:=((z5c.length:Nat):Int)) (zj7:=zq4) (zgC:=zj8) (r:=zq5) w pz zSJ zSK zSM ho) ?_
 rintro  zHx
 refine Kh (i:=0) U (u:=(.slice zes zq5.length zet)) (y9I zHx.symm)<|WL.nil ?_
 obtain rfl:=oJ h
 refine WX.y5d Tryz.results224 .nil<|fun w hw=>?_
 exact⟨y7p,(zHx.trans U),hw.sub (.cons .here .nil)⟩
def y4M(zU:List z6)(zcf:(List z6)→Option (List z6)):Nat→(List z6)→Int→Option (List z6)
 | 0,_,_=>none
 | zxy+1,z41,z13=>if decide (z13<((zU.length:Nat):Int)) then jp1 (fun(z9I:List z6)=>y4M zU zcf zxy z9I (i64 (z13+1))) fun zq7=>chk ((0:Int)≤z13∧z13<((zU.length:Nat):Int)) ((y2t z41 (⟨(⟨(((nth zU z13).fBurst).fN),(((nth zU z13).fBurst).fD)⟩:z2),(⟨(((nth zU z13).fRate).fN),(((nth zU z13).fRate).fD)⟩:z2)⟩:z6)).bind fun zHy=>(if !zHy then(y1z zU (fun(y0:z6)=>y5L y0 (⟨(⟨(((nth zU z13).fBurst).fN),(((nth zU z13).fBurst).fD)⟩:z2),(⟨(((nth zU z13).fRate).fN),(((nth zU z13).fRate).fD)⟩:z2)⟩:z6))).bind fun zHz=>some (!zHz) else some false).bind fun zxz=>if zxz then chk ((((z41++([(⟨(⟨(((nth zU z13).fBurst).fN),(((nth zU z13).fBurst).fD)⟩:z2),(⟨(((nth zU z13).fRate).fN),(((nth zU z13).fRate).fD)⟩:z2)⟩:z6)]:List z6)).length:Nat):Int)*32≤140737488355328∧(((z41++([(⟨(⟨(((nth zU z13).fBurst).fN),(((nth zU z13).fBurst).fD)⟩:z2),(⟨(((nth zU z13).fRate).fN),(((nth zU z13).fRate).fD)⟩:z2)⟩:z6)]:List z6)).length:Nat):Int)≤4611686018427387904) (zq7 (z41++([(⟨(⟨(((nth zU z13).fBurst).fN),(((nth zU z13).fBurst).fD)⟩:z2),(⟨(((nth zU z13).fRate).fN),(((nth zU z13).fRate).fD)⟩:z2)⟩:z6)]:List z6))) else zq7 z41) else zcf z41
theorem ybN{n:Nat}{zU:List z6}{zcf:(List z6)→Option (List z6)}{z41:List z6}{z13:Int}{r:List z6}(h:y4M zU zcf n z41 z13=some r):∃ m,n=m+1:=by
 cases n with
 | zero=>cases h
 | succ m=>exact⟨m,rfl⟩
def y7y(zU:List z6):Option (List z6):=
 jp1 (fun(zai:List z6)=>(y1s zai (fun(y0:z6) (y1:z6)=>y6B y0 y1)).bind fun zxA=>some zxA) fun zcf=>y4M zU zcf yx ([]:List z6) 0
theorem yg3{Z:Zp}{zja:Option Addr}{zjb:Nat}{zU:List z6}{r:List z6}(h:y7y zU=some r)(w₀:World)(hz:PZ [] w₀ Z)(zHA:ZS Z 4 (fun r x=>r=y1N x) zja zjb zU):
  Calls Tryz.prog 212 #[(.slice zja zU.length zjb)] w₀ fun e w'=>∃ zHB:Option Addr,∃ zHC:Nat,e = .returned (.slice zHB r.length zHC)∧True∧Hp [] w₀ w' [row (.slice zHB r.length zHC) 225 4 (r.flatMap y1N)]:=by
 unfold y7y at h
 refine L6 Tryz.func212 Tryz.ntmps212 ?_
 refine WC.b<|Ld<|La U<|WL.nil<|Lb<|WC.b<|Ld<|La U<|WL.nil<|Lb ?_
 obtain⟨zcf,zSN,h⟩:=yZ h
 refine Kc (fun(zai:List z6) (zgF:Option Addr) (zgG:Nat)=>(zcf zai=some r)) (fun zai zgF zgG=>[(3,(.slice zgF zai.length zgG))]) (fun zai zgF zgG=>[row (.slice zgF zai.length zgG) 225 4 (zai.flatMap y1N)]) ?_ ?_
 ·skip
  let A:Value:=(.slice zja zU.length zjb);let C:Value:=(vi ((zU.length:Nat):Int));refine WC.b (Ld (La U (Le 7 (yG Tryz.underlying227 U) (La U (WL.nil (Lb (WC.block (WC.nilRow 225 4 (WC.y7q (fun(zjc:Nat) (z41:List z6) (z13:Int) (zeu:Option Addr) (zev:Nat)=>(y4M zU zcf zjc z41 z13=some r)) (fun zjc z41 z13 zeu zev=>[(0,A),(3,(.slice zeu z41.length zev)),(6,A),(7,C),(8,(vi z13))]) (fun zjc z41 z13 zeu zev=>[row (.slice zeu z41.length zev) 225 4 (z41.flatMap y1N)]) (fun zjc z41 z13 zeu zev=>zjc) ⟨yx,([]:List z6),0,none,0⟩ h (.r5 U U U U U) (.cons .here .nil) ?_)))))))))
  rintro zjc z41 z13 zeu zev h
  obtain⟨zxy,rfl⟩:=ybN h
  rw[y4M] at h
  refine WC.b<|Ld<|La U<|WL.nil<|Lb<|WC.b<|WC.cond U (fun zxB=>?_)<|fun zxB=>?_
  ·replace h:=yr h zxB
   refine WC.skip<|Lb ?_
   obtain⟨zq7,zSO,h⟩:=yZ h
   refine Kc (fun(z9I:List z6) (zjd:Option Addr) (zje:Nat)=>(zq7 z9I=some r)) (fun z9I zjd zje=>[(0,A),(3,(.slice zjd z9I.length zje)),(6,A),(7,C),(8,(vi z13))]) (fun z9I zjd zje=>[row (.slice zjd z9I.length zje) 225 4 (z9I.flatMap y1N)]) ?_ ?_
   ·skip
    refine WC.block<|WC.b ?_
    obtain⟨zSP,h⟩:=yl h
    refine Ld<|L0 (dd:=10) U U (Z:=Z) (Pr:=(fun r x=>r=y1N x)) z80 U U zHA zSP ?_
    rintro z165 z166 zSQ z167 rfl
    refine Le 11 (yh z3a U (y2d hz.pv zSQ) U) (Lg 5 (yv (cs:=[(vi 0),(vi 0),(vi 0),(vi 0)]) zbl U) fun zSR _=>Ll U U (yn za2 U U U .here U U U)<|WL.nil<|Lb<|WC.b ?_)
    obtain⟨zHy,zSS,h⟩:=za h
    obtain⟨zxz,zHD,h⟩:=za h
    refine Ld<|La U<|Le 13 (yh z3a U (yj .here) U)<|Lk 14 (zb Tryz.call221<|.r2 U U) .nil (ccl hz .nil (.cons .h1 .nil) fun w pz ho la=>y7d zSS w pz<|ZA.row (la _ (.head _) _) (RR.flat (enc:=y1N) (fun _=>U) _) ⟨w,pz.1⟩)<|La U<|La U<|Lx true 4 16 (B:=zxz) U U U U U U (fun h=>(oJ<|ys zHD h).symm) (fun _ zST=>?_) ?_
    ·skip
     have zmR:=yr zHD zST
     obtain⟨zHz,zSU,zmR⟩:=za zmR
     replace zmR:=oJ zmR
     refine La U<|Le 18 (y16<|L3 (l:=[.tmp 5])<|.cons U .nil)<|Lk 19 (zb Tryz.call208<|.r2 U U) .nil (ccl hz .nil (.cons .here .nil) fun w pz ho la=>y4s _ _ _ (zgx:=222) (zmC:=[(vp zSR)]) _ (zgw:=(fun(y0:z6)=>y5L y0 (⟨(⟨(((nth zU z13).fBurst).fN),(((nth zU z13).fBurst).fD)⟩:z2),(⟨(((nth zU z13).fRate).fN),(((nth zU z13).fRate).fD)⟩:z2)⟩:z6))) _ zSU w pz (zHA.mono<|Zle.left _ _) Tryz.call222<|fun w' hz' y0  r  hr=>yeY hr w' hz'<|(la _ (.head _) _).stb)<|La U<|La U ?_
     exact Ly zmR U U .all
    refine WL.nil<|Lb<|WC.cond U (fun zxC=>?_)<|fun zxC=>?_
    ·replace h:=yr h zxC
     obtain⟨zSV,h⟩:=yl h
     refine Ld<|La U<|Le 23 (yh z3a U (yj .here) U) (Lg 24 (yS (cs:=([(⟨(⟨(((nth zU z13).fBurst).fN),(((nth zU z13).fBurst).fD)⟩:z2),(⟨(((nth zU z13).fRate).fN),(((nth zU z13).fRate).fD)⟩:z2)⟩:z6)]:List z6).flatMap y1N) z80 (Lp (l:=[.tmp 23]) (.cons U .nil) [0]) (fun _=>by kernel_rfl) U (by unfold maxLen;omega)) fun z168 _=>WL.fA 25 (y4W (enc:=y1N) (l1:=z41) (l2:=([(⟨(⟨(((nth zU z13).fBurst).fN),(((nth zU z13).fBurst).fD)⟩:z2),(⟨(((nth zU z13).fRate).fN),(((nth zU z13).fRate).fD)⟩:z2)⟩:z6)]:List z6)) z80 U U .h2 (fun _=>U) U U (y3u .here) (y5o yhd _) zSV) ?_)
     rintro⟨zSW,zSX⟩ _
     refine La U<|WL.nil<|Lt ?_
     exact Lo ⟨(z41++([(⟨(⟨(((nth zU z13).fBurst).fN),(((nth zU z13).fBurst).fD)⟩:z2),(⟨(((nth zU z13).fRate).fN),(((nth zU z13).fRate).fD)⟩:z2)⟩:z6)]:List z6)),zSW,zSX⟩ h (.r5 U U U U U)<|.cons .here .nil
    ·replace h:=ys h zxC
     refine WC.skip<|Lt ?_
     exact Lo ⟨z41,zeu,zev⟩ h (.r5 U U U U U)<|.cons .h1 .nil
   ·rintro z9I zjd zje h
    replace h:=(zSO z9I).symm.trans h
    refine Ld<|La U<|La U<|WL.nil ?_
    exact WX.round ⟨zxy,z9I,(i64 (z13+1)),zjd,zje⟩ h (Nat.lt_succ_self _) (.r5 U U U U U)<|.cons .here .nil
  ·replace h:=ys h zxB
   refine WC.exit<|Ln<|Ln<|Lu ?_
   exact Lo ⟨z41,zeu,zev⟩ h (.cons U .nil)<|.cons .here .nil
 ·rintro zai zgF zgG h
  replace h:=(zSN zai).symm.trans h
  refine WC.b ?_
  obtain⟨zxA,zSY,h⟩:=za h
  refine Ld<|La U<|WL.y5h (dd:=28) U U U (zb Tryz.call224<|.r2 U U) (.cons .here .nil) (cc hz (.cons .here .nil) fun w pz ho=>y7e _ _ _ (zj9:=225) (zq6:=[]) _ (zj8:=(fun(y0:z6) (y1:z6)=>y6B y0 y1)) _ zSY w pz Tryz.call225 (fun w' hz' y0 y1  r  hr=>yeZ hr w' hz' ) ho) ?_
  rintro  zSZ
  refine Kh (i:=3) U (u:=(.slice zgF zxA.length zgG)) (y9I zSZ.symm)<|WL.nil<|Lb<|WC.b<|Ld<|La U<|La U<|WL.nil<|Lb<|WC.ret ?_
  obtain rfl:=oJ h
  refine Lh Tryz.results212 (.tmp U .nil)<|fun w hw=>?_
  exact⟨zgF,zgG,yD U,trivial,hw.sub (.cons .here .nil)⟩
def y72(zjf:List z6)(zjg:List z6):Option (List z6×List z6):=
 some (zjf,zjg)
theorem yfG{Z:Zp}{zq8:Option Addr}{zq9:Nat}{zqa:Option Addr}{zqb:Nat}{zjf:List z6}{zjg:List z6}{r:List z6×List z6}(h:y72 zjf zjg=some r)(w₀:World)(hz:PZ [] w₀ Z)(zT0:ZS Z 4 (fun r x=>r=y1N x) zq8 zq9 zjf)(zT1:ZS Z 4 (fun r x=>r=y1N x) zqa zqb zjg):
  Calls Tryz.prog 213 #[(.slice zq8 zjf.length zq9),(.slice zqa zjg.length zqb)] w₀ fun e w'=>∃ zHE:Nat,∃ zHF:Nat,∃ zHG:Option Addr,∃ zHH:Nat,∃ zHI:Option Addr,∃ zHJ:Nat,e = .returned (.func (.func 226) #[] #[(vp zHE),(vp zHF)])∧((ZS Z 4 (fun r x=>r=y1N x) zHG zHH r.1)∧(ZS Z 4 (fun r x=>r=y1N x) zHI zHJ r.2))∧Hp [] w₀ w' [stb zHE 227 [(.slice zHG r.1.length zHH)],stb zHF 227 [(.slice zHI r.2.length zHJ)]]:=by
 unfold y72 at h
 refine Lz Tryz.func213 Tryz.ntmps213 ?_
 refine WC.b<|Ld (Lg 2 (yI (cs:=[(.slice zq8 zjf.length zq9)]) U U) fun zT2 _=>Lg 3 (yI (cs:=[(.slice zqa zjg.length zqb)]) U U) fun zT3 _=>La U<|WL.nil<|Lb<|WC.b<|Ld<|Le 5 (y16<|L3 (l:=[.tmp 2,.tmp 3])<|.r2 U U)<|La U<|WL.nil<|Lb<|WC.ret ?_)
 obtain rfl:=oJ h
 refine Lh Tryz.results213 (.tmp U .nil)<|fun w hw=>?_
 exact⟨zT2,zT3,zq8,zq9,zqa,zqb,yD U,⟨zT0,zT1⟩,hw.sub (.s2 .h1 .here)⟩
def y3Q(zP:Type)(z2l:List z6)(z5U:(z6×z6)→zP→Option (Bool×zP))(z1J:List z6)(z1U:Int)(zcg:zP→Option zP):Nat→Int→zP→Option zP
 | 0,_,_=>none
 | zxD+1,z3I,z6l=>if decide (z3I<((z2l.length:Nat):Int)) then chk ((0:Int)≤z3I∧z3I<((z2l.length:Nat):Int)) ((z5U ((⟨(⟨(((nth z1J z1U).fBurst).fN),(((nth z1J z1U).fBurst).fD)⟩:z2),(⟨(((nth z1J z1U).fRate).fN),(((nth z1J z1U).fRate).fD)⟩:z2)⟩:z6),(⟨(⟨(((nth z2l z3I).fBurst).fN),(((nth z2l z3I).fBurst).fD)⟩:z2),(⟨(((nth z2l z3I).fRate).fN),(((nth z2l z3I).fRate).fD)⟩:z2)⟩:z6)) z6l).bind fun zgH=>if !zgH.1 then some zgH.2 else y3Q zP z2l z5U z1J z1U zcg zxD (i64 (z3I+1)) zgH.2) else zcg z6l
theorem yaF{n:Nat}{zP:Type}{z2l:List z6}{z5U:(z6×z6)→zP→Option (Bool×zP)}{z1J:List z6}{z1U:Int}{zcg:zP→Option zP}{z3I:Int}{z6l:zP}{r:zP}(h:y3Q zP z2l z5U z1J z1U zcg n z3I z6l=some r):∃ m,n=m+1:=by
 cases n with
 | zero=>cases h
 | succ m=>exact⟨m,rfl⟩
def y3R(zP:Type)(z1J:List z6)(z2l:List z6)(z5U:(z6×z6)→zP→Option (Bool×zP))(zch:zP→Option zP):Nat→Int→zP→Option zP
 | 0,_,_=>none
 | zxE+1,z1U,z7n=>if decide (z1U<((z1J.length:Nat):Int)) then jp1 (fun(zaj:zP)=>y3R zP z1J z2l z5U zch zxE (i64 (z1U+1)) zaj) fun zxF=>chk ((0:Int)≤z1U∧z1U<((z1J.length:Nat):Int)) (jp1 (fun(zak:zP)=>zxF zak) fun zcg=>y3Q zP z2l z5U z1J z1U zcg yx 0 z7n) else zch z7n
theorem yaG{n:Nat}{zP:Type}{z1J:List z6}{z2l:List z6}{z5U:(z6×z6)→zP→Option (Bool×zP)}{zch:zP→Option zP}{z1U:Int}{z7n:zP}{r:zP}(h:y3R zP z1J z2l z5U zch n z1U z7n=some r):∃ m,n=m+1:=by
 cases n with
 | zero=>cases h
 | succ m=>exact⟨m,rfl⟩
def y5u(zP:Type)(z5U:(z6×z6)→zP→Option (Bool×zP))(s0_33392:zP)(z1J:List z6)(z2l:List z6):Option zP:=
 jp1 (fun(zci:zP)=>some zci) fun zch=>y3R zP z1J z2l z5U zch yx 0 s0_33392
theorem yem(Z:Zp)(zP:Type)(zgI:Nat)(z9J:Type)(z7o:z9J→zP→Asrt)(zcj:z9J→zP→Prop)(zgJ:z9J)(zxG:Addr)(zgK:Option Addr)(zgL:Nat)(zgM:Addr)(zqc:Option Addr)(zqd:Nat)(z5U:(z6×z6)→zP→Option (Bool×zP))(s0_33392:zP)(z1J:List z6)(z2l:List z6)(r:zP)(w₀:World)(hz:PZ (fps [z7o zgJ s0_33392]) w₀ Z)(zT4:yb8 Tryz.prog Z zgI (α:=z6×z6) (σ:=zP) (G:=z9J) (H:=Unit) (fun h x=>[(.agg #[(vi x.1.fBurst.fN),(vi x.1.fBurst.fD),(vi x.1.fRate.fN),(vi x.1.fRate.fD)]),(.agg #[(vi x.2.fBurst.fN),(vi x.2.fBurst.fD),(vi x.2.fRate.fN),(vi x.2.fRate.fD)])]) (fun h x=>[]) z5U z7o zcj)(zT5:zcj zgJ s0_33392)(zT6:ZS Z 4 (fun r x=>r=y1N x) zgK zgL z1J)(zT7:ZC Z zxG [(.slice zgK z1J.length zgL)])(zT8:ZS Z 4 (fun r x=>r=y1N x) zqc zqd z2l)(zT9:ZC Z zgM [(.slice zqc z2l.length zqd)])(h:y5u zP z5U s0_33392 z1J z2l=some r)(hown:Hp (fps [z7o zgJ s0_33392]) w₀ w₀ [z7o zgJ s0_33392]):
  Calls Tryz.prog 226 #[(.func (.yield zgI) #[] #[]),(vq zxG),(vq zgM)] w₀ fun e w'=>∃ zHK:z9J,e = .returned (.tuple #[])∧(zcj zHK r)∧Hp (fps [z7o zgJ s0_33392]) w₀ w' [z7o zHK r]:=by
 unfold y5u at h
 refine Calls.oh3 Tryz.func226 Tryz.ntmps226 hown ?_
 refine WC.b<|Ld<|Le 8 (yc zdB U<|y3a hz.pv zT7 U)<|Le 9 (yG Tryz.underlying227 U)<|La U<|WL.nil<|Lb ?_
 obtain⟨zch,zTa,h⟩:=yZ h
 refine WC.y8W (fun(zci:zP) (zjh:z9J)=>(zch zci=some r)∧(zcj zjh zci)) (fun zci zjh=>[]) (fun zci zjh=>[z7o zjh zci]) ?_ ?_
 ·skip
  let A:Value:=(.func (.yield zgI) #[] #[]);let C:Value:=(.slice zgK z1J.length zgL);let D:Value:=(vi ((z1J.length:Nat):Int));refine WC.block (WC.y5y (fun(zji:Nat) (z1U:Int) (z7n:zP) (zew:z9J)=>(y3R zP z1J z2l z5U zch zji z1U z7n=some r)∧(zcj zew z7n)) (fun zji z1U z7n zew=>[(0,A),(2,(vq zgM)),(8,C),(9,D),(10,(vi z1U))]) (fun zji z1U z7n zew=>[z7o zew z7n]) (fun zji z1U z7n zew=>zji) ⟨yx,0,s0_33392,zgJ⟩ ⟨h,zT5⟩ (.r5 U U U U U) (.cons .here .nil) ?_)
  rintro zji z1U z7n zew ⟨h,zHL⟩
  obtain⟨zxE,rfl⟩:=yaG h
  rw[y3R] at h
  refine WC.b<|Ld<|La U<|WL.nil<|Lb<|WC.b<|WC.cond U (fun zxH=>?_)<|fun zxH=>?_
  ·replace h:=yr h zxH
   refine WC.skip<|Lb ?_
   obtain⟨zxF,zTb,h⟩:=yZ h
   refine WC.y5e (fun(zaj:zP) (zjj:z9J)=>(zxF zaj=some r)∧(zcj zjj zaj)) (fun zaj zjj=>[(0,A),(2,(vq zgM)),(8,C),(9,D),(10,(vi z1U))]) (fun zaj zjj=>[z7o zjj zaj]) ?_ ?_
   ·skip
    refine WC.block<|WC.b ?_
    obtain⟨zTc,h⟩:=yl h
    refine Ld<|L0 (dd:=12) U U (Z:=Z) (Pr:=(fun r x=>r=y1N x)) z80 U U zT6 zTc ?_
    rintro z169 z16a zTd z16b rfl
    refine Le 13 (yh z3a U (y2d hz.pv zTd) U) (Lg 5 (yv (cs:=[(vi 0),(vi 0),(vi 0),(vi 0)]) zbl U) fun zHM _=>Ll U U (yn za2 U U U .here U U U)<|WL.nil<|Lb<|WC.b<|Ld<|Le 14 (yc zdB U<|y3a hz.pv zT9 U)<|Le 15 (yG Tryz.underlying227 U)<|La U<|WL.nil<|Lb ?_)
    obtain⟨zcg,zTe,h⟩:=yZ h
    refine WC.y8W (fun(zak:zP) (zjk:z9J)=>(zcg zak=some r)∧(zcj zjk zak)) (fun zak zjk=>[(0,A),(2,(vq zgM)),(8,C),(9,D),(10,(vi z1U))]) (fun zak zjk=>[z7o zjk zak]) ?_ ?_
    ·skip
     refine WC.block<|WC.y5y (fun(zjl:Nat) (z3I:Int) (z6l:zP) (zal:z9J)=>(y3Q zP z2l z5U z1J z1U zcg zjl z3I z6l=some r)∧(zcj zal z6l)) (fun zjl z3I z6l zal=>[(0,A),(2,(vq zgM)),(5,(vp zHM)),(8,C),(9,D),(10,(vi z1U)),(14,(.slice zqc z2l.length zqd)),(15,(vi ((z2l.length:Nat):Int))),(16,(vi z3I))]) (fun zjl z3I z6l zal=>[stb zHM 225 [(vi<|((nth z1J z1U).fBurst).fN),(vi<|((nth z1J z1U).fBurst).fD),(vi<|((nth z1J z1U).fRate).fN),(vi<|((nth z1J z1U).fRate).fD)],z7o zal z6l]) (fun zjl z3I z6l zal=>zjl) ⟨yx,0,z7n,zew⟩ ⟨h,zHL⟩ (.r9 U U U U U U U U U) (.a2) ?_
     rintro zjl z3I z6l zal ⟨h,zHN⟩
     obtain⟨zxD,rfl⟩:=yaF h
     rw[y3Q] at h
     refine WC.b<|Ld<|La U<|WL.nil<|Lb<|WC.b<|WC.cond U (fun zxI=>?_)<|fun zxI=>?_
     ·replace h:=yr h zxI
      refine WC.skip<|Lb<|WC.b<|WC.block<|WC.b ?_
      obtain⟨zTf,h⟩:=yl h
      refine Ld<|L0 (dd:=18) U U (Z:=Z) (Pr:=(fun r x=>r=y1N x)) z80 U U zT8 zTf ?_
      rintro z16c z16d zTg z16e rfl
      refine Le 19 (yh z3a U (y2d hz.pv zTg) U) (Lg 7 (yv (cs:=[(vi 0),(vi 0),(vi 0),(vi 0)]) zbl U) fun z16f _=>Ll U U (yn za2 U U U .here U U U)<|WL.nil<|Lb<|WC.b ?_)
      obtain⟨zgH,zTh,h⟩:=za h
      refine Ld<|La U<|Le 21 (yh z3a U (yj .h1) U)<|Le 22 (yh z3a U (yj .here) U) (WL.yield (dd:=23) (x:=((⟨(⟨(((nth z1J z1U).fBurst).fN),(((nth z1J z1U).fBurst).fD)⟩:z2),(⟨(((nth z1J z1U).fRate).fN),(((nth z1J z1U).fRate).fD)⟩:z2)⟩:z6),(⟨(⟨(((nth z2l z3I).fBurst).fN),(((nth z2l z3I).fBurst).fD)⟩:z2),(⟨(((nth z2l z3I).fRate).fN),(((nth z2l z3I).fRate).fD)⟩:z2)⟩:z6))) (h:=()) (g:=zal) (s:=z6l) (b:=zgH.1) (s':=zgH.2) zT4 U U U (.r2 U U) ((.cons .h2 .nil):Sel _ [z7o zal z6l] _) zTh zHN (fun w hw=>hz.call hw ((.cons .h2 .nil):Sel _ [z7o zal z6l] _)) fun zHO zHP=>La U<|WL.nil<|Lb<|WC.cond U (fun zxJ=>?_)<|fun zxJ=>?_)
      ·replace h:=yr h zxJ
       refine WC.ret<|Lq<|Lj<|Lj<|Lq<|Lj<|Lq<|Lj<|Lj<|Lq<|Lj ?_
       obtain rfl:=oJ h
       refine Lh Tryz.results226 .nil<|fun w hw=>?_
       exact⟨zHO,y7p,zHP,hw.sub (.cons .here .nil)⟩
      ·replace h:=ys h zxJ
       refine WC.skip<|Lt<|Lb<|Ld<|La U<|La U<|WL.nil ?_
       exact WX.round ⟨zxD,(i64 (z3I+1)),zgH.2,zHO⟩ ⟨h,zHP⟩ (Nat.lt_succ_self _) (.r9 U U U U U U U U U)<|.s2 .h2 .here
     ·replace h:=ys h zxI
      refine WC.exit<|Ln<|Ln<|Lu ?_
      exact Lo ⟨z6l,zal⟩ ⟨h,zHN⟩ (.r5 U U U U U)<|.cons .h1 .nil
    ·rintro zak zjk ⟨h,zTi⟩
     replace h:=(zTe zak).symm.trans h
     refine Lt ?_
     exact Lo ⟨zak,zjk⟩ ⟨h,zTi⟩ (.r5 U U U U U)<|.cons .here .nil
   ·rintro zaj zjj ⟨h,zTj⟩
    replace h:=(zTb zaj).symm.trans h
    refine Ld<|La U<|La U<|WL.nil ?_
    exact WX.round ⟨zxE,(i64 (z1U+1)),zaj,zjj⟩ ⟨h,zTj⟩ (Nat.lt_succ_self _) (.r5 U U U U U)<|.cons .here .nil
  ·replace h:=ys h zxH
   refine WC.exit<|Ln<|Ln<|Lu ?_
   exact Lo ⟨z7n,zew⟩ ⟨h,zHL⟩ .nil<|.cons .here .nil
 ·rintro zci zjh ⟨h,zTk⟩
  replace h:=(zTa zci).symm.trans h
  obtain rfl:=oJ h
  refine WX.y5d Tryz.results226 .nil<|fun w hw=>?_
  exact⟨zjh,y7p,zTk,hw.sub (.cons .here .nil)⟩
def ya0(zgN:z2)(zgO:z2):Option (Int×Int):=
 some ((i64 ((i64 (zgN.fN*zgO.fD))-(i64 (zgO.fN*zgN.fD)))),(i64 (zgN.fD*zgO.fD)))
theorem yhV{Z:Zp}{zHQ:Addr}{zHR:Addr}{zgN:z2}{zgO:z2}{r:Int×Int}(h:ya0 zgN zgO=some r)(w₀:World)(hz:PZ [] w₀ Z)(zxK:ZC Z zHQ [(vi zgN.fN),(vi zgN.fD)])(zxL:ZC Z zHR [(vi zgO.fN),(vi zgO.fD)]):
  Calls Tryz.prog 188 #[(vq zHQ),(vq zHR)] w₀ fun e w'=>e = .returned (.tuple #[(vi r.1),(vi r.2)])∧Hp [] w₀ w' []:=by
 unfold ya0 at h
 refine Lz Tryz.func188 Tryz.ntmps188 ?_
 refine WC.b<|Ld<|La U<|La U<|WL.nil<|Lb<|WC.b<|Lv (fun i=>[].contains i) [] U<|Lf 0 4 U (fun _=>ya y2D U U)<|Li 1 5 U (yc yq U<|y17 hz.pv zxK U)<|Lf 2 6 U (fun _=>ya y33 U U)<|Li 3 7 U (yc yq U<|y17 hz.pv zxL U)<|Lf 4 8 U (fun _=>y7f U U U)<|Lf 5 9 U (fun _=>ya y2D U U)<|Li 6 10 U (yc yq U<|y17 hz.pv zxL U)<|Lf 7 11 U (fun _=>ya y33 U U)<|Li 8 12 U (yc yq U<|y17 hz.pv zxK U)<|Lf 9 13 U (fun _=>y7f U U U)<|Lf 10 14 U (fun _=>y8x U U U)<|Lf 11 15 U (fun _=>ya y33 U U)<|Li 12 16 U (yc yq U<|y17 hz.pv zxK U)<|Lf 13 17 U (fun _=>ya y33 U U)<|Li 14 18 U (yc yq U<|y17 hz.pv zxL U)<|Lf 15 19 U (fun _=>y7f U U U)<|Lf 16 2 U (fun _=>q_z U)<|Lf 17 3 U (fun _=>q_z U)<|WD.done (by kernel_rfl)<|Lb<|WC.ret ?_
 obtain rfl:=oJ h
 refine Lh Tryz.results188 (.tmp U<|.tmp U .nil)<|fun w hw=>?_
 exact⟨y1R U U,hw.sub .nil⟩
def y9w(zex:z2)(zey:z2):Option (z2×Int):=
 (y1Y zex).bind fun zHS=>(if !zHS then some true else(y1Y zey).bind fun zHT=>some (!zHT)).bind fun zqe=>if zqe then some ((⟨0,0⟩:z2),2) else(ya0 zex zey).bind fun zxM=>(y5J zxM.1 zxM.2).bind fun zxN=>some (zxN.1,zxN.2)
theorem yit{Z:Zp}{zex:z2}{zey:z2}{r:z2×Int}(h:y9w zex zey=some r)(w₀:World)(hz:PZ [] w₀ Z):
  Calls Tryz.prog 159 #[(.string ⟨#[45]⟩),(.agg #[(vi zex.fN),(vi zex.fD)]),(.agg #[(vi zey.fN),(vi zey.fD)])] w₀ fun e w'=>e = .returned (.tuple #[(.agg #[(vi r.1.fN),(vi r.1.fD)]),(vi r.2)])∧Hp [] w₀ w' []:=by
 unfold y9w at h
 refine Ke Tryz.func159 Tryz.ntmps159 ?_
 refine WC.b<|Ld (Lg 4 (yI (cs:=[(vi zex.fN),(vi zex.fD)]) U U) fun zmS _=>Lg 5 (yI (cs:=[(vi zey.fN),(vi zey.fD)]) U U) fun zmT _=>Lg 6 (yv (cs:=[(vi 0),(vi 0)]) zV U) fun z16g _=>La U<|WL.nil<|Lb<|WC.b<|WC.b ?_)
 obtain⟨zHS,zTl,h⟩:=za h
 obtain⟨zqe,zHU,h⟩:=za h
 refine Ld<|Le 9 (yh zg U (yj .h2) U)<|Lk 10 (zb Tryz.call130<|.cons U .nil) .nil (cc hz .nil fun w pz ho=>y2N zTl w pz )<|La U<|La U<|Lx false 3 12 (B:=zqe) U U U U U U (fun h=>(oJ<|yr zHU h).symm) (fun _ zTm=>?_) ?_
 ·skip
  have zmU:=ys zHU zTm
  obtain⟨zHT,zTn,zmU⟩:=za zmU
  replace zmU:=oJ zmU
  refine Le 13 (yh zg U (yj .h1) U)<|Lk 14 (zb Tryz.call130<|.cons U .nil) .nil (cc hz .nil fun w pz ho=>y2N zTn w pz )<|La U<|La U ?_
  exact Ly zmU U U .all
 refine La U<|Lx false 7 17 (B:=zqe) U U U U U U (fun h=>h) (fun _ zTo=>?_) ?_
 ·skip
  refine La U<|Le 19 (yd5 (r:=false) (by decide) U U)<|La U<|WL.e U U U<|WL.e U U U<|WL.e U U U<|La U<|La U ?_
  exact Ly (Eq.symm zTo) U U .all
 refine WL.nil<|Lb<|WC.cond U (fun zxO=>?_)<|fun zxO=>?_
 ·replace h:=yr h zxO
  refine WC.b<|Ld<|Le 26 (yL (v:=(.agg #[(vi 0),(vi 0)])) (Lp (l:=[]) .nil []) (fun _=>by kernel_rfl))<|Ll U U (yn zz U U U .here U U U)<|La U<|WL.nil<|Lb<|WC.ret<|Lj ?_
  obtain rfl:=oJ h
  refine Lh Tryz.results159 (.agg U zg U (yj .here)<|.tmp U .nil)<|fun w hw=>?_
  exact⟨y1R U U,hw.sub .nil⟩
 ·replace h:=ys h zxO
  refine WC.skip<|Lb<|WC.b<|Ld<|Lg 27 (y3b Value.string<|fun x=>x) ?_
  intro z16h _
  let A:Value:=(.func (.func 188) #[] #[(vp zmS),(vp zmT)]);refine Le 28 (y16 (L3 (l:=[.tmp 4,.tmp 5]) (.r2 U U))) (Ll U U (y45 (k:=⟨#[43]⟩) (v:=(.func (.func 187) #[] #[(vp zmS),(vp zmT)])) y4q Tryz.underlying304 U U U U .here) (Le 29 (y16 (L3 (l:=[.tmp 4,.tmp 5]) (.r2 U U))) (Ll U U (y45 (k:=⟨#[45]⟩) (v:=A) y4q Tryz.underlying304 U U U U .here) (Le 30 (y16 (L3 (l:=[.tmp 4,.tmp 5]) (.r2 U U))) (Ll U U (y45 (k:=⟨#[42]⟩) (v:=(.func (.func 189) #[] #[(vp zmS),(vp zmT)])) y4q Tryz.underlying304 U U U U .here) (Le 31 (y16 (L3 (l:=[.tmp 4,.tmp 5]) (.r2 U U))) (Ll U U (y45 (k:=⟨#[47]⟩) (v:=(.func (.func 190) #[] #[(vp zmS),(vp zmT)])) y4q Tryz.underlying304 U U U U .here) (La U (La U (WL.nil (Lb (WC.b ?_))))))))))))
  obtain⟨zxM,zTp,h⟩:=za h
  obtain⟨zxN,zTq,h⟩:=za h
  refine Ld<|La U<|La U<|Le 35 (yd4 (k:=⟨#[45]⟩) (dflt:=.nilFunc) (r:=A) y4q Tryz.underlying304 zp3 U U U .here (by rfl))<|Lk 36 (y2G (l:=[]) Tryz.call188 U .nil) .nil (ccl hz .nil (.s2 .h3 .h2) fun w pz ho la=>yhV zTp w pz ((la _ (.head _) _).stb)<|(la _ (.tail _<|.head _) _).stb)<|La U<|La U<|Lk 39 (zb Tryz.call160<|.r2 U U) .nil (cc hz .nil fun w pz ho=>y8J zTq w pz )<|La U<|La U<|Ll U U (yn zz U U U .h1 U U U)<|La U<|WL.nil<|Lb<|WC.ret ?_
  obtain rfl:=oJ h
  refine Lh Tryz.results159 (.agg U zg U (yj .here)<|.tmp U .nil)<|fun w hw=>?_
  exact⟨y1R U U,hw.sub .nil⟩
def y2w(zgP:z2)(zgQ:z2):Option (z2×Int):=
 (y9w zgP zgQ).bind fun zxP=>some (zxP.1,zxP.2)
theorem y9x{Z:Zp}{zgP:z2}{zgQ:z2}{r:z2×Int}(h:y2w zgP zgQ=some r)(w₀:World)(hz:PZ [] w₀ Z):
  Calls Tryz.prog 124 #[(.agg #[(vi zgP.fN),(vi zgP.fD)]),(.agg #[(vi zgQ.fN),(vi zgQ.fD)])] w₀ fun e w'=>e = .returned (.tuple #[(.agg #[(vi r.1.fN),(vi r.1.fD)]),(vi r.2)])∧Hp [] w₀ w' []:=by
 unfold y2w at h
 refine Lz Tryz.func124 Tryz.ntmps124 ?_
 refine WC.b<|Ld (Lg 2 (yI (cs:=[(vi zgP.fN),(vi zgP.fD)]) U U) fun z16i _=>Lg 3 (yI (cs:=[(vi zgQ.fN),(vi zgQ.fD)]) U U) fun z16j _=>Lg 4 (yv (cs:=[(vi 0),(vi 0)]) zV U) fun z16k _=>La U<|WL.nil<|Lb<|WC.b ?_)
 obtain⟨zxP,zTr,h⟩:=za h
 refine Ld<|Le 6 (yh zg U (yj .h2) U)<|Le 7 (yh zg U (yj .h1) U)<|Lk 8 (zb Tryz.call159<|.r3 U U U) .nil (cc hz .nil fun w pz ho=>yit zTr w pz )<|La U<|La U<|Ll U U (yn zz U U U .here U U U)<|La U<|WL.nil<|Lb<|WC.ret ?_
 obtain rfl:=oJ h
 refine Lh Tryz.results124 (.agg U zg U (yj .here)<|.tmp U .nil)<|fun w hw=>?_
 exact⟨y1R U U,hw.sub .nil⟩
end Go.Proofs.YthjnhebofpebpaaGreat
