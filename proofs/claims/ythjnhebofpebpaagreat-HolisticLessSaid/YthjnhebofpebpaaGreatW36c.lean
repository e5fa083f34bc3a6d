/- A part of this claim's proof: models of functions, walks, plain laws. No conditions. -/
import Derived.Test.YthjnhebofpebpaaGreatW36b
set_option linter.all false
namespace Go.Proofs.YthjnhebofpebpaaGreat
open Go Go.RowKit Sep
set_option maxRecDepth 30000
set_option maxHeartbeats 4000000
def y2U(zZ:List (List zd))(zR:z8)(zf:zp)(z1k:List (z8×Int))(zbW:(List (List z2))→Int→Int→(List (Int×List Int))→(List (zP×z1))→Option (List (List z2)×Int×Int×(List (zP×z1)))):Nat→(List (List z2))→Int→Int→Int→(List (Int×List Int))→(List (zP×z1))→Option (List (List z2)×Int×Int×(List (zP×z1)))
 | 0,_,_,_,_,_,_=>none
 | zxr+1,z3e,z6k,z13,z56,z2B,z3f=>if decide (z13<((zZ.length:Nat):Int)) then jp5 (fun(z9x:List (List z2)) (zbX:Int) (zbY:Int) (zbZ:List (Int×List Int)) (zc0:List (zP×z1))=>y2U zZ zR zf z1k zbW zxr z9x zbX (i64 (z13+1)) zbY zbZ zc0) fun zqu=>chk ((0:Int)≤z13∧z13<((zZ.length:Nat):Int)) ((y1m (nth zZ z13) (fun(y0:zd)=>y4A y0 zR)).bind fun zHm=>if !zHm then zqu z3e z6k z56 z2B z3f else chk ((0:Int)≤z13∧z13<((zf.fVLs.length:Nat):Int)) (chk ((0:Int)≤z13∧z13<((zf.fVLs.length:Nat):Int)) ((y2I ((nth zf.fVLs z13).fMax)).bind fun z3g=>jp5 (fun(z9y:List (List z2)) (zc1:Int) (zc2:List (Int×List Int)) (zae:Int) (zaf:Int)=>zqu z9y (max z6k ((nth zf.fVLs z13).fMax)) zc1 zc2 (yF z3f (⟨z13,zR⟩:zP) (⟨zae,zaf⟩:z1))) fun zqv=>(y5N (nth zZ z13) zR.fNode).bind fun z2f=>if z2f.2 then(y4Q z2f.1).bind fun zet=>(y46 zf zZ z3f z1k z56 z13).bind fun zHn=>(y4Q z2f.1).bind fun zxs=>(y2I (yg z1k zxs 0)).bind fun zHo=>(y4c zf zZ z3f z1k z56 (fun(y0:z1) (y1:z1)=>y3O y0 y1) zHn zHo).bind fun zxt=>(y4c zf zZ z3f z1k zxt.2 (fun(y0:z1) (y1:z1)=>y1q y0 y1) (⟨((yg z3f (⟨z13,zet⟩:zP) (⟨0,0⟩:z1)).fN),((yg z3f (⟨z13,zet⟩:zP) (⟨0,0⟩:z1)).fD)⟩:z1) zxt.1).bind fun zag=>chk (((((yg z2B z2f.1.fQ [])++([z13]:List Int)).length:Nat):Int)*8≤140737488355328∧((((yg z2B z2f.1.fQ [])++([z13]:List Int)).length:Nat):Int)≤4611686018427387904) (zqv z3e zag.2 (yF z2B z2f.1.fQ ((yg z2B z2f.1.fQ [])++([z13]:List Int))) zag.1.fN zag.1.fD) else(y46 zf zZ z3f z1k z56 z13).bind fun z57=>chk ((((z3e++([([(⟨z3g,z57⟩:z2)]:List z2)]:List (List z2))).length:Nat):Int)*24≤140737488355328∧(((z3e++([([(⟨z3g,z57⟩:z2)]:List z2)]:List (List z2))).length:Nat):Int)≤4611686018427387904) (zqv (z3e++([([(⟨z3g,z57⟩:z2)]:List z2)]:List (List z2))) z56 z2B z3g.fN z3g.fD)))) else zbW z3e z6k z56 z2B z3f
theorem y9G{n:Nat}{zZ:List (List zd)}{zR:z8}{zf:zp}{z1k:List (z8×Int)}{zbW:(List (List z2))→Int→Int→(List (Int×List Int))→(List (zP×z1))→Option (List (List z2)×Int×Int×(List (zP×z1)))}{z3e:List (List z2)}{z6k:Int}{z13:Int}{z56:Int}{z2B:List (Int×List Int)}{z3f:List (zP×z1)}{r:List (List z2)×Int×Int×(List (zP×z1))}(h:y2U zZ zR zf z1k zbW n z3e z6k z13 z56 z2B z3f=some r):∃ m,n=m+1:=by
 cases n with
 | zero=>cases h
 | succ m=>exact⟨m,rfl⟩
def y2V(z1M:List (Int×List Int))(zH:Int)(zf:zp)(zZ:List (List zd))(z2g:List (zP×z1))(z1k:List (z8×Int))(zR:z8)(zc3:Int→Int→Int→Int→Int→Int→Option (List (List z2)×Int×Int×(List (zP×z1)))):Nat→Int→Int→Int→Int→Int→Int→Int→Option (List (List z2)×Int×Int×(List (zP×z1)))
 | 0,_,_,_,_,_,_,_=>none
 | zxu+1,z86,z3h,z8F,z87,z88,z75,z78=>if decide (z3h<(((yg z1M zH []).length:Nat):Int)) then chk ((0:Int)≤z3h∧z3h<(((yg z1M zH []).length:Nat):Int)) ((y4c zf zZ z2g z1k z8F (fun(y0:z1) (y1:z1)=>y1q y0 y1) (⟨z87,z88⟩:z1) (⟨((yg z2g (⟨(nth (yg z1M zH []) z3h),zR⟩:zP) (⟨0,0⟩:z1)).fN),((yg z2g (⟨(nth (yg z1M zH []) z3h),zR⟩:zP) (⟨0,0⟩:z1)).fD)⟩:z1)).bind fun z9z=>(y46 zf zZ z2g z1k z9z.2 (nth (yg z1M zH []) z3h)).bind fun zHp=>(y4c zf zZ z2g z1k z9z.2 (fun(y0:z1) (y1:z1)=>y1q y0 y1) (⟨z75,z78⟩:z1) zHp).bind fun zc4=>chk ((0:Int)≤(nth (yg z1M zH []) z3h)∧(nth (yg z1M zH []) z3h)<((zf.fVLs.length:Nat):Int)) (y2V z1M zH zf zZ z2g z1k zR zc3 zxu (max z86 ((nth zf.fVLs (nth (yg z1M zH []) z3h)).fMax)) (i64 (z3h+1)) zc4.2 z9z.1.fN z9z.1.fD zc4.1.fN zc4.1.fD)) else zc3 z86 z8F z87 z88 z75 z78
theorem y9H{n:Nat}{z1M:List (Int×List Int)}{zH:Int}{zf:zp}{zZ:List (List zd)}{z2g:List (zP×z1)}{z1k:List (z8×Int)}{zR:z8}{zc3:Int→Int→Int→Int→Int→Int→Option (List (List z2)×Int×Int×(List (zP×z1)))}{z86:Int}{z3h:Int}{z8F:Int}{z87:Int}{z88:Int}{z75:Int}{z78:Int}{r:List (List z2)×Int×Int×(List (zP×z1))}(h:y2V z1M zH zf zZ z2g z1k zR zc3 n z86 z3h z8F z87 z88 z75 z78=some r):∃ m,n=m+1:=by
 cases n with
 | zero=>cases h
 | succ m=>exact⟨m,rfl⟩
def y2W(zf:zp)(z1M:List (Int×List Int))(zZ:List (List zd))(z2g:List (zP×z1))(z1k:List (z8×Int))(zR:z8)(zc5:(List (List z2))→Int→Option (List (List z2)×Int×Int×(List (zP×z1)))):Nat→(List (List z2))→Int→Int→Option (List (List z2)×Int×Int×(List (zP×z1)))
 | 0,_,_,_=>none
 | zxv+1,z33,zH,z79=>if decide (zH<((zf.fK.length:Nat):Int)) then jp2 (fun(z9A:List (List z2)) (zc6:Int)=>y2W zf z1M zZ z2g z1k zR zc5 zxv z9A (i64 (zH+1)) zc6) fun zqw=>if decide ((((yg z1M zH []).length:Nat):Int)=0) then zqw z33 z79 else(y2I 0).bind fun zgy=>(y2I 0).bind fun zgz=>jp6 (fun(zeu:Int) (zc7:Int) (z3E:Int) (z3F:Int) (z3G:Int) (z3H:Int)=>(y2I zeu).bind fun z58=>chk ((0:Int)≤zH∧zH<((zf.fK.length:Nat):Int)) (chk ((((z33++([([(⟨(⟨z3E,z3F⟩:z1),(⟨z3G,z3H⟩:z1)⟩:z2),(⟨z58,(⟨1,((nth zf.fK zH).fSlow)⟩:z1)⟩:z2)]:List z2)]:List (List z2))).length:Nat):Int)*24≤140737488355328∧(((z33++([([(⟨(⟨z3E,z3F⟩:z1),(⟨z3G,z3H⟩:z1)⟩:z2),(⟨z58,(⟨1,((nth zf.fK zH).fSlow)⟩:z1)⟩:z2)]:List z2)]:List (List z2))).length:Nat):Int)≤4611686018427387904) (zqw (z33++([([(⟨(⟨z3E,z3F⟩:z1),(⟨z3G,z3H⟩:z1)⟩:z2),(⟨z58,(⟨1,((nth zf.fK zH).fSlow)⟩:z1)⟩:z2)]:List z2)]:List (List z2))) zc7))) fun zc3=>y2V z1M zH zf zZ z2g z1k zR zc3 yx 0 0 z79 zgy.fN zgy.fD zgz.fN zgz.fD else zc5 z33 z79
theorem y9I{n:Nat}{zf:zp}{z1M:List (Int×List Int)}{zZ:List (List zd)}{z2g:List (zP×z1)}{z1k:List (z8×Int)}{zR:z8}{zc5:(List (List z2))→Int→Option (List (List z2)×Int×Int×(List (zP×z1)))}{z33:List (List z2)}{zH:Int}{z79:Int}{r:List (List z2)×Int×Int×(List (zP×z1))}(h:y2W zf z1M zZ z2g z1k zR zc5 n z33 zH z79=some r):∃ m,n=m+1:=by
 cases n with
 | zero=>cases h
 | succ m=>exact⟨m,rfl⟩
def y56(zf:zp)(zZ:List (List zd))(zc8:List (zP×z1))(z1k:List (z8×Int))(zc9:Int)(zR:z8):Option (List (List z2)×Int×Int×(List (zP×z1))):=
 jp5 (fun(z3i:List (List z2)) (z89:Int) (zca:Int) (z1M:List (Int×List Int)) (z2g:List (zP×z1))=>jp2 (fun(z7C:List (List z2)) (zev:Int)=>chk ((((z3i++z7C).length:Nat):Int)*24≤140737488355328∧(((z3i++z7C).length:Nat):Int)≤4611686018427387904) (some ((z3i++z7C),z89,zev,z2g))) fun zc5=>y2W zf z1M zZ z2g z1k zR zc5 yx ([]:List (List z2)) 0 zca) fun zbW=>y2U zZ zR zf z1k zbW yx ([]:List (List z2)) 0 0 zc9 ([]:List (Int×List Int)) zc8
theorem ycp{Z:Zp}{z2V:Nat}{z5C:Option Addr}{z5D:Nat}{z5E:Option Addr}{z5F:Nat}{z5G:Option Addr}{z5H:Nat}{z5I:Option Addr}{z5J:Nat}{z5K:Option Addr}{z5L:Nat}{z5M:Option Addr}{z5N:Nat}{z5O:Option Addr}{z5P:Nat}{z5Q:Option Addr}{z5R:Nat}{z4m:Option Addr}{z4n:Nat}{z20:Nat}{z23:Nat}{zf:zp}{zZ:List (List zd)}{zc8:List (zP×z1)}{z1k:List (z8×Int)}{zc9:Int}{zR:z8}{r:List (List z2)×Int×Int×(List (zP×z1))}(h:y56 zf zZ zc8 z1k zc9 zR=some r)(w₀:World)(hz:PZ (fps [stb z2V 119 [(.slice z5C zf.fM.length z5D),(.slice z5E zf.fC0.length z5F),(.slice z5G zf.fS.length z5H),(.slice z5I zf.fK.length z5J),(.slice z5K zf.fVLs.length z5L),(.slice z5M zf.fH.length z5N),(.slice z5O zf.fU.length z5P),(.slice z5Q zf.fV0.length z5R),(.slice z4m zZ.length z4n),(.map (some z20)),(.map (some z23)),(vi zc9)],yp z20 (fun x=>Value.agg (y2N x).toArray) (fun x=>Value.agg (yA x).toArray) zc8,yp z23 (fun x=>Value.agg (yD x).toArray) (Value.int .i64) z1k]) w₀ Z)(zgA:ZS Z 4 (y3y Z) z5C z5D zf.fM)(zgB:ZS Z 4 (y4k Z) z5E z5F zf.fC0)(zgC:ZS Z 4 (fun r x=>r=e64 x) z5G z5H zf.fS)(zew:ZS Z 4 (fun r x=>r=e62 x) z5I z5J zf.fK)(zah:ZS Z 7 (p69 Z) z5K z5L zf.fVLs)(zgD:ZS Z 5 (fun r x=>r=y4t x) z5M z5N zf.fH)(zgE:ZS Z 3 (y4l Z) z5O z5P zf.fU)(zgF:ZS Z 4 (fun r x=>r=y4u x) z5Q z5R zf.fV0)(zex:ZS Z 1 (p58 Z) z4m z4n zZ)(hown:Hp (fps [stb z2V 119 [(.slice z5C zf.fM.length z5D),(.slice z5E zf.fC0.length z5F),(.slice z5G zf.fS.length z5H),(.slice z5I zf.fK.length z5J),(.slice z5K zf.fVLs.length z5L),(.slice z5M zf.fH.length z5N),(.slice z5O zf.fU.length z5P),(.slice z5Q zf.fV0.length z5R),(.slice z4m zZ.length z4n),(.map (some z20)),(.map (some z23)),(vi zc9)],yp z20 (fun x=>Value.agg (y2N x).toArray) (fun x=>Value.agg (yA x).toArray) zc8,yp z23 (fun x=>Value.agg (yD x).toArray) (Value.int .i64) z1k]) w₀ w₀ [stb z2V 119 [(.slice z5C zf.fM.length z5D),(.slice z5E zf.fC0.length z5F),(.slice z5G zf.fS.length z5H),(.slice z5I zf.fK.length z5J),(.slice z5K zf.fVLs.length z5L),(.slice z5M zf.fH.length z5N),(.slice z5O zf.fU.length z5P),(.slice z5Q zf.fV0.length z5R),(.slice z4m zZ.length z4n),(.map (some z20)),(.map (some z23)),(vi zc9)],yp z20 (fun x=>Value.agg (y2N x).toArray) (fun x=>Value.agg (yA x).toArray) zc8,yp z23 (fun x=>Value.agg (yD x).toArray) (Value.int .i64) z1k]):
  Calls Tryz.prog 79 #[(vp z2V),(.agg #[(vi zR.fNode),(vi zR.fQ)])] w₀ fun e w'=>∃ Zn:Zp,∃ zHq:Option Addr,∃ zHr:Nat,∃ zHs:List Value,e = .returned (.tuple #[(.slice zHq r.1.length zHr),(vi r.2.1)])∧(RR 1 (y27 (Z++Zn)) zHs r.1)∧Hp (fps [stb z2V 119 [(.slice z5C zf.fM.length z5D),(.slice z5E zf.fC0.length z5F),(.slice z5G zf.fS.length z5H),(.slice z5I zf.fK.length z5J),(.slice z5K zf.fVLs.length z5L),(.slice z5M zf.fH.length z5N),(.slice z5O zf.fU.length z5P),(.slice z5Q zf.fV0.length z5R),(.slice z4m zZ.length z4n),(.map (some z20)),(.map (some z23)),(vi zc9)],yp z20 (fun x=>Value.agg (y2N x).toArray) (fun x=>Value.agg (yA x).toArray) zc8,yp z23 (fun x=>Value.agg (yD x).toArray) (Value.int .i64) z1k]) w₀ w' [fz Zn,row (.slice zHq r.1.length zHr) 227 1 zHs,stb z2V 119 [(.slice z5C zf.fM.length z5D),(.slice z5E zf.fC0.length z5F),(.slice z5G zf.fS.length z5H),(.slice z5I zf.fK.length z5J),(.slice z5K zf.fVLs.length z5L),(.slice z5M zf.fH.length z5N),(.slice z5O zf.fU.length z5P),(.slice z5Q zf.fV0.length z5R),(.slice z4m zZ.length z4n),(.map (some z20)),(.map (some z23)),(vi r.2.2.1)],yp z20 (fun x=>Value.agg (y2N x).toArray) (fun x=>Value.agg (yA x).toArray) r.2.2.2,yp z23 (fun x=>Value.agg (yD x).toArray) (Value.int .i64) z1k]:=by
 unfold y56 at h
 refine Kh Tryz.func79 Tryz.ntmps79 hown ?_
 let N:List Value:=[(vi zR.fNode),(vi zR.fQ)];refine WC.pool (WC.b (Ld (Lg 3 (yH (cs:=N) U U) ?_)))
 intro z4D _
 refine La U<|La U<|WL.nil<|Lb<|WC.b<|Ld<|La U<|La U<|WL.nil<|Lb<|WC.b<|Ld<|Lg 20 (y3r (Value.int .i64)<|slv (α:=Int)) ?_
 intro z59 _
 let C:Value:=(.slice z4m zZ.length z4n);let D:Value:=(.slice z5K zf.fVLs.length z5L);let F:Value:=(.slice z5E zf.fC0.length z5F);let G:Value:=(.slice z5Q zf.fV0.length z5R);let H:Value:=(.slice z5C zf.fM.length z5D);let I:Value:=(.slice z5G zf.fS.length z5H);let J:Value:=(.slice z5I zf.fK.length z5J);let K:Value:=(.slice z5M zf.fH.length z5N);let L:Value:=(.slice z5O zf.fU.length z5P);refine WL.ghL (M:=[y2o (y2a 3 1 e3) ([]:List (Int×((Nat×(Option Addr×Nat))×List Int))),yp z59 (Value.int .i64) slv (y2M ([]:List (Int×((Nat×(Option Addr×Nat))×List Int)))),stb z4D 121 N,fz [],stb z2V 119 [H,F,I,J,D,K,L,G,C,(.map (some z20)),(.map (some z23)),(vi zc9)],yp z20 (fun x=>Value.agg (y2N x).toArray) (fun x=>Value.agg (yA x).toArray) zc8,yp z23 (fun x=>Value.agg (yD x).toArray) (Value.int .i64) z1k]) (fun _ h=>Hp.yeh (y2a 3 1 e3) h) (La U (WL.nil (Lb (WC.b (Ld (La U (WL.nil (Lb ?_))))))))
 obtain⟨zbW,zRx,h⟩:=ydQ h
 refine WC.yb3 (fun(z3i:List (List z2)) (z89:Int) (zca:Int) (z1M:List (Int×List Int)) (z2g:List (zP×z1)) (zcb:Zp) (z7a:Option Addr) (z7b:Nat) (z8G:List Value) (z7D:List (Int×((Nat×(Option Addr×Nat))×List Int)))=>(zbW z3i z89 zca z1M z2g=some r)∧(Zle (Z++[]) (Z++zcb))∧(RR 1 (y27 (Z++zcb)) z8G z3i)∧(dat z7D=z1M)) (fun z3i z89 zca z1M z2g zcb z7a z7b z8G z7D=>[(0,(vp z2V)),(3,(vp z4D)),(6,(.slice z7a z3i.length z7b)),(7,vn),(8,(.map<|some z59)),(9,(vi z89))]) (fun z3i z89 zca z1M z2g zcb z7a z7b z8G z7D=>[fz zcb,row (.slice z7a z3i.length z7b) 227 1 z8G,stb z2V 119 [H,F,I,J,D,K,L,G,C,(.map<|some z20),(.map<|some z23),(vi zca)],stb z4D 121 N,yp z59 (Value.int .i64) slv (y2M z7D),y2o (y2a 3 1 e3) z7D,yp z20 (fun x=>Value.agg (y2N x).toArray) (fun x=>Value.agg (yA x).toArray) z2g,yp z23 (fun x=>Value.agg (yD x).toArray) (Value.int .i64) z1k]) ?_ ?_
 ·skip
  refine WC.b<|Ld<|La U<|Le 22 (y1e U)<|Le 23 (ya fo_119_1 U U)<|Le 24 (yc yhs U<|yh .h4 U)<|Le 25 (yI Tryz.underlying32 U)<|La U<|WL.nil<|Lb<|WC.block<|WC.nilRow 227 1<|WC.yiq (fun(zje:Nat) (z3e:List (List z2)) (z6k:Int) (z13:Int) (z56:Int) (z2B:List (Int×List Int)) (z3f:List (zP×z1)) (z4E:Zp) (zai:Option Addr) (zaj:Nat) (z8H:List Value) (z8a:List (Int×((Nat×(Option Addr×Nat))×List Int)))=>(y2U zZ zR zf z1k zbW zje z3e z6k z13 z56 z2B z3f=some r)∧(Zle (Z++[]) (Z++z4E))∧(RR 1 (y27 (Z++z4E)) z8H z3e)∧(dat z8a=z2B)) (fun zje z3e z6k z13 z56 z2B z3f z4E zai zaj z8H z8a=>[(0,(vp z2V)),(3,(vp z4D)),(6,(.slice zai z3e.length zaj)),(7,vn),(8,(.map<|some z59)),(9,(vi z6k)),(24,C),(25,(vi ((zZ.length:Nat):Int))),(26,(vi z13))]) (fun zje z3e z6k z13 z56 z2B z3f z4E zai zaj z8H z8a=>[fz z4E,row (.slice zai z3e.length zaj) 227 1 z8H,stb z2V 119 [H,F,I,J,D,K,L,G,C,(.map<|some z20),(.map<|some z23),(vi z56)],stb z4D 121 N,yp z59 (Value.int .i64) slv (y2M z8a),y2o (y2a 3 1 e3) z8a,yp z20 (fun x=>Value.agg (y2N x).toArray) (fun x=>Value.agg (yA x).toArray) z3f,yp z23 (fun x=>Value.agg (yD x).toArray) (Value.int .i64) z1k]) (fun zje z3e z6k z13 z56 z2B z3f z4E zai zaj z8H z8a=>zje) ⟨yx,([]:List (List z2)),0,0,zc9,([]:List (Int×List Int)),zc8,[],none,0,[],([]:List (Int×((Nat×(Option Addr×Nat))×List Int)))⟩ ⟨h,(Zle.refl _),(RR.nil _ _),U⟩ (.r9 U U U U U U U U U) (.s8 .h4 .here .h3 .h2 .h1 .here .here .here) ?_
  rintro zje z3e z6k z13 z56 z2B z3f z4E zai zaj z8H z8a ⟨h,zJ,zqx,zn3⟩
  obtain⟨zxr,rfl⟩:=y9G h
  rw[y2U] at h
  refine WC.b<|Ld<|La U<|WL.nil<|Lb<|WC.b<|WC.cond U (fun zxw=>?_)<|fun zxw=>?_
  ·replace h:=yq h zxw
   refine WC.skip<|Lb ?_
   obtain⟨zqu,zRy,h⟩:=ydQ h
   refine WC.yb3 (fun(z9x:List (List z2)) (zbX:Int) (zbY:Int) (zbZ:List (Int×List Int)) (zc0:List (zP×z1)) (zgG:Zp) (zjf:Option Addr) (zjg:Nat) (zjh:List Value) (zgH:List (Int×((Nat×(Option Addr×Nat))×List Int)))=>(zqu z9x zbX zbY zbZ zc0=some r)∧(Zle (Z++z4E) (Z++zgG))∧(RR 1 (y27 (Z++zgG)) zjh z9x)∧(dat zgH=zbZ)) (fun z9x zbX zbY zbZ zc0 zgG zjf zjg zjh zgH=>[(0,(vp z2V)),(3,(vp z4D)),(6,(.slice zjf z9x.length zjg)),(7,vn),(8,(.map<|some z59)),(9,(vi zbX)),(24,C),(25,(vi ((zZ.length:Nat):Int))),(26,(vi z13))]) (fun z9x zbX zbY zbZ zc0 zgG zjf zjg zjh zgH=>[fz zgG,row (.slice zjf z9x.length zjg) 227 1 zjh,stb z2V 119 [H,F,I,J,D,K,L,G,C,(.map<|some z20),(.map<|some z23),(vi zbY)],stb z4D 121 N,yp z59 (Value.int .i64) slv (y2M zgH),y2o (y2a 3 1 e3) zgH,yp z20 (fun x=>Value.agg (y2N x).toArray) (fun x=>Value.agg (yA x).toArray) zc0,yp z23 (fun x=>Value.agg (yD x).toArray) (Value.int .i64) z1k]) ?_ ?_
   ·skip
    refine WC.block<|WC.b ?_
    obtain⟨zRz,h⟩:=yn h
    refine Ld<|La U<|L0 (dd:=29) U U (Z:=(Z++z4E)) (Pr:=(p58 (Z++z4E))) y71 U U ((zex.mono<|(Zle.left _ _).trans zJ).weak (fun _ _ h=>y1t ((Zle.left _ _).trans zJ) h)) zRz ?_
    rintro z166 z167 zRA z168 ⟨z169,z16a,rfl,zHt⟩
    refine Le 30 (yc y7c U<|y3C (hz.pv2 .here) zRA U)<|La U<|La U<|WL.nil<|Lb<|WC.b<|WC.b ?_
    obtain⟨zHm,zRB,h⟩:=za h
    refine Ld<|La U<|Le 32 (y14<|L2 (l:=[.tmp 3])<|.cons U .nil)<|Ll 33 (zb Tryz.call75<|.r2 U U) .nil (yap hz .nil .here (.cons .h3 .nil) fun w pz ho la=>y6S _ _ _ (zj6:=117) (zqo:=[(vp z4D)]) _ (zj5:=(fun(y0:zd)=>y4A y0 zR)) _ zRB w pz (zHt.mono<|Zle.left _ _) Tryz.call117<|fun w' hz' y0  r  hr=>ybn hr w' hz'<|(la _ (.head _) _).stb)<|La U<|WL.nil<|Lb<|WC.cond U (fun zxx=>?_)<|fun zxx=>?_
    ·replace h:=yq h zxx
     refine WC.exit<|Lm<|Lu ?_
     exact Ln ⟨z3e,z6k,z56,z2B,z3f,z4E,zai,zaj,z8H,z8a⟩ ⟨h,(Zle.refl _),zqx,zn3⟩ (.r9 U U U U U U U U U)<|.a8
    ·replace h:=yr h zxx
     refine WC.skip<|Lb<|WC.b ?_
     obtain⟨zRC,h⟩:=yn h
     refine Ld<|La U<|La U<|Le 37 (y1e U)<|Le 38 (ya y6l U U)<|Le 39 (ya y5a U U)<|Le 40 (yc y5p U<|yh .h2 U)<|La U<|L0 (dd:=42) U U (Z:=(Z++z4E)) (Pr:=(p69 (Z++z4E))) y72 U U ((zah.mono<|(Zle.left _ _).trans zJ).weak (fun _ _ h=>y15 ((Zle.left _ _).trans zJ) h)) zRC ?_
     rintro z16b z16c zRD z16d ⟨z16e,z16f,rfl,z16g⟩
     refine Le 43 (ya y6x U U)<|Le 44 (yc ys U<|y1c (hz.pv2 .here) zRD U)<|Le 45 (yaU U U U)<|La U<|WL.nil<|Lb<|WC.b ?_
     obtain⟨zRE,h⟩:=yn h
     obtain⟨z3g,zRF,h⟩:=za h
     refine Ld<|La U<|Le 47 (y1e U)<|Le 48 (ya y6l U U)<|Le 49 (ya y5a U U)<|Le 50 (yc y5p U<|yh .h2 U)<|La U<|L0 (dd:=52) U U (Z:=(Z++z4E)) (Pr:=(p69 (Z++z4E))) y72 U U ((zah.mono<|(Zle.left _ _).trans zJ).weak (fun _ _ h=>y15 ((Zle.left _ _).trans zJ) h)) zRE ?_
     rintro z16h z16i zRG z16j ⟨z16k,z16l,rfl,z16m⟩
     refine Le 53 (ya y6x U U)<|Le 54 (yc ys U<|y1c (hz.pv2 .here) zRG U)<|Ll 55 (zb Tryz.call80<|.cons U .nil) .nil (ccz hz .nil .here fun w pz ho=>y5y zRF w pz ) (Lg 12 (yv (cs:=[(vi 0),(vi 0)]) zW U) fun zqy _=>Lk U U (yl zA U U U .here U U U)<|WL.nil<|Lb ?_)
     obtain⟨zqv,zRH,h⟩:=ydQ h
     refine WC.yb3 (fun(z9y:List (List z2)) (zc1:Int) (zc2:List (Int×List Int)) (zae:Int) (zaf:Int) (zgI:Zp) (zji:Option Addr) (zjj:Nat) (zjk:List Value) (zgJ:List (Int×((Nat×(Option Addr×Nat))×List Int)))=>(zqv z9y zc1 zc2 zae zaf=some r)∧(Zle (Z++z4E) (Z++zgI))∧(RR 1 (y27 (Z++zgI)) zjk z9y)∧(dat zgJ=zc2)) (fun z9y zc1 zc2 zae zaf zgI zji zjj zjk zgJ=>[(0,(vp z2V)),(3,(vp z4D)),(6,(.slice zji z9y.length zjj)),(7,vn),(8,(.map<|some z59)),(9,(vi<|max z6k<|(nth zf.fVLs z13).fMax)),(10,(vi z13)),(12,(vp zqy)),(24,C),(25,(vi ((zZ.length:Nat):Int))),(26,(vi z13))]) (fun z9y zc1 zc2 zae zaf zgI zji zjj zjk zgJ=>[fz zgI,row (.slice zji z9y.length zjj) 227 1 zjk,stb z2V 119 [H,F,I,J,D,K,L,G,C,(.map<|some z20),(.map<|some z23),(vi zc1)],stb z4D 121 N,yp z59 (Value.int .i64) slv (y2M zgJ),y2o (y2a 3 1 e3) zgJ,stb zqy 175 [(vi zae),(vi zaf)],yp z20 (fun x=>Value.agg (y2N x).toArray) (fun x=>Value.agg (yA x).toArray) z3f,yp z23 (fun x=>Value.agg (yD x).toArray) (Value.int .i64) z1k]) ?_ ?_
     ·skip
      refine WC.b ?_
      obtain⟨z2f,zRI,h⟩:=za h
      refine Ld<|La U<|Le 58 (ya y9d U U)<|Le 59 (yc ys U<|yh .h4 U)<|Ll 60 (zb Tryz.call77<|.r2 U U) .nil (ccz hz .nil .h1 fun w pz ho=>yat zRI w pz zHt)<|La U<|La U<|La U (Lg 13 (yv (cs:=[(vi 0),(vi 0),(vi 0)]) y6Q U) fun zxy _=>Lk U U (yl y7d U U U .here U U U)<|La U<|WL.nil<|Lb<|WC.b<|Ld<|La U<|WL.nil<|Lb<|WC.cond U (fun zxz=>?_)<|fun zxz=>?_)
      ·replace h:=yq h zxz
       refine WC.b ?_
       obtain⟨zet,zRJ,h⟩:=za h
       obtain⟨zHn,zRK,h⟩:=za h
       obtain⟨zxs,zRL,h⟩:=za h
       obtain⟨zHo,zRM,h⟩:=za h
       obtain⟨zxt,zRN,h⟩:=za h
       obtain⟨zag,zRO,h⟩:=za h
       let S:List Value:=[(vi z2f.1.fNode),(vi z2f.1.fNext),(vi z2f.1.fQ)];refine Lx (fun i=>[13,22,23,24].contains i) [y85 z2V 119 [(9,(.map (some z20))),(10,(.map (some z23)))],yei z20 (fun x=>Value.agg (y2N x).toArray) (fun x=>Value.agg (yA x).toArray) (⟨z13,zet⟩:zP) ((⟨0,0⟩:z1):z1) (yg z3f (⟨z13,zet⟩:zP) (⟨0,0⟩:z1)),stb zxy 60 S] U (Lf 0 64 U (fun _=>q_m U) (Lf 1 65 U (fun _=>q_m U) (Lf 2 66 U (fun _=>y1e U) (Lf 3 67 U (fun _=>ya ydV U U) (L6 4 68 U (Sin.wk (.s3 .h4 .h7 .here) (.stb (.cons U (.cons U .nil)) (.any U (fun _ h=>y7B h) (.same .nil)))) (yc ztw U (y5Z .here (.head _))) (Lf 5 69 U (fun _=>q_m U) (Lj 6 70 U (yi y4g U (yk .here) U) (L4 7 71 U (zb Tryz.call60 (.cons U .nil)) (ccz hz .nil .h2 fun w pz ho=>y69 zRJ w pz ) (Lf 8 72 U (fun _=>yL (v:=(.agg #[(vi z13),(vi zet.fNode),(vi zet.fQ)])) (Lo (l:=[.tmp 69,.tmp 71]) (.r2 U U) [0,1]) (fun _=>by kernel_rfl)) (L6 9 73 U (Sin.wk (.s3 .h4 .h7 .here) (.stb (.cons U (.cons U .nil)) (.any U (fun _ h=>y7B h) (.same .nil)))) (yfp (k:=(⟨z13,zet⟩:zP)) (dflt:=((⟨0,0⟩:z1):z1)) ztx Tryz.underlying116 zW U U U .h1) (Lf 10 74 U (fun _=>q_m U) (Lf 11 75 U (fun _=>q_m U) (Lf 12 76 U (fun _=>q_m U) (Lf 14 78 U (fun _=>q_m U) (Lf 15 79 U (fun _=>y1e U) (Lf 16 80 U (fun _=>ya ydW U U) (L6 17 81 U (Sin.wk (.s3 .h4 .h7 .here) (.stb (.cons U (.cons U .nil)) (.any U (fun _ h=>y7B h) (.same .nil)))) (yc zm8 U (y5Z .here (.tail _ (.head _)))) (L6 18 82 U (Sin.wk (.s3 .h4 .h7 .here) (.stb (.cons U (.cons U .nil)) (.any U (fun _ h=>y7B h) (.same .nil)))) (yi y4g U (yk .h2) U) (Ka (i:=13) (dd:=77) U (by kernel_rfl) U U U (.inl ⟨U,(by exact(Sin.wk (.s3 .h6 .here .h1) (.stb (.cons U (.cons U .nil)) (.any U (fun _ h=>y7B h) (.same .nil)))))⟩) (zb Tryz.call121 (.r2 U U)) (.s2 (.there .h7) (.there .h7)) (yap hz (.s2 (.there .h7) (.there .h7)) .h2 (.cons .h4 .nil) fun w pz ho la=>Calls.mono (y87 zRK w pz ((((zgA.mono ((Zle.left _ _).trans zJ)).weak (fun _ _ h=>y1a ((Zle.left _ _).trans zJ) h)).mono (Zle.left _ _)).weak (fun _ _ h=>y1a (Zle.left _ _) h)) ((((zgB.mono ((Zle.left _ _).trans zJ)).weak (fun _ _ h=>y1i ((Zle.left _ _).trans zJ) h)).mono (Zle.left _ _)).weak (fun _ _ h=>y1i (Zle.left _ _) h)) ((zgC.mono ((Zle.left _ _).trans zJ)).mono (Zle.left _ _)) ((zew.mono ((Zle.left _ _).trans zJ)).mono (Zle.left _ _)) ((((zah.mono ((Zle.left _ _).trans zJ)).weak (fun _ _ h=>y15 ((Zle.left _ _).trans zJ) h)).mono (Zle.left _ _)).weak (fun _ _ h=>y15 (Zle.left _ _) h)) ((zgD.mono ((Zle.left _ _).trans zJ)).mono (Zle.left _ _)) ((((zgE.mono ((Zle.left _ _).trans zJ)).weak (fun _ _ h=>y1j ((Zle.left _ _).trans zJ) h)).mono (Zle.left _ _)).weak (fun _ _ h=>y1j (Zle.left _ _) h)) ((zgF.mono ((Zle.left _ _).trans zJ)).mono (Zle.left _ _)) ((((zex.mono ((Zle.left _ _).trans zJ)).weak (fun _ _ h=>y1t ((Zle.left _ _).trans zJ) h)).mono (Zle.left _ _)).weak (fun _ _ h=>y1t (Zle.left _ _) h)) ((la _ (.head _) _).stb) ho) (fun _ _ h'=>⟨h'.1,trivial,h'.2⟩)) ?_)))))))))))))))))))
       intro _
       refine L4 19 83 U (zb Tryz.call60<|.cons U .nil) (ccz hz .nil .h4 fun w pz ho=>y69 zRL w pz )<|Lj 20 84 U (y2S (k:=zxs) (dflt:=(0:Int)) zdH Tryz.underlying117 y2H U U U .h1)<|L4 21 85 U (zb Tryz.call80<|.cons U .nil) (ccz hz .nil .h4 fun w pz ho=>y5y zRM w pz ) (Ka (i:=22) (dd:=86) U (by kernel_rfl) U U U (.inl ⟨U,(by exact(Sin.wk (.s3 .here .here .h1)<|.stb (.cons U<|.cons U .nil)<|.any U (fun _ h=>y7B h)<|.same .nil))⟩) (zb Tryz.call118<|.r4 U U U U) (.s3 .h6 .here .here) (ccz hz (.s3 .h6 .here .here) .h2 fun w pz ho=>Calls.mono (y7n _ _ _ _ _ _ _ _ _ _ _ _ _ _ _ _ _ _ _ _ _ _ (zbV:=120) (zgt:=[]) _ _ _ _ _ (ze6:=(fun(y0:z1) (y1:z1)=>y3O y0 y1)) _ _ _ zRN w pz ((zgA.mono<|(Zle.left _ _).trans zJ).weak (fun _ _ h=>y1a ((Zle.left _ _).trans zJ) h)) ((zgB.mono<|(Zle.left _ _).trans zJ).weak (fun _ _ h=>y1i ((Zle.left _ _).trans zJ) h)) (zgC.mono<|(Zle.left _ _).trans zJ) (zew.mono<|(Zle.left _ _).trans zJ) ((zah.mono<|(Zle.left _ _).trans zJ).weak (fun _ _ h=>y15 ((Zle.left _ _).trans zJ) h)) (zgD.mono<|(Zle.left _ _).trans zJ) ((zgE.mono<|(Zle.left _ _).trans zJ).weak (fun _ _ h=>y1j ((Zle.left _ _).trans zJ) h)) (zgF.mono<|(Zle.left _ _).trans zJ) ((zex.mono<|(Zle.left _ _).trans zJ).weak (fun _ _ h=>y1t ((Zle.left _ _).trans zJ) h)) Tryz.call120 (fun w' hz' y0 y1  r  hr=>ycM hr w' hz' ) ho)<|fun _ _ h'=>⟨h'.1,trivial,h'.2⟩) fun _=>Ka (i:=23) (dd:=87) U (by kernel_rfl) U U U (.inl ⟨U,(by exact(Sin.wk (.s3 .here .here .h1)<|.stb (.cons U<|.cons U .nil)<|.any U (fun _ h=>y7B h)<|.same .nil))⟩) (zb Tryz.call118<|.r4 U U U U) (.a3) (ccz hz (.a3) .h2 fun w pz ho=>Calls.mono (y7n _ _ _ _ _ _ _ _ _ _ _ _ _ _ _ _ _ _ _ _ _ _ (zbV:=119) (zgt:=[]) _ _ _ _ _ (ze6:=(fun(y0:z1) (y1:z1)=>y1q y0 y1)) _ _ _ zRO w pz ((zgA.mono<|(Zle.left _ _).trans zJ).weak (fun _ _ h=>y1a ((Zle.left _ _).trans zJ) h)) ((zgB.mono<|(Zle.left _ _).trans zJ).weak (fun _ _ h=>y1i ((Zle.left _ _).trans zJ) h)) (zgC.mono<|(Zle.left _ _).trans zJ) (zew.mono<|(Zle.left _ _).trans zJ) ((zah.mono<|(Zle.left _ _).trans zJ).weak (fun _ _ h=>y15 ((Zle.left _ _).trans zJ) h)) (zgD.mono<|(Zle.left _ _).trans zJ) ((zgE.mono<|(Zle.left _ _).trans zJ).weak (fun _ _ h=>y1j ((Zle.left _ _).trans zJ) h)) (zgF.mono<|(Zle.left _ _).trans zJ) ((zex.mono<|(Zle.left _ _).trans zJ).weak (fun _ _ h=>y1t ((Zle.left _ _).trans zJ) h)) Tryz.call119 (fun w' hz' y0 y1  r  hr=>y6N hr w' hz' ) ho)<|fun _ _ h'=>⟨h'.1,trivial,h'.2⟩) ?_)
       intro _
       refine Kb (i:=24) U (by kernel_rfl) U U U (by kernel_rfl) (yl zA U U U .h4 U U U)<|WD.done (by kernel_rfl)<|Lb ?_
       obtain⟨zRP,h⟩:=yn h
       refine Lx (fun i=>[9,10].contains i) [y85 zxy 60 [(2,(vi z2f.1.fQ))]] U<|Lf 0 88 U (fun _=>q_m U)<|Lf 1 89 U (fun _=>ya y8B U U)<|L6 2 90 U (Sin.wk (.cons .h4 .nil)<|.stb (.cons U .nil) .nil) (yc ys U<|y5Z .here<|.head _)<|Lf 3 91 U (fun _=>q_m U)<|Lf 4 92 U (fun _=>ya y8B U U)<|Lj 5 93 U (yc ys U<|yh .h4 U)<|Lj 6 94 U (y2S (k:=z2f.1.fQ) (dflt:=(((none,0),[]):(Option Addr×Nat)×List Int)) y40 Tryz.underlying219 ydX U U U<|.there .h7)<|WD.gh (fun _ h=>Hp.yaX z2f.1.fQ zn3 (.there<|.there .h7) h) ?_
       rintro⟨zRQ,zRR⟩ zRS
       refine WD.repin (i:=94) U (u:=(.slice zRQ ((yg z2B z2f.1.fQ []).length) zRR)) (congrArg slv zRS)<|Lf 7 95 U (fun _=>q_m U) (WD.new (i:=8) (dd:=96) U (by kernel_rfl) U U U (yM (cs:=([z13]:List Int).flatMap e3) y66 (Lo (l:=[.tmp 95]) (.cons U .nil) [0]) (fun _=>by kernel_rfl) U (by unfold maxLen;omega)) (fun h'=>absurd h' (by decide)) fun zRT _=>WD.old (i:=9) (dd:=97) U (by kernel_rfl) U U U U (fun _=>(Sin.wk (.cons .h7 .nil)<|.stb (.cons U .nil) .nil)) (y52 (enc:=e3) (l1:=yg z2B z2f.1.fQ []) (l2:=([z13]:List Int)) y66 U U .h1 (fun _=>U) U U (y3t .here) (y5o e3_oc _) zRP) ?_)
       rintro⟨zqz,zqA⟩ _
       refine Kb (i:=10) U (by kernel_rfl) U U U (by kernel_rfl) (y3U (k:=z2f.1.fQ) (v:=(((zqz,zqA),(yg z2B z2f.1.fQ [])++([z13]:List Int)):(Option Addr×Nat)×List Int)) y40 Tryz.underlying219 U U U U<|.there<|.there<|.there<|.there .h7)<|WD.ghL (fun _ h=>Hp.yek (k:=z2f.1.fQ) (.s2 .h1 .h2) h)<|WD.ghL (M:=[yp z59 (Value.int .i64) slv (y2M<|yF z8a z2f.1.fQ ((0,(zqz,zqA)),(yg z2B z2f.1.fQ [])++([z13]:List Int))),y2o (y2a 3 1 e3) (yF z8a z2f.1.fQ ((0,(zqz,zqA)),(yg z2B z2f.1.fQ [])++([z13]:List Int))),row (.slice (some ⟨zRT,0,none⟩) (([z13]:List Int).length) 1) 3 1 (([z13]:List Int).flatMap e3),stb zqy 175 [(vi zag.1.fN),(vi zag.1.fD)],stb z2V 119 [H,F,I,J,D,K,L,G,C,(.map<|some z20),(.map<|some z23),(vi zag.2)],yp z20 (fun x=>Value.agg (y2N x).toArray) (fun x=>Value.agg (yA x).toArray) z3f,yp z23 (fun x=>Value.agg (yD x).toArray) (Value.int .i64) z1k,stb zxy 60 S,fz z4E,row (.slice zai z3e.length zaj) 227 1 z8H,stb z4D 121 N]) (fun _ h=>Hp.yg4 .h1 (ycJ _ _ _ _).symm h)<|WD.done (by kernel_rfl) ?_
       exact Ln ⟨z3e,zag.2,(yF z2B z2f.1.fQ ((yg z2B z2f.1.fQ [])++([z13]:List Int))),zag.1.fN,zag.1.fD,z4E,zai,zaj,z8H,(yF z8a z2f.1.fQ ((0,(zqz,zqA)),(yg z2B z2f.1.fQ [])++([z13]:List Int)))⟩ ⟨h,(Zle.refl _),zqx,(yg3 zn3 _ _ _)⟩ (.r11 U U U U U U U U U U U)<|.s9 (.there .h7) (.there .h7) .h4 .h7 .here .here .h1 .h1 .h1
      ·replace h:=yr h zxz
       obtain⟨z57,zRU,h⟩:=za h
       obtain⟨zRV,h⟩:=yn h
       refine Lx (fun i=>[4,8].contains i) [stb zqy 175 [(vi z3g.fN),(vi z3g.fD)]] U<|Lf 0 98 U (fun _=>q_m U)<|L6 1 99 U (Sin.of<|.cons .h1 .nil) (yi zg U (yk .here) U)<|Lf 2 100 U (fun _=>q_m U)<|Lf 3 101 U (fun _=>q_m U) (Ka (i:=4) (dd:=102) U (by kernel_rfl) U U U (.inl ⟨U,(Sin.of<|.cons .h3 .nil)⟩) (zb Tryz.call121<|.r2 U U) (.s2 (.there .h7)<|.there .h7) (yap hz (.s2 (.there .h7)<|.there .h7) .h2 (.cons .h4 .nil) fun w pz ho la=>Calls.mono (y87 zRU w pz ((((zgA.mono<|(Zle.left _ _).trans zJ).weak (fun _ _ h=>y1a ((Zle.left _ _).trans zJ) h)).mono (Zle.left _ _)).weak (fun _ _ h=>y1a (Zle.left _ _) h)) ((((zgB.mono<|(Zle.left _ _).trans zJ).weak (fun _ _ h=>y1i ((Zle.left _ _).trans zJ) h)).mono (Zle.left _ _)).weak (fun _ _ h=>y1i (Zle.left _ _) h)) ((zgC.mono<|(Zle.left _ _).trans zJ).mono (Zle.left _ _)) ((zew.mono<|(Zle.left _ _).trans zJ).mono (Zle.left _ _)) ((((zah.mono<|(Zle.left _ _).trans zJ).weak (fun _ _ h=>y15 ((Zle.left _ _).trans zJ) h)).mono (Zle.left _ _)).weak (fun _ _ h=>y15 (Zle.left _ _) h)) ((zgD.mono<|(Zle.left _ _).trans zJ).mono (Zle.left _ _)) ((((zgE.mono<|(Zle.left _ _).trans zJ).weak (fun _ _ h=>y1j ((Zle.left _ _).trans zJ) h)).mono (Zle.left _ _)).weak (fun _ _ h=>y1j (Zle.left _ _) h)) ((zgF.mono<|(Zle.left _ _).trans zJ).mono (Zle.left _ _)) ((((zex.mono<|(Zle.left _ _).trans zJ).weak (fun _ _ h=>y1t ((Zle.left _ _).trans zJ) h)).mono (Zle.left _ _)).weak (fun _ _ h=>y1t (Zle.left _ _) h)) ((la _ (.head _) _).stb) ho)<|fun _ _ h'=>⟨h'.1,trivial,h'.2⟩) fun _=>Lf 5 103 U (fun _=>yL (v:=(.agg #[(vi z3g.fN),(vi z3g.fD),(vi z57.fN),(vi z57.fD)])) (Lo (l:=[.tmp 99,.tmp 102]) (.r2 U U) [0,1]) (fun _=>by kernel_rfl)) (WD.new (i:=6) (dd:=104) U (by kernel_rfl) U U U (yM (cs:=([(⟨z3g,z57⟩:z2)]:List z2).flatMap y1M) z81 (Lo (l:=[.tmp 103]) (.cons U .nil) [0]) (fun _=>by kernel_rfl) U (by unfold maxLen;omega)) (fun h'=>absurd h' (by decide)) fun zjl _=>WD.freezeS (ls:=([(⟨z3g,z57⟩:z2)]:List z2)) .here .h4 hz (RR.flat (enc:=y1M) (fun _=>U) _) ?_))
       intro zqB zHu zRW
       let E:List Value:=[(.slice (some ⟨zjl,0,none⟩) (([(⟨z3g,z57⟩:z2)]:List z2).length) 1)];have zHv:RR 1 (y27 (Z++zqB)) E ([([(⟨z3g,z57⟩:z2)]:List z2)]:List (List z2)):=(RR.cons (r:=E) U (show y27 _ _ _ from⟨_,_,U,zRW⟩) (RR.nil _ _))
       refine WD.new (i:=7) (dd:=105) U (by kernel_rfl) U U U (yM (cs:=[(.slice (some ⟨zjl,0,none⟩) (([(⟨z3g,z57⟩:z2)]:List z2).length) 1)]) z9h (Lo (l:=[.tmp 104]) (.cons U .nil) [0]) (fun _=>by kernel_rfl) U (by unfold maxLen;omega)) (fun h'=>absurd h' (by decide)) ?_
       intro z16n _
       have zRX:RR 1 (y27 (Z++zqB)) (z8H++E) (z3e++([([(⟨z3g,z57⟩:z2)]:List z2)]:List (List z2))):=RR.app (zqx.weak (fun _ _ h=>y3L zHu h)) zHv
       refine WD.old (i:=8) (dd:=106) U (by kernel_rfl) U U U U (fun _=>(Sin.of<|.cons .h6 .nil)) (y6L (l1:=z3e) (l2:=([([(⟨z3g,z57⟩:z2)]:List z2)]:List (List z2))) (news:=E) (Pr:=(y27 (Z++zqB))) z9h U U .h6 zHv (y3t .here) (y94 U yan) zRV) ?_
       rintro⟨zRY,zRZ⟩ _
       refine Lf 9 6 U (fun _=>q_z U)<|WD.done (by kernel_rfl) ?_
       exact Ln ⟨(z3e++([([(⟨z3g,z57⟩:z2)]:List z2)]:List (List z2))),z56,z2B,z3g.fN,z3g.fD,zqB,zRY,zRZ,(z8H++E),z8a⟩ ⟨h,zHu,zRX,zn3⟩ (.r11 U U U U U U U U U U U)<|.s9 .h2 .here .h5 .h5 .h5 .h5 .h4 .h1 .h1
     ·rintro z9y zc1 zc2 zae zaf zgI zji zjj zjk zgJ ⟨h,zS0,zS1,zS2⟩
      replace h:=(zRH z9y zc1 zc2 zae zaf).symm.trans h
      refine Lx (fun i=>[8].contains i) [] U<|Lf 0 107 U (fun _=>q_m U)<|Lf 1 108 U (fun _=>y1e U)<|Lf 2 109 U (fun _=>ya ydV U U)<|Lj 3 110 U (yc ztw U<|yh .h2 U)<|Lf 4 111 U (fun _=>q_m U)<|Lj 5 112 U (yi z5v U (yk .h3) U)<|Lf 6 113 U (fun _=>yL (v:=(.agg #[(vi z13),(vi zR.fNode),(vi zR.fQ)])) (Lo (l:=[.tmp 111,.tmp 112]) (.r2 U U) [0,1]) (fun _=>by kernel_rfl))<|Lj 7 114 U (yi zg U (yk .h6) U)<|Kb (i:=8) U (by kernel_rfl) U U U (by kernel_rfl) (y3U (k:=(⟨z13,zR⟩:zP)) (v:=(⟨zae,zaf⟩:z1)) ztx Tryz.underlying116 U U U U .h7)<|WD.done (by kernel_rfl)<|Lt ?_
      exact Ln ⟨z9y,(max z6k<|(nth zf.fVLs z13).fMax),zc1,zc2,(yF z3f (⟨z13,zR⟩:zP) (⟨zae,zaf⟩:z1)),zgI,zji,zjj,zjk,zgJ⟩ ⟨h,zS0,zS1,zS2⟩ (.r9 U U U U U U U U U)<|.s8 .h1 .h1 .h1 .h1 .h1 .h1 .here .h1
   ·rintro z9x zbX zbY zbZ zc0 zgG zjf zjg zjh zgH ⟨h,zS3,zS4,zS5⟩
    replace h:=(zRy z9x zbX zbY zbZ zc0).symm.trans h
    refine Ld<|La U<|La U<|WL.nil ?_
    exact WX.round ⟨zxr,z9x,zbX,(i64 (z13+1)),zbY,zbZ,zc0,zgG,zjf,zjg,zjh,zgH⟩ ⟨h,(zJ.trans zS3),zS4,zS5⟩ (Nat.lt_succ_self _) (.r9 U U U U U U U U U)<|.a8
  ·replace h:=yr h zxw
   refine WC.exit<|Lm<|Lm<|Lu ?_
   exact Ln ⟨z3e,z6k,z56,z2B,z3f,z4E,zai,zaj,z8H,z8a⟩ ⟨h,zJ,zqx,zn3⟩ (.r6 U U U U U U)<|.a8
 ·rintro z3i z89 zca z1M z2g zcb z7a z7b z8G z7D ⟨h,z1d,zS6,zqC⟩
  replace h:=(zRx z3i z89 zca z1M z2g).symm.trans h
  obtain⟨zc5,zS7,h⟩:=y59 h
  let O:Value:=(.slice z7a z3i.length z7b);refine WC.ybB (fun(z7C:List (List z2)) (zev:Int) (zcc:Zp) (zn4:Option Addr) (zn5:Nat) (zey:List Value)=>(zc5 z7C zev=some r)∧(Zle (Z++zcb) (Z++zcc))∧(RR 1 (y27 (Z++zcc)) zey z7C)) (fun z7C zev zcc zn4 zn5 zey=>[(6,O),(7,(.slice zn4 z7C.length zn5)),(9,(vi z89))]) (fun z7C zev zcc zn4 zn5 zey=>[fz zcc,row O 227 1 z8G,row (.slice zn4 z7C.length zn5) 227 1 zey,stb z2V 119 [H,F,I,J,D,K,L,G,C,(.map (some z20)),(.map (some z23)),(vi zev)],yp z20 (fun x=>Value.agg (y2N x).toArray) (fun x=>Value.agg (yA x).toArray) z2g,yp z23 (fun x=>Value.agg (yD x).toArray) (Value.int .i64) z1k]) ?_ ?_
  ·skip
   let P:Value:=(vi ((zf.fK.length:Nat):Int));refine WC.b (Ld (La U (Le 117 (y1e U) (Le 118 (ya y6l U U) (Le 119 (ya y7R U U) (Le 120 (yc y7S U (yh .h2 U)) (Le 121 (yI Tryz.underlying25 U) (La U (WL.nil (Lb (WC.block (WC.nilRow 227 1 (WC.y93 (fun(zjm:Nat) (z33:List (List z2)) (zH:Int) (z79:Int) (z7c:Zp) (z8I:Option Addr) (z8J:Nat) (z8K:List Value)=>(y2W zf z1M zZ z2g z1k zR zc5 zjm z33 zH z79=some r)∧(Zle (Z++zcb) (Z++z7c))∧(RR 1 (y27 (Z++z7c)) z8K z33)) (fun zjm z33 zH z79 z7c z8I z8J z8K=>[(0,(vp z2V)),(3,(vp z4D)),(6,O),(7,(.slice z8I z33.length z8J)),(8,(.map (some z59))),(9,(vi z89)),(121,P),(122,(vi zH))]) (fun zjm z33 zH z79 z7c z8I z8J z8K=>[fz z7c,row O 227 1 z8G,row (.slice z8I z33.length z8J) 227 1 z8K,stb z2V 119 [H,F,I,J,D,K,L,G,C,(.map (some z20)),(.map (some z23)),(vi z79)],stb z4D 121 N,yp z59 (Value.int .i64) slv (y2M z7D),y2o (y2a 3 1 e3) z7D,yp z20 (fun x=>Value.agg (y2N x).toArray) (fun x=>Value.agg (yA x).toArray) z2g,yp z23 (fun x=>Value.agg (yD x).toArray) (Value.int .i64) z1k]) (fun zjm z33 zH z79 z7c z8I z8J z8K=>zjm) ⟨yx,([]:List (List z2)),0,zca,zcb,none,0,[]⟩ ⟨h,(Zle.refl _),(RR.nil _ _)⟩ (.r8 U U U U U U U U) (.s9 .h1 .h1 .here .here .here .here .here .here .here) ?_)))))))))))))
   rintro zjm z33 zH z79 z7c z8I z8J z8K ⟨h,z19,zxA⟩
   obtain⟨zxv,rfl⟩:=y9I h
   rw[y2W] at h
   refine WC.b<|Ld<|La U<|WL.nil<|Lb<|WC.b<|WC.cond U (fun zxB=>?_)<|fun zxB=>?_
   ·replace h:=yq h zxB
    refine WC.skip<|Lb ?_
    obtain⟨zqw,zS8,h⟩:=y59 h
    refine WC.ybB (fun(z9A:List (List z2)) (zc6:Int) (zgK:Zp) (zjn:Option Addr) (zjo:Nat) (zjp:List Value)=>(zqw z9A zc6=some r)∧(Zle (Z++z7c) (Z++zgK))∧(RR 1 (y27 (Z++zgK)) zjp z9A)) (fun z9A zc6 zgK zjn zjo zjp=>[(0,(vp z2V)),(3,(vp z4D)),(6,O),(7,(.slice zjn z9A.length zjo)),(8,(.map<|some z59)),(9,(vi z89)),(121,P),(122,(vi zH))]) (fun z9A zc6 zgK zjn zjo zjp=>[fz zgK,row O 227 1 z8G,row (.slice zjn z9A.length zjo) 227 1 zjp,stb z2V 119 [H,F,I,J,D,K,L,G,C,(.map<|some z20),(.map<|some z23),(vi zc6)],stb z4D 121 N,yp z59 (Value.int .i64) slv (y2M z7D),y2o (y2a 3 1 e3) z7D,yp z20 (fun x=>Value.agg (y2N x).toArray) (fun x=>Value.agg (yA x).toArray) z2g,yp z23 (fun x=>Value.agg (yD x).toArray) (Value.int .i64) z1k]) ?_ ?_
    ·skip
     refine WC.block<|WC.b<|Ld<|La U<|La U<|WL.nil<|Lb<|WC.b<|WC.b<|Ld<|La U<|La U<|Le 127 (y2S (k:=zH) (dflt:=(((none,0),[]):(Option Addr×Nat)×List Int)) y40 Tryz.underlying219 ydX U U U .h5)<|WL.gh (fun _ h=>Hp.yaX zH zqC .h6 h) ?_
     rintro⟨zS9,zSa⟩ zHw
     refine Ki (i:=127) U (u:=(.slice zS9 ((yg z1M zH []).length) zSa)) (congrArg slv zHw)<|Le 128 (yI Tryz.underlying50 U)<|La U<|WL.ghL (fun _ h=>Hp.yfq zqC zHw (.a2) h)<|WL.nil<|Lb<|WC.cond U (fun zxC=>?_)<|fun zxC=>?_
     ·replace h:=yq h zxC
      refine WC.exit<|Lm<|Lu ?_
      exact Ln ⟨z33,z79,z7c,z8I,z8J,z8K⟩ ⟨h,(Zle.refl _),zxA⟩ (.r8 U U U U U U U U)<|.s9 .h1 .h1 .h1 .h1 .h1 .h1 .here .here .here
     ·replace h:=yr h zxC
      refine WC.skip<|Lb<|WC.b ?_
      obtain⟨zgy,zSb,h⟩:=za h
      obtain⟨zgz,zSc,h⟩:=za h
      refine Ld<|Ll 130 (zb Tryz.call80<|.cons U .nil) .nil (ccz hz .nil .h1 fun w pz ho=>y5y zSb w pz )<|Ll 131 (zb Tryz.call80<|.cons U .nil) .nil (ccz hz .nil .h1 fun w pz ho=>y5y zSc w pz )<|Le 132 (yL (v:=(.agg #[(vi zgy.fN),(vi zgy.fD),(vi zgz.fN),(vi zgz.fD)])) (Lo (l:=[.tmp 130,.tmp 131]) (.r2 U U) [0,1]) (fun _=>by kernel_rfl)) (Lg 16 (yv (cs:=[(vi 0),(vi 0),(vi 0),(vi 0)]) zbo U) fun zn6 _=>Lk U U (yl za4 U U U .here U U U)<|WL.nil<|Lb<|WC.b<|Ld<|La U<|WL.nil<|Lb ?_)
      obtain⟨zc3,zSd,h⟩:=jp6_elim h
      let Q:Value:=(.slice z8I z33.length z8J);refine WC.ybB (fun(zeu:Int) (zc7:Int) (z3E:Int) (z3F:Int) (z3G:Int) (z3H:Int)=>(zc3 zeu zc7 z3E z3F z3G z3H=some r)) (fun zeu zc7 z3E z3F z3G z3H=>[(0,(vp z2V)),(3,(vp z4D)),(6,O),(7,Q),(8,(.map (some z59))),(9,(vi z89)),(15,(vi zH)),(16,(vp zn6)),(17,(vi zeu)),(121,P),(122,(vi zH))]) (fun zeu zc7 z3E z3F z3G z3H=>[fz z7c,row O 227 1 z8G,row Q 227 1 z8K,stb z2V 119 [H,F,I,J,D,K,L,G,C,(.map (some z20)),(.map (some z23)),(vi zc7)],stb z4D 121 N,yp z59 (Value.int .i64) slv (y2M z7D),y2o (y2a 3 1 e3) z7D,stb zn6 225 [(vi z3E),(vi z3F),(vi z3G),(vi z3H)],yp z20 (fun x=>Value.agg (y2N x).toArray) (fun x=>Value.agg (yA x).toArray) z2g,yp z23 (fun x=>Value.agg (yD x).toArray) (Value.int .i64) z1k]) ?_ ?_
      ·skip
       refine WC.b<|Ld<|La U<|La U<|Le 135 (y2S (k:=zH) (dflt:=(((none,0),[]):(Option Addr×Nat)×List Int)) y40 Tryz.underlying219 ydX U U U .h7)<|WL.gh (fun _ h=>Hp.yaX zH zqC .h1 h) ?_
       rintro⟨zxD,zxE⟩ zHx
       let R:Value:=(.slice zxD ((yg z1M zH []).length) zxE);refine Ki (i:=135) U (u:=R) (congrArg slv zHx) (Le 136 (yI Tryz.underlying50 U) (La U (WL.nil (Lb (WC.block (WC.y93 (fun(zjq:Nat) (z86:Int) (z3h:Int) (z8F:Int) (z87:Int) (z88:Int) (z75:Int) (z78:Int)=>(y2V z1M zH zf zZ z2g z1k zR zc3 zjq z86 z3h z8F z87 z88 z75 z78=some r)) (fun zjq z86 z3h z8F z87 z88 z75 z78=>[(0,(vp z2V)),(3,(vp z4D)),(6,O),(7,Q),(8,(.map (some z59))),(9,(vi z89)),(15,(vi zH)),(16,(vp zn6)),(17,(vi z86)),(121,P),(122,(vi zH)),(135,R),(136,(vi (((yg z1M zH []).length:Nat):Int))),(137,(vi z3h))]) (fun zjq z86 z3h z8F z87 z88 z75 z78=>[fz z7c,row O 227 1 z8G,row Q 227 1 z8K,row R 3 1 ((yg z1M zH []).flatMap e3),stb z2V 119 [H,F,I,J,D,K,L,G,C,(.map (some z20)),(.map (some z23)),(vi z8F)],stb z4D 121 N,yp z59 (Value.int .i64) slv (y2M z7D),y2o (y2a 3 1 e3) (y86 zH z7D),stb zn6 225 [(vi z87),(vi z88),(vi z75),(vi z78)],yp z20 (fun x=>Value.agg (y2N x).toArray) (fun x=>Value.agg (yA x).toArray) z2g,yp z23 (fun x=>Value.agg (yD x).toArray) (Value.int .i64) z1k]) (fun zjq z86 z3h z8F z87 z88 z75 z78=>zjq) ⟨yx,0,0,z79,zgy.fN,zgy.fD,zgz.fN,zgz.fD⟩ h (.r14 U U U U U U U U U U U U U U) (.s11 .h3 .h3 .h3 .here .h2 .h2 .h2 .here .here .here .here) ?_))))))
       rintro zjq z86 z3h z8F z87 z88 z75 z78 h
       obtain⟨zxu,rfl⟩:=y9H h
       rw[y2V] at h
       refine WC.b<|Ld<|La U<|WL.nil<|Lb<|WC.b<|WC.cond U (fun zxF=>?_)<|fun zxF=>?_
       ·replace h:=yq h zxF
        refine WC.skip<|Lb<|WC.b<|WC.block<|WC.b ?_
        obtain⟨zn7,h⟩:=yn h
        refine Ld<|Kd (fun w hw=>Hp.y1T .h3 hw (by intro hz';have:=zn7;rw[hz'] at this;omega)) ?_
        rintro⟨z16o,rfl⟩
        refine Le 139 (yS y66 U U zn7.1 zn7.2 y2L)<|Le 140 (yc ys U<|y8e .h3<|(y2x (enc:=e3) (l:=yg z1M zH []) (i:=z3h) (sz:=1) (fun _=>U) zn7.1 zn7.2) 0 _ U)<|La U<|WL.nil<|Lb<|WC.b ?_
        obtain⟨z9z,zSe,h⟩:=za h
        obtain⟨zHp,zSf,h⟩:=za h
        obtain⟨zc4,zSg,h⟩:=za h
        refine Lx (fun i=>[11,17,18,20,22].contains i) [y85 zn6 225 [(2,(vi z75)),(3,(vi z78))]] U<|Lf 0 141 U (fun _=>q_m U)<|Lf 1 142 U (fun _=>ya y5v U U)<|Lj 2 143 U (yU (cs:=[(vi z87),(vi z88)]) zg U U<|y3w (s:=2) (.there .h7) U)<|Lf 3 144 U (fun _=>q_m U)<|Lf 4 145 U (fun _=>y1e U)<|Lf 5 146 U (fun _=>ya ydV U U)<|Lj 6 147 U (yc ztw U<|yh .h4 U)<|Lf 7 148 U (fun _=>q_m U)<|Lj 8 149 U (yi z5v U (yk .h5) U)<|Lf 9 150 U (fun _=>yL (v:=(.agg #[(vi<|nth (yg z1M zH []) z3h),(vi zR.fNode),(vi zR.fQ)])) (Lo (l:=[.tmp 148,.tmp 149]) (.r2 U U) [0,1]) (fun _=>by kernel_rfl))<|Lj 10 151 U (y2S (k:=(⟨(nth (yg z1M zH []) z3h),zR⟩:zP)) (dflt:=((⟨0,0⟩:z1):z1)) ztx Tryz.underlying116 zW U U U<|.there<|.there .h7)<|Lf 12 153 U (fun _=>q_m U)<|Lf 13 154 U (fun _=>ya y6m U U)<|L6 14 155 U (Sin.wk (.cons (.there .h7) .nil)<|.stb (.cons U<|.cons U .nil) .nil) (yU (cs:=[(vi z75),(vi z78)]) zg U U<|ybL .here ((.head _))<|(.tail _<|.head _))<|Lf 15 156 U (fun _=>q_m U)<|Lf 16 157 U (fun _=>q_m U) (Ka (i:=11) (dd:=152) U (by kernel_rfl) U U U (.inl ⟨U,(Sin.wk (.cons (.there<|.there<|.there .h7) .nil)<|.stb (.cons U<|.cons U .nil) .nil)⟩) (zb Tryz.call118<|.r4 U U U U) (.s3 .h4 (.there .h7)<|.there .h7) (ccz hz (.s3 .h4 (.there .h7)<|.there .h7) .here fun w pz ho=>Calls.mono (y7n _ _ _ _ _ _ _ _ _ _ _ _ _ _ _ _ _ _ _ _ _ _ (zbV:=119) (zgt:=[]) _ _ _ _ _ (ze6:=(fun(y0:z1) (y1:z1)=>y1q y0 y1)) _ _ _ zSe w pz ((zgA.mono<|(Zle.left _ _).trans (z1d.trans z19)).weak (fun _ _ h=>y1a ((Zle.left _ _).trans (z1d.trans z19)) h)) ((zgB.mono<|(Zle.left _ _).trans (z1d.trans z19)).weak (fun _ _ h=>y1i ((Zle.left _ _).trans (z1d.trans z19)) h)) (zgC.mono<|(Zle.left _ _).trans (z1d.trans z19)) (zew.mono<|(Zle.left _ _).trans (z1d.trans z19)) ((zah.mono<|(Zle.left _ _).trans (z1d.trans z19)).weak (fun _ _ h=>y15 ((Zle.left _ _).trans (z1d.trans z19)) h)) (zgD.mono<|(Zle.left _ _).trans (z1d.trans z19)) ((zgE.mono<|(Zle.left _ _).trans (z1d.trans z19)).weak (fun _ _ h=>y1j ((Zle.left _ _).trans (z1d.trans z19)) h)) (zgF.mono<|(Zle.left _ _).trans (z1d.trans z19)) ((zex.mono<|(Zle.left _ _).trans (z1d.trans z19)).weak (fun _ _ h=>y1t ((Zle.left _ _).trans (z1d.trans z19)) h)) Tryz.call119 (fun w' hz' y0 y1  r  hr=>y6N hr w' hz' ) ho)<|fun _ _ h'=>⟨h'.1,trivial,h'.2⟩) fun _=>Lf 19 160 U (fun _=>ya y5v U U)<|Ka (i:=17) (dd:=158) U (by kernel_rfl) U U U (.inl ⟨U,(Sin.wk (.cons (.there<|.there<|.there .h7) .nil)<|.stb (.cons U<|.cons U .nil) .nil)⟩) (zb Tryz.call121<|.r2 U U) (.s2 .h1 .h1) (yap hz (.s2 .h1 .h1) .h1 (.cons .here .nil) fun w pz ho la=>Calls.mono (y87 zSf w pz ((((zgA.mono<|(Zle.left _ _).trans (z1d.trans z19)).weak (fun _ _ h=>y1a ((Zle.left _ _).trans (z1d.trans z19)) h)).mono (Zle.left _ _)).weak (fun _ _ h=>y1a (Zle.left _ _) h)) ((((zgB.mono<|(Zle.left _ _).trans (z1d.trans z19)).weak (fun _ _ h=>y1i ((Zle.left _ _).trans (z1d.trans z19)) h)).mono (Zle.left _ _)).weak (fun _ _ h=>y1i (Zle.left _ _) h)) ((zgC.mono<|(Zle.left _ _).trans (z1d.trans z19)).mono (Zle.left _ _)) ((zew.mono<|(Zle.left _ _).trans (z1d.trans z19)).mono (Zle.left _ _)) ((((zah.mono<|(Zle.left _ _).trans (z1d.trans z19)).weak (fun _ _ h=>y15 ((Zle.left _ _).trans (z1d.trans z19)) h)).mono (Zle.left _ _)).weak (fun _ _ h=>y15 (Zle.left _ _) h)) ((zgD.mono<|(Zle.left _ _).trans (z1d.trans z19)).mono (Zle.left _ _)) ((((zgE.mono<|(Zle.left _ _).trans (z1d.trans z19)).weak (fun _ _ h=>y1j ((Zle.left _ _).trans (z1d.trans z19)) h)).mono (Zle.left _ _)).weak (fun _ _ h=>y1j (Zle.left _ _) h)) ((zgF.mono<|(Zle.left _ _).trans (z1d.trans z19)).mono (Zle.left _ _)) ((((zex.mono<|(Zle.left _ _).trans (z1d.trans z19)).weak (fun _ _ h=>y1t ((Zle.left _ _).trans (z1d.trans z19)) h)).mono (Zle.left _ _)).weak (fun _ _ h=>y1t (Zle.left _ _) h)) ((la _ (.head _) _).stb) ho)<|fun _ _ h'=>⟨h'.1,trivial,h'.2⟩) ?_)
        intro _
        refine Ka (i:=18) (dd:=159) U (by kernel_rfl) U U U (.inl ⟨U,(Sin.wk (.cons (.there<|.there<|.there .h7) .nil)<|.stb (.cons U<|.cons U .nil) .nil)⟩) (zb Tryz.call118<|.r4 U U U U) (.s3 .h2 .here .here) (ccz hz (.s3 .h2 .here .here) .here fun w pz ho=>Calls.mono (y7n _ _ _ _ _ _ _ _ _ _ _ _ _ _ _ _ _ _ _ _ _ _ (zbV:=119) (zgt:=[]) _ _ _ _ _ (ze6:=(fun(y0:z1) (y1:z1)=>y1q y0 y1)) _ _ _ zSg w pz ((zgA.mono<|(Zle.left _ _).trans (z1d.trans z19)).weak (fun _ _ h=>y1a ((Zle.left _ _).trans (z1d.trans z19)) h)) ((zgB.mono<|(Zle.left _ _).trans (z1d.trans z19)).weak (fun _ _ h=>y1i ((Zle.left _ _).trans (z1d.trans z19)) h)) (zgC.mono<|(Zle.left _ _).trans (z1d.trans z19)) (zew.mono<|(Zle.left _ _).trans (z1d.trans z19)) ((zah.mono<|(Zle.left _ _).trans (z1d.trans z19)).weak (fun _ _ h=>y15 ((Zle.left _ _).trans (z1d.trans z19)) h)) (zgD.mono<|(Zle.left _ _).trans (z1d.trans z19)) ((zgE.mono<|(Zle.left _ _).trans (z1d.trans z19)).weak (fun _ _ h=>y1j ((Zle.left _ _).trans (z1d.trans z19)) h)) (zgF.mono<|(Zle.left _ _).trans (z1d.trans z19)) ((zex.mono<|(Zle.left _ _).trans (z1d.trans z19)).weak (fun _ _ h=>y1t ((Zle.left _ _).trans (z1d.trans z19)) h)) Tryz.call119 (fun w' hz' y0 y1  r  hr=>y6N hr w' hz' ) ho)<|fun _ _ h'=>⟨h'.1,trivial,h'.2⟩) fun _=>WD.yi2 (i:=20) U (by kernel_rfl) U U U (Sin.wk (.cons .here .nil)<|.stb (.cons U<|.cons U .nil) .nil) (y4r (ds:=[(vi z9z.1.fN),(vi z9z.1.fD),(vi z75),(vi z78)]) zA U U U U U (.there<|.there<|.there .h7) U U)<|Lf 21 161 U (fun _=>ya y6m U U)<|Kb (i:=22) U (by kernel_rfl) U U U (by kernel_rfl) (y4r (ds:=[(vi z9z.1.fN),(vi z9z.1.fD),(vi zc4.1.fN),(vi zc4.1.fD)]) zA U U U U U .here U U)<|WD.done (by kernel_rfl)<|Lb ?_
        obtain⟨zSh,h⟩:=yn h
        refine Ld<|La U<|La U<|Le 164 (y1e U)<|Le 165 (ya y6l U U)<|Le 166 (ya y5a U U)<|Le 167 (yc y5p U<|yh .h1 U)<|La U<|L0 (dd:=169) U U (Z:=(Z++z7c)) (Pr:=(p69 (Z++z7c))) y72 U U ((zah.mono<|(Zle.left _ _).trans (z1d.trans z19)).weak (fun _ _ h=>y15 ((Zle.left _ _).trans (z1d.trans z19)) h)) zSh ?_
        rintro z16p z16q zSi z16r ⟨z16s,z16t,rfl,z16u⟩
        refine Le 170 (ya y6x U U)<|Le 171 (yc ys U<|y1c (hz.pv2 .h4) zSi U)<|Le 172 (yaU U U U)<|La U<|WL.nil<|Lt<|Lb<|Ld<|La U<|La U<|WL.nil ?_
        exact WX.round ⟨zxu,(max z86<|(nth zf.fVLs<|nth (yg z1M zH []) z3h).fMax),(i64 (z3h+1)),zc4.2,z9z.1.fN,z9z.1.fD,zc4.1.fN,zc4.1.fD⟩ h (Nat.lt_succ_self _) (.r14 U U U U U U U U U U U U U U)<|.s11 .h4 .h4 .h4 .h4 .h1 .h3 .h3 .h3 .here .here .here
       ·replace h:=yr h zxF
        refine WC.exit<|Lm<|Lm<|Lu<|WX.ghL (fun _ h=>Hp.yfq zqC zHx (.s2 .h3 .h6) h) ?_
        exact Ln ⟨z86,z8F,z87,z88,z75,z78⟩ h (.r11 U U U U U U U U U U U)<|.s10 .h1 .h1 .h1 .h1 .h1 .h1 .here .here .here .here
      ·rintro zeu zc7 z3E z3F z3G z3H h
       replace h:=(zSd zeu zc7 z3E z3F z3G z3H).symm.trans h
       obtain⟨z58,zSj,h⟩:=za h
       obtain⟨zSk,h⟩:=yn h
       obtain⟨zSl,h⟩:=yn h
       refine Lx (fun i=>[17].contains i) [] U<|Lf 0 174 U (fun _=>q_m U)<|Lj 1 175 U (yi z3b U (yk .h7) U)<|Lf 2 176 U (fun _=>q_m U)<|L4 3 177 U (zb Tryz.call80<|.cons U .nil) (ccz hz .nil .here fun w pz ho=>y5y zSj w pz )<|Lf 4 178 U (fun _=>q_m U)<|Lf 5 179 U (fun _=>y1e U)<|Lf 6 180 U (fun _=>ya y6l U U)<|Lf 7 181 U (fun _=>ya y7R U U)<|Lj 8 182 U (yc y7S U<|yh .h3 U)<|Lf 9 183 U (fun _=>q_m U)<|L7 (j:=10) (dd:=184) (by kernel_rfl) U z2j z2k U U (Z:=(Z++z7c)) (Pr:=(fun r x=>r=e62 x)) yaq U U (zew.mono<|(Zle.left _ _).trans (z1d.trans z19)) zSk ?_
       rintro z16v z16w zSm z16x rfl
       refine Lf 11 185 U (fun _=>ya y9c U U)<|Lj 12 186 U (yc ys U<|y1c (hz.pv2 .here) zSm U)<|Lf 13 187 U (fun _=>yL (v:=(.agg #[(vi 1),(vi<|(nth zf.fK zH).fSlow)])) (Lo (l:=[.const (vi 1),.tmp 186]) (.r2 U U) [0,1]) (fun _=>by kernel_rfl))<|Lf 14 188 U (fun _=>yL (v:=(.agg #[(vi z58.fN),(vi z58.fD),(vi 1),(vi<|(nth zf.fK zH).fSlow)])) (Lo (l:=[.tmp 177,.tmp 187]) (.r2 U U) [0,1]) (fun _=>by kernel_rfl)) (WD.new (i:=15) (dd:=189) U (by kernel_rfl) U U U (yM (cs:=([(⟨(⟨z3E,z3F⟩:z1),(⟨z3G,z3H⟩:z1)⟩:z2),(⟨z58,(⟨1,((nth zf.fK zH).fSlow)⟩:z1)⟩:z2)]:List z2).flatMap y1M) z81 (Lo (l:=[.tmp 175,.tmp 188]) (.r2 U U) [0,1]) (fun _=>by kernel_rfl) U (by unfold maxLen;omega)) (fun h'=>absurd h' (by decide)) fun zjr _=>WD.freezeS (ls:=([(⟨(⟨z3E,z3F⟩:z1),(⟨z3G,z3H⟩:z1)⟩:z2),(⟨z58,(⟨1,((nth zf.fK zH).fSlow)⟩:z1)⟩:z2)]:List z2)) .here .here hz (RR.flat (enc:=y1M) (fun _=>U) _) ?_)
       intro zqD zHy zSn
       let A:List Value:=[(.slice (some ⟨zjr,0,none⟩) (([(⟨(⟨z3E,z3F⟩:z1),(⟨z3G,z3H⟩:z1)⟩:z2),(⟨z58,(⟨1,((nth zf.fK zH).fSlow)⟩:z1)⟩:z2)]:List z2).length) 2)];have zHz:RR 1 (y27 (Z++zqD)) A ([([(⟨(⟨z3E,z3F⟩:z1),(⟨z3G,z3H⟩:z1)⟩:z2),(⟨z58,(⟨1,((nth zf.fK zH).fSlow)⟩:z1)⟩:z2)]:List z2)]:List (List z2)):=(RR.cons (r:=A) U (show y27 _ _ _ from⟨_,_,U,zSn⟩) (RR.nil _ _))
       refine WD.new (i:=16) (dd:=190) U (by kernel_rfl) U U U (yM (cs:=[(.slice (some ⟨zjr,0,none⟩) (([(⟨(⟨z3E,z3F⟩:z1),(⟨z3G,z3H⟩:z1)⟩:z2),(⟨z58,(⟨1,((nth zf.fK zH).fSlow)⟩:z1)⟩:z2)]:List z2).length) 2)]) z9h (Lo (l:=[.tmp 189]) (.cons U .nil) [0]) (fun _=>by kernel_rfl) U (by unfold maxLen;omega)) (fun h'=>absurd h' (by decide)) ?_
       intro z16y _
       have zSo:RR 1 (y27 (Z++zqD)) (z8K++A) (z33++([([(⟨(⟨z3E,z3F⟩:z1),(⟨z3G,z3H⟩:z1)⟩:z2),(⟨z58,(⟨1,((nth zf.fK zH).fSlow)⟩:z1)⟩:z2)]:List z2)]:List (List z2))):=RR.app (zxA.weak (fun _ _ h=>y3L zHy h)) zHz
       refine WD.old (i:=17) (dd:=191) U (by kernel_rfl) U U U U (fun _=>(Sin.of .nil)) (y6L (l1:=z33) (l2:=([([(⟨(⟨z3E,z3F⟩:z1),(⟨z3G,z3H⟩:z1)⟩:z2),(⟨z58,(⟨1,((nth zf.fK zH).fSlow)⟩:z1)⟩:z2)]:List z2)]:List (List z2))) (news:=A) (Pr:=(y27 (Z++zqD))) z9h U U .h3 zHz (y3t .here) (y94 U yan) zSl) ?_
       rintro⟨zSp,zSq⟩ _
       refine Lf 18 7 U (fun _=>q_z U)<|WD.done (by kernel_rfl)<|Lt ?_
       exact Ln ⟨(z33++([([(⟨(⟨z3E,z3F⟩:z1),(⟨z3G,z3H⟩:z1)⟩:z2),(⟨z58,(⟨1,((nth zf.fK zH).fSlow)⟩:z1)⟩:z2)]:List z2)]:List (List z2))),zc7,zqD,zSp,zSq,(z8K++A)⟩ ⟨h,zHy,zSo⟩ (.r8 U U U U U U U U)<|.s9 .h2 .h2 .here .h1 .h1 .h1 .h1 .h2 .h2
    ·rintro z9A zc6 zgK zjn zjo zjp ⟨h,zSr,zSs⟩
     replace h:=(zS8 z9A zc6).symm.trans h
     refine Ld<|La U<|La U<|WL.nil ?_
     exact WX.round ⟨zxv,z9A,(i64 (zH+1)),zc6,zgK,zjn,zjo,zjp⟩ ⟨h,(z19.trans zSr),zSs⟩ (Nat.lt_succ_self _) (.r8 U U U U U U U U)<|.a9
   ·replace h:=yr h zxB
    refine WC.exit<|Lm<|Lm<|Lu ?_
    exact Ln ⟨z33,z79,z7c,z8I,z8J,z8K⟩ ⟨h,z19,zxA⟩ (.r3 U U U)<|.s6 .here .here .here .here .h3 .h3
  ·rintro z7C zev zcc zn4 zn5 zey ⟨h,zSt,zxG⟩
   replace h:=(zS7 z7C zev).symm.trans h
   refine WC.b ?_
   obtain⟨zSu,h⟩:=yn h
   refine Ld<|La U<|La U ?_
   have zSv:RR 1 (y27 (Z++zcc)) (z8G++zey) (z3i++z7C):=RR.app (zS6.weak (fun _ _ h=>y3L zSt h)) zxG
   refine WL.fA 195 (y6L (l1:=z3i) (l2:=z7C) (news:=zey) (Pr:=(y27 (Z++zcc))) z9h U U .h1 zxG (y3t .h2) (RR.oc zxG<|fun _ _ h=>p227_oc h) zSu) ?_
   rintro⟨zSw,zSx⟩ _
   refine La U<|La U<|La U<|WL.nil<|Lb<|WC.ret ?_
   obtain rfl:=oJ h
   refine Lh Tryz.results79 (.tmp U<|.tmp U .nil)<|fun w hw=>?_
   exact⟨zcc,zSw,zSx,(z8G++zey),y1R U U,zSv,hw.sub (.s5 .h1 .here .h1 .h1 .h1)⟩
def y5O(zcd:z1):Option Bool:=
 (y1Y zcd).bind fun zxH=>some (zxH&&(decide (zcd.fN≥0)))
theorem yax{Z:Zp}{zcd:z1}{r:Bool}(h:y5O zcd=some r)(w₀:World)(hz:PZ [] w₀ Z):
  Calls Tryz.prog 193 #[(.agg #[(vi zcd.fN),(vi zcd.fD)])] w₀ fun e w'=>e = .returned (.bool r)∧Hp [] w₀ w' []:=by
 unfold y5O at h
 refine L5 Tryz.func193 Tryz.ntmps193 ?_
 refine WC.b<|Ld (Lg 1 (yH (cs:=[(vi zcd.fN),(vi zcd.fD)]) U U) fun z16z _=>La U<|WL.nil<|Lb<|WC.b ?_)
 obtain⟨zxH,zSy,h⟩:=za h
 refine Ld<|Le 3 (yi zg U (yk .here) U)<|Ll 4 (zb Tryz.call130<|.cons U .nil) .nil (cc hz .nil fun w pz ho=>y2T zSy w pz )<|La U<|Lv true 3 5 (B:=zxH&&(decide (zcd.fN≥0))) U U U U U U (fun h=>(y3u h).symm) (fun _ zSz=>?_) ?_
 ·skip
  refine Le 6 (ya y2C U U)<|Le 7 (yc ys U<|yh .here U)<|La U<|La U ?_
  exact Lw (y3v zSz) U U .all
 refine La U<|WL.nil<|Lb<|WC.ret ?_
 obtain rfl:=oJ h
 refine Lh Tryz.results193 (.tmp U .nil)<|fun w hw=>?_
 exact⟨yC U,hw.sub .nil⟩
def y5r(z6l:z2):Option Bool:=
 (y5O z6l.fBurst).bind fun zHA=>(if !zHA then some true else(y5O z6l.fRate).bind fun zHB=>some (!zHB)).bind fun zxI=>some zxI
theorem yeu{Z:Zp}{z6l:z2}{r:Bool}(h:y5r z6l=some r)(w₀:World)(hz:PZ [] w₀ Z):
  Calls Tryz.prog 209 #[(.agg #[(vi z6l.fBurst.fN),(vi z6l.fBurst.fD),(vi z6l.fRate.fN),(vi z6l.fRate.fD)])] w₀ fun e w'=>e = .returned (.bool r)∧Hp [] w₀ w' []:=by
 unfold y5r at h
 refine L5 Tryz.func209 Tryz.ntmps209 ?_
 refine WC.b<|Ld (Lg 1 (yH (cs:=[(vi z6l.fBurst.fN),(vi z6l.fBurst.fD),(vi z6l.fRate.fN),(vi z6l.fRate.fD)]) U U) fun z16A _=>La U<|WL.nil<|Lb<|WC.b ?_)
 obtain⟨zHA,zSA,h⟩:=za h
 obtain⟨zxI,zHC,h⟩:=za h
 refine Ld<|Le 3 (ya y5v U U)<|Le 4 (yU (cs:=[(vi z6l.fBurst.fN),(vi z6l.fBurst.fD)]) zg U U<|y3w (s:=2) .here U)<|Ll 5 (zb Tryz.call193<|.cons U .nil) .nil (cc hz .nil fun w pz ho=>yax zSA w pz )<|La U<|La U<|Lv false 4 7 (B:=zxI) U U U U U U (fun h=>(oJ<|yq zHC h).symm) (fun _ zSB=>?_) ?_
 ·skip
  have zn8:=yr zHC zSB
  obtain⟨zHB,zSC,zn8⟩:=za zn8
  replace zn8:=oJ zn8
  refine Le 8 (ya y6m U U)<|Le 9 (yU (cs:=[(vi z6l.fRate.fN),(vi z6l.fRate.fD)]) zg U U<|y3w (s:=2) .here U)<|Ll 10 (zb Tryz.call193<|.cons U .nil) .nil (cc hz .nil fun w pz ho=>yax zSC w pz )<|La U<|La U ?_
  exact Lw zn8 U U .all
 refine La U<|WL.nil<|Lb<|WC.ret ?_
 obtain rfl:=oJ h
 refine Lh Tryz.results209 (.tmp U .nil)<|fun w hw=>?_
 exact⟨yC U,hw.sub .nil⟩
def y1g(z3I:List z2)(z9B:z2→Option Bool)(zce:Option Int):Nat→Int→Option Int
 | 0,_=>none
 | zxJ+1,z3t=>if decide (z3t<((z3I.length:Nat):Int)) then chk ((0:Int)≤z3t∧z3t<((z3I.length:Nat):Int)) ((z9B (⟨(⟨(((nth z3I z3t).fBurst).fN),(((nth z3I z3t).fBurst).fD)⟩:z1),(⟨(((nth z3I z3t).fRate).fN),(((nth z3I z3t).fRate).fD)⟩:z1)⟩:z2)).bind fun zxK=>if zxK then some z3t else y1g z3I z9B zce zxJ (i64 (z3t+1))) else zce
theorem y5S{n:Nat}{z3I:List z2}{z9B:z2→Option Bool}{zce:Option Int}{z3t:Int}{r:Int}(h:y1g z3I z9B zce n z3t=some r):∃ m,n=m+1:=by
 cases n with
 | zero=>cases h
 | succ m=>exact⟨m,rfl⟩
def y3m(z3I:List z2)(z9B:z2→Option Bool):Option Int:=
 jp0 (some (-1)) fun zce=>y1g z3I z9B zce yx 0
theorem y75(Z:Zp)(zxL:Option Addr)(zxM:Nat)(zgL:FuncId)(zn9:List Value)(z3I:List z2)(z9B:z2→Option Bool)(r:Int)(h:y3m z3I z9B=some r)(w₀:World)(hz:PZ [] w₀ Z)(zSD:ZS Z 4 (fun r x=>r=y1M x) zxL zxM z3I)(zSE:∀ args w,(callFunc zgL args).run Tryz.prog w = .ok (.enter zgL args) w)(zSF:∀ w:World,PZ [] w Z→∀(x0:z2) (r:Bool),z9B x0=some r→Calls Tryz.prog zgL (([(.agg #[(vi x0.fBurst.fN),(vi x0.fBurst.fD),(vi x0.fRate.fN),(vi x0.fRate.fD)])]:List Value)++zn9).toArray w fun e w'=>e = .returned (.bool r)∧Hp [] w w' []):
  Calls Tryz.prog 220 #[(.slice zxL z3I.length zxM),(.func (.func zgL) #[] (zn9).toArray)] w₀ fun e w'=>e = .returned (vi r)∧Hp [] w₀ w' []:=by
 unfold y3m at h
 refine Lz Tryz.func220 Tryz.ntmps220 ?_
 refine WC.b<|Ld<|La U<|WL.nil<|Lb ?_
 obtain⟨zce,zSG,h⟩:=y1G h
 refine L8 ((zce=some r)) ([]) ([]) ?_ ?_
 ·skip
  refine WC.b<|Ld<|La U<|Le 7 (yI Tryz.underlying227 U)<|La U<|WL.nil<|Lb<|WC.block<|L9 (fun(zjs:Nat) (z3t:Int)=>(y1g z3I z9B zce zjs z3t=some r)) (fun zjs z3t=>[(0,(.slice zxL z3I.length zxM)),(1,(.func (.func zgL) #[] (zn9).toArray)),(7,(vi ((z3I.length:Nat):Int))),(8,(vi z3t))]) (fun zjs z3t=>[]) (fun zjs z3t=>zjs) ⟨yx,0⟩ h (.r4 U U U U) .nil ?_
  rintro zjs z3t h
  obtain⟨zxJ,rfl⟩:=y5S h
  rw[y1g] at h
  refine WC.b<|Ld<|La U<|WL.nil<|Lb<|WC.b<|WC.cond U (fun zxN=>?_)<|fun zxN=>?_
  ·replace h:=yq h zxN
   refine WC.skip<|Lb<|WC.b<|WC.block<|WC.b<|Ld<|La U<|La U<|WL.nil<|Lb<|WC.b ?_
   obtain⟨zSH,h⟩:=yn h
   obtain⟨zxK,zSI,h⟩:=za h
   refine Ld<|La U<|La U<|La U<|L0 (dd:=14) U U (Z:=Z) (Pr:=(fun r x=>r=y1M x)) z81 U U zSD zSH ?_
   rintro z16B z16C zSJ z16D rfl
   refine Le 15 (yi z3b U (y2l hz.pv zSJ) U)<|Ll 16 (y2J (l:=[.tmp 15]) (f:=zgL) (caps:=zn9) zSE U<|.cons U .nil) .nil (fun w hw=>zSF w (hz.now hw) (⟨(⟨(((nth z3I z3t).fBurst).fN),(((nth z3I z3t).fBurst).fD)⟩:z1),(⟨(((nth z3I z3t).fRate).fN),(((nth z3I z3t).fRate).fD)⟩:z1)⟩:z2) zxK  zSI)<|WL.nil<|Lb<|WC.cond U (fun zxO=>?_)<|fun zxO=>?_
   ·replace h:=yq h zxO
    refine WC.b<|Ld<|La U<|La U<|WL.nil<|Lb<|WC.ret<|Lq<|Li<|Li<|Lq<|Li ?_
    obtain rfl:=oJ h
    refine Lh Tryz.results220 (.tmp U .nil)<|fun w hw=>?_
    exact⟨yC U,hw.sub .nil⟩
   ·replace h:=yr h zxO
    refine WC.skip<|Lt<|Lb<|Ld<|La U<|La U<|WL.nil ?_
    exact WX.round ⟨zxJ,(i64 (z3t+1))⟩ h (Nat.lt_succ_self _) (.r4 U U U U) .nil
  ·replace h:=yr h zxN
   refine WC.exit<|Lm<|Lm<|Lu ?_
   exact Ln () h .nil .nil
 ·rintro  h
  replace h:=zSG.symm.trans h
  refine WC.b<|Ld<|La U<|WL.nil<|Lb<|WC.ret ?_
  obtain rfl:=oJ h
  refine Lh Tryz.results220 (.tmp U .nil)<|fun w hw=>?_
  exact⟨yC U,hw.sub .nil⟩
def y1A(zna:List z2)(zgM:z2→Option Bool):Option Bool:=
 (y3m zna zgM).bind fun zHD=>some (decide (zHD≥0))
theorem y4B(Z:Zp)(zHE:Option Addr)(zHF:Nat)(zgN:FuncId)(znb:List Value)(zna:List z2)(zgM:z2→Option Bool)(r:Bool)(h:y1A zna zgM=some r)(w₀:World)(hz:PZ [] w₀ Z)(zSK:ZS Z 4 (fun r x=>r=y1M x) zHE zHF zna)(zSL:∀ args w,(callFunc zgN args).run Tryz.prog w = .ok (.enter zgN args) w)(zSM:∀ w:World,PZ [] w Z→∀(x0:z2) (r:Bool),zgM x0=some r→Calls Tryz.prog zgN (([(.agg #[(vi x0.fBurst.fN),(vi x0.fBurst.fD),(vi x0.fRate.fN),(vi x0.fRate.fD)])]:List Value)++znb).toArray w fun e w'=>e = .returned (.bool r)∧Hp [] w w' []):
  Calls Tryz.prog 208 #[(.slice zHE zna.length zHF),(.func (.func zgN) #[] (znb).toArray)] w₀ fun e w'=>e = .returned (.bool r)∧Hp [] w₀ w' []:=by
 unfold y1A at h
 refine Lz Tryz.func208 Tryz.ntmps208 ?_
 refine WC.b<|Ld<|La U<|WL.nil<|Lb<|WC.b ?_
 obtain⟨zHD,zSN,h⟩:=za h
 refine Ld<|La U<|La U<|Ll 7 (zb Tryz.call220<|.r2 U U) .nil (cc hz .nil fun w pz ho=>y75 _ _ _ (zgL:=zgN) (zn9:=znb) _ (z9B:=zgM) _ zSN w pz zSK zSL zSM)<|La U<|La U<|WL.nil<|Lb<|WC.ret ?_
 obtain rfl:=oJ h
 refine Lh Tryz.results208 (.tmp U .nil)<|fun w hw=>?_
 exact⟨yC U,hw.sub .nil⟩
def y54(zcf:List z2):Option Bool:=
 (if (decide (((zcf.length:Nat):Int)≥1))&&(decide (((zcf.length:Nat):Int)≤32)) then(y1A zcf (fun(y0:z2)=>y5r y0)).bind fun zHG=>some (!zHG) else some false).bind fun zxP=>some zxP
theorem y8k{Z:Zp}{zHH:Option Addr}{zHI:Nat}{zcf:List z2}{r:Bool}(h:y54 zcf=some r)(w₀:World)(hz:PZ [] w₀ Z)(zSO:ZS Z 4 (fun r x=>r=y1M x) zHH zHI zcf):
  Calls Tryz.prog 192 #[(.slice zHH zcf.length zHI)] w₀ fun e w'=>e = .returned (.bool r)∧Hp [] w₀ w' []:=by
 unfold y54 at h
 refine L5 Tryz.func192 Tryz.ntmps192 ?_
 refine WC.b<|Ld<|La U<|WL.nil<|Lb<|WC.b ?_
 obtain⟨zxP,zHJ,h⟩:=za h
 refine Ld<|La U<|Le 4 (yI Tryz.underlying227 U)<|La U<|La U<|Lv true 3 6 (B:=(decide (((zcf.length:Nat):Int)≥1))&&(decide (((zcf.length:Nat):Int)≤32))) U U U U U U (fun h=>(y3u h).symm) (fun _ zSP=>?_) ?_
 ·skip
  refine La U<|Le 8 (yI Tryz.underlying227 U)<|La U<|La U ?_
  exact Lw (y3v zSP) U U .all
 refine La U<|Lv true 3 11 (B:=zxP) U U U U U U (fun h=>(oJ<|yr zHJ h).symm) (fun _ zSQ=>?_) ?_
 ·skip
  have znc:=yq zHJ zSQ
  obtain⟨zHG,zSR,znc⟩:=za znc
  replace znc:=oJ znc
  refine La U<|Ll 13 (zb Tryz.call208<|.r2 U U) .nil (cc hz .nil fun w pz ho=>y4B _ _ _ (zgN:=209) (znb:=[]) _ (zgM:=(fun(y0:z2)=>y5r y0)) _ zSR w pz zSO Tryz.call209<|fun w' hz' y0  r  hr=>yeu hr w' hz' )<|La U<|La U ?_
  exact Lw znc U U .all
 refine La U<|WL.nil<|Lb<|WC.ret ?_
 obtain rfl:=oJ h
 refine Lh Tryz.results192 (.tmp U .nil)<|fun w hw=>?_
 exact⟨yC U,hw.sub .nil⟩
def y1B(znd:List z2):Option Bool:=
 (y54 znd).bind fun zHK=>some (!zHK)
theorem y7o{Z:Zp}{zHL:Option Addr}{zHM:Nat}{znd:List z2}{r:Bool}(h:y1B znd=some r)(w₀:World)(hz:PZ [] w₀ Z)(zSS:ZS Z 4 (fun r x=>r=y1M x) zHL zHM znd):
  Calls Tryz.prog 197 #[(.slice zHL znd.length zHM)] w₀ fun e w'=>e = .returned (.bool r)∧Hp [] w₀ w' []:=by
 unfold y1B at h
 refine L5 Tryz.func197 Tryz.ntmps197 ?_
 refine WC.b<|Ld<|La U<|WL.nil<|Lb<|WC.b ?_
 obtain⟨zHK,zST,h⟩:=za h
 refine Ld<|La U<|Ll 4 (zb Tryz.call192<|.cons U .nil) .nil (cc hz .nil fun w pz ho=>y8k zST w pz zSS)<|La U<|La U<|WL.nil<|Lb<|WC.ret ?_
 obtain rfl:=oJ h
 refine Lh Tryz.results197 (.tmp U .nil)<|fun w hw=>?_
 exact⟨yC U,hw.sub .nil⟩
def y17(z6m:List (List z2))(z9C:(List z2)→Option Bool)(zcg:Option Int):Nat→Int→Option Int
 | 0,_=>none
 | zxQ+1,z5S=>if decide (z5S<((z6m.length:Nat):Int)) then chk ((0:Int)≤z5S∧z5S<((z6m.length:Nat):Int)) ((z9C (nth z6m z5S)).bind fun zxR=>if zxR then some z5S else y17 z6m z9C zcg zxQ (i64 (z5S+1))) else zcg
theorem y5Y{n:Nat}{z6m:List (List z2)}{z9C:(List z2)→Option Bool}{zcg:Option Int}{z5S:Int}{r:Int}(h:y17 z6m z9C zcg n z5S=some r):∃ m,n=m+1:=by
 cases n with
 | zero=>cases h
 | succ m=>exact⟨m,rfl⟩
def y2v(z6m:List (List z2))(z9C:(List z2)→Option Bool):Option Int:=
 jp0 (some (-1)) fun zcg=>y17 z6m z9C zcg yx 0
theorem y7h(Z:Zp)(zxS:Option Addr)(zxT:Nat)(zgO:FuncId)(zne:List Value)(z6m:List (List z2))(z9C:(List z2)→Option Bool)(r:Int)(h:y2v z6m z9C=some r)(w₀:World)(hz:PZ [] w₀ Z)(zSU:ZS Z 1 (y27 Z) zxS zxT z6m)(zSV:∀ args w,(callFunc zgO args).run Tryz.prog w = .ok (.enter zgO args) w)(zSW:∀ w:World,PZ [] w Z→∀(x0:List z2) (ao0:Option Addr) (cap0:Nat) (r:Bool),ZS Z 4 (fun r x=>r=y1M x) ao0 cap0 x0→z9C x0=some r→Calls Tryz.prog zgO (([(.slice ao0 x0.length cap0)]:List Value)++zne).toArray w fun e w'=>e = .returned (.bool r)∧Hp [] w w' []):
  Calls Tryz.prog 211 #[(.slice zxS z6m.length zxT),(.func (.func zgO) #[] (zne).toArray)] w₀ fun e w'=>e = .returned (vi r)∧Hp [] w₀ w' []:=by
 unfold y2v at h
 refine Lz Tryz.func211 Tryz.ntmps211 ?_
 refine WC.b<|Ld<|La U<|WL.nil<|Lb ?_
 obtain⟨zcg,zSX,h⟩:=y1G h
 refine L8 ((zcg=some r)) ([]) ([]) ?_ ?_
 ·skip
  refine WC.b<|Ld<|La U<|Le 7 (yI Tryz.underlying171 U)<|La U<|WL.nil<|Lb<|WC.block<|L9 (fun(zjt:Nat) (z5S:Int)=>(y17 z6m z9C zcg zjt z5S=some r)) (fun zjt z5S=>[(0,(.slice zxS z6m.length zxT)),(1,(.func (.func zgO) #[] (zne).toArray)),(7,(vi ((z6m.length:Nat):Int))),(8,(vi z5S))]) (fun zjt z5S=>[]) (fun zjt z5S=>zjt) ⟨yx,0⟩ h (.r4 U U U U) .nil ?_
  rintro zjt z5S h
  obtain⟨zxQ,rfl⟩:=y5Y h
  rw[y17] at h
  refine WC.b<|Ld<|La U<|WL.nil<|Lb<|WC.b<|WC.cond U (fun zxU=>?_)<|fun zxU=>?_
  ·replace h:=yq h zxU
   refine WC.skip<|Lb<|WC.b<|WC.block<|WC.b<|Ld<|La U<|La U<|WL.nil<|Lb<|WC.b ?_
   obtain⟨zSY,h⟩:=yn h
   obtain⟨zxR,zSZ,h⟩:=za h
   refine Ld<|La U<|La U<|La U<|L0 (dd:=14) U U (Z:=Z) (Pr:=(y27 Z)) z9h U U zSU zSY ?_
   rintro z16E z16F zT0 z16G ⟨zT1,zT2,rfl,zT3⟩
   refine Le 15 (yc zdI U<|y3C hz.pv zT0 U)<|Ll 16 (y2J (l:=[.tmp 15]) (f:=zgO) (caps:=zne) zSV U<|.cons U .nil) .nil (fun w hw=>zSW w (hz.now hw) (nth z6m z5S) zT1 zT2 zxR zT3 zSZ)<|WL.nil<|Lb<|WC.cond U (fun zxV=>?_)<|fun zxV=>?_
   ·replace h:=yq h zxV
    refine WC.b<|Ld<|La U<|La U<|WL.nil<|Lb<|WC.ret<|Lq<|Li<|Li<|Lq<|Li ?_
    obtain rfl:=oJ h
    refine Lh Tryz.results211 (.tmp U .nil)<|fun w hw=>?_
    exact⟨yC U,hw.sub .nil⟩
   ·replace h:=yr h zxV
    refine WC.skip<|Lt<|Lb<|Ld<|La U<|La U<|WL.nil ?_
    exact WX.round ⟨zxQ,(i64 (z5S+1))⟩ h (Nat.lt_succ_self _) (.r4 U U U U) .nil
  ·replace h:=yr h zxU
   refine WC.exit<|Lm<|Lm<|Lu ?_
   exact Ln () h .nil .nil
 ·rintro  h
  replace h:=zSX.symm.trans h
  refine WC.b<|Ld<|La U<|WL.nil<|Lb<|WC.ret ?_
  obtain rfl:=oJ h
  refine Lh Tryz.results211 (.tmp U .nil)<|fun w hw=>?_
  exact⟨yC U,hw.sub .nil⟩
def y1k(znf:List (List z2))(zgP:(List z2)→Option Bool):Option Bool:=
 (y2v znf zgP).bind fun zHN=>some (decide (zHN≥0))
theorem y4O(Z:Zp)(zHO:Option Addr)(zHP:Nat)(zgQ:FuncId)(zng:List Value)(znf:List (List z2))(zgP:(List z2)→Option Bool)(r:Bool)(h:y1k znf zgP=some r)(w₀:World)(hz:PZ [] w₀ Z)(zT4:ZS Z 1 (y27 Z) zHO zHP znf)(zT5:∀ args w,(callFunc zgQ args).run Tryz.prog w = .ok (.enter zgQ args) w)(zT6:∀ w:World,PZ [] w Z→∀(x0:List z2) (ao0:Option Addr) (cap0:Nat) (r:Bool),ZS Z 4 (fun r x=>r=y1M x) ao0 cap0 x0→zgP x0=some r→Calls Tryz.prog zgQ (([(.slice ao0 x0.length cap0)]:List Value)++zng).toArray w fun e w'=>e = .returned (.bool r)∧Hp [] w w' []):
  Calls Tryz.prog 196 #[(.slice zHO znf.length zHP),(.func (.func zgQ) #[] (zng).toArray)] w₀ fun e w'=>e = .returned (.bool r)∧Hp [] w₀ w' []:=by
 unfold y1k at h
 refine Lz Tryz.func196 Tryz.ntmps196 ?_
 refine WC.b<|Ld<|La U<|WL.nil<|Lb<|WC.b ?_
 obtain⟨zHN,zT7,h⟩:=za h
 refine Ld<|La U<|La U<|Ll 7 (zb Tryz.call211<|.r2 U U) .nil (cc hz .nil fun w pz ho=>y7h _ _ _ (zgO:=zgQ) (zne:=zng) _ (z9C:=zgP) _ zT7 w pz zT4 zT5 zT6)<|La U<|La U<|WL.nil<|Lb<|WC.ret ?_
 obtain rfl:=oJ h
 refine Lh Tryz.results196 (.tmp U .nil)<|fun w hw=>?_
 exact⟨yC U,hw.sub .nil⟩
def y5e(z4o:zSv):Option Bool:=
 (y1Y z4o.fRate).bind fun zxW=>(if zxW&&(decide (z4o.fRate.fN>0)) then(y1Y z4o.fL).bind fun zHQ=>some zHQ else some false).bind fun zqE=>some (zqE&&(decide (z4o.fL.fN≥0)))
theorem yay{Z:Zp}{z4o:zSv}{r:Bool}(h:y5e z4o=some r)(w₀:World)(hz:PZ [] w₀ Z):
  Calls Tryz.prog 198 #[(.agg #[(vi z4o.fRate.fN),(vi z4o.fRate.fD),(vi z4o.fL.fN),(vi z4o.fL.fD)])] w₀ fun e w'=>e = .returned (.bool r)∧Hp [] w₀ w' []:=by
 unfold y5e at h
 refine L5 Tryz.func198 Tryz.ntmps198 ?_
 refine WC.b<|Ld (Lg 1 (yH (cs:=[(vi z4o.fRate.fN),(vi z4o.fRate.fD),(vi z4o.fL.fN),(vi z4o.fL.fD)]) U U) fun z16H _=>La U<|WL.nil<|Lb<|WC.b ?_)
 obtain⟨zxW,zT8,h⟩:=za h
 obtain⟨zqE,zHR,h⟩:=za h
 refine Ld<|Le 3 (ya y9f U U)<|Le 4 (yU (cs:=[(vi z4o.fRate.fN),(vi z4o.fRate.fD)]) zg U U<|y3w (s:=2) .here U)<|Ll 5 (zb Tryz.call130<|.cons U .nil) .nil (cc hz .nil fun w pz ho=>y2T zT8 w pz )<|La U<|Lv true 4 6 (B:=zxW&&(decide (z4o.fRate.fN>0))) U U U U U U (fun h=>(y3u h).symm) (fun _ zT9=>?_) ?_
 ·skip
  refine Le 7 (ya y9f U U)<|Le 8 (ya y2C U U)<|Le 9 (yc ys U<|yh .here U)<|La U<|La U ?_
  exact Lw (y3v zT9) U U .all
 refine La U<|Lv true 3 12 (B:=zqE) U U U U U U (fun h=>(oJ<|yr zHR h).symm) (fun _ zTa=>?_) ?_
 ·skip
  have znh:=yq zHR zTa
  obtain⟨zHQ,zTb,znh⟩:=za znh
  replace znh:=oJ znh
  refine Le 13 (ya y9g U U)<|Le 14 (yU (cs:=[(vi z4o.fL.fN),(vi z4o.fL.fD)]) zg U U<|y3w (s:=2) .here U)<|Ll 15 (zb Tryz.call130<|.cons U .nil) .nil (cc hz .nil fun w pz ho=>y2T zTb w pz )<|La U ?_
  exact Lw znh U U .all
 refine La U<|Lv true 4 17 (B:=zqE&&(decide (z4o.fL.fN≥0))) U U U U U U (fun h=>(y3u h).symm) (fun _ zTc=>?_) ?_
 ·skip
  refine Le 18 (ya y9g U U)<|Le 19 (ya y2C U U)<|Le 20 (yc ys U<|yh .here U)<|La U<|La U ?_
  exact Lw (y3v zTc) U U .all
 refine La U<|WL.nil<|Lb<|WC.ret ?_
 obtain rfl:=oJ h
 refine Lh Tryz.results198 (.tmp U .nil)<|fun w hw=>?_
 exact⟨yC U,hw.sub .nil⟩
def y1x(zni:Int):Option z1:=
 some (⟨zni,1⟩:z1)
theorem y3k{Z:Zp}{zni:Int}{r:z1}(h:y1x zni=some r)(w₀:World)(hz:PZ [] w₀ Z):
  Calls Tryz.prog 191 #[(vi zni)] w₀ fun e w'=>e = .returned (.agg #[(vi r.fN),(vi r.fD)])∧Hp [] w₀ w' []:=by
 unfold y1x at h
 refine L5 Tryz.func191 Tryz.ntmps191 ?_
 refine WC.b<|Ld (Lg 2 (yv (cs:=[(vi 0),(vi 0)]) zW U) fun z16I _=>WL.nil<|Lb<|WC.b<|Ld<|La U<|Le 4 (yL (v:=(.agg #[(vi zni),(vi 1)])) (Lo (l:=[.tmp 3,.const (vi 1)]) (.r2 U U) [0,1]) (fun _=>by kernel_rfl))<|Lk U U (yl zA U U U .here U U U)<|WL.nil<|Lb<|WC.ret ?_)
 obtain rfl:=oJ h
 refine Lh Tryz.results191 (.agg U zg U (yk .here) .nil)<|fun w hw=>?_
 exact⟨yC U,hw.sub .nil⟩
def y3d  : Option z1:=
 (y1x 0).bind fun zHS=>some zHS
theorem y4S{Z:Zp}{r:z1}(h:y3d=some r)(w₀:World)(hz:PZ [] w₀ Z):
  Calls Tryz.prog 161 #[] w₀ fun e w'=>e = .returned (.agg #[(vi r.fN),(vi r.fD)])∧Hp [] w₀ w' []:=by
 unfold y3d at h
 refine Calls.on0 Tryz.func161 Tryz.ntmps161 ?_
 refine WC.b<|Ld (Lg 0 (yv (cs:=[(vi 0),(vi 0)]) zW U) fun z16J _=>WL.nil<|Lb<|WC.b ?_)
 obtain⟨zHS,zTd,h⟩:=za h
 refine Ld<|Ll 1 (zb Tryz.call191<|.cons U .nil) .nil (cc hz .nil fun w pz ho=>y3k zTd w pz )<|Lk U U (yl zA U U U .here U U U)<|WL.nil<|Lb<|WC.ret ?_
 obtain rfl:=oJ h
 refine Lh Tryz.results161 (.agg U zg U (yk .here) .nil)<|fun w hw=>?_
 exact⟨yC U,hw.sub .nil⟩
def y1r(z3J:List z2)(z3K:z2)(zch:Option Int):Nat→Int→Option Int
 | 0,_=>none
 | zxX+1,z3u=>if decide (z3u<((z3J.length:Nat):Int)) then chk ((0:Int)≤z3u∧z3u<((z3J.length:Nat):Int)) (if decide (z3K=(⟨(⟨(((nth z3J z3u).fBurst).fN),(((nth z3J z3u).fBurst).fD)⟩:z1),(⟨(((nth z3J z3u).fRate).fN),(((nth z3J z3u).fRate).fD)⟩:z1)⟩:z2)) then some z3u else y1r z3J z3K zch zxX (i64 (z3u+1))) else zch
theorem y6q{n:Nat}{z3J:List z2}{z3K:z2}{zch:Option Int}{z3u:Int}{r:Int}(h:y1r z3J z3K zch n z3u=some r):∃ m,n=m+1:=by
 cases n with
 | zero=>cases h
 | succ m=>exact⟨m,rfl⟩
def y3W(z3J:List z2)(z3K:z2):Option Int:=
 jp0 (some (-1)) fun zch=>y1r z3J z3K zch yx 0
theorem y7Y{Z:Zp}{zxY:Option Addr}{zxZ:Nat}{z3J:List z2}{z3K:z2}{r:Int}(h:y3W z3J z3K=some r)(w₀:World)(hz:PZ [] w₀ Z)(zTe:ZS Z 4 (fun r x=>r=y1M x) zxY zxZ z3J):
  Calls Tryz.prog 228 #[(.slice zxY z3J.length zxZ),(.agg #[(vi z3K.fBurst.fN),(vi z3K.fBurst.fD),(vi z3K.fRate.fN),(vi z3K.fRate.fD)])] w₀ fun e w'=>e = .returned (vi r)∧Hp [] w₀ w' []:=by
 unfold y3W at h
 refine Lz Tryz.func228 Tryz.ntmps228 ?_
 let A:List Value:=[(vi z3K.fBurst.fN),(vi z3K.fBurst.fD),(vi z3K.fRate.fN),(vi z3K.fRate.fD)];refine WC.b (Ld (Lg 3 (yH (cs:=A) U U) ?_))
 intro zHT _
 refine La U<|WL.nil<|Lb ?_
 obtain⟨zch,zTf,h⟩:=y1G h
 refine L8 ((zch=some r)) ([]) ([]) ?_ ?_
 ·skip
  refine WC.b<|Ld<|La U<|Le 7 (yI Tryz.underlying227 U)<|La U<|WL.nil<|Lb<|WC.block<|L9 (fun(zju:Nat) (z3u:Int)=>(y1r z3J z3K zch zju z3u=some r)) (fun zju z3u=>[(0,(.slice zxY z3J.length zxZ)),(3,(vp zHT)),(7,(vi ((z3J.length:Nat):Int))),(8,(vi z3u))]) (fun zju z3u=>[stb zHT 225 A]) (fun zju z3u=>zju) ⟨yx,0⟩ h (.r4 U U U U) (.cons .here .nil) ?_
  rintro zju z3u h
  obtain⟨zxX,rfl⟩:=y6q h
  rw[y1r] at h
  refine WC.b<|Ld<|La U<|WL.nil<|Lb<|WC.b<|WC.cond U (fun zy0=>?_)<|fun zy0=>?_
  ·replace h:=yq h zy0
   refine WC.skip<|Lb<|WC.b<|WC.block<|WC.b<|Ld<|La U<|La U<|WL.nil<|Lb<|WC.b ?_
   obtain⟨zTg,h⟩:=yn h
   refine Lx (fun i=>[].contains i) [] U<|Lj 0 11 U (yi z3b U (yk .here) U)<|Lf 1 12 U (fun _=>q_m U)<|Lf 2 13 U (fun _=>q_m U)<|L7 (j:=3) (dd:=14) (by kernel_rfl) U z2j z2k U U (Z:=Z) (Pr:=(fun r x=>r=y1M x)) z81 U U zTe zTg ?_
   rintro z16K z16L zTh z16M rfl
   refine Lj 4 15 U (yi z3b U (y2l hz.pv zTh) U)<|Lf 5 16 U (fun _=>y96 (enc:=y1M) (a:=z3K) (b:=(⟨(⟨(((nth z3J z3u).fBurst).fN),(((nth z3J z3u).fBurst).fD)⟩:z1),(⟨(((nth z3J z3u).fRate).fN),(((nth z3J z3u).fRate).fD)⟩:z1)⟩:z2)) zEb U U)<|WD.done (by kernel_rfl)<|Lb<|WC.cond U (fun zy1=>?_)<|fun zy1=>?_
   ·replace h:=yq h zy1
    refine WC.b<|Ld<|La U<|La U<|WL.nil<|Lb<|WC.ret<|Lq<|Li<|Li<|Lq<|Li ?_
    obtain rfl:=oJ h
    refine Lh Tryz.results228 (.tmp U .nil)<|fun w hw=>?_
    exact⟨yC U,hw.sub .nil⟩
   ·replace h:=yr h zy1
    refine WC.skip<|Lt<|Lb<|Ld<|La U<|La U<|WL.nil ?_
    exact WX.round ⟨zxX,(i64 (z3u+1))⟩ h (Nat.lt_succ_self _) (.r4 U U U U)<|.cons .here .nil
  ·replace h:=yr h zy0
   refine WC.exit<|Lm<|Lm<|Lu ?_
   exact Ln () h .nil .nil
 ·rintro  h
  replace h:=zTf.symm.trans h
  refine WC.b<|Ld<|La U<|WL.nil<|Lb<|WC.ret ?_
  obtain rfl:=oJ h
  refine Lh Tryz.results228 (.tmp U .nil)<|fun w hw=>?_
  exact⟨yC U,hw.sub .nil⟩
def y2w(znj:List z2)(z9D:z2):Option Bool:=
 (y3W znj z9D).bind fun zHU=>some (decide (zHU≥0))
theorem y7i{Z:Zp}{zHV:Option Addr}{zHW:Nat}{znj:List z2}{z9D:z2}{r:Bool}(h:y2w znj z9D=some r)(w₀:World)(hz:PZ [] w₀ Z)(zTi:ZS Z 4 (fun r x=>r=y1M x) zHV zHW znj):
  Calls Tryz.prog 221 #[(.slice zHV znj.length zHW),(.agg #[(vi z9D.fBurst.fN),(vi z9D.fBurst.fD),(vi z9D.fRate.fN),(vi z9D.fRate.fD)])] w₀ fun e w'=>e = .returned (.bool r)∧Hp [] w₀ w' []:=by
 unfold y2w at h
 refine Lz Tryz.func221 Tryz.ntmps221 ?_
 refine WC.b<|Ld (Lg 3 (yH (cs:=[(vi z9D.fBurst.fN),(vi z9D.fBurst.fD),(vi z9D.fRate.fN),(vi z9D.fRate.fD)]) U U) fun z16N _=>La U<|WL.nil<|Lb<|WC.b ?_)
 obtain⟨zHU,zTj,h⟩:=za h
 refine Ld<|La U<|Le 6 (yi z3b U (yk .here) U)<|Ll 7 (zb Tryz.call228<|.r2 U U) .nil (cc hz .nil fun w pz ho=>y7Y zTj w pz zTi)<|La U<|La U<|WL.nil<|Lb<|WC.ret ?_
 obtain rfl:=oJ h
 refine Lh Tryz.results221 (.tmp U .nil)<|fun w hw=>?_
 exact⟨yC U,hw.sub .nil⟩
def y1v(z9E:z1)(z9F:z1):Option Int:=
 (y1Y z9E).bind fun zHX=>(if !zHX then some true else(y1Y z9F).bind fun zHY=>some (!zHY)).bind fun zy2=>if zy2 then some 0 else if decide ((i64 (z9E.fN*z9F.fD))<(i64 (z9F.fN*z9E.fD))) then some (-1) else if decide ((i64 (z9E.fN*z9F.fD))>(i64 (z9F.fN*z9E.fD))) then some 1 else some 0
theorem y55{Z:Zp}{z9E:z1}{z9F:z1}{r:Int}(h:y1v z9E z9F=some r)(w₀:World)(hz:PZ [] w₀ Z):
  Calls Tryz.prog 129 #[(.agg #[(vi z9E.fN),(vi z9E.fD)]),(.agg #[(vi z9F.fN),(vi z9F.fD)])] w₀ fun e w'=>e = .returned (vi r)∧Hp [] w₀ w' []:=by
 unfold y1v at h
 refine Lz Tryz.func129 Tryz.ntmps129 ?_
 refine WC.b<|Ld (Lg 2 (yH (cs:=[(vi z9E.fN),(vi z9E.fD)]) U U) fun z16O _=>Lg 3 (yH (cs:=[(vi z9F.fN),(vi z9F.fD)]) U U) fun z16P _=>La U<|WL.nil<|Lb<|WC.b<|WC.b ?_)
 obtain⟨zHX,zTk,h⟩:=za h
 obtain⟨zy2,zHZ,h⟩:=za h
 refine Ld<|Le 7 (yi zg U (yk .h1) U)<|Ll 8 (zb Tryz.call130<|.cons U .nil) .nil (cc hz .nil fun w pz ho=>y2T zTk w pz )<|La U<|La U<|Lv false 3 10 (B:=zy2) U U U U U U (fun h=>(oJ<|yq zHZ h).symm) (fun _ zTl=>?_) ?_
 ·skip
  have znk:=yr zHZ zTl
  obtain⟨zHY,zTm,znk⟩:=za znk
  replace znk:=oJ znk
  refine Le 11 (yi zg U (yk .here) U)<|Ll 12 (zb Tryz.call130<|.cons U .nil) .nil (cc hz .nil fun w pz ho=>y2T zTm w pz )<|La U<|La U ?_
  exact Lw znk U U .all
 refine WL.nil<|Lb<|WC.cond U (fun zy3=>?_)<|fun zy3=>?_
 ·replace h:=yq h zy3
  refine WC.b<|Ld<|La U<|WL.nil<|Lb<|WC.ret<|Li ?_
  obtain rfl:=oJ h
  refine Lh Tryz.results129 (.tmp U .nil)<|fun w hw=>?_
  exact⟨yC U,hw.sub .nil⟩
 ·replace h:=yr h zy3
  refine WC.skip<|Lb<|WC.b<|WC.b<|Lx (fun i=>[].contains i) [] U<|Lf 0 15 U (fun _=>ya y2C U U)<|Lj 1 16 U (yc ys U<|yh .h1 U)<|Lf 2 17 U (fun _=>ya y37 U U)<|Lj 3 18 U (yc ys U<|yh .here U)<|Lf 4 19 U (fun _=>y7k U U U)<|Lf 5 20 U (fun _=>ya y2C U U)<|Lj 6 21 U (yc ys U<|yh .here U)<|Lf 7 22 U (fun _=>ya y37 U U)<|Lj 8 23 U (yc ys U<|yh .h1 U)<|Lf 9 24 U (fun _=>y7k U U U)<|Lf 10 5 U (fun _=>q_z U)<|Lf 11 6 U (fun _=>q_z U)<|WD.done (by kernel_rfl)<|Lb<|WC.block<|WC.b<|Ld<|La U<|La U<|La U<|La U<|WL.nil<|Lb<|WC.cond U (fun zy4=>?_)<|fun zy4=>?_
  ·replace h:=yq h zy4
   refine WC.b<|Ld<|La U<|WL.nil<|Lb<|WC.ret<|Lq<|Li ?_
   obtain rfl:=oJ h
   refine Lh Tryz.results129 (.tmp U .nil)<|fun w hw=>?_
   exact⟨yC U,hw.sub .nil⟩
  ·replace h:=yr h zy4
   refine WC.b<|Ld<|La U<|La U<|La U<|La U<|WL.nil<|Lb<|WC.cond U (fun zy5=>?_)<|fun zy5=>?_
   ·replace h:=yq h zy5
    refine WC.b<|Ld<|La U<|WL.nil<|Lb<|WC.ret<|Lq<|Li ?_
    obtain rfl:=oJ h
    refine Lh Tryz.results129 (.tmp U .nil)<|fun w hw=>?_
    exact⟨yC U,hw.sub .nil⟩
   ·replace h:=yr h zy5
    refine WC.skip<|Lt<|Lb<|WC.b<|Ld<|La U<|WL.nil<|Lb<|WC.ret ?_
    obtain rfl:=oJ h
    refine Lh Tryz.results129 (.tmp U .nil)<|fun w hw=>?_
    exact⟨yC U,hw.sub .nil⟩
def y5C(z5a:z2)(z5b:z2):Option Bool:=
 (if decide (z5a≠z5b) then(y1v z5a.fBurst z5b.fBurst).bind fun zI0=>some (decide (zI0≤0)) else some false).bind fun zy6=>(if zy6 then(y1v z5a.fRate z5b.fRate).bind fun zI1=>some (decide (zI1≤0)) else some false).bind fun zy7=>some zy7
theorem ydw{Z:Zp}{z5a:z2}{z5b:z2}{r:Bool}(h:y5C z5a z5b=some r)(w₀:World)(hz:PZ [] w₀ Z):
  Calls Tryz.prog 223 #[(.agg #[(vi z5a.fBurst.fN),(vi z5a.fBurst.fD),(vi z5a.fRate.fN),(vi z5a.fRate.fD)]),(.agg #[(vi z5b.fBurst.fN),(vi z5b.fBurst.fD),(vi z5b.fRate.fN),(vi z5b.fRate.fD)])] w₀ fun e w'=>e = .returned (.bool r)∧Hp [] w₀ w' []:=by
 unfold y5C at h
 refine Lz Tryz.func223 Tryz.ntmps223 ?_
 refine WC.b<|Ld (Lg 2 (yH (cs:=[(vi z5a.fBurst.fN),(vi z5a.fBurst.fD),(vi z5a.fRate.fN),(vi z5a.fRate.fD)]) U U) fun z16Q _=>Lg 3 (yH (cs:=[(vi z5b.fBurst.fN),(vi z5b.fBurst.fD),(vi z5b.fRate.fN),(vi z5b.fRate.fD)]) U U) fun z16R _=>La U<|WL.nil<|Lb<|WC.b ?_)
 obtain⟨zy6,zI2,h⟩:=za h
 obtain⟨zy7,zI3,h⟩:=za h
 refine Ld<|Le 5 (yi z3b U (yk .h1) U)<|Le 6 (yi z3b U (yk .here) U)<|Le 7 (ybG (enc:=y1M) (a:=z5a) (b:=z5b) zEb U U)<|La U<|Lv true 6 8 (B:=zy6) U U U U U U (fun h=>(oJ<|yr zI2 h).symm) (fun _ zTn=>?_) ?_
 ·skip
  have znl:=yq zI2 zTn
  obtain⟨zI0,zTo,znl⟩:=za znl
  replace znl:=oJ znl
  refine Le 9 (ya y5v U U)<|Le 10 (yU (cs:=[(vi z5a.fBurst.fN),(vi z5a.fBurst.fD)]) zg U U<|y3w (s:=2) .h1 U)<|Le 11 (ya y5v U U)<|Le 12 (yU (cs:=[(vi z5b.fBurst.fN),(vi z5b.fBurst.fD)]) zg U U<|y3w (s:=2) .here U)<|Ll 13 (zb Tryz.call129<|.r2 U U) .nil (cc hz .nil fun w pz ho=>y55 zTo w pz )<|La U<|La U ?_
  exact Lw znl U U .all
 refine La U<|Lv true 6 16 (B:=zy7) U U U U U U (fun h=>(oJ<|yr zI3 h).symm) (fun _ zTp=>?_) ?_
 ·skip
  have znm:=yq zI3 zTp
  obtain⟨zI1,zTq,znm⟩:=za znm
  replace znm:=oJ znm
  refine Le 17 (ya y6m U U)<|Le 18 (yU (cs:=[(vi z5a.fRate.fN),(vi z5a.fRate.fD)]) zg U U<|y3w (s:=2) .h1 U)<|Le 19 (ya y6m U U)<|Le 20 (yU (cs:=[(vi z5b.fRate.fN),(vi z5b.fRate.fD)]) zg U U<|y3w (s:=2) .here U)<|Ll 21 (zb Tryz.call129<|.r2 U U) .nil (cc hz .nil fun w pz ho=>y55 zTq w pz )<|La U<|La U ?_
  exact Lw znm U U .all
 refine La U<|WL.nil<|Lb<|WC.ret ?_
 obtain rfl:=oJ h
 refine Lh Tryz.results223 (.tmp U .nil)<|fun w hw=>?_
 exact⟨yC U,hw.sub .nil⟩
def y5K(z9G:z2)(zgR:z2):Option Bool:=
 (y5C z9G zgR).bind fun zI4=>some zI4
theorem yf7{Z:Zp}{zI5:Addr}{z9G:z2}{zgR:z2}{r:Bool}(h:y5K z9G zgR=some r)(w₀:World)(hz:PZ [] w₀ Z)(zTr:ZC Z zI5 [(vi zgR.fBurst.fN),(vi zgR.fBurst.fD),(vi zgR.fRate.fN),(vi zgR.fRate.fD)]):
  Calls Tryz.prog 222 #[(.agg #[(vi z9G.fBurst.fN),(vi z9G.fBurst.fD),(vi z9G.fRate.fN),(vi z9G.fRate.fD)]),(vq zI5)] w₀ fun e w'=>e = .returned (.bool r)∧Hp [] w₀ w' []:=by
 unfold y5K at h
 refine Lz Tryz.func222 Tryz.ntmps222 ?_
 refine WC.b<|Ld (Lg 2 (yH (cs:=[(vi z9G.fBurst.fN),(vi z9G.fBurst.fD),(vi z9G.fRate.fN),(vi z9G.fRate.fD)]) U U) fun z16S _=>La U<|WL.nil<|Lb<|WC.b ?_)
 obtain⟨zI4,zTs,h⟩:=za h
 refine Ld<|Le 4 (yi z3b U (yk .here) U)<|Le 5 (yi z3b U (y2l hz.pv zTr) U)<|Ll 6 (zb Tryz.call223<|.r2 U U) .nil (cc hz .nil fun w pz ho=>ydw zTs w pz )<|La U<|WL.nil<|Lb<|WC.ret ?_
 obtain rfl:=oJ h
 refine Lh Tryz.results222 (.tmp U .nil)<|fun w hw=>?_
 exact⟨yC U,hw.sub .nil⟩
def y6D(z8b:z2)(z8c:z2):Option Int:=
 (y1v z8b.fBurst z8c.fBurst).bind fun zI6=>some zI6
theorem yf8{Z:Zp}{z8b:z2}{z8c:z2}{r:Int}(h:y6D z8b z8c=some r)(w₀:World)(hz:PZ [] w₀ Z):
  Calls Tryz.prog 225 #[(.agg #[(vi z8b.fBurst.fN),(vi z8b.fBurst.fD),(vi z8b.fRate.fN),(vi z8b.fRate.fD)]),(.agg #[(vi z8c.fBurst.fN),(vi z8c.fBurst.fD),(vi z8c.fRate.fN),(vi z8c.fRate.fD)])] w₀ fun e w'=>e = .returned (vi r)∧Hp [] w₀ w' []:=by
 unfold y6D at h
 refine Lz Tryz.func225 Tryz.ntmps225 ?_
 refine WC.b<|Ld (Lg 2 (yH (cs:=[(vi z8b.fBurst.fN),(vi z8b.fBurst.fD),(vi z8b.fRate.fN),(vi z8b.fRate.fD)]) U U) fun z16T _=>Lg 3 (yH (cs:=[(vi z8c.fBurst.fN),(vi z8c.fBurst.fD),(vi z8c.fRate.fN),(vi z8c.fRate.fD)]) U U) fun z16U _=>La U<|WL.nil<|Lb<|WC.b ?_)
 obtain⟨zI6,zTt,h⟩:=za h
 refine Ld<|Le 5 (ya y5v U U)<|Le 6 (yU (cs:=[(vi z8b.fBurst.fN),(vi z8b.fBurst.fD)]) zg U U<|y3w (s:=2) .h1 U)<|Le 7 (ya y5v U U)<|Le 8 (yU (cs:=[(vi z8c.fBurst.fN),(vi z8c.fBurst.fD)]) zg U U<|y3w (s:=2) .here U)<|Ll 9 (zb Tryz.call129<|.r2 U U) .nil (cc hz .nil fun w pz ho=>y55 zTt w pz )<|La U<|WL.nil<|Lb<|WC.ret ?_
 obtain rfl:=oJ h
 refine Lh Tryz.results225 (.tmp U .nil)<|fun w hw=>?_
 exact⟨yC U,hw.sub .nil⟩
theorem zTu:∀ w,(isAgg (Tryz.y3K.t 24)).run Tryz.prog w = .ok true w:=fun _=>by kernel_rfl
theorem zTv:∀ w,(Go.sizeOf (Tryz.y3K.t 24)).run Tryz.prog w = .ok 4 w:=fun _=>by kernel_rfl
def y47(z5T:List z2)(znn:Int)(zno:Int)(zjv:Int)(zgS:z2→z2→Option Int):Option (List z2):=chk ((znn=0∧zno=((z5T.length:Nat):Int))∧(0≤zjv∧zjv<4611686018427387904∧z5T.length<4611686018427387904)) (chk (y8o zgS (yV zgS z5T)=true) (some (yV zgS z5T)))
theorem y88(Z:Zp)(zgT:Option Addr)(zgU:Nat)(znp:FuncId)(zy8:List Value)(z5T:List z2)(znn:Int)(zno:Int)(zjv:Int)(zgS:z2→z2→Option Int)(r:List z2)(w₀:World)(hz:PZ (fps [row (.slice zgT z5T.length zgU) 225 4 (z5T.flatMap y1M)]) w₀ Z)(zTw:∀ args w,(callFunc znp args).run Tryz.prog w = .ok (.enter znp args) w)(zTx:∀ w:World,PZ [] w Z→∀(x0:z2) (x1:z2) (r:Int),zgS x0 x1=some r→Calls Tryz.prog znp (([(.agg #[(vi x0.fBurst.fN),(vi x0.fBurst.fD),(vi x0.fRate.fN),(vi x0.fRate.fD)]),(.agg #[(vi x1.fBurst.fN),(vi x1.fBurst.fD),(vi x1.fRate.fN),(vi x1.fRate.fD)])]:List Value)++zy8).toArray w fun e w'=>e = .returned (vi r)∧Hp [] w w' [])(h:y47 z5T znn zno zjv zgS=some r)(hown:Hp (fps [row (.slice zgT z5T.length zgU) 225 4 (z5T.flatMap y1M)]) w₀ w₀ [row (.slice zgT z5T.length zgU) 225 4 (z5T.flatMap y1M)]):
  Calls Tryz.prog 229 #[(.slice zgT z5T.length zgU),(vi znn),(vi zno),(vi zjv),(.func (.func znp) #[] (zy8).toArray)] w₀ fun e w'=>e = .returned (.tuple #[])∧(r.length=z5T.length)∧Hp (fps [row (.slice zgT z5T.length zgU) 225 4 (z5T.flatMap y1M)]) w₀ w' [row (.slice zgT r.length zgU) 225 4 (r.flatMap y1M)]:=by
 obtain⟨h0,h⟩:=yn h
 obtain⟨h1,h⟩:=yn h
 have hr:=(oJ h).symm
 exact y9C (P:=Tryz.prog) (f:=229) (e:=225) (k:=4) (enc:=y1M) (fun _=>U) (by decide) yhq (fun β _ enc cf g cb hO blk off cap d0 w0 eg hC R=>Tryz.y9a 4 zTu zTv enc cf g cb hO blk off cap d0 w0 eg hC R) (Tryz.y8Y (α:=Unit)) hz zTw zTx h0 h1 hr hown
def y1s(z5c:List z2)(zjw:z2→z2→Option Int):Option (List z2):=
 (y4p (u64 ((z5c.length:Nat):Int))).bind fun zqF=>(y47 z5c 0 ((z5c.length:Nat):Int) zqF zjw).bind fun zqG=>some zqG
theorem y7j(Z:Zp)(zez:Option Addr)(zeA:Nat)(zjx:FuncId)(zqH:List Value)(z5c:List z2)(zjw:z2→z2→Option Int)(r:List z2)(h:y1s z5c zjw=some r)(w₀:World)(hz:PZ (fps [row (.slice zez z5c.length zeA) 225 4 (z5c.flatMap y1M)]) w₀ Z)(zTy:∀ args w,(callFunc zjx args).run Tryz.prog w = .ok (.enter zjx args) w)(zTz:∀ w:World,PZ [] w Z→∀(x0:z2) (x1:z2) (r:Int),zjw x0 x1=some r→Calls Tryz.prog zjx (([(.agg #[(vi x0.fBurst.fN),(vi x0.fBurst.fD),(vi x0.fRate.fN),(vi x0.fRate.fD)]),(.agg #[(vi x1.fBurst.fN),(vi x1.fBurst.fD),(vi x1.fRate.fN),(vi x1.fRate.fD)])]:List Value)++zqH).toArray w fun e w'=>e = .returned (vi r)∧Hp [] w w' [])(hown:Hp (fps [row (.slice zez z5c.length zeA) 225 4 (z5c.flatMap y1M)]) w₀ w₀ [row (.slice zez z5c.length zeA) 225 4 (z5c.flatMap y1M)]):
  Calls Tryz.prog 224 #[(.slice zez z5c.length zeA),(.func (.func zjx) #[] (zqH).toArray)] w₀ fun e w'=>e = .returned (.tuple #[])∧(r.length=z5c.length)∧Hp (fps [row (.slice zez z5c.length zeA) 225 4 (z5c.flatMap y1M)]) w₀ w' [row (.slice zez r.length zeA) 225 4 (r.flatMap y1M)]:=by
 unfold y1s at h
 refine Kh Tryz.func224 Tryz.ntmps224 hown ?_
 refine WC.b<|Ld<|La U<|Le 6 (yI Tryz.underlying227 U)<|La U<|WL.nil<|Lb ?_
 obtain⟨zqF,zTA,h⟩:=za h
 obtain⟨zqG,zTB,h⟩:=za h
 refine Ld<|La U<|La U<|La U<|Le 10 (y7t Tryz.underlying3 Tryz.underlying147 U U)<|Ll 11 (zb Tryz.call57<|.cons U .nil) .nil (cc hz .nil fun w pz ho=>y8P (Z:=_)  (z8E:=(u64 ((z5c.length:Nat):Int))) (r:=zqF) w pz  zTA)<|La U<|WL.y5j (dd:=13) U U U (zb Tryz.call229<|.r5 U U U U U) (.cons .here .nil) (cc hz (.cons .here .nil) fun w pz ho=>y88 (Z:=_) (zgT:=zez) (zgU:=zeA) (znp:=zjx) (zy8:=zqH) (z5T:=z5c) (znn:=0) (zno:=((z5c.length:Nat):Int)) (zjv:=zqF) (zgS:=zjw) (r:=zqG) w pz zTy zTz zTB ho) ?_
 rintro  zI7
 refine Ki (i:=0) U (u:=(.slice zez zqG.length zeA)) (y8n zI7.symm)<|WL.nil ?_
 obtain rfl:=oJ h
 refine WX.y5f Tryz.results224 .nil<|fun w hw=>?_
 exact⟨y7v,(zI7.trans U),hw.sub (.cons .here .nil)⟩
def y4T(zV:List z2)(zci:(List z2)→Option (List z2)):Nat→(List z2)→Int→Option (List z2)
 | 0,_,_=>none
 | zy9+1,z43,z14=>if decide (z14<((zV.length:Nat):Int)) then jp1 (fun(z9H:List z2)=>y4T zV zci zy9 z9H (i64 (z14+1))) fun zqI=>chk ((0:Int)≤z14∧z14<((zV.length:Nat):Int)) ((y2w z43 (⟨(⟨(((nth zV z14).fBurst).fN),(((nth zV z14).fBurst).fD)⟩:z1),(⟨(((nth zV z14).fRate).fN),(((nth zV z14).fRate).fD)⟩:z1)⟩:z2)).bind fun zI8=>(if !zI8 then(y1A zV (fun(y0:z2)=>y5K y0 (⟨(⟨(((nth zV z14).fBurst).fN),(((nth zV z14).fBurst).fD)⟩:z1),(⟨(((nth zV z14).fRate).fN),(((nth zV z14).fRate).fD)⟩:z1)⟩:z2))).bind fun zI9=>some (!zI9) else some false).bind fun zya=>if zya then chk ((((z43++([(⟨(⟨(((nth zV z14).fBurst).fN),(((nth zV z14).fBurst).fD)⟩:z1),(⟨(((nth zV z14).fRate).fN),(((nth zV z14).fRate).fD)⟩:z1)⟩:z2)]:List z2)).length:Nat):Int)*32≤140737488355328∧(((z43++([(⟨(⟨(((nth zV z14).fBurst).fN),(((nth zV z14).fBurst).fD)⟩:z1),(⟨(((nth zV z14).fRate).fN),(((nth zV z14).fRate).fD)⟩:z1)⟩:z2)]:List z2)).length:Nat):Int)≤4611686018427387904) (zqI (z43++([(⟨(⟨(((nth zV z14).fBurst).fN),(((nth zV z14).fBurst).fD)⟩:z1),(⟨(((nth zV z14).fRate).fN),(((nth zV z14).fRate).fD)⟩:z1)⟩:z2)]:List z2))) else zqI z43) else zci z43
theorem ybQ{n:Nat}{zV:List z2}{zci:(List z2)→Option (List z2)}{z43:List z2}{z14:Int}{r:List z2}(h:y4T zV zci n z43 z14=some r):∃ m,n=m+1:=by
 cases n with
 | zero=>cases h
 | succ m=>exact⟨m,rfl⟩
def y7G(zV:List z2):Option (List z2):=
 jp1 (fun(zak:List z2)=>(y1s zak (fun(y0:z2) (y1:z2)=>y6D y0 y1)).bind fun zyb=>some zyb) fun zci=>y4T zV zci yx ([]:List z2) 0
theorem yge{Z:Zp}{zjy:Option Addr}{zjz:Nat}{zV:List z2}{r:List z2}(h:y7G zV=some r)(w₀:World)(hz:PZ [] w₀ Z)(zIa:ZS Z 4 (fun r x=>r=y1M x) zjy zjz zV):
  Calls Tryz.prog 212 #[(.slice zjy zV.length zjz)] w₀ fun e w'=>∃ zIb:Option Addr,∃ zIc:Nat,e = .returned (.slice zIb r.length zIc)∧True∧Hp [] w₀ w' [row (.slice zIb r.length zIc) 225 4 (r.flatMap y1M)]:=by
 unfold y7G at h
 refine L5 Tryz.func212 Tryz.ntmps212 ?_
 refine WC.b<|Ld<|La U<|WL.nil<|Lb<|WC.b<|Ld<|La U<|WL.nil<|Lb ?_
 obtain⟨zci,zTC,h⟩:=y12 h
 refine Kc (fun(zak:List z2) (zgV:Option Addr) (zgW:Nat)=>(zci zak=some r)) (fun zak zgV zgW=>[(3,(.slice zgV zak.length zgW))]) (fun zak zgV zgW=>[row (.slice zgV zak.length zgW) 225 4 (zak.flatMap y1M)]) ?_ ?_
 ·skip
  let A:Value:=(.slice zjy zV.length zjz);let C:Value:=(vi ((zV.length:Nat):Int));refine WC.b (Ld (La U (Le 7 (yI Tryz.underlying227 U) (La U (WL.nil (Lb (WC.block (WC.nilRow 225 4 (WC.y7y (fun(zjA:Nat) (z43:List z2) (z14:Int) (zeB:Option Addr) (zeC:Nat)=>(y4T zV zci zjA z43 z14=some r)) (fun zjA z43 z14 zeB zeC=>[(0,A),(3,(.slice zeB z43.length zeC)),(6,A),(7,C),(8,(vi z14))]) (fun zjA z43 z14 zeB zeC=>[row (.slice zeB z43.length zeC) 225 4 (z43.flatMap y1M)]) (fun zjA z43 z14 zeB zeC=>zjA) ⟨yx,([]:List z2),0,none,0⟩ h (.r5 U U U U U) (.cons .here .nil) ?_)))))))))
  rintro zjA z43 z14 zeB zeC h
  obtain⟨zy9,rfl⟩:=ybQ h
  rw[y4T] at h
  refine WC.b<|Ld<|La U<|WL.nil<|Lb<|WC.b<|WC.cond U (fun zyc=>?_)<|fun zyc=>?_
  ·replace h:=yq h zyc
   refine WC.skip<|Lb ?_
   obtain⟨zqI,zTD,h⟩:=y12 h
   refine Kc (fun(z9H:List z2) (zjB:Option Addr) (zjC:Nat)=>(zqI z9H=some r)) (fun z9H zjB zjC=>[(0,A),(3,(.slice zjB z9H.length zjC)),(6,A),(7,C),(8,(vi z14))]) (fun z9H zjB zjC=>[row (.slice zjB z9H.length zjC) 225 4 (z9H.flatMap y1M)]) ?_ ?_
   ·skip
    refine WC.block<|WC.b ?_
    obtain⟨zTE,h⟩:=yn h
    refine Ld<|L0 (dd:=10) U U (Z:=Z) (Pr:=(fun r x=>r=y1M x)) z81 U U zIa zTE ?_
    rintro z16V z16W zTF z16X rfl
    refine Le 11 (yi z3b U (y2l hz.pv zTF) U) (Lg 5 (yv (cs:=[(vi 0),(vi 0),(vi 0),(vi 0)]) zbo U) fun zTG _=>Lk U U (yl za4 U U U .here U U U)<|WL.nil<|Lb<|WC.b ?_)
    obtain⟨zI8,zTH,h⟩:=za h
    obtain⟨zya,zId,h⟩:=za h
    refine Ld<|La U<|Le 13 (yi z3b U (yk .here) U)<|Ll 14 (zb Tryz.call221<|.r2 U U) .nil (ccl hz .nil (.cons .h1 .nil) fun w pz ho la=>y7i zTH w pz<|ZA.row (la _ (.head _) _) (RR.flat (enc:=y1M) (fun _=>U) _) ⟨w,pz.1⟩)<|La U<|La U<|Lv true 4 16 (B:=zya) U U U U U U (fun h=>(oJ<|yr zId h).symm) (fun _ zTI=>?_) ?_
    ·skip
     have znq:=yq zId zTI
     obtain⟨zI9,zTJ,znq⟩:=za znq
     replace znq:=oJ znq
     refine La U<|Le 18 (y14<|L2 (l:=[.tmp 5])<|.cons U .nil)<|Ll 19 (zb Tryz.call208<|.r2 U U) .nil (ccl hz .nil (.cons .here .nil) fun w pz ho la=>y4B _ _ _ (zgN:=222) (znb:=[(vp zTG)]) _ (zgM:=(fun(y0:z2)=>y5K y0 (⟨(⟨(((nth zV z14).fBurst).fN),(((nth zV z14).fBurst).fD)⟩:z1),(⟨(((nth zV z14).fRate).fN),(((nth zV z14).fRate).fD)⟩:z1)⟩:z2))) _ zTJ w pz (zIa.mono<|Zle.left _ _) Tryz.call222<|fun w' hz' y0  r  hr=>yf7 hr w' hz'<|(la _ (.head _) _).stb)<|La U<|La U ?_
     exact Lw znq U U .all
    refine WL.nil<|Lb<|WC.cond U (fun zyd=>?_)<|fun zyd=>?_
    ·replace h:=yq h zyd
     obtain⟨zTK,h⟩:=yn h
     refine Ld<|La U<|Le 23 (yi z3b U (yk .here) U) (Lg 24 (yM (cs:=([(⟨(⟨(((nth zV z14).fBurst).fN),(((nth zV z14).fBurst).fD)⟩:z1),(⟨(((nth zV z14).fRate).fN),(((nth zV z14).fRate).fD)⟩:z1)⟩:z2)]:List z2).flatMap y1M) z81 (Lo (l:=[.tmp 23]) (.cons U .nil) [0]) (fun _=>by kernel_rfl) U (by unfold maxLen;omega)) fun z16Y _=>WL.fA 25 (y52 (enc:=y1M) (l1:=z43) (l2:=([(⟨(⟨(((nth zV z14).fBurst).fN),(((nth zV z14).fBurst).fD)⟩:z1),(⟨(((nth zV z14).fRate).fN),(((nth zV z14).fRate).fD)⟩:z1)⟩:z2)]:List z2)) z81 U U .h2 (fun _=>U) U U (y3t .here) (y5o yhq _) zTK) ?_)
     rintro⟨zTL,zTM⟩ _
     refine La U<|WL.nil<|Lt ?_
     exact Ln ⟨(z43++([(⟨(⟨(((nth zV z14).fBurst).fN),(((nth zV z14).fBurst).fD)⟩:z1),(⟨(((nth zV z14).fRate).fN),(((nth zV z14).fRate).fD)⟩:z1)⟩:z2)]:List z2)),zTL,zTM⟩ h (.r5 U U U U U)<|.cons .here .nil
    ·replace h:=yr h zyd
     refine WC.skip<|Lt ?_
     exact Ln ⟨z43,zeB,zeC⟩ h (.r5 U U U U U)<|.cons .h1 .nil
   ·rintro z9H zjB zjC h
    replace h:=(zTD z9H).symm.trans h
    refine Ld<|La U<|La U<|WL.nil ?_
    exact WX.round ⟨zy9,z9H,(i64 (z14+1)),zjB,zjC⟩ h (Nat.lt_succ_self _) (.r5 U U U U U)<|.cons .here .nil
  ·replace h:=yr h zyc
   refine WC.exit<|Lm<|Lm<|Lu ?_
   exact Ln ⟨z43,zeB,zeC⟩ h (.cons U .nil)<|.cons .here .nil
 ·rintro zak zgV zgW h
  replace h:=(zTC zak).symm.trans h
  refine WC.b ?_
  obtain⟨zyb,zTN,h⟩:=za h
  refine Ld<|La U<|WL.y5j (dd:=28) U U U (zb Tryz.call224<|.r2 U U) (.cons .here .nil) (cc hz (.cons .here .nil) fun w pz ho=>y7j _ _ _ (zjx:=225) (zqH:=[]) _ (zjw:=(fun(y0:z2) (y1:z2)=>y6D y0 y1)) _ zTN w pz Tryz.call225 (fun w' hz' y0 y1  r  hr=>yf8 hr w' hz' ) ho) ?_
  rintro  zTO
  refine Ki (i:=3) U (u:=(.slice zgV zyb.length zgW)) (y8n zTO.symm)<|WL.nil<|Lb<|WC.b<|Ld<|La U<|La U<|WL.nil<|Lb<|WC.ret ?_
  obtain rfl:=oJ h
  refine Lh Tryz.results212 (.tmp U .nil)<|fun w hw=>?_
  exact⟨zgV,zgW,yC U,trivial,hw.sub (.cons .here .nil)⟩
def y76(zjD:List z2)(zjE:List z2):Option (List z2×List z2):=
 some (zjD,zjE)
theorem yfO{Z:Zp}{zqJ:Option Addr}{zqK:Nat}{zqL:Option Addr}{zqM:Nat}{zjD:List z2}{zjE:List z2}{r:List z2×List z2}(h:y76 zjD zjE=some r)(w₀:World)(hz:PZ [] w₀ Z)(zTP:ZS Z 4 (fun r x=>r=y1M x) zqJ zqK zjD)(zTQ:ZS Z 4 (fun r x=>r=y1M x) zqL zqM zjE):
  Calls Tryz.prog 213 #[(.slice zqJ zjD.length zqK),(.slice zqL zjE.length zqM)] w₀ fun e w'=>∃ zIe:Nat,∃ zIf:Nat,∃ zIg:Option Addr,∃ zIh:Nat,∃ zIi:Option Addr,∃ zIj:Nat,e = .returned (.func (.func 226) #[] #[(vp zIe),(vp zIf)])∧((ZS Z 4 (fun r x=>r=y1M x) zIg zIh r.1)∧(ZS Z 4 (fun r x=>r=y1M x) zIi zIj r.2))∧Hp [] w₀ w' [stb zIe 227 [(.slice zIg r.1.length zIh)],stb zIf 227 [(.slice zIi r.2.length zIj)]]:=by
 unfold y76 at h
 refine Lz Tryz.func213 Tryz.ntmps213 ?_
 refine WC.b<|Ld (Lg 2 (yH (cs:=[(.slice zqJ zjD.length zqK)]) U U) fun zTR _=>Lg 3 (yH (cs:=[(.slice zqL zjE.length zqM)]) U U) fun zTS _=>La U<|WL.nil<|Lb<|WC.b<|Ld<|Le 5 (y14<|L2 (l:=[.tmp 2,.tmp 3])<|.r2 U U)<|La U<|WL.nil<|Lb<|WC.ret ?_)
 obtain rfl:=oJ h
 refine Lh Tryz.results213 (.tmp U .nil)<|fun w hw=>?_
 exact⟨zTR,zTS,zqJ,zqK,zqL,zqM,yC U,⟨zTP,zTQ⟩,hw.sub (.s2 .h1 .here)⟩
def y3P(zQ:Type)(z2m:List z2)(z5U:(z2×z2)→zQ→Option (Bool×zQ))(z1K:List z2)(z1W:Int)(zcj:zQ→Option zQ):Nat→Int→zQ→Option zQ
 | 0,_,_=>none
 | zye+1,z3L,z6n=>if decide (z3L<((z2m.length:Nat):Int)) then chk ((0:Int)≤z3L∧z3L<((z2m.length:Nat):Int)) ((z5U ((⟨(⟨(((nth z1K z1W).fBurst).fN),(((nth z1K z1W).fBurst).fD)⟩:z1),(⟨(((nth z1K z1W).fRate).fN),(((nth z1K z1W).fRate).fD)⟩:z1)⟩:z2),(⟨(⟨(((nth z2m z3L).fBurst).fN),(((nth z2m z3L).fBurst).fD)⟩:z1),(⟨(((nth z2m z3L).fRate).fN),(((nth z2m z3L).fRate).fD)⟩:z1)⟩:z2)) z6n).bind fun zgX=>if !zgX.1 then some zgX.2 else y3P zQ z2m z5U z1K z1W zcj zye (i64 (z3L+1)) zgX.2) else zcj z6n
theorem yaN{n:Nat}{zQ:Type}{z2m:List z2}{z5U:(z2×z2)→zQ→Option (Bool×zQ)}{z1K:List z2}{z1W:Int}{zcj:zQ→Option zQ}{z3L:Int}{z6n:zQ}{r:zQ}(h:y3P zQ z2m z5U z1K z1W zcj n z3L z6n=some r):∃ m,n=m+1:=by
 cases n with
 | zero=>cases h
 | succ m=>exact⟨m,rfl⟩
def y3Q(zQ:Type)(z1K:List z2)(z2m:List z2)(z5U:(z2×z2)→zQ→Option (Bool×zQ))(zck:zQ→Option zQ):Nat→Int→zQ→Option zQ
 | 0,_,_=>none
 | zyf+1,z1W,z7E=>if decide (z1W<((z1K.length:Nat):Int)) then jp1 (fun(zal:zQ)=>y3Q zQ z1K z2m z5U zck zyf (i64 (z1W+1)) zal) fun zyg=>chk ((0:Int)≤z1W∧z1W<((z1K.length:Nat):Int)) (jp1 (fun(zam:zQ)=>zyg zam) fun zcj=>y3P zQ z2m z5U z1K z1W zcj yx 0 z7E) else zck z7E
theorem yaO{n:Nat}{zQ:Type}{z1K:List z2}{z2m:List z2}{z5U:(z2×z2)→zQ→Option (Bool×zQ)}{zck:zQ→Option zQ}{z1W:Int}{z7E:zQ}{r:zQ}(h:y3Q zQ z1K z2m z5U zck n z1W z7E=some r):∃ m,n=m+1:=by
 cases n with
 | zero=>cases h
 | succ m=>exact⟨m,rfl⟩
def y5s(zQ:Type)(z5U:(z2×z2)→zQ→Option (Bool×zQ))(s0_33392:zQ)(z1K:List z2)(z2m:List z2):Option zQ:=
 jp1 (fun(zcl:zQ)=>some zcl) fun zck=>y3Q zQ z1K z2m z5U zck yx 0 s0_33392
theorem yev(Z:Zp)(zQ:Type)(zgY:Nat)(z9I:Type)(z7F:z9I→zQ→Asrt)(zcm:z9I→zQ→Prop)(zgZ:z9I)(zyh:Addr)(zh0:Option Addr)(zh1:Nat)(zh2:Addr)(zqN:Option Addr)(zqO:Nat)(z5U:(z2×z2)→zQ→Option (Bool×zQ))(s0_33392:zQ)(z1K:List z2)(z2m:List z2)(r:zQ)(w₀:World)(hz:PZ (fps [z7F zgZ s0_33392]) w₀ Z)(zTT:ybf Tryz.prog Z zgY (α:=z2×z2) (σ:=zQ) (G:=z9I) (H:=Unit) (fun h x=>[(.agg #[(vi x.1.fBurst.fN),(vi x.1.fBurst.fD),(vi x.1.fRate.fN),(vi x.1.fRate.fD)]),(.agg #[(vi x.2.fBurst.fN),(vi x.2.fBurst.fD),(vi x.2.fRate.fN),(vi x.2.fRate.fD)])]) (fun h x=>[]) z5U z7F zcm)(zTU:zcm zgZ s0_33392)(zTV:ZS Z 4 (fun r x=>r=y1M x) zh0 zh1 z1K)(zTW:ZC Z zyh [(.slice zh0 z1K.length zh1)])(zTX:ZS Z 4 (fun r x=>r=y1M x) zqN zqO z2m)(zTY:ZC Z zh2 [(.slice zqN z2m.length zqO)])(h:y5s zQ z5U s0_33392 z1K z2m=some r)(hown:Hp (fps [z7F zgZ s0_33392]) w₀ w₀ [z7F zgZ s0_33392]):
  Calls Tryz.prog 226 #[(.func (.yield zgY) #[] #[]),(vq zyh),(vq zh2)] w₀ fun e w'=>∃ zIk:z9I,e = .returned (.tuple #[])∧(zcm zIk r)∧Hp (fps [z7F zgZ s0_33392]) w₀ w' [z7F zIk r]:=by
 unfold y5s at h
 refine Calls.oh3 Tryz.func226 Tryz.ntmps226 hown ?_
 refine WC.b<|Ld<|Le 8 (yc zdI U<|y3C hz.pv zTW U)<|Le 9 (yI Tryz.underlying227 U)<|La U<|WL.nil<|Lb ?_
 obtain⟨zck,zTZ,h⟩:=y12 h
 refine WC.y78 (fun(zcl:zQ) (zjF:z9I)=>(zck zcl=some r)∧(zcm zjF zcl)) (fun zcl zjF=>[]) (fun zcl zjF=>[z7F zjF zcl]) ?_ ?_
 ·skip
  let A:Value:=(.func (.yield zgY) #[] #[]);let C:Value:=(.slice zh0 z1K.length zh1);let D:Value:=(vi ((z1K.length:Nat):Int));refine WC.block (WC.y4P (fun(zjG:Nat) (z1W:Int) (z7E:zQ) (zeD:z9I)=>(y3Q zQ z1K z2m z5U zck zjG z1W z7E=some r)∧(zcm zeD z7E)) (fun zjG z1W z7E zeD=>[(0,A),(2,(vq zh2)),(8,C),(9,D),(10,(vi z1W))]) (fun zjG z1W z7E zeD=>[z7F zeD z7E]) (fun zjG z1W z7E zeD=>zjG) ⟨yx,0,s0_33392,zgZ⟩ ⟨h,zTU⟩ (.r5 U U U U U) (.cons .here .nil) ?_)
  rintro zjG z1W z7E zeD ⟨h,zIl⟩
  obtain⟨zyf,rfl⟩:=yaO h
  rw[y3Q] at h
  refine WC.b<|Ld<|La U<|WL.nil<|Lb<|WC.b<|WC.cond U (fun zyi=>?_)<|fun zyi=>?_
  ·replace h:=yq h zyi
   refine WC.skip<|Lb ?_
   obtain⟨zyg,zU0,h⟩:=y12 h
   refine WC.y5g (fun(zal:zQ) (zjH:z9I)=>(zyg zal=some r)∧(zcm zjH zal)) (fun zal zjH=>[(0,A),(2,(vq zh2)),(8,C),(9,D),(10,(vi z1W))]) (fun zal zjH=>[z7F zjH zal]) ?_ ?_
   ·skip
    refine WC.block<|WC.b ?_
    obtain⟨zU1,h⟩:=yn h
    refine Ld<|L0 (dd:=12) U U (Z:=Z) (Pr:=(fun r x=>r=y1M x)) z81 U U zTV zU1 ?_
    rintro z16Z z170 zU2 z171 rfl
    refine Le 13 (yi z3b U (y2l hz.pv zU2) U) (Lg 5 (yv (cs:=[(vi 0),(vi 0),(vi 0),(vi 0)]) zbo U) fun zIm _=>Lk U U (yl za4 U U U .here U U U)<|WL.nil<|Lb<|WC.b<|Ld<|Le 14 (yc zdI U<|y3C hz.pv zTY U)<|Le 15 (yI Tryz.underlying227 U)<|La U<|WL.nil<|Lb ?_)
    obtain⟨zcj,zU3,h⟩:=y12 h
    refine WC.y78 (fun(zam:zQ) (zjI:z9I)=>(zcj zam=some r)∧(zcm zjI zam)) (fun zam zjI=>[(0,A),(2,(vq zh2)),(8,C),(9,D),(10,(vi z1W))]) (fun zam zjI=>[z7F zjI zam]) ?_ ?_
    ·skip
     refine WC.block<|WC.y4P (fun(zjJ:Nat) (z3L:Int) (z6n:zQ) (zan:z9I)=>(y3P zQ z2m z5U z1K z1W zcj zjJ z3L z6n=some r)∧(zcm zan z6n)) (fun zjJ z3L z6n zan=>[(0,A),(2,(vq zh2)),(5,(vp zIm)),(8,C),(9,D),(10,(vi z1W)),(14,(.slice zqN z2m.length zqO)),(15,(vi ((z2m.length:Nat):Int))),(16,(vi z3L))]) (fun zjJ z3L z6n zan=>[stb zIm 225 [(vi<|((nth z1K z1W).fBurst).fN),(vi<|((nth z1K z1W).fBurst).fD),(vi<|((nth z1K z1W).fRate).fN),(vi<|((nth z1K z1W).fRate).fD)],z7F zan z6n]) (fun zjJ z3L z6n zan=>zjJ) ⟨yx,0,z7E,zeD⟩ ⟨h,zIl⟩ (.r9 U U U U U U U U U) (.a2) ?_
     rintro zjJ z3L z6n zan ⟨h,zIn⟩
     obtain⟨zye,rfl⟩:=yaN h
     rw[y3P] at h
     refine WC.b<|Ld<|La U<|WL.nil<|Lb<|WC.b<|WC.cond U (fun zyj=>?_)<|fun zyj=>?_
     ·replace h:=yq h zyj
      refine WC.skip<|Lb<|WC.b<|WC.block<|WC.b ?_
      obtain⟨zU4,h⟩:=yn h
      refine Ld<|L0 (dd:=18) U U (Z:=Z) (Pr:=(fun r x=>r=y1M x)) z81 U U zTX zU4 ?_
      rintro z172 z173 zU5 z174 rfl
      refine Le 19 (yi z3b U (y2l hz.pv zU5) U) (Lg 7 (yv (cs:=[(vi 0),(vi 0),(vi 0),(vi 0)]) zbo U) fun z175 _=>Lk U U (yl za4 U U U .here U U U)<|WL.nil<|Lb<|WC.b ?_)
      obtain⟨zgX,zU6,h⟩:=za h
      refine Ld<|La U<|Le 21 (yi z3b U (yk .h1) U)<|Le 22 (yi z3b U (yk .here) U) (WL.yield (dd:=23) (x:=((⟨(⟨(((nth z1K z1W).fBurst).fN),(((nth z1K z1W).fBurst).fD)⟩:z1),(⟨(((nth z1K z1W).fRate).fN),(((nth z1K z1W).fRate).fD)⟩:z1)⟩:z2),(⟨(⟨(((nth z2m z3L).fBurst).fN),(((nth z2m z3L).fBurst).fD)⟩:z1),(⟨(((nth z2m z3L).fRate).fN),(((nth z2m z3L).fRate).fD)⟩:z1)⟩:z2))) (h:=()) (g:=zan) (s:=z6n) (b:=zgX.1) (s':=zgX.2) zTT U U U (.r2 U U) ((.cons .h2 .nil):Sel _ [z7F zan z6n] _) zU6 zIn (fun w hw=>hz.call hw ((.cons .h2 .nil):Sel _ [z7F zan z6n] _)) fun zIo zIp=>La U<|WL.nil<|Lb<|WC.cond U (fun zyk=>?_)<|fun zyk=>?_)
      ·replace h:=yq h zyk
       refine WC.ret<|Lq<|Li<|Li<|Lq<|Li<|Lq<|Li<|Li<|Lq<|Li ?_
       obtain rfl:=oJ h
       refine Lh Tryz.results226 .nil<|fun w hw=>?_
       exact⟨zIo,y7v,zIp,hw.sub (.cons .here .nil)⟩
      ·replace h:=yr h zyk
       refine WC.skip<|Lt<|Lb<|Ld<|La U<|La U<|WL.nil ?_
       exact WX.round ⟨zye,(i64 (z3L+1)),zgX.2,zIo⟩ ⟨h,zIp⟩ (Nat.lt_succ_self _) (.r9 U U U U U U U U U)<|.s2 .h2 .here
     ·replace h:=yr h zyj
      refine WC.exit<|Lm<|Lm<|Lu ?_
      exact Ln ⟨z6n,zan⟩ ⟨h,zIn⟩ (.r5 U U U U U)<|.cons .h1 .nil
    ·rintro zam zjI ⟨h,zU7⟩
     replace h:=(zU3 zam).symm.trans h
     refine Lt ?_
     exact Ln ⟨zam,zjI⟩ ⟨h,zU7⟩ (.r5 U U U U U)<|.cons .here .nil
   ·rintro zal zjH ⟨h,zU8⟩
    replace h:=(zU0 zal).symm.trans h
    refine Ld<|La U<|La U<|WL.nil ?_
    exact WX.round ⟨zyf,(i64 (z1W+1)),zal,zjH⟩ ⟨h,zU8⟩ (Nat.lt_succ_self _) (.r5 U U U U U)<|.cons .here .nil
  ·replace h:=yr h zyi
   refine WC.exit<|Lm<|Lm<|Lu ?_
   exact Ln ⟨z7E,zeD⟩ ⟨h,zIl⟩ .nil<|.cons .here .nil
 ·rintro zcl zjF ⟨h,zU9⟩
  replace h:=(zTZ zcl).symm.trans h
  obtain rfl:=oJ h
  refine WX.y5f Tryz.results226 .nil<|fun w hw=>?_
  exact⟨zjF,y7v,zU9,hw.sub (.cons .here .nil)⟩
def ya7(zh3:z1)(zh4:z1):Option (Int×Int):=
 some ((i64 ((i64 (zh3.fN*zh4.fD))-(i64 (zh4.fN*zh3.fD)))),(i64 (zh3.fD*zh4.fD)))
theorem yi9{Z:Zp}{zIq:Addr}{zIr:Addr}{zh3:z1}{zh4:z1}{r:Int×Int}(h:ya7 zh3 zh4=some r)(w₀:World)(hz:PZ [] w₀ Z)(zyl:ZC Z zIq [(vi zh3.fN),(vi zh3.fD)])(zym:ZC Z zIr [(vi zh4.fN),(vi zh4.fD)]):
  Calls Tryz.prog 188 #[(vq zIq),(vq zIr)] w₀ fun e w'=>e = .returned (.tuple #[(vi r.1),(vi r.2)])∧Hp [] w₀ w' []:=by
 unfold ya7 at h
 refine Lz Tryz.func188 Tryz.ntmps188 ?_
 refine WC.b<|Ld<|La U<|La U<|WL.nil<|Lb<|WC.b<|Lx (fun i=>[].contains i) [] U<|Lf 0 4 U (fun _=>ya y2C U U)<|Lj 1 5 U (yc ys U<|y1c hz.pv zyl U)<|Lf 2 6 U (fun _=>ya y37 U U)<|Lj 3 7 U (yc ys U<|y1c hz.pv zym U)<|Lf 4 8 U (fun _=>y7k U U U)<|Lf 5 9 U (fun _=>ya y2C U U)<|Lj 6 10 U (yc ys U<|y1c hz.pv zym U)<|Lf 7 11 U (fun _=>ya y37 U U)<|Lj 8 12 U (yc ys U<|y1c hz.pv zyl U)<|Lf 9 13 U (fun _=>y7k U U U)<|Lf 10 14 U (fun _=>y8H U U U)<|Lf 11 15 U (fun _=>ya y37 U U)<|Lj 12 16 U (yc ys U<|y1c hz.pv zyl U)<|Lf 13 17 U (fun _=>ya y37 U U)<|Lj 14 18 U (yc ys U<|y1c hz.pv zym U)<|Lf 15 19 U (fun _=>y7k U U U)<|Lf 16 2 U (fun _=>q_z U)<|Lf 17 3 U (fun _=>q_z U)<|WD.done (by kernel_rfl)<|Lb<|WC.ret ?_
 obtain rfl:=oJ h
 refine Lh Tryz.results188 (.tmp U<|.tmp U .nil)<|fun w hw=>?_
 exact⟨y1R U U,hw.sub .nil⟩
def y9J(zeE:z1)(zeF:z1):Option (z1×Int):=
 (y1Y zeE).bind fun zIs=>(if !zIs then some true else(y1Y zeF).bind fun zIt=>some (!zIt)).bind fun zqP=>if zqP then some ((⟨0,0⟩:z1),2) else(ya7 zeE zeF).bind fun zyn=>(y5G zyn.1 zyn.2).bind fun zyo=>some (zyo.1,zyo.2)
theorem yiH{Z:Zp}{zeE:z1}{zeF:z1}{r:z1×Int}(h:y9J zeE zeF=some r)(w₀:World)(hz:PZ [] w₀ Z):
  Calls Tryz.prog 159 #[(.string ⟨#[45]⟩),(.agg #[(vi zeE.fN),(vi zeE.fD)]),(.agg #[(vi zeF.fN),(vi zeF.fD)])] w₀ fun e w'=>e = .returned (.tuple #[(.agg #[(vi r.1.fN),(vi r.1.fD)]),(vi r.2)])∧Hp [] w₀ w' []:=by
 unfold y9J at h
 refine Ke Tryz.func159 Tryz.ntmps159 ?_
 refine WC.b<|Ld (Lg 4 (yH (cs:=[(vi zeE.fN),(vi zeE.fD)]) U U) fun znr _=>Lg 5 (yH (cs:=[(vi zeF.fN),(vi zeF.fD)]) U U) fun zns _=>Lg 6 (yv (cs:=[(vi 0),(vi 0)]) zW U) fun z176 _=>La U<|WL.nil<|Lb<|WC.b<|WC.b ?_)
 obtain⟨zIs,zUa,h⟩:=za h
 obtain⟨zqP,zIu,h⟩:=za h
 refine Ld<|Le 9 (yi zg U (yk .h2) U)<|Ll 10 (zb Tryz.call130<|.cons U .nil) .nil (cc hz .nil fun w pz ho=>y2T zUa w pz )<|La U<|La U<|Lv false 3 12 (B:=zqP) U U U U U U (fun h=>(oJ<|yq zIu h).symm) (fun _ zUb=>?_) ?_
 ·skip
  have znt:=yr zIu zUb
  obtain⟨zIt,zUc,znt⟩:=za znt
  replace znt:=oJ znt
  refine Le 13 (yi zg U (yk .h1) U)<|Ll 14 (zb Tryz.call130<|.cons U .nil) .nil (cc hz .nil fun w pz ho=>y2T zUc w pz )<|La U<|La U ?_
  exact Lw znt U U .all
 refine La U<|Lv false 7 17 (B:=zqP) U U U U U U (fun h=>h) (fun _ zUd=>?_) ?_
 ·skip
  refine La U<|Le 19 (ydb (r:=false) (by decide) U U)<|La U<|WL.e U U U<|WL.e U U U<|WL.e U U U<|La U<|La U ?_
  exact Lw (Eq.symm zUd) U U .all
 refine WL.nil<|Lb<|WC.cond U (fun zyp=>?_)<|fun zyp=>?_
 ·replace h:=yq h zyp
  refine WC.b<|Ld<|Le 26 (yL (v:=(.agg #[(vi 0),(vi 0)])) (Lo (l:=[]) .nil []) (fun _=>by kernel_rfl))<|Lk U U (yl zA U U U .here U U U)<|La U<|WL.nil<|Lb<|WC.ret<|Li ?_
  obtain rfl:=oJ h
  refine Lh Tryz.results159 (.agg U zg U (yk .here)<|.tmp U .nil)<|fun w hw=>?_
  exact⟨y1R U U,hw.sub .nil⟩
 ·replace h:=yr h zyp
  refine WC.skip<|Lb<|WC.b<|Ld<|Lg 27 (y3r Value.string<|fun x=>x) ?_
  intro z177 _
  let A:Value:=(.func (.func 188) #[] #[(vp znr),(vp zns)]);refine Le 28 (y14 (L2 (l:=[.tmp 4,.tmp 5]) (.r2 U U))) (Lk U U (y43 (k:=⟨#[43]⟩) (v:=(.func (.func 187) #[] #[(vp znr),(vp zns)])) y4y Tryz.underlying304 U U U U .here) (Le 29 (y14 (L2 (l:=[.tmp 4,.tmp 5]) (.r2 U U))) (Lk U U (y43 (k:=⟨#[45]⟩) (v:=A) y4y Tryz.underlying304 U U U U .here) (Le 30 (y14 (L2 (l:=[.tmp 4,.tmp 5]) (.r2 U U))) (Lk U U (y43 (k:=⟨#[42]⟩) (v:=(.func (.func 189) #[] #[(vp znr),(vp zns)])) y4y Tryz.underlying304 U U U U .here) (Le 31 (y14 (L2 (l:=[.tmp 4,.tmp 5]) (.r2 U U))) (Lk U U (y43 (k:=⟨#[47]⟩) (v:=(.func (.func 190) #[] #[(vp znr),(vp zns)])) y4y Tryz.underlying304 U U U U .here) (La U (La U (WL.nil (Lb (WC.b ?_))))))))))))
  obtain⟨zyn,zUe,h⟩:=za h
  obtain⟨zyo,zUf,h⟩:=za h
  refine Ld<|La U<|La U<|Le 35 (yda (k:=⟨#[45]⟩) (dflt:=.nilFunc) (r:=A) y4y Tryz.underlying304 zpE U U U .here (by rfl))<|Ll 36 (y2J (l:=[]) Tryz.call188 U .nil) .nil (ccl hz .nil (.s2 .h3 .h2) fun w pz ho la=>yi9 zUe w pz ((la _ (.head _) _).stb)<|(la _ (.tail _<|.head _) _).stb)<|La U<|La U<|Ll 39 (zb Tryz.call160<|.r2 U U) .nil (cc hz .nil fun w pz ho=>y8R zUf w pz )<|La U<|La U<|Lk U U (yl zA U U U .h1 U U U)<|La U<|WL.nil<|Lb<|WC.ret ?_
  obtain rfl:=oJ h
  refine Lh Tryz.results159 (.agg U zg U (yk .here)<|.tmp U .nil)<|fun w hw=>?_
  exact⟨y1R U U,hw.sub .nil⟩
def y2y(zh5:z1)(zh6:z1):Option (z1×Int):=
 (y9J zh5 zh6).bind fun zyq=>some (zyq.1,zyq.2)
theorem y9K{Z:Zp}{zh5:z1}{zh6:z1}{r:z1×Int}(h:y2y zh5 zh6=some r)(w₀:World)(hz:PZ [] w₀ Z):
  Calls Tryz.prog 124 #[(.agg #[(vi zh5.fN),(vi zh5.fD)]),(.agg #[(vi zh6.fN),(vi zh6.fD)])] w₀ fun e w'=>e = .returned (.tuple #[(.agg #[(vi r.1.fN),(vi r.1.fD)]),(vi r.2)])∧Hp [] w₀ w' []:=by
 unfold y2y at h
 refine Lz Tryz.func124 Tryz.ntmps124 ?_
 refine WC.b<|Ld (Lg 2 (yH (cs:=[(vi zh5.fN),(vi zh5.fD)]) U U) fun z178 _=>Lg 3 (yH (cs:=[(vi zh6.fN),(vi zh6.fD)]) U U) fun z179 _=>Lg 4 (yv (cs:=[(vi 0),(vi 0)]) zW U) fun z17a _=>La U<|WL.nil<|Lb<|WC.b ?_)
 obtain⟨zyq,zUg,h⟩:=za h
 refine Ld<|Le 6 (yi zg U (yk .h2) U)<|Le 7 (yi zg U (yk .h1) U)<|Ll 8 (zb Tryz.call159<|.r3 U U U) .nil (cc hz .nil fun w pz ho=>yiH zUg w pz )<|La U<|La U<|Lk U U (yl zA U U U .here U U U)<|La U<|WL.nil<|Lb<|WC.ret ?_
 obtain rfl:=oJ h
 refine Lh Tryz.results124 (.agg U zg U (yk .here)<|.tmp U .nil)<|fun w hw=>?_
 exact⟨y1R U U,hw.sub .nil⟩
end Go.Proofs.YthjnhebofpebpaaGreat
