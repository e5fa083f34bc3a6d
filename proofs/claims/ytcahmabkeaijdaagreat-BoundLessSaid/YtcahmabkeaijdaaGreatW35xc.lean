/- A part of this claim's proof: models of functions, walks, plain laws. No conditions. -/
import Derived.Test.YtcahmabkeaijdaaGreatW35xb
set_option linter.all false
namespace Go.Proofs.YtcahmabkeaijdaaGreat
open Go Go.RowKit Sep
set_option maxRecDepth 30000
set_option maxHeartbeats 4000000
def y2t(zW:List (List zd))(zQ:za)(ze:zB)(z1q:List (za×Int))(zao:(List (List z7))→Int→Int→(List (Int×List Int))→(List (zO×z2))→Option (List (List z7)×Int×Int×(List (zO×z2)))):Nat→(List (List z7))→Int→Int→Int→(List (Int×List Int))→(List (zO×z2))→Option (List (List z7)×Int×Int×(List (zO×z2)))
 | 0,_,_,_,_,_,_=>none
 | zsf+1,z2M,z5B,zX,z4t,z2p,z2N=>if decide (zX<((zW.length:Nat):Int)) then jp5 (fun(z8i:List (List z7)) (zap:Int) (zaq:Int) (zar:List (Int×List Int)) (zas:List (zO×z2))=>y2t zW zQ ze z1q zao zsf z8i zap (i64 (zX+1)) zaq zar zas) fun zmM=>chk ((0:Int)≤zX∧zX<((zW.length:Nat):Int)) ((y1a (nth zW zX) (fun(y0:zd)=>y3U y0 zQ)).bind fun zAo=>if !zAo then zmM z2M z5B z4t z2p z2N else chk ((0:Int)≤zX∧zX<((ze.fVLs.length:Nat):Int)) (chk ((0:Int)≤zX∧zX<((ze.fVLs.length:Nat):Int)) ((y2n ((nth ze.fVLs zX).fMax)).bind fun z2O=>jp5 (fun(z8j:List (List z7)) (zat:Int) (zau:List (Int×List Int)) (z8O:Int) (z8P:Int)=>zmM z8j (max z5B ((nth ze.fVLs zX).fMax)) zat zau (yE z2N (⟨zX,zQ⟩:zO) (⟨z8O,z8P⟩:z2))) fun zmN=>(y5c (nth zW zX) zQ.fNode).bind fun z2a=>if z2a.2 then(y49 z2a.1).bind fun zcz=>(y3v ze zW z2N z1q z4t zX).bind fun zAp=>(y49 z2a.1).bind fun zsg=>(y2n (yd z1q zsg 0)).bind fun zAq=>(y3A ze zW z2N z1q z4t (fun(y0:z2) (y1:z2)=>y3g y0 y1) zAp zAq).bind fun zsh=>(y3A ze zW z2N z1q zsh.2 (fun(y0:z2) (y1:z2)=>y1e y0 y1) (⟨((yd z2N (⟨zX,zcz⟩:zO) (⟨0,0⟩:z2)).fN),((yd z2N (⟨zX,zcz⟩:zO) (⟨0,0⟩:z2)).fD)⟩:z2) zsh.1).bind fun z8Q=>chk (((((yd z2p z2a.1.fQ [])++([zX]:List Int)).length:Nat):Int)*8≤140737488355328∧((((yd z2p z2a.1.fQ [])++([zX]:List Int)).length:Nat):Int)≤4611686018427387904) (zmN z2M z8Q.2 (yE z2p z2a.1.fQ ((yd z2p z2a.1.fQ [])++([zX]:List Int))) z8Q.1.fN z8Q.1.fD) else(y3v ze zW z2N z1q z4t zX).bind fun z4u=>chk ((((z2M++([([(⟨z2O,z4u⟩:z7)]:List z7)]:List (List z7))).length:Nat):Int)*24≤140737488355328∧(((z2M++([([(⟨z2O,z4u⟩:z7)]:List z7)]:List (List z7))).length:Nat):Int)≤4611686018427387904) (zmN (z2M++([([(⟨z2O,z4u⟩:z7)]:List z7)]:List (List z7))) z4t z2p z2O.fN z2O.fD)))) else zao z2M z5B z4t z2p z2N
theorem y8C{n:Nat}{zW:List (List zd)}{zQ:za}{ze:zB}{z1q:List (za×Int)}{zao:(List (List z7))→Int→Int→(List (Int×List Int))→(List (zO×z2))→Option (List (List z7)×Int×Int×(List (zO×z2)))}{z2M:List (List z7)}{z5B:Int}{zX:Int}{z4t:Int}{z2p:List (Int×List Int)}{z2N:List (zO×z2)}{r:List (List z7)×Int×Int×(List (zO×z2))}(h:y2t zW zQ ze z1q zao n z2M z5B zX z4t z2p z2N=some r):∃ m,n=m+1:=by
 cases n with
 | zero=>cases h
 | succ m=>exact⟨m,rfl⟩
def y2u(z1P:List (Int×List Int))(zI:Int)(ze:zB)(zW:List (List zd))(z2b:List (zO×z2))(z1q:List (za×Int))(zQ:za)(zav:Int→Int→Int→Int→Int→Int→Option (List (List z7)×Int×Int×(List (zO×z2)))):Nat→Int→Int→Int→Int→Int→Int→Int→Option (List (List z7)×Int×Int×(List (zO×z2)))
 | 0,_,_,_,_,_,_,_=>none
 | zsi+1,z6L,z2P,z7o,z6M,z6N,z5U,z5V=>if decide (z2P<(((yd z1P zI []).length:Nat):Int)) then chk ((0:Int)≤z2P∧z2P<(((yd z1P zI []).length:Nat):Int)) ((y3A ze zW z2b z1q z7o (fun(y0:z2) (y1:z2)=>y1e y0 y1) (⟨z6M,z6N⟩:z2) (⟨((yd z2b (⟨(nth (yd z1P zI []) z2P),zQ⟩:zO) (⟨0,0⟩:z2)).fN),((yd z2b (⟨(nth (yd z1P zI []) z2P),zQ⟩:zO) (⟨0,0⟩:z2)).fD)⟩:z2)).bind fun z8k=>(y3v ze zW z2b z1q z8k.2 (nth (yd z1P zI []) z2P)).bind fun zAr=>(y3A ze zW z2b z1q z8k.2 (fun(y0:z2) (y1:z2)=>y1e y0 y1) (⟨z5U,z5V⟩:z2) zAr).bind fun zaw=>chk ((0:Int)≤(nth (yd z1P zI []) z2P)∧(nth (yd z1P zI []) z2P)<((ze.fVLs.length:Nat):Int)) (y2u z1P zI ze zW z2b z1q zQ zav zsi (max z6L ((nth ze.fVLs (nth (yd z1P zI []) z2P)).fMax)) (i64 (z2P+1)) zaw.2 z8k.1.fN z8k.1.fD zaw.1.fN zaw.1.fD)) else zav z6L z7o z6M z6N z5U z5V
theorem y8D{n:Nat}{z1P:List (Int×List Int)}{zI:Int}{ze:zB}{zW:List (List zd)}{z2b:List (zO×z2)}{z1q:List (za×Int)}{zQ:za}{zav:Int→Int→Int→Int→Int→Int→Option (List (List z7)×Int×Int×(List (zO×z2)))}{z6L:Int}{z2P:Int}{z7o:Int}{z6M:Int}{z6N:Int}{z5U:Int}{z5V:Int}{r:List (List z7)×Int×Int×(List (zO×z2))}(h:y2u z1P zI ze zW z2b z1q zQ zav n z6L z2P z7o z6M z6N z5U z5V=some r):∃ m,n=m+1:=by
 cases n with
 | zero=>cases h
 | succ m=>exact⟨m,rfl⟩
def y2v(ze:zB)(z1P:List (Int×List Int))(zW:List (List zd))(z2b:List (zO×z2))(z1q:List (za×Int))(zQ:za)(zax:(List (List z7))→Int→Option (List (List z7)×Int×Int×(List (zO×z2)))):Nat→(List (List z7))→Int→Int→Option (List (List z7)×Int×Int×(List (zO×z2)))
 | 0,_,_,_=>none
 | zsj+1,z2D,zI,z5W=>if decide (zI<((ze.fK.length:Nat):Int)) then jp2 (fun(z8l:List (List z7)) (zay:Int)=>y2v ze z1P zW z2b z1q zQ zax zsj z8l (i64 (zI+1)) zay) fun zmO=>if decide ((((yd z1P zI []).length:Nat):Int)=0) then zmO z2D z5W else(y2n 0).bind fun zep=>(y2n 0).bind fun zeq=>jp6 (fun(zcA:Int) (zaz:Int) (z3b:Int) (z3c:Int) (z3d:Int) (z3e:Int)=>(y2n zcA).bind fun z4v=>chk ((0:Int)≤zI∧zI<((ze.fK.length:Nat):Int)) (chk ((((z2D++([([(⟨(⟨z3b,z3c⟩:z2),(⟨z3d,z3e⟩:z2)⟩:z7),(⟨z4v,(⟨1,((nth ze.fK zI).fSlow)⟩:z2)⟩:z7)]:List z7)]:List (List z7))).length:Nat):Int)*24≤140737488355328∧(((z2D++([([(⟨(⟨z3b,z3c⟩:z2),(⟨z3d,z3e⟩:z2)⟩:z7),(⟨z4v,(⟨1,((nth ze.fK zI).fSlow)⟩:z2)⟩:z7)]:List z7)]:List (List z7))).length:Nat):Int)≤4611686018427387904) (zmO (z2D++([([(⟨(⟨z3b,z3c⟩:z2),(⟨z3d,z3e⟩:z2)⟩:z7),(⟨z4v,(⟨1,((nth ze.fK zI).fSlow)⟩:z2)⟩:z7)]:List z7)]:List (List z7))) zaz))) fun zav=>y2u z1P zI ze zW z2b z1q zQ zav yy 0 0 z5W zep.fN zep.fD zeq.fN zeq.fD else zax z2D z5W
theorem y8E{n:Nat}{ze:zB}{z1P:List (Int×List Int)}{zW:List (List zd)}{z2b:List (zO×z2)}{z1q:List (za×Int)}{zQ:za}{zax:(List (List z7))→Int→Option (List (List z7)×Int×Int×(List (zO×z2)))}{z2D:List (List z7)}{zI:Int}{z5W:Int}{r:List (List z7)×Int×Int×(List (zO×z2))}(h:y2v ze z1P zW z2b z1q zQ zax n z2D zI z5W=some r):∃ m,n=m+1:=by
 cases n with
 | zero=>cases h
 | succ m=>exact⟨m,rfl⟩
def y4o(ze:zB)(zW:List (List zd))(zaA:List (zO×z2))(z1q:List (za×Int))(zaB:Int)(zQ:za):Option (List (List z7)×Int×Int×(List (zO×z2))):=
 jp5 (fun(z2Q:List (List z7)) (z6O:Int) (zaC:Int) (z1P:List (Int×List Int)) (z2b:List (zO×z2))=>jp2 (fun(z6j:List (List z7)) (zcB:Int)=>chk ((((z2Q++z6j).length:Nat):Int)*24≤140737488355328∧(((z2Q++z6j).length:Nat):Int)≤4611686018427387904) (some ((z2Q++z6j),z6O,zcB,z2b))) fun zax=>y2v ze z1P zW z2b z1q zQ zax yy ([]:List (List z7)) 0 zaC) fun zao=>y2t zW zQ ze z1q zao yy ([]:List (List z7)) 0 0 zaB ([]:List (Int×List Int)) zaA
theorem ybm(Z:Zp)(z2w:Nat)(z4T:Option Addr)(z4U:Nat)(z4V:Option Addr)(z4W:Nat)(z4X:Option Addr)(z4Y:Nat)(z4Z:Option Addr)(z52:Nat)(z54:Option Addr)(z56:Nat)(z57:Option Addr)(z58:Nat)(z59:Option Addr)(z5a:Nat)(z5b:Option Addr)(z5c:Nat)(z3P:Option Addr)(z3Q:Nat)(z1Z:Nat)(z21:Nat)(ze:zB)(zW:List (List zd))(zaA:List (zO×z2))(z1q:List (za×Int))(zaB:Int)(zQ:za)(r:List (List z7)×Int×Int×(List (zO×z2)))(h:y4o ze zW zaA z1q zaB zQ=some r)(w₀:World)(hz:PZ (fps [stb z2w 95 [(.slice z4T ze.fM.length z4U),(.slice z4V ze.fC0.length z4W),(.slice z4X ze.fS.length z4Y),(.slice z4Z ze.fK.length z52),(.slice z54 ze.fVLs.length z56),(.slice z57 ze.fH.length z58),(.slice z59 ze.fU.length z5a),(.slice z5b ze.fV0.length z5c),(.slice z3P zW.length z3Q),(.map (some z1Z)),(.map (some z21)),(.int .i64 zaB)],yA z1Z (fun x=>Value.agg (y2o x).toArray) (fun x=>Value.agg (yw x).toArray) zaA,yA z21 (fun x=>Value.agg (e97 x).toArray) (Value.int .i64) z1q]) w₀ Z)(zer:ZS Z 4 (y48 Z) z4T z4U ze.fM)(zes:ZS Z 4 (y4M Z) z4V z4W ze.fC0)(zet:ZS Z 4 (fun r x=>r=e66 x) z4X z4Y ze.fS)(zcC:ZS Z 4 (fun r x=>r=e64 x) z4Z z52 ze.fK)(z8R:ZS Z 7 (p46 Z) z54 z56 ze.fVLs)(zeu:ZS Z 5 (fun r x=>r=y4Z x) z57 z58 ze.fH)(zev:ZS Z 3 (y4N Z) z59 z5a ze.fU)(zew:ZS Z 4 (fun r x=>r=y50 x) z5b z5c ze.fV0)(zcD:ZS Z 1 (p48 Z) z3P z3Q zW)(hown:Hp (fps [stb z2w 95 [(.slice z4T ze.fM.length z4U),(.slice z4V ze.fC0.length z4W),(.slice z4X ze.fS.length z4Y),(.slice z4Z ze.fK.length z52),(.slice z54 ze.fVLs.length z56),(.slice z57 ze.fH.length z58),(.slice z59 ze.fU.length z5a),(.slice z5b ze.fV0.length z5c),(.slice z3P zW.length z3Q),(.map (some z1Z)),(.map (some z21)),(.int .i64 zaB)],yA z1Z (fun x=>Value.agg (y2o x).toArray) (fun x=>Value.agg (yw x).toArray) zaA,yA z21 (fun x=>Value.agg (e97 x).toArray) (Value.int .i64) z1q]) w₀ w₀ [stb z2w 95 [(.slice z4T ze.fM.length z4U),(.slice z4V ze.fC0.length z4W),(.slice z4X ze.fS.length z4Y),(.slice z4Z ze.fK.length z52),(.slice z54 ze.fVLs.length z56),(.slice z57 ze.fH.length z58),(.slice z59 ze.fU.length z5a),(.slice z5b ze.fV0.length z5c),(.slice z3P zW.length z3Q),(.map (some z1Z)),(.map (some z21)),(.int .i64 zaB)],yA z1Z (fun x=>Value.agg (y2o x).toArray) (fun x=>Value.agg (yw x).toArray) zaA,yA z21 (fun x=>Value.agg (e97 x).toArray) (Value.int .i64) z1q]):
  Calls Tryz.prog 42 #[(.pointer (some ⟨z2w,0,none⟩)),(.agg #[(.int .i64 zQ.fNode),(.int .i64 zQ.fQ)])] w₀ fun e w'=>∃ Zn:Zp,∃ zAs:Option Addr,∃ zAt:Nat,∃ zAu:List Value,e = .returned (.tuple #[(.slice zAs r.1.length zAt),(.int .i64 r.2.1)])∧(RR 1 (y1W (Z++Zn)) zAu r.1)∧Hp (fps [stb z2w 95 [(.slice z4T ze.fM.length z4U),(.slice z4V ze.fC0.length z4W),(.slice z4X ze.fS.length z4Y),(.slice z4Z ze.fK.length z52),(.slice z54 ze.fVLs.length z56),(.slice z57 ze.fH.length z58),(.slice z59 ze.fU.length z5a),(.slice z5b ze.fV0.length z5c),(.slice z3P zW.length z3Q),(.map (some z1Z)),(.map (some z21)),(.int .i64 zaB)],yA z1Z (fun x=>Value.agg (y2o x).toArray) (fun x=>Value.agg (yw x).toArray) zaA,yA z21 (fun x=>Value.agg (e97 x).toArray) (Value.int .i64) z1q]) w₀ w' [fz Zn,row (.slice zAs r.1.length zAt) 173 1 zAu,stb z2w 95 [(.slice z4T ze.fM.length z4U),(.slice z4V ze.fC0.length z4W),(.slice z4X ze.fS.length z4Y),(.slice z4Z ze.fK.length z52),(.slice z54 ze.fVLs.length z56),(.slice z57 ze.fH.length z58),(.slice z59 ze.fU.length z5a),(.slice z5b ze.fV0.length z5c),(.slice z3P zW.length z3Q),(.map (some z1Z)),(.map (some z21)),(.int .i64 r.2.2.1)],yA z1Z (fun x=>Value.agg (y2o x).toArray) (fun x=>Value.agg (yw x).toArray) r.2.2.2,yA z21 (fun x=>Value.agg (e97 x).toArray) (Value.int .i64) z1q]:=by
 unfold y4o at h
 refine Calls.oh2 Tryz.func42 Tryz.ntmps42 hown ?_
 refine WC.pool (WC.b (WC.a (WL.nA 3 (yI (cs:=[(.int .i64 zQ.fNode),(.int .i64 zQ.fQ)]) rfl rfl) ?_)))
 intro z49 _
 refine WL.pu rfl (WL.pu rfl (WL.nil (WX.a (WC.b (WC.a (WL.pu rfl (WL.pu rfl (WL.nil (WX.a (WC.b (WC.a (WL.nA 20 (y4B (Value.int .i64) (slv (α:=Int))) ?_))))))))))))
 intro z4w _
 refine WL.ghL (M:=[y5j (y5k 3 1 e3) ([]:List (Int×((Nat×(Option Addr×Nat))×List Int))),yA z4w (Value.int .i64) slv (y6r ([]:List (Int×((Nat×(Option Addr×Nat))×List Int)))),stb z49 97 [(.int .i64 zQ.fNode),(.int .i64 zQ.fQ)],fz [],stb z2w 95 [(.slice z4T ze.fM.length z4U),(.slice z4V ze.fC0.length z4W),(.slice z4X ze.fS.length z4Y),(.slice z4Z ze.fK.length z52),(.slice z54 ze.fVLs.length z56),(.slice z57 ze.fH.length z58),(.slice z59 ze.fU.length z5a),(.slice z5b ze.fV0.length z5c),(.slice z3P zW.length z3Q),(.map (some z1Z)),(.map (some z21)),(.int .i64 zaB)],yA z1Z (fun x=>Value.agg (y2o x).toArray) (fun x=>Value.agg (yw x).toArray) zaA,yA z21 (fun x=>Value.agg (e97 x).toArray) (Value.int .i64) z1q]) (fun _ h=>Hp.ygM (y5k 3 1 e3) h) (WL.pu rfl (WL.nil (WX.a (WC.b (WC.a (WL.pu rfl (WL.nil (WX.a ?_))))))))
 obtain⟨zao,zJo,h⟩:=ycM h
 refine WC.ya0 (fun(z2Q:List (List z7)) (z6O:Int) (zaC:Int) (z1P:List (Int×List Int)) (z2b:List (zO×z2)) (zaD:Zp) (z5X:Option Addr) (z5Y:Nat) (z7p:List Value) (z6k:List (Int×((Nat×(Option Addr×Nat))×List Int)))=>(zao z2Q z6O zaC z1P z2b=some r)∧(Zle (Z++[]) (Z++zaD))∧(RR 1 (y1W (Z++zaD)) z7p z2Q)∧(dat z6k=z1P)) (fun z2Q z6O zaC z1P z2b zaD z5X z5Y z7p z6k=>[(0,(.pointer (some ⟨z2w,0,none⟩))),(3,(.pointer (some ⟨z49,0,none⟩))),(6,(.slice z5X z2Q.length z5Y)),(7,(.slice none 0 0)),(8,(.map (some z4w))),(9,(.int .i64 z6O))]) (fun z2Q z6O zaC z1P z2b zaD z5X z5Y z7p z6k=>[fz zaD,row (.slice z5X z2Q.length z5Y) 173 1 z7p,stb z2w 95 [(.slice z4T ze.fM.length z4U),(.slice z4V ze.fC0.length z4W),(.slice z4X ze.fS.length z4Y),(.slice z4Z ze.fK.length z52),(.slice z54 ze.fVLs.length z56),(.slice z57 ze.fH.length z58),(.slice z59 ze.fU.length z5a),(.slice z5b ze.fV0.length z5c),(.slice z3P zW.length z3Q),(.map (some z1Z)),(.map (some z21)),(.int .i64 zaC)],stb z49 97 [(.int .i64 zQ.fNode),(.int .i64 zQ.fQ)],yA z4w (Value.int .i64) slv (y6r z6k),y5j (y5k 3 1 e3) z6k,yA z1Z (fun x=>Value.agg (y2o x).toArray) (fun x=>Value.agg (yw x).toArray) z2b,yA z21 (fun x=>Value.agg (e97 x).toArray) (Value.int .i64) z1q]) ?_ ?_
 ·skip
  refine WC.b (WC.a (WL.pu rfl (WL.qA 22 (y14 rfl) (WL.qA 23 (ya fo_95_1 rfl rfl) (WL.qA 24 (yc ygf rfl (yk .h4 rfl)) (WL.qA 25 (yH Tryz.underlying32 rfl) (WL.pu rfl (WL.nil (WX.a (WC.block (WC.nilRow 173 1 (WC.yhe (fun(zgC:Nat) (z2M:List (List z7)) (z5B:Int) (zX:Int) (z4t:Int) (z2p:List (Int×List Int)) (z2N:List (zO×z2)) (z4a:Zp) (z8S:Option Addr) (z8T:Nat) (z7q:List Value) (z6P:List (Int×((Nat×(Option Addr×Nat))×List Int)))=>(y2t zW zQ ze z1q zao zgC z2M z5B zX z4t z2p z2N=some r)∧(Zle (Z++[]) (Z++z4a))∧(RR 1 (y1W (Z++z4a)) z7q z2M)∧(dat z6P=z2p)) (fun zgC z2M z5B zX z4t z2p z2N z4a z8S z8T z7q z6P=>[(0,(.pointer (some ⟨z2w,0,none⟩))),(3,(.pointer (some ⟨z49,0,none⟩))),(6,(.slice z8S z2M.length z8T)),(7,(.slice none 0 0)),(8,(.map (some z4w))),(9,(.int .i64 z5B)),(24,(.slice z3P zW.length z3Q)),(25,(.int .i64 ((zW.length:Nat):Int))),(26,(.int .i64 zX))]) (fun zgC z2M z5B zX z4t z2p z2N z4a z8S z8T z7q z6P=>[fz z4a,row (.slice z8S z2M.length z8T) 173 1 z7q,stb z2w 95 [(.slice z4T ze.fM.length z4U),(.slice z4V ze.fC0.length z4W),(.slice z4X ze.fS.length z4Y),(.slice z4Z ze.fK.length z52),(.slice z54 ze.fVLs.length z56),(.slice z57 ze.fH.length z58),(.slice z59 ze.fU.length z5a),(.slice z5b ze.fV0.length z5c),(.slice z3P zW.length z3Q),(.map (some z1Z)),(.map (some z21)),(.int .i64 z4t)],stb z49 97 [(.int .i64 zQ.fNode),(.int .i64 zQ.fQ)],yA z4w (Value.int .i64) slv (y6r z6P),y5j (y5k 3 1 e3) z6P,yA z1Z (fun x=>Value.agg (y2o x).toArray) (fun x=>Value.agg (yw x).toArray) z2N,yA z21 (fun x=>Value.agg (e97 x).toArray) (Value.int .i64) z1q]) (fun zgC z2M z5B zX z4t z2p z2N z4a z8S z8T z7q z6P=>zgC) ⟨yy,([]:List (List z7)),0,0,zaB,([]:List (Int×List Int)),zaA,[],none,0,[],([]:List (Int×((Nat×(Option Addr×Nat))×List Int)))⟩ ⟨h,(Zle.refl _),(RR.nil _ _),rfl⟩ (.r9 rfl rfl rfl rfl rfl rfl rfl rfl rfl) (.s8 .h4 .here .h3 .h2 .h1 .here .here .here) ?_))))))))))))
  rintro zgC z2M z5B zX z4t z2p z2N z4a z8S z8T z7q z6P ⟨h,zJ,zmP,zjT⟩
  obtain⟨zsf,rfl⟩:=y8C h
  rw[y2t] at h
  refine WC.b (WC.a (WL.pu rfl (WL.nil (WX.a (WC.b (WC.cond rfl (fun zsk=>?_) (fun zsk=>?_)))))))
  ·replace h:=yp h zsk
   refine WC.skip (WX.a ?_)
   obtain⟨zmM,zJp,h⟩:=ycM h
   refine WC.ya0 (fun(z8i:List (List z7)) (zap:Int) (zaq:Int) (zar:List (Int×List Int)) (zas:List (zO×z2)) (zex:Zp) (zgD:Option Addr) (zgE:Nat) (zgF:List Value) (zey:List (Int×((Nat×(Option Addr×Nat))×List Int)))=>(zmM z8i zap zaq zar zas=some r)∧(Zle (Z++z4a) (Z++zex))∧(RR 1 (y1W (Z++zex)) zgF z8i)∧(dat zey=zar)) (fun z8i zap zaq zar zas zex zgD zgE zgF zey=>[(0,(.pointer (some ⟨z2w,0,none⟩))),(3,(.pointer (some ⟨z49,0,none⟩))),(6,(.slice zgD z8i.length zgE)),(7,(.slice none 0 0)),(8,(.map (some z4w))),(9,(.int .i64 zap)),(24,(.slice z3P zW.length z3Q)),(25,(.int .i64 ((zW.length:Nat):Int))),(26,(.int .i64 zX))]) (fun z8i zap zaq zar zas zex zgD zgE zgF zey=>[fz zex,row (.slice zgD z8i.length zgE) 173 1 zgF,stb z2w 95 [(.slice z4T ze.fM.length z4U),(.slice z4V ze.fC0.length z4W),(.slice z4X ze.fS.length z4Y),(.slice z4Z ze.fK.length z52),(.slice z54 ze.fVLs.length z56),(.slice z57 ze.fH.length z58),(.slice z59 ze.fU.length z5a),(.slice z5b ze.fV0.length z5c),(.slice z3P zW.length z3Q),(.map (some z1Z)),(.map (some z21)),(.int .i64 zaq)],stb z49 97 [(.int .i64 zQ.fNode),(.int .i64 zQ.fQ)],yA z4w (Value.int .i64) slv (y6r zey),y5j (y5k 3 1 e3) zey,yA z1Z (fun x=>Value.agg (y2o x).toArray) (fun x=>Value.agg (yw x).toArray) zas,yA z21 (fun x=>Value.agg (e97 x).toArray) (Value.int .i64) z1q]) ?_ ?_
   ·skip
    refine WC.block (WC.b ?_)
    obtain⟨zJq,h⟩:=yo h
    refine WC.a (WL.pu rfl (WL.znth (dd:=29) rfl rfl (Z:=(Z++z4a)) (Pr:=(p48 (Z++z4a))) y7h rfl rfl ((zcD.mono ((Zle.left _ _).trans zJ)).weak (fun _ _ h=>y1Q ((Zle.left _ _).trans zJ) h)) zJq ?_))
    rintro zWd zWe zJr zWf ⟨zWg,zWh,rfl,zAv⟩
    refine WL.qA 30 (yc y7E rfl (y5I (hz.pv2 .here) zJr rfl)) (WL.pu rfl (WL.pu rfl (WL.nil (WX.a (WC.b (WC.b ?_))))))
    obtain⟨zAo,zJs,h⟩:=z8 h
    refine WC.a (WL.pu rfl (WL.qA 32 (y19 (Eos.caps (l:=[.tmp 3]) (.cons rfl .nil))) (WL.cA 33 (zb Tryz.call37 (.r2 rfl rfl)) .nil (cclz hz .nil .here (.cons .h3 .nil) fun w pz ho la=>y68 _ _ _ (zgu:=67) (zmG:=[(.pointer (some ⟨z49,0,none⟩))]) _ (zgt:=(fun(y0:zd)=>y3U y0 zQ)) _ zJs w pz (zAv.mono (Zle.left _ _)) Tryz.call67 (fun w' hz' y0  r  hr=>yau _ _ _ _ _ hr w' hz' ((la _ (.head _) _).stb))) (WL.pu rfl (WL.nil (WX.a (WC.cond rfl (fun zsl=>?_) (fun zsl=>?_))))))))
    ·replace h:=yp h zsl
     refine WC.exit (WX.yg (WX.yz ?_))
     exact WX.mid ⟨z2M,z5B,z4t,z2p,z2N,z4a,z8S,z8T,z7q,z6P⟩ ⟨h,(Zle.refl _),zmP,zjT⟩ (.r9 rfl rfl rfl rfl rfl rfl rfl rfl rfl) (.s8 .here .here .here .here .here .here .here .here)
    ·replace h:=yq h zsl
     refine WC.skip (WX.a (WC.b ?_))
     obtain⟨zJt,h⟩:=yo h
     refine WC.a (WL.pu rfl (WL.pu rfl (WL.qA 37 (y14 rfl) (WL.qA 38 (ya y6n rfl rfl) (WL.qA 39 (ya y3E rfl rfl) (WL.qA 40 (yc y4j rfl (yk .h2 rfl)) (WL.pu rfl (WL.znth (dd:=42) rfl rfl (Z:=(Z++z4a)) (Pr:=(p46 (Z++z4a))) y4U rfl rfl ((z8R.mono ((Zle.left _ _).trans zJ)).weak (fun _ _ h=>y1m ((Zle.left _ _).trans zJ) h)) zJt ?_))))))))
     rintro zWi zWj zJu zWk ⟨zWl,zWm,rfl,zWn⟩
     refine WL.qA 43 (ya y7F rfl rfl) (WL.qA 44 (yc yt rfl (y1l (hz.pv2 .here) zJu rfl)) (WL.qA 45 (q_max rfl rfl rfl) (WL.pu rfl (WL.nil (WX.a (WC.b ?_))))))
     obtain⟨zJv,h⟩:=yo h
     obtain⟨z2O,zJw,h⟩:=z8 h
     refine WC.a (WL.pu rfl (WL.qA 47 (y14 rfl) (WL.qA 48 (ya y6n rfl rfl) (WL.qA 49 (ya y3E rfl rfl) (WL.qA 50 (yc y4j rfl (yk .h2 rfl)) (WL.pu rfl (WL.znth (dd:=52) rfl rfl (Z:=(Z++z4a)) (Pr:=(p46 (Z++z4a))) y4U rfl rfl ((z8R.mono ((Zle.left _ _).trans zJ)).weak (fun _ _ h=>y1m ((Zle.left _ _).trans zJ) h)) zJv ?_)))))))
     rintro zWo zWp zJx zWq ⟨zWr,zWs,rfl,zWt⟩
     refine WL.qA 53 (ya y7F rfl rfl) (WL.qA 54 (yc yt rfl (y1l (hz.pv2 .here) zJx rfl)) (WL.cA 55 (zb Tryz.call43 (.cons rfl .nil)) .nil (ccz hz .nil .here fun w pz ho=>y4R _ _ _ zJw w pz ) (WL.nA 12 (yv (cs:=[(.int .i64 0),(.int .i64 0)]) zT rfl) ?_)))
     intro zmQ _
     refine WL.ym rfl rfl (yl zz rfl rfl rfl .here rfl rfl rfl) (WL.nil (WX.a ?_))
     obtain⟨zmN,zJy,h⟩:=ycM h
     refine WC.ya0 (fun(z8j:List (List z7)) (zat:Int) (zau:List (Int×List Int)) (z8O:Int) (z8P:Int) (zez:Zp) (zgG:Option Addr) (zgH:Nat) (zgI:List Value) (zeA:List (Int×((Nat×(Option Addr×Nat))×List Int)))=>(zmN z8j zat zau z8O z8P=some r)∧(Zle (Z++z4a) (Z++zez))∧(RR 1 (y1W (Z++zez)) zgI z8j)∧(dat zeA=zau)) (fun z8j zat zau z8O z8P zez zgG zgH zgI zeA=>[(0,(.pointer (some ⟨z2w,0,none⟩))),(3,(.pointer (some ⟨z49,0,none⟩))),(6,(.slice zgG z8j.length zgH)),(7,(.slice none 0 0)),(8,(.map (some z4w))),(9,(.int .i64 (max z5B ((nth ze.fVLs zX).fMax)))),(10,(.int .i64 zX)),(12,(.pointer (some ⟨zmQ,0,none⟩))),(24,(.slice z3P zW.length z3Q)),(25,(.int .i64 ((zW.length:Nat):Int))),(26,(.int .i64 zX))]) (fun z8j zat zau z8O z8P zez zgG zgH zgI zeA=>[fz zez,row (.slice zgG z8j.length zgH) 173 1 zgI,stb z2w 95 [(.slice z4T ze.fM.length z4U),(.slice z4V ze.fC0.length z4W),(.slice z4X ze.fS.length z4Y),(.slice z4Z ze.fK.length z52),(.slice z54 ze.fVLs.length z56),(.slice z57 ze.fH.length z58),(.slice z59 ze.fU.length z5a),(.slice z5b ze.fV0.length z5c),(.slice z3P zW.length z3Q),(.map (some z1Z)),(.map (some z21)),(.int .i64 zat)],stb z49 97 [(.int .i64 zQ.fNode),(.int .i64 zQ.fQ)],yA z4w (Value.int .i64) slv (y6r zeA),y5j (y5k 3 1 e3) zeA,stb zmQ 132 [(.int .i64 z8O),(.int .i64 z8P)],yA z1Z (fun x=>Value.agg (y2o x).toArray) (fun x=>Value.agg (yw x).toArray) z2N,yA z21 (fun x=>Value.agg (e97 x).toArray) (Value.int .i64) z1q]) ?_ ?_
     ·skip
      refine WC.b ?_
      obtain⟨z2a,zJz,h⟩:=z8 h
      refine WC.a (WL.pu rfl (WL.qA 58 (ya y9h rfl rfl) (WL.qA 59 (yc yt rfl (yk .h4 rfl)) (WL.cA 60 (zb Tryz.call39 (.r2 rfl rfl)) .nil (ccz hz .nil .h1 fun w pz ho=>y9n _ _ _ _ _ _ zJz w pz zAv) (WL.pu rfl (WL.pu rfl (WL.pu rfl (WL.nA 13 (yv (cs:=[(.int .i64 0),(.int .i64 0),(.int .i64 0)]) y6L rfl) ?_))))))))
      intro zsm _
      refine WL.ym rfl rfl (yl y70 rfl rfl rfl .here rfl rfl rfl) (WL.pu rfl (WL.nil (WX.a (WC.b (WC.a (WL.pu rfl (WL.nil (WX.a (WC.cond rfl (fun zsn=>?_) (fun zsn=>?_))))))))))
      ·replace h:=yp h zsn
       refine WC.b ?_
       obtain⟨zcz,zJA,h⟩:=z8 h
       obtain⟨zAp,zJB,h⟩:=z8 h
       obtain⟨zsg,zJC,h⟩:=z8 h
       obtain⟨zAq,zJD,h⟩:=z8 h
       obtain⟨zsh,zJE,h⟩:=z8 h
       obtain⟨z8Q,zJF,h⟩:=z8 h
       refine WC.yP (fun i=>[13,22,23,24].contains i) [y7q z2w 95 [(9,(.map (some z1Z))),(10,(.map (some z21)))],ydb z1Z (fun x=>Value.agg (y2o x).toArray) (fun x=>Value.agg (yw x).toArray) (⟨zX,zcz⟩:zO) ((⟨0,0⟩:z2):z2) (yd z2N (⟨zX,zcz⟩:zO) (⟨0,0⟩:z2)),stb zsm 62 [(.int .i64 z2a.1.fNode),(.int .i64 z2a.1.fNext),(.int .i64 z2a.1.fQ)]] rfl (WD.pA 0 64 rfl (fun _=>q_m rfl) (WD.pA 1 65 rfl (fun _=>q_m rfl) (WD.pA 2 66 rfl (fun _=>y14 rfl) (WD.pA 3 67 rfl (fun _=>ya ydP rfl rfl) (WD.sA 4 68 rfl (Sin.wk (.s3 .h4 .h7 .here) (.stb (.cons rfl (.cons rfl .nil)) (.any rfl (fun _ h=>y6K h) (.same .nil)))) (yc ydQ rfl (y5S .here (.head _))) (WD.pA 5 69 rfl (fun _=>q_m rfl) (WD.qA 6 70 rfl (yh y3Q rfl (yi .here) rfl) (WD.eA 7 71 rfl (zb Tryz.call40 (.cons rfl .nil)) (ccz hz .nil .h2 fun w pz ho=>y5y _ _ _ zJA w pz ) (WD.pA 8 72 rfl (fun _=>yL (v:=(.agg #[(.int .i64 zX),(.int .i64 zcz.fNode),(.int .i64 zcz.fQ)])) (Eos.parts (l:=[.tmp 69,.tmp 71]) (.r2 rfl rfl) [0,1]) (fun _=>by kernel_rfl)) (WD.sA 9 73 rfl (Sin.wk (.s3 .h4 .h7 .here) (.stb (.cons rfl (.cons rfl .nil)) (.any rfl (fun _ h=>y6K h) (.same .nil)))) (yer (k:=(⟨zX,zcz⟩:zO)) (dflt:=((⟨0,0⟩:z2):z2)) zoE Tryz.underlying92 zT rfl rfl rfl .h1) (WD.pA 10 74 rfl (fun _=>q_m rfl) (WD.pA 11 75 rfl (fun _=>q_m rfl) (WD.pA 12 76 rfl (fun _=>q_m rfl) (WD.pA 14 78 rfl (fun _=>q_m rfl) (WD.pA 15 79 rfl (fun _=>y14 rfl) (WD.pA 16 80 rfl (fun _=>ya ydR rfl rfl) (WD.sA 17 81 rfl (Sin.wk (.s3 .h4 .h7 .here) (.stb (.cons rfl (.cons rfl .nil)) (.any rfl (fun _ h=>y6K h) (.same .nil)))) (yc yam rfl (y5S .here (.tail _ (.head _)))) (WD.sA 18 82 rfl (Sin.wk (.s3 .h4 .h7 .here) (.stb (.cons rfl (.cons rfl .nil)) (.any rfl (fun _ h=>y6K h) (.same .nil)))) (yh y3Q rfl (yi .h2) rfl) (WD.call0 (i:=13) (dd:=77) rfl (by kernel_rfl) rfl rfl rfl (.inl ⟨rfl,(by exact(Sin.wk (.s3 .h6 .here .h1) (.stb (.cons rfl (.cons rfl .nil)) (.any rfl (fun _ h=>y6K h) (.same .nil)))))⟩) (zb Tryz.call71 (.r2 rfl rfl)) (.s2 (.there .h7) (.there .h7)) (cclz hz (.s2 (.there .h7) (.there .h7)) .h2 (.cons .h4 .nil) fun w pz ho la=>Calls.mono (y7c _ _ _ _ _ _ _ _ _ _ _ _ _ _ _ _ _ _ _ _ _ _ _ _ _ _ _ _ _ zJB w pz ((((zer.mono ((Zle.left _ _).trans zJ)).weak (fun _ _ h=>y1P ((Zle.left _ _).trans zJ) h)).mono (Zle.left _ _)).weak (fun _ _ h=>y1P (Zle.left _ _) h)) ((((zes.mono ((Zle.left _ _).trans zJ)).weak (fun _ _ h=>y1Y ((Zle.left _ _).trans zJ) h)).mono (Zle.left _ _)).weak (fun _ _ h=>y1Y (Zle.left _ _) h)) ((zet.mono ((Zle.left _ _).trans zJ)).mono (Zle.left _ _)) ((zcC.mono ((Zle.left _ _).trans zJ)).mono (Zle.left _ _)) ((((z8R.mono ((Zle.left _ _).trans zJ)).weak (fun _ _ h=>y1m ((Zle.left _ _).trans zJ) h)).mono (Zle.left _ _)).weak (fun _ _ h=>y1m (Zle.left _ _) h)) ((zeu.mono ((Zle.left _ _).trans zJ)).mono (Zle.left _ _)) ((((zev.mono ((Zle.left _ _).trans zJ)).weak (fun _ _ h=>y1Z ((Zle.left _ _).trans zJ) h)).mono (Zle.left _ _)).weak (fun _ _ h=>y1Z (Zle.left _ _) h)) ((zew.mono ((Zle.left _ _).trans zJ)).mono (Zle.left _ _)) ((((zcD.mono ((Zle.left _ _).trans zJ)).weak (fun _ _ h=>y1Q ((Zle.left _ _).trans zJ) h)).mono (Zle.left _ _)).weak (fun _ _ h=>y1Q (Zle.left _ _) h)) ((la _ (.head _) _).stb) ho) (fun _ _ h'=>⟨h'.1,trivial,h'.2⟩)) ?_)))))))))))))))))))
       intro _
       refine WD.eA 19 83 rfl (zb Tryz.call40 (.cons rfl .nil)) (ccz hz .nil .h4 fun w pz ho=>y5y _ _ _ zJC w pz ) (WD.qA 20 84 rfl (y3r (k:=zsg) (dflt:=(0:Int)) y7G Tryz.underlying93 y56 rfl rfl rfl .h1) (WD.eA 21 85 rfl (zb Tryz.call43 (.cons rfl .nil)) (ccz hz .nil .h4 fun w pz ho=>y4R _ _ _ zJD w pz ) (WD.call0 (i:=22) (dd:=86) rfl (by kernel_rfl) rfl rfl rfl (.inl ⟨rfl,(by exact(Sin.wk (.s3 .here .here .h1) (.stb (.cons rfl (.cons rfl .nil)) (.any rfl (fun _ h=>y6K h) (.same .nil)))))⟩) (zb Tryz.call68 (.r4 rfl rfl rfl rfl)) (.s3 .h6 .here .here) (ccz hz (.s3 .h6 .here .here) .h2 fun w pz ho=>Calls.mono (y6y _ _ _ _ _ _ _ _ _ _ _ _ _ _ _ _ _ _ _ _ _ _ (zan:=70) (zek:=[]) _ _ _ _ _ (zcc:=(fun(y0:z2) (y1:z2)=>y3g y0 y1)) _ _ _ zJE w pz ((zer.mono ((Zle.left _ _).trans zJ)).weak (fun _ _ h=>y1P ((Zle.left _ _).trans zJ) h)) ((zes.mono ((Zle.left _ _).trans zJ)).weak (fun _ _ h=>y1Y ((Zle.left _ _).trans zJ) h)) (zet.mono ((Zle.left _ _).trans zJ)) (zcC.mono ((Zle.left _ _).trans zJ)) ((z8R.mono ((Zle.left _ _).trans zJ)).weak (fun _ _ h=>y1m ((Zle.left _ _).trans zJ) h)) (zeu.mono ((Zle.left _ _).trans zJ)) ((zev.mono ((Zle.left _ _).trans zJ)).weak (fun _ _ h=>y1Z ((Zle.left _ _).trans zJ) h)) (zew.mono ((Zle.left _ _).trans zJ)) ((zcD.mono ((Zle.left _ _).trans zJ)).weak (fun _ _ h=>y1Q ((Zle.left _ _).trans zJ) h)) Tryz.call70 (fun w' hz' y0 y1  r  hr=>ybJ _ _ _ _ hr w' hz' ) ho) (fun _ _ h'=>⟨h'.1,trivial,h'.2⟩)) ?_)))
       intro _
       refine WD.call0 (i:=23) (dd:=87) rfl (by kernel_rfl) rfl rfl rfl (.inl ⟨rfl,(by exact(Sin.wk (.s3 .here .here .h1) (.stb (.cons rfl (.cons rfl .nil)) (.any rfl (fun _ h=>y6K h) (.same .nil)))))⟩) (zb Tryz.call68 (.r4 rfl rfl rfl rfl)) (.s3 .here .here .here) (ccz hz (.s3 .here .here .here) .h2 fun w pz ho=>Calls.mono (y6y _ _ _ _ _ _ _ _ _ _ _ _ _ _ _ _ _ _ _ _ _ _ (zan:=69) (zek:=[]) _ _ _ _ _ (zcc:=(fun(y0:z2) (y1:z2)=>y1e y0 y1)) _ _ _ zJF w pz ((zer.mono ((Zle.left _ _).trans zJ)).weak (fun _ _ h=>y1P ((Zle.left _ _).trans zJ) h)) ((zes.mono ((Zle.left _ _).trans zJ)).weak (fun _ _ h=>y1Y ((Zle.left _ _).trans zJ) h)) (zet.mono ((Zle.left _ _).trans zJ)) (zcC.mono ((Zle.left _ _).trans zJ)) ((z8R.mono ((Zle.left _ _).trans zJ)).weak (fun _ _ h=>y1m ((Zle.left _ _).trans zJ) h)) (zeu.mono ((Zle.left _ _).trans zJ)) ((zev.mono ((Zle.left _ _).trans zJ)).weak (fun _ _ h=>y1Z ((Zle.left _ _).trans zJ) h)) (zew.mono ((Zle.left _ _).trans zJ)) ((zcD.mono ((Zle.left _ _).trans zJ)).weak (fun _ _ h=>y1Q ((Zle.left _ _).trans zJ) h)) Tryz.call69 (fun w' hz' y0 y1  r  hr=>y65 _ _ _ _ hr w' hz' ) ho) (fun _ _ h'=>⟨h'.1,trivial,h'.2⟩)) ?_
       intro _
       refine WD.y37 (i:=24) rfl (by kernel_rfl) rfl rfl rfl (by kernel_rfl) (yl zz rfl rfl rfl .h4 rfl rfl rfl) (WD.done (by kernel_rfl) (WX.a ?_))
       obtain⟨zJG,h⟩:=yo h
       refine WC.yP (fun i=>[9,10].contains i) [y7q zsm 62 [(2,(.int .i64 z2a.1.fQ))]] rfl (WD.pA 0 88 rfl (fun _=>q_m rfl) (WD.pA 1 89 rfl (fun _=>ya yc9 rfl rfl) (WD.sA 2 90 rfl (Sin.wk (.cons .h4 .nil) (.stb (.cons rfl .nil) .nil)) (yc yt rfl (y5S .here (.head _))) (WD.pA 3 91 rfl (fun _=>q_m rfl) (WD.pA 4 92 rfl (fun _=>ya yc9 rfl rfl) (WD.qA 5 93 rfl (yc yt rfl (yk .h4 rfl)) (WD.qA 6 94 rfl (y3r (k:=z2a.1.fQ) (dflt:=(((none,0),[]):(Option Addr×Nat)×List Int)) y5t Tryz.underlying165 zoF rfl rfl rfl (.there .h7)) (WD.gh (fun _ h=>Hp.ybH z2a.1.fQ zjT (.there (.there .h7)) h) ?_))))))))
       rintro⟨zJH,zJI⟩ zJJ
       refine WD.repin (i:=94) rfl (u:=(.slice zJH ((yd z2p z2a.1.fQ []).length) zJI)) (congrArg slv zJJ) (WD.pA 7 95 rfl (fun _=>q_m rfl) (WD.new (i:=8) (dd:=96) rfl (by kernel_rfl) rfl rfl rfl (yR (cs:=([zX]:List Int).flatMap e3) zj0 (Eos.parts (l:=[.tmp 95]) (.cons rfl .nil) [0]) (fun _=>by kernel_rfl) rfl (by unfold maxLen;omega)) (fun h'=>absurd h' (by decide)) ?_))
       intro zJK _
       refine WD.old (i:=9) (dd:=97) rfl (by kernel_rfl) rfl rfl rfl rfl (fun _=>(Sin.wk (.cons .h7 .nil) (.stb (.cons rfl .nil) .nil))) (y54 (enc:=e3) (l1:=yd z2p z2a.1.fQ []) (l2:=([zX]:List Int)) zj0 rfl rfl .h1 (fun _=>rfl) rfl rfl (y4r .here) (y5o e3_oc _) zJG) ?_
       rintro⟨zmR,zmS⟩ _
       refine WD.y37 (i:=10) rfl (by kernel_rfl) rfl rfl rfl (by kernel_rfl) (y5J (k:=z2a.1.fQ) (v:=(((zmR,zmS),(yd z2p z2a.1.fQ [])++([zX]:List Int)):(Option Addr×Nat)×List Int)) y5t Tryz.underlying165 rfl rfl rfl rfl (.there (.there (.there (.there .h7))))) (WD.ghL (fun _ h=>Hp.ygP (k:=z2a.1.fQ) (.s2 .h1 .h2) h) (WD.ghL (M:=[yA z4w (Value.int .i64) slv (y6r (yE z6P z2a.1.fQ ((0,(zmR,zmS)),(yd z2p z2a.1.fQ [])++([zX]:List Int)))),y5j (y5k 3 1 e3) (yE z6P z2a.1.fQ ((0,(zmR,zmS)),(yd z2p z2a.1.fQ [])++([zX]:List Int))),row (.slice (some ⟨zJK,0,none⟩) (([zX]:List Int).length) 1) 3 1 (([zX]:List Int).flatMap e3),stb zmQ 132 [(.int .i64 z8Q.1.fN),(.int .i64 z8Q.1.fD)],stb z2w 95 [(.slice z4T ze.fM.length z4U),(.slice z4V ze.fC0.length z4W),(.slice z4X ze.fS.length z4Y),(.slice z4Z ze.fK.length z52),(.slice z54 ze.fVLs.length z56),(.slice z57 ze.fH.length z58),(.slice z59 ze.fU.length z5a),(.slice z5b ze.fV0.length z5c),(.slice z3P zW.length z3Q),(.map (some z1Z)),(.map (some z21)),(.int .i64 z8Q.2)],yA z1Z (fun x=>Value.agg (y2o x).toArray) (fun x=>Value.agg (yw x).toArray) z2N,yA z21 (fun x=>Value.agg (e97 x).toArray) (Value.int .i64) z1q,stb zsm 62 [(.int .i64 z2a.1.fNode),(.int .i64 z2a.1.fNext),(.int .i64 z2a.1.fQ)],fz z4a,row (.slice z8S z2M.length z8T) 173 1 z7q,stb z49 97 [(.int .i64 zQ.fNode),(.int .i64 zQ.fQ)]]) (fun _ h=>Hp.reMap .h1 (yes _ _ _ _).symm h) (WD.done (by kernel_rfl) ?_)))
       exact WX.mid ⟨z2M,z8Q.2,(yE z2p z2a.1.fQ ((yd z2p z2a.1.fQ [])++([zX]:List Int))),z8Q.1.fN,z8Q.1.fD,z4a,z8S,z8T,z7q,(yE z6P z2a.1.fQ ((0,(zmR,zmS)),(yd z2p z2a.1.fQ [])++([zX]:List Int)))⟩ ⟨h,(Zle.refl _),zmP,(dat_mput zjT _ _ _)⟩ (.r11 rfl rfl rfl rfl rfl rfl rfl rfl rfl rfl rfl) (.s9 (.there .h7) (.there .h7) .h4 .h7 .here .here .h1 .h1 .h1)
      ·replace h:=yq h zsn
       obtain⟨z4u,zJL,h⟩:=z8 h
       obtain⟨zJM,h⟩:=yo h
       refine WC.yP (fun i=>[4,8].contains i) [stb zmQ 132 [(.int .i64 z2O.fN),(.int .i64 z2O.fD)]] rfl (WD.pA 0 98 rfl (fun _=>q_m rfl) (WD.sA 1 99 rfl (Sin.of (.cons .h1 .nil)) (yh zf rfl (yi .here) rfl) (WD.pA 2 100 rfl (fun _=>q_m rfl) (WD.pA 3 101 rfl (fun _=>q_m rfl) (WD.call0 (i:=4) (dd:=102) rfl (by kernel_rfl) rfl rfl rfl (.inl ⟨rfl,(Sin.of (.cons .h3 .nil))⟩) (zb Tryz.call71 (.r2 rfl rfl)) (.s2 (.there .h7) (.there .h7)) (cclz hz (.s2 (.there .h7) (.there .h7)) .h2 (.cons .h4 .nil) fun w pz ho la=>Calls.mono (y7c _ _ _ _ _ _ _ _ _ _ _ _ _ _ _ _ _ _ _ _ _ _ _ _ _ _ _ _ _ zJL w pz ((((zer.mono ((Zle.left _ _).trans zJ)).weak (fun _ _ h=>y1P ((Zle.left _ _).trans zJ) h)).mono (Zle.left _ _)).weak (fun _ _ h=>y1P (Zle.left _ _) h)) ((((zes.mono ((Zle.left _ _).trans zJ)).weak (fun _ _ h=>y1Y ((Zle.left _ _).trans zJ) h)).mono (Zle.left _ _)).weak (fun _ _ h=>y1Y (Zle.left _ _) h)) ((zet.mono ((Zle.left _ _).trans zJ)).mono (Zle.left _ _)) ((zcC.mono ((Zle.left _ _).trans zJ)).mono (Zle.left _ _)) ((((z8R.mono ((Zle.left _ _).trans zJ)).weak (fun _ _ h=>y1m ((Zle.left _ _).trans zJ) h)).mono (Zle.left _ _)).weak (fun _ _ h=>y1m (Zle.left _ _) h)) ((zeu.mono ((Zle.left _ _).trans zJ)).mono (Zle.left _ _)) ((((zev.mono ((Zle.left _ _).trans zJ)).weak (fun _ _ h=>y1Z ((Zle.left _ _).trans zJ) h)).mono (Zle.left _ _)).weak (fun _ _ h=>y1Z (Zle.left _ _) h)) ((zew.mono ((Zle.left _ _).trans zJ)).mono (Zle.left _ _)) ((((zcD.mono ((Zle.left _ _).trans zJ)).weak (fun _ _ h=>y1Q ((Zle.left _ _).trans zJ) h)).mono (Zle.left _ _)).weak (fun _ _ h=>y1Q (Zle.left _ _) h)) ((la _ (.head _) _).stb) ho) (fun _ _ h'=>⟨h'.1,trivial,h'.2⟩)) ?_)))))
       intro _
       refine WD.pA 5 103 rfl (fun _=>yL (v:=(.agg #[(.int .i64 z2O.fN),(.int .i64 z2O.fD),(.int .i64 z4u.fN),(.int .i64 z4u.fD)])) (Eos.parts (l:=[.tmp 99,.tmp 102]) (.r2 rfl rfl) [0,1]) (fun _=>by kernel_rfl)) (WD.new (i:=6) (dd:=104) rfl (by kernel_rfl) rfl rfl rfl (yR (cs:=([(⟨z2O,z4u⟩:z7)]:List z7).flatMap y1A) z6G (Eos.parts (l:=[.tmp 103]) (.cons rfl .nil) [0]) (fun _=>by kernel_rfl) rfl (by unfold maxLen;omega)) (fun h'=>absurd h' (by decide)) ?_)
       intro zgJ _
       refine WD.freezeS (ls:=([(⟨z2O,z4u⟩:z7)]:List z7)) .here .h4 hz (RR.flat (enc:=y1A) (fun _=>rfl) _) ?_
       intro zmT zAw zJN
       have zAx:RR 1 (y1W (Z++zmT)) [(.slice (some ⟨zgJ,0,none⟩) (([(⟨z2O,z4u⟩:z7)]:List z7).length) 1)] ([([(⟨z2O,z4u⟩:z7)]:List z7)]:List (List z7)):=(RR.cons (r:=[(.slice (some ⟨zgJ,0,none⟩) (([(⟨z2O,z4u⟩:z7)]:List z7).length) 1)]) rfl (show y1W _ _ _ from⟨_,_,rfl,zJN⟩) (RR.nil _ _))
       refine WD.new (i:=7) (dd:=105) rfl (by kernel_rfl) rfl rfl rfl (yR (cs:=[(.slice (some ⟨zgJ,0,none⟩) (([(⟨z2O,z4u⟩:z7)]:List z7).length) 1)]) z82 (Eos.parts (l:=[.tmp 104]) (.cons rfl .nil) [0]) (fun _=>by kernel_rfl) rfl (by unfold maxLen;omega)) (fun h'=>absurd h' (by decide)) ?_
       intro zWu _
       have zJO:RR 1 (y1W (Z++zmT)) (z7q++[(.slice (some ⟨zgJ,0,none⟩) (([(⟨z2O,z4u⟩:z7)]:List z7).length) 1)]) (z2M++([([(⟨z2O,z4u⟩:z7)]:List z7)]:List (List z7))):=RR.app (zmP.weak (fun _ _ h=>y3d zAw h)) zAx
       refine WD.old (i:=8) (dd:=106) rfl (by kernel_rfl) rfl rfl rfl rfl (fun _=>(Sin.of (.cons .h6 .nil))) (y7B (l1:=z2M) (l2:=([([(⟨z2O,z4u⟩:z7)]:List z7)]:List (List z7))) (news:=[(.slice (some ⟨zgJ,0,none⟩) (([(⟨z2O,z4u⟩:z7)]:List z7).length) 1)]) (Pr:=(y1W (Z++zmT))) z82 rfl rfl .h6 zAx (y4r .here) (yac rfl ybq) zJM) ?_
       rintro⟨zJP,zJQ⟩ _
       refine WD.pA 9 6 rfl (fun _=>q_z rfl) (WD.done (by kernel_rfl) ?_)
       exact WX.mid ⟨(z2M++([([(⟨z2O,z4u⟩:z7)]:List z7)]:List (List z7))),z4t,z2p,z2O.fN,z2O.fD,zmT,zJP,zJQ,(z7q++[(.slice (some ⟨zgJ,0,none⟩) (([(⟨z2O,z4u⟩:z7)]:List z7).length) 1)]),z6P⟩ ⟨h,zAw,zJO,zjT⟩ (.r11 rfl rfl rfl rfl rfl rfl rfl rfl rfl rfl rfl) (.s9 .h2 .here .h5 .h5 .h5 .h5 .h4 .h1 .h1)
     ·rintro z8j zat zau z8O z8P zez zgG zgH zgI zeA ⟨h,zJR,zJS,zJT⟩
      replace h:=(zJy z8j zat zau z8O z8P).symm.trans h
      refine WC.yP (fun i=>[8].contains i) [] rfl (WD.pA 0 107 rfl (fun _=>q_m rfl) (WD.pA 1 108 rfl (fun _=>y14 rfl) (WD.pA 2 109 rfl (fun _=>ya ydP rfl rfl) (WD.qA 3 110 rfl (yc ydQ rfl (yk .h2 rfl)) (WD.pA 4 111 rfl (fun _=>q_m rfl) (WD.qA 5 112 rfl (yh y3R rfl (yi .h3) rfl) (WD.pA 6 113 rfl (fun _=>yL (v:=(.agg #[(.int .i64 zX),(.int .i64 zQ.fNode),(.int .i64 zQ.fQ)])) (Eos.parts (l:=[.tmp 111,.tmp 112]) (.r2 rfl rfl) [0,1]) (fun _=>by kernel_rfl)) (WD.qA 7 114 rfl (yh zf rfl (yi .h6) rfl) (WD.y37 (i:=8) rfl (by kernel_rfl) rfl rfl rfl (by kernel_rfl) (y5J (k:=(⟨zX,zQ⟩:zO)) (v:=(⟨z8O,z8P⟩:z2)) zoE Tryz.underlying92 rfl rfl rfl rfl .h7) (WD.done (by kernel_rfl) (WX.yn ?_)))))))))))
      exact WX.mid ⟨z8j,(max z5B ((nth ze.fVLs zX).fMax)),zat,zau,(yE z2N (⟨zX,zQ⟩:zO) (⟨z8O,z8P⟩:z2)),zez,zgG,zgH,zgI,zeA⟩ ⟨h,zJR,zJS,zJT⟩ (.r9 rfl rfl rfl rfl rfl rfl rfl rfl rfl) (.s8 .h1 .h1 .h1 .h1 .h1 .h1 .here .h1)
   ·rintro z8i zap zaq zar zas zex zgD zgE zgF zey ⟨h,zJU,zJV,zJW⟩
    replace h:=(zJp z8i zap zaq zar zas).symm.trans h
    refine WC.a (WL.pu rfl (WL.pu rfl (WL.nil ?_)))
    exact WX.round ⟨zsf,z8i,zap,(i64 (zX+1)),zaq,zar,zas,zex,zgD,zgE,zgF,zey⟩ ⟨h,(zJ.trans zJU),zJV,zJW⟩ (Nat.lt_succ_self _) (.r9 rfl rfl rfl rfl rfl rfl rfl rfl rfl) (.s8 .here .here .here .here .here .here .here .here)
  ·replace h:=yq h zsk
   refine WC.exit (WX.yg (WX.yg (WX.yz ?_)))
   exact WX.mid ⟨z2M,z5B,z4t,z2p,z2N,z4a,z8S,z8T,z7q,z6P⟩ ⟨h,zJ,zmP,zjT⟩ (.r6 rfl rfl rfl rfl rfl rfl) (.s8 .here .here .here .here .here .here .here .here)
 ·rintro z2Q z6O zaC z1P z2b zaD z5X z5Y z7p z6k ⟨h,z1k,zJX,zmU⟩
  replace h:=(zJo z2Q z6O zaC z1P z2b).symm.trans h
  obtain⟨zax,zJY,h⟩:=y4s h
  refine WC.yaJ (fun(z6j:List (List z7)) (zcB:Int) (zaE:Zp) (zjU:Option Addr) (zjV:Nat) (zcE:List Value)=>(zax z6j zcB=some r)∧(Zle (Z++zaD) (Z++zaE))∧(RR 1 (y1W (Z++zaE)) zcE z6j)) (fun z6j zcB zaE zjU zjV zcE=>[(6,(.slice z5X z2Q.length z5Y)),(7,(.slice zjU z6j.length zjV)),(9,(.int .i64 z6O))]) (fun z6j zcB zaE zjU zjV zcE=>[fz zaE,row (.slice z5X z2Q.length z5Y) 173 1 z7p,row (.slice zjU z6j.length zjV) 173 1 zcE,stb z2w 95 [(.slice z4T ze.fM.length z4U),(.slice z4V ze.fC0.length z4W),(.slice z4X ze.fS.length z4Y),(.slice z4Z ze.fK.length z52),(.slice z54 ze.fVLs.length z56),(.slice z57 ze.fH.length z58),(.slice z59 ze.fU.length z5a),(.slice z5b ze.fV0.length z5c),(.slice z3P zW.length z3Q),(.map (some z1Z)),(.map (some z21)),(.int .i64 zcB)],yA z1Z (fun x=>Value.agg (y2o x).toArray) (fun x=>Value.agg (yw x).toArray) z2b,yA z21 (fun x=>Value.agg (e97 x).toArray) (Value.int .i64) z1q]) ?_ ?_
  ·skip
   refine WC.b (WC.a (WL.pu rfl (WL.qA 117 (y14 rfl) (WL.qA 118 (ya y6n rfl rfl) (WL.qA 119 (ya y9f rfl rfl) (WL.qA 120 (yc y9g rfl (yk .h2 rfl)) (WL.qA 121 (yH Tryz.underlying25 rfl) (WL.pu rfl (WL.nil (WX.a (WC.block (WC.nilRow 173 1 (WC.yaL (fun(zgK:Nat) (z2D:List (List z7)) (zI:Int) (z5W:Int) (z5Z:Zp) (z7r:Option Addr) (z7s:Nat) (z7t:List Value)=>(y2v ze z1P zW z2b z1q zQ zax zgK z2D zI z5W=some r)∧(Zle (Z++zaD) (Z++z5Z))∧(RR 1 (y1W (Z++z5Z)) z7t z2D)) (fun zgK z2D zI z5W z5Z z7r z7s z7t=>[(0,(.pointer (some ⟨z2w,0,none⟩))),(3,(.pointer (some ⟨z49,0,none⟩))),(6,(.slice z5X z2Q.length z5Y)),(7,(.slice z7r z2D.length z7s)),(8,(.map (some z4w))),(9,(.int .i64 z6O)),(121,(.int .i64 ((ze.fK.length:Nat):Int))),(122,(.int .i64 zI))]) (fun zgK z2D zI z5W z5Z z7r z7s z7t=>[fz z5Z,row (.slice z5X z2Q.length z5Y) 173 1 z7p,row (.slice z7r z2D.length z7s) 173 1 z7t,stb z2w 95 [(.slice z4T ze.fM.length z4U),(.slice z4V ze.fC0.length z4W),(.slice z4X ze.fS.length z4Y),(.slice z4Z ze.fK.length z52),(.slice z54 ze.fVLs.length z56),(.slice z57 ze.fH.length z58),(.slice z59 ze.fU.length z5a),(.slice z5b ze.fV0.length z5c),(.slice z3P zW.length z3Q),(.map (some z1Z)),(.map (some z21)),(.int .i64 z5W)],stb z49 97 [(.int .i64 zQ.fNode),(.int .i64 zQ.fQ)],yA z4w (Value.int .i64) slv (y6r z6k),y5j (y5k 3 1 e3) z6k,yA z1Z (fun x=>Value.agg (y2o x).toArray) (fun x=>Value.agg (yw x).toArray) z2b,yA z21 (fun x=>Value.agg (e97 x).toArray) (Value.int .i64) z1q]) (fun zgK z2D zI z5W z5Z z7r z7s z7t=>zgK) ⟨yy,([]:List (List z7)),0,zaC,zaD,none,0,[]⟩ ⟨h,(Zle.refl _),(RR.nil _ _)⟩ (.r8 rfl rfl rfl rfl rfl rfl rfl rfl) (.s9 .h1 .h1 .here .here .here .here .here .here .here) ?_)))))))))))))
   rintro zgK z2D zI z5W z5Z z7r z7s z7t ⟨h,z1g,zso⟩
   obtain⟨zsj,rfl⟩:=y8E h
   rw[y2v] at h
   refine WC.b (WC.a (WL.pu rfl (WL.nil (WX.a (WC.b (WC.cond rfl (fun zsp=>?_) (fun zsp=>?_)))))))
   ·replace h:=yp h zsp
    refine WC.skip (WX.a ?_)
    obtain⟨zmO,zJZ,h⟩:=y4s h
    refine WC.yaJ (fun(z8l:List (List z7)) (zay:Int) (zeB:Zp) (zgL:Option Addr) (zgM:Nat) (zgN:List Value)=>(zmO z8l zay=some r)∧(Zle (Z++z5Z) (Z++zeB))∧(RR 1 (y1W (Z++zeB)) zgN z8l)) (fun z8l zay zeB zgL zgM zgN=>[(0,(.pointer (some ⟨z2w,0,none⟩))),(3,(.pointer (some ⟨z49,0,none⟩))),(6,(.slice z5X z2Q.length z5Y)),(7,(.slice zgL z8l.length zgM)),(8,(.map (some z4w))),(9,(.int .i64 z6O)),(121,(.int .i64 ((ze.fK.length:Nat):Int))),(122,(.int .i64 zI))]) (fun z8l zay zeB zgL zgM zgN=>[fz zeB,row (.slice z5X z2Q.length z5Y) 173 1 z7p,row (.slice zgL z8l.length zgM) 173 1 zgN,stb z2w 95 [(.slice z4T ze.fM.length z4U),(.slice z4V ze.fC0.length z4W),(.slice z4X ze.fS.length z4Y),(.slice z4Z ze.fK.length z52),(.slice z54 ze.fVLs.length z56),(.slice z57 ze.fH.length z58),(.slice z59 ze.fU.length z5a),(.slice z5b ze.fV0.length z5c),(.slice z3P zW.length z3Q),(.map (some z1Z)),(.map (some z21)),(.int .i64 zay)],stb z49 97 [(.int .i64 zQ.fNode),(.int .i64 zQ.fQ)],yA z4w (Value.int .i64) slv (y6r z6k),y5j (y5k 3 1 e3) z6k,yA z1Z (fun x=>Value.agg (y2o x).toArray) (fun x=>Value.agg (yw x).toArray) z2b,yA z21 (fun x=>Value.agg (e97 x).toArray) (Value.int .i64) z1q]) ?_ ?_
    ·skip
     refine WC.block (WC.b (WC.a (WL.pu rfl (WL.pu rfl (WL.nil (WX.a (WC.b (WC.b (WC.a (WL.pu rfl (WL.pu rfl (WL.qA 127 (y3r (k:=zI) (dflt:=(((none,0),[]):(Option Addr×Nat)×List Int)) y5t Tryz.underlying165 zoF rfl rfl rfl .h5) (WL.gh (fun _ h=>Hp.ybH zI zmU .h6 h) ?_)))))))))))))
     rintro⟨zK0,zK1⟩ zAy
     refine WL.repin (i:=127) rfl (u:=(.slice zK0 ((yd z1P zI []).length) zK1)) (congrArg slv zAy) (WL.qA 128 (yH Tryz.underlying109 rfl) (WL.pu rfl (WL.ghL (fun _ h=>Hp.yeu zmU zAy (.s2 .here .here) h) (WL.nil (WX.a (WC.cond rfl (fun zsq=>?_) (fun zsq=>?_)))))))
     ·replace h:=yp h zsq
      refine WC.exit (WX.yg (WX.yz ?_))
      exact WX.mid ⟨z2D,z5W,z5Z,z7r,z7s,z7t⟩ ⟨h,(Zle.refl _),zso⟩ (.r8 rfl rfl rfl rfl rfl rfl rfl rfl) (.s9 .h1 .h1 .h1 .h1 .h1 .h1 .here .here .here)
     ·replace h:=yq h zsq
      refine WC.skip (WX.a (WC.b ?_))
      obtain⟨zep,zK2,h⟩:=z8 h
      obtain⟨zeq,zK3,h⟩:=z8 h
      refine WC.a (WL.cA 130 (zb Tryz.call43 (.cons rfl .nil)) .nil (ccz hz .nil .h1 fun w pz ho=>y4R _ _ _ zK2 w pz ) (WL.cA 131 (zb Tryz.call43 (.cons rfl .nil)) .nil (ccz hz .nil .h1 fun w pz ho=>y4R _ _ _ zK3 w pz ) (WL.qA 132 (yL (v:=(.agg #[(.int .i64 zep.fN),(.int .i64 zep.fD),(.int .i64 zeq.fN),(.int .i64 zeq.fD)])) (Eos.parts (l:=[.tmp 130,.tmp 131]) (.r2 rfl rfl) [0,1]) (fun _=>by kernel_rfl)) (WL.nA 16 (yv (cs:=[(.int .i64 0),(.int .i64 0),(.int .i64 0),(.int .i64 0)]) z9R rfl) ?_))))
      intro zjW _
      refine WL.ym rfl rfl (yl z8G rfl rfl rfl .here rfl rfl rfl) (WL.nil (WX.a (WC.b (WC.a (WL.pu rfl (WL.nil (WX.a ?_)))))))
      obtain⟨zav,zK4,h⟩:=jp6_elim h
      refine WC.yaJ (fun(zcA:Int) (zaz:Int) (z3b:Int) (z3c:Int) (z3d:Int) (z3e:Int)=>(zav zcA zaz z3b z3c z3d z3e=some r)) (fun zcA zaz z3b z3c z3d z3e=>[(0,(.pointer (some ⟨z2w,0,none⟩))),(3,(.pointer (some ⟨z49,0,none⟩))),(6,(.slice z5X z2Q.length z5Y)),(7,(.slice z7r z2D.length z7s)),(8,(.map (some z4w))),(9,(.int .i64 z6O)),(15,(.int .i64 zI)),(16,(.pointer (some ⟨zjW,0,none⟩))),(17,(.int .i64 zcA)),(121,(.int .i64 ((ze.fK.length:Nat):Int))),(122,(.int .i64 zI))]) (fun zcA zaz z3b z3c z3d z3e=>[fz z5Z,row (.slice z5X z2Q.length z5Y) 173 1 z7p,row (.slice z7r z2D.length z7s) 173 1 z7t,stb z2w 95 [(.slice z4T ze.fM.length z4U),(.slice z4V ze.fC0.length z4W),(.slice z4X ze.fS.length z4Y),(.slice z4Z ze.fK.length z52),(.slice z54 ze.fVLs.length z56),(.slice z57 ze.fH.length z58),(.slice z59 ze.fU.length z5a),(.slice z5b ze.fV0.length z5c),(.slice z3P zW.length z3Q),(.map (some z1Z)),(.map (some z21)),(.int .i64 zaz)],stb z49 97 [(.int .i64 zQ.fNode),(.int .i64 zQ.fQ)],yA z4w (Value.int .i64) slv (y6r z6k),y5j (y5k 3 1 e3) z6k,stb zjW 171 [(.int .i64 z3b),(.int .i64 z3c),(.int .i64 z3d),(.int .i64 z3e)],yA z1Z (fun x=>Value.agg (y2o x).toArray) (fun x=>Value.agg (yw x).toArray) z2b,yA z21 (fun x=>Value.agg (e97 x).toArray) (Value.int .i64) z1q]) ?_ ?_
      ·skip
       refine WC.b (WC.a (WL.pu rfl (WL.pu rfl (WL.qA 135 (y3r (k:=zI) (dflt:=(((none,0),[]):(Option Addr×Nat)×List Int)) y5t Tryz.underlying165 zoF rfl rfl rfl .h7) (WL.gh (fun _ h=>Hp.ybH zI zmU .h1 h) ?_)))))
       rintro⟨zsr,zss⟩ zAz
       refine WL.repin (i:=135) rfl (u:=(.slice zsr ((yd z1P zI []).length) zss)) (congrArg slv zAz) (WL.qA 136 (yH Tryz.underlying109 rfl) (WL.pu rfl (WL.nil (WX.a (WC.block (WC.yaL (fun(zgO:Nat) (z6L:Int) (z2P:Int) (z7o:Int) (z6M:Int) (z6N:Int) (z5U:Int) (z5V:Int)=>(y2u z1P zI ze zW z2b z1q zQ zav zgO z6L z2P z7o z6M z6N z5U z5V=some r)) (fun zgO z6L z2P z7o z6M z6N z5U z5V=>[(0,(.pointer (some ⟨z2w,0,none⟩))),(3,(.pointer (some ⟨z49,0,none⟩))),(6,(.slice z5X z2Q.length z5Y)),(7,(.slice z7r z2D.length z7s)),(8,(.map (some z4w))),(9,(.int .i64 z6O)),(15,(.int .i64 zI)),(16,(.pointer (some ⟨zjW,0,none⟩))),(17,(.int .i64 z6L)),(121,(.int .i64 ((ze.fK.length:Nat):Int))),(122,(.int .i64 zI)),(135,(.slice zsr ((yd z1P zI []).length) zss)),(136,(.int .i64 (((yd z1P zI []).length:Nat):Int))),(137,(.int .i64 z2P))]) (fun zgO z6L z2P z7o z6M z6N z5U z5V=>[fz z5Z,row (.slice z5X z2Q.length z5Y) 173 1 z7p,row (.slice z7r z2D.length z7s) 173 1 z7t,row (.slice zsr ((yd z1P zI []).length) zss) 3 1 ((yd z1P zI []).flatMap e3),stb z2w 95 [(.slice z4T ze.fM.length z4U),(.slice z4V ze.fC0.length z4W),(.slice z4X ze.fS.length z4Y),(.slice z4Z ze.fK.length z52),(.slice z54 ze.fVLs.length z56),(.slice z57 ze.fH.length z58),(.slice z59 ze.fU.length z5a),(.slice z5b ze.fV0.length z5c),(.slice z3P zW.length z3Q),(.map (some z1Z)),(.map (some z21)),(.int .i64 z7o)],stb z49 97 [(.int .i64 zQ.fNode),(.int .i64 zQ.fQ)],yA z4w (Value.int .i64) slv (y6r z6k),y5j (y5k 3 1 e3) (y7P zI z6k),stb zjW 171 [(.int .i64 z6M),(.int .i64 z6N),(.int .i64 z5U),(.int .i64 z5V)],yA z1Z (fun x=>Value.agg (y2o x).toArray) (fun x=>Value.agg (yw x).toArray) z2b,yA z21 (fun x=>Value.agg (e97 x).toArray) (Value.int .i64) z1q]) (fun zgO z6L z2P z7o z6M z6N z5U z5V=>zgO) ⟨yy,0,0,z5W,zep.fN,zep.fD,zeq.fN,zeq.fD⟩ h (.r14 rfl rfl rfl rfl rfl rfl rfl rfl rfl rfl rfl rfl rfl rfl) (.s11 .h3 .h3 .h3 .here .h2 .h2 .h2 .here .here .here .here) ?_))))))
       rintro zgO z6L z2P z7o z6M z6N z5U z5V h
       obtain⟨zsi,rfl⟩:=y8D h
       rw[y2u] at h
       refine WC.b (WC.a (WL.pu rfl (WL.nil (WX.a (WC.b (WC.cond rfl (fun zst=>?_) (fun zst=>?_)))))))
       ·replace h:=yp h zst
        refine WC.skip (WX.a (WC.b (WC.block (WC.b ?_))))
        obtain⟨zjX,h⟩:=yo h
        refine WC.a (WL.know (fun w hw=>Hp.y2M .h3 hw (by intro hz';have:=zjX;rw[hz'] at this;omega)) ?_)
        rintro⟨zWv,rfl⟩
        refine WL.qA 139 (yX zj0 rfl rfl zjX.1 zjX.2 y32) (WL.qA 140 (yc yt rfl (yab .h3 ((y3D (enc:=e3) (l:=yd z1P zI []) (i:=z2P) (sz:=1) (fun _=>rfl) zjX.1 zjX.2) 0 _ rfl))) (WL.pu rfl (WL.nil (WX.a (WC.b ?_)))))
        obtain⟨z8k,zK5,h⟩:=z8 h
        obtain⟨zAr,zK6,h⟩:=z8 h
        obtain⟨zaw,zK7,h⟩:=z8 h
        refine WC.yP (fun i=>[11,17,18,20,22].contains i) [y7q zjW 171 [(2,(.int .i64 z5U)),(3,(.int .i64 z5V))]] rfl (WD.pA 0 141 rfl (fun _=>q_m rfl) (WD.pA 1 142 rfl (fun _=>ya y4O rfl rfl) (WD.qA 2 143 rfl (yT (cs:=[(.int .i64 z6M),(.int .i64 z6N)]) zf rfl rfl (y31 (s:=2) (.there .h7) rfl)) (WD.pA 3 144 rfl (fun _=>q_m rfl) (WD.pA 4 145 rfl (fun _=>y14 rfl) (WD.pA 5 146 rfl (fun _=>ya ydP rfl rfl) (WD.qA 6 147 rfl (yc ydQ rfl (yk .h4 rfl)) (WD.pA 7 148 rfl (fun _=>q_m rfl) (WD.qA 8 149 rfl (yh y3R rfl (yi .h5) rfl) (WD.pA 9 150 rfl (fun _=>yL (v:=(.agg #[(.int .i64 (nth (yd z1P zI []) z2P)),(.int .i64 zQ.fNode),(.int .i64 zQ.fQ)])) (Eos.parts (l:=[.tmp 148,.tmp 149]) (.r2 rfl rfl) [0,1]) (fun _=>by kernel_rfl)) (WD.qA 10 151 rfl (y3r (k:=(⟨(nth (yd z1P zI []) z2P),zQ⟩:zO)) (dflt:=((⟨0,0⟩:z2):z2)) zoE Tryz.underlying92 zT rfl rfl rfl (.there (.there .h7))) (WD.pA 12 153 rfl (fun _=>q_m rfl) (WD.pA 13 154 rfl (fun _=>ya y5K rfl rfl) (WD.sA 14 155 rfl (Sin.wk (.cons (.there .h7) .nil) (.stb (.cons rfl (.cons rfl .nil)) .nil)) (yT (cs:=[(.int .i64 z5U),(.int .i64 z5V)]) zf rfl rfl (yaS .here ((.head _)) ((.tail _ (.head _))))) (WD.pA 15 156 rfl (fun _=>q_m rfl) (WD.pA 16 157 rfl (fun _=>q_m rfl) (WD.call0 (i:=11) (dd:=152) rfl (by kernel_rfl) rfl rfl rfl (.inl ⟨rfl,(Sin.wk (.cons (.there (.there (.there .h7))) .nil) (.stb (.cons rfl (.cons rfl .nil)) .nil))⟩) (zb Tryz.call68 (.r4 rfl rfl rfl rfl)) (.s3 .h4 (.there .h7) (.there .h7)) (ccz hz (.s3 .h4 (.there .h7) (.there .h7)) .here fun w pz ho=>Calls.mono (y6y _ _ _ _ _ _ _ _ _ _ _ _ _ _ _ _ _ _ _ _ _ _ (zan:=69) (zek:=[]) _ _ _ _ _ (zcc:=(fun(y0:z2) (y1:z2)=>y1e y0 y1)) _ _ _ zK5 w pz ((zer.mono ((Zle.left _ _).trans (z1k.trans z1g))).weak (fun _ _ h=>y1P ((Zle.left _ _).trans (z1k.trans z1g)) h)) ((zes.mono ((Zle.left _ _).trans (z1k.trans z1g))).weak (fun _ _ h=>y1Y ((Zle.left _ _).trans (z1k.trans z1g)) h)) (zet.mono ((Zle.left _ _).trans (z1k.trans z1g))) (zcC.mono ((Zle.left _ _).trans (z1k.trans z1g))) ((z8R.mono ((Zle.left _ _).trans (z1k.trans z1g))).weak (fun _ _ h=>y1m ((Zle.left _ _).trans (z1k.trans z1g)) h)) (zeu.mono ((Zle.left _ _).trans (z1k.trans z1g))) ((zev.mono ((Zle.left _ _).trans (z1k.trans z1g))).weak (fun _ _ h=>y1Z ((Zle.left _ _).trans (z1k.trans z1g)) h)) (zew.mono ((Zle.left _ _).trans (z1k.trans z1g))) ((zcD.mono ((Zle.left _ _).trans (z1k.trans z1g))).weak (fun _ _ h=>y1Q ((Zle.left _ _).trans (z1k.trans z1g)) h)) Tryz.call69 (fun w' hz' y0 y1  r  hr=>y65 _ _ _ _ hr w' hz' ) ho) (fun _ _ h'=>⟨h'.1,trivial,h'.2⟩)) ?_)))))))))))))))))
        intro _
        refine WD.pA 19 160 rfl (fun _=>ya y4O rfl rfl) (WD.call0 (i:=17) (dd:=158) rfl (by kernel_rfl) rfl rfl rfl (.inl ⟨rfl,(Sin.wk (.cons (.there (.there (.there .h7))) .nil) (.stb (.cons rfl (.cons rfl .nil)) .nil))⟩) (zb Tryz.call71 (.r2 rfl rfl)) (.s2 .h1 .h1) (cclz hz (.s2 .h1 .h1) .h1 (.cons .here .nil) fun w pz ho la=>Calls.mono (y7c _ _ _ _ _ _ _ _ _ _ _ _ _ _ _ _ _ _ _ _ _ _ _ _ _ _ _ _ _ zK6 w pz ((((zer.mono ((Zle.left _ _).trans (z1k.trans z1g))).weak (fun _ _ h=>y1P ((Zle.left _ _).trans (z1k.trans z1g)) h)).mono (Zle.left _ _)).weak (fun _ _ h=>y1P (Zle.left _ _) h)) ((((zes.mono ((Zle.left _ _).trans (z1k.trans z1g))).weak (fun _ _ h=>y1Y ((Zle.left _ _).trans (z1k.trans z1g)) h)).mono (Zle.left _ _)).weak (fun _ _ h=>y1Y (Zle.left _ _) h)) ((zet.mono ((Zle.left _ _).trans (z1k.trans z1g))).mono (Zle.left _ _)) ((zcC.mono ((Zle.left _ _).trans (z1k.trans z1g))).mono (Zle.left _ _)) ((((z8R.mono ((Zle.left _ _).trans (z1k.trans z1g))).weak (fun _ _ h=>y1m ((Zle.left _ _).trans (z1k.trans z1g)) h)).mono (Zle.left _ _)).weak (fun _ _ h=>y1m (Zle.left _ _) h)) ((zeu.mono ((Zle.left _ _).trans (z1k.trans z1g))).mono (Zle.left _ _)) ((((zev.mono ((Zle.left _ _).trans (z1k.trans z1g))).weak (fun _ _ h=>y1Z ((Zle.left _ _).trans (z1k.trans z1g)) h)).mono (Zle.left _ _)).weak (fun _ _ h=>y1Z (Zle.left _ _) h)) ((zew.mono ((Zle.left _ _).trans (z1k.trans z1g))).mono (Zle.left _ _)) ((((zcD.mono ((Zle.left _ _).trans (z1k.trans z1g))).weak (fun _ _ h=>y1Q ((Zle.left _ _).trans (z1k.trans z1g)) h)).mono (Zle.left _ _)).weak (fun _ _ h=>y1Q (Zle.left _ _) h)) ((la _ (.head _) _).stb) ho) (fun _ _ h'=>⟨h'.1,trivial,h'.2⟩)) ?_)
        intro _
        refine WD.call0 (i:=18) (dd:=159) rfl (by kernel_rfl) rfl rfl rfl (.inl ⟨rfl,(Sin.wk (.cons (.there (.there (.there .h7))) .nil) (.stb (.cons rfl (.cons rfl .nil)) .nil))⟩) (zb Tryz.call68 (.r4 rfl rfl rfl rfl)) (.s3 .h2 .here .here) (ccz hz (.s3 .h2 .here .here) .here fun w pz ho=>Calls.mono (y6y _ _ _ _ _ _ _ _ _ _ _ _ _ _ _ _ _ _ _ _ _ _ (zan:=69) (zek:=[]) _ _ _ _ _ (zcc:=(fun(y0:z2) (y1:z2)=>y1e y0 y1)) _ _ _ zK7 w pz ((zer.mono ((Zle.left _ _).trans (z1k.trans z1g))).weak (fun _ _ h=>y1P ((Zle.left _ _).trans (z1k.trans z1g)) h)) ((zes.mono ((Zle.left _ _).trans (z1k.trans z1g))).weak (fun _ _ h=>y1Y ((Zle.left _ _).trans (z1k.trans z1g)) h)) (zet.mono ((Zle.left _ _).trans (z1k.trans z1g))) (zcC.mono ((Zle.left _ _).trans (z1k.trans z1g))) ((z8R.mono ((Zle.left _ _).trans (z1k.trans z1g))).weak (fun _ _ h=>y1m ((Zle.left _ _).trans (z1k.trans z1g)) h)) (zeu.mono ((Zle.left _ _).trans (z1k.trans z1g))) ((zev.mono ((Zle.left _ _).trans (z1k.trans z1g))).weak (fun _ _ h=>y1Z ((Zle.left _ _).trans (z1k.trans z1g)) h)) (zew.mono ((Zle.left _ _).trans (z1k.trans z1g))) ((zcD.mono ((Zle.left _ _).trans (z1k.trans z1g))).weak (fun _ _ h=>y1Q ((Zle.left _ _).trans (z1k.trans z1g)) h)) Tryz.call69 (fun w' hz' y0 y1  r  hr=>y65 _ _ _ _ hr w' hz' ) ho) (fun _ _ h'=>⟨h'.1,trivial,h'.2⟩)) ?_
        intro _
        refine WD.ygQ (i:=20) rfl (by kernel_rfl) rfl rfl rfl (Sin.wk (.cons .here .nil) (.stb (.cons rfl (.cons rfl .nil)) .nil)) (y5b (ds:=[(.int .i64 z8k.1.fN),(.int .i64 z8k.1.fD),(.int .i64 z5U),(.int .i64 z5V)]) zz rfl rfl rfl rfl rfl (.there (.there (.there .h7))) rfl rfl) (WD.pA 21 161 rfl (fun _=>ya y5K rfl rfl) (WD.y37 (i:=22) rfl (by kernel_rfl) rfl rfl rfl (by kernel_rfl) (y5b (ds:=[(.int .i64 z8k.1.fN),(.int .i64 z8k.1.fD),(.int .i64 zaw.1.fN),(.int .i64 zaw.1.fD)]) zz rfl rfl rfl rfl rfl .here rfl rfl) (WD.done (by kernel_rfl) (WX.a ?_))))
        obtain⟨zK8,h⟩:=yo h
        refine WC.a (WL.pu rfl (WL.pu rfl (WL.qA 164 (y14 rfl) (WL.qA 165 (ya y6n rfl rfl) (WL.qA 166 (ya y3E rfl rfl) (WL.qA 167 (yc y4j rfl (yk .h1 rfl)) (WL.pu rfl (WL.znth (dd:=169) rfl rfl (Z:=(Z++z5Z)) (Pr:=(p46 (Z++z5Z))) y4U rfl rfl ((z8R.mono ((Zle.left _ _).trans (z1k.trans z1g))).weak (fun _ _ h=>y1m ((Zle.left _ _).trans (z1k.trans z1g)) h)) zK8 ?_))))))))
        rintro zWw zWx zK9 zWy ⟨zWz,zWA,rfl,zWB⟩
        refine WL.qA 170 (ya y7F rfl rfl) (WL.qA 171 (yc yt rfl (y1l (hz.pv2 .h4) zK9 rfl)) (WL.qA 172 (q_max rfl rfl rfl) (WL.pu rfl (WL.nil (WX.yn (WX.a (WC.a (WL.pu rfl (WL.pu rfl (WL.nil ?_))))))))))
        exact WX.round ⟨zsi,(max z6L ((nth ze.fVLs (nth (yd z1P zI []) z2P)).fMax)),(i64 (z2P+1)),zaw.2,z8k.1.fN,z8k.1.fD,zaw.1.fN,zaw.1.fD⟩ h (Nat.lt_succ_self _) (.r14 rfl rfl rfl rfl rfl rfl rfl rfl rfl rfl rfl rfl rfl rfl) (.s11 .h4 .h4 .h4 .h4 .h1 .h3 .h3 .h3 .here .here .here)
       ·replace h:=yq h zst
        refine WC.exit (WX.yg (WX.yg (WX.yz (WX.ghL (fun _ h=>Hp.yeu zmU zAz (.s2 .h3 .h6) h) ?_))))
        exact WX.mid ⟨z6L,z7o,z6M,z6N,z5U,z5V⟩ h (.r11 rfl rfl rfl rfl rfl rfl rfl rfl rfl rfl rfl) (.s10 .h1 .h1 .h1 .h1 .h1 .h1 .here .here .here .here)
      ·rintro zcA zaz z3b z3c z3d z3e h
       replace h:=(zK4 zcA zaz z3b z3c z3d z3e).symm.trans h
       obtain⟨z4v,zKa,h⟩:=z8 h
       obtain⟨zKb,h⟩:=yo h
       obtain⟨zKc,h⟩:=yo h
       refine WC.yP (fun i=>[17].contains i) [] rfl (WD.pA 0 174 rfl (fun _=>q_m rfl) (WD.qA 1 175 rfl (yh z2K rfl (yi .h7) rfl) (WD.pA 2 176 rfl (fun _=>q_m rfl) (WD.eA 3 177 rfl (zb Tryz.call43 (.cons rfl .nil)) (ccz hz .nil .here fun w pz ho=>y4R _ _ _ zKa w pz ) (WD.pA 4 178 rfl (fun _=>q_m rfl) (WD.pA 5 179 rfl (fun _=>y14 rfl) (WD.pA 6 180 rfl (fun _=>ya y6n rfl rfl) (WD.pA 7 181 rfl (fun _=>ya y9f rfl rfl) (WD.qA 8 182 rfl (yc y9g rfl (yk .h3 rfl)) (WD.pA 9 183 rfl (fun _=>q_m rfl) (WD.znth (j:=10) (dd:=184) (by kernel_rfl) rfl z2V z2W rfl rfl (Z:=(Z++z5Z)) (Pr:=(fun r x=>r=e64 x)) ydd rfl rfl (zcC.mono ((Zle.left _ _).trans (z1k.trans z1g))) zKb ?_)))))))))))
       rintro zWC zWD zKd zWE rfl
       refine WD.pA 11 185 rfl (fun _=>ya yca rfl rfl) (WD.qA 12 186 rfl (yc yt rfl (y1l (hz.pv2 .here) zKd rfl)) (WD.pA 13 187 rfl (fun _=>yL (v:=(.agg #[(.int .i64 1),(.int .i64 ((nth ze.fK zI).fSlow))])) (Eos.parts (l:=[.const (.int .i64 1),.tmp 186]) (.r2 rfl rfl) [0,1]) (fun _=>by kernel_rfl)) (WD.pA 14 188 rfl (fun _=>yL (v:=(.agg #[(.int .i64 z4v.fN),(.int .i64 z4v.fD),(.int .i64 1),(.int .i64 ((nth ze.fK zI).fSlow))])) (Eos.parts (l:=[.tmp 177,.tmp 187]) (.r2 rfl rfl) [0,1]) (fun _=>by kernel_rfl)) (WD.new (i:=15) (dd:=189) rfl (by kernel_rfl) rfl rfl rfl (yR (cs:=([(⟨(⟨z3b,z3c⟩:z2),(⟨z3d,z3e⟩:z2)⟩:z7),(⟨z4v,(⟨1,((nth ze.fK zI).fSlow)⟩:z2)⟩:z7)]:List z7).flatMap y1A) z6G (Eos.parts (l:=[.tmp 175,.tmp 188]) (.r2 rfl rfl) [0,1]) (fun _=>by kernel_rfl) rfl (by unfold maxLen;omega)) (fun h'=>absurd h' (by decide)) ?_))))
       intro zgP _
       refine WD.freezeS (ls:=([(⟨(⟨z3b,z3c⟩:z2),(⟨z3d,z3e⟩:z2)⟩:z7),(⟨z4v,(⟨1,((nth ze.fK zI).fSlow)⟩:z2)⟩:z7)]:List z7)) .here .here hz (RR.flat (enc:=y1A) (fun _=>rfl) _) ?_
       intro zmV zAA zKe
       have zAB:RR 1 (y1W (Z++zmV)) [(.slice (some ⟨zgP,0,none⟩) (([(⟨(⟨z3b,z3c⟩:z2),(⟨z3d,z3e⟩:z2)⟩:z7),(⟨z4v,(⟨1,((nth ze.fK zI).fSlow)⟩:z2)⟩:z7)]:List z7).length) 2)] ([([(⟨(⟨z3b,z3c⟩:z2),(⟨z3d,z3e⟩:z2)⟩:z7),(⟨z4v,(⟨1,((nth ze.fK zI).fSlow)⟩:z2)⟩:z7)]:List z7)]:List (List z7)):=(RR.cons (r:=[(.slice (some ⟨zgP,0,none⟩) (([(⟨(⟨z3b,z3c⟩:z2),(⟨z3d,z3e⟩:z2)⟩:z7),(⟨z4v,(⟨1,((nth ze.fK zI).fSlow)⟩:z2)⟩:z7)]:List z7).length) 2)]) rfl (show y1W _ _ _ from⟨_,_,rfl,zKe⟩) (RR.nil _ _))
       refine WD.new (i:=16) (dd:=190) rfl (by kernel_rfl) rfl rfl rfl (yR (cs:=[(.slice (some ⟨zgP,0,none⟩) (([(⟨(⟨z3b,z3c⟩:z2),(⟨z3d,z3e⟩:z2)⟩:z7),(⟨z4v,(⟨1,((nth ze.fK zI).fSlow)⟩:z2)⟩:z7)]:List z7).length) 2)]) z82 (Eos.parts (l:=[.tmp 189]) (.cons rfl .nil) [0]) (fun _=>by kernel_rfl) rfl (by unfold maxLen;omega)) (fun h'=>absurd h' (by decide)) ?_
       intro zWF _
       have zKf:RR 1 (y1W (Z++zmV)) (z7t++[(.slice (some ⟨zgP,0,none⟩) (([(⟨(⟨z3b,z3c⟩:z2),(⟨z3d,z3e⟩:z2)⟩:z7),(⟨z4v,(⟨1,((nth ze.fK zI).fSlow)⟩:z2)⟩:z7)]:List z7).length) 2)]) (z2D++([([(⟨(⟨z3b,z3c⟩:z2),(⟨z3d,z3e⟩:z2)⟩:z7),(⟨z4v,(⟨1,((nth ze.fK zI).fSlow)⟩:z2)⟩:z7)]:List z7)]:List (List z7))):=RR.app (zso.weak (fun _ _ h=>y3d zAA h)) zAB
       refine WD.old (i:=17) (dd:=191) rfl (by kernel_rfl) rfl rfl rfl rfl (fun _=>(Sin.of .nil)) (y7B (l1:=z2D) (l2:=([([(⟨(⟨z3b,z3c⟩:z2),(⟨z3d,z3e⟩:z2)⟩:z7),(⟨z4v,(⟨1,((nth ze.fK zI).fSlow)⟩:z2)⟩:z7)]:List z7)]:List (List z7))) (news:=[(.slice (some ⟨zgP,0,none⟩) (([(⟨(⟨z3b,z3c⟩:z2),(⟨z3d,z3e⟩:z2)⟩:z7),(⟨z4v,(⟨1,((nth ze.fK zI).fSlow)⟩:z2)⟩:z7)]:List z7).length) 2)]) (Pr:=(y1W (Z++zmV))) z82 rfl rfl .h3 zAB (y4r .here) (yac rfl ybq) zKc) ?_
       rintro⟨zKg,zKh⟩ _
       refine WD.pA 18 7 rfl (fun _=>q_z rfl) (WD.done (by kernel_rfl) (WX.yn ?_))
       exact WX.mid ⟨(z2D++([([(⟨(⟨z3b,z3c⟩:z2),(⟨z3d,z3e⟩:z2)⟩:z7),(⟨z4v,(⟨1,((nth ze.fK zI).fSlow)⟩:z2)⟩:z7)]:List z7)]:List (List z7))),zaz,zmV,zKg,zKh,(z7t++[(.slice (some ⟨zgP,0,none⟩) (([(⟨(⟨z3b,z3c⟩:z2),(⟨z3d,z3e⟩:z2)⟩:z7),(⟨z4v,(⟨1,((nth ze.fK zI).fSlow)⟩:z2)⟩:z7)]:List z7).length) 2)])⟩ ⟨h,zAA,zKf⟩ (.r8 rfl rfl rfl rfl rfl rfl rfl rfl) (.s9 .h2 .h2 .here .h1 .h1 .h1 .h1 .h2 .h2)
    ·rintro z8l zay zeB zgL zgM zgN ⟨h,zKi,zKj⟩
     replace h:=(zJZ z8l zay).symm.trans h
     refine WC.a (WL.pu rfl (WL.pu rfl (WL.nil ?_)))
     exact WX.round ⟨zsj,z8l,(i64 (zI+1)),zay,zeB,zgL,zgM,zgN⟩ ⟨h,(z1g.trans zKi),zKj⟩ (Nat.lt_succ_self _) (.r8 rfl rfl rfl rfl rfl rfl rfl rfl) (.s9 .here .here .here .here .here .here .here .here .here)
   ·replace h:=yq h zsp
    refine WC.exit (WX.yg (WX.yg (WX.yz ?_)))
    exact WX.mid ⟨z2D,z5W,z5Z,z7r,z7s,z7t⟩ ⟨h,z1g,zso⟩ (.r3 rfl rfl rfl) (.s6 .here .here .here .here .h3 .h3)
  ·rintro z6j zcB zaE zjU zjV zcE ⟨h,zKk,zsu⟩
   replace h:=(zJY z6j zcB).symm.trans h
   refine WC.b ?_
   obtain⟨zKl,h⟩:=yo h
   refine WC.a (WL.pu rfl (WL.pu rfl ?_))
   have zKm:RR 1 (y1W (Z++zaE)) (z7p++zcE) (z2Q++z6j):=RR.app (zJX.weak (fun _ _ h=>y3d zKk h)) zsu
   refine WL.fA 195 (y7B (l1:=z2Q) (l2:=z6j) (news:=zcE) (Pr:=(y1W (Z++zaE))) z82 rfl rfl .h1 zsu (y4r .h2) (RR.oc zsu (fun _ _ h=>p173_oc h)) zKl) ?_
   rintro⟨zKn,zKo⟩ _
   refine WL.pu rfl (WL.pu rfl (WL.pu rfl (WL.nil (WX.a (WC.ret ?_)))))
   obtain rfl:=oJ h
   refine WX.yf Tryz.results42 (.tmp rfl (.tmp rfl .nil)) (fun w hw=>?_)
   exact⟨zaE,zKn,zKo,(z7p++zcE),y24 rfl rfl,zKm,hw.sub (.s5 .h1 .here .h1 .h1 .h1)⟩
def y5d(zaF:z2):Option Bool:=
 (y1L zaF).bind fun zsv=>some (zsv&&(decide (zaF.fN≥0)))
theorem y9r(Z:Zp)(zaF:z2)(r:Bool)(h:y5d zaF=some r)(w₀:World)(hz:PZ [] w₀ Z):
  Calls Tryz.prog 147 #[(.agg #[(.int .i64 zaF.fN),(.int .i64 zaF.fD)])] w₀ fun e w'=>e = .returned (.bool r)∧Hp [] w₀ w' []:=by
 unfold y5d at h
 refine Calls.on1 Tryz.func147 Tryz.ntmps147 ?_
 refine WC.b (WC.a (WL.nA 1 (yI (cs:=[(.int .i64 zaF.fN),(.int .i64 zaF.fD)]) rfl rfl) ?_))
 intro zWG _
 refine WL.pu rfl (WL.nil (WX.a (WC.b ?_)))
 obtain⟨zsv,zKp,h⟩:=z8 h
 refine WC.a (WL.qA 3 (yh zf rfl (yi .here) rfl) (WL.cA 4 (zb Tryz.call80 (.cons rfl .nil)) .nil (cc hz .nil fun w pz ho=>y2s _ _ _ zKp w pz ) (WL.pu rfl (WL.seg true 3 5 (B:=zsv&&(decide (zaF.fN≥0))) rfl rfl rfl rfl rfl rfl (fun h=>(y2z h).symm) (fun _ zKq=>?_) ?_))))
 ·skip
  refine WL.qA 6 (ya y2k rfl rfl) (WL.qA 7 (yc yt rfl (yk .here rfl)) (WL.pu rfl (WL.pu rfl ?_)))
  exact WL.yB (y2A zKq) rfl rfl .all
 refine WL.pu rfl (WL.nil (WX.a (WC.ret ?_)))
 obtain rfl:=oJ h
 refine WX.yf Tryz.results147 (.tmp rfl .nil) (fun w hw=>?_)
 exact⟨yD rfl,hw.sub .nil⟩
def y4J(z5C:z7):Option Bool:=
 (y5d z5C.fBurst).bind fun zAC=>(if !zAC then some true else(y5d z5C.fRate).bind fun zAD=>some (!zAD)).bind fun zsw=>some zsw
theorem ydl(Z:Zp)(z5C:z7)(r:Bool)(h:y4J z5C=some r)(w₀:World)(hz:PZ [] w₀ Z):
  Calls Tryz.prog 166 #[(.agg #[(.int .i64 z5C.fBurst.fN),(.int .i64 z5C.fBurst.fD),(.int .i64 z5C.fRate.fN),(.int .i64 z5C.fRate.fD)])] w₀ fun e w'=>e = .returned (.bool r)∧Hp [] w₀ w' []:=by
 unfold y4J at h
 refine Calls.on1 Tryz.func166 Tryz.ntmps166 ?_
 refine WC.b (WC.a (WL.nA 1 (yI (cs:=[(.int .i64 z5C.fBurst.fN),(.int .i64 z5C.fBurst.fD),(.int .i64 z5C.fRate.fN),(.int .i64 z5C.fRate.fD)]) rfl rfl) ?_))
 intro zWH _
 refine WL.pu rfl (WL.nil (WX.a (WC.b ?_)))
 obtain⟨zAC,zKr,h⟩:=z8 h
 obtain⟨zsw,zAE,h⟩:=z8 h
 refine WC.a (WL.qA 3 (ya y4O rfl rfl) (WL.qA 4 (yT (cs:=[(.int .i64 z5C.fBurst.fN),(.int .i64 z5C.fBurst.fD)]) zf rfl rfl (y31 (s:=2) .here rfl)) (WL.cA 5 (zb Tryz.call147 (.cons rfl .nil)) .nil (cc hz .nil fun w pz ho=>y9r _ _ _ zKr w pz ) (WL.pu rfl (WL.pu rfl (WL.seg false 4 7 (B:=zsw) rfl rfl rfl rfl rfl rfl (fun h=>(oJ (yp zAE h)).symm) (fun _ zKs=>?_) ?_))))))
 ·skip
  have zjY:=yq zAE zKs
  obtain⟨zAD,zKt,zjY⟩:=z8 zjY
  replace zjY:=oJ zjY
  refine WL.qA 8 (ya y5K rfl rfl) (WL.qA 9 (yT (cs:=[(.int .i64 z5C.fRate.fN),(.int .i64 z5C.fRate.fD)]) zf rfl rfl (y31 (s:=2) .here rfl)) (WL.cA 10 (zb Tryz.call147 (.cons rfl .nil)) .nil (cc hz .nil fun w pz ho=>y9r _ _ _ zKt w pz ) (WL.pu rfl (WL.pu rfl ?_))))
  exact WL.yB zjY rfl rfl .all
 refine WL.pu rfl (WL.nil (WX.a (WC.ret ?_)))
 obtain rfl:=oJ h
 refine WX.yf Tryz.results166 (.tmp rfl .nil) (fun w hw=>?_)
 exact⟨yD rfl,hw.sub .nil⟩
def y16(z3f:List z7)(z8m:z7→Option Bool)(zaG:Option Int):Nat→Int→Option Int
 | 0,_=>none
 | zsx+1,z2Z=>if decide (z2Z<((z3f.length:Nat):Int)) then chk ((0:Int)≤z2Z∧z2Z<((z3f.length:Nat):Int)) ((z8m (⟨(⟨(((nth z3f z2Z).fBurst).fN),(((nth z3f z2Z).fBurst).fD)⟩:z2),(⟨(((nth z3f z2Z).fRate).fN),(((nth z3f z2Z).fRate).fD)⟩:z2)⟩:z7)).bind fun zsy=>if zsy then some z2Z else y16 z3f z8m zaG zsx (i64 (z2Z+1))) else zaG
theorem y5i{n:Nat}{z3f:List z7}{z8m:z7→Option Bool}{zaG:Option Int}{z2Z:Int}{r:Int}(h:y16 z3f z8m zaG n z2Z=some r):∃ m,n=m+1:=by
 cases n with
 | zero=>cases h
 | succ m=>exact⟨m,rfl⟩
def y2W(z3f:List z7)(z8m:z7→Option Bool):Option Int:=
 jp0 (some (-1)) fun zaG=>y16 z3f z8m zaG yy 0
theorem y6h(Z:Zp)(zsz:Option Addr)(zsA:Nat)(zeC:FuncId)(zjZ:List Value)(z3f:List z7)(z8m:z7→Option Bool)(r:Int)(h:y2W z3f z8m=some r)(w₀:World)(hz:PZ [] w₀ Z)(zKu:ZS Z 4 (fun r x=>r=y1A x) zsz zsA z3f)(zKv:∀ args w,(callFunc zeC args).run Tryz.prog w = .ok (.enter zeC args) w)(zKw:∀ w:World,PZ [] w Z→∀(x0:z7) (r:Bool),z8m x0=some r→Calls Tryz.prog zeC (([(.agg #[(.int .i64 x0.fBurst.fN),(.int .i64 x0.fBurst.fD),(.int .i64 x0.fRate.fN),(.int .i64 x0.fRate.fD)])]:List Value)++zjZ).toArray w fun e w'=>e = .returned (.bool r)∧Hp [] w w' []):
  Calls Tryz.prog 178 #[(.slice zsz z3f.length zsA),(.func (.func zeC) #[] (zjZ).toArray)] w₀ fun e w'=>e = .returned (.int .i64 r)∧Hp [] w₀ w' []:=by
 unfold y2W at h
 refine Calls.yK Tryz.func178 Tryz.ntmps178 ?_
 refine WC.b (WC.a (WL.pu rfl (WL.nil (WX.a ?_))))
 obtain⟨zaG,zKx,h⟩:=y1N h
 refine WC.y1j ((zaG=some r)) ([]) ([]) ?_ ?_
 ·skip
  refine WC.b (WC.a (WL.pu rfl (WL.qA 7 (yH Tryz.underlying173 rfl) (WL.pu rfl (WL.nil (WX.a (WC.block (WC.y2E (fun(zgQ:Nat) (z2Z:Int)=>(y16 z3f z8m zaG zgQ z2Z=some r)) (fun zgQ z2Z=>[(0,(.slice zsz z3f.length zsA)),(1,(.func (.func zeC) #[] (zjZ).toArray)),(7,(.int .i64 ((z3f.length:Nat):Int))),(8,(.int .i64 z2Z))]) (fun zgQ z2Z=>[]) (fun zgQ z2Z=>zgQ) ⟨yy,0⟩ h (.r4 rfl rfl rfl rfl) .nil ?_))))))))
  rintro zgQ z2Z h
  obtain⟨zsx,rfl⟩:=y5i h
  rw[y16] at h
  refine WC.b (WC.a (WL.pu rfl (WL.nil (WX.a (WC.b (WC.cond rfl (fun zsB=>?_) (fun zsB=>?_)))))))
  ·replace h:=yp h zsB
   refine WC.skip (WX.a (WC.b (WC.block (WC.b (WC.a (WL.pu rfl (WL.pu rfl (WL.nil (WX.a (WC.b ?_))))))))))
   obtain⟨zKy,h⟩:=yo h
   obtain⟨zsy,zKz,h⟩:=z8 h
   refine WC.a (WL.pu rfl (WL.pu rfl (WL.pu rfl (WL.znth (dd:=14) rfl rfl (Z:=Z) (Pr:=(fun r x=>r=y1A x)) z6G rfl rfl zKu zKy ?_))))
   rintro zWI zWJ zKA zWK rfl
   refine WL.qA 15 (yh z2K rfl (y2b hz.pv zKA) rfl) (WL.cA 16 (y2y (l:=[.tmp 15]) (f:=zeC) (caps:=zjZ) zKv rfl (.cons rfl .nil)) .nil (fun w hw=>zKw w (hz.now hw) (⟨(⟨(((nth z3f z2Z).fBurst).fN),(((nth z3f z2Z).fBurst).fD)⟩:z2),(⟨(((nth z3f z2Z).fRate).fN),(((nth z3f z2Z).fRate).fD)⟩:z2)⟩:z7) zsy  zKz) (WL.nil (WX.a (WC.cond rfl (fun zsC=>?_) (fun zsC=>?_)))))
   ·replace h:=yp h zsC
    refine WC.b (WC.a (WL.pu rfl (WL.pu rfl (WL.nil (WX.a (WC.ret (WX.ys (WX.ye (WX.ye (WX.ys (WX.ye ?_)))))))))))
    obtain rfl:=oJ h
    refine WX.yf Tryz.results178 (.tmp rfl .nil) (fun w hw=>?_)
    exact⟨yD rfl,hw.sub .nil⟩
   ·replace h:=yq h zsC
    refine WC.skip (WX.yn (WX.a (WC.a (WL.pu rfl (WL.pu rfl (WL.nil ?_))))))
    exact WX.round ⟨zsx,(i64 (z2Z+1))⟩ h (Nat.lt_succ_self _) (.r4 rfl rfl rfl rfl) .nil
  ·replace h:=yq h zsB
   refine WC.exit (WX.yg (WX.yg (WX.yz ?_)))
   exact WX.mid () h .nil .nil
 ·rintro  h
  replace h:=zKx.symm.trans h
  refine WC.b (WC.a (WL.pu rfl (WL.nil (WX.a (WC.ret ?_)))))
  obtain rfl:=oJ h
  refine WX.yf Tryz.results178 (.tmp rfl .nil) (fun w hw=>?_)
  exact⟨yD rfl,hw.sub .nil⟩
def y1r(zk0:List z7)(zeD:z7→Option Bool):Option Bool:=
 (y2W zk0 zeD).bind fun zAF=>some (decide (zAF≥0))
theorem y3V(Z:Zp)(zAG:Option Addr)(zAH:Nat)(zeE:FuncId)(zk1:List Value)(zk0:List z7)(zeD:z7→Option Bool)(r:Bool)(h:y1r zk0 zeD=some r)(w₀:World)(hz:PZ [] w₀ Z)(zKB:ZS Z 4 (fun r x=>r=y1A x) zAG zAH zk0)(zKC:∀ args w,(callFunc zeE args).run Tryz.prog w = .ok (.enter zeE args) w)(zKD:∀ w:World,PZ [] w Z→∀(x0:z7) (r:Bool),zeD x0=some r→Calls Tryz.prog zeE (([(.agg #[(.int .i64 x0.fBurst.fN),(.int .i64 x0.fBurst.fD),(.int .i64 x0.fRate.fN),(.int .i64 x0.fRate.fD)])]:List Value)++zk1).toArray w fun e w'=>e = .returned (.bool r)∧Hp [] w w' []):
  Calls Tryz.prog 165 #[(.slice zAG zk0.length zAH),(.func (.func zeE) #[] (zk1).toArray)] w₀ fun e w'=>e = .returned (.bool r)∧Hp [] w₀ w' []:=by
 unfold y1r at h
 refine Calls.yK Tryz.func165 Tryz.ntmps165 ?_
 refine WC.b (WC.a (WL.pu rfl (WL.nil (WX.a (WC.b ?_)))))
 obtain⟨zAF,zKE,h⟩:=z8 h
 refine WC.a (WL.pu rfl (WL.pu rfl (WL.cA 7 (zb Tryz.call178 (.r2 rfl rfl)) .nil (cc hz .nil fun w pz ho=>y6h _ _ _ (zeC:=zeE) (zjZ:=zk1) _ (z8m:=zeD) _ zKE w pz zKB zKC zKD) (WL.pu rfl (WL.pu rfl (WL.nil (WX.a (WC.ret ?_))))))))
 obtain rfl:=oJ h
 refine WX.yf Tryz.results165 (.tmp rfl .nil) (fun w hw=>?_)
 exact⟨yD rfl,hw.sub .nil⟩
def y4m(zaH:List z7):Option Bool:=
 (if (decide (((zaH.length:Nat):Int)≥1))&&(decide (((zaH.length:Nat):Int)≤32)) then(y1r zaH (fun(y0:z7)=>y4J y0)).bind fun zAI=>some (!zAI) else some false).bind fun zsD=>some zsD
theorem y7n(Z:Zp)(zAJ:Option Addr)(zAK:Nat)(zaH:List z7)(r:Bool)(h:y4m zaH=some r)(w₀:World)(hz:PZ [] w₀ Z)(zKF:ZS Z 4 (fun r x=>r=y1A x) zAJ zAK zaH):
  Calls Tryz.prog 146 #[(.slice zAJ zaH.length zAK)] w₀ fun e w'=>e = .returned (.bool r)∧Hp [] w₀ w' []:=by
 unfold y4m at h
 refine Calls.on1 Tryz.func146 Tryz.ntmps146 ?_
 refine WC.b (WC.a (WL.pu rfl (WL.nil (WX.a (WC.b ?_)))))
 obtain⟨zsD,zAL,h⟩:=z8 h
 refine WC.a (WL.pu rfl (WL.qA 4 (yH Tryz.underlying173 rfl) (WL.pu rfl (WL.pu rfl (WL.seg true 3 6 (B:=(decide (((zaH.length:Nat):Int)≥1))&&(decide (((zaH.length:Nat):Int)≤32))) rfl rfl rfl rfl rfl rfl (fun h=>(y2z h).symm) (fun _ zKG=>?_) ?_)))))
 ·skip
  refine WL.pu rfl (WL.qA 8 (yH Tryz.underlying173 rfl) (WL.pu rfl (WL.pu rfl ?_)))
  exact WL.yB (y2A zKG) rfl rfl .all
 refine WL.pu rfl (WL.seg true 3 11 (B:=zsD) rfl rfl rfl rfl rfl rfl (fun h=>(oJ (yq zAL h)).symm) (fun _ zKH=>?_) ?_)
 ·skip
  have zk2:=yp zAL zKH
  obtain⟨zAI,zKI,zk2⟩:=z8 zk2
  replace zk2:=oJ zk2
  refine WL.pu rfl (WL.cA 13 (zb Tryz.call165 (.r2 rfl rfl)) .nil (cc hz .nil fun w pz ho=>y3V _ _ _ (zeE:=166) (zk1:=[]) _ (zeD:=(fun(y0:z7)=>y4J y0)) _ zKI w pz zKF Tryz.call166 (fun w' hz' y0  r  hr=>ydl _ _ _ hr w' hz' )) (WL.pu rfl (WL.pu rfl ?_)))
  exact WL.yB zk2 rfl rfl .all
 refine WL.pu rfl (WL.nil (WX.a (WC.ret ?_)))
 obtain rfl:=oJ h
 refine WX.yf Tryz.results146 (.tmp rfl .nil) (fun w hw=>?_)
 exact⟨yD rfl,hw.sub .nil⟩
def y1s(zk3:List z7):Option Bool:=
 (y4m zk3).bind fun zAM=>some (!zAM)
theorem y6z(Z:Zp)(zAN:Option Addr)(zAO:Nat)(zk3:List z7)(r:Bool)(h:y1s zk3=some r)(w₀:World)(hz:PZ [] w₀ Z)(zKJ:ZS Z 4 (fun r x=>r=y1A x) zAN zAO zk3):
  Calls Tryz.prog 151 #[(.slice zAN zk3.length zAO)] w₀ fun e w'=>e = .returned (.bool r)∧Hp [] w₀ w' []:=by
 unfold y1s at h
 refine Calls.on1 Tryz.func151 Tryz.ntmps151 ?_
 refine WC.b (WC.a (WL.pu rfl (WL.nil (WX.a (WC.b ?_)))))
 obtain⟨zAM,zKK,h⟩:=z8 h
 refine WC.a (WL.pu rfl (WL.cA 4 (zb Tryz.call146 (.cons rfl .nil)) .nil (cc hz .nil fun w pz ho=>y7n _ _ _ _ _ zKK w pz zKJ) (WL.pu rfl (WL.pu rfl (WL.nil (WX.a (WC.ret ?_)))))))
 obtain rfl:=oJ h
 refine WX.yf Tryz.results151 (.tmp rfl .nil) (fun w hw=>?_)
 exact⟨yD rfl,hw.sub .nil⟩
def y10(z5D:List (List z7))(z8n:(List z7)→Option Bool)(zaI:Option Int):Nat→Int→Option Int
 | 0,_=>none
 | zsE+1,z5d=>if decide (z5d<((z5D.length:Nat):Int)) then chk ((0:Int)≤z5d∧z5d<((z5D.length:Nat):Int)) ((z8n (nth z5D z5d)).bind fun zsF=>if zsF then some z5d else y10 z5D z8n zaI zsE (i64 (z5d+1))) else zaI
theorem y5n{n:Nat}{z5D:List (List z7)}{z8n:(List z7)→Option Bool}{zaI:Option Int}{z5d:Int}{r:Int}(h:y10 z5D z8n zaI n z5d=some r):∃ m,n=m+1:=by
 cases n with
 | zero=>cases h
 | succ m=>exact⟨m,rfl⟩
def y2e(z5D:List (List z7))(z8n:(List z7)→Option Bool):Option Int:=
 jp0 (some (-1)) fun zaI=>y10 z5D z8n zaI yy 0
theorem y6u(Z:Zp)(zsG:Option Addr)(zsH:Nat)(zeF:FuncId)(zk4:List Value)(z5D:List (List z7))(z8n:(List z7)→Option Bool)(r:Int)(h:y2e z5D z8n=some r)(w₀:World)(hz:PZ [] w₀ Z)(zKL:ZS Z 1 (y1W Z) zsG zsH z5D)(zKM:∀ args w,(callFunc zeF args).run Tryz.prog w = .ok (.enter zeF args) w)(zKN:∀ w:World,PZ [] w Z→∀(x0:List z7) (ao0:Option Addr) (cap0:Nat) (r:Bool),ZS Z 4 (fun r x=>r=y1A x) ao0 cap0 x0→z8n x0=some r→Calls Tryz.prog zeF (([(.slice ao0 x0.length cap0)]:List Value)++zk4).toArray w fun e w'=>e = .returned (.bool r)∧Hp [] w w' []):
  Calls Tryz.prog 168 #[(.slice zsG z5D.length zsH),(.func (.func zeF) #[] (zk4).toArray)] w₀ fun e w'=>e = .returned (.int .i64 r)∧Hp [] w₀ w' []:=by
 unfold y2e at h
 refine Calls.yK Tryz.func168 Tryz.ntmps168 ?_
 refine WC.b (WC.a (WL.pu rfl (WL.nil (WX.a ?_))))
 obtain⟨zaI,zKO,h⟩:=y1N h
 refine WC.y1j ((zaI=some r)) ([]) ([]) ?_ ?_
 ·skip
  refine WC.b (WC.a (WL.pu rfl (WL.qA 7 (yH Tryz.underlying128 rfl) (WL.pu rfl (WL.nil (WX.a (WC.block (WC.y2E (fun(zgR:Nat) (z5d:Int)=>(y10 z5D z8n zaI zgR z5d=some r)) (fun zgR z5d=>[(0,(.slice zsG z5D.length zsH)),(1,(.func (.func zeF) #[] (zk4).toArray)),(7,(.int .i64 ((z5D.length:Nat):Int))),(8,(.int .i64 z5d))]) (fun zgR z5d=>[]) (fun zgR z5d=>zgR) ⟨yy,0⟩ h (.r4 rfl rfl rfl rfl) .nil ?_))))))))
  rintro zgR z5d h
  obtain⟨zsE,rfl⟩:=y5n h
  rw[y10] at h
  refine WC.b (WC.a (WL.pu rfl (WL.nil (WX.a (WC.b (WC.cond rfl (fun zsI=>?_) (fun zsI=>?_)))))))
  ·replace h:=yp h zsI
   refine WC.skip (WX.a (WC.b (WC.block (WC.b (WC.a (WL.pu rfl (WL.pu rfl (WL.nil (WX.a (WC.b ?_))))))))))
   obtain⟨zKP,h⟩:=yo h
   obtain⟨zsF,zKQ,h⟩:=z8 h
   refine WC.a (WL.pu rfl (WL.pu rfl (WL.pu rfl (WL.znth (dd:=14) rfl rfl (Z:=Z) (Pr:=(y1W Z)) z82 rfl rfl zKL zKP ?_))))
   rintro zWL zWM zKR zWN ⟨zKS,zKT,rfl,zKU⟩
   refine WL.qA 15 (yc zbO rfl (y5I hz.pv zKR rfl)) (WL.cA 16 (y2y (l:=[.tmp 15]) (f:=zeF) (caps:=zk4) zKM rfl (.cons rfl .nil)) .nil (fun w hw=>zKN w (hz.now hw) (nth z5D z5d) zKS zKT zsF zKU zKQ) (WL.nil (WX.a (WC.cond rfl (fun zsJ=>?_) (fun zsJ=>?_)))))
   ·replace h:=yp h zsJ
    refine WC.b (WC.a (WL.pu rfl (WL.pu rfl (WL.nil (WX.a (WC.ret (WX.ys (WX.ye (WX.ye (WX.ys (WX.ye ?_)))))))))))
    obtain rfl:=oJ h
    refine WX.yf Tryz.results168 (.tmp rfl .nil) (fun w hw=>?_)
    exact⟨yD rfl,hw.sub .nil⟩
   ·replace h:=yq h zsJ
    refine WC.skip (WX.yn (WX.a (WC.a (WL.pu rfl (WL.pu rfl (WL.nil ?_))))))
    exact WX.round ⟨zsE,(i64 (z5d+1))⟩ h (Nat.lt_succ_self _) (.r4 rfl rfl rfl rfl) .nil
  ·replace h:=yq h zsI
   refine WC.exit (WX.yg (WX.yg (WX.yz ?_)))
   exact WX.mid () h .nil .nil
 ·rintro  h
  replace h:=zKO.symm.trans h
  refine WC.b (WC.a (WL.pu rfl (WL.nil (WX.a (WC.ret ?_)))))
  obtain rfl:=oJ h
  refine WX.yf Tryz.results168 (.tmp rfl .nil) (fun w hw=>?_)
  exact⟨yD rfl,hw.sub .nil⟩
def y18(zk5:List (List z7))(zeG:(List z7)→Option Bool):Option Bool:=
 (y2e zk5 zeG).bind fun zAP=>some (decide (zAP≥0))
theorem y46(Z:Zp)(zAQ:Option Addr)(zAR:Nat)(zeH:FuncId)(zk6:List Value)(zk5:List (List z7))(zeG:(List z7)→Option Bool)(r:Bool)(h:y18 zk5 zeG=some r)(w₀:World)(hz:PZ [] w₀ Z)(zKV:ZS Z 1 (y1W Z) zAQ zAR zk5)(zKW:∀ args w,(callFunc zeH args).run Tryz.prog w = .ok (.enter zeH args) w)(zKX:∀ w:World,PZ [] w Z→∀(x0:List z7) (ao0:Option Addr) (cap0:Nat) (r:Bool),ZS Z 4 (fun r x=>r=y1A x) ao0 cap0 x0→zeG x0=some r→Calls Tryz.prog zeH (([(.slice ao0 x0.length cap0)]:List Value)++zk6).toArray w fun e w'=>e = .returned (.bool r)∧Hp [] w w' []):
  Calls Tryz.prog 150 #[(.slice zAQ zk5.length zAR),(.func (.func zeH) #[] (zk6).toArray)] w₀ fun e w'=>e = .returned (.bool r)∧Hp [] w₀ w' []:=by
 unfold y18 at h
 refine Calls.yK Tryz.func150 Tryz.ntmps150 ?_
 refine WC.b (WC.a (WL.pu rfl (WL.nil (WX.a (WC.b ?_)))))
 obtain⟨zAP,zKY,h⟩:=z8 h
 refine WC.a (WL.pu rfl (WL.pu rfl (WL.cA 7 (zb Tryz.call168 (.r2 rfl rfl)) .nil (cc hz .nil fun w pz ho=>y6u _ _ _ (zeF:=zeH) (zk4:=zk6) _ (z8n:=zeG) _ zKY w pz zKV zKW zKX) (WL.pu rfl (WL.pu rfl (WL.nil (WX.a (WC.ret ?_))))))))
 obtain rfl:=oJ h
 refine WX.yf Tryz.results150 (.tmp rfl .nil) (fun w hw=>?_)
 exact⟨yD rfl,hw.sub .nil⟩
def y4v(z3R:zSv):Option Bool:=
 (y1L z3R.fRate).bind fun zsK=>(if zsK&&(decide (z3R.fRate.fN>0)) then(y1L z3R.fL).bind fun zAS=>some zAS else some false).bind fun zmW=>some (zmW&&(decide (z3R.fL.fN≥0)))
theorem y9s(Z:Zp)(z3R:zSv)(r:Bool)(h:y4v z3R=some r)(w₀:World)(hz:PZ [] w₀ Z):
  Calls Tryz.prog 152 #[(.agg #[(.int .i64 z3R.fRate.fN),(.int .i64 z3R.fRate.fD),(.int .i64 z3R.fL.fN),(.int .i64 z3R.fL.fD)])] w₀ fun e w'=>e = .returned (.bool r)∧Hp [] w₀ w' []:=by
 unfold y4v at h
 refine Calls.on1 Tryz.func152 Tryz.ntmps152 ?_
 refine WC.b (WC.a (WL.nA 1 (yI (cs:=[(.int .i64 z3R.fRate.fN),(.int .i64 z3R.fRate.fD),(.int .i64 z3R.fL.fN),(.int .i64 z3R.fL.fD)]) rfl rfl) ?_))
 intro zWO _
 refine WL.pu rfl (WL.nil (WX.a (WC.b ?_)))
 obtain⟨zsK,zKZ,h⟩:=z8 h
 obtain⟨zmW,zAT,h⟩:=z8 h
 refine WC.a (WL.qA 3 (ya y8h rfl rfl) (WL.qA 4 (yT (cs:=[(.int .i64 z3R.fRate.fN),(.int .i64 z3R.fRate.fD)]) zf rfl rfl (y31 (s:=2) .here rfl)) (WL.cA 5 (zb Tryz.call80 (.cons rfl .nil)) .nil (cc hz .nil fun w pz ho=>y2s _ _ _ zKZ w pz ) (WL.pu rfl (WL.seg true 4 6 (B:=zsK&&(decide (z3R.fRate.fN>0))) rfl rfl rfl rfl rfl rfl (fun h=>(y2z h).symm) (fun _ zL0=>?_) ?_)))))
 ·skip
  refine WL.qA 7 (ya y8h rfl rfl) (WL.qA 8 (ya y2k rfl rfl) (WL.qA 9 (yc yt rfl (yk .here rfl)) (WL.pu rfl (WL.pu rfl ?_))))
  exact WL.yB (y2A zL0) rfl rfl .all
 refine WL.pu rfl (WL.seg true 3 12 (B:=zmW) rfl rfl rfl rfl rfl rfl (fun h=>(oJ (yq zAT h)).symm) (fun _ zL1=>?_) ?_)
 ·skip
  have zk7:=yp zAT zL1
  obtain⟨zAS,zL2,zk7⟩:=z8 zk7
  replace zk7:=oJ zk7
  refine WL.qA 13 (ya y8i rfl rfl) (WL.qA 14 (yT (cs:=[(.int .i64 z3R.fL.fN),(.int .i64 z3R.fL.fD)]) zf rfl rfl (y31 (s:=2) .here rfl)) (WL.cA 15 (zb Tryz.call80 (.cons rfl .nil)) .nil (cc hz .nil fun w pz ho=>y2s _ _ _ zL2 w pz ) (WL.pu rfl ?_)))
  exact WL.yB zk7 rfl rfl .all
 refine WL.pu rfl (WL.seg true 4 17 (B:=zmW&&(decide (z3R.fL.fN≥0))) rfl rfl rfl rfl rfl rfl (fun h=>(y2z h).symm) (fun _ zL3=>?_) ?_)
 ·skip
  refine WL.qA 18 (ya y8i rfl rfl) (WL.qA 19 (ya y2k rfl rfl) (WL.qA 20 (yc yt rfl (yk .here rfl)) (WL.pu rfl (WL.pu rfl ?_))))
  exact WL.yB (y2A zL3) rfl rfl .all
 refine WL.pu rfl (WL.nil (WX.a (WC.ret ?_)))
 obtain rfl:=oJ h
 refine WX.yf Tryz.results152 (.tmp rfl .nil) (fun w hw=>?_)
 exact⟨yD rfl,hw.sub .nil⟩
def y1n(zk8:Int):Option z2:=
 some (⟨zk8,1⟩:z2)
theorem y2T(Z:Zp)(zk8:Int)(r:z2)(h:y1n zk8=some r)(w₀:World)(hz:PZ [] w₀ Z):
  Calls Tryz.prog 145 #[(.int .i64 zk8)] w₀ fun e w'=>e = .returned (.agg #[(.int .i64 r.fN),(.int .i64 r.fD)])∧Hp [] w₀ w' []:=by
 unfold y1n at h
 refine Calls.on1 Tryz.func145 Tryz.ntmps145 ?_
 refine WC.b (WC.a (WL.nA 2 (yv (cs:=[(.int .i64 0),(.int .i64 0)]) zT rfl) ?_))
 intro zWP _
 refine WL.nil (WX.a (WC.b (WC.a (WL.pu rfl (WL.qA 4 (yL (v:=(.agg #[(.int .i64 zk8),(.int .i64 1)])) (Eos.parts (l:=[.tmp 3,.const (.int .i64 1)]) (.r2 rfl rfl) [0,1]) (fun _=>by kernel_rfl)) (WL.ym rfl rfl (yl zz rfl rfl rfl .here rfl rfl rfl) (WL.nil (WX.a (WC.ret ?_)))))))))
 obtain rfl:=oJ h
 refine WX.yf Tryz.results145 (.agg rfl zf rfl (yi .here) .nil) (fun w hw=>?_)
 exact⟨yD rfl,hw.sub .nil⟩
def y2J  : Option z2:=
 (y1n 0).bind fun zAU=>some zAU
theorem y4c(Z:Zp)(r:z2)(h:y2J=some r)(w₀:World)(hz:PZ [] w₀ Z):
  Calls Tryz.prog 107 #[] w₀ fun e w'=>e = .returned (.agg #[(.int .i64 r.fN),(.int .i64 r.fD)])∧Hp [] w₀ w' []:=by
 unfold y2J at h
 refine Calls.on0 Tryz.func107 Tryz.ntmps107 ?_
 refine WC.b (WC.a (WL.nA 0 (yv (cs:=[(.int .i64 0),(.int .i64 0)]) zT rfl) ?_))
 intro zWQ _
 refine WL.nil (WX.a (WC.b ?_))
 obtain⟨zAU,zL4,h⟩:=z8 h
 refine WC.a (WL.cA 1 (zb Tryz.call145 (.cons rfl .nil)) .nil (cc hz .nil fun w pz ho=>y2T _ _ _ zL4 w pz ) (WL.ym rfl rfl (yl zz rfl rfl rfl .here rfl rfl rfl) (WL.nil (WX.a (WC.ret ?_)))))
 obtain rfl:=oJ h
 refine WX.yf Tryz.results107 (.agg rfl zf rfl (yi .here) .nil) (fun w hw=>?_)
 exact⟨yD rfl,hw.sub .nil⟩
def y1g(z3g:List z7)(z3h:z7)(zaJ:Option Int):Nat→Int→Option Int
 | 0,_=>none
 | zsL+1,z30=>if decide (z30<((z3g.length:Nat):Int)) then chk ((0:Int)≤z30∧z30<((z3g.length:Nat):Int)) (if decide (z3h=(⟨(⟨(((nth z3g z30).fBurst).fN),(((nth z3g z30).fBurst).fD)⟩:z2),(⟨(((nth z3g z30).fRate).fN),(((nth z3g z30).fRate).fD)⟩:z2)⟩:z7)) then some z30 else y1g z3g z3h zaJ zsL (i64 (z30+1))) else zaJ
theorem y5N{n:Nat}{z3g:List z7}{z3h:z7}{zaJ:Option Int}{z30:Int}{r:Int}(h:y1g z3g z3h zaJ n z30=some r):∃ m,n=m+1:=by
 cases n with
 | zero=>cases h
 | succ m=>exact⟨m,rfl⟩
def y3m(z3g:List z7)(z3h:z7):Option Int:=
 jp0 (some (-1)) fun zaJ=>y1g z3g z3h zaJ yy 0
theorem y74(Z:Zp)(zsM:Option Addr)(zsN:Nat)(z3g:List z7)(z3h:z7)(r:Int)(h:y3m z3g z3h=some r)(w₀:World)(hz:PZ [] w₀ Z)(zL5:ZS Z 4 (fun r x=>r=y1A x) zsM zsN z3g):
  Calls Tryz.prog 186 #[(.slice zsM z3g.length zsN),(.agg #[(.int .i64 z3h.fBurst.fN),(.int .i64 z3h.fBurst.fD),(.int .i64 z3h.fRate.fN),(.int .i64 z3h.fRate.fD)])] w₀ fun e w'=>e = .returned (.int .i64 r)∧Hp [] w₀ w' []:=by
 unfold y3m at h
 refine Calls.yK Tryz.func186 Tryz.ntmps186 ?_
 refine WC.b (WC.a (WL.nA 3 (yI (cs:=[(.int .i64 z3h.fBurst.fN),(.int .i64 z3h.fBurst.fD),(.int .i64 z3h.fRate.fN),(.int .i64 z3h.fRate.fD)]) rfl rfl) ?_))
 intro zAV _
 refine WL.pu rfl (WL.nil (WX.a ?_))
 obtain⟨zaJ,zL6,h⟩:=y1N h
 refine WC.y1j ((zaJ=some r)) ([]) ([]) ?_ ?_
 ·skip
  refine WC.b (WC.a (WL.pu rfl (WL.qA 7 (yH Tryz.underlying173 rfl) (WL.pu rfl (WL.nil (WX.a (WC.block (WC.y2E (fun(zgS:Nat) (z30:Int)=>(y1g z3g z3h zaJ zgS z30=some r)) (fun zgS z30=>[(0,(.slice zsM z3g.length zsN)),(3,(.pointer (some ⟨zAV,0,none⟩))),(7,(.int .i64 ((z3g.length:Nat):Int))),(8,(.int .i64 z30))]) (fun zgS z30=>[stb zAV 171 [(.int .i64 z3h.fBurst.fN),(.int .i64 z3h.fBurst.fD),(.int .i64 z3h.fRate.fN),(.int .i64 z3h.fRate.fD)]]) (fun zgS z30=>zgS) ⟨yy,0⟩ h (.r4 rfl rfl rfl rfl) (.cons .here .nil) ?_))))))))
  rintro zgS z30 h
  obtain⟨zsL,rfl⟩:=y5N h
  rw[y1g] at h
  refine WC.b (WC.a (WL.pu rfl (WL.nil (WX.a (WC.b (WC.cond rfl (fun zsO=>?_) (fun zsO=>?_)))))))
  ·replace h:=yp h zsO
   refine WC.skip (WX.a (WC.b (WC.block (WC.b (WC.a (WL.pu rfl (WL.pu rfl (WL.nil (WX.a (WC.b ?_))))))))))
   obtain⟨zL7,h⟩:=yo h
   refine WC.yP (fun i=>[].contains i) [] rfl (WD.qA 0 11 rfl (yh z2K rfl (yi .here) rfl) (WD.pA 1 12 rfl (fun _=>q_m rfl) (WD.pA 2 13 rfl (fun _=>q_m rfl) (WD.znth (j:=3) (dd:=14) (by kernel_rfl) rfl z2V z2W rfl rfl (Z:=Z) (Pr:=(fun r x=>r=y1A x)) z6G rfl rfl zL5 zL7 ?_))))
   rintro zWR zWS zL8 zWT rfl
   refine WD.qA 4 15 rfl (yh z2K rfl (y2b hz.pv zL8) rfl) (WD.pA 5 16 rfl (fun _=>y7p (enc:=y1A) (a:=z3h) (b:=(⟨(⟨(((nth z3g z30).fBurst).fN),(((nth z3g z30).fBurst).fD)⟩:z2),(⟨(((nth z3g z30).fRate).fN),(((nth z3g z30).fRate).fD)⟩:z2)⟩:z7)) zxn rfl rfl) (WD.done (by kernel_rfl) (WX.a (WC.cond rfl (fun zsP=>?_) (fun zsP=>?_)))))
   ·replace h:=yp h zsP
    refine WC.b (WC.a (WL.pu rfl (WL.pu rfl (WL.nil (WX.a (WC.ret (WX.ys (WX.ye (WX.ye (WX.ys (WX.ye ?_)))))))))))
    obtain rfl:=oJ h
    refine WX.yf Tryz.results186 (.tmp rfl .nil) (fun w hw=>?_)
    exact⟨yD rfl,hw.sub .nil⟩
   ·replace h:=yq h zsP
    refine WC.skip (WX.yn (WX.a (WC.a (WL.pu rfl (WL.pu rfl (WL.nil ?_))))))
    exact WX.round ⟨zsL,(i64 (z30+1))⟩ h (Nat.lt_succ_self _) (.r4 rfl rfl rfl rfl) (.cons .here .nil)
  ·replace h:=yq h zsO
   refine WC.exit (WX.yg (WX.yg (WX.yz ?_)))
   exact WX.mid () h .nil .nil
 ·rintro  h
  replace h:=zL6.symm.trans h
  refine WC.b (WC.a (WL.pu rfl (WL.nil (WX.a (WC.ret ?_)))))
  obtain rfl:=oJ h
  refine WX.yf Tryz.results186 (.tmp rfl .nil) (fun w hw=>?_)
  exact⟨yD rfl,hw.sub .nil⟩
def y2f(zk9:List z7)(z8o:z7):Option Bool:=
 (y3m zk9 z8o).bind fun zAW=>some (decide (zAW≥0))
theorem y6v(Z:Zp)(zAX:Option Addr)(zAY:Nat)(zk9:List z7)(z8o:z7)(r:Bool)(h:y2f zk9 z8o=some r)(w₀:World)(hz:PZ [] w₀ Z)(zL9:ZS Z 4 (fun r x=>r=y1A x) zAX zAY zk9):
  Calls Tryz.prog 179 #[(.slice zAX zk9.length zAY),(.agg #[(.int .i64 z8o.fBurst.fN),(.int .i64 z8o.fBurst.fD),(.int .i64 z8o.fRate.fN),(.int .i64 z8o.fRate.fD)])] w₀ fun e w'=>e = .returned (.bool r)∧Hp [] w₀ w' []:=by
 unfold y2f at h
 refine Calls.yK Tryz.func179 Tryz.ntmps179 ?_
 refine WC.b (WC.a (WL.nA 3 (yI (cs:=[(.int .i64 z8o.fBurst.fN),(.int .i64 z8o.fBurst.fD),(.int .i64 z8o.fRate.fN),(.int .i64 z8o.fRate.fD)]) rfl rfl) ?_))
 intro zWU _
 refine WL.pu rfl (WL.nil (WX.a (WC.b ?_)))
 obtain⟨zAW,zLa,h⟩:=z8 h
 refine WC.a (WL.pu rfl (WL.qA 6 (yh z2K rfl (yi .here) rfl) (WL.cA 7 (zb Tryz.call186 (.r2 rfl rfl)) .nil (cc hz .nil fun w pz ho=>y74 _ _ _ _ _ _ zLa w pz zL9) (WL.pu rfl (WL.pu rfl (WL.nil (WX.a (WC.ret ?_))))))))
 obtain rfl:=oJ h
 refine WX.yf Tryz.results179 (.tmp rfl .nil) (fun w hw=>?_)
 exact⟨yD rfl,hw.sub .nil⟩
def y1i(z8p:z2)(z8q:z2):Option Int:=
 (y1L z8p).bind fun zAZ=>(if !zAZ then some true else(y1L z8q).bind fun zB0=>some (!zB0)).bind fun zsQ=>if zsQ then some 0 else if decide ((i64 (z8p.fN*z8q.fD))<(i64 (z8q.fN*z8p.fD))) then some (-1) else if decide ((i64 (z8p.fN*z8q.fD))>(i64 (z8q.fN*z8p.fD))) then some 1 else some 0
theorem y4n(Z:Zp)(z8p:z2)(z8q:z2)(r:Int)(h:y1i z8p z8q=some r)(w₀:World)(hz:PZ [] w₀ Z):
  Calls Tryz.prog 79 #[(.agg #[(.int .i64 z8p.fN),(.int .i64 z8p.fD)]),(.agg #[(.int .i64 z8q.fN),(.int .i64 z8q.fD)])] w₀ fun e w'=>e = .returned (.int .i64 r)∧Hp [] w₀ w' []:=by
 unfold y1i at h
 refine Calls.yK Tryz.func79 Tryz.ntmps79 ?_
 refine WC.b (WC.a (WL.nA 2 (yI (cs:=[(.int .i64 z8p.fN),(.int .i64 z8p.fD)]) rfl rfl) ?_))
 intro zWV _
 refine WL.nA 3 (yI (cs:=[(.int .i64 z8q.fN),(.int .i64 z8q.fD)]) rfl rfl) ?_
 intro zWW _
 refine WL.pu rfl (WL.nil (WX.a (WC.b (WC.b ?_))))
 obtain⟨zAZ,zLb,h⟩:=z8 h
 obtain⟨zsQ,zB1,h⟩:=z8 h
 refine WC.a (WL.qA 7 (yh zf rfl (yi .h1) rfl) (WL.cA 8 (zb Tryz.call80 (.cons rfl .nil)) .nil (cc hz .nil fun w pz ho=>y2s _ _ _ zLb w pz ) (WL.pu rfl (WL.pu rfl (WL.seg false 3 10 (B:=zsQ) rfl rfl rfl rfl rfl rfl (fun h=>(oJ (yp zB1 h)).symm) (fun _ zLc=>?_) ?_)))))
 ·skip
  have zka:=yq zB1 zLc
  obtain⟨zB0,zLd,zka⟩:=z8 zka
  replace zka:=oJ zka
  refine WL.qA 11 (yh zf rfl (yi .here) rfl) (WL.cA 12 (zb Tryz.call80 (.cons rfl .nil)) .nil (cc hz .nil fun w pz ho=>y2s _ _ _ zLd w pz ) (WL.pu rfl (WL.pu rfl ?_)))
  exact WL.yB zka rfl rfl .all
 refine WL.nil (WX.a (WC.cond rfl (fun zsR=>?_) (fun zsR=>?_)))
 ·replace h:=yp h zsR
  refine WC.b (WC.a (WL.pu rfl (WL.nil (WX.a (WC.ret (WX.ye ?_))))))
  obtain rfl:=oJ h
  refine WX.yf Tryz.results79 (.tmp rfl .nil) (fun w hw=>?_)
  exact⟨yD rfl,hw.sub .nil⟩
 ·replace h:=yq h zsR
  refine WC.skip (WX.a (WC.b (WC.b (WC.yP (fun i=>[].contains i) [] rfl (WD.pA 0 15 rfl (fun _=>ya y2k rfl rfl) (WD.qA 1 16 rfl (yc yt rfl (yk .h1 rfl)) (WD.pA 2 17 rfl (fun _=>ya y2F rfl rfl) (WD.qA 3 18 rfl (yc yt rfl (yk .here rfl)) (WD.pA 4 19 rfl (fun _=>y6T rfl rfl rfl) (WD.pA 5 20 rfl (fun _=>ya y2k rfl rfl) (WD.qA 6 21 rfl (yc yt rfl (yk .here rfl)) (WD.pA 7 22 rfl (fun _=>ya y2F rfl rfl) (WD.qA 8 23 rfl (yc yt rfl (yk .h1 rfl)) (WD.pA 9 24 rfl (fun _=>y6T rfl rfl rfl) (WD.pA 10 5 rfl (fun _=>q_z rfl) (WD.pA 11 6 rfl (fun _=>q_z rfl) (WD.done (by kernel_rfl) (WX.a (WC.block (WC.b (WC.a (WL.pu rfl (WL.pu rfl (WL.pu rfl (WL.pu rfl (WL.nil (WX.a (WC.cond rfl (fun zsS=>?_) (fun zsS=>?_)))))))))))))))))))))))))))))
  ·replace h:=yp h zsS
   refine WC.b (WC.a (WL.pu rfl (WL.nil (WX.a (WC.ret (WX.ys (WX.ye ?_)))))))
   obtain rfl:=oJ h
   refine WX.yf Tryz.results79 (.tmp rfl .nil) (fun w hw=>?_)
   exact⟨yD rfl,hw.sub .nil⟩
  ·replace h:=yq h zsS
   refine WC.b (WC.a (WL.pu rfl (WL.pu rfl (WL.pu rfl (WL.pu rfl (WL.nil (WX.a (WC.cond rfl (fun zsT=>?_) (fun zsT=>?_)))))))))
   ·replace h:=yp h zsT
    refine WC.b (WC.a (WL.pu rfl (WL.nil (WX.a (WC.ret (WX.ys (WX.ye ?_)))))))
    obtain rfl:=oJ h
    refine WX.yf Tryz.results79 (.tmp rfl .nil) (fun w hw=>?_)
    exact⟨yD rfl,hw.sub .nil⟩
   ·replace h:=yq h zsT
    refine WC.skip (WX.yn (WX.a (WC.b (WC.a (WL.pu rfl (WL.nil (WX.a (WC.ret ?_))))))))
    obtain rfl:=oJ h
    refine WX.yf Tryz.results79 (.tmp rfl .nil) (fun w hw=>?_)
    exact⟨yD rfl,hw.sub .nil⟩
def y4W(z4x:z7)(z4y:z7):Option Bool:=
 (if decide (z4x≠z4y) then(y1i z4x.fBurst z4y.fBurst).bind fun zB2=>some (decide (zB2≤0)) else some false).bind fun zsU=>(if zsU then(y1i z4x.fRate z4y.fRate).bind fun zB3=>some (decide (zB3≤0)) else some false).bind fun zsV=>some zsV
theorem ycw(Z:Zp)(z4x:z7)(z4y:z7)(r:Bool)(h:y4W z4x z4y=some r)(w₀:World)(hz:PZ [] w₀ Z):
  Calls Tryz.prog 181 #[(.agg #[(.int .i64 z4x.fBurst.fN),(.int .i64 z4x.fBurst.fD),(.int .i64 z4x.fRate.fN),(.int .i64 z4x.fRate.fD)]),(.agg #[(.int .i64 z4y.fBurst.fN),(.int .i64 z4y.fBurst.fD),(.int .i64 z4y.fRate.fN),(.int .i64 z4y.fRate.fD)])] w₀ fun e w'=>e = .returned (.bool r)∧Hp [] w₀ w' []:=by
 unfold y4W at h
 refine Calls.yK Tryz.func181 Tryz.ntmps181 ?_
 refine WC.b (WC.a (WL.nA 2 (yI (cs:=[(.int .i64 z4x.fBurst.fN),(.int .i64 z4x.fBurst.fD),(.int .i64 z4x.fRate.fN),(.int .i64 z4x.fRate.fD)]) rfl rfl) ?_))
 intro zWX _
 refine WL.nA 3 (yI (cs:=[(.int .i64 z4y.fBurst.fN),(.int .i64 z4y.fBurst.fD),(.int .i64 z4y.fRate.fN),(.int .i64 z4y.fRate.fD)]) rfl rfl) ?_
 intro zWY _
 refine WL.pu rfl (WL.nil (WX.a (WC.b ?_)))
 obtain⟨zsU,zB4,h⟩:=z8 h
 obtain⟨zsV,zB5,h⟩:=z8 h
 refine WC.a (WL.qA 5 (yh z2K rfl (yi .h1) rfl) (WL.qA 6 (yh z2K rfl (yi .here) rfl) (WL.qA 7 (yaP (enc:=y1A) (a:=z4x) (b:=z4y) zxn rfl rfl) (WL.pu rfl (WL.seg true 6 8 (B:=zsU) rfl rfl rfl rfl rfl rfl (fun h=>(oJ (yq zB4 h)).symm) (fun _ zLe=>?_) ?_)))))
 ·skip
  have zkb:=yp zB4 zLe
  obtain⟨zB2,zLf,zkb⟩:=z8 zkb
  replace zkb:=oJ zkb
  refine WL.qA 9 (ya y4O rfl rfl) (WL.qA 10 (yT (cs:=[(.int .i64 z4x.fBurst.fN),(.int .i64 z4x.fBurst.fD)]) zf rfl rfl (y31 (s:=2) .h1 rfl)) (WL.qA 11 (ya y4O rfl rfl) (WL.qA 12 (yT (cs:=[(.int .i64 z4y.fBurst.fN),(.int .i64 z4y.fBurst.fD)]) zf rfl rfl (y31 (s:=2) .here rfl)) (WL.cA 13 (zb Tryz.call79 (.r2 rfl rfl)) .nil (cc hz .nil fun w pz ho=>y4n _ _ _ _ zLf w pz ) (WL.pu rfl (WL.pu rfl ?_))))))
  exact WL.yB zkb rfl rfl .all
 refine WL.pu rfl (WL.seg true 6 16 (B:=zsV) rfl rfl rfl rfl rfl rfl (fun h=>(oJ (yq zB5 h)).symm) (fun _ zLg=>?_) ?_)
 ·skip
  have zkc:=yp zB5 zLg
  obtain⟨zB3,zLh,zkc⟩:=z8 zkc
  replace zkc:=oJ zkc
  refine WL.qA 17 (ya y5K rfl rfl) (WL.qA 18 (yT (cs:=[(.int .i64 z4x.fRate.fN),(.int .i64 z4x.fRate.fD)]) zf rfl rfl (y31 (s:=2) .h1 rfl)) (WL.qA 19 (ya y5K rfl rfl) (WL.qA 20 (yT (cs:=[(.int .i64 z4y.fRate.fN),(.int .i64 z4y.fRate.fD)]) zf rfl rfl (y31 (s:=2) .here rfl)) (WL.cA 21 (zb Tryz.call79 (.r2 rfl rfl)) .nil (cc hz .nil fun w pz ho=>y4n _ _ _ _ zLh w pz ) (WL.pu rfl (WL.pu rfl ?_))))))
  exact WL.yB zkc rfl rfl .all
 refine WL.pu rfl (WL.nil (WX.a (WC.ret ?_)))
 obtain rfl:=oJ h
 refine WX.yf Tryz.results181 (.tmp rfl .nil) (fun w hw=>?_)
 exact⟨yD rfl,hw.sub .nil⟩
def y58(z8r:z7)(zeI:z7):Option Bool:=
 (y4W z8r zeI).bind fun zB6=>some zB6
theorem ydX(Z:Zp)(zB7:Addr)(z8r:z7)(zeI:z7)(r:Bool)(h:y58 z8r zeI=some r)(w₀:World)(hz:PZ [] w₀ Z)(zLi:ZC Z zB7 [(.int .i64 zeI.fBurst.fN),(.int .i64 zeI.fBurst.fD),(.int .i64 zeI.fRate.fN),(.int .i64 zeI.fRate.fD)]):
  Calls Tryz.prog 180 #[(.agg #[(.int .i64 z8r.fBurst.fN),(.int .i64 z8r.fBurst.fD),(.int .i64 z8r.fRate.fN),(.int .i64 z8r.fRate.fD)]),(.pointer (some zB7))] w₀ fun e w'=>e = .returned (.bool r)∧Hp [] w₀ w' []:=by
 unfold y58 at h
 refine Calls.yK Tryz.func180 Tryz.ntmps180 ?_
 refine WC.b (WC.a (WL.nA 2 (yI (cs:=[(.int .i64 z8r.fBurst.fN),(.int .i64 z8r.fBurst.fD),(.int .i64 z8r.fRate.fN),(.int .i64 z8r.fRate.fD)]) rfl rfl) ?_))
 intro zWZ _
 refine WL.pu rfl (WL.nil (WX.a (WC.b ?_)))
 obtain⟨zB6,zLj,h⟩:=z8 h
 refine WC.a (WL.qA 4 (yh z2K rfl (yi .here) rfl) (WL.qA 5 (yh z2K rfl (y2b hz.pv zLi) rfl) (WL.cA 6 (zb Tryz.call181 (.r2 rfl rfl)) .nil (cc hz .nil fun w pz ho=>ycw _ _ _ _ zLj w pz ) (WL.pu rfl (WL.nil (WX.a (WC.ret ?_)))))))
 obtain rfl:=oJ h
 refine WX.yf Tryz.results180 (.tmp rfl .nil) (fun w hw=>?_)
 exact⟨yD rfl,hw.sub .nil⟩
def y5Y(z6Q:z7)(z6R:z7):Option Int:=
 (y1i z6Q.fBurst z6R.fBurst).bind fun zB8=>some zB8
theorem ydY(Z:Zp)(z6Q:z7)(z6R:z7)(r:Int)(h:y5Y z6Q z6R=some r)(w₀:World)(hz:PZ [] w₀ Z):
  Calls Tryz.prog 183 #[(.agg #[(.int .i64 z6Q.fBurst.fN),(.int .i64 z6Q.fBurst.fD),(.int .i64 z6Q.fRate.fN),(.int .i64 z6Q.fRate.fD)]),(.agg #[(.int .i64 z6R.fBurst.fN),(.int .i64 z6R.fBurst.fD),(.int .i64 z6R.fRate.fN),(.int .i64 z6R.fRate.fD)])] w₀ fun e w'=>e = .returned (.int .i64 r)∧Hp [] w₀ w' []:=by
 unfold y5Y at h
 refine Calls.yK Tryz.func183 Tryz.ntmps183 ?_
 refine WC.b (WC.a (WL.nA 2 (yI (cs:=[(.int .i64 z6Q.fBurst.fN),(.int .i64 z6Q.fBurst.fD),(.int .i64 z6Q.fRate.fN),(.int .i64 z6Q.fRate.fD)]) rfl rfl) ?_))
 intro zX0 _
 refine WL.nA 3 (yI (cs:=[(.int .i64 z6R.fBurst.fN),(.int .i64 z6R.fBurst.fD),(.int .i64 z6R.fRate.fN),(.int .i64 z6R.fRate.fD)]) rfl rfl) ?_
 intro zX1 _
 refine WL.pu rfl (WL.nil (WX.a (WC.b ?_)))
 obtain⟨zB8,zLk,h⟩:=z8 h
 refine WC.a (WL.qA 5 (ya y4O rfl rfl) (WL.qA 6 (yT (cs:=[(.int .i64 z6Q.fBurst.fN),(.int .i64 z6Q.fBurst.fD)]) zf rfl rfl (y31 (s:=2) .h1 rfl)) (WL.qA 7 (ya y4O rfl rfl) (WL.qA 8 (yT (cs:=[(.int .i64 z6R.fBurst.fN),(.int .i64 z6R.fBurst.fD)]) zf rfl rfl (y31 (s:=2) .here rfl)) (WL.cA 9 (zb Tryz.call79 (.r2 rfl rfl)) .nil (cc hz .nil fun w pz ho=>y4n _ _ _ _ zLk w pz ) (WL.pu rfl (WL.nil (WX.a (WC.ret ?_)))))))))
 obtain rfl:=oJ h
 refine WX.yf Tryz.results183 (.tmp rfl .nil) (fun w hw=>?_)
 exact⟨yD rfl,hw.sub .nil⟩
theorem zLl:∀ w,(isAgg (Tryz.y3c.t 24)).run Tryz.prog w = .ok true w:=fun _=>by kernel_rfl
theorem zLm:∀ w,(Go.sizeOf (Tryz.y3c.t 24)).run Tryz.prog w = .ok 4 w:=fun _=>by kernel_rfl
def y3w(z5e:List z7)(zkd:Int)(zke:Int)(zgT:Int)(zeJ:z7→z7→Option Int):Option (List z7):=chk ((zkd=0∧zke=((z5e.length:Nat):Int))∧(0≤zgT∧zgT<4611686018427387904∧z5e.length<4611686018427387904)) (chk (y7r zeJ (yM zeJ z5e)=true) (some (yM zeJ z5e)))
theorem y7d(Z:Zp)(zeK:Option Addr)(zeL:Nat)(zkf:FuncId)(zsW:List Value)(z5e:List z7)(zkd:Int)(zke:Int)(zgT:Int)(zeJ:z7→z7→Option Int)(r:List z7)(w₀:World)(hz:PZ (fps [row (.slice zeK z5e.length zeL) 171 4 (z5e.flatMap y1A)]) w₀ Z)(zLn:∀ args w,(callFunc zkf args).run Tryz.prog w = .ok (.enter zkf args) w)(zLo:∀ w:World,PZ [] w Z→∀(x0:z7) (x1:z7) (r:Int),zeJ x0 x1=some r→Calls Tryz.prog zkf (([(.agg #[(.int .i64 x0.fBurst.fN),(.int .i64 x0.fBurst.fD),(.int .i64 x0.fRate.fN),(.int .i64 x0.fRate.fD)]),(.agg #[(.int .i64 x1.fBurst.fN),(.int .i64 x1.fBurst.fD),(.int .i64 x1.fRate.fN),(.int .i64 x1.fRate.fD)])]:List Value)++zsW).toArray w fun e w'=>e = .returned (.int .i64 r)∧Hp [] w w' [])(h:y3w z5e zkd zke zgT zeJ=some r)(hown:Hp (fps [row (.slice zeK z5e.length zeL) 171 4 (z5e.flatMap y1A)]) w₀ w₀ [row (.slice zeK z5e.length zeL) 171 4 (z5e.flatMap y1A)]):
  Calls Tryz.prog 187 #[(.slice zeK z5e.length zeL),(.int .i64 zkd),(.int .i64 zke),(.int .i64 zgT),(.func (.func zkf) #[] (zsW).toArray)] w₀ fun e w'=>e = .returned (.tuple #[])∧(r.length=z5e.length)∧Hp (fps [row (.slice zeK z5e.length zeL) 171 4 (z5e.flatMap y1A)]) w₀ w' [row (.slice zeK r.length zeL) 171 4 (r.flatMap y1A)]:=by
 obtain⟨h0,h⟩:=yo h
 obtain⟨h1,h⟩:=yo h
 have hr:=(oJ h).symm
 exact y8w (P:=Tryz.prog) (f:=187) (e:=171) (k:=4) (enc:=y1A) (fun _=>rfl) (by decide) ygd (fun β _ enc cf g cb hO blk off cap d0 w0 eg hC R=>Tryz.y8d 4 zLl zLm enc cf g cb hO blk off cap d0 w0 eg hC R) (Tryz.y85 (α:=Unit)) hz zLn zLo h0 h1 hr hown
def y1h(z4z:List z7)(zgU:z7→z7→Option Int):Option (List z7):=
 (y4b (u64 ((z4z.length:Nat):Int))).bind fun zmX=>(y3w z4z 0 ((z4z.length:Nat):Int) zmX zgU).bind fun zmY=>some zmY
theorem y6w(Z:Zp)(zcF:Option Addr)(zcG:Nat)(zgV:FuncId)(zmZ:List Value)(z4z:List z7)(zgU:z7→z7→Option Int)(r:List z7)(h:y1h z4z zgU=some r)(w₀:World)(hz:PZ (fps [row (.slice zcF z4z.length zcG) 171 4 (z4z.flatMap y1A)]) w₀ Z)(zLp:∀ args w,(callFunc zgV args).run Tryz.prog w = .ok (.enter zgV args) w)(zLq:∀ w:World,PZ [] w Z→∀(x0:z7) (x1:z7) (r:Int),zgU x0 x1=some r→Calls Tryz.prog zgV (([(.agg #[(.int .i64 x0.fBurst.fN),(.int .i64 x0.fBurst.fD),(.int .i64 x0.fRate.fN),(.int .i64 x0.fRate.fD)]),(.agg #[(.int .i64 x1.fBurst.fN),(.int .i64 x1.fBurst.fD),(.int .i64 x1.fRate.fN),(.int .i64 x1.fRate.fD)])]:List Value)++zmZ).toArray w fun e w'=>e = .returned (.int .i64 r)∧Hp [] w w' [])(hown:Hp (fps [row (.slice zcF z4z.length zcG) 171 4 (z4z.flatMap y1A)]) w₀ w₀ [row (.slice zcF z4z.length zcG) 171 4 (z4z.flatMap y1A)]):
  Calls Tryz.prog 182 #[(.slice zcF z4z.length zcG),(.func (.func zgV) #[] (zmZ).toArray)] w₀ fun e w'=>e = .returned (.tuple #[])∧(r.length=z4z.length)∧Hp (fps [row (.slice zcF z4z.length zcG) 171 4 (z4z.flatMap y1A)]) w₀ w' [row (.slice zcF r.length zcG) 171 4 (r.flatMap y1A)]:=by
 unfold y1h at h
 refine Calls.oh2 Tryz.func182 Tryz.ntmps182 hown ?_
 refine WC.b (WC.a (WL.pu rfl (WL.qA 6 (yH Tryz.underlying173 rfl) (WL.pu rfl (WL.nil (WX.a ?_))))))
 obtain⟨zmX,zLr,h⟩:=z8 h
 obtain⟨zmY,zLs,h⟩:=z8 h
 refine WC.a (WL.pu rfl (WL.pu rfl (WL.pu rfl (WL.qA 10 (y6G Tryz.underlying3 Tryz.underlying142 rfl rfl) (WL.cA 11 (zb Tryz.call48 (.cons rfl .nil)) .nil (cc hz .nil fun w pz ho=>y7V (Z:=_)  (z7m:=(u64 ((z4z.length:Nat):Int))) (r:=zmX) w pz  zLr) (WL.pu rfl (WL.y53 (dd:=13) rfl rfl rfl (zb Tryz.call187 (.r5 rfl rfl rfl rfl rfl)) (.cons .here .nil) (cc hz (.cons .here .nil) fun w pz ho=>y7d (Z:=_) (zeK:=zcF) (zeL:=zcG) (zkf:=zgV) (zsW:=zmZ) (z5e:=z4z) (zkd:=0) (zke:=((z4z.length:Nat):Int)) (zgT:=zmX) (zeJ:=zgU) (r:=zmY) w pz zLp zLq zLs ho) ?_)))))))
 rintro  zB9
 refine WL.repin (i:=0) rfl (u:=(.slice zcF zmY.length zcG)) (y7b zB9.symm) (WL.nil ?_)
 obtain rfl:=oJ h
 refine WX.y52 Tryz.results182 .nil (fun w hw=>?_)
 exact⟨y7o,(zB9.trans rfl),hw.sub (.cons .here .nil)⟩
def y4d(zS:List z7)(zaK:(List z7)→Option (List z7)):Nat→(List z7)→Int→Option (List z7)
 | 0,_,_=>none
 | zsX+1,z3w,zY=>if decide (zY<((zS.length:Nat):Int)) then jp1 (fun(z8s:List z7)=>y4d zS zaK zsX z8s (i64 (zY+1))) fun zn0=>chk ((0:Int)≤zY∧zY<((zS.length:Nat):Int)) ((y2f z3w (⟨(⟨(((nth zS zY).fBurst).fN),(((nth zS zY).fBurst).fD)⟩:z2),(⟨(((nth zS zY).fRate).fN),(((nth zS zY).fRate).fD)⟩:z2)⟩:z7)).bind fun zBa=>(if !zBa then(y1r zS (fun(y0:z7)=>y58 y0 (⟨(⟨(((nth zS zY).fBurst).fN),(((nth zS zY).fBurst).fD)⟩:z2),(⟨(((nth zS zY).fRate).fN),(((nth zS zY).fRate).fD)⟩:z2)⟩:z7))).bind fun zBb=>some (!zBb) else some false).bind fun zsY=>if zsY then chk ((((z3w++([(⟨(⟨(((nth zS zY).fBurst).fN),(((nth zS zY).fBurst).fD)⟩:z2),(⟨(((nth zS zY).fRate).fN),(((nth zS zY).fRate).fD)⟩:z2)⟩:z7)]:List z7)).length:Nat):Int)*32≤140737488355328∧(((z3w++([(⟨(⟨(((nth zS zY).fBurst).fN),(((nth zS zY).fBurst).fD)⟩:z2),(⟨(((nth zS zY).fRate).fN),(((nth zS zY).fRate).fD)⟩:z2)⟩:z7)]:List z7)).length:Nat):Int)≤4611686018427387904) (zn0 (z3w++([(⟨(⟨(((nth zS zY).fBurst).fN),(((nth zS zY).fBurst).fD)⟩:z2),(⟨(((nth zS zY).fRate).fN),(((nth zS zY).fRate).fD)⟩:z2)⟩:z7)]:List z7))) else zn0 z3w) else zaK z3w
theorem yaW{n:Nat}{zS:List z7}{zaK:(List z7)→Option (List z7)}{z3w:List z7}{zY:Int}{r:List z7}(h:y4d zS zaK n z3w zY=some r):∃ m,n=m+1:=by
 cases n with
 | zero=>cases h
 | succ m=>exact⟨m,rfl⟩
def y6O(zS:List z7):Option (List z7):=
 jp1 (fun(z8U:List z7)=>(y1h z8U (fun(y0:z7) (y1:z7)=>y5Y y0 y1)).bind fun zsZ=>some zsZ) fun zaK=>y4d zS zaK yy ([]:List z7) 0
theorem yfj(Z:Zp)(zgW:Option Addr)(zgX:Nat)(zS:List z7)(r:List z7)(h:y6O zS=some r)(w₀:World)(hz:PZ [] w₀ Z)(zBc:ZS Z 4 (fun r x=>r=y1A x) zgW zgX zS):
  Calls Tryz.prog 169 #[(.slice zgW zS.length zgX)] w₀ fun e w'=>∃ zBd:Option Addr,∃ zBe:Nat,e = .returned (.slice zBd r.length zBe)∧True∧Hp [] w₀ w' [row (.slice zBd r.length zBe) 171 4 (r.flatMap y1A)]:=by
 unfold y6O at h
 refine Calls.on1 Tryz.func169 Tryz.ntmps169 ?_
 refine WC.b (WC.a (WL.pu rfl (WL.nil (WX.a (WC.b (WC.a (WL.pu rfl (WL.nil (WX.a ?_)))))))))
 obtain⟨zaK,zLt,h⟩:=y15 h
 refine WC.y2R (fun(z8U:List z7) (zeM:Option Addr) (zeN:Nat)=>(zaK z8U=some r)) (fun z8U zeM zeN=>[(3,(.slice zeM z8U.length zeN))]) (fun z8U zeM zeN=>[row (.slice zeM z8U.length zeN) 171 4 (z8U.flatMap y1A)]) ?_ ?_
 ·skip
  refine WC.b (WC.a (WL.pu rfl (WL.qA 7 (yH Tryz.underlying173 rfl) (WL.pu rfl (WL.nil (WX.a (WC.block (WC.nilRow 171 4 (WC.y6I (fun(zgY:Nat) (z3w:List z7) (zY:Int) (zcH:Option Addr) (zcI:Nat)=>(y4d zS zaK zgY z3w zY=some r)) (fun zgY z3w zY zcH zcI=>[(0,(.slice zgW zS.length zgX)),(3,(.slice zcH z3w.length zcI)),(6,(.slice zgW zS.length zgX)),(7,(.int .i64 ((zS.length:Nat):Int))),(8,(.int .i64 zY))]) (fun zgY z3w zY zcH zcI=>[row (.slice zcH z3w.length zcI) 171 4 (z3w.flatMap y1A)]) (fun zgY z3w zY zcH zcI=>zgY) ⟨yy,([]:List z7),0,none,0⟩ h (.r5 rfl rfl rfl rfl rfl) (.cons .here .nil) ?_)))))))))
  rintro zgY z3w zY zcH zcI h
  obtain⟨zsX,rfl⟩:=yaW h
  rw[y4d] at h
  refine WC.b (WC.a (WL.pu rfl (WL.nil (WX.a (WC.b (WC.cond rfl (fun zt0=>?_) (fun zt0=>?_)))))))
  ·replace h:=yp h zt0
   refine WC.skip (WX.a ?_)
   obtain⟨zn0,zLu,h⟩:=y15 h
   refine WC.y2R (fun(z8s:List z7) (zgZ:Option Addr) (zh0:Nat)=>(zn0 z8s=some r)) (fun z8s zgZ zh0=>[(0,(.slice zgW zS.length zgX)),(3,(.slice zgZ z8s.length zh0)),(6,(.slice zgW zS.length zgX)),(7,(.int .i64 ((zS.length:Nat):Int))),(8,(.int .i64 zY))]) (fun z8s zgZ zh0=>[row (.slice zgZ z8s.length zh0) 171 4 (z8s.flatMap y1A)]) ?_ ?_
   ·skip
    refine WC.block (WC.b ?_)
    obtain⟨zLv,h⟩:=yo h
    refine WC.a (WL.znth (dd:=10) rfl rfl (Z:=Z) (Pr:=(fun r x=>r=y1A x)) z6G rfl rfl zBc zLv ?_)
    rintro zX2 zX3 zLw zX4 rfl
    refine WL.qA 11 (yh z2K rfl (y2b hz.pv zLw) rfl) (WL.nA 5 (yv (cs:=[(.int .i64 0),(.int .i64 0),(.int .i64 0),(.int .i64 0)]) z9R rfl) ?_)
    intro zLx _
    refine WL.ym rfl rfl (yl z8G rfl rfl rfl .here rfl rfl rfl) (WL.nil (WX.a (WC.b ?_)))
    obtain⟨zBa,zLy,h⟩:=z8 h
    obtain⟨zsY,zBf,h⟩:=z8 h
    refine WC.a (WL.pu rfl (WL.qA 13 (yh z2K rfl (yi .here) rfl) (WL.cA 14 (zb Tryz.call179 (.r2 rfl rfl)) .nil (ccl hz .nil (.cons .h1 .nil) fun w pz ho la=>y6v _ _ _ _ _ _ zLy w pz (ZA.row (la _ (.head _) _) (RR.flat (enc:=y1A) (fun _=>rfl) _) ⟨w,pz.1⟩)) (WL.pu rfl (WL.pu rfl (WL.seg true 4 16 (B:=zsY) rfl rfl rfl rfl rfl rfl (fun h=>(oJ (yq zBf h)).symm) (fun _ zLz=>?_) ?_))))))
    ·skip
     have zkg:=yp zBf zLz
     obtain⟨zBb,zLA,zkg⟩:=z8 zkg
     replace zkg:=oJ zkg
     refine WL.pu rfl (WL.qA 18 (y19 (Eos.caps (l:=[.tmp 5]) (.cons rfl .nil))) (WL.cA 19 (zb Tryz.call165 (.r2 rfl rfl)) .nil (ccl hz .nil (.cons .here .nil) fun w pz ho la=>y3V _ _ _ (zeE:=180) (zk1:=[(.pointer (some ⟨zLx,0,none⟩))]) _ (zeD:=(fun(y0:z7)=>y58 y0 (⟨(⟨(((nth zS zY).fBurst).fN),(((nth zS zY).fBurst).fD)⟩:z2),(⟨(((nth zS zY).fRate).fN),(((nth zS zY).fRate).fD)⟩:z2)⟩:z7))) _ zLA w pz (zBc.mono (Zle.left _ _)) Tryz.call180 (fun w' hz' y0  r  hr=>ydX _ _ _ _ _ hr w' hz' ((la _ (.head _) _).stb))) (WL.pu rfl (WL.pu rfl ?_))))
     exact WL.yB zkg rfl rfl .all
    refine WL.nil (WX.a (WC.cond rfl (fun zt1=>?_) (fun zt1=>?_)))
    ·replace h:=yp h zt1
     obtain⟨zLB,h⟩:=yo h
     refine WC.a (WL.pu rfl (WL.qA 23 (yh z2K rfl (yi .here) rfl) (WL.nA 24 (yR (cs:=([(⟨(⟨(((nth zS zY).fBurst).fN),(((nth zS zY).fBurst).fD)⟩:z2),(⟨(((nth zS zY).fRate).fN),(((nth zS zY).fRate).fD)⟩:z2)⟩:z7)]:List z7).flatMap y1A) z6G (Eos.parts (l:=[.tmp 23]) (.cons rfl .nil) [0]) (fun _=>by kernel_rfl) rfl (by unfold maxLen;omega)) ?_)))
     intro zX5 _
     refine WL.fA 25 (y54 (enc:=y1A) (l1:=z3w) (l2:=([(⟨(⟨(((nth zS zY).fBurst).fN),(((nth zS zY).fBurst).fD)⟩:z2),(⟨(((nth zS zY).fRate).fN),(((nth zS zY).fRate).fD)⟩:z2)⟩:z7)]:List z7)) z6G rfl rfl .h2 (fun _=>rfl) rfl rfl (y4r .here) (y5o ygd _) zLB) ?_
     rintro⟨zLC,zLD⟩ _
     refine WL.pu rfl (WL.nil (WX.yn ?_))
     exact WX.mid ⟨(z3w++([(⟨(⟨(((nth zS zY).fBurst).fN),(((nth zS zY).fBurst).fD)⟩:z2),(⟨(((nth zS zY).fRate).fN),(((nth zS zY).fRate).fD)⟩:z2)⟩:z7)]:List z7)),zLC,zLD⟩ h (.r5 rfl rfl rfl rfl rfl) (.cons .here .nil)
    ·replace h:=yq h zt1
     refine WC.skip (WX.yn ?_)
     exact WX.mid ⟨z3w,zcH,zcI⟩ h (.r5 rfl rfl rfl rfl rfl) (.cons .h1 .nil)
   ·rintro z8s zgZ zh0 h
    replace h:=(zLu z8s).symm.trans h
    refine WC.a (WL.pu rfl (WL.pu rfl (WL.nil ?_)))
    exact WX.round ⟨zsX,z8s,(i64 (zY+1)),zgZ,zh0⟩ h (Nat.lt_succ_self _) (.r5 rfl rfl rfl rfl rfl) (.cons .here .nil)
  ·replace h:=yq h zt0
   refine WC.exit (WX.yg (WX.yg (WX.yz ?_)))
   exact WX.mid ⟨z3w,zcH,zcI⟩ h (.cons rfl .nil) (.cons .here .nil)
 ·rintro z8U zeM zeN h
  replace h:=(zLt z8U).symm.trans h
  refine WC.b ?_
  obtain⟨zsZ,zLE,h⟩:=z8 h
  refine WC.a (WL.pu rfl (WL.y53 (dd:=28) rfl rfl rfl (zb Tryz.call182 (.r2 rfl rfl)) (.cons .here .nil) (cc hz (.cons .here .nil) fun w pz ho=>y6w _ _ _ (zgV:=183) (zmZ:=[]) _ (zgU:=(fun(y0:z7) (y1:z7)=>y5Y y0 y1)) _ zLE w pz Tryz.call183 (fun w' hz' y0 y1  r  hr=>ydY _ _ _ _ hr w' hz' ) ho) ?_))
  rintro  zLF
  refine WL.repin (i:=3) rfl (u:=(.slice zeM zsZ.length zeN)) (y7b zLF.symm) (WL.nil (WX.a (WC.b (WC.a (WL.pu rfl (WL.pu rfl (WL.nil (WX.a (WC.ret ?_)))))))))
  obtain rfl:=oJ h
  refine WX.yf Tryz.results169 (.tmp rfl .nil) (fun w hw=>?_)
  exact⟨zeM,zeN,yD rfl,trivial,hw.sub (.cons .here .nil)⟩
def y6i(zh1:List z7)(zh2:List z7):Option (List z7×List z7):=
 some (zh1,zh2)
theorem yeR(Z:Zp)(zn1:Option Addr)(zn2:Nat)(zn3:Option Addr)(zn4:Nat)(zh1:List z7)(zh2:List z7)(r:List z7×List z7)(h:y6i zh1 zh2=some r)(w₀:World)(hz:PZ [] w₀ Z)(zLG:ZS Z 4 (fun r x=>r=y1A x) zn1 zn2 zh1)(zLH:ZS Z 4 (fun r x=>r=y1A x) zn3 zn4 zh2):
  Calls Tryz.prog 170 #[(.slice zn1 zh1.length zn2),(.slice zn3 zh2.length zn4)] w₀ fun e w'=>∃ zBg:Nat,∃ zBh:Nat,∃ zBi:Option Addr,∃ zBj:Nat,∃ zBk:Option Addr,∃ zBl:Nat,e = .returned (.func (.func 184) #[] #[(.pointer (some ⟨zBg,0,none⟩)),(.pointer (some ⟨zBh,0,none⟩))])∧((ZS Z 4 (fun r x=>r=y1A x) zBi zBj r.1)∧(ZS Z 4 (fun r x=>r=y1A x) zBk zBl r.2))∧Hp [] w₀ w' [stb zBg 173 [(.slice zBi r.1.length zBj)],stb zBh 173 [(.slice zBk r.2.length zBl)]]:=by
 unfold y6i at h
 refine Calls.yK Tryz.func170 Tryz.ntmps170 ?_
 refine WC.b (WC.a (WL.nA 2 (yI (cs:=[(.slice zn1 zh1.length zn2)]) rfl rfl) ?_))
 intro zLI _
 refine WL.nA 3 (yI (cs:=[(.slice zn3 zh2.length zn4)]) rfl rfl) ?_
 intro zLJ _
 refine WL.pu rfl (WL.nil (WX.a (WC.b (WC.a (WL.qA 5 (y19 (Eos.caps (l:=[.tmp 2,.tmp 3]) (.r2 rfl rfl))) (WL.pu rfl (WL.nil (WX.a (WC.ret ?_)))))))))
 obtain rfl:=oJ h
 refine WX.yf Tryz.results170 (.tmp rfl .nil) (fun w hw=>?_)
 exact⟨zLI,zLJ,zn1,zn2,zn3,zn4,yD rfl,⟨zLG,zLH⟩,hw.sub (.s2 .h1 .here)⟩
def y3h(zP:Type)(z2e:List z7)(z5f:(z7×z7)→zP→Option (Bool×zP))(z1O:List z7)(z1V:Int)(zaL:zP→Option zP):Nat→Int→zP→Option zP
 | 0,_,_=>none
 | zt2+1,z3i,z5E=>if decide (z3i<((z2e.length:Nat):Int)) then chk ((0:Int)≤z3i∧z3i<((z2e.length:Nat):Int)) ((z5f ((⟨(⟨(((nth z1O z1V).fBurst).fN),(((nth z1O z1V).fBurst).fD)⟩:z2),(⟨(((nth z1O z1V).fRate).fN),(((nth z1O z1V).fRate).fD)⟩:z2)⟩:z7),(⟨(⟨(((nth z2e z3i).fBurst).fN),(((nth z2e z3i).fBurst).fD)⟩:z2),(⟨(((nth z2e z3i).fRate).fN),(((nth z2e z3i).fRate).fD)⟩:z2)⟩:z7)) z5E).bind fun zeO=>if !zeO.1 then some zeO.2 else y3h zP z2e z5f z1O z1V zaL zt2 (i64 (z3i+1)) zeO.2) else zaL z5E
theorem y9J{n:Nat}{zP:Type}{z2e:List z7}{z5f:(z7×z7)→zP→Option (Bool×zP)}{z1O:List z7}{z1V:Int}{zaL:zP→Option zP}{z3i:Int}{z5E:zP}{r:zP}(h:y3h zP z2e z5f z1O z1V zaL n z3i z5E=some r):∃ m,n=m+1:=by
 cases n with
 | zero=>cases h
 | succ m=>exact⟨m,rfl⟩
def y3i(zP:Type)(z1O:List z7)(z2e:List z7)(z5f:(z7×z7)→zP→Option (Bool×zP))(zaM:zP→Option zP):Nat→Int→zP→Option zP
 | 0,_,_=>none
 | zt3+1,z1V,z6l=>if decide (z1V<((z1O.length:Nat):Int)) then jp1 (fun(z8V:zP)=>y3i zP z1O z2e z5f zaM zt3 (i64 (z1V+1)) z8V) fun zt4=>chk ((0:Int)≤z1V∧z1V<((z1O.length:Nat):Int)) (jp1 (fun(z8W:zP)=>zt4 z8W) fun zaL=>y3h zP z2e z5f z1O z1V zaL yy 0 z6l) else zaM z6l
theorem y9K{n:Nat}{zP:Type}{z1O:List z7}{z2e:List z7}{z5f:(z7×z7)→zP→Option (Bool×zP)}{zaM:zP→Option zP}{z1V:Int}{z6l:zP}{r:zP}(h:y3i zP z1O z2e z5f zaM n z1V z6l=some r):∃ m,n=m+1:=by
 cases n with
 | zero=>cases h
 | succ m=>exact⟨m,rfl⟩
def y4K(zP:Type)(z5f:(z7×z7)→zP→Option (Bool×zP))(s0_32953:zP)(z1O:List z7)(z2e:List z7):Option zP:=
 jp1 (fun(zaN:zP)=>some zaN) fun zaM=>y3i zP z1O z2e z5f zaM yy 0 s0_32953
theorem ydm(Z:Zp)(zP:Type)(zeP:Nat)(z8t:Type)(z6m:z8t→zP→Asrt)(zaO:z8t→zP→Prop)(zeQ:z8t)(zt5:Addr)(zeR:Option Addr)(zeS:Nat)(zeT:Addr)(zn5:Option Addr)(zn6:Nat)(z5f:(z7×z7)→zP→Option (Bool×zP))(s0_32953:zP)(z1O:List z7)(z2e:List z7)(r:zP)(w₀:World)(hz:PZ (fps [z6m zeQ s0_32953]) w₀ Z)(zLK:ybv Tryz.prog Z zeP (α:=z7×z7) (σ:=zP) (G:=z8t) (H:=Unit) (fun h x=>[(.agg #[(.int .i64 x.1.fBurst.fN),(.int .i64 x.1.fBurst.fD),(.int .i64 x.1.fRate.fN),(.int .i64 x.1.fRate.fD)]),(.agg #[(.int .i64 x.2.fBurst.fN),(.int .i64 x.2.fBurst.fD),(.int .i64 x.2.fRate.fN),(.int .i64 x.2.fRate.fD)])]) (fun h x=>[]) z5f z6m zaO)(zLL:zaO zeQ s0_32953)(zLM:ZS Z 4 (fun r x=>r=y1A x) zeR zeS z1O)(zLN:ZC Z zt5 [(.slice zeR z1O.length zeS)])(zLO:ZS Z 4 (fun r x=>r=y1A x) zn5 zn6 z2e)(zLP:ZC Z zeT [(.slice zn5 z2e.length zn6)])(h:y4K zP z5f s0_32953 z1O z2e=some r)(hown:Hp (fps [z6m zeQ s0_32953]) w₀ w₀ [z6m zeQ s0_32953]):
  Calls Tryz.prog 184 #[(.func (.yield zeP) #[] #[]),(.pointer (some zt5)),(.pointer (some zeT))] w₀ fun e w'=>∃ zBm:z8t,e = .returned (.tuple #[])∧(zaO zBm r)∧Hp (fps [z6m zeQ s0_32953]) w₀ w' [z6m zBm r]:=by
 unfold y4K at h
 refine Calls.oh3 Tryz.func184 Tryz.ntmps184 hown ?_
 refine WC.b (WC.a (WL.qA 8 (yc zbO rfl (y5I hz.pv zLN rfl)) (WL.qA 9 (yH Tryz.underlying173 rfl) (WL.pu rfl (WL.nil (WX.a ?_))))))
 obtain⟨zaM,zLQ,h⟩:=y15 h
 refine WC.y9e (fun(zaN:zP) (zh3:z8t)=>(zaM zaN=some r)∧(zaO zh3 zaN)) (fun zaN zh3=>[]) (fun zaN zh3=>[z6m zh3 zaN]) ?_ ?_
 ·skip
  refine WC.block (WC.y5a (fun(zh4:Nat) (z1V:Int) (z6l:zP) (zcJ:z8t)=>(y3i zP z1O z2e z5f zaM zh4 z1V z6l=some r)∧(zaO zcJ z6l)) (fun zh4 z1V z6l zcJ=>[(0,(.func (.yield zeP) #[] #[])),(2,(.pointer (some zeT))),(8,(.slice zeR z1O.length zeS)),(9,(.int .i64 ((z1O.length:Nat):Int))),(10,(.int .i64 z1V))]) (fun zh4 z1V z6l zcJ=>[z6m zcJ z6l]) (fun zh4 z1V z6l zcJ=>zh4) ⟨yy,0,s0_32953,zeQ⟩ ⟨h,zLL⟩ (.r5 rfl rfl rfl rfl rfl) (.cons .here .nil) ?_)
  rintro zh4 z1V z6l zcJ ⟨h,zBn⟩
  obtain⟨zt3,rfl⟩:=y9K h
  rw[y3i] at h
  refine WC.b (WC.a (WL.pu rfl (WL.nil (WX.a (WC.b (WC.cond rfl (fun zt6=>?_) (fun zt6=>?_)))))))
  ·replace h:=yp h zt6
   refine WC.skip (WX.a ?_)
   obtain⟨zt4,zLR,h⟩:=y15 h
   refine WC.y4z (fun(z8V:zP) (zh5:z8t)=>(zt4 z8V=some r)∧(zaO zh5 z8V)) (fun z8V zh5=>[(0,(.func (.yield zeP) #[] #[])),(2,(.pointer (some zeT))),(8,(.slice zeR z1O.length zeS)),(9,(.int .i64 ((z1O.length:Nat):Int))),(10,(.int .i64 z1V))]) (fun z8V zh5=>[z6m zh5 z8V]) ?_ ?_
   ·skip
    refine WC.block (WC.b ?_)
    obtain⟨zLS,h⟩:=yo h
    refine WC.a (WL.znth (dd:=12) rfl rfl (Z:=Z) (Pr:=(fun r x=>r=y1A x)) z6G rfl rfl zLM zLS ?_)
    rintro zX6 zX7 zLT zX8 rfl
    refine WL.qA 13 (yh z2K rfl (y2b hz.pv zLT) rfl) (WL.nA 5 (yv (cs:=[(.int .i64 0),(.int .i64 0),(.int .i64 0),(.int .i64 0)]) z9R rfl) ?_)
    intro zBo _
    refine WL.ym rfl rfl (yl z8G rfl rfl rfl .here rfl rfl rfl) (WL.nil (WX.a (WC.b (WC.a (WL.qA 14 (yc zbO rfl (y5I hz.pv zLP rfl)) (WL.qA 15 (yH Tryz.underlying173 rfl) (WL.pu rfl (WL.nil (WX.a ?_)))))))))
    obtain⟨zaL,zLU,h⟩:=y15 h
    refine WC.y9e (fun(z8W:zP) (zh6:z8t)=>(zaL z8W=some r)∧(zaO zh6 z8W)) (fun z8W zh6=>[(0,(.func (.yield zeP) #[] #[])),(2,(.pointer (some zeT))),(8,(.slice zeR z1O.length zeS)),(9,(.int .i64 ((z1O.length:Nat):Int))),(10,(.int .i64 z1V))]) (fun z8W zh6=>[z6m zh6 z8W]) ?_ ?_
    ·skip
     refine WC.block (WC.y5a (fun(zh7:Nat) (z3i:Int) (z5E:zP) (z8X:z8t)=>(y3h zP z2e z5f z1O z1V zaL zh7 z3i z5E=some r)∧(zaO z8X z5E)) (fun zh7 z3i z5E z8X=>[(0,(.func (.yield zeP) #[] #[])),(2,(.pointer (some zeT))),(5,(.pointer (some ⟨zBo,0,none⟩))),(8,(.slice zeR z1O.length zeS)),(9,(.int .i64 ((z1O.length:Nat):Int))),(10,(.int .i64 z1V)),(14,(.slice zn5 z2e.length zn6)),(15,(.int .i64 ((z2e.length:Nat):Int))),(16,(.int .i64 z3i))]) (fun zh7 z3i z5E z8X=>[stb zBo 171 [(.int .i64 (((nth z1O z1V).fBurst).fN)),(.int .i64 (((nth z1O z1V).fBurst).fD)),(.int .i64 (((nth z1O z1V).fRate).fN)),(.int .i64 (((nth z1O z1V).fRate).fD))],z6m z8X z5E]) (fun zh7 z3i z5E z8X=>zh7) ⟨yy,0,z6l,zcJ⟩ ⟨h,zBn⟩ (.r9 rfl rfl rfl rfl rfl rfl rfl rfl rfl) (.s2 .here .here) ?_)
     rintro zh7 z3i z5E z8X ⟨h,zBp⟩
     obtain⟨zt2,rfl⟩:=y9J h
     rw[y3h] at h
     refine WC.b (WC.a (WL.pu rfl (WL.nil (WX.a (WC.b (WC.cond rfl (fun zt7=>?_) (fun zt7=>?_)))))))
     ·replace h:=yp h zt7
      refine WC.skip (WX.a (WC.b (WC.block (WC.b ?_))))
      obtain⟨zLV,h⟩:=yo h
      refine WC.a (WL.znth (dd:=18) rfl rfl (Z:=Z) (Pr:=(fun r x=>r=y1A x)) z6G rfl rfl zLO zLV ?_)
      rintro zX9 zXa zLW zXb rfl
      refine WL.qA 19 (yh z2K rfl (y2b hz.pv zLW) rfl) (WL.nA 7 (yv (cs:=[(.int .i64 0),(.int .i64 0),(.int .i64 0),(.int .i64 0)]) z9R rfl) ?_)
      intro zXc _
      refine WL.ym rfl rfl (yl z8G rfl rfl rfl .here rfl rfl rfl) (WL.nil (WX.a (WC.b ?_)))
      obtain⟨zeO,zLX,h⟩:=z8 h
      refine WC.a (WL.pu rfl (WL.qA 21 (yh z2K rfl (yi .h1) rfl) (WL.qA 22 (yh z2K rfl (yi .here) rfl) (WL.yield (dd:=23) (x:=((⟨(⟨(((nth z1O z1V).fBurst).fN),(((nth z1O z1V).fBurst).fD)⟩:z2),(⟨(((nth z1O z1V).fRate).fN),(((nth z1O z1V).fRate).fD)⟩:z2)⟩:z7),(⟨(⟨(((nth z2e z3i).fBurst).fN),(((nth z2e z3i).fBurst).fD)⟩:z2),(⟨(((nth z2e z3i).fRate).fN),(((nth z2e z3i).fRate).fD)⟩:z2)⟩:z7))) (h:=()) (g:=z8X) (s:=z5E) (b:=zeO.1) (s':=zeO.2) zLK rfl rfl rfl (.r2 rfl rfl) ((.cons .h2 .nil):Sel _ [z6m z8X z5E] _) zLX zBp (fun w hw=>hz.call hw ((.cons .h2 .nil):Sel _ [z6m z8X z5E] _)) ?_))))
      intro zBq zBr
      refine WL.pu rfl (WL.nil (WX.a (WC.cond rfl (fun zt8=>?_) (fun zt8=>?_))))
      ·replace h:=yp h zt8
       refine WC.ret (WX.ys (WX.ye (WX.ye (WX.ys (WX.ye (WX.ys (WX.ye (WX.ye (WX.ys (WX.ye ?_))))))))))
       obtain rfl:=oJ h
       refine WX.yf Tryz.results184 .nil (fun w hw=>?_)
       exact⟨zBq,y7o,zBr,hw.sub (.cons .here .nil)⟩
      ·replace h:=yq h zt8
       refine WC.skip (WX.yn (WX.a (WC.a (WL.pu rfl (WL.pu rfl (WL.nil ?_))))))
       exact WX.round ⟨zt2,(i64 (z3i+1)),zeO.2,zBq⟩ ⟨h,zBr⟩ (Nat.lt_succ_self _) (.r9 rfl rfl rfl rfl rfl rfl rfl rfl rfl) (.s2 .h2 .here)
     ·replace h:=yq h zt7
      refine WC.exit (WX.yg (WX.yg (WX.yz ?_)))
      exact WX.mid ⟨z5E,z8X⟩ ⟨h,zBp⟩ (.r5 rfl rfl rfl rfl rfl) (.cons .h1 .nil)
    ·rintro z8W zh6 ⟨h,zLY⟩
     replace h:=(zLU z8W).symm.trans h
     refine WX.yn ?_
     exact WX.mid ⟨z8W,zh6⟩ ⟨h,zLY⟩ (.r5 rfl rfl rfl rfl rfl) (.cons .here .nil)
   ·rintro z8V zh5 ⟨h,zLZ⟩
    replace h:=(zLR z8V).symm.trans h
    refine WC.a (WL.pu rfl (WL.pu rfl (WL.nil ?_)))
    exact WX.round ⟨zt3,(i64 (z1V+1)),z8V,zh5⟩ ⟨h,zLZ⟩ (Nat.lt_succ_self _) (.r5 rfl rfl rfl rfl rfl) (.cons .here .nil)
  ·replace h:=yq h zt6
   refine WC.exit (WX.yg (WX.yg (WX.yz ?_)))
   exact WX.mid ⟨z6l,zcJ⟩ ⟨h,zBn⟩ .nil (.cons .here .nil)
 ·rintro zaN zh3 ⟨h,zM0⟩
  replace h:=(zLQ zaN).symm.trans h
  obtain rfl:=oJ h
  refine WX.y52 Tryz.results184 .nil (fun w hw=>?_)
  exact⟨zh3,y7o,zM0,hw.sub (.cons .here .nil)⟩
def y92(zeU:z2)(zeV:z2):Option (Int×Int):=
 some ((i64 ((i64 (zeU.fN*zeV.fD))-(i64 (zeV.fN*zeU.fD)))),(i64 (zeU.fD*zeV.fD)))
theorem ygV(Z:Zp)(zBs:Addr)(zBt:Addr)(zeU:z2)(zeV:z2)(r:Int×Int)(h:y92 zeU zeV=some r)(w₀:World)(hz:PZ [] w₀ Z)(zt9:ZC Z zBs [(.int .i64 zeU.fN),(.int .i64 zeU.fD)])(zta:ZC Z zBt [(.int .i64 zeV.fN),(.int .i64 zeV.fD)]):
  Calls Tryz.prog 142 #[(.pointer (some zBs)),(.pointer (some zBt))] w₀ fun e w'=>e = .returned (.tuple #[(.int .i64 r.1),(.int .i64 r.2)])∧Hp [] w₀ w' []:=by
 unfold y92 at h
 refine Calls.yK Tryz.func142 Tryz.ntmps142 ?_
 refine WC.b (WC.a (WL.pu rfl (WL.pu rfl (WL.nil (WX.a (WC.b (WC.yP (fun i=>[].contains i) [] rfl (WD.pA 0 4 rfl (fun _=>ya y2k rfl rfl) (WD.qA 1 5 rfl (yc yt rfl (y1l hz.pv zt9 rfl)) (WD.pA 2 6 rfl (fun _=>ya y2F rfl rfl) (WD.qA 3 7 rfl (yc yt rfl (y1l hz.pv zta rfl)) (WD.pA 4 8 rfl (fun _=>y6T rfl rfl rfl) (WD.pA 5 9 rfl (fun _=>ya y2k rfl rfl) (WD.qA 6 10 rfl (yc yt rfl (y1l hz.pv zta rfl)) (WD.pA 7 11 rfl (fun _=>ya y2F rfl rfl) (WD.qA 8 12 rfl (yc yt rfl (y1l hz.pv zt9 rfl)) (WD.pA 9 13 rfl (fun _=>y6T rfl rfl rfl) (WD.pA 10 14 rfl (fun _=>yc2 rfl rfl rfl) (WD.pA 11 15 rfl (fun _=>ya y2F rfl rfl) (WD.qA 12 16 rfl (yc yt rfl (y1l hz.pv zt9 rfl)) (WD.pA 13 17 rfl (fun _=>ya y2F rfl rfl) (WD.qA 14 18 rfl (yc yt rfl (y1l hz.pv zta rfl)) (WD.pA 15 19 rfl (fun _=>y6T rfl rfl rfl) (WD.pA 16 2 rfl (fun _=>q_z rfl) (WD.pA 17 3 rfl (fun _=>q_z rfl) (WD.done (by kernel_rfl) (WX.a (WC.ret ?_))))))))))))))))))))))))))))
 obtain rfl:=oJ h
 refine WX.yf Tryz.results142 (.tmp rfl (.tmp rfl .nil)) (fun w hw=>?_)
 exact⟨y24 rfl rfl,hw.sub .nil⟩
def y8F(zcK:z2)(zcL:z2):Option (z2×Int):=
 (y1L zcK).bind fun zBu=>(if !zBu then some true else(y1L zcL).bind fun zBv=>some (!zBv)).bind fun zn7=>if zn7 then some ((⟨0,0⟩:z2),2) else(y92 zcK zcL).bind fun ztb=>(y51 ztb.1 ztb.2).bind fun ztc=>some (ztc.1,ztc.2)
theorem yhu(Z:Zp)(zcK:z2)(zcL:z2)(r:z2×Int)(h:y8F zcK zcL=some r)(w₀:World)(hz:PZ [] w₀ Z):
  Calls Tryz.prog 105 #[(.string ⟨#[45]⟩),(.agg #[(.int .i64 zcK.fN),(.int .i64 zcK.fD)]),(.agg #[(.int .i64 zcL.fN),(.int .i64 zcL.fD)])] w₀ fun e w'=>e = .returned (.tuple #[(.agg #[(.int .i64 r.1.fN),(.int .i64 r.1.fD)]),(.int .i64 r.2)])∧Hp [] w₀ w' []:=by
 unfold y8F at h
 refine Calls.on3 Tryz.func105 Tryz.ntmps105 ?_
 refine WC.b (WC.a (WL.nA 4 (yI (cs:=[(.int .i64 zcK.fN),(.int .i64 zcK.fD)]) rfl rfl) ?_))
 intro zkh _
 refine WL.nA 5 (yI (cs:=[(.int .i64 zcL.fN),(.int .i64 zcL.fD)]) rfl rfl) ?_
 intro zki _
 refine WL.nA 6 (yv (cs:=[(.int .i64 0),(.int .i64 0)]) zT rfl) ?_
 intro zXd _
 refine WL.pu rfl (WL.nil (WX.a (WC.b (WC.b ?_))))
 obtain⟨zBu,zM1,h⟩:=z8 h
 obtain⟨zn7,zBw,h⟩:=z8 h
 refine WC.a (WL.qA 9 (yh zf rfl (yi .h2) rfl) (WL.cA 10 (zb Tryz.call80 (.cons rfl .nil)) .nil (cc hz .nil fun w pz ho=>y2s _ _ _ zM1 w pz ) (WL.pu rfl (WL.pu rfl (WL.seg false 3 12 (B:=zn7) rfl rfl rfl rfl rfl rfl (fun h=>(oJ (yp zBw h)).symm) (fun _ zM2=>?_) ?_)))))
 ·skip
  have zkj:=yq zBw zM2
  obtain⟨zBv,zM3,zkj⟩:=z8 zkj
  replace zkj:=oJ zkj
  refine WL.qA 13 (yh zf rfl (yi .h1) rfl) (WL.cA 14 (zb Tryz.call80 (.cons rfl .nil)) .nil (cc hz .nil fun w pz ho=>y2s _ _ _ zM3 w pz ) (WL.pu rfl (WL.pu rfl ?_)))
  exact WL.yB zkj rfl rfl .all
 refine WL.pu rfl (WL.seg false 7 17 (B:=zn7) rfl rfl rfl rfl rfl rfl (fun h=>h) (fun _ zM4=>?_) ?_)
 ·skip
  refine WL.pu rfl (WL.qA 19 (yc7 (r:=false) (by decide) rfl rfl) (WL.pu rfl (WL.e rfl rfl rfl (WL.e rfl rfl rfl (WL.e rfl rfl rfl (WL.pu rfl (WL.pu rfl ?_)))))))
  exact WL.yB (Eq.symm zM4) rfl rfl .all
 refine WL.nil (WX.a (WC.cond rfl (fun ztd=>?_) (fun ztd=>?_)))
 ·replace h:=yp h ztd
  refine WC.b (WC.a (WL.qA 26 (yL (v:=(.agg #[(.int .i64 0),(.int .i64 0)])) (Eos.parts (l:=[]) .nil []) (fun _=>by kernel_rfl)) (WL.ym rfl rfl (yl zz rfl rfl rfl .here rfl rfl rfl) (WL.pu rfl (WL.nil (WX.a (WC.ret (WX.ye ?_))))))))
  obtain rfl:=oJ h
  refine WX.yf Tryz.results105 (.agg rfl zf rfl (yi .here) (.tmp rfl .nil)) (fun w hw=>?_)
  exact⟨y24 rfl rfl,hw.sub .nil⟩
 ·replace h:=yq h ztd
  refine WC.skip (WX.a (WC.b (WC.a (WL.nA 27 (y4B Value.string (fun x=>x)) ?_))))
  intro zXe _
  refine WL.qA 28 (y19 (Eos.caps (l:=[.tmp 4,.tmp 5]) (.r2 rfl rfl))) (WL.ym rfl rfl (y3s (k:=⟨#[43]⟩) (v:=(.func (.func 141) #[] #[(.pointer (some ⟨zkh,0,none⟩)),(.pointer (some ⟨zki,0,none⟩))])) y3S Tryz.underlying258 rfl rfl rfl rfl .here) (WL.qA 29 (y19 (Eos.caps (l:=[.tmp 4,.tmp 5]) (.r2 rfl rfl))) (WL.ym rfl rfl (y3s (k:=⟨#[45]⟩) (v:=(.func (.func 142) #[] #[(.pointer (some ⟨zkh,0,none⟩)),(.pointer (some ⟨zki,0,none⟩))])) y3S Tryz.underlying258 rfl rfl rfl rfl .here) (WL.qA 30 (y19 (Eos.caps (l:=[.tmp 4,.tmp 5]) (.r2 rfl rfl))) (WL.ym rfl rfl (y3s (k:=⟨#[42]⟩) (v:=(.func (.func 143) #[] #[(.pointer (some ⟨zkh,0,none⟩)),(.pointer (some ⟨zki,0,none⟩))])) y3S Tryz.underlying258 rfl rfl rfl rfl .here) (WL.qA 31 (y19 (Eos.caps (l:=[.tmp 4,.tmp 5]) (.r2 rfl rfl))) (WL.ym rfl rfl (y3s (k:=⟨#[47]⟩) (v:=(.func (.func 144) #[] #[(.pointer (some ⟨zkh,0,none⟩)),(.pointer (some ⟨zki,0,none⟩))])) y3S Tryz.underlying258 rfl rfl rfl rfl .here) (WL.pu rfl (WL.pu rfl (WL.nil (WX.a (WC.b ?_))))))))))))
  obtain⟨ztb,zM5,h⟩:=z8 h
  obtain⟨ztc,zM6,h⟩:=z8 h
  refine WC.a (WL.pu rfl (WL.pu rfl (WL.qA 35 (yc6 (k:=⟨#[45]⟩) (dflt:=.nilFunc) (r:=(.func (.func 142) #[] #[(.pointer (some ⟨zkh,0,none⟩)),(.pointer (some ⟨zki,0,none⟩))])) y3S Tryz.underlying258 zlX rfl rfl rfl .here (by rfl)) (WL.cA 36 (y2y (l:=[]) Tryz.call142 rfl .nil) .nil (ccl hz .nil (.s2 .h3 .h2) fun w pz ho la=>ygV _ _ _ _ _ _ zM5 w pz ((la _ (.head _) _).stb) ((la _ (.tail _ (.head _)) _).stb)) (WL.pu rfl (WL.pu rfl (WL.cA 39 (zb Tryz.call106 (.r2 rfl rfl)) .nil (cc hz .nil fun w pz ho=>y7X _ _ _ _ zM6 w pz ) (WL.pu rfl (WL.pu rfl (WL.ym rfl rfl (yl zz rfl rfl rfl .h1 rfl rfl rfl) (WL.pu rfl (WL.nil (WX.a (WC.ret ?_))))))))))))))
  obtain rfl:=oJ h
  refine WX.yf Tryz.results105 (.agg rfl zf rfl (yi .here) (.tmp rfl .nil)) (fun w hw=>?_)
  exact⟨y24 rfl rfl,hw.sub .nil⟩
def y2g(zeW:z2)(zeX:z2):Option (z2×Int):=
 (y8F zeW zeX).bind fun zte=>some (zte.1,zte.2)
theorem y8G(Z:Zp)(zeW:z2)(zeX:z2)(r:z2×Int)(h:y2g zeW zeX=some r)(w₀:World)(hz:PZ [] w₀ Z):
  Calls Tryz.prog 74 #[(.agg #[(.int .i64 zeW.fN),(.int .i64 zeW.fD)]),(.agg #[(.int .i64 zeX.fN),(.int .i64 zeX.fD)])] w₀ fun e w'=>e = .returned (.tuple #[(.agg #[(.int .i64 r.1.fN),(.int .i64 r.1.fD)]),(.int .i64 r.2)])∧Hp [] w₀ w' []:=by
 unfold y2g at h
 refine Calls.yK Tryz.func74 Tryz.ntmps74 ?_
 refine WC.b (WC.a (WL.nA 2 (yI (cs:=[(.int .i64 zeW.fN),(.int .i64 zeW.fD)]) rfl rfl) ?_))
 intro zXf _
 refine WL.nA 3 (yI (cs:=[(.int .i64 zeX.fN),(.int .i64 zeX.fD)]) rfl rfl) ?_
 intro zXg _
 refine WL.nA 4 (yv (cs:=[(.int .i64 0),(.int .i64 0)]) zT rfl) ?_
 intro zXh _
 refine WL.pu rfl (WL.nil (WX.a (WC.b ?_)))
 obtain⟨zte,zM7,h⟩:=z8 h
 refine WC.a (WL.qA 6 (yh zf rfl (yi .h2) rfl) (WL.qA 7 (yh zf rfl (yi .h1) rfl) (WL.cA 8 (zb Tryz.call105 (.r3 rfl rfl rfl)) .nil (cc hz .nil fun w pz ho=>yhu _ _ _ _ zM7 w pz ) (WL.pu rfl (WL.pu rfl (WL.ym rfl rfl (yl zz rfl rfl rfl .here rfl rfl rfl) (WL.pu rfl (WL.nil (WX.a (WC.ret ?_))))))))))
 obtain rfl:=oJ h
 refine WX.yf Tryz.results74 (.agg rfl zf rfl (yi .here) (.tmp rfl .nil)) (fun w hw=>?_)
 exact⟨y24 rfl rfl,hw.sub .nil⟩
end Go.Proofs.YtcahmabkeaijdaaGreat
