/- A part of this claim's proof: models of functions, walks, plain laws. No conditions. -/
import Derived.Test.YthjnhebofpebpaaGreatW36b
set_option linter.all false
namespace Go.Proofs.YthjnhebofpebpaaGreat
open Go Go.RowKit Sep Tryz
variable {f:zs}{g i:z6}{k v:List z6}{m W:Nat}{q X:Option Addr}{j s:z2}{t:List (z8×Int)}{y:z8}{z w:Int}{T:List (List ze)}{u:Type}{Y:List (zP×z2)}{x:Addr}{A:List (List z6)}{C:List (Int×List Int)}
set_option maxRecDepth 30000
set_option maxHeartbeats 4000000
def y2X(b:List (List ze))(k:z8)(d:zs)(g:List (z8×Int))(o:(List (List z6))->Int->Int->(List (Int×List Int))->(List (zP×z2))->Option (List (List z6)×Int×Int×(List (zP×z2)))):Nat->(List (List z6))->Int->Int->Int->(List (Int×List Int))->(List (zP×z2))->Option (List (List z6)×Int×Int×(List (zP×z2)))
 | 0,_,_,_,_,_,_=>none
 | t+1,h,l,a,i,e,c=>if decide (a<(b.length:Int)) then jp5 (fun(u:List (List z6)) (v:Int) (w:Int) (x:List (Int×List Int)) (y:List (zP×z2))=>y2X b k d g o t u v (i64 (a+1)) w x y) fun p=>chk ((0:Int)<=a/\a<(b.length:Int)) ((y1l (nth b a) (fun(y0:ze)=>y4r y0 k)).bind fun z=>if !z then p h l i e c else chk ((0:Int)<=a/\a<(d.fVLs.length:Int)) (chk ((0:Int)<=a/\a<(d.fVLs.length:Int)) ((y2L ((nth d.fVLs a).fMax)).bind fun j=>jp5 (fun(A:List (List z6)) (B:Int) (C:List (Int×List Int)) (D:Int) (E:Int)=>p A (max l ((nth d.fVLs a).fMax)) B C (yC c (⟨a,k⟩:zP) (⟨D,E⟩:z2))) fun q=>(y5M (nth b a) k.fNode).bind fun f=>if f.2 then(y4M f.1).bind fun r=>(y40 d b c g i a).bind fun F=>(y4M f.1).bind fun G=>(y2L (yd g G 0)).bind fun H=>(y45 d b c g i (fun(y0:z2) (y1:z2)=>y3J y0 y1) F H).bind fun s=>(y45 d b c g s.2 (fun(y0:z2) (y1:z2)=>y1q y0 y1) (⟨((yd c (⟨a,r⟩:zP) (⟨0,0⟩:z2)).fN),((yd c (⟨a,r⟩:zP) (⟨0,0⟩:z2)).fD)⟩:z2) s.1).bind fun m=>chk ((((yd e f.1.fQ [])++([a]:List Int)).length:Int)*8<=140737488355328/\(((yd e f.1.fQ [])++([a]:List Int)).length:Int)<=4611686018427387904) (q h m.2 (yC e f.1.fQ ((yd e f.1.fQ [])++([a]:List Int))) m.1.fN m.1.fD) else(y40 d b c g i a).bind fun n=>chk ((((h++([([(⟨j,n⟩:z6)]:List z6)]:List (List z6))).length:Nat):Int)*24<=140737488355328/\(((h++([([(⟨j,n⟩:z6)]:List z6)]:List (List z6))).length:Nat):Int)<=4611686018427387904) (q (h++([([(⟨j,n⟩:z6)]:List z6)]:List (List z6))) i e j.fN j.fD)))) else o h l i e c
theorem y9X{n:Nat}{a:(List (List z6))->Int->Int->(List (Int×List Int))->(List (zP×z2))->Option (List (List z6)×Int×Int×(List (zP×z2)))}{b:Int}{r:List (List z6)×Int×Int×(List (zP×z2))}(h:y2X T y f t a n A z w b C Y=some r):∃ m,n=m+1:=by
 cases n with
 | zero=>cases h
 | succ m=>exact⟨m,rfl⟩
def y2Y(b:List (Int×List Int))(c:Int)(e:zs)(f:List (List ze))(d:List (zP×z2))(g:List (z8×Int))(j:z8)(k:Int->Int->Int->Int->Int->Int->Option (List (List z6)×Int×Int×(List (zP×z2)))):Nat->Int->Int->Int->Int->Int->Int->Int->Option (List (List z6)×Int×Int×(List (zP×z2)))
 | 0,_,_,_,_,_,_,_=>none
 | r+1,l,a,m,n,o,p,q=>if decide (a<((yd b c []).length:Int)) then chk ((0:Int)<=a/\a<((yd b c []).length:Int)) ((y45 e f d g m (fun(y0:z2) (y1:z2)=>y1q y0 y1) (⟨n,o⟩:z2) (⟨((yd d (⟨(nth (yd b c []) a),j⟩:zP) (⟨0,0⟩:z2)).fN),((yd d (⟨(nth (yd b c []) a),j⟩:zP) (⟨0,0⟩:z2)).fD)⟩:z2)).bind fun h=>(y40 e f d g h.2 (nth (yd b c []) a)).bind fun s=>(y45 e f d g h.2 (fun(y0:z2) (y1:z2)=>y1q y0 y1) (⟨p,q⟩:z2) s).bind fun i=>chk ((0:Int)<=(nth (yd b c []) a)/\(nth (yd b c []) a)<(e.fVLs.length:Int)) (y2Y b c e f d g j k r (max l ((nth e.fVLs (nth (yd b c []) a)).fMax)) (i64 (a+1)) i.2 h.1.fN h.1.fD i.1.fN i.1.fD)) else k l m n o p q
def y2Z(b:zs)(d:List (Int×List Int))(k:List (List ze))(l:List (zP×z2))(m:List (z8×Int))(r:z8)(n:(List (List z6))->Int->Option (List (List z6)×Int×Int×(List (zP×z2)))):Nat->(List (List z6))->Int->Int->Option (List (List z6)×Int×Int×(List (zP×z2)))
 | 0,_,_,_=>none
 | s+1,c,a,e=>if decide (a<(b.fK.length:Int)) then jp2 (fun(t:List (List z6)) (u:Int)=>y2Z b d k l m r n s t (i64 (a+1)) u) fun o=>if decide (((yd d a []).length:Int)=0) then o c e else(y2L 0).bind fun p=>(y2L 0).bind fun q=>jp6 (fun(v:Int) (w:Int) (f:Int) (g:Int) (h:Int) (i:Int)=>(y2L v).bind fun j=>chk ((0:Int)<=a/\a<(b.fK.length:Int)) (chk ((((c++([([(⟨(⟨f,g⟩:z2),(⟨h,i⟩:z2)⟩:z6),(⟨j,(⟨1,((nth b.fK a).fSlow)⟩:z2)⟩:z6)]:List z6)]:List (List z6))).length:Nat):Int)*24<=140737488355328/\(((c++([([(⟨(⟨f,g⟩:z2),(⟨h,i⟩:z2)⟩:z6),(⟨j,(⟨1,((nth b.fK a).fSlow)⟩:z2)⟩:z6)]:List z6)]:List (List z6))).length:Nat):Int)<=4611686018427387904) (o (c++([([(⟨(⟨f,g⟩:z2),(⟨h,i⟩:z2)⟩:z6),(⟨j,(⟨1,((nth b.fK a).fSlow)⟩:z2)⟩:z6)]:List z6)]:List (List z6))) w))) fun x=>y2Y d a b k l m r x yy 0 0 e p.fN p.fD q.fN q.fD else n c e
theorem y9Z{n:Nat}{a:(List (List z6))->Int->Option (List (List z6)×Int×Int×(List (zP×z2)))}{r:List (List z6)×Int×Int×(List (zP×z2))}(h:y2Z f C T Y t y a n A z w=some r):∃ m,n=m+1:=by
 cases n with
 | zero=>cases h
 | succ m=>exact⟨m,rfl⟩
def y50(f:zs)(c:List (List ze))(h:List (zP×z2))(d:List (z8×Int))(i:Int)(g:z8):Option (List (List z6)×Int×Int×(List (zP×z2))):=
 jp5 (fun(a:List (List z6)) (j:Int) (k:Int) (l:List (Int×List Int)) (e:List (zP×z2))=>jp2 (fun(b:List (List z6)) (m:Int)=>chk (((a++b).length:Int)*24<=140737488355328/\((a++b).length:Int)<=4611686018427387904) (some ((a++b),j,m,e))) fun n=>y2Z f l c e d g n yy ([]:List (List z6)) 0 k) fun o=>y2X c g f d o yy ([]:List (List z6)) 0 0 i ([]:List (Int×List Int)) h
theorem yd2{Z:Zp}{aY:Nat}{aZ:Option Addr}{a0:Nat}{a1:Option Addr}{a2:Nat}{a3:Option Addr}{a4:Nat}{a5:Option Addr}{a6:Nat}{a7:Option Addr}{a8:Nat}{a9:Option Addr}{ba:Nat}{bb:Option Addr}{bc:Nat}{g:Nat}{n:Nat}{r:List (List z6)×Int×Int×(List (zP×z2))}(h:y50 f T Y t z y=some r)(w₀:World)(hz:PZ (fps [stb m 119 [(vs q f.fM.length W),(vs X f.fC0.length aY),(vs aZ f.fS.length a0),(vs a1 f.fK.length a2),(vs a3 f.fVLs.length a4),(vs a5 f.fH.length a6),(vs a7 f.fU.length a8),(vs a9 f.fV0.length ba),(vs bb T.length bc),(.map (some g)),(.map (some n)),(vi z)],yn g (fun x=>Value.agg (y2P x).toArray) (fun x=>Value.agg (yx x).toArray) Y,yn n (fun x=>Value.agg (yE x).toArray) (Value.int .i64) t]) w₀ Z)(bd:ZS Z 4 (y3F Z) q W f.fM)(be:ZS Z 4 (y4l Z) X aY f.fC0)(bf:ZS Z 4 (fun r x=>r=e64 x) aZ a0 f.fS)(aQ:ZS Z 4 (fun r x=>r=e62 x) a1 a2 f.fK)(ay:ZS Z 7 (p69 Z) a3 a4 f.fVLs)(bg:ZS Z 5 (fun r x=>r=y4D x) a5 a6 f.fH)(bh:ZS Z 3 (y4m Z) a7 a8 f.fU)(bi:ZS Z 4 (fun r x=>r=y4E x) a9 ba f.fV0)(aR:ZS Z 1 (p58 Z) bb bc T)(hown:Hp (fps [stb m 119 [(vs q f.fM.length W),(vs X f.fC0.length aY),(vs aZ f.fS.length a0),(vs a1 f.fK.length a2),(vs a3 f.fVLs.length a4),(vs a5 f.fH.length a6),(vs a7 f.fU.length a8),(vs a9 f.fV0.length ba),(vs bb T.length bc),(.map (some g)),(.map (some n)),(vi z)],yn g (fun x=>Value.agg (y2P x).toArray) (fun x=>Value.agg (yx x).toArray) Y,yn n (fun x=>Value.agg (yE x).toArray) (Value.int .i64) t]) w₀ w₀ [stb m 119 [(vs q f.fM.length W),(vs X f.fC0.length aY),(vs aZ f.fS.length a0),(vs a1 f.fK.length a2),(vs a3 f.fVLs.length a4),(vs a5 f.fH.length a6),(vs a7 f.fU.length a8),(vs a9 f.fV0.length ba),(vs bb T.length bc),(.map (some g)),(.map (some n)),(vi z)],yn g (fun x=>Value.agg (y2P x).toArray) (fun x=>Value.agg (yx x).toArray) Y,yn n (fun x=>Value.agg (yE x).toArray) (Value.int .i64) t]):
  Calls Tryz.prog 79 #[(vp m),(.agg #[(vi y.fNode),(vi y.fQ)])] w₀ fun e w'=>∃ Zn:Zp,∃ cg:Option Addr,∃ ch:Nat,∃ ci:List Value,e = .returned (.tuple #[(vs cg r.1.length ch),(vi r.2.1)])/\(RR 1 (y29 (Z++Zn)) ci r.1)/\Hp (fps [stb m 119 [(vs q f.fM.length W),(vs X f.fC0.length aY),(vs aZ f.fS.length a0),(vs a1 f.fK.length a2),(vs a3 f.fVLs.length a4),(vs a5 f.fH.length a6),(vs a7 f.fU.length a8),(vs a9 f.fV0.length ba),(vs bb T.length bc),(.map (some g)),(.map (some n)),(vi z)],yn g (fun x=>Value.agg (y2P x).toArray) (fun x=>Value.agg (yx x).toArray) Y,yn n (fun x=>Value.agg (yE x).toArray) (Value.int .i64) t]) w₀ w' [fz Zn,row (vs cg r.1.length ch) 227 1 ci,stb m 119 [(vs q f.fM.length W),(vs X f.fC0.length aY),(vs aZ f.fS.length a0),(vs a1 f.fK.length a2),(vs a3 f.fVLs.length a4),(vs a5 f.fH.length a6),(vs a7 f.fU.length a8),(vs a9 f.fV0.length ba),(vs bb T.length bc),(.map (some g)),(.map (some n)),(vi r.2.2.1)],yn g (fun x=>Value.agg (y2P x).toArray) (fun x=>Value.agg (yx x).toArray) r.2.2.2,yn n (fun x=>Value.agg (yE x).toArray) (Value.int .i64) t]:=by
 unfold y50 at h
 refine Kf func79 ntmps79 hown ?_
 let N:List Value:=[(vi y.fNode),(vi y.fQ)];refine WC.pool (WC.b (Ld (Lg 3 (yI (cs:=N) U U) ?_)))
 intro p _
 refine La U<|La U<|WL.nil<|Lb<|WC.b<|Ld<|La U<|La U<|WL.nil<|Lb<|WC.b<|Ld<|Lg 20 (y3n (Value.int .i64)<|slv (α:=Int)) ?_
 intro aa _
 let C:Value:=(vs bb T.length bc);let D:Value:=(vs a3 f.fVLs.length a4);let F:Value:=(vs X f.fC0.length aY);let G:Value:=(vs a9 f.fV0.length ba);let H:Value:=(vs q f.fM.length W);let I:Value:=(vs aZ f.fS.length a0);let J:Value:=(vs a1 f.fK.length a2);let K:Value:=(vs a5 f.fH.length a6);let L:Value:=(vs a7 f.fU.length a8);refine WL.ghL (M:=[y2n (y2d 3 1 e3) ([]:List (Int×((Nat×(Option Addr×Nat))×List Int))),yn aa (Value.int .i64) slv (y2O ([]:List (Int×((Nat×(Option Addr×Nat))×List Int)))),stb p 121 N,fz [],stb m 119 [H,F,I,J,D,K,L,G,C,(.map (some g)),(.map (some n)),(vi z)],yn g (fun x=>Value.agg (y2P x).toArray) (fun x=>Value.agg (yx x).toArray) Y,yn n (fun x=>Value.agg (yE x).toArray) (Value.int .i64) t]) (fun _ h=>Hp.yfp (y2d 3 1 e3) h) (La U (WL.nil (Lb (WC.b (Ld (La U (WL.nil (Lb ?_))))))))
 obtain⟨cj,cw,h⟩:=yeR h
 refine WC.ybx (fun(av:List (List z6)) (aw:Int) (bj:Int) (ad:List (Int×List Int)) (an:List (zP×z2)) (aH:Zp) (bz:Option Addr) (bA:Nat) (ap:List Value) (ag:List (Int×((Nat×(Option Addr×Nat))×List Int)))=>(cj av aw bj ad an=some r)/\(Zle (Z++[]) (Z++aH))/\(RR 1 (y29 (Z++aH)) ap av)/\(dat ag=ad)) (fun av aw bj ad an aH bz bA ap ag=>[(0,(vp m)),(3,(vp p)),(6,(vs bz av.length bA)),(7,vn),(8,(.map<|some aa)),(9,(vi aw))]) (fun av aw bj ad an aH bz bA ap ag=>[fz aH,row (vs bz av.length bA) 227 1 ap,stb m 119 [H,F,I,J,D,K,L,G,C,(.map<|some g),(.map<|some n),(vi bj)],stb p 121 N,yn aa (Value.int .i64) slv (y2O ag),y2n (y2d 3 1 e3) ag,yn g (fun x=>Value.agg (y2P x).toArray) (fun x=>Value.agg (yx x).toArray) an,yn n (fun x=>Value.agg (yE x).toArray) (Value.int .i64) t]) ?_ ?_
 ·skip
  refine WC.b<|Ld<|La U<|Le 22 (y1d U)<|Le 23 (ya fo_119_1 U U)<|Le 24 (yc oneT_32 U<|yh .h4 U)<|Le 25 (yJ underlying32 U)<|La U<|WL.nil<|Lb<|WC.block<|WC.nilRow 227 1<|WC.yk3 (fun(bB:Nat) (ae:List (List z6)) (az:Int) (o:Int) (aI:Int) (ab:List (Int×List Int)) (aq:List (zP×z2)) (B:Zp) (aA:Option Addr) (aB:Nat) (ar:List Value) (ao:List (Int×((Nat×(Option Addr×Nat))×List Int)))=>(y2X T y f t cj bB ae az o aI ab aq=some r)/\(Zle (Z++[]) (Z++B))/\(RR 1 (y29 (Z++B)) ar ae)/\(dat ao=ab)) (fun bB ae az o aI ab aq B aA aB ar ao=>[(0,(vp m)),(3,(vp p)),(6,(vs aA ae.length aB)),(7,vn),(8,(.map<|some aa)),(9,(vi az)),(24,C),(25,(vi (T.length:Int))),(26,(vi o))]) (fun bB ae az o aI ab aq B aA aB ar ao=>[fz B,row (vs aA ae.length aB) 227 1 ar,stb m 119 [H,F,I,J,D,K,L,G,C,(.map<|some g),(.map<|some n),(vi aI)],stb p 121 N,yn aa (Value.int .i64) slv (y2O ao),y2n (y2d 3 1 e3) ao,yn g (fun x=>Value.agg (y2P x).toArray) (fun x=>Value.agg (yx x).toArray) aq,yn n (fun x=>Value.agg (yE x).toArray) (Value.int .i64) t]) (fun bB ae az o aI ab aq B aA aB ar ao=>bB) ⟨yy,([]:List (List z6)),0,0,z,([]:List (Int×List Int)),Y,[],none,0,[],([]:List (Int×((Nat×(Option Addr×Nat))×List Int)))⟩ ⟨h,(Zle.refl _),(RR.nil _ _),U⟩ (.r9 U U U U U U U U U) (.s8 .h4 .here .h3 .h2 .h1 .here .here .here) ?_
  rintro bB ae az o aI ab aq B aA aB ar ao ⟨h,a,bY,bQ⟩
  obtain⟨cx,rfl⟩:=y9X h
  rw[y2X] at h
  refine WC.b<|Ld<|La U<|WL.nil<|Lb<|WC.b<|WC.cond U (fun b7=>?_)<|fun b7=>?_
  ·replace h:=yr h b7
   refine WC.skip<|Lb ?_
   obtain⟨cy,cz,h⟩:=yeR h
   refine WC.ybx (fun(aJ:List (List z6)) (bk:Int) (bl:Int) (bm:List (Int×List Int)) (bn:List (zP×z2)) (bo:Zp) (bC:Option Addr) (bD:Nat) (bE:List Value) (bp:List (Int×((Nat×(Option Addr×Nat))×List Int)))=>(cy aJ bk bl bm bn=some r)/\(Zle (Z++B) (Z++bo))/\(RR 1 (y29 (Z++bo)) bE aJ)/\(dat bp=bm)) (fun aJ bk bl bm bn bo bC bD bE bp=>[(0,(vp m)),(3,(vp p)),(6,(vs bC aJ.length bD)),(7,vn),(8,(.map<|some aa)),(9,(vi bk)),(24,C),(25,(vi (T.length:Int))),(26,(vi o))]) (fun aJ bk bl bm bn bo bC bD bE bp=>[fz bo,row (vs bC aJ.length bD) 227 1 bE,stb m 119 [H,F,I,J,D,K,L,G,C,(.map<|some g),(.map<|some n),(vi bl)],stb p 121 N,yn aa (Value.int .i64) slv (y2O bp),y2n (y2d 3 1 e3) bp,yn g (fun x=>Value.agg (y2P x).toArray) (fun x=>Value.agg (yx x).toArray) bn,yn n (fun x=>Value.agg (yE x).toArray) (Value.int .i64) t]) ?_ ?_
   ·skip
    refine WC.block<|WC.b ?_
    obtain⟨cA,h⟩:=yo h
    refine Ld<|La U<|L0 (dd:=29) U U (Z:=(Z++B)) (Pr:=(p58 (Z++B))) y8Y U U ((aR.mono<|(Zle.left _ _).trans a).weak (fun _ _ h=>y22 ((Zle.left _ _).trans a) h)) cA ?_
    rintro dJ dK cB dL ⟨dM,dN,rfl,ck⟩
    refine Le 30 (yc y7g U<|y3x (hz.pv2 .here) cB U)<|La U<|La U<|WL.nil<|Lb<|WC.b<|WC.b ?_
    obtain⟨ec,cC,h⟩:=za h
    refine Ld<|La U<|Le 32 (y15<|L2 (l:=[.tmp 3])<|.cons U .nil)<|Ll 33 (zb call75<|.r2 U U) .nil (yaQ hz .nil .here (.cons .h3 .nil) fun w pz ho la=>y70 _ _ _ (zif:=117) (zpl:=[(vp p)]) _ (zie:=(fun(y0:ze)=>y4r y0 y)) _ cC w pz (ck.mono<|Zle.left _ _) call117<|fun w' hz' y0  r  hr=>ybV hr w' hz'<|(la _ (.head _) _).stb)<|La U<|WL.nil<|Lb<|WC.cond U (fun b8=>?_)<|fun b8=>?_
    ·replace h:=yr h b8
     refine WC.exit<|Lm<|Lw ?_
     exact Ln ⟨ae,az,aI,ab,aq,B,aA,aB,ar,ao⟩ ⟨h,(Zle.refl _),bY,bQ⟩ (.r9 U U U U U U U U U)<|.a8
    ·replace h:=ys h b8
     refine WC.skip<|Lb<|WC.b ?_
     obtain⟨cD,h⟩:=yo h
     refine Ld<|La U<|La U<|Le 37 (y1d U)<|Le 38 (ya y6o U U)<|Le 39 (ya y7U U U)<|Le 40 (yc y7V U<|yh .h2 U)<|La U<|L0 (dd:=42) U U (Z:=(Z++B)) (Pr:=(p69 (Z++B))) y9U U U ((ay.mono<|(Zle.left _ _).trans a).weak (fun _ _ h=>y1k ((Zle.left _ _).trans a) h)) cD ?_
     rintro dO dP cE dQ ⟨dR,dS,rfl,dT⟩
     refine Le 43 (ya y7W U U)<|Le 44 (yc yq U<|y1b (hz.pv2 .here) cE U)<|Le 45 (yce U U U)<|La U<|WL.nil<|Lb<|WC.b ?_
     obtain⟨cF,h⟩:=yo h
     obtain⟨ah,cG,h⟩:=za h
     refine Ld<|La U<|Le 47 (y1d U)<|Le 48 (ya y6o U U)<|Le 49 (ya y7U U U)<|Le 50 (yc y7V U<|yh .h2 U)<|La U<|L0 (dd:=52) U U (Z:=(Z++B)) (Pr:=(p69 (Z++B))) y9U U U ((ay.mono<|(Zle.left _ _).trans a).weak (fun _ _ h=>y1k ((Zle.left _ _).trans a) h)) cF ?_
     rintro dU dV cH dW ⟨dX,dY,rfl,dZ⟩
     refine Le 53 (ya y7W U U)<|Le 54 (yc yq U<|y1b (hz.pv2 .here) cH U)<|Ll 55 (zb call80<|.cons U .nil) .nil (ccz hz .nil .here fun w pz ho=>y5w cG w pz ) (Lg 12 (yu (cs:=[(vi 0),(vi 0)]) zX U) fun bZ _=>Lk U U (yl zy U U U .here U U U)<|WL.nil<|Lb ?_)
     obtain⟨cI,cJ,h⟩:=yeR h
     refine WC.ybx (fun(aK:List (List z6)) (bq:Int) (br:List (Int×List Int)) (aS:Int) (aT:Int) (bs:Zp) (bF:Option Addr) (bG:Nat) (bH:List Value) (bt:List (Int×((Nat×(Option Addr×Nat))×List Int)))=>(cI aK bq br aS aT=some r)/\(Zle (Z++B) (Z++bs))/\(RR 1 (y29 (Z++bs)) bH aK)/\(dat bt=br)) (fun aK bq br aS aT bs bF bG bH bt=>[(0,(vp m)),(3,(vp p)),(6,(vs bF aK.length bG)),(7,vn),(8,(.map<|some aa)),(9,(vi<|max az<|(nth f.fVLs o).fMax)),(10,(vi o)),(12,(vp bZ)),(24,C),(25,(vi (T.length:Int))),(26,(vi o))]) (fun aK bq br aS aT bs bF bG bH bt=>[fz bs,row (vs bF aK.length bG) 227 1 bH,stb m 119 [H,F,I,J,D,K,L,G,C,(.map<|some g),(.map<|some n),(vi bq)],stb p 121 N,yn aa (Value.int .i64) slv (y2O bt),y2n (y2d 3 1 e3) bt,stb bZ 175 [(vi aS),(vi aT)],yn g (fun x=>Value.agg (y2P x).toArray) (fun x=>Value.agg (yx x).toArray) aq,yn n (fun x=>Value.agg (yE x).toArray) (Value.int .i64) t]) ?_ ?_
     ·skip
      refine WC.b ?_
      obtain⟨V,cK,h⟩:=za h
      refine Ld<|La U<|Le 58 (ya y9t U U)<|Le 59 (yc yq U<|yh .h4 U)<|Ll 60 (zb call77<|.r2 U U) .nil (ccz hz .nil .h1 fun w pz ho=>yaT cK w pz ck)<|La U<|La U<|La U (Lg 13 (yu (cs:=[(vi 0),(vi 0),(vi 0)]) y6Y U) fun b9 _=>Lk U U (yl y7h U U U .here U U U)<|La U<|WL.nil<|Lb<|WC.b<|Ld<|La U<|WL.nil<|Lb<|WC.cond U (fun ca=>?_)<|fun ca=>?_)
      ·replace h:=yr h ca
       refine WC.b ?_
       obtain⟨bR,cL,h⟩:=za h
       obtain⟨ed,cM,h⟩:=za h
       obtain⟨cN,cO,h⟩:=za h
       obtain⟨ee,cP,h⟩:=za h
       obtain⟨ef,cQ,h⟩:=za h
       obtain⟨bI,cR,h⟩:=za h
       let S:List Value:=[(vi V.1.fNode),(vi V.1.fNext),(vi V.1.fQ)];refine Lx (fun i=>[13,22,23,24].contains i) [y8a m 119 [(9,(.map (some g))),(10,(.map (some n)))],yfq g (fun x=>Value.agg (y2P x).toArray) (fun x=>Value.agg (yx x).toArray) (⟨o,bR⟩:zP) ((⟨0,0⟩:z2):z2) (yd aq (⟨o,bR⟩:zP) (⟨0,0⟩:z2)),stb b9 60 S] U (Lf 0 64 U (fun _=>q_m U) (Lf 1 65 U (fun _=>q_m U) (Lf 2 66 U (fun _=>y1d U) (Lf 3 67 U (fun _=>ya yeX U U) (L6 4 68 U (Sin.wk (.s3 .h4 .h7 .here) (.stb (.cons U (.cons U .nil)) (.any U (fun _ h=>y7E h) (.same .nil)))) (yc zsA U (y62 .here (.head _))) (Lf 5 69 U (fun _=>q_m U) (Li 6 70 U (yi y49 U (yj .here) U) (L4 7 71 U (zb call60 (.cons U .nil)) (ccz hz .nil .h2 fun w pz ho=>y6d cL w pz ) (Lf 8 72 U (fun _=>yN (v:=(.agg #[(vi o),(vi bR.fNode),(vi bR.fQ)])) (Lo (l:=[.tmp 69,.tmp 71]) (.r2 U U) [0,1]) (fun _=>by kernel_rfl)) (L6 9 73 U (Sin.wk (.s3 .h4 .h7 .here) (.stb (.cons U (.cons U .nil)) (.any U (fun _ h=>y7E h) (.same .nil)))) (ygP (k:=(⟨o,bR⟩:zP)) (dflt:=((⟨0,0⟩:z2):z2)) zsC underlying116 zX U U U .h1) (Lf 10 74 U (fun _=>q_m U) (Lf 11 75 U (fun _=>q_m U) (Lf 12 76 U (fun _=>q_m U) (Lf 14 78 U (fun _=>q_m U) (Lf 15 79 U (fun _=>y1d U) (Lf 16 80 U (fun _=>ya yeY U U) (L6 17 81 U (Sin.wk (.s3 .h4 .h7 .here) (.stb (.cons U (.cons U .nil)) (.any U (fun _ h=>y7E h) (.same .nil)))) (yc zl6 U (y62 .here (.tail _ (.head _)))) (L6 18 82 U (Sin.wk (.s3 .h4 .h7 .here) (.stb (.cons U (.cons U .nil)) (.any U (fun _ h=>y7E h) (.same .nil)))) (yi y49 U (yj .h2) U) (Ka (i:=13) (dd:=77) U (by kernel_rfl) U U U (.inl ⟨U,(by exact(Sin.wk (.s3 .h6 .here .h1) (.stb (.cons U (.cons U .nil)) (.any U (fun _ h=>y7E h) (.same .nil)))))⟩) (zb call121 (.r2 U U)) (.s2 (.there .h7) (.there .h7)) (yaQ hz (.s2 (.there .h7) (.there .h7)) .h2 (.cons .h4 .nil) fun w pz ho la=>Calls.mono (y8c cM w pz ((((bd.mono ((Zle.left _ _).trans a)).weak (fun _ _ h=>y1p ((Zle.left _ _).trans a) h)).mono (Zle.left _ _)).weak (fun _ _ h=>y1p (Zle.left _ _) h)) ((((be.mono ((Zle.left _ _).trans a)).weak (fun _ _ h=>y1A ((Zle.left _ _).trans a) h)).mono (Zle.left _ _)).weak (fun _ _ h=>y1A (Zle.left _ _) h)) ((bf.mono ((Zle.left _ _).trans a)).mono (Zle.left _ _)) ((aQ.mono ((Zle.left _ _).trans a)).mono (Zle.left _ _)) ((((ay.mono ((Zle.left _ _).trans a)).weak (fun _ _ h=>y1k ((Zle.left _ _).trans a) h)).mono (Zle.left _ _)).weak (fun _ _ h=>y1k (Zle.left _ _) h)) ((bg.mono ((Zle.left _ _).trans a)).mono (Zle.left _ _)) ((((bh.mono ((Zle.left _ _).trans a)).weak (fun _ _ h=>y1B ((Zle.left _ _).trans a) h)).mono (Zle.left _ _)).weak (fun _ _ h=>y1B (Zle.left _ _) h)) ((bi.mono ((Zle.left _ _).trans a)).mono (Zle.left _ _)) ((((aR.mono ((Zle.left _ _).trans a)).weak (fun _ _ h=>y22 ((Zle.left _ _).trans a) h)).mono (Zle.left _ _)).weak (fun _ _ h=>y22 (Zle.left _ _) h)) ((la _ (.head _) _).stb) ho) (fun _ _ h'=>⟨h'.1,trivial,h'.2⟩)) ?_)))))))))))))))))))
       intro _
       refine L4 19 83 U (zb call60<|.cons U .nil) (ccz hz .nil .h4 fun w pz ho=>y6d cO w pz )<|Li 20 84 U (y2V (k:=cN) (dflt:=(0:Int)) zd9 underlying117 y2K U U U .h1)<|L4 21 85 U (zb call80<|.cons U .nil) (ccz hz .nil .h4 fun w pz ho=>y5w cP w pz ) (Ka (i:=22) (dd:=86) U (by kernel_rfl) U U U (.inl ⟨U,(by exact(Sin.wk (.s3 .here .here .h1)<|.stb (.cons U<|.cons U .nil)<|.any U (fun _ h=>y7E h)<|.same .nil))⟩) (zb call118<|.r4 U U U U) (.s3 .h6 .here .here) (ccz hz (.s3 .h6 .here .here) .h2 fun w pz ho=>Calls.mono (y7s _ _ _ _ _ _ _ _ _ _ _ _ _ _ _ _ _ _ _ _ _ _ (zbu:=120) (zfM:=[]) _ _ _ _ _ (zdy:=(fun(y0:z2) (y1:z2)=>y3J y0 y1)) _ _ _ cQ w pz ((bd.mono<|(Zle.left _ _).trans a).weak (fun _ _ h=>y1p ((Zle.left _ _).trans a) h)) ((be.mono<|(Zle.left _ _).trans a).weak (fun _ _ h=>y1A ((Zle.left _ _).trans a) h)) (bf.mono<|(Zle.left _ _).trans a) (aQ.mono<|(Zle.left _ _).trans a) ((ay.mono<|(Zle.left _ _).trans a).weak (fun _ _ h=>y1k ((Zle.left _ _).trans a) h)) (bg.mono<|(Zle.left _ _).trans a) ((bh.mono<|(Zle.left _ _).trans a).weak (fun _ _ h=>y1B ((Zle.left _ _).trans a) h)) (bi.mono<|(Zle.left _ _).trans a) ((aR.mono<|(Zle.left _ _).trans a).weak (fun _ _ h=>y22 ((Zle.left _ _).trans a) h)) call120 (fun w' hz' y0 y1  r  hr=>ydp hr w' hz' ) ho)<|fun _ _ h'=>⟨h'.1,trivial,h'.2⟩) fun _=>Ka (i:=23) (dd:=87) U (by kernel_rfl) U U U (.inl ⟨U,(by exact(Sin.wk (.s3 .here .here .h1)<|.stb (.cons U<|.cons U .nil)<|.any U (fun _ h=>y7E h)<|.same .nil))⟩) (zb call118<|.r4 U U U U) (.a3) (ccz hz (.a3) .h2 fun w pz ho=>Calls.mono (y7s _ _ _ _ _ _ _ _ _ _ _ _ _ _ _ _ _ _ _ _ _ _ (zbu:=119) (zfM:=[]) _ _ _ _ _ (zdy:=(fun(y0:z2) (y1:z2)=>y1q y0 y1)) _ _ _ cR w pz ((bd.mono<|(Zle.left _ _).trans a).weak (fun _ _ h=>y1p ((Zle.left _ _).trans a) h)) ((be.mono<|(Zle.left _ _).trans a).weak (fun _ _ h=>y1A ((Zle.left _ _).trans a) h)) (bf.mono<|(Zle.left _ _).trans a) (aQ.mono<|(Zle.left _ _).trans a) ((ay.mono<|(Zle.left _ _).trans a).weak (fun _ _ h=>y1k ((Zle.left _ _).trans a) h)) (bg.mono<|(Zle.left _ _).trans a) ((bh.mono<|(Zle.left _ _).trans a).weak (fun _ _ h=>y1B ((Zle.left _ _).trans a) h)) (bi.mono<|(Zle.left _ _).trans a) ((aR.mono<|(Zle.left _ _).trans a).weak (fun _ _ h=>y22 ((Zle.left _ _).trans a) h)) call119 (fun w' hz' y0 y1  r  hr=>y6U hr w' hz' ) ho)<|fun _ _ h'=>⟨h'.1,trivial,h'.2⟩) ?_)
       intro _
       refine Kc (i:=24) U (by kernel_rfl) U U U (by kernel_rfl) (yl zy U U U .h4 U U U)<|WD.done (by kernel_rfl)<|Lb ?_
       obtain⟨cS,h⟩:=yo h
       refine Lx (fun i=>[9,10].contains i) [y8a b9 60 [(2,(vi V.1.fQ))]] U<|Lf 0 88 U (fun _=>q_m U)<|Lf 1 89 U (fun _=>ya y8H U U)<|L6 2 90 U (Sin.wk (.cons .h4 .nil)<|.stb (.cons U .nil) .nil) (yc yq U<|y62 .here<|.head _)<|Lf 3 91 U (fun _=>q_m U)<|Lf 4 92 U (fun _=>ya y8H U U)<|Li 5 93 U (yc yq U<|yh .h4 U)<|Li 6 94 U (y2V (k:=V.1.fQ) (dflt:=(((none,0),[]):(Option Addr×Nat)×List Int)) y3V underlying219 yeZ U U U<|.there .h7)<|WD.gh (fun _ h=>Hp.ybo V.1.fQ bQ (.there<|.there .h7) h) ?_
       rintro⟨cT,cU⟩ cV
       refine WD.repin (i:=94) U (u:=(vs cT ((yd ab V.1.fQ []).length) cU)) (congrArg slv cV)<|Lf 7 95 U (fun _=>q_m U) (WD.new (i:=8) (dd:=96) U (by kernel_rfl) U U U (yT (cs:=([o]:List Int).flatMap e3) y6a (Lo (l:=[.tmp 95]) (.cons U .nil) [0]) (fun _=>by kernel_rfl) U (by unfold maxLen;omega)) (fun h'=>absurd h' (by decide)) fun cW _=>WD.old (i:=9) (dd:=97) U (by kernel_rfl) U U U U (fun _=>(Sin.wk (.cons .h7 .nil)<|.stb (.cons U .nil) .nil)) (y4W (enc:=e3) (l1:=yd ab V.1.fQ []) (l2:=([o]:List Int)) y6a U U .h1 (fun _=>U) U U (y3q .here) (y5i e3_oc _) cS) ?_)
       rintro⟨b0,b1⟩ _
       refine Kc (i:=10) U (by kernel_rfl) U U U (by kernel_rfl) (y3P (k:=V.1.fQ) (v:=(((b0,b1),(yd ab V.1.fQ [])++([o]:List Int)):(Option Addr×Nat)×List Int)) y3V underlying219 U U U U<|.there<|.there<|.there<|.there .h7)<|WD.ghL (fun _ h=>Hp.yfs (k:=V.1.fQ) (.s2 .h1 .h2) h)<|WD.ghL (M:=[yn aa (Value.int .i64) slv (y2O<|yC ao V.1.fQ ((0,(b0,b1)),(yd ab V.1.fQ [])++([o]:List Int))),y2n (y2d 3 1 e3) (yC ao V.1.fQ ((0,(b0,b1)),(yd ab V.1.fQ [])++([o]:List Int))),row (vs (some ⟨cW,0,none⟩) (([o]:List Int).length) 1) 3 1 (([o]:List Int).flatMap e3),stb bZ 175 [(vi bI.1.fN),(vi bI.1.fD)],stb m 119 [H,F,I,J,D,K,L,G,C,(.map<|some g),(.map<|some n),(vi bI.2)],yn g (fun x=>Value.agg (y2P x).toArray) (fun x=>Value.agg (yx x).toArray) aq,yn n (fun x=>Value.agg (yE x).toArray) (Value.int .i64) t,stb b9 60 S,fz B,row (vs aA ae.length aB) 227 1 ar,stb p 121 N]) (fun _ h=>Hp.yhx .h1 (ydm _ _ _ _).symm h)<|WD.done (by kernel_rfl) ?_
       exact Ln ⟨ae,bI.2,(yC ab V.1.fQ ((yd ab V.1.fQ [])++([o]:List Int))),bI.1.fN,bI.1.fD,B,aA,aB,ar,(yC ao V.1.fQ ((0,(b0,b1)),(yd ab V.1.fQ [])++([o]:List Int)))⟩ ⟨h,(Zle.refl _),bY,(yhw bQ _ _ _)⟩ (.r11 U U U U U U U U U U U)<|.s9 (.there .h7) (.there .h7) .h4 .h7 .here .here .h1 .h1 .h1
      ·replace h:=ys h ca
       obtain⟨aC,cX,h⟩:=za h
       obtain⟨cY,h⟩:=yo h
       refine Lx (fun i=>[4,8].contains i) [stb bZ 175 [(vi ah.fN),(vi ah.fD)]] U<|Lf 0 98 U (fun _=>q_m U)<|L6 1 99 U (Sin.of<|.cons .h1 .nil) (yi zg U (yj .here) U)<|Lf 2 100 U (fun _=>q_m U)<|Lf 3 101 U (fun _=>q_m U) (Ka (i:=4) (dd:=102) U (by kernel_rfl) U U U (.inl ⟨U,(Sin.of<|.cons .h3 .nil)⟩) (zb call121<|.r2 U U) (.s2 (.there .h7)<|.there .h7) (yaQ hz (.s2 (.there .h7)<|.there .h7) .h2 (.cons .h4 .nil) fun w pz ho la=>Calls.mono (y8c cX w pz ((((bd.mono<|(Zle.left _ _).trans a).weak (fun _ _ h=>y1p ((Zle.left _ _).trans a) h)).mono (Zle.left _ _)).weak (fun _ _ h=>y1p (Zle.left _ _) h)) ((((be.mono<|(Zle.left _ _).trans a).weak (fun _ _ h=>y1A ((Zle.left _ _).trans a) h)).mono (Zle.left _ _)).weak (fun _ _ h=>y1A (Zle.left _ _) h)) ((bf.mono<|(Zle.left _ _).trans a).mono (Zle.left _ _)) ((aQ.mono<|(Zle.left _ _).trans a).mono (Zle.left _ _)) ((((ay.mono<|(Zle.left _ _).trans a).weak (fun _ _ h=>y1k ((Zle.left _ _).trans a) h)).mono (Zle.left _ _)).weak (fun _ _ h=>y1k (Zle.left _ _) h)) ((bg.mono<|(Zle.left _ _).trans a).mono (Zle.left _ _)) ((((bh.mono<|(Zle.left _ _).trans a).weak (fun _ _ h=>y1B ((Zle.left _ _).trans a) h)).mono (Zle.left _ _)).weak (fun _ _ h=>y1B (Zle.left _ _) h)) ((bi.mono<|(Zle.left _ _).trans a).mono (Zle.left _ _)) ((((aR.mono<|(Zle.left _ _).trans a).weak (fun _ _ h=>y22 ((Zle.left _ _).trans a) h)).mono (Zle.left _ _)).weak (fun _ _ h=>y22 (Zle.left _ _) h)) ((la _ (.head _) _).stb) ho)<|fun _ _ h'=>⟨h'.1,trivial,h'.2⟩) fun _=>Lf 5 103 U (fun _=>yN (v:=(.agg #[(vi ah.fN),(vi ah.fD),(vi aC.fN),(vi aC.fD)])) (Lo (l:=[.tmp 99,.tmp 102]) (.r2 U U) [0,1]) (fun _=>by kernel_rfl)) (WD.new (i:=6) (dd:=104) U (by kernel_rfl) U U U (yT (cs:=([(⟨ah,aC⟩:z6)]:List z6).flatMap y1O) z7A (Lo (l:=[.tmp 103]) (.cons U .nil) [0]) (fun _=>by kernel_rfl) U (by unfold maxLen;omega)) (fun h'=>absurd h' (by decide)) fun cl _=>WD.freezeS (ls:=([(⟨ah,aC⟩:z6)]:List z6)) .here .h4 hz (RR.flat (enc:=y1O) (fun _=>U) _) ?_))
       intro b2 cm cZ
       let E:List Value:=[(vs (some ⟨cl,0,none⟩) (([(⟨ah,aC⟩:z6)]:List z6).length) 1)];have cn:RR 1 (y29 (Z++b2)) E ([([(⟨ah,aC⟩:z6)]:List z6)]:List (List z6)):=(RR.cons (r:=E) U (show y29 _ _ _ from⟨_,_,U,cZ⟩) (RR.nil _ _))
       refine WD.new (i:=7) (dd:=105) U (by kernel_rfl) U U U (yT (cs:=[(vs (some ⟨cl,0,none⟩) (([(⟨ah,aC⟩:z6)]:List z6).length) 1)]) z8T (Lo (l:=[.tmp 104]) (.cons U .nil) [0]) (fun _=>by kernel_rfl) U (by unfold maxLen;omega)) (fun h'=>absurd h' (by decide)) ?_
       intro d0 _
       have c0:RR 1 (y29 (Z++b2)) (ar++E) (ae++([([(⟨ah,aC⟩:z6)]:List z6)]:List (List z6))):=RR.app (bY.weak (fun _ _ h=>y3G cm h)) cn
       refine WD.old (i:=8) (dd:=106) U (by kernel_rfl) U U U U (fun _=>(Sin.of<|.cons .h6 .nil)) (y8F (l1:=ae) (l2:=([([(⟨ah,aC⟩:z6)]:List z6)]:List (List z6))) (news:=E) (Pr:=(y29 (Z++b2))) z8T U U .h6 cn (y3q .here) (ybJ U yd8) cY) ?_
       rintro⟨c1,c2⟩ _
       refine Lf 9 6 U (fun _=>q_z U)<|WD.done (by kernel_rfl) ?_
       exact Ln ⟨(ae++([([(⟨ah,aC⟩:z6)]:List z6)]:List (List z6))),aI,ab,ah.fN,ah.fD,b2,c1,c2,(ar++E),ao⟩ ⟨h,cm,c0,bQ⟩ (.r11 U U U U U U U U U U U)<|.s9 .h2 .here .h5 .h5 .h5 .h5 .h4 .h1 .h1
     ·rintro aK bq br aS aT bs bF bG bH bt ⟨h,c3,c4,c5⟩
      replace h:=(cJ aK bq br aS aT).symm.trans h
      refine Lx (fun i=>[8].contains i) [] U<|Lf 0 107 U (fun _=>q_m U)<|Lf 1 108 U (fun _=>y1d U)<|Lf 2 109 U (fun _=>ya yeX U U)<|Li 3 110 U (yc zsA U<|yh .h2 U)<|Lf 4 111 U (fun _=>q_m U)<|Li 5 112 U (yi z5o U (yj .h3) U)<|Lf 6 113 U (fun _=>yN (v:=(.agg #[(vi o),(vi y.fNode),(vi y.fQ)])) (Lo (l:=[.tmp 111,.tmp 112]) (.r2 U U) [0,1]) (fun _=>by kernel_rfl))<|Li 7 114 U (yi zg U (yj .h6) U)<|Kc (i:=8) U (by kernel_rfl) U U U (by kernel_rfl) (y3P (k:=(⟨o,y⟩:zP)) (v:=(⟨aS,aT⟩:z2)) zsC underlying116 U U U U .h7)<|WD.done (by kernel_rfl)<|Lq ?_
      exact Ln ⟨aK,(max az<|(nth f.fVLs o).fMax),bq,br,(yC aq (⟨o,y⟩:zP) (⟨aS,aT⟩:z2)),bs,bF,bG,bH,bt⟩ ⟨h,c3,c4,c5⟩ (.r9 U U U U U U U U U)<|.s8 .h1 .h1 .h1 .h1 .h1 .h1 .here .h1
   ·rintro aJ bk bl bm bn bo bC bD bE bp ⟨h,c6,c7,c8⟩
    replace h:=(cz aJ bk bl bm bn).symm.trans h
    refine Ld<|La U<|La U<|WL.nil ?_
    exact WX.round ⟨cx,aJ,bk,(i64 (o+1)),bl,bm,bn,bo,bC,bD,bE,bp⟩ ⟨h,(a.trans c6),c7,c8⟩ (Nat.lt_succ_self _) (.r9 U U U U U U U U U)<|.a8
  ·replace h:=ys h b7
   refine WC.exit<|Lm<|Lm<|Lw ?_
   exact Ln ⟨ae,az,aI,ab,aq,B,aA,aB,ar,ao⟩ ⟨h,a,bY,bQ⟩ (.r6 U U U U U U)<|.a8
 ·rintro av aw bj ad an aH bz bA ap ag ⟨h,c,c9,b3⟩
  replace h:=(cw av aw bj ad an).symm.trans h
  obtain⟨co,da,h⟩:=y52 h
  let O:Value:=(vs bz av.length bA);refine WC.ycf (fun(aD:List (List z6)) (bJ:Int) (aL:Zp) (bS:Option Addr) (bT:Nat) (aU:List Value)=>(co aD bJ=some r)/\(Zle (Z++aH) (Z++aL))/\(RR 1 (y29 (Z++aL)) aU aD)) (fun aD bJ aL bS bT aU=>[(6,O),(7,(vs bS aD.length bT)),(9,(vi aw))]) (fun aD bJ aL bS bT aU=>[fz aL,row O 227 1 ap,row (vs bS aD.length bT) 227 1 aU,stb m 119 [H,F,I,J,D,K,L,G,C,(.map (some g)),(.map (some n)),(vi bJ)],yn g (fun x=>Value.agg (y2P x).toArray) (fun x=>Value.agg (yx x).toArray) an,yn n (fun x=>Value.agg (yE x).toArray) (Value.int .i64) t]) ?_ ?_
  ·skip
   let P:Value:=(vi (f.fK.length:Int));refine WC.b (Ld (La U (Le 117 (y1d U) (Le 118 (ya y6o U U) (Le 119 (ya y7S U U) (Le 120 (yc y7T U (yh .h2 U)) (Le 121 (yJ underlying25 U) (La U (WL.nil (Lb (WC.block (WC.nilRow 227 1 (WC.yaO (fun(bK:Nat) (ai:List (List z6)) (d:Int) (aM:Int) (af:Zp) (aN:Option Addr) (aO:Nat) (au:List Value)=>(y2Z f ad T an t y co bK ai d aM=some r)/\(Zle (Z++aH) (Z++af))/\(RR 1 (y29 (Z++af)) au ai)) (fun bK ai d aM af aN aO au=>[(0,(vp m)),(3,(vp p)),(6,O),(7,(vs aN ai.length aO)),(8,(.map (some aa))),(9,(vi aw)),(121,P),(122,(vi d))]) (fun bK ai d aM af aN aO au=>[fz af,row O 227 1 ap,row (vs aN ai.length aO) 227 1 au,stb m 119 [H,F,I,J,D,K,L,G,C,(.map (some g)),(.map (some n)),(vi aM)],stb p 121 N,yn aa (Value.int .i64) slv (y2O ag),y2n (y2d 3 1 e3) ag,yn g (fun x=>Value.agg (y2P x).toArray) (fun x=>Value.agg (yx x).toArray) an,yn n (fun x=>Value.agg (yE x).toArray) (Value.int .i64) t]) (fun bK ai d aM af aN aO au=>bK) ⟨yy,([]:List (List z6)),0,bj,aH,none,0,[]⟩ ⟨h,(Zle.refl _),(RR.nil _ _)⟩ (.r8 U U U U U U U U) (.s9 .h1 .h1 .here .here .here .here .here .here .here) ?_)))))))))))))
   rintro bK ai d aM af aN aO au ⟨h,b,cb⟩
   obtain⟨db,rfl⟩:=y9Z h
   rw[y2Z] at h
   refine WC.b<|Ld<|La U<|WL.nil<|Lb<|WC.b<|WC.cond U (fun cc=>?_)<|fun cc=>?_
   ·replace h:=yr h cc
    refine WC.skip<|Lb ?_
    obtain⟨dc,de,h⟩:=y52 h
    refine WC.ycf (fun(aP:List (List z6)) (bu:Int) (bv:Zp) (bL:Option Addr) (bM:Nat) (bN:List Value)=>(dc aP bu=some r)/\(Zle (Z++af) (Z++bv))/\(RR 1 (y29 (Z++bv)) bN aP)) (fun aP bu bv bL bM bN=>[(0,(vp m)),(3,(vp p)),(6,O),(7,(vs bL aP.length bM)),(8,(.map<|some aa)),(9,(vi aw)),(121,P),(122,(vi d))]) (fun aP bu bv bL bM bN=>[fz bv,row O 227 1 ap,row (vs bL aP.length bM) 227 1 bN,stb m 119 [H,F,I,J,D,K,L,G,C,(.map<|some g),(.map<|some n),(vi bu)],stb p 121 N,yn aa (Value.int .i64) slv (y2O ag),y2n (y2d 3 1 e3) ag,yn g (fun x=>Value.agg (y2P x).toArray) (fun x=>Value.agg (yx x).toArray) an,yn n (fun x=>Value.agg (yE x).toArray) (Value.int .i64) t]) ?_ ?_
    ·skip
     refine WC.block<|WC.b<|Ld<|La U<|La U<|WL.nil<|Lb<|WC.b<|WC.b<|Ld<|La U<|La U<|Le 127 (y2V (k:=d) (dflt:=(((none,0),[]):(Option Addr×Nat)×List Int)) y3V underlying219 yeZ U U U .h5)<|WL.gh (fun _ h=>Hp.ybo d b3 .h6 h) ?_
     rintro⟨df,dg⟩ cp
     refine Kh (i:=127) U (u:=(vs df ((yd ad d []).length) dg)) (congrArg slv cp)<|Le 128 (yJ underlying50 U)<|La U<|WL.ghL (fun _ h=>Hp.ygQ b3 cp (.a2) h)<|WL.nil<|Lb<|WC.cond U (fun cd=>?_)<|fun cd=>?_
     ·replace h:=yr h cd
      refine WC.exit<|Lm<|Lw ?_
      exact Ln ⟨ai,aM,af,aN,aO,au⟩ ⟨h,(Zle.refl _),cb⟩ (.r8 U U U U U U U U)<|.s9 .h1 .h1 .h1 .h1 .h1 .h1 .here .here .here
     ·replace h:=ys h cd
      refine WC.skip<|Lb<|WC.b ?_
      obtain⟨b4,dh,h⟩:=za h
      obtain⟨b5,di,h⟩:=za h
      refine Ld<|Ll 130 (zb call80<|.cons U .nil) .nil (ccz hz .nil .h1 fun w pz ho=>y5w dh w pz )<|Ll 131 (zb call80<|.cons U .nil) .nil (ccz hz .nil .h1 fun w pz ho=>y5w di w pz )<|Le 132 (yN (v:=(.agg #[(vi b4.fN),(vi b4.fD),(vi b5.fN),(vi b5.fD)])) (Lo (l:=[.tmp 130,.tmp 131]) (.r2 U U) [0,1]) (fun _=>by kernel_rfl)) (Lg 16 (yu (cs:=[(vi 0),(vi 0),(vi 0),(vi 0)]) zaX U) fun bU _=>Lk U U (yl z9C U U U .here U U U)<|WL.nil<|Lb<|WC.b<|Ld<|La U<|WL.nil<|Lb ?_)
      obtain⟨cq,dj,h⟩:=jp6_elim h
      let Q:Value:=(vs aN ai.length aO);refine WC.ycf (fun(bO:Int) (bw:Int) (aj:Int) (ak:Int) (al:Int) (am:Int)=>(cq bO bw aj ak al am=some r)) (fun bO bw aj ak al am=>[(0,(vp m)),(3,(vp p)),(6,O),(7,Q),(8,(.map (some aa))),(9,(vi aw)),(15,(vi d)),(16,(vp bU)),(17,(vi bO)),(121,P),(122,(vi d))]) (fun bO bw aj ak al am=>[fz af,row O 227 1 ap,row Q 227 1 au,stb m 119 [H,F,I,J,D,K,L,G,C,(.map (some g)),(.map (some n)),(vi bw)],stb p 121 N,yn aa (Value.int .i64) slv (y2O ag),y2n (y2d 3 1 e3) ag,stb bU 225 [(vi aj),(vi ak),(vi al),(vi am)],yn g (fun x=>Value.agg (y2P x).toArray) (fun x=>Value.agg (yx x).toArray) an,yn n (fun x=>Value.agg (yE x).toArray) (Value.int .i64) t]) ?_ ?_
      ·skip
       refine WC.b<|Ld<|La U<|La U<|Le 135 (y2V (k:=d) (dflt:=(((none,0),[]):(Option Addr×Nat)×List Int)) y3V underlying219 yeZ U U U .h7)<|WL.gh (fun _ h=>Hp.ybo d b3 .h1 h) ?_
       rintro⟨dk,dl⟩ cr
       let R:Value:=(vs dk ((yd ad d []).length) dl);refine Kh (i:=135) U (u:=R) (congrArg slv cr) (Le 136 (yJ underlying50 U) (La U (WL.nil (Lb (WC.block (WC.yaO (fun(bV:Nat) (aV:Int) (ax:Int) (bx:Int) (aW:Int) (aX:Int) (aE:Int) (aF:Int)=>(y2Y ad d f T an t y cq bV aV ax bx aW aX aE aF=some r)) (fun bV aV ax bx aW aX aE aF=>[(0,(vp m)),(3,(vp p)),(6,O),(7,Q),(8,(.map (some aa))),(9,(vi aw)),(15,(vi d)),(16,(vp bU)),(17,(vi aV)),(121,P),(122,(vi d)),(135,R),(136,(vi ((yd ad d []).length:Int))),(137,(vi ax))]) (fun bV aV ax bx aW aX aE aF=>[fz af,row O 227 1 ap,row Q 227 1 au,row R 3 1 ((yd ad d []).flatMap e3),stb m 119 [H,F,I,J,D,K,L,G,C,(.map (some g)),(.map (some n)),(vi bx)],stb p 121 N,yn aa (Value.int .i64) slv (y2O ag),y2n (y2d 3 1 e3) (y8b d ag),stb bU 225 [(vi aW),(vi aX),(vi aE),(vi aF)],yn g (fun x=>Value.agg (y2P x).toArray) (fun x=>Value.agg (yx x).toArray) an,yn n (fun x=>Value.agg (yE x).toArray) (Value.int .i64) t]) (fun bV aV ax bx aW aX aE aF=>bV) ⟨yy,0,0,aM,b4.fN,b4.fD,b5.fN,b5.fD⟩ h (.r14 U U U U U U U U U U U U U U) (.s11 .h3 .h3 .h3 .here .h2 .h2 .h2 .here .here .here .here) ?_))))))
       rintro(_|dm) aV ax bx aW aX aE aF h;·cases h
       rw[y2Y] at h
       refine WC.b<|Ld<|La U<|WL.nil<|Lb<|WC.b<|WC.cond U (fun ce=>?_)<|fun ce=>?_
       ·replace h:=yr h ce
        refine WC.skip<|Lb<|WC.b<|WC.block<|WC.b ?_
        obtain⟨bW,h⟩:=yo h
        refine Ld<|Kg (fun w hw=>Hp.y2c .h3 hw (by intro hz';have:=bW;rw[hz'] at this;omega)) ?_
        rintro⟨d1,rfl⟩
        refine Le 139 (y11 y6a U U bW.1 bW.2 y3g)<|Le 140 (yc yq U<|y8S .h3<|(y2y (enc:=e3) (l:=yd ad d []) (i:=ax) (sz:=1) (fun _=>U) bW.1 bW.2) 0 _ U)<|La U<|WL.nil<|Lb<|WC.b ?_
        obtain⟨bP,dn,h⟩:=za h
        obtain⟨eg,dp,h⟩:=za h
        obtain⟨bX,dq,h⟩:=za h
        refine Lx (fun i=>[11,17,18,20,22].contains i) [y8a bU 225 [(2,(vi aE)),(3,(vi aF))]] U<|Lf 0 141 U (fun _=>q_m U)<|Lf 1 142 U (fun _=>ya y5t U U)<|Li 2 143 U (yX (cs:=[(vi aW),(vi aX)]) zg U U<|y3w (s:=2) (.there .h7) U)<|Lf 3 144 U (fun _=>q_m U)<|Lf 4 145 U (fun _=>y1d U)<|Lf 5 146 U (fun _=>ya yeX U U)<|Li 6 147 U (yc zsA U<|yh .h4 U)<|Lf 7 148 U (fun _=>q_m U)<|Li 8 149 U (yi z5o U (yj .h5) U)<|Lf 9 150 U (fun _=>yN (v:=(.agg #[(vi<|nth (yd ad d []) ax),(vi y.fNode),(vi y.fQ)])) (Lo (l:=[.tmp 148,.tmp 149]) (.r2 U U) [0,1]) (fun _=>by kernel_rfl))<|Li 10 151 U (y2V (k:=(⟨(nth (yd ad d []) ax),y⟩:zP)) (dflt:=((⟨0,0⟩:z2):z2)) zsC underlying116 zX U U U<|.there<|.there .h7)<|Lf 12 153 U (fun _=>q_m U)<|Lf 13 154 U (fun _=>ya y6p U U)<|L6 14 155 U (Sin.wk (.cons (.there .h7) .nil)<|.stb (.cons U<|.cons U .nil) .nil) (yX (cs:=[(vi aE),(vi aF)]) zg U U<|ycp .here ((.head _))<|(.tail _<|.head _))<|Lf 15 156 U (fun _=>q_m U)<|Lf 16 157 U (fun _=>q_m U) (Ka (i:=11) (dd:=152) U (by kernel_rfl) U U U (.inl ⟨U,(Sin.wk (.cons (.there<|.there<|.there .h7) .nil)<|.stb (.cons U<|.cons U .nil) .nil)⟩) (zb call118<|.r4 U U U U) (.s3 .h4 (.there .h7)<|.there .h7) (ccz hz (.s3 .h4 (.there .h7)<|.there .h7) .here fun w pz ho=>Calls.mono (y7s _ _ _ _ _ _ _ _ _ _ _ _ _ _ _ _ _ _ _ _ _ _ (zbu:=119) (zfM:=[]) _ _ _ _ _ (zdy:=(fun(y0:z2) (y1:z2)=>y1q y0 y1)) _ _ _ dn w pz ((bd.mono<|(Zle.left _ _).trans (c.trans b)).weak (fun _ _ h=>y1p ((Zle.left _ _).trans (c.trans b)) h)) ((be.mono<|(Zle.left _ _).trans (c.trans b)).weak (fun _ _ h=>y1A ((Zle.left _ _).trans (c.trans b)) h)) (bf.mono<|(Zle.left _ _).trans (c.trans b)) (aQ.mono<|(Zle.left _ _).trans (c.trans b)) ((ay.mono<|(Zle.left _ _).trans (c.trans b)).weak (fun _ _ h=>y1k ((Zle.left _ _).trans (c.trans b)) h)) (bg.mono<|(Zle.left _ _).trans (c.trans b)) ((bh.mono<|(Zle.left _ _).trans (c.trans b)).weak (fun _ _ h=>y1B ((Zle.left _ _).trans (c.trans b)) h)) (bi.mono<|(Zle.left _ _).trans (c.trans b)) ((aR.mono<|(Zle.left _ _).trans (c.trans b)).weak (fun _ _ h=>y22 ((Zle.left _ _).trans (c.trans b)) h)) call119 (fun w' hz' y0 y1  r  hr=>y6U hr w' hz' ) ho)<|fun _ _ h'=>⟨h'.1,trivial,h'.2⟩) fun _=>Lf 19 160 U (fun _=>ya y5t U U)<|Ka (i:=17) (dd:=158) U (by kernel_rfl) U U U (.inl ⟨U,(Sin.wk (.cons (.there<|.there<|.there .h7) .nil)<|.stb (.cons U<|.cons U .nil) .nil)⟩) (zb call121<|.r2 U U) (.s2 .h1 .h1) (yaQ hz (.s2 .h1 .h1) .h1 (.cons .here .nil) fun w pz ho la=>Calls.mono (y8c dp w pz ((((bd.mono<|(Zle.left _ _).trans (c.trans b)).weak (fun _ _ h=>y1p ((Zle.left _ _).trans (c.trans b)) h)).mono (Zle.left _ _)).weak (fun _ _ h=>y1p (Zle.left _ _) h)) ((((be.mono<|(Zle.left _ _).trans (c.trans b)).weak (fun _ _ h=>y1A ((Zle.left _ _).trans (c.trans b)) h)).mono (Zle.left _ _)).weak (fun _ _ h=>y1A (Zle.left _ _) h)) ((bf.mono<|(Zle.left _ _).trans (c.trans b)).mono (Zle.left _ _)) ((aQ.mono<|(Zle.left _ _).trans (c.trans b)).mono (Zle.left _ _)) ((((ay.mono<|(Zle.left _ _).trans (c.trans b)).weak (fun _ _ h=>y1k ((Zle.left _ _).trans (c.trans b)) h)).mono (Zle.left _ _)).weak (fun _ _ h=>y1k (Zle.left _ _) h)) ((bg.mono<|(Zle.left _ _).trans (c.trans b)).mono (Zle.left _ _)) ((((bh.mono<|(Zle.left _ _).trans (c.trans b)).weak (fun _ _ h=>y1B ((Zle.left _ _).trans (c.trans b)) h)).mono (Zle.left _ _)).weak (fun _ _ h=>y1B (Zle.left _ _) h)) ((bi.mono<|(Zle.left _ _).trans (c.trans b)).mono (Zle.left _ _)) ((((aR.mono<|(Zle.left _ _).trans (c.trans b)).weak (fun _ _ h=>y22 ((Zle.left _ _).trans (c.trans b)) h)).mono (Zle.left _ _)).weak (fun _ _ h=>y22 (Zle.left _ _) h)) ((la _ (.head _) _).stb) ho)<|fun _ _ h'=>⟨h'.1,trivial,h'.2⟩) ?_)
        intro _
        refine Ka (i:=18) (dd:=159) U (by kernel_rfl) U U U (.inl ⟨U,(Sin.wk (.cons (.there<|.there<|.there .h7) .nil)<|.stb (.cons U<|.cons U .nil) .nil)⟩) (zb call118<|.r4 U U U U) (.s3 .h2 .here .here) (ccz hz (.s3 .h2 .here .here) .here fun w pz ho=>Calls.mono (y7s _ _ _ _ _ _ _ _ _ _ _ _ _ _ _ _ _ _ _ _ _ _ (zbu:=119) (zfM:=[]) _ _ _ _ _ (zdy:=(fun(y0:z2) (y1:z2)=>y1q y0 y1)) _ _ _ dq w pz ((bd.mono<|(Zle.left _ _).trans (c.trans b)).weak (fun _ _ h=>y1p ((Zle.left _ _).trans (c.trans b)) h)) ((be.mono<|(Zle.left _ _).trans (c.trans b)).weak (fun _ _ h=>y1A ((Zle.left _ _).trans (c.trans b)) h)) (bf.mono<|(Zle.left _ _).trans (c.trans b)) (aQ.mono<|(Zle.left _ _).trans (c.trans b)) ((ay.mono<|(Zle.left _ _).trans (c.trans b)).weak (fun _ _ h=>y1k ((Zle.left _ _).trans (c.trans b)) h)) (bg.mono<|(Zle.left _ _).trans (c.trans b)) ((bh.mono<|(Zle.left _ _).trans (c.trans b)).weak (fun _ _ h=>y1B ((Zle.left _ _).trans (c.trans b)) h)) (bi.mono<|(Zle.left _ _).trans (c.trans b)) ((aR.mono<|(Zle.left _ _).trans (c.trans b)).weak (fun _ _ h=>y22 ((Zle.left _ _).trans (c.trans b)) h)) call119 (fun w' hz' y0 y1  r  hr=>y6U hr w' hz' ) ho)<|fun _ _ h'=>⟨h'.1,trivial,h'.2⟩) fun _=>WD.yjF (i:=20) U (by kernel_rfl) U U U (Sin.wk (.cons .here .nil)<|.stb (.cons U<|.cons U .nil) .nil) (y4L (ds:=[(vi bP.1.fN),(vi bP.1.fD),(vi aE),(vi aF)]) zy U U U U U (.there<|.there<|.there .h7) U U)<|Lf 21 161 U (fun _=>ya y6p U U)<|Kc (i:=22) U (by kernel_rfl) U U U (by kernel_rfl) (y4L (ds:=[(vi bP.1.fN),(vi bP.1.fD),(vi bX.1.fN),(vi bX.1.fD)]) zy U U U U U .here U U)<|WD.done (by kernel_rfl)<|Lb ?_
        obtain⟨dr,h⟩:=yo h
        refine Ld<|La U<|La U<|Le 164 (y1d U)<|Le 165 (ya y6o U U)<|Le 166 (ya y7U U U)<|Le 167 (yc y7V U<|yh .h1 U)<|La U<|L0 (dd:=169) U U (Z:=(Z++af)) (Pr:=(p69 (Z++af))) y9U U U ((ay.mono<|(Zle.left _ _).trans (c.trans b)).weak (fun _ _ h=>y1k ((Zle.left _ _).trans (c.trans b)) h)) dr ?_
        rintro d2 d3 dt d4 ⟨d5,d6,rfl,d7⟩
        refine Le 170 (ya y7W U U)<|Le 171 (yc yq U<|y1b (hz.pv2 .h4) dt U)<|Le 172 (yce U U U)<|La U<|WL.nil<|Lq<|Lb<|Ld<|La U<|La U<|WL.nil ?_
        exact WX.round ⟨dm,(max aV<|(nth f.fVLs<|nth (yd ad d []) ax).fMax),(i64 (ax+1)),bX.2,bP.1.fN,bP.1.fD,bX.1.fN,bX.1.fD⟩ h (Nat.lt_succ_self _) (.r14 U U U U U U U U U U U U U U)<|.s11 .h4 .h4 .h4 .h4 .h1 .h3 .h3 .h3 .here .here .here
       ·replace h:=ys h ce
        refine WC.exit<|Lm<|Lm<|Lw<|WX.ghL (fun _ h=>Hp.ygQ b3 cr (.s2 .h3 .h6) h) ?_
        exact Ln ⟨aV,bx,aW,aX,aE,aF⟩ h (.r11 U U U U U U U U U U U)<|.s10 .h1 .h1 .h1 .h1 .h1 .h1 .here .here .here .here
      ·rintro bO bw aj ak al am h
       replace h:=(dj bO bw aj ak al am).symm.trans h
       obtain⟨aG,du,h⟩:=za h
       obtain⟨dv,h⟩:=yo h
       obtain⟨dw,h⟩:=yo h
       refine Lx (fun i=>[17].contains i) [] U<|Lf 0 174 U (fun _=>q_m U)<|Li 1 175 U (yi z38 U (yj .h7) U)<|Lf 2 176 U (fun _=>q_m U)<|L4 3 177 U (zb call80<|.cons U .nil) (ccz hz .nil .here fun w pz ho=>y5w du w pz )<|Lf 4 178 U (fun _=>q_m U)<|Lf 5 179 U (fun _=>y1d U)<|Lf 6 180 U (fun _=>ya y6o U U)<|Lf 7 181 U (fun _=>ya y7S U U)<|Li 8 182 U (yc y7T U<|yh .h3 U)<|Lf 9 183 U (fun _=>q_m U)<|L7 (j:=10) (dd:=184) (by kernel_rfl) U z2k z2l U U (Z:=(Z++af)) (Pr:=(fun r x=>r=e62 x)) yaR U U (aQ.mono<|(Zle.left _ _).trans (c.trans b)) dv ?_
       rintro d8 d9 dx ea rfl
       refine Lf 11 185 U (fun _=>ya y9s U U)<|Li 12 186 U (yc yq U<|y1b (hz.pv2 .here) dx U)<|Lf 13 187 U (fun _=>yN (v:=(.agg #[(vi 1),(vi<|(nth f.fK d).fSlow)])) (Lo (l:=[.const (vi 1),.tmp 186]) (.r2 U U) [0,1]) (fun _=>by kernel_rfl))<|Lf 14 188 U (fun _=>yN (v:=(.agg #[(vi aG.fN),(vi aG.fD),(vi 1),(vi<|(nth f.fK d).fSlow)])) (Lo (l:=[.tmp 177,.tmp 187]) (.r2 U U) [0,1]) (fun _=>by kernel_rfl)) (WD.new (i:=15) (dd:=189) U (by kernel_rfl) U U U (yT (cs:=([(⟨(⟨aj,ak⟩:z2),(⟨al,am⟩:z2)⟩:z6),(⟨aG,(⟨1,((nth f.fK d).fSlow)⟩:z2)⟩:z6)]:List z6).flatMap y1O) z7A (Lo (l:=[.tmp 175,.tmp 188]) (.r2 U U) [0,1]) (fun _=>by kernel_rfl) U (by unfold maxLen;omega)) (fun h'=>absurd h' (by decide)) fun ct _=>WD.freezeS (ls:=([(⟨(⟨aj,ak⟩:z2),(⟨al,am⟩:z2)⟩:z6),(⟨aG,(⟨1,((nth f.fK d).fSlow)⟩:z2)⟩:z6)]:List z6)) .here .here hz (RR.flat (enc:=y1O) (fun _=>U) _) ?_)
       intro b6 cu dy
       let A:List Value:=[(vs (some ⟨ct,0,none⟩) (([(⟨(⟨aj,ak⟩:z2),(⟨al,am⟩:z2)⟩:z6),(⟨aG,(⟨1,((nth f.fK d).fSlow)⟩:z2)⟩:z6)]:List z6).length) 2)];have cv:RR 1 (y29 (Z++b6)) A ([([(⟨(⟨aj,ak⟩:z2),(⟨al,am⟩:z2)⟩:z6),(⟨aG,(⟨1,((nth f.fK d).fSlow)⟩:z2)⟩:z6)]:List z6)]:List (List z6)):=(RR.cons (r:=A) U (show y29 _ _ _ from⟨_,_,U,dy⟩) (RR.nil _ _))
       refine WD.new (i:=16) (dd:=190) U (by kernel_rfl) U U U (yT (cs:=[(vs (some ⟨ct,0,none⟩) (([(⟨(⟨aj,ak⟩:z2),(⟨al,am⟩:z2)⟩:z6),(⟨aG,(⟨1,((nth f.fK d).fSlow)⟩:z2)⟩:z6)]:List z6).length) 2)]) z8T (Lo (l:=[.tmp 189]) (.cons U .nil) [0]) (fun _=>by kernel_rfl) U (by unfold maxLen;omega)) (fun h'=>absurd h' (by decide)) ?_
       intro eb _
       have dz:RR 1 (y29 (Z++b6)) (au++A) (ai++([([(⟨(⟨aj,ak⟩:z2),(⟨al,am⟩:z2)⟩:z6),(⟨aG,(⟨1,((nth f.fK d).fSlow)⟩:z2)⟩:z6)]:List z6)]:List (List z6))):=RR.app (cb.weak (fun _ _ h=>y3G cu h)) cv
       refine WD.old (i:=17) (dd:=191) U (by kernel_rfl) U U U U (fun _=>(Sin.of .nil)) (y8F (l1:=ai) (l2:=([([(⟨(⟨aj,ak⟩:z2),(⟨al,am⟩:z2)⟩:z6),(⟨aG,(⟨1,((nth f.fK d).fSlow)⟩:z2)⟩:z6)]:List z6)]:List (List z6))) (news:=A) (Pr:=(y29 (Z++b6))) z8T U U .h3 cv (y3q .here) (ybJ U yd8) dw) ?_
       rintro⟨dA,dB⟩ _
       refine Lf 18 7 U (fun _=>q_z U)<|WD.done (by kernel_rfl)<|Lq ?_
       exact Ln ⟨(ai++([([(⟨(⟨aj,ak⟩:z2),(⟨al,am⟩:z2)⟩:z6),(⟨aG,(⟨1,((nth f.fK d).fSlow)⟩:z2)⟩:z6)]:List z6)]:List (List z6))),bw,b6,dA,dB,(au++A)⟩ ⟨h,cu,dz⟩ (.r8 U U U U U U U U)<|.s9 .h2 .h2 .here .h1 .h1 .h1 .h1 .h2 .h2
    ·rintro aP bu bv bL bM bN ⟨h,dC,dD⟩
     replace h:=(de aP bu).symm.trans h
     refine Ld<|La U<|La U<|WL.nil ?_
     exact WX.round ⟨db,aP,(i64 (d+1)),bu,bv,bL,bM,bN⟩ ⟨h,(b.trans dC),dD⟩ (Nat.lt_succ_self _) (.r8 U U U U U U U U)<|.a9
   ·replace h:=ys h cc
    refine WC.exit<|Lm<|Lm<|Lw ?_
    exact Ln ⟨ai,aM,af,aN,aO,au⟩ ⟨h,b,cb⟩ (.r3 U U U)<|.s6 .here .here .here .here .h3 .h3
  ·rintro aD bJ aL bS bT aU ⟨h,dE,cf⟩
   replace h:=(da aD bJ).symm.trans h
   refine WC.b ?_
   obtain⟨dF,h⟩:=yo h
   refine Ld<|La U<|La U ?_
   have dG:RR 1 (y29 (Z++aL)) (ap++aU) (av++aD):=RR.app (c9.weak (fun _ _ h=>y3G dE h)) cf
   refine WL.fA 195 (y8F (l1:=av) (l2:=aD) (news:=aU) (Pr:=(y29 (Z++aL))) z8T U U .h1 cf (y3q .h2) (RR.oc cf<|fun _ _ h=>p227_oc h) dF) ?_
   rintro⟨dH,dI⟩ _
   refine La U<|La U<|La U<|WL.nil<|Lb<|WC.ret ?_
   obtain rfl:=oJ h
   refine Lh results79 (.tmp U<|.tmp U .nil)<|fun w hw=>?_
   exact⟨aL,dH,dI,(ap++aU),y1T U U,dG,hw.sub (.s5 .h1 .here .h1 .h1 .h1)⟩
def y5N(a:z2):Option Bool:=
 (y1Y a).bind fun b=>some (b&&(decide (a.fN>=0)))
theorem yaX{Z:Zp}{r:Bool}(h:y5N j=some r)(w₀:World)(hz:PZ [] w₀ Z):
  Calls Tryz.prog 193 #[(.agg #[(vi j.fN),(vi j.fD)])] w₀ fun e w'=>e = .returned (.bool r)/\Hp [] w₀ w' []:=by
 unfold y5N at h
 refine L5 func193 ntmps193 ?_
 refine WC.b<|Ld (Lg 1 (yI (cs:=[(vi j.fN),(vi j.fD)]) U U) fun d _=>La U<|WL.nil<|Lb<|WC.b ?_)
 obtain⟨a,b,h⟩:=za h
 refine Ld<|Le 3 (yi zg U (yj .here) U)<|Ll 4 (zb call130<|.cons U .nil) .nil (cc hz .nil fun w pz ho=>y2W b w pz )<|La U<|Lu true 3 5 (B:=a&&(decide (j.fN>=0))) U U U U U U (fun h=>(y4f h).symm) (fun _ c=>?_) ?_
 ·skip
  refine Le 6 (ya y2G U U)<|Le 7 (yc yq U<|yh .here U)<|La U<|La U ?_
  exact Lv (y4g c) U U .all
 refine La U<|WL.nil<|Lb<|WC.ret ?_
 obtain rfl:=oJ h
 refine Lh results193 (.tmp U .nil)<|fun w hw=>?_
 exact⟨yD U,hw.sub .nil⟩
def y5l(a:z6):Option Bool:=
 (y5N a.fBurst).bind fun b=>(if !b then some true else(y5N a.fRate).bind fun c=>some (!c)).bind fun d=>some d
theorem yfB{Z:Zp}{r:Bool}(h:y5l g=some r)(w₀:World)(hz:PZ [] w₀ Z):
  Calls Tryz.prog 209 #[(.agg #[(vi g.fBurst.fN),(vi g.fBurst.fD),(vi g.fRate.fN),(vi g.fRate.fD)])] w₀ fun e w'=>e = .returned (.bool r)/\Hp [] w₀ w' []:=by
 unfold y5l at h
 refine L5 func209 ntmps209 ?_
 refine WC.b<|Ld (Lg 1 (yI (cs:=[(vi g.fBurst.fN),(vi g.fBurst.fD),(vi g.fRate.fN),(vi g.fRate.fD)]) U U) fun j _=>La U<|WL.nil<|Lb<|WC.b ?_)
 obtain⟨k,c,h⟩:=za h
 obtain⟨d,b,h⟩:=za h
 refine Ld<|Le 3 (ya y5t U U)<|Le 4 (yX (cs:=[(vi g.fBurst.fN),(vi g.fBurst.fD)]) zg U U<|y3w (s:=2) .here U)<|Ll 5 (zb call193<|.cons U .nil) .nil (cc hz .nil fun w pz ho=>yaX c w pz )<|La U<|La U<|Lu false 4 7 (B:=d) U U U U U U (fun h=>(oJ<|yr b h).symm) (fun _ f=>?_) ?_
 ·skip
  have a:=ys b f
  obtain⟨l,i,a⟩:=za a
  replace a:=oJ a
  refine Le 8 (ya y6p U U)<|Le 9 (yX (cs:=[(vi g.fRate.fN),(vi g.fRate.fD)]) zg U U<|y3w (s:=2) .here U)<|Ll 10 (zb call193<|.cons U .nil) .nil (cc hz .nil fun w pz ho=>yaX i w pz )<|La U<|La U ?_
  exact Lv a U U .all
 refine La U<|WL.nil<|Lb<|WC.ret ?_
 obtain rfl:=oJ h
 refine Lh results209 (.tmp U .nil)<|fun w hw=>?_
 exact⟨yD U,hw.sub .nil⟩
def y1f(b:List z6)(z9d:z6->Option Bool)(c:Option Int):Nat->Int->Option Int
 | 0,_=>none
 | d+1,a=>if decide (a<(b.length:Int)) then chk ((0:Int)<=a/\a<(b.length:Int)) ((z9d (⟨(⟨(((nth b a).fBurst).fN),(((nth b a).fBurst).fD)⟩:z2),(⟨(((nth b a).fRate).fN),(((nth b a).fRate).fD)⟩:z2)⟩:z6)).bind fun e=>if e then some a else y1f b z9d c d (i64 (a+1))) else c
def y3h(a:List z6)(z9d:z6->Option Bool):Option Int:=
 jp0 (some (-1)) fun b=>y1f a z9d b yy 0
theorem y7a(Z:Zp)(d:Option Addr)(g:Nat)(zg4:FuncId)(zm8:List Value)(b:List z6)(z9d:z6->Option Bool)(r:Int)(h:y3h b z9d=some r)(w₀:World)(hz:PZ [] w₀ Z)(m:ZS Z 4 (fun r x=>r=y1O x) d g b)(n:∀ args w,(callFunc zg4 args).run Tryz.prog w = .ok (.enter zg4 args) w)(o:∀ w:World,PZ [] w Z->∀(x0:z6) (r:Bool),z9d x0=some r->Calls Tryz.prog zg4 (([(.agg #[(vi x0.fBurst.fN),(vi x0.fBurst.fD),(vi x0.fRate.fN),(vi x0.fRate.fD)])]:List Value)++zm8).toArray w fun e w'=>e = .returned (.bool r)/\Hp [] w w' []):
  Calls Tryz.prog 220 #[(vs d b.length g),(.func (.func zg4) #[] (zm8).toArray)] w₀ fun e w'=>e = .returned (vi r)/\Hp [] w₀ w' []:=by
 unfold y3h at h
 refine Lz func220 ntmps220 ?_
 refine WC.b<|Ld<|La U<|WL.nil<|Lb ?_
 obtain⟨k,p,h⟩:=y2m h
 refine L8 ((k=some r)) ([]) ([]) ?_ ?_
 ·skip
  refine WC.b<|Ld<|La U<|Le 7 (yJ underlying227 U)<|La U<|WL.nil<|Lb<|WC.block<|L9 (fun(c:Nat) (a:Int)=>(y1f b z9d k c a=some r)) (fun c a=>[(0,(vs d b.length g)),(1,(.func (.func zg4) #[] (zm8).toArray)),(7,(vi (b.length:Int))),(8,(vi a))]) (fun c a=>[]) (fun c a=>c) ⟨yy,0⟩ h (.r4 U U U U) .nil ?_
  rintro(_|q) a h;·cases h
  rw[y1f] at h
  refine WC.b<|Ld<|La U<|WL.nil<|Lb<|WC.b<|WC.cond U (fun i=>?_)<|fun i=>?_
  ·replace h:=yr h i
   refine WC.skip<|Lb<|WC.b<|WC.block<|WC.b<|Ld<|La U<|La U<|WL.nil<|Lb<|WC.b ?_
   obtain⟨s,h⟩:=yo h
   obtain⟨t,u,h⟩:=za h
   refine Ld<|La U<|La U<|La U<|L0 (dd:=14) U U (Z:=Z) (Pr:=(fun r x=>r=y1O x)) z7A U U m s ?_
   rintro y z v A rfl
   refine Le 15 (yi z38 U (y2j hz.pv v) U)<|Ll 16 (y2M (l:=[.tmp 15]) (f:=zg4) (caps:=zm8) n U<|.cons U .nil) .nil (fun w hw=>o w (hz.now hw) (⟨(⟨(((nth b a).fBurst).fN),(((nth b a).fBurst).fD)⟩:z2),(⟨(((nth b a).fRate).fN),(((nth b a).fRate).fD)⟩:z2)⟩:z6) t  u)<|WL.nil<|Lb<|WC.cond U (fun j=>?_)<|fun j=>?_
   ·replace h:=yr h j
    refine WC.b<|Ld<|La U<|La U<|WL.nil<|Lb<|WC.ret<|Lt<|Lj<|Lj<|Lt<|Lj ?_
    obtain rfl:=oJ h
    refine Lh results220 (.tmp U .nil)<|fun w hw=>?_
    exact⟨yD U,hw.sub .nil⟩
   ·replace h:=ys h j
    refine WC.skip<|Lq<|Lb<|Ld<|La U<|La U<|WL.nil ?_
    exact WX.round ⟨q,(i64 (a+1))⟩ h (Nat.lt_succ_self _) (.r4 U U U U) .nil
  ·replace h:=ys h i
   refine WC.exit<|Lm<|Lm<|Lw ?_
   exact Ln () h .nil .nil
 ·rintro  h
  replace h:=p.symm.trans h
  refine WC.b<|Ld<|La U<|WL.nil<|Lb<|WC.ret ?_
  obtain rfl:=oJ h
  refine Lh results220 (.tmp U .nil)<|fun w hw=>?_
  exact⟨yD U,hw.sub .nil⟩
def y1D(a:List z6)(zg5:z6->Option Bool):Option Bool:=
 (y3h a zg5).bind fun b=>some (decide (b>=0))
theorem y4s(Z:Zp)(b:Option Addr)(c:Nat)(zg6:FuncId)(zma:List Value)(a:List z6)(zg5:z6->Option Bool)(r:Bool)(h:y1D a zg5=some r)(w₀:World)(hz:PZ [] w₀ Z)(d:ZS Z 4 (fun r x=>r=y1O x) b c a)(f:∀ args w,(callFunc zg6 args).run Tryz.prog w = .ok (.enter zg6 args) w)(g:∀ w:World,PZ [] w Z->∀(x0:z6) (r:Bool),zg5 x0=some r->Calls Tryz.prog zg6 (([(.agg #[(vi x0.fBurst.fN),(vi x0.fBurst.fD),(vi x0.fRate.fN),(vi x0.fRate.fD)])]:List Value)++zma).toArray w fun e w'=>e = .returned (.bool r)/\Hp [] w w' []):
  Calls Tryz.prog 208 #[(vs b a.length c),(.func (.func zg6) #[] (zma).toArray)] w₀ fun e w'=>e = .returned (.bool r)/\Hp [] w₀ w' []:=by
 unfold y1D at h
 refine Lz func208 ntmps208 ?_
 refine WC.b<|Ld<|La U<|WL.nil<|Lb<|WC.b ?_
 obtain⟨j,i,h⟩:=za h
 refine Ld<|La U<|La U<|Ll 7 (zb call220<|.r2 U U) .nil (cc hz .nil fun w pz ho=>y7a _ _ _ (zg4:=zg6) (zm8:=zma) _ (z9d:=zg5) _ i w pz d f g)<|La U<|La U<|WL.nil<|Lb<|WC.ret ?_
 obtain rfl:=oJ h
 refine Lh results208 (.tmp U .nil)<|fun w hw=>?_
 exact⟨yD U,hw.sub .nil⟩
def y4Y(a:List z6):Option Bool:=
 (if (decide ((a.length:Int)>=1))&&(decide ((a.length:Int)<=32)) then(y1D a (fun(y0:z6)=>y5l y0)).bind fun b=>some (!b) else some false).bind fun c=>some c
theorem y8p{Z:Zp}{r:Bool}(h:y4Y k=some r)(w₀:World)(hz:PZ [] w₀ Z)(c:ZS Z 4 (fun r x=>r=y1O x) q m k):
  Calls Tryz.prog 192 #[(vs q k.length m)] w₀ fun e w'=>e = .returned (.bool r)/\Hp [] w₀ w' []:=by
 unfold y4Y at h
 refine L5 func192 ntmps192 ?_
 refine WC.b<|Ld<|La U<|WL.nil<|Lb<|WC.b ?_
 obtain⟨d,b,h⟩:=za h
 refine Ld<|La U<|Le 4 (yJ underlying227 U)<|La U<|La U<|Lu true 3 6 (B:=(decide ((k.length:Int)>=1))&&(decide ((k.length:Int)<=32))) U U U U U U (fun h=>(y4f h).symm) (fun _ f=>?_) ?_
 ·skip
  refine La U<|Le 8 (yJ underlying227 U)<|La U<|La U ?_
  exact Lv (y4g f) U U .all
 refine La U<|Lu true 3 11 (B:=d) U U U U U U (fun h=>(oJ<|ys b h).symm) (fun _ g=>?_) ?_
 ·skip
  have a:=yr b g
  obtain⟨j,i,a⟩:=za a
  replace a:=oJ a
  refine La U<|Ll 13 (zb call208<|.r2 U U) .nil (cc hz .nil fun w pz ho=>y4s _ _ _ (zg6:=209) (zma:=[]) _ (zg5:=(fun(y0:z6)=>y5l y0)) _ i w pz c call209<|fun w' hz' y0  r  hr=>yfB hr w' hz' )<|La U<|La U ?_
  exact Lv a U U .all
 refine La U<|WL.nil<|Lb<|WC.ret ?_
 obtain rfl:=oJ h
 refine Lh results192 (.tmp U .nil)<|fun w hw=>?_
 exact⟨yD U,hw.sub .nil⟩
def y1E(a:List z6):Option Bool:=
 (y4Y a).bind fun b=>some (!b)
theorem y7t{Z:Zp}{r:Bool}(h:y1E k=some r)(w₀:World)(hz:PZ [] w₀ Z)(a:ZS Z 4 (fun r x=>r=y1O x) q m k):
  Calls Tryz.prog 197 #[(vs q k.length m)] w₀ fun e w'=>e = .returned (.bool r)/\Hp [] w₀ w' []:=by
 unfold y1E at h
 refine L5 func197 ntmps197 ?_
 refine WC.b<|Ld<|La U<|WL.nil<|Lb<|WC.b ?_
 obtain⟨c,b,h⟩:=za h
 refine Ld<|La U<|Ll 4 (zb call192<|.cons U .nil) .nil (cc hz .nil fun w pz ho=>y8p b w pz a)<|La U<|La U<|WL.nil<|Lb<|WC.ret ?_
 obtain rfl:=oJ h
 refine Lh results197 (.tmp U .nil)<|fun w hw=>?_
 exact⟨yD U,hw.sub .nil⟩
def y17(b:List (List z6))(z9e:(List z6)->Option Bool)(c:Option Int):Nat->Int->Option Int
 | 0,_=>none
 | d+1,a=>if decide (a<(b.length:Int)) then chk ((0:Int)<=a/\a<(b.length:Int)) ((z9e (nth b a)).bind fun e=>if e then some a else y17 b z9e c d (i64 (a+1))) else c
def y2w(a:List (List z6))(z9e:(List z6)->Option Bool):Option Int:=
 jp0 (some (-1)) fun b=>y17 a z9e b yy 0
theorem y7l(Z:Zp)(d:Option Addr)(g:Nat)(zg7:FuncId)(zmd:List Value)(b:List (List z6))(z9e:(List z6)->Option Bool)(r:Int)(h:y2w b z9e=some r)(w₀:World)(hz:PZ [] w₀ Z)(m:ZS Z 1 (y29 Z) d g b)(n:∀ args w,(callFunc zg7 args).run Tryz.prog w = .ok (.enter zg7 args) w)(o:∀ w:World,PZ [] w Z->∀(x0:List z6) (ao0:Option Addr) (cap0:Nat) (r:Bool),ZS Z 4 (fun r x=>r=y1O x) ao0 cap0 x0->z9e x0=some r->Calls Tryz.prog zg7 (([(vs ao0 x0.length cap0)]:List Value)++zmd).toArray w fun e w'=>e = .returned (.bool r)/\Hp [] w w' []):
  Calls Tryz.prog 211 #[(vs d b.length g),(.func (.func zg7) #[] (zmd).toArray)] w₀ fun e w'=>e = .returned (vi r)/\Hp [] w₀ w' []:=by
 unfold y2w at h
 refine Lz func211 ntmps211 ?_
 refine WC.b<|Ld<|La U<|WL.nil<|Lb ?_
 obtain⟨k,p,h⟩:=y2m h
 refine L8 ((k=some r)) ([]) ([]) ?_ ?_
 ·skip
  refine WC.b<|Ld<|La U<|Le 7 (yJ underlying171 U)<|La U<|WL.nil<|Lb<|WC.block<|L9 (fun(c:Nat) (a:Int)=>(y17 b z9e k c a=some r)) (fun c a=>[(0,(vs d b.length g)),(1,(.func (.func zg7) #[] (zmd).toArray)),(7,(vi (b.length:Int))),(8,(vi a))]) (fun c a=>[]) (fun c a=>c) ⟨yy,0⟩ h (.r4 U U U U) .nil ?_
  rintro(_|q) a h;·cases h
  rw[y17] at h
  refine WC.b<|Ld<|La U<|WL.nil<|Lb<|WC.b<|WC.cond U (fun i=>?_)<|fun i=>?_
  ·replace h:=yr h i
   refine WC.skip<|Lb<|WC.b<|WC.block<|WC.b<|Ld<|La U<|La U<|WL.nil<|Lb<|WC.b ?_
   obtain⟨s,h⟩:=yo h
   obtain⟨t,u,h⟩:=za h
   refine Ld<|La U<|La U<|La U<|L0 (dd:=14) U U (Z:=Z) (Pr:=(y29 Z)) z8T U U m s ?_
   rintro B C v D ⟨y,z,rfl,A⟩
   refine Le 15 (yc zda U<|y3x hz.pv v U)<|Ll 16 (y2M (l:=[.tmp 15]) (f:=zg7) (caps:=zmd) n U<|.cons U .nil) .nil (fun w hw=>o w (hz.now hw) (nth b a) y z t A u)<|WL.nil<|Lb<|WC.cond U (fun j=>?_)<|fun j=>?_
   ·replace h:=yr h j
    refine WC.b<|Ld<|La U<|La U<|WL.nil<|Lb<|WC.ret<|Lt<|Lj<|Lj<|Lt<|Lj ?_
    obtain rfl:=oJ h
    refine Lh results211 (.tmp U .nil)<|fun w hw=>?_
    exact⟨yD U,hw.sub .nil⟩
   ·replace h:=ys h j
    refine WC.skip<|Lq<|Lb<|Ld<|La U<|La U<|WL.nil ?_
    exact WX.round ⟨q,(i64 (a+1))⟩ h (Nat.lt_succ_self _) (.r4 U U U U) .nil
  ·replace h:=ys h i
   refine WC.exit<|Lm<|Lm<|Lw ?_
   exact Ln () h .nil .nil
 ·rintro  h
  replace h:=p.symm.trans h
  refine WC.b<|Ld<|La U<|WL.nil<|Lb<|WC.ret ?_
  obtain rfl:=oJ h
  refine Lh results211 (.tmp U .nil)<|fun w hw=>?_
  exact⟨yD U,hw.sub .nil⟩
def y1i(a:List (List z6))(zg8:(List z6)->Option Bool):Option Bool:=
 (y2w a zg8).bind fun b=>some (decide (b>=0))
theorem y4J(Z:Zp)(b:Option Addr)(c:Nat)(zg9:FuncId)(zmf:List Value)(a:List (List z6))(zg8:(List z6)->Option Bool)(r:Bool)(h:y1i a zg8=some r)(w₀:World)(hz:PZ [] w₀ Z)(d:ZS Z 1 (y29 Z) b c a)(f:∀ args w,(callFunc zg9 args).run Tryz.prog w = .ok (.enter zg9 args) w)(g:∀ w:World,PZ [] w Z->∀(x0:List z6) (ao0:Option Addr) (cap0:Nat) (r:Bool),ZS Z 4 (fun r x=>r=y1O x) ao0 cap0 x0->zg8 x0=some r->Calls Tryz.prog zg9 (([(vs ao0 x0.length cap0)]:List Value)++zmf).toArray w fun e w'=>e = .returned (.bool r)/\Hp [] w w' []):
  Calls Tryz.prog 196 #[(vs b a.length c),(.func (.func zg9) #[] (zmf).toArray)] w₀ fun e w'=>e = .returned (.bool r)/\Hp [] w₀ w' []:=by
 unfold y1i at h
 refine Lz func196 ntmps196 ?_
 refine WC.b<|Ld<|La U<|WL.nil<|Lb<|WC.b ?_
 obtain⟨j,i,h⟩:=za h
 refine Ld<|La U<|La U<|Ll 7 (zb call211<|.r2 U U) .nil (cc hz .nil fun w pz ho=>y7l _ _ _ (zg7:=zg9) (zmd:=zmf) _ (z9e:=zg8) _ i w pz d f g)<|La U<|La U<|WL.nil<|Lb<|WC.ret ?_
 obtain rfl:=oJ h
 refine Lh results196 (.tmp U .nil)<|fun w hw=>?_
 exact⟨yD U,hw.sub .nil⟩
def y56(a:zSv):Option Bool:=
 (y1Y a.fRate).bind fun b=>(if b&&(decide (a.fRate.fN>0)) then(y1Y a.fL).bind fun c=>some c else some false).bind fun d=>some (d&&(decide (a.fL.fN>=0)))
theorem yaY{Z:Zp}{a:zSv}{r:Bool}(h:y56 a=some r)(w₀:World)(hz:PZ [] w₀ Z):
  Calls Tryz.prog 198 #[(.agg #[(vi a.fRate.fN),(vi a.fRate.fD),(vi a.fL.fN),(vi a.fL.fD)])] w₀ fun e w'=>e = .returned (.bool r)/\Hp [] w₀ w' []:=by
 unfold y56 at h
 refine L5 func198 ntmps198 ?_
 refine WC.b<|Ld (Lg 1 (yI (cs:=[(vi a.fRate.fN),(vi a.fRate.fD),(vi a.fL.fN),(vi a.fL.fD)]) U U) fun m _=>La U<|WL.nil<|Lb<|WC.b ?_)
 obtain⟨f,g,h⟩:=za h
 obtain⟨c,d,h⟩:=za h
 refine Ld<|Le 3 (ya y9v U U)<|Le 4 (yX (cs:=[(vi a.fRate.fN),(vi a.fRate.fD)]) zg U U<|y3w (s:=2) .here U)<|Ll 5 (zb call130<|.cons U .nil) .nil (cc hz .nil fun w pz ho=>y2W g w pz )<|La U<|Lu true 4 6 (B:=f&&(decide (a.fRate.fN>0))) U U U U U U (fun h=>(y4f h).symm) (fun _ i=>?_) ?_
 ·skip
  refine Le 7 (ya y9v U U)<|Le 8 (ya y2G U U)<|Le 9 (yc yq U<|yh .here U)<|La U<|La U ?_
  exact Lv (y4g i) U U .all
 refine La U<|Lu true 3 12 (B:=c) U U U U U U (fun h=>(oJ<|ys d h).symm) (fun _ j=>?_) ?_
 ·skip
  have b:=yr d j
  obtain⟨n,k,b⟩:=za b
  replace b:=oJ b
  refine Le 13 (ya y9w U U)<|Le 14 (yX (cs:=[(vi a.fL.fN),(vi a.fL.fD)]) zg U U<|y3w (s:=2) .here U)<|Ll 15 (zb call130<|.cons U .nil) .nil (cc hz .nil fun w pz ho=>y2W k w pz )<|La U ?_
  exact Lv b U U .all
 refine La U<|Lu true 4 17 (B:=c&&(decide (a.fL.fN>=0))) U U U U U U (fun h=>(y4f h).symm) (fun _ l=>?_) ?_
 ·skip
  refine Le 18 (ya y9w U U)<|Le 19 (ya y2G U U)<|Le 20 (yc yq U<|yh .here U)<|La U<|La U ?_
  exact Lv (y4g l) U U .all
 refine La U<|WL.nil<|Lb<|WC.ret ?_
 obtain rfl:=oJ h
 refine Lh results198 (.tmp U .nil)<|fun w hw=>?_
 exact⟨yD U,hw.sub .nil⟩
def y1y(a:Int):Option z2:=
 some (⟨a,1⟩:z2)
theorem y3f{Z:Zp}{r:z2}(h:y1y z=some r)(w₀:World)(hz:PZ [] w₀ Z):
  Calls Tryz.prog 191 #[(vi z)] w₀ fun e w'=>e = .returned (.agg #[(vi r.fN),(vi r.fD)])/\Hp [] w₀ w' []:=by
 unfold y1y at h
 refine L5 func191 ntmps191 ?_
 refine WC.b<|Ld (Lg 2 (yu (cs:=[(vi 0),(vi 0)]) zX U) fun a _=>WL.nil<|Lb<|WC.b<|Ld<|La U<|Le 4 (yN (v:=(.agg #[(vi z),(vi 1)])) (Lo (l:=[.tmp 3,.const (vi 1)]) (.r2 U U) [0,1]) (fun _=>by kernel_rfl))<|Lk U U (yl zy U U U .here U U U)<|WL.nil<|Lb<|WC.ret ?_)
 obtain rfl:=oJ h
 refine Lh results191 (.agg U zg U (yj .here) .nil)<|fun w hw=>?_
 exact⟨yD U,hw.sub .nil⟩
def y38  : Option z2:=
 (y1y 0).bind fun a=>some a
theorem y4O{Z:Zp}{r:z2}(h:y38=some r)(w₀:World)(hz:PZ [] w₀ Z):
  Calls Tryz.prog 161 #[] w₀ fun e w'=>e = .returned (.agg #[(vi r.fN),(vi r.fD)])/\Hp [] w₀ w' []:=by
 unfold y38 at h
 refine Calls.on0 func161 ntmps161 ?_
 refine WC.b<|Ld (Lg 0 (yu (cs:=[(vi 0),(vi 0)]) zX U) fun b _=>WL.nil<|Lb<|WC.b ?_)
 obtain⟨c,a,h⟩:=za h
 refine Ld<|Ll 1 (zb call191<|.cons U .nil) .nil (cc hz .nil fun w pz ho=>y3f a w pz )<|Lk U U (yl zy U U U .here U U U)<|WL.nil<|Lb<|WC.ret ?_
 obtain rfl:=oJ h
 refine Lh results161 (.agg U zg U (yj .here) .nil)<|fun w hw=>?_
 exact⟨yD U,hw.sub .nil⟩
def y1s(b:List z6)(c:z6)(d:Option Int):Nat->Int->Option Int
 | 0,_=>none
 | e+1,a=>if decide (a<(b.length:Int)) then chk ((0:Int)<=a/\a<(b.length:Int)) (if decide (c=(⟨(⟨(((nth b a).fBurst).fN),(((nth b a).fBurst).fD)⟩:z2),(⟨(((nth b a).fRate).fN),(((nth b a).fRate).fD)⟩:z2)⟩:z6)) then some a else y1s b c d e (i64 (a+1))) else d
def y3S(a:List z6)(b:z6):Option Int:=
 jp0 (some (-1)) fun c=>y1s a b c yy 0
theorem y82{Z:Zp}{r:Int}(h:y3S k g=some r)(w₀:World)(hz:PZ [] w₀ Z)(p:ZS Z 4 (fun r x=>r=y1O x) q m k):
  Calls Tryz.prog 228 #[(vs q k.length m),(.agg #[(vi g.fBurst.fN),(vi g.fBurst.fD),(vi g.fRate.fN),(vi g.fRate.fD)])] w₀ fun e w'=>e = .returned (vi r)/\Hp [] w₀ w' []:=by
 unfold y3S at h
 refine Lz func228 ntmps228 ?_
 let A:List Value:=[(vi g.fBurst.fN),(vi g.fBurst.fD),(vi g.fRate.fN),(vi g.fRate.fD)];refine WC.b (Ld (Lg 3 (yI (cs:=A) U U) ?_))
 intro n _
 refine La U<|WL.nil<|Lb ?_
 obtain⟨o,s,h⟩:=y2m h
 refine L8 ((o=some r)) ([]) ([]) ?_ ?_
 ·skip
  refine WC.b<|Ld<|La U<|Le 7 (yJ underlying227 U)<|La U<|WL.nil<|Lb<|WC.block<|L9 (fun(d:Nat) (c:Int)=>(y1s k g o d c=some r)) (fun d c=>[(0,(vs q k.length m)),(3,(vp n)),(7,(vi (k.length:Int))),(8,(vi c))]) (fun d c=>[stb n 225 A]) (fun d c=>d) ⟨yy,0⟩ h (.r4 U U U U) (.cons .here .nil) ?_
  rintro(_|t) c h;·cases h
  rw[y1s] at h
  refine WC.b<|Ld<|La U<|WL.nil<|Lb<|WC.b<|WC.cond U (fun f=>?_)<|fun f=>?_
  ·replace h:=yr h f
   refine WC.skip<|Lb<|WC.b<|WC.block<|WC.b<|Ld<|La U<|La U<|WL.nil<|Lb<|WC.b ?_
   obtain⟨u,h⟩:=yo h
   refine Lx (fun i=>[].contains i) [] U<|Li 0 11 U (yi z38 U (yj .here) U)<|Lf 1 12 U (fun _=>q_m U)<|Lf 2 13 U (fun _=>q_m U)<|L7 (j:=3) (dd:=14) (by kernel_rfl) U z2k z2l U U (Z:=Z) (Pr:=(fun r x=>r=y1O x)) z7A U U p u ?_
   rintro y z v B rfl
   refine Li 4 15 U (yi z38 U (y2j hz.pv v) U)<|Lf 5 16 U (fun _=>y9l (enc:=y1O) (a:=g) (b:=(⟨(⟨(((nth k c).fBurst).fN),(((nth k c).fBurst).fD)⟩:z2),(⟨(((nth k c).fRate).fN),(((nth k c).fRate).fD)⟩:z2)⟩:z6)) zDf U U)<|WD.done (by kernel_rfl)<|Lb<|WC.cond U (fun l=>?_)<|fun l=>?_
   ·replace h:=yr h l
    refine WC.b<|Ld<|La U<|La U<|WL.nil<|Lb<|WC.ret<|Lt<|Lj<|Lj<|Lt<|Lj ?_
    obtain rfl:=oJ h
    refine Lh results228 (.tmp U .nil)<|fun w hw=>?_
    exact⟨yD U,hw.sub .nil⟩
   ·replace h:=ys h l
    refine WC.skip<|Lq<|Lb<|Ld<|La U<|La U<|WL.nil ?_
    exact WX.round ⟨t,(i64 (c+1))⟩ h (Nat.lt_succ_self _) (.r4 U U U U)<|.cons .here .nil
  ·replace h:=ys h f
   refine WC.exit<|Lm<|Lm<|Lw ?_
   exact Ln () h .nil .nil
 ·rintro  h
  replace h:=s.symm.trans h
  refine WC.b<|Ld<|La U<|WL.nil<|Lb<|WC.ret ?_
  obtain rfl:=oJ h
  refine Lh results228 (.tmp U .nil)<|fun w hw=>?_
  exact⟨yD U,hw.sub .nil⟩
def y2x(a:List z6)(b:z6):Option Bool:=
 (y3S a b).bind fun c=>some (decide (c>=0))
theorem y7m{Z:Zp}{r:Bool}(h:y2x k g=some r)(w₀:World)(hz:PZ [] w₀ Z)(a:ZS Z 4 (fun r x=>r=y1O x) q m k):
  Calls Tryz.prog 221 #[(vs q k.length m),(.agg #[(vi g.fBurst.fN),(vi g.fBurst.fD),(vi g.fRate.fN),(vi g.fRate.fD)])] w₀ fun e w'=>e = .returned (.bool r)/\Hp [] w₀ w' []:=by
 unfold y2x at h
 refine Lz func221 ntmps221 ?_
 refine WC.b<|Ld (Lg 3 (yI (cs:=[(vi g.fBurst.fN),(vi g.fBurst.fD),(vi g.fRate.fN),(vi g.fRate.fD)]) U U) fun c _=>La U<|WL.nil<|Lb<|WC.b ?_)
 obtain⟨d,b,h⟩:=za h
 refine Ld<|La U<|Le 6 (yi z38 U (yj .here) U)<|Ll 7 (zb call228<|.r2 U U) .nil (cc hz .nil fun w pz ho=>y82 b w pz a)<|La U<|La U<|WL.nil<|Lb<|WC.ret ?_
 obtain rfl:=oJ h
 refine Lh results221 (.tmp U .nil)<|fun w hw=>?_
 exact⟨yD U,hw.sub .nil⟩
def y1w(a:z2)(b:z2):Option Int:=
 (y1Y a).bind fun c=>(if !c then some true else(y1Y b).bind fun d=>some (!d)).bind fun e=>if e then some 0 else if decide ((i64 (a.fN*b.fD))<(i64 (b.fN*a.fD))) then some (-1) else if decide ((i64 (a.fN*b.fD))>(i64 (b.fN*a.fD))) then some 1 else some 0
theorem y4Z{Z:Zp}{r:Int}(h:y1w j s=some r)(w₀:World)(hz:PZ [] w₀ Z):
  Calls Tryz.prog 129 #[(.agg #[(vi j.fN),(vi j.fD)]),(.agg #[(vi s.fN),(vi s.fD)])] w₀ fun e w'=>e = .returned (vi r)/\Hp [] w₀ w' []:=by
 unfold y1w at h
 refine Lz func129 ntmps129 ?_
 refine WC.b<|Ld (Lg 2 (yI (cs:=[(vi j.fN),(vi j.fD)]) U U) fun n _=>Lg 3 (yI (cs:=[(vi s.fN),(vi s.fD)]) U U) fun o _=>La U<|WL.nil<|Lb<|WC.b<|WC.b ?_)
 obtain⟨p,g,h⟩:=za h
 obtain⟨k,f,h⟩:=za h
 refine Ld<|Le 7 (yi zg U (yj .h1) U)<|Ll 8 (zb call130<|.cons U .nil) .nil (cc hz .nil fun w pz ho=>y2W g w pz )<|La U<|La U<|Lu false 3 10 (B:=k) U U U U U U (fun h=>(oJ<|yr f h).symm) (fun _ l=>?_) ?_
 ·skip
  have a:=ys f l
  obtain⟨q,m,a⟩:=za a
  replace a:=oJ a
  refine Le 11 (yi zg U (yj .here) U)<|Ll 12 (zb call130<|.cons U .nil) .nil (cc hz .nil fun w pz ho=>y2W m w pz )<|La U<|La U ?_
  exact Lv a U U .all
 refine WL.nil<|Lb<|WC.cond U (fun b=>?_)<|fun b=>?_
 ·replace h:=yr h b
  refine WC.b<|Ld<|La U<|WL.nil<|Lb<|WC.ret<|Lj ?_
  obtain rfl:=oJ h
  refine Lh results129 (.tmp U .nil)<|fun w hw=>?_
  exact⟨yD U,hw.sub .nil⟩
 ·replace h:=ys h b
  refine WC.skip<|Lb<|WC.b<|WC.b<|Lx (fun i=>[].contains i) [] U<|Lf 0 15 U (fun _=>ya y2G U U)<|Li 1 16 U (yc yq U<|yh .h1 U)<|Lf 2 17 U (fun _=>ya y34 U U)<|Li 3 18 U (yc yq U<|yh .here U)<|Lf 4 19 U (fun _=>y7p U U U)<|Lf 5 20 U (fun _=>ya y2G U U)<|Li 6 21 U (yc yq U<|yh .here U)<|Lf 7 22 U (fun _=>ya y34 U U)<|Li 8 23 U (yc yq U<|yh .h1 U)<|Lf 9 24 U (fun _=>y7p U U U)<|Lf 10 5 U (fun _=>q_z U)<|Lf 11 6 U (fun _=>q_z U)<|WD.done (by kernel_rfl)<|Lb<|WC.block<|WC.b<|Ld<|La U<|La U<|La U<|La U<|WL.nil<|Lb<|WC.cond U (fun c=>?_)<|fun c=>?_
  ·replace h:=yr h c
   refine WC.b<|Ld<|La U<|WL.nil<|Lb<|WC.ret<|Lt<|Lj ?_
   obtain rfl:=oJ h
   refine Lh results129 (.tmp U .nil)<|fun w hw=>?_
   exact⟨yD U,hw.sub .nil⟩
  ·replace h:=ys h c
   refine WC.b<|Ld<|La U<|La U<|La U<|La U<|WL.nil<|Lb<|WC.cond U (fun d=>?_)<|fun d=>?_
   ·replace h:=yr h d
    refine WC.b<|Ld<|La U<|WL.nil<|Lb<|WC.ret<|Lt<|Lj ?_
    obtain rfl:=oJ h
    refine Lh results129 (.tmp U .nil)<|fun w hw=>?_
    exact⟨yD U,hw.sub .nil⟩
   ·replace h:=ys h d
    refine WC.skip<|Lq<|Lb<|WC.b<|Ld<|La U<|WL.nil<|Lb<|WC.ret ?_
    obtain rfl:=oJ h
    refine Lh results129 (.tmp U .nil)<|fun w hw=>?_
    exact⟨yD U,hw.sub .nil⟩
def y5B(a:z6)(b:z6):Option Bool:=
 (if decide (a≠b) then(y1w a.fBurst b.fBurst).bind fun c=>some (decide (c<=0)) else some false).bind fun d=>(if d then(y1w a.fRate b.fRate).bind fun e=>some (decide (e<=0)) else some false).bind fun f=>some f
theorem yew{Z:Zp}{r:Bool}(h:y5B g i=some r)(w₀:World)(hz:PZ [] w₀ Z):
  Calls Tryz.prog 223 #[(.agg #[(vi g.fBurst.fN),(vi g.fBurst.fD),(vi g.fRate.fN),(vi g.fRate.fD)]),(.agg #[(vi i.fBurst.fN),(vi i.fBurst.fD),(vi i.fRate.fN),(vi i.fRate.fD)])] w₀ fun e w'=>e = .returned (.bool r)/\Hp [] w₀ w' []:=by
 unfold y5B at h
 refine Lz func223 ntmps223 ?_
 refine WC.b<|Ld (Lg 2 (yI (cs:=[(vi g.fBurst.fN),(vi g.fBurst.fD),(vi g.fRate.fN),(vi g.fRate.fD)]) U U) fun q _=>Lg 3 (yI (cs:=[(vi i.fBurst.fN),(vi i.fBurst.fD),(vi i.fRate.fN),(vi i.fRate.fD)]) U U) fun t _=>La U<|WL.nil<|Lb<|WC.b ?_)
 obtain⟨k,f,h⟩:=za h
 obtain⟨l,j,h⟩:=za h
 refine Ld<|Le 5 (yi z38 U (yj .h1) U)<|Le 6 (yi z38 U (yj .here) U)<|Le 7 (yck (enc:=y1O) (a:=g) (b:=i) zDf U U)<|La U<|Lu true 6 8 (B:=k) U U U U U U (fun h=>(oJ<|ys f h).symm) (fun _ m=>?_) ?_
 ·skip
  have c:=yr f m
  obtain⟨u,n,c⟩:=za c
  replace c:=oJ c
  refine Le 9 (ya y5t U U)<|Le 10 (yX (cs:=[(vi g.fBurst.fN),(vi g.fBurst.fD)]) zg U U<|y3w (s:=2) .h1 U)<|Le 11 (ya y5t U U)<|Le 12 (yX (cs:=[(vi i.fBurst.fN),(vi i.fBurst.fD)]) zg U U<|y3w (s:=2) .here U)<|Ll 13 (zb call129<|.r2 U U) .nil (cc hz .nil fun w pz ho=>y4Z n w pz )<|La U<|La U ?_
  exact Lv c U U .all
 refine La U<|Lu true 6 16 (B:=l) U U U U U U (fun h=>(oJ<|ys j h).symm) (fun _ o=>?_) ?_
 ·skip
  have d:=yr j o
  obtain⟨v,p,d⟩:=za d
  replace d:=oJ d
  refine Le 17 (ya y6p U U)<|Le 18 (yX (cs:=[(vi g.fRate.fN),(vi g.fRate.fD)]) zg U U<|y3w (s:=2) .h1 U)<|Le 19 (ya y6p U U)<|Le 20 (yX (cs:=[(vi i.fRate.fN),(vi i.fRate.fD)]) zg U U<|y3w (s:=2) .here U)<|Ll 21 (zb call129<|.r2 U U) .nil (cc hz .nil fun w pz ho=>y4Z p w pz )<|La U<|La U ?_
  exact Lv d U U .all
 refine La U<|WL.nil<|Lb<|WC.ret ?_
 obtain rfl:=oJ h
 refine Lh results223 (.tmp U .nil)<|fun w hw=>?_
 exact⟨yD U,hw.sub .nil⟩
def y5K(a:z6)(b:z6):Option Bool:=
 (y5B a b).bind fun c=>some c
theorem ygk{Z:Zp}{r:Bool}(h:y5K g i=some r)(w₀:World)(hz:PZ [] w₀ Z)(a:ZC Z x [(vi i.fBurst.fN),(vi i.fBurst.fD),(vi i.fRate.fN),(vi i.fRate.fD)]):
  Calls Tryz.prog 222 #[(.agg #[(vi g.fBurst.fN),(vi g.fBurst.fD),(vi g.fRate.fN),(vi g.fRate.fD)]),(vq x)] w₀ fun e w'=>e = .returned (.bool r)/\Hp [] w₀ w' []:=by
 unfold y5K at h
 refine Lz func222 ntmps222 ?_
 refine WC.b<|Ld (Lg 2 (yI (cs:=[(vi g.fBurst.fN),(vi g.fBurst.fD),(vi g.fRate.fN),(vi g.fRate.fD)]) U U) fun c _=>La U<|WL.nil<|Lb<|WC.b ?_)
 obtain⟨d,b,h⟩:=za h
 refine Ld<|Le 4 (yi z38 U (yj .here) U)<|Le 5 (yi z38 U (y2j hz.pv a) U)<|Ll 6 (zb call223<|.r2 U U) .nil (cc hz .nil fun w pz ho=>yew b w pz )<|La U<|WL.nil<|Lb<|WC.ret ?_
 obtain rfl:=oJ h
 refine Lh results222 (.tmp U .nil)<|fun w hw=>?_
 exact⟨yD U,hw.sub .nil⟩
def y6J(a:z6)(b:z6):Option Int:=
 (y1w a.fBurst b.fBurst).bind fun c=>some c
theorem ygl{Z:Zp}{r:Int}(h:y6J g i=some r)(w₀:World)(hz:PZ [] w₀ Z):
  Calls Tryz.prog 225 #[(.agg #[(vi g.fBurst.fN),(vi g.fBurst.fD),(vi g.fRate.fN),(vi g.fRate.fD)]),(.agg #[(vi i.fBurst.fN),(vi i.fBurst.fD),(vi i.fRate.fN),(vi i.fRate.fD)])] w₀ fun e w'=>e = .returned (vi r)/\Hp [] w₀ w' []:=by
 unfold y6J at h
 refine Lz func225 ntmps225 ?_
 refine WC.b<|Ld (Lg 2 (yI (cs:=[(vi g.fBurst.fN),(vi g.fBurst.fD),(vi g.fRate.fN),(vi g.fRate.fD)]) U U) fun b _=>Lg 3 (yI (cs:=[(vi i.fBurst.fN),(vi i.fBurst.fD),(vi i.fRate.fN),(vi i.fRate.fD)]) U U) fun c _=>La U<|WL.nil<|Lb<|WC.b ?_)
 obtain⟨d,a,h⟩:=za h
 refine Ld<|Le 5 (ya y5t U U)<|Le 6 (yX (cs:=[(vi g.fBurst.fN),(vi g.fBurst.fD)]) zg U U<|y3w (s:=2) .h1 U)<|Le 7 (ya y5t U U)<|Le 8 (yX (cs:=[(vi i.fBurst.fN),(vi i.fBurst.fD)]) zg U U<|y3w (s:=2) .here U)<|Ll 9 (zb call129<|.r2 U U) .nil (cc hz .nil fun w pz ho=>y4Z a w pz )<|La U<|WL.nil<|Lb<|WC.ret ?_
 obtain rfl:=oJ h
 refine Lh results225 (.tmp U .nil)<|fun w hw=>?_
 exact⟨yD U,hw.sub .nil⟩
theorem zSw:∀ w,(isAgg (Tryz.y3E.t 24)).run Tryz.prog w = .ok true w:=fun _=>by kernel_rfl
theorem zSx:∀ w,(Go.sizeOf (Tryz.y3E.t 24)).run Tryz.prog w = .ok 4 w:=fun _=>by kernel_rfl
def y41(z5M:List z6)(zmm:Int)(zmn:Int)(ziF:Int)(zgb:z6->z6->Option Int):Option (List z6):=chk ((zmm=0/\zmn=(z5M.length:Int))/\(0<=ziF/\ziF<4611686018427387904/\z5M.length<4611686018427387904)) (chk (y8r zgb (yK zgb z5M)=true) (some (yK zgb z5M)))
theorem y8d(Z:Zp)(zgc:Option Addr)(zgd:Nat)(zmo:FuncId)(zxd:List Value)(z5M:List z6)(zmm:Int)(zmn:Int)(ziF:Int)(zgb:z6->z6->Option Int)(r:List z6)(w₀:World)(hz:PZ (fps [row (vs zgc z5M.length zgd) 225 4 (z5M.flatMap y1O)]) w₀ Z)(a:∀ args w,(callFunc zmo args).run Tryz.prog w = .ok (.enter zmo args) w)(b:∀ w:World,PZ [] w Z->∀(x0:z6) (x1:z6) (r:Int),zgb x0 x1=some r->Calls Tryz.prog zmo (([(.agg #[(vi x0.fBurst.fN),(vi x0.fBurst.fD),(vi x0.fRate.fN),(vi x0.fRate.fD)]),(.agg #[(vi x1.fBurst.fN),(vi x1.fBurst.fD),(vi x1.fRate.fN),(vi x1.fRate.fD)])]:List Value)++zxd).toArray w fun e w'=>e = .returned (vi r)/\Hp [] w w' [])(h:y41 z5M zmm zmn ziF zgb=some r)(hown:Hp (fps [row (vs zgc z5M.length zgd) 225 4 (z5M.flatMap y1O)]) w₀ w₀ [row (vs zgc z5M.length zgd) 225 4 (z5M.flatMap y1O)]):
  Calls Tryz.prog 229 #[(vs zgc z5M.length zgd),(vi zmm),(vi zmn),(vi ziF),(.func (.func zmo) #[] (zxd).toArray)] w₀ fun e w'=>e = .returned (.tuple #[])/\(r.length=z5M.length)/\Hp (fps [row (vs zgc z5M.length zgd) 225 4 (z5M.flatMap y1O)]) w₀ w' [row (vs zgc r.length zgd) 225 4 (r.flatMap y1O)]:=by
 obtain⟨h0,h⟩:=yo h
 obtain⟨h1,h⟩:=yo h
 have hr:=(oJ h).symm
 exact y9S (P:=Tryz.prog) (f:=229) (e:=225) (k:=4) (enc:=y1O) (fun _=>U) (by decide) yiV (fun β _ enc cf g cb hO blk off cap d0 w0 eg hC R=>Tryz.y9q 4 zSw zSx enc cf g cb hO blk off cap d0 w0 eg hC R) (Tryz.y9e (α:=Unit)) hz a b h0 h1 hr hown
def y1t(a:List z6)(ziG:z6->z6->Option Int):Option (List z6):=
 (y4i (u64 (a.length:Int))).bind fun b=>(y41 a 0 (a.length:Int) b ziG).bind fun c=>some c
theorem y7n(Z:Zp)(b:Option Addr)(c:Nat)(ziH:FuncId)(zpE:List Value)(a:List z6)(ziG:z6->z6->Option Int)(r:List z6)(h:y1t a ziG=some r)(w₀:World)(hz:PZ (fps [row (vs b a.length c) 225 4 (a.flatMap y1O)]) w₀ Z)(j:∀ args w,(callFunc ziH args).run Tryz.prog w = .ok (.enter ziH args) w)(k:∀ w:World,PZ [] w Z->∀(x0:z6) (x1:z6) (r:Int),ziG x0 x1=some r->Calls Tryz.prog ziH (([(.agg #[(vi x0.fBurst.fN),(vi x0.fBurst.fD),(vi x0.fRate.fN),(vi x0.fRate.fD)]),(.agg #[(vi x1.fBurst.fN),(vi x1.fBurst.fD),(vi x1.fRate.fN),(vi x1.fRate.fD)])]:List Value)++zpE).toArray w fun e w'=>e = .returned (vi r)/\Hp [] w w' [])(hown:Hp (fps [row (vs b a.length c) 225 4 (a.flatMap y1O)]) w₀ w₀ [row (vs b a.length c) 225 4 (a.flatMap y1O)]):
  Calls Tryz.prog 224 #[(vs b a.length c),(.func (.func ziH) #[] (zpE).toArray)] w₀ fun e w'=>e = .returned (.tuple #[])/\(r.length=a.length)/\Hp (fps [row (vs b a.length c) 225 4 (a.flatMap y1O)]) w₀ w' [row (vs b r.length c) 225 4 (r.flatMap y1O)]:=by
 unfold y1t at h
 refine Kf func224 ntmps224 hown ?_
 refine WC.b<|Ld<|La U<|Le 6 (yJ underlying227 U)<|La U<|WL.nil<|Lb ?_
 obtain⟨d,l,h⟩:=za h
 obtain⟨f,m,h⟩:=za h
 refine Ld<|La U<|La U<|La U<|Le 10 (y8R underlying3 underlying147 U U)<|Ll 11 (zb call57<|.cons U .nil) .nil (cc hz .nil fun w pz ho=>y91 (Z:=_)  (z8d:=(u64 (a.length:Int))) (r:=d) w pz  l)<|La U<|WL.y5c (dd:=13) U U U (zb call229<|.r5 U U U U U) (.cons .here .nil) (cc hz (.cons .here .nil) fun w pz ho=>y8d (Z:=_) (zgc:=b) (zgd:=c) (zmo:=ziH) (zxd:=zpE) (z5M:=a) (zmm:=0) (zmn:=(a.length:Int)) (ziF:=d) (zgb:=ziG) (r:=f) w pz j k m ho) ?_
 rintro  g
 refine Kh (i:=0) U (u:=(vs b f.length c)) (yac g.symm)<|WL.nil ?_
 obtain rfl:=oJ h
 refine WX.y58 results224 .nil<|fun w hw=>?_
 exact⟨y7A,(g.trans U),hw.sub (.cons .here .nil)⟩
def y4P(b:List z6)(d:(List z6)->Option (List z6)):Nat->(List z6)->Int->Option (List z6)
 | 0,_,_=>none
 | f+1,c,a=>if decide (a<(b.length:Int)) then jp1 (fun(g:List z6)=>y4P b d f g (i64 (a+1))) fun e=>chk ((0:Int)<=a/\a<(b.length:Int)) ((y2x c (⟨(⟨(((nth b a).fBurst).fN),(((nth b a).fBurst).fD)⟩:z2),(⟨(((nth b a).fRate).fN),(((nth b a).fRate).fD)⟩:z2)⟩:z6)).bind fun h=>(if !h then(y1D b (fun(y0:z6)=>y5K y0 (⟨(⟨(((nth b a).fBurst).fN),(((nth b a).fBurst).fD)⟩:z2),(⟨(((nth b a).fRate).fN),(((nth b a).fRate).fD)⟩:z2)⟩:z6))).bind fun i=>some (!i) else some false).bind fun j=>if j then chk ((((c++([(⟨(⟨(((nth b a).fBurst).fN),(((nth b a).fBurst).fD)⟩:z2),(⟨(((nth b a).fRate).fN),(((nth b a).fRate).fD)⟩:z2)⟩:z6)]:List z6)).length:Nat):Int)*32<=140737488355328/\(((c++([(⟨(⟨(((nth b a).fBurst).fN),(((nth b a).fBurst).fD)⟩:z2),(⟨(((nth b a).fRate).fN),(((nth b a).fRate).fD)⟩:z2)⟩:z6)]:List z6)).length:Nat):Int)<=4611686018427387904) (e (c++([(⟨(⟨(((nth b a).fBurst).fN),(((nth b a).fBurst).fD)⟩:z2),(⟨(((nth b a).fRate).fN),(((nth b a).fRate).fD)⟩:z2)⟩:z6)]:List z6))) else e c) else d c
def y7J(d:List z6):Option (List z6):=
 jp1 (fun(a:List z6)=>(y1t a (fun(y0:z6) (y1:z6)=>y6J y0 y1)).bind fun b=>some b) fun c=>y4P d c yy ([]:List z6) 0
theorem yhH{Z:Zp}{r:List z6}(h:y7J k=some r)(w₀:World)(hz:PZ [] w₀ Z)(z:ZS Z 4 (fun r x=>r=y1O x) q m k):
  Calls Tryz.prog 212 #[(vs q k.length m)] w₀ fun e w'=>∃ D:Option Addr,∃ E:Nat,e = .returned (vs D r.length E)/\True/\Hp [] w₀ w' [row (vs D r.length E) 225 4 (r.flatMap y1O)]:=by
 unfold y7J at h
 refine L5 func212 ntmps212 ?_
 refine WC.b<|Ld<|La U<|WL.nil<|Lb<|WC.b<|Ld<|La U<|WL.nil<|Lb ?_
 obtain⟨F,H,h⟩:=y13 h
 refine Kb (fun(d:List z6) (j:Option Addr) (n:Nat)=>(F d=some r)) (fun d j n=>[(3,(vs j d.length n))]) (fun d j n=>[row (vs j d.length n) 225 4 (d.flatMap y1O)]) ?_ ?_
 ·skip
  let A:Value:=(vs q k.length m);let C:Value:=(vi (k.length:Int));refine WC.b (Ld (La U (Le 7 (yJ underlying227 U) (La U (WL.nil (Lb (WC.block (WC.nilRow 225 4 (WC.y7B (fun(s:Nat) (b:List z6) (a:Int) (f:Option Addr) (g:Nat)=>(y4P k F s b a=some r)) (fun s b a f g=>[(0,A),(3,(vs f b.length g)),(6,A),(7,C),(8,(vi a))]) (fun s b a f g=>[row (vs f b.length g) 225 4 (b.flatMap y1O)]) (fun s b a f g=>s) ⟨yy,([]:List z6),0,none,0⟩ h (.r5 U U U U U) (.cons .here .nil) ?_)))))))))
  rintro(_|I) b a f g h;·cases h
  rw[y4P] at h
  refine WC.b<|Ld<|La U<|WL.nil<|Lb<|WC.b<|WC.cond U (fun v=>?_)<|fun v=>?_
  ·replace h:=yr h v
   refine WC.skip<|Lb ?_
   obtain⟨J,K,h⟩:=y13 h
   refine Kb (fun(c:List z6) (o:Option Addr) (p:Nat)=>(J c=some r)) (fun c o p=>[(0,A),(3,(vs o c.length p)),(6,A),(7,C),(8,(vi a))]) (fun c o p=>[row (vs o c.length p) 225 4 (c.flatMap y1O)]) ?_ ?_
   ·skip
    refine WC.block<|WC.b ?_
    obtain⟨L,h⟩:=yo h
    refine Ld<|L0 (dd:=10) U U (Z:=Z) (Pr:=(fun r x=>r=y1O x)) z7A U U z L ?_
    rintro aa ab M ad rfl
    refine Le 11 (yi z38 U (y2j hz.pv M) U) (Lg 5 (yu (cs:=[(vi 0),(vi 0),(vi 0),(vi 0)]) zaX U) fun N _=>Lk U U (yl z9C U U U .here U U U)<|WL.nil<|Lb<|WC.b ?_)
    obtain⟨af,O,h⟩:=za h
    obtain⟨P,G,h⟩:=za h
    refine Ld<|La U<|Le 13 (yi z38 U (yj .here) U)<|Ll 14 (zb call221<|.r2 U U) .nil (ccl hz .nil (.cons .h1 .nil) fun w pz ho la=>y7m O w pz<|ZA.row (la _ (.head _) _) (RR.flat (enc:=y1O) (fun _=>U) _) ⟨w,pz.1⟩)<|La U<|La U<|Lu true 4 16 (B:=P) U U U U U U (fun h=>(oJ<|ys G h).symm) (fun _ Q=>?_) ?_
    ·skip
     have t:=yr G Q
     obtain⟨ag,R,t⟩:=za t
     replace t:=oJ t
     refine La U<|Le 18 (y15<|L2 (l:=[.tmp 5])<|.cons U .nil)<|Ll 19 (zb call208<|.r2 U U) .nil (ccl hz .nil (.cons .here .nil) fun w pz ho la=>y4s _ _ _ (zg6:=222) (zma:=[(vp N)]) _ (zg5:=(fun(y0:z6)=>y5K y0 (⟨(⟨(((nth k a).fBurst).fN),(((nth k a).fBurst).fD)⟩:z2),(⟨(((nth k a).fRate).fN),(((nth k a).fRate).fD)⟩:z2)⟩:z6))) _ R w pz (z.mono<|Zle.left _ _) call222<|fun w' hz' y0  r  hr=>ygk hr w' hz'<|(la _ (.head _) _).stb)<|La U<|La U ?_
     exact Lv t U U .all
    refine WL.nil<|Lb<|WC.cond U (fun y=>?_)<|fun y=>?_
    ·replace h:=yr h y
     obtain⟨S,h⟩:=yo h
     refine Ld<|La U<|Le 23 (yi z38 U (yj .here) U) (Lg 24 (yT (cs:=([(⟨(⟨(((nth k a).fBurst).fN),(((nth k a).fBurst).fD)⟩:z2),(⟨(((nth k a).fRate).fN),(((nth k a).fRate).fD)⟩:z2)⟩:z6)]:List z6).flatMap y1O) z7A (Lo (l:=[.tmp 23]) (.cons U .nil) [0]) (fun _=>by kernel_rfl) U (by unfold maxLen;omega)) fun ae _=>WL.fA 25 (y4W (enc:=y1O) (l1:=b) (l2:=([(⟨(⟨(((nth k a).fBurst).fN),(((nth k a).fBurst).fD)⟩:z2),(⟨(((nth k a).fRate).fN),(((nth k a).fRate).fD)⟩:z2)⟩:z6)]:List z6)) z7A U U .h2 (fun _=>U) U U (y3q .here) (y5i yiV _) S) ?_)
     rintro⟨T,V⟩ _
     refine La U<|WL.nil<|Lq ?_
     exact Ln ⟨(b++([(⟨(⟨(((nth k a).fBurst).fN),(((nth k a).fBurst).fD)⟩:z2),(⟨(((nth k a).fRate).fN),(((nth k a).fRate).fD)⟩:z2)⟩:z6)]:List z6)),T,V⟩ h (.r5 U U U U U)<|.cons .here .nil
    ·replace h:=ys h y
     refine WC.skip<|Lq ?_
     exact Ln ⟨b,f,g⟩ h (.r5 U U U U U)<|.cons .h1 .nil
   ·rintro c o p h
    replace h:=(K c).symm.trans h
    refine Ld<|La U<|La U<|WL.nil ?_
    exact WX.round ⟨I,c,(i64 (a+1)),o,p⟩ h (Nat.lt_succ_self _) (.r5 U U U U U)<|.cons .here .nil
  ·replace h:=ys h v
   refine WC.exit<|Lm<|Lm<|Lw ?_
   exact Ln ⟨b,f,g⟩ h (.cons U .nil)<|.cons .here .nil
 ·rintro d j n h
  replace h:=(H d).symm.trans h
  refine WC.b ?_
  obtain⟨W,X,h⟩:=za h
  refine Ld<|La U<|WL.y5c (dd:=28) U U U (zb call224<|.r2 U U) (.cons .here .nil) (cc hz (.cons .here .nil) fun w pz ho=>y7n _ _ _ (ziH:=225) (zpE:=[]) _ (ziG:=(fun(y0:z6) (y1:z6)=>y6J y0 y1)) _ X w pz call225 (fun w' hz' y0 y1  r  hr=>ygl hr w' hz' ) ho) ?_
  rintro  Y
  refine Kh (i:=3) U (u:=(vs j W.length n)) (yac Y.symm)<|WL.nil<|Lb<|WC.b<|Ld<|La U<|La U<|WL.nil<|Lb<|WC.ret ?_
  obtain rfl:=oJ h
  refine Lh results212 (.tmp U .nil)<|fun w hw=>?_
  exact⟨j,n,yD U,trivial,hw.sub (.cons .here .nil)⟩
def y7b(a:List z6)(b:List z6):Option (List z6×List z6):=
 some (a,b)
theorem yhg{Z:Zp}{r:List z6×List z6}(h:y7b k v=some r)(w₀:World)(hz:PZ [] w₀ Z)(i:ZS Z 4 (fun r x=>r=y1O x) q m k)(j:ZS Z 4 (fun r x=>r=y1O x) X W v):
  Calls Tryz.prog 213 #[(vs q k.length m),(vs X v.length W)] w₀ fun e w'=>∃ a:Nat,∃ b:Nat,∃ c:Option Addr,∃ d:Nat,∃ f:Option Addr,∃ g:Nat,e = .returned (.func (.func 226) #[] #[(vp a),(vp b)])/\((ZS Z 4 (fun r x=>r=y1O x) c d r.1)/\(ZS Z 4 (fun r x=>r=y1O x) f g r.2))/\Hp [] w₀ w' [stb a 227 [(vs c r.1.length d)],stb b 227 [(vs f r.2.length g)]]:=by
 unfold y7b at h
 refine Lz func213 ntmps213 ?_
 refine WC.b<|Ld (Lg 2 (yI (cs:=[(vs q k.length m)]) U U) fun n _=>Lg 3 (yI (cs:=[(vs X v.length W)]) U U) fun o _=>La U<|WL.nil<|Lb<|WC.b<|Ld<|Le 5 (y15<|L2 (l:=[.tmp 2,.tmp 3])<|.r2 U U)<|La U<|WL.nil<|Lb<|WC.ret ?_)
 obtain rfl:=oJ h
 refine Lh results213 (.tmp U .nil)<|fun w hw=>?_
 exact⟨n,o,q,m,X,W,yD U,⟨i,j⟩,hw.sub (.s2 .h1 .here)⟩
def y3K(zQ:Type)(z2n:List z6)(z5N:(z6×z6)->zQ->Option (Bool×zQ))(z1L:List z6)(b:Int)(d:zQ->Option zQ):Nat->Int->zQ->Option zQ
 | 0,_,_=>none
 | f+1,a,e=>if decide (a<(z2n.length:Int)) then chk ((0:Int)<=a/\a<(z2n.length:Int)) ((z5N ((⟨(⟨(((nth z1L b).fBurst).fN),(((nth z1L b).fBurst).fD)⟩:z2),(⟨(((nth z1L b).fRate).fN),(((nth z1L b).fRate).fD)⟩:z2)⟩:z6),(⟨(⟨(((nth z2n a).fBurst).fN),(((nth z2n a).fBurst).fD)⟩:z2),(⟨(((nth z2n a).fRate).fN),(((nth z2n a).fRate).fD)⟩:z2)⟩:z6)) e).bind fun c=>if !c.1 then some c.2 else y3K zQ z2n z5N z1L b d f (i64 (a+1)) c.2) else d e
theorem ybf{n:Nat}{z5N:(z6×z6)->u->Option (Bool×u)}{a:u->Option u}{b:u}{r:u}(h:y3K u k z5N v z a n w b=some r):∃ m,n=m+1:=by
 cases n with
 | zero=>cases h
 | succ m=>exact⟨m,rfl⟩
def y3L(zQ:Type)(z1L:List z6)(z2n:List z6)(z5N:(z6×z6)->zQ->Option (Bool×zQ))(b:zQ->Option zQ):Nat->Int->zQ->Option zQ
 | 0,_,_=>none
 | d+1,a,c=>if decide (a<(z1L.length:Int)) then jp1 (fun(e:zQ)=>y3L zQ z1L z2n z5N b d (i64 (a+1)) e) fun f=>chk ((0:Int)<=a/\a<(z1L.length:Int)) (jp1 (fun(g:zQ)=>f g) fun h=>y3K zQ z2n z5N z1L a h yy 0 c) else b c
theorem ybg{n:Nat}{z5N:(z6×z6)->u->Option (Bool×u)}{a:u->Option u}{b:u}{r:u}(h:y3L u k v z5N a n z b=some r):∃ m,n=m+1:=by
 cases n with
 | zero=>cases h
 | succ m=>exact⟨m,rfl⟩
def y5m(zQ:Type)(z5N:(z6×z6)->zQ->Option (Bool×zQ))(z9V:zQ)(z1L:List z6)(z2n:List z6):Option zQ:=
 jp1 (fun(a:zQ)=>some a) fun b=>y3L zQ z1L z2n z5N b yy 0 z9V
theorem yfC(Z:Zp)(zQ:Type)(zgh:Nat)(z9k:Type)(z7e:z9k->zQ->Asrt)(zbV:z9k->zQ->Prop)(zgi:z9k)(zxm:Addr)(zgj:Option Addr)(zgk:Nat)(zgl:Addr)(zpK:Option Addr)(zpL:Nat)(z5N:(z6×z6)->zQ->Option (Bool×zQ))(z9V:zQ)(z1L:List z6)(z2n:List z6)(r:zQ)(w₀:World)(hz:PZ (fps [z7e zgi z9V]) w₀ Z)(N:ybM Tryz.prog Z zgh (α:=z6×z6) (σ:=zQ) (G:=z9k) (H:=Unit) (fun h x=>[(.agg #[(vi x.1.fBurst.fN),(vi x.1.fBurst.fD),(vi x.1.fRate.fN),(vi x.1.fRate.fD)]),(.agg #[(vi x.2.fBurst.fN),(vi x.2.fBurst.fD),(vi x.2.fRate.fN),(vi x.2.fRate.fD)])]) (fun h x=>[]) z5N z7e zbV)(O:zbV zgi z9V)(P:ZS Z 4 (fun r x=>r=y1O x) zgj zgk z1L)(Q:ZC Z zxm [(vs zgj z1L.length zgk)])(R:ZS Z 4 (fun r x=>r=y1O x) zpK zpL z2n)(S:ZC Z zgl [(vs zpK z2n.length zpL)])(h:y5m zQ z5N z9V z1L z2n=some r)(hown:Hp (fps [z7e zgi z9V]) w₀ w₀ [z7e zgi z9V]):
  Calls Tryz.prog 226 #[(.func (.yield zgh) #[] #[]),(vq zxm),(vq zgl)] w₀ fun e w'=>∃ B:z9k,e = .returned (.tuple #[])/\(zbV B r)/\Hp (fps [z7e zgi z9V]) w₀ w' [z7e B r]:=by
 unfold y5m at h
 refine Calls.oh3 func226 ntmps226 hown ?_
 refine WC.b<|Ld<|Le 8 (yc zda U<|y3x hz.pv Q U)<|Le 9 (yJ underlying227 U)<|La U<|WL.nil<|Lb ?_
 obtain⟨E,T,h⟩:=y13 h
 refine WC.y9m (fun(m:zQ) (n:z9k)=>(E m=some r)/\(zbV n m)) (fun m n=>[]) (fun m n=>[z7e n m]) ?_ ?_
 ·skip
  let A:Value:=(.func (.yield zgh) #[] #[]);let C:Value:=(vs zgj z1L.length zgk);let D:Value:=(vi (z1L.length:Int));refine WC.block (WC.y5s (fun(o:Nat) (a:Int) (i:zQ) (j:z9k)=>(y3L zQ z1L z2n z5N E o a i=some r)/\(zbV j i)) (fun o a i j=>[(0,A),(2,(vq zgl)),(8,C),(9,D),(10,(vi a))]) (fun o a i j=>[z7e j i]) (fun o a i j=>o) ⟨yy,0,z9V,zgi⟩ ⟨h,O⟩ (.r5 U U U U U) (.cons .here .nil) ?_)
  rintro o a i j ⟨h,F⟩
  obtain⟨V,rfl⟩:=ybg h
  rw[y3L] at h
  refine WC.b<|Ld<|La U<|WL.nil<|Lb<|WC.b<|WC.cond U (fun u=>?_)<|fun u=>?_
  ·replace h:=yr h u
   refine WC.skip<|Lb ?_
   obtain⟨W,X,h⟩:=y13 h
   refine WC.y59 (fun(k:zQ) (p:z9k)=>(W k=some r)/\(zbV p k)) (fun k p=>[(0,A),(2,(vq zgl)),(8,C),(9,D),(10,(vi a))]) (fun k p=>[z7e p k]) ?_ ?_
   ·skip
    refine WC.block<|WC.b ?_
    obtain⟨Y,h⟩:=yo h
    refine Ld<|L0 (dd:=12) U U (Z:=Z) (Pr:=(fun r x=>r=y1O x)) z7A U U P Y ?_
    rintro ak al aa am rfl
    refine Le 13 (yi z38 U (y2j hz.pv aa) U) (Lg 5 (yu (cs:=[(vi 0),(vi 0),(vi 0),(vi 0)]) zaX U) fun I _=>Lk U U (yl z9C U U U .here U U U)<|WL.nil<|Lb<|WC.b<|Ld<|Le 14 (yc zda U<|y3x hz.pv S U)<|Le 15 (yJ underlying227 U)<|La U<|WL.nil<|Lb ?_)
    obtain⟨J,ab,h⟩:=y13 h
    refine WC.y9m (fun(l:zQ) (q:z9k)=>(J l=some r)/\(zbV q l)) (fun l q=>[(0,A),(2,(vq zgl)),(8,C),(9,D),(10,(vi a))]) (fun l q=>[z7e q l]) ?_ ?_
    ·skip
     refine WC.block<|WC.y5s (fun(t:Nat) (c:Int) (d:zQ) (f:z9k)=>(y3K zQ z2n z5N z1L a J t c d=some r)/\(zbV f d)) (fun t c d f=>[(0,A),(2,(vq zgl)),(5,(vp I)),(8,C),(9,D),(10,(vi a)),(14,(vs zpK z2n.length zpL)),(15,(vi (z2n.length:Int))),(16,(vi c))]) (fun t c d f=>[stb I 225 [(vi<|((nth z1L a).fBurst).fN),(vi<|((nth z1L a).fBurst).fD),(vi<|((nth z1L a).fRate).fN),(vi<|((nth z1L a).fRate).fD)],z7e f d]) (fun t c d f=>t) ⟨yy,0,i,j⟩ ⟨h,F⟩ (.r9 U U U U U U U U U) (.a2) ?_
     rintro t c d f ⟨h,K⟩
     obtain⟨ad,rfl⟩:=ybf h
     rw[y3K] at h
     refine WC.b<|Ld<|La U<|WL.nil<|Lb<|WC.b<|WC.cond U (fun v=>?_)<|fun v=>?_
     ·replace h:=yr h v
      refine WC.skip<|Lb<|WC.b<|WC.block<|WC.b ?_
      obtain⟨ae,h⟩:=yo h
      refine Ld<|L0 (dd:=18) U U (Z:=Z) (Pr:=(fun r x=>r=y1O x)) z7A U U R ae ?_
      rintro an ao af ap rfl
      refine Le 19 (yi z38 U (y2j hz.pv af) U) (Lg 7 (yu (cs:=[(vi 0),(vi 0),(vi 0),(vi 0)]) zaX U) fun aq _=>Lk U U (yl z9C U U U .here U U U)<|WL.nil<|Lb<|WC.b ?_)
      obtain⟨y,ag,h⟩:=za h
      refine Ld<|La U<|Le 21 (yi z38 U (yj .h1) U)<|Le 22 (yi z38 U (yj .here) U) (WL.yield (dd:=23) (x:=((⟨(⟨(((nth z1L a).fBurst).fN),(((nth z1L a).fBurst).fD)⟩:z2),(⟨(((nth z1L a).fRate).fN),(((nth z1L a).fRate).fD)⟩:z2)⟩:z6),(⟨(⟨(((nth z2n c).fBurst).fN),(((nth z2n c).fBurst).fD)⟩:z2),(⟨(((nth z2n c).fRate).fN),(((nth z2n c).fRate).fD)⟩:z2)⟩:z6))) (h:=()) (g:=f) (s:=d) (b:=y.1) (s':=y.2) N U U U (.r2 U U) ((.cons .h2 .nil):Sel _ [z7e f d] _) ag K (fun w hw=>hz.call hw ((.cons .h2 .nil):Sel _ [z7e f d] _)) fun L M=>La U<|WL.nil<|Lb<|WC.cond U (fun z=>?_)<|fun z=>?_)
      ·replace h:=yr h z
       refine WC.ret<|Lt<|Lj<|Lj<|Lt<|Lj<|Lt<|Lj<|Lj<|Lt<|Lj ?_
       obtain rfl:=oJ h
       refine Lh results226 .nil<|fun w hw=>?_
       exact⟨L,y7A,M,hw.sub (.cons .here .nil)⟩
      ·replace h:=ys h z
       refine WC.skip<|Lq<|Lb<|Ld<|La U<|La U<|WL.nil ?_
       exact WX.round ⟨ad,(i64 (c+1)),y.2,L⟩ ⟨h,M⟩ (Nat.lt_succ_self _) (.r9 U U U U U U U U U)<|.s2 .h2 .here
     ·replace h:=ys h v
      refine WC.exit<|Lm<|Lm<|Lw ?_
      exact Ln ⟨d,f⟩ ⟨h,K⟩ (.r5 U U U U U)<|.cons .h1 .nil
    ·rintro l q ⟨h,ah⟩
     replace h:=(ab l).symm.trans h
     refine Lq ?_
     exact Ln ⟨l,q⟩ ⟨h,ah⟩ (.r5 U U U U U)<|.cons .here .nil
   ·rintro k p ⟨h,ai⟩
    replace h:=(X k).symm.trans h
    refine Ld<|La U<|La U<|WL.nil ?_
    exact WX.round ⟨V,(i64 (a+1)),k,p⟩ ⟨h,ai⟩ (Nat.lt_succ_self _) (.r5 U U U U U)<|.cons .here .nil
  ·replace h:=ys h u
   refine WC.exit<|Lm<|Lm<|Lw ?_
   exact Ln ⟨i,j⟩ ⟨h,F⟩ .nil<|.cons .here .nil
 ·rintro m n ⟨h,aj⟩
  replace h:=(T m).symm.trans h
  obtain rfl:=oJ h
  refine WX.y58 results226 .nil<|fun w hw=>?_
  exact⟨n,y7A,aj,hw.sub (.cons .here .nil)⟩
def yaw(a:z2)(b:z2):Option (Int×Int):=
 some ((i64 ((i64 (a.fN*b.fD))-(i64 (b.fN*a.fD)))),(i64 (a.fD*b.fD)))
theorem yjM{Z:Zp}{c:Addr}{r:Int×Int}(h:yaw j s=some r)(w₀:World)(hz:PZ [] w₀ Z)(a:ZC Z x [(vi j.fN),(vi j.fD)])(b:ZC Z c [(vi s.fN),(vi s.fD)]):
  Calls Tryz.prog 188 #[(vq x),(vq c)] w₀ fun e w'=>e = .returned (.tuple #[(vi r.1),(vi r.2)])/\Hp [] w₀ w' []:=by
 unfold yaw at h
 refine Lz func188 ntmps188 ?_
 refine WC.b<|Ld<|La U<|La U<|WL.nil<|Lb<|WC.b<|Lx (fun i=>[].contains i) [] U<|Lf 0 4 U (fun _=>ya y2G U U)<|Li 1 5 U (yc yq U<|y1b hz.pv a U)<|Lf 2 6 U (fun _=>ya y34 U U)<|Li 3 7 U (yc yq U<|y1b hz.pv b U)<|Lf 4 8 U (fun _=>y7p U U U)<|Lf 5 9 U (fun _=>ya y2G U U)<|Li 6 10 U (yc yq U<|y1b hz.pv b U)<|Lf 7 11 U (fun _=>ya y34 U U)<|Li 8 12 U (yc yq U<|y1b hz.pv a U)<|Lf 9 13 U (fun _=>y7p U U U)<|Lf 10 14 U (fun _=>y9I U U U)<|Lf 11 15 U (fun _=>ya y34 U U)<|Li 12 16 U (yc yq U<|y1b hz.pv a U)<|Lf 13 17 U (fun _=>ya y34 U U)<|Li 14 18 U (yc yq U<|y1b hz.pv b U)<|Lf 15 19 U (fun _=>y7p U U U)<|Lf 16 2 U (fun _=>q_z U)<|Lf 17 3 U (fun _=>q_z U)<|WD.done (by kernel_rfl)<|Lb<|WC.ret ?_
 obtain rfl:=oJ h
 refine Lh results188 (.tmp U<|.tmp U .nil)<|fun w hw=>?_
 exact⟨y1T U U,hw.sub .nil⟩
def ya0(a:z2)(b:z2):Option (z2×Int):=
 (y1Y a).bind fun e=>(if !e then some true else(y1Y b).bind fun f=>some (!f)).bind fun g=>if g then some ((⟨0,0⟩:z2),2) else(yaw a b).bind fun c=>(y5G c.1 c.2).bind fun d=>some (d.1,d.2)
theorem ykk{Z:Zp}{r:z2×Int}(h:ya0 j s=some r)(w₀:World)(hz:PZ [] w₀ Z):
  Calls Tryz.prog 159 #[(.string ⟨#[45]⟩),(.agg #[(vi j.fN),(vi j.fD)]),(.agg #[(vi s.fN),(vi s.fD)])] w₀ fun e w'=>e = .returned (.tuple #[(.agg #[(vi r.1.fN),(vi r.1.fD)]),(vi r.2)])/\Hp [] w₀ w' []:=by
 unfold ya0 at h
 refine Kd func159 ntmps159 ?_
 refine WC.b<|Ld (Lg 4 (yI (cs:=[(vi j.fN),(vi j.fD)]) U U) fun b _=>Lg 5 (yI (cs:=[(vi s.fN),(vi s.fD)]) U U) fun c _=>Lg 6 (yu (cs:=[(vi 0),(vi 0)]) zX U) fun t _=>La U<|WL.nil<|Lb<|WC.b<|WC.b ?_)
 obtain⟨y,i,h⟩:=za h
 obtain⟨f,g,h⟩:=za h
 refine Ld<|Le 9 (yi zg U (yj .h2) U)<|Ll 10 (zb call130<|.cons U .nil) .nil (cc hz .nil fun w pz ho=>y2W i w pz )<|La U<|La U<|Lu false 3 12 (B:=f) U U U U U U (fun h=>(oJ<|yr g h).symm) (fun _ m=>?_) ?_
 ·skip
  have a:=ys g m
  obtain⟨z,n,a⟩:=za a
  replace a:=oJ a
  refine Le 13 (yi zg U (yj .h1) U)<|Ll 14 (zb call130<|.cons U .nil) .nil (cc hz .nil fun w pz ho=>y2W n w pz )<|La U<|La U ?_
  exact Lv a U U .all
 refine La U<|Lu false 7 17 (B:=f) U U U U U U (fun h=>h) (fun _ o=>?_) ?_
 ·skip
  refine La U<|Le 19 (ydZ (r:=false) (by decide) U U)<|La U<|WL.e U U U<|WL.e U U U<|WL.e U U U<|La U<|La U ?_
  exact Lv (Eq.symm o) U U .all
 refine WL.nil<|Lb<|WC.cond U (fun d=>?_)<|fun d=>?_
 ·replace h:=yr h d
  refine WC.b<|Ld<|Le 26 (yN (v:=(.agg #[(vi 0),(vi 0)])) (Lo (l:=[]) .nil []) (fun _=>by kernel_rfl))<|Lk U U (yl zy U U U .here U U U)<|La U<|WL.nil<|Lb<|WC.ret<|Lj ?_
  obtain rfl:=oJ h
  refine Lh results159 (.agg U zg U (yj .here)<|.tmp U .nil)<|fun w hw=>?_
  exact⟨y1T U U,hw.sub .nil⟩
 ·replace h:=ys h d
  refine WC.skip<|Lb<|WC.b<|Ld<|Lg 27 (y3n Value.string<|fun x=>x) ?_
  intro u _
  let A:Value:=(.func (.func 188) #[] #[(vp b),(vp c)]);refine Le 28 (y15 (L2 (l:=[.tmp 4,.tmp 5]) (.r2 U U))) (Lk U U (y3X (k:=⟨#[43]⟩) (v:=(.func (.func 187) #[] #[(vp b),(vp c)])) y4q underlying304 U U U U .here) (Le 29 (y15 (L2 (l:=[.tmp 4,.tmp 5]) (.r2 U U))) (Lk U U (y3X (k:=⟨#[45]⟩) (v:=A) y4q underlying304 U U U U .here) (Le 30 (y15 (L2 (l:=[.tmp 4,.tmp 5]) (.r2 U U))) (Lk U U (y3X (k:=⟨#[42]⟩) (v:=(.func (.func 189) #[] #[(vp b),(vp c)])) y4q underlying304 U U U U .here) (Le 31 (y15 (L2 (l:=[.tmp 4,.tmp 5]) (.r2 U U))) (Lk U U (y3X (k:=⟨#[47]⟩) (v:=(.func (.func 190) #[] #[(vp b),(vp c)])) y4q underlying304 U U U U .here) (La U (La U (WL.nil (Lb (WC.b ?_))))))))))))
  obtain⟨C,p,h⟩:=za h
  obtain⟨D,q,h⟩:=za h
  refine Ld<|La U<|La U<|Le 35 (ydY (k:=⟨#[45]⟩) (dflt:=.nilFunc) (r:=A) y4q underlying304 zoB U U U .here (by rfl))<|Ll 36 (y2M (l:=[]) call188 U .nil) .nil (ccl hz .nil (.s2 .h3 .h2) fun w pz ho la=>yjM p w pz ((la _ (.head _) _).stb)<|(la _ (.tail _<|.head _) _).stb)<|La U<|La U<|Ll 39 (zb call160<|.r2 U U) .nil (cc hz .nil fun w pz ho=>y93 q w pz )<|La U<|La U<|Lk U U (yl zy U U U .h1 U U U)<|La U<|WL.nil<|Lb<|WC.ret ?_
  obtain rfl:=oJ h
  refine Lh results159 (.agg U zg U (yj .here)<|.tmp U .nil)<|fun w hw=>?_
  exact⟨y1T U U,hw.sub .nil⟩
def y2z(b:z2)(c:z2):Option (z2×Int):=
 (ya0 b c).bind fun a=>some (a.1,a.2)
theorem ya1{Z:Zp}{r:z2×Int}(h:y2z j s=some r)(w₀:World)(hz:PZ [] w₀ Z):
  Calls Tryz.prog 124 #[(.agg #[(vi j.fN),(vi j.fD)]),(.agg #[(vi s.fN),(vi s.fD)])] w₀ fun e w'=>e = .returned (.tuple #[(.agg #[(vi r.1.fN),(vi r.1.fD)]),(vi r.2)])/\Hp [] w₀ w' []:=by
 unfold y2z at h
 refine Lz func124 ntmps124 ?_
 refine WC.b<|Ld (Lg 2 (yI (cs:=[(vi j.fN),(vi j.fD)]) U U) fun b _=>Lg 3 (yI (cs:=[(vi s.fN),(vi s.fD)]) U U) fun c _=>Lg 4 (yu (cs:=[(vi 0),(vi 0)]) zX U) fun d _=>La U<|WL.nil<|Lb<|WC.b ?_)
 obtain⟨f,a,h⟩:=za h
 refine Ld<|Le 6 (yi zg U (yj .h2) U)<|Le 7 (yi zg U (yj .h1) U)<|Ll 8 (zb call159<|.r3 U U U) .nil (cc hz .nil fun w pz ho=>ykk a w pz )<|La U<|La U<|Lk U U (yl zy U U U .here U U U)<|La U<|WL.nil<|Lb<|WC.ret ?_
 obtain rfl:=oJ h
 refine Lh results124 (.agg U zg U (yj .here)<|.tmp U .nil)<|fun w hw=>?_
 exact⟨y1T U U,hw.sub .nil⟩
end Go.Proofs.YthjnhebofpebpaaGreat
