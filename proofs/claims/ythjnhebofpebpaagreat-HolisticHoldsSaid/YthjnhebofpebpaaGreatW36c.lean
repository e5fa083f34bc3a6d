/- A part of this claim's proof: models of functions, walks, plain laws. No conditions. -/
import Derived.Test.YthjnhebofpebpaaGreatW36b
set_option linter.all false
namespace Go.Proofs.YthjnhebofpebpaaGreat
open Go Go.RowKit Sep Tryz
variable {f g:Int}{i:List (List zd)}{j:z6}{k:zy}{l:List (z6×Int)}{o:List (List z8)}{p:List (Int×List Int)}{s:List (ym×z2)}
set_option maxRecDepth 30000
set_option maxHeartbeats 4000000
def jY(b:List (List zd))(k:z6)(d:zy)(g:List (z6×Int))(o:(List (List z8))->Int->Int->(List (Int×List Int))->(List (ym×z2))->Option (List (List z8)×Int×Int×(List (ym×z2)))):Nat->(List (List z8))->Int->Int->Int->(List (Int×List Int))->(List (ym×z2))->Option (List (List z8)×Int×Int×(List (ym×z2)))
 | 0,_,_,_,_,_,_=>none
 | t+1,h,l,a,i,e,c=>if decide (a<b.length) then jp5 (fun(u:List (List z8)) (v:Int) (w:Int) (x:List (Int×List Int)) (y:List (ym×z2))=>jY b k d g o t u v (i64 (a+1)) w x y) fun p=>chk (0<=a/\a<b.length) ((vG (nth b a) (fun(y0:zd)=>fV y0 k)).bind fun z=>if !z then p h l i e c else chk (0<=a/\a<d.yb.length) (chk (0<=a/\a<d.yb.length) ((jK ((nth d.yb a).yz)).bind fun j=>jp5 (fun(A:List (List z8)) (B:Int) (C:List (Int×List Int)) (D:Int) (E:Int)=>p A (max l ((nth d.yb a).yz)) B C (w7 c (⟨a,k⟩:ym) (⟨D,E⟩:z2))) fun q=>(uY (nth b a) k.ya).bind fun f=>if f.2 then(mw f.1).bind fun r=>(gU d b c g i a).bind fun F=>(mw f.1).bind fun G=>(jK (xK g G 0)).bind fun H=>(gX d b c g i (fun y0 y1=>gz y0 y1) F H).bind fun s=>(gX d b c g s.2 (fun y0 y1=>vV y0 y1) (⟨(xK c (⟨a,r⟩:ym) (⟨0,0⟩:z2)).fN,(xK c (⟨a,r⟩:ym) (⟨0,0⟩:z2)).fD⟩:z2) s.1).bind fun m=>chk ((((xK e f.1.fQ [])++([a]:List Int)).length:Int)*8<=140737488355328/\(((xK e f.1.fQ [])++([a]:List Int)).length:Int)<=4611686018427387904) (q h m.2 (w7 e f.1.fQ ((xK e f.1.fQ [])++([a]:List Int))) m.1.fN m.1.fD) else(gU d b c g i a).bind fun n=>chk ((((h++([([(⟨j,n⟩:z8)]:List z8)]:List (List z8))).length:Nat):Int)*24<=140737488355328/\(((h++([([(⟨j,n⟩:z8)]:List z8)]:List (List z8))).length:Nat):Int)<=4611686018427387904) (q (h++([([(⟨j,n⟩:z8)]:List z8)]:List (List z8))) i e j.fN j.fD)))) else o h l i e c
def jZ(b:List (Int×List Int))(c:Int)(e:zy)(f:List (List zd))(d:List (ym×z2))(g:List (z6×Int))(i:z6)(k:Int->Int->Int->Int->Int->Int->Option (List (List z8)×Int×Int×(List (ym×z2)))):Nat->Int->Int->Int->Int->Int->Int->Int->Option (List (List z8)×Int×Int×(List (ym×z2)))
 | 0,_,_,_,_,_,_,_=>none
 | r+1,l,a,m,n,o,p,q=>if decide (a<((xK b c []).length:Int)) then chk (0<=a/\a<((xK b c []).length:Int)) ((gX e f d g m (fun y0 y1=>vV y0 y1) (⟨n,o⟩:z2) (⟨(xK d (⟨nth (xK b c []) a,i⟩:ym) (⟨0,0⟩:z2)).fN,(xK d (⟨nth (xK b c []) a,i⟩:ym) (⟨0,0⟩:z2)).fD⟩:z2)).bind fun h=>(gU e f d g h.2 (nth (xK b c []) a)).bind fun s=>(gX e f d g h.2 (fun y0 y1=>vV y0 y1) (⟨p,q⟩:z2) s).bind fun j=>chk (0<=(nth (xK b c []) a)/\(nth (xK b c []) a)<e.yb.length) (jZ b c e f d g i k r (max l ((nth e.yb (nth (xK b c []) a)).yz)) (i64 (a+1)) j.2 h.1.fN h.1.fD j.1.fN j.1.fD)) else k l m n o p q
def kd(b:zy)(d:List (Int×List Int))(k:List (List zd))(l:List (ym×z2))(m:List (z6×Int))(n:z6)(o:(List (List z8))->Int->Option (List (List z8)×Int×Int×(List (ym×z2)))):Nat->(List (List z8))->Int->Int->Option (List (List z8)×Int×Int×(List (ym×z2)))
 | 0,_,_,_=>none
 | s+1,c,a,e=>if decide (a<b.fK.length) then sm (fun(t:List (List z8)) (u:Int)=>kd b d k l m n o s t (i64 (a+1)) u) fun p=>if decide (((xK d a []).length:Int)=0) then p c e else(jK 0).bind fun q=>(jK 0).bind fun r=>jp6 (fun(v:Int) (w:Int) (f:Int) (g:Int) (h:Int) (i:Int)=>(jK v).bind fun j=>chk (0<=a/\a<b.fK.length) (chk ((((c++([([(⟨(⟨f,g⟩:z2),(⟨h,i⟩:z2)⟩:z8),(⟨j,(⟨1,(nth b.fK a).yp⟩:z2)⟩:z8)]:List z8)]:List (List z8))).length:Nat):Int)*24<=140737488355328/\(((c++([([(⟨(⟨f,g⟩:z2),(⟨h,i⟩:z2)⟩:z8),(⟨j,(⟨1,(nth b.fK a).yp⟩:z2)⟩:z8)]:List z8)]:List (List z8))).length:Nat):Int)<=4611686018427387904) (p (c++([([(⟨(⟨f,g⟩:z2),(⟨h,i⟩:z2)⟩:z8),(⟨j,(⟨1,(nth b.fK a).yp⟩:z2)⟩:z8)]:List z8)]:List (List z8))) w))) fun x=>jZ d a b k l m n x xT 0 0 e q.fN q.fD r.fN r.fD else o c e
def mR(g:zy)(c:List (List zd))(h:List (ym×z2))(d:List (z6×Int))(i:Int)(e:z6):Option (List (List z8)×Int×Int×(List (ym×z2))):=
 jp5 (fun(a:List (List z8)) (j:Int) (k:Int) (l:List (Int×List Int)) (f:List (ym×z2))=>sm (fun(b:List (List z8)) (m:Int)=>chk (((a++b).length:Int)*24<=140737488355328/\((a++b).length:Int)<=4611686018427387904) (some (a++b,j,m,f))) fun n=>kd g l c f d e n xT ([]:List (List z8)) 0 k) fun o=>jY c e g d o xT ([]:List (List z8)) 0 0 i ([]:List (Int×List Int)) h
theorem ak{Z o bg bh bi bj bk bl bm bn bo bp bq br bs bt bu bv bw bx g m a ag bz p bA B r}(h:mR a ag bz p bA B=some r){Ny}(hz:Pz [stb o 119 [vs bg a.fM.length bh,vs bi a.ye.length bj,vs bk a.fS.length bl,vs bm a.fK.length bn,vs bo a.yb.length bp,vs bq a.fH.length br,vs bs a.fU.length bt,vs bu a.yf.length bv,vs bw ag.length bx,.map (some g),.map (some m),vi bA],xP g (ga jQ) (ga w4) bz,xP m (ga wd) vI p] Ny Z)(aV:ZS Z 4 (kB Z) bg bh a.fM)(aW:ZS Z 4 (g8 Z) bi bj a.ye)(aX:ZS Z 4 (rq kr) bk bl a.fS)(aN:ZS Z 4 (rq gH) bm bn a.fK)(ar:ZS Z 7 (g7 Z) bo bp a.yb)(aY:ZS Z 5 (rq gf) bq br a.fH)(aZ:ZS Z 3 (g9 Z) bs bt a.fU)(a0:ZS Z 4 (rq gg) bu bv a.yf)(aO:ZS Z 1 (fm Z) bw bx ag)(iF:Ho Ny [stb o 119 [vs bg a.fM.length bh,vs bi a.ye.length bj,vs bk a.fS.length bl,vs bm a.fK.length bn,vs bo a.yb.length bp,vs bq a.fH.length br,vs bs a.fU.length bt,vs bu a.yf.length bv,vs bw ag.length bx,.map (some g),.map (some m),vi bA],xP g (ga jQ) (ga w4) bz,xP m (ga wd) vI p]):
  Calls Tryz.prog 79 #[vp o,.agg #[vi B.ya,vi B.fQ]] Ny fun e w'=>∃ Zn:Zp,∃ cd:Option Addr,∃ ce:Nat,∃ cf:List Value,e = .returned (.tuple #[vs cd r.1.length ce,vi r.2.1])/\(RR 1 (jW (Z++Zn)) cf r.1)/\Hp (fps [stb o 119 [vs bg a.fM.length bh,vs bi a.ye.length bj,vs bk a.fS.length bl,vs bm a.fK.length bn,vs bo a.yb.length bp,vs bq a.fH.length br,vs bs a.fU.length bt,vs bu a.yf.length bv,vs bw ag.length bx,.map (some g),.map (some m),vi bA],xP g (ga jQ) (ga w4) bz,xP m (ga wd) vI p]) Ny w' [fz Zn,row (vs cd r.1.length ce) 227 1 cf,stb o 119 [vs bg a.fM.length bh,vs bi a.ye.length bj,vs bk a.fS.length bl,vs bm a.fK.length bn,vs bo a.yb.length bp,vs bq a.fH.length br,vs bs a.fU.length bt,vs bu a.yf.length bv,vs bw ag.length bx,.map (some g),.map (some m),vi r.2.2.1],xP g (ga jQ) (ga w4) r.2.2.2,xP m (ga wd) vI p]:=by
 unfold mR at h
 refine Nj func79 U iF U ?_
 let N:List Value:=[vi B.ya,vi B.fQ];refine WC.pool<|B0q<|Lh 3 (we (cs:=N)) ?_
 intro q _
 refine Q2n U<|B2n U<|B0q<|Lh 20 (kq vI<|slv (α:=Int)) ?_
 intro y _
 let C:Value:=(vs bw ag.length bx);let E:Value:=(vs bg a.fM.length bh);let F:Value:=(vs bi a.ye.length bj);let G:Value:=(vs bk a.fS.length bl);let H:Value:=(vs bm a.fK.length bn);let I:Value:=(vs bo a.yb.length bp);let J:Value:=(vs bq a.fH.length br);let K:Value:=(vs bs a.fU.length bt);let L:Value:=(vs bu a.yf.length bv);refine Ob (M:=[wM (qX 3 1 e3) ([]:List (Int×((Nat×(Option Addr×Nat))×List Int))),xP y vI slv (jP ([]:List (Int×((Nat×(Option Addr×Nat))×List Int)))),stb q 121 N,fz [],stb o 119 [E,F,G,H,I,J,K,L,C,(.map<|some g),(.map<|some m),vi bA],xP g (ga jQ) (ga w4) bz,xP m (ga wd) vI p]) (fun _ h=>Hp.eS (qX 3 1 e3) h)<|Q1n U<|B1n U ?_
 refine jK5 h fun cg ct h=>Pp (fun ao ap a1 T ah aC bB bC aj X=>(cg ao ap a1 T ah=some r)/\(xF (Z++[]) (Z++aC))/\(RR 1 (jW (Z++aC)) aj ao)/\(mP X=T)) (fun ao ap a1 T ah aC bB bC aj X=>[(0,vp o),(3,vp q),(6,vs bB ao.length bC),(7,vn),(8,(.map<|some y)),(9,vi ap)]) (fun ao ap a1 T ah aC bB bC aj X=>[fz aC,row (vs bB ao.length bC) 227 1 aj,stb o 119 [E,F,G,H,I,J,K,L,C,(.map<|some g),(.map<|some m),vi a1],stb q 121 N,xP y vI slv (jP X),wM (qX 3 1 e3) X,xP g (ga jQ) (ga w4) ah,xP m (ga wd) vI p]) ?_ ?_
 ·refine B1q U<|Le 22 w5<|Le 23 (xB MC)<|Le 24 (Nu zM2 .h4)<|Le 25 (wc underlying32)<|Q1n U<|WC.block<|WC.nilRow 227 1<|P6 (fun bD V au n aD z al t av aw am ai=>(jY ag B a p cg bD V au n aD z al=some r)/\(xF (Z++[]) (Z++t))/\(RR 1 (jW (Z++t)) am V)/\(mP ai=z)) (fun bD V au n aD z al t av aw am ai=>[(0,vp o),(3,vp q),(6,vs av V.length aw),(7,vn),(8,(.map<|some y)),(9,vi au),(24,C),(25,vi (ag.length:Int)),(26,vi n)]) (fun bD V au n aD z al t av aw am ai=>[fz t,row (vs av V.length aw) 227 1 am,stb o 119 [E,F,G,H,I,J,K,L,C,(.map<|some g),(.map<|some m),vi aD],stb q 121 N,xP y vI slv (jP ai),wM (qX 3 1 e3) ai,xP g (ga jQ) (ga w4) al,xP m (ga wd) vI p]) (fun bD V au n aD z al t av aw am ai=>bD) ⟨xT,([]:List (List z8)),0,0,bA,([]:List (Int×List Int)),bz,[],none,0,[],([]:List (Int×((Nat×(Option Addr×Nat))×List Int)))⟩ ⟨h,xF.refl _,RR.nil _ _,U⟩ .q (.s8 .h4 .here .h3 .h2 .h1 .here .here .here) ?_
  rintro (_|dH) V au n aD z al t av aw am ai ⟨h,b,b1,bT⟩;·cases h
  rw[jY] at h
  refine B1n U<|WC.b<|Lj h (fun cu h=>?_)<|fun cu h=>?_
  ·refine Np<|jK5 h fun dI cv h=>Pp (fun aE a2 a3 a4 a5 a6 bE bF bG a7=>(dI aE a2 a3 a4 a5=some r)/\(xF (Z++t) (Z++a6))/\(RR 1 (jW (Z++a6)) bG aE)/\(mP a7=a4)) (fun aE a2 a3 a4 a5 a6 bE bF bG a7=>[(0,vp o),(3,vp q),(6,vs bE aE.length bF),(7,vn),(8,(.map<|some y)),(9,vi a2),(24,C),(25,vi (ag.length:Int)),(26,vi n)]) (fun aE a2 a3 a4 a5 a6 bE bF bG a7=>[fz a6,row (vs bE aE.length bF) 227 1 bG,stb o 119 [E,F,G,H,I,J,K,L,C,(.map<|some g),(.map<|some m),vi a3],stb q 121 N,xP y vI slv (jP a7),wM (qX 3 1 e3) a7,xP g (ga jQ) (ga w4) a5,xP m (ga wd) vI p]) ?_ ?_
   ·refine WC.block<|WC.b<|cK h fun cw h=>D1q U<|L2 (Z:=(Z++t)) (Pr:=(fm (Z++t))) zc4 ((aO.mono<|zl.trans b).weak (fun _ _ h=>qe (zl.trans b) h)) cw ?_
    rintro dQ dR cx dS ⟨dT,dU,rfl,ch⟩
    refine Le 30 (xC zb5 U<|kz (hz.pv2 .here) cx)<|Q2n U<|WC.b<|WC.b<|bK h fun ek cy h=>D1q U<|Le 32 (wO<|L5 (l:=[.tmp 3])<|.cons U .nil)<|Lo 33 (Nt call75) .nil (cN hz .nil .here (.cons .h3 .nil) fun w pz ho la=>re (zpB:=117) (zyB:=[vp q]) (zpA:=(fun(y0:zd)=>fV y0 B)) cy pz (ch.mono<|zl) call117<|fun w' hz' y0  r  hr=>dV hr hz'<|(la _ (.head _) _).stb)<|Q1n U<|Lj h (fun cz h=>?_)<|fun cz h=>?_
    ·exact N2<|Ln<|Lv<|Lp ⟨V,au,aD,z,al,t,av,aw,am,ai⟩ ⟨h,xF.refl _,b1,bT⟩ .q<|.a8
    ·refine Np<|WC.b<|cK h fun cA h=>D2q U<|Le 37 w5<|Le 38 (xB sa)<|Le 39 (xB mW)<|Le 40 (Nu z8E .h2)<|La U<|L2 (Z:=(Z++t)) (Pr:=(g7 (Z++t))) zdQ ((ar.mono<|zl.trans b).weak (fun _ _ h=>ve (zl.trans b) h)) cA ?_
     rintro dW dX cB dY ⟨dZ,d0,rfl,d1⟩
     refine Le 43 (xB rJ)<|Le 44 (xC xL U<|wt (hz.pv2 .here) cB)<|Le 45 oQ<|Q1n U<|WC.b<|cK h fun cC h=>bK h fun Y cD h=>D1q U<|Le 47 w5<|Le 48 (xB sa)<|Le 49 (xB mW)<|Le 50 (Nu z8E .h2)<|La U<|L2 (Z:=(Z++t)) (Pr:=(g7 (Z++t))) zdQ ((ar.mono<|zl.trans b).weak (fun _ _ h=>ve (zl.trans b) h)) cC ?_
     rintro d2 d3 cE d4 ⟨d5,d6,rfl,d7⟩
     refine Le 53 (xB rJ)<|Le 54 (xC xL U<|wt (hz.pv2 .here) cE)<|Lo 55 (Nt call80) .nil (mv hz .nil .here fun w pz ho=>uy cD pz ) (Lh 12 (xV (cs:=[vi 0,vi 0]) z1F U) fun b2 _=>Lk (xR z16 .here)<|Q0n ?_)
     refine jK5 h fun dJ cF h=>Pp (fun aF a8 a9 aP aQ ba bH bI bJ bb=>(dJ aF a8 a9 aP aQ=some r)/\(xF (Z++t) (Z++ba))/\(RR 1 (jW (Z++ba)) bJ aF)/\(mP bb=a9)) (fun aF a8 a9 aP aQ ba bH bI bJ bb=>[(0,vp o),(3,vp q),(6,vs bH aF.length bI),(7,vn),(8,(.map<|some y)),(9,(vi<|max au<|(nth a.yb n).yz)),(10,vi n),(12,vp b2),(24,C),(25,vi (ag.length:Int)),(26,vi n)]) (fun aF a8 a9 aP aQ ba bH bI bJ bb=>[fz ba,row (vs bH aF.length bI) 227 1 bJ,stb o 119 [E,F,G,H,I,J,K,L,C,(.map<|some g),(.map<|some m),vi a8],stb q 121 N,xP y vI slv (jP bb),wM (qX 3 1 e3) bb,stb b2 175 [vi aP,vi aQ],xP g (ga jQ) (ga w4) al,xP m (ga wd) vI p]) ?_ ?_
     ·refine WC.b<|bK h fun x cG h=>D1q U<|Le 58 (xB lM)<|Le 59 (Nu xL .h4)<|Lo 60 (Nt call77) .nil (mv hz .nil .h1 fun w pz ho=>cW cG pz ch)<|Q2q U<|La U (Lh 13 (xV (cs:=[vi 0,vi 0,vi 0]) zdR U) fun ca _=>Lk (xR zc6 .here)<|Q1n U<|B1n U<|Lj h (fun cH h=>?_)<|fun cH h=>?_)
      ·refine WC.b ?_
       obtain⟨bU,cI,h⟩:=za h
       obtain⟨el,cL,h⟩:=za h
       obtain⟨dK,cM,h⟩:=za h
       obtain⟨em,cO,h⟩:=za h
       obtain⟨en,cP,h⟩:=za h
       obtain⟨bL,cQ,h⟩:=za h
       let S:List Value:=[vi x.1.ya,vi x.1.fX,vi x.1.fQ];refine Lu (fun i=>[13,22,23,24].contains i) [rb o 119 [(9,(.map<|some g)),(10,(.map<|some m))],W1 g (ga jQ) (ga w4) (⟨n,bU⟩:ym) ((⟨0,0⟩:z2):z2) (xK al (⟨n,bU⟩:ym) (⟨0,0⟩:z2)),stb ca 60 S]<|Lf 0 U q_m<|Lf 1 U q_m<|Lf 2 U w5<|Lf 3 U (xB Xn)<|L8 4 U (wJ.wk (.s3 .h4 .h7 .here)<|.stb (.cons U<|.cons U .nil)<|.any U (fun _ h=>pt h)<|.same .nil) (xC zCO U<|mG .here<|.head _)<|Lf 5 U q_m<|Lg 6 U (xN z5e (xO .here))<|L4 7 U (Nt call60) (mv hz .nil .h2 fun w pz ho=>tL cI pz )<|Lf 8 U (wl (v:=(.agg #[vi n,vi bU.ya,vi bU.fQ])) (Lq (l:=[.tmp 69,.tmp 71]) (.r2 U U) [0,1]))<|L8 9 U (wJ.wk (.s3 .h4 .h7 .here)<|.stb (.cons U<|.cons U .nil)<|.any U (fun _ h=>pt h)<|.same .nil) (VI (k:=(⟨n,bU⟩:ym)) (dflt:=((⟨0,0⟩:z2):z2)) zCQ underlying116 z1F U U U .h1)<|Lf 10 U q_m<|Lf 11 U q_m<|Lf 12 U q_m<|Lf 14 U q_m<|Lf 15 U w5<|Lf 16 U (xB Xo)<|L8 17 U (wJ.wk (.s3 .h4 .h7 .here)<|.stb (.cons U<|.cons U .nil)<|.any U (fun _ h=>pt h)<|.same .nil) (xC ztP U<|mG .here<|.tail _<|.head _)<|L8 18 U (wJ.wk (.s3 .h4 .h7 .here)<|.stb (.cons U<|.cons U .nil)<|.any U (fun _ h=>pt h)<|.same .nil) (xN z5e (xO .h2))<|WD.call0 (i:=13) U U (.inl ⟨U,(by exact(wJ.wk (.s3 .h6 .here .h1)<|.stb (.cons U<|.cons U .nil)<|.any U (fun _ h=>pt h)<|.same .nil))⟩) (Nt call121) (.s2 (.there .h7)<|.there .h7) (cN hz (.s2 (.there .h7)<|.there .h7) .h2 (.cons .h4 .nil) fun w pz ho la=>Calls.mono (pW cL pz ((((aV.mono<|zl.trans b).weak (fun _ _ h=>vc (zl.trans b) h)).mono zl).weak (fun _ _ h=>vc zl h)) ((((aW.mono<|zl.trans b).weak (fun _ _ h=>vA (zl.trans b) h)).mono zl).weak (fun _ _ h=>vA zl h)) ((aX.mono<|zl.trans b).mono zl) ((aN.mono<|zl.trans b).mono zl) ((((ar.mono<|zl.trans b).weak (fun _ _ h=>ve (zl.trans b) h)).mono zl).weak (fun _ _ h=>ve zl h)) ((aY.mono<|zl.trans b).mono zl) ((((aZ.mono<|zl.trans b).weak (fun _ _ h=>vB (zl.trans b) h)).mono zl).weak (fun _ _ h=>vB zl h)) ((a0.mono<|zl.trans b).mono zl) ((((aO.mono<|zl.trans b).weak (fun _ _ h=>qe (zl.trans b) h)).mono zl).weak (fun _ _ h=>qe zl h)) ((la _ (.head _) _).stb) ho)<|fun _ _ h'=>⟨h'.1,trivial,h'.2⟩) ?_
       intro _
       refine L4 19 U (Nt call60) (mv hz .nil .h4 fun w pz ho=>tL cM pz )<|Lg 20 U (jk (k:=dK) (dflt:=(0:Int)) zj5 underlying117 jc .h1)<|L4 21 U (Nt call80) (mv hz .nil .h4 fun w pz ho=>uy cO pz ) (WD.call0 (i:=22) U U (.inl ⟨U,(by exact(wJ.wk (.s3 .here .here .h1)<|.stb (.cons U<|.cons U .nil)<|.any U (fun _ h=>pt h)<|.same .nil))⟩) (Nt call118) (.s3 .h6 .here .here) (mv hz (.s3 .h6 .here .here) .h2 fun w pz ho=>Calls.mono (rY (zgi:=120) (zmq:=[]) (zjv:=(fun y0 y1=>gz y0 y1)) cP pz ((aV.mono<|zl.trans b).weak (fun _ _ h=>vc (zl.trans b) h)) ((aW.mono<|zl.trans b).weak (fun _ _ h=>vA (zl.trans b) h)) (aX.mono<|zl.trans b) (aN.mono<|zl.trans b) ((ar.mono<|zl.trans b).weak (fun _ _ h=>ve (zl.trans b) h)) (aY.mono<|zl.trans b) ((aZ.mono<|zl.trans b).weak (fun _ _ h=>vB (zl.trans b) h)) (a0.mono<|zl.trans b) ((aO.mono<|zl.trans b).weak (fun _ _ h=>qe (zl.trans b) h)) call120 (fun w' hz' y0 y1  r  hr=>aM hr hz' ) ho)<|fun _ _ h'=>⟨h'.1,trivial,h'.2⟩) fun _=>WD.call0 (i:=23) U U (.inl ⟨U,(by exact(wJ.wk (.s3 .here .here .h1)<|.stb (.cons U<|.cons U .nil)<|.any U (fun _ h=>pt h)<|.same .nil))⟩) (Nt call118) .a3 (mv hz .a3 .h2 fun w pz ho=>Calls.mono (rY (zgi:=119) (zmq:=[]) (zjv:=(fun y0 y1=>vV y0 y1)) cQ pz ((aV.mono<|zl.trans b).weak (fun _ _ h=>vc (zl.trans b) h)) ((aW.mono<|zl.trans b).weak (fun _ _ h=>vA (zl.trans b) h)) (aX.mono<|zl.trans b) (aN.mono<|zl.trans b) ((ar.mono<|zl.trans b).weak (fun _ _ h=>ve (zl.trans b) h)) (aY.mono<|zl.trans b) ((aZ.mono<|zl.trans b).weak (fun _ _ h=>vB (zl.trans b) h)) (a0.mono<|zl.trans b) ((aO.mono<|zl.trans b).weak (fun _ _ h=>qe (zl.trans b) h)) call119 (fun w' hz' y0 y1  r  hr=>py hr hz' ) ho)<|fun _ _ h'=>⟨h'.1,trivial,h'.2⟩) ?_)
       intro _
       refine Na (i:=24) U (xR z16 .h4)<|N1<|Lb<|cK h fun cR h=>Lu (fun i=>[9,10].contains i) [rb ca 60 [(2,vi x.1.fQ)]]<|Lf 0 U q_m<|Lf 1 U (xB sr)<|L8 2 U (wJ.wk (.cons .h4 .nil)<|.stb (.cons U .nil) .nil) (xC xL U<|mG .here<|.head _)<|Lf 3 U q_m<|Lf 4 U (xB sr)<|Lg 5 U (Nu xL .h4)<|Lg 6 U (jk (k:=x.1.fQ) (dflt:=(((none,0),[]):(Option Addr×Nat)×List Int)) gP underlying219 zCR<|.there .h7)<|P3 (fun _ h=>Hp.bU x.1.fQ bT (.there<|.there .h7) h) ?_
       rintro⟨cS,cT⟩ cU
       refine N4 (i:=94) U (u:=(vs cS ((xK z x.1.fQ []).length) cT)) (congrArg slv cU)<|Lf 7 U q_m (WD.new (i:=8) U U (wn (cs:=([n]:List Int).flatMap e3) z5U (Lq (l:=[.tmp 95]) (.cons U .nil) [0])) (fun h'=>absurd h' (by decide)) fun cV _=>WD.old (i:=9) U U (fun _=>(wJ.wk (.cons .h7 .nil)<|.stb (.cons U .nil) .nil)) (jN (enc:=e3) (l1:=xK z x.1.fQ []) (l2:=([n]:List Int)) z5U .h1 (j4 .here) (kZ Ul) cR) ?_)
       rintro⟨b3,b4⟩ _
       exact Na (i:=10) U (kJ (k:=x.1.fQ) (v:=(((b3,b4),(xK z x.1.fQ [])++([n]:List Int)):(Option Addr×Nat)×List Int)) gP underlying219<|.there<|.there<|.there<|.there .h7)<|Og (fun _ h=>Hp.W3 (k:=x.1.fQ) (.s2 .h1 .h2) h)<|Og (M:=[xP y vI slv (jP<|w7 ai x.1.fQ ((0,(b3,b4)),(xK z x.1.fQ [])++([n]:List Int))),wM (qX 3 1 e3) (w7 ai x.1.fQ ((0,(b3,b4)),(xK z x.1.fQ [])++([n]:List Int))),row (vs (some ⟨cV,0,none⟩) (([n]:List Int).length) 1) 3 1 (([n]:List Int).flatMap e3),stb b2 175 [vi bL.1.fN,vi bL.1.fD],stb o 119 [E,F,G,H,I,J,K,L,C,(.map<|some g),(.map<|some m),vi bL.2],xP g (ga jQ) (ga w4) al,xP m (ga wd) vI p,stb ca 60 S,fz t,row (vs av V.length aw) 227 1 am,stb q 121 N]) (fun _ h=>Hp.eT .h1 (aJ _ _ _ _).symm h)<|N1<|Lp ⟨V,bL.2,w7 z x.1.fQ ((xK z x.1.fQ [])++([n]:List Int)),bL.1.fN,bL.1.fD,t,av,aw,am,w7 ai x.1.fQ ((0,(b3,b4)),(xK z x.1.fQ [])++([n]:List Int))⟩ ⟨h,xF.refl _,b1,lG bT _ _ _⟩ .q<|.s9 (.there .h7) (.there .h7) .h4 .h7 .here .here .h1 .h1 .h1
      ·refine bK h fun ax cX h=>cK h fun cY h=>Lu (fun i=>[4,8].contains i) [stb b2 175 [vi Y.fN,vi Y.fD]]<|Lf 0 U q_m<|L8 1 U (wJ.of<|.cons .h1 .nil) (xN zg (xO .here))<|Lf 2 U q_m<|Lf 3 U q_m (WD.call0 (i:=4) U U (.inl ⟨U,(wJ.of<|.cons .h3 .nil)⟩) (Nt call121) (.s2 (.there .h7)<|.there .h7) (cN hz (.s2 (.there .h7)<|.there .h7) .h2 (.cons .h4 .nil) fun w pz ho la=>Calls.mono (pW cX pz ((((aV.mono<|zl.trans b).weak (fun _ _ h=>vc (zl.trans b) h)).mono zl).weak (fun _ _ h=>vc zl h)) ((((aW.mono<|zl.trans b).weak (fun _ _ h=>vA (zl.trans b) h)).mono zl).weak (fun _ _ h=>vA zl h)) ((aX.mono<|zl.trans b).mono zl) ((aN.mono<|zl.trans b).mono zl) ((((ar.mono<|zl.trans b).weak (fun _ _ h=>ve (zl.trans b) h)).mono zl).weak (fun _ _ h=>ve zl h)) ((aY.mono<|zl.trans b).mono zl) ((((aZ.mono<|zl.trans b).weak (fun _ _ h=>vB (zl.trans b) h)).mono zl).weak (fun _ _ h=>vB zl h)) ((a0.mono<|zl.trans b).mono zl) ((((aO.mono<|zl.trans b).weak (fun _ _ h=>qe (zl.trans b) h)).mono zl).weak (fun _ _ h=>qe zl h)) ((la _ (.head _) _).stb) ho)<|fun _ _ h'=>⟨h'.1,trivial,h'.2⟩) fun _=>Lf 5 U (wl (v:=(.agg #[vi Y.fN,vi Y.fD,vi ax.fN,vi ax.fD])) (Lq (l:=[.tmp 99,.tmp 102]) (.r2 U U) [0,1])) (WD.new (i:=6) U U (wn (cs:=([(⟨Y,ax⟩:z8)]:List z8).flatMap qw) za8 (Lq (l:=[.tmp 103]) (.cons U .nil) [0])) (fun h'=>absurd h' (by decide)) fun ci _=>WD.freezeS (ls:=([(⟨Y,ax⟩:z8)]:List z8)) .here .h4 hz (RR.flat (enc:=qw)) ?_))
       intro b5 cj cZ
       let D:List Value:=[vs (some ⟨ci,0,none⟩) (([(⟨Y,ax⟩:z8)]:List z8).length) 1];have ck:RR 1 (jW (Z++b5)) D ([([(⟨Y,ax⟩:z8)]:List z8)]:List (List z8)):=(RR.cons (r:=D) U (show jW _ _ _ from⟨_,_,U,cZ⟩) (RR.nil _ _))
       refine WD.new (i:=7) U U (wn (cs:=[vs (some ⟨ci,0,none⟩) (([(⟨Y,ax⟩:z8)]:List z8).length) 1]) zfH (Lq (l:=[.tmp 104]) (.cons U .nil) [0])) (fun h'=>absurd h' (by decide)) ?_
       intro d8 _
       have c0:RR 1 (jW (Z++b5)) (am++D) (V++([([(⟨Y,ax⟩:z8)]:List z8)]:List (List z8))):=RR.app (b1.weak (fun _ _ h=>gq cj h)) ck
       refine WD.old (i:=8) U U (fun _=>(wJ.of<|.cons .h6 .nil)) (oC (l1:=V) (l2:=([([(⟨Y,ax⟩:z8)]:List z8)]:List (List z8))) (vo:=D) (Pr:=(jW (Z++b5))) zfH .h6 ck (j4 .here) lE cY) ?_
       rintro⟨c1,c2⟩ _
       exact Lf 9 U q_z<|N1<|Lp ⟨V++([([(⟨Y,ax⟩:z8)]:List z8)]:List (List z8)),aD,z,Y.fN,Y.fD,b5,c1,c2,am++D,ai⟩ ⟨h,cj,c0,bT⟩ .q<|.s9 .h2 .here .h5 .h5 .h5 .h5 .h4 .h1 .h1
     ·rintro aF a8 a9 aP aQ ba bH bI bJ bb ⟨h,c3,c4,c5⟩
      replace h:=(cF aF a8 a9 aP aQ).symm.trans h
      exact Lu (fun i=>[8].contains i) []<|Lf 0 U q_m<|Lf 1 U w5<|Lf 2 U (xB Xn)<|Lg 3 U (Nu zCO .h2)<|Lf 4 U q_m<|Lg 5 U (xN z71 (xO .h3))<|Lf 6 U (wl (v:=(.agg #[vi n,vi B.ya,vi B.fQ])) (Lq (l:=[.tmp 111,.tmp 112]) (.r2 U U) [0,1]))<|Lg 7 U (xN zg (xO .h6))<|Na (i:=8) U (kJ (k:=(⟨n,B⟩:ym)) (v:=(⟨aP,aQ⟩:z2)) zCQ underlying116 .h7)<|N1<|Lt<|Lp ⟨aF,(max au<|(nth a.yb n).yz),a8,a9,w7 al (⟨n,B⟩:ym) (⟨aP,aQ⟩:z2),ba,bH,bI,bJ,bb⟩ ⟨h,c3,c4,c5⟩ .q<|.s8 .h1 .h1 .h1 .h1 .h1 .h1 .here .h1
   ·rintro aE a2 a3 a4 a5 a6 bE bF bG a7 ⟨h,c6,c7,c8⟩
    replace h:=(cv aE a2 a3 a4 a5).symm.trans h
    exact D2q U<|WL.nil<|N0 ⟨dH,aE,a2,i64 (n+1),a3,a4,a5,a6,bE,bF,bG,a7⟩ ⟨h,b.trans c6,c7,c8⟩ .q<|.a8
  ·exact N2<|Ln<|Ln<|Lv<|Lp ⟨V,au,aD,z,al,t,av,aw,am,ai⟩ ⟨h,b,b1,bT⟩ .q<|.a8
 ·rintro ao ap a1 T ah aC bB bC aj X ⟨h,d,c9,b6⟩
  replace h:=(ct ao ap a1 T ah).symm.trans h
  obtain⟨cl,da,h⟩:=jV h
  let O:Value:=(vs bB ao.length bC);refine Po (fun ay bM aG bV bW aR=>(cl ay bM=some r)/\(xF (Z++aC) (Z++aG))/\(RR 1 (jW (Z++aG)) aR ay)) (fun ay bM aG bV bW aR=>[(6,O),(7,vs bV ay.length bW),(9,vi ap)]) (fun ay bM aG bV bW aR=>[fz aG,row O 227 1 aj,row (vs bV ay.length bW) 227 1 aR,stb o 119 [E,F,G,H,I,J,K,L,C,(.map<|some g),(.map<|some m),vi bM],xP g (ga jQ) (ga w4) ah,xP m (ga wd) vI p]) ?_ ?_
  ·let P:Value:=(vi (a.fK.length:Int));refine B1q U<|Le 117 w5<|Le 118 (xB sa)<|Le 119 (xB rI)<|Le 120 (Nu zdP .h2)<|Le 121 (wc underlying25)<|Q1n U<|WC.block<|WC.nilRow 227 1<|Oz (fun bN aa f aH W aI aK an=>(kd a T ag ah p B cl bN aa f aH=some r)/\(xF (Z++aC) (Z++W))/\(RR 1 (jW (Z++W)) an aa)) (fun bN aa f aH W aI aK an=>[(0,vp o),(3,vp q),(6,O),(7,vs aI aa.length aK),(8,(.map<|some y)),(9,vi ap),(121,P),(122,vi f)]) (fun bN aa f aH W aI aK an=>[fz W,row O 227 1 aj,row (vs aI aa.length aK) 227 1 an,stb o 119 [E,F,G,H,I,J,K,L,C,(.map<|some g),(.map<|some m),vi aH],stb q 121 N,xP y vI slv (jP X),wM (qX 3 1 e3) X,xP g (ga jQ) (ga w4) ah,xP m (ga wd) vI p]) (fun bN aa f aH W aI aK an=>bN) ⟨xT,([]:List (List z8)),0,a1,aC,none,0,[]⟩ ⟨h,xF.refl _,RR.nil _ _⟩ .q (.s9 .h1 .h1 .here .here .here .here .here .here .here) ?_
   rintro (_|dL) aa f aH W aI aK an ⟨h,c,cb⟩;·cases h
   rw[kd] at h
   refine B1n U<|WC.b<|Lj h (fun db h=>?_)<|fun db h=>?_
   ·refine Np<|jK2 h fun dM dc h=>Po (fun aL bc bd bO bP bQ=>(dM aL bc=some r)/\(xF (Z++W) (Z++bd))/\(RR 1 (jW (Z++bd)) bQ aL)) (fun aL bc bd bO bP bQ=>[(0,vp o),(3,vp q),(6,O),(7,vs bO aL.length bP),(8,(.map<|some y)),(9,vi ap),(121,P),(122,vi f)]) (fun aL bc bd bO bP bQ=>[fz bd,row O 227 1 aj,row (vs bO aL.length bP) 227 1 bQ,stb o 119 [E,F,G,H,I,J,K,L,C,(.map<|some g),(.map<|some m),vi bc],stb q 121 N,xP y vI slv (jP X),wM (qX 3 1 e3) X,xP g (ga jQ) (ga w4) ah,xP m (ga wd) vI p]) ?_ ?_
    ·refine WC.block<|B2n U<|WC.b<|B2q U<|Le 127 (jk (k:=f) (dflt:=(((none,0),[]):(Option Addr×Nat)×List Int)) gP underlying219 zCR .h5)<|Ox (fun _ h=>Hp.bU f b6 .h6 h) ?_
     rintro⟨de,df⟩ cm
     refine L9 (i:=127) U (u:=(vs de ((xK T f []).length) df)) (congrArg slv cm)<|Le 128 (wc underlying50)<|La U<|Ob (fun _ h=>Hp.VJ b6 cm .a2 h)<|Q0n<|Lj h (fun dg h=>?_)<|fun dg h=>?_
     ·exact N2<|Ln<|Lv<|Lp ⟨aa,aH,W,aI,aK,an⟩ ⟨h,xF.refl _,cb⟩ .q<|.s9 .h1 .h1 .h1 .h1 .h1 .h1 .here .here .here
     ·refine Np<|WC.b<|bK h fun b7 dh h=>bK h fun b8 di h=>Ld<|Lo 130 (Nt call80) .nil (mv hz .nil .h1 fun w pz ho=>uy dh pz )<|Lo 131 (Nt call80) .nil (mv hz .nil .h1 fun w pz ho=>uy di pz )<|Le 132 (wl (v:=(.agg #[vi b7.fN,vi b7.fD,vi b8.fN,vi b8.fD])) (Lq (l:=[.tmp 130,.tmp 131]) (.r2 U U) [0,1])) (Lh 16 (xV (cs:=[vi 0,vi 0,vi 0,vi 0]) zfI U) fun bX _=>Lk (xR zdS .here)<|Q0n<|B1n U ?_)
      obtain⟨cn,dj,h⟩:=Mr h
      let R:Value:=(vs aI aa.length aK);refine Po (fun bR be ab ad ae af=>(cn bR be ab ad ae af=some r)) (fun bR be ab ad ae af=>[(0,vp o),(3,vp q),(6,O),(7,R),(8,(.map<|some y)),(9,vi ap),(15,vi f),(16,vp bX),(17,vi bR),(121,P),(122,vi f)]) (fun bR be ab ad ae af=>[fz W,row O 227 1 aj,row R 227 1 an,stb o 119 [E,F,G,H,I,J,K,L,C,(.map<|some g),(.map<|some m),vi be],stb q 121 N,xP y vI slv (jP X),wM (qX 3 1 e3) X,stb bX 225 [vi ab,vi ad,vi ae,vi af],xP g (ga jQ) (ga w4) ah,xP m (ga wd) vI p]) ?_ ?_
      ·refine B2q U<|Le 135 (jk (k:=f) (dflt:=(((none,0),[]):(Option Addr×Nat)×List Int)) gP underlying219 zCR .h7)<|Ox (fun _ h=>Hp.bU f b6 .h1 h) ?_
       rintro⟨dN,dO⟩ co
       let Q:Value:=(vs dN ((xK T f []).length) dO);refine L9 (i:=135) U (u:=Q) (congrArg slv co)<|Le 136 (wc underlying50)<|Q1n U<|WC.block<|Oz (fun bY aS aq bf aT aU az aA=>(jZ T f a ag ah p B cn bY aS aq bf aT aU az aA=some r)) (fun bY aS aq bf aT aU az aA=>[(0,vp o),(3,vp q),(6,O),(7,R),(8,(.map<|some y)),(9,vi ap),(15,vi f),(16,vp bX),(17,vi aS),(121,P),(122,vi f),(135,Q),(136,vi ((xK T f []).length:Int)),(137,vi aq)]) (fun bY aS aq bf aT aU az aA=>[fz W,row O 227 1 aj,row R 227 1 an,row Q 3 1 ((xK T f []).flatMap e3),stb o 119 [E,F,G,H,I,J,K,L,C,(.map<|some g),(.map<|some m),vi bf],stb q 121 N,xP y vI slv (jP X),wM (qX 3 1 e3) (uv f X),stb bX 225 [vi aT,vi aU,vi az,vi aA],xP g (ga jQ) (ga w4) ah,xP m (ga wd) vI p]) (fun bY aS aq bf aT aU az aA=>bY) ⟨xT,0,0,aH,b7.fN,b7.fD,b8.fN,b8.fD⟩ h .q (.s11 .h3 .h3 .h3 .here .h2 .h2 .h2 .here .here .here .here) ?_
       rintro(_|dP) aS aq bf aT aU az aA h;·cases h
       rw[jZ] at h
       refine B1n U<|WC.b<|Lj h (fun dk h=>?_)<|fun dk h=>?_
       ·refine Np<|WC.b<|WC.block<|WC.b<|cK h fun bZ h=>Ld<|N5 (fun w hw=>Hp.vf .h3 hw (by intro hz';have:=bZ;rw[hz'] at this;omega)) ?_
        rintro⟨d9,rfl⟩
        refine Le 139 (xZ z5U bZ.1 bZ.2 wF)<|Le 140 (xC xL U<|sj .h3<|(wN (enc:=e3) (l:=xK T f []) (i:=aq) (sz:=1) bZ.1 bZ.2) 0 _ U)<|Q1n U<|WC.b<|bK h fun bS dl h=>bK h fun eo dm h=>bK h fun b0 dn h=>Lu (fun i=>[11,17,18,20,22].contains i) [rb bX 225 [(2,vi az),(3,vi aA)]]<|Lf 0 U q_m<|Lf 1 U (xB uw)<|Lg 2 U (wo (cs:=[vi aT,vi aU]) zg<|gN (s:=2) (.there .h7) U)<|Lf 3 U q_m<|Lf 4 U w5<|Lf 5 U (xB Xn)<|Lg 6 U (Nu zCO .h4)<|Lf 7 U q_m<|Lg 8 U (xN z71 (xO .h5))<|Lf 9 U (wl (v:=(.agg #[(vi<|nth (xK T f []) aq),vi B.ya,vi B.fQ])) (Lq (l:=[.tmp 148,.tmp 149]) (.r2 U U) [0,1]))<|Lg 10 U (jk (k:=(⟨nth (xK T f []) aq,B⟩:ym)) (dflt:=((⟨0,0⟩:z2):z2)) zCQ underlying116 z1F<|.there<|.there .h7)<|Lf 12 U q_m<|Lf 13 U (xB sd)<|L8 14 U (wJ.wk (.cons (.there .h7) .nil)<|.stb (.cons U<|.cons U .nil) .nil) (wo (cs:=[vi az,vi aA]) zg<|eV .here (.head _)<|(.tail _<|.head _))<|Lf 15 U q_m<|Lf 16 U q_m (WD.call0 (i:=11) U U (.inl ⟨U,(wJ.wk (.cons (.there<|.there<|.there .h7) .nil)<|.stb (.cons U<|.cons U .nil) .nil)⟩) (Nt call118) (.s3 .h4 (.there .h7)<|.there .h7) (mv hz (.s3 .h4 (.there .h7)<|.there .h7) .here fun w pz ho=>Calls.mono (rY (zgi:=119) (zmq:=[]) (zjv:=(fun y0 y1=>vV y0 y1)) dl pz ((aV.mono<|zl.trans (d.trans c)).weak (fun _ _ h=>vc (zl.trans (d.trans c)) h)) ((aW.mono<|zl.trans (d.trans c)).weak (fun _ _ h=>vA (zl.trans (d.trans c)) h)) (aX.mono<|zl.trans (d.trans c)) (aN.mono<|zl.trans (d.trans c)) ((ar.mono<|zl.trans (d.trans c)).weak (fun _ _ h=>ve (zl.trans (d.trans c)) h)) (aY.mono<|zl.trans (d.trans c)) ((aZ.mono<|zl.trans (d.trans c)).weak (fun _ _ h=>vB (zl.trans (d.trans c)) h)) (a0.mono<|zl.trans (d.trans c)) ((aO.mono<|zl.trans (d.trans c)).weak (fun _ _ h=>qe (zl.trans (d.trans c)) h)) call119 (fun w' hz' y0 y1  r  hr=>py hr hz' ) ho)<|fun _ _ h'=>⟨h'.1,trivial,h'.2⟩) fun _=>Lf 19 U (xB uw)<|WD.call0 (i:=17) U U (.inl ⟨U,(wJ.wk (.cons (.there<|.there<|.there .h7) .nil)<|.stb (.cons U<|.cons U .nil) .nil)⟩) (Nt call121) (.s2 .h1 .h1) (cN hz (.s2 .h1 .h1) .h1 (.cons .here .nil) fun w pz ho la=>Calls.mono (pW dm pz ((((aV.mono<|zl.trans (d.trans c)).weak (fun _ _ h=>vc (zl.trans (d.trans c)) h)).mono zl).weak (fun _ _ h=>vc zl h)) ((((aW.mono<|zl.trans (d.trans c)).weak (fun _ _ h=>vA (zl.trans (d.trans c)) h)).mono zl).weak (fun _ _ h=>vA zl h)) ((aX.mono<|zl.trans (d.trans c)).mono zl) ((aN.mono<|zl.trans (d.trans c)).mono zl) ((((ar.mono<|zl.trans (d.trans c)).weak (fun _ _ h=>ve (zl.trans (d.trans c)) h)).mono zl).weak (fun _ _ h=>ve zl h)) ((aY.mono<|zl.trans (d.trans c)).mono zl) ((((aZ.mono<|zl.trans (d.trans c)).weak (fun _ _ h=>vB (zl.trans (d.trans c)) h)).mono zl).weak (fun _ _ h=>vB zl h)) ((a0.mono<|zl.trans (d.trans c)).mono zl) ((((aO.mono<|zl.trans (d.trans c)).weak (fun _ _ h=>qe (zl.trans (d.trans c)) h)).mono zl).weak (fun _ _ h=>qe zl h)) ((la _ (.head _) _).stb) ho)<|fun _ _ h'=>⟨h'.1,trivial,h'.2⟩) ?_)
        intro _
        refine WD.call0 (i:=18) U U (.inl ⟨U,(wJ.wk (.cons (.there<|.there<|.there .h7) .nil)<|.stb (.cons U<|.cons U .nil) .nil)⟩) (Nt call118) (.s3 .h2 .here .here) (mv hz (.s3 .h2 .here .here) .here fun w pz ho=>Calls.mono (rY (zgi:=119) (zmq:=[]) (zjv:=(fun y0 y1=>vV y0 y1)) dn pz ((aV.mono<|zl.trans (d.trans c)).weak (fun _ _ h=>vc (zl.trans (d.trans c)) h)) ((aW.mono<|zl.trans (d.trans c)).weak (fun _ _ h=>vA (zl.trans (d.trans c)) h)) (aX.mono<|zl.trans (d.trans c)) (aN.mono<|zl.trans (d.trans c)) ((ar.mono<|zl.trans (d.trans c)).weak (fun _ _ h=>ve (zl.trans (d.trans c)) h)) (aY.mono<|zl.trans (d.trans c)) ((aZ.mono<|zl.trans (d.trans c)).weak (fun _ _ h=>vB (zl.trans (d.trans c)) h)) (a0.mono<|zl.trans (d.trans c)) ((aO.mono<|zl.trans (d.trans c)).weak (fun _ _ h=>qe (zl.trans (d.trans c)) h)) call119 (fun w' hz' y0 y1  r  hr=>py hr hz' ) ho)<|fun _ _ h'=>⟨h'.1,trivial,h'.2⟩) fun _=>Rl (i:=20) U (by kernel_rfl) U U U (wJ.wk (.cons .here .nil)<|.stb (.cons U<|.cons U .nil) .nil) (jl (ds:=[vi bS.1.fN,vi bS.1.fD,vi az,vi aA]) z16 (.there<|.there<|.there .h7))<|Lf 21 U (xB sd)<|Na (i:=22) U (jl (ds:=[vi bS.1.fN,vi bS.1.fD,vi b0.1.fN,vi b0.1.fD]) z16 .here)<|N1<|Lb<|cK h fun dp h=>D2q U<|Le 164 w5<|Le 165 (xB sa)<|Le 166 (xB mW)<|Le 167 (Nu z8E .h1)<|La U<|L2 (Z:=(Z++W)) (Pr:=(g7 (Z++W))) zdQ ((ar.mono<|zl.trans (d.trans c)).weak (fun _ _ h=>ve (zl.trans (d.trans c)) h)) dp ?_
        rintro ea eb dq ec ⟨ed,ee,rfl,ef⟩
        exact Le 170 (xB rJ)<|Le 171 (xC xL U<|wt (hz.pv2 .h4) dq)<|Le 172 oQ<|La U<|WL.nil<|Lt<|Lb<|D2q U<|WL.nil<|N0 ⟨dP,(max aS<|(nth a.yb<|nth (xK T f []) aq).yz),i64 (aq+1),b0.2,bS.1.fN,bS.1.fD,b0.1.fN,b0.1.fD⟩ h .q<|.s11 .h4 .h4 .h4 .h4 .h1 .h3 .h3 .h3 .here .here .here
       ·exact N2<|Ln<|Ln<|Lv<|P7 (fun _ h=>Hp.VJ b6 co (.s2 .h3 .h6) h)<|Lp ⟨aS,bf,aT,aU,az,aA⟩ h .q<|.s10 .h1 .h1 .h1 .h1 .h1 .h1 .here .here .here .here
      ·rintro bR be ab ad ae af h
       replace h:=(dj bR be ab ad ae af).symm.trans h
       refine bK h fun aB dr h=>cK h fun dt h=>cK h fun du h=>Lu (fun i=>[17].contains i) []<|Lf 0 U q_m<|Lg 1 U (xN z4k (xO .h7))<|Lf 2 U q_m<|L4 3 U (Nt call80) (mv hz .nil .here fun w pz ho=>uy dr pz )<|Lf 4 U q_m<|Lf 5 U w5<|Lf 6 U (xB sa)<|Lf 7 U (xB rI)<|Lg 8 U (Nu zdP .h3)<|Lf 9 U q_m<|L7 (j:=10) (Z:=(Z++W)) (Pr:=(rq gH)) zj3 (aN.mono<|zl.trans (d.trans c)) dt ?_
       rintro eg eh dv ei rfl
       refine Lf 11 U (xB oD)<|Lg 12 U (xC xL U<|wt (hz.pv2 .here) dv)<|Lf 13 U (wl (v:=(.agg #[vi 1,(vi<|(nth a.fK f).yp)])) (Lq (l:=[.const (vi 1),.tmp 186]) (.r2 U U) [0,1]))<|Lf 14 U (wl (v:=(.agg #[vi aB.fN,vi aB.fD,vi 1,(vi<|(nth a.fK f).yp)])) (Lq (l:=[.tmp 177,.tmp 187]) (.r2 U U) [0,1])) (WD.new (i:=15) U U (wn (cs:=([(⟨(⟨ab,ad⟩:z2),(⟨ae,af⟩:z2)⟩:z8),(⟨aB,(⟨1,(nth a.fK f).yp⟩:z2)⟩:z8)]:List z8).flatMap qw) za8 (Lq (l:=[.tmp 175,.tmp 188]) (.r2 U U) [0,1])) (fun h'=>absurd h' (by decide)) fun cp _=>WD.freezeS (ls:=([(⟨(⟨ab,ad⟩:z2),(⟨ae,af⟩:z2)⟩:z8),(⟨aB,(⟨1,(nth a.fK f).yp⟩:z2)⟩:z8)]:List z8)) .here .here hz (RR.flat (enc:=qw)) ?_)
       intro b9 cq dw
       let A:List Value:=[vs (some ⟨cp,0,none⟩) (([(⟨(⟨ab,ad⟩:z2),(⟨ae,af⟩:z2)⟩:z8),(⟨aB,(⟨1,(nth a.fK f).yp⟩:z2)⟩:z8)]:List z8).length) 2];have cr:RR 1 (jW (Z++b9)) A ([([(⟨(⟨ab,ad⟩:z2),(⟨ae,af⟩:z2)⟩:z8),(⟨aB,(⟨1,(nth a.fK f).yp⟩:z2)⟩:z8)]:List z8)]:List (List z8)):=(RR.cons (r:=A) U (show jW _ _ _ from⟨_,_,U,dw⟩) (RR.nil _ _))
       refine WD.new (i:=16) U U (wn (cs:=[vs (some ⟨cp,0,none⟩) (([(⟨(⟨ab,ad⟩:z2),(⟨ae,af⟩:z2)⟩:z8),(⟨aB,(⟨1,(nth a.fK f).yp⟩:z2)⟩:z8)]:List z8).length) 2]) zfH (Lq (l:=[.tmp 189]) (.cons U .nil) [0])) (fun h'=>absurd h' (by decide)) ?_
       intro ej _
       have dx:RR 1 (jW (Z++b9)) (an++A) (aa++([([(⟨(⟨ab,ad⟩:z2),(⟨ae,af⟩:z2)⟩:z8),(⟨aB,(⟨1,(nth a.fK f).yp⟩:z2)⟩:z8)]:List z8)]:List (List z8))):=RR.app (cb.weak (fun _ _ h=>gq cq h)) cr
       refine WD.old (i:=17) U U (fun _=>(wJ.of .nil)) (oC (l1:=aa) (l2:=([([(⟨(⟨ab,ad⟩:z2),(⟨ae,af⟩:z2)⟩:z8),(⟨aB,(⟨1,(nth a.fK f).yp⟩:z2)⟩:z8)]:List z8)]:List (List z8))) (vo:=A) (Pr:=(jW (Z++b9))) zfH .h3 cr (j4 .here) lE du) ?_
       rintro⟨dy,dz⟩ _
       exact Lf 18 U q_z<|N1<|Lt<|Lp ⟨aa++([([(⟨(⟨ab,ad⟩:z2),(⟨ae,af⟩:z2)⟩:z8),(⟨aB,(⟨1,(nth a.fK f).yp⟩:z2)⟩:z8)]:List z8)]:List (List z8)),be,b9,dy,dz,an++A⟩ ⟨h,cq,dx⟩ .q<|.s9 .h2 .h2 .here .h1 .h1 .h1 .h1 .h2 .h2
    ·rintro aL bc bd bO bP bQ ⟨h,dA,dB⟩
     replace h:=(dc aL bc).symm.trans h
     exact D2q U<|WL.nil<|N0 ⟨dL,aL,i64 (f+1),bc,bd,bO,bP,bQ⟩ ⟨h,c.trans dA,dB⟩ .q<|.a9
   ·exact N2<|Ln<|Ln<|Lv<|Lp ⟨aa,aH,W,aI,aK,an⟩ ⟨h,c,cb⟩ .q<|.s6 .here .here .here .here .h3 .h3
  ·rintro ay bM aG bV bW aR ⟨h,dC,cc⟩
   replace h:=(da ay bM).symm.trans h
   refine WC.b<|cK h fun dD h=>D1q U<|La U ?_
   have dE:RR 1 (jW (Z++aG)) (aj++aR) (ao++ay):=RR.app (c9.weak (fun _ _ h=>gq dC h)) cc
   refine WL.fA 195 (oC (l1:=ao) (l2:=ay) (vo:=aR) (Pr:=(jW (Z++aG))) zfH .h1 cc (j4 .h2) (RR.oc cc<|fun _ _ h=>UA h) dD) ?_
   rintro⟨dF,dG⟩ _
   exact La U<|La U<|La U<|WL.nil<|Lb<|Nz<|oJ h▸Li results79 (.tmp U<|.tmp U .nil) fun w hw=>⟨aG,dF,dG,aj++aR,qc,dE,hw.sub (.s5 .h1 .here .h1 .h1 .h1)⟩
def uZ(a:z2):Option Bool:=
 (qJ a).bind fun b=>some (b&&(decide (a.fN>=0)))
theorem hI{Z a r}(h:uZ a=some r){Ny}(hz:PZ [] Ny Z):
  RC 193 #[.agg #[vi a.fN,vi a.fD]] Ny (.bool r) [] []:=by
 unfold uZ at h
 refine Nb func193 U U<|B0q (Lh 1 (we (cs:=[vi a.fN,vi a.fD])) fun e _=>Q1n U<|WC.b ?_)
 refine bK h fun d b h=>Ld<|Le 3 (xN zg (xO .here))<|Ns call130 hz (jX b)<|La U<|Ly true 3 5 (B:=d&&(decide (a.fN>=0))) (fun _ c=>?_) ?_
 ·exact Le 6 (xB jI)<|Le 7 (Nu xL .here)<|Q2q U<|Lz (kR c) U .all
 exact Q1n U<|Nz<|oJ h▸Nm results193
def ul(a:z8):Option Bool:=
 (uZ a.yi).bind fun b=>(if !b then some true else(uZ a.fR).bind fun c=>some (!c)).bind fun d=>some d
theorem Wd{Z a r}(h:ul a=some r){Ny}(hz:PZ [] Ny Z):
  RC 209 #[.agg #[vi a.yi.fN,vi a.yi.fD,vi a.fR.fN,vi a.fR.fD]] Ny (.bool r) [] []:=by
 unfold ul at h
 refine Nb func209 U U<|B0q (Lh 1 (we (cs:=[vi a.yi.fN,vi a.yi.fD,vi a.fR.fN,vi a.fR.fD])) fun i _=>Q1n U<|WC.b ?_)
 refine bK h fun j d h=>bK h fun g c h=>Ld<|Le 3 (xB uw)<|Le 4 (wo (cs:=[vi a.yi.fN,vi a.yi.fD]) zg<|gN (s:=2) .here U)<|Ns call193 hz (hI d)<|Q2q U<|Ly false 4 7 (B:=g) (hB:=(fun h=>(oJ<|ju c h).symm)) (fun _ e=>?_) ?_
 ·have b:=jv c e
  obtain⟨k,f,b⟩:=za b
  replace b:=oJ b
  exact Le 8 (xB sd)<|Le 9 (wo (cs:=[vi a.fR.fN,vi a.fR.fD]) zg<|gN (s:=2) .here U)<|Ns call193 hz (hI f)<|Q2q U<|Lz b U .all
 exact Q1n U<|Nz<|oJ h▸Nm results209
def vt(b:List z8)(zcp:z8->Option Bool)(c:Option Int):Nat->Int->Option Int
 | 0,_=>none
 | d+1,a=>if decide (a<b.length) then chk (0<=a/\a<b.length) ((zcp (⟨(⟨((nth b a).yi).fN,((nth b a).yi).fD⟩:z2),(⟨((nth b a).fR).fN,((nth b a).fR).fD⟩:z2)⟩:z8)).bind fun e=>if e then some a else vt b zcp c d (i64 (a+1))) else c
def kV(a:List z8)(zcp:z8->Option Bool):Option Int:=
 uN (some (-1)) fun b=>vt a zcp b xT 0
theorem rA{Z d g}(zmI zuS){b}(zcp){r}(h:kV b zcp=some r){Ny}(hz:PZ [] Ny Z)(j:ZS Z 4 (rq qw) d g b)(k:∀ args w,(callFunc zmI args).run Tryz.prog w = .ok (.enter zmI args) w)(m:∀ w:World,PZ [] w Z->∀(x0:z8) (r:Bool),zcp x0=some r->Calls Tryz.prog zmI (([.agg #[vi x0.yi.fN,vi x0.yi.fD,vi x0.fR.fN,vi x0.fR.fD]]:List Value)++zuS).toArray w fun e w'=>e = .returned (.bool r)/\Hp [] w w' []):
  RC 220 #[vs d b.length g,.func (.func zmI) #[] (zuS).toArray] Ny (vi r) [] []:=by
 unfold kV at h
 refine L0 func220 U U<|B1n U<|jK0 h fun i n h=>Nf (i=some r) ([]) ([]) ?_ ?_
 ·refine B1q U<|Le 7 (wc underlying227)<|Q1n U<|WC.block<|Ng (fun c a=>(vt b zcp i c a=some r)) (fun c a=>[(0,vs d b.length g),(1,.func (.func zmI) #[] (zuS).toArray),(7,vi (b.length:Int)),(8,vi a)]) (fun c a=>[]) (fun c a=>c) ⟨xT,0⟩ h .q .nil ?_
  rintro(_|u) a h;·cases h
  rw[vt] at h
  refine B1n U<|WC.b<|Lj h (fun o h=>?_)<|fun o h=>?_
  ·refine Np<|WC.b<|WC.block<|B2n U<|WC.b<|cK h fun p h=>bK h fun v q h=>D3q U<|L2 (Z:=Z) (Pr:=(rq qw)) za8 j p ?_
   rintro x y s z rfl
   refine Le 15 (xN z4k (qB hz.pv s))<|Lo 16 (qk (l:=[.tmp 15]) (f:=zmI) (caps:=zuS) k<|.cons U .nil) .nil (fun w hw=>m w (hz.now hw) (⟨(⟨((nth b a).yi).fN,((nth b a).yi).fD⟩:z2),(⟨((nth b a).fR).fN,((nth b a).fR).fD⟩:z2)⟩:z8) v  q)<|Q0n<|Lj h (fun t h=>?_)<|fun t h=>?_
   ·exact B2n U<|Nz<|Lx<|Ll<|Ll<|Lx<|Ll<|oJ h▸Nm results220
   ·exact N3<|Lt<|Lb<|D2q U<|WL.nil<|N0 ⟨u,i64 (a+1)⟩ h .q .nil
  ·exact N2<|Ln<|Ln<|Lv<|Lp () h .nil .nil
 ·rintro  h
  replace h:=n.symm.trans h
  exact B1n U<|Nz<|oJ h▸Nm results220
def q9(a:List z8)(zmJ:z8->Option Bool):Option Bool:=
 (kV a zmJ).bind fun b=>some (decide (b>=0))
theorem fW{Z b c}(zmK zuU){a}(zmJ){r}(h:q9 a zmJ=some r){Ny}(hz:PZ [] Ny Z)(d:ZS Z 4 (rq qw) b c a)(f:∀ args w,(callFunc zmK args).run Tryz.prog w = .ok (.enter zmK args) w)(g:∀ w:World,PZ [] w Z->∀(x0:z8) (r:Bool),zmJ x0=some r->Calls Tryz.prog zmK (([.agg #[vi x0.yi.fN,vi x0.yi.fD,vi x0.fR.fN,vi x0.fR.fD]]:List Value)++zuU).toArray w fun e w'=>e = .returned (.bool r)/\Hp [] w w' []):
  RC 208 #[vs b a.length c,.func (.func zmK) #[] (zuU).toArray] Ny (.bool r) [] []:=by
 unfold q9 at h
 exact L0 func208 U U<|B1n U<|WC.b<|bK h fun j i h=>D2q U<|Ns call220 hz (fun pz=>rA (zmI:=zmK) (zuS:=zuU) (zcp:=zmJ) i pz d f g)<|Q2n U<|Nz<|oJ h▸Nm results208
def mM(a:List z8):Option Bool:=
 (if (decide ((a.length:Int)>=1))&&(decide ((a.length:Int)<=32)) then(q9 a (fun y0=>ul y0)).bind fun b=>some (!b) else some false).bind fun c=>some c
theorem om{Z c d a r}(h:mM a=some r){Ny}(hz:PZ [] Ny Z)(f:ZS Z 4 (rq qw) c d a):
  RC 192 #[vs c a.length d] Ny (.bool r) [] []:=by
 unfold mM at h
 refine Nb func192 U U<|B1n U<|WC.b<|bK h fun k e h=>D1q U<|Le 4 (wc underlying227)<|Q2q U<|Ly true 3 6 (B:=(decide ((a.length:Int)>=1))&&(decide ((a.length:Int)<=32))) (fun _ g=>?_) ?_
 ·exact La U<|Le 8 (wc underlying227)<|Q2q U<|Lz (kR g) U .all
 refine La U<|Ly true 3 11 (B:=k) (hB:=(fun h=>(oJ<|jv e h).symm)) (fun _ i=>?_) ?_
 ·have b:=ju e i
  obtain⟨l,j,b⟩:=za b
  replace b:=oJ b
  exact La U<|Ns call208 hz (fun pz=>fW (zmK:=209) (zuU:=[]) (zmJ:=(fun y0=>ul y0)) j pz f call209<|fun w' hz' y0  r  hr=>Wd hr hz')<|Q2q U<|Lz b U .all
 exact Q1n U<|Nz<|oJ h▸Nm results192
def j5(a:List z8):Option Bool:=
 (mM a).bind fun b=>some (!b)
theorem cd{Z b c a r}(h:j5 a=some r){Ny}(hz:PZ [] Ny Z)(d:ZS Z 4 (rq qw) b c a):
  RC 197 #[vs b a.length c] Ny (.bool r) [] []:=by
 unfold j5 at h
 exact Nb func197 U U<|B1n U<|WC.b<|bK h fun f e h=>D1q U<|Ns call192 hz (fun pz=>om e pz d)<|Q2n U<|Nz<|oJ h▸Nm results197
def wV(b:List (List z8))(zcq:(List z8)->Option Bool)(c:Option Int):Nat->Int->Option Int
 | 0,_=>none
 | d+1,a=>if decide (a<b.length) then chk (0<=a/\a<b.length) ((zcq (nth b a)).bind fun e=>if e then some a else wV b zcq c d (i64 (a+1))) else c
def jy(a:List (List z8))(zcq:(List z8)->Option Bool):Option Int:=
 uN (some (-1)) fun b=>wV a zcq b xT 0
theorem rQ{Z d g}(zmL zuX){b}(zcq){r}(h:jy b zcq=some r){Ny}(hz:PZ [] Ny Z)(j:ZS Z 1 (jW Z) d g b)(k:∀ args w,(callFunc zmL args).run Tryz.prog w = .ok (.enter zmL args) w)(m:∀ w:World,PZ [] w Z->∀(x0:List z8) (lm:Option Addr) (iQ:Nat) (r:Bool),ZS Z 4 (rq qw) lm iQ x0->zcq x0=some r->Calls Tryz.prog zmL (([vs lm x0.length iQ]:List Value)++zuX).toArray w fun e w'=>e = .returned (.bool r)/\Hp [] w w' []):
  RC 211 #[vs d b.length g,.func (.func zmL) #[] (zuX).toArray] Ny (vi r) [] []:=by
 unfold jy at h
 refine L0 func211 U U<|B1n U<|jK0 h fun i n h=>Nf (i=some r) ([]) ([]) ?_ ?_
 ·refine B1q U<|Le 7 (wc underlying171)<|Q1n U<|WC.block<|Ng (fun c a=>(wV b zcq i c a=some r)) (fun c a=>[(0,vs d b.length g),(1,.func (.func zmL) #[] (zuX).toArray),(7,vi (b.length:Int)),(8,vi a)]) (fun c a=>[]) (fun c a=>c) ⟨xT,0⟩ h .q .nil ?_
  rintro(_|y) a h;·cases h
  rw[wV] at h
  refine B1n U<|WC.b<|Lj h (fun o h=>?_)<|fun o h=>?_
  ·refine Np<|WC.b<|WC.block<|B2n U<|WC.b<|cK h fun p h=>bK h fun z q h=>D3q U<|L2 (Z:=Z) (Pr:=(jW Z)) zfH j p ?_
   rintro A B s C ⟨t,u,rfl,v⟩
   refine Le 15 (xC zoL U<|kz hz.pv s)<|Lo 16 (qk (l:=[.tmp 15]) (f:=zmL) (caps:=zuX) k<|.cons U .nil) .nil (fun w hw=>m w (hz.now hw) (nth b a) t u z v q)<|Q0n<|Lj h (fun x h=>?_)<|fun x h=>?_
   ·exact B2n U<|Nz<|Lx<|Ll<|Ll<|Lx<|Ll<|oJ h▸Nm results211
   ·exact N3<|Lt<|Lb<|D2q U<|WL.nil<|N0 ⟨y,i64 (a+1)⟩ h .q .nil
  ·exact N2<|Ln<|Ln<|Lv<|Lp () h .nil .nil
 ·rintro  h
  replace h:=n.symm.trans h
  exact B1n U<|Nz<|oJ h▸Nm results211
def qh(a:List (List z8))(zpZ:(List z8)->Option Bool):Option Bool:=
 (jy a zpZ).bind fun b=>some (decide (b>=0))
theorem sN{Z b c}(zq0 zyR){a}(zpZ){r}(h:qh a zpZ=some r){Ny}(hz:PZ [] Ny Z)(d:ZS Z 1 (jW Z) b c a)(f:∀ args w,(callFunc zq0 args).run Tryz.prog w = .ok (.enter zq0 args) w)(g:∀ w:World,PZ [] w Z->∀(x0:List z8) (lm:Option Addr) (iQ:Nat) (r:Bool),ZS Z 4 (rq qw) lm iQ x0->zpZ x0=some r->Calls Tryz.prog zq0 (([vs lm x0.length iQ]:List Value)++zyR).toArray w fun e w'=>e = .returned (.bool r)/\Hp [] w w' []):
  RC 196 #[vs b a.length c,.func (.func zq0) #[] (zyR).toArray] Ny (.bool r) [] []:=by
 unfold qh at h
 exact L0 func196 U U<|B1n U<|WC.b<|bK h fun j i h=>D2q U<|Ns call211 hz (fun pz=>rQ (zmL:=zq0) (zuX:=zyR) (zcq:=zpZ) i pz d f g)<|Q2n U<|Nz<|oJ h▸Nm results196
def t6(a:yv):Option Bool:=
 (qJ a.fR).bind fun b=>(if b&&(decide (a.fR.fN>0)) then(qJ a.fL).bind fun c=>some c else some false).bind fun d=>some (d&&(decide (a.fL.fN>=0)))
theorem Xu{Z a r}(h:t6 a=some r){Ny}(hz:PZ [] Ny Z):
  RC 198 #[.agg #[vi a.fR.fN,vi a.fR.fD,vi a.fL.fN,vi a.fL.fD]] Ny (.bool r) [] []:=by
 unfold t6 at h
 refine Nb func198 U U<|B0q (Lh 1 (we (cs:=[vi a.fR.fN,vi a.fR.fD,vi a.fL.fN,vi a.fL.fD])) fun l _=>Q1n U<|WC.b ?_)
 refine bK h fun k e h=>bK h fun c d h=>Ld<|Le 3 (xB cQ)<|Le 4 (wo (cs:=[vi a.fR.fN,vi a.fR.fD]) zg<|gN (s:=2) .here U)<|Ns call130 hz (jX e)<|La U<|Ly true 4 6 (B:=k&&(decide (a.fR.fN>0))) (fun _ f=>?_) ?_
 ·exact Le 7 (xB cQ)<|Le 8 (xB jI)<|Le 9 (Nu xL .here)<|Q2q U<|Lz (kR f) U .all
 refine La U<|Ly true 3 12 (B:=c) (hB:=(fun h=>(oJ<|jv d h).symm)) (fun _ g=>?_) ?_
 ·have b:=ju d g
  obtain⟨m,i,b⟩:=za b
  replace b:=oJ b
  exact Le 13 (xB lO)<|Le 14 (wo (cs:=[vi a.fL.fN,vi a.fL.fD]) zg<|gN (s:=2) .here U)<|Ns call130 hz (jX i)<|La U<|Lz b U .all
 refine La U<|Ly true 4 17 (B:=c&&(decide (a.fL.fN>=0))) (fun _ j=>?_) ?_
 ·exact Le 18 (xB lO)<|Le 19 (xB jI)<|Le 20 (Nu xL .here)<|Q2q U<|Lz (kR j) U .all
 exact Q1n U<|Nz<|oJ h▸Nm results198
def jm(a:Int):Option z2:=
 some (⟨a,1⟩:z2)
theorem t7{Z a r}(h:jm a=some r){Ny}(hz:PZ [] Ny Z):
  RC 191 #[vi a] Ny (.agg #[vi r.fN,vi r.fD]) [] []:=by
 unfold jm at h
 refine Nb func191 U U<|B0q (Lh 2 (xV (cs:=[vi 0,vi 0]) z1F U) fun b _=>Q0n<|B1q U<|Le 4 (wl (v:=(.agg #[vi a,vi 1])) (Lq (l:=[.tmp 3,.const (vi 1)]) (.r2 U U) [0,1]))<|Lk (xR z16 .here)<|Q0n<|Nz ?_)
 exact oJ h▸Nn results191 (.agg U zg U (xO .here) .nil) .nil
def gY  : Option z2:=
 (jm 0).bind fun a=>some a
theorem tQ{Z r}(h:gY=some r){Ny}(hz:PZ [] Ny Z):
  RC 161 #[] Ny (.agg #[vi r.fN,vi r.fD]) [] []:=by
 unfold gY at h
 refine Oh func161 U U<|B0q (Lh 0 (xV (cs:=[vi 0,vi 0]) z1F U) fun b _=>Q0n<|WC.b ?_)
 exact bK h fun c a h=>Ld<|Ns call191 hz (t7 a)<|Lk (xR z16 .here)<|Q0n<|Nz<|oJ h▸Nn results161 (.agg U zg U (xO .here) .nil) .nil
def vR(b:List z8)(c:z8)(d:Option Int):Nat->Int->Option Int
 | 0,_=>none
 | e+1,a=>if decide (a<b.length) then chk (0<=a/\a<b.length) (if decide (c=(⟨(⟨((nth b a).yi).fN,((nth b a).yi).fD⟩:z2),(⟨((nth b a).fR).fN,((nth b a).fR).fD⟩:z2)⟩:z8)) then some a else vR b c d e (i64 (a+1))) else d
def gK(a:List z8)(b:z8):Option Int:=
 uN (some (-1)) fun c=>vR a b c xT 0
theorem pR{Z g i e c r}(h:gK e c=some r){Ny}(hz:PZ [] Ny Z)(m:ZS Z 4 (rq qw) g i e):
  RC 228 #[vs g e.length i,.agg #[vi c.yi.fN,vi c.yi.fD,vi c.fR.fN,vi c.fR.fD]] Ny (vi r) [] []:=by
 unfold gK at h
 refine L0 func228 U U ?_
 let A:List Value:=[vi c.yi.fN,vi c.yi.fD,vi c.fR.fN,vi c.fR.fD];refine B0q<|Lh 3 (we (cs:=A)) ?_
 intro k _
 refine Q1n U<|jK0 h fun l n h=>Nf (l=some r) ([]) ([]) ?_ ?_
 ·refine B1q U<|Le 7 (wc underlying227)<|Q1n U<|WC.block<|Ng (fun f d=>(vR e c l f d=some r)) (fun f d=>[(0,vs g e.length i),(3,vp k),(7,vi (e.length:Int)),(8,vi d)]) (fun f d=>[stb k 225 A]) (fun f d=>f) ⟨xT,0⟩ h .q (.cons .here .nil) ?_
  rintro(_|t) d h;·cases h
  rw[vR] at h
  refine B1n U<|WC.b<|Lj h (fun o h=>?_)<|fun o h=>?_
  ·refine Np<|WC.b<|WC.block<|B2n U<|WC.b<|cK h fun p h=>Lu nc []<|Lg 0 U (xN z4k (xO .here))<|Lf 1 U q_m<|Lf 2 U q_m<|L7 (j:=3) (Z:=Z) (Pr:=(rq qw)) za8 m p ?_
   rintro u v q x rfl
   refine Lg 4 U (xN z4k (qB hz.pv q))<|Lf 5 U (lF (enc:=qw) (a:=c) (b:=(⟨(⟨((nth e d).yi).fN,((nth e d).yi).fD⟩:z2),(⟨((nth e d).fR).fN,((nth e d).fR).fD⟩:z2)⟩:z8)) zM8)<|N1<|Lb<|Lj h (fun s h=>?_)<|fun s h=>?_
   ·exact B2n U<|Nz<|Lx<|Ll<|Ll<|Lx<|Ll<|oJ h▸Nm results228
   ·exact N3<|Lt<|Lb<|D2q U<|WL.nil<|N0 ⟨t,i64 (d+1)⟩ h .q<|.cons .here .nil
  ·exact N2<|Ln<|Ln<|Lv<|Lp () h .nil .nil
 ·rintro  h
  replace h:=n.symm.trans h
  exact B1n U<|Nz<|oJ h▸Nm results228
def jz(a:List z8)(b:z8):Option Bool:=
 (gK a b).bind fun c=>some (decide (c>=0))
theorem rR{Z c d b a r}(h:jz b a=some r){Ny}(hz:PZ [] Ny Z)(e:ZS Z 4 (rq qw) c d b):
  RC 221 #[vs c b.length d,.agg #[vi a.yi.fN,vi a.yi.fD,vi a.fR.fN,vi a.fR.fD]] Ny (.bool r) [] []:=by
 unfold jz at h
 refine L0 func221 U U<|B0q (Lh 3 (we (cs:=[vi a.yi.fN,vi a.yi.fD,vi a.fR.fN,vi a.fR.fD])) fun g _=>Q1n U<|WC.b ?_)
 exact bK h fun i f h=>D1q U<|Le 6 (xN z4k (xO .here))<|Ns call228 hz (fun pz=>pR f pz e)<|Q2n U<|Nz<|oJ h▸Nm results221
def qa(a:z2)(b:z2):Option Int:=
 (qJ a).bind fun c=>(if !c then some true else(qJ b).bind fun d=>some (!d)).bind fun e=>if e then some 0 else if decide ((i64 (a.fN*b.fD))<(i64 (b.fN*a.fD))) then some (-1) else if decide ((i64 (a.fN*b.fD))>(i64 (b.fN*a.fD))) then some 1 else some 0
theorem uf{Z a b r}(h:qa a b=some r){Ny}(hz:PZ [] Ny Z):
  RC 129 #[.agg #[vi a.fN,vi a.fD],.agg #[vi b.fN,vi b.fD]] Ny (vi r) [] []:=by
 unfold qa at h
 refine L0 func129 U U<|B0q (Lh 2 (we (cs:=[vi a.fN,vi a.fD])) fun m _=>Lh 3 (we (cs:=[vi b.fN,vi b.fD])) fun n _=>Q1n U<|WC.b<|WC.b ?_)
 refine bK h fun o e h=>bK h fun l d h=>Ld<|Le 7 (xN zg (xO .h1))<|Ns call130 hz (jX e)<|Q2q U<|Ly false 3 10 (B:=l) (hB:=(fun h=>(oJ<|ju d h).symm)) (fun _ f=>?_) ?_
 ·have c:=jv d f
  obtain⟨p,g,c⟩:=za c
  replace c:=oJ c
  exact Le 11 (xN zg (xO .here))<|Ns call130 hz (jX g)<|Q2q U<|Lz c U .all
 refine Q0n<|Lj h (fun i h=>?_)<|fun i h=>?_
 ·exact B1n U<|Nz<|Ll<|oJ h▸Nm results129
 ·refine Np<|WC.b<|WC.b<|Lu nc []<|Lf 0 U (xB jI)<|Lg 1 U (Nu xL .h1)<|Lf 2 U (xB kD)<|Lg 3 U (Nu xL .here)<|Lf 4 U sX<|Lf 5 U (xB jI)<|Lg 6 U (Nu xL .here)<|Lf 7 U (xB kD)<|Lg 8 U (Nu xL .h1)<|Lf 9 U sX<|Lf 10 U q_z<|Lf 11 U q_z<|N1<|Lb<|WC.block<|B4n U<|Lj h (fun j h=>?_)<|fun j h=>?_
  ·exact B1n U<|Nz<|Lx<|Ll<|oJ h▸Nm results129
  ·refine B4n U<|Lj h (fun k h=>?_)<|fun k h=>?_
   ·exact B1n U<|Nz<|Lx<|Ll<|oJ h▸Nm results129
   ·exact N3<|Lt<|Lb<|B1n U<|Nz<|oJ h▸Nm results129
def uD(a:z8)(b:z8):Option Bool:=
 (if decide (a≠b) then(qa a.yi b.yi).bind fun c=>some (decide (c<=0)) else some false).bind fun d=>(if d then(qa a.fR b.fR).bind fun e=>some (decide (e<=0)) else some false).bind fun f=>some f
theorem YK{Z c d r}(h:uD c d=some r){Ny}(hz:PZ [] Ny Z):
  RC 223 #[.agg #[vi c.yi.fN,vi c.yi.fD,vi c.fR.fN,vi c.fR.fD],.agg #[vi d.yi.fN,vi d.yi.fD,vi d.fR.fN,vi d.fR.fD]] Ny (.bool r) [] []:=by
 unfold uD at h
 refine L0 func223 U U<|B0q (Lh 2 (we (cs:=[vi c.yi.fN,vi c.yi.fD,vi c.fR.fN,vi c.fR.fD])) fun p _=>Lh 3 (we (cs:=[vi d.yi.fN,vi d.yi.fD,vi d.fR.fN,vi d.fR.fD])) fun q _=>Q1n U<|WC.b ?_)
 refine bK h fun n g h=>bK h fun o i h=>Ld<|Le 5 (xN z4k (xO .h1))<|Le 6 (xN z4k (xO .here))<|Le 7 (eO (enc:=qw) (a:=c) (b:=d) zM8 U U)<|La U<|Ly true 6 8 (B:=n) (hB:=(fun h=>(oJ<|jv g h).symm)) (fun _ j=>?_) ?_
 ·have e:=ju g j
  obtain⟨t,k,e⟩:=za e
  replace e:=oJ e
  exact Le 9 (xB uw)<|Le 10 (wo (cs:=[vi c.yi.fN,vi c.yi.fD]) zg<|gN (s:=2) .h1 U)<|Le 11 (xB uw)<|Le 12 (wo (cs:=[vi d.yi.fN,vi d.yi.fD]) zg<|gN (s:=2) .here U)<|Ns call129 hz (uf k)<|Q2q U<|Lz e U .all
 refine La U<|Ly true 6 16 (B:=o) (hB:=(fun h=>(oJ<|jv i h).symm)) (fun _ l=>?_) ?_
 ·have f:=ju i l
  obtain⟨u,m,f⟩:=za f
  replace f:=oJ f
  exact Le 17 (xB sd)<|Le 18 (wo (cs:=[vi c.fR.fN,vi c.fR.fD]) zg<|gN (s:=2) .h1 U)<|Le 19 (xB sd)<|Le 20 (wo (cs:=[vi d.fR.fN,vi d.fR.fD]) zg<|gN (s:=2) .here U)<|Ns call129 hz (uf m)<|Q2q U<|Lz f U .all
 exact Q1n U<|Nz<|oJ h▸Nm results223
def uU(a:z8)(b:z8):Option Bool:=
 (uD a b).bind fun c=>some c
theorem Vc{Z c a b r}(h:uU a b=some r){Ny}(hz:PZ [] Ny Z)(d:ZC Z c [vi b.yi.fN,vi b.yi.fD,vi b.fR.fN,vi b.fR.fD]):
  RC 222 #[.agg #[vi a.yi.fN,vi a.yi.fD,vi a.fR.fN,vi a.fR.fD],vq c] Ny (.bool r) [] []:=by
 unfold uU at h
 refine L0 func222 U U<|B0q (Lh 2 (we (cs:=[vi a.yi.fN,vi a.yi.fD,vi a.fR.fN,vi a.fR.fD])) fun f _=>Q1n U<|WC.b ?_)
 exact bK h fun g e h=>Ld<|Le 4 (xN z4k (xO .here))<|Le 5 (xN z4k (qB hz.pv d))<|Ns call223 hz (YK e)<|Q1n U<|Nz<|oJ h▸Nm results222
def sy(a:z8)(b:z8):Option Int:=
 (qa a.yi b.yi).bind fun c=>some c
theorem Vd{Z a b r}(h:sy a b=some r){Ny}(hz:PZ [] Ny Z):
  RC 225 #[.agg #[vi a.yi.fN,vi a.yi.fD,vi a.fR.fN,vi a.fR.fD],.agg #[vi b.yi.fN,vi b.yi.fD,vi b.fR.fN,vi b.fR.fD]] Ny (vi r) [] []:=by
 unfold sy at h
 refine L0 func225 U U<|B0q (Lh 2 (we (cs:=[vi a.yi.fN,vi a.yi.fD,vi a.fR.fN,vi a.fR.fD])) fun d _=>Lh 3 (we (cs:=[vi b.yi.fN,vi b.yi.fD,vi b.fR.fN,vi b.fR.fD])) fun e _=>Q1n U<|WC.b ?_)
 exact bK h fun f c h=>Ld<|Le 5 (xB uw)<|Le 6 (wo (cs:=[vi a.yi.fN,vi a.yi.fD]) zg<|gN (s:=2) .h1 U)<|Le 7 (xB uw)<|Le 8 (wo (cs:=[vi b.yi.fN,vi b.yi.fD]) zg<|gN (s:=2) .here U)<|Ns call129 hz (uf c)<|Q1n U<|Nz<|oJ h▸Nm results225
theorem z15i:∀ w,(isAgg (Tryz.gp.t 24)).run Tryz.prog w = .ok true w:=fun _=>by kernel_rfl
theorem z15j:∀ w,(Go.sizeOf (Tryz.gp.t 24)).run Tryz.prog w = .ok 4 w:=fun _=>by kernel_rfl
def gV(z7t:List z8)(zv5:Int)(zv6:Int)(zq2:Int)(zmN:z8->z8->Option Int):Option (List z8):=chk ((zv5=0/\zv6=(z7t.length:Int))/\(0<=zq2/\zq2<4611686018427387904/\z7t.length<4611686018427387904)) (chk (ou zmN (wC zmN z7t)=true) (some (wC zmN z7t)))
theorem pX{Z}(zmO zmP zv7 zGQ z7t zv5 zv6 zq2 zmN r){Ny}(hz:Pz [row (vs zmO z7t.length zmP) 225 4 (z7t.flatMap qw)] Ny Z)(a:∀ args w,(callFunc zv7 args).run Tryz.prog w = .ok (.enter zv7 args) w)(b:∀ w:World,PZ [] w Z->∀(x0:z8) (x1:z8) (r:Int),zmN x0 x1=some r->Calls Tryz.prog zv7 (([.agg #[vi x0.yi.fN,vi x0.yi.fD,vi x0.fR.fN,vi x0.fR.fD],.agg #[vi x1.yi.fN,vi x1.yi.fD,vi x1.fR.fN,vi x1.fR.fD]]:List Value)++zGQ).toArray w fun e w'=>e = .returned (vi r)/\Hp [] w w' [])(h:gV z7t zv5 zv6 zq2 zmN=some r)(iF:Ho Ny [row (vs zmO z7t.length zmP) 225 4 (z7t.flatMap qw)]):
  Calls Tryz.prog 229 #[vs zmO z7t.length zmP,vi zv5,vi zv6,vi zq2,.func (.func zv7) #[] (zGQ).toArray] Ny fun e w'=>e = .returned (.tuple #[])/\(r.length=z7t.length)/\Hp (fps [row (vs zmO z7t.length zmP) 225 4 (z7t.flatMap qw)]) Ny w' [row (vs zmO r.length zmP) 225 4 (r.flatMap qw)]:=by
 obtain⟨h0,h⟩:=xI h
 obtain⟨h1,h⟩:=xI h
 have hr:=(oJ h).symm
 exact im (P:=Tryz.prog) (f:=229) (e:=225) (k:=4) (enc:=qw) KP (fun β _ enc cf g cb hO wq off cap d0 w0 eg hC R=>Tryz.lK 4 z15i z15j enc cf g cb hO wq off cap d0 w0 eg hC R) (Tryz.lh (α:=Unit)) hz a b h0 h1 hr iF
def vS(a:List z8)(zq3:z8->z8->Option Int):Option (List z8):=
 (fj (u64 (a.length:Int))).bind fun b=>(gV a 0 (a.length:Int) b zq3).bind fun c=>some c
theorem rS{Z b c}(zq4 zyV){a}(zq3){r}(h:vS a zq3=some r){Ny}(hz:Pz [row (vs b a.length c) 225 4 (a.flatMap qw)] Ny Z)(j:∀ args w,(callFunc zq4 args).run Tryz.prog w = .ok (.enter zq4 args) w)(k:∀ w:World,PZ [] w Z->∀(x0:z8) (x1:z8) (r:Int),zq3 x0 x1=some r->Calls Tryz.prog zq4 (([.agg #[vi x0.yi.fN,vi x0.yi.fD,vi x0.fR.fN,vi x0.fR.fD],.agg #[vi x1.yi.fN,vi x1.yi.fD,vi x1.fR.fN,vi x1.fR.fD]]:List Value)++zyV).toArray w fun e w'=>e = .returned (vi r)/\Hp [] w w' [])(iF:Ho Ny [row (vs b a.length c) 225 4 (a.flatMap qw)]):
  Calls Tryz.prog 224 #[vs b a.length c,.func (.func zq4) #[] (zyV).toArray] Ny fun e w'=>e = .returned (.tuple #[])/\(r.length=a.length)/\Hp (fps [row (vs b a.length c) 225 4 (a.flatMap qw)]) Ny w' [row (vs b r.length c) 225 4 (r.flatMap qw)]:=by
 unfold vS at h
 refine Nj func224 U iF U<|B1q U<|Le 6 (wc underlying227)<|Q1n U<|bK h fun d l h=>bK h fun f m h=>D3q U<|Le 10 (fF underlying3 underlying147)<|Ns call57 hz (fun pz=>oZ  (zba:=(u64 (a.length:Int))) (r:=d) pz  l)<|La U<|Nc U (Nt call229) (.cons .here .nil) (cc hz (.cons .here .nil) fun w pz ho=>pX (zmO:=b) (zmP:=c) (zv7:=zq4) (zGQ:=zyV) (z7t:=a) (zv5:=0) (zv6:=(a.length:Int)) (zq2:=d) (zmN:=zq3) (r:=f) pz j k m ho) ?_
 rintro  g
 exact L9 (i:=0) U (u:=(vs b f.length c)) (qD g.symm)<|WL.nil<|oJ h▸Nh results224 .nil fun w hw=>⟨ms,g.trans U,hw.sub (.cons .here .nil)⟩
def mz(a:List z8)(d:(List z8)->Option (List z8)):Nat->(List z8)->Int->Option (List z8)
 | 0,_,_=>none
 | f+1,c,b=>if decide (b<a.length) then qt (fun(g:List z8)=>mz a d f g (i64 (b+1))) fun e=>chk (0<=b/\b<a.length) ((jz c (⟨(⟨((nth a b).yi).fN,((nth a b).yi).fD⟩:z2),(⟨((nth a b).fR).fN,((nth a b).fR).fD⟩:z2)⟩:z8)).bind fun h=>(if !h then(q9 a (fun(y0:z8)=>uU y0 (⟨(⟨((nth a b).yi).fN,((nth a b).yi).fD⟩:z2),(⟨((nth a b).fR).fN,((nth a b).fR).fD⟩:z2)⟩:z8))).bind fun i=>some (!i) else some false).bind fun j=>if j then chk ((((c++([(⟨(⟨((nth a b).yi).fN,((nth a b).yi).fD⟩:z2),(⟨((nth a b).fR).fN,((nth a b).fR).fD⟩:z2)⟩:z8)]:List z8)).length:Nat):Int)*32<=140737488355328/\(((c++([(⟨(⟨((nth a b).yi).fN,((nth a b).yi).fD⟩:z2),(⟨((nth a b).fR).fN,((nth a b).fR).fD⟩:z2)⟩:z8)]:List z8)).length:Nat):Int)<=4611686018427387904) (e (c++([(⟨(⟨((nth a b).yi).fN,((nth a b).yi).fD⟩:z2),(⟨((nth a b).fR).fN,((nth a b).fR).fD⟩:z2)⟩:z8)]:List z8))) else e c) else d c
def pB(a:List z8):Option (List z8):=
 qt (fun(b:List z8)=>(vS b (fun y0 y1=>sy y0 y1)).bind fun c=>some c) fun d=>mz a d xT ([]:List z8) 0
theorem J8{Z s t b r}(h:pB b=some r){Ny}(hz:PZ [] Ny Z)(v:ZS Z 4 (rq qw) s t b):
  Calls Tryz.prog 212 #[vs s b.length t] Ny fun e w'=>∃ x:Option Addr,∃ y:Nat,e = .returned (vs x r.length y)/\True/\Hp [] Ny w' [row (vs x r.length y) 225 4 (r.flatMap qw)]:=by
 unfold pB at h
 refine Nb func212 U U<|B1n U<|B1n U<|jK1 h fun z E h=>Ni (fun f k m=>(z f=some r)) (fun f k m=>[(3,vs k f.length m)]) (fun f k m=>[row (vs k f.length m) 225 4 (f.flatMap qw)]) ?_ ?_
 ·let A:Value:=(vs s b.length t);let C:Value:=(vi (b.length:Int));refine B1q U<|Le 7 (wc underlying227)<|Q1n U<|WC.block<|WC.nilRow 225 4<|Oe (fun p c a g j=>(mz b z p c a=some r)) (fun p c a g j=>[(0,A),(3,vs g c.length j),(6,A),(7,C),(8,vi a)]) (fun p c a g j=>[row (vs g c.length j) 225 4 (c.flatMap qw)]) (fun p c a g j=>p) ⟨xT,([]:List z8),0,none,0⟩ h .q (.cons .here .nil) ?_
  rintro(_|T) c a g j h;·cases h
  rw[mz] at h
  refine B1n U<|WC.b<|Lj h (fun F h=>?_)<|fun F h=>?_
  ·refine Np<|jK1 h fun V G h=>Ni (fun d n o=>(V d=some r)) (fun d n o=>[(0,A),(3,vs n d.length o),(6,A),(7,C),(8,vi a)]) (fun d n o=>[row (vs n d.length o) 225 4 (d.flatMap qw)]) ?_ ?_
   ·refine WC.block<|WC.b<|cK h fun H h=>Ld<|L2 (Z:=Z) (Pr:=(rq qw)) za8 v H ?_
    rintro Y aa I ab rfl
    refine Le 11 (xN z4k (qB hz.pv I)) (Lh 5 (xV (cs:=[vi 0,vi 0,vi 0,vi 0]) zfI U) fun J _=>Lk (xR zdS .here)<|Q0n<|WC.b ?_)
    refine bK h fun ae K h=>bK h fun W D h=>D1q U<|Le 13 (xN z4k (xO .here))<|Lo 14 (Nt call221) .nil (uB hz .nil (.cons .h1 .nil) fun w pz ho la=>rR K pz<|ZA.row (la _ (.head _) _) (RR.flat (enc:=qw)) ⟨w,pz.1⟩)<|Q2q U<|Ly true 4 16 (B:=W) (hB:=(fun h=>(oJ<|jv D h).symm)) (fun _ L=>?_) ?_
    ·have q:=ju D L
     obtain⟨af,M,q⟩:=za q
     replace q:=oJ q
     exact La U<|Le 18 (wO<|L5 (l:=[.tmp 5])<|.cons U .nil)<|Lo 19 (Nt call208) .nil (uB hz .nil (.cons .here .nil) fun w pz ho la=>fW (zmK:=222) (zuU:=[vp J]) (zmJ:=(fun(y0:z8)=>uU y0 (⟨(⟨((nth b a).yi).fN,((nth b a).yi).fD⟩:z2),(⟨((nth b a).fR).fN,((nth b a).fR).fD⟩:z2)⟩:z8))) M pz (v.mono<|zl) call222<|fun w' hz' y0  r  hr=>Vc hr hz'<|(la _ (.head _) _).stb)<|Q2q U<|Lz q U .all
    refine Q0n<|Lj h (fun N h=>?_)<|fun N h=>?_
    ·refine cK h fun O h=>D1q U<|Le 23 (xN z4k (xO .here)) (Lh 24 (wn (cs:=([(⟨(⟨((nth b a).yi).fN,((nth b a).yi).fD⟩:z2),(⟨((nth b a).fR).fN,((nth b a).fR).fD⟩:z2)⟩:z8)]:List z8).flatMap qw) za8 (Lq (l:=[.tmp 23]) (.cons U .nil) [0])) fun ad _=>WL.fA 25 (jN (enc:=qw) (l1:=c) (l2:=([(⟨(⟨((nth b a).yi).fN,((nth b a).yi).fD⟩:z2),(⟨((nth b a).fR).fN,((nth b a).fR).fD⟩:z2)⟩:z8)]:List z8)) za8 .h2 (j4 .here) (kZ KP) O) ?_)
     rintro⟨P,Q⟩ _
     exact La U<|WL.nil<|Lt<|Lp ⟨c++([(⟨(⟨((nth b a).yi).fN,((nth b a).yi).fD⟩:z2),(⟨((nth b a).fR).fN,((nth b a).fR).fD⟩:z2)⟩:z8)]:List z8),P,Q⟩ h .q<|.cons .here .nil
    ·exact N3<|Lt<|Lp ⟨c,g,j⟩ h .q<|.cons .h1 .nil
   ·rintro d n o h
    replace h:=(G d).symm.trans h
    exact D2q U<|WL.nil<|N0 ⟨T,d,i64 (a+1),n,o⟩ h .q<|.cons .here .nil
  ·exact N2<|Ln<|Ln<|Lv<|Lp ⟨c,g,j⟩ h (.cons U .nil)<|.cons .here .nil
 ·rintro f k m h
  replace h:=(E f).symm.trans h
  refine WC.b<|bK h fun X R h=>D1q U<|Nc U (Nt call224) (.cons .here .nil) (cc hz (.cons .here .nil) fun w pz ho=>rS (zq4:=225) (zyV:=[]) (zq3:=(fun y0 y1=>sy y0 y1)) R pz call225 (fun w' hz' y0 y1  r  hr=>Vd hr hz' ) ho) ?_
  rintro  S
  exact L9 (i:=3) U (u:=(vs k X.length m)) (qD S.symm)<|Q0n<|B2n U<|Nz<|oJ h▸Li results212 (.tmp U .nil) fun w hw=>⟨k,m,w3,trivial,hw.sub (.cons .here .nil)⟩
def rB(a:List z8)(b:List z8):Option (List z8×List z8):=
 some (a,b)
theorem Ql{Z a b c d f g r}(h:rB f g=some r){Ny}(hz:PZ [] Ny Z)(p:ZS Z 4 (rq qw) a b f)(q:ZS Z 4 (rq qw) c d g):
  Calls Tryz.prog 213 #[vs a f.length b,vs c g.length d] Ny fun e w'=>∃ i:Nat,∃ j:Nat,∃ k:Option Addr,∃ m:Nat,∃ n:Option Addr,∃ o:Nat,e = .returned (.func (.func 226) #[] #[vp i,vp j])/\((ZS Z 4 (rq qw) k m r.1)/\(ZS Z 4 (rq qw) n o r.2))/\Hp [] Ny w' [stb i 227 [vs k r.1.length m],stb j 227 [vs n r.2.length o]]:=by
 unfold rB at h
 refine L0 func213 U U<|B0q (Lh 2 (we (cs:=[vs a f.length b])) fun s _=>Lh 3 (we (cs:=[vs c g.length d])) fun t _=>Q1n U<|B0q<|Le 5 (wO<|L5 (l:=[.tmp 2,.tmp 3])<|.r2 U U)<|Q1n U<|Nz ?_)
 exact oJ h▸Li results213 (.tmp U .nil) fun w hw=>⟨s,t,a,b,c,d,w3,⟨p,q⟩,hw.sub (.s2 .h1 .here)⟩
def gA(z1j:Type)(z3m:List z8)(z7u:(z8×z8)->z1j->Option (Bool×z1j))(z2r:List z8)(b:Int)(d:z1j->Option z1j):Nat->Int->z1j->Option z1j
 | 0,_,_=>none
 | f+1,a,e=>if decide (a<z3m.length) then chk (0<=a/\a<z3m.length) ((z7u ((⟨(⟨((nth z2r b).yi).fN,((nth z2r b).yi).fD⟩:z2),(⟨((nth z2r b).fR).fN,((nth z2r b).fR).fD⟩:z2)⟩:z8),(⟨(⟨((nth z3m a).yi).fN,((nth z3m a).yi).fD⟩:z2),(⟨((nth z3m a).fR).fN,((nth z3m a).fR).fD⟩:z2)⟩:z8)) e).bind fun c=>if !c.1 then some c.2 else gA z1j z3m z7u z2r b d f (i64 (a+1)) c.2) else d e
def gB(z1j:Type)(z2r:List z8)(z3m:List z8)(z7u:(z8×z8)->z1j->Option (Bool×z1j))(b:z1j->Option z1j):Nat->Int->z1j->Option z1j
 | 0,_,_=>none
 | d+1,a,c=>if decide (a<z2r.length) then qt (fun(e:z1j)=>gB z1j z2r z3m z7u b d (i64 (a+1)) e) fun f=>chk (0<=a/\a<z2r.length) (qt (fun g=>f g) fun h=>gA z1j z3m z7u z2r a h xT 0 c) else b c
def um(z1j:Type)(z7u:(z8×z8)->z1j->Option (Bool×z1j))(zee:z1j)(z2r:List z8)(z3m:List z8):Option z1j:=
 qt (fun(a:z1j)=>some a) fun b=>gB z1j z2r z3m z7u b xT 0 zee
theorem We{Z}(z1j:Type)(zmT)(zcw:Type)(z9A)(zgJ:zcw->z1j->Prop)(zmU zGX zmV zmW zmX zz1 zz2 z7u zee z2r z3m r){Ny}(hz:Pz [z9A zmU zee] Ny Z)(K:aD Tryz.prog Z zmT (α:=z8×z8) (σ:=z1j) (G:=zcw) (H:=Unit) (fun h x=>[.agg #[vi x.1.yi.fN,vi x.1.yi.fD,vi x.1.fR.fN,vi x.1.fR.fD],.agg #[vi x.2.yi.fN,vi x.2.yi.fD,vi x.2.fR.fN,vi x.2.fR.fD]]) (fun h x=>[]) z7u z9A zgJ)(L:zgJ zmU zee)(M:ZS Z 4 (rq qw) zmV zmW z2r)(N:ZC Z zGX [vs zmV z2r.length zmW])(O:ZS Z 4 (rq qw) zz1 zz2 z3m)(P:ZC Z zmX [vs zz1 z3m.length zz2])(h:um z1j z7u zee z2r z3m=some r)(iF:Ho Ny [z9A zmU zee]):
  Calls Tryz.prog 226 #[.func (.yield zmT) #[] #[],vq zGX,vq zmX] Ny fun e w'=>∃ v:zcw,e = .returned (.tuple #[])/\(zgJ v r)/\Hp (fps [z9A zmU zee]) Ny w' [z9A v r]:=by
 unfold um at h
 refine N8 func226 U iF U<|B0q<|Le 8 (xC zoL U<|kz hz.pv N)<|Le 9 (wc underlying227)<|Q1n U<|jK1 h fun y Q h=>Oy (fun m n=>(y m=some r)/\(zgJ n m)) (fun m n=>[]) (fun m n=>[z9A n m]) ?_ ?_
 ·let A:Value:=(.func (.yield zmT) #[] #[]);let C:Value:=(vs zmV z2r.length zmW);let D:Value:=(vi (z2r.length:Int));refine WC.block<|Cv (fun o a i j=>(gB z1j z2r z3m z7u y o a i=some r)/\(zgJ j i)) (fun o a i j=>[(0,A),(2,vq zmX),(8,C),(9,D),(10,vi a)]) (fun o a i j=>[z9A j i]) (fun o a i j=>o) ⟨xT,0,zee,zmU⟩ ⟨h,L⟩ .q (.cons .here .nil) ?_
  rintro (_|ah) a i j ⟨h,z⟩;·cases h
  rw[gB] at h
  refine B1n U<|WC.b<|Lj h (fun R h=>?_)<|fun R h=>?_
  ·refine Np<|jK1 h fun ai S h=>H6 (fun k p=>(ai k=some r)/\(zgJ p k)) (fun k p=>[(0,A),(2,vq zmX),(8,C),(9,D),(10,vi a)]) (fun k p=>[z9A p k]) ?_ ?_
   ·refine WC.block<|WC.b<|cK h fun T h=>Ld<|L2 (Z:=Z) (Pr:=(rq qw)) za8 M T ?_
    rintro ak al V am rfl
    refine Le 13 (xN z4k (qB hz.pv V)) (Lh 5 (xV (cs:=[vi 0,vi 0,vi 0,vi 0]) zfI U) fun B _=>Lk (xR zdS .here)<|Q0n<|B0q<|Le 14 (xC zoL U<|kz hz.pv P)<|Le 15 (wc underlying227)<|Q1n U ?_)
    refine jK1 h fun E W h=>Oy (fun l q=>(E l=some r)/\(zgJ q l)) (fun l q=>[(0,A),(2,vq zmX),(8,C),(9,D),(10,vi a)]) (fun l q=>[z9A q l]) ?_ ?_
    ·refine WC.block<|Cv (fun t c d f=>(gA z1j z3m z7u z2r a E t c d=some r)/\(zgJ f d)) (fun t c d f=>[(0,A),(2,vq zmX),(5,vp B),(8,C),(9,D),(10,vi a),(14,vs zz1 z3m.length zz2),(15,vi (z3m.length:Int)),(16,vi c)]) (fun t c d f=>[stb B 225 [(vi<|((nth z2r a).yi).fN),(vi<|((nth z2r a).yi).fD),(vi<|((nth z2r a).fR).fN),(vi<|((nth z2r a).fR).fD)],z9A f d]) (fun t c d f=>t) ⟨xT,0,i,j⟩ ⟨h,z⟩ .q .a2 ?_
     rintro (_|aj) c d f ⟨h,F⟩;·cases h
     rw[gA] at h
     refine B1n U<|WC.b<|Lj h (fun X h=>?_)<|fun X h=>?_
     ·refine Np<|WC.b<|WC.block<|WC.b<|cK h fun Y h=>Ld<|L2 (Z:=Z) (Pr:=(rq qw)) za8 O Y ?_
      rintro an ao aa ap rfl
      refine Le 19 (xN z4k (qB hz.pv aa)) (Lh 7 (xV (cs:=[vi 0,vi 0,vi 0,vi 0]) zfI U) fun aq _=>Lk (xR zdS .here)<|Q0n<|WC.b ?_)
      refine bK h fun u ab h=>D1q U<|Le 21 (xN z4k (xO .h1))<|Le 22 (xN z4k (xO .here)) (H8 (x:=((⟨(⟨((nth z2r a).yi).fN,((nth z2r a).yi).fD⟩:z2),(⟨((nth z2r a).fR).fN,((nth z2r a).fR).fD⟩:z2)⟩:z8),(⟨(⟨((nth z3m c).yi).fN,((nth z3m c).yi).fD⟩:z2),(⟨((nth z3m c).fR).fN,((nth z3m c).fR).fD⟩:z2)⟩:z8))) (h:=()) (g:=f) (s:=d) (b:=u.1) (s':=u.2) K U .q ((.cons .h2 .nil):Sel _ [z9A f d] _) ab F (fun w hw=>hz.call hw ((.cons .h2 .nil):Sel _ [z9A f d] _)) fun I J=>Q1n U<|Lj h (fun ad h=>?_)<|fun ad h=>?_)
      ·exact Nz<|Lx<|Ll<|Ll<|Lx<|Ll<|Lx<|Ll<|Ll<|Lx<|Ll<|oJ h▸Li results226 .nil fun w hw=>⟨I,ms,J,hw.sub (.cons .here .nil)⟩
      ·exact N3<|Lt<|Lb<|D2q U<|WL.nil<|N0 ⟨aj,i64 (c+1),u.2,I⟩ ⟨h,J⟩ .q<|.s2 .h2 .here
     ·exact N2<|Ln<|Ln<|Lv<|Lp ⟨d,f⟩ ⟨h,F⟩ .q<|.cons .h1 .nil
    ·rintro l q ⟨h,ae⟩
     replace h:=(W l).symm.trans h
     exact Lt<|Lp ⟨l,q⟩ ⟨h,ae⟩ .q<|.cons .here .nil
   ·rintro k p ⟨h,af⟩
    replace h:=(S k).symm.trans h
    exact D2q U<|WL.nil<|N0 ⟨ah,i64 (a+1),k,p⟩ ⟨h,af⟩ .q<|.cons .here .nil
  ·exact N2<|Ln<|Ln<|Lv<|Lp ⟨i,j⟩ ⟨h,z⟩ .nil<|.cons .here .nil
 ·rintro m n ⟨h,ag⟩
  replace h:=(Q m).symm.trans h
  exact oJ h▸Nh results226 .nil fun w hw=>⟨n,ms,ag,hw.sub (.cons .here .nil)⟩
def ce(a:z2)(b:z2):Option (Int×Int):=
 some (i64 ((i64 (a.fN*b.fD))-(i64 (b.fN*a.fD))),i64 (a.fD*b.fD))
theorem GC{Z e f a b r}(h:ce a b=some r){Ny}(hz:PZ [] Ny Z)(c:ZC Z e [vi a.fN,vi a.fD])(d:ZC Z f [vi b.fN,vi b.fD]):
  RC 188 #[vq e,vq f] Ny (.tuple #[vi r.1,vi r.2]) [] []:=by
 unfold ce at h
 exact L0 func188 U U<|B2n U<|WC.b<|Lu nc []<|Lf 0 U (xB jI)<|Lg 1 U (xC xL U<|wt hz.pv c)<|Lf 2 U (xB kD)<|Lg 3 U (xC xL U<|wt hz.pv d)<|Lf 4 U sX<|Lf 5 U (xB jI)<|Lg 6 U (xC xL U<|wt hz.pv d)<|Lf 7 U (xB kD)<|Lg 8 U (xC xL U<|wt hz.pv c)<|Lf 9 U sX<|Lf 10 U uH<|Lf 11 U (xB kD)<|Lg 12 U (xC xL U<|wt hz.pv c)<|Lf 13 U (xB kD)<|Lg 14 U (xC xL U<|wt hz.pv d)<|Lf 15 U sX<|Lf 16 U q_z<|Lf 17 U q_z<|N1<|Lb<|Nz<|oJ h▸Nn results188 (.tmp U<|.tmp U .nil) .nil
def iz(a:z2)(b:z2):Option (z2×Int):=
 (qJ a).bind fun e=>(if !e then some true else(qJ b).bind fun f=>some (!f)).bind fun g=>if g then some ((⟨0,0⟩:z2),2) else(ce a b).bind fun c=>(uJ c.1 c.2).bind fun d=>some (d.1,d.2)
theorem Fp{Z a b r}(h:iz a b=some r){Ny}(hz:PZ [] Ny Z):
  RC 159 #[.string ⟨#[45]⟩,.agg #[vi a.fN,vi a.fD],.agg #[vi b.fN,vi b.fD]] Ny (.tuple #[.agg #[vi r.1.fN,vi r.1.fD],vi r.2]) [] []:=by
 unfold iz at h
 refine Nl func159 U U<|B0q (Lh 4 (we (cs:=[vi a.fN,vi a.fD])) fun d _=>Lh 5 (we (cs:=[vi b.fN,vi b.fD])) fun e _=>Lh 6 (xV (cs:=[vi 0,vi 0]) z1F U) fun s _=>Q1n U<|WC.b<|WC.b ?_)
 refine bK h fun u i h=>bK h fun f g h=>Ld<|Le 9 (xN zg (xO .h2))<|Ns call130 hz (jX i)<|Q2q U<|Ly false 3 12 (B:=f) (hB:=(fun h=>(oJ<|ju g h).symm)) (fun _ j=>?_) ?_
 ·have c:=jv g j
  obtain⟨y,m,c⟩:=za c
  replace c:=oJ c
  exact Le 13 (xN zg (xO .h1))<|Ns call130 hz (jX m)<|Q2q U<|Lz c U .all
 refine La U<|Ly false 7 17 (B:=f) (hB:=(fun h=>h)) (fun _ n=>?_) ?_
 ·exact La U<|Le 19 (Ys (r:=false) U U)<|La U<|WL.e U U<|WL.e U U<|WL.e U U<|Q2q U<|Lz (Eq.symm n) U .all
 refine Q0n<|Lj h (fun o h=>?_)<|fun o h=>?_
 ·exact B0q<|Le 26 (wl (v:=(.agg #[vi 0,vi 0])) (Lq (l:=[]) .nil []))<|Lk (xR z16 .here)<|Q1n U<|Nz<|Ll<|oJ h▸Nn results159 (.agg U zg U (xO .here)<|.tmp U .nil) .nil
 ·refine Np<|B0q<|Lh 27 (kq Value.string<|fun x=>x) ?_
  intro t _
  let A:Value:=(.func (.func 188) #[] #[vp d,vp e]);refine Le 28 (wO<|L5 (l:=[.tmp 4,.tmp 5])<|.r2 U U)<|Lk (gR (k:=⟨#[43]⟩) (v:=(.func (.func 187) #[] #[vp d,vp e])) fJ underlying304 .here)<|Le 29 (wO<|L5 (l:=[.tmp 4,.tmp 5])<|.r2 U U)<|Lk (gR (k:=⟨#[45]⟩) (v:=A) fJ underlying304 .here)<|Le 30 (wO<|L5 (l:=[.tmp 4,.tmp 5])<|.r2 U U)<|Lk (gR (k:=⟨#[42]⟩) (v:=(.func (.func 189) #[] #[vp d,vp e])) fJ underlying304 .here)<|Le 31 (wO<|L5 (l:=[.tmp 4,.tmp 5])<|.r2 U U)<|Lk (gR (k:=⟨#[47]⟩) (v:=(.func (.func 190) #[] #[vp d,vp e])) fJ underlying304 .here)<|Q2n U<|WC.b ?_
  exact bK h fun z p h=>bK h fun C q h=>D2q U<|Le 35 (Yr (k:=⟨#[45]⟩) (dflt:=.nilFunc) (r:=A) fJ underlying304 zxO U U U .here)<|Lo 36 (qk (l:=[]) call188 .nil) .nil (uB hz .nil (.s2 .h3 .h2) fun w pz ho la=>GC p pz ((la _ (.head _) _).stb)<|(la _ (.tail _<|.head _) _).stb)<|Q2q U<|Ns call160 hz (l4 q)<|Q2q U<|Lk (xR z16 .h1)<|Q1n U<|Nz<|oJ h▸Nn results159 (.agg U zg U (xO .here)<|.tmp U .nil) .nil
def jB(b:z2)(c:z2):Option (z2×Int):=
 (iz b c).bind fun a=>some (a.1,a.2)
theorem iA{Z a b r}(h:jB a b=some r){Ny}(hz:PZ [] Ny Z):
  RC 124 #[.agg #[vi a.fN,vi a.fD],.agg #[vi b.fN,vi b.fD]] Ny (.tuple #[.agg #[vi r.1.fN,vi r.1.fD],vi r.2]) [] []:=by
 unfold jB at h
 refine L0 func124 U U<|B0q (Lh 2 (we (cs:=[vi a.fN,vi a.fD])) fun d _=>Lh 3 (we (cs:=[vi b.fN,vi b.fD])) fun e _=>Lh 4 (xV (cs:=[vi 0,vi 0]) z1F U) fun f _=>Q1n U<|WC.b ?_)
 exact bK h fun g c h=>Ld<|Le 6 (xN zg (xO .h2))<|Le 7 (xN zg (xO .h1))<|Ns call159 hz (Fp c)<|Q2q U<|Lk (xR z16 .here)<|Q1n U<|Nz<|oJ h▸Nn results124 (.agg U zg U (xO .here)<|.tmp U .nil) .nil
end Go.Proofs.YthjnhebofpebpaaGreat
