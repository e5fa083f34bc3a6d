/- A part of this claim's proof: models of functions, walks, plain laws. No conditions. -/
import Derived.Test.YthjnhebofpebpaaGreatW36b
set_option linter.all false
namespace Go.Proofs.YthjnhebofpebpaaGreat
open Go Go.RowKit Sep Tryz
variable {f g:Int}{i:List (List za)}{j:z7}{k:zi}{l:List (z7×Int)}{o:List (List z6)}{p:List (Int×List Int)}{s:List (yh×z1)}
set_option maxRecDepth 30000
set_option maxHeartbeats 4000000
def jb(b:List (List za))(k:z7)(d:zi)(g:List (z7×Int))(o:(List (List z6))->Int->Int->(List (Int×List Int))->(List (yh×z1))->Option (List (List z6)×Int×Int×(List (yh×z1)))):Nat->(List (List z6))->Int->Int->Int->(List (Int×List Int))->(List (yh×z1))->Option (List (List z6)×Int×Int×(List (yh×z1)))
 | 0,_,_,_,_,_,_=>none
 | t+1,h,l,a,i,e,c=>if decide (a<b.length) then jp5 (fun(u:List (List z6)) (v:Int) (w:Int) (x:List (Int×List Int)) (y:List (yh×z1))=>jb b k d g o t u v (i64 (a+1)) w x y) fun p=>chk (0<=a/\a<b.length) ((wR (nth b a) (fun(y0:za)=>gv y0 k)).bind fun z=>if !z then p h l i e c else chk (0<=a/\a<d.yd.length) (chk (0<=a/\a<d.yd.length) ((qU ((nth d.yd a).yn)).bind fun j=>jp5 (fun(A:List (List z6)) (B:Int) (C:List (Int×List Int)) (D:Int) (E:Int)=>p A (max l ((nth d.yd a).yn)) B C (xT c (⟨a,k⟩:yh) (⟨D,E⟩:z1))) fun q=>(mE (nth b a) k.ya).bind fun f=>if f.2 then(gM f.1).bind fun r=>(kK d b c g i a).bind fun F=>(gM f.1).bind fun G=>(qU (xx g G 0)).bind fun H=>(kU d b c g i (fun(y0:z1) (y1:z1)=>kd y0 y1) F H).bind fun s=>(kU d b c g s.2 (fun(y0:z1) (y1:z1)=>vb y0 y1) (⟨(xx c (⟨a,r⟩:yh) (⟨0,0⟩:z1)).fN,(xx c (⟨a,r⟩:yh) (⟨0,0⟩:z1)).fD⟩:z1) s.1).bind fun m=>chk ((((xx e f.1.fQ [])++([a]:List Int)).length:Int)*8<=140737488355328/\(((xx e f.1.fQ [])++([a]:List Int)).length:Int)<=4611686018427387904) (q h m.2 (xT e f.1.fQ ((xx e f.1.fQ [])++([a]:List Int))) m.1.fN m.1.fD) else(kK d b c g i a).bind fun n=>chk ((((h++([([(⟨j,n⟩:z6)]:List z6)]:List (List z6))).length:Nat):Int)*24<=140737488355328/\(((h++([([(⟨j,n⟩:z6)]:List z6)]:List (List z6))).length:Nat):Int)<=4611686018427387904) (q (h++([([(⟨j,n⟩:z6)]:List z6)]:List (List z6))) i e j.fN j.fD)))) else o h l i e c
theorem o0{n:Nat}{a:(List (List z6))->Int->Int->(List (Int×List Int))->(List (yh×z1))->Option (List (List z6)×Int×Int×(List (yh×z1)))}{b:Int}{r:List (List z6)×Int×Int×(List (yh×z1))}(h:jb i j k l a n o f g b p s=some r):∃ m,n=m+1:=by
 cases n with
 | zero=>cases h
 | succ m=>exact⟨m,rfl⟩
def jc(b:List (Int×List Int))(c:Int)(e:zi)(f:List (List za))(d:List (yh×z1))(g:List (z7×Int))(i:z7)(k:Int->Int->Int->Int->Int->Int->Option (List (List z6)×Int×Int×(List (yh×z1)))):Nat->Int->Int->Int->Int->Int->Int->Int->Option (List (List z6)×Int×Int×(List (yh×z1)))
 | 0,_,_,_,_,_,_,_=>none
 | r+1,l,a,m,n,o,p,q=>if decide (a<((xx b c []).length:Int)) then chk (0<=a/\a<((xx b c []).length:Int)) ((kU e f d g m (fun(y0:z1) (y1:z1)=>vb y0 y1) (⟨n,o⟩:z1) (⟨(xx d (⟨nth (xx b c []) a,i⟩:yh) (⟨0,0⟩:z1)).fN,(xx d (⟨nth (xx b c []) a,i⟩:yh) (⟨0,0⟩:z1)).fD⟩:z1)).bind fun h=>(kK e f d g h.2 (nth (xx b c []) a)).bind fun s=>(kU e f d g h.2 (fun(y0:z1) (y1:z1)=>vb y0 y1) (⟨p,q⟩:z1) s).bind fun j=>chk (0<=(nth (xx b c []) a)/\(nth (xx b c []) a)<e.yd.length) (jc b c e f d g i k r (max l ((nth e.yd (nth (xx b c []) a)).yn)) (i64 (a+1)) j.2 h.1.fN h.1.fD j.1.fN j.1.fD)) else k l m n o p q
def jd(b:zi)(d:List (Int×List Int))(k:List (List za))(l:List (yh×z1))(m:List (z7×Int))(n:z7)(o:(List (List z6))->Int->Option (List (List z6)×Int×Int×(List (yh×z1)))):Nat->(List (List z6))->Int->Int->Option (List (List z6)×Int×Int×(List (yh×z1)))
 | 0,_,_,_=>none
 | s+1,c,a,e=>if decide (a<b.fK.length) then tZ (fun(t:List (List z6)) (u:Int)=>jd b d k l m n o s t (i64 (a+1)) u) fun p=>if decide (((xx d a []).length:Int)=0) then p c e else(qU 0).bind fun q=>(qU 0).bind fun r=>jp6 (fun(v:Int) (w:Int) (f:Int) (g:Int) (h:Int) (i:Int)=>(qU v).bind fun j=>chk (0<=a/\a<b.fK.length) (chk ((((c++([([(⟨(⟨f,g⟩:z1),(⟨h,i⟩:z1)⟩:z6),(⟨j,(⟨1,(nth b.fK a).yj⟩:z1)⟩:z6)]:List z6)]:List (List z6))).length:Nat):Int)*24<=140737488355328/\(((c++([([(⟨(⟨f,g⟩:z1),(⟨h,i⟩:z1)⟩:z6),(⟨j,(⟨1,(nth b.fK a).yj⟩:z1)⟩:z6)]:List z6)]:List (List z6))).length:Nat):Int)<=4611686018427387904) (p (c++([([(⟨(⟨f,g⟩:z1),(⟨h,i⟩:z1)⟩:z6),(⟨j,(⟨1,(nth b.fK a).yj⟩:z1)⟩:z6)]:List z6)]:List (List z6))) w))) fun x=>jc d a b k l m n x xC 0 0 e q.fN q.fD r.fN r.fD else o c e
theorem o6{n:Nat}{a:(List (List z6))->Int->Option (List (List z6)×Int×Int×(List (yh×z1)))}{r:List (List z6)×Int×Int×(List (yh×z1))}(h:jd k p i s l j a n o f g=some r):∃ m,n=m+1:=by
 cases n with
 | zero=>cases h
 | succ m=>exact⟨m,rfl⟩
def ff(g:zi)(c:List (List za))(h:List (yh×z1))(d:List (z7×Int))(i:Int)(e:z7):Option (List (List z6)×Int×Int×(List (yh×z1))):=
 jp5 (fun(a:List (List z6)) (j:Int) (k:Int) (l:List (Int×List Int)) (f:List (yh×z1))=>tZ (fun(b:List (List z6)) (m:Int)=>chk (((a++b).length:Int)*24<=140737488355328/\((a++b).length:Int)<=4611686018427387904) (some (a++b,j,m,f))) fun n=>jd g l c f d e n xC ([]:List (List z6)) 0 k) fun o=>jb c e g d o xC ([]:List (List z6)) 0 0 i ([]:List (Int×List Int)) h
theorem bX(Z:Zp)(o:Nat)(bd:Option Addr)(be:Nat)(bf:Option Addr)(bg:Nat)(bh:Option Addr)(bi:Nat)(bj:Option Addr)(bk:Nat)(bl:Option Addr)(bm:Nat)(bn:Option Addr)(bo:Nat)(bp:Option Addr)(bq:Nat)(br:Option Addr)(bs:Nat)(bt:Option Addr)(bu:Nat)(g:Nat)(m:Nat)(a:zi)(ag:List (List za))(bv:List (yh×z1))(p:List (z7×Int))(bw:Int)(B:z7)(r:List (List z6)×Int×Int×(List (yh×z1)))(h:ff a ag bv p bw B=some r)(w₀:World)(hz:Pz [stb o 119 [vs bd a.fM.length be,vs bf a.yc.length bg,vs bh a.fS.length bi,vs bj a.fK.length bk,vs bl a.yd.length bm,vs bn a.fH.length bo,vs bp a.fU.length bq,vs br a.yb.length bs,vs bt ag.length bu,.map (some g),.map (some m),vi bw],xB g (ga qY) (ga xL) bv,xB m (ga xP) vI p] w₀ Z)(aS:ZS Z 4 (vU Z) bd be a.fM)(aT:ZS Z 4 (qr Z) bf bg a.yc)(aU:ZS Z 4 (rq jm) bh bi a.fS)(aK:ZS Z 4 (rq qm) bj bk a.fK)(aq:ZS Z 7 (qK Z) bl bm a.yd)(aV:ZS Z 5 (rq qI) bn bo a.fH)(aW:ZS Z 3 (qs Z) bp bq a.fU)(aX:ZS Z 4 (rq qJ) br bs a.yb)(aL:ZS Z 1 (qt Z) bt bu ag)(iq:Ho w₀ [stb o 119 [vs bd a.fM.length be,vs bf a.yc.length bg,vs bh a.fS.length bi,vs bj a.fK.length bk,vs bl a.yd.length bm,vs bn a.fH.length bo,vs bp a.fU.length bq,vs br a.yb.length bs,vs bt ag.length bu,.map (some g),.map (some m),vi bw],xB g (ga qY) (ga xL) bv,xB m (ga xP) vI p]):
  Calls Tryz.prog 79 #[vp o,.agg #[vi B.ya,vi B.fQ]] w₀ fun e w'=>∃ Zn:Zp,∃ cb:Option Addr,∃ cc:Nat,∃ cd:List Value,e = .returned (.tuple #[vs cb r.1.length cc,vi r.2.1])/\(RR 1 (j9 (Z++Zn)) cd r.1)/\Hp (fps [stb o 119 [vs bd a.fM.length be,vs bf a.yc.length bg,vs bh a.fS.length bi,vs bj a.fK.length bk,vs bl a.yd.length bm,vs bn a.fH.length bo,vs bp a.fU.length bq,vs br a.yb.length bs,vs bt ag.length bu,.map (some g),.map (some m),vi bw],xB g (ga qY) (ga xL) bv,xB m (ga xP) vI p]) w₀ w' [fz Zn,row (vs cb r.1.length cc) 227 1 cd,stb o 119 [vs bd a.fM.length be,vs bf a.yc.length bg,vs bh a.fS.length bi,vs bj a.fK.length bk,vs bl a.yd.length bm,vs bn a.fH.length bo,vs bp a.fU.length bq,vs br a.yb.length bs,vs bt ag.length bu,.map (some g),.map (some m),vi r.2.2.1],xB g (ga qY) (ga xL) r.2.2.2,xB m (ga xP) vI p]:=by
 unfold ff at h
 refine Mf func79 ntmps79 iq ?_
 let N:List Value:=[vi B.ya,vi B.fQ];refine WC.pool<|B0q<|Lg 3 (xO (cs:=N) U U) ?_
 intro q _
 refine Q2n U<|B2n U<|B0q<|Lg 20 (jN vI<|slv (α:=Int)) ?_
 intro y _
 let C:Value:=(vs bt ag.length bu);let E:Value:=(vs bd a.fM.length be);let F:Value:=(vs bf a.yc.length bg);let G:Value:=(vs bh a.fS.length bi);let H:Value:=(vs bj a.fK.length bk);let I:Value:=(vs bl a.yd.length bm);let J:Value:=(vs bn a.fH.length bo);let K:Value:=(vs bp a.fU.length bq);let L:Value:=(vs br a.yb.length bs);refine WL.ghL (M:=[qq (qa 3 1 e3) ([]:List (Int×((Nat×(Option Addr×Nat))×List Int))),xB y vI slv (qX ([]:List (Int×((Nat×(Option Addr×Nat))×List Int)))),stb q 121 N,fz [],stb o 119 [E,F,G,H,I,J,K,L,C,(.map<|some g),(.map<|some m),vi bw],xB g (ga qY) (ga xL) bv,xB m (ga xP) vI p]) (fun _ h=>Hp.nY (qa 3 1 e3) h)<|Q1n U<|B1n U ?_
 refine jK5 h fun ce cq h=>WC.ip (fun(an:List (List z6)) (ao:Int) (aY:Int) (T:List (Int×List Int)) (ah:List (yh×z1)) (aB:Zp) (bx:Option Addr) (bz:Nat) (aj:List Value) (X:List (Int×((Nat×(Option Addr×Nat))×List Int)))=>(ce an ao aY T ah=some r)/\(xm (Z++[]) (Z++aB))/\(RR 1 (j9 (Z++aB)) aj an)/\(rO X=T)) (fun an ao aY T ah aB bx bz aj X=>[(0,vp o),(3,vp q),(6,vs bx an.length bz),(7,vn),(8,(.map<|some y)),(9,vi ao)]) (fun an ao aY T ah aB bx bz aj X=>[fz aB,row (vs bx an.length bz) 227 1 aj,stb o 119 [E,F,G,H,I,J,K,L,C,(.map<|some g),(.map<|some m),vi aY],stb q 121 N,xB y vI slv (qX X),qq (qa 3 1 e3) X,xB g (ga qY) (ga xL) ah,xB m (ga xP) vI p]) ?_ ?_
 ·refine B1q U<|Le 22 (wG U)<|Le 23 (xk K8 U U)<|Le 24 (xl zWn U<|xt .h4 U)<|Le 25 (xK underlying32 U)<|Q1n U<|WC.block<|WC.nilRow 227 1<|WC.QO (fun(bA:Nat) (V:List (List z6)) (ar:Int) (n:Int) (aC:Int) (z:List (Int×List Int)) (ak:List (yh×z1)) (t:Zp) (au:Option Addr) (av:Nat) (al:List Value) (ai:List (Int×((Nat×(Option Addr×Nat))×List Int)))=>(jb ag B a p ce bA V ar n aC z ak=some r)/\(xm (Z++[]) (Z++t))/\(RR 1 (j9 (Z++t)) al V)/\(rO ai=z)) (fun bA V ar n aC z ak t au av al ai=>[(0,vp o),(3,vp q),(6,vs au V.length av),(7,vn),(8,(.map<|some y)),(9,vi ar),(24,C),(25,vi (ag.length:Int)),(26,vi n)]) (fun bA V ar n aC z ak t au av al ai=>[fz t,row (vs au V.length av) 227 1 al,stb o 119 [E,F,G,H,I,J,K,L,C,(.map<|some g),(.map<|some m),vi aC],stb q 121 N,xB y vI slv (qX ai),qq (qa 3 1 e3) ai,xB g (ga qY) (ga xL) ak,xB m (ga xP) vI p]) (fun bA V ar n aC z ak t au av al ai=>bA) ⟨xC,([]:List (List z6)),0,0,bw,([]:List (Int×List Int)),bv,[],none,0,[],([]:List (Int×((Nat×(Option Addr×Nat))×List Int)))⟩ ⟨h,xm.refl _,RR.nil _ _,U⟩ (.q U) (.s8 .h4 .here .h3 .h2 .h1 .here .here .here) ?_
  rintro bA V ar n aC z ak t au av al ai ⟨h,b,bZ,bQ⟩
  obtain⟨dG,rfl⟩:=o0 h
  rw[jb] at h
  refine B1n U<|WC.b<|Lk U h (fun cr h=>?_)<|fun cr h=>?_
  ·refine WC.skip<|Lb<|jK5 h fun dH ct h=>WC.ip (fun(aD:List (List z6)) (aZ:Int) (a0:Int) (a1:List (Int×List Int)) (a2:List (yh×z1)) (a3:Zp) (bB:Option Addr) (bC:Nat) (bD:List Value) (a4:List (Int×((Nat×(Option Addr×Nat))×List Int)))=>(dH aD aZ a0 a1 a2=some r)/\(xm (Z++t) (Z++a3))/\(RR 1 (j9 (Z++a3)) bD aD)/\(rO a4=a1)) (fun aD aZ a0 a1 a2 a3 bB bC bD a4=>[(0,vp o),(3,vp q),(6,vs bB aD.length bC),(7,vn),(8,(.map<|some y)),(9,vi aZ),(24,C),(25,vi (ag.length:Int)),(26,vi n)]) (fun aD aZ a0 a1 a2 a3 bB bC bD a4=>[fz a3,row (vs bB aD.length bC) 227 1 bD,stb o 119 [E,F,G,H,I,J,K,L,C,(.map<|some g),(.map<|some m),vi a0],stb q 121 N,xB y vI slv (qX a4),qq (qa 3 1 e3) a4,xB g (ga qY) (ga xL) a2,xB m (ga xP) vI p]) ?_ ?_
   ·refine WC.block<|WC.b<|cK h fun cu h=>D1q U<|L0 (dd:=29) U U (Z:=(Z++t)) (Pr:=(qt (Z++t))) z3K U U ((aL.mono<|zl.trans b).weak (fun _ _ h=>wv (zl.trans b) h)) cu ?_
    rintro dP dQ cv dR ⟨dS,dT,rfl,cf⟩
    refine Le 30 (xl z3q U<|q9 (hz.pv2 .here) cv U)<|Q2n U<|WC.b<|WC.b<|bK h fun ei cw h=>D1q U<|Le 32 (wC<|L8 (l:=[.tmp 3])<|.cons U .nil)<|Lp 33 (zb call75<|.r2 U U) .nil (py hz .nil .here (.cons .h3 .nil) fun w pz ho la=>tr _ _ _ (zp0:=117) (zxM:=[vp q]) _ (zoZ:=(fun(y0:za)=>gv y0 B)) _ cw w pz (cf.mono<|zl) call117<|fun w' iT y0  r  hr=>iV _ _ _ _ _ hr w' iT<|(la _ (.head _) _).stb)<|Q1n U<|Lk U h (fun cx h=>?_)<|fun cx h=>?_
    ·exact WC.exit<|Lm<|Lv<|Ln ⟨V,ar,aC,z,ak,t,au,av,al,ai⟩ ⟨h,xm.refl _,bZ,bQ⟩ (.q U)<|.a8
    ·refine WC.skip<|Lb<|WC.b<|cK h fun cy h=>D2q U<|Le 37 (wG U)<|Le 38 (xk uz U U)<|Le 39 (xk ma U U)<|Le 40 (xl z9f U<|xt .h2 U)<|La U<|L0 (dd:=42) U U (Z:=(Z++t)) (Pr:=(qK (Z++t))) zbT U U ((aq.mono<|zl.trans b).weak (fun _ _ h=>wi (zl.trans b) h)) cy ?_
     rintro dU dV cz dW ⟨dX,dY,rfl,dZ⟩
     refine Le 43 (xk mY U U)<|Le 44 (xl xu U<|xM (hz.pv2 .here) cz U)<|Le 45 (cB U U U)<|Q1n U<|WC.b<|cK h fun cA h=>bK h fun Y cC h=>D1q U<|Le 47 (wG U)<|Le 48 (xk uz U U)<|Le 49 (xk ma U U)<|Le 50 (xl z9f U<|xt .h2 U)<|La U<|L0 (dd:=52) U U (Z:=(Z++t)) (Pr:=(qK (Z++t))) zbT U U ((aq.mono<|zl.trans b).weak (fun _ _ h=>wi (zl.trans b) h)) cA ?_
     rintro d0 d1 cD d2 ⟨d3,d4,rfl,d5⟩
     refine Le 53 (xk mY U U)<|Le 54 (xl xu U<|xM (hz.pv2 .here) cD U)<|Lp 55 (zb call80<|.cons U .nil) .nil (jH hz .nil .here fun w pz ho=>mn _ _ _ cC w pz ) (Lg 12 (xG (cs:=[vi 0,vi 0]) z1y U) fun b0 _=>Lo U U (xz zX U U U .here U U U)<|Q0n ?_)
     refine jK5 h fun dI cE h=>WC.ip (fun(aE:List (List z6)) (a5:Int) (a6:List (Int×List Int)) (aM:Int) (aN:Int) (a7:Zp) (bE:Option Addr) (bF:Nat) (bG:List Value) (a8:List (Int×((Nat×(Option Addr×Nat))×List Int)))=>(dI aE a5 a6 aM aN=some r)/\(xm (Z++t) (Z++a7))/\(RR 1 (j9 (Z++a7)) bG aE)/\(rO a8=a6)) (fun aE a5 a6 aM aN a7 bE bF bG a8=>[(0,vp o),(3,vp q),(6,vs bE aE.length bF),(7,vn),(8,(.map<|some y)),(9,(vi<|max ar<|(nth a.yd n).yn)),(10,vi n),(12,vp b0),(24,C),(25,vi (ag.length:Int)),(26,vi n)]) (fun aE a5 a6 aM aN a7 bE bF bG a8=>[fz a7,row (vs bE aE.length bF) 227 1 bG,stb o 119 [E,F,G,H,I,J,K,L,C,(.map<|some g),(.map<|some m),vi a5],stb q 121 N,xB y vI slv (qX a8),qq (qa 3 1 e3) a8,stb b0 175 [vi aM,vi aN],xB g (ga qY) (ga xL) ak,xB m (ga xP) vI p]) ?_ ?_
     ·refine WC.b<|bK h fun x cF h=>D1q U<|Le 58 (xk pH U U)<|Le 59 (xl xu U<|xt .h4 U)<|Lp 60 (zb call77<|.r2 U U) .nil (jH hz .nil .h1 fun w pz ho=>li _ _ _ _ _ _ cF w pz cf)<|Q2q U<|La U (Lg 13 (xG (cs:=[vi 0,vi 0,vi 0]) zaS U) fun b8 _=>Lo U U (xz za4 U U U .here U U U)<|Q1n U<|B1n U<|Lk U h (fun cG h=>?_)<|fun cG h=>?_)
      ·refine WC.b ?_
       obtain⟨bR,cH,h⟩:=z8 h
       obtain⟨ej,cI,h⟩:=z8 h
       obtain⟨dJ,cJ,h⟩:=z8 h
       obtain⟨ek,cM,h⟩:=z8 h
       obtain⟨el,cN,h⟩:=z8 h
       obtain⟨bH,cO,h⟩:=z8 h
       let S:List Value:=[vi x.1.ya,vi x.1.fX,vi x.1.fQ];refine Lz (fun i=>[13,22,23,24].contains i) [sq o 119 [(9,(.map<|some g)),(10,(.map<|some m))],nZ g (ga qY) (ga xL) (⟨n,bR⟩:yh) ((⟨0,0⟩:z1):z1) (xx ak (⟨n,bR⟩:yh) (⟨0,0⟩:z1)),stb b8 60 S] U<|Lf 0 64 U (q_m U)<|Lf 1 65 U (q_m U)<|Lf 2 66 U (wG U)<|Lf 3 67 U (xk nx U U)<|Mb 4 68 U (wB.wk (.s3 .h4 .h7 .here)<|.stb (.cons U<|.cons U .nil)<|.any U (fun _ h=>sr h)<|.same .nil) (xl zBZ U<|fZ .here<|.head _)<|Lf 5 69 U (q_m U)<|Lh 6 70 U (xw z5b U (xy .here) U)<|L5 7 71 U (zb call60<|.cons U .nil) (jH hz .nil .h2 fun w pz ho=>uj _ _ _ cH w pz )<|Lf 8 72 U (w3 (v:=(.agg #[vi n,vi bR.ya,vi bR.fQ])) (Lq (l:=[.tmp 69,.tmp 71]) (.r2 U U) [0,1]) (fun _=>by kernel_rfl))<|Mb 9 73 U (wB.wk (.s3 .h4 .h7 .here)<|.stb (.cons U<|.cons U .nil)<|.any U (fun _ h=>sr h)<|.same .nil) (Yv (k:=(⟨n,bR⟩:yh)) (dflt:=((⟨0,0⟩:z1):z1)) zC1 underlying116 z1y U U U .h1)<|Lf 10 74 U (q_m U)<|Lf 11 75 U (q_m U)<|Lf 12 76 U (q_m U)<|Lf 14 78 U (q_m U)<|Lf 15 79 U (wG U)<|Lf 16 80 U (xk ny U U)<|Mb 17 81 U (wB.wk (.s3 .h4 .h7 .here)<|.stb (.cons U<|.cons U .nil)<|.any U (fun _ h=>sr h)<|.same .nil) (xl zti U<|fZ .here<|.tail _<|.head _)<|Mb 18 82 U (wB.wk (.s3 .h4 .h7 .here)<|.stb (.cons U<|.cons U .nil)<|.any U (fun _ h=>sr h)<|.same .nil) (xw z5b U (xy .h2) U)<|WD.call0 (i:=13) (dd:=77) U (by kernel_rfl) U U U (.inl ⟨U,(by exact(wB.wk (.s3 .h6 .here .h1)<|.stb (.cons U<|.cons U .nil)<|.any U (fun _ h=>sr h)<|.same .nil))⟩) (zb call121<|.r2 U U) (.s2 (.there .h7)<|.there .h7) (py hz (.s2 (.there .h7)<|.there .h7) .h2 (.cons .h4 .nil) fun w pz ho la=>Calls.mono (sX _ _ _ _ _ _ _ _ _ _ _ _ _ _ _ _ _ _ _ _ _ _ _ _ _ _ _ _ _ cI w pz ((((aS.mono<|zl.trans b).weak (fun _ _ h=>wg (zl.trans b) h)).mono zl).weak (fun _ _ h=>wg zl h)) ((((aT.mono<|zl.trans b).weak (fun _ _ h=>wp (zl.trans b) h)).mono zl).weak (fun _ _ h=>wp zl h)) ((aU.mono<|zl.trans b).mono zl) ((aK.mono<|zl.trans b).mono zl) ((((aq.mono<|zl.trans b).weak (fun _ _ h=>wi (zl.trans b) h)).mono zl).weak (fun _ _ h=>wi zl h)) ((aV.mono<|zl.trans b).mono zl) ((((aW.mono<|zl.trans b).weak (fun _ _ h=>wq (zl.trans b) h)).mono zl).weak (fun _ _ h=>wq zl h)) ((aX.mono<|zl.trans b).mono zl) ((((aL.mono<|zl.trans b).weak (fun _ _ h=>wv (zl.trans b) h)).mono zl).weak (fun _ _ h=>wv zl h)) ((la _ (.head _) _).stb) ho)<|fun _ _ h'=>⟨h'.1,trivial,h'.2⟩) ?_
       intro _
       refine L5 19 83 U (zb call60<|.cons U .nil) (jH hz .nil .h4 fun w pz ho=>uj _ _ _ cJ w pz )<|Lh 20 84 U (j8 (k:=dJ) (dflt:=(0:Int)) zj8 underlying117 qS U U U .h1)<|L5 21 85 U (zb call80<|.cons U .nil) (jH hz .nil .h4 fun w pz ho=>mn _ _ _ cM w pz ) (WD.call0 (i:=22) (dd:=86) U (by kernel_rfl) U U U (.inl ⟨U,(by exact(wB.wk (.s3 .here .here .h1)<|.stb (.cons U<|.cons U .nil)<|.any U (fun _ h=>sr h)<|.same .nil))⟩) (zb call118<|.r4 U U U U) (.s3 .h6 .here .here) (jH hz (.s3 .h6 .here .here) .h2 fun w pz ho=>Calls.mono (se _ _ _ _ _ _ _ _ _ _ _ _ _ _ _ _ _ _ _ _ _ _ (zfG:=120) (zmm:=[]) _ _ _ _ _ (zjy:=(fun(y0:z1) (y1:z1)=>kd y0 y1)) _ _ _ cN w pz ((aS.mono<|zl.trans b).weak (fun _ _ h=>wg (zl.trans b) h)) ((aT.mono<|zl.trans b).weak (fun _ _ h=>wp (zl.trans b) h)) (aU.mono<|zl.trans b) (aK.mono<|zl.trans b) ((aq.mono<|zl.trans b).weak (fun _ _ h=>wi (zl.trans b) h)) (aV.mono<|zl.trans b) ((aW.mono<|zl.trans b).weak (fun _ _ h=>wq (zl.trans b) h)) (aX.mono<|zl.trans b) ((aL.mono<|zl.trans b).weak (fun _ _ h=>wv (zl.trans b) h)) call120 (fun w' iT y0 y1  r  hr=>dw _ _ _ _ hr w' iT ) ho)<|fun _ _ h'=>⟨h'.1,trivial,h'.2⟩) fun _=>WD.call0 (i:=23) (dd:=87) U (by kernel_rfl) U U U (.inl ⟨U,(by exact(wB.wk (.s3 .here .here .h1)<|.stb (.cons U<|.cons U .nil)<|.any U (fun _ h=>sr h)<|.same .nil))⟩) (zb call118<|.r4 U U U U) (.a3) (jH hz (.a3) .h2 fun w pz ho=>Calls.mono (se _ _ _ _ _ _ _ _ _ _ _ _ _ _ _ _ _ _ _ _ _ _ (zfG:=119) (zmm:=[]) _ _ _ _ _ (zjy:=(fun(y0:z1) (y1:z1)=>vb y0 y1)) _ _ _ cO w pz ((aS.mono<|zl.trans b).weak (fun _ _ h=>wg (zl.trans b) h)) ((aT.mono<|zl.trans b).weak (fun _ _ h=>wp (zl.trans b) h)) (aU.mono<|zl.trans b) (aK.mono<|zl.trans b) ((aq.mono<|zl.trans b).weak (fun _ _ h=>wi (zl.trans b) h)) (aV.mono<|zl.trans b) ((aW.mono<|zl.trans b).weak (fun _ _ h=>wq (zl.trans b) h)) (aX.mono<|zl.trans b) ((aL.mono<|zl.trans b).weak (fun _ _ h=>wv (zl.trans b) h)) call119 (fun w' iT y0 y1  r  hr=>sv _ _ _ _ hr w' iT ) ho)<|fun _ _ h'=>⟨h'.1,trivial,h'.2⟩) ?_)
       intro _
       refine WD.jD (i:=24) U (by kernel_rfl) U U U (by kernel_rfl) (xz zX U U U .h4 U U U)<|WD.done (by kernel_rfl)<|Lb<|cK h fun cP h=>Lz (fun i=>[9,10].contains i) [sq b8 60 [(2,vi x.1.fQ)]] U<|Lf 0 88 U (q_m U)<|Lf 1 89 U (xk kz U U)<|Mb 2 90 U (wB.wk (.cons .h4 .nil)<|.stb (.cons U .nil) .nil) (xl xu U<|fZ .here<|.head _)<|Lf 3 91 U (q_m U)<|Lf 4 92 U (xk kz U U)<|Lh 5 93 U (xl xu U<|xt .h4 U)<|Lh 6 94 U (j8 (k:=x.1.fQ) (dflt:=(((none,0),[]):(Option Addr×Nat)×List Int)) kG underlying219 zC2 U U U<|.there .h7)<|WD.gh (fun _ h=>Hp.lX x.1.fQ bQ (.there<|.there .h7) h) ?_
       rintro⟨cQ,cR⟩ cS
       refine WD.repin (i:=94) U (u:=(vs cQ ((xx z x.1.fQ []).length) cR)) (congrArg slv cS)<|Lf 7 95 U (q_m U) (WD.new (i:=8) (dd:=96) U (by kernel_rfl) U U U (xU (cs:=([n]:List Int).flatMap e3) z7W (Lq (l:=[.tmp 95]) (.cons U .nil) [0]) (fun _=>by kernel_rfl) U (by unfold maxLen;omega)) (fun h'=>absurd h' (by decide)) fun cT _=>WD.old (i:=9) (dd:=97) U (by kernel_rfl) U U U U (fun _=>(wB.wk (.cons .h7 .nil)<|.stb (.cons U .nil) .nil)) (vT (enc:=e3) (l1:=xx z x.1.fQ []) (l2:=([n]:List Int)) z7W U U .h1 (fun _=>U) U U (vL .here) (qR Qm _) cP) ?_)
       rintro⟨b1,b2⟩ _
       exact WD.jD (i:=10) U (by kernel_rfl) U U U (by kernel_rfl) (kw (k:=x.1.fQ) (v:=(((b1,b2),(xx z x.1.fQ [])++([n]:List Int)):(Option Addr×Nat)×List Int)) kG underlying219 U U U U<|.there<|.there<|.there<|.there .h7)<|WD.ghL (fun _ h=>Hp.ab (k:=x.1.fQ) (.s2 .h1 .h2) h)<|WD.ghL (M:=[xB y vI slv (qX<|xT ai x.1.fQ ((0,(b1,b2)),(xx z x.1.fQ [])++([n]:List Int))),qq (qa 3 1 e3) (xT ai x.1.fQ ((0,(b1,b2)),(xx z x.1.fQ [])++([n]:List Int))),row (vs (some ⟨cT,0,none⟩) (([n]:List Int).length) 1) 3 1 (([n]:List Int).flatMap e3),stb b0 175 [vi bH.1.fN,vi bH.1.fD],stb o 119 [E,F,G,H,I,J,K,L,C,(.map<|some g),(.map<|some m),vi bH.2],xB g (ga qY) (ga xL) ak,xB m (ga xP) vI p,stb b8 60 S,fz t,row (vs au V.length av) 227 1 al,stb q 121 N]) (fun _ h=>Hp.XD .h1 (dt _ _ _ _).symm h)<|WD.done (by kernel_rfl)<|Ln ⟨V,bH.2,xT z x.1.fQ ((xx z x.1.fQ [])++([n]:List Int)),bH.1.fN,bH.1.fD,t,au,av,al,xT ai x.1.fQ ((0,(b1,b2)),(xx z x.1.fQ [])++([n]:List Int))⟩ ⟨h,xm.refl _,bZ,XC bQ _ _ _⟩ (.q U)<|.s9 (.there .h7) (.there .h7) .h4 .h7 .here .here .h1 .h1 .h1
      ·refine bK h fun aw cU h=>cK h fun cV h=>Lz (fun i=>[4,8].contains i) [stb b0 175 [vi Y.fN,vi Y.fD]] U<|Lf 0 98 U (q_m U)<|Mb 1 99 U (wB.of<|.cons .h1 .nil) (xw zh U (xy .here) U)<|Lf 2 100 U (q_m U)<|Lf 3 101 U (q_m U) (WD.call0 (i:=4) (dd:=102) U (by kernel_rfl) U U U (.inl ⟨U,(wB.of<|.cons .h3 .nil)⟩) (zb call121<|.r2 U U) (.s2 (.there .h7)<|.there .h7) (py hz (.s2 (.there .h7)<|.there .h7) .h2 (.cons .h4 .nil) fun w pz ho la=>Calls.mono (sX _ _ _ _ _ _ _ _ _ _ _ _ _ _ _ _ _ _ _ _ _ _ _ _ _ _ _ _ _ cU w pz ((((aS.mono<|zl.trans b).weak (fun _ _ h=>wg (zl.trans b) h)).mono zl).weak (fun _ _ h=>wg zl h)) ((((aT.mono<|zl.trans b).weak (fun _ _ h=>wp (zl.trans b) h)).mono zl).weak (fun _ _ h=>wp zl h)) ((aU.mono<|zl.trans b).mono zl) ((aK.mono<|zl.trans b).mono zl) ((((aq.mono<|zl.trans b).weak (fun _ _ h=>wi (zl.trans b) h)).mono zl).weak (fun _ _ h=>wi zl h)) ((aV.mono<|zl.trans b).mono zl) ((((aW.mono<|zl.trans b).weak (fun _ _ h=>wq (zl.trans b) h)).mono zl).weak (fun _ _ h=>wq zl h)) ((aX.mono<|zl.trans b).mono zl) ((((aL.mono<|zl.trans b).weak (fun _ _ h=>wv (zl.trans b) h)).mono zl).weak (fun _ _ h=>wv zl h)) ((la _ (.head _) _).stb) ho)<|fun _ _ h'=>⟨h'.1,trivial,h'.2⟩) fun _=>Lf 5 103 U (w3 (v:=(.agg #[vi Y.fN,vi Y.fD,vi aw.fN,vi aw.fD])) (Lq (l:=[.tmp 99,.tmp 102]) (.r2 U U) [0,1]) (fun _=>by kernel_rfl)) (WD.new (i:=6) (dd:=104) U (by kernel_rfl) U U U (xU (cs:=([(⟨Y,aw⟩:z6)]:List z6).flatMap vF) za5 (Lq (l:=[.tmp 103]) (.cons U .nil) [0]) (fun _=>by kernel_rfl) U (by unfold maxLen;omega)) (fun h'=>absurd h' (by decide)) fun cg _=>WD.freezeS (ls:=([(⟨Y,aw⟩:z6)]:List z6)) .here .h4 hz (RR.flat (enc:=vF) (fun _=>U) _) ?_))
       intro b3 ch cW
       let D:List Value:=[vs (some ⟨cg,0,none⟩) (([(⟨Y,aw⟩:z6)]:List z6).length) 1];have ci:RR 1 (j9 (Z++b3)) D ([([(⟨Y,aw⟩:z6)]:List z6)]:List (List z6)):=(RR.cons (r:=D) U (show j9 _ _ _ from⟨_,_,U,cW⟩) (RR.nil _ _))
       refine WD.new (i:=7) (dd:=105) U (by kernel_rfl) U U U (xU (cs:=[vs (some ⟨cg,0,none⟩) (([(⟨Y,aw⟩:z6)]:List z6).length) 1]) zf8 (Lq (l:=[.tmp 104]) (.cons U .nil) [0]) (fun _=>by kernel_rfl) U (by unfold maxLen;omega)) (fun h'=>absurd h' (by decide)) ?_
       intro d6 _
       have cX:RR 1 (j9 (Z++b3)) (al++D) (V++([([(⟨Y,aw⟩:z6)]:List z6)]:List (List z6))):=RR.app (bZ.weak (fun _ _ h=>ka ch h)) ci
       refine WD.old (i:=8) (dd:=106) U (by kernel_rfl) U U U U (fun _=>(wB.of<|.cons .h6 .nil)) (sn (l1:=V) (l2:=([([(⟨Y,aw⟩:z6)]:List z6)]:List (List z6))) (news:=D) (Pr:=(j9 (Z++b3))) zf8 U U .h6 ci (vL .here) (oW U iL) cV) ?_
       rintro⟨cY,cZ⟩ _
       exact Lf 9 6 U (q_z U)<|WD.done (by kernel_rfl)<|Ln ⟨V++([([(⟨Y,aw⟩:z6)]:List z6)]:List (List z6)),aC,z,Y.fN,Y.fD,b3,cY,cZ,al++D,ai⟩ ⟨h,ch,cX,bQ⟩ (.q U)<|.s9 .h2 .here .h5 .h5 .h5 .h5 .h4 .h1 .h1
     ·rintro aE a5 a6 aM aN a7 bE bF bG a8 ⟨h,c0,c1,c2⟩
      replace h:=(cE aE a5 a6 aM aN).symm.trans h
      exact Lz (fun i=>[8].contains i) [] U<|Lf 0 107 U (q_m U)<|Lf 1 108 U (wG U)<|Lf 2 109 U (xk nx U U)<|Lh 3 110 U (xl zBZ U<|xt .h2 U)<|Lf 4 111 U (q_m U)<|Lh 5 112 U (xw z7b U (xy .h3) U)<|Lf 6 113 U (w3 (v:=(.agg #[vi n,vi B.ya,vi B.fQ])) (Lq (l:=[.tmp 111,.tmp 112]) (.r2 U U) [0,1]) (fun _=>by kernel_rfl))<|Lh 7 114 U (xw zh U (xy .h6) U)<|WD.jD (i:=8) U (by kernel_rfl) U U U (by kernel_rfl) (kw (k:=(⟨n,B⟩:yh)) (v:=(⟨aM,aN⟩:z1)) zC1 underlying116 U U U U .h7)<|WD.done (by kernel_rfl)<|Lt<|Ln ⟨aE,(max ar<|(nth a.yd n).yn),a5,a6,xT ak (⟨n,B⟩:yh) (⟨aM,aN⟩:z1),a7,bE,bF,bG,a8⟩ ⟨h,c0,c1,c2⟩ (.q U)<|.s8 .h1 .h1 .h1 .h1 .h1 .h1 .here .h1
   ·rintro aD aZ a0 a1 a2 a3 bB bC bD a4 ⟨h,c3,c4,c5⟩
    replace h:=(ct aD aZ a0 a1 a2).symm.trans h
    exact D2q U<|WL.nil<|WX.round ⟨dG,aD,aZ,i64 (n+1),a0,a1,a2,a3,bB,bC,bD,a4⟩ ⟨h,b.trans c3,c4,c5⟩ (Nat.lt_succ_self _) (.q U)<|.a8
  ·exact WC.exit<|Lm<|Lm<|Lv<|Ln ⟨V,ar,aC,z,ak,t,au,av,al,ai⟩ ⟨h,b,bZ,bQ⟩ (.q U)<|.a8
 ·rintro an ao aY T ah aB bx bz aj X ⟨h,d,c6,b4⟩
  replace h:=(cq an ao aY T ah).symm.trans h
  obtain⟨cj,c7,h⟩:=jE h
  let O:Value:=(vs bx an.length bz);refine WC.cC (fun(ax:List (List z6)) (bI:Int) (aF:Zp) (bS:Option Addr) (bT:Nat) (aO:List Value)=>(cj ax bI=some r)/\(xm (Z++aB) (Z++aF))/\(RR 1 (j9 (Z++aF)) aO ax)) (fun ax bI aF bS bT aO=>[(6,O),(7,vs bS ax.length bT),(9,vi ao)]) (fun ax bI aF bS bT aO=>[fz aF,row O 227 1 aj,row (vs bS ax.length bT) 227 1 aO,stb o 119 [E,F,G,H,I,J,K,L,C,(.map<|some g),(.map<|some m),vi bI],xB g (ga qY) (ga xL) ah,xB m (ga xP) vI p]) ?_ ?_
  ·let P:Value:=(vi (a.fK.length:Int));refine B1q U<|Le 117 (wG U)<|Le 118 (xk uz U U)<|Le 119 (xk jQ U U)<|Le 120 (xl z5E U<|xt .h2 U)<|Le 121 (xK underlying25 U)<|Q1n U<|WC.block<|WC.nilRow 227 1<|WC.l6 (fun(bJ:Nat) (aa:List (List z6)) (f:Int) (aG:Int) (W:Zp) (aH:Option Addr) (aI:Nat) (am:List Value)=>(jd a T ag ah p B cj bJ aa f aG=some r)/\(xm (Z++aB) (Z++W))/\(RR 1 (j9 (Z++W)) am aa)) (fun bJ aa f aG W aH aI am=>[(0,vp o),(3,vp q),(6,O),(7,vs aH aa.length aI),(8,(.map<|some y)),(9,vi ao),(121,P),(122,vi f)]) (fun bJ aa f aG W aH aI am=>[fz W,row O 227 1 aj,row (vs aH aa.length aI) 227 1 am,stb o 119 [E,F,G,H,I,J,K,L,C,(.map<|some g),(.map<|some m),vi aG],stb q 121 N,xB y vI slv (qX X),qq (qa 3 1 e3) X,xB g (ga qY) (ga xL) ah,xB m (ga xP) vI p]) (fun bJ aa f aG W aH aI am=>bJ) ⟨xC,([]:List (List z6)),0,aY,aB,none,0,[]⟩ ⟨h,xm.refl _,RR.nil _ _⟩ (.q U) (.s9 .h1 .h1 .here .here .here .here .here .here .here) ?_
   rintro bJ aa f aG W aH aI am ⟨h,c,b9⟩
   obtain⟨dK,rfl⟩:=o6 h
   rw[jd] at h
   refine B1n U<|WC.b<|Lk U h (fun c8 h=>?_)<|fun c8 h=>?_
   ·refine WC.skip<|Lb<|jK2 h fun dL c9 h=>WC.cC (fun(aJ:List (List z6)) (a9:Int) (ba:Zp) (bL:Option Addr) (bM:Nat) (bN:List Value)=>(dL aJ a9=some r)/\(xm (Z++W) (Z++ba))/\(RR 1 (j9 (Z++ba)) bN aJ)) (fun aJ a9 ba bL bM bN=>[(0,vp o),(3,vp q),(6,O),(7,vs bL aJ.length bM),(8,(.map<|some y)),(9,vi ao),(121,P),(122,vi f)]) (fun aJ a9 ba bL bM bN=>[fz ba,row O 227 1 aj,row (vs bL aJ.length bM) 227 1 bN,stb o 119 [E,F,G,H,I,J,K,L,C,(.map<|some g),(.map<|some m),vi a9],stb q 121 N,xB y vI slv (qX X),qq (qa 3 1 e3) X,xB g (ga qY) (ga xL) ah,xB m (ga xP) vI p]) ?_ ?_
    ·refine WC.block<|B2n U<|WC.b<|B2q U<|Le 127 (j8 (k:=f) (dflt:=(((none,0),[]):(Option Addr×Nat)×List Int)) kG underlying219 zC2 U U U .h5)<|WL.gh (fun _ h=>Hp.lX f b4 .h6 h) ?_
     rintro⟨da,db⟩ ck
     refine Mh (i:=127) U (u:=(vs da ((xx T f []).length) db)) (congrArg slv ck)<|Le 128 (xK underlying50 U)<|La U<|WL.ghL (fun _ h=>Hp.Yw b4 ck (.a2) h)<|Q0n<|Lk U h (fun dc h=>?_)<|fun dc h=>?_
     ·exact WC.exit<|Lm<|Lv<|Ln ⟨aa,aG,W,aH,aI,am⟩ ⟨h,xm.refl _,b9⟩ (.q U)<|.s9 .h1 .h1 .h1 .h1 .h1 .h1 .here .here .here
     ·refine WC.skip<|Lb<|WC.b<|bK h fun b5 de h=>bK h fun b6 df h=>Ld<|Lp 130 (zb call80<|.cons U .nil) .nil (jH hz .nil .h1 fun w pz ho=>mn _ _ _ de w pz )<|Lp 131 (zb call80<|.cons U .nil) .nil (jH hz .nil .h1 fun w pz ho=>mn _ _ _ df w pz )<|Le 132 (w3 (v:=(.agg #[vi b5.fN,vi b5.fD,vi b6.fN,vi b6.fD])) (Lq (l:=[.tmp 130,.tmp 131]) (.r2 U U) [0,1]) (fun _=>by kernel_rfl)) (Lg 16 (xG (cs:=[vi 0,vi 0,vi 0,vi 0]) zf9 U) fun bU _=>Lo U U (xz zd6 U U U .here U U U)<|Q0n<|B1n U ?_)
      obtain⟨cl,dg,h⟩:=JZ h
      let R:Value:=(vs aH aa.length aI);refine WC.cC (fun(bO:Int) (bb:Int) (ab:Int) (ad:Int) (ae:Int) (af:Int)=>(cl bO bb ab ad ae af=some r)) (fun bO bb ab ad ae af=>[(0,vp o),(3,vp q),(6,O),(7,R),(8,(.map<|some y)),(9,vi ao),(15,vi f),(16,vp bU),(17,vi bO),(121,P),(122,vi f)]) (fun bO bb ab ad ae af=>[fz W,row O 227 1 aj,row R 227 1 am,stb o 119 [E,F,G,H,I,J,K,L,C,(.map<|some g),(.map<|some m),vi bb],stb q 121 N,xB y vI slv (qX X),qq (qa 3 1 e3) X,stb bU 225 [vi ab,vi ad,vi ae,vi af],xB g (ga qY) (ga xL) ah,xB m (ga xP) vI p]) ?_ ?_
      ·refine B2q U<|Le 135 (j8 (k:=f) (dflt:=(((none,0),[]):(Option Addr×Nat)×List Int)) kG underlying219 zC2 U U U .h7)<|WL.gh (fun _ h=>Hp.lX f b4 .h1 h) ?_
       rintro⟨dM,dN⟩ cm
       let Q:Value:=(vs dM ((xx T f []).length) dN);refine Mh (i:=135) U (u:=Q) (congrArg slv cm)<|Le 136 (xK underlying50 U)<|Q1n U<|WC.block<|WC.l6 (fun(bV:Nat) (aP:Int) (ap:Int) (bc:Int) (aQ:Int) (aR:Int) (ay:Int) (az:Int)=>(jc T f a ag ah p B cl bV aP ap bc aQ aR ay az=some r)) (fun bV aP ap bc aQ aR ay az=>[(0,vp o),(3,vp q),(6,O),(7,R),(8,(.map<|some y)),(9,vi ao),(15,vi f),(16,vp bU),(17,vi aP),(121,P),(122,vi f),(135,Q),(136,vi ((xx T f []).length:Int)),(137,vi ap)]) (fun bV aP ap bc aQ aR ay az=>[fz W,row O 227 1 aj,row R 227 1 am,row Q 3 1 ((xx T f []).flatMap e3),stb o 119 [E,F,G,H,I,J,K,L,C,(.map<|some g),(.map<|some m),vi bc],stb q 121 N,xB y vI slv (qX X),qq (qa 3 1 e3) (sW f X),stb bU 225 [vi aQ,vi aR,vi ay,vi az],xB g (ga qY) (ga xL) ah,xB m (ga xP) vI p]) (fun bV aP ap bc aQ aR ay az=>bV) ⟨xC,0,0,aG,b5.fN,b5.fD,b6.fN,b6.fD⟩ h (.q U) (.s11 .h3 .h3 .h3 .here .h2 .h2 .h2 .here .here .here .here) ?_
       rintro(_|dO) aP ap bc aQ aR ay az h;·cases h
       rw[jc] at h
       refine B1n U<|WC.b<|Lk U h (fun dh h=>?_)<|fun dh h=>?_
       ·refine WC.skip<|Lb<|WC.b<|WC.block<|WC.b<|cK h fun bW h=>Ld<|WL.know (fun w hw=>Hp.vB .h3 hw (by intro iT;have:=bW;rw[iT] at this;omega)) ?_
        rintro⟨d7,rfl⟩
        refine Le 139 (w7 z7W U U bW.1 bW.2 vN)<|Le 140 (xl xu U<|gq .h3<|(vt (enc:=e3) (l:=xx T f []) (i:=ap) (sz:=1) (fun _=>U) bW.1 bW.2) 0 _ U)<|Q1n U<|WC.b ?_
        refine bK h fun bP di h=>bK h fun em dj h=>bK h fun bY dk h=>Lz (fun i=>[11,17,18,20,22].contains i) [sq bU 225 [(2,vi ay),(3,vi az)]] U<|Lf 0 141 U (q_m U)<|Lf 1 142 U (xk ml U U)<|Lh 2 143 U (wu (cs:=[vi aQ,vi aR]) zh U U<|g7 (s:=2) (.there .h7) U)<|Lf 3 144 U (q_m U)<|Lf 4 145 U (wG U)<|Lf 5 146 U (xk nx U U)<|Lh 6 147 U (xl zBZ U<|xt .h4 U)<|Lf 7 148 U (q_m U)<|Lh 8 149 U (xw z7b U (xy .h5) U)<|Lf 9 150 U (w3 (v:=(.agg #[(vi<|nth (xx T f []) ap),vi B.ya,vi B.fQ])) (Lq (l:=[.tmp 148,.tmp 149]) (.r2 U U) [0,1]) (fun _=>by kernel_rfl))<|Lh 10 151 U (j8 (k:=(⟨nth (xx T f []) ap,B⟩:yh)) (dflt:=((⟨0,0⟩:z1):z1)) zC1 underlying116 z1y U U U<|.there<|.there .h7)<|Lf 12 153 U (q_m U)<|Lf 13 154 U (xk uA U U)<|Mb 14 155 U (wB.wk (.cons (.there .h7) .nil)<|.stb (.cons U<|.cons U .nil) .nil) (wu (cs:=[vi ay,vi az]) zh U U<|cL .here (.head _)<|(.tail _<|.head _))<|Lf 15 156 U (q_m U)<|Lf 16 157 U (q_m U) (WD.call0 (i:=11) (dd:=152) U (by kernel_rfl) U U U (.inl ⟨U,(wB.wk (.cons (.there<|.there<|.there .h7) .nil)<|.stb (.cons U<|.cons U .nil) .nil)⟩) (zb call118<|.r4 U U U U) (.s3 .h4 (.there .h7)<|.there .h7) (jH hz (.s3 .h4 (.there .h7)<|.there .h7) .here fun w pz ho=>Calls.mono (se _ _ _ _ _ _ _ _ _ _ _ _ _ _ _ _ _ _ _ _ _ _ (zfG:=119) (zmm:=[]) _ _ _ _ _ (zjy:=(fun(y0:z1) (y1:z1)=>vb y0 y1)) _ _ _ di w pz ((aS.mono<|zl.trans (d.trans c)).weak (fun _ _ h=>wg (zl.trans (d.trans c)) h)) ((aT.mono<|zl.trans (d.trans c)).weak (fun _ _ h=>wp (zl.trans (d.trans c)) h)) (aU.mono<|zl.trans (d.trans c)) (aK.mono<|zl.trans (d.trans c)) ((aq.mono<|zl.trans (d.trans c)).weak (fun _ _ h=>wi (zl.trans (d.trans c)) h)) (aV.mono<|zl.trans (d.trans c)) ((aW.mono<|zl.trans (d.trans c)).weak (fun _ _ h=>wq (zl.trans (d.trans c)) h)) (aX.mono<|zl.trans (d.trans c)) ((aL.mono<|zl.trans (d.trans c)).weak (fun _ _ h=>wv (zl.trans (d.trans c)) h)) call119 (fun w' iT y0 y1  r  hr=>sv _ _ _ _ hr w' iT ) ho)<|fun _ _ h'=>⟨h'.1,trivial,h'.2⟩) fun _=>Lf 19 160 U (xk ml U U)<|WD.call0 (i:=17) (dd:=158) U (by kernel_rfl) U U U (.inl ⟨U,(wB.wk (.cons (.there<|.there<|.there .h7) .nil)<|.stb (.cons U<|.cons U .nil) .nil)⟩) (zb call121<|.r2 U U) (.s2 .h1 .h1) (py hz (.s2 .h1 .h1) .h1 (.cons .here .nil) fun w pz ho la=>Calls.mono (sX _ _ _ _ _ _ _ _ _ _ _ _ _ _ _ _ _ _ _ _ _ _ _ _ _ _ _ _ _ dj w pz ((((aS.mono<|zl.trans (d.trans c)).weak (fun _ _ h=>wg (zl.trans (d.trans c)) h)).mono zl).weak (fun _ _ h=>wg zl h)) ((((aT.mono<|zl.trans (d.trans c)).weak (fun _ _ h=>wp (zl.trans (d.trans c)) h)).mono zl).weak (fun _ _ h=>wp zl h)) ((aU.mono<|zl.trans (d.trans c)).mono zl) ((aK.mono<|zl.trans (d.trans c)).mono zl) ((((aq.mono<|zl.trans (d.trans c)).weak (fun _ _ h=>wi (zl.trans (d.trans c)) h)).mono zl).weak (fun _ _ h=>wi zl h)) ((aV.mono<|zl.trans (d.trans c)).mono zl) ((((aW.mono<|zl.trans (d.trans c)).weak (fun _ _ h=>wq (zl.trans (d.trans c)) h)).mono zl).weak (fun _ _ h=>wq zl h)) ((aX.mono<|zl.trans (d.trans c)).mono zl) ((((aL.mono<|zl.trans (d.trans c)).weak (fun _ _ h=>wv (zl.trans (d.trans c)) h)).mono zl).weak (fun _ _ h=>wv zl h)) ((la _ (.head _) _).stb) ho)<|fun _ _ h'=>⟨h'.1,trivial,h'.2⟩) ?_)
        intro _
        refine WD.call0 (i:=18) (dd:=159) U (by kernel_rfl) U U U (.inl ⟨U,(wB.wk (.cons (.there<|.there<|.there .h7) .nil)<|.stb (.cons U<|.cons U .nil) .nil)⟩) (zb call118<|.r4 U U U U) (.s3 .h2 .here .here) (jH hz (.s3 .h2 .here .here) .here fun w pz ho=>Calls.mono (se _ _ _ _ _ _ _ _ _ _ _ _ _ _ _ _ _ _ _ _ _ _ (zfG:=119) (zmm:=[]) _ _ _ _ _ (zjy:=(fun(y0:z1) (y1:z1)=>vb y0 y1)) _ _ _ dk w pz ((aS.mono<|zl.trans (d.trans c)).weak (fun _ _ h=>wg (zl.trans (d.trans c)) h)) ((aT.mono<|zl.trans (d.trans c)).weak (fun _ _ h=>wp (zl.trans (d.trans c)) h)) (aU.mono<|zl.trans (d.trans c)) (aK.mono<|zl.trans (d.trans c)) ((aq.mono<|zl.trans (d.trans c)).weak (fun _ _ h=>wi (zl.trans (d.trans c)) h)) (aV.mono<|zl.trans (d.trans c)) ((aW.mono<|zl.trans (d.trans c)).weak (fun _ _ h=>wq (zl.trans (d.trans c)) h)) (aX.mono<|zl.trans (d.trans c)) ((aL.mono<|zl.trans (d.trans c)).weak (fun _ _ h=>wv (zl.trans (d.trans c)) h)) call119 (fun w' iT y0 y1  r  hr=>sv _ _ _ _ hr w' iT ) ho)<|fun _ _ h'=>⟨h'.1,trivial,h'.2⟩) fun _=>WD.Qi (i:=20) U (by kernel_rfl) U U U (wB.wk (.cons .here .nil)<|.stb (.cons U<|.cons U .nil) .nil) (jF (ds:=[vi bP.1.fN,vi bP.1.fD,vi ay,vi az]) zX U U U U U (.there<|.there<|.there .h7) U U)<|Lf 21 161 U (xk uA U U)<|WD.jD (i:=22) U (by kernel_rfl) U U U (by kernel_rfl) (jF (ds:=[vi bP.1.fN,vi bP.1.fD,vi bY.1.fN,vi bY.1.fD]) zX U U U U U .here U U)<|WD.done (by kernel_rfl)<|Lb<|cK h fun dl h=>D2q U<|Le 164 (wG U)<|Le 165 (xk uz U U)<|Le 166 (xk ma U U)<|Le 167 (xl z9f U<|xt .h1 U)<|La U<|L0 (dd:=169) U U (Z:=(Z++W)) (Pr:=(qK (Z++W))) zbT U U ((aq.mono<|zl.trans (d.trans c)).weak (fun _ _ h=>wi (zl.trans (d.trans c)) h)) dl ?_
        rintro d8 d9 dm ea ⟨eb,ec,rfl,ed⟩
        exact Le 170 (xk mY U U)<|Le 171 (xl xu U<|xM (hz.pv2 .h4) dm U)<|Le 172 (cB U U U)<|La U<|WL.nil<|Lt<|Lb<|D2q U<|WL.nil<|WX.round ⟨dO,(max aP<|(nth a.yd<|nth (xx T f []) ap).yn),i64 (ap+1),bY.2,bP.1.fN,bP.1.fD,bY.1.fN,bY.1.fD⟩ h (Nat.lt_succ_self _) (.q U)<|.s11 .h4 .h4 .h4 .h4 .h1 .h3 .h3 .h3 .here .here .here
       ·exact WC.exit<|Lm<|Lm<|Lv<|WX.ghL (fun _ h=>Hp.Yw b4 cm (.s2 .h3 .h6) h)<|Ln ⟨aP,bc,aQ,aR,ay,az⟩ h (.q U)<|.s10 .h1 .h1 .h1 .h1 .h1 .h1 .here .here .here .here
      ·rintro bO bb ab ad ae af h
       replace h:=(dg bO bb ab ad ae af).symm.trans h
       refine bK h fun aA dn h=>cK h fun dp h=>cK h fun dq h=>Lz (fun i=>[17].contains i) [] U<|Lf 0 174 U (q_m U)<|Lh 1 175 U (xw z4c U (xy .h7) U)<|Lf 2 176 U (q_m U)<|L5 3 177 U (zb call80<|.cons U .nil) (jH hz .nil .here fun w pz ho=>mn _ _ _ dn w pz )<|Lf 4 178 U (q_m U)<|Lf 5 179 U (wG U)<|Lf 6 180 U (xk uz U U)<|Lf 7 181 U (xk jQ U U)<|Lh 8 182 U (xl z5E U<|xt .h3 U)<|Lf 9 183 U (q_m U)<|L2 (j:=10) (dd:=184) (by kernel_rfl) U zO zP U U (Z:=(Z++W)) (Pr:=(rq qm)) z7V U U (aK.mono<|zl.trans (d.trans c)) dp ?_
       rintro ee ef dr eg rfl
       refine Lf 11 185 U (xk mz U U)<|Lh 12 186 U (xl xu U<|xM (hz.pv2 .here) dr U)<|Lf 13 187 U (w3 (v:=(.agg #[vi 1,(vi<|(nth a.fK f).yj)])) (Lq (l:=[.const (vi 1),.tmp 186]) (.r2 U U) [0,1]) (fun _=>by kernel_rfl))<|Lf 14 188 U (w3 (v:=(.agg #[vi aA.fN,vi aA.fD,vi 1,(vi<|(nth a.fK f).yj)])) (Lq (l:=[.tmp 177,.tmp 187]) (.r2 U U) [0,1]) (fun _=>by kernel_rfl)) (WD.new (i:=15) (dd:=189) U (by kernel_rfl) U U U (xU (cs:=([(⟨(⟨ab,ad⟩:z1),(⟨ae,af⟩:z1)⟩:z6),(⟨aA,(⟨1,(nth a.fK f).yj⟩:z1)⟩:z6)]:List z6).flatMap vF) za5 (Lq (l:=[.tmp 175,.tmp 188]) (.r2 U U) [0,1]) (fun _=>by kernel_rfl) U (by unfold maxLen;omega)) (fun h'=>absurd h' (by decide)) fun cn _=>WD.freezeS (ls:=([(⟨(⟨ab,ad⟩:z1),(⟨ae,af⟩:z1)⟩:z6),(⟨aA,(⟨1,(nth a.fK f).yj⟩:z1)⟩:z6)]:List z6)) .here .here hz (RR.flat (enc:=vF) (fun _=>U) _) ?_)
       intro b7 co du
       let A:List Value:=[vs (some ⟨cn,0,none⟩) (([(⟨(⟨ab,ad⟩:z1),(⟨ae,af⟩:z1)⟩:z6),(⟨aA,(⟨1,(nth a.fK f).yj⟩:z1)⟩:z6)]:List z6).length) 2];have cp:RR 1 (j9 (Z++b7)) A ([([(⟨(⟨ab,ad⟩:z1),(⟨ae,af⟩:z1)⟩:z6),(⟨aA,(⟨1,(nth a.fK f).yj⟩:z1)⟩:z6)]:List z6)]:List (List z6)):=(RR.cons (r:=A) U (show j9 _ _ _ from⟨_,_,U,du⟩) (RR.nil _ _))
       refine WD.new (i:=16) (dd:=190) U (by kernel_rfl) U U U (xU (cs:=[vs (some ⟨cn,0,none⟩) (([(⟨(⟨ab,ad⟩:z1),(⟨ae,af⟩:z1)⟩:z6),(⟨aA,(⟨1,(nth a.fK f).yj⟩:z1)⟩:z6)]:List z6).length) 2]) zf8 (Lq (l:=[.tmp 189]) (.cons U .nil) [0]) (fun _=>by kernel_rfl) U (by unfold maxLen;omega)) (fun h'=>absurd h' (by decide)) ?_
       intro eh _
       have dv:RR 1 (j9 (Z++b7)) (am++A) (aa++([([(⟨(⟨ab,ad⟩:z1),(⟨ae,af⟩:z1)⟩:z6),(⟨aA,(⟨1,(nth a.fK f).yj⟩:z1)⟩:z6)]:List z6)]:List (List z6))):=RR.app (b9.weak (fun _ _ h=>ka co h)) cp
       refine WD.old (i:=17) (dd:=191) U (by kernel_rfl) U U U U (fun _=>(wB.of .nil)) (sn (l1:=aa) (l2:=([([(⟨(⟨ab,ad⟩:z1),(⟨ae,af⟩:z1)⟩:z6),(⟨aA,(⟨1,(nth a.fK f).yj⟩:z1)⟩:z6)]:List z6)]:List (List z6))) (news:=A) (Pr:=(j9 (Z++b7))) zf8 U U .h3 cp (vL .here) (oW U iL) dq) ?_
       rintro⟨dx,dy⟩ _
       exact Lf 18 7 U (q_z U)<|WD.done (by kernel_rfl)<|Lt<|Ln ⟨aa++([([(⟨(⟨ab,ad⟩:z1),(⟨ae,af⟩:z1)⟩:z6),(⟨aA,(⟨1,(nth a.fK f).yj⟩:z1)⟩:z6)]:List z6)]:List (List z6)),bb,b7,dx,dy,am++A⟩ ⟨h,co,dv⟩ (.q U)<|.s9 .h2 .h2 .here .h1 .h1 .h1 .h1 .h2 .h2
    ·rintro aJ a9 ba bL bM bN ⟨h,dz,dA⟩
     replace h:=(c9 aJ a9).symm.trans h
     exact D2q U<|WL.nil<|WX.round ⟨dK,aJ,i64 (f+1),a9,ba,bL,bM,bN⟩ ⟨h,c.trans dz,dA⟩ (Nat.lt_succ_self _) (.q U)<|.a9
   ·exact WC.exit<|Lm<|Lm<|Lv<|Ln ⟨aa,aG,W,aH,aI,am⟩ ⟨h,c,b9⟩ (.q U)<|.s6 .here .here .here .here .h3 .h3
  ·rintro ax bI aF bS bT aO ⟨h,dB,ca⟩
   replace h:=(c7 ax bI).symm.trans h
   refine WC.b<|cK h fun dC h=>D1q U<|La U ?_
   have dD:RR 1 (j9 (Z++aF)) (aj++aO) (an++ax):=RR.app (c6.weak (fun _ _ h=>ka dB h)) ca
   refine WL.fA 195 (sn (l1:=an) (l2:=ax) (news:=aO) (Pr:=(j9 (Z++aF))) zf8 U U .h1 ca (vL .h2) (RR.oc ca<|fun _ _ h=>G9 h) dC) ?_
   rintro⟨dE,dF⟩ _
   refine La U<|La U<|La U<|WL.nil<|Lb<|WC.ret ?_
   obtain rfl:=oJ h
   exact Li results79 (.tmp U<|.tmp U .nil)<|fun w hw=>⟨aF,dE,dF,aj++aO,wV U U,dD,hw.sub (.s5 .h1 .here .h1 .h1 .h1)⟩
def mF(a:z1):Option Bool:=
 (vR a).bind fun b=>some (b&&(decide (a.fN>=0)))
theorem lp(Z:Zp)(a:z1)(r:Bool)(h:mF a=some r)(w₀:World)(hz:PZ [] w₀ Z):
  RC 193 #[.agg #[vi a.fN,vi a.fD]] w₀ (.bool r) [] []:=by
 unfold mF at h
 refine L9 func193 ntmps193 ?_
 refine WC.b<|Ld (Lg 1 (xO (cs:=[vi a.fN,vi a.fD]) U U) fun e _=>Q1n U<|WC.b ?_)
 refine bK h fun d b h=>Ld<|Le 3 (xw zh U (xy .here) U)<|Lp 4 (zb call130<|.cons U .nil) .nil (cc hz .nil fun w pz ho=>ja _ _ _ b w pz )<|La U<|Lx true 3 5 (B:=d&&(decide (a.fN>=0))) U U U U U U (fun h=>(vy h).symm) (fun _ c=>?_) ?_
 ·exact Le 6 (xk qO U U)<|Le 7 (xl xu U<|xt .here U)<|Q2q U<|Ly (vz c) U U .all
 refine Q1n U<|WC.ret ?_
 obtain rfl:=oJ h
 exact Li results193 (.tmp U .nil)<|fun w hw=>⟨xJ U,hw.sub .nil⟩
def md(a:z6):Option Bool:=
 (mF a.yg).bind fun b=>(if !b then some true else(mF a.fR).bind fun c=>some (!c)).bind fun d=>some d
theorem al(Z:Zp)(a:z6)(r:Bool)(h:md a=some r)(w₀:World)(hz:PZ [] w₀ Z):
  RC 209 #[.agg #[vi a.yg.fN,vi a.yg.fD,vi a.fR.fN,vi a.fR.fD]] w₀ (.bool r) [] []:=by
 unfold md at h
 refine L9 func209 ntmps209 ?_
 refine WC.b<|Ld (Lg 1 (xO (cs:=[vi a.yg.fN,vi a.yg.fD,vi a.fR.fN,vi a.fR.fD]) U U) fun i _=>Q1n U<|WC.b ?_)
 refine bK h fun j d h=>bK h fun g c h=>Ld<|Le 3 (xk ml U U)<|Le 4 (wu (cs:=[vi a.yg.fN,vi a.yg.fD]) zh U U<|g7 (s:=2) .here U)<|Lp 5 (zb call193<|.cons U .nil) .nil (cc hz .nil fun w pz ho=>lp _ _ _ d w pz )<|Q2q U<|Lx false 4 7 (B:=g) U U U U U U (fun h=>(oJ<|q7 c h).symm) (fun _ e=>?_) ?_
 ·have b:=q8 c e
  obtain⟨k,f,b⟩:=z8 b
  replace b:=oJ b
  exact Le 8 (xk uA U U)<|Le 9 (wu (cs:=[vi a.fR.fN,vi a.fR.fD]) zh U U<|g7 (s:=2) .here U)<|Lp 10 (zb call193<|.cons U .nil) .nil (cc hz .nil fun w pz ho=>lp _ _ _ f w pz )<|Q2q U<|Ly b U U .all
 refine Q1n U<|WC.ret ?_
 obtain rfl:=oJ h
 exact Li results209 (.tmp U .nil)<|fun w hw=>⟨xJ U,hw.sub .nil⟩
def wK(b:List z6)(zce:z6->Option Bool)(c:Option Int):Nat->Int->Option Int
 | 0,_=>none
 | d+1,a=>if decide (a<b.length) then chk (0<=a/\a<b.length) ((zce (⟨(⟨((nth b a).yg).fN,((nth b a).yg).fD⟩:z1),(⟨((nth b a).fR).fN,((nth b a).fR).fD⟩:z1)⟩:z6)).bind fun e=>if e then some a else wK b zce c d (i64 (a+1))) else c
def jJ(a:List z6)(zce:z6->Option Bool):Option Int:=
 g8 (some (-1)) fun b=>wK a zce b xC 0
theorem tH(Z:Zp)(d:Option Addr)(g:Nat)(zmE:FuncId)(zun:List Value)(b:List z6)(zce:z6->Option Bool)(r:Int)(h:jJ b zce=some r)(w₀:World)(hz:PZ [] w₀ Z)(j:ZS Z 4 (rq vF) d g b)(k:∀ args w,(callFunc zmE args).run Tryz.prog w = .ok (.enter zmE args) w)(m:∀ w:World,PZ [] w Z->∀(x0:z6) (r:Bool),zce x0=some r->Calls Tryz.prog zmE (([.agg #[vi x0.yg.fN,vi x0.yg.fD,vi x0.fR.fN,vi x0.fR.fD]]:List Value)++zun).toArray w fun e w'=>e = .returned (.bool r)/\Hp [] w w' []):
  RC 220 #[vs d b.length g,.func (.func zmE) #[] (zun).toArray] w₀ (vi r) [] []:=by
 unfold jJ at h
 refine L3 func220 ntmps220 ?_
 refine B1n U<|jK0 h fun i n h=>L7 (i=some r) ([]) ([]) ?_ ?_
 ·refine B1q U<|Le 7 (xK underlying227 U)<|Q1n U<|WC.block<|L6 (fun(c:Nat) (a:Int)=>(wK b zce i c a=some r)) (fun c a=>[(0,vs d b.length g),(1,.func (.func zmE) #[] (zun).toArray),(7,vi (b.length:Int)),(8,vi a)]) (fun c a=>[]) (fun c a=>c) ⟨xC,0⟩ h (.q U) .nil ?_
  rintro(_|u) a h;·cases h
  rw[wK] at h
  refine B1n U<|WC.b<|Lk U h (fun o h=>?_)<|fun o h=>?_
  ·refine WC.skip<|Lb<|WC.b<|WC.block<|B2n U<|WC.b<|cK h fun p h=>bK h fun v q h=>D3q U<|L0 (dd:=14) U U (Z:=Z) (Pr:=(rq vF)) za5 U U j p ?_
   rintro x y s z rfl
   refine Le 15 (xw z4c U (vQ hz.pv s) U)<|Lp 16 (qW (l:=[.tmp 15]) (f:=zmE) (caps:=zun) k U<|.cons U .nil) .nil (fun w hw=>m w (hz.now hw) (⟨(⟨((nth b a).yg).fN,((nth b a).yg).fD⟩:z1),(⟨((nth b a).fR).fN,((nth b a).fR).fD⟩:z1)⟩:z6) v  q)<|Q0n<|Lk U h (fun t h=>?_)<|fun t h=>?_
   ·refine B2n U<|WC.ret<|Lu<|Ll<|Ll<|Lu<|Ll ?_
    obtain rfl:=oJ h
    exact Li results220 (.tmp U .nil)<|fun w hw=>⟨xJ U,hw.sub .nil⟩
   ·exact WC.skip<|Lt<|Lb<|D2q U<|WL.nil<|WX.round ⟨u,i64 (a+1)⟩ h (Nat.lt_succ_self _) (.q U) .nil
  ·exact WC.exit<|Lm<|Lm<|Lv<|Ln () h .nil .nil
 ·rintro  h
  replace h:=n.symm.trans h
  refine B1n U<|WC.ret ?_
  obtain rfl:=oJ h
  exact Li results220 (.tmp U .nil)<|fun w hw=>⟨xJ U,hw.sub .nil⟩
def vg(a:List z6)(zmF:z6->Option Bool):Option Bool:=
 (jJ a zmF).bind fun b=>some (decide (b>=0))
theorem gw(Z:Zp)(b:Option Addr)(c:Nat)(zmG:FuncId)(zup:List Value)(a:List z6)(zmF:z6->Option Bool)(r:Bool)(h:vg a zmF=some r)(w₀:World)(hz:PZ [] w₀ Z)(d:ZS Z 4 (rq vF) b c a)(f:∀ args w,(callFunc zmG args).run Tryz.prog w = .ok (.enter zmG args) w)(g:∀ w:World,PZ [] w Z->∀(x0:z6) (r:Bool),zmF x0=some r->Calls Tryz.prog zmG (([.agg #[vi x0.yg.fN,vi x0.yg.fD,vi x0.fR.fN,vi x0.fR.fD]]:List Value)++zup).toArray w fun e w'=>e = .returned (.bool r)/\Hp [] w w' []):
  RC 208 #[vs b a.length c,.func (.func zmG) #[] (zup).toArray] w₀ (.bool r) [] []:=by
 unfold vg at h
 refine L3 func208 ntmps208 ?_
 refine B1n U<|WC.b<|bK h fun j i h=>D2q U<|Lp 7 (zb call220<|.r2 U U) .nil (cc hz .nil fun w pz ho=>tH _ _ _ (zmE:=zmG) (zun:=zup) _ (zce:=zmF) _ i w pz d f g)<|Q2n U<|WC.ret ?_
 obtain rfl:=oJ h
 exact Li results208 (.tmp U .nil)<|fun w hw=>⟨xJ U,hw.sub .nil⟩
def f8(a:List z6):Option Bool:=
 (if (decide ((a.length:Int)>=1))&&(decide ((a.length:Int)<=32)) then(vg a (fun(y0:z6)=>md y0)).bind fun b=>some (!b) else some false).bind fun c=>some c
theorem rp(Z:Zp)(c:Option Addr)(d:Nat)(a:List z6)(r:Bool)(h:f8 a=some r)(w₀:World)(hz:PZ [] w₀ Z)(f:ZS Z 4 (rq vF) c d a):
  RC 192 #[vs c a.length d] w₀ (.bool r) [] []:=by
 unfold f8 at h
 refine L9 func192 ntmps192 ?_
 refine B1n U<|WC.b<|bK h fun k e h=>D1q U<|Le 4 (xK underlying227 U)<|Q2q U<|Lx true 3 6 (B:=(decide ((a.length:Int)>=1))&&(decide ((a.length:Int)<=32))) U U U U U U (fun h=>(vy h).symm) (fun _ g=>?_) ?_
 ·exact La U<|Le 8 (xK underlying227 U)<|Q2q U<|Ly (vz g) U U .all
 refine La U<|Lx true 3 11 (B:=k) U U U U U U (fun h=>(oJ<|q8 e h).symm) (fun _ i=>?_) ?_
 ·have b:=q7 e i
  obtain⟨l,j,b⟩:=z8 b
  replace b:=oJ b
  exact La U<|Lp 13 (zb call208<|.r2 U U) .nil (cc hz .nil fun w pz ho=>gw _ _ _ (zmG:=209) (zup:=[]) _ (zmF:=(fun(y0:z6)=>md y0)) _ j w pz f call209<|fun w' iT y0  r  hr=>al _ _ _ hr w' iT )<|Q2q U<|Ly b U U .all
 refine Q1n U<|WC.ret ?_
 obtain rfl:=oJ h
 exact Li results192 (.tmp U .nil)<|fun w hw=>⟨xJ U,hw.sub .nil⟩
def qh(a:List z6):Option Bool:=
 (f8 a).bind fun b=>some (!b)
theorem oN(Z:Zp)(b:Option Addr)(c:Nat)(a:List z6)(r:Bool)(h:qh a=some r)(w₀:World)(hz:PZ [] w₀ Z)(d:ZS Z 4 (rq vF) b c a):
  RC 197 #[vs b a.length c] w₀ (.bool r) [] []:=by
 unfold qh at h
 refine L9 func197 ntmps197 ?_
 refine B1n U<|WC.b<|bK h fun f e h=>D1q U<|Lp 4 (zb call192<|.cons U .nil) .nil (cc hz .nil fun w pz ho=>rp _ _ _ _ _ e w pz d)<|Q2n U<|WC.ret ?_
 obtain rfl:=oJ h
 exact Li results197 (.tmp U .nil)<|fun w hw=>⟨xJ U,hw.sub .nil⟩
def wz(b:List (List z6))(zcf:(List z6)->Option Bool)(c:Option Int):Nat->Int->Option Int
 | 0,_=>none
 | d+1,a=>if decide (a<b.length) then chk (0<=a/\a<b.length) ((zcf (nth b a)).bind fun e=>if e then some a else wz b zcf c d (i64 (a+1))) else c
def qE(a:List (List z6))(zcf:(List z6)->Option Bool):Option Int:=
 g8 (some (-1)) fun b=>wz a zcf b xC 0
theorem tT(Z:Zp)(d:Option Addr)(g:Nat)(zmH:FuncId)(zus:List Value)(b:List (List z6))(zcf:(List z6)->Option Bool)(r:Int)(h:qE b zcf=some r)(w₀:World)(hz:PZ [] w₀ Z)(j:ZS Z 1 (j9 Z) d g b)(k:∀ args w,(callFunc zmH args).run Tryz.prog w = .ok (.enter zmH args) w)(m:∀ w:World,PZ [] w Z->∀(x0:List z6) (kA:Option Addr) (iu:Nat) (r:Bool),ZS Z 4 (rq vF) kA iu x0->zcf x0=some r->Calls Tryz.prog zmH (([vs kA x0.length iu]:List Value)++zus).toArray w fun e w'=>e = .returned (.bool r)/\Hp [] w w' []):
  RC 211 #[vs d b.length g,.func (.func zmH) #[] (zus).toArray] w₀ (vi r) [] []:=by
 unfold qE at h
 refine L3 func211 ntmps211 ?_
 refine B1n U<|jK0 h fun i n h=>L7 (i=some r) ([]) ([]) ?_ ?_
 ·refine B1q U<|Le 7 (xK underlying171 U)<|Q1n U<|WC.block<|L6 (fun(c:Nat) (a:Int)=>(wz b zcf i c a=some r)) (fun c a=>[(0,vs d b.length g),(1,.func (.func zmH) #[] (zus).toArray),(7,vi (b.length:Int)),(8,vi a)]) (fun c a=>[]) (fun c a=>c) ⟨xC,0⟩ h (.q U) .nil ?_
  rintro(_|y) a h;·cases h
  rw[wz] at h
  refine B1n U<|WC.b<|Lk U h (fun o h=>?_)<|fun o h=>?_
  ·refine WC.skip<|Lb<|WC.b<|WC.block<|B2n U<|WC.b<|cK h fun p h=>bK h fun z q h=>D3q U<|L0 (dd:=14) U U (Z:=Z) (Pr:=(j9 Z)) zf8 U U j p ?_
   rintro A B s C ⟨t,u,rfl,v⟩
   refine Le 15 (xl zod U<|q9 hz.pv s U)<|Lp 16 (qW (l:=[.tmp 15]) (f:=zmH) (caps:=zus) k U<|.cons U .nil) .nil (fun w hw=>m w (hz.now hw) (nth b a) t u z v q)<|Q0n<|Lk U h (fun x h=>?_)<|fun x h=>?_
   ·refine B2n U<|WC.ret<|Lu<|Ll<|Ll<|Lu<|Ll ?_
    obtain rfl:=oJ h
    exact Li results211 (.tmp U .nil)<|fun w hw=>⟨xJ U,hw.sub .nil⟩
   ·exact WC.skip<|Lt<|Lb<|D2q U<|WL.nil<|WX.round ⟨y,i64 (a+1)⟩ h (Nat.lt_succ_self _) (.q U) .nil
  ·exact WC.exit<|Lm<|Lm<|Lv<|Ln () h .nil .nil
 ·rintro  h
  replace h:=n.symm.trans h
  refine B1n U<|WC.ret ?_
  obtain rfl:=oJ h
  exact Li results211 (.tmp U .nil)<|fun w hw=>⟨xJ U,hw.sub .nil⟩
def vr(a:List (List z6))(zpo:(List z6)->Option Bool):Option Bool:=
 (qE a zpo).bind fun b=>some (decide (b>=0))
theorem tc(Z:Zp)(b:Option Addr)(c:Nat)(zpp:FuncId)(zy2:List Value)(a:List (List z6))(zpo:(List z6)->Option Bool)(r:Bool)(h:vr a zpo=some r)(w₀:World)(hz:PZ [] w₀ Z)(d:ZS Z 1 (j9 Z) b c a)(f:∀ args w,(callFunc zpp args).run Tryz.prog w = .ok (.enter zpp args) w)(g:∀ w:World,PZ [] w Z->∀(x0:List z6) (kA:Option Addr) (iu:Nat) (r:Bool),ZS Z 4 (rq vF) kA iu x0->zpo x0=some r->Calls Tryz.prog zpp (([vs kA x0.length iu]:List Value)++zy2).toArray w fun e w'=>e = .returned (.bool r)/\Hp [] w w' []):
  RC 196 #[vs b a.length c,.func (.func zpp) #[] (zy2).toArray] w₀ (.bool r) [] []:=by
 unfold vr at h
 refine L3 func196 ntmps196 ?_
 refine B1n U<|WC.b<|bK h fun j i h=>D2q U<|Lp 7 (zb call211<|.r2 U U) .nil (cc hz .nil fun w pz ho=>tT _ _ _ (zmH:=zpp) (zus:=zy2) _ (zcf:=zpo) _ i w pz d f g)<|Q2n U<|WC.ret ?_
 obtain rfl:=oJ h
 exact Li results196 (.tmp U .nil)<|fun w hw=>⟨xJ U,hw.sub .nil⟩
def mG(a:yl):Option Bool:=
 (vR a.fR).bind fun b=>(if b&&(decide (a.fR.fN>0)) then(vR a.fL).bind fun c=>some c else some false).bind fun d=>some (d&&(decide (a.fL.fN>=0)))
theorem nz(Z:Zp)(a:yl)(r:Bool)(h:mG a=some r)(w₀:World)(hz:PZ [] w₀ Z):
  RC 198 #[.agg #[vi a.fR.fN,vi a.fR.fD,vi a.fL.fN,vi a.fL.fD]] w₀ (.bool r) [] []:=by
 unfold mG at h
 refine L9 func198 ntmps198 ?_
 refine WC.b<|Ld (Lg 1 (xO (cs:=[vi a.fR.fN,vi a.fR.fD,vi a.fL.fN,vi a.fL.fD]) U U) fun l _=>Q1n U<|WC.b ?_)
 refine bK h fun k e h=>bK h fun c d h=>Ld<|Le 3 (xk lf U U)<|Le 4 (wu (cs:=[vi a.fR.fN,vi a.fR.fD]) zh U U<|g7 (s:=2) .here U)<|Lp 5 (zb call130<|.cons U .nil) .nil (cc hz .nil fun w pz ho=>ja _ _ _ e w pz )<|La U<|Lx true 4 6 (B:=k&&(decide (a.fR.fN>0))) U U U U U U (fun h=>(vy h).symm) (fun _ f=>?_) ?_
 ·exact Le 7 (xk lf U U)<|Le 8 (xk qO U U)<|Le 9 (xl xu U<|xt .here U)<|Q2q U<|Ly (vz f) U U .all
 refine La U<|Lx true 3 12 (B:=c) U U U U U U (fun h=>(oJ<|q8 d h).symm) (fun _ g=>?_) ?_
 ·have b:=q7 d g
  obtain⟨m,i,b⟩:=z8 b
  replace b:=oJ b
  exact Le 13 (xk pJ U U)<|Le 14 (wu (cs:=[vi a.fL.fN,vi a.fL.fD]) zh U U<|g7 (s:=2) .here U)<|Lp 15 (zb call130<|.cons U .nil) .nil (cc hz .nil fun w pz ho=>ja _ _ _ i w pz )<|La U<|Ly b U U .all
 refine La U<|Lx true 4 17 (B:=c&&(decide (a.fL.fN>=0))) U U U U U U (fun h=>(vy h).symm) (fun _ j=>?_) ?_
 ·exact Le 18 (xk pJ U U)<|Le 19 (xk qO U U)<|Le 20 (xl xu U<|xt .here U)<|Q2q U<|Ly (vz j) U U .all
 refine Q1n U<|WC.ret ?_
 obtain rfl:=oJ h
 exact Li results198 (.tmp U .nil)<|fun w hw=>⟨xJ U,hw.sub .nil⟩
def qu(a:Int):Option z1:=
 some (⟨a,1⟩:z1)
theorem mH(Z:Zp)(a:Int)(r:z1)(h:qu a=some r)(w₀:World)(hz:PZ [] w₀ Z):
  RC 191 #[vi a] w₀ (.agg #[vi r.fN,vi r.fD]) [] []:=by
 unfold qu at h
 refine L9 func191 ntmps191 ?_
 refine WC.b<|Ld (Lg 2 (xG (cs:=[vi 0,vi 0]) z1y U) fun b _=>Q0n<|B1q U<|Le 4 (w3 (v:=(.agg #[vi a,vi 1])) (Lq (l:=[.tmp 3,.const (vi 1)]) (.r2 U U) [0,1]) (fun _=>by kernel_rfl))<|Lo U U (xz zX U U U .here U U U)<|Q0n<|WC.ret ?_)
 obtain rfl:=oJ h
 exact Li results191 (.agg U zh U (xy .here) .nil)<|fun w hw=>⟨xJ U,hw.sub .nil⟩
def kV  : Option z1:=
 (qu 0).bind fun a=>some a
theorem uq(Z:Zp)(r:z1)(h:kV=some r)(w₀:World)(hz:PZ [] w₀ Z):
  RC 161 #[] w₀ (.agg #[vi r.fN,vi r.fD]) [] []:=by
 unfold kV at h
 refine Calls.on0 func161 ntmps161 ?_
 refine WC.b<|Ld (Lg 0 (xG (cs:=[vi 0,vi 0]) z1y U) fun b _=>Q0n<|WC.b ?_)
 refine bK h fun c a h=>Ld<|Lp 1 (zb call191<|.cons U .nil) .nil (cc hz .nil fun w pz ho=>mH _ _ _ a w pz )<|Lo U U (xz zX U U U .here U U U)<|Q0n<|WC.ret ?_
 obtain rfl:=oJ h
 exact Li results161 (.agg U zh U (xy .here) .nil)<|fun w hw=>⟨xJ U,hw.sub .nil⟩
def wY(b:List z6)(c:z6)(d:Option Int):Nat->Int->Option Int
 | 0,_=>none
 | e+1,a=>if decide (a<b.length) then chk (0<=a/\a<b.length) (if decide (c=(⟨(⟨((nth b a).yg).fN,((nth b a).yg).fD⟩:z1),(⟨((nth b a).fR).fN,((nth b a).fR).fD⟩:z1)⟩:z6)) then some a else wY b c d e (i64 (a+1))) else d
def kD(a:List z6)(b:z6):Option Int:=
 g8 (some (-1)) fun c=>wY a b c xC 0
theorem sM(Z:Zp)(g:Option Addr)(i:Nat)(e:List z6)(c:z6)(r:Int)(h:kD e c=some r)(w₀:World)(hz:PZ [] w₀ Z)(m:ZS Z 4 (rq vF) g i e):
  RC 228 #[vs g e.length i,.agg #[vi c.yg.fN,vi c.yg.fD,vi c.fR.fN,vi c.fR.fD]] w₀ (vi r) [] []:=by
 unfold kD at h
 refine L3 func228 ntmps228 ?_
 let A:List Value:=[vi c.yg.fN,vi c.yg.fD,vi c.fR.fN,vi c.fR.fD];refine B0q<|Lg 3 (xO (cs:=A) U U) ?_
 intro k _
 refine Q1n U<|jK0 h fun l n h=>L7 (l=some r) ([]) ([]) ?_ ?_
 ·refine B1q U<|Le 7 (xK underlying227 U)<|Q1n U<|WC.block<|L6 (fun(f:Nat) (d:Int)=>(wY e c l f d=some r)) (fun f d=>[(0,vs g e.length i),(3,vp k),(7,vi (e.length:Int)),(8,vi d)]) (fun f d=>[stb k 225 A]) (fun f d=>f) ⟨xC,0⟩ h (.q U) (.cons .here .nil) ?_
  rintro(_|t) d h;·cases h
  rw[wY] at h
  refine B1n U<|WC.b<|Lk U h (fun o h=>?_)<|fun o h=>?_
  ·refine WC.skip<|Lb<|WC.b<|WC.block<|B2n U<|WC.b<|cK h fun p h=>Lz nc [] U<|Lh 0 11 U (xw z4c U (xy .here) U)<|Lf 1 12 U (q_m U)<|Lf 2 13 U (q_m U)<|L2 (j:=3) (dd:=14) (by kernel_rfl) U zO zP U U (Z:=Z) (Pr:=(rq vF)) za5 U U m p ?_
   rintro u v q x rfl
   refine Lh 4 15 U (xw z4c U (vQ hz.pv q) U)<|Lf 5 16 U (pw (enc:=vF) (a:=c) (b:=(⟨(⟨((nth e d).yg).fN,((nth e d).yg).fD⟩:z1),(⟨((nth e d).fR).fN,((nth e d).fR).fD⟩:z1)⟩:z6)) zMu U U)<|WD.done (by kernel_rfl)<|Lb<|Lk U h (fun s h=>?_)<|fun s h=>?_
   ·refine B2n U<|WC.ret<|Lu<|Ll<|Ll<|Lu<|Ll ?_
    obtain rfl:=oJ h
    exact Li results228 (.tmp U .nil)<|fun w hw=>⟨xJ U,hw.sub .nil⟩
   ·exact WC.skip<|Lt<|Lb<|D2q U<|WL.nil<|WX.round ⟨t,i64 (d+1)⟩ h (Nat.lt_succ_self _) (.q U)<|.cons .here .nil
  ·exact WC.exit<|Lm<|Lm<|Lv<|Ln () h .nil .nil
 ·rintro  h
  replace h:=n.symm.trans h
  refine B1n U<|WC.ret ?_
  obtain rfl:=oJ h
  exact Li results228 (.tmp U .nil)<|fun w hw=>⟨xJ U,hw.sub .nil⟩
def qF(a:List z6)(b:z6):Option Bool:=
 (kD a b).bind fun c=>some (decide (c>=0))
theorem tU(Z:Zp)(c:Option Addr)(d:Nat)(b:List z6)(a:z6)(r:Bool)(h:qF b a=some r)(w₀:World)(hz:PZ [] w₀ Z)(e:ZS Z 4 (rq vF) c d b):
  RC 221 #[vs c b.length d,.agg #[vi a.yg.fN,vi a.yg.fD,vi a.fR.fN,vi a.fR.fD]] w₀ (.bool r) [] []:=by
 unfold qF at h
 refine L3 func221 ntmps221 ?_
 refine WC.b<|Ld (Lg 3 (xO (cs:=[vi a.yg.fN,vi a.yg.fD,vi a.fR.fN,vi a.fR.fD]) U U) fun g _=>Q1n U<|WC.b ?_)
 refine bK h fun i f h=>D1q U<|Le 6 (xw z4c U (xy .here) U)<|Lp 7 (zb call228<|.r2 U U) .nil (cc hz .nil fun w pz ho=>sM _ _ _ _ _ _ f w pz e)<|Q2n U<|WC.ret ?_
 obtain rfl:=oJ h
 exact Li results221 (.tmp U .nil)<|fun w hw=>⟨xJ U,hw.sub .nil⟩
def vh(a:z1)(b:z1):Option Int:=
 (vR a).bind fun c=>(if !c then some true else(vR b).bind fun d=>some (!d)).bind fun e=>if e then some 0 else if decide ((i64 (a.fN*b.fD))<(i64 (b.fN*a.fD))) then some (-1) else if decide ((i64 (a.fN*b.fD))>(i64 (b.fN*a.fD))) then some 1 else some 0
theorem fF(Z:Zp)(a:z1)(b:z1)(r:Int)(h:vh a b=some r)(w₀:World)(hz:PZ [] w₀ Z):
  RC 129 #[.agg #[vi a.fN,vi a.fD],.agg #[vi b.fN,vi b.fD]] w₀ (vi r) [] []:=by
 unfold vh at h
 refine L3 func129 ntmps129 ?_
 refine WC.b<|Ld (Lg 2 (xO (cs:=[vi a.fN,vi a.fD]) U U) fun m _=>Lg 3 (xO (cs:=[vi b.fN,vi b.fD]) U U) fun n _=>Q1n U<|WC.b<|WC.b ?_)
 refine bK h fun o e h=>bK h fun l d h=>Ld<|Le 7 (xw zh U (xy .h1) U)<|Lp 8 (zb call130<|.cons U .nil) .nil (cc hz .nil fun w pz ho=>ja _ _ _ e w pz )<|Q2q U<|Lx false 3 10 (B:=l) U U U U U U (fun h=>(oJ<|q7 d h).symm) (fun _ f=>?_) ?_
 ·have c:=q8 d f
  obtain⟨p,g,c⟩:=z8 c
  replace c:=oJ c
  exact Le 11 (xw zh U (xy .here) U)<|Lp 12 (zb call130<|.cons U .nil) .nil (cc hz .nil fun w pz ho=>ja _ _ _ g w pz )<|Q2q U<|Ly c U U .all
 refine Q0n<|Lk U h (fun i h=>?_)<|fun i h=>?_
 ·refine B1n U<|WC.ret<|Ll ?_
  obtain rfl:=oJ h
  exact Li results129 (.tmp U .nil)<|fun w hw=>⟨xJ U,hw.sub .nil⟩
 ·refine WC.skip<|Lb<|WC.b<|WC.b<|Lz nc [] U<|Lf 0 15 U (xk qO U U)<|Lh 1 16 U (xl xu U<|xt .h1 U)<|Lf 2 17 U (xk jq U U)<|Lh 3 18 U (xl xu U<|xt .here U)<|Lf 4 19 U (tk U U U)<|Lf 5 20 U (xk qO U U)<|Lh 6 21 U (xl xu U<|xt .here U)<|Lf 7 22 U (xk jq U U)<|Lh 8 23 U (xl xu U<|xt .h1 U)<|Lf 9 24 U (tk U U U)<|Lf 10 5 U (q_z U)<|Lf 11 6 U (q_z U)<|WD.done (by kernel_rfl)<|Lb<|WC.block<|B4n U<|Lk U h (fun j h=>?_)<|fun j h=>?_
  ·refine B1n U<|WC.ret<|Lu<|Ll ?_
   obtain rfl:=oJ h
   exact Li results129 (.tmp U .nil)<|fun w hw=>⟨xJ U,hw.sub .nil⟩
  ·refine B4n U<|Lk U h (fun k h=>?_)<|fun k h=>?_
   ·refine B1n U<|WC.ret<|Lu<|Ll ?_
    obtain rfl:=oJ h
    exact Li results129 (.tmp U .nil)<|fun w hw=>⟨xJ U,hw.sub .nil⟩
   ·refine WC.skip<|Lt<|Lb<|B1n U<|WC.ret ?_
    obtain rfl:=oJ h
    exact Li results129 (.tmp U .nil)<|fun w hw=>⟨xJ U,hw.sub .nil⟩
def mt(a:z6)(b:z6):Option Bool:=
 (if decide (a≠b) then(vh a.yg b.yg).bind fun c=>some (decide (c<=0)) else some false).bind fun d=>(if d then(vh a.fR b.fR).bind fun e=>some (decide (e<=0)) else some false).bind fun f=>some f
theorem eQ(Z:Zp)(c:z6)(d:z6)(r:Bool)(h:mt c d=some r)(w₀:World)(hz:PZ [] w₀ Z):
  RC 223 #[.agg #[vi c.yg.fN,vi c.yg.fD,vi c.fR.fN,vi c.fR.fD],.agg #[vi d.yg.fN,vi d.yg.fD,vi d.fR.fN,vi d.fR.fD]] w₀ (.bool r) [] []:=by
 unfold mt at h
 refine L3 func223 ntmps223 ?_
 refine WC.b<|Ld (Lg 2 (xO (cs:=[vi c.yg.fN,vi c.yg.fD,vi c.fR.fN,vi c.fR.fD]) U U) fun p _=>Lg 3 (xO (cs:=[vi d.yg.fN,vi d.yg.fD,vi d.fR.fN,vi d.fR.fD]) U U) fun q _=>Q1n U<|WC.b ?_)
 refine bK h fun n g h=>bK h fun o i h=>Ld<|Le 5 (xw z4c U (xy .h1) U)<|Le 6 (xw z4c U (xy .here) U)<|Le 7 (cF (enc:=vF) (a:=c) (b:=d) zMu U U)<|La U<|Lx true 6 8 (B:=n) U U U U U U (fun h=>(oJ<|q8 g h).symm) (fun _ j=>?_) ?_
 ·have e:=q7 g j
  obtain⟨t,k,e⟩:=z8 e
  replace e:=oJ e
  exact Le 9 (xk ml U U)<|Le 10 (wu (cs:=[vi c.yg.fN,vi c.yg.fD]) zh U U<|g7 (s:=2) .h1 U)<|Le 11 (xk ml U U)<|Le 12 (wu (cs:=[vi d.yg.fN,vi d.yg.fD]) zh U U<|g7 (s:=2) .here U)<|Lp 13 (zb call129<|.r2 U U) .nil (cc hz .nil fun w pz ho=>fF _ _ _ _ k w pz )<|Q2q U<|Ly e U U .all
 refine La U<|Lx true 6 16 (B:=o) U U U U U U (fun h=>(oJ<|q8 i h).symm) (fun _ l=>?_) ?_
 ·have f:=q7 i l
  obtain⟨u,m,f⟩:=z8 f
  replace f:=oJ f
  exact Le 17 (xk uA U U)<|Le 18 (wu (cs:=[vi c.fR.fN,vi c.fR.fD]) zh U U<|g7 (s:=2) .h1 U)<|Le 19 (xk uA U U)<|Le 20 (wu (cs:=[vi d.fR.fN,vi d.fR.fD]) zh U U<|g7 (s:=2) .here U)<|Lp 21 (zb call129<|.r2 U U) .nil (cc hz .nil fun w pz ho=>fF _ _ _ _ m w pz )<|Q2q U<|Ly f U U .all
 refine Q1n U<|WC.ret ?_
 obtain rfl:=oJ h
 exact Li results223 (.tmp U .nil)<|fun w hw=>⟨xJ U,hw.sub .nil⟩
def mB(a:z6)(b:z6):Option Bool:=
 (mt a b).bind fun c=>some c
theorem Yb(Z:Zp)(c:Addr)(a:z6)(b:z6)(r:Bool)(h:mB a b=some r)(w₀:World)(hz:PZ [] w₀ Z)(d:ZC Z c [vi b.yg.fN,vi b.yg.fD,vi b.fR.fN,vi b.fR.fD]):
  RC 222 #[.agg #[vi a.yg.fN,vi a.yg.fD,vi a.fR.fN,vi a.fR.fD],vq c] w₀ (.bool r) [] []:=by
 unfold mB at h
 refine L3 func222 ntmps222 ?_
 refine WC.b<|Ld (Lg 2 (xO (cs:=[vi a.yg.fN,vi a.yg.fD,vi a.fR.fN,vi a.fR.fD]) U U) fun f _=>Q1n U<|WC.b ?_)
 refine bK h fun g e h=>Ld<|Le 4 (xw z4c U (xy .here) U)<|Le 5 (xw z4c U (vQ hz.pv d) U)<|Lp 6 (zb call223<|.r2 U U) .nil (cc hz .nil fun w pz ho=>eQ _ _ _ _ e w pz )<|Q1n U<|WC.ret ?_
 obtain rfl:=oJ h
 exact Li results222 (.tmp U .nil)<|fun w hw=>⟨xJ U,hw.sub .nil⟩
def uQ(a:z6)(b:z6):Option Int:=
 (vh a.yg b.yg).bind fun c=>some c
theorem Yc(Z:Zp)(a:z6)(b:z6)(r:Int)(h:uQ a b=some r)(w₀:World)(hz:PZ [] w₀ Z):
  RC 225 #[.agg #[vi a.yg.fN,vi a.yg.fD,vi a.fR.fN,vi a.fR.fD],.agg #[vi b.yg.fN,vi b.yg.fD,vi b.fR.fN,vi b.fR.fD]] w₀ (vi r) [] []:=by
 unfold uQ at h
 refine L3 func225 ntmps225 ?_
 refine WC.b<|Ld (Lg 2 (xO (cs:=[vi a.yg.fN,vi a.yg.fD,vi a.fR.fN,vi a.fR.fD]) U U) fun d _=>Lg 3 (xO (cs:=[vi b.yg.fN,vi b.yg.fD,vi b.fR.fN,vi b.fR.fD]) U U) fun e _=>Q1n U<|WC.b ?_)
 refine bK h fun f c h=>Ld<|Le 5 (xk ml U U)<|Le 6 (wu (cs:=[vi a.yg.fN,vi a.yg.fD]) zh U U<|g7 (s:=2) .h1 U)<|Le 7 (xk ml U U)<|Le 8 (wu (cs:=[vi b.yg.fN,vi b.yg.fD]) zh U U<|g7 (s:=2) .here U)<|Lp 9 (zb call129<|.r2 U U) .nil (cc hz .nil fun w pz ho=>fF _ _ _ _ c w pz )<|Q1n U<|WC.ret ?_
 obtain rfl:=oJ h
 exact Li results225 (.tmp U .nil)<|fun w hw=>⟨xJ U,hw.sub .nil⟩
theorem z14j:∀ w,(isAgg (Tryz.jZ.t 24)).run Tryz.prog w = .ok true w:=fun _=>by kernel_rfl
theorem z14k:∀ w,(Go.sizeOf (Tryz.jZ.t 24)).run Tryz.prog w = .ok 4 w:=fun _=>by kernel_rfl
def kL(z7A:List z6)(zuA:Int)(zuB:Int)(zpr:Int)(zmJ:z6->z6->Option Int):Option (List z6):=chk ((zuA=0/\zuB=(z7A.length:Int))/\(0<=zpr/\zpr<4611686018427387904/\z7A.length<4611686018427387904)) (chk (ry zmJ (w6 zmJ z7A)=true) (some (w6 zmJ z7A)))
theorem sY(Z:Zp)(zmK:Option Addr)(zmL:Nat)(zuC:FuncId)(zFV:List Value)(z7A:List z6)(zuA:Int)(zuB:Int)(zpr:Int)(zmJ:z6->z6->Option Int)(r:List z6)(w₀:World)(hz:Pz [row (vs zmK z7A.length zmL) 225 4 (z7A.flatMap vF)] w₀ Z)(a:∀ args w,(callFunc zuC args).run Tryz.prog w = .ok (.enter zuC args) w)(b:∀ w:World,PZ [] w Z->∀(x0:z6) (x1:z6) (r:Int),zmJ x0 x1=some r->Calls Tryz.prog zuC (([.agg #[vi x0.yg.fN,vi x0.yg.fD,vi x0.fR.fN,vi x0.fR.fD],.agg #[vi x1.yg.fN,vi x1.yg.fD,vi x1.fR.fN,vi x1.fR.fD]]:List Value)++zFV).toArray w fun e w'=>e = .returned (vi r)/\Hp [] w w' [])(h:kL z7A zuA zuB zpr zmJ=some r)(iq:Ho w₀ [row (vs zmK z7A.length zmL) 225 4 (z7A.flatMap vF)]):
  Calls Tryz.prog 229 #[vs zmK z7A.length zmL,vi zuA,vi zuB,vi zpr,.func (.func zuC) #[] (zFV).toArray] w₀ fun e w'=>e = .returned (.tuple #[])/\(r.length=z7A.length)/\Hp (fps [row (vs zmK z7A.length zmL) 225 4 (z7A.flatMap vF)]) w₀ w' [row (vs zmK r.length zmL) 225 4 (r.flatMap vF)]:=by
 obtain⟨h0,h⟩:=xq h
 obtain⟨h1,h⟩:=xq h
 have hr:=(oJ h).symm
 exact pW (P:=Tryz.prog) (f:=229) (e:=225) (k:=4) (enc:=vF) (fun _=>U) (by decide) Vq (fun β _ enc cf g cb hO w5 off cap d0 w0 eg hC R=>Tryz.pE 4 z14j z14k enc cf g cb hO w5 off cap d0 w0 eg hC R) (Tryz.pa (α:=Unit)) hz a b h0 h1 hr iq
def wZ(a:List z6)(zps:z6->z6->Option Int):Option (List z6):=
 (gb (u64 (a.length:Int))).bind fun b=>(kL a 0 (a.length:Int) b zps).bind fun c=>some c
theorem tV(Z:Zp)(b:Option Addr)(c:Nat)(zpt:FuncId)(zy6:List Value)(a:List z6)(zps:z6->z6->Option Int)(r:List z6)(h:wZ a zps=some r)(w₀:World)(hz:Pz [row (vs b a.length c) 225 4 (a.flatMap vF)] w₀ Z)(j:∀ args w,(callFunc zpt args).run Tryz.prog w = .ok (.enter zpt args) w)(k:∀ w:World,PZ [] w Z->∀(x0:z6) (x1:z6) (r:Int),zps x0 x1=some r->Calls Tryz.prog zpt (([.agg #[vi x0.yg.fN,vi x0.yg.fD,vi x0.fR.fN,vi x0.fR.fD],.agg #[vi x1.yg.fN,vi x1.yg.fD,vi x1.fR.fN,vi x1.fR.fD]]:List Value)++zy6).toArray w fun e w'=>e = .returned (vi r)/\Hp [] w w' [])(iq:Ho w₀ [row (vs b a.length c) 225 4 (a.flatMap vF)]):
  Calls Tryz.prog 224 #[vs b a.length c,.func (.func zpt) #[] (zy6).toArray] w₀ fun e w'=>e = .returned (.tuple #[])/\(r.length=a.length)/\Hp (fps [row (vs b a.length c) 225 4 (a.flatMap vF)]) w₀ w' [row (vs b r.length c) 225 4 (r.flatMap vF)]:=by
 unfold wZ at h
 refine Mf func224 ntmps224 iq ?_
 refine B1q U<|Le 6 (xK underlying227 U)<|Q1n U<|bK h fun d l h=>bK h fun f m h=>D3q U<|Le 10 (rN underlying3 underlying147 U U)<|Lp 11 (zb call57<|.cons U .nil) .nil (cc hz .nil fun w pz ho=>rV (Z:=_)  (zaY:=(u64 (a.length:Int))) (r:=d) w pz  l)<|La U<|WL.fy (dd:=13) U U U (zb call229<|.r5 U U U U U) (.cons .here .nil) (cc hz (.cons .here .nil) fun w pz ho=>sY (Z:=_) (zmK:=b) (zmL:=c) (zuC:=zpt) (zFV:=zy6) (z7A:=a) (zuA:=0) (zuB:=(a.length:Int)) (zpr:=d) (zmJ:=zps) (r:=f) w pz j k m ho) ?_
 rintro  g
 refine Mh (i:=0) U (u:=(vs b f.length c)) (px g.symm)<|WL.nil ?_
 obtain rfl:=oJ h
 exact WX.my results224 .nil<|fun w hw=>⟨pp,g.trans U,hw.sub (.cons .here .nil)⟩
def gO(a:List z6)(d:(List z6)->Option (List z6)):Nat->(List z6)->Int->Option (List z6)
 | 0,_,_=>none
 | f+1,c,b=>if decide (b<a.length) then vk (fun(g:List z6)=>gO a d f g (i64 (b+1))) fun e=>chk (0<=b/\b<a.length) ((qF c (⟨(⟨((nth a b).yg).fN,((nth a b).yg).fD⟩:z1),(⟨((nth a b).fR).fN,((nth a b).fR).fD⟩:z1)⟩:z6)).bind fun h=>(if !h then(vg a (fun(y0:z6)=>mB y0 (⟨(⟨((nth a b).yg).fN,((nth a b).yg).fD⟩:z1),(⟨((nth a b).fR).fN,((nth a b).fR).fD⟩:z1)⟩:z6))).bind fun i=>some (!i) else some false).bind fun j=>if j then chk ((((c++([(⟨(⟨((nth a b).yg).fN,((nth a b).yg).fD⟩:z1),(⟨((nth a b).fR).fN,((nth a b).fR).fD⟩:z1)⟩:z6)]:List z6)).length:Nat):Int)*32<=140737488355328/\(((c++([(⟨(⟨((nth a b).yg).fN,((nth a b).yg).fD⟩:z1),(⟨((nth a b).fR).fN,((nth a b).fR).fD⟩:z1)⟩:z6)]:List z6)).length:Nat):Int)<=4611686018427387904) (e (c++([(⟨(⟨((nth a b).yg).fN,((nth a b).yg).fD⟩:z1),(⟨((nth a b).fR).fN,((nth a b).fR).fD⟩:z1)⟩:z6)]:List z6))) else e c) else d c
def sx(a:List z6):Option (List z6):=
 vk (fun(b:List z6)=>(wZ b (fun(y0:z6) (y1:z6)=>uQ y0 y1)).bind fun c=>some c) fun d=>gO a d xC ([]:List z6) 0
theorem XP(Z:Zp)(s:Option Addr)(t:Nat)(b:List z6)(r:List z6)(h:sx b=some r)(w₀:World)(hz:PZ [] w₀ Z)(v:ZS Z 4 (rq vF) s t b):
  Calls Tryz.prog 212 #[vs s b.length t] w₀ fun e w'=>∃ x:Option Addr,∃ y:Nat,e = .returned (vs x r.length y)/\True/\Hp [] w₀ w' [row (vs x r.length y) 225 4 (r.flatMap vF)]:=by
 unfold sx at h
 refine L9 func212 ntmps212 ?_
 refine B1n U<|B1n U<|jK1 h fun z E h=>Md (fun(f:List z6) (k:Option Addr) (m:Nat)=>(z f=some r)) (fun f k m=>[(3,vs k f.length m)]) (fun f k m=>[row (vs k f.length m) 225 4 (f.flatMap vF)]) ?_ ?_
 ·let A:Value:=(vs s b.length t);let C:Value:=(vi (b.length:Int));refine B1q U<|Le 7 (xK underlying227 U)<|Q1n U<|WC.block<|WC.nilRow 225 4<|WC.fk (fun(p:Nat) (c:List z6) (a:Int) (g:Option Addr) (j:Nat)=>(gO b z p c a=some r)) (fun p c a g j=>[(0,A),(3,vs g c.length j),(6,A),(7,C),(8,vi a)]) (fun p c a g j=>[row (vs g c.length j) 225 4 (c.flatMap vF)]) (fun p c a g j=>p) ⟨xC,([]:List z6),0,none,0⟩ h (.q U) (.cons .here .nil) ?_
  rintro(_|T) c a g j h;·cases h
  rw[gO] at h
  refine B1n U<|WC.b<|Lk U h (fun F h=>?_)<|fun F h=>?_
  ·refine WC.skip<|Lb<|jK1 h fun V G h=>Md (fun(d:List z6) (n:Option Addr) (o:Nat)=>(V d=some r)) (fun d n o=>[(0,A),(3,vs n d.length o),(6,A),(7,C),(8,vi a)]) (fun d n o=>[row (vs n d.length o) 225 4 (d.flatMap vF)]) ?_ ?_
   ·refine WC.block<|WC.b<|cK h fun H h=>Ld<|L0 (dd:=10) U U (Z:=Z) (Pr:=(rq vF)) za5 U U v H ?_
    rintro Y aa I ab rfl
    refine Le 11 (xw z4c U (vQ hz.pv I) U) (Lg 5 (xG (cs:=[vi 0,vi 0,vi 0,vi 0]) zf9 U) fun J _=>Lo U U (xz zd6 U U U .here U U U)<|Q0n<|WC.b ?_)
    refine bK h fun ae K h=>bK h fun W D h=>D1q U<|Le 13 (xw z4c U (xy .here) U)<|Lp 14 (zb call221<|.r2 U U) .nil (sc hz .nil (.cons .h1 .nil) fun w pz ho la=>tU _ _ _ _ _ _ K w pz<|ZA.row (la _ (.head _) _) (RR.flat (enc:=vF) (fun _=>U) _) ⟨w,pz.1⟩)<|Q2q U<|Lx true 4 16 (B:=W) U U U U U U (fun h=>(oJ<|q8 D h).symm) (fun _ L=>?_) ?_
    ·have q:=q7 D L
     obtain⟨af,M,q⟩:=z8 q
     replace q:=oJ q
     exact La U<|Le 18 (wC<|L8 (l:=[.tmp 5])<|.cons U .nil)<|Lp 19 (zb call208<|.r2 U U) .nil (sc hz .nil (.cons .here .nil) fun w pz ho la=>gw _ _ _ (zmG:=222) (zup:=[vp J]) _ (zmF:=(fun(y0:z6)=>mB y0 (⟨(⟨((nth b a).yg).fN,((nth b a).yg).fD⟩:z1),(⟨((nth b a).fR).fN,((nth b a).fR).fD⟩:z1)⟩:z6))) _ M w pz (v.mono<|zl) call222<|fun w' iT y0  r  hr=>Yb _ _ _ _ _ hr w' iT<|(la _ (.head _) _).stb)<|Q2q U<|Ly q U U .all
    refine Q0n<|Lk U h (fun N h=>?_)<|fun N h=>?_
    ·refine cK h fun O h=>D1q U<|Le 23 (xw z4c U (xy .here) U) (Lg 24 (xU (cs:=([(⟨(⟨((nth b a).yg).fN,((nth b a).yg).fD⟩:z1),(⟨((nth b a).fR).fN,((nth b a).fR).fD⟩:z1)⟩:z6)]:List z6).flatMap vF) za5 (Lq (l:=[.tmp 23]) (.cons U .nil) [0]) (fun _=>by kernel_rfl) U (by unfold maxLen;omega)) fun ad _=>WL.fA 25 (vT (enc:=vF) (l1:=c) (l2:=([(⟨(⟨((nth b a).yg).fN,((nth b a).yg).fD⟩:z1),(⟨((nth b a).fR).fN,((nth b a).fR).fD⟩:z1)⟩:z6)]:List z6)) za5 U U .h2 (fun _=>U) U U (vL .here) (qR Vq _) O) ?_)
     rintro⟨P,Q⟩ _
     exact La U<|WL.nil<|Lt<|Ln ⟨c++([(⟨(⟨((nth b a).yg).fN,((nth b a).yg).fD⟩:z1),(⟨((nth b a).fR).fN,((nth b a).fR).fD⟩:z1)⟩:z6)]:List z6),P,Q⟩ h (.q U)<|.cons .here .nil
    ·exact WC.skip<|Lt<|Ln ⟨c,g,j⟩ h (.q U)<|.cons .h1 .nil
   ·rintro d n o h
    replace h:=(G d).symm.trans h
    exact D2q U<|WL.nil<|WX.round ⟨T,d,i64 (a+1),n,o⟩ h (Nat.lt_succ_self _) (.q U)<|.cons .here .nil
  ·exact WC.exit<|Lm<|Lm<|Lv<|Ln ⟨c,g,j⟩ h (.cons U .nil)<|.cons .here .nil
 ·rintro f k m h
  replace h:=(E f).symm.trans h
  refine WC.b<|bK h fun X R h=>D1q U<|WL.fy (dd:=28) U U U (zb call224<|.r2 U U) (.cons .here .nil) (cc hz (.cons .here .nil) fun w pz ho=>tV _ _ _ (zpt:=225) (zy6:=[]) _ (zps:=(fun(y0:z6) (y1:z6)=>uQ y0 y1)) _ R w pz call225 (fun w' iT y0 y1  r  hr=>Yc _ _ _ _ hr w' iT ) ho) ?_
  rintro  S
  refine Mh (i:=3) U (u:=(vs k X.length m)) (px S.symm)<|Q0n<|B2n U<|WC.ret ?_
  obtain rfl:=oJ h
  exact Li results212 (.tmp U .nil)<|fun w hw=>⟨k,m,xJ U,trivial,hw.sub (.cons .here .nil)⟩
def tI(a:List z6)(b:List z6):Option (List z6×List z6):=
 some (a,b)
theorem X3(Z:Zp)(a:Option Addr)(b:Nat)(c:Option Addr)(d:Nat)(f:List z6)(g:List z6)(r:List z6×List z6)(h:tI f g=some r)(w₀:World)(hz:PZ [] w₀ Z)(p:ZS Z 4 (rq vF) a b f)(q:ZS Z 4 (rq vF) c d g):
  Calls Tryz.prog 213 #[vs a f.length b,vs c g.length d] w₀ fun e w'=>∃ i:Nat,∃ j:Nat,∃ k:Option Addr,∃ m:Nat,∃ n:Option Addr,∃ o:Nat,e = .returned (.func (.func 226) #[] #[vp i,vp j])/\((ZS Z 4 (rq vF) k m r.1)/\(ZS Z 4 (rq vF) n o r.2))/\Hp [] w₀ w' [stb i 227 [vs k r.1.length m],stb j 227 [vs n r.2.length o]]:=by
 unfold tI at h
 refine L3 func213 ntmps213 ?_
 refine WC.b<|Ld (Lg 2 (xO (cs:=[vs a f.length b]) U U) fun s _=>Lg 3 (xO (cs:=[vs c g.length d]) U U) fun t _=>Q1n U<|B0q<|Le 5 (wC<|L8 (l:=[.tmp 2,.tmp 3])<|.r2 U U)<|Q1n U<|WC.ret ?_)
 obtain rfl:=oJ h
 exact Li results213 (.tmp U .nil)<|fun w hw=>⟨s,t,a,b,c,d,xJ U,⟨p,q⟩,hw.sub (.s2 .h1 .here)⟩
def ke(z1b:Type)(z3a:List z6)(z7B:(z6×z6)->z1b->Option (Bool×z1b))(z2s:List z6)(b:Int)(d:z1b->Option z1b):Nat->Int->z1b->Option z1b
 | 0,_,_=>none
 | f+1,a,e=>if decide (a<z3a.length) then chk (0<=a/\a<z3a.length) ((z7B ((⟨(⟨((nth z2s b).yg).fN,((nth z2s b).yg).fD⟩:z1),(⟨((nth z2s b).fR).fN,((nth z2s b).fR).fD⟩:z1)⟩:z6),(⟨(⟨((nth z3a a).yg).fN,((nth z3a a).yg).fD⟩:z1),(⟨((nth z3a a).fR).fN,((nth z3a a).fR).fD⟩:z1)⟩:z6)) e).bind fun c=>if !c.1 then some c.2 else ke z1b z3a z7B z2s b d f (i64 (a+1)) c.2) else d e
theorem lG{n:Nat}{z1b:Type}{z3a:List z6}{z7B:(z6×z6)->z1b->Option (Bool×z1b)}{z2s:List z6}{a:z1b->Option z1b}{b:z1b}{r:z1b}(h:ke z1b z3a z7B z2s f a n g b=some r):∃ m,n=m+1:=by
 cases n with
 | zero=>cases h
 | succ m=>exact⟨m,rfl⟩
def kf(z1b:Type)(z2s:List z6)(z3a:List z6)(z7B:(z6×z6)->z1b->Option (Bool×z1b))(b:z1b->Option z1b):Nat->Int->z1b->Option z1b
 | 0,_,_=>none
 | d+1,a,c=>if decide (a<z2s.length) then vk (fun(e:z1b)=>kf z1b z2s z3a z7B b d (i64 (a+1)) e) fun f=>chk (0<=a/\a<z2s.length) (vk (fun(g:z1b)=>f g) fun h=>ke z1b z3a z7B z2s a h xC 0 c) else b c
theorem lH{n:Nat}{z1b:Type}{z2s:List z6}{z3a:List z6}{z7B:(z6×z6)->z1b->Option (Bool×z1b)}{a:z1b->Option z1b}{b:z1b}{r:z1b}(h:kf z1b z2s z3a z7B a n f b=some r):∃ m,n=m+1:=by
 cases n with
 | zero=>cases h
 | succ m=>exact⟨m,rfl⟩
def me(z1b:Type)(z7B:(z6×z6)->z1b->Option (Bool×z1b))(zdr:z1b)(z2s:List z6)(z3a:List z6):Option z1b:=
 vk (fun(a:z1b)=>some a) fun b=>kf z1b z2s z3a z7B b xC 0 zdr
theorem am(Z:Zp)(z1b:Type)(zmP:Nat)(zcl:Type)(z9n:zcl->z1b->Asrt)(zg7:zcl->z1b->Prop)(zmQ:zcl)(zG2:Addr)(zmR:Option Addr)(zmS:Nat)(zmT:Addr)(zyc:Option Addr)(zyd:Nat)(z7B:(z6×z6)->z1b->Option (Bool×z1b))(zdr:z1b)(z2s:List z6)(z3a:List z6)(r:z1b)(w₀:World)(hz:Pz [z9n zmQ zdr] w₀ Z)(K:df Tryz.prog Z zmP (α:=z6×z6) (σ:=z1b) (G:=zcl) (H:=Unit) (fun h x=>[.agg #[vi x.1.yg.fN,vi x.1.yg.fD,vi x.1.fR.fN,vi x.1.fR.fD],.agg #[vi x.2.yg.fN,vi x.2.yg.fD,vi x.2.fR.fN,vi x.2.fR.fD]]) (fun h x=>[]) z7B z9n zg7)(L:zg7 zmQ zdr)(M:ZS Z 4 (rq vF) zmR zmS z2s)(N:ZC Z zG2 [vs zmR z2s.length zmS])(O:ZS Z 4 (rq vF) zyc zyd z3a)(P:ZC Z zmT [vs zyc z3a.length zyd])(h:me z1b z7B zdr z2s z3a=some r)(iq:Ho w₀ [z9n zmQ zdr]):
  Calls Tryz.prog 226 #[.func (.yield zmP) #[] #[],vq zG2,vq zmT] w₀ fun e w'=>∃ v:zcl,e = .returned (.tuple #[])/\(zg7 v r)/\Hp (fps [z9n zmQ zdr]) w₀ w' [z9n v r]:=by
 unfold me at h
 refine Calls.oh3 func226 ntmps226 iq ?_
 refine B0q<|Le 8 (xl zod U<|q9 hz.pv N U)<|Le 9 (xK underlying227 U)<|Q1n U<|jK1 h fun y Q h=>WC.iO (fun(m:z1b) (n:zcl)=>(y m=some r)/\(zg7 n m)) (fun m n=>[]) (fun m n=>[z9n n m]) ?_ ?_
 ·let A:Value:=(.func (.yield zmP) #[] #[]);let C:Value:=(vs zmR z2s.length zmS);let D:Value:=(vi (z2s.length:Int));refine WC.block<|WC.fj (fun(o:Nat) (a:Int) (i:z1b) (j:zcl)=>(kf z1b z2s z3a z7B y o a i=some r)/\(zg7 j i)) (fun o a i j=>[(0,A),(2,vq zmT),(8,C),(9,D),(10,vi a)]) (fun o a i j=>[z9n j i]) (fun o a i j=>o) ⟨xC,0,zdr,zmQ⟩ ⟨h,L⟩ (.q U) (.cons .here .nil) ?_
  rintro o a i j ⟨h,z⟩
  obtain⟨ah,rfl⟩:=lH h
  rw[kf] at h
  refine B1n U<|WC.b<|Lk U h (fun R h=>?_)<|fun R h=>?_
  ·refine WC.skip<|Lb<|jK1 h fun ai S h=>WC.jO (fun(k:z1b) (p:zcl)=>(ai k=some r)/\(zg7 p k)) (fun k p=>[(0,A),(2,vq zmT),(8,C),(9,D),(10,vi a)]) (fun k p=>[z9n p k]) ?_ ?_
   ·refine WC.block<|WC.b<|cK h fun T h=>Ld<|L0 (dd:=12) U U (Z:=Z) (Pr:=(rq vF)) za5 U U M T ?_
    rintro ak al V an rfl
    refine Le 13 (xw z4c U (vQ hz.pv V) U) (Lg 5 (xG (cs:=[vi 0,vi 0,vi 0,vi 0]) zf9 U) fun B _=>Lo U U (xz zd6 U U U .here U U U)<|Q0n<|B0q<|Le 14 (xl zod U<|q9 hz.pv P U)<|Le 15 (xK underlying227 U)<|Q1n U ?_)
    refine jK1 h fun E W h=>WC.iO (fun(l:z1b) (q:zcl)=>(E l=some r)/\(zg7 q l)) (fun l q=>[(0,A),(2,vq zmT),(8,C),(9,D),(10,vi a)]) (fun l q=>[z9n q l]) ?_ ?_
    ·refine WC.block<|WC.fj (fun(t:Nat) (c:Int) (d:z1b) (f:zcl)=>(ke z1b z3a z7B z2s a E t c d=some r)/\(zg7 f d)) (fun t c d f=>[(0,A),(2,vq zmT),(5,vp B),(8,C),(9,D),(10,vi a),(14,vs zyc z3a.length zyd),(15,vi (z3a.length:Int)),(16,vi c)]) (fun t c d f=>[stb B 225 [(vi<|((nth z2s a).yg).fN),(vi<|((nth z2s a).yg).fD),(vi<|((nth z2s a).fR).fN),(vi<|((nth z2s a).fR).fD)],z9n f d]) (fun t c d f=>t) ⟨xC,0,i,j⟩ ⟨h,z⟩ (.q U) (.a2) ?_
     rintro t c d f ⟨h,F⟩
     obtain⟨aj,rfl⟩:=lG h
     rw[ke] at h
     refine B1n U<|WC.b<|Lk U h (fun X h=>?_)<|fun X h=>?_
     ·refine WC.skip<|Lb<|WC.b<|WC.block<|WC.b<|cK h fun Y h=>Ld<|L0 (dd:=18) U U (Z:=Z) (Pr:=(rq vF)) za5 U U O Y ?_
      rintro ao ap aa aq rfl
      refine Le 19 (xw z4c U (vQ hz.pv aa) U) (Lg 7 (xG (cs:=[vi 0,vi 0,vi 0,vi 0]) zf9 U) fun ar _=>Lo U U (xz zd6 U U U .here U U U)<|Q0n<|WC.b ?_)
      refine bK h fun u ab h=>D1q U<|Le 21 (xw z4c U (xy .h1) U)<|Le 22 (xw z4c U (xy .here) U) (WL.yield (dd:=23) (x:=((⟨(⟨((nth z2s a).yg).fN,((nth z2s a).yg).fD⟩:z1),(⟨((nth z2s a).fR).fN,((nth z2s a).fR).fD⟩:z1)⟩:z6),(⟨(⟨((nth z3a c).yg).fN,((nth z3a c).yg).fD⟩:z1),(⟨((nth z3a c).fR).fN,((nth z3a c).fR).fD⟩:z1)⟩:z6))) (h:=()) (g:=f) (s:=d) (b:=u.1) (s':=u.2) K U U U (.q U) ((.cons .h2 .nil):Sel _ [z9n f d] _) ab F (fun w hw=>hz.call hw ((.cons .h2 .nil):Sel _ [z9n f d] _)) fun I J=>Q1n U<|Lk U h (fun ad h=>?_)<|fun ad h=>?_)
      ·refine WC.ret<|Lu<|Ll<|Ll<|Lu<|Ll<|Lu<|Ll<|Ll<|Lu<|Ll ?_
       obtain rfl:=oJ h
       exact Li results226 .nil<|fun w hw=>⟨I,pp,J,hw.sub (.cons .here .nil)⟩
      ·exact WC.skip<|Lt<|Lb<|D2q U<|WL.nil<|WX.round ⟨aj,i64 (c+1),u.2,I⟩ ⟨h,J⟩ (Nat.lt_succ_self _) (.q U)<|.s2 .h2 .here
     ·exact WC.exit<|Lm<|Lm<|Lv<|Ln ⟨d,f⟩ ⟨h,F⟩ (.q U)<|.cons .h1 .nil
    ·rintro l q ⟨h,ae⟩
     replace h:=(W l).symm.trans h
     exact Lt<|Ln ⟨l,q⟩ ⟨h,ae⟩ (.q U)<|.cons .here .nil
   ·rintro k p ⟨h,af⟩
    replace h:=(S k).symm.trans h
    exact D2q U<|WL.nil<|WX.round ⟨ah,i64 (a+1),k,p⟩ ⟨h,af⟩ (Nat.lt_succ_self _) (.q U)<|.cons .here .nil
  ·exact WC.exit<|Lm<|Lm<|Lv<|Ln ⟨i,j⟩ ⟨h,z⟩ .nil<|.cons .here .nil
 ·rintro m n ⟨h,ag⟩
  replace h:=(Q m).symm.trans h
  obtain rfl:=oJ h
  exact WX.my results226 .nil<|fun w hw=>⟨n,pp,ag,hw.sub (.cons .here .nil)⟩
def oO(a:z1)(b:z1):Option (Int×Int):=
 some (i64 ((i64 (a.fN*b.fD))-(i64 (b.fN*a.fD))),i64 (a.fD*b.fD))
theorem Qq(Z:Zp)(e:Addr)(f:Addr)(a:z1)(b:z1)(r:Int×Int)(h:oO a b=some r)(w₀:World)(hz:PZ [] w₀ Z)(c:ZC Z e [vi a.fN,vi a.fD])(d:ZC Z f [vi b.fN,vi b.fD]):
  RC 188 #[vq e,vq f] w₀ (.tuple #[vi r.1,vi r.2]) [] []:=by
 unfold oO at h
 refine L3 func188 ntmps188 ?_
 refine B2n U<|WC.b<|Lz nc [] U<|Lf 0 4 U (xk qO U U)<|Lh 1 5 U (xl xu U<|xM hz.pv c U)<|Lf 2 6 U (xk jq U U)<|Lh 3 7 U (xl xu U<|xM hz.pv d U)<|Lf 4 8 U (tk U U U)<|Lf 5 9 U (xk qO U U)<|Lh 6 10 U (xl xu U<|xM hz.pv d U)<|Lf 7 11 U (xk jq U U)<|Lh 8 12 U (xl xu U<|xM hz.pv c U)<|Lf 9 13 U (tk U U U)<|Lf 10 14 U (tj U U U)<|Lf 11 15 U (xk jq U U)<|Lh 12 16 U (xl xu U<|xM hz.pv c U)<|Lf 13 17 U (xk jq U U)<|Lh 14 18 U (xl xu U<|xM hz.pv d U)<|Lf 15 19 U (tk U U U)<|Lf 16 2 U (q_z U)<|Lf 17 3 U (q_z U)<|WD.done (by kernel_rfl)<|Lb<|WC.ret ?_
 obtain rfl:=oJ h
 exact Li results188 (.tmp U<|.tmp U .nil)<|fun w hw=>⟨wV U U,hw.sub .nil⟩
def o7(a:z1)(b:z1):Option (z1×Int):=
 (vR a).bind fun e=>(if !e then some true else(vR b).bind fun f=>some (!f)).bind fun g=>if g then some ((⟨0,0⟩:z1),2) else(oO a b).bind fun c=>(mw c.1 c.2).bind fun d=>some (d.1,d.2)
theorem J5(Z:Zp)(a:z1)(b:z1)(r:z1×Int)(h:o7 a b=some r)(w₀:World)(hz:PZ [] w₀ Z):
  RC 159 #[.string ⟨#[45]⟩,.agg #[vi a.fN,vi a.fD],.agg #[vi b.fN,vi b.fD]] w₀ (.tuple #[.agg #[vi r.1.fN,vi r.1.fD],vi r.2]) [] []:=by
 unfold o7 at h
 refine Me func159 ntmps159 ?_
 refine WC.b<|Ld (Lg 4 (xO (cs:=[vi a.fN,vi a.fD]) U U) fun d _=>Lg 5 (xO (cs:=[vi b.fN,vi b.fD]) U U) fun e _=>Lg 6 (xG (cs:=[vi 0,vi 0]) z1y U) fun s _=>Q1n U<|WC.b<|WC.b ?_)
 refine bK h fun u i h=>bK h fun f g h=>Ld<|Le 9 (xw zh U (xy .h2) U)<|Lp 10 (zb call130<|.cons U .nil) .nil (cc hz .nil fun w pz ho=>ja _ _ _ i w pz )<|Q2q U<|Lx false 3 12 (B:=f) U U U U U U (fun h=>(oJ<|q7 g h).symm) (fun _ j=>?_) ?_
 ·have c:=q8 g j
  obtain⟨y,m,c⟩:=z8 c
  replace c:=oJ c
  exact Le 13 (xw zh U (xy .h1) U)<|Lp 14 (zb call130<|.cons U .nil) .nil (cc hz .nil fun w pz ho=>ja _ _ _ m w pz )<|Q2q U<|Ly c U U .all
 refine La U<|Lx false 7 17 (B:=f) U U U U U U (fun h=>h) (fun _ n=>?_) ?_
 ·exact La U<|Le 19 (ew (r:=false) (by decide) U U)<|La U<|WL.e U U U<|WL.e U U U<|WL.e U U U<|Q2q U<|Ly (Eq.symm n) U U .all
 refine Q0n<|Lk U h (fun o h=>?_)<|fun o h=>?_
 ·refine B0q<|Le 26 (w3 (v:=(.agg #[vi 0,vi 0])) (Lq (l:=[]) .nil []) (fun _=>by kernel_rfl))<|Lo U U (xz zX U U U .here U U U)<|Q1n U<|WC.ret<|Ll ?_
  obtain rfl:=oJ h
  exact Li results159 (.agg U zh U (xy .here)<|.tmp U .nil)<|fun w hw=>⟨wV U U,hw.sub .nil⟩
 ·refine WC.skip<|Lb<|B0q<|Lg 27 (jN Value.string<|fun x=>x) ?_
  intro t _
  let A:Value:=(.func (.func 188) #[] #[vp d,vp e]);refine Le 28 (wC<|L8 (l:=[.tmp 4,.tmp 5])<|.r2 U U)<|Lo U U (kH (k:=⟨#[43]⟩) (v:=(.func (.func 187) #[] #[vp d,vp e])) gr underlying304 U U U U .here)<|Le 29 (wC<|L8 (l:=[.tmp 4,.tmp 5])<|.r2 U U)<|Lo U U (kH (k:=⟨#[45]⟩) (v:=A) gr underlying304 U U U U .here)<|Le 30 (wC<|L8 (l:=[.tmp 4,.tmp 5])<|.r2 U U)<|Lo U U (kH (k:=⟨#[42]⟩) (v:=(.func (.func 189) #[] #[vp d,vp e])) gr underlying304 U U U U .here)<|Le 31 (wC<|L8 (l:=[.tmp 4,.tmp 5])<|.r2 U U)<|Lo U U (kH (k:=⟨#[47]⟩) (v:=(.func (.func 190) #[] #[vp d,vp e])) gr underlying304 U U U U .here)<|Q2n U<|WC.b ?_
  refine bK h fun z p h=>bK h fun C q h=>D2q U<|Le 35 (eu (k:=⟨#[45]⟩) (dflt:=.nilFunc) (r:=A) gr underlying304 zx2 U U U .here (by rfl))<|Lp 36 (qW (l:=[]) call188 U .nil) .nil (sc hz .nil (.s2 .h3 .h2) fun w pz ho la=>Qq _ _ _ _ _ _ p w pz ((la _ (.head _) _).stb)<|(la _ (.tail _<|.head _) _).stb)<|Q2q U<|Lp 39 (zb call160<|.r2 U U) .nil (cc hz .nil fun w pz ho=>rX _ _ _ _ q w pz )<|Q2q U<|Lo U U (xz zX U U U .h1 U U U)<|Q1n U<|WC.ret ?_
  obtain rfl:=oJ h
  exact Li results159 (.agg U zh U (xy .here)<|.tmp U .nil)<|fun w hw=>⟨wV U U,hw.sub .nil⟩
def qG(b:z1)(c:z1):Option (z1×Int):=
 (o7 b c).bind fun a=>some (a.1,a.2)
theorem o8(Z:Zp)(a:z1)(b:z1)(r:z1×Int)(h:qG a b=some r)(w₀:World)(hz:PZ [] w₀ Z):
  RC 124 #[.agg #[vi a.fN,vi a.fD],.agg #[vi b.fN,vi b.fD]] w₀ (.tuple #[.agg #[vi r.1.fN,vi r.1.fD],vi r.2]) [] []:=by
 unfold qG at h
 refine L3 func124 ntmps124 ?_
 refine WC.b<|Ld (Lg 2 (xO (cs:=[vi a.fN,vi a.fD]) U U) fun d _=>Lg 3 (xO (cs:=[vi b.fN,vi b.fD]) U U) fun e _=>Lg 4 (xG (cs:=[vi 0,vi 0]) z1y U) fun f _=>Q1n U<|WC.b ?_)
 refine bK h fun g c h=>Ld<|Le 6 (xw zh U (xy .h2) U)<|Le 7 (xw zh U (xy .h1) U)<|Lp 8 (zb call159<|.r3 U U U) .nil (cc hz .nil fun w pz ho=>J5 _ _ _ _ c w pz )<|Q2q U<|Lo U U (xz zX U U U .here U U U)<|Q1n U<|WC.ret ?_
 obtain rfl:=oJ h
 exact Li results124 (.agg U zh U (xy .here)<|.tmp U .nil)<|fun w hw=>⟨wV U U,hw.sub .nil⟩
end Go.Proofs.YthjnhebofpebpaaGreat
