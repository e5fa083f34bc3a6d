/- A part of this claim's proof: models of functions, walks, plain laws. No conditions. -/
import Derived.Test.YthjnhebofpebpaaGreatW36wb
set_option linter.all false
namespace Go.Proofs.YthjnhebofpebpaaGreat
open Go Go.RowKit Sep Tryz
variable {f g:Int}{i:List (List zd)}{j:za}{k:zt}{l:List (za×Int)}{p:List (List z8)}{s:List (Int×List Int)}{t:List (zT×z1)}
set_option maxRecDepth 30000
set_option maxHeartbeats 4000000
def qD(b:List (List zd))(k:za)(d:zt)(g:List (za×Int))(o:(List (List z8))->Int->Int->(List (Int×List Int))->(List (zT×z1))->Option (List (List z8)×Int×Int×(List (zT×z1)))):Nat->(List (List z8))->Int->Int->Int->(List (Int×List Int))->(List (zT×z1))->Option (List (List z8)×Int×Int×(List (zT×z1)))
 | 0,_,_,_,_,_,_=>none
 | t+1,h,l,a,i,e,c=>if decide (a<b.length) then jp5 (fun(u:List (List z8)) (v:Int) (w:Int) (x:List (Int×List Int)) (y:List (zT×z1))=>qD b k d g o t u v (i64 (a+1)) w x y) fun p=>chk (0<=a/\a<b.length) ((wF (nth b a) (fun(y0:zd)=>kB y0 k)).bind fun z=>if !z then p h l i e c else chk (0<=a/\a<d.yb.length) (chk (0<=a/\a<d.yb.length) ((ql ((nth d.yb a).yo)).bind fun j=>jp5 (fun(A:List (List z8)) (B:Int) (C:List (Int×List Int)) (D:Int) (E:Int)=>p A (max l ((nth d.yb a).yo)) B C (xM c (⟨a,k⟩:zT) (⟨D,E⟩:z1))) fun q=>(gV (nth b a) k.ya).bind fun f=>if f.2 then(kQ f.1).bind fun r=>(jX d b c g i a).bind fun F=>(kQ f.1).bind fun G=>(ql (xp g G 0)).bind fun H=>(kg d b c g i (fun(y0:z1) (y1:z1)=>jy y0 y1) F H).bind fun s=>(kg d b c g s.2 (fun(y0:z1) (y1:z1)=>wL y0 y1) (⟨(xp c (⟨a,r⟩:zT) (⟨0,0⟩:z1)).fN,(xp c (⟨a,r⟩:zT) (⟨0,0⟩:z1)).fD⟩:z1) s.1).bind fun m=>chk ((((xp e f.1.fQ [])++([a]:List Int)).length:Int)*8<=140737488355328/\(((xp e f.1.fQ [])++([a]:List Int)).length:Int)<=4611686018427387904) (q h m.2 (xM e f.1.fQ ((xp e f.1.fQ [])++([a]:List Int))) m.1.fN m.1.fD) else(jX d b c g i a).bind fun n=>chk ((((h++([([(⟨j,n⟩:z8)]:List z8)]:List (List z8))).length:Nat):Int)*24<=140737488355328/\(((h++([([(⟨j,n⟩:z8)]:List z8)]:List (List z8))).length:Nat):Int)<=4611686018427387904) (q (h++([([(⟨j,n⟩:z8)]:List z8)]:List (List z8))) i e j.fN j.fD)))) else o h l i e c
theorem ra{n:Nat}{a:(List (List z8))->Int->Int->(List (Int×List Int))->(List (zT×z1))->Option (List (List z8)×Int×Int×(List (zT×z1)))}{b:Int}{r:List (List z8)×Int×Int×(List (zT×z1))}(h:qD i j k l a n p f g b s t=some r):∃ m,n=m+1:=by
 cases n with
 | zero=>cases h
 | succ m=>exact⟨m,rfl⟩
def qE(b:List (Int×List Int))(c:Int)(e:zt)(f:List (List zd))(d:List (zT×z1))(g:List (za×Int))(j:za)(k:Int->Int->Int->Int->Int->Int->Option (List (List z8)×Int×Int×(List (zT×z1)))):Nat->Int->Int->Int->Int->Int->Int->Int->Option (List (List z8)×Int×Int×(List (zT×z1)))
 | 0,_,_,_,_,_,_,_=>none
 | r+1,l,a,m,n,o,p,q=>if decide (a<((xp b c []).length:Int)) then chk (0<=a/\a<((xp b c []).length:Int)) ((kg e f d g m (fun(y0:z1) (y1:z1)=>wL y0 y1) (⟨n,o⟩:z1) (⟨(xp d (⟨nth (xp b c []) a,j⟩:zT) (⟨0,0⟩:z1)).fN,(xp d (⟨nth (xp b c []) a,j⟩:zT) (⟨0,0⟩:z1)).fD⟩:z1)).bind fun h=>(jX e f d g h.2 (nth (xp b c []) a)).bind fun s=>(kg e f d g h.2 (fun(y0:z1) (y1:z1)=>wL y0 y1) (⟨p,q⟩:z1) s).bind fun i=>chk (0<=(nth (xp b c []) a)/\(nth (xp b c []) a)<e.yb.length) (qE b c e f d g j k r (max l ((nth e.yb (nth (xp b c []) a)).yo)) (i64 (a+1)) i.2 h.1.fN h.1.fD i.1.fN i.1.fD)) else k l m n o p q
def qF(b:zt)(d:List (Int×List Int))(k:List (List zd))(l:List (zT×z1))(m:List (za×Int))(r:za)(n:(List (List z8))->Int->Option (List (List z8)×Int×Int×(List (zT×z1)))):Nat->(List (List z8))->Int->Int->Option (List (List z8)×Int×Int×(List (zT×z1)))
 | 0,_,_,_=>none
 | s+1,c,a,e=>if decide (a<b.fK.length) then si (fun(t:List (List z8)) (u:Int)=>qF b d k l m r n s t (i64 (a+1)) u) fun o=>if decide (((xp d a []).length:Int)=0) then o c e else(ql 0).bind fun p=>(ql 0).bind fun q=>jp6 (fun(v:Int) (w:Int) (f:Int) (g:Int) (h:Int) (i:Int)=>(ql v).bind fun j=>chk (0<=a/\a<b.fK.length) (chk ((((c++([([(⟨(⟨f,g⟩:z1),(⟨h,i⟩:z1)⟩:z8),(⟨j,(⟨1,(nth b.fK a).yp⟩:z1)⟩:z8)]:List z8)]:List (List z8))).length:Nat):Int)*24<=140737488355328/\(((c++([([(⟨(⟨f,g⟩:z1),(⟨h,i⟩:z1)⟩:z8),(⟨j,(⟨1,(nth b.fK a).yp⟩:z1)⟩:z8)]:List z8)]:List (List z8))).length:Nat):Int)<=4611686018427387904) (o (c++([([(⟨(⟨f,g⟩:z1),(⟨h,i⟩:z1)⟩:z8),(⟨j,(⟨1,(nth b.fK a).yp⟩:z1)⟩:z8)]:List z8)]:List (List z8))) w))) fun x=>qE d a b k l m r x xI 0 0 e p.fN p.fD q.fN q.fD else n c e
theorem rd{n:Nat}{a:(List (List z8))->Int->Option (List (List z8)×Int×Int×(List (zT×z1)))}{r:List (List z8)×Int×Int×(List (zT×z1))}(h:qF k s i t l j a n p f g=some r):∃ m,n=m+1:=by
 cases n with
 | zero=>cases h
 | succ m=>exact⟨m,rfl⟩
def g5(f:zt)(c:List (List zd))(h:List (zT×z1))(d:List (za×Int))(i:Int)(g:za):Option (List (List z8)×Int×Int×(List (zT×z1))):=
 jp5 (fun(a:List (List z8)) (j:Int) (k:Int) (l:List (Int×List Int)) (e:List (zT×z1))=>si (fun(b:List (List z8)) (m:Int)=>chk (((a++b).length:Int)*24<=140737488355328/\((a++b).length:Int)<=4611686018427387904) (some (a++b,j,m,e))) fun n=>qF f l c e d g n xI ([]:List (List z8)) 0 k) fun o=>qD c g f d o xI ([]:List (List z8)) 0 0 i ([]:List (Int×List Int)) h
theorem im(Z:Zp)(o:Nat)(bd:Option Addr)(be:Nat)(bf:Option Addr)(bg:Nat)(bh:Option Addr)(bi:Nat)(bj:Option Addr)(bk:Nat)(bl:Option Addr)(bm:Nat)(bn:Option Addr)(bo:Nat)(bp:Option Addr)(bq:Nat)(br:Option Addr)(bs:Nat)(bt:Option Addr)(bu:Nat)(g:Nat)(m:Nat)(a:zt)(ag:List (List zd))(bv:List (zT×z1))(p:List (za×Int))(bw:Int)(T:za)(r:List (List z8)×Int×Int×(List (zT×z1)))(h:g5 a ag bv p bw T=some r)(w₀:World)(hz:Pz [stb o 119 [vs bd a.fM.length be,vs bf a.yd.length bg,vs bh a.fS.length bi,vs bj a.fK.length bk,vs bl a.yb.length bm,vs bn a.fH.length bo,vs bp a.fU.length bq,vs br a.yc.length bs,vs bt ag.length bu,.map (some g),.map (some m),vi bw],xy g (ga qu) (ga xG) bv,xy m (ga xL) vI p] w₀ Z)(aS:ZS Z 4 (ju Z) bd be a.fM)(aT:ZS Z 4 (kv Z) bf bg a.yd)(aU:ZS Z 4 (rq qJ) bh bi a.fS)(aK:ZS Z 4 (rq qt) bj bk a.fK)(aq:ZS Z 7 (vK Z) bl bm a.yb)(aV:ZS Z 5 (rq kK) bn bo a.fH)(aW:ZS Z 3 (kw Z) bp bq a.fU)(aX:ZS Z 4 (rq kL) br bs a.yc)(aL:ZS Z 1 (wT Z) bt bu ag)(fh:Ho w₀ [stb o 119 [vs bd a.fM.length be,vs bf a.yd.length bg,vs bh a.fS.length bi,vs bj a.fK.length bk,vs bl a.yb.length bm,vs bn a.fH.length bo,vs bp a.fU.length bq,vs br a.yc.length bs,vs bt ag.length bu,.map (some g),.map (some m),vi bw],xy g (ga qu) (ga xG) bv,xy m (ga xL) vI p]):
  Calls Tryz.prog 79 #[vp o,.agg #[vi T.ya,vi T.fQ]] w₀ fun e w'=>∃ Zn:Zp,∃ cc:Option Addr,∃ cd:Nat,∃ ce:List Value,e = .returned (.tuple #[vs cc r.1.length cd,vi r.2.1])/\(RR 1 (qB (Z++Zn)) ce r.1)/\Hp (fps [stb o 119 [vs bd a.fM.length be,vs bf a.yd.length bg,vs bh a.fS.length bi,vs bj a.fK.length bk,vs bl a.yb.length bm,vs bn a.fH.length bo,vs bp a.fU.length bq,vs br a.yc.length bs,vs bt ag.length bu,.map (some g),.map (some m),vi bw],xy g (ga qu) (ga xG) bv,xy m (ga xL) vI p]) w₀ w' [fz Zn,row (vs cc r.1.length cd) 227 1 ce,stb o 119 [vs bd a.fM.length be,vs bf a.yd.length bg,vs bh a.fS.length bi,vs bj a.fK.length bk,vs bl a.yb.length bm,vs bn a.fH.length bo,vs bp a.fU.length bq,vs br a.yc.length bs,vs bt ag.length bu,.map (some g),.map (some m),vi r.2.2.1],xy g (ga qu) (ga xG) r.2.2.2,xy m (ga xL) vI p]:=by
 unfold g5 at h
 refine Kd func79 ntmps79 fh ?_
 let O:List Value:=[vi T.ya,vi T.fQ];refine WC.pool<|B0q<|Lg 3 (xP (cs:=O) U U) ?_
 intro q _
 refine Q2n U<|B2n U<|B0q<|Lg 20 (je vI<|slv (α:=Int)) ?_
 intro y _
 let C:Value:=(vs bt ag.length bu);let E:Value:=(vs bd a.fM.length be);let F:Value:=(vs bf a.yd.length bg);let G:Value:=(vs bh a.fS.length bi);let H:Value:=(vs bj a.fK.length bk);let I:Value:=(vs bl a.yb.length bm);let J:Value:=(vs bn a.fH.length bo);let K:Value:=(vs bp a.fU.length bq);let L:Value:=(vs br a.yc.length bs);refine WL.ghL (M:=[vT (vF 3 1 e3) ([]:List (Int×((Nat×(Option Addr×Nat))×List Int))),xy y vI slv (qs ([]:List (Int×((Nat×(Option Addr×Nat))×List Int)))),stb q 121 O,fz [],stb o 119 [E,F,G,H,I,J,K,L,C,(.map<|some g),(.map<|some m),vi bw],xy g (ga qu) (ga xG) bv,xy m (ga xL) vI p]) (fun _ h=>Hp.da (vF 3 1 e3) h)<|Q1n U<|B1n U ?_
 refine jK5 h fun cf cr h=>WC.o7 (fun(an:List (List z8)) (ao:Int) (aY:Int) (B:List (Int×List Int)) (ah:List (zT×z1)) (aB:Zp) (bx:Option Addr) (bz:Nat) (aj:List Value) (X:List (Int×((Nat×(Option Addr×Nat))×List Int)))=>(cf an ao aY B ah=some r)/\(xm (Z++[]) (Z++aB))/\(RR 1 (qB (Z++aB)) aj an)/\(tT X=B)) (fun an ao aY B ah aB bx bz aj X=>[(0,vp o),(3,vp q),(6,vs bx an.length bz),(7,vn),(8,(.map<|some y)),(9,vi ao)]) (fun an ao aY B ah aB bx bz aj X=>[fz aB,row (vs bx an.length bz) 227 1 aj,stb o 119 [E,F,G,H,I,J,K,L,C,(.map<|some g),(.map<|some m),vi aY],stb q 121 O,xy y vI slv (qs X),vT (vF 3 1 e3) X,xy g (ga qu) (ga xG) ah,xy m (ga xL) vI p]) ?_ ?_
 ·refine B1q U<|Le 22 (wx U)<|Le 23 (xk WR U U)<|Le 24 (xl zJa U<|xu .h4 U)<|Le 25 (xQ underlying32 U)<|Q1n U<|WC.block<|WC.nilRow 227 1<|WC.XF (fun(bA:Nat) (V:List (List z8)) (ar:Int) (n:Int) (aC:Int) (z:List (Int×List Int)) (ak:List (zT×z1)) (t:Zp) (au:Option Addr) (av:Nat) (al:List Value) (ai:List (Int×((Nat×(Option Addr×Nat))×List Int)))=>(qD ag T a p cf bA V ar n aC z ak=some r)/\(xm (Z++[]) (Z++t))/\(RR 1 (qB (Z++t)) al V)/\(tT ai=z)) (fun bA V ar n aC z ak t au av al ai=>[(0,vp o),(3,vp q),(6,vs au V.length av),(7,vn),(8,(.map<|some y)),(9,vi ar),(24,C),(25,vi (ag.length:Int)),(26,vi n)]) (fun bA V ar n aC z ak t au av al ai=>[fz t,row (vs au V.length av) 227 1 al,stb o 119 [E,F,G,H,I,J,K,L,C,(.map<|some g),(.map<|some m),vi aC],stb q 121 O,xy y vI slv (qs ai),vT (vF 3 1 e3) ai,xy g (ga qu) (ga xG) ak,xy m (ga xL) vI p]) (fun bA V ar n aC z ak t au av al ai=>bA) ⟨xI,([]:List (List z8)),0,0,bw,([]:List (Int×List Int)),bv,[],none,0,[],([]:List (Int×((Nat×(Option Addr×Nat))×List Int)))⟩ ⟨h,xm.refl _,RR.nil _ _,U⟩ (.q U) (.s8 .h4 .here .h3 .h2 .h1 .here .here .here) ?_
  rintro bA V ar n aC z ak t au av al ai ⟨h,b,b0,bS⟩
  obtain⟨ct,rfl⟩:=ra h
  rw[qD] at h
  refine B1n U<|WC.b<|Lj U h (fun cu h=>?_)<|fun cu h=>?_
  ·refine WC.skip<|Lb<|jK5 h fun cv cw h=>WC.o7 (fun(aD:List (List z8)) (aZ:Int) (a0:Int) (a1:List (Int×List Int)) (a2:List (zT×z1)) (a3:Zp) (bB:Option Addr) (bC:Nat) (bD:List Value) (a4:List (Int×((Nat×(Option Addr×Nat))×List Int)))=>(cv aD aZ a0 a1 a2=some r)/\(xm (Z++t) (Z++a3))/\(RR 1 (qB (Z++a3)) bD aD)/\(tT a4=a1)) (fun aD aZ a0 a1 a2 a3 bB bC bD a4=>[(0,vp o),(3,vp q),(6,vs bB aD.length bC),(7,vn),(8,(.map<|some y)),(9,vi aZ),(24,C),(25,vi (ag.length:Int)),(26,vi n)]) (fun aD aZ a0 a1 a2 a3 bB bC bD a4=>[fz a3,row (vs bB aD.length bC) 227 1 bD,stb o 119 [E,F,G,H,I,J,K,L,C,(.map<|some g),(.map<|some m),vi a0],stb q 121 O,xy y vI slv (qs a4),vT (vF 3 1 e3) a4,xy g (ga qu) (ga xG) a2,xy m (ga xL) vI p]) ?_ ?_
   ·refine WC.block<|WC.b<|cK h fun cx h=>D1q U<|L2 (dd:=29) U U (Z:=(Z++t)) (Pr:=(wT (Z++t))) z4O U U ((aL.mono<|zl.trans b).weak (fun _ _ h=>wd (zl.trans b) h)) cx ?_
    rintro dN dO cy dP ⟨dQ,dR,rfl,cg⟩
    refine Le 30 (xl z9h U<|jS (hz.pv2 .here) cy U)<|Q2n U<|WC.b<|WC.b<|bK h fun eg cz h=>D1q U<|Le 32 (wq<|L4 (l:=[.tmp 3])<|.cons U .nil)<|Lm 33 (zf call75<|.r2 U U) .nil (ta hz .nil .here (.cons .h3 .nil) fun w pz ho la=>mJ _ _ _ (zj9:=117) (zpL:=[vp q]) _ (zj8:=(fun(y0:zd)=>kB y0 T)) _ cz w pz (cg.mono<|zl) call117<|fun w' il y0  r  hr=>oL _ _ _ _ _ hr w' il<|(la _ (.head _) _).stb)<|Q1n U<|Lj U h (fun cA h=>?_)<|fun cA h=>?_
    ·exact WC.exit<|Ln<|Lx<|Lp ⟨V,ar,aC,z,ak,t,au,av,al,ai⟩ ⟨h,xm.refl _,b0,bS⟩ (.q U)<|.a8
    ·refine WC.skip<|Lb<|WC.b<|cK h fun cB h=>D2q U<|Le 37 (wx U)<|Le 38 (xk md U U)<|Le 39 (xk jK U U)<|Le 40 (xl z6n U<|xu .h2 U)<|La U<|L2 (dd:=42) U U (Z:=(Z++t)) (Pr:=(vK (Z++t))) z75 U U ((aq.mono<|zl.trans b).weak (fun _ _ h=>wh (zl.trans b) h)) cB ?_
     rintro dS dT cC dU ⟨dV,dW,rfl,dX⟩
     refine Le 43 (xk fj U U)<|Le 44 (xl xB U<|wy (hz.pv2 .here) cC U)<|Le 45 (l5 U U U)<|Q1n U<|WC.b<|cK h fun cD h=>bK h fun Y cE h=>D1q U<|Le 47 (wx U)<|Le 48 (xk md U U)<|Le 49 (xk jK U U)<|Le 50 (xl z6n U<|xu .h2 U)<|La U<|L2 (dd:=52) U U (Z:=(Z++t)) (Pr:=(vK (Z++t))) z75 U U ((aq.mono<|zl.trans b).weak (fun _ _ h=>wh (zl.trans b) h)) cD ?_
     rintro dY dZ cF d0 ⟨d1,d2,rfl,d3⟩
     refine Le 53 (xk fj U U)<|Le 54 (xl xB U<|wy (hz.pv2 .here) cF U)<|Lm 55 (zf call80<|.cons U .nil) .nil (jH hz .nil .here fun w pz ho=>gF _ _ _ cE w pz ) (Lg 12 (xC (cs:=[vi 0,vi 0]) z1d U) fun b1 _=>Lk U U (xx zI U U U .here U U U)<|Q0n ?_)
     refine jK5 h fun cG cH h=>WC.o7 (fun(aE:List (List z8)) (a5:Int) (a6:List (Int×List Int)) (aM:Int) (aN:Int) (a7:Zp) (bE:Option Addr) (bF:Nat) (bG:List Value) (a8:List (Int×((Nat×(Option Addr×Nat))×List Int)))=>(cG aE a5 a6 aM aN=some r)/\(xm (Z++t) (Z++a7))/\(RR 1 (qB (Z++a7)) bG aE)/\(tT a8=a6)) (fun aE a5 a6 aM aN a7 bE bF bG a8=>[(0,vp o),(3,vp q),(6,vs bE aE.length bF),(7,vn),(8,(.map<|some y)),(9,(vi<|max ar<|(nth a.yb n).yo)),(10,vi n),(12,vp b1),(24,C),(25,vi (ag.length:Int)),(26,vi n)]) (fun aE a5 a6 aM aN a7 bE bF bG a8=>[fz a7,row (vs bE aE.length bF) 227 1 bG,stb o 119 [E,F,G,H,I,J,K,L,C,(.map<|some g),(.map<|some m),vi a5],stb q 121 O,xy y vI slv (qs a8),vT (vF 3 1 e3) a8,stb b1 175 [vi aM,vi aN],xy g (ga qu) (ga xG) ak,xy m (ga xL) vI p]) ?_ ?_
     ·refine WC.b<|bK h fun x cI h=>D1q U<|Le 58 (xk sE U U)<|Le 59 (xl xB U<|xu .h4 U)<|Lm 60 (zf call77<|.r2 U U) .nil (jH hz .nil .h1 fun w pz ho=>pl _ _ _ _ _ _ cI w pz cg)<|Q2q U<|La U (Lg 13 (xC (cs:=[vi 0,vi 0,vi 0]) zc0 U) fun b9 _=>Lk U U (xx zaG U U U .here U U U)<|Q1n U<|B1n U<|Lj U h (fun cJ h=>?_)<|fun cJ h=>?_)
      ·refine WC.b ?_
       obtain⟨bT,cL,h⟩:=ze h
       obtain⟨eh,cM,h⟩:=ze h
       obtain⟨cN,cO,h⟩:=ze h
       obtain⟨ei,cP,h⟩:=ze h
       obtain⟨ej,cQ,h⟩:=ze h
       obtain⟨bH,cR,h⟩:=ze h
       let S:List Value:=[vi x.1.ya,vi x.1.yh,vi x.1.fQ];refine Lw (fun i=>[13,22,23,24].contains i) [uE o 119 [(9,(.map<|some g)),(10,(.map<|some m))],db g (ga qu) (ga xG) (⟨n,bT⟩:zT) ((⟨0,0⟩:z1):z1) (xp ak (⟨n,bT⟩:zT) (⟨0,0⟩:z1)),stb b9 60 S] U<|Lf 0 64 U (q_m U)<|Lf 1 65 U (q_m U)<|Lf 2 66 U (wx U)<|Lf 3 67 U (xk bI U U)<|L6 4 68 U (ws.wk (.s3 .h4 .h7 .here)<|.stb (.cons U<|.cons U .nil)<|.any U (fun _ h=>uF h)<|.same .nil) (xl zsR U<|gQ .here<|.head _)<|Lf 5 69 U (q_m U)<|Li 6 70 U (xq z5R U (xt .here) U)<|L5 7 71 U (zf call60<|.cons U .nil) (jH hz .nil .h2 fun w pz ho=>fu _ _ _ cL w pz )<|Lf 8 72 U (xU (v:=(.agg #[vi n,vi bT.ya,vi bT.fQ])) (Lq (l:=[.tmp 69,.tmp 71]) (.r2 U U) [0,1]) (fun _=>by kernel_rfl))<|L6 9 73 U (ws.wk (.s3 .h4 .h7 .here)<|.stb (.cons U<|.cons U .nil)<|.any U (fun _ h=>uF h)<|.same .nil) (eP (k:=(⟨n,bT⟩:zT)) (dflt:=((⟨0,0⟩:z1):z1)) zsT underlying116 z1d U U U .h1)<|Lf 10 74 U (q_m U)<|Lf 11 75 U (q_m U)<|Lf 12 76 U (q_m U)<|Lf 14 78 U (q_m U)<|Lf 15 79 U (wx U)<|Lf 16 80 U (xk bJ U U)<|L6 17 81 U (ws.wk (.s3 .h4 .h7 .here)<|.stb (.cons U<|.cons U .nil)<|.any U (fun _ h=>uF h)<|.same .nil) (xl zlO U<|gQ .here<|.tail _<|.head _)<|L6 18 82 U (ws.wk (.s3 .h4 .h7 .here)<|.stb (.cons U<|.cons U .nil)<|.any U (fun _ h=>uF h)<|.same .nil) (xq z5R U (xt .h2) U)<|WD.call0 (i:=13) (dd:=77) U (by kernel_rfl) U U U (.inl ⟨U,(by exact(ws.wk (.s3 .h6 .here .h1)<|.stb (.cons U<|.cons U .nil)<|.any U (fun _ h=>uF h)<|.same .nil))⟩) (zf call121<|.r2 U U) (.s2 (.there .h7)<|.there .h7) (ta hz (.s2 (.there .h7)<|.there .h7) .h2 (.cons .h4 .nil) fun w pz ho la=>Calls.mono (td _ _ _ _ _ _ _ _ _ _ _ _ _ _ _ _ _ _ _ _ _ _ _ _ _ _ _ _ _ cM w pz ((((aS.mono<|zl.trans b).weak (fun _ _ h=>w3 (zl.trans b) h)).mono zl).weak (fun _ _ h=>w3 zl h)) ((((aT.mono<|zl.trans b).weak (fun _ _ h=>w9 (zl.trans b) h)).mono zl).weak (fun _ _ h=>w9 zl h)) ((aU.mono<|zl.trans b).mono zl) ((aK.mono<|zl.trans b).mono zl) ((((aq.mono<|zl.trans b).weak (fun _ _ h=>wh (zl.trans b) h)).mono zl).weak (fun _ _ h=>wh zl h)) ((aV.mono<|zl.trans b).mono zl) ((((aW.mono<|zl.trans b).weak (fun _ _ h=>wa (zl.trans b) h)).mono zl).weak (fun _ _ h=>wa zl h)) ((aX.mono<|zl.trans b).mono zl) ((((aL.mono<|zl.trans b).weak (fun _ _ h=>wd (zl.trans b) h)).mono zl).weak (fun _ _ h=>wd zl h)) ((la _ (.head _) _).stb) ho)<|fun _ _ h'=>⟨h'.1,trivial,h'.2⟩) ?_
       intro _
       refine L5 19 83 U (zf call60<|.cons U .nil) (jH hz .nil .h4 fun w pz ho=>fu _ _ _ cO w pz )<|Li 20 84 U (qz (k:=cN) (dflt:=(0:Int)) ze3 underlying117 qk U U U .h1)<|L5 21 85 U (zf call80<|.cons U .nil) (jH hz .nil .h4 fun w pz ho=>gF _ _ _ cP w pz ) (WD.call0 (i:=22) (dd:=86) U (by kernel_rfl) U U U (.inl ⟨U,(by exact(ws.wk (.s3 .here .here .h1)<|.stb (.cons U<|.cons U .nil)<|.any U (fun _ h=>uF h)<|.same .nil))⟩) (zf call118<|.r4 U U U U) (.s3 .h6 .here .here) (jH hz (.s3 .h6 .here .here) .h2 fun w pz ho=>Calls.mono (uq _ _ _ _ _ _ _ _ _ _ _ _ _ _ _ _ _ _ _ _ _ _ (zcA:=120) (zgC:=[]) _ _ _ _ _ (zes:=(fun(y0:z1) (y1:z1)=>jy y0 y1)) _ _ _ cQ w pz ((aS.mono<|zl.trans b).weak (fun _ _ h=>w3 (zl.trans b) h)) ((aT.mono<|zl.trans b).weak (fun _ _ h=>w9 (zl.trans b) h)) (aU.mono<|zl.trans b) (aK.mono<|zl.trans b) ((aq.mono<|zl.trans b).weak (fun _ _ h=>wh (zl.trans b) h)) (aV.mono<|zl.trans b) ((aW.mono<|zl.trans b).weak (fun _ _ h=>wa (zl.trans b) h)) (aX.mono<|zl.trans b) ((aL.mono<|zl.trans b).weak (fun _ _ h=>wd (zl.trans b) h)) call120 (fun w' il y0 y1  r  hr=>iP _ _ _ _ hr w' il ) ho)<|fun _ _ h'=>⟨h'.1,trivial,h'.2⟩) fun _=>WD.call0 (i:=23) (dd:=87) U (by kernel_rfl) U U U (.inl ⟨U,(by exact(ws.wk (.s3 .here .here .h1)<|.stb (.cons U<|.cons U .nil)<|.any U (fun _ h=>uF h)<|.same .nil))⟩) (zf call118<|.r4 U U U U) (.a3) (jH hz (.a3) .h2 fun w pz ho=>Calls.mono (uq _ _ _ _ _ _ _ _ _ _ _ _ _ _ _ _ _ _ _ _ _ _ (zcA:=119) (zgC:=[]) _ _ _ _ _ (zes:=(fun(y0:z1) (y1:z1)=>wL y0 y1)) _ _ _ cR w pz ((aS.mono<|zl.trans b).weak (fun _ _ h=>w3 (zl.trans b) h)) ((aT.mono<|zl.trans b).weak (fun _ _ h=>w9 (zl.trans b) h)) (aU.mono<|zl.trans b) (aK.mono<|zl.trans b) ((aq.mono<|zl.trans b).weak (fun _ _ h=>wh (zl.trans b) h)) (aV.mono<|zl.trans b) ((aW.mono<|zl.trans b).weak (fun _ _ h=>wa (zl.trans b) h)) (aX.mono<|zl.trans b) ((aL.mono<|zl.trans b).weak (fun _ _ h=>wd (zl.trans b) h)) call119 (fun w' il y0 y1  r  hr=>uJ _ _ _ _ hr w' il ) ho)<|fun _ _ h'=>⟨h'.1,trivial,h'.2⟩) ?_)
       intro _
       refine WD.jf (i:=24) U (by kernel_rfl) U U U (by kernel_rfl) (xx zI U U U .h4 U U U)<|WD.done (by kernel_rfl)<|Lb<|cK h fun cS h=>Lw (fun i=>[9,10].contains i) [uE b9 60 [(2,vi x.1.fQ)]] U<|Lf 0 88 U (q_m U)<|Lf 1 89 U (xk tJ U U)<|L6 2 90 U (ws.wk (.cons .h4 .nil)<|.stb (.cons U .nil) .nil) (xl xB U<|gQ .here<|.head _)<|Lf 3 91 U (q_m U)<|Lf 4 92 U (xk tJ U U)<|Li 5 93 U (xl xB U<|xu .h4 U)<|Li 6 94 U (qz (k:=x.1.fQ) (dflt:=(((none,0),[]):(Option Addr×Nat)×List Int)) jR underlying219 zsU U U U<|.there .h7)<|WD.gh (fun _ h=>Hp.pU x.1.fQ bS (.there<|.there .h7) h) ?_
       rintro⟨cT,cU⟩ cV
       refine WD.repin (i:=94) U (u:=(vs cT ((xp z x.1.fQ []).length) cU)) (congrArg slv cV)<|Lf 7 95 U (q_m U) (WD.new (i:=8) (dd:=96) U (by kernel_rfl) U U U (xV (cs:=([n]:List Int).flatMap e3) z8g (Lq (l:=[.tmp 95]) (.cons U .nil) [0]) (fun _=>by kernel_rfl) U (by unfold maxLen;omega)) (fun h'=>absurd h' (by decide)) fun cW _=>WD.old (i:=9) (dd:=97) U (by kernel_rfl) U U U U (fun _=>(ws.wk (.cons .h7 .nil)<|.stb (.cons U .nil) .nil)) (kZ (enc:=e3) (l1:=xp z x.1.fQ []) (l2:=([n]:List Int)) z8g U U .h1 (fun _=>U) U U (qg .here) (gr Vl _) cS) ?_)
       rintro⟨b2,b3⟩ _
       exact WD.jf (i:=10) U (by kernel_rfl) U U U (by kernel_rfl) (jE (k:=x.1.fQ) (v:=(((b2,b3),(xp z x.1.fQ [])++([n]:List Int)):(Option Addr×Nat)×List Int)) jR underlying219 U U U U<|.there<|.there<|.there<|.there .h7)<|WD.ghL (fun _ h=>Hp.df (k:=x.1.fQ) (.s2 .h1 .h2) h)<|WD.ghL (M:=[xy y vI slv (qs<|xM ai x.1.fQ ((0,(b2,b3)),(xp z x.1.fQ [])++([n]:List Int))),vT (vF 3 1 e3) (xM ai x.1.fQ ((0,(b2,b3)),(xp z x.1.fQ [])++([n]:List Int))),row (vs (some ⟨cW,0,none⟩) (([n]:List Int).length) 1) 3 1 (([n]:List Int).flatMap e3),stb b1 175 [vi bH.1.fN,vi bH.1.fD],stb o 119 [E,F,G,H,I,J,K,L,C,(.map<|some g),(.map<|some m),vi bH.2],xy g (ga qu) (ga xG) ak,xy m (ga xL) vI p,stb b9 60 S,fz t,row (vs au V.length av) 227 1 al,stb q 121 O]) (fun _ h=>Hp.nR .h1 (iM _ _ _ _).symm h)<|WD.done (by kernel_rfl)<|Lp ⟨V,bH.2,xM z x.1.fQ ((xp z x.1.fQ [])++([n]:List Int)),bH.1.fN,bH.1.fD,t,au,av,al,xM ai x.1.fQ ((0,(b2,b3)),(xp z x.1.fQ [])++([n]:List Int))⟩ ⟨h,xm.refl _,b0,nQ bS _ _ _⟩ (.q U)<|.s9 (.there .h7) (.there .h7) .h4 .h7 .here .here .h1 .h1 .h1
      ·refine bK h fun aw cX h=>cK h fun cY h=>Lw (fun i=>[4,8].contains i) [stb b1 175 [vi Y.fN,vi Y.fD]] U<|Lf 0 98 U (q_m U)<|L6 1 99 U (ws.of<|.cons .h1 .nil) (xq zi U (xt .here) U)<|Lf 2 100 U (q_m U)<|Lf 3 101 U (q_m U) (WD.call0 (i:=4) (dd:=102) U (by kernel_rfl) U U U (.inl ⟨U,(ws.of<|.cons .h3 .nil)⟩) (zf call121<|.r2 U U) (.s2 (.there .h7)<|.there .h7) (ta hz (.s2 (.there .h7)<|.there .h7) .h2 (.cons .h4 .nil) fun w pz ho la=>Calls.mono (td _ _ _ _ _ _ _ _ _ _ _ _ _ _ _ _ _ _ _ _ _ _ _ _ _ _ _ _ _ cX w pz ((((aS.mono<|zl.trans b).weak (fun _ _ h=>w3 (zl.trans b) h)).mono zl).weak (fun _ _ h=>w3 zl h)) ((((aT.mono<|zl.trans b).weak (fun _ _ h=>w9 (zl.trans b) h)).mono zl).weak (fun _ _ h=>w9 zl h)) ((aU.mono<|zl.trans b).mono zl) ((aK.mono<|zl.trans b).mono zl) ((((aq.mono<|zl.trans b).weak (fun _ _ h=>wh (zl.trans b) h)).mono zl).weak (fun _ _ h=>wh zl h)) ((aV.mono<|zl.trans b).mono zl) ((((aW.mono<|zl.trans b).weak (fun _ _ h=>wa (zl.trans b) h)).mono zl).weak (fun _ _ h=>wa zl h)) ((aX.mono<|zl.trans b).mono zl) ((((aL.mono<|zl.trans b).weak (fun _ _ h=>wd (zl.trans b) h)).mono zl).weak (fun _ _ h=>wd zl h)) ((la _ (.head _) _).stb) ho)<|fun _ _ h'=>⟨h'.1,trivial,h'.2⟩) fun _=>Lf 5 103 U (xU (v:=(.agg #[vi Y.fN,vi Y.fD,vi aw.fN,vi aw.fD])) (Lq (l:=[.tmp 99,.tmp 102]) (.r2 U U) [0,1]) (fun _=>by kernel_rfl)) (WD.new (i:=6) (dd:=104) U (by kernel_rfl) U U U (xV (cs:=([(⟨Y,aw⟩:z8)]:List z8).flatMap vf) z8J (Lq (l:=[.tmp 103]) (.cons U .nil) [0]) (fun _=>by kernel_rfl) U (by unfold maxLen;omega)) (fun h'=>absurd h' (by decide)) fun ch _=>WD.freezeS (ls:=([(⟨Y,aw⟩:z8)]:List z8)) .here .h4 hz (RR.flat (enc:=vf) (fun _=>U) _) ?_))
       intro b4 ci cZ
       let D:List Value:=[vs (some ⟨ch,0,none⟩) (([(⟨Y,aw⟩:z8)]:List z8).length) 1];have cj:RR 1 (qB (Z++b4)) D ([([(⟨Y,aw⟩:z8)]:List z8)]:List (List z8)):=(RR.cons (r:=D) U (show qB _ _ _ from⟨_,_,U,cZ⟩) (RR.nil _ _))
       refine WD.new (i:=7) (dd:=105) U (by kernel_rfl) U U U (xV (cs:=[vs (some ⟨ch,0,none⟩) (([(⟨Y,aw⟩:z8)]:List z8).length) 1]) zc1 (Lq (l:=[.tmp 104]) (.cons U .nil) [0]) (fun _=>by kernel_rfl) U (by unfold maxLen;omega)) (fun h'=>absurd h' (by decide)) ?_
       intro d4 _
       have c0:RR 1 (qB (Z++b4)) (al++D) (V++([([(⟨Y,aw⟩:z8)]:List z8)]:List (List z8))):=RR.app (b0.weak (fun _ _ h=>jv ci h)) cj
       refine WD.old (i:=8) (dd:=106) U (by kernel_rfl) U U U U (fun _=>(ws.of<|.cons .h6 .nil)) (uC (l1:=V) (l2:=([([(⟨Y,aw⟩:z8)]:List z8)]:List (List z8))) (news:=D) (Pr:=(qB (Z++b4))) zc1 U U .h6 cj (qg .here) (ua U tm) cY) ?_
       rintro⟨c1,c2⟩ _
       exact Lf 9 6 U (q_z U)<|WD.done (by kernel_rfl)<|Lp ⟨V++([([(⟨Y,aw⟩:z8)]:List z8)]:List (List z8)),aC,z,Y.fN,Y.fD,b4,c1,c2,al++D,ai⟩ ⟨h,ci,c0,bS⟩ (.q U)<|.s9 .h2 .here .h5 .h5 .h5 .h5 .h4 .h1 .h1
     ·rintro aE a5 a6 aM aN a7 bE bF bG a8 ⟨h,c3,c4,c5⟩
      replace h:=(cH aE a5 a6 aM aN).symm.trans h
      exact Lw (fun i=>[8].contains i) [] U<|Lf 0 107 U (q_m U)<|Lf 1 108 U (wx U)<|Lf 2 109 U (xk bI U U)<|Li 3 110 U (xl zsR U<|xu .h2 U)<|Lf 4 111 U (q_m U)<|Li 5 112 U (xq z6p U (xt .h3) U)<|Lf 6 113 U (xU (v:=(.agg #[vi n,vi T.ya,vi T.fQ])) (Lq (l:=[.tmp 111,.tmp 112]) (.r2 U U) [0,1]) (fun _=>by kernel_rfl))<|Li 7 114 U (xq zi U (xt .h6) U)<|WD.jf (i:=8) U (by kernel_rfl) U U U (by kernel_rfl) (jE (k:=(⟨n,T⟩:zT)) (v:=(⟨aM,aN⟩:z1)) zsT underlying116 U U U U .h7)<|WD.done (by kernel_rfl)<|Lu<|Lp ⟨aE,(max ar<|(nth a.yb n).yo),a5,a6,xM ak (⟨n,T⟩:zT) (⟨aM,aN⟩:z1),a7,bE,bF,bG,a8⟩ ⟨h,c3,c4,c5⟩ (.q U)<|.s8 .h1 .h1 .h1 .h1 .h1 .h1 .here .h1
   ·rintro aD aZ a0 a1 a2 a3 bB bC bD a4 ⟨h,c6,c7,c8⟩
    replace h:=(cw aD aZ a0 a1 a2).symm.trans h
    exact D2q U<|WL.nil<|WX.round ⟨ct,aD,aZ,i64 (n+1),a0,a1,a2,a3,bB,bC,bD,a4⟩ ⟨h,b.trans c6,c7,c8⟩ (Nat.lt_succ_self _) (.q U)<|.a8
  ·exact WC.exit<|Ln<|Ln<|Lx<|Lp ⟨V,ar,aC,z,ak,t,au,av,al,ai⟩ ⟨h,b,b0,bS⟩ (.q U)<|.a8
 ·rintro an ao aY B ah aB bx bz aj X ⟨h,d,c9,b5⟩
  replace h:=(cr an ao aY B ah).symm.trans h
  obtain⟨ck,da,h⟩:=g8 h
  let N:Value:=(vs bx an.length bz);refine WC.rM (fun(ax:List (List z8)) (bL:Int) (aF:Zp) (bU:Option Addr) (bV:Nat) (aO:List Value)=>(ck ax bL=some r)/\(xm (Z++aB) (Z++aF))/\(RR 1 (qB (Z++aF)) aO ax)) (fun ax bL aF bU bV aO=>[(6,N),(7,vs bU ax.length bV),(9,vi ao)]) (fun ax bL aF bU bV aO=>[fz aF,row N 227 1 aj,row (vs bU ax.length bV) 227 1 aO,stb o 119 [E,F,G,H,I,J,K,L,C,(.map<|some g),(.map<|some m),vi bL],xy g (ga qu) (ga xG) ah,xy m (ga xL) vI p]) ?_ ?_
  ·let P:Value:=(vi (a.fK.length:Int));refine B1q U<|Le 117 (wx U)<|Le 118 (xk md U U)<|Le 119 (xk uT U U)<|Le 120 (xl zbZ U<|xu .h2 U)<|Le 121 (xQ underlying25 U)<|Q1n U<|WC.block<|WC.nilRow 227 1<|WC.pb (fun(bM:Nat) (aa:List (List z8)) (f:Int) (aG:Int) (W:Zp) (aH:Option Addr) (aI:Nat) (am:List Value)=>(qF a B ag ah p T ck bM aa f aG=some r)/\(xm (Z++aB) (Z++W))/\(RR 1 (qB (Z++W)) am aa)) (fun bM aa f aG W aH aI am=>[(0,vp o),(3,vp q),(6,N),(7,vs aH aa.length aI),(8,(.map<|some y)),(9,vi ao),(121,P),(122,vi f)]) (fun bM aa f aG W aH aI am=>[fz W,row N 227 1 aj,row (vs aH aa.length aI) 227 1 am,stb o 119 [E,F,G,H,I,J,K,L,C,(.map<|some g),(.map<|some m),vi aG],stb q 121 O,xy y vI slv (qs X),vT (vF 3 1 e3) X,xy g (ga qu) (ga xG) ah,xy m (ga xL) vI p]) (fun bM aa f aG W aH aI am=>bM) ⟨xI,([]:List (List z8)),0,aY,aB,none,0,[]⟩ ⟨h,xm.refl _,RR.nil _ _⟩ (.q U) (.s9 .h1 .h1 .here .here .here .here .here .here .here) ?_
   rintro bM aa f aG W aH aI am ⟨h,c,ca⟩
   obtain⟨dc,rfl⟩:=rd h
   rw[qF] at h
   refine B1n U<|WC.b<|Lj U h (fun de h=>?_)<|fun de h=>?_
   ·refine WC.skip<|Lb<|jK2 h fun df dg h=>WC.rM (fun(aJ:List (List z8)) (a9:Int) (ba:Zp) (bN:Option Addr) (bO:Nat) (bP:List Value)=>(df aJ a9=some r)/\(xm (Z++W) (Z++ba))/\(RR 1 (qB (Z++ba)) bP aJ)) (fun aJ a9 ba bN bO bP=>[(0,vp o),(3,vp q),(6,N),(7,vs bN aJ.length bO),(8,(.map<|some y)),(9,vi ao),(121,P),(122,vi f)]) (fun aJ a9 ba bN bO bP=>[fz ba,row N 227 1 aj,row (vs bN aJ.length bO) 227 1 bP,stb o 119 [E,F,G,H,I,J,K,L,C,(.map<|some g),(.map<|some m),vi a9],stb q 121 O,xy y vI slv (qs X),vT (vF 3 1 e3) X,xy g (ga qu) (ga xG) ah,xy m (ga xL) vI p]) ?_ ?_
    ·refine WC.block<|B2n U<|WC.b<|WC.b<|Ld<|La U<|La U<|Le 127 (qz (k:=f) (dflt:=(((none,0),[]):(Option Addr×Nat)×List Int)) jR underlying219 zsU U U U .h5)<|WL.gh (fun _ h=>Hp.pU f b5 .h6 h) ?_
     rintro⟨dh,di⟩ cl
     refine Ke (i:=127) U (u:=(vs dh ((xp B f []).length) di)) (congrArg slv cl)<|Le 128 (xQ underlying50 U)<|La U<|WL.ghL (fun _ h=>Hp.eQ b5 cl (.a2) h)<|Q0n<|Lj U h (fun dj h=>?_)<|fun dj h=>?_
     ·exact WC.exit<|Ln<|Lx<|Lp ⟨aa,aG,W,aH,aI,am⟩ ⟨h,xm.refl _,ca⟩ (.q U)<|.s9 .h1 .h1 .h1 .h1 .h1 .h1 .here .here .here
     ·refine WC.skip<|Lb<|WC.b<|bK h fun b6 dk h=>bK h fun b7 dl h=>Ld<|Lm 130 (zf call80<|.cons U .nil) .nil (jH hz .nil .h1 fun w pz ho=>gF _ _ _ dk w pz )<|Lm 131 (zf call80<|.cons U .nil) .nil (jH hz .nil .h1 fun w pz ho=>gF _ _ _ dl w pz )<|Le 132 (xU (v:=(.agg #[vi b6.fN,vi b6.fD,vi b7.fN,vi b7.fD])) (Lq (l:=[.tmp 130,.tmp 131]) (.r2 U U) [0,1]) (fun _=>by kernel_rfl)) (Lg 16 (xC (cs:=[vi 0,vi 0,vi 0,vi 0]) zc2 U) fun bW _=>Lk U U (xx zaH U U U .here U U U)<|Q0n<|B1n U ?_)
      obtain⟨cm,dm,h⟩:=WF h
      let Q:Value:=(vs aH aa.length aI);refine WC.rM (fun(bQ:Int) (bb:Int) (ab:Int) (ad:Int) (ae:Int) (af:Int)=>(cm bQ bb ab ad ae af=some r)) (fun bQ bb ab ad ae af=>[(0,vp o),(3,vp q),(6,N),(7,Q),(8,(.map<|some y)),(9,vi ao),(15,vi f),(16,vp bW),(17,vi bQ),(121,P),(122,vi f)]) (fun bQ bb ab ad ae af=>[fz W,row N 227 1 aj,row Q 227 1 am,stb o 119 [E,F,G,H,I,J,K,L,C,(.map<|some g),(.map<|some m),vi bb],stb q 121 O,xy y vI slv (qs X),vT (vF 3 1 e3) X,stb bW 225 [vi ab,vi ad,vi ae,vi af],xy g (ga qu) (ga xG) ah,xy m (ga xL) vI p]) ?_ ?_
      ·refine WC.b<|Ld<|La U<|La U<|Le 135 (qz (k:=f) (dflt:=(((none,0),[]):(Option Addr×Nat)×List Int)) jR underlying219 zsU U U U .h7)<|WL.gh (fun _ h=>Hp.pU f b5 .h1 h) ?_
       rintro⟨dn,dp⟩ cn
       let R:Value:=(vs dn ((xp B f []).length) dp);refine Ke (i:=135) U (u:=R) (congrArg slv cn)<|Le 136 (xQ underlying50 U)<|Q1n U<|WC.block<|WC.pb (fun(bX:Nat) (aP:Int) (ap:Int) (bc:Int) (aQ:Int) (aR:Int) (ay:Int) (az:Int)=>(qE B f a ag ah p T cm bX aP ap bc aQ aR ay az=some r)) (fun bX aP ap bc aQ aR ay az=>[(0,vp o),(3,vp q),(6,N),(7,Q),(8,(.map<|some y)),(9,vi ao),(15,vi f),(16,vp bW),(17,vi aP),(121,P),(122,vi f),(135,R),(136,vi ((xp B f []).length:Int)),(137,vi ap)]) (fun bX aP ap bc aQ aR ay az=>[fz W,row N 227 1 aj,row Q 227 1 am,row R 3 1 ((xp B f []).flatMap e3),stb o 119 [E,F,G,H,I,J,K,L,C,(.map<|some g),(.map<|some m),vi bc],stb q 121 O,xy y vI slv (qs X),vT (vF 3 1 e3) (tc f X),stb bW 225 [vi aQ,vi aR,vi ay,vi az],xy g (ga qu) (ga xG) ah,xy m (ga xL) vI p]) (fun bX aP ap bc aQ aR ay az=>bX) ⟨xI,0,0,aG,b6.fN,b6.fD,b7.fN,b7.fD⟩ h (.q U) (.s11 .h3 .h3 .h3 .here .h2 .h2 .h2 .here .here .here .here) ?_
       rintro(_|dq) aP ap bc aQ aR ay az h;·cases h
       rw[qE] at h
       refine B1n U<|WC.b<|Lj U h (fun dr h=>?_)<|fun dr h=>?_
       ·refine WC.skip<|Lb<|WC.b<|WC.block<|WC.b<|cK h fun bY h=>Ld<|Kf (fun w hw=>Hp.vJ .h3 hw (by intro il;have:=bY;rw[il] at this;omega)) ?_
        rintro⟨d5,rfl⟩
        refine Le 139 (w7 z8g U U bY.1 bY.2 qQ)<|Le 140 (xl xB U<|uy .h3<|(jb (enc:=e3) (l:=xp B f []) (i:=ap) (sz:=1) (fun _=>U) bY.1 bY.2) 0 _ U)<|Q1n U<|WC.b ?_
        refine bK h fun bR dt h=>bK h fun ek du h=>bK h fun bZ dv h=>Lw (fun i=>[11,17,18,20,22].contains i) [uE bW 225 [(2,vi ay),(3,vi az)]] U<|Lf 0 141 U (q_m U)<|Lf 1 142 U (xk gD U U)<|Li 2 143 U (wp (cs:=[vi aQ,vi aR]) zi U U<|ko (s:=2) (.there .h7) U)<|Lf 3 144 U (q_m U)<|Lf 4 145 U (wx U)<|Lf 5 146 U (xk bI U U)<|Li 6 147 U (xl zsR U<|xu .h4 U)<|Lf 7 148 U (q_m U)<|Li 8 149 U (xq z6p U (xt .h5) U)<|Lf 9 150 U (xU (v:=(.agg #[(vi<|nth (xp B f []) ap),vi T.ya,vi T.fQ])) (Lq (l:=[.tmp 148,.tmp 149]) (.r2 U U) [0,1]) (fun _=>by kernel_rfl))<|Li 10 151 U (qz (k:=(⟨nth (xp B f []) ap,T⟩:zT)) (dflt:=((⟨0,0⟩:z1):z1)) zsT underlying116 z1d U U U<|.there<|.there .h7)<|Lf 12 153 U (q_m U)<|Lf 13 154 U (xk me U U)<|L6 14 155 U (ws.wk (.cons (.there .h7) .nil)<|.stb (.cons U<|.cons U .nil) .nil) (wp (cs:=[vi ay,vi az]) zi U U<|li .here (.head _)<|(.tail _<|.head _))<|Lf 15 156 U (q_m U)<|Lf 16 157 U (q_m U) (WD.call0 (i:=11) (dd:=152) U (by kernel_rfl) U U U (.inl ⟨U,(ws.wk (.cons (.there<|.there<|.there .h7) .nil)<|.stb (.cons U<|.cons U .nil) .nil)⟩) (zf call118<|.r4 U U U U) (.s3 .h4 (.there .h7)<|.there .h7) (jH hz (.s3 .h4 (.there .h7)<|.there .h7) .here fun w pz ho=>Calls.mono (uq _ _ _ _ _ _ _ _ _ _ _ _ _ _ _ _ _ _ _ _ _ _ (zcA:=119) (zgC:=[]) _ _ _ _ _ (zes:=(fun(y0:z1) (y1:z1)=>wL y0 y1)) _ _ _ dt w pz ((aS.mono<|zl.trans (d.trans c)).weak (fun _ _ h=>w3 (zl.trans (d.trans c)) h)) ((aT.mono<|zl.trans (d.trans c)).weak (fun _ _ h=>w9 (zl.trans (d.trans c)) h)) (aU.mono<|zl.trans (d.trans c)) (aK.mono<|zl.trans (d.trans c)) ((aq.mono<|zl.trans (d.trans c)).weak (fun _ _ h=>wh (zl.trans (d.trans c)) h)) (aV.mono<|zl.trans (d.trans c)) ((aW.mono<|zl.trans (d.trans c)).weak (fun _ _ h=>wa (zl.trans (d.trans c)) h)) (aX.mono<|zl.trans (d.trans c)) ((aL.mono<|zl.trans (d.trans c)).weak (fun _ _ h=>wd (zl.trans (d.trans c)) h)) call119 (fun w' il y0 y1  r  hr=>uJ _ _ _ _ hr w' il ) ho)<|fun _ _ h'=>⟨h'.1,trivial,h'.2⟩) fun _=>Lf 19 160 U (xk gD U U)<|WD.call0 (i:=17) (dd:=158) U (by kernel_rfl) U U U (.inl ⟨U,(ws.wk (.cons (.there<|.there<|.there .h7) .nil)<|.stb (.cons U<|.cons U .nil) .nil)⟩) (zf call121<|.r2 U U) (.s2 .h1 .h1) (ta hz (.s2 .h1 .h1) .h1 (.cons .here .nil) fun w pz ho la=>Calls.mono (td _ _ _ _ _ _ _ _ _ _ _ _ _ _ _ _ _ _ _ _ _ _ _ _ _ _ _ _ _ du w pz ((((aS.mono<|zl.trans (d.trans c)).weak (fun _ _ h=>w3 (zl.trans (d.trans c)) h)).mono zl).weak (fun _ _ h=>w3 zl h)) ((((aT.mono<|zl.trans (d.trans c)).weak (fun _ _ h=>w9 (zl.trans (d.trans c)) h)).mono zl).weak (fun _ _ h=>w9 zl h)) ((aU.mono<|zl.trans (d.trans c)).mono zl) ((aK.mono<|zl.trans (d.trans c)).mono zl) ((((aq.mono<|zl.trans (d.trans c)).weak (fun _ _ h=>wh (zl.trans (d.trans c)) h)).mono zl).weak (fun _ _ h=>wh zl h)) ((aV.mono<|zl.trans (d.trans c)).mono zl) ((((aW.mono<|zl.trans (d.trans c)).weak (fun _ _ h=>wa (zl.trans (d.trans c)) h)).mono zl).weak (fun _ _ h=>wa zl h)) ((aX.mono<|zl.trans (d.trans c)).mono zl) ((((aL.mono<|zl.trans (d.trans c)).weak (fun _ _ h=>wd (zl.trans (d.trans c)) h)).mono zl).weak (fun _ _ h=>wd zl h)) ((la _ (.head _) _).stb) ho)<|fun _ _ h'=>⟨h'.1,trivial,h'.2⟩) ?_)
        intro _
        refine WD.call0 (i:=18) (dd:=159) U (by kernel_rfl) U U U (.inl ⟨U,(ws.wk (.cons (.there<|.there<|.there .h7) .nil)<|.stb (.cons U<|.cons U .nil) .nil)⟩) (zf call118<|.r4 U U U U) (.s3 .h2 .here .here) (jH hz (.s3 .h2 .here .here) .here fun w pz ho=>Calls.mono (uq _ _ _ _ _ _ _ _ _ _ _ _ _ _ _ _ _ _ _ _ _ _ (zcA:=119) (zgC:=[]) _ _ _ _ _ (zes:=(fun(y0:z1) (y1:z1)=>wL y0 y1)) _ _ _ dv w pz ((aS.mono<|zl.trans (d.trans c)).weak (fun _ _ h=>w3 (zl.trans (d.trans c)) h)) ((aT.mono<|zl.trans (d.trans c)).weak (fun _ _ h=>w9 (zl.trans (d.trans c)) h)) (aU.mono<|zl.trans (d.trans c)) (aK.mono<|zl.trans (d.trans c)) ((aq.mono<|zl.trans (d.trans c)).weak (fun _ _ h=>wh (zl.trans (d.trans c)) h)) (aV.mono<|zl.trans (d.trans c)) ((aW.mono<|zl.trans (d.trans c)).weak (fun _ _ h=>wa (zl.trans (d.trans c)) h)) (aX.mono<|zl.trans (d.trans c)) ((aL.mono<|zl.trans (d.trans c)).weak (fun _ _ h=>wd (zl.trans (d.trans c)) h)) call119 (fun w' il y0 y1  r  hr=>uJ _ _ _ _ hr w' il ) ho)<|fun _ _ h'=>⟨h'.1,trivial,h'.2⟩) fun _=>WD.X9 (i:=20) U (by kernel_rfl) U U U (ws.wk (.cons .here .nil)<|.stb (.cons U<|.cons U .nil) .nil) (jU (ds:=[vi bR.1.fN,vi bR.1.fD,vi ay,vi az]) zI U U U U U (.there<|.there<|.there .h7) U U)<|Lf 21 161 U (xk me U U)<|WD.jf (i:=22) U (by kernel_rfl) U U U (by kernel_rfl) (jU (ds:=[vi bR.1.fN,vi bR.1.fD,vi bZ.1.fN,vi bZ.1.fD]) zI U U U U U .here U U)<|WD.done (by kernel_rfl)<|Lb<|cK h fun dw h=>D2q U<|Le 164 (wx U)<|Le 165 (xk md U U)<|Le 166 (xk jK U U)<|Le 167 (xl z6n U<|xu .h1 U)<|La U<|L2 (dd:=169) U U (Z:=(Z++W)) (Pr:=(vK (Z++W))) z75 U U ((aq.mono<|zl.trans (d.trans c)).weak (fun _ _ h=>wh (zl.trans (d.trans c)) h)) dw ?_
        rintro d6 d7 dx d8 ⟨d9,ea,rfl,eb⟩
        exact Le 170 (xk fj U U)<|Le 171 (xl xB U<|wy (hz.pv2 .h4) dx U)<|Le 172 (l5 U U U)<|La U<|WL.nil<|Lu<|Lb<|D2q U<|WL.nil<|WX.round ⟨dq,(max aP<|(nth a.yb<|nth (xp B f []) ap).yo),i64 (ap+1),bZ.2,bR.1.fN,bR.1.fD,bZ.1.fN,bZ.1.fD⟩ h (Nat.lt_succ_self _) (.q U)<|.s11 .h4 .h4 .h4 .h4 .h1 .h3 .h3 .h3 .here .here .here
       ·exact WC.exit<|Ln<|Ln<|Lx<|WX.ghL (fun _ h=>Hp.eQ b5 cn (.s2 .h3 .h6) h)<|Lp ⟨aP,bc,aQ,aR,ay,az⟩ h (.q U)<|.s10 .h1 .h1 .h1 .h1 .h1 .h1 .here .here .here .here
      ·rintro bQ bb ab ad ae af h
       replace h:=(dm bQ bb ab ad ae af).symm.trans h
       refine bK h fun aA dy h=>cK h fun dz h=>cK h fun dA h=>Lw (fun i=>[17].contains i) [] U<|Lf 0 174 U (q_m U)<|Li 1 175 U (xq z40 U (xt .h7) U)<|Lf 2 176 U (q_m U)<|L5 3 177 U (zf call80<|.cons U .nil) (jH hz .nil .here fun w pz ho=>gF _ _ _ dy w pz )<|Lf 4 178 U (q_m U)<|Lf 5 179 U (wx U)<|Lf 6 180 U (xk md U U)<|Lf 7 181 U (xk uT U U)<|Li 8 182 U (xl zbZ U<|xu .h3 U)<|Lf 9 183 U (q_m U)<|L8 (j:=10) (dd:=184) (by kernel_rfl) U z2J z2K U U (Z:=(Z++W)) (Pr:=(rq qt)) zga U U (aK.mono<|zl.trans (d.trans c)) dz ?_
       rintro ec ed dB ee rfl
       refine Lf 11 185 U (xk sD U U)<|Li 12 186 U (xl xB U<|wy (hz.pv2 .here) dB U)<|Lf 13 187 U (xU (v:=(.agg #[vi 1,(vi<|(nth a.fK f).yp)])) (Lq (l:=[.const (vi 1),.tmp 186]) (.r2 U U) [0,1]) (fun _=>by kernel_rfl))<|Lf 14 188 U (xU (v:=(.agg #[vi aA.fN,vi aA.fD,vi 1,(vi<|(nth a.fK f).yp)])) (Lq (l:=[.tmp 177,.tmp 187]) (.r2 U U) [0,1]) (fun _=>by kernel_rfl)) (WD.new (i:=15) (dd:=189) U (by kernel_rfl) U U U (xV (cs:=([(⟨(⟨ab,ad⟩:z1),(⟨ae,af⟩:z1)⟩:z8),(⟨aA,(⟨1,(nth a.fK f).yp⟩:z1)⟩:z8)]:List z8).flatMap vf) z8J (Lq (l:=[.tmp 175,.tmp 188]) (.r2 U U) [0,1]) (fun _=>by kernel_rfl) U (by unfold maxLen;omega)) (fun h'=>absurd h' (by decide)) fun co _=>WD.freezeS (ls:=([(⟨(⟨ab,ad⟩:z1),(⟨ae,af⟩:z1)⟩:z8),(⟨aA,(⟨1,(nth a.fK f).yp⟩:z1)⟩:z8)]:List z8)) .here .here hz (RR.flat (enc:=vf) (fun _=>U) _) ?_)
       intro b8 cp dC
       let A:List Value:=[vs (some ⟨co,0,none⟩) (([(⟨(⟨ab,ad⟩:z1),(⟨ae,af⟩:z1)⟩:z8),(⟨aA,(⟨1,(nth a.fK f).yp⟩:z1)⟩:z8)]:List z8).length) 2];have cq:RR 1 (qB (Z++b8)) A ([([(⟨(⟨ab,ad⟩:z1),(⟨ae,af⟩:z1)⟩:z8),(⟨aA,(⟨1,(nth a.fK f).yp⟩:z1)⟩:z8)]:List z8)]:List (List z8)):=(RR.cons (r:=A) U (show qB _ _ _ from⟨_,_,U,dC⟩) (RR.nil _ _))
       refine WD.new (i:=16) (dd:=190) U (by kernel_rfl) U U U (xV (cs:=[vs (some ⟨co,0,none⟩) (([(⟨(⟨ab,ad⟩:z1),(⟨ae,af⟩:z1)⟩:z8),(⟨aA,(⟨1,(nth a.fK f).yp⟩:z1)⟩:z8)]:List z8).length) 2]) zc1 (Lq (l:=[.tmp 189]) (.cons U .nil) [0]) (fun _=>by kernel_rfl) U (by unfold maxLen;omega)) (fun h'=>absurd h' (by decide)) ?_
       intro ef _
       have dD:RR 1 (qB (Z++b8)) (am++A) (aa++([([(⟨(⟨ab,ad⟩:z1),(⟨ae,af⟩:z1)⟩:z8),(⟨aA,(⟨1,(nth a.fK f).yp⟩:z1)⟩:z8)]:List z8)]:List (List z8))):=RR.app (ca.weak (fun _ _ h=>jv cp h)) cq
       refine WD.old (i:=17) (dd:=191) U (by kernel_rfl) U U U U (fun _=>(ws.of .nil)) (uC (l1:=aa) (l2:=([([(⟨(⟨ab,ad⟩:z1),(⟨ae,af⟩:z1)⟩:z8),(⟨aA,(⟨1,(nth a.fK f).yp⟩:z1)⟩:z8)]:List z8)]:List (List z8))) (news:=A) (Pr:=(qB (Z++b8))) zc1 U U .h3 cq (qg .here) (ua U tm) dA) ?_
       rintro⟨dE,dF⟩ _
       exact Lf 18 7 U (q_z U)<|WD.done (by kernel_rfl)<|Lu<|Lp ⟨aa++([([(⟨(⟨ab,ad⟩:z1),(⟨ae,af⟩:z1)⟩:z8),(⟨aA,(⟨1,(nth a.fK f).yp⟩:z1)⟩:z8)]:List z8)]:List (List z8)),bb,b8,dE,dF,am++A⟩ ⟨h,cp,dD⟩ (.q U)<|.s9 .h2 .h2 .here .h1 .h1 .h1 .h1 .h2 .h2
    ·rintro aJ a9 ba bN bO bP ⟨h,dG,dH⟩
     replace h:=(dg aJ a9).symm.trans h
     exact D2q U<|WL.nil<|WX.round ⟨dc,aJ,i64 (f+1),a9,ba,bN,bO,bP⟩ ⟨h,c.trans dG,dH⟩ (Nat.lt_succ_self _) (.q U)<|.a9
   ·exact WC.exit<|Ln<|Ln<|Lx<|Lp ⟨aa,aG,W,aH,aI,am⟩ ⟨h,c,ca⟩ (.q U)<|.s6 .here .here .here .here .h3 .h3
  ·rintro ax bL aF bU bV aO ⟨h,dI,cb⟩
   replace h:=(da ax bL).symm.trans h
   refine WC.b<|cK h fun dJ h=>D1q U<|La U ?_
   have dK:RR 1 (qB (Z++aF)) (aj++aO) (an++ax):=RR.app (c9.weak (fun _ _ h=>jv dI h)) cb
   refine WL.fA 195 (uC (l1:=an) (l2:=ax) (news:=aO) (Pr:=(qB (Z++aF))) zc1 U U .h1 cb (qg .h2) (RR.oc cb<|fun _ _ h=>VB h) dJ) ?_
   rintro⟨dL,dM⟩ _
   refine La U<|La U<|La U<|WL.nil<|Lb<|WC.ret ?_
   obtain rfl:=oJ h
   exact Lh results79 (.tmp U<|.tmp U .nil)<|fun w hw=>⟨aF,dL,dM,aj++aO,vg U U,dK,hw.sub (.s5 .h1 .here .h1 .h1 .h1)⟩
def gW(a:z1):Option Bool:=
 (vx a).bind fun b=>some (b&&(decide (a.fN>=0)))
theorem pp(Z:Zp)(a:z1)(r:Bool)(h:gW a=some r)(w₀:World)(hz:PZ [] w₀ Z):
  RC 193 #[.agg #[vi a.fN,vi a.fD]] w₀ (.bool r) [] []:=by
 unfold gW at h
 refine L7 func193 ntmps193 ?_
 refine WC.b<|Ld (Lg 1 (xP (cs:=[vi a.fN,vi a.fD]) U U) fun e _=>Q1n U<|WC.b ?_)
 refine bK h fun b c h=>Ld<|Le 3 (xq zi U (xt .here) U)<|Lm 4 (zf call130<|.cons U .nil) .nil (cc hz .nil fun w pz ho=>qC _ _ _ c w pz )<|La U<|Ly true 3 5 (B:=b&&(decide (a.fN>=0))) U U U U U U (fun h=>(kb h).symm) (fun _ d=>?_) ?_
 ·exact Le 6 (xk qh U U)<|Le 7 (xl xB U<|xu .here U)<|Q2q U<|Lz (kc d) U U .all
 refine Q1n U<|WC.ret ?_
 obtain rfl:=oJ h
 exact Lh results193 (.tmp U .nil)<|fun w hw=>⟨xK U,hw.sub .nil⟩
def gw(a:z8):Option Bool:=
 (gW a.yg).bind fun b=>(if !b then some true else(gW a.ye).bind fun c=>some (!c)).bind fun d=>some d
theorem dt(Z:Zp)(a:z8)(r:Bool)(h:gw a=some r)(w₀:World)(hz:PZ [] w₀ Z):
  RC 209 #[.agg #[vi a.yg.fN,vi a.yg.fD,vi a.ye.fN,vi a.ye.fD]] w₀ (.bool r) [] []:=by
 unfold gw at h
 refine L7 func209 ntmps209 ?_
 refine WC.b<|Ld (Lg 1 (xP (cs:=[vi a.yg.fN,vi a.yg.fD,vi a.ye.fN,vi a.ye.fD]) U U) fun i _=>Q1n U<|WC.b ?_)
 refine bK h fun j d h=>bK h fun e c h=>Ld<|Le 3 (xk gD U U)<|Le 4 (wp (cs:=[vi a.yg.fN,vi a.yg.fD]) zi U U<|ko (s:=2) .here U)<|Lm 5 (zf call193<|.cons U .nil) .nil (cc hz .nil fun w pz ho=>pp _ _ _ d w pz )<|Q2q U<|Ly false 4 7 (B:=e) U U U U U U (fun h=>(oJ<|qq c h).symm) (fun _ f=>?_) ?_
 ·have b:=qr c f
  obtain⟨k,g,b⟩:=ze b
  replace b:=oJ b
  exact Le 8 (xk me U U)<|Le 9 (wp (cs:=[vi a.ye.fN,vi a.ye.fD]) zi U U<|ko (s:=2) .here U)<|Lm 10 (zf call193<|.cons U .nil) .nil (cc hz .nil fun w pz ho=>pp _ _ _ g w pz )<|Q2q U<|Lz b U U .all
 refine Q1n U<|WC.ret ?_
 obtain rfl:=oJ h
 exact Lh results209 (.tmp U .nil)<|fun w hw=>⟨xK U,hw.sub .nil⟩
def wz(b:List z8)(zag:z8->Option Bool)(c:Option Int):Nat->Int->Option Int
 | 0,_=>none
 | d+1,a=>if decide (a<b.length) then chk (0<=a/\a<b.length) ((zag (⟨(⟨((nth b a).yg).fN,((nth b a).yg).fD⟩:z1),(⟨((nth b a).ye).fN,((nth b a).ye).fD⟩:z1)⟩:z8)).bind fun e=>if e then some a else wz b zag c d (i64 (a+1))) else c
def j8(a:List z8)(zag:z8->Option Bool):Option Int:=
 mh (some (-1)) fun b=>wz a zag b xI 0
theorem mW(Z:Zp)(d:Option Addr)(g:Nat)(zgU:FuncId)(zmS:List Value)(b:List z8)(zag:z8->Option Bool)(r:Int)(h:j8 b zag=some r)(w₀:World)(hz:PZ [] w₀ Z)(j:ZS Z 4 (rq vf) d g b)(k:∀ args w,(callFunc zgU args).run Tryz.prog w = .ok (.enter zgU args) w)(m:∀ w:World,PZ [] w Z->∀(x0:z8) (r:Bool),zag x0=some r->Calls Tryz.prog zgU (([.agg #[vi x0.yg.fN,vi x0.yg.fD,vi x0.ye.fN,vi x0.ye.fD]]:List Value)++zmS).toArray w fun e w'=>e = .returned (.bool r)/\Hp [] w w' []):
  RC 220 #[vs d b.length g,.func (.func zgU) #[] (zmS).toArray] w₀ (vi r) [] []:=by
 unfold j8 at h
 refine L0 func220 ntmps220 ?_
 refine B1n U<|jK0 h fun i n h=>L9 (i=some r) ([]) ([]) ?_ ?_
 ·refine B1q U<|Le 7 (xQ underlying227 U)<|Q1n U<|WC.block<|Ka (fun(c:Nat) (a:Int)=>(wz b zag i c a=some r)) (fun c a=>[(0,vs d b.length g),(1,.func (.func zgU) #[] (zmS).toArray),(7,vi (b.length:Int)),(8,vi a)]) (fun c a=>[]) (fun c a=>c) ⟨xI,0⟩ h (.q U) .nil ?_
  rintro(_|o) a h;·cases h
  rw[wz] at h
  refine B1n U<|WC.b<|Lj U h (fun p h=>?_)<|fun p h=>?_
  ·refine WC.skip<|Lb<|WC.b<|WC.block<|B2n U<|WC.b<|cK h fun q h=>bK h fun s t h=>D3q U<|L2 (dd:=14) U U (Z:=Z) (Pr:=(rq vf)) z8J U U j q ?_
   rintro x y u z rfl
   refine Le 15 (xq z40 U (vY hz.pv u) U)<|Lm 16 (qp (l:=[.tmp 15]) (f:=zgU) (caps:=zmS) k U<|.cons U .nil) .nil (fun w hw=>m w (hz.now hw) (⟨(⟨((nth b a).yg).fN,((nth b a).yg).fD⟩:z1),(⟨((nth b a).ye).fN,((nth b a).ye).fD⟩:z1)⟩:z8) s  t)<|Q0n<|Lj U h (fun v h=>?_)<|fun v h=>?_
   ·refine B2n U<|WC.ret<|Lv<|Ll<|Ll<|Lv<|Ll ?_
    obtain rfl:=oJ h
    exact Lh results220 (.tmp U .nil)<|fun w hw=>⟨xK U,hw.sub .nil⟩
   ·exact WC.skip<|Lu<|Lb<|D2q U<|WL.nil<|WX.round ⟨o,i64 (a+1)⟩ h (Nat.lt_succ_self _) (.q U) .nil
  ·exact WC.exit<|Ln<|Ln<|Lx<|Lp () h .nil .nil
 ·rintro  h
  replace h:=n.symm.trans h
  refine B1n U<|WC.ret ?_
  obtain rfl:=oJ h
  exact Lh results220 (.tmp U .nil)<|fun w hw=>⟨xK U,hw.sub .nil⟩
def wR(a:List z8)(zgV:z8->Option Bool):Option Bool:=
 (j8 a zgV).bind fun b=>some (decide (b>=0))
theorem kC(Z:Zp)(b:Option Addr)(c:Nat)(zgW:FuncId)(zmU:List Value)(a:List z8)(zgV:z8->Option Bool)(r:Bool)(h:wR a zgV=some r)(w₀:World)(hz:PZ [] w₀ Z)(d:ZS Z 4 (rq vf) b c a)(f:∀ args w,(callFunc zgW args).run Tryz.prog w = .ok (.enter zgW args) w)(g:∀ w:World,PZ [] w Z->∀(x0:z8) (r:Bool),zgV x0=some r->Calls Tryz.prog zgW (([.agg #[vi x0.yg.fN,vi x0.yg.fD,vi x0.ye.fN,vi x0.ye.fD]]:List Value)++zmU).toArray w fun e w'=>e = .returned (.bool r)/\Hp [] w w' []):
  RC 208 #[vs b a.length c,.func (.func zgW) #[] (zmU).toArray] w₀ (.bool r) [] []:=by
 unfold wR at h
 refine L0 func208 ntmps208 ?_
 refine B1n U<|WC.b<|bK h fun j i h=>D2q U<|Lm 7 (zf call220<|.r2 U U) .nil (cc hz .nil fun w pz ho=>mW _ _ _ (zgU:=zgW) (zmS:=zmU) _ (zag:=zgV) _ i w pz d f g)<|Q2n U<|WC.ret ?_
 obtain rfl:=oJ h
 exact Lh results208 (.tmp U .nil)<|fun w hw=>⟨xK U,hw.sub .nil⟩
def g4(a:List z8):Option Bool:=
 (if (decide ((a.length:Int)>=1))&&(decide ((a.length:Int)<=32)) then(wR a (fun(y0:z8)=>gw y0)).bind fun b=>some (!b) else some false).bind fun c=>some c
theorem tx(Z:Zp)(c:Option Addr)(d:Nat)(a:List z8)(r:Bool)(h:g4 a=some r)(w₀:World)(hz:PZ [] w₀ Z)(f:ZS Z 4 (rq vf) c d a):
  RC 192 #[vs c a.length d] w₀ (.bool r) [] []:=by
 unfold g4 at h
 refine L7 func192 ntmps192 ?_
 refine B1n U<|WC.b<|bK h fun g e h=>D1q U<|Le 4 (xQ underlying227 U)<|Q2q U<|Ly true 3 6 (B:=(decide ((a.length:Int)>=1))&&(decide ((a.length:Int)<=32))) U U U U U U (fun h=>(kb h).symm) (fun _ i=>?_) ?_
 ·exact La U<|Le 8 (xQ underlying227 U)<|Q2q U<|Lz (kc i) U U .all
 refine La U<|Ly true 3 11 (B:=g) U U U U U U (fun h=>(oJ<|qr e h).symm) (fun _ j=>?_) ?_
 ·have b:=qq e j
  obtain⟨l,k,b⟩:=ze b
  replace b:=oJ b
  exact La U<|Lm 13 (zf call208<|.r2 U U) .nil (cc hz .nil fun w pz ho=>kC _ _ _ (zgW:=209) (zmU:=[]) _ (zgV:=(fun(y0:z8)=>gw y0)) _ k w pz f call209<|fun w' il y0  r  hr=>dt _ _ _ hr w' il )<|Q2q U<|Lz b U U .all
 refine Q1n U<|WC.ret ?_
 obtain rfl:=oJ h
 exact Lh results192 (.tmp U .nil)<|fun w hw=>⟨xK U,hw.sub .nil⟩
def vH(a:List z8):Option Bool:=
 (g4 a).bind fun b=>some (!b)
theorem rQ(Z:Zp)(b:Option Addr)(c:Nat)(a:List z8)(r:Bool)(h:vH a=some r)(w₀:World)(hz:PZ [] w₀ Z)(d:ZS Z 4 (rq vf) b c a):
  RC 197 #[vs b a.length c] w₀ (.bool r) [] []:=by
 unfold vH at h
 refine L7 func197 ntmps197 ?_
 refine B1n U<|WC.b<|bK h fun f e h=>D1q U<|Lm 4 (zf call192<|.cons U .nil) .nil (cc hz .nil fun w pz ho=>tx _ _ _ _ _ e w pz d)<|Q2n U<|WC.ret ?_
 obtain rfl:=oJ h
 exact Lh results197 (.tmp U .nil)<|fun w hw=>⟨xK U,hw.sub .nil⟩
def wo(b:List (List z8))(zah:(List z8)->Option Bool)(c:Option Int):Nat->Int->Option Int
 | 0,_=>none
 | d+1,a=>if decide (a<b.length) then chk (0<=a/\a<b.length) ((zah (nth b a)).bind fun e=>if e then some a else wo b zah c d (i64 (a+1))) else c
def q8(a:List (List z8))(zah:(List z8)->Option Bool):Option Int:=
 mh (some (-1)) fun b=>wo a zah b xI 0
theorem uh(Z:Zp)(d:Option Addr)(g:Nat)(zgX:FuncId)(zmX:List Value)(b:List (List z8))(zah:(List z8)->Option Bool)(r:Int)(h:q8 b zah=some r)(w₀:World)(hz:PZ [] w₀ Z)(j:ZS Z 1 (qB Z) d g b)(k:∀ args w,(callFunc zgX args).run Tryz.prog w = .ok (.enter zgX args) w)(m:∀ w:World,PZ [] w Z->∀(x0:List z8) (kd:Option Addr) (fx:Nat) (r:Bool),ZS Z 4 (rq vf) kd fx x0->zah x0=some r->Calls Tryz.prog zgX (([vs kd x0.length fx]:List Value)++zmX).toArray w fun e w'=>e = .returned (.bool r)/\Hp [] w w' []):
  RC 211 #[vs d b.length g,.func (.func zgX) #[] (zmX).toArray] w₀ (vi r) [] []:=by
 unfold q8 at h
 refine L0 func211 ntmps211 ?_
 refine B1n U<|jK0 h fun i n h=>L9 (i=some r) ([]) ([]) ?_ ?_
 ·refine B1q U<|Le 7 (xQ underlying171 U)<|Q1n U<|WC.block<|Ka (fun(c:Nat) (a:Int)=>(wo b zah i c a=some r)) (fun c a=>[(0,vs d b.length g),(1,.func (.func zgX) #[] (zmX).toArray),(7,vi (b.length:Int)),(8,vi a)]) (fun c a=>[]) (fun c a=>c) ⟨xI,0⟩ h (.q U) .nil ?_
  rintro(_|o) a h;·cases h
  rw[wo] at h
  refine B1n U<|WC.b<|Lj U h (fun p h=>?_)<|fun p h=>?_
  ·refine WC.skip<|Lb<|WC.b<|WC.block<|B2n U<|WC.b<|cK h fun q h=>bK h fun s t h=>D3q U<|L2 (dd:=14) U U (Z:=Z) (Pr:=(qB Z)) zc1 U U j q ?_
   rintro A B u C ⟨v,x,rfl,y⟩
   refine Le 15 (xl zik U<|jS hz.pv u U)<|Lm 16 (qp (l:=[.tmp 15]) (f:=zgX) (caps:=zmX) k U<|.cons U .nil) .nil (fun w hw=>m w (hz.now hw) (nth b a) v x s y t)<|Q0n<|Lj U h (fun z h=>?_)<|fun z h=>?_
   ·refine B2n U<|WC.ret<|Lv<|Ll<|Ll<|Lv<|Ll ?_
    obtain rfl:=oJ h
    exact Lh results211 (.tmp U .nil)<|fun w hw=>⟨xK U,hw.sub .nil⟩
   ·exact WC.skip<|Lu<|Lb<|D2q U<|WL.nil<|WX.round ⟨o,i64 (a+1)⟩ h (Nat.lt_succ_self _) (.q U) .nil
  ·exact WC.exit<|Ln<|Ln<|Lx<|Lp () h .nil .nil
 ·rintro  h
  replace h:=n.symm.trans h
  refine B1n U<|WC.ret ?_
  obtain rfl:=oJ h
  exact Lh results211 (.tmp U .nil)<|fun w hw=>⟨xK U,hw.sub .nil⟩
def wW(a:List (List z8))(zjx:(List z8)->Option Bool):Option Bool:=
 (q8 a zjx).bind fun b=>some (decide (b>=0))
theorem mC(Z:Zp)(b:Option Addr)(c:Nat)(zjy:FuncId)(zq1:List Value)(a:List (List z8))(zjx:(List z8)->Option Bool)(r:Bool)(h:wW a zjx=some r)(w₀:World)(hz:PZ [] w₀ Z)(d:ZS Z 1 (qB Z) b c a)(f:∀ args w,(callFunc zjy args).run Tryz.prog w = .ok (.enter zjy args) w)(g:∀ w:World,PZ [] w Z->∀(x0:List z8) (kd:Option Addr) (fx:Nat) (r:Bool),ZS Z 4 (rq vf) kd fx x0->zjx x0=some r->Calls Tryz.prog zjy (([vs kd x0.length fx]:List Value)++zq1).toArray w fun e w'=>e = .returned (.bool r)/\Hp [] w w' []):
  RC 196 #[vs b a.length c,.func (.func zjy) #[] (zq1).toArray] w₀ (.bool r) [] []:=by
 unfold wW at h
 refine L0 func196 ntmps196 ?_
 refine B1n U<|WC.b<|bK h fun j i h=>D2q U<|Lm 7 (zf call211<|.r2 U U) .nil (cc hz .nil fun w pz ho=>uh _ _ _ (zgX:=zjy) (zmX:=zq1) _ (zah:=zjx) _ i w pz d f g)<|Q2n U<|WC.ret ?_
 obtain rfl:=oJ h
 exact Lh results196 (.tmp U .nil)<|fun w hw=>⟨xK U,hw.sub .nil⟩
def gX(a:yn):Option Bool:=
 (vx a.ye).bind fun b=>(if b&&(decide (a.ye.fN>0)) then(vx a.fL).bind fun c=>some c else some false).bind fun d=>some (d&&(decide (a.fL.fN>=0)))
theorem bL(Z:Zp)(a:yn)(r:Bool)(h:gX a=some r)(w₀:World)(hz:PZ [] w₀ Z):
  RC 198 #[.agg #[vi a.ye.fN,vi a.ye.fD,vi a.fL.fN,vi a.fL.fD]] w₀ (.bool r) [] []:=by
 unfold gX at h
 refine L7 func198 ntmps198 ?_
 refine WC.b<|Ld (Lg 1 (xP (cs:=[vi a.ye.fN,vi a.ye.fD,vi a.fL.fN,vi a.fL.fD]) U U) fun l _=>Q1n U<|WC.b ?_)
 refine bK h fun e f h=>bK h fun c d h=>Ld<|Le 3 (xk pj U U)<|Le 4 (wp (cs:=[vi a.ye.fN,vi a.ye.fD]) zi U U<|ko (s:=2) .here U)<|Lm 5 (zf call130<|.cons U .nil) .nil (cc hz .nil fun w pz ho=>qC _ _ _ f w pz )<|La U<|Ly true 4 6 (B:=e&&(decide (a.ye.fN>0))) U U U U U U (fun h=>(kb h).symm) (fun _ g=>?_) ?_
 ·exact Le 7 (xk pj U U)<|Le 8 (xk qh U U)<|Le 9 (xl xB U<|xu .here U)<|Q2q U<|Lz (kc g) U U .all
 refine La U<|Ly true 3 12 (B:=c) U U U U U U (fun h=>(oJ<|qr d h).symm) (fun _ i=>?_) ?_
 ·have b:=qq d i
  obtain⟨m,j,b⟩:=ze b
  replace b:=oJ b
  exact Le 13 (xk sG U U)<|Le 14 (wp (cs:=[vi a.fL.fN,vi a.fL.fD]) zi U U<|ko (s:=2) .here U)<|Lm 15 (zf call130<|.cons U .nil) .nil (cc hz .nil fun w pz ho=>qC _ _ _ j w pz )<|La U<|Lz b U U .all
 refine La U<|Ly true 4 17 (B:=c&&(decide (a.fL.fN>=0))) U U U U U U (fun h=>(kb h).symm) (fun _ k=>?_) ?_
 ·exact Le 18 (xk sG U U)<|Le 19 (xk qh U U)<|Le 20 (xl xB U<|xu .here U)<|Q2q U<|Lz (kc k) U U .all
 refine Q1n U<|WC.ret ?_
 obtain rfl:=oJ h
 exact Lh results198 (.tmp U .nil)<|fun w hw=>⟨xK U,hw.sub .nil⟩
def vU(a:Int):Option z1:=
 some (⟨a,1⟩:z1)
theorem gY(Z:Zp)(a:Int)(r:z1)(h:vU a=some r)(w₀:World)(hz:PZ [] w₀ Z):
  RC 191 #[vi a] w₀ (.agg #[vi r.fN,vi r.fD]) [] []:=by
 unfold vU at h
 refine L7 func191 ntmps191 ?_
 refine WC.b<|Ld (Lg 2 (xC (cs:=[vi 0,vi 0]) z1d U) fun b _=>Q0n<|B1q U<|Le 4 (xU (v:=(.agg #[vi a,vi 1])) (Lq (l:=[.tmp 3,.const (vi 1)]) (.r2 U U) [0,1]) (fun _=>by kernel_rfl))<|Lk U U (xx zI U U U .here U U U)<|Q0n<|WC.ret ?_)
 obtain rfl:=oJ h
 exact Lh results191 (.agg U zi U (xt .here) .nil)<|fun w hw=>⟨xK U,hw.sub .nil⟩
def kh  : Option z1:=
 (vU 0).bind fun a=>some a
theorem fG(Z:Zp)(r:z1)(h:kh=some r)(w₀:World)(hz:PZ [] w₀ Z):
  RC 161 #[] w₀ (.agg #[vi r.fN,vi r.fD]) [] []:=by
 unfold kh at h
 refine Calls.on0 func161 ntmps161 ?_
 refine WC.b<|Ld (Lg 0 (xC (cs:=[vi 0,vi 0]) z1d U) fun b _=>Q0n<|WC.b ?_)
 refine bK h fun c a h=>Ld<|Lm 1 (zf call191<|.cons U .nil) .nil (cc hz .nil fun w pz ho=>gY _ _ _ a w pz )<|Lk U U (xx zI U U U .here U U U)<|Q0n<|WC.ret ?_
 obtain rfl:=oJ h
 exact Lh results161 (.agg U zi U (xt .here) .nil)<|fun w hw=>⟨xK U,hw.sub .nil⟩
def wJ(b:List z8)(c:z8)(d:Option Int):Nat->Int->Option Int
 | 0,_=>none
 | e+1,a=>if decide (a<b.length) then chk (0<=a/\a<b.length) (if decide (c=(⟨(⟨((nth b a).yg).fN,((nth b a).yg).fD⟩:z1),(⟨((nth b a).ye).fN,((nth b a).ye).fD⟩:z1)⟩:z8)) then some a else wJ b c d e (i64 (a+1))) else d
def jM(a:List z8)(b:z8):Option Int:=
 mh (some (-1)) fun c=>wJ a b c xI 0
theorem uX(Z:Zp)(g:Option Addr)(i:Nat)(e:List z8)(c:z8)(r:Int)(h:jM e c=some r)(w₀:World)(hz:PZ [] w₀ Z)(m:ZS Z 4 (rq vf) g i e):
  RC 228 #[vs g e.length i,.agg #[vi c.yg.fN,vi c.yg.fD,vi c.ye.fN,vi c.ye.fD]] w₀ (vi r) [] []:=by
 unfold jM at h
 refine L0 func228 ntmps228 ?_
 let A:List Value:=[vi c.yg.fN,vi c.yg.fD,vi c.ye.fN,vi c.ye.fD];refine B0q<|Lg 3 (xP (cs:=A) U U) ?_
 intro k _
 refine Q1n U<|jK0 h fun l n h=>L9 (l=some r) ([]) ([]) ?_ ?_
 ·refine B1q U<|Le 7 (xQ underlying227 U)<|Q1n U<|WC.block<|Ka (fun(f:Nat) (d:Int)=>(wJ e c l f d=some r)) (fun f d=>[(0,vs g e.length i),(3,vp k),(7,vi (e.length:Int)),(8,vi d)]) (fun f d=>[stb k 225 A]) (fun f d=>f) ⟨xI,0⟩ h (.q U) (.cons .here .nil) ?_
  rintro(_|o) d h;·cases h
  rw[wJ] at h
  refine B1n U<|WC.b<|Lj U h (fun p h=>?_)<|fun p h=>?_
  ·refine WC.skip<|Lb<|WC.b<|WC.block<|B2n U<|WC.b<|cK h fun q h=>Lw nc [] U<|Li 0 11 U (xq z40 U (xt .here) U)<|Lf 1 12 U (q_m U)<|Lf 2 13 U (q_m U)<|L8 (j:=3) (dd:=14) (by kernel_rfl) U z2J z2K U U (Z:=Z) (Pr:=(rq vf)) z8J U U m q ?_
   rintro u v s x rfl
   refine Li 4 15 U (xq z40 U (vY hz.pv s) U)<|Lf 5 16 U (su (enc:=vf) (a:=c) (b:=(⟨(⟨((nth e d).yg).fN,((nth e d).yg).fD⟩:z1),(⟨((nth e d).ye).fN,((nth e d).ye).fD⟩:z1)⟩:z8)) zAE U U)<|WD.done (by kernel_rfl)<|Lb<|Lj U h (fun t h=>?_)<|fun t h=>?_
   ·refine B2n U<|WC.ret<|Lv<|Ll<|Ll<|Lv<|Ll ?_
    obtain rfl:=oJ h
    exact Lh results228 (.tmp U .nil)<|fun w hw=>⟨xK U,hw.sub .nil⟩
   ·exact WC.skip<|Lu<|Lb<|D2q U<|WL.nil<|WX.round ⟨o,i64 (d+1)⟩ h (Nat.lt_succ_self _) (.q U)<|.cons .here .nil
  ·exact WC.exit<|Ln<|Ln<|Lx<|Lp () h .nil .nil
 ·rintro  h
  replace h:=n.symm.trans h
  refine B1n U<|WC.ret ?_
  obtain rfl:=oJ h
  exact Lh results228 (.tmp U .nil)<|fun w hw=>⟨xK U,hw.sub .nil⟩
def q9(a:List z8)(b:z8):Option Bool:=
 (jM a b).bind fun c=>some (decide (c>=0))
theorem ui(Z:Zp)(c:Option Addr)(d:Nat)(b:List z8)(a:z8)(r:Bool)(h:q9 b a=some r)(w₀:World)(hz:PZ [] w₀ Z)(e:ZS Z 4 (rq vf) c d b):
  RC 221 #[vs c b.length d,.agg #[vi a.yg.fN,vi a.yg.fD,vi a.ye.fN,vi a.ye.fD]] w₀ (.bool r) [] []:=by
 unfold q9 at h
 refine L0 func221 ntmps221 ?_
 refine WC.b<|Ld (Lg 3 (xP (cs:=[vi a.yg.fN,vi a.yg.fD,vi a.ye.fN,vi a.ye.fD]) U U) fun g _=>Q1n U<|WC.b ?_)
 refine bK h fun i f h=>D1q U<|Le 6 (xq z40 U (xt .here) U)<|Lm 7 (zf call228<|.r2 U U) .nil (cc hz .nil fun w pz ho=>uX _ _ _ _ _ _ f w pz e)<|Q2n U<|WC.ret ?_
 obtain rfl:=oJ h
 exact Lh results221 (.tmp U .nil)<|fun w hw=>⟨xK U,hw.sub .nil⟩
def wS(a:z1)(b:z1):Option Int:=
 (vx a).bind fun c=>(if !c then some true else(vx b).bind fun d=>some (!d)).bind fun e=>if e then some 0 else if decide ((i64 (a.fN*b.fD))<(i64 (b.fN*a.fD))) then some (-1) else if decide ((i64 (a.fN*b.fD))>(i64 (b.fN*a.fD))) then some 1 else some 0
theorem gl(Z:Zp)(a:z1)(b:z1)(r:Int)(h:wS a b=some r)(w₀:World)(hz:PZ [] w₀ Z):
  RC 129 #[.agg #[vi a.fN,vi a.fD],.agg #[vi b.fN,vi b.fD]] w₀ (vi r) [] []:=by
 unfold wS at h
 refine L0 func129 ntmps129 ?_
 refine WC.b<|Ld (Lg 2 (xP (cs:=[vi a.fN,vi a.fD]) U U) fun m _=>Lg 3 (xP (cs:=[vi b.fN,vi b.fD]) U U) fun n _=>Q1n U<|WC.b<|WC.b ?_)
 refine bK h fun o e h=>bK h fun f d h=>Ld<|Le 7 (xq zi U (xt .h1) U)<|Lm 8 (zf call130<|.cons U .nil) .nil (cc hz .nil fun w pz ho=>qC _ _ _ e w pz )<|Q2q U<|Ly false 3 10 (B:=f) U U U U U U (fun h=>(oJ<|qq d h).symm) (fun _ g=>?_) ?_
 ·have c:=qr d g
  obtain⟨p,i,c⟩:=ze c
  replace c:=oJ c
  exact Le 11 (xq zi U (xt .here) U)<|Lm 12 (zf call130<|.cons U .nil) .nil (cc hz .nil fun w pz ho=>qC _ _ _ i w pz )<|Q2q U<|Lz c U U .all
 refine Q0n<|Lj U h (fun j h=>?_)<|fun j h=>?_
 ·refine B1n U<|WC.ret<|Ll ?_
  obtain rfl:=oJ h
  exact Lh results129 (.tmp U .nil)<|fun w hw=>⟨xK U,hw.sub .nil⟩
 ·refine WC.skip<|Lb<|WC.b<|WC.b<|Lw nc [] U<|Lf 0 15 U (xk qh U U)<|Li 1 16 U (xl xB U<|xu .h1 U)<|Lf 2 17 U (xk qR U U)<|Li 3 18 U (xl xB U<|xu .here U)<|Lf 4 19 U (uk U U U)<|Lf 5 20 U (xk qh U U)<|Li 6 21 U (xl xB U<|xu .here U)<|Lf 7 22 U (xk qR U U)<|Li 8 23 U (xl xB U<|xu .h1 U)<|Lf 9 24 U (uk U U U)<|Lf 10 5 U (q_z U)<|Lf 11 6 U (q_z U)<|WD.done (by kernel_rfl)<|Lb<|WC.block<|B4n U<|Lj U h (fun k h=>?_)<|fun k h=>?_
  ·refine B1n U<|WC.ret<|Lv<|Ll ?_
   obtain rfl:=oJ h
   exact Lh results129 (.tmp U .nil)<|fun w hw=>⟨xK U,hw.sub .nil⟩
  ·refine B4n U<|Lj U h (fun l h=>?_)<|fun l h=>?_
   ·refine B1n U<|WC.ret<|Lv<|Ll ?_
    obtain rfl:=oJ h
    exact Lh results129 (.tmp U .nil)<|fun w hw=>⟨xK U,hw.sub .nil⟩
   ·refine WC.skip<|Lu<|Lb<|B1n U<|WC.ret ?_
    obtain rfl:=oJ h
    exact Lh results129 (.tmp U .nil)<|fun w hw=>⟨xK U,hw.sub .nil⟩
def gI(a:z8)(b:z8):Option Bool:=
 (if decide (a≠b) then(wS a.yg b.yg).bind fun c=>some (decide (c<=0)) else some false).bind fun d=>(if d then(wS a.ye b.ye).bind fun e=>some (decide (e<=0)) else some false).bind fun f=>some f
theorem cX(Z:Zp)(c:z8)(d:z8)(r:Bool)(h:gI c d=some r)(w₀:World)(hz:PZ [] w₀ Z):
  RC 223 #[.agg #[vi c.yg.fN,vi c.yg.fD,vi c.ye.fN,vi c.ye.fD],.agg #[vi d.yg.fN,vi d.yg.fD,vi d.ye.fN,vi d.ye.fD]] w₀ (.bool r) [] []:=by
 unfold gI at h
 refine L0 func223 ntmps223 ?_
 refine WC.b<|Ld (Lg 2 (xP (cs:=[vi c.yg.fN,vi c.yg.fD,vi c.ye.fN,vi c.ye.fD]) U U) fun p _=>Lg 3 (xP (cs:=[vi d.yg.fN,vi d.yg.fD,vi d.ye.fN,vi d.ye.fD]) U U) fun q _=>Q1n U<|WC.b ?_)
 refine bK h fun j g h=>bK h fun k i h=>Ld<|Le 5 (xq z40 U (xt .h1) U)<|Le 6 (xq z40 U (xt .here) U)<|Le 7 (l9 (enc:=vf) (a:=c) (b:=d) zAE U U)<|La U<|Ly true 6 8 (B:=j) U U U U U U (fun h=>(oJ<|qr g h).symm) (fun _ l=>?_) ?_
 ·have e:=qq g l
  obtain⟨t,m,e⟩:=ze e
  replace e:=oJ e
  exact Le 9 (xk gD U U)<|Le 10 (wp (cs:=[vi c.yg.fN,vi c.yg.fD]) zi U U<|ko (s:=2) .h1 U)<|Le 11 (xk gD U U)<|Le 12 (wp (cs:=[vi d.yg.fN,vi d.yg.fD]) zi U U<|ko (s:=2) .here U)<|Lm 13 (zf call129<|.r2 U U) .nil (cc hz .nil fun w pz ho=>gl _ _ _ _ m w pz )<|Q2q U<|Lz e U U .all
 refine La U<|Ly true 6 16 (B:=k) U U U U U U (fun h=>(oJ<|qr i h).symm) (fun _ n=>?_) ?_
 ·have f:=qq i n
  obtain⟨u,o,f⟩:=ze f
  replace f:=oJ f
  exact Le 17 (xk me U U)<|Le 18 (wp (cs:=[vi c.ye.fN,vi c.ye.fD]) zi U U<|ko (s:=2) .h1 U)<|Le 19 (xk me U U)<|Le 20 (wp (cs:=[vi d.ye.fN,vi d.ye.fD]) zi U U<|ko (s:=2) .here U)<|Lm 21 (zf call129<|.r2 U U) .nil (cc hz .nil fun w pz ho=>gl _ _ _ _ o w pz )<|Q2q U<|Lz f U U .all
 refine Q1n U<|WC.ret ?_
 obtain rfl:=oJ h
 exact Lh results223 (.tmp U .nil)<|fun w hw=>⟨xK U,hw.sub .nil⟩
def gT(a:z8)(b:z8):Option Bool:=
 (gI a b).bind fun c=>some c
theorem eu(Z:Zp)(c:Addr)(a:z8)(b:z8)(r:Bool)(h:gT a b=some r)(w₀:World)(hz:PZ [] w₀ Z)(d:ZC Z c [vi b.yg.fN,vi b.yg.fD,vi b.ye.fN,vi b.ye.fD]):
  RC 222 #[.agg #[vi a.yg.fN,vi a.yg.fD,vi a.ye.fN,vi a.ye.fD],vq c] w₀ (.bool r) [] []:=by
 unfold gT at h
 refine L0 func222 ntmps222 ?_
 refine WC.b<|Ld (Lg 2 (xP (cs:=[vi a.yg.fN,vi a.yg.fD,vi a.ye.fN,vi a.ye.fD]) U U) fun f _=>Q1n U<|WC.b ?_)
 refine bK h fun g e h=>Ld<|Le 4 (xq z40 U (xt .here) U)<|Le 5 (xq z40 U (vY hz.pv d) U)<|Lm 6 (zf call223<|.r2 U U) .nil (cc hz .nil fun w pz ho=>cX _ _ _ _ e w pz )<|Q1n U<|WC.ret ?_
 obtain rfl:=oJ h
 exact Lh results222 (.tmp U .nil)<|fun w hw=>⟨xK U,hw.sub .nil⟩
def mt(a:z8)(b:z8):Option Int:=
 (wS a.yg b.yg).bind fun c=>some c
theorem ew(Z:Zp)(a:z8)(b:z8)(r:Int)(h:mt a b=some r)(w₀:World)(hz:PZ [] w₀ Z):
  RC 225 #[.agg #[vi a.yg.fN,vi a.yg.fD,vi a.ye.fN,vi a.ye.fD],.agg #[vi b.yg.fN,vi b.yg.fD,vi b.ye.fN,vi b.ye.fD]] w₀ (vi r) [] []:=by
 unfold mt at h
 refine L0 func225 ntmps225 ?_
 refine WC.b<|Ld (Lg 2 (xP (cs:=[vi a.yg.fN,vi a.yg.fD,vi a.ye.fN,vi a.ye.fD]) U U) fun d _=>Lg 3 (xP (cs:=[vi b.yg.fN,vi b.yg.fD,vi b.ye.fN,vi b.ye.fD]) U U) fun e _=>Q1n U<|WC.b ?_)
 refine bK h fun f c h=>Ld<|Le 5 (xk gD U U)<|Le 6 (wp (cs:=[vi a.yg.fN,vi a.yg.fD]) zi U U<|ko (s:=2) .h1 U)<|Le 7 (xk gD U U)<|Le 8 (wp (cs:=[vi b.yg.fN,vi b.yg.fD]) zi U U<|ko (s:=2) .here U)<|Lm 9 (zf call129<|.r2 U U) .nil (cc hz .nil fun w pz ho=>gl _ _ _ _ c w pz )<|Q1n U<|WC.ret ?_
 obtain rfl:=oJ h
 exact Lh results225 (.tmp U .nil)<|fun w hw=>⟨xK U,hw.sub .nil⟩
theorem zR4:∀ w,(isAgg (Tryz.jt.t 24)).run Tryz.prog w = .ok true w:=fun _=>by kernel_rfl
theorem zR5:∀ w,(Go.sizeOf (Tryz.jt.t 24)).run Tryz.prog w = .ok 4 w:=fun _=>by kernel_rfl
def jY(z6P:List z8)(zn5:Int)(zn6:Int)(zjA:Int)(zgZ:z8->z8->Option Int):Option (List z8):=chk ((zn5=0/\zn6=(z6P.length:Int))/\(0<=zjA/\zjA<4611686018427387904/\z6P.length<4611686018427387904)) (chk (tB zgZ (w8 zgZ z6P)=true) (some (w8 zgZ z6P)))
theorem te(Z:Zp)(zh0:Option Addr)(zh1:Nat)(zn7:FuncId)(zwM:List Value)(z6P:List z8)(zn5:Int)(zn6:Int)(zjA:Int)(zgZ:z8->z8->Option Int)(r:List z8)(w₀:World)(hz:Pz [row (vs zh0 z6P.length zh1) 225 4 (z6P.flatMap vf)] w₀ Z)(a:∀ args w,(callFunc zn7 args).run Tryz.prog w = .ok (.enter zn7 args) w)(b:∀ w:World,PZ [] w Z->∀(x0:z8) (x1:z8) (r:Int),zgZ x0 x1=some r->Calls Tryz.prog zn7 (([.agg #[vi x0.yg.fN,vi x0.yg.fD,vi x0.ye.fN,vi x0.ye.fD],.agg #[vi x1.yg.fN,vi x1.yg.fD,vi x1.ye.fN,vi x1.ye.fD]]:List Value)++zwM).toArray w fun e w'=>e = .returned (vi r)/\Hp [] w w' [])(h:jY z6P zn5 zn6 zjA zgZ=some r)(fh:Ho w₀ [row (vs zh0 z6P.length zh1) 225 4 (z6P.flatMap vf)]):
  Calls Tryz.prog 229 #[vs zh0 z6P.length zh1,vi zn5,vi zn6,vi zjA,.func (.func zn7) #[] (zwM).toArray] w₀ fun e w'=>e = .returned (.tuple #[])/\(r.length=z6P.length)/\Hp (fps [row (vs zh0 z6P.length zh1) 225 4 (z6P.flatMap vf)]) w₀ w' [row (vs zh0 r.length zh1) 225 4 (r.flatMap vf)]:=by
 obtain⟨h0,h⟩:=xv h
 obtain⟨h1,h⟩:=xv h
 have hr:=(oJ h).symm
 exact sW (P:=Tryz.prog) (f:=229) (e:=225) (k:=4) (enc:=vf) (fun _=>U) (by decide) YB (fun β _ enc cf g cb hO xR off cap d0 w0 eg hC R=>Tryz.sB 4 zR4 zR5 enc cf g cb hO xR off cap d0 w0 eg hC R) (Tryz.sg (α:=Unit)) hz a b h0 h1 hr fh
def wK(a:List z8)(zjB:z8->z8->Option Int):Option (List z8):=
 (kq (u64 (a.length:Int))).bind fun b=>(jY a 0 (a.length:Int) b zjB).bind fun c=>some c
theorem uj(Z:Zp)(b:Option Addr)(c:Nat)(zjC:FuncId)(zq5:List Value)(a:List z8)(zjB:z8->z8->Option Int)(r:List z8)(h:wK a zjB=some r)(w₀:World)(hz:Pz [row (vs b a.length c) 225 4 (a.flatMap vf)] w₀ Z)(j:∀ args w,(callFunc zjC args).run Tryz.prog w = .ok (.enter zjC args) w)(k:∀ w:World,PZ [] w Z->∀(x0:z8) (x1:z8) (r:Int),zjB x0 x1=some r->Calls Tryz.prog zjC (([.agg #[vi x0.yg.fN,vi x0.yg.fD,vi x0.ye.fN,vi x0.ye.fD],.agg #[vi x1.yg.fN,vi x1.yg.fD,vi x1.ye.fN,vi x1.ye.fD]]:List Value)++zq5).toArray w fun e w'=>e = .returned (vi r)/\Hp [] w w' [])(fh:Ho w₀ [row (vs b a.length c) 225 4 (a.flatMap vf)]):
  Calls Tryz.prog 224 #[vs b a.length c,.func (.func zjC) #[] (zq5).toArray] w₀ fun e w'=>e = .returned (.tuple #[])/\(r.length=a.length)/\Hp (fps [row (vs b a.length c) 225 4 (a.flatMap vf)]) w₀ w' [row (vs b r.length c) 225 4 (r.flatMap vf)]:=by
 unfold wK at h
 refine Kd func224 ntmps224 fh ?_
 refine B1q U<|Le 6 (xQ underlying227 U)<|Q1n U<|bK h fun d l h=>bK h fun f m h=>D3q U<|Le 10 (tk underlying3 underlying147 U U)<|Lm 11 (zf call57<|.cons U .nil) .nil (cc hz .nil fun w pz ho=>tZ (Z:=_)  (z9m:=(u64 (a.length:Int))) (r:=d) w pz  l)<|La U<|WL.gj (dd:=13) U U U (zf call229<|.r5 U U U U U) (.cons .here .nil) (cc hz (.cons .here .nil) fun w pz ho=>te (Z:=_) (zh0:=b) (zh1:=c) (zn7:=zjC) (zwM:=zq5) (z6P:=a) (zn5:=0) (zn6:=(a.length:Int)) (zjA:=d) (zgZ:=zjB) (r:=f) w pz j k m ho) ?_
 rintro  g
 refine Ke (i:=0) U (u:=(vs b f.length c)) (ue g.symm)<|WL.nil ?_
 obtain rfl:=oJ h
 exact WX.gP results224 .nil<|fun w hw=>⟨sp,g.trans U,hw.sub (.cons .here .nil)⟩
def kS(a:List z8)(d:(List z8)->Option (List z8)):Nat->(List z8)->Int->Option (List z8)
 | 0,_,_=>none
 | f+1,c,b=>if decide (b<a.length) then jG (fun(g:List z8)=>kS a d f g (i64 (b+1))) fun e=>chk (0<=b/\b<a.length) ((q9 c (⟨(⟨((nth a b).yg).fN,((nth a b).yg).fD⟩:z1),(⟨((nth a b).ye).fN,((nth a b).ye).fD⟩:z1)⟩:z8)).bind fun h=>(if !h then(wR a (fun(y0:z8)=>gT y0 (⟨(⟨((nth a b).yg).fN,((nth a b).yg).fD⟩:z1),(⟨((nth a b).ye).fN,((nth a b).ye).fD⟩:z1)⟩:z8))).bind fun i=>some (!i) else some false).bind fun j=>if j then chk ((((c++([(⟨(⟨((nth a b).yg).fN,((nth a b).yg).fD⟩:z1),(⟨((nth a b).ye).fN,((nth a b).ye).fD⟩:z1)⟩:z8)]:List z8)).length:Nat):Int)*32<=140737488355328/\(((c++([(⟨(⟨((nth a b).yg).fN,((nth a b).yg).fD⟩:z1),(⟨((nth a b).ye).fN,((nth a b).ye).fD⟩:z1)⟩:z8)]:List z8)).length:Nat):Int)<=4611686018427387904) (e (c++([(⟨(⟨((nth a b).yg).fN,((nth a b).yg).fD⟩:z1),(⟨((nth a b).ye).fN,((nth a b).ye).fD⟩:z1)⟩:z8)]:List z8))) else e c) else d c
def uK(a:List z8):Option (List z8):=
 jG (fun(b:List z8)=>(wK b (fun(y0:z8) (y1:z8)=>mt y0 y1)).bind fun c=>some c) fun d=>kS a d xI ([]:List z8) 0
theorem af(Z:Zp)(s:Option Addr)(t:Nat)(b:List z8)(r:List z8)(h:uK b=some r)(w₀:World)(hz:PZ [] w₀ Z)(v:ZS Z 4 (rq vf) s t b):
  Calls Tryz.prog 212 #[vs s b.length t] w₀ fun e w'=>∃ x:Option Addr,∃ y:Nat,e = .returned (vs x r.length y)/\True/\Hp [] w₀ w' [row (vs x r.length y) 225 4 (r.flatMap vf)]:=by
 unfold uK at h
 refine L7 func212 ntmps212 ?_
 refine B1n U<|B1n U<|jK1 h fun z E h=>WC.qN (fun(f:List z8) (k:Option Addr) (m:Nat)=>(z f=some r)) (fun f k m=>[(3,vs k f.length m)]) (fun f k m=>[row (vs k f.length m) 225 4 (f.flatMap vf)]) ?_ ?_
 ·let A:Value:=(vs s b.length t);let C:Value:=(vi (b.length:Int));refine B1q U<|Le 7 (xQ underlying227 U)<|Q1n U<|WC.block<|WC.nilRow 225 4<|WC.tz (fun(p:Nat) (c:List z8) (a:Int) (g:Option Addr) (j:Nat)=>(kS b z p c a=some r)) (fun p c a g j=>[(0,A),(3,vs g c.length j),(6,A),(7,C),(8,vi a)]) (fun p c a g j=>[row (vs g c.length j) 225 4 (c.flatMap vf)]) (fun p c a g j=>p) ⟨xI,([]:List z8),0,none,0⟩ h (.q U) (.cons .here .nil) ?_
  rintro(_|F) c a g j h;·cases h
  rw[kS] at h
  refine B1n U<|WC.b<|Lj U h (fun G h=>?_)<|fun G h=>?_
  ·refine WC.skip<|Lb<|jK1 h fun H I h=>WC.qN (fun(d:List z8) (n:Option Addr) (o:Nat)=>(H d=some r)) (fun d n o=>[(0,A),(3,vs n d.length o),(6,A),(7,C),(8,vi a)]) (fun d n o=>[row (vs n d.length o) 225 4 (d.flatMap vf)]) ?_ ?_
   ·refine WC.block<|WC.b<|cK h fun J h=>Ld<|L2 (dd:=10) U U (Z:=Z) (Pr:=(rq vf)) z8J U U v J ?_
    rintro Y aa K ab rfl
    refine Le 11 (xq z40 U (vY hz.pv K) U) (Lg 5 (xC (cs:=[vi 0,vi 0,vi 0,vi 0]) zc2 U) fun L _=>Lk U U (xx zaH U U U .here U U U)<|Q0n<|WC.b ?_)
    refine bK h fun ae M h=>bK h fun N D h=>D1q U<|Le 13 (xq z40 U (xt .here) U)<|Lm 14 (zf call221<|.r2 U U) .nil (sX hz .nil (.cons .h1 .nil) fun w pz ho la=>ui _ _ _ _ _ _ M w pz<|ZA.row (la _ (.head _) _) (RR.flat (enc:=vf) (fun _=>U) _) ⟨w,pz.1⟩)<|Q2q U<|Ly true 4 16 (B:=N) U U U U U U (fun h=>(oJ<|qr D h).symm) (fun _ O=>?_) ?_
    ·have q:=qq D O
     obtain⟨ag,P,q⟩:=ze q
     replace q:=oJ q
     exact La U<|Le 18 (wq<|L4 (l:=[.tmp 5])<|.cons U .nil)<|Lm 19 (zf call208<|.r2 U U) .nil (sX hz .nil (.cons .here .nil) fun w pz ho la=>kC _ _ _ (zgW:=222) (zmU:=[vp L]) _ (zgV:=(fun(y0:z8)=>gT y0 (⟨(⟨((nth b a).yg).fN,((nth b a).yg).fD⟩:z1),(⟨((nth b a).ye).fN,((nth b a).ye).fD⟩:z1)⟩:z8))) _ P w pz (v.mono<|zl) call222<|fun w' il y0  r  hr=>eu _ _ _ _ _ hr w' il<|(la _ (.head _) _).stb)<|Q2q U<|Lz q U U .all
    refine Q0n<|Lj U h (fun Q h=>?_)<|fun Q h=>?_
    ·refine cK h fun R h=>D1q U<|Le 23 (xq z40 U (xt .here) U) (Lg 24 (xV (cs:=([(⟨(⟨((nth b a).yg).fN,((nth b a).yg).fD⟩:z1),(⟨((nth b a).ye).fN,((nth b a).ye).fD⟩:z1)⟩:z8)]:List z8).flatMap vf) z8J (Lq (l:=[.tmp 23]) (.cons U .nil) [0]) (fun _=>by kernel_rfl) U (by unfold maxLen;omega)) fun ad _=>WL.fA 25 (kZ (enc:=vf) (l1:=c) (l2:=([(⟨(⟨((nth b a).yg).fN,((nth b a).yg).fD⟩:z1),(⟨((nth b a).ye).fN,((nth b a).ye).fD⟩:z1)⟩:z8)]:List z8)) z8J U U .h2 (fun _=>U) U U (qg .here) (gr YB _) R) ?_)
     rintro⟨S,T⟩ _
     exact La U<|WL.nil<|Lu<|Lp ⟨c++([(⟨(⟨((nth b a).yg).fN,((nth b a).yg).fD⟩:z1),(⟨((nth b a).ye).fN,((nth b a).ye).fD⟩:z1)⟩:z8)]:List z8),S,T⟩ h (.q U)<|.cons .here .nil
    ·exact WC.skip<|Lu<|Lp ⟨c,g,j⟩ h (.q U)<|.cons .h1 .nil
   ·rintro d n o h
    replace h:=(I d).symm.trans h
    exact D2q U<|WL.nil<|WX.round ⟨F,d,i64 (a+1),n,o⟩ h (Nat.lt_succ_self _) (.q U)<|.cons .here .nil
  ·exact WC.exit<|Ln<|Ln<|Lx<|Lp ⟨c,g,j⟩ h (.cons U .nil)<|.cons .here .nil
 ·rintro f k m h
  replace h:=(E f).symm.trans h
  refine WC.b<|bK h fun V W h=>D1q U<|WL.gj (dd:=28) U U U (zf call224<|.r2 U U) (.cons .here .nil) (cc hz (.cons .here .nil) fun w pz ho=>uj _ _ _ (zjC:=225) (zq5:=[]) _ (zjB:=(fun(y0:z8) (y1:z8)=>mt y0 y1)) _ W w pz call225 (fun w' il y0 y1  r  hr=>ew _ _ _ _ hr w' il ) ho) ?_
  rintro  X
  refine Ke (i:=3) U (u:=(vs k V.length m)) (ue X.symm)<|Q0n<|B2n U<|WC.ret ?_
  obtain rfl:=oJ h
  exact Lh results212 (.tmp U .nil)<|fun w hw=>⟨k,m,xK U,trivial,hw.sub (.cons .here .nil)⟩
def mX(a:List z8)(b:List z8):Option (List z8×List z8):=
 some (a,b)
theorem nn(Z:Zp)(a:Option Addr)(b:Nat)(c:Option Addr)(d:Nat)(f:List z8)(g:List z8)(r:List z8×List z8)(h:mX f g=some r)(w₀:World)(hz:PZ [] w₀ Z)(p:ZS Z 4 (rq vf) a b f)(q:ZS Z 4 (rq vf) c d g):
  Calls Tryz.prog 213 #[vs a f.length b,vs c g.length d] w₀ fun e w'=>∃ i:Nat,∃ j:Nat,∃ k:Option Addr,∃ m:Nat,∃ n:Option Addr,∃ o:Nat,e = .returned (.func (.func 226) #[] #[vp i,vp j])/\((ZS Z 4 (rq vf) k m r.1)/\(ZS Z 4 (rq vf) n o r.2))/\Hp [] w₀ w' [stb i 227 [vs k r.1.length m],stb j 227 [vs n r.2.length o]]:=by
 unfold mX at h
 refine L0 func213 ntmps213 ?_
 refine WC.b<|Ld (Lg 2 (xP (cs:=[vs a f.length b]) U U) fun s _=>Lg 3 (xP (cs:=[vs c g.length d]) U U) fun t _=>Q1n U<|B0q<|Le 5 (wq<|L4 (l:=[.tmp 2,.tmp 3])<|.r2 U U)<|Q1n U<|WC.ret ?_)
 obtain rfl:=oJ h
 exact Lh results213 (.tmp U .nil)<|fun w hw=>⟨s,t,a,b,c,d,xK U,⟨p,q⟩,hw.sub (.s2 .h1 .here)⟩
def jz(zU:Type)(z31:List z8)(z6Q:(z8×z8)->zU->Option (Bool×zU))(z26:List z8)(b:Int)(d:zU->Option zU):Nat->Int->zU->Option zU
 | 0,_,_=>none
 | f+1,a,e=>if decide (a<z31.length) then chk (0<=a/\a<z31.length) ((z6Q ((⟨(⟨((nth z26 b).yg).fN,((nth z26 b).yg).fD⟩:z1),(⟨((nth z26 b).ye).fN,((nth z26 b).ye).fD⟩:z1)⟩:z8),(⟨(⟨((nth z31 a).yg).fN,((nth z31 a).yg).fD⟩:z1),(⟨((nth z31 a).ye).fN,((nth z31 a).ye).fD⟩:z1)⟩:z8)) e).bind fun c=>if !c.1 then some c.2 else jz zU z31 z6Q z26 b d f (i64 (a+1)) c.2) else d e
theorem pK{n:Nat}{zU:Type}{z31:List z8}{z6Q:(z8×z8)->zU->Option (Bool×zU)}{z26:List z8}{a:zU->Option zU}{b:zU}{r:zU}(h:jz zU z31 z6Q z26 f a n g b=some r):∃ m,n=m+1:=by
 cases n with
 | zero=>cases h
 | succ m=>exact⟨m,rfl⟩
def jA(zU:Type)(z26:List z8)(z31:List z8)(z6Q:(z8×z8)->zU->Option (Bool×zU))(b:zU->Option zU):Nat->Int->zU->Option zU
 | 0,_,_=>none
 | d+1,a,c=>if decide (a<z26.length) then jG (fun(e:zU)=>jA zU z26 z31 z6Q b d (i64 (a+1)) e) fun f=>chk (0<=a/\a<z26.length) (jG (fun(g:zU)=>f g) fun h=>jz zU z31 z6Q z26 a h xI 0 c) else b c
theorem pL{n:Nat}{zU:Type}{z26:List z8}{z31:List z8}{z6Q:(z8×z8)->zU->Option (Bool×zU)}{a:zU->Option zU}{b:zU}{r:zU}(h:jA zU z26 z31 z6Q a n f b=some r):∃ m,n=m+1:=by
 cases n with
 | zero=>cases h
 | succ m=>exact⟨m,rfl⟩
def gz(zU:Type)(z6Q:(z8×z8)->zU->Option (Bool×zU))(zb1:zU)(z26:List z8)(z31:List z8):Option zU:=
 jG (fun(a:zU)=>some a) fun b=>jA zU z26 z31 z6Q b xI 0 zb1
theorem du(Z:Zp)(zU:Type)(zh5:Nat)(zan:Type)(z8p:zan->zU->Asrt)(zd1:zan->zU->Prop)(zh6:zan)(zwT:Addr)(zh7:Option Addr)(zh8:Nat)(zh9:Addr)(zqb:Option Addr)(zqc:Nat)(z6Q:(z8×z8)->zU->Option (Bool×zU))(zb1:zU)(z26:List z8)(z31:List z8)(r:zU)(w₀:World)(hz:Pz [z8p zh6 zb1] w₀ Z)(K:iC Tryz.prog Z zh5 (α:=z8×z8) (σ:=zU) (G:=zan) (H:=Unit) (fun h x=>[.agg #[vi x.1.yg.fN,vi x.1.yg.fD,vi x.1.ye.fN,vi x.1.ye.fD],.agg #[vi x.2.yg.fN,vi x.2.yg.fD,vi x.2.ye.fN,vi x.2.ye.fD]]) (fun h x=>[]) z6Q z8p zd1)(L:zd1 zh6 zb1)(M:ZS Z 4 (rq vf) zh7 zh8 z26)(N:ZC Z zwT [vs zh7 z26.length zh8])(O:ZS Z 4 (rq vf) zqb zqc z31)(P:ZC Z zh9 [vs zqb z31.length zqc])(h:gz zU z6Q zb1 z26 z31=some r)(fh:Ho w₀ [z8p zh6 zb1]):
  Calls Tryz.prog 226 #[.func (.yield zh5) #[] #[],vq zwT,vq zh9] w₀ fun e w'=>∃ v:zan,e = .returned (.tuple #[])/\(zd1 v r)/\Hp (fps [z8p zh6 zb1]) w₀ w' [z8p v r]:=by
 unfold gz at h
 refine Calls.oh3 func226 ntmps226 fh ?_
 refine B0q<|Le 8 (xl zik U<|jS hz.pv N U)<|Le 9 (xQ underlying227 U)<|Q1n U<|jK1 h fun y Q h=>WC.oz (fun(m:zU) (n:zan)=>(y m=some r)/\(zd1 n m)) (fun m n=>[]) (fun m n=>[z8p n m]) ?_ ?_
 ·let A:Value:=(.func (.yield zh5) #[] #[]);let C:Value:=(vs zh7 z26.length zh8);let D:Value:=(vi (z26.length:Int));refine WC.block<|WC.mG (fun(o:Nat) (a:Int) (i:zU) (j:zan)=>(jA zU z26 z31 z6Q y o a i=some r)/\(zd1 j i)) (fun o a i j=>[(0,A),(2,vq zh9),(8,C),(9,D),(10,vi a)]) (fun o a i j=>[z8p j i]) (fun o a i j=>o) ⟨xI,0,zb1,zh6⟩ ⟨h,L⟩ (.q U) (.cons .here .nil) ?_
  rintro o a i j ⟨h,z⟩
  obtain⟨R,rfl⟩:=pL h
  rw[jA] at h
  refine B1n U<|WC.b<|Lj U h (fun S h=>?_)<|fun S h=>?_
  ·refine WC.skip<|Lb<|jK1 h fun T V h=>WC.fm (fun(k:zU) (p:zan)=>(T k=some r)/\(zd1 p k)) (fun k p=>[(0,A),(2,vq zh9),(8,C),(9,D),(10,vi a)]) (fun k p=>[z8p p k]) ?_ ?_
   ·refine WC.block<|WC.b<|cK h fun W h=>Ld<|L2 (dd:=12) U U (Z:=Z) (Pr:=(rq vf)) z8J U U M W ?_
    rintro ak al X am rfl
    refine Le 13 (xq z40 U (vY hz.pv X) U) (Lg 5 (xC (cs:=[vi 0,vi 0,vi 0,vi 0]) zc2 U) fun B _=>Lk U U (xx zaH U U U .here U U U)<|Q0n<|B0q<|Le 14 (xl zik U<|jS hz.pv P U)<|Le 15 (xQ underlying227 U)<|Q1n U ?_)
    refine jK1 h fun E Y h=>WC.oz (fun(l:zU) (q:zan)=>(E l=some r)/\(zd1 q l)) (fun l q=>[(0,A),(2,vq zh9),(8,C),(9,D),(10,vi a)]) (fun l q=>[z8p q l]) ?_ ?_
    ·refine WC.block<|WC.mG (fun(t:Nat) (c:Int) (d:zU) (f:zan)=>(jz zU z31 z6Q z26 a E t c d=some r)/\(zd1 f d)) (fun t c d f=>[(0,A),(2,vq zh9),(5,vp B),(8,C),(9,D),(10,vi a),(14,vs zqb z31.length zqc),(15,vi (z31.length:Int)),(16,vi c)]) (fun t c d f=>[stb B 225 [(vi<|((nth z26 a).yg).fN),(vi<|((nth z26 a).yg).fD),(vi<|((nth z26 a).ye).fN),(vi<|((nth z26 a).ye).fD)],z8p f d]) (fun t c d f=>t) ⟨xI,0,i,j⟩ ⟨h,z⟩ (.q U) (.a2) ?_
     rintro t c d f ⟨h,F⟩
     obtain⟨aa,rfl⟩:=pK h
     rw[jz] at h
     refine B1n U<|WC.b<|Lj U h (fun ab h=>?_)<|fun ab h=>?_
     ·refine WC.skip<|Lb<|WC.b<|WC.block<|WC.b<|cK h fun ad h=>Ld<|L2 (dd:=18) U U (Z:=Z) (Pr:=(rq vf)) z8J U U O ad ?_
      rintro an ao ae ap rfl
      refine Le 19 (xq z40 U (vY hz.pv ae) U) (Lg 7 (xC (cs:=[vi 0,vi 0,vi 0,vi 0]) zc2 U) fun aq _=>Lk U U (xx zaH U U U .here U U U)<|Q0n<|WC.b ?_)
      refine bK h fun u af h=>D1q U<|Le 21 (xq z40 U (xt .h1) U)<|Le 22 (xq z40 U (xt .here) U) (WL.yield (dd:=23) (x:=((⟨(⟨((nth z26 a).yg).fN,((nth z26 a).yg).fD⟩:z1),(⟨((nth z26 a).ye).fN,((nth z26 a).ye).fD⟩:z1)⟩:z8),(⟨(⟨((nth z31 c).yg).fN,((nth z31 c).yg).fD⟩:z1),(⟨((nth z31 c).ye).fN,((nth z31 c).ye).fD⟩:z1)⟩:z8))) (h:=()) (g:=f) (s:=d) (b:=u.1) (s':=u.2) K U U U (.q U) ((.cons .h2 .nil):Sel _ [z8p f d] _) af F (fun w hw=>hz.call hw ((.cons .h2 .nil):Sel _ [z8p f d] _)) fun I J=>Q1n U<|Lj U h (fun ag h=>?_)<|fun ag h=>?_)
      ·refine WC.ret<|Lv<|Ll<|Ll<|Lv<|Ll<|Lv<|Ll<|Ll<|Lv<|Ll ?_
       obtain rfl:=oJ h
       exact Lh results226 .nil<|fun w hw=>⟨I,sp,J,hw.sub (.cons .here .nil)⟩
      ·exact WC.skip<|Lu<|Lb<|D2q U<|WL.nil<|WX.round ⟨aa,i64 (c+1),u.2,I⟩ ⟨h,J⟩ (Nat.lt_succ_self _) (.q U)<|.s2 .h2 .here
     ·exact WC.exit<|Ln<|Ln<|Lx<|Lp ⟨d,f⟩ ⟨h,F⟩ (.q U)<|.cons .h1 .nil
    ·rintro l q ⟨h,ah⟩
     replace h:=(Y l).symm.trans h
     exact Lu<|Lp ⟨l,q⟩ ⟨h,ah⟩ (.q U)<|.cons .here .nil
   ·rintro k p ⟨h,ai⟩
    replace h:=(V k).symm.trans h
    exact D2q U<|WL.nil<|WX.round ⟨R,i64 (a+1),k,p⟩ ⟨h,ai⟩ (Nat.lt_succ_self _) (.q U)<|.cons .here .nil
  ·exact WC.exit<|Ln<|Ln<|Lx<|Lp ⟨i,j⟩ ⟨h,z⟩ .nil<|.cons .here .nil
 ·rintro m n ⟨h,aj⟩
  replace h:=(Q m).symm.trans h
  obtain rfl:=oJ h
  exact WX.gP results226 .nil<|fun w hw=>⟨n,sp,aj,hw.sub (.cons .here .nil)⟩
def rR(a:z1)(b:z1):Option (Int×Int):=
 some (i64 ((i64 (a.fN*b.fD))-(i64 (b.fN*a.fD))),i64 (a.fD*b.fD))
theorem Xg(Z:Zp)(e:Addr)(f:Addr)(a:z1)(b:z1)(r:Int×Int)(h:rR a b=some r)(w₀:World)(hz:PZ [] w₀ Z)(c:ZC Z e [vi a.fN,vi a.fD])(d:ZC Z f [vi b.fN,vi b.fD]):
  RC 188 #[vq e,vq f] w₀ (.tuple #[vi r.1,vi r.2]) [] []:=by
 unfold rR at h
 refine L0 func188 ntmps188 ?_
 refine B2n U<|WC.b<|Lw nc [] U<|Lf 0 4 U (xk qh U U)<|Li 1 5 U (xl xB U<|wy hz.pv c U)<|Lf 2 6 U (xk qR U U)<|Li 3 7 U (xl xB U<|wy hz.pv d U)<|Lf 4 8 U (uk U U U)<|Lf 5 9 U (xk qh U U)<|Li 6 10 U (xl xB U<|wy hz.pv d U)<|Lf 7 11 U (xk qR U U)<|Li 8 12 U (xl xB U<|wy hz.pv c U)<|Lf 9 13 U (uk U U U)<|Lf 10 14 U (sM U U U)<|Lf 11 15 U (xk qR U U)<|Li 12 16 U (xl xB U<|wy hz.pv c U)<|Lf 13 17 U (xk qR U U)<|Li 14 18 U (xl xB U<|wy hz.pv d U)<|Lf 15 19 U (uk U U U)<|Lf 16 2 U (q_z U)<|Lf 17 3 U (q_z U)<|WD.done (by kernel_rfl)<|Lb<|WC.ret ?_
 obtain rfl:=oJ h
 exact Lh results188 (.tmp U<|.tmp U .nil)<|fun w hw=>⟨vg U U,hw.sub .nil⟩
def re(a:z1)(b:z1):Option (z1×Int):=
 (vx a).bind fun e=>(if !e then some true else(vx b).bind fun f=>some (!f)).bind fun g=>if g then some ((⟨0,0⟩:z1),2) else(rR a b).bind fun c=>(gN c.1 c.2).bind fun d=>some (d.1,d.2)
theorem XX(Z:Zp)(a:z1)(b:z1)(r:z1×Int)(h:re a b=some r)(w₀:World)(hz:PZ [] w₀ Z):
  RC 159 #[.string ⟨#[45]⟩,.agg #[vi a.fN,vi a.fD],.agg #[vi b.fN,vi b.fD]] w₀ (.tuple #[.agg #[vi r.1.fN,vi r.1.fD],vi r.2]) [] []:=by
 unfold re at h
 refine Kc func159 ntmps159 ?_
 refine WC.b<|Ld (Lg 4 (xP (cs:=[vi a.fN,vi a.fD]) U U) fun d _=>Lg 5 (xP (cs:=[vi b.fN,vi b.fD]) U U) fun e _=>Lg 6 (xC (cs:=[vi 0,vi 0]) z1d U) fun s _=>Q1n U<|WC.b<|WC.b ?_)
 refine bK h fun u i h=>bK h fun f g h=>Ld<|Le 9 (xq zi U (xt .h2) U)<|Lm 10 (zf call130<|.cons U .nil) .nil (cc hz .nil fun w pz ho=>qC _ _ _ i w pz )<|Q2q U<|Ly false 3 12 (B:=f) U U U U U U (fun h=>(oJ<|qq g h).symm) (fun _ j=>?_) ?_
 ·have c:=qr g j
  obtain⟨y,m,c⟩:=ze c
  replace c:=oJ c
  exact Le 13 (xq zi U (xt .h1) U)<|Lm 14 (zf call130<|.cons U .nil) .nil (cc hz .nil fun w pz ho=>qC _ _ _ m w pz )<|Q2q U<|Lz c U U .all
 refine La U<|Ly false 7 17 (B:=f) U U U U U U (fun h=>h) (fun _ n=>?_) ?_
 ·exact La U<|Le 19 (cD (r:=false) (by decide) U U)<|La U<|WL.e U U U<|WL.e U U U<|WL.e U U U<|Q2q U<|Lz (Eq.symm n) U U .all
 refine Q0n<|Lj U h (fun o h=>?_)<|fun o h=>?_
 ·refine B0q<|Le 26 (xU (v:=(.agg #[vi 0,vi 0])) (Lq (l:=[]) .nil []) (fun _=>by kernel_rfl))<|Lk U U (xx zI U U U .here U U U)<|Q1n U<|WC.ret<|Ll ?_
  obtain rfl:=oJ h
  exact Lh results159 (.agg U zi U (xt .here)<|.tmp U .nil)<|fun w hw=>⟨vg U U,hw.sub .nil⟩
 ·refine WC.skip<|Lb<|B0q<|Lg 27 (je Value.string<|fun x=>x) ?_
  intro t _
  let A:Value:=(.func (.func 188) #[] #[vp d,vp e]);refine Le 28 (wq<|L4 (l:=[.tmp 4,.tmp 5])<|.r2 U U)<|Lk U U (jT (k:=⟨#[43]⟩) (v:=(.func (.func 187) #[] #[vp d,vp e])) ky underlying304 U U U U .here)<|Le 29 (wq<|L4 (l:=[.tmp 4,.tmp 5])<|.r2 U U)<|Lk U U (jT (k:=⟨#[45]⟩) (v:=A) ky underlying304 U U U U .here)<|Le 30 (wq<|L4 (l:=[.tmp 4,.tmp 5])<|.r2 U U)<|Lk U U (jT (k:=⟨#[42]⟩) (v:=(.func (.func 189) #[] #[vp d,vp e])) ky underlying304 U U U U .here)<|Le 31 (wq<|L4 (l:=[.tmp 4,.tmp 5])<|.r2 U U)<|Lk U U (jT (k:=⟨#[47]⟩) (v:=(.func (.func 190) #[] #[vp d,vp e])) ky underlying304 U U U U .here)<|Q2n U<|WC.b ?_
  refine bK h fun z p h=>bK h fun C q h=>D2q U<|Le 35 (cC (k:=⟨#[45]⟩) (dflt:=.nilFunc) (r:=A) ky underlying304 zp1 U U U .here (by rfl))<|Lm 36 (qp (l:=[]) call188 U .nil) .nil (sX hz .nil (.s2 .h3 .h2) fun w pz ho la=>Xg _ _ _ _ _ _ p w pz ((la _ (.head _) _).stb)<|(la _ (.tail _<|.head _) _).stb)<|Q2q U<|Lm 39 (zf call160<|.r2 U U) .nil (cc hz .nil fun w pz ho=>sb _ _ _ _ q w pz )<|Q2q U<|Lk U U (xx zI U U U .h1 U U U)<|Q1n U<|WC.ret ?_
  obtain rfl:=oJ h
  exact Lh results159 (.agg U zi U (xt .here)<|.tmp U .nil)<|fun w hw=>⟨vg U U,hw.sub .nil⟩
def qa(b:z1)(c:z1):Option (z1×Int):=
 (re b c).bind fun a=>some (a.1,a.2)
theorem rf(Z:Zp)(a:z1)(b:z1)(r:z1×Int)(h:qa a b=some r)(w₀:World)(hz:PZ [] w₀ Z):
  RC 124 #[.agg #[vi a.fN,vi a.fD],.agg #[vi b.fN,vi b.fD]] w₀ (.tuple #[.agg #[vi r.1.fN,vi r.1.fD],vi r.2]) [] []:=by
 unfold qa at h
 refine L0 func124 ntmps124 ?_
 refine WC.b<|Ld (Lg 2 (xP (cs:=[vi a.fN,vi a.fD]) U U) fun d _=>Lg 3 (xP (cs:=[vi b.fN,vi b.fD]) U U) fun e _=>Lg 4 (xC (cs:=[vi 0,vi 0]) z1d U) fun f _=>Q1n U<|WC.b ?_)
 refine bK h fun g c h=>Ld<|Le 6 (xq zi U (xt .h2) U)<|Le 7 (xq zi U (xt .h1) U)<|Lm 8 (zf call159<|.r3 U U U) .nil (cc hz .nil fun w pz ho=>XX _ _ _ _ c w pz )<|Q2q U<|Lk U U (xx zI U U U .here U U U)<|Q1n U<|WC.ret ?_
 obtain rfl:=oJ h
 exact Lh results124 (.agg U zi U (xt .here)<|.tmp U .nil)<|fun w hw=>⟨vg U U,hw.sub .nil⟩
end Go.Proofs.YthjnhebofpebpaaGreat
