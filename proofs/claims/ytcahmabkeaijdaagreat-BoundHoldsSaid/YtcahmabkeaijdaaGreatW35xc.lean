/- A part of this claim's proof: models of functions, walks, plain laws. No conditions. -/
import Derived.Test.YtcahmabkeaijdaaGreatW35xb
set_option linter.all false
namespace Go.Proofs.YtcahmabkeaijdaaGreat
open Go Go.RowKit Sep Tryz
variable {f g:Int}{i:List (List zb)}{j:z7}{k:zV}{l:List (z7×Int)}{o:List (List z6)}{p:List (Int×List Int)}{s:List (ym×z2)}
set_option maxRecDepth 30000
set_option maxHeartbeats 4000000
def jL(b:List (List zb))(k:z7)(d:zV)(g:List (z7×Int))(o:(List (List z6))->Int->Int->(List (Int×List Int))->(List (ym×z2))->Option (List (List z6)×Int×Int×(List (ym×z2)))):Nat->(List (List z6))->Int->Int->Int->(List (Int×List Int))->(List (ym×z2))->Option (List (List z6)×Int×Int×(List (ym×z2)))
 | 0,_,_,_,_,_,_=>none
 | t+1,h,l,a,i,e,c=>if decide (a<b.length) then jp5 (fun(u:List (List z6)) (v:Int) (w:Int) (x:List (Int×List Int)) (y:List (ym×z2))=>jL b k d g o t u v (i64 (a+1)) w x y) fun p=>chk (0<=a/\a<b.length) ((vC (nth b a) (fun(y0:zb)=>fl y0 k)).bind fun z=>if !z then p h l i e c else chk (0<=a/\a<d.yg.length) (chk (0<=a/\a<d.yg.length) ((jB ((nth d.yg a).yC)).bind fun j=>jp5 (fun(A:List (List z6)) (B:Int) (C:List (Int×List Int)) (D:Int) (E:Int)=>p A (max l ((nth d.yg a).yC)) B C (w4 c (⟨a,k⟩:ym) (⟨D,E⟩:z2))) fun q=>(uO (nth b a) k.ya).bind fun f=>if f.2 then(me f.1).bind fun r=>(gE d b c g i a).bind fun F=>(me f.1).bind fun G=>(jB (xC g G 0)).bind fun H=>(gH d b c g i (fun y0 y1=>gc y0 y1) F H).bind fun s=>(gH d b c g s.2 (fun y0 y1=>vQ y0 y1) (⟨(xC c (⟨a,r⟩:ym) (⟨0,0⟩:z2)).fN,(xC c (⟨a,r⟩:ym) (⟨0,0⟩:z2)).fD⟩:z2) s.1).bind fun m=>chk ((((xC e f.1.fQ [])++([a]:List Int)).length:Int)*8<=140737488355328/\(((xC e f.1.fQ [])++([a]:List Int)).length:Int)<=4611686018427387904) (q h m.2 (w4 e f.1.fQ ((xC e f.1.fQ [])++([a]:List Int))) m.1.fN m.1.fD) else(gE d b c g i a).bind fun n=>chk ((((h++([([(⟨j,n⟩:z6)]:List z6)]:List (List z6))).length:Nat):Int)*24<=140737488355328/\(((h++([([(⟨j,n⟩:z6)]:List z6)]:List (List z6))).length:Nat):Int)<=4611686018427387904) (q (h++([([(⟨j,n⟩:z6)]:List z6)]:List (List z6))) i e j.fN j.fD)))) else o h l i e c
def jM(b:List (Int×List Int))(c:Int)(e:zV)(f:List (List zb))(d:List (ym×z2))(g:List (z7×Int))(i:z7)(k:Int->Int->Int->Int->Int->Int->Option (List (List z6)×Int×Int×(List (ym×z2)))):Nat->Int->Int->Int->Int->Int->Int->Int->Option (List (List z6)×Int×Int×(List (ym×z2)))
 | 0,_,_,_,_,_,_,_=>none
 | r+1,l,a,m,n,o,p,q=>if decide (a<((xC b c []).length:Int)) then chk (0<=a/\a<((xC b c []).length:Int)) ((gH e f d g m (fun y0 y1=>vQ y0 y1) (⟨n,o⟩:z2) (⟨(xC d (⟨nth (xC b c []) a,i⟩:ym) (⟨0,0⟩:z2)).fN,(xC d (⟨nth (xC b c []) a,i⟩:ym) (⟨0,0⟩:z2)).fD⟩:z2)).bind fun h=>(gE e f d g h.2 (nth (xC b c []) a)).bind fun s=>(gH e f d g h.2 (fun y0 y1=>vQ y0 y1) (⟨p,q⟩:z2) s).bind fun j=>chk (0<=(nth (xC b c []) a)/\(nth (xC b c []) a)<e.yg.length) (jM b c e f d g i k r (max l ((nth e.yg (nth (xC b c []) a)).yC)) (i64 (a+1)) j.2 h.1.fN h.1.fD j.1.fN j.1.fD)) else k l m n o p q
def jN(b:zV)(d:List (Int×List Int))(k:List (List zb))(l:List (ym×z2))(m:List (z7×Int))(n:z7)(o:(List (List z6))->Int->Option (List (List z6)×Int×Int×(List (ym×z2)))):Nat->(List (List z6))->Int->Int->Option (List (List z6)×Int×Int×(List (ym×z2)))
 | 0,_,_,_=>none
 | s+1,c,a,e=>if decide (a<b.fK.length) then sK (fun(t:List (List z6)) (u:Int)=>jN b d k l m n o s t (i64 (a+1)) u) fun p=>if decide (((xC d a []).length:Int)=0) then p c e else(jB 0).bind fun q=>(jB 0).bind fun r=>jp6 (fun(v:Int) (w:Int) (f:Int) (g:Int) (h:Int) (i:Int)=>(jB v).bind fun j=>chk (0<=a/\a<b.fK.length) (chk ((((c++([([(⟨(⟨f,g⟩:z2),(⟨h,i⟩:z2)⟩:z6),(⟨j,(⟨1,(nth b.fK a).yr⟩:z2)⟩:z6)]:List z6)]:List (List z6))).length:Nat):Int)*24<=140737488355328/\(((c++([([(⟨(⟨f,g⟩:z2),(⟨h,i⟩:z2)⟩:z6),(⟨j,(⟨1,(nth b.fK a).yr⟩:z2)⟩:z6)]:List z6)]:List (List z6))).length:Nat):Int)<=4611686018427387904) (p (c++([([(⟨(⟨f,g⟩:z2),(⟨h,i⟩:z2)⟩:z6),(⟨j,(⟨1,(nth b.fK a).yr⟩:z2)⟩:z6)]:List z6)]:List (List z6))) w))) fun x=>jM d a b k l m n x xR 0 0 e q.fN q.fD r.fN r.fD else o c e
def mB(g:zV)(c:List (List zb))(h:List (ym×z2))(d:List (z7×Int))(i:Int)(e:z7):Option (List (List z6)×Int×Int×(List (ym×z2))):=
 jp5 (fun(a:List (List z6)) (j:Int) (k:Int) (l:List (Int×List Int)) (f:List (ym×z2))=>sK (fun(b:List (List z6)) (m:Int)=>chk (((a++b).length:Int)*24<=140737488355328/\((a++b).length:Int)<=4611686018427387904) (some (a++b,j,m,f))) fun n=>jN g l c f d e n xR ([]:List (List z6)) 0 k) fun o=>jL c e g d o xR ([]:List (List z6)) 0 0 i ([]:List (Int×List Int)) h
theorem nW(Z o bf bg bh bi bj bk bl bm bn bo bp bq br bs bt bu bv bw g m a ah bx p bz B r)(h:mB a ah bx p bz B=some r){Nv}(hz:Pz [stb o 95 [vs bf a.fM.length bg,vs bh a.yf.length bi,vs bj a.fS.length bk,vs bl a.fK.length bm,vs bn a.yg.length bo,vs bp a.fH.length bq,vs br a.fU.length bs,vs bt a.ye.length bu,vs bv ah.length bw,.map (some g),.map (some m),vi bz],xU g (ga jH) (ga xZ) bx,xU m (ga wp) vI p] Nv Z)(aU:ZS Z 4 (gk Z) bf bg a.fM)(aV:ZS Z 4 (fJ Z) bh bi a.yf)(aW:ZS Z 4 (rq kT) bj bk a.fS)(aM:ZS Z 4 (rq mM) bl bm a.fK)(ar:ZS Z 7 (f0 Z) bn bo a.yg)(aX:ZS Z 5 (rq mb) bp bq a.fH)(aY:ZS Z 3 (fO Z) br bs a.fU)(aZ:ZS Z 4 (rq mc) bt bu a.ye)(aN:ZS Z 1 (mN Z) bv bw ah)(ip:Ho Nv [stb o 95 [vs bf a.fM.length bg,vs bh a.yf.length bi,vs bj a.fS.length bk,vs bl a.fK.length bm,vs bn a.yg.length bo,vs bp a.fH.length bq,vs br a.fU.length bs,vs bt a.ye.length bu,vs bv ah.length bw,.map (some g),.map (some m),vi bz],xU g (ga jH) (ga xZ) bx,xU m (ga wp) vI p]):
  Calls Tryz.prog 42 #[vp o,.agg #[vi B.ya,vi B.fQ]] Nv fun e w'=>∃ Zn:Zp,∃ cd:Option Addr,∃ ce:Nat,∃ cf:List Value,e = .returned (.tuple #[vs cd r.1.length ce,vi r.2.1])/\(RR 1 (jJ (Z++Zn)) cf r.1)/\Hp (fps [stb o 95 [vs bf a.fM.length bg,vs bh a.yf.length bi,vs bj a.fS.length bk,vs bl a.fK.length bm,vs bn a.yg.length bo,vs bp a.fH.length bq,vs br a.fU.length bs,vs bt a.ye.length bu,vs bv ah.length bw,.map (some g),.map (some m),vi bz],xU g (ga jH) (ga xZ) bx,xU m (ga wp) vI p]) Nv w' [fz Zn,row (vs cd r.1.length ce) 173 1 cf,stb o 95 [vs bf a.fM.length bg,vs bh a.yf.length bi,vs bj a.fS.length bk,vs bl a.fK.length bm,vs bn a.yg.length bo,vs bp a.fH.length bq,vs br a.fU.length bs,vs bt a.ye.length bu,vs bv ah.length bw,.map (some g),.map (some m),vi r.2.2.1],xU g (ga jH) (ga xZ) r.2.2.2,xU m (ga wp) vI p]:=by
 unfold mB at h
 refine Ni func42 U ip U ?_
 let N:List Value:=[vi B.ya,vi B.fQ];refine WC.pool<|B0q<|Lh 3 (wg (cs:=N)) ?_
 intro q _
 refine Q2n U<|B2n U<|B0q<|Lh 20 (fh vI<|bM (α:=Int)) ?_
 intro y _
 let C:Value:=(vs bv ah.length bw);let E:Value:=(vs bf a.fM.length bg);let F:Value:=(vs bh a.yf.length bi);let G:Value:=(vs bj a.fS.length bk);let H:Value:=(vs bl a.fK.length bm);let I:Value:=(vs bn a.yg.length bo);let J:Value:=(vs bp a.fH.length bq);let K:Value:=(vs br a.fU.length bs);let L:Value:=(vs bt a.ye.length bu);refine Ok (M:=[q7 (tc 3 1 e3) ([]:List (Int×((Nat×(Option Addr×Nat))×List Int))),xU y vI bM (rH ([]:List (Int×((Nat×(Option Addr×Nat))×List Int)))),stb q 97 N,fz [],stb o 95 [E,F,G,H,I,J,K,L,C,(.map<|some g),(.map<|some m),vi bz],xU g (ga jH) (ga xZ) bx,xU m (ga wp) vI p]) (fun _ h=>Hp.W5 (tc 3 1 e3) h)<|Q1n U<|B1n U ?_
 refine jK5 h fun cg ct h=>O9 (fun ao ap a0 T ai aD bA bB ak X=>(cg ao ap a0 T ai=some r)/\(xN (Z++[]) (Z++aD))/\(RR 1 (jJ (Z++aD)) ak ao)/\(tz X=T)) (fun ao ap a0 T ai aD bA bB ak X=>[(0,vp o),(3,vp q),(6,vs bA ao.length bB),(7,vn),(8,(.map<|some y)),(9,vi ap)]) (fun ao ap a0 T ai aD bA bB ak X=>[fz aD,row (vs bA ao.length bB) 173 1 ak,stb o 95 [E,F,G,H,I,J,K,L,C,(.map<|some g),(.map<|some m),vi a0],stb q 97 N,xU y vI bM (rH X),q7 (tc 3 1 e3) X,xU g (ga jH) (ga xZ) ai,xU m (ga wp) vI p]) ?_ ?_
 ·refine B1q U<|Le 22 w3<|Le 23 (xA Ts)<|Le 24 (Nt zFw .h4)<|Le 25 (w9 underlying32)<|Q1n U<|WC.block<|WC.nilRow 173 1<|Pp (fun bC V au n aE z al t av aw am aj=>(jL ah B a p cg bC V au n aE z al=some r)/\(xN (Z++[]) (Z++t))/\(RR 1 (jJ (Z++t)) am V)/\(tz aj=z)) (fun bC V au n aE z al t av aw am aj=>[(0,vp o),(3,vp q),(6,vs av V.length aw),(7,vn),(8,(.map<|some y)),(9,vi au),(24,C),(25,vi (ah.length:Int)),(26,vi n)]) (fun bC V au n aE z al t av aw am aj=>[fz t,row (vs av V.length aw) 173 1 am,stb o 95 [E,F,G,H,I,J,K,L,C,(.map<|some g),(.map<|some m),vi aE],stb q 97 N,xU y vI bM (rH aj),q7 (tc 3 1 e3) aj,xU g (ga jH) (ga xZ) al,xU m (ga wp) vI p]) (fun bC V au n aE z al t av aw am aj=>bC) ⟨xR,([]:List (List z6)),0,0,bz,([]:List (Int×List Int)),bx,[],none,0,[],([]:List (Int×((Nat×(Option Addr×Nat))×List Int)))⟩ ⟨h,xN.refl _,RR.nil _ _,U⟩ .q (.s8 .h4 .here .h3 .h2 .h1 .here .here .here) ?_
  rintro (_|cu) V au n aE z al t av aw am aj ⟨h,b,b1,bT⟩;·cases h
  rw[jL] at h
  refine B1n U<|WC.b<|Lj h (fun cw h=>?_)<|fun cw h=>?_
  ·refine Nn<|jK5 h fun cx cy h=>O9 (fun aF a1 a2 a3 a4 a5 bD bE bF a6=>(cx aF a1 a2 a3 a4=some r)/\(xN (Z++t) (Z++a5))/\(RR 1 (jJ (Z++a5)) bF aF)/\(tz a6=a3)) (fun aF a1 a2 a3 a4 a5 bD bE bF a6=>[(0,vp o),(3,vp q),(6,vs bD aF.length bE),(7,vn),(8,(.map<|some y)),(9,vi a1),(24,C),(25,vi (ah.length:Int)),(26,vi n)]) (fun aF a1 a2 a3 a4 a5 bD bE bF a6=>[fz a5,row (vs bD aF.length bE) 173 1 bF,stb o 95 [E,F,G,H,I,J,K,L,C,(.map<|some g),(.map<|some m),vi a2],stb q 97 N,xU y vI bM (rH a6),q7 (tc 3 1 e3) a6,xU g (ga jH) (ga xZ) a4,xU m (ga wp) vI p]) ?_ ?_
   ·refine WC.block<|WC.b<|cK h fun cz h=>D1q U<|L3 (dd:=29) (Z:=(Z++t)) (Pr:=(mN (Z++t))) zdH ((aN.mono<|zl.trans b).weak (fun _ _ h=>jc (zl.trans b) h)) cz ?_
    rintro dR dS cA dU ⟨dV,dW,rfl,ch⟩
    refine Le 30 (xB zc1 U<|mG (hz.pv2 .here) cA)<|Q2n U<|WC.b<|WC.b<|bK h fun el cB h=>D1q U<|Le 32 (vf<|L6 (l:=[.tmp 3])<|.cons U .nil)<|Lm 33 (Ns call37) .nil (eQ hz .nil .here (.cons .h3 .nil) fun w pz ho la=>sW _ _ _ (zmN:=67) (zuU:=[vp q]) _ (zmM:=(fun(y0:zb)=>fl y0 B)) _ cB pz (ch.mono<|zl) call67<|fun w' hz' y0  r  hr=>dT _ _ _ _ _ hr hz'<|(la _ (.head _) _).stb)<|Q1n U<|Lj h (fun cC h=>?_)<|fun cC h=>?_
    ·exact Nz<|Lo<|Lv<|Lp ⟨V,au,aE,z,al,t,av,aw,am,aj⟩ ⟨h,xN.refl _,b1,bT⟩ .q<|.a8
    ·refine Nn<|WC.b<|cK h fun cD h=>D2q U<|Le 37 w3<|Le 38 (xA rB)<|Le 39 (xA mX)<|Le 40 (Nt z8f .h2)<|La U<|L3 (dd:=42) (Z:=(Z++t)) (Pr:=(f0 (Z++t))) zdI ((ar.mono<|zl.trans b).weak (fun _ _ h=>qN (zl.trans b) h)) cD ?_
     rintro dX dY cE dZ ⟨d0,d1,rfl,d2⟩
     refine Le 43 (xA lK)<|Le 44 (xB xL U<|wA (hz.pv2 .here) cE)<|Le 45 Ye<|Q1n U<|WC.b<|cK h fun cF h=>bK h fun Y cH h=>D1q U<|Le 47 w3<|Le 48 (xA rB)<|Le 49 (xA mX)<|Le 50 (Nt z8f .h2)<|La U<|L3 (dd:=52) (Z:=(Z++t)) (Pr:=(f0 (Z++t))) zdI ((ar.mono<|zl.trans b).weak (fun _ _ h=>qN (zl.trans b) h)) cF ?_
     rintro d3 d4 cI d5 ⟨d6,d7,rfl,d8⟩
     refine Le 53 (xA lK)<|Le 54 (xB xL U<|wA (hz.pv2 .here) cI)<|Lm 55 (Ns call43) .nil (sO hz .nil .here fun w pz ho=>ui _ _ _ cH pz ) (Lh 12 (xW (cs:=[vi 0,vi 0]) z1s) fun b2 _=>Ln (xP z12 .here)<|Q0n ?_)
     refine jK5 h fun cJ cL h=>O9 (fun aG a7 a8 aO aP a9 bG bH bI ba=>(cJ aG a7 a8 aO aP=some r)/\(xN (Z++t) (Z++a9))/\(RR 1 (jJ (Z++a9)) bI aG)/\(tz ba=a8)) (fun aG a7 a8 aO aP a9 bG bH bI ba=>[(0,vp o),(3,vp q),(6,vs bG aG.length bH),(7,vn),(8,(.map<|some y)),(9,(vi<|max au<|(nth a.yg n).yC)),(10,vi n),(12,vp b2),(24,C),(25,vi (ah.length:Int)),(26,vi n)]) (fun aG a7 a8 aO aP a9 bG bH bI ba=>[fz a9,row (vs bG aG.length bH) 173 1 bI,stb o 95 [E,F,G,H,I,J,K,L,C,(.map<|some g),(.map<|some m),vi a7],stb q 97 N,xU y vI bM (rH ba),q7 (tc 3 1 e3) ba,stb b2 132 [vi aO,vi aP],xU g (ga jH) (ga xZ) al,xU m (ga wp) vI p]) ?_ ?_
     ·refine WC.b<|bK h fun x cM h=>D1q U<|Le 58 (xA cv)<|Le 59 (Nt xL .h4)<|Lm 60 (Ns call39) .nil (sO hz .nil .h1 fun w pz ho=>cO _ _ _ _ _ _ cM pz ch)<|Q2q U<|La U (Lh 13 (xW (cs:=[vi 0,vi 0,vi 0]) zdJ) fun ca _=>Ln (xP zc3 .here)<|Q1n U<|B1n U<|Lj h (fun cN h=>?_)<|fun cN h=>?_)
      ·refine WC.b ?_
       obtain⟨bU,cP,h⟩:=z8 h
       obtain⟨em,cQ,h⟩:=z8 h
       obtain⟨cR,cS,h⟩:=z8 h
       obtain⟨en,cT,h⟩:=z8 h
       obtain⟨eo,cU,h⟩:=z8 h
       obtain⟨bJ,cV,h⟩:=z8 h
       let S:List Value:=[vi x.1.ya,vi x.1.fX,vi x.1.fQ];refine Lu (fun i=>[13,22,23,24].contains i) [rG o 95 [(9,(.map<|some g)),(10,(.map<|some m))],W7 g (ga jH) (ga xZ) (⟨n,bU⟩:ym) ((⟨0,0⟩:z2):z2) (xC al (⟨n,bU⟩:ym) (⟨0,0⟩:z2)),stb ca 62 S]<|Lf 0 U q_m<|Lf 1 U q_m<|Lf 2 U w3<|Lf 3 U (xA V7)<|Nb 4 U (wT.wk (.s3 .h4 .h7 .here)<|.stb (.cons U<|.cons U .nil)<|.any U (fun _ h=>pj h)<|.same .nil) (xB zxY U<|mH .here<|.head _)<|Lf 5 U q_m<|Lg 6 U (xK z4D (xM .here))<|L4 7 U (Ns call40) (sO hz .nil .h2 fun w pz ho=>tD _ _ _ cP pz )<|Lf 8 U (wm (v:=(.agg #[vi n,vi bU.ya,vi bU.fQ])) (Lq (l:=[.tmp 69,.tmp 71]) (.r2 U U) [0,1]) (fun _=>by kernel_rfl))<|Nb 9 U (wT.wk (.s3 .h4 .h7 .here)<|.stb (.cons U<|.cons U .nil)<|.any U (fun _ h=>pj h)<|.same .nil) (Q2 (k:=(⟨n,bU⟩:ym)) (dflt:=((⟨0,0⟩:z2):z2)) zy0 underlying92 z1s U U U .h1)<|Lf 10 U q_m<|Lf 11 U q_m<|Lf 12 U q_m<|Lf 14 U q_m<|Lf 15 U w3<|Lf 16 U (xA V8)<|Nb 17 U (wT.wk (.s3 .h4 .h7 .here)<|.stb (.cons U<|.cons U .nil)<|.any U (fun _ h=>pj h)<|.same .nil) (xB zqN U<|mH .here<|.tail _<|.head _)<|Nb 18 U (wT.wk (.s3 .h4 .h7 .here)<|.stb (.cons U<|.cons U .nil)<|.any U (fun _ h=>pj h)<|.same .nil) (xK z4D (xM .h2))<|WD.call0 (i:=13) (dd:=77) U (by kernel_rfl) U (.inl ⟨U,(by exact(wT.wk (.s3 .h6 .here .h1)<|.stb (.cons U<|.cons U .nil)<|.any U (fun _ h=>pj h)<|.same .nil))⟩) (Ns call71) (.s2 (.there .h7)<|.there .h7) (eQ hz (.s2 (.there .h7)<|.there .h7) .h2 (.cons .h4 .nil) fun w pz ho la=>Calls.mono (pS _ _ _ _ _ _ _ _ _ _ _ _ _ _ _ _ _ _ _ _ _ _ _ _ _ _ _ _ _ cQ pz ((((aU.mono<|zl.trans b).weak (fun _ _ h=>qQ (zl.trans b) h)).mono zl).weak (fun _ _ h=>qQ zl h)) ((((aV.mono<|zl.trans b).weak (fun _ _ h=>qX (zl.trans b) h)).mono zl).weak (fun _ _ h=>qX zl h)) ((aW.mono<|zl.trans b).mono zl) ((aM.mono<|zl.trans b).mono zl) ((((ar.mono<|zl.trans b).weak (fun _ _ h=>qN (zl.trans b) h)).mono zl).weak (fun _ _ h=>qN zl h)) ((aX.mono<|zl.trans b).mono zl) ((((aY.mono<|zl.trans b).weak (fun _ _ h=>qY (zl.trans b) h)).mono zl).weak (fun _ _ h=>qY zl h)) ((aZ.mono<|zl.trans b).mono zl) ((((aN.mono<|zl.trans b).weak (fun _ _ h=>jc (zl.trans b) h)).mono zl).weak (fun _ _ h=>jc zl h)) ((la _ (.head _) _).stb) ho)<|fun _ _ h'=>⟨h'.1,trivial,h'.2⟩) ?_
       intro _
       refine L4 19 U (Ns call40) (sO hz .nil .h4 fun w pz ho=>tD _ _ _ cS pz )<|Lg 20 U (ku (k:=cR) (dflt:=(0:Int)) zgR underlying93 ms .h1)<|L4 21 U (Ns call43) (sO hz .nil .h4 fun w pz ho=>ui _ _ _ cT pz ) (WD.call0 (i:=22) (dd:=86) U (by kernel_rfl) U (.inl ⟨U,(by exact(wT.wk (.s3 .here .here .h1)<|.stb (.cons U<|.cons U .nil)<|.any U (fun _ h=>pj h)<|.same .nil))⟩) (Ns call68) (.s3 .h6 .here .here) (sO hz (.s3 .h6 .here .here) .h2 fun w pz ho=>Calls.mono (rT _ _ _ _ _ _ _ _ _ _ _ _ _ _ _ _ _ _ _ _ _ _ (zej:=70) (zjY:=[]) _ _ _ _ _ (zhg:=(fun y0 y1=>gc y0 y1)) _ _ _ cU pz ((aU.mono<|zl.trans b).weak (fun _ _ h=>qQ (zl.trans b) h)) ((aV.mono<|zl.trans b).weak (fun _ _ h=>qX (zl.trans b) h)) (aW.mono<|zl.trans b) (aM.mono<|zl.trans b) ((ar.mono<|zl.trans b).weak (fun _ _ h=>qN (zl.trans b) h)) (aX.mono<|zl.trans b) ((aY.mono<|zl.trans b).weak (fun _ _ h=>qY (zl.trans b) h)) (aZ.mono<|zl.trans b) ((aN.mono<|zl.trans b).weak (fun _ _ h=>jc (zl.trans b) h)) call70 (fun w' hz' y0 y1  r  hr=>az _ _ _ _ hr hz' ) ho)<|fun _ _ h'=>⟨h'.1,trivial,h'.2⟩) fun _=>WD.call0 (i:=23) (dd:=87) U (by kernel_rfl) U (.inl ⟨U,(by exact(wT.wk (.s3 .here .here .h1)<|.stb (.cons U<|.cons U .nil)<|.any U (fun _ h=>pj h)<|.same .nil))⟩) (Ns call68) .a3 (sO hz .a3 .h2 fun w pz ho=>Calls.mono (rT _ _ _ _ _ _ _ _ _ _ _ _ _ _ _ _ _ _ _ _ _ _ (zej:=69) (zjY:=[]) _ _ _ _ _ (zhg:=(fun y0 y1=>vQ y0 y1)) _ _ _ cV pz ((aU.mono<|zl.trans b).weak (fun _ _ h=>qQ (zl.trans b) h)) ((aV.mono<|zl.trans b).weak (fun _ _ h=>qX (zl.trans b) h)) (aW.mono<|zl.trans b) (aM.mono<|zl.trans b) ((ar.mono<|zl.trans b).weak (fun _ _ h=>qN (zl.trans b) h)) (aX.mono<|zl.trans b) ((aY.mono<|zl.trans b).weak (fun _ _ h=>qY (zl.trans b) h)) (aZ.mono<|zl.trans b) ((aN.mono<|zl.trans b).weak (fun _ _ h=>jc (zl.trans b) h)) call69 (fun w' hz' y0 y1  r  hr=>pl _ _ _ _ hr hz' ) ho)<|fun _ _ h'=>⟨h'.1,trivial,h'.2⟩) ?_)
       intro _
       refine Nc (i:=24) U (by kernel_rfl) (by kernel_rfl) (xP z12 .h4)<|Ny (by kernel_rfl)<|Lb<|cK h fun cW h=>Lu (fun i=>[9,10].contains i) [rG ca 62 [(2,vi x.1.fQ)]]<|Lf 0 U q_m<|Lf 1 U (xA lJ)<|Nb 2 U (wT.wk (.cons .h4 .nil)<|.stb (.cons U .nil) .nil) (xB xL U<|mH .here<|.head _)<|Lf 3 U q_m<|Lf 4 U (xA lJ)<|Lg 5 U (Nt xL .h4)<|Lg 6 U (ku (k:=x.1.fQ) (dflt:=(((none,0),[]):(Option Addr×Nat)×List Int)) tA underlying165 zy1<|.there .h7)<|Pm (fun _ h=>Hp.aw x.1.fQ bT (.there<|.there .h7) h) ?_
       rintro⟨cX,cY⟩ cZ
       refine Nk (i:=94) U (u:=(vs cX ((xC z x.1.fQ []).length) cY)) (congrArg bM cZ)<|Lf 7 U q_m (WD.new (i:=8) (dd:=96) U (by kernel_rfl) U (ws (cs:=([n]:List Int).flatMap e3) zc4 (Lq (l:=[.tmp 95]) (.cons U .nil) [0]) (fun _=>by kernel_rfl) (by unfold maxLen;omega)) (fun h'=>absurd h' (by decide)) fun c0 _=>WD.old (i:=9) (dd:=97) U (by kernel_rfl) U (fun _=>(wT.wk (.cons .h7 .nil)<|.stb (.cons U .nil) .nil)) (kK (enc:=e3) (l1:=xC z x.1.fQ []) (l2:=([n]:List Int)) zc4 .h1 (fun _=>U) (kN .here) (gN e3_oc _) cW) ?_)
       rintro⟨b3,b4⟩ _
       exact Nc (i:=10) U (by kernel_rfl) (by kernel_rfl) (mO (k:=x.1.fQ) (v:=(((b3,b4),(xC z x.1.fQ [])++([n]:List Int)):(Option Addr×Nat)×List Int)) tA underlying165<|.there<|.there<|.there<|.there .h7)<|Dz (fun _ h=>Hp.GX (k:=x.1.fQ) (.s2 .h1 .h2) h)<|Dz (M:=[xU y vI bM (rH<|w4 aj x.1.fQ ((0,(b3,b4)),(xC z x.1.fQ [])++([n]:List Int))),q7 (tc 3 1 e3) (w4 aj x.1.fQ ((0,(b3,b4)),(xC z x.1.fQ [])++([n]:List Int))),row (vs (some ⟨c0,0,none⟩) (([n]:List Int).length) 1) 3 1 (([n]:List Int).flatMap e3),stb b2 132 [vi bJ.1.fN,vi bJ.1.fD],stb o 95 [E,F,G,H,I,J,K,L,C,(.map<|some g),(.map<|some m),vi bJ.2],xU g (ga jH) (ga xZ) al,xU m (ga wp) vI p,stb ca 62 S,fz t,row (vs av V.length aw) 173 1 am,stb q 97 N]) (fun _ h=>Hp.Xk .h1 (Q3 _ _ _ _).symm h)<|Ny (by kernel_rfl)<|Lp ⟨V,bJ.2,w4 z x.1.fQ ((xC z x.1.fQ [])++([n]:List Int)),bJ.1.fN,bJ.1.fD,t,av,aw,am,w4 aj x.1.fQ ((0,(b3,b4)),(xC z x.1.fQ [])++([n]:List Int))⟩ ⟨h,xN.refl _,b1,cG bT _ _ _⟩ .q<|.s9 (.there .h7) (.there .h7) .h4 .h7 .here .here .h1 .h1 .h1
      ·refine bK h fun ax c1 h=>cK h fun c2 h=>Lu (fun i=>[4,8].contains i) [stb b2 132 [vi Y.fN,vi Y.fD]]<|Lf 0 U q_m<|Nb 1 U (wT.of<|.cons .h1 .nil) (xK ze (xM .here))<|Lf 2 U q_m<|Lf 3 U q_m (WD.call0 (i:=4) (dd:=102) U (by kernel_rfl) U (.inl ⟨U,(wT.of<|.cons .h3 .nil)⟩) (Ns call71) (.s2 (.there .h7)<|.there .h7) (eQ hz (.s2 (.there .h7)<|.there .h7) .h2 (.cons .h4 .nil) fun w pz ho la=>Calls.mono (pS _ _ _ _ _ _ _ _ _ _ _ _ _ _ _ _ _ _ _ _ _ _ _ _ _ _ _ _ _ c1 pz ((((aU.mono<|zl.trans b).weak (fun _ _ h=>qQ (zl.trans b) h)).mono zl).weak (fun _ _ h=>qQ zl h)) ((((aV.mono<|zl.trans b).weak (fun _ _ h=>qX (zl.trans b) h)).mono zl).weak (fun _ _ h=>qX zl h)) ((aW.mono<|zl.trans b).mono zl) ((aM.mono<|zl.trans b).mono zl) ((((ar.mono<|zl.trans b).weak (fun _ _ h=>qN (zl.trans b) h)).mono zl).weak (fun _ _ h=>qN zl h)) ((aX.mono<|zl.trans b).mono zl) ((((aY.mono<|zl.trans b).weak (fun _ _ h=>qY (zl.trans b) h)).mono zl).weak (fun _ _ h=>qY zl h)) ((aZ.mono<|zl.trans b).mono zl) ((((aN.mono<|zl.trans b).weak (fun _ _ h=>jc (zl.trans b) h)).mono zl).weak (fun _ _ h=>jc zl h)) ((la _ (.head _) _).stb) ho)<|fun _ _ h'=>⟨h'.1,trivial,h'.2⟩) fun _=>Lf 5 U (wm (v:=(.agg #[vi Y.fN,vi Y.fD,vi ax.fN,vi ax.fD])) (Lq (l:=[.tmp 99,.tmp 102]) (.r2 U U) [0,1]) (fun _=>by kernel_rfl)) (WD.new (i:=6) (dd:=104) U (by kernel_rfl) U (ws (cs:=([(⟨Y,ax⟩:z6)]:List z6).flatMap qk) z8K (Lq (l:=[.tmp 103]) (.cons U .nil) [0]) (fun _=>by kernel_rfl) (by unfold maxLen;omega)) (fun h'=>absurd h' (by decide)) fun ci _=>WD.freezeS (ls:=([(⟨Y,ax⟩:z6)]:List z6)) .here .h4 hz (RR.flat (enc:=qk) (fun _=>U) _) ?_))
       intro b5 cj c3
       let D:List Value:=[vs (some ⟨ci,0,none⟩) (([(⟨Y,ax⟩:z6)]:List z6).length) 1];have ck:RR 1 (jJ (Z++b5)) D ([([(⟨Y,ax⟩:z6)]:List z6)]:List (List z6)):=(RR.cons (r:=D) U (show jJ _ _ _ from⟨_,_,U,c3⟩) (RR.nil _ _))
       refine WD.new (i:=7) (dd:=105) U (by kernel_rfl) U (ws (cs:=[vs (some ⟨ci,0,none⟩) (([(⟨Y,ax⟩:z6)]:List z6).length) 1]) zdL (Lq (l:=[.tmp 104]) (.cons U .nil) [0]) (fun _=>by kernel_rfl) (by unfold maxLen;omega)) (fun h'=>absurd h' (by decide)) ?_
       intro d9 _
       have c4:RR 1 (jJ (Z++b5)) (am++D) (V++([([(⟨Y,ax⟩:z6)]:List z6)]:List (List z6))):=RR.app (b1.weak (fun _ _ h=>g6 cj h)) ck
       refine WD.old (i:=8) (dd:=106) U (by kernel_rfl) U (fun _=>(wT.of<|.cons .h6 .nil)) (af (l1:=V) (l2:=([([(⟨Y,ax⟩:z6)]:List z6)]:List (List z6))) (vy:=D) (Pr:=(jJ (Z++b5))) zdL U U .h6 ck (kN .here) (Yf U XY) c2) ?_
       rintro⟨c5,c6⟩ _
       exact Lf 9 U q_z<|Ny (by kernel_rfl)<|Lp ⟨V++([([(⟨Y,ax⟩:z6)]:List z6)]:List (List z6)),aE,z,Y.fN,Y.fD,b5,c5,c6,am++D,aj⟩ ⟨h,cj,c4,bT⟩ .q<|.s9 .h2 .here .h5 .h5 .h5 .h5 .h4 .h1 .h1
     ·rintro aG a7 a8 aO aP a9 bG bH bI ba ⟨h,c7,c8,c9⟩
      replace h:=(cL aG a7 a8 aO aP).symm.trans h
      exact Lu (fun i=>[8].contains i) []<|Lf 0 U q_m<|Lf 1 U w3<|Lf 2 U (xA V7)<|Lg 3 U (Nt zxY .h2)<|Lf 4 U q_m<|Lg 5 U (xK z5S (xM .h3))<|Lf 6 U (wm (v:=(.agg #[vi n,vi B.ya,vi B.fQ])) (Lq (l:=[.tmp 111,.tmp 112]) (.r2 U U) [0,1]) (fun _=>by kernel_rfl))<|Lg 7 U (xK ze (xM .h6))<|Nc (i:=8) U (by kernel_rfl) (by kernel_rfl) (mO (k:=(⟨n,B⟩:ym)) (v:=(⟨aO,aP⟩:z2)) zy0 underlying92 .h7)<|Ny (by kernel_rfl)<|Lt<|Lp ⟨aG,(max au<|(nth a.yg n).yC),a7,a8,w4 al (⟨n,B⟩:ym) (⟨aO,aP⟩:z2),a9,bG,bH,bI,ba⟩ ⟨h,c7,c8,c9⟩ .q<|.s8 .h1 .h1 .h1 .h1 .h1 .h1 .here .h1
   ·rintro aF a1 a2 a3 a4 a5 bD bE bF a6 ⟨h,da,db,dc⟩
    replace h:=(cy aF a1 a2 a3 a4).symm.trans h
    exact D2q U<|WL.nil<|Nx ⟨cu,aF,a1,i64 (n+1),a2,a3,a4,a5,bD,bE,bF,a6⟩ ⟨h,b.trans da,db,dc⟩ (Nat.lt_succ_self _) .q<|.a8
  ·exact Nz<|Lo<|Lo<|Lv<|Lp ⟨V,au,aE,z,al,t,av,aw,am,aj⟩ ⟨h,b,b1,bT⟩ .q<|.a8
 ·rintro ao ap a0 T ai aD bA bB ak X ⟨h,d,de,b6⟩
  replace h:=(ct ao ap a0 T ai).symm.trans h
  obtain⟨cl,df,h⟩:=jZ h
  let O:Value:=(vs bA ao.length bB);refine O8 (fun ay bL aH bV bW aQ=>(cl ay bL=some r)/\(xN (Z++aD) (Z++aH))/\(RR 1 (jJ (Z++aH)) aQ ay)) (fun ay bL aH bV bW aQ=>[(6,O),(7,vs bV ay.length bW),(9,vi ap)]) (fun ay bL aH bV bW aQ=>[fz aH,row O 173 1 ak,row (vs bV ay.length bW) 173 1 aQ,stb o 95 [E,F,G,H,I,J,K,L,C,(.map<|some g),(.map<|some m),vi bL],xU g (ga jH) (ga xZ) ai,xU m (ga wp) vI p]) ?_ ?_
  ·let P:Value:=(vi (a.fK.length:Int));refine B1q U<|Le 117 w3<|Le 118 (xA rB)<|Le 119 (xA lI)<|Le 120 (Nt zjx .h2)<|Le 121 (w9 underlying25)<|Q1n U<|WC.block<|WC.nilRow 173 1<|Ot (fun bN aa f aI W aJ aK an=>(jN a T ah ai p B cl bN aa f aI=some r)/\(xN (Z++aD) (Z++W))/\(RR 1 (jJ (Z++W)) an aa)) (fun bN aa f aI W aJ aK an=>[(0,vp o),(3,vp q),(6,O),(7,vs aJ aa.length aK),(8,(.map<|some y)),(9,vi ap),(121,P),(122,vi f)]) (fun bN aa f aI W aJ aK an=>[fz W,row O 173 1 ak,row (vs aJ aa.length aK) 173 1 an,stb o 95 [E,F,G,H,I,J,K,L,C,(.map<|some g),(.map<|some m),vi aI],stb q 97 N,xU y vI bM (rH X),q7 (tc 3 1 e3) X,xU g (ga jH) (ga xZ) ai,xU m (ga wp) vI p]) (fun bN aa f aI W aJ aK an=>bN) ⟨xR,([]:List (List z6)),0,a0,aD,none,0,[]⟩ ⟨h,xN.refl _,RR.nil _ _⟩ .q (.s9 .h1 .h1 .here .here .here .here .here .here .here) ?_
   rintro (_|dg) aa f aI W aJ aK an ⟨h,c,cb⟩;·cases h
   rw[jN] at h
   refine B1n U<|WC.b<|Lj h (fun dh h=>?_)<|fun dh h=>?_
   ·refine Nn<|jK2 h fun di dj h=>O8 (fun aL bb bc bO bP bQ=>(di aL bb=some r)/\(xN (Z++W) (Z++bc))/\(RR 1 (jJ (Z++bc)) bQ aL)) (fun aL bb bc bO bP bQ=>[(0,vp o),(3,vp q),(6,O),(7,vs bO aL.length bP),(8,(.map<|some y)),(9,vi ap),(121,P),(122,vi f)]) (fun aL bb bc bO bP bQ=>[fz bc,row O 173 1 ak,row (vs bO aL.length bP) 173 1 bQ,stb o 95 [E,F,G,H,I,J,K,L,C,(.map<|some g),(.map<|some m),vi bb],stb q 97 N,xU y vI bM (rH X),q7 (tc 3 1 e3) X,xU g (ga jH) (ga xZ) ai,xU m (ga wp) vI p]) ?_ ?_
    ·refine WC.block<|B2n U<|WC.b<|B2q U<|Le 127 (ku (k:=f) (dflt:=(((none,0),[]):(Option Addr×Nat)×List Int)) tA underlying165 zy1 .h5)<|Ph (fun _ h=>Hp.aw f b6 .h6 h) ?_
     rintro⟨dk,dl⟩ cm
     refine L7 (i:=127) U (u:=(vs dk ((xC T f []).length) dl)) (congrArg bM cm)<|Le 128 (w9 underlying109)<|La U<|Ok (fun _ h=>Hp.Q4 b6 cm .a2 h)<|Q0n<|Lj h (fun dm h=>?_)<|fun dm h=>?_
     ·exact Nz<|Lo<|Lv<|Lp ⟨aa,aI,W,aJ,aK,an⟩ ⟨h,xN.refl _,cb⟩ .q<|.s9 .h1 .h1 .h1 .h1 .h1 .h1 .here .here .here
     ·refine Nn<|WC.b<|bK h fun b7 dn h=>bK h fun b8 dp h=>Ld<|Lm 130 (Ns call43) .nil (sO hz .nil .h1 fun w pz ho=>ui _ _ _ dn pz )<|Lm 131 (Ns call43) .nil (sO hz .nil .h1 fun w pz ho=>ui _ _ _ dp pz )<|Le 132 (wm (v:=(.agg #[vi b7.fN,vi b7.fD,vi b8.fN,vi b8.fD])) (Lq (l:=[.tmp 130,.tmp 131]) (.r2 U U) [0,1]) (fun _=>by kernel_rfl)) (Lh 16 (xW (cs:=[vi 0,vi 0,vi 0,vi 0]) zdM) fun bX _=>Ln (xP zc5 .here)<|Q0n<|B1n U ?_)
      obtain⟨cn,dq,h⟩:=U5 h
      let R:Value:=(vs aJ aa.length aK);refine O8 (fun bR bd ab ad ae ag=>(cn bR bd ab ad ae ag=some r)) (fun bR bd ab ad ae ag=>[(0,vp o),(3,vp q),(6,O),(7,R),(8,(.map<|some y)),(9,vi ap),(15,vi f),(16,vp bX),(17,vi bR),(121,P),(122,vi f)]) (fun bR bd ab ad ae ag=>[fz W,row O 173 1 ak,row R 173 1 an,stb o 95 [E,F,G,H,I,J,K,L,C,(.map<|some g),(.map<|some m),vi bd],stb q 97 N,xU y vI bM (rH X),q7 (tc 3 1 e3) X,stb bX 171 [vi ab,vi ad,vi ae,vi ag],xU g (ga jH) (ga xZ) ai,xU m (ga wp) vI p]) ?_ ?_
      ·refine B2q U<|Le 135 (ku (k:=f) (dflt:=(((none,0),[]):(Option Addr×Nat)×List Int)) tA underlying165 zy1 .h7)<|Ph (fun _ h=>Hp.aw f b6 .h1 h) ?_
       rintro⟨dr,dt⟩ co
       let Q:Value:=(vs dr ((xC T f []).length) dt);refine L7 (i:=135) U (u:=Q) (congrArg bM co)<|Le 136 (w9 underlying109)<|Q1n U<|WC.block<|Ot (fun bY aR aq be aS aT aA aB=>(jM T f a ah ai p B cn bY aR aq be aS aT aA aB=some r)) (fun bY aR aq be aS aT aA aB=>[(0,vp o),(3,vp q),(6,O),(7,R),(8,(.map<|some y)),(9,vi ap),(15,vi f),(16,vp bX),(17,vi aR),(121,P),(122,vi f),(135,Q),(136,vi ((xC T f []).length:Int)),(137,vi aq)]) (fun bY aR aq be aS aT aA aB=>[fz W,row O 173 1 ak,row R 173 1 an,row Q 3 1 ((xC T f []).flatMap e3),stb o 95 [E,F,G,H,I,J,K,L,C,(.map<|some g),(.map<|some m),vi be],stb q 97 N,xU y vI bM (rH X),q7 (tc 3 1 e3) (uM f X),stb bX 171 [vi aS,vi aT,vi aA,vi aB],xU g (ga jH) (ga xZ) ai,xU m (ga wp) vI p]) (fun bY aR aq be aS aT aA aB=>bY) ⟨xR,0,0,aI,b7.fN,b7.fD,b8.fN,b8.fD⟩ h .q (.s11 .h3 .h3 .h3 .here .h2 .h2 .h2 .here .here .here .here) ?_
       rintro(_|du) aR aq be aS aT aA aB h;·cases h
       rw[jM] at h
       refine B1n U<|WC.b<|Lj h (fun dv h=>?_)<|fun dv h=>?_
       ·refine Nn<|WC.b<|WC.block<|WC.b<|cK h fun bZ h=>Ld<|Nj (fun w hw=>Hp.vo .h3 hw (by intro hz';have:=bZ;rw[hz'] at this;omega)) ?_
        rintro⟨ea,rfl⟩
        refine Le 139 (xY zc4 bZ.1 bZ.2 wz)<|Le 140 (xB xL U<|oQ .h3<|(wG (enc:=e3) (l:=xC T f []) (i:=aq) (sz:=1) (fun _=>U) bZ.1 bZ.2) 0 _ U)<|Q1n U<|WC.b<|bK h fun bS dw h=>bK h fun ep dx h=>bK h fun b0 dy h=>Lu (fun i=>[11,17,18,20,22].contains i) [rG bX 171 [(2,vi aA),(3,vi aB)]]<|Lf 0 U q_m<|Lf 1 U (xA uf)<|Lg 2 U (wi (cs:=[vi aS,vi aT]) ze<|gp (s:=2) (.there .h7) U)<|Lf 3 U q_m<|Lf 4 U w3<|Lf 5 U (xA V7)<|Lg 6 U (Nt zxY .h4)<|Lf 7 U q_m<|Lg 8 U (xK z5S (xM .h5))<|Lf 9 U (wm (v:=(.agg #[(vi<|nth (xC T f []) aq),vi B.ya,vi B.fQ])) (Lq (l:=[.tmp 148,.tmp 149]) (.r2 U U) [0,1]) (fun _=>by kernel_rfl))<|Lg 10 U (ku (k:=(⟨nth (xC T f []) aq,B⟩:ym)) (dflt:=((⟨0,0⟩:z2):z2)) zy0 underlying92 z1s<|.there<|.there .h7)<|Lf 12 U q_m<|Lf 13 U (xA tR)<|Nb 14 U (wT.wk (.cons (.there .h7) .nil)<|.stb (.cons U<|.cons U .nil) .nil) (wi (cs:=[vi aA,vi aB]) ze<|eT .here (.head _)<|(.tail _<|.head _))<|Lf 15 U q_m<|Lf 16 U q_m (WD.call0 (i:=11) (dd:=152) U (by kernel_rfl) U (.inl ⟨U,(wT.wk (.cons (.there<|.there<|.there .h7) .nil)<|.stb (.cons U<|.cons U .nil) .nil)⟩) (Ns call68) (.s3 .h4 (.there .h7)<|.there .h7) (sO hz (.s3 .h4 (.there .h7)<|.there .h7) .here fun w pz ho=>Calls.mono (rT _ _ _ _ _ _ _ _ _ _ _ _ _ _ _ _ _ _ _ _ _ _ (zej:=69) (zjY:=[]) _ _ _ _ _ (zhg:=(fun y0 y1=>vQ y0 y1)) _ _ _ dw pz ((aU.mono<|zl.trans (d.trans c)).weak (fun _ _ h=>qQ (zl.trans (d.trans c)) h)) ((aV.mono<|zl.trans (d.trans c)).weak (fun _ _ h=>qX (zl.trans (d.trans c)) h)) (aW.mono<|zl.trans (d.trans c)) (aM.mono<|zl.trans (d.trans c)) ((ar.mono<|zl.trans (d.trans c)).weak (fun _ _ h=>qN (zl.trans (d.trans c)) h)) (aX.mono<|zl.trans (d.trans c)) ((aY.mono<|zl.trans (d.trans c)).weak (fun _ _ h=>qY (zl.trans (d.trans c)) h)) (aZ.mono<|zl.trans (d.trans c)) ((aN.mono<|zl.trans (d.trans c)).weak (fun _ _ h=>jc (zl.trans (d.trans c)) h)) call69 (fun w' hz' y0 y1  r  hr=>pl _ _ _ _ hr hz' ) ho)<|fun _ _ h'=>⟨h'.1,trivial,h'.2⟩) fun _=>Lf 19 U (xA uf)<|WD.call0 (i:=17) (dd:=158) U (by kernel_rfl) U (.inl ⟨U,(wT.wk (.cons (.there<|.there<|.there .h7) .nil)<|.stb (.cons U<|.cons U .nil) .nil)⟩) (Ns call71) (.s2 .h1 .h1) (eQ hz (.s2 .h1 .h1) .h1 (.cons .here .nil) fun w pz ho la=>Calls.mono (pS _ _ _ _ _ _ _ _ _ _ _ _ _ _ _ _ _ _ _ _ _ _ _ _ _ _ _ _ _ dx pz ((((aU.mono<|zl.trans (d.trans c)).weak (fun _ _ h=>qQ (zl.trans (d.trans c)) h)).mono zl).weak (fun _ _ h=>qQ zl h)) ((((aV.mono<|zl.trans (d.trans c)).weak (fun _ _ h=>qX (zl.trans (d.trans c)) h)).mono zl).weak (fun _ _ h=>qX zl h)) ((aW.mono<|zl.trans (d.trans c)).mono zl) ((aM.mono<|zl.trans (d.trans c)).mono zl) ((((ar.mono<|zl.trans (d.trans c)).weak (fun _ _ h=>qN (zl.trans (d.trans c)) h)).mono zl).weak (fun _ _ h=>qN zl h)) ((aX.mono<|zl.trans (d.trans c)).mono zl) ((((aY.mono<|zl.trans (d.trans c)).weak (fun _ _ h=>qY (zl.trans (d.trans c)) h)).mono zl).weak (fun _ _ h=>qY zl h)) ((aZ.mono<|zl.trans (d.trans c)).mono zl) ((((aN.mono<|zl.trans (d.trans c)).weak (fun _ _ h=>jc (zl.trans (d.trans c)) h)).mono zl).weak (fun _ _ h=>jc zl h)) ((la _ (.head _) _).stb) ho)<|fun _ _ h'=>⟨h'.1,trivial,h'.2⟩) ?_)
        intro _
        refine WD.call0 (i:=18) (dd:=159) U (by kernel_rfl) U (.inl ⟨U,(wT.wk (.cons (.there<|.there<|.there .h7) .nil)<|.stb (.cons U<|.cons U .nil) .nil)⟩) (Ns call68) (.s3 .h2 .here .here) (sO hz (.s3 .h2 .here .here) .here fun w pz ho=>Calls.mono (rT _ _ _ _ _ _ _ _ _ _ _ _ _ _ _ _ _ _ _ _ _ _ (zej:=69) (zjY:=[]) _ _ _ _ _ (zhg:=(fun y0 y1=>vQ y0 y1)) _ _ _ dy pz ((aU.mono<|zl.trans (d.trans c)).weak (fun _ _ h=>qQ (zl.trans (d.trans c)) h)) ((aV.mono<|zl.trans (d.trans c)).weak (fun _ _ h=>qX (zl.trans (d.trans c)) h)) (aW.mono<|zl.trans (d.trans c)) (aM.mono<|zl.trans (d.trans c)) ((ar.mono<|zl.trans (d.trans c)).weak (fun _ _ h=>qN (zl.trans (d.trans c)) h)) (aX.mono<|zl.trans (d.trans c)) ((aY.mono<|zl.trans (d.trans c)).weak (fun _ _ h=>qY (zl.trans (d.trans c)) h)) (aZ.mono<|zl.trans (d.trans c)) ((aN.mono<|zl.trans (d.trans c)).weak (fun _ _ h=>jc (zl.trans (d.trans c)) h)) call69 (fun w' hz' y0 y1  r  hr=>pl _ _ _ _ hr hz' ) ho)<|fun _ _ h'=>⟨h'.1,trivial,h'.2⟩) fun _=>P6 (i:=20) U (by kernel_rfl) U U U (wT.wk (.cons .here .nil)<|.stb (.cons U<|.cons U .nil) .nil) (kO (ds:=[vi bS.1.fN,vi bS.1.fD,vi aA,vi aB]) z12 (.there<|.there<|.there .h7))<|Lf 21 U (xA tR)<|Nc (i:=22) U (by kernel_rfl) (by kernel_rfl) (kO (ds:=[vi bS.1.fN,vi bS.1.fD,vi b0.1.fN,vi b0.1.fD]) z12 .here)<|Ny (by kernel_rfl)<|Lb<|cK h fun dz h=>D2q U<|Le 164 w3<|Le 165 (xA rB)<|Le 166 (xA mX)<|Le 167 (Nt z8f .h1)<|La U<|L3 (dd:=169) (Z:=(Z++W)) (Pr:=(f0 (Z++W))) zdI ((ar.mono<|zl.trans (d.trans c)).weak (fun _ _ h=>qN (zl.trans (d.trans c)) h)) dz ?_
        rintro eb ec dA ed ⟨ee,ef,rfl,eg⟩
        exact Le 170 (xA lK)<|Le 171 (xB xL U<|wA (hz.pv2 .h4) dA)<|Le 172 Ye<|La U<|WL.nil<|Lt<|Lb<|D2q U<|WL.nil<|Nx ⟨du,(max aR<|(nth a.yg<|nth (xC T f []) aq).yC),i64 (aq+1),b0.2,bS.1.fN,bS.1.fD,b0.1.fN,b0.1.fD⟩ h (Nat.lt_succ_self _) .q<|.s11 .h4 .h4 .h4 .h4 .h1 .h3 .h3 .h3 .here .here .here
       ·exact Nz<|Lo<|Lo<|Lv<|Pq (fun _ h=>Hp.Q4 b6 co (.s2 .h3 .h6) h)<|Lp ⟨aR,be,aS,aT,aA,aB⟩ h .q<|.s10 .h1 .h1 .h1 .h1 .h1 .h1 .here .here .here .here
      ·rintro bR bd ab ad ae ag h
       replace h:=(dq bR bd ab ad ae ag).symm.trans h
       refine bK h fun aC dB h=>cK h fun dC h=>cK h fun dD h=>Lu (fun i=>[17].contains i) []<|Lf 0 U q_m<|Lg 1 U (xK z3v (xM .h7))<|Lf 2 U q_m<|L4 3 U (Ns call43) (sO hz .nil .here fun w pz ho=>ui _ _ _ dB pz )<|Lf 4 U q_m<|Lf 5 U w3<|Lf 6 U (xA rB)<|Lf 7 U (xA lI)<|Lg 8 U (Nt zjx .h3)<|Lf 9 U q_m<|Nf (j:=10) (dd:=184) (by kernel_rfl) z2B z2C (Z:=(Z++W)) (Pr:=(rq mM)) zqK (aM.mono<|zl.trans (d.trans c)) dC ?_
       rintro eh ei dE ej rfl
       refine Lf 11 U (xA dL)<|Lg 12 U (xB xL U<|wA (hz.pv2 .here) dE)<|Lf 13 U (wm (v:=(.agg #[vi 1,(vi<|(nth a.fK f).yr)])) (Lq (l:=[.const (vi 1),.tmp 186]) (.r2 U U) [0,1]) (fun _=>by kernel_rfl))<|Lf 14 U (wm (v:=(.agg #[vi aC.fN,vi aC.fD,vi 1,(vi<|(nth a.fK f).yr)])) (Lq (l:=[.tmp 177,.tmp 187]) (.r2 U U) [0,1]) (fun _=>by kernel_rfl)) (WD.new (i:=15) (dd:=189) U (by kernel_rfl) U (ws (cs:=([(⟨(⟨ab,ad⟩:z2),(⟨ae,ag⟩:z2)⟩:z6),(⟨aC,(⟨1,(nth a.fK f).yr⟩:z2)⟩:z6)]:List z6).flatMap qk) z8K (Lq (l:=[.tmp 175,.tmp 188]) (.r2 U U) [0,1]) (fun _=>by kernel_rfl) (by unfold maxLen;omega)) (fun h'=>absurd h' (by decide)) fun cp _=>WD.freezeS (ls:=([(⟨(⟨ab,ad⟩:z2),(⟨ae,ag⟩:z2)⟩:z6),(⟨aC,(⟨1,(nth a.fK f).yr⟩:z2)⟩:z6)]:List z6)) .here .here hz (RR.flat (enc:=qk) (fun _=>U) _) ?_)
       intro b9 cq dF
       let A:List Value:=[vs (some ⟨cp,0,none⟩) (([(⟨(⟨ab,ad⟩:z2),(⟨ae,ag⟩:z2)⟩:z6),(⟨aC,(⟨1,(nth a.fK f).yr⟩:z2)⟩:z6)]:List z6).length) 2];have cr:RR 1 (jJ (Z++b9)) A ([([(⟨(⟨ab,ad⟩:z2),(⟨ae,ag⟩:z2)⟩:z6),(⟨aC,(⟨1,(nth a.fK f).yr⟩:z2)⟩:z6)]:List z6)]:List (List z6)):=(RR.cons (r:=A) U (show jJ _ _ _ from⟨_,_,U,dF⟩) (RR.nil _ _))
       refine WD.new (i:=16) (dd:=190) U (by kernel_rfl) U (ws (cs:=[vs (some ⟨cp,0,none⟩) (([(⟨(⟨ab,ad⟩:z2),(⟨ae,ag⟩:z2)⟩:z6),(⟨aC,(⟨1,(nth a.fK f).yr⟩:z2)⟩:z6)]:List z6).length) 2]) zdL (Lq (l:=[.tmp 189]) (.cons U .nil) [0]) (fun _=>by kernel_rfl) (by unfold maxLen;omega)) (fun h'=>absurd h' (by decide)) ?_
       intro ek _
       have dG:RR 1 (jJ (Z++b9)) (an++A) (aa++([([(⟨(⟨ab,ad⟩:z2),(⟨ae,ag⟩:z2)⟩:z6),(⟨aC,(⟨1,(nth a.fK f).yr⟩:z2)⟩:z6)]:List z6)]:List (List z6))):=RR.app (cb.weak (fun _ _ h=>g6 cq h)) cr
       refine WD.old (i:=17) (dd:=191) U (by kernel_rfl) U (fun _=>(wT.of .nil)) (af (l1:=aa) (l2:=([([(⟨(⟨ab,ad⟩:z2),(⟨ae,ag⟩:z2)⟩:z6),(⟨aC,(⟨1,(nth a.fK f).yr⟩:z2)⟩:z6)]:List z6)]:List (List z6))) (vy:=A) (Pr:=(jJ (Z++b9))) zdL U U .h3 cr (kN .here) (Yf U XY) dD) ?_
       rintro⟨dH,dI⟩ _
       exact Lf 18 U q_z<|Ny (by kernel_rfl)<|Lt<|Lp ⟨aa++([([(⟨(⟨ab,ad⟩:z2),(⟨ae,ag⟩:z2)⟩:z6),(⟨aC,(⟨1,(nth a.fK f).yr⟩:z2)⟩:z6)]:List z6)]:List (List z6)),bd,b9,dH,dI,an++A⟩ ⟨h,cq,dG⟩ .q<|.s9 .h2 .h2 .here .h1 .h1 .h1 .h1 .h2 .h2
    ·rintro aL bb bc bO bP bQ ⟨h,dJ,dK⟩
     replace h:=(dj aL bb).symm.trans h
     exact D2q U<|WL.nil<|Nx ⟨dg,aL,i64 (f+1),bb,bc,bO,bP,bQ⟩ ⟨h,c.trans dJ,dK⟩ (Nat.lt_succ_self _) .q<|.a9
   ·exact Nz<|Lo<|Lo<|Lv<|Lp ⟨aa,aI,W,aJ,aK,an⟩ ⟨h,c,cb⟩ .q<|.s6 .here .here .here .here .h3 .h3
  ·rintro ay bL aH bV bW aQ ⟨h,dM,cc⟩
   replace h:=(df ay bL).symm.trans h
   refine WC.b<|cK h fun dN h=>D1q U<|La U ?_
   have dO:RR 1 (jJ (Z++aH)) (ak++aQ) (ao++ay):=RR.app (de.weak (fun _ _ h=>g6 dM h)) cc
   refine WL.fA 195 (af (l1:=ao) (l2:=ay) (vy:=aQ) (Pr:=(jJ (Z++aH))) zdL U U .h1 cc (kN .h2) (RR.oc cc<|fun _ _ h=>Tl h) dN) ?_
   rintro⟨dP,dQ⟩ _
   exact La U<|La U<|La U<|WL.nil<|Lb<|Nw<|oJ h▸Li results42 (.tmp U<|.tmp U .nil) fun w hw=>⟨aH,dP,dQ,ak++aQ,qz,dO,hw.sub (.s5 .h1 .here .h1 .h1 .h1)⟩
def uP(a:z2):Option Bool:=
 (qw a).bind fun b=>some (b&&(decide (a.fN>=0)))
theorem cS(Z a r)(h:uP a=some r){Nv}(hz:PZ [] Nv Z):
  RC 147 #[.agg #[vi a.fN,vi a.fD]] Nv (.bool r) [] []:=by
 unfold uP at h
 refine L8 func147 U U<|B0q (Lh 1 (wg (cs:=[vi a.fN,vi a.fD])) fun e _=>Q1n U<|WC.b ?_)
 refine bK h fun b c h=>Ld<|Le 3 (xK ze (xM .here))<|Nr call80 hz (jK _ _ _ c)<|La U<|Lw true 3 5 (B:=b&&(decide (a.fN>=0))) (fun h=>(jR h).symm) (fun _ d=>?_) ?_
 ·exact Le 6 (xA jz)<|Le 7 (Nt xL .here)<|Q2q U<|Lx (jS d) U .all
 exact Q1n U<|Nw<|oJ h▸Nl results147
def mZ(a:z6):Option Bool:=
 (uP a.yi).bind fun b=>(if !b then some true else(uP a.fR).bind fun c=>some (!c)).bind fun d=>some d
theorem We(Z a r)(h:mZ a=some r){Nv}(hz:PZ [] Nv Z):
  RC 166 #[.agg #[vi a.yi.fN,vi a.yi.fD,vi a.fR.fN,vi a.fR.fD]] Nv (.bool r) [] []:=by
 unfold mZ at h
 refine L8 func166 U U<|B0q (Lh 1 (wg (cs:=[vi a.yi.fN,vi a.yi.fD,vi a.fR.fN,vi a.fR.fD])) fun i _=>Q1n U<|WC.b ?_)
 refine bK h fun j d h=>bK h fun e c h=>Ld<|Le 3 (xA uf)<|Le 4 (wi (cs:=[vi a.yi.fN,vi a.yi.fD]) ze<|gp (s:=2) .here U)<|Nr call147 hz (cS _ _ _ d)<|Q2q U<|Lw false 4 7 (B:=e) (fun h=>(oJ<|jD c h).symm) (fun _ f=>?_) ?_
 ·have b:=jE c f
  obtain⟨k,g,b⟩:=z8 b
  replace b:=oJ b
  exact Le 8 (xA tR)<|Le 9 (wi (cs:=[vi a.fR.fN,vi a.fR.fD]) ze<|gp (s:=2) .here U)<|Nr call147 hz (cS _ _ _ g)<|Q2q U<|Lx b U .all
 exact Q1n U<|Nw<|oJ h▸Nl results166
def vb(b:List z6)(zaG:z6->Option Bool)(c:Option Int):Nat->Int->Option Int
 | 0,_=>none
 | d+1,a=>if decide (a<b.length) then chk (0<=a/\a<b.length) ((zaG (⟨(⟨((nth b a).yi).fN,((nth b a).yi).fD⟩:z2),(⟨((nth b a).fR).fN,((nth b a).fR).fD⟩:z2)⟩:z6)).bind fun e=>if e then some a else vb b zaG c d (i64 (a+1))) else c
def kB(a:List z6)(zaG:z6->Option Bool):Option Int:=
 uB (some (-1)) fun b=>vb a zaG b xR 0
theorem rj(Z d g zkg zrO b zaG r)(h:kB b zaG=some r){Nv}(hz:PZ [] Nv Z)(j:ZS Z 4 (rq qk) d g b)(k:∀ args w,(callFunc zkg args).run Tryz.prog w = .ok (.enter zkg args) w)(m:∀ w:World,PZ [] w Z->∀(x0:z6) (r:Bool),zaG x0=some r->Calls Tryz.prog zkg (([.agg #[vi x0.yi.fN,vi x0.yi.fD,vi x0.fR.fN,vi x0.fR.fD]]:List Value)++zrO).toArray w fun e w'=>e = .returned (.bool r)/\Hp [] w w' []):
  RC 178 #[vs d b.length g,.func (.func zkg) #[] (zrO).toArray] Nv (vi r) [] []:=by
 unfold kB at h
 refine Lz func178 U U<|B1n U<|jK0 h fun i n h=>Nd (i=some r) ([]) ([]) ?_ ?_
 ·refine B1q U<|Le 7 (w9 underlying173)<|Q1n U<|WC.block<|Ng (fun c a=>(vb b zaG i c a=some r)) (fun c a=>[(0,vs d b.length g),(1,.func (.func zkg) #[] (zrO).toArray),(7,vi (b.length:Int)),(8,vi a)]) (fun c a=>[]) (fun c a=>c) ⟨xR,0⟩ h .q .nil ?_
  rintro(_|o) a h;·cases h
  rw[vb] at h
  refine B1n U<|WC.b<|Lj h (fun p h=>?_)<|fun p h=>?_
  ·refine Nn<|WC.b<|WC.block<|B2n U<|WC.b<|cK h fun q h=>bK h fun s t h=>D3q U<|L3 (dd:=14) (Z:=Z) (Pr:=(rq qk)) z8K j q ?_
   rintro x y u z rfl
   refine Le 15 (xK z3v (qV hz.pv u))<|Lm 16 (qi (l:=[.tmp 15]) (f:=zkg) (caps:=zrO) k<|.cons U .nil) .nil (fun w hw=>m w (hz.now hw) (⟨(⟨((nth b a).yi).fN,((nth b a).yi).fD⟩:z2),(⟨((nth b a).fR).fN,((nth b a).fR).fD⟩:z2)⟩:z6) s  t)<|Q0n<|Lj h (fun v h=>?_)<|fun v h=>?_
   ·exact B2n U<|Nw<|Ly<|Ll<|Ll<|Ly<|Ll<|oJ h▸Nl results178
   ·exact N0<|Lt<|Lb<|D2q U<|WL.nil<|Nx ⟨o,i64 (a+1)⟩ h (Nat.lt_succ_self _) .q .nil
  ·exact Nz<|Lo<|Lo<|Lv<|Lp () h .nil .nil
 ·rintro  h
  replace h:=n.symm.trans h
  exact B1n U<|Nw<|oJ h▸Nl results178
def vY(a:List z6)(zkh:z6->Option Bool):Option Bool:=
 (kB a zkh).bind fun b=>some (decide (b>=0))
theorem fm(Z b c zki zrQ a zkh r)(h:vY a zkh=some r){Nv}(hz:PZ [] Nv Z)(d:ZS Z 4 (rq qk) b c a)(f:∀ args w,(callFunc zki args).run Tryz.prog w = .ok (.enter zki args) w)(g:∀ w:World,PZ [] w Z->∀(x0:z6) (r:Bool),zkh x0=some r->Calls Tryz.prog zki (([.agg #[vi x0.yi.fN,vi x0.yi.fD,vi x0.fR.fN,vi x0.fR.fD]]:List Value)++zrQ).toArray w fun e w'=>e = .returned (.bool r)/\Hp [] w w' []):
  RC 165 #[vs b a.length c,.func (.func zki) #[] (zrQ).toArray] Nv (.bool r) [] []:=by
 unfold vY at h
 exact Lz func165 U U<|B1n U<|WC.b<|bK h fun j i h=>D2q U<|Nr call178 hz (fun pz=>rj _ _ _ (zkg:=zki) (zrO:=zrQ) _ (zaG:=zkh) _ i pz d f g)<|Q2n U<|Nw<|oJ h▸Nl results165
def mw(a:List z6):Option Bool:=
 (if (decide ((a.length:Int)>=1))&&(decide ((a.length:Int)<=32)) then(vY a (fun y0=>mZ y0)).bind fun b=>some (!b) else some false).bind fun c=>some c
theorem og(Z c d a r)(h:mw a=some r){Nv}(hz:PZ [] Nv Z)(f:ZS Z 4 (rq qk) c d a):
  RC 146 #[vs c a.length d] Nv (.bool r) [] []:=by
 unfold mw at h
 refine L8 func146 U U<|B1n U<|WC.b<|bK h fun g e h=>D1q U<|Le 4 (w9 underlying173)<|Q2q U<|Lw true 3 6 (B:=(decide ((a.length:Int)>=1))&&(decide ((a.length:Int)<=32))) (fun h=>(jR h).symm) (fun _ i=>?_) ?_
 ·exact La U<|Le 8 (w9 underlying173)<|Q2q U<|Lx (jS i) U .all
 refine La U<|Lw true 3 11 (B:=g) (fun h=>(oJ<|jE e h).symm) (fun _ j=>?_) ?_
 ·have b:=jD e j
  obtain⟨l,k,b⟩:=z8 b
  replace b:=oJ b
  exact La U<|Nr call165 hz (fun pz=>fm _ _ _ (zki:=166) (zrQ:=[]) _ (zkh:=(fun y0=>mZ y0)) _ k pz f call166<|fun w' hz' y0  r  hr=>We _ _ _ hr hz')<|Q2q U<|Lx b U .all
 exact Q1n U<|Nw<|oJ h▸Nl results146
def qW(a:List z6):Option Bool:=
 (mw a).bind fun b=>some (!b)
theorem ca(Z b c a r)(h:qW a=some r){Nv}(hz:PZ [] Nv Z)(d:ZS Z 4 (rq qk) b c a):
  RC 151 #[vs b a.length c] Nv (.bool r) [] []:=by
 unfold qW at h
 exact L8 func151 U U<|B1n U<|WC.b<|bK h fun f e h=>D1q U<|Nr call146 hz (fun pz=>og _ _ _ _ _ e pz d)<|Q2n U<|Nw<|oJ h▸Nl results151
def wN(b:List (List z6))(zaH:(List z6)->Option Bool)(c:Option Int):Nat->Int->Option Int
 | 0,_=>none
 | d+1,a=>if decide (a<b.length) then chk (0<=a/\a<b.length) ((zaH (nth b a)).bind fun e=>if e then some a else wN b zaH c d (i64 (a+1))) else c
def jo(a:List (List z6))(zaH:(List z6)->Option Bool):Option Int:=
 uB (some (-1)) fun b=>wN a zaH b xR 0
theorem rK(Z d g zkj zrT b zaH r)(h:jo b zaH=some r){Nv}(hz:PZ [] Nv Z)(j:ZS Z 1 (jJ Z) d g b)(k:∀ args w,(callFunc zkj args).run Tryz.prog w = .ok (.enter zkj args) w)(m:∀ w:World,PZ [] w Z->∀(x0:List z6) (kA:Option Addr) (iS:Nat) (r:Bool),ZS Z 4 (rq qk) kA iS x0->zaH x0=some r->Calls Tryz.prog zkj (([vs kA x0.length iS]:List Value)++zrT).toArray w fun e w'=>e = .returned (.bool r)/\Hp [] w w' []):
  RC 168 #[vs d b.length g,.func (.func zkj) #[] (zrT).toArray] Nv (vi r) [] []:=by
 unfold jo at h
 refine Lz func168 U U<|B1n U<|jK0 h fun i n h=>Nd (i=some r) ([]) ([]) ?_ ?_
 ·refine B1q U<|Le 7 (w9 underlying128)<|Q1n U<|WC.block<|Ng (fun c a=>(wN b zaH i c a=some r)) (fun c a=>[(0,vs d b.length g),(1,.func (.func zkj) #[] (zrT).toArray),(7,vi (b.length:Int)),(8,vi a)]) (fun c a=>[]) (fun c a=>c) ⟨xR,0⟩ h .q .nil ?_
  rintro(_|o) a h;·cases h
  rw[wN] at h
  refine B1n U<|WC.b<|Lj h (fun p h=>?_)<|fun p h=>?_
  ·refine Nn<|WC.b<|WC.block<|B2n U<|WC.b<|cK h fun q h=>bK h fun s t h=>D3q U<|L3 (dd:=14) (Z:=Z) (Pr:=(jJ Z)) zdL j q ?_
   rintro A B u C ⟨v,x,rfl,y⟩
   refine Le 15 (xB zm0 U<|mG hz.pv u)<|Lm 16 (qi (l:=[.tmp 15]) (f:=zkj) (caps:=zrT) k<|.cons U .nil) .nil (fun w hw=>m w (hz.now hw) (nth b a) v x s y t)<|Q0n<|Lj h (fun z h=>?_)<|fun z h=>?_
   ·exact B2n U<|Nw<|Ly<|Ll<|Ll<|Ly<|Ll<|oJ h▸Nl results168
   ·exact N0<|Lt<|Lb<|D2q U<|WL.nil<|Nx ⟨o,i64 (a+1)⟩ h (Nat.lt_succ_self _) .q .nil
  ·exact Nz<|Lo<|Lo<|Lv<|Lp () h .nil .nil
 ·rintro  h
  replace h:=n.symm.trans h
  exact B1n U<|Nw<|oJ h▸Nl results168
def qa(a:List (List z6))(znb:(List z6)->Option Bool):Option Bool:=
 (jo a znb).bind fun b=>some (decide (b>=0))
theorem sC(Z b c znc zva a znb r)(h:qa a znb=some r){Nv}(hz:PZ [] Nv Z)(d:ZS Z 1 (jJ Z) b c a)(f:∀ args w,(callFunc znc args).run Tryz.prog w = .ok (.enter znc args) w)(g:∀ w:World,PZ [] w Z->∀(x0:List z6) (kA:Option Addr) (iS:Nat) (r:Bool),ZS Z 4 (rq qk) kA iS x0->znb x0=some r->Calls Tryz.prog znc (([vs kA x0.length iS]:List Value)++zva).toArray w fun e w'=>e = .returned (.bool r)/\Hp [] w w' []):
  RC 150 #[vs b a.length c,.func (.func znc) #[] (zva).toArray] Nv (.bool r) [] []:=by
 unfold qa at h
 exact Lz func150 U U<|B1n U<|WC.b<|bK h fun j i h=>D2q U<|Nr call168 hz (fun pz=>rK _ _ _ (zkj:=znc) (zrT:=zva) _ (zaH:=znb) _ i pz d f g)<|Q2n U<|Nw<|oJ h▸Nl results150
def uQ(a:yt):Option Bool:=
 (qw a.fR).bind fun b=>(if b&&(decide (a.fR.fN>0)) then(qw a.fL).bind fun c=>some c else some false).bind fun d=>some (d&&(decide (a.fL.fN>=0)))
theorem Xr(Z a r)(h:uQ a=some r){Nv}(hz:PZ [] Nv Z):
  RC 152 #[.agg #[vi a.fR.fN,vi a.fR.fD,vi a.fL.fN,vi a.fL.fD]] Nv (.bool r) [] []:=by
 unfold uQ at h
 refine L8 func152 U U<|B0q (Lh 1 (wg (cs:=[vi a.fR.fN,vi a.fR.fD,vi a.fL.fN,vi a.fL.fD])) fun l _=>Q1n U<|WC.b ?_)
 refine bK h fun e f h=>bK h fun c d h=>Ld<|Le 3 (xA cH)<|Le 4 (wi (cs:=[vi a.fR.fN,vi a.fR.fD]) ze<|gp (s:=2) .here U)<|Nr call80 hz (jK _ _ _ f)<|La U<|Lw true 4 6 (B:=e&&(decide (a.fR.fN>0))) (fun h=>(jR h).symm) (fun _ g=>?_) ?_
 ·exact Le 7 (xA cH)<|Le 8 (xA jz)<|Le 9 (Nt xL .here)<|Q2q U<|Lx (jS g) U .all
 refine La U<|Lw true 3 12 (B:=c) (fun h=>(oJ<|jE d h).symm) (fun _ i=>?_) ?_
 ·have b:=jD d i
  obtain⟨m,j,b⟩:=z8 b
  replace b:=oJ b
  exact Le 13 (xA lL)<|Le 14 (wi (cs:=[vi a.fL.fN,vi a.fL.fD]) ze<|gp (s:=2) .here U)<|Nr call80 hz (jK _ _ _ j)<|La U<|Lx b U .all
 refine La U<|Lw true 4 17 (B:=c&&(decide (a.fL.fN>=0))) (fun h=>(jR h).symm) (fun _ k=>?_) ?_
 ·exact Le 18 (xA lL)<|Le 19 (xA jz)<|Le 20 (Nt xL .here)<|Q2q U<|Lx (jS k) U .all
 exact Q1n U<|Nw<|oJ h▸Nl results152
def jd(a:Int):Option z2:=
 some (⟨a,1⟩:z2)
theorem uR(Z a r)(h:jd a=some r){Nv}(hz:PZ [] Nv Z):
  RC 145 #[vi a] Nv (.agg #[vi r.fN,vi r.fD]) [] []:=by
 unfold jd at h
 refine L8 func145 U U<|B0q (Lh 2 (xW (cs:=[vi 0,vi 0]) z1s) fun b _=>Q0n<|B1q U<|Le 4 (wm (v:=(.agg #[vi a,vi 1])) (Lq (l:=[.tmp 3,.const (vi 1)]) (.r2 U U) [0,1]) (fun _=>by kernel_rfl))<|Ln (xP z12 .here)<|Q0n<|Nw ?_)
 exact oJ h▸Nm results145 (.agg U ze U (xM .here) .nil) .nil
def gI  : Option z2:=
 (jd 0).bind fun a=>some a
theorem tI(Z r)(h:gI=some r){Nv}(hz:PZ [] Nv Z):
  RC 107 #[] Nv (.agg #[vi r.fN,vi r.fD]) [] []:=by
 unfold gI at h
 refine Co func107 U U<|B0q (Lh 0 (xW (cs:=[vi 0,vi 0]) z1s) fun b _=>Q0n<|WC.b ?_)
 exact bK h fun c a h=>Ld<|Nr call145 hz (uR _ _ _ a)<|Ln (xP z12 .here)<|Q0n<|Nw<|oJ h▸Nm results107 (.agg U ze U (xM .here) .nil) .nil
def vO(b:List z6)(c:z6)(d:Option Int):Nat->Int->Option Int
 | 0,_=>none
 | e+1,a=>if decide (a<b.length) then chk (0<=a/\a<b.length) (if decide (c=(⟨(⟨((nth b a).yi).fN,((nth b a).yi).fD⟩:z2),(⟨((nth b a).fR).fN,((nth b a).fR).fD⟩:z2)⟩:z6)) then some a else vO b c d e (i64 (a+1))) else d
def gm(a:List z6)(b:z6):Option Int:=
 uB (some (-1)) fun c=>vO a b c xR 0
theorem pL(Z g i e c r)(h:gm e c=some r){Nv}(hz:PZ [] Nv Z)(m:ZS Z 4 (rq qk) g i e):
  RC 186 #[vs g e.length i,.agg #[vi c.yi.fN,vi c.yi.fD,vi c.fR.fN,vi c.fR.fD]] Nv (vi r) [] []:=by
 unfold gm at h
 refine Lz func186 U U ?_
 let A:List Value:=[vi c.yi.fN,vi c.yi.fD,vi c.fR.fN,vi c.fR.fD];refine B0q<|Lh 3 (wg (cs:=A)) ?_
 intro k _
 refine Q1n U<|jK0 h fun l n h=>Nd (l=some r) ([]) ([]) ?_ ?_
 ·refine B1q U<|Le 7 (w9 underlying173)<|Q1n U<|WC.block<|Ng (fun f d=>(vO e c l f d=some r)) (fun f d=>[(0,vs g e.length i),(3,vp k),(7,vi (e.length:Int)),(8,vi d)]) (fun f d=>[stb k 171 A]) (fun f d=>f) ⟨xR,0⟩ h .q (.cons .here .nil) ?_
  rintro(_|o) d h;·cases h
  rw[vO] at h
  refine B1n U<|WC.b<|Lj h (fun p h=>?_)<|fun p h=>?_
  ·refine Nn<|WC.b<|WC.block<|B2n U<|WC.b<|cK h fun q h=>Lu nc []<|Lg 0 U (xK z3v (xM .here))<|Lf 1 U q_m<|Lf 2 U q_m<|Nf (j:=3) (dd:=14) (by kernel_rfl) z2B z2C (Z:=Z) (Pr:=(rq qk)) z8K m q ?_
   rintro u v s x rfl
   refine Lg 4 U (xK z3v (qV hz.pv s))<|Lf 5 U (oq (enc:=qk) (a:=c) (b:=(⟨(⟨((nth e d).yi).fN,((nth e d).yi).fD⟩:z2),(⟨((nth e d).fR).fN,((nth e d).fR).fD⟩:z2)⟩:z6)) zFC)<|Ny (by kernel_rfl)<|Lb<|Lj h (fun t h=>?_)<|fun t h=>?_
   ·exact B2n U<|Nw<|Ly<|Ll<|Ll<|Ly<|Ll<|oJ h▸Nl results186
   ·exact N0<|Lt<|Lb<|D2q U<|WL.nil<|Nx ⟨o,i64 (d+1)⟩ h (Nat.lt_succ_self _) .q<|.cons .here .nil
  ·exact Nz<|Lo<|Lo<|Lv<|Lp () h .nil .nil
 ·rintro  h
  replace h:=n.symm.trans h
  exact B1n U<|Nw<|oJ h▸Nl results186
def jp(a:List z6)(b:z6):Option Bool:=
 (gm a b).bind fun c=>some (decide (c>=0))
theorem rL(Z c d b a r)(h:jp b a=some r){Nv}(hz:PZ [] Nv Z)(e:ZS Z 4 (rq qk) c d b):
  RC 179 #[vs c b.length d,.agg #[vi a.yi.fN,vi a.yi.fD,vi a.fR.fN,vi a.fR.fD]] Nv (.bool r) [] []:=by
 unfold jp at h
 refine Lz func179 U U<|B0q (Lh 3 (wg (cs:=[vi a.yi.fN,vi a.yi.fD,vi a.fR.fN,vi a.fR.fD])) fun g _=>Q1n U<|WC.b ?_)
 exact bK h fun i f h=>D1q U<|Le 6 (xK z3v (xM .here))<|Nr call186 hz (fun pz=>pL _ _ _ _ _ _ f pz e)<|Q2n U<|Nw<|oJ h▸Nl results179
def vZ(a:z2)(b:z2):Option Int:=
 (qw a).bind fun c=>(if !c then some true else(qw b).bind fun d=>some (!d)).bind fun e=>if e then some 0 else if decide ((i64 (a.fN*b.fD))<(i64 (b.fN*a.fD))) then some (-1) else if decide ((i64 (a.fN*b.fD))>(i64 (b.fN*a.fD))) then some 1 else some 0
theorem mS(Z a b r)(h:vZ a b=some r){Nv}(hz:PZ [] Nv Z):
  RC 79 #[.agg #[vi a.fN,vi a.fD],.agg #[vi b.fN,vi b.fD]] Nv (vi r) [] []:=by
 unfold vZ at h
 refine Lz func79 U U<|B0q (Lh 2 (wg (cs:=[vi a.fN,vi a.fD])) fun m _=>Lh 3 (wg (cs:=[vi b.fN,vi b.fD])) fun n _=>Q1n U<|WC.b<|WC.b ?_)
 refine bK h fun o e h=>bK h fun f d h=>Ld<|Le 7 (xK ze (xM .h1))<|Nr call80 hz (jK _ _ _ e)<|Q2q U<|Lw false 3 10 (B:=f) (fun h=>(oJ<|jD d h).symm) (fun _ g=>?_) ?_
 ·have c:=jE d g
  obtain⟨p,i,c⟩:=z8 c
  replace c:=oJ c
  exact Le 11 (xK ze (xM .here))<|Nr call80 hz (jK _ _ _ i)<|Q2q U<|Lx c U .all
 refine Q0n<|Lj h (fun j h=>?_)<|fun j h=>?_
 ·exact B1n U<|Nw<|Ll<|oJ h▸Nl results79
 ·refine Nn<|WC.b<|WC.b<|Lu nc []<|Lf 0 U (xA jz)<|Lg 1 U (Nt xL .h1)<|Lf 2 U (xA kd)<|Lg 3 U (Nt xL .here)<|Lf 4 U rQ<|Lf 5 U (xA jz)<|Lg 6 U (Nt xL .here)<|Lf 7 U (xA kd)<|Lg 8 U (Nt xL .h1)<|Lf 9 U rQ<|Lf 10 U q_z<|Lf 11 U q_z<|Ny (by kernel_rfl)<|Lb<|WC.block<|B4n U<|Lj h (fun k h=>?_)<|fun k h=>?_
  ·exact B1n U<|Nw<|Ly<|Ll<|oJ h▸Nl results79
  ·refine B4n U<|Lj h (fun l h=>?_)<|fun l h=>?_
   ·exact B1n U<|Nw<|Ly<|Ll<|oJ h▸Nl results79
   ·exact N0<|Lt<|Lb<|B1n U<|Nw<|oJ h▸Nl results79
def uu(a:z6)(b:z6):Option Bool:=
 (if decide (a≠b) then(vZ a.yi b.yi).bind fun c=>some (decide (c<=0)) else some false).bind fun d=>(if d then(vZ a.fR b.fR).bind fun e=>some (decide (e<=0)) else some false).bind fun f=>some f
theorem YP(Z c d r)(h:uu c d=some r){Nv}(hz:PZ [] Nv Z):
  RC 181 #[.agg #[vi c.yi.fN,vi c.yi.fD,vi c.fR.fN,vi c.fR.fD],.agg #[vi d.yi.fN,vi d.yi.fD,vi d.fR.fN,vi d.fR.fD]] Nv (.bool r) [] []:=by
 unfold uu at h
 refine Lz func181 U U<|B0q (Lh 2 (wg (cs:=[vi c.yi.fN,vi c.yi.fD,vi c.fR.fN,vi c.fR.fD])) fun p _=>Lh 3 (wg (cs:=[vi d.yi.fN,vi d.yi.fD,vi d.fR.fN,vi d.fR.fD])) fun q _=>Q1n U<|WC.b ?_)
 refine bK h fun j g h=>bK h fun k i h=>Ld<|Le 5 (xK z3v (xM .h1))<|Le 6 (xK z3v (xM .here))<|Le 7 (eN (enc:=qk) (a:=c) (b:=d) zFC U U)<|La U<|Lw true 6 8 (B:=j) (fun h=>(oJ<|jE g h).symm) (fun _ l=>?_) ?_
 ·have e:=jD g l
  obtain⟨t,m,e⟩:=z8 e
  replace e:=oJ e
  exact Le 9 (xA uf)<|Le 10 (wi (cs:=[vi c.yi.fN,vi c.yi.fD]) ze<|gp (s:=2) .h1 U)<|Le 11 (xA uf)<|Le 12 (wi (cs:=[vi d.yi.fN,vi d.yi.fD]) ze<|gp (s:=2) .here U)<|Nr call79 hz (mS _ _ _ _ m)<|Q2q U<|Lx e U .all
 refine La U<|Lw true 6 16 (B:=k) (fun h=>(oJ<|jE i h).symm) (fun _ n=>?_) ?_
 ·have f:=jD i n
  obtain⟨u,o,f⟩:=z8 f
  replace f:=oJ f
  exact Le 17 (xA tR)<|Le 18 (wi (cs:=[vi c.fR.fN,vi c.fR.fD]) ze<|gp (s:=2) .h1 U)<|Le 19 (xA tR)<|Le 20 (wi (cs:=[vi d.fR.fN,vi d.fR.fD]) ze<|gp (s:=2) .here U)<|Nr call79 hz (mS _ _ _ _ o)<|Q2q U<|Lx f U .all
 exact Q1n U<|Nw<|oJ h▸Nl results181
def uG(a:z6)(b:z6):Option Bool:=
 (uu a b).bind fun c=>some c
theorem Vf(Z c a b r)(h:uG a b=some r){Nv}(hz:PZ [] Nv Z)(d:ZC Z c [vi b.yi.fN,vi b.yi.fD,vi b.fR.fN,vi b.fR.fD]):
  RC 180 #[.agg #[vi a.yi.fN,vi a.yi.fD,vi a.fR.fN,vi a.fR.fD],vq c] Nv (.bool r) [] []:=by
 unfold uG at h
 refine Lz func180 U U<|B0q (Lh 2 (wg (cs:=[vi a.yi.fN,vi a.yi.fD,vi a.fR.fN,vi a.fR.fD])) fun f _=>Q1n U<|WC.b ?_)
 exact bK h fun g e h=>Ld<|Le 4 (xK z3v (xM .here))<|Le 5 (xK z3v (qV hz.pv d))<|Nr call181 hz (YP _ _ _ _ e)<|Q1n U<|Nw<|oJ h▸Nl results180
def sf(a:z6)(b:z6):Option Int:=
 (vZ a.yi b.yi).bind fun c=>some c
theorem Vg(Z a b r)(h:sf a b=some r){Nv}(hz:PZ [] Nv Z):
  RC 183 #[.agg #[vi a.yi.fN,vi a.yi.fD,vi a.fR.fN,vi a.fR.fD],.agg #[vi b.yi.fN,vi b.yi.fD,vi b.fR.fN,vi b.fR.fD]] Nv (vi r) [] []:=by
 unfold sf at h
 refine Lz func183 U U<|B0q (Lh 2 (wg (cs:=[vi a.yi.fN,vi a.yi.fD,vi a.fR.fN,vi a.fR.fD])) fun d _=>Lh 3 (wg (cs:=[vi b.yi.fN,vi b.yi.fD,vi b.fR.fN,vi b.fR.fD])) fun e _=>Q1n U<|WC.b ?_)
 exact bK h fun f c h=>Ld<|Le 5 (xA uf)<|Le 6 (wi (cs:=[vi a.yi.fN,vi a.yi.fD]) ze<|gp (s:=2) .h1 U)<|Le 7 (xA uf)<|Le 8 (wi (cs:=[vi b.yi.fN,vi b.yi.fD]) ze<|gp (s:=2) .here U)<|Nr call79 hz (mS _ _ _ _ c)<|Q1n U<|Nw<|oJ h▸Nl results183
theorem zX8:∀ w,(isAgg (Tryz.kZ.t 24)).run Tryz.prog w = .ok true w:=fun _=>by kernel_rfl
theorem zX9:∀ w,(Go.sizeOf (Tryz.kZ.t 24)).run Tryz.prog w = .ok 4 w:=fun _=>by kernel_rfl
def gF(z6i:List z6)(zs1:Int)(zs2:Int)(zne:Int)(zkl:z6->z6->Option Int):Option (List z6):=chk ((zs1=0/\zs2=(z6i.length:Int))/\(0<=zne/\zne<4611686018427387904/\z6i.length<4611686018427387904)) (chk (ot zkl (wH zkl z6i)=true) (some (wH zkl z6i)))
theorem pT(Z zkm zkn zs3 zBI z6i zs1 zs2 zne zkl r){Nv}(hz:Pz [row (vs zkm z6i.length zkn) 171 4 (z6i.flatMap qk)] Nv Z)(a:∀ args w,(callFunc zs3 args).run Tryz.prog w = .ok (.enter zs3 args) w)(b:∀ w:World,PZ [] w Z->∀(x0:z6) (x1:z6) (r:Int),zkl x0 x1=some r->Calls Tryz.prog zs3 (([.agg #[vi x0.yi.fN,vi x0.yi.fD,vi x0.fR.fN,vi x0.fR.fD],.agg #[vi x1.yi.fN,vi x1.yi.fD,vi x1.fR.fN,vi x1.fR.fD]]:List Value)++zBI).toArray w fun e w'=>e = .returned (vi r)/\Hp [] w w' [])(h:gF z6i zs1 zs2 zne zkl=some r)(ip:Ho Nv [row (vs zkm z6i.length zkn) 171 4 (z6i.flatMap qk)]):
  Calls Tryz.prog 187 #[vs zkm z6i.length zkn,vi zs1,vi zs2,vi zne,.func (.func zs3) #[] (zBI).toArray] Nv fun e w'=>e = .returned (.tuple #[])/\(r.length=z6i.length)/\Hp (fps [row (vs zkm z6i.length zkn) 171 4 (z6i.flatMap qk)]) Nv w' [row (vs zkm r.length zkn) 171 4 (r.flatMap qk)]:=by
 obtain⟨h0,h⟩:=xH h
 obtain⟨h1,h⟩:=xH h
 have hr:=(oJ h).symm
 exact ii (P:=Tryz.prog) (f:=187) (e:=171) (k:=4) (enc:=qk) (fun _=>U) (by decide) G6 (fun β _ enc cf g cb hO wr off cap d0 w0 eg hC R=>Tryz.lF 4 zX8 zX9 enc cf g cb hO wr off cap d0 w0 eg hC R) (Tryz.lm (α:=Unit)) hz a b h0 h1 hr ip
def vP(a:List z6)(znf:z6->z6->Option Int):Option (List z6):=
 (mg (u64 (a.length:Int))).bind fun b=>(gF a 0 (a.length:Int) b znf).bind fun c=>some c
theorem rM(Z b c zng zve a znf r)(h:vP a znf=some r){Nv}(hz:Pz [row (vs b a.length c) 171 4 (a.flatMap qk)] Nv Z)(j:∀ args w,(callFunc zng args).run Tryz.prog w = .ok (.enter zng args) w)(k:∀ w:World,PZ [] w Z->∀(x0:z6) (x1:z6) (r:Int),znf x0 x1=some r->Calls Tryz.prog zng (([.agg #[vi x0.yi.fN,vi x0.yi.fD,vi x0.fR.fN,vi x0.fR.fD],.agg #[vi x1.yi.fN,vi x1.yi.fD,vi x1.fR.fN,vi x1.fR.fD]]:List Value)++zve).toArray w fun e w'=>e = .returned (vi r)/\Hp [] w w' [])(ip:Ho Nv [row (vs b a.length c) 171 4 (a.flatMap qk)]):
  Calls Tryz.prog 182 #[vs b a.length c,.func (.func zng) #[] (zve).toArray] Nv fun e w'=>e = .returned (.tuple #[])/\(r.length=a.length)/\Hp (fps [row (vs b a.length c) 171 4 (a.flatMap qk)]) Nv w' [row (vs b r.length c) 171 4 (r.flatMap qk)]:=by
 unfold vP at h
 refine Ni func182 U ip U<|B1q U<|Le 6 (w9 underlying173)<|Q1n U<|bK h fun d l h=>bK h fun f m h=>D3q U<|Le 10 (fg underlying3 underlying142)<|Nr call48 hz (fun pz=>oZ (Z:=_)  (z9t:=(u64 (a.length:Int))) (r:=d) pz  l)<|La U<|Na (dd:=13) U (Ns call187) (.cons .here .nil) (cc hz (.cons .here .nil) fun w pz ho=>pT (Z:=_) (zkm:=b) (zkn:=c) (zs3:=zng) (zBI:=zve) (z6i:=a) (zs1:=0) (zs2:=(a.length:Int)) (zne:=d) (zkl:=znf) (r:=f) pz j k m ho) ?_
 rintro  g
 exact L7 (i:=0) U (u:=(vs b f.length c)) (qs g.symm)<|WL.nil<|oJ h▸Nh results182 .nil fun w hw=>⟨mF,g.trans U,hw.sub (.cons .here .nil)⟩
def mh(a:List z6)(d:(List z6)->Option (List z6)):Nat->(List z6)->Int->Option (List z6)
 | 0,_,_=>none
 | f+1,c,b=>if decide (b<a.length) then qP (fun(g:List z6)=>mh a d f g (i64 (b+1))) fun e=>chk (0<=b/\b<a.length) ((jp c (⟨(⟨((nth a b).yi).fN,((nth a b).yi).fD⟩:z2),(⟨((nth a b).fR).fN,((nth a b).fR).fD⟩:z2)⟩:z6)).bind fun h=>(if !h then(vY a (fun(y0:z6)=>uG y0 (⟨(⟨((nth a b).yi).fN,((nth a b).yi).fD⟩:z2),(⟨((nth a b).fR).fN,((nth a b).fR).fD⟩:z2)⟩:z6))).bind fun i=>some (!i) else some false).bind fun j=>if j then chk ((((c++([(⟨(⟨((nth a b).yi).fN,((nth a b).yi).fD⟩:z2),(⟨((nth a b).fR).fN,((nth a b).fR).fD⟩:z2)⟩:z6)]:List z6)).length:Nat):Int)*32<=140737488355328/\(((c++([(⟨(⟨((nth a b).yi).fN,((nth a b).yi).fD⟩:z2),(⟨((nth a b).fR).fN,((nth a b).fR).fD⟩:z2)⟩:z6)]:List z6)).length:Nat):Int)<=4611686018427387904) (e (c++([(⟨(⟨((nth a b).yi).fN,((nth a b).yi).fD⟩:z2),(⟨((nth a b).fR).fN,((nth a b).fR).fD⟩:z2)⟩:z6)]:List z6))) else e c) else d c
def pm(a:List z6):Option (List z6):=
 qP (fun(b:List z6)=>(vP b (fun y0 y1=>sf y0 y1)).bind fun c=>some c) fun d=>mh a d xR ([]:List z6) 0
theorem Jt(Z s t b r)(h:pm b=some r){Nv}(hz:PZ [] Nv Z)(v:ZS Z 4 (rq qk) s t b):
  Calls Tryz.prog 169 #[vs s b.length t] Nv fun e w'=>∃ x:Option Addr,∃ y:Nat,e = .returned (vs x r.length y)/\True/\Hp [] Nv w' [row (vs x r.length y) 171 4 (r.flatMap qk)]:=by
 unfold pm at h
 refine L8 func169 U U<|B1n U<|B1n U<|jK1 h fun z E h=>N5 (fun f k m=>(z f=some r)) (fun f k m=>[(3,vs k f.length m)]) (fun f k m=>[row (vs k f.length m) 171 4 (f.flatMap qk)]) ?_ ?_
 ·let A:Value:=(vs s b.length t);let C:Value:=(vi (b.length:Int));refine B1q U<|Le 7 (w9 underlying173)<|Q1n U<|WC.block<|WC.nilRow 171 4<|Dy (fun p c a g j=>(mh b z p c a=some r)) (fun p c a g j=>[(0,A),(3,vs g c.length j),(6,A),(7,C),(8,vi a)]) (fun p c a g j=>[row (vs g c.length j) 171 4 (c.flatMap qk)]) (fun p c a g j=>p) ⟨xR,([]:List z6),0,none,0⟩ h .q (.cons .here .nil) ?_
  rintro(_|F) c a g j h;·cases h
  rw[mh] at h
  refine B1n U<|WC.b<|Lj h (fun G h=>?_)<|fun G h=>?_
  ·refine Nn<|jK1 h fun H I h=>N5 (fun d n o=>(H d=some r)) (fun d n o=>[(0,A),(3,vs n d.length o),(6,A),(7,C),(8,vi a)]) (fun d n o=>[row (vs n d.length o) 171 4 (d.flatMap qk)]) ?_ ?_
   ·refine WC.block<|WC.b<|cK h fun J h=>Ld<|L3 (dd:=10) (Z:=Z) (Pr:=(rq qk)) z8K v J ?_
    rintro Y aa K ab rfl
    refine Le 11 (xK z3v (qV hz.pv K)) (Lh 5 (xW (cs:=[vi 0,vi 0,vi 0,vi 0]) zdM) fun L _=>Ln (xP zc5 .here)<|Q0n<|WC.b ?_)
    refine bK h fun ae M h=>bK h fun N D h=>D1q U<|Le 13 (xK z3v (xM .here))<|Lm 14 (Ns call179) .nil (uC hz .nil (.cons .h1 .nil) fun w pz ho la=>rL _ _ _ _ _ _ M pz<|ZA.row (la _ (.head _) _) (RR.flat (enc:=qk) (fun _=>U) _) ⟨w,pz.1⟩)<|Q2q U<|Lw true 4 16 (B:=N) (fun h=>(oJ<|jE D h).symm) (fun _ O=>?_) ?_
    ·have q:=jD D O
     obtain⟨af,P,q⟩:=z8 q
     replace q:=oJ q
     exact La U<|Le 18 (vf<|L6 (l:=[.tmp 5])<|.cons U .nil)<|Lm 19 (Ns call165) .nil (uC hz .nil (.cons .here .nil) fun w pz ho la=>fm _ _ _ (zki:=180) (zrQ:=[vp L]) _ (zkh:=(fun(y0:z6)=>uG y0 (⟨(⟨((nth b a).yi).fN,((nth b a).yi).fD⟩:z2),(⟨((nth b a).fR).fN,((nth b a).fR).fD⟩:z2)⟩:z6))) _ P pz (v.mono<|zl) call180<|fun w' hz' y0  r  hr=>Vf _ _ _ _ _ hr hz'<|(la _ (.head _) _).stb)<|Q2q U<|Lx q U .all
    refine Q0n<|Lj h (fun Q h=>?_)<|fun Q h=>?_
    ·refine cK h fun R h=>D1q U<|Le 23 (xK z3v (xM .here)) (Lh 24 (ws (cs:=([(⟨(⟨((nth b a).yi).fN,((nth b a).yi).fD⟩:z2),(⟨((nth b a).fR).fN,((nth b a).fR).fD⟩:z2)⟩:z6)]:List z6).flatMap qk) z8K (Lq (l:=[.tmp 23]) (.cons U .nil) [0]) (fun _=>by kernel_rfl) (by unfold maxLen;omega)) fun ad _=>WL.fA 25 (kK (enc:=qk) (l1:=c) (l2:=([(⟨(⟨((nth b a).yi).fN,((nth b a).yi).fD⟩:z2),(⟨((nth b a).fR).fN,((nth b a).fR).fD⟩:z2)⟩:z6)]:List z6)) z8K .h2 (fun _=>U) (kN .here) (gN G6 _) R) ?_)
     rintro⟨S,T⟩ _
     exact La U<|WL.nil<|Lt<|Lp ⟨c++([(⟨(⟨((nth b a).yi).fN,((nth b a).yi).fD⟩:z2),(⟨((nth b a).fR).fN,((nth b a).fR).fD⟩:z2)⟩:z6)]:List z6),S,T⟩ h .q<|.cons .here .nil
    ·exact N0<|Lt<|Lp ⟨c,g,j⟩ h .q<|.cons .h1 .nil
   ·rintro d n o h
    replace h:=(I d).symm.trans h
    exact D2q U<|WL.nil<|Nx ⟨F,d,i64 (a+1),n,o⟩ h (Nat.lt_succ_self _) .q<|.cons .here .nil
  ·exact Nz<|Lo<|Lo<|Lv<|Lp ⟨c,g,j⟩ h (.cons U .nil)<|.cons .here .nil
 ·rintro f k m h
  replace h:=(E f).symm.trans h
  refine WC.b<|bK h fun V W h=>D1q U<|Na (dd:=28) U (Ns call182) (.cons .here .nil) (cc hz (.cons .here .nil) fun w pz ho=>rM _ _ _ (zng:=183) (zve:=[]) _ (znf:=(fun y0 y1=>sf y0 y1)) _ W pz call183 (fun w' hz' y0 y1  r  hr=>Vg _ _ _ _ hr hz' ) ho) ?_
  rintro  X
  exact L7 (i:=3) U (u:=(vs k V.length m)) (qs X.symm)<|Q0n<|B2n U<|Nw<|oJ h▸Li results169 (.tmp U .nil) fun w hw=>⟨k,m,w6,trivial,hw.sub (.cons .here .nil)⟩
def rl(a:List z6)(b:List z6):Option (List z6×List z6):=
 some (a,b)
theorem QF(Z a b c d f g r)(h:rl f g=some r){Nv}(hz:PZ [] Nv Z)(p:ZS Z 4 (rq qk) a b f)(q:ZS Z 4 (rq qk) c d g):
  Calls Tryz.prog 170 #[vs a f.length b,vs c g.length d] Nv fun e w'=>∃ i:Nat,∃ j:Nat,∃ k:Option Addr,∃ m:Nat,∃ n:Option Addr,∃ o:Nat,e = .returned (.func (.func 184) #[] #[vp i,vp j])/\((ZS Z 4 (rq qk) k m r.1)/\(ZS Z 4 (rq qk) n o r.2))/\Hp [] Nv w' [stb i 173 [vs k r.1.length m],stb j 173 [vs n r.2.length o]]:=by
 unfold rl at h
 refine Lz func170 U U<|B0q (Lh 2 (wg (cs:=[vs a f.length b])) fun s _=>Lh 3 (wg (cs:=[vs c g.length d])) fun t _=>Q1n U<|B0q<|Le 5 (vf<|L6 (l:=[.tmp 2,.tmp 3])<|.r2 U U)<|Q1n U<|Nw ?_)
 exact oJ h▸Li results170 (.tmp U .nil) fun w hw=>⟨s,t,a,b,c,d,w6,⟨p,q⟩,hw.sub (.s2 .h1 .here)⟩
def ge(z1d:Type)(z2Q:List z6)(z6j:(z6×z6)->z1d->Option (Bool×z1d))(z26:List z6)(b:Int)(d:z1d->Option z1d):Nat->Int->z1d->Option z1d
 | 0,_,_=>none
 | f+1,a,e=>if decide (a<z2Q.length) then chk (0<=a/\a<z2Q.length) ((z6j ((⟨(⟨((nth z26 b).yi).fN,((nth z26 b).yi).fD⟩:z2),(⟨((nth z26 b).fR).fN,((nth z26 b).fR).fD⟩:z2)⟩:z6),(⟨(⟨((nth z2Q a).yi).fN,((nth z2Q a).yi).fD⟩:z2),(⟨((nth z2Q a).fR).fN,((nth z2Q a).fR).fD⟩:z2)⟩:z6)) e).bind fun c=>if !c.1 then some c.2 else ge z1d z2Q z6j z26 b d f (i64 (a+1)) c.2) else d e
def gf(z1d:Type)(z26:List z6)(z2Q:List z6)(z6j:(z6×z6)->z1d->Option (Bool×z1d))(b:z1d->Option z1d):Nat->Int->z1d->Option z1d
 | 0,_,_=>none
 | d+1,a,c=>if decide (a<z26.length) then qP (fun(e:z1d)=>gf z1d z26 z2Q z6j b d (i64 (a+1)) e) fun f=>chk (0<=a/\a<z26.length) (qP (fun g=>f g) fun h=>ge z1d z2Q z6j z26 a h xR 0 c) else b c
def ua(z1d:Type)(z6j:(z6×z6)->z1d->Option (Bool×z1d))(zcp:z1d)(z26:List z6)(z2Q:List z6):Option z1d:=
 qP (fun(a:z1d)=>some a) fun b=>gf z1d z26 z2Q z6j b xR 0 zcp
theorem Wf(Z)(z1d:Type)(zkr)(zaN:Type)(z8n)(zeK:zaN->z1d->Prop)(zks zBP zkt zku zkv zvk zvl z6j zcp z26 z2Q r){Nv}(hz:Pz [z8n zks zcp] Nv Z)(K:W1 Tryz.prog Z zkr (α:=z6×z6) (σ:=z1d) (G:=zaN) (H:=Unit) (fun h x=>[.agg #[vi x.1.yi.fN,vi x.1.yi.fD,vi x.1.fR.fN,vi x.1.fR.fD],.agg #[vi x.2.yi.fN,vi x.2.yi.fD,vi x.2.fR.fN,vi x.2.fR.fD]]) (fun h x=>[]) z6j z8n zeK)(L:zeK zks zcp)(M:ZS Z 4 (rq qk) zkt zku z26)(N:ZC Z zBP [vs zkt z26.length zku])(O:ZS Z 4 (rq qk) zvk zvl z2Q)(P:ZC Z zkv [vs zvk z2Q.length zvl])(h:ua z1d z6j zcp z26 z2Q=some r)(ip:Ho Nv [z8n zks zcp]):
  Calls Tryz.prog 184 #[.func (.yield zkr) #[] #[],vq zBP,vq zkv] Nv fun e w'=>∃ v:zaN,e = .returned (.tuple #[])/\(zeK v r)/\Hp (fps [z8n zks zcp]) Nv w' [z8n v r]:=by
 unfold ua at h
 refine N6 func184 U ip U<|B0q<|Le 8 (xB zm0 U<|mG hz.pv N)<|Le 9 (w9 underlying173)<|Q1n U<|jK1 h fun y Q h=>Ov (fun m n=>(y m=some r)/\(zeK n m)) (fun m n=>[]) (fun m n=>[z8n n m]) ?_ ?_
 ·let A:Value:=(.func (.yield zkr) #[] #[]);let C:Value:=(vs zkt z26.length zku);let D:Value:=(vi (z26.length:Int));refine WC.block<|Dw (fun o a i j=>(gf z1d z26 z2Q z6j y o a i=some r)/\(zeK j i)) (fun o a i j=>[(0,A),(2,vq zkv),(8,C),(9,D),(10,vi a)]) (fun o a i j=>[z8n j i]) (fun o a i j=>o) ⟨xR,0,zcp,zks⟩ ⟨h,L⟩ .q (.cons .here .nil) ?_
  rintro (_|R) a i j ⟨h,z⟩;·cases h
  rw[gf] at h
  refine B1n U<|WC.b<|Lj h (fun S h=>?_)<|fun S h=>?_
  ·refine Nn<|jK1 h fun T V h=>H0 (fun k p=>(T k=some r)/\(zeK p k)) (fun k p=>[(0,A),(2,vq zkv),(8,C),(9,D),(10,vi a)]) (fun k p=>[z8n p k]) ?_ ?_
   ·refine WC.block<|WC.b<|cK h fun W h=>Ld<|L3 (dd:=12) (Z:=Z) (Pr:=(rq qk)) z8K M W ?_
    rintro ak al X am rfl
    refine Le 13 (xK z3v (qV hz.pv X)) (Lh 5 (xW (cs:=[vi 0,vi 0,vi 0,vi 0]) zdM) fun B _=>Ln (xP zc5 .here)<|Q0n<|B0q<|Le 14 (xB zm0 U<|mG hz.pv P)<|Le 15 (w9 underlying173)<|Q1n U ?_)
    refine jK1 h fun E Y h=>Ov (fun l q=>(E l=some r)/\(zeK q l)) (fun l q=>[(0,A),(2,vq zkv),(8,C),(9,D),(10,vi a)]) (fun l q=>[z8n q l]) ?_ ?_
    ·refine WC.block<|Dw (fun t c d f=>(ge z1d z2Q z6j z26 a E t c d=some r)/\(zeK f d)) (fun t c d f=>[(0,A),(2,vq zkv),(5,vp B),(8,C),(9,D),(10,vi a),(14,vs zvk z2Q.length zvl),(15,vi (z2Q.length:Int)),(16,vi c)]) (fun t c d f=>[stb B 171 [(vi<|((nth z26 a).yi).fN),(vi<|((nth z26 a).yi).fD),(vi<|((nth z26 a).fR).fN),(vi<|((nth z26 a).fR).fD)],z8n f d]) (fun t c d f=>t) ⟨xR,0,i,j⟩ ⟨h,z⟩ .q .a2 ?_
     rintro (_|aa) c d f ⟨h,F⟩;·cases h
     rw[ge] at h
     refine B1n U<|WC.b<|Lj h (fun ab h=>?_)<|fun ab h=>?_
     ·refine Nn<|WC.b<|WC.block<|WC.b<|cK h fun ad h=>Ld<|L3 (dd:=18) (Z:=Z) (Pr:=(rq qk)) z8K O ad ?_
      rintro an ao ae ap rfl
      refine Le 19 (xK z3v (qV hz.pv ae)) (Lh 7 (xW (cs:=[vi 0,vi 0,vi 0,vi 0]) zdM) fun aq _=>Ln (xP zc5 .here)<|Q0n<|WC.b ?_)
      refine bK h fun u af h=>D1q U<|Le 21 (xK z3v (xM .h1))<|Le 22 (xK z3v (xM .here)) (H6 (dd:=23) (x:=((⟨(⟨((nth z26 a).yi).fN,((nth z26 a).yi).fD⟩:z2),(⟨((nth z26 a).fR).fN,((nth z26 a).fR).fD⟩:z2)⟩:z6),(⟨(⟨((nth z2Q c).yi).fN,((nth z2Q c).yi).fD⟩:z2),(⟨((nth z2Q c).fR).fN,((nth z2Q c).fR).fD⟩:z2)⟩:z6))) (h:=()) (g:=f) (s:=d) (b:=u.1) (s':=u.2) K U .q ((.cons .h2 .nil):Sel _ [z8n f d] _) af F (fun w hw=>hz.call hw ((.cons .h2 .nil):Sel _ [z8n f d] _)) fun I J=>Q1n U<|Lj h (fun ag h=>?_)<|fun ag h=>?_)
      ·exact Nw<|Ly<|Ll<|Ll<|Ly<|Ll<|Ly<|Ll<|Ll<|Ly<|Ll<|oJ h▸Li results184 .nil fun w hw=>⟨I,mF,J,hw.sub (.cons .here .nil)⟩
      ·exact N0<|Lt<|Lb<|D2q U<|WL.nil<|Nx ⟨aa,i64 (c+1),u.2,I⟩ ⟨h,J⟩ (Nat.lt_succ_self _) .q<|.s2 .h2 .here
     ·exact Nz<|Lo<|Lo<|Lv<|Lp ⟨d,f⟩ ⟨h,F⟩ .q<|.cons .h1 .nil
    ·rintro l q ⟨h,ah⟩
     replace h:=(Y l).symm.trans h
     exact Lt<|Lp ⟨l,q⟩ ⟨h,ah⟩ .q<|.cons .here .nil
   ·rintro k p ⟨h,ai⟩
    replace h:=(V k).symm.trans h
    exact D2q U<|WL.nil<|Nx ⟨R,i64 (a+1),k,p⟩ ⟨h,ai⟩ (Nat.lt_succ_self _) .q<|.cons .here .nil
  ·exact Nz<|Lo<|Lo<|Lv<|Lp ⟨i,j⟩ ⟨h,z⟩ .nil<|.cons .here .nil
 ·rintro m n ⟨h,aj⟩
  replace h:=(Q m).symm.trans h
  exact oJ h▸Nh results184 .nil fun w hw=>⟨n,mF,aj,hw.sub (.cons .here .nil)⟩
def cd(a:z2)(b:z2):Option (Int×Int):=
 some (i64 ((i64 (a.fN*b.fD))-(i64 (b.fN*a.fD))),i64 (a.fD*b.fD))
theorem F5(Z e f a b r)(h:cd a b=some r){Nv}(hz:PZ [] Nv Z)(c:ZC Z e [vi a.fN,vi a.fD])(d:ZC Z f [vi b.fN,vi b.fD]):
  RC 142 #[vq e,vq f] Nv (.tuple #[vi r.1,vi r.2]) [] []:=by
 unfold cd at h
 exact Lz func142 U U<|B2n U<|WC.b<|Lu nc []<|Lf 0 U (xA jz)<|Lg 1 U (xB xL U<|wA hz.pv c)<|Lf 2 U (xA kd)<|Lg 3 U (xB xL U<|wA hz.pv d)<|Lf 4 U rQ<|Lf 5 U (xA jz)<|Lg 6 U (xB xL U<|wA hz.pv d)<|Lf 7 U (xA kd)<|Lg 8 U (xB xL U<|wA hz.pv c)<|Lf 9 U rQ<|Lf 10 U sR<|Lf 11 U (xA kd)<|Lg 12 U (xB xL U<|wA hz.pv c)<|Lf 13 U (xA kd)<|Lg 14 U (xB xL U<|wA hz.pv d)<|Lf 15 U rQ<|Lf 16 U q_z<|Lf 17 U q_z<|Ny (by kernel_rfl)<|Lb<|Nw<|oJ h▸Nm results142 (.tmp U<|.tmp U .nil) .nil
def ir(a:z2)(b:z2):Option (z2×Int):=
 (qw a).bind fun e=>(if !e then some true else(qw b).bind fun f=>some (!f)).bind fun g=>if g then some ((⟨0,0⟩:z2),2) else(cd a b).bind fun c=>(uw c.1 c.2).bind fun d=>some (d.1,d.2)
theorem M0(Z a b r)(h:ir a b=some r){Nv}(hz:PZ [] Nv Z):
  RC 105 #[.string ⟨#[45]⟩,.agg #[vi a.fN,vi a.fD],.agg #[vi b.fN,vi b.fD]] Nv (.tuple #[.agg #[vi r.1.fN,vi r.1.fD],vi r.2]) [] []:=by
 unfold ir at h
 refine N1 func105 U U<|B0q (Lh 4 (wg (cs:=[vi a.fN,vi a.fD])) fun d _=>Lh 5 (wg (cs:=[vi b.fN,vi b.fD])) fun e _=>Lh 6 (xW (cs:=[vi 0,vi 0]) z1s) fun s _=>Q1n U<|WC.b<|WC.b ?_)
 refine bK h fun u i h=>bK h fun f g h=>Ld<|Le 9 (xK ze (xM .h2))<|Nr call80 hz (jK _ _ _ i)<|Q2q U<|Lw false 3 12 (B:=f) (fun h=>(oJ<|jD g h).symm) (fun _ j=>?_) ?_
 ·have c:=jE g j
  obtain⟨y,m,c⟩:=z8 c
  replace c:=oJ c
  exact Le 13 (xK ze (xM .h1))<|Nr call80 hz (jK _ _ _ m)<|Q2q U<|Lx c U .all
 refine La U<|Lw false 7 17 (B:=f) (fun h=>h) (fun _ n=>?_) ?_
 ·exact La U<|Le 19 (Yk (r:=false) (by decide) U U)<|La U<|WL.e U U<|WL.e U U<|WL.e U U<|Q2q U<|Lx (Eq.symm n) U .all
 refine Q0n<|Lj h (fun o h=>?_)<|fun o h=>?_
 ·exact B0q<|Le 26 (wm (v:=(.agg #[vi 0,vi 0])) (Lq (l:=[]) .nil []) (fun _=>by kernel_rfl))<|Ln (xP z12 .here)<|Q1n U<|Nw<|Ll<|oJ h▸Nm results105 (.agg U ze U (xM .here)<|.tmp U .nil) .nil
 ·refine Nn<|B0q<|Lh 27 (fh Value.string<|fun x=>x) ?_
  intro t _
  let A:Value:=(.func (.func 142) #[] #[vp d,vp e]);refine Le 28 (vf<|L6 (l:=[.tmp 4,.tmp 5])<|.r2 U U)<|Ln (gB (k:=⟨#[43]⟩) (v:=(.func (.func 141) #[] #[vp d,vp e])) fj underlying258 .here)<|Le 29 (vf<|L6 (l:=[.tmp 4,.tmp 5])<|.r2 U U)<|Ln (gB (k:=⟨#[45]⟩) (v:=A) fj underlying258 .here)<|Le 30 (vf<|L6 (l:=[.tmp 4,.tmp 5])<|.r2 U U)<|Ln (gB (k:=⟨#[42]⟩) (v:=(.func (.func 143) #[] #[vp d,vp e])) fj underlying258 .here)<|Le 31 (vf<|L6 (l:=[.tmp 4,.tmp 5])<|.r2 U U)<|Ln (gB (k:=⟨#[47]⟩) (v:=(.func (.func 144) #[] #[vp d,vp e])) fj underlying258 .here)<|Q2n U<|WC.b ?_
  exact bK h fun z p h=>bK h fun C q h=>D2q U<|Le 35 (Yj (k:=⟨#[45]⟩) (dflt:=.nilFunc) (r:=A) fj underlying258 zu9 U U U .here (by rfl))<|Lm 36 (qi (l:=[]) call142 .nil) .nil (uC hz .nil (.s2 .h3 .h2) fun w pz ho la=>F5 _ _ _ _ _ _ p pz ((la _ (.head _) _).stb)<|(la _ (.tail _<|.head _) _).stb)<|Q2q U<|Nr call106 hz (l4 _ _ _ _ q)<|Q2q U<|Ln (xP z12 .h1)<|Q1n U<|Nw<|oJ h▸Nm results105 (.agg U ze U (xM .here)<|.tmp U .nil) .nil
def jq(b:z2)(c:z2):Option (z2×Int):=
 (ir b c).bind fun a=>some (a.1,a.2)
theorem iu(Z a b r)(h:jq a b=some r){Nv}(hz:PZ [] Nv Z):
  RC 74 #[.agg #[vi a.fN,vi a.fD],.agg #[vi b.fN,vi b.fD]] Nv (.tuple #[.agg #[vi r.1.fN,vi r.1.fD],vi r.2]) [] []:=by
 unfold jq at h
 refine Lz func74 U U<|B0q (Lh 2 (wg (cs:=[vi a.fN,vi a.fD])) fun d _=>Lh 3 (wg (cs:=[vi b.fN,vi b.fD])) fun e _=>Lh 4 (xW (cs:=[vi 0,vi 0]) z1s) fun f _=>Q1n U<|WC.b ?_)
 exact bK h fun g c h=>Ld<|Le 6 (xK ze (xM .h2))<|Le 7 (xK ze (xM .h1))<|Nr call105 hz (M0 _ _ _ _ c)<|Q2q U<|Ln (xP z12 .here)<|Q1n U<|Nw<|oJ h▸Nm results74 (.agg U ze U (xM .here)<|.tmp U .nil) .nil
end Go.Proofs.YtcahmabkeaijdaaGreat
