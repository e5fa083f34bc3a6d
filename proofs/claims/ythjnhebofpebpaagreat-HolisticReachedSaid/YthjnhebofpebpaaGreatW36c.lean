/- A part of this claim's proof: models of functions, walks, plain laws. No conditions. -/
import Derived.Test.YthjnhebofpebpaaGreatW36b
set_option linter.all false
namespace Go.Proofs.YthjnhebofpebpaaGreat
open Go Go.RowKit Sep Tryz
variable {f g:Int}{i:List (List zd)}{j:z6}{k:zu}{l:List (z6×Int)}{o:List (List z8)}{p:List (Int×List Int)}{s:List (ym×z2)}
set_option maxRecDepth 30000
set_option maxHeartbeats 4000000
def jV(b:List (List zd))(k:z6)(d:zu)(g:List (z6×Int))(o:(List (List z8))->Int->Int->(List (Int×List Int))->(List (ym×z2))->Option (List (List z8)×Int×Int×(List (ym×z2)))):Nat->(List (List z8))->Int->Int->Int->(List (Int×List Int))->(List (ym×z2))->Option (List (List z8)×Int×Int×(List (ym×z2)))
 | 0,_,_,_,_,_,_=>none
 | t+1,h,l,a,i,e,c=>if decide (a<b.length) then jp5 (fun(u:List (List z8)) (v:Int) (w:Int) (x:List (Int×List Int)) (y:List (ym×z2))=>jV b k d g o t u v (i64 (a+1)) w x y) fun p=>chk (0<=a/\a<b.length) ((vC (nth b a) (fun(y0:zd)=>fO y0 k)).bind fun z=>if !z then p h l i e c else chk (0<=a/\a<d.yc.length) (chk (0<=a/\a<d.yc.length) ((jG ((nth d.yc a).yA)).bind fun j=>jp5 (fun(A:List (List z8)) (B:Int) (C:List (Int×List Int)) (D:Int) (E:Int)=>p A (max l ((nth d.yc a).yA)) B C (w6 c (⟨a,k⟩:ym) (⟨D,E⟩:z2))) fun q=>(uU (nth b a) k.ya).bind fun f=>if f.2 then(mt f.1).bind fun r=>(gT d b c g i a).bind fun F=>(mt f.1).bind fun G=>(jG (xI g G 0)).bind fun H=>(gY d b c g i (fun y0 y1=>gw y0 y1) F H).bind fun s=>(gY d b c g s.2 (fun y0 y1=>vR y0 y1) (⟨(xI c (⟨a,r⟩:ym) (⟨0,0⟩:z2)).fN,(xI c (⟨a,r⟩:ym) (⟨0,0⟩:z2)).fD⟩:z2) s.1).bind fun m=>chk ((((xI e f.1.fQ [])++([a]:List Int)).length:Int)*8<=140737488355328/\(((xI e f.1.fQ [])++([a]:List Int)).length:Int)<=4611686018427387904) (q h m.2 (w6 e f.1.fQ ((xI e f.1.fQ [])++([a]:List Int))) m.1.fN m.1.fD) else(gT d b c g i a).bind fun n=>chk ((((h++([([(⟨j,n⟩:z8)]:List z8)]:List (List z8))).length:Nat):Int)*24<=140737488355328/\(((h++([([(⟨j,n⟩:z8)]:List z8)]:List (List z8))).length:Nat):Int)<=4611686018427387904) (q (h++([([(⟨j,n⟩:z8)]:List z8)]:List (List z8))) i e j.fN j.fD)))) else o h l i e c
def jW(b:List (Int×List Int))(c:Int)(e:zu)(f:List (List zd))(d:List (ym×z2))(g:List (z6×Int))(i:z6)(k:Int->Int->Int->Int->Int->Int->Option (List (List z8)×Int×Int×(List (ym×z2)))):Nat->Int->Int->Int->Int->Int->Int->Int->Option (List (List z8)×Int×Int×(List (ym×z2)))
 | 0,_,_,_,_,_,_,_=>none
 | r+1,l,a,m,n,o,p,q=>if decide (a<((xI b c []).length:Int)) then chk (0<=a/\a<((xI b c []).length:Int)) ((gY e f d g m (fun y0 y1=>vR y0 y1) (⟨n,o⟩:z2) (⟨(xI d (⟨nth (xI b c []) a,i⟩:ym) (⟨0,0⟩:z2)).fN,(xI d (⟨nth (xI b c []) a,i⟩:ym) (⟨0,0⟩:z2)).fD⟩:z2)).bind fun h=>(gT e f d g h.2 (nth (xI b c []) a)).bind fun s=>(gY e f d g h.2 (fun y0 y1=>vR y0 y1) (⟨p,q⟩:z2) s).bind fun j=>chk (0<=(nth (xI b c []) a)/\(nth (xI b c []) a)<e.yc.length) (jW b c e f d g i k r (max l ((nth e.yc (nth (xI b c []) a)).yA)) (i64 (a+1)) j.2 h.1.fN h.1.fD j.1.fN j.1.fD)) else k l m n o p q
def jX(b:zu)(d:List (Int×List Int))(k:List (List zd))(l:List (ym×z2))(m:List (z6×Int))(n:z6)(o:(List (List z8))->Int->Option (List (List z8)×Int×Int×(List (ym×z2)))):Nat->(List (List z8))->Int->Int->Option (List (List z8)×Int×Int×(List (ym×z2)))
 | 0,_,_,_=>none
 | s+1,c,a,e=>if decide (a<b.fK.length) then sk (fun(t:List (List z8)) (u:Int)=>jX b d k l m n o s t (i64 (a+1)) u) fun p=>if decide (((xI d a []).length:Int)=0) then p c e else(jG 0).bind fun q=>(jG 0).bind fun r=>jp6 (fun(v:Int) (w:Int) (f:Int) (g:Int) (h:Int) (i:Int)=>(jG v).bind fun j=>chk (0<=a/\a<b.fK.length) (chk ((((c++([([(⟨(⟨f,g⟩:z2),(⟨h,i⟩:z2)⟩:z8),(⟨j,(⟨1,(nth b.fK a).yp⟩:z2)⟩:z8)]:List z8)]:List (List z8))).length:Nat):Int)*24<=140737488355328/\(((c++([([(⟨(⟨f,g⟩:z2),(⟨h,i⟩:z2)⟩:z8),(⟨j,(⟨1,(nth b.fK a).yp⟩:z2)⟩:z8)]:List z8)]:List (List z8))).length:Nat):Int)<=4611686018427387904) (p (c++([([(⟨(⟨f,g⟩:z2),(⟨h,i⟩:z2)⟩:z8),(⟨j,(⟨1,(nth b.fK a).yp⟩:z2)⟩:z8)]:List z8)]:List (List z8))) w))) fun x=>jW d a b k l m n x xR 0 0 e q.fN q.fD r.fN r.fD else o c e
def mO(g:zu)(c:List (List zd))(h:List (ym×z2))(d:List (z6×Int))(i:Int)(e:z6):Option (List (List z8)×Int×Int×(List (ym×z2))):=
 jp5 (fun(a:List (List z8)) (j:Int) (k:Int) (l:List (Int×List Int)) (f:List (ym×z2))=>sk (fun(b:List (List z8)) (m:Int)=>chk (((a++b).length:Int)*24<=140737488355328/\((a++b).length:Int)<=4611686018427387904) (some (a++b,j,m,f))) fun n=>jX g l c f d e n xR ([]:List (List z8)) 0 k) fun o=>jV c e g d o xR ([]:List (List z8)) 0 0 i ([]:List (Int×List Int)) h
theorem nU{Z o bf bg bh bi bj bk bl bm bn bo bp bq br bs bt bu bv bw g m a ag bx p bz B r}(h:mO a ag bx p bz B=some r){Nx}(hz:Pz [stb o 119 [vs bf a.fM.length bg,vs bh a.yd.length bi,vs bj a.fS.length bk,vs bl a.fK.length bm,vs bn a.yc.length bo,vs bp a.fH.length bq,vs br a.fU.length bs,vs bt a.ye.length bu,vs bv ag.length bw,.map (some g),.map (some m),vi bz],xN g (ga jM) (ga xX) bx,xN m (ga w8) vI p] Nx Z)(aU:ZS Z 4 (kr Z) bf bg a.fM)(aV:ZS Z 4 (g5 Z) bh bi a.yd)(aW:ZS Z 4 (rq ki) bj bk a.fS)(aM:ZS Z 4 (rq gg) bl bm a.fK)(aq:ZS Z 7 (g8 Z) bn bo a.yc)(aX:ZS Z 5 (rq gc) bp bq a.fH)(aY:ZS Z 3 (g6 Z) br bs a.fU)(aZ:ZS Z 4 (rq ge) bt bu a.ye)(aN:ZS Z 1 (g9 Z) bv bw ag)(eO:Ho Nx [stb o 119 [vs bf a.fM.length bg,vs bh a.yd.length bi,vs bj a.fS.length bk,vs bl a.fK.length bm,vs bn a.yc.length bo,vs bp a.fH.length bq,vs br a.fU.length bs,vs bt a.ye.length bu,vs bv ag.length bw,.map (some g),.map (some m),vi bz],xN g (ga jM) (ga xX) bx,xN m (ga w8) vI p]):
  Calls Tryz.prog 79 #[vp o,.agg #[vi B.ya,vi B.fQ]] Nx fun e w'=>∃ Zn:Zp,∃ cc:Option Addr,∃ cd:Nat,∃ ce:List Value,e = .returned (.tuple #[vs cc r.1.length cd,vi r.2.1])/\(RR 1 (jT (Z++Zn)) ce r.1)/\Hp (fps [stb o 119 [vs bf a.fM.length bg,vs bh a.yd.length bi,vs bj a.fS.length bk,vs bl a.fK.length bm,vs bn a.yc.length bo,vs bp a.fH.length bq,vs br a.fU.length bs,vs bt a.ye.length bu,vs bv ag.length bw,.map (some g),.map (some m),vi bz],xN g (ga jM) (ga xX) bx,xN m (ga w8) vI p]) Nx w' [fz Zn,row (vs cc r.1.length cd) 227 1 ce,stb o 119 [vs bf a.fM.length bg,vs bh a.yd.length bi,vs bj a.fS.length bk,vs bl a.fK.length bm,vs bn a.yc.length bo,vs bp a.fH.length bq,vs br a.fU.length bs,vs bt a.ye.length bu,vs bv ag.length bw,.map (some g),.map (some m),vi r.2.2.1],xN g (ga jM) (ga xX) r.2.2.2,xN m (ga w8) vI p]:=by
 unfold mO at h
 refine Ni func79 U eO U ?_
 let N:List Value:=[vi B.ya,vi B.fQ];refine WC.pool<|B0q<|Lg 3 (wa (cs:=N)) ?_
 intro q _
 refine Q2n U<|B2n U<|B0q<|Lg 20 (kH vI<|slv (α:=Int)) ?_
 intro y _
 let C:Value:=(vs bv ag.length bw);let E:Value:=(vs bf a.fM.length bg);let F:Value:=(vs bh a.yd.length bi);let G:Value:=(vs bj a.fS.length bk);let H:Value:=(vs bl a.fK.length bm);let I:Value:=(vs bn a.yc.length bo);let J:Value:=(vs bp a.fH.length bq);let K:Value:=(vs br a.fU.length bs);let L:Value:=(vs bt a.ye.length bu);refine Bk (M:=[wH (qU 3 1 e3) ([]:List (Int×((Nat×(Option Addr×Nat))×List Int))),xN y vI slv (jL ([]:List (Int×((Nat×(Option Addr×Nat))×List Int)))),stb q 121 N,fz [],stb o 119 [E,F,G,H,I,J,K,L,C,(.map<|some g),(.map<|some m),vi bz],xN g (ga jM) (ga xX) bx,xN m (ga w8) vI p]) (fun _ h=>Hp.eE (qU 3 1 e3) h)<|Q1n U<|B1n U ?_
 refine jK5 h fun cf cr h=>Ph (fun an ao a0 T ah aD bA bB aj X=>(cf an ao a0 T ah=some r)/\(xE (Z++[]) (Z++aD))/\(RR 1 (jT (Z++aD)) aj an)/\(mM X=T)) (fun an ao a0 T ah aD bA bB aj X=>[(0,vp o),(3,vp q),(6,vs bA an.length bB),(7,vn),(8,(.map<|some y)),(9,vi ao)]) (fun an ao a0 T ah aD bA bB aj X=>[fz aD,row (vs bA an.length bB) 227 1 aj,stb o 119 [E,F,G,H,I,J,K,L,C,(.map<|some g),(.map<|some m),vi a0],stb q 121 N,xN y vI slv (jL X),wH (qU 3 1 e3) X,xN g (ga jM) (ga xX) ah,xN m (ga w8) vI p]) ?_ ?_
 ·refine B1q U<|Le 22 xY<|Le 23 (xz Mm)<|Le 24 (Nt zLA .h4)<|Le 25 (w9 underlying32)<|Q1n U<|WC.block<|WC.nilRow 227 1<|Pw (fun bC V ar n aE z ak t av aw al ai=>(jV ag B a p cf bC V ar n aE z ak=some r)/\(xE (Z++[]) (Z++t))/\(RR 1 (jT (Z++t)) al V)/\(mM ai=z)) (fun bC V ar n aE z ak t av aw al ai=>[(0,vp o),(3,vp q),(6,vs av V.length aw),(7,vn),(8,(.map<|some y)),(9,vi ar),(24,C),(25,vi (ag.length:Int)),(26,vi n)]) (fun bC V ar n aE z ak t av aw al ai=>[fz t,row (vs av V.length aw) 227 1 al,stb o 119 [E,F,G,H,I,J,K,L,C,(.map<|some g),(.map<|some m),vi aE],stb q 121 N,xN y vI slv (jL ai),wH (qU 3 1 e3) ai,xN g (ga jM) (ga xX) ak,xN m (ga w8) vI p]) (fun bC V ar n aE z ak t av aw al ai=>bC) ⟨xR,([]:List (List z8)),0,0,bz,([]:List (Int×List Int)),bx,[],none,0,[],([]:List (Int×((Nat×(Option Addr×Nat))×List Int)))⟩ ⟨h,xE.refl _,RR.nil _ _,U⟩ .q (.s8 .h4 .here .h3 .h2 .h1 .here .here .here) ?_
  rintro (_|dG) V ar n aE z ak t av aw al ai ⟨h,b,b0,bS⟩;·cases h
  rw[jV] at h
  refine B1n U<|WC.b<|Lj h (fun ct h=>?_)<|fun ct h=>?_
  ·refine Nn<|jK5 h fun dH cu h=>Ph (fun aF a1 a2 a3 a4 a5 bD bE bF a6=>(dH aF a1 a2 a3 a4=some r)/\(xE (Z++t) (Z++a5))/\(RR 1 (jT (Z++a5)) bF aF)/\(mM a6=a3)) (fun aF a1 a2 a3 a4 a5 bD bE bF a6=>[(0,vp o),(3,vp q),(6,vs bD aF.length bE),(7,vn),(8,(.map<|some y)),(9,vi a1),(24,C),(25,vi (ag.length:Int)),(26,vi n)]) (fun aF a1 a2 a3 a4 a5 bD bE bF a6=>[fz a5,row (vs bD aF.length bE) 227 1 bF,stb o 119 [E,F,G,H,I,J,K,L,C,(.map<|some g),(.map<|some m),vi a2],stb q 121 N,xN y vI slv (jL a6),wH (qU 3 1 e3) a6,xN g (ga jM) (ga xX) a4,xN m (ga w8) vI p]) ?_ ?_
   ·refine WC.block<|WC.b<|cK h fun cv h=>D1q U<|L2 (Z:=(Z++t)) (Pr:=(g9 (Z++t))) z8K ((aN.mono<|zl.trans b).weak (fun _ _ h=>qa (zl.trans b) h)) cv ?_
    rintro dQ dR cw dS ⟨dT,dU,rfl,cg⟩
    refine Le 30 (xA z9v U<|kN (hz.pv2 .here) cw)<|Q2n U<|WC.b<|WC.b<|bK h fun ej cx h=>D1q U<|Le 32 (wJ<|L6 (l:=[.tmp 3])<|.cons U .nil)<|Ln 33 (Ns call75) .nil (cE hz .nil .here (.cons .h3 .nil) fun w pz ho la=>rg (zp3:=117) (zy6:=[vp q]) (zp2:=(fun(y0:zd)=>fO y0 B)) cx pz (cg.mono<|zl) call117<|fun w' hz' y0  r  hr=>dI hr hz'<|(la _ (.head _) _).stb)<|Q1n U<|Lj h (fun cy h=>?_)<|fun cy h=>?_
    ·exact N1<|Lm<|Lv<|Lo ⟨V,ar,aE,z,ak,t,av,aw,al,ai⟩ ⟨h,xE.refl _,b0,bS⟩ .q<|.a8
    ·refine Nn<|WC.b<|cK h fun cz h=>D2q U<|Le 37 xY<|Le 38 (xz sd)<|Le 39 (xz uO)<|Le 40 (Nt zab .h2)<|La U<|L2 (Z:=(Z++t)) (Pr:=(g8 (Z++t))) zfn ((aq.mono<|zl.trans b).weak (fun _ _ h=>wX (zl.trans b) h)) cz ?_
     rintro dV dW cA dX ⟨dY,dZ,rfl,d0⟩
     refine Le 43 (xz rL)<|Le 44 (xA xJ U<|wq (hz.pv2 .here) cA)<|Le 45 iW<|Q1n U<|WC.b<|cK h fun cC h=>bK h fun Y cD h=>D1q U<|Le 47 xY<|Le 48 (xz sd)<|Le 49 (xz uO)<|Le 50 (Nt zab .h2)<|La U<|L2 (Z:=(Z++t)) (Pr:=(g8 (Z++t))) zfn ((aq.mono<|zl.trans b).weak (fun _ _ h=>wX (zl.trans b) h)) cC ?_
     rintro d1 d2 cF d3 ⟨d4,d5,rfl,d6⟩
     refine Le 53 (xz rL)<|Le 54 (xA xJ U<|wq (hz.pv2 .here) cF)<|Ln 55 (Ns call80) .nil (ms hz .nil .here fun w pz ho=>uu cD pz ) (Lg 12 (xT (cs:=[vi 0,vi 0]) z1z) fun b1 _=>Ll (xP zZ .here)<|Q0n ?_)
     refine jK5 h fun dJ cG h=>Ph (fun aG a7 a8 aO aP a9 bG bH bI ba=>(dJ aG a7 a8 aO aP=some r)/\(xE (Z++t) (Z++a9))/\(RR 1 (jT (Z++a9)) bI aG)/\(mM ba=a8)) (fun aG a7 a8 aO aP a9 bG bH bI ba=>[(0,vp o),(3,vp q),(6,vs bG aG.length bH),(7,vn),(8,(.map<|some y)),(9,(vi<|max ar<|(nth a.yc n).yA)),(10,vi n),(12,vp b1),(24,C),(25,vi (ag.length:Int)),(26,vi n)]) (fun aG a7 a8 aO aP a9 bG bH bI ba=>[fz a9,row (vs bG aG.length bH) 227 1 bI,stb o 119 [E,F,G,H,I,J,K,L,C,(.map<|some g),(.map<|some m),vi a7],stb q 121 N,xN y vI slv (jL ba),wH (qU 3 1 e3) ba,stb b1 175 [vi aO,vi aP],xN g (ga jM) (ga xX) ak,xN m (ga w8) vI p]) ?_ ?_
     ·refine WC.b<|bK h fun x cH h=>D1q U<|Le 58 (xz lI)<|Le 59 (Nt xJ .h4)<|Ln 60 (Ns call77) .nil (ms hz .nil .h1 fun w pz ho=>cN cH pz cg)<|Q2q U<|La U (Lg 13 (xT (cs:=[vi 0,vi 0,vi 0]) zdE) fun b9 _=>Ll (xP zbS .here)<|Q1n U<|B1n U<|Lj h (fun cI h=>?_)<|fun cI h=>?_)
      ·refine WC.b ?_
       obtain⟨bT,cJ,h⟩:=za h
       obtain⟨ek,cL,h⟩:=za h
       obtain⟨dK,cM,h⟩:=za h
       obtain⟨el,cO,h⟩:=za h
       obtain⟨em,cP,h⟩:=za h
       obtain⟨bJ,cQ,h⟩:=za h
       let S:List Value:=[vi x.1.ya,vi x.1.fX,vi x.1.fQ];refine Lu (fun i=>[13,22,23,24].contains i) [re o 119 [(9,(.map<|some g)),(10,(.map<|some m))],XF g (ga jM) (ga xX) (⟨n,bT⟩:ym) ((⟨0,0⟩:z2):z2) (xI ak (⟨n,bT⟩:ym) (⟨0,0⟩:z2)),stb b9 60 S]<|Lf 0 U q_m<|Lf 1 U q_m<|Lf 2 U xY<|Lf 3 U (xz YY)<|L7 4 U (wB.wk (.s3 .h4 .h7 .here)<|.stb (.cons U<|.cons U .nil)<|.any U (fun _ h=>pt h)<|.same .nil) (xA zCp U<|mC .here<|.head _)<|Lf 5 U q_m<|Lh 6 U (xK z54 (xM .here))<|L4 7 U (Ns call60) (ms hz .nil .h2 fun w pz ho=>tL cJ pz )<|Lf 8 U (we (v:=(.agg #[vi n,vi bT.ya,vi bT.fQ])) (Lq (l:=[.tmp 69,.tmp 71]) (.r2 U U) [0,1]))<|L7 9 U (wB.wk (.s3 .h4 .h7 .here)<|.stb (.cons U<|.cons U .nil)<|.any U (fun _ h=>pt h)<|.same .nil) (Vj (k:=(⟨n,bT⟩:ym)) (dflt:=((⟨0,0⟩:z2):z2)) zCr underlying116 z1z U U U .h1)<|Lf 10 U q_m<|Lf 11 U q_m<|Lf 12 U q_m<|Lf 14 U q_m<|Lf 15 U xY<|Lf 16 U (xz YZ)<|L7 17 U (wB.wk (.s3 .h4 .h7 .here)<|.stb (.cons U<|.cons U .nil)<|.any U (fun _ h=>pt h)<|.same .nil) (xA ztl U<|mC .here<|.tail _<|.head _)<|L7 18 U (wB.wk (.s3 .h4 .h7 .here)<|.stb (.cons U<|.cons U .nil)<|.any U (fun _ h=>pt h)<|.same .nil) (xK z54 (xM .h2))<|WD.call0 (i:=13) U U (.inl ⟨U,(by exact(wB.wk (.s3 .h6 .here .h1)<|.stb (.cons U<|.cons U .nil)<|.any U (fun _ h=>pt h)<|.same .nil))⟩) (Ns call121) (.s2 (.there .h7)<|.there .h7) (cE hz (.s2 (.there .h7)<|.there .h7) .h2 (.cons .h4 .nil) fun w pz ho la=>Calls.mono (pY cL pz ((((aU.mono<|zl.trans b).weak (fun _ _ h=>wV (zl.trans b) h)).mono zl).weak (fun _ _ h=>wV zl h)) ((((aV.mono<|zl.trans b).weak (fun _ _ h=>vt (zl.trans b) h)).mono zl).weak (fun _ _ h=>vt zl h)) ((aW.mono<|zl.trans b).mono zl) ((aM.mono<|zl.trans b).mono zl) ((((aq.mono<|zl.trans b).weak (fun _ _ h=>wX (zl.trans b) h)).mono zl).weak (fun _ _ h=>wX zl h)) ((aX.mono<|zl.trans b).mono zl) ((((aY.mono<|zl.trans b).weak (fun _ _ h=>vu (zl.trans b) h)).mono zl).weak (fun _ _ h=>vu zl h)) ((aZ.mono<|zl.trans b).mono zl) ((((aN.mono<|zl.trans b).weak (fun _ _ h=>qa (zl.trans b) h)).mono zl).weak (fun _ _ h=>qa zl h)) ((la _ (.head _) _).stb) ho)<|fun _ _ h'=>⟨h'.1,trivial,h'.2⟩) ?_
       intro _
       refine L4 19 U (Ns call60) (ms hz .nil .h4 fun w pz ho=>tL cM pz )<|Lh 20 U (jg (k:=dK) (dflt:=(0:Int)) ziM underlying117 jF .h1)<|L4 21 U (Ns call80) (ms hz .nil .h4 fun w pz ho=>uu cO pz ) (WD.call0 (i:=22) U U (.inl ⟨U,(by exact(wB.wk (.s3 .here .here .h1)<|.stb (.cons U<|.cons U .nil)<|.any U (fun _ h=>pt h)<|.same .nil))⟩) (Ns call118) (.s3 .h6 .here .here) (ms hz (.s3 .h6 .here .here) .h2 fun w pz ho=>Calls.mono (rZ (zfZ:=120) (zm5:=[]) (zjb:=(fun y0 y1=>gw y0 y1)) cP pz ((aU.mono<|zl.trans b).weak (fun _ _ h=>wV (zl.trans b) h)) ((aV.mono<|zl.trans b).weak (fun _ _ h=>vt (zl.trans b) h)) (aW.mono<|zl.trans b) (aM.mono<|zl.trans b) ((aq.mono<|zl.trans b).weak (fun _ _ h=>wX (zl.trans b) h)) (aX.mono<|zl.trans b) ((aY.mono<|zl.trans b).weak (fun _ _ h=>vu (zl.trans b) h)) (aZ.mono<|zl.trans b) ((aN.mono<|zl.trans b).weak (fun _ _ h=>qa (zl.trans b) h)) call120 (fun w' hz' y0 y1  r  hr=>ay hr hz' ) ho)<|fun _ _ h'=>⟨h'.1,trivial,h'.2⟩) fun _=>WD.call0 (i:=23) U U (.inl ⟨U,(by exact(wB.wk (.s3 .here .here .h1)<|.stb (.cons U<|.cons U .nil)<|.any U (fun _ h=>pt h)<|.same .nil))⟩) (Ns call118) .a3 (ms hz .a3 .h2 fun w pz ho=>Calls.mono (rZ (zfZ:=119) (zm5:=[]) (zjb:=(fun y0 y1=>vR y0 y1)) cQ pz ((aU.mono<|zl.trans b).weak (fun _ _ h=>wV (zl.trans b) h)) ((aV.mono<|zl.trans b).weak (fun _ _ h=>vt (zl.trans b) h)) (aW.mono<|zl.trans b) (aM.mono<|zl.trans b) ((aq.mono<|zl.trans b).weak (fun _ _ h=>wX (zl.trans b) h)) (aX.mono<|zl.trans b) ((aY.mono<|zl.trans b).weak (fun _ _ h=>vu (zl.trans b) h)) (aZ.mono<|zl.trans b) ((aN.mono<|zl.trans b).weak (fun _ _ h=>qa (zl.trans b) h)) call119 (fun w' hz' y0 y1  r  hr=>px hr hz' ) ho)<|fun _ _ h'=>⟨h'.1,trivial,h'.2⟩) ?_)
       intro _
       refine Nc (i:=24) U (xP zZ .h4)<|N0<|Lb<|cK h fun cR h=>Lu (fun i=>[9,10].contains i) [re b9 60 [(2,vi x.1.fQ)]]<|Lf 0 U q_m<|Lf 1 U (xz sq)<|L7 2 U (wB.wk (.cons .h4 .nil)<|.stb (.cons U .nil) .nil) (xA xJ U<|mC .here<|.head _)<|Lf 3 U q_m<|Lf 4 U (xz sq)<|Lh 5 U (Nt xJ .h4)<|Lh 6 U (jg (k:=x.1.fQ) (dflt:=(((none,0),[]):(Option Addr×Nat)×List Int)) gM underlying219 zCs<|.there .h7)<|Ps (fun _ h=>Hp.bM x.1.fQ bS (.there<|.there .h7) h) ?_
       rintro⟨cS,cT⟩ cU
       refine N3 (i:=94) U (u:=(vs cS ((xI z x.1.fQ []).length) cT)) (congrArg slv cU)<|Lf 7 U q_m (WD.new (i:=8) U U (wj (cs:=([n]:List Int).flatMap e3) z7G (Lq (l:=[.tmp 95]) (.cons U .nil) [0])) (fun h'=>absurd h' (by decide)) fun cV _=>WD.old (i:=9) U U (fun _=>(wB.wk (.cons .h7 .nil)<|.stb (.cons U .nil) .nil)) (kG (enc:=e3) (l1:=xI z x.1.fQ []) (l2:=([n]:List Int)) z7G .h1 (jB .here) (gF U3) cR) ?_)
       rintro⟨b2,b3⟩ _
       exact Nc (i:=10) U (kV (k:=x.1.fQ) (v:=(((b2,b3),(xI z x.1.fQ [])++([n]:List Int)):(Option Addr×Nat)×List Int)) gM underlying219<|.there<|.there<|.there<|.there .h7)<|Oc (fun _ h=>Hp.XH (k:=x.1.fQ) (.s2 .h1 .h2) h)<|Oc (M:=[xN y vI slv (jL<|w6 ai x.1.fQ ((0,(b2,b3)),(xI z x.1.fQ [])++([n]:List Int))),wH (qU 3 1 e3) (w6 ai x.1.fQ ((0,(b2,b3)),(xI z x.1.fQ [])++([n]:List Int))),row (vs (some ⟨cV,0,none⟩) (([n]:List Int).length) 1) 3 1 (([n]:List Int).flatMap e3),stb b1 175 [vi bJ.1.fN,vi bJ.1.fD],stb o 119 [E,F,G,H,I,J,K,L,C,(.map<|some g),(.map<|some m),vi bJ.2],xN g (ga jM) (ga xX) ak,xN m (ga w8) vI p,stb b9 60 S,fz t,row (vs av V.length aw) 227 1 al,stb q 121 N]) (fun _ h=>Hp.eF .h1 (au _ _ _ _).symm h)<|N0<|Lo ⟨V,bJ.2,w6 z x.1.fQ ((xI z x.1.fQ [])++([n]:List Int)),bJ.1.fN,bJ.1.fD,t,av,aw,al,w6 ai x.1.fQ ((0,(b2,b3)),(xI z x.1.fQ [])++([n]:List Int))⟩ ⟨h,xE.refl _,b0,lC bS _ _ _⟩ .q<|.s9 (.there .h7) (.there .h7) .h4 .h7 .here .here .h1 .h1 .h1
      ·refine bK h fun ax cW h=>cK h fun cX h=>Lu (fun i=>[4,8].contains i) [stb b1 175 [vi Y.fN,vi Y.fD]]<|Lf 0 U q_m<|L7 1 U (wB.of<|.cons .h1 .nil) (xK zh (xM .here))<|Lf 2 U q_m<|Lf 3 U q_m (WD.call0 (i:=4) U U (.inl ⟨U,(wB.of<|.cons .h3 .nil)⟩) (Ns call121) (.s2 (.there .h7)<|.there .h7) (cE hz (.s2 (.there .h7)<|.there .h7) .h2 (.cons .h4 .nil) fun w pz ho la=>Calls.mono (pY cW pz ((((aU.mono<|zl.trans b).weak (fun _ _ h=>wV (zl.trans b) h)).mono zl).weak (fun _ _ h=>wV zl h)) ((((aV.mono<|zl.trans b).weak (fun _ _ h=>vt (zl.trans b) h)).mono zl).weak (fun _ _ h=>vt zl h)) ((aW.mono<|zl.trans b).mono zl) ((aM.mono<|zl.trans b).mono zl) ((((aq.mono<|zl.trans b).weak (fun _ _ h=>wX (zl.trans b) h)).mono zl).weak (fun _ _ h=>wX zl h)) ((aX.mono<|zl.trans b).mono zl) ((((aY.mono<|zl.trans b).weak (fun _ _ h=>vu (zl.trans b) h)).mono zl).weak (fun _ _ h=>vu zl h)) ((aZ.mono<|zl.trans b).mono zl) ((((aN.mono<|zl.trans b).weak (fun _ _ h=>qa (zl.trans b) h)).mono zl).weak (fun _ _ h=>qa zl h)) ((la _ (.head _) _).stb) ho)<|fun _ _ h'=>⟨h'.1,trivial,h'.2⟩) fun _=>Lf 5 U (we (v:=(.agg #[vi Y.fN,vi Y.fD,vi ax.fN,vi ax.fD])) (Lq (l:=[.tmp 99,.tmp 102]) (.r2 U U) [0,1])) (WD.new (i:=6) U U (wj (cs:=([(⟨Y,ax⟩:z8)]:List z8).flatMap qt) zad (Lq (l:=[.tmp 103]) (.cons U .nil) [0])) (fun h'=>absurd h' (by decide)) fun ch _=>WD.freezeS (ls:=([(⟨Y,ax⟩:z8)]:List z8)) .here .h4 hz (RR.flat (enc:=qt)) ?_))
       intro b4 ci cY
       let D:List Value:=[vs (some ⟨ch,0,none⟩) (([(⟨Y,ax⟩:z8)]:List z8).length) 1];have cj:RR 1 (jT (Z++b4)) D ([([(⟨Y,ax⟩:z8)]:List z8)]:List (List z8)):=(RR.cons (r:=D) U (show jT _ _ _ from⟨_,_,U,cY⟩) (RR.nil _ _))
       refine WD.new (i:=7) U U (wj (cs:=[vs (some ⟨ch,0,none⟩) (([(⟨Y,ax⟩:z8)]:List z8).length) 1]) zfo (Lq (l:=[.tmp 104]) (.cons U .nil) [0])) (fun h'=>absurd h' (by decide)) ?_
       intro d7 _
       have cZ:RR 1 (jT (Z++b4)) (al++D) (V++([([(⟨Y,ax⟩:z8)]:List z8)]:List (List z8))):=RR.app (b0.weak (fun _ _ h=>gp ci h)) cj
       refine WD.old (i:=8) U U (fun _=>(wB.of<|.cons .h6 .nil)) (oz (l1:=V) (l2:=([([(⟨Y,ax⟩:z8)]:List z8)]:List (List z8))) (ve:=D) (Pr:=(jT (Z++b4))) zfo .h6 cj (jB .here) ly cX) ?_
       rintro⟨c0,c1⟩ _
       exact Lf 9 U q_z<|N0<|Lo ⟨V++([([(⟨Y,ax⟩:z8)]:List z8)]:List (List z8)),aE,z,Y.fN,Y.fD,b4,c0,c1,al++D,ai⟩ ⟨h,ci,cZ,bS⟩ .q<|.s9 .h2 .here .h5 .h5 .h5 .h5 .h4 .h1 .h1
     ·rintro aG a7 a8 aO aP a9 bG bH bI ba ⟨h,c2,c3,c4⟩
      replace h:=(cG aG a7 a8 aO aP).symm.trans h
      exact Lu (fun i=>[8].contains i) []<|Lf 0 U q_m<|Lf 1 U xY<|Lf 2 U (xz YY)<|Lh 3 U (Nt zCp .h2)<|Lf 4 U q_m<|Lh 5 U (xK z6Q (xM .h3))<|Lf 6 U (we (v:=(.agg #[vi n,vi B.ya,vi B.fQ])) (Lq (l:=[.tmp 111,.tmp 112]) (.r2 U U) [0,1]))<|Lh 7 U (xK zh (xM .h6))<|Nc (i:=8) U (kV (k:=(⟨n,B⟩:ym)) (v:=(⟨aO,aP⟩:z2)) zCr underlying116 .h7)<|N0<|Lt<|Lo ⟨aG,(max ar<|(nth a.yc n).yA),a7,a8,w6 ak (⟨n,B⟩:ym) (⟨aO,aP⟩:z2),a9,bG,bH,bI,ba⟩ ⟨h,c2,c3,c4⟩ .q<|.s8 .h1 .h1 .h1 .h1 .h1 .h1 .here .h1
   ·rintro aF a1 a2 a3 a4 a5 bD bE bF a6 ⟨h,c5,c6,c7⟩
    replace h:=(cu aF a1 a2 a3 a4).symm.trans h
    exact D2q U<|WL.nil<|Nz ⟨dG,aF,a1,i64 (n+1),a2,a3,a4,a5,bD,bE,bF,a6⟩ ⟨h,b.trans c5,c6,c7⟩ .q<|.a8
  ·exact N1<|Lm<|Lm<|Lv<|Lo ⟨V,ar,aE,z,ak,t,av,aw,al,ai⟩ ⟨h,b,b0,bS⟩ .q<|.a8
 ·rintro an ao a0 T ah aD bA bB aj X ⟨h,d,c8,b5⟩
  replace h:=(cr an ao a0 T ah).symm.trans h
  obtain⟨ck,c9,h⟩:=jR h
  let O:Value:=(vs bA an.length bB);refine Pg (fun az bL aH bU bV aQ=>(ck az bL=some r)/\(xE (Z++aD) (Z++aH))/\(RR 1 (jT (Z++aH)) aQ az)) (fun az bL aH bU bV aQ=>[(6,O),(7,vs bU az.length bV),(9,vi ao)]) (fun az bL aH bU bV aQ=>[fz aH,row O 227 1 aj,row (vs bU az.length bV) 227 1 aQ,stb o 119 [E,F,G,H,I,J,K,L,C,(.map<|some g),(.map<|some m),vi bL],xN g (ga jM) (ga xX) ah,xN m (ga w8) vI p]) ?_ ?_
  ·let P:Value:=(vi (a.fK.length:Int));refine B1q U<|Le 117 xY<|Le 118 (xz sd)<|Le 119 (xz tx)<|Le 120 (Nt zaU .h2)<|Le 121 (w9 underlying25)<|Q1n U<|WC.block<|WC.nilRow 227 1<|Ox (fun bM aa f aI W aJ aK am=>(jX a T ag ah p B ck bM aa f aI=some r)/\(xE (Z++aD) (Z++W))/\(RR 1 (jT (Z++W)) am aa)) (fun bM aa f aI W aJ aK am=>[(0,vp o),(3,vp q),(6,O),(7,vs aJ aa.length aK),(8,(.map<|some y)),(9,vi ao),(121,P),(122,vi f)]) (fun bM aa f aI W aJ aK am=>[fz W,row O 227 1 aj,row (vs aJ aa.length aK) 227 1 am,stb o 119 [E,F,G,H,I,J,K,L,C,(.map<|some g),(.map<|some m),vi aI],stb q 121 N,xN y vI slv (jL X),wH (qU 3 1 e3) X,xN g (ga jM) (ga xX) ah,xN m (ga w8) vI p]) (fun bM aa f aI W aJ aK am=>bM) ⟨xR,([]:List (List z8)),0,a0,aD,none,0,[]⟩ ⟨h,xE.refl _,RR.nil _ _⟩ .q (.s9 .h1 .h1 .here .here .here .here .here .here .here) ?_
   rintro (_|dL) aa f aI W aJ aK am ⟨h,c,ca⟩;·cases h
   rw[jX] at h
   refine B1n U<|WC.b<|Lj h (fun da h=>?_)<|fun da h=>?_
   ·refine Nn<|jK2 h fun dM db h=>Pg (fun aL bb bc bN bO bP=>(dM aL bb=some r)/\(xE (Z++W) (Z++bc))/\(RR 1 (jT (Z++bc)) bP aL)) (fun aL bb bc bN bO bP=>[(0,vp o),(3,vp q),(6,O),(7,vs bN aL.length bO),(8,(.map<|some y)),(9,vi ao),(121,P),(122,vi f)]) (fun aL bb bc bN bO bP=>[fz bc,row O 227 1 aj,row (vs bN aL.length bO) 227 1 bP,stb o 119 [E,F,G,H,I,J,K,L,C,(.map<|some g),(.map<|some m),vi bb],stb q 121 N,xN y vI slv (jL X),wH (qU 3 1 e3) X,xN g (ga jM) (ga xX) ah,xN m (ga w8) vI p]) ?_ ?_
    ·refine WC.block<|B2n U<|WC.b<|B2q U<|Le 127 (jg (k:=f) (dflt:=(((none,0),[]):(Option Addr×Nat)×List Int)) gM underlying219 zCs .h5)<|Ov (fun _ h=>Hp.bM f b5 .h6 h) ?_
     rintro⟨dc,de⟩ cl
     refine L9 (i:=127) U (u:=(vs dc ((xI T f []).length) de)) (congrArg slv cl)<|Le 128 (w9 underlying50)<|La U<|Bk (fun _ h=>Hp.Vk b5 cl .a2 h)<|Q0n<|Lj h (fun df h=>?_)<|fun df h=>?_
     ·exact N1<|Lm<|Lv<|Lo ⟨aa,aI,W,aJ,aK,am⟩ ⟨h,xE.refl _,ca⟩ .q<|.s9 .h1 .h1 .h1 .h1 .h1 .h1 .here .here .here
     ·refine Nn<|WC.b<|bK h fun b6 dg h=>bK h fun b7 dh h=>Ld<|Ln 130 (Ns call80) .nil (ms hz .nil .h1 fun w pz ho=>uu dg pz )<|Ln 131 (Ns call80) .nil (ms hz .nil .h1 fun w pz ho=>uu dh pz )<|Le 132 (we (v:=(.agg #[vi b6.fN,vi b6.fD,vi b7.fN,vi b7.fD])) (Lq (l:=[.tmp 130,.tmp 131]) (.r2 U U) [0,1])) (Lg 16 (xT (cs:=[vi 0,vi 0,vi 0,vi 0]) zfp) fun bW _=>Ll (xP zdF .here)<|Q0n<|B1n U ?_)
      obtain⟨cm,di,h⟩:=Mb h
      let R:Value:=(vs aJ aa.length aK);refine Pg (fun bQ bd ab ad ae af=>(cm bQ bd ab ad ae af=some r)) (fun bQ bd ab ad ae af=>[(0,vp o),(3,vp q),(6,O),(7,R),(8,(.map<|some y)),(9,vi ao),(15,vi f),(16,vp bW),(17,vi bQ),(121,P),(122,vi f)]) (fun bQ bd ab ad ae af=>[fz W,row O 227 1 aj,row R 227 1 am,stb o 119 [E,F,G,H,I,J,K,L,C,(.map<|some g),(.map<|some m),vi bd],stb q 121 N,xN y vI slv (jL X),wH (qU 3 1 e3) X,stb bW 225 [vi ab,vi ad,vi ae,vi af],xN g (ga jM) (ga xX) ah,xN m (ga w8) vI p]) ?_ ?_
      ·refine B2q U<|Le 135 (jg (k:=f) (dflt:=(((none,0),[]):(Option Addr×Nat)×List Int)) gM underlying219 zCs .h7)<|Ov (fun _ h=>Hp.bM f b5 .h1 h) ?_
       rintro⟨dN,dO⟩ cn
       let Q:Value:=(vs dN ((xI T f []).length) dO);refine L9 (i:=135) U (u:=Q) (congrArg slv cn)<|Le 136 (w9 underlying50)<|Q1n U<|WC.block<|Ox (fun bX aR ap be aS aT aA aB=>(jW T f a ag ah p B cm bX aR ap be aS aT aA aB=some r)) (fun bX aR ap be aS aT aA aB=>[(0,vp o),(3,vp q),(6,O),(7,R),(8,(.map<|some y)),(9,vi ao),(15,vi f),(16,vp bW),(17,vi aR),(121,P),(122,vi f),(135,Q),(136,vi ((xI T f []).length:Int)),(137,vi ap)]) (fun bX aR ap be aS aT aA aB=>[fz W,row O 227 1 aj,row R 227 1 am,row Q 3 1 ((xI T f []).flatMap e3),stb o 119 [E,F,G,H,I,J,K,L,C,(.map<|some g),(.map<|some m),vi be],stb q 121 N,xN y vI slv (jL X),wH (qU 3 1 e3) (uo f X),stb bW 225 [vi aS,vi aT,vi aA,vi aB],xN g (ga jM) (ga xX) ah,xN m (ga w8) vI p]) (fun bX aR ap be aS aT aA aB=>bX) ⟨xR,0,0,aI,b6.fN,b6.fD,b7.fN,b7.fD⟩ h .q (.s11 .h3 .h3 .h3 .here .h2 .h2 .h2 .here .here .here .here) ?_
       rintro(_|dP) aR ap be aS aT aA aB h;·cases h
       rw[jW] at h
       refine B1n U<|WC.b<|Lj h (fun dj h=>?_)<|fun dj h=>?_
       ·refine Nn<|WC.b<|WC.block<|WC.b<|cK h fun bY h=>Ld<|N4 (fun w hw=>Hp.vr .h3 hw (by intro hz';have:=bY;rw[hz'] at this;omega)) ?_
        rintro⟨d8,rfl⟩
        refine Le 139 (w3 z7G bY.1 bY.2 wI)<|Le 140 (xA xJ U<|o9 .h3<|(wU (enc:=e3) (l:=xI T f []) (i:=ap) (sz:=1) bY.1 bY.2) 0 _ U)<|Q1n U<|WC.b<|bK h fun bR dk h=>bK h fun en dl h=>bK h fun bZ dm h=>Lu (fun i=>[11,17,18,20,22].contains i) [re bW 225 [(2,vi aA),(3,vi aB)]]<|Lf 0 U q_m<|Lf 1 U (xz uq)<|Lh 2 U (wn (cs:=[vi aS,vi aT]) zh<|gK (s:=2) (.there .h7) U)<|Lf 3 U q_m<|Lf 4 U xY<|Lf 5 U (xz YY)<|Lh 6 U (Nt zCp .h4)<|Lf 7 U q_m<|Lh 8 U (xK z6Q (xM .h5))<|Lf 9 U (we (v:=(.agg #[(vi<|nth (xI T f []) ap),vi B.ya,vi B.fQ])) (Lq (l:=[.tmp 148,.tmp 149]) (.r2 U U) [0,1]))<|Lh 10 U (jg (k:=(⟨nth (xI T f []) ap,B⟩:ym)) (dflt:=((⟨0,0⟩:z2):z2)) zCr underlying116 z1z<|.there<|.there .h7)<|Lf 12 U q_m<|Lf 13 U (xz se)<|L7 14 U (wB.wk (.cons (.there .h7) .nil)<|.stb (.cons U<|.cons U .nil) .nil) (wn (cs:=[vi aA,vi aB]) zh<|eH .here (.head _)<|(.tail _<|.head _))<|Lf 15 U q_m<|Lf 16 U q_m (WD.call0 (i:=11) U U (.inl ⟨U,(wB.wk (.cons (.there<|.there<|.there .h7) .nil)<|.stb (.cons U<|.cons U .nil) .nil)⟩) (Ns call118) (.s3 .h4 (.there .h7)<|.there .h7) (ms hz (.s3 .h4 (.there .h7)<|.there .h7) .here fun w pz ho=>Calls.mono (rZ (zfZ:=119) (zm5:=[]) (zjb:=(fun y0 y1=>vR y0 y1)) dk pz ((aU.mono<|zl.trans (d.trans c)).weak (fun _ _ h=>wV (zl.trans (d.trans c)) h)) ((aV.mono<|zl.trans (d.trans c)).weak (fun _ _ h=>vt (zl.trans (d.trans c)) h)) (aW.mono<|zl.trans (d.trans c)) (aM.mono<|zl.trans (d.trans c)) ((aq.mono<|zl.trans (d.trans c)).weak (fun _ _ h=>wX (zl.trans (d.trans c)) h)) (aX.mono<|zl.trans (d.trans c)) ((aY.mono<|zl.trans (d.trans c)).weak (fun _ _ h=>vu (zl.trans (d.trans c)) h)) (aZ.mono<|zl.trans (d.trans c)) ((aN.mono<|zl.trans (d.trans c)).weak (fun _ _ h=>qa (zl.trans (d.trans c)) h)) call119 (fun w' hz' y0 y1  r  hr=>px hr hz' ) ho)<|fun _ _ h'=>⟨h'.1,trivial,h'.2⟩) fun _=>Lf 19 U (xz uq)<|WD.call0 (i:=17) U U (.inl ⟨U,(wB.wk (.cons (.there<|.there<|.there .h7) .nil)<|.stb (.cons U<|.cons U .nil) .nil)⟩) (Ns call121) (.s2 .h1 .h1) (cE hz (.s2 .h1 .h1) .h1 (.cons .here .nil) fun w pz ho la=>Calls.mono (pY dl pz ((((aU.mono<|zl.trans (d.trans c)).weak (fun _ _ h=>wV (zl.trans (d.trans c)) h)).mono zl).weak (fun _ _ h=>wV zl h)) ((((aV.mono<|zl.trans (d.trans c)).weak (fun _ _ h=>vt (zl.trans (d.trans c)) h)).mono zl).weak (fun _ _ h=>vt zl h)) ((aW.mono<|zl.trans (d.trans c)).mono zl) ((aM.mono<|zl.trans (d.trans c)).mono zl) ((((aq.mono<|zl.trans (d.trans c)).weak (fun _ _ h=>wX (zl.trans (d.trans c)) h)).mono zl).weak (fun _ _ h=>wX zl h)) ((aX.mono<|zl.trans (d.trans c)).mono zl) ((((aY.mono<|zl.trans (d.trans c)).weak (fun _ _ h=>vu (zl.trans (d.trans c)) h)).mono zl).weak (fun _ _ h=>vu zl h)) ((aZ.mono<|zl.trans (d.trans c)).mono zl) ((((aN.mono<|zl.trans (d.trans c)).weak (fun _ _ h=>qa (zl.trans (d.trans c)) h)).mono zl).weak (fun _ _ h=>qa zl h)) ((la _ (.head _) _).stb) ho)<|fun _ _ h'=>⟨h'.1,trivial,h'.2⟩) ?_)
        intro _
        refine WD.call0 (i:=18) U U (.inl ⟨U,(wB.wk (.cons (.there<|.there<|.there .h7) .nil)<|.stb (.cons U<|.cons U .nil) .nil)⟩) (Ns call118) (.s3 .h2 .here .here) (ms hz (.s3 .h2 .here .here) .here fun w pz ho=>Calls.mono (rZ (zfZ:=119) (zm5:=[]) (zjb:=(fun y0 y1=>vR y0 y1)) dm pz ((aU.mono<|zl.trans (d.trans c)).weak (fun _ _ h=>wV (zl.trans (d.trans c)) h)) ((aV.mono<|zl.trans (d.trans c)).weak (fun _ _ h=>vt (zl.trans (d.trans c)) h)) (aW.mono<|zl.trans (d.trans c)) (aM.mono<|zl.trans (d.trans c)) ((aq.mono<|zl.trans (d.trans c)).weak (fun _ _ h=>wX (zl.trans (d.trans c)) h)) (aX.mono<|zl.trans (d.trans c)) ((aY.mono<|zl.trans (d.trans c)).weak (fun _ _ h=>vu (zl.trans (d.trans c)) h)) (aZ.mono<|zl.trans (d.trans c)) ((aN.mono<|zl.trans (d.trans c)).weak (fun _ _ h=>qa (zl.trans (d.trans c)) h)) call119 (fun w' hz' y0 y1  r  hr=>px hr hz' ) ho)<|fun _ _ h'=>⟨h'.1,trivial,h'.2⟩) fun _=>Ra (i:=20) U (by kernel_rfl) U U U (wB.wk (.cons .here .nil)<|.stb (.cons U<|.cons U .nil) .nil) (jh (ds:=[vi bR.1.fN,vi bR.1.fD,vi aA,vi aB]) zZ (.there<|.there<|.there .h7))<|Lf 21 U (xz se)<|Nc (i:=22) U (jh (ds:=[vi bR.1.fN,vi bR.1.fD,vi bZ.1.fN,vi bZ.1.fD]) zZ .here)<|N0<|Lb<|cK h fun dn h=>D2q U<|Le 164 xY<|Le 165 (xz sd)<|Le 166 (xz uO)<|Le 167 (Nt zab .h1)<|La U<|L2 (Z:=(Z++W)) (Pr:=(g8 (Z++W))) zfn ((aq.mono<|zl.trans (d.trans c)).weak (fun _ _ h=>wX (zl.trans (d.trans c)) h)) dn ?_
        rintro d9 ea dp eb ⟨ec,ed,rfl,ee⟩
        exact Le 170 (xz rL)<|Le 171 (xA xJ U<|wq (hz.pv2 .h4) dp)<|Le 172 iW<|La U<|WL.nil<|Lt<|Lb<|D2q U<|WL.nil<|Nz ⟨dP,(max aR<|(nth a.yc<|nth (xI T f []) ap).yA),i64 (ap+1),bZ.2,bR.1.fN,bR.1.fD,bZ.1.fN,bZ.1.fD⟩ h .q<|.s11 .h4 .h4 .h4 .h4 .h1 .h3 .h3 .h3 .here .here .here
       ·exact N1<|Lm<|Lm<|Lv<|Py (fun _ h=>Hp.Vk b5 cn (.s2 .h3 .h6) h)<|Lo ⟨aR,be,aS,aT,aA,aB⟩ h .q<|.s10 .h1 .h1 .h1 .h1 .h1 .h1 .here .here .here .here
      ·rintro bQ bd ab ad ae af h
       replace h:=(di bQ bd ab ad ae af).symm.trans h
       refine bK h fun aC dq h=>cK h fun dr h=>cK h fun dt h=>Lu (fun i=>[17].contains i) []<|Lf 0 U q_m<|Lh 1 U (xK z4d (xM .h7))<|Lf 2 U q_m<|L4 3 U (Ns call80) (ms hz .nil .here fun w pz ho=>uu dq pz )<|Lf 4 U q_m<|Lf 5 U xY<|Lf 6 U (xz sd)<|Lf 7 U (xz tx)<|Lh 8 U (Nt zaU .h3)<|Lf 9 U q_m<|L5 (j:=10) (Z:=(Z++W)) (Pr:=(rq gg)) zdD (aM.mono<|zl.trans (d.trans c)) dr ?_
       rintro ef eg du eh rfl
       refine Lf 11 U (xz rK)<|Lh 12 U (xA xJ U<|wq (hz.pv2 .here) du)<|Lf 13 U (we (v:=(.agg #[vi 1,(vi<|(nth a.fK f).yp)])) (Lq (l:=[.const (vi 1),.tmp 186]) (.r2 U U) [0,1]))<|Lf 14 U (we (v:=(.agg #[vi aC.fN,vi aC.fD,vi 1,(vi<|(nth a.fK f).yp)])) (Lq (l:=[.tmp 177,.tmp 187]) (.r2 U U) [0,1])) (WD.new (i:=15) U U (wj (cs:=([(⟨(⟨ab,ad⟩:z2),(⟨ae,af⟩:z2)⟩:z8),(⟨aC,(⟨1,(nth a.fK f).yp⟩:z2)⟩:z8)]:List z8).flatMap qt) zad (Lq (l:=[.tmp 175,.tmp 188]) (.r2 U U) [0,1])) (fun h'=>absurd h' (by decide)) fun co _=>WD.freezeS (ls:=([(⟨(⟨ab,ad⟩:z2),(⟨ae,af⟩:z2)⟩:z8),(⟨aC,(⟨1,(nth a.fK f).yp⟩:z2)⟩:z8)]:List z8)) .here .here hz (RR.flat (enc:=qt)) ?_)
       intro b8 cp dv
       let A:List Value:=[vs (some ⟨co,0,none⟩) (([(⟨(⟨ab,ad⟩:z2),(⟨ae,af⟩:z2)⟩:z8),(⟨aC,(⟨1,(nth a.fK f).yp⟩:z2)⟩:z8)]:List z8).length) 2];have cq:RR 1 (jT (Z++b8)) A ([([(⟨(⟨ab,ad⟩:z2),(⟨ae,af⟩:z2)⟩:z8),(⟨aC,(⟨1,(nth a.fK f).yp⟩:z2)⟩:z8)]:List z8)]:List (List z8)):=(RR.cons (r:=A) U (show jT _ _ _ from⟨_,_,U,dv⟩) (RR.nil _ _))
       refine WD.new (i:=16) U U (wj (cs:=[vs (some ⟨co,0,none⟩) (([(⟨(⟨ab,ad⟩:z2),(⟨ae,af⟩:z2)⟩:z8),(⟨aC,(⟨1,(nth a.fK f).yp⟩:z2)⟩:z8)]:List z8).length) 2]) zfo (Lq (l:=[.tmp 189]) (.cons U .nil) [0])) (fun h'=>absurd h' (by decide)) ?_
       intro ei _
       have dw:RR 1 (jT (Z++b8)) (am++A) (aa++([([(⟨(⟨ab,ad⟩:z2),(⟨ae,af⟩:z2)⟩:z8),(⟨aC,(⟨1,(nth a.fK f).yp⟩:z2)⟩:z8)]:List z8)]:List (List z8))):=RR.app (ca.weak (fun _ _ h=>gp cp h)) cq
       refine WD.old (i:=17) U U (fun _=>(wB.of .nil)) (oz (l1:=aa) (l2:=([([(⟨(⟨ab,ad⟩:z2),(⟨ae,af⟩:z2)⟩:z8),(⟨aC,(⟨1,(nth a.fK f).yp⟩:z2)⟩:z8)]:List z8)]:List (List z8))) (ve:=A) (Pr:=(jT (Z++b8))) zfo .h3 cq (jB .here) ly dt) ?_
       rintro⟨dx,dy⟩ _
       exact Lf 18 U q_z<|N0<|Lt<|Lo ⟨aa++([([(⟨(⟨ab,ad⟩:z2),(⟨ae,af⟩:z2)⟩:z8),(⟨aC,(⟨1,(nth a.fK f).yp⟩:z2)⟩:z8)]:List z8)]:List (List z8)),bd,b8,dx,dy,am++A⟩ ⟨h,cp,dw⟩ .q<|.s9 .h2 .h2 .here .h1 .h1 .h1 .h1 .h2 .h2
    ·rintro aL bb bc bN bO bP ⟨h,dz,dA⟩
     replace h:=(db aL bb).symm.trans h
     exact D2q U<|WL.nil<|Nz ⟨dL,aL,i64 (f+1),bb,bc,bN,bO,bP⟩ ⟨h,c.trans dz,dA⟩ .q<|.a9
   ·exact N1<|Lm<|Lm<|Lv<|Lo ⟨aa,aI,W,aJ,aK,am⟩ ⟨h,c,ca⟩ .q<|.s6 .here .here .here .here .h3 .h3
  ·rintro az bL aH bU bV aQ ⟨h,dB,cb⟩
   replace h:=(c9 az bL).symm.trans h
   refine WC.b<|cK h fun dC h=>D1q U<|La U ?_
   have dD:RR 1 (jT (Z++aH)) (aj++aQ) (an++az):=RR.app (c8.weak (fun _ _ h=>gp dB h)) cb
   refine WL.fA 195 (oz (l1:=an) (l2:=az) (ve:=aQ) (Pr:=(jT (Z++aH))) zfo .h1 cb (jB .h2) (RR.oc cb<|fun _ _ h=>Ui h) dC) ?_
   rintro⟨dE,dF⟩ _
   exact La U<|La U<|La U<|WL.nil<|Lb<|Ny<|oJ h▸Li results79 (.tmp U<|.tmp U .nil) fun w hw=>⟨aH,dE,dF,aj++aQ,q9,dD,hw.sub (.s5 .h1 .here .h1 .h1 .h1)⟩
def uV(a:z2):Option Bool:=
 (qG a).bind fun b=>some (b&&(decide (a.fN>=0)))
theorem cR{Z a r}(h:uV a=some r){Nx}(hz:PZ [] Nx Z):
  RC 193 #[.agg #[vi a.fN,vi a.fD]] Nx (.bool r) [] []:=by
 unfold uV at h
 refine L8 func193 U U<|B0q (Lg 1 (wa (cs:=[vi a.fN,vi a.fD])) fun e _=>Q1n U<|WC.b ?_)
 refine bK h fun d b h=>Ld<|Le 3 (xK zh (xM .here))<|Nr call130 hz (jU b)<|La U<|Ly true 3 5 (B:=d&&(decide (a.fN>=0))) (fun _ c=>?_) ?_
 ·exact Le 6 (xz jC)<|Le 7 (Nt xJ .here)<|Q2q U<|Lz (kS c) U .all
 exact Q1n U<|Ny<|oJ h▸Nl results193
def ui(a:z8):Option Bool:=
 (uV a.yi).bind fun b=>(if !b then some true else(uV a.fR).bind fun c=>some (!c)).bind fun d=>some d
theorem XR{Z a r}(h:ui a=some r){Nx}(hz:PZ [] Nx Z):
  RC 209 #[.agg #[vi a.yi.fN,vi a.yi.fD,vi a.fR.fN,vi a.fR.fD]] Nx (.bool r) [] []:=by
 unfold ui at h
 refine L8 func209 U U<|B0q (Lg 1 (wa (cs:=[vi a.yi.fN,vi a.yi.fD,vi a.fR.fN,vi a.fR.fD])) fun i _=>Q1n U<|WC.b ?_)
 refine bK h fun j d h=>bK h fun g c h=>Ld<|Le 3 (xz uq)<|Le 4 (wn (cs:=[vi a.yi.fN,vi a.yi.fD]) zh<|gK (s:=2) .here U)<|Nr call193 hz (cR d)<|Q2q U<|Ly false 4 7 (B:=g) (hB:=(fun h=>(oJ<|qY c h).symm)) (fun _ e=>?_) ?_
 ·have b:=qZ c e
  obtain⟨k,f,b⟩:=za b
  replace b:=oJ b
  exact Le 8 (xz se)<|Le 9 (wn (cs:=[vi a.fR.fN,vi a.fR.fD]) zh<|gK (s:=2) .here U)<|Nr call193 hz (cR f)<|Q2q U<|Lz b U .all
 exact Q1n U<|Ny<|oJ h▸Nl results209
def vg(b:List z8)(zcb:z8->Option Bool)(c:Option Int):Nat->Int->Option Int
 | 0,_=>none
 | d+1,a=>if decide (a<b.length) then chk (0<=a/\a<b.length) ((zcb (⟨(⟨((nth b a).yi).fN,((nth b a).yi).fD⟩:z2),(⟨((nth b a).fR).fN,((nth b a).fR).fD⟩:z2)⟩:z8)).bind fun e=>if e then some a else vg b zcb c d (i64 (a+1))) else c
def kP(a:List z8)(zcb:z8->Option Bool):Option Int:=
 mZ (some (-1)) fun b=>vg a zcb b xR 0
theorem rC{Z d g}(zmn zuo){b}(zcb){r}(h:kP b zcb=some r){Nx}(hz:PZ [] Nx Z)(j:ZS Z 4 (rq qt) d g b)(k:∀ args w,(callFunc zmn args).run Tryz.prog w = .ok (.enter zmn args) w)(m:∀ w:World,PZ [] w Z->∀(x0:z8) (r:Bool),zcb x0=some r->Calls Tryz.prog zmn (([.agg #[vi x0.yi.fN,vi x0.yi.fD,vi x0.fR.fN,vi x0.fR.fD]]:List Value)++zuo).toArray w fun e w'=>e = .returned (.bool r)/\Hp [] w w' []):
  RC 220 #[vs d b.length g,.func (.func zmn) #[] (zuo).toArray] Nx (vi r) [] []:=by
 unfold kP at h
 refine L0 func220 U U<|B1n U<|jK0 h fun i n h=>Nd (i=some r) ([]) ([]) ?_ ?_
 ·refine B1q U<|Le 7 (w9 underlying227)<|Q1n U<|WC.block<|Ng (fun c a=>(vg b zcb i c a=some r)) (fun c a=>[(0,vs d b.length g),(1,.func (.func zmn) #[] (zuo).toArray),(7,vi (b.length:Int)),(8,vi a)]) (fun c a=>[]) (fun c a=>c) ⟨xR,0⟩ h .q .nil ?_
  rintro(_|u) a h;·cases h
  rw[vg] at h
  refine B1n U<|WC.b<|Lj h (fun o h=>?_)<|fun o h=>?_
  ·refine Nn<|WC.b<|WC.block<|B2n U<|WC.b<|cK h fun p h=>bK h fun v q h=>D3q U<|L2 (Z:=Z) (Pr:=(rq qt)) zad j p ?_
   rintro x y s z rfl
   refine Le 15 (xK z4d (qx hz.pv s))<|Ln 16 (qg (l:=[.tmp 15]) (f:=zmn) (caps:=zuo) k<|.cons U .nil) .nil (fun w hw=>m w (hz.now hw) (⟨(⟨((nth b a).yi).fN,((nth b a).yi).fD⟩:z2),(⟨((nth b a).fR).fN,((nth b a).fR).fD⟩:z2)⟩:z8) v  q)<|Q0n<|Lj h (fun t h=>?_)<|fun t h=>?_
   ·exact B2n U<|Ny<|Lw<|Lk<|Lk<|Lw<|Lk<|oJ h▸Nl results220
   ·exact N2<|Lt<|Lb<|D2q U<|WL.nil<|Nz ⟨u,i64 (a+1)⟩ h .q .nil
  ·exact N1<|Lm<|Lm<|Lv<|Lo () h .nil .nil
 ·rintro  h
  replace h:=n.symm.trans h
  exact B1n U<|Ny<|oJ h▸Nl results220
def q7(a:List z8)(zmo:z8->Option Bool):Option Bool:=
 (kP a zmo).bind fun b=>some (decide (b>=0))
theorem fV{Z b c}(zmp zuq){a}(zmo){r}(h:q7 a zmo=some r){Nx}(hz:PZ [] Nx Z)(d:ZS Z 4 (rq qt) b c a)(f:∀ args w,(callFunc zmp args).run Tryz.prog w = .ok (.enter zmp args) w)(g:∀ w:World,PZ [] w Z->∀(x0:z8) (r:Bool),zmo x0=some r->Calls Tryz.prog zmp (([.agg #[vi x0.yi.fN,vi x0.yi.fD,vi x0.fR.fN,vi x0.fR.fD]]:List Value)++zuq).toArray w fun e w'=>e = .returned (.bool r)/\Hp [] w w' []):
  RC 208 #[vs b a.length c,.func (.func zmp) #[] (zuq).toArray] Nx (.bool r) [] []:=by
 unfold q7 at h
 exact L0 func208 U U<|B1n U<|WC.b<|bK h fun j i h=>D2q U<|Nr call220 hz (fun pz=>rC (zmn:=zmp) (zuo:=zuq) (zcb:=zmo) i pz d f g)<|Q2n U<|Ny<|oJ h▸Nl results208
def mH(a:List z8):Option Bool:=
 (if (decide ((a.length:Int)>=1))&&(decide ((a.length:Int)<=32)) then(q7 a (fun y0=>ui y0)).bind fun b=>some (!b) else some false).bind fun c=>some c
theorem om{Z c d a r}(h:mH a=some r){Nx}(hz:PZ [] Nx Z)(f:ZS Z 4 (rq qt) c d a):
  RC 192 #[vs c a.length d] Nx (.bool r) [] []:=by
 unfold mH at h
 refine L8 func192 U U<|B1n U<|WC.b<|bK h fun k e h=>D1q U<|Le 4 (w9 underlying227)<|Q2q U<|Ly true 3 6 (B:=(decide ((a.length:Int)>=1))&&(decide ((a.length:Int)<=32))) (fun _ g=>?_) ?_
 ·exact La U<|Le 8 (w9 underlying227)<|Q2q U<|Lz (kS g) U .all
 refine La U<|Ly true 3 11 (B:=k) (hB:=(fun h=>(oJ<|qZ e h).symm)) (fun _ i=>?_) ?_
 ·have b:=qY e i
  obtain⟨l,j,b⟩:=za b
  replace b:=oJ b
  exact La U<|Nr call208 hz (fun pz=>fV (zmp:=209) (zuq:=[]) (zmo:=(fun y0=>ui y0)) j pz f call209<|fun w' hz' y0  r  hr=>XR hr hz')<|Q2q U<|Lz b U .all
 exact Q1n U<|Ny<|oJ h▸Nl results192
def j4(a:List z8):Option Bool:=
 (mH a).bind fun b=>some (!b)
theorem c6{Z b c a r}(h:j4 a=some r){Nx}(hz:PZ [] Nx Z)(d:ZS Z 4 (rq qt) b c a):
  RC 197 #[vs b a.length c] Nx (.bool r) [] []:=by
 unfold j4 at h
 exact L8 func197 U U<|B1n U<|WC.b<|bK h fun f e h=>D1q U<|Nr call192 hz (fun pz=>om e pz d)<|Q2n U<|Ny<|oJ h▸Nl results197
def wO(b:List (List z8))(zcc:(List z8)->Option Bool)(c:Option Int):Nat->Int->Option Int
 | 0,_=>none
 | d+1,a=>if decide (a<b.length) then chk (0<=a/\a<b.length) ((zcc (nth b a)).bind fun e=>if e then some a else wO b zcc c d (i64 (a+1))) else c
def jr(a:List (List z8))(zcc:(List z8)->Option Bool):Option Int:=
 mZ (some (-1)) fun b=>wO a zcc b xR 0
theorem rR{Z d g}(zmq zut){b}(zcc){r}(h:jr b zcc=some r){Nx}(hz:PZ [] Nx Z)(j:ZS Z 1 (jT Z) d g b)(k:∀ args w,(callFunc zmq args).run Tryz.prog w = .ok (.enter zmq args) w)(m:∀ w:World,PZ [] w Z->∀(x0:List z8) (im:Option Addr) (eR:Nat) (r:Bool),ZS Z 4 (rq qt) im eR x0->zcc x0=some r->Calls Tryz.prog zmq (([vs im x0.length eR]:List Value)++zut).toArray w fun e w'=>e = .returned (.bool r)/\Hp [] w w' []):
  RC 211 #[vs d b.length g,.func (.func zmq) #[] (zut).toArray] Nx (vi r) [] []:=by
 unfold jr at h
 refine L0 func211 U U<|B1n U<|jK0 h fun i n h=>Nd (i=some r) ([]) ([]) ?_ ?_
 ·refine B1q U<|Le 7 (w9 underlying171)<|Q1n U<|WC.block<|Ng (fun c a=>(wO b zcc i c a=some r)) (fun c a=>[(0,vs d b.length g),(1,.func (.func zmq) #[] (zut).toArray),(7,vi (b.length:Int)),(8,vi a)]) (fun c a=>[]) (fun c a=>c) ⟨xR,0⟩ h .q .nil ?_
  rintro(_|y) a h;·cases h
  rw[wO] at h
  refine B1n U<|WC.b<|Lj h (fun o h=>?_)<|fun o h=>?_
  ·refine Nn<|WC.b<|WC.block<|B2n U<|WC.b<|cK h fun p h=>bK h fun z q h=>D3q U<|L2 (Z:=Z) (Pr:=(jT Z)) zfo j p ?_
   rintro A B s C ⟨t,u,rfl,v⟩
   refine Le 15 (xA zoc U<|kN hz.pv s)<|Ln 16 (qg (l:=[.tmp 15]) (f:=zmq) (caps:=zut) k<|.cons U .nil) .nil (fun w hw=>m w (hz.now hw) (nth b a) t u z v q)<|Q0n<|Lj h (fun x h=>?_)<|fun x h=>?_
   ·exact B2n U<|Ny<|Lw<|Lk<|Lk<|Lw<|Lk<|oJ h▸Nl results211
   ·exact N2<|Lt<|Lb<|D2q U<|WL.nil<|Nz ⟨y,i64 (a+1)⟩ h .q .nil
  ·exact N1<|Lm<|Lm<|Lv<|Lo () h .nil .nil
 ·rintro  h
  replace h:=n.symm.trans h
  exact B1n U<|Ny<|oJ h▸Nl results211
def qe(a:List (List z8))(zpr:(List z8)->Option Bool):Option Bool:=
 (jr a zpr).bind fun b=>some (decide (b>=0))
theorem sO{Z b c}(zps zym){a}(zpr){r}(h:qe a zpr=some r){Nx}(hz:PZ [] Nx Z)(d:ZS Z 1 (jT Z) b c a)(f:∀ args w,(callFunc zps args).run Tryz.prog w = .ok (.enter zps args) w)(g:∀ w:World,PZ [] w Z->∀(x0:List z8) (im:Option Addr) (eR:Nat) (r:Bool),ZS Z 4 (rq qt) im eR x0->zpr x0=some r->Calls Tryz.prog zps (([vs im x0.length eR]:List Value)++zym).toArray w fun e w'=>e = .returned (.bool r)/\Hp [] w w' []):
  RC 196 #[vs b a.length c,.func (.func zps) #[] (zym).toArray] Nx (.bool r) [] []:=by
 unfold qe at h
 exact L0 func196 U U<|B1n U<|WC.b<|bK h fun j i h=>D2q U<|Nr call211 hz (fun pz=>rR (zmq:=zps) (zut:=zym) (zcc:=zpr) i pz d f g)<|Q2n U<|Ny<|oJ h▸Nl results196
def uW(a:yv):Option Bool:=
 (qG a.fR).bind fun b=>(if b&&(decide (a.fR.fN>0)) then(qG a.fL).bind fun c=>some c else some false).bind fun d=>some (d&&(decide (a.fL.fN>=0)))
theorem X7{Z a r}(h:uW a=some r){Nx}(hz:PZ [] Nx Z):
  RC 198 #[.agg #[vi a.fR.fN,vi a.fR.fD,vi a.fL.fN,vi a.fL.fD]] Nx (.bool r) [] []:=by
 unfold uW at h
 refine L8 func198 U U<|B0q (Lg 1 (wa (cs:=[vi a.fR.fN,vi a.fR.fD,vi a.fL.fN,vi a.fL.fD])) fun l _=>Q1n U<|WC.b ?_)
 refine bK h fun k e h=>bK h fun c d h=>Ld<|Le 3 (xz cG)<|Le 4 (wn (cs:=[vi a.fR.fN,vi a.fR.fD]) zh<|gK (s:=2) .here U)<|Nr call130 hz (jU e)<|La U<|Ly true 4 6 (B:=k&&(decide (a.fR.fN>0))) (fun _ f=>?_) ?_
 ·exact Le 7 (xz cG)<|Le 8 (xz jC)<|Le 9 (Nt xJ .here)<|Q2q U<|Lz (kS f) U .all
 refine La U<|Ly true 3 12 (B:=c) (hB:=(fun h=>(oJ<|qZ d h).symm)) (fun _ g=>?_) ?_
 ·have b:=qY d g
  obtain⟨m,i,b⟩:=za b
  replace b:=oJ b
  exact Le 13 (xz lK)<|Le 14 (wn (cs:=[vi a.fL.fN,vi a.fL.fD]) zh<|gK (s:=2) .here U)<|Nr call130 hz (jU i)<|La U<|Lz b U .all
 refine La U<|Ly true 4 17 (B:=c&&(decide (a.fL.fN>=0))) (fun _ j=>?_) ?_
 ·exact Le 18 (xz lK)<|Le 19 (xz jC)<|Le 20 (Nt xJ .here)<|Q2q U<|Lz (kS j) U .all
 exact Q1n U<|Ny<|oJ h▸Nl results198
def jk(a:Int):Option z2:=
 some (⟨a,1⟩:z2)
theorem uX{Z a r}(h:jk a=some r){Nx}(hz:PZ [] Nx Z):
  RC 191 #[vi a] Nx (.agg #[vi r.fN,vi r.fD]) [] []:=by
 unfold jk at h
 refine L8 func191 U U<|B0q (Lg 2 (xT (cs:=[vi 0,vi 0]) z1z) fun b _=>Q0n<|B1q U<|Le 4 (we (v:=(.agg #[vi a,vi 1])) (Lq (l:=[.tmp 3,.const (vi 1)]) (.r2 U U) [0,1]))<|Ll (xP zZ .here)<|Q0n<|Ny ?_)
 exact oJ h▸Nm results191 (.agg U zh U (xM .here) .nil) .nil
def gZ  : Option z2:=
 (jk 0).bind fun a=>some a
theorem tQ{Z r}(h:gZ=some r){Nx}(hz:PZ [] Nx Z):
  RC 161 #[] Nx (.agg #[vi r.fN,vi r.fD]) [] []:=by
 unfold gZ at h
 refine Od func161 U U<|B0q (Lg 0 (xT (cs:=[vi 0,vi 0]) z1z) fun b _=>Q0n<|WC.b ?_)
 exact bK h fun c a h=>Ld<|Nr call191 hz (uX a)<|Ll (xP zZ .here)<|Q0n<|Ny<|oJ h▸Nm results161 (.agg U zh U (xM .here) .nil) .nil
def vN(b:List z8)(c:z8)(d:Option Int):Nat->Int->Option Int
 | 0,_=>none
 | e+1,a=>if decide (a<b.length) then chk (0<=a/\a<b.length) (if decide (c=(⟨(⟨((nth b a).yi).fN,((nth b a).yi).fD⟩:z2),(⟨((nth b a).fR).fN,((nth b a).fR).fD⟩:z2)⟩:z8)) then some a else vN b c d e (i64 (a+1))) else d
def gH(a:List z8)(b:z8):Option Int:=
 mZ (some (-1)) fun c=>vN a b c xR 0
theorem pR{Z g i e c r}(h:gH e c=some r){Nx}(hz:PZ [] Nx Z)(m:ZS Z 4 (rq qt) g i e):
  RC 228 #[vs g e.length i,.agg #[vi c.yi.fN,vi c.yi.fD,vi c.fR.fN,vi c.fR.fD]] Nx (vi r) [] []:=by
 unfold gH at h
 refine L0 func228 U U ?_
 let A:List Value:=[vi c.yi.fN,vi c.yi.fD,vi c.fR.fN,vi c.fR.fD];refine B0q<|Lg 3 (wa (cs:=A)) ?_
 intro k _
 refine Q1n U<|jK0 h fun l n h=>Nd (l=some r) ([]) ([]) ?_ ?_
 ·refine B1q U<|Le 7 (w9 underlying227)<|Q1n U<|WC.block<|Ng (fun f d=>(vN e c l f d=some r)) (fun f d=>[(0,vs g e.length i),(3,vp k),(7,vi (e.length:Int)),(8,vi d)]) (fun f d=>[stb k 225 A]) (fun f d=>f) ⟨xR,0⟩ h .q (.cons .here .nil) ?_
  rintro(_|t) d h;·cases h
  rw[vN] at h
  refine B1n U<|WC.b<|Lj h (fun o h=>?_)<|fun o h=>?_
  ·refine Nn<|WC.b<|WC.block<|B2n U<|WC.b<|cK h fun p h=>Lu nc []<|Lh 0 U (xK z4d (xM .here))<|Lf 1 U q_m<|Lf 2 U q_m<|L5 (j:=3) (Z:=Z) (Pr:=(rq qt)) zad m p ?_
   rintro u v q x rfl
   refine Lh 4 U (xK z4d (qx hz.pv q))<|Lf 5 U (lz (enc:=qt) (a:=c) (b:=(⟨(⟨((nth e d).yi).fN,((nth e d).yi).fD⟩:z2),(⟨((nth e d).fR).fN,((nth e d).fR).fD⟩:z2)⟩:z8)) zLG)<|N0<|Lb<|Lj h (fun s h=>?_)<|fun s h=>?_
   ·exact B2n U<|Ny<|Lw<|Lk<|Lk<|Lw<|Lk<|oJ h▸Nl results228
   ·exact N2<|Lt<|Lb<|D2q U<|WL.nil<|Nz ⟨t,i64 (d+1)⟩ h .q<|.cons .here .nil
  ·exact N1<|Lm<|Lm<|Lv<|Lo () h .nil .nil
 ·rintro  h
  replace h:=n.symm.trans h
  exact B1n U<|Ny<|oJ h▸Nl results228
def js(a:List z8)(b:z8):Option Bool:=
 (gH a b).bind fun c=>some (decide (c>=0))
theorem rS{Z c d b a r}(h:js b a=some r){Nx}(hz:PZ [] Nx Z)(e:ZS Z 4 (rq qt) c d b):
  RC 221 #[vs c b.length d,.agg #[vi a.yi.fN,vi a.yi.fD,vi a.fR.fN,vi a.fR.fD]] Nx (.bool r) [] []:=by
 unfold js at h
 refine L0 func221 U U<|B0q (Lg 3 (wa (cs:=[vi a.yi.fN,vi a.yi.fD,vi a.fR.fN,vi a.fR.fD])) fun g _=>Q1n U<|WC.b ?_)
 exact bK h fun i f h=>D1q U<|Le 6 (xK z4d (xM .here))<|Nr call228 hz (fun pz=>pR f pz e)<|Q2n U<|Ny<|oJ h▸Nl results221
def q8(a:z2)(b:z2):Option Int:=
 (qG a).bind fun c=>(if !c then some true else(qG b).bind fun d=>some (!d)).bind fun e=>if e then some 0 else if decide ((i64 (a.fN*b.fD))<(i64 (b.fN*a.fD))) then some (-1) else if decide ((i64 (a.fN*b.fD))>(i64 (b.fN*a.fD))) then some 1 else some 0
theorem ua{Z a b r}(h:q8 a b=some r){Nx}(hz:PZ [] Nx Z):
  RC 129 #[.agg #[vi a.fN,vi a.fD],.agg #[vi b.fN,vi b.fD]] Nx (vi r) [] []:=by
 unfold q8 at h
 refine L0 func129 U U<|B0q (Lg 2 (wa (cs:=[vi a.fN,vi a.fD])) fun m _=>Lg 3 (wa (cs:=[vi b.fN,vi b.fD])) fun n _=>Q1n U<|WC.b<|WC.b ?_)
 refine bK h fun o e h=>bK h fun l d h=>Ld<|Le 7 (xK zh (xM .h1))<|Nr call130 hz (jU e)<|Q2q U<|Ly false 3 10 (B:=l) (hB:=(fun h=>(oJ<|qY d h).symm)) (fun _ f=>?_) ?_
 ·have c:=qZ d f
  obtain⟨p,g,c⟩:=za c
  replace c:=oJ c
  exact Le 11 (xK zh (xM .here))<|Nr call130 hz (jU g)<|Q2q U<|Lz c U .all
 refine Q0n<|Lj h (fun i h=>?_)<|fun i h=>?_
 ·exact B1n U<|Ny<|Lk<|oJ h▸Nl results129
 ·refine Nn<|WC.b<|WC.b<|Lu nc []<|Lf 0 U (xz jC)<|Lh 1 U (Nt xJ .h1)<|Lf 2 U (xz kw)<|Lh 3 U (Nt xJ .here)<|Lf 4 U sZ<|Lf 5 U (xz jC)<|Lh 6 U (Nt xJ .here)<|Lf 7 U (xz kw)<|Lh 8 U (Nt xJ .h1)<|Lf 9 U sZ<|Lf 10 U q_z<|Lf 11 U q_z<|N0<|Lb<|WC.block<|B4n U<|Lj h (fun j h=>?_)<|fun j h=>?_
  ·exact B1n U<|Ny<|Lw<|Lk<|oJ h▸Nl results129
  ·refine B4n U<|Lj h (fun k h=>?_)<|fun k h=>?_
   ·exact B1n U<|Ny<|Lw<|Lk<|oJ h▸Nl results129
   ·exact N2<|Lt<|Lb<|B1n U<|Ny<|oJ h▸Nl results129
def uz(a:z8)(b:z8):Option Bool:=
 (if decide (a≠b) then(q8 a.yi b.yi).bind fun c=>some (decide (c<=0)) else some false).bind fun d=>(if d then(q8 a.fR b.fR).bind fun e=>some (decide (e<=0)) else some false).bind fun f=>some f
theorem Yp{Z c d r}(h:uz c d=some r){Nx}(hz:PZ [] Nx Z):
  RC 223 #[.agg #[vi c.yi.fN,vi c.yi.fD,vi c.fR.fN,vi c.fR.fD],.agg #[vi d.yi.fN,vi d.yi.fD,vi d.fR.fN,vi d.fR.fD]] Nx (.bool r) [] []:=by
 unfold uz at h
 refine L0 func223 U U<|B0q (Lg 2 (wa (cs:=[vi c.yi.fN,vi c.yi.fD,vi c.fR.fN,vi c.fR.fD])) fun p _=>Lg 3 (wa (cs:=[vi d.yi.fN,vi d.yi.fD,vi d.fR.fN,vi d.fR.fD])) fun q _=>Q1n U<|WC.b ?_)
 refine bK h fun n g h=>bK h fun o i h=>Ld<|Le 5 (xK z4d (xM .h1))<|Le 6 (xK z4d (xM .here))<|Le 7 (ew (enc:=qt) (a:=c) (b:=d) zLG U U)<|La U<|Ly true 6 8 (B:=n) (hB:=(fun h=>(oJ<|qZ g h).symm)) (fun _ j=>?_) ?_
 ·have e:=qY g j
  obtain⟨t,k,e⟩:=za e
  replace e:=oJ e
  exact Le 9 (xz uq)<|Le 10 (wn (cs:=[vi c.yi.fN,vi c.yi.fD]) zh<|gK (s:=2) .h1 U)<|Le 11 (xz uq)<|Le 12 (wn (cs:=[vi d.yi.fN,vi d.yi.fD]) zh<|gK (s:=2) .here U)<|Nr call129 hz (ua k)<|Q2q U<|Lz e U .all
 refine La U<|Ly true 6 16 (B:=o) (hB:=(fun h=>(oJ<|qZ i h).symm)) (fun _ l=>?_) ?_
 ·have f:=qY i l
  obtain⟨u,m,f⟩:=za f
  replace f:=oJ f
  exact Le 17 (xz se)<|Le 18 (wn (cs:=[vi c.fR.fN,vi c.fR.fD]) zh<|gK (s:=2) .h1 U)<|Le 19 (xz se)<|Le 20 (wn (cs:=[vi d.fR.fN,vi d.fR.fD]) zh<|gK (s:=2) .here U)<|Nr call129 hz (ua m)<|Q2q U<|Lz f U .all
 exact Q1n U<|Ny<|oJ h▸Nl results223
def uQ(a:z8)(b:z8):Option Bool:=
 (uz a b).bind fun c=>some c
theorem WM{Z c a b r}(h:uQ a b=some r){Nx}(hz:PZ [] Nx Z)(d:ZC Z c [vi b.yi.fN,vi b.yi.fD,vi b.fR.fN,vi b.fR.fD]):
  RC 222 #[.agg #[vi a.yi.fN,vi a.yi.fD,vi a.fR.fN,vi a.fR.fD],vq c] Nx (.bool r) [] []:=by
 unfold uQ at h
 refine L0 func222 U U<|B0q (Lg 2 (wa (cs:=[vi a.yi.fN,vi a.yi.fD,vi a.fR.fN,vi a.fR.fD])) fun f _=>Q1n U<|WC.b ?_)
 exact bK h fun g e h=>Ld<|Le 4 (xK z4d (xM .here))<|Le 5 (xK z4d (qx hz.pv d))<|Nr call223 hz (Yp e)<|Q1n U<|Ny<|oJ h▸Nl results222
def sx(a:z8)(b:z8):Option Int:=
 (q8 a.yi b.yi).bind fun c=>some c
theorem WN{Z a b r}(h:sx a b=some r){Nx}(hz:PZ [] Nx Z):
  RC 225 #[.agg #[vi a.yi.fN,vi a.yi.fD,vi a.fR.fN,vi a.fR.fD],.agg #[vi b.yi.fN,vi b.yi.fD,vi b.fR.fN,vi b.fR.fD]] Nx (vi r) [] []:=by
 unfold sx at h
 refine L0 func225 U U<|B0q (Lg 2 (wa (cs:=[vi a.yi.fN,vi a.yi.fD,vi a.fR.fN,vi a.fR.fD])) fun d _=>Lg 3 (wa (cs:=[vi b.yi.fN,vi b.yi.fD,vi b.fR.fN,vi b.fR.fD])) fun e _=>Q1n U<|WC.b ?_)
 exact bK h fun f c h=>Ld<|Le 5 (xz uq)<|Le 6 (wn (cs:=[vi a.yi.fN,vi a.yi.fD]) zh<|gK (s:=2) .h1 U)<|Le 7 (xz uq)<|Le 8 (wn (cs:=[vi b.yi.fN,vi b.yi.fD]) zh<|gK (s:=2) .here U)<|Nr call129 hz (ua c)<|Q1n U<|Ny<|oJ h▸Nl results225
theorem z14K:∀ w,(isAgg (Tryz.go.t 24)).run Tryz.prog w = .ok true w:=fun _=>by kernel_rfl
theorem z14L:∀ w,(Go.sizeOf (Tryz.go.t 24)).run Tryz.prog w = .ok 4 w:=fun _=>by kernel_rfl
def gU(z7j:List z8)(zuB:Int)(zuC:Int)(zpu:Int)(zms:z8->z8->Option Int):Option (List z8):=chk ((zuB=0/\zuC=(z7j.length:Int))/\(0<=zpu/\zpu<4611686018427387904/\z7j.length<4611686018427387904)) (chk (oq zms (wx zms z7j)=true) (some (wx zms z7j)))
theorem pZ{Z}(zmt zmu zuD zGr z7j zuB zuC zpu zms r){Nx}(hz:Pz [row (vs zmt z7j.length zmu) 225 4 (z7j.flatMap qt)] Nx Z)(a:∀ args w,(callFunc zuD args).run Tryz.prog w = .ok (.enter zuD args) w)(b:∀ w:World,PZ [] w Z->∀(x0:z8) (x1:z8) (r:Int),zms x0 x1=some r->Calls Tryz.prog zuD (([.agg #[vi x0.yi.fN,vi x0.yi.fD,vi x0.fR.fN,vi x0.fR.fD],.agg #[vi x1.yi.fN,vi x1.yi.fD,vi x1.fR.fN,vi x1.fR.fD]]:List Value)++zGr).toArray w fun e w'=>e = .returned (vi r)/\Hp [] w w' [])(h:gU z7j zuB zuC zpu zms=some r)(eO:Ho Nx [row (vs zmt z7j.length zmu) 225 4 (z7j.flatMap qt)]):
  Calls Tryz.prog 229 #[vs zmt z7j.length zmu,vi zuB,vi zuC,vi zpu,.func (.func zuD) #[] (zGr).toArray] Nx fun e w'=>e = .returned (.tuple #[])/\(r.length=z7j.length)/\Hp (fps [row (vs zmt z7j.length zmu) 225 4 (z7j.flatMap qt)]) Nx w' [row (vs zmt r.length zmu) 225 4 (r.flatMap qt)]:=by
 obtain⟨h0,h⟩:=xG h
 obtain⟨h1,h⟩:=xG h
 have hr:=(oJ h).symm
 exact ig (P:=Tryz.prog) (f:=229) (e:=225) (k:=4) (enc:=qt) Kv (fun β _ enc cf g cb hO wm off cap d0 w0 eg hC R=>Tryz.lG 4 z14K z14L enc cf g cb hO wm off cap d0 w0 eg hC R) (Tryz.lh (α:=Unit)) hz a b h0 h1 hr eO
def vO(a:List z8)(zpv:z8->z8->Option Int):Option (List z8):=
 (fj (u64 (a.length:Int))).bind fun b=>(gU a 0 (a.length:Int) b zpv).bind fun c=>some c
theorem rT{Z b c}(zpw zyq){a}(zpv){r}(h:vO a zpv=some r){Nx}(hz:Pz [row (vs b a.length c) 225 4 (a.flatMap qt)] Nx Z)(j:∀ args w,(callFunc zpw args).run Tryz.prog w = .ok (.enter zpw args) w)(k:∀ w:World,PZ [] w Z->∀(x0:z8) (x1:z8) (r:Int),zpv x0 x1=some r->Calls Tryz.prog zpw (([.agg #[vi x0.yi.fN,vi x0.yi.fD,vi x0.fR.fN,vi x0.fR.fD],.agg #[vi x1.yi.fN,vi x1.yi.fD,vi x1.fR.fN,vi x1.fR.fD]]:List Value)++zyq).toArray w fun e w'=>e = .returned (vi r)/\Hp [] w w' [])(eO:Ho Nx [row (vs b a.length c) 225 4 (a.flatMap qt)]):
  Calls Tryz.prog 224 #[vs b a.length c,.func (.func zpw) #[] (zyq).toArray] Nx fun e w'=>e = .returned (.tuple #[])/\(r.length=a.length)/\Hp (fps [row (vs b a.length c) 225 4 (a.flatMap qt)]) Nx w' [row (vs b r.length c) 225 4 (r.flatMap qt)]:=by
 unfold vO at h
 refine Ni func224 U eO U<|B1q U<|Le 6 (w9 underlying227)<|Q1n U<|bK h fun d l h=>bK h fun f m h=>D3q U<|Le 10 (mL underlying3 underlying147)<|Nr call57 hz (fun pz=>oZ  (zaZ:=(u64 (a.length:Int))) (r:=d) pz  l)<|La U<|Nb U (Ns call229) (.cons .here .nil) (cc hz (.cons .here .nil) fun w pz ho=>pZ (zmt:=b) (zmu:=c) (zuD:=zpw) (zGr:=zyq) (z7j:=a) (zuB:=0) (zuC:=(a.length:Int)) (zpu:=d) (zms:=zpv) (r:=f) pz j k m ho) ?_
 rintro  g
 exact L9 (i:=0) U (u:=(vs b f.length c)) (qB g.symm)<|WL.nil<|oJ h▸Nh results224 .nil fun w hw=>⟨mq,g.trans U,hw.sub (.cons .here .nil)⟩
def mv(a:List z8)(d:(List z8)->Option (List z8)):Nat->(List z8)->Int->Option (List z8)
 | 0,_,_=>none
 | f+1,c,b=>if decide (b<a.length) then qI (fun(g:List z8)=>mv a d f g (i64 (b+1))) fun e=>chk (0<=b/\b<a.length) ((js c (⟨(⟨((nth a b).yi).fN,((nth a b).yi).fD⟩:z2),(⟨((nth a b).fR).fN,((nth a b).fR).fD⟩:z2)⟩:z8)).bind fun h=>(if !h then(q7 a (fun(y0:z8)=>uQ y0 (⟨(⟨((nth a b).yi).fN,((nth a b).yi).fD⟩:z2),(⟨((nth a b).fR).fN,((nth a b).fR).fD⟩:z2)⟩:z8))).bind fun i=>some (!i) else some false).bind fun j=>if j then chk ((((c++([(⟨(⟨((nth a b).yi).fN,((nth a b).yi).fD⟩:z2),(⟨((nth a b).fR).fN,((nth a b).fR).fD⟩:z2)⟩:z8)]:List z8)).length:Nat):Int)*32<=140737488355328/\(((c++([(⟨(⟨((nth a b).yi).fN,((nth a b).yi).fD⟩:z2),(⟨((nth a b).fR).fN,((nth a b).fR).fD⟩:z2)⟩:z8)]:List z8)).length:Nat):Int)<=4611686018427387904) (e (c++([(⟨(⟨((nth a b).yi).fN,((nth a b).yi).fD⟩:z2),(⟨((nth a b).fR).fN,((nth a b).fR).fD⟩:z2)⟩:z8)]:List z8))) else e c) else d c
def py(a:List z8):Option (List z8):=
 qI (fun(b:List z8)=>(vO b (fun y0 y1=>sx y0 y1)).bind fun c=>some c) fun d=>mv a d xR ([]:List z8) 0
theorem QO{Z s t b r}(h:py b=some r){Nx}(hz:PZ [] Nx Z)(v:ZS Z 4 (rq qt) s t b):
  Calls Tryz.prog 212 #[vs s b.length t] Nx fun e w'=>∃ x:Option Addr,∃ y:Nat,e = .returned (vs x r.length y)/\True/\Hp [] Nx w' [row (vs x r.length y) 225 4 (r.flatMap qt)]:=by
 unfold py at h
 refine L8 func212 U U<|B1n U<|B1n U<|jK1 h fun z E h=>Nj (fun f k m=>(z f=some r)) (fun f k m=>[(3,vs k f.length m)]) (fun f k m=>[row (vs k f.length m) 225 4 (f.flatMap qt)]) ?_ ?_
 ·let A:Value:=(vs s b.length t);let C:Value:=(vi (b.length:Int));refine B1q U<|Le 7 (w9 underlying227)<|Q1n U<|WC.block<|WC.nilRow 225 4<|Oa (fun p c a g j=>(mv b z p c a=some r)) (fun p c a g j=>[(0,A),(3,vs g c.length j),(6,A),(7,C),(8,vi a)]) (fun p c a g j=>[row (vs g c.length j) 225 4 (c.flatMap qt)]) (fun p c a g j=>p) ⟨xR,([]:List z8),0,none,0⟩ h .q (.cons .here .nil) ?_
  rintro(_|T) c a g j h;·cases h
  rw[mv] at h
  refine B1n U<|WC.b<|Lj h (fun F h=>?_)<|fun F h=>?_
  ·refine Nn<|jK1 h fun V G h=>Nj (fun d n o=>(V d=some r)) (fun d n o=>[(0,A),(3,vs n d.length o),(6,A),(7,C),(8,vi a)]) (fun d n o=>[row (vs n d.length o) 225 4 (d.flatMap qt)]) ?_ ?_
   ·refine WC.block<|WC.b<|cK h fun H h=>Ld<|L2 (Z:=Z) (Pr:=(rq qt)) zad v H ?_
    rintro Y aa I ab rfl
    refine Le 11 (xK z4d (qx hz.pv I)) (Lg 5 (xT (cs:=[vi 0,vi 0,vi 0,vi 0]) zfp) fun J _=>Ll (xP zdF .here)<|Q0n<|WC.b ?_)
    refine bK h fun ae K h=>bK h fun W D h=>D1q U<|Le 13 (xK z4d (xM .here))<|Ln 14 (Ns call221) .nil (ux hz .nil (.cons .h1 .nil) fun w pz ho la=>rS K pz<|ZA.row (la _ (.head _) _) (RR.flat (enc:=qt)) ⟨w,pz.1⟩)<|Q2q U<|Ly true 4 16 (B:=W) (hB:=(fun h=>(oJ<|qZ D h).symm)) (fun _ L=>?_) ?_
    ·have q:=qY D L
     obtain⟨af,M,q⟩:=za q
     replace q:=oJ q
     exact La U<|Le 18 (wJ<|L6 (l:=[.tmp 5])<|.cons U .nil)<|Ln 19 (Ns call208) .nil (ux hz .nil (.cons .here .nil) fun w pz ho la=>fV (zmp:=222) (zuq:=[vp J]) (zmo:=(fun(y0:z8)=>uQ y0 (⟨(⟨((nth b a).yi).fN,((nth b a).yi).fD⟩:z2),(⟨((nth b a).fR).fN,((nth b a).fR).fD⟩:z2)⟩:z8))) M pz (v.mono<|zl) call222<|fun w' hz' y0  r  hr=>WM hr hz'<|(la _ (.head _) _).stb)<|Q2q U<|Lz q U .all
    refine Q0n<|Lj h (fun N h=>?_)<|fun N h=>?_
    ·refine cK h fun O h=>D1q U<|Le 23 (xK z4d (xM .here)) (Lg 24 (wj (cs:=([(⟨(⟨((nth b a).yi).fN,((nth b a).yi).fD⟩:z2),(⟨((nth b a).fR).fN,((nth b a).fR).fD⟩:z2)⟩:z8)]:List z8).flatMap qt) zad (Lq (l:=[.tmp 23]) (.cons U .nil) [0])) fun ad _=>WL.fA 25 (kG (enc:=qt) (l1:=c) (l2:=([(⟨(⟨((nth b a).yi).fN,((nth b a).yi).fD⟩:z2),(⟨((nth b a).fR).fN,((nth b a).fR).fD⟩:z2)⟩:z8)]:List z8)) zad .h2 (jB .here) (gF Kv) O) ?_)
     rintro⟨P,Q⟩ _
     exact La U<|WL.nil<|Lt<|Lo ⟨c++([(⟨(⟨((nth b a).yi).fN,((nth b a).yi).fD⟩:z2),(⟨((nth b a).fR).fN,((nth b a).fR).fD⟩:z2)⟩:z8)]:List z8),P,Q⟩ h .q<|.cons .here .nil
    ·exact N2<|Lt<|Lo ⟨c,g,j⟩ h .q<|.cons .h1 .nil
   ·rintro d n o h
    replace h:=(G d).symm.trans h
    exact D2q U<|WL.nil<|Nz ⟨T,d,i64 (a+1),n,o⟩ h .q<|.cons .here .nil
  ·exact N1<|Lm<|Lm<|Lv<|Lo ⟨c,g,j⟩ h (.cons U .nil)<|.cons .here .nil
 ·rintro f k m h
  replace h:=(E f).symm.trans h
  refine WC.b<|bK h fun X R h=>D1q U<|Nb U (Ns call224) (.cons .here .nil) (cc hz (.cons .here .nil) fun w pz ho=>rT (zpw:=225) (zyq:=[]) (zpv:=(fun y0 y1=>sx y0 y1)) R pz call225 (fun w' hz' y0 y1  r  hr=>WN hr hz' ) ho) ?_
  rintro  S
  exact L9 (i:=3) U (u:=(vs k X.length m)) (qB S.symm)<|Q0n<|B2n U<|Ny<|oJ h▸Li results212 (.tmp U .nil) fun w hw=>⟨k,m,xZ,trivial,hw.sub (.cons .here .nil)⟩
def rD(a:List z8)(b:List z8):Option (List z8×List z8):=
 some (a,b)
theorem Q2{Z a b c d f g r}(h:rD f g=some r){Nx}(hz:PZ [] Nx Z)(p:ZS Z 4 (rq qt) a b f)(q:ZS Z 4 (rq qt) c d g):
  Calls Tryz.prog 213 #[vs a f.length b,vs c g.length d] Nx fun e w'=>∃ i:Nat,∃ j:Nat,∃ k:Option Addr,∃ m:Nat,∃ n:Option Addr,∃ o:Nat,e = .returned (.func (.func 226) #[] #[vp i,vp j])/\((ZS Z 4 (rq qt) k m r.1)/\(ZS Z 4 (rq qt) n o r.2))/\Hp [] Nx w' [stb i 227 [vs k r.1.length m],stb j 227 [vs n r.2.length o]]:=by
 unfold rD at h
 refine L0 func213 U U<|B0q (Lg 2 (wa (cs:=[vs a f.length b])) fun s _=>Lg 3 (wa (cs:=[vs c g.length d])) fun t _=>Q1n U<|B0q<|Le 5 (wJ<|L6 (l:=[.tmp 2,.tmp 3])<|.r2 U U)<|Q1n U<|Ny ?_)
 exact oJ h▸Li results213 (.tmp U .nil) fun w hw=>⟨s,t,a,b,c,d,xZ,⟨p,q⟩,hw.sub (.s2 .h1 .here)⟩
def gz(z1d:Type)(z3i:List z8)(z7k:(z8×z8)->z1d->Option (Bool×z1d))(z2o:List z8)(b:Int)(d:z1d->Option z1d):Nat->Int->z1d->Option z1d
 | 0,_,_=>none
 | f+1,a,e=>if decide (a<z3i.length) then chk (0<=a/\a<z3i.length) ((z7k ((⟨(⟨((nth z2o b).yi).fN,((nth z2o b).yi).fD⟩:z2),(⟨((nth z2o b).fR).fN,((nth z2o b).fR).fD⟩:z2)⟩:z8),(⟨(⟨((nth z3i a).yi).fN,((nth z3i a).yi).fD⟩:z2),(⟨((nth z3i a).fR).fN,((nth z3i a).fR).fD⟩:z2)⟩:z8)) e).bind fun c=>if !c.1 then some c.2 else gz z1d z3i z7k z2o b d f (i64 (a+1)) c.2) else d e
def gA(z1d:Type)(z2o:List z8)(z3i:List z8)(z7k:(z8×z8)->z1d->Option (Bool×z1d))(b:z1d->Option z1d):Nat->Int->z1d->Option z1d
 | 0,_,_=>none
 | d+1,a,c=>if decide (a<z2o.length) then qI (fun(e:z1d)=>gA z1d z2o z3i z7k b d (i64 (a+1)) e) fun f=>chk (0<=a/\a<z2o.length) (qI (fun g=>f g) fun h=>gz z1d z3i z7k z2o a h xR 0 c) else b c
def uj(z1d:Type)(z7k:(z8×z8)->z1d->Option (Bool×z1d))(ze0:z1d)(z2o:List z8)(z3i:List z8):Option z1d:=
 qI (fun(a:z1d)=>some a) fun b=>gA z1d z2o z3i z7k b xR 0 ze0
theorem XS{Z}(z1d:Type)(zmy)(zci:Type)(z9H)(zgq:zci->z1d->Prop)(zmz zGy zmA zmB zmC zyw zyx z7k ze0 z2o z3i r){Nx}(hz:Pz [z9H zmz ze0] Nx Z)(K:ai Tryz.prog Z zmy (α:=z8×z8) (σ:=z1d) (G:=zci) (H:=Unit) (fun h x=>[.agg #[vi x.1.yi.fN,vi x.1.yi.fD,vi x.1.fR.fN,vi x.1.fR.fD],.agg #[vi x.2.yi.fN,vi x.2.yi.fD,vi x.2.fR.fN,vi x.2.fR.fD]]) (fun h x=>[]) z7k z9H zgq)(L:zgq zmz ze0)(M:ZS Z 4 (rq qt) zmA zmB z2o)(N:ZC Z zGy [vs zmA z2o.length zmB])(O:ZS Z 4 (rq qt) zyw zyx z3i)(P:ZC Z zmC [vs zyw z3i.length zyx])(h:uj z1d z7k ze0 z2o z3i=some r)(eO:Ho Nx [z9H zmz ze0]):
  Calls Tryz.prog 226 #[.func (.yield zmy) #[] #[],vq zGy,vq zmC] Nx fun e w'=>∃ v:zci,e = .returned (.tuple #[])/\(zgq v r)/\Hp (fps [z9H zmz ze0]) Nx w' [z9H v r]:=by
 unfold uj at h
 refine N8 func226 U eO U<|B0q<|Le 8 (xA zoc U<|kN hz.pv N)<|Le 9 (w9 underlying227)<|Q1n U<|jK1 h fun y Q h=>Oj (fun m n=>(y m=some r)/\(zgq n m)) (fun m n=>[]) (fun m n=>[z9H n m]) ?_ ?_
 ·let A:Value:=(.func (.yield zmy) #[] #[]);let C:Value:=(vs zmA z2o.length zmB);let D:Value:=(vi (z2o.length:Int));refine WC.block<|H9 (fun o a i j=>(gA z1d z2o z3i z7k y o a i=some r)/\(zgq j i)) (fun o a i j=>[(0,A),(2,vq zmC),(8,C),(9,D),(10,vi a)]) (fun o a i j=>[z9H j i]) (fun o a i j=>o) ⟨xR,0,ze0,zmz⟩ ⟨h,L⟩ .q (.cons .here .nil) ?_
  rintro (_|ah) a i j ⟨h,z⟩;·cases h
  rw[gA] at h
  refine B1n U<|WC.b<|Lj h (fun R h=>?_)<|fun R h=>?_
  ·refine Nn<|jK1 h fun aj S h=>H6 (fun k p=>(aj k=some r)/\(zgq p k)) (fun k p=>[(0,A),(2,vq zmC),(8,C),(9,D),(10,vi a)]) (fun k p=>[z9H p k]) ?_ ?_
   ·refine WC.block<|WC.b<|cK h fun T h=>Ld<|L2 (Z:=Z) (Pr:=(rq qt)) zad M T ?_
    rintro al am V an rfl
    refine Le 13 (xK z4d (qx hz.pv V)) (Lg 5 (xT (cs:=[vi 0,vi 0,vi 0,vi 0]) zfp) fun B _=>Ll (xP zdF .here)<|Q0n<|B0q<|Le 14 (xA zoc U<|kN hz.pv P)<|Le 15 (w9 underlying227)<|Q1n U ?_)
    refine jK1 h fun E W h=>Oj (fun l q=>(E l=some r)/\(zgq q l)) (fun l q=>[(0,A),(2,vq zmC),(8,C),(9,D),(10,vi a)]) (fun l q=>[z9H q l]) ?_ ?_
    ·refine WC.block<|H9 (fun t c d f=>(gz z1d z3i z7k z2o a E t c d=some r)/\(zgq f d)) (fun t c d f=>[(0,A),(2,vq zmC),(5,vp B),(8,C),(9,D),(10,vi a),(14,vs zyw z3i.length zyx),(15,vi (z3i.length:Int)),(16,vi c)]) (fun t c d f=>[stb B 225 [(vi<|((nth z2o a).yi).fN),(vi<|((nth z2o a).yi).fD),(vi<|((nth z2o a).fR).fN),(vi<|((nth z2o a).fR).fD)],z9H f d]) (fun t c d f=>t) ⟨xR,0,i,j⟩ ⟨h,z⟩ .q .a2 ?_
     rintro (_|ak) c d f ⟨h,F⟩;·cases h
     rw[gz] at h
     refine B1n U<|WC.b<|Lj h (fun X h=>?_)<|fun X h=>?_
     ·refine Nn<|WC.b<|WC.block<|WC.b<|cK h fun Y h=>Ld<|L2 (Z:=Z) (Pr:=(rq qt)) zad O Y ?_
      rintro ao ap aa aq rfl
      refine Le 19 (xK z4d (qx hz.pv aa)) (Lg 7 (xT (cs:=[vi 0,vi 0,vi 0,vi 0]) zfp) fun ar _=>Ll (xP zdF .here)<|Q0n<|WC.b ?_)
      refine bK h fun u ab h=>D1q U<|Le 21 (xK z4d (xM .h1))<|Le 22 (xK z4d (xM .here)) (H8 (x:=((⟨(⟨((nth z2o a).yi).fN,((nth z2o a).yi).fD⟩:z2),(⟨((nth z2o a).fR).fN,((nth z2o a).fR).fD⟩:z2)⟩:z8),(⟨(⟨((nth z3i c).yi).fN,((nth z3i c).yi).fD⟩:z2),(⟨((nth z3i c).fR).fN,((nth z3i c).fR).fD⟩:z2)⟩:z8))) (h:=()) (g:=f) (s:=d) (b:=u.1) (s':=u.2) K U .q ((.cons .h2 .nil):Sel _ [z9H f d] _) ab F (fun w hw=>hz.call hw ((.cons .h2 .nil):Sel _ [z9H f d] _)) fun I J=>Q1n U<|Lj h (fun ad h=>?_)<|fun ad h=>?_)
      ·exact Ny<|Lw<|Lk<|Lk<|Lw<|Lk<|Lw<|Lk<|Lk<|Lw<|Lk<|oJ h▸Li results226 .nil fun w hw=>⟨I,mq,J,hw.sub (.cons .here .nil)⟩
      ·exact N2<|Lt<|Lb<|D2q U<|WL.nil<|Nz ⟨ak,i64 (c+1),u.2,I⟩ ⟨h,J⟩ .q<|.s2 .h2 .here
     ·exact N1<|Lm<|Lm<|Lv<|Lo ⟨d,f⟩ ⟨h,F⟩ .q<|.cons .h1 .nil
    ·rintro l q ⟨h,ae⟩
     replace h:=(W l).symm.trans h
     exact Lt<|Lo ⟨l,q⟩ ⟨h,ae⟩ .q<|.cons .here .nil
   ·rintro k p ⟨h,af⟩
    replace h:=(S k).symm.trans h
    exact D2q U<|WL.nil<|Nz ⟨ah,i64 (a+1),k,p⟩ ⟨h,af⟩ .q<|.cons .here .nil
  ·exact N1<|Lm<|Lm<|Lv<|Lo ⟨i,j⟩ ⟨h,z⟩ .nil<|.cons .here .nil
 ·rintro m n ⟨h,ag⟩
  replace h:=(Q m).symm.trans h
  exact oJ h▸Nh results226 .nil fun w hw=>⟨n,mq,ag,hw.sub (.cons .here .nil)⟩
def c7(a:z2)(b:z2):Option (Int×Int):=
 some (i64 ((i64 (a.fN*b.fD))-(i64 (b.fN*a.fD))),i64 (a.fD*b.fD))
theorem Gk{Z e f a b r}(h:c7 a b=some r){Nx}(hz:PZ [] Nx Z)(c:ZC Z e [vi a.fN,vi a.fD])(d:ZC Z f [vi b.fN,vi b.fD]):
  RC 188 #[vq e,vq f] Nx (.tuple #[vi r.1,vi r.2]) [] []:=by
 unfold c7 at h
 exact L0 func188 U U<|B2n U<|WC.b<|Lu nc []<|Lf 0 U (xz jC)<|Lh 1 U (xA xJ U<|wq hz.pv c)<|Lf 2 U (xz kw)<|Lh 3 U (xA xJ U<|wq hz.pv d)<|Lf 4 U sZ<|Lf 5 U (xz jC)<|Lh 6 U (xA xJ U<|wq hz.pv d)<|Lf 7 U (xz kw)<|Lh 8 U (xA xJ U<|wq hz.pv c)<|Lf 9 U sZ<|Lf 10 U td<|Lf 11 U (xz kw)<|Lh 12 U (xA xJ U<|wq hz.pv c)<|Lf 13 U (xz kw)<|Lh 14 U (xA xJ U<|wq hz.pv d)<|Lf 15 U sZ<|Lf 16 U q_z<|Lf 17 U q_z<|N0<|Lb<|Ny<|oJ h▸Nm results188 (.tmp U<|.tmp U .nil) .nil
def ip(a:z2)(b:z2):Option (z2×Int):=
 (qG a).bind fun e=>(if !e then some true else(qG b).bind fun f=>some (!f)).bind fun g=>if g then some ((⟨0,0⟩:z2),2) else(c7 a b).bind fun c=>(uF c.1 c.2).bind fun d=>some (d.1,d.2)
theorem F9{Z a b r}(h:ip a b=some r){Nx}(hz:PZ [] Nx Z):
  RC 159 #[.string ⟨#[45]⟩,.agg #[vi a.fN,vi a.fD],.agg #[vi b.fN,vi b.fD]] Nx (.tuple #[.agg #[vi r.1.fN,vi r.1.fD],vi r.2]) [] []:=by
 unfold ip at h
 refine Nk func159 U U<|B0q (Lg 4 (wa (cs:=[vi a.fN,vi a.fD])) fun d _=>Lg 5 (wa (cs:=[vi b.fN,vi b.fD])) fun e _=>Lg 6 (xT (cs:=[vi 0,vi 0]) z1z) fun s _=>Q1n U<|WC.b<|WC.b ?_)
 refine bK h fun u i h=>bK h fun f g h=>Ld<|Le 9 (xK zh (xM .h2))<|Nr call130 hz (jU i)<|Q2q U<|Ly false 3 12 (B:=f) (hB:=(fun h=>(oJ<|qY g h).symm)) (fun _ j=>?_) ?_
 ·have c:=qZ g j
  obtain⟨y,m,c⟩:=za c
  replace c:=oJ c
  exact Le 13 (xK zh (xM .h1))<|Nr call130 hz (jU m)<|Q2q U<|Lz c U .all
 refine La U<|Ly false 7 17 (B:=f) (hB:=(fun h=>h)) (fun _ n=>?_) ?_
 ·exact La U<|Le 19 (Y7 (r:=false) U U)<|La U<|WL.e U U<|WL.e U U<|WL.e U U<|Q2q U<|Lz (Eq.symm n) U .all
 refine Q0n<|Lj h (fun o h=>?_)<|fun o h=>?_
 ·exact B0q<|Le 26 (we (v:=(.agg #[vi 0,vi 0])) (Lq (l:=[]) .nil []))<|Ll (xP zZ .here)<|Q1n U<|Ny<|Lk<|oJ h▸Nm results159 (.agg U zh U (xM .here)<|.tmp U .nil) .nil
 ·refine Nn<|B0q<|Lg 27 (kH Value.string<|fun x=>x) ?_
  intro t _
  let A:Value:=(.func (.func 188) #[] #[vp d,vp e]);refine Le 28 (wJ<|L6 (l:=[.tmp 4,.tmp 5])<|.r2 U U)<|Ll (gQ (k:=⟨#[43]⟩) (v:=(.func (.func 187) #[] #[vp d,vp e])) fI underlying304 .here)<|Le 29 (wJ<|L6 (l:=[.tmp 4,.tmp 5])<|.r2 U U)<|Ll (gQ (k:=⟨#[45]⟩) (v:=A) fI underlying304 .here)<|Le 30 (wJ<|L6 (l:=[.tmp 4,.tmp 5])<|.r2 U U)<|Ll (gQ (k:=⟨#[42]⟩) (v:=(.func (.func 189) #[] #[vp d,vp e])) fI underlying304 .here)<|Le 31 (wJ<|L6 (l:=[.tmp 4,.tmp 5])<|.r2 U U)<|Ll (gQ (k:=⟨#[47]⟩) (v:=(.func (.func 190) #[] #[vp d,vp e])) fI underlying304 .here)<|Q2n U<|WC.b ?_
  exact bK h fun z p h=>bK h fun C q h=>D2q U<|Le 35 (Y6 (k:=⟨#[45]⟩) (dflt:=.nilFunc) (r:=A) fI underlying304 zxk U U U .here)<|Ln 36 (qg (l:=[]) call188 .nil) .nil (ux hz .nil (.s2 .h3 .h2) fun w pz ho la=>Gk p pz ((la _ (.head _) _).stb)<|(la _ (.tail _<|.head _) _).stb)<|Q2q U<|Nr call160 hz (l4 q)<|Q2q U<|Ll (xP zZ .h1)<|Q1n U<|Ny<|oJ h▸Nm results159 (.agg U zh U (xM .here)<|.tmp U .nil) .nil
def ju(b:z2)(c:z2):Option (z2×Int):=
 (ip b c).bind fun a=>some (a.1,a.2)
theorem iq{Z a b r}(h:ju a b=some r){Nx}(hz:PZ [] Nx Z):
  RC 124 #[.agg #[vi a.fN,vi a.fD],.agg #[vi b.fN,vi b.fD]] Nx (.tuple #[.agg #[vi r.1.fN,vi r.1.fD],vi r.2]) [] []:=by
 unfold ju at h
 refine L0 func124 U U<|B0q (Lg 2 (wa (cs:=[vi a.fN,vi a.fD])) fun d _=>Lg 3 (wa (cs:=[vi b.fN,vi b.fD])) fun e _=>Lg 4 (xT (cs:=[vi 0,vi 0]) z1z) fun f _=>Q1n U<|WC.b ?_)
 exact bK h fun g c h=>Ld<|Le 6 (xK zh (xM .h2))<|Le 7 (xK zh (xM .h1))<|Nr call159 hz (F9 c)<|Q2q U<|Ll (xP zZ .here)<|Q1n U<|Ny<|oJ h▸Nm results124 (.agg U zh U (xM .here)<|.tmp U .nil) .nil
end Go.Proofs.YthjnhebofpebpaaGreat
