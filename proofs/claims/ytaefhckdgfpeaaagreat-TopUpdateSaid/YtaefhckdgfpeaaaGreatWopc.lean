/- A part of this claim's proof: models of functions, walks, plain laws. No conditions. -/
import Derived.Test.YtaefhckdgfpeaaaGreatWopb
set_option linter.all false
namespace Go.Proofs.YtaefhckdgfpeaaaGreat
open Go Go.RowKit Sep Tryz
variable {f g:Int}{i:List (List zg)}{j:ze}{k:ye}{l:List (ze×Int)}{o:List (List zb)}{p:List (Int×List Int)}{s:List (yn×z1)}
set_option maxRecDepth 30000
set_option maxHeartbeats 4000000
def gv(b:List (List zg))(k:ze)(c:ye)(f:List (ze×Int))(n:(List (List zb))->Int->Int->(List (Int×List Int))->(List (yn×z1))->Option (List (List zb)×Int×Int×(List (yn×z1)))):Nat->(List (List zb))->Int->Int->Int->(List (Int×List Int))->(List (yn×z1))->Option (List (List zb)×Int×Int×(List (yn×z1)))
 | 0,_,_,_,_,_,_=>none
 | v+1,h,o,a,i,g,d=>if decide (a<b.length) then chk (0<=a/\a<b.length) ((jY (nth b a) (fun(y0:zg)=>mI y0 k)).bind fun s=>if !s then none else chk (0<=a/\a<c.ya.length) (chk (0<=a/\a<c.ya.length) ((fV ((nth c.ya a).yQ)).bind fun j=>jp5 (fun(w:List (List zb)) (x:Int) (y:List (Int×List Int)) (z:Int) (A:Int)=>gv b k c f n v w (max o ((nth c.ya a).yQ)) (i64 (a+1)) x y (wU d (⟨a,k⟩:yn) (⟨z,A⟩:z1))) fun p=>(pD (nth b a) k.y6).bind fun e=>if e.2 then(mn e.1).bind fun q=>(ua c b d f i a).bind fun t=>(mn e.1).bind fun B=>(fV (ww f B 0)).bind fun u=>(io c b d f i t u).bind fun r=>(uD c b d f r.2 (⟨(ww d (⟨a,q⟩:yn) (⟨0,0⟩:z1)).fN,(ww d (⟨a,q⟩:yn) (⟨0,0⟩:z1)).fD⟩:z1) r.1).bind fun l=>chk ((((ww g e.1.fQ [])++([a]:List Int)).length:Int)*8<=140737488355328/\(((ww g e.1.fQ [])++([a]:List Int)).length:Int)<=4611686018427387904) (p h l.2 (wU g e.1.fQ ((ww g e.1.fQ [])++([a]:List Int))) l.1.fN l.1.fD) else(ua c b d f i a).bind fun m=>chk ((((h++([([(⟨j,m⟩:zb)]:List zb)]:List (List zb))).length:Nat):Int)*24<=140737488355328/\(((h++([([(⟨j,m⟩:zb)]:List zb)]:List (List zb))).length:Nat):Int)<=4611686018427387904) (p (h++([([(⟨j,m⟩:zb)]:List zb)]:List (List zb))) i g j.fN j.fD)))) else n h o i g d
def gw(b:List (Int×List Int))(c:Int)(e:ye)(f:List (List zg))(d:List (yn×z1))(g:List (ze×Int))(i:ze)(k:Int->Int->Int->Int->Int->Int->Option (List (List zb)×Int×Int×(List (yn×z1)))):Nat->Int->Int->Int->Int->Int->Int->Int->Option (List (List zb)×Int×Int×(List (yn×z1)))
 | 0,_,_,_,_,_,_,_=>none
 | s+1,l,a,m,n,o,p,q=>if decide (a<((ww b c []).length:Int)) then chk (0<=a/\a<((ww b c []).length:Int)) ((uD e f d g m (⟨n,o⟩:z1) (⟨(ww d (⟨nth (ww b c []) a,i⟩:yn) (⟨0,0⟩:z1)).fN,(ww d (⟨nth (ww b c []) a,i⟩:yn) (⟨0,0⟩:z1)).fD⟩:z1)).bind fun h=>(ua e f d g h.2 (nth (ww b c []) a)).bind fun r=>(uD e f d g h.2 (⟨p,q⟩:z1) r).bind fun j=>chk (0<=(nth (ww b c []) a)/\(nth (ww b c []) a)<e.ya.length) (gw b c e f d g i k s (max l ((nth e.ya (nth (ww b c []) a)).yQ)) (i64 (a+1)) j.2 h.1.fN h.1.fD j.1.fN j.1.fD)) else k l m n o p q
def gz(b:ye)(d:List (Int×List Int))(k:List (List zg))(l:List (yn×z1))(m:List (ze×Int))(n:ze)(o:(List (List zb))->Int->Option (List (List zb)×Int×Int×(List (yn×z1)))):Nat->(List (List zb))->Int->Int->Option (List (List zb)×Int×Int×(List (yn×z1)))
 | 0,_,_,_=>none
 | s+1,c,a,e=>if decide (a<b.fK.length) then rl (fun(t:List (List zb)) (u:Int)=>gz b d k l m n o s t (i64 (a+1)) u) fun p=>if decide (((ww d a []).length:Int)=0) then p c e else(fV 0).bind fun q=>(fV 0).bind fun r=>jp6 (fun(v:Int) (w:Int) (f:Int) (g:Int) (h:Int) (i:Int)=>(fV v).bind fun j=>chk (0<=a/\a<b.fK.length) (chk ((((c++([([(⟨(⟨f,g⟩:z1),(⟨h,i⟩:z1)⟩:zb),(⟨j,(⟨1,(nth b.fK a).yD⟩:z1)⟩:zb)]:List zb)]:List (List zb))).length:Nat):Int)*24<=140737488355328/\(((c++([([(⟨(⟨f,g⟩:z1),(⟨h,i⟩:z1)⟩:zb),(⟨j,(⟨1,(nth b.fK a).yD⟩:z1)⟩:zb)]:List zb)]:List (List zb))).length:Nat):Int)<=4611686018427387904) (p (c++([([(⟨(⟨f,g⟩:z1),(⟨h,i⟩:z1)⟩:zb),(⟨j,(⟨1,(nth b.fK a).yD⟩:z1)⟩:zb)]:List zb)]:List (List zb))) w))) fun x=>gw d a b k l m n x wr 0 0 e q.fN q.fD r.fN r.fD else o c e
def rM(g:ye)(c:List (List zg))(h:List (yn×z1))(d:List (ze×Int))(i:Int)(e:ze):Option (List (List zb)×Int×Int×(List (yn×z1))):=
 jp5 (fun(a:List (List zb)) (j:Int) (k:Int) (l:List (Int×List Int)) (f:List (yn×z1))=>rl (fun(b:List (List zb)) (m:Int)=>chk (((a++b).length:Int)*24<=140737488355328/\((a++b).length:Int)<=4611686018427387904) (some (a++b,j,m,f))) fun n=>gz g l c f d e n wr ([]:List (List zb)) 0 k) fun o=>gv c e g d o wr ([]:List (List zb)) 0 0 i ([]:List (Int×List Int)) h
theorem Yy(Z o a7 a8 a9 ba bb bc bd be bf bg bh bi bj bk bl bm bn bo g m a ah bp q bq y r)(h:rM a ah bp q bq y=some r){Ek}(hz:Pz [stb o 216 [vs a7 a.fM.length a8,vs a9 a.y9.length ba,vs bb a.fS.length bc,vs bd a.fK.length be,vs bf a.ya.length bg,vs bh a.yc.length bi,vs bj a.fU.length bk,vs bl a.y8.length bm,vs bn ah.length bo,.map (some g),.map (some m),vi bq],wp g (ga qS) (ga wI) bp,wp m (ga wJ) vI q] Ek Z)(aS:ZS Z 4 (u5 Z) a7 a8 a.fM)(aT:ZS Z 4 (fc Z) a9 ba a.y9)(aU:ZS Z 4 (rq ml) bb bc a.fS)(aJ:ZS Z 4 (rq m7) bd be a.fK)(aq:ZS Z 7 (fa Z) bf bg a.ya)(aV:ZS Z 5 (rq mg) bh bi a.yc)(aW:ZS Z 3 (fe Z) bj bk a.fU)(aX:ZS Z 4 (rq j5) bl bm a.y8)(aK:ZS Z 1 (m8 Z) bn bo ah)(iA:Ho Ek [stb o 216 [vs a7 a.fM.length a8,vs a9 a.y9.length ba,vs bb a.fS.length bc,vs bd a.fK.length be,vs bf a.ya.length bg,vs bh a.yc.length bi,vs bj a.fU.length bk,vs bl a.y8.length bm,vs bn ah.length bo,.map (some g),.map (some m),vi bq],wp g (ga qS) (ga wI) bp,wp m (ga wJ) vI q]):
  Calls Tryz.prog 132 #[vp o,.agg #[vi y.y6,vi y.fQ]] Ek fun e w'=>∃ Zn:Zp,∃ b1:Option Addr,∃ b2:Nat,∃ b3:List Value,e = .returned (.tuple #[vs b1 r.1.length b2,vi r.2.1])/\(RR 1 (qZ (Z++Zn)) b3 r.1)/\Hp (fps [stb o 216 [vs a7 a.fM.length a8,vs a9 a.y9.length ba,vs bb a.fS.length bc,vs bd a.fK.length be,vs bf a.ya.length bg,vs bh a.yc.length bi,vs bj a.fU.length bk,vs bl a.y8.length bm,vs bn ah.length bo,.map (some g),.map (some m),vi bq],wp g (ga qS) (ga wI) bp,wp m (ga wJ) vI q]) Ek w' [fz Zn,row (vs b1 r.1.length b2) 338 1 b3,stb o 216 [vs a7 a.fM.length a8,vs a9 a.y9.length ba,vs bb a.fS.length bc,vs bd a.fK.length be,vs bf a.ya.length bg,vs bh a.yc.length bi,vs bj a.fU.length bk,vs bl a.y8.length bm,vs bn ah.length bo,.map (some g),.map (some m),vi r.2.2.1],wp g (ga qS) (ga wI) r.2.2.2,wp m (ga wJ) vI q]:=by
 unfold rM at h
 refine Nk func132 U iA U ?_
 let O:List Value:=[vi y.y6,vi y.fQ];refine WC.pool<|B0q<|Lh 3 (wu (cs:=O)) ?_
 intro t _
 refine Q2n U<|B2n U<|B0q<|Lh 20 (jK vI<|slv (α:=Int)) ?_
 intro z _
 let D:Value:=(vs bn ah.length bo);let E:Value:=(vs a7 a.fM.length a8);let F:Value:=(vs a9 a.y9.length ba);let G:Value:=(vs bb a.fS.length bc);let H:Value:=(vs bd a.fK.length be);let I:Value:=(vs bf a.ya.length bg);let J:Value:=(vs bh a.yc.length bi);let K:Value:=(vs bj a.fU.length bk);let L:Value:=(vs bl a.y8.length bm);refine Nq (M:=[vh (qM 3 1 e3) ([]:List (Int×((Nat×(Option Addr×Nat))×List Int))),wp z vI slv (jd ([]:List (Int×((Nat×(Option Addr×Nat))×List Int)))),stb t 208 O,fz [],stb o 216 [E,F,G,H,I,J,K,L,D,(.map<|some g),(.map<|some m),vi bq],wp g (ga qS) (ga wI) bp,wp m (ga wJ) vI q]) (fun _ h=>Hp.az (qM 3 1 e3) h)<|Q1n U<|B1n U ?_
 refine jK5 h fun cd ci h=>D3 (fun al am aY B ag ay br bs ai W=>(cd al am aY B ag=some r)/\(wg (Z++[]) (Z++ay))/\(RR 1 (qZ (Z++ay)) ai al)/\(mq W=B)) (fun al am aY B ag ay br bs ai W=>[(0,vp o),(3,vp t),(6,vs br al.length bs),(7,vn),(8,(.map<|some z)),(9,vi am)]) (fun al am aY B ag ay br bs ai W=>[fz ay,row (vs br al.length bs) 338 1 ai,stb o 216 [E,F,G,H,I,J,K,L,D,(.map<|some g),(.map<|some m),vi aY],stb t 208 O,wp z vI slv (jd W),vh (qM 3 1 e3) W,wp g (ga qS) (ga wI) ag,wp m (ga wJ) vI q]) ?_ ?_
 ·refine B1q U<|Lf 22 wz<|Lf 23 (w7 FB)<|Lf 24 (Ei zZ2 .h4)<|Lf 25 (wB underlying85)<|Q1n U<|WC.block<|WC.nilRow 338 1<|Oj (fun bt X az n aL T an x aA aB ao aj=>(gv ah y a q cd bt X az n aL T an=some r)/\(wg (Z++[]) (Z++x))/\(RR 1 (qZ (Z++x)) ao X)/\(mq aj=T)) (fun bt X az n aL T an x aA aB ao aj=>[(0,vp o),(3,vp t),(6,vs aA X.length aB),(7,vn),(8,(.map<|some z)),(9,vi az),(24,D),(25,vi (ah.length:Int)),(26,vi n)]) (fun bt X az n aL T an x aA aB ao aj=>[fz x,row (vs aA X.length aB) 338 1 ao,stb o 216 [E,F,G,H,I,J,K,L,D,(.map<|some g),(.map<|some m),vi aL],stb t 208 O,wp z vI slv (jd aj),vh (qM 3 1 e3) aj,wp g (ga qS) (ga wI) an,wp m (ga wJ) vI q]) (fun bt X az n aL T an x aA aB ao aj=>bt) ⟨wr,([]:List (List zb)),0,0,bq,([]:List (Int×List Int)),bp,[],none,0,[],([]:List (Int×((Nat×(Option Addr×Nat))×List Int)))⟩ ⟨h,wg.refl _,RR.nil _ _,U⟩ .q (.s8 .h4 .here .h3 .h2 .h1 .here .here .here) ?_
  rintro (_|dr) X az n aL T an x aA aB ao aj ⟨h,b,bX,bO⟩;·cases h
  rw[gv] at h
  refine B1n U<|Lb<|Lj h (fun cj h=>?_)<|fun cj h=>?_
  ·refine Ec<|Lb<|WC.block<|Lb<|cK h fun ck h=>D1q U<|L0 (dd:=29) (Z:=(Z++x)) (Pr:=(m8 (Z++x))) zgU ((aK.mono<|zl.trans b).weak (fun _ _ h=>qY (zl.trans b) h)) ck ?_
   rintro dB dC cl dD ⟨dE,dF,rfl,b4⟩
   refine Lf 30 (w8 zfm U<|vx (hz.pv2 .here) cl)<|Q2n U<|Lb<|Lb<|bK h fun dG cm h=>D1q U<|Lf 32 (wO<|L6 (l:=[.tmp 3])<|.cons U .nil)<|Lm 33 (Eh call127) .nil (uT hz .nil .here (.cons .h3 .nil) fun w pz ho la=>sZ _ _ _ (zwr:=175) (zIG:=[vp t]) _ (zwq:=(fun(y0:zg)=>mI y0 y)) _ cm pz (b4.mono<|zl) call175<|fun w' nd y0  r  hr=>nF _ _ _ _ _ hr nd<|(la _ (.head _) _).stb)<|Q1n U<|Lj h (fun cn h=>?_)<|fun cn h=>?_
   ·cases h
   ·refine Ec<|Lb<|cK h fun co h=>D2q U<|Lf 37 wz<|Lf 38 (w7 tM)<|Lf 39 (w7 pU)<|Lf 40 (Ei zjX .h2)<|La U<|L0 (dd:=42) (Z:=(Z++x)) (Pr:=(fa (Z++x))) znO ((aq.mono<|zl.trans b).weak (fun _ _ h=>vL (zl.trans b) h)) co ?_
    rintro dH dI cp dJ ⟨dK,dL,rfl,dM⟩
    refine Lf 43 (w7 pW)<|Lf 44 (w8 wm U<|wP (hz.pv2 .here) cp)<|Lf 45 lT<|Q1n U<|Lb<|cK h fun cq h=>bK h fun Y cr h=>D1q U<|Lf 47 wz<|Lf 48 (w7 tM)<|Lf 49 (w7 pU)<|Lf 50 (Ei zjX .h2)<|La U<|L0 (dd:=52) (Z:=(Z++x)) (Pr:=(fa (Z++x))) znO ((aq.mono<|zl.trans b).weak (fun _ _ h=>vL (zl.trans b) h)) cq ?_
    rintro dN dO cu dP ⟨dQ,dR,rfl,dS⟩
    refine Lf 53 (w7 pW)<|Lf 54 (w8 wm U<|wP (hz.pv2 .here) cu)<|Lm 55 (Eh call133) .nil (qB hz .nil .here fun w pz ho=>uZ _ _ _ cr pz ) (Lh 12 (wn (cs:=[vi 0,vi 0]) z20) fun bP _=>Ll (wl z1t .here)<|Q0n ?_)
    refine jK5 h fun dt cv h=>D3 (fun aC aZ a0 aM aN a1 bu bv bw a2=>(dt aC aZ a0 aM aN=some r)/\(wg (Z++x) (Z++a1))/\(RR 1 (qZ (Z++a1)) bw aC)/\(mq a2=a0)) (fun aC aZ a0 aM aN a1 bu bv bw a2=>[(0,vp o),(3,vp t),(6,vs bu aC.length bv),(7,vn),(8,(.map<|some z)),(9,(vi<|max az<|(nth a.ya n).yQ)),(10,vi n),(12,vp bP),(24,D),(25,vi (ah.length:Int)),(26,vi n)]) (fun aC aZ a0 aM aN a1 bu bv bw a2=>[fz a1,row (vs bu aC.length bv) 338 1 bw,stb o 216 [E,F,G,H,I,J,K,L,D,(.map<|some g),(.map<|some m),vi aZ],stb t 208 O,wp z vI slv (jd a2),vh (qM 3 1 e3) a2,stb bP 276 [vi aM,vi aN],wp g (ga qS) (ga wI) an,wp m (ga wJ) vI q]) ?_ ?_
    ·refine Lb<|bK h fun p cw h=>D1q U<|Lf 58 (w7 ct)<|Lf 59 (Ei wm .h4)<|Lm 60 (Eh call129) .nil (qB hz .nil .h1 fun w pz ho=>dz _ _ _ _ _ _ cw pz b4)<|Q2q U<|La U (Lh 13 (wn (cs:=[vi 0,vi 0,vi 0]) zgV) fun bY _=>Ll (wl zfk .here)<|Q1n U<|B1n U<|Lj h (fun cx h=>?_)<|fun cx h=>?_)
     ·refine Lb ?_
      obtain⟨bG,cy,h⟩:=z2 h
      obtain⟨dT,cz,h⟩:=z2 h
      obtain⟨du,cA,h⟩:=z2 h
      obtain⟨dU,cB,h⟩:=z2 h
      obtain⟨d8,cC,h⟩:=z2 h
      obtain⟨bx,cD,h⟩:=z2 h
      let S:List Value:=[vi p.1.y6,vi p.1.fX,vi p.1.fQ];refine Lv (fun i=>[13,22,23,24].contains i) [pp o 216 [(9,(.map<|some g)),(10,(.map<|some m))],WN g (ga qS) (ga wI) (⟨n,bG⟩:yn) ((⟨0,0⟩:z1):z1) (ww an (⟨n,bG⟩:yn) (⟨0,0⟩:z1)),stb bY 82 S]<|Lg 0 U q_m<|Lg 1 U q_m<|Lg 2 U wz<|Lg 3 U (w7 W5)<|Na 4 U (wS.wk (.s3 .h4 .h7 .here)<|.stb (.cons U<|.cons U .nil)<|.any U (fun _ h=>pt h)<|.same .nil) (w8 zNL U<|mF .here<|.head _)<|Lg 5 U q_m<|Li 6 U (we z7e (wh .here))<|L5 7 U (Eh call97) (qB hz .nil .h2 fun w pz ho=>tq _ _ _ cy pz )<|Lg 8 U (wN (v:=(.agg #[vi n,vi bG.y6,vi bG.fQ])) (Lt (l:=[.tmp 69,.tmp 71]) (.r2 U U) [0,1]) (fun _=>by kernel_rfl))<|Na 9 U (wS.wk (.s3 .h4 .h7 .here)<|.stb (.cons U<|.cons U .nil)<|.any U (fun _ h=>pt h)<|.same .nil) (Qc (k:=(⟨n,bG⟩:yn)) (dflt:=((⟨0,0⟩:z1):z1)) zNN underlying213 z20 U U U .h1)<|Lg 10 U q_m<|Lg 11 U q_m<|Lg 12 U q_m<|Lg 14 U q_m<|Lg 15 U wz<|Lg 16 U (w7 W6)<|Na 17 U (wS.wk (.s3 .h4 .h7 .here)<|.stb (.cons U<|.cons U .nil)<|.any U (fun _ h=>pt h)<|.same .nil) (w8 zCs U<|mF .here<|.tail _<|.head _)<|Na 18 U (wS.wk (.s3 .h4 .h7 .here)<|.stb (.cons U<|.cons U .nil)<|.any U (fun _ h=>pt h)<|.same .nil) (we z7e (wh .h2))<|WD.call0 (i:=13) (dd:=77) U (by kernel_rfl) U (.inl ⟨U,(by exact(wS.wk (.s3 .h6 .here .h1)<|.stb (.cons U<|.cons U .nil)<|.any U (fun _ h=>pt h)<|.same .nil))⟩) (Eh call179) (.s2 (.there .h7)<|.there .h7) (uT hz (.s2 (.there .h7)<|.there .h7) .h2 (.cons .h4 .nil) fun w pz ho la=>Calls.mono (oF _ _ _ _ _ _ _ _ _ _ _ _ _ _ _ _ _ _ _ _ _ _ _ _ _ _ _ _ _ cz pz ((((aS.mono<|zl.trans b).weak (fun _ _ h=>qn (zl.trans b) h)).mono zl).weak (fun _ _ h=>qn zl h)) ((((aT.mono<|zl.trans b).weak (fun _ _ h=>qr (zl.trans b) h)).mono zl).weak (fun _ _ h=>qr zl h)) ((aU.mono<|zl.trans b).mono zl) ((aJ.mono<|zl.trans b).mono zl) ((((aq.mono<|zl.trans b).weak (fun _ _ h=>vL (zl.trans b) h)).mono zl).weak (fun _ _ h=>vL zl h)) ((aV.mono<|zl.trans b).mono zl) ((((aW.mono<|zl.trans b).weak (fun _ _ h=>qs (zl.trans b) h)).mono zl).weak (fun _ _ h=>qs zl h)) ((aX.mono<|zl.trans b).mono zl) ((((aK.mono<|zl.trans b).weak (fun _ _ h=>qY (zl.trans b) h)).mono zl).weak (fun _ _ h=>qY zl h)) ((la _ (.head _) _).stb) ho)<|fun _ _ h'=>⟨h'.1,trivial,h'.2⟩) ?_
      intro _
      refine L5 19 U (Eh call97) (qB hz .nil .h4 fun w pz ho=>tq _ _ _ cA pz )<|Li 20 U (qL (k:=du) (dflt:=(0:Int)) znP underlying214 qp .h1)<|L5 21 U (Eh call133) (qB hz .nil .h4 fun w pz ho=>uZ _ _ _ cB pz ) (WD.call0 (i:=22) (dd:=86) U (by kernel_rfl) U (.inl ⟨U,(by exact(wS.wk (.s3 .here .here .h1)<|.stb (.cons U<|.cons U .nil)<|.any U (fun _ h=>pt h)<|.same .nil))⟩) (Eh call176) (.s3 .h6 .here .here) (qB hz (.s3 .h6 .here .here) .h2 fun w pz ho=>Calls.mono (V4 _ _ _ _ _ _ _ _ _ _ _ _ _ _ _ _ _ _ _ _ _ _ _ _ _ _ _ _ _ _ cC pz ((aS.mono<|zl.trans b).weak (fun _ _ h=>qn (zl.trans b) h)) ((aT.mono<|zl.trans b).weak (fun _ _ h=>qr (zl.trans b) h)) (aU.mono<|zl.trans b) (aJ.mono<|zl.trans b) ((aq.mono<|zl.trans b).weak (fun _ _ h=>vL (zl.trans b) h)) (aV.mono<|zl.trans b) ((aW.mono<|zl.trans b).weak (fun _ _ h=>qs (zl.trans b) h)) (aX.mono<|zl.trans b) ((aK.mono<|zl.trans b).weak (fun _ _ h=>qY (zl.trans b) h)) ho)<|fun _ _ h'=>⟨h'.1,trivial,h'.2⟩) fun _=>WD.call0 (i:=23) (dd:=87) U (by kernel_rfl) U (.inl ⟨U,(by exact(wS.wk (.s3 .here .here .h1)<|.stb (.cons U<|.cons U .nil)<|.any U (fun _ h=>pt h)<|.same .nil))⟩) (Eh call176) .a3 (qB hz .a3 .h2 fun w pz ho=>Calls.mono (l8 _ _ _ _ _ _ _ _ _ _ _ _ _ _ _ _ _ _ _ _ _ _ _ _ _ _ _ _ _ _ cD pz ((aS.mono<|zl.trans b).weak (fun _ _ h=>qn (zl.trans b) h)) ((aT.mono<|zl.trans b).weak (fun _ _ h=>qr (zl.trans b) h)) (aU.mono<|zl.trans b) (aJ.mono<|zl.trans b) ((aq.mono<|zl.trans b).weak (fun _ _ h=>vL (zl.trans b) h)) (aV.mono<|zl.trans b) ((aW.mono<|zl.trans b).weak (fun _ _ h=>qs (zl.trans b) h)) (aX.mono<|zl.trans b) ((aK.mono<|zl.trans b).weak (fun _ _ h=>qY (zl.trans b) h)) ho)<|fun _ _ h'=>⟨h'.1,trivial,h'.2⟩) fun _=>Nb (i:=24) U (by kernel_rfl) (by kernel_rfl) (wl z1t .h4)<|Eo (by kernel_rfl)<|Ld ?_)
      refine cK h fun cE h=>Lv (fun i=>[9,10].contains i) [pp bY 82 [(2,vi p.1.fQ)]]<|Lg 0 U q_m<|Lg 1 U (w7 sn)<|Na 2 U (wS.wk (.cons .h4 .nil)<|.stb (.cons U .nil) .nil) (w8 wm U<|mF .here<|.head _)<|Lg 3 U q_m<|Lg 4 U (w7 sn)<|Li 5 U (Ei wm .h4)<|Li 6 U (qL (k:=p.1.fQ) (dflt:=(((none,0),[]):(Option Addr×Nat)×List Int)) gc underlying330 zNO<|.there .h7)<|Dy (fun _ h=>Hp.eB p.1.fQ bO (.there<|.there .h7) h) ?_
      rintro⟨cF,cG⟩ cH
      refine Ny (i:=94) U (u:=(vs cF ((ww T p.1.fQ []).length) cG)) (congrArg slv cH)<|Lg 7 U q_m (WD.new (i:=8) (dd:=96) U (by kernel_rfl) U (wD (cs:=([n]:List Int).flatMap e3) zaM (Lt (l:=[.tmp 95]) (.cons U .nil) [0]) (fun _=>by kernel_rfl) (by unfold maxLen;omega)) (fun h'=>absurd h' (by decide)) fun cI _=>WD.old (i:=9) (dd:=97) U (by kernel_rfl) U (fun _=>(wS.wk (.cons .h7 .nil)<|.stb (.cons U .nil) .nil)) (vb (enc:=e3) (l1:=ww T p.1.fQ []) (l2:=([n]:List Int)) zaM .h1 (fun _=>U) (wY .here) (vm KO _) cE) ?_)
      rintro⟨bQ,bR⟩ _
      exact Nb (i:=10) U (by kernel_rfl) (by kernel_rfl) (kn (k:=p.1.fQ) (v:=(((bQ,bR),(ww T p.1.fQ [])++([n]:List Int)):(Option Addr×Nat)×List Int)) gc underlying330<|.there<|.there<|.there<|.there .h7)<|E8 (fun _ h=>Hp.WQ (k:=p.1.fQ) (.s2 .h1 .h2) h)<|E8 (M:=[wp z vI slv (jd<|wU aj p.1.fQ ((0,(bQ,bR)),(ww T p.1.fQ [])++([n]:List Int))),vh (qM 3 1 e3) (wU aj p.1.fQ ((0,(bQ,bR)),(ww T p.1.fQ [])++([n]:List Int))),row (vs (some ⟨cI,0,none⟩) (([n]:List Int).length) 1) 3 1 (([n]:List Int).flatMap e3),stb bP 276 [vi bx.1.fN,vi bx.1.fD],stb o 216 [E,F,G,H,I,J,K,L,D,(.map<|some g),(.map<|some m),vi bx.2],wp g (ga qS) (ga wI) an,wp m (ga wJ) vI q,stb bY 82 S,fz x,row (vs aA X.length aB) 338 1 ao,stb t 208 O]) (fun _ h=>Hp.aA .h1 (YT _ _ _ _).symm h)<|Eo (by kernel_rfl)<|Lp ⟨X,bx.2,wU T p.1.fQ ((ww T p.1.fQ [])++([n]:List Int)),bx.1.fN,bx.1.fD,x,aA,aB,ao,wU aj p.1.fQ ((0,(bQ,bR)),(ww T p.1.fQ [])++([n]:List Int))⟩ ⟨h,wg.refl _,bX,df bO _ _ _⟩ .q<|.s9 (.there .h7) (.there .h7) .h4 .h7 .here .here .h1 .h1 .h1
     ·refine bK h fun ar cJ h=>cK h fun cL h=>Lv (fun i=>[4,8].contains i) [stb bP 276 [vi Y.fN,vi Y.fD]]<|Lg 0 U q_m<|Na 1 U (wS.of<|.cons .h1 .nil) (we zm (wh .here))<|Lg 2 U q_m<|Lg 3 U q_m (WD.call0 (i:=4) (dd:=102) U (by kernel_rfl) U (.inl ⟨U,(wS.of<|.cons .h3 .nil)⟩) (Eh call179) (.s2 (.there .h7)<|.there .h7) (uT hz (.s2 (.there .h7)<|.there .h7) .h2 (.cons .h4 .nil) fun w pz ho la=>Calls.mono (oF _ _ _ _ _ _ _ _ _ _ _ _ _ _ _ _ _ _ _ _ _ _ _ _ _ _ _ _ _ cJ pz ((((aS.mono<|zl.trans b).weak (fun _ _ h=>qn (zl.trans b) h)).mono zl).weak (fun _ _ h=>qn zl h)) ((((aT.mono<|zl.trans b).weak (fun _ _ h=>qr (zl.trans b) h)).mono zl).weak (fun _ _ h=>qr zl h)) ((aU.mono<|zl.trans b).mono zl) ((aJ.mono<|zl.trans b).mono zl) ((((aq.mono<|zl.trans b).weak (fun _ _ h=>vL (zl.trans b) h)).mono zl).weak (fun _ _ h=>vL zl h)) ((aV.mono<|zl.trans b).mono zl) ((((aW.mono<|zl.trans b).weak (fun _ _ h=>qs (zl.trans b) h)).mono zl).weak (fun _ _ h=>qs zl h)) ((aX.mono<|zl.trans b).mono zl) ((((aK.mono<|zl.trans b).weak (fun _ _ h=>qY (zl.trans b) h)).mono zl).weak (fun _ _ h=>qY zl h)) ((la _ (.head _) _).stb) ho)<|fun _ _ h'=>⟨h'.1,trivial,h'.2⟩) fun _=>Lg 5 U (wN (v:=(.agg #[vi Y.fN,vi Y.fD,vi ar.fN,vi ar.fD])) (Lt (l:=[.tmp 99,.tmp 102]) (.r2 U U) [0,1]) (fun _=>by kernel_rfl)) (WD.new (i:=6) (dd:=104) U (by kernel_rfl) U (wD (cs:=([(⟨Y,ar⟩:zb)]:List zb).flatMap qo) zeq (Lt (l:=[.tmp 103]) (.cons U .nil) [0]) (fun _=>by kernel_rfl) (by unfold maxLen;omega)) (fun h'=>absurd h' (by decide)) fun ce _=>WD.freezeS (ls:=([(⟨Y,ar⟩:zb)]:List zb)) .here .h4 hz (RR.flat (enc:=qo) (fun _=>U) _) ?_))
      intro bS b6 cM
      let C:List Value:=[vs (some ⟨ce,0,none⟩) (([(⟨Y,ar⟩:zb)]:List zb).length) 1];have b8:RR 1 (qZ (Z++bS)) C ([([(⟨Y,ar⟩:zb)]:List zb)]:List (List zb)):=(RR.cons (r:=C) U (show qZ _ _ _ from⟨_,_,U,cM⟩) (RR.nil _ _))
      refine WD.new (i:=7) (dd:=105) U (by kernel_rfl) U (wD (cs:=[vs (some ⟨ce,0,none⟩) (([(⟨Y,ar⟩:zb)]:List zb).length) 1]) zgX (Lt (l:=[.tmp 104]) (.cons U .nil) [0]) (fun _=>by kernel_rfl) (by unfold maxLen;omega)) (fun h'=>absurd h' (by decide)) ?_
      intro dV _
      have cN:RR 1 (qZ (Z++bS)) (ao++C) (X++([([(⟨Y,ar⟩:zb)]:List zb)]:List (List zb))):=RR.app (bX.weak (fun _ _ h=>kT b6 h)) b8
      refine WD.old (i:=8) (dd:=106) U (by kernel_rfl) U (fun _=>(wS.of<|.cons .h6 .nil)) (uq (l1:=X) (l2:=([([(⟨Y,ar⟩:zb)]:List zb)]:List (List zb))) (news:=C) (Pr:=(qZ (Z++bS))) zgX .h6 b8 (wY .here) (uv si) cL) ?_
      rintro⟨cO,cP⟩ _
      exact Lg 9 U q_z<|Eo (by kernel_rfl)<|Lp ⟨X++([([(⟨Y,ar⟩:zb)]:List zb)]:List (List zb)),aL,T,Y.fN,Y.fD,bS,cO,cP,ao++C,aj⟩ ⟨h,b6,cN,bO⟩ .q<|.s9 .h2 .here .h5 .h5 .h5 .h5 .h4 .h1 .h1
    ·rintro aC aZ a0 aM aN a1 bu bv bw a2 ⟨h,cQ,cR,cS⟩
     replace h:=(cv aC aZ a0 aM aN).symm.trans h
     exact Lv (fun i=>[8].contains i) []<|Lg 0 U q_m<|Lg 1 U wz<|Lg 2 U (w7 W5)<|Li 3 U (Ei zNL .h2)<|Lg 4 U q_m<|Li 5 U (we za3 (wh .h3))<|Lg 6 U (wN (v:=(.agg #[vi n,vi y.y6,vi y.fQ])) (Lt (l:=[.tmp 111,.tmp 112]) (.r2 U U) [0,1]) (fun _=>by kernel_rfl))<|Li 7 U (we zm (wh .h6))<|Nb (i:=8) U (by kernel_rfl) (by kernel_rfl) (kn (k:=(⟨n,y⟩:yn)) (v:=(⟨aM,aN⟩:z1)) zNN underlying213 .h7)<|Eo (by kernel_rfl)<|Lq<|Ld<|D2q U<|WL.nil<|Em ⟨dr,aC,(max az<|(nth a.ya n).yQ),i64 (n+1),aZ,a0,wU an (⟨n,y⟩:yn) (⟨aM,aN⟩:z1),a1,bu,bv,bw,a2⟩ ⟨h,b.trans cQ,cR,cS⟩ (Nat.lt_succ_self _) .q<|.s8 .h1 .h1 .h1 .h1 .h1 .h1 .here .h1
  ·exact En<|Ln<|Ln<|Lu<|Lp ⟨X,az,aL,T,an,x,aA,aB,ao,aj⟩ ⟨h,b,bX,bO⟩ .q<|.a8
 ·rintro al am aY B ag ay br bs ai W ⟨h,d,cT,bT⟩
  replace h:=(ci al am aY B ag).symm.trans h
  obtain⟨cf,cU,h⟩:=jc h
  let N:Value:=(vs br al.length bs);refine Hw (fun au bz aD bH bI aO=>(cf au bz=some r)/\(wg (Z++ay) (Z++aD))/\(RR 1 (qZ (Z++aD)) aO au)) (fun au bz aD bH bI aO=>[(6,N),(7,vs bH au.length bI),(9,vi am)]) (fun au bz aD bH bI aO=>[fz aD,row N 338 1 ai,row (vs bH au.length bI) 338 1 aO,stb o 216 [E,F,G,H,I,J,K,L,D,(.map<|some g),(.map<|some m),vi bz],wp g (ga qS) (ga wI) ag,wp m (ga wJ) vI q]) ?_ ?_
  ·let P:Value:=(vi (a.fK.length:Int));refine B1q U<|Lf 117 wz<|Lf 118 (w7 tM)<|Lf 119 (w7 pV)<|Lf 120 (Ei zjY .h2)<|Lf 121 (wB underlying69)<|Q1n U<|WC.block<|WC.nilRow 338 1<|Hb (fun bA aa f aE V aG aH ak=>(gz a B ah ag q y cf bA aa f aE=some r)/\(wg (Z++ay) (Z++V))/\(RR 1 (qZ (Z++V)) ak aa)) (fun bA aa f aE V aG aH ak=>[(0,vp o),(3,vp t),(6,N),(7,vs aG aa.length aH),(8,(.map<|some z)),(9,vi am),(121,P),(122,vi f)]) (fun bA aa f aE V aG aH ak=>[fz V,row N 338 1 ai,row (vs aG aa.length aH) 338 1 ak,stb o 216 [E,F,G,H,I,J,K,L,D,(.map<|some g),(.map<|some m),vi aE],stb t 208 O,wp z vI slv (jd W),vh (qM 3 1 e3) W,wp g (ga qS) (ga wI) ag,wp m (ga wJ) vI q]) (fun bA aa f aE V aG aH ak=>bA) ⟨wr,([]:List (List zb)),0,aY,ay,none,0,[]⟩ ⟨h,wg.refl _,RR.nil _ _⟩ .q (.s9 .h1 .h1 .here .here .here .here .here .here .here) ?_
   rintro (_|dv) aa f aE V aG aH ak ⟨h,c,bZ⟩;·cases h
   rw[gz] at h
   refine B1n U<|Lb<|Lj h (fun cV h=>?_)<|fun cV h=>?_
   ·refine Ec<|jK2 h fun dw cW h=>Hw (fun aI a3 a4 bB bC bD=>(dw aI a3=some r)/\(wg (Z++V) (Z++a4))/\(RR 1 (qZ (Z++a4)) bD aI)) (fun aI a3 a4 bB bC bD=>[(0,vp o),(3,vp t),(6,N),(7,vs bB aI.length bC),(8,(.map<|some z)),(9,vi am),(121,P),(122,vi f)]) (fun aI a3 a4 bB bC bD=>[fz a4,row N 338 1 ai,row (vs bB aI.length bC) 338 1 bD,stb o 216 [E,F,G,H,I,J,K,L,D,(.map<|some g),(.map<|some m),vi a3],stb t 208 O,wp z vI slv (jd W),vh (qM 3 1 e3) W,wp g (ga qS) (ga wI) ag,wp m (ga wJ) vI q]) ?_ ?_
    ·refine WC.block<|B2n U<|Lb<|B2q U<|Lf 127 (qL (k:=f) (dflt:=(((none,0),[]):(Option Addr×Nat)×List Int)) gc underlying330 zNO .h5)<|Hq (fun _ h=>Hp.eB f bT .h6 h) ?_
     rintro⟨cX,cY⟩ b9
     refine Ew (i:=127) U (u:=(vs cX ((ww B f []).length) cY)) (congrArg slv b9)<|Lf 128 (wB underlying30)<|La U<|Nq (fun _ h=>Hp.Qd bT b9 .a2 h)<|Q0n<|Lj h (fun cZ h=>?_)<|fun cZ h=>?_
     ·exact En<|Ln<|Lu<|Lp ⟨aa,aE,V,aG,aH,ak⟩ ⟨h,wg.refl _,bZ⟩ .q<|.s9 .h1 .h1 .h1 .h1 .h1 .h1 .here .here .here
     ·refine Ec<|Lb<|bK h fun bU c0 h=>bK h fun bV c1 h=>Le<|Lm 130 (Eh call133) .nil (qB hz .nil .h1 fun w pz ho=>uZ _ _ _ c0 pz )<|Lm 131 (Eh call133) .nil (qB hz .nil .h1 fun w pz ho=>uZ _ _ _ c1 pz )<|Lf 132 (wN (v:=(.agg #[vi bU.fN,vi bU.fD,vi bV.fN,vi bV.fD])) (Lt (l:=[.tmp 130,.tmp 131]) (.r2 U U) [0,1]) (fun _=>by kernel_rfl)) (Lh 16 (wn (cs:=[vi 0,vi 0,vi 0,vi 0]) zk0) fun bJ _=>Ll (wl zk1 .here)<|Q0n<|B1n U ?_)
      obtain⟨cg,c2,h⟩:=Fg h
      let R:Value:=(vs aG aa.length aH);refine Hw (fun bE a5 ab ad ae af=>(cg bE a5 ab ad ae af=some r)) (fun bE a5 ab ad ae af=>[(0,vp o),(3,vp t),(6,N),(7,R),(8,(.map<|some z)),(9,vi am),(15,vi f),(16,vp bJ),(17,vi bE),(121,P),(122,vi f)]) (fun bE a5 ab ad ae af=>[fz V,row N 338 1 ai,row R 338 1 ak,stb o 216 [E,F,G,H,I,J,K,L,D,(.map<|some g),(.map<|some m),vi a5],stb t 208 O,wp z vI slv (jd W),vh (qM 3 1 e3) W,stb bJ 336 [vi ab,vi ad,vi ae,vi af],wp g (ga qS) (ga wI) ag,wp m (ga wJ) vI q]) ?_ ?_
      ·refine B2q U<|Lf 135 (qL (k:=f) (dflt:=(((none,0),[]):(Option Addr×Nat)×List Int)) gc underlying330 zNO .h7)<|Hq (fun _ h=>Hp.eB f bT .h1 h) ?_
       rintro⟨dx,dy⟩ ca
       let Q:Value:=(vs dx ((ww B f []).length) dy);refine Ew (i:=135) U (u:=Q) (congrArg slv ca)<|Lf 136 (wB underlying30)<|Q1n U<|WC.block<|Hb (fun bL aP ap a6 aQ aR av aw=>(gw B f a ah ag q y cg bL aP ap a6 aQ aR av aw=some r)) (fun bL aP ap a6 aQ aR av aw=>[(0,vp o),(3,vp t),(6,N),(7,R),(8,(.map<|some z)),(9,vi am),(15,vi f),(16,vp bJ),(17,vi aP),(121,P),(122,vi f),(135,Q),(136,vi ((ww B f []).length:Int)),(137,vi ap)]) (fun bL aP ap a6 aQ aR av aw=>[fz V,row N 338 1 ai,row R 338 1 ak,row Q 3 1 ((ww B f []).flatMap e3),stb o 216 [E,F,G,H,I,J,K,L,D,(.map<|some g),(.map<|some m),vi a6],stb t 208 O,wp z vI slv (jd W),vh (qM 3 1 e3) (mR f W),stb bJ 336 [vi aQ,vi aR,vi av,vi aw],wp g (ga qS) (ga wI) ag,wp m (ga wJ) vI q]) (fun bL aP ap a6 aQ aR av aw=>bL) ⟨wr,0,0,aE,bU.fN,bU.fD,bV.fN,bV.fD⟩ h .q (.s11 .h3 .h3 .h3 .here .h2 .h2 .h2 .here .here .here .here) ?_
       rintro(_|dA) aP ap a6 aQ aR av aw h;·cases h
       rw[gw] at h
       refine B1n U<|Lb<|Lj h (fun c3 h=>?_)<|fun c3 h=>?_
       ·refine Ec<|Lb<|WC.block<|Lb<|cK h fun bM h=>Le<|Es (fun w hw=>Hp.vr .h3 hw (by intro nd;have:=bM;rw[nd] at this;omega)) ?_
        rintro⟨dW,rfl⟩
        refine Lf 139 (wL zaM bM.1 bM.2 vB)<|Lf 140 (w8 wm U<|gt .h3<|(qm (enc:=e3) (l:=ww B f []) (i:=ap) (sz:=1) (fun _=>U) bM.1 bM.2) 0 _ U)<|Q1n U<|Lb<|bK h fun bF c4 h=>bK h fun dX c5 h=>bK h fun bN c6 h=>Lv (fun i=>[11,17,18,20,22].contains i) [pp bJ 336 [(2,vi av),(3,vi aw)]]<|Lg 0 U q_m<|Lg 1 U (w7 mT)<|Li 2 U (wX (cs:=[vi aQ,vi aR]) zm<|qW (s:=2) (.there .h7) U)<|Lg 3 U q_m<|Lg 4 U wz<|Lg 5 U (w7 W5)<|Li 6 U (Ei zNL .h4)<|Lg 7 U q_m<|Li 8 U (we za3 (wh .h5))<|Lg 9 U (wN (v:=(.agg #[(vi<|nth (ww B f []) ap),vi y.y6,vi y.fQ])) (Lt (l:=[.tmp 148,.tmp 149]) (.r2 U U) [0,1]) (fun _=>by kernel_rfl))<|Li 10 U (qL (k:=(⟨nth (ww B f []) ap,y⟩:yn)) (dflt:=((⟨0,0⟩:z1):z1)) zNN underlying213 z20<|.there<|.there .h7)<|Lg 12 U q_m<|Lg 13 U (w7 tN)<|Na 14 U (wS.wk (.cons (.there .h7) .nil)<|.stb (.cons U<|.cons U .nil) .nil) (wX (cs:=[vi av,vi aw]) zm<|aF .here (.head _)<|(.tail _<|.head _))<|Lg 15 U q_m<|Lg 16 U q_m (WD.call0 (i:=11) (dd:=152) U (by kernel_rfl) U (.inl ⟨U,(wS.wk (.cons (.there<|.there<|.there .h7) .nil)<|.stb (.cons U<|.cons U .nil) .nil)⟩) (Eh call176) (.s3 .h4 (.there .h7)<|.there .h7) (qB hz (.s3 .h4 (.there .h7)<|.there .h7) .here fun w pz ho=>Calls.mono (l8 _ _ _ _ _ _ _ _ _ _ _ _ _ _ _ _ _ _ _ _ _ _ _ _ _ _ _ _ _ _ c4 pz ((aS.mono<|zl.trans (d.trans c)).weak (fun _ _ h=>qn (zl.trans (d.trans c)) h)) ((aT.mono<|zl.trans (d.trans c)).weak (fun _ _ h=>qr (zl.trans (d.trans c)) h)) (aU.mono<|zl.trans (d.trans c)) (aJ.mono<|zl.trans (d.trans c)) ((aq.mono<|zl.trans (d.trans c)).weak (fun _ _ h=>vL (zl.trans (d.trans c)) h)) (aV.mono<|zl.trans (d.trans c)) ((aW.mono<|zl.trans (d.trans c)).weak (fun _ _ h=>qs (zl.trans (d.trans c)) h)) (aX.mono<|zl.trans (d.trans c)) ((aK.mono<|zl.trans (d.trans c)).weak (fun _ _ h=>qY (zl.trans (d.trans c)) h)) ho)<|fun _ _ h'=>⟨h'.1,trivial,h'.2⟩) fun _=>Lg 19 U (w7 mT)<|WD.call0 (i:=17) (dd:=158) U (by kernel_rfl) U (.inl ⟨U,(wS.wk (.cons (.there<|.there<|.there .h7) .nil)<|.stb (.cons U<|.cons U .nil) .nil)⟩) (Eh call179) (.s2 .h1 .h1) (uT hz (.s2 .h1 .h1) .h1 (.cons .here .nil) fun w pz ho la=>Calls.mono (oF _ _ _ _ _ _ _ _ _ _ _ _ _ _ _ _ _ _ _ _ _ _ _ _ _ _ _ _ _ c5 pz ((((aS.mono<|zl.trans (d.trans c)).weak (fun _ _ h=>qn (zl.trans (d.trans c)) h)).mono zl).weak (fun _ _ h=>qn zl h)) ((((aT.mono<|zl.trans (d.trans c)).weak (fun _ _ h=>qr (zl.trans (d.trans c)) h)).mono zl).weak (fun _ _ h=>qr zl h)) ((aU.mono<|zl.trans (d.trans c)).mono zl) ((aJ.mono<|zl.trans (d.trans c)).mono zl) ((((aq.mono<|zl.trans (d.trans c)).weak (fun _ _ h=>vL (zl.trans (d.trans c)) h)).mono zl).weak (fun _ _ h=>vL zl h)) ((aV.mono<|zl.trans (d.trans c)).mono zl) ((((aW.mono<|zl.trans (d.trans c)).weak (fun _ _ h=>qs (zl.trans (d.trans c)) h)).mono zl).weak (fun _ _ h=>qs zl h)) ((aX.mono<|zl.trans (d.trans c)).mono zl) ((((aK.mono<|zl.trans (d.trans c)).weak (fun _ _ h=>qY (zl.trans (d.trans c)) h)).mono zl).weak (fun _ _ h=>qY zl h)) ((la _ (.head _) _).stb) ho)<|fun _ _ h'=>⟨h'.1,trivial,h'.2⟩) ?_)
        intro _
        refine WD.call0 (i:=18) (dd:=159) U (by kernel_rfl) U (.inl ⟨U,(wS.wk (.cons (.there<|.there<|.there .h7) .nil)<|.stb (.cons U<|.cons U .nil) .nil)⟩) (Eh call176) (.s3 .h2 .here .here) (qB hz (.s3 .h2 .here .here) .here fun w pz ho=>Calls.mono (l8 _ _ _ _ _ _ _ _ _ _ _ _ _ _ _ _ _ _ _ _ _ _ _ _ _ _ _ _ _ _ c6 pz ((aS.mono<|zl.trans (d.trans c)).weak (fun _ _ h=>qn (zl.trans (d.trans c)) h)) ((aT.mono<|zl.trans (d.trans c)).weak (fun _ _ h=>qr (zl.trans (d.trans c)) h)) (aU.mono<|zl.trans (d.trans c)) (aJ.mono<|zl.trans (d.trans c)) ((aq.mono<|zl.trans (d.trans c)).weak (fun _ _ h=>vL (zl.trans (d.trans c)) h)) (aV.mono<|zl.trans (d.trans c)) ((aW.mono<|zl.trans (d.trans c)).weak (fun _ _ h=>qs (zl.trans (d.trans c)) h)) (aX.mono<|zl.trans (d.trans c)) ((aK.mono<|zl.trans (d.trans c)).weak (fun _ _ h=>qY (zl.trans (d.trans c)) h)) ho)<|fun _ _ h'=>⟨h'.1,trivial,h'.2⟩) fun _=>Dd (i:=20) U (by kernel_rfl) U U U (wS.wk (.cons .here .nil)<|.stb (.cons U<|.cons U .nil) .nil) (vg (ds:=[vi bF.1.fN,vi bF.1.fD,vi av,vi aw]) z1t (.there<|.there<|.there .h7))<|Lg 21 U (w7 tN)<|Nb (i:=22) U (by kernel_rfl) (by kernel_rfl) (vg (ds:=[vi bF.1.fN,vi bF.1.fD,vi bN.1.fN,vi bN.1.fD]) z1t .here)<|Eo (by kernel_rfl)<|Ld<|cK h fun c7 h=>D2q U<|Lf 164 wz<|Lf 165 (w7 tM)<|Lf 166 (w7 pU)<|Lf 167 (Ei zjX .h1)<|La U<|L0 (dd:=169) (Z:=(Z++V)) (Pr:=(fa (Z++V))) znO ((aq.mono<|zl.trans (d.trans c)).weak (fun _ _ h=>vL (zl.trans (d.trans c)) h)) c7 ?_
        rintro dY dZ c8 d0 ⟨d1,d2,rfl,d3⟩
        exact Lf 170 (w7 pW)<|Lf 171 (w8 wm U<|wP (hz.pv2 .h4) c8)<|Lf 172 lT<|La U<|WL.nil<|Lq<|Ld<|D2q U<|WL.nil<|Em ⟨dA,(max aP<|(nth a.ya<|nth (ww B f []) ap).yQ),i64 (ap+1),bN.2,bF.1.fN,bF.1.fD,bN.1.fN,bN.1.fD⟩ h (Nat.lt_succ_self _) .q<|.s11 .h4 .h4 .h4 .h4 .h1 .h3 .h3 .h3 .here .here .here
       ·exact En<|Ln<|Ln<|Lu<|D7 (fun _ h=>Hp.Qd bT ca (.s2 .h3 .h6) h)<|Lp ⟨aP,a6,aQ,aR,av,aw⟩ h .q<|.s10 .h1 .h1 .h1 .h1 .h1 .h1 .here .here .here .here
      ·rintro bE a5 ab ad ae af h
       replace h:=(c2 bE a5 ab ad ae af).symm.trans h
       refine bK h fun ax c9 h=>cK h fun da h=>cK h fun db h=>Lv (fun i=>[17].contains i) []<|Lg 0 U q_m<|Li 1 U (we z6d (wh .h7))<|Lg 2 U q_m<|L5 3 U (Eh call133) (qB hz .nil .here fun w pz ho=>uZ _ _ _ c9 pz )<|Lg 4 U q_m<|Lg 5 U wz<|Lg 6 U (w7 tM)<|Lg 7 U (w7 pV)<|Li 8 U (Ei zjY .h3)<|Lg 9 U q_m<|L8 (j:=10) (dd:=184) (by kernel_rfl) z2W z2X (Z:=(Z++V)) (Pr:=(rq m7)) znN (aJ.mono<|zl.trans (d.trans c)) da ?_
       rintro d4 d5 dc d6 rfl
       refine Lg 11 U (w7 lF)<|Li 12 U (w8 wm U<|wP (hz.pv2 .here) dc)<|Lg 13 U (wN (v:=(.agg #[vi 1,(vi<|(nth a.fK f).yD)])) (Lt (l:=[.const (vi 1),.tmp 186]) (.r2 U U) [0,1]) (fun _=>by kernel_rfl))<|Lg 14 U (wN (v:=(.agg #[vi ax.fN,vi ax.fD,vi 1,(vi<|(nth a.fK f).yD)])) (Lt (l:=[.tmp 177,.tmp 187]) (.r2 U U) [0,1]) (fun _=>by kernel_rfl)) (WD.new (i:=15) (dd:=189) U (by kernel_rfl) U (wD (cs:=([(⟨(⟨ab,ad⟩:z1),(⟨ae,af⟩:z1)⟩:zb),(⟨ax,(⟨1,(nth a.fK f).yD⟩:z1)⟩:zb)]:List zb).flatMap qo) zeq (Lt (l:=[.tmp 175,.tmp 188]) (.r2 U U) [0,1]) (fun _=>by kernel_rfl) (by unfold maxLen;omega)) (fun h'=>absurd h' (by decide)) fun ch _=>WD.freezeS (ls:=([(⟨(⟨ab,ad⟩:z1),(⟨ae,af⟩:z1)⟩:zb),(⟨ax,(⟨1,(nth a.fK f).yD⟩:z1)⟩:zb)]:List zb)) .here .here hz (RR.flat (enc:=qo) (fun _=>U) _) ?_)
       intro bW cb de
       let A:List Value:=[vs (some ⟨ch,0,none⟩) (([(⟨(⟨ab,ad⟩:z1),(⟨ae,af⟩:z1)⟩:zb),(⟨ax,(⟨1,(nth a.fK f).yD⟩:z1)⟩:zb)]:List zb).length) 2];have cc:RR 1 (qZ (Z++bW)) A ([([(⟨(⟨ab,ad⟩:z1),(⟨ae,af⟩:z1)⟩:zb),(⟨ax,(⟨1,(nth a.fK f).yD⟩:z1)⟩:zb)]:List zb)]:List (List zb)):=(RR.cons (r:=A) U (show qZ _ _ _ from⟨_,_,U,de⟩) (RR.nil _ _))
       refine WD.new (i:=16) (dd:=190) U (by kernel_rfl) U (wD (cs:=[vs (some ⟨ch,0,none⟩) (([(⟨(⟨ab,ad⟩:z1),(⟨ae,af⟩:z1)⟩:zb),(⟨ax,(⟨1,(nth a.fK f).yD⟩:z1)⟩:zb)]:List zb).length) 2]) zgX (Lt (l:=[.tmp 189]) (.cons U .nil) [0]) (fun _=>by kernel_rfl) (by unfold maxLen;omega)) (fun h'=>absurd h' (by decide)) ?_
       intro d7 _
       have dg:RR 1 (qZ (Z++bW)) (ak++A) (aa++([([(⟨(⟨ab,ad⟩:z1),(⟨ae,af⟩:z1)⟩:zb),(⟨ax,(⟨1,(nth a.fK f).yD⟩:z1)⟩:zb)]:List zb)]:List (List zb))):=RR.app (bZ.weak (fun _ _ h=>kT cb h)) cc
       refine WD.old (i:=17) (dd:=191) U (by kernel_rfl) U (fun _=>(wS.of .nil)) (uq (l1:=aa) (l2:=([([(⟨(⟨ab,ad⟩:z1),(⟨ae,af⟩:z1)⟩:zb),(⟨ax,(⟨1,(nth a.fK f).yD⟩:z1)⟩:zb)]:List zb)]:List (List zb))) (news:=A) (Pr:=(qZ (Z++bW))) zgX .h3 cc (wY .here) (uv si) db) ?_
       rintro⟨dh,di⟩ _
       exact Lg 18 U q_z<|Eo (by kernel_rfl)<|Lq<|Lp ⟨aa++([([(⟨(⟨ab,ad⟩:z1),(⟨ae,af⟩:z1)⟩:zb),(⟨ax,(⟨1,(nth a.fK f).yD⟩:z1)⟩:zb)]:List zb)]:List (List zb)),a5,bW,dh,di,ak++A⟩ ⟨h,cb,dg⟩ .q<|.s9 .h2 .h2 .here .h1 .h1 .h1 .h1 .h2 .h2
    ·rintro aI a3 a4 bB bC bD ⟨h,dj,dk⟩
     replace h:=(cW aI a3).symm.trans h
     exact D2q U<|WL.nil<|Em ⟨dv,aI,i64 (f+1),a3,a4,bB,bC,bD⟩ ⟨h,c.trans dj,dk⟩ (Nat.lt_succ_self _) .q<|.a9
   ·exact En<|Ln<|Ln<|Lu<|Lp ⟨aa,aE,V,aG,aH,ak⟩ ⟨h,c,bZ⟩ .q<|.s6 .here .here .here .here .h3 .h3
  ·rintro au bz aD bH bI aO ⟨h,dl,b0⟩
   replace h:=(cU au bz).symm.trans h
   refine Lb<|cK h fun dm h=>D1q U<|La U ?_
   have dn:RR 1 (qZ (Z++aD)) (ai++aO) (al++au):=RR.app (cT.weak (fun _ _ h=>kT dl h)) b0
   refine WL.fA 195 (uq (l1:=al) (l2:=au) (news:=aO) (Pr:=(qZ (Z++aD))) zgX .h1 b0 (wY .h2) (RR.oc b0<|fun _ _ h=>Mp h) dm) ?_
   rintro⟨dp,dq⟩ _
   exact La U<|La U<|La U<|WL.nil<|Ld<|El<|oJ h▸Lk results132 (.tmp U<|.tmp U .nil) fun w hw=>⟨aD,dp,dq,ai++aO,qq,dn,hw.sub (.s5 .h1 .here .h1 .h1 .h1)⟩
def pE(a:z1):Option Bool:=
 (qP a).bind fun b=>some (b&&(decide (a.fN>=0)))
theorem dC(Z a r)(h:pE a=some r){Ek}(hz:PZ [] Ek Z):
  RC 243 #[.agg #[vi a.fN,vi a.fD]] Ek (.bool r) [] []:=by
 unfold pE at h
 refine L3 func243 U U<|Lb<|Le (Lh 1 (wu (cs:=[vi a.fN,vi a.fD])) fun e _=>Q1n U<|Lb ?_)
 refine bK h fun d b h=>Le<|Lf 3 (we zm (wh .here))<|Eg call188 hz (je _ _ _ b)<|La U<|Lx true 3 5 (B:=d&&(decide (a.fN>=0))) (fun h=>(qd h).symm) (fun _ c=>?_) ?_
 ·exact Lf 6 (w7 jv)<|Lf 7 (Ei wm .here)<|Q2q U<|Ly (qe c) U .all
 exact Q1n U<|El<|oJ h▸Ea results243
def p9(a:zb):Option Bool:=
 (pE a.yg).bind fun b=>(if !b then some true else(pE a.fR).bind fun c=>some (!c)).bind fun d=>some d
theorem V5(Z a r)(h:p9 a=some r){Ek}(hz:PZ [] Ek Z):
  RC 260 #[.agg #[vi a.yg.fN,vi a.yg.fD,vi a.fR.fN,vi a.fR.fD]] Ek (.bool r) [] []:=by
 unfold p9 at h
 refine L3 func260 U U<|Lb<|Le (Lh 1 (wu (cs:=[vi a.yg.fN,vi a.yg.fD,vi a.fR.fN,vi a.fR.fD])) fun i _=>Q1n U<|Lb ?_)
 refine bK h fun j d h=>bK h fun g c h=>Le<|Lf 3 (w7 mT)<|Lf 4 (wX (cs:=[vi a.yg.fN,vi a.yg.fD]) zm<|qW (s:=2) .here U)<|Eg call243 hz (dC _ _ _ d)<|Q2q U<|Lx false 4 7 (B:=g) (fun h=>(oJ<|qf c h).symm) (fun _ e=>?_) ?_
 ·have b:=qg c e
  obtain⟨k,f,b⟩:=z2 b
  replace b:=oJ b
  exact Lf 8 (w7 tN)<|Lf 9 (wX (cs:=[vi a.fR.fN,vi a.fR.fD]) zm<|qW (s:=2) .here U)<|Eg call243 hz (dC _ _ _ f)<|Q2q U<|Ly b U .all
 exact Q1n U<|El<|oJ h▸Ea results260
def vQ(b:List zb)(zfH:zb->Option Bool)(c:Option Unit):Nat->Int->Option Unit
 | 0,_=>none
 | d+1,a=>if decide (a<b.length) then chk (0<=a/\a<b.length) ((zfH (⟨(⟨((nth b a).yg).fN,((nth b a).yg).fD⟩:z1),(⟨((nth b a).fR).fN,((nth b a).fR).fD⟩:z1)⟩:zb)).bind fun e=>if e then none else vQ b zfH c d (i64 (a+1))) else c
def kf(a:List zb)(zfH:zb->Option Bool):Option Unit:=
 uo (some ()) fun b=>vQ a zfH b wr 0
theorem rp(Z d g zss zDx b zfH r)(h:kf b zfH=some r){Ek}(hz:PZ [] Ek Z)(j:ZS Z 4 (rq qo) d g b)(k:∀ args w,(callFunc zss args).run Tryz.prog w = .ok (.enter zss args) w)(m:∀ w:World,PZ [] w Z->∀(x0:zb) (r:Bool),zfH x0=some r->Calls Tryz.prog zss (([.agg #[vi x0.yg.fN,vi x0.yg.fD,vi x0.fR.fN,vi x0.fR.fD]]:List Value)++zDx).toArray w fun e w'=>e = .returned (.bool r)/\Hp [] w w' []):
  RC 270 #[vs d b.length g,.func (.func zss) #[] (zDx).toArray] Ek (vi (-1)) [] []:=by
 unfold kf at h
 refine Lz func270 U U<|B1n U<|jK0 h fun i n h=>Nh (i=some r) ([]) ([]) ?_ ?_
 ·refine B1q U<|Lf 7 (wB underlying338)<|Q1n U<|WC.block<|Ni (fun c a=>(vQ b zfH i c a=some r)) (fun c a=>[(0,vs d b.length g),(1,.func (.func zss) #[] (zDx).toArray),(7,vi (b.length:Int)),(8,vi a)]) (fun c a=>[]) (fun c a=>c) ⟨wr,0⟩ h .q .nil ?_
  rintro(_|u) a h;·cases h
  rw[vQ] at h
  refine B1n U<|Lb<|Lj h (fun o h=>?_)<|fun o h=>?_
  ·refine Ec<|Lb<|WC.block<|B2n U<|Lb<|cK h fun p h=>bK h fun v q h=>D3q U<|L0 (dd:=14) (Z:=Z) (Pr:=(rq qo)) zeq j p ?_
   rintro x y s z rfl
   refine Lf 15 (we z6d (vy hz.pv s))<|Lm 16 (wV (l:=[.tmp 15]) (f:=zss) (caps:=zDx) k<|.cons U .nil) .nil (fun w hw=>m w (hz.now hw) (⟨(⟨((nth b a).yg).fN,((nth b a).yg).fD⟩:z1),(⟨((nth b a).fR).fN,((nth b a).fR).fD⟩:z1)⟩:zb) v  q)<|Q0n<|Lj h (fun t h=>?_)<|fun t h=>?_
   ·cases h
   ·exact Ep<|Lq<|Ld<|D2q U<|WL.nil<|Em ⟨u,i64 (a+1)⟩ h (Nat.lt_succ_self _) .q .nil
  ·exact En<|Ln<|Ln<|Lu<|Lp () h .nil .nil
 ·rintro  h
  replace h:=n.symm.trans h
  refine B1n U<|El ?_
  skip
  exact Lk results270 (.tmp U .nil)<|fun w hw=>⟨wx,hw.sub .nil⟩
def qD(a:List zb)(zst:zb->Option Bool):Option Unit:=
 (kf a zst).bind fun b=>some ()
theorem gX(Z b c zsu zDz a zst r)(h:qD a zst=some r){Ek}(hz:PZ [] Ek Z)(d:ZS Z 4 (rq qo) b c a)(f:∀ args w,(callFunc zsu args).run Tryz.prog w = .ok (.enter zsu args) w)(g:∀ w:World,PZ [] w Z->∀(x0:zb) (r:Bool),zst x0=some r->Calls Tryz.prog zsu (([.agg #[vi x0.yg.fN,vi x0.yg.fD,vi x0.fR.fN,vi x0.fR.fD]]:List Value)++zDz).toArray w fun e w'=>e = .returned (.bool r)/\Hp [] w w' []):
  RC 259 #[vs b a.length c,.func (.func zsu) #[] (zDz).toArray] Ek (.bool false) [] []:=by
 unfold qD at h
 refine Lz func259 U U<|B1n U<|Lb<|bK h fun j i h=>D2q U<|Eg call270 hz (fun pz=>rp _ _ _ (zss:=zsu) (zDx:=zDz) _ (zfH:=zst) _ i pz d f g)<|Lf 8 tZ<|Q1n U<|El ?_
 skip
 exact Lk results259 (.tmp U .nil)<|fun w hw=>⟨wx,hw.sub .nil⟩
def t6(a:List zb):Option Bool:=
 (if (decide ((a.length:Int)>=1))&&(decide ((a.length:Int)<=32)) then(qD a (fun y0=>p9 y0)).bind fun c=>some true else some false).bind fun b=>some b
theorem oZ(Z c d a r)(h:t6 a=some r){Ek}(hz:PZ [] Ek Z)(f:ZS Z 4 (rq qo) c d a):
  RC 242 #[vs c a.length d] Ek (.bool r) [] []:=by
 unfold t6 at h
 refine L3 func242 U U<|B1n U<|Lb<|bK h fun k e h=>D1q U<|Lf 4 (wB underlying338)<|Q2q U<|Lx true 3 6 (B:=(decide ((a.length:Int)>=1))&&(decide ((a.length:Int)<=32))) (fun h=>(qd h).symm) (fun _ g=>?_) ?_
 ·exact La U<|Lf 8 (wB underlying338)<|Q2q U<|Ly (qe g) U .all
 refine La U<|Lx true 3 11 (B:=k) (fun h=>(oJ<|qg e h).symm) (fun _ i=>?_) ?_
 ·have b:=qf e i
  obtain⟨l,j,b⟩:=z2 b
  replace b:=oJ b
  exact La U<|Eg call259 hz (fun pz=>gX _ _ _ (zsu:=260) (zDz:=[]) _ (zst:=(fun y0=>p9 y0)) _ j pz f call260<|fun w' nd y0  r  hr=>V5 _ _ _ hr nd)<|Lf 14 th<|La U<|Ly b U .all
 exact Q1n U<|El<|oJ h▸Ea results242
def f5(b:List zb):Option Bool:=
 (t6 b).bind fun a=>some (!a)
theorem bL(Z b c a r)(h:f5 a=some r){Ek}(hz:PZ [] Ek Z)(d:ZS Z 4 (rq qo) b c a):
  RC 247 #[vs b a.length c] Ek (.bool r) [] []:=by
 unfold f5 at h
 exact L3 func247 U U<|B1n U<|Lb<|bK h fun f e h=>D1q U<|Eg call242 hz (fun pz=>oZ _ _ _ _ _ e pz d)<|Q2n U<|El<|oJ h▸Ea results247
def vW(b:List (List zb))(zfI:(List zb)->Option Bool)(c:Option Unit):Nat->Int->Option Unit
 | 0,_=>none
 | d+1,a=>if decide (a<b.length) then chk (0<=a/\a<b.length) ((zfI (nth b a)).bind fun e=>if e then none else vW b zfI c d (i64 (a+1))) else c
def kz(a:List (List zb))(zfI:(List zb)->Option Bool):Option Unit:=
 uo (some ()) fun b=>vW a zfI b wr 0
theorem rN(Z d g zsv zDC b zfI r)(h:kz b zfI=some r){Ek}(hz:PZ [] Ek Z)(j:ZS Z 1 (qZ Z) d g b)(k:∀ args w,(callFunc zsv args).run Tryz.prog w = .ok (.enter zsv args) w)(m:∀ w:World,PZ [] w Z->∀(x0:List zb) (nD:Option Addr) (nb:Nat) (r:Bool),ZS Z 4 (rq qo) nD nb x0->zfI x0=some r->Calls Tryz.prog zsv (([vs nD x0.length nb]:List Value)++zDC).toArray w fun e w'=>e = .returned (.bool r)/\Hp [] w w' []):
  RC 262 #[vs d b.length g,.func (.func zsv) #[] (zDC).toArray] Ek (vi (-1)) [] []:=by
 unfold kz at h
 refine Lz func262 U U<|B1n U<|jK0 h fun i n h=>Nh (i=some r) ([]) ([]) ?_ ?_
 ·refine B1q U<|Lf 7 (wB underlying272)<|Q1n U<|WC.block<|Ni (fun c a=>(vW b zfI i c a=some r)) (fun c a=>[(0,vs d b.length g),(1,.func (.func zsv) #[] (zDC).toArray),(7,vi (b.length:Int)),(8,vi a)]) (fun c a=>[]) (fun c a=>c) ⟨wr,0⟩ h .q .nil ?_
  rintro(_|y) a h;·cases h
  rw[vW] at h
  refine B1n U<|Lb<|Lj h (fun o h=>?_)<|fun o h=>?_
  ·refine Ec<|Lb<|WC.block<|B2n U<|Lb<|cK h fun p h=>bK h fun z q h=>D3q U<|L0 (dd:=14) (Z:=Z) (Pr:=(qZ Z)) zgX j p ?_
   rintro A B s C ⟨t,u,rfl,v⟩
   refine Lf 15 (w8 zrJ U<|vx hz.pv s)<|Lm 16 (wV (l:=[.tmp 15]) (f:=zsv) (caps:=zDC) k<|.cons U .nil) .nil (fun w hw=>m w (hz.now hw) (nth b a) t u z v q)<|Q0n<|Lj h (fun x h=>?_)<|fun x h=>?_
   ·cases h
   ·exact Ep<|Lq<|Ld<|D2q U<|WL.nil<|Em ⟨y,i64 (a+1)⟩ h (Nat.lt_succ_self _) .q .nil
  ·exact En<|Ln<|Ln<|Lu<|Lp () h .nil .nil
 ·rintro  h
  replace h:=n.symm.trans h
  refine B1n U<|El ?_
  skip
  exact Lk results262 (.tmp U .nil)<|fun w hw=>⟨wx,hw.sub .nil⟩
def jH(a:List (List zb))(zwO:(List zb)->Option Bool):Option Unit:=
 (kz a zwO).bind fun b=>some ()
theorem sP(Z b c zwP zIX a zwO r)(h:jH a zwO=some r){Ek}(hz:PZ [] Ek Z)(d:ZS Z 1 (qZ Z) b c a)(f:∀ args w,(callFunc zwP args).run Tryz.prog w = .ok (.enter zwP args) w)(g:∀ w:World,PZ [] w Z->∀(x0:List zb) (nD:Option Addr) (nb:Nat) (r:Bool),ZS Z 4 (rq qo) nD nb x0->zwO x0=some r->Calls Tryz.prog zwP (([vs nD x0.length nb]:List Value)++zIX).toArray w fun e w'=>e = .returned (.bool r)/\Hp [] w w' []):
  RC 246 #[vs b a.length c,.func (.func zwP) #[] (zIX).toArray] Ek (.bool false) [] []:=by
 unfold jH at h
 refine Lz func246 U U<|B1n U<|Lb<|bK h fun j i h=>D2q U<|Eg call262 hz (fun pz=>rN _ _ _ (zsv:=zwP) (zDC:=zIX) _ (zfI:=zwO) _ i pz d f g)<|Lf 8 tZ<|Q1n U<|El ?_
 skip
 exact Lk results246 (.tmp U .nil)<|fun w hw=>⟨wx,hw.sub .nil⟩
def l9(a:yy):Option Bool:=
 (qP a.fR).bind fun c=>(if c&&(decide (a.fR.fN>0)) then(qP a.fL).bind fun b=>some b else some false).bind fun d=>some (d&&(decide (a.fL.fN>=0)))
theorem Wl(Z a r)(h:l9 a=some r){Ek}(hz:PZ [] Ek Z):
  RC 248 #[.agg #[vi a.fR.fN,vi a.fR.fD,vi a.fL.fN,vi a.fL.fD]] Ek (.bool r) [] []:=by
 unfold l9 at h
 refine L3 func248 U U<|Lb<|Le (Lh 1 (wu (cs:=[vi a.fR.fN,vi a.fR.fD,vi a.fL.fN,vi a.fL.fD])) fun l _=>Q1n U<|Lb ?_)
 refine bK h fun k e h=>bK h fun d c h=>Le<|Lf 3 (w7 aK)<|Lf 4 (wX (cs:=[vi a.fR.fN,vi a.fR.fD]) zm<|qW (s:=2) .here U)<|Eg call188 hz (je _ _ _ e)<|La U<|Lx true 4 6 (B:=k&&(decide (a.fR.fN>0))) (fun h=>(qd h).symm) (fun _ f=>?_) ?_
 ·exact Lf 7 (w7 aK)<|Lf 8 (w7 jv)<|Lf 9 (Ei wm .here)<|Q2q U<|Ly (qe f) U .all
 refine La U<|Lx true 3 12 (B:=d) (fun h=>(oJ<|qg c h).symm) (fun _ g=>?_) ?_
 ·have b:=qf c g
  obtain⟨m,i,b⟩:=z2 b
  replace b:=oJ b
  exact Lf 13 (w7 dp)<|Lf 14 (wX (cs:=[vi a.fL.fN,vi a.fL.fD]) zm<|qW (s:=2) .here U)<|Eg call188 hz (je _ _ _ i)<|La U<|Ly b U .all
 refine La U<|Lx true 4 17 (B:=d&&(decide (a.fL.fN>=0))) (fun h=>(qd h).symm) (fun _ j=>?_) ?_
 ·exact Lf 18 (w7 dp)<|Lf 19 (w7 jv)<|Lf 20 (Ei wm .here)<|Q2q U<|Ly (qe j) U .all
 exact Q1n U<|El<|oJ h▸Ea results248
def jZ(a:Int):Option z1:=
 some (⟨a,1⟩:z1)
theorem gO(Z a r)(h:jZ a=some r){Ek}(hz:PZ [] Ek Z):
  RC 241 #[vi a] Ek (.agg #[vi r.fN,vi r.fD]) [] []:=by
 unfold jZ at h
 refine L3 func241 U U<|Lb<|Le (Lh 2 (wn (cs:=[vi 0,vi 0]) z20) fun b _=>Q0n<|B1q U<|Lf 4 (wN (v:=(.agg #[vi a,vi 1])) (Lt (l:=[.tmp 3,.const (vi 1)]) (.r2 U U) [0,1]) (fun _=>by kernel_rfl))<|Ll (wl z1t .here)<|Q0n<|El ?_)
 exact oJ h▸Eb results241 (.agg U zm U (wh .here) .nil) .nil
def kE  : Option z1:=
 (jZ 0).bind fun a=>some a
theorem fh(Z r)(h:kE=some r){Ek}(hz:PZ [] Ek Z):
  RC 215 #[] Ek (.agg #[vi r.fN,vi r.fD]) [] []:=by
 unfold kE at h
 refine Ns func215 U U<|Lb<|Le (Lh 0 (wn (cs:=[vi 0,vi 0]) z20) fun b _=>Q0n<|Lb ?_)
 exact bK h fun c a h=>Le<|Eg call241 hz (gO _ _ _ a)<|Ll (wl z1t .here)<|Q0n<|El<|oJ h▸Eb results215 (.agg U zm U (wh .here) .nil) .nil
def qj(b:List zb)(c:zb)(d:Option Unit):Nat->Int->Option Unit
 | 0,_=>none
 | e+1,a=>if decide (a<b.length) then chk (0<=a/\a<b.length) (if decide (c=(⟨(⟨((nth b a).yg).fN,((nth b a).yg).fD⟩:z1),(⟨((nth b a).fR).fN,((nth b a).fR).fD⟩:z1)⟩:zb)) then none else qj b c d e (i64 (a+1))) else d
def g7(a:List zb)(b:zb):Option Unit:=
 uo (some ()) fun c=>qj a b c wr 0
theorem o9(Z g i e c r)(h:g7 e c=some r){Ek}(hz:PZ [] Ek Z)(m:ZS Z 4 (rq qo) g i e):
  RC 278 #[vs g e.length i,.agg #[vi c.yg.fN,vi c.yg.fD,vi c.fR.fN,vi c.fR.fD]] Ek (vi (-1)) [] []:=by
 unfold g7 at h
 refine Lz func278 U U ?_
 let A:List Value:=[vi c.yg.fN,vi c.yg.fD,vi c.fR.fN,vi c.fR.fD];refine B0q<|Lh 3 (wu (cs:=A)) ?_
 intro k _
 refine Q1n U<|jK0 h fun l n h=>Nh (l=some r) ([]) ([]) ?_ ?_
 ·refine B1q U<|Lf 7 (wB underlying338)<|Q1n U<|WC.block<|Ni (fun f d=>(qj e c l f d=some r)) (fun f d=>[(0,vs g e.length i),(3,vp k),(7,vi (e.length:Int)),(8,vi d)]) (fun f d=>[stb k 336 A]) (fun f d=>f) ⟨wr,0⟩ h .q (.cons .here .nil) ?_
  rintro(_|t) d h;·cases h
  rw[qj] at h
  refine B1n U<|Lb<|Lj h (fun o h=>?_)<|fun o h=>?_
  ·refine Ec<|Lb<|WC.block<|B2n U<|Lb<|cK h fun p h=>Lv nc []<|Li 0 U (we z6d (wh .here))<|Lg 1 U q_m<|Lg 2 U q_m<|L8 (j:=3) (dd:=14) (by kernel_rfl) z2W z2X (Z:=Z) (Pr:=(rq qo)) zeq m p ?_
   rintro u v q x rfl
   refine Li 4 U (we z6d (vy hz.pv q))<|Lg 5 U (dc (enc:=qo) (a:=c) (b:=(⟨(⟨((nth e d).yg).fN,((nth e d).yg).fD⟩:z1),(⟨((nth e d).fR).fN,((nth e d).fR).fD⟩:z1)⟩:zb)) zZ8)<|Eo (by kernel_rfl)<|Ld<|Lj h (fun s h=>?_)<|fun s h=>?_
   ·cases h
   ·exact Ep<|Lq<|Ld<|D2q U<|WL.nil<|Em ⟨t,i64 (d+1)⟩ h (Nat.lt_succ_self _) .q<|.cons .here .nil
  ·exact En<|Ln<|Ln<|Lu<|Lp () h .nil .nil
 ·rintro  h
  replace h:=n.symm.trans h
  refine B1n U<|El ?_
  skip
  exact Lk results278 (.tmp U .nil)<|fun w hw=>⟨wx,hw.sub .nil⟩
def kB(a:List zb)(b:zb):Option Unit:=
 (g7 a b).bind fun c=>some ()
theorem rO(Z c d b a r)(h:kB b a=some r){Ek}(hz:PZ [] Ek Z)(e:ZS Z 4 (rq qo) c d b):
  RC 271 #[vs c b.length d,.agg #[vi a.yg.fN,vi a.yg.fD,vi a.fR.fN,vi a.fR.fD]] Ek (.bool false) [] []:=by
 unfold kB at h
 refine Lz func271 U U<|Lb<|Le (Lh 3 (wu (cs:=[vi a.yg.fN,vi a.yg.fD,vi a.fR.fN,vi a.fR.fD])) fun g _=>Q1n U<|Lb ?_)
 refine bK h fun i f h=>D1q U<|Lf 6 (we z6d (wh .here))<|Eg call278 hz (fun pz=>o9 _ _ _ _ _ _ f pz e)<|Lf 8 tZ<|Q1n U<|El ?_
 skip
 exact Lk results271 (.tmp U .nil)<|fun w hw=>⟨wx,hw.sub .nil⟩
def kU(a:z1)(b:z1):Option Int:=
 (qP a).bind fun c=>(if !c then some true else(qP b).bind fun d=>some (!d)).bind fun e=>if e then none else if decide ((i64 (a.fN*b.fD))<(i64 (b.fN*a.fD))) then some (-1) else if decide ((i64 (a.fN*b.fD))>(i64 (b.fN*a.fD))) then some 1 else some 0
theorem ms(Z a b r)(h:kU a b=some r){Ek}(hz:PZ [] Ek Z):
  RC 187 #[.agg #[vi a.fN,vi a.fD],.agg #[vi b.fN,vi b.fD]] Ek (vi r) [] []:=by
 unfold kU at h
 refine Lz func187 U U<|Lb<|Le (Lh 2 (wu (cs:=[vi a.fN,vi a.fD])) fun m _=>Lh 3 (wu (cs:=[vi b.fN,vi b.fD])) fun n _=>Q1n U<|Lb<|Lb ?_)
 refine bK h fun o e h=>bK h fun l d h=>Le<|Lf 7 (we zm (wh .h1))<|Eg call188 hz (je _ _ _ e)<|Q2q U<|Lx false 3 10 (B:=l) (fun h=>(oJ<|qf d h).symm) (fun _ f=>?_) ?_
 ·have c:=qg d f
  obtain⟨p,g,c⟩:=z2 c
  replace c:=oJ c
  exact Lf 11 (we zm (wh .here))<|Eg call188 hz (je _ _ _ g)<|Q2q U<|Ly c U .all
 refine Q0n<|Lj h (fun i h=>?_)<|fun i h=>?_
 ·cases h
 ·refine Ec<|Lb<|Lb<|Lv nc []<|Lg 0 U (w7 jv)<|Li 1 U (Ei wm .h1)<|Lg 2 U (w7 ju)<|Li 3 U (Ei wm .here)<|Lg 4 U uM<|Lg 5 U (w7 jv)<|Li 6 U (Ei wm .here)<|Lg 7 U (w7 ju)<|Li 8 U (Ei wm .h1)<|Lg 9 U uM<|Lg 10 U q_z<|Lg 11 U q_z<|Eo (by kernel_rfl)<|Ld<|WC.block<|B4n U<|Lj h (fun j h=>?_)<|fun j h=>?_
  ·exact B1n U<|El<|Nc<|L4<|oJ h▸Ea results187
  ·refine B4n U<|Lj h (fun k h=>?_)<|fun k h=>?_
   ·exact B1n U<|El<|Nc<|L4<|oJ h▸Ea results187
   ·exact Ep<|Lq<|Ld<|B1n U<|El<|oJ h▸Ea results187
def oG(a:zb)(b:zb):Option Bool:=
 (if decide (a≠b) then(kU a.yg b.yg).bind fun c=>some (decide (c<=0)) else some false).bind fun e=>(if e then(kU a.fR b.fR).bind fun d=>some (decide (d<=0)) else some false).bind fun f=>some f
theorem XC(Z c d r)(h:oG c d=some r){Ek}(hz:PZ [] Ek Z):
  RC 273 #[.agg #[vi c.yg.fN,vi c.yg.fD,vi c.fR.fN,vi c.fR.fD],.agg #[vi d.yg.fN,vi d.yg.fD,vi d.fR.fN,vi d.fR.fD]] Ek (.bool r) [] []:=by
 unfold oG at h
 refine Lz func273 U U<|Lb<|Le (Lh 2 (wu (cs:=[vi c.yg.fN,vi c.yg.fD,vi c.fR.fN,vi c.fR.fD])) fun p _=>Lh 3 (wu (cs:=[vi d.yg.fN,vi d.yg.fD,vi d.fR.fN,vi d.fR.fD])) fun q _=>Q1n U<|Lb ?_)
 refine bK h fun n g h=>bK h fun o i h=>Le<|Lf 5 (we z6d (wh .h1))<|Lf 6 (we z6d (wh .here))<|Lf 7 (XZ (enc:=qo) (a:=c) (b:=d) zZ8 U U)<|La U<|Lx true 6 8 (B:=n) (fun h=>(oJ<|qg g h).symm) (fun _ j=>?_) ?_
 ·have e:=qf g j
  obtain⟨t,k,e⟩:=z2 e
  replace e:=oJ e
  exact Lf 9 (w7 mT)<|Lf 10 (wX (cs:=[vi c.yg.fN,vi c.yg.fD]) zm<|qW (s:=2) .h1 U)<|Lf 11 (w7 mT)<|Lf 12 (wX (cs:=[vi d.yg.fN,vi d.yg.fD]) zm<|qW (s:=2) .here U)<|Eg call187 hz (ms _ _ _ _ k)<|Q2q U<|Ly e U .all
 refine La U<|Lx true 6 16 (B:=o) (fun h=>(oJ<|qg i h).symm) (fun _ l=>?_) ?_
 ·have f:=qf i l
  obtain⟨u,m,f⟩:=z2 f
  replace f:=oJ f
  exact Lf 17 (w7 tN)<|Lf 18 (wX (cs:=[vi c.fR.fN,vi c.fR.fD]) zm<|qW (s:=2) .h1 U)<|Lf 19 (w7 tN)<|Lf 20 (wX (cs:=[vi d.fR.fN,vi d.fR.fD]) zm<|qW (s:=2) .here U)<|Eg call187 hz (ms _ _ _ _ m)<|Q2q U<|Ly f U .all
 exact Q1n U<|El<|oJ h▸Ea results273
def oa(b:zb)(c:zb):Option Bool:=
 (oG b c).bind fun a=>some a
theorem VR(Z c a b r)(h:oa a b=some r){Ek}(hz:PZ [] Ek Z)(d:ZC Z c [vi b.yg.fN,vi b.yg.fD,vi b.fR.fN,vi b.fR.fD]):
  RC 272 #[.agg #[vi a.yg.fN,vi a.yg.fD,vi a.fR.fN,vi a.fR.fD],vq c] Ek (.bool r) [] []:=by
 unfold oa at h
 refine Lz func272 U U<|Lb<|Le (Lh 2 (wu (cs:=[vi a.yg.fN,vi a.yg.fD,vi a.fR.fN,vi a.fR.fD])) fun f _=>Q1n U<|Lb ?_)
 exact bK h fun g e h=>Le<|Lf 4 (we z6d (wh .here))<|Lf 5 (we z6d (vy hz.pv d))<|Eg call273 hz (XC _ _ _ _ e)<|Q1n U<|El<|oJ h▸Ea results272
def ob(b:zb)(c:zb):Option Int:=
 (kU b.yg c.yg).bind fun a=>some a
theorem VS(Z a b r)(h:ob a b=some r){Ek}(hz:PZ [] Ek Z):
  RC 275 #[.agg #[vi a.yg.fN,vi a.yg.fD,vi a.fR.fN,vi a.fR.fD],.agg #[vi b.yg.fN,vi b.yg.fD,vi b.fR.fN,vi b.fR.fD]] Ek (vi r) [] []:=by
 unfold ob at h
 refine Lz func275 U U<|Lb<|Le (Lh 2 (wu (cs:=[vi a.yg.fN,vi a.yg.fD,vi a.fR.fN,vi a.fR.fD])) fun d _=>Lh 3 (wu (cs:=[vi b.yg.fN,vi b.yg.fD,vi b.fR.fN,vi b.fR.fD])) fun e _=>Q1n U<|Lb ?_)
 exact bK h fun f c h=>Le<|Lf 5 (w7 mT)<|Lf 6 (wX (cs:=[vi a.yg.fN,vi a.yg.fD]) zm<|qW (s:=2) .h1 U)<|Lf 7 (w7 mT)<|Lf 8 (wX (cs:=[vi b.yg.fN,vi b.yg.fD]) zm<|qW (s:=2) .here U)<|Eg call187 hz (ms _ _ _ _ c)<|Q1n U<|El<|oJ h▸Ea results275
theorem z1m3:∀ w,(isAgg (Tryz.kS.t 24)).run Tryz.prog w = .ok true w:=fun _=>by kernel_rfl
theorem z1m4:∀ w,(Go.sizeOf (Tryz.kS.t 24)).run Tryz.prog w = .ok 4 w:=fun _=>by kernel_rfl
def ub(zad:List zb)(zDK:Int)(zDL:Int)(zwR:Int)(zsx:zb->zb->Option Int):Option (List zb):=chk ((zDK=0/\zDL=(zad.length:Int))/\(0<=zwR/\zwR<4611686018427387904/\zad.length<4611686018427387904)) (chk (de zsx (jh zsx zad)=true) (some (jh zsx zad)))
theorem oH(Z zsy zsz zDM zRr zad zDK zDL zwR zsx r){Ek}(hz:Pz [row (vs zsy zad.length zsz) 336 4 (zad.flatMap qo)] Ek Z)(a:∀ args w,(callFunc zDM args).run Tryz.prog w = .ok (.enter zDM args) w)(b:∀ w:World,PZ [] w Z->∀(x0:zb) (x1:zb) (r:Int),zsx x0 x1=some r->Calls Tryz.prog zDM (([.agg #[vi x0.yg.fN,vi x0.yg.fD,vi x0.fR.fN,vi x0.fR.fD],.agg #[vi x1.yg.fN,vi x1.yg.fD,vi x1.fR.fN,vi x1.fR.fD]]:List Value)++zRr).toArray w fun e w'=>e = .returned (vi r)/\Hp [] w w' [])(h:ub zad zDK zDL zwR zsx=some r)(iA:Ho Ek [row (vs zsy zad.length zsz) 336 4 (zad.flatMap qo)]):
  Calls Tryz.prog 279 #[vs zsy zad.length zsz,vi zDK,vi zDL,vi zwR,.func (.func zDM) #[] (zRr).toArray] Ek fun e w'=>e = .returned (.tuple #[])/\(r.length=zad.length)/\Hp (fps [row (vs zsy zad.length zsz) 336 4 (zad.flatMap qo)]) Ek w' [row (vs zsy r.length zsz) 336 4 (r.flatMap qo)]:=by
 obtain⟨h0,h⟩:=wa h
 obtain⟨h1,h⟩:=wa h
 have hr:=(oJ h).symm
 exact cZ (P:=Tryz.prog) (f:=279) (e:=336) (k:=4) (enc:=qo) (fun _=>U) (by decide) Kk (fun β _ enc cf g cb hO wA off cap d0 w0 eg hC R=>Tryz.cn 4 z1m3 z1m4 enc cf g cb hO wA off cap d0 w0 eg hC R) (Tryz.iN (α:=Unit)) hz a b h0 h1 hr iA
def kC(a:List zb)(zwS:zb->zb->Option Int):Option (List zb):=
 (o0 (u64 (a.length:Int))).bind fun b=>(ub a 0 (a.length:Int) b zwS).bind fun c=>some c
theorem rP(Z b c zwT zJ1 a zwS r)(h:kC a zwS=some r){Ek}(hz:Pz [row (vs b a.length c) 336 4 (a.flatMap qo)] Ek Z)(j:∀ args w,(callFunc zwT args).run Tryz.prog w = .ok (.enter zwT args) w)(k:∀ w:World,PZ [] w Z->∀(x0:zb) (x1:zb) (r:Int),zwS x0 x1=some r->Calls Tryz.prog zwT (([.agg #[vi x0.yg.fN,vi x0.yg.fD,vi x0.fR.fN,vi x0.fR.fD],.agg #[vi x1.yg.fN,vi x1.yg.fD,vi x1.fR.fN,vi x1.fR.fD]]:List Value)++zJ1).toArray w fun e w'=>e = .returned (vi r)/\Hp [] w w' [])(iA:Ho Ek [row (vs b a.length c) 336 4 (a.flatMap qo)]):
  Calls Tryz.prog 274 #[vs b a.length c,.func (.func zwT) #[] (zJ1).toArray] Ek fun e w'=>e = .returned (.tuple #[])/\(r.length=a.length)/\Hp (fps [row (vs b a.length c) 336 4 (a.flatMap qo)]) Ek w' [row (vs b r.length c) 336 4 (r.flatMap qo)]:=by
 unfold kC at h
 refine Nk func274 U iA U<|B1q U<|Lf 6 (wB underlying338)<|Q1n U<|bK h fun f l h=>bK h fun g m h=>D3q U<|Lf 10 (vo underlying3 underlying226)<|Eg call93 hz (fun pz=>ik (Z:=_)  (zew:=(u64 (a.length:Int))) (r:=f) pz  l)<|La U<|Nu (dd:=13) U (Eh call279) (.cons .here .nil) (cc hz (.cons .here .nil) fun w pz ho=>oH (Z:=_) (zsy:=b) (zsz:=c) (zDM:=zwT) (zRr:=zJ1) (zad:=a) (zDK:=0) (zDL:=(a.length:Int)) (zwR:=f) (zsx:=zwS) (r:=g) pz j k m ho) ?_
 rintro  d
 exact Ew (i:=0) U (u:=(vs b g.length c)) (rJ d.symm)<|WL.nil<|oJ h▸Nj results274 .nil fun w hw=>⟨ui,d.trans U,hw.sub (.cons .here .nil)⟩
def tu(a:List zb)(d:(List zb)->Option (List zb)):Nat->(List zb)->Int->Option (List zb)
 | 0,_,_=>none
 | e+1,c,b=>if decide (b<a.length) then chk (0<=b/\b<a.length) ((kB c (⟨(⟨((nth a b).yg).fN,((nth a b).yg).fD⟩:z1),(⟨((nth a b).fR).fN,((nth a b).fR).fD⟩:z1)⟩:zb)).bind fun f=>(qD a (fun(y0:zb)=>oa y0 (⟨(⟨((nth a b).yg).fN,((nth a b).yg).fD⟩:z1),(⟨((nth a b).fR).fN,((nth a b).fR).fD⟩:z1)⟩:zb))).bind fun g=>chk ((((c++([(⟨(⟨((nth a b).yg).fN,((nth a b).yg).fD⟩:z1),(⟨((nth a b).fR).fN,((nth a b).fR).fD⟩:z1)⟩:zb)]:List zb)).length:Nat):Int)*32<=140737488355328/\(((c++([(⟨(⟨((nth a b).yg).fN,((nth a b).yg).fD⟩:z1),(⟨((nth a b).fR).fN,((nth a b).fR).fD⟩:z1)⟩:zb)]:List zb)).length:Nat):Int)<=4611686018427387904) (tu a d e (c++([(⟨(⟨((nth a b).yg).fN,((nth a b).yg).fD⟩:z1),(⟨((nth a b).fR).fN,((nth a b).fR).fD⟩:z1)⟩:zb)]:List zb)) (i64 (b+1)))) else d c
def dD(a:List zb):Option (List zb):=
 vC (fun(b:List zb)=>(kC b (fun y0 y1=>ob y0 y1)).bind fun c=>some c) fun d=>tu a d wr ([]:List zb) 0
theorem Jz(Z n o b r)(h:dD b=some r){Ek}(hz:PZ [] Ek Z)(p:ZS Z 4 (rq qo) n o b):
  Calls Tryz.prog 263 #[vs n b.length o] Ek fun e w'=>∃ q:Option Addr,∃ s:Nat,e = .returned (vs q r.length s)/\True/\Hp [] Ek w' [row (vs q r.length s) 336 4 (r.flatMap qo)]:=by
 unfold dD at h
 refine L3 func263 U U<|B1n U<|B1n U<|jK1 h fun t v h=>Nf (fun d f g=>(t d=some r)) (fun d f g=>[(3,vs f d.length g)]) (fun d f g=>[row (vs f d.length g) 336 4 (d.flatMap qo)]) ?_ ?_
 ·let A:Value:=(vs n b.length o);refine B1q U<|Lf 7 (wB underlying338)<|Q1n U<|WC.block<|WC.nilRow 336 4<|E6 (fun m c a j k=>(tu b t m c a=some r)) (fun m c a j k=>[(0,A),(3,vs j c.length k),(6,A),(7,vi (b.length:Int)),(8,vi a)]) (fun m c a j k=>[row (vs j c.length k) 336 4 (c.flatMap qo)]) (fun m c a j k=>m) ⟨wr,([]:List zb),0,none,0⟩ h .q (.cons .here .nil) ?_
  rintro(_|J) c a j k h;·cases h
  rw[tu] at h
  refine B1n U<|Lb<|Lj h (fun x h=>?_)<|fun x h=>?_
  ·refine Ec<|Lb<|WC.block<|Lb<|cK h fun y h=>Le<|L0 (dd:=10) (Z:=Z) (Pr:=(rq qo)) zeq p y ?_
   rintro L M z N rfl
   refine Lf 11 (we z6d (vy hz.pv z)) (Lh 5 (wn (cs:=[vi 0,vi 0,vi 0,vi 0]) zk0) fun B _=>Ll (wl zk1 .here)<|Q0n<|Lb ?_)
   refine bK h fun O C h=>bK h fun P D h=>D1q U<|Lf 13 (we z6d (wh .here))<|Lm 14 (Eh call271) .nil (kb hz .nil (.cons .h1 .nil) fun w pz ho la=>rO _ _ _ _ _ _ C pz<|ZA.row (la _ (.head _) _) (RR.flat (enc:=qo) (fun _=>U) _) ⟨w,pz.1⟩)<|Lf 15 th<|Q2q U<|Lf 18 (wO<|L6 (l:=[.tmp 5])<|.cons U .nil)<|Lm 19 (Eh call259) .nil (kb hz .nil (.cons .here .nil) fun w pz ho la=>gX _ _ _ (zsu:=272) (zDz:=[vp B]) _ (zst:=(fun(y0:zb)=>oa y0 (⟨(⟨((nth b a).yg).fN,((nth b a).yg).fD⟩:z1),(⟨((nth b a).fR).fN,((nth b a).fR).fD⟩:z1)⟩:zb))) _ D pz (p.mono<|zl) call272<|fun w' nd y0  r  hr=>VR _ _ _ _ _ hr nd<|(la _ (.head _) _).stb)<|Lf 20 th<|Q1n U<|Er (fun h'=>?_)<|fun h'=>(by cases h')
   clear h'
   refine cK h fun E h=>D1q U<|Lf 23 (we z6d (wh .here)) (Lh 24 (wD (cs:=([(⟨(⟨((nth b a).yg).fN,((nth b a).yg).fD⟩:z1),(⟨((nth b a).fR).fN,((nth b a).fR).fD⟩:z1)⟩:zb)]:List zb).flatMap qo) zeq (Lt (l:=[.tmp 23]) (.cons U .nil) [0]) (fun _=>by kernel_rfl) (by unfold maxLen;omega)) fun Q _=>WL.fA 25 (vb (enc:=qo) (l1:=c) (l2:=([(⟨(⟨((nth b a).yg).fN,((nth b a).yg).fD⟩:z1),(⟨((nth b a).fR).fN,((nth b a).fR).fD⟩:z1)⟩:zb)]:List zb)) zeq .h2 (fun _=>U) (wY .here) (vm Kk _) E) ?_)
   rintro⟨F,G⟩ _
   exact La U<|WL.nil<|Lq<|Ld<|D2q U<|WL.nil<|Em ⟨J,c++([(⟨(⟨((nth b a).yg).fN,((nth b a).yg).fD⟩:z1),(⟨((nth b a).fR).fN,((nth b a).fR).fD⟩:z1)⟩:zb)]:List zb),i64 (a+1),F,G⟩ h (Nat.lt_succ_self _) .q<|.cons .here .nil
  ·exact En<|Ln<|Ln<|Lu<|Lp ⟨c,j,k⟩ h (.cons U .nil)<|.cons .here .nil
 ·rintro d f g h
  replace h:=(v d).symm.trans h
  refine Lb<|bK h fun K H h=>D1q U<|Nu (dd:=28) U (Eh call274) (.cons .here .nil) (cc hz (.cons .here .nil) fun w pz ho=>rP _ _ _ (zwT:=275) (zJ1:=[]) _ (zwS:=(fun y0 y1=>ob y0 y1)) _ H pz call275 (fun w' nd y0 y1  r  hr=>VS _ _ _ _ hr nd ) ho) ?_
  rintro  I
  exact Ew (i:=3) U (u:=(vs f K.length g)) (rJ I.symm)<|Q0n<|B2n U<|El<|oJ h▸Lk results263 (.tmp U .nil) fun w hw=>⟨f,g,wx,trivial,hw.sub (.cons .here .nil)⟩
def bq(a:List zb)(b:List zb):Option (List zb×List zb):=
 some (a,b)
theorem QG(Z a b c d f g r)(h:bq f g=some r){Ek}(hz:PZ [] Ek Z)(p:ZS Z 4 (rq qo) a b f)(q:ZS Z 4 (rq qo) c d g):
  Calls Tryz.prog 264 #[vs a f.length b,vs c g.length d] Ek fun e w'=>∃ i:Nat,∃ j:Nat,∃ k:Option Addr,∃ m:Nat,∃ n:Option Addr,∃ o:Nat,e = .returned (.func (.func 276) #[] #[vp i,vp j])/\((ZS Z 4 (rq qo) k m r.1)/\(ZS Z 4 (rq qo) n o r.2))/\Hp [] Ek w' [stb i 338 [vs k r.1.length m],stb j 338 [vs n r.2.length o]]:=by
 unfold bq at h
 refine Lz func264 U U<|Lb<|Le (Lh 2 (wu (cs:=[vs a f.length b])) fun s _=>Lh 3 (wu (cs:=[vs c g.length d])) fun t _=>Q1n U<|B0q<|Lf 5 (wO<|L6 (l:=[.tmp 2,.tmp 3])<|.r2 U U)<|Q1n U<|El ?_)
 exact oJ h▸Lk results264 (.tmp U .nil) fun w hw=>⟨s,t,a,b,c,d,wx,⟨p,q⟩,hw.sub (.s2 .h1 .here)⟩
def mu(z29:Type)(z4A:List zb)(zae:(zb×zb)->z29->Option (Bool×z29))(z3E:List zb)(b:Int)(c:z29->Option z29):Nat->Int->z29->Option z29
 | 0,_,_=>none
 | f+1,a,d=>if decide (a<z4A.length) then chk (0<=a/\a<z4A.length) ((zae ((⟨(⟨((nth z3E b).yg).fN,((nth z3E b).yg).fD⟩:z1),(⟨((nth z3E b).fR).fN,((nth z3E b).fR).fD⟩:z1)⟩:zb),(⟨(⟨((nth z4A a).yg).fN,((nth z4A a).yg).fD⟩:z1),(⟨((nth z4A a).fR).fN,((nth z4A a).fR).fD⟩:z1)⟩:zb)) d).bind fun e=>if !e.1 then none else mu z29 z4A zae z3E b c f (i64 (a+1)) e.2) else c d
def mv(z29:Type)(z3E:List zb)(z4A:List zb)(zae:(zb×zb)->z29->Option (Bool×z29))(b:z29->Option z29):Nat->Int->z29->Option z29
 | 0,_,_=>none
 | d+1,a,c=>if decide (a<z3E.length) then vC (fun(e:z29)=>mv z29 z3E z4A zae b d (i64 (a+1)) e) fun f=>chk (0<=a/\a<z3E.length) (vC (fun g=>f g) fun h=>mu z29 z4A zae z3E a h wr 0 c) else b c
def ip(z29:Type)(zae:(zb×zb)->z29->Option (Bool×z29))(zhh:z29)(z3E:List zb)(z4A:List zb):Option z29:=
 vC (fun(a:z29)=>some a) fun b=>mv z29 z3E z4A zae b wr 0 zhh
theorem V6(Z)(z29:Type)(zsE)(zfN:Type)(zcS)(zkW:zfN->z29->Prop)(zsF zRx zsG zsH zsI zJ8 zJ9 zae zhh z3E z4A r){Ek}(hz:Pz [zcS zsF zhh] Ek Z)(I:cU Tryz.prog Z zsE (α:=zb×zb) (σ:=z29) (G:=zfN) (H:=Unit) (fun h x=>[.agg #[vi x.1.yg.fN,vi x.1.yg.fD,vi x.1.fR.fN,vi x.1.fR.fD],.agg #[vi x.2.yg.fN,vi x.2.yg.fD,vi x.2.fR.fN,vi x.2.fR.fD]]) (fun h x=>[]) zae zcS zkW)(J:zkW zsF zhh)(K:ZS Z 4 (rq qo) zsG zsH z3E)(L:ZC Z zRx [vs zsG z3E.length zsH])(M:ZS Z 4 (rq qo) zJ8 zJ9 z4A)(N:ZC Z zsI [vs zJ8 z4A.length zJ9])(h:ip z29 zae zhh z3E z4A=some r)(iA:Ho Ek [zcS zsF zhh]):
  Calls Tryz.prog 276 #[.func (.yield zsE) #[] #[],vq zRx,vq zsI] Ek fun e w'=>∃ v:zfN,e = .returned (.tuple #[])/\(zkW v r)/\Hp (fps [zcS zsF zhh]) Ek w' [zcS v r]:=by
 unfold ip at h
 refine Ey func276 U iA U<|B0q<|Lf 8 (w8 zrJ U<|vx hz.pv L)<|Lf 9 (wB underlying338)<|Q1n U<|jK1 h fun E O h=>N3 (fun m n=>(E m=some r)/\(zkW n m)) (fun m n=>[]) (fun m n=>[zcS n m]) ?_ ?_
 ·let A:Value:=(.func (.yield zsE) #[] #[]);let C:Value:=(vs zsG z3E.length zsH);let D:Value:=(vi (z3E.length:Int));refine WC.block<|E9 (fun o a i j=>(mv z29 z3E z4A zae E o a i=some r)/\(zkW j i)) (fun o a i j=>[(0,A),(2,vq zsI),(8,C),(9,D),(10,vi a)]) (fun o a i j=>[zcS j i]) (fun o a i j=>o) ⟨wr,0,zhh,zsF⟩ ⟨h,J⟩ .q (.cons .here .nil) ?_
  rintro (_|ah) a i j ⟨h,y⟩;·cases h
  rw[mv] at h
  refine B1n U<|Lb<|Lj h (fun P h=>?_)<|fun P h=>?_
  ·refine Ec<|jK1 h fun ai Q h=>Nv (fun k p=>(ai k=some r)/\(zkW p k)) (fun k p=>[(0,A),(2,vq zsI),(8,C),(9,D),(10,vi a)]) (fun k p=>[zcS p k]) ?_ ?_
   ·refine WC.block<|Lb<|cK h fun R h=>Le<|L0 (dd:=12) (Z:=Z) (Pr:=(rq qo)) zeq K R ?_
    rintro ak al S am rfl
    refine Lf 13 (we z6d (vy hz.pv S)) (Lh 5 (wn (cs:=[vi 0,vi 0,vi 0,vi 0]) zk0) fun z _=>Ll (wl zk1 .here)<|Q0n<|B0q<|Lf 14 (w8 zrJ U<|vx hz.pv N)<|Lf 15 (wB underlying338)<|Q1n U ?_)
    refine jK1 h fun F T h=>N3 (fun l q=>(F l=some r)/\(zkW q l)) (fun l q=>[(0,A),(2,vq zsI),(8,C),(9,D),(10,vi a)]) (fun l q=>[zcS q l]) ?_ ?_
    ·refine WC.block<|E9 (fun t c d f=>(mu z29 z4A zae z3E a F t c d=some r)/\(zkW f d)) (fun t c d f=>[(0,A),(2,vq zsI),(5,vp z),(8,C),(9,D),(10,vi a),(14,vs zJ8 z4A.length zJ9),(15,vi (z4A.length:Int)),(16,vi c)]) (fun t c d f=>[stb z 336 [(vi<|((nth z3E a).yg).fN),(vi<|((nth z3E a).yg).fD),(vi<|((nth z3E a).fR).fN),(vi<|((nth z3E a).fR).fD)],zcS f d]) (fun t c d f=>t) ⟨wr,0,i,j⟩ ⟨h,y⟩ .q .a2 ?_
     rintro (_|aj) c d f ⟨h,B⟩;·cases h
     rw[mu] at h
     refine B1n U<|Lb<|Lj h (fun V h=>?_)<|fun V h=>?_
     ·refine Ec<|Lb<|WC.block<|Lb<|cK h fun W h=>Le<|L0 (dd:=18) (Z:=Z) (Pr:=(rq qo)) zeq M W ?_
      rintro an ao X ap rfl
      refine Lf 19 (we z6d (vy hz.pv X)) (Lh 7 (wn (cs:=[vi 0,vi 0,vi 0,vi 0]) zk0) fun aq _=>Ll (wl zk1 .here)<|Q0n<|Lb ?_)
      refine bK h fun u Y h=>D1q U<|Lf 21 (we z6d (wh .h1))<|Lf 22 (we z6d (wh .here)) (E1 (dd:=23) (x:=((⟨(⟨((nth z3E a).yg).fN,((nth z3E a).yg).fD⟩:z1),(⟨((nth z3E a).fR).fN,((nth z3E a).fR).fD⟩:z1)⟩:zb),(⟨(⟨((nth z4A c).yg).fN,((nth z4A c).yg).fD⟩:z1),(⟨((nth z4A c).fR).fN,((nth z4A c).fR).fD⟩:z1)⟩:zb))) (h:=()) (g:=f) (s:=d) (b:=u.1) (s':=u.2) I U .q ((.cons .h2 .nil):Sel _ [zcS f d] _) Y B (fun w hw=>hz.call hw ((.cons .h2 .nil):Sel _ [zcS f d] _)) fun aa ab=>Q1n U<|Lj h (fun ad h=>?_)<|fun ad h=>?_)
      ·cases h
      ·exact Ep<|Lq<|Ld<|D2q U<|WL.nil<|Em ⟨aj,i64 (c+1),u.2,aa⟩ ⟨h,ab⟩ (Nat.lt_succ_self _) .q<|.s2 .h2 .here
     ·exact En<|Ln<|Ln<|Lu<|Lp ⟨d,f⟩ ⟨h,B⟩ .q<|.cons .h1 .nil
    ·rintro l q ⟨h,ae⟩
     replace h:=(T l).symm.trans h
     exact Lq<|Lp ⟨l,q⟩ ⟨h,ae⟩ .q<|.cons .here .nil
   ·rintro k p ⟨h,af⟩
    replace h:=(Q k).symm.trans h
    exact D2q U<|WL.nil<|Em ⟨ah,i64 (a+1),k,p⟩ ⟨h,af⟩ (Nat.lt_succ_self _) .q<|.cons .here .nil
  ·exact En<|Ln<|Ln<|Lu<|Lp ⟨i,j⟩ ⟨h,y⟩ .nil<|.cons .here .nil
 ·rintro m n ⟨h,ag⟩
  replace h:=(O m).symm.trans h
  exact oJ h▸Nj results276 .nil fun w hw=>⟨n,ui,ag,hw.sub (.cons .here .nil)⟩
def aU(a:z1)(b:z1):Option (Int×Int):=
 some (i64 ((i64 (a.fN*b.fD))-(i64 (b.fN*a.fD))),i64 (a.fD*b.fD))
theorem KS(Z e f a b r)(h:aU a b=some r){Ek}(hz:PZ [] Ek Z)(c:ZC Z e [vi a.fN,vi a.fD])(d:ZC Z f [vi b.fN,vi b.fD]):
  RC 238 #[vq e,vq f] Ek (.tuple #[vi r.1,vi r.2]) [] []:=by
 unfold aU at h
 exact Lz func238 U U<|B2n U<|Lb<|Lv nc []<|Lg 0 U (w7 jv)<|Li 1 U (w8 wm U<|wP hz.pv c)<|Lg 2 U (w7 ju)<|Li 3 U (w8 wm U<|wP hz.pv d)<|Lg 4 U uM<|Lg 5 U (w7 jv)<|Li 6 U (w8 wm U<|wP hz.pv d)<|Lg 7 U (w7 ju)<|Li 8 U (w8 wm U<|wP hz.pv c)<|Lg 9 U uM<|Lg 10 U oU<|Lg 11 U (w7 ju)<|Li 12 U (w8 wm U<|wP hz.pv c)<|Lg 13 U (w7 ju)<|Li 14 U (w8 wm U<|wP hz.pv d)<|Lg 15 U uM<|Lg 16 U q_z<|Lg 17 U q_z<|Eo (by kernel_rfl)<|Ld<|El<|oJ h▸Eb results238 (.tmp U<|.tmp U .nil) .nil
def X2(a:z1)(b:z1):Option z1:=
 (qP a).bind fun d=>(if !d then some true else(qP b).bind fun e=>some (!e)).bind fun g=>if g then none else(aU a b).bind fun c=>(rb c.1 c.2).bind fun f=>some f
theorem GJ(Z a b r)(h:X2 a b=some r){Ek}(hz:PZ [] Ek Z):
  RC 213 #[.string ⟨#[45]⟩,.agg #[vi a.fN,vi a.fD],.agg #[vi b.fN,vi b.fD]] Ek (.tuple #[.agg #[vi r.fN,vi r.fD],vi 0]) [] []:=by
 unfold X2 at h
 refine Ng func213 U U<|Lb<|Le (Lh 4 (wu (cs:=[vi a.fN,vi a.fD])) fun d _=>Lh 5 (wu (cs:=[vi b.fN,vi b.fD])) fun e _=>Lh 6 (wn (cs:=[vi 0,vi 0]) z20) fun s _=>Q1n U<|Lb<|Lb ?_)
 refine bK h fun t i h=>bK h fun g f h=>Le<|Lf 9 (we zm (wh .h2))<|Eg call188 hz (je _ _ _ i)<|Q2q U<|Lx false 3 12 (B:=g) (fun h=>(oJ<|qf f h).symm) (fun _ j=>?_) ?_
 ·have c:=qg f j
  obtain⟨u,m,c⟩:=z2 c
  replace c:=oJ c
  exact Lf 13 (we zm (wh .h1))<|Eg call188 hz (je _ _ _ m)<|Q2q U<|Ly c U .all
 refine La U<|Lx false 7 17 (B:=g) (fun h=>h) (fun _ n=>?_) ?_
 ·exact La U<|Lf 19 (Xo (r:=false) (by decide) U U)<|La U<|E5 U U<|E5 U U<|E5 U U<|Q2q U<|Ly (Eq.symm n) U .all
 refine Q0n<|Lj h (fun o h=>?_)<|fun o h=>?_
 ·cases h
 ·refine Ec<|B0q<|Lh 27 (jK Value.string<|fun x=>x) ?_
  intro y _
  let A:Value:=(.func (.func 238) #[] #[vp d,vp e]);refine Lf 28 (wO<|L6 (l:=[.tmp 4,.tmp 5])<|.r2 U U)<|Ll (gi (k:=⟨#[43]⟩) (v:=(.func (.func 237) #[] #[vp d,vp e])) gf underlying393 .here)<|Lf 29 (wO<|L6 (l:=[.tmp 4,.tmp 5])<|.r2 U U)<|Ll (gi (k:=⟨#[45]⟩) (v:=A) gf underlying393 .here)<|Lf 30 (wO<|L6 (l:=[.tmp 4,.tmp 5])<|.r2 U U)<|Ll (gi (k:=⟨#[42]⟩) (v:=(.func (.func 239) #[] #[vp d,vp e])) gf underlying393 .here)<|Lf 31 (wO<|L6 (l:=[.tmp 4,.tmp 5])<|.r2 U U)<|Ll (gi (k:=⟨#[47]⟩) (v:=(.func (.func 240) #[] #[vp d,vp e])) gf underlying393 .here)<|Q2n U<|Lb ?_
  exact bK h fun C p h=>bK h fun z q h=>D2q U<|Lf 35 (Xn (k:=⟨#[45]⟩) (dflt:=.nilFunc) (r:=A) gf underlying393 zHK U U U .here (by rfl))<|Lm 36 (wV (l:=[]) call238 .nil) .nil (kb hz .nil (.s2 .h3 .h2) fun w pz ho la=>KS _ _ _ _ _ _ p pz ((la _ (.head _) _).stb)<|(la _ (.tail _<|.head _) _).stb)<|Q2q U<|Eg call214 hz (im _ _ _ _ q)<|Q2q U<|Ll (wl z1t .h1)<|Q1n U<|El<|oJ h▸Eb results213 (.agg U zm U (wh .here)<|.tmp U .nil) .nil
def eI(b:z1)(c:z1):Option z1:=
 (X2 b c).bind fun a=>some a
theorem Qh(Z a b r)(h:eI a b=some r){Ek}(hz:PZ [] Ek Z):
  RC 182 #[.agg #[vi a.fN,vi a.fD],.agg #[vi b.fN,vi b.fD]] Ek (.tuple #[.agg #[vi r.fN,vi r.fD],vi 0]) [] []:=by
 unfold eI at h
 refine Lz func182 U U<|Lb<|Le (Lh 2 (wu (cs:=[vi a.fN,vi a.fD])) fun d _=>Lh 3 (wu (cs:=[vi b.fN,vi b.fD])) fun e _=>Lh 4 (wn (cs:=[vi 0,vi 0]) z20) fun f _=>Q1n U<|Lb ?_)
 exact bK h fun g c h=>Le<|Lf 6 (we zm (wh .h2))<|Lf 7 (we zm (wh .h1))<|Eg call213 hz (GJ _ _ _ _ c)<|Q2q U<|Ll (wl z1t .here)<|Q1n U<|El<|oJ h▸Eb results182 (.agg U zm U (wh .here)<|.tmp U .nil) .nil
def pa(a:yk)(c:z1)(d:z1):Option (z1×yk):=
 if decide (a.fE≠0) then some ((⟨0,0⟩:z1),a) else(eI c d).bind fun b=>some (b,(⟨0⟩:yk))
theorem eJ(Z a d b c r)(h:pa d b c=some r){Ek}(hz:Pz [stb a 396 [vi d.fE]] Ek Z)(iA:Ho Ek [stb a 396 [vi d.fE]]):
  RF 261 #[vp a,.func (.func 182) #[] #[],.agg #[vi b.fN,vi b.fD],.agg #[vi c.fN,vi c.fD]] Ek (.agg #[vi r.1.fN,vi r.1.fD]) [stb a 396 [vi d.fE]] [stb a 396 [vi r.2.fE]]:=by
 unfold pa at h
 refine Et func261 U iA U<|Lb<|Le (Lh 6 (wu (cs:=[vi b.fN,vi b.fD])) fun g _=>Lh 7 (wu (cs:=[vi c.fN,vi c.fD])) fun i _=>Lh 8 (wn (cs:=[vi 0,vi 0]) z20) fun j _=>Q0n<|Lb<|B1q U<|Lf 12 wz<|Lf 13 (w7 tO)<|Lf 14 (Ei z8n .h3)<|Q1n U<|Lj h (fun e h=>?_)<|fun e h=>?_)
 ·exact B0q<|Lf 16 (wN (v:=(.agg #[vi 0,vi 0])) (Lt (l:=[]) .nil []) (fun _=>by kernel_rfl))<|Ll (wl z1t .here)<|Q0n<|El<|L4<|oJ h▸Eb results261 (.agg U zm U (wh .here) .nil) (.cons .h3 .nil)
 ·refine Ec<|Lb<|bK h fun k f h=>D1q U<|Lf 19 (we zm (wh .h2))<|Lf 20 (we zm (wh .h1))<|Lm 21 (wV (l:=[.tmp 19,.tmp 20]) call182<|.r2 U U) .nil (cc hz .nil fun w pz ho=>Qh _ _ _ _ f pz )<|Q2q U<|La U (Lh 9 (wn (cs:=[vi 0,vi 0]) z20) fun m _=>Ll (wl z1t .here)<|Q1n U<|B2q U<|Lf 26 wz<|Lf 27 (w7 tO)<|Ll (wl zfn .h4)<|Q0n<|B0q<|Lf 28 (we zm (wh .h1))<|Ll (wl z1t .h2)<|Q0n<|El ?_)
  exact oJ h▸Eb results261 (.agg U zm U (wh .here) .nil) (.cons .h1 .nil)
def aV(a:z1)(b:z1):Option (Int×Int):=
 some (i64 (a.fN*b.fD),i64 (a.fD*b.fN))
theorem KT(Z c d a b r)(h:aV a b=some r){Ek}(hz:PZ [] Ek Z)(e:ZC Z c [vi a.fN,vi a.fD])(f:ZC Z d [vi b.fN,vi b.fD]):
  RC 240 #[vq c,vq d] Ek (.tuple #[vi r.1,vi r.2]) [] []:=by
 unfold aV at h
 exact Lz func240 U U<|B2n U<|Lb<|Lv nc []<|Lg 0 U (w7 jv)<|Li 1 U (w8 wm U<|wP hz.pv e)<|Lg 2 U (w7 ju)<|Li 3 U (w8 wm U<|wP hz.pv f)<|Lg 4 U uM<|Lg 5 U (w7 ju)<|Li 6 U (w8 wm U<|wP hz.pv e)<|Lg 7 U (w7 jv)<|Li 8 U (w8 wm U<|wP hz.pv f)<|Lg 9 U uM<|Lg 10 U q_z<|Lg 11 U q_z<|Eo (by kernel_rfl)<|Ld<|El<|oJ h▸Eb results240 (.tmp U<|.tmp U .nil) .nil
end Go.Proofs.YtaefhckdgfpeaaaGreat
