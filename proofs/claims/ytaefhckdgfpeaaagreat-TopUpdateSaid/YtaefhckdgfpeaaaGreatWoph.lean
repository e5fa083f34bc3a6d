/- A part of this claim's proof: models of functions, walks, plain laws. No conditions. -/
import Derived.Test.YtaefhckdgfpeaaaGreatWopg
set_option linter.all false
namespace Go.Proofs.YtaefhckdgfpeaaaGreat
open Go Go.RowKit Sep Tryz
set_option maxRecDepth 30000
set_option maxHeartbeats 4000000
def sB(a:List y7)(c:Int)(b:Int):Option (List y7):=
 chk (0<=b/\b<a.length) (chk (0<=c/\c<a.length) (chk (0<=b/\b<(((a.set (c:Int).toNat (⟨(nth a b).yw,(nth a b).xa,(nth a b).xi,(nth a b).yH,(⟨((nth a b).yp).y6,((nth a b).yp).fX,((nth a b).yp).fQ⟩:zg)⟩:y7)).length:Nat):Int)) (some ((a.set (c:Int).toNat (⟨(nth a b).yw,(nth a b).xa,(nth a b).xi,(nth a b).yH,(⟨((nth a b).yp).y6,((nth a b).yp).fX,((nth a b).yp).fQ⟩:zg)⟩:y7)).set (b:Int).toNat (⟨(nth a c).yw,(nth a c).xa,(nth a c).xi,(nth a c).yH,(⟨((nth a c).yp).y6,((nth a c).yp).fX,((nth a c).yp).fQ⟩:zg)⟩:y7)))))
theorem nM(Z j f a c b r)(h:sB a c b=some r){Ek}(hz:Pz [row (vs j a.length f) 238 7 (a.flatMap vt)] Ek Z)(iA:Ho Ek [row (vs j a.length f) 238 7 (a.flatMap vt)]):
  Calls Tryz.prog 322 #[vs j a.length f,vi c,vi b] Ek fun e w'=>e = .returned (.tuple #[])/\(r.length=a.length)/\Hp (fps [row (vs j a.length f) 238 7 (a.flatMap vt)]) Ek w' [row (vs j r.length f) 238 7 (r.flatMap vt)]:=by
 unfold sB at h
 refine Ey func322 U iA U<|cK h fun m h=>cK h fun d h=>cK h fun g h=>Lv (fun i=>[13,15].contains i) []<|Lg 0 U q_m<|Lg 1 U q_m<|Lg 2 U q_m<|Lg 3 U q_m<|Lg 4 U q_m<|Lg 5 U q_m<|Eu (fun w hw=>Hp.vr .here hw (by intro nd;have:=m;rw[nd] at this;omega)) ?_
 rintro⟨n,rfl⟩
 let A:List Value:=[vi ((nth a b).yw),vi ((nth a b).xa),vi ((nth a b).xi),vi ((nth a b).yH),vi (((nth a b).yp).y6),vi (((nth a b).yp).fX),vi (((nth a b).yp).fQ)];let C:List Value:=[vi ((nth a c).yw),vi ((nth a c).xa),vi ((nth a c).xi),vi ((nth a c).yH),vi (((nth a c).yp).y6),vi (((nth a c).yp).fX),vi (((nth a c).yp).fQ)];refine Lg 6 U (wL zgY m.1 m.2 vB)<|Li 7 U (wX (cs:=(vt<|nth a b)) zvA<|gV .here<|qm (enc:=vt) (l:=a) (i:=b) (sz:=7) (fun _=>U) m.1 m.2)<|Lg 8 U q_m<|Lg 9 U q_m<|Lg 10 U (wL zgY d.1 d.2 vB)<|Li 11 U (wX (cs:=(vt<|nth a c)) zvA<|gV .here<|qm (enc:=vt) (l:=a) (i:=c) (sz:=7) (fun _=>U) d.1 d.2)<|Lg 12 U (wL zgY d.1 d.2 vB)<|WD.forced0 (i:=13) U (by kernel_rfl) (wS.of .nil) (sT (vs:=A) (ds:=(a.set (c:Int).toNat (⟨(nth a b).yw,(nth a b).xa,(nth a b).xi,(nth a b).yH,(⟨((nth a b).yp).y6,((nth a b).yp).fX,((nth a b).yp).fQ⟩:zg)⟩:y7)).flatMap vt) zHP lX .here (db (enc:=vt) (sz:=7) (k:=0) (fun _=>U) d.1 d.2 (by decide))<|d9 (enc:=vt) (l:=a) (sz:=7) (vs:=A) (y:=(⟨(nth a b).yw,(nth a b).xa,(nth a b).xi,(nth a b).yH,(⟨((nth a b).yp).y6,((nth a b).yp).fX,((nth a b).yp).fQ⟩:zg)⟩:y7)) (k:=0) (fun _=>U) d.1 d.2<|Nat.le_of_ble_eq_true U)<|N1 .here (u:=(vs (some ⟨n,0,none⟩) ((a.set (c:Int).toNat (⟨(nth a b).yw,(nth a b).xa,(nth a b).xi,(nth a b).yH,(⟨((nth a b).yp).y6,((nth a b).yp).fX,((nth a b).yp).fQ⟩:zg)⟩:y7)).length) f)) (rJ (List.length_set).symm)<|Ny (i:=8) U (u:=(vs (some ⟨n,0,none⟩) ((a.set (c:Int).toNat (⟨(nth a b).yw,(nth a b).xa,(nth a b).xi,(nth a b).yH,(⟨((nth a b).yp).y6,((nth a b).yp).fX,((nth a b).yp).fQ⟩:zg)⟩:y7)).length) f)) (rJ (List.length_set).symm)<|Lg 14 U (wL zgY g.1 g.2 vB)<|Nb (i:=15) U (by kernel_rfl) (by kernel_rfl) (sT (vs:=C) (ds:=((a.set (c:Int).toNat (⟨(nth a b).yw,(nth a b).xa,(nth a b).xi,(nth a b).yH,(⟨((nth a b).yp).y6,((nth a b).yp).fX,((nth a b).yp).fQ⟩:zg)⟩:y7)).set (b:Int).toNat (⟨(nth a c).yw,(nth a c).xa,(nth a c).xi,(nth a c).yH,(⟨((nth a c).yp).y6,((nth a c).yp).fX,((nth a c).yp).fQ⟩:zg)⟩:y7)).flatMap vt) zHP lX .here (db (enc:=vt) (sz:=7) (k:=0) (fun _=>U) g.1 g.2 (by decide))<|d9 (enc:=vt) (l:=a.set (c:Int).toNat (⟨(nth a b).yw,(nth a b).xa,(nth a b).xi,(nth a b).yH,(⟨((nth a b).yp).y6,((nth a b).yp).fX,((nth a b).yp).fQ⟩:zg)⟩:y7)) (sz:=7) (vs:=C) (y:=(⟨(nth a c).yw,(nth a c).xa,(nth a c).xi,(nth a c).yH,(⟨((nth a c).yp).y6,((nth a c).yp).fX,((nth a c).yp).fQ⟩:zg)⟩:y7)) (k:=0) (fun _=>U) g.1 g.2<|Nat.le_of_ble_eq_true U) ?_
 exact N1 .here (u:=(vs (some ⟨n,0,none⟩) (((a.set (c:Int).toNat (⟨(nth a b).yw,(nth a b).xa,(nth a b).xi,(nth a b).yH,(⟨((nth a b).yp).y6,((nth a b).yp).fX,((nth a b).yp).fQ⟩:zg)⟩:y7)).set (b:Int).toNat (⟨(nth a c).yw,(nth a c).xa,(nth a c).xi,(nth a c).yH,(⟨((nth a c).yp).y6,((nth a c).yp).fX,((nth a c).yp).fQ⟩:zg)⟩:y7)).length) f)) (rJ (List.length_set).symm)<|Eo (by kernel_rfl)<|oJ h▸Nj results322 .nil fun w hw=>⟨ui,(List.length_set).trans ((List.length_set).trans U),hw.sub (.cons .here .nil)⟩
def tS(a:List y7)(b:y7):Option Unit:=
 chk (((a++([b]:List y7)).length:Int)*56<=140737488355328/\((a++([b]:List y7)).length:Int)<=4611686018427387904) (some ())
theorem n6(Z f c d g j k m n o p q s t u v x a b r)(h:tS a b=some r){Ek}(hz:Pz [stb f 167 [g,j,k,m,n,o,p,q,s,t,u,vs c a.length d,v,x],row (vs c a.length d) 238 7 (a.flatMap vt)] Ek Z)(iA:Ho Ek [stb f 167 [g,j,k,m,n,o,p,q,s,t,u,vs c a.length d,v,x],row (vs c a.length d) 238 7 (a.flatMap vt)]):
  Calls Tryz.prog 325 #[.pointer (some ⟨f,11,none⟩),.iface 238 (.agg #[vi b.yw,vi b.xa,vi b.xi,vi b.yH,vi b.yp.y6,vi b.yp.fX,vi b.yp.fQ])] Ek fun e w'=>∃ y:Option Addr,∃ z:Nat,e = .returned (.tuple #[])/\True/\Hp (fps [stb f 167 [g,j,k,m,n,o,p,q,s,t,u,vs c a.length d,v,x],row (vs c a.length d) 238 7 (a.flatMap vt)]) Ek w' [stb f 167 [g,j,k,m,n,o,p,q,s,t,u,vs y ((a++([b]:List y7)).length) z,v,x],row (vs y ((a++([b]:List y7)).length) z) 238 7 ((a++([b]:List y7)).flatMap vt)]:=by
 unfold tS at h
 refine Nk func325 U iA U<|cK h fun C h=>Lv (fun i=>[7,9].contains i) []<|Lg 0 U q_m<|Lg 1 U q_m<|Lg 2 U wz<|Li 3 U (Ei zvz .here)<|Lg 4 U q_m<|Li 5 U (Je underlying238 U U) (WD.new (i:=6) (dd:=10) U (by kernel_rfl) U (wD (cs:=([b]:List y7).flatMap vt) zgY (Lt (l:=[.tmp 9]) (.cons U .nil) [0]) (fun _=>by kernel_rfl) (by unfold maxLen;omega)) (fun h'=>absurd h' (by decide)) fun D _=>WD.old (i:=7) (dd:=11) U (by kernel_rfl) U (fun _=>(wS.of .nil)) (vb (enc:=vt) (l1:=a) (l2:=([b]:List y7)) zgY .h2 (fun _=>U) (wY .here) (vm Mr _) C) ?_)
 rintro⟨A,B⟩ _
 refine Lg 8 U wz<|Nb (i:=9) U (by kernel_rfl) (by kernel_rfl) (vg (ds:=[g,j,k,m,n,o,p,q,s,t,u,vs A ((a++([b]:List y7)).length) B,v,x]) zZo .h2)<|Eo (by kernel_rfl) ?_
 skip
 exact Nj results325 .nil<|fun w hw=>⟨A,B,ui,trivial,hw.sub .a2⟩
def m5(a:Int)(c:List y7)(d:Option Unit):Nat->Option Unit
 | 0=>none
 | f+1=>(if decide ((i64 (Int.tdiv (i64 (a-1)) 2))=a) then some true else(sy c a (i64 (Int.tdiv (i64 (a-1)) 2))).bind fun b=>some (!b)).bind fun e=>if e then d else none
def rh(a:List y7)(b:Int):Option Unit:=
 uo (some ()) fun c=>m5 b a c wr
theorem Y4(Z e f g c d r)(h:rh c d=some r){Ek}(hz:PZ [] Ek Z)(k:ZS Z 7 (rq vt) f g c)(m:ZC Z e [vs f c.length g]):
  RC 157 #[.iface 236 (vq e),vi d] Ek (.tuple #[]) [] []:=by
 unfold rh at h
 refine Lz func157 U U<|jK0 h fun j n h=>H3 (j=some r) ([]) ([]) ?_ ?_
 ·refine WC.block<|N2 (fun a=>(m5 d c j a=some r)) (fun a=>[(0,(.iface 236<|vq e)),(1,vi d)]) (fun a=>[]) (fun a=>a) wr h .q .nil ?_
  rintro(_|t) h;·cases h
  rw[m5] at h
  refine WC.block<|B2q U<|Lf 7 (cM (by decide))<|Q1n U<|Lb<|Lb<|bK h fun s i h=>Le<|La U<|La U<|La U<|La U<|Lx false 5 11 (B:=s) (fun h=>(oJ<|qf i h).symm) (fun _ o=>?_) ?_
  ·have b:=qg i o
   obtain⟨u,p,b⟩:=z2 b
   replace b:=oJ b
   exact Q3q U<|Lm 15 (cO (l:=[.tmp 13,.tmp 14]) Js call321 U (vx hz.pv m)<|.r2 U U) .nil (cc hz .nil fun w pz ho=>nL _ _ _ _ _ _ _ p pz k)<|Q2q U<|Ly b U .all
  refine Q0n<|Lj h (fun q h=>?_)<|fun q h=>?_
  ·exact En<|Ln<|Hc U<|Ln<|Lu<|Lp () h .nil .nil
  ·cases h
 ·rintro  h
  replace h:=n.symm.trans h
  skip
  exact Nj results157 .nil<|fun w hw=>⟨ui,hw.sub .nil⟩
def tT(a:List y7)(b:y7):Option Unit:=
 (tS a b).bind fun d=>(uk (a++([b]:List y7))).bind fun c=>(rh (a++([b]:List y7)) (i64 (c-1))).bind fun e=>some ()
theorem n7(Z f c d g i j k m n o p q t u v x a b r)(h:tT a b=some r){Ek}(hz:Pz [stb f 167 [g,i,j,k,m,n,o,p,q,t,u,vs c a.length d,v,x],row (vs c a.length d) 238 7 (a.flatMap vt)] Ek Z)(iA:Ho Ek [stb f 167 [g,i,j,k,m,n,o,p,q,t,u,vs c a.length d,v,x],row (vs c a.length d) 238 7 (a.flatMap vt)]):
  Calls Tryz.prog 102 #[.iface 236 (.pointer (some ⟨f,11,none⟩)),.iface 238 (.agg #[vi b.yw,vi b.xa,vi b.xi,vi b.yH,vi b.yp.y6,vi b.yp.fX,vi b.yp.fQ])] Ek fun e w'=>∃ y:Option Addr,∃ z:Nat,e = .returned (.tuple #[])/\True/\Hp (fps [stb f 167 [g,i,j,k,m,n,o,p,q,t,u,vs c a.length d,v,x],row (vs c a.length d) 238 7 (a.flatMap vt)]) Ek w' [stb f 167 [g,i,j,k,m,n,o,p,q,t,u,vs y ((a++([b]:List y7)).length) z,v,x],row (vs y ((a++([b]:List y7)).length) z) 238 7 ((a++([b]:List y7)).flatMap vt)]:=by
 unfold tT at h
 refine Nk func102 U iA U<|Lb<|bK h fun F C h=>D2q U<|L7 (dd:=6) U (WM (l:=[.tmp 5]) (Jr _) call325 U<|.cons U .nil) .a2 (cc hz .a2 fun w pz ho=>n6 _ _ _ _ _ _ _ _ _ _ _ _ _ _ _ _ _ _ _ _ C pz  ho) ?_
 rintro A B _
 refine Q0n<|bK h fun G D h=>bK h fun H E h=>D2q U<|Lm 9 (cO (l:=[]) XR call320 U (wc .here U) .nil) .nil (kb hz .nil (.cons .h1 .nil) fun w pz ho la=>iz _ _ _ _ _ D pz<|ZA.row (la _ (.head _) _) (RR.flat (enc:=vt) (fun _=>U) _) ⟨w,pz.1⟩)<|La U<|Lm 11 (Eh call157) .nil (kb hz .nil .a2 fun w pz ho la=>Y4 _ _ _ _ _ _ _ E pz (ZA.row (la _ (.tail _<|.head _) _) (RR.flat (enc:=vt) (fun _=>U) _) ⟨w,pz.1⟩)<|(la _ (.head _) _).stbAt (off:=11) (s:=1) (ds:=[vs A ((a++([b]:List y7)).length) B]) U)<|WL.nil ?_
 skip
 exact Nj results102 .nil<|fun w hw=>⟨A,B,ui,trivial,hw.sub .a2⟩
def gD(d:List (List zg))(b:List yO)(a:Int)(h:Int)(f:Int)(g:Int)(i:(List y7)->Option (List y7)):Nat->Int->(List y7)->Option (List y7)
 | 0,_,_=>none
 | k+1,c,e=>if decide (c<(((nth d ((nth b a).yP)).length:Nat):Int)) then vC (fun(l:List y7)=>gD d b a h f g i k (i64 (c+1)) l) fun j=>chk (0<=c/\c<(((nth d ((nth b a).yP)).length:Nat):Int)) (if decide (((nth (nth d ((nth b a).yP)) c).y6)=h) then(tT e (⟨f,g,(nth b a).yP,a,(⟨(nth (nth d ((nth b a).yP)) c).y6,(nth (nth d ((nth b a).yP)) c).fX,(nth (nth d ((nth b a).yP)) c).fQ⟩:zg)⟩:y7)).bind fun m=>j (e++([(⟨f,g,(nth b a).yP,a,(⟨(nth (nth d ((nth b a).yP)) c).y6,(nth (nth d ((nth b a).yP)) c).fX,(nth (nth d ((nth b a).yP)) c).fQ⟩:zg)⟩:y7)]:List y7)) else j e) else i e
def uN(j:ye)(c:List (List zg))(b:List yO)(k:List (ze×yt))(d:List y7)(l:List yi)(m:List yi)(e:Int)(f:Int)(g:Int)(a:Int):Option (List y7):=
 chk (0<=a/\a<b.length) (chk (0<=((nth b a).yP)/\((nth b a).yP)<c.length) (vC (fun(h:List y7)=>some h) fun i=>gD c b a e f g i wr 0 d))
theorem iR(Z n Q R S T V W X Y aa ab ad ae af ag ah ai aj ak al am g f t u an ao ap aq a d b aB k x y ax z B c r)(h:uN a d b aB k x y ax z B c=some r){Ek}(hz:Pz [stb n 167 [vs Q a.fM.length R,vs S a.y9.length T,vs V a.fS.length W,vs X a.fK.length Y,vs aa a.ya.length ab,vs ad a.yc.length ae,vs af a.fU.length ag,vs ah a.y8.length ai,vs aj d.length ak,vs al b.length am,.map (some g),vs t k.length u,vs an x.length ao,vs ap y.length aq],wp g (ga gj) Value.pointer (jk f),vh z4f f,row (vs t k.length u) 238 7 (k.flatMap vt)] Ek Z)(aX:ZS Z 4 (u5 Z) Q R a.fM)(aY:ZS Z 4 (fc Z) S T a.y9)(aZ:ZS Z 4 (rq ml) V W a.fS)(a0:ZS Z 4 (rq m7) X Y a.fK)(a1:ZS Z 7 (fa Z) aa ab a.ya)(a2:ZS Z 5 (rq mg) ad ae a.yc)(a3:ZS Z 3 (fe Z) af ag a.fU)(a4:ZS Z 4 (rq j5) ah ai a.y8)(aD:ZS Z 1 (m8 Z) aj ak d)(aE:ZS Z 3 (rq Ym) al am b)(a5:mq f=aB)(a6:ZS Z 3 (rq sm) an ao x)(a7:ZS Z 3 (rq sm) ap aq y)(iA:Ho Ek [stb n 167 [vs Q a.fM.length R,vs S a.y9.length T,vs V a.fS.length W,vs X a.fK.length Y,vs aa a.ya.length ab,vs ad a.yc.length ae,vs af a.fU.length ag,vs ah a.y8.length ai,vs aj d.length ak,vs al b.length am,.map (some g),vs t k.length u,vs an x.length ao,vs ap y.length aq],wp g (ga gj) Value.pointer (jk f),vh z4f f,row (vs t k.length u) 238 7 (k.flatMap vt)]):
  Calls Tryz.prog 48 #[vp n,vi ax,vi z,vi B,vi c] Ek fun e w'=>∃ az:Option Addr,∃ aA:Nat,e = .returned (.tuple #[])/\True/\Hp (fps [stb n 167 [vs Q a.fM.length R,vs S a.y9.length T,vs V a.fS.length W,vs X a.fK.length Y,vs aa a.ya.length ab,vs ad a.yc.length ae,vs af a.fU.length ag,vs ah a.y8.length ai,vs aj d.length ak,vs al b.length am,.map (some g),vs t k.length u,vs an x.length ao,vs ap y.length aq],wp g (ga gj) Value.pointer (jk f),vh z4f f,row (vs t k.length u) 238 7 (k.flatMap vt)]) Ek w' [stb n 167 [vs Q a.fM.length R,vs S a.y9.length T,vs V a.fS.length W,vs X a.fK.length Y,vs aa a.ya.length ab,vs ad a.yc.length ae,vs af a.fU.length ag,vs ah a.y8.length ai,vs aj d.length ak,vs al b.length am,.map (some g),vs az r.length aA,vs an x.length ao,vs ap y.length aq],row (vs az r.length aA) 238 7 (r.flatMap vt),wp g (ga gj) Value.pointer (jk f),vh z4f f]:=by
 unfold uN at h
 refine H5 func48 U iA U<|Lb<|cK h fun aF h=>D1q U<|Lf 14 wz<|Lf 15 (w7 Jq)<|Lf 16 (Ei zZn .here)<|La U<|L0 (dd:=18) (Z:=Z) (Pr:=(rq Ym)) zvy aE aF ?_
 rintro a8 a9 aG ba rfl
 refine Lf 19 (w7 Xs)<|Lf 20 (w8 wm U<|wP hz.pv aG)<|Q1n U<|Lb<|cK h fun aH h=>D1q U<|Lf 22 wz<|Lf 23 (w7 FC)<|Lf 24 (Ei zZ2 .here)<|La U<|L0 (dd:=26) (Z:=Z) (Pr:=(m8 Z)) zgU aD aH ?_
 rintro bb bc aI bd ⟨aJ,aK,rfl,aL⟩
 refine Lf 27 (w8 zfm U<|vx hz.pv aI)<|Lf 28 (wB underlying84)<|Q1n U ?_
 obtain⟨aC,aM,h⟩:=wE h
 let A:Value:=(vs Q a.fM.length R);let C:Value:=(vs S a.y9.length T);let D:Value:=(vs V a.fS.length W);let E:Value:=(vs X a.fK.length Y);let F:Value:=(vs aa a.ya.length ab);let G:Value:=(vs ad a.yc.length ae);let H:Value:=(vs af a.fU.length ag);let I:Value:=(vs ah a.y8.length ai);let K:Value:=(vs aj d.length ak);let L:Value:=(vs al b.length am);let M:Value:=(vs an x.length ao);let N:Value:=(vs ap y.length aq);refine Dp (fun p ar au=>(aC p=some r)) (fun p ar au=>[]) (fun p ar au=>[row (vs ar p.length au) 238 7 (p.flatMap vt),stb n 167 [A,C,D,E,F,G,H,I,K,L,(.map<|some g),vs ar p.length au,M,N],wp g (ga gj) Value.pointer (jk f),vh z4f f]) ?_ ?_
 ·let J:Value:=(vs aJ ((nth d ((nth b c).yP)).length) aK);let O:=(((nth d ((nth b c).yP)).length:Nat):Int);let P:Value:=(vi ((nth b c).yP));refine WC.block<|E6 (fun ay j m q s=>(gD d b c ax z B aC ay j m=some r)) (fun ay j m q s=>[(0,vp n),(1,vi ax),(2,vi z),(3,vi B),(4,vi c),(10,P),(27,J),(28,vi O),(29,vi j)]) (fun ay j m q s=>[row (vs q m.length s) 238 7 (m.flatMap vt),stb n 167 [A,C,D,E,F,G,H,I,K,L,(.map<|some g),vs q m.length s,M,N],wp g (ga gj) Value.pointer (jk f),vh z4f f]) (fun ay j m q s=>ay) ⟨wr,0,k,t,u⟩ h .q (.s4 .h3 .here .here .here) ?_
  rintro(_|aV) j m q s h;·cases h
  rw[gD] at h
  refine B1n U<|Lb<|Lj h (fun aN h=>?_)<|fun aN h=>?_
  ·refine Ec<|jK1 h fun aW aO h=>Nf (fun o av aw=>(aW o=some r)) (fun o av aw=>[(0,vp n),(1,vi ax),(2,vi z),(3,vi B),(4,vi c),(10,P),(27,J),(28,vi O),(29,vi j)]) (fun o av aw=>[row (vs av o.length aw) 238 7 (o.flatMap vt),stb n 167 [A,C,D,E,F,G,H,I,K,L,(.map<|some g),vs av o.length aw,M,N],wp g (ga gj) Value.pointer (jk f),vh z4f f]) ?_ ?_
   ·refine WC.block<|Lb<|cK h fun aP h=>Le<|L0 (dd:=31) (Z:=Z) (Pr:=(rq mG)) zaL aL aP ?_
    rintro be bf aQ bg rfl
    refine Lf 32 (we z7e (vy hz.pv aQ)) (Lh 12 (wn (cs:=[vi 0,vi 0,vi 0]) zgV) fun bh _=>Ll (wl zfk .here)<|Q0n<|B0q<|Lf 33 (w7 jV)<|Lf 34 (Ei wm .here)<|Q2n U<|Lj h (fun aR h=>?_)<|fun aR h=>?_)
    ·refine bK h fun bi aS h=>Lv (fun i=>[11].contains i) []<|Lg 0 U q_m<|Lg 1 U wz<|Lg 2 U (w7 W8)<|Li 3 U (ez underlying236 U U)<|Lg 4 U q_m<|Lg 5 U q_m<|Lg 6 U q_m<|Lg 7 U q_m<|Li 8 U (we z7e (wh .here))<|Lg 9 U (wN (v:=(.agg #[vi z,vi B,P,vi c,(vi<|(nth (nth d<|(nth b c).yP) j).y6),(vi<|(nth (nth d<|(nth b c).yP) j).fX),(vi<|(nth (nth d<|(nth b c).yP) j).fQ)])) (Lt (l:=[.tmp 41,.tmp 42,.tmp 43,.tmp 44,.tmp 45]) (.r5 U U U U U) [0,1,2,3,4]) (fun _=>by kernel_rfl))<|Li 10 U (ez underlying238 U U)<|WD.call2 (i:=11) (dd:=48) U (by kernel_rfl) U (.inl ⟨U,fun _ _=>(wS.of .nil)⟩) (Eh call102) (.s2 .h2 .h1) (cc hz (.s2 .h2 .h1) fun w pz ho=>n7 _ _ _ _ _ _ _ _ _ _ _ _ _ _ _ _ _ _ _ _ aS pz  ho) ?_
     rintro aT aU _
     exact Eo (by kernel_rfl)<|Lq<|Lp ⟨m++([(⟨z,B,(nth b c).yP,c,(⟨(nth (nth d<|(nth b c).yP) j).y6,(nth (nth d<|(nth b c).yP) j).fX,(nth (nth d<|(nth b c).yP) j).fQ⟩:zg)⟩:y7)]:List y7),aT,aU⟩ h .q<|.s4 .h1 .here .h1 .h1
    ·exact Ep<|Lq<|Lp ⟨m,q,s⟩ h .q<|.s4 .h1 .h1 .h1 .h1
   ·rintro o av aw h
    replace h:=(aO o).symm.trans h
    exact D2q U<|WL.nil<|Em ⟨aV,i64 (j+1),o,av,aw⟩ h (Nat.lt_succ_self _) .q<|.a4
  ·exact En<|Ln<|Ln<|Lu<|Lp ⟨m,q,s⟩ h .nil<|.a4
 ·rintro p ar au h
  replace h:=(aM p).symm.trans h
  exact oJ h▸Nj results48 .nil fun w hw=>⟨ar,au,ui,trivial,hw.sub (.s4 .h1 .here .here .here)⟩
def f7(a:Int)(b:Int)(c:Option Bool):Nat->Option Bool
 | 0=>none
 | d+1=>if (decide ((i64 ((i64 (2*a))+1))>=b))||(decide ((i64 ((i64 (2*a))+1))<0)) then c else none
def tU(d:List y7)(a:Int)(b:Int):Option Bool:=
 uo (some (decide (a>a))) fun c=>f7 a b c wr
theorem n8(Z d f g e a b r)(h:tU e a b=some r){Ek}(hz:PZ [] Ek Z)(m:ZS Z 7 (rq vt) f g e)(n:ZC Z d [vs f e.length g]):
  RC 158 #[.iface 236 (vq d),vi a,vi b] Ek (.bool r) [] []:=by
 unfold tU at h
 refine Ng func158 U U<|B1n U<|B2n U<|jK0 h fun i j h=>Nh (i=some r) ([(1,vi a),(7,vi a)]) ([]) ?_ ?_
 ·refine WC.block<|N2 (fun c=>(f7 a b i c=some r)) (fun c=>[(0,(.iface 236<|vq d)),(1,vi a),(2,vi b),(7,vi a)]) (fun c=>[]) (fun c=>c) wr h .q .nil ?_
  rintro(_|o) h;·cases h
  rw[f7] at h
  let A:=(i64 ((i64 (2*a))+1));refine WC.block<|B4n U<|Lb<|Lb<|Le<|La U<|La U<|La U<|La U<|Lx false 2 18 (B:=(decide (A>=b))||(decide (A<0))) (fun h=>(jB h).symm) (fun _ k=>?_) ?_
  ·exact Q3q U<|Ly (jC k) U .all
  refine Q0n<|Lj h (fun l h=>?_)<|fun l h=>?_
  ·exact En<|Ln<|Hc U<|Ln<|Lu<|Lp () h .q .nil
  ·cases h
 ·rintro  h
  replace h:=j.symm.trans h
  exact B4n U<|El<|oJ h▸Ea results158
def sC(a:List y7):Option y7:=
 chk (0<=(i64 ((a.length:Int)-1))/\(i64 ((a.length:Int)-1))<a.length) (chk (0<=(i64 ((a.length:Int)-1))/\(i64 ((a.length:Int)-1))<=a.length) (some (⟨(nth a (i64 ((a.length:Int)-1))).yw,(nth a (i64 ((a.length:Int)-1))).xa,(nth a (i64 ((a.length:Int)-1))).xi,(nth a (i64 ((a.length:Int)-1))).yH,(⟨((nth a (i64 ((a.length:Int)-1))).yp).y6,((nth a (i64 ((a.length:Int)-1))).yp).fX,((nth a (i64 ((a.length:Int)-1))).yp).fQ⟩:zg)⟩:y7)))
theorem nN(Z d b c f g j k m n o p q s t u v a r)(h:sC a=some r){Ek}(hz:Pz [stb d 167 [f,g,j,k,m,n,o,p,q,s,t,vs b a.length c,u,v],row (vs b a.length c) 238 7 (a.flatMap vt)] Ek Z)(iA:Ho Ek [stb d 167 [f,g,j,k,m,n,o,p,q,s,t,vs b a.length c,u,v],row (vs b a.length c) 238 7 (a.flatMap vt)]):
  Calls Tryz.prog 324 #[.pointer (some ⟨d,11,none⟩)] Ek fun e w'=>∃ y:Option Addr,∃ z:Nat,e = .returned (.iface 238 (.agg #[vi r.yw,vi r.xa,vi r.xi,vi r.yH,vi r.yp.y6,vi r.yp.fX,vi r.yp.fQ]))/\True/\Hp (fps [stb d 167 [f,g,j,k,m,n,o,p,q,s,t,vs b a.length c,u,v],row (vs b a.length c) 238 7 (a.flatMap vt)]) Ek w' [stb d 167 [f,g,j,k,m,n,o,p,q,s,t,vs y ((a.take ((i64 ((a.length:Int)-1)):Int).toNat).length) z,u,v],row (vs y ((a.take ((i64 ((a.length:Int)-1)):Int).toNat).length) z) 238 7 ((a.take ((i64 ((a.length:Int)-1)):Int).toNat).flatMap vt)]:=by
 unfold sC at h
 refine N7 func324 U iA U<|B1n U<|B1q U<|Lf 6 wz<|Lf 7 (Ei zvz .here)<|Q1n U<|Lb<|cK h fun x h=>D2q U<|Lf 10 (wB underlying165)<|La U<|Es (fun w hw=>Hp.vr .h1 hw (by intro nd;have:=x;rw[nd] at this;omega)) ?_
 rintro⟨E,rfl⟩
 let A:=(i64 ((a.length:Int)-1));refine Lf 12 (wL zgY x.1 x.2 vB)<|Lf 13 (wX (cs:=(vt<|nth a A)) zvA<|gV .h1<|qm (enc:=vt) (l:=a) (i:=i64 ((a.length:Int)-1)) (sz:=7) (fun _=>U) x.1 x.2)<|Lh 4 (wn (cs:=[vi 0,vi 0,vi 0,vi 0,vi 0,vi 0,vi 0]) zZp) ?_
 intro F _
 refine Ll (wl zHP .here)<|Q0n<|Lb<|cK h fun D h=>D3q U<|Lf 17 (wB underlying165)<|La U (C7 (dd:=19) (enc:=vt) (ls:=a) U U zgY U U .h2 (fun _=>U) D fun B C=>Lf 20 wz<|Ll (vg (ds:=[f,g,j,k,m,n,o,p,q,s,t,vs B ((a.take (A:Int).toNat).length) C,u,v]) zZo .h2)<|Q0n<|B0q<|Lf 21 (we zvA (wh .h2))<|Lf 22 (ez underlying238 U U)<|Q1n U<|El ?_)
 exact oJ h▸Lk results324 (.tmp U .nil) fun w hw=>⟨B,C,wx,trivial,hw.sub .a2⟩
def sD(b:List y7):Option (y7×List y7):=
 (uk b).bind fun c=>(sB b 0 (i64 (c-1))).bind fun a=>(tU a 0 (i64 (c-1))).bind fun e=>(sC a).bind fun d=>some (d,a.take ((i64 ((a.length:Int)-1)):Int).toNat)
theorem nO(Z d b c f g i j k m n o p q t u v a r)(h:sD a=some r){Ek}(hz:Pz [stb d 167 [f,g,i,j,k,m,n,o,p,q,t,vs b a.length c,u,v],row (vs b a.length c) 238 7 (a.flatMap vt)] Ek Z)(iA:Ho Ek [stb d 167 [f,g,i,j,k,m,n,o,p,q,t,vs b a.length c,u,v],row (vs b a.length c) 238 7 (a.flatMap vt)]):
  Calls Tryz.prog 103 #[.iface 236 (.pointer (some ⟨d,11,none⟩))] Ek fun e w'=>∃ x:Option Addr,∃ y:Nat,e = .returned (.iface 238 (.agg #[vi r.1.yw,vi r.1.xa,vi r.1.xi,vi r.1.yH,vi r.1.yp.y6,vi r.1.yp.fX,vi r.1.yp.fQ]))/\True/\Hp (fps [stb d 167 [f,g,i,j,k,m,n,o,p,q,t,vs b a.length c,u,v],row (vs b a.length c) 238 7 (a.flatMap vt)]) Ek w' [stb d 167 [f,g,i,j,k,m,n,o,p,q,t,vs x r.2.length y,u,v],row (vs x r.2.length y) 238 7 (r.2.flatMap vt)]:=by
 unfold sD at h
 refine N7 func103 U iA U<|B1n U<|Lb<|bK h fun J A h=>D1q U<|Lm 5 (cO (l:=[]) XR call320 U (wc .here U) .nil) .nil (kb hz .nil (.cons .h1 .nil) fun w pz ho la=>iz _ _ _ _ _ A pz<|ZA.row (la _ (.head _) _) (RR.flat (enc:=vt) (fun _=>U) _) ⟨w,pz.1⟩)<|Q2n U<|Lb<|bK h fun z B h=>D2q U<|Nu (dd:=9) U (cO (l:=[.const (vi 0),.tmp 8]) Jv call322 U (wc .here U)<|.r2 U U) (.cons .h1 .nil) (cc hz (.cons .h1 .nil) fun w pz ho=>nM _ _ _ _ _ _ _ B pz  ho) ?_
 rintro  C
 refine Nr (cs':=[f,g,i,j,k,m,n,o,p,q,t,vs b z.length c,u,v]) .h1 (by rw[C])<|Q0n<|Lb<|bK h fun H D h=>D2q U<|Lm 12 (Eh call158) .nil (kb hz .nil .a2 fun w pz ho la=>n8 _ _ _ _ _ _ _ _ D pz (ZA.row (la _ (.tail _<|.head _) _) (RR.flat (enc:=vt) (fun _=>U) _) ⟨w,pz.1⟩)<|(la _ (.head _) _).stbAt (off:=11) (s:=1) (ds:=[vs b z.length c]) U)<|Q0n<|Lb<|bK h fun I E h=>D1q U<|L7 (dd:=14) U (WM (l:=[]) (K6 _) call324 U .nil) .a2 (cc hz .a2 fun w pz ho=>nN _ _ _ _ _ _ _ _ _ _ _ _ _ _ _ _ _ _ _ E pz  ho) ?_
 rintro F G _
 exact Q1n U<|El<|oJ h▸Lk results103 (.tmp U .nil) fun w hw=>⟨F,G,wx,trivial,hw.sub .a2⟩
def Y5(a:Int)(b:Int)(c:Int):Option yt:=
 if (((((decide (a<1))||(decide (a>16)))||(decide (b<0)))||(decide (b>1000)))||(decide (c<0)))||(decide (c>1073741824)) then none else some (⟨(⟨a,b,c⟩:xu),0,0,([]:List yB)⟩:yt)
theorem KV(Z a b c r)(h:Y5 a b c=some r){Ek}(hz:PZ [] Ek Z):
  Calls Tryz.prog 159 #[vi a,vi b,vi c] Ek fun e w'=>∃ d:Nat,∃ f:Option Addr,∃ g:Nat,e = .returned (.tuple #[vp d,vi 0])/\True/\Hp [] Ek w' [stb d 316 [vi r.ys.yD,vi r.ys.yv,vi r.ys.fT,vi r.xp,vi r.xc,vs f r.yI.length g],row (vs f r.yI.length g) 319 2 (r.yI.flatMap sW)]:=by
 unfold Y5 at h
 refine Ng func159 U U<|B2n U<|Lb<|Lb<|Le<|La U<|La U<|La U<|Lx false 2 10 (B:=(decide (a<1))||(decide (a>16))) (fun h=>(jB h).symm) (fun _ i=>?_) ?_
 ·exact Q3q U<|Ly (jC i) U .all
 refine La U<|Lx false 2 14 (B:=((decide (a<1))||(decide (a>16)))||(decide (b<0))) (fun h=>(jB h).symm) (fun _ j=>?_) ?_
 ·exact Q3q U<|Ly (jC j) U .all
 refine La U<|Lx false 2 18 (B:=(((decide (a<1))||(decide (a>16)))||(decide (b<0)))||(decide (b>1000))) (fun h=>(jB h).symm) (fun _ k=>?_) ?_
 ·exact Q3q U<|Ly (jC k) U .all
 refine La U<|Lx false 2 22 (B:=((((decide (a<1))||(decide (a>16)))||(decide (b<0)))||(decide (b>1000)))||(decide (c<0))) (fun h=>(jB h).symm) (fun _ m=>?_) ?_
 ·exact Q3q U<|Ly (jC m) U .all
 refine La U<|Lx false 2 26 (B:=(((((decide (a<1))||(decide (a>16)))||(decide (b<0)))||(decide (b>1000)))||(decide (c<0)))||(decide (c>1073741824))) (fun h=>(jB h).symm) (fun _ n=>?_) ?_
 ·exact Q3q U<|Ly (jC n) U .all
 refine Q0n<|Lj h (fun o h=>?_)<|fun o h=>?_
 ·cases h
 ·refine Ec<|Lb<|Le<|La U<|La U<|La U<|Lf 33 (wN (v:=(.agg #[vi a,vi b,vi c])) (Lt (l:=[.tmp 30,.tmp 31,.tmp 32]) (.r3 U U U) [0,1,2]) (fun _=>by kernel_rfl))<|Lf 34 (wN (v:=(.agg #[vi a,vi b,vi c,vi 0,vi 0,vn])) (Lt (l:=[.tmp 33]) (.cons U .nil) [0]) (fun _=>by kernel_rfl)) (Lh 35 (wu (cs:=[vi a,vi b,vi c,vi 0,vi 0,vn])) fun p _=>Q2n U<|El<|WX.nilRow 319 2 ?_)
  exact oJ h▸Lk results159 (.tmp U<|.tmp U .nil) fun w hw=>⟨p,none,0,qq,trivial,hw.sub (.s2 .h1 .here)⟩
def lq(b:ye)(h:List (List zg))(i:List yO)(c:List (ze×yt))(j:List y7)(k:List yi)(l:List yi)(a:zg):Option (List (ze×yt)):=
 if !jD c (⟨a.y6,a.fQ⟩:ze) then rl (fun(e:Int) (f:Int)=>chk (0<=a.fQ/\a.fQ<b.fK.length) ((Y5 ((nth b.fK a.fQ).yD) e f).bind fun g=>some (wU c (⟨a.y6,a.fQ⟩:ze) g))) fun d=>if decide ((i64 (a.y6-(b.fM.length:Int)))>=0) then chk (0<=(i64 (a.y6-(b.fM.length:Int)))/\(i64 (a.y6-(b.fM.length:Int)))<b.fS.length) (d ((nth b.fS (i64 (a.y6-(b.fM.length:Int)))).yv) ((nth b.fS (i64 (a.y6-(b.fM.length:Int)))).fT)) else d 0 1073741824 else none
theorem Ws(Z y I J K L N O P Q R S T V W X Y aa ab ad ae af f d ag ah ai aj ak al c z B ap D E F a r)(h:lq c z B ap D E F a=some r){Ek}(hz:Pz [wp f (ga gj) Value.pointer (jk d),vh z4f d] Ek Z)(aC:ZS Z 4 (u5 Z) I J c.fM)(aD:ZS Z 4 (fc Z) K L c.y9)(am:ZS Z 4 (rq ml) N O c.fS)(aq:ZS Z 4 (rq m7) P Q c.fK)(aE:ZS Z 7 (fa Z) R S c.ya)(aF:ZS Z 5 (rq mg) T V c.yc)(aG:ZS Z 3 (fe Z) W X c.fU)(aH:ZS Z 4 (rq j5) Y aa c.y8)(aI:ZS Z 1 (m8 Z) ab ad z)(aJ:ZS Z 3 (rq Ym) ae af B)(an:mq d=ap)(aK:ZS Z 7 (rq vt) ag ah D)(aL:ZS Z 3 (rq sm) ai aj E)(aM:ZS Z 3 (rq sm) ak al F)(m:ZC Z y [vs I c.fM.length J,vs K c.y9.length L,vs N c.fS.length O,vs P c.fK.length Q,vs R c.ya.length S,vs T c.yc.length V,vs W c.fU.length X,vs Y c.y8.length aa,vs ab z.length ad,vs ae B.length af,.map (some f),vs ag D.length ah,vs ai E.length aj,vs ak F.length al])(iA:Ho Ek [wp f (ga gj) Value.pointer (jk d),vh z4f d]):
  Calls Tryz.prog 104 #[vq y,.agg #[vi a.y6,vi a.fX,vi a.fQ]] Ek fun e w'=>∃ q:List (ze×((Nat×(Option Addr×Nat))×yt)),e = .returned (.pointer (ww (jk q) (⟨a.y6,a.fQ⟩:ze) (none:Option Addr)))/\(mq q=r)/\Hp (fps [wp f (ga gj) Value.pointer (jk d),vh z4f d]) Ek w' [wp f (ga gj) Value.pointer (jk q),vh z4f q]:=by
 unfold lq at h
 refine Nk func104 U iA U ?_
 let A:List Value:=[vi a.y6,vi a.fX,vi a.fQ];refine B0q<|Lh 3 (wu (cs:=A)) ?_
 intro G _
 refine Q1n U<|B0q<|Lf 9 (w7 jV)<|Lf 10 (Ei wm .here)<|Lf 11 (w7 sn)<|Lf 12 (Ei wm .here)<|Lf 13 (wN (v:=(.agg #[vi a.y6,vi a.fQ])) (Lt (l:=[.tmp 10,.tmp 12]) (.r2 U U) [0,1]) (fun _=>by kernel_rfl)) (Lh 5 (wn (cs:=[vi 0,vi 0]) z1ed) fun H _=>Ll (wl z1ee .here)<|Q0n<|Lb<|Lb<|Lv nc []<|Lg 0 U q_m<|Lg 1 U wz<|Lg 2 U (w7 Wa)<|Li 3 U (w8 zNT U<|wP hz.pv m)<|Li 4 U (we zNU (wh .here))<|Li 5 U (qL (k:=(⟨a.y6,a.fQ⟩:ze)) (dflt:=(none:Option Addr)) zNV underlying163 zZq .h2)<|Lg 6 U (Mj an underlying241 U U)<|Eo (by kernel_rfl)<|Ld<|Lj h (fun ar h=>?_)<|fun ar h=>?_)
 ·refine B2n U<|jK2 h fun aB au h=>Nv (fun n o=>(aB n o=some r)) (fun n o=>[(0,vq y),(3,vp G),(5,vp H),(6,vi n),(7,vi o)]) (fun n o=>[stb G 82 A,stb H 309 [vi a.y6,vi a.fQ],wp f (ga gj) Value.pointer (jk d),vh z4f d]) ?_ ?_
  ·refine Lb<|Lv nc []<|Lg 0 U (w7 jV)<|Li 1 U (Ei wm .h1)<|Lg 2 U q_m<|Lg 3 U wz<|Lg 4 U (w7 dv)<|Lg 5 U (w7 sp)<|Li 6 U (w8 zfl U<|wP hz.pv m)<|Lg 7 U (wB underlying63)<|Lg 8 U oU<|Lg 9 U q_z<|Eo (by kernel_rfl)<|Ld<|B2n U<|Lj h (fun av h=>?_)<|fun av h=>?_
   ·refine cK h fun ao h=>Lv nc []<|Lg 0 U q_m<|Lg 1 U wz<|Lg 2 U (w7 dv)<|Lg 3 U (w7 cq)<|Li 4 U (w8 zrH U<|wP hz.pv m)<|Lg 5 U q_m<|L8 (j:=6) (dd:=38) (by kernel_rfl) z2W z2X (Z:=Z) (Pr:=(rq ml)) zrG am ao ?_
    rintro aN aO aw aP rfl
    refine Lg 7 U (w7 nw)<|Li 8 U (w8 wm U<|wP hz.pv aw)<|Lg 9 U q_m<|Lg 10 U wz<|Lg 11 U (w7 dv)<|Lg 12 U (w7 cq)<|Li 13 U (w8 zrH U<|wP hz.pv m)<|Lg 14 U q_m<|L8 (j:=15) (dd:=47) (by kernel_rfl) z2W z2X (Z:=Z) (Pr:=(rq ml)) zrG am ao ?_
    rintro aQ aR ax aS rfl
    refine Lg 16 U (w7 VJ)<|Li 17 U (w8 wm U<|wP hz.pv ax)<|Lg 18 U q_z<|Lg 19 U q_z<|Eo (by kernel_rfl) ?_
    let C:=(i64 (a.y6-(c.fM.length:Int)));exact Lp ⟨(nth c.fS C).yv,(nth c.fS C).fT⟩ h .q<|.s4 .h1 .here .here .here
   ·exact Ep<|Lp ⟨0,1073741824⟩ h .q<|.s4 .h1 .here .here .here
  ·rintro n o h
   replace h:=(au n o).symm.trans h
   refine cK h fun ay h=>bK h fun s az h=>Lv (fun i=>[21].contains i) []<|Lg 0 U q_m<|Lg 1 U wz<|Lg 2 U (w7 Wa)<|Li 3 U (w8 zNT U<|wP hz.pv m)<|Li 4 U (we zNU (wh .h1))<|Lg 5 U q_m<|Lg 6 U wz<|Lg 7 U (w7 dv)<|Lg 8 U (w7 pV)<|Li 9 U (w8 zjY U<|wP hz.pv m)<|Lg 10 U (w7 sn)<|Li 11 U (Ei wm .here)<|L8 (j:=12) (dd:=63) (by kernel_rfl) z2W z2X (Z:=Z) (Pr:=(rq m7)) znN aq ay ?_
   rintro aT aU aA aV rfl
   refine Lg 13 U (w7 lF)<|Li 14 U (w8 wm U<|wP hz.pv aA)<|Lg 15 U q_m<|Lg 16 U q_m<|WD.call3 (i:=17) (dd:=68) U (by kernel_rfl) U U U (.inr U) (Eh call159) .nil (cc hz .nil fun w pz ho=>KV _ _ _ _ _ az pz ) ?_
   rintro p t u _
   exact Lg 18 U q_m<|Lg 19 U vF<|Lg 20 U vF<|WD.forced0 (i:=21) U (by kernel_rfl) (wS.of .nil) (kn (k:=(⟨a.y6,a.fQ⟩:ze)) (v:=(some ⟨p,0,none⟩:Option Addr)) zNV underlying163 .h4)<|E8 (fun _ h=>Hp.KG (els:=z4f) (k:=(⟨a.y6,a.fQ⟩:ze)) (b:=p) (g:=(t,u)) (x:=s) .h5 (.s2 .h1 .h1) h)<|E8 (M:=[wp f (ga gj) Value.pointer (jk<|wU d (⟨a.y6,a.fQ⟩:ze) ((p,(t,u)),s)),vh z4f (wU d (⟨a.y6,a.fQ⟩:ze) ((p,(t,u)),s)),stb G 82 A,stb H 309 [vi a.y6,vi a.fQ]]) (fun _ h=>Hp.aA .h1 (Q9 _ _ _ _ _).symm h)<|Eo (by kernel_rfl)<|Ld<|Lb<|Lv nc []<|Lg 0 U q_m<|Lg 1 U wz<|Lg 2 U (w7 Wa)<|Li 3 U (w8 zNT U<|wP hz.pv m)<|Li 4 U (we zNU (wh .h3))<|Li 5 U (qL (k:=(⟨a.y6,a.fQ⟩:ze)) (dflt:=(none:Option Addr)) zNV underlying163 zZq .here)<|Lg 6 U q_z<|Eo (by kernel_rfl)<|Ld<|El<|oJ h▸Lk results104 (.tmp U .nil) fun w hw=>⟨wU d (⟨a.y6,a.fQ⟩:ze) ((p,(t,u)),s),wx,df an _ _ _,hw.sub .a2⟩
 ·cases h
def ri(a:yt):Option Bool:=
 some (decide (a.ys.yD=0))
theorem dI(Z b c d a r)(h:ri a=some r){Ek}(hz:PZ [] Ek Z)(f:ZS Z 2 (rq sW) c d a.yI)(e:ZC Z b [vi a.ys.yD,vi a.ys.yv,vi a.ys.fT,vi a.xp,vi a.xc,vs c a.yI.length d]):
  RC 160 #[vq b] Ek (.bool r) [] []:=by
 unfold ri at h
 exact L3 func160 U U<|B1n U<|B1q U<|Lf 4 (J0 underlying241 U U)<|Q2q U<|Lf 7 wz<|Lf 8 (w7 aN)<|Lf 9 (w7 Jw)<|Lf 10 (w8 wm U<|wP hz.pv e)<|La U<|La U<|La U<|WL.nil<|Ld<|El<|oJ h▸Ea results160
def se(a:yB)(b:Int):Option Bool:=
 some (decide (a.xx<=b))
theorem XG(Z b a c r)(h:se a c=some r){Ek}(hz:PZ [] Ek Z)(d:ZC Z b [vi c]):
  RC 162 #[.agg #[vi a.yZ,vi a.xx],vq b] Ek (.bool r) [] []:=by
 unfold se at h
 refine Lz func162 U U<|Lb<|Le (Lh 2 (wu (cs:=[vi a.yZ,vi a.xx])) fun e _=>Q1n U<|B0q<|Lf 4 (w7 Jx)<|Lf 5 (Ei wm .here)<|Lf 6 (w8 wm U<|vx hz.pv d)<|Q2n U<|El ?_)
 exact oJ h▸Ea results162
def qx(a:List yB)(b:Option Unit):Nat->Option Unit
 | 0=>none
 | c+1=>if decide (0<(a.length:Int)) then none else b
def k5(a:List yB)(zLw:yB->Option Bool):Option Unit:=
 uo (some ()) fun b=>qx a b wr
theorem rj(Z c d zzt zLx a zLw r)(h:k5 a zLw=some r){Ek}(hz:PZ [] Ek Z)(j:ZS Z 2 (rq sW) c d a)(k:∀ args w,(callFunc zzt args).run Tryz.prog w = .ok (.enter zzt args) w)(l:∀ w:World,PZ [] w Z->∀(x0:yB) (r:Bool),zLw x0=some r->Calls Tryz.prog zzt (([.agg #[vi x0.yZ,vi x0.xx]]:List Value)++zLx).toArray w fun e w'=>e = .returned (.bool r)/\Hp [] w w' []):
  RC 204 #[vs c a.length d,.func (.func zzt) #[] (zLx).toArray] Ek (vi (-1)) [] []:=by
 unfold k5 at h
 refine Lz func204 U U<|B1n U<|jK0 h fun f g h=>Nh (f=some r) ([]) ([]) ?_ ?_
 ·refine B1q U<|Lf 7 (wB underlying314)<|Q1n U<|WC.block<|N2 (fun b=>(qx a f b=some r)) (fun b=>[(0,vs c a.length d),(1,.func (.func zzt) #[] (zLx).toArray),(7,vi (a.length:Int)),(8,vi 0)]) (fun b=>[]) (fun b=>b) wr h .q .nil ?_
  rintro(_|m) h;·cases h
  rw[qx] at h
  refine B1n U<|Lb<|Lj h (fun i h=>?_)<|fun i h=>?_
  ·cases h
  ·exact En<|Ln<|Ln<|Lu<|Lp () h .nil .nil
 ·rintro  h
  replace h:=g.symm.trans h
  refine B1n U<|El ?_
  skip
  exact Lk results204 (.tmp U .nil)<|fun w hw=>⟨wx,hw.sub .nil⟩
def jI(a:List yB)(zzw:yB->Option Bool):Option Unit:=
 (k5 a zzw).bind fun b=>some ()
theorem sQ(Z b c zzx zLy a zzw r)(h:jI a zzw=some r){Ek}(hz:PZ [] Ek Z)(d:ZS Z 2 (rq sW) b c a)(f:∀ args w,(callFunc zzx args).run Tryz.prog w = .ok (.enter zzx args) w)(g:∀ w:World,PZ [] w Z->∀(x0:yB) (r:Bool),zzw x0=some r->Calls Tryz.prog zzx (([.agg #[vi x0.yZ,vi x0.xx]]:List Value)++zLy).toArray w fun e w'=>e = .returned (.bool r)/\Hp [] w w' []):
  RC 161 #[vs b a.length c,.func (.func zzx) #[] (zLy).toArray] Ek (vs b a.length c) [] []:=by
 unfold jI at h
 refine Lz func161 U U<|B1n U<|Lb<|bK h fun j i h=>D2q U<|Eg call204 hz (fun pz=>rj _ _ _ (zzt:=zzx) (zLx:=zLy) _ (zLw:=zzw) _ i pz d f g)<|Q1n U<|Lb<|B1q U<|Lf 12 uh<|Q0n<|Er (fun h'=>?_)<|fun h'=>(by cases h')
 clear h'
 refine B2n U<|El<|L4 ?_
 skip
 exact Lk results161 (.tmp U .nil)<|fun w hw=>⟨wx,hw.sub .nil⟩
def tD(a:yB)(b:Int):Option Bool:=
 some (decide (a.xx>b))
theorem Xa(Z b a c r)(h:tD a c=some r){Ek}(hz:PZ [] Ek Z)(d:ZC Z b [vi c]):
  RC 206 #[.agg #[vi a.yZ,vi a.xx],vq b] Ek (.bool r) [] []:=by
 unfold tD at h
 refine Lz func206 U U<|Lb<|Le (Lh 2 (wu (cs:=[vi a.yZ,vi a.xx])) fun e _=>Q1n U<|B0q<|Lf 4 (w7 Jx)<|Lf 5 (Ei wm .here)<|Lf 6 (w8 wm U<|vx hz.pv d)<|Q2n U<|El ?_)
 exact oJ h▸Ea results206
def tE(a:yt)(b:Option Unit):Nat->Option Unit
 | 0=>none
 | c+1=>if decide (0<(a.yI.length:Int)) then none else b
def iB(a:yt)(zLA:yB->Option Bool):Option Unit:=
 uo (some ()) fun b=>tE a b wr
theorem Va(Z f c d zzy zLB a zLA r)(h:iB a zLA=some r){Ek}(hz:PZ [] Ek Z)(l:ZS Z 2 (rq sW) c d a.yI)(i:ZC Z f [vi a.ys.yD,vi a.ys.yv,vi a.ys.fT,vi a.xp,vi a.xc,vs c a.yI.length d])(m:∀ args w,(callFunc zzy args).run Tryz.prog w = .ok (.enter zzy args) w)(n:∀ w:World,PZ [] w Z->∀(x0:yB) (r:Bool),zLA x0=some r->Calls Tryz.prog zzy (([.agg #[vi x0.yZ,vi x0.xx]]:List Value)++zLB).toArray w fun e w'=>e = .returned (.bool r)/\Hp [] w w' []):
  RC 205 #[vq f,.func (.func zzy) #[] (zLB).toArray] Ek (vi 0) [] []:=by
 unfold iB at h
 refine Lz func205 U U<|B1n U<|B1n U<|jK0 h fun g j h=>Nh (g=some r) ([(5,vi 0)]) ([]) ?_ ?_
 ·refine B1q U<|Lf 9 wz<|Lf 10 (w7 dw)<|Lf 11 (w8 zNW U<|wP hz.pv i)<|Lf 12 (wB underlying314)<|Q1n U<|WC.block<|N2 (fun b=>(tE a g b=some r)) (fun b=>[(1,.func (.func zzy) #[] (zLB).toArray),(5,vi 0),(11,vs c a.yI.length d),(12,vi (a.yI.length:Int)),(13,vi 0)]) (fun b=>[]) (fun b=>b) wr h .q .nil ?_
  rintro(_|o) h;·cases h
  rw[tE] at h
  refine B1n U<|Lb<|Lj h (fun k h=>?_)<|fun k h=>?_
  ·cases h
  ·exact En<|Ln<|Ln<|Lu<|Lp () h (.cons U .nil) .nil
 ·rintro  h
  replace h:=j.symm.trans h
  refine B2n U<|El ?_
  skip
  exact Lk results205 (.tmp U .nil)<|fun w hw=>⟨wx,hw.sub .nil⟩
def lr(a:yt)(c:Int):Option Unit:=
 (ri a).bind fun b=>if b then none else(iB a (fun(y0:yB)=>tD y0 (max c a.xp))).bind fun d=>some ()
theorem Wt(Z d e f a b r)(h:lr a b=some r){Ek}(hz:PZ [] Ek Z)(g:ZS Z 2 (rq sW) e f a.yI)(c:ZC Z d [vi a.ys.yD,vi a.ys.yv,vi a.ys.fT,vi a.xp,vi a.xc,vs e a.yI.length f]):
  RC 163 #[vq d,vi b] Ek (vi 0) [] []:=by
 unfold lr at h
 refine Lz func163 U U<|Lb<|Le (Lh 3 (wu (cs:=[vi b])) fun j _=>Q1n U<|Lb<|Lb ?_)
 refine bK h fun o k h=>D1q U<|Eg call160 hz (fun pz=>dI _ _ _ _ _ _ k pz g c)<|Q0n<|Lj h (fun m h=>?_)<|fun m h=>?_
 ·cases h
 ·refine Ec<|Lb<|Lv (fun i=>[6].contains i) []<|Li 0 U (Ei wm .here)<|Lg 1 U q_m<|Lg 2 U wz<|Lg 3 U (w7 Wb)<|Li 4 U (w8 wm U<|wP hz.pv c)<|Lg 5 U lT<|Nb (i:=6) U (by kernel_rfl) (by kernel_rfl) (wl jM .here)<|Eo (by kernel_rfl)<|Ld<|Lb<|bK h fun p n h=>D1q U<|Lf 14 (wO<|L6 (l:=[.tmp 3])<|.cons U .nil)<|Lm 15 (Eh call205) .nil (kb hz .nil (.cons .here .nil) fun w pz ho la=>Va _ _ _ _ (zzy:=206) (zLB:=[vp j]) _ (zLA:=(fun(y0:yB)=>tD y0<|max b a.xp)) _ n pz (g.mono<|zl) (c.mono<|zl) call206<|fun w' nd y0  r  hr=>Xa _ _ _ _ _ hr nd<|(la _ (.head _) _).stb)<|Q1n U<|El ?_
  skip
  exact Lk results163 (.tmp U .nil)<|fun w hw=>⟨wx,hw.sub .nil⟩
def iC(a:yt)(b:Int)(c:Int):Option (Int×yt):=
 (ri a).bind fun d=>if d then none else if (((decide (c<1))||(decide (c>72)))||(decide (b<a.xp)))||(decide (b>1073741824)) then none else(jI a.yI (fun(y0:yB)=>se y0 b)).bind fun e=>(lr ({a with xp:=b}:yt) b).bind fun f=>if decide ((i64 (0+c))>a.ys.fT) then none else chk ((((a.yI++([(⟨c,i64 ((max (i64 (b+a.ys.yv)) a.xc)+(i64 (c*a.ys.yD)))⟩:yB)]:List yB)).length:Nat):Int)*16<=140737488355328/\(((a.yI++([(⟨c,i64 ((max (i64 (b+a.ys.yv)) a.xc)+(i64 (c*a.ys.yD)))⟩:yB)]:List yB)).length:Nat):Int)<=4611686018427387904) (some (i64 ((max (i64 (b+a.ys.yv)) a.xc)+(i64 (c*a.ys.yD))),(⟨a.ys,b,i64 ((max (i64 (b+a.ys.yv)) a.xc)+(i64 (c*a.ys.yD))),a.yI++([(⟨c,i64 ((max (i64 (b+a.ys.yv)) a.xc)+(i64 (c*a.ys.yD)))⟩:yB)]:List yB)⟩:yt)))
theorem Vb(Z d f g a c b r)(h:iC a c b=some r){Ek}(hz:Pz [stb d 316 [vi a.ys.yD,vi a.ys.yv,vi a.ys.fT,vi a.xp,vi a.xc,vs f a.yI.length g],row (vs f a.yI.length g) 319 2 (a.yI.flatMap sW)] Ek Z)(iA:Ho Ek [stb d 316 [vi a.ys.yD,vi a.ys.yv,vi a.ys.fT,vi a.xp,vi a.xc,vs f a.yI.length g],row (vs f a.yI.length g) 319 2 (a.yI.flatMap sW)]):
  Calls Tryz.prog 105 #[vp d,vi c,vi b] Ek fun e w'=>∃ t:Option Addr,∃ u:Nat,e = .returned (.tuple #[vi r.1,vi 0])/\True/\Hp (fps [stb d 316 [vi a.ys.yD,vi a.ys.yv,vi a.ys.fT,vi a.xp,vi a.xc,vs f a.yI.length g],row (vs f a.yI.length g) 319 2 (a.yI.flatMap sW)]) Ek w' [stb d 316 [vi r.2.ys.yD,vi r.2.ys.yv,vi r.2.ys.fT,vi r.2.xp,vi r.2.xc,vs t r.2.yI.length u],row (vs t r.2.yI.length u) 319 2 (r.2.yI.flatMap sW)]:=by
 unfold iC at h
 refine Ey func105 U iA U<|Lb<|Le (Lh 4 (wu (cs:=[vi c])) fun k _=>Q2n U<|Lb<|WC.block<|Lb ?_)
 refine bK h fun j I h=>D1q U<|Lm 10 (Eh call160) .nil (kb hz .nil (.s2 .h1 .h1) fun w pz ho la=>dI _ _ _ _ _ _ I pz (ZA.row (la _ (.tail _<|.head _) _) (RR.flat (enc:=sW) (fun _=>U) _) ⟨w,pz.1⟩)<|(la _ (.head _) _).stb)<|Q1n U<|Lj h (fun J h=>?_)<|fun J h=>?_
 ·cases h
 ·let A:Value:=(.bool ((decide (b<1))||(decide (b>72))));let D:Value:=(.bool (decide (b<1)));refine Lb<|Lv nc []<|Lg 0 U q_m<|Lg 1 U oW<|Lg 2 U q_m<|L9 (fuel':=13) [(0,vp d),(1,vi c),(2,vi b),(4,vp k),(6,vi 0),(7,vi 0),(9,vp d),(10,.bool j),(8,.bool j),(12,vi b),(13,D),(14,D),(17,A)] (wR 19 (dn 6)) ?_<|fun x=>?_
  rotate_left
  ·rcases Bool.eq_false_or_eq_true (decide (b<1)) with hb' | hb'
   ·have m:=hb';clear hb'
    refine L2 (i:=14) U m<|Lo 3 U<|Lo 4 U<|Lg 5 U vH<|Lw .a3 ?_ x
    exact .t 11<|.r2 (zq<|Eq.symm m)<|zq<|jB m
   ·have n:=hb';clear hb'
    refine L2 (i:=14) U n<|Lg 3 U q_m<|Lg 4 U oX<|Lg 5 U vA<|Lw .a3 ?_ x
    exact .t 11<|.r2 (zq<|Eq.symm n)<|zq<|jC n
  let C:Value:=(.bool (((decide (b<1))||(decide (b>72)))||(decide (c<a.xp))));refine Lg 6 U q_m<|L9 (fuel':=5) [(0,vp d),(1,vi c),(2,vi b),(4,vp k),(6,vi 0),(7,vi 0),(9,vp d),(10,.bool j),(8,.bool j),(12,vi b),(13,D),(14,D),(17,A),(18,A),(25,C)] (wR 19 (dn 14)) ?_<|fun y=>?_
  rotate_left
  ·rcases Bool.eq_false_or_eq_true ((decide (b<1))||(decide (b>72))) with hb' | hb'
   ·have o:=hb';clear hb'
    refine L2 (i:=18) U o<|Lo 7 U<|Lo 8 U<|Lo 9 U<|Lo 10 U<|Lo 11 U<|Lo 12 U<|Lg 13 U vH<|Lw .a3 ?_ y
    exact .t 13<|.r2 (zq<|Eq.symm o)<|zq<|jB o
   ·have p:=hb';clear hb'
    refine L2 (i:=18) U p<|Li 7 U (Ei wm .here)<|Lg 8 U q_m<|Lg 9 U wz<|Lg 10 U (w7 Wb)<|Li 11 U (Ei wm .h1)<|Lg 12 U oW<|Lg 13 U vA<|Lw .a3 ?_ y
    exact .t 13<|.r2 (zq<|Eq.symm p)<|zq<|jC p
  refine Lg 14 U q_m<|L9 (fuel':=1) [(0,vp d),(1,vi c),(2,vi b),(4,vp k),(6,vi 0),(7,vi 0),(9,vp d),(10,.bool j),(8,.bool j),(12,vi b),(13,D),(14,D),(17,A),(18,A),(25,C),(26,C),(29,.bool ((((decide (b<1))||(decide (b>72)))||(decide (c<a.xp)))||(decide (c>1073741824))))] (wR 19 (dn 18)) ?_<|fun z=>?_
  rotate_left
  ·rcases Bool.eq_false_or_eq_true (((decide (b<1))||(decide (b>72)))||(decide (c<a.xp))) with hb' | hb'
   ·have q:=hb';clear hb'
    refine L2 (i:=26) U q<|Lo 15 U<|Lo 16 U<|Lg 17 U vH<|Lw .a3 ?_ z
    exact .t 15<|.r2 (zq<|Eq.symm q)<|zq<|jB q
   ·have s:=hb';clear hb'
    refine L2 (i:=26) U s<|Li 15 U (Ei wm .here)<|Lg 16 U oX<|Lg 17 U vA<|Lw .a3 ?_ z
    exact .t 15<|.r2 (zq<|Eq.symm s)<|zq<|jC s
  refine Lg 18 U q_z<|Eo (by kernel_rfl)<|Ld<|Lj h (fun K h=>?_)<|fun K h=>?_
  ·cases h
  ·let G:Value:=(vs f a.yI.length g);let E:List Value:=[vi a.ys.yD,vi a.ys.yv,vi a.ys.fT,vi c,vi a.xc,G];refine Ep<|Lq<|Ld<|B1q U<|Lf 31 (Ei wm .here)<|Lf 32 wz<|Lf 33 (w7 Wb)<|Ll (vg (ds:=E) jM .h1)<|Q0n<|Lb ?_
   refine bK h fun P L h=>D2q U<|Lf 36 wz<|Lf 37 (w7 dw)<|Lf 38 (Ei zNW .here)<|Lf 39 (wO<|L6 (l:=[.tmp 4])<|.cons U .nil)<|Lm 40 (Eh call161) .nil (kb hz .nil (.s2 .h2 .h1) fun w pz ho la=>sQ _ _ _ (zzx:=162) (zLy:=[vp k]) _ (zzw:=(fun(y0:yB)=>se y0 c)) _ L pz (ZA.row (la _ (.head _) _) (RR.flat (enc:=sW) (fun _=>U) _) ⟨w,pz.1⟩) call162<|fun w' nd y0  r  hr=>XG _ _ _ _ _ hr nd<|(la _ (.tail _<|.head _) _).stb)<|Lf 41 wz<|Lf 42 (w7 dw)<|Ll (vg (ds:=E) zZs .here)<|Q0n<|Lb<|Lb<|bK h fun Q M h=>Lv nc []<|Lg 0 U q_m<|Li 1 U (Ei wm .h1)<|L5 2 U (Eh call163) (kb hz .nil (.s2 .here .h1) fun w pz ho la=>Wt _ _ _ _ _ _ _ M pz (ZA.row (la _ (.tail _<|.head _) _) (RR.flat (enc:=sW) (fun _=>U) _) ⟨w,pz.1⟩)<|(la _ (.head _) _).stb)<|Lg 3 U q_m<|Lg 4 U fb<|Lg 5 U q_m<|Lg 6 U wz<|Lg 7 U (w7 aN)<|Lg 8 U (w7 FD)<|Li 9 U (Ei wm .here)<|Lg 10 U oX<|Eo (by kernel_rfl)<|Ld<|Lj h (fun N h=>?_)<|fun N h=>?_
   ·cases h
   ·let F:=(i64 ((max (i64 (c+a.ys.yv)) a.xc)+(i64 (b*a.ys.yD))));refine Ec<|Lb<|Lv (fun i=>[23].contains i) []<|Lg 0 U q_m<|Li 1 U (Ei wm .h1)<|Lg 2 U q_m<|Lg 3 U wz<|Lg 4 U (w7 aN)<|Lg 5 U (w7 FE)<|Li 6 U (Ei wm .here)<|Lg 7 U fb<|Lg 8 U q_m<|Lg 9 U wz<|Lg 10 U (w7 aP)<|Li 11 U (Ei wm .here)<|Lg 12 U lT<|Lg 13 U q_m<|Lg 14 U q_m<|Lg 15 U wz<|Lg 16 U (w7 aN)<|Lg 17 U (w7 Jw)<|Li 18 U (Ei wm .here)<|Lg 19 U uM<|Lg 20 U fb<|Lg 21 U wz<|Lg 22 U (w7 aP)<|Nb (i:=23) U (by kernel_rfl) (by kernel_rfl) (vg (ds:=[vi a.ys.yD,vi a.ys.yv,vi a.ys.fT,vi c,vi F,G]) jM .here)<|Eo (by kernel_rfl)<|Ld<|Lb ?_
    refine cK h fun O h=>Lv (fun i=>[12,15].contains i) []<|Lg 0 U q_m<|Lg 1 U q_m<|Lg 2 U wz<|Lg 3 U (w7 dw)<|Li 4 U (Ei zNW .here)<|Lg 5 U q_m<|Lg 6 U q_m<|Lg 7 U wz<|Lg 8 U (w7 aP)<|Li 9 U (Ei wm .here)<|Lg 10 U (wN (v:=(.agg #[vi b,(vi<|i64 ((max (i64 (c+a.ys.yv)) a.xc)+(i64 (b*a.ys.yD))))])) (Lt (l:=[.tmp 82,.tmp 86]) (.r2 U U) [0,1]) (fun _=>by kernel_rfl)) (WD.new (i:=11) (dd:=88) U (by kernel_rfl) U (wD (cs:=([(⟨b,i64 ((max (i64 (c+a.ys.yv)) a.xc)+(i64 (b*a.ys.yD)))⟩:yB)]:List yB).flatMap sW) zZt (Lt (l:=[.tmp 87]) (.cons U .nil) [0]) (fun _=>by kernel_rfl) (by unfold maxLen;omega)) (fun h'=>absurd h' (by decide)) fun R _=>WD.old (i:=12) (dd:=89) U (by kernel_rfl) U (fun _=>(wS.of .nil)) (vb (enc:=sW) (l1:=a.yI) (l2:=([(⟨b,i64 ((max (i64 (c+a.ys.yv)) a.xc)+(i64 (b*a.ys.yD)))⟩:yB)]:List yB)) zZt .h3 (fun _=>U) (wY .here) (vm Mq _) O) ?_)
    rintro⟨B,H⟩ _
    exact Lg 13 U wz<|Lg 14 U (w7 dw)<|Nb (i:=15) U (by kernel_rfl) (by kernel_rfl) (vg (ds:=[vi a.ys.yD,vi a.ys.yv,vi a.ys.fT,vi c,vi F,vs B ((a.yI++([(⟨b,i64 ((max (i64 (c+a.ys.yv)) a.xc)+(i64 (b*a.ys.yD)))⟩:yB)]:List yB)).length) H]) zZs .h2)<|Eo (by kernel_rfl)<|Ld<|B1q U<|Lf 93 wz<|Lf 94 (w7 aP)<|Lf 95 (Ei wm .here)<|Q2n U<|El<|oJ h▸Lk results105 (.tmp U<|.tmp U .nil) fun w hw=>⟨B,H,qq,trivial,hw.sub .a2⟩
def pM(f:ye)(g:List (List zg))(e:List yO)(l:List (ze×yt))(m:List y7)(d:List yi)(h:List yi):Option (List y7×List yi×(List (ze×yt))):=
 (sD m).bind fun a=>(lq f g e l a.2 d h a.1.yp).bind fun b=>chk (0<=a.1.yH/\a.1.yH<e.length) (chk (jD b (⟨a.1.yp.y6,a.1.yp.fQ⟩:ze)=true) ((iC (⟨(⟨((ww b (⟨a.1.yp.y6,a.1.yp.fQ⟩:ze) default).ys).yD,((ww b (⟨a.1.yp.y6,a.1.yp.fQ⟩:ze) default).ys).yv,((ww b (⟨a.1.yp.y6,a.1.yp.fQ⟩:ze) default).ys).fT⟩:xu),(ww b (⟨a.1.yp.y6,a.1.yp.fQ⟩:ze) default).xp,(ww b (⟨a.1.yp.y6,a.1.yp.fQ⟩:ze) default).xc,(ww b (⟨a.1.yp.y6,a.1.yp.fQ⟩:ze) default).yI⟩:yt) a.1.yw ((nth e a.1.yH).yZ)).bind fun c=>vC (fun(i:List yi)=>(uN f g e (wU b (⟨a.1.yp.y6,a.1.yp.fQ⟩:ze) c.2) a.2 i h a.1.yp.fX c.1 a.1.yp.fQ a.1.yH).bind fun k=>some (k,i,wU b (⟨a.1.yp.y6,a.1.yp.fQ⟩:ze) c.2)) fun j=>if decide (a.1.yp.fX<f.fM.length) then chk ((((d++([(⟨a.1.yH,a.1.yp.fX,c.1⟩:yi)]:List yi)).length:Nat):Int)*24<=140737488355328/\(((d++([(⟨a.1.yH,a.1.yp.fX,c.1⟩:yi)]:List yi)).length:Nat):Int)<=4611686018427387904) (j (d++([(⟨a.1.yH,a.1.yp.fX,c.1⟩:yi)]:List yi))) else j d))
theorem Xb(Z n W X Y aa ab ad ae af ag ah ai aj ak al am an ao ap aq ar f B au av p q aw ax c R S aY o d T r)(h:pM c R S aY o d T=some r){Ek}(hz:Pz [stb n 167 [vs W c.fM.length X,vs Y c.y9.length aa,vs ab c.fS.length ad,vs ae c.fK.length af,vs ag c.ya.length ah,vs ai c.yc.length aj,vs ak c.fU.length al,vs am c.y8.length an,vs ao R.length ap,vs aq S.length ar,.map (some f),vs au o.length av,vs p d.length q,vs aw T.length ax],wp f (ga gj) Value.pointer (jk B),vh z4f B,row (vs au o.length av) 238 7 (o.flatMap vt),row (vs p d.length q) 99 3 (d.flatMap sm)] Ek Z)(aG:ZS Z 4 (u5 Z) W X c.fM)(aH:ZS Z 4 (fc Z) Y aa c.y9)(aI:ZS Z 4 (rq ml) ab ad c.fS)(aJ:ZS Z 4 (rq m7) ae af c.fK)(aK:ZS Z 7 (fa Z) ag ah c.ya)(aL:ZS Z 5 (rq mg) ai aj c.yc)(aM:ZS Z 3 (fe Z) ak al c.fU)(aN:ZS Z 4 (rq j5) am an c.y8)(aO:ZS Z 1 (m8 Z) ao ap R)(aE:ZS Z 3 (rq Ym) aq ar S)(aZ:mq B=aY)(aP:ZS Z 3 (rq sm) aw ax T)(iA:Ho Ek [stb n 167 [vs W c.fM.length X,vs Y c.y9.length aa,vs ab c.fS.length ad,vs ae c.fK.length af,vs ag c.ya.length ah,vs ai c.yc.length aj,vs ak c.fU.length al,vs am c.y8.length an,vs ao R.length ap,vs aq S.length ar,.map (some f),vs au o.length av,vs p d.length q,vs aw T.length ax],wp f (ga gj) Value.pointer (jk B),vh z4f B,row (vs au o.length av) 238 7 (o.flatMap vt),row (vs p d.length q) 99 3 (d.flatMap sm)]):
  Calls Tryz.prog 49 #[vp n] Ek fun e w'=>∃ aQ:Option Addr,∃ aR:Nat,∃ aS:Option Addr,∃ aT:Nat,∃ aF:List (ze×((Nat×(Option Addr×Nat))×yt)),e = .returned (.tuple #[])/\(mq aF=r.2.2)/\Hp (fps [stb n 167 [vs W c.fM.length X,vs Y c.y9.length aa,vs ab c.fS.length ad,vs ae c.fK.length af,vs ag c.ya.length ah,vs ai c.yc.length aj,vs ak c.fU.length al,vs am c.y8.length an,vs ao R.length ap,vs aq S.length ar,.map (some f),vs au o.length av,vs p d.length q,vs aw T.length ax],wp f (ga gj) Value.pointer (jk B),vh z4f B,row (vs au o.length av) 238 7 (o.flatMap vt),row (vs p d.length q) 99 3 (d.flatMap sm)]) Ek w' [stb n 167 [vs W c.fM.length X,vs Y c.y9.length aa,vs ab c.fS.length ad,vs ae c.fK.length af,vs ag c.ya.length ah,vs ai c.yc.length aj,vs ak c.fU.length al,vs am c.y8.length an,vs ao R.length ap,vs aq S.length ar,.map (some f),vs aQ r.1.length aR,vs aS r.2.1.length aT,vs aw T.length ax],row (vs aQ r.1.length aR) 238 7 (r.1.flatMap vt),row (vs aS r.2.1.length aT) 99 3 (r.2.1.flatMap sm),wp f (ga gj) Value.pointer (jk aF),vh z4f aF]:=by
 unfold pM at h
 refine N7 func49 U iA U<|Lb<|bK h fun a a0 h=>D1q U<|Lf 6 wz<|Lf 7 (w7 W8)<|Lf 8 (ez underlying236 U U)<|L7 (dd:=9) U (Eh call103) (.s2 .here .h2) (cc hz (.s2 .here .h2) fun w pz ho=>nO _ _ _ _ _ _ _ _ _ _ _ _ _ _ _ _ _ _ _ a0 pz  ho) ?_
 rintro bb bc _
 refine Lf 10 (Je underlying238 U U) (Lh 2 (wn (cs:=[vi 0,vi 0,vi 0,vi 0,vi 0,vi 0,vi 0]) zZp) fun aC _=>Ll (wl zHP .here)<|Q0n<|Lb ?_)
 obtain⟨t,a1,h⟩:=z2 h
 obtain⟨a2,h⟩:=wa h
 obtain⟨aU,h⟩:=wa h
 obtain⟨m,a3,h⟩:=z2 h
 let E:Value:=(vs aq S.length ar);refine Lv (fun i=>[3,15].contains i) [pp aC 238 [(0,vi a.1.yw),(3,vi a.1.yH)],pp n 167 [(9,E)]]<|Lg 0 U q_m<|Lg 1 U (w7 du)<|Li 2 U (wX (cs:=[vi a.1.yp.y6,vi a.1.yp.fX,vi a.1.yp.fQ]) z7e<|qW (s:=3) .here U)<|Lg 4 U (w7 W9)<|Na 5 U (wS.wk .a2<|.stb (.cons U<|.cons U .nil)<|.stb (.cons U .nil) .nil) (w8 wm U<|mF .here<|.head _)<|Lg 6 U q_m<|Lg 7 U wz<|Lg 8 U (w7 Jq)<|Na 9 U (wS.wk .a2<|.stb (.cons U<|.cons U .nil)<|.stb (.cons U .nil) .nil) (w8 zZn U<|mF .h1<|.head _)<|Lg 10 U (w7 dq)<|Na 11 U (wS.wk .a2<|.stb (.cons U<|.cons U .nil)<|.stb (.cons U .nil) .nil) (w8 wm U<|mF .here<|.tail _<|.head _)<|L8 (j:=12) (dd:=24) (by kernel_rfl) z2W z2X (Z:=Z) (Pr:=(rq Ym)) zvy aE a2 ?_
 rintro be bf a4 bg rfl
 refine Lg 13 U (w7 VM)<|Na 14 U (wS.wk .a2<|.stb (.cons U<|.cons U .nil)<|.stb (.cons U .nil) .nil) (w8 wm U<|wP hz.pv a4)<|WD.call1 (i:=3) (dd:=15) U (by kernel_rfl) U U U (.inl ⟨U,fun _=>(wS.wk (.s2 .h2 .h2)<|.stb (.cons U<|.cons U .nil)<|.stb (.cons U .nil) .nil)⟩) (Eh call104) (.s2 .h3 .h3) (kb hz (.s2 .h3 .h3) (.s3 .h1 .h1 .h1) fun w pz ho la=>Ws _ _ _ _ _ _ _ _ _ _ _ _ _ _ _ _ _ _ _ _ _ _ _ _ _ _ _ _ _ _ _ _ _ _ _ _ _ _ _ a1 pz ((aG.mono<|zl).weak (fun _ _ h=>qn zl h)) ((aH.mono<|zl).weak (fun _ _ h=>qr zl h)) (aI.mono<|zl) (aJ.mono<|zl) ((aK.mono<|zl).weak (fun _ _ h=>vL zl h)) (aL.mono<|zl) ((aM.mono<|zl).weak (fun _ _ h=>qs zl h)) (aN.mono<|zl) ((aO.mono<|zl).weak (fun _ _ h=>qY zl h)) (aE.mono<|zl) aZ (ZA.row (la _ (.tail _<|.head _) _) (RR.flat (enc:=vt) (fun _=>U) _) ⟨w,pz.1⟩) (ZA.row (la _ (.tail _<|.tail _<|.head _) _) (RR.flat (enc:=sm) (fun _=>U) _) ⟨w,pz.1⟩) (aP.mono<|zl) ((la _ (.head _) _).stb) ho) ?_
 rintro y aD
 let C:List Value:=[vi a.1.yw,vi a.1.xa,vi a.1.xi,vi a.1.yH,vi a.1.yp.y6,vi a.1.yp.fX,vi a.1.yp.fQ];let D:Value:=(vs bb a.2.length bc);let F:Value:=(vs W c.fM.length X);let G:Value:=(vs Y c.y9.length aa);let H:Value:=(vs ab c.fS.length ad);let I:Value:=(vs ae c.fK.length af);let J:Value:=(vs ag c.ya.length ah);let K:Value:=(vs ai c.yc.length aj);let L:Value:=(vs ak c.fU.length al);let N:Value:=(vs am c.y8.length an);let O:Value:=(vs p d.length q);let P:Value:=(vs ao R.length ap);let Q:Value:=(vs aw T.length ax);let A:List Value:=[F,G,H,I,J,K,L,N,P,E,.map (some f),D,O,Q];refine Dy (fun _=>Hp.JX aD aU .h1 (fun g=>stb g.1 316 [(vi<|((ww t (⟨a.1.yp.y6,a.1.yp.fQ⟩:ze) default).ys).yD),(vi<|((ww t (⟨a.1.yp.y6,a.1.yp.fQ⟩:ze) default).ys).yv),(vi<|((ww t (⟨a.1.yp.y6,a.1.yp.fQ⟩:ze) default).ys).fT),(vi<|(ww t (⟨a.1.yp.y6,a.1.yp.fQ⟩:ze) default).xp),(vi<|(ww t (⟨a.1.yp.y6,a.1.yp.fQ⟩:ze) default).xc),vs g.2.1 (((ww t (⟨a.1.yp.y6,a.1.yp.fQ⟩:ze) default).yI).length) g.2.2]::row (vs g.2.1 (((ww t (⟨a.1.yp.y6,a.1.yp.fQ⟩:ze) default).yI).length) g.2.2) 319 2 (((ww t (⟨a.1.yp.y6,a.1.yp.fQ⟩:ze) default).yI).flatMap sW)::[vh z4f (mR (⟨a.1.yp.y6,a.1.yp.fQ⟩:ze) y),wp f (ga gj) Value.pointer (jk y),stb aC 238 C,stb n 167 A,row D 238 7 (a.2.flatMap vt),row O 99 3 (d.flatMap sm)])<|fun _=>U) ?_
 rintro⟨V,bh,bi⟩ aV
 refine Ny (i:=15) U (u:=(vp V)) (congrArg Value.pointer aV)<|WD.call2 (i:=15) (dd:=27) U (by kernel_rfl) U (.inl ⟨U,fun _ _=>(wS.wk (.s2 .h4 .h4)<|.stb (.cons U<|.cons U .nil)<|.stb (.cons U .nil) .nil)⟩) (Eh call105) .a2 (cc hz .a2 fun w pz ho=>Vb _ _ _ _ _ _ _ _ a3 pz  ho) ?_
 rintro ay az _
 refine E8 (fun _ h=>Hp.objsClose (els:=z4f) (lg:=y) (k:=(⟨a.1.yp.y6,a.1.yp.fQ⟩:ze)) (b:=V) (g:=(ay,az)) (x:=m.2) .a3 h)<|E8 (M:=[wp f (ga gj) Value.pointer (jk<|wU y (⟨a.1.yp.y6,a.1.yp.fQ⟩:ze) ((V,(ay,az)),m.2)),vh z4f (wU y (⟨a.1.yp.y6,a.1.yp.fQ⟩:ze) ((V,(ay,az)),m.2)),stb aC 238 C,stb n 167 A,row D 238 7 (a.2.flatMap vt),row O 99 3 (d.flatMap sm)]) (fun _ h=>Hp.aA .h1 (KH aD aU aV _ _) h)<|Lg 16 U q_m<|Lg 17 U vF<|Lg 18 U vF<|Lg 19 U q_z<|Lg 20 U q_z<|Eo (by kernel_rfl)<|Ld<|Lb<|B1q U<|Lf 31 kj<|Q0n<|Er (fun h'=>(by cases h'))<|fun h'=>?_
 clear h'
 refine Ec<|jK1 h fun bd a5 h=>Nf (fun z aA aB=>(bd z=some r)) (fun z aA aB=>[(0,vp n),(2,vp aC),(3,vi m.1)]) (fun z aA aB=>[row D 238 7 (a.2.flatMap vt),row (vs aA z.length aB) 99 3 (z.flatMap sm),stb n 167 [F,G,H,I,J,K,L,N,P,E,(.map<|some f),D,vs aA z.length aB,Q],stb aC 238 C,wp f (ga gj) Value.pointer (jk<|wU y (⟨a.1.yp.y6,a.1.yp.fQ⟩:ze) ((V,(ay,az)),m.2)),vh z4f (wU y (⟨a.1.yp.y6,a.1.yp.fQ⟩:ze) ((V,(ay,az)),m.2))]) ?_ ?_
 ·refine Lb<|Lv nc []<|Lg 0 U (w7 du)<|Lg 1 U (w7 fy)<|Li 2 U (Ei wm .h2)<|Lg 3 U q_m<|Lg 4 U wz<|Lg 5 U (w7 dv)<|Lg 6 U (w7 sp)<|Li 7 U (Ei zfl .h3)<|Lg 8 U (wB underlying63)<|Lg 9 U oW<|Eo (by kernel_rfl)<|Ld<|Lj h (fun a6 h=>?_)<|fun a6 h=>?_
  ·refine cK h fun a7 h=>Lv (fun i=>[13,16].contains i) []<|Lg 0 U q_m<|Lg 1 U q_m<|Lg 2 U wz<|Lg 3 U (w7 Wc)<|Li 4 U (Ei zNX .h3)<|Lg 5 U (w7 dq)<|Li 6 U (Ei wm .h2)<|Lg 7 U (w7 du)<|Lg 8 U (w7 fy)<|Li 9 U (Ei wm .h2)<|Lg 10 U q_m<|Lg 11 U (wN (v:=(.agg #[vi a.1.yH,vi a.1.yp.fX,vi m.1])) (Lt (l:=[.tmp 65,.tmp 68,.tmp 69]) (.r3 U U U) [0,1,2]) (fun _=>by kernel_rfl)) (WD.new (i:=12) (dd:=71) U (by kernel_rfl) U (wD (cs:=([(⟨a.1.yH,a.1.yp.fX,m.1⟩:yi)]:List yi).flatMap sm) zNY (Lt (l:=[.tmp 70]) (.cons U .nil) [0]) (fun _=>by kernel_rfl) (by unfold maxLen;omega)) (fun h'=>absurd h' (by decide)) fun bj _=>WD.old (i:=13) (dd:=72) U (by kernel_rfl) U (fun _=>(wS.of .nil)) (vb (enc:=sm) (l1:=d) (l2:=([(⟨a.1.yH,a.1.yp.fX,m.1⟩:yi)]:List yi)) zNY .h6 (fun _=>U) (wY .here) (vm MX _) a7) ?_)
   rintro⟨aW,aX⟩ _
   exact Lg 14 U wz<|Lg 15 U (w7 Wc)<|Nb (i:=16) U (by kernel_rfl) (by kernel_rfl) (vg (ds:=[F,G,H,I,J,K,L,N,P,E,(.map<|some f),D,vs aW ((d++([(⟨a.1.yH,a.1.yp.fX,m.1⟩:yi)]:List yi)).length) aX,Q]) z1eg .h5)<|Eo (by kernel_rfl)<|Lp ⟨d++([(⟨a.1.yH,a.1.yp.fX,m.1⟩:yi)]:List yi),aW,aX⟩ h .q<|.s6 .h6 .h1 .here .h3 .h1 .h1
  ·exact Ep<|Lp ⟨d,p,q⟩ h .q<|.s6 .h4 .h4 .h3 .h2 .here .here
 ·rintro z aA aB h
  replace h:=(a5 z).symm.trans h
  refine bK h fun bk a8 h=>D1q U<|Lf 76 (w7 du)<|Lf 77 (w7 fy)<|Lf 78 (Ei wm .h3)<|La U<|Lf 80 (w7 du)<|Lf 81 (w7 sn)<|Lf 82 (Ei wm .h3)<|Lf 83 (w7 dq)<|Lf 84 (Ei wm .h3)<|L7 (dd:=85) U (Eh call48) (.s4 .h2 .h3 .h3 .here) (kb hz (.s4 .h2 .h3 .h3 .here) (.cons .here .nil) fun w pz ho la=>iR _ _ _ _ _ _ _ _ _ _ _ _ _ _ _ _ _ _ _ _ _ _ _ _ _ _ _ _ _ _ _ _ _ _ _ _ _ _ _ _ _ _ a8 pz ((aG.mono<|zl).weak (fun _ _ h=>qn zl h)) ((aH.mono<|zl).weak (fun _ _ h=>qr zl h)) (aI.mono<|zl) (aJ.mono<|zl) ((aK.mono<|zl).weak (fun _ _ h=>vL zl h)) (aL.mono<|zl) ((aM.mono<|zl).weak (fun _ _ h=>qs zl h)) (aN.mono<|zl) ((aO.mono<|zl).weak (fun _ _ h=>qY zl h)) (aE.mono<|zl) (df aD _ _ _) (ZA.row (la _ (.head _) _) (RR.flat (enc:=sm) (fun _=>U) _) ⟨w,pz.1⟩) (aP.mono<|zl) ho) ?_
  rintro a9 ba _
  exact WL.nil<|oJ h▸Nj results49 .nil fun w hw=>⟨a9,ba,aA,aB,wU y (⟨a.1.yp.y6,a.1.yp.fQ⟩:ze) ((V,(ay,az)),m.2),ui,df aD _ _ _,hw.sub (.s5 .here .here .h2 .here .here)⟩
def tF(a:yi)(b:yi):Option Int:=
 (qH a.yw b.yw).bind fun d=>(qH a.yH b.yH).bind fun e=>(qH a.y6 b.y6).bind fun f=>(pC ([d,e,f]:List Int)).bind fun c=>some c
theorem Xc(Z a b r)(h:tF a b=some r){Ek}(hz:PZ [] Ek Z):
  RC 107 #[.agg #[vi a.yH,vi a.y6,vi a.yw],.agg #[vi b.yH,vi b.y6,vi b.yw]] Ek (vi r) [] []:=by
 unfold tF at h
 refine Lz func107 U U<|Lb<|Le (Lh 2 (wu (cs:=[vi a.yH,vi a.y6,vi a.yw])) fun m _=>Lh 3 (wu (cs:=[vi b.yH,vi b.y6,vi b.yw])) fun n _=>Q1n U<|Lb ?_)
 refine bK h fun g c h=>bK h fun j d h=>bK h fun k e h=>bK h fun o f h=>Lv nc []<|Lg 0 U (w7 VN)<|Li 1 U (Ei wm .h1)<|Lg 2 U (w7 VN)<|Li 3 U (Ei wm .here)<|L5 4 U (Eh call109) (cc hz .nil fun w pz ho=>jn _ _ _ _ c pz )<|Lg 5 U (w7 Kl)<|Li 6 U (Ei wm .h1)<|Lg 7 U (w7 Kl)<|Li 8 U (Ei wm .here)<|L5 9 U (Eh call109) (cc hz .nil fun w pz ho=>jn _ _ _ _ d pz )<|Lg 10 U (w7 Km)<|Li 11 U (Ei wm .h1)<|Lg 12 U (w7 Km)<|Li 13 U (Ei wm .here)<|L5 14 U (Eh call109) (cc hz .nil fun w pz ho=>jn _ _ _ _ e pz ) (WD.new (i:=15) (dd:=20) U (by kernel_rfl) U (wD (cs:=([g,j,k]:List Int).flatMap e3) zaM (Lt (l:=[.tmp 9,.tmp 14,.tmp 19]) (.r3 U U U) [0,1,2]) (fun _=>by kernel_rfl) (by unfold maxLen;omega)) (fun h'=>absurd h' (by decide)) fun p _=>L5 16 U (Eh call108) (kb hz .nil (.cons .here .nil) fun w pz ho la=>dy _ _ _ _ _ f pz<|ZA.row (la _ (.head _) _) (RR.flat (enc:=e3) (fun _=>U) _) ⟨w,pz.1⟩)<|Lg 17 U q_z<|Eo (by kernel_rfl)<|Ld<|El ?_)
 exact oJ h▸Ea results107
def qG(a:Int)(b:Int)(c:Option Unit):Nat->Option Unit
 | 0=>none
 | d+1=>if decide ((i64 (a+1))<b) then none else c
def kD(d:List yi)(a:Int)(b:Int)(zLG:yi->yi->Option Int):Option Unit:=
 uo (some ()) fun c=>qG a b c wr
theorem rT(Z f g zzF zLH c a d zLG r)(h:kD c a d zLG=some r){Ek}(hz:PZ [] Ek Z)(l:ZS Z 3 (rq sm) f g c)(m:∀ args w,(callFunc zzF args).run Tryz.prog w = .ok (.enter zzF args) w)(n:∀ w:World,PZ [] w Z->∀(x0:yi) (x1:yi) (r:Int),zLG x0 x1=some r->Calls Tryz.prog zzF (([.agg #[vi x0.yH,vi x0.y6,vi x0.yw],.agg #[vi x1.yH,vi x1.y6,vi x1.yw]]:List Value)++zLH).toArray w fun e w'=>e = .returned (vi r)/\Hp [] w w' []):
  RC 207 #[vs f c.length g,vi a,vi d,.func (.func zzF) #[] (zLH).toArray] Ek (.tuple #[]) [] []:=by
 unfold kD at h
 refine Nl func207 U U<|B3n U<|jK0 h fun i j h=>H3 (i=some r) ([]) ([]) ?_ ?_
 ·refine WC.block<|N2 (fun b=>(qG a d i b=some r)) (fun b=>[(0,vs f c.length g),(1,vi a),(2,vi d),(3,.func (.func zzF) #[] (zLH).toArray),(8,(vi<|i64 (a+1)))]) (fun b=>[]) (fun b=>b) wr h .q .nil ?_
  rintro(_|o) h;·cases h
  rw[qG] at h
  refine Lb<|B3n U<|Lj h (fun k h=>?_)<|fun k h=>?_
  ·cases h
  ·exact En<|Ln<|Ln<|Lu<|Lp () h .nil .nil
 ·rintro  h
  replace h:=j.symm.trans h
  skip
  exact Nj results207 .nil<|fun w hw=>⟨ui,hw.sub .nil⟩
end Go.Proofs.YtaefhckdgfpeaaaGreat
