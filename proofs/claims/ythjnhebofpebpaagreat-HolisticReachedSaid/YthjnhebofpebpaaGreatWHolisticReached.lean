/- A part of this claim's proof: models of functions, walks, plain laws. No conditions. -/
import Derived.Test.YthjnhebofpebpaaGreatW36m
set_option linter.all false
namespace Go.Proofs.YthjnhebofpebpaaGreat
open Go Go.RowKit Sep Tryz
set_option maxRecDepth 30000
set_option maxHeartbeats 4000000
def qQ(zf:zu)(z7E:Int)(c:(List yu)->Option Bool):Nat->Int->(List yu)->Option Bool
 | 0,_,_=>none
 | e+1,a,b=>if decide (a<((([]:List yu)++zf.fS).length:Int)) then qI (fun(f:List yu)=>qQ zf z7E c e (i64 (a+1)) f) fun d=>chk (0<=a/\a<b.length) (if decide (((nth b a).yQ)=z7E) then chk (0<=a/\a<b.length) (d (b.set (a:Int).toNat ({(nth b a) with fT:=1073741824}:yu))) else d b) else c b
def qR(b:yL×Int)(c:List yh×List yh×Int)(d:Int)(zf:zu)(e:Option Bool):Nat->Int->Option Bool
 | 0,_=>none
 | f+1,a=>if decide (a<b.1.yy.length) then chk (0<=a/\a<b.1.yy.length) ((if decide (((nth c.1 d).ya)=((nth b.1.yy a).ya)) then(if decide (((nth c.1 d).yb)>((nth b.1.yy a).yl)) then some true else(ta zf).bind fun g=>some (g&&(decide (((nth c.1 d).yb)≠((nth b.1.yy a).yl))))).bind fun h=>some h else some false).bind fun i=>if i then some false else qR b c d zf e f (i64 (a+1))) else e
def qS(b:List yh×List yh×Int)(c:yL×Int)(zf:zu)(d:Option Bool):Nat->Int->Option Bool
 | 0,_=>none
 | e+1,a=>if decide (a<b.1.length) then mZ (qS b c zf d e (i64 (a+1))) fun f=>chk (0<=a/\a<b.1.length) (mZ f fun g=>qR c b a zf g xR 0) else d
def mK(zf:zu)(z7E:Int)(z1a:List (List zd))(z1q:Int):Option Bool:=
 (ob zf z1a).bind fun d=>(if !d then some true else(kE zf z7E z1a).bind fun e=>some (!e)).bind fun f=>if f||(decide ((zf.yc.length:Int)=0)) then(tz).bind fun g=>some g else chk (((zf.yc.length:Int):Int)≠0) (chk (0<=(z1a.length:Int)/\((z1a.length:Int):Int)<=z1a.length/\((z1a.length:Int):Int)*24<=140737488355328/\((z1a.length:Int):Int)<=4611686018427387904) (chk (0<=(Int.tmod (i64 z1q) (zf.yc.length:Int))/\(Int.tmod (i64 z1q) (zf.yc.length:Int))<z1a.length) (chk (0<=(Int.tmod (i64 z1q) (zf.yc.length:Int))/\(Int.tmod (i64 z1q) (zf.yc.length:Int))<(((List.replicate ((z1a.length:Int):Int).toNat ([]:List zd)).length:Nat):Int)) (chk (((([]:List yu)++zf.fS).length:Int)*40<=140737488355328/\((([]:List yu)++zf.fS).length:Int)<=4611686018427387904) (qI (fun(c:List yu)=>(me ({zf with fS:=c}:zu) z7E ((List.replicate ((z1a.length:Int):Int).toNat ([]:List zd)).set ((Int.tmod (i64 z1q) (zf.yc.length:Int)):Int).toNat (nth z1a (Int.tmod (i64 z1q) (zf.yc.length:Int))))).bind fun a=>chk ((decide (a.2≠0))=false->(0<=(Int.tmod (i64 z1q) (zf.yc.length:Int))/\(Int.tmod (i64 z1q) (zf.yc.length:Int))<z1a.length)) (if (decide (a.2≠0))||(decide ((((nth z1a (Int.tmod (i64 z1q) (zf.yc.length:Int))).length:Nat):Int)=0)) then(tz).bind fun h=>some h else chk (0<=(Int.tmod (i64 z1q) (zf.yc.length:Int))/\(Int.tmod (i64 z1q) (zf.yc.length:Int))<zf.yc.length) ((tA ({zf with fS:=c}:zu) z7E ((List.replicate ((z1a.length:Int):Int).toNat ([]:List zd)).set ((Int.tmod (i64 z1q) (zf.yc.length:Int)):Int).toNat (nth z1a (Int.tmod (i64 z1q) (zf.yc.length:Int)))) ([(⟨0,Int.tmod (i64 z1q) (zf.yc.length:Int),(nth zf.yc (Int.tmod (i64 z1q) (zf.yc.length:Int))).yA⟩:yW)]:List yW)).bind fun b=>if (decide (b.2.2≠0))||(decide ((b.1.length:Int)≠(a.1.yy.length:Int))) then some false else mZ ((tz).bind fun i=>some i) fun j=>qS b a zf j xR 0))) fun k=>qQ zf z7E k xR 0 (([]:List yu)++zf.fS))))))
theorem bC(Z z8v z8w z8x z8y zdA zdB z8z z8A z8B z8C z8D z8E z8F z8G z8H z8I zt2 zt3 zf z7E z1a z1q r)(h:mK zf z7E z1a z1q=some r){Nx}(hz:PZ [] Nx Z)(ai:ZS Z 4 (kr Z) z8v z8w zf.fM)(aj:ZS Z 4 (g5 Z) z8x z8y zf.yd)(az:ZS Z 4 (rq ki) zdA zdB zf.fS)(ak:ZS Z 4 (rq gg) z8z z8A zf.fK)(V:ZS Z 7 (g8 Z) z8B z8C zf.yc)(al:ZS Z 5 (rq gc) z8D z8E zf.fH)(am:ZS Z 3 (g6 Z) z8F z8G zf.fU)(an:ZS Z 4 (rq ge) z8H z8I zf.ye)(aA:ZS Z 1 (g9 Z) zt2 zt3 z1a):
  RC 9 #[.agg #[vs z8v zf.fM.length z8w,vs z8x zf.yd.length z8y,vs zdA zf.fS.length zdB,vs z8z zf.fK.length z8A,vs z8B zf.yc.length z8C,vs z8D zf.fH.length z8E,vs z8F zf.fU.length z8G,vs z8H zf.ye.length z8I],vi z7E,vs zt2 z1a.length zt3,.int .u8 z1q] Nx (.bool r) [] []:=by
 unfold mK at h
 refine Om func9 U U ?_
 let H:Value:=(vs z8v zf.fM.length z8w);let I:Value:=(vs z8x zf.yd.length z8y);let J:Value:=(vs z8z zf.fK.length z8A);let K:Value:=(vs z8B zf.yc.length z8C);let L:Value:=(vs z8D zf.fH.length z8E);let M:Value:=(vs z8F zf.fU.length z8G);let N:Value:=(vs z8H zf.ye.length z8I);let A:List Value:=[H,I,vs zdA zf.fS.length zdB,J,K,L,M,N];refine B0q<|Lg 4 (wa (cs:=A)) ?_
 intro f _
 refine Q1n U<|WC.b<|WC.b<|bK h fun ce aP h=>bK h fun aC aD h=>Ld<|Le 22 (xK z2v (xM .here))<|La U<|Nr call10 hz (fun pz=>K9 aP pz ai aj az ak V al am an aA)<|Q2q U<|Ly false 5 26 (B:=aC) (hB:=(fun h=>(oJ<|qY aD h).symm)) (fun _ aQ=>?_) ?_
 ·have ao:=qZ aD aQ
  obtain⟨cf,aR,ao⟩:=za ao
  replace ao:=oJ ao
  exact Le 27 (xK z2v (xM .here))<|Q2q U<|Nr call22 hz (fun pz=>uh aR pz ai aj az ak V al am an aA)<|Q2q U<|Lz ao U .all
 let S:=(zf.yc.length:Int);refine La U<|Ly false 4 33 (B:=aC||(decide (S=0))) (hB:=(fun h=>(gO h).symm)) (fun _ aS=>?_) ?_
 ·exact Le 34 (xz uO)<|Le 35 (Nt zab .here)<|Le 36 (w9 underlying26)<|Q2q U<|Lz (gP aS) U .all
 refine Q0n<|Lj h (fun aT h=>?_)<|fun aT h=>?_
 ·exact WC.b<|bK h fun cg aU h=>Ld<|Nr call11 hz (iO aU)<|Q1n U<|Ny<|Lk<|oJ h▸Nl results9
 ·refine Nn<|WC.b<|cK h fun aV h=>D1q U<|Le 41 (mL underlying5 underlying3)<|Le 42 (xz uO)<|Le 43 (Nt zab .here)<|Le 44 (w9 underlying26)<|Le 45 (G3 U U aV U)<|Q1n U<|WC.b<|cK h fun aW h=>D1q U<|Le 47 (w9 underlying32) ?_
  have aE:RR 1 (g9 Z) (List.replicate ((z1a.length:Int):Int).toNat [vn]).flatten (List.replicate ((z1a.length:Int):Int).toNat ([]:List zd)):=RR.repl U (show g9 _ _ _ from⟨none,0,U,ZS.nil _ _ _⟩) _
  refine Lg 48 (JY (r:=[vn]) (z0:=([]:List zd)) z8K zX3 U U U U aW) fun aB _=>Q1n U<|WC.b<|cK h fun aX h=>cK h fun W h=>D4q U<|L2 (Z:=Z) (Pr:=(g9 Z)) z8K aA aX ?_
  rintro bN bO aY bP ⟨bz,bA,rfl,aZ⟩
  refine Le 54 (xA z9v U<|kN hz.pv aY) ?_
  obtain⟨bQ,bR,bS,a0,⟨bT,bU,rfl,bV⟩⟩:=RR.elem (Pr:=(g9 Z)) aE W.1 W.2
  refine Le 55 (w3 z8K W.1 W.2 wI) ?_
  let C:=(Int.tmod (i64 z1q) S);let F:List Value:=[vs bz ((nth z1a C).length) bA];obtain⟨aF,a1⟩:=RR.store (Pr:=(g9 Z)) (vs:=F) (k:=0) (y:=(nth z1a C)) aE W.1 W.2 a0 rfl (Nat.le_of_ble_eq_true rfl) (show g9 _ _ _ from⟨_,_,rfl,aZ⟩)
  refine Ll (g7 (vs:=F) (ds:=uE ((List.replicate ((z1a.length:Int):Int).toNat [vn]).flatten) ((C:Int).toNat*1+0) F) zX0 ly .here a1 U)<|Dy .here (u:=(vs (some ⟨aB,0,none⟩) (((List.replicate ((z1a.length:Int):Int).toNat ([]:List zd)).set (C:Int).toNat (nth z1a C)).length)<|((z1a.length:Int):Int).toNat)) (qB (List.length_set).symm)<|L9 (i:=10) U (u:=(vs (some ⟨aB,0,none⟩) (((List.replicate ((z1a.length:Int):Int).toNat ([]:List zd)).set (C:Int).toNat (nth z1a C)).length)<|((z1a.length:Int):Int).toNat)) (qB (List.length_set).symm)<|Q0n<|B0q<|Le 56 (xK z2v (xM .h1)) (Lg 11 (xT (cs:=[vn,vn,vn,vn,vn,vn,vn,vn]) zxg) fun X _=>Ll (xP zxh .here)<|Q0n<|WC.b ?_)
  refine cK h fun a2 h=>Ld (Lg 57 (wj (cs:=([]:List yu).flatMap ki) zbR (Lq (l:=[]) .nil [])) fun bW _=>Le 58 (xz uN)<|Le 59 (Nt zaT .h3)<|WL.fA 60 (kG (enc:=ki) (l1:=([]:List yu)) (l2:=zf.fS) zbR .here (T0 hz.pv az) (gF T4) a2) ?_)
  rintro⟨x,m⟩ _
  refine Le 61 (xz uN)<|Ll (jh (ds:=[H,I,vs x ((([]:List yu)++zf.fS).length) m,J,K,L,M,N]) zX4 .h1)<|Q0n ?_
  obtain⟨aG,a3,h⟩:=wg h
  let D:Value:=(vs (some ⟨aB,0,none⟩) (((List.replicate ((z1a.length:Int):Int).toNat ([]:List zd)).set (C:Int).toNat (nth z1a C)).length) (((z1a.length:Int):Int).toNat));let P:Value:=(vs zt2 z1a.length zt3);refine Na (fun p=>(aG p=some r)) (fun p=>[(1,vi z7E),(2,P),(4,vp f),(9,vi C),(10,D),(11,vp X)]) (fun p=>[row D 58 1 (uE ((List.replicate ((z1a.length:Int):Int).toNat [vn]).flatten) ((C:Int).toNat*1+0) F),stb f 31 A,stb X 31 [H,I,vs x p.length m,J,K,L,M,N],row (vs x p.length m) 64 4 (p.flatMap ki)]) ?_ ?_
  ·let Q:=((([]:List yu)++zf.fS).length:Int);refine B0q<|Le 62 (xz uN)<|Le 63 (Nt zaT .here)<|Le 64 (w9 underlying24)<|Q1n U<|WC.block<|H4 (fun ap d b=>(qQ zf z7E aG ap d b=some r)) (fun ap d b=>[(1,vi z7E),(2,P),(4,vp f),(9,vi C),(10,D),(11,vp X),(64,vi Q),(65,vi d)]) (fun ap d b=>[row D 58 1 (uE ((List.replicate ((z1a.length:Int):Int).toNat [vn]).flatten) ((C:Int).toNat*1+0) F),stb f 31 A,stb X 31 [H,I,vs x b.length m,J,K,L,M,N],row (vs x b.length m) 64 4 (b.flatMap ki)]) (fun ap d b=>ap) ⟨xR,0,([]:List yu)++zf.fS⟩ h .q (.s4 .h2 .h2 .here .here) ?_
   rintro(_|bB) d b h;·cases h
   rw[qQ] at h
   refine B1n U<|WC.b<|Lj h (fun a4 h=>?_)<|fun a4 h=>?_
   ·refine Nn<|jK1 h fun bD a5 h=>Na (fun n=>(bD n=some r)) (fun n=>[(1,vi z7E),(2,P),(4,vp f),(9,vi C),(10,D),(11,vp X),(64,vi Q),(65,vi d)]) (fun n=>[row D 58 1 (uE ((List.replicate ((z1a.length:Int):Int).toNat [vn]).flatten) ((C:Int).toNat*1+0) F),stb f 31 A,stb X 31 [H,I,vs x n.length m,J,K,L,M,N],row (vs x n.length m) 64 4 (n.flatMap ki)]) ?_ ?_
    ·refine WC.block<|B2n U<|WC.b<|cK h fun aq h=>Ld<|Le 68 (xz uN)<|Le 69 (Nt zaT .h2)<|La U<|N4 (fun w hw=>Hp.vr .h3 hw (by intro hz';have:=aq;rw[hz'] at this;omega)) ?_
     rintro⟨aH,rfl⟩
     refine Le 71 (w3 zbR aq.1 aq.2 wI)<|Le 72 (xz Kx (hA:=⟨Addr.add_lit _ _ _⟩))<|Le 73 (xA xJ U<|o9 .h3<|(wU (enc:=ki) (l:=b) (i:=d) (sz:=4) aq.1 aq.2) 1 _ U)<|Q2n U<|Lj h (fun a6 h=>?_)<|fun a6 h=>?_
     ·exact cK h fun Y h=>Ld<|Le 76 (xz uN)<|Le 77 (Nt zaT .h2)<|La U<|Le 79 (w3 zbR Y.1 Y.2 wI)<|Le 80 (xz Y9 (hA:=⟨Addr.add_lit _ _ _⟩))<|Ll (g7 (vs:=[vi 1073741824]) (ds:=(b.set (d:Int).toNat ({(nth b d) with fT:=1073741824}:yu)).flatMap ki) oa ly .h3 (mS (enc:=ki) (sz:=4) (k:=3) Y.1 Y.2)<|mR (enc:=ki) (l:=b) (sz:=4) (vs:=[vi 1073741824]) (y:=({(nth b d) with fT:=1073741824}:yu)) (k:=3) Y.1 Y.2<|Nat.le_of_ble_eq_true U)<|Dy .here (u:=(vs (some ⟨aH,0,none⟩) ((b.set (d:Int).toNat ({(nth b d) with fT:=1073741824}:yu)).length) m)) (qB (List.length_set).symm)<|N9 (cs':=[vs z8v zf.fM.length z8w,vs z8x zf.yd.length z8y,vs (some ⟨aH,0,none⟩) ((b.set (d:Int).toNat ({(nth b d) with fT:=1073741824}:yu)).length) m,vs z8z zf.fK.length z8A,vs z8B zf.yc.length z8C,vs z8D zf.fH.length z8E,vs z8F zf.fU.length z8G,vs z8H zf.ye.length z8I]) .h3 (by simp only[List.length_set]<;>rfl)<|WL.nil<|Lt<|Lo (b.set (d:Int).toNat ({(nth b d) with fT:=1073741824}:yu)) h .q<|.s4 .h2 .h2 .here .here
     ·exact N2<|Lt<|Lo b h .q<|.a4
    ·rintro n h
     replace h:=(a5 n).symm.trans h
     exact D2q U<|WL.nil<|Nz ⟨bB,i64 (d+1),n⟩ h .q<|.a4
   ·exact N1<|Lm<|Lm<|Lv<|Lo b h .q<|.a4
  ·rintro p h
   replace h:=(a3 p).symm.trans h
   refine WC.b<|bK h fun a a7 h=>Ld<|Le 83 (xK z2v (xM .h2))<|Q2q U<|Ou U (Ns call12) .nil (ux hz .nil (.s2 .h3 .here) fun w pz ho la=>iA a7 pz ((ai.mono<|zl).weak (fun _ _ h=>wV zl h)) ((aj.mono<|zl).weak (fun _ _ h=>vt zl h)) (ZA.row (la _ (.head _) _) (RR.flat (enc:=ki)) ⟨w,pz.1⟩) (ak.mono<|zl) ((V.mono<|zl).weak (fun _ _ h=>wX zl h)) (al.mono<|zl) ((am.mono<|zl).weak (fun _ _ h=>vu zl h)) (an.mono<|zl)<|ZA.row (la _ (.tail _<|.head _) _) (aF.weak<|fun _ _ h=>qa zl h) ⟨w,pz.1⟩) ?_
   rintro bE bF a8 a9 _
   refine Q2q U<|La U (Lg 13 (xT (cs:=[vn,vn]) ziL) fun q _=>Ll (xP z9y .here)<|Q1n U<|WC.b<|WC.b ?_)
   refine cK h fun ba h=>D3q U<|Ly false 6 91 (B:=(decide (a.2≠0))||(decide (((nth z1a C).length:Int)=0))) (hB:=(fun h=>(gO h).symm)) (fun _ aI=>?_) ?_
   ·have bb:=ba aI
    refine Q2q U<|L2 (Z:=Z) (Pr:=(g9 Z)) z8K aA bb ?_
    rintro bX bY bc bZ ⟨b0,b1,rfl,b2⟩
    exact Le 95 (xA z9v U<|kN hz.pv bc)<|Le 96 (w9 underlying58)<|Q2q U<|Lz (gP aI) U .all
   refine Q0n<|Lj h (fun bd h=>?_)<|fun bd h=>?_
   ·exact WC.b<|bK h fun ch be h=>Ld<|Nr call11 hz (iO be)<|Q1n U<|Ny<|Lk<|oJ h▸Nl results9
   ·refine Nn<|WC.b<|cK h fun bf h=>bK h fun c bg h=>Lu nc []<|Lh 0 U (xK z2v (xM .h5))<|Lf 1 U q_m<|Lf 2 U q_m<|Lf 3 U q_m<|Lf 4 U (xz uO)<|Lh 5 U (Nt zab .h4)<|Lf 6 U q_m<|L5 (j:=7) (Z:=Z) (Pr:=(g8 Z)) zfn V bf ?_
    rintro b3 b4 bh b5 ⟨b6,b7,rfl,b8⟩
    refine Lf 8 U (xz rL)<|Lh 9 U (xA xJ U<|wq hz.pv bh)<|Lf 10 U (we (v:=(.agg #[vi 0,(vi<|Int.tmod (i64 z1q) (zf.yc.length:Int)),(vi<|(nth zf.yc<|Int.tmod (i64 z1q) (zf.yc.length:Int)).yA)])) (Lq (l:=[.const (vi 0),.tmp 104,.tmp 110]) (.r3 U U U) [0,1,2])) (WD.new (i:=11) U U (wj (cs:=([(⟨0,Int.tmod (i64 z1q) (zf.yc.length:Int),(nth zf.yc<|Int.tmod (i64 z1q) (zf.yc.length:Int)).yA⟩:yW)]:List yW).flatMap nJ) zoe (Lq (l:=[.tmp 111]) (.cons U .nil) [0])) (fun h'=>absurd h' (by decide)) fun b9 _=>WD.call4 (i:=12) U (by kernel_rfl) U U U (.inr U) (Ns call21) .nil (ux hz .nil (.s3 .h7 .h4 .here) fun w pz ho la=>Q3 bg pz ((ai.mono<|zl).weak (fun _ _ h=>wV zl h)) ((aj.mono<|zl).weak (fun _ _ h=>vt zl h)) (ZA.row (la _ (.head _) _) (RR.flat (enc:=ki)) ⟨w,pz.1⟩) (ak.mono<|zl) ((V.mono<|zl).weak (fun _ _ h=>wX zl h)) (al.mono<|zl) ((am.mono<|zl).weak (fun _ _ h=>vu zl h)) (an.mono<|zl) (ZA.row (la _ (.tail _<|.head _) _) (aF.weak<|fun _ _ h=>qa zl h) ⟨w,pz.1⟩)<|ZA.row (la _ (.tail _<|.tail _<|.head _) _) (RR.flat (enc:=nJ)) ⟨w,pz.1⟩) ?_)
    rintro bi bj ca cb _
    let O:=(c.1.length:Int);let R:=(a.1.yy.length:Int);refine Lf 13 U q_m<|Lf 14 U fF<|Lf 15 U fF<|Lf 16 U fF<|Lf 17 U q_z<|Lf 18 U q_z<|Lf 19 U q_z<|N0<|Lb<|WC.b<|B3q U<|Ly false 6 119 (B:=(decide (c.2.2≠0))||(decide (O≠R))) (hB:=(fun h=>(gO h).symm)) (fun _ bk=>?_) ?_
    ·exact La U<|Le 121 (w9 underlying79)<|Le 122 (xz pO)<|Le 123 (Nt zlE .h3)<|Le 124 (w9 underlying38)<|Q2q U<|Lz (gP bk) U .all
    refine Q0n<|Lj h (fun bl h=>?_)<|fun bl h=>?_
    ·exact B1n U<|Ny<|Lk<|oJ h▸Nl results9
    ·refine Nn<|jK0 h fun aJ bm h=>Nd (aJ=some r) ([]) ([]) ?_ ?_
     ·let E:Value:=(vs bE a.1.fP.length bF);refine B1q U<|Le 128 (w9 underlying79)<|Q1n U<|WC.block<|Oi (fun ar e aa s z T=>(qS c a zf aJ ar e=some r)) (fun ar e aa s z T=>[(4,vp f),(13,vp q),(127,vs aa c.1.length s),(128,vi O),(129,vi e)]) (fun ar e aa s z T=>[row (vs aa c.1.length s) 83 3 (c.1.flatMap wh),stb f 31 A,stb q 40 [E,vs z a.1.yy.length T],row E 37 4 (a.1.fP.flatMap km),row (vs z a.1.yy.length T) 53 3 (a.1.yy.flatMap fg)]) (fun ar e aa s z T=>ar) ⟨xR,0,bi,bj,a8,a9⟩ h .q (.s5 .here .h6 .h2 .h2 .h2) ?_
      rintro(_|bG) e aa s z T h;·cases h
      rw[qS] at h
      refine B1n U<|WC.b<|Lj h (fun bn h=>?_)<|fun bn h=>?_
      ·refine Nn<|jK0 h fun bH bo h=>Ow (fun ab ad ae af=>(bH=some r)) (fun ab ad ae af=>[(4,vp f),(13,vp q),(127,vs ab c.1.length ad),(128,vi O),(129,vi e)]) (fun ab ad ae af=>[row (vs ab c.1.length ad) 83 3 (c.1.flatMap wh),stb f 31 A,stb q 40 [E,vs ae a.1.yy.length af],row E 37 4 (a.1.fP.flatMap km),row (vs ae a.1.yy.length af) 53 3 (a.1.yy.flatMap fg)]) ?_ ?_
       ·refine WC.block<|WC.b<|cK h fun au h=>Ld<|N4 (fun w hw=>Hp.vr .here hw (by intro hz';have:=au;rw[hz'] at this;omega)) ?_
        rintro⟨aK,rfl⟩
        refine Le 131 (w3 z3g au.1 au.2 wI)<|Le 132 (wn (cs:=(wh<|nth c.1 e)) z6R<|vU .here<|wU (enc:=wh) (l:=c.1) (i:=e) (sz:=3) au.1 au.2) (Lg 19 (xT (cs:=[vi 0,vi 0,vi 0]) zX8) fun aL _=>Ll (xP zfs .here)<|Q0n<|B0q<|Le 133 (xz pO)<|Le 134 (Nt zlE .h3)<|Le 135 (w9 underlying38)<|Q1n U ?_)
        obtain⟨aM,bp,h⟩:=qj h
        let G:Value:=(vs (some ⟨aK,0,none⟩) c.1.length s);refine Oj (fun ag ah=>(aM=some r)) (fun ag ah=>[(4,vp f),(13,vp q),(127,G),(128,vi O),(129,vi e)]) (fun ag ah=>[row G 83 3 (c.1.flatMap wh),stb f 31 A,stb q 40 [E,vs ag a.1.yy.length ah],row E 37 4 (a.1.fP.flatMap km),row (vs ag a.1.yy.length ah) 53 3 (a.1.yy.flatMap fg)]) ?_ ?_
        ·refine WC.block<|H9 (fun av g t o=>(qR a c e zf aM av g=some r)) (fun av g t o=>[(4,vp f),(13,vp q),(19,vp aL),(127,G),(128,vi O),(129,vi e),(134,vs t a.1.yy.length o),(135,vi R),(136,vi g)]) (fun av g t o=>[row G 83 3 (c.1.flatMap wh),row (vs t a.1.yy.length o) 53 3 (a.1.yy.flatMap fg),stb f 31 A,stb q 40 [E,vs t a.1.yy.length o],row E 37 4 (a.1.fP.flatMap km),stb aL 83 [(vi<|(nth c.1 e).yf),(vi<|(nth c.1 e).ya),(vi<|(nth c.1 e).yb)]]) (fun av g t o=>av) ⟨xR,0,z,T⟩ h .q (.s6 .h1 .h4 .h1 .h1 .h1 .here) ?_
         rintro(_|bI) g t o h;·cases h
         rw[qR] at h
         refine B1n U<|WC.b<|Lj h (fun bq h=>?_)<|fun bq h=>?_
         ·refine Nn<|WC.b<|WC.block<|WC.b<|cK h fun aw h=>Ld<|N4 (fun w hw=>Hp.vr .h1 hw (by intro hz';have:=aw;rw[hz'] at this;omega)) ?_
          rintro⟨br,rfl⟩
          refine Le 138 (w3 zlD aw.1 aw.2 wI)<|Le 139 (wn (cs:=(fg<|nth a.1.yy g)) zCz<|vU .h1<|wU (enc:=fg) (l:=a.1.yy) (i:=g) (sz:=3) aw.1 aw.2) (Lg 21 (xT (cs:=[vi 0,vi 0,vi 0]) zX1) fun cd _=>Ll (xP zX2 .here)<|Q0n<|WC.b ?_)
          refine bK h fun bJ aN h=>Ld<|Le 140 (xz WG)<|Le 141 (Nt xJ .h6)<|Le 142 (xz WB)<|Le 143 (Nt xJ .here)<|Q2q U<|Ly true 16 145 (B:=bJ) (hB:=(fun h=>(oJ<|qZ aN h).symm)) (fun _ bs=>?_) ?_
          ·have ax:=qY aN bs
           obtain⟨bL,aO,ax⟩:=za ax
           replace ax:=oJ ax
           refine Le 146 (xz Yc)<|Le 147 (Nt xJ .h6)<|Le 148 (xz Kz)<|Le 149 (Nt xJ .here)<|Q2q U<|Ly false 9 151 (B:=bL) (hB:=(fun h=>(oJ<|qY aO h).symm)) (fun _ bt=>?_) ?_
           ·have ay:=qZ aO bt
            obtain⟨bM,bu,ay⟩:=za ay
            replace ay:=oJ ay
            refine Le 152 (xK z2v (xM .h3))<|Nr call23 hz (fun pz=>QT bu pz ai aj az ak V al am an)<|La U<|Ly true 5 154 (B:=bM&&(decide (((nth c.1 e).yb)≠((nth a.1.yy g).yl)))) (fun _ bv=>?_) ?_
            ·exact Le 155 (xz Yc)<|Le 156 (Nt xJ .h6)<|Le 157 (xz Kz)<|Le 158 (Nt xJ .here)<|Q2q U<|Lz (kS bv) U .all
            exact La U<|Lz ay U .all
           exact La U<|Lz ax U .all
          refine Q0n<|Lj h (fun bw h=>?_)<|fun bw h=>?_
          ·exact B1n U<|Ny<|Lw<|Lk<|Lk<|Lw<|Lk<|Lw<|Lk<|Lk<|Lw<|Lk<|oJ h▸Nl results9
          ·exact N2<|Lt<|Lb<|D2q U<|WL.nil<|Nz ⟨bI,i64 (g+1),some ⟨br,0,none⟩,o⟩ h .q<|.s6 .h1 .h1 .h1 .h1 .h1 .h1
         ·exact N1<|Lm<|Lm<|Lv<|Lo ⟨t,o⟩ h .q<|.s5 .here .h1 .h1 .h1 .here
        ·rintro ag ah h
         replace h:=bp.symm.trans h
         exact Lt<|Lo ⟨some ⟨aK,0,none⟩,s,ag,ah⟩ h .q<|.a5
       ·rintro ab ad ae af h
        replace h:=bo.symm.trans h
        exact D2q U<|WL.nil<|Nz ⟨bG,i64 (e+1),ab,ad,ae,af⟩ h .q<|.a5
      ·exact N1<|Lm<|Lm<|Lv<|Lo () h .nil .nil
     ·rintro  h
      replace h:=bm.symm.trans h
      exact WC.b<|bK h fun ci bx h=>Ld<|Nr call11 hz (iO bx)<|Q1n U<|Ny<|oJ h▸Nl results9
end Go.Proofs.YthjnhebofpebpaaGreat
