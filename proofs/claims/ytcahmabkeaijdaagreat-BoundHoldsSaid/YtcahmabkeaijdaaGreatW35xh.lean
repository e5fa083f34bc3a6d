/- A part of this claim's proof: models of functions, walks, plain laws. No conditions. -/
import Derived.Test.YtcahmabkeaijdaaGreatW35xg
set_option linter.all false
namespace Go.Proofs.YtcahmabkeaijdaaGreat
open Go Go.RowKit Sep Tryz
variable {f g k:Int}{i:List yh}{j:(List yh)->Option (List yh)}
set_option maxRecDepth 30000
set_option maxHeartbeats 4000000
def wE(z9f:yj->Option Bool)(d:(List yj)->Int->Option (List yj)):Nat->(List yj)->Int->Int->Option (List yj)
 | 0,_,_,_=>none
 | f+1,a,c,b=>if decide (b<a.length) then sK (fun(g:List yj) (h:Int)=>wE z9f d f g h (i64 (b+1))) fun e=>chk (0<=b/\b<a.length) ((z9f (⟨(nth a b).yo,(nth a b).yF⟩:yj)).bind fun i=>if !i then chk (0<=c/\c<a.length) (e (a.set (c:Int).toNat (⟨(nth a b).yo,(nth a b).yF⟩:yj)) (i64 (c+1))) else e a c) else d a c
def vz(c:List yj)(z9f:yj->Option Bool):Option (List yj):=
 (vG c z9f).bind fun d=>if decide (d=(-1)) then some c else sK (fun(b:List yj) (a:Int)=>chk (0<=a/\a<=b.length) (chk (0<=a/\a<=(((b.take (a:Int).toNat++List.replicate (b.length-(a:Int).toNat) ((⟨0,0⟩:yj):yj)).length:Nat):Int)) (some ((b.take (a:Int).toNat++List.replicate (b.length-(a:Int).toNat) ((⟨0,0⟩:yj):yj)).take (a:Int).toNat)))) fun e=>wE z9f e xR c d (i64 (d+1))
theorem sD(Z j c zgi zlI m z9f r)(h:vz m z9f=some r){Nv}(hz:Pz [row (vs j m.length c) 216 2 (m.flatMap g8)] Nv Z)(z:∀ args w,(callFunc zgi args).run Tryz.prog w = .ok (.enter zgi args) w)(B:∀ w:World,PZ [] w Z->∀(x0:yj) (r:Bool),z9f x0=some r->Calls Tryz.prog zgi (([.agg #[vi x0.yo,vi x0.yF]]:List Value)++zlI).toArray w fun e w'=>e = .returned (.bool r)/\Hp [] w w' [])(ip:Ho Nv [row (vs j m.length c) 216 2 (m.flatMap g8)]):
  Calls Tryz.prog 99 #[vs j m.length c,.func (.func zgi) #[] (zlI).toArray] Nv fun e w'=>∃ E:Option Addr,∃ F:Nat,e = .returned (vs E r.length F)/\True/\Hp (fps [row (vs j m.length c) 216 2 (m.flatMap g8)]) Nv w' [row (vs E r.length F) 216 2 (r.flatMap g8)]:=by
 unfold vz at h
 refine Ni func99 U ip U<|B1n U<|WC.b<|bK h fun G J h=>D2q U<|Lm 10 (Ns call128) .nil (uC hz .nil (.cons .here .nil) fun w pz ho la=>ra _ _ _ (zlH:=zgi) (ztp:=zlI) _ (zb6:=z9f) _ J pz (ZA.row (la _ (.head _) _) (RR.flat (enc:=g8) (fun _=>U) _) ⟨w,pz.1⟩) z<|fun w' hz'=>B w'<|hz'.le<|zl)<|Q1n U<|WC.b<|B2n U<|Lj h (fun K h=>?_)<|fun K h=>?_
 ·exact B2n U<|Nw<|Ll<|oJ h▸Li results99 (.tmp U .nil) fun w hw=>⟨j,c,w6,trivial,hw.sub (.cons .here .nil)⟩
 ·refine Nn<|jK2 h fun H L h=>H0 (fun d n=>(H d n=some r)/\(d.length=m.length)) (fun d n=>[(0,vs j d.length c),(5,vi n)]) (fun d n=>[row (vs j d.length c) 216 2 (d.flatMap g8)]) ?_ ?_
  ·let D:Value:=(.func (.func zgi) #[] (zlI).toArray);refine B3n U<|WC.block<|Dw (fun q a g b=>(wE z9f H q a g b=some r)/\(a.length=m.length)) (fun q a g b=>[(0,vs j a.length c),(1,D),(5,vi g),(6,vi b)]) (fun q a g b=>[row (vs j a.length c) 216 2 (a.flatMap g8)]) (fun q a g b=>q) ⟨xR,m,G,i64 (G+1)⟩ ⟨h,U⟩ .q (.cons .here .nil) ?_
   rintro (_|W) a g b ⟨h,x⟩;·cases h
   rw[wE] at h
   refine WC.b<|B2q U<|Le 18 (w9 underlying211)<|Q1n U<|Lj h (fun M h=>?_)<|fun M h=>?_
   ·refine Nn<|jK2 h fun X N h=>H0 (fun o p=>(X o p=some r)/\(o.length=m.length)) (fun o p=>[(0,vs j o.length c),(1,D),(5,vi p),(6,vi b)]) (fun o p=>[row (vs j o.length c) 216 2 (o.flatMap g8)]) ?_ ?_
    ·refine WC.block<|WC.b<|cK h fun t h=>D2q U<|Nj (fun w hw=>Hp.vo .here hw (by intro hz';have:=t;rw[hz'] at this;omega)) ?_
     rintro⟨I,rfl⟩
     refine Le 24 (xY zdN t.1 t.2 wz)<|Le 25 (wi (cs:=(g8<|nth a b)) zm5<|vB .here<|wG (enc:=g8) (l:=a) (i:=b) (sz:=2) (fun _=>U) t.1 t.2) (Lh 7 (xW (cs:=[vi 0,vi 0]) zyc) fun aa _=>Ln (xP zyd .here)<|Q0n<|WC.b ?_)
     refine bK h fun Y O h=>D1q U<|Le 27 (xK zm5 (xM .here))<|Lm 28 (qi (l:=[.tmp 27]) (f:=zgi) (caps:=zlI) z<|.cons U .nil) .nil (fun w hw=>B w (hz.now hw) (⟨(nth a b).yo,(nth a b).yF⟩:yj) Y  O)<|Q1n U<|Lj h (fun P h=>?_)<|fun P h=>?_
     ·refine WC.b ?_
      obtain⟨s,h⟩:=xH h
      let C:List Value:=[vi ((nth a b).yo),vi ((nth a b).yF)];refine D2q U<|Le 32 (xK zm5 (xM .here))<|Le 33 (xY zdN s.1 s.2 wz)<|Ln (kQ (vs:=C) (ds:=(a.set (g:Int).toNat (⟨(nth a b).yo,(nth a b).yF⟩:yj)).flatMap g8) zyd sN .h1 (ma (enc:=g8) (sz:=2) (k:=0) (fun _=>U) s.1 s.2 (by decide))<|fZ (enc:=g8) (l:=a) (sz:=2) (vs:=C) (y:=(⟨(nth a b).yo,(nth a b).yF⟩:yj)) (k:=0) (fun _=>U) s.1 s.2<|Nat.le_of_ble_eq_true U)<|H9 .here (u:=(vs (some ⟨I,0,none⟩) ((a.set (g:Int).toNat (⟨(nth a b).yo,(nth a b).yF⟩:yj)).length) c)) (qs (List.length_set).symm)<|L7 (i:=0) U (u:=(vs (some ⟨I,0,none⟩) ((a.set (g:Int).toNat (⟨(nth a b).yo,(nth a b).yF⟩:yj)).length) c)) (qs (List.length_set).symm)<|Q0n<|D3q U<|WL.nil<|Lt ?_
      exact Lp ⟨a.set (g:Int).toNat (⟨(nth a b).yo,(nth a b).yF⟩:yj),i64 (g+1)⟩ ⟨h,(List.length_set).trans x⟩ .q<|.cons .here .nil
     ·exact N0<|Lt<|Lp ⟨a,g⟩ ⟨h,x⟩ .q<|.cons .h1 .nil
    ·rintro o p ⟨h,Q⟩
     replace h:=(N o p).symm.trans h
     exact D3q U<|WL.nil<|Nx ⟨W,o,p,i64 (b+1)⟩ ⟨h,Q⟩ (Nat.lt_succ_self _) .q<|.cons .here .nil
   ·exact Nz<|Lo<|Lo<|Lv<|Lp ⟨a,g⟩ ⟨h,x⟩ .q<|.cons .here .nil
  ·rintro d n ⟨h,ab⟩
   replace h:=(L d n).symm.trans h
   refine WC.b<|cK h fun v h=>D2q U<|Pi (dd:=38) U U zdN U U .here v ?_
   intro ad ae R
   let A:Value:=(vs j ((d.take (n:Int).toNat++List.replicate (d.length-(n:Int).toNat) ((⟨0,0⟩:yj):yj)).length) c);refine Ln (ai (enc:=g8) (z0:=((⟨0,0⟩:yj):yj)) (l:=d) zdN zyc U R v (fun _=>U) (by decide) U G7 .here)<|H9 .here (u:=A) (qs (oR v).symm)<|L7 (i:=0) U (u:=A) (qs (oR v).symm)<|Q0n<|WC.b ?_
   refine cK h fun S h=>D1q U<|La U (O3 (dd:=41) (enc:=g8) (ls:=d.take (n:Int).toNat++List.replicate (d.length-(n:Int).toNat) ((⟨0,0⟩:yj):yj)) U U zdN U U .here (fun _=>U) S fun T V=>Q1n U<|Nw ?_)
   exact oJ h▸Li results99 (.tmp U .nil) fun w hw=>⟨T,V,w6,trivial,hw.sub (.cons .here .nil)⟩
def fw(a:yj)(b:Int):Option Bool:=
 some (decide (a.yF>b))
theorem aF(Z b a c r)(h:fw a c=some r){Nv}(hz:PZ [] Nv Z)(d:ZC Z b [vi c]):
  RC 130 #[.agg #[vi a.yo,vi a.yF],vq b] Nv (.bool r) [] []:=by
 unfold fw at h
 refine Lz func130 U U<|B0q (Lh 2 (wg (cs:=[vi a.yo,vi a.yF])) fun e _=>Q1n U<|B0q<|Le 4 (xA Js)<|Le 5 (Nt xL .here)<|Le 6 (xB xL U<|mG hz.pv d)<|Q2n U<|Nw ?_)
 exact oJ h▸Nl results130
def gj(b:yx)(zb7:yj->Option Bool)(d:Int->Option Int):Nat->Int->Int->Option Int
 | 0,_,_=>none
 | f+1,c,a=>if decide (a<b.yn.length) then qP (fun(g:Int)=>gj b zb7 d f g (i64 (a+1))) fun e=>chk (0<=a/\a<b.yn.length) ((zb7 (⟨(nth b.yn a).yo,(nth b.yn a).yF⟩:yj)).bind fun h=>if h then e (i64 (c+((nth b.yn a).yo))) else e c) else d c
def ud(a:yx)(zb7:yj->Option Bool):Option Int:=
 qP (fun(b:Int)=>some b) fun c=>gj a zb7 c xR 0 0
theorem Wi(Z m j k zjj zq4 a zb7 r)(h:ud a zb7=some r){Nv}(hz:PZ [] Nv Z)(o:ZS Z 2 (rq g8) j k a.yn)(p:ZC Z m [vi a.yk.yr,vi a.yk.yl,vi a.yk.fT,vi a.yH,vi a.yy,vs j a.yn.length k])(q:∀ args w,(callFunc zjj args).run Tryz.prog w = .ok (.enter zjj args) w)(s:∀ w:World,PZ [] w Z->∀(x0:yj) (r:Bool),zb7 x0=some r->Calls Tryz.prog zjj (([.agg #[vi x0.yo,vi x0.yF]]:List Value)++zq4).toArray w fun e w'=>e = .returned (.bool r)/\Hp [] w w' []):
  RC 129 #[vq m,.func (.func zjj) #[] (zq4).toArray] Nv (vi r) [] []:=by
 unfold ud at h
 refine Lz func129 U U<|B1n U<|B1n U<|jK1 h fun n t h=>L5 (fun g=>(n g=some r)) (fun g=>[(5,vi g)]) (fun g=>[]) ?_ ?_
 ·let A:Value:=(.func (.func zjj) #[] (zq4).toArray);let C:=(a.yn.length:Int);let D:Value:=(vs j a.yn.length k);refine B1q U<|Le 9 w3<|Le 10 (xA cM)<|Le 11 (xB zyb U<|wA hz.pv p)<|Le 12 (w9 underlying211)<|Q1n U<|WC.block<|N7 (fun i c b=>(gj a zb7 n i c b=some r)) (fun i c b=>[(1,A),(5,vi c),(11,D),(12,vi C),(13,vi b)]) (fun i c b=>[]) (fun i c b=>i) ⟨xR,0,0⟩ h .q .nil ?_
  rintro(_|E) c b h;·cases h
  rw[gj] at h
  refine B1n U<|WC.b<|Lj h (fun u h=>?_)<|fun u h=>?_
  ·refine Nn<|jK1 h fun F v h=>L5 (fun d=>(F d=some r)) (fun d=>[(1,A),(5,vi d),(11,D),(12,vi C),(13,vi b)]) (fun d=>[]) ?_ ?_
   ·refine WC.block<|WC.b<|cK h fun x h=>Ld<|L3 (dd:=15) (Z:=Z) (Pr:=(rq g8)) zdN o x ?_
    rintro H I y J rfl
    refine Le 16 (xK zm5 (qV hz.pv y)) (Lh 7 (xW (cs:=[vi 0,vi 0]) zyc) fun K _=>Ln (xP zyd .here)<|Q0n<|WC.b ?_)
    refine bK h fun G z h=>D1q U<|Le 18 (xK zm5 (xM .here))<|Lm 19 (qi (l:=[.tmp 18]) (f:=zjj) (caps:=zq4) q<|.cons U .nil) .nil (fun w hw=>s w (hz.now hw) (⟨(nth a.yn b).yo,(nth a.yn b).yF⟩:yj) G  z)<|Q0n<|Lj h (fun B h=>?_)<|fun B h=>?_
    ·exact D1q U<|Le 21 (xA Ui)<|Le 22 (Nt xL .here)<|Q2q U<|WL.nil<|Lt<|Lp (i64 (c+((nth a.yn b).yo))) h .q .nil
    ·exact N0<|Lt<|Lp c h .q .nil
   ·rintro d h
    replace h:=(v d).symm.trans h
    exact D2q U<|WL.nil<|Nx ⟨E,d,i64 (b+1)⟩ h (Nat.lt_succ_self _) .q .nil
  ·exact Nz<|Lo<|Lo<|Lv<|Lp c h (.cons U .nil) .nil
 ·rintro g h
  replace h:=(t g).symm.trans h
  exact B2n U<|Nw<|oJ h▸Nl results129
def rb(a:yx)(b:Int):Option Int:=
 (mK a).bind fun c=>if c then some 0 else(ud a (fun(y0:yj)=>fw y0 (max b a.yH))).bind fun d=>some d
theorem Xv(Z d e f a b r)(h:rb a b=some r){Nv}(hz:PZ [] Nv Z)(g:ZS Z 2 (rq g8) e f a.yn)(c:ZC Z d [vi a.yk.yr,vi a.yk.yl,vi a.yk.fT,vi a.yH,vi a.yy,vs e a.yn.length f]):
  RC 101 #[vq d,vi b] Nv (vi r) [] []:=by
 unfold rb at h
 refine Lz func101 U U<|B0q (Lh 3 (wg (cs:=[vi b])) fun j _=>Q1n U<|WC.b<|WC.b ?_)
 refine bK h fun o k h=>D1q U<|Nr call98 hz (fun pz=>cV _ _ _ _ _ _ k pz g c)<|Q0n<|Lj h (fun m h=>?_)<|fun m h=>?_
 ·exact B1n U<|Nw<|Ll<|oJ h▸Nl results101
 ·exact Nn<|WC.b<|Lu (fun i=>[6].contains i) []<|Lg 0 U (Nt xL .here)<|Lf 1 U q_m<|Lf 2 U w3<|Lf 3 U (xA Xo)<|Lg 4 U (xB xL U<|wA hz.pv c)<|Lf 5 U Ye<|Nc (i:=6) U (by kernel_rfl) (by kernel_rfl) (xP dO .here)<|Ny (by kernel_rfl)<|Lb<|WC.b<|bK h fun p n h=>D1q U<|Le 14 (vf<|L6 (l:=[.tmp 3])<|.cons U .nil)<|Lm 15 (Ns call129) .nil (uC hz .nil (.cons .here .nil) fun w pz ho la=>Wi _ _ _ _ (zjj:=130) (zq4:=[vp j]) _ (zb7:=(fun(y0:yj)=>fw y0<|max b a.yH)) _ n pz (g.mono<|zl) (c.mono<|zl) call130<|fun w' hz' y0  r  hr=>aF _ _ _ _ _ hr hz'<|(la _ (.head _) _).stb)<|Q1n U<|Nw<|oJ h▸Nl results101
def mo(a:yx)(b:Int)(c:Int):Option (Int×Int×yx):=
 (mK a).bind fun e=>if e then some (0,1,a) else if (((decide (c<1))||(decide (c>72)))||(decide (b<a.yH)))||(decide (b>1073741824)) then some (0,2,a) else(vz a.yn (fun(y0:yj)=>mt y0 b)).bind fun d=>(rb ({a with yH:=b,yn:=d}:yx) b).bind fun f=>if decide ((i64 (f+c))>a.yk.fT) then some (0,4,({a with yH:=b,yn:=d}:yx)) else chk ((((d++([(⟨c,i64 ((max (i64 (b+a.yk.yl)) a.yy)+(i64 (c*a.yk.yr)))⟩:yj)]:List yj)).length:Nat):Int)*16<=140737488355328/\(((d++([(⟨c,i64 ((max (i64 (b+a.yk.yl)) a.yy)+(i64 (c*a.yk.yr)))⟩:yj)]:List yj)).length:Nat):Int)<=4611686018427387904) (some (i64 ((max (i64 (b+a.yk.yl)) a.yy)+(i64 (c*a.yk.yr))),0,(⟨a.yk,b,i64 ((max (i64 (b+a.yk.yl)) a.yy)+(i64 (c*a.yk.yr))),d++([(⟨c,i64 ((max (i64 (b+a.yk.yl)) a.yy)+(i64 (c*a.yk.yr)))⟩:yj)]:List yj)⟩:yx)))
theorem Wj(Z d f g a c b r)(h:mo a c b=some r){Nv}(hz:Pz [stb d 213 [vi a.yk.yr,vi a.yk.yl,vi a.yk.fT,vi a.yH,vi a.yy,vs f a.yn.length g],row (vs f a.yn.length g) 216 2 (a.yn.flatMap g8)] Nv Z)(ip:Ho Nv [stb d 213 [vi a.yk.yr,vi a.yk.yl,vi a.yk.fT,vi a.yH,vi a.yy,vs f a.yn.length g],row (vs f a.yn.length g) 216 2 (a.yn.flatMap g8)]):
  Calls Tryz.prog 60 #[vp d,vi c,vi b] Nv fun e w'=>∃ u:Option Addr,∃ x:Nat,e = .returned (.tuple #[vi r.1,vi r.2.1])/\True/\Hp (fps [stb d 213 [vi a.yk.yr,vi a.yk.yl,vi a.yk.fT,vi a.yH,vi a.yy,vs f a.yn.length g],row (vs f a.yn.length g) 216 2 (a.yn.flatMap g8)]) Nv w' [stb d 213 [vi r.2.2.yk.yr,vi r.2.2.yk.yl,vi r.2.2.yk.fT,vi r.2.2.yH,vi r.2.2.yy,vs u r.2.2.yn.length x],row (vs u r.2.2.yn.length x) 216 2 (r.2.2.yn.flatMap g8)]:=by
 unfold mo at h
 refine N6 func60 U ip U<|B0q (Lh 4 (wg (cs:=[vi c])) fun k _=>Q2n U<|WC.b<|WC.block<|WC.b ?_)
 refine bK h fun j K h=>D1q U<|Lm 10 (Ns call98) .nil (uC hz .nil (.s2 .h1 .h1) fun w pz ho la=>cV _ _ _ _ _ _ K pz (ZA.row (la _ (.tail _<|.head _) _) (RR.flat (enc:=g8) (fun _=>U) _) ⟨w,pz.1⟩)<|(la _ (.head _) _).stb)<|Q1n U<|Lj h (fun L h=>?_)<|fun L h=>?_
 ·exact B2n U<|Nw<|Ly<|Ll<|oJ h▸Li results60 (.tmp U<|.tmp U .nil) fun w hw=>⟨f,g,qz,trivial,hw.sub (.s2 .h1 .h1)⟩
 ·let A:Value:=(.bool ((decide (b<1))||(decide (b>72))));let D:Value:=(.bool (decide (b<1)));refine WC.b<|Lu nc []<|Lf 0 U q_m<|Lf 1 U sS<|Lf 2 U q_m<|L9 (fuel':=13) [(0,vp d),(1,vi c),(2,vi b),(4,vp k),(6,vi 0),(7,vi 0),(9,vp d),(10,.bool j),(8,.bool j),(12,vi b),(13,D),(14,D),(17,A)] (j7 19 (dn 6)) ?_<|fun y=>?_
  rotate_left
  ·rcases Bool.eq_false_or_eq_true (decide (b<1)) with hb' | hb'
   ·have m:=hb';clear hb'
    refine L0 (i:=14) U m<|Lk 3 U<|Lk 4 U<|Lf 5 U qE<|L2 .a3 ?_ y
    exact .t 11<|.r2 (zu<|Eq.symm m)<|zu<|gQ m
   ·have n:=hb';clear hb'
    refine L0 (i:=14) U n<|Lf 3 U q_m<|Lf 4 U sT<|Lf 5 U qF<|L2 .a3 ?_ y
    exact .t 11<|.r2 (zu<|Eq.symm n)<|zu<|gR n
  let C:Value:=(.bool (((decide (b<1))||(decide (b>72)))||(decide (c<a.yH))));refine Lf 6 U q_m<|L9 (fuel':=5) [(0,vp d),(1,vi c),(2,vi b),(4,vp k),(6,vi 0),(7,vi 0),(9,vp d),(10,.bool j),(8,.bool j),(12,vi b),(13,D),(14,D),(17,A),(18,A),(25,C)] (j7 19 (dn 14)) ?_<|fun z=>?_
  rotate_left
  ·rcases Bool.eq_false_or_eq_true ((decide (b<1))||(decide (b>72))) with hb' | hb'
   ·have o:=hb';clear hb'
    refine L0 (i:=18) U o<|Lk 7 U<|Lk 8 U<|Lk 9 U<|Lk 10 U<|Lk 11 U<|Lk 12 U<|Lf 13 U qE<|L2 .a3 ?_ z
    exact .t 13<|.r2 (zu<|Eq.symm o)<|zu<|gQ o
   ·have p:=hb';clear hb'
    refine L0 (i:=18) U p<|Lg 7 U (Nt xL .here)<|Lf 8 U q_m<|Lf 9 U w3<|Lf 10 U (xA Xo)<|Lg 11 U (Nt xL .h1)<|Lf 12 U sS<|Lf 13 U qF<|L2 .a3 ?_ z
    exact .t 13<|.r2 (zu<|Eq.symm p)<|zu<|gR p
  refine Lf 14 U q_m<|L9 (fuel':=1) [(0,vp d),(1,vi c),(2,vi b),(4,vp k),(6,vi 0),(7,vi 0),(9,vp d),(10,.bool j),(8,.bool j),(12,vi b),(13,D),(14,D),(17,A),(18,A),(25,C),(26,C),(29,.bool ((((decide (b<1))||(decide (b>72)))||(decide (c<a.yH)))||(decide (c>1073741824))))] (j7 19 (dn 18)) ?_<|fun B=>?_
  rotate_left
  ·rcases Bool.eq_false_or_eq_true (((decide (b<1))||(decide (b>72)))||(decide (c<a.yH))) with hb' | hb'
   ·have q:=hb';clear hb'
    refine L0 (i:=26) U q<|Lk 15 U<|Lk 16 U<|Lf 17 U qE<|L2 .a3 ?_ B
    exact .t 15<|.r2 (zu<|Eq.symm q)<|zu<|gQ q
   ·have s:=hb';clear hb'
    refine L0 (i:=26) U s<|Lg 15 U (Nt xL .here)<|Lf 16 U sT<|Lf 17 U qF<|L2 .a3 ?_ B
    exact .t 15<|.r2 (zu<|Eq.symm s)<|zu<|gR s
  refine Lf 18 U q_z<|Ny (by kernel_rfl)<|Lb<|Lj h (fun M h=>?_)<|fun M h=>?_
  ·exact B2n U<|Nw<|Ly<|Ll<|oJ h▸Li results60 (.tmp U<|.tmp U .nil) fun w hw=>⟨f,g,qz,trivial,hw.sub (.s2 .h1 .h1)⟩
  ·refine N0<|Lt<|Lb<|B1q U<|Le 31 (Nt xL .here)<|Le 32 w3<|Le 33 (xA Xo)<|Ln (kO (ds:=[vi a.yk.yr,vi a.yk.yl,vi a.yk.fT,vi c,vi a.yy,vs f a.yn.length g]) dO .h1)<|Q0n<|WC.b<|bK h fun t N h=>D2q U<|Le 36 w3<|Le 37 (xA cM)<|Le 38 (Nt zyb .here)<|Le 39 (vf<|L6 (l:=[.tmp 4])<|.cons U .nil)<|N9 (dd:=40) U (Ns call99) (.cons .h2 .nil) (uC hz (.cons .h2 .nil) (.cons .h1 .nil) fun w pz ho la=>sD _ _ _ (zgi:=100) (zlI:=[vp k]) _ (z9f:=(fun(y0:yj)=>mt y0 c)) _ N pz call100 (fun w' hz' y0  r  hr=>YS _ _ _ _ _ hr hz'<|(la _ (.head _) _).stb) ho) ?_
   rintro G H _
   let F:Value:=(vs G t.length H);refine Le 41 w3<|Le 42 (xA cM)<|Ln (kO (ds:=[vi a.yk.yr,vi a.yk.yl,vi a.yk.fT,vi c,vi a.yy,F]) zFT .h1)<|Q0n<|WC.b<|WC.b ?_
   refine bK h fun S O h=>Lu nc []<|Lf 0 U q_m<|Lg 1 U (Nt xL .h2)<|L4 2 U (Ns call101) (uC hz .nil .a2 fun w pz ho la=>Xv _ _ _ _ _ _ _ O pz (ZA.row (la _ (.tail _<|.head _) _) (RR.flat (enc:=g8) (fun _=>U) _) ⟨w,pz.1⟩)<|(la _ (.head _) _).stb)<|Lf 3 U q_m<|Lf 4 U rP<|Lf 5 U q_m<|Lf 6 U w3<|Lf 7 U (xA eX)<|Lf 8 U (xA Uj)<|Lg 9 U (Nt xL .here)<|Lf 10 U sT<|Ny (by kernel_rfl)<|Lb<|Lj h (fun P h=>?_)<|fun P h=>?_
   ·exact B2n U<|Nw<|Ll<|oJ h▸Li results60 (.tmp U<|.tmp U .nil) fun w hw=>⟨G,H,qz,trivial,hw.sub .a2⟩
   ·let E:=(i64 ((max (i64 (c+a.yk.yl)) a.yy)+(i64 (b*a.yk.yr))));refine Nn<|WC.b<|Lu (fun i=>[23].contains i) []<|Lf 0 U q_m<|Lg 1 U (Nt xL .h2)<|Lf 2 U q_m<|Lf 3 U w3<|Lf 4 U (xA eX)<|Lf 5 U (xA Uk)<|Lg 6 U (Nt xL .here)<|Lf 7 U rP<|Lf 8 U q_m<|Lf 9 U w3<|Lf 10 U (xA eY)<|Lg 11 U (Nt xL .here)<|Lf 12 U Ye<|Lf 13 U q_m<|Lf 14 U q_m<|Lf 15 U w3<|Lf 16 U (xA eX)<|Lf 17 U (xA Jr)<|Lg 18 U (Nt xL .here)<|Lf 19 U rQ<|Lf 20 U rP<|Lf 21 U w3<|Lf 22 U (xA eY)<|Nc (i:=23) U (by kernel_rfl) (by kernel_rfl) (kO (ds:=[vi a.yk.yr,vi a.yk.yl,vi a.yk.fT,vi c,vi E,F]) dO .here)<|Ny (by kernel_rfl)<|Lb<|WC.b ?_
    refine cK h fun Q h=>Lu (fun i=>[12,15].contains i) []<|Lf 0 U q_m<|Lf 1 U q_m<|Lf 2 U w3<|Lf 3 U (xA cM)<|Lg 4 U (Nt zyb .here)<|Lf 5 U q_m<|Lf 6 U q_m<|Lf 7 U w3<|Lf 8 U (xA eY)<|Lg 9 U (Nt xL .here)<|Lf 10 U (wm (v:=(.agg #[vi b,(vi<|i64 ((max (i64 (c+a.yk.yl)) a.yy)+(i64 (b*a.yk.yr))))])) (Lq (l:=[.tmp 82,.tmp 86]) (.r2 U U) [0,1]) (fun _=>by kernel_rfl)) (WD.new (i:=11) (dd:=88) U (by kernel_rfl) U (ws (cs:=([(⟨b,i64 ((max (i64 (c+a.yk.yl)) a.yy)+(i64 (b*a.yk.yr)))⟩:yj)]:List yj).flatMap g8) zdN (Lq (l:=[.tmp 87]) (.cons U .nil) [0]) (fun _=>by kernel_rfl) (by unfold maxLen;omega)) (fun h'=>absurd h' (by decide)) fun R _=>WD.old (i:=12) (dd:=89) U (by kernel_rfl) U (fun _=>(wT.of .nil)) (kK (enc:=g8) (l1:=t) (l2:=([(⟨b,i64 ((max (i64 (c+a.yk.yl)) a.yy)+(i64 (b*a.yk.yr)))⟩:yj)]:List yj)) zdN .h2 (fun _=>U) (kN .here) (gN G7 _) Q) ?_)
    rintro⟨I,J⟩ _
    exact Lf 13 U w3<|Lf 14 U (xA cM)<|Nc (i:=15) U (by kernel_rfl) (by kernel_rfl) (kO (ds:=[vi a.yk.yr,vi a.yk.yl,vi a.yk.fT,vi c,vi E,vs I ((t++([(⟨b,i64 ((max (i64 (c+a.yk.yl)) a.yy)+(i64 (b*a.yk.yr)))⟩:yj)]:List yj)).length) J]) zFT .h2)<|Ny (by kernel_rfl)<|Lb<|B1q U<|Le 93 w3<|Le 94 (xA eY)<|Le 95 (Nt xL .here)<|Q2n U<|Nw<|oJ h▸Li results60 (.tmp U<|.tmp U .nil) fun w hw=>⟨I,J,qz,trivial,hw.sub .a2⟩
def mV(g:zV)(h:List (List zb))(f:List yB)(k:List (z7×yx))(l:List yp)(d:List yh)(e:List yh):Option (List yp×List yh×List yh×(List (z7×yx))):=
 (fu l).bind fun a=>(uW g h f k a.2 d e a.1.yd).bind fun b=>chk (0<=a.1.yc/\a.1.yc<f.length) (chk (wK b (⟨a.1.yd.ya,a.1.yd.fQ⟩:z7)=true) ((mo (⟨(⟨((xC b (⟨a.1.yd.ya,a.1.yd.fQ⟩:z7) default).yk).yr,((xC b (⟨a.1.yd.ya,a.1.yd.fQ⟩:z7) default).yk).yl,((xC b (⟨a.1.yd.ya,a.1.yd.fQ⟩:z7) default).yk).fT⟩:xy),(xC b (⟨a.1.yd.ya,a.1.yd.fQ⟩:z7) default).yH,(xC b (⟨a.1.yd.ya,a.1.yd.fQ⟩:z7) default).yy,(xC b (⟨a.1.yd.ya,a.1.yd.fQ⟩:z7) default).yn⟩:yx) a.1.yb ((nth f a.1.yc).yo)).bind fun c=>if decide (c.2.1≠0) then chk ((((e++([({a.1 with ya:=a.1.yd.ya}:yh)]:List yh)).length:Nat):Int)*24<=140737488355328/\(((e++([({a.1 with ya:=a.1.yd.ya}:yh)]:List yh)).length:Nat):Int)<=4611686018427387904) (some (a.2,d,e++([({a.1 with ya:=a.1.yd.ya}:yh)]:List yh),w4 b (⟨a.1.yd.ya,a.1.yd.fQ⟩:z7) c.2.2)) else qP (fun(i:List yh)=>(gP g h f (w4 b (⟨a.1.yd.ya,a.1.yd.fQ⟩:z7) c.2.2) a.2 i e a.1.yd.fX c.1 a.1.yd.fQ a.1.yc).bind fun m=>some (m,i,e,w4 b (⟨a.1.yd.ya,a.1.yd.fQ⟩:z7) c.2.2)) fun j=>if decide (a.1.yd.fX<g.fM.length) then chk ((((d++([(⟨a.1.yc,a.1.yd.fX,c.1⟩:yh)]:List yh)).length:Nat):Int)*24<=140737488355328/\(((d++([(⟨a.1.yc,a.1.yd.fX,c.1⟩:yh)]:List yh)).length:Nat):Int)<=4611686018427387904) (j (d++([(⟨a.1.yc,a.1.yd.fX,c.1⟩:yh)]:List yh))) else j d))
theorem aG(Z o ab ad ae af ag ah ai aj ak al am an ao ap aq ar au av aw ax m V ay az q t z B c W X aH p d f r)(h:mV c W X aH p d f=some r){Nv}(hz:Pz [stb o 117 [vs ab c.fM.length ad,vs ae c.yf.length af,vs ag c.fS.length ah,vs ai c.fK.length aj,vs ak c.yg.length al,vs am c.fH.length an,vs ao c.fU.length ap,vs aq c.ye.length ar,vs au W.length av,vs aw X.length ax,.map (some m),vs ay p.length az,vs q d.length t,vs z f.length B],xU m (ga g7) Value.pointer (jG V),q7 z2r V,row (vs ay p.length az) 153 7 (p.flatMap wC),row (vs q d.length t) 81 3 (d.flatMap wd),row (vs z f.length B) 81 3 (f.flatMap wd)] Nv Z)(aI:ZS Z 4 (gk Z) ab ad c.fM)(aJ:ZS Z 4 (fJ Z) ae af c.yf)(aK:ZS Z 4 (rq kT) ag ah c.fS)(aL:ZS Z 4 (rq mM) ai aj c.fK)(aM:ZS Z 7 (f0 Z) ak al c.yg)(aN:ZS Z 5 (rq mb) am an c.fH)(aO:ZS Z 3 (fO Z) ao ap c.fU)(aP:ZS Z 4 (rq mc) aq ar c.ye)(aQ:ZS Z 1 (mN Z) au av W)(aE:ZS Z 3 (rq uo) aw ax X)(a5:tz V=aH)(ip:Ho Nv [stb o 117 [vs ab c.fM.length ad,vs ae c.yf.length af,vs ag c.fS.length ah,vs ai c.fK.length aj,vs ak c.yg.length al,vs am c.fH.length an,vs ao c.fU.length ap,vs aq c.ye.length ar,vs au W.length av,vs aw X.length ax,.map (some m),vs ay p.length az,vs q d.length t,vs z f.length B],xU m (ga g7) Value.pointer (jG V),q7 z2r V,row (vs ay p.length az) 153 7 (p.flatMap wC),row (vs q d.length t) 81 3 (d.flatMap wd),row (vs z f.length B) 81 3 (f.flatMap wd)]):
  Calls Tryz.prog 32 #[vp o] Nv fun e w'=>∃ aR:Option Addr,∃ aS:Nat,∃ aT:Option Addr,∃ aU:Nat,∃ aV:Option Addr,∃ aW:Nat,∃ aF:List (z7×((Nat×(Option Addr×Nat))×yx)),e = .returned (.tuple #[])/\(tz aF=r.2.2.2)/\Hp (fps [stb o 117 [vs ab c.fM.length ad,vs ae c.yf.length af,vs ag c.fS.length ah,vs ai c.fK.length aj,vs ak c.yg.length al,vs am c.fH.length an,vs ao c.fU.length ap,vs aq c.ye.length ar,vs au W.length av,vs aw X.length ax,.map (some m),vs ay p.length az,vs q d.length t,vs z f.length B],xU m (ga g7) Value.pointer (jG V),q7 z2r V,row (vs ay p.length az) 153 7 (p.flatMap wC),row (vs q d.length t) 81 3 (d.flatMap wd),row (vs z f.length B) 81 3 (f.flatMap wd)]) Nv w' [stb o 117 [vs ab c.fM.length ad,vs ae c.yf.length af,vs ag c.fS.length ah,vs ai c.fK.length aj,vs ak c.yg.length al,vs am c.fH.length an,vs ao c.fU.length ap,vs aq c.ye.length ar,vs au W.length av,vs aw X.length ax,.map (some m),vs aR r.1.length aS,vs aT r.2.1.length aU,vs aV r.2.2.1.length aW],row (vs aR r.1.length aS) 153 7 (r.1.flatMap wC),row (vs aT r.2.1.length aU) 81 3 (r.2.1.flatMap wd),row (vs aV r.2.2.1.length aW) 81 3 (r.2.2.1.flatMap wd),xU m (ga g7) Value.pointer (jG aF),q7 z2r aF]:=by
 unfold mV at h
 refine H7 func32 U ip U<|WC.b<|bK h fun a a6 h=>D1q U<|Le 6 w3<|Le 7 (xA Xm)<|Le 8 (bL underlying151 U U)<|N9 (dd:=9) U (Ns call58) (.s2 .here .h2) (cc hz (.s2 .here .h2) fun w pz ho=>dY _ _ _ _ _ _ _ _ _ _ _ _ _ _ _ _ _ _ _ a6 pz  ho) ?_
 rintro aX aY _
 refine Le 10 (Jb underlying153 U U) (Lh 2 (xW (cs:=[vi 0,vi 0,vi 0,vi 0,vi 0,vi 0,vi 0]) zFQ) fun aC _=>Ln (xP zub .here)<|Q0n<|WC.b ?_)
 obtain⟨R,a7,h⟩:=z8 h
 obtain⟨a8,h⟩:=xH h
 obtain⟨aZ,h⟩:=xH h
 obtain⟨n,a9,h⟩:=z8 h
 let F:Value:=(vs aw X.length ax);refine Lu (fun i=>[3,15].contains i) [rG aC 153 [(0,vi a.1.yb),(3,vi a.1.yc)],rG o 117 [(9,F)]]<|Lf 0 U q_m<|Lf 1 U (xA lQ)<|Lg 2 U (wi (cs:=[vi a.1.yd.ya,vi a.1.yd.fX,vi a.1.yd.fQ]) z4D<|gp (s:=3) .here U)<|Lf 4 U (xA eW)<|Nb 5 U (wT.wk .a2<|.stb (.cons U<|.cons U .nil)<|.stb (.cons U .nil) .nil) (xB xL U<|mH .here<|.head _)<|Lf 6 U q_m<|Lf 7 U w3<|Lf 8 U (xA Jn)<|Nb 9 U (wT.wk .a2<|.stb (.cons U<|.cons U .nil)<|.stb (.cons U .nil) .nil) (xB zFO U<|mH .h1<|.head _)<|Lf 10 U (xA lP)<|Nb 11 U (wT.wk .a2<|.stb (.cons U<|.cons U .nil)<|.stb (.cons U .nil) .nil) (xB xL U<|mH .here<|.tail _<|.head _)<|Nf (j:=12) (dd:=24) (by kernel_rfl) z2B z2C (Z:=Z) (Pr:=(rq uo)) zan aE a8 ?_
 rintro bk bl ba bm rfl
 refine Lf 13 U (xA Vb)<|Nb 14 U (wT.wk .a2<|.stb (.cons U<|.cons U .nil)<|.stb (.cons U .nil) .nil) (xB xL U<|wA hz.pv ba)<|WD.call1 (i:=3) (dd:=15) U (by kernel_rfl) U U U (.inl ⟨U,fun _=>(wT.wk (.s2 .h2 .h2)<|.stb (.cons U<|.cons U .nil)<|.stb (.cons U .nil) .nil)⟩) (Ns call59) (.s2 .h3 .h3) (uC hz (.s2 .h3 .h3) (.s4 .h1 .h1 .h1 .h1) fun w pz ho la=>Xu _ _ _ _ _ _ _ _ _ _ _ _ _ _ _ _ _ _ _ _ _ _ _ _ _ _ _ _ _ _ _ _ _ _ _ _ _ _ _ a7 pz ((aI.mono<|zl).weak (fun _ _ h=>qQ zl h)) ((aJ.mono<|zl).weak (fun _ _ h=>qX zl h)) (aK.mono<|zl) (aL.mono<|zl) ((aM.mono<|zl).weak (fun _ _ h=>qN zl h)) (aN.mono<|zl) ((aO.mono<|zl).weak (fun _ _ h=>qY zl h)) (aP.mono<|zl) ((aQ.mono<|zl).weak (fun _ _ h=>jc zl h)) (aE.mono<|zl) a5 (ZA.row (la _ (.tail _<|.head _) _) (RR.flat (enc:=wC) (fun _=>U) _) ⟨w,pz.1⟩) (ZA.row (la _ (.tail _<|.tail _<|.head _) _) (RR.flat (enc:=wd) (fun _=>U) _) ⟨w,pz.1⟩) (ZA.row (la _ (.tail _<|.tail _<|.tail _<|.head _) _) (RR.flat (enc:=wd) (fun _=>U) _) ⟨w,pz.1⟩) ((la _ (.head _) _).stb) ho) ?_
 rintro y aD
 let C:List Value:=[vi a.1.yb,vi a.1.yA,vi a.1.yG,vi a.1.yc,vi a.1.yd.ya,vi a.1.yd.fX,vi a.1.yd.fQ];let D:Value:=(vs aX a.2.length aY);let E:Value:=(vs z f.length B);let G:Value:=(vs ab c.fM.length ad);let H:Value:=(vs ae c.yf.length af);let I:Value:=(vs ag c.fS.length ah);let J:Value:=(vs ai c.fK.length aj);let K:Value:=(vs ak c.yg.length al);let L:Value:=(vs am c.fH.length an);let N:Value:=(vs ao c.fU.length ap);let O:Value:=(vs aq c.ye.length ar);let P:Value:=(vs q d.length t);let Q:Value:=(vs au W.length av);let A:List Value:=[G,H,I,J,K,L,N,O,Q,F,.map (some m),D,P,E];refine Pm (fun _=>Hp.KJ aD aZ .h1 (fun g=>stb g.1 213 [(vi<|((xC R (⟨a.1.yd.ya,a.1.yd.fQ⟩:z7) default).yk).yr),(vi<|((xC R (⟨a.1.yd.ya,a.1.yd.fQ⟩:z7) default).yk).yl),(vi<|((xC R (⟨a.1.yd.ya,a.1.yd.fQ⟩:z7) default).yk).fT),(vi<|(xC R (⟨a.1.yd.ya,a.1.yd.fQ⟩:z7) default).yH),(vi<|(xC R (⟨a.1.yd.ya,a.1.yd.fQ⟩:z7) default).yy),vs g.2.1 (((xC R (⟨a.1.yd.ya,a.1.yd.fQ⟩:z7) default).yn).length) g.2.2]::row (vs g.2.1 (((xC R (⟨a.1.yd.ya,a.1.yd.fQ⟩:z7) default).yn).length) g.2.2) 216 2 (((xC R (⟨a.1.yd.ya,a.1.yd.fQ⟩:z7) default).yn).flatMap g8)::[q7 z2r (uM (⟨a.1.yd.ya,a.1.yd.fQ⟩:z7) y),xU m (ga g7) Value.pointer (jG y),stb aC 153 C,stb o 117 A,row D 153 7 (a.2.flatMap wC),row P 81 3 (d.flatMap wd),row E 81 3 (f.flatMap wd)])<|fun _=>U) ?_
 rintro⟨S,bn,bo⟩ a0
 refine Nk (i:=15) U (u:=(vp S)) (congrArg Value.pointer a0)<|WD.call2 (i:=15) (dd:=27) U (by kernel_rfl) U U U (.inl ⟨U,fun _ _=>(wT.wk (.s2 .h4 .h4)<|.stb (.cons U<|.cons U .nil)<|.stb (.cons U .nil) .nil)⟩) (Ns call60) .a2 (cc hz .a2 fun w pz ho=>Wj _ _ _ _ _ _ _ _ a9 pz  ho) ?_
 rintro Y aa _
 refine Dz (fun _ h=>Hp.objsClose (els:=z2r) (lg:=y) (k:=(⟨a.1.yd.ya,a.1.yd.fQ⟩:z7)) (b:=S) (g:=(Y,aa)) (x:=n.2.2) .a3 h)<|Dz (M:=[xU m (ga g7) Value.pointer (jG<|w4 y (⟨a.1.yd.ya,a.1.yd.fQ⟩:z7) ((S,(Y,aa)),n.2.2)),q7 z2r (w4 y (⟨a.1.yd.ya,a.1.yd.fQ⟩:z7) ((S,(Y,aa)),n.2.2)),stb aC 153 C,stb o 117 A,row D 153 7 (a.2.flatMap wC),row P 81 3 (d.flatMap wd),row E 81 3 (f.flatMap wd)]) (fun _ h=>Hp.Xk .h1 (GT aD aZ a0 _ _) h)<|Lf 16 U q_m<|Lf 17 U mv<|Lf 18 U mv<|Lf 19 U q_z<|Lf 20 U q_z<|Ny (by kernel_rfl)<|Lb<|WC.b<|B2n U<|Lj h (fun bb h=>?_)<|fun bb h=>?_
 ·refine WC.b<|cK h fun bc h=>Lu (fun i=>[14,17].contains i) []<|Lf 0 U q_m<|Lf 1 U q_m<|Lf 2 U w3<|Lf 3 U (xA Xp)<|Lg 4 U (Nt zuc .h3)<|Lf 5 U (xA lP)<|Lg 6 U (Nt xL .h2)<|Lf 7 U (xA lQ)<|Lf 8 U (xA gO)<|Lg 9 U (Nt xL .h2)<|Lf 10 U (xA eW)<|Lg 11 U (Nt xL .h2)<|Lf 12 U (wm (v:=(.agg #[vi a.1.yc,vi a.1.yd.ya,vi a.1.yb])) (Lq (l:=[.tmp 38,.tmp 41,.tmp 43]) (.r3 U U U) [0,1,2]) (fun _=>by kernel_rfl)) (WD.new (i:=13) (dd:=45) U (by kernel_rfl) U (ws (cs:=([({a.1 with ya:=a.1.yd.ya}:yh)]:List yh).flatMap wd) z2J (Lq (l:=[.tmp 44]) (.cons U .nil) [0]) (fun _=>by kernel_rfl) (by unfold maxLen;omega)) (fun h'=>absurd h' (by decide)) fun bp _=>WD.old (i:=14) (dd:=46) U (by kernel_rfl) U (fun _=>(wT.of .nil)) (kK (enc:=wd) (l1:=f) (l2:=([({a.1 with ya:=a.1.yd.ya}:yh)]:List yh)) z2J .h7 (fun _=>U) (kN .here) (gN FY _) bc) ?_)
  rintro⟨a1,a2⟩ _
  exact Lf 15 U w3<|Lf 16 U (xA Xp)<|Nc (i:=17) U (by kernel_rfl) (by kernel_rfl) (kO (ds:=[G,H,I,J,K,L,N,O,Q,F,(.map<|some m),D,P,vs a1 ((f++([({a.1 with ya:=a.1.yd.ya}:yh)]:List yh)).length) a2]) zFU .h5)<|Ny (by kernel_rfl)<|Lb<|Nw<|Ll<|oJ h▸Li results32 .nil fun w hw=>⟨aX,aY,q,t,a1,a2,w4 y (⟨a.1.yd.ya,a.1.yd.fQ⟩:z7) ((S,(Y,aa)),n.2.2),mF,cG aD _ _ _,hw.sub (.s6 .here .h5 .h5 .here .h1 .h1)⟩
 ·refine Nn<|jK1 h fun bj bd h=>N5 (fun T aA aB=>(bj T=some r)) (fun T aA aB=>[(0,vp o),(2,vp aC),(3,vi n.1)]) (fun T aA aB=>[row D 153 7 (a.2.flatMap wC),row (vs aA T.length aB) 81 3 (T.flatMap wd),row E 81 3 (f.flatMap wd),stb o 117 [G,H,I,J,K,L,N,O,Q,F,(.map<|some m),D,vs aA T.length aB,E],stb aC 153 C,xU m (ga g7) Value.pointer (jG<|w4 y (⟨a.1.yd.ya,a.1.yd.fQ⟩:z7) ((S,(Y,aa)),n.2.2)),q7 z2r (w4 y (⟨a.1.yd.ya,a.1.yd.fQ⟩:z7) ((S,(Y,aa)),n.2.2))]) ?_ ?_
  ·refine WC.b<|Lu nc []<|Lf 0 U (xA lQ)<|Lf 1 U (xA mY)<|Lg 2 U (Nt xL .h2)<|Lf 3 U q_m<|Lf 4 U w3<|Lf 5 U (xA cL)<|Lf 6 U (xA tk)<|Lg 7 U (Nt z9o .h3)<|Lf 8 U (w9 underlying22)<|Lf 9 U sS<|Ny (by kernel_rfl)<|Lb<|Lj h (fun be h=>?_)<|fun be h=>?_
   ·refine cK h fun bf h=>Lu (fun i=>[13,16].contains i) []<|Lf 0 U q_m<|Lf 1 U q_m<|Lf 2 U w3<|Lf 3 U (xA Xq)<|Lg 4 U (Nt zuc .h3)<|Lf 5 U (xA lP)<|Lg 6 U (Nt xL .h2)<|Lf 7 U (xA lQ)<|Lf 8 U (xA mY)<|Lg 9 U (Nt xL .h2)<|Lf 10 U q_m<|Lf 11 U (wm (v:=(.agg #[vi a.1.yc,vi a.1.yd.fX,vi n.1])) (Lq (l:=[.tmp 65,.tmp 68,.tmp 69]) (.r3 U U U) [0,1,2]) (fun _=>by kernel_rfl)) (WD.new (i:=12) (dd:=71) U (by kernel_rfl) U (ws (cs:=([(⟨a.1.yc,a.1.yd.fX,n.1⟩:yh)]:List yh).flatMap wd) z2J (Lq (l:=[.tmp 70]) (.cons U .nil) [0]) (fun _=>by kernel_rfl) (by unfold maxLen;omega)) (fun h'=>absurd h' (by decide)) fun bq _=>WD.old (i:=13) (dd:=72) U (by kernel_rfl) U (fun _=>(wT.of .nil)) (kK (enc:=wd) (l1:=d) (l2:=([(⟨a.1.yc,a.1.yd.fX,n.1⟩:yh)]:List yh)) z2J .h6 (fun _=>U) (kN .here) (gN FY _) bf) ?_)
    rintro⟨a3,a4⟩ _
    exact Lf 14 U w3<|Lf 15 U (xA Xq)<|Nc (i:=16) U (by kernel_rfl) (by kernel_rfl) (kO (ds:=[G,H,I,J,K,L,N,O,Q,F,(.map<|some m),D,vs a3 ((d++([(⟨a.1.yc,a.1.yd.fX,n.1⟩:yh)]:List yh)).length) a4,E]) zFU .h5)<|Ny (by kernel_rfl)<|Lp ⟨d++([(⟨a.1.yc,a.1.yd.fX,n.1⟩:yh)]:List yh),a3,a4⟩ h .q<|.s7 .h6 .h1 .h5 .here .h3 .h1 .h1
   ·exact N0<|Lp ⟨d,q,t⟩ h .q<|.s7 .h4 .h4 .h4 .h3 .h2 .here .here
  ·rintro T aA aB h
   replace h:=(bd T).symm.trans h
   refine bK h fun br bg h=>D1q U<|Le 76 (xA lQ)<|Le 77 (xA mY)<|Le 78 (Nt xL .h4)<|La U<|Le 80 (xA lQ)<|Le 81 (xA lJ)<|Le 82 (Nt xL .h4)<|Le 83 (xA lP)<|Le 84 (Nt xL .h4)<|N9 (dd:=85) U (Ns call31) (.s4 .h3 .h4 .h4 .here) (uC hz (.s4 .h3 .h4 .h4 .here) .a2 fun w pz ho la=>lu _ _ _ _ _ _ _ _ _ _ _ _ _ _ _ _ _ _ _ _ _ _ _ _ _ _ _ _ _ _ _ _ _ _ _ _ _ _ _ _ _ _ bg pz ((aI.mono<|zl).weak (fun _ _ h=>qQ zl h)) ((aJ.mono<|zl).weak (fun _ _ h=>qX zl h)) (aK.mono<|zl) (aL.mono<|zl) ((aM.mono<|zl).weak (fun _ _ h=>qN zl h)) (aN.mono<|zl) ((aO.mono<|zl).weak (fun _ _ h=>qY zl h)) (aP.mono<|zl) ((aQ.mono<|zl).weak (fun _ _ h=>jc zl h)) (aE.mono<|zl) (cG aD _ _ _) (ZA.row (la _ (.head _) _) (RR.flat (enc:=wd) (fun _=>U) _) ⟨w,pz.1⟩) (ZA.row (la _ (.tail _<|.head _) _) (RR.flat (enc:=wd) (fun _=>U) _) ⟨w,pz.1⟩) ho) ?_
   rintro bh bi _
   exact WL.nil<|oJ h▸Nh results32 .nil fun w hw=>⟨bh,bi,aA,aB,z,B,w4 y (⟨a.1.yd.ya,a.1.yd.fQ⟩:z7) ((S,(Y,aa)),n.2.2),mF,cG aD _ _ _,hw.sub (.s6 .here .here .h2 .h2 .here .here)⟩
def fx(a:yh)(b:yh):Option Int:=
 (qf a.yb b.yb).bind fun c=>(qf a.yc b.yc).bind fun d=>(qf a.ya b.ya).bind fun e=>(uN ([c,d,e]:List Int)).bind fun f=>some f
theorem aH(Z a b r)(h:fx a b=some r){Nv}(hz:PZ [] Nv Z):
  RC 62 #[.agg #[vi a.yc,vi a.ya,vi a.yb],.agg #[vi b.yc,vi b.ya,vi b.yb]] Nv (vi r) [] []:=by
 unfold fx at h
 refine Lz func62 U U<|B0q (Lh 2 (wg (cs:=[vi a.yc,vi a.ya,vi a.yb])) fun m _=>Lh 3 (wg (cs:=[vi b.yc,vi b.ya,vi b.yb])) fun n _=>Q1n U<|WC.b ?_)
 refine bK h fun g c h=>bK h fun j d h=>bK h fun k e h=>bK h fun p f h=>Lu nc []<|Lf 0 U (xA Yo)<|Lg 1 U (Nt xL .h1)<|Lf 2 U (xA Yo)<|Lg 3 U (Nt xL .here)<|L4 4 U (Ns call50) (cc hz .nil fun w pz ho=>jX _ _ _ _ c pz )<|Lf 5 U (xA cy)<|Lg 6 U (Nt xL .h1)<|Lf 7 U (xA cy)<|Lg 8 U (Nt xL .here)<|L4 9 U (Ns call50) (cc hz .nil fun w pz ho=>jX _ _ _ _ d pz )<|Lf 10 U (xA Yp)<|Lg 11 U (Nt xL .h1)<|Lf 12 U (xA Yp)<|Lg 13 U (Nt xL .here)<|L4 14 U (Ns call50) (cc hz .nil fun w pz ho=>jX _ _ _ _ e pz ) (WD.new (i:=15) (dd:=20) U (by kernel_rfl) U (ws (cs:=([g,j,k]:List Int).flatMap e3) zc4 (Lq (l:=[.tmp 9,.tmp 14,.tmp 19]) (.r3 U U U) [0,1,2]) (fun _=>by kernel_rfl) (by unfold maxLen;omega)) (fun h'=>absurd h' (by decide)) fun o _=>L4 16 U (Ns call49) (uC hz .nil (.cons .here .nil) fun w pz ho la=>cN _ _ _ _ _ f pz<|ZA.row (la _ (.head _) _) (RR.flat (enc:=e3) (fun _=>U) _) ⟨w,pz.1⟩)<|Lf 17 U q_z<|Ny (by kernel_rfl)<|Lb<|Nw ?_)
 exact oJ h▸Nl results62
def wO(c:Int)(z5O:yh->yh->Option Int)(d:(List yh)->Option (List yh)):Nat->(List yh)->Int->Option (List yh)
 | 0,_,_=>none
 | e+1,b,a=>(if decide (a>c) then chk (0<=a/\a<b.length) (chk (0<=(i64 (a-1))/\(i64 (a-1))<b.length) ((z5O (⟨(nth b a).yc,(nth b a).ya,(nth b a).yb⟩:yh) (⟨(nth b (i64 (a-1))).yc,(nth b (i64 (a-1))).ya,(nth b (i64 (a-1))).yb⟩:yh)).bind fun f=>some (decide (f<0)))) else some false).bind fun g=>if g then chk (0<=(i64 (a-1))/\(i64 (a-1))<b.length) (chk (0<=a/\a<b.length) (chk (0<=(i64 (a-1))/\(i64 (a-1))<(((b.set (a:Int).toNat (⟨(nth b (i64 (a-1))).yc,(nth b (i64 (a-1))).ya,(nth b (i64 (a-1))).yb⟩:yh)).length:Nat):Int)) (wO c z5O d e ((b.set (a:Int).toNat (⟨(nth b (i64 (a-1))).yc,(nth b (i64 (a-1))).ya,(nth b (i64 (a-1))).yb⟩:yh)).set ((i64 (a-1)):Int).toNat (⟨(nth b a).yc,(nth b a).ya,(nth b a).yb⟩:yh)) (i64 (a-1))))) else d b
def wu(b:Int)(c:Int)(z5O:yh->yh->Option Int)(d:(List yh)->Option (List yh)):Nat->(List yh)->Int->Option (List yh)
 | 0,_,_=>none
 | f+1,e,a=>if decide (a<b) then qP (fun(g:List yh)=>wu b c z5O d f g (i64 (a+1))) fun h=>qP (fun i=>h i) fun j=>wO c z5O j xR e a else d e
def wY(b:List yh)(a:Int)(c:Int)(z5O:yh->yh->Option Int):Option (List yh):=
 qP (fun(d:List yh)=>some d) fun e=>wu c a z5O e xR b (i64 (a+1))
theorem mC(Z d c zad zdn g j t z5O r)(h:wY g j t z5O=some r){Nv}(hz:Pz [row (vs d g.length c) 81 3 (g.flatMap wd)] Nv Z)(S:∀ args w,(callFunc zad args).run Tryz.prog w = .ok (.enter zad args) w)(T:∀ w:World,PZ [] w Z->∀(x0:yh) (x1:yh) (r:Int),z5O x0 x1=some r->Calls Tryz.prog zad (([.agg #[vi x0.yc,vi x0.ya,vi x0.yb],.agg #[vi x1.yc,vi x1.ya,vi x1.yb]]:List Value)++zdn).toArray w fun e w'=>e = .returned (vi r)/\Hp [] w w' [])(ip:Ho Nv [row (vs d g.length c) 81 3 (g.flatMap wd)]):
  Calls Tryz.prog 131 #[vs d g.length c,vi j,vi t,.func (.func zad) #[] (zdn).toArray] Nv fun e w'=>e = .returned (.tuple #[])/\(r.length=g.length)/\Hp (fps [row (vs d g.length c) 81 3 (g.flatMap wd)]) Nv w' [row (vs d r.length c) 81 3 (r.flatMap wd)]:=by
 unfold wY at h
 refine H4 func131 U ip U<|B3n U<|jK1 h fun M V h=>Od (fun v=>(M v=some r)/\(v.length=g.length)) (fun v=>[]) (fun v=>[row (vs d v.length c) 81 3 (v.flatMap wd)]) ?_ ?_
 ·let A:Value:=(.func (.func zad) #[] (zdn).toArray);refine WC.block<|N7 (fun x n m=>(wu t j z5O M x n m=some r)/\(n.length=g.length)) (fun x n m=>[(0,vs d n.length c),(1,vi j),(2,vi t),(3,A),(8,vi m)]) (fun x n m=>[row (vs d n.length c) 81 3 (n.flatMap wd)]) (fun x n m=>x) ⟨xR,g,i64 (j+1)⟩ ⟨h,U⟩ .q (.cons .here .nil) ?_
  rintro (_|ag) n m ⟨h,N⟩;·cases h
  rw[wu] at h
  refine WC.b<|B3n U<|Lj h (fun W h=>?_)<|fun W h=>?_
  ·refine Nn<|jK1 h fun ah X h=>L5 (fun o=>(ah o=some r)/\(o.length=g.length)) (fun o=>[(0,vs d o.length c),(1,vi j),(2,vi t),(3,A),(8,vi m)]) (fun o=>[row (vs d o.length c) 81 3 (o.flatMap wd)]) ?_ ?_
   ·refine WC.block<|B2n U<|jK1 h fun O Y h=>Od (fun p=>(O p=some r)/\(p.length=g.length)) (fun p=>[(0,vs d p.length c),(1,vi j),(2,vi t),(3,A),(8,vi m)]) (fun p=>[row (vs d p.length c) 81 3 (p.flatMap wd)]) ?_ ?_
    ·refine WC.block<|N7 (fun z b a=>(wO j z5O O z b a=some r)/\(b.length=g.length)) (fun z b a=>[(0,vs d b.length c),(1,vi j),(2,vi t),(3,A),(8,vi m),(9,vi a)]) (fun z b a=>[row (vs d b.length c) 81 3 (b.flatMap wd)]) (fun z b a=>z) ⟨xR,n,m⟩ ⟨h,N⟩ .q (.cons .here .nil) ?_
     rintro (_|ai) b a ⟨h,P⟩;·cases h
     rw[wO] at h
     refine WC.b<|WC.b ?_
     obtain⟨aj,Q,h⟩:=z8 h
     let E:Value:=(.bool (decide (a>j)));refine Lu nc []<|Lf 0 U q_m<|Lf 1 U q_m<|Lf 2 U sT<|Lf 3 U q_m<|L9 (fuel':=0) [(0,vs d b.length c),(1,vi j),(2,vi t),(3,A),(8,vi m),(9,vi a),(18,vi a),(19,vi j),(20,E),(21,E),(34,.bool aj)] (j7 17 (dn 17)) ?_<|fun R=>?_
     rotate_left
     ·rcases Bool.eq_false_or_eq_true (decide (a>j)) with hb' | hb'
      ·have J:=hb';clear hb'
       have s:=jD Q J
       obtain⟨F,s⟩:=xH s
       obtain⟨I,s⟩:=xH s
       obtain⟨ak,aa,s⟩:=z8 s
       replace s:=oJ s
       refine L0 (i:=21) U J<|Lf 4 U q_m<|Lf 5 U q_m<|Lf 6 U q_m<|N2 (fun w hw=>Hp.vo .here hw (by intro hz';have:=F;rw[hz'] at this;omega)) ?_
       rintro⟨al,rfl⟩
       refine Lf 7 U (xY z2J F.1 F.2 wz)<|Lg 8 U (wi (cs:=(wd<|nth b a)) z5o<|vB .here<|wG (enc:=wd) (l:=b) (i:=a) (sz:=3) (fun _=>U) F.1 F.2)<|Lf 9 U q_m<|Lf 10 U q_m<|Lf 11 U sR<|Lf 12 U (xY z2J I.1 I.2 wz)<|Lg 13 U (wi (cs:=(wd<|nth b<|i64 (a-1))) z5o<|vB .here<|wG (enc:=wd) (l:=b) (i:=i64 (a-1)) (sz:=3) (fun _=>U) I.1 I.2)<|L4 14 U (qi (l:=[.tmp 26,.tmp 31]) (f:=zad) (caps:=zdn) S<|.r2 U U) (fun w hw=>T w (hz.now hw) (⟨(nth b a).yc,(nth b a).ya,(nth b a).yb⟩:yh) (⟨(nth b<|i64 (a-1)).yc,(nth b<|i64 (a-1)).ya,(nth b<|i64 (a-1)).yb⟩:yh) ak  aa)<|Lf 15 U sS<|Lf 16 U qE<|L2 (.cons .here .nil) ?_ R
       exact .t 9<|.r2 (zu<|Eq.symm J)<|zu s
      ·have K:=hb';clear hb'
       have L:=jE Q K
       replace L:=oJ L
       refine L0 (i:=21) U K<|Lk 4 U<|Lk 5 U<|Lk 6 U<|Lk 7 U<|Lk 8 U<|Lk 9 U<|Lk 10 U<|Lk 11 U<|Lk 12 U<|Lk 13 U<|Lk 14 U<|Lk 15 U<|Lf 16 U qF<|L2 (.cons .here .nil) ?_ R
       exact .t 9<|.r2 (zu<|Eq.symm K)<|zu L
     refine Ny (by kernel_rfl)<|Lb<|Lj h (fun ab h=>?_)<|fun ab h=>?_
     ·refine Nn<|WC.b<|WC.block<|cK h fun G h=>cK h fun q h=>cK h fun B h=>Lu (fun i=>[15,17].contains i) []<|Lf 0 U q_m<|Lf 1 U q_m<|Lf 2 U q_m<|Lf 3 U q_m<|Lf 4 U sR<|Lf 5 U q_m<|Lf 6 U q_m<|Lf 7 U sR<|N2 (fun w hw=>Hp.vo .here hw (by intro hz';have:=G;rw[hz'] at this;omega)) ?_
      rintro⟨H,rfl⟩
      let C:List Value:=[vi ((nth b (i64 (a-1))).yc),vi ((nth b (i64 (a-1))).ya),vi ((nth b (i64 (a-1))).yb)];let D:List Value:=[vi ((nth b a).yc),vi ((nth b a).ya),vi ((nth b a).yb)];refine Lf 8 U (xY z2J G.1 G.2 wz)<|Lg 9 U (wi (cs:=(wd<|nth b<|i64 (a-1))) z5o<|vB .here<|wG (enc:=wd) (l:=b) (i:=i64 (a-1)) (sz:=3) (fun _=>U) G.1 G.2)<|Lf 10 U q_m<|Lf 11 U q_m<|Lf 12 U (xY z2J q.1 q.2 wz)<|Lg 13 U (wi (cs:=(wd<|nth b a)) z5o<|vB .here<|wG (enc:=wd) (l:=b) (i:=a) (sz:=3) (fun _=>U) q.1 q.2)<|Lf 14 U (xY z2J q.1 q.2 wz)<|WD.forced0 (i:=15) U (by kernel_rfl) (wT.of .nil) (kQ (vs:=C) (ds:=(b.set (a:Int).toNat (⟨(nth b<|i64 (a-1)).yc,(nth b<|i64 (a-1)).ya,(nth b<|i64 (a-1)).yb⟩:yh)).flatMap wd) zc8 sN .here (ma (enc:=wd) (sz:=3) (k:=0) (fun _=>U) q.1 q.2 (by decide))<|fZ (enc:=wd) (l:=b) (sz:=3) (vs:=C) (y:=(⟨(nth b<|i64 (a-1)).yc,(nth b<|i64 (a-1)).ya,(nth b<|i64 (a-1)).yb⟩:yh)) (k:=0) (fun _=>U) q.1 q.2<|Nat.le_of_ble_eq_true U)<|N4 .here (u:=(vs (some ⟨H,0,none⟩) ((b.set (a:Int).toNat (⟨(nth b<|i64 (a-1)).yc,(nth b<|i64 (a-1)).ya,(nth b<|i64 (a-1)).yb⟩:yh)).length) c)) (qs (List.length_set).symm)<|Nk (i:=0) U (u:=(vs (some ⟨H,0,none⟩) ((b.set (a:Int).toNat (⟨(nth b<|i64 (a-1)).yc,(nth b<|i64 (a-1)).ya,(nth b<|i64 (a-1)).yb⟩:yh)).length) c)) (qs (List.length_set).symm)<|Nk (i:=39) U (u:=(vs (some ⟨H,0,none⟩) ((b.set (a:Int).toNat (⟨(nth b<|i64 (a-1)).yc,(nth b<|i64 (a-1)).ya,(nth b<|i64 (a-1)).yb⟩:yh)).length) c)) (qs (List.length_set).symm)<|Lf 16 U (xY z2J B.1 B.2 wz)<|Nc (i:=17) U (by kernel_rfl) (by kernel_rfl) (kQ (vs:=D) (ds:=((b.set (a:Int).toNat (⟨(nth b<|i64 (a-1)).yc,(nth b<|i64 (a-1)).ya,(nth b<|i64 (a-1)).yb⟩:yh)).set ((i64 (a-1)):Int).toNat (⟨(nth b a).yc,(nth b a).ya,(nth b a).yb⟩:yh)).flatMap wd) zc8 sN .here (ma (enc:=wd) (sz:=3) (k:=0) (fun _=>U) B.1 B.2 (by decide))<|fZ (enc:=wd) (l:=b.set (a:Int).toNat (⟨(nth b<|i64 (a-1)).yc,(nth b<|i64 (a-1)).ya,(nth b<|i64 (a-1)).yb⟩:yh)) (sz:=3) (vs:=D) (y:=(⟨(nth b a).yc,(nth b a).ya,(nth b a).yb⟩:yh)) (k:=0) (fun _=>U) B.1 B.2<|Nat.le_of_ble_eq_true U)<|N4 .here (u:=(vs (some ⟨H,0,none⟩) (((b.set (a:Int).toNat (⟨(nth b<|i64 (a-1)).yc,(nth b<|i64 (a-1)).ya,(nth b<|i64 (a-1)).yb⟩:yh)).set ((i64 (a-1)):Int).toNat (⟨(nth b a).yc,(nth b a).ya,(nth b a).yb⟩:yh)).length) c)) (qs (List.length_set).symm)<|Nk (i:=0) U (u:=(vs (some ⟨H,0,none⟩) (((b.set (a:Int).toNat (⟨(nth b<|i64 (a-1)).yc,(nth b<|i64 (a-1)).ya,(nth b<|i64 (a-1)).yb⟩:yh)).set ((i64 (a-1)):Int).toNat (⟨(nth b a).yc,(nth b a).ya,(nth b a).yb⟩:yh)).length) c)) (qs (List.length_set).symm)<|Ny (by kernel_rfl)<|Lt<|Lb<|D3q U<|WL.nil ?_
      exact Nx ⟨ai,(b.set (a:Int).toNat (⟨(nth b<|i64 (a-1)).yc,(nth b<|i64 (a-1)).ya,(nth b<|i64 (a-1)).yb⟩:yh)).set ((i64 (a-1)):Int).toNat (⟨(nth b a).yc,(nth b a).ya,(nth b a).yb⟩:yh),i64 (a-1)⟩ ⟨h,(List.length_set).trans ((List.length_set).trans P)⟩ (Nat.lt_succ_self _) .q<|.cons .here .nil
     ·exact Nz<|Lo<|Lo<|Lv<|Lp b ⟨h,P⟩ .q<|.cons .here .nil
    ·rintro p ⟨h,ad⟩
     replace h:=(Y p).symm.trans h
     exact Lt<|Lp p ⟨h,ad⟩ .q<|.cons .here .nil
   ·rintro o ⟨h,ae⟩
    replace h:=(X o).symm.trans h
    exact D3q U<|WL.nil<|Nx ⟨ag,o,i64 (m+1)⟩ ⟨h,ae⟩ (Nat.lt_succ_self _) .q<|.cons .here .nil
  ·exact Nz<|Lo<|Lo<|Lv<|Lp n ⟨h,N⟩ .nil<|.cons .here .nil
 ·rintro v ⟨h,af⟩
  replace h:=(V v).symm.trans h
  exact oJ h▸Nh results131 .nil fun w hw=>⟨mF,af,hw.sub (.cons .here .nil)⟩
def wI(e:Int)(c:Int)(d:Int)(f:(List yh)->Option (List yh)):Nat->(List yh)->Int->Option (List yh)
 | 0,_,_=>none
 | g+1,b,a=>if decide (a<e) then chk (0<=(i64 (c+a))/\(i64 (c+a))<b.length) (chk (0<=(i64 (d+a))/\(i64 (d+a))<b.length) (chk (0<=(i64 (c+a))/\(i64 (c+a))<(((b.set ((i64 (d+a)):Int).toNat (⟨(nth b (i64 (c+a))).yc,(nth b (i64 (c+a))).ya,(nth b (i64 (c+a))).yb⟩:yh)).length:Nat):Int)) (wI e c d f g ((b.set ((i64 (d+a)):Int).toNat (⟨(nth b (i64 (c+a))).yc,(nth b (i64 (c+a))).ya,(nth b (i64 (c+a))).yb⟩:yh)).set ((i64 (c+a)):Int).toNat (⟨(nth b (i64 (d+a))).yc,(nth b (i64 (d+a))).ya,(nth b (i64 (d+a))).yb⟩:yh)) (i64 (a+1))))) else f b
def vJ(a:List yh)(b:Int)(c:Int)(d:Int)(zqc:yh->yh->Option Int):Option (List yh):=
 qP (fun(e:List yh)=>some e) fun f=>wI d c b f xR a 0
theorem gG(Z m f zlM ztw g d c t zqc r)(h:vJ g d c t zqc=some r){Nv}(hz:Pz [row (vs m g.length f) 81 3 (g.flatMap wd)] Nv Z)(F:∀ args w,(callFunc zlM args).run Tryz.prog w = .ok (.enter zlM args) w)(G:∀ w:World,PZ [] w Z->∀(x0:yh) (x1:yh) (r:Int),zqc x0 x1=some r->Calls Tryz.prog zlM (([.agg #[vi x0.yc,vi x0.ya,vi x0.yb],.agg #[vi x1.yc,vi x1.ya,vi x1.yb]]:List Value)++ztw).toArray w fun e w'=>e = .returned (vi r)/\Hp [] w w' [])(ip:Ho Nv [row (vs m g.length f) 81 3 (g.flatMap wd)]):
  Calls Tryz.prog 176 #[vs m g.length f,vi d,vi c,vi t,.func (.func zlM) #[] (ztw).toArray] Nv fun e w'=>e = .returned (.tuple #[])/\(r.length=g.length)/\Hp (fps [row (vs m g.length f) 81 3 (g.flatMap wd)]) Nv w' [row (vs m r.length f) 81 3 (r.flatMap wd)]:=by
 unfold vJ at h
 refine Dx func176 U ip U<|B1n U<|jK1 h fun v z h=>Od (fun n=>(v n=some r)/\(n.length=g.length)) (fun n=>[]) (fun n=>[row (vs m n.length f) 81 3 (n.flatMap wd)]) ?_ ?_
 ·refine WC.block<|N7 (fun o a b=>(wI t c d v o a b=some r)/\(a.length=g.length)) (fun o a b=>[(0,vs m a.length f),(1,vi d),(2,vi c),(3,vi t),(10,vi b)]) (fun o a b=>[row (vs m a.length f) 81 3 (a.flatMap wd)]) (fun o a b=>o) ⟨xR,g,0⟩ ⟨h,U⟩ .q (.cons .here .nil) ?_
  rintro (_|E) a b ⟨h,x⟩;·cases h
  rw[wI] at h
  refine WC.b<|B3n U<|Lj h (fun B h=>?_)<|fun B h=>?_
  ·refine Nn<|WC.b<|WC.block<|cK h fun q h=>cK h fun j h=>cK h fun p h=>Lu (fun i=>[21,23].contains i) []<|Lf 0 U q_m<|Lf 1 U q_m<|Lf 2 U q_m<|Lf 3 U rP<|Lf 4 U q_m<|Lf 5 U q_m<|Lf 6 U q_m<|Lf 7 U rP<|Lf 8 U q_m<|Lf 9 U q_m<|Lf 10 U q_m<|Lf 11 U rP<|N2 (fun w hw=>Hp.vo .here hw (by intro hz';have:=q;rw[hz'] at this;omega)) ?_
   rintro⟨s,rfl⟩
   let A:List Value:=[vi ((nth a (i64 (c+b))).yc),vi ((nth a (i64 (c+b))).ya),vi ((nth a (i64 (c+b))).yb)];let C:List Value:=[vi ((nth a (i64 (d+b))).yc),vi ((nth a (i64 (d+b))).ya),vi ((nth a (i64 (d+b))).yb)];refine Lf 12 U (xY z2J q.1 q.2 wz)<|Lg 13 U (wi (cs:=(wd<|nth a<|i64 (c+b))) z5o<|vB .here<|wG (enc:=wd) (l:=a) (i:=i64 (c+b)) (sz:=3) (fun _=>U) q.1 q.2)<|Lf 14 U q_m<|Lf 15 U q_m<|Lf 16 U q_m<|Lf 17 U rP<|Lf 18 U (xY z2J j.1 j.2 wz)<|Lg 19 U (wi (cs:=(wd<|nth a<|i64 (d+b))) z5o<|vB .here<|wG (enc:=wd) (l:=a) (i:=i64 (d+b)) (sz:=3) (fun _=>U) j.1 j.2)<|Lf 20 U (xY z2J j.1 j.2 wz)<|WD.forced0 (i:=21) U (by kernel_rfl) (wT.of .nil) (kQ (vs:=A) (ds:=(a.set ((i64 (d+b)):Int).toNat (⟨(nth a<|i64 (c+b)).yc,(nth a<|i64 (c+b)).ya,(nth a<|i64 (c+b)).yb⟩:yh)).flatMap wd) zc8 sN .here (ma (enc:=wd) (sz:=3) (k:=0) (fun _=>U) j.1 j.2 (by decide))<|fZ (enc:=wd) (l:=a) (sz:=3) (vs:=A) (y:=(⟨(nth a<|i64 (c+b)).yc,(nth a<|i64 (c+b)).ya,(nth a<|i64 (c+b)).yb⟩:yh)) (k:=0) (fun _=>U) j.1 j.2<|Nat.le_of_ble_eq_true U)<|N4 .here (u:=(vs (some ⟨s,0,none⟩) ((a.set ((i64 (d+b)):Int).toNat (⟨(nth a<|i64 (c+b)).yc,(nth a<|i64 (c+b)).ya,(nth a<|i64 (c+b)).yb⟩:yh)).length) f)) (qs (List.length_set).symm)<|Nk (i:=0) U (u:=(vs (some ⟨s,0,none⟩) ((a.set ((i64 (d+b)):Int).toNat (⟨(nth a<|i64 (c+b)).yc,(nth a<|i64 (c+b)).ya,(nth a<|i64 (c+b)).yb⟩:yh)).length) f)) (qs (List.length_set).symm)<|Nk (i:=20) U (u:=(vs (some ⟨s,0,none⟩) ((a.set ((i64 (d+b)):Int).toNat (⟨(nth a<|i64 (c+b)).yc,(nth a<|i64 (c+b)).ya,(nth a<|i64 (c+b)).yb⟩:yh)).length) f)) (qs (List.length_set).symm)<|Lf 22 U (xY z2J p.1 p.2 wz)<|Nc (i:=23) U (by kernel_rfl) (by kernel_rfl) (kQ (vs:=C) (ds:=((a.set ((i64 (d+b)):Int).toNat (⟨(nth a<|i64 (c+b)).yc,(nth a<|i64 (c+b)).ya,(nth a<|i64 (c+b)).yb⟩:yh)).set ((i64 (c+b)):Int).toNat (⟨(nth a<|i64 (d+b)).yc,(nth a<|i64 (d+b)).ya,(nth a<|i64 (d+b)).yb⟩:yh)).flatMap wd) zc8 sN .here (ma (enc:=wd) (sz:=3) (k:=0) (fun _=>U) p.1 p.2 (by decide))<|fZ (enc:=wd) (l:=a.set ((i64 (d+b)):Int).toNat (⟨(nth a<|i64 (c+b)).yc,(nth a<|i64 (c+b)).ya,(nth a<|i64 (c+b)).yb⟩:yh)) (sz:=3) (vs:=C) (y:=(⟨(nth a<|i64 (d+b)).yc,(nth a<|i64 (d+b)).ya,(nth a<|i64 (d+b)).yb⟩:yh)) (k:=0) (fun _=>U) p.1 p.2<|Nat.le_of_ble_eq_true U)<|N4 .here (u:=(vs (some ⟨s,0,none⟩) (((a.set ((i64 (d+b)):Int).toNat (⟨(nth a<|i64 (c+b)).yc,(nth a<|i64 (c+b)).ya,(nth a<|i64 (c+b)).yb⟩:yh)).set ((i64 (c+b)):Int).toNat (⟨(nth a<|i64 (d+b)).yc,(nth a<|i64 (d+b)).ya,(nth a<|i64 (d+b)).yb⟩:yh)).length) f)) (qs (List.length_set).symm) ?_
   exact Nk (i:=0) U (u:=(vs (some ⟨s,0,none⟩) (((a.set ((i64 (d+b)):Int).toNat (⟨(nth a<|i64 (c+b)).yc,(nth a<|i64 (c+b)).ya,(nth a<|i64 (c+b)).yb⟩:yh)).set ((i64 (c+b)):Int).toNat (⟨(nth a<|i64 (d+b)).yc,(nth a<|i64 (d+b)).ya,(nth a<|i64 (d+b)).yb⟩:yh)).length) f)) (qs (List.length_set).symm)<|Ny (by kernel_rfl)<|Lt<|Lb<|D3q U<|WL.nil<|Nx ⟨E,(a.set ((i64 (d+b)):Int).toNat (⟨(nth a<|i64 (c+b)).yc,(nth a<|i64 (c+b)).ya,(nth a<|i64 (c+b)).yb⟩:yh)).set ((i64 (c+b)):Int).toNat (⟨(nth a<|i64 (d+b)).yc,(nth a<|i64 (d+b)).ya,(nth a<|i64 (d+b)).yb⟩:yh),i64 (b+1)⟩ ⟨h,(List.length_set).trans ((List.length_set).trans x)⟩ (Nat.lt_succ_self _) .q<|.cons .here .nil
  ·exact Nz<|Lo<|Lo<|Lv<|Lp a ⟨h,x⟩ .nil<|.cons .here .nil
 ·rintro n ⟨h,D⟩
  replace h:=(z n).symm.trans h
  exact oJ h▸Nh results176 .nil fun w hw=>⟨mF,D,hw.sub (.cons .here .nil)⟩
def wV(iV:Int)(z6z:yh->yh->Option Int)(c:(List yh)->Int->Option (List yh)):Nat->(List yh)->Int->Int->Option (List yh)
 | 0,_,_,_=>none
 | e+1,d,a,b=>if decide (a≠b) then if decide (a>b) then(vJ d (i64 (iV-a)) iV b z6z).bind fun f=>wV iV z6z c e f (i64 (a-b)) b else(vJ d (i64 (iV-a)) (i64 ((i64 (iV+b))-a)) a z6z).bind fun g=>wV iV z6z c e g a (i64 (b-a)) else c d a
def jv(b:List yh)(c:Int)(iV:Int)(d:Int)(z6z:yh->yh->Option Int):Option (List yh):=
 sK (fun(e:List yh) (a:Int)=>(vJ e (i64 (iV-a)) iV a z6z).bind fun f=>some f) fun g=>wV iV z6z g xR b (i64 (iV-c)) (i64 (d-iV))
theorem oN(Z a b zds zjo c m iV n z6z r)(h:jv c m iV n z6z=some r){Nv}(hz:Pz [row (vs a c.length b) 81 3 (c.flatMap wd)] Nv Z)(o:∀ args w,(callFunc zds args).run Tryz.prog w = .ok (.enter zds args) w)(p:∀ w:World,PZ [] w Z->∀(x0:yh) (x1:yh) (r:Int),z6z x0 x1=some r->Calls Tryz.prog zds (([.agg #[vi x0.yc,vi x0.ya,vi x0.yb],.agg #[vi x1.yc,vi x1.ya,vi x1.yb]]:List Value)++zjo).toArray w fun e w'=>e = .returned (vi r)/\Hp [] w w' [])(ip:Ho Nv [row (vs a c.length b) 81 3 (c.flatMap wd)]):
  Calls Tryz.prog 161 #[vs a c.length b,vi m,vi iV,vi n,.func (.func zds) #[] (zjo).toArray] Nv fun e w'=>e = .returned (.tuple #[])/\(r.length=c.length)/\Hp (fps [row (vs a c.length b) 81 3 (c.flatMap wd)]) Nv w' [row (vs a r.length b) 81 3 (r.flatMap wd)]:=by
 unfold jv at h
 refine Dx func161 U ip U<|B4n U<|B4n U ?_
 obtain⟨s,C,h⟩:=jZ h
 let A:Value:=(.func (.func zds) #[] (zjo).toArray);refine H0 (fun g k=>(s g k=some r)/\(g.length=c.length)) (fun g k=>[(0,vs a g.length b),(2,vi iV),(4,A),(10,vi k)]) (fun g k=>[row (vs a g.length b) 81 3 (g.flatMap wd)]) ?_ ?_
 ·refine WC.block<|Dw (fun l d f j=>(wV iV z6z s l d f j=some r)/\(d.length=c.length)) (fun l d f j=>[(0,vs a d.length b),(2,vi iV),(4,A),(10,vi f),(11,vi j)]) (fun l d f j=>[row (vs a d.length b) 81 3 (d.flatMap wd)]) (fun l d f j=>l) ⟨xR,c,i64 (iV-m),i64 (n-iV)⟩ ⟨h,U⟩ .q (.cons .here .nil) ?_
  rintro (_|t) d f j ⟨h,q⟩;·cases h
  rw[wV] at h
  refine WC.b<|B3n U<|Lj h (fun D h=>?_)<|fun D h=>?_
  ·refine Nn<|WC.block<|B3n U<|Lj h (fun E h=>?_)<|fun E h=>?_
   ·refine WC.b<|bK h fun v F h=>Ld<|La U<|La U<|La U<|La U<|La U<|La U<|La U<|Na (dd:=31) U (Ns call176) (.cons .here .nil) (cc hz (.cons .here .nil) fun w pz ho=>gG _ _ _ (zlM:=zds) (ztw:=zjo) _ _ _ _ (zqc:=z6z) _ F pz o p ho) ?_
    rintro  x
    exact L7 (i:=0) U (u:=(vs a v.length b)) (qs x.symm)<|Q0n<|D4q U<|WL.nil<|Lt<|Nx ⟨t,v,i64 (f-j),j⟩ ⟨h,x.trans q⟩ (Nat.lt_succ_self _) .q<|.cons .here .nil
   ·refine WC.b<|bK h fun y G h=>Ld<|La U<|La U<|La U<|La U<|La U<|La U<|La U<|La U<|La U<|La U<|La U<|Na (dd:=46) U (Ns call176) (.cons .here .nil) (cc hz (.cons .here .nil) fun w pz ho=>gG _ _ _ (zlM:=zds) (ztw:=zjo) _ _ _ _ (zqc:=z6z) _ G pz o p ho) ?_
    rintro  z
    exact L7 (i:=0) U (u:=(vs a y.length b)) (qs z.symm)<|Q0n<|D4q U<|WL.nil<|Lt<|Nx ⟨t,y,f,i64 (j-f)⟩ ⟨h,z.trans q⟩ (Nat.lt_succ_self _) .q<|.cons .here .nil
  ·exact Nz<|Lo<|Lo<|Lv<|Lp ⟨d,f⟩ ⟨h,q⟩ .q<|.cons .here .nil
 ·rintro g k ⟨h,H⟩
  replace h:=(C g k).symm.trans h
  refine bK h fun J I h=>Ld<|La U<|La U<|La U<|La U<|La U<|La U<|La U<|Na (dd:=57) U (Ns call176) (.cons .here .nil) (cc hz (.cons .here .nil) fun w pz ho=>gG _ _ _ (zlM:=zds) (ztw:=zjo) _ _ _ _ (zqc:=z6z) _ I pz o p ho) ?_
  rintro  B
  exact L7 (i:=0) U (u:=(vs a J.length b)) (qs B.symm)<|WL.nil<|oJ h▸Nh results161 .nil fun w hw=>⟨mF,B.trans H,hw.sub (.cons .here .nil)⟩
end Go.Proofs.YtcahmabkeaijdaaGreat
