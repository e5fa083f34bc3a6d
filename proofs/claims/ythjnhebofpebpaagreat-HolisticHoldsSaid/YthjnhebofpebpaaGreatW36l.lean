/- A part of this claim's proof: models of functions, walks, plain laws. No conditions. -/
import Derived.Test.YthjnhebofpebpaaGreatW36k
set_option linter.all false
namespace Go.Proofs.YthjnhebofpebpaaGreat
open Go Go.RowKit Sep Tryz
variable {f g k:Int}{i:List yh}{j:(List yh)->Option (List yh)}
set_option maxRecDepth 30000
set_option maxHeartbeats 4000000
def wK(zaG:yj->Option Bool)(d:(List yj)->Int->Option (List yj)):Nat->(List yj)->Int->Int->Option (List yj)
 | 0,_,_,_=>none
 | f+1,a,c,b=>if decide (b<a.length) then sm (fun(g:List yj) (h:Int)=>wK zaG d f g h (i64 (b+1))) fun e=>chk (0<=b/\b<a.length) ((zaG (⟨(nth a b).yo,(nth a b).yO⟩:yj)).bind fun i=>if !i then chk (0<=c/\c<a.length) (e (a.set (c:Int).toNat (⟨(nth a b).yo,(nth a b).yO⟩:yj)) (i64 (c+1))) else e a c) else d a c
def vF(c:List yj)(zaG:yj->Option Bool):Option (List yj):=
 (vL c zaG).bind fun d=>if decide (d=(-1)) then some c else sm (fun(b:List yj) (a:Int)=>chk (0<=a/\a<=b.length) (chk (0<=a/\a<=(((b.take (a:Int).toNat++List.replicate (b.length-(a:Int).toNat) ((⟨0,0⟩:yj):yj)).length:Nat):Int)) (some ((b.take (a:Int).toNat++List.replicate (b.length-(a:Int).toNat) ((⟨0,0⟩:yj):yj)).take (a:Int).toNat)))) fun e=>wK zaG e xT c d (i64 (d+1))
theorem sO{Z j c}(ziA zod){m}(zaG){r}(h:vF m zaG=some r){Ny}(hz:Pz [row (vs j m.length c) 256 2 (m.flatMap gt)] Ny Z)(z:∀ args w,(callFunc ziA args).run Tryz.prog w = .ok (.enter ziA args) w)(B:∀ w:World,PZ [] w Z->∀(x0:yj) (r:Bool),zaG x0=some r->Calls Tryz.prog ziA (([.agg #[vi x0.yo,vi x0.yO]]:List Value)++zod).toArray w fun e w'=>e = .returned (.bool r)/\Hp [] w w' [])(iF:Ho Ny [row (vs j m.length c) 256 2 (m.flatMap gt)]):
  Calls Tryz.prog 136 #[vs j m.length c,.func (.func ziA) #[] (zod).toArray] Ny fun e w'=>∃ E:Option Addr,∃ F:Nat,e = .returned (vs E r.length F)/\True/\Hp (fps [row (vs j m.length c) 256 2 (m.flatMap gt)]) Ny w' [row (vs E r.length F) 256 2 (r.flatMap gt)]:=by
 unfold vF at h
 refine Nj func136 U iF U<|B1n U<|WC.b<|bK h fun G J h=>D2q U<|Lo 10 (Nt call167) .nil (uB hz .nil (.cons .here .nil) fun w pz ho la=>rl (zoc:=ziA) (zx3:=zod) (zcV:=zaG) J pz (ZA.row (la _ (.head _) _) (RR.flat (enc:=gt)) ⟨w,pz.1⟩) z<|fun w' hz'=>B w'<|hz'.le<|zl)<|Q1n U<|WC.b<|B2n U<|Lj h (fun K h=>?_)<|fun K h=>?_
 ·exact B2n U<|Nz<|Ll<|oJ h▸Li results136 (.tmp U .nil) fun w hw=>⟨j,c,w3,trivial,hw.sub (.cons .here .nil)⟩
 ·refine Np<|jK2 h fun H L h=>H6 (fun d n=>(H d n=some r)/\(d.length=m.length)) (fun d n=>[(0,vs j d.length c),(5,vi n)]) (fun d n=>[row (vs j d.length c) 256 2 (d.flatMap gt)]) ?_ ?_
  ·let D:Value:=(.func (.func ziA) #[] (zod).toArray);refine B3n U<|WC.block<|Cv (fun q a g b=>(wK zaG H q a g b=some r)/\(a.length=m.length)) (fun q a g b=>[(0,vs j a.length c),(1,D),(5,vi g),(6,vi b)]) (fun q a g b=>[row (vs j a.length c) 256 2 (a.flatMap gt)]) (fun q a g b=>q) ⟨xT,m,G,i64 (G+1)⟩ ⟨h,U⟩ .q (.cons .here .nil) ?_
   rintro (_|W) a g b ⟨h,x⟩;·cases h
   rw[wK] at h
   refine WC.b<|B2q U<|Le 18 (wc underlying251)<|Q1n U<|Lj h (fun M h=>?_)<|fun M h=>?_
   ·refine Np<|jK2 h fun X N h=>H6 (fun o p=>(X o p=some r)/\(o.length=m.length)) (fun o p=>[(0,vs j o.length c),(1,D),(5,vi p),(6,vi b)]) (fun o p=>[row (vs j o.length c) 256 2 (o.flatMap gt)]) ?_ ?_
    ·refine WC.block<|WC.b<|cK h fun t h=>D2q U<|N5 (fun w hw=>Hp.vf .here hw (by intro hz';have:=t;rw[hz'] at this;omega)) ?_
     rintro⟨I,rfl⟩
     refine Le 24 (xZ zfK t.1 t.2 wF)<|Le 25 (wo (cs:=(gt<|nth a b)) zoQ<|vQ .here<|wN (enc:=gt) (l:=a) (i:=b) (sz:=2) t.1 t.2) (Lh 7 (xV (cs:=[vi 0,vi 0]) zD3 U) fun aa _=>Lk (xR zD4 .here)<|Q0n<|WC.b ?_)
     refine bK h fun Y O h=>D1q U<|Le 27 (xN zoQ (xO .here))<|Lo 28 (qk (l:=[.tmp 27]) (f:=ziA) (caps:=zod) z<|.cons U .nil) .nil (fun w hw=>B w (hz.now hw) (⟨(nth a b).yo,(nth a b).yO⟩:yj) Y  O)<|Q1n U<|Lj h (fun P h=>?_)<|fun P h=>?_
     ·refine WC.b ?_
      obtain⟨s,h⟩:=xI h
      let C:List Value:=[vi ((nth a b).yo),vi ((nth a b).yO)];refine D2q U<|Le 32 (xN zoQ (xO .here))<|Le 33 (xZ zfK s.1 s.2 wF)<|Lk (gb (vs:=C) (ds:=(a.set (g:Int).toNat (⟨(nth a b).yo,(nth a b).yO⟩:yj)).flatMap gt) zD4 sV .h1 (mu (enc:=gt) (sz:=2) (k:=0) s.1 s.2)<|mt (enc:=gt) (l:=a) (sz:=2) (vs:=C) (y:=(⟨(nth a b).yo,(nth a b).yO⟩:yj)) (k:=0) s.1 s.2<|Nat.le_of_ble_eq_true U)<|At .here (u:=(vs (some ⟨I,0,none⟩) ((a.set (g:Int).toNat (⟨(nth a b).yo,(nth a b).yO⟩:yj)).length) c)) (qD (List.length_set).symm)<|L9 (i:=0) U (u:=(vs (some ⟨I,0,none⟩) ((a.set (g:Int).toNat (⟨(nth a b).yo,(nth a b).yO⟩:yj)).length) c)) (qD (List.length_set).symm)<|Q0n<|D3q U<|WL.nil<|Lt ?_
      exact Lp ⟨a.set (g:Int).toNat (⟨(nth a b).yo,(nth a b).yO⟩:yj),i64 (g+1)⟩ ⟨h,(List.length_set).trans x⟩ .q<|.cons .here .nil
     ·exact N3<|Lt<|Lp ⟨a,g⟩ ⟨h,x⟩ .q<|.cons .h1 .nil
    ·rintro o p ⟨h,Q⟩
     replace h:=(N o p).symm.trans h
     exact D3q U<|WL.nil<|N0 ⟨W,o,p,i64 (b+1)⟩ ⟨h,Q⟩ .q<|.cons .here .nil
   ·exact N2<|Ln<|Ln<|Lv<|Lp ⟨a,g⟩ ⟨h,x⟩ .q<|.cons .here .nil
  ·rintro d n ⟨h,ab⟩
   replace h:=(L d n).symm.trans h
   refine WC.b<|cK h fun v h=>D2q U<|P0 U U zfK U U .here v ?_
   intro ad ae R
   let A:Value:=(vs j ((d.take (n:Int).toNat++List.replicate (d.length-(n:Int).toNat) ((⟨0,0⟩:yj):yj)).length) c);refine Lk (aC (enc:=gt) (z0:=((⟨0,0⟩:yj):yj)) (l:=d) zfK zD3 U R v (fun _=>U) U KQ .here)<|At .here (u:=A) (qD (oR v).symm)<|L9 (i:=0) U (u:=A) (qD (oR v).symm)<|Q0n<|WC.b ?_
   refine cK h fun S h=>D1q U<|La U (Ph (enc:=gt) (ls:=d.take (n:Int).toNat++List.replicate (d.length-(n:Int).toNat) ((⟨0,0⟩:yj):yj)) U U zfK U U .here S fun T V=>Q1n U<|Nz ?_)
   exact oJ h▸Li results136 (.tmp U .nil) fun w hw=>⟨T,V,w3,trivial,hw.sub (.cons .here .nil)⟩
def mi(a:yj)(b:Int):Option Bool:=
 some (decide (a.yO>b))
theorem aT{Z b a c r}(h:mi a c=some r){Ny}(hz:PZ [] Ny Z)(d:ZC Z b [vi c]):
  RC 169 #[.agg #[vi a.yo,vi a.yO],vq b] Ny (.bool r) [] []:=by
 unfold mi at h
 refine L0 func169 U U<|B0q (Lh 2 (we (cs:=[vi a.yo,vi a.yO])) fun e _=>Q1n U<|B0q<|Le 4 (xB J6)<|Le 5 (Nu xL .here)<|Le 6 (xC xL U<|kz hz.pv d)<|Q2n U<|Nz ?_)
 exact oJ h▸Nm results169
def gE(b:yC)(zcW:yj->Option Bool)(d:Int->Option Int):Nat->Int->Int->Option Int
 | 0,_,_=>none
 | f+1,c,a=>if decide (a<b.yn.length) then qt (fun(g:Int)=>gE b zcW d f g (i64 (a+1))) fun e=>chk (0<=a/\a<b.yn.length) ((zcW (⟨(nth b.yn a).yo,(nth b.yn a).yO⟩:yj)).bind fun h=>if h then e (i64 (c+((nth b.yn a).yo))) else e c) else d c
def ur(a:yC)(zcW:yj->Option Bool):Option Int:=
 qt (fun(b:Int)=>some b) fun c=>gE a zcW c xT 0 0
theorem Wj{Z m j k}(zlC zt2){a}(zcW){r}(h:ur a zcW=some r){Ny}(hz:PZ [] Ny Z)(o:ZS Z 2 (rq gt) j k a.yn)(p:ZC Z m [vi a.yk.yp,vi a.yk.yl,vi a.yk.fT,vi a.yQ,vi a.yE,vs j a.yn.length k])(q:∀ args w,(callFunc zlC args).run Tryz.prog w = .ok (.enter zlC args) w)(s:∀ w:World,PZ [] w Z->∀(x0:yj) (r:Bool),zcW x0=some r->Calls Tryz.prog zlC (([.agg #[vi x0.yo,vi x0.yO]]:List Value)++zt2).toArray w fun e w'=>e = .returned (.bool r)/\Hp [] w w' []):
  RC 168 #[vq m,.func (.func zlC) #[] (zt2).toArray] Ny (vi r) [] []:=by
 unfold ur at h
 refine L0 func168 U U<|B1n U<|B1n U<|jK1 h fun n t h=>L6 (fun g=>(n g=some r)) (fun g=>[(5,vi g)]) (fun g=>[]) ?_ ?_
 ·let A:Value:=(.func (.func zlC) #[] (zt2).toArray);let C:=(a.yn.length:Int);let D:Value:=(vs j a.yn.length k);refine B1q U<|Le 9 w5<|Le 10 (xB cU)<|Le 11 (xC zD2 U<|wt hz.pv p)<|Le 12 (wc underlying251)<|Q1n U<|WC.block<|H0 (fun i c b=>(gE a zcW n i c b=some r)) (fun i c b=>[(1,A),(5,vi c),(11,D),(12,vi C),(13,vi b)]) (fun i c b=>[]) (fun i c b=>i) ⟨xT,0,0⟩ h .q .nil ?_
  rintro(_|E) c b h;·cases h
  rw[gE] at h
  refine B1n U<|WC.b<|Lj h (fun u h=>?_)<|fun u h=>?_
  ·refine Np<|jK1 h fun F v h=>L6 (fun d=>(F d=some r)) (fun d=>[(1,A),(5,vi d),(11,D),(12,vi C),(13,vi b)]) (fun d=>[]) ?_ ?_
   ·refine WC.block<|WC.b<|cK h fun x h=>Ld<|L2 (Z:=Z) (Pr:=(rq gt)) zfK o x ?_
    rintro H I y J rfl
    refine Le 16 (xN zoQ (qB hz.pv y)) (Lh 7 (xV (cs:=[vi 0,vi 0]) zD3 U) fun K _=>Lk (xR zD4 .here)<|Q0n<|WC.b ?_)
    refine bK h fun G z h=>D1q U<|Le 18 (xN zoQ (xO .here))<|Lo 19 (qk (l:=[.tmp 18]) (f:=zlC) (caps:=zt2) q<|.cons U .nil) .nil (fun w hw=>s w (hz.now hw) (⟨(nth a.yn b).yo,(nth a.yn b).yO⟩:yj) G  z)<|Q0n<|Lj h (fun B h=>?_)<|fun B h=>?_
    ·exact D1q U<|Le 21 (xB MF)<|Le 22 (Nu xL .here)<|Q2q U<|WL.nil<|Lt<|Lp (i64 (c+((nth a.yn b).yo))) h .q .nil
    ·exact N3<|Lt<|Lp c h .q .nil
   ·rintro d h
    replace h:=(v d).symm.trans h
    exact D2q U<|WL.nil<|N0 ⟨E,d,i64 (b+1)⟩ h .q .nil
  ·exact N2<|Ln<|Ln<|Lv<|Lp c h (.cons U .nil) .nil
 ·rintro g h
  replace h:=(t g).symm.trans h
  exact B2n U<|Nz<|oJ h▸Nm results168
def rm(a:yC)(b:Int):Option Int:=
 (ua a).bind fun c=>if c then some 0 else(ur a (fun(y0:yj)=>mi y0 (max b a.yQ))).bind fun d=>some d
theorem XA{Z d e f a b r}(h:rm a b=some r){Ny}(hz:PZ [] Ny Z)(g:ZS Z 2 (rq gt) e f a.yn)(c:ZC Z d [vi a.yk.yp,vi a.yk.yl,vi a.yk.fT,vi a.yQ,vi a.yE,vs e a.yn.length f]):
  RC 138 #[vq d,vi b] Ny (vi r) [] []:=by
 unfold rm at h
 refine L0 func138 U U<|B0q (Lh 3 (we (cs:=[vi b])) fun j _=>Q1n U<|WC.b<|WC.b ?_)
 refine bK h fun o k h=>D1q U<|Ns call135 hz (fun pz=>b9 k pz g c)<|Q0n<|Lj h (fun m h=>?_)<|fun m h=>?_
 ·exact B1n U<|Nz<|Ll<|oJ h▸Nm results138
 ·exact Np<|WC.b<|Lu (fun i=>[6].contains i) []<|Lg 0 U (Nu xL .here)<|Lf 1 U q_m<|Lf 2 U w5<|Lf 3 U (xB Xr)<|Lg 4 U (xC xL U<|wt hz.pv c)<|Lf 5 U oQ<|Na (i:=6) U (xR px .here)<|N1<|Lb<|WC.b<|bK h fun p n h=>D1q U<|Le 14 (wO<|L5 (l:=[.tmp 3])<|.cons U .nil)<|Lo 15 (Nt call168) .nil (uB hz .nil (.cons .here .nil) fun w pz ho la=>Wj (zlC:=169) (zt2:=[vp j]) (zcW:=(fun(y0:yj)=>mi y0<|max b a.yQ)) n pz (g.mono<|zl) (c.mono<|zl) call169<|fun w' hz' y0  r  hr=>aT hr hz'<|(la _ (.head _) _).stb)<|Q1n U<|Nz<|oJ h▸Nm results138
def mE(a:yC)(b:Int)(c:Int):Option (Int×Int×yC):=
 (ua a).bind fun e=>if e then some (0,1,a) else if (((decide (c<1))||(decide (c>72)))||(decide (b<a.yQ)))||(decide (b>1073741824)) then some (0,2,a) else(vF a.yn (fun(y0:yj)=>mI y0 b)).bind fun d=>(rm ({a with yQ:=b,yn:=d}:yC) b).bind fun f=>if decide ((i64 (f+c))>a.yk.fT) then some (0,4,({a with yQ:=b,yn:=d}:yC)) else chk ((((d++([(⟨c,i64 ((max (i64 (b+a.yk.yl)) a.yE)+(i64 (c*a.yk.yp)))⟩:yj)]:List yj)).length:Nat):Int)*16<=140737488355328/\(((d++([(⟨c,i64 ((max (i64 (b+a.yk.yl)) a.yE)+(i64 (c*a.yk.yp)))⟩:yj)]:List yj)).length:Nat):Int)<=4611686018427387904) (some (i64 ((max (i64 (b+a.yk.yl)) a.yE)+(i64 (c*a.yk.yp))),0,(⟨a.yk,b,i64 ((max (i64 (b+a.yk.yl)) a.yE)+(i64 (c*a.yk.yp))),d++([(⟨c,i64 ((max (i64 (b+a.yk.yl)) a.yE)+(i64 (c*a.yk.yp)))⟩:yj)]:List yj)⟩:yC)))
theorem Wl{Z d f g a c b r}(h:mE a c b=some r){Ny}(hz:Pz [stb d 253 [vi a.yk.yp,vi a.yk.yl,vi a.yk.fT,vi a.yQ,vi a.yE,vs f a.yn.length g],row (vs f a.yn.length g) 256 2 (a.yn.flatMap gt)] Ny Z)(iF:Ho Ny [stb d 253 [vi a.yk.yp,vi a.yk.yl,vi a.yk.fT,vi a.yQ,vi a.yE,vs f a.yn.length g],row (vs f a.yn.length g) 256 2 (a.yn.flatMap gt)]):
  Calls Tryz.prog 89 #[vp d,vi c,vi b] Ny fun e w'=>∃ u:Option Addr,∃ x:Nat,e = .returned (.tuple #[vi r.1,vi r.2.1])/\True/\Hp (fps [stb d 253 [vi a.yk.yp,vi a.yk.yl,vi a.yk.fT,vi a.yQ,vi a.yE,vs f a.yn.length g],row (vs f a.yn.length g) 256 2 (a.yn.flatMap gt)]) Ny w' [stb d 253 [vi r.2.2.yk.yp,vi r.2.2.yk.yl,vi r.2.2.yk.fT,vi r.2.2.yQ,vi r.2.2.yE,vs u r.2.2.yn.length x],row (vs u r.2.2.yn.length x) 256 2 (r.2.2.yn.flatMap gt)]:=by
 unfold mE at h
 refine N8 func89 U iF U<|B0q (Lh 4 (we (cs:=[vi c])) fun k _=>Q2n U<|WC.b<|WC.block<|WC.b ?_)
 refine bK h fun j K h=>D1q U<|Lo 10 (Nt call135) .nil (uB hz .nil (.s2 .h1 .h1) fun w pz ho la=>b9 K pz (ZA.row (la _ (.tail _<|.head _) _) (RR.flat (enc:=gt)) ⟨w,pz.1⟩)<|(la _ (.head _) _).stb)<|Q1n U<|Lj h (fun L h=>?_)<|fun L h=>?_
 ·exact B2n U<|Nz<|Lx<|Ll<|oJ h▸Li results89 (.tmp U<|.tmp U .nil) fun w hw=>⟨f,g,qc,trivial,hw.sub (.s2 .h1 .h1)⟩
 ·let A:Value:=(.bool ((decide (b<1))||(decide (b>72))));let D:Value:=(.bool (decide (b<1)));refine WC.b<|Lu nc []<|Lf 0 U q_m<|Lf 1 U sY<|Lf 2 U q_m<|Nd (fuel':=13) [(0,vp d),(1,vi c),(2,vi b),(4,vp k),(6,vi 0),(7,vi 0),(9,vp d),(10,.bool j),(8,.bool j),(12,vi b),(13,D),(14,D),(17,A)] (vE 19 (dn 6)) ?_<|fun y=>?_
  rotate_left
  ·rcases Bool.eq_false_or_eq_true (decide (b<1)) with hb' | hb'
   ·have m:=hb';clear hb'
    refine L3 (i:=14) U m<|Lm 3 U<|Lm 4 U<|Lf 5 U qO<|Lw .a3 ?_ y
    exact .t 11<|.r2 (zx<|Eq.symm m)<|zx<|fc m
   ·have n:=hb';clear hb'
    refine L3 (i:=14) U n<|Lf 3 U q_m<|Lf 4 U rV<|Lf 5 U qP<|Lw .a3 ?_ y
    exact .t 11<|.r2 (zx<|Eq.symm n)<|zx<|ff n
  let C:Value:=(.bool (((decide (b<1))||(decide (b>72)))||(decide (c<a.yQ))));refine Lf 6 U q_m<|Nd (fuel':=5) [(0,vp d),(1,vi c),(2,vi b),(4,vp k),(6,vi 0),(7,vi 0),(9,vp d),(10,.bool j),(8,.bool j),(12,vi b),(13,D),(14,D),(17,A),(18,A),(25,C)] (vE 19 (dn 14)) ?_<|fun z=>?_
  rotate_left
  ·rcases Bool.eq_false_or_eq_true ((decide (b<1))||(decide (b>72))) with hb' | hb'
   ·have o:=hb';clear hb'
    refine L3 (i:=18) U o<|Lm 7 U<|Lm 8 U<|Lm 9 U<|Lm 10 U<|Lm 11 U<|Lm 12 U<|Lf 13 U qO<|Lw .a3 ?_ z
    exact .t 13<|.r2 (zx<|Eq.symm o)<|zx<|fc o
   ·have p:=hb';clear hb'
    refine L3 (i:=18) U p<|Lg 7 U (Nu xL .here)<|Lf 8 U q_m<|Lf 9 U w5<|Lf 10 U (xB Xr)<|Lg 11 U (Nu xL .h1)<|Lf 12 U sY<|Lf 13 U qP<|Lw .a3 ?_ z
    exact .t 13<|.r2 (zx<|Eq.symm p)<|zx<|ff p
  refine Lf 14 U q_m<|Nd (fuel':=1) [(0,vp d),(1,vi c),(2,vi b),(4,vp k),(6,vi 0),(7,vi 0),(9,vp d),(10,.bool j),(8,.bool j),(12,vi b),(13,D),(14,D),(17,A),(18,A),(25,C),(26,C),(29,.bool ((((decide (b<1))||(decide (b>72)))||(decide (c<a.yQ)))||(decide (c>1073741824))))] (vE 19 (dn 18)) ?_<|fun B=>?_
  rotate_left
  ·rcases Bool.eq_false_or_eq_true (((decide (b<1))||(decide (b>72)))||(decide (c<a.yQ))) with hb' | hb'
   ·have q:=hb';clear hb'
    refine L3 (i:=26) U q<|Lm 15 U<|Lm 16 U<|Lf 17 U qO<|Lw .a3 ?_ B
    exact .t 15<|.r2 (zx<|Eq.symm q)<|zx<|fc q
   ·have s:=hb';clear hb'
    refine L3 (i:=26) U s<|Lg 15 U (Nu xL .here)<|Lf 16 U rV<|Lf 17 U qP<|Lw .a3 ?_ B
    exact .t 15<|.r2 (zx<|Eq.symm s)<|zx<|ff s
  refine Lf 18 U q_z<|N1<|Lb<|Lj h (fun M h=>?_)<|fun M h=>?_
  ·exact B2n U<|Nz<|Lx<|Ll<|oJ h▸Li results89 (.tmp U<|.tmp U .nil) fun w hw=>⟨f,g,qc,trivial,hw.sub (.s2 .h1 .h1)⟩
  ·refine N3<|Lt<|Lb<|B1q U<|Le 31 (Nu xL .here)<|Le 32 w5<|Le 33 (xB Xr)<|Lk (jl (ds:=[vi a.yk.yp,vi a.yk.yl,vi a.yk.fT,vi c,vi a.yE,vs f a.yn.length g]) px .h1)<|Q0n<|WC.b<|bK h fun t N h=>D2q U<|Le 36 w5<|Le 37 (xB cU)<|Le 38 (Nu zD2 .here)<|Le 39 (wO<|L5 (l:=[.tmp 4])<|.cons U .nil)<|H4 U (Nt call136) (.cons .h2 .nil) (uB hz (.cons .h2 .nil) (.cons .h1 .nil) fun w pz ho la=>sO (ziA:=137) (zod:=[vp k]) (zaG:=(fun(y0:yj)=>mI y0 c)) N pz call137 (fun w' hz' y0  r  hr=>YO hr hz'<|(la _ (.head _) _).stb) ho) ?_
   rintro G H _
   let F:Value:=(vs G t.length H);refine Le 41 w5<|Le 42 (xB cU)<|Lk (jl (ds:=[vi a.yk.yp,vi a.yk.yl,vi a.yk.fT,vi c,vi a.yE,F]) zMx .h1)<|Q0n<|WC.b<|WC.b ?_
   refine bK h fun S O h=>Lu nc []<|Lf 0 U q_m<|Lg 1 U (Nu xL .h2)<|L4 2 U (Nt call138) (uB hz .nil .a2 fun w pz ho la=>XA O pz (ZA.row (la _ (.tail _<|.head _) _) (RR.flat (enc:=gt)) ⟨w,pz.1⟩)<|(la _ (.head _) _).stb)<|Lf 3 U q_m<|Lf 4 U uG<|Lf 5 U q_m<|Lf 6 U w5<|Lf 7 U (xB eZ)<|Lf 8 U (xB MH)<|Lg 9 U (Nu xL .here)<|Lf 10 U rV<|N1<|Lb<|Lj h (fun P h=>?_)<|fun P h=>?_
   ·exact B2n U<|Nz<|Ll<|oJ h▸Li results89 (.tmp U<|.tmp U .nil) fun w hw=>⟨G,H,qc,trivial,hw.sub .a2⟩
   ·let E:=(i64 ((max (i64 (c+a.yk.yl)) a.yE)+(i64 (b*a.yk.yp))));refine Np<|WC.b<|Lu (fun i=>[23].contains i) []<|Lf 0 U q_m<|Lg 1 U (Nu xL .h2)<|Lf 2 U q_m<|Lf 3 U w5<|Lf 4 U (xB eZ)<|Lf 5 U (xB MI)<|Lg 6 U (Nu xL .here)<|Lf 7 U uG<|Lf 8 U q_m<|Lf 9 U w5<|Lf 10 U (xB n4)<|Lg 11 U (Nu xL .here)<|Lf 12 U oQ<|Lf 13 U q_m<|Lf 14 U q_m<|Lf 15 U w5<|Lf 16 U (xB eZ)<|Lf 17 U (xB J5)<|Lg 18 U (Nu xL .here)<|Lf 19 U sX<|Lf 20 U uG<|Lf 21 U w5<|Lf 22 U (xB n4)<|Na (i:=23) U (jl (ds:=[vi a.yk.yp,vi a.yk.yl,vi a.yk.fT,vi c,vi E,F]) px .here)<|N1<|Lb<|WC.b ?_
    refine cK h fun Q h=>Lu (fun i=>[12,15].contains i) []<|Lf 0 U q_m<|Lf 1 U q_m<|Lf 2 U w5<|Lf 3 U (xB cU)<|Lg 4 U (Nu zD2 .here)<|Lf 5 U q_m<|Lf 6 U q_m<|Lf 7 U w5<|Lf 8 U (xB n4)<|Lg 9 U (Nu xL .here)<|Lf 10 U (wl (v:=(.agg #[vi b,(vi<|i64 ((max (i64 (c+a.yk.yl)) a.yE)+(i64 (b*a.yk.yp))))])) (Lq (l:=[.tmp 82,.tmp 86]) (.r2 U U) [0,1])) (WD.new (i:=11) U U (wn (cs:=([(⟨b,i64 ((max (i64 (c+a.yk.yl)) a.yE)+(i64 (b*a.yk.yp)))⟩:yj)]:List yj).flatMap gt) zfK (Lq (l:=[.tmp 87]) (.cons U .nil) [0])) (fun h'=>absurd h' (by decide)) fun R _=>WD.old (i:=12) U U (fun _=>(wJ.of .nil)) (jN (enc:=gt) (l1:=t) (l2:=([(⟨b,i64 ((max (i64 (c+a.yk.yl)) a.yE)+(i64 (b*a.yk.yp)))⟩:yj)]:List yj)) zfK .h2 (j4 .here) (kZ KQ) Q) ?_)
    rintro⟨I,J⟩ _
    exact Lf 13 U w5<|Lf 14 U (xB cU)<|Na (i:=15) U (jl (ds:=[vi a.yk.yp,vi a.yk.yl,vi a.yk.fT,vi c,vi E,vs I ((t++([(⟨b,i64 ((max (i64 (c+a.yk.yl)) a.yE)+(i64 (b*a.yk.yp)))⟩:yj)]:List yj)).length) J]) zMx .h2)<|N1<|Lb<|B1q U<|Le 93 w5<|Le 94 (xB n4)<|Le 95 (Nu xL .here)<|Q2n U<|Nz<|oJ h▸Li results89 (.tmp U<|.tmp U .nil) fun w hw=>⟨I,J,qc,trivial,hw.sub .a2⟩
def uj(g:zy)(h:List (List zd))(f:List yK)(k:List (z6×yC))(l:List yr)(d:List yh)(e:List yh):Option (List yr×List yh×List yh×(List (z6×yC))):=
 (mh l).bind fun a=>(te g h f k a.2 d e a.1.yg).bind fun b=>chk (0<=a.1.yd/\a.1.yd<f.length) (chk (wS b (⟨a.1.yg.ya,a.1.yg.fQ⟩:z6)=true) ((mE (⟨(⟨((xK b (⟨a.1.yg.ya,a.1.yg.fQ⟩:z6) default).yk).yp,((xK b (⟨a.1.yg.ya,a.1.yg.fQ⟩:z6) default).yk).yl,((xK b (⟨a.1.yg.ya,a.1.yg.fQ⟩:z6) default).yk).fT⟩:xz),(xK b (⟨a.1.yg.ya,a.1.yg.fQ⟩:z6) default).yQ,(xK b (⟨a.1.yg.ya,a.1.yg.fQ⟩:z6) default).yE,(xK b (⟨a.1.yg.ya,a.1.yg.fQ⟩:z6) default).yn⟩:yC) a.1.yc ((nth f a.1.yd).yo)).bind fun c=>if decide (c.2.1≠0) then chk ((((e++([({a.1 with ya:=a.1.yg.ya}:yh)]:List yh)).length:Nat):Int)*24<=140737488355328/\(((e++([({a.1 with ya:=a.1.yg.ya}:yh)]:List yh)).length:Nat):Int)<=4611686018427387904) (some (a.2,d,e++([({a.1 with ya:=a.1.yg.ya}:yh)]:List yh),w7 b (⟨a.1.yg.ya,a.1.yg.fQ⟩:z6) c.2.2)) else qt (fun(i:List yh)=>(f9 g h f (w7 b (⟨a.1.yg.ya,a.1.yg.fQ⟩:z6) c.2.2) a.2 i e a.1.yg.fX c.1 a.1.yg.fQ a.1.yd).bind fun m=>some (m,i,e,w7 b (⟨a.1.yg.ya,a.1.yg.fQ⟩:z6) c.2.2)) fun j=>if decide (a.1.yg.fX<g.fM.length) then chk ((((d++([(⟨a.1.yd,a.1.yg.fX,c.1⟩:yh)]:List yh)).length:Nat):Int)*24<=140737488355328/\(((d++([(⟨a.1.yd,a.1.yg.fX,c.1⟩:yh)]:List yh)).length:Nat):Int)<=4611686018427387904) (j (d++([(⟨a.1.yd,a.1.yg.fX,c.1⟩:yh)]:List yh))) else j d))
theorem aU{Z o ab ad ae af ag ah ai aj ak al am an ao ap aq ar au av aw ax m V ay az q t z B c W X aG p d f r}(h:uj c W X aG p d f=some r){Ny}(hz:Pz [stb o 134 [vs ab c.fM.length ad,vs ae c.ye.length af,vs ag c.fS.length ah,vs ai c.fK.length aj,vs ak c.yb.length al,vs am c.fH.length an,vs ao c.fU.length ap,vs aq c.yf.length ar,vs au W.length av,vs aw X.length ax,.map (some m),vs ay p.length az,vs q d.length t,vs z f.length B],xP m (ga gr) Value.pointer (jO V),wM z2U V,row (vs ay p.length az) 188 7 (p.flatMap wI),row (vs q d.length t) 83 3 (d.flatMap wm),row (vs z f.length B) 83 3 (f.flatMap wm)] Ny Z)(aH:ZS Z 4 (kB Z) ab ad c.fM)(aI:ZS Z 4 (g8 Z) ae af c.ye)(aJ:ZS Z 4 (rq kr) ag ah c.fS)(aK:ZS Z 4 (rq gH) ai aj c.fK)(aL:ZS Z 7 (g7 Z) ak al c.yb)(aM:ZS Z 5 (rq gf) am an c.fH)(aN:ZS Z 3 (g9 Z) ao ap c.fU)(aO:ZS Z 4 (rq gg) aq ar c.yf)(aP:ZS Z 1 (fm Z) au av W)(aE:ZS Z 3 (rq tH) aw ax X)(a5:mP V=aG)(iF:Ho Ny [stb o 134 [vs ab c.fM.length ad,vs ae c.ye.length af,vs ag c.fS.length ah,vs ai c.fK.length aj,vs ak c.yb.length al,vs am c.fH.length an,vs ao c.fU.length ap,vs aq c.yf.length ar,vs au W.length av,vs aw X.length ax,.map (some m),vs ay p.length az,vs q d.length t,vs z f.length B],xP m (ga gr) Value.pointer (jO V),wM z2U V,row (vs ay p.length az) 188 7 (p.flatMap wI),row (vs q d.length t) 83 3 (d.flatMap wm),row (vs z f.length B) 83 3 (f.flatMap wm)]):
  Calls Tryz.prog 48 #[vp o] Ny fun e w'=>∃ aQ:Option Addr,∃ aR:Nat,∃ aS:Option Addr,∃ aT:Nat,∃ aV:Option Addr,∃ aW:Nat,∃ aF:List (z6×((Nat×(Option Addr×Nat))×yC)),e = .returned (.tuple #[])/\(mP aF=r.2.2.2)/\Hp (fps [stb o 134 [vs ab c.fM.length ad,vs ae c.ye.length af,vs ag c.fS.length ah,vs ai c.fK.length aj,vs ak c.yb.length al,vs am c.fH.length an,vs ao c.fU.length ap,vs aq c.yf.length ar,vs au W.length av,vs aw X.length ax,.map (some m),vs ay p.length az,vs q d.length t,vs z f.length B],xP m (ga gr) Value.pointer (jO V),wM z2U V,row (vs ay p.length az) 188 7 (p.flatMap wI),row (vs q d.length t) 83 3 (d.flatMap wm),row (vs z f.length B) 83 3 (f.flatMap wm)]) Ny w' [stb o 134 [vs ab c.fM.length ad,vs ae c.ye.length af,vs ag c.fS.length ah,vs ai c.fK.length aj,vs ak c.yb.length al,vs am c.fH.length an,vs ao c.fU.length ap,vs aq c.yf.length ar,vs au W.length av,vs aw X.length ax,.map (some m),vs aQ r.1.length aR,vs aS r.2.1.length aT,vs aV r.2.2.1.length aW],row (vs aQ r.1.length aR) 188 7 (r.1.flatMap wI),row (vs aS r.2.1.length aT) 83 3 (r.2.1.flatMap wm),row (vs aV r.2.2.1.length aW) 83 3 (r.2.2.1.flatMap wm),xP m (ga gr) Value.pointer (jO aF),wM z2U aF]:=by
 unfold uj at h
 refine Bl func48 U iF U<|WC.b<|bK h fun a a6 h=>D1q U<|Le 6 w5<|Le 7 (xB Xp)<|Le 8 (bT underlying186 U U)<|H4 U (Nt call87) (.s2 .here .h2) (cc hz (.s2 .here .h2) fun w pz ho=>el a6 pz  ho) ?_
 rintro aX aY _
 refine Le 10 (QP underlying188 U U) (Lh 2 (xV (cs:=[vi 0,vi 0,vi 0,vi 0,vi 0,vi 0,vi 0]) zMu U) fun aC _=>Lk (xR zxQ .here)<|Q0n<|WC.b ?_)
 obtain⟨R,a7,h⟩:=za h
 obtain⟨a8,h⟩:=xI h
 obtain⟨aZ,h⟩:=xI h
 obtain⟨n,a9,h⟩:=za h
 let F:Value:=(vs aw X.length ax);refine Lu (fun i=>[3,15].contains i) [rb aC 188 [(0,vi a.1.yc),(3,vi a.1.yd)],rb o 134 [(9,F)]]<|Lf 0 U q_m<|Lf 1 U (xB lS)<|Lg 2 U (wo (cs:=[vi a.1.yg.ya,vi a.1.yg.fX,vi a.1.yg.fQ]) z5e<|gN (s:=3) .here U)<|Lf 4 U (xB eY)<|L8 5 U (wJ.wk .a2<|.stb (.cons U<|.cons U .nil)<|.stb (.cons U .nil) .nil) (xC xL U<|mG .here<|.head _)<|Lf 6 U q_m<|Lf 7 U w5<|Lf 8 U (xB J1)<|L8 9 U (wJ.wk .a2<|.stb (.cons U<|.cons U .nil)<|.stb (.cons U .nil) .nil) (xC zMs U<|mG .h1<|.head _)<|Lf 10 U (xB lR)<|L8 11 U (wJ.wk .a2<|.stb (.cons U<|.cons U .nil)<|.stb (.cons U .nil) .nil) (xC xL U<|mG .here<|.tail _<|.head _)<|L7 (j:=12) (Z:=Z) (Pr:=(rq tH)) zfJ aE a8 ?_
 rintro bk bl ba bm rfl
 refine Lf 13 U (xB V6)<|L8 14 U (wJ.wk .a2<|.stb (.cons U<|.cons U .nil)<|.stb (.cons U .nil) .nil) (xC xL U<|wt hz.pv ba)<|WD.call1 (i:=3) U (by kernel_rfl) U U U (.inl ⟨U,fun _=>(wJ.wk (.s2 .h2 .h2)<|.stb (.cons U<|.cons U .nil)<|.stb (.cons U .nil) .nil)⟩) (Nt call88) (.s2 .h3 .h3) (uB hz (.s2 .h3 .h3) (.s4 .h1 .h1 .h1 .h1) fun w pz ho la=>Xz a7 pz ((aH.mono<|zl).weak (fun _ _ h=>vc zl h)) ((aI.mono<|zl).weak (fun _ _ h=>vA zl h)) (aJ.mono<|zl) (aK.mono<|zl) ((aL.mono<|zl).weak (fun _ _ h=>ve zl h)) (aM.mono<|zl) ((aN.mono<|zl).weak (fun _ _ h=>vB zl h)) (aO.mono<|zl) ((aP.mono<|zl).weak (fun _ _ h=>qe zl h)) (aE.mono<|zl) a5 (ZA.row (la _ (.tail _<|.head _) _) (RR.flat (enc:=wI)) ⟨w,pz.1⟩) (ZA.row (la _ (.tail _<|.tail _<|.head _) _) (RR.flat (enc:=wm)) ⟨w,pz.1⟩) (ZA.row (la _ (.tail _<|.tail _<|.tail _<|.head _) _) (RR.flat (enc:=wm)) ⟨w,pz.1⟩) ((la _ (.head _) _).stb) ho) ?_
 rintro y aD
 let C:List Value:=[vi a.1.yc,vi a.1.yJ,vi a.1.yP,vi a.1.yd,vi a.1.yg.ya,vi a.1.yg.fX,vi a.1.yg.fQ];let D:Value:=(vs aX a.2.length aY);let E:Value:=(vs z f.length B);let G:Value:=(vs ab c.fM.length ad);let H:Value:=(vs ae c.ye.length af);let I:Value:=(vs ag c.fS.length ah);let J:Value:=(vs ai c.fK.length aj);let K:Value:=(vs ak c.yb.length al);let L:Value:=(vs am c.fH.length an);let N:Value:=(vs ao c.fU.length ap);let O:Value:=(vs aq c.yf.length ar);let P:Value:=(vs q d.length t);let Q:Value:=(vs au W.length av);let A:List Value:=[G,H,I,J,K,L,N,O,Q,F,.map (some m),D,P,E];refine P3 (fun _=>Hp.Ko aD aZ .h1 (fun g=>stb g.1 253 [(vi<|((xK R (⟨a.1.yg.ya,a.1.yg.fQ⟩:z6) default).yk).yp),(vi<|((xK R (⟨a.1.yg.ya,a.1.yg.fQ⟩:z6) default).yk).yl),(vi<|((xK R (⟨a.1.yg.ya,a.1.yg.fQ⟩:z6) default).yk).fT),(vi<|(xK R (⟨a.1.yg.ya,a.1.yg.fQ⟩:z6) default).yQ),(vi<|(xK R (⟨a.1.yg.ya,a.1.yg.fQ⟩:z6) default).yE),vs g.2.1 (((xK R (⟨a.1.yg.ya,a.1.yg.fQ⟩:z6) default).yn).length) g.2.2]::row (vs g.2.1 (((xK R (⟨a.1.yg.ya,a.1.yg.fQ⟩:z6) default).yn).length) g.2.2) 256 2 (((xK R (⟨a.1.yg.ya,a.1.yg.fQ⟩:z6) default).yn).flatMap gt)::[wM z2U (uv (⟨a.1.yg.ya,a.1.yg.fQ⟩:z6) y),xP m (ga gr) Value.pointer (jO y),stb aC 188 C,stb o 134 A,row D 188 7 (a.2.flatMap wI),row P 83 3 (d.flatMap wm),row E 83 3 (f.flatMap wm)])<|fun _=>U) ?_
 rintro⟨S,bn,bo⟩ a0
 refine N4 (i:=15) U (u:=(vp S)) (congrArg Value.pointer a0)<|WD.call2 (i:=15) U U U U (.inl ⟨U,fun _ _=>(wJ.wk (.s2 .h4 .h4)<|.stb (.cons U<|.cons U .nil)<|.stb (.cons U .nil) .nil)⟩) (Nt call89) .a2 (cc hz .a2 fun w pz ho=>Wl a9 pz  ho) ?_
 rintro Y aa _
 refine Og (fun _ h=>Hp.objsClose (els:=z2U) (lg:=y) (k:=(⟨a.1.yg.ya,a.1.yg.fQ⟩:z6)) (b:=S) (g:=(Y,aa)) (x:=n.2.2) .a3 h)<|Og (M:=[xP m (ga gr) Value.pointer (jO<|w7 y (⟨a.1.yg.ya,a.1.yg.fQ⟩:z6) ((S,(Y,aa)),n.2.2)),wM z2U (w7 y (⟨a.1.yg.ya,a.1.yg.fQ⟩:z6) ((S,(Y,aa)),n.2.2)),stb aC 188 C,stb o 134 A,row D 188 7 (a.2.flatMap wI),row P 83 3 (d.flatMap wm),row E 83 3 (f.flatMap wm)]) (fun _ h=>Hp.eT .h1 (Gr aD aZ a0) h)<|Lf 16 U q_m<|Lf 17 U mK<|Lf 18 U mK<|Lf 19 U q_z<|Lf 20 U q_z<|N1<|Lb<|WC.b<|B2n U<|Lj h (fun bb h=>?_)<|fun bb h=>?_
 ·refine WC.b<|cK h fun bc h=>Lu (fun i=>[14,17].contains i) []<|Lf 0 U q_m<|Lf 1 U q_m<|Lf 2 U w5<|Lf 3 U (xB Xs)<|Lg 4 U (Nu zxR .h3)<|Lf 5 U (xB lR)<|Lg 6 U (Nu xL .h2)<|Lf 7 U (xB lS)<|Lf 8 U (xB kC)<|Lg 9 U (Nu xL .h2)<|Lf 10 U (xB eY)<|Lg 11 U (Nu xL .h2)<|Lf 12 U (wl (v:=(.agg #[vi a.1.yd,vi a.1.yg.ya,vi a.1.yc])) (Lq (l:=[.tmp 38,.tmp 41,.tmp 43]) (.r3 U U U) [0,1,2])) (WD.new (i:=13) U U (wn (cs:=([({a.1 with ya:=a.1.yg.ya}:yh)]:List yh).flatMap wm) z3e (Lq (l:=[.tmp 44]) (.cons U .nil) [0])) (fun h'=>absurd h' (by decide)) fun bp _=>WD.old (i:=14) U U (fun _=>(wJ.of .nil)) (jN (enc:=wm) (l1:=f) (l2:=([({a.1 with ya:=a.1.yg.ya}:yh)]:List yh)) z3e .h7 (j4 .here) (kZ QZ) bc) ?_)
  rintro⟨a1,a2⟩ _
  exact Lf 15 U w5<|Lf 16 U (xB Xs)<|Na (i:=17) U (jl (ds:=[G,H,I,J,K,L,N,O,Q,F,(.map<|some m),D,P,vs a1 ((f++([({a.1 with ya:=a.1.yg.ya}:yh)]:List yh)).length) a2]) zMy .h5)<|N1<|Lb<|Nz<|Ll<|oJ h▸Li results48 .nil fun w hw=>⟨aX,aY,q,t,a1,a2,w7 y (⟨a.1.yg.ya,a.1.yg.fQ⟩:z6) ((S,(Y,aa)),n.2.2),ms,lG aD _ _ _,hw.sub (.s6 .here .h5 .h5 .here .h1 .h1)⟩
 ·refine Np<|jK1 h fun bj bd h=>Ni (fun T aA aB=>(bj T=some r)) (fun T aA aB=>[(0,vp o),(2,vp aC),(3,vi n.1)]) (fun T aA aB=>[row D 188 7 (a.2.flatMap wI),row (vs aA T.length aB) 83 3 (T.flatMap wm),row E 83 3 (f.flatMap wm),stb o 134 [G,H,I,J,K,L,N,O,Q,F,(.map<|some m),D,vs aA T.length aB,E],stb aC 188 C,xP m (ga gr) Value.pointer (jO<|w7 y (⟨a.1.yg.ya,a.1.yg.fQ⟩:z6) ((S,(Y,aa)),n.2.2)),wM z2U (w7 y (⟨a.1.yg.ya,a.1.yg.fQ⟩:z6) ((S,(Y,aa)),n.2.2))]) ?_ ?_
  ·refine WC.b<|Lu nc []<|Lf 0 U (xB lS)<|Lf 1 U (xB mH)<|Lg 2 U (Nu xL .h2)<|Lf 3 U q_m<|Lf 4 U w5<|Lf 5 U (xB cT)<|Lf 6 U (xB uR)<|Lg 7 U (Nu za6 .h3)<|Lf 8 U (wc underlying22)<|Lf 9 U sY<|N1<|Lb<|Lj h (fun be h=>?_)<|fun be h=>?_
   ·refine cK h fun bf h=>Lu (fun i=>[13,16].contains i) []<|Lf 0 U q_m<|Lf 1 U q_m<|Lf 2 U w5<|Lf 3 U (xB Xt)<|Lg 4 U (Nu zxR .h3)<|Lf 5 U (xB lR)<|Lg 6 U (Nu xL .h2)<|Lf 7 U (xB lS)<|Lf 8 U (xB mH)<|Lg 9 U (Nu xL .h2)<|Lf 10 U q_m<|Lf 11 U (wl (v:=(.agg #[vi a.1.yd,vi a.1.yg.fX,vi n.1])) (Lq (l:=[.tmp 65,.tmp 68,.tmp 69]) (.r3 U U U) [0,1,2])) (WD.new (i:=12) U U (wn (cs:=([(⟨a.1.yd,a.1.yg.fX,n.1⟩:yh)]:List yh).flatMap wm) z3e (Lq (l:=[.tmp 70]) (.cons U .nil) [0])) (fun h'=>absurd h' (by decide)) fun bq _=>WD.old (i:=13) U U (fun _=>(wJ.of .nil)) (jN (enc:=wm) (l1:=d) (l2:=([(⟨a.1.yd,a.1.yg.fX,n.1⟩:yh)]:List yh)) z3e .h6 (j4 .here) (kZ QZ) bf) ?_)
    rintro⟨a3,a4⟩ _
    exact Lf 14 U w5<|Lf 15 U (xB Xt)<|Na (i:=16) U (jl (ds:=[G,H,I,J,K,L,N,O,Q,F,(.map<|some m),D,vs a3 ((d++([(⟨a.1.yd,a.1.yg.fX,n.1⟩:yh)]:List yh)).length) a4,E]) zMy .h5)<|N1<|Lp ⟨d++([(⟨a.1.yd,a.1.yg.fX,n.1⟩:yh)]:List yh),a3,a4⟩ h .q<|.s7 .h6 .h1 .h5 .here .h3 .h1 .h1
   ·exact N3<|Lp ⟨d,q,t⟩ h .q<|.s7 .h4 .h4 .h4 .h3 .h2 .here .here
  ·rintro T aA aB h
   replace h:=(bd T).symm.trans h
   refine bK h fun br bg h=>D1q U<|Le 76 (xB lS)<|Le 77 (xB mH)<|Le 78 (Nu xL .h4)<|La U<|Le 80 (xB lS)<|Le 81 (xB sr)<|Le 82 (Nu xL .h4)<|Le 83 (xB lR)<|Le 84 (Nu xL .h4)<|H4 U (Nt call47) (.s4 .h3 .h4 .h4 .here) (uB hz (.s4 .h3 .h4 .h4 .here) .a2 fun w pz ho la=>lr bg pz ((aH.mono<|zl).weak (fun _ _ h=>vc zl h)) ((aI.mono<|zl).weak (fun _ _ h=>vA zl h)) (aJ.mono<|zl) (aK.mono<|zl) ((aL.mono<|zl).weak (fun _ _ h=>ve zl h)) (aM.mono<|zl) ((aN.mono<|zl).weak (fun _ _ h=>vB zl h)) (aO.mono<|zl) ((aP.mono<|zl).weak (fun _ _ h=>qe zl h)) (aE.mono<|zl) (lG aD _ _ _) (ZA.row (la _ (.head _) _) (RR.flat (enc:=wm)) ⟨w,pz.1⟩) (ZA.row (la _ (.tail _<|.head _) _) (RR.flat (enc:=wm)) ⟨w,pz.1⟩) ho) ?_
   rintro bh bi _
   exact WL.nil<|oJ h▸Nh results48 .nil fun w hw=>⟨bh,bi,aA,aB,z,B,w7 y (⟨a.1.yg.ya,a.1.yg.fQ⟩:z6) ((S,(Y,aa)),n.2.2),ms,lG aD _ _ _,hw.sub (.s6 .here .here .h2 .h2 .here .here)⟩
def mj(a:yh)(b:yh):Option Int:=
 (qr a.yc b.yc).bind fun c=>(qr a.yd b.yd).bind fun d=>(qr a.ya b.ya).bind fun e=>(uX ([c,d,e]:List Int)).bind fun f=>some f
theorem aV{Z a b r}(h:mj a b=some r){Ny}(hz:PZ [] Ny Z):
  RC 91 #[.agg #[vi a.yd,vi a.ya,vi a.yc],.agg #[vi b.yd,vi b.ya,vi b.yc]] Ny (vi r) [] []:=by
 unfold mj at h
 refine L0 func91 U U<|B0q (Lh 2 (we (cs:=[vi a.yd,vi a.ya,vi a.yc])) fun m _=>Lh 3 (we (cs:=[vi b.yd,vi b.ya,vi b.yc])) fun n _=>Q1n U<|WC.b ?_)
 refine bK h fun g c h=>bK h fun j d h=>bK h fun k e h=>bK h fun p f h=>Lu nc []<|Lf 0 U (xB V7)<|Lg 1 U (Nu xL .h1)<|Lf 2 U (xB V7)<|Lg 3 U (Nu xL .here)<|L4 4 U (Nt call85) (cc hz .nil fun w pz ho=>kx c pz )<|Lf 5 U (xB Yv)<|Lg 6 U (Nu xL .h1)<|Lf 7 U (xB Yv)<|Lg 8 U (Nu xL .here)<|L4 9 U (Nt call85) (cc hz .nil fun w pz ho=>kx d pz )<|Lf 10 U (xB V8)<|Lg 11 U (Nu xL .h1)<|Lf 12 U (xB V8)<|Lg 13 U (Nu xL .here)<|L4 14 U (Nt call85) (cc hz .nil fun w pz ho=>kx e pz ) (WD.new (i:=15) U U (wn (cs:=([g,j,k]:List Int).flatMap e3) z5U (Lq (l:=[.tmp 9,.tmp 14,.tmp 19]) (.r3 U U U) [0,1,2])) (fun h'=>absurd h' (by decide)) fun o _=>L4 16 U (Nt call84) (uB hz .nil (.cons .here .nil) fun w pz ho la=>cV f pz<|ZA.row (la _ (.head _) _) (RR.flat (enc:=e3)) ⟨w,pz.1⟩)<|Lf 17 U q_z<|N1<|Lb<|Nz ?_)
 exact oJ h▸Nm results91
def wW(c:Int)(z6X:yh->yh->Option Int)(d:(List yh)->Option (List yh)):Nat->(List yh)->Int->Option (List yh)
 | 0,_,_=>none
 | e+1,b,a=>(if decide (a>c) then chk (0<=a/\a<b.length) (chk (0<=(i64 (a-1))/\(i64 (a-1))<b.length) ((z6X (⟨(nth b a).yd,(nth b a).ya,(nth b a).yc⟩:yh) (⟨(nth b (i64 (a-1))).yd,(nth b (i64 (a-1))).ya,(nth b (i64 (a-1))).yc⟩:yh)).bind fun f=>some (decide (f<0)))) else some false).bind fun g=>if g then chk (0<=(i64 (a-1))/\(i64 (a-1))<b.length) (chk (0<=a/\a<b.length) (chk (0<=(i64 (a-1))/\(i64 (a-1))<(((b.set (a:Int).toNat (⟨(nth b (i64 (a-1))).yd,(nth b (i64 (a-1))).ya,(nth b (i64 (a-1))).yc⟩:yh)).length:Nat):Int)) (wW c z6X d e ((b.set (a:Int).toNat (⟨(nth b (i64 (a-1))).yd,(nth b (i64 (a-1))).ya,(nth b (i64 (a-1))).yc⟩:yh)).set ((i64 (a-1)):Int).toNat (⟨(nth b a).yd,(nth b a).ya,(nth b a).yc⟩:yh)) (i64 (a-1))))) else d b
def wv(b:Int)(c:Int)(z6X:yh->yh->Option Int)(d:(List yh)->Option (List yh)):Nat->(List yh)->Int->Option (List yh)
 | 0,_,_=>none
 | f+1,e,a=>if decide (a<b) then qt (fun(g:List yh)=>wv b c z6X d f g (i64 (a+1))) fun h=>qt (fun i=>h i) fun j=>wW c z6X j xT e a else d e
def vk(b:List yh)(a:Int)(c:Int)(z6X:yh->yh->Option Int):Option (List yh):=
 qt (fun(d:List yh)=>some d) fun e=>wv c a z6X e xT b (i64 (a+1))
theorem mS{Z d c}(zbW zfk){g j t}(z6X){r}(h:vk g j t z6X=some r){Ny}(hz:Pz [row (vs d g.length c) 83 3 (g.flatMap wm)] Ny Z)(S:∀ args w,(callFunc zbW args).run Tryz.prog w = .ok (.enter zbW args) w)(T:∀ w:World,PZ [] w Z->∀(x0:yh) (x1:yh) (r:Int),z6X x0 x1=some r->Calls Tryz.prog zbW (([.agg #[vi x0.yd,vi x0.ya,vi x0.yc],.agg #[vi x1.yd,vi x1.ya,vi x1.yc]]:List Value)++zfk).toArray w fun e w'=>e = .returned (vi r)/\Hp [] w w' [])(iF:Ho Ny [row (vs d g.length c) 83 3 (g.flatMap wm)]):
  Calls Tryz.prog 170 #[vs d g.length c,vi j,vi t,.func (.func zbW) #[] (zfk).toArray] Ny fun e w'=>e = .returned (.tuple #[])/\(r.length=g.length)/\Hp (fps [row (vs d g.length c) 83 3 (g.flatMap wm)]) Ny w' [row (vs d r.length c) 83 3 (r.flatMap wm)]:=by
 unfold vk at h
 refine H3 func170 U iF U<|B3n U<|jK1 h fun M V h=>On (fun v=>(M v=some r)/\(v.length=g.length)) (fun v=>[]) (fun v=>[row (vs d v.length c) 83 3 (v.flatMap wm)]) ?_ ?_
 ·let A:Value:=(.func (.func zbW) #[] (zfk).toArray);refine WC.block<|H0 (fun x n m=>(wv t j z6X M x n m=some r)/\(n.length=g.length)) (fun x n m=>[(0,vs d n.length c),(1,vi j),(2,vi t),(3,A),(8,vi m)]) (fun x n m=>[row (vs d n.length c) 83 3 (n.flatMap wm)]) (fun x n m=>x) ⟨xT,g,i64 (j+1)⟩ ⟨h,U⟩ .q (.cons .here .nil) ?_
  rintro (_|ag) n m ⟨h,N⟩;·cases h
  rw[wv] at h
  refine WC.b<|B3n U<|Lj h (fun W h=>?_)<|fun W h=>?_
  ·refine Np<|jK1 h fun ah X h=>L6 (fun o=>(ah o=some r)/\(o.length=g.length)) (fun o=>[(0,vs d o.length c),(1,vi j),(2,vi t),(3,A),(8,vi m)]) (fun o=>[row (vs d o.length c) 83 3 (o.flatMap wm)]) ?_ ?_
   ·refine WC.block<|B2n U<|jK1 h fun O Y h=>On (fun p=>(O p=some r)/\(p.length=g.length)) (fun p=>[(0,vs d p.length c),(1,vi j),(2,vi t),(3,A),(8,vi m)]) (fun p=>[row (vs d p.length c) 83 3 (p.flatMap wm)]) ?_ ?_
    ·refine WC.block<|H0 (fun z b a=>(wW j z6X O z b a=some r)/\(b.length=g.length)) (fun z b a=>[(0,vs d b.length c),(1,vi j),(2,vi t),(3,A),(8,vi m),(9,vi a)]) (fun z b a=>[row (vs d b.length c) 83 3 (b.flatMap wm)]) (fun z b a=>z) ⟨xT,n,m⟩ ⟨h,N⟩ .q (.cons .here .nil) ?_
     rintro (_|ai) b a ⟨h,P⟩;·cases h
     rw[wW] at h
     refine WC.b<|WC.b ?_
     obtain⟨aj,Q,h⟩:=za h
     let E:Value:=(.bool (decide (a>j)));refine Lu nc []<|Lf 0 U q_m<|Lf 1 U q_m<|Lf 2 U rV<|Lf 3 U q_m<|Nd (fuel':=0) [(0,vs d b.length c),(1,vi j),(2,vi t),(3,A),(8,vi m),(9,vi a),(18,vi a),(19,vi j),(20,E),(21,E),(34,.bool aj)] (vE 17 (dn 17)) ?_<|fun R=>?_
     rotate_left
     ·rcases Bool.eq_false_or_eq_true (decide (a>j)) with hb' | hb'
      ·have J:=hb';clear hb'
       have s:=ju Q J
       obtain⟨F,s⟩:=xI s
       obtain⟨I,s⟩:=xI s
       obtain⟨ak,aa,s⟩:=za s
       replace s:=oJ s
       refine L3 (i:=21) U J<|Lf 4 U q_m<|Lf 5 U q_m<|Lf 6 U q_m<|Nk (fun w hw=>Hp.vf .here hw (by intro hz';have:=F;rw[hz'] at this;omega)) ?_
       rintro⟨al,rfl⟩
       refine Lf 7 U (xZ z3e F.1 F.2 wF)<|Lg 8 U (wo (cs:=(wm<|nth b a)) z72<|vQ .here<|wN (enc:=wm) (l:=b) (i:=a) (sz:=3) F.1 F.2)<|Lf 9 U q_m<|Lf 10 U q_m<|Lf 11 U uH<|Lf 12 U (xZ z3e I.1 I.2 wF)<|Lg 13 U (wo (cs:=(wm<|nth b<|i64 (a-1))) z72<|vQ .here<|wN (enc:=wm) (l:=b) (i:=i64 (a-1)) (sz:=3) I.1 I.2)<|L4 14 U (qk (l:=[.tmp 26,.tmp 31]) (f:=zbW) (caps:=zfk) S<|.r2 U U) (fun w hw=>T w (hz.now hw) (⟨(nth b a).yd,(nth b a).ya,(nth b a).yc⟩:yh) (⟨(nth b<|i64 (a-1)).yd,(nth b<|i64 (a-1)).ya,(nth b<|i64 (a-1)).yc⟩:yh) ak  aa)<|Lf 15 U sY<|Lf 16 U qO<|Lw (.cons .here .nil) ?_ R
       exact .t 9<|.r2 (zx<|Eq.symm J)<|zx s
      ·have K:=hb';clear hb'
       have L:=jv Q K
       replace L:=oJ L
       refine L3 (i:=21) U K<|Lm 4 U<|Lm 5 U<|Lm 6 U<|Lm 7 U<|Lm 8 U<|Lm 9 U<|Lm 10 U<|Lm 11 U<|Lm 12 U<|Lm 13 U<|Lm 14 U<|Lm 15 U<|Lf 16 U qP<|Lw (.cons .here .nil) ?_ R
       exact .t 9<|.r2 (zx<|Eq.symm K)<|zx L
     refine N1<|Lb<|Lj h (fun ab h=>?_)<|fun ab h=>?_
     ·refine Np<|WC.b<|WC.block<|cK h fun G h=>cK h fun q h=>cK h fun B h=>Lu (fun i=>[15,17].contains i) []<|Lf 0 U q_m<|Lf 1 U q_m<|Lf 2 U q_m<|Lf 3 U q_m<|Lf 4 U uH<|Lf 5 U q_m<|Lf 6 U q_m<|Lf 7 U uH<|Nk (fun w hw=>Hp.vf .here hw (by intro hz';have:=G;rw[hz'] at this;omega)) ?_
      rintro⟨H,rfl⟩
      let C:List Value:=[vi ((nth b (i64 (a-1))).yd),vi ((nth b (i64 (a-1))).ya),vi ((nth b (i64 (a-1))).yc)];let D:List Value:=[vi ((nth b a).yd),vi ((nth b a).ya),vi ((nth b a).yc)];refine Lf 8 U (xZ z3e G.1 G.2 wF)<|Lg 9 U (wo (cs:=(wm<|nth b<|i64 (a-1))) z72<|vQ .here<|wN (enc:=wm) (l:=b) (i:=i64 (a-1)) (sz:=3) G.1 G.2)<|Lf 10 U q_m<|Lf 11 U q_m<|Lf 12 U (xZ z3e q.1 q.2 wF)<|Lg 13 U (wo (cs:=(wm<|nth b a)) z72<|vQ .here<|wN (enc:=wm) (l:=b) (i:=a) (sz:=3) q.1 q.2)<|Lf 14 U (xZ z3e q.1 q.2 wF)<|WD.forced0 (i:=15) U (wJ.of .nil) (gb (vs:=C) (ds:=(b.set (a:Int).toNat (⟨(nth b<|i64 (a-1)).yd,(nth b<|i64 (a-1)).ya,(nth b<|i64 (a-1)).yc⟩:yh)).flatMap wm) zfL sV .here (mu (enc:=wm) (sz:=3) (k:=0) q.1 q.2)<|mt (enc:=wm) (l:=b) (sz:=3) (vs:=C) (y:=(⟨(nth b<|i64 (a-1)).yd,(nth b<|i64 (a-1)).ya,(nth b<|i64 (a-1)).yc⟩:yh)) (k:=0) q.1 q.2<|Nat.le_of_ble_eq_true U)<|N7 .here (u:=(vs (some ⟨H,0,none⟩) ((b.set (a:Int).toNat (⟨(nth b<|i64 (a-1)).yd,(nth b<|i64 (a-1)).ya,(nth b<|i64 (a-1)).yc⟩:yh)).length) c)) (qD (List.length_set).symm)<|N4 (i:=0) U (u:=(vs (some ⟨H,0,none⟩) ((b.set (a:Int).toNat (⟨(nth b<|i64 (a-1)).yd,(nth b<|i64 (a-1)).ya,(nth b<|i64 (a-1)).yc⟩:yh)).length) c)) (qD (List.length_set).symm)<|N4 (i:=39) U (u:=(vs (some ⟨H,0,none⟩) ((b.set (a:Int).toNat (⟨(nth b<|i64 (a-1)).yd,(nth b<|i64 (a-1)).ya,(nth b<|i64 (a-1)).yc⟩:yh)).length) c)) (qD (List.length_set).symm)<|Lf 16 U (xZ z3e B.1 B.2 wF)<|Na (i:=17) U (gb (vs:=D) (ds:=((b.set (a:Int).toNat (⟨(nth b<|i64 (a-1)).yd,(nth b<|i64 (a-1)).ya,(nth b<|i64 (a-1)).yc⟩:yh)).set ((i64 (a-1)):Int).toNat (⟨(nth b a).yd,(nth b a).ya,(nth b a).yc⟩:yh)).flatMap wm) zfL sV .here (mu (enc:=wm) (sz:=3) (k:=0) B.1 B.2)<|mt (enc:=wm) (l:=b.set (a:Int).toNat (⟨(nth b<|i64 (a-1)).yd,(nth b<|i64 (a-1)).ya,(nth b<|i64 (a-1)).yc⟩:yh)) (sz:=3) (vs:=D) (y:=(⟨(nth b a).yd,(nth b a).ya,(nth b a).yc⟩:yh)) (k:=0) B.1 B.2<|Nat.le_of_ble_eq_true U)<|N7 .here (u:=(vs (some ⟨H,0,none⟩) (((b.set (a:Int).toNat (⟨(nth b<|i64 (a-1)).yd,(nth b<|i64 (a-1)).ya,(nth b<|i64 (a-1)).yc⟩:yh)).set ((i64 (a-1)):Int).toNat (⟨(nth b a).yd,(nth b a).ya,(nth b a).yc⟩:yh)).length) c)) (qD (List.length_set).symm)<|N4 (i:=0) U (u:=(vs (some ⟨H,0,none⟩) (((b.set (a:Int).toNat (⟨(nth b<|i64 (a-1)).yd,(nth b<|i64 (a-1)).ya,(nth b<|i64 (a-1)).yc⟩:yh)).set ((i64 (a-1)):Int).toNat (⟨(nth b a).yd,(nth b a).ya,(nth b a).yc⟩:yh)).length) c)) (qD (List.length_set).symm)<|N1<|Lt<|Lb<|D3q U<|WL.nil ?_
      exact N0 ⟨ai,(b.set (a:Int).toNat (⟨(nth b<|i64 (a-1)).yd,(nth b<|i64 (a-1)).ya,(nth b<|i64 (a-1)).yc⟩:yh)).set ((i64 (a-1)):Int).toNat (⟨(nth b a).yd,(nth b a).ya,(nth b a).yc⟩:yh),i64 (a-1)⟩ ⟨h,(List.length_set).trans ((List.length_set).trans P)⟩ .q<|.cons .here .nil
     ·exact N2<|Ln<|Ln<|Lv<|Lp b ⟨h,P⟩ .q<|.cons .here .nil
    ·rintro p ⟨h,ad⟩
     replace h:=(Y p).symm.trans h
     exact Lt<|Lp p ⟨h,ad⟩ .q<|.cons .here .nil
   ·rintro o ⟨h,ae⟩
    replace h:=(X o).symm.trans h
    exact D3q U<|WL.nil<|N0 ⟨ag,o,i64 (m+1)⟩ ⟨h,ae⟩ .q<|.cons .here .nil
  ·exact N2<|Ln<|Ln<|Lv<|Lp n ⟨h,N⟩ .nil<|.cons .here .nil
 ·rintro v ⟨h,af⟩
  replace h:=(V v).symm.trans h
  exact oJ h▸Nh results170 .nil fun w hw=>⟨ms,af,hw.sub (.cons .here .nil)⟩
def wQ(e:Int)(c:Int)(d:Int)(f:(List yh)->Option (List yh)):Nat->(List yh)->Int->Option (List yh)
 | 0,_,_=>none
 | g+1,b,a=>if decide (a<e) then chk (0<=(i64 (c+a))/\(i64 (c+a))<b.length) (chk (0<=(i64 (d+a))/\(i64 (d+a))<b.length) (chk (0<=(i64 (c+a))/\(i64 (c+a))<(((b.set ((i64 (d+a)):Int).toNat (⟨(nth b (i64 (c+a))).yd,(nth b (i64 (c+a))).ya,(nth b (i64 (c+a))).yc⟩:yh)).length:Nat):Int)) (wQ e c d f g ((b.set ((i64 (d+a)):Int).toNat (⟨(nth b (i64 (c+a))).yd,(nth b (i64 (c+a))).ya,(nth b (i64 (c+a))).yc⟩:yh)).set ((i64 (c+a)):Int).toNat (⟨(nth b (i64 (d+a))).yd,(nth b (i64 (d+a))).ya,(nth b (i64 (d+a))).yc⟩:yh)) (i64 (a+1))))) else f b
def vM(a:List yh)(b:Int)(c:Int)(d:Int)(zta:yh->yh->Option Int):Option (List yh):=
 qt (fun(e:List yh)=>some e) fun f=>wQ d c b f xT a 0
theorem gW{Z m f}(zoh zxa){g d c t}(zta){r}(h:vM g d c t zta=some r){Ny}(hz:Pz [row (vs m g.length f) 83 3 (g.flatMap wm)] Ny Z)(F:∀ args w,(callFunc zoh args).run Tryz.prog w = .ok (.enter zoh args) w)(G:∀ w:World,PZ [] w Z->∀(x0:yh) (x1:yh) (r:Int),zta x0 x1=some r->Calls Tryz.prog zoh (([.agg #[vi x0.yd,vi x0.ya,vi x0.yc],.agg #[vi x1.yd,vi x1.ya,vi x1.yc]]:List Value)++zxa).toArray w fun e w'=>e = .returned (vi r)/\Hp [] w w' [])(iF:Ho Ny [row (vs m g.length f) 83 3 (g.flatMap wm)]):
  Calls Tryz.prog 218 #[vs m g.length f,vi d,vi c,vi t,.func (.func zoh) #[] (zxa).toArray] Ny fun e w'=>e = .returned (.tuple #[])/\(r.length=g.length)/\Hp (fps [row (vs m g.length f) 83 3 (g.flatMap wm)]) Ny w' [row (vs m r.length f) 83 3 (r.flatMap wm)]:=by
 unfold vM at h
 refine Oa func218 U iF U<|B1n U<|jK1 h fun v z h=>On (fun n=>(v n=some r)/\(n.length=g.length)) (fun n=>[]) (fun n=>[row (vs m n.length f) 83 3 (n.flatMap wm)]) ?_ ?_
 ·refine WC.block<|H0 (fun o a b=>(wQ t c d v o a b=some r)/\(a.length=g.length)) (fun o a b=>[(0,vs m a.length f),(1,vi d),(2,vi c),(3,vi t),(10,vi b)]) (fun o a b=>[row (vs m a.length f) 83 3 (a.flatMap wm)]) (fun o a b=>o) ⟨xT,g,0⟩ ⟨h,U⟩ .q (.cons .here .nil) ?_
  rintro (_|E) a b ⟨h,x⟩;·cases h
  rw[wQ] at h
  refine WC.b<|B3n U<|Lj h (fun B h=>?_)<|fun B h=>?_
  ·refine Np<|WC.b<|WC.block<|cK h fun q h=>cK h fun j h=>cK h fun p h=>Lu (fun i=>[21,23].contains i) []<|Lf 0 U q_m<|Lf 1 U q_m<|Lf 2 U q_m<|Lf 3 U uG<|Lf 4 U q_m<|Lf 5 U q_m<|Lf 6 U q_m<|Lf 7 U uG<|Lf 8 U q_m<|Lf 9 U q_m<|Lf 10 U q_m<|Lf 11 U uG<|Nk (fun w hw=>Hp.vf .here hw (by intro hz';have:=q;rw[hz'] at this;omega)) ?_
   rintro⟨s,rfl⟩
   let A:List Value:=[vi ((nth a (i64 (c+b))).yd),vi ((nth a (i64 (c+b))).ya),vi ((nth a (i64 (c+b))).yc)];let C:List Value:=[vi ((nth a (i64 (d+b))).yd),vi ((nth a (i64 (d+b))).ya),vi ((nth a (i64 (d+b))).yc)];refine Lf 12 U (xZ z3e q.1 q.2 wF)<|Lg 13 U (wo (cs:=(wm<|nth a<|i64 (c+b))) z72<|vQ .here<|wN (enc:=wm) (l:=a) (i:=i64 (c+b)) (sz:=3) q.1 q.2)<|Lf 14 U q_m<|Lf 15 U q_m<|Lf 16 U q_m<|Lf 17 U uG<|Lf 18 U (xZ z3e j.1 j.2 wF)<|Lg 19 U (wo (cs:=(wm<|nth a<|i64 (d+b))) z72<|vQ .here<|wN (enc:=wm) (l:=a) (i:=i64 (d+b)) (sz:=3) j.1 j.2)<|Lf 20 U (xZ z3e j.1 j.2 wF)<|WD.forced0 (i:=21) U (wJ.of .nil) (gb (vs:=A) (ds:=(a.set ((i64 (d+b)):Int).toNat (⟨(nth a<|i64 (c+b)).yd,(nth a<|i64 (c+b)).ya,(nth a<|i64 (c+b)).yc⟩:yh)).flatMap wm) zfL sV .here (mu (enc:=wm) (sz:=3) (k:=0) j.1 j.2)<|mt (enc:=wm) (l:=a) (sz:=3) (vs:=A) (y:=(⟨(nth a<|i64 (c+b)).yd,(nth a<|i64 (c+b)).ya,(nth a<|i64 (c+b)).yc⟩:yh)) (k:=0) j.1 j.2<|Nat.le_of_ble_eq_true U)<|N7 .here (u:=(vs (some ⟨s,0,none⟩) ((a.set ((i64 (d+b)):Int).toNat (⟨(nth a<|i64 (c+b)).yd,(nth a<|i64 (c+b)).ya,(nth a<|i64 (c+b)).yc⟩:yh)).length) f)) (qD (List.length_set).symm)<|N4 (i:=0) U (u:=(vs (some ⟨s,0,none⟩) ((a.set ((i64 (d+b)):Int).toNat (⟨(nth a<|i64 (c+b)).yd,(nth a<|i64 (c+b)).ya,(nth a<|i64 (c+b)).yc⟩:yh)).length) f)) (qD (List.length_set).symm)<|N4 (i:=20) U (u:=(vs (some ⟨s,0,none⟩) ((a.set ((i64 (d+b)):Int).toNat (⟨(nth a<|i64 (c+b)).yd,(nth a<|i64 (c+b)).ya,(nth a<|i64 (c+b)).yc⟩:yh)).length) f)) (qD (List.length_set).symm)<|Lf 22 U (xZ z3e p.1 p.2 wF)<|Na (i:=23) U (gb (vs:=C) (ds:=((a.set ((i64 (d+b)):Int).toNat (⟨(nth a<|i64 (c+b)).yd,(nth a<|i64 (c+b)).ya,(nth a<|i64 (c+b)).yc⟩:yh)).set ((i64 (c+b)):Int).toNat (⟨(nth a<|i64 (d+b)).yd,(nth a<|i64 (d+b)).ya,(nth a<|i64 (d+b)).yc⟩:yh)).flatMap wm) zfL sV .here (mu (enc:=wm) (sz:=3) (k:=0) p.1 p.2)<|mt (enc:=wm) (l:=a.set ((i64 (d+b)):Int).toNat (⟨(nth a<|i64 (c+b)).yd,(nth a<|i64 (c+b)).ya,(nth a<|i64 (c+b)).yc⟩:yh)) (sz:=3) (vs:=C) (y:=(⟨(nth a<|i64 (d+b)).yd,(nth a<|i64 (d+b)).ya,(nth a<|i64 (d+b)).yc⟩:yh)) (k:=0) p.1 p.2<|Nat.le_of_ble_eq_true U)<|N7 .here (u:=(vs (some ⟨s,0,none⟩) (((a.set ((i64 (d+b)):Int).toNat (⟨(nth a<|i64 (c+b)).yd,(nth a<|i64 (c+b)).ya,(nth a<|i64 (c+b)).yc⟩:yh)).set ((i64 (c+b)):Int).toNat (⟨(nth a<|i64 (d+b)).yd,(nth a<|i64 (d+b)).ya,(nth a<|i64 (d+b)).yc⟩:yh)).length) f)) (qD (List.length_set).symm) ?_
   exact N4 (i:=0) U (u:=(vs (some ⟨s,0,none⟩) (((a.set ((i64 (d+b)):Int).toNat (⟨(nth a<|i64 (c+b)).yd,(nth a<|i64 (c+b)).ya,(nth a<|i64 (c+b)).yc⟩:yh)).set ((i64 (c+b)):Int).toNat (⟨(nth a<|i64 (d+b)).yd,(nth a<|i64 (d+b)).ya,(nth a<|i64 (d+b)).yc⟩:yh)).length) f)) (qD (List.length_set).symm)<|N1<|Lt<|Lb<|D3q U<|WL.nil<|N0 ⟨E,(a.set ((i64 (d+b)):Int).toNat (⟨(nth a<|i64 (c+b)).yd,(nth a<|i64 (c+b)).ya,(nth a<|i64 (c+b)).yc⟩:yh)).set ((i64 (c+b)):Int).toNat (⟨(nth a<|i64 (d+b)).yd,(nth a<|i64 (d+b)).ya,(nth a<|i64 (d+b)).yc⟩:yh),i64 (b+1)⟩ ⟨h,(List.length_set).trans ((List.length_set).trans x)⟩ .q<|.cons .here .nil
  ·exact N2<|Ln<|Ln<|Lv<|Lp a ⟨h,x⟩ .nil<|.cons .here .nil
 ·rintro n ⟨h,D⟩
  replace h:=(z n).symm.trans h
  exact oJ h▸Nh results218 .nil fun w hw=>⟨ms,D,hw.sub (.cons .here .nil)⟩
def vg(li:Int)(z7N:yh->yh->Option Int)(c:(List yh)->Int->Option (List yh)):Nat->(List yh)->Int->Int->Option (List yh)
 | 0,_,_,_=>none
 | e+1,d,a,b=>if decide (a≠b) then if decide (a>b) then(vM d (i64 (li-a)) li b z7N).bind fun f=>vg li z7N c e f (i64 (a-b)) b else(vM d (i64 (li-a)) (i64 ((i64 (li+b))-a)) a z7N).bind fun g=>vg li z7N c e g a (i64 (b-a)) else c d a
def jF(b:List yh)(c:Int)(li:Int)(d:Int)(z7N:yh->yh->Option Int):Option (List yh):=
 sm (fun(e:List yh) (a:Int)=>(vM e (i64 (li-a)) li a z7N).bind fun f=>some f) fun g=>vg li z7N g xT b (i64 (li-c)) (i64 (d-li))
theorem oN{Z a b}(zfp zlH){c m li n}(z7N){r}(h:jF c m li n z7N=some r){Ny}(hz:Pz [row (vs a c.length b) 83 3 (c.flatMap wm)] Ny Z)(o:∀ args w,(callFunc zfp args).run Tryz.prog w = .ok (.enter zfp args) w)(p:∀ w:World,PZ [] w Z->∀(x0:yh) (x1:yh) (r:Int),z7N x0 x1=some r->Calls Tryz.prog zfp (([.agg #[vi x0.yd,vi x0.ya,vi x0.yc],.agg #[vi x1.yd,vi x1.ya,vi x1.yc]]:List Value)++zlH).toArray w fun e w'=>e = .returned (vi r)/\Hp [] w w' [])(iF:Ho Ny [row (vs a c.length b) 83 3 (c.flatMap wm)]):
  Calls Tryz.prog 203 #[vs a c.length b,vi m,vi li,vi n,.func (.func zfp) #[] (zlH).toArray] Ny fun e w'=>e = .returned (.tuple #[])/\(r.length=c.length)/\Hp (fps [row (vs a c.length b) 83 3 (c.flatMap wm)]) Ny w' [row (vs a r.length b) 83 3 (r.flatMap wm)]:=by
 unfold jF at h
 refine Oa func203 U iF U<|B4n U<|B4n U ?_
 obtain⟨s,C,h⟩:=jV h
 let A:Value:=(.func (.func zfp) #[] (zlH).toArray);refine H6 (fun g k=>(s g k=some r)/\(g.length=c.length)) (fun g k=>[(0,vs a g.length b),(2,vi li),(4,A),(10,vi k)]) (fun g k=>[row (vs a g.length b) 83 3 (g.flatMap wm)]) ?_ ?_
 ·refine WC.block<|Cv (fun l d f j=>(vg li z7N s l d f j=some r)/\(d.length=c.length)) (fun l d f j=>[(0,vs a d.length b),(2,vi li),(4,A),(10,vi f),(11,vi j)]) (fun l d f j=>[row (vs a d.length b) 83 3 (d.flatMap wm)]) (fun l d f j=>l) ⟨xT,c,i64 (li-m),i64 (n-li)⟩ ⟨h,U⟩ .q (.cons .here .nil) ?_
  rintro (_|t) d f j ⟨h,q⟩;·cases h
  rw[vg] at h
  refine WC.b<|B3n U<|Lj h (fun D h=>?_)<|fun D h=>?_
  ·refine Np<|WC.block<|B3n U<|Lj h (fun E h=>?_)<|fun E h=>?_
   ·refine WC.b<|bK h fun v F h=>Ld<|La U<|La U<|La U<|La U<|La U<|La U<|La U<|Nc U (Nt call218) (.cons .here .nil) (cc hz (.cons .here .nil) fun w pz ho=>gW (zoh:=zfp) (zxa:=zlH) (zta:=z7N) F pz o p ho) ?_
    rintro  x
    exact L9 (i:=0) U (u:=(vs a v.length b)) (qD x.symm)<|Q0n<|D4q U<|WL.nil<|Lt<|N0 ⟨t,v,i64 (f-j),j⟩ ⟨h,x.trans q⟩ .q<|.cons .here .nil
   ·refine WC.b<|bK h fun y G h=>Ld<|La U<|La U<|La U<|La U<|La U<|La U<|La U<|La U<|La U<|La U<|La U<|Nc U (Nt call218) (.cons .here .nil) (cc hz (.cons .here .nil) fun w pz ho=>gW (zoh:=zfp) (zxa:=zlH) (zta:=z7N) G pz o p ho) ?_
    rintro  z
    exact L9 (i:=0) U (u:=(vs a y.length b)) (qD z.symm)<|Q0n<|D4q U<|WL.nil<|Lt<|N0 ⟨t,y,f,i64 (j-f)⟩ ⟨h,z.trans q⟩ .q<|.cons .here .nil
  ·exact N2<|Ln<|Ln<|Lv<|Lp ⟨d,f⟩ ⟨h,q⟩ .q<|.cons .here .nil
 ·rintro g k ⟨h,H⟩
  replace h:=(C g k).symm.trans h
  refine bK h fun J I h=>Ld<|La U<|La U<|La U<|La U<|La U<|La U<|La U<|Nc U (Nt call218) (.cons .here .nil) (cc hz (.cons .here .nil) fun w pz ho=>gW (zoh:=zfp) (zxa:=zlH) (zta:=z7N) I pz o p ho) ?_
  rintro  B
  exact L9 (i:=0) U (u:=(vs a J.length b)) (qD B.symm)<|WL.nil<|oJ h▸Nh results203 .nil fun w hw=>⟨ms,B.trans H,hw.sub (.cons .here .nil)⟩
end Go.Proofs.YthjnhebofpebpaaGreat
