/- A part of this claim's proof: models of functions, walks, plain laws. No conditions. -/
import Derived.Test.YthjnhebofpebpaaGreatW36k
set_option linter.all false
namespace Go.Proofs.YthjnhebofpebpaaGreat
open Go Go.RowKit Sep Tryz
variable {f g k:Int}{i:List yh}{j:(List yh)->Option (List yh)}
set_option maxRecDepth 30000
set_option maxHeartbeats 4000000
def wF(zaL:yj->Option Bool)(d:(List yj)->Int->Option (List yj)):Nat->(List yj)->Int->Int->Option (List yj)
 | 0,_,_,_=>none
 | f+1,a,c,b=>if decide (b<a.length) then sk (fun(g:List yj) (h:Int)=>wF zaL d f g h (i64 (b+1))) fun e=>chk (0<=b/\b<a.length) ((zaL (⟨(nth a b).yo,(nth a b).yN⟩:yj)).bind fun i=>if !i then chk (0<=c/\c<a.length) (e (a.set (c:Int).toNat (⟨(nth a b).yo,(nth a b).yN⟩:yj)) (i64 (c+1))) else e a c) else d a c
def vz(c:List yj)(zaL:yj->Option Bool):Option (List yj):=
 (vG c zaL).bind fun d=>if decide (d=(-1)) then some c else sk (fun(b:List yj) (a:Int)=>chk (0<=a/\a<=b.length) (chk (0<=a/\a<=(((b.take (a:Int).toNat++List.replicate (b.length-(a:Int).toNat) ((⟨0,0⟩:yj):yj)).length:Nat):Int)) (some ((b.take (a:Int).toNat++List.replicate (b.length-(a:Int).toNat) ((⟨0,0⟩:yj):yj)).take (a:Int).toNat)))) fun e=>wF zaL e xR c d (i64 (d+1))
theorem sP{Z j c}(zig znS){m}(zaL){r}(h:vz m zaL=some r){Nx}(hz:Pz [row (vs j m.length c) 256 2 (m.flatMap gr)] Nx Z)(z:∀ args w,(callFunc zig args).run Tryz.prog w = .ok (.enter zig args) w)(B:∀ w:World,PZ [] w Z->∀(x0:yj) (r:Bool),zaL x0=some r->Calls Tryz.prog zig (([.agg #[vi x0.yo,vi x0.yN]]:List Value)++znS).toArray w fun e w'=>e = .returned (.bool r)/\Hp [] w w' [])(eO:Ho Nx [row (vs j m.length c) 256 2 (m.flatMap gr)]):
  Calls Tryz.prog 136 #[vs j m.length c,.func (.func zig) #[] (znS).toArray] Nx fun e w'=>∃ E:Option Addr,∃ F:Nat,e = .returned (vs E r.length F)/\True/\Hp (fps [row (vs j m.length c) 256 2 (m.flatMap gr)]) Nx w' [row (vs E r.length F) 256 2 (r.flatMap gr)]:=by
 unfold vz at h
 refine Ni func136 U eO U<|B1n U<|WC.b<|bK h fun G J h=>D2q U<|Ln 10 (Ns call167) .nil (ux hz .nil (.cons .here .nil) fun w pz ho la=>rn (znR:=zig) (zwz:=znS) (zcH:=zaL) J pz (ZA.row (la _ (.head _) _) (RR.flat (enc:=gr)) ⟨w,pz.1⟩) z<|fun w' hz'=>B w'<|hz'.le<|zl)<|Q1n U<|WC.b<|B2n U<|Lj h (fun K h=>?_)<|fun K h=>?_
 ·exact B2n U<|Ny<|Lk<|oJ h▸Li results136 (.tmp U .nil) fun w hw=>⟨j,c,xZ,trivial,hw.sub (.cons .here .nil)⟩
 ·refine Nn<|jK2 h fun H L h=>H6 (fun d n=>(H d n=some r)/\(d.length=m.length)) (fun d n=>[(0,vs j d.length c),(5,vi n)]) (fun d n=>[row (vs j d.length c) 256 2 (d.flatMap gr)]) ?_ ?_
  ·let D:Value:=(.func (.func zig) #[] (znS).toArray);refine B3n U<|WC.block<|H9 (fun q a g b=>(wF zaL H q a g b=some r)/\(a.length=m.length)) (fun q a g b=>[(0,vs j a.length c),(1,D),(5,vi g),(6,vi b)]) (fun q a g b=>[row (vs j a.length c) 256 2 (a.flatMap gr)]) (fun q a g b=>q) ⟨xR,m,G,i64 (G+1)⟩ ⟨h,U⟩ .q (.cons .here .nil) ?_
   rintro (_|W) a g b ⟨h,x⟩;·cases h
   rw[wF] at h
   refine WC.b<|B2q U<|Le 18 (w9 underlying251)<|Q1n U<|Lj h (fun M h=>?_)<|fun M h=>?_
   ·refine Nn<|jK2 h fun X N h=>H6 (fun o p=>(X o p=some r)/\(o.length=m.length)) (fun o p=>[(0,vs j o.length c),(1,D),(5,vi p),(6,vi b)]) (fun o p=>[row (vs j o.length c) 256 2 (o.flatMap gr)]) ?_ ?_
    ·refine WC.block<|WC.b<|cK h fun t h=>D2q U<|N4 (fun w hw=>Hp.vr .here hw (by intro hz';have:=t;rw[hz'] at this;omega)) ?_
     rintro⟨I,rfl⟩
     refine Le 24 (w3 zfr t.1 t.2 wI)<|Le 25 (wn (cs:=(gr<|nth a b)) zoh<|vU .here<|wU (enc:=gr) (l:=a) (i:=b) (sz:=2) t.1 t.2) (Lg 7 (xT (cs:=[vi 0,vi 0]) zCE) fun aa _=>Ll (xP zCF .here)<|Q0n<|WC.b ?_)
     refine bK h fun Y O h=>D1q U<|Le 27 (xK zoh (xM .here))<|Ln 28 (qg (l:=[.tmp 27]) (f:=zig) (caps:=znS) z<|.cons U .nil) .nil (fun w hw=>B w (hz.now hw) (⟨(nth a b).yo,(nth a b).yN⟩:yj) Y  O)<|Q1n U<|Lj h (fun P h=>?_)<|fun P h=>?_
     ·refine WC.b ?_
      obtain⟨s,h⟩:=xG h
      let C:List Value:=[vi ((nth a b).yo),vi ((nth a b).yN)];refine D2q U<|Le 32 (xK zoh (xM .here))<|Le 33 (w3 zfr s.1 s.2 wI)<|Ll (g7 (vs:=C) (ds:=(a.set (g:Int).toNat (⟨(nth a b).yo,(nth a b).yN⟩:yj)).flatMap gr) zCF ry .h1 (mS (enc:=gr) (sz:=2) (k:=0) s.1 s.2)<|mR (enc:=gr) (l:=a) (sz:=2) (vs:=C) (y:=(⟨(nth a b).yo,(nth a b).yN⟩:yj)) (k:=0) s.1 s.2<|Nat.le_of_ble_eq_true U)<|Dy .here (u:=(vs (some ⟨I,0,none⟩) ((a.set (g:Int).toNat (⟨(nth a b).yo,(nth a b).yN⟩:yj)).length) c)) (qB (List.length_set).symm)<|L9 (i:=0) U (u:=(vs (some ⟨I,0,none⟩) ((a.set (g:Int).toNat (⟨(nth a b).yo,(nth a b).yN⟩:yj)).length) c)) (qB (List.length_set).symm)<|Q0n<|D3q U<|WL.nil<|Lt ?_
      exact Lo ⟨a.set (g:Int).toNat (⟨(nth a b).yo,(nth a b).yN⟩:yj),i64 (g+1)⟩ ⟨h,(List.length_set).trans x⟩ .q<|.cons .here .nil
     ·exact N2<|Lt<|Lo ⟨a,g⟩ ⟨h,x⟩ .q<|.cons .h1 .nil
    ·rintro o p ⟨h,Q⟩
     replace h:=(N o p).symm.trans h
     exact D3q U<|WL.nil<|Nz ⟨W,o,p,i64 (b+1)⟩ ⟨h,Q⟩ .q<|.cons .here .nil
   ·exact N1<|Lm<|Lm<|Lv<|Lo ⟨a,g⟩ ⟨h,x⟩ .q<|.cons .here .nil
  ·rintro d n ⟨h,ab⟩
   replace h:=(L d n).symm.trans h
   refine WC.b<|cK h fun v h=>D2q U<|Po U U zfr U U .here v ?_
   intro ad ae R
   let A:Value:=(vs j ((d.take (n:Int).toNat++List.replicate (d.length-(n:Int).toNat) ((⟨0,0⟩:yj):yj)).length) c);refine Ll (ah (enc:=gr) (z0:=((⟨0,0⟩:yj):yj)) (l:=d) zfr zCE U R v (fun _=>U) U Kw .here)<|Dy .here (u:=A) (qB (oR v).symm)<|L9 (i:=0) U (u:=A) (qB (oR v).symm)<|Q0n<|WC.b ?_
   refine cK h fun S h=>D1q U<|La U (Pa (enc:=gr) (ls:=d.take (n:Int).toNat++List.replicate (d.length-(n:Int).toNat) ((⟨0,0⟩:yj):yj)) U U zfr U U .here S fun T V=>Q1n U<|Ny ?_)
   exact oJ h▸Li results136 (.tmp U .nil) fun w hw=>⟨T,V,xZ,trivial,hw.sub (.cons .here .nil)⟩
def mh(a:yj)(b:Int):Option Bool:=
 some (decide (a.yN>b))
theorem aG{Z b a c r}(h:mh a c=some r){Nx}(hz:PZ [] Nx Z)(d:ZC Z b [vi c]):
  RC 169 #[.agg #[vi a.yo,vi a.yN],vq b] Nx (.bool r) [] []:=by
 unfold mh at h
 refine L0 func169 U U<|B0q (Lg 2 (wa (cs:=[vi a.yo,vi a.yN])) fun e _=>Q1n U<|B0q<|Le 4 (xz QN)<|Le 5 (Nt xJ .here)<|Le 6 (xA xJ U<|kN hz.pv d)<|Q2n U<|Ny ?_)
 exact oJ h▸Nl results169
def gD(b:yC)(zcI:yj->Option Bool)(d:Int->Option Int):Nat->Int->Int->Option Int
 | 0,_,_=>none
 | f+1,c,a=>if decide (a<b.yn.length) then qI (fun(g:Int)=>gD b zcI d f g (i64 (a+1))) fun e=>chk (0<=a/\a<b.yn.length) ((zcI (⟨(nth b.yn a).yo,(nth b.yn a).yN⟩:yj)).bind fun h=>if h then e (i64 (c+((nth b.yn a).yo))) else e c) else d c
def um(a:yC)(zcI:yj->Option Bool):Option Int:=
 qI (fun(b:Int)=>some b) fun c=>gD a zcI c xR 0 0
theorem XX{Z m j k}(zli zsu){a}(zcI){r}(h:um a zcI=some r){Nx}(hz:PZ [] Nx Z)(o:ZS Z 2 (rq gr) j k a.yn)(p:ZC Z m [vi a.yk.yp,vi a.yk.yl,vi a.yk.fT,vi a.yP,vi a.yD,vs j a.yn.length k])(q:∀ args w,(callFunc zli args).run Tryz.prog w = .ok (.enter zli args) w)(s:∀ w:World,PZ [] w Z->∀(x0:yj) (r:Bool),zcI x0=some r->Calls Tryz.prog zli (([.agg #[vi x0.yo,vi x0.yN]]:List Value)++zsu).toArray w fun e w'=>e = .returned (.bool r)/\Hp [] w w' []):
  RC 168 #[vq m,.func (.func zli) #[] (zsu).toArray] Nx (vi r) [] []:=by
 unfold um at h
 refine L0 func168 U U<|B1n U<|B1n U<|jK1 h fun n t h=>Na (fun g=>(n g=some r)) (fun g=>[(5,vi g)]) (fun g=>[]) ?_ ?_
 ·let A:Value:=(.func (.func zli) #[] (zsu).toArray);let C:=(a.yn.length:Int);let D:Value:=(vs j a.yn.length k);refine B1q U<|Le 9 xY<|Le 10 (xz cL)<|Le 11 (xA zCD U<|wq hz.pv p)<|Le 12 (w9 underlying251)<|Q1n U<|WC.block<|H4 (fun i c b=>(gD a zcI n i c b=some r)) (fun i c b=>[(1,A),(5,vi c),(11,D),(12,vi C),(13,vi b)]) (fun i c b=>[]) (fun i c b=>i) ⟨xR,0,0⟩ h .q .nil ?_
  rintro(_|E) c b h;·cases h
  rw[gD] at h
  refine B1n U<|WC.b<|Lj h (fun u h=>?_)<|fun u h=>?_
  ·refine Nn<|jK1 h fun F v h=>Na (fun d=>(F d=some r)) (fun d=>[(1,A),(5,vi d),(11,D),(12,vi C),(13,vi b)]) (fun d=>[]) ?_ ?_
   ·refine WC.block<|WC.b<|cK h fun x h=>Ld<|L2 (Z:=Z) (Pr:=(rq gr)) zfr o x ?_
    rintro H I y J rfl
    refine Le 16 (xK zoh (qx hz.pv y)) (Lg 7 (xT (cs:=[vi 0,vi 0]) zCE) fun K _=>Ll (xP zCF .here)<|Q0n<|WC.b ?_)
    refine bK h fun G z h=>D1q U<|Le 18 (xK zoh (xM .here))<|Ln 19 (qg (l:=[.tmp 18]) (f:=zli) (caps:=zsu) q<|.cons U .nil) .nil (fun w hw=>s w (hz.now hw) (⟨(nth a.yn b).yo,(nth a.yn b).yN⟩:yj) G  z)<|Q0n<|Lj h (fun B h=>?_)<|fun B h=>?_
    ·exact D1q U<|Le 21 (xz Mp)<|Le 22 (Nt xJ .here)<|Q2q U<|WL.nil<|Lt<|Lo (i64 (c+((nth a.yn b).yo))) h .q .nil
    ·exact N2<|Lt<|Lo c h .q .nil
   ·rintro d h
    replace h:=(v d).symm.trans h
    exact D2q U<|WL.nil<|Nz ⟨E,d,i64 (b+1)⟩ h .q .nil
  ·exact N1<|Lm<|Lm<|Lv<|Lo c h (.cons U .nil) .nil
 ·rintro g h
  replace h:=(t g).symm.trans h
  exact B2n U<|Ny<|oJ h▸Nl results168
def rp(a:yC)(b:Int):Option Int:=
 (mV a).bind fun c=>if c then some 0 else(um a (fun(y0:yj)=>mh y0 (max b a.yP))).bind fun d=>some d
theorem Xd{Z d e f a b r}(h:rp a b=some r){Nx}(hz:PZ [] Nx Z)(g:ZS Z 2 (rq gr) e f a.yn)(c:ZC Z d [vi a.yk.yp,vi a.yk.yl,vi a.yk.fT,vi a.yP,vi a.yD,vs e a.yn.length f]):
  RC 138 #[vq d,vi b] Nx (vi r) [] []:=by
 unfold rp at h
 refine L0 func138 U U<|B0q (Lg 3 (wa (cs:=[vi b])) fun j _=>Q1n U<|WC.b<|WC.b ?_)
 refine bK h fun o k h=>D1q U<|Nr call135 hz (fun pz=>cW k pz g c)<|Q0n<|Lj h (fun m h=>?_)<|fun m h=>?_
 ·exact B1n U<|Ny<|Lk<|oJ h▸Nl results138
 ·exact Nn<|WC.b<|Lu (fun i=>[6].contains i) []<|Lh 0 U (Nt xJ .here)<|Lf 1 U q_m<|Lf 2 U xY<|Lf 3 U (xz X4)<|Lh 4 U (xA xJ U<|wq hz.pv c)<|Lf 5 U iW<|Nc (i:=6) U (xP oa .here)<|N0<|Lb<|WC.b<|bK h fun p n h=>D1q U<|Le 14 (wJ<|L6 (l:=[.tmp 3])<|.cons U .nil)<|Ln 15 (Ns call168) .nil (ux hz .nil (.cons .here .nil) fun w pz ho la=>XX (zli:=169) (zsu:=[vp j]) (zcI:=(fun(y0:yj)=>mh y0<|max b a.yP)) n pz (g.mono<|zl) (c.mono<|zl) call169<|fun w' hz' y0  r  hr=>aG hr hz'<|(la _ (.head _) _).stb)<|Q1n U<|Ny<|oJ h▸Nl results138
def mB(a:yC)(b:Int)(c:Int):Option (Int×Int×yC):=
 (mV a).bind fun e=>if e then some (0,1,a) else if (((decide (c<1))||(decide (c>72)))||(decide (b<a.yP)))||(decide (b>1073741824)) then some (0,2,a) else(vz a.yn (fun(y0:yj)=>mE y0 b)).bind fun d=>(rp ({a with yP:=b,yn:=d}:yC) b).bind fun f=>if decide ((i64 (f+c))>a.yk.fT) then some (0,4,({a with yP:=b,yn:=d}:yC)) else chk ((((d++([(⟨c,i64 ((max (i64 (b+a.yk.yl)) a.yD)+(i64 (c*a.yk.yp)))⟩:yj)]:List yj)).length:Nat):Int)*16<=140737488355328/\(((d++([(⟨c,i64 ((max (i64 (b+a.yk.yl)) a.yD)+(i64 (c*a.yk.yp)))⟩:yj)]:List yj)).length:Nat):Int)<=4611686018427387904) (some (i64 ((max (i64 (b+a.yk.yl)) a.yD)+(i64 (c*a.yk.yp))),0,(⟨a.yk,b,i64 ((max (i64 (b+a.yk.yl)) a.yD)+(i64 (c*a.yk.yp))),d++([(⟨c,i64 ((max (i64 (b+a.yk.yl)) a.yD)+(i64 (c*a.yk.yp)))⟩:yj)]:List yj)⟩:yC)))
theorem XY{Z d f g a c b r}(h:mB a c b=some r){Nx}(hz:Pz [stb d 253 [vi a.yk.yp,vi a.yk.yl,vi a.yk.fT,vi a.yP,vi a.yD,vs f a.yn.length g],row (vs f a.yn.length g) 256 2 (a.yn.flatMap gr)] Nx Z)(eO:Ho Nx [stb d 253 [vi a.yk.yp,vi a.yk.yl,vi a.yk.fT,vi a.yP,vi a.yD,vs f a.yn.length g],row (vs f a.yn.length g) 256 2 (a.yn.flatMap gr)]):
  Calls Tryz.prog 89 #[vp d,vi c,vi b] Nx fun e w'=>∃ u:Option Addr,∃ x:Nat,e = .returned (.tuple #[vi r.1,vi r.2.1])/\True/\Hp (fps [stb d 253 [vi a.yk.yp,vi a.yk.yl,vi a.yk.fT,vi a.yP,vi a.yD,vs f a.yn.length g],row (vs f a.yn.length g) 256 2 (a.yn.flatMap gr)]) Nx w' [stb d 253 [vi r.2.2.yk.yp,vi r.2.2.yk.yl,vi r.2.2.yk.fT,vi r.2.2.yP,vi r.2.2.yD,vs u r.2.2.yn.length x],row (vs u r.2.2.yn.length x) 256 2 (r.2.2.yn.flatMap gr)]:=by
 unfold mB at h
 refine N8 func89 U eO U<|B0q (Lg 4 (wa (cs:=[vi c])) fun k _=>Q2n U<|WC.b<|WC.block<|WC.b ?_)
 refine bK h fun j K h=>D1q U<|Ln 10 (Ns call135) .nil (ux hz .nil (.s2 .h1 .h1) fun w pz ho la=>cW K pz (ZA.row (la _ (.tail _<|.head _) _) (RR.flat (enc:=gr)) ⟨w,pz.1⟩)<|(la _ (.head _) _).stb)<|Q1n U<|Lj h (fun L h=>?_)<|fun L h=>?_
 ·exact B2n U<|Ny<|Lw<|Lk<|oJ h▸Li results89 (.tmp U<|.tmp U .nil) fun w hw=>⟨f,g,q9,trivial,hw.sub (.s2 .h1 .h1)⟩
 ·let A:Value:=(.bool ((decide (b<1))||(decide (b>72))));let D:Value:=(.bool (decide (b<1)));refine WC.b<|Lu nc []<|Lf 0 U q_m<|Lf 1 U ra<|Lf 2 U q_m<|Nf (fuel':=13) [(0,vp d),(1,vi c),(2,vi b),(4,vp k),(6,vi 0),(7,vi 0),(9,vp d),(10,.bool j),(8,.bool j),(12,vi b),(13,D),(14,D),(17,A)] (vA 19 (dn 6)) ?_<|fun y=>?_
  rotate_left
  ·rcases Bool.eq_false_or_eq_true (decide (b<1)) with hb' | hb'
   ·have m:=hb';clear hb'
    refine L3 (i:=14) U m<|Lp 3 U<|Lp 4 U<|Lf 5 U qW<|Lx .a3 ?_ y
    exact .t 11<|.r2 (zA<|Eq.symm m)<|zA<|gO m
   ·have n:=hb';clear hb'
    refine L3 (i:=14) U n<|Lf 3 U q_m<|Lf 4 U pJ<|Lf 5 U qX<|Lx .a3 ?_ y
    exact .t 11<|.r2 (zA<|Eq.symm n)<|zA<|gP n
  let C:Value:=(.bool (((decide (b<1))||(decide (b>72)))||(decide (c<a.yP))));refine Lf 6 U q_m<|Nf (fuel':=5) [(0,vp d),(1,vi c),(2,vi b),(4,vp k),(6,vi 0),(7,vi 0),(9,vp d),(10,.bool j),(8,.bool j),(12,vi b),(13,D),(14,D),(17,A),(18,A),(25,C)] (vA 19 (dn 14)) ?_<|fun z=>?_
  rotate_left
  ·rcases Bool.eq_false_or_eq_true ((decide (b<1))||(decide (b>72))) with hb' | hb'
   ·have o:=hb';clear hb'
    refine L3 (i:=18) U o<|Lp 7 U<|Lp 8 U<|Lp 9 U<|Lp 10 U<|Lp 11 U<|Lp 12 U<|Lf 13 U qW<|Lx .a3 ?_ z
    exact .t 13<|.r2 (zA<|Eq.symm o)<|zA<|gO o
   ·have p:=hb';clear hb'
    refine L3 (i:=18) U p<|Lh 7 U (Nt xJ .here)<|Lf 8 U q_m<|Lf 9 U xY<|Lf 10 U (xz X4)<|Lh 11 U (Nt xJ .h1)<|Lf 12 U ra<|Lf 13 U qX<|Lx .a3 ?_ z
    exact .t 13<|.r2 (zA<|Eq.symm p)<|zA<|gP p
  refine Lf 14 U q_m<|Nf (fuel':=1) [(0,vp d),(1,vi c),(2,vi b),(4,vp k),(6,vi 0),(7,vi 0),(9,vp d),(10,.bool j),(8,.bool j),(12,vi b),(13,D),(14,D),(17,A),(18,A),(25,C),(26,C),(29,.bool ((((decide (b<1))||(decide (b>72)))||(decide (c<a.yP)))||(decide (c>1073741824))))] (vA 19 (dn 18)) ?_<|fun B=>?_
  rotate_left
  ·rcases Bool.eq_false_or_eq_true (((decide (b<1))||(decide (b>72)))||(decide (c<a.yP))) with hb' | hb'
   ·have q:=hb';clear hb'
    refine L3 (i:=26) U q<|Lp 15 U<|Lp 16 U<|Lf 17 U qW<|Lx .a3 ?_ B
    exact .t 15<|.r2 (zA<|Eq.symm q)<|zA<|gO q
   ·have s:=hb';clear hb'
    refine L3 (i:=26) U s<|Lh 15 U (Nt xJ .here)<|Lf 16 U pJ<|Lf 17 U qX<|Lx .a3 ?_ B
    exact .t 15<|.r2 (zA<|Eq.symm s)<|zA<|gP s
  refine Lf 18 U q_z<|N0<|Lb<|Lj h (fun M h=>?_)<|fun M h=>?_
  ·exact B2n U<|Ny<|Lw<|Lk<|oJ h▸Li results89 (.tmp U<|.tmp U .nil) fun w hw=>⟨f,g,q9,trivial,hw.sub (.s2 .h1 .h1)⟩
  ·refine N2<|Lt<|Lb<|B1q U<|Le 31 (Nt xJ .here)<|Le 32 xY<|Le 33 (xz X4)<|Ll (jh (ds:=[vi a.yk.yp,vi a.yk.yl,vi a.yk.fT,vi c,vi a.yD,vs f a.yn.length g]) oa .h1)<|Q0n<|WC.b<|bK h fun t N h=>D2q U<|Le 36 xY<|Le 37 (xz cL)<|Le 38 (Nt zCD .here)<|Le 39 (wJ<|L6 (l:=[.tmp 4])<|.cons U .nil)<|H5 U (Ns call136) (.cons .h2 .nil) (ux hz (.cons .h2 .nil) (.cons .h1 .nil) fun w pz ho la=>sP (zig:=137) (znS:=[vp k]) (zaL:=(fun(y0:yj)=>mE y0 c)) N pz call137 (fun w' hz' y0  r  hr=>Yt hr hz'<|(la _ (.head _) _).stb) ho) ?_
   rintro G H _
   let F:Value:=(vs G t.length H);refine Le 41 xY<|Le 42 (xz cL)<|Ll (jh (ds:=[vi a.yk.yp,vi a.yk.yl,vi a.yk.fT,vi c,vi a.yD,F]) zM4 .h1)<|Q0n<|WC.b<|WC.b ?_
   refine bK h fun S O h=>Lu nc []<|Lf 0 U q_m<|Lh 1 U (Nt xJ .h2)<|L4 2 U (Ns call138) (ux hz .nil .a2 fun w pz ho la=>Xd O pz (ZA.row (la _ (.tail _<|.head _) _) (RR.flat (enc:=gr)) ⟨w,pz.1⟩)<|(la _ (.head _) _).stb)<|Lf 3 U q_m<|Lf 4 U uC<|Lf 5 U q_m<|Lf 6 U xY<|Lf 7 U (xz eL)<|Lf 8 U (xz Mq)<|Lh 9 U (Nt xJ .here)<|Lf 10 U pJ<|N0<|Lb<|Lj h (fun P h=>?_)<|fun P h=>?_
   ·exact B2n U<|Ny<|Lk<|oJ h▸Li results89 (.tmp U<|.tmp U .nil) fun w hw=>⟨G,H,q9,trivial,hw.sub .a2⟩
   ·let E:=(i64 ((max (i64 (c+a.yk.yl)) a.yD)+(i64 (b*a.yk.yp))));refine Nn<|WC.b<|Lu (fun i=>[23].contains i) []<|Lf 0 U q_m<|Lh 1 U (Nt xJ .h2)<|Lf 2 U q_m<|Lf 3 U xY<|Lf 4 U (xz eL)<|Lf 5 U (xz Mr)<|Lh 6 U (Nt xJ .here)<|Lf 7 U uC<|Lf 8 U q_m<|Lf 9 U xY<|Lf 10 U (xz eM)<|Lh 11 U (Nt xJ .here)<|Lf 12 U iW<|Lf 13 U q_m<|Lf 14 U q_m<|Lf 15 U xY<|Lf 16 U (xz eL)<|Lf 17 U (xz QM)<|Lh 18 U (Nt xJ .here)<|Lf 19 U sZ<|Lf 20 U uC<|Lf 21 U xY<|Lf 22 U (xz eM)<|Nc (i:=23) U (jh (ds:=[vi a.yk.yp,vi a.yk.yl,vi a.yk.fT,vi c,vi E,F]) oa .here)<|N0<|Lb<|WC.b ?_
    refine cK h fun Q h=>Lu (fun i=>[12,15].contains i) []<|Lf 0 U q_m<|Lf 1 U q_m<|Lf 2 U xY<|Lf 3 U (xz cL)<|Lh 4 U (Nt zCD .here)<|Lf 5 U q_m<|Lf 6 U q_m<|Lf 7 U xY<|Lf 8 U (xz eM)<|Lh 9 U (Nt xJ .here)<|Lf 10 U (we (v:=(.agg #[vi b,(vi<|i64 ((max (i64 (c+a.yk.yl)) a.yD)+(i64 (b*a.yk.yp))))])) (Lq (l:=[.tmp 82,.tmp 86]) (.r2 U U) [0,1])) (WD.new (i:=11) U U (wj (cs:=([(⟨b,i64 ((max (i64 (c+a.yk.yl)) a.yD)+(i64 (b*a.yk.yp)))⟩:yj)]:List yj).flatMap gr) zfr (Lq (l:=[.tmp 87]) (.cons U .nil) [0])) (fun h'=>absurd h' (by decide)) fun R _=>WD.old (i:=12) U U (fun _=>(wB.of .nil)) (kG (enc:=gr) (l1:=t) (l2:=([(⟨b,i64 ((max (i64 (c+a.yk.yl)) a.yD)+(i64 (b*a.yk.yp)))⟩:yj)]:List yj)) zfr .h2 (jB .here) (gF Kw) Q) ?_)
    rintro⟨I,J⟩ _
    exact Lf 13 U xY<|Lf 14 U (xz cL)<|Nc (i:=15) U (jh (ds:=[vi a.yk.yp,vi a.yk.yl,vi a.yk.fT,vi c,vi E,vs I ((t++([(⟨b,i64 ((max (i64 (c+a.yk.yl)) a.yD)+(i64 (b*a.yk.yp)))⟩:yj)]:List yj)).length) J]) zM4 .h2)<|N0<|Lb<|B1q U<|Le 93 xY<|Le 94 (xz eM)<|Le 95 (Nt xJ .here)<|Q2n U<|Ny<|oJ h▸Li results89 (.tmp U<|.tmp U .nil) fun w hw=>⟨I,J,q9,trivial,hw.sub .a2⟩
def ue(g:zu)(h:List (List zd))(f:List yW)(k:List (z6×yC))(l:List yr)(d:List yh)(e:List yh):Option (List yr×List yh×List yh×(List (z6×yC))):=
 (mg l).bind fun a=>(t7 g h f k a.2 d e a.1.yg).bind fun b=>chk (0<=a.1.yf/\a.1.yf<f.length) (chk (vH b (⟨a.1.yg.ya,a.1.yg.fQ⟩:z6)=true) ((mB (⟨(⟨((xI b (⟨a.1.yg.ya,a.1.yg.fQ⟩:z6) default).yk).yp,((xI b (⟨a.1.yg.ya,a.1.yg.fQ⟩:z6) default).yk).yl,((xI b (⟨a.1.yg.ya,a.1.yg.fQ⟩:z6) default).yk).fT⟩:xx),(xI b (⟨a.1.yg.ya,a.1.yg.fQ⟩:z6) default).yP,(xI b (⟨a.1.yg.ya,a.1.yg.fQ⟩:z6) default).yD,(xI b (⟨a.1.yg.ya,a.1.yg.fQ⟩:z6) default).yn⟩:yC) a.1.yb ((nth f a.1.yf).yo)).bind fun c=>if decide (c.2.1≠0) then chk ((((e++([({a.1 with ya:=a.1.yg.ya}:yh)]:List yh)).length:Nat):Int)*24<=140737488355328/\(((e++([({a.1 with ya:=a.1.yg.ya}:yh)]:List yh)).length:Nat):Int)<=4611686018427387904) (some (a.2,d,e++([({a.1 with ya:=a.1.yg.ya}:yh)]:List yh),w6 b (⟨a.1.yg.ya,a.1.yg.fQ⟩:z6) c.2.2)) else qI (fun(i:List yh)=>(ff g h f (w6 b (⟨a.1.yg.ya,a.1.yg.fQ⟩:z6) c.2.2) a.2 i e a.1.yg.fX c.1 a.1.yg.fQ a.1.yf).bind fun m=>some (m,i,e,w6 b (⟨a.1.yg.ya,a.1.yg.fQ⟩:z6) c.2.2)) fun j=>if decide (a.1.yg.fX<g.fM.length) then chk ((((d++([(⟨a.1.yf,a.1.yg.fX,c.1⟩:yh)]:List yh)).length:Nat):Int)*24<=140737488355328/\(((d++([(⟨a.1.yf,a.1.yg.fX,c.1⟩:yh)]:List yh)).length:Nat):Int)<=4611686018427387904) (j (d++([(⟨a.1.yf,a.1.yg.fX,c.1⟩:yh)]:List yh))) else j d))
theorem aH{Z o ab ad ae af ag ah ai aj ak al am an ao ap aq ar au av aw ax m V ay az q t z B c W X aG p d f r}(h:ue c W X aG p d f=some r){Nx}(hz:Pz [stb o 134 [vs ab c.fM.length ad,vs ae c.yd.length af,vs ag c.fS.length ah,vs ai c.fK.length aj,vs ak c.yc.length al,vs am c.fH.length an,vs ao c.fU.length ap,vs aq c.ye.length ar,vs au W.length av,vs aw X.length ax,.map (some m),vs ay p.length az,vs q d.length t,vs z f.length B],xN m (ga gq) Value.pointer (jK V),wH z2N V,row (vs ay p.length az) 188 7 (p.flatMap wE),row (vs q d.length t) 83 3 (d.flatMap wh),row (vs z f.length B) 83 3 (f.flatMap wh)] Nx Z)(aI:ZS Z 4 (kr Z) ab ad c.fM)(aJ:ZS Z 4 (g5 Z) ae af c.yd)(aK:ZS Z 4 (rq ki) ag ah c.fS)(aL:ZS Z 4 (rq gg) ai aj c.fK)(aM:ZS Z 7 (g8 Z) ak al c.yc)(aN:ZS Z 5 (rq gc) am an c.fH)(aO:ZS Z 3 (g6 Z) ao ap c.fU)(aP:ZS Z 4 (rq ge) aq ar c.ye)(aQ:ZS Z 1 (g9 Z) au av W)(aE:ZS Z 3 (rq nJ) aw ax X)(a5:mM V=aG)(eO:Ho Nx [stb o 134 [vs ab c.fM.length ad,vs ae c.yd.length af,vs ag c.fS.length ah,vs ai c.fK.length aj,vs ak c.yc.length al,vs am c.fH.length an,vs ao c.fU.length ap,vs aq c.ye.length ar,vs au W.length av,vs aw X.length ax,.map (some m),vs ay p.length az,vs q d.length t,vs z f.length B],xN m (ga gq) Value.pointer (jK V),wH z2N V,row (vs ay p.length az) 188 7 (p.flatMap wE),row (vs q d.length t) 83 3 (d.flatMap wh),row (vs z f.length B) 83 3 (f.flatMap wh)]):
  Calls Tryz.prog 48 #[vp o] Nx fun e w'=>∃ aR:Option Addr,∃ aS:Nat,∃ aT:Option Addr,∃ aU:Nat,∃ aV:Option Addr,∃ aW:Nat,∃ aF:List (z6×((Nat×(Option Addr×Nat))×yC)),e = .returned (.tuple #[])/\(mM aF=r.2.2.2)/\Hp (fps [stb o 134 [vs ab c.fM.length ad,vs ae c.yd.length af,vs ag c.fS.length ah,vs ai c.fK.length aj,vs ak c.yc.length al,vs am c.fH.length an,vs ao c.fU.length ap,vs aq c.ye.length ar,vs au W.length av,vs aw X.length ax,.map (some m),vs ay p.length az,vs q d.length t,vs z f.length B],xN m (ga gq) Value.pointer (jK V),wH z2N V,row (vs ay p.length az) 188 7 (p.flatMap wE),row (vs q d.length t) 83 3 (d.flatMap wh),row (vs z f.length B) 83 3 (f.flatMap wh)]) Nx w' [stb o 134 [vs ab c.fM.length ad,vs ae c.yd.length af,vs ag c.fS.length ah,vs ai c.fK.length aj,vs ak c.yc.length al,vs am c.fH.length an,vs ao c.fU.length ap,vs aq c.ye.length ar,vs au W.length av,vs aw X.length ax,.map (some m),vs aR r.1.length aS,vs aT r.2.1.length aU,vs aV r.2.2.1.length aW],row (vs aR r.1.length aS) 188 7 (r.1.flatMap wE),row (vs aT r.2.1.length aU) 83 3 (r.2.1.flatMap wh),row (vs aV r.2.2.1.length aW) 83 3 (r.2.2.1.flatMap wh),xN m (ga gq) Value.pointer (jK aF),wH z2N aF]:=by
 unfold ue at h
 refine Dz func48 U eO U<|WC.b<|bK h fun a a6 h=>D1q U<|Le 6 xY<|Le 7 (xz X0)<|Le 8 (bL underlying186 U U)<|H5 U (Ns call87) (.s2 .here .h2) (cc hz (.s2 .here .h2) fun w pz ho=>dQ a6 pz  ho) ?_
 rintro aX aY _
 refine Le 10 (Qw underlying188 U U) (Lg 2 (xT (cs:=[vi 0,vi 0,vi 0,vi 0,vi 0,vi 0,vi 0]) zM1) fun aC _=>Ll (xP zxm .here)<|Q0n<|WC.b ?_)
 obtain⟨R,a7,h⟩:=za h
 obtain⟨a8,h⟩:=xG h
 obtain⟨aZ,h⟩:=xG h
 obtain⟨n,a9,h⟩:=za h
 let F:Value:=(vs aw X.length ax);refine Lu (fun i=>[3,15].contains i) [re aC 188 [(0,vi a.1.yb),(3,vi a.1.yf)],re o 134 [(9,F)]]<|Lf 0 U q_m<|Lf 1 U (xz lO)<|Lh 2 U (wn (cs:=[vi a.1.yg.ya,vi a.1.yg.fX,vi a.1.yg.fQ]) z54<|gK (s:=3) .here U)<|Lf 4 U (xz eK)<|L7 5 U (wB.wk .a2<|.stb (.cons U<|.cons U .nil)<|.stb (.cons U .nil) .nil) (xA xJ U<|mC .here<|.head _)<|Lf 6 U q_m<|Lf 7 U xY<|Lf 8 U (xz QI)<|L7 9 U (wB.wk .a2<|.stb (.cons U<|.cons U .nil)<|.stb (.cons U .nil) .nil) (xA zLZ U<|mC .h1<|.head _)<|Lf 10 U (xz lN)<|L7 11 U (wB.wk .a2<|.stb (.cons U<|.cons U .nil)<|.stb (.cons U .nil) .nil) (xA xJ U<|mC .here<|.tail _<|.head _)<|L5 (j:=12) (Z:=Z) (Pr:=(rq nJ)) zoe aE a8 ?_
 rintro bk bl ba bm rfl
 refine Lf 13 U (xz WF)<|L7 14 U (wB.wk .a2<|.stb (.cons U<|.cons U .nil)<|.stb (.cons U .nil) .nil) (xA xJ U<|wq hz.pv ba)<|WD.call1 (i:=3) U (by kernel_rfl) U U U (.inl ⟨U,fun _=>(wB.wk (.s2 .h2 .h2)<|.stb (.cons U<|.cons U .nil)<|.stb (.cons U .nil) .nil)⟩) (Ns call88) (.s2 .h3 .h3) (ux hz (.s2 .h3 .h3) (.s4 .h1 .h1 .h1 .h1) fun w pz ho la=>Xc a7 pz ((aI.mono<|zl).weak (fun _ _ h=>wV zl h)) ((aJ.mono<|zl).weak (fun _ _ h=>vt zl h)) (aK.mono<|zl) (aL.mono<|zl) ((aM.mono<|zl).weak (fun _ _ h=>wX zl h)) (aN.mono<|zl) ((aO.mono<|zl).weak (fun _ _ h=>vu zl h)) (aP.mono<|zl) ((aQ.mono<|zl).weak (fun _ _ h=>qa zl h)) (aE.mono<|zl) a5 (ZA.row (la _ (.tail _<|.head _) _) (RR.flat (enc:=wE)) ⟨w,pz.1⟩) (ZA.row (la _ (.tail _<|.tail _<|.head _) _) (RR.flat (enc:=wh)) ⟨w,pz.1⟩) (ZA.row (la _ (.tail _<|.tail _<|.tail _<|.head _) _) (RR.flat (enc:=wh)) ⟨w,pz.1⟩) ((la _ (.head _) _).stb) ho) ?_
 rintro y aD
 let C:List Value:=[vi a.1.yb,vi a.1.yJ,vi a.1.yO,vi a.1.yf,vi a.1.yg.ya,vi a.1.yg.fX,vi a.1.yg.fQ];let D:Value:=(vs aX a.2.length aY);let E:Value:=(vs z f.length B);let G:Value:=(vs ab c.fM.length ad);let H:Value:=(vs ae c.yd.length af);let I:Value:=(vs ag c.fS.length ah);let J:Value:=(vs ai c.fK.length aj);let K:Value:=(vs ak c.yc.length al);let L:Value:=(vs am c.fH.length an);let N:Value:=(vs ao c.fU.length ap);let O:Value:=(vs aq c.ye.length ar);let P:Value:=(vs q d.length t);let Q:Value:=(vs au W.length av);let A:List Value:=[G,H,I,J,K,L,N,O,Q,F,.map (some m),D,P,E];refine Ps (fun _=>Hp.K2 aD aZ .h1 (fun g=>stb g.1 253 [(vi<|((xI R (⟨a.1.yg.ya,a.1.yg.fQ⟩:z6) default).yk).yp),(vi<|((xI R (⟨a.1.yg.ya,a.1.yg.fQ⟩:z6) default).yk).yl),(vi<|((xI R (⟨a.1.yg.ya,a.1.yg.fQ⟩:z6) default).yk).fT),(vi<|(xI R (⟨a.1.yg.ya,a.1.yg.fQ⟩:z6) default).yP),(vi<|(xI R (⟨a.1.yg.ya,a.1.yg.fQ⟩:z6) default).yD),vs g.2.1 (((xI R (⟨a.1.yg.ya,a.1.yg.fQ⟩:z6) default).yn).length) g.2.2]::row (vs g.2.1 (((xI R (⟨a.1.yg.ya,a.1.yg.fQ⟩:z6) default).yn).length) g.2.2) 256 2 (((xI R (⟨a.1.yg.ya,a.1.yg.fQ⟩:z6) default).yn).flatMap gr)::[wH z2N (uo (⟨a.1.yg.ya,a.1.yg.fQ⟩:z6) y),xN m (ga gq) Value.pointer (jK y),stb aC 188 C,stb o 134 A,row D 188 7 (a.2.flatMap wE),row P 83 3 (d.flatMap wh),row E 83 3 (f.flatMap wh)])<|fun _=>U) ?_
 rintro⟨S,bn,bo⟩ a0
 refine N3 (i:=15) U (u:=(vp S)) (congrArg Value.pointer a0)<|WD.call2 (i:=15) U U U U (.inl ⟨U,fun _ _=>(wB.wk (.s2 .h4 .h4)<|.stb (.cons U<|.cons U .nil)<|.stb (.cons U .nil) .nil)⟩) (Ns call89) .a2 (cc hz .a2 fun w pz ho=>XY a9 pz  ho) ?_
 rintro Y aa _
 refine Oc (fun _ h=>Hp.objsClose (els:=z2N) (lg:=y) (k:=(⟨a.1.yg.ya,a.1.yg.fQ⟩:z6)) (b:=S) (g:=(Y,aa)) (x:=n.2.2) .a3 h)<|Oc (M:=[xN m (ga gq) Value.pointer (jK<|w6 y (⟨a.1.yg.ya,a.1.yg.fQ⟩:z6) ((S,(Y,aa)),n.2.2)),wH z2N (w6 y (⟨a.1.yg.ya,a.1.yg.fQ⟩:z6) ((S,(Y,aa)),n.2.2)),stb aC 188 C,stb o 134 A,row D 188 7 (a.2.flatMap wE),row P 83 3 (d.flatMap wh),row E 83 3 (f.flatMap wh)]) (fun _ h=>Hp.eF .h1 (Ga aD aZ a0) h)<|Lf 16 U q_m<|Lf 17 U fF<|Lf 18 U fF<|Lf 19 U q_z<|Lf 20 U q_z<|N0<|Lb<|WC.b<|B2n U<|Lj h (fun bb h=>?_)<|fun bb h=>?_
 ·refine WC.b<|cK h fun bc h=>Lu (fun i=>[14,17].contains i) []<|Lf 0 U q_m<|Lf 1 U q_m<|Lf 2 U xY<|Lf 3 U (xz X5)<|Lh 4 U (Nt zxn .h3)<|Lf 5 U (xz lN)<|Lh 6 U (Nt xJ .h2)<|Lf 7 U (xz lO)<|Lf 8 U (xz ku)<|Lh 9 U (Nt xJ .h2)<|Lf 10 U (xz eK)<|Lh 11 U (Nt xJ .h2)<|Lf 12 U (we (v:=(.agg #[vi a.1.yf,vi a.1.yg.ya,vi a.1.yb])) (Lq (l:=[.tmp 38,.tmp 41,.tmp 43]) (.r3 U U U) [0,1,2])) (WD.new (i:=13) U U (wj (cs:=([({a.1 with ya:=a.1.yg.ya}:yh)]:List yh).flatMap wh) z3g (Lq (l:=[.tmp 44]) (.cons U .nil) [0])) (fun h'=>absurd h' (by decide)) fun bp _=>WD.old (i:=14) U U (fun _=>(wB.of .nil)) (kG (enc:=wh) (l1:=f) (l2:=([({a.1 with ya:=a.1.yg.ya}:yh)]:List yh)) z3g .h7 (jB .here) (gF F7) bc) ?_)
  rintro⟨a1,a2⟩ _
  exact Lf 15 U xY<|Lf 16 U (xz X5)<|Nc (i:=17) U (jh (ds:=[G,H,I,J,K,L,N,O,Q,F,(.map<|some m),D,P,vs a1 ((f++([({a.1 with ya:=a.1.yg.ya}:yh)]:List yh)).length) a2]) zM5 .h5)<|N0<|Lb<|Ny<|Lk<|oJ h▸Li results48 .nil fun w hw=>⟨aX,aY,q,t,a1,a2,w6 y (⟨a.1.yg.ya,a.1.yg.fQ⟩:z6) ((S,(Y,aa)),n.2.2),mq,lC aD _ _ _,hw.sub (.s6 .here .h5 .h5 .here .h1 .h1)⟩
 ·refine Nn<|jK1 h fun bj bd h=>Nj (fun T aA aB=>(bj T=some r)) (fun T aA aB=>[(0,vp o),(2,vp aC),(3,vi n.1)]) (fun T aA aB=>[row D 188 7 (a.2.flatMap wE),row (vs aA T.length aB) 83 3 (T.flatMap wh),row E 83 3 (f.flatMap wh),stb o 134 [G,H,I,J,K,L,N,O,Q,F,(.map<|some m),D,vs aA T.length aB,E],stb aC 188 C,xN m (ga gq) Value.pointer (jK<|w6 y (⟨a.1.yg.ya,a.1.yg.fQ⟩:z6) ((S,(Y,aa)),n.2.2)),wH z2N (w6 y (⟨a.1.yg.ya,a.1.yg.fQ⟩:z6) ((S,(Y,aa)),n.2.2))]) ?_ ?_
  ·refine WC.b<|Lu nc []<|Lf 0 U (xz lO)<|Lf 1 U (xz mD)<|Lh 2 U (Nt xJ .h2)<|Lf 3 U q_m<|Lf 4 U xY<|Lf 5 U (xz cJ)<|Lf 6 U (xz tw)<|Lh 7 U (Nt zaS .h3)<|Lf 8 U (w9 underlying22)<|Lf 9 U ra<|N0<|Lb<|Lj h (fun be h=>?_)<|fun be h=>?_
   ·refine cK h fun bf h=>Lu (fun i=>[13,16].contains i) []<|Lf 0 U q_m<|Lf 1 U q_m<|Lf 2 U xY<|Lf 3 U (xz X6)<|Lh 4 U (Nt zxn .h3)<|Lf 5 U (xz lN)<|Lh 6 U (Nt xJ .h2)<|Lf 7 U (xz lO)<|Lf 8 U (xz mD)<|Lh 9 U (Nt xJ .h2)<|Lf 10 U q_m<|Lf 11 U (we (v:=(.agg #[vi a.1.yf,vi a.1.yg.fX,vi n.1])) (Lq (l:=[.tmp 65,.tmp 68,.tmp 69]) (.r3 U U U) [0,1,2])) (WD.new (i:=12) U U (wj (cs:=([(⟨a.1.yf,a.1.yg.fX,n.1⟩:yh)]:List yh).flatMap wh) z3g (Lq (l:=[.tmp 70]) (.cons U .nil) [0])) (fun h'=>absurd h' (by decide)) fun bq _=>WD.old (i:=13) U U (fun _=>(wB.of .nil)) (kG (enc:=wh) (l1:=d) (l2:=([(⟨a.1.yf,a.1.yg.fX,n.1⟩:yh)]:List yh)) z3g .h6 (jB .here) (gF F7) bf) ?_)
    rintro⟨a3,a4⟩ _
    exact Lf 14 U xY<|Lf 15 U (xz X6)<|Nc (i:=16) U (jh (ds:=[G,H,I,J,K,L,N,O,Q,F,(.map<|some m),D,vs a3 ((d++([(⟨a.1.yf,a.1.yg.fX,n.1⟩:yh)]:List yh)).length) a4,E]) zM5 .h5)<|N0<|Lo ⟨d++([(⟨a.1.yf,a.1.yg.fX,n.1⟩:yh)]:List yh),a3,a4⟩ h .q<|.s7 .h6 .h1 .h5 .here .h3 .h1 .h1
   ·exact N2<|Lo ⟨d,q,t⟩ h .q<|.s7 .h4 .h4 .h4 .h3 .h2 .here .here
  ·rintro T aA aB h
   replace h:=(bd T).symm.trans h
   refine bK h fun br bg h=>D1q U<|Le 76 (xz lO)<|Le 77 (xz mD)<|Le 78 (Nt xJ .h4)<|La U<|Le 80 (xz lO)<|Le 81 (xz sq)<|Le 82 (Nt xJ .h4)<|Le 83 (xz lN)<|Le 84 (Nt xJ .h4)<|H5 U (Ns call47) (.s4 .h3 .h4 .h4 .here) (ux hz (.s4 .h3 .h4 .h4 .here) .a2 fun w pz ho la=>lm bg pz ((aI.mono<|zl).weak (fun _ _ h=>wV zl h)) ((aJ.mono<|zl).weak (fun _ _ h=>vt zl h)) (aK.mono<|zl) (aL.mono<|zl) ((aM.mono<|zl).weak (fun _ _ h=>wX zl h)) (aN.mono<|zl) ((aO.mono<|zl).weak (fun _ _ h=>vu zl h)) (aP.mono<|zl) ((aQ.mono<|zl).weak (fun _ _ h=>qa zl h)) (aE.mono<|zl) (lC aD _ _ _) (ZA.row (la _ (.head _) _) (RR.flat (enc:=wh)) ⟨w,pz.1⟩) (ZA.row (la _ (.tail _<|.head _) _) (RR.flat (enc:=wh)) ⟨w,pz.1⟩) ho) ?_
   rintro bh bi _
   exact WL.nil<|oJ h▸Nh results48 .nil fun w hw=>⟨bh,bi,aA,aB,z,B,w6 y (⟨a.1.yg.ya,a.1.yg.fQ⟩:z6) ((S,(Y,aa)),n.2.2),mq,lC aD _ _ _,hw.sub (.s6 .here .here .h2 .h2 .here .here)⟩
def mi(a:yh)(b:yh):Option Int:=
 (qm a.yb b.yb).bind fun c=>(qm a.yf b.yf).bind fun d=>(qm a.ya b.ya).bind fun e=>(uT ([c,d,e]:List Int)).bind fun f=>some f
theorem aI{Z a b r}(h:mi a b=some r){Nx}(hz:PZ [] Nx Z):
  RC 91 #[.agg #[vi a.yf,vi a.ya,vi a.yb],.agg #[vi b.yf,vi b.ya,vi b.yb]] Nx (vi r) [] []:=by
 unfold mi at h
 refine L0 func91 U U<|B0q (Lg 2 (wa (cs:=[vi a.yf,vi a.ya,vi a.yb])) fun m _=>Lg 3 (wa (cs:=[vi b.yf,vi b.ya,vi b.yb])) fun n _=>Q1n U<|WC.b ?_)
 refine bK h fun g c h=>bK h fun j d h=>bK h fun k e h=>bK h fun p f h=>Lu nc []<|Lf 0 U (xz Yc)<|Lh 1 U (Nt xJ .h1)<|Lf 2 U (xz Yc)<|Lh 3 U (Nt xJ .here)<|L4 4 U (Ns call85) (cc hz .nil fun w pz ho=>kp c pz )<|Lf 5 U (xz KA)<|Lh 6 U (Nt xJ .h1)<|Lf 7 U (xz KA)<|Lh 8 U (Nt xJ .here)<|L4 9 U (Ns call85) (cc hz .nil fun w pz ho=>kp d pz )<|Lf 10 U (xz WG)<|Lh 11 U (Nt xJ .h1)<|Lf 12 U (xz WG)<|Lh 13 U (Nt xJ .here)<|L4 14 U (Ns call85) (cc hz .nil fun w pz ho=>kp e pz ) (WD.new (i:=15) U U (wj (cs:=([g,j,k]:List Int).flatMap e3) z7G (Lq (l:=[.tmp 9,.tmp 14,.tmp 19]) (.r3 U U U) [0,1,2])) (fun h'=>absurd h' (by decide)) fun o _=>L4 16 U (Ns call84) (ux hz .nil (.cons .here .nil) fun w pz ho la=>cM f pz<|ZA.row (la _ (.head _) _) (RR.flat (enc:=e3)) ⟨w,pz.1⟩)<|Lf 17 U q_z<|N0<|Lb<|Ny ?_)
 exact oJ h▸Nl results91
def wP(c:Int)(z6O:yh->yh->Option Int)(d:(List yh)->Option (List yh)):Nat->(List yh)->Int->Option (List yh)
 | 0,_,_=>none
 | e+1,b,a=>(if decide (a>c) then chk (0<=a/\a<b.length) (chk (0<=(i64 (a-1))/\(i64 (a-1))<b.length) ((z6O (⟨(nth b a).yf,(nth b a).ya,(nth b a).yb⟩:yh) (⟨(nth b (i64 (a-1))).yf,(nth b (i64 (a-1))).ya,(nth b (i64 (a-1))).yb⟩:yh)).bind fun f=>some (decide (f<0)))) else some false).bind fun g=>if g then chk (0<=(i64 (a-1))/\(i64 (a-1))<b.length) (chk (0<=a/\a<b.length) (chk (0<=(i64 (a-1))/\(i64 (a-1))<(((b.set (a:Int).toNat (⟨(nth b (i64 (a-1))).yf,(nth b (i64 (a-1))).ya,(nth b (i64 (a-1))).yb⟩:yh)).length:Nat):Int)) (wP c z6O d e ((b.set (a:Int).toNat (⟨(nth b (i64 (a-1))).yf,(nth b (i64 (a-1))).ya,(nth b (i64 (a-1))).yb⟩:yh)).set ((i64 (a-1)):Int).toNat (⟨(nth b a).yf,(nth b a).ya,(nth b a).yb⟩:yh)) (i64 (a-1))))) else d b
def ws(b:Int)(c:Int)(z6O:yh->yh->Option Int)(d:(List yh)->Option (List yh)):Nat->(List yh)->Int->Option (List yh)
 | 0,_,_=>none
 | f+1,e,a=>if decide (a<b) then qI (fun(g:List yh)=>ws b c z6O d f g (i64 (a+1))) fun h=>qI (fun i=>h i) fun j=>wP c z6O j xR e a else d e
def vc(b:List yh)(a:Int)(c:Int)(z6O:yh->yh->Option Int):Option (List yh):=
 qI (fun(d:List yh)=>some d) fun e=>ws c a z6O e xR b (i64 (a+1))
theorem mP{Z d c}(zbL zf6){g j t}(z6O){r}(h:vc g j t z6O=some r){Nx}(hz:Pz [row (vs d g.length c) 83 3 (g.flatMap wh)] Nx Z)(S:∀ args w,(callFunc zbL args).run Tryz.prog w = .ok (.enter zbL args) w)(T:∀ w:World,PZ [] w Z->∀(x0:yh) (x1:yh) (r:Int),z6O x0 x1=some r->Calls Tryz.prog zbL (([.agg #[vi x0.yf,vi x0.ya,vi x0.yb],.agg #[vi x1.yf,vi x1.ya,vi x1.yb]]:List Value)++zf6).toArray w fun e w'=>e = .returned (vi r)/\Hp [] w w' [])(eO:Ho Nx [row (vs d g.length c) 83 3 (g.flatMap wh)]):
  Calls Tryz.prog 170 #[vs d g.length c,vi j,vi t,.func (.func zbL) #[] (zf6).toArray] Nx fun e w'=>e = .returned (.tuple #[])/\(r.length=g.length)/\Hp (fps [row (vs d g.length c) 83 3 (g.flatMap wh)]) Nx w' [row (vs d r.length c) 83 3 (r.flatMap wh)]:=by
 unfold vc at h
 refine H3 func170 U eO U<|B3n U<|jK1 h fun M V h=>Ok (fun v=>(M v=some r)/\(v.length=g.length)) (fun v=>[]) (fun v=>[row (vs d v.length c) 83 3 (v.flatMap wh)]) ?_ ?_
 ·let A:Value:=(.func (.func zbL) #[] (zf6).toArray);refine WC.block<|H4 (fun x n m=>(ws t j z6O M x n m=some r)/\(n.length=g.length)) (fun x n m=>[(0,vs d n.length c),(1,vi j),(2,vi t),(3,A),(8,vi m)]) (fun x n m=>[row (vs d n.length c) 83 3 (n.flatMap wh)]) (fun x n m=>x) ⟨xR,g,i64 (j+1)⟩ ⟨h,U⟩ .q (.cons .here .nil) ?_
  rintro (_|ag) n m ⟨h,N⟩;·cases h
  rw[ws] at h
  refine WC.b<|B3n U<|Lj h (fun W h=>?_)<|fun W h=>?_
  ·refine Nn<|jK1 h fun ah X h=>Na (fun o=>(ah o=some r)/\(o.length=g.length)) (fun o=>[(0,vs d o.length c),(1,vi j),(2,vi t),(3,A),(8,vi m)]) (fun o=>[row (vs d o.length c) 83 3 (o.flatMap wh)]) ?_ ?_
   ·refine WC.block<|B2n U<|jK1 h fun O Y h=>Ok (fun p=>(O p=some r)/\(p.length=g.length)) (fun p=>[(0,vs d p.length c),(1,vi j),(2,vi t),(3,A),(8,vi m)]) (fun p=>[row (vs d p.length c) 83 3 (p.flatMap wh)]) ?_ ?_
    ·refine WC.block<|H4 (fun z b a=>(wP j z6O O z b a=some r)/\(b.length=g.length)) (fun z b a=>[(0,vs d b.length c),(1,vi j),(2,vi t),(3,A),(8,vi m),(9,vi a)]) (fun z b a=>[row (vs d b.length c) 83 3 (b.flatMap wh)]) (fun z b a=>z) ⟨xR,n,m⟩ ⟨h,N⟩ .q (.cons .here .nil) ?_
     rintro (_|ai) b a ⟨h,P⟩;·cases h
     rw[wP] at h
     refine WC.b<|WC.b ?_
     obtain⟨aj,Q,h⟩:=za h
     let E:Value:=(.bool (decide (a>j)));refine Lu nc []<|Lf 0 U q_m<|Lf 1 U q_m<|Lf 2 U pJ<|Lf 3 U q_m<|Nf (fuel':=0) [(0,vs d b.length c),(1,vi j),(2,vi t),(3,A),(8,vi m),(9,vi a),(18,vi a),(19,vi j),(20,E),(21,E),(34,.bool aj)] (vA 17 (dn 17)) ?_<|fun R=>?_
     rotate_left
     ·rcases Bool.eq_false_or_eq_true (decide (a>j)) with hb' | hb'
      ·have J:=hb';clear hb'
       have s:=qY Q J
       obtain⟨F,s⟩:=xG s
       obtain⟨I,s⟩:=xG s
       obtain⟨ak,aa,s⟩:=za s
       replace s:=oJ s
       refine L3 (i:=21) U J<|Lf 4 U q_m<|Lf 5 U q_m<|Lf 6 U q_m<|N5 (fun w hw=>Hp.vr .here hw (by intro hz';have:=F;rw[hz'] at this;omega)) ?_
       rintro⟨al,rfl⟩
       refine Lf 7 U (w3 z3g F.1 F.2 wI)<|Lh 8 U (wn (cs:=(wh<|nth b a)) z6R<|vU .here<|wU (enc:=wh) (l:=b) (i:=a) (sz:=3) F.1 F.2)<|Lf 9 U q_m<|Lf 10 U q_m<|Lf 11 U td<|Lf 12 U (w3 z3g I.1 I.2 wI)<|Lh 13 U (wn (cs:=(wh<|nth b<|i64 (a-1))) z6R<|vU .here<|wU (enc:=wh) (l:=b) (i:=i64 (a-1)) (sz:=3) I.1 I.2)<|L4 14 U (qg (l:=[.tmp 26,.tmp 31]) (f:=zbL) (caps:=zf6) S<|.r2 U U) (fun w hw=>T w (hz.now hw) (⟨(nth b a).yf,(nth b a).ya,(nth b a).yb⟩:yh) (⟨(nth b<|i64 (a-1)).yf,(nth b<|i64 (a-1)).ya,(nth b<|i64 (a-1)).yb⟩:yh) ak  aa)<|Lf 15 U ra<|Lf 16 U qW<|Lx (.cons .here .nil) ?_ R
       exact .t 9<|.r2 (zA<|Eq.symm J)<|zA s
      ·have K:=hb';clear hb'
       have L:=qZ Q K
       replace L:=oJ L
       refine L3 (i:=21) U K<|Lp 4 U<|Lp 5 U<|Lp 6 U<|Lp 7 U<|Lp 8 U<|Lp 9 U<|Lp 10 U<|Lp 11 U<|Lp 12 U<|Lp 13 U<|Lp 14 U<|Lp 15 U<|Lf 16 U qX<|Lx (.cons .here .nil) ?_ R
       exact .t 9<|.r2 (zA<|Eq.symm K)<|zA L
     refine N0<|Lb<|Lj h (fun ab h=>?_)<|fun ab h=>?_
     ·refine Nn<|WC.b<|WC.block<|cK h fun G h=>cK h fun q h=>cK h fun B h=>Lu (fun i=>[15,17].contains i) []<|Lf 0 U q_m<|Lf 1 U q_m<|Lf 2 U q_m<|Lf 3 U q_m<|Lf 4 U td<|Lf 5 U q_m<|Lf 6 U q_m<|Lf 7 U td<|N5 (fun w hw=>Hp.vr .here hw (by intro hz';have:=G;rw[hz'] at this;omega)) ?_
      rintro⟨H,rfl⟩
      let C:List Value:=[vi ((nth b (i64 (a-1))).yf),vi ((nth b (i64 (a-1))).ya),vi ((nth b (i64 (a-1))).yb)];let D:List Value:=[vi ((nth b a).yf),vi ((nth b a).ya),vi ((nth b a).yb)];refine Lf 8 U (w3 z3g G.1 G.2 wI)<|Lh 9 U (wn (cs:=(wh<|nth b<|i64 (a-1))) z6R<|vU .here<|wU (enc:=wh) (l:=b) (i:=i64 (a-1)) (sz:=3) G.1 G.2)<|Lf 10 U q_m<|Lf 11 U q_m<|Lf 12 U (w3 z3g q.1 q.2 wI)<|Lh 13 U (wn (cs:=(wh<|nth b a)) z6R<|vU .here<|wU (enc:=wh) (l:=b) (i:=a) (sz:=3) q.1 q.2)<|Lf 14 U (w3 z3g q.1 q.2 wI)<|WD.forced0 (i:=15) U (wB.of .nil) (g7 (vs:=C) (ds:=(b.set (a:Int).toNat (⟨(nth b<|i64 (a-1)).yf,(nth b<|i64 (a-1)).ya,(nth b<|i64 (a-1)).yb⟩:yh)).flatMap wh) zfs ry .here (mS (enc:=wh) (sz:=3) (k:=0) q.1 q.2)<|mR (enc:=wh) (l:=b) (sz:=3) (vs:=C) (y:=(⟨(nth b<|i64 (a-1)).yf,(nth b<|i64 (a-1)).ya,(nth b<|i64 (a-1)).yb⟩:yh)) (k:=0) q.1 q.2<|Nat.le_of_ble_eq_true U)<|N7 .here (u:=(vs (some ⟨H,0,none⟩) ((b.set (a:Int).toNat (⟨(nth b<|i64 (a-1)).yf,(nth b<|i64 (a-1)).ya,(nth b<|i64 (a-1)).yb⟩:yh)).length) c)) (qB (List.length_set).symm)<|N3 (i:=0) U (u:=(vs (some ⟨H,0,none⟩) ((b.set (a:Int).toNat (⟨(nth b<|i64 (a-1)).yf,(nth b<|i64 (a-1)).ya,(nth b<|i64 (a-1)).yb⟩:yh)).length) c)) (qB (List.length_set).symm)<|N3 (i:=39) U (u:=(vs (some ⟨H,0,none⟩) ((b.set (a:Int).toNat (⟨(nth b<|i64 (a-1)).yf,(nth b<|i64 (a-1)).ya,(nth b<|i64 (a-1)).yb⟩:yh)).length) c)) (qB (List.length_set).symm)<|Lf 16 U (w3 z3g B.1 B.2 wI)<|Nc (i:=17) U (g7 (vs:=D) (ds:=((b.set (a:Int).toNat (⟨(nth b<|i64 (a-1)).yf,(nth b<|i64 (a-1)).ya,(nth b<|i64 (a-1)).yb⟩:yh)).set ((i64 (a-1)):Int).toNat (⟨(nth b a).yf,(nth b a).ya,(nth b a).yb⟩:yh)).flatMap wh) zfs ry .here (mS (enc:=wh) (sz:=3) (k:=0) B.1 B.2)<|mR (enc:=wh) (l:=b.set (a:Int).toNat (⟨(nth b<|i64 (a-1)).yf,(nth b<|i64 (a-1)).ya,(nth b<|i64 (a-1)).yb⟩:yh)) (sz:=3) (vs:=D) (y:=(⟨(nth b a).yf,(nth b a).ya,(nth b a).yb⟩:yh)) (k:=0) B.1 B.2<|Nat.le_of_ble_eq_true U)<|N7 .here (u:=(vs (some ⟨H,0,none⟩) (((b.set (a:Int).toNat (⟨(nth b<|i64 (a-1)).yf,(nth b<|i64 (a-1)).ya,(nth b<|i64 (a-1)).yb⟩:yh)).set ((i64 (a-1)):Int).toNat (⟨(nth b a).yf,(nth b a).ya,(nth b a).yb⟩:yh)).length) c)) (qB (List.length_set).symm)<|N3 (i:=0) U (u:=(vs (some ⟨H,0,none⟩) (((b.set (a:Int).toNat (⟨(nth b<|i64 (a-1)).yf,(nth b<|i64 (a-1)).ya,(nth b<|i64 (a-1)).yb⟩:yh)).set ((i64 (a-1)):Int).toNat (⟨(nth b a).yf,(nth b a).ya,(nth b a).yb⟩:yh)).length) c)) (qB (List.length_set).symm)<|N0<|Lt<|Lb<|D3q U<|WL.nil ?_
      exact Nz ⟨ai,(b.set (a:Int).toNat (⟨(nth b<|i64 (a-1)).yf,(nth b<|i64 (a-1)).ya,(nth b<|i64 (a-1)).yb⟩:yh)).set ((i64 (a-1)):Int).toNat (⟨(nth b a).yf,(nth b a).ya,(nth b a).yb⟩:yh),i64 (a-1)⟩ ⟨h,(List.length_set).trans ((List.length_set).trans P)⟩ .q<|.cons .here .nil
     ·exact N1<|Lm<|Lm<|Lv<|Lo b ⟨h,P⟩ .q<|.cons .here .nil
    ·rintro p ⟨h,ad⟩
     replace h:=(Y p).symm.trans h
     exact Lt<|Lo p ⟨h,ad⟩ .q<|.cons .here .nil
   ·rintro o ⟨h,ae⟩
    replace h:=(X o).symm.trans h
    exact D3q U<|WL.nil<|Nz ⟨ag,o,i64 (m+1)⟩ ⟨h,ae⟩ .q<|.cons .here .nil
  ·exact N1<|Lm<|Lm<|Lv<|Lo n ⟨h,N⟩ .nil<|.cons .here .nil
 ·rintro v ⟨h,af⟩
  replace h:=(V v).symm.trans h
  exact oJ h▸Nh results170 .nil fun w hw=>⟨mq,af,hw.sub (.cons .here .nil)⟩
def wL(e:Int)(c:Int)(d:Int)(f:(List yh)->Option (List yh)):Nat->(List yh)->Int->Option (List yh)
 | 0,_,_=>none
 | g+1,b,a=>if decide (a<e) then chk (0<=(i64 (c+a))/\(i64 (c+a))<b.length) (chk (0<=(i64 (d+a))/\(i64 (d+a))<b.length) (chk (0<=(i64 (c+a))/\(i64 (c+a))<(((b.set ((i64 (d+a)):Int).toNat (⟨(nth b (i64 (c+a))).yf,(nth b (i64 (c+a))).ya,(nth b (i64 (c+a))).yb⟩:yh)).length:Nat):Int)) (wL e c d f g ((b.set ((i64 (d+a)):Int).toNat (⟨(nth b (i64 (c+a))).yf,(nth b (i64 (c+a))).ya,(nth b (i64 (c+a))).yb⟩:yh)).set ((i64 (c+a)):Int).toNat (⟨(nth b (i64 (d+a))).yf,(nth b (i64 (d+a))).ya,(nth b (i64 (d+a))).yb⟩:yh)) (i64 (a+1))))) else f b
def vJ(a:List yh)(b:Int)(c:Int)(d:Int)(zsC:yh->yh->Option Int):Option (List yh):=
 qI (fun(e:List yh)=>some e) fun f=>wL d c b f xR a 0
theorem gV{Z m f}(znW zwG){g d c t}(zsC){r}(h:vJ g d c t zsC=some r){Nx}(hz:Pz [row (vs m g.length f) 83 3 (g.flatMap wh)] Nx Z)(F:∀ args w,(callFunc znW args).run Tryz.prog w = .ok (.enter znW args) w)(G:∀ w:World,PZ [] w Z->∀(x0:yh) (x1:yh) (r:Int),zsC x0 x1=some r->Calls Tryz.prog znW (([.agg #[vi x0.yf,vi x0.ya,vi x0.yb],.agg #[vi x1.yf,vi x1.ya,vi x1.yb]]:List Value)++zwG).toArray w fun e w'=>e = .returned (vi r)/\Hp [] w w' [])(eO:Ho Nx [row (vs m g.length f) 83 3 (g.flatMap wh)]):
  Calls Tryz.prog 218 #[vs m g.length f,vi d,vi c,vi t,.func (.func znW) #[] (zwG).toArray] Nx fun e w'=>e = .returned (.tuple #[])/\(r.length=g.length)/\Hp (fps [row (vs m g.length f) 83 3 (g.flatMap wh)]) Nx w' [row (vs m r.length f) 83 3 (r.flatMap wh)]:=by
 unfold vJ at h
 refine Cy func218 U eO U<|B1n U<|jK1 h fun v z h=>Ok (fun n=>(v n=some r)/\(n.length=g.length)) (fun n=>[]) (fun n=>[row (vs m n.length f) 83 3 (n.flatMap wh)]) ?_ ?_
 ·refine WC.block<|H4 (fun o a b=>(wL t c d v o a b=some r)/\(a.length=g.length)) (fun o a b=>[(0,vs m a.length f),(1,vi d),(2,vi c),(3,vi t),(10,vi b)]) (fun o a b=>[row (vs m a.length f) 83 3 (a.flatMap wh)]) (fun o a b=>o) ⟨xR,g,0⟩ ⟨h,U⟩ .q (.cons .here .nil) ?_
  rintro (_|E) a b ⟨h,x⟩;·cases h
  rw[wL] at h
  refine WC.b<|B3n U<|Lj h (fun B h=>?_)<|fun B h=>?_
  ·refine Nn<|WC.b<|WC.block<|cK h fun q h=>cK h fun j h=>cK h fun p h=>Lu (fun i=>[21,23].contains i) []<|Lf 0 U q_m<|Lf 1 U q_m<|Lf 2 U q_m<|Lf 3 U uC<|Lf 4 U q_m<|Lf 5 U q_m<|Lf 6 U q_m<|Lf 7 U uC<|Lf 8 U q_m<|Lf 9 U q_m<|Lf 10 U q_m<|Lf 11 U uC<|N5 (fun w hw=>Hp.vr .here hw (by intro hz';have:=q;rw[hz'] at this;omega)) ?_
   rintro⟨s,rfl⟩
   let A:List Value:=[vi ((nth a (i64 (c+b))).yf),vi ((nth a (i64 (c+b))).ya),vi ((nth a (i64 (c+b))).yb)];let C:List Value:=[vi ((nth a (i64 (d+b))).yf),vi ((nth a (i64 (d+b))).ya),vi ((nth a (i64 (d+b))).yb)];refine Lf 12 U (w3 z3g q.1 q.2 wI)<|Lh 13 U (wn (cs:=(wh<|nth a<|i64 (c+b))) z6R<|vU .here<|wU (enc:=wh) (l:=a) (i:=i64 (c+b)) (sz:=3) q.1 q.2)<|Lf 14 U q_m<|Lf 15 U q_m<|Lf 16 U q_m<|Lf 17 U uC<|Lf 18 U (w3 z3g j.1 j.2 wI)<|Lh 19 U (wn (cs:=(wh<|nth a<|i64 (d+b))) z6R<|vU .here<|wU (enc:=wh) (l:=a) (i:=i64 (d+b)) (sz:=3) j.1 j.2)<|Lf 20 U (w3 z3g j.1 j.2 wI)<|WD.forced0 (i:=21) U (wB.of .nil) (g7 (vs:=A) (ds:=(a.set ((i64 (d+b)):Int).toNat (⟨(nth a<|i64 (c+b)).yf,(nth a<|i64 (c+b)).ya,(nth a<|i64 (c+b)).yb⟩:yh)).flatMap wh) zfs ry .here (mS (enc:=wh) (sz:=3) (k:=0) j.1 j.2)<|mR (enc:=wh) (l:=a) (sz:=3) (vs:=A) (y:=(⟨(nth a<|i64 (c+b)).yf,(nth a<|i64 (c+b)).ya,(nth a<|i64 (c+b)).yb⟩:yh)) (k:=0) j.1 j.2<|Nat.le_of_ble_eq_true U)<|N7 .here (u:=(vs (some ⟨s,0,none⟩) ((a.set ((i64 (d+b)):Int).toNat (⟨(nth a<|i64 (c+b)).yf,(nth a<|i64 (c+b)).ya,(nth a<|i64 (c+b)).yb⟩:yh)).length) f)) (qB (List.length_set).symm)<|N3 (i:=0) U (u:=(vs (some ⟨s,0,none⟩) ((a.set ((i64 (d+b)):Int).toNat (⟨(nth a<|i64 (c+b)).yf,(nth a<|i64 (c+b)).ya,(nth a<|i64 (c+b)).yb⟩:yh)).length) f)) (qB (List.length_set).symm)<|N3 (i:=20) U (u:=(vs (some ⟨s,0,none⟩) ((a.set ((i64 (d+b)):Int).toNat (⟨(nth a<|i64 (c+b)).yf,(nth a<|i64 (c+b)).ya,(nth a<|i64 (c+b)).yb⟩:yh)).length) f)) (qB (List.length_set).symm)<|Lf 22 U (w3 z3g p.1 p.2 wI)<|Nc (i:=23) U (g7 (vs:=C) (ds:=((a.set ((i64 (d+b)):Int).toNat (⟨(nth a<|i64 (c+b)).yf,(nth a<|i64 (c+b)).ya,(nth a<|i64 (c+b)).yb⟩:yh)).set ((i64 (c+b)):Int).toNat (⟨(nth a<|i64 (d+b)).yf,(nth a<|i64 (d+b)).ya,(nth a<|i64 (d+b)).yb⟩:yh)).flatMap wh) zfs ry .here (mS (enc:=wh) (sz:=3) (k:=0) p.1 p.2)<|mR (enc:=wh) (l:=a.set ((i64 (d+b)):Int).toNat (⟨(nth a<|i64 (c+b)).yf,(nth a<|i64 (c+b)).ya,(nth a<|i64 (c+b)).yb⟩:yh)) (sz:=3) (vs:=C) (y:=(⟨(nth a<|i64 (d+b)).yf,(nth a<|i64 (d+b)).ya,(nth a<|i64 (d+b)).yb⟩:yh)) (k:=0) p.1 p.2<|Nat.le_of_ble_eq_true U)<|N7 .here (u:=(vs (some ⟨s,0,none⟩) (((a.set ((i64 (d+b)):Int).toNat (⟨(nth a<|i64 (c+b)).yf,(nth a<|i64 (c+b)).ya,(nth a<|i64 (c+b)).yb⟩:yh)).set ((i64 (c+b)):Int).toNat (⟨(nth a<|i64 (d+b)).yf,(nth a<|i64 (d+b)).ya,(nth a<|i64 (d+b)).yb⟩:yh)).length) f)) (qB (List.length_set).symm) ?_
   exact N3 (i:=0) U (u:=(vs (some ⟨s,0,none⟩) (((a.set ((i64 (d+b)):Int).toNat (⟨(nth a<|i64 (c+b)).yf,(nth a<|i64 (c+b)).ya,(nth a<|i64 (c+b)).yb⟩:yh)).set ((i64 (c+b)):Int).toNat (⟨(nth a<|i64 (d+b)).yf,(nth a<|i64 (d+b)).ya,(nth a<|i64 (d+b)).yb⟩:yh)).length) f)) (qB (List.length_set).symm)<|N0<|Lt<|Lb<|D3q U<|WL.nil<|Nz ⟨E,(a.set ((i64 (d+b)):Int).toNat (⟨(nth a<|i64 (c+b)).yf,(nth a<|i64 (c+b)).ya,(nth a<|i64 (c+b)).yb⟩:yh)).set ((i64 (c+b)):Int).toNat (⟨(nth a<|i64 (d+b)).yf,(nth a<|i64 (d+b)).ya,(nth a<|i64 (d+b)).yb⟩:yh),i64 (b+1)⟩ ⟨h,(List.length_set).trans ((List.length_set).trans x)⟩ .q<|.cons .here .nil
  ·exact N1<|Lm<|Lm<|Lv<|Lo a ⟨h,x⟩ .nil<|.cons .here .nil
 ·rintro n ⟨h,D⟩
  replace h:=(z n).symm.trans h
  exact oJ h▸Nh results218 .nil fun w hw=>⟨mq,D,hw.sub (.cons .here .nil)⟩
def wY(eX:Int)(z7D:yh->yh->Option Int)(c:(List yh)->Int->Option (List yh)):Nat->(List yh)->Int->Int->Option (List yh)
 | 0,_,_,_=>none
 | e+1,d,a,b=>if decide (a≠b) then if decide (a>b) then(vJ d (i64 (eX-a)) eX b z7D).bind fun f=>wY eX z7D c e f (i64 (a-b)) b else(vJ d (i64 (eX-a)) (i64 ((i64 (eX+b))-a)) a z7D).bind fun g=>wY eX z7D c e g a (i64 (b-a)) else c d a
def jy(b:List yh)(c:Int)(eX:Int)(d:Int)(z7D:yh->yh->Option Int):Option (List yh):=
 sk (fun(e:List yh) (a:Int)=>(vJ e (i64 (eX-a)) eX a z7D).bind fun f=>some f) fun g=>wY eX z7D g xR b (i64 (eX-c)) (i64 (d-eX))
theorem oK{Z a b}(zfb zln){c m eX n}(z7D){r}(h:jy c m eX n z7D=some r){Nx}(hz:Pz [row (vs a c.length b) 83 3 (c.flatMap wh)] Nx Z)(o:∀ args w,(callFunc zfb args).run Tryz.prog w = .ok (.enter zfb args) w)(p:∀ w:World,PZ [] w Z->∀(x0:yh) (x1:yh) (r:Int),z7D x0 x1=some r->Calls Tryz.prog zfb (([.agg #[vi x0.yf,vi x0.ya,vi x0.yb],.agg #[vi x1.yf,vi x1.ya,vi x1.yb]]:List Value)++zln).toArray w fun e w'=>e = .returned (vi r)/\Hp [] w w' [])(eO:Ho Nx [row (vs a c.length b) 83 3 (c.flatMap wh)]):
  Calls Tryz.prog 203 #[vs a c.length b,vi m,vi eX,vi n,.func (.func zfb) #[] (zln).toArray] Nx fun e w'=>e = .returned (.tuple #[])/\(r.length=c.length)/\Hp (fps [row (vs a c.length b) 83 3 (c.flatMap wh)]) Nx w' [row (vs a r.length b) 83 3 (r.flatMap wh)]:=by
 unfold jy at h
 refine Cy func203 U eO U<|B4n U<|B4n U ?_
 obtain⟨s,C,h⟩:=jR h
 let A:Value:=(.func (.func zfb) #[] (zln).toArray);refine H6 (fun g k=>(s g k=some r)/\(g.length=c.length)) (fun g k=>[(0,vs a g.length b),(2,vi eX),(4,A),(10,vi k)]) (fun g k=>[row (vs a g.length b) 83 3 (g.flatMap wh)]) ?_ ?_
 ·refine WC.block<|H9 (fun l d f j=>(wY eX z7D s l d f j=some r)/\(d.length=c.length)) (fun l d f j=>[(0,vs a d.length b),(2,vi eX),(4,A),(10,vi f),(11,vi j)]) (fun l d f j=>[row (vs a d.length b) 83 3 (d.flatMap wh)]) (fun l d f j=>l) ⟨xR,c,i64 (eX-m),i64 (n-eX)⟩ ⟨h,U⟩ .q (.cons .here .nil) ?_
  rintro (_|t) d f j ⟨h,q⟩;·cases h
  rw[wY] at h
  refine WC.b<|B3n U<|Lj h (fun D h=>?_)<|fun D h=>?_
  ·refine Nn<|WC.block<|B3n U<|Lj h (fun E h=>?_)<|fun E h=>?_
   ·refine WC.b<|bK h fun v F h=>Ld<|La U<|La U<|La U<|La U<|La U<|La U<|La U<|Nb U (Ns call218) (.cons .here .nil) (cc hz (.cons .here .nil) fun w pz ho=>gV (znW:=zfb) (zwG:=zln) (zsC:=z7D) F pz o p ho) ?_
    rintro  x
    exact L9 (i:=0) U (u:=(vs a v.length b)) (qB x.symm)<|Q0n<|D4q U<|WL.nil<|Lt<|Nz ⟨t,v,i64 (f-j),j⟩ ⟨h,x.trans q⟩ .q<|.cons .here .nil
   ·refine WC.b<|bK h fun y G h=>Ld<|La U<|La U<|La U<|La U<|La U<|La U<|La U<|La U<|La U<|La U<|La U<|Nb U (Ns call218) (.cons .here .nil) (cc hz (.cons .here .nil) fun w pz ho=>gV (znW:=zfb) (zwG:=zln) (zsC:=z7D) G pz o p ho) ?_
    rintro  z
    exact L9 (i:=0) U (u:=(vs a y.length b)) (qB z.symm)<|Q0n<|D4q U<|WL.nil<|Lt<|Nz ⟨t,y,f,i64 (j-f)⟩ ⟨h,z.trans q⟩ .q<|.cons .here .nil
  ·exact N1<|Lm<|Lm<|Lv<|Lo ⟨d,f⟩ ⟨h,q⟩ .q<|.cons .here .nil
 ·rintro g k ⟨h,H⟩
  replace h:=(C g k).symm.trans h
  refine bK h fun J I h=>Ld<|La U<|La U<|La U<|La U<|La U<|La U<|La U<|Nb U (Ns call218) (.cons .here .nil) (cc hz (.cons .here .nil) fun w pz ho=>gV (znW:=zfb) (zwG:=zln) (zsC:=z7D) I pz o p ho) ?_
  rintro  B
  exact L9 (i:=0) U (u:=(vs a J.length b)) (qB B.symm)<|WL.nil<|oJ h▸Nh results203 .nil fun w hw=>⟨mq,B.trans H,hw.sub (.cons .here .nil)⟩
end Go.Proofs.YthjnhebofpebpaaGreat
