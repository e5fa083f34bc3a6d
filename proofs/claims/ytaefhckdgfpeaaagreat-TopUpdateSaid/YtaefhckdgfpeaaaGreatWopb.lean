/- A part of this claim's proof: models of functions, walks, plain laws. No conditions. -/
import Derived.Test.YtaefhckdgfpeaaaGreatWopa
set_option linter.all false
namespace Go.Proofs.YtaefhckdgfpeaaaGreat
open Go Go.RowKit Sep Tryz
set_option maxRecDepth 30000
set_option maxHeartbeats 4000000
def oE(a:zg)(c:List zg)(d:ze)(e:List (ze×Int)):Option Bool:=
 (pD c a.y6).bind fun b=>(mn a).bind fun f=>(if (decide (f=d))&&b.2 then(mn b.1).bind fun g=>some (decide ((ww e g 0)=0)) else some false).bind fun h=>some h
theorem XA(Z m s t n o g d p e j r)(h:oE d p e j=some r){Ek}(hz:Pz [wp g (ga wJ) vI j] Ek Z)(L:ZS Z 3 (rq mG) s t p)(M:ZC Z m [vs s p.length t])(N:ZC Z n [vi e.y6,vi e.fQ])(O:ZC Z o [.map (some g)])(iA:Ho Ek [wp g (ga wJ) vI j]):
  RF 128 #[.agg #[vi d.y6,vi d.fX,vi d.fQ],vq m,vq n,vq o] Ek (.bool r) [wp g (ga wJ) vI j] [wp g (ga wJ) vI j]:=by
 unfold oE at h
 refine Et func128 U iA U<|Lb<|Le (Lh 4 (wu (cs:=[vi d.y6,vi d.fX,vi d.fQ])) fun q _=>Q1n U<|Lb ?_)
 refine bK h fun c P h=>Le<|Lf 9 (w8 zfm U<|vx hz.pv M)<|Lf 10 (w7 jV)<|Lf 11 (Ei wm .here)<|Eg call129 hz (fun pz=>dz _ _ _ _ _ _ P pz L)<|Q2q U<|La U (Lh 6 (wn (cs:=[vi 0,vi 0,vi 0]) zgV) fun B _=>Ll (wl zfk .here)<|Q1n U<|Lb ?_)
 obtain⟨f,Q,h⟩:=z2 h
 obtain⟨S,I,h⟩:=z2 h
 let A:Value:=(.agg #[vi c.1.y6,vi c.1.fX,vi c.1.fQ]);let C:Value:=(.agg #[vi d.y6,vi d.fX,vi d.fQ]);let D:Value:=(.bool (decide (f=e)));let E:Value:=(.bool ((decide (f=e))&&c.2));let F:Value:=(.agg #[vi f.y6,vi f.fQ]);let G:Value:=(.agg #[vi e.y6,vi e.fQ]);let H:Value:=(vs s p.length t);refine Lv nc []<|Li 0 U (we z7e (wh .h1))<|L5 1 U (Eh call97) (cc hz .nil fun w pz ho=>tq _ _ _ Q pz )<|Li 2 U (we za3 (vy hz.pv N))<|Lg 3 U (dc (enc:=wJ) (a:=f) (b:=e) zHJ)<|Lg 4 U q_m<|L9 (fuel':=8) [(0,C),(1,vq m),(2,vq n),(3,vq o),(4,vp q),(5,.bool false),(9,H),(10,vp q),(11,vi d.y6),(12,.tuple #[A,.bool c.2]),(8,.tuple #[A,.bool c.2]),(13,A),(14,.bool c.2),(6,vp B),(7,.bool c.2),(15,C),(16,F),(17,G),(18,D),(19,D),(21,E)] (wR 15 (dn 7)) ?_<|fun J=>?_
 rotate_left
 ·rcases Bool.eq_false_or_eq_true (decide (f=e)) with hb' | hb'
  ·have u:=hb';clear hb'
   refine L2 (i:=19) U u<|Lg 5 U q_m<|Lg 6 U vH<|Lw .a3 ?_ J
   exact .t 19<|.r2 (zq<|Eq.symm u)<|zq<|qe u
  ·have v:=hb';clear hb'
   refine L2 (i:=19) U v<|Lo 5 U<|Lg 6 U vA<|Lw .a3 ?_ J
   exact .t 19<|.r2 (zq<|Eq.symm v)<|zq<|qd v
 refine Lg 7 U q_m<|L9 (fuel':=1) [(0,C),(1,vq m),(2,vq n),(3,vq o),(4,vp q),(5,.bool false),(9,H),(10,vp q),(11,vi d.y6),(12,.tuple #[A,.bool c.2]),(8,.tuple #[A,.bool c.2]),(13,A),(14,.bool c.2),(6,vp B),(7,.bool c.2),(15,C),(16,F),(17,G),(18,D),(19,D),(21,E),(22,E),(28,.bool S)] (wR 15 (dn 14)) ?_<|fun K=>?_
 rotate_left
 ·rcases Bool.eq_false_or_eq_true ((decide (f=e))&&c.2) with hb' | hb'
  ·have x:=hb';clear hb'
   have l:=qf I x
   obtain⟨T,R,l⟩:=z2 l
   replace l:=oJ l
   refine L2 (i:=22) U x<|Li 8 U (w8 zCs U<|vx hz.pv O)<|Li 9 U (we z7e (wh .here))<|L5 10 U (Eh call97) (cc hz .nil fun w pz ho=>tq _ _ _ R pz )<|Li 11 U (qL (k:=T) (dflt:=(0:Int)) znP underlying214 qp .h2)<|Lg 12 U uh<|Lg 13 U vH<|Lw .a3 ?_ K
   exact .t 21<|.r2 (zq<|Eq.symm x)<|zq l
  ·have y:=hb';clear hb'
   have z:=qg I y
   replace z:=oJ z
   refine L2 (i:=22) U y<|Lo 8 U<|Lo 9 U<|Lo 10 U<|Lo 11 U<|Lo 12 U<|Lg 13 U vA<|Lw .a3 ?_ K
   exact .t 21<|.r2 (zq<|Eq.symm y)<|zq z
 exact Lg 14 U q_z<|Eo (by kernel_rfl)<|Ld<|El<|oJ h▸Eb results128 (.tmp U .nil) (.cons .h2 .nil)
def vZ(b:List zg)(c:List zg)(d:ze)(e:List (ze×Int))(f:Option Unit):Nat->Int->Option Unit
 | 0,_=>none
 | h+1,a=>if decide (a<b.length) then chk (0<=a/\a<b.length) ((oE (⟨(nth b a).y6,(nth b a).fX,(nth b a).fQ⟩:zg) c d e).bind fun g=>if g then none else vZ b c d e f h (i64 (a+1))) else f
def kH(a:List zg)(b:List zg)(c:ze)(d:List (ze×Int)):Option Unit:=
 uo (some ()) fun e=>vZ a b c d e wr 0
theorem pj(Z i j k o p m n b d f g a r)(h:kH d f g a=some r){Ek}(hz:Pz [wp b (ga wJ) vI a] Ek Z)(s:ZS Z 3 (rq mG) i j d)(t:ZS Z 3 (rq mG) o p f)(u:ZC Z k [vs o f.length p])(v:ZC Z m [vi g.y6,vi g.fQ])(x:ZC Z n [.map (some b)])(iA:Ho Ek [wp b (ga wJ) vI a]):
  RF 137 #[vs i d.length j,.func (.func 128) #[] #[vq k,vq m,vq n]] Ek (vi (-1)) [wp b (ga wJ) vI a] [wp b (ga wJ) vI a]:=by
 unfold kH at h
 refine Nk func137 U iA U<|B1n U<|jK0 h fun q y h=>Nh (q=some r) ([]) ([wp b (ga wJ) vI a]) ?_ ?_
 ·refine B1q U<|Lf 7 (wB underlying84)<|Q1n U<|WC.block<|Ni (fun e c=>(vZ d f g a q e c=some r)) (fun e c=>[(0,vs i d.length j),(1,.func (.func 128) #[] #[vq k,vq m,vq n]),(7,vi (d.length:Int)),(8,vi c)]) (fun e c=>[wp b (ga wJ) vI a]) (fun e c=>e) ⟨wr,0⟩ h .q (.cons .here .nil) ?_
  rintro(_|E) c h;·cases h
  rw[vZ] at h
  refine B1n U<|Lb<|Lj h (fun z h=>?_)<|fun z h=>?_
  ·refine Ec<|Lb<|WC.block<|B2n U<|Lb<|cK h fun A h=>bK h fun F B h=>D3q U<|L0 (dd:=14) (Z:=Z) (Pr:=(rq mG)) zaL s A ?_
   rintro G H C I rfl
   refine Lf 15 (we z7e (vy hz.pv C))<|Lm 16 (wV (l:=[.tmp 15]) call128<|.cons U .nil) (.cons .here .nil) (cc hz (.cons .here .nil) fun w pz ho=>XA _ _ _ _ _ _ _ _ _ _ _ _ B pz t u v x ho)<|Q0n<|Lj h (fun D h=>?_)<|fun D h=>?_
   ·cases h
   ·exact Ep<|Lq<|Ld<|D2q U<|WL.nil<|Em ⟨E,i64 (c+1)⟩ h (Nat.lt_succ_self _) .q<|.cons .here .nil
  ·exact En<|Ln<|Ln<|Lu<|Lp () h .nil<|.cons .here .nil
 ·rintro  h
  replace h:=y.symm.trans h
  refine B1n U<|El ?_
  skip
  exact Lk results137 (.tmp U .nil)<|fun w hw=>⟨wx,hw.sub (.cons .here .nil)⟩
def kd(a:List zg)(b:List zg)(c:ze)(d:List (ze×Int)):Option Unit:=
 (kH a b c d).bind fun e=>some ()
theorem rm(Z f g i j k l m a c d e b r)(h:kd c d e b=some r){Ek}(hz:Pz [wp a (ga wJ) vI b] Ek Z)(n:ZS Z 3 (rq mG) f g c)(o:ZS Z 3 (rq mG) j k d)(p:ZC Z i [vs j d.length k])(q:ZC Z l [vi e.y6,vi e.fQ])(s:ZC Z m [.map (some a)])(iA:Ho Ek [wp a (ga wJ) vI b]):
  RF 127 #[vs f c.length g,.func (.func 128) #[] #[vq i,vq l,vq m]] Ek (.bool false) [wp a (ga wJ) vI b] [wp a (ga wJ) vI b]:=by
 unfold kd at h
 refine Nk func127 U iA U<|B1n U<|Lb<|bK h fun u t h=>D2q U<|Lm 7 (Eh call137) (.cons .here .nil) (cc hz (.cons .here .nil) fun w pz ho=>pj _ _ _ _ _ _ _ _ _ _ _ _ _ _ t pz n o p q s ho)<|Lf 8 tZ<|Q1n U<|El ?_
 skip
 exact Lk results127 (.tmp U .nil)<|fun w hw=>⟨wx,hw.sub (.cons .here .nil)⟩
def il(a:List zg)(b:ze)(c:List (ze×Int)):Option Unit:=
 (kd a a b c).bind fun d=>some ()
theorem V2(Z d e g i a c f b r)(h:il c f b=some r){Ek}(hz:Pz [wp a (ga wJ) vI b] Ek Z)(j:ZS Z 3 (rq mG) d e c)(k:ZC Z g [vi f.y6,vi f.fQ])(m:ZC Z i [.map (some a)])(iA:Ho Ek [wp a (ga wJ) vI b]):
  RF 126 #[vs d c.length e,vq g,vq i] Ek (.bool false) [wp a (ga wJ) vI b] [wp a (ga wJ) vI b]:=by
 unfold il at h
 refine Ey func126 U iA U<|Lb<|Le (Lh 3 (wu (cs:=[vs d c.length e])) fun o _=>Q1n U<|Lb ?_)
 refine bK h fun p n h=>Le<|Lf 5 (Ei zfm .here)<|Lf 6 (wO<|L6 (l:=[.tmp 3,.tmp 1,.tmp 2])<|.r3 U U U)<|Lm 7 (Eh call127) (.cons .h1 .nil) (kb hz (.cons .h1 .nil) (.cons .here .nil) fun w pz ho la=>rm _ _ _ _ _ _ _ _ _ _ _ _ _ _ n pz (j.mono<|zl) (j.mono<|zl) ((la _ (.head _) _).stb) (k.mono<|zl) (m.mono<|zl) ho)<|Q1n U<|El ?_
 skip
 exact Lk results126 (.tmp U .nil)<|fun w hw=>⟨wx,hw.sub (.cons .here .nil)⟩
def vP(b:List (List zg))(c:ze)(d:List (ze×Int))(e:Option Unit):Nat->Int->Option Unit
 | 0,_=>none
 | f+1,a=>if decide (a<b.length) then chk (0<=a/\a<b.length) ((il (nth b a) c d).bind fun g=>vP b c d e f (i64 (a+1))) else e
def ke(a:List (List zg))(b:ze)(c:List (ze×Int)):Option Unit:=
 uo (some ()) fun d=>vP a b c d wr 0
theorem rn(Z g i j k b d f a r)(h:ke d f a=some r){Ek}(hz:Pz [wp b (ga wJ) vI a] Ek Z)(n:ZS Z 1 (m8 Z) g i d)(o:ZC Z j [vi f.y6,vi f.fQ])(p:ZC Z k [.map (some b)])(iA:Ho Ek [wp b (ga wJ) vI a]):
  RF 154 #[vs g d.length i,.func (.func 126) #[] #[vq j,vq k]] Ek (vi (-1)) [wp b (ga wJ) vI a] [wp b (ga wJ) vI a]:=by
 unfold ke at h
 refine Nk func154 U iA U<|B1n U<|jK0 h fun m q h=>Nh (m=some r) ([]) ([wp b (ga wJ) vI a]) ?_ ?_
 ·refine B1q U<|Lf 7 (wB underlying85)<|Q1n U<|WC.block<|Ni (fun e c=>(vP d f a m e c=some r)) (fun e c=>[(0,vs g d.length i),(1,.func (.func 126) #[] #[vq j,vq k]),(7,vi (d.length:Int)),(8,vi c)]) (fun e c=>[wp b (ga wJ) vI a]) (fun e c=>e) ⟨wr,0⟩ h .q (.cons .here .nil) ?_
  rintro(_|y) c h;·cases h
  rw[vP] at h
  refine B1n U<|Lb<|Lj h (fun s h=>?_)<|fun s h=>?_
  ·refine Ec<|Lb<|WC.block<|B2n U<|Lb<|cK h fun t h=>bK h fun z u h=>D3q U<|L0 (dd:=14) (Z:=Z) (Pr:=(m8 Z)) zgU n t ?_
   rintro A B v C ⟨D,E,rfl,x⟩
   refine Lf 15 (w8 zfm U<|vx hz.pv v)<|Lm 16 (wV (l:=[.tmp 15]) call126<|.cons U .nil) (.cons .here .nil) (cc hz (.cons .here .nil) fun w pz ho=>V2 _ _ _ _ _ _ _ _ _ _ u pz x o p ho)<|Q0n<|Er (fun h'=>(by cases h'))<|fun h'=>?_
   clear h'
   exact Ep<|Lq<|Ld<|D2q U<|WL.nil<|Em ⟨y,i64 (c+1)⟩ h (Nat.lt_succ_self _) .q<|.cons .here .nil
  ·exact En<|Ln<|Ln<|Lu<|Lp () h .nil<|.cons .here .nil
 ·rintro  h
  replace h:=q.symm.trans h
  refine B1n U<|El ?_
  skip
  exact Lk results154 (.tmp U .nil)<|fun w hw=>⟨wx,hw.sub (.cons .here .nil)⟩
def jw(a:List (List zg))(b:ze)(c:List (ze×Int)):Option Unit:=
 (ke a b c).bind fun d=>some ()
theorem sq(Z e f g i a c d b r)(h:jw c d b=some r){Ek}(hz:Pz [wp a (ga wJ) vI b] Ek Z)(j:ZS Z 1 (m8 Z) e f c)(k:ZC Z g [vi d.y6,vi d.fQ])(l:ZC Z i [.map (some a)])(iA:Ho Ek [wp a (ga wJ) vI b]):
  RF 94 #[vs e c.length f,.func (.func 126) #[] #[vq g,vq i]] Ek (.bool false) [wp a (ga wJ) vI b] [wp a (ga wJ) vI b]:=by
 unfold jw at h
 refine Nk func94 U iA U<|B1n U<|Lb<|bK h fun n m h=>D2q U<|Lm 7 (Eh call154) (.cons .here .nil) (cc hz (.cons .here .nil) fun w pz ho=>rn _ _ _ _ _ _ _ _ _ _ m pz j k l ho)<|Lf 8 tZ<|Q1n U<|El ?_
 skip
 exact Lk results94 (.tmp U .nil)<|fun w hw=>⟨wx,hw.sub (.cons .here .nil)⟩
def eG(l:List ze)(i j:Int):Option (List ze):=chk ((0<=i/\i<=j/\j<=l.length)/\l.length*16<=140737488355328) (some (l.take i.toNat++l.drop j.toNat))
theorem V3(Z ao cap l i j r){Ek}(hz:Pz [row (vs ao l.length cap) 208 2 (l.flatMap wJ)] Ek Z)(h:eG l i j=some r)(iA:Ho Ek [row (vs ao l.length cap) 208 2 (l.flatMap wJ)]):
  Calls Tryz.prog 130 #[.slice ao l.length cap,.int .i64 i,.int .i64 j] Ek fun e w'=>∃ Bd:Option Addr,∃ zy:Nat,e = .returned (vs Bd r.length zy)/\True/\Hp (fps [row (vs ao l.length cap) 208 2 (l.flatMap wJ)]) Ek w' [row (vs Bd r.length zy) 208 2 (r.flatMap wJ)]:=by
 obtain⟨⟨c1,c2⟩,h⟩:=wa h
 obtain rfl:=oJ h
 clear h
 refine Ey func130 U iA U<|B1n U<|Lb<|Le<|La U<|La U<|La U<|La U<|Lf 12 (wB underlying204) (Es (fun w h=>h.rowShape .here) fun hs=>?_)
 obtain⟨Be,BW,hs3,_⟩:=hs
 refine Lf 13 (Fx zcI U U U U (by omega) (by omega) (by omega) (by omega))<|Q0n<|Lb<|B3n U<|Er (fun hb=>?_)<|fun hb=>?_
 ·have e:i=j:=by simpa using hb
  refine B2n U<|El<|L4<|Lk results130 (.tmp U .nil)<|fun w hw=>?_
  have e2:l.take i.toNat++l.drop j.toNat=l:=by subst e;exact List.take_append_drop _ _
  rw[e2];exact⟨ao,cap,wx,trivial,hw.sub (.cons .here .nil)⟩
 ·have uQ:i<j:=by
   have:i≠j:=by simpa using hb
   omega
  clear hb
  refine Ec<|B1q U<|Lf 19 (wB underlying204)<|Q1n U<|Lb<|Dt (fun w hw=>Hp.vr .here hw (by omega)) ?_
  rintro⟨b,rfl⟩
  have nj:(l.take i.toNat++l.drop j.toNat).length=i.toNat+(l.length-j.toNat):=by rw[List.length_append,List.length_take,List.length_drop];omega
  refine Lv (fun i=>[6].contains i) []<|Lg 0 U q_m<|Lg 1 U q_m<|Lg 2 U (iZ (lo:=0) (hi:=i.toNat) (lv:=none) (hv:=some (vi i)) zcI U (fun _ _ _=>U) (fun a w h=>by rw[Option.map_some,h.eval U]) U (by show i=_;omega) (by omega) (by omega) (by simp))<|Ny (i:=22) U (u:=.slice (some ⟨b,0,none⟩) i.toNat cap) (by split <;> simp[Addr.add])<|Lg 3 U q_m<|Lg 4 U q_m<|Lg 5 U (iZ (lo:=j.toNat) (hi:=l.length) (lv:=some (vi j)) (hv:=none) zcI U (fun a w h=>by rw[Option.map_some,h.eval U]) (fun _ _ _=>U) (by show j=_;omega) U (by omega) (by omega)<|fun _=>BW) (WD.old (i:=6) (dd:=26) U (by kernel_rfl) U (fun _=>wS.of .nil) (KK (i:=i.toNat) (j:=j.toNat) (m:=l.length) (cs:=l.flatMap wJ) zcI U U (fun hk=>if_neg (by omega)) .here (by omega) (by omega) (vm nv _) (by omega)) fun tl _=>Lg 7 U q_z<|Eo (by kernel_rfl)<|Ld<|B2q U<|Lf 29 (wB underlying204)<|La U<|Lf 31 (iZ (lo:=i.toNat+(l.length-j.toNat)) (hi:=l.length) (lv:=some (vi ((i.toNat+(l.length-j.toNat):Nat):Int))) (hv:=some (vi (l.length:Int))) zcI U (fun a w h=>by rw[Option.map_some,h.eval U]) (fun a w h=>by rw[Option.map_some,h.eval U]) U U (by omega) (by omega) (by simp))<|Ll (JQ (i:=i.toNat+(l.length-j.toNat)) zcI zCr U U (by omega) (Me (enc:=wJ) (sz:=2) (z0:=((⟨0,0⟩:ze):ze)) (fun _=>U) (by decide) U nv) .here U)<|Q0n<|B2n U<|El<|Lk results130 (.tmp U .nil)<|fun w hw=>?_)
  rw[nj]
  refine⟨some ⟨b,0,none⟩,cap,wx,trivial,?_⟩
  have h5:=Hp.rowShort (m:=l.length) (i:=i.toNat+(l.length-j.toNat)) (R:=[]) .here (by omega) hw
  have e1:(l.flatMap wJ).take (i.toNat*2)=(l.take i.toNat).flatMap wJ:=YM (enc:=wJ) (sz:=2) (fun _=>U) l i.toNat (by omega)
  have e2:(l.flatMap wJ).drop (j.toNat*2)=(l.drop j.toNat).flatMap wJ:=YL (enc:=wJ) (sz:=2) (fun _=>U) l j.toNat (by omega)
  have e3:((l.take i.toNat++l.drop j.toNat).flatMap wJ).length=(i.toNat+(l.length-j.toNat))*2:=by rw[tL (sz:=2) (fun _=>U),nj]
  rw[e1,e2,<- List.flatMap_append,<- e3,List.take_left,List.take_left] at h5
  exact h5.sub<|.cons .here .nil
def sX(a:List ze)(c:List (List zg))(d:List (ze×Int))(b:List ze)(e:(List ze)->Option (List ze)):Nat->Option (List ze)
 | 0=>none
 | g+1=>if decide (0<(a.length:Int)) then chk ((0:Int)<=0/\0<(a.length:Int)) ((jw c (⟨(nth a 0).y6,(nth a 0).fQ⟩:ze) d).bind fun h=>chk ((((b++([(⟨(nth a 0).y6,(nth a 0).fQ⟩:ze)]:List ze)).length:Nat):Int)*16<=140737488355328/\(((b++([(⟨(nth a 0).y6,(nth a 0).fQ⟩:ze)]:List ze)).length:Nat):Int)<=4611686018427387904) ((eG a 0 1).bind fun f=>e f)) else none
def uB(d:List (List zg))(e:(List ze)->Option (List ze)):Nat->(List ze)->(List ze)->(List (ze×Int))->Option (List ze)
 | 0,_,_,_=>none
 | f+1,a,b,c=>if decide ((a.length:Int)>0) then vC (fun(g:List ze)=>uB d e f g (b++([(⟨(nth a 0).y6,(nth a 0).fQ⟩:ze)]:List ze)) (wU c (⟨(nth a 0).y6,(nth a 0).fQ⟩:ze) (i64 ((ww c (⟨(nth a 0).y6,(nth a 0).fQ⟩:ze) 0)+1)))) fun h=>sX a d c b h wr else e b
def oY(a:List (List zg)):Option (List ze):=
 (cz a).bind fun b=>vC (fun(c:List ze)=>some c) fun d=>uB a d wr b ([]:List ze) ([]:List (ze×Int))
theorem Yn(Z I J q r)(h:oY q=some r){Ek}(hz:PZ [] Ek Z)(K:ZS Z 1 (m8 Z) I J q):
  Calls Tryz.prog 82 #[vs I q.length J] Ek fun e w'=>∃ L:Option Addr,∃ M:Nat,e = .returned (.tuple #[vs L r.length M,vi 0])/\True/\Hp [] Ek w' [row (vs L r.length M) 208 2 (r.flatMap wJ)]:=by
 unfold oY at h
 refine L3 func82 U U<|B2n U<|Df<|Lb<|bK h fun ai Q h=>D1q U<|L7 (dd:=11) U (Eh call125) .nil (cc hz .nil fun w pz ho=>VP _ _ _ _ _ Q pz K) ?_
 rintro R S _
 refine Q1n U<|Lb<|Le (Lh 12 (jK (ga wJ)<|Value.int .i64) fun o _=>Lh 5 (wn (cs:=[.map none]) z1dY) fun s _=>Ll (wl z1dZ .here)<|Q0n<|B1n U<|Lb<|Dk<|Ld ?_)
 refine jK1 h fun N T h=>Nf (fun f t u=>(N f=some r)) (fun f t u=>[(6,vs t f.length u)]) (fun f t u=>[row (vs t f.length u) 208 2 (f.flatMap wJ)]) ?_ ?_
 ·let C:Value:=(vs I q.length J);refine WC.block<|WC.nilRow 208 2<|Hb (fun F a b c p g m n=>(uB q N F a b c=some r)) (fun F a b c p g m n=>[(0,C),(4,vs p a.length g),(5,vp s),(6,vs m b.length n)]) (fun F a b c p g m n=>[row (vs p a.length g) 208 2 (a.flatMap wJ),row (vs m b.length n) 208 2 (b.flatMap wJ),stb s 214 [(.map<|some o)],wp o (ga wJ) vI c]) (fun F a b c p g m n=>F) ⟨wr,ai,([]:List ze),([]:List (ze×Int)),R,S,none,0⟩ h .q (.s4 .h3 .here .here .here) ?_
  rintro(_|aj) a b c p g m n h;·cases h
  rw[uB] at h
  refine Lb<|B1q U<|Lf 14 (wB underlying204)<|Q1n U<|Lj h (fun V h=>?_)<|fun V h=>?_
  ·refine Ec ?_
   obtain⟨O,W,h⟩:=wE h
   let A:=(i64 ((ww c (⟨(nth a 0).y6,(nth a 0).fQ⟩:ze) 0)+1));refine H1 (fun d x y z B=>(O d=some r)) (fun d x y z B=>[(0,C),(4,vs x d.length y),(5,vp s),(6,vs z ((b++([(⟨(nth a 0).y6,(nth a 0).fQ⟩:ze)]:List ze)).length) B)]) (fun d x y z B=>[row (vs x d.length y) 208 2 (d.flatMap wJ),row (vs z ((b++([(⟨(nth a 0).y6,(nth a 0).fQ⟩:ze)]:List ze)).length) B) 208 2 ((b++([(⟨(nth a 0).y6,(nth a 0).fQ⟩:ze)]:List ze)).flatMap wJ),stb s 214 [(.map<|some o)],wp o (ga wJ) vI (wU c (⟨(nth a 0).y6,(nth a 0).fQ⟩:ze) A)]) ?_ ?_
   ·let D:Value:=(vs p a.length g);let E:Value:=(vs m b.length n);refine WC.block<|Lb<|B1q U<|Lf 17 (wB underlying204)<|Q1n U<|WC.block<|N2 (fun G=>(sX a q c b O G=some r)) (fun G=>[(0,C),(4,D),(5,vp s),(6,E),(16,D),(17,vi (a.length:Int)),(18,vi 0)]) (fun G=>[row D 208 2 (a.flatMap wJ),row E 208 2 (b.flatMap wJ),stb s 214 [(.map<|some o)],wp o (ga wJ) vI c]) (fun G=>G) wr h .q .a4 ?_
    rintro(_|ak) h;·cases h
    rw[sX] at h
    refine B1n U<|Lb<|Lj h (fun X h=>?_)<|fun X h=>?_
    ·refine Ec<|Lb<|WC.block<|Lb<|cK h fun H h=>D1q U<|Es (fun w hw=>Hp.vr .here hw (by intro nd;have:=H;rw[nd] at this;omega)) ?_
     rintro⟨Y,rfl⟩
     refine Lf 21 (wL zcI H.1 H.2 vB)<|Lf 22 (wX (cs:=(wJ<|nth a 0)) za3<|gV .here<|qm (enc:=wJ) (l:=a) (i:=0) (sz:=2) (fun _=>U) H.1 H.2) (Lh 8 (wn (cs:=[vi 0,vi 0]) zCr) fun al _=>La U<|Ll (wl zHI .here)<|Q0n<|Lb ?_)
     refine bK h fun am aa h=>D1q U<|Lf 24 (wO<|L6 (l:=[.tmp 8,.tmp 5])<|.r2 U U)<|Lm 25 (Eh call94) (.cons .h4 .nil) (kb hz (.cons .h4 .nil) (.s2 .here .h2) fun w pz ho la=>sq _ _ _ _ _ _ _ _ _ _ aa pz ((K.mono<|zl).weak (fun _ _ h=>qY zl h)) ((la _ (.head _) _).stb) ((la _ (.tail _<|.head _) _).stb) ho)<|Lf 26 th<|Q1n U<|B1n U<|Er (fun h'=>?_)<|fun h'=>(by cases h')
     clear h'
     refine Lb<|Lv (fun i=>[4,6].contains i) [WN o (ga wJ) vI (⟨(nth a 0).y6,(nth a 0).fQ⟩:ze) (0:Int) (ww c (⟨(nth a 0).y6,(nth a 0).fQ⟩:ze) 0)]<|Li 0 U (Ei zCs .h4)<|Li 1 U (we za3 (wh .h1))<|Na 2 U (wS.wk (.cons .here .nil)<|.any U (fun _ h=>pt h) .nil) (Qc (k:=(⟨(nth a 0).y6,(nth a 0).fQ⟩:ze)) (dflt:=(0:Int)) znP underlying214 qp U U U .here)<|Lg 3 U fb<|Dr (i:=4) (dd:=32) U (by kernel_rfl) U U U U (KI (k:=(⟨(nth a 0).y6,(nth a 0).fQ⟩:ze)) (dflt:=(0:Int)) znP underlying214 qp U U U .here) (fun _=>(wS.wk (.cons .here .nil)<|.any U (fun _ h=>Gs h) .nil)) ?_
     rintro an _
     refine Lg 5 U vF<|Nb (i:=6) U (by kernel_rfl) (by kernel_rfl) (QC (k:=(⟨(nth a 0).y6,(nth a 0).fQ⟩:ze)) (v:=i64 ((ww c (⟨(nth a 0).y6,(nth a 0).fQ⟩:ze) 0)+1)) U U U U .here)<|Eo (by kernel_rfl)<|Ld<|Lb<|cK h fun ab h=>D1q U<|Lf 35 (we za3 (wh .h1)) (Lh 36 (wD (cs:=([(⟨(nth a 0).y6,(nth a 0).fQ⟩:ze)]:List ze).flatMap wJ) zcI (Lt (l:=[.tmp 35]) (.cons U .nil) [0]) (fun _=>by kernel_rfl) (by unfold maxLen;omega)) fun ap _=>WL.fA 37 (vb (enc:=wJ) (l1:=b) (l2:=([(⟨(nth a 0).y6,(nth a 0).fQ⟩:ze)]:List ze)) zcI .h4 (fun _=>U) (wY .here) (vm nv _) ab) ?_)
     rintro⟨ad,ae⟩ _
     refine Q1n U<|Lb<|bK h fun P af h=>D3q U<|Lf 41 fb<|L7 (dd:=42) U (Eh call130) (.cons .h4 .nil) (cc hz (.cons .h4 .nil) fun w pz ho=>V3 (Z:=_) (ao:=(some ⟨Y,0,none⟩)) (cap:=g) (l:=a) (i:=0) (j:=1) (r:=P) pz  af ho) ?_
     rintro ag ah _
     exact Q1n U<|En<|Hc U<|Ln<|Ln<|Hc U<|Ln<|Lu<|Lp ⟨P,ag,ah,ad,ae⟩ h .q<|.s4 .here .here .h3 .h1
    ·cases h
   ·rintro d x y z B h
    replace h:=(W d).symm.trans h
    exact Em ⟨aj,d,b++([(⟨(nth a 0).y6,(nth a 0).fQ⟩:ze)]:List ze),wU c (⟨(nth a 0).y6,(nth a 0).fQ⟩:ze) A,x,y,z,B⟩ h (Nat.lt_succ_self _) .q<|.a4
  ·exact En<|Ln<|Ln<|Lu<|Lp ⟨b,m,n⟩ h (.cons U .nil)<|.cons .h1 .nil
 ·rintro f t u h
  replace h:=(T f).symm.trans h
  exact B3n U<|El<|C5<|oJ h▸Lk results82 (.tmp U<|.tmp U .nil) fun w hw=>⟨t,u,qq,trivial,hw.sub (.cons .here .nil)⟩
def uC(b:List ze)(d:(List zt)->Option (List zt)):Nat->(List zt)->Int->Option (List zt)
 | 0,_,_=>none
 | e+1,c,a=>if decide (a<b.length) then chk (0<=a/\a<b.length) (chk ((((c++([({(nth b a) with yv:=0,fT:=0}:zt)]:List zt)).length:Nat):Int)*32<=140737488355328/\(((c++([({(nth b a) with yv:=0,fT:=0}:zt)]:List zt)).length:Nat):Int)<=4611686018427387904) (uC b d e (c++([({(nth b a) with yv:=0,fT:=0}:zt)]:List zt)) (i64 (a+1)))) else d c
def bp(c:ye)(d:Int)(a:List (List zg)):Option (List zt):=
 (tn c d a).bind fun b=>if !b then none else(oY a).bind fun e=>vC (fun(f:List zt)=>some f) fun g=>uC e g wr ([]:List zt) 0
theorem QF(Z p q s t u x y z B C D E F G H I K L a P J r)(h:bp a P J=some r){Ek}(hz:PZ [] Ek Z)(R:ZS Z 4 (u5 Z) p q a.fM)(S:ZS Z 4 (fc Z) s t a.y9)(T:ZS Z 4 (rq ml) u x a.fS)(V:ZS Z 4 (rq m7) y z a.fK)(W:ZS Z 7 (fa Z) B C a.ya)(X:ZS Z 5 (rq mg) D E a.yc)(Y:ZS Z 3 (fe Z) F G a.fU)(aa:ZS Z 4 (rq j5) H I a.y8)(M:ZS Z 1 (m8 Z) K L J):
  Calls Tryz.prog 40 #[.agg #[vs p a.fM.length q,vs s a.y9.length t,vs u a.fS.length x,vs y a.fK.length z,vs B a.ya.length C,vs D a.yc.length E,vs F a.fU.length G,vs H a.y8.length I],vi P,vs K J.length L] Ek fun e w'=>∃ N:Option Addr,∃ O:Nat,e = .returned (.tuple #[vs N r.length O,vi 0])/\True/\Hp [] Ek w' [row (vs N r.length O) 152 4 (r.flatMap kG)]:=by
 unfold bp at h
 refine Ng func40 U U<|Lb<|Le (Lh 3 (wu (cs:=[vs p a.fM.length q,vs s a.y9.length t,vs u a.fS.length x,vs y a.fK.length z,vs B a.ya.length C,vs D a.yc.length E,vs F a.fU.length G,vs H a.y8.length I])) fun an _=>Q2n U<|Lb<|Lb ?_)
 refine bK h fun ao ab h=>Le<|Lf 13 (we z5x (wh .here))<|Q2q U<|Eg call46 hz (fun pz=>ii _ _ _ _ _ _ _ _ _ _ _ _ _ _ _ _ _ _ _ _ _ _ _ ab pz R S T V W X Y aa M)<|Q1n U<|Lj h (fun ad h=>?_)<|fun ad h=>?_
 ·cases h
 ·refine Ec<|Lb<|bK h fun c ae h=>D1q U<|L7 (dd:=20) U (Eh call82) .nil (cc hz .nil fun w pz ho=>Yn _ _ _ _ _ ae pz M) ?_
  rintro af ag _
  refine Q5n U<|B1n U<|jK1 h fun Q ah h=>Nf (fun f k m=>(Q f=some r)) (fun f k m=>[(9,vi 0),(10,vs k f.length m)]) (fun f k m=>[row (vs k f.length m) 152 4 (f.flatMap kG)]) ?_ ?_
  ·let A:Value:=(vs af c.length ag);refine B1q U<|Lf 24 (wB underlying204)<|Q1n U<|WC.block<|WC.nilRow 152 4<|E6 (fun n d b g j=>(uC c Q n d b=some r)) (fun n d b g j=>[(9,vi 0),(10,vs g d.length j),(23,A),(24,vi (c.length:Int)),(25,vi b)]) (fun n d b g j=>[row (vs g d.length j) 152 4 (d.flatMap kG),row A 208 2 (c.flatMap wJ)]) (fun n d b g j=>n) ⟨wr,([]:List zt),0,none,0⟩ h .q .a2 ?_
   rintro(_|am) d b g j h;·cases h
   rw[uC] at h
   refine B1n U<|Lb<|Lj h (fun ai h=>?_)<|fun ai h=>?_
   ·refine Ec<|Lb<|WC.block<|Lb<|cK h fun o h=>Le<|Es (fun w hw=>Hp.vr .h1 hw (by intro nd;have:=o;rw[nd] at this;omega)) ?_
    rintro⟨ap,rfl⟩
    refine Lf 27 (wL zcI o.1 o.2 vB)<|Lf 28 (wX (cs:=(wJ<|nth c b)) za3<|gV .h1<|qm (enc:=wJ) (l:=c) (i:=b) (sz:=2) (fun _=>U) o.1 o.2) (Lh 12 (wn (cs:=[vi 0,vi 0]) zCr) fun aq _=>Ll (wl zHI .here)<|Q0n ?_)
    refine cK h fun aj h=>D1q U<|Lf 30 (w7 ct)<|Lf 31 (Ei wm .here)<|Lf 32 (w7 dj)<|Lf 33 (Ei wm .here)<|Lf 34 (wN (v:=(.agg #[(vi<|(nth c b).y6),(vi<|(nth c b).fQ),vi 0,vi 0])) (Lt (l:=[.tmp 31,.tmp 33]) (.r2 U U) [0,1]) (fun _=>by kernel_rfl)) (Lh 35 (wD (cs:=([({(nth c b) with yv:=0,fT:=0}:zt)]:List zt).flatMap kG) zgW (Lt (l:=[.tmp 34]) (.cons U .nil) [0]) (fun _=>by kernel_rfl) (by unfold maxLen;omega)) fun ar _=>WL.fA 36 (vb (enc:=kG) (l1:=d) (l2:=([({(nth c b) with yv:=0,fT:=0}:zt)]:List zt)) zgW .h2 (fun _=>U) (wY .here) (vm Xq _) aj) ?_)
    rintro⟨ak,al⟩ _
    exact La U<|WL.nil<|Lq<|Ld<|D2q U<|WL.nil<|Em ⟨am,d++([({(nth c b) with yv:=0,fT:=0}:zt)]:List zt),i64 (b+1),ak,al⟩ h (Nat.lt_succ_self _) .q<|.s2 .here .h2
   ·exact En<|Ln<|Ln<|Lu<|Lp ⟨d,g,j⟩ h .q<|.cons .here .nil
  ·rintro f k m h
   replace h:=(ah f).symm.trans h
   exact B4n U<|El<|oJ h▸Lk results40 (.tmp U<|.tmp U .nil) fun w hw=>⟨k,m,qq,trivial,hw.sub (.cons .here .nil)⟩
def sr(b:Int):Nat->Int->Option Unit
 | 0,_=>none
 | c+1,a=>if decide (a<=12800) then if decide (a=b) then some () else sr b c (i64 (a*2)) else none
def n3(a:Int):Option Unit:=
 sr a wr 100
theorem K7(Z c r)(h:n3 c=some r){Ek}(hz:PZ [] Ek Z):
  RC 85 #[vi c] Ek (.bool true) [] []:=by
 unfold n3 at h
 refine L3 func85 U U<|B1n U<|Lb<|B1n U<|WC.block<|Ni (fun b a=>(sr c b a=some r)) (fun b a=>[(0,vi c),(3,vi a)]) (fun b a=>[]) (fun b a=>b) ⟨wr,100⟩ h .q .nil ?_
 rintro(_|f) a h;·cases h
 rw[sr] at h
 refine Lb<|B2n U<|Lj h (fun d h=>?_)<|fun d h=>?_
 ·refine Ec<|Lb<|WC.block<|B3n U<|Lj h (fun e h=>?_)<|fun e h=>?_
  ·refine B1n U<|El<|Nc<|L4<|L4<|Nc<|L4 ?_
   skip
   exact Lk results85 (.tmp U .nil)<|fun w hw=>⟨wx,hw.sub .nil⟩
  ·exact Ep<|Lq<|Ld<|D3q U<|WL.nil<|Em ⟨f,i64 (a*2)⟩ h (Nat.lt_succ_self _) .q .nil
 ·cases h
def sb(a:yG):Option Bool:=
 (n3 a.yX).bind fun b=>some ((decide (a.yQ<1))||(decide (a.yQ>72)))
theorem XB(Z b c a r)(h:sb a=some r){Ek}(hz:PZ [] Ek Z)(f:ZS Z 3 (rq Jl) b c a.xd):
  RC 84 #[.agg #[.string a.yl,.string a.yu.yh,.string a.yu.yR,.string a.yu.yS,vi a.yX,vi a.yQ,vs b a.xd.length c]] Ek (.bool r) [] []:=by
 unfold sb at h
 refine L3 func84 U U<|Lb<|Le (Lh 1 (wu (cs:=[.string a.yl,.string a.yu.yh,.string a.yu.yR,.string a.yu.yS,vi a.yX,vi a.yQ,vs b a.xd.length c])) fun g _=>Q1n U<|Lb ?_)
 refine bK h fun i d h=>Le<|Lf 3 (w7 VK)<|Lf 4 (Ei wm .here)<|Eg call85 hz (K7 _ _ _ d)<|Lf 6 th<|La U<|Lf 8 (w7 pW)<|Lf 9 (Ei wm .here)<|Q3q U<|Lx false 3 12 (B:=(decide (a.yQ<1))||(decide (a.yQ>72))) (fun h=>(jB h).symm) (fun _ e=>?_) ?_
 ·exact Lf 13 (w7 pW)<|Lf 14 (Ei wm .here)<|Q2q U<|Ly (jC e) U .all
 exact Q1n U<|El<|oJ h▸Ea results84
def qC(b:List yG)(zfC:yG->Option Bool)(c:Option Unit):Nat->Int->Option Unit
 | 0,_=>none
 | d+1,a=>if decide (a<b.length) then chk (0<=a/\a<b.length) ((zfC (⟨(nth b a).yl,(⟨((nth b a).yu).yh,((nth b a).yu).yR,((nth b a).yu).yS⟩:yU),(nth b a).yX,(nth b a).yQ,(nth b a).xd⟩:yG)).bind fun e=>if e then none else qC b zfC c d (i64 (a+1))) else c
def gN(a:List yG)(zfC:yG->Option Bool):Option Unit:=
 uo (some ()) fun b=>qC a zfC b wr 0
theorem l7(Z d g zs1 zDf b zfC r)(h:gN b zfC=some r){Ek}(hz:PZ [] Ek Z)(j:ZS Z 7 (fa Z) d g b)(k:∀ args w,(callFunc zs1 args).run Tryz.prog w = .ok (.enter zs1 args) w)(m:∀ w:World,PZ [] w Z->∀(x0:yG) (nD:Option Addr) (nb:Nat) (r:Bool),ZS Z 3 (rq Jl) nD nb x0.xd->zfC x0=some r->Calls Tryz.prog zs1 (([.agg #[.string x0.yl,.string x0.yu.yh,.string x0.yu.yR,.string x0.yu.yS,vi x0.yX,vi x0.yQ,vs nD x0.xd.length nb]]:List Value)++zDf).toArray w fun e w'=>e = .returned (.bool r)/\Hp [] w w' []):
  RC 131 #[vs d b.length g,.func (.func zs1) #[] (zDf).toArray] Ek (vi (-1)) [] []:=by
 unfold gN at h
 refine Lz func131 U U<|B1n U<|jK0 h fun i n h=>Nh (i=some r) ([]) ([]) ?_ ?_
 ·refine B1q U<|Lf 7 (wB underlying75)<|Q1n U<|WC.block<|Ni (fun c a=>(qC b zfC i c a=some r)) (fun c a=>[(0,vs d b.length g),(1,.func (.func zs1) #[] (zDf).toArray),(7,vi (b.length:Int)),(8,vi a)]) (fun c a=>[]) (fun c a=>c) ⟨wr,0⟩ h .q .nil ?_
  rintro(_|y) a h;·cases h
  rw[qC] at h
  refine B1n U<|Lb<|Lj h (fun o h=>?_)<|fun o h=>?_
  ·refine Ec<|Lb<|WC.block<|B2n U<|Lb<|cK h fun p h=>bK h fun z q h=>D3q U<|L0 (dd:=14) (Z:=Z) (Pr:=(fa Z)) znO j p ?_
   rintro A B s C ⟨t,u,rfl,v⟩
   refine Lf 15 (we zNK (vy hz.pv s))<|Lm 16 (wV (l:=[.tmp 15]) (f:=zs1) (caps:=zDf) k<|.cons U .nil) .nil (fun w hw=>m w (hz.now hw) (⟨(nth b a).yl,(⟨((nth b a).yu).yh,((nth b a).yu).yR,((nth b a).yu).yS⟩:yU),(nth b a).yX,(nth b a).yQ,(nth b a).xd⟩:yG) t u z v q)<|Q0n<|Lj h (fun x h=>?_)<|fun x h=>?_
   ·cases h
   ·exact Ep<|Lq<|Ld<|D2q U<|WL.nil<|Em ⟨y,i64 (a+1)⟩ h (Nat.lt_succ_self _) .q .nil
  ·exact En<|Ln<|Ln<|Lu<|Lp () h .nil .nil
 ·rintro  h
  replace h:=n.symm.trans h
  refine B1n U<|El ?_
  skip
  exact Lk results131 (.tmp U .nil)<|fun w hw=>⟨wx,hw.sub .nil⟩
def g6(a:List yG)(zwn:yG->Option Bool):Option Unit:=
 (gN a zwn).bind fun b=>some ()
theorem o7(Z b c zwo zIF a zwn r)(h:g6 a zwn=some r){Ek}(hz:PZ [] Ek Z)(d:ZS Z 7 (fa Z) b c a)(f:∀ args w,(callFunc zwo args).run Tryz.prog w = .ok (.enter zwo args) w)(g:∀ w:World,PZ [] w Z->∀(x0:yG) (nD:Option Addr) (nb:Nat) (r:Bool),ZS Z 3 (rq Jl) nD nb x0.xd->zwn x0=some r->Calls Tryz.prog zwo (([.agg #[.string x0.yl,.string x0.yu.yh,.string x0.yu.yR,.string x0.yu.yS,vi x0.yX,vi x0.yQ,vs nD x0.xd.length nb]]:List Value)++zIF).toArray w fun e w'=>e = .returned (.bool r)/\Hp [] w w' []):
  RC 83 #[vs b a.length c,.func (.func zwo) #[] (zIF).toArray] Ek (.bool false) [] []:=by
 unfold g6 at h
 refine Lz func83 U U<|B1n U<|Lb<|bK h fun j i h=>D2q U<|Eg call131 hz (fun pz=>l7 _ _ _ (zs1:=zwo) (zDf:=zIF) _ (zfC:=zwn) _ i pz d f g)<|Lf 8 tZ<|Q1n U<|El ?_
 skip
 exact Lk results83 (.tmp U .nil)<|fun w hw=>⟨wx,hw.sub .nil⟩
def mI(a:zg)(b:ze):Option Bool:=
 (mn a).bind fun c=>some (decide (c=b))
theorem nF(Z e c d r)(h:mI c d=some r){Ek}(hz:PZ [] Ek Z)(f:ZC Z e [vi d.y6,vi d.fQ]):
  RC 175 #[.agg #[vi c.y6,vi c.fX,vi c.fQ],vq e] Ek (.bool r) [] []:=by
 unfold mI at h
 refine Lz func175 U U<|Lb<|Le (Lh 2 (wu (cs:=[vi c.y6,vi c.fX,vi c.fQ])) fun j _=>Q1n U<|Lb ?_)
 exact bK h fun i g h=>Lv nc []<|Li 0 U (we z7e (wh .here))<|L5 1 U (Eh call97) (cc hz .nil fun w pz ho=>tq _ _ _ g pz )<|Li 2 U (we za3 (vy hz.pv f))<|Lg 3 U (dc (enc:=wJ) (a:=i) (b:=d) zHJ)<|Lg 4 U q_z<|Eo (by kernel_rfl)<|Ld<|El<|oJ h▸Ea results175
def jY(b:List zg)(zwq:zg->Option Bool):Option Bool:=
 (vO b zwq).bind fun a=>some (decide (a>=0))
theorem sZ(Z b c zwr zIG a zwq r)(h:jY a zwq=some r){Ek}(hz:PZ [] Ek Z)(d:ZS Z 3 (rq mG) b c a)(f:∀ args w,(callFunc zwr args).run Tryz.prog w = .ok (.enter zwr args) w)(g:∀ w:World,PZ [] w Z->∀(x0:zg) (r:Bool),zwq x0=some r->Calls Tryz.prog zwr (([.agg #[vi x0.y6,vi x0.fX,vi x0.fQ]]:List Value)++zIG).toArray w fun e w'=>e = .returned (.bool r)/\Hp [] w w' []):
  RC 127 #[vs b a.length c,.func (.func zwr) #[] (zIG).toArray] Ek (.bool r) [] []:=by
 unfold jY at h
 exact Lz func127 U U<|B1n U<|Lb<|bK h fun j i h=>D2q U<|Eg call137 hz (fun pz=>j6 _ _ _ (zh3:=zwr) (znY:=zIG) _ (zcN:=zwq) _ i pz d f g)<|Q2n U<|El<|oJ h▸Ea results127
def fV(a:Int):Option z1:=
 some (⟨a,1⟩:z1)
theorem uZ(Z a r)(h:fV a=some r){Ek}(hz:PZ [] Ek Z):
  RC 133 #[vi a] Ek (.agg #[vi r.fN,vi r.fD]) [] []:=by
 unfold fV at h
 refine L3 func133 U U<|Lb<|Le (Lh 2 (wn (cs:=[vi 0,vi 0]) z20) fun b _=>Q0n<|B1q U<|Lf 4 (wN (v:=(.agg #[vi a,vi 1])) (Lt (l:=[.tmp 3,.const (vi 1)]) (.r2 U U) [0,1]) (fun _=>by kernel_rfl))<|Ll (wl z1t .here)<|Q0n<|El ?_)
 exact oJ h▸Eb results133 (.agg U zm U (wh .here) .nil) .nil
def o8(a:Int):Option Int:=
 if decide (a<0) then some (u64 ((u64 (i64 (0-(i64 (a+1)))))+1)) else some (u64 a)
theorem bJ(Z a r)(h:o8 a=some r){Ek}(hz:PZ [] Ek Z):
  RC 220 #[vi a] Ek (.int .u64 r) [] []:=by
 unfold o8 at h
 refine L3 func220 U U<|B1n U<|Lb<|B2n U<|Lj h (fun b h=>?_)<|fun b h=>?_
 ·exact B2q U<|Lf 7 (Kz U U)<|Lf 8 (vo underlying3 underlying24)<|Q2n U<|El<|L4<|oJ h▸Ea results220
 ·exact Ec<|B1q U<|Lf 11 (vo underlying3 underlying24)<|Q1n U<|El<|oJ h▸Ea results220
def ma(b:Int->Option Int):Nat->Int->Int->Option Int
 | 0,_,_=>none
 | d+1,c,a=>if decide (a≠0) then chk ((a:Int)≠0) (ma b d a (Int.tmod c a)) else b c
def ra(a:Int)(b:Int):Option Int:=
 vC (fun(c:Int)=>some c) fun d=>ma d wr a b
theorem dB(Z e f r)(h:ra e f=some r){Ek}(hz:PZ [] Ek Z):
  RC 219 #[.int .u64 e,.int .u64 f] Ek (.int .u64 r) [] []:=by
 unfold ra at h
 refine Lz func219 U U<|B1n U<|jK1 h fun g i h=>Nd (fun c=>(g c=some r)) (fun c=>[(0,.int .u64 c)]) (fun c=>[]) ?_ ?_
 ·refine WC.block<|E4 (fun d a b=>(ma g d a b=some r)) (fun d a b=>[(0,.int .u64 a),(1,.int .u64 b)]) (fun d a b=>[]) (fun d a b=>d) ⟨wr,e,f⟩ h .q .nil ?_
  rintro(_|l) a b h;·cases h
  rw[ma] at h
  refine Lb<|B2n U<|Lj h (fun j h=>?_)<|fun j h=>?_
  ·exact Ec<|WC.block<|cK h fun k h=>Lv nc []<|Lg 0 U q_m<|Lg 1 U q_m<|Lg 2 U q_m<|Lg 3 U (et k)<|Lg 4 U q_z<|Lg 5 U q_z<|Eo (by kernel_rfl)<|Lq<|Em ⟨l,b,Int.tmod a b⟩ h (Nat.lt_succ_self _) .q .nil
  ·exact En<|Ln<|Ln<|Lu<|Lp a h (.cons U .nil) .nil
 ·rintro c h
  replace h:=(i c).symm.trans h
  exact B2n U<|El<|oJ h▸Ea results219
def rb(e:Int)(b:Int):Option z1:=
 if decide (b=0) then none else(o8 e).bind fun c=>(o8 b).bind fun d=>(ra c d).bind fun a=>chk ((a:Int)≠0) (if (decide ((u64 (Int.tdiv c a))>1073741824))||(decide ((u64 (Int.tdiv d a))>1073741824)) then none else if (decide (e<0)) != (decide (b<0)) then none else some (⟨i64 (u64 (Int.tdiv c a)),i64 (u64 (Int.tdiv d a))⟩:z1))
theorem im(Z c d r)(h:rb c d=some r){Ek}(hz:PZ [] Ek Z):
  RC 214 #[vi c,vi d] Ek (.tuple #[.agg #[vi r.fN,vi r.fD],vi 0]) [] []:=by
 unfold rb at h
 refine Lz func214 U U<|Lb<|Le (Lh 4 (wn (cs:=[vi 0,vi 0]) z20) fun p _=>Q1n U<|Lb<|B2n U<|Lj h (fun g h=>?_)<|fun g h=>?_)
 ·cases h
 ·refine Ec<|Lb<|bK h fun e i h=>bK h fun f j h=>D1q U<|Eg call220 hz (bJ _ _ _ i)<|La U<|Eg call220 hz (bJ _ _ _ j)<|Q2n U<|Lb<|bK h fun a k h=>D2q U<|Eg call219 hz (dB _ _ _ _ k)<|Q1n U<|Lb<|cK h fun b h=>Lv nc []<|Lg 0 U q_m<|Lg 1 U q_m<|Lg 2 U (cM b)<|Lg 3 U q_m<|Lg 4 U q_m<|Lg 5 U (cM b)<|Lg 6 U q_z<|Lg 7 U q_z<|Eo (by kernel_rfl)<|Ld<|Lb<|Lb<|Le<|La U<|La U<|La U<|Lx false 2 28 (B:=(decide ((u64<|Int.tdiv e a)>1073741824))||(decide ((u64<|Int.tdiv f a)>1073741824))) (fun h=>(jB h).symm) (fun _ m=>?_) ?_
  ·exact Q3q U<|Ly (jC m) U .all
  refine Q0n<|Lj h (fun n h=>?_)<|fun n h=>?_
  ·cases h
  ·refine Ec<|B1q U<|Lf 34 (vo underlying24 underlying3)<|La U<|Lf 36 (vo underlying24 underlying3)<|Lf 37 (wN (v:=(.agg #[(vi<|i64<|u64<|Int.tdiv e a),(vi<|i64<|u64<|Int.tdiv f a)])) (Lt (l:=[.tmp 34,.tmp 36]) (.r2 U U) [0,1]) (fun _=>by kernel_rfl)) (Lh 9 (wn (cs:=[vi 0,vi 0]) z20) fun q _=>Ll (wl z1t .here)<|Q0n<|Lb<|Lb<|Le<|La U<|La U<|La U<|La U<|Lf 42 (MQ underlying4 U U)<|Q0n<|Lj h (fun o h=>?_)<|fun o h=>?_)
   ·cases h
   ·exact Ec<|B0q<|Lf 47 (we zm (wh .here))<|Ll (wl z1t .h1)<|Q1n U<|El<|oJ h▸Eb results214 (.agg U zm U (wh .here)<|.tmp U .nil) .nil
def ua(b:ye)(d:List (List zg))(e:List (yn×z1))(f:List (ze×Int))(g:Int)(a:Int):Option z1:=
 chk (0<=a/\a<b.ya.length) ((rb ((nth b.ya a).yQ) ((nth b.ya a).yX)).bind fun c=>some c)
theorem oF(Z g k l m n o p q s t u v x y z A B C D b c a f d e H I r)(h:ua a f d e H I=some r){Ek}(hz:Pz [wp b (ga qS) (ga wI) d,wp c (ga wJ) vI e] Ek Z)(M:ZS Z 4 (u5 Z) k l a.fM)(N:ZS Z 4 (fc Z) m n a.y9)(O:ZS Z 4 (rq ml) o p a.fS)(P:ZS Z 4 (rq m7) q s a.fK)(E:ZS Z 7 (fa Z) t u a.ya)(Q:ZS Z 5 (rq mg) v x a.yc)(R:ZS Z 3 (fe Z) y z a.fU)(S:ZS Z 4 (rq j5) A B a.y8)(T:ZS Z 1 (m8 Z) C D f)(F:ZC Z g [vs k a.fM.length l,vs m a.y9.length n,vs o a.fS.length p,vs q a.fK.length s,vs t a.ya.length u,vs v a.yc.length x,vs y a.fU.length z,vs A a.y8.length B,vs C f.length D,.map (some b),.map (some c),vi H])(iA:Ho Ek [wp b (ga qS) (ga wI) d,wp c (ga wJ) vI e]):
  RF 179 #[vq g,vi I] Ek (.agg #[vi r.fN,vi r.fD]) [wp b (ga qS) (ga wI) d,wp c (ga wJ) vI e] [wp b (ga qS) (ga wI) d,wp c (ga wJ) vI e]:=by
 unfold ua at h
 refine Nk func179 U iA U<|Lb<|Le (Lh 4 (wn (cs:=[vi 0,vi 0]) z20) fun V _=>Q0n<|Lb ?_)
 refine cK h fun G h=>bK h fun W J h=>Lv (fun i=>[23].contains i) []<|Lg 0 U q_m<|Lg 1 U wz<|Lg 2 U (w7 tM)<|Lg 3 U (w7 pU)<|Li 4 U (w8 zjX U<|wP hz.pv F)<|Lg 5 U q_m<|L8 (j:=6) (dd:=14) (by kernel_rfl) z2W z2X (Z:=Z) (Pr:=(fa Z)) znO E G ?_
 rintro X Y K aa ⟨ab,ad,rfl,ae⟩
 refine Lg 7 U (w7 pW)<|Li 8 U (w8 wm U<|wP hz.pv K)<|Lg 9 U q_m<|Lg 10 U wz<|Lg 11 U (w7 tM)<|Lg 12 U (w7 pU)<|Li 13 U (w8 zjX U<|wP hz.pv F)<|Lg 14 U q_m<|L8 (j:=15) (dd:=23) (by kernel_rfl) z2W z2X (Z:=Z) (Pr:=(fa Z)) znO E G ?_
 rintro af ag L ah ⟨ai,aj,rfl,ak⟩
 refine Lg 16 U (w7 VK)<|Li 17 U (w8 wm U<|wP hz.pv L)<|L5 18 U (Eh call214) (cc hz .nil fun w pz ho=>im _ _ _ _ J pz )<|Lg 19 U q_m<|Lg 20 U vF<|Lg 21 U vF (WD.new (i:=22) (dd:=5) U (by kernel_rfl) U (wn (cs:=[vi 0,vi 0]) z20) (fun h'=>absurd h' (by decide)) fun al _=>WD.forced0 (i:=23) U (by kernel_rfl) (wS.of .nil) (wl z1t .here)<|Lg 24 U q_z<|Eo (by kernel_rfl)<|Ld<|B0q<|Lf 29 (we zm (wh .here))<|Ll (wl z1t .h1)<|Q0n<|El ?_)
 exact oJ h▸Eb results179 (.agg U zm U (wh .here) .nil) (.s2 .h2 .h2)
def qP(a:z1):Option Bool:=
 (if (((decide (a.fD>=1))&&(decide (a.fD<=1073741824)))&&(decide (a.fN>=(-1073741824))))&&(decide (a.fN<=1073741824)) then(o8 a.fN).bind fun b=>(o8 a.fD).bind fun c=>(ra b c).bind fun d=>some (decide (d=1)) else some false).bind fun e=>some e
theorem je(Z a r)(h:qP a=some r){Ek}(hz:PZ [] Ek Z):
  RC 188 #[.agg #[vi a.fN,vi a.fD]] Ek (.bool r) [] []:=by
 unfold qP at h
 refine L3 func188 U U<|Lb<|Le (Lh 1 (wu (cs:=[vi a.fN,vi a.fD])) fun c _=>Q1n U<|Lb ?_)
 obtain⟨y,o,h⟩:=z2 h
 let D:Value:=(.bool ((decide (a.fD>=1))&&(decide (a.fD<=1073741824))));refine Lv nc []<|Lg 0 U (w7 ju)<|Li 1 U (Ei wm .here)<|Lg 2 U tZ<|Lg 3 U q_m<|L9 (fuel':=21) [(1,vp c),(2,.bool false),(6,(.bool<|decide (a.fD>=1))),(10,D)] (wR 29 (dn 8)) ?_<|fun p=>?_
 rotate_left
 ·rcases Bool.eq_false_or_eq_true (decide (a.fD>=1)) with hb' | hb'
  ·have d:=hb';clear hb'
   refine L2 (i:=6) U d<|Lg 4 U (w7 ju)<|Li 5 U (Ei wm .here)<|Lg 6 U (WA U U)<|Lg 7 U vH<|Lw (.cons .here .nil) ?_ p
   exact .r4 U U (zq<|Eq.symm d)<|zq<|qe d
  ·have e:=hb';clear hb'
   refine L2 (i:=6) U e<|Lo 4 U<|Lo 5 U<|Lo 6 U<|Lg 7 U vA<|Lw (.cons .here .nil) ?_ p
   exact .r4 U U (zq<|Eq.symm e)<|zq<|qd e
 let C:Value:=(.bool (((decide (a.fD>=1))&&(decide (a.fD<=1073741824)))&&(decide (a.fN>=(-1073741824)))));refine WD.d (bz 8 21) (by kernel_rfl)<|Lg 8 U q_m<|L9 (fuel':=16) [(1,vp c),(2,.bool false),(11,D),(15,C)] (wR 29 (dn 13)) ?_<|fun q=>?_
 rotate_left
 ·rcases Bool.eq_false_or_eq_true ((decide (a.fD>=1))&&(decide (a.fD<=1073741824))) with hb' | hb'
  ·have f:=hb';clear hb'
   refine L2 (i:=11) U f<|Lg 9 U (w7 jv)<|Li 10 U (Ei wm .here)<|Lg 11 U tZ<|Lg 12 U vH<|Lw (.cons .here .nil) ?_ q
   exact .r4 U U (zq<|Eq.symm f)<|zq<|qe f
  ·have g:=hb';clear hb'
   refine L2 (i:=11) U g<|Lo 9 U<|Lo 10 U<|Lo 11 U<|Lg 12 U vA<|Lw (.cons .here .nil) ?_ q
   exact .r4 U U (zq<|Eq.symm g)<|zq<|qd g
 let A:Value:=(.bool ((((decide (a.fD>=1))&&(decide (a.fD<=1073741824)))&&(decide (a.fN>=(-1073741824))))&&(decide (a.fN<=1073741824))));refine WD.d (bz 13 16) (by kernel_rfl)<|Lg 13 U q_m<|L9 (fuel':=11) [(1,vp c),(2,.bool false),(16,C),(20,A)] (wR 29 (dn 18)) ?_<|fun s=>?_
 rotate_left
 ·rcases Bool.eq_false_or_eq_true (((decide (a.fD>=1))&&(decide (a.fD<=1073741824)))&&(decide (a.fN>=(-1073741824)))) with hb' | hb'
  ·have j:=hb';clear hb'
   refine L2 (i:=16) U j<|Lg 14 U (w7 jv)<|Li 15 U (Ei wm .here)<|Lg 16 U (WA U U)<|Lg 17 U vH<|Lw (.cons .here .nil) ?_ s
   exact .r4 U U (zq<|Eq.symm j)<|zq<|qe j
  ·have k:=hb';clear hb'
   refine L2 (i:=16) U k<|Lo 14 U<|Lo 15 U<|Lo 16 U<|Lg 17 U vA<|Lw (.cons .here .nil) ?_ s
   exact .r4 U U (zq<|Eq.symm k)<|zq<|qd k
 refine WD.d (bz 18 11) (by kernel_rfl)<|Lg 18 U q_m<|L9 (fuel':=1) [(2,.bool false),(21,A),(30,.bool y)] (wR 29 (dn 28)) ?_<|fun t=>?_
 rotate_left
 ·rcases Bool.eq_false_or_eq_true ((((decide (a.fD>=1))&&(decide (a.fD<=1073741824)))&&(decide (a.fN>=(-1073741824))))&&(decide (a.fN<=1073741824))) with hb' | hb'
  ·have l:=hb';clear hb'
   have b:=qf o l
   obtain⟨z,u,b⟩:=z2 b
   obtain⟨B,v,b⟩:=z2 b
   obtain⟨E,x,b⟩:=z2 b
   replace b:=oJ b
   refine L2 (i:=21) U l<|Lg 19 U (w7 jv)<|Li 20 U (Ei wm .here)<|L5 21 U (Eh call220) (cc hz .nil fun w pz ho=>bJ _ _ _ u pz )<|Lg 22 U (w7 ju)<|Li 23 U (Ei wm .here)<|L5 24 U (Eh call220) (cc hz .nil fun w pz ho=>bJ _ _ _ v pz )<|L5 25 U (Eh call219) (cc hz .nil fun w pz ho=>dB _ _ _ _ x pz )<|Lg 26 U uh<|Lg 27 U vH<|Lw (.cons .here .nil) ?_ t
   exact .r3 U (zq<|Eq.symm l)<|zq b
  ·have m:=hb';clear hb'
   have n:=qg o m
   replace n:=oJ n
   refine L2 (i:=21) U m<|Lo 19 U<|Lo 20 U<|Lo 21 U<|Lo 22 U<|Lo 23 U<|Lo 24 U<|Lo 25 U<|Lo 26 U<|Lg 27 U vA<|Lw (.cons .here .nil) ?_ t
   exact .r3 U (zq<|Eq.symm m)<|zq n
 exact WD.d (bz 28 1) (by kernel_rfl)<|Lg 28 U q_z<|Eo (by kernel_rfl)<|Ld<|El<|oJ h▸Ea results188
def aR(a:z1)(b:z1):Option (Int×Int):=
 some (i64 (a.fN*b.fN),i64 (a.fD*b.fD))
theorem KQ(Z c d a b r)(h:aR a b=some r){Ek}(hz:PZ [] Ek Z)(e:ZC Z c [vi a.fN,vi a.fD])(f:ZC Z d [vi b.fN,vi b.fD]):
  RC 239 #[vq c,vq d] Ek (.tuple #[vi r.1,vi r.2]) [] []:=by
 unfold aR at h
 exact Lz func239 U U<|B2n U<|Lb<|Lv nc []<|Lg 0 U (w7 jv)<|Li 1 U (w8 wm U<|wP hz.pv e)<|Lg 2 U (w7 jv)<|Li 3 U (w8 wm U<|wP hz.pv f)<|Lg 4 U uM<|Lg 5 U (w7 ju)<|Li 6 U (w8 wm U<|wP hz.pv e)<|Lg 7 U (w7 ju)<|Li 8 U (w8 wm U<|wP hz.pv f)<|Lg 9 U uM<|Lg 10 U q_z<|Lg 11 U q_z<|Eo (by kernel_rfl)<|Ld<|El<|oJ h▸Eb results239 (.tmp U<|.tmp U .nil) .nil
def Wj(a:z1)(b:z1):Option z1:=
 (qP a).bind fun d=>(if !d then some true else(qP b).bind fun e=>some (!e)).bind fun g=>if g then none else(aR a b).bind fun c=>(rb c.1 c.2).bind fun f=>some f
theorem FR(Z a b r)(h:Wj a b=some r){Ek}(hz:PZ [] Ek Z):
  RC 213 #[.string ⟨#[42]⟩,.agg #[vi a.fN,vi a.fD],.agg #[vi b.fN,vi b.fD]] Ek (.tuple #[.agg #[vi r.fN,vi r.fD],vi 0]) [] []:=by
 unfold Wj at h
 refine Ng func213 U U<|Lb<|Le (Lh 4 (wu (cs:=[vi a.fN,vi a.fD])) fun d _=>Lh 5 (wu (cs:=[vi b.fN,vi b.fD])) fun e _=>Lh 6 (wn (cs:=[vi 0,vi 0]) z20) fun s _=>Q1n U<|Lb<|Lb ?_)
 refine bK h fun t i h=>bK h fun g f h=>Le<|Lf 9 (we zm (wh .h2))<|Eg call188 hz (je _ _ _ i)<|Q2q U<|Lx false 3 12 (B:=g) (fun h=>(oJ<|qf f h).symm) (fun _ j=>?_) ?_
 ·have c:=qg f j
  obtain⟨u,m,c⟩:=z2 c
  replace c:=oJ c
  exact Lf 13 (we zm (wh .h1))<|Eg call188 hz (je _ _ _ m)<|Q2q U<|Ly c U .all
 refine La U<|Lx false 7 17 (B:=g) (fun h=>h) (fun _ n=>?_) ?_
 ·exact La U<|Lf 19 (Xo (r:=false) (by decide) U U)<|La U<|E5 U U<|E5 U U<|E5 U U<|Q2q U<|Ly (Eq.symm n) U .all
 refine Q0n<|Lj h (fun o h=>?_)<|fun o h=>?_
 ·cases h
 ·refine Ec<|B0q<|Lh 27 (jK Value.string<|fun x=>x) ?_
  intro y _
  let A:Value:=(.func (.func 239) #[] #[vp d,vp e]);refine Lf 28 (wO<|L6 (l:=[.tmp 4,.tmp 5])<|.r2 U U)<|Ll (gi (k:=⟨#[43]⟩) (v:=(.func (.func 237) #[] #[vp d,vp e])) gf underlying393 .here)<|Lf 29 (wO<|L6 (l:=[.tmp 4,.tmp 5])<|.r2 U U)<|Ll (gi (k:=⟨#[45]⟩) (v:=(.func (.func 238) #[] #[vp d,vp e])) gf underlying393 .here)<|Lf 30 (wO<|L6 (l:=[.tmp 4,.tmp 5])<|.r2 U U)<|Ll (gi (k:=⟨#[42]⟩) (v:=A) gf underlying393 .here)<|Lf 31 (wO<|L6 (l:=[.tmp 4,.tmp 5])<|.r2 U U)<|Ll (gi (k:=⟨#[47]⟩) (v:=(.func (.func 240) #[] #[vp d,vp e])) gf underlying393 .here)<|Q2n U<|Lb ?_
  exact bK h fun C p h=>bK h fun z q h=>D2q U<|Lf 35 (Xn (k:=⟨#[42]⟩) (dflt:=.nilFunc) (r:=A) gf underlying393 zHK U U U .here (by rfl))<|Lm 36 (wV (l:=[]) call239 .nil) .nil (kb hz .nil (.s2 .h3 .h2) fun w pz ho la=>KQ _ _ _ _ _ _ p pz ((la _ (.head _) _).stb)<|(la _ (.tail _<|.head _) _).stb)<|Q2q U<|Eg call214 hz (im _ _ _ _ q)<|Q2q U<|Ll (wl z1t .h1)<|Q1n U<|El<|oJ h▸Eb results213 (.agg U zm U (wh .here)<|.tmp U .nil) .nil
def eH(b:z1)(c:z1):Option z1:=
 (Wj b c).bind fun a=>some a
theorem Qg(Z a b r)(h:eH a b=some r){Ek}(hz:PZ [] Ek Z):
  RC 178 #[.agg #[vi a.fN,vi a.fD],.agg #[vi b.fN,vi b.fD]] Ek (.tuple #[.agg #[vi r.fN,vi r.fD],vi 0]) [] []:=by
 unfold eH at h
 refine Lz func178 U U<|Lb<|Le (Lh 2 (wu (cs:=[vi a.fN,vi a.fD])) fun d _=>Lh 3 (wu (cs:=[vi b.fN,vi b.fD])) fun e _=>Lh 4 (wn (cs:=[vi 0,vi 0]) z20) fun f _=>Q1n U<|Lb ?_)
 exact bK h fun g c h=>Le<|Lf 6 (we zm (wh .h2))<|Lf 7 (we zm (wh .h1))<|Eg call213 hz (FR _ _ _ _ c)<|Q2q U<|Ll (wl z1t .here)<|Q1n U<|El<|oJ h▸Eb results178 (.agg U zm U (wh .here)<|.tmp U .nil) .nil
def io(g:ye)(h:List (List zg))(i:List (yn×z1))(j:List (ze×Int))(a:Int)(c:z1)(d:z1):Option (z1×Int):=
 (eH c d).bind fun e=>vC (fun(f:Int)=>some (e,f)) fun b=>if decide (a=0) then b 0 else b a
theorem V4(Z e f g i j k m n o p q s t u v x y z B b c a d K L N O P r)(h:io a d K L N O P=some r){Ek}(hz:Pz [stb e 216 [vs f a.fM.length g,vs i a.y9.length j,vs k a.fS.length m,vs n a.fK.length o,vs p a.ya.length q,vs s a.yc.length t,vs u a.fU.length v,vs x a.y8.length y,vs z d.length B,.map (some b),.map (some c),vi N],wp b (ga qS) (ga wI) K,wp c (ga wJ) vI L] Ek Z)(Y:ZS Z 4 (u5 Z) f g a.fM)(aa:ZS Z 4 (fc Z) i j a.y9)(ab:ZS Z 4 (rq ml) k m a.fS)(ad:ZS Z 4 (rq m7) n o a.fK)(ae:ZS Z 7 (fa Z) p q a.ya)(af:ZS Z 5 (rq mg) s t a.yc)(ag:ZS Z 3 (fe Z) u v a.fU)(ah:ZS Z 4 (rq j5) x y a.y8)(ai:ZS Z 1 (m8 Z) z B d)(iA:Ho Ek [stb e 216 [vs f a.fM.length g,vs i a.y9.length j,vs k a.fS.length m,vs n a.fK.length o,vs p a.ya.length q,vs s a.yc.length t,vs u a.fU.length v,vs x a.y8.length y,vs z d.length B,.map (some b),.map (some c),vi N],wp b (ga qS) (ga wI) K,wp c (ga wJ) vI L]):
  RF 176 #[vp e,.func (.func 178) #[] #[],.agg #[vi O.fN,vi O.fD],.agg #[vi P.fN,vi P.fD]] Ek (.agg #[vi r.1.fN,vi r.1.fD]) [stb e 216 [vs f a.fM.length g,vs i a.y9.length j,vs k a.fS.length m,vs n a.fK.length o,vs p a.ya.length q,vs s a.yc.length t,vs u a.fU.length v,vs x a.y8.length y,vs z d.length B,.map (some b),.map (some c),vi N],wp b (ga qS) (ga wI) K,wp c (ga wJ) vI L] [stb e 216 [vs f a.fM.length g,vs i a.y9.length j,vs k a.fS.length m,vs n a.fK.length o,vs p a.ya.length q,vs s a.yc.length t,vs u a.fU.length v,vs x a.y8.length y,vs z d.length B,.map (some b),.map (some c),vi r.2],wp b (ga qS) (ga wI) K,wp c (ga wJ) vI L]:=by
 unfold io at h
 refine Et func176 U iA U<|Lb<|Le (Lh 6 (wu (cs:=[vi O.fN,vi O.fD])) fun aj _=>Lh 7 (wu (cs:=[vi P.fN,vi P.fD])) fun ak _=>Lh 8 (wn (cs:=[vi 0,vi 0]) z20) fun Q _=>Q0n<|Lb ?_)
 refine bK h fun S T h=>D1q U<|Lf 13 (we zm (wh .h2))<|Lf 14 (we zm (wh .h1))<|Lm 15 (wV (l:=[.tmp 13,.tmp 14]) call178<|.r2 U U) .nil (cc hz .nil fun w pz ho=>Qg _ _ _ _ T pz )<|Q2q U<|La U (Lh 9 (wn (cs:=[vi 0,vi 0]) z20) fun R _=>Ll (wl z1t .here)<|Q1n U ?_)
 obtain⟨X,V,h⟩:=wE h
 let A:Value:=(vs f a.fM.length g);let C:Value:=(vs i a.y9.length j);let D:Value:=(vs k a.fS.length m);let E:Value:=(vs n a.fK.length o);let F:Value:=(vs p a.ya.length q);let G:Value:=(vs s a.yc.length t);let H:Value:=(vs u a.fU.length v);let I:Value:=(vs x a.y8.length y);let J:Value:=(vs z d.length B);refine Nd (fun M=>(X M=some r)) (fun M=>[(8,vp Q),(9,vp R),(10,vi 0)]) (fun M=>[stb Q 276 [vi 0,vi 0],stb R 276 [vi S.fN,vi S.fD],stb e 216 [A,C,D,E,F,G,H,I,J,(.map<|some b),(.map<|some c),vi M],wp b (ga qS) (ga wI) K,wp c (ga wJ) vI L]) ?_ ?_
 ·refine B1q U<|Lf 19 wz<|Lf 20 (w7 l6)<|Lf 21 (Ei z8n .h4)<|Q1n U<|Lj h (fun W h=>?_)<|fun W h=>?_
  ·exact D2q U<|Lf 25 wz<|Lf 26 (w7 l6)<|Ll (vg (ds:=[A,C,D,E,F,G,H,I,J,(.map<|some b),(.map<|some c),vi 0]) zfn .h4)<|WL.nil<|Lp 0 h .q<|.s5 .h2 .h1 .here .h2 .h2
  ·exact Ep<|Lp N h .q<|.s5 .h1 .here .h2 .h2 .h2
 ·rintro M h
  replace h:=(V M).symm.trans h
  refine Lb<|B1q U<|Lf 28 kj<|Q0n<|Er (fun h'=>(by cases h'))<|fun h'=>?_
  clear h'
  exact Ec<|B0q<|Lf 30 (we zm (wh .h1))<|Ll (wl z1t .here)<|Q0n<|El<|oJ h▸Eb results176 (.agg U zm U (wh .here) .nil) (.s3 .h2 .h2 .h2)
def aS(a:z1)(b:z1):Option (Int×Int):=
 some (i64 ((i64 (a.fN*b.fD))+(i64 (b.fN*a.fD))),i64 (a.fD*b.fD))
theorem KR(Z e f a b r)(h:aS a b=some r){Ek}(hz:PZ [] Ek Z)(c:ZC Z e [vi a.fN,vi a.fD])(d:ZC Z f [vi b.fN,vi b.fD]):
  RC 237 #[vq e,vq f] Ek (.tuple #[vi r.1,vi r.2]) [] []:=by
 unfold aS at h
 exact Lz func237 U U<|B2n U<|Lb<|Lv nc []<|Lg 0 U (w7 jv)<|Li 1 U (w8 wm U<|wP hz.pv c)<|Lg 2 U (w7 ju)<|Li 3 U (w8 wm U<|wP hz.pv d)<|Lg 4 U uM<|Lg 5 U (w7 jv)<|Li 6 U (w8 wm U<|wP hz.pv d)<|Lg 7 U (w7 ju)<|Li 8 U (w8 wm U<|wP hz.pv c)<|Lg 9 U uM<|Lg 10 U fb<|Lg 11 U (w7 ju)<|Li 12 U (w8 wm U<|wP hz.pv c)<|Lg 13 U (w7 ju)<|Li 14 U (w8 wm U<|wP hz.pv d)<|Lg 15 U uM<|Lg 16 U q_z<|Lg 17 U q_z<|Eo (by kernel_rfl)<|Ld<|El<|oJ h▸Eb results237 (.tmp U<|.tmp U .nil) .nil
def X0(a:z1)(b:z1):Option z1:=
 (qP a).bind fun d=>(if !d then some true else(qP b).bind fun e=>some (!e)).bind fun g=>if g then none else(aS a b).bind fun c=>(rb c.1 c.2).bind fun f=>some f
theorem GI(Z a b r)(h:X0 a b=some r){Ek}(hz:PZ [] Ek Z):
  RC 213 #[.string ⟨#[43]⟩,.agg #[vi a.fN,vi a.fD],.agg #[vi b.fN,vi b.fD]] Ek (.tuple #[.agg #[vi r.fN,vi r.fD],vi 0]) [] []:=by
 unfold X0 at h
 refine Ng func213 U U<|Lb<|Le (Lh 4 (wu (cs:=[vi a.fN,vi a.fD])) fun d _=>Lh 5 (wu (cs:=[vi b.fN,vi b.fD])) fun e _=>Lh 6 (wn (cs:=[vi 0,vi 0]) z20) fun s _=>Q1n U<|Lb<|Lb ?_)
 refine bK h fun t i h=>bK h fun g f h=>Le<|Lf 9 (we zm (wh .h2))<|Eg call188 hz (je _ _ _ i)<|Q2q U<|Lx false 3 12 (B:=g) (fun h=>(oJ<|qf f h).symm) (fun _ j=>?_) ?_
 ·have c:=qg f j
  obtain⟨u,m,c⟩:=z2 c
  replace c:=oJ c
  exact Lf 13 (we zm (wh .h1))<|Eg call188 hz (je _ _ _ m)<|Q2q U<|Ly c U .all
 refine La U<|Lx false 7 17 (B:=g) (fun h=>h) (fun _ n=>?_) ?_
 ·exact La U<|Lf 19 (Xo (r:=false) (by decide) U U)<|La U<|E5 U U<|E5 U U<|E5 U U<|Q2q U<|Ly (Eq.symm n) U .all
 refine Q0n<|Lj h (fun o h=>?_)<|fun o h=>?_
 ·cases h
 ·refine Ec<|B0q<|Lh 27 (jK Value.string<|fun x=>x) ?_
  intro y _
  let A:Value:=(.func (.func 237) #[] #[vp d,vp e]);refine Lf 28 (wO<|L6 (l:=[.tmp 4,.tmp 5])<|.r2 U U)<|Ll (gi (k:=⟨#[43]⟩) (v:=A) gf underlying393 .here)<|Lf 29 (wO<|L6 (l:=[.tmp 4,.tmp 5])<|.r2 U U)<|Ll (gi (k:=⟨#[45]⟩) (v:=(.func (.func 238) #[] #[vp d,vp e])) gf underlying393 .here)<|Lf 30 (wO<|L6 (l:=[.tmp 4,.tmp 5])<|.r2 U U)<|Ll (gi (k:=⟨#[42]⟩) (v:=(.func (.func 239) #[] #[vp d,vp e])) gf underlying393 .here)<|Lf 31 (wO<|L6 (l:=[.tmp 4,.tmp 5])<|.r2 U U)<|Ll (gi (k:=⟨#[47]⟩) (v:=(.func (.func 240) #[] #[vp d,vp e])) gf underlying393 .here)<|Q2n U<|Lb ?_
  exact bK h fun C p h=>bK h fun z q h=>D2q U<|Lf 35 (Xn (k:=⟨#[43]⟩) (dflt:=.nilFunc) (r:=A) gf underlying393 zHK U U U .here (by rfl))<|Lm 36 (wV (l:=[]) call237 .nil) .nil (kb hz .nil (.s2 .h3 .h2) fun w pz ho la=>KR _ _ _ _ _ _ p pz ((la _ (.head _) _).stb)<|(la _ (.tail _<|.head _) _).stb)<|Q2q U<|Eg call214 hz (im _ _ _ _ q)<|Q2q U<|Ll (wl z1t .h1)<|Q1n U<|El<|oJ h▸Eb results213 (.agg U zm U (wh .here)<|.tmp U .nil) .nil
def hK(b:z1)(c:z1):Option z1:=
 (X0 b c).bind fun a=>some a
theorem X1(Z a b r)(h:hK a b=some r){Ek}(hz:PZ [] Ek Z):
  RC 177 #[.agg #[vi a.fN,vi a.fD],.agg #[vi b.fN,vi b.fD]] Ek (.tuple #[.agg #[vi r.fN,vi r.fD],vi 0]) [] []:=by
 unfold hK at h
 refine Lz func177 U U<|Lb<|Le (Lh 2 (wu (cs:=[vi a.fN,vi a.fD])) fun d _=>Lh 3 (wu (cs:=[vi b.fN,vi b.fD])) fun e _=>Lh 4 (wn (cs:=[vi 0,vi 0]) z20) fun f _=>Q1n U<|Lb ?_)
 exact bK h fun g c h=>Le<|Lf 6 (we zm (wh .h2))<|Lf 7 (we zm (wh .h1))<|Eg call213 hz (GI _ _ _ _ c)<|Q2q U<|Ll (wl z1t .here)<|Q1n U<|El<|oJ h▸Eb results177 (.agg U zm U (wh .here)<|.tmp U .nil) .nil
def uD(g:ye)(h:List (List zg))(i:List (yn×z1))(j:List (ze×Int))(a:Int)(c:z1)(d:z1):Option (z1×Int):=
 (hK c d).bind fun e=>vC (fun(f:Int)=>some (e,f)) fun b=>if decide (a=0) then b 0 else b a
theorem l8(Z e f g i j k m n o p q s t u v x y z B b c a d K L N O P r)(h:uD a d K L N O P=some r){Ek}(hz:Pz [stb e 216 [vs f a.fM.length g,vs i a.y9.length j,vs k a.fS.length m,vs n a.fK.length o,vs p a.ya.length q,vs s a.yc.length t,vs u a.fU.length v,vs x a.y8.length y,vs z d.length B,.map (some b),.map (some c),vi N],wp b (ga qS) (ga wI) K,wp c (ga wJ) vI L] Ek Z)(Y:ZS Z 4 (u5 Z) f g a.fM)(aa:ZS Z 4 (fc Z) i j a.y9)(ab:ZS Z 4 (rq ml) k m a.fS)(ad:ZS Z 4 (rq m7) n o a.fK)(ae:ZS Z 7 (fa Z) p q a.ya)(af:ZS Z 5 (rq mg) s t a.yc)(ag:ZS Z 3 (fe Z) u v a.fU)(ah:ZS Z 4 (rq j5) x y a.y8)(ai:ZS Z 1 (m8 Z) z B d)(iA:Ho Ek [stb e 216 [vs f a.fM.length g,vs i a.y9.length j,vs k a.fS.length m,vs n a.fK.length o,vs p a.ya.length q,vs s a.yc.length t,vs u a.fU.length v,vs x a.y8.length y,vs z d.length B,.map (some b),.map (some c),vi N],wp b (ga qS) (ga wI) K,wp c (ga wJ) vI L]):
  RF 176 #[vp e,.func (.func 177) #[] #[],.agg #[vi O.fN,vi O.fD],.agg #[vi P.fN,vi P.fD]] Ek (.agg #[vi r.1.fN,vi r.1.fD]) [stb e 216 [vs f a.fM.length g,vs i a.y9.length j,vs k a.fS.length m,vs n a.fK.length o,vs p a.ya.length q,vs s a.yc.length t,vs u a.fU.length v,vs x a.y8.length y,vs z d.length B,.map (some b),.map (some c),vi N],wp b (ga qS) (ga wI) K,wp c (ga wJ) vI L] [stb e 216 [vs f a.fM.length g,vs i a.y9.length j,vs k a.fS.length m,vs n a.fK.length o,vs p a.ya.length q,vs s a.yc.length t,vs u a.fU.length v,vs x a.y8.length y,vs z d.length B,.map (some b),.map (some c),vi r.2],wp b (ga qS) (ga wI) K,wp c (ga wJ) vI L]:=by
 unfold uD at h
 refine Et func176 U iA U<|Lb<|Le (Lh 6 (wu (cs:=[vi O.fN,vi O.fD])) fun aj _=>Lh 7 (wu (cs:=[vi P.fN,vi P.fD])) fun ak _=>Lh 8 (wn (cs:=[vi 0,vi 0]) z20) fun Q _=>Q0n<|Lb ?_)
 refine bK h fun S T h=>D1q U<|Lf 13 (we zm (wh .h2))<|Lf 14 (we zm (wh .h1))<|Lm 15 (wV (l:=[.tmp 13,.tmp 14]) call177<|.r2 U U) .nil (cc hz .nil fun w pz ho=>X1 _ _ _ _ T pz )<|Q2q U<|La U (Lh 9 (wn (cs:=[vi 0,vi 0]) z20) fun R _=>Ll (wl z1t .here)<|Q1n U ?_)
 obtain⟨X,V,h⟩:=wE h
 let A:Value:=(vs f a.fM.length g);let C:Value:=(vs i a.y9.length j);let D:Value:=(vs k a.fS.length m);let E:Value:=(vs n a.fK.length o);let F:Value:=(vs p a.ya.length q);let G:Value:=(vs s a.yc.length t);let H:Value:=(vs u a.fU.length v);let I:Value:=(vs x a.y8.length y);let J:Value:=(vs z d.length B);refine Nd (fun M=>(X M=some r)) (fun M=>[(8,vp Q),(9,vp R),(10,vi 0)]) (fun M=>[stb Q 276 [vi 0,vi 0],stb R 276 [vi S.fN,vi S.fD],stb e 216 [A,C,D,E,F,G,H,I,J,(.map<|some b),(.map<|some c),vi M],wp b (ga qS) (ga wI) K,wp c (ga wJ) vI L]) ?_ ?_
 ·refine B1q U<|Lf 19 wz<|Lf 20 (w7 l6)<|Lf 21 (Ei z8n .h4)<|Q1n U<|Lj h (fun W h=>?_)<|fun W h=>?_
  ·exact D2q U<|Lf 25 wz<|Lf 26 (w7 l6)<|Ll (vg (ds:=[A,C,D,E,F,G,H,I,J,(.map<|some b),(.map<|some c),vi 0]) zfn .h4)<|WL.nil<|Lp 0 h .q<|.s5 .h2 .h1 .here .h2 .h2
  ·exact Ep<|Lp N h .q<|.s5 .h1 .here .h2 .h2 .h2
 ·rintro M h
  replace h:=(V M).symm.trans h
  refine Lb<|B1q U<|Lf 28 kj<|Q0n<|Er (fun h'=>(by cases h'))<|fun h'=>?_
  clear h'
  exact Ec<|B0q<|Lf 30 (we zm (wh .h1))<|Ll (wl z1t .here)<|Q0n<|El<|oJ h▸Eb results176 (.agg U zm U (wh .here) .nil) (.s3 .h2 .h2 .h2)
end Go.Proofs.YtaefhckdgfpeaaaGreat
