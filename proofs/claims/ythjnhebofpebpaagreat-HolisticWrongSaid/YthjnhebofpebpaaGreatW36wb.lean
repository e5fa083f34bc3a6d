/- A part of this claim's proof: models of functions, walks, plain laws. No conditions. -/
import Derived.Test.YthjnhebofpebpaaGreatW36wa
set_option linter.all false
namespace Go.Proofs.YthjnhebofpebpaaGreat
open Go Go.RowKit Sep Tryz
set_option maxRecDepth 30000
set_option maxHeartbeats 4000000
def gH(a:zd)(c:List zd)(d:za)(e:List (za×Int)):Option Bool:=
 (gV c a.ya).bind fun b=>(kQ a).bind fun f=>(if (decide (f=d))&&b.2 then(kQ b.1).bind fun g=>some (decide ((xp e g 0)=0)) else some false).bind fun h=>some h
theorem cV(Z:Zp)(m:Addr)(s:Option Addr)(t:Nat)(n:Addr)(o:Addr)(g:Nat)(d:zd)(p:List zd)(e:za)(j:List (za×Int))(r:Bool)(h:gH d p e j=some r)(w₀:World)(hz:Pz [xy g (ga xL) vI j] w₀ Z)(L:ZS Z 3 (rq gk) s t p)(M:ZC Z m [vs s p.length t])(N:ZC Z n [vi e.ya,vi e.fQ])(O:ZC Z o [.map (some g)])(fh:Ho w₀ [xy g (ga xL) vI j]):
  RF 76 #[.agg #[vi d.ya,vi d.yh,vi d.fQ],vq m,vq n,vq o] w₀ (.bool r) [xy g (ga xL) vI j] [xy g (ga xL) vI j]:=by
 unfold gH at h
 refine Calls.mE func76 ntmps76 fh ?_
 refine WC.b<|Ld (Lg 4 (xP (cs:=[vi d.ya,vi d.yh,vi d.fQ]) U U) fun q _=>Q1n U<|WC.b ?_)
 refine bK h fun c P h=>Ld<|Le 9 (xl z9h U<|jS hz.pv M U)<|Le 10 (xk km U U)<|Le 11 (xl xB U<|xu .here U)<|Lm 12 (zf call77<|.r2 U U) .nil (cc hz .nil fun w pz ho=>pl _ _ _ _ _ _ P w pz L)<|Q2q U<|La U (Lg 6 (xC (cs:=[vi 0,vi 0,vi 0]) zc0 U) fun B _=>Lk U U (xx zaG U U U .here U U U)<|Q1n U<|WC.b ?_)
 obtain⟨f,Q,h⟩:=ze h
 obtain⟨R,I,h⟩:=ze h
 let A:Value:=(.agg #[vi c.1.ya,vi c.1.yh,vi c.1.fQ]);let C:Value:=(.agg #[vi d.ya,vi d.yh,vi d.fQ]);let D:Value:=(.bool (decide (f=e)));let E:Value:=(.bool ((decide (f=e))&&c.2));let F:Value:=(.agg #[vi f.ya,vi f.fQ]);let G:Value:=(.agg #[vi e.ya,vi e.fQ]);let H:Value:=(vs s p.length t);refine Lw nc [] U<|Li 0 15 U (xq z5R U (xt .h1) U)<|L5 1 16 U (zf call60<|.cons U .nil) (cc hz .nil fun w pz ho=>fu _ _ _ Q w pz )<|Li 2 17 U (xq z6p U (vY hz.pv N) U)<|Lf 3 18 U (su (enc:=xL) (a:=f) (b:=e) zp0 U U)<|Lf 4 19 U (q_m U)<|Kb (fuel':=8) [(0,C),(1,vq m),(2,vq n),(3,vq o),(4,vp q),(5,.bool false),(9,H),(10,vp q),(11,vi d.ya),(12,.tuple #[A,.bool c.2]),(8,.tuple #[A,.bool c.2]),(13,A),(14,.bool c.2),(6,vp B),(7,.bool c.2),(15,C),(16,F),(17,G),(18,D),(19,D),(21,E)] (wm 15 (dn 7)) ?_<|fun J=>?_
 rotate_left
 ·rcases Bool.eq_false_or_eq_true (decide (f=e)) with hb' | hb'
  ·have u:=hb';clear hb'
   refine L3 (i:=19) U u<|Lf 5 20 U (q_m U)<|Lf 6 21 U (jI U U)<|Lt (.a3) ?_ J
   exact .r21 U U U U U U U U U U U U U U U U U U U (zL<|Eq.symm u)<|zL<|kc u
  ·have v:=hb';clear hb'
   refine L3 (i:=19) U v<|Lo 5 20 U<|Lf 6 21 U (jJ U U)<|Lt (.a3) ?_ J
   exact .r21 U U U U U U U U U U U U U U U U U U U (zL<|Eq.symm v)<|zL<|kb v
 refine Lf 7 22 U (q_m U)<|Kb (fuel':=1) [(0,C),(1,vq m),(2,vq n),(3,vq o),(4,vp q),(5,.bool false),(9,H),(10,vp q),(11,vi d.ya),(12,.tuple #[A,.bool c.2]),(8,.tuple #[A,.bool c.2]),(13,A),(14,.bool c.2),(6,vp B),(7,.bool c.2),(15,C),(16,F),(17,G),(18,D),(19,D),(21,E),(22,E),(28,.bool R)] (wm 15 (dn 14)) ?_<|fun K=>?_
 rotate_left
 ·rcases Bool.eq_false_or_eq_true ((decide (f=e))&&c.2) with hb' | hb'
  ·have x:=hb';clear hb'
   have l:=qq I x
   obtain⟨S,T,l⟩:=ze l
   replace l:=oJ l
   refine L3 (i:=22) U x<|Li 8 23 U (xl zlO U<|jS hz.pv O U)<|Li 9 24 U (xq z5R U (xt .here) U)<|L5 10 25 U (zf call60<|.cons U .nil) (cc hz .nil fun w pz ho=>fu _ _ _ T w pz )<|Li 11 26 U (qz (k:=S) (dflt:=(0:Int)) ze3 underlying117 qk U U U .h2)<|Lf 12 27 U (l4 U U)<|Lf 13 28 U (jI U U)<|Lt (.a3) ?_ K
   exact .r23 U U U U U U U U U U U U U U U U U U U U U (zL<|Eq.symm x)<|zL l
  ·have y:=hb';clear hb'
   have z:=qr I y
   replace z:=oJ z
   refine L3 (i:=22) U y<|Lo 8 23 U<|Lo 9 24 U<|Lo 10 25 U<|Lo 11 26 U<|Lo 12 27 U<|Lf 13 28 U (jJ U U)<|Lt (.a3) ?_ K
   exact .r23 U U U U U U U U U U U U U U U U U U U U U (zL<|Eq.symm y)<|zL z
 refine Lf 14 5 U (q_z U)<|WD.done (by kernel_rfl)<|Lb<|WC.ret ?_
 obtain rfl:=oJ h
 exact Lh results76 (.tmp U .nil)<|fun w hw=>⟨xK U,hw.sub (.cons .h2 .nil)⟩
def wg(b:List zd)(c:List zd)(d:za)(e:List (za×Int))(f:Option Int):Nat->Int->Option Int
 | 0,_=>none
 | g+1,a=>if decide (a<b.length) then chk (0<=a/\a<b.length) ((gH (⟨(nth b a).ya,(nth b a).yh,(nth b a).fQ⟩:zd) c d e).bind fun h=>if h then some a else wg b c d e f g (i64 (a+1))) else f
def qe(a:List zd)(b:List zd)(c:za)(d:List (za×Int)):Option Int:=
 mh (some (-1)) fun e=>wg a b c d e xI 0
theorem ut(Z:Zp)(i:Option Addr)(j:Nat)(k:Addr)(o:Option Addr)(p:Nat)(m:Addr)(n:Addr)(b:Nat)(d:List zd)(f:List zd)(g:za)(a:List (za×Int))(r:Int)(h:qe d f g a=some r)(w₀:World)(hz:Pz [xy b (ga xL) vI a] w₀ Z)(s:ZS Z 3 (rq gk) i j d)(t:ZS Z 3 (rq gk) o p f)(u:ZC Z k [vs o f.length p])(v:ZC Z m [vi g.ya,vi g.fQ])(x:ZC Z n [.map (some b)])(fh:Ho w₀ [xy b (ga xL) vI a]):
  RF 94 #[vs i d.length j,.func (.func 76) #[] #[vq k,vq m,vq n]] w₀ (vi r) [xy b (ga xL) vI a] [xy b (ga xL) vI a]:=by
 unfold qe at h
 refine Kd func94 ntmps94 fh ?_
 refine B1n U<|jK0 h fun q y h=>L9 (q=some r) ([]) ([xy b (ga xL) vI a]) ?_ ?_
 ·refine B1q U<|Le 7 (xQ underlying58 U)<|Q1n U<|WC.block<|Ka (fun(e:Nat) (c:Int)=>(wg d f g a q e c=some r)) (fun e c=>[(0,vs i d.length j),(1,.func (.func 76) #[] #[vq k,vq m,vq n]),(7,vi (d.length:Int)),(8,vi c)]) (fun e c=>[xy b (ga xL) vI a]) (fun e c=>e) ⟨xI,0⟩ h (.q U) (.cons .here .nil) ?_
  rintro(_|z) c h;·cases h
  rw[wg] at h
  refine B1n U<|WC.b<|Lj U h (fun A h=>?_)<|fun A h=>?_
  ·refine WC.skip<|Lb<|WC.b<|WC.block<|B2n U<|WC.b<|cK h fun B h=>bK h fun I C h=>D3q U<|L2 (dd:=14) U U (Z:=Z) (Pr:=(rq gk)) z8e U U s B ?_
   rintro F G D H rfl
   refine Le 15 (xq z5R U (vY hz.pv D) U)<|Lm 16 (qp (l:=[.tmp 15]) call76 U<|.cons U .nil) (.cons .here .nil) (cc hz (.cons .here .nil) fun w pz ho=>cV _ _ _ _ _ _ _ _ _ _ _ _ C w pz t u v x ho)<|Q0n<|Lj U h (fun E h=>?_)<|fun E h=>?_
   ·refine B2n U<|WC.ret<|Lv<|Ll<|Ll<|Lv<|Ll ?_
    obtain rfl:=oJ h
    exact Lh results94 (.tmp U .nil)<|fun w hw=>⟨xK U,hw.sub (.cons .here .nil)⟩
   ·exact WC.skip<|Lu<|Lb<|D2q U<|WL.nil<|WX.round ⟨z,i64 (c+1)⟩ h (Nat.lt_succ_self _) (.q U)<|.cons .here .nil
  ·exact WC.exit<|Ln<|Ln<|Lx<|Lp () h .nil<|.cons .here .nil
 ·rintro  h
  replace h:=y.symm.trans h
  refine B1n U<|WC.ret ?_
  obtain rfl:=oJ h
  exact Lh results94 (.tmp U .nil)<|fun w hw=>⟨xK U,hw.sub (.cons .here .nil)⟩
def vQ(a:List zd)(b:List zd)(c:za)(d:List (za×Int)):Option Bool:=
 (qe a b c d).bind fun e=>some (decide (e>=0))
theorem mU(Z:Zp)(f:Option Addr)(g:Nat)(i:Addr)(j:Option Addr)(k:Nat)(l:Addr)(m:Addr)(a:Nat)(c:List zd)(d:List zd)(e:za)(b:List (za×Int))(r:Bool)(h:vQ c d e b=some r)(w₀:World)(hz:Pz [xy a (ga xL) vI b] w₀ Z)(n:ZS Z 3 (rq gk) f g c)(o:ZS Z 3 (rq gk) j k d)(p:ZC Z i [vs j d.length k])(q:ZC Z l [vi e.ya,vi e.fQ])(s:ZC Z m [.map (some a)])(fh:Ho w₀ [xy a (ga xL) vI b]):
  RF 75 #[vs f c.length g,.func (.func 76) #[] #[vq i,vq l,vq m]] w₀ (.bool r) [xy a (ga xL) vI b] [xy a (ga xL) vI b]:=by
 unfold vQ at h
 refine Kd func75 ntmps75 fh ?_
 refine B1n U<|WC.b<|bK h fun u t h=>D2q U<|Lm 7 (zf call94<|.r2 U U) (.cons .here .nil) (cc hz (.cons .here .nil) fun w pz ho=>ut _ _ _ _ _ _ _ _ _ _ _ _ _ _ t w pz n o p q s ho)<|Q2n U<|WC.ret ?_
 obtain rfl:=oJ h
 exact Lh results75 (.tmp U .nil)<|fun w hw=>⟨xK U,hw.sub (.cons .here .nil)⟩
def fy(a:List zd)(b:za)(c:List (za×Int)):Option Bool:=
 (vQ a a b c).bind fun d=>some d
theorem dp(Z:Zp)(d:Option Addr)(e:Nat)(g:Addr)(i:Addr)(a:Nat)(c:List zd)(f:za)(b:List (za×Int))(r:Bool)(h:fy c f b=some r)(w₀:World)(hz:Pz [xy a (ga xL) vI b] w₀ Z)(j:ZS Z 3 (rq gk) d e c)(k:ZC Z g [vi f.ya,vi f.fQ])(m:ZC Z i [.map (some a)])(fh:Ho w₀ [xy a (ga xL) vI b]):
  RF 74 #[vs d c.length e,vq g,vq i] w₀ (.bool r) [xy a (ga xL) vI b] [xy a (ga xL) vI b]:=by
 unfold fy at h
 refine Calls.oh3 func74 ntmps74 fh ?_
 refine WC.b<|Ld (Lg 3 (xP (cs:=[vs d c.length e]) U U) fun o _=>Q1n U<|WC.b ?_)
 refine bK h fun p n h=>Ld<|Le 5 (xl z9h U<|xu .here U)<|Le 6 (wq<|L4 (l:=[.tmp 3,.tmp 1,.tmp 2])<|.r3 U U U)<|Lm 7 (zf call75<|.r2 U U) (.cons .h1 .nil) (sX hz (.cons .h1 .nil) (.cons .here .nil) fun w pz ho la=>mU _ _ _ _ _ _ _ _ _ _ _ _ _ _ n w pz (j.mono<|zl) (j.mono<|zl) ((la _ (.head _) _).stb) (k.mono<|zl) (m.mono<|zl) ho)<|Q1n U<|WC.ret ?_
 obtain rfl:=oJ h
 exact Lh results74 (.tmp U .nil)<|fun w hw=>⟨xK U,hw.sub (.cons .here .nil)⟩
def w6(b:List (List zd))(c:za)(d:List (za×Int))(e:Option Int):Nat->Int->Option Int
 | 0,_=>none
 | f+1,a=>if decide (a<b.length) then chk (0<=a/\a<b.length) ((fy (nth b a) c d).bind fun g=>if g then some a else w6 b c d e f (i64 (a+1))) else e
def vR(a:List (List zd))(b:za)(c:List (za×Int)):Option Int:=
 mh (some (-1)) fun d=>w6 a b c d xI 0
theorem mV(Z:Zp)(g:Option Addr)(i:Nat)(j:Addr)(k:Addr)(b:Nat)(d:List (List zd))(f:za)(a:List (za×Int))(r:Int)(h:vR d f a=some r)(w₀:World)(hz:Pz [xy b (ga xL) vI a] w₀ Z)(n:ZS Z 1 (wT Z) g i d)(o:ZC Z j [vi f.ya,vi f.fQ])(p:ZC Z k [.map (some b)])(fh:Ho w₀ [xy b (ga xL) vI a]):
  RF 92 #[vs g d.length i,.func (.func 74) #[] #[vq j,vq k]] w₀ (vi r) [xy b (ga xL) vI a] [xy b (ga xL) vI a]:=by
 unfold vR at h
 refine Kd func92 ntmps92 fh ?_
 refine B1n U<|jK0 h fun m q h=>L9 (m=some r) ([]) ([xy b (ga xL) vI a]) ?_ ?_
 ·refine B1q U<|Le 7 (xQ underlying32 U)<|Q1n U<|WC.block<|Ka (fun(e:Nat) (c:Int)=>(w6 d f a m e c=some r)) (fun e c=>[(0,vs g d.length i),(1,.func (.func 74) #[] #[vq j,vq k]),(7,vi (d.length:Int)),(8,vi c)]) (fun e c=>[xy b (ga xL) vI a]) (fun e c=>e) ⟨xI,0⟩ h (.q U) (.cons .here .nil) ?_
  rintro(_|s) c h;·cases h
  rw[w6] at h
  refine B1n U<|WC.b<|Lj U h (fun t h=>?_)<|fun t h=>?_
  ·refine WC.skip<|Lb<|WC.b<|WC.block<|B2n U<|WC.b<|cK h fun u h=>bK h fun F v h=>D3q U<|L2 (dd:=14) U U (Z:=Z) (Pr:=(wT Z)) z4O U U n u ?_
   rintro A B x C ⟨D,E,rfl,y⟩
   refine Le 15 (xl z9h U<|jS hz.pv x U)<|Lm 16 (qp (l:=[.tmp 15]) call74 U<|.cons U .nil) (.cons .here .nil) (cc hz (.cons .here .nil) fun w pz ho=>dp _ _ _ _ _ _ _ _ _ _ v w pz y o p ho)<|Q0n<|Lj U h (fun z h=>?_)<|fun z h=>?_
   ·refine B2n U<|WC.ret<|Lv<|Ll<|Ll<|Lv<|Ll ?_
    obtain rfl:=oJ h
    exact Lh results92 (.tmp U .nil)<|fun w hw=>⟨xK U,hw.sub (.cons .here .nil)⟩
   ·exact WC.skip<|Lu<|Lb<|D2q U<|WL.nil<|WX.round ⟨s,i64 (c+1)⟩ h (Nat.lt_succ_self _) (.q U)<|.cons .here .nil
  ·exact WC.exit<|Ln<|Ln<|Lx<|Lp () h .nil<|.cons .here .nil
 ·rintro  h
  replace h:=q.symm.trans h
  refine B1n U<|WC.ret ?_
  obtain rfl:=oJ h
  exact Lh results92 (.tmp U .nil)<|fun w hw=>⟨xK U,hw.sub (.cons .here .nil)⟩
def wQ(a:List (List zd))(b:za)(c:List (za×Int)):Option Bool:=
 (vR a b c).bind fun d=>some (decide (d>=0))
theorem ms(Z:Zp)(e:Option Addr)(f:Nat)(g:Addr)(i:Addr)(a:Nat)(c:List (List zd))(d:za)(b:List (za×Int))(r:Bool)(h:wQ c d b=some r)(w₀:World)(hz:Pz [xy a (ga xL) vI b] w₀ Z)(j:ZS Z 1 (wT Z) e f c)(k:ZC Z g [vi d.ya,vi d.fQ])(l:ZC Z i [.map (some a)])(fh:Ho w₀ [xy a (ga xL) vI b]):
  RF 50 #[vs e c.length f,.func (.func 74) #[] #[vq g,vq i]] w₀ (.bool r) [xy a (ga xL) vI b] [xy a (ga xL) vI b]:=by
 unfold wQ at h
 refine Kd func50 ntmps50 fh ?_
 refine B1n U<|WC.b<|bK h fun n m h=>D2q U<|Lm 7 (zf call92<|.r2 U U) (.cons .here .nil) (cc hz (.cons .here .nil) fun w pz ho=>mV _ _ _ _ _ _ _ _ _ _ m w pz j k l ho)<|Q2n U<|WC.ret ?_
 obtain rfl:=oJ h
 exact Lh results50 (.tmp U .nil)<|fun w hw=>⟨xK U,hw.sub (.cons .here .nil)⟩
def sa(l:List za)(i j:Int):Option (List za):=chk ((0<=i/\i<=j/\j<=l.length)/\l.length*16<=140737488355328) (some (l.take i.toNat++l.drop j.toNat))
theorem dq(Z:Zp)(ao:Option Addr)(cap:Nat)(l:List za)(i j:Int)(r:List za)(w₀:World)(hz:Pz [row (vs ao l.length cap) 121 2 (l.flatMap xL)] w₀ Z)(h:sa l i j=some r)(fh:Ho w₀ [row (vs ao l.length cap) 121 2 (l.flatMap xL)]):
  Calls Tryz.prog 78 #[.slice ao l.length cap,.int .i64 i,.int .i64 j] w₀ fun e w'=>∃ D0:Option Addr,∃ BD:Nat,e = .returned (vs D0 r.length BD)/\True/\Hp (fps [row (vs ao l.length cap) 121 2 (l.flatMap xL)]) w₀ w' [row (vs D0 r.length BD) 121 2 (r.flatMap xL)]:=by
 obtain⟨⟨c1,c2⟩,h⟩:=xv h
 obtain rfl:=oJ h
 clear h
 refine Calls.oh3 func78 ntmps78 fh ?_
 refine B1n U<|WC.b<|Ld<|La U<|La U<|La U<|La U<|Le 12 (xQ underlying112 U) (Kf (fun w h=>h.rowShape .here) fun hs=>?_)
 obtain⟨hs1,hs2,hs3,_⟩:=hs
 refine Le 13 (WP z8f U U U U (by omega) (by omega) (by omega) (by omega))<|Q0n<|WC.b<|B3n U<|WC.cond U (fun hb=>?_)<|fun hb=>?_
 ·have e:i=j:=by simpa using hb
  refine B2n U<|WC.ret<|Ll<|Lh results78 (.tmp U .nil)<|fun w hw=>?_
  have e2:l.take i.toNat++l.drop j.toNat=l:=by subst e;exact List.take_append_drop _ _
  rw[e2];exact⟨ao,cap,xK U,trivial,hw.sub (.cons .here .nil)⟩
 ·have oH:i<j:=by
   have:i≠j:=by simpa using hb
   omega
  clear hb
  refine WC.skip<|Lb<|B1q U<|Le 19 (xQ underlying112 U)<|Q1n U<|WC.b<|WC.know (fun w hw=>Hp.vJ .here hw (by omega)) ?_
  rintro⟨b,rfl⟩
  have jo:(l.take i.toNat++l.drop j.toNat).length=i.toNat+(l.length-j.toNat):=by rw[List.length_append,List.length_take,List.length_drop];omega
  refine Lw (fun i=>[6].contains i) [] U<|Lf 0 20 U (q_m U)<|Lf 1 21 U (q_m U)<|Lf 2 22 U (uR (lo:=0) (hi:=i.toNat) (lv:=none) (hv:=some (vi i)) z8f U (fun _ _ _=>U) (fun a w h=>by rw[Option.map_some,h.eval U]) U (by show i=_;omega) (by omega) (by omega) (by simp))<|WD.repin (i:=22) U (u:=.slice (some ⟨b,0,none⟩) i.toNat cap) (by split <;> simp[Addr.add])<|Lf 3 23 U (q_m U)<|Lf 4 24 U (q_m U)<|Lf 5 25 U (uR (lo:=j.toNat) (hi:=l.length) (lv:=some (vi j)) (hv:=none) z8f U (fun a w h=>by rw[Option.map_some,h.eval U]) (fun _ _ _=>U) (by show j=_;omega) U (by omega) (by omega)<|fun _=>hs2) (WD.old (i:=6) (dd:=26) U (by kernel_rfl) U U U U (fun _=>ws.of .nil) (Xa (i:=i.toNat) (j:=j.toNat) (m:=l.length) (cs:=l.flatMap xL) z8f U U (fun hk=>if_neg (by omega)) .here (by omega) (by omega) (gr oC _) (by omega)) fun tl _=>Lf 7 0 U (q_z U)<|WD.done (by kernel_rfl)<|Lb<|WC.b<|Ld<|La U<|La U<|Le 29 (xQ underlying112 U)<|La U<|Le 31 (uR (lo:=i.toNat+(l.length-j.toNat)) (hi:=l.length) (lv:=some (vi ((i.toNat+(l.length-j.toNat):Nat):Int))) (hv:=some (vi (l.length:Int))) z8f U (fun a w h=>by rw[Option.map_some,h.eval U]) (fun a w h=>by rw[Option.map_some,h.eval U]) U U (by omega) (by omega) (by simp))<|Lk U U (b6 (i:=i.toNat+(l.length-j.toNat)) z8f zlN U U (by omega) (Yz (enc:=xL) (sz:=2) (z0:=((⟨0,0⟩:za):za)) (fun _=>U) (by decide) U oC) .here U)<|Q0n<|B2n U<|WC.ret<|Lh results78 (.tmp U .nil)<|fun w hw=>?_)
  rw[jo]
  refine⟨some ⟨b,0,none⟩,cap,xK U,trivial,?_⟩
  have h5:=Hp.rowShort (m:=l.length) (i:=i.toNat+(l.length-j.toNat)) (R:=[]) .here (by omega) hw
  have e1:(l.flatMap xL).take (i.toNat*2)=(l.take i.toNat).flatMap xL:=pR (enc:=xL) (sz:=2) (fun _=>U) l i.toNat (by omega)
  have e2:(l.flatMap xL).drop (j.toNat*2)=(l.drop j.toNat).flatMap xL:=iw (enc:=xL) (sz:=2) (fun _=>U) l j.toNat (by omega)
  have e3:((l.take i.toNat++l.drop j.toNat).flatMap xL).length=(i.toNat+(l.length-j.toNat))*2:=by rw[uB (sz:=2) (fun _=>U),jo]
  rw[e1,e2,<- List.flatMap_append,<- e3,List.take_left,List.take_left] at h5
  exact h5.sub<|.cons .here .nil
def jw(b:List za)(e:List (List zd))(c:List (za×Int))(d:List za)(f:(List za)->(List za)->(List (za×Int))->Option (List za×Int))(g:Option (List za×Int)):Nat->Int->Option (List za×Int)
 | 0,_=>none
 | h+1,a=>if decide (a<b.length) then chk (0<=a/\a<b.length) ((wQ e (⟨(nth b a).ya,(nth b a).fQ⟩:za) c).bind fun i=>if !i then chk ((((d++([(⟨(nth b a).ya,(nth b a).fQ⟩:za)]:List za)).length:Nat):Int)*16<=140737488355328/\(((d++([(⟨(nth b a).ya,(nth b a).fQ⟩:za)]:List za)).length:Nat):Int)<=4611686018427387904) ((sa b a (i64 (a+1))).bind fun j=>f j (d++([(⟨(nth b a).ya,(nth b a).fQ⟩:za)]:List za)) (xM c (⟨(nth b a).ya,(nth b a).fQ⟩:za) (i64 ((xp c (⟨(nth b a).ya,(nth b a).fQ⟩:za) 0)+1)))) else jw b e c d f g h (i64 (a+1))) else g
def jx(a:List (List zd))(b:(List za)->Option (List za×Int)):Nat->(List za)->(List za)->(List (za×Int))->Option (List za×Int)
 | 0,_,_,_=>none
 | e+1,d,c,f=>if decide ((d.length:Int)>0) then d7 (fun(g:List za) (h:List za) (i:List (za×Int))=>jx a b e g h i) fun j=>mh (some (([]:List za),351)) fun k=>jw d a f c j k xI 0 else b c
def gE(a:List (List zd)):Option (List za×Int):=
 (mq a).bind fun b=>jG (fun(c:List za)=>some (c,0)) fun d=>jx a d xI b ([]:List za) ([]:List (za×Int))
theorem lZ(Z:Zp)(K:Option Addr)(L:Nat)(u:List (List zd))(r:List za×Int)(h:gE u=some r)(w₀:World)(hz:PZ [] w₀ Z)(M:ZS Z 1 (wT Z) K L u):
  Calls Tryz.prog 42 #[vs K u.length L] w₀ fun e w'=>∃ N:Option Addr,∃ O:Nat,e = .returned (.tuple #[vs N r.1.length O,vi r.2])/\True/\Hp [] w₀ w' [row (vs N r.1.length O) 121 2 (r.1.flatMap xL)]:=by
 unfold gE at h
 refine L7 func42 ntmps42 ?_
 refine B2n U<|WC.scope<|WC.b<|bK h fun T V h=>D1q U<|WL.kY (dd:=11) U U U (zf call73<|.cons U .nil) .nil (cc hz .nil fun w pz ho=>el _ _ _ _ _ V w pz M) ?_
 rintro W X _
 refine Q1n U<|WC.b<|Ld (Lg 12 (je (ga xL)<|Value.int .i64) fun q _=>Lg 5 (xC (cs:=[.map none]) zJ8 U) fun x _=>Lk U U (xx zJ9 U U U .here U U U)<|Q0n<|B1n U<|WC.b<|WC.label<|Lb ?_)
 refine jK1 h fun P Y h=>WC.qN (fun(m:List za) (y:Option Addr) (z:Nat)=>(P m=some r)) (fun m y z=>[(6,vs y m.length z)]) (fun m y z=>[row (vs y m.length z) 121 2 (m.flatMap xL)]) ?_ ?_
 ·let A:Value:=(vs K u.length L);refine WC.block<|WC.nilRow 121 2<|WC.pb (fun(H:Nat) (a:List za) (c:List za) (d:List (za×Int)) (s:Option Addr) (n:Nat) (o:Option Addr) (p:Nat)=>(jx u P H a c d=some r)) (fun H a c d s n o p=>[(0,A),(4,vs s a.length n),(5,vp x),(6,vs o c.length p)]) (fun H a c d s n o p=>[row (vs s a.length n) 121 2 (a.flatMap xL),row (vs o c.length p) 121 2 (c.flatMap xL),stb x 117 [(.map<|some q)],xy q (ga xL) vI d]) (fun H a c d s n o p=>H) ⟨xI,T,([]:List za),([]:List (za×Int)),W,X,none,0⟩ h (.q U) (.s4 .h3 .here .here .here) ?_
  rintro(_|aa) a c d s n o p h;·cases h
  rw[jx] at h
  refine WC.b<|B1q U<|Le 14 (xQ underlying112 U)<|Q1n U<|Lj U h (fun ab h=>?_)<|fun ab h=>?_
  ·refine WC.skip<|Lb<|jK3 h fun Q ad h=>WC.mid7 (fun(f:List za) (g:List za) (t:List (za×Int)) (B:Option Addr) (E:Nat) (F:Option Addr) (G:Nat)=>(Q f g t=some r)) (fun f g t B E F G=>[(0,A),(4,vs B f.length E),(5,vp x),(6,vs F g.length G)]) (fun f g t B E F G=>[row (vs B f.length E) 121 2 (f.flatMap xL),row (vs F g.length G) 121 2 (g.flatMap xL),stb x 117 [(.map<|some q)],xy q (ga xL) vI t]) ?_ ?_
   ·refine WC.block<|jK0 h fun R ae h=>L9 (R=some r) ([]) ([]) ?_ ?_
    ·let C:Value:=(vs s a.length n);let D:Value:=(vs o c.length p);refine B1q U<|Le 17 (xQ underlying112 U)<|Q1n U<|WC.block<|Ka (fun(I:Nat) (b:Int)=>(jw a u d c Q R I b=some r)) (fun I b=>[(0,A),(4,C),(5,vp x),(6,D),(16,C),(17,vi (a.length:Int)),(18,vi b)]) (fun I b=>[row C 121 2 (a.flatMap xL),row D 121 2 (c.flatMap xL),stb x 117 [(.map<|some q)],xy q (ga xL) vI d]) (fun I b=>I) ⟨xI,0⟩ h (.q U) (.a4) ?_
     rintro(_|af) b h;·cases h
     rw[jw] at h
     refine B1n U<|WC.b<|Lj U h (fun ag h=>?_)<|fun ag h=>?_
     ·refine WC.skip<|Lb<|WC.b<|WC.block<|WC.b<|cK h fun J h=>D1q U<|Kf (fun w hw=>Hp.vJ .here hw (by intro il;have:=J;rw[il] at this;omega)) ?_
      rintro⟨ah,rfl⟩
      refine Le 21 (w7 z8f U U J.1 J.2 qQ)<|Le 22 (wp (cs:=(xL<|nth a b)) z6p U U<|gq .here<|jb (enc:=xL) (l:=a) (i:=b) (sz:=2) (fun _=>U) J.1 J.2) (Lg 8 (xC (cs:=[vi 0,vi 0]) zlN U) fun ar _=>La U<|Lk U U (xx zoZ U U U .here U U U)<|Q0n<|WC.b ?_)
      refine bK h fun aw ai h=>D1q U<|Le 24 (wq<|L4 (l:=[.tmp 8,.tmp 5])<|.r2 U U)<|Lm 25 (zf call50<|.r2 U U) (.cons .h4 .nil) (sX hz (.cons .h4 .nil) (.s2 .here .h2) fun w pz ho la=>ms _ _ _ _ _ _ _ _ _ _ ai w pz ((M.mono<|zl).weak (fun _ _ h=>wd zl h)) ((la _ (.head _) _).stb) ((la _ (.tail _<|.head _) _).stb) ho)<|Q2n U<|B1n U<|Lj U h (fun aj h=>?_)<|fun aj h=>?_
      ·refine WC.b<|Lw (fun i=>[4,6].contains i) [db q (ga xL) vI (⟨(nth a b).ya,(nth a b).fQ⟩:za) (0:Int) (xp d (⟨(nth a b).ya,(nth a b).fQ⟩:za) 0)] U<|Li 0 28 U (xl zlO U<|xu .h4 U)<|Li 1 29 U (xq z6p U (xt .h1) U)<|L6 2 30 U (ws.wk (.cons .here .nil)<|.any U (fun _ h=>uF h) .nil) (eP (k:=(⟨(nth a b).ya,(nth a b).fQ⟩:za)) (dflt:=(0:Int)) ze3 underlying117 qk U U U .here)<|Lf 3 31 U (tR U U U)<|WD.oldQ (i:=4) (dd:=32) U (by kernel_rfl) U U U U (X7 (k:=(⟨(nth a b).ya,(nth a b).fQ⟩:za)) (dflt:=(0:Int)) ze3 underlying117 qk U U U .here) (fun _=>(ws.wk (.cons .here .nil)<|.any U (fun _ h=>XQ h) .nil)) ?_
       rintro au _
       refine Lf 5 33 U (ka U U)<|WD.jf (i:=6) U (by kernel_rfl) U U U (by kernel_rfl) (nj (k:=(⟨(nth a b).ya,(nth a b).fQ⟩:za)) (v:=i64 ((xp d (⟨(nth a b).ya,(nth a b).fQ⟩:za) 0)+1)) U U U U .here)<|WD.done (by kernel_rfl)<|Lb<|WC.b<|cK h fun ak h=>D1q U<|Le 35 (xq z6p U (xt .h1) U) (Lg 36 (xV (cs:=([(⟨(nth a b).ya,(nth a b).fQ⟩:za)]:List za).flatMap xL) z8f (Lq (l:=[.tmp 35]) (.cons U .nil) [0]) (fun _=>by kernel_rfl) U (by unfold maxLen;omega)) fun av _=>WL.fA 37 (kZ (enc:=xL) (l1:=c) (l2:=([(⟨(nth a b).ya,(nth a b).fQ⟩:za)]:List za)) z8f U U .h4 (fun _=>U) U U (qg .here) (gr oC _) ak) ?_)
       rintro⟨al,am⟩ _
       refine Q1n U<|WC.b<|bK h fun S an h=>Ld<|La U<|La U<|La U<|La U<|WL.kY (dd:=42) U U U (zf call78<|.r3 U U U) (.cons .h4 .nil) (cc hz (.cons .h4 .nil) fun w pz ho=>dq (Z:=_) (ao:=(some ⟨ah,0,none⟩)) (cap:=n) (l:=a) (i:=b) (j:=(i64 (b+1))) (r:=S) w pz  an ho) ?_
       rintro ap aq _
       exact Q1n U<|WC.exit<|WX.ip U<|Ln<|Ln<|WX.ip U<|Ln<|Lx<|Lp ⟨S,c++([(⟨(nth a b).ya,(nth a b).fQ⟩:za)]:List za),(xM d (⟨(nth a b).ya,(nth a b).fQ⟩:za)<|i64 ((xp d (⟨(nth a b).ya,(nth a b).fQ⟩:za) 0)+1)),ap,aq,al,am⟩ h (.q U)<|.s4 .here .here .h3 .h1
      ·exact WC.skip<|Lu<|Lb<|D2q U<|WL.nil<|WX.round ⟨af,i64 (b+1)⟩ h (Nat.lt_succ_self _) (.q U)<|.s4 .h2 .h2 .h2 .here
     ·exact WC.exit<|Ln<|Ln<|Lx<|Lp () h .nil .nil
    ·rintro  h
     replace h:=ae.symm.trans h
     refine B2n U<|WC.ret<|Lv<|Ll<|Ll<|Lv<|Ll<|WX.bc<|WX.nilRow 121 2 ?_
     obtain rfl:=oJ h
     exact Lh results42 (.tmp U<|.tmp U .nil)<|fun w hw=>⟨none,0,vg U U,trivial,hw.sub (.cons .here .nil)⟩
   ·rintro f g t B E F G h
    replace h:=(ad f g t).symm.trans h
    exact WX.round ⟨aa,f,g,t,B,E,F,G⟩ h (Nat.lt_succ_self _) (.q U)<|.a4
  ·exact WC.exit<|Ln<|Ln<|Lx<|Lp ⟨c,o,p⟩ h (.cons U .nil)<|.cons .h1 .nil
 ·rintro m y z h
  replace h:=(Y m).symm.trans h
  refine B3n U<|WC.ret<|WX.bc ?_
  obtain rfl:=oJ h
  exact Lh results42 (.tmp U<|.tmp U .nil)<|fun w hw=>⟨y,z,vg U U,trivial,hw.sub (.cons .here .nil)⟩
def kx(b:List za×Int)(d:(List yl)->Option (List yl×Int)):Nat->(List yl)->Int->Option (List yl×Int)
 | 0,_,_=>none
 | e+1,c,a=>if decide (a<b.1.length) then chk (0<=a/\a<b.1.length) (chk ((((c++([({(nth b.1 a) with yj:=0,fT:=0}:yl)]:List yl)).length:Nat):Int)*32<=140737488355328/\(((c++([({(nth b.1 a) with yj:=0,fT:=0}:yl)]:List yl)).length:Nat):Int)<=4611686018427387904) (kx b d e (c++([({(nth b.1 a) with yj:=0,fT:=0}:yl)]:List yl)) (i64 (a+1)))) else d c
def g0(c:zt)(d:Int)(a:List (List zd)):Option (List yl×Int):=
 (kf c d a).bind fun e=>if !e then some (([]:List yl),310) else(gE a).bind fun b=>jG (fun(f:List yl)=>some (f,b.2)) fun g=>kx b g xI ([]:List yl) 0
theorem nl(Z:Zp)(p:Option Addr)(q:Nat)(s:Option Addr)(t:Nat)(u:Option Addr)(x:Nat)(y:Option Addr)(z:Nat)(B:Option Addr)(C:Nat)(D:Option Addr)(E:Nat)(F:Option Addr)(G:Nat)(H:Option Addr)(I:Nat)(K:Option Addr)(L:Nat)(a:zt)(M:Int)(J:List (List zd))(r:List yl×Int)(h:g0 a M J=some r)(w₀:World)(hz:PZ [] w₀ Z)(R:ZS Z 4 (ju Z) p q a.fM)(S:ZS Z 4 (kv Z) s t a.yd)(T:ZS Z 4 (rq qJ) u x a.fS)(V:ZS Z 4 (rq qt) y z a.fK)(W:ZS Z 7 (vK Z) B C a.yb)(X:ZS Z 5 (rq kK) D E a.fH)(Y:ZS Z 3 (kw Z) F G a.fU)(aa:ZS Z 4 (rq kL) H I a.yc)(N:ZS Z 1 (wT Z) K L J):
  Calls Tryz.prog 24 #[.agg #[vs p a.fM.length q,vs s a.yd.length t,vs u a.fS.length x,vs y a.fK.length z,vs B a.yb.length C,vs D a.fH.length E,vs F a.fU.length G,vs H a.yc.length I],vi M,vs K J.length L] w₀ fun e w'=>∃ O:Option Addr,∃ P:Nat,e = .returned (.tuple #[vs O r.1.length P,vi r.2])/\True/\Hp [] w₀ w' [row (vs O r.1.length P) 37 4 (r.1.flatMap wP)]:=by
 unfold g0 at h
 refine Kc func24 ntmps24 ?_
 refine WC.b<|Ld (Lg 3 (xP (cs:=[vs p a.fM.length q,vs s a.yd.length t,vs u a.fS.length x,vs y a.fK.length z,vs B a.yb.length C,vs D a.fH.length E,vs F a.fU.length G,vs H a.yc.length I]) U U) fun an _=>Q2n U<|WC.b<|WC.b ?_)
 refine bK h fun ar ab h=>Ld<|Le 13 (xq z2j U (xt .here) U)<|Q2q U<|Lm 16 (zf call22<|.r3 U U U) .nil (cc hz .nil fun w pz ho=>uo _ _ _ _ _ _ _ _ _ _ _ _ _ _ _ _ _ _ _ _ _ _ _ ab w pz R S T V W X Y aa N)<|Q1n U<|Lj U h (fun ad h=>?_)<|fun ad h=>?_
 ·refine B2n U<|WC.ret<|Ll<|WX.nilRow 37 4 ?_
  obtain rfl:=oJ h
  exact Lh results24 (.tmp U<|.tmp U .nil)<|fun w hw=>⟨none,0,vg U U,trivial,hw.sub (.cons .here .nil)⟩
 ·refine WC.skip<|Lb<|WC.b<|bK h fun c ae h=>D1q U<|WL.kY (dd:=20) U U U (zf call42<|.cons U .nil) .nil (cc hz .nil fun w pz ho=>lZ _ _ _ _ _ ae w pz N) ?_
  rintro af ag _
  refine Q5n U<|B1n U<|jK1 h fun Q ah h=>WC.qN (fun(f:List yl) (k:Option Addr) (m:Nat)=>(Q f=some r)) (fun f k m=>[(9,vi c.2),(10,vs k f.length m)]) (fun f k m=>[row (vs k f.length m) 37 4 (f.flatMap wP)]) ?_ ?_
  ·let A:Value:=(vs af c.1.length ag);refine B1q U<|Le 24 (xQ underlying112 U)<|Q1n U<|WC.block<|WC.nilRow 37 4<|WC.tz (fun(n:Nat) (d:List yl) (b:Int) (g:Option Addr) (j:Nat)=>(kx c Q n d b=some r)) (fun n d b g j=>[(9,vi c.2),(10,vs g d.length j),(23,A),(24,vi (c.1.length:Int)),(25,vi b)]) (fun n d b g j=>[row (vs g d.length j) 37 4 (d.flatMap wP),row A 121 2 (c.1.flatMap xL)]) (fun n d b g j=>n) ⟨xI,([]:List yl),0,none,0⟩ h (.q U) (.a2) ?_
   rintro(_|ai) d b g j h;·cases h
   rw[kx] at h
   refine B1n U<|WC.b<|Lj U h (fun aj h=>?_)<|fun aj h=>?_
   ·refine WC.skip<|Lb<|WC.b<|WC.block<|WC.b<|cK h fun o h=>Ld<|Kf (fun w hw=>Hp.vJ .h1 hw (by intro il;have:=o;rw[il] at this;omega)) ?_
    rintro⟨ao,rfl⟩
    refine Le 27 (w7 z8f U U o.1 o.2 qQ)<|Le 28 (wp (cs:=(xL<|nth c.1 b)) z6p U U<|gq .h1<|jb (enc:=xL) (l:=c.1) (i:=b) (sz:=2) (fun _=>U) o.1 o.2) (Lg 12 (xC (cs:=[vi 0,vi 0]) zlN U) fun ap _=>Lk U U (xx zoZ U U U .here U U U)<|Q0n ?_)
    refine cK h fun ak h=>D1q U<|Le 30 (xk sE U U)<|Le 31 (xl xB U<|xu .here U)<|Le 32 (xk ph U U)<|Le 33 (xl xB U<|xu .here U)<|Le 34 (xU (v:=(.agg #[(vi<|(nth c.1 b).ya),(vi<|(nth c.1 b).fQ),vi 0,vi 0])) (Lq (l:=[.tmp 31,.tmp 33]) (.r2 U U) [0,1]) (fun _=>by kernel_rfl)) (Lg 35 (xV (cs:=([({(nth c.1 b) with yj:=0,fT:=0}:yl)]:List yl).flatMap wP) z8h (Lq (l:=[.tmp 34]) (.cons U .nil) [0]) (fun _=>by kernel_rfl) U (by unfold maxLen;omega)) fun aq _=>WL.fA 36 (kZ (enc:=wP) (l1:=d) (l2:=([({(nth c.1 b) with yj:=0,fT:=0}:yl)]:List yl)) z8h U U .h2 (fun _=>U) U U (qg .here) (gr di _) ak) ?_)
    rintro⟨al,am⟩ _
    exact La U<|WL.nil<|Lu<|Lb<|D2q U<|WL.nil<|WX.round ⟨ai,d++([({(nth c.1 b) with yj:=0,fT:=0}:yl)]:List yl),i64 (b+1),al,am⟩ h (Nat.lt_succ_self _) (.q U)<|.s2 .here .h2
   ·exact WC.exit<|Ln<|Ln<|Lx<|Lp ⟨d,g,j⟩ h (.q U)<|.cons .here .nil
  ·rintro f k m h
   replace h:=(ah f).symm.trans h
   refine B4n U<|WC.ret ?_
   obtain rfl:=oJ h
   exact Lh results24 (.tmp U<|.tmp U .nil)<|fun w hw=>⟨k,m,vg U U,trivial,hw.sub (.cons .here .nil)⟩
def jc(b:Int)(c:Option Bool):Nat->Int->Option Bool
 | 0,_=>none
 | d+1,a=>if decide (a<=12800) then if decide (a=b) then some true else jc b c d (i64 (a*2)) else c
def tq(a:Int):Option Bool:=
 mh (some false) fun b=>jc a b xI 100
theorem Yk(Z:Zp)(c:Int)(r:Bool)(h:tq c=some r)(w₀:World)(hz:PZ [] w₀ Z):
  RC 41 #[vi c] w₀ (.bool r) [] []:=by
 unfold tq at h
 refine L7 func41 ntmps41 ?_
 refine B1n U<|jK0 h fun d e h=>L9 (d=some r) ([]) ([]) ?_ ?_
 ·refine B1n U<|WC.block<|Ka (fun(b:Nat) (a:Int)=>(jc c d b a=some r)) (fun b a=>[(0,vi c),(3,vi a)]) (fun b a=>[]) (fun b a=>b) ⟨xI,100⟩ h (.q U) .nil ?_
  rintro(_|f) a h;·cases h
  rw[jc] at h
  refine WC.b<|B2n U<|Lj U h (fun g h=>?_)<|fun g h=>?_
  ·refine WC.skip<|Lb<|WC.b<|WC.block<|B3n U<|Lj U h (fun i h=>?_)<|fun i h=>?_
   ·refine B1n U<|WC.ret<|Lv<|Ll<|Ll<|Lv<|Ll ?_
    obtain rfl:=oJ h
    exact Lh results41 (.tmp U .nil)<|fun w hw=>⟨xK U,hw.sub .nil⟩
   ·exact WC.skip<|Lu<|Lb<|D3q U<|WL.nil<|WX.round ⟨f,i64 (a*2)⟩ h (Nat.lt_succ_self _) (.q U) .nil
  ·exact WC.exit<|Ln<|Ln<|Lx<|Lp () h .nil .nil
 ·rintro  h
  replace h:=e.symm.trans h
  refine B1n U<|WC.ret ?_
  obtain rfl:=oJ h
  exact Lh results41 (.tmp U .nil)<|fun w hw=>⟨xK U,hw.sub .nil⟩
def qO(a:z6):Option Bool:=
 (tq a.yr).bind fun b=>some (((!b)||(decide (a.yo<1)))||(decide (a.yo>72)))
theorem cW(Z:Zp)(b:Option Addr)(c:Nat)(a:z6)(r:Bool)(h:qO a=some r)(w₀:World)(hz:PZ [] w₀ Z)(i:ZS Z 3 (rq oA) b c a.yy):
  RC 40 #[.agg #[.string a.ys,.string a.yk.yq,.string a.yk.yu,.string a.yk.yv,vi a.yr,vi a.yo,vs b a.yy.length c]] w₀ (.bool r) [] []:=by
 unfold qO at h
 refine L7 func40 ntmps40 ?_
 refine WC.b<|Ld (Lg 1 (xP (cs:=[.string a.ys,.string a.yk.yq,.string a.yk.yu,.string a.yk.yv,vi a.yr,vi a.yo,vs b a.yy.length c]) U U) fun j _=>Q1n U<|WC.b ?_)
 refine bK h fun d e h=>Ld<|Le 3 (xk oD U U)<|Le 4 (xl xB U<|xu .here U)<|Lm 5 (zf call41<|.cons U .nil) .nil (cc hz .nil fun w pz ho=>Yk _ _ _ e w pz )<|Q2q U<|Ly false 3 7 (B:=(!d)||(decide (a.yo<1))) U U U U U U (fun h=>(uz h).symm) (fun _ f=>?_) ?_
 ·exact Le 8 (xk fj U U)<|Le 9 (xl xB U<|xu .here U)<|Q2q U<|Lz (uA f) U U .all
 refine La U<|Ly false 3 12 (B:=((!d)||(decide (a.yo<1)))||(decide (a.yo>72))) U U U U U U (fun h=>(uz h).symm) (fun _ g=>?_) ?_
 ·exact Le 13 (xk fj U U)<|Le 14 (xl xB U<|xu .here U)<|Q2q U<|Lz (uA g) U U .all
 refine Q1n U<|WC.ret ?_
 obtain rfl:=oJ h
 exact Lh results40 (.tmp U .nil)<|fun w hw=>⟨xK U,hw.sub .nil⟩
def wu(b:List z6)(zab:z6->Option Bool)(c:Option Int):Nat->Int->Option Int
 | 0,_=>none
 | d+1,a=>if decide (a<b.length) then chk (0<=a/\a<b.length) ((zab (⟨(nth b a).ys,(⟨((nth b a).yk).yq,((nth b a).yk).yu,((nth b a).yk).yv⟩:yf),(nth b a).yr,(nth b a).yo,(nth b a).yy⟩:z6)).bind fun e=>if e then some a else wu b zab c d (i64 (a+1))) else c
def j6(a:List z6)(zab:z6->Option Bool):Option Int:=
 mh (some (-1)) fun b=>wu a zab b xI 0
theorem tC(Z:Zp)(d:Option Addr)(g:Nat)(zgv:FuncId)(zmz:List Value)(b:List z6)(zab:z6->Option Bool)(r:Int)(h:j6 b zab=some r)(w₀:World)(hz:PZ [] w₀ Z)(j:ZS Z 7 (vK Z) d g b)(k:∀ args w,(callFunc zgv args).run Tryz.prog w = .ok (.enter zgv args) w)(m:∀ w:World,PZ [] w Z->∀(x0:z6) (kd:Option Addr) (fx:Nat) (r:Bool),ZS Z 3 (rq oA) kd fx x0.yy->zab x0=some r->Calls Tryz.prog zgv (([.agg #[.string x0.ys,.string x0.yk.yq,.string x0.yk.yu,.string x0.yk.yv,vi x0.yr,vi x0.yo,vs kd x0.yy.length fx]]:List Value)++zmz).toArray w fun e w'=>e = .returned (.bool r)/\Hp [] w w' []):
  RC 72 #[vs d b.length g,.func (.func zgv) #[] (zmz).toArray] w₀ (vi r) [] []:=by
 unfold j6 at h
 refine L0 func72 ntmps72 ?_
 refine B1n U<|jK0 h fun i n h=>L9 (i=some r) ([]) ([]) ?_ ?_
 ·refine B1q U<|Le 7 (xQ underlying26 U)<|Q1n U<|WC.block<|Ka (fun(c:Nat) (a:Int)=>(wu b zab i c a=some r)) (fun c a=>[(0,vs d b.length g),(1,.func (.func zgv) #[] (zmz).toArray),(7,vi (b.length:Int)),(8,vi a)]) (fun c a=>[]) (fun c a=>c) ⟨xI,0⟩ h (.q U) .nil ?_
  rintro(_|o) a h;·cases h
  rw[wu] at h
  refine B1n U<|WC.b<|Lj U h (fun p h=>?_)<|fun p h=>?_
  ·refine WC.skip<|Lb<|WC.b<|WC.block<|B2n U<|WC.b<|cK h fun q h=>bK h fun s t h=>D3q U<|L2 (dd:=14) U U (Z:=Z) (Pr:=(vK Z)) z75 U U j q ?_
   rintro A B u C ⟨v,x,rfl,y⟩
   refine Le 15 (xq zsQ U (vY hz.pv u) U)<|Lm 16 (qp (l:=[.tmp 15]) (f:=zgv) (caps:=zmz) k U<|.cons U .nil) .nil (fun w hw=>m w (hz.now hw) (⟨(nth b a).ys,(⟨((nth b a).yk).yq,((nth b a).yk).yu,((nth b a).yk).yv⟩:yf),(nth b a).yr,(nth b a).yo,(nth b a).yy⟩:z6) v x s y t)<|Q0n<|Lj U h (fun z h=>?_)<|fun z h=>?_
   ·refine B2n U<|WC.ret<|Lv<|Ll<|Ll<|Lv<|Ll ?_
    obtain rfl:=oJ h
    exact Lh results72 (.tmp U .nil)<|fun w hw=>⟨xK U,hw.sub .nil⟩
   ·exact WC.skip<|Lu<|Lb<|D2q U<|WL.nil<|WX.round ⟨o,i64 (a+1)⟩ h (Nat.lt_succ_self _) (.q U) .nil
  ·exact WC.exit<|Ln<|Ln<|Lx<|Lp () h .nil .nil
 ·rintro  h
  replace h:=n.symm.trans h
  refine B1n U<|WC.ret ?_
  obtain rfl:=oJ h
  exact Lh results72 (.tmp U .nil)<|fun w hw=>⟨xK U,hw.sub .nil⟩
def vz(a:List z6)(zj5:z6->Option Bool):Option Bool:=
 (j6 a zj5).bind fun b=>some (decide (b>=0))
theorem uW(Z:Zp)(b:Option Addr)(c:Nat)(zj6:FuncId)(zpK:List Value)(a:List z6)(zj5:z6->Option Bool)(r:Bool)(h:vz a zj5=some r)(w₀:World)(hz:PZ [] w₀ Z)(d:ZS Z 7 (vK Z) b c a)(f:∀ args w,(callFunc zj6 args).run Tryz.prog w = .ok (.enter zj6 args) w)(g:∀ w:World,PZ [] w Z->∀(x0:z6) (kd:Option Addr) (fx:Nat) (r:Bool),ZS Z 3 (rq oA) kd fx x0.yy->zj5 x0=some r->Calls Tryz.prog zj6 (([.agg #[.string x0.ys,.string x0.yk.yq,.string x0.yk.yu,.string x0.yk.yv,vi x0.yr,vi x0.yo,vs kd x0.yy.length fx]]:List Value)++zpK).toArray w fun e w'=>e = .returned (.bool r)/\Hp [] w w' []):
  RC 39 #[vs b a.length c,.func (.func zj6) #[] (zpK).toArray] w₀ (.bool r) [] []:=by
 unfold vz at h
 refine L0 func39 ntmps39 ?_
 refine B1n U<|WC.b<|bK h fun j i h=>D2q U<|Lm 7 (zf call72<|.r2 U U) .nil (cc hz .nil fun w pz ho=>tC _ _ _ (zgv:=zj6) (zmz:=zpK) _ (zab:=zj5) _ i w pz d f g)<|Q2n U<|WC.ret ?_
 obtain rfl:=oJ h
 exact Lh results39 (.tmp U .nil)<|fun w hw=>⟨xK U,hw.sub .nil⟩
def kB(a:zd)(b:za):Option Bool:=
 (kQ a).bind fun c=>some (decide (c=b))
theorem oL(Z:Zp)(e:Addr)(c:zd)(d:za)(r:Bool)(h:kB c d=some r)(w₀:World)(hz:PZ [] w₀ Z)(f:ZC Z e [vi d.ya,vi d.fQ]):
  RC 117 #[.agg #[vi c.ya,vi c.yh,vi c.fQ],vq e] w₀ (.bool r) [] []:=by
 unfold kB at h
 refine L0 func117 ntmps117 ?_
 refine WC.b<|Ld (Lg 2 (xP (cs:=[vi c.ya,vi c.yh,vi c.fQ]) U U) fun j _=>Q1n U<|WC.b ?_)
 refine bK h fun g i h=>Lw nc [] U<|Li 0 4 U (xq z5R U (xt .here) U)<|L5 1 5 U (zf call60<|.cons U .nil) (cc hz .nil fun w pz ho=>fu _ _ _ i w pz )<|Li 2 6 U (xq z6p U (vY hz.pv f) U)<|Lf 3 7 U (su (enc:=xL) (a:=g) (b:=d) zp0 U U)<|Lf 4 3 U (q_z U)<|WD.done (by kernel_rfl)<|Lb<|WC.ret ?_
 obtain rfl:=oJ h
 exact Lh results117 (.tmp U .nil)<|fun w hw=>⟨xK U,hw.sub .nil⟩
def wF(a:List zd)(zj8:zd->Option Bool):Option Bool:=
 (we a zj8).bind fun b=>some (decide (b>=0))
theorem mJ(Z:Zp)(b:Option Addr)(c:Nat)(zj9:FuncId)(zpL:List Value)(a:List zd)(zj8:zd->Option Bool)(r:Bool)(h:wF a zj8=some r)(w₀:World)(hz:PZ [] w₀ Z)(d:ZS Z 3 (rq gk) b c a)(f:∀ args w,(callFunc zj9 args).run Tryz.prog w = .ok (.enter zj9 args) w)(g:∀ w:World,PZ [] w Z->∀(x0:zd) (r:Bool),zj8 x0=some r->Calls Tryz.prog zj9 (([.agg #[vi x0.ya,vi x0.yh,vi x0.fQ]]:List Value)++zpL).toArray w fun e w'=>e = .returned (.bool r)/\Hp [] w w' []):
  RC 75 #[vs b a.length c,.func (.func zj9) #[] (zpL).toArray] w₀ (.bool r) [] []:=by
 unfold wF at h
 refine L0 func75 ntmps75 ?_
 refine B1n U<|WC.b<|bK h fun j i h=>D2q U<|Lm 7 (zf call94<|.r2 U U) .nil (cc hz .nil fun w pz ho=>qv _ _ _ (zaL:=zj9) (zee:=zpL) _ (z8l:=zj8) _ i w pz d f g)<|Q2n U<|WC.ret ?_
 obtain rfl:=oJ h
 exact Lh results75 (.tmp U .nil)<|fun w hw=>⟨xK U,hw.sub .nil⟩
def ql(a:Int):Option z1:=
 some (⟨a,1⟩:z1)
theorem gF(Z:Zp)(a:Int)(r:z1)(h:ql a=some r)(w₀:World)(hz:PZ [] w₀ Z):
  RC 80 #[vi a] w₀ (.agg #[vi r.fN,vi r.fD]) [] []:=by
 unfold ql at h
 refine L7 func80 ntmps80 ?_
 refine WC.b<|Ld (Lg 2 (xC (cs:=[vi 0,vi 0]) z1d U) fun b _=>Q0n<|B1q U<|Le 4 (xU (v:=(.agg #[vi a,vi 1])) (Lq (l:=[.tmp 3,.const (vi 1)]) (.r2 U U) [0,1]) (fun _=>by kernel_rfl))<|Lk U U (xx zI U U U .here U U U)<|Q0n<|WC.ret ?_)
 obtain rfl:=oJ h
 exact Lh results80 (.agg U zi U (xt .here) .nil)<|fun w hw=>⟨xK U,hw.sub .nil⟩
def fF(a:Int):Option Int:=
 if decide (a<0) then some (u64 ((u64 (i64 (0-(i64 (a+1)))))+1)) else some (u64 a)
theorem rN(Z:Zp)(a:Int)(r:Int)(h:fF a=some r)(w₀:World)(hz:PZ [] w₀ Z):
  RC 166 #[vi a] w₀ (.int .u64 r) [] []:=by
 unfold fF at h
 refine L7 func166 ntmps166 ?_
 refine B1n U<|WC.b<|B2n U<|Lj U h (fun b h=>?_)<|fun b h=>?_
 ·refine WC.b<|Ld<|La U<|La U<|Le 7 (ns U U)<|Le 8 (tk underlying3 underlying212 U U)<|Q2n U<|WC.ret<|Ll ?_
  obtain rfl:=oJ h
  exact Lh results166 (.tmp U .nil)<|fun w hw=>⟨xK U,hw.sub .nil⟩
 ·refine WC.skip<|Lb<|B1q U<|Le 11 (tk underlying3 underlying212 U U)<|Q1n U<|WC.ret ?_
  obtain rfl:=oJ h
  exact Lh results166 (.tmp U .nil)<|fun w hw=>⟨xK U,hw.sub .nil⟩
def q7(b:Int->Option Int):Nat->Int->Int->Option Int
 | 0,_,_=>none
 | d+1,c,a=>if decide (a≠0) then chk ((a:Int)≠0) (q7 b d a (Int.tmod c a)) else b c
def gc(a:Int)(b:Int):Option Int:=
 jG (fun(c:Int)=>some c) fun d=>q7 d xI a b
theorem pn(Z:Zp)(e:Int)(f:Int)(r:Int)(h:gc e f=some r)(w₀:World)(hz:PZ [] w₀ Z):
  RC 165 #[.int .u64 e,.int .u64 f] w₀ (.int .u64 r) [] []:=by
 unfold gc at h
 refine L0 func165 ntmps165 ?_
 refine B1n U<|jK1 h fun g i h=>WC.jh (fun(c:Int)=>(g c=some r)) (fun c=>[(0,.int .u64 c)]) (fun c=>[]) ?_ ?_
 ·refine WC.block<|WC.p9 (fun(d:Nat) (a:Int) (b:Int)=>(q7 g d a b=some r)) (fun d a b=>[(0,.int .u64 a),(1,.int .u64 b)]) (fun d a b=>[]) (fun d a b=>d) ⟨xI,e,f⟩ h (.q U) .nil ?_
  rintro(_|j) a b h;·cases h
  rw[q7] at h
  refine WC.b<|B2n U<|Lj U h (fun k h=>?_)<|fun k h=>?_
  ·exact WC.skip<|Lb<|WC.block<|cK h fun l h=>Lw nc [] U<|Lf 0 7 U (q_m U)<|Lf 1 8 U (q_m U)<|Lf 2 9 U (q_m U)<|Lf 3 10 U (nq U U l U)<|Lf 4 0 U (q_z U)<|Lf 5 1 U (q_z U)<|WD.done (by kernel_rfl)<|Lu<|WX.round ⟨j,b,Int.tmod a b⟩ h (Nat.lt_succ_self _) (.q U) .nil
  ·exact WC.exit<|Ln<|Ln<|Lx<|Lp a h (.cons U .nil) .nil
 ·rintro c h
  replace h:=(i c).symm.trans h
  refine B2n U<|WC.ret ?_
  obtain rfl:=oJ h
  exact Lh results165 (.tmp U .nil)<|fun w hw=>⟨xK U,hw.sub .nil⟩
def gN(e:Int)(c:Int):Option (z1×Int):=
 if decide (c=0) then some ((⟨0,0⟩:z1),2) else(fF e).bind fun b=>(fF c).bind fun d=>(gc b d).bind fun a=>chk ((a:Int)≠0) (if (decide ((u64 (Int.tdiv b a))>1073741824))||(decide ((u64 (Int.tdiv d a))>1073741824)) then some ((⟨0,0⟩:z1),3) else jG (fun(g:Int)=>some ((⟨g,i64 (u64 (Int.tdiv d a))⟩:z1),0)) fun f=>if (decide (e<0)) != (decide (c<0)) then f (i64 (0-(i64 (u64 (Int.tdiv b a))))) else f (i64 (u64 (Int.tdiv b a))))
theorem sb(Z:Zp)(c:Int)(d:Int)(r:z1×Int)(h:gN c d=some r)(w₀:World)(hz:PZ [] w₀ Z):
  RC 160 #[vi c,vi d] w₀ (.tuple #[.agg #[vi r.1.fN,vi r.1.fD],vi r.2]) [] []:=by
 unfold gN at h
 refine L0 func160 ntmps160 ?_
 refine WC.b<|Ld (Lg 4 (xC (cs:=[vi 0,vi 0]) z1d U) fun e _=>Q1n U<|WC.b<|B2n U<|Lj U h (fun k h=>?_)<|fun k h=>?_)
 ·refine B0q<|Le 12 (xU (v:=(.agg #[vi 0,vi 0])) (Lq (l:=[]) .nil []) (fun _=>by kernel_rfl))<|Lk U U (xx zI U U U .here U U U)<|Q1n U<|WC.ret<|Ll ?_
  obtain rfl:=oJ h
  exact Lh results160 (.agg U zi U (xt .here)<|.tmp U .nil)<|fun w hw=>⟨vg U U,hw.sub .nil⟩
 ·refine WC.skip<|Lb<|WC.b<|bK h fun f m h=>bK h fun g n h=>D1q U<|Lm 14 (zf call166<|.cons U .nil) .nil (cc hz .nil fun w pz ho=>rN _ _ _ m w pz )<|La U<|Lm 16 (zf call166<|.cons U .nil) .nil (cc hz .nil fun w pz ho=>rN _ _ _ n w pz )<|Q2n U<|WC.b<|bK h fun b o h=>D2q U<|Lm 19 (zf call165<|.r2 U U) .nil (cc hz .nil fun w pz ho=>pn _ _ _ _ o w pz )<|Q1n U<|WC.b<|cK h fun i h=>Lw nc [] U<|Lf 0 20 U (q_m U)<|Lf 1 21 U (q_m U)<|Lf 2 22 U (l3 U U i U)<|Lf 3 23 U (q_m U)<|Lf 4 24 U (q_m U)<|Lf 5 25 U (l3 U U i U)<|Lf 6 6 U (q_z U)<|Lf 7 7 U (q_z U)<|WD.done (by kernel_rfl)<|Lb<|WC.b<|WC.b<|Ld<|La U<|La U<|La U<|Ly false 2 28 (B:=(decide ((u64<|Int.tdiv f b)>1073741824))||(decide ((u64<|Int.tdiv g b)>1073741824))) U U U U U U (fun h=>(uz h).symm) (fun _ p=>?_) ?_
  ·exact La U<|La U<|La U<|Lz (uA p) U U .all
  refine Q0n<|Lj U h (fun q h=>?_)<|fun q h=>?_
  ·refine B0q<|Le 32 (xU (v:=(.agg #[vi 0,vi 0])) (Lq (l:=[]) .nil []) (fun _=>by kernel_rfl))<|Lk U U (xx zI U U U .here U U U)<|Q1n U<|WC.ret<|Ll ?_
   obtain rfl:=oJ h
   exact Lh results160 (.agg U zi U (xt .here)<|.tmp U .nil)<|fun w hw=>⟨vg U U,hw.sub .nil⟩
  ·let A:=(i64 (u64 (Int.tdiv f b)));let C:Value:=(vi (i64 (u64 (Int.tdiv g b))));refine WC.skip<|Lb<|B1q U<|Le 34 (tk underlying212 underlying3 U U)<|La U<|Le 36 (tk underlying212 underlying3 U U)<|Le 37 (xU (v:=(.agg #[vi A,C])) (Lq (l:=[.tmp 34,.tmp 36]) (.r2 U U) [0,1]) (fun _=>by kernel_rfl))<|Lg 9 (xC (cs:=[vi 0,vi 0]) z1d U) ?_
   intro j _
   refine Lk U U (xx zI U U U .here U U U)<|Q0n<|jK1 h fun s t h=>WC.jh (fun(a:Int)=>(s a=some r)) (fun a=>[(4,vp e),(9,vp j)]) (fun a=>[stb e 175 [vi 0,vi 0],stb j 175 [vi a,C]]) ?_ ?_
   ·refine WC.b<|Ld<|La U<|La U<|La U<|La U<|Le 42 (Q6 underlying4 U U)<|Q0n<|Lj U h (fun u h=>?_)<|fun u h=>?_
    ·exact Ld<|Le 43 (xk qh U U)<|Le 44 (xl xB U<|xu .here U)<|Le 45 (ns U U)<|Le 46 (xk qh U U)<|Lk U U (jU (ds:=[(vi<|i64 (0-A)),C]) uH U U U U U .here U U)<|WL.nil<|Lp (i64 (0-A)) h (.q U)<|.s2 .h1 .here
    ·exact WC.skip<|Lp A h (.q U)<|.s2 .h1 .here
   ·rintro a h
    replace h:=(t a).symm.trans h
    refine B0q<|Le 47 (xq zi U (xt .h1) U)<|Lk U U (xx zI U U U .here U U U)<|Q1n U<|WC.ret ?_
    obtain rfl:=oJ h
    exact Lh results160 (.agg U zi U (xt .here)<|.tmp U .nil)<|fun w hw=>⟨vg U U,hw.sub .nil⟩
def jX(b:zt)(d:List (List zd))(e:List (zT×z1))(f:List (za×Int))(g:Int)(a:Int):Option z1:=
 chk (0<=a/\a<b.yb.length) ((gN ((nth b.yb a).yo) ((nth b.yb a).yr)).bind fun c=>some c.1)
theorem td(Z:Zp)(g:Addr)(k:Option Addr)(l:Nat)(m:Option Addr)(n:Nat)(o:Option Addr)(p:Nat)(q:Option Addr)(s:Nat)(t:Option Addr)(u:Nat)(v:Option Addr)(x:Nat)(y:Option Addr)(z:Nat)(A:Option Addr)(B:Nat)(C:Option Addr)(D:Nat)(b:Nat)(c:Nat)(a:zt)(f:List (List zd))(d:List (zT×z1))(e:List (za×Int))(E:Int)(F:Int)(r:z1)(h:jX a f d e E F=some r)(w₀:World)(hz:Pz [xy b (ga qu) (ga xG) d,xy c (ga xL) vI e] w₀ Z)(M:ZS Z 4 (ju Z) k l a.fM)(N:ZS Z 4 (kv Z) m n a.yd)(O:ZS Z 4 (rq qJ) o p a.fS)(P:ZS Z 4 (rq qt) q s a.fK)(G:ZS Z 7 (vK Z) t u a.yb)(Q:ZS Z 5 (rq kK) v x a.fH)(R:ZS Z 3 (kw Z) y z a.fU)(S:ZS Z 4 (rq kL) A B a.yc)(T:ZS Z 1 (wT Z) C D f)(H:ZC Z g [vs k a.fM.length l,vs m a.yd.length n,vs o a.fS.length p,vs q a.fK.length s,vs t a.yb.length u,vs v a.fH.length x,vs y a.fU.length z,vs A a.yc.length B,vs C f.length D,.map (some b),.map (some c),vi E])(fh:Ho w₀ [xy b (ga qu) (ga xG) d,xy c (ga xL) vI e]):
  RF 121 #[vq g,vi F] w₀ (.agg #[vi r.fN,vi r.fD]) [xy b (ga qu) (ga xG) d,xy c (ga xL) vI e] [xy b (ga qu) (ga xG) d,xy c (ga xL) vI e]:=by
 unfold jX at h
 refine Kd func121 ntmps121 fh ?_
 refine WC.b<|Ld (Lg 4 (xC (cs:=[vi 0,vi 0]) z1d U) fun V _=>Q0n<|WC.b ?_)
 refine cK h fun I h=>bK h fun al J h=>Lw (fun i=>[23].contains i) [] U<|Lf 0 8 U (q_m U)<|Lf 1 9 U (wx U)<|Lf 2 10 U (xk md U U)<|Lf 3 11 U (xk jK U U)<|Li 4 12 U (xl z6n U<|wy hz.pv H U)<|Lf 5 13 U (q_m U)<|L8 (j:=6) (dd:=14) (by kernel_rfl) U z2J z2K U U (Z:=Z) (Pr:=(vK Z)) z75 U U G I ?_
 rintro W X K Y ⟨aa,ab,rfl,ad⟩
 refine Lf 7 15 U (xk fj U U)<|Li 8 16 U (xl xB U<|wy hz.pv K U)<|Lf 9 17 U (q_m U)<|Lf 10 18 U (wx U)<|Lf 11 19 U (xk md U U)<|Lf 12 20 U (xk jK U U)<|Li 13 21 U (xl z6n U<|wy hz.pv H U)<|Lf 14 22 U (q_m U)<|L8 (j:=15) (dd:=23) (by kernel_rfl) U z2J z2K U U (Z:=Z) (Pr:=(vK Z)) z75 U U G I ?_
 rintro ae af L ag ⟨ah,ai,rfl,aj⟩
 refine Lf 16 24 U (xk oD U U)<|Li 17 25 U (xl xB U<|wy hz.pv L U)<|L5 18 26 U (zf call160<|.r2 U U) (cc hz .nil fun w pz ho=>sb _ _ _ _ J w pz )<|Lf 19 7 U (q_m U)<|Lf 20 27 U (ka U U)<|Lf 21 28 U (ka U U) (WD.new (i:=22) (dd:=5) U (by kernel_rfl) U U U (xC (cs:=[vi 0,vi 0]) z1d U) (fun h'=>absurd h' (by decide)) fun ak _=>WD.forced0 (i:=23) U (by kernel_rfl) U U U (ws.of .nil) (xx zI U U U .here U U U)<|Lf 24 6 U (q_z U)<|WD.done (by kernel_rfl)<|Lb<|B0q<|Le 29 (xq zi U (xt .here) U)<|Lk U U (xx zI U U U .h1 U U U)<|Q0n<|WC.ret ?_)
 obtain rfl:=oJ h
 exact Lh results121 (.agg U zi U (xt .here) .nil)<|fun w hw=>⟨xK U,hw.sub (.s2 .h2 .h2)⟩
def vx(a:z1):Option Bool:=
 (if (((decide (a.fD>=1))&&(decide (a.fD<=1073741824)))&&(decide (a.fN>=(-1073741824))))&&(decide (a.fN<=1073741824)) then(fF a.fN).bind fun b=>(fF a.fD).bind fun c=>(gc b c).bind fun d=>some (decide (d=1)) else some false).bind fun e=>some e
theorem qC(Z:Zp)(a:z1)(r:Bool)(h:vx a=some r)(w₀:World)(hz:PZ [] w₀ Z):
  RC 130 #[.agg #[vi a.fN,vi a.fD]] w₀ (.bool r) [] []:=by
 unfold vx at h
 refine L7 func130 ntmps130 ?_
 refine WC.b<|Ld (Lg 1 (xP (cs:=[vi a.fN,vi a.fD]) U U) fun c _=>Q1n U<|WC.b ?_)
 obtain⟨u,o,h⟩:=ze h
 let D:Value:=(.bool ((decide (a.fD>=1))&&(decide (a.fD<=1073741824))));refine Lw nc [] U<|Lf 0 3 U (xk qR U U)<|Li 1 4 U (xl xB U<|xu .here U)<|Lf 2 5 U (X1 U U)<|Lf 3 6 U (q_m U)<|Kb (fuel':=21) [(1,vp c),(2,.bool false),(6,(.bool<|decide (a.fD>=1))),(10,D)] (wm 29 (dn 8)) ?_<|fun p=>?_
 rotate_left
 ·rcases Bool.eq_false_or_eq_true (decide (a.fD>=1)) with hb' | hb'
  ·have d:=hb';clear hb'
   refine L3 (i:=6) U d<|Lf 4 7 U (xk qR U U)<|Li 5 8 U (xl xB U<|xu .here U)<|Lf 6 9 U (X0 U U)<|Lf 7 10 U (jI U U)<|Lt (.cons .here .nil) ?_ p
   exact .r4 U U (zL<|Eq.symm d)<|zL<|kc d
  ·have e:=hb';clear hb'
   refine L3 (i:=6) U e<|Lo 4 7 U<|Lo 5 8 U<|Lo 6 9 U<|Lf 7 10 U (jJ U U)<|Lt (.cons .here .nil) ?_ p
   exact .r4 U U (zL<|Eq.symm e)<|zL<|kb e
 let C:Value:=(.bool (((decide (a.fD>=1))&&(decide (a.fD<=1073741824)))&&(decide (a.fN>=(-1073741824)))));refine WD.d (bz 8 21) (by kernel_rfl)<|Lf 8 11 U (q_m U)<|Kb (fuel':=16) [(1,vp c),(2,.bool false),(11,D),(15,C)] (wm 29 (dn 13)) ?_<|fun q=>?_
 rotate_left
 ·rcases Bool.eq_false_or_eq_true ((decide (a.fD>=1))&&(decide (a.fD<=1073741824))) with hb' | hb'
  ·have f:=hb';clear hb'
   refine L3 (i:=11) U f<|Lf 9 12 U (xk qh U U)<|Li 10 13 U (xl xB U<|xu .here U)<|Lf 11 14 U (X1 U U)<|Lf 12 15 U (jI U U)<|Lt (.cons .here .nil) ?_ q
   exact .r4 U U (zL<|Eq.symm f)<|zL<|kc f
  ·have g:=hb';clear hb'
   refine L3 (i:=11) U g<|Lo 9 12 U<|Lo 10 13 U<|Lo 11 14 U<|Lf 12 15 U (jJ U U)<|Lt (.cons .here .nil) ?_ q
   exact .r4 U U (zL<|Eq.symm g)<|zL<|kb g
 let A:Value:=(.bool ((((decide (a.fD>=1))&&(decide (a.fD<=1073741824)))&&(decide (a.fN>=(-1073741824))))&&(decide (a.fN<=1073741824))));refine WD.d (bz 13 16) (by kernel_rfl)<|Lf 13 16 U (q_m U)<|Kb (fuel':=11) [(1,vp c),(2,.bool false),(16,C),(20,A)] (wm 29 (dn 18)) ?_<|fun s=>?_
 rotate_left
 ·rcases Bool.eq_false_or_eq_true (((decide (a.fD>=1))&&(decide (a.fD<=1073741824)))&&(decide (a.fN>=(-1073741824)))) with hb' | hb'
  ·have j:=hb';clear hb'
   refine L3 (i:=16) U j<|Lf 14 17 U (xk qh U U)<|Li 15 18 U (xl xB U<|xu .here U)<|Lf 16 19 U (X0 U U)<|Lf 17 20 U (jI U U)<|Lt (.cons .here .nil) ?_ s
   exact .r4 U U (zL<|Eq.symm j)<|zL<|kc j
  ·have k:=hb';clear hb'
   refine L3 (i:=16) U k<|Lo 14 17 U<|Lo 15 18 U<|Lo 16 19 U<|Lf 17 20 U (jJ U U)<|Lt (.cons .here .nil) ?_ s
   exact .r4 U U (zL<|Eq.symm k)<|zL<|kb k
 refine WD.d (bz 18 11) (by kernel_rfl)<|Lf 18 21 U (q_m U)<|Kb (fuel':=1) [(2,.bool false),(21,A),(30,.bool u)] (wm 29 (dn 28)) ?_<|fun t=>?_
 rotate_left
 ·rcases Bool.eq_false_or_eq_true ((((decide (a.fD>=1))&&(decide (a.fD<=1073741824)))&&(decide (a.fN>=(-1073741824))))&&(decide (a.fN<=1073741824))) with hb' | hb'
  ·have l:=hb';clear hb'
   have b:=qq o l
   obtain⟨z,v,b⟩:=ze b
   obtain⟨B,x,b⟩:=ze b
   obtain⟨E,y,b⟩:=ze b
   replace b:=oJ b
   refine L3 (i:=21) U l<|Lf 19 22 U (xk qh U U)<|Li 20 23 U (xl xB U<|xu .here U)<|L5 21 24 U (zf call166<|.cons U .nil) (cc hz .nil fun w pz ho=>rN _ _ _ v w pz )<|Lf 22 25 U (xk qR U U)<|Li 23 26 U (xl xB U<|xu .here U)<|L5 24 27 U (zf call166<|.cons U .nil) (cc hz .nil fun w pz ho=>rN _ _ _ x w pz )<|L5 25 28 U (zf call165<|.r2 U U) (cc hz .nil fun w pz ho=>pn _ _ _ _ y w pz )<|Lf 26 29 U (l4 U U)<|Lf 27 30 U (jI U U)<|Lt (.cons .here .nil) ?_ t
   exact .r3 U (zL<|Eq.symm l)<|zL b
  ·have m:=hb';clear hb'
   have n:=qr o m
   replace n:=oJ n
   refine L3 (i:=21) U m<|Lo 19 22 U<|Lo 20 23 U<|Lo 21 24 U<|Lo 22 25 U<|Lo 23 26 U<|Lo 24 27 U<|Lo 25 28 U<|Lo 26 29 U<|Lf 27 30 U (jJ U U)<|Lt (.cons .here .nil) ?_ t
   exact .r3 U (zL<|Eq.symm m)<|zL n
 refine WD.d (bz 28 1) (by kernel_rfl)<|Lf 28 2 U (q_z U)<|WD.done (by kernel_rfl)<|Lb<|WC.ret ?_
 obtain rfl:=oJ h
 exact Lh results130 (.tmp U .nil)<|fun w hw=>⟨xK U,hw.sub .nil⟩
def rO(a:z1)(b:z1):Option (Int×Int):=
 some (i64 (a.fN*b.fN),i64 (a.fD*b.fD))
theorem Xe(Z:Zp)(c:Addr)(d:Addr)(a:z1)(b:z1)(r:Int×Int)(h:rO a b=some r)(w₀:World)(hz:PZ [] w₀ Z)(e:ZC Z c [vi a.fN,vi a.fD])(f:ZC Z d [vi b.fN,vi b.fD]):
  RC 189 #[vq c,vq d] w₀ (.tuple #[vi r.1,vi r.2]) [] []:=by
 unfold rO at h
 refine L0 func189 ntmps189 ?_
 refine B2n U<|WC.b<|Lw nc [] U<|Lf 0 4 U (xk qh U U)<|Li 1 5 U (xl xB U<|wy hz.pv e U)<|Lf 2 6 U (xk qh U U)<|Li 3 7 U (xl xB U<|wy hz.pv f U)<|Lf 4 8 U (uk U U U)<|Lf 5 9 U (xk qR U U)<|Li 6 10 U (xl xB U<|wy hz.pv e U)<|Lf 7 11 U (xk qR U U)<|Li 8 12 U (xl xB U<|wy hz.pv f U)<|Lf 9 13 U (uk U U U)<|Lf 10 2 U (q_z U)<|Lf 11 3 U (q_z U)<|WD.done (by kernel_rfl)<|Lb<|WC.ret ?_
 obtain rfl:=oJ h
 exact Lh results189 (.tmp U<|.tmp U .nil)<|fun w hw=>⟨vg U U,hw.sub .nil⟩
def po(a:z1)(b:z1):Option (z1×Int):=
 (vx a).bind fun e=>(if !e then some true else(vx b).bind fun f=>some (!f)).bind fun g=>if g then some ((⟨0,0⟩:z1),2) else(rO a b).bind fun c=>(gN c.1 c.2).bind fun d=>some (d.1,d.2)
theorem WU(Z:Zp)(a:z1)(b:z1)(r:z1×Int)(h:po a b=some r)(w₀:World)(hz:PZ [] w₀ Z):
  RC 159 #[.string ⟨#[42]⟩,.agg #[vi a.fN,vi a.fD],.agg #[vi b.fN,vi b.fD]] w₀ (.tuple #[.agg #[vi r.1.fN,vi r.1.fD],vi r.2]) [] []:=by
 unfold po at h
 refine Kc func159 ntmps159 ?_
 refine WC.b<|Ld (Lg 4 (xP (cs:=[vi a.fN,vi a.fD]) U U) fun d _=>Lg 5 (xP (cs:=[vi b.fN,vi b.fD]) U U) fun e _=>Lg 6 (xC (cs:=[vi 0,vi 0]) z1d U) fun s _=>Q1n U<|WC.b<|WC.b ?_)
 refine bK h fun u i h=>bK h fun f g h=>Ld<|Le 9 (xq zi U (xt .h2) U)<|Lm 10 (zf call130<|.cons U .nil) .nil (cc hz .nil fun w pz ho=>qC _ _ _ i w pz )<|Q2q U<|Ly false 3 12 (B:=f) U U U U U U (fun h=>(oJ<|qq g h).symm) (fun _ j=>?_) ?_
 ·have c:=qr g j
  obtain⟨y,m,c⟩:=ze c
  replace c:=oJ c
  exact Le 13 (xq zi U (xt .h1) U)<|Lm 14 (zf call130<|.cons U .nil) .nil (cc hz .nil fun w pz ho=>qC _ _ _ m w pz )<|Q2q U<|Lz c U U .all
 refine La U<|Ly false 7 17 (B:=f) U U U U U U (fun h=>h) (fun _ n=>?_) ?_
 ·exact La U<|Le 19 (cD (r:=false) (by decide) U U)<|La U<|WL.e U U U<|WL.e U U U<|WL.e U U U<|Q2q U<|Lz (Eq.symm n) U U .all
 refine Q0n<|Lj U h (fun o h=>?_)<|fun o h=>?_
 ·refine B0q<|Le 26 (xU (v:=(.agg #[vi 0,vi 0])) (Lq (l:=[]) .nil []) (fun _=>by kernel_rfl))<|Lk U U (xx zI U U U .here U U U)<|Q1n U<|WC.ret<|Ll ?_
  obtain rfl:=oJ h
  exact Lh results159 (.agg U zi U (xt .here)<|.tmp U .nil)<|fun w hw=>⟨vg U U,hw.sub .nil⟩
 ·refine WC.skip<|Lb<|B0q<|Lg 27 (je Value.string<|fun x=>x) ?_
  intro t _
  let A:Value:=(.func (.func 189) #[] #[vp d,vp e]);refine Le 28 (wq<|L4 (l:=[.tmp 4,.tmp 5])<|.r2 U U)<|Lk U U (jT (k:=⟨#[43]⟩) (v:=(.func (.func 187) #[] #[vp d,vp e])) ky underlying304 U U U U .here)<|Le 29 (wq<|L4 (l:=[.tmp 4,.tmp 5])<|.r2 U U)<|Lk U U (jT (k:=⟨#[45]⟩) (v:=(.func (.func 188) #[] #[vp d,vp e])) ky underlying304 U U U U .here)<|Le 30 (wq<|L4 (l:=[.tmp 4,.tmp 5])<|.r2 U U)<|Lk U U (jT (k:=⟨#[42]⟩) (v:=A) ky underlying304 U U U U .here)<|Le 31 (wq<|L4 (l:=[.tmp 4,.tmp 5])<|.r2 U U)<|Lk U U (jT (k:=⟨#[47]⟩) (v:=(.func (.func 190) #[] #[vp d,vp e])) ky underlying304 U U U U .here)<|Q2n U<|WC.b ?_
  refine bK h fun z p h=>bK h fun C q h=>D2q U<|Le 35 (cC (k:=⟨#[42]⟩) (dflt:=.nilFunc) (r:=A) ky underlying304 zp1 U U U .here (by rfl))<|Lm 36 (qp (l:=[]) call189 U .nil) .nil (sX hz .nil (.s2 .h3 .h2) fun w pz ho la=>Xe _ _ _ _ _ _ p w pz ((la _ (.head _) _).stb)<|(la _ (.tail _<|.head _) _).stb)<|Q2q U<|Lm 39 (zf call160<|.r2 U U) .nil (cc hz .nil fun w pz ho=>sb _ _ _ _ q w pz )<|Q2q U<|Lk U U (xx zI U U U .h1 U U U)<|Q1n U<|WC.ret ?_
  obtain rfl:=oJ h
  exact Lh results159 (.agg U zi U (xt .here)<|.tmp U .nil)<|fun w hw=>⟨vg U U,hw.sub .nil⟩
def jy(b:z1)(c:z1):Option (z1×Int):=
 (po b c).bind fun a=>some (a.1,a.2)
theorem iP(Z:Zp)(a:z1)(b:z1)(r:z1×Int)(h:jy a b=some r)(w₀:World)(hz:PZ [] w₀ Z):
  RC 120 #[.agg #[vi a.fN,vi a.fD],.agg #[vi b.fN,vi b.fD]] w₀ (.tuple #[.agg #[vi r.1.fN,vi r.1.fD],vi r.2]) [] []:=by
 unfold jy at h
 refine L0 func120 ntmps120 ?_
 refine WC.b<|Ld (Lg 2 (xP (cs:=[vi a.fN,vi a.fD]) U U) fun d _=>Lg 3 (xP (cs:=[vi b.fN,vi b.fD]) U U) fun e _=>Lg 4 (xC (cs:=[vi 0,vi 0]) z1d U) fun f _=>Q1n U<|WC.b ?_)
 refine bK h fun g c h=>Ld<|Le 6 (xq zi U (xt .h2) U)<|Le 7 (xq zi U (xt .h1) U)<|Lm 8 (zf call159<|.r3 U U U) .nil (cc hz .nil fun w pz ho=>WU _ _ _ _ c w pz )<|Q2q U<|Lk U U (xx zI U U U .here U U U)<|Q1n U<|WC.ret ?_
 obtain rfl:=oJ h
 exact Lh results120 (.agg U zi U (xt .here)<|.tmp U .nil)<|fun w hw=>⟨vg U U,hw.sub .nil⟩
def kg(k:zt)(h:List (List zd))(i:List (zT×z1))(j:List (za×Int))(b:Int)(zes:z1->z1->Option (z1×Int))(e:z1)(f:z1):Option (z1×Int):=
 (zes e f).bind fun a=>jG (fun(c:Int)=>if decide (a.2≠0) then(ql 0).bind fun g=>some (g,c) else some (a.1,c)) fun d=>if decide (b=0) then d a.2 else d b
theorem uq(Z:Zp)(g:Nat)(i:Option Addr)(j:Nat)(k:Option Addr)(m:Nat)(n:Option Addr)(o:Nat)(p:Option Addr)(q:Nat)(s:Option Addr)(t:Nat)(u:Option Addr)(v:Nat)(x:Option Addr)(y:Nat)(z:Option Addr)(B:Nat)(K:Option Addr)(L:Nat)(b:Nat)(c:Nat)(zcA:FuncId)(zgC:List Value)(a:zt)(d:List (List zd))(M:List (zT×z1))(N:List (za×Int))(S:Int)(zes:z1->z1->Option (z1×Int))(O:z1)(P:z1)(r:z1×Int)(h:kg a d M N S zes O P=some r)(w₀:World)(hz:Pz [stb g 119 [vs i a.fM.length j,vs k a.yd.length m,vs n a.fS.length o,vs p a.fK.length q,vs s a.yb.length t,vs u a.fH.length v,vs x a.fU.length y,vs z a.yc.length B,vs K d.length L,.map (some b),.map (some c),vi S],xy b (ga qu) (ga xG) M,xy c (ga xL) vI N] w₀ Z)(ag:ZS Z 4 (ju Z) i j a.fM)(ah:ZS Z 4 (kv Z) k m a.yd)(ai:ZS Z 4 (rq qJ) n o a.fS)(aj:ZS Z 4 (rq qt) p q a.fK)(ak:ZS Z 7 (vK Z) s t a.yb)(al:ZS Z 5 (rq kK) u v a.fH)(am:ZS Z 3 (kw Z) x y a.fU)(an:ZS Z 4 (rq kL) z B a.yc)(ao:ZS Z 1 (wT Z) K L d)(W:∀ args w,(callFunc zcA args).run Tryz.prog w = .ok (.enter zcA args) w)(X:∀ w:World,PZ [] w Z->∀(x0:z1) (x1:z1) (r:z1×Int),zes x0 x1=some r->Calls Tryz.prog zcA (([.agg #[vi x0.fN,vi x0.fD],.agg #[vi x1.fN,vi x1.fD]]:List Value)++zgC).toArray w fun e w'=>e = .returned (.tuple #[.agg #[vi r.1.fN,vi r.1.fD],vi r.2])/\Hp [] w w' [])(fh:Ho w₀ [stb g 119 [vs i a.fM.length j,vs k a.yd.length m,vs n a.fS.length o,vs p a.fK.length q,vs s a.yb.length t,vs u a.fH.length v,vs x a.fU.length y,vs z a.yc.length B,vs K d.length L,.map (some b),.map (some c),vi S],xy b (ga qu) (ga xG) M,xy c (ga xL) vI N]):
  RF 118 #[vp g,.func (.func zcA) #[] (zgC).toArray,.agg #[vi O.fN,vi O.fD],.agg #[vi P.fN,vi P.fD]] w₀ (.agg #[vi r.1.fN,vi r.1.fD]) [stb g 119 [vs i a.fM.length j,vs k a.yd.length m,vs n a.fS.length o,vs p a.fK.length q,vs s a.yb.length t,vs u a.fH.length v,vs x a.fU.length y,vs z a.yc.length B,vs K d.length L,.map (some b),.map (some c),vi S],xy b (ga qu) (ga xG) M,xy c (ga xL) vI N] [stb g 119 [vs i a.fM.length j,vs k a.yd.length m,vs n a.fS.length o,vs p a.fK.length q,vs s a.yb.length t,vs u a.fH.length v,vs x a.fU.length y,vs z a.yc.length B,vs K d.length L,.map (some b),.map (some c),vi r.2],xy b (ga qu) (ga xG) M,xy c (ga xL) vI N]:=by
 unfold kg at h
 refine Calls.mE func118 ntmps118 fh ?_
 refine WC.b<|Ld (Lg 6 (xP (cs:=[vi O.fN,vi O.fD]) U U) fun ap _=>Lg 7 (xP (cs:=[vi P.fN,vi P.fD]) U U) fun aq _=>Lg 8 (xC (cs:=[vi 0,vi 0]) z1d U) fun T _=>Q0n<|WC.b ?_)
 refine bK h fun Q Y h=>D1q U<|Le 13 (xq zi U (xt .h2) U)<|Le 14 (xq zi U (xt .h1) U)<|Lm 15 (qp (l:=[.tmp 13,.tmp 14]) (f:=zcA) (caps:=zgC) W U<|.r2 U U) .nil (fun w hw=>X w (hz.now hw) O P Q  Y)<|Q2q U<|La U (Lg 9 (xC (cs:=[vi 0,vi 0]) z1d U) fun V _=>Lk U U (xx zI U U U .here U U U)<|Q1n U ?_)
 obtain⟨aa,ab,h⟩:=wv h
 let A:Value:=(vs i a.fM.length j);let C:Value:=(vs k a.yd.length m);let D:Value:=(vs n a.fS.length o);let E:Value:=(vs p a.fK.length q);let F:Value:=(vs s a.yb.length t);let G:Value:=(vs u a.fH.length v);let H:Value:=(vs x a.fU.length y);let I:Value:=(vs z a.yc.length B);let J:Value:=(vs K d.length L);refine WC.jh (fun(R:Int)=>(aa R=some r)) (fun R=>[(8,vp T),(9,vp V),(10,vi Q.2)]) (fun R=>[stb T 175 [vi 0,vi 0],stb V 175 [vi Q.1.fN,vi Q.1.fD],stb g 119 [A,C,D,E,F,G,H,I,J,(.map<|some b),(.map<|some c),vi R],xy b (ga qu) (ga xG) M,xy c (ga xL) vI N]) ?_ ?_
 ·refine B1q U<|Le 19 (wx U)<|Le 20 (xk sF U U)<|Le 21 (xl z5S U<|xu .h4 U)<|Q1n U<|Lj U h (fun ad h=>?_)<|fun ad h=>?_
  ·exact D2q U<|Le 25 (wx U)<|Le 26 (xk sF U U)<|Lk U U (jU (ds:=[A,C,D,E,F,G,H,I,J,(.map<|some b),(.map<|some c),vi Q.2]) zlQ U U U U U .h4 U U)<|WL.nil<|Lp Q.2 h (.q U)<|.s5 .h2 .h1 .here .h2 .h2
  ·exact WC.skip<|Lp S h (.q U)<|.s5 .h1 .here .h2 .h2 .h2
 ·rintro R h
  replace h:=(ab R).symm.trans h
  refine WC.b<|B2n U<|Lj U h (fun ae h=>?_)<|fun ae h=>?_
  ·refine WC.b<|bK h fun ar af h=>Ld<|Lm 29 (zf call80<|.cons U .nil) .nil (cc hz .nil fun w pz ho=>gF _ _ _ af w pz )<|Lk U U (xx zI U U U .here U U U)<|Q0n<|WC.ret<|Ll ?_
   obtain rfl:=oJ h
   exact Lh results118 (.agg U zi U (xt .here) .nil)<|fun w hw=>⟨xK U,hw.sub (.s3 .h2 .h2 .h2)⟩
  ·refine WC.skip<|Lb<|B0q<|Le 30 (xq zi U (xt .h1) U)<|Lk U U (xx zI U U U .here U U U)<|Q0n<|WC.ret ?_
   obtain rfl:=oJ h
   exact Lh results118 (.agg U zi U (xt .here) .nil)<|fun w hw=>⟨xK U,hw.sub (.s3 .h2 .h2 .h2)⟩
def rP(a:z1)(b:z1):Option (Int×Int):=
 some (i64 ((i64 (a.fN*b.fD))+(i64 (b.fN*a.fD))),i64 (a.fD*b.fD))
theorem Xf(Z:Zp)(e:Addr)(f:Addr)(a:z1)(b:z1)(r:Int×Int)(h:rP a b=some r)(w₀:World)(hz:PZ [] w₀ Z)(c:ZC Z e [vi a.fN,vi a.fD])(d:ZC Z f [vi b.fN,vi b.fD]):
  RC 187 #[vq e,vq f] w₀ (.tuple #[vi r.1,vi r.2]) [] []:=by
 unfold rP at h
 refine L0 func187 ntmps187 ?_
 refine B2n U<|WC.b<|Lw nc [] U<|Lf 0 4 U (xk qh U U)<|Li 1 5 U (xl xB U<|wy hz.pv c U)<|Lf 2 6 U (xk qR U U)<|Li 3 7 U (xl xB U<|wy hz.pv d U)<|Lf 4 8 U (uk U U U)<|Lf 5 9 U (xk qh U U)<|Li 6 10 U (xl xB U<|wy hz.pv d U)<|Lf 7 11 U (xk qR U U)<|Li 8 12 U (xl xB U<|wy hz.pv c U)<|Lf 9 13 U (uk U U U)<|Lf 10 14 U (tR U U U)<|Lf 11 15 U (xk qR U U)<|Li 12 16 U (xl xB U<|wy hz.pv c U)<|Lf 13 17 U (xk qR U U)<|Li 14 18 U (xl xB U<|wy hz.pv d U)<|Lf 15 19 U (uk U U U)<|Lf 16 2 U (q_z U)<|Lf 17 3 U (q_z U)<|WD.done (by kernel_rfl)<|Lb<|WC.ret ?_
 obtain rfl:=oJ h
 exact Lh results187 (.tmp U<|.tmp U .nil)<|fun w hw=>⟨vg U U,hw.sub .nil⟩
def sZ(a:z1)(b:z1):Option (z1×Int):=
 (vx a).bind fun e=>(if !e then some true else(vx b).bind fun f=>some (!f)).bind fun g=>if g then some ((⟨0,0⟩:z1),2) else(rP a b).bind fun c=>(gN c.1 c.2).bind fun d=>some (d.1,d.2)
theorem XW(Z:Zp)(a:z1)(b:z1)(r:z1×Int)(h:sZ a b=some r)(w₀:World)(hz:PZ [] w₀ Z):
  RC 159 #[.string ⟨#[43]⟩,.agg #[vi a.fN,vi a.fD],.agg #[vi b.fN,vi b.fD]] w₀ (.tuple #[.agg #[vi r.1.fN,vi r.1.fD],vi r.2]) [] []:=by
 unfold sZ at h
 refine Kc func159 ntmps159 ?_
 refine WC.b<|Ld (Lg 4 (xP (cs:=[vi a.fN,vi a.fD]) U U) fun d _=>Lg 5 (xP (cs:=[vi b.fN,vi b.fD]) U U) fun e _=>Lg 6 (xC (cs:=[vi 0,vi 0]) z1d U) fun s _=>Q1n U<|WC.b<|WC.b ?_)
 refine bK h fun u i h=>bK h fun f g h=>Ld<|Le 9 (xq zi U (xt .h2) U)<|Lm 10 (zf call130<|.cons U .nil) .nil (cc hz .nil fun w pz ho=>qC _ _ _ i w pz )<|Q2q U<|Ly false 3 12 (B:=f) U U U U U U (fun h=>(oJ<|qq g h).symm) (fun _ j=>?_) ?_
 ·have c:=qr g j
  obtain⟨y,m,c⟩:=ze c
  replace c:=oJ c
  exact Le 13 (xq zi U (xt .h1) U)<|Lm 14 (zf call130<|.cons U .nil) .nil (cc hz .nil fun w pz ho=>qC _ _ _ m w pz )<|Q2q U<|Lz c U U .all
 refine La U<|Ly false 7 17 (B:=f) U U U U U U (fun h=>h) (fun _ n=>?_) ?_
 ·exact La U<|Le 19 (cD (r:=false) (by decide) U U)<|La U<|WL.e U U U<|WL.e U U U<|WL.e U U U<|Q2q U<|Lz (Eq.symm n) U U .all
 refine Q0n<|Lj U h (fun o h=>?_)<|fun o h=>?_
 ·refine B0q<|Le 26 (xU (v:=(.agg #[vi 0,vi 0])) (Lq (l:=[]) .nil []) (fun _=>by kernel_rfl))<|Lk U U (xx zI U U U .here U U U)<|Q1n U<|WC.ret<|Ll ?_
  obtain rfl:=oJ h
  exact Lh results159 (.agg U zi U (xt .here)<|.tmp U .nil)<|fun w hw=>⟨vg U U,hw.sub .nil⟩
 ·refine WC.skip<|Lb<|B0q<|Lg 27 (je Value.string<|fun x=>x) ?_
  intro t _
  let A:Value:=(.func (.func 187) #[] #[vp d,vp e]);refine Le 28 (wq<|L4 (l:=[.tmp 4,.tmp 5])<|.r2 U U)<|Lk U U (jT (k:=⟨#[43]⟩) (v:=A) ky underlying304 U U U U .here)<|Le 29 (wq<|L4 (l:=[.tmp 4,.tmp 5])<|.r2 U U)<|Lk U U (jT (k:=⟨#[45]⟩) (v:=(.func (.func 188) #[] #[vp d,vp e])) ky underlying304 U U U U .here)<|Le 30 (wq<|L4 (l:=[.tmp 4,.tmp 5])<|.r2 U U)<|Lk U U (jT (k:=⟨#[42]⟩) (v:=(.func (.func 189) #[] #[vp d,vp e])) ky underlying304 U U U U .here)<|Le 31 (wq<|L4 (l:=[.tmp 4,.tmp 5])<|.r2 U U)<|Lk U U (jT (k:=⟨#[47]⟩) (v:=(.func (.func 190) #[] #[vp d,vp e])) ky underlying304 U U U U .here)<|Q2n U<|WC.b ?_
  refine bK h fun z p h=>bK h fun C q h=>D2q U<|Le 35 (cC (k:=⟨#[43]⟩) (dflt:=.nilFunc) (r:=A) ky underlying304 zp1 U U U .here (by rfl))<|Lm 36 (qp (l:=[]) call187 U .nil) .nil (sX hz .nil (.s2 .h3 .h2) fun w pz ho la=>Xf _ _ _ _ _ _ p w pz ((la _ (.head _) _).stb)<|(la _ (.tail _<|.head _) _).stb)<|Q2q U<|Lm 39 (zf call160<|.r2 U U) .nil (cc hz .nil fun w pz ho=>sb _ _ _ _ q w pz )<|Q2q U<|Lk U U (xx zI U U U .h1 U U U)<|Q1n U<|WC.ret ?_
  obtain rfl:=oJ h
  exact Lh results159 (.agg U zi U (xt .here)<|.tmp U .nil)<|fun w hw=>⟨vg U U,hw.sub .nil⟩
def wL(b:z1)(c:z1):Option (z1×Int):=
 (sZ b c).bind fun a=>some (a.1,a.2)
theorem uJ(Z:Zp)(a:z1)(b:z1)(r:z1×Int)(h:wL a b=some r)(w₀:World)(hz:PZ [] w₀ Z):
  RC 119 #[.agg #[vi a.fN,vi a.fD],.agg #[vi b.fN,vi b.fD]] w₀ (.tuple #[.agg #[vi r.1.fN,vi r.1.fD],vi r.2]) [] []:=by
 unfold wL at h
 refine L0 func119 ntmps119 ?_
 refine WC.b<|Ld (Lg 2 (xP (cs:=[vi a.fN,vi a.fD]) U U) fun d _=>Lg 3 (xP (cs:=[vi b.fN,vi b.fD]) U U) fun e _=>Lg 4 (xC (cs:=[vi 0,vi 0]) z1d U) fun f _=>Q1n U<|WC.b ?_)
 refine bK h fun g c h=>Ld<|Le 6 (xq zi U (xt .h2) U)<|Le 7 (xq zi U (xt .h1) U)<|Lm 8 (zf call159<|.r3 U U U) .nil (cc hz .nil fun w pz ho=>XW _ _ _ _ c w pz )<|Q2q U<|Lk U U (xx zI U U U .here U U U)<|Q1n U<|WC.ret ?_
 obtain rfl:=oJ h
 exact Lh results119 (.agg U zi U (xt .here)<|.tmp U .nil)<|fun w hw=>⟨vg U U,hw.sub .nil⟩
end Go.Proofs.YthjnhebofpebpaaGreat
