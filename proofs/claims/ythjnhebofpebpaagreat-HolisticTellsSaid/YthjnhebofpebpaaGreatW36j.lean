/- A part of this claim's proof: models of functions, walks, plain laws. No conditions. -/
import Derived.Test.YthjnhebofpebpaaGreatW36i
set_option linter.all false
namespace Go.Proofs.YthjnhebofpebpaaGreat
open Go Go.RowKit Sep Tryz
section
set_option maxRecDepth 30000
set_option maxHeartbeats 4000000
def gX(b:List yr)(g:Int)(e:Int)(h:Int->Int->Option Int):Nat->Int->Int->Int->Option Int
 | 0,_,_,_=>none
 | i+1,c,d,a=>if decide (a<b.length) then tZ (fun(j:Int) (k:Int)=>gX b g e h i j k (i64 (a+1))) fun f=>chk (0<=a/\a<b.length) (if decide (((nth b a).fQ)≠g) then f c d else chk (0<=a/\a<b.length) (chk ((((nth b a).yo):Int)≠0) (chk (0<=a/\a<b.length) (if decide (((nth b a).yn)>d) then chk (0<=a/\a<b.length) (f (i64 (c+(i64 (((nth b a).yn)*(i64 ((i64 (Int.tdiv (i64 (e+((nth b a).yD))) ((nth b a).yo)))+1)))))) ((nth b a).yn)) else f (i64 (c+(i64 (((nth b a).yn)*(i64 ((i64 (Int.tdiv (i64 (e+((nth b a).yD))) ((nth b a).yo)))+1)))))) d)))) else h c d
def gY(b:zi)(d:Int)(e:List yr)(f:Int->Option Int):Nat->Int->Int->Option Int
 | 0,_,_=>none
 | j+1,g,a=>if decide (a<b.fK.length) then vk (fun(k:Int)=>gY b d e f j k (i64 (a+1))) fun l=>tZ (fun(c:Int) (h:Int)=>vk (fun(m:Int)=>l (i64 (g+m))) fun i=>chk (((decide (a>=0))&&(decide (c>0)))=true->(0<=a/\a<b.fK.length)) (chk (((decide (a>=0))&&(decide (c>0)))=true->((((nth b.fK a).yj):Int)≠0)) (if ((decide (a>=0))&&(decide (c>0)))&&(decide ((i64 (h+(i64 (Int.tdiv d ((nth b.fK a).yj)))))<c)) then chk (0<=a/\a<b.fK.length) (chk ((((nth b.fK a).yj):Int)≠0) (i (i64 (h+(i64 (Int.tdiv d ((nth b.fK a).yj))))))) else i c))) fun n=>gX e a d n xC 0 0 0 else f g
def gZ(e:zi)(a:List yr)(b:Int):Option Int:=
 vk (fun(c:Int)=>some c) fun d=>gY e b a d xC 0 (-1)
theorem dI(Z:Zp)(x:Option Addr)(y:Nat)(z:Option Addr)(E:Nat)(F:Option Addr)(G:Nat)(H:Option Addr)(I:Nat)(J:Option Addr)(K:Nat)(L:Option Addr)(M:Nat)(N:Option Addr)(O:Nat)(P:Option Addr)(Q:Nat)(R:Option Addr)(S:Nat)(a:zi)(d:List yr)(e:Int)(r:Int)(h:gZ a d e=some r)(w₀:World)(hz:PZ [] w₀ Z)(aL:ZS Z 4 (vU Z) x y a.fM)(aM:ZS Z 4 (qr Z) z E a.yc)(aN:ZS Z 4 (rq jm) F G a.fS)(W:ZS Z 4 (rq qm) H I a.fK)(aO:ZS Z 7 (qK Z) J K a.yd)(aP:ZS Z 5 (rq qI) L M a.fH)(aQ:ZS Z 3 (qs Z) N O a.fU)(aR:ZS Z 4 (rq qJ) P Q a.yb)(s:ZS Z 4 (rq gg) R S d):
  RC 67 #[.agg #[vs x a.fM.length y,vs z a.yc.length E,vs F a.fS.length G,vs H a.fK.length I,vs J a.yd.length K,vs L a.fH.length M,vs N a.fU.length O,vs P a.yb.length Q],vs R d.length S,vi e] w₀ (vi r) [] []:=by
 unfold gZ at h
 refine Me func67 ntmps67 ?_
 let A:List Value:=[vs x a.fM.length y,vs z a.yc.length E,vs F a.fS.length G,vs H a.fK.length I,vs J a.yd.length K,vs L a.fH.length M,vs N a.fU.length O,vs P a.yb.length Q];refine B0q<|Lg 3 (xO (cs:=A) U U) ?_
 intro f _
 refine Q1n U<|B1n U<|jK1 h fun X aa h=>Ma (fun(t:Int)=>(X t=some r)) (fun t=>[(7,vi t)]) (fun t=>[]) ?_ ?_
 ·let C:Value:=(vs R d.length S);refine B1n U<|WC.block<|WC.sk (fun(u:Nat) (g:Int) (b:Int)=>(gY a e d X u g b=some r)) (fun u g b=>[(1,C),(2,vi e),(3,vp f),(7,vi g),(8,vi b)]) (fun u g b=>[stb f 31 A]) (fun u g b=>u) ⟨xC,0,-1⟩ h (.q U) (.cons .here .nil) ?_
  rintro(_|aG) g b h;·cases h
  rw[gY] at h
  refine WC.b<|B1q U<|Le 13 (xk jQ U U)<|Le 14 (xl z5E U<|xt .here U)<|Le 15 (xK underlying25 U)<|Q1n U<|Lk U h (fun ab h=>?_)<|fun ab h=>?_
  ·refine WC.skip<|Lb<|jK1 h fun aH ad h=>Ma (fun(m:Int)=>(aH m=some r)) (fun m=>[(1,C),(2,vi e),(3,vp f),(7,vi m),(8,vi b)]) (fun m=>[stb f 31 A]) ?_ ?_
   ·refine WC.block<|B2n U<|jK2 h fun Y ae h=>WC.jO (fun(i:Int) (n:Int)=>(Y i n=some r)) (fun i n=>[(1,C),(2,vi e),(3,vp f),(7,vi g),(8,vi b),(9,vi i),(10,vi n)]) (fun i n=>[stb f 31 A]) ?_ ?_
    ·refine B1n U<|WC.block<|WC.fj (fun(v:Nat) (k:Int) (l:Int) (c:Int)=>(gX d b e Y v k l c=some r)) (fun v k l c=>[(1,C),(2,vi e),(3,vp f),(7,vi g),(8,vi b),(9,vi k),(10,vi l),(11,vi c)]) (fun v k l c=>[stb f 31 A]) (fun v k l c=>v) ⟨xC,0,0,0⟩ h (.q U) (.cons .here .nil) ?_
     rintro(_|aI) k l c h;·cases h
     rw[gX] at h
     refine WC.b<|B2q U<|Le 21 (xK underlying154 U)<|Q1n U<|Lk U h (fun af h=>?_)<|fun af h=>?_
     ·refine WC.skip<|Lb<|jK2 h fun aJ ag h=>WC.jO (fun(o:Int) (p:Int)=>(aJ o p=some r)) (fun o p=>[(1,C),(2,vi e),(3,vp f),(7,vi g),(8,vi b),(9,vi o),(10,vi p),(11,vi c)]) (fun o p=>[stb f 31 A]) ?_ ?_
      ·refine WC.block<|WC.b<|WC.b<|cK h fun ah h=>D2q U<|L0 (dd:=27) U U (Z:=Z) (Pr:=(rq gg)) zd8 U U s ah ?_
       rintro aS aT ai aU rfl
       refine Le 28 (xk XN U U)<|Le 29 (xl xu U<|xM hz.pv ai U)<|Q2n U<|Lk U h (fun aj h=>?_)<|fun aj h=>?_
       ·exact WC.exit<|Lm<|Lv<|Ln ⟨k,l⟩ h (.q U)<|.cons .here .nil
       ·refine WC.skip<|Lb<|WC.b<|cK h fun T h=>cK h fun ak h=>Lz nc [] U<|Lf 0 32 U (q_m U)<|Lf 1 33 U (q_m U)<|Lf 2 34 U (q_m U)<|L2 (j:=3) (dd:=35) (by kernel_rfl) U zO zP U U (Z:=Z) (Pr:=(rq gg)) zd8 U U s T ?_
        rintro aV aW al aX rfl
        refine Lf 4 36 U (xk lh U U)<|Lh 5 37 U (xl xu U<|xM hz.pv al U)<|Lf 6 38 U (q_m U)<|Lf 7 39 U (q_m U)<|Lf 8 40 U (q_m U)<|L2 (j:=9) (dd:=41) (by kernel_rfl) U zO zP U U (Z:=Z) (Pr:=(rq gg)) zd8 U U s T ?_
        rintro aY aZ am a0 rfl
        refine Lf 10 42 U (xk Ka U U)<|Lh 11 43 U (xl xu U<|xM hz.pv am U)<|Lf 12 44 U (tY U U U)<|Lf 13 45 U (q_m U)<|Lf 14 46 U (q_m U)<|L2 (j:=15) (dd:=47) (by kernel_rfl) U zO zP U U (Z:=Z) (Pr:=(rq gg)) zd8 U U s T ?_
        rintro a1 a2 an a3 rfl
        refine Lf 16 48 U (xk Kb U U)<|Lh 17 49 U (xl xu U<|xM hz.pv an U)<|Lf 18 50 U (rM U U ak U)<|Lf 19 51 U (tY U U U)<|Lf 20 52 U (tk U U U)<|Lf 21 53 U (tY U U U)<|Lf 22 9 U (q_z U)<|WD.done (by kernel_rfl)<|Lb<|WC.b<|cK h fun ao h=>D2q U<|L0 (dd:=56) U U (Z:=Z) (Pr:=(rq gg)) zd8 U U s ao ?_
        rintro a4 a5 ap a6 rfl
        refine Le 57 (xk lh U U)<|Le 58 (xl xu U<|xM hz.pv ap U)<|Q2n U<|Lk U h (fun aq h=>?_)<|fun aq h=>?_
        ·refine cK h fun ar h=>D2q U<|L0 (dd:=63) U U (Z:=Z) (Pr:=(rq gg)) zd8 U U s ar ?_
         rintro a7 a8 au a9 rfl
         exact Le 64 (xk lh U U)<|Le 65 (xl xu U<|xM hz.pv au U)<|La U<|WL.nil<|Lt<|Ln ⟨i64 (k+(i64 (((nth d c).yn)*(i64 ((i64<|Int.tdiv (i64 (e+((nth d c).yD)))<|(nth d c).yo)+1))))),(nth d c).yn⟩ h (.q U)<|.cons .here .nil
        ·exact WC.skip<|Lt<|Ln ⟨i64 (k+(i64 (((nth d c).yn)*(i64 ((i64<|Int.tdiv (i64 (e+((nth d c).yD)))<|(nth d c).yo)+1))))),l⟩ h (.q U)<|.cons .here .nil
      ·rintro o p h
       replace h:=(ag o p).symm.trans h
       exact D3q U<|WL.nil<|WX.round ⟨aI,o,p,i64 (c+1)⟩ h (Nat.lt_succ_self _) (.q U)<|.cons .here .nil
     ·exact WC.exit<|Lm<|Lm<|Lv<|Ln ⟨k,l⟩ h (.q U)<|.cons .here .nil
    ·rintro i n h
     replace h:=(ae i n).symm.trans h
     refine jK1 h fun aK av h=>Ma (fun(q:Int)=>(aK q=some r)) (fun q=>[(1,C),(2,vi e),(3,vp f),(7,vi g),(8,vi b),(9,vi q)]) (fun q=>[stb f 31 A]) ?_ ?_
     ·refine WC.b<|cK h fun aw h=>cK h fun ax h=>D3q U<|Lx true 2 68 (B:=(decide (b>=0))&&(decide (i>0))) U U U U U U (fun h=>(vy h).symm) (fun _ ay=>?_) ?_
      ·exact La U<|La U<|La U<|Ly (vz ay) U U .all
      let D:=(i64 (n+(i64 (Int.tdiv e ((nth a.fK b).yj)))));refine La U<|Lx true 12 72 (B:=((decide (b>=0))&&(decide (i>0)))&&(decide (D<i))) U U U U U U (fun h=>(vy h).symm) (fun _ V=>?_) ?_
      ·have az:=aw V
       have aA:=ax V
       refine Q2q U<|Le 75 (xk jQ U U)<|Le 76 (xl z5E U<|xt .here U)<|La U<|L0 (dd:=78) U U (Z:=Z) (Pr:=(rq qm)) z7V U U W az ?_
       rintro ba bb aB bc rfl
       exact Le 79 (xk mz U U)<|Le 80 (xl xu U<|xM hz.pv aB U)<|Le 81 (rM U U aA U)<|La U<|La U<|La U<|La U<|Ly (vz V) U U .all
      refine Q0n<|Lk U h (fun aC h=>?_)<|fun aC h=>?_
      ·refine cK h fun aD h=>cK h fun aE h=>D2q U<|Le 88 (xk jQ U U)<|Le 89 (xl z5E U<|xt .here U)<|La U<|L0 (dd:=91) U U (Z:=Z) (Pr:=(rq qm)) z7V U U W aD ?_
       rintro bd be aF bf rfl
       exact Le 92 (xk mz U U)<|Le 93 (xl xu U<|xM hz.pv aF U)<|Le 94 (rM U U aE U)<|Q2q U<|WL.nil<|Ln D h (.q U)<|.cons .here .nil
      ·exact WC.skip<|Ln i h (.q U)<|.cons .here .nil
     ·rintro q h
      replace h:=(av q).symm.trans h
      exact Ld<|La U<|La U<|La U<|La U<|WL.nil<|Lt<|Ln (i64 (g+q)) h (.q U)<|.cons .here .nil
   ·rintro m h
    replace h:=(ad m).symm.trans h
    exact D3q U<|WL.nil<|WX.round ⟨aG,m,i64 (b+1)⟩ h (Nat.lt_succ_self _) (.q U)<|.cons .here .nil
  ·exact WC.exit<|Lm<|Lm<|Lv<|Ln g h (.cons U .nil) .nil
 ·rintro t h
  replace h:=(aa t).symm.trans h
  refine B2n U<|WC.ret ?_
  obtain rfl:=oJ h
  exact Li results67 (.tmp U .nil)<|fun w hw=>⟨xJ U,hw.sub .nil⟩
def kP(b:zi)(d:List yr)(c:ye)(e:Int->Option (ye×Bool)):Nat->Int->Option (ye×Bool)
 | 0,_=>none
 | f+1,a=>(gZ b d (i64 (a-1))).bind fun g=>if decide ((i64 (((nth b.fK c.fQ).yj)*g))>a) then if decide ((i64 (a+1))>32768) then some (c,false) else kP b d c e f (i64 (a+1)) else e a
def kQ(f:Int)(c:Int)(b:zi)(j:List yr)(d:ye)(k:Int->Int->Option (ye×Bool)):Nat->Int->Int->Int->Option (ye×Bool)
 | 0,_,_,_=>none
 | p+1,a,g,h=>if decide (a<(i64 (f+c))) then tZ (fun(q:Int) (r:Int)=>kQ f c b j d k p (i64 (a+1)) q r) fun l=>(gZ b j a).bind fun e=>vk (fun(m:Int)=>vk (fun(n:Int)=>if decide (n>h) then l m n else l m h) fun i=>if decide (a>c) then chk ((((nth b.fK d.fQ).yj):Int)≠0) (chk ((((nth b.fK d.fQ).yj):Int)≠0) (if decide ((Int.tmod (i64 (a-c)) ((nth b.fK d.fQ).yj))≠0) then i (i64 ((i64 (e-(i64 (Int.tdiv (i64 (a-c)) ((nth b.fK d.fQ).yj)))))-1)) else i (i64 (e-(i64 (Int.tdiv (i64 (a-c)) ((nth b.fK d.fQ).yj))))))) else i e) fun o=>if (decide (a<f))&&(decide ((i64 ((i64 ((i64 (((nth b.fK d.fQ).yj)*e))-a))+c))>g)) then o (i64 ((i64 ((i64 (((nth b.fK d.fQ).yj)*e))-a))+c)) else o g else k g h
def kR(b:List yr)(d:Int->Option (ye×Bool)):Nat->Int->Int->Option (ye×Bool)
 | 0,_,_=>none
 | f+1,c,a=>if decide (a<b.length) then vk (fun(g:Int)=>kR b d f g (i64 (a+1))) fun e=>chk (0<=a/\a<b.length) (if decide (((nth b a).yn)>c) then chk (0<=a/\a<b.length) (e ((nth b a).yn)) else e c) else d c
def mD(b:zi)(d:List (List za))(a:ye)(e:List ye):Option (ye×Bool):=
 (ud b d a e).bind fun c=>chk (0<=a.fQ/\a.fQ<b.fK.length) ((mg b a.ya).bind fun f=>vk (fun(g:Int)=>tZ (fun(h:Int) (i:Int)=>vk (fun(j:Int)=>some (({a with yf:=h,fT:=i64 (i+j)}:ye),true)) fun k=>kR c k xC 0 0) fun l=>kQ g f b c a l xC 0 a.yf a.fT) fun m=>kP b c a m xC 1)
theorem Yg(Z:Zp)(ab:Option Addr)(ad:Nat)(ae:Option Addr)(af:Nat)(ag:Option Addr)(ah:Nat)(ai:Option Addr)(aj:Nat)(ak:Option Addr)(al:Nat)(am:Option Addr)(an:Nat)(ao:Option Addr)(ap:Nat)(aq:Option Addr)(ar:Nat)(aw:Option Addr)(ax:Nat)(ay:Option Addr)(az:Nat)(b:zi)(au:List (List za))(a:ye)(av:List ye)(r:ye×Bool)(h:mD b au a av=some r)(w₀:World)(hz:PZ [] w₀ Z)(R:ZS Z 4 (vU Z) ab ad b.fM)(S:ZS Z 4 (qr Z) ae af b.yc)(T:ZS Z 4 (rq jm) ag ah b.fS)(L:ZS Z 4 (rq qm) ai aj b.fK)(V:ZS Z 7 (qK Z) ak al b.yd)(W:ZS Z 5 (rq qI) am an b.fH)(X:ZS Z 3 (qs Z) ao ap b.fU)(Y:ZS Z 4 (rq qJ) aq ar b.yb)(aD:ZS Z 1 (qt Z) aw ax au)(aE:ZS Z 4 (rq xY) ay az av):
  RC 32 #[.agg #[vs ab b.fM.length ad,vs ae b.yc.length af,vs ag b.fS.length ah,vs ai b.fK.length aj,vs ak b.yd.length al,vs am b.fH.length an,vs ao b.fU.length ap,vs aq b.yb.length ar],vs aw au.length ax,.agg #[vi a.ya,vi a.fQ,vi a.yf,vi a.fT],vs ay av.length az] w₀ (.tuple #[.agg #[vi r.1.ya,vi r.1.fQ,vi r.1.yf,vi r.1.fT],.bool r.2]) [] []:=by
 unfold mD at h
 refine Calls.on4 func32 ntmps32 ?_
 let A:List Value:=[vs ab b.fM.length ad,vs ae b.yc.length af,vs ag b.fS.length ah,vs ai b.fK.length aj,vs ak b.yd.length al,vs am b.fH.length an,vs ao b.fU.length ap,vs aq b.yb.length ar];refine B0q<|Lg 4 (xO (cs:=A) U U) ?_
 intro g _
 let H:List Value:=[vi a.ya,vi a.fQ,vi a.yf,vi a.fT];refine Lg 6 (xO (cs:=H) U U) ?_
 intro c _
 let D:List Value:=[vi 0,vi 0,vi 0,vi 0];refine Lg 8 (xG (cs:=D) zf7 U) ?_
 intro d _
 refine Q1n U<|WC.b<|bK h fun e aF h=>Ld<|Le 19 (xw z1j U (xy .h2) U)<|La U<|Le 21 (xw z5F U (xy .h1) U)<|La U<|WL.jk (dd:=23) U U U (zb call65<|.r4 U U U U) .nil (cc hz .nil fun w pz ho=>Xa _ _ _ _ _ _ _ _ _ _ _ _ _ _ _ _ _ _ _ _ _ _ _ _ _ _ aF w pz R S T L V W X Y aD aE) ?_
 rintro a4 a5 _
 refine Q1n U<|WC.b<|cK h fun aG h=>bK h fun o aH h=>Lz nc [] U<|Lf 0 24 U (xk jQ U U)<|Lh 1 25 U (xl z5E U<|xt .h3 U)<|Lf 2 26 U (xk mb U U)<|Lh 3 27 U (xl xu U<|xt .h2 U)<|L2 (j:=4) (dd:=28) (by kernel_rfl) U zO zP U U (Z:=Z) (Pr:=(rq qm)) z7V U U L aG ?_
 rintro bd be aI bf rfl
 refine Lf 5 29 U (xk mz U U)<|Lh 6 30 U (xl xu U<|xM hz.pv aI U)<|Lh 7 31 U (xw z1j U (xy .h3) U)<|Lf 8 32 U (xk gt U U)<|Lh 9 33 U (xl xu U<|xt .h2 U)<|L5 10 34 U (zb call66<|.r2 U U) (cc hz .nil fun w pz ho=>ic _ _ _ _ _ _ _ _ _ _ _ _ _ _ _ _ _ _ _ _ aH w pz R S T L V W X Y)<|Lf 11 11 U (q_z U)<|Lf 12 12 U (q_z U)<|WD.done (by kernel_rfl)<|Lb<|B1n U ?_
 obtain⟨aA,aJ,h⟩:=xS h
 let C:Value:=(vs a4 e.length a5);let E:Value:=(vi ((nth b.fK a.fQ).yj));refine Ma (fun(k:Int)=>(aA k=some r)) (fun k=>[(4,vp g),(6,vp c),(8,vp d),(10,C),(11,E),(12,vi o),(13,vi k)]) (fun k=>[row C 158 4 (e.flatMap gg),stb g 31 A,stb c 37 H,stb d 37 D]) ?_ ?_
 ·refine WC.block<|L6 (fun(M:Nat) (s:Int)=>(kP b e a aA M s=some r)) (fun M s=>[(4,vp g),(6,vp c),(8,vp d),(10,C),(11,E),(12,vi o),(13,vi s)]) (fun M s=>[row C 158 4 (e.flatMap gg),stb g 31 A,stb c 37 H,stb d 37 D]) (fun M s=>M) ⟨xC,1⟩ h (.q U) (.s4 .here .h2 .h1 .here) ?_
  rintro(_|a6) s h;·cases h
  rw[kP] at h
  refine WC.b<|WC.b<|bK h fun bh aK h=>D1q U<|Le 36 (xw z1j U (xy .h1) U)<|La U<|La U<|La U<|Lp 40 (zb call67<|.r3 U U U) .nil (sc hz .nil (.cons .here .nil) fun w pz ho la=>dI _ _ _ _ _ _ _ _ _ _ _ _ _ _ _ _ _ _ _ _ _ _ _ aK w pz ((R.mono<|zl).weak (fun _ _ h=>wg zl h)) ((S.mono<|zl).weak (fun _ _ h=>wp zl h)) (T.mono<|zl) (L.mono<|zl) ((V.mono<|zl).weak (fun _ _ h=>wi zl h)) (W.mono<|zl) ((X.mono<|zl).weak (fun _ _ h=>wq zl h)) (Y.mono<|zl)<|ZA.row (la _ (.head _) _) (RR.flat (enc:=gg) (fun _=>U) _) ⟨w,pz.1⟩)<|La U<|La U<|La U<|WL.nil<|Lb<|Lk U h (fun aL h=>?_)<|fun aL h=>?_
  ·refine WC.skip<|Lb<|WC.block<|B3n U<|B2n U<|Lk U h (fun aM h=>?_)<|fun aM h=>?_
   ·refine B0q<|Le 48 (xw z5F U (xy .h2) U)<|Lo U U (xz zaT U U U .h3 U U U)<|Q1n U<|WC.ret<|Lu<|Ll<|Lu<|Ll ?_
    obtain rfl:=oJ h
    exact Li results32 (.agg U z5F U (xy .here)<|.tmp U .nil)<|fun w hw=>⟨wV U U,hw.sub .nil⟩
   ·exact WC.skip<|Lt<|WX.round ⟨a6,i64 (s+1)⟩ h (Nat.lt_succ_self _) (.q U)<|.a4
  ·exact WC.exit<|Lm<|Lm<|Lv<|Ln s h (.q U)<|.a4
 ·rintro k h
  replace h:=(aJ k).symm.trans h
  refine jK2 h fun aB aN h=>WC.jO (fun(t:Int) (u:Int)=>(aB t u=some r)) (fun t u=>[(6,vp c),(8,vp d),(10,C)]) (fun t u=>[row C 158 4 (e.flatMap gg),stb c 37 [vi a.ya,vi a.fQ,vi t,vi u],stb d 37 D]) ?_ ?_
  ·refine B1n U<|WC.block<|WC.fj (fun(N:Nat) (f:Int) (q:Int) (m:Int)=>(kQ k o b e a aB N f q m=some r)) (fun N f q m=>[(4,vp g),(6,vp c),(8,vp d),(10,C),(11,E),(12,vi o),(13,vi k),(14,vi f)]) (fun N f q m=>[row C 158 4 (e.flatMap gg),stb g 31 A,stb c 37 [vi a.ya,vi a.fQ,vi q,vi m],stb d 37 D]) (fun N f q m=>N) ⟨xC,0,a.yf,a.fT⟩ h (.q U) (.a4) ?_
   rintro(_|a7) f q m h;·cases h
   rw[kQ] at h
   refine WC.b<|WC.b<|Ld<|La U<|La U<|La U<|La U<|La U<|WL.nil<|Lb<|Lk U h (fun aO h=>?_)<|fun aO h=>?_
   ·refine WC.skip<|Lb<|jK2 h fun a8 aP h=>WC.jO (fun(y:Int) (z:Int)=>(a8 y z=some r)) (fun y z=>[(4,vp g),(6,vp c),(8,vp d),(10,C),(11,E),(12,vi o),(13,vi k),(14,vi f)]) (fun y z=>[row C 158 4 (e.flatMap gg),stb g 31 A,stb c 37 [vi a.ya,vi a.fQ,vi y,vi z],stb d 37 D]) ?_ ?_
    ·refine WC.block<|WC.b<|bK h fun O aQ h=>Ld<|Le 56 (xw z1j U (xy .h1) U)<|Q2q U<|Lp 59 (zb call67<|.r3 U U U) .nil (sc hz .nil (.cons .here .nil) fun w pz ho la=>dI _ _ _ _ _ _ _ _ _ _ _ _ _ _ _ _ _ _ _ _ _ _ _ aQ w pz ((R.mono<|zl).weak (fun _ _ h=>wg zl h)) ((S.mono<|zl).weak (fun _ _ h=>wp zl h)) (T.mono<|zl) (L.mono<|zl) ((V.mono<|zl).weak (fun _ _ h=>wi zl h)) (W.mono<|zl) ((X.mono<|zl).weak (fun _ _ h=>wq zl h)) (Y.mono<|zl)<|ZA.row (la _ (.head _) _) (RR.flat (enc:=gg) (fun _=>U) _) ⟨w,pz.1⟩)<|Q1n U<|jK1 h fun a9 aR h=>Ma (fun(p:Int)=>(a9 p=some r)) (fun p=>[(4,vp g),(6,vp c),(8,vp d),(10,C),(11,E),(12,vi o),(13,vi k),(14,vi f),(15,vi O)]) (fun p=>[row C 158 4 (e.flatMap gg),stb g 31 A,stb c 37 [vi a.ya,vi a.fQ,vi p,vi m],stb d 37 D]) ?_ ?_
     ·let F:=(i64 ((i64 ((i64 (((nth b.fK a.fQ).yj)*O))-f))+o));refine WC.b<|Ld<|La U<|La U<|La U<|La U<|Lx true 10 63 (B:=(decide (f<k))&&(decide (F>q))) U U U U U U (fun h=>(vy h).symm) (fun _ aS=>?_) ?_
      ·exact La U<|La U<|La U<|La U<|La U<|La U<|La U<|Le 71 (xk uM U U)<|Le 72 (xl xu U<|xt .h2 U)<|Q2q U<|Ly (vz aS) U U .all
      refine Q0n<|Lk U h (fun aT h=>?_)<|fun aT h=>?_
      ·exact Ld<|La U<|La U<|La U<|La U<|La U<|La U<|La U<|Le 82 (xk uM U U)<|Lo U U (jF (ds:=[vi a.ya,vi a.fQ,vi F,vi m]) rf U U U U U .h2 U U)<|WL.nil<|Ln F h (.q U)<|.s4 .h1 .h1 .here .here
      ·exact WC.skip<|Ln q h (.q U)<|.a4
     ·rintro p h
      replace h:=(aR p).symm.trans h
      refine B2n U<|jK1 h fun ba aU h=>Ma (fun(v:Int)=>(ba v=some r)) (fun v=>[(4,vp g),(6,vp c),(8,vp d),(10,C),(11,E),(12,vi o),(13,vi k),(14,vi f),(16,vi v)]) (fun v=>[row C 158 4 (e.flatMap gg),stb g 31 A,stb c 37 [vi a.ya,vi a.fQ,vi p,vi m],stb d 37 D]) ?_ ?_
      ·refine B3n U<|Lk U h (fun aV h=>?_)<|fun aV h=>?_
       ·refine WC.b<|cK h fun aW h=>Ld<|La U<|La U<|La U<|La U<|La U<|Le 92 (rM U U aW U)<|Q2n U<|WC.b<|cK h fun aX h=>Ld<|La U<|La U<|La U<|La U<|Le 98 (Xb U U aX U)<|Q1n U<|Lk U h (fun aY h=>?_)<|fun aY h=>?_
        ·exact D3q U<|WL.nil<|Ln (i64 ((i64 (O-(i64<|Int.tdiv (i64 (f-o))<|(nth b.fK a.fQ).yj)))-1)) h (.q U)<|.a4
        ·exact WC.skip<|Ln (i64 (O-(i64<|Int.tdiv (i64 (f-o))<|(nth b.fK a.fQ).yj))) h (.q U)<|.a4
       ·exact WC.skip<|Ln O h (.q U)<|.a4
      ·rintro v h
       replace h:=(aU v).symm.trans h
       refine B1q U<|Le 103 (xk rE U U)<|Le 104 (xl xu U<|xt .h2 U)<|Q1n U<|Lk U h (fun aZ h=>?_)<|fun aZ h=>?_
       ·exact D1q U<|Le 107 (xk rE U U)<|Lo U U (jF (ds:=[vi a.ya,vi a.fQ,vi p,vi v]) rf U U U U U .h2 U U)<|WL.nil<|Lt<|Ln ⟨p,v⟩ h (.q U)<|.s4 .h1 .h1 .here .here
       ·exact WC.skip<|Lt<|Ln ⟨p,m⟩ h (.q U)<|.a4
    ·rintro y z h
     replace h:=(aP y z).symm.trans h
     exact D3q U<|WL.nil<|WX.round ⟨a7,i64 (f+1),y,z⟩ h (Nat.lt_succ_self _) (.q U)<|.a4
   ·exact WC.exit<|Lm<|Lm<|Lv<|Ln ⟨q,m⟩ h (.q U)<|.s3 .here .h1 .h1
  ·rintro t u h
   replace h:=(aN t u).symm.trans h
   refine B1n U ?_
   obtain⟨aC,a0,h⟩:=xS h
   let I:List Value:=[vi a.ya,vi a.fQ,vi t,vi u];refine Ma (fun(J:Int)=>(aC J=some r)) (fun J=>[(6,vp c),(8,vp d),(17,vi J)]) (fun J=>[stb c 37 I,stb d 37 D]) ?_ ?_
   ·let G:List Asrt:=[row C 158 4 (e.flatMap gg),stb c 37 I,stb d 37 D];refine B1n U<|WC.block<|WC.sk (fun(P:Nat) (x:Int) (n:Int)=>(kR e aC P x n=some r)) (fun P x n=>[(6,vp c),(8,vp d),(10,C),(17,vi x),(18,vi n)]) (fun P x n=>G) (fun P x n=>P) ⟨xC,0,0⟩ h (.q U) (.a3) ?_
    rintro(_|bb) x n h;·cases h
    rw[kR] at h
    refine WC.b<|B2q U<|Le 110 (xK underlying154 U)<|Q1n U<|Lk U h (fun a1 h=>?_)<|fun a1 h=>?_
    ·refine WC.skip<|Lb<|jK1 h fun bc a2 h=>Ma (fun(K:Int)=>(bc K=some r)) (fun K=>[(6,vp c),(8,vp d),(10,C),(17,vi K),(18,vi n)]) (fun K=>G) ?_ ?_
     ·refine WC.block<|WC.b<|cK h fun Q h=>D2q U<|WL.know (fun w hw=>Hp.vB .here hw (by intro iT;have:=Q;rw[iT] at this;omega)) ?_
      rintro⟨bg,rfl⟩
      refine Le 116 (w7 zd8 U U Q.1 Q.2 vN)<|Le 117 (xk lh U<|Addr.add_lit _ _ _)<|Le 118 (xl xu U<|gq .here<|(vt (enc:=gg) (l:=e) (i:=n) (sz:=4) (fun _=>U) Q.1 Q.2) 2 _ U)<|Q2n U<|Lk U h (fun a3 h=>?_)<|fun a3 h=>?_
      ·exact cK h fun aa h=>D2q U<|Le 123 (w7 zd8 U U aa.1 aa.2 vN)<|Le 124 (xk lh U<|Addr.add_lit _ _ _)<|Le 125 (xl xu U<|gq .here<|(vt (enc:=gg) (l:=e) (i:=n) (sz:=4) (fun _=>U) aa.1 aa.2) 2 _ U)<|La U<|WL.nil<|Lt<|Ln ((nth e n).yn) h (.q U)<|.a3
      ·exact WC.skip<|Lt<|Ln x h (.q U)<|.a3
     ·rintro K h
      replace h:=(a2 K).symm.trans h
      exact D3q U<|WL.nil<|WX.round ⟨bb,K,i64 (n+1)⟩ h (Nat.lt_succ_self _) (.q U)<|.a3
    ·exact WC.exit<|Lm<|Lm<|Lv<|Ln x h (.q U)<|.s2 .h1 .h1
   ·rintro J h
    replace h:=(a0 J).symm.trans h
    refine B0q<|Le 126 (xk rE U U)<|Le 127 (xl xu U<|xt .here U)<|Q2q U<|Le 130 (xk rE U U)<|Lo U U (jF (ds:=[vi a.ya,vi a.fQ,vi t,(vi<|i64 (u+J))]) rf U U U U U .here U U)<|Q0n<|B0q<|Le 131 (xw z5F U (xy .here) U)<|Lo U U (xz zaT U U U .h1 U U U)<|Q1n U<|WC.ret ?_
    obtain rfl:=oJ h
    exact Li results32 (.agg U z5F U (xy .here)<|.tmp U .nil)<|fun w hw=>⟨wV U U,hw.sub .nil⟩
def g0:Nat->(List za)->(List ye)->Int->Int->Option Int
 | 0,_,_,_,_=>none
 | d+1,z3p,z58,z8y,z60=>(km z3p z8y).bind fun a=>chk (((decide (z60=0))||(decide (a<0)))=false->((0:Int)<=0/\0<(z3p.length:Int))) (if ((decide (z60=0))||(decide (a<0)))||(decide (z8y=((nth z3p 0).ya))) then some 0 else vk (fun(e:Int)=>chk (0<=a/\a<z3p.length) (((g0 d) z3p z58 ((nth z3p a).ya) (i64 (z60-1))).bind fun f=>some (i64 (e+f)))) fun c=>chk (0<=a/\a<z3p.length) ((vG z58 ((nth z3p a).ya) ((nth z3p a).fQ)).bind fun b=>if decide (b>=0) then chk (0<=b/\b<z58.length) (c ((nth z58 b).yf)) else c 0))
def pQ(z3p:List za)(z58:List ye)(z8y:Int)(z60:Int):Option Int:=g0 xC z3p z58 z8y z60
theorem ax:∀(n:Nat) (Z:Zp) (zbK:Option Addr) (zbL:Nat) (zbM:Option Addr) (zbN:Nat) (z3p:List za) (z58:List ye) (z8y:Int) (z60:Int) (r:Int) (w₀:World) (hz:PZ [] w₀ Z)
  (a:ZS Z 3 (rq vw) zbK zbL z3p)
  (c:ZS Z 4 (rq xY) zbM zbN z58) (h:g0 n z3p z58 z8y z60=some r),Calls Tryz.prog 69 #[vs zbK z3p.length zbL,vs zbM z58.length zbN,vi z8y,vi z60] w₀ fun e w'=>e = .returned (vi r)/\Hp [] w₀ w' []:=by
 intro n
 induction n with
 | zero=>intro Z zbK zbL zbM zbN z3p z58 z8y z60 r w₀ hz a c h ;cases h
 | succ W ih=>
  intro Z zbK zbL zbM zbN z3p z58 z8y z60 r w₀ hz a c h 
  rw[g0] at h
  refine Calls.on4 func69 ntmps69 ?_
  refine B1n U<|WC.b<|bK h fun d i h=>D2q U<|Lp 14 (zb call68<|.r2 U U) .nil (cc hz .nil fun w pz ho=>rY _ _ _ _ _ _ i w pz a)<|Q1n U<|WC.b<|WC.b<|cK h fun k h=>D3q U<|Lx false 2 17 (B:=(decide (z60=0))||(decide (d<0))) U U U U U U (fun h=>(kx h).symm) (fun _ l=>?_) ?_
  ·exact La U<|La U<|La U<|Ly (ky l) U U .all
  refine La U<|Lx false 6 21 (B:=((decide (z60=0))||(decide (d<0)))||(decide (z8y=((nth z3p 0).ya)))) U U U U U U (fun h=>(kx h).symm) (fun _ f=>?_) ?_
  ·have m:=k f
   refine Q2q U<|L0 (dd:=24) U U (Z:=Z) (Pr:=(rq vw)) z1v U U a m ?_
   rintro G H o I rfl
   exact Le 25 (xk ww U U)<|Le 26 (xl xu U<|xM hz.pv o U)<|Q2q U<|Ly (ky f) U U .all
  refine Q0n<|Lk U h (fun p h=>?_)<|fun p h=>?_
  ·refine B1n U<|WC.ret<|Ll ?_
   obtain rfl:=oJ h
   exact Li results69 (.tmp U .nil)<|fun w hw=>⟨xJ U,hw.sub .nil⟩
  ·refine WC.skip<|Lb<|B1n U<|jK1 h fun D q h=>Ma (fun(b:Int)=>(D b=some r)) (fun b=>[(0,vs zbK z3p.length zbL),(1,vs zbM z58.length zbN),(3,vi z60),(9,vi d),(10,vi b)]) (fun b=>[]) ?_ ?_
   ·refine WC.b<|cK h fun g h=>bK h fun E s h=>Lz nc [] U<|Lf 0 29 U (q_m U)<|Lf 1 30 U (q_m U)<|Lf 2 31 U (q_m U)<|L2 (j:=3) (dd:=32) (by kernel_rfl) U zO zP U U (Z:=Z) (Pr:=(rq vw)) z1v U U a g ?_
    rintro J K t L rfl
    refine Lf 4 33 U (xk ww U U)<|Lh 5 34 U (xl xu U<|xM hz.pv t U)<|Lf 6 35 U (q_m U)<|Lf 7 36 U (q_m U)<|L2 (j:=8) (dd:=37) (by kernel_rfl) U zO zP U U (Z:=Z) (Pr:=(rq vw)) z1v U U a g ?_
    rintro M N u O rfl
    refine Lf 9 38 U (xk kz U U)<|Lh 10 39 U (xl xu U<|xM hz.pv u U)<|L5 11 40 U (zb call34<|.r3 U U U) (cc hz .nil fun w pz ho=>tP _ _ _ _ _ _ _ s w pz c)<|Lf 12 11 U (q_z U)<|WD.done (by kernel_rfl)<|Lb<|B2n U<|Lk U h (fun v h=>?_)<|fun v h=>?_
    ·refine cK h fun x h=>D2q U<|L0 (dd:=45) U U (Z:=Z) (Pr:=(rq xY)) z1r U U c x ?_
     rintro P Q y R rfl
     exact Le 46 (xk uM U U)<|Le 47 (xl xu U<|xM hz.pv y U)<|La U<|WL.nil<|Ln ((nth z58 E).yf) h (.q U) .nil
    ·exact WC.skip<|Ln 0 h (.q U) .nil
   ·rintro b h
    replace h:=(q b).symm.trans h
    refine WC.b<|cK h fun z h=>bK h fun F A h=>Ld<|La U<|La U<|La U<|La U<|La U<|L0 (dd:=53) U U (Z:=Z) (Pr:=(rq vw)) z1v U U a z ?_
    rintro S T C V rfl
    refine Le 54 (xk ww U U)<|Le 55 (xl xu U<|xM hz.pv C U)<|Q2q U<|Lp 58 (zb call69<|.r4 U U U U) .nil (cc hz .nil fun w pz ho=>ih (Z:=_) (zbK:=zbK) (zbL:=zbL) (zbM:=zbM) (zbN:=zbN) (z3p:=z3p) (z58:=z58) (z8y:=((nth z3p d).ya)) (z60:=(i64 (z60-1))) (r:=F) w pz a c A)<|Q2n U<|WC.ret ?_
    obtain rfl:=oJ h
    exact Li results69 (.tmp U .nil)<|fun w hw=>⟨xJ U,hw.sub .nil⟩
theorem V8(Z:Zp)(zbK:Option Addr)(zbL:Nat)(zbM:Option Addr)(zbN:Nat)(z3p:List za)(z58:List ye)(z8y:Int)(z60:Int)(r:Int)(w₀:World)(hz:PZ [] w₀ Z)(a:ZS Z 3 (rq vw) zbK zbL z3p)(b:ZS Z 4 (rq xY) zbM zbN z58)(h:pQ z3p z58 z8y z60=some r):Calls Tryz.prog 69 #[vs zbK z3p.length zbL,vs zbM z58.length zbN,vi z8y,vi z60] w₀ fun e w'=>e = .returned (vi r)/\Hp [] w₀ w' []:=ax xC Z zbK zbL zbM zbN z3p z58 z8y z60 r w₀ hz a b h 
def g4(b:List (List za))(c:Int)(d:Option (List zf)):Nat->Int->Option (List zf)
 | 0,_=>none
 | e+1,a=>if decide (a<((nth b c).length:Int)) then chk (0<=a/\a<((nth b c).length:Int)) (chk ((0:Int)<=0/\0<((nth b c).length:Int)) ((if decide (((nth (nth b c) a).ya)≠((nth (nth b c) 0).ya)) then chk ((0:Int)<=0/\(0:Int)<=a/\a<=((nth b c).length:Int)) (chk (0<=a/\a<((nth b c).length:Int)) ((km ((nth b c).take (a:Int).toNat) ((nth (nth b c) a).ya)).bind fun f=>some (decide (f<0)))) else some false).bind fun g=>if g then some ([]:List zf) else g4 b c d e (i64 (a+1)))) else d
def f0(i:zi)(b:List (List za))(a:Int)(e:List ye)(f:(List zf)->Option (List zf)):Nat->(List zf)->Int->Option (List zf)
 | 0,_,_=>none
 | j+1,c,iD=>if decide (iD<i.fM.length) then vk (fun(k:List zf)=>f0 i b a e f j k (i64 (iD+1))) fun g=>(km (nth b a) iD).bind fun h=>chk ((decide (h>=0))=true->((0:Int)<=0/\0<((nth b a).length:Int))) (if (decide (h>=0))&&(decide (((nth (nth b a) 0).ya)≠iD)) then(pQ (nth b a) e iD ((nth b a).length:Int)).bind fun d=>chk ((((c++([(⟨a,iD,d⟩:zf)]:List zf)).length:Nat):Int)*24<=140737488355328/\(((c++([(⟨a,iD,d⟩:zf)]:List zf)).length:Nat):Int)<=4611686018427387904) (g (c++([(⟨a,iD,d⟩:zf)]:List zf))) else g c) else f c
def f5(b:List (List za))(f:zi)(c:List ye)(d:(List zf)->Option (List zf)):Nat->(List zf)->Int->Option (List zf)
 | 0,_,_=>none
 | g+1,e,a=>if decide (a<b.length) then vk (fun(h:List zf)=>f5 b f c d g h (i64 (a+1))) fun i=>chk (0<=a/\a<b.length) (g8 (vk (fun(j:List zf)=>i j) fun k=>f0 f b a c k xC e 0) fun l=>g4 b a l xC 0) else d e
def uV(e:zi)(a:List (List za))(b:List ye):Option (List zf):=
 vk (fun(c:List zf)=>some c) fun d=>f5 a e b d xC ([]:List zf) 0
theorem XT(Z:Zp)(Y:Option Addr)(aa:Nat)(ab:Option Addr)(ad:Nat)(ae:Option Addr)(ag:Nat)(ah:Option Addr)(ai:Nat)(aj:Option Addr)(ak:Nat)(al:Option Addr)(am:Nat)(an:Option Addr)(ao:Nat)(ap:Option Addr)(aq:Nat)(ar:Option Addr)(au:Nat)(W:Option Addr)(X:Nat)(b:zi)(c:List (List za))(y:List ye)(r:List zf)(h:uV b c y=some r)(w₀:World)(hz:PZ [] w₀ Z)(bm:ZS Z 4 (vU Z) Y aa b.fM)(bn:ZS Z 4 (qr Z) ab ad b.yc)(bo:ZS Z 4 (rq jm) ae ag b.fS)(bp:ZS Z 4 (rq qm) ah ai b.fK)(bq:ZS Z 7 (qK Z) aj ak b.yd)(br:ZS Z 5 (rq qI) al am b.fH)(bs:ZS Z 3 (qs Z) an ao b.fU)(bt:ZS Z 4 (rq qJ) ap aq b.yb)(aK:ZS Z 1 (qt Z) ar au c)(aL:ZS Z 4 (rq xY) W X y):
  Calls Tryz.prog 35 #[.agg #[vs Y b.fM.length aa,vs ab b.yc.length ad,vs ae b.fS.length ag,vs ah b.fK.length ai,vs aj b.yd.length ak,vs al b.fH.length am,vs an b.fU.length ao,vs ap b.yb.length aq],vs ar c.length au,vs W y.length X] w₀ fun e w'=>∃ ay:Option Addr,∃ az:Nat,e = .returned (vs ay r.length az)/\True/\Hp [] w₀ w' [row (vs ay r.length az) 53 3 (r.flatMap jI)]:=by
 unfold uV at h
 refine Me func35 ntmps35 ?_
 let A:List Value:=[vs Y b.fM.length aa,vs ab b.yc.length ad,vs ae b.fS.length ag,vs ah b.fK.length ai,vs aj b.yd.length ak,vs al b.fH.length am,vs an b.fU.length ao,vs ap b.yb.length aq];refine B0q<|Lg 3 (xO (cs:=A) U U) ?_
 intro d _
 refine Q1n U<|B1n U<|jK1 h fun aA aM h=>Md (fun(t:List zf) (J:Option Addr) (K:Nat)=>(aA t=some r)) (fun t J K=>[(7,vs J t.length K)]) (fun t J K=>[row (vs J t.length K) 53 3 (t.flatMap jI)]) ?_ ?_
 ·let D:Value:=(vs ar c.length au);let E:Value:=(vs W y.length X);refine B1n U<|WC.block<|WC.nilRow 53 3<|WC.fk (fun(R:Nat) (g:List zf) (a:Int) (m:Option Addr) (n:Nat)=>(f5 c b y aA R g a=some r)) (fun R g a m n=>[(1,D),(2,E),(3,vp d),(7,vs m g.length n),(8,vi a)]) (fun R g a m n=>[row (vs m g.length n) 53 3 (g.flatMap jI),stb d 31 A]) (fun R g a m n=>R) ⟨xC,([]:List zf),0,none,0⟩ h (.q U) (.a2) ?_
  rintro(_|bf) g a m n h;·cases h
  rw[f5] at h
  refine WC.b<|B2q U<|Le 14 (xK underlying32 U)<|Q1n U<|Lk U h (fun aN h=>?_)<|fun aN h=>?_
  ·refine WC.skip<|Lb<|jK1 h fun bg aO h=>Md (fun(o:List zf) (L:Option Addr) (M:Nat)=>(bg o=some r)) (fun o L M=>[(1,D),(2,E),(3,vp d),(7,vs L o.length M),(8,vi a)]) (fun o L M=>[row (vs L o.length M) 53 3 (o.flatMap jI),stb d 31 A]) ?_ ?_
   ·refine WC.block<|WC.b<|cK h fun aP h=>D2q U<|L0 (dd:=20) U U (Z:=Z) (Pr:=(qt Z)) z3K U U aK aP ?_
    rintro bu bv aQ bw ⟨aB,aC,rfl,z⟩
    refine Le 21 (xl z3q U<|q9 hz.pv aQ U)<|Q1n U ?_
    obtain⟨aD,aR,h⟩:=wJ h
    let C:Value:=(vs aB ((nth c a).length) aC);let F:Value:=(vs m g.length n);let H:List Asrt:=[row F 53 3 (g.flatMap jI),stb d 31 A];refine L7 (aD=some r) ([(1,D),(2,E),(3,vp d),(7,F),(8,vi a),(9,C)]) (H) ?_ ?_
    ·refine B1n U<|WC.block<|L6 (fun(S:Nat) (f:Int)=>(g4 c a aD S f=some r)) (fun S f=>[(1,D),(2,E),(3,vp d),(7,F),(8,vi a),(9,C),(10,vi f)]) (fun S f=>H) (fun S f=>S) ⟨xC,0⟩ h (.q U) (.a2) ?_
     rintro(_|bh) f h;·cases h
     rw[g4] at h
     refine WC.b<|B2q U<|Le 24 (xK underlying58 U)<|Q1n U<|Lk U h (fun aS h=>?_)<|fun aS h=>?_
     ·refine WC.skip<|Lb<|WC.b<|WC.block<|WC.b<|cK h fun aT h=>cK h fun aU h=>bK h fun bi aE h=>Lz nc [] U<|Lf 0 28 U (q_m U)<|Lf 1 29 U (q_m U)<|L2 (j:=2) (dd:=30) (by kernel_rfl) U zO zP U U (Z:=Z) (Pr:=(rq vw)) z1v U U z aT ?_
      rintro aF bx aV bz rfl
      refine Lf 3 31 U (xk ww U U)<|Lh 4 32 U (xl xu U<|xM hz.pv aV U)<|Lf 5 33 U (q_m U)<|L2 (j:=6) (dd:=34) (by kernel_rfl) U zO zP U U (Z:=Z) (Pr:=(rq vw)) z1v U U z aU ?_
      rintro aG bA aW bB rfl
      let G:Value:=(.bool (decide (((nth (nth c a) f).ya)≠((nth (nth c a) 0).ya))));let I:=((nth c a).length:Int);refine Lf 7 35 U (xk ww U U)<|Lh 8 36 U (xl xu U<|xM hz.pv aW U)<|Lf 9 37 U (eh U U)<|Lf 10 38 U (q_m U)<|Mc (fuel':=0) [(1,D),(2,E),(3,vp d),(7,F),(8,vi a),(9,C),(10,vi f),(22,vi f),(23,C),(24,vi I),(25,(.bool<|decide (f<I))),(28,C),(29,vi f),(30,vq aF),(31,(.pointer<|some<|aF.add 0)),(32,(vi<|(nth (nth c a) f).ya)),(33,C),(34,vq aG),(35,(.pointer<|some<|aG.add 0)),(36,(vi<|(nth (nth c a) 0).ya)),(37,G),(38,G),(49,.bool bi)] (wl 22 (dn 22)) ?_<|fun aH=>?_
      rotate_left
      ·rcases Bool.eq_false_or_eq_true (decide (((nth (nth c a) f).ya)≠((nth (nth c a) 0).ya))) with hb' | hb'
       ·have av:=hb';clear hb'
        have p:=q7 aE av
        obtain⟨aX,p⟩:=xq p
        obtain⟨aY,p⟩:=xq p
        obtain⟨bM,aZ,p⟩:=z8 p
        replace p:=oJ p
        refine L4 (i:=38) U av<|Lf 11 39 U (q_m U)<|Lf 12 40 U (q_m U)<|WD.zsub (j:=13) (dd:=41) (by kernel_rfl) U zO zP U U (Z:=Z) (Pr:=(rq vw)) z1v U z (fun _=>ixn) (fun _=>ixo U) U U aX (List.drop_zero).symm ?_
        rintro bC bD a0
        refine Lf 14 42 U (q_m U)<|Lf 15 43 U (q_m U)<|L2 (j:=16) (dd:=44) (by kernel_rfl) U zO zP U U (Z:=Z) (Pr:=(rq vw)) z1v U U z aY ?_
        rintro bE bF a1 bG rfl
        refine Lf 17 45 U (xk ww U U)<|Lh 18 46 U (xl xu U<|xM hz.pv a1 U)<|L5 19 47 U (zb call68<|.r2 U U) (cc hz .nil fun w pz ho=>rY _ _ _ _ _ _ aZ w pz a0)<|Lf 20 48 U (lR U U)<|Lf 21 49 U (qe U U)<|Lw (.a2) ?_ aH
        exact .r23 U U U U U U U U U U U U U U U U U U U U U (zt<|Eq.symm av)<|zt p
       ·have aw:=hb';clear hb'
        have ax:=q8 aE aw
        replace ax:=oJ ax
        refine L4 (i:=38) U aw<|Lj 11 39 U<|Lj 12 40 U<|Lj 13 41 U<|Lj 14 42 U<|Lj 15 43 U<|Lj 16 44 U<|Lj 17 45 U<|Lj 18 46 U<|Lj 19 47 U<|Lj 20 48 U<|Lf 21 49 U (qf U U)<|Lw (.a2) ?_ aH
        exact .r23 U U U U U U U U U U U U U U U U U U U U U (zt<|Eq.symm aw)<|zt ax
      refine WD.done (by kernel_rfl)<|Lb<|Lk U h (fun a2 h=>?_)<|fun a2 h=>?_
      ·refine B1n U<|WC.ret<|Lu<|Ll<|Ll<|Lu<|Ll<|Lu<|Ll<|Ll<|Lu<|Ll<|WX.nilRow 53 3 ?_
       obtain rfl:=oJ h
       exact Li results35 (.tmp U .nil)<|fun w hw=>⟨none,0,xJ U,trivial,hw.sub (.cons .here .nil)⟩
      ·exact WC.skip<|Lt<|Lb<|D3q U<|WL.nil<|WX.round ⟨bh,i64 (f+1)⟩ h (Nat.lt_succ_self _) (.q U)<|.a2
     ·exact WC.exit<|Lm<|Lm<|Lv<|Ln () h (.q U)<|.a2
    ·rintro  h
     replace h:=aR.symm.trans h
     refine B1n U<|jK1 h fun aI a3 h=>WC.ei (fun(q:List zf) (N:Option Addr) (O:Nat)=>(aI q=some r)) (fun q N O=>[(1,D),(2,E),(3,vp d),(7,vs N q.length O),(8,vi a)]) (fun q N O=>[row (vs N q.length O) 53 3 (q.flatMap jI),stb d 31 A]) ?_ ?_
     ·refine WC.block<|WC.fk (fun(T:Nat) (k:List zf) (iD:Int) (u:Option Addr) (x:Nat)=>(f0 b c a y aI T k iD=some r)) (fun T k iD u x=>[(1,D),(2,E),(3,vp d),(7,vs u k.length x),(8,vi a),(9,C),(11,vi iD)]) (fun T k iD u x=>[row (vs u k.length x) 53 3 (k.flatMap jI),stb d 31 A]) (fun T k iD u x=>T) ⟨xC,g,0,m,n⟩ h (.q U) (.a2) ?_
      rintro(_|bj) k iD u x h;·cases h
      rw[f0] at h
      refine WC.b<|B1q U<|Le 51 (xk jB U U)<|Le 52 (xl z4F U<|xt .h1 U)<|Le 53 (xK underlying22 U)<|Q1n U<|Lk U h (fun a4 h=>?_)<|fun a4 h=>?_
      ·refine WC.skip<|Lb<|jK1 h fun bk a5 h=>Md (fun(s:List zf) (P:Option Addr) (Q:Nat)=>(bk s=some r)) (fun s P Q=>[(1,D),(2,E),(3,vp d),(7,vs P s.length Q),(8,vi a),(9,C),(11,vi iD)]) (fun s P Q=>[row (vs P s.length Q) 53 3 (s.flatMap jI),stb d 31 A]) ?_ ?_
       ·refine WC.block<|WC.b<|bK h fun bl a6 h=>cK h fun a7 h=>D2q U<|Lp 59 (zb call68<|.r2 U U) .nil (cc hz .nil fun w pz ho=>rY _ _ _ _ _ _ a6 w pz z)<|Q2q U<|Lx true 6 61 (B:=(decide (bl>=0))&&(decide (((nth (nth c a) 0).ya)≠iD))) U U U U U U (fun h=>(vy h).symm) (fun _ aJ=>?_) ?_
        ·have a8:=a7 aJ
         refine La U<|L0 (dd:=63) U U (Z:=Z) (Pr:=(rq vw)) z1v U U z a8 ?_
         rintro bH bI a9 bJ rfl
         exact Le 64 (xk ww U U)<|Le 65 (xl xu U<|xM hz.pv a9 U)<|La U<|La U<|La U<|Ly (vz aJ) U U .all
        refine Q0n<|Lk U h (fun ba h=>?_)<|fun ba h=>?_
        ·refine bK h fun V bb h=>cK h fun bc h=>Ld<|La U<|La U<|La U<|La U<|La U<|La U<|La U<|Le 76 (xK underlying58 U)<|Lp 77 (zb call69<|.r4 U U U U) .nil (cc hz .nil fun w pz ho=>V8 (Z:=_) (zbK:=aB) (zbL:=aC) (zbM:=W) (zbN:=X) (z3p:=(nth c a)) (z58:=y) (z8y:=iD) (z60:=((nth c a).length:Int)) (r:=V) w pz z aL bb)<|Le 78 (w3 (v:=(.agg #[vi a,vi iD,vi V])) (Lq (l:=[.tmp 70,.tmp 71,.tmp 77]) (.r3 U U U) [0,1,2]) (fun _=>by kernel_rfl)) (Lg 79 (xU (cs:=([(⟨a,iD,V⟩:zf)]:List zf).flatMap jI) zja (Lq (l:=[.tmp 78]) (.cons U .nil) [0]) (fun _=>by kernel_rfl) U (by unfold maxLen;omega)) fun bL _=>WL.fA 80 (vT (enc:=jI) (l1:=k) (l2:=([(⟨a,iD,V⟩:zf)]:List zf)) zja U U .h1 (fun _=>U) U U (vL .here) (qR af _) bc) ?_)
         rintro⟨bd,be⟩ _
         exact La U<|WL.nil<|Lt<|Ln ⟨k++([(⟨a,iD,V⟩:zf)]:List zf),bd,be⟩ h (.q U)<|.s2 .here .h1
        ·exact WC.skip<|Lt<|Ln ⟨k,u,x⟩ h (.q U)<|.a2
       ·rintro s P Q h
        replace h:=(a5 s).symm.trans h
        exact D3q U<|WL.nil<|WX.round ⟨bj,s,i64 (iD+1),P,Q⟩ h (Nat.lt_succ_self _) (.q U)<|.a2
      ·exact WC.exit<|Lm<|Lm<|Lv<|Ln ⟨k,u,x⟩ h (.q U)<|.a2
     ·rintro q N O h
      replace h:=(a3 q).symm.trans h
      exact Lt<|Ln ⟨q,N,O⟩ h (.q U)<|.a2
   ·rintro o L M h
    replace h:=(aO o).symm.trans h
    exact D3q U<|WL.nil<|WX.round ⟨bf,o,i64 (a+1),L,M⟩ h (Nat.lt_succ_self _) (.q U)<|.a2
  ·exact WC.exit<|Lm<|Lm<|Lv<|Ln ⟨g,m,n⟩ h (.cons U .nil)<|.cons .here .nil
 ·rintro t J K h
  replace h:=(aM t).symm.trans h
  refine B2n U<|WC.ret ?_
  obtain rfl:=oJ h
  exact Li results35 (.tmp U .nil)<|fun w hw=>⟨J,K,xJ U,trivial,hw.sub (.cons .here .nil)⟩
def kq(b:zi)(c:Option (yw×Int)):Nat->Int->Option (yw×Int)
 | 0,_=>none
 | d+1,a=>if decide (a<b.yd.length) then chk (0<=a/\a<b.yd.length) ((ua (⟨(nth b.yd a).yq,(⟨((nth b.yd a).yi).yp,((nth b.yd a).yi).yt,((nth b.yd a).yi).yu⟩:yv),(nth b.yd a).yo,(nth b.yd a).yn,(nth b.yd a).yy⟩:ym)).bind fun e=>if !e then some ((⟨([]:List ye),([]:List zf)⟩:yw),350) else kq b c d (i64 (a+1))) else c
def kr(b:List ye×Int)(g:zi)(e:List (List za))(f:(List ye)->Option (yw×Int)):Nat->(List ye)->Int->Option (yw×Int)
 | 0,_,_=>none
 | h+1,c,a=>if decide (a<b.1.length) then chk (0<=a/\a<b.1.length) ((mD g e (⟨(nth b.1 a).ya,(nth b.1 a).fQ,(nth b.1 a).yf,(nth b.1 a).fT⟩:ye) c).bind fun d=>if !d.2 then some ((⟨([]:List ye),([]:List zf)⟩:yw),360) else chk (((c++([d.1]:List ye)).length:Int)*32<=140737488355328/\((c++([d.1]:List ye)).length:Int)<=4611686018427387904) (kr b g e f h (c++([d.1]:List ye)) (i64 (a+1)))) else f c
def ku(a:List ye)(e:(List ye)->Option (yw×Int)):Nat->Int->(List ye)->Option (yw×Int)
 | 0,_,_=>none
 | f+1,b,c=>if decide (b<c.length) then chk (0<=b/\b<c.length) ((vG a ((nth c b).ya) ((nth c b).fQ)).bind fun d=>chk (0<=d/\d<a.length) (ku a e f (i64 (b+1)) (c.set (b:Int).toNat (⟨(nth a d).ya,(nth a d).fQ,(nth a d).yf,(nth a d).fT⟩:ye)))) else e c
def uw(b:zi)(d:Int)(a:List (List za)):Option (yw×Int):=
 (f9 b d a).bind fun f=>if !f then some ((⟨([]:List ye),([]:List zf)⟩:yw),310) else g8 ((uc b d a).bind fun c=>if decide (c.2≠0) then some ((⟨([]:List ye),([]:List zf)⟩:yw),c.2) else vk (fun(g:List ye)=>(mC a).bind fun h=>vk (fun(e:List ye)=>(uV b a e).bind fun i=>some ((⟨e,i⟩:yw),0)) fun j=>ku g j xC 0 h) fun k=>kr c b a k xC ([]:List ye) 0) fun l=>kq b l xC 0
theorem ay(Z:Zp)(aa:Option Addr)(ab:Nat)(ad:Option Addr)(ae:Nat)(af:Option Addr)(ag:Nat)(ah:Option Addr)(ai:Nat)(aj:Option Addr)(ak:Nat)(al:Option Addr)(am:Nat)(an:Option Addr)(ao:Nat)(ap:Option Addr)(aq:Nat)(ar:Option Addr)(au:Nat)(c:zi)(P:Int)(G:List (List za))(r:yw×Int)(h:uw c P G=some r)(w₀:World)(hz:PZ [] w₀ Z)(Q:ZS Z 4 (vU Z) aa ab c.fM)(R:ZS Z 4 (qr Z) ad ae c.yc)(S:ZS Z 4 (rq jm) af ag c.fS)(T:ZS Z 4 (rq qm) ah ai c.fK)(H:ZS Z 7 (qK Z) aj ak c.yd)(V:ZS Z 5 (rq qI) al am c.fH)(W:ZS Z 3 (qs Z) an ao c.fU)(X:ZS Z 4 (rq qJ) ap aq c.yb)(I:ZS Z 1 (qt Z) ar au G):
  Calls Tryz.prog 13 #[.agg #[vs aa c.fM.length ab,vs ad c.yc.length ae,vs af c.fS.length ag,vs ah c.fK.length ai,vs aj c.yd.length ak,vs al c.fH.length am,vs an c.fU.length ao,vs ap c.yb.length aq],vi P,vs ar G.length au] w₀ fun e w'=>∃ aw:Option Addr,∃ ax:Nat,∃ az:Option Addr,∃ aA:Nat,e = .returned (.tuple #[.agg #[vs aw r.1.fP.length ax,vs az r.1.ys.length aA],vi r.2])/\True/\Hp [] w₀ w' [row (vs aw r.1.fP.length ax) 37 4 (r.1.fP.flatMap xY),row (vs az r.1.ys.length aA) 53 3 (r.1.ys.flatMap jI)]:=by
 unfold uw at h
 refine Me func13 ntmps13 ?_
 let A:List Value:=[vs aa c.fM.length ab,vs ad c.yc.length ae,vs af c.fS.length ag,vs ah c.fK.length ai,vs aj c.yd.length ak,vs al c.fH.length am,vs an c.fU.length ao,vs ap c.yb.length aq];refine B0q<|Lg 3 (xO (cs:=A) U U) ?_
 intro j _
 refine Lg 6 (xG (cs:=[vn,vn]) zbU U) fun m _=>Q1n U<|WC.b<|WC.b<|bK h fun bk aI h=>Ld<|Le 17 (xw z1j U (xy .h1) U)<|Q2q U<|Lp 20 (zb call29<|.r3 U U U) .nil (cc hz .nil fun w pz ho=>rt _ _ _ _ _ _ _ _ _ _ _ _ _ _ _ _ _ _ _ _ _ _ _ aI w pz Q R S T H V W X I)<|Q1n U<|Lk U h (fun aJ h=>?_)<|fun aJ h=>?_
 ·refine B0q<|Le 22 (w3 (v:=(.agg #[vn,vn])) (Lq (l:=[]) .nil []) (fun _=>by kernel_rfl))<|Lo U U (xz z5c U U U .here U U U)<|Q1n U<|WC.ret<|Ll<|WX.nilRow 37 4<|WX.nilRow 53 3 ?_
  obtain rfl:=oJ h
  exact Li results13 (.agg U z4G U (xy .h2)<|.tmp U .nil)<|fun w hw=>⟨none,0,none,0,wV U U,trivial,hw.sub (.s2 .h1 .here)⟩
 ·refine WC.skip<|Lb ?_
  obtain⟨aB,aK,h⟩:=wJ h
  let C:Value:=(vs ar G.length au);refine L7 (aB=some r) ([(1,vi P),(2,C),(3,vp j),(6,vp m)]) ([stb j 31 A,stb m 40 [vn,vn]]) ?_ ?_
  ·refine B1n U<|WC.block<|L6 (fun(J:Nat) (s:Int)=>(kq c aB J s=some r)) (fun J s=>[(1,vi P),(2,C),(3,vp j),(6,vp m),(8,vi s)]) (fun J s=>[stb j 31 A,stb m 40 [vn,vn]]) (fun J s=>J) ⟨xC,0⟩ h (.q U) (.s2 .h1 .here) ?_
   rintro(_|a5) s h;·cases h
   rw[kq] at h
   refine WC.b<|B1q U<|Le 24 (xk ma U U)<|Le 25 (xl z9f U<|xt .here U)<|Le 26 (xK underlying26 U)<|Q1n U<|Lk U h (fun aL h=>?_)<|fun aL h=>?_
   ·refine WC.skip<|Lb<|WC.b<|WC.block<|WC.b<|cK h fun aM h=>bK h fun bl aN h=>Ld<|Le 30 (xk ma U U)<|Le 31 (xl z9f U<|xt .here U)<|La U<|L0 (dd:=33) U U (Z:=Z) (Pr:=(qK Z)) zbT U U H aM ?_
    rintro bb bc aO bd ⟨be,bf,rfl,aP⟩
    refine Le 34 (xw zx1 U (vQ hz.pv aO) U)<|Lp 35 (zb call30<|.cons U .nil) .nil (cc hz .nil fun w pz ho=>X6 _ _ _ _ _ aN w pz aP)<|Q1n U<|Lk U h (fun aQ h=>?_)<|fun aQ h=>?_
    ·refine B0q<|Le 37 (w3 (v:=(.agg #[vn,vn])) (Lq (l:=[]) .nil []) (fun _=>by kernel_rfl))<|Lo U U (xz z5c U U U .h1 U U U)<|Q1n U<|WC.ret<|Lu<|Ll<|Ll<|Lu<|Ll<|WX.nilRow 37 4<|WX.nilRow 53 3 ?_
     obtain rfl:=oJ h
     exact Li results13 (.agg U z4G U (xy .h2)<|.tmp U .nil)<|fun w hw=>⟨none,0,none,0,wV U U,trivial,hw.sub (.s2 .h1 .here)⟩
    ·exact WC.skip<|Lt<|Lb<|D3q U<|WL.nil<|WX.round ⟨a5,i64 (s+1)⟩ h (Nat.lt_succ_self _) (.q U)<|.a2
   ·exact WC.exit<|Lm<|Lm<|Lv<|Ln () h (.q U)<|.a2
  ·rintro  h
   replace h:=aK.symm.trans h
   refine WC.b<|bK h fun K aR h=>Ld<|Le 39 (xw z1j U (xy .here) U)<|Q2q U<|WL.jk (dd:=42) U U U (zb call31<|.r3 U U U) .nil (cc hz .nil fun w pz ho=>X9 _ _ _ _ _ _ _ _ _ _ _ _ _ _ _ _ _ _ _ _ _ _ _ aR w pz Q R S T H V W X I) ?_
   rintro a6 a7 _
   refine Q5n U<|WC.b<|B2n U<|Lk U h (fun aS h=>?_)<|fun aS h=>?_
   ·refine B0q<|Le 47 (w3 (v:=(.agg #[vn,vn])) (Lq (l:=[]) .nil []) (fun _=>by kernel_rfl))<|La U<|Lo U U (xz z5c U U U .h2 U U U)<|Q1n U<|WC.ret<|Ll<|WX.nilRow 37 4<|WX.nilRow 53 3 ?_
    obtain rfl:=oJ h
    exact Li results13 (.agg U z4G U (xy .h2)<|.tmp U .nil)<|fun w hw=>⟨none,0,none,0,wV U U,trivial,hw.sub (.s2 .h1 .here)⟩
   ·refine WC.skip<|Lb<|B1n U<|jK1 h fun aC aT h=>Md (fun(a:List ye) (B:Option Addr) (F:Nat)=>(aC a=some r)) (fun a B F=>[(2,C),(3,vp j),(6,vp m),(11,vs B a.length F)]) (fun a B F=>[row (vs B a.length F) 37 4 (a.flatMap xY),stb j 31 A,stb m 40 [vn,vn]]) ?_ ?_
    ·let D:Value:=(vs a6 K.1.length a7);refine B1n U<|WC.block<|WC.nilRow 37 4<|WC.fk (fun(L:Nat) (n:List ye) (o:Int) (t:Option Addr) (x:Nat)=>(kr K c G aC L n o=some r)) (fun L n o t x=>[(2,C),(3,vp j),(6,vp m),(9,D),(11,vs t n.length x),(12,vi o)]) (fun L n o t x=>[row D 37 4 (K.1.flatMap xY),row (vs t n.length x) 37 4 (n.flatMap xY),stb j 31 A,stb m 40 [vn,vn]]) (fun L n o t x=>L) ⟨xC,([]:List ye),0,none,0⟩ h (.q U) (.s4 .h1 .here .here .here) ?_
     rintro(_|a8) n o t x h;·cases h
     rw[kr] at h
     refine WC.b<|B2q U<|Le 51 (xK underlying33 U)<|Q1n U<|Lk U h (fun aU h=>?_)<|fun aU h=>?_
     ·refine WC.skip<|Lb<|WC.b<|WC.block<|WC.b<|cK h fun M h=>bK h fun av aV h=>Lz (fun i=>[12].contains i) [] U<|Lh 0 56 U (xw z1j U (xy .h2) U)<|Lf 1 57 U (q_m U)<|Lf 2 58 U (q_m U)<|Lf 3 59 U (q_m U)<|Mg (fun w hw=>Hp.vB .here hw (by intro iT;have:=M;rw[iT] at this;omega)) ?_
      rintro⟨bg,rfl⟩
      refine Lf 4 60 U (w7 z1r U U M.1 M.2 vN)<|Lh 5 61 U (wu (cs:=(xY<|nth K.1 o)) z5F U U<|g5 .here<|vt (enc:=xY) (l:=K.1) (i:=o) (sz:=4) (fun _=>U) M.1 M.2)<|Lf 6 62 U (q_m U)<|L5 7 63 U (zb call32<|.r4 U U U U) (sc hz .nil (.cons .h1 .nil) fun w pz ho la=>Yg _ _ _ _ _ _ _ _ _ _ _ _ _ _ _ _ _ _ _ _ _ _ _ _ _ _ aV w pz ((Q.mono<|zl).weak (fun _ _ h=>wg zl h)) ((R.mono<|zl).weak (fun _ _ h=>wp zl h)) (S.mono<|zl) (T.mono<|zl) ((H.mono<|zl).weak (fun _ _ h=>wi zl h)) (V.mono<|zl) ((W.mono<|zl).weak (fun _ _ h=>wq zl h)) (X.mono<|zl) ((I.mono<|zl).weak (fun _ _ h=>wv zl h))<|ZA.row (la _ (.head _) _) (RR.flat (enc:=xY) (fun _=>U) _) ⟨w,pz.1⟩)<|Lf 8 55 U (q_m U)<|Lf 9 64 U (te U U)<|Lf 10 65 U (te U U) (WD.new (i:=11) (dd:=13) U (by kernel_rfl) U U U (xG (cs:=[vi 0,vi 0,vi 0,vi 0]) zf7 U) (fun h'=>absurd h' (by decide)) fun bh _=>WD.forced0 (i:=12) U (by kernel_rfl) U U U (wB.of .nil) (xz zaT U U U .here U U U)<|Lf 13 14 U (q_z U)<|WD.done (by kernel_rfl)<|Lb<|WC.b<|B2n U<|Lk U h (fun aW h=>?_)<|fun aW h=>?_)
      ·refine B0q<|Le 68 (w3 (v:=(.agg #[vn,vn])) (Lq (l:=[]) .nil []) (fun _=>by kernel_rfl))<|Lo U U (xz z5c U U U .h4 U U U)<|Q1n U<|WC.ret<|Ll<|Lu<|Ll<|Ll<|Lu<|Ll<|WX.nilRow 37 4<|WX.nilRow 53 3 ?_
       obtain rfl:=oJ h
       exact Li results13 (.agg U z4G U (xy .h2)<|.tmp U .nil)<|fun w hw=>⟨none,0,none,0,wV U U,trivial,hw.sub (.s2 .h1 .here)⟩
      ·refine WC.skip<|Lb<|cK h fun aX h=>D1q U<|Le 70 (xw z5F U (xy .here) U) (Lg 71 (xU (cs:=([av.1]:List ye).flatMap xY) z1r (Lq (l:=[.tmp 70]) (.cons U .nil) [0]) (fun _=>by kernel_rfl) U (by unfold maxLen;omega)) fun bi _=>WL.fA 72 (vT (enc:=xY) (l1:=n) (l2:=([av.1]:List ye)) z1r U U .h3 (fun _=>U) U U (vL .here) (qR tE _) aX) ?_)
       rintro⟨aY,aZ⟩ _
       exact La U<|WL.nil<|Lt<|Lb<|D3q U<|WL.nil<|WX.round ⟨a8,n++([av.1]:List ye),i64 (o+1),aY,aZ⟩ h (Nat.lt_succ_self _) (.q U)<|.s4 .h3 .here .h2 .h2
     ·exact WC.exit<|Lm<|Lm<|Lv<|Ln ⟨n,t,x⟩ h (.q U)<|.s3 .h1 .h1 .h1
    ·rintro a B F h
     replace h:=(aT a).symm.trans h
     refine WC.b<|bK h fun aD a0 h=>D1q U<|WL.jk (dd:=74) U U U (zb call33<|.cons U .nil) .nil (cc hz .nil fun w pz ho=>c9 _ _ _ _ _ a0 w pz I) ?_
     rintro z p _
     refine Le 75 (w3 (v:=(.agg #[vs z aD.length p,vn])) (Lq (l:=[.tmp 74]) (.cons U .nil) [0]) (fun _=>by kernel_rfl)) (Lg 15 (xG (cs:=[vn,vn]) zbU U) fun Y _=>Lo U U (xz z5c U U U .here U U U)<|Q0n ?_)
     refine jK1 h fun aE a1 h=>Ma (fun(q:List ye)=>(aE q=some r)) (fun q=>[(2,C),(3,vp j),(6,vp m),(15,vp Y)]) (fun q=>[stb j 31 A,stb m 40 [vn,vn],stb Y 40 [vs z q.length p,vn],row (vs z q.length p) 37 4 (q.flatMap xY)]) ?_ ?_
     ·let E:Value:=(vs B a.length F);refine B1n U<|WC.block<|WC.sk (fun(N:Nat) (g:Int) (d:List ye)=>(ku a aE N g d=some r)) (fun N g d=>[(2,C),(3,vp j),(6,vp m),(11,E),(15,vp Y),(16,vi g)]) (fun N g d=>[row E 37 4 (a.flatMap xY),stb j 31 A,stb m 40 [vn,vn],stb Y 40 [vs z d.length p,vn],row (vs z d.length p) 37 4 (d.flatMap xY)]) (fun N g d=>N) ⟨xC,0,aD⟩ h (.q U) (.s5 .h2 .h2 .h2 .here .here) ?_
      rintro(_|a9) g d h;·cases h
      rw[ku] at h
      refine WC.b<|B1q U<|Le 77 (xk kB U U)<|Le 78 (xl z64 U<|xt .h3 U)<|Le 79 (xK underlying33 U)<|Q1n U<|Lk U h (fun a2 h=>?_)<|fun a2 h=>?_
      ·refine WC.skip<|Lb<|WC.b<|WC.block<|cK h fun f h=>bK h fun b a3 h=>cK h fun O h=>Lz (fun i=>[21].contains i) [] U<|Lf 0 83 U (xk kB U U)<|Lh 1 84 U (xl z64 U<|xt .h3 U)<|Lf 2 85 U (q_m U)<|Lf 3 86 U (q_m U)<|Lf 4 87 U (q_m U)<|Lf 5 88 U (xk kB U U)<|Lh 6 89 U (xl z64 U<|xt .h3 U)<|Lf 7 90 U (q_m U)<|Mg (fun w hw=>Hp.vB .h4 hw (by intro iT;have:=f;rw[iT] at this;omega)) ?_
       rintro⟨aF,rfl⟩
       refine Lf 8 91 U (w7 z1r U U f.1 f.2 vN)<|Lf 9 92 U (xk gt U<|Addr.add_lit _ _ _)<|Lh 10 93 U (xl xu U<|gq .h4<|(vt (enc:=xY) (l:=d) (i:=g) (sz:=4) (fun _=>U) f.1 f.2) 0 _ U)<|Lf 11 94 U (xk kB U U)<|Lh 12 95 U (xl z64 U<|xt .h3 U)<|Lf 13 96 U (q_m U)<|Lf 14 97 U (w7 z1r U U f.1 f.2 vN)<|Lf 15 98 U (xk mb U<|Addr.add_lit _ _ _)<|Lh 16 99 U (xl xu U<|gq .h4<|(vt (enc:=xY) (l:=d) (i:=g) (sz:=4) (fun _=>U) f.1 f.2) 1 _ U)<|L5 17 100 U (zb call34<|.r3 U U U) (sc hz .nil (.cons .here .nil) fun w pz ho la=>tP _ _ _ _ _ _ _ a3 w pz<|ZA.row (la _ (.head _) _) (RR.flat (enc:=xY) (fun _=>U) _) ⟨w,pz.1⟩)<|Mg (fun w hw=>Hp.vB .here hw (by intro iT;have:=O;rw[iT] at this;omega)) ?_
       rintro⟨bj,rfl⟩
       exact Lf 18 101 U (w7 z1r U U O.1 O.2 vN)<|Lh 19 102 U (wu (cs:=(xY<|nth a b)) z5F U U<|g5 .here<|vt (enc:=xY) (l:=a) (i:=b) (sz:=4) (fun _=>U) O.1 O.2)<|Lf 20 103 U (w7 z1r U U f.1 f.2 vN)<|WD.jD (i:=21) U (by kernel_rfl) U U U (by kernel_rfl) (nT (vs:=[(vi<|(nth a b).ya),(vi<|(nth a b).fQ),(vi<|(nth a b).yf),(vi<|(nth a b).fT)]) (ds:=(d.set (g:Int).toNat (⟨(nth a b).ya,(nth a b).fQ,(nth a b).yf,(nth a b).fT⟩:ye)).flatMap xY) zaT U U U U (bN U) .h4 (Xv (enc:=xY) (sz:=4) (k:=0) (fun _=>U) f.1 f.2 (by decide))<|Xr (enc:=xY) (l:=d) (sz:=4) (vs:=[(vi<|(nth a b).ya),(vi<|(nth a b).fQ),(vi<|(nth a b).yf),(vi<|(nth a b).fT)]) (y:=(⟨(nth a b).ya,(nth a b).fQ,(nth a b).yf,(nth a b).fT⟩:ye)) (k:=0) (fun _=>U) f.1 f.2 U<|Nat.le_of_ble_eq_true U)<|WD.relen .here (u:=(vs (some ⟨aF,0,none⟩) ((d.set (g:Int).toNat (⟨(nth a b).ya,(nth a b).fQ,(nth a b).yf,(nth a b).fT⟩:ye)).length) p)) (px (List.length_set).symm)<|WD.restb (cs':=[vs (some ⟨aF,0,none⟩) ((d.set (g:Int).toNat (⟨(nth a b).ya,(nth a b).fQ,(nth a b).yf,(nth a b).fT⟩:ye)).length) p,vn]) .h4 (by simp only[List.length_set]<;>rfl)<|WD.done (by kernel_rfl)<|Lt<|Lb<|D3q U<|WL.nil<|WX.round ⟨a9,i64 (g+1),d.set (g:Int).toNat (⟨(nth a b).ya,(nth a b).fQ,(nth a b).yf,(nth a b).fT⟩:ye)⟩ h (Nat.lt_succ_self _) (.q U)<|.s5 .h2 .h2 .h2 .here .here
      ·exact WC.exit<|Lm<|Lm<|Lv<|Ln d h (.q U)<|.s4 .h1 .h1 .h1 .h1
     ·rintro q h
      replace h:=(a1 q).symm.trans h
      refine WC.b<|bK h fun ba a4 h=>Ld<|Le 104 (xw z1j U (xy .here) U)<|La U<|Le 106 (xk kB U U)<|Le 107 (xl z64 U<|xt .h2 U)<|WL.jk (dd:=108) U U U (zb call35<|.r3 U U U) .nil (sc hz .nil (.cons .h3 .nil) fun w pz ho la=>XT _ _ _ _ _ _ _ _ _ _ _ _ _ _ _ _ _ _ _ _ _ _ _ _ _ a4 w pz ((Q.mono<|zl).weak (fun _ _ h=>wg zl h)) ((R.mono<|zl).weak (fun _ _ h=>wp zl h)) (S.mono<|zl) (T.mono<|zl) ((H.mono<|zl).weak (fun _ _ h=>wi zl h)) (V.mono<|zl) ((W.mono<|zl).weak (fun _ _ h=>wq zl h)) (X.mono<|zl) ((I.mono<|zl).weak (fun _ _ h=>wv zl h))<|ZA.row (la _ (.head _) _) (RR.flat (enc:=xY) (fun _=>U) _) ⟨w,pz.1⟩) ?_
      rintro aG aH _
      refine Le 109 (xk rD U U)<|Lo U U (jF (ds:=[vs z q.length p,vs aG ba.length aH]) zC6 U U U U U .h3 U U)<|Q0n<|B0q<|Le 110 (xw z4G U (xy .here) U)<|Lo U U (xz z5c U U U .h3 U U U)<|Q1n U<|WC.ret ?_
      obtain rfl:=oJ h
      exact Li results13 (.agg U z4G U (xy .here)<|.tmp U .nil)<|fun w hw=>⟨z,p,aG,aH,wV U U,trivial,hw.sub (.s2 .h4 .h2)⟩
def kv(a:Int)(b:List (List za))(h:zi)(f:List ye)(g:(List Int)->Option (List (List Int))):Nat->(List Int)->Int->Option (List (List Int))
 | 0,_,_=>none
 | i+1,d,c=>chk (0<=a/\a<b.length) (if decide (c<((nth b a).length:Int)) then chk (0<=a/\a<b.length) (chk (0<=c/\c<((nth b a).length:Int)) ((sN h (nth b a) ((nth (nth b a) c).ya) f).bind fun e=>chk (((d++([e]:List Int)).length:Int)*8<=140737488355328/\((d++([e]:List Int)).length:Int)<=4611686018427387904) (kv a b h f g i (d++([e]:List Int)) (i64 (c+1))))) else g d)
def jz(b:List (List za))(g:zi)(e:List ye)(f:(List (List Int))->Option (List (List Int))):Nat->(List (List Int))->Int->Option (List (List Int))
 | 0,_,_=>none
 | h+1,a,c=>if decide (c<b.length) then vk (fun(i:List (List Int))=>jz b g e f h i (i64 (c+1))) fun j=>vk (fun(d:List Int)=>chk ((((a++([d]:List (List Int))).length:Nat):Int)*24<=140737488355328/\(((a++([d]:List (List Int))).length:Nat):Int)<=4611686018427387904) (j (a++([d]:List (List Int))))) fun k=>kv c b g e k xC ([]:List Int) 0 else f a
theorem lP{n:Nat}{a:List (List za)}{f:zi}{b:List ye}{c:(List (List Int))->Option (List (List Int))}{d:List (List Int)}{e:Int}{r:List (List Int)}(h:jz a f b c n d e=some r):∃ m,n=m+1:=by
 cases n with
 | zero=>cases h
 | succ m=>exact⟨m,rfl⟩
def ux(b:zi)(a:List (List za))(c:List ye):Option (List (List Int)):=
 (f9 b 0 a).bind fun d=>(if !d then(f9 b 1 a).bind fun e=>some (!e) else some false).bind fun f=>if f then some ([]:List (List Int)) else vk (fun(g:List (List Int))=>some g) fun h=>jz a b c h xC ([]:List (List Int)) 0
theorem az(Z:Zp)(T:Option Addr)(V:Nat)(W:Option Addr)(X:Nat)(Y:Option Addr)(aa:Nat)(ab:Option Addr)(ad:Nat)(ae:Option Addr)(af:Nat)(ag:Option Addr)(ah:Nat)(ai:Option Addr)(aj:Nat)(ak:Option Addr)(al:Nat)(aq:Option Addr)(ar:Nat)(am:Option Addr)(an:Nat)(a:zi)(o:List (List za))(v:List ye)(r:List (List Int))(h:ux a o v=some r)(w₀:World)(hz:PZ [] w₀ Z)(au:ZS Z 4 (vU Z) T V a.fM)(av:ZS Z 4 (qr Z) W X a.yc)(aw:ZS Z 4 (rq jm) Y aa a.fS)(ax:ZS Z 4 (rq qm) ab ad a.fK)(ay:ZS Z 7 (qK Z) ae af a.yd)(aA:ZS Z 5 (rq qI) ag ah a.fH)(aB:ZS Z 3 (qs Z) ai aj a.fU)(aC:ZS Z 4 (rq qJ) ak al a.yb)(Q:ZS Z 1 (qt Z) aq ar o)(aN:ZS Z 4 (rq xY) am an v):
  Calls Tryz.prog 15 #[.agg #[vs T a.fM.length V,vs W a.yc.length X,vs Y a.fS.length aa,vs ab a.fK.length ad,vs ae a.yd.length af,vs ag a.fH.length ah,vs ai a.fU.length aj,vs ak a.yb.length al],vs aq o.length ar,vs am v.length an] w₀ fun e w'=>∃ Zn:Zp,∃ aD:Option Addr,∃ aE:Nat,∃ aF:List Value,e = .returned (vs aD r.length aE)/\(RR 1 (re (Z++Zn)) aF r)/\Hp [] w₀ w' [fz Zn,row (vs aD r.length aE) 50 1 aF]:=by
 unfold ux at h
 refine Me func15 ntmps15 ?_
 let A:List Value:=[vs T a.fM.length V,vs W a.yc.length X,vs Y a.fS.length aa,vs ab a.fK.length ad,vs ae a.yd.length af,vs ag a.fH.length ah,vs ai a.fU.length aj,vs ak a.yb.length al];refine WC.pool<|B0q<|Lg 3 (xO (cs:=A) U U) ?_
 intro p _
 refine Q1n U<|WC.b<|WC.b<|bK h fun bI aO h=>bK h fun bj aG h=>Ld<|Le 11 (xw z1j U (xy .here) U)<|La U<|Lp 13 (zb call29<|.r3 U U U) .nil (jH hz .nil .h1 fun w pz ho=>rt _ _ _ _ _ _ _ _ _ _ _ _ _ _ _ _ _ _ _ _ _ _ _ aO w pz ((au.mono<|zl).weak (fun _ _ h=>wg zl h)) ((av.mono<|zl).weak (fun _ _ h=>wp zl h)) (aw.mono<|zl) (ax.mono<|zl) ((ay.mono<|zl).weak (fun _ _ h=>wi zl h)) (aA.mono<|zl) ((aB.mono<|zl).weak (fun _ _ h=>wq zl h)) (aC.mono<|zl)<|(Q.mono<|zl).weak (fun _ _ h=>wv zl h))<|Q2q U<|Lx true 4 15 (B:=bj) U U U U U U (fun h=>(oJ<|q8 aG h).symm) (fun _ aP=>?_) ?_
 ·have R:=q7 aG aP
  obtain⟨bJ,aQ,R⟩:=z8 R
  replace R:=oJ R
  exact Le 16 (xw z1j U (xy .here) U)<|La U<|Lp 18 (zb call29<|.r3 U U U) .nil (jH hz .nil .h1 fun w pz ho=>rt _ _ _ _ _ _ _ _ _ _ _ _ _ _ _ _ _ _ _ _ _ _ _ aQ w pz ((au.mono<|zl).weak (fun _ _ h=>wg zl h)) ((av.mono<|zl).weak (fun _ _ h=>wp zl h)) (aw.mono<|zl) (ax.mono<|zl) ((ay.mono<|zl).weak (fun _ _ h=>wi zl h)) (aA.mono<|zl) ((aB.mono<|zl).weak (fun _ _ h=>wq zl h)) (aC.mono<|zl)<|(Q.mono<|zl).weak (fun _ _ h=>wv zl h))<|Q2q U<|Ly R U U .all
 refine Q0n<|Lk U h (fun aR h=>?_)<|fun aR h=>?_
 ·refine B1n U<|WC.ret<|Ll<|WX.nilRow 50 1 ?_
  obtain rfl:=oJ h
  exact Li results15 (.tmp U .nil)<|fun w hw=>⟨[],none,0,[],xJ U,RR.nil _ _,hw.sub (.s2 .h2 .here)⟩
 ·refine WC.skip<|Lb<|B1n U<|jK1 h fun aH aS h=>WC.sH (fun(q:List (List Int)) (x:Zp) (J:Option Addr) (K:Nat) (L:List Value)=>(aH q=some r)/\(xm (Z++[]) (Z++x))/\(RR 1 (re (Z++x)) L q)) (fun q x J K L=>[(7,vs J q.length K)]) (fun q x J K L=>[fz x,row (vs J q.length K) 50 1 L]) ?_ ?_
  ·let D:Value:=(vs aq o.length ar);let E:Value:=(vs am v.length an);refine B1n U<|WC.block<|WC.nilRow 50 1<|WC.nq (fun(M:Nat) (f:List (List Int)) (g:Int) (c:Zp) (s:Option Addr) (t:Nat) (k:List Value)=>(jz o a v aH M f g=some r)/\(xm (Z++[]) (Z++c))/\(RR 1 (re (Z++c)) k f)) (fun M f g c s t k=>[(1,D),(2,E),(3,vp p),(7,vs s f.length t),(8,vi g)]) (fun M f g c s t k=>[fz c,row (vs s f.length t) 50 1 k,stb p 31 A]) (fun M f g c s t k=>M) ⟨xC,([]:List (List Int)),0,[],none,0,[]⟩ ⟨h,xm.refl _,RR.nil _ _⟩ (.q U) (.s3 .h2 .here .here) ?_
   rintro M f g c s t k ⟨h,b,aI⟩
   obtain⟨bk,rfl⟩:=lP h
   rw[jz] at h
   refine WC.b<|B2q U<|Le 23 (xK underlying32 U)<|Q1n U<|Lk U h (fun aT h=>?_)<|fun aT h=>?_
   ·refine WC.skip<|Lb<|jK1 h fun bl aU h=>WC.sH (fun(n:List (List Int)) (y:Zp) (N:Option Addr) (O:Nat) (P:List Value)=>(bl n=some r)/\(xm (Z++c) (Z++y))/\(RR 1 (re (Z++y)) P n)) (fun n y N O P=>[(1,D),(2,E),(3,vp p),(7,vs N n.length O),(8,vi g)]) (fun n y N O P=>[fz y,row (vs N n.length O) 50 1 P,stb p 31 A]) ?_ ?_
    ·refine WC.block<|B1n U ?_
     obtain⟨aJ,aV,h⟩:=xS h
     let F:Value:=(vs s f.length t);refine Md (fun(d:List Int) (z:Option Addr) (G:Nat)=>(aJ d=some r)) (fun d z G=>[(1,D),(2,E),(3,vp p),(7,F),(8,vi g),(9,vs z d.length G)]) (fun d z G=>[fz c,row F 50 1 k,row (vs z d.length G) 3 1 (d.flatMap e3),stb p 31 A]) ?_ ?_
     ·refine B1n U<|WC.block<|WC.nilRow 3 1<|WC.fk (fun(S:Nat) (m:List Int) (u:Int) (H:Option Addr) (I:Nat)=>(kv g o a v aJ S m u=some r)) (fun S m u H I=>[(1,D),(2,E),(3,vp p),(7,F),(8,vi g),(9,vs H m.length I),(10,vi u)]) (fun S m u H I=>[fz c,row F 50 1 k,row (vs H m.length I) 3 1 (m.flatMap e3),stb p 31 A]) (fun S m u H I=>S) ⟨xC,([]:List Int),0,none,0⟩ h (.q U) (.s4 .h1 .h1 .here .here) ?_
      rintro(_|bm) m u H I h;·cases h
      rw[kv] at h
      refine WC.b<|WC.b<|cK h fun aW h=>D3q U<|L0 (dd:=30) U U (Z:=(Z++c)) (Pr:=(qt (Z++c))) z3K U U ((Q.mono<|zl.trans b).weak (fun _ _ h=>wv (zl.trans b) h)) aW ?_
      rintro bn bo aX bp ⟨bq,br,rfl,bs⟩
      refine Le 31 (xl z3q U<|q9 (hz.pv2 .here) aX U)<|Le 32 (xK underlying58 U)<|Q1n U<|Lk U h (fun aY h=>?_)<|fun aY h=>?_
      ·refine WC.skip<|Lb<|WC.b<|WC.block<|cK h fun aK h=>cK h fun aZ h=>bK h fun ao a0 h=>cK h fun a1 h=>Lz (fun i=>[17].contains i) [] U<|Lf 0 36 U (q_m U)<|Lh 1 37 U (xw z1j U (xy .h3) U)<|Lf 2 38 U (q_m U)<|Lf 3 39 U (q_m U)<|L2 (j:=4) (dd:=40) (by kernel_rfl) U zO zP U U (Z:=(Z++c)) (Pr:=(qt (Z++c))) z3K U U ((Q.mono<|zl.trans b).weak (fun _ _ h=>wv (zl.trans b) h)) aK ?_
       rintro bt bu a2 bv ⟨a3,a4,rfl,a5⟩
       refine Lh 5 41 U (xl z3q U<|q9 (hz.pv2 .here) a2 U)<|Lf 6 42 U (q_m U)<|Lf 7 43 U (q_m U)<|L2 (j:=8) (dd:=44) (by kernel_rfl) U zO zP U U (Z:=(Z++c)) (Pr:=(qt (Z++c))) z3K U U ((Q.mono<|zl.trans b).weak (fun _ _ h=>wv (zl.trans b) h)) aK ?_
       rintro bw bx a6 bz ⟨bA,bB,rfl,a7⟩
       refine Lh 9 45 U (xl z3q U<|q9 (hz.pv2 .here) a6 U)<|Lf 10 46 U (q_m U)<|L2 (j:=11) (dd:=47) (by kernel_rfl) U zO zP U U (Z:=(Z++c)) (Pr:=(rq vw)) z1v U U a7 aZ ?_
       rintro bC bD a8 bE rfl
       refine Lf 12 48 U (xk ww U U)<|Lh 13 49 U (xl xu U<|xM (hz.pv2 .here) a8 U)<|Lf 14 50 U (q_m U)<|L5 15 51 U (zb call38<|.r4 U U U U) (jH hz .nil .here fun w pz ho=>cj (Z:=_) (z9M:=T) (z9N:=V) (z9O:=W) (z9P:=X) (z9Q:=Y) (z9R:=aa) (z9S:=ab) (z9T:=ad) (z9U:=ae) (z9V:=af) (z9W:=ag) (z9X:=ah) (z9Y:=ai) (z9Z:=aj) (za0:=ak) (za1:=al) (zaH:=a3) (zaI:=a4) (zaJ:=am) (zaK:=an) (z15:=a) (z37:=(nth o g)) (z97:=((nth (nth o g) u).ya)) (z4z:=v) (r:=ao) w pz ((au.mono<|zl.trans b).weak (fun _ _ h=>wg (zl.trans b) h)) ((av.mono<|zl.trans b).weak (fun _ _ h=>wp (zl.trans b) h)) (aw.mono<|zl.trans b) (ax.mono<|zl.trans b) ((ay.mono<|zl.trans b).weak (fun _ _ h=>wi (zl.trans b) h)) (aA.mono<|zl.trans b) ((aB.mono<|zl.trans b).weak (fun _ _ h=>wq (zl.trans b) h)) (aC.mono<|zl.trans b) a5 (aN.mono<|zl.trans b) a0) (WD.new (i:=16) (dd:=52) U (by kernel_rfl) U U U (xU (cs:=([ao]:List Int).flatMap e3) z7W (Lq (l:=[.tmp 51]) (.cons U .nil) [0]) (fun _=>by kernel_rfl) U (by unfold maxLen;omega)) (fun h'=>absurd h' (by decide)) fun bF _=>WD.old (i:=17) (dd:=53) U (by kernel_rfl) U U U U (fun _=>(wB.of .nil)) (vT (enc:=e3) (l1:=m) (l2:=([ao]:List Int)) z7W U U .h3 (fun _=>U) U U (vL .here) (qR Qm _) a1) ?_)
       rintro⟨a9,ba⟩ _
       exact Lf 18 9 U (q_z U)<|WD.done (by kernel_rfl)<|Lt<|Lb<|D3q U<|WL.nil<|WX.round ⟨bm,m++([ao]:List Int),i64 (u+1),a9,ba⟩ h (Nat.lt_succ_self _) (.q U)<|.s4 .h2 .h2 .here .h1
      ·exact WC.exit<|Lm<|Lm<|Lv<|Ln ⟨m,H,I⟩ h (.q U)<|.a4
     ·rintro d z G h
      replace h:=(aV d).symm.trans h
      refine cK h fun bb h=>D2q U<|WL.freezeS (ls:=d) .h2 .here hz (RR.flat (enc:=e3) (fun _=>U) _) ?_
      intro ap aL bc
      let C:List Value:=[vs z d.length G];have aM:RR 1 (re (Z++ap)) C ([d]:List (List Int)):=(RR.cons (r:=C) U (show re _ _ _ from⟨_,_,U,bc⟩) (RR.nil _ _))
      refine Lg 56 (xU (cs:=[vs z d.length G]) zlV (Lq (l:=[.tmp 55]) (.cons U .nil) [0]) (fun _=>by kernel_rfl) U (by unfold maxLen;omega)) ?_
      intro bG _
      have bd:RR 1 (re (Z++ap)) (k++C) (f++([d]:List (List Int))):=RR.app (aI.weak (fun _ _ h=>lb aL h)) aM
      refine WL.fA 57 (sn (l1:=f) (l2:=([d]:List (List Int))) (news:=C) (Pr:=(re (Z++ap))) zlV U U .h2 aM (vL .here) (oW U iL) bb) ?_
      rintro⟨be,bf⟩ _
      exact La U<|WL.nil<|Lt<|Ln ⟨f++([d]:List (List Int)),ap,be,bf,k++C⟩ ⟨h,aL,bd⟩ (.q U)<|.s3 .h2 .here .h1
    ·rintro n y N O P ⟨h,bg,bh⟩
     replace h:=(aU n).symm.trans h
     exact D3q U<|WL.nil<|WX.round ⟨bk,n,i64 (g+1),y,N,O,P⟩ ⟨h,b.trans bg,bh⟩ (Nat.lt_succ_self _) (.q U)<|.a3
   ·exact WC.exit<|Lm<|Lm<|Lv<|Ln ⟨f,c,s,t,k⟩ ⟨h,b,aI⟩ (.cons U .nil)<|.a2
  ·rintro q x J K L ⟨h,bH,bi⟩
   replace h:=(aS q).symm.trans h
   refine B2n U<|WC.ret ?_
   obtain rfl:=oJ h
   exact Li results15 (.tmp U .nil)<|fun w hw=>⟨x,J,K,L,xJ U,bi,hw.sub (.a2)⟩
end
end Go.Proofs.YthjnhebofpebpaaGreat
namespace Go.Proofs.YthjnhebofpebpaaGreat
open Go Go.RowKit Sep
section
set_option maxRecDepth 30000
set_option maxHeartbeats 4000000
end
section
set_option maxRecDepth 30000
set_option maxHeartbeats 4000000
end
section
set_option maxRecDepth 30000
set_option maxHeartbeats 4000000
end
end Go.Proofs.YthjnhebofpebpaaGreat
