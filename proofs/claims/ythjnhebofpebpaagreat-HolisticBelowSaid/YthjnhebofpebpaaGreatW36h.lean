/- A part of this claim's proof: models of functions, walks, plain laws. No conditions. -/
import Derived.Test.YthjnhebofpebpaaGreatW36g
set_option linter.all false
namespace Go.Proofs.YthjnhebofpebpaaGreat
open Go Go.RowKit Sep Tryz
variable {k m:Option Addr}{l n:Nat}
set_option maxRecDepth 30000
set_option maxHeartbeats 4000000
def y6l(b:S39)(c:S39)(d:Option Bool):Nat->Int->Option Bool
 | 0,_=>none
 | e+1,a=>if decide (a<(b.fP.length:Int)) then chk ((0:Int)<=a/\a<(b.fP.length:Int)) (chk ((0:Int)<=a/\a<(c.fP.length:Int)) (if decide ((⟨((nth b.fP a).fNode),((nth b.fP a).fQ),((nth b.fP a).fDelay),((nth b.fP a).fT)⟩:S36)≠(⟨((nth c.fP a).fNode),((nth c.fP a).fQ),((nth c.fP a).fDelay),((nth c.fP a).fT)⟩:S36)) then some false else y6l b c d e (i64 (a+1)))) else d
def y6m(b:S39)(c:S39)(d:Option Bool):Nat->Int->Option Bool
 | 0,_=>none
 | e+1,a=>if decide (a<(b.fEnds.length:Int)) then chk ((0:Int)<=a/\a<(b.fEnds.length:Int)) (chk ((0:Int)<=a/\a<(c.fEnds.length:Int)) (if decide ((⟨((nth b.fEnds a).fVL),((nth b.fEnds a).fNode),((nth b.fEnds a).fDelay)⟩:zj)≠(⟨((nth c.fEnds a).fVL),((nth c.fEnds a).fNode),((nth c.fEnds a).fDelay)⟩:zj)) then some false else y6m b c d e (i64 (a+1)))) else d
def yb2(a:S39)(b:S39):Option Bool:=
 if (decide ((a.fP.length:Int)≠(b.fP.length:Int)))||(decide ((a.fEnds.length:Int)≠(b.fEnds.length:Int))) then some false else jp0 (jp0 (some true) fun c=>y6m a b c yy 0) fun d=>y6l a b d yy 0
theorem yhJ{Z:Zp}{t:Option Addr}{u:Nat}{v:Option Addr}{y:Nat}{c:S39}{d:S39}{r:Bool}(h:yb2 c d=some r)(w₀:World)(hz:PZ [] w₀ Z)(J:ZS Z 4 (fun r x=>r=e37 x) k l c.fP)(K:ZS Z 3 (fun r x=>r=e53 x) m n c.fEnds)(L:ZS Z 4 (fun r x=>r=e37 x) t u d.fP)(M:ZS Z 3 (fun r x=>r=e53 x) v y d.fEnds):
  Calls Tryz.prog 16 #[(.agg #[(vs k c.fP.length l),(vs m c.fEnds.length n)]),(.agg #[(vs t d.fP.length u),(vs v d.fEnds.length y)])] w₀ fun e w'=>e = .returned (.bool r)/\Hp [] w₀ w' []:=by
 unfold yb2 at h
 refine Lz func16 ntmps16 ?_
 let A:List Value:=[(vs k c.fP.length l),(vs m c.fEnds.length n)];refine WC.b (Ld (Lg 2 (yI (cs:=A) U U) ?_))
 intro o _
 let C:List Value:=[(vs t d.fP.length u),(vs v d.fEnds.length y)];refine Lg 3 (yI (cs:=C) U U) ?_
 intro p _
 refine La U<|WL.nil<|Lb<|WC.b<|WC.b<|Ld<|Le 7 (ya y4b U U)<|Le 8 (yc y4c U<|yh .h1 U)<|Le 9 (yJ underlying33 U)<|Le 10 (ya y4b U U)<|Le 11 (yc y4c U<|yh .here U)<|Le 12 (yJ underlying33 U)<|La U<|La U<|Lu false 7 14 (B:=(decide ((c.fP.length:Int)≠(d.fP.length:Int)))||(decide ((c.fEnds.length:Int)≠(d.fEnds.length:Int)))) U U U U U U (fun h=>(y5V h).symm) (fun _ N=>?_) ?_
 ·skip
  refine Le 15 (ya y6E U U)<|Le 16 (yc y7Z U<|yh .h1 U)<|Le 17 (yJ underlying38 U)<|Le 18 (ya y6E U U)<|Le 19 (yc y7Z U<|yh .here U)<|Le 20 (yJ underlying38 U)<|La U<|La U ?_
  exact Lv (y5W N) U U .all
 refine WL.nil<|Lb<|WC.cond U (fun z=>?_)<|fun z=>?_
 ·replace h:=yr h z
  refine WC.b<|Ld<|La U<|WL.nil<|Lb<|WC.ret<|Lj ?_
  obtain rfl:=oJ h
  refine Lh results16 (.tmp U .nil)<|fun w hw=>?_
  exact⟨yD U,hw.sub .nil⟩
 ·replace h:=ys h z
  refine WC.skip<|Lb ?_
  obtain⟨H,O,h⟩:=y2m h
  refine L8 ((H=some r)) ([(2,(vp o)),(3,(vp p))]) ([stb o 40 A,stb p 40 C]) ?_ ?_
  ·skip
   refine WC.b<|Ld<|La U<|WL.nil<|Lb<|WC.block<|L9 (fun(q:Nat) (f:Int)=>(y6l c d H q f=some r)) (fun q f=>[(2,(vp o)),(3,(vp p)),(5,(vi f))]) (fun q f=>[stb o 40 A,stb p 40 C]) (fun q f=>q) ⟨yy,0⟩ h (.r3 U U U) (.s2 .h1 .here) ?_
   rintro(_|aa) f h;·cases h
   rw[y6l] at h
   refine WC.b<|WC.b<|Ld<|La U<|Le 24 (ya y4b U U)<|Le 25 (yc y4c U<|yh .here U)<|Le 26 (yJ underlying33 U)<|La U<|WL.nil<|Lb<|WC.cond U (fun D=>?_)<|fun D=>?_
   ·replace h:=yr h D
    refine WC.skip<|Lb<|WC.b<|WC.block<|WC.b ?_
    obtain⟨P,h⟩:=yo h
    obtain⟨Q,h⟩:=yo h
    refine Lx (fun i=>[].contains i) [] U<|Lf 0 30 U (fun _=>ya y4b U U)<|Li 1 31 U (yc y4c U<|yh .here U)<|Lf 2 32 U (fun _=>q_m U)<|L7 (j:=3) (dd:=33) (by kernel_rfl) U z2k z2l U U (Z:=Z) (Pr:=(fun r x=>r=e37 x)) y5z U U J P ?_
    rintro ad ae R af rfl
    refine Li 4 34 U (yi y6C U (y2j hz.pv R) U)<|Lf 5 35 U (fun _=>ya y4b U U)<|Li 6 36 U (yc y4c U<|yh .h1 U)<|Lf 7 37 U (fun _=>q_m U)<|L7 (j:=8) (dd:=38) (by kernel_rfl) U z2k z2l U U (Z:=Z) (Pr:=(fun r x=>r=e37 x)) y5z U U L Q ?_
    rintro ag ah S ai rfl
    refine Li 9 39 U (yi y6C U (y2j hz.pv S) U)<|Lf 10 40 U (fun _=>yck (enc:=e37) (a:=(⟨((nth c.fP f).fNode),((nth c.fP f).fQ),((nth c.fP f).fDelay),((nth c.fP f).fT)⟩:S36)) (b:=(⟨((nth d.fP f).fNode),((nth d.fP f).fQ),((nth d.fP f).fDelay),((nth d.fP f).fT)⟩:S36)) eqT_37 U U)<|WD.done (by kernel_rfl)<|Lb<|WC.cond U (fun E=>?_)<|fun E=>?_
    ·replace h:=yr h E
     refine WC.b<|Ld<|La U<|WL.nil<|Lb<|WC.ret<|Lt<|Lj<|Lj<|Lt<|Lj ?_
     obtain rfl:=oJ h
     refine Lh results16 (.tmp U .nil)<|fun w hw=>?_
     exact⟨yD U,hw.sub .nil⟩
    ·replace h:=ys h E
     refine WC.skip<|Lq<|Lb<|Ld<|La U<|La U<|La U<|WL.nil ?_
     exact WX.round ⟨aa,(i64 (f+1))⟩ h (Nat.lt_succ_self _) (.r3 U U U)<|.a2
   ·replace h:=ys h D
    refine WC.exit<|Lm<|Lm<|Lw ?_
    exact Ln () h (.r2 U U)<|.a2
  ·rintro  h
   replace h:=O.symm.trans h
   obtain⟨I,T,h⟩:=y2m h
   refine L8 ((I=some r)) ([]) ([]) ?_ ?_
   ·skip
    refine WC.b<|Ld<|La U<|WL.nil<|Lb<|WC.block<|L9 (fun(s:Nat) (g:Int)=>(y6m c d I s g=some r)) (fun s g=>[(2,(vp o)),(3,(vp p)),(6,(vi g))]) (fun s g=>[stb o 40 A,stb p 40 C]) (fun s g=>s) ⟨yy,0⟩ h (.r3 U U U) (.a2) ?_
    rintro(_|ab) g h;·cases h
    rw[y6m] at h
    refine WC.b<|WC.b<|Ld<|La U<|Le 42 (ya y6E U U)<|Le 43 (yc y7Z U<|yh .here U)<|Le 44 (yJ underlying38 U)<|La U<|WL.nil<|Lb<|WC.cond U (fun F=>?_)<|fun F=>?_
    ·replace h:=yr h F
     refine WC.skip<|Lb<|WC.b<|WC.block<|WC.b ?_
     obtain⟨V,h⟩:=yo h
     obtain⟨W,h⟩:=yo h
     refine Lx (fun i=>[].contains i) [] U<|Lf 0 48 U (fun _=>ya y6E U U)<|Li 1 49 U (yc y7Z U<|yh .here U)<|Lf 2 50 U (fun _=>q_m U)<|L7 (j:=3) (dd:=51) (by kernel_rfl) U z2k z2l U U (Z:=Z) (Pr:=(fun r x=>r=e53 x)) y9V U U K V ?_
     rintro aj ak X al rfl
     refine Li 4 52 U (yi ye4 U (y2j hz.pv X) U)<|Lf 5 53 U (fun _=>ya y6E U U)<|Li 6 54 U (yc y7Z U<|yh .h1 U)<|Lf 7 55 U (fun _=>q_m U)<|L7 (j:=8) (dd:=56) (by kernel_rfl) U z2k z2l U U (Z:=Z) (Pr:=(fun r x=>r=e53 x)) y9V U U M W ?_
     rintro am an Y ao rfl
     refine Li 9 57 U (yi ye4 U (y2j hz.pv Y) U)<|Lf 10 58 U (fun _=>yck (enc:=e53) (a:=(⟨((nth c.fEnds g).fVL),((nth c.fEnds g).fNode),((nth c.fEnds g).fDelay)⟩:zj)) (b:=(⟨((nth d.fEnds g).fVL),((nth d.fEnds g).fNode),((nth d.fEnds g).fDelay)⟩:zj)) eqT_53 U U)<|WD.done (by kernel_rfl)<|Lb<|WC.cond U (fun G=>?_)<|fun G=>?_
     ·replace h:=yr h G
      refine WC.b<|Ld<|La U<|WL.nil<|Lb<|WC.ret<|Lt<|Lj<|Lj<|Lt<|Lj ?_
      obtain rfl:=oJ h
      refine Lh results16 (.tmp U .nil)<|fun w hw=>?_
      exact⟨yD U,hw.sub .nil⟩
     ·replace h:=ys h G
      refine WC.skip<|Lq<|Lb<|Ld<|La U<|La U<|La U<|WL.nil ?_
      exact WX.round ⟨ab,(i64 (g+1))⟩ h (Nat.lt_succ_self _) (.r3 U U U)<|.a2
    ·replace h:=ys h F
     refine WC.exit<|Lm<|Lm<|Lw ?_
     exact Ln () h .nil .nil
   ·rintro  h
    replace h:=T.symm.trans h
    refine WC.b<|Ld<|La U<|WL.nil<|Lb<|WC.ret ?_
    obtain rfl:=oJ h
    refine Lh results16 (.tmp U .nil)<|fun w hw=>?_
    exact⟨yD U,hw.sub .nil⟩
def y6n(b:List Int)(c:List Int)(d:Option Bool):Nat->Int->Option Bool
 | 0,_=>none
 | e+1,a=>if decide (a<(b.length:Int)) then chk ((0:Int)<=a/\a<(b.length:Int)) (chk ((0:Int)<=a/\a<(c.length:Int)) (if decide ((nth b a)≠(nth c a)) then some false else y6n b c d e (i64 (a+1)))) else d
def yb3(a:List Int)(b:List Int):Option Bool:=
 if decide ((a.length:Int)≠(b.length:Int)) then some false else jp0 (some true) fun c=>y6n a b c yy 0
theorem yhK{Z:Zp}{b:List Int}{c:List Int}{r:Bool}(h:yb3 b c=some r)(w₀:World)(hz:PZ [] w₀ Z)(q:ZS Z 1 (fun r x=>r=e3 x) k l b)(s:ZS Z 1 (fun r x=>r=e3 x) m n c):
  Calls Tryz.prog 17 #[(vs k b.length l),(vs m c.length n)] w₀ fun e w'=>e = .returned (.bool r)/\Hp [] w₀ w' []:=by
 unfold yb3 at h
 refine Lz func17 ntmps17 ?_
 refine WC.b<|Ld<|La U<|WL.nil<|Lb<|WC.b<|WC.b<|Ld<|La U<|Le 7 (yJ underlying50 U)<|La U<|Le 9 (yJ underlying50 U)<|La U<|WL.nil<|Lb<|WC.cond U (fun f=>?_)<|fun f=>?_
 ·replace h:=yr h f
  refine WC.b<|Ld<|La U<|WL.nil<|Lb<|WC.ret<|Lj ?_
  obtain rfl:=oJ h
  refine Lh results17 (.tmp U .nil)<|fun w hw=>?_
  exact⟨yD U,hw.sub .nil⟩
 ·replace h:=ys h f
  refine WC.skip<|Lb ?_
  obtain⟨p,t,h⟩:=y2m h
  refine L8 ((p=some r)) ([]) ([]) ?_ ?_
  ·skip
   refine WC.b<|Ld<|La U<|Le 12 (yJ underlying50 U)<|La U<|WL.nil<|Lb<|WC.block<|L9 (fun(d:Nat) (a:Int)=>(y6n b c p d a=some r)) (fun d a=>[(0,(vs k b.length l)),(1,(vs m c.length n)),(12,(vi (b.length:Int))),(13,(vi a))]) (fun d a=>[]) (fun d a=>d) ⟨yy,0⟩ h (.r4 U U U U) .nil ?_
   rintro(_|A) a h;·cases h
   rw[y6n] at h
   refine WC.b<|Ld<|La U<|WL.nil<|Lb<|WC.b<|WC.cond U (fun g=>?_)<|fun g=>?_
   ·replace h:=yr h g
    refine WC.skip<|Lb<|WC.b<|WC.block<|WC.b<|Ld<|La U<|La U<|WL.nil<|Lb<|WC.b ?_
    obtain⟨u,h⟩:=yo h
    obtain⟨v,h⟩:=yo h
    refine Lx (fun i=>[].contains i) [] U<|Lf 0 16 U (fun _=>q_m U)<|Lf 1 17 U (fun _=>q_m U)<|L7 (j:=2) (dd:=18) (by kernel_rfl) U z2k z2l U U (Z:=Z) (Pr:=(fun r x=>r=e3 x)) y6a U U q u ?_
    rintro B C y D rfl
    refine Li 3 19 U (yc yq U<|y3x hz.pv y U)<|Lf 4 20 U (fun _=>q_m U)<|Lf 5 21 U (fun _=>q_m U)<|L7 (j:=6) (dd:=22) (by kernel_rfl) U z2k z2l U U (Z:=Z) (Pr:=(fun r x=>r=e3 x)) y6a U U s v ?_
    rintro E F z G rfl
    refine Li 7 23 U (yc yq U<|y3x hz.pv z U)<|Lf 8 24 U (fun _=>q_neq U U)<|WD.done (by kernel_rfl)<|Lb<|WC.cond U (fun o=>?_)<|fun o=>?_
    ·replace h:=yr h o
     refine WC.b<|Ld<|La U<|WL.nil<|Lb<|WC.ret<|Lt<|Lj<|Lj<|Lt<|Lj ?_
     obtain rfl:=oJ h
     refine Lh results17 (.tmp U .nil)<|fun w hw=>?_
     exact⟨yD U,hw.sub .nil⟩
    ·replace h:=ys h o
     refine WC.skip<|Lq<|Lb<|Ld<|La U<|La U<|WL.nil ?_
     exact WX.round ⟨A,(i64 (a+1))⟩ h (Nat.lt_succ_self _) (.r4 U U U U) .nil
   ·replace h:=ys h g
    refine WC.exit<|Lm<|Lm<|Lw ?_
    exact Ln () h .nil .nil
  ·rintro  h
   replace h:=t.symm.trans h
   refine WC.b<|Ld<|La U<|WL.nil<|Lb<|WC.ret ?_
   obtain rfl:=oJ h
   refine Lh results17 (.tmp U .nil)<|fun w hw=>?_
   exact⟨yD U,hw.sub .nil⟩
def y64  : Option Bool:=
 (y8Z).bind fun a=>(y4A a.1 0 a.2).bind fun b=>(y7M a.1 a.2 b.1.fP).bind fun c=>(if decide (b.2=0) then(yb2 b.1 (⟨([(⟨0,0,40,80⟩:S36),(⟨2,1,56,80⟩:S36)]:List S36),([(⟨0,1,96⟩:zj)]:List zj)⟩:S39)).bind fun d=>some d else some false).bind fun e=>(if e&&(decide ((c.length:Int)=1)) then chk ((0:Int)<=0/\0<(c.length:Int)) ((yb3 (nth c 0) ([0,39]:List Int)).bind fun f=>some f) else some false).bind fun g=>some g
theorem yah{Z:Zp}{r:Bool}(h:y64=some r)(w₀:World)(hz:PZ [] w₀ Z):
  Calls Tryz.prog 11 #[] w₀ fun e w'=>e = .returned (.bool r)/\Hp [] w₀ w' []:=by
 unfold y64 at h
 refine Calls.on0 func11 ntmps11 ?_
 refine WC.pool<|WC.b<|Ld<|La U<|WL.nil<|Lb<|WC.b ?_
 obtain⟨j,F,h⟩:=za h
 refine Ld<|WL.yjC (dd:=8) U U U (zb call19 .nil) .nil (ccz hz .nil .here fun w pz ho=>yfw F w pz ) ?_
 rintro ab ad ae af ag ah ai aj ak al am an ao ap aq ar au av aw ax ay az ⟨q,s,t,u,x,y,z⟩
 refine WL.merge .here .h5<|La U<|La U<|La U (Lg 1 (yu (cs:=[vn,vn,vn,vn,vn,vn,vn,vn]) yeW U) fun aA _=>Lk U U (yl ygc U U U .here U U U)<|La U<|WL.nil<|Lb<|WC.b ?_)
 obtain⟨X,G,h⟩:=za h
 refine Ld<|Le 12 (yi y1V U (yj .here) U)<|La U<|WL.y8E (dd:=14) U U U (zb call12<|.r3 U U U) .nil (yaQ hz .nil .h1 (.s5 .h2 .h2 .h2 .h2 .h2) fun w pz ho la=>ya6 G w pz (ZA.row (la _ (.head _) _) ((q.weak<|fun _ _ h=>y1p (Zle.yU _ _ _) h).weak (fun _ _ h=>y1p (Zle.left _ _) h)) ⟨w,pz.1⟩) ((((s.mono<|Zle.yU _ _ _).weak (fun _ _ h=>y1A (Zle.yU _ _ _) h)).mono (Zle.left _ _)).weak (fun _ _ h=>y1A (Zle.left _ _) h)) (ZA.row (la _ (.tail _<|.head _) _) (RR.flat (enc:=e64) (fun _=>U) _) ⟨w,pz.1⟩) (ZA.row (la _ (.tail _<|.tail _<|.head _) _) (RR.flat (enc:=e62) (fun _=>U) _) ⟨w,pz.1⟩) (ZA.row (la _ (.tail _<|.tail _<|.tail _<|.head _) _) ((t.weak<|fun _ _ h=>y1k (Zle.yU _ _ _) h).weak (fun _ _ h=>y1k (Zle.left _ _) h)) ⟨w,pz.1⟩) ((u.mono<|Zle.yU _ _ _).mono (Zle.left _ _)) ((((x.mono<|Zle.yU _ _ _).weak (fun _ _ h=>y1B (Zle.yU _ _ _) h)).mono (Zle.left _ _)).weak (fun _ _ h=>y1B (Zle.left _ _) h)) ((y.mono<|Zle.yU _ _ _).mono (Zle.left _ _))<|ZA.row (la _ (.tail _<|.tail _<|.tail _<|.tail _<|.head _) _) ((z.weak<|fun _ _ h=>y22 (Zle.yU _ _ _) h).weak (fun _ _ h=>y22 (Zle.left _ _) h)) ⟨w,pz.1⟩) ?_
 rintro aB aC aD aE _
 refine La U<|La U<|La U (Lg 3 (yu (cs:=[vn,vn]) y6X U) fun aF _=>Lk U U (yl y53 U U U .here U U U)<|La U<|WL.nil<|Lb<|WC.b<|Ld<|Le 17 (yN (v:=(.agg #[(vi 0),(vi 0),(vi 40),(vi 80)])) (Lo (l:=[.const (vi 0),.const (vi 0),.const (vi 40),.const (vi 80)]) (.r4 U U U U) [0,1,2,3]) (fun _=>by kernel_rfl))<|Le 18 (yN (v:=(.agg #[(vi 2),(vi 1),(vi 56),(vi 80)])) (Lo (l:=[.const (vi 2),.const (vi 1),.const (vi 56),.const (vi 80)]) (.r4 U U U U) [0,1,2,3]) (fun _=>by kernel_rfl)) (Lg 19 (yT (cs:=([(⟨0,0,40,80⟩:S36),(⟨2,1,56,80⟩:S36)]:List S36).flatMap e37) y5z (Lo (l:=[.tmp 17,.tmp 18]) (.r2 U U) [0,1]) (fun _=>by kernel_rfl) U (by unfold maxLen;omega)) fun H _=>Le 20 (yN (v:=(.agg #[(vi 0),(vi 1),(vi 96)])) (Lo (l:=[.const (vi 0),.const (vi 1),.const (vi 96)]) (.r3 U U U) [0,1,2]) (fun _=>by kernel_rfl)) (Lg 21 (yT (cs:=([(⟨0,1,96⟩:zj)]:List zj).flatMap e53) y9V (Lo (l:=[.tmp 20]) (.cons U .nil) [0]) (fun _=>by kernel_rfl) U (by unfold maxLen;omega)) fun I _=>Le 22 (yN (v:=(.agg #[(vs (some ⟨H,0,none⟩) (([(⟨0,0,40,80⟩:S36),(⟨2,1,56,80⟩:S36)]:List S36).length) 2),(vs (some ⟨I,0,none⟩) (([(⟨0,1,96⟩:zj)]:List zj).length) 1)])) (Lo (l:=[.tmp 19,.tmp 21]) (.r2 U U) [0,1]) (fun _=>by kernel_rfl)) (Lg 5 (yu (cs:=[vn,vn]) y6X U) fun aG _=>Lk U U (yl y53 U U U .here U U U)<|WL.nil<|Lb<|WC.b ?_))))
 obtain⟨Y,J,h⟩:=za h
 refine Ld<|Le 23 (yi y1V U (yj .h6) U)<|La U<|Le 25 (ya y4b U U)<|Le 26 (yc y4c U<|yh .h3 U)<|WL.freezeS (ls:=j.1.fM) (.there .h7) .h7 hz (q.weak<|fun _ _ h=>y1p (Zle.yU _ _ _) h) ?_
 intro aH g n
 replace n:=n.weak (fun _ _ h=>y1p g h)
 refine WL.freezeS (ls:=j.1.fS) (.there .h7) .here hz (RR.flat (enc:=e64) (fun _=>U) _) fun aI f K=>WL.freezeS (ls:=j.1.fK) (.there .h7) .here hz (RR.flat (enc:=e62) (fun _=>U) _) fun aJ d L=>WL.freezeS (ls:=j.1.fVLs) (.there .h7) .here hz (t.weak<|fun _ _ h=>y1k ((Zle.yU _ _ _).trans (g.trans<|f.trans d)) h) ?_
 intro aK c o
 replace o:=o.weak (fun _ _ h=>y1k c h)
 refine WL.freezeS (ls:=j.2) (.there .h7) .here hz (z.weak<|fun _ _ h=>y22 ((Zle.yU _ _ _).trans (g.trans<|f.trans<|d.trans c)) h) ?_
 intro aL b p
 replace p:=p.weak (fun _ _ h=>y22 b h)
 refine WL.freezeS (ls:=X.1.fP) .h5 .here hz (RR.flat (enc:=e37) (fun _=>U) _) fun M a A=>WL.y8E (dd:=27) U U U (zb call14<|.r3 U U U) .nil (ccz hz .nil .here fun w pz ho=>ydw J w pz ((n.mono<|f.trans<|d.trans<|c.trans<|b.trans a).weak (fun _ _ h=>y1p (f.trans<|d.trans<|c.trans<|b.trans a) h)) ((s.mono<|(Zle.yU _ _ _).trans (g.trans<|f.trans<|d.trans<|c.trans<|b.trans a)).weak (fun _ _ h=>y1A ((Zle.yU _ _ _).trans (g.trans<|f.trans<|d.trans<|c.trans<|b.trans a)) h)) (K.mono<|d.trans<|c.trans<|b.trans a) (L.mono<|c.trans<|b.trans a) ((o.mono<|b.trans a).weak (fun _ _ h=>y1k (b.trans a) h)) (u.mono<|(Zle.yU _ _ _).trans (g.trans<|f.trans<|d.trans<|c.trans<|b.trans a)) ((x.mono<|(Zle.yU _ _ _).trans (g.trans<|f.trans<|d.trans<|c.trans<|b.trans a)).weak (fun _ _ h=>y1B ((Zle.yU _ _ _).trans (g.trans<|f.trans<|d.trans<|c.trans<|b.trans a)) h)) (y.mono<|(Zle.yU _ _ _).trans (g.trans<|f.trans<|d.trans<|c.trans<|b.trans a)) ((p.mono a).weak (fun _ _ h=>y22 a h)) A) ?_
 rintro N aM aN aO O
 refine WL.merge .here .h1<|La U<|WL.nil<|Lb<|WC.b ?_
 obtain⟨C,D,h⟩:=za h
 obtain⟨aa,E,h⟩:=za h
 refine Ld<|La U<|La U<|La U<|Lu true 3 30 (B:=C) U U U U U U (fun h=>(oJ<|ys D h).symm) (fun _ P=>?_) ?_
 ·skip
  have k:=yr D P
  obtain⟨aW,Q,k⟩:=za k
  replace k:=oJ k
  refine Le 31 (yi y5j U (yj .h5) U)<|Le 32 (yi y5j U (yj .h2) U)<|Ll 33 (zb call16<|.r2 U U) .nil (yaQ hz .nil .here (.s3 .h6 .h4 .h3) fun w pz ho la=>yhJ Q w pz ((A.mono<|(Zle.left _ _).trans (Zle.yU _ _ _)).mono (Zle.left _ _)) (ZA.row (la _ (.head _) _) (RR.flat (enc:=e53) (fun _=>U) _) ⟨w,pz.1⟩) (ZA.row (la _ (.tail _<|.head _) _) (RR.flat (enc:=e37) (fun _=>U) _) ⟨w,pz.1⟩)<|ZA.row (la _ (.tail _<|.tail _<|.head _) _) (RR.flat (enc:=e53) (fun _=>U) _) ⟨w,pz.1⟩)<|La U ?_
  exact Lv k U U .all
 refine La U<|Lu true 3 35 (B:=C&&(decide ((Y.length:Int)=1))) U U U U U U (fun h=>(y4f h).symm) (fun _ R=>?_) ?_
 ·skip
  refine La U<|Le 37 (yJ underlying46 U)<|La U<|La U ?_
  exact Lv (y4g R) U U .all
 refine La U<|Lu true 5 40 (B:=aa) U U U U U U (fun h=>(oJ<|ys E h).symm) (fun _ S=>?_) ?_
 ·skip
  have i:=yr E S
  obtain⟨m,i⟩:=yo i
  obtain⟨aX,T,i⟩:=za i
  replace i:=oJ i
  refine La U<|Kg (fun w hw=>Hp.y2c .h1 hw (by intro hz';have:=m;rw[hz'] at this;omega)) ?_
  rintro⟨aP,rfl⟩
  obtain⟨aQ,aR,aS,V,⟨aT,aU,rfl,W⟩⟩:=RR.elem (Pr:=(p50 (Z++(M++N)))) (O.weak (fun _ _ h=>yhC (Zle.yU _ _ _) h)) m.1 m.2
  refine Le 42 (y11 yhE U U m.1 m.2 y3g)<|Le 43 (yc oneT_50 U<|y8S .h1<|drop_rd V 0 _ U) (Lg 44 (yT (cs:=([0,39]:List Int).flatMap e3) y6a (Lo (l:=[.const (vi 0),.const (vi 39)]) (.r2 U U) [0,1]) (fun _=>by kernel_rfl) U (by unfold maxLen;omega)) fun aV _=>Ll 45 (zb call17<|.r2 U U) .nil (yaQ hz .nil .h1 (.cons .here .nil) fun w pz ho la=>yhK T w pz (W.mono<|Zle.left _ _)<|ZA.row (la _ (.head _) _) (RR.flat (enc:=e3) (fun _=>U) _) ⟨w,pz.1⟩)<|La U ?_)
  exact Lv i U U<|.s8 .h1 .h1 .h1 .h1 .h1 .h1 .h1 .h1
 refine La U<|WL.nil<|Lb<|WC.ret ?_
 obtain rfl:=oJ h
 refine Lh results11 (.tmp U .nil)<|fun w hw=>?_
 exact⟨yD U,hw.sub .nil⟩
end Go.Proofs.YthjnhebofpebpaaGreat
namespace Go.Proofs.YthjnhebofpebpaaGreat
open Go Go.RowKit Sep
set_option maxRecDepth 30000
set_option maxHeartbeats 4000000
end Go.Proofs.YthjnhebofpebpaaGreat
namespace Go.Proofs.YthjnhebofpebpaaGreat
open Go Go.RowKit Sep
set_option maxRecDepth 30000
set_option maxHeartbeats 4000000
end Go.Proofs.YthjnhebofpebpaaGreat
namespace Go.Proofs.YthjnhebofpebpaaGreat
open Go Go.RowKit Sep
set_option maxRecDepth 30000
set_option maxHeartbeats 4000000
end Go.Proofs.YthjnhebofpebpaaGreat
namespace Go.Proofs.YthjnhebofpebpaaGreat
open Go Go.RowKit Sep
set_option maxRecDepth 30000
set_option maxHeartbeats 4000000
end Go.Proofs.YthjnhebofpebpaaGreat
namespace Go.Proofs.YthjnhebofpebpaaGreat
open Go Go.RowKit Sep
set_option maxRecDepth 30000
set_option maxHeartbeats 4000000
end Go.Proofs.YthjnhebofpebpaaGreat
