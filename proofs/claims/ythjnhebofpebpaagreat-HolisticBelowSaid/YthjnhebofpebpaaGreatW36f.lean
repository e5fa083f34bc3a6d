/- A part of this claim's proof: models of functions, walks, plain laws. No conditions. -/
import Derived.Test.YthjnhebofpebpaaGreatW36e
set_option linter.all false
namespace Go.Proofs.YthjnhebofpebpaaGreat
open Go Go.RowKit Sep Tryz
variable {f:zs}{g:List (List ze)}{m q t z N P S W aa:Option Addr}{n s y M O Q T X Y ab:Nat}{j:z16}{i:ze}{k l:Int}{A:Addr}{x:z8}
set_option maxRecDepth 30000
set_option maxHeartbeats 4000000
def y2i(a:List zj)(zk3:zj->zj->Option Int):Option (List zj):=
 (y4i (u64 (a.length:Int))).bind fun b=>(y4G a 0 (a.length:Int) b zk3).bind fun c=>some c
theorem y8m(Z:Zp)(b:Option Addr)(c:Nat)(zk4:FuncId)(zr0:List Value)(a:List zj)(zk3:zj->zj->Option Int)(r:List zj)(h:y2i a zk3=some r)(w₀:World)(hz:PZ (fps [row (vs b a.length c) 53 3 (a.flatMap e53)]) w₀ Z)(j:∀ args w,(callFunc zk4 args).run Tryz.prog w = .ok (.enter zk4 args) w)(k:∀ w:World,PZ [] w Z->∀(x0:zj) (x1:zj) (r:Int),zk3 x0 x1=some r->Calls Tryz.prog zk4 (([(.agg #[(vi x0.fVL),(vi x0.fNode),(vi x0.fDelay)]),(.agg #[(vi x1.fVL),(vi x1.fNode),(vi x1.fDelay)])]:List Value)++zr0).toArray w fun e w'=>e = .returned (vi r)/\Hp [] w w' [])(hown:Hp (fps [row (vs b a.length c) 53 3 (a.flatMap e53)]) w₀ w₀ [row (vs b a.length c) 53 3 (a.flatMap e53)]):
  Calls Tryz.prog 61 #[(vs b a.length c),(.func (.func zk4) #[] (zr0).toArray)] w₀ fun e w'=>e = .returned (.tuple #[])/\(r.length=a.length)/\Hp (fps [row (vs b a.length c) 53 3 (a.flatMap e53)]) w₀ w' [row (vs b r.length c) 53 3 (r.flatMap e53)]:=by
 unfold y2i at h
 refine Kf func61 ntmps61 hown ?_
 refine WC.b<|Ld<|La U<|Le 6 (yJ underlying38 U)<|La U<|WL.nil<|Lb ?_
 obtain⟨d,l,h⟩:=za h
 obtain⟨f,m,h⟩:=za h
 refine Ld<|La U<|La U<|La U<|Le 10 (y8R underlying3 underlying147 U U)<|Ll 11 (zb call57<|.cons U .nil) .nil (cc hz .nil fun w pz ho=>y91 (Z:=_)  (z8d:=(u64 (a.length:Int))) (r:=d) w pz  l)<|La U<|WL.y5c (dd:=13) U U U (zb call110<|.r5 U U U U U) (.cons .here .nil) (cc hz (.cons .here .nil) fun w pz ho=>y8P (Z:=_) (zh4:=b) (zh5:=c) (znJ:=zk4) (zA9:=zr0) (z5V:=a) (znH:=0) (znI:=(a.length:Int)) (zk2:=d) (zh3:=zk3) (r:=f) w pz j k m ho) ?_
 rintro  g
 refine Kh (i:=0) U (u:=(vs b f.length c)) (yac g.symm)<|WL.nil ?_
 obtain rfl:=oJ h
 refine WX.y58 results61 .nil<|fun w hw=>?_
 exact⟨y7A,(g.trans U),hw.sub (.cons .here .nil)⟩
def y4S(b:List S36)(c:(List (z8×Int))->Option (List zj)):Nat->Int->(List (z8×Int))->Option (List zj)
 | 0,_,_=>none
 | e+1,a,d=>if decide (a>=0) then chk ((0:Int)<=a/\a<(b.length:Int)) (y4S b c e (i64 (a-1)) (yC d (⟨((nth b a).fNode),((nth b a).fQ)⟩:z8) ((nth b a).fDelay))) else c d
def y4T(b:List (List ze))(a:Int)(j:zs)(e:List (z8×Int))(i:(List zj)->Option (List zj)):Nat->(List zj)->Int->(List (Int×Int))->Option (List zj)
 | 0,_,_,_=>none
 | k+1,f,c,d=>if decide (c<((nth b a).length:Int)) then jp2 (fun(l:List zj) (m:List (Int×Int))=>y4T b a j e i k l (i64 (c+1)) m) fun h=>chk ((0:Int)<=c/\c<((nth b a).length:Int)) (chk ((y2A d ((nth (nth b a) c).fNext))=false->((0:Int)<=0/\0<((nth b a).length:Int))) (if (y2A d ((nth (nth b a) c).fNext))||(decide (((nth (nth b a) c).fNext)=((nth (nth b a) 0).fNode))) then h f d else(y4M (⟨((nth (nth b a) c).fNode),((nth (nth b a) c).fNext),((nth (nth b a) c).fQ)⟩:ze)).bind fun g=>if (decide (((nth (nth b a) c).fNext)>=0))&&(decide (((nth (nth b a) c).fNext)<(j.fM.length:Int))) then chk ((((f++([(⟨a,((nth (nth b a) c).fNext),(yd (yC d ((nth (nth b a) c).fNext) (i64 ((yd d ((nth (nth b a) c).fNode) 0)+(yd e g 0)))) ((nth (nth b a) c).fNext) 0)⟩:zj)]:List zj)).length:Nat):Int)*24<=140737488355328/\(((f++([(⟨a,((nth (nth b a) c).fNext),(yd (yC d ((nth (nth b a) c).fNext) (i64 ((yd d ((nth (nth b a) c).fNode) 0)+(yd e g 0)))) ((nth (nth b a) c).fNext) 0)⟩:zj)]:List zj)).length:Nat):Int)<=4611686018427387904) (h (f++([(⟨a,((nth (nth b a) c).fNext),(yd (yC d ((nth (nth b a) c).fNext) (i64 ((yd d ((nth (nth b a) c).fNode) 0)+(yd e g 0)))) ((nth (nth b a) c).fNext) 0)⟩:zj)]:List zj)) (yC d ((nth (nth b a) c).fNext) (i64 ((yd d ((nth (nth b a) c).fNode) 0)+(yd e g 0))))) else h f (yC d ((nth (nth b a) c).fNext) (i64 ((yd d ((nth (nth b a) c).fNode) 0)+(yd e g 0)))))) else i f
def y4U(c:List (List ze))(g:zs)(e:List (z8×Int))(f:(List zj)->Option (List zj)):Nat->(List zj)->Int->Option (List zj)
 | 0,_,_=>none
 | h+1,b,a=>if decide (a<(c.length:Int)) then jp1 (fun(i:List zj)=>y4U c g e f h i (i64 (a+1))) fun j=>chk ((0:Int)<=a/\a<(c.length:Int)) (jp1 (fun(k:List zj)=>(y2i k (fun(y0:zj) (y1:zj)=>y1g y0 y1)).bind fun d=>chk (((b++d).length:Int)*24<=140737488355328/\((b++d).length:Int)<=4611686018427387904) (j (b++d))) fun l=>y4T c a g e l yy ([]:List zj) 0 ([]:List (Int×Int))) else f b
def y6K(h:zs)(b:List (List ze))(a:List S36):Option (List zj):=
 (y16 b (fun(y0:List ze)=>y4u y0)).bind fun c=>if c then some ([]:List zj) else jp1 (fun(d:List (z8×Int))=>jp1 (fun(e:List zj)=>some e) fun f=>y4U b h d f yy ([]:List zj) 0) fun g=>y4S a g yy (i64 ((a.length:Int)-1)) ([]:List (z8×Int))
theorem ydv{Z:Zp}{aE:Option Addr}{V:List S36}{r:List zj}(h:y6K f g V=some r)(w₀:World)(hz:PZ [] w₀ Z)(bw:ZS Z 4 (y3F Z) m n f.fM)(bx:ZS Z 4 (y4l Z) q s f.fC0)(bz:ZS Z 4 (fun r x=>r=e64 x) t y f.fS)(bA:ZS Z 4 (fun r x=>r=e62 x) z M f.fK)(bB:ZS Z 7 (p69 Z) N O f.fVLs)(bC:ZS Z 5 (fun r x=>r=y4D x) P Q f.fH)(bD:ZS Z 3 (y4m Z) S T f.fU)(bE:ZS Z 4 (fun r x=>r=y4E x) W X f.fV0)(aP:ZS Z 1 (p58 Z) aa ab g)(aF:ZS Z 4 (fun r x=>r=e37 x) aE Y V):
  Calls Tryz.prog 28 #[(.agg #[(vs m f.fM.length n),(vs q f.fC0.length s),(vs t f.fS.length y),(vs z f.fK.length M),(vs N f.fVLs.length O),(vs P f.fH.length Q),(vs S f.fU.length T),(vs W f.fV0.length X)]),(vs aa g.length ab),(vs aE V.length Y)] w₀ fun e w'=>∃ aQ:Option Addr,∃ aR:Nat,e = .returned (vs aQ r.length aR)/\True/\Hp [] w₀ w' [row (vs aQ r.length aR) 53 3 (r.flatMap e53)]:=by
 unfold y6K at h
 refine Kd func28 ntmps28 ?_
 let A:List Value:=[(vs m f.fM.length n),(vs q f.fC0.length s),(vs t f.fS.length y),(vs z f.fK.length M),(vs N f.fVLs.length O),(vs P f.fH.length Q),(vs S f.fU.length T),(vs W f.fV0.length X)];refine WC.b (Ld (Lg 3 (yI (cs:=A) U U) ?_))
 intro o _
 refine La U<|WL.nil<|Lb<|WC.b<|WC.b ?_
 obtain⟨bX,aY,h⟩:=za h
 refine Ld<|La U<|Ll 19 (zb call50<|.r2 U U) .nil (cc hz .nil fun w pz ho=>y4I _ _ _ (zfp:=58) (zlx:=[]) _ (zfo:=(fun(y0:List ze)=>y4u y0)) _ aY w pz aP call58<|fun w' hz' y0 ga0 gc0 r gh0 hr=>ygn hr w' hz' gh0)<|WL.nil<|Lb<|WC.cond U (fun aG=>?_)<|fun aG=>?_
 ·replace h:=yr h aG
  refine WC.b<|Ld<|La U<|WL.nil<|Lb<|WC.ret<|Lj<|WX.nilRow 53 3 ?_
  obtain rfl:=oJ h
  refine Lh results28 (.tmp U .nil)<|fun w hw=>?_
  exact⟨none,0,yD U,trivial,hw.sub (.cons .here .nil)⟩
 ·replace h:=ys h aG
  refine WC.skip<|Lb<|WC.b<|Ld (Lg 20 (y3n (fun x=>Value.agg (yE x).toArray)<|Value.int .i64) fun p _=>La U<|WL.nil<|Lb ?_)
  obtain⟨aS,aZ,h⟩:=y13 h
  let E:Value:=(vs aa g.length ab);refine WC.y3r (fun(d:List (z8×Int))=>(aS d=some r)) (fun d=>[(1,E),(3,(vp o)),(7,(.map (some p)))]) (fun d=>[stb o 31 A,yn p (fun x=>Value.agg (yE x).toArray) (Value.int .i64) d]) ?_ ?_
  ·skip
   refine WC.b<|Ld<|La U<|Le 22 (yJ underlying33 U)<|La U<|La U<|WL.nil<|Lb<|WC.block<|WC.yaM (fun(aA:Nat) (L:Int) (ai:List (z8×Int))=>(y4S V aS aA L ai=some r)) (fun aA L ai=>[(1,E),(2,(vs aE V.length Y)),(3,(vp o)),(7,(.map<|some p)),(8,(vi L))]) (fun aA L ai=>[stb o 31 A,yn p (fun x=>Value.agg (yE x).toArray) (Value.int .i64) ai]) (fun aA L ai=>aA) ⟨yy,(i64 ((V.length:Int)-1)),([]:List (z8×Int))⟩ h (.r5 U U U U U) (.s2 .h1 .here) ?_
   rintro(_|a0) L ai h;·cases h
   rw[y4S] at h
   refine WC.b<|WC.b<|Ld<|La U<|La U<|WL.nil<|Lb<|WC.cond U (fun aH=>?_)<|fun aH=>?_
   ·replace h:=yr h aH
    refine WC.skip<|Lb<|WC.b<|WC.block ?_
    obtain⟨aI,h⟩:=yo h
    refine Lx (fun i=>[17].contains i) [] U<|Lf 0 28 U (fun _=>q_m U)<|Lf 1 29 U (fun _=>q_m U)<|Lf 2 30 U (fun _=>q_m U)<|L7 (j:=3) (dd:=31) (by kernel_rfl) U z2k z2l U U (Z:=Z) (Pr:=(fun r x=>r=e37 x)) y5z U U aF aI ?_
    rintro bF bG a1 bH rfl
    refine Lf 4 32 U (fun _=>ya y6D U U)<|Li 5 33 U (yc yq U<|y1b hz.pv a1 U)<|Lf 6 34 U (fun _=>q_m U)<|Lf 7 35 U (fun _=>q_m U)<|L7 (j:=8) (dd:=36) (by kernel_rfl) U z2k z2l U U (Z:=Z) (Pr:=(fun r x=>r=e37 x)) y5z U U aF aI ?_
    rintro bI bJ a2 bK rfl
    refine Lf 9 37 U (fun _=>ya y7Y U U)<|Li 10 38 U (yc yq U<|y1b hz.pv a2 U)<|Lf 11 39 U (fun _=>yN (v:=(.agg #[(vi<|(nth V L).fNode),(vi<|(nth V L).fQ)])) (Lo (l:=[.tmp 33,.tmp 38]) (.r2 U U) [0,1]) (fun _=>by kernel_rfl))<|Lf 12 40 U (fun _=>q_m U)<|Lf 13 41 U (fun _=>q_m U)<|L7 (j:=14) (dd:=42) (by kernel_rfl) U z2k z2l U U (Z:=Z) (Pr:=(fun r x=>r=e37 x)) y5z U U aF aI ?_
    rintro bL bM a3 bN rfl
    refine Lf 15 43 U (fun _=>ya y9y U U)<|Li 16 44 U (yc yq U<|y1b hz.pv a3 U)<|Kc (i:=17) U (by kernel_rfl) U U U (by kernel_rfl) (y3P (k:=(⟨((nth V L).fNode),((nth V L).fQ)⟩:z8)) (v:=((nth V L).fDelay)) zd9 underlying117 U U U U .h1)<|WD.done (by kernel_rfl)<|Lq<|Lb<|Ld<|La U<|La U<|La U<|WL.nil ?_
    exact WX.round ⟨a0,(i64 (L-1)),(yC ai (⟨((nth V L).fNode),((nth V L).fQ)⟩:z8)<|(nth V L).fDelay)⟩ h (Nat.lt_succ_self _) (.r5 U U U U U)<|.s2 .h1 .here
   ·replace h:=ys h aH
    refine WC.exit<|Lm<|Lm<|Lw ?_
    exact Ln ai h (.r3 U U U)<|.a2
  ·rintro d h
   replace h:=(aZ d).symm.trans h
   refine WC.b<|Ld<|La U<|WL.nil<|Lb ?_
   obtain⟨aT,a4,h⟩:=y13 h
   refine Kb (fun(aj:List zj) (ao:Option Addr) (ap:Nat)=>(aT aj=some r)) (fun aj ao ap=>[(9,(vs ao aj.length ap))]) (fun aj ao ap=>[row (vs ao aj.length ap) 53 3 (aj.flatMap e53)]) ?_ ?_
   ·skip
    let I:Value:=(vi (g.length:Int));refine WC.b (Ld (La U (Le 46 (yJ underlying32 U) (La U (WL.nil (Lb (WC.block (WC.nilRow 53 3 (WC.y7B (fun(aB:Nat) (R:List zj) (a:Int) (ak:Option Addr) (al:Nat)=>(y4U g f d aT aB R a=some r)) (fun aB R a ak al=>[(3,(vp o)),(7,(.map (some p))),(9,(vs ak R.length al)),(45,E),(46,I),(47,(vi a))]) (fun aB R a ak al=>[row (vs ak R.length al) 53 3 (R.flatMap e53),stb o 31 A,yn p (fun x=>Value.agg (yE x).toArray) (Value.int .i64) d]) (fun aB R a ak al=>aB) ⟨yy,([]:List zj),0,none,0⟩ h (.r6 U U U U U U) (.a3) ?_)))))))))
    rintro(_|a5) R a ak al h;·cases h
    rw[y4U] at h
    refine WC.b<|Ld<|La U<|WL.nil<|Lb<|WC.b<|WC.cond U (fun aJ=>?_)<|fun aJ=>?_
    ·replace h:=yr h aJ
     refine WC.skip<|Lb ?_
     obtain⟨a6,a7,h⟩:=y13 h
     refine Kb (fun(ag:List zj) (aq:Option Addr) (ar:Nat)=>(a6 ag=some r)) (fun ag aq ar=>[(3,(vp o)),(7,(.map<|some p)),(9,(vs aq ag.length ar)),(45,E),(46,I),(47,(vi a))]) (fun ag aq ar=>[row (vs aq ag.length ar) 53 3 (ag.flatMap e53),stb o 31 A,yn p (fun x=>Value.agg (yE x).toArray) (Value.int .i64) d]) ?_ ?_
     ·skip
      refine WC.block<|WC.b ?_
      obtain⟨a8,h⟩:=yo h
      refine Ld<|La U<|L0 (dd:=50) U U (Z:=Z) (Pr:=(p58 Z)) y8Y U U aP a8 ?_
      rintro bO bP a9 bQ ⟨ba,bb,rfl,aU⟩
      refine Le 51 (yc y7g U<|y3x hz.pv a9 U)<|La U<|La U<|WL.nil<|Lb<|WC.b<|Ld (Lg 52 (y3n (Value.int .i64)<|Value.int .i64) fun au _=>La U<|WL.nil<|Lb<|WC.b<|Ld<|La U<|WL.nil<|Lb ?_)
      obtain⟨aV,bc,h⟩:=y13 h
      let F:Value:=(vs ak R.length al);refine Kb (fun(am:List zj) (av:Option Addr) (aw:Nat)=>(aV am=some r)) (fun am av aw=>[(3,(vp o)),(7,(.map (some p))),(9,F),(13,(vs av am.length aw)),(45,E),(46,I),(47,(vi a))]) (fun am av aw=>[row F 53 3 (R.flatMap e53),row (vs av am.length aw) 53 3 (am.flatMap e53),stb o 31 A,yn p (fun x=>Value.agg (yE x).toArray) (Value.int .i64) d]) ?_ ?_
      ·skip
       let D:Value:=(vs ba ((nth g a).length) bb);refine WC.b (Ld (La U (Le 54 (yJ underlying58 U) (La U (WL.nil (Lb (WC.block (WC.nilRow 53 3 (WC.yaN (fun(aC:Nat) (ad:List zj) (b:Int) (c:List (Int×Int)) (ae:Option Addr) (af:Nat)=>(y4T g a f d aV aC ad b c=some r)) (fun aC ad b c ae af=>[(3,(vp o)),(7,(.map (some p))),(9,F),(10,(vi a)),(11,D),(12,(.map (some au))),(13,(vs ae ad.length af)),(45,E),(46,(vi (g.length:Int))),(47,(vi a)),(53,D),(54,(vi ((nth g a).length:Int))),(55,(vi b))]) (fun aC ad b c ae af=>[row F 53 3 (R.flatMap e53),row (vs ae ad.length af) 53 3 (ad.flatMap e53),stb o 31 A,yn p (fun x=>Value.agg (yE x).toArray) (Value.int .i64) d,yn au (Value.int .i64) (Value.int .i64) c]) (fun aC ad b c ae af=>aC) ⟨yy,([]:List zj),0,([]:List (Int×Int)),none,0⟩ h (.r13 U U U U U U U U U U U U U) (.s5 .h2 .here .h1 .h1 .here) ?_)))))))))
       rintro(_|bd) ad b c ae af h;·cases h
       rw[y4T] at h
       refine WC.b<|Ld<|La U<|WL.nil<|Lb<|WC.b<|WC.cond U (fun aK=>?_)<|fun aK=>?_
       ·replace h:=yr h aK
        refine WC.skip<|Lb ?_
        obtain⟨be,bf,h⟩:=y52 h
        refine WC.yar (fun(ah:List zj) (an:List (Int×Int)) (ax:Option Addr) (ay:Nat)=>(be ah an=some r)) (fun ah an ax ay=>[(3,(vp o)),(7,(.map<|some p)),(9,F),(10,(vi a)),(11,D),(12,(.map<|some au)),(13,(vs ax ah.length ay)),(45,E),(46,(vi (g.length:Int))),(47,(vi a)),(53,D),(54,(vi ((nth g a).length:Int))),(55,(vi b))]) (fun ah an ax ay=>[row F 53 3 (R.flatMap e53),row (vs ax ah.length ay) 53 3 (ah.flatMap e53),stb o 31 A,yn p (fun x=>Value.agg (yE x).toArray) (Value.int .i64) d,yn au (Value.int .i64) (Value.int .i64) an]) ?_ ?_
        ·skip
         refine WC.block<|WC.b ?_
         obtain⟨bg,h⟩:=yo h
         refine Ld<|L0 (dd:=57) U U (Z:=Z) (Pr:=(fun r x=>r=e60 x)) y69 U U aU bg ?_
         rintro bh bR bi bS rfl
         refine Le 58 (yi y49 U (y2j hz.pv bi) U) (Lg 15 (yu (cs:=[(vi 0),(vi 0),(vi 0)]) y6Y U) fun aW _=>Lk U U (yl y7h U U U .here U U U)<|WL.nil<|Lb<|WC.b<|WC.b<|Ld<|La U<|Le 61 (ya y5I U U)<|Le 62 (yc yq U<|yh .here U)<|Le 63 (yk8 (k:=((nth (nth g a) b).fNext)) (dflt:=(0:Int)) y3V underlying148 y2K U U U .h5)<|La U<|La U<|La U<|La U<|La U<|WL.nil<|Lb<|WC.b ?_)
         obtain⟨bj,h⟩:=yo h
         let C:Value:=(.bool (y2A c ((nth (nth g a) b).fNext)));let G:Value:=(vi (yd c ((nth (nth g a) b).fNext) 0));let J:=((nth g a).length:Int);let K:Value:=(vi ((nth (nth g a) b).fNext));refine Lx (fun i=>[].contains i) [] U (Lf 0 66 U (fun _=>q_m U) (Lf 1 67 U (fun _=>q_m U) (Ke (fuel':=0) [(3,(vp o)),(7,(.map (some p))),(9,F),(10,(vi a)),(11,D),(12,(.map (some au))),(13,(vs ae ad.length af)),(45,E),(46,I),(47,(vi a)),(53,D),(54,(vi J)),(55,(vi b)),(56,(.bool (decide (b<J)))),(57,(vq bh)),(58,(.agg #[(vi ((nth (nth g a) b).fNode)),K,(vi ((nth (nth g a) b).fQ))])),(15,(vp aW)),(60,(.map (some au))),(61,(.pointer (some ⟨aW,1,none⟩))),(62,K),(63,(.tuple #[G,C])),(59,(.tuple #[G,C])),(64,G),(65,C),(16,G),(17,C),(66,C),(67,C),(75,(.bool ((y2A c ((nth (nth g a) b).fNext))||(decide (((nth (nth g a) b).fNext)=((nth (nth g a) 0).fNode))))))] (y2e 10 (dn 10)) ?_ (fun aX=>?_))))
         rotate_left
         ·rcases Bool.eq_false_or_eq_true (y2A c ((nth (nth g a) b).fNext)) with hb' | hb'
          ·have aL:=hb';clear hb'
           refine L3 (i:=67) U aL<|Lp 2 68 U<|Lp 3 69 U<|Lp 4 70 U<|Lp 5 71 U<|Lp 6 72 U<|Lp 7 73 U<|Lp 8 74 U<|Lf 9 75 U (fun _=>y4o U U)<|Ly (.a6) ?_ aX
           exact .r29 U U U U U U U U U U U U U U U U U U U U U U U U U U U (zO<|Eq.symm aL)<|zO<|y5V aL
          ·have aD:=hb';clear hb'
           have bk:=bj aD
           refine L3 (i:=67) U aD<|Lf 2 68 U (fun _=>ya y5I U U)<|Li 3 69 U (yc yq U<|yh .here U)<|Lf 4 70 U (fun _=>q_m U)<|L7 (j:=5) (dd:=71) (by kernel_rfl) U z2k z2l U U (Z:=Z) (Pr:=(fun r x=>r=e60 x)) y69 U U aU bk ?_
           rintro bT bU bl bV rfl
           refine Lf 6 72 U (fun _=>ya y4a U U)<|Li 7 73 U (yc yq U<|y1b hz.pv bl U)<|Lf 8 74 U (fun _=>ycd U U)<|Lf 9 75 U (fun _=>y4p U U)<|Ly (.a6) ?_ aX
           exact .r29 U U U U U U U U U U U U U U U U U U U U U U U U U U U (zO<|Eq.symm aD)<|zO<|y5W aD
         refine WD.done (by kernel_rfl)<|Lb<|WC.cond U (fun aM=>?_)<|fun aM=>?_
         ·replace h:=yr h aM
          refine WC.exit<|Lm<|Lw ?_
          exact Ln ⟨ad,c,ae,af⟩ h (.r13 U U U U U U U U U U U U U)<|.s5 .h1 .h1 .h1 .h1 .h1
         ·replace h:=ys h aM
          refine WC.skip<|Lb<|WC.b ?_
          obtain⟨az,bm,h⟩:=za h
          refine Lx (fun i=>[12].contains i) [] U<|Lf 0 76 U (fun _=>q_m U)<|Lf 1 77 U (fun _=>ya y5I U U)<|Li 2 78 U (yc yq U<|yh .here U)<|Lf 3 79 U (fun _=>q_m U)<|Lf 4 80 U (fun _=>ya y4a U U)<|Li 5 81 U (yc yq U<|yh .here U)<|Li 6 82 U (y2V (k:=((nth (nth g a) b).fNode)) (dflt:=(0:Int)) y3V underlying148 y2K U U U .h5)<|Lf 7 83 U (fun _=>q_m U)<|Li 8 84 U (yi y49 U (yj .here) U)<|L4 9 85 U (zb call60<|.cons U .nil) (cc hz .nil fun w pz ho=>y6d bm w pz )<|Li 10 86 U (y2V (k:=az) (dflt:=(0:Int)) zd9 underlying117 y2K U U U .h4)<|Lf 11 87 U (fun _=>y9H U U U)<|Kc (i:=12) U (by kernel_rfl) U U U (by kernel_rfl) (y3P (k:=((nth (nth g a) b).fNext)) (v:=i64 ((yd c ((nth (nth g a) b).fNode) 0)+(yd d az 0))) y3V underlying148 U U U U .h5)<|WD.done (by kernel_rfl)<|Lb<|WC.b<|Ld<|Le 88 (ya y5I U U)<|Le 89 (yc yq U<|yh .h1 U)<|La U<|La U<|Lu true 6 91 (B:=(decide (((nth (nth g a) b).fNext)>=0))&&(decide (((nth (nth g a) b).fNext)<(f.fM.length:Int)))) U U U U U U (fun h=>(y4f h).symm) (fun _ bn=>?_) ?_
          ·skip
           refine Le 92 (ya y5I U U)<|Le 93 (yc yq U<|yh .h1 U)<|Le 94 (ya y7e U U)<|Le 95 (yc y7f U<|yh .h4 U)<|Le 96 (yJ underlying22 U)<|La U<|La U ?_
           exact Lv (y4g bn) U U .all
          refine WL.nil<|Lb<|WC.cond U (fun aN=>?_)<|fun aN=>?_
          ·replace h:=yr h aN
           obtain⟨bo,h⟩:=yo h
           refine Ld<|La U<|La U<|Le 101 (ya y5I U U)<|Le 102 (yc yq U<|yh .h1 U)<|La U<|Le 104 (ya y5I U U)<|Le 105 (yc yq U<|yh .h1 U)<|Le 106 (y2V (k:=((nth (nth g a) b).fNext)) (dflt:=(0:Int)) y3V underlying148 y2K U U U .here)<|Le 107 (yN (v:=(.agg #[(vi a),(vi<|(nth (nth g a) b).fNext),(vi<|yd (yC c ((nth (nth g a) b).fNext)<|i64 ((yd c ((nth (nth g a) b).fNode) 0)+(yd d az 0))) ((nth (nth g a) b).fNext) 0)])) (Lo (l:=[.tmp 100,.tmp 102,.tmp 106]) (.r3 U U U) [0,1,2]) (fun _=>by kernel_rfl))<|Lg 108 (yT (cs:=([(⟨a,((nth (nth g a) b).fNext),(yd (yC c ((nth (nth g a) b).fNext)<|i64 ((yd c ((nth (nth g a) b).fNode) 0)+(yd d az 0))) ((nth (nth g a) b).fNext) 0)⟩:zj)]:List zj).flatMap e53) y9V (Lo (l:=[.tmp 107]) (.cons U .nil) [0]) (fun _=>by kernel_rfl) U (by unfold maxLen;omega)) ?_
           intro bW _
           let H:=(i64 ((yd c ((nth (nth g a) b).fNode) 0)+(yd d az 0)));refine WL.fA 109 (y4W (enc:=e53) (l1:=ad) (l2:=([(⟨a,((nth (nth g a) b).fNext),(yd (yC c ((nth (nth g a) b).fNext) H) ((nth (nth g a) b).fNext) 0)⟩:zj)]:List zj)) y9V U U .h4 (fun _=>U) U U (y3q .here) (y5i yhB _) bo) ?_
           rintro⟨bp,bq⟩ _
           refine La U<|WL.nil<|Lq ?_
           exact Ln ⟨(ad++([(⟨a,((nth (nth g a) b).fNext),(yd (yC c ((nth (nth g a) b).fNext) H) ((nth (nth g a) b).fNext) 0)⟩:zj)]:List zj)),(yC c ((nth (nth g a) b).fNext) H),bp,bq⟩ h (.r13 U U U U U U U U U U U U U)<|.s5 .h4 .here .h3 .h3 .h1
          ·replace h:=ys h aN
           refine WC.skip<|Lq ?_
           exact Ln ⟨ad,(yC c ((nth (nth g a) b).fNext)<|i64 ((yd c ((nth (nth g a) b).fNode) 0)+(yd d az 0))),ae,af⟩ h (.r13 U U U U U U U U U U U U U)<|.s5 .h2 .h2 .h2 .h2 .here
        ·rintro ah an ax ay h
         replace h:=(bf ah an).symm.trans h
         refine Ld<|La U<|La U<|WL.nil ?_
         exact WX.round ⟨bd,ah,(i64 (b+1)),an,ax,ay⟩ h (Nat.lt_succ_self _) (.r13 U U U U U U U U U U U U U)<|.a5
       ·replace h:=ys h aK
        refine WC.exit<|Lm<|Lm<|Lw ?_
        exact Ln ⟨ad,ae,af⟩ h (.r7 U U U U U U U)<|.a4
      ·rintro am av aw h
       replace h:=(bc am).symm.trans h
       refine WC.b ?_
       obtain⟨aO,br,h⟩:=za h
       refine Ld<|La U<|WL.y5c (dd:=112) U U U (zb call61<|.r2 U U) (.cons .h1 .nil) (cc hz (.cons .h1 .nil) fun w pz ho=>y8m _ _ _ (zk4:=62) (zr0:=[]) _ (zk3:=(fun(y0:zj) (y1:zj)=>y1g y0 y1)) _ br w pz call62 (fun w' hz' y0 y1  r  hr=>ygo hr w' hz' ) ho) ?_
       rintro  bs
       refine Kh (i:=13) U (u:=(vs av aO.length aw)) (yac bs.symm)<|WL.nil<|Lb ?_
       obtain⟨bt,h⟩:=yo h
       refine Ld<|La U<|La U<|WL.fA 115 (y4W (enc:=e53) (l1:=R) (l2:=aO) y9V U U .h1 (fun _=>U) U U (y3q .here) (y5i yhB _) bt) ?_
       rintro⟨bu,bv⟩ _
       refine La U<|WL.nil<|Lq ?_
       exact Ln ⟨(R++aO),bu,bv⟩ h (.r6 U U U U U U)<|.s3 .here .h1 .h1
     ·rintro ag aq ar h
      replace h:=(a7 ag).symm.trans h
      refine Ld<|La U<|La U<|WL.nil ?_
      exact WX.round ⟨a5,ag,(i64 (a+1)),aq,ar⟩ h (Nat.lt_succ_self _) (.r6 U U U U U U)<|.a3
    ·replace h:=ys h aJ
     refine WC.exit<|Lm<|Lm<|Lw ?_
     exact Ln ⟨R,ak,al⟩ h (.cons U .nil)<|.cons .here .nil
   ·rintro aj ao ap h
    replace h:=(a4 aj).symm.trans h
    refine WC.b<|Ld<|La U<|La U<|WL.nil<|Lb<|WC.ret ?_
    obtain rfl:=oJ h
    refine Lh results28 (.tmp U .nil)<|fun w hw=>?_
    exact⟨ao,ap,yD U,trivial,hw.sub (.cons .here .nil)⟩
def y2T(c:List z8×Int)(g:zs)(e:List (List ze))(f:(List S36)->Option (S39×Int)):Nat->Int->Int->(List S36)->(List (zP×z2))->(List (z8×Int))->Option (S39×Int)
 | 0,_,_,_,_,_=>none
 | h+1,b,i,d,j,k=>if decide (b<(c.1.length:Int)) then chk ((0:Int)<=b/\b<(c.1.length:Int)) ((y5C g e j k i (⟨((nth c.1 b).fNode),((nth c.1 b).fQ)⟩:z8)).bind fun a=>chk (((d++([a.1]:List S36)).length:Int)*32<=140737488355328/\((d++([a.1]:List S36)).length:Int)<=4611686018427387904) (if decide (a.2.1≠0) then some ((⟨([]:List S36),([]:List zj)⟩:S39),a.2.1) else y2T c g e f h (i64 (b+1)) a.2.1 (d++([a.1]:List S36)) a.2.2.1 a.2.2.2)) else f d
def y5n(b:zs)(e:Int)(a:List (List ze)):Option (S39×Int):=
 (y44 b e a).bind fun f=>if !f then some ((⟨([]:List S36),([]:List zj)⟩:S39),310) else(y25 b.fVLs (fun(y0:z16)=>y33 y0)).bind fun g=>if g then some ((⟨([]:List S36),([]:List zj)⟩:S39),350) else(y5v a).bind fun c=>if decide (c.2≠0) then some ((⟨([]:List S36),([]:List zj)⟩:S39),c.2) else jp1 (fun(h:List S36)=>(yS h (fun(y0:S36) (y1:S36)=>yH y0 y1)).bind fun d=>(y6K b a d).bind fun i=>some ((⟨d,i⟩:S39),0)) fun j=>y2T c b a j yy 0 0 ([]:List S36) ([]:List (zP×z2)) ([]:List (z8×Int))
theorem ybs{Z:Zp}{r:S39×Int}(h:y5n f k g=some r)(w₀:World)(hz:PZ [] w₀ Z)(am:ZS Z 4 (y3F Z) m n f.fM)(an:ZS Z 4 (y4l Z) q s f.fC0)(ao:ZS Z 4 (fun r x=>r=e64 x) t y f.fS)(ap:ZS Z 4 (fun r x=>r=e62 x) z M f.fK)(ag:ZS Z 7 (p69 Z) N O f.fVLs)(aq:ZS Z 5 (fun r x=>r=y4D x) P Q f.fH)(ar:ZS Z 3 (y4m Z) S T f.fU)(au:ZS Z 4 (fun r x=>r=y4E x) W X f.fV0)(ah:ZS Z 1 (p58 Z) aa ab g):
  Calls Tryz.prog 18 #[(.agg #[(vs m f.fM.length n),(vs q f.fC0.length s),(vs t f.fS.length y),(vs z f.fK.length M),(vs N f.fVLs.length O),(vs P f.fH.length Q),(vs S f.fU.length T),(vs W f.fV0.length X)]),(vi k),(vs aa g.length ab)] w₀ fun e w'=>∃ aB:Option Addr,∃ aC:Nat,∃ aD:Option Addr,∃ aE:Nat,e = .returned (.tuple #[(.agg #[(vs aB r.1.fP.length aC),(vs aD r.1.fEnds.length aE)]),(vi r.2)])/\True/\Hp [] w₀ w' [row (vs aB r.1.fP.length aC) 37 4 (r.1.fP.flatMap e37),row (vs aD r.1.fEnds.length aE) 53 3 (r.1.fEnds.flatMap e53)]:=by
 unfold y5n at h
 refine Kd func18 ntmps18 ?_
 let D:Value:=(vs N f.fVLs.length O);let E:Value:=(vs q f.fC0.length s);let F:Value:=(vs W f.fV0.length X);let G:Value:=(vs m f.fM.length n);let H:Value:=(vs t f.fS.length y);let I:Value:=(vs z f.fK.length M);let J:Value:=(vs P f.fH.length Q);let K:Value:=(vs S f.fU.length T);let A:List Value:=[G,E,H,I,D,J,K,F];refine WC.b (Ld (Lg 3 (yI (cs:=A) U U) ?_))
 intro ai _
 refine Lg 6 (yu (cs:=[vn,vn]) y6X U) fun aj _=>La U<|WL.nil<|Lb<|WC.b<|WC.b ?_
 obtain⟨a1,aL,h⟩:=za h
 refine Ld<|Le 14 (yi y1V U (yj .h1) U)<|La U<|La U<|Ll 17 (zb call22<|.r3 U U U) .nil (cc hz .nil fun w pz ho=>y7r aL w pz am an ao ap ag aq ar au ah)<|La U<|WL.nil<|Lb<|WC.cond U (fun av=>?_)<|fun av=>?_
 ·replace h:=yr h av
  refine WC.b<|Ld<|Le 19 (yN (v:=(.agg #[vn,vn])) (Lo (l:=[]) .nil []) (fun _=>by kernel_rfl))<|Lk U U (yl y53 U U U .here U U U)<|La U<|WL.nil<|Lb<|WC.ret<|Lj<|WX.nilRow 37 4<|WX.nilRow 53 3 ?_
  obtain rfl:=oJ h
  refine Lh results18 (.agg U y5j U (yj .h2)<|.tmp U .nil)<|fun w hw=>?_
  exact⟨none,0,none,0,y1T U U,trivial,hw.sub (.s2 .h1 .here)⟩
 ·replace h:=ys h av
  refine WC.skip<|Lb<|WC.b<|WC.b ?_
  obtain⟨a2,aM,h⟩:=za h
  refine Ld<|Le 20 (ya y7U U U)<|Le 21 (yc y7V U<|yh .h1 U)<|Ll 22 (zb call39<|.r2 U U) .nil (cc hz .nil fun w pz ho=>y81 _ _ _ (zic:=40) (zpk:=[]) _ (zib:=(fun(y0:z16)=>y33 y0)) _ aM w pz ag call40<|fun w' hz' y0 ga0 gc0 r gh0 hr=>yev hr w' hz' gh0)<|WL.nil<|Lb<|WC.cond U (fun aw=>?_)<|fun aw=>?_
  ·replace h:=yr h aw
   refine WC.b<|Ld<|Le 23 (yN (v:=(.agg #[vn,vn])) (Lo (l:=[]) .nil []) (fun _=>by kernel_rfl))<|Lk U U (yl y53 U U U .here U U U)<|La U<|WL.nil<|Lb<|WC.ret<|Lj<|WX.nilRow 37 4<|WX.nilRow 53 3 ?_
   obtain rfl:=oJ h
   refine Lh results18 (.agg U y5j U (yj .h2)<|.tmp U .nil)<|fun w hw=>?_
   exact⟨none,0,none,0,y1T U U,trivial,hw.sub (.s2 .h1 .here)⟩
  ·replace h:=ys h aw
   refine WC.skip<|Lb<|WC.b ?_
   obtain⟨B,aN,h⟩:=za h
   refine Ld<|La U<|WL.y43 (dd:=26) U U U (zb call42<|.cons U .nil) .nil (cc hz .nil fun w pz ho=>ycX aN w pz ah) ?_
   rintro aO aP _
   refine La U<|La U<|La U<|La U<|La U<|WL.nil<|Lb<|WC.b<|WC.b<|Ld<|La U<|La U<|WL.nil<|Lb<|WC.cond U (fun ax=>?_)<|fun ax=>?_
   ·replace h:=yr h ax
    refine WC.b<|Ld<|Le 31 (yN (v:=(.agg #[vn,vn])) (Lo (l:=[]) .nil []) (fun _=>by kernel_rfl))<|La U<|Lk U U (yl y53 U U U .h1 U U U)<|La U<|WL.nil<|Lb<|WC.ret<|Lj<|WX.nilRow 37 4<|WX.nilRow 53 3 ?_
    obtain rfl:=oJ h
    refine Lh results18 (.agg U y5j U (yj .h2)<|.tmp U .nil)<|fun w hw=>?_
    exact⟨none,0,none,0,y1T U U,trivial,hw.sub (.s2 .h1 .here)⟩
   ·replace h:=ys h ax
    refine WC.skip<|Lb<|WC.b<|Ld<|Le 33 (yi y1V U (yj .h2) U)<|La U (Lg 35 (y3n (fun x=>Value.agg (y2P x).toArray)<|fun x=>Value.agg (yx x).toArray) fun ak _=>Lg 36 (y3n (fun x=>Value.agg (yE x).toArray)<|Value.int .i64) ?_)
    intro al _
    let C:Value:=(vs aa g.length ab);refine Le 37 (yN (v:=(.agg #[G,E,H,I,D,J,K,F,C,(.map (some ak)),(.map (some al)),(vi 0)])) (Lo (l:=[.tmp 33,.tmp 34,.tmp 35,.tmp 36,.const (vi 0)]) (.r5 U U U U U) [0,1,2,3,4]) (fun _=>by kernel_rfl)) (Lg 38 (yI (cs:=[G,E,H,I,D,J,K,F,C,(.map (some ak)),(.map (some al)),(vi 0)]) U U) ?_)
    intro ay _
    refine La U<|WL.nil<|Lb<|WC.b<|Ld (Lg 11 (yu (cs:=[vn,vn]) y6X U) fun ad _=>WL.nil<|Lb ?_)
    obtain⟨aF,aQ,h⟩:=y13 h
    refine Kb (fun(c:List S36) (d:Option Addr) (j:Nat)=>(aF c=some r)) (fun c d j=>[(2,C),(3,(vp ai)),(6,(vp aj)),(11,(vp ad))]) (fun c d j=>[stb ai 31 A,stb aj 40 [vn,vn],stb ad 40 [(vs d c.length j),vn],row (vs d c.length j) 37 4 (c.flatMap e37)]) ?_ ?_
    ·skip
     let L:Value:=(vs aO B.1.length aP);refine WC.b (Ld (La U (Le 40 (yJ underlying112 U) (La U (WL.nil (Lb (WC.block (WC.nilRow 37 4 (WC.yaO (fun(ae:Nat) (b:Int) (R:Int) (a:List S36) (V:List (zP×z2)) (Y:List (z8×Int)) (o:Option Addr) (p:Nat)=>(y2T B f g aF ae b R a V Y=some r)) (fun ae b R a V Y o p=>[(2,C),(3,(vp ai)),(6,(vp aj)),(10,(vp ay)),(11,(vp ad)),(39,L),(40,(vi (B.1.length:Int))),(41,(vi b))]) (fun ae b R a V Y o p=>[row L 121 2 (B.1.flatMap yE),stb ai 31 A,stb aj 40 [vn,vn],stb ay 119 [G,E,H,I,D,J,K,F,C,(.map (some ak)),(.map (some al)),(vi R)],stb ad 40 [(vs o a.length p),vn],row (vs o a.length p) 37 4 (a.flatMap e37),yn ak (fun x=>Value.agg (y2P x).toArray) (fun x=>Value.agg (yx x).toArray) V,yn al (fun x=>Value.agg (yE x).toArray) (Value.int .i64) Y]) (fun ae b R a V Y o p=>ae) ⟨yy,0,0,([]:List S36),([]:List (zP×z2)),([]:List (z8×Int)),none,0⟩ h (.r8 U U U U U U U U) (.s8 .h5 .h6 .h5 .h2 .h1 .here .h1 .here) ?_)))))))))
     rintro(_|aR) b R a V Y o p h;·cases h
     rw[y2T] at h
     refine WC.b<|Ld<|La U<|WL.nil<|Lb<|WC.b<|WC.cond U (fun az=>?_)<|fun az=>?_
     ·replace h:=yr h az
      refine WC.skip<|Lb<|WC.b<|WC.block<|WC.b ?_
      obtain⟨af,h⟩:=yo h
      refine Ld<|Kg (fun w hw=>Hp.y2c .here hw (by intro hz';have:=af;rw[hz'] at this;omega)) ?_
      rintro⟨aY,rfl⟩
      refine Le 43 (y11 z75 U U af.1 af.2 y3g)<|Le 44 (yX (cs:=(yE<|nth B.1 b)) z5o U U<|y3Q .here<|y2y (enc:=yE) (l:=B.1) (i:=b) (sz:=2) (fun _=>U) af.1 af.2) (Lg 13 (yu (cs:=[(vi 0),(vi 0)]) zl5 U) fun aZ _=>Lk U U (yl zoz U U U .here U U U)<|WL.nil<|Lb<|WC.b ?_)
      obtain⟨u,aS,h⟩:=za h
      obtain⟨aT,h⟩:=yo h
      refine Lx (fun i=>[4,6,8].contains i) [y8a ad 40 [(0,(vs o a.length p))]] U<|Lf 0 45 U (fun _=>ya y4b U U)<|L6 1 46 U (Sin.wk (.cons .h5 .nil)<|.stb (.cons U .nil) .nil) (yc y4c U<|y62 .here<|.head _)<|Lf 2 47 U (fun _=>q_m U)<|Li 3 48 U (yi z5o U (yj .here) U) (Ka (i:=4) (dd:=49) U (by kernel_rfl) U U U (.inl ⟨U,(Sin.wk (.cons .h7 .nil)<|.stb (.cons U .nil) .nil)⟩) (zb call43<|.r2 U U) (.s3 .h4 .h6 .h6) (cc hz (.s3 .h4 .h6 .h6) fun w pz ho=>Calls.mono (yex aS w pz am an ao ap ag aq ar au ah ho)<|fun _ _ h'=>⟨h'.1,trivial,h'.2⟩) fun _=>WD.new (i:=5) (dd:=50) U (by kernel_rfl) U U U (yT (cs:=([u.1]:List S36).flatMap e37) y5z (Lo (l:=[.tmp 49]) (.cons U .nil) [0]) (fun _=>by kernel_rfl) U (by unfold maxLen;omega)) (fun h'=>absurd h' (by decide)) fun a0 _=>WD.old (i:=6) (dd:=51) U (by kernel_rfl) U U U U (fun _=>(Sin.wk (.cons (.there<|.there .h7) .nil)<|.stb (.cons U .nil) .nil)) (y4W (enc:=e37) (l1:=a) (l2:=([u.1]:List S36)) y5z U U (.there<|.there .h7) (fun _=>U) U U (y3q .here) (y5i yfu _) aT) ?_)
      rintro⟨aG,aH⟩ _
      refine Lf 7 52 U (fun _=>ya y4b U U)<|Kc (i:=8) U (by kernel_rfl) U U U (by kernel_rfl) (y4L (ds:=[(vs aG ((a++([u.1]:List S36)).length) aH),vn]) yiX U U U U U (.there<|.there .h7) U U)<|WD.done (by kernel_rfl)<|Lb<|WC.b<|Ld<|La U<|Le 54 (y1d U)<|Le 55 (ya y9u U U)<|Le 56 (yc y3t U<|yh .h3 U)<|La U<|WL.nil<|Lb<|WC.cond U (fun aA=>?_)<|fun aA=>?_
      ·replace h:=yr h aA
       refine WC.b<|Lx (fun i=>[5].contains i) [y8a ay 119 [(11,(vi u.2.1))]] U<|Lf 0 58 U (fun _=>yN (v:=(.agg #[vn,vn])) (Lo (l:=[]) .nil []) (fun _=>by kernel_rfl))<|Lf 1 59 U (fun _=>q_m U)<|Lf 2 60 U (fun _=>y1d U)<|Lf 3 61 U (fun _=>ya y9u U U)<|L6 4 62 U (Sin.wk (.cons .h3 .nil)<|.stb (.cons U .nil) .nil) (yc y3t U<|y62 .here<|.head _)<|WD.forced0 (i:=5) U (by kernel_rfl) U U U (Sin.wk (.cons .h4 .nil)<|.stb (.cons U .nil) .nil) (yl y53 U U U (.there<|.there .h7) U U U)<|Lf 6 7 U (fun _=>q_z U)<|WD.done (by kernel_rfl)<|Lb<|WC.ret<|Lt<|Lj<|Lj<|Lt<|Lj<|WX.nilRow 37 4<|WX.nilRow 53 3 ?_
       obtain rfl:=oJ h
       refine Lh results18 (.agg U y5j U (yj .h2)<|.tmp U .nil)<|fun w hw=>?_
       exact⟨none,0,none,0,y1T U U,trivial,hw.sub (.s2 .h1 .here)⟩
      ·replace h:=ys h aA
       refine WC.skip<|Lq<|Lb<|Ld<|La U<|La U<|WL.nil ?_
       exact WX.round ⟨aR,(i64 (b+1)),u.2.1,(a++([u.1]:List S36)),u.2.2.1,u.2.2.2,aG,aH⟩ h (Nat.lt_succ_self _) (.r8 U U U U U U U U)<|.s8 .h7 .h7 .h7 .h3 .here .here .h1 .h1
     ·replace h:=ys h az
      refine WC.exit<|Lm<|Lm<|Lw ?_
      exact Ln ⟨a,o,p⟩ h (.r4 U U U U)<|.s4 .h1 .h1 .h2 .h2
    ·rintro c d j h
     replace h:=(aQ c).symm.trans h
     refine WC.b ?_
     obtain⟨aI,aU,h⟩:=za h
     refine Ld<|Le 64 (ya y4b U U)<|Le 65 (yc y4c U<|yh .h2 U)<|WL.y5c (dd:=66) U U U (zb call26<|.r2 U U) (.cons .h3 .nil) (cc hz (.cons .h3 .nil) fun w pz ho=>y47 _ _ _ (zh0:=44) (znF:=[]) _ (zgZ:=(fun(y0:S36) (y1:S36)=>yH y0 y1)) _ aU w pz call44 (fun w' hz' y0 y1  r  hr=>yey hr w' hz' ) ho) ?_
     rintro  aV
     refine WL.restb (cs':=[(vs d aI.length j),vn]) .h3 (by rw[aV])<|WL.nil<|Lb<|WC.b ?_
     obtain⟨aW,aX,h⟩:=za h
     refine Ld<|Le 67 (yi y1V U (yj .h2) U)<|La U<|Le 69 (ya y4b U U)<|Le 70 (yc y4c U<|yh .here U)<|WL.y43 (dd:=71) U U U (zb call28<|.r3 U U U) .nil (ccl hz .nil (.cons .h1 .nil) fun w pz ho la=>ydv aX w pz ((am.mono<|Zle.left _ _).weak (fun _ _ h=>y1p (Zle.left _ _) h)) ((an.mono<|Zle.left _ _).weak (fun _ _ h=>y1A (Zle.left _ _) h)) (ao.mono<|Zle.left _ _) (ap.mono<|Zle.left _ _) ((ag.mono<|Zle.left _ _).weak (fun _ _ h=>y1k (Zle.left _ _) h)) (aq.mono<|Zle.left _ _) ((ar.mono<|Zle.left _ _).weak (fun _ _ h=>y1B (Zle.left _ _) h)) (au.mono<|Zle.left _ _) ((ah.mono<|Zle.left _ _).weak (fun _ _ h=>y22 (Zle.left _ _) h))<|ZA.row (la _ (.head _) _) (RR.flat (enc:=e37) (fun _=>U) _) ⟨w,pz.1⟩) ?_
     rintro aJ aK _
     refine Le 72 (ya y6E U U)<|Lk U U (y4L (ds:=[(vs d aI.length j),(vs aJ aW.length aK)]) yiY U U U U U .h1 U U)<|WL.nil<|Lb<|WC.b<|Ld<|Le 73 (yi y5j U (yj .here) U)<|Lk U U (yl y53 U U U .h4 U U U)<|La U<|WL.nil<|Lb<|WC.ret ?_
     obtain rfl:=oJ h
     refine Lh results18 (.agg U y5j U (yj .here)<|.tmp U .nil)<|fun w hw=>?_
     exact⟨d,j,aJ,aK,y1T U U,trivial,hw.sub (.s2 .h3 .h2)⟩
def y32(b:List (Int->Option Int))(c:Int)(d:Int->Option Int):Nat->Int->Int->Option Int
 | 0,_,_=>none
 | f+1,e,a=>if decide (a<(b.length:Int)) then chk ((0:Int)<=a/\a<(b.length:Int)) (((nth b a) c).bind fun g=>y32 b c d f (i64 (e+g)) (i64 (a+1))) else d e
def y8h(a:List (Int->Option Int))(b:Int):Option Int:=
 jp1 (fun(c:Int)=>some c) fun d=>y32 a b d yy 0 0
theorem yez{Z:Zp}{c:List (Int->Option Int)}{r:Int}(h:y8h c k=some r)(w₀:World)(hz:PZ [] w₀ Z)(p:ZS Z 1 (y5X Z) m n c):
  Calls Tryz.prog 55 #[(vs m c.length n),(vi k)] w₀ fun e w'=>e = .returned (vi r)/\Hp [] w₀ w' []:=by
 unfold y8h at h
 refine Lz func55 ntmps55 ?_
 refine WC.b<|Ld<|La U<|WL.nil<|Lb<|WC.b<|Ld<|La U<|WL.nil<|Lb ?_
 obtain⟨j,q,h⟩:=y13 h
 refine WC.y3r (fun(d:Int)=>(j d=some r)) (fun d=>[(5,(vi d))]) (fun d=>[]) ?_ ?_
 ·skip
  refine WC.b<|Ld<|La U<|Le 9 (yJ underlying140 U)<|La U<|WL.nil<|Lb<|WC.block<|WC.yaM (fun(g:Nat) (a:Int) (b:Int)=>(y32 c k j g a b=some r)) (fun g a b=>[(1,(vi k)),(5,(vi a)),(8,(vs m c.length n)),(9,(vi (c.length:Int))),(10,(vi b))]) (fun g a b=>[]) (fun g a b=>g) ⟨yy,0,0⟩ h (.r5 U U U U U) .nil ?_
  rintro(_|s) a b h;·cases h
  rw[y32] at h
  refine WC.b<|Ld<|La U<|WL.nil<|Lb<|WC.b<|WC.cond U (fun i=>?_)<|fun i=>?_
  ·replace h:=yr h i
   refine WC.skip<|Lb<|WC.b<|WC.block<|WC.b ?_
   obtain⟨t,h⟩:=yo h
   refine Ld<|L0 (dd:=12) U U (Z:=Z) (Pr:=(y5X Z)) zl8 U U p t ?_
   rintro B C u D ⟨v,x,rfl,y,z⟩
   refine Le 13 (yc zLU U<|y3x hz.pv u U)<|La U<|WL.nil<|Lb ?_
   obtain⟨o,A,h⟩:=za h
   refine Ld<|La U<|La U<|La U<|Ll 17 (y2M (l:=[.tmp 16]) (f:=v) (caps:=x) y U<|.cons U .nil) .nil (fun w hw=>z w (hz.now hw) k o  A)<|La U<|La U<|WL.nil<|Lq<|Lb<|Ld<|La U<|La U<|WL.nil ?_
   exact WX.round ⟨s,(i64 (a+o)),(i64 (b+1))⟩ h (Nat.lt_succ_self _) (.r5 U U U U U) .nil
  ·replace h:=ys h i
   refine WC.exit<|Lm<|Lm<|Lw ?_
   exact Ln a h (.cons U .nil) .nil
 ·rintro d h
  replace h:=(q d).symm.trans h
  refine WC.b<|Ld<|La U<|La U<|WL.nil<|Lb<|WC.ret ?_
  obtain rfl:=oJ h
  refine Lh results55 (.tmp U .nil)<|fun w hw=>?_
  exact⟨yD U,hw.sub .nil⟩
def y7L:List (Int->Option Int)->Int->Int->Option Int
 | [],_,s=>some s
 | f::l,t,s=>(f t).bind fun x=>y7L l t (i64 (s+x))
theorem yeG(a b:Int):i64 (i64 a+b)=i64 (a+b):=by
 unfold i64 IntKind.wrap
 simp only[IntKind.signed,IntKind.bits]
 simp
 omega
theorem ykm{t:Int}{l l':List (Int->Option Int)}(h:l.Perm l'):∀ {s:Int},y7L l t s=y7L l' t s:=by
 induction h with
 | nil=>intro s;rfl
 | cons f _ ih=>intro s;rw[y7L,y7L];cases f t with
  | none=>rfl
  | some x=>exact ih
 | swap f g l=>
  intro s
  rw[y7L,y7L]
  cases hf:f t with
  | none=>
   cases hg:g t with
   | none=>rfl
   | some y=>simp only[oB,Option.bind_none,y7L,hf]
  | some x=>
   cases hg:g t with
   | none=>simp only[oB,Option.bind_none,y7L,hg]
   | some y=>
    simp only[oB,y7L,hf,hg]
    rw[yeG,yeG,show s+y+x=s+x+y by omega]
 | trans _ _ ih1 ih2=>intro s;exact ih1.trans ih2
theorem yfD{l:List (Int->Option Int)}{t:Int}{k:Int->Option Int}(hl:l.length<=4611686018427387904):∀(n:Nat) (s v:Int),0<=v->v<=l.length->l.length<n+v->y32 l t k n s v=(y7L (l.drop v.toNat) t s).bind k
 | 0,s,v,h0,h1,h2=>by omega
 | n+1,s,v,h0,h1,h2=>by
  rw[y32]
  by_cases h:v<l.length
  ·rw[if_pos (decide_eq_true h),yt ⟨h0,h⟩,List.drop_eq_getElem_cons (show v.toNat<l.length by omega),y7L]
   have e:nth l v=l[v.toNat]'(by omega):=by unfold nth;simp[show v.toNat<l.length by omega]
   rw[e]
   cases (l[v.toNat]'(by omega)) t with
   | none=>rfl
   | some x=>
    rw[oB,oB,yz (x:=v+1) (by omega),yfD hl n _ (v+1) (by omega) (by omega) (by omega),show(v+1).toNat=v.toNat+1 by omega]
  ·rw[if_neg (by simpa using h),List.drop_eq_nil_of_le (by omega)];rfl
theorem ykn{l:List (Int->Option Int)}{t:Int}(hl:l.length<=4611686018427387904):y8h l t=y7L l t 0:=by
 show y32 l t (fun s=>some s) yy 0 0=_
 rw[yfD hl yy 0 0 (by omega) (by omega) (by rw[show yy=18446744073709551616 from U];omega)]
 simp
def y2b(l:List (Int->Option Int))(t:Int):Option Int:=chk (l.length<=4611686018427387904) (y7L l t 0)
theorem y74{Z:Zp}{ao:Option Addr}{cap:Nat}{l:List (Int->Option Int)}{t:Int}{r:Int}(h:y2b l t=some r)(w₀:World)(hz:PZ [] w₀ Z)(hs:ZSB Z (y5X Z) ao cap l):
  Calls Tryz.prog 55 #[(vs ao l.length cap),(vi t)] w₀ fun e w'=>e = .returned (vi r)/\Hp [] w₀ w' []:=by
 obtain⟨l',hp,hs⟩:=hs
 obtain⟨hb,h⟩:=yo h
 rw[<- hp.length_eq] at hb ⊢
 exact yez ((ykn hb).trans ((ykm hp).trans h)) w₀ hz hs
def y4v(zh9:Int)(z9v:Int)(zha:List (Int->Option Int))(znO:List (Int×Int))(z3N:zs):Option Int:=
 if decide (z9v<0) then(y2b zha zh9).bind fun a=>some a else(y2b zha zh9).bind fun b=>chk ((0:Int)<=z9v/\z9v<(z3N.fK.length:Int)) (chk ((((nth z3N.fK z9v).fSlow):Int)≠0) (some (min b (i64 ((yd znO z9v 0)+(i64 (Int.tdiv zh9 ((nth z3N.fK z9v).fSlow))))))))
theorem ybX(Z:Zp)(zAI:Addr)(zAJ:Addr)(zAK:Option Addr)(zAL:Nat)(zAM:Addr)(zAN:Nat)(zAO:Addr)(zAP:Option Addr)(zAQ:Nat)(zAR:Option Addr)(zAS:Nat)(zAT:Option Addr)(zAU:Nat)(zAV:Option Addr)(zAW:Nat)(zAX:Option Addr)(zAY:Nat)(zAZ:Option Addr)(zB0:Nat)(zB1:Option Addr)(zB2:Nat)(zB3:Option Addr)(zB4:Nat)(zh9:Int)(z9v:Int)(zha:List (Int->Option Int))(znO:List (Int×Int))(z3N:zs)(r:Int)(h:y4v zh9 z9v zha znO z3N=some r)(w₀:World)(hz:PZ [] w₀ Z)(hmW:ZA Z (yn zAN (Value.int .i64) (Value.int .i64) znO))(zra:ZC Z zAI [(vi z9v)])(zB5:ZSB Z (y5X Z) zAK zAL zha)(zB6:ZC Z zAJ [(vs zAK zha.length zAL)])(zKm:ZC Z zAM [(.map (some zAN))])(zZ3:ZS Z 4 (y3F Z) zAP zAQ z3N.fM)(zZ4:ZS Z 4 (y4l Z) zAR zAS z3N.fC0)(zZ5:ZS Z 4 (fun r x=>r=e64 x) zAT zAU z3N.fS)(zKn:ZS Z 4 (fun r x=>r=e62 x) zAV zAW z3N.fK)(zZ6:ZS Z 7 (p69 Z) zAX zAY z3N.fVLs)(zZ7:ZS Z 5 (fun r x=>r=y4D x) zAZ zB0 z3N.fH)(zZ8:ZS Z 3 (y4m Z) zB1 zB2 z3N.fU)(zZ9:ZS Z 4 (fun r x=>r=y4E x) zB3 zB4 z3N.fV0)(zKo:ZC Z zAO [(vs zAP z3N.fM.length zAQ),(vs zAR z3N.fC0.length zAS),(vs zAT z3N.fS.length zAU),(vs zAV z3N.fK.length zAW),(vs zAX z3N.fVLs.length zAY),(vs zAZ z3N.fH.length zB0),(vs zB1 z3N.fU.length zB2),(vs zB3 z3N.fV0.length zB4)]):
  Calls Tryz.prog 99 #[(vi zh9),(vq zAI),(vq zAJ),(vq zAM),(vq zAO)] w₀ fun e w'=>e = .returned (vi r)/\Hp [] w₀ w' []:=by
 unfold y4v at h
 refine Calls.on5 func99 ntmps99 ?_
 refine WC.b<|Ld<|La U<|WL.nil<|Lb<|WC.b<|WC.b<|Ld<|Le 7 (yc yq U<|y3x hz.pv zra U)<|La U<|WL.nil<|Lb<|WC.cond U (fun a=>?_)<|fun a=>?_
 ·replace h:=yr h a
  refine WC.b ?_
  obtain⟨o,b,h⟩:=za h
  refine Ld<|Le 9 (yc zDl U<|y3x hz.pv zB6 U)<|La U<|Ll 11 (zb call55<|.r2 U U) .nil (cc hz .nil fun w pz ho=>y74 b w pz zB5)<|La U<|WL.nil<|Lb<|WC.ret<|Lj ?_
  obtain rfl:=oJ h
  refine Lh results99 (.tmp U .nil)<|fun w hw=>?_
  exact⟨yD U,hw.sub .nil⟩
 ·replace h:=ys h a
  refine WC.skip<|Lb<|WC.b ?_
  obtain⟨p,c,h⟩:=za h
  obtain⟨d,h⟩:=yo h
  obtain⟨f,h⟩:=yo h
  refine Lx (fun i=>[].contains i) [] U<|Li 0 12 U (yc zDl U<|y3x hz.pv zB6 U)<|Lf 1 13 U (fun _=>q_m U)<|L4 2 14 U (zb call55<|.r2 U U) (cc hz .nil fun w pz ho=>y74 c w pz zB5)<|Li 3 15 U (yc zsF U<|y3x hz.pv zKm U)<|Li 4 16 U (yc yq U<|y3x hz.pv zra U)<|Li 5 17 U (ykg (k:=z9v) (dflt:=(0:Int)) y3V underlying148 y2K U U U hz.pv hmW)<|Lf 6 18 U (fun _=>q_m U)<|Lf 7 19 U (fun _=>ya y7S U U)<|Li 8 20 U (yc y7T U<|y1b hz.pv zKo U)<|Li 9 21 U (yc yq U<|y3x hz.pv zra U)<|L7 (j:=10) (dd:=22) (by kernel_rfl) U z2k z2l U U (Z:=Z) (Pr:=(fun r x=>r=e62 x)) yaR U U zKn d ?_
  rintro l m g n rfl
  refine Lf 11 23 U (fun _=>ya y9s U U)<|Li 12 24 U (yc yq U<|y1b hz.pv g U)<|Lf 13 25 U (fun _=>ydV U U f U)<|Lf 14 26 U (fun _=>y9H U U U)<|Lf 15 27 U (fun _=>q_min U U U)<|Lf 16 6 U (fun _=>q_z U)<|WD.done (by kernel_rfl)<|Lb<|WC.ret ?_
  obtain rfl:=oJ h
  refine Lh results99 (.tmp U .nil)<|fun w hw=>?_
  exact⟨yD U,hw.sub .nil⟩
def y4w(a:ze)(b:z8):Option Bool:=
 some (decide ((⟨a.fNode,a.fQ⟩:z8)=b))
theorem ybY{Z:Zp}{r:Bool}(h:y4w i x=some r)(w₀:World)(hz:PZ [] w₀ Z)(c:ZC Z A [(vi x.fNode),(vi x.fQ)]):
  Calls Tryz.prog 95 #[(.agg #[(vi i.fNode),(vi i.fNext),(vi i.fQ)]),(vq A)] w₀ fun e w'=>e = .returned (.bool r)/\Hp [] w₀ w' []:=by
 unfold y4w at h
 refine Lz func95 ntmps95 ?_
 refine WC.b<|Ld (Lg 2 (yI (cs:=[(vi i.fNode),(vi i.fNext),(vi i.fQ)]) U U) fun d _=>La U<|WL.nil<|Lb<|WC.b<|Ld<|Le 4 (ya y4a U U)<|Le 5 (yc yq U<|yh .here U)<|Le 6 (ya y8H U U)<|Le 7 (yc yq U<|yh .here U)<|Le 8 (yN (v:=(.agg #[(vi i.fNode),(vi i.fQ)])) (Lo (l:=[.tmp 5,.tmp 7]) (.r2 U U) [0,1]) (fun _=>by kernel_rfl))<|Le 9 (yi ye3 U (y2j hz.pv c) U)<|Le 10 (y9l (enc:=e94) (a:=(⟨i.fNode,i.fQ⟩:z8)) (b:=x) eqT_94 U U)<|La U<|WL.nil<|Lb<|WC.ret ?_)
 obtain rfl:=oJ h
 refine Lh results95 (.tmp U .nil)<|fun w hw=>?_
 exact⟨yD U,hw.sub .nil⟩
def y4x(a:zs)(b:Int):Option Int:=
 if decide ((i64 (b-(a.fM.length:Int)))>=0) then chk ((0:Int)<=(i64 (b-(a.fM.length:Int)))/\(i64 (b-(a.fM.length:Int)))<(a.fS.length:Int)) (some ((nth a.fS (i64 (b-(a.fM.length:Int)))).fDelay)) else some 0
theorem ya4{Z:Zp}{r:Int}(h:y4x f k=some r)(w₀:World)(hz:PZ [] w₀ Z)(g:ZS Z 4 (y3F Z) m n f.fM)(i:ZS Z 4 (y4l Z) q s f.fC0)(b:ZS Z 4 (fun r x=>r=e64 x) t y f.fS)(j:ZS Z 4 (fun r x=>r=e62 x) z M f.fK)(l:ZS Z 7 (p69 Z) N O f.fVLs)(o:ZS Z 5 (fun r x=>r=y4D x) P Q f.fH)(p:ZS Z 3 (y4m Z) S T f.fU)(u:ZS Z 4 (fun r x=>r=y4E x) W X f.fV0):
  Calls Tryz.prog 54 #[(.agg #[(vs m f.fM.length n),(vs q f.fC0.length s),(vs t f.fS.length y),(vs z f.fK.length M),(vs N f.fVLs.length O),(vs P f.fH.length Q),(vs S f.fU.length T),(vs W f.fV0.length X)]),(vi k)] w₀ fun e w'=>e = .returned (vi r)/\Hp [] w₀ w' []:=by
 unfold y4x at h
 refine Lz func54 ntmps54 ?_
 refine WC.b<|Ld (Lg 2 (yI (cs:=[(vs m f.fM.length n),(vs q f.fC0.length s),(vs t f.fS.length y),(vs z f.fK.length M),(vs N f.fVLs.length O),(vs P f.fH.length Q),(vs S f.fU.length T),(vs W f.fV0.length X)]) U U) fun v _=>La U<|WL.nil<|Lb<|WC.b<|WC.b<|Ld<|La U<|Le 7 (ya y7e U U)<|Le 8 (yc y7f U<|yh .here U)<|Le 9 (yJ underlying22 U)<|La U<|La U<|WL.nil<|Lb<|WC.b<|Ld<|La U<|La U<|WL.nil<|Lb<|WC.cond U (fun a=>?_)<|fun a=>?_)
 ·replace h:=yr h a
  refine WC.b ?_
  obtain⟨c,h⟩:=yo h
  refine Ld<|Le 13 (ya yaG U U)<|Le 14 (yc yaH U<|yh .here U)<|La U<|L0 (dd:=16) U U (Z:=Z) (Pr:=(fun r x=>r=e64 x)) ydo U U b c ?_
  rintro A B d C rfl
  refine Le 17 (ya ye1 U U)<|Le 18 (yc yq U<|y1b hz.pv d U)<|La U<|WL.nil<|Lb<|WC.ret<|Lj ?_
  obtain rfl:=oJ h
  refine Lh results54 (.tmp U .nil)<|fun w hw=>?_
  exact⟨yD U,hw.sub .nil⟩
 ·replace h:=ys h a
  refine WC.skip<|Lb<|WC.b<|Ld<|La U<|WL.nil<|Lb<|WC.ret ?_
  obtain rfl:=oJ h
  refine Lh results54 (.tmp U .nil)<|fun w hw=>?_
  exact⟨yD U,hw.sub .nil⟩
def y36(b:List ze)(d:zs)(f:List (z8×Int))(g:(List Int)->Option (List Int)):Nat->(List Int)->Int->(List (Int×Int))->Option (List Int)
 | 0,_,_,_=>none
 | h+1,e,a,c=>if decide (a<(b.length:Int)) then chk ((0:Int)<=a/\a<(b.length:Int)) (chk ((((e++([(yd c ((nth b a).fNode) 0)]:List Int)).length:Nat):Int)*8<=140737488355328/\(((e++([(yd c ((nth b a).fNode) 0)]:List Int)).length:Nat):Int)<=4611686018427387904) ((y4x d ((nth b a).fNode)).bind fun i=>chk ((0:Int)<=((nth b a).fQ)/\((nth b a).fQ)<(d.fK.length:Int)) (y36 b d f g h (e++([(yd c ((nth b a).fNode) 0)]:List Int)) (i64 (a+1)) (yC c ((nth b a).fNext) (i64 ((i64 ((i64 ((yd c ((nth b a).fNode) 0)+(yd f (⟨((nth b a).fNode),((nth b a).fQ)⟩:z8) 0)))-i))-((nth d.fK ((nth b a).fQ)).fSlow))))))) else g e
def y4y(a:zs)(b:List ze)(c:List (z8×Int)):Option (List Int):=
 jp1 (fun(d:List Int)=>some d) fun e=>y36 b a c e yy ([]:List Int) 0 ([]:List (Int×Int))
theorem y5g{Z:Zp}{b:List ze}{g:List (z8×Int)}{r:List Int}(h:y4y f b g=some r)(w₀:World)(hz:PZ (fps [yn Y (fun x=>Value.agg (e94 x).toArray) (Value.int .i64) g]) w₀ Z)(R:ZS Z 4 (y3F Z) m n f.fM)(V:ZS Z 4 (y4l Z) q s f.fC0)(ad:ZS Z 4 (fun r x=>r=e64 x) t y f.fS)(G:ZS Z 4 (fun r x=>r=e62 x) z M f.fK)(ae:ZS Z 7 (p69 Z) N O f.fVLs)(af:ZS Z 5 (fun r x=>r=y4D x) P Q f.fH)(ag:ZS Z 3 (y4m Z) S T f.fU)(ah:ZS Z 4 (fun r x=>r=y4E x) W X f.fV0)(ai:ZS Z 3 (fun r x=>r=e60 x) aa ab b)(hown:Hp (fps [yn Y (fun x=>Value.agg (e94 x).toArray) (Value.int .i64) g]) w₀ w₀ [yn Y (fun x=>Value.agg (e94 x).toArray) (Value.int .i64) g]):
  Calls Tryz.prog 37 #[(.agg #[(vs m f.fM.length n),(vs q f.fC0.length s),(vs t f.fS.length y),(vs z f.fK.length M),(vs N f.fVLs.length O),(vs P f.fH.length Q),(vs S f.fU.length T),(vs W f.fV0.length X)]),(vs aa b.length ab),(.map (some Y))] w₀ fun e w'=>∃ H:Option Addr,∃ I:Nat,e = .returned (vs H r.length I)/\True/\Hp (fps [yn Y (fun x=>Value.agg (e94 x).toArray) (Value.int .i64) g]) w₀ w' [row (vs H r.length I) 3 1 (r.flatMap e3),yn Y (fun x=>Value.agg (e94 x).toArray) (Value.int .i64) g]:=by
 unfold y4y at h
 refine Calls.oh3 func37 ntmps37 hown ?_
 let A:List Value:=[(vs m f.fM.length n),(vs q f.fC0.length s),(vs t f.fS.length y),(vs z f.fK.length M),(vs N f.fVLs.length O),(vs P f.fH.length Q),(vs S f.fU.length T),(vs W f.fV0.length X)];refine WC.b (Ld (Lg 3 (yI (cs:=A) U U) ?_))
 intro J _
 refine La U<|WL.nil<|Lb<|WC.b<|Ld (Lg 11 (y3n (Value.int .i64)<|Value.int .i64) fun K _=>La U<|WL.nil<|Lb<|WC.b<|Ld<|La U<|WL.nil<|Lb ?_)
 obtain⟨L,aj,h⟩:=y13 h
 refine Kb (fun(o:List Int) (B:Option Addr) (D:Nat)=>(L o=some r)) (fun o B D=>[(8,(vs B o.length D))]) (fun o B D=>[row (vs B o.length D) 3 1 (o.flatMap e3),yn Y (fun x=>Value.agg (e94 x).toArray) (Value.int .i64) g]) ?_ ?_
 ·skip
  refine WC.b<|Ld<|La U<|Le 13 (yJ underlying58 U)<|La U<|WL.nil<|Lb<|WC.block<|WC.nilRow 3 1<|WC.yaN (fun(E:Nat) (c:List Int) (a:Int) (d:List (Int×Int)) (p:Option Addr) (u:Nat)=>(y36 b f g L E c a d=some r)) (fun E c a d p u=>[(2,(.map<|some Y)),(3,(vp J)),(7,(.map<|some K)),(8,(vs p c.length u)),(12,(vs aa b.length ab)),(13,(vi (b.length:Int))),(14,(vi a))]) (fun E c a d p u=>[row (vs p c.length u) 3 1 (c.flatMap e3),yn Y (fun x=>Value.agg (e94 x).toArray) (Value.int .i64) g,stb J 31 A,yn K (Value.int .i64) (Value.int .i64) d]) (fun E c a d p u=>E) ⟨yy,([]:List Int),0,([]:List (Int×Int)),none,0⟩ h (.r7 U U U U U U U) (.s4 .here .h2 .h1 .here) ?_
  rintro(_|ak) c a d p u h;·cases h
  rw[y36] at h
  refine WC.b<|Ld<|La U<|WL.nil<|Lb<|WC.b<|WC.cond U (fun F=>?_)<|fun F=>?_
  ·replace h:=yr h F
   refine WC.skip<|Lb<|WC.b<|WC.block<|WC.b ?_
   obtain⟨al,h⟩:=yo h
   refine Ld<|L0 (dd:=16) U U (Z:=Z) (Pr:=(fun r x=>r=e60 x)) y69 U U ai al ?_
   rintro aw ax am ay rfl
   refine Le 17 (yi y49 U (y2j hz.pv am) U) (Lg 10 (yu (cs:=[(vi 0),(vi 0),(vi 0)]) y6Y U) fun az _=>Lk U U (yl y7h U U U .here U U U)<|WL.nil<|Lb<|WC.b ?_)
   obtain⟨an,h⟩:=yo h
   refine Ld<|La U<|La U<|Le 20 (ya y4a U U)<|Le 21 (yc yq U<|yh .here U)<|Le 22 (y2V (k:=((nth b a).fNode)) (dflt:=(0:Int)) y3V underlying148 y2K U U U .h4) (Lg 23 (yT (cs:=([(yd d ((nth b a).fNode) 0)]:List Int).flatMap e3) y6a (Lo (l:=[.tmp 22]) (.cons U .nil) [0]) (fun _=>by kernel_rfl) U (by unfold maxLen;omega)) fun aA _=>WL.fA 24 (y4W (enc:=e3) (l1:=c) (l2:=([(yd d ((nth b a).fNode) 0)]:List Int)) y6a U U .h2 (fun _=>U) U U (y3q .here) (y5i e3_oc _) an) ?_)
   rintro⟨ao,ap⟩ _
   refine La U<|WL.nil<|Lb ?_
   obtain⟨aq,ar,h⟩:=za h
   obtain⟨au,h⟩:=yo h
   refine Lx (fun i=>[28].contains i) [] U<|Lf 0 25 U (fun _=>q_m U)<|Lf 1 26 U (fun _=>ya y5I U U)<|Li 2 27 U (yc yq U<|yh .h2 U)<|Lf 3 28 U (fun _=>q_m U)<|Lf 4 29 U (fun _=>ya y4a U U)<|Li 5 30 U (yc yq U<|yh .h2 U)<|Li 6 31 U (y2V (k:=((nth b a).fNode)) (dflt:=(0:Int)) y3V underlying148 y2K U U U .h5)<|Lf 7 32 U (fun _=>q_m U)<|Lf 8 33 U (fun _=>ya y4a U U)<|Li 9 34 U (yc yq U<|yh .h2 U)<|Lf 10 35 U (fun _=>ya y8H U U)<|Li 11 36 U (yc yq U<|yh .h2 U)<|Lf 12 37 U (fun _=>yN (v:=(.agg #[(vi<|(nth b a).fNode),(vi<|(nth b a).fQ)])) (Lo (l:=[.tmp 34,.tmp 36]) (.r2 U U) [0,1]) (fun _=>by kernel_rfl))<|Li 13 38 U (y2V (k:=(⟨((nth b a).fNode),((nth b a).fQ)⟩:z8)) (dflt:=(0:Int)) ygf underlying92 y2K U U U .h3)<|Lf 14 39 U (fun _=>y9H U U U)<|Li 15 40 U (yi y1V U (yj .h4) U)<|Lf 16 41 U (fun _=>ya y4a U U)<|Li 17 42 U (yc yq U<|yh .h2 U)<|L4 18 43 U (zb call54<|.r2 U U) (cc hz .nil fun w pz ho=>ya4 ar w pz R V ad G ae af ag ah)<|Lf 19 44 U (fun _=>y9I U U U)<|Lf 20 45 U (fun _=>ya y7S U U)<|Li 21 46 U (yc y7T U<|yh .h4 U)<|Lf 22 47 U (fun _=>ya y8H U U)<|Li 23 48 U (yc yq U<|yh .h2 U)<|L7 (j:=24) (dd:=49) (by kernel_rfl) U z2k z2l U U (Z:=Z) (Pr:=(fun r x=>r=e62 x)) yaR U U G au ?_
   rintro aB aC av aD rfl
   let C:=(i64 ((i64 ((yd d ((nth b a).fNode) 0)+(yd g (⟨((nth b a).fNode),((nth b a).fQ)⟩:z8) 0)))-aq));refine Lf 25 50 U (fun _=>ya y9s U U) (Li 26 51 U (yc yq U (y1b hz.pv av U)) (Lf 27 52 U (fun _=>y9I U U U) (Kc (i:=28) U (by kernel_rfl) U U U (by kernel_rfl) (y3P (k:=((nth b a).fNext)) (v:=i64 (C-((nth f.fK ((nth b a).fQ)).fSlow))) y3V underlying148 U U U U .h5) (WD.done (by kernel_rfl) (Lq (Lb (Ld (La U (La U (WL.nil ?_))))))))))
   exact WX.round ⟨ak,(c++([(yd d ((nth b a).fNode) 0)]:List Int)),(i64 (a+1)),(yC d ((nth b a).fNext)<|i64 (C-((nth f.fK<|(nth b a).fQ).fSlow))),ao,ap⟩ h (Nat.lt_succ_self _) (.r7 U U U U U U U)<|.s4 .h1 .h3 .h3 .here
  ·replace h:=ys h F
   refine WC.exit<|Lm<|Lm<|Lw ?_
   exact Ln ⟨c,p,u⟩ h (.cons U .nil)<|.a2
 ·rintro o B D h
  replace h:=(aj o).symm.trans h
  refine WC.b<|Ld<|La U<|La U<|WL.nil<|Lb<|WC.ret ?_
  obtain rfl:=oJ h
  refine Lh results37 (.tmp U .nil)<|fun w hw=>?_
  exact⟨B,D,yD U,trivial,hw.sub (.a2)⟩
def y4z(a:ze)(b:z8):Option Bool:=
 some (decide (a.fNext=b.fNode))
theorem ybZ{Z:Zp}{r:Bool}(h:y4z i x=some r)(w₀:World)(hz:PZ [] w₀ Z)(a:ZC Z A [(vi x.fNode),(vi x.fQ)]):
  Calls Tryz.prog 96 #[(.agg #[(vi i.fNode),(vi i.fNext),(vi i.fQ)]),(vq A)] w₀ fun e w'=>e = .returned (.bool r)/\Hp [] w₀ w' []:=by
 unfold y4z at h
 refine Lz func96 ntmps96 ?_
 refine WC.b<|Ld (Lg 2 (yI (cs:=[(vi i.fNode),(vi i.fNext),(vi i.fQ)]) U U) fun b _=>La U<|WL.nil<|Lb<|WC.b<|Ld<|Le 4 (ya y5I U U)<|Le 5 (yc yq U<|yh .here U)<|Le 6 (ya ygg U U)<|Le 7 (yc yq U<|y1b hz.pv a U)<|La U<|La U<|WL.nil<|Lb<|WC.ret ?_)
 obtain rfl:=oJ h
 refine Lh results96 (.tmp U .nil)<|fun w hw=>?_
 exact⟨yD U,hw.sub .nil⟩
def y75(a:z16)(b:Int)(c:Int):Option Int:=
 chk ((a.fBag:Int)≠0) (some (i64 (a.fMax*(i64 ((i64 (Int.tdiv (i64 (c+b)) a.fBag))+1)))))
theorem yf1{Z:Zp}{r:Int}(h:y75 j k l=some r)(w₀:World)(hz:PZ [] w₀ Z)(b:ZS Z 3 (fun r x=>r=e66 x) m n j.fTo):
  Calls Tryz.prog 98 #[(.agg #[(.string j.fName),(.string j.fFrom.fModule),(.string j.fFrom.fPart),(.string j.fFrom.fPort),(vi j.fBag),(vi j.fMax),(vs m j.fTo.length n)]),(vi k),(vi l)] w₀ fun e w'=>e = .returned (vi r)/\Hp [] w₀ w' []:=by
 unfold y75 at h
 refine Kd func98 ntmps98 ?_
 refine WC.b<|Ld (Lg 3 (yI (cs:=[(.string j.fName),(.string j.fFrom.fModule),(.string j.fFrom.fPart),(.string j.fFrom.fPort),(vi j.fBag),(vi j.fMax),(vs m j.fTo.length n)]) U U) fun c _=>La U<|WL.nil<|Lb<|WC.b ?_)
 obtain⟨a,h⟩:=yo h
 refine Lx (fun i=>[].contains i) [] U<|Lf 0 7 U (fun _=>ya y7W U U)<|Li 1 8 U (yc yq U<|yh .here U)<|Lf 2 9 U (fun _=>q_m U)<|Lf 3 10 U (fun _=>q_m U)<|Lf 4 11 U (fun _=>y9H U U U)<|Lf 5 12 U (fun _=>ya ygd U U)<|Li 6 13 U (yc yq U<|yh .here U)<|Lf 7 14 U (fun _=>ydV U U a U)<|Lf 8 15 U (fun _=>y9H U U U)<|Lf 9 16 U (fun _=>y7p U U U)<|Lf 10 6 U (fun _=>q_z U)<|WD.done (by kernel_rfl)<|Lb<|WC.ret ?_
 obtain rfl:=oJ h
 refine Lh results98 (.tmp U .nil)<|fun w hw=>?_
 exact⟨yD U,hw.sub .nil⟩
def y1h(a:Int)(b:z16)(c:Int):Option Int:=
 (y75 b c a).bind fun d=>some d
theorem yc0{Z:Zp}{a:Addr}{r:Int}(h:y1h k j l=some r)(w₀:World)(hz:PZ [] w₀ Z)(b:ZS Z 3 (fun r x=>r=e66 x) m n j.fTo)(c:ZC Z A [(.string j.fName),(.string j.fFrom.fModule),(.string j.fFrom.fPart),(.string j.fFrom.fPort),(vi j.fBag),(vi j.fMax),(vs m j.fTo.length n)])(d:ZC Z a [(vi l)]):
  Calls Tryz.prog 97 #[(vi k),(vq A),(vq a)] w₀ fun e w'=>e = .returned (vi r)/\Hp [] w₀ w' []:=by
 unfold y1h at h
 refine Kd func97 ntmps97 ?_
 refine WC.b<|Ld<|La U<|WL.nil<|Lb<|WC.b ?_
 obtain⟨g,f,h⟩:=za h
 refine Ld<|Le 5 (yi yge U (y2j hz.pv c) U)<|Le 6 (yc yq U<|y3x hz.pv d U)<|La U<|Ll 8 (zb call98<|.r3 U U U) .nil (cc hz .nil fun w pz ho=>yf1 f w pz b)<|La U<|WL.nil<|Lb<|WC.ret ?_
 obtain rfl:=oJ h
 refine Lh results97 (.tmp U .nil)<|fun w hw=>?_
 exact⟨yD U,hw.sub .nil⟩
end Go.Proofs.YthjnhebofpebpaaGreat
