/- A part of this claim's proof: models of functions, walks, plain laws. No conditions. -/
import Derived.Test.YthjnhebofpebpaaGreatW36e
set_option linter.all false
namespace Go.Proofs.YthjnhebofpebpaaGreat
open Go Go.RowKit Sep
set_option maxRecDepth 30000
set_option maxHeartbeats 4000000
def y2g(z5k:List zn)(zkT:zn→zn→Option Int):Option (List zn):=
 (y4p (u64 ((z5k.length:Nat):Int))).bind fun zs1=>(y4M z5k 0 ((z5k.length:Nat):Int) zs1 zkT).bind fun zs2=>some zs2
theorem y8i(Z:Zp)(zfq:Option Addr)(zfr:Nat)(zkU:FuncId)(zs3:List Value)(z5k:List zn)(zkT:zn→zn→Option Int)(r:List zn)(h:y2g z5k zkT=some r)(w₀:World)(hz:PZ (fps [row (.slice zfq z5k.length zfr) 53 3 (z5k.flatMap e53)]) w₀ Z)(zZe:∀ args w,(callFunc zkU args).run Tryz.prog w = .ok (.enter zkU args) w)(zZf:∀ w:World,PZ [] w Z→∀(x0:zn) (x1:zn) (r:Int),zkT x0 x1=some r→Calls Tryz.prog zkU (([(.agg #[(vi x0.fVL),(vi x0.fNode),(vi x0.fDelay)]),(.agg #[(vi x1.fVL),(vi x1.fNode),(vi x1.fDelay)])]:List Value)++zs3).toArray w fun e w'=>e = .returned (vi r)∧Hp [] w w' [])(hown:Hp (fps [row (.slice zfq z5k.length zfr) 53 3 (z5k.flatMap e53)]) w₀ w₀ [row (.slice zfq z5k.length zfr) 53 3 (z5k.flatMap e53)]):
  Calls Tryz.prog 61 #[(.slice zfq z5k.length zfr),(.func (.func zkU) #[] (zs3).toArray)] w₀ fun e w'=>e = .returned (.tuple #[])∧(r.length=z5k.length)∧Hp (fps [row (.slice zfq z5k.length zfr) 53 3 (z5k.flatMap e53)]) w₀ w' [row (.slice zfq r.length zfr) 53 3 (r.flatMap e53)]:=by
 unfold y2g at h
 refine Kh Tryz.func61 Tryz.ntmps61 hown ?_
 refine WC.b<|Ld<|La U<|Le 6 (yI Tryz.underlying38 U)<|La U<|WL.nil<|Lb ?_
 obtain⟨zs1,zZg,h⟩:=za h
 obtain⟨zs2,zZh,h⟩:=za h
 refine Ld<|La U<|La U<|La U<|Le 10 (y7t Tryz.underlying3 Tryz.underlying147 U U)<|Ll 11 (zb Tryz.call57<|.cons U .nil) .nil (cc hz .nil fun w pz ho=>y8P (Z:=_)  (z8E:=(u64 ((z5k.length:Nat):Int))) (r:=zs1) w pz  zZg)<|La U<|WL.y5j (dd:=13) U U U (zb Tryz.call110<|.r5 U U U U U) (.cons .here .nil) (cc hz (.cons .here .nil) fun w pz ho=>y8F (Z:=_) (zhL:=zfq) (zhM:=zfr) (zoL:=zkU) (zB4:=zs3) (z62:=z5k) (zoJ:=0) (zoK:=((z5k.length:Nat):Int)) (zkS:=zs1) (zhK:=zkT) (r:=zs2) w pz zZe zZf zZh ho) ?_
 rintro  zKR
 refine Ki (i:=0) U (u:=(.slice zfq zs2.length zfr)) (y8n zKR.symm)<|WL.nil ?_
 obtain rfl:=oJ h
 refine WX.y5f Tryz.results61 .nil<|fun w hw=>?_
 exact⟨y7v,(zKR.trans U),hw.sub (.cons .here .nil)⟩
def y4W(z38:List S36)(zd7:(List (z8×Int))→Option (List zn)):Nat→Int→(List (z8×Int))→Option (List zn)
 | 0,_,_=>none
 | zB5+1,z3a,z8r=>if decide (z3a≥0) then chk ((0:Int)≤z3a∧z3a<((z38.length:Nat):Int)) (y4W z38 zd7 zB5 (i64 (z3a-1)) (yF z8r (⟨((nth z38 z3a).fNode),((nth z38 z3a).fQ)⟩:z8) ((nth z38 z3a).fDelay))) else zd7 z8r
theorem ybT{n:Nat}{z38:List S36}{zd7:(List (z8×Int))→Option (List zn)}{z3a:Int}{z8r:List (z8×Int)}{r:List zn}(h:y4W z38 zd7 n z3a z8r=some r):∃ m,n=m+1:=by
 cases n with
 | zero=>cases h
 | succ m=>exact⟨m,rfl⟩
def y4X(zl:List (List zd))(zj:Int)(zr:zp)(z1S:List (z8×Int))(zd8:(List zn)→Option (List zn)):Nat→(List zn)→Int→(List (Int×Int))→Option (List zn)
 | 0,_,_,_=>none
 | zB6+1,z3C,zx,z16=>if decide (zx<(((nth zl zj).length:Nat):Int)) then jp2 (fun(z9R:List zn) (zd9:List (Int×Int))=>y4X zl zj zr z1S zd8 zB6 z9R (i64 (zx+1)) zd9) fun zoM=>chk ((0:Int)≤zx∧zx<(((nth zl zj).length:Nat):Int)) (chk ((y31 z16 ((nth (nth zl zj) zx).fNext))=false→((0:Int)≤0∧0<(((nth zl zj).length:Nat):Int))) (if (y31 z16 ((nth (nth zl zj) zx).fNext))||(decide (((nth (nth zl zj) zx).fNext)=((nth (nth zl zj) 0).fNode))) then zoM z3C z16 else(y4Q (⟨((nth (nth zl zj) zx).fNode),((nth (nth zl zj) zx).fNext),((nth (nth zl zj) zx).fQ)⟩:zd)).bind fun z7S=>if (decide (((nth (nth zl zj) zx).fNext)≥0))&&(decide (((nth (nth zl zj) zx).fNext)<((zr.fM.length:Nat):Int))) then chk ((((z3C++([(⟨zj,((nth (nth zl zj) zx).fNext),(yg (yF z16 ((nth (nth zl zj) zx).fNext) (i64 ((yg z16 ((nth (nth zl zj) zx).fNode) 0)+(yg z1S z7S 0)))) ((nth (nth zl zj) zx).fNext) 0)⟩:zn)]:List zn)).length:Nat):Int)*24≤140737488355328∧(((z3C++([(⟨zj,((nth (nth zl zj) zx).fNext),(yg (yF z16 ((nth (nth zl zj) zx).fNext) (i64 ((yg z16 ((nth (nth zl zj) zx).fNode) 0)+(yg z1S z7S 0)))) ((nth (nth zl zj) zx).fNext) 0)⟩:zn)]:List zn)).length:Nat):Int)≤4611686018427387904) (zoM (z3C++([(⟨zj,((nth (nth zl zj) zx).fNext),(yg (yF z16 ((nth (nth zl zj) zx).fNext) (i64 ((yg z16 ((nth (nth zl zj) zx).fNode) 0)+(yg z1S z7S 0)))) ((nth (nth zl zj) zx).fNext) 0)⟩:zn)]:List zn)) (yF z16 ((nth (nth zl zj) zx).fNext) (i64 ((yg z16 ((nth (nth zl zj) zx).fNode) 0)+(yg z1S z7S 0))))) else zoM z3C (yF z16 ((nth (nth zl zj) zx).fNext) (i64 ((yg z16 ((nth (nth zl zj) zx).fNode) 0)+(yg z1S z7S 0)))))) else zd8 z3C
theorem ybU{n:Nat}{zl:List (List zd)}{zj:Int}{zr:zp}{z1S:List (z8×Int)}{zd8:(List zn)→Option (List zn)}{z3C:List zn}{zx:Int}{z16:List (Int×Int)}{r:List zn}(h:y4X zl zj zr z1S zd8 n z3C zx z16=some r):∃ m,n=m+1:=by
 cases n with
 | zero=>cases h
 | succ m=>exact⟨m,rfl⟩
def y4Y(zl:List (List zd))(zr:zp)(z1S:List (z8×Int))(zda:(List zn)→Option (List zn)):Nat→(List zn)→Int→Option (List zn)
 | 0,_,_=>none
 | zB7+1,z2t,zj=>if decide (zj<((zl.length:Nat):Int)) then jp1 (fun(z9S:List zn)=>y4Y zl zr z1S zda zB7 z9S (i64 (zj+1))) fun zB8=>chk ((0:Int)≤zj∧zj<((zl.length:Nat):Int)) (jp1 (fun(zaN:List zn)=>(y2g zaN (fun(y0:zn) (y1:zn)=>y39 y0 y1)).bind fun zhN=>chk ((((z2t++zhN).length:Nat):Int)*24≤140737488355328∧(((z2t++zhN).length:Nat):Int)≤4611686018427387904) (zB8 (z2t++zhN))) fun zd8=>y4X zl zj zr z1S zd8 yx ([]:List zn) 0 ([]:List (Int×Int))) else zda z2t
theorem ybV{n:Nat}{zl:List (List zd)}{zr:zp}{z1S:List (z8×Int)}{zda:(List zn)→Option (List zn)}{z2t:List zn}{zj:Int}{r:List zn}(h:y4Y zl zr z1S zda n z2t zj=some r):∃ m,n=m+1:=by
 cases n with
 | zero=>cases h
 | succ m=>exact⟨m,rfl⟩
def y6E(zr:zp)(zl:List (List zd))(z38:List S36):Option (List zn):=
 (y16 zl (fun(y0:List zd)=>y4D y0)).bind fun zKS=>if zKS then some ([]:List zn) else jp1 (fun(z1S:List (z8×Int))=>jp1 (fun(zaO:List zn)=>some zaO) fun zda=>y4Y zl zr z1S zda yx ([]:List zn) 0) fun zd7=>y4W z38 zd7 yx (i64 (((z38.length:Nat):Int)-1)) ([]:List (z8×Int))
theorem ycS{Z:Zp}{zaP:Option Addr}{zaQ:Nat}{zaR:Option Addr}{zaS:Nat}{zaT:Option Addr}{zaU:Nat}{zaV:Option Addr}{zaW:Nat}{zaX:Option Addr}{zaY:Nat}{zaZ:Option Addr}{zb0:Nat}{zb1:Option Addr}{zb2:Nat}{zb3:Option Addr}{zb4:Nat}{zb5:Option Addr}{zb6:Nat}{zB9:Option Addr}{zBa:Nat}{zr:zp}{zl:List (List zd)}{z38:List S36}{r:List zn}(h:y6E zr zl z38=some r)(w₀:World)(hz:PZ [] w₀ Z)(z19v:ZS Z 4 (y3y Z) zaP zaQ zr.fM)(z19w:ZS Z 4 (y4k Z) zaR zaS zr.fC0)(z19x:ZS Z 4 (fun r x=>r=e64 x) zaT zaU zr.fS)(z19y:ZS Z 4 (fun r x=>r=e62 x) zaV zaW zr.fK)(z19z:ZS Z 7 (p69 Z) zaX zaY zr.fVLs)(z19A:ZS Z 5 (fun r x=>r=y4t x) zaZ zb0 zr.fH)(z19B:ZS Z 3 (y4l Z) zb1 zb2 zr.fU)(z19C:ZS Z 4 (fun r x=>r=y4u x) zb3 zb4 zr.fV0)(zKT:ZS Z 1 (p58 Z) zb5 zb6 zl)(zBb:ZS Z 4 (fun r x=>r=e37 x) zB9 zBa z38):
  Calls Tryz.prog 28 #[(.agg #[(.slice zaP zr.fM.length zaQ),(.slice zaR zr.fC0.length zaS),(.slice zaT zr.fS.length zaU),(.slice zaV zr.fK.length zaW),(.slice zaX zr.fVLs.length zaY),(.slice zaZ zr.fH.length zb0),(.slice zb1 zr.fU.length zb2),(.slice zb3 zr.fV0.length zb4)]),(.slice zb5 zl.length zb6),(.slice zB9 z38.length zBa)] w₀ fun e w'=>∃ zKU:Option Addr,∃ zKV:Nat,e = .returned (.slice zKU r.length zKV)∧True∧Hp [] w₀ w' [row (.slice zKU r.length zKV) 53 3 (r.flatMap e53)]:=by
 unfold y6E at h
 refine Ke Tryz.func28 Tryz.ntmps28 ?_
 let A:List Value:=[(.slice zaP zr.fM.length zaQ),(.slice zaR zr.fC0.length zaS),(.slice zaT zr.fS.length zaU),(.slice zaV zr.fK.length zaW),(.slice zaX zr.fVLs.length zaY),(.slice zaZ zr.fH.length zb0),(.slice zb1 zr.fU.length zb2),(.slice zb3 zr.fV0.length zb4)];refine WC.b (Ld (Lg 3 (yH (cs:=A) U U) ?_))
 intro z7q _
 refine La U<|WL.nil<|Lb<|WC.b<|WC.b ?_
 obtain⟨zKS,zZi,h⟩:=za h
 refine Ld<|La U<|Ll 19 (zb Tryz.call50<|.r2 U U) .nil (cc hz .nil fun w pz ho=>y4N _ _ _ (zg6:=58) (zmy:=[]) _ (zg5:=(fun(y0:List zd)=>y4D y0)) _ zZi w pz zKT Tryz.call58<|fun w' hz' y0 ga0 gc0 r gh0 hr=>yfa hr w' hz' gh0)<|WL.nil<|Lb<|WC.cond U (fun zBc=>?_)<|fun zBc=>?_
 ·replace h:=yq h zBc
  refine WC.b<|Ld<|La U<|WL.nil<|Lb<|WC.ret<|Li<|WX.nilRow 53 3 ?_
  obtain rfl:=oJ h
  refine Lh Tryz.results28 (.tmp U .nil)<|fun w hw=>?_
  exact⟨none,0,yC U,trivial,hw.sub (.cons .here .nil)⟩
 ·replace h:=yr h zBc
  refine WC.skip<|Lb<|WC.b<|Ld (Lg 20 (y3r (fun x=>Value.agg (yD x).toArray)<|Value.int .i64) fun z7r _=>La U<|WL.nil<|Lb ?_)
  obtain⟨zd7,zZj,h⟩:=y12 h
  let E:Value:=(.slice zb5 zl.length zb6);refine Kf (fun(z1S:List (z8×Int))=>(zd7 z1S=some r)) (fun z1S=>[(1,E),(3,(vp z7q)),(7,(.map (some z7r)))]) (fun z1S=>[stb z7q 31 A,yp z7r (fun x=>Value.agg (yD x).toArray) (Value.int .i64) z1S]) ?_ ?_
  ·skip
   refine WC.b<|Ld<|La U<|Le 22 (yI Tryz.underlying33 U)<|La U<|La U<|WL.nil<|Lb<|WC.block<|WC.yam (fun(zkV:Nat) (z3a:Int) (z8r:List (z8×Int))=>(y4W z38 zd7 zkV z3a z8r=some r)) (fun zkV z3a z8r=>[(1,E),(2,(.slice zB9 z38.length zBa)),(3,(vp z7q)),(7,(.map<|some z7r)),(8,(vi z3a))]) (fun zkV z3a z8r=>[stb z7q 31 A,yp z7r (fun x=>Value.agg (yD x).toArray) (Value.int .i64) z8r]) (fun zkV z3a z8r=>zkV) ⟨yx,(i64 (((z38.length:Nat):Int)-1)),([]:List (z8×Int))⟩ h (.r5 U U U U U) (.s2 .h1 .here) ?_
   rintro zkV z3a z8r h
   obtain⟨zB5,rfl⟩:=ybT h
   rw[y4W] at h
   refine WC.b<|WC.b<|Ld<|La U<|La U<|WL.nil<|Lb<|WC.cond U (fun zBd=>?_)<|fun zBd=>?_
   ·replace h:=yq h zBd
    refine WC.skip<|Lb<|WC.b<|WC.block ?_
    obtain⟨zBe,h⟩:=yn h
    refine Lx (fun i=>[17].contains i) [] U<|Lf 0 28 U (fun _=>q_m U)<|Lf 1 29 U (fun _=>q_m U)<|Lf 2 30 U (fun _=>q_m U)<|L7 (j:=3) (dd:=31) (by kernel_rfl) U z2j z2k U U (Z:=Z) (Pr:=(fun r x=>r=e37 x)) y5A U U zBb zBe ?_
    rintro z19D z19E zZk z19F rfl
    refine Lf 4 32 U (fun _=>ya y6z U U)<|Lj 5 33 U (yc ys U<|y1c hz.pv zZk U)<|Lf 6 34 U (fun _=>q_m U)<|Lf 7 35 U (fun _=>q_m U)<|L7 (j:=8) (dd:=36) (by kernel_rfl) U z2j z2k U U (Z:=Z) (Pr:=(fun r x=>r=e37 x)) y5A U U zBb zBe ?_
    rintro z19G z19H zZl z19I rfl
    refine Lf 9 37 U (fun _=>ya y7U U U)<|Lj 10 38 U (yc ys U<|y1c hz.pv zZl U)<|Lf 11 39 U (fun _=>yL (v:=(.agg #[(vi<|(nth z38 z3a).fNode),(vi<|(nth z38 z3a).fQ)])) (Lo (l:=[.tmp 33,.tmp 38]) (.r2 U U) [0,1]) (fun _=>by kernel_rfl))<|Lf 12 40 U (fun _=>q_m U)<|Lf 13 41 U (fun _=>q_m U)<|L7 (j:=14) (dd:=42) (by kernel_rfl) U z2j z2k U U (Z:=Z) (Pr:=(fun r x=>r=e37 x)) y5A U U zBb zBe ?_
    rintro z19J z19K zZm z19L rfl
    refine Lf 15 43 U (fun _=>ya y9i U U)<|Lj 16 44 U (yc ys U<|y1c hz.pv zZm U)<|Kb (i:=17) U (by kernel_rfl) U U U (by kernel_rfl) (y3U (k:=(⟨((nth z38 z3a).fNode),((nth z38 z3a).fQ)⟩:z8)) (v:=((nth z38 z3a).fDelay)) zdH Tryz.underlying117 U U U U .h1)<|WD.done (by kernel_rfl)<|Lt<|Lb<|Ld<|La U<|La U<|La U<|WL.nil ?_
    exact WX.round ⟨zB5,(i64 (z3a-1)),(yF z8r (⟨((nth z38 z3a).fNode),((nth z38 z3a).fQ)⟩:z8)<|(nth z38 z3a).fDelay)⟩ h (Nat.lt_succ_self _) (.r5 U U U U U)<|.s2 .h1 .here
   ·replace h:=yr h zBd
    refine WC.exit<|Lm<|Lm<|Lu ?_
    exact Ln z8r h (.r3 U U U)<|.a2
  ·rintro z1S h
   replace h:=(zZj z1S).symm.trans h
   refine WC.b<|Ld<|La U<|WL.nil<|Lb ?_
   obtain⟨zda,zZn,h⟩:=y12 h
   refine Kc (fun(zaO:List zn) (zkW:Option Addr) (zkX:Nat)=>(zda zaO=some r)) (fun zaO zkW zkX=>[(9,(.slice zkW zaO.length zkX))]) (fun zaO zkW zkX=>[row (.slice zkW zaO.length zkX) 53 3 (zaO.flatMap e53)]) ?_ ?_
   ·skip
    let I:Value:=(vi ((zl.length:Nat):Int));refine WC.b (Ld (La U (Le 46 (yI Tryz.underlying32 U) (La U (WL.nil (Lb (WC.block (WC.nilRow 53 3 (WC.y7y (fun(zkY:Nat) (z2t:List zn) (zj:Int) (z7T:Option Addr) (z7U:Nat)=>(y4Y zl zr z1S zda zkY z2t zj=some r)) (fun zkY z2t zj z7T z7U=>[(3,(vp z7q)),(7,(.map (some z7r))),(9,(.slice z7T z2t.length z7U)),(45,E),(46,I),(47,(vi zj))]) (fun zkY z2t zj z7T z7U=>[row (.slice z7T z2t.length z7U) 53 3 (z2t.flatMap e53),stb z7q 31 A,yp z7r (fun x=>Value.agg (yD x).toArray) (Value.int .i64) z1S]) (fun zkY z2t zj z7T z7U=>zkY) ⟨yx,([]:List zn),0,none,0⟩ h (.r6 U U U U U U) (.a3) ?_)))))))))
    rintro zkY z2t zj z7T z7U h
    obtain⟨zB7,rfl⟩:=ybV h
    rw[y4Y] at h
    refine WC.b<|Ld<|La U<|WL.nil<|Lb<|WC.b<|WC.cond U (fun zBf=>?_)<|fun zBf=>?_
    ·replace h:=yq h zBf
     refine WC.skip<|Lb ?_
     obtain⟨zB8,zZo,h⟩:=y12 h
     refine Kc (fun(z9S:List zn) (zkZ:Option Addr) (zl0:Nat)=>(zB8 z9S=some r)) (fun z9S zkZ zl0=>[(3,(vp z7q)),(7,(.map<|some z7r)),(9,(.slice zkZ z9S.length zl0)),(45,E),(46,I),(47,(vi zj))]) (fun z9S zkZ zl0=>[row (.slice zkZ z9S.length zl0) 53 3 (z9S.flatMap e53),stb z7q 31 A,yp z7r (fun x=>Value.agg (yD x).toArray) (Value.int .i64) z1S]) ?_ ?_
     ·skip
      refine WC.block<|WC.b ?_
      obtain⟨zZp,h⟩:=yn h
      refine Ld<|La U<|L0 (dd:=50) U U (Z:=Z) (Pr:=(p58 Z)) y71 U U zKT zZp ?_
      rintro z19M z19N zZq z19O ⟨zl1,zl2,rfl,zKW⟩
      refine Le 51 (yc y7c U<|y3C hz.pv zZq U)<|La U<|La U<|WL.nil<|Lb<|WC.b<|Ld (Lg 52 (y3r (Value.int .i64)<|Value.int .i64) fun zl3 _=>La U<|WL.nil<|Lb<|WC.b<|Ld<|La U<|WL.nil<|Lb ?_)
      obtain⟨zd8,zZr,h⟩:=y12 h
      let F:Value:=(.slice z7T z2t.length z7U);refine Kc (fun(zaN:List zn) (zl4:Option Addr) (zl5:Nat)=>(zd8 zaN=some r)) (fun zaN zl4 zl5=>[(3,(vp z7q)),(7,(.map (some z7r))),(9,F),(13,(.slice zl4 zaN.length zl5)),(45,E),(46,I),(47,(vi zj))]) (fun zaN zl4 zl5=>[row F 53 3 (z2t.flatMap e53),row (.slice zl4 zaN.length zl5) 53 3 (zaN.flatMap e53),stb z7q 31 A,yp z7r (fun x=>Value.agg (yD x).toArray) (Value.int .i64) z1S]) ?_ ?_
      ·skip
       let D:Value:=(.slice zl1 ((nth zl zj).length) zl2);refine WC.b (Ld (La U (Le 54 (yI Tryz.underlying58 U) (La U (WL.nil (Lb (WC.block (WC.nilRow 53 3 (WC.y8m (fun(zl6:Nat) (z3C:List zn) (zx:Int) (z16:List (Int×Int)) (zb7:Option Addr) (zb8:Nat)=>(y4X zl zj zr z1S zd8 zl6 z3C zx z16=some r)) (fun zl6 z3C zx z16 zb7 zb8=>[(3,(vp z7q)),(7,(.map (some z7r))),(9,F),(10,(vi zj)),(11,D),(12,(.map (some zl3))),(13,(.slice zb7 z3C.length zb8)),(45,E),(46,(vi ((zl.length:Nat):Int))),(47,(vi zj)),(53,D),(54,(vi (((nth zl zj).length:Nat):Int))),(55,(vi zx))]) (fun zl6 z3C zx z16 zb7 zb8=>[row F 53 3 (z2t.flatMap e53),row (.slice zb7 z3C.length zb8) 53 3 (z3C.flatMap e53),stb z7q 31 A,yp z7r (fun x=>Value.agg (yD x).toArray) (Value.int .i64) z1S,yp zl3 (Value.int .i64) (Value.int .i64) z16]) (fun zl6 z3C zx z16 zb7 zb8=>zl6) ⟨yx,([]:List zn),0,([]:List (Int×Int)),none,0⟩ h (.r13 U U U U U U U U U U U U U) (.s5 .h2 .here .h1 .h1 .here) ?_)))))))))
       rintro zl6 z3C zx z16 zb7 zb8 h
       obtain⟨zB6,rfl⟩:=ybU h
       rw[y4X] at h
       refine WC.b<|Ld<|La U<|WL.nil<|Lb<|WC.b<|WC.cond U (fun zBg=>?_)<|fun zBg=>?_
       ·replace h:=yq h zBg
        refine WC.skip<|Lb ?_
        obtain⟨zoM,zZs,h⟩:=y59 h
        refine WC.y63 (fun(z9R:List zn) (zd9:List (Int×Int)) (zl7:Option Addr) (zl8:Nat)=>(zoM z9R zd9=some r)) (fun z9R zd9 zl7 zl8=>[(3,(vp z7q)),(7,(.map<|some z7r)),(9,F),(10,(vi zj)),(11,D),(12,(.map<|some zl3)),(13,(.slice zl7 z9R.length zl8)),(45,E),(46,(vi ((zl.length:Nat):Int))),(47,(vi zj)),(53,D),(54,(vi (((nth zl zj).length:Nat):Int))),(55,(vi zx))]) (fun z9R zd9 zl7 zl8=>[row F 53 3 (z2t.flatMap e53),row (.slice zl7 z9R.length zl8) 53 3 (z9R.flatMap e53),stb z7q 31 A,yp z7r (fun x=>Value.agg (yD x).toArray) (Value.int .i64) z1S,yp zl3 (Value.int .i64) (Value.int .i64) zd9]) ?_ ?_
        ·skip
         refine WC.block<|WC.b ?_
         obtain⟨zZt,h⟩:=yn h
         refine Ld<|L0 (dd:=57) U U (Z:=Z) (Pr:=(fun r x=>r=e60 x)) y65 U U zKW zZt ?_
         rintro zZu z19P zZv z19Q rfl
         refine Le 58 (yi y4g U (y2l hz.pv zZv) U) (Lg 15 (yv (cs:=[(vi 0),(vi 0),(vi 0)]) y6Q U) fun zKX _=>Lk U U (yl y7d U U U .here U U U)<|WL.nil<|Lb<|WC.b<|WC.b<|Ld<|La U<|Le 61 (ya y5I U U)<|Le 62 (yc ys U<|yh .here U)<|Le 63 (yiv (k:=((nth (nth zl zj) zx).fNext)) (dflt:=(0:Int)) y40 Tryz.underlying148 y2H U U U .h5)<|La U<|La U<|La U<|La U<|La U<|WL.nil<|Lb<|WC.b ?_)
         obtain⟨zZw,h⟩:=yn h
         let C:Value:=(.bool (y31 z16 ((nth (nth zl zj) zx).fNext)));let G:Value:=(vi (yg z16 ((nth (nth zl zj) zx).fNext) 0));let J:=(((nth zl zj).length:Nat):Int);let K:Value:=(vi ((nth (nth zl zj) zx).fNext));refine Lx (fun i=>[].contains i) [] U (Lf 0 66 U (fun _=>q_m U) (Lf 1 67 U (fun _=>q_m U) (Kg (fuel':=0) [(3,(vp z7q)),(7,(.map (some z7r))),(9,F),(10,(vi zj)),(11,D),(12,(.map (some zl3))),(13,(.slice zb7 z3C.length zb8)),(45,E),(46,I),(47,(vi zj)),(53,D),(54,(vi J)),(55,(vi zx)),(56,(.bool (decide (zx<J)))),(57,(vq zZu)),(58,(.agg #[(vi ((nth (nth zl zj) zx).fNode)),K,(vi ((nth (nth zl zj) zx).fQ))])),(15,(vp zKX)),(60,(.map (some zl3))),(61,(.pointer (some ⟨zKX,1,none⟩))),(62,K),(63,(.tuple #[G,C])),(59,(.tuple #[G,C])),(64,G),(65,C),(16,G),(17,C),(66,C),(67,C),(75,(.bool ((y31 z16 ((nth (nth zl zj) zx).fNext))||(decide (((nth (nth zl zj) zx).fNext)=((nth (nth zl zj) 0).fNode))))))] (y2d 10 [9,8,7,6,5,4,3,2,1,0]) ?_ (fun zKY=>?_))))
         rotate_left
         ·rcases Bool.eq_false_or_eq_true (y31 z16 ((nth (nth zl zj) zx).fNext)) with hb' | hb'
          ·have zBh:=hb';clear hb'
           refine L3 (i:=67) U zBh<|Lp 2 68 U<|Lp 3 69 U<|Lp 4 70 U<|Lp 5 71 U<|Lp 6 72 U<|Lp 7 73 U<|Lp 8 74 U<|Lf 9 75 U (fun _=>y4w U U)<|Ly (.a6) ?_ zKY
           exact .r29 U U U U U U U U U U U U U U U U U U U U U U U U U U U (zO<|Eq.symm zBh)<|zO<|y7w zBh
          ·have zs4:=hb';clear hb'
           have zZx:=zZw zs4
           refine L3 (i:=67) U zs4<|Lf 2 68 U (fun _=>ya y5I U U)<|Lj 3 69 U (yc ys U<|yh .here U)<|Lf 4 70 U (fun _=>q_m U)<|L7 (j:=5) (dd:=71) (by kernel_rfl) U z2j z2k U U (Z:=Z) (Pr:=(fun r x=>r=e60 x)) y65 U U zKW zZx ?_
           rintro z19R z19S zZy z19T rfl
           refine Lf 6 72 U (fun _=>ya y4h U U)<|Lj 7 73 U (yc ys U<|y1c hz.pv zZy U)<|Lf 8 74 U (fun _=>ybz U U)<|Lf 9 75 U (fun _=>y4x U U)<|Ly (.a6) ?_ zKY
           exact .r29 U U U U U U U U U U U U U U U U U U U U U U U U U U U (zO<|Eq.symm zs4)<|zO<|y7x zs4
         refine WD.done (by kernel_rfl)<|Lb<|WC.cond U (fun zBi=>?_)<|fun zBi=>?_
         ·replace h:=yq h zBi
          refine WC.exit<|Lm<|Lu ?_
          exact Ln ⟨z3C,z16,zb7,zb8⟩ h (.r13 U U U U U U U U U U U U U)<|.s5 .h1 .h1 .h1 .h1 .h1
         ·replace h:=yr h zBi
          refine WC.skip<|Lb<|WC.b ?_
          obtain⟨z7S,zZz,h⟩:=za h
          refine Lx (fun i=>[12].contains i) [] U<|Lf 0 76 U (fun _=>q_m U)<|Lf 1 77 U (fun _=>ya y5I U U)<|Lj 2 78 U (yc ys U<|yh .here U)<|Lf 3 79 U (fun _=>q_m U)<|Lf 4 80 U (fun _=>ya y4h U U)<|Lj 5 81 U (yc ys U<|yh .here U)<|Lj 6 82 U (y2S (k:=((nth (nth zl zj) zx).fNode)) (dflt:=(0:Int)) y40 Tryz.underlying148 y2H U U U .h5)<|Lf 7 83 U (fun _=>q_m U)<|Lj 8 84 U (yi y4g U (yk .here) U)<|L4 9 85 U (zb Tryz.call60<|.cons U .nil) (cc hz .nil fun w pz ho=>y69 zZz w pz )<|Lj 10 86 U (y2S (k:=z7S) (dflt:=(0:Int)) zdH Tryz.underlying117 y2H U U U .h4)<|Lf 11 87 U (fun _=>y9s U U U)<|Kb (i:=12) U (by kernel_rfl) U U U (by kernel_rfl) (y3U (k:=((nth (nth zl zj) zx).fNext)) (v:=i64 ((yg z16 ((nth (nth zl zj) zx).fNode) 0)+(yg z1S z7S 0))) y40 Tryz.underlying148 U U U U .h5)<|WD.done (by kernel_rfl)<|Lb<|WC.b<|Ld<|Le 88 (ya y5I U U)<|Le 89 (yc ys U<|yh .h1 U)<|La U<|La U<|Lv true 6 91 (B:=(decide (((nth (nth zl zj) zx).fNext)≥0))&&(decide (((nth (nth zl zj) zx).fNext)<((zr.fM.length:Nat):Int)))) U U U U U U (fun h=>(y3u h).symm) (fun _ zZA=>?_) ?_
          ·skip
           refine Le 92 (ya y5I U U)<|Le 93 (yc ys U<|yh .h1 U)<|Le 94 (ya y7a U U)<|Le 95 (yc y7b U<|yh .h4 U)<|Le 96 (yI Tryz.underlying22 U)<|La U<|La U ?_
           exact Lw (y3v zZA) U U .all
          refine WL.nil<|Lb<|WC.cond U (fun zBj=>?_)<|fun zBj=>?_
          ·replace h:=yq h zBj
           obtain⟨zZB,h⟩:=yn h
           refine Ld<|La U<|La U<|Le 101 (ya y5I U U)<|Le 102 (yc ys U<|yh .h1 U)<|La U<|Le 104 (ya y5I U U)<|Le 105 (yc ys U<|yh .h1 U)<|Le 106 (y2S (k:=((nth (nth zl zj) zx).fNext)) (dflt:=(0:Int)) y40 Tryz.underlying148 y2H U U U .here)<|Le 107 (yL (v:=(.agg #[(vi zj),(vi<|(nth (nth zl zj) zx).fNext),(vi<|yg (yF z16 ((nth (nth zl zj) zx).fNext)<|i64 ((yg z16 ((nth (nth zl zj) zx).fNode) 0)+(yg z1S z7S 0))) ((nth (nth zl zj) zx).fNext) 0)])) (Lo (l:=[.tmp 100,.tmp 102,.tmp 106]) (.r3 U U U) [0,1,2]) (fun _=>by kernel_rfl))<|Lg 108 (yM (cs:=([(⟨zj,((nth (nth zl zj) zx).fNext),(yg (yF z16 ((nth (nth zl zj) zx).fNext)<|i64 ((yg z16 ((nth (nth zl zj) zx).fNode) 0)+(yg z1S z7S 0))) ((nth (nth zl zj) zx).fNext) 0)⟩:zn)]:List zn).flatMap e53) y9E (Lo (l:=[.tmp 107]) (.cons U .nil) [0]) (fun _=>by kernel_rfl) U (by unfold maxLen;omega)) ?_
           intro z19U _
           let H:=(i64 ((yg z16 ((nth (nth zl zj) zx).fNode) 0)+(yg z1S z7S 0)));refine WL.fA 109 (y52 (enc:=e53) (l1:=z3C) (l2:=([(⟨zj,((nth (nth zl zj) zx).fNext),(yg (yF z16 ((nth (nth zl zj) zx).fNext) H) ((nth (nth zl zj) zx).fNext) 0)⟩:zn)]:List zn)) y9E U U .h4 (fun _=>U) U U (y3t .here) (y5o yg8 _) zZB) ?_
           rintro⟨zZC,zZD⟩ _
           refine La U<|WL.nil<|Lt ?_
           exact Ln ⟨(z3C++([(⟨zj,((nth (nth zl zj) zx).fNext),(yg (yF z16 ((nth (nth zl zj) zx).fNext) H) ((nth (nth zl zj) zx).fNext) 0)⟩:zn)]:List zn)),(yF z16 ((nth (nth zl zj) zx).fNext) H),zZC,zZD⟩ h (.r13 U U U U U U U U U U U U U)<|.s5 .h4 .here .h3 .h3 .h1
          ·replace h:=yr h zBj
           refine WC.skip<|Lt ?_
           exact Ln ⟨z3C,(yF z16 ((nth (nth zl zj) zx).fNext)<|i64 ((yg z16 ((nth (nth zl zj) zx).fNode) 0)+(yg z1S z7S 0))),zb7,zb8⟩ h (.r13 U U U U U U U U U U U U U)<|.s5 .h2 .h2 .h2 .h2 .here
        ·rintro z9R zd9 zl7 zl8 h
         replace h:=(zZs z9R zd9).symm.trans h
         refine Ld<|La U<|La U<|WL.nil ?_
         exact WX.round ⟨zB6,z9R,(i64 (zx+1)),zd9,zl7,zl8⟩ h (Nat.lt_succ_self _) (.r13 U U U U U U U U U U U U U)<|.a5
       ·replace h:=yr h zBg
        refine WC.exit<|Lm<|Lm<|Lu ?_
        exact Ln ⟨z3C,zb7,zb8⟩ h (.r7 U U U U U U U)<|.a4
      ·rintro zaN zl4 zl5 h
       replace h:=(zZr zaN).symm.trans h
       refine WC.b ?_
       obtain⟨zhN,zZE,h⟩:=za h
       refine Ld<|La U<|WL.y5j (dd:=112) U U U (zb Tryz.call61<|.r2 U U) (.cons .h1 .nil) (cc hz (.cons .h1 .nil) fun w pz ho=>y8i _ _ _ (zkU:=62) (zs3:=[]) _ (zkT:=(fun(y0:zn) (y1:zn)=>y39 y0 y1)) _ zZE w pz Tryz.call62 (fun w' hz' y0 y1  r  hr=>yfb hr w' hz' ) ho) ?_
       rintro  zZF
       refine Ki (i:=13) U (u:=(.slice zl4 zhN.length zl5)) (y8n zZF.symm)<|WL.nil<|Lb ?_
       obtain⟨zZG,h⟩:=yn h
       refine Ld<|La U<|La U<|WL.fA 115 (y52 (enc:=e53) (l1:=z2t) (l2:=zhN) y9E U U .h1 (fun _=>U) U U (y3t .here) (y5o yg8 _) zZG) ?_
       rintro⟨zZH,zZI⟩ _
       refine La U<|WL.nil<|Lt ?_
       exact Ln ⟨(z2t++zhN),zZH,zZI⟩ h (.r6 U U U U U U)<|.s3 .here .h1 .h1
     ·rintro z9S zkZ zl0 h
      replace h:=(zZo z9S).symm.trans h
      refine Ld<|La U<|La U<|WL.nil ?_
      exact WX.round ⟨zB7,z9S,(i64 (zj+1)),zkZ,zl0⟩ h (Nat.lt_succ_self _) (.r6 U U U U U U)<|.a3
    ·replace h:=yr h zBf
     refine WC.exit<|Lm<|Lm<|Lu ?_
     exact Ln ⟨z2t,z7T,z7U⟩ h (.cons U .nil)<|.cons .here .nil
   ·rintro zaO zkW zkX h
    replace h:=(zZn zaO).symm.trans h
    refine WC.b<|Ld<|La U<|La U<|WL.nil<|Lb<|WC.ret ?_
    obtain rfl:=oJ h
    refine Lh Tryz.results28 (.tmp U .nil)<|fun w hw=>?_
    exact⟨zkW,zkX,yC U,trivial,hw.sub (.cons .here .nil)⟩
def y2Q(z4S:List z8×Int)(zB:zp)(z4T:List (List zd))(zdb:(List S36)→Option (S39×Int)):Nat→Int→Int→(List S36)→(List (zP×z1))→(List (z8×Int))→Option (S39×Int)
 | 0,_,_,_,_,_=>none
 | zBk+1,z5l,zb9,z4v,zba,zbb=>if decide (z5l<((z4S.1.length:Nat):Int)) then chk ((0:Int)≤z5l∧z5l<((z4S.1.length:Nat):Int)) ((y5D zB z4T zba zbb zb9 (⟨((nth z4S.1 z5l).fNode),((nth z4S.1 z5l).fQ)⟩:z8)).bind fun z63=>chk ((((z4v++([z63.1]:List S36)).length:Nat):Int)*32≤140737488355328∧(((z4v++([z63.1]:List S36)).length:Nat):Int)≤4611686018427387904) (if decide (z63.2.1≠0) then some ((⟨([]:List S36),([]:List zn)⟩:S39),z63.2.1) else y2Q z4S zB z4T zdb zBk (i64 (z5l+1)) z63.2.1 (z4v++([z63.1]:List S36)) z63.2.2.1 z63.2.2.2)) else zdb z4v
theorem yaQ{n:Nat}{z4S:List z8×Int}{zB:zp}{z4T:List (List zd)}{zdb:(List S36)→Option (S39×Int)}{z5l:Int}{zb9:Int}{z4v:List S36}{zba:List (zP×z1)}{zbb:List (z8×Int)}{r:S39×Int}(h:y2Q z4S zB z4T zdb n z5l zb9 z4v zba zbb=some r):∃ m,n=m+1:=by
 cases n with
 | zero=>cases h
 | succ m=>exact⟨m,rfl⟩
def y6g(zB:zp)(zs5:Int)(z4T:List (List zd)):Option (S39×Int):=
 (y4b zB zs5 z4T).bind fun zKZ=>if !zKZ then some ((⟨([]:List S36),([]:List zn)⟩:S39),310) else(y22 zB.fVLs (fun(y0:zh)=>y34 y0)).bind fun zL0=>if zL0 then some ((⟨([]:List S36),([]:List zn)⟩:S39),350) else(y5x z4T).bind fun z4S=>if decide (z4S.2≠0) then some ((⟨([]:List S36),([]:List zn)⟩:S39),z4S.2) else jp1 (fun(zbc:List S36)=>(yQ zbc (fun(y0:S36) (y1:S36)=>y2b y0 y1)).bind fun zoN=>(y6E zB z4T zoN).bind fun zBl=>some ((⟨zoN,zBl⟩:S39),0)) fun zdb=>y2Q z4S zB z4T zdb yx 0 0 ([]:List S36) ([]:List (zP×z1)) ([]:List (z8×Int))
theorem yew{Z:Zp}{zfs:Option Addr}{zft:Nat}{zfu:Option Addr}{zfv:Nat}{zfw:Option Addr}{zfx:Nat}{zfy:Option Addr}{zfz:Nat}{zfA:Option Addr}{zfB:Nat}{zfC:Option Addr}{zfD:Nat}{zfE:Option Addr}{zfF:Nat}{zfG:Option Addr}{zfH:Nat}{zhO:Option Addr}{zhP:Nat}{zB:zp}{zs5:Int}{z4T:List (List zd)}{r:S39×Int}(h:y6g zB zs5 z4T=some r)(w₀:World)(hz:PZ [] w₀ Z)(zBm:ZS Z 4 (y3y Z) zfs zft zB.fM)(zBn:ZS Z 4 (y4k Z) zfu zfv zB.fC0)(zBo:ZS Z 4 (fun r x=>r=e64 x) zfw zfx zB.fS)(zBp:ZS Z 4 (fun r x=>r=e62 x) zfy zfz zB.fK)(zs6:ZS Z 7 (p69 Z) zfA zfB zB.fVLs)(zBq:ZS Z 5 (fun r x=>r=y4t x) zfC zfD zB.fH)(zBr:ZS Z 3 (y4l Z) zfE zfF zB.fU)(zBs:ZS Z 4 (fun r x=>r=y4u x) zfG zfH zB.fV0)(zs7:ZS Z 1 (p58 Z) zhO zhP z4T):
  Calls Tryz.prog 18 #[(.agg #[(.slice zfs zB.fM.length zft),(.slice zfu zB.fC0.length zfv),(.slice zfw zB.fS.length zfx),(.slice zfy zB.fK.length zfz),(.slice zfA zB.fVLs.length zfB),(.slice zfC zB.fH.length zfD),(.slice zfE zB.fU.length zfF),(.slice zfG zB.fV0.length zfH)]),(vi zs5),(.slice zhO z4T.length zhP)] w₀ fun e w'=>∃ zL1:Option Addr,∃ zL2:Nat,∃ zL3:Option Addr,∃ zL4:Nat,e = .returned (.tuple #[(.agg #[(.slice zL1 r.1.fP.length zL2),(.slice zL3 r.1.fEnds.length zL4)]),(vi r.2)])∧True∧Hp [] w₀ w' [row (.slice zL1 r.1.fP.length zL2) 37 4 (r.1.fP.flatMap e37),row (.slice zL3 r.1.fEnds.length zL4) 53 3 (r.1.fEnds.flatMap e53)]:=by
 unfold y6g at h
 refine Ke Tryz.func18 Tryz.ntmps18 ?_
 let D:Value:=(.slice zfA zB.fVLs.length zfB);let E:Value:=(.slice zfu zB.fC0.length zfv);let F:Value:=(.slice zfG zB.fV0.length zfH);let G:Value:=(.slice zfs zB.fM.length zft);let H:Value:=(.slice zfw zB.fS.length zfx);let I:Value:=(.slice zfy zB.fK.length zfz);let J:Value:=(.slice zfC zB.fH.length zfD);let K:Value:=(.slice zfE zB.fU.length zfF);let A:List Value:=[G,E,H,I,D,J,K,F];refine WC.b (Ld (Lg 3 (yH (cs:=A) U U) ?_))
 intro zs8 _
 refine Lg 6 (yv (cs:=[vn,vn]) y6P U) fun zs9 _=>La U<|WL.nil<|Lb<|WC.b<|WC.b ?_
 obtain⟨zKZ,zZJ,h⟩:=za h
 refine Ld<|Le 14 (yi y1E U (yk .h1) U)<|La U<|La U<|Ll 17 (zb Tryz.call22<|.r3 U U U) .nil (cc hz .nil fun w pz ho=>y7m zZJ w pz zBm zBn zBo zBp zs6 zBq zBr zBs zs7)<|La U<|WL.nil<|Lb<|WC.cond U (fun zBt=>?_)<|fun zBt=>?_
 ·replace h:=yq h zBt
  refine WC.b<|Ld<|Le 19 (yL (v:=(.agg #[vn,vn])) (Lo (l:=[]) .nil []) (fun _=>by kernel_rfl))<|Lk U U (yl y5b U U U .here U U U)<|La U<|WL.nil<|Lb<|WC.ret<|Li<|WX.nilRow 37 4<|WX.nilRow 53 3 ?_
  obtain rfl:=oJ h
  refine Lh Tryz.results18 (.agg U y5q U (yk .h2)<|.tmp U .nil)<|fun w hw=>?_
  exact⟨none,0,none,0,y1R U U,trivial,hw.sub (.s2 .h1 .here)⟩
 ·replace h:=yr h zBt
  refine WC.skip<|Lb<|WC.b<|WC.b ?_
  obtain⟨zL0,zZK,h⟩:=za h
  refine Ld<|Le 20 (ya y5a U U)<|Le 21 (yc y5p U<|yh .h1 U)<|Ll 22 (zb Tryz.call39<|.r2 U U) .nil (cc hz .nil fun w pz ho=>y7X _ _ _ (zj3:=40) (zqn:=[]) _ (zj2:=(fun(y0:zh)=>y34 y0)) _ zZK w pz zs6 Tryz.call40<|fun w' hz' y0 ga0 gc0 r gh0 hr=>ydv hr w' hz' gh0)<|WL.nil<|Lb<|WC.cond U (fun zBu=>?_)<|fun zBu=>?_
  ·replace h:=yq h zBu
   refine WC.b<|Ld<|Le 23 (yL (v:=(.agg #[vn,vn])) (Lo (l:=[]) .nil []) (fun _=>by kernel_rfl))<|Lk U U (yl y5b U U U .here U U U)<|La U<|WL.nil<|Lb<|WC.ret<|Li<|WX.nilRow 37 4<|WX.nilRow 53 3 ?_
   obtain rfl:=oJ h
   refine Lh Tryz.results18 (.agg U y5q U (yk .h2)<|.tmp U .nil)<|fun w hw=>?_
   exact⟨none,0,none,0,y1R U U,trivial,hw.sub (.s2 .h1 .here)⟩
  ·replace h:=yr h zBu
   refine WC.skip<|Lb<|WC.b ?_
   obtain⟨z4S,zZL,h⟩:=za h
   refine Ld<|La U<|WL.y49 (dd:=26) U U U (zb Tryz.call42<|.cons U .nil) .nil (cc hz .nil fun w pz ho=>yck zZL w pz zs7) ?_
   rintro zL5 zL6 _
   refine La U<|La U<|La U<|La U<|La U<|WL.nil<|Lb<|WC.b<|WC.b<|Ld<|La U<|La U<|WL.nil<|Lb<|WC.cond U (fun zBv=>?_)<|fun zBv=>?_
   ·replace h:=yq h zBv
    refine WC.b<|Ld<|Le 31 (yL (v:=(.agg #[vn,vn])) (Lo (l:=[]) .nil []) (fun _=>by kernel_rfl))<|La U<|Lk U U (yl y5b U U U .h1 U U U)<|La U<|WL.nil<|Lb<|WC.ret<|Li<|WX.nilRow 37 4<|WX.nilRow 53 3 ?_
    obtain rfl:=oJ h
    refine Lh Tryz.results18 (.agg U y5q U (yk .h2)<|.tmp U .nil)<|fun w hw=>?_
    exact⟨none,0,none,0,y1R U U,trivial,hw.sub (.s2 .h1 .here)⟩
   ·replace h:=yr h zBv
    refine WC.skip<|Lb<|WC.b<|Ld<|Le 33 (yi y1E U (yk .h2) U)<|La U (Lg 35 (y3r (fun x=>Value.agg (y2N x).toArray)<|fun x=>Value.agg (yA x).toArray) fun zsa _=>Lg 36 (y3r (fun x=>Value.agg (yD x).toArray)<|Value.int .i64) ?_)
    intro zsb _
    let C:Value:=(.slice zhO z4T.length zhP);refine Le 37 (yL (v:=(.agg #[G,E,H,I,D,J,K,F,C,(.map (some zsa)),(.map (some zsb)),(vi 0)])) (Lo (l:=[.tmp 33,.tmp 34,.tmp 35,.tmp 36,.const (vi 0)]) (.r5 U U U U U) [0,1,2,3,4]) (fun _=>by kernel_rfl)) (Lg 38 (yH (cs:=[G,E,H,I,D,J,K,F,C,(.map (some zsa)),(.map (some zsb)),(vi 0)]) U U) ?_)
    intro zBw _
    refine La U<|WL.nil<|Lb<|WC.b<|Ld (Lg 11 (yv (cs:=[vn,vn]) y6P U) fun zoO _=>WL.nil<|Lb ?_)
    obtain⟨zdb,zZM,h⟩:=y12 h
    refine Kc (fun(zbc:List S36) (zfI:Option Addr) (zfJ:Nat)=>(zdb zbc=some r)) (fun zbc zfI zfJ=>[(2,C),(3,(vp zs8)),(6,(vp zs9)),(11,(vp zoO))]) (fun zbc zfI zfJ=>[stb zs8 31 A,stb zs9 40 [vn,vn],stb zoO 40 [(.slice zfI zbc.length zfJ),vn],row (.slice zfI zbc.length zfJ) 37 4 (zbc.flatMap e37)]) ?_ ?_
    ·skip
     let L:Value:=(.slice zL5 z4S.1.length zL6);refine WC.b (Ld (La U (Le 40 (yI Tryz.underlying112 U) (La U (WL.nil (Lb (WC.block (WC.nilRow 37 4 (WC.y93 (fun(zl9:Nat) (z5l:Int) (zb9:Int) (z4v:List S36) (zba:List (zP×z1)) (zbb:List (z8×Int)) (zfK:Option Addr) (zfL:Nat)=>(y2Q z4S zB z4T zdb zl9 z5l zb9 z4v zba zbb=some r)) (fun zl9 z5l zb9 z4v zba zbb zfK zfL=>[(2,C),(3,(vp zs8)),(6,(vp zs9)),(10,(vp zBw)),(11,(vp zoO)),(39,L),(40,(vi ((z4S.1.length:Nat):Int))),(41,(vi z5l))]) (fun zl9 z5l zb9 z4v zba zbb zfK zfL=>[row L 121 2 (z4S.1.flatMap yD),stb zs8 31 A,stb zs9 40 [vn,vn],stb zBw 119 [G,E,H,I,D,J,K,F,C,(.map (some zsa)),(.map (some zsb)),(vi zb9)],stb zoO 40 [(.slice zfK z4v.length zfL),vn],row (.slice zfK z4v.length zfL) 37 4 (z4v.flatMap e37),yp zsa (fun x=>Value.agg (y2N x).toArray) (fun x=>Value.agg (yA x).toArray) zba,yp zsb (fun x=>Value.agg (yD x).toArray) (Value.int .i64) zbb]) (fun zl9 z5l zb9 z4v zba zbb zfK zfL=>zl9) ⟨yx,0,0,([]:List S36),([]:List (zP×z1)),([]:List (z8×Int)),none,0⟩ h (.r8 U U U U U U U U) (.s8 .h5 .h6 .h5 .h2 .h1 .here .h1 .here) ?_)))))))))
     rintro zl9 z5l zb9 z4v zba zbb zfK zfL h
     obtain⟨zBk,rfl⟩:=yaQ h
     rw[y2Q] at h
     refine WC.b<|Ld<|La U<|WL.nil<|Lb<|WC.b<|WC.cond U (fun zBx=>?_)<|fun zBx=>?_
     ·replace h:=yq h zBx
      refine WC.skip<|Lb<|WC.b<|WC.block<|WC.b ?_
      obtain⟨zoP,h⟩:=yn h
      refine Ld<|Kd (fun w hw=>Hp.y1T .here hw (by intro hz';have:=zoP;rw[hz'] at this;omega)) ?_
      rintro⟨z19V,rfl⟩
      refine Le 43 (yS z7y U U zoP.1 zoP.2 y2L)<|Le 44 (yU (cs:=(yD<|nth z4S.1 z5l)) z5v U U<|y3z .here<|y2x (enc:=yD) (l:=z4S.1) (i:=z5l) (sz:=2) (fun _=>U) zoP.1 zoP.2) (Lg 13 (yv (cs:=[(vi 0),(vi 0)]) zm7 U) fun z19W _=>Lk U U (yl zpC U U U .here U U U)<|WL.nil<|Lb<|WC.b ?_)
      obtain⟨z63,zZN,h⟩:=za h
      obtain⟨zZO,h⟩:=yn h
      refine Lx (fun i=>[4,6,8].contains i) [y85 zoO 40 [(0,(.slice zfK z4v.length zfL))]] U<|Lf 0 45 U (fun _=>ya y4Z U U)<|L6 1 46 U (Sin.wk (.cons .h5 .nil)<|.stb (.cons U .nil) .nil) (yc y50 U<|y5Z .here<|.head _)<|Lf 2 47 U (fun _=>q_m U)<|Lj 3 48 U (yi z5v U (yk .here) U) (Ka (i:=4) (dd:=49) U (by kernel_rfl) U U U (.inl ⟨U,(Sin.wk (.cons .h7 .nil)<|.stb (.cons U .nil) .nil)⟩) (zb Tryz.call43<|.r2 U U) (.s3 .h4 .h6 .h6) (cc hz (.s3 .h4 .h6 .h6) fun w pz ho=>Calls.mono (ydx zZN w pz zBm zBn zBo zBp zs6 zBq zBr zBs zs7 ho)<|fun _ _ h'=>⟨h'.1,trivial,h'.2⟩) fun _=>WD.new (i:=5) (dd:=50) U (by kernel_rfl) U U U (yM (cs:=([z63.1]:List S36).flatMap e37) y5A (Lo (l:=[.tmp 49]) (.cons U .nil) [0]) (fun _=>by kernel_rfl) U (by unfold maxLen;omega)) (fun h'=>absurd h' (by decide)) fun z19X _=>WD.old (i:=6) (dd:=51) U (by kernel_rfl) U U U U (fun _=>(Sin.wk (.cons (.there<|.there .h7) .nil)<|.stb (.cons U .nil) .nil)) (y52 (enc:=e37) (l1:=z4v) (l2:=([z63.1]:List S36)) y5A U U (.there<|.there .h7) (fun _=>U) U U (y3t .here) (y5o yem _) zZO) ?_)
      rintro⟨zL7,zL8⟩ _
      refine Lf 7 52 U (fun _=>ya y4Z U U)<|Kb (i:=8) U (by kernel_rfl) U U U (by kernel_rfl) (y4r (ds:=[(.slice zL7 ((z4v++([z63.1]:List S36)).length) zL8),vn]) yht U U U U U (.there<|.there .h7) U U)<|WD.done (by kernel_rfl)<|Lb<|WC.b<|Ld<|La U<|Le 54 (y1e U)<|Le 55 (ya y9e U U)<|Le 56 (yc y3A U<|yh .h3 U)<|La U<|WL.nil<|Lb<|WC.cond U (fun zBy=>?_)<|fun zBy=>?_
      ·replace h:=yq h zBy
       refine WC.b<|Lx (fun i=>[5].contains i) [y85 zBw 119 [(11,(vi z63.2.1))]] U<|Lf 0 58 U (fun _=>yL (v:=(.agg #[vn,vn])) (Lo (l:=[]) .nil []) (fun _=>by kernel_rfl))<|Lf 1 59 U (fun _=>q_m U)<|Lf 2 60 U (fun _=>y1e U)<|Lf 3 61 U (fun _=>ya y9e U U)<|L6 4 62 U (Sin.wk (.cons .h3 .nil)<|.stb (.cons U .nil) .nil) (yc y3A U<|y5Z .here<|.head _)<|WD.forced0 (i:=5) U (by kernel_rfl) U U U (Sin.wk (.cons .h4 .nil)<|.stb (.cons U .nil) .nil) (yl y5b U U U (.there<|.there .h7) U U U)<|Lf 6 7 U (fun _=>q_z U)<|WD.done (by kernel_rfl)<|Lb<|WC.ret<|Lq<|Li<|Li<|Lq<|Li<|WX.nilRow 37 4<|WX.nilRow 53 3 ?_
       obtain rfl:=oJ h
       refine Lh Tryz.results18 (.agg U y5q U (yk .h2)<|.tmp U .nil)<|fun w hw=>?_
       exact⟨none,0,none,0,y1R U U,trivial,hw.sub (.s2 .h1 .here)⟩
      ·replace h:=yr h zBy
       refine WC.skip<|Lt<|Lb<|Ld<|La U<|La U<|WL.nil ?_
       exact WX.round ⟨zBk,(i64 (z5l+1)),z63.2.1,(z4v++([z63.1]:List S36)),z63.2.2.1,z63.2.2.2,zL7,zL8⟩ h (Nat.lt_succ_self _) (.r8 U U U U U U U U)<|.s8 .h7 .h7 .h7 .h3 .here .here .h1 .h1
     ·replace h:=yr h zBx
      refine WC.exit<|Lm<|Lm<|Lu ?_
      exact Ln ⟨z4v,zfK,zfL⟩ h (.r4 U U U U)<|.s4 .h1 .h1 .h2 .h2
    ·rintro zbc zfI zfJ h
     replace h:=(zZM zbc).symm.trans h
     refine WC.b ?_
     obtain⟨zoN,zZP,h⟩:=za h
     refine Ld<|Le 64 (ya y4Z U U)<|Le 65 (yc y50 U<|yh .h2 U)<|WL.y5j (dd:=66) U U U (zb Tryz.call26<|.r2 U U) (.cons .h3 .nil) (cc hz (.cons .h3 .nil) fun w pz ho=>y4e _ _ _ (zhH:=44) (zoH:=[]) _ (zhG:=(fun(y0:S36) (y1:S36)=>y2b y0 y1)) _ zZP w pz Tryz.call44 (fun w' hz' y0 y1  r  hr=>ydy hr w' hz' ) ho) ?_
     rintro  zZQ
     refine WL.restb (cs':=[(.slice zfI zoN.length zfJ),vn]) .h3 (by rw[zZQ])<|WL.nil<|Lb<|WC.b ?_
     obtain⟨zBl,zZR,h⟩:=za h
     refine Ld<|Le 67 (yi y1E U (yk .h2) U)<|La U<|Le 69 (ya y4Z U U)<|Le 70 (yc y50 U<|yh .here U)<|WL.y49 (dd:=71) U U U (zb Tryz.call28<|.r3 U U U) .nil (ccl hz .nil (.cons .h1 .nil) fun w pz ho la=>ycS zZR w pz ((zBm.mono<|Zle.left _ _).weak (fun _ _ h=>y1a (Zle.left _ _) h)) ((zBn.mono<|Zle.left _ _).weak (fun _ _ h=>y1i (Zle.left _ _) h)) (zBo.mono<|Zle.left _ _) (zBp.mono<|Zle.left _ _) ((zs6.mono<|Zle.left _ _).weak (fun _ _ h=>y15 (Zle.left _ _) h)) (zBq.mono<|Zle.left _ _) ((zBr.mono<|Zle.left _ _).weak (fun _ _ h=>y1j (Zle.left _ _) h)) (zBs.mono<|Zle.left _ _) ((zs7.mono<|Zle.left _ _).weak (fun _ _ h=>y1t (Zle.left _ _) h))<|ZA.row (la _ (.head _) _) (RR.flat (enc:=e37) (fun _=>U) _) ⟨w,pz.1⟩) ?_
     rintro zL9 zLa _
     refine Le 72 (ya y7V U U)<|Lk U U (y4r (ds:=[(.slice zfI zoN.length zfJ),(.slice zL9 zBl.length zLa)]) yhu U U U U U .h1 U U)<|WL.nil<|Lb<|WC.b<|Ld<|Le 73 (yi y5q U (yk .here) U)<|Lk U U (yl y5b U U U .h4 U U U)<|La U<|WL.nil<|Lb<|WC.ret ?_
     obtain rfl:=oJ h
     refine Lh Tryz.results18 (.agg U y5q U (yk .here)<|.tmp U .nil)<|fun w hw=>?_
     exact⟨zfI,zfJ,zL9,zLa,y1R U U,trivial,hw.sub (.s2 .h3 .h2)⟩
def y33(z7s:List (Int→Option Int))(z9e:Int)(zdc:Int→Option Int):Nat→Int→Int→Option Int
 | 0,_,_=>none
 | zBz+1,z8s,z7t=>if decide (z7t<((z7s.length:Nat):Int)) then chk ((0:Int)≤z7t∧z7t<((z7s.length:Nat):Int)) (((nth z7s z7t) z9e).bind fun zsc=>y33 z7s z9e zdc zBz (i64 (z8s+zsc)) (i64 (z7t+1))) else zdc z8s
theorem yaB{n:Nat}{z7s:List (Int→Option Int)}{z9e:Int}{zdc:Int→Option Int}{z8s:Int}{z7t:Int}{r:Int}(h:y33 z7s z9e zdc n z8s z7t=some r):∃ m,n=m+1:=by
 cases n with
 | zero=>cases h
 | succ m=>exact⟨m,rfl⟩
def y8c(z7s:List (Int→Option Int))(z9e:Int):Option Int:=
 jp1 (fun(zfM:Int)=>some zfM) fun zdc=>y33 z7s z9e zdc yx 0 0
theorem ydz{Z:Zp}{zBA:Option Addr}{zBB:Nat}{z7s:List (Int→Option Int)}{z9e:Int}{r:Int}(h:y8c z7s z9e=some r)(w₀:World)(hz:PZ [] w₀ Z)(zZS:ZS Z 1 (y5V Z) zBA zBB z7s):
  Calls Tryz.prog 55 #[(.slice zBA z7s.length zBB),(vi z9e)] w₀ fun e w'=>e = .returned (vi r)∧Hp [] w₀ w' []:=by
 unfold y8c at h
 refine Lz Tryz.func55 Tryz.ntmps55 ?_
 refine WC.b<|Ld<|La U<|WL.nil<|Lb<|WC.b<|Ld<|La U<|WL.nil<|Lb ?_
 obtain⟨zdc,zZT,h⟩:=y12 h
 refine Kf (fun(zfM:Int)=>(zdc zfM=some r)) (fun zfM=>[(5,(vi zfM))]) (fun zfM=>[]) ?_ ?_
 ·skip
  refine WC.b<|Ld<|La U<|Le 9 (yI Tryz.underlying140 U)<|La U<|WL.nil<|Lb<|WC.block<|WC.yam (fun(zla:Nat) (z8s:Int) (z7t:Int)=>(y33 z7s z9e zdc zla z8s z7t=some r)) (fun zla z8s z7t=>[(1,(vi z9e)),(5,(vi z8s)),(8,(.slice zBA z7s.length zBB)),(9,(vi ((z7s.length:Nat):Int))),(10,(vi z7t))]) (fun zla z8s z7t=>[]) (fun zla z8s z7t=>zla) ⟨yx,0,0⟩ h (.r5 U U U U U) .nil ?_
  rintro zla z8s z7t h
  obtain⟨zBz,rfl⟩:=yaB h
  rw[y33] at h
  refine WC.b<|Ld<|La U<|WL.nil<|Lb<|WC.b<|WC.cond U (fun zBC=>?_)<|fun zBC=>?_
  ·replace h:=yq h zBC
   refine WC.skip<|Lb<|WC.b<|WC.block<|WC.b ?_
   obtain⟨zZU,h⟩:=yn h
   refine Ld<|L0 (dd:=12) U U (Z:=Z) (Pr:=(y5V Z)) zm9 U U zZS zZU ?_
   rintro z19Y z19Z zZV z1a0 ⟨zZW,zZX,rfl,zZY,zZZ⟩
   refine Le 13 (yc zMU U<|y3C hz.pv zZV U)<|La U<|WL.nil<|Lb ?_
   obtain⟨zsc,z100,h⟩:=za h
   refine Ld<|La U<|La U<|La U<|Ll 17 (y2J (l:=[.tmp 16]) (f:=zZW) (caps:=zZX) zZY U<|.cons U .nil) .nil (fun w hw=>zZZ w (hz.now hw) z9e zsc  z100)<|La U<|La U<|WL.nil<|Lt<|Lb<|Ld<|La U<|La U<|WL.nil ?_
   exact WX.round ⟨zBz,(i64 (z8s+zsc)),(i64 (z7t+1))⟩ h (Nat.lt_succ_self _) (.r5 U U U U U) .nil
  ·replace h:=yr h zBC
   refine WC.exit<|Lm<|Lm<|Lu ?_
   exact Ln z8s h (.cons U .nil) .nil
 ·rintro zfM h
  replace h:=(zZT zfM).symm.trans h
  refine WC.b<|Ld<|La U<|La U<|WL.nil<|Lb<|WC.ret ?_
  obtain rfl:=oJ h
  refine Lh Tryz.results55 (.tmp U .nil)<|fun w hw=>?_
  exact⟨yC U,hw.sub .nil⟩
def y7I:List (Int→Option Int)→Int→Int→Option Int
 | [],_,s=>some s
 | f::l,t,s=>(f t).bind fun x=>y7I l t (i64 (s+x))
theorem ydG(a b:Int):i64 (i64 a+b)=i64 (a+b):=by
 unfold i64 IntKind.wrap
 simp only[IntKind.signed,IntKind.bits]
 simp
 omega
theorem yiJ{t:Int}{l l':List (Int→Option Int)}(h:l.Perm l'):∀ {s:Int},y7I l t s=y7I l' t s:=by
 induction h with
 | nil=>intro s;rfl
 | cons f _ ih=>intro s;rw[y7I,y7I];cases f t with
  | none=>rfl
  | some x=>exact ih
 | swap f g l=>
  intro s
  rw[y7I,y7I]
  cases hf:f t with
  | none=>
   cases hg:g t with
   | none=>rfl
   | some y=>simp only[oB,Option.bind_none,y7I,hf]
  | some x=>
   cases hg:g t with
   | none=>simp only[oB,Option.bind_none,y7I,hg]
   | some y=>
    simp only[oB,y7I,hf,hg]
    rw[ydG,ydG,show s+y+x=s+x+y by omega]
 | trans _ _ ih1 ih2=>intro s;exact ih1.trans ih2
theorem yex{l:List (Int→Option Int)}{t:Int}{k:Int→Option Int}(hl:l.length≤4611686018427387904):∀(n:Nat) (s v:Int),0≤v→v≤l.length→l.length<n+v→y33 l t k n s v=(y7I (l.drop v.toNat) t s).bind k
 | 0,s,v,h0,h1,h2=>by omega
 | n+1,s,v,h0,h1,h2=>by
  rw[y33]
  by_cases h:v<l.length
  ·rw[if_pos (decide_eq_true h),yt ⟨h0,h⟩,List.drop_eq_getElem_cons (show v.toNat<l.length by omega),y7I]
   have e:nth l v=l[v.toNat]'(by omega):=by unfold nth;simp[show v.toNat<l.length by omega]
   rw[e]
   cases (l[v.toNat]'(by omega)) t with
   | none=>rfl
   | some x=>
    rw[oB,oB,yz (x:=v+1) (by omega),yex hl n _ (v+1) (by omega) (by omega) (by omega),show(v+1).toNat=v.toNat+1 by omega]
  ·rw[if_neg (by simpa using h),List.drop_eq_nil_of_le (by omega)];rfl
theorem yiK{l:List (Int→Option Int)}{t:Int}(hl:l.length≤4611686018427387904):y8c l t=y7I l t 0:=by
 show y33 l t (fun s=>some s) yx 0 0=_
 rw[yex hl yx 0 0 (by omega) (by omega) (by rw[show yx=18446744073709551616 from U];omega)]
 simp
def y29(l:List (Int→Option Int))(t:Int):Option Int:=chk (l.length≤4611686018427387904) (y7I l t 0)
theorem y6W{Z:Zp}{ao:Option Addr}{cap:Nat}{l:List (Int→Option Int)}{t:Int}{r:Int}(h:y29 l t=some r)(w₀:World)(hz:PZ [] w₀ Z)(hs:ZSB Z (y5V Z) ao cap l):
  Calls Tryz.prog 55 #[(.slice ao l.length cap),(vi t)] w₀ fun e w'=>e = .returned (vi r)∧Hp [] w₀ w' []:=by
 obtain⟨l',hp,hs⟩:=hs
 obtain⟨hb,h⟩:=yn h
 rw[← hp.length_eq] at hb ⊢
 exact ydz ((yiK hb).trans ((yiJ hp).trans h)) w₀ hz hs
def y4E(zhQ:Int)(z9T:Int)(zhR:List (Int→Option Int))(zoQ:List (Int×Int))(z3T:zp):Option Int:=
 if decide (z9T<0) then(y29 zhR zhQ).bind fun zLb=>some zLb else(y29 zhR zhQ).bind fun zLc=>chk ((0:Int)≤z9T∧z9T<((z3T.fK.length:Nat):Int)) (chk ((((nth z3T.fK z9T).fSlow):Int)≠0) (some (min zLc (i64 ((yg zoQ z9T 0)+(i64 (Int.tdiv zhQ ((nth z3T.fK z9T).fSlow))))))))
theorem ybp(Z:Zp)(zBD:Addr)(zBE:Addr)(zBF:Option Addr)(zBG:Nat)(zBH:Addr)(zBI:Nat)(zBJ:Addr)(zBK:Option Addr)(zBL:Nat)(zBM:Option Addr)(zBN:Nat)(zBO:Option Addr)(zBP:Nat)(zBQ:Option Addr)(zBR:Nat)(zBS:Option Addr)(zBT:Nat)(zBU:Option Addr)(zBV:Nat)(zBW:Option Addr)(zBX:Nat)(zBY:Option Addr)(zBZ:Nat)(zhQ:Int)(z9T:Int)(zhR:List (Int→Option Int))(zoQ:List (Int×Int))(z3T:zp)(r:Int)(h:y4E zhQ z9T zhR zoQ z3T=some r)(w₀:World)(hz:PZ [] w₀ Z)(hmW:ZA Z (yp zBI (Value.int .i64) (Value.int .i64) zoQ))(zsd:ZC Z zBD [(vi z9T)])(zC0:ZSB Z (y5V Z) zBF zBG zhR)(zC1:ZC Z zBE [(.slice zBF zhR.length zBG)])(zLd:ZC Z zBH [(.map (some zBI))])(z101:ZS Z 4 (y3y Z) zBK zBL z3T.fM)(z102:ZS Z 4 (y4k Z) zBM zBN z3T.fC0)(z103:ZS Z 4 (fun r x=>r=e64 x) zBO zBP z3T.fS)(zLe:ZS Z 4 (fun r x=>r=e62 x) zBQ zBR z3T.fK)(z104:ZS Z 7 (p69 Z) zBS zBT z3T.fVLs)(z105:ZS Z 5 (fun r x=>r=y4t x) zBU zBV z3T.fH)(z106:ZS Z 3 (y4l Z) zBW zBX z3T.fU)(z107:ZS Z 4 (fun r x=>r=y4u x) zBY zBZ z3T.fV0)(zLf:ZC Z zBJ [(.slice zBK z3T.fM.length zBL),(.slice zBM z3T.fC0.length zBN),(.slice zBO z3T.fS.length zBP),(.slice zBQ z3T.fK.length zBR),(.slice zBS z3T.fVLs.length zBT),(.slice zBU z3T.fH.length zBV),(.slice zBW z3T.fU.length zBX),(.slice zBY z3T.fV0.length zBZ)]):
  Calls Tryz.prog 99 #[(vi zhQ),(vq zBD),(vq zBE),(vq zBH),(vq zBJ)] w₀ fun e w'=>e = .returned (vi r)∧Hp [] w₀ w' []:=by
 unfold y4E at h
 refine Calls.on5 Tryz.func99 Tryz.ntmps99 ?_
 refine WC.b<|Ld<|La U<|WL.nil<|Lb<|WC.b<|WC.b<|Ld<|Le 7 (yc ys U<|y3C hz.pv zsd U)<|La U<|WL.nil<|Lb<|WC.cond U (fun zC2=>?_)<|fun zC2=>?_
 ·replace h:=yq h zC2
  refine WC.b ?_
  obtain⟨zLb,z108,h⟩:=za h
  refine Ld<|Le 9 (yc zEf U<|y3C hz.pv zC1 U)<|La U<|Ll 11 (zb Tryz.call55<|.r2 U U) .nil (cc hz .nil fun w pz ho=>y6W z108 w pz zC0)<|La U<|WL.nil<|Lb<|WC.ret<|Li ?_
  obtain rfl:=oJ h
  refine Lh Tryz.results99 (.tmp U .nil)<|fun w hw=>?_
  exact⟨yC U,hw.sub .nil⟩
 ·replace h:=yr h zC2
  refine WC.skip<|Lb<|WC.b ?_
  obtain⟨zLc,z109,h⟩:=za h
  obtain⟨z10a,h⟩:=yn h
  obtain⟨z10b,h⟩:=yn h
  refine Lx (fun i=>[].contains i) [] U<|Lj 0 12 U (yc zEf U<|y3C hz.pv zC1 U)<|Lf 1 13 U (fun _=>q_m U)<|L4 2 14 U (zb Tryz.call55<|.r2 U U) (cc hz .nil fun w pz ho=>y6W z109 w pz zC0)<|Lj 3 15 U (yc ztA U<|y3C hz.pv zLd U)<|Lj 4 16 U (yc ys U<|y3C hz.pv zsd U)<|Lj 5 17 U (yiD (k:=z9T) (dflt:=(0:Int)) y40 Tryz.underlying148 y2H U U U hz.pv hmW)<|Lf 6 18 U (fun _=>q_m U)<|Lf 7 19 U (fun _=>ya y7R U U)<|Lj 8 20 U (yc y7S U<|y1c hz.pv zLf U)<|Lj 9 21 U (yc ys U<|y3C hz.pv zsd U)<|L7 (j:=10) (dd:=22) (by kernel_rfl) U z2j z2k U U (Z:=Z) (Pr:=(fun r x=>r=e62 x)) yaq U U zLe z10a ?_
  rintro z1a1 z1a2 z10c z1a3 rfl
  refine Lf 11 23 U (fun _=>ya y9c U U)<|Lj 12 24 U (yc ys U<|y1c hz.pv z10c U)<|Lf 13 25 U (fun _=>yd7 U U z10b U)<|Lf 14 26 U (fun _=>y9s U U U)<|Lf 15 27 U (fun _=>q_min U U U)<|Lf 16 6 U (fun _=>q_z U)<|WD.done (by kernel_rfl)<|Lb<|WC.ret ?_
  obtain rfl:=oJ h
  refine Lh Tryz.results99 (.tmp U .nil)<|fun w hw=>?_
  exact⟨yC U,hw.sub .nil⟩
def y4F(z7V:zd)(zlb:z8):Option Bool:=
 some (decide ((⟨z7V.fNode,z7V.fQ⟩:z8)=zlb))
theorem ybq{Z:Zp}{zLg:Addr}{z7V:zd}{zlb:z8}{r:Bool}(h:y4F z7V zlb=some r)(w₀:World)(hz:PZ [] w₀ Z)(z10d:ZC Z zLg [(vi zlb.fNode),(vi zlb.fQ)]):
  Calls Tryz.prog 95 #[(.agg #[(vi z7V.fNode),(vi z7V.fNext),(vi z7V.fQ)]),(vq zLg)] w₀ fun e w'=>e = .returned (.bool r)∧Hp [] w₀ w' []:=by
 unfold y4F at h
 refine Lz Tryz.func95 Tryz.ntmps95 ?_
 refine WC.b<|Ld (Lg 2 (yH (cs:=[(vi z7V.fNode),(vi z7V.fNext),(vi z7V.fQ)]) U U) fun z1a4 _=>La U<|WL.nil<|Lb<|WC.b<|Ld<|Le 4 (ya y4h U U)<|Le 5 (yc ys U<|yh .here U)<|Le 6 (ya y8B U U)<|Le 7 (yc ys U<|yh .here U)<|Le 8 (yL (v:=(.agg #[(vi z7V.fNode),(vi z7V.fQ)])) (Lo (l:=[.tmp 5,.tmp 7]) (.r2 U U) [0,1]) (fun _=>by kernel_rfl))<|Le 9 (yi ydg U (y2l hz.pv z10d) U)<|Le 10 (y96 (enc:=e94) (a:=(⟨z7V.fNode,z7V.fQ⟩:z8)) (b:=zlb) eqT_94 U U)<|La U<|WL.nil<|Lb<|WC.ret ?_)
 obtain rfl:=oJ h
 refine Lh Tryz.results95 (.tmp U .nil)<|fun w hw=>?_
 exact⟨yC U,hw.sub .nil⟩
def y4G(z29:zp)(zhS:Int):Option Int:=
 if decide ((i64 (zhS-((z29.fM.length:Nat):Int)))≥0) then chk ((0:Int)≤(i64 (zhS-((z29.fM.length:Nat):Int)))∧(i64 (zhS-((z29.fM.length:Nat):Int)))<((z29.fS.length:Nat):Int)) (some ((nth z29.fS (i64 (zhS-((z29.fM.length:Nat):Int)))).fDelay)) else some 0
theorem y9N{Z:Zp}{zC3:Option Addr}{zC4:Nat}{zC5:Option Addr}{zC6:Nat}{zC7:Option Addr}{zC8:Nat}{zC9:Option Addr}{zCa:Nat}{zCb:Option Addr}{zCc:Nat}{zCd:Option Addr}{zCe:Nat}{zCf:Option Addr}{zCg:Nat}{zCh:Option Addr}{zCi:Nat}{z29:zp}{zhS:Int}{r:Int}(h:y4G z29 zhS=some r)(w₀:World)(hz:PZ [] w₀ Z)(z1a5:ZS Z 4 (y3y Z) zC3 zC4 z29.fM)(z1a6:ZS Z 4 (y4k Z) zC5 zC6 z29.fC0)(z10e:ZS Z 4 (fun r x=>r=e64 x) zC7 zC8 z29.fS)(z1a7:ZS Z 4 (fun r x=>r=e62 x) zC9 zCa z29.fK)(z1a8:ZS Z 7 (p69 Z) zCb zCc z29.fVLs)(z1a9:ZS Z 5 (fun r x=>r=y4t x) zCd zCe z29.fH)(z1aa:ZS Z 3 (y4l Z) zCf zCg z29.fU)(z1ab:ZS Z 4 (fun r x=>r=y4u x) zCh zCi z29.fV0):
  Calls Tryz.prog 54 #[(.agg #[(.slice zC3 z29.fM.length zC4),(.slice zC5 z29.fC0.length zC6),(.slice zC7 z29.fS.length zC8),(.slice zC9 z29.fK.length zCa),(.slice zCb z29.fVLs.length zCc),(.slice zCd z29.fH.length zCe),(.slice zCf z29.fU.length zCg),(.slice zCh z29.fV0.length zCi)]),(vi zhS)] w₀ fun e w'=>e = .returned (vi r)∧Hp [] w₀ w' []:=by
 unfold y4G at h
 refine Lz Tryz.func54 Tryz.ntmps54 ?_
 refine WC.b<|Ld (Lg 2 (yH (cs:=[(.slice zC3 z29.fM.length zC4),(.slice zC5 z29.fC0.length zC6),(.slice zC7 z29.fS.length zC8),(.slice zC9 z29.fK.length zCa),(.slice zCb z29.fVLs.length zCc),(.slice zCd z29.fH.length zCe),(.slice zCf z29.fU.length zCg),(.slice zCh z29.fV0.length zCi)]) U U) fun z1ac _=>La U<|WL.nil<|Lb<|WC.b<|WC.b<|Ld<|La U<|Le 7 (ya y7a U U)<|Le 8 (yc y7b U<|yh .here U)<|Le 9 (yI Tryz.underlying22 U)<|La U<|La U<|WL.nil<|Lb<|WC.b<|Ld<|La U<|La U<|WL.nil<|Lb<|WC.cond U (fun zCj=>?_)<|fun zCj=>?_)
 ·replace h:=yq h zCj
  refine WC.b ?_
  obtain⟨z10f,h⟩:=yn h
  refine Ld<|Le 13 (ya yag U U)<|Le 14 (yc yah U<|yh .here U)<|La U<|L0 (dd:=16) U U (Z:=Z) (Pr:=(fun r x=>r=e64 x)) ycL U U z10e z10f ?_
  rintro z1ad z1ae z10g z1af rfl
  refine Le 17 (ya yde U U)<|Le 18 (yc ys U<|y1c hz.pv z10g U)<|La U<|WL.nil<|Lb<|WC.ret<|Li ?_
  obtain rfl:=oJ h
  refine Lh Tryz.results54 (.tmp U .nil)<|fun w hw=>?_
  exact⟨yC U,hw.sub .nil⟩
 ·replace h:=yr h zCj
  refine WC.skip<|Lb<|WC.b<|Ld<|La U<|WL.nil<|Lb<|WC.ret ?_
  obtain rfl:=oJ h
  refine Lh Tryz.results54 (.tmp U .nil)<|fun w hw=>?_
  exact⟨yC U,hw.sub .nil⟩
def y3a(z1l:List zd)(z1j:zp)(z5m:List (z8×Int))(zdd:(List Int)→Option (List Int)):Nat→(List Int)→Int→(List (Int×Int))→Option (List Int)
 | 0,_,_,_=>none
 | zCk+1,z5n,z1m,z4w=>if decide (z1m<((z1l.length:Nat):Int)) then chk ((0:Int)≤z1m∧z1m<((z1l.length:Nat):Int)) (chk ((((z5n++([(yg z4w ((nth z1l z1m).fNode) 0)]:List Int)).length:Nat):Int)*8≤140737488355328∧(((z5n++([(yg z4w ((nth z1l z1m).fNode) 0)]:List Int)).length:Nat):Int)≤4611686018427387904) ((y4G z1j ((nth z1l z1m).fNode)).bind fun zse=>chk ((0:Int)≤((nth z1l z1m).fQ)∧((nth z1l z1m).fQ)<((z1j.fK.length:Nat):Int)) (y3a z1l z1j z5m zdd zCk (z5n++([(yg z4w ((nth z1l z1m).fNode) 0)]:List Int)) (i64 (z1m+1)) (yF z4w ((nth z1l z1m).fNext) (i64 ((i64 ((i64 ((yg z4w ((nth z1l z1m).fNode) 0)+(yg z5m (⟨((nth z1l z1m).fNode),((nth z1l z1m).fQ)⟩:z8) 0)))-zse))-((nth z1j.fK ((nth z1l z1m).fQ)).fSlow))))))) else zdd z5n
theorem y9U{n:Nat}{z1l:List zd}{z1j:zp}{z5m:List (z8×Int)}{zdd:(List Int)→Option (List Int)}{z5n:List Int}{z1m:Int}{z4w:List (Int×Int)}{r:List Int}(h:y3a z1l z1j z5m zdd n z5n z1m z4w=some r):∃ m,n=m+1:=by
 cases n with
 | zero=>cases h
 | succ m=>exact⟨m,rfl⟩
def y4H(z1j:zp)(z1l:List zd)(z5m:List (z8×Int)):Option (List Int):=
 jp1 (fun(zbd:List Int)=>some zbd) fun zdd=>y3a z1l z1j z5m zdd yx ([]:List Int) 0 ([]:List (Int×Int))
theorem y5n{Z:Zp}{zsf:Option Addr}{zsg:Nat}{zsh:Option Addr}{zsi:Nat}{zsj:Option Addr}{zsk:Nat}{zsl:Option Addr}{zsm:Nat}{zsn:Option Addr}{zso:Nat}{zsp:Option Addr}{zsq:Nat}{zsr:Option Addr}{zss:Nat}{zst:Option Addr}{zsu:Nat}{zCl:Option Addr}{zCm:Nat}{zde:Nat}{z1j:zp}{z1l:List zd}{z5m:List (z8×Int)}{r:List Int}(h:y4H z1j z1l z5m=some r)(w₀:World)(hz:PZ (fps [yp zde (fun x=>Value.agg (e94 x).toArray) (Value.int .i64) z5m]) w₀ Z)(z10h:ZS Z 4 (y3y Z) zsf zsg z1j.fM)(z10i:ZS Z 4 (y4k Z) zsh zsi z1j.fC0)(z10j:ZS Z 4 (fun r x=>r=e64 x) zsj zsk z1j.fS)(zLh:ZS Z 4 (fun r x=>r=e62 x) zsl zsm z1j.fK)(z10k:ZS Z 7 (p69 Z) zsn zso z1j.fVLs)(z10l:ZS Z 5 (fun r x=>r=y4t x) zsp zsq z1j.fH)(z10m:ZS Z 3 (y4l Z) zsr zss z1j.fU)(z10n:ZS Z 4 (fun r x=>r=y4u x) zst zsu z1j.fV0)(z10o:ZS Z 3 (fun r x=>r=e60 x) zCl zCm z1l)(hown:Hp (fps [yp zde (fun x=>Value.agg (e94 x).toArray) (Value.int .i64) z5m]) w₀ w₀ [yp zde (fun x=>Value.agg (e94 x).toArray) (Value.int .i64) z5m]):
  Calls Tryz.prog 37 #[(.agg #[(.slice zsf z1j.fM.length zsg),(.slice zsh z1j.fC0.length zsi),(.slice zsj z1j.fS.length zsk),(.slice zsl z1j.fK.length zsm),(.slice zsn z1j.fVLs.length zso),(.slice zsp z1j.fH.length zsq),(.slice zsr z1j.fU.length zss),(.slice zst z1j.fV0.length zsu)]),(.slice zCl z1l.length zCm),(.map (some zde))] w₀ fun e w'=>∃ zLi:Option Addr,∃ zLj:Nat,e = .returned (.slice zLi r.length zLj)∧True∧Hp (fps [yp zde (fun x=>Value.agg (e94 x).toArray) (Value.int .i64) z5m]) w₀ w' [row (.slice zLi r.length zLj) 3 1 (r.flatMap e3),yp zde (fun x=>Value.agg (e94 x).toArray) (Value.int .i64) z5m]:=by
 unfold y4H at h
 refine Calls.oh3 Tryz.func37 Tryz.ntmps37 hown ?_
 let A:List Value:=[(.slice zsf z1j.fM.length zsg),(.slice zsh z1j.fC0.length zsi),(.slice zsj z1j.fS.length zsk),(.slice zsl z1j.fK.length zsm),(.slice zsn z1j.fVLs.length zso),(.slice zsp z1j.fH.length zsq),(.slice zsr z1j.fU.length zss),(.slice zst z1j.fV0.length zsu)];refine WC.b (Ld (Lg 3 (yH (cs:=A) U U) ?_))
 intro zLk _
 refine La U<|WL.nil<|Lb<|WC.b<|Ld (Lg 11 (y3r (Value.int .i64)<|Value.int .i64) fun zLl _=>La U<|WL.nil<|Lb<|WC.b<|Ld<|La U<|WL.nil<|Lb ?_)
 obtain⟨zdd,z10p,h⟩:=y12 h
 refine Kc (fun(zbd:List Int) (zlc:Option Addr) (zld:Nat)=>(zdd zbd=some r)) (fun zbd zlc zld=>[(8,(.slice zlc zbd.length zld))]) (fun zbd zlc zld=>[row (.slice zlc zbd.length zld) 3 1 (zbd.flatMap e3),yp zde (fun x=>Value.agg (e94 x).toArray) (Value.int .i64) z5m]) ?_ ?_
 ·skip
  refine WC.b<|Ld<|La U<|Le 13 (yI Tryz.underlying58 U)<|La U<|WL.nil<|Lb<|WC.block<|WC.nilRow 3 1<|WC.y8m (fun(zle:Nat) (z5n:List Int) (z1m:Int) (z4w:List (Int×Int)) (zhT:Option Addr) (zhU:Nat)=>(y3a z1l z1j z5m zdd zle z5n z1m z4w=some r)) (fun zle z5n z1m z4w zhT zhU=>[(2,(.map<|some zde)),(3,(vp zLk)),(7,(.map<|some zLl)),(8,(.slice zhT z5n.length zhU)),(12,(.slice zCl z1l.length zCm)),(13,(vi ((z1l.length:Nat):Int))),(14,(vi z1m))]) (fun zle z5n z1m z4w zhT zhU=>[row (.slice zhT z5n.length zhU) 3 1 (z5n.flatMap e3),yp zde (fun x=>Value.agg (e94 x).toArray) (Value.int .i64) z5m,stb zLk 31 A,yp zLl (Value.int .i64) (Value.int .i64) z4w]) (fun zle z5n z1m z4w zhT zhU=>zle) ⟨yx,([]:List Int),0,([]:List (Int×Int)),none,0⟩ h (.r7 U U U U U U U) (.s4 .here .h2 .h1 .here) ?_
  rintro zle z5n z1m z4w zhT zhU h
  obtain⟨zCk,rfl⟩:=y9U h
  rw[y3a] at h
  refine WC.b<|Ld<|La U<|WL.nil<|Lb<|WC.b<|WC.cond U (fun zCn=>?_)<|fun zCn=>?_
  ·replace h:=yq h zCn
   refine WC.skip<|Lb<|WC.b<|WC.block<|WC.b ?_
   obtain⟨z10q,h⟩:=yn h
   refine Ld<|L0 (dd:=16) U U (Z:=Z) (Pr:=(fun r x=>r=e60 x)) y65 U U z10o z10q ?_
   rintro z1ag z1ah z10r z1ai rfl
   refine Le 17 (yi y4g U (y2l hz.pv z10r) U) (Lg 10 (yv (cs:=[(vi 0),(vi 0),(vi 0)]) y6Q U) fun z1aj _=>Lk U U (yl y7d U U U .here U U U)<|WL.nil<|Lb<|WC.b ?_)
   obtain⟨z10s,h⟩:=yn h
   refine Ld<|La U<|La U<|Le 20 (ya y4h U U)<|Le 21 (yc ys U<|yh .here U)<|Le 22 (y2S (k:=((nth z1l z1m).fNode)) (dflt:=(0:Int)) y40 Tryz.underlying148 y2H U U U .h4) (Lg 23 (yM (cs:=([(yg z4w ((nth z1l z1m).fNode) 0)]:List Int).flatMap e3) y66 (Lo (l:=[.tmp 22]) (.cons U .nil) [0]) (fun _=>by kernel_rfl) U (by unfold maxLen;omega)) fun z1ak _=>WL.fA 24 (y52 (enc:=e3) (l1:=z5n) (l2:=([(yg z4w ((nth z1l z1m).fNode) 0)]:List Int)) y66 U U .h2 (fun _=>U) U U (y3t .here) (y5o e3_oc _) z10s) ?_)
   rintro⟨z10t,z10u⟩ _
   refine La U<|WL.nil<|Lb ?_
   obtain⟨zse,z10v,h⟩:=za h
   obtain⟨z10w,h⟩:=yn h
   refine Lx (fun i=>[28].contains i) [] U<|Lf 0 25 U (fun _=>q_m U)<|Lf 1 26 U (fun _=>ya y5I U U)<|Lj 2 27 U (yc ys U<|yh .h2 U)<|Lf 3 28 U (fun _=>q_m U)<|Lf 4 29 U (fun _=>ya y4h U U)<|Lj 5 30 U (yc ys U<|yh .h2 U)<|Lj 6 31 U (y2S (k:=((nth z1l z1m).fNode)) (dflt:=(0:Int)) y40 Tryz.underlying148 y2H U U U .h5)<|Lf 7 32 U (fun _=>q_m U)<|Lf 8 33 U (fun _=>ya y4h U U)<|Lj 9 34 U (yc ys U<|yh .h2 U)<|Lf 10 35 U (fun _=>ya y8B U U)<|Lj 11 36 U (yc ys U<|yh .h2 U)<|Lf 12 37 U (fun _=>yL (v:=(.agg #[(vi<|(nth z1l z1m).fNode),(vi<|(nth z1l z1m).fQ)])) (Lo (l:=[.tmp 34,.tmp 36]) (.r2 U U) [0,1]) (fun _=>by kernel_rfl))<|Lj 13 38 U (y2S (k:=(⟨((nth z1l z1m).fNode),((nth z1l z1m).fQ)⟩:z8)) (dflt:=(0:Int)) yf2 Tryz.underlying92 y2H U U U .h3)<|Lf 14 39 U (fun _=>y9s U U U)<|Lj 15 40 U (yi y1E U (yk .h4) U)<|Lf 16 41 U (fun _=>ya y4h U U)<|Lj 17 42 U (yc ys U<|yh .h2 U)<|L4 18 43 U (zb Tryz.call54<|.r2 U U) (cc hz .nil fun w pz ho=>y9N z10v w pz z10h z10i z10j zLh z10k z10l z10m z10n)<|Lf 19 44 U (fun _=>y8H U U U)<|Lf 20 45 U (fun _=>ya y7R U U)<|Lj 21 46 U (yc y7S U<|yh .h4 U)<|Lf 22 47 U (fun _=>ya y8B U U)<|Lj 23 48 U (yc ys U<|yh .h2 U)<|L7 (j:=24) (dd:=49) (by kernel_rfl) U z2j z2k U U (Z:=Z) (Pr:=(fun r x=>r=e62 x)) yaq U U zLh z10w ?_
   rintro z1al z1am z10x z1an rfl
   let C:=(i64 ((i64 ((yg z4w ((nth z1l z1m).fNode) 0)+(yg z5m (⟨((nth z1l z1m).fNode),((nth z1l z1m).fQ)⟩:z8) 0)))-zse));refine Lf 25 50 U (fun _=>ya y9c U U) (Lj 26 51 U (yc ys U (y1c hz.pv z10x U)) (Lf 27 52 U (fun _=>y8H U U U) (Kb (i:=28) U (by kernel_rfl) U U U (by kernel_rfl) (y3U (k:=((nth z1l z1m).fNext)) (v:=i64 (C-((nth z1j.fK ((nth z1l z1m).fQ)).fSlow))) y40 Tryz.underlying148 U U U U .h5) (WD.done (by kernel_rfl) (Lt (Lb (Ld (La U (La U (WL.nil ?_))))))))))
   exact WX.round ⟨zCk,(z5n++([(yg z4w ((nth z1l z1m).fNode) 0)]:List Int)),(i64 (z1m+1)),(yF z4w ((nth z1l z1m).fNext)<|i64 (C-((nth z1j.fK<|(nth z1l z1m).fQ).fSlow))),z10t,z10u⟩ h (Nat.lt_succ_self _) (.r7 U U U U U U U)<|.s4 .h1 .h3 .h3 .here
  ·replace h:=yr h zCn
   refine WC.exit<|Lm<|Lm<|Lu ?_
   exact Ln ⟨z5n,zhT,zhU⟩ h (.cons U .nil)<|.a2
 ·rintro zbd zlc zld h
  replace h:=(z10p zbd).symm.trans h
  refine WC.b<|Ld<|La U<|La U<|WL.nil<|Lb<|WC.ret ?_
  obtain rfl:=oJ h
  refine Lh Tryz.results37 (.tmp U .nil)<|fun w hw=>?_
  exact⟨zlc,zld,yC U,trivial,hw.sub (.a2)⟩
def y4I(zdf:zd)(zoR:z8):Option Bool:=
 some (decide (zdf.fNext=zoR.fNode))
theorem ybr{Z:Zp}{zLm:Addr}{zdf:zd}{zoR:z8}{r:Bool}(h:y4I zdf zoR=some r)(w₀:World)(hz:PZ [] w₀ Z)(z10y:ZC Z zLm [(vi zoR.fNode),(vi zoR.fQ)]):
  Calls Tryz.prog 96 #[(.agg #[(vi zdf.fNode),(vi zdf.fNext),(vi zdf.fQ)]),(vq zLm)] w₀ fun e w'=>e = .returned (.bool r)∧Hp [] w₀ w' []:=by
 unfold y4I at h
 refine Lz Tryz.func96 Tryz.ntmps96 ?_
 refine WC.b<|Ld (Lg 2 (yH (cs:=[(vi zdf.fNode),(vi zdf.fNext),(vi zdf.fQ)]) U U) fun z1ao _=>La U<|WL.nil<|Lb<|WC.b<|Ld<|Le 4 (ya y5I U U)<|Le 5 (yc ys U<|yh .here U)<|Le 6 (ya yf3 U U)<|Le 7 (yc ys U<|y1c hz.pv z10y U)<|La U<|La U<|WL.nil<|Lb<|WC.ret ?_)
 obtain rfl:=oJ h
 refine Lh Tryz.results96 (.tmp U .nil)<|fun w hw=>?_
 exact⟨yC U,hw.sub .nil⟩
def y6X(z4x:zh)(zsv:Int)(zsw:Int):Option Int:=
 chk ((z4x.fBag:Int)≠0) (some (i64 (z4x.fMax*(i64 ((i64 (Int.tdiv (i64 (zsw+zsv)) z4x.fBag))+1)))))
theorem ydZ{Z:Zp}{zCo:Option Addr}{zCp:Nat}{z4x:zh}{zsv:Int}{zsw:Int}{r:Int}(h:y6X z4x zsv zsw=some r)(w₀:World)(hz:PZ [] w₀ Z)(z1ap:ZS Z 3 (fun r x=>r=e66 x) zCo zCp z4x.fTo):
  Calls Tryz.prog 98 #[(.agg #[(.string z4x.fName),(.string z4x.fFrom.fModule),(.string z4x.fFrom.fPart),(.string z4x.fFrom.fPort),(vi z4x.fBag),(vi z4x.fMax),(.slice zCo z4x.fTo.length zCp)]),(vi zsv),(vi zsw)] w₀ fun e w'=>e = .returned (vi r)∧Hp [] w₀ w' []:=by
 unfold y6X at h
 refine Ke Tryz.func98 Tryz.ntmps98 ?_
 refine WC.b<|Ld (Lg 3 (yH (cs:=[(.string z4x.fName),(.string z4x.fFrom.fModule),(.string z4x.fFrom.fPart),(.string z4x.fFrom.fPort),(vi z4x.fBag),(vi z4x.fMax),(.slice zCo z4x.fTo.length zCp)]) U U) fun z1aq _=>La U<|WL.nil<|Lb<|WC.b ?_)
 obtain⟨z10z,h⟩:=yn h
 refine Lx (fun i=>[].contains i) [] U<|Lf 0 7 U (fun _=>ya y6x U U)<|Lj 1 8 U (yc ys U<|yh .here U)<|Lf 2 9 U (fun _=>q_m U)<|Lf 3 10 U (fun _=>q_m U)<|Lf 4 11 U (fun _=>y9s U U U)<|Lf 5 12 U (fun _=>ya yf0 U U)<|Lj 6 13 U (yc ys U<|yh .here U)<|Lf 7 14 U (fun _=>yd7 U U z10z U)<|Lf 8 15 U (fun _=>y9s U U U)<|Lf 9 16 U (fun _=>y7k U U U)<|Lf 10 6 U (fun _=>q_z U)<|WD.done (by kernel_rfl)<|Lb<|WC.ret ?_
 obtain rfl:=oJ h
 refine Lh Tryz.results98 (.tmp U .nil)<|fun w hw=>?_
 exact⟨yC U,hw.sub .nil⟩
def y1h(zsx:Int)(z9U:zh)(zsy:Int):Option Int:=
 (y6X z9U zsy zsx).bind fun zLn=>some zLn
theorem ybs{Z:Zp}{zLo:Addr}{zLp:Option Addr}{zLq:Nat}{zLr:Addr}{zsx:Int}{z9U:zh}{zsy:Int}{r:Int}(h:y1h zsx z9U zsy=some r)(w₀:World)(hz:PZ [] w₀ Z)(z10A:ZS Z 3 (fun r x=>r=e66 x) zLp zLq z9U.fTo)(z10B:ZC Z zLo [(.string z9U.fName),(.string z9U.fFrom.fModule),(.string z9U.fFrom.fPart),(.string z9U.fFrom.fPort),(vi z9U.fBag),(vi z9U.fMax),(.slice zLp z9U.fTo.length zLq)])(z10C:ZC Z zLr [(vi zsy)]):
  Calls Tryz.prog 97 #[(vi zsx),(vq zLo),(vq zLr)] w₀ fun e w'=>e = .returned (vi r)∧Hp [] w₀ w' []:=by
 unfold y1h at h
 refine Ke Tryz.func97 Tryz.ntmps97 ?_
 refine WC.b<|Ld<|La U<|WL.nil<|Lb<|WC.b ?_
 obtain⟨zLn,z10D,h⟩:=za h
 refine Ld<|Le 5 (yi yf1 U (y2l hz.pv z10B) U)<|Le 6 (yc ys U<|y3C hz.pv z10C U)<|La U<|Ll 8 (zb Tryz.call98<|.r3 U U U) .nil (cc hz .nil fun w pz ho=>ydZ z10D w pz z10A)<|La U<|WL.nil<|Lb<|WC.ret ?_
 obtain rfl:=oJ h
 refine Lh Tryz.results97 (.tmp U .nil)<|fun w hw=>?_
 exact⟨yC U,hw.sub .nil⟩
end Go.Proofs.YthjnhebofpebpaaGreat
