/- A part of this claim's proof: models of functions, walks, plain laws. No conditions. -/
import Derived.Test.YthjnhebofpebpaaGreatW36e
set_option linter.all false
namespace Go.Proofs.YthjnhebofpebpaaGreat
open Go Go.RowKit Sep
set_option maxRecDepth 30000
set_option maxHeartbeats 4000000
def y2i(z5k:List zn)(zkv:zn→zn→Option Int):Option (List zn):=
 (y4k (u64 ((z5k.length:Nat):Int))).bind fun zrq=>(y4F z5k 0 ((z5k.length:Nat):Int) zrq zkv).bind fun zrr=>some zrr
theorem y85(Z:Zp)(zfj:Option Addr)(zfk:Nat)(zkw:FuncId)(zrs:List Value)(z5k:List zn)(zkv:zn→zn→Option Int)(r:List zn)(h:y2i z5k zkv=some r)(w₀:World)(hz:PZ (fps [row (.slice zfj z5k.length zfk) 53 3 (z5k.flatMap e53)]) w₀ Z)(zYp:∀ args w,(callFunc zkw args).run Tryz.prog w = .ok (.enter zkw args) w)(zYq:∀ w:World,PZ [] w Z→∀(x0:zn) (x1:zn) (r:Int),zkv x0 x1=some r→Calls Tryz.prog zkw (([(.agg #[(vi x0.fVL),(vi x0.fNode),(vi x0.fDelay)]),(.agg #[(vi x1.fVL),(vi x1.fNode),(vi x1.fDelay)])]:List Value)++zrs).toArray w fun e w'=>e = .returned (vi r)∧Hp [] w w' [])(hown:Hp (fps [row (.slice zfj z5k.length zfk) 53 3 (z5k.flatMap e53)]) w₀ w₀ [row (.slice zfj z5k.length zfk) 53 3 (z5k.flatMap e53)]):
  Calls Tryz.prog 61 #[(.slice zfj z5k.length zfk),(.func (.func zkw) #[] (zrs).toArray)] w₀ fun e w'=>e = .returned (.tuple #[])∧(r.length=z5k.length)∧Hp (fps [row (.slice zfj z5k.length zfk) 53 3 (z5k.flatMap e53)]) w₀ w' [row (.slice zfj r.length zfk) 53 3 (r.flatMap e53)]:=by
 unfold y2i at h
 refine Kg Tryz.func61 Tryz.ntmps61 hown ?_
 refine WC.b<|Ld<|La U<|Le 6 (yG Tryz.underlying38 U)<|La U<|WL.nil<|Lb ?_
 obtain⟨zrq,zYr,h⟩:=za h
 obtain⟨zrr,zYs,h⟩:=za h
 refine Ld<|La U<|La U<|La U<|Le 10 (y8y Tryz.underlying3 Tryz.underlying147 U U)<|Lk 11 (zb Tryz.call57<|.cons U .nil) .nil (cc hz .nil fun w pz ho=>y8H (Z:=_)  (z8F:=(u64 ((z5k.length:Nat):Int))) (r:=zrq) w pz  zYr)<|La U<|WL.y5h (dd:=13) U U U (zb Tryz.call110<|.r5 U U U U U) (.cons .here .nil) (cc hz (.cons .here .nil) fun w pz ho=>y8q (Z:=_) (zhv:=zfj) (zhw:=zfk) (zob:=zkw) (zAt:=zrs) (z62:=z5k) (zo9:=0) (zoa:=((z5k.length:Nat):Int)) (zku:=zrq) (zhu:=zkv) (r:=zrr) w pz zYp zYq zYs ho) ?_
 rintro  zKh
 refine Kh (i:=0) U (u:=(.slice zfj zrr.length zfk)) (y9I zKh.symm)<|WL.nil ?_
 obtain rfl:=oJ h
 refine WX.y5d Tryz.results61 .nil<|fun w hw=>?_
 exact⟨y7p,(zKh.trans U),hw.sub (.cons .here .nil)⟩
def y4P(z37:List S36)(zd4:(List (z8×Int))→Option (List zn)):Nat→Int→(List (z8×Int))→Option (List zn)
 | 0,_,_=>none
 | zAu+1,z38,z8q=>if decide (z38≥0) then chk ((0:Int)≤z38∧z38<((z37.length:Nat):Int)) (y4P z37 zd4 zAu (i64 (z38-1)) (yF z8q (⟨((nth z37 z38).fNode),((nth z37 z38).fQ)⟩:z8) ((nth z37 z38).fDelay))) else zd4 z8q
theorem ybQ{n:Nat}{z37:List S36}{zd4:(List (z8×Int))→Option (List zn)}{z38:Int}{z8q:List (z8×Int)}{r:List zn}(h:y4P z37 zd4 n z38 z8q=some r):∃ m,n=m+1:=by
 cases n with
 | zero=>cases h
 | succ m=>exact⟨m,rfl⟩
def y4Q(zl:List (List ze))(zk:Int)(zp:zs)(z1R:List (z8×Int))(zd5:(List zn)→Option (List zn)):Nat→(List zn)→Int→(List (Int×Int))→Option (List zn)
 | 0,_,_,_=>none
 | zAv+1,z3x,zw,z16=>if decide (zw<(((nth zl zk).length:Nat):Int)) then jp2 (fun(z9S:List zn) (zd6:List (Int×Int))=>y4Q zl zk zp z1R zd5 zAv z9S (i64 (zw+1)) zd6) fun zoc=>chk ((0:Int)≤zw∧zw<(((nth zl zk).length:Nat):Int)) (chk ((y2V z16 ((nth (nth zl zk) zw).fNext))=false→((0:Int)≤0∧0<(((nth zl zk).length:Nat):Int))) (if (y2V z16 ((nth (nth zl zk) zw).fNext))||(decide (((nth (nth zl zk) zw).fNext)=((nth (nth zl zk) 0).fNode))) then zoc z3x z16 else(y4J (⟨((nth (nth zl zk) zw).fNode),((nth (nth zl zk) zw).fNext),((nth (nth zl zk) zw).fQ)⟩:ze)).bind fun z7B=>if (decide (((nth (nth zl zk) zw).fNext)≥0))&&(decide (((nth (nth zl zk) zw).fNext)<((zp.fM.length:Nat):Int))) then chk ((((z3x++([(⟨zk,((nth (nth zl zk) zw).fNext),(yf (yF z16 ((nth (nth zl zk) zw).fNext) (i64 ((yf z16 ((nth (nth zl zk) zw).fNode) 0)+(yf z1R z7B 0)))) ((nth (nth zl zk) zw).fNext) 0)⟩:zn)]:List zn)).length:Nat):Int)*24≤140737488355328∧(((z3x++([(⟨zk,((nth (nth zl zk) zw).fNext),(yf (yF z16 ((nth (nth zl zk) zw).fNext) (i64 ((yf z16 ((nth (nth zl zk) zw).fNode) 0)+(yf z1R z7B 0)))) ((nth (nth zl zk) zw).fNext) 0)⟩:zn)]:List zn)).length:Nat):Int)≤4611686018427387904) (zoc (z3x++([(⟨zk,((nth (nth zl zk) zw).fNext),(yf (yF z16 ((nth (nth zl zk) zw).fNext) (i64 ((yf z16 ((nth (nth zl zk) zw).fNode) 0)+(yf z1R z7B 0)))) ((nth (nth zl zk) zw).fNext) 0)⟩:zn)]:List zn)) (yF z16 ((nth (nth zl zk) zw).fNext) (i64 ((yf z16 ((nth (nth zl zk) zw).fNode) 0)+(yf z1R z7B 0))))) else zoc z3x (yF z16 ((nth (nth zl zk) zw).fNext) (i64 ((yf z16 ((nth (nth zl zk) zw).fNode) 0)+(yf z1R z7B 0)))))) else zd5 z3x
theorem ybR{n:Nat}{zl:List (List ze)}{zk:Int}{zp:zs}{z1R:List (z8×Int)}{zd5:(List zn)→Option (List zn)}{z3x:List zn}{zw:Int}{z16:List (Int×Int)}{r:List zn}(h:y4Q zl zk zp z1R zd5 n z3x zw z16=some r):∃ m,n=m+1:=by
 cases n with
 | zero=>cases h
 | succ m=>exact⟨m,rfl⟩
def y4R(zl:List (List ze))(zp:zs)(z1R:List (z8×Int))(zd7:(List zn)→Option (List zn)):Nat→(List zn)→Int→Option (List zn)
 | 0,_,_=>none
 | zAw+1,z2s,zk=>if decide (zk<((zl.length:Nat):Int)) then jp1 (fun(z9T:List zn)=>y4R zl zp z1R zd7 zAw z9T (i64 (zk+1))) fun zAx=>chk ((0:Int)≤zk∧zk<((zl.length:Nat):Int)) (jp1 (fun(zaL:List zn)=>(y2i zaL (fun(y0:zn) (y1:zn)=>y3r y0 y1)).bind fun zhx=>chk ((((z2s++zhx).length:Nat):Int)*24≤140737488355328∧(((z2s++zhx).length:Nat):Int)≤4611686018427387904) (zAx (z2s++zhx))) fun zd5=>y4Q zl zk zp z1R zd5 yx ([]:List zn) 0 ([]:List (Int×Int))) else zd7 z2s
theorem ybS{n:Nat}{zl:List (List ze)}{zp:zs}{z1R:List (z8×Int)}{zd7:(List zn)→Option (List zn)}{z2s:List zn}{zk:Int}{r:List zn}(h:y4R zl zp z1R zd7 n z2s zk=some r):∃ m,n=m+1:=by
 cases n with
 | zero=>cases h
 | succ m=>exact⟨m,rfl⟩
def y6C(zp:zs)(zl:List (List ze))(z37:List S36):Option (List zn):=
 (y18 zl (fun(y0:List ze)=>y4u y0)).bind fun zKi=>if zKi then some ([]:List zn) else jp1 (fun(z1R:List (z8×Int))=>jp1 (fun(zaM:List zn)=>some zaM) fun zd7=>y4R zl zp z1R zd7 yx ([]:List zn) 0) fun zd4=>y4P z37 zd4 yx (i64 (((z37.length:Nat):Int)-1)) ([]:List (z8×Int))
theorem ycM{Z:Zp}{zaN:Option Addr}{zaO:Nat}{zaP:Option Addr}{zaQ:Nat}{zaR:Option Addr}{zaS:Nat}{zaT:Option Addr}{zaU:Nat}{zaV:Option Addr}{zaW:Nat}{zaX:Option Addr}{zaY:Nat}{zaZ:Option Addr}{zb0:Nat}{zb1:Option Addr}{zb2:Nat}{zb3:Option Addr}{zb4:Nat}{zAy:Option Addr}{zAz:Nat}{zp:zs}{zl:List (List ze)}{z37:List S36}{r:List zn}(h:y6C zp zl z37=some r)(w₀:World)(hz:PZ [] w₀ Z)(z18F:ZS Z 4 (y3L Z) zaN zaO zp.fM)(z18G:ZS Z 4 (y4n Z) zaP zaQ zp.fC0)(z18H:ZS Z 4 (fun r x=>r=e64 x) zaR zaS zp.fS)(z18I:ZS Z 4 (fun r x=>r=e62 x) zaT zaU zp.fK)(z18J:ZS Z 7 (p69 Z) zaV zaW zp.fVLs)(z18K:ZS Z 5 (fun r x=>r=y4C x) zaX zaY zp.fH)(z18L:ZS Z 3 (y4o Z) zaZ zb0 zp.fU)(z18M:ZS Z 4 (fun r x=>r=y4D x) zb1 zb2 zp.fV0)(zKj:ZS Z 1 (p58 Z) zb3 zb4 zl)(zAA:ZS Z 4 (fun r x=>r=e37 x) zAy zAz z37):
  Calls Tryz.prog 28 #[(.agg #[(.slice zaN zp.fM.length zaO),(.slice zaP zp.fC0.length zaQ),(.slice zaR zp.fS.length zaS),(.slice zaT zp.fK.length zaU),(.slice zaV zp.fVLs.length zaW),(.slice zaX zp.fH.length zaY),(.slice zaZ zp.fU.length zb0),(.slice zb1 zp.fV0.length zb2)]),(.slice zb3 zl.length zb4),(.slice zAy z37.length zAz)] w₀ fun e w'=>∃ zKk:Option Addr,∃ zKl:Nat,e = .returned (.slice zKk r.length zKl)∧True∧Hp [] w₀ w' [row (.slice zKk r.length zKl) 53 3 (r.flatMap e53)]:=by
 unfold y6C at h
 refine Ke Tryz.func28 Tryz.ntmps28 ?_
 let A:List Value:=[(.slice zaN zp.fM.length zaO),(.slice zaP zp.fC0.length zaQ),(.slice zaR zp.fS.length zaS),(.slice zaT zp.fK.length zaU),(.slice zaV zp.fVLs.length zaW),(.slice zaX zp.fH.length zaY),(.slice zaZ zp.fU.length zb0),(.slice zb1 zp.fV0.length zb2)];refine WC.b (Ld (Lg 3 (yI (cs:=A) U U) ?_))
 intro z7a _
 refine La U<|WL.nil<|Lb<|WC.b<|WC.b ?_
 obtain⟨zKi,zYt,h⟩:=za h
 refine Ld<|La U<|Lk 19 (zb Tryz.call50<|.r2 U U) .nil (cc hz .nil fun w pz ho=>y4G _ _ _ (zfQ:=58) (zlZ:=[]) _ (zfP:=(fun(y0:List ze)=>y4u y0)) _ zYt w pz zKj Tryz.call58<|fun w' hz' y0 ga0 gc0 r gh0 hr=>yf1 hr w' hz' gh0)<|WL.nil<|Lb<|WC.cond U (fun zAB=>?_)<|fun zAB=>?_
 ·replace h:=yr h zAB
  refine WC.b<|Ld<|La U<|WL.nil<|Lb<|WC.ret<|Lj<|WX.nilRow 53 3 ?_
  obtain rfl:=oJ h
  refine Lh Tryz.results28 (.tmp U .nil)<|fun w hw=>?_
  exact⟨none,0,yD U,trivial,hw.sub (.cons .here .nil)⟩
 ·replace h:=ys h zAB
  refine WC.skip<|Lb<|WC.b<|Ld (Lg 20 (y3b (fun x=>Value.agg (yE x).toArray)<|Value.int .i64) fun z7b _=>La U<|WL.nil<|Lb ?_)
  obtain⟨zd4,zYu,h⟩:=yZ h
  let E:Value:=(.slice zb3 zl.length zb4);refine Kf (fun(z1R:List (z8×Int))=>(zd4 z1R=some r)) (fun z1R=>[(1,E),(3,(vp z7a)),(7,(.map (some z7b)))]) (fun z1R=>[stb z7a 31 A,ym z7b (fun x=>Value.agg (yE x).toArray) (Value.int .i64) z1R]) ?_ ?_
  ·skip
   refine WC.b<|Ld<|La U<|Le 22 (yG Tryz.underlying33 U)<|La U<|La U<|WL.nil<|Lb<|WC.block<|WC.y8S (fun(zkx:Nat) (z38:Int) (z8q:List (z8×Int))=>(y4P z37 zd4 zkx z38 z8q=some r)) (fun zkx z38 z8q=>[(1,E),(2,(.slice zAy z37.length zAz)),(3,(vp z7a)),(7,(.map<|some z7b)),(8,(vi z38))]) (fun zkx z38 z8q=>[stb z7a 31 A,ym z7b (fun x=>Value.agg (yE x).toArray) (Value.int .i64) z8q]) (fun zkx z38 z8q=>zkx) ⟨yx,(i64 (((z37.length:Nat):Int)-1)),([]:List (z8×Int))⟩ h (.r5 U U U U U) (.s2 .h1 .here) ?_
   rintro zkx z38 z8q h
   obtain⟨zAu,rfl⟩:=ybQ h
   rw[y4P] at h
   refine WC.b<|WC.b<|Ld<|La U<|La U<|WL.nil<|Lb<|WC.cond U (fun zAC=>?_)<|fun zAC=>?_
   ·replace h:=yr h zAC
    refine WC.skip<|Lb<|WC.b<|WC.block ?_
    obtain⟨zAD,h⟩:=yl h
    refine Lv (fun i=>[17].contains i) [] U<|Lf 0 28 U (fun _=>q_m U)<|Lf 1 29 U (fun _=>q_m U)<|Lf 2 30 U (fun _=>q_m U)<|L5 (j:=3) (dd:=31) (by kernel_rfl) U z1Z z20 U U (Z:=Z) (Pr:=(fun r x=>r=e37 x)) y5O U U zAA zAD ?_
    rintro z18N z18O zYv z18P rfl
    refine Lf 4 32 U (fun _=>ya y78 U U)<|Li 5 33 U (yc yq U<|y17 hz.pv zYv U)<|Lf 6 34 U (fun _=>q_m U)<|Lf 7 35 U (fun _=>q_m U)<|L5 (j:=8) (dd:=36) (by kernel_rfl) U z1Z z20 U U (Z:=Z) (Pr:=(fun r x=>r=e37 x)) y5O U U zAA zAD ?_
    rintro z18Q z18R zYw z18S rfl
    refine Lf 9 37 U (fun _=>ya y8l U U)<|Li 10 38 U (yc yq U<|y17 hz.pv zYw U)<|Lf 11 39 U (fun _=>yL (v:=(.agg #[(vi<|(nth z37 z38).fNode),(vi<|(nth z37 z38).fQ)])) (Lp (l:=[.tmp 33,.tmp 38]) (.r2 U U) [0,1]) (fun _=>by kernel_rfl))<|Lf 12 40 U (fun _=>q_m U)<|Lf 13 41 U (fun _=>q_m U)<|L5 (j:=14) (dd:=42) (by kernel_rfl) U z1Z z20 U U (Z:=Z) (Pr:=(fun r x=>r=e37 x)) y5O U U zAA zAD ?_
    rintro z18T z18U zYx z18V rfl
    refine Lf 15 43 U (fun _=>ya yac U U)<|Li 16 44 U (yc yq U<|y17 hz.pv zYx U)<|Kd (i:=17) U (by kernel_rfl) U U U (by kernel_rfl) (y3o (k:=(⟨((nth z37 z38).fNode),((nth z37 z38).fQ)⟩:z8)) (v:=((nth z37 z38).fDelay)) zdA Tryz.underlying117 U U U U .h1)<|WD.done (by kernel_rfl)<|Lt<|Lb<|Ld<|La U<|La U<|La U<|WL.nil ?_
    exact WX.round ⟨zAu,(i64 (z38-1)),(yF z8q (⟨((nth z37 z38).fNode),((nth z37 z38).fQ)⟩:z8)<|(nth z37 z38).fDelay)⟩ h (Nat.lt_succ_self _) (.r5 U U U U U)<|.s2 .h1 .here
   ·replace h:=ys h zAC
    refine WC.exit<|Ln<|Ln<|Lu ?_
    exact Lo z8q h (.r3 U U U)<|.a2
  ·rintro z1R h
   replace h:=(zYu z1R).symm.trans h
   refine WC.b<|Ld<|La U<|WL.nil<|Lb ?_
   obtain⟨zd7,zYy,h⟩:=yZ h
   refine Kc (fun(zaM:List zn) (zky:Option Addr) (zkz:Nat)=>(zd7 zaM=some r)) (fun zaM zky zkz=>[(9,(.slice zky zaM.length zkz))]) (fun zaM zky zkz=>[row (.slice zky zaM.length zkz) 53 3 (zaM.flatMap e53)]) ?_ ?_
   ·skip
    let I:Value:=(vi ((zl.length:Nat):Int));refine WC.b (Ld (La U (Le 46 (yG Tryz.underlying32 U) (La U (WL.nil (Lb (WC.block (WC.nilRow 53 3 (WC.y7q (fun(zkA:Nat) (z2s:List zn) (zk:Int) (z7C:Option Addr) (z7D:Nat)=>(y4R zl zp z1R zd7 zkA z2s zk=some r)) (fun zkA z2s zk z7C z7D=>[(3,(vp z7a)),(7,(.map (some z7b))),(9,(.slice z7C z2s.length z7D)),(45,E),(46,I),(47,(vi zk))]) (fun zkA z2s zk z7C z7D=>[row (.slice z7C z2s.length z7D) 53 3 (z2s.flatMap e53),stb z7a 31 A,ym z7b (fun x=>Value.agg (yE x).toArray) (Value.int .i64) z1R]) (fun zkA z2s zk z7C z7D=>zkA) ⟨yx,([]:List zn),0,none,0⟩ h (.r6 U U U U U U) (.a3) ?_)))))))))
    rintro zkA z2s zk z7C z7D h
    obtain⟨zAw,rfl⟩:=ybS h
    rw[y4R] at h
    refine WC.b<|Ld<|La U<|WL.nil<|Lb<|WC.b<|WC.cond U (fun zAE=>?_)<|fun zAE=>?_
    ·replace h:=yr h zAE
     refine WC.skip<|Lb ?_
     obtain⟨zAx,zYz,h⟩:=yZ h
     refine Kc (fun(z9T:List zn) (zkB:Option Addr) (zkC:Nat)=>(zAx z9T=some r)) (fun z9T zkB zkC=>[(3,(vp z7a)),(7,(.map<|some z7b)),(9,(.slice zkB z9T.length zkC)),(45,E),(46,I),(47,(vi zk))]) (fun z9T zkB zkC=>[row (.slice zkB z9T.length zkC) 53 3 (z9T.flatMap e53),stb z7a 31 A,ym z7b (fun x=>Value.agg (yE x).toArray) (Value.int .i64) z1R]) ?_ ?_
     ·skip
      refine WC.block<|WC.b ?_
      obtain⟨zYA,h⟩:=yl h
      refine Ld<|La U<|L0 (dd:=50) U U (Z:=Z) (Pr:=(p58 Z)) y81 U U zKj zYA ?_
      rintro z18W z18X zYB z18Y ⟨zkD,zkE,rfl,zKm⟩
      refine Le 51 (yc y6w U<|y3a hz.pv zYB U)<|La U<|La U<|WL.nil<|Lb<|WC.b<|Ld (Lg 52 (y3b (Value.int .i64)<|Value.int .i64) fun zkF _=>La U<|WL.nil<|Lb<|WC.b<|Ld<|La U<|WL.nil<|Lb ?_)
      obtain⟨zd5,zYC,h⟩:=yZ h
      let F:Value:=(.slice z7C z2s.length z7D);refine Kc (fun(zaL:List zn) (zkG:Option Addr) (zkH:Nat)=>(zd5 zaL=some r)) (fun zaL zkG zkH=>[(3,(vp z7a)),(7,(.map (some z7b))),(9,F),(13,(.slice zkG zaL.length zkH)),(45,E),(46,I),(47,(vi zk))]) (fun zaL zkG zkH=>[row F 53 3 (z2s.flatMap e53),row (.slice zkG zaL.length zkH) 53 3 (zaL.flatMap e53),stb z7a 31 A,ym z7b (fun x=>Value.agg (yE x).toArray) (Value.int .i64) z1R]) ?_ ?_
      ·skip
       let D:Value:=(.slice zkD ((nth zl zk).length) zkE);refine WC.b (Ld (La U (Le 54 (yG Tryz.underlying58 U) (La U (WL.nil (Lb (WC.block (WC.nilRow 53 3 (WC.y8T (fun(zkI:Nat) (z3x:List zn) (zw:Int) (z16:List (Int×Int)) (zb5:Option Addr) (zb6:Nat)=>(y4Q zl zk zp z1R zd5 zkI z3x zw z16=some r)) (fun zkI z3x zw z16 zb5 zb6=>[(3,(vp z7a)),(7,(.map (some z7b))),(9,F),(10,(vi zk)),(11,D),(12,(.map (some zkF))),(13,(.slice zb5 z3x.length zb6)),(45,E),(46,(vi ((zl.length:Nat):Int))),(47,(vi zk)),(53,D),(54,(vi (((nth zl zk).length:Nat):Int))),(55,(vi zw))]) (fun zkI z3x zw z16 zb5 zb6=>[row F 53 3 (z2s.flatMap e53),row (.slice zb5 z3x.length zb6) 53 3 (z3x.flatMap e53),stb z7a 31 A,ym z7b (fun x=>Value.agg (yE x).toArray) (Value.int .i64) z1R,ym zkF (Value.int .i64) (Value.int .i64) z16]) (fun zkI z3x zw z16 zb5 zb6=>zkI) ⟨yx,([]:List zn),0,([]:List (Int×Int)),none,0⟩ h (.r13 U U U U U U U U U U U U U) (.s5 .h2 .here .h1 .h1 .here) ?_)))))))))
       rintro zkI z3x zw z16 zb5 zb6 h
       obtain⟨zAv,rfl⟩:=ybR h
       rw[y4Q] at h
       refine WC.b<|Ld<|La U<|WL.nil<|Lb<|WC.b<|WC.cond U (fun zAF=>?_)<|fun zAF=>?_
       ·replace h:=yr h zAF
        refine WC.skip<|Lb ?_
        obtain⟨zoc,zYD,h⟩:=y57 h
        refine WC.y8z (fun(z9S:List zn) (zd6:List (Int×Int)) (zkJ:Option Addr) (zkK:Nat)=>(zoc z9S zd6=some r)) (fun z9S zd6 zkJ zkK=>[(3,(vp z7a)),(7,(.map<|some z7b)),(9,F),(10,(vi zk)),(11,D),(12,(.map<|some zkF)),(13,(.slice zkJ z9S.length zkK)),(45,E),(46,(vi ((zl.length:Nat):Int))),(47,(vi zk)),(53,D),(54,(vi (((nth zl zk).length:Nat):Int))),(55,(vi zw))]) (fun z9S zd6 zkJ zkK=>[row F 53 3 (z2s.flatMap e53),row (.slice zkJ z9S.length zkK) 53 3 (z9S.flatMap e53),stb z7a 31 A,ym z7b (fun x=>Value.agg (yE x).toArray) (Value.int .i64) z1R,ym zkF (Value.int .i64) (Value.int .i64) zd6]) ?_ ?_
        ·skip
         refine WC.block<|WC.b ?_
         obtain⟨zYE,h⟩:=yl h
         refine Ld<|L0 (dd:=57) U U (Z:=Z) (Pr:=(fun r x=>r=e60 x)) y5i U U zKm zYE ?_
         rintro zYF z18Z zYG z190 rfl
         refine Le 58 (yh y3z U (y2d hz.pv zYG) U) (Lg 15 (yv (cs:=[(vi 0),(vi 0),(vi 0)]) y5N U) fun zKn _=>Ll U U (yn y60 U U U .here U U U)<|WL.nil<|Lb<|WC.b<|WC.b<|Ld<|La U<|Le 61 (ya y5p U U)<|Le 62 (yc yq U<|yi .here U)<|Le 63 (yih (k:=((nth (nth zl zk) zw).fNext)) (dflt:=(0:Int)) y43 Tryz.underlying148 y2v U U U .h5)<|La U<|La U<|La U<|La U<|La U<|WL.nil<|Lb<|WC.b ?_)
         obtain⟨zYH,h⟩:=yl h
         let C:Value:=(.bool (y2V z16 ((nth (nth zl zk) zw).fNext)));let G:Value:=(vi (yf z16 ((nth (nth zl zk) zw).fNext) 0));let J:=(((nth zl zk).length:Nat):Int);let K:Value:=(vi ((nth (nth zl zk) zw).fNext));refine Lv (fun i=>[].contains i) [] U (Lf 0 66 U (fun _=>q_m U) (Lf 1 67 U (fun _=>q_m U) (Kb (fuel':=0) [(3,(vp z7a)),(7,(.map (some z7b))),(9,F),(10,(vi zk)),(11,D),(12,(.map (some zkF))),(13,(.slice zb5 z3x.length zb6)),(45,E),(46,I),(47,(vi zk)),(53,D),(54,(vi J)),(55,(vi zw)),(56,(.bool (decide (zw<J)))),(57,(vq zYF)),(58,(.agg #[(vi ((nth (nth zl zk) zw).fNode)),K,(vi ((nth (nth zl zk) zw).fQ))])),(15,(vp zKn)),(60,(.map (some zkF))),(61,(.pointer (some ⟨zKn,1,none⟩))),(62,K),(63,(.tuple #[G,C])),(59,(.tuple #[G,C])),(64,G),(65,C),(16,G),(17,C),(66,C),(67,C),(75,(.bool ((y2V z16 ((nth (nth zl zk) zw).fNext))||(decide (((nth (nth zl zk) zw).fNext)=((nth (nth zl zk) 0).fNode))))))] (y1U 10 [9,8,7,6,5,4,3,2,1,0]) ?_ (fun zKo=>?_))))
         rotate_left
         ·rcases Bool.eq_false_or_eq_true (y2V z16 ((nth (nth zl zk) zw).fNext)) with hb' | hb'
          ·have zAG:=hb';clear hb'
           refine L2 (i:=67) U zAG<|Lm 2 68 U<|Lm 3 69 U<|Lm 4 70 U<|Lm 5 71 U<|Lm 6 72 U<|Lm 7 73 U<|Lm 8 74 U<|Lf 9 75 U (fun _=>y3x U U)<|Lw (.a6) ?_ zKo
           exact .r29 U U U U U U U U U U U U U U U U U U U U U U U U U U U (zD<|Eq.symm zAG)<|zD<|y7Q zAG
          ·have zrt:=hb';clear hb'
           have zYI:=zYH zrt
           refine L2 (i:=67) U zrt<|Lf 2 68 U (fun _=>ya y5p U U)<|Li 3 69 U (yc yq U<|yi .here U)<|Lf 4 70 U (fun _=>q_m U)<|L5 (j:=5) (dd:=71) (by kernel_rfl) U z1Z z20 U U (Z:=Z) (Pr:=(fun r x=>r=e60 x)) y5i U U zKm zYI ?_
           rintro z191 z192 zYJ z193 rfl
           refine Lf 6 72 U (fun _=>ya y32 U U)<|Li 7 73 U (yc yq U<|y17 hz.pv zYJ U)<|Lf 8 74 U (fun _=>y9U U U)<|Lf 9 75 U (fun _=>y3y U U)<|Lw (.a6) ?_ zKo
           exact .r29 U U U U U U U U U U U U U U U U U U U U U U U U U U U (zD<|Eq.symm zrt)<|zD<|y7R zrt
         refine WD.done (by kernel_rfl)<|Lb<|WC.cond U (fun zAH=>?_)<|fun zAH=>?_
         ·replace h:=yr h zAH
          refine WC.exit<|Ln<|Lu ?_
          exact Lo ⟨z3x,z16,zb5,zb6⟩ h (.r13 U U U U U U U U U U U U U)<|.s5 .h1 .h1 .h1 .h1 .h1
         ·replace h:=ys h zAH
          refine WC.skip<|Lb<|WC.b ?_
          obtain⟨z7B,zYK,h⟩:=za h
          refine Lv (fun i=>[12].contains i) [] U<|Lf 0 76 U (fun _=>q_m U)<|Lf 1 77 U (fun _=>ya y5p U U)<|Li 2 78 U (yc yq U<|yi .here U)<|Lf 3 79 U (fun _=>q_m U)<|Lf 4 80 U (fun _=>ya y32 U U)<|Li 5 81 U (yc yq U<|yi .here U)<|Li 6 82 U (y2C (k:=((nth (nth zl zk) zw).fNode)) (dflt:=(0:Int)) y43 Tryz.underlying148 y2v U U U .h5)<|Lf 7 83 U (fun _=>q_m U)<|Li 8 84 U (yh y3z U (yj .here) U)<|L4 9 85 U (zb Tryz.call60<|.cons U .nil) (cc hz .nil fun w pz ho=>y67 zYK w pz )<|Li 10 86 U (y2C (k:=z7B) (dflt:=(0:Int)) zdA Tryz.underlying117 y2v U U U .h4)<|Lf 11 87 U (fun _=>y8w U U U)<|Kd (i:=12) U (by kernel_rfl) U U U (by kernel_rfl) (y3o (k:=((nth (nth zl zk) zw).fNext)) (v:=i64 ((yf z16 ((nth (nth zl zk) zw).fNode) 0)+(yf z1R z7B 0))) y43 Tryz.underlying148 U U U U .h5)<|WD.done (by kernel_rfl)<|Lb<|WC.b<|Ld<|Le 88 (ya y5p U U)<|Le 89 (yc yq U<|yi .h1 U)<|La U<|La U<|Lx true 6 91 (B:=(decide (((nth (nth zl zk) zw).fNext)≥0))&&(decide (((nth (nth zl zk) zw).fNext)<((zp.fM.length:Nat):Int)))) U U U U U U (fun h=>(y3W h).symm) (fun _ zYL=>?_) ?_
          ·skip
           refine Le 92 (ya y5p U U)<|Le 93 (yc yq U<|yi .h1 U)<|Le 94 (ya y6u U U)<|Le 95 (yc y6v U<|yi .h4 U)<|Le 96 (yG Tryz.underlying22 U)<|La U<|La U ?_
           exact Ly (y3X zYL) U U .all
          refine WL.nil<|Lb<|WC.cond U (fun zAI=>?_)<|fun zAI=>?_
          ·replace h:=yr h zAI
           obtain⟨zYM,h⟩:=yl h
           refine Ld<|La U<|La U<|Le 101 (ya y5p U U)<|Le 102 (yc yq U<|yi .h1 U)<|La U<|Le 104 (ya y5p U U)<|Le 105 (yc yq U<|yi .h1 U)<|Le 106 (y2C (k:=((nth (nth zl zk) zw).fNext)) (dflt:=(0:Int)) y43 Tryz.underlying148 y2v U U U .here)<|Le 107 (yL (v:=(.agg #[(vi zk),(vi<|(nth (nth zl zk) zw).fNext),(vi<|yf (yF z16 ((nth (nth zl zk) zw).fNext)<|i64 ((yf z16 ((nth (nth zl zk) zw).fNode) 0)+(yf z1R z7B 0))) ((nth (nth zl zk) zw).fNext) 0)])) (Lp (l:=[.tmp 100,.tmp 102,.tmp 106]) (.r3 U U U) [0,1,2]) (fun _=>by kernel_rfl))<|Lg 108 (yS (cs:=([(⟨zk,((nth (nth zl zk) zw).fNext),(yf (yF z16 ((nth (nth zl zk) zw).fNext)<|i64 ((yf z16 ((nth (nth zl zk) zw).fNode) 0)+(yf z1R z7B 0))) ((nth (nth zl zk) zw).fNext) 0)⟩:zn)]:List zn).flatMap e53) ybe (Lp (l:=[.tmp 107]) (.cons U .nil) [0]) (fun _=>by kernel_rfl) U (by unfold maxLen;omega)) ?_
           intro z194 _
           let H:=(i64 ((yf z16 ((nth (nth zl zk) zw).fNode) 0)+(yf z1R z7B 0)));refine WL.fA 109 (y4W (enc:=e53) (l1:=z3x) (l2:=([(⟨zk,((nth (nth zl zk) zw).fNext),(yf (yF z16 ((nth (nth zl zk) zw).fNext) H) ((nth (nth zl zk) zw).fNext) 0)⟩:zn)]:List zn)) ybe U U .h4 (fun _=>U) U U (y3u .here) (y5o yg0 _) zYM) ?_
           rintro⟨zYN,zYO⟩ _
           refine La U<|WL.nil<|Lt ?_
           exact Lo ⟨(z3x++([(⟨zk,((nth (nth zl zk) zw).fNext),(yf (yF z16 ((nth (nth zl zk) zw).fNext) H) ((nth (nth zl zk) zw).fNext) 0)⟩:zn)]:List zn)),(yF z16 ((nth (nth zl zk) zw).fNext) H),zYN,zYO⟩ h (.r13 U U U U U U U U U U U U U)<|.s5 .h4 .here .h3 .h3 .h1
          ·replace h:=ys h zAI
           refine WC.skip<|Lt ?_
           exact Lo ⟨z3x,(yF z16 ((nth (nth zl zk) zw).fNext)<|i64 ((yf z16 ((nth (nth zl zk) zw).fNode) 0)+(yf z1R z7B 0))),zb5,zb6⟩ h (.r13 U U U U U U U U U U U U U)<|.s5 .h2 .h2 .h2 .h2 .here
        ·rintro z9S zd6 zkJ zkK h
         replace h:=(zYD z9S zd6).symm.trans h
         refine Ld<|La U<|La U<|WL.nil ?_
         exact WX.round ⟨zAv,z9S,(i64 (zw+1)),zd6,zkJ,zkK⟩ h (Nat.lt_succ_self _) (.r13 U U U U U U U U U U U U U)<|.a5
       ·replace h:=ys h zAF
        refine WC.exit<|Ln<|Ln<|Lu ?_
        exact Lo ⟨z3x,zb5,zb6⟩ h (.r7 U U U U U U U)<|.a4
      ·rintro zaL zkG zkH h
       replace h:=(zYC zaL).symm.trans h
       refine WC.b ?_
       obtain⟨zhx,zYP,h⟩:=za h
       refine Ld<|La U<|WL.y5h (dd:=112) U U U (zb Tryz.call61<|.r2 U U) (.cons .h1 .nil) (cc hz (.cons .h1 .nil) fun w pz ho=>y85 _ _ _ (zkw:=62) (zrs:=[]) _ (zkv:=(fun(y0:zn) (y1:zn)=>y3r y0 y1)) _ zYP w pz Tryz.call62 (fun w' hz' y0 y1  r  hr=>yf2 hr w' hz' ) ho) ?_
       rintro  zYQ
       refine Kh (i:=13) U (u:=(.slice zkG zhx.length zkH)) (y9I zYQ.symm)<|WL.nil<|Lb ?_
       obtain⟨zYR,h⟩:=yl h
       refine Ld<|La U<|La U<|WL.fA 115 (y4W (enc:=e53) (l1:=z2s) (l2:=zhx) ybe U U .h1 (fun _=>U) U U (y3u .here) (y5o yg0 _) zYR) ?_
       rintro⟨zYS,zYT⟩ _
       refine La U<|WL.nil<|Lt ?_
       exact Lo ⟨(z2s++zhx),zYS,zYT⟩ h (.r6 U U U U U U)<|.s3 .here .h1 .h1
     ·rintro z9T zkB zkC h
      replace h:=(zYz z9T).symm.trans h
      refine Ld<|La U<|La U<|WL.nil ?_
      exact WX.round ⟨zAw,z9T,(i64 (zk+1)),zkB,zkC⟩ h (Nat.lt_succ_self _) (.r6 U U U U U U)<|.a3
    ·replace h:=ys h zAE
     refine WC.exit<|Ln<|Ln<|Lu ?_
     exact Lo ⟨z2s,z7C,z7D⟩ h (.cons U .nil)<|.cons .here .nil
   ·rintro zaM zky zkz h
    replace h:=(zYy zaM).symm.trans h
    refine WC.b<|Ld<|La U<|La U<|WL.nil<|Lb<|WC.ret ?_
    obtain rfl:=oJ h
    refine Lh Tryz.results28 (.tmp U .nil)<|fun w hw=>?_
    exact⟨zky,zkz,yD U,trivial,hw.sub (.cons .here .nil)⟩
def y2M(z4Q:List z8×Int)(zA:zs)(z4R:List (List ze))(zd8:(List S36)→Option (S39×Int)):Nat→Int→Int→(List S36)→(List (zO×z2))→(List (z8×Int))→Option (S39×Int)
 | 0,_,_,_,_,_=>none
 | zAJ+1,z5l,zb7,z4t,zb8,zb9=>if decide (z5l<((z4Q.1.length:Nat):Int)) then chk ((0:Int)≤z5l∧z5l<((z4Q.1.length:Nat):Int)) ((y5G zA z4R zb8 zb9 zb7 (⟨((nth z4Q.1 z5l).fNode),((nth z4Q.1 z5l).fQ)⟩:z8)).bind fun z63=>chk ((((z4t++([z63.1]:List S36)).length:Nat):Int)*32≤140737488355328∧(((z4t++([z63.1]:List S36)).length:Nat):Int)≤4611686018427387904) (if decide (z63.2.1≠0) then some ((⟨([]:List S36),([]:List zn)⟩:S39),z63.2.1) else y2M z4Q zA z4R zd8 zAJ (i64 (z5l+1)) z63.2.1 (z4t++([z63.1]:List S36)) z63.2.2.1 z63.2.2.2)) else zd8 z4t
theorem yaI{n:Nat}{z4Q:List z8×Int}{zA:zs}{z4R:List (List ze)}{zd8:(List S36)→Option (S39×Int)}{z5l:Int}{zb7:Int}{z4t:List S36}{zb8:List (zO×z2)}{zb9:List (z8×Int)}{r:S39×Int}(h:y2M z4Q zA z4R zd8 n z5l zb7 z4t zb8 zb9=some r):∃ m,n=m+1:=by
 cases n with
 | zero=>cases h
 | succ m=>exact⟨m,rfl⟩
def y6e(zA:zs)(zru:Int)(z4R:List (List ze)):Option (S39×Int):=
 (y4c zA zru z4R).bind fun zKp=>if !zKp then some ((⟨([]:List S36),([]:List zn)⟩:S39),310) else(y22 zA.fVLs (fun(y0:z14)=>y2Y y0)).bind fun zKq=>if zKq then some ((⟨([]:List S36),([]:List zn)⟩:S39),350) else(y5B z4R).bind fun z4Q=>if decide (z4Q.2≠0) then some ((⟨([]:List S36),([]:List zn)⟩:S39),z4Q.2) else jp1 (fun(zba:List S36)=>(yQ zba (fun(y0:S36) (y1:S36)=>y2f y0 y1)).bind fun zod=>(y6C zA z4R zod).bind fun zAK=>some ((⟨zod,zAK⟩:S39),0)) fun zd8=>y2M z4Q zA z4R zd8 yx 0 0 ([]:List S36) ([]:List (zO×z2)) ([]:List (z8×Int))
theorem yen{Z:Zp}{zfl:Option Addr}{zfm:Nat}{zfn:Option Addr}{zfo:Nat}{zfp:Option Addr}{zfq:Nat}{zfr:Option Addr}{zfs:Nat}{zft:Option Addr}{zfu:Nat}{zfv:Option Addr}{zfw:Nat}{zfx:Option Addr}{zfy:Nat}{zfz:Option Addr}{zfA:Nat}{zhy:Option Addr}{zhz:Nat}{zA:zs}{zru:Int}{z4R:List (List ze)}{r:S39×Int}(h:y6e zA zru z4R=some r)(w₀:World)(hz:PZ [] w₀ Z)(zAL:ZS Z 4 (y3L Z) zfl zfm zA.fM)(zAM:ZS Z 4 (y4n Z) zfn zfo zA.fC0)(zAN:ZS Z 4 (fun r x=>r=e64 x) zfp zfq zA.fS)(zAO:ZS Z 4 (fun r x=>r=e62 x) zfr zfs zA.fK)(zrv:ZS Z 7 (p69 Z) zft zfu zA.fVLs)(zAP:ZS Z 5 (fun r x=>r=y4C x) zfv zfw zA.fH)(zAQ:ZS Z 3 (y4o Z) zfx zfy zA.fU)(zAR:ZS Z 4 (fun r x=>r=y4D x) zfz zfA zA.fV0)(zrw:ZS Z 1 (p58 Z) zhy zhz z4R):
  Calls Tryz.prog 18 #[(.agg #[(.slice zfl zA.fM.length zfm),(.slice zfn zA.fC0.length zfo),(.slice zfp zA.fS.length zfq),(.slice zfr zA.fK.length zfs),(.slice zft zA.fVLs.length zfu),(.slice zfv zA.fH.length zfw),(.slice zfx zA.fU.length zfy),(.slice zfz zA.fV0.length zfA)]),(vi zru),(.slice zhy z4R.length zhz)] w₀ fun e w'=>∃ zKr:Option Addr,∃ zKs:Nat,∃ zKt:Option Addr,∃ zKu:Nat,e = .returned (.tuple #[(.agg #[(.slice zKr r.1.fP.length zKs),(.slice zKt r.1.fEnds.length zKu)]),(vi r.2)])∧True∧Hp [] w₀ w' [row (.slice zKr r.1.fP.length zKs) 37 4 (r.1.fP.flatMap e37),row (.slice zKt r.1.fEnds.length zKu) 53 3 (r.1.fEnds.flatMap e53)]:=by
 unfold y6e at h
 refine Ke Tryz.func18 Tryz.ntmps18 ?_
 let D:Value:=(.slice zft zA.fVLs.length zfu);let E:Value:=(.slice zfn zA.fC0.length zfo);let F:Value:=(.slice zfz zA.fV0.length zfA);let G:Value:=(.slice zfl zA.fM.length zfm);let H:Value:=(.slice zfp zA.fS.length zfq);let I:Value:=(.slice zfr zA.fK.length zfs);let J:Value:=(.slice zfv zA.fH.length zfw);let K:Value:=(.slice zfx zA.fU.length zfy);let A:List Value:=[G,E,H,I,D,J,K,F];refine WC.b (Ld (Lg 3 (yI (cs:=A) U U) ?_))
 intro zrx _
 refine Lg 6 (yv (cs:=[vn,vn]) y7v U) fun zry _=>La U<|WL.nil<|Lb<|WC.b<|WC.b ?_
 obtain⟨zKp,zYU,h⟩:=za h
 refine Ld<|Le 14 (yh y1V U (yj .h1) U)<|La U<|La U<|Lk 17 (zb Tryz.call22<|.r3 U U U) .nil (cc hz .nil fun w pz ho=>y7h zYU w pz zAL zAM zAN zAO zrv zAP zAQ zAR zrw)<|La U<|WL.nil<|Lb<|WC.cond U (fun zAS=>?_)<|fun zAS=>?_
 ·replace h:=yr h zAS
  refine WC.b<|Ld<|Le 19 (yL (v:=(.agg #[vn,vn])) (Lp (l:=[]) .nil []) (fun _=>by kernel_rfl))<|Ll U U (yn y5q U U U .here U U U)<|La U<|WL.nil<|Lb<|WC.ret<|Lj<|WX.nilRow 37 4<|WX.nilRow 53 3 ?_
  obtain rfl:=oJ h
  refine Lh Tryz.results18 (.agg U y5r U (yj .h2)<|.tmp U .nil)<|fun w hw=>?_
  exact⟨none,0,none,0,y1R U U,trivial,hw.sub (.s2 .h1 .here)⟩
 ·replace h:=ys h zAS
  refine WC.skip<|Lb<|WC.b<|WC.b ?_
  obtain⟨zKq,zYV,h⟩:=za h
  refine Ld<|Le 20 (ya y7F U U)<|Le 21 (yc y7G U<|yi .h1 U)<|Lk 22 (zb Tryz.call39<|.r2 U U) .nil (cc hz .nil fun w pz ho=>y7J _ _ _ (ziF:=40) (zpM:=[]) _ (ziE:=(fun(y0:z14)=>y2Y y0)) _ zYV w pz zrv Tryz.call40<|fun w' hz' y0 ga0 gc0 r gh0 hr=>ydm hr w' hz' gh0)<|WL.nil<|Lb<|WC.cond U (fun zAT=>?_)<|fun zAT=>?_
  ·replace h:=yr h zAT
   refine WC.b<|Ld<|Le 23 (yL (v:=(.agg #[vn,vn])) (Lp (l:=[]) .nil []) (fun _=>by kernel_rfl))<|Ll U U (yn y5q U U U .here U U U)<|La U<|WL.nil<|Lb<|WC.ret<|Lj<|WX.nilRow 37 4<|WX.nilRow 53 3 ?_
   obtain rfl:=oJ h
   refine Lh Tryz.results18 (.agg U y5r U (yj .h2)<|.tmp U .nil)<|fun w hw=>?_
   exact⟨none,0,none,0,y1R U U,trivial,hw.sub (.s2 .h1 .here)⟩
  ·replace h:=ys h zAT
   refine WC.skip<|Lb<|WC.b ?_
   obtain⟨z4Q,zYW,h⟩:=za h
   refine Ld<|La U<|WL.y4b (dd:=26) U U U (zb Tryz.call42<|.cons U .nil) .nil (cc hz .nil fun w pz ho=>ycf zYW w pz zrw) ?_
   rintro zKv zKw _
   refine La U<|La U<|La U<|La U<|La U<|WL.nil<|Lb<|WC.b<|WC.b<|Ld<|La U<|La U<|WL.nil<|Lb<|WC.cond U (fun zAU=>?_)<|fun zAU=>?_
   ·replace h:=yr h zAU
    refine WC.b<|Ld<|Le 31 (yL (v:=(.agg #[vn,vn])) (Lp (l:=[]) .nil []) (fun _=>by kernel_rfl))<|La U<|Ll U U (yn y5q U U U .h1 U U U)<|La U<|WL.nil<|Lb<|WC.ret<|Lj<|WX.nilRow 37 4<|WX.nilRow 53 3 ?_
    obtain rfl:=oJ h
    refine Lh Tryz.results18 (.agg U y5r U (yj .h2)<|.tmp U .nil)<|fun w hw=>?_
    exact⟨none,0,none,0,y1R U U,trivial,hw.sub (.s2 .h1 .here)⟩
   ·replace h:=ys h zAU
    refine WC.skip<|Lb<|WC.b<|Ld<|Le 33 (yh y1V U (yj .h2) U)<|La U (Lg 35 (y3b (fun x=>Value.agg (y2J x).toArray)<|fun x=>Value.agg (yA x).toArray) fun zrz _=>Lg 36 (y3b (fun x=>Value.agg (yE x).toArray)<|Value.int .i64) ?_)
    intro zrA _
    let C:Value:=(.slice zhy z4R.length zhz);refine Le 37 (yL (v:=(.agg #[G,E,H,I,D,J,K,F,C,(.map (some zrz)),(.map (some zrA)),(vi 0)])) (Lp (l:=[.tmp 33,.tmp 34,.tmp 35,.tmp 36,.const (vi 0)]) (.r5 U U U U U) [0,1,2,3,4]) (fun _=>by kernel_rfl)) (Lg 38 (yI (cs:=[G,E,H,I,D,J,K,F,C,(.map (some zrz)),(.map (some zrA)),(vi 0)]) U U) ?_)
    intro zAV _
    refine La U<|WL.nil<|Lb<|WC.b<|Ld (Lg 11 (yv (cs:=[vn,vn]) y7v U) fun zoe _=>WL.nil<|Lb ?_)
    obtain⟨zd8,zYX,h⟩:=yZ h
    refine Kc (fun(zba:List S36) (zfB:Option Addr) (zfC:Nat)=>(zd8 zba=some r)) (fun zba zfB zfC=>[(2,C),(3,(vp zrx)),(6,(vp zry)),(11,(vp zoe))]) (fun zba zfB zfC=>[stb zrx 31 A,stb zry 40 [vn,vn],stb zoe 40 [(.slice zfB zba.length zfC),vn],row (.slice zfB zba.length zfC) 37 4 (zba.flatMap e37)]) ?_ ?_
    ·skip
     let L:Value:=(.slice zKv z4Q.1.length zKw);refine WC.b (Ld (La U (Le 40 (yG Tryz.underlying112 U) (La U (WL.nil (Lb (WC.block (WC.nilRow 37 4 (WC.yag (fun(zkL:Nat) (z5l:Int) (zb7:Int) (z4t:List S36) (zb8:List (zO×z2)) (zb9:List (z8×Int)) (zfD:Option Addr) (zfE:Nat)=>(y2M z4Q zA z4R zd8 zkL z5l zb7 z4t zb8 zb9=some r)) (fun zkL z5l zb7 z4t zb8 zb9 zfD zfE=>[(2,C),(3,(vp zrx)),(6,(vp zry)),(10,(vp zAV)),(11,(vp zoe)),(39,L),(40,(vi ((z4Q.1.length:Nat):Int))),(41,(vi z5l))]) (fun zkL z5l zb7 z4t zb8 zb9 zfD zfE=>[row L 121 2 (z4Q.1.flatMap yE),stb zrx 31 A,stb zry 40 [vn,vn],stb zAV 119 [G,E,H,I,D,J,K,F,C,(.map (some zrz)),(.map (some zrA)),(vi zb7)],stb zoe 40 [(.slice zfD z4t.length zfE),vn],row (.slice zfD z4t.length zfE) 37 4 (z4t.flatMap e37),ym zrz (fun x=>Value.agg (y2J x).toArray) (fun x=>Value.agg (yA x).toArray) zb8,ym zrA (fun x=>Value.agg (yE x).toArray) (Value.int .i64) zb9]) (fun zkL z5l zb7 z4t zb8 zb9 zfD zfE=>zkL) ⟨yx,0,0,([]:List S36),([]:List (zO×z2)),([]:List (z8×Int)),none,0⟩ h (.r8 U U U U U U U U) (.s8 .h5 .h6 .h5 .h2 .h1 .here .h1 .here) ?_)))))))))
     rintro zkL z5l zb7 z4t zb8 zb9 zfD zfE h
     obtain⟨zAJ,rfl⟩:=yaI h
     rw[y2M] at h
     refine WC.b<|Ld<|La U<|WL.nil<|Lb<|WC.b<|WC.cond U (fun zAW=>?_)<|fun zAW=>?_
     ·replace h:=yr h zAW
      refine WC.skip<|Lb<|WC.b<|WC.block<|WC.b ?_
      obtain⟨zof,h⟩:=yl h
      refine Ld<|Ki (fun w hw=>Hp.y2u .here hw (by intro hz';have:=zof;rw[hz'] at this;omega)) ?_
      rintro⟨z195,rfl⟩
      refine Le 43 (yW z7h U U zof.1 zof.2 y30)<|Le 44 (y14 (cs:=(yE<|nth z4Q.1 z5l)) z5v U U<|y4S .here<|y31 (enc:=yE) (l:=z4Q.1) (i:=z5l) (sz:=2) (fun _=>U) zof.1 zof.2) (Lg 13 (yv (cs:=[(vi 0),(vi 0)]) zly U) fun z196 _=>Ll U U (yn zp1 U U U .here U U U)<|WL.nil<|Lb<|WC.b ?_)
      obtain⟨z63,zYY,h⟩:=za h
      obtain⟨zYZ,h⟩:=yl h
      refine Lv (fun i=>[4,6,8].contains i) [y7S zoe 40 [(0,(.slice zfD z4t.length zfE))]] U<|Lf 0 45 U (fun _=>ya y4T U U)<|L7 1 46 U (Sin.wk (.cons .h5 .nil)<|.stb (.cons U .nil) .nil) (yc y4U U<|y5Z .here<|.head _)<|Lf 2 47 U (fun _=>q_m U)<|Li 3 48 U (yh z5v U (yj .here) U) (Ka (i:=4) (dd:=49) U (by kernel_rfl) U U U (.inl ⟨U,(Sin.wk (.cons .h7 .nil)<|.stb (.cons U .nil) .nil)⟩) (zb Tryz.call43<|.r2 U U) (.s3 .h4 .h6 .h6) (cc hz (.s3 .h4 .h6 .h6) fun w pz ho=>Calls.mono (ydo zYY w pz zAL zAM zAN zAO zrv zAP zAQ zAR zrw ho)<|fun _ _ h'=>⟨h'.1,trivial,h'.2⟩) fun _=>WD.new (i:=5) (dd:=50) U (by kernel_rfl) U U U (yS (cs:=([z63.1]:List S36).flatMap e37) y5O (Lp (l:=[.tmp 49]) (.cons U .nil) [0]) (fun _=>by kernel_rfl) U (by unfold maxLen;omega)) (fun h'=>absurd h' (by decide)) fun z197 _=>WD.old (i:=6) (dd:=51) U (by kernel_rfl) U U U U (fun _=>(Sin.wk (.cons (.there<|.there .h7) .nil)<|.stb (.cons U .nil) .nil)) (y4W (enc:=e37) (l1:=z4t) (l2:=([z63.1]:List S36)) y5O U U (.there<|.there .h7) (fun _=>U) U U (y3u .here) (y5o yee _) zYZ) ?_)
      rintro⟨zKx,zKy⟩ _
      refine Lf 7 52 U (fun _=>ya y4T U U)<|Kd (i:=8) U (by kernel_rfl) U U U (by kernel_rfl) (y4I (ds:=[(.slice zKx ((z4t++([z63.1]:List S36)).length) zKy),vn]) yhf U U U U U (.there<|.there .h7) U U)<|WD.done (by kernel_rfl)<|Lb<|WC.b<|Ld<|La U<|Le 54 (y1f U)<|Le 55 (ya y95 U U)<|Le 56 (yc y3A U<|yi .h3 U)<|La U<|WL.nil<|Lb<|WC.cond U (fun zAX=>?_)<|fun zAX=>?_
      ·replace h:=yr h zAX
       refine WC.b<|Lv (fun i=>[5].contains i) [y7S zAV 119 [(11,(vi z63.2.1))]] U<|Lf 0 58 U (fun _=>yL (v:=(.agg #[vn,vn])) (Lp (l:=[]) .nil []) (fun _=>by kernel_rfl))<|Lf 1 59 U (fun _=>q_m U)<|Lf 2 60 U (fun _=>y1f U)<|Lf 3 61 U (fun _=>ya y95 U U)<|L7 4 62 U (Sin.wk (.cons .h3 .nil)<|.stb (.cons U .nil) .nil) (yc y3A U<|y5Z .here<|.head _)<|WD.forced0 (i:=5) U (by kernel_rfl) U U U (Sin.wk (.cons .h4 .nil)<|.stb (.cons U .nil) .nil) (yn y5q U U U (.there<|.there .h7) U U U)<|Lf 6 7 U (fun _=>q_z U)<|WD.done (by kernel_rfl)<|Lb<|WC.ret<|Lq<|Lj<|Lj<|Lq<|Lj<|WX.nilRow 37 4<|WX.nilRow 53 3 ?_
       obtain rfl:=oJ h
       refine Lh Tryz.results18 (.agg U y5r U (yj .h2)<|.tmp U .nil)<|fun w hw=>?_
       exact⟨none,0,none,0,y1R U U,trivial,hw.sub (.s2 .h1 .here)⟩
      ·replace h:=ys h zAX
       refine WC.skip<|Lt<|Lb<|Ld<|La U<|La U<|WL.nil ?_
       exact WX.round ⟨zAJ,(i64 (z5l+1)),z63.2.1,(z4t++([z63.1]:List S36)),z63.2.2.1,z63.2.2.2,zKx,zKy⟩ h (Nat.lt_succ_self _) (.r8 U U U U U U U U)<|.s8 .h7 .h7 .h7 .h3 .here .here .h1 .h1
     ·replace h:=ys h zAW
      refine WC.exit<|Ln<|Ln<|Lu ?_
      exact Lo ⟨z4t,zfD,zfE⟩ h (.r4 U U U U)<|.s4 .h1 .h1 .h2 .h2
    ·rintro zba zfB zfC h
     replace h:=(zYX zba).symm.trans h
     refine WC.b ?_
     obtain⟨zod,zZ0,h⟩:=za h
     refine Ld<|Le 64 (ya y4T U U)<|Le 65 (yc y4U U<|yi .h2 U)<|WL.y5h (dd:=66) U U U (zb Tryz.call26<|.r2 U U) (.cons .h3 .nil) (cc hz (.cons .h3 .nil) fun w pz ho=>y4f _ _ _ (zhr:=44) (zo7:=[]) _ (zhq:=(fun(y0:S36) (y1:S36)=>y2f y0 y1)) _ zZ0 w pz Tryz.call44 (fun w' hz' y0 y1  r  hr=>ydp hr w' hz' ) ho) ?_
     rintro  zZ1
     refine WL.restb (cs':=[(.slice zfB zod.length zfC),vn]) .h3 (by rw[zZ1])<|WL.nil<|Lb<|WC.b ?_
     obtain⟨zAK,zZ2,h⟩:=za h
     refine Ld<|Le 67 (yh y1V U (yj .h2) U)<|La U<|Le 69 (ya y4T U U)<|Le 70 (yc y4U U<|yi .here U)<|WL.y4b (dd:=71) U U U (zb Tryz.call28<|.r3 U U U) .nil (ccl hz .nil (.cons .h1 .nil) fun w pz ho la=>ycM zZ2 w pz ((zAL.mono<|Zle.left _ _).weak (fun _ _ h=>y1c (Zle.left _ _) h)) ((zAM.mono<|Zle.left _ _).weak (fun _ _ h=>y1o (Zle.left _ _) h)) (zAN.mono<|Zle.left _ _) (zAO.mono<|Zle.left _ _) ((zrv.mono<|Zle.left _ _).weak (fun _ _ h=>y1e (Zle.left _ _) h)) (zAP.mono<|Zle.left _ _) ((zAQ.mono<|Zle.left _ _).weak (fun _ _ h=>y1p (Zle.left _ _) h)) (zAR.mono<|Zle.left _ _) ((zrw.mono<|Zle.left _ _).weak (fun _ _ h=>y1B (Zle.left _ _) h))<|ZA.row (la _ (.head _) _) (RR.flat (enc:=e37) (fun _=>U) _) ⟨w,pz.1⟩) ?_
     rintro zKz zKA _
     refine Le 72 (ya y99 U U)<|Ll U U (y4I (ds:=[(.slice zfB zod.length zfC),(.slice zKz zAK.length zKA)]) yhh U U U U U .h1 U U)<|WL.nil<|Lb<|WC.b<|Ld<|Le 73 (yh y5r U (yj .here) U)<|Ll U U (yn y5q U U U .h4 U U U)<|La U<|WL.nil<|Lb<|WC.ret ?_
     obtain rfl:=oJ h
     refine Lh Tryz.results18 (.agg U y5r U (yj .here)<|.tmp U .nil)<|fun w hw=>?_
     exact⟨zfB,zfC,zKz,zKA,y1R U U,trivial,hw.sub (.s2 .h3 .h2)⟩
def y2W(z7c:List (Int→Option Int))(z9f:Int)(zd9:Int→Option Int):Nat→Int→Int→Option Int
 | 0,_,_=>none
 | zAY+1,z8r,z7d=>if decide (z7d<((z7c.length:Nat):Int)) then chk ((0:Int)≤z7d∧z7d<((z7c.length:Nat):Int)) (((nth z7c z7d) z9f).bind fun zrB=>y2W z7c z9f zd9 zAY (i64 (z8r+zrB)) (i64 (z7d+1))) else zd9 z8r
theorem yas{n:Nat}{z7c:List (Int→Option Int)}{z9f:Int}{zd9:Int→Option Int}{z8r:Int}{z7d:Int}{r:Int}(h:y2W z7c z9f zd9 n z8r z7d=some r):∃ m,n=m+1:=by
 cases n with
 | zero=>cases h
 | succ m=>exact⟨m,rfl⟩
def y7Z(z7c:List (Int→Option Int))(z9f:Int):Option Int:=
 jp1 (fun(zfF:Int)=>some zfF) fun zd9=>y2W z7c z9f zd9 yx 0 0
theorem ydq{Z:Zp}{zAZ:Option Addr}{zB0:Nat}{z7c:List (Int→Option Int)}{z9f:Int}{r:Int}(h:y7Z z7c z9f=some r)(w₀:World)(hz:PZ [] w₀ Z)(zZ3:ZS Z 1 (y5V Z) zAZ zB0 z7c):
  Calls Tryz.prog 55 #[(.slice zAZ z7c.length zB0),(vi z9f)] w₀ fun e w'=>e = .returned (vi r)∧Hp [] w₀ w' []:=by
 unfold y7Z at h
 refine Lz Tryz.func55 Tryz.ntmps55 ?_
 refine WC.b<|Ld<|La U<|WL.nil<|Lb<|WC.b<|Ld<|La U<|WL.nil<|Lb ?_
 obtain⟨zd9,zZ4,h⟩:=yZ h
 refine Kf (fun(zfF:Int)=>(zd9 zfF=some r)) (fun zfF=>[(5,(vi zfF))]) (fun zfF=>[]) ?_ ?_
 ·skip
  refine WC.b<|Ld<|La U<|Le 9 (yG Tryz.underlying140 U)<|La U<|WL.nil<|Lb<|WC.block<|WC.y8S (fun(zkM:Nat) (z8r:Int) (z7d:Int)=>(y2W z7c z9f zd9 zkM z8r z7d=some r)) (fun zkM z8r z7d=>[(1,(vi z9f)),(5,(vi z8r)),(8,(.slice zAZ z7c.length zB0)),(9,(vi ((z7c.length:Nat):Int))),(10,(vi z7d))]) (fun zkM z8r z7d=>[]) (fun zkM z8r z7d=>zkM) ⟨yx,0,0⟩ h (.r5 U U U U U) .nil ?_
  rintro zkM z8r z7d h
  obtain⟨zAY,rfl⟩:=yas h
  rw[y2W] at h
  refine WC.b<|Ld<|La U<|WL.nil<|Lb<|WC.b<|WC.cond U (fun zB1=>?_)<|fun zB1=>?_
  ·replace h:=yr h zB1
   refine WC.skip<|Lb<|WC.b<|WC.block<|WC.b ?_
   obtain⟨zZ5,h⟩:=yl h
   refine Ld<|L0 (dd:=12) U U (Z:=Z) (Pr:=(y5V Z)) zlA U U zZ3 zZ5 ?_
   rintro z198 z199 zZ6 z19a ⟨zZ7,zZ8,rfl,zZ9,zZa⟩
   refine Le 13 (yc zM5 U<|y3a hz.pv zZ6 U)<|La U<|WL.nil<|Lb ?_
   obtain⟨zrB,zZb,h⟩:=za h
   refine Ld<|La U<|La U<|La U<|Lk 17 (y2G (l:=[.tmp 16]) (f:=zZ7) (caps:=zZ8) zZ9 U<|.cons U .nil) .nil (fun w hw=>zZa w (hz.now hw) z9f zrB  zZb)<|La U<|La U<|WL.nil<|Lt<|Lb<|Ld<|La U<|La U<|WL.nil ?_
   exact WX.round ⟨zAY,(i64 (z8r+zrB)),(i64 (z7d+1))⟩ h (Nat.lt_succ_self _) (.r5 U U U U U) .nil
  ·replace h:=ys h zB1
   refine WC.exit<|Ln<|Ln<|Lu ?_
   exact Lo z8r h (.cons U .nil) .nil
 ·rintro zfF h
  replace h:=(zZ4 zfF).symm.trans h
  refine WC.b<|Ld<|La U<|La U<|WL.nil<|Lb<|WC.ret ?_
  obtain rfl:=oJ h
  refine Lh Tryz.results55 (.tmp U .nil)<|fun w hw=>?_
  exact⟨yD U,hw.sub .nil⟩
def y7A:List (Int→Option Int)→Int→Int→Option Int
 | [],_,s=>some s
 | f::l,t,s=>(f t).bind fun x=>y7A l t (i64 (s+x))
theorem ydx(a b:Int):i64 (i64 a+b)=i64 (a+b):=by
 unfold i64 IntKind.wrap
 simp only[IntKind.signed,IntKind.bits]
 simp
 omega
theorem yiv{t:Int}{l l':List (Int→Option Int)}(h:l.Perm l'):∀ {s:Int},y7A l t s=y7A l' t s:=by
 induction h with
 | nil=>intro s;rfl
 | cons f _ ih=>intro s;rw[y7A,y7A];cases f t with
  | none=>rfl
  | some x=>exact ih
 | swap f g l=>
  intro s
  rw[y7A,y7A]
  cases hf:f t with
  | none=>
   cases hg:g t with
   | none=>rfl
   | some y=>simp only[oB,Option.bind_none,y7A,hf]
  | some x=>
   cases hg:g t with
   | none=>simp only[oB,Option.bind_none,y7A,hg]
   | some y=>
    simp only[oB,y7A,hf,hg]
    rw[ydx,ydx,show s+y+x=s+x+y by omega]
 | trans _ _ ih1 ih2=>intro s;exact ih1.trans ih2
theorem yeo{l:List (Int→Option Int)}{t:Int}{k:Int→Option Int}(hl:l.length≤4611686018427387904):∀(n:Nat) (s v:Int),0≤v→v≤l.length→l.length<n+v→y2W l t k n s v=(y7A (l.drop v.toNat) t s).bind k
 | 0,s,v,h0,h1,h2=>by omega
 | n+1,s,v,h0,h1,h2=>by
  rw[y2W]
  by_cases h:v<l.length
  ·rw[if_pos (decide_eq_true h),yt ⟨h0,h⟩,List.drop_eq_getElem_cons (show v.toNat<l.length by omega),y7A]
   have e:nth l v=l[v.toNat]'(by omega):=by unfold nth;simp[show v.toNat<l.length by omega]
   rw[e]
   cases (l[v.toNat]'(by omega)) t with
   | none=>rfl
   | some x=>
    rw[oB,oB,yy (x:=v+1) (by omega),yeo hl n _ (v+1) (by omega) (by omega) (by omega),show(v+1).toNat=v.toNat+1 by omega]
  ·rw[if_neg (by simpa using h),List.drop_eq_nil_of_le (by omega)];rfl
theorem yiw{l:List (Int→Option Int)}{t:Int}(hl:l.length≤4611686018427387904):y7Z l t=y7A l t 0:=by
 show y2W l t (fun s=>some s) yx 0 0=_
 rw[yeo hl yx 0 0 (by omega) (by omega) (by rw[show yx=18446744073709551616 from U];omega)]
 simp
def y28(l:List (Int→Option Int))(t:Int):Option Int:=chk (l.length≤4611686018427387904) (y7A l t 0)
theorem y6T{Z:Zp}{ao:Option Addr}{cap:Nat}{l:List (Int→Option Int)}{t:Int}{r:Int}(h:y28 l t=some r)(w₀:World)(hz:PZ [] w₀ Z)(hs:ZSB Z (y5V Z) ao cap l):
  Calls Tryz.prog 55 #[(.slice ao l.length cap),(vi t)] w₀ fun e w'=>e = .returned (vi r)∧Hp [] w₀ w' []:=by
 obtain⟨l',hp,hs⟩:=hs
 obtain⟨hb,h⟩:=yl h
 rw[← hp.length_eq] at hb ⊢
 exact ydq ((yiw hb).trans ((yiv hp).trans h)) w₀ hz hs
def y4v(zhA:Int)(z9U:Int)(zhB:List (Int→Option Int))(zog:List (Int×Int))(z3Q:zs):Option Int:=
 if decide (z9U<0) then(y28 zhB zhA).bind fun zKB=>some zKB else(y28 zhB zhA).bind fun zKC=>chk ((0:Int)≤z9U∧z9U<((z3Q.fK.length:Nat):Int)) (chk ((((nth z3Q.fK z9U).fSlow):Int)≠0) (some (min zKC (i64 ((yf zog z9U 0)+(i64 (Int.tdiv zhA ((nth z3Q.fK z9U).fSlow))))))))
theorem ybn(Z:Zp)(zB2:Addr)(zB3:Addr)(zB4:Option Addr)(zB5:Nat)(zB6:Addr)(zB7:Nat)(zB8:Addr)(zB9:Option Addr)(zBa:Nat)(zBb:Option Addr)(zBc:Nat)(zBd:Option Addr)(zBe:Nat)(zBf:Option Addr)(zBg:Nat)(zBh:Option Addr)(zBi:Nat)(zBj:Option Addr)(zBk:Nat)(zBl:Option Addr)(zBm:Nat)(zBn:Option Addr)(zBo:Nat)(zhA:Int)(z9U:Int)(zhB:List (Int→Option Int))(zog:List (Int×Int))(z3Q:zs)(r:Int)(h:y4v zhA z9U zhB zog z3Q=some r)(w₀:World)(hz:PZ [] w₀ Z)(hmW:ZA Z (ym zB7 (Value.int .i64) (Value.int .i64) zog))(zrC:ZC Z zB2 [(vi z9U)])(zBp:ZSB Z (y5V Z) zB4 zB5 zhB)(zBq:ZC Z zB3 [(.slice zB4 zhB.length zB5)])(zKD:ZC Z zB6 [(.map (some zB7))])(zZc:ZS Z 4 (y3L Z) zB9 zBa z3Q.fM)(zZd:ZS Z 4 (y4n Z) zBb zBc z3Q.fC0)(zZe:ZS Z 4 (fun r x=>r=e64 x) zBd zBe z3Q.fS)(zKE:ZS Z 4 (fun r x=>r=e62 x) zBf zBg z3Q.fK)(zZf:ZS Z 7 (p69 Z) zBh zBi z3Q.fVLs)(zZg:ZS Z 5 (fun r x=>r=y4C x) zBj zBk z3Q.fH)(zZh:ZS Z 3 (y4o Z) zBl zBm z3Q.fU)(zZi:ZS Z 4 (fun r x=>r=y4D x) zBn zBo z3Q.fV0)(zKF:ZC Z zB8 [(.slice zB9 z3Q.fM.length zBa),(.slice zBb z3Q.fC0.length zBc),(.slice zBd z3Q.fS.length zBe),(.slice zBf z3Q.fK.length zBg),(.slice zBh z3Q.fVLs.length zBi),(.slice zBj z3Q.fH.length zBk),(.slice zBl z3Q.fU.length zBm),(.slice zBn z3Q.fV0.length zBo)]):
  Calls Tryz.prog 99 #[(vi zhA),(vq zB2),(vq zB3),(vq zB6),(vq zB8)] w₀ fun e w'=>e = .returned (vi r)∧Hp [] w₀ w' []:=by
 unfold y4v at h
 refine Calls.on5 Tryz.func99 Tryz.ntmps99 ?_
 refine WC.b<|Ld<|La U<|WL.nil<|Lb<|WC.b<|WC.b<|Ld<|Le 7 (yc yq U<|y3a hz.pv zrC U)<|La U<|WL.nil<|Lb<|WC.cond U (fun zBr=>?_)<|fun zBr=>?_
 ·replace h:=yr h zBr
  refine WC.b ?_
  obtain⟨zKB,zZj,h⟩:=za h
  refine Ld<|Le 9 (yc zDF U<|y3a hz.pv zBq U)<|La U<|Lk 11 (zb Tryz.call55<|.r2 U U) .nil (cc hz .nil fun w pz ho=>y6T zZj w pz zBp)<|La U<|WL.nil<|Lb<|WC.ret<|Lj ?_
  obtain rfl:=oJ h
  refine Lh Tryz.results99 (.tmp U .nil)<|fun w hw=>?_
  exact⟨yD U,hw.sub .nil⟩
 ·replace h:=ys h zBr
  refine WC.skip<|Lb<|WC.b ?_
  obtain⟨zKC,zZk,h⟩:=za h
  obtain⟨zZl,h⟩:=yl h
  obtain⟨zZm,h⟩:=yl h
  refine Lv (fun i=>[].contains i) [] U<|Li 0 12 U (yc zDF U<|y3a hz.pv zBq U)<|Lf 1 13 U (fun _=>q_m U)<|L4 2 14 U (zb Tryz.call55<|.r2 U U) (cc hz .nil fun w pz ho=>y6T zZk w pz zBp)<|Li 3 15 U (yc zsZ U<|y3a hz.pv zKD U)<|Li 4 16 U (yc yq U<|y3a hz.pv zrC U)<|Li 5 17 U (yip (k:=z9U) (dflt:=(0:Int)) y43 Tryz.underlying148 y2v U U U hz.pv hmW)<|Lf 6 18 U (fun _=>q_m U)<|Lf 7 19 U (fun _=>ya y74 U U)<|Li 8 20 U (yc y75 U<|y17 hz.pv zKF U)<|Li 9 21 U (yc yq U<|y3a hz.pv zrC U)<|L5 (j:=10) (dd:=22) (by kernel_rfl) U z1Z z20 U U (Z:=Z) (Pr:=(fun r x=>r=e62 x)) y9p U U zKE zZl ?_
  rintro z19b z19c zZn z19d rfl
  refine Lf 11 23 U (fun _=>ya y8j U U)<|Li 12 24 U (yc yq U<|y17 hz.pv zZn U)<|Lf 13 25 U (fun _=>yd0 U U zZm U)<|Lf 14 26 U (fun _=>y8w U U U)<|Lf 15 27 U (fun _=>q_min U U U)<|Lf 16 6 U (fun _=>q_z U)<|WD.done (by kernel_rfl)<|Lb<|WC.ret ?_
  obtain rfl:=oJ h
  refine Lh Tryz.results99 (.tmp U .nil)<|fun w hw=>?_
  exact⟨yD U,hw.sub .nil⟩
def y4w(z7E:ze)(zkN:z8):Option Bool:=
 some (decide ((⟨z7E.fNode,z7E.fQ⟩:z8)=zkN))
theorem ybo{Z:Zp}{zKG:Addr}{z7E:ze}{zkN:z8}{r:Bool}(h:y4w z7E zkN=some r)(w₀:World)(hz:PZ [] w₀ Z)(zZo:ZC Z zKG [(vi zkN.fNode),(vi zkN.fQ)]):
  Calls Tryz.prog 95 #[(.agg #[(vi z7E.fNode),(vi z7E.fNext),(vi z7E.fQ)]),(vq zKG)] w₀ fun e w'=>e = .returned (.bool r)∧Hp [] w₀ w' []:=by
 unfold y4w at h
 refine Lz Tryz.func95 Tryz.ntmps95 ?_
 refine WC.b<|Ld (Lg 2 (yI (cs:=[(vi z7E.fNode),(vi z7E.fNext),(vi z7E.fQ)]) U U) fun z19e _=>La U<|WL.nil<|Lb<|WC.b<|Ld<|Le 4 (ya y32 U U)<|Le 5 (yc yq U<|yi .here U)<|Le 6 (ya y76 U U)<|Le 7 (yc yq U<|yi .here U)<|Le 8 (yL (v:=(.agg #[(vi z7E.fNode),(vi z7E.fQ)])) (Lp (l:=[.tmp 5,.tmp 7]) (.r2 U U) [0,1]) (fun _=>by kernel_rfl))<|Le 9 (yh yd7 U (y2d hz.pv zZo) U)<|Le 10 (y8V (enc:=e94) (a:=(⟨z7E.fNode,z7E.fQ⟩:z8)) (b:=zkN) eqT_94 U U)<|La U<|WL.nil<|Lb<|WC.ret ?_)
 obtain rfl:=oJ h
 refine Lh Tryz.results95 (.tmp U .nil)<|fun w hw=>?_
 exact⟨yD U,hw.sub .nil⟩
def y4x(z2a:zs)(zhC:Int):Option Int:=
 if decide ((i64 (zhC-((z2a.fM.length:Nat):Int)))≥0) then chk ((0:Int)≤(i64 (zhC-((z2a.fM.length:Nat):Int)))∧(i64 (zhC-((z2a.fM.length:Nat):Int)))<((z2a.fS.length:Nat):Int)) (some ((nth z2a.fS (i64 (zhC-((z2a.fM.length:Nat):Int)))).fDelay)) else some 0
theorem y9A{Z:Zp}{zBs:Option Addr}{zBt:Nat}{zBu:Option Addr}{zBv:Nat}{zBw:Option Addr}{zBx:Nat}{zBy:Option Addr}{zBz:Nat}{zBA:Option Addr}{zBB:Nat}{zBC:Option Addr}{zBD:Nat}{zBE:Option Addr}{zBF:Nat}{zBG:Option Addr}{zBH:Nat}{z2a:zs}{zhC:Int}{r:Int}(h:y4x z2a zhC=some r)(w₀:World)(hz:PZ [] w₀ Z)(z19f:ZS Z 4 (y3L Z) zBs zBt z2a.fM)(z19g:ZS Z 4 (y4n Z) zBu zBv z2a.fC0)(zZp:ZS Z 4 (fun r x=>r=e64 x) zBw zBx z2a.fS)(z19h:ZS Z 4 (fun r x=>r=e62 x) zBy zBz z2a.fK)(z19i:ZS Z 7 (p69 Z) zBA zBB z2a.fVLs)(z19j:ZS Z 5 (fun r x=>r=y4C x) zBC zBD z2a.fH)(z19k:ZS Z 3 (y4o Z) zBE zBF z2a.fU)(z19l:ZS Z 4 (fun r x=>r=y4D x) zBG zBH z2a.fV0):
  Calls Tryz.prog 54 #[(.agg #[(.slice zBs z2a.fM.length zBt),(.slice zBu z2a.fC0.length zBv),(.slice zBw z2a.fS.length zBx),(.slice zBy z2a.fK.length zBz),(.slice zBA z2a.fVLs.length zBB),(.slice zBC z2a.fH.length zBD),(.slice zBE z2a.fU.length zBF),(.slice zBG z2a.fV0.length zBH)]),(vi zhC)] w₀ fun e w'=>e = .returned (vi r)∧Hp [] w₀ w' []:=by
 unfold y4x at h
 refine Lz Tryz.func54 Tryz.ntmps54 ?_
 refine WC.b<|Ld (Lg 2 (yI (cs:=[(.slice zBs z2a.fM.length zBt),(.slice zBu z2a.fC0.length zBv),(.slice zBw z2a.fS.length zBx),(.slice zBy z2a.fK.length zBz),(.slice zBA z2a.fVLs.length zBB),(.slice zBC z2a.fH.length zBD),(.slice zBE z2a.fU.length zBF),(.slice zBG z2a.fV0.length zBH)]) U U) fun z19m _=>La U<|WL.nil<|Lb<|WC.b<|WC.b<|Ld<|La U<|Le 7 (ya y6u U U)<|Le 8 (yc y6v U<|yi .here U)<|Le 9 (yG Tryz.underlying22 U)<|La U<|La U<|WL.nil<|Lb<|WC.b<|Ld<|La U<|La U<|WL.nil<|Lb<|WC.cond U (fun zBI=>?_)<|fun zBI=>?_)
 ·replace h:=yr h zBI
  refine WC.b ?_
  obtain⟨zZq,h⟩:=yl h
  refine Ld<|Le 13 (ya y92 U U)<|Le 14 (yc y93 U<|yi .here U)<|La U<|L0 (dd:=16) U U (Z:=Z) (Pr:=(fun r x=>r=e64 x)) yba U U zZp zZq ?_
  rintro z19n z19o zZr z19p rfl
  refine Le 17 (ya ybb U U)<|Le 18 (yc yq U<|y17 hz.pv zZr U)<|La U<|WL.nil<|Lb<|WC.ret<|Lj ?_
  obtain rfl:=oJ h
  refine Lh Tryz.results54 (.tmp U .nil)<|fun w hw=>?_
  exact⟨yD U,hw.sub .nil⟩
 ·replace h:=ys h zBI
  refine WC.skip<|Lb<|WC.b<|Ld<|La U<|WL.nil<|Lb<|WC.ret ?_
  obtain rfl:=oJ h
  refine Lh Tryz.results54 (.tmp U .nil)<|fun w hw=>?_
  exact⟨yD U,hw.sub .nil⟩
def y35(z1l:List ze)(z1j:zs)(z5m:List (z8×Int))(zda:(List Int)→Option (List Int)):Nat→(List Int)→Int→(List (Int×Int))→Option (List Int)
 | 0,_,_,_=>none
 | zBJ+1,z5n,z1m,z4u=>if decide (z1m<((z1l.length:Nat):Int)) then chk ((0:Int)≤z1m∧z1m<((z1l.length:Nat):Int)) (chk ((((z5n++([(yf z4u ((nth z1l z1m).fNode) 0)]:List Int)).length:Nat):Int)*8≤140737488355328∧(((z5n++([(yf z4u ((nth z1l z1m).fNode) 0)]:List Int)).length:Nat):Int)≤4611686018427387904) ((y4x z1j ((nth z1l z1m).fNode)).bind fun zrD=>chk ((0:Int)≤((nth z1l z1m).fQ)∧((nth z1l z1m).fQ)<((z1j.fK.length:Nat):Int)) (y35 z1l z1j z5m zda zBJ (z5n++([(yf z4u ((nth z1l z1m).fNode) 0)]:List Int)) (i64 (z1m+1)) (yF z4u ((nth z1l z1m).fNext) (i64 ((i64 ((i64 ((yf z4u ((nth z1l z1m).fNode) 0)+(yf z5m (⟨((nth z1l z1m).fNode),((nth z1l z1m).fQ)⟩:z8) 0)))-zrD))-((nth z1j.fK ((nth z1l z1m).fQ)).fSlow))))))) else zda z5n
theorem y9K{n:Nat}{z1l:List ze}{z1j:zs}{z5m:List (z8×Int)}{zda:(List Int)→Option (List Int)}{z5n:List Int}{z1m:Int}{z4u:List (Int×Int)}{r:List Int}(h:y35 z1l z1j z5m zda n z5n z1m z4u=some r):∃ m,n=m+1:=by
 cases n with
 | zero=>cases h
 | succ m=>exact⟨m,rfl⟩
def y4y(z1j:zs)(z1l:List ze)(z5m:List (z8×Int)):Option (List Int):=
 jp1 (fun(zbb:List Int)=>some zbb) fun zda=>y35 z1l z1j z5m zda yx ([]:List Int) 0 ([]:List (Int×Int))
theorem y5m{Z:Zp}{zrE:Option Addr}{zrF:Nat}{zrG:Option Addr}{zrH:Nat}{zrI:Option Addr}{zrJ:Nat}{zrK:Option Addr}{zrL:Nat}{zrM:Option Addr}{zrN:Nat}{zrO:Option Addr}{zrP:Nat}{zrQ:Option Addr}{zrR:Nat}{zrS:Option Addr}{zrT:Nat}{zBK:Option Addr}{zBL:Nat}{zdb:Nat}{z1j:zs}{z1l:List ze}{z5m:List (z8×Int)}{r:List Int}(h:y4y z1j z1l z5m=some r)(w₀:World)(hz:PZ (fps [ym zdb (fun x=>Value.agg (e94 x).toArray) (Value.int .i64) z5m]) w₀ Z)(zZs:ZS Z 4 (y3L Z) zrE zrF z1j.fM)(zZt:ZS Z 4 (y4n Z) zrG zrH z1j.fC0)(zZu:ZS Z 4 (fun r x=>r=e64 x) zrI zrJ z1j.fS)(zKH:ZS Z 4 (fun r x=>r=e62 x) zrK zrL z1j.fK)(zZv:ZS Z 7 (p69 Z) zrM zrN z1j.fVLs)(zZw:ZS Z 5 (fun r x=>r=y4C x) zrO zrP z1j.fH)(zZx:ZS Z 3 (y4o Z) zrQ zrR z1j.fU)(zZy:ZS Z 4 (fun r x=>r=y4D x) zrS zrT z1j.fV0)(zZz:ZS Z 3 (fun r x=>r=e60 x) zBK zBL z1l)(hown:Hp (fps [ym zdb (fun x=>Value.agg (e94 x).toArray) (Value.int .i64) z5m]) w₀ w₀ [ym zdb (fun x=>Value.agg (e94 x).toArray) (Value.int .i64) z5m]):
  Calls Tryz.prog 37 #[(.agg #[(.slice zrE z1j.fM.length zrF),(.slice zrG z1j.fC0.length zrH),(.slice zrI z1j.fS.length zrJ),(.slice zrK z1j.fK.length zrL),(.slice zrM z1j.fVLs.length zrN),(.slice zrO z1j.fH.length zrP),(.slice zrQ z1j.fU.length zrR),(.slice zrS z1j.fV0.length zrT)]),(.slice zBK z1l.length zBL),(.map (some zdb))] w₀ fun e w'=>∃ zKI:Option Addr,∃ zKJ:Nat,e = .returned (.slice zKI r.length zKJ)∧True∧Hp (fps [ym zdb (fun x=>Value.agg (e94 x).toArray) (Value.int .i64) z5m]) w₀ w' [row (.slice zKI r.length zKJ) 3 1 (r.flatMap e3),ym zdb (fun x=>Value.agg (e94 x).toArray) (Value.int .i64) z5m]:=by
 unfold y4y at h
 refine Calls.oh3 Tryz.func37 Tryz.ntmps37 hown ?_
 let A:List Value:=[(.slice zrE z1j.fM.length zrF),(.slice zrG z1j.fC0.length zrH),(.slice zrI z1j.fS.length zrJ),(.slice zrK z1j.fK.length zrL),(.slice zrM z1j.fVLs.length zrN),(.slice zrO z1j.fH.length zrP),(.slice zrQ z1j.fU.length zrR),(.slice zrS z1j.fV0.length zrT)];refine WC.b (Ld (Lg 3 (yI (cs:=A) U U) ?_))
 intro zKK _
 refine La U<|WL.nil<|Lb<|WC.b<|Ld (Lg 11 (y3b (Value.int .i64)<|Value.int .i64) fun zKL _=>La U<|WL.nil<|Lb<|WC.b<|Ld<|La U<|WL.nil<|Lb ?_)
 obtain⟨zda,zZA,h⟩:=yZ h
 refine Kc (fun(zbb:List Int) (zkO:Option Addr) (zkP:Nat)=>(zda zbb=some r)) (fun zbb zkO zkP=>[(8,(.slice zkO zbb.length zkP))]) (fun zbb zkO zkP=>[row (.slice zkO zbb.length zkP) 3 1 (zbb.flatMap e3),ym zdb (fun x=>Value.agg (e94 x).toArray) (Value.int .i64) z5m]) ?_ ?_
 ·skip
  refine WC.b<|Ld<|La U<|Le 13 (yG Tryz.underlying58 U)<|La U<|WL.nil<|Lb<|WC.block<|WC.nilRow 3 1<|WC.y8T (fun(zkQ:Nat) (z5n:List Int) (z1m:Int) (z4u:List (Int×Int)) (zhD:Option Addr) (zhE:Nat)=>(y35 z1l z1j z5m zda zkQ z5n z1m z4u=some r)) (fun zkQ z5n z1m z4u zhD zhE=>[(2,(.map<|some zdb)),(3,(vp zKK)),(7,(.map<|some zKL)),(8,(.slice zhD z5n.length zhE)),(12,(.slice zBK z1l.length zBL)),(13,(vi ((z1l.length:Nat):Int))),(14,(vi z1m))]) (fun zkQ z5n z1m z4u zhD zhE=>[row (.slice zhD z5n.length zhE) 3 1 (z5n.flatMap e3),ym zdb (fun x=>Value.agg (e94 x).toArray) (Value.int .i64) z5m,stb zKK 31 A,ym zKL (Value.int .i64) (Value.int .i64) z4u]) (fun zkQ z5n z1m z4u zhD zhE=>zkQ) ⟨yx,([]:List Int),0,([]:List (Int×Int)),none,0⟩ h (.r7 U U U U U U U) (.s4 .here .h2 .h1 .here) ?_
  rintro zkQ z5n z1m z4u zhD zhE h
  obtain⟨zBJ,rfl⟩:=y9K h
  rw[y35] at h
  refine WC.b<|Ld<|La U<|WL.nil<|Lb<|WC.b<|WC.cond U (fun zBM=>?_)<|fun zBM=>?_
  ·replace h:=yr h zBM
   refine WC.skip<|Lb<|WC.b<|WC.block<|WC.b ?_
   obtain⟨zZB,h⟩:=yl h
   refine Ld<|L0 (dd:=16) U U (Z:=Z) (Pr:=(fun r x=>r=e60 x)) y5i U U zZz zZB ?_
   rintro z19q z19r zZC z19s rfl
   refine Le 17 (yh y3z U (y2d hz.pv zZC) U) (Lg 10 (yv (cs:=[(vi 0),(vi 0),(vi 0)]) y5N U) fun z19t _=>Ll U U (yn y60 U U U .here U U U)<|WL.nil<|Lb<|WC.b ?_)
   obtain⟨zZD,h⟩:=yl h
   refine Ld<|La U<|La U<|Le 20 (ya y32 U U)<|Le 21 (yc yq U<|yi .here U)<|Le 22 (y2C (k:=((nth z1l z1m).fNode)) (dflt:=(0:Int)) y43 Tryz.underlying148 y2v U U U .h4) (Lg 23 (yS (cs:=([(yf z4u ((nth z1l z1m).fNode) 0)]:List Int).flatMap e3) y52 (Lp (l:=[.tmp 22]) (.cons U .nil) [0]) (fun _=>by kernel_rfl) U (by unfold maxLen;omega)) fun z19u _=>WL.fA 24 (y4W (enc:=e3) (l1:=z5n) (l2:=([(yf z4u ((nth z1l z1m).fNode) 0)]:List Int)) y52 U U .h2 (fun _=>U) U U (y3u .here) (y5o e3_oc _) zZD) ?_)
   rintro⟨zZE,zZF⟩ _
   refine La U<|WL.nil<|Lb ?_
   obtain⟨zrD,zZG,h⟩:=za h
   obtain⟨zZH,h⟩:=yl h
   refine Lv (fun i=>[28].contains i) [] U<|Lf 0 25 U (fun _=>q_m U)<|Lf 1 26 U (fun _=>ya y5p U U)<|Li 2 27 U (yc yq U<|yi .h2 U)<|Lf 3 28 U (fun _=>q_m U)<|Lf 4 29 U (fun _=>ya y32 U U)<|Li 5 30 U (yc yq U<|yi .h2 U)<|Li 6 31 U (y2C (k:=((nth z1l z1m).fNode)) (dflt:=(0:Int)) y43 Tryz.underlying148 y2v U U U .h5)<|Lf 7 32 U (fun _=>q_m U)<|Lf 8 33 U (fun _=>ya y32 U U)<|Li 9 34 U (yc yq U<|yi .h2 U)<|Lf 10 35 U (fun _=>ya y76 U U)<|Li 11 36 U (yc yq U<|yi .h2 U)<|Lf 12 37 U (fun _=>yL (v:=(.agg #[(vi<|(nth z1l z1m).fNode),(vi<|(nth z1l z1m).fQ)])) (Lp (l:=[.tmp 34,.tmp 36]) (.r2 U U) [0,1]) (fun _=>by kernel_rfl))<|Li 13 38 U (y2C (k:=(⟨((nth z1l z1m).fNode),((nth z1l z1m).fQ)⟩:z8)) (dflt:=(0:Int)) yeT Tryz.underlying92 y2v U U U .h3)<|Lf 14 39 U (fun _=>y8w U U U)<|Li 15 40 U (yh y1V U (yj .h4) U)<|Lf 16 41 U (fun _=>ya y32 U U)<|Li 17 42 U (yc yq U<|yi .h2 U)<|L4 18 43 U (zb Tryz.call54<|.r2 U U) (cc hz .nil fun w pz ho=>y9A zZG w pz zZs zZt zZu zKH zZv zZw zZx zZy)<|Lf 19 44 U (fun _=>y8x U U U)<|Lf 20 45 U (fun _=>ya y74 U U)<|Li 21 46 U (yc y75 U<|yi .h4 U)<|Lf 22 47 U (fun _=>ya y76 U U)<|Li 23 48 U (yc yq U<|yi .h2 U)<|L5 (j:=24) (dd:=49) (by kernel_rfl) U z1Z z20 U U (Z:=Z) (Pr:=(fun r x=>r=e62 x)) y9p U U zKH zZH ?_
   rintro z19v z19w zZI z19x rfl
   let C:=(i64 ((i64 ((yf z4u ((nth z1l z1m).fNode) 0)+(yf z5m (⟨((nth z1l z1m).fNode),((nth z1l z1m).fQ)⟩:z8) 0)))-zrD));refine Lf 25 50 U (fun _=>ya y8j U U) (Li 26 51 U (yc yq U (y17 hz.pv zZI U)) (Lf 27 52 U (fun _=>y8x U U U) (Kd (i:=28) U (by kernel_rfl) U U U (by kernel_rfl) (y3o (k:=((nth z1l z1m).fNext)) (v:=i64 (C-((nth z1j.fK ((nth z1l z1m).fQ)).fSlow))) y43 Tryz.underlying148 U U U U .h5) (WD.done (by kernel_rfl) (Lt (Lb (Ld (La U (La U (WL.nil ?_))))))))))
   exact WX.round ⟨zBJ,(z5n++([(yf z4u ((nth z1l z1m).fNode) 0)]:List Int)),(i64 (z1m+1)),(yF z4u ((nth z1l z1m).fNext)<|i64 (C-((nth z1j.fK<|(nth z1l z1m).fQ).fSlow))),zZE,zZF⟩ h (Nat.lt_succ_self _) (.r7 U U U U U U U)<|.s4 .h1 .h3 .h3 .here
  ·replace h:=ys h zBM
   refine WC.exit<|Ln<|Ln<|Lu ?_
   exact Lo ⟨z5n,zhD,zhE⟩ h (.cons U .nil)<|.a2
 ·rintro zbb zkO zkP h
  replace h:=(zZA zbb).symm.trans h
  refine WC.b<|Ld<|La U<|La U<|WL.nil<|Lb<|WC.ret ?_
  obtain rfl:=oJ h
  refine Lh Tryz.results37 (.tmp U .nil)<|fun w hw=>?_
  exact⟨zkO,zkP,yD U,trivial,hw.sub (.a2)⟩
def y4z(zdc:ze)(zoh:z8):Option Bool:=
 some (decide (zdc.fNext=zoh.fNode))
theorem ybp{Z:Zp}{zKM:Addr}{zdc:ze}{zoh:z8}{r:Bool}(h:y4z zdc zoh=some r)(w₀:World)(hz:PZ [] w₀ Z)(zZJ:ZC Z zKM [(vi zoh.fNode),(vi zoh.fQ)]):
  Calls Tryz.prog 96 #[(.agg #[(vi zdc.fNode),(vi zdc.fNext),(vi zdc.fQ)]),(vq zKM)] w₀ fun e w'=>e = .returned (.bool r)∧Hp [] w₀ w' []:=by
 unfold y4z at h
 refine Lz Tryz.func96 Tryz.ntmps96 ?_
 refine WC.b<|Ld (Lg 2 (yI (cs:=[(vi zdc.fNode),(vi zdc.fNext),(vi zdc.fQ)]) U U) fun z19y _=>La U<|WL.nil<|Lb<|WC.b<|Ld<|Le 4 (ya y5p U U)<|Le 5 (yc yq U<|yi .here U)<|Le 6 (ya yeU U U)<|Le 7 (yc yq U<|y17 hz.pv zZJ U)<|La U<|La U<|WL.nil<|Lb<|WC.ret ?_)
 obtain rfl:=oJ h
 refine Lh Tryz.results96 (.tmp U .nil)<|fun w hw=>?_
 exact⟨yD U,hw.sub .nil⟩
def y6U(z4v:z14)(zrU:Int)(zrV:Int):Option Int:=
 chk ((z4v.fBag:Int)≠0) (some (i64 (z4v.fMax*(i64 ((i64 (Int.tdiv (i64 (zrV+zrU)) z4v.fBag))+1)))))
theorem ydR{Z:Zp}{zBN:Option Addr}{zBO:Nat}{z4v:z14}{zrU:Int}{zrV:Int}{r:Int}(h:y6U z4v zrU zrV=some r)(w₀:World)(hz:PZ [] w₀ Z)(z19z:ZS Z 3 (fun r x=>r=e66 x) zBN zBO z4v.fTo):
  Calls Tryz.prog 98 #[(.agg #[(.string z4v.fName),(.string z4v.fFrom.fModule),(.string z4v.fFrom.fPart),(.string z4v.fFrom.fPort),(vi z4v.fBag),(vi z4v.fMax),(.slice zBN z4v.fTo.length zBO)]),(vi zrU),(vi zrV)] w₀ fun e w'=>e = .returned (vi r)∧Hp [] w₀ w' []:=by
 unfold y6U at h
 refine Ke Tryz.func98 Tryz.ntmps98 ?_
 refine WC.b<|Ld (Lg 3 (yI (cs:=[(.string z4v.fName),(.string z4v.fFrom.fModule),(.string z4v.fFrom.fPart),(.string z4v.fFrom.fPort),(vi z4v.fBag),(vi z4v.fMax),(.slice zBN z4v.fTo.length zBO)]) U U) fun z19A _=>La U<|WL.nil<|Lb<|WC.b ?_)
 obtain⟨zZK,h⟩:=yl h
 refine Lv (fun i=>[].contains i) [] U<|Lf 0 7 U (fun _=>ya y7H U U)<|Li 1 8 U (yc yq U<|yi .here U)<|Lf 2 9 U (fun _=>q_m U)<|Lf 3 10 U (fun _=>q_m U)<|Lf 4 11 U (fun _=>y8w U U U)<|Lf 5 12 U (fun _=>ya yeR U U)<|Li 6 13 U (yc yq U<|yi .here U)<|Lf 7 14 U (fun _=>yd0 U U zZK U)<|Lf 8 15 U (fun _=>y8w U U U)<|Lf 9 16 U (fun _=>y7f U U U)<|Lf 10 6 U (fun _=>q_z U)<|WD.done (by kernel_rfl)<|Lb<|WC.ret ?_
 obtain rfl:=oJ h
 refine Lh Tryz.results98 (.tmp U .nil)<|fun w hw=>?_
 exact⟨yD U,hw.sub .nil⟩
def y1h(zrW:Int)(z9V:z14)(zrX:Int):Option Int:=
 (y6U z9V zrX zrW).bind fun zKN=>some zKN
theorem ybq{Z:Zp}{zKO:Addr}{zKP:Option Addr}{zKQ:Nat}{zKR:Addr}{zrW:Int}{z9V:z14}{zrX:Int}{r:Int}(h:y1h zrW z9V zrX=some r)(w₀:World)(hz:PZ [] w₀ Z)(zZL:ZS Z 3 (fun r x=>r=e66 x) zKP zKQ z9V.fTo)(zZM:ZC Z zKO [(.string z9V.fName),(.string z9V.fFrom.fModule),(.string z9V.fFrom.fPart),(.string z9V.fFrom.fPort),(vi z9V.fBag),(vi z9V.fMax),(.slice zKP z9V.fTo.length zKQ)])(zZN:ZC Z zKR [(vi zrX)]):
  Calls Tryz.prog 97 #[(vi zrW),(vq zKO),(vq zKR)] w₀ fun e w'=>e = .returned (vi r)∧Hp [] w₀ w' []:=by
 unfold y1h at h
 refine Ke Tryz.func97 Tryz.ntmps97 ?_
 refine WC.b<|Ld<|La U<|WL.nil<|Lb<|WC.b ?_
 obtain⟨zKN,zZO,h⟩:=za h
 refine Ld<|Le 5 (yh yeS U (y2d hz.pv zZM) U)<|Le 6 (yc yq U<|y3a hz.pv zZN U)<|La U<|Lk 8 (zb Tryz.call98<|.r3 U U U) .nil (cc hz .nil fun w pz ho=>ydR zZO w pz zZL)<|La U<|WL.nil<|Lb<|WC.ret ?_
 obtain rfl:=oJ h
 refine Lh Tryz.results97 (.tmp U .nil)<|fun w hw=>?_
 exact⟨yD U,hw.sub .nil⟩
end Go.Proofs.YthjnhebofpebpaaGreat
