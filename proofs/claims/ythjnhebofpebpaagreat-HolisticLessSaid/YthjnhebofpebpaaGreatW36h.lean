/- A part of this claim's proof: models of functions, walks, plain laws. No conditions. -/
import Derived.Test.YthjnhebofpebpaaGreatW36g
set_option linter.all false
namespace Go.Proofs.YthjnhebofpebpaaGreat
open Go Go.RowKit Sep
set_option maxRecDepth 30000
set_option maxHeartbeats 4000000
def y6i(z18:S39)(z1c:S39)(zdu:Option Bool):Nat→Int→Option Bool
 | 0,_=>none
 | zDo+1,z2b=>if decide (z2b<((z18.fP.length:Nat):Int)) then chk ((0:Int)≤z2b∧z2b<((z18.fP.length:Nat):Int)) (chk ((0:Int)≤z2b∧z2b<((z1c.fP.length:Nat):Int)) (if decide ((⟨((nth z18.fP z2b).fNode),((nth z18.fP z2b).fQ),((nth z18.fP z2b).fDelay),((nth z18.fP z2b).fT)⟩:S36)≠(⟨((nth z1c.fP z2b).fNode),((nth z1c.fP z2b).fQ),((nth z1c.fP z2b).fDelay),((nth z1c.fP z2b).fT)⟩:S36)) then some false else y6i z18 z1c zdu zDo (i64 (z2b+1)))) else zdu
theorem ybX{n:Nat}{z18:S39}{z1c:S39}{zdu:Option Bool}{z2b:Int}{r:Bool}(h:y6i z18 z1c zdu n z2b=some r):∃ m,n=m+1:=by
 cases n with
 | zero=>cases h
 | succ m=>exact⟨m,rfl⟩
def y6j(z18:S39)(z1c:S39)(zdv:Option Bool):Nat→Int→Option Bool
 | 0,_=>none
 | zDp+1,z2w=>if decide (z2w<((z18.fEnds.length:Nat):Int)) then chk ((0:Int)≤z2w∧z2w<((z18.fEnds.length:Nat):Int)) (chk ((0:Int)≤z2w∧z2w<((z1c.fEnds.length:Nat):Int)) (if decide ((⟨((nth z18.fEnds z2w).fVL),((nth z18.fEnds z2w).fNode),((nth z18.fEnds z2w).fDelay)⟩:zn)≠(⟨((nth z1c.fEnds z2w).fVL),((nth z1c.fEnds z2w).fNode),((nth z1c.fEnds z2w).fDelay)⟩:zn)) then some false else y6j z18 z1c zdv zDp (i64 (z2w+1)))) else zdv
theorem ybY{n:Nat}{z18:S39}{z1c:S39}{zdv:Option Bool}{z2w:Int}{r:Bool}(h:y6j z18 z1c zdv n z2w=some r):∃ m,n=m+1:=by
 cases n with
 | zero=>cases h
 | succ m=>exact⟨m,rfl⟩
def yaC(z18:S39)(z1c:S39):Option Bool:=
 if (decide (((z18.fP.length:Nat):Int)≠((z1c.fP.length:Nat):Int)))||(decide (((z18.fEnds.length:Nat):Int)≠((z1c.fEnds.length:Nat):Int))) then some false else jp0 (jp0 (some true) fun zdv=>y6j z18 z1c zdv yx 0) fun zdu=>y6i z18 z1c zdu yx 0
theorem ygg{Z:Zp}{zly:Option Addr}{zlz:Nat}{zlA:Option Addr}{zlB:Nat}{zlC:Option Addr}{zlD:Nat}{zlE:Option Addr}{zlF:Nat}{z18:S39}{z1c:S39}{r:Bool}(h:yaC z18 z1c=some r)(w₀:World)(hz:PZ [] w₀ Z)(z11T:ZS Z 4 (fun r x=>r=e37 x) zly zlz z18.fP)(z11U:ZS Z 3 (fun r x=>r=e53 x) zlA zlB z18.fEnds)(z11V:ZS Z 4 (fun r x=>r=e37 x) zlC zlD z1c.fP)(z11W:ZS Z 3 (fun r x=>r=e53 x) zlE zlF z1c.fEnds):
  Calls Tryz.prog 16 #[(.agg #[(.slice zly z18.fP.length zlz),(.slice zlA z18.fEnds.length zlB)]),(.agg #[(.slice zlC z1c.fP.length zlD),(.slice zlE z1c.fEnds.length zlF)])] w₀ fun e w'=>e = .returned (.bool r)∧Hp [] w₀ w' []:=by
 unfold yaC at h
 refine Lz Tryz.func16 Tryz.ntmps16 ?_
 let A:List Value:=[(.slice zly z18.fP.length zlz),(.slice zlA z18.fEnds.length zlB)];refine WC.b (Ld (Lg 2 (yH (cs:=A) U U) ?_))
 intro zlG _
 let C:List Value:=[(.slice zlC z1c.fP.length zlD),(.slice zlE z1c.fEnds.length zlF)];refine Lg 3 (yH (cs:=C) U U) ?_
 intro zlH _
 refine La U<|WL.nil<|Lb<|WC.b<|WC.b<|Ld<|Le 7 (ya y4Z U U)<|Le 8 (yc y50 U<|yh .h1 U)<|Le 9 (yI Tryz.underlying33 U)<|Le 10 (ya y4Z U U)<|Le 11 (yc y50 U<|yh .here U)<|Le 12 (yI Tryz.underlying33 U)<|La U<|La U<|Lv false 7 14 (B:=(decide (((z18.fP.length:Nat):Int)≠((z1c.fP.length:Nat):Int)))||(decide (((z18.fEnds.length:Nat):Int)≠((z1c.fEnds.length:Nat):Int)))) U U U U U U (fun h=>(y7w h).symm) (fun _ z11X=>?_) ?_
 ·skip
  refine Le 15 (ya y7V U U)<|Le 16 (yc y9k U<|yh .h1 U)<|Le 17 (yI Tryz.underlying38 U)<|Le 18 (ya y7V U U)<|Le 19 (yc y9k U<|yh .here U)<|Le 20 (yI Tryz.underlying38 U)<|La U<|La U ?_
  exact Lw (y7x z11X) U U .all
 refine WL.nil<|Lb<|WC.cond U (fun zDq=>?_)<|fun zDq=>?_
 ·replace h:=yq h zDq
  refine WC.b<|Ld<|La U<|WL.nil<|Lb<|WC.ret<|Li ?_
  obtain rfl:=oJ h
  refine Lh Tryz.results16 (.tmp U .nil)<|fun w hw=>?_
  exact⟨yC U,hw.sub .nil⟩
 ·replace h:=yr h zDq
  refine WC.skip<|Lb ?_
  obtain⟨zdu,z11Y,h⟩:=y1G h
  refine L8 ((zdu=some r)) ([(2,(vp zlG)),(3,(vp zlH))]) ([stb zlG 40 A,stb zlH 40 C]) ?_ ?_
  ·skip
   refine WC.b<|Ld<|La U<|WL.nil<|Lb<|WC.block<|L9 (fun(zlI:Nat) (z2b:Int)=>(y6i z18 z1c zdu zlI z2b=some r)) (fun zlI z2b=>[(2,(vp zlG)),(3,(vp zlH)),(5,(vi z2b))]) (fun zlI z2b=>[stb zlG 40 A,stb zlH 40 C]) (fun zlI z2b=>zlI) ⟨yx,0⟩ h (.r3 U U U) (.s2 .h1 .here) ?_
   rintro zlI z2b h
   obtain⟨zDo,rfl⟩:=ybX h
   rw[y6i] at h
   refine WC.b<|WC.b<|Ld<|La U<|Le 24 (ya y4Z U U)<|Le 25 (yc y50 U<|yh .here U)<|Le 26 (yI Tryz.underlying33 U)<|La U<|WL.nil<|Lb<|WC.cond U (fun zDr=>?_)<|fun zDr=>?_
   ·replace h:=yq h zDr
    refine WC.skip<|Lb<|WC.b<|WC.block<|WC.b ?_
    obtain⟨z11Z,h⟩:=yn h
    obtain⟨z120,h⟩:=yn h
    refine Lx (fun i=>[].contains i) [] U<|Lf 0 30 U (fun _=>ya y4Z U U)<|Lj 1 31 U (yc y50 U<|yh .here U)<|Lf 2 32 U (fun _=>q_m U)<|L7 (j:=3) (dd:=33) (by kernel_rfl) U z2j z2k U U (Z:=Z) (Pr:=(fun r x=>r=e37 x)) y5A U U z11T z11Z ?_
    rintro z1b5 z1b6 z121 z1b7 rfl
    refine Lj 4 34 U (yi y6y U (y2l hz.pv z121) U)<|Lf 5 35 U (fun _=>ya y4Z U U)<|Lj 6 36 U (yc y50 U<|yh .h1 U)<|Lf 7 37 U (fun _=>q_m U)<|L7 (j:=8) (dd:=38) (by kernel_rfl) U z2j z2k U U (Z:=Z) (Pr:=(fun r x=>r=e37 x)) y5A U U z11V z120 ?_
    rintro z1b8 z1b9 z122 z1ba rfl
    refine Lj 9 39 U (yi y6y U (y2l hz.pv z122) U)<|Lf 10 40 U (fun _=>ybG (enc:=e37) (a:=(⟨((nth z18.fP z2b).fNode),((nth z18.fP z2b).fQ),((nth z18.fP z2b).fDelay),((nth z18.fP z2b).fT)⟩:S36)) (b:=(⟨((nth z1c.fP z2b).fNode),((nth z1c.fP z2b).fQ),((nth z1c.fP z2b).fDelay),((nth z1c.fP z2b).fT)⟩:S36)) eqT_37 U U)<|WD.done (by kernel_rfl)<|Lb<|WC.cond U (fun zDs=>?_)<|fun zDs=>?_
    ·replace h:=yq h zDs
     refine WC.b<|Ld<|La U<|WL.nil<|Lb<|WC.ret<|Lq<|Li<|Li<|Lq<|Li ?_
     obtain rfl:=oJ h
     refine Lh Tryz.results16 (.tmp U .nil)<|fun w hw=>?_
     exact⟨yC U,hw.sub .nil⟩
    ·replace h:=yr h zDs
     refine WC.skip<|Lt<|Lb<|Ld<|La U<|La U<|La U<|WL.nil ?_
     exact WX.round ⟨zDo,(i64 (z2b+1))⟩ h (Nat.lt_succ_self _) (.r3 U U U)<|.a2
   ·replace h:=yr h zDr
    refine WC.exit<|Lm<|Lm<|Lu ?_
    exact Ln () h (.r2 U U)<|.a2
  ·rintro  h
   replace h:=z11Y.symm.trans h
   obtain⟨zdv,z123,h⟩:=y1G h
   refine L8 ((zdv=some r)) ([]) ([]) ?_ ?_
   ·skip
    refine WC.b<|Ld<|La U<|WL.nil<|Lb<|WC.block<|L9 (fun(zlJ:Nat) (z2w:Int)=>(y6j z18 z1c zdv zlJ z2w=some r)) (fun zlJ z2w=>[(2,(vp zlG)),(3,(vp zlH)),(6,(vi z2w))]) (fun zlJ z2w=>[stb zlG 40 A,stb zlH 40 C]) (fun zlJ z2w=>zlJ) ⟨yx,0⟩ h (.r3 U U U) (.a2) ?_
    rintro zlJ z2w h
    obtain⟨zDp,rfl⟩:=ybY h
    rw[y6j] at h
    refine WC.b<|WC.b<|Ld<|La U<|Le 42 (ya y7V U U)<|Le 43 (yc y9k U<|yh .here U)<|Le 44 (yI Tryz.underlying38 U)<|La U<|WL.nil<|Lb<|WC.cond U (fun zDt=>?_)<|fun zDt=>?_
    ·replace h:=yq h zDt
     refine WC.skip<|Lb<|WC.b<|WC.block<|WC.b ?_
     obtain⟨z124,h⟩:=yn h
     obtain⟨z125,h⟩:=yn h
     refine Lx (fun i=>[].contains i) [] U<|Lf 0 48 U (fun _=>ya y7V U U)<|Lj 1 49 U (yc y9k U<|yh .here U)<|Lf 2 50 U (fun _=>q_m U)<|L7 (j:=3) (dd:=51) (by kernel_rfl) U z2j z2k U U (Z:=Z) (Pr:=(fun r x=>r=e53 x)) y9E U U z11U z124 ?_
     rintro z1bb z1bc z126 z1bd rfl
     refine Lj 4 52 U (yi ydh U (y2l hz.pv z126) U)<|Lf 5 53 U (fun _=>ya y7V U U)<|Lj 6 54 U (yc y9k U<|yh .h1 U)<|Lf 7 55 U (fun _=>q_m U)<|L7 (j:=8) (dd:=56) (by kernel_rfl) U z2j z2k U U (Z:=Z) (Pr:=(fun r x=>r=e53 x)) y9E U U z11W z125 ?_
     rintro z1be z1bf z127 z1bg rfl
     refine Lj 9 57 U (yi ydh U (y2l hz.pv z127) U)<|Lf 10 58 U (fun _=>ybG (enc:=e53) (a:=(⟨((nth z18.fEnds z2w).fVL),((nth z18.fEnds z2w).fNode),((nth z18.fEnds z2w).fDelay)⟩:zn)) (b:=(⟨((nth z1c.fEnds z2w).fVL),((nth z1c.fEnds z2w).fNode),((nth z1c.fEnds z2w).fDelay)⟩:zn)) eqT_53 U U)<|WD.done (by kernel_rfl)<|Lb<|WC.cond U (fun zDu=>?_)<|fun zDu=>?_
     ·replace h:=yq h zDu
      refine WC.b<|Ld<|La U<|WL.nil<|Lb<|WC.ret<|Lq<|Li<|Li<|Lq<|Li ?_
      obtain rfl:=oJ h
      refine Lh Tryz.results16 (.tmp U .nil)<|fun w hw=>?_
      exact⟨yC U,hw.sub .nil⟩
     ·replace h:=yr h zDu
      refine WC.skip<|Lt<|Lb<|Ld<|La U<|La U<|La U<|WL.nil ?_
      exact WX.round ⟨zDp,(i64 (z2w+1))⟩ h (Nat.lt_succ_self _) (.r3 U U U)<|.a2
    ·replace h:=yr h zDt
     refine WC.exit<|Lm<|Lm<|Lu ?_
     exact Ln () h .nil .nil
   ·rintro  h
    replace h:=z123.symm.trans h
    refine WC.b<|Ld<|La U<|WL.nil<|Lb<|WC.ret ?_
    obtain rfl:=oJ h
    refine Lh Tryz.results16 (.tmp U .nil)<|fun w hw=>?_
    exact⟨yC U,hw.sub .nil⟩
def y6k(z6H:List Int)(z7Z:List Int)(zdw:Option Bool):Nat→Int→Option Bool
 | 0,_=>none
 | zDv+1,z5t=>if decide (z5t<((z6H.length:Nat):Int)) then chk ((0:Int)≤z5t∧z5t<((z6H.length:Nat):Int)) (chk ((0:Int)≤z5t∧z5t<((z7Z.length:Nat):Int)) (if decide ((nth z6H z5t)≠(nth z7Z z5t)) then some false else y6k z6H z7Z zdw zDv (i64 (z5t+1)))) else zdw
theorem ybZ{n:Nat}{z6H:List Int}{z7Z:List Int}{zdw:Option Bool}{z5t:Int}{r:Bool}(h:y6k z6H z7Z zdw n z5t=some r):∃ m,n=m+1:=by
 cases n with
 | zero=>cases h
 | succ m=>exact⟨m,rfl⟩
def yaD(z6H:List Int)(z7Z:List Int):Option Bool:=
 if decide (((z6H.length:Nat):Int)≠((z7Z.length:Nat):Int)) then some false else jp0 (some true) fun zdw=>y6k z6H z7Z zdw yx 0
theorem ygh{Z:Zp}{zDw:Option Addr}{zDx:Nat}{zDy:Option Addr}{zDz:Nat}{z6H:List Int}{z7Z:List Int}{r:Bool}(h:yaD z6H z7Z=some r)(w₀:World)(hz:PZ [] w₀ Z)(z128:ZS Z 1 (fun r x=>r=e3 x) zDw zDx z6H)(z129:ZS Z 1 (fun r x=>r=e3 x) zDy zDz z7Z):
  Calls Tryz.prog 17 #[(.slice zDw z6H.length zDx),(.slice zDy z7Z.length zDz)] w₀ fun e w'=>e = .returned (.bool r)∧Hp [] w₀ w' []:=by
 unfold yaD at h
 refine Lz Tryz.func17 Tryz.ntmps17 ?_
 refine WC.b<|Ld<|La U<|WL.nil<|Lb<|WC.b<|WC.b<|Ld<|La U<|Le 7 (yI Tryz.underlying50 U)<|La U<|Le 9 (yI Tryz.underlying50 U)<|La U<|WL.nil<|Lb<|WC.cond U (fun zDA=>?_)<|fun zDA=>?_
 ·replace h:=yq h zDA
  refine WC.b<|Ld<|La U<|WL.nil<|Lb<|WC.ret<|Li ?_
  obtain rfl:=oJ h
  refine Lh Tryz.results17 (.tmp U .nil)<|fun w hw=>?_
  exact⟨yC U,hw.sub .nil⟩
 ·replace h:=yr h zDA
  refine WC.skip<|Lb ?_
  obtain⟨zdw,z12a,h⟩:=y1G h
  refine L8 ((zdw=some r)) ([]) ([]) ?_ ?_
  ·skip
   refine WC.b<|Ld<|La U<|Le 12 (yI Tryz.underlying50 U)<|La U<|WL.nil<|Lb<|WC.block<|L9 (fun(zlK:Nat) (z5t:Int)=>(y6k z6H z7Z zdw zlK z5t=some r)) (fun zlK z5t=>[(0,(.slice zDw z6H.length zDx)),(1,(.slice zDy z7Z.length zDz)),(12,(vi ((z6H.length:Nat):Int))),(13,(vi z5t))]) (fun zlK z5t=>[]) (fun zlK z5t=>zlK) ⟨yx,0⟩ h (.r4 U U U U) .nil ?_
   rintro zlK z5t h
   obtain⟨zDv,rfl⟩:=ybZ h
   rw[y6k] at h
   refine WC.b<|Ld<|La U<|WL.nil<|Lb<|WC.b<|WC.cond U (fun zDB=>?_)<|fun zDB=>?_
   ·replace h:=yq h zDB
    refine WC.skip<|Lb<|WC.b<|WC.block<|WC.b<|Ld<|La U<|La U<|WL.nil<|Lb<|WC.b ?_
    obtain⟨z12b,h⟩:=yn h
    obtain⟨z12c,h⟩:=yn h
    refine Lx (fun i=>[].contains i) [] U<|Lf 0 16 U (fun _=>q_m U)<|Lf 1 17 U (fun _=>q_m U)<|L7 (j:=2) (dd:=18) (by kernel_rfl) U z2j z2k U U (Z:=Z) (Pr:=(fun r x=>r=e3 x)) y66 U U z128 z12b ?_
    rintro z1bh z1bi z12d z1bj rfl
    refine Lj 3 19 U (yc ys U<|y3C hz.pv z12d U)<|Lf 4 20 U (fun _=>q_m U)<|Lf 5 21 U (fun _=>q_m U)<|L7 (j:=6) (dd:=22) (by kernel_rfl) U z2j z2k U U (Z:=Z) (Pr:=(fun r x=>r=e3 x)) y66 U U z129 z12c ?_
    rintro z1bk z1bl z12e z1bm rfl
    refine Lj 7 23 U (yc ys U<|y3C hz.pv z12e U)<|Lf 8 24 U (fun _=>q_neq U U)<|WD.done (by kernel_rfl)<|Lb<|WC.cond U (fun zDC=>?_)<|fun zDC=>?_
    ·replace h:=yq h zDC
     refine WC.b<|Ld<|La U<|WL.nil<|Lb<|WC.ret<|Lq<|Li<|Li<|Lq<|Li ?_
     obtain rfl:=oJ h
     refine Lh Tryz.results17 (.tmp U .nil)<|fun w hw=>?_
     exact⟨yC U,hw.sub .nil⟩
    ·replace h:=yr h zDC
     refine WC.skip<|Lt<|Lb<|Ld<|La U<|La U<|WL.nil ?_
     exact WX.round ⟨zDv,(i64 (z5t+1))⟩ h (Nat.lt_succ_self _) (.r4 U U U U) .nil
   ·replace h:=yr h zDB
    refine WC.exit<|Lm<|Lm<|Lu ?_
    exact Ln () h .nil .nil
  ·rintro  h
   replace h:=z12a.symm.trans h
   refine WC.b<|Ld<|La U<|WL.nil<|Lb<|WC.ret ?_
   obtain rfl:=oJ h
   refine Lh Tryz.results17 (.tmp U .nil)<|fun w hw=>?_
   exact⟨yC U,hw.sub .nil⟩
def y61  : Option Bool:=
 (y8N).bind fun zbl=>(y2h zbl.1 0 zbl.2).bind fun zpq=>(y7K zbl.1 zbl.2 zpq.1.fP).bind fun zpr=>(if decide (zpq.2=0) then(yaC zpq.1 (⟨([(⟨0,0,40,80⟩:S36),(⟨2,1,56,80⟩:S36)]:List S36),([(⟨0,1,96⟩:zn)]:List zn)⟩:S39)).bind fun zMd=>some zMd else some false).bind fun ztl=>(if ztl&&(decide (((zpr.length:Nat):Int)=1)) then chk ((0:Int)≤0∧0<((zpr.length:Nat):Int)) ((yaD (nth zpr 0) ([0,39]:List Int)).bind fun zMe=>some zMe) else some false).bind fun zDD=>some zDD
theorem y9X{Z:Zp}{r:Bool}(h:y61=some r)(w₀:World)(hz:PZ [] w₀ Z):
  Calls Tryz.prog 11 #[] w₀ fun e w'=>e = .returned (.bool r)∧Hp [] w₀ w' []:=by
 unfold y61 at h
 refine Calls.on0 Tryz.func11 Tryz.ntmps11 ?_
 refine WC.pool<|WC.b<|Ld<|La U<|WL.nil<|Lb<|WC.b ?_
 obtain⟨zbl,z12f,h⟩:=za h
 refine Ld<|WL.yhZ (dd:=8) U U U (zb Tryz.call19 .nil) .nil (ccz hz .nil .here fun w pz ho=>yeo z12f w pz ) ?_
 rintro z1bn z1bo z1bp z1bq z1br z1bs z1bt z1bu z1bv z1bw z1bx z1by z1bz z1bA z1bB z1bC z1bD z1bE z1bF z1bG z1bH z1bI ⟨zMf,zMg,zMh,zMi,zMj,zMk,zMl⟩
 refine WL.merge .here .h5<|La U<|La U<|La U (Lg 1 (yv (cs:=[vn,vn,vn,vn,vn,vn,vn,vn]) ybM U) fun z1bJ _=>Lk U U (yl ydd U U U .here U U U)<|La U<|WL.nil<|Lb<|WC.b ?_)
 obtain⟨zpq,z12g,h⟩:=za h
 refine Ld<|Le 12 (yi y1E U (yk .here) U)<|La U<|WL.y8z (dd:=14) U U U (zb Tryz.call12<|.r3 U U U) .nil (yap hz .nil .h1 (.s5 .h2 .h2 .h2 .h2 .h2) fun w pz ho la=>y7J z12g w pz (ZA.row (la _ (.head _) _) ((zMf.weak<|fun _ _ h=>y1a (Zle.yT _ _ _) h).weak (fun _ _ h=>y1a (Zle.left _ _) h)) ⟨w,pz.1⟩) ((((zMg.mono<|Zle.yT _ _ _).weak (fun _ _ h=>y1i (Zle.yT _ _ _) h)).mono (Zle.left _ _)).weak (fun _ _ h=>y1i (Zle.left _ _) h)) (ZA.row (la _ (.tail _<|.head _) _) (RR.flat (enc:=e64) (fun _=>U) _) ⟨w,pz.1⟩) (ZA.row (la _ (.tail _<|.tail _<|.head _) _) (RR.flat (enc:=e62) (fun _=>U) _) ⟨w,pz.1⟩) (ZA.row (la _ (.tail _<|.tail _<|.tail _<|.head _) _) ((zMh.weak<|fun _ _ h=>y15 (Zle.yT _ _ _) h).weak (fun _ _ h=>y15 (Zle.left _ _) h)) ⟨w,pz.1⟩) ((zMi.mono<|Zle.yT _ _ _).mono (Zle.left _ _)) ((((zMj.mono<|Zle.yT _ _ _).weak (fun _ _ h=>y1j (Zle.yT _ _ _) h)).mono (Zle.left _ _)).weak (fun _ _ h=>y1j (Zle.left _ _) h)) ((zMk.mono<|Zle.yT _ _ _).mono (Zle.left _ _))<|ZA.row (la _ (.tail _<|.tail _<|.tail _<|.tail _<|.head _) _) ((zMl.weak<|fun _ _ h=>y1t (Zle.yT _ _ _) h).weak (fun _ _ h=>y1t (Zle.left _ _) h)) ⟨w,pz.1⟩) ?_
 rintro z1bK z1bL z1bM z1bN _
 refine La U<|La U<|La U (Lg 3 (yv (cs:=[vn,vn]) y6P U) fun z1bO _=>Lk U U (yl y5b U U U .here U U U)<|La U<|WL.nil<|Lb<|WC.b<|Ld<|Le 17 (yL (v:=(.agg #[(vi 0),(vi 0),(vi 40),(vi 80)])) (Lo (l:=[.const (vi 0),.const (vi 0),.const (vi 40),.const (vi 80)]) (.r4 U U U U) [0,1,2,3]) (fun _=>by kernel_rfl))<|Le 18 (yL (v:=(.agg #[(vi 2),(vi 1),(vi 56),(vi 80)])) (Lo (l:=[.const (vi 2),.const (vi 1),.const (vi 56),.const (vi 80)]) (.r4 U U U U) [0,1,2,3]) (fun _=>by kernel_rfl)) (Lg 19 (yM (cs:=([(⟨0,0,40,80⟩:S36),(⟨2,1,56,80⟩:S36)]:List S36).flatMap e37) y5A (Lo (l:=[.tmp 17,.tmp 18]) (.r2 U U) [0,1]) (fun _=>by kernel_rfl) U (by unfold maxLen;omega)) fun z12h _=>Le 20 (yL (v:=(.agg #[(vi 0),(vi 1),(vi 96)])) (Lo (l:=[.const (vi 0),.const (vi 1),.const (vi 96)]) (.r3 U U U) [0,1,2]) (fun _=>by kernel_rfl)) (Lg 21 (yM (cs:=([(⟨0,1,96⟩:zn)]:List zn).flatMap e53) y9E (Lo (l:=[.tmp 20]) (.cons U .nil) [0]) (fun _=>by kernel_rfl) U (by unfold maxLen;omega)) fun z12i _=>Le 22 (yL (v:=(.agg #[(.slice (some ⟨z12h,0,none⟩) (([(⟨0,0,40,80⟩:S36),(⟨2,1,56,80⟩:S36)]:List S36).length) 2),(.slice (some ⟨z12i,0,none⟩) (([(⟨0,1,96⟩:zn)]:List zn).length) 1)])) (Lo (l:=[.tmp 19,.tmp 21]) (.r2 U U) [0,1]) (fun _=>by kernel_rfl)) (Lg 5 (yv (cs:=[vn,vn]) y6P U) fun z1bP _=>Lk U U (yl y5b U U U .here U U U)<|WL.nil<|Lb<|WC.b ?_))))
 obtain⟨zpr,z12j,h⟩:=za h
 refine Ld<|Le 23 (yi y1E U (yk .h6) U)<|La U<|Le 25 (ya y4Z U U)<|Le 26 (yc y50 U<|yh .h3 U)<|Kj (ls:=zbl.1.fM) (.there .h7) .h7 hz (zMf.weak<|fun _ _ h=>y1a (Zle.yT _ _ _) h) ?_
 intro z1bQ zdx zDE
 replace zDE:=zDE.weak (fun _ _ h=>y1a zdx h)
 refine Kj (ls:=zbl.1.fS) (.there .h7) .here hz (RR.flat (enc:=e64) (fun _=>U) _) fun z1bR zbm z12k=>Kj (ls:=zbl.1.fK) (.there .h7) .here hz (RR.flat (enc:=e62) (fun _=>U) _) fun z1bS z9Z z12l=>Kj (ls:=zbl.1.fVLs) (.there .h7) .here hz (zMh.weak<|fun _ _ h=>y15 ((Zle.yT _ _ _).trans (zdx.trans<|zbm.trans z9Z)) h) ?_
 intro z1bT z9g zDF
 replace zDF:=zDF.weak (fun _ _ h=>y15 z9g h)
 refine Kj (ls:=zbl.2) (.there .h7) .here hz (zMl.weak<|fun _ _ h=>y1t ((Zle.yT _ _ _).trans (zdx.trans<|zbm.trans<|z9Z.trans z9g)) h) ?_
 intro z1bU z8x zDG
 replace zDG:=zDG.weak (fun _ _ h=>y1t z8x h)
 refine Kj (ls:=zpq.1.fP) .h5 .here hz (RR.flat (enc:=e37) (fun _=>U) _) fun z12m z80 zMm=>WL.y8z (dd:=27) U U U (zb Tryz.call14<|.r3 U U U) .nil (ccz hz .nil .here fun w pz ho=>ycT z12j w pz ((zDE.mono<|zbm.trans<|z9Z.trans<|z9g.trans<|z8x.trans z80).weak (fun _ _ h=>y1a (zbm.trans<|z9Z.trans<|z9g.trans<|z8x.trans z80) h)) ((zMg.mono<|(Zle.yT _ _ _).trans (zdx.trans<|zbm.trans<|z9Z.trans<|z9g.trans<|z8x.trans z80)).weak (fun _ _ h=>y1i ((Zle.yT _ _ _).trans (zdx.trans<|zbm.trans<|z9Z.trans<|z9g.trans<|z8x.trans z80)) h)) (z12k.mono<|z9Z.trans<|z9g.trans<|z8x.trans z80) (z12l.mono<|z9g.trans<|z8x.trans z80) ((zDF.mono<|z8x.trans z80).weak (fun _ _ h=>y15 (z8x.trans z80) h)) (zMi.mono<|(Zle.yT _ _ _).trans (zdx.trans<|zbm.trans<|z9Z.trans<|z9g.trans<|z8x.trans z80)) ((zMj.mono<|(Zle.yT _ _ _).trans (zdx.trans<|zbm.trans<|z9Z.trans<|z9g.trans<|z8x.trans z80)).weak (fun _ _ h=>y1j ((Zle.yT _ _ _).trans (zdx.trans<|zbm.trans<|z9Z.trans<|z9g.trans<|z8x.trans z80)) h)) (zMk.mono<|(Zle.yT _ _ _).trans (zdx.trans<|zbm.trans<|z9Z.trans<|z9g.trans<|z8x.trans z80)) ((zDG.mono z80).weak (fun _ _ h=>y1t z80 h)) zMm) ?_
 rintro z12n z1bV z1bW z1bX z12o
 refine WL.merge .here .h1<|La U<|WL.nil<|Lb<|WC.b ?_
 obtain⟨ztl,zMn,h⟩:=za h
 obtain⟨zDD,zMo,h⟩:=za h
 refine Ld<|La U<|La U<|La U<|Lv true 3 30 (B:=ztl) U U U U U U (fun h=>(oJ<|yr zMn h).symm) (fun _ z12p=>?_) ?_
 ·skip
  have zps:=yq zMn z12p
  obtain⟨zMd,z12q,zps⟩:=za zps
  replace zps:=oJ zps
  refine Le 31 (yi y5q U (yk .h5) U)<|Le 32 (yi y5q U (yk .h2) U)<|Ll 33 (zb Tryz.call16<|.r2 U U) .nil (yap hz .nil .here (.s3 .h6 .h4 .h3) fun w pz ho la=>ygg z12q w pz ((zMm.mono<|(Zle.left _ _).trans (Zle.yT _ _ _)).mono (Zle.left _ _)) (ZA.row (la _ (.head _) _) (RR.flat (enc:=e53) (fun _=>U) _) ⟨w,pz.1⟩) (ZA.row (la _ (.tail _<|.head _) _) (RR.flat (enc:=e37) (fun _=>U) _) ⟨w,pz.1⟩)<|ZA.row (la _ (.tail _<|.tail _<|.head _) _) (RR.flat (enc:=e53) (fun _=>U) _) ⟨w,pz.1⟩)<|La U ?_
  exact Lw zps U U .all
 refine La U<|Lv true 3 35 (B:=ztl&&(decide (((zpr.length:Nat):Int)=1))) U U U U U U (fun h=>(y3u h).symm) (fun _ z12r=>?_) ?_
 ·skip
  refine La U<|Le 37 (yI Tryz.underlying46 U)<|La U<|La U ?_
  exact Lw (y3v z12r) U U .all
 refine La U<|Lv true 5 40 (B:=zDD) U U U U U U (fun h=>(oJ<|yr zMo h).symm) (fun _ z12s=>?_) ?_
 ·skip
  have zi8:=yq zMo z12s
  obtain⟨zpt,zi8⟩:=yn zi8
  obtain⟨zMe,z12t,zi8⟩:=za zi8
  replace zi8:=oJ zi8
  refine La U<|Kd (fun w hw=>Hp.y1T .h1 hw (by intro hz';have:=zpt;rw[hz'] at this;omega)) ?_
  rintro⟨z1bY,rfl⟩
  obtain⟨z1bZ,z1c0,z1c1,z12u,⟨z1c2,z1c3,rfl,z12v⟩⟩:=RR.elem (Pr:=(p50 (Z++(z12m++z12n)))) (z12o.weak (fun _ _ h=>yg9 (Zle.yT _ _ _) h)) zpt.1 zpt.2
  refine Le 42 (yS ygb U U zpt.1 zpt.2 y2L)<|Le 43 (yc oneT_50 U<|y8e .h1<|yeX z12u 0 _ U) (Lg 44 (yM (cs:=([0,39]:List Int).flatMap e3) y66 (Lo (l:=[.const (vi 0),.const (vi 39)]) (.r2 U U) [0,1]) (fun _=>by kernel_rfl) U (by unfold maxLen;omega)) fun z1c4 _=>Ll 45 (zb Tryz.call17<|.r2 U U) .nil (yap hz .nil .h1 (.cons .here .nil) fun w pz ho la=>ygh z12t w pz (z12v.mono<|Zle.left _ _)<|ZA.row (la _ (.head _) _) (RR.flat (enc:=e3) (fun _=>U) _) ⟨w,pz.1⟩)<|La U ?_)
  exact Lw zi8 U U<|.s8 .h1 .h1 .h1 .h1 .h1 .h1 .h1 .h1
 refine La U<|WL.nil<|Lb<|WC.ret ?_
 obtain rfl:=oJ h
 refine Lh Tryz.results11 (.tmp U .nil)<|fun w hw=>?_
 exact⟨yC U,hw.sub .nil⟩
end Go.Proofs.YthjnhebofpebpaaGreat
namespace Go.Proofs.YthjnhebofpebpaaGreat
open Go Go.RowKit Sep
set_option maxRecDepth 30000
set_option maxHeartbeats 4000000
end Go.Proofs.YthjnhebofpebpaaGreat
namespace Go.Proofs.YthjnhebofpebpaaGreat
open Go Go.RowKit Sep
set_option maxRecDepth 30000
set_option maxHeartbeats 4000000
end Go.Proofs.YthjnhebofpebpaaGreat
namespace Go.Proofs.YthjnhebofpebpaaGreat
open Go Go.RowKit Sep
set_option maxRecDepth 30000
set_option maxHeartbeats 4000000
end Go.Proofs.YthjnhebofpebpaaGreat
namespace Go.Proofs.YthjnhebofpebpaaGreat
open Go Go.RowKit Sep
set_option maxRecDepth 30000
set_option maxHeartbeats 4000000
end Go.Proofs.YthjnhebofpebpaaGreat
namespace Go.Proofs.YthjnhebofpebpaaGreat
open Go Go.RowKit Sep
set_option maxRecDepth 30000
set_option maxHeartbeats 4000000
end Go.Proofs.YthjnhebofpebpaaGreat
