/- A part of this claim's proof: models of functions, walks, plain laws. No conditions. -/
import Derived.Test.YthjnhebofpebpaaGreatW36g
set_option linter.all false
namespace Go.Proofs.YthjnhebofpebpaaGreat
open Go Go.RowKit Sep
set_option maxRecDepth 30000
set_option maxHeartbeats 4000000
def y6g(z18:S39)(z1c:S39)(zdr:Option Bool):Nat→Int→Option Bool
 | 0,_=>none
 | zCN+1,z2c=>if decide (z2c<((z18.fP.length:Nat):Int)) then chk ((0:Int)≤z2c∧z2c<((z18.fP.length:Nat):Int)) (chk ((0:Int)≤z2c∧z2c<((z1c.fP.length:Nat):Int)) (if decide ((⟨((nth z18.fP z2c).fNode),((nth z18.fP z2c).fQ),((nth z18.fP z2c).fDelay),((nth z18.fP z2c).fT)⟩:S36)≠(⟨((nth z1c.fP z2c).fNode),((nth z1c.fP z2c).fQ),((nth z1c.fP z2c).fDelay),((nth z1c.fP z2c).fT)⟩:S36)) then some false else y6g z18 z1c zdr zCN (i64 (z2c+1)))) else zdr
theorem ybU{n:Nat}{z18:S39}{z1c:S39}{zdr:Option Bool}{z2c:Int}{r:Bool}(h:y6g z18 z1c zdr n z2c=some r):∃ m,n=m+1:=by
 cases n with
 | zero=>cases h
 | succ m=>exact⟨m,rfl⟩
def y6h(z18:S39)(z1c:S39)(zds:Option Bool):Nat→Int→Option Bool
 | 0,_=>none
 | zCO+1,z2v=>if decide (z2v<((z18.fEnds.length:Nat):Int)) then chk ((0:Int)≤z2v∧z2v<((z18.fEnds.length:Nat):Int)) (chk ((0:Int)≤z2v∧z2v<((z1c.fEnds.length:Nat):Int)) (if decide ((⟨((nth z18.fEnds z2v).fVL),((nth z18.fEnds z2v).fNode),((nth z18.fEnds z2v).fDelay)⟩:zn)≠(⟨((nth z1c.fEnds z2v).fVL),((nth z1c.fEnds z2v).fNode),((nth z1c.fEnds z2v).fDelay)⟩:zn)) then some false else y6h z18 z1c zds zCO (i64 (z2v+1)))) else zds
theorem ybV{n:Nat}{z18:S39}{z1c:S39}{zds:Option Bool}{z2v:Int}{r:Bool}(h:y6h z18 z1c zds n z2v=some r):∃ m,n=m+1:=by
 cases n with
 | zero=>cases h
 | succ m=>exact⟨m,rfl⟩
def yat(z18:S39)(z1c:S39):Option Bool:=
 if (decide (((z18.fP.length:Nat):Int)≠((z1c.fP.length:Nat):Int)))||(decide (((z18.fEnds.length:Nat):Int)≠((z1c.fEnds.length:Nat):Int))) then some false else jp0 (jp0 (some true) fun zds=>y6h z18 z1c zds yx 0) fun zdr=>y6g z18 z1c zdr yx 0
theorem yg5{Z:Zp}{zla:Option Addr}{zlb:Nat}{zlc:Option Addr}{zld:Nat}{zle:Option Addr}{zlf:Nat}{zlg:Option Addr}{zlh:Nat}{z18:S39}{z1c:S39}{r:Bool}(h:yat z18 z1c=some r)(w₀:World)(hz:PZ [] w₀ Z)(z114:ZS Z 4 (fun r x=>r=e37 x) zla zlb z18.fP)(z115:ZS Z 3 (fun r x=>r=e53 x) zlc zld z18.fEnds)(z116:ZS Z 4 (fun r x=>r=e37 x) zle zlf z1c.fP)(z117:ZS Z 3 (fun r x=>r=e53 x) zlg zlh z1c.fEnds):
  Calls Tryz.prog 16 #[(.agg #[(.slice zla z18.fP.length zlb),(.slice zlc z18.fEnds.length zld)]),(.agg #[(.slice zle z1c.fP.length zlf),(.slice zlg z1c.fEnds.length zlh)])] w₀ fun e w'=>e = .returned (.bool r)∧Hp [] w₀ w' []:=by
 unfold yat at h
 refine Lz Tryz.func16 Tryz.ntmps16 ?_
 let A:List Value:=[(.slice zla z18.fP.length zlb),(.slice zlc z18.fEnds.length zld)];refine WC.b (Ld (Lg 2 (yI (cs:=A) U U) ?_))
 intro zli _
 let C:List Value:=[(.slice zle z1c.fP.length zlf),(.slice zlg z1c.fEnds.length zlh)];refine Lg 3 (yI (cs:=C) U U) ?_
 intro zlj _
 refine La U<|WL.nil<|Lb<|WC.b<|WC.b<|Ld<|Le 7 (ya y4T U U)<|Le 8 (yc y4U U<|yi .h1 U)<|Le 9 (yG Tryz.underlying33 U)<|Le 10 (ya y4T U U)<|Le 11 (yc y4U U<|yi .here U)<|Le 12 (yG Tryz.underlying33 U)<|La U<|La U<|Lx false 7 14 (B:=(decide (((z18.fP.length:Nat):Int)≠((z1c.fP.length:Nat):Int)))||(decide (((z18.fEnds.length:Nat):Int)≠((z1c.fEnds.length:Nat):Int)))) U U U U U U (fun h=>(y7Q h).symm) (fun _ z118=>?_) ?_
 ·skip
  refine Le 15 (ya y99 U U)<|Le 16 (yc ybf U<|yi .h1 U)<|Le 17 (yG Tryz.underlying38 U)<|Le 18 (ya y99 U U)<|Le 19 (yc ybf U<|yi .here U)<|Le 20 (yG Tryz.underlying38 U)<|La U<|La U ?_
  exact Ly (y7R z118) U U .all
 refine WL.nil<|Lb<|WC.cond U (fun zCP=>?_)<|fun zCP=>?_
 ·replace h:=yr h zCP
  refine WC.b<|Ld<|La U<|WL.nil<|Lb<|WC.ret<|Lj ?_
  obtain rfl:=oJ h
  refine Lh Tryz.results16 (.tmp U .nil)<|fun w hw=>?_
  exact⟨yD U,hw.sub .nil⟩
 ·replace h:=ys h zCP
  refine WC.skip<|Lb ?_
  obtain⟨zdr,z119,h⟩:=y25 h
  refine L8 ((zdr=some r)) ([(2,(vp zli)),(3,(vp zlj))]) ([stb zli 40 A,stb zlj 40 C]) ?_ ?_
  ·skip
   refine WC.b<|Ld<|La U<|WL.nil<|Lb<|WC.block<|L9 (fun(zlk:Nat) (z2c:Int)=>(y6g z18 z1c zdr zlk z2c=some r)) (fun zlk z2c=>[(2,(vp zli)),(3,(vp zlj)),(5,(vi z2c))]) (fun zlk z2c=>[stb zli 40 A,stb zlj 40 C]) (fun zlk z2c=>zlk) ⟨yx,0⟩ h (.r3 U U U) (.s2 .h1 .here) ?_
   rintro zlk z2c h
   obtain⟨zCN,rfl⟩:=ybU h
   rw[y6g] at h
   refine WC.b<|WC.b<|Ld<|La U<|Le 24 (ya y4T U U)<|Le 25 (yc y4U U<|yi .here U)<|Le 26 (yG Tryz.underlying33 U)<|La U<|WL.nil<|Lb<|WC.cond U (fun zCQ=>?_)<|fun zCQ=>?_
   ·replace h:=yr h zCQ
    refine WC.skip<|Lb<|WC.b<|WC.block<|WC.b ?_
    obtain⟨z11a,h⟩:=yl h
    obtain⟨z11b,h⟩:=yl h
    refine Lv (fun i=>[].contains i) [] U<|Lf 0 30 U (fun _=>ya y4T U U)<|Li 1 31 U (yc y4U U<|yi .here U)<|Lf 2 32 U (fun _=>q_m U)<|L5 (j:=3) (dd:=33) (by kernel_rfl) U z1Z z20 U U (Z:=Z) (Pr:=(fun r x=>r=e37 x)) y5O U U z114 z11a ?_
    rintro z1af z1ag z11c z1ah rfl
    refine Li 4 34 U (yh y77 U (y2d hz.pv z11c) U)<|Lf 5 35 U (fun _=>ya y4T U U)<|Li 6 36 U (yc y4U U<|yi .h1 U)<|Lf 7 37 U (fun _=>q_m U)<|L5 (j:=8) (dd:=38) (by kernel_rfl) U z1Z z20 U U (Z:=Z) (Pr:=(fun r x=>r=e37 x)) y5O U U z116 z11b ?_
    rintro z1ai z1aj z11d z1ak rfl
    refine Li 9 39 U (yh y77 U (y2d hz.pv z11d) U)<|Lf 10 40 U (fun _=>ybD (enc:=e37) (a:=(⟨((nth z18.fP z2c).fNode),((nth z18.fP z2c).fQ),((nth z18.fP z2c).fDelay),((nth z18.fP z2c).fT)⟩:S36)) (b:=(⟨((nth z1c.fP z2c).fNode),((nth z1c.fP z2c).fQ),((nth z1c.fP z2c).fDelay),((nth z1c.fP z2c).fT)⟩:S36)) eqT_37 U U)<|WD.done (by kernel_rfl)<|Lb<|WC.cond U (fun zCR=>?_)<|fun zCR=>?_
    ·replace h:=yr h zCR
     refine WC.b<|Ld<|La U<|WL.nil<|Lb<|WC.ret<|Lq<|Lj<|Lj<|Lq<|Lj ?_
     obtain rfl:=oJ h
     refine Lh Tryz.results16 (.tmp U .nil)<|fun w hw=>?_
     exact⟨yD U,hw.sub .nil⟩
    ·replace h:=ys h zCR
     refine WC.skip<|Lt<|Lb<|Ld<|La U<|La U<|La U<|WL.nil ?_
     exact WX.round ⟨zCN,(i64 (z2c+1))⟩ h (Nat.lt_succ_self _) (.r3 U U U)<|.a2
   ·replace h:=ys h zCQ
    refine WC.exit<|Ln<|Ln<|Lu ?_
    exact Lo () h (.r2 U U)<|.a2
  ·rintro  h
   replace h:=z119.symm.trans h
   obtain⟨zds,z11e,h⟩:=y25 h
   refine L8 ((zds=some r)) ([]) ([]) ?_ ?_
   ·skip
    refine WC.b<|Ld<|La U<|WL.nil<|Lb<|WC.block<|L9 (fun(zll:Nat) (z2v:Int)=>(y6h z18 z1c zds zll z2v=some r)) (fun zll z2v=>[(2,(vp zli)),(3,(vp zlj)),(6,(vi z2v))]) (fun zll z2v=>[stb zli 40 A,stb zlj 40 C]) (fun zll z2v=>zll) ⟨yx,0⟩ h (.r3 U U U) (.a2) ?_
    rintro zll z2v h
    obtain⟨zCO,rfl⟩:=ybV h
    rw[y6h] at h
    refine WC.b<|WC.b<|Ld<|La U<|Le 42 (ya y99 U U)<|Le 43 (yc ybf U<|yi .here U)<|Le 44 (yG Tryz.underlying38 U)<|La U<|WL.nil<|Lb<|WC.cond U (fun zCS=>?_)<|fun zCS=>?_
    ·replace h:=yr h zCS
     refine WC.skip<|Lb<|WC.b<|WC.block<|WC.b ?_
     obtain⟨z11f,h⟩:=yl h
     obtain⟨z11g,h⟩:=yl h
     refine Lv (fun i=>[].contains i) [] U<|Lf 0 48 U (fun _=>ya y99 U U)<|Li 1 49 U (yc ybf U<|yi .here U)<|Lf 2 50 U (fun _=>q_m U)<|L5 (j:=3) (dd:=51) (by kernel_rfl) U z1Z z20 U U (Z:=Z) (Pr:=(fun r x=>r=e53 x)) ybe U U z115 z11f ?_
     rintro z1al z1am z11h z1an rfl
     refine Li 4 52 U (yh yhl U (y2d hz.pv z11h) U)<|Lf 5 53 U (fun _=>ya y99 U U)<|Li 6 54 U (yc ybf U<|yi .h1 U)<|Lf 7 55 U (fun _=>q_m U)<|L5 (j:=8) (dd:=56) (by kernel_rfl) U z1Z z20 U U (Z:=Z) (Pr:=(fun r x=>r=e53 x)) ybe U U z117 z11g ?_
     rintro z1ao z1ap z11i z1aq rfl
     refine Li 9 57 U (yh yhl U (y2d hz.pv z11i) U)<|Lf 10 58 U (fun _=>ybD (enc:=e53) (a:=(⟨((nth z18.fEnds z2v).fVL),((nth z18.fEnds z2v).fNode),((nth z18.fEnds z2v).fDelay)⟩:zn)) (b:=(⟨((nth z1c.fEnds z2v).fVL),((nth z1c.fEnds z2v).fNode),((nth z1c.fEnds z2v).fDelay)⟩:zn)) eqT_53 U U)<|WD.done (by kernel_rfl)<|Lb<|WC.cond U (fun zCT=>?_)<|fun zCT=>?_
     ·replace h:=yr h zCT
      refine WC.b<|Ld<|La U<|WL.nil<|Lb<|WC.ret<|Lq<|Lj<|Lj<|Lq<|Lj ?_
      obtain rfl:=oJ h
      refine Lh Tryz.results16 (.tmp U .nil)<|fun w hw=>?_
      exact⟨yD U,hw.sub .nil⟩
     ·replace h:=ys h zCT
      refine WC.skip<|Lt<|Lb<|Ld<|La U<|La U<|La U<|WL.nil ?_
      exact WX.round ⟨zCO,(i64 (z2v+1))⟩ h (Nat.lt_succ_self _) (.r3 U U U)<|.a2
    ·replace h:=ys h zCS
     refine WC.exit<|Ln<|Ln<|Lu ?_
     exact Lo () h .nil .nil
   ·rintro  h
    replace h:=z11e.symm.trans h
    refine WC.b<|Ld<|La U<|WL.nil<|Lb<|WC.ret ?_
    obtain rfl:=oJ h
    refine Lh Tryz.results16 (.tmp U .nil)<|fun w hw=>?_
    exact⟨yD U,hw.sub .nil⟩
def y6i(z6F:List Int)(z7I:List Int)(zdt:Option Bool):Nat→Int→Option Bool
 | 0,_=>none
 | zCU+1,z5t=>if decide (z5t<((z6F.length:Nat):Int)) then chk ((0:Int)≤z5t∧z5t<((z6F.length:Nat):Int)) (chk ((0:Int)≤z5t∧z5t<((z7I.length:Nat):Int)) (if decide ((nth z6F z5t)≠(nth z7I z5t)) then some false else y6i z6F z7I zdt zCU (i64 (z5t+1)))) else zdt
theorem ybW{n:Nat}{z6F:List Int}{z7I:List Int}{zdt:Option Bool}{z5t:Int}{r:Bool}(h:y6i z6F z7I zdt n z5t=some r):∃ m,n=m+1:=by
 cases n with
 | zero=>cases h
 | succ m=>exact⟨m,rfl⟩
def yau(z6F:List Int)(z7I:List Int):Option Bool:=
 if decide (((z6F.length:Nat):Int)≠((z7I.length:Nat):Int)) then some false else jp0 (some true) fun zdt=>y6i z6F z7I zdt yx 0
theorem yg6{Z:Zp}{zCV:Option Addr}{zCW:Nat}{zCX:Option Addr}{zCY:Nat}{z6F:List Int}{z7I:List Int}{r:Bool}(h:yau z6F z7I=some r)(w₀:World)(hz:PZ [] w₀ Z)(z11j:ZS Z 1 (fun r x=>r=e3 x) zCV zCW z6F)(z11k:ZS Z 1 (fun r x=>r=e3 x) zCX zCY z7I):
  Calls Tryz.prog 17 #[(.slice zCV z6F.length zCW),(.slice zCX z7I.length zCY)] w₀ fun e w'=>e = .returned (.bool r)∧Hp [] w₀ w' []:=by
 unfold yau at h
 refine Lz Tryz.func17 Tryz.ntmps17 ?_
 refine WC.b<|Ld<|La U<|WL.nil<|Lb<|WC.b<|WC.b<|Ld<|La U<|Le 7 (yG Tryz.underlying50 U)<|La U<|Le 9 (yG Tryz.underlying50 U)<|La U<|WL.nil<|Lb<|WC.cond U (fun zCZ=>?_)<|fun zCZ=>?_
 ·replace h:=yr h zCZ
  refine WC.b<|Ld<|La U<|WL.nil<|Lb<|WC.ret<|Lj ?_
  obtain rfl:=oJ h
  refine Lh Tryz.results17 (.tmp U .nil)<|fun w hw=>?_
  exact⟨yD U,hw.sub .nil⟩
 ·replace h:=ys h zCZ
  refine WC.skip<|Lb ?_
  obtain⟨zdt,z11l,h⟩:=y25 h
  refine L8 ((zdt=some r)) ([]) ([]) ?_ ?_
  ·skip
   refine WC.b<|Ld<|La U<|Le 12 (yG Tryz.underlying50 U)<|La U<|WL.nil<|Lb<|WC.block<|L9 (fun(zlm:Nat) (z5t:Int)=>(y6i z6F z7I zdt zlm z5t=some r)) (fun zlm z5t=>[(0,(.slice zCV z6F.length zCW)),(1,(.slice zCX z7I.length zCY)),(12,(vi ((z6F.length:Nat):Int))),(13,(vi z5t))]) (fun zlm z5t=>[]) (fun zlm z5t=>zlm) ⟨yx,0⟩ h (.r4 U U U U) .nil ?_
   rintro zlm z5t h
   obtain⟨zCU,rfl⟩:=ybW h
   rw[y6i] at h
   refine WC.b<|Ld<|La U<|WL.nil<|Lb<|WC.b<|WC.cond U (fun zD0=>?_)<|fun zD0=>?_
   ·replace h:=yr h zD0
    refine WC.skip<|Lb<|WC.b<|WC.block<|WC.b<|Ld<|La U<|La U<|WL.nil<|Lb<|WC.b ?_
    obtain⟨z11m,h⟩:=yl h
    obtain⟨z11n,h⟩:=yl h
    refine Lv (fun i=>[].contains i) [] U<|Lf 0 16 U (fun _=>q_m U)<|Lf 1 17 U (fun _=>q_m U)<|L5 (j:=2) (dd:=18) (by kernel_rfl) U z1Z z20 U U (Z:=Z) (Pr:=(fun r x=>r=e3 x)) y52 U U z11j z11m ?_
    rintro z1ar z1as z11o z1at rfl
    refine Li 3 19 U (yc yq U<|y3a hz.pv z11o U)<|Lf 4 20 U (fun _=>q_m U)<|Lf 5 21 U (fun _=>q_m U)<|L5 (j:=6) (dd:=22) (by kernel_rfl) U z1Z z20 U U (Z:=Z) (Pr:=(fun r x=>r=e3 x)) y52 U U z11k z11n ?_
    rintro z1au z1av z11p z1aw rfl
    refine Li 7 23 U (yc yq U<|y3a hz.pv z11p U)<|Lf 8 24 U (fun _=>yd1 U U)<|WD.done (by kernel_rfl)<|Lb<|WC.cond U (fun zD1=>?_)<|fun zD1=>?_
    ·replace h:=yr h zD1
     refine WC.b<|Ld<|La U<|WL.nil<|Lb<|WC.ret<|Lq<|Lj<|Lj<|Lq<|Lj ?_
     obtain rfl:=oJ h
     refine Lh Tryz.results17 (.tmp U .nil)<|fun w hw=>?_
     exact⟨yD U,hw.sub .nil⟩
    ·replace h:=ys h zD1
     refine WC.skip<|Lt<|Lb<|Ld<|La U<|La U<|WL.nil ?_
     exact WX.round ⟨zCU,(i64 (z5t+1))⟩ h (Nat.lt_succ_self _) (.r4 U U U U) .nil
   ·replace h:=ys h zD0
    refine WC.exit<|Ln<|Ln<|Lu ?_
    exact Lo () h .nil .nil
  ·rintro  h
   replace h:=z11l.symm.trans h
   refine WC.b<|Ld<|La U<|WL.nil<|Lb<|WC.ret ?_
   obtain rfl:=oJ h
   refine Lh Tryz.results17 (.tmp U .nil)<|fun w hw=>?_
   exact⟨yD U,hw.sub .nil⟩
def y61  : Option Bool:=
 (y8F).bind fun zbj=>(y4A zbj.1 0 zbj.2).bind fun zoR=>(y3e zbj.1 zbj.2 zoR.1.fP).bind fun zoS=>(if decide (zoR.2=0) then(yat zoR.1 (⟨([(⟨0,0,40,80⟩:S36),(⟨2,1,56,80⟩:S36)]:List S36),([(⟨0,1,96⟩:zn)]:List zn)⟩:S39)).bind fun zLD=>some zLD else some false).bind fun zsK=>(if zsK&&(decide (((zoS.length:Nat):Int)=1)) then chk ((0:Int)≤0∧0<((zoS.length:Nat):Int)) ((yau (nth zoS 0) ([0,39]:List Int)).bind fun zLE=>some zLE) else some false).bind fun zD2=>some zD2
theorem y9N{Z:Zp}{r:Bool}(h:y61=some r)(w₀:World)(hz:PZ [] w₀ Z):
  Calls Tryz.prog 11 #[] w₀ fun e w'=>e = .returned (.bool r)∧Hp [] w₀ w' []:=by
 unfold y61 at h
 refine Calls.on0 Tryz.func11 Tryz.ntmps11 ?_
 refine WC.pool<|WC.b<|Ld<|La U<|WL.nil<|Lb<|WC.b ?_
 obtain⟨zbj,z11q,h⟩:=za h
 refine Ld<|WL.yhL (dd:=8) U U U (zb Tryz.call19 .nil) .nil (ccz hz .nil .here fun w pz ho=>yeg z11q w pz ) ?_
 rintro z1ax z1ay z1az z1aA z1aB z1aC z1aD z1aE z1aF z1aG z1aH z1aI z1aJ z1aK z1aL z1aM z1aN z1aO z1aP z1aQ z1aR z1aS ⟨zLF,zLG,zLH,zLI,zLJ,zLK,zLL⟩
 refine WL.merge .here .h5<|La U<|La U<|La U (Lg 1 (yv (cs:=[vn,vn,vn,vn,vn,vn,vn,vn]) ydM U) fun z1aT _=>Ll U U (yn yeQ U U U .here U U U)<|La U<|WL.nil<|Lb<|WC.b ?_)
 obtain⟨zoR,z11r,h⟩:=za h
 refine Ld<|Le 12 (yh y1V U (yj .here) U)<|La U<|WL.y8g (dd:=14) U U U (zb Tryz.call12<|.r3 U U U) .nil (yai hz .nil .h1 (.s5 .h2 .h2 .h2 .h2 .h2) fun w pz ho la=>y9C z11r w pz (ZA.row (la _ (.head _) _) ((zLF.weak<|fun _ _ h=>y1c (Zle.yN _ _ _) h).weak (fun _ _ h=>y1c (Zle.left _ _) h)) ⟨w,pz.1⟩) ((((zLG.mono<|Zle.yN _ _ _).weak (fun _ _ h=>y1o (Zle.yN _ _ _) h)).mono (Zle.left _ _)).weak (fun _ _ h=>y1o (Zle.left _ _) h)) (ZA.row (la _ (.tail _<|.head _) _) (RR.flat (enc:=e64) (fun _=>U) _) ⟨w,pz.1⟩) (ZA.row (la _ (.tail _<|.tail _<|.head _) _) (RR.flat (enc:=e62) (fun _=>U) _) ⟨w,pz.1⟩) (ZA.row (la _ (.tail _<|.tail _<|.tail _<|.head _) _) ((zLH.weak<|fun _ _ h=>y1e (Zle.yN _ _ _) h).weak (fun _ _ h=>y1e (Zle.left _ _) h)) ⟨w,pz.1⟩) ((zLI.mono<|Zle.yN _ _ _).mono (Zle.left _ _)) ((((zLJ.mono<|Zle.yN _ _ _).weak (fun _ _ h=>y1p (Zle.yN _ _ _) h)).mono (Zle.left _ _)).weak (fun _ _ h=>y1p (Zle.left _ _) h)) ((zLK.mono<|Zle.yN _ _ _).mono (Zle.left _ _))<|ZA.row (la _ (.tail _<|.tail _<|.tail _<|.tail _<|.head _) _) ((zLL.weak<|fun _ _ h=>y1B (Zle.yN _ _ _) h).weak (fun _ _ h=>y1B (Zle.left _ _) h)) ⟨w,pz.1⟩) ?_
 rintro z1aU z1aV z1aW z1aX _
 refine La U<|La U<|La U (Lg 3 (yv (cs:=[vn,vn]) y7v U) fun z1aY _=>Ll U U (yn y5q U U U .here U U U)<|La U<|WL.nil<|Lb<|WC.b<|Ld<|Le 17 (yL (v:=(.agg #[(vi 0),(vi 0),(vi 40),(vi 80)])) (Lp (l:=[.const (vi 0),.const (vi 0),.const (vi 40),.const (vi 80)]) (.r4 U U U U) [0,1,2,3]) (fun _=>by kernel_rfl))<|Le 18 (yL (v:=(.agg #[(vi 2),(vi 1),(vi 56),(vi 80)])) (Lp (l:=[.const (vi 2),.const (vi 1),.const (vi 56),.const (vi 80)]) (.r4 U U U U) [0,1,2,3]) (fun _=>by kernel_rfl)) (Lg 19 (yS (cs:=([(⟨0,0,40,80⟩:S36),(⟨2,1,56,80⟩:S36)]:List S36).flatMap e37) y5O (Lp (l:=[.tmp 17,.tmp 18]) (.r2 U U) [0,1]) (fun _=>by kernel_rfl) U (by unfold maxLen;omega)) fun z11s _=>Le 20 (yL (v:=(.agg #[(vi 0),(vi 1),(vi 96)])) (Lp (l:=[.const (vi 0),.const (vi 1),.const (vi 96)]) (.r3 U U U) [0,1,2]) (fun _=>by kernel_rfl)) (Lg 21 (yS (cs:=([(⟨0,1,96⟩:zn)]:List zn).flatMap e53) ybe (Lp (l:=[.tmp 20]) (.cons U .nil) [0]) (fun _=>by kernel_rfl) U (by unfold maxLen;omega)) fun z11t _=>Le 22 (yL (v:=(.agg #[(.slice (some ⟨z11s,0,none⟩) (([(⟨0,0,40,80⟩:S36),(⟨2,1,56,80⟩:S36)]:List S36).length) 2),(.slice (some ⟨z11t,0,none⟩) (([(⟨0,1,96⟩:zn)]:List zn).length) 1)])) (Lp (l:=[.tmp 19,.tmp 21]) (.r2 U U) [0,1]) (fun _=>by kernel_rfl)) (Lg 5 (yv (cs:=[vn,vn]) y7v U) fun z1aZ _=>Ll U U (yn y5q U U U .here U U U)<|WL.nil<|Lb<|WC.b ?_))))
 obtain⟨zoS,z11u,h⟩:=za h
 refine Ld<|Le 23 (yh y1V U (yj .h6) U)<|La U<|Le 25 (ya y4T U U)<|Le 26 (yc y4U U<|yi .h3 U)<|WL.freezeS (ls:=zbj.1.fM) (.there .h7) .h7 hz (zLF.weak<|fun _ _ h=>y1c (Zle.yN _ _ _) h) ?_
 intro z1b0 zdu zD3
 replace zD3:=zD3.weak (fun _ _ h=>y1c zdu h)
 refine WL.freezeS (ls:=zbj.1.fS) (.there .h7) .here hz (RR.flat (enc:=e64) (fun _=>U) _) fun z1b1 zbk z11v=>WL.freezeS (ls:=zbj.1.fK) (.there .h7) .here hz (RR.flat (enc:=e62) (fun _=>U) _) fun z1b2 za0 z11w=>WL.freezeS (ls:=zbj.1.fVLs) (.there .h7) .here hz (zLH.weak<|fun _ _ h=>y1e ((Zle.yN _ _ _).trans (zdu.trans<|zbk.trans za0)) h) ?_
 intro z1b3 z9h zD4
 replace zD4:=zD4.weak (fun _ _ h=>y1e z9h h)
 refine WL.freezeS (ls:=zbj.2) (.there .h7) .here hz (zLL.weak<|fun _ _ h=>y1B ((Zle.yN _ _ _).trans (zdu.trans<|zbk.trans<|za0.trans z9h)) h) ?_
 intro z1b4 z8w zD5
 replace zD5:=zD5.weak (fun _ _ h=>y1B z8w h)
 refine WL.freezeS (ls:=zoR.1.fP) .h5 .here hz (RR.flat (enc:=e37) (fun _=>U) _) fun z11x z7J zLM=>WL.y8g (dd:=27) U U U (zb Tryz.call14<|.r3 U U U) .nil (ccz hz .nil .here fun w pz ho=>y9D z11u w pz ((zD3.mono<|zbk.trans<|za0.trans<|z9h.trans<|z8w.trans z7J).weak (fun _ _ h=>y1c (zbk.trans<|za0.trans<|z9h.trans<|z8w.trans z7J) h)) ((zLG.mono<|(Zle.yN _ _ _).trans (zdu.trans<|zbk.trans<|za0.trans<|z9h.trans<|z8w.trans z7J)).weak (fun _ _ h=>y1o ((Zle.yN _ _ _).trans (zdu.trans<|zbk.trans<|za0.trans<|z9h.trans<|z8w.trans z7J)) h)) (z11v.mono<|za0.trans<|z9h.trans<|z8w.trans z7J) (z11w.mono<|z9h.trans<|z8w.trans z7J) ((zD4.mono<|z8w.trans z7J).weak (fun _ _ h=>y1e (z8w.trans z7J) h)) (zLI.mono<|(Zle.yN _ _ _).trans (zdu.trans<|zbk.trans<|za0.trans<|z9h.trans<|z8w.trans z7J)) ((zLJ.mono<|(Zle.yN _ _ _).trans (zdu.trans<|zbk.trans<|za0.trans<|z9h.trans<|z8w.trans z7J)).weak (fun _ _ h=>y1p ((Zle.yN _ _ _).trans (zdu.trans<|zbk.trans<|za0.trans<|z9h.trans<|z8w.trans z7J)) h)) (zLK.mono<|(Zle.yN _ _ _).trans (zdu.trans<|zbk.trans<|za0.trans<|z9h.trans<|z8w.trans z7J)) ((zD5.mono z7J).weak (fun _ _ h=>y1B z7J h)) zLM) ?_
 rintro z11y z1b5 z1b6 z1b7 z11z
 refine WL.merge .here .h1<|La U<|WL.nil<|Lb<|WC.b ?_
 obtain⟨zsK,zLN,h⟩:=za h
 obtain⟨zD2,zLO,h⟩:=za h
 refine Ld<|La U<|La U<|La U<|Lx true 3 30 (B:=zsK) U U U U U U (fun h=>(oJ<|ys zLN h).symm) (fun _ z11A=>?_) ?_
 ·skip
  have zoT:=yr zLN z11A
  obtain⟨zLD,z11B,zoT⟩:=za zoT
  replace zoT:=oJ zoT
  refine Le 31 (yh y5r U (yj .h5) U)<|Le 32 (yh y5r U (yj .h2) U)<|Lk 33 (zb Tryz.call16<|.r2 U U) .nil (yai hz .nil .here (.s3 .h6 .h4 .h3) fun w pz ho la=>yg5 z11B w pz ((zLM.mono<|(Zle.left _ _).trans (Zle.yN _ _ _)).mono (Zle.left _ _)) (ZA.row (la _ (.head _) _) (RR.flat (enc:=e53) (fun _=>U) _) ⟨w,pz.1⟩) (ZA.row (la _ (.tail _<|.head _) _) (RR.flat (enc:=e37) (fun _=>U) _) ⟨w,pz.1⟩)<|ZA.row (la _ (.tail _<|.tail _<|.head _) _) (RR.flat (enc:=e53) (fun _=>U) _) ⟨w,pz.1⟩)<|La U ?_
  exact Ly zoT U U .all
 refine La U<|Lx true 3 35 (B:=zsK&&(decide (((zoS.length:Nat):Int)=1))) U U U U U U (fun h=>(y3W h).symm) (fun _ z11C=>?_) ?_
 ·skip
  refine La U<|Le 37 (yG Tryz.underlying46 U)<|La U<|La U ?_
  exact Ly (y3X z11C) U U .all
 refine La U<|Lx true 5 40 (B:=zD2) U U U U U U (fun h=>(oJ<|ys zLO h).symm) (fun _ z11D=>?_) ?_
 ·skip
  have zhS:=yr zLO z11D
  obtain⟨zoU,zhS⟩:=yl zhS
  obtain⟨zLE,z11E,zhS⟩:=za zhS
  replace zhS:=oJ zhS
  refine La U<|Ki (fun w hw=>Hp.y2u .h1 hw (by intro hz';have:=zoU;rw[hz'] at this;omega)) ?_
  rintro⟨z1b8,rfl⟩
  obtain⟨z1b9,z1ba,z1bb,z11F,⟨z1bc,z1bd,rfl,z11G⟩⟩:=RR.elem (Pr:=(p50 (Z++(z11x++z11y)))) (z11z.weak (fun _ _ h=>ydL (Zle.yN _ _ _) h)) zoU.1 zoU.2
  refine Le 42 (yW y9r U U zoU.1 zoU.2 y30)<|Le 43 (yc yad U<|y63 .h1<|yaa z11F 0 _ U) (Lg 44 (yS (cs:=([0,39]:List Int).flatMap e3) y52 (Lp (l:=[.const (vi 0),.const (vi 39)]) (.r2 U U) [0,1]) (fun _=>by kernel_rfl) U (by unfold maxLen;omega)) fun z1be _=>Lk 45 (zb Tryz.call17<|.r2 U U) .nil (yai hz .nil .h1 (.cons .here .nil) fun w pz ho la=>yg6 z11E w pz (z11G.mono<|Zle.left _ _)<|ZA.row (la _ (.head _) _) (RR.flat (enc:=e3) (fun _=>U) _) ⟨w,pz.1⟩)<|La U ?_)
  exact Ly zhS U U<|.s8 .h1 .h1 .h1 .h1 .h1 .h1 .h1 .h1
 refine La U<|WL.nil<|Lb<|WC.ret ?_
 obtain rfl:=oJ h
 refine Lh Tryz.results11 (.tmp U .nil)<|fun w hw=>?_
 exact⟨yD U,hw.sub .nil⟩
end Go.Proofs.YthjnhebofpebpaaGreat
namespace Go.Proofs.YthjnhebofpebpaaGreat
open Go Go.RowKit Sep
set_option maxRecDepth 30000
set_option maxHeartbeats 4000000
end Go.Proofs.YthjnhebofpebpaaGreat
namespace Go.Proofs.YthjnhebofpebpaaGreat
open Go Go.RowKit Sep
set_option maxRecDepth 30000
set_option maxHeartbeats 4000000
end Go.Proofs.YthjnhebofpebpaaGreat
namespace Go.Proofs.YthjnhebofpebpaaGreat
open Go Go.RowKit Sep
set_option maxRecDepth 30000
set_option maxHeartbeats 4000000
end Go.Proofs.YthjnhebofpebpaaGreat
namespace Go.Proofs.YthjnhebofpebpaaGreat
open Go Go.RowKit Sep
set_option maxRecDepth 30000
set_option maxHeartbeats 4000000
end Go.Proofs.YthjnhebofpebpaaGreat
namespace Go.Proofs.YthjnhebofpebpaaGreat
open Go Go.RowKit Sep
set_option maxRecDepth 30000
set_option maxHeartbeats 4000000
end Go.Proofs.YthjnhebofpebpaaGreat
