/- A part of this claim's proof: models of functions, walks, plain laws. No conditions. -/
import Derived.Test.YtcahmabkeaijdaaGreatW35xa
set_option linter.all false
namespace Go.Proofs.YtcahmabkeaijdaaGreat
open Go Go.RowKit Sep
set_option maxRecDepth 30000
set_option maxHeartbeats 4000000
def y3t(z1D:List (List zd))(z1R:Int)(za4:(List za)→Option (List za)):Nat→(List za)→Int→Option (List za)
 | 0,_,_=>none
 | zr2+1,z3r,z3s=>if decide (z3s<(((nth z1D z1R).length:Nat):Int)) then jp1 (fun(z8a:List za)=>y3t z1D z1R za4 zr2 z8a (i64 (z3s+1))) fun zmx=>chk ((0:Int)≤z3s∧z3s<(((nth z1D z1R).length:Nat):Int)) ((y49 (⟨((nth (nth z1D z1R) z3s).fNode),((nth (nth z1D z1R) z3s).fNext),((nth (nth z1D z1R) z3s).fQ)⟩:zd)).bind fun zyU=>(y1t z3r zyU).bind fun zyV=>if !zyV then(y49 (⟨((nth (nth z1D z1R) z3s).fNode),((nth (nth z1D z1R) z3s).fNext),((nth (nth z1D z1R) z3s).fQ)⟩:zd)).bind fun ze5=>chk ((((z3r++([ze5]:List za)).length:Nat):Int)*16≤140737488355328∧(((z3r++([ze5]:List za)).length:Nat):Int)≤4611686018427387904) (zmx (z3r++([ze5]:List za))) else zmx z3r) else za4 z3r
theorem ya3{n:Nat}{z1D:List (List zd)}{z1R:Int}{za4:(List za)→Option (List za)}{z3r:List za}{z3s:Int}{r:List za}(h:y3t z1D z1R za4 n z3r z3s=some r):∃ m,n=m+1:=by
 cases n with
 | zero=>cases h
 | succ m=>exact⟨m,rfl⟩
def y3u(z1D:List (List zd))(za5:(List za)→Option (List za)):Nat→(List za)→Int→Option (List za)
 | 0,_,_=>none
 | zr3+1,z5R,z1R=>if decide (z1R<((z1D.length:Nat):Int)) then jp1 (fun(z8b:List za)=>y3u z1D za5 zr3 z8b (i64 (z1R+1))) fun zr4=>chk ((0:Int)≤z1R∧z1R<((z1D.length:Nat):Int)) (jp1 (fun(z8c:List za)=>zr4 z8c) fun za4=>y3t z1D z1R za4 yy z5R 0) else za5 z5R
theorem ya4{n:Nat}{z1D:List (List zd)}{za5:(List za)→Option (List za)}{z5R:List za}{z1R:Int}{r:List za}(h:y3u z1D za5 n z5R z1R=some r):∃ m,n=m+1:=by
 cases n with
 | zero=>cases h
 | succ m=>exact⟨m,rfl⟩
def y5V(z1D:List (List zd)):Option (List za):=
 jp1 (fun(z8I:List za)=>(y1u z8I (fun(y0:za) (y1:za)=>y1k y0 y1)).bind fun zr5=>some zr5) fun za5=>y3u z1D za5 yy ([]:List za) 0
theorem ydV(Z:Zp)(ze6:Option Addr)(ze7:Nat)(z1D:List (List zd))(r:List za)(h:y5V z1D=some r)(w₀:World)(hz:PZ [] w₀ Z)(zHt:ZS Z 1 (p48 Z) ze6 ze7 z1D):
  Calls Tryz.prog 35 #[(.slice ze6 z1D.length ze7)] w₀ fun e w'=>∃ zyW:Option Addr,∃ zyX:Nat,e = .returned (.slice zyW r.length zyX)∧True∧Hp [] w₀ w' [row (.slice zyW r.length zyX) 97 2 (r.flatMap e97)]:=by
 unfold y5V at h
 refine Calls.on1 Tryz.func35 Tryz.ntmps35 ?_
 refine WC.b (WC.a (WL.pu rfl (WL.nil (WX.a (WC.b (WC.a (WL.pu rfl (WL.nil (WX.a ?_)))))))))
 obtain⟨za5,zHu,h⟩:=y15 h
 refine WC.y2R (fun(z8I:List za) (ze8:Option Addr) (ze9:Nat)=>(za5 z8I=some r)) (fun z8I ze8 ze9=>[(3,(.slice ze8 z8I.length ze9))]) (fun z8I ze8 ze9=>[row (.slice ze8 z8I.length ze9) 97 2 (z8I.flatMap e97)]) ?_ ?_
 ·skip
  refine WC.b (WC.a (WL.pu rfl (WL.qA 9 (yH Tryz.underlying32 rfl) (WL.pu rfl (WL.nil (WX.a (WC.block (WC.nilRow 97 2 (WC.y6I (fun(zg2:Nat) (z5R:List za) (z1R:Int) (zbU:Option Addr) (zbV:Nat)=>(y3u z1D za5 zg2 z5R z1R=some r)) (fun zg2 z5R z1R zbU zbV=>[(3,(.slice zbU z5R.length zbV)),(8,(.slice ze6 z1D.length ze7)),(9,(.int .i64 ((z1D.length:Nat):Int))),(10,(.int .i64 z1R))]) (fun zg2 z5R z1R zbU zbV=>[row (.slice zbU z5R.length zbV) 97 2 (z5R.flatMap e97)]) (fun zg2 z5R z1R zbU zbV=>zg2) ⟨yy,([]:List za),0,none,0⟩ h (.r4 rfl rfl rfl rfl) (.cons .here .nil) ?_)))))))))
  rintro zg2 z5R z1R zbU zbV h
  obtain⟨zr3,rfl⟩:=ya4 h
  rw[y3u] at h
  refine WC.b (WC.a (WL.pu rfl (WL.nil (WX.a (WC.b (WC.cond rfl (fun zr6=>?_) (fun zr6=>?_)))))))
  ·replace h:=yp h zr6
   refine WC.skip (WX.a ?_)
   obtain⟨zr4,zHv,h⟩:=y15 h
   refine WC.y2R (fun(z8b:List za) (zg3:Option Addr) (zg4:Nat)=>(zr4 z8b=some r)) (fun z8b zg3 zg4=>[(3,(.slice zg3 z8b.length zg4)),(8,(.slice ze6 z1D.length ze7)),(9,(.int .i64 ((z1D.length:Nat):Int))),(10,(.int .i64 z1R))]) (fun z8b zg3 zg4=>[row (.slice zg3 z8b.length zg4) 97 2 (z8b.flatMap e97)]) ?_ ?_
   ·skip
    refine WC.block (WC.b ?_)
    obtain⟨zHw,h⟩:=yo h
    refine WC.a (WL.znth (dd:=12) rfl rfl (Z:=Z) (Pr:=(p48 Z)) y7h rfl rfl zHt zHw ?_)
    rintro zV2 zV3 zHx zV4 ⟨zyY,zyZ,rfl,zHy⟩
    refine WL.qA 13 (yc y7E rfl (y5I hz.pv zHx rfl)) (WL.pu rfl (WL.nil (WX.a (WC.b (WC.a (WL.pu rfl (WL.qA 15 (yH Tryz.underlying48 rfl) (WL.pu rfl (WL.nil (WX.a ?_))))))))))
    obtain⟨za4,zHz,h⟩:=y15 h
    refine WC.mid3 (fun(z8c:List za) (zg5:Option Addr) (zg6:Nat)=>(za4 z8c=some r)) (fun z8c zg5 zg6=>[(3,(.slice zg5 z8c.length zg6)),(8,(.slice ze6 z1D.length ze7)),(9,(.int .i64 ((z1D.length:Nat):Int))),(10,(.int .i64 z1R))]) (fun z8c zg5 zg6=>[row (.slice zg5 z8c.length zg6) 97 2 (z8c.flatMap e97)]) ?_ ?_
    ·skip
     refine WC.block (WC.y6I (fun(zg7:Nat) (z3r:List za) (z3s:Int) (zbW:Option Addr) (zbX:Nat)=>(y3t z1D z1R za4 zg7 z3r z3s=some r)) (fun zg7 z3r z3s zbW zbX=>[(3,(.slice zbW z3r.length zbX)),(8,(.slice ze6 z1D.length ze7)),(9,(.int .i64 ((z1D.length:Nat):Int))),(10,(.int .i64 z1R)),(14,(.slice zyY ((nth z1D z1R).length) zyZ)),(15,(.int .i64 (((nth z1D z1R).length:Nat):Int))),(16,(.int .i64 z3s))]) (fun zg7 z3r z3s zbW zbX=>[row (.slice zbW z3r.length zbX) 97 2 (z3r.flatMap e97)]) (fun zg7 z3r z3s zbW zbX=>zg7) ⟨yy,z5R,0,zbU,zbV⟩ h (.r7 rfl rfl rfl rfl rfl rfl rfl) (.cons .here .nil) ?_)
     rintro zg7 z3r z3s zbW zbX h
     obtain⟨zr2,rfl⟩:=ya3 h
     rw[y3t] at h
     refine WC.b (WC.a (WL.pu rfl (WL.nil (WX.a (WC.b (WC.cond rfl (fun zr7=>?_) (fun zr7=>?_)))))))
     ·replace h:=yp h zr7
      refine WC.skip (WX.a ?_)
      obtain⟨zmx,zHA,h⟩:=y15 h
      refine WC.y2R (fun(z8a:List za) (zg8:Option Addr) (zg9:Nat)=>(zmx z8a=some r)) (fun z8a zg8 zg9=>[(3,(.slice zg8 z8a.length zg9)),(8,(.slice ze6 z1D.length ze7)),(9,(.int .i64 ((z1D.length:Nat):Int))),(10,(.int .i64 z1R)),(14,(.slice zyY ((nth z1D z1R).length) zyZ)),(15,(.int .i64 (((nth z1D z1R).length:Nat):Int))),(16,(.int .i64 z3s))]) (fun z8a zg8 zg9=>[row (.slice zg8 z8a.length zg9) 97 2 (z8a.flatMap e97)]) ?_ ?_
      ·skip
       refine WC.block (WC.b ?_)
       obtain⟨zHB,h⟩:=yo h
       refine WC.a (WL.znth (dd:=18) rfl rfl (Z:=Z) (Pr:=(fun r x=>r=e62 x)) y6e rfl rfl zHy zHB ?_)
       rintro zV5 zV6 zHC zV7 rfl
       refine WL.qA 19 (yh y3Q rfl (y2b hz.pv zHC) rfl) (WL.nA 7 (yv (cs:=[(.int .i64 0),(.int .i64 0),(.int .i64 0)]) y6L rfl) ?_)
       intro zV8 _
       refine WL.ym rfl rfl (yl y70 rfl rfl rfl .here rfl rfl rfl) (WL.nil (WX.a (WC.b ?_)))
       obtain⟨zyU,zHD,h⟩:=z8 h
       obtain⟨zyV,zHE,h⟩:=z8 h
       refine WC.a (WL.pu rfl (WL.qA 21 (yh y3Q rfl (yi .here) rfl) (WL.cA 22 (zb Tryz.call40 (.cons rfl .nil)) .nil (cc hz .nil fun w pz ho=>y5y _ _ _ zHD w pz ) (WL.cA 23 (zb Tryz.call63 (.r2 rfl rfl)) .nil (ccl hz .nil (.cons .h1 .nil) fun w pz ho la=>y62 _ _ _ _ _ _ zHE w pz (ZA.row (la _ (.head _) _) (RR.flat (enc:=e97) (fun _=>rfl) _) ⟨w,pz.1⟩)) (WL.pu rfl (WL.nil (WX.a (WC.cond rfl (fun zr8=>?_) (fun zr8=>?_)))))))))
       ·replace h:=yp h zr8
        obtain⟨ze5,zHF,h⟩:=z8 h
        obtain⟨zHG,h⟩:=yo h
        refine WC.a (WL.pu rfl (WL.qA 26 (yh y3Q rfl (yi .here) rfl) (WL.cA 27 (zb Tryz.call40 (.cons rfl .nil)) .nil (cc hz .nil fun w pz ho=>y5y _ _ _ zHF w pz ) (WL.nA 28 (yR (cs:=([ze5]:List za).flatMap e97) y5u (Eos.parts (l:=[.tmp 27]) (.cons rfl .nil) [0]) (fun _=>by kernel_rfl) rfl (by unfold maxLen;omega)) ?_))))
        intro zV9 _
        refine WL.fA 29 (y54 (enc:=e97) (l1:=z3r) (l2:=([ze5]:List za)) y5u rfl rfl .h2 (fun _=>rfl) rfl rfl (y4r .here) (y5o ybI _) zHG) ?_
        rintro⟨zHH,zHI⟩ _
        refine WL.pu rfl (WL.nil (WX.yn ?_))
        exact WX.mid ⟨(z3r++([ze5]:List za)),zHH,zHI⟩ h (.r7 rfl rfl rfl rfl rfl rfl rfl) (.cons .here .nil)
       ·replace h:=yq h zr8
        refine WC.skip (WX.yn ?_)
        exact WX.mid ⟨z3r,zbW,zbX⟩ h (.r7 rfl rfl rfl rfl rfl rfl rfl) (.cons .h1 .nil)
      ·rintro z8a zg8 zg9 h
       replace h:=(zHA z8a).symm.trans h
       refine WC.a (WL.pu rfl (WL.pu rfl (WL.nil ?_)))
       exact WX.round ⟨zr2,z8a,(i64 (z3s+1)),zg8,zg9⟩ h (Nat.lt_succ_self _) (.r7 rfl rfl rfl rfl rfl rfl rfl) (.cons .here .nil)
     ·replace h:=yq h zr7
      refine WC.exit (WX.yg (WX.yg (WX.yz ?_)))
      exact WX.mid ⟨z3r,zbW,zbX⟩ h (.r4 rfl rfl rfl rfl) (.cons .here .nil)
    ·rintro z8c zg5 zg6 h
     replace h:=(zHz z8c).symm.trans h
     refine WX.yn ?_
     exact WX.mid ⟨z8c,zg5,zg6⟩ h (.r4 rfl rfl rfl rfl) (.cons .here .nil)
   ·rintro z8b zg3 zg4 h
    replace h:=(zHv z8b).symm.trans h
    refine WC.a (WL.pu rfl (WL.pu rfl (WL.nil ?_)))
    exact WX.round ⟨zr3,z8b,(i64 (z1R+1)),zg3,zg4⟩ h (Nat.lt_succ_self _) (.r4 rfl rfl rfl rfl) (.cons .here .nil)
  ·replace h:=yq h zr6
   refine WC.exit (WX.yg (WX.yg (WX.yz ?_)))
   exact WX.mid ⟨z5R,zbU,zbV⟩ h (.cons rfl .nil) (.cons .here .nil)
 ·rintro z8I ze8 ze9 h
  replace h:=(zHu z8I).symm.trans h
  refine WC.b ?_
  obtain⟨zr5,zHJ,h⟩:=z8 h
  refine WC.a (WL.pu rfl (WL.y53 (dd:=33) rfl rfl rfl (zb Tryz.call64 (.r2 rfl rfl)) (.cons .here .nil) (cc hz (.cons .here .nil) fun w pz ho=>y63 _ _ _ (zg1:=25) (zmw:=[]) _ (zg0:=(fun(y0:za) (y1:za)=>y1k y0 y1)) _ zHJ w pz Tryz.call25 (fun w' hz' y0 y1  r  hr=>y7U _ _ _ _ hr w' hz' ) ho) ?_))
  rintro  zHK
  refine WL.repin (i:=3) rfl (u:=(.slice ze8 zr5.length ze9)) (y7b zHK.symm) (WL.nil (WX.a (WC.b (WC.a (WL.pu rfl (WL.pu rfl (WL.nil (WX.a (WC.ret ?_)))))))))
  obtain rfl:=oJ h
  refine WX.yf Tryz.results35 (.tmp rfl .nil) (fun w hw=>?_)
  exact⟨ze8,ze9,yD rfl,trivial,hw.sub (.cons .here .nil)⟩
def y5W(za6:zd)(zmy:Int):Option Bool:=
 some (decide (za6.fNext=zmy))
theorem ydW(Z:Zp)(zz0:Addr)(za6:zd)(zmy:Int)(r:Bool)(h:y5W za6 zmy=some r)(w₀:World)(hz:PZ [] w₀ Z)(zHL:ZC Z zz0 [(.int .i64 zmy)]):
  Calls Tryz.prog 66 #[(.agg #[(.int .i64 za6.fNode),(.int .i64 za6.fNext),(.int .i64 za6.fQ)]),(.pointer (some zz0))] w₀ fun e w'=>e = .returned (.bool r)∧Hp [] w₀ w' []:=by
 unfold y5W at h
 refine Calls.yK Tryz.func66 Tryz.ntmps66 ?_
 refine WC.b (WC.a (WL.nA 2 (yI (cs:=[(.int .i64 za6.fNode),(.int .i64 za6.fNext),(.int .i64 za6.fQ)]) rfl rfl) ?_))
 intro zVa _
 refine WL.pu rfl (WL.nil (WX.a (WC.b (WC.a (WL.qA 4 (ya y5T rfl rfl) (WL.qA 5 (yc yt rfl (yk .here rfl)) (WL.qA 6 (yc yt rfl (y5I hz.pv zHL rfl)) (WL.pu rfl (WL.pu rfl (WL.nil (WX.a (WC.ret ?_))))))))))))
 obtain rfl:=oJ h
 refine WX.yf Tryz.results66 (.tmp rfl .nil) (fun w hw=>?_)
 exact⟨yD rfl,hw.sub .nil⟩
def yW(z3O:List zd)(z7n:zd→Option Bool)(za7:Option Int):Nat→Int→Option Int
 | 0,_=>none
 | zr9+1,z3t=>if decide (z3t<((z3O.length:Nat):Int)) then chk ((0:Int)≤z3t∧z3t<((z3O.length:Nat):Int)) ((z7n (⟨((nth z3O z3t).fNode),((nth z3O z3t).fNext),((nth z3O z3t).fQ)⟩:zd)).bind fun zra=>if zra then some z3t else yW z3O z7n za7 zr9 (i64 (z3t+1))) else za7
theorem y5L{n:Nat}{z3O:List zd}{z7n:zd→Option Bool}{za7:Option Int}{z3t:Int}{r:Int}(h:yW z3O z7n za7 n z3t=some r):∃ m,n=m+1:=by
 cases n with
 | zero=>cases h
 | succ m=>exact⟨m,rfl⟩
def y17(z3O:List zd)(z7n:zd→Option Bool):Option Int:=
 jp0 (some (-1)) fun za7=>yW z3O z7n za7 yy 0
theorem y4D(Z:Zp)(zrb:Option Addr)(zrc:Nat)(zbY:FuncId)(zga:List Value)(z3O:List zd)(z7n:zd→Option Bool)(r:Int)(h:y17 z3O z7n=some r)(w₀:World)(hz:PZ [] w₀ Z)(zHM:ZS Z 3 (fun r x=>r=e62 x) zrb zrc z3O)(zHN:∀ args w,(callFunc zbY args).run Tryz.prog w = .ok (.enter zbY args) w)(zHO:∀ w:World,PZ [] w Z→∀(x0:zd) (r:Bool),z7n x0=some r→Calls Tryz.prog zbY (([(.agg #[(.int .i64 x0.fNode),(.int .i64 x0.fNext),(.int .i64 x0.fQ)])]:List Value)++zga).toArray w fun e w'=>e = .returned (.bool r)∧Hp [] w w' []):
  Calls Tryz.prog 65 #[(.slice zrb z3O.length zrc),(.func (.func zbY) #[] (zga).toArray)] w₀ fun e w'=>e = .returned (.int .i64 r)∧Hp [] w₀ w' []:=by
 unfold y17 at h
 refine Calls.yK Tryz.func65 Tryz.ntmps65 ?_
 refine WC.b (WC.a (WL.pu rfl (WL.nil (WX.a ?_))))
 obtain⟨za7,zHP,h⟩:=y1N h
 refine WC.y1j ((za7=some r)) ([]) ([]) ?_ ?_
 ·skip
  refine WC.b (WC.a (WL.pu rfl (WL.qA 7 (yH Tryz.underlying48 rfl) (WL.pu rfl (WL.nil (WX.a (WC.block (WC.y2E (fun(zgb:Nat) (z3t:Int)=>(yW z3O z7n za7 zgb z3t=some r)) (fun zgb z3t=>[(0,(.slice zrb z3O.length zrc)),(1,(.func (.func zbY) #[] (zga).toArray)),(7,(.int .i64 ((z3O.length:Nat):Int))),(8,(.int .i64 z3t))]) (fun zgb z3t=>[]) (fun zgb z3t=>zgb) ⟨yy,0⟩ h (.r4 rfl rfl rfl rfl) .nil ?_))))))))
  rintro zgb z3t h
  obtain⟨zr9,rfl⟩:=y5L h
  rw[yW] at h
  refine WC.b (WC.a (WL.pu rfl (WL.nil (WX.a (WC.b (WC.cond rfl (fun zrd=>?_) (fun zrd=>?_)))))))
  ·replace h:=yp h zrd
   refine WC.skip (WX.a (WC.b (WC.block (WC.b (WC.a (WL.pu rfl (WL.pu rfl (WL.nil (WX.a (WC.b ?_))))))))))
   obtain⟨zHQ,h⟩:=yo h
   obtain⟨zra,zHR,h⟩:=z8 h
   refine WC.a (WL.pu rfl (WL.pu rfl (WL.pu rfl (WL.znth (dd:=14) rfl rfl (Z:=Z) (Pr:=(fun r x=>r=e62 x)) y6e rfl rfl zHM zHQ ?_))))
   rintro zVb zVc zHS zVd rfl
   refine WL.qA 15 (yh y3Q rfl (y2b hz.pv zHS) rfl) (WL.cA 16 (y2y (l:=[.tmp 15]) (f:=zbY) (caps:=zga) zHN rfl (.cons rfl .nil)) .nil (fun w hw=>zHO w (hz.now hw) (⟨((nth z3O z3t).fNode),((nth z3O z3t).fNext),((nth z3O z3t).fQ)⟩:zd) zra  zHR) (WL.nil (WX.a (WC.cond rfl (fun zre=>?_) (fun zre=>?_)))))
   ·replace h:=yp h zre
    refine WC.b (WC.a (WL.pu rfl (WL.pu rfl (WL.nil (WX.a (WC.ret (WX.ys (WX.ye (WX.ye (WX.ys (WX.ye ?_)))))))))))
    obtain rfl:=oJ h
    refine WX.yf Tryz.results65 (.tmp rfl .nil) (fun w hw=>?_)
    exact⟨yD rfl,hw.sub .nil⟩
   ·replace h:=yq h zre
    refine WC.skip (WX.yn (WX.a (WC.a (WL.pu rfl (WL.pu rfl (WL.nil ?_))))))
    exact WX.round ⟨zr9,(i64 (z3t+1))⟩ h (Nat.lt_succ_self _) (.r4 rfl rfl rfl rfl) .nil
  ·replace h:=yq h zrd
   refine WC.exit (WX.yg (WX.yg (WX.yz ?_)))
   exact WX.mid () h .nil .nil
 ·rintro  h
  replace h:=zHP.symm.trans h
  refine WC.b (WC.a (WL.pu rfl (WL.nil (WX.a (WC.ret ?_)))))
  obtain rfl:=oJ h
  refine WX.yf Tryz.results65 (.tmp rfl .nil) (fun w hw=>?_)
  exact⟨yD rfl,hw.sub .nil⟩
def y5c(za8:List zd)(zgc:Int):Option (zd×Bool):=
 (y17 za8 (fun(y0:zd)=>y5W y0 zgc)).bind fun zea=>if decide (zea<0) then some ((⟨0,0,0⟩:zd),false) else chk ((0:Int)≤zea∧zea<((za8.length:Nat):Int)) (some ((⟨((nth za8 zea).fNode),((nth za8 zea).fNext),((nth za8 zea).fQ)⟩:zd),true))
theorem y9n(Z:Zp)(zz1:Option Addr)(zz2:Nat)(za8:List zd)(zgc:Int)(r:zd×Bool)(h:y5c za8 zgc=some r)(w₀:World)(hz:PZ [] w₀ Z)(zz3:ZS Z 3 (fun r x=>r=e62 x) zz1 zz2 za8):
  Calls Tryz.prog 39 #[(.slice zz1 za8.length zz2),(.int .i64 zgc)] w₀ fun e w'=>e = .returned (.tuple #[(.agg #[(.int .i64 r.1.fNode),(.int .i64 r.1.fNext),(.int .i64 r.1.fQ)]),(.bool r.2)])∧Hp [] w₀ w' []:=by
 unfold y5c at h
 refine Calls.yK Tryz.func39 Tryz.ntmps39 ?_
 refine WC.b (WC.a (WL.nA 3 (yI (cs:=[(.int .i64 zgc)]) rfl rfl) ?_))
 intro zHT _
 refine WL.nA 4 (yv (cs:=[(.int .i64 0),(.int .i64 0),(.int .i64 0)]) y6L rfl) ?_
 intro zVe _
 refine WL.pu rfl (WL.nil (WX.a (WC.b ?_)))
 obtain⟨zea,zHU,h⟩:=z8 h
 refine WC.a (WL.pu rfl (WL.qA 8 (y19 (Eos.caps (l:=[.tmp 3]) (.cons rfl .nil))) (WL.cA 9 (zb Tryz.call65 (.r2 rfl rfl)) .nil (ccl hz .nil (.cons .h1 .nil) fun w pz ho la=>y4D _ _ _ (zbY:=66) (zga:=[(.pointer (some ⟨zHT,0,none⟩))]) _ (z7n:=(fun(y0:zd)=>y5W y0 zgc)) _ zHU w pz (zz3.mono (Zle.left _ _)) Tryz.call66 (fun w' hz' y0  r  hr=>ydW _ _ _ _ _ hr w' hz' ((la _ (.head _) _).stb))) (WL.pu rfl (WL.nil (WX.a (WC.b (WC.b (WC.a (WL.pu rfl (WL.pu rfl (WL.nil (WX.a (WC.cond rfl (fun zrf=>?_) (fun zrf=>?_)))))))))))))))
 ·replace h:=yp h zrf
  refine WC.b (WC.a (WL.qA 12 (yL (v:=(.agg #[(.int .i64 0),(.int .i64 0),(.int .i64 0)])) (Eos.parts (l:=[]) .nil []) (fun _=>by kernel_rfl)) (WL.ym rfl rfl (yl y70 rfl rfl rfl .here rfl rfl rfl) (WL.pu rfl (WL.nil (WX.a (WC.ret (WX.ye ?_))))))))
  obtain rfl:=oJ h
  refine WX.yf Tryz.results39 (.agg rfl y3Q rfl (yi .here) (.tmp rfl .nil)) (fun w hw=>?_)
  exact⟨y24 rfl rfl,hw.sub .nil⟩
 ·replace h:=yq h zrf
  refine WC.skip (WX.a (WC.b ?_))
  obtain⟨zHV,h⟩:=yo h
  refine WC.a (WL.pu rfl (WL.pu rfl (WL.znth (dd:=15) rfl rfl (Z:=Z) (Pr:=(fun r x=>r=e62 x)) y6e rfl rfl zz3 zHV ?_)))
  rintro zVf zVg zHW zVh rfl
  refine WL.qA 16 (yh y3Q rfl (y2b hz.pv zHW) rfl) (WL.ym rfl rfl (yl y70 rfl rfl rfl .here rfl rfl rfl) (WL.pu rfl (WL.nil (WX.a (WC.ret ?_)))))
  obtain rfl:=oJ h
  refine WX.yf Tryz.results39 (.agg rfl y3Q rfl (yi .here) (.tmp rfl .nil)) (fun w hw=>?_)
  exact⟨y24 rfl rfl,hw.sub .nil⟩
def y4V(z2L:zd)(zeb:List zd)(z48:za)(zbZ:List (za×Int)):Option Bool:=
 (y5c zeb z2L.fNode).bind fun z20=>(y49 z2L).bind fun z5w=>(if (decide (z5w=z48))&&z20.2 then(y49 z20.1).bind fun zrg=>some (decide ((yd zbZ zrg 0)=0)) else some false).bind fun zrh=>some zrh
theorem ycv(Z:Zp)(zmz:Addr)(zmA:Option Addr)(zmB:Nat)(zmC:Addr)(zmD:Addr)(zgd:Nat)(z2L:zd)(zeb:List zd)(z48:za)(zbZ:List (za×Int))(r:Bool)(h:y4V z2L zeb z48 zbZ=some r)(w₀:World)(hz:PZ (fps [yA zgd (fun x=>Value.agg (e97 x).toArray) (Value.int .i64) zbZ]) w₀ Z)(zHX:ZS Z 3 (fun r x=>r=e62 x) zmA zmB zeb)(zHY:ZC Z zmz [(.slice zmA zeb.length zmB)])(zHZ:ZC Z zmC [(.int .i64 z48.fNode),(.int .i64 z48.fQ)])(zI0:ZC Z zmD [(.map (some zgd))])(hown:Hp (fps [yA zgd (fun x=>Value.agg (e97 x).toArray) (Value.int .i64) zbZ]) w₀ w₀ [yA zgd (fun x=>Value.agg (e97 x).toArray) (Value.int .i64) zbZ]):
  Calls Tryz.prog 38 #[(.agg #[(.int .i64 z2L.fNode),(.int .i64 z2L.fNext),(.int .i64 z2L.fQ)]),(.pointer (some zmz)),(.pointer (some zmC)),(.pointer (some zmD))] w₀ fun e w'=>e = .returned (.bool r)∧Hp (fps [yA zgd (fun x=>Value.agg (e97 x).toArray) (Value.int .i64) zbZ]) w₀ w' [yA zgd (fun x=>Value.agg (e97 x).toArray) (Value.int .i64) zbZ]:=by
 unfold y4V at h
 refine Calls.oh4 Tryz.func38 Tryz.ntmps38 hown ?_
 refine WC.b (WC.a (WL.nA 4 (yI (cs:=[(.int .i64 z2L.fNode),(.int .i64 z2L.fNext),(.int .i64 z2L.fQ)]) rfl rfl) ?_))
 intro zmE _
 refine WL.pu rfl (WL.nil (WX.a (WC.b ?_)))
 obtain⟨z20,zI1,h⟩:=z8 h
 refine WC.a (WL.qA 9 (yc y7E rfl (y5I hz.pv zHY rfl)) (WL.qA 10 (ya y55 rfl rfl) (WL.qA 11 (yc yt rfl (yk .here rfl)) (WL.cA 12 (zb Tryz.call39 (.r2 rfl rfl)) .nil (cc hz .nil fun w pz ho=>y9n _ _ _ _ _ _ zI1 w pz zHX) (WL.pu rfl (WL.pu rfl (WL.pu rfl (WL.nA 6 (yv (cs:=[(.int .i64 0),(.int .i64 0),(.int .i64 0)]) y6L rfl) ?_))))))))
 intro zz4 _
 refine WL.ym rfl rfl (yl y70 rfl rfl rfl .here rfl rfl rfl) (WL.pu rfl (WL.nil (WX.a (WC.b ?_))))
 obtain⟨z5w,zI2,h⟩:=z8 h
 obtain⟨zrh,zz5,h⟩:=z8 h
 refine WC.yP (fun i=>[].contains i) [] rfl (WD.qA 0 15 rfl (yh y3Q rfl (yi .h1) rfl) (WD.eA 1 16 rfl (zb Tryz.call40 (.cons rfl .nil)) (cc hz .nil fun w pz ho=>y5y _ _ _ zI2 w pz ) (WD.qA 2 17 rfl (yh y3R rfl (y2b hz.pv zHZ) rfl) (WD.pA 3 18 rfl (fun _=>y7p (enc:=e97) (a:=z5w) (b:=z48) ydf rfl rfl) (WD.pA 4 19 rfl (fun _=>q_m rfl) (WD.mid (fuel':=8) [(0,(.agg #[(.int .i64 z2L.fNode),(.int .i64 z2L.fNext),(.int .i64 z2L.fQ)])),(1,(.pointer (some zmz))),(2,(.pointer (some zmC))),(3,(.pointer (some zmD))),(4,(.pointer (some ⟨zmE,0,none⟩))),(5,(.bool false)),(9,(.slice zmA zeb.length zmB)),(10,(.pointer (some ⟨zmE,0,none⟩))),(11,(.int .i64 z2L.fNode)),(12,(.tuple #[(.agg #[(.int .i64 z20.1.fNode),(.int .i64 z20.1.fNext),(.int .i64 z20.1.fQ)]),(.bool z20.2)])),(8,(.tuple #[(.agg #[(.int .i64 z20.1.fNode),(.int .i64 z20.1.fNext),(.int .i64 z20.1.fQ)]),(.bool z20.2)])),(13,(.agg #[(.int .i64 z20.1.fNode),(.int .i64 z20.1.fNext),(.int .i64 z20.1.fQ)])),(14,(.bool z20.2)),(6,(.pointer (some ⟨zz4,0,none⟩))),(7,(.bool z20.2)),(15,(.agg #[(.int .i64 z2L.fNode),(.int .i64 z2L.fNext),(.int .i64 z2L.fQ)])),(16,(.agg #[(.int .i64 z5w.fNode),(.int .i64 z5w.fQ)])),(17,(.agg #[(.int .i64 z48.fNode),(.int .i64 z48.fQ)])),(18,(.bool (decide (z5w=z48)))),(19,(.bool (decide (z5w=z48)))),(21,(.bool ((decide (z5w=z48))&&z20.2)))] (y34 15 [6,5,4,3,2,1,0]) ?_ (fun zz6=>?_)))))))
 rotate_left
 ·rcases Bool.eq_false_or_eq_true (decide (z5w=z48)) with hb' | hb'
  ·have zri:=hb';clear hb'
   refine WD.pin (i:=19) rfl zri (WD.pA 5 20 rfl (fun _=>q_m rfl) (WD.pA 6 21 rfl (fun _=>y3M rfl rfl) (WD.reL (.s3 .here .here .here) ?_ zz6)))
   exact(.cons rfl (.cons rfl (.cons rfl (.cons rfl (.cons rfl (.cons rfl (.cons rfl (.cons rfl (.cons rfl (.cons rfl (.cons rfl (.cons rfl (.cons rfl (.cons rfl (.cons rfl (.cons rfl (.cons rfl (.cons rfl (.cons rfl (.cons (zN (Eq.symm zri)) (.cons (zN (y2A zri)) .nil)))))))))))))))))))))
  ·have zrj:=hb';clear hb'
   refine WD.pin (i:=19) rfl zrj (WD.kA 5 20 rfl (WD.pA 6 21 rfl (fun _=>y3N rfl rfl) (WD.reL (.s3 .here .here .here) ?_ zz6)))
   exact(.cons rfl (.cons rfl (.cons rfl (.cons rfl (.cons rfl (.cons rfl (.cons rfl (.cons rfl (.cons rfl (.cons rfl (.cons rfl (.cons rfl (.cons rfl (.cons rfl (.cons rfl (.cons rfl (.cons rfl (.cons rfl (.cons rfl (.cons (zN (Eq.symm zrj)) (.cons (zN (y2z zrj)) .nil)))))))))))))))))))))
 refine WD.pA 7 22 rfl (fun _=>q_m rfl) (WD.mid (fuel':=1) [(0,(.agg #[(.int .i64 z2L.fNode),(.int .i64 z2L.fNext),(.int .i64 z2L.fQ)])),(1,(.pointer (some zmz))),(2,(.pointer (some zmC))),(3,(.pointer (some zmD))),(4,(.pointer (some ⟨zmE,0,none⟩))),(5,(.bool false)),(9,(.slice zmA zeb.length zmB)),(10,(.pointer (some ⟨zmE,0,none⟩))),(11,(.int .i64 z2L.fNode)),(12,(.tuple #[(.agg #[(.int .i64 z20.1.fNode),(.int .i64 z20.1.fNext),(.int .i64 z20.1.fQ)]),(.bool z20.2)])),(8,(.tuple #[(.agg #[(.int .i64 z20.1.fNode),(.int .i64 z20.1.fNext),(.int .i64 z20.1.fQ)]),(.bool z20.2)])),(13,(.agg #[(.int .i64 z20.1.fNode),(.int .i64 z20.1.fNext),(.int .i64 z20.1.fQ)])),(14,(.bool z20.2)),(6,(.pointer (some ⟨zz4,0,none⟩))),(7,(.bool z20.2)),(15,(.agg #[(.int .i64 z2L.fNode),(.int .i64 z2L.fNext),(.int .i64 z2L.fQ)])),(16,(.agg #[(.int .i64 z5w.fNode),(.int .i64 z5w.fQ)])),(17,(.agg #[(.int .i64 z48.fNode),(.int .i64 z48.fQ)])),(18,(.bool (decide (z5w=z48)))),(19,(.bool (decide (z5w=z48)))),(21,(.bool ((decide (z5w=z48))&&z20.2))),(22,(.bool ((decide (z5w=z48))&&z20.2))),(28,(.bool zrh))] (y34 15 [13,12,11,10,9,8,7,6,5,4,3,2,1,0]) ?_ (fun zz7=>?_))
 rotate_left
 ·rcases Bool.eq_false_or_eq_true ((decide (z5w=z48))&&z20.2) with hb' | hb'
  ·have zrk:=hb';clear hb'
   have zjy:=yp zz5 zrk
   obtain⟨zrg,zI3,zjy⟩:=z8 zjy
   replace zjy:=oJ zjy
   refine WD.pin (i:=22) rfl zrk (WD.qA 8 23 rfl (yc yam rfl (y5I hz.pv zI0 rfl)) (WD.qA 9 24 rfl (yh y3Q rfl (yi .here) rfl) (WD.eA 10 25 rfl (zb Tryz.call40 (.cons rfl .nil)) (cc hz .nil fun w pz ho=>y5y _ _ _ zI3 w pz ) (WD.qA 11 26 rfl (y3r (k:=zrg) (dflt:=(0:Int)) y7G Tryz.underlying93 y56 rfl rfl rfl .h2) (WD.pA 12 27 rfl (fun _=>yaI rfl rfl) (WD.pA 13 28 rfl (fun _=>y3M rfl rfl) (WD.reL (.s3 .here .here .here) ?_ zz7)))))))
   exact(.cons rfl (.cons rfl (.cons rfl (.cons rfl (.cons rfl (.cons rfl (.cons rfl (.cons rfl (.cons rfl (.cons rfl (.cons rfl (.cons rfl (.cons rfl (.cons rfl (.cons rfl (.cons rfl (.cons rfl (.cons rfl (.cons rfl (.cons rfl (.cons rfl (.cons (zN (Eq.symm zrk)) (.cons (zN zjy) .nil)))))))))))))))))))))))
  ·have zrl:=hb';clear hb'
   have zrm:=yq zz5 zrl
   replace zrm:=oJ zrm
   refine WD.pin (i:=22) rfl zrl (WD.kA 8 23 rfl (WD.kA 9 24 rfl (WD.kA 10 25 rfl (WD.kA 11 26 rfl (WD.kA 12 27 rfl (WD.pA 13 28 rfl (fun _=>y3N rfl rfl) (WD.reL (.s3 .here .here .here) ?_ zz7)))))))
   exact(.cons rfl (.cons rfl (.cons rfl (.cons rfl (.cons rfl (.cons rfl (.cons rfl (.cons rfl (.cons rfl (.cons rfl (.cons rfl (.cons rfl (.cons rfl (.cons rfl (.cons rfl (.cons rfl (.cons rfl (.cons rfl (.cons rfl (.cons rfl (.cons rfl (.cons (zN (Eq.symm zrl)) (.cons (zN zrm) .nil)))))))))))))))))))))))
 refine WD.pA 14 5 rfl (fun _=>q_z rfl) (WD.done (by kernel_rfl) (WX.a (WC.ret ?_)))
 obtain rfl:=oJ h
 refine WX.yf Tryz.results38 (.tmp rfl .nil) (fun w hw=>?_)
 exact⟨yD rfl,hw.sub (.cons .h2 .nil)⟩
def yV(z4S:List zd)(z8d:List zd)(z8e:za)(z5x:List (za×Int))(za9:Option Int):Nat→Int→Option Int
 | 0,_=>none
 | zrn+1,z4s=>if decide (z4s<((z4S.length:Nat):Int)) then chk ((0:Int)≤z4s∧z4s<((z4S.length:Nat):Int)) ((y4V (⟨((nth z4S z4s).fNode),((nth z4S z4s).fNext),((nth z4S z4s).fQ)⟩:zd) z8d z8e z5x).bind fun zz8=>if zz8 then some z4s else yV z4S z8d z8e z5x za9 zrn (i64 (z4s+1))) else za9
theorem y5A{n:Nat}{z4S:List zd}{z8d:List zd}{z8e:za}{z5x:List (za×Int)}{za9:Option Int}{z4s:Int}{r:Int}(h:yV z4S z8d z8e z5x za9 n z4s=some r):∃ m,n=m+1:=by
 cases n with
 | zero=>cases h
 | succ m=>exact⟨m,rfl⟩
def y2j(z4S:List zd)(z8d:List zd)(z8e:za)(z5x:List (za×Int)):Option Int:=
 jp0 (some (-1)) fun za9=>yV z4S z8d z8e z5x za9 yy 0
theorem y6B(Z:Zp)(zro:Option Addr)(zrp:Nat)(zrq:Addr)(zz9:Option Addr)(zza:Nat)(zrr:Addr)(zrs:Addr)(zc0:Nat)(z4S:List zd)(z8d:List zd)(z8e:za)(z5x:List (za×Int))(r:Int)(h:y2j z4S z8d z8e z5x=some r)(w₀:World)(hz:PZ (fps [yA zc0 (fun x=>Value.agg (e97 x).toArray) (Value.int .i64) z5x]) w₀ Z)(zI4:ZS Z 3 (fun r x=>r=e62 x) zro zrp z4S)(zI5:ZS Z 3 (fun r x=>r=e62 x) zz9 zza z8d)(zI6:ZC Z zrq [(.slice zz9 z8d.length zza)])(zI7:ZC Z zrr [(.int .i64 z8e.fNode),(.int .i64 z8e.fQ)])(zI8:ZC Z zrs [(.map (some zc0))])(hown:Hp (fps [yA zc0 (fun x=>Value.agg (e97 x).toArray) (Value.int .i64) z5x]) w₀ w₀ [yA zc0 (fun x=>Value.agg (e97 x).toArray) (Value.int .i64) z5x]):
  Calls Tryz.prog 65 #[(.slice zro z4S.length zrp),(.func (.func 38) #[] #[(.pointer (some zrq)),(.pointer (some zrr)),(.pointer (some zrs))])] w₀ fun e w'=>e = .returned (.int .i64 r)∧Hp (fps [yA zc0 (fun x=>Value.agg (e97 x).toArray) (Value.int .i64) z5x]) w₀ w' [yA zc0 (fun x=>Value.agg (e97 x).toArray) (Value.int .i64) z5x]:=by
 unfold y2j at h
 refine Calls.oh2 Tryz.func65 Tryz.ntmps65 hown ?_
 refine WC.b (WC.a (WL.pu rfl (WL.nil (WX.a ?_))))
 obtain⟨za9,zI9,h⟩:=y1N h
 refine WC.y1j ((za9=some r)) ([]) ([yA zc0 (fun x=>Value.agg (e97 x).toArray) (Value.int .i64) z5x]) ?_ ?_
 ·skip
  refine WC.b (WC.a (WL.pu rfl (WL.qA 7 (yH Tryz.underlying48 rfl) (WL.pu rfl (WL.nil (WX.a (WC.block (WC.y2E (fun(zge:Nat) (z4s:Int)=>(yV z4S z8d z8e z5x za9 zge z4s=some r)) (fun zge z4s=>[(0,(.slice zro z4S.length zrp)),(1,(.func (.func 38) #[] #[(.pointer (some zrq)),(.pointer (some zrr)),(.pointer (some zrs))])),(7,(.int .i64 ((z4S.length:Nat):Int))),(8,(.int .i64 z4s))]) (fun zge z4s=>[yA zc0 (fun x=>Value.agg (e97 x).toArray) (Value.int .i64) z5x]) (fun zge z4s=>zge) ⟨yy,0⟩ h (.r4 rfl rfl rfl rfl) (.cons .here .nil) ?_))))))))
  rintro zge z4s h
  obtain⟨zrn,rfl⟩:=y5A h
  rw[yV] at h
  refine WC.b (WC.a (WL.pu rfl (WL.nil (WX.a (WC.b (WC.cond rfl (fun zrt=>?_) (fun zrt=>?_)))))))
  ·replace h:=yp h zrt
   refine WC.skip (WX.a (WC.b (WC.block (WC.b (WC.a (WL.pu rfl (WL.pu rfl (WL.nil (WX.a (WC.b ?_))))))))))
   obtain⟨zIa,h⟩:=yo h
   obtain⟨zz8,zIb,h⟩:=z8 h
   refine WC.a (WL.pu rfl (WL.pu rfl (WL.pu rfl (WL.znth (dd:=14) rfl rfl (Z:=Z) (Pr:=(fun r x=>r=e62 x)) y6e rfl rfl zI4 zIa ?_))))
   rintro zVi zVj zIc zVk rfl
   refine WL.qA 15 (yh y3Q rfl (y2b hz.pv zIc) rfl) (WL.cA 16 (y2y (l:=[.tmp 15]) Tryz.call38 rfl (.cons rfl .nil)) (.cons .here .nil) (cc hz (.cons .here .nil) fun w pz ho=>ycv _ _ _ _ _ _ _ _ _ _ _ _ zIb w pz zI5 zI6 zI7 zI8 ho) (WL.nil (WX.a (WC.cond rfl (fun zru=>?_) (fun zru=>?_)))))
   ·replace h:=yp h zru
    refine WC.b (WC.a (WL.pu rfl (WL.pu rfl (WL.nil (WX.a (WC.ret (WX.ys (WX.ye (WX.ye (WX.ys (WX.ye ?_)))))))))))
    obtain rfl:=oJ h
    refine WX.yf Tryz.results65 (.tmp rfl .nil) (fun w hw=>?_)
    exact⟨yD rfl,hw.sub (.cons .here .nil)⟩
   ·replace h:=yq h zru
    refine WC.skip (WX.yn (WX.a (WC.a (WL.pu rfl (WL.pu rfl (WL.nil ?_))))))
    exact WX.round ⟨zrn,(i64 (z4s+1))⟩ h (Nat.lt_succ_self _) (.r4 rfl rfl rfl rfl) (.cons .here .nil)
  ·replace h:=yq h zrt
   refine WC.exit (WX.yg (WX.yg (WX.yz ?_)))
   exact WX.mid () h .nil (.cons .here .nil)
 ·rintro  h
  replace h:=zI9.symm.trans h
  refine WC.b (WC.a (WL.pu rfl (WL.nil (WX.a (WC.ret ?_)))))
  obtain rfl:=oJ h
  refine WX.yf Tryz.results65 (.tmp rfl .nil) (fun w hw=>?_)
  exact⟨yD rfl,hw.sub (.cons .here .nil)⟩
def y26(zjz:List zd)(zjA:List zd)(zjB:za)(zc1:List (za×Int)):Option Bool:=
 (y2j zjz zjA zjB zc1).bind fun zzb=>some (decide (zzb≥0))
theorem y6f(Z:Zp)(zzc:Option Addr)(zzd:Nat)(zze:Addr)(zzf:Option Addr)(zzg:Nat)(zzh:Addr)(zzi:Addr)(zgf:Nat)(zjz:List zd)(zjA:List zd)(zjB:za)(zc1:List (za×Int))(r:Bool)(h:y26 zjz zjA zjB zc1=some r)(w₀:World)(hz:PZ (fps [yA zgf (fun x=>Value.agg (e97 x).toArray) (Value.int .i64) zc1]) w₀ Z)(zId:ZS Z 3 (fun r x=>r=e62 x) zzc zzd zjz)(zIe:ZS Z 3 (fun r x=>r=e62 x) zzf zzg zjA)(zIf:ZC Z zze [(.slice zzf zjA.length zzg)])(zIg:ZC Z zzh [(.int .i64 zjB.fNode),(.int .i64 zjB.fQ)])(zIh:ZC Z zzi [(.map (some zgf))])(hown:Hp (fps [yA zgf (fun x=>Value.agg (e97 x).toArray) (Value.int .i64) zc1]) w₀ w₀ [yA zgf (fun x=>Value.agg (e97 x).toArray) (Value.int .i64) zc1]):
  Calls Tryz.prog 37 #[(.slice zzc zjz.length zzd),(.func (.func 38) #[] #[(.pointer (some zze)),(.pointer (some zzh)),(.pointer (some zzi))])] w₀ fun e w'=>e = .returned (.bool r)∧Hp (fps [yA zgf (fun x=>Value.agg (e97 x).toArray) (Value.int .i64) zc1]) w₀ w' [yA zgf (fun x=>Value.agg (e97 x).toArray) (Value.int .i64) zc1]:=by
 unfold y26 at h
 refine Calls.oh2 Tryz.func37 Tryz.ntmps37 hown ?_
 refine WC.b (WC.a (WL.pu rfl (WL.nil (WX.a (WC.b ?_)))))
 obtain⟨zzb,zIi,h⟩:=z8 h
 refine WC.a (WL.pu rfl (WL.pu rfl (WL.cA 7 (zb Tryz.call65 (.r2 rfl rfl)) (.cons .here .nil) (cc hz (.cons .here .nil) fun w pz ho=>y6B _ _ _ _ _ _ _ _ _ _ _ _ _ _ zIi w pz zId zIe zIf zIg zIh ho) (WL.pu rfl (WL.pu rfl (WL.nil (WX.a (WC.ret ?_))))))))
 obtain rfl:=oJ h
 refine WX.yf Tryz.results37 (.tmp rfl .nil) (fun w hw=>?_)
 exact⟨yD rfl,hw.sub (.cons .here .nil)⟩
def y5B(zec:List zd)(zjC:za)(zc2:List (za×Int)):Option Bool:=
 (y26 zec zec zjC zc2).bind fun zzj=>some zzj
theorem ydj(Z:Zp)(zrv:Option Addr)(zrw:Nat)(zzk:Addr)(zzl:Addr)(zgg:Nat)(zec:List zd)(zjC:za)(zc2:List (za×Int))(r:Bool)(h:y5B zec zjC zc2=some r)(w₀:World)(hz:PZ (fps [yA zgg (fun x=>Value.agg (e97 x).toArray) (Value.int .i64) zc2]) w₀ Z)(zzm:ZS Z 3 (fun r x=>r=e62 x) zrv zrw zec)(zIj:ZC Z zzk [(.int .i64 zjC.fNode),(.int .i64 zjC.fQ)])(zIk:ZC Z zzl [(.map (some zgg))])(hown:Hp (fps [yA zgg (fun x=>Value.agg (e97 x).toArray) (Value.int .i64) zc2]) w₀ w₀ [yA zgg (fun x=>Value.agg (e97 x).toArray) (Value.int .i64) zc2]):
  Calls Tryz.prog 36 #[(.slice zrv zec.length zrw),(.pointer (some zzk)),(.pointer (some zzl))] w₀ fun e w'=>e = .returned (.bool r)∧Hp (fps [yA zgg (fun x=>Value.agg (e97 x).toArray) (Value.int .i64) zc2]) w₀ w' [yA zgg (fun x=>Value.agg (e97 x).toArray) (Value.int .i64) zc2]:=by
 unfold y5B at h
 refine Calls.oh3 Tryz.func36 Tryz.ntmps36 hown ?_
 refine WC.b (WC.a (WL.nA 3 (yI (cs:=[(.slice zrv zec.length zrw)]) rfl rfl) ?_))
 intro zVl _
 refine WL.pu rfl (WL.nil (WX.a (WC.b ?_)))
 obtain⟨zzj,zIl,h⟩:=z8 h
 refine WC.a (WL.qA 5 (yc y7E rfl (yk .here rfl)) (WL.qA 6 (y19 (Eos.caps (l:=[.tmp 3,.tmp 1,.tmp 2]) (.r3 rfl rfl rfl))) (WL.cA 7 (zb Tryz.call37 (.r2 rfl rfl)) (.cons .h1 .nil) (ccl hz (.cons .h1 .nil) (.cons .here .nil) fun w pz ho la=>y6f _ _ _ _ _ _ _ _ _ _ _ _ _ _ zIl w pz (zzm.mono (Zle.left _ _)) (zzm.mono (Zle.left _ _)) ((la _ (.head _) _).stb) (zIj.mono (Zle.left _ _)) (zIk.mono (Zle.left _ _)) ho) (WL.pu rfl (WL.nil (WX.a (WC.ret ?_)))))))
 obtain rfl:=oJ h
 refine WX.yf Tryz.results36 (.tmp rfl .nil) (fun w hw=>?_)
 exact⟨yD rfl,hw.sub (.cons .here .nil)⟩
def yQ(z5S:List (List zd))(z8f:za)(z5y:List (za×Int))(zaa:Option Int):Nat→Int→Option Int
 | 0,_=>none
 | zrx+1,z5z=>if decide (z5z<((z5S.length:Nat):Int)) then chk ((0:Int)≤z5z∧z5z<((z5S.length:Nat):Int)) ((y5B (nth z5S z5z) z8f z5y).bind fun zzn=>if zzn then some z5z else yQ z5S z8f z5y zaa zrx (i64 (z5z+1))) else zaa
theorem y5h{n:Nat}{z5S:List (List zd)}{z8f:za}{z5y:List (za×Int)}{zaa:Option Int}{z5z:Int}{r:Int}(h:yQ z5S z8f z5y zaa n z5z=some r):∃ m,n=m+1:=by
 cases n with
 | zero=>cases h
 | succ m=>exact⟨m,rfl⟩
def y27(z5S:List (List zd))(z8f:za)(z5y:List (za×Int)):Option Int:=
 jp0 (some (-1)) fun zaa=>yQ z5S z8f z5y zaa yy 0
theorem y6g(Z:Zp)(zry:Option Addr)(zrz:Nat)(zrA:Addr)(zrB:Addr)(zc3:Nat)(z5S:List (List zd))(z8f:za)(z5y:List (za×Int))(r:Int)(h:y27 z5S z8f z5y=some r)(w₀:World)(hz:PZ (fps [yA zc3 (fun x=>Value.agg (e97 x).toArray) (Value.int .i64) z5y]) w₀ Z)(zIm:ZS Z 1 (p48 Z) zry zrz z5S)(zIn:ZC Z zrA [(.int .i64 z8f.fNode),(.int .i64 z8f.fQ)])(zIo:ZC Z zrB [(.map (some zc3))])(hown:Hp (fps [yA zc3 (fun x=>Value.agg (e97 x).toArray) (Value.int .i64) z5y]) w₀ w₀ [yA zc3 (fun x=>Value.agg (e97 x).toArray) (Value.int .i64) z5y]):
  Calls Tryz.prog 55 #[(.slice zry z5S.length zrz),(.func (.func 36) #[] #[(.pointer (some zrA)),(.pointer (some zrB))])] w₀ fun e w'=>e = .returned (.int .i64 r)∧Hp (fps [yA zc3 (fun x=>Value.agg (e97 x).toArray) (Value.int .i64) z5y]) w₀ w' [yA zc3 (fun x=>Value.agg (e97 x).toArray) (Value.int .i64) z5y]:=by
 unfold y27 at h
 refine Calls.oh2 Tryz.func55 Tryz.ntmps55 hown ?_
 refine WC.b (WC.a (WL.pu rfl (WL.nil (WX.a ?_))))
 obtain⟨zaa,zIp,h⟩:=y1N h
 refine WC.y1j ((zaa=some r)) ([]) ([yA zc3 (fun x=>Value.agg (e97 x).toArray) (Value.int .i64) z5y]) ?_ ?_
 ·skip
  refine WC.b (WC.a (WL.pu rfl (WL.qA 7 (yH Tryz.underlying32 rfl) (WL.pu rfl (WL.nil (WX.a (WC.block (WC.y2E (fun(zgh:Nat) (z5z:Int)=>(yQ z5S z8f z5y zaa zgh z5z=some r)) (fun zgh z5z=>[(0,(.slice zry z5S.length zrz)),(1,(.func (.func 36) #[] #[(.pointer (some zrA)),(.pointer (some zrB))])),(7,(.int .i64 ((z5S.length:Nat):Int))),(8,(.int .i64 z5z))]) (fun zgh z5z=>[yA zc3 (fun x=>Value.agg (e97 x).toArray) (Value.int .i64) z5y]) (fun zgh z5z=>zgh) ⟨yy,0⟩ h (.r4 rfl rfl rfl rfl) (.cons .here .nil) ?_))))))))
  rintro zgh z5z h
  obtain⟨zrx,rfl⟩:=y5h h
  rw[yQ] at h
  refine WC.b (WC.a (WL.pu rfl (WL.nil (WX.a (WC.b (WC.cond rfl (fun zrC=>?_) (fun zrC=>?_)))))))
  ·replace h:=yp h zrC
   refine WC.skip (WX.a (WC.b (WC.block (WC.b (WC.a (WL.pu rfl (WL.pu rfl (WL.nil (WX.a (WC.b ?_))))))))))
   obtain⟨zIq,h⟩:=yo h
   obtain⟨zzn,zIr,h⟩:=z8 h
   refine WC.a (WL.pu rfl (WL.pu rfl (WL.pu rfl (WL.znth (dd:=14) rfl rfl (Z:=Z) (Pr:=(p48 Z)) y7h rfl rfl zIm zIq ?_))))
   rintro zVm zVn zIs zVo ⟨zVp,zVq,rfl,zIt⟩
   refine WL.qA 15 (yc y7E rfl (y5I hz.pv zIs rfl)) (WL.cA 16 (y2y (l:=[.tmp 15]) Tryz.call36 rfl (.cons rfl .nil)) (.cons .here .nil) (cc hz (.cons .here .nil) fun w pz ho=>ydj _ _ _ _ _ _ _ _ _ _ zIr w pz zIt zIn zIo ho) (WL.nil (WX.a (WC.cond rfl (fun zrD=>?_) (fun zrD=>?_)))))
   ·replace h:=yp h zrD
    refine WC.b (WC.a (WL.pu rfl (WL.pu rfl (WL.nil (WX.a (WC.ret (WX.ys (WX.ye (WX.ye (WX.ys (WX.ye ?_)))))))))))
    obtain rfl:=oJ h
    refine WX.yf Tryz.results55 (.tmp rfl .nil) (fun w hw=>?_)
    exact⟨yD rfl,hw.sub (.cons .here .nil)⟩
   ·replace h:=yq h zrD
    refine WC.skip (WX.yn (WX.a (WC.a (WL.pu rfl (WL.pu rfl (WL.nil ?_))))))
    exact WX.round ⟨zrx,(i64 (z5z+1))⟩ h (Nat.lt_succ_self _) (.r4 rfl rfl rfl rfl) (.cons .here .nil)
  ·replace h:=yq h zrC
   refine WC.exit (WX.yg (WX.yg (WX.yz ?_)))
   exact WX.mid () h .nil (.cons .here .nil)
 ·rintro  h
  replace h:=zIp.symm.trans h
  refine WC.b (WC.a (WL.pu rfl (WL.nil (WX.a (WC.ret ?_)))))
  obtain rfl:=oJ h
  refine WX.yf Tryz.results55 (.tmp rfl .nil) (fun w hw=>?_)
  exact⟨yD rfl,hw.sub (.cons .here .nil)⟩
def y1q(zjD:List (List zd))(zjE:za)(zc4:List (za×Int)):Option Bool:=
 (y27 zjD zjE zc4).bind fun zzo=>some (decide (zzo≥0))
theorem y5X(Z:Zp)(zzp:Option Addr)(zzq:Nat)(zzr:Addr)(zzs:Addr)(zgi:Nat)(zjD:List (List zd))(zjE:za)(zc4:List (za×Int))(r:Bool)(h:y1q zjD zjE zc4=some r)(w₀:World)(hz:PZ (fps [yA zgi (fun x=>Value.agg (e97 x).toArray) (Value.int .i64) zc4]) w₀ Z)(zIu:ZS Z 1 (p48 Z) zzp zzq zjD)(zIv:ZC Z zzr [(.int .i64 zjE.fNode),(.int .i64 zjE.fQ)])(zIw:ZC Z zzs [(.map (some zgi))])(hown:Hp (fps [yA zgi (fun x=>Value.agg (e97 x).toArray) (Value.int .i64) zc4]) w₀ w₀ [yA zgi (fun x=>Value.agg (e97 x).toArray) (Value.int .i64) zc4]):
  Calls Tryz.prog 27 #[(.slice zzp zjD.length zzq),(.func (.func 36) #[] #[(.pointer (some zzr)),(.pointer (some zzs))])] w₀ fun e w'=>e = .returned (.bool r)∧Hp (fps [yA zgi (fun x=>Value.agg (e97 x).toArray) (Value.int .i64) zc4]) w₀ w' [yA zgi (fun x=>Value.agg (e97 x).toArray) (Value.int .i64) zc4]:=by
 unfold y1q at h
 refine Calls.oh2 Tryz.func27 Tryz.ntmps27 hown ?_
 refine WC.b (WC.a (WL.pu rfl (WL.nil (WX.a (WC.b ?_)))))
 obtain⟨zzo,zIx,h⟩:=z8 h
 refine WC.a (WL.pu rfl (WL.pu rfl (WL.cA 7 (zb Tryz.call55 (.r2 rfl rfl)) (.cons .here .nil) (cc hz (.cons .here .nil) fun w pz ho=>y6g _ _ _ _ _ _ _ _ _ _ zIx w pz zIu zIv zIw ho) (WL.pu rfl (WL.pu rfl (WL.nil (WX.a (WC.ret ?_))))))))
 obtain rfl:=oJ h
 refine WX.yf Tryz.results27 (.tmp rfl .nil) (fun w hw=>?_)
 exact⟨yD rfl,hw.sub (.cons .here .nil)⟩
def y7W(l:List za)(i j:Int):Option (List za):=chk (((0:Int)≤i∧i≤j∧j≤l.length)∧l.length*16≤140737488355328) (some (l.take i.toNat++l.drop j.toNat))
theorem ydk(Z:Zp)(ao:Option Addr)(cap:Nat)(l:List za)(i j:Int)(r:List za)(w₀:World)(hz:PZ (fps [row (.slice ao l.length cap) 97 2 (l.flatMap e97)]) w₀ Z)(h:y7W l i j=some r)(hown:Hp (fps [row (.slice ao l.length cap) 97 2 (l.flatMap e97)]) w₀ w₀ [row (.slice ao l.length cap) 97 2 (l.flatMap e97)]):
  Calls Tryz.prog 41 #[.slice ao l.length cap,.int .i64 i,.int .i64 j] w₀ fun e w'=>∃ aor:Option Addr,∃ capr:Nat,e = .returned (.slice aor r.length capr)∧True∧Hp (fps [row (.slice ao l.length cap) 97 2 (l.flatMap e97)]) w₀ w' [row (.slice aor r.length capr) 97 2 (r.flatMap e97)]:=by
 obtain⟨⟨c1,c2⟩,h⟩:=yo h
 obtain rfl:=oJ h
 clear h
 refine Calls.oh3 Tryz.func41 Tryz.ntmps41 hown ?_
 refine WC.b (WC.a (WL.pu rfl (WL.nil (WX.a (WC.b (WC.a (WL.pu rfl (WL.pu rfl (WL.pu rfl (WL.pu rfl (WL.qA 12 (yH Tryz.underlying88 rfl) (WL.know (fun w h=>h.rowShape .here) fun hs=>?_))))))))))))
 obtain⟨hs1,hs2,hs3,_⟩:=hs
 refine WL.qA 13 (q_slice3 y5u rfl rfl rfl rfl (by omega) (by omega) (by omega) (by omega)) (WL.nil (WX.a (WC.b (WC.b (WC.a (WL.pu rfl (WL.pu rfl (WL.pu rfl (WL.nil (WX.a (WC.cond rfl (fun hb=>?_) (fun hb=>?_))))))))))))
 ·have e:i=j:=by simpa using hb
  refine WC.b (WC.a (WL.pu rfl (WL.pu rfl (WL.nil (WX.a (WC.ret (WX.ye (WX.yf Tryz.results41 (.tmp rfl .nil) (fun w hw=>?_)))))))))
  have e2:l.take i.toNat++l.drop j.toNat=l:=by subst e;exact List.take_append_drop _ _
  rw[e2];exact⟨ao,cap,yD rfl,trivial,hw.sub (.cons .here .nil)⟩
 ·have hne:i<j:=by
   have:i≠j:=by simpa using hb
   omega
  clear hb
  refine WC.skip (WX.a (WC.b (WC.a (WL.pu rfl (WL.qA 19 (yH Tryz.underlying88 rfl) (WL.pu rfl (WL.nil (WX.a (WC.b (WC.know (fun w hw=>Hp.y2M .here hw (by omega)) ?_))))))))))
  rintro⟨b,rfl⟩
  have hlen:(l.take i.toNat++l.drop j.toNat).length=i.toNat+(l.length-j.toNat):=by rw[List.length_append,List.length_take,List.length_drop];omega
  refine WC.yP (fun i=>[6].contains i) [] rfl (WD.pA 0 20 rfl (fun _=>q_m rfl) (WD.pA 1 21 rfl (fun _=>q_m rfl) (WD.pA 2 22 rfl (fun _=>y6V (lo:=0) (hi:=i.toNat) (lv:=none) (hv:=some (.int .i64 i)) y5u rfl (fun _ _ _=>rfl) (fun a w h=>by rw[Option.map_some,h.eval rfl]) rfl (by show i=_;omega) (by omega) (by omega) (by simp)) (WD.repin (i:=22) rfl (u:=.slice (some ⟨b,0,none⟩) i.toNat cap) (by split <;> simp[Addr.add]) (WD.pA 3 23 rfl (fun _=>q_m rfl) (WD.pA 4 24 rfl (fun _=>q_m rfl) (WD.pA 5 25 rfl (fun _=>y6V (lo:=j.toNat) (hi:=l.length) (lv:=some (.int .i64 j)) (hv:=none) y5u rfl (fun a w h=>by rw[Option.map_some,h.eval rfl]) (fun _ _ _=>rfl) (by show j=_;omega) rfl (by omega) (by omega) (fun _=>hs2)) (WD.old (i:=6) (dd:=26) rfl (by kernel_rfl) rfl rfl rfl rfl (fun _=>Sin.of .nil) (ygR (i:=i.toNat) (j:=j.toNat) (m:=l.length) (cs:=l.flatMap e97) y5u rfl rfl (fun hk=>if_neg (by omega)) .here (by omega) (by omega) (y5o ybI _) (by omega)) ?_))))))))
  intro tl _
  refine WD.pA 7 0 rfl (fun _=>q_z rfl) (WD.done (by kernel_rfl) (WX.a (WC.b (WC.a (WL.pu rfl (WL.pu rfl (WL.qA 29 (yH Tryz.underlying88 rfl) (WL.pu rfl (WL.qA 31 (y6V (lo:=i.toNat+(l.length-j.toNat)) (hi:=l.length) (lv:=some (.int .i64 ((i.toNat+(l.length-j.toNat):Nat):Int))) (hv:=some (.int .i64 ((l.length:Nat):Int))) y5u rfl (fun a w h=>by rw[Option.map_some,h.eval rfl]) (fun a w h=>by rw[Option.map_some,h.eval rfl]) rfl rfl (by omega) (by omega) (by simp)) (WL.ym rfl rfl (ycA (i:=i.toNat+(l.length-j.toNat)) y5u y9m rfl rfl (by omega) (ygb (enc:=e97) (sz:=2) (z0:=((⟨0,0⟩:za):za)) (fun _=>rfl) (by decide) rfl ybI) .here rfl) (WL.nil (WX.a (WC.b (WC.a (WL.pu rfl (WL.pu rfl (WL.nil (WX.a (WC.ret (WX.yf Tryz.results41 (.tmp rfl .nil) (fun w hw=>?_)))))))))))))))))))))
  rw[hlen]
  refine⟨some ⟨b,0,none⟩,cap,yD rfl,trivial,?_⟩
  have h5:=Hp.rowShort (m:=l.length) (i:=i.toNat+(l.length-j.toNat)) (R:=[]) .here (by omega) hw
  have e1:(l.flatMap e97).take (i.toNat*2)=(l.take i.toNat).flatMap e97:=y9P (enc:=e97) (sz:=2) (fun _=>rfl) l i.toNat (by omega)
  have e2:(l.flatMap e97).drop (j.toNat*2)=(l.drop j.toNat).flatMap e97:=ybr (enc:=e97) (sz:=2) (fun _=>rfl) l j.toNat (by omega)
  have e3:((l.take i.toNat++l.drop j.toNat).flatMap e97).length=(i.toNat+(l.length-j.toNat))*2:=by rw[y6J (sz:=2) (fun _=>rfl),hlen]
  rw[e1,e2,← List.flatMap_append,← e3,List.take_left,List.take_left] at h5
  exact h5.sub (.cons .here .nil)
def y3e(zK:List za)(z3u:List (List zd))(z2Y:List (za×Int))(z2o:List za)(zab:(List za)→(List za)→(List (za×Int))→Option (List za×Int))(zac:Option (List za×Int)):Nat→Int→Option (List za×Int)
 | 0,_=>none
 | zrE+1,zV=>if decide (zV<((zK.length:Nat):Int)) then chk ((0:Int)≤zV∧zV<((zK.length:Nat):Int)) ((y1q z3u (⟨((nth zK zV).fNode),((nth zK zV).fQ)⟩:za) z2Y).bind fun zzt=>if !zzt then chk ((((z2o++([(⟨((nth zK zV).fNode),((nth zK zV).fQ)⟩:za)]:List za)).length:Nat):Int)*16≤140737488355328∧(((z2o++([(⟨((nth zK zV).fNode),((nth zK zV).fQ)⟩:za)]:List za)).length:Nat):Int)≤4611686018427387904) ((y7W zK zV (i64 (zV+1))).bind fun zmF=>zab zmF (z2o++([(⟨((nth zK zV).fNode),((nth zK zV).fQ)⟩:za)]:List za)) (yE z2Y (⟨((nth zK zV).fNode),((nth zK zV).fQ)⟩:za) (i64 ((yd z2Y (⟨((nth zK zV).fNode),((nth zK zV).fQ)⟩:za) 0)+1)))) else y3e zK z3u z2Y z2o zab zac zrE (i64 (zV+1))) else zac
theorem yas{n:Nat}{zK:List za}{z3u:List (List zd)}{z2Y:List (za×Int)}{z2o:List za}{zab:(List za)→(List za)→(List (za×Int))→Option (List za×Int)}{zac:Option (List za×Int)}{zV:Int}{r:List za×Int}(h:y3e zK z3u z2Y z2o zab zac n zV=some r):∃ m,n=m+1:=by
 cases n with
 | zero=>cases h
 | succ m=>exact⟨m,rfl⟩
def y3f(z3u:List (List zd))(zad:(List za)→Option (List za×Int)):Nat→(List za)→(List za)→(List (za×Int))→Option (List za×Int)
 | 0,_,_,_=>none
 | zrF+1,zK,z2o,z2Y=>if decide (((zK.length:Nat):Int)>0) then jp3 (fun(z8g:List za) (z8h:List za) (zae:List (za×Int))=>y3f z3u zad zrF z8g z8h zae) fun zab=>jp0 (some (([]:List za),351)) fun zac=>y3e zK z3u z2Y z2o zab zac yy 0 else zad z2o
theorem yat{n:Nat}{z3u:List (List zd)}{zad:(List za)→Option (List za×Int)}{zK:List za}{z2o:List za}{z2Y:List (za×Int)}{r:List za×Int}(h:y3f z3u zad n zK z2o z2Y=some r):∃ m,n=m+1:=by
 cases n with
 | zero=>cases h
 | succ m=>exact⟨m,rfl⟩
def y4Q(z3u:List (List zd)):Option (List za×Int):=
 (y5V z3u).bind fun zrG=>jp1 (fun(z8J:List za)=>some (z8J,0)) fun zad=>y3f z3u zad yy zrG ([]:List za) ([]:List (za×Int))
theorem ybi(Z:Zp)(zjF:Option Addr)(zjG:Nat)(z3u:List (List zd))(r:List za×Int)(h:y4Q z3u=some r)(w₀:World)(hz:PZ [] w₀ Z)(zzu:ZS Z 1 (p48 Z) zjF zjG z3u):
  Calls Tryz.prog 21 #[(.slice zjF z3u.length zjG)] w₀ fun e w'=>∃ zzv:Option Addr,∃ zzw:Nat,e = .returned (.tuple #[(.slice zzv r.1.length zzw),(.int .i64 r.2)])∧True∧Hp [] w₀ w' [row (.slice zzv r.1.length zzw) 97 2 (r.1.flatMap e97)]:=by
 unfold y4Q at h
 refine Calls.on1 Tryz.func21 Tryz.ntmps21 ?_
 refine WC.b (WC.a (WL.pu rfl (WL.pu rfl (WL.nil (WX.a (WC.scope (WC.b ?_)))))))
 obtain⟨zrG,zIy,h⟩:=z8 h
 refine WC.a (WL.pu rfl (WL.y4l (dd:=11) rfl rfl rfl (zb Tryz.call35 (.cons rfl .nil)) .nil (cc hz .nil fun w pz ho=>ydV _ _ _ _ _ zIy w pz zzu) ?_))
 rintro zIz zIA _
 refine WL.pu rfl (WL.nil (WX.a (WC.b (WC.a (WL.nA 12 (y4B (fun x=>Value.agg (e97 x).toArray) (Value.int .i64)) ?_)))))
 intro zed _
 refine WL.nA 5 (yv (cs:=[(.map none)]) zeroT_93 rfl) ?_
 intro zgj _
 refine WL.ym rfl rfl (yl sizT_93 rfl rfl rfl .here rfl rfl rfl) (WL.nil (WX.a (WC.b (WC.a (WL.pu rfl (WL.nil (WX.a (WC.b (WC.label (WX.a ?_))))))))))
 obtain⟨zad,zIB,h⟩:=y15 h
 refine WC.y2R (fun(z8J:List za) (zgk:Option Addr) (zgl:Nat)=>(zad z8J=some r)) (fun z8J zgk zgl=>[(6,(.slice zgk z8J.length zgl))]) (fun z8J zgk zgl=>[row (.slice zgk z8J.length zgl) 97 2 (z8J.flatMap e97)]) ?_ ?_
 ·skip
  refine WC.block (WC.nilRow 97 2 (WC.yaL (fun(zgm:Nat) (zK:List za) (z2o:List za) (z2Y:List (za×Int)) (zaf:Option Addr) (z8K:Nat) (zag:Option Addr) (zah:Nat)=>(y3f z3u zad zgm zK z2o z2Y=some r)) (fun zgm zK z2o z2Y zaf z8K zag zah=>[(0,(.slice zjF z3u.length zjG)),(4,(.slice zaf zK.length z8K)),(5,(.pointer (some ⟨zgj,0,none⟩))),(6,(.slice zag z2o.length zah))]) (fun zgm zK z2o z2Y zaf z8K zag zah=>[row (.slice zaf zK.length z8K) 97 2 (zK.flatMap e97),row (.slice zag z2o.length zah) 97 2 (z2o.flatMap e97),stb zgj 93 [(.map (some zed))],yA zed (fun x=>Value.agg (e97 x).toArray) (Value.int .i64) z2Y]) (fun zgm zK z2o z2Y zaf z8K zag zah=>zgm) ⟨yy,zrG,([]:List za),([]:List (za×Int)),zIz,zIA,none,0⟩ h (.r4 rfl rfl rfl rfl) (.s4 .h3 .here .here .here) ?_))
  rintro zgm zK z2o z2Y zaf z8K zag zah h
  obtain⟨zrF,rfl⟩:=yat h
  rw[y3f] at h
  refine WC.b (WC.b (WC.a (WL.pu rfl (WL.qA 14 (yH Tryz.underlying88 rfl) (WL.pu rfl (WL.nil (WX.a (WC.cond rfl (fun zrH=>?_) (fun zrH=>?_)))))))))
  ·replace h:=yp h zrH
   refine WC.skip (WX.a ?_)
   obtain⟨zab,zIC,h⟩:=yaO h
   refine WC.mid7 (fun(z8g:List za) (z8h:List za) (zae:List (za×Int)) (zgn:Option Addr) (zgo:Nat) (zgp:Option Addr) (zgq:Nat)=>(zab z8g z8h zae=some r)) (fun z8g z8h zae zgn zgo zgp zgq=>[(0,(.slice zjF z3u.length zjG)),(4,(.slice zgn z8g.length zgo)),(5,(.pointer (some ⟨zgj,0,none⟩))),(6,(.slice zgp z8h.length zgq))]) (fun z8g z8h zae zgn zgo zgp zgq=>[row (.slice zgn z8g.length zgo) 97 2 (z8g.flatMap e97),row (.slice zgp z8h.length zgq) 97 2 (z8h.flatMap e97),stb zgj 93 [(.map (some zed))],yA zed (fun x=>Value.agg (e97 x).toArray) (Value.int .i64) zae]) ?_ ?_
   ·skip
    refine WC.block ?_
    obtain⟨zac,zID,h⟩:=y1N h
    refine WC.y1j ((zac=some r)) ([]) ([]) ?_ ?_
    ·skip
     refine WC.b (WC.a (WL.pu rfl (WL.qA 17 (yH Tryz.underlying88 rfl) (WL.pu rfl (WL.nil (WX.a (WC.block (WC.y2E (fun(zgr:Nat) (zV:Int)=>(y3e zK z3u z2Y z2o zab zac zgr zV=some r)) (fun zgr zV=>[(0,(.slice zjF z3u.length zjG)),(4,(.slice zaf zK.length z8K)),(5,(.pointer (some ⟨zgj,0,none⟩))),(6,(.slice zag z2o.length zah)),(16,(.slice zaf zK.length z8K)),(17,(.int .i64 ((zK.length:Nat):Int))),(18,(.int .i64 zV))]) (fun zgr zV=>[row (.slice zaf zK.length z8K) 97 2 (zK.flatMap e97),row (.slice zag z2o.length zah) 97 2 (z2o.flatMap e97),stb zgj 93 [(.map (some zed))],yA zed (fun x=>Value.agg (e97 x).toArray) (Value.int .i64) z2Y]) (fun zgr zV=>zgr) ⟨yy,0⟩ h (.r7 rfl rfl rfl rfl rfl rfl rfl) (.s4 .here .here .here .here) ?_))))))))
     rintro zgr zV h
     obtain⟨zrE,rfl⟩:=yas h
     rw[y3e] at h
     refine WC.b (WC.a (WL.pu rfl (WL.nil (WX.a (WC.b (WC.cond rfl (fun zrI=>?_) (fun zrI=>?_)))))))
     ·replace h:=yp h zrI
      refine WC.skip (WX.a (WC.b (WC.block (WC.b ?_))))
      obtain⟨zjH,h⟩:=yo h
      refine WC.a (WL.pu rfl (WL.know (fun w hw=>Hp.y2M .here hw (by intro hz';have:=zjH;rw[hz'] at this;omega)) ?_))
      rintro⟨zIE,rfl⟩
      refine WL.qA 21 (yX y5u rfl rfl zjH.1 zjH.2 y32) (WL.qA 22 (yT (cs:=(e97 (nth zK zV))) y3R rfl rfl (y3P .here (y3D (enc:=e97) (l:=zK) (i:=zV) (sz:=2) (fun _=>rfl) zjH.1 zjH.2))) (WL.nA 8 (yv (cs:=[(.int .i64 0),(.int .i64 0)]) y9m rfl) ?_))
      intro zVr _
      refine WL.pu rfl (WL.ym rfl rfl (yl ycb rfl rfl rfl .here rfl rfl rfl) (WL.nil (WX.a (WC.b ?_))))
      obtain⟨zzt,zIF,h⟩:=z8 h
      refine WC.a (WL.pu rfl (WL.qA 24 (y19 (Eos.caps (l:=[.tmp 8,.tmp 5]) (.r2 rfl rfl))) (WL.cA 25 (zb Tryz.call27 (.r2 rfl rfl)) (.cons .h4 .nil) (ccl hz (.cons .h4 .nil) (.s2 .here .h2) fun w pz ho la=>y5X _ _ _ _ _ _ _ _ _ _ zIF w pz ((zzu.mono (Zle.left _ _)).weak (fun _ _ h=>y1Q (Zle.left _ _) h)) ((la _ (.head _) _).stb) ((la _ (.tail _ (.head _)) _).stb) ho) (WL.pu rfl (WL.pu rfl (WL.nil (WX.a (WC.b (WC.a (WL.pu rfl (WL.nil (WX.a (WC.cond rfl (fun zrJ=>?_) (fun zrJ=>?_))))))))))))))
      ·replace h:=yp h zrJ
       refine WC.b (WC.yP (fun i=>[4,6].contains i) [ydb zed (fun x=>Value.agg (e97 x).toArray) (Value.int .i64) (⟨((nth zK zV).fNode),((nth zK zV).fQ)⟩:za) (0:Int) (yd z2Y (⟨((nth zK zV).fNode),((nth zK zV).fQ)⟩:za) 0)] rfl (WD.qA 0 28 rfl (yc yam rfl (yk .h4 rfl)) (WD.qA 1 29 rfl (yh y3R rfl (yi .h1) rfl) (WD.sA 2 30 rfl (Sin.wk (.cons .here .nil) (.any rfl (fun _ h=>y6K h) .nil)) (yer (k:=(⟨((nth zK zV).fNode),((nth zK zV).fQ)⟩:za)) (dflt:=(0:Int)) y7G Tryz.underlying93 y56 rfl rfl rfl .here) (WD.pA 3 31 rfl (fun _=>yd5 rfl rfl rfl) (WD.oldQ (i:=4) (dd:=32) rfl (by kernel_rfl) rfl rfl rfl rfl (ygN (k:=(⟨((nth zK zV).fNode),((nth zK zV).fQ)⟩:za)) (dflt:=(0:Int)) y7G Tryz.underlying93 y56 rfl rfl rfl .here) (fun _=>(Sin.wk (.cons .here .nil) (.any rfl (fun _ h=>yhq h) .nil))) ?_))))))
       rintro zVs _
       refine WD.pA 5 33 rfl (fun _=>y7A rfl rfl) (WD.y37 (i:=6) rfl (by kernel_rfl) rfl rfl rfl (by kernel_rfl) (yeP (k:=(⟨((nth zK zV).fNode),((nth zK zV).fQ)⟩:za)) (v:=i64 ((yd z2Y (⟨((nth zK zV).fNode),((nth zK zV).fQ)⟩:za) 0)+1)) rfl rfl rfl rfl .here) (WD.done (by kernel_rfl) (WX.a (WC.b ?_))))
       obtain⟨zIG,h⟩:=yo h
       refine WC.a (WL.pu rfl (WL.qA 35 (yh y3R rfl (yi .h1) rfl) (WL.nA 36 (yR (cs:=([(⟨((nth zK zV).fNode),((nth zK zV).fQ)⟩:za)]:List za).flatMap e97) y5u (Eos.parts (l:=[.tmp 35]) (.cons rfl .nil) [0]) (fun _=>by kernel_rfl) rfl (by unfold maxLen;omega)) ?_)))
       intro zVt _
       refine WL.fA 37 (y54 (enc:=e97) (l1:=z2o) (l2:=([(⟨((nth zK zV).fNode),((nth zK zV).fQ)⟩:za)]:List za)) y5u rfl rfl .h4 (fun _=>rfl) rfl rfl (y4r .here) (y5o ybI _) zIG) ?_
       rintro⟨zIH,zII⟩ _
       refine WL.pu rfl (WL.nil (WX.a (WC.b ?_)))
       obtain⟨zmF,zIJ,h⟩:=z8 h
       refine WC.a (WL.pu rfl (WL.pu rfl (WL.pu rfl (WL.pu rfl (WL.y4l (dd:=42) rfl rfl rfl (zb Tryz.call41 (.r3 rfl rfl rfl)) (.cons .h4 .nil) (cc hz (.cons .h4 .nil) fun w pz ho=>ydk (Z:=_) (ao:=(some ⟨zIE,0,none⟩)) (cap:=z8K) (l:=zK) (i:=zV) (j:=(i64 (zV+1))) (r:=zmF) w pz  zIJ ho) ?_)))))
       rintro zIK zIL _
       refine WL.pu rfl (WL.nil (WX.a (WC.exit (WX.ybn rfl (WX.yg (WX.yg (WX.ybn rfl (WX.yg (WX.yz ?_)))))))))
       exact WX.mid ⟨zmF,(z2o++([(⟨((nth zK zV).fNode),((nth zK zV).fQ)⟩:za)]:List za)),(yE z2Y (⟨((nth zK zV).fNode),((nth zK zV).fQ)⟩:za) (i64 ((yd z2Y (⟨((nth zK zV).fNode),((nth zK zV).fQ)⟩:za) 0)+1))),zIK,zIL,zIH,zII⟩ h (.r4 rfl rfl rfl rfl) (.s4 .here .here .h3 .h1)
      ·replace h:=yq h zrJ
       refine WC.skip (WX.yn (WX.a (WC.a (WL.pu rfl (WL.pu rfl (WL.nil ?_))))))
       exact WX.round ⟨zrE,(i64 (zV+1))⟩ h (Nat.lt_succ_self _) (.r7 rfl rfl rfl rfl rfl rfl rfl) (.s4 .h2 .h2 .h2 .here)
     ·replace h:=yq h zrI
      refine WC.exit (WX.yg (WX.yg (WX.yz ?_)))
      exact WX.mid () h .nil .nil
    ·rintro  h
     replace h:=zID.symm.trans h
     refine WC.b (WC.a (WL.pu rfl (WL.pu rfl (WL.nil (WX.a (WC.ret (WX.ys (WX.ye (WX.ye (WX.ys (WX.ye (WX.ycF (WX.nilRow 97 2 ?_)))))))))))))
     obtain rfl:=oJ h
     refine WX.yf Tryz.results21 (.tmp rfl (.tmp rfl .nil)) (fun w hw=>?_)
     exact⟨none,0,y24 rfl rfl,trivial,hw.sub (.cons .here .nil)⟩
   ·rintro z8g z8h zae zgn zgo zgp zgq h
    replace h:=(zIC z8g z8h zae).symm.trans h
    exact WX.round ⟨zrF,z8g,z8h,zae,zgn,zgo,zgp,zgq⟩ h (Nat.lt_succ_self _) (.r4 rfl rfl rfl rfl) (.s4 .here .here .here .here)
  ·replace h:=yq h zrH
   refine WC.exit (WX.yg (WX.yg (WX.yz ?_)))
   exact WX.mid ⟨z2o,zag,zah⟩ h (.cons rfl .nil) (.cons .h1 .nil)
 ·rintro z8J zgk zgl h
  replace h:=(zIB z8J).symm.trans h
  refine WC.b (WC.a (WL.pu rfl (WL.pu rfl (WL.pu rfl (WL.nil (WX.a (WC.ret (WX.ycF ?_))))))))
  obtain rfl:=oJ h
  refine WX.yf Tryz.results21 (.tmp rfl (.tmp rfl .nil)) (fun w hw=>?_)
  exact⟨zgk,zgl,y24 rfl rfl,trivial,hw.sub (.cons .here .nil)⟩
def y3U(zai:zd)(zgs:za):Option Bool:=
 (y49 zai).bind fun zrK=>some (decide (zrK=zgs))
theorem yau(Z:Zp)(zzx:Addr)(zai:zd)(zgs:za)(r:Bool)(h:y3U zai zgs=some r)(w₀:World)(hz:PZ [] w₀ Z)(zIM:ZC Z zzx [(.int .i64 zgs.fNode),(.int .i64 zgs.fQ)]):
  Calls Tryz.prog 67 #[(.agg #[(.int .i64 zai.fNode),(.int .i64 zai.fNext),(.int .i64 zai.fQ)]),(.pointer (some zzx))] w₀ fun e w'=>e = .returned (.bool r)∧Hp [] w₀ w' []:=by
 unfold y3U at h
 refine Calls.yK Tryz.func67 Tryz.ntmps67 ?_
 refine WC.b (WC.a (WL.nA 2 (yI (cs:=[(.int .i64 zai.fNode),(.int .i64 zai.fNext),(.int .i64 zai.fQ)]) rfl rfl) ?_))
 intro zVu _
 refine WL.pu rfl (WL.nil (WX.a (WC.b ?_)))
 obtain⟨zrK,zIN,h⟩:=z8 h
 refine WC.yP (fun i=>[].contains i) [] rfl (WD.qA 0 4 rfl (yh y3Q rfl (yi .here) rfl) (WD.eA 1 5 rfl (zb Tryz.call40 (.cons rfl .nil)) (cc hz .nil fun w pz ho=>y5y _ _ _ zIN w pz ) (WD.qA 2 6 rfl (yh y3R rfl (y2b hz.pv zIM) rfl) (WD.pA 3 7 rfl (fun _=>y7p (enc:=e97) (a:=zrK) (b:=zgs) ydf rfl rfl) (WD.pA 4 3 rfl (fun _=>q_z rfl) (WD.done (by kernel_rfl) (WX.a (WC.ret ?_))))))))
 obtain rfl:=oJ h
 refine WX.yf Tryz.results67 (.tmp rfl .nil) (fun w hw=>?_)
 exact⟨yD rfl,hw.sub .nil⟩
def y1a(zjI:List zd)(zgt:zd→Option Bool):Option Bool:=
 (y17 zjI zgt).bind fun zzy=>some (decide (zzy≥0))
theorem y68(Z:Zp)(zzz:Option Addr)(zzA:Nat)(zgu:FuncId)(zmG:List Value)(zjI:List zd)(zgt:zd→Option Bool)(r:Bool)(h:y1a zjI zgt=some r)(w₀:World)(hz:PZ [] w₀ Z)(zIO:ZS Z 3 (fun r x=>r=e62 x) zzz zzA zjI)(zIP:∀ args w,(callFunc zgu args).run Tryz.prog w = .ok (.enter zgu args) w)(zIQ:∀ w:World,PZ [] w Z→∀(x0:zd) (r:Bool),zgt x0=some r→Calls Tryz.prog zgu (([(.agg #[(.int .i64 x0.fNode),(.int .i64 x0.fNext),(.int .i64 x0.fQ)])]:List Value)++zmG).toArray w fun e w'=>e = .returned (.bool r)∧Hp [] w w' []):
  Calls Tryz.prog 37 #[(.slice zzz zjI.length zzA),(.func (.func zgu) #[] (zmG).toArray)] w₀ fun e w'=>e = .returned (.bool r)∧Hp [] w₀ w' []:=by
 unfold y1a at h
 refine Calls.yK Tryz.func37 Tryz.ntmps37 ?_
 refine WC.b (WC.a (WL.pu rfl (WL.nil (WX.a (WC.b ?_)))))
 obtain⟨zzy,zIR,h⟩:=z8 h
 refine WC.a (WL.pu rfl (WL.pu rfl (WL.cA 7 (zb Tryz.call65 (.r2 rfl rfl)) .nil (cc hz .nil fun w pz ho=>y4D _ _ _ (zbY:=zgu) (zga:=zmG) _ (z7n:=zgt) _ zIR w pz zIO zIP zIQ) (WL.pu rfl (WL.pu rfl (WL.nil (WX.a (WC.ret ?_))))))))
 obtain rfl:=oJ h
 refine WX.yf Tryz.results37 (.tmp rfl .nil) (fun w hw=>?_)
 exact⟨yD rfl,hw.sub .nil⟩
def y2n(zjJ:Int):Option z2:=
 some (⟨zjJ,1⟩:z2)
theorem y4R(Z:Zp)(zjJ:Int)(r:z2)(h:y2n zjJ=some r)(w₀:World)(hz:PZ [] w₀ Z):
  Calls Tryz.prog 43 #[(.int .i64 zjJ)] w₀ fun e w'=>e = .returned (.agg #[(.int .i64 r.fN),(.int .i64 r.fD)])∧Hp [] w₀ w' []:=by
 unfold y2n at h
 refine Calls.on1 Tryz.func43 Tryz.ntmps43 ?_
 refine WC.b (WC.a (WL.nA 2 (yv (cs:=[(.int .i64 0),(.int .i64 0)]) zT rfl) ?_))
 intro zVv _
 refine WL.nil (WX.a (WC.b (WC.a (WL.pu rfl (WL.qA 4 (yL (v:=(.agg #[(.int .i64 zjJ),(.int .i64 1)])) (Eos.parts (l:=[.tmp 3,.const (.int .i64 1)]) (.r2 rfl rfl) [0,1]) (fun _=>by kernel_rfl)) (WL.ym rfl rfl (yl zz rfl rfl rfl .here rfl rfl rfl) (WL.nil (WX.a (WC.ret ?_)))))))))
 obtain rfl:=oJ h
 refine WX.yf Tryz.results43 (.agg rfl zf rfl (yi .here) .nil) (fun w hw=>?_)
 exact⟨yD rfl,hw.sub .nil⟩
def y5C(zgv:Int):Option Int:=
 if decide (zgv<0) then some (u64 ((u64 (i64 (0-(i64 (zgv+1)))))+1)) else some (u64 zgv)
theorem y8Z(Z:Zp)(zgv:Int)(r:Int)(h:y5C zgv=some r)(w₀:World)(hz:PZ [] w₀ Z):
  Calls Tryz.prog 112 #[(.int .i64 zgv)] w₀ fun e w'=>e = .returned (.int .u64 r)∧Hp [] w₀ w' []:=by
 unfold y5C at h
 refine Calls.on1 Tryz.func112 Tryz.ntmps112 ?_
 refine WC.b (WC.a (WL.pu rfl (WL.nil (WX.a (WC.b (WC.b (WC.a (WL.pu rfl (WL.pu rfl (WL.nil (WX.a (WC.cond rfl (fun zrL=>?_) (fun zrL=>?_)))))))))))))
 ·replace h:=yp h zrL
  refine WC.b (WC.a (WL.pu rfl (WL.pu rfl (WL.qA 7 (q_neg rfl rfl) (WL.qA 8 (y6G Tryz.underlying3 Tryz.underlying193 rfl rfl) (WL.pu rfl (WL.pu rfl (WL.nil (WX.a (WC.ret (WX.ye ?_)))))))))))
  obtain rfl:=oJ h
  refine WX.yf Tryz.results112 (.tmp rfl .nil) (fun w hw=>?_)
  exact⟨yD rfl,hw.sub .nil⟩
 ·replace h:=yq h zrL
  refine WC.skip (WX.a (WC.b (WC.a (WL.pu rfl (WL.qA 11 (y6G Tryz.underlying3 Tryz.underlying193 rfl rfl) (WL.pu rfl (WL.nil (WX.a (WC.ret ?_)))))))))
  obtain rfl:=oJ h
  refine WX.yf Tryz.results112 (.tmp rfl .nil) (fun w hw=>?_)
  exact⟨yD rfl,hw.sub .nil⟩
def y2d(zaj:Int→Option Int):Nat→Int→Int→Option Int
 | 0,_,_=>none
 | zrM+1,z6I,z5T=>if decide (z5T≠0) then chk ((z5T:Int)≠0) (y2d zaj zrM z5T (Int.tmod z6I z5T)) else zaj z6I
theorem y9o{n:Nat}{zaj:Int→Option Int}{z6I:Int}{z5T:Int}{r:Int}(h:y2d zaj n z6I z5T=some r):∃ m,n=m+1:=by
 cases n with
 | zero=>cases h
 | succ m=>exact⟨m,rfl⟩
def y4u(zjK:Int)(zjL:Int):Option Int:=
 jp1 (fun(zc5:Int)=>some zc5) fun zaj=>y2d zaj yy zjK zjL
theorem y9p(Z:Zp)(zjK:Int)(zjL:Int)(r:Int)(h:y4u zjK zjL=some r)(w₀:World)(hz:PZ [] w₀ Z):
  Calls Tryz.prog 111 #[(.int .u64 zjK),(.int .u64 zjL)] w₀ fun e w'=>e = .returned (.int .u64 r)∧Hp [] w₀ w' []:=by
 unfold y4u at h
 refine Calls.yK Tryz.func111 Tryz.ntmps111 ?_
 refine WC.b (WC.a (WL.pu rfl (WL.nil (WX.a ?_))))
 obtain⟨zaj,zIS,h⟩:=y15 h
 refine WC.y3k (fun(zc5:Int)=>(zaj zc5=some r)) (fun zc5=>[(0,(.int .u64 zc5))]) (fun zc5=>[]) ?_ ?_
 ·skip
  refine WC.block (WC.y8a (fun(zgw:Nat) (z6I:Int) (z5T:Int)=>(y2d zaj zgw z6I z5T=some r)) (fun zgw z6I z5T=>[(0,(.int .u64 z6I)),(1,(.int .u64 z5T))]) (fun zgw z6I z5T=>[]) (fun zgw z6I z5T=>zgw) ⟨yy,zjK,zjL⟩ h (.r2 rfl rfl) .nil ?_)
  rintro zgw z6I z5T h
  obtain⟨zrM,rfl⟩:=y9o h
  rw[y2d] at h
  refine WC.b (WC.b (WC.a (WL.pu rfl (WL.pu rfl (WL.nil (WX.a (WC.cond rfl (fun zrN=>?_) (fun zrN=>?_))))))))
  ·replace h:=yp h zrN
   refine WC.skip (WX.a (WC.block ?_))
   obtain⟨zIT,h⟩:=yo h
   refine WC.yP (fun i=>[].contains i) [] rfl (WD.pA 0 7 rfl (fun _=>q_m rfl) (WD.pA 1 8 rfl (fun _=>q_m rfl) (WD.pA 2 9 rfl (fun _=>q_m rfl) (WD.pA 3 10 rfl (fun _=>q_rem rfl rfl zIT rfl) (WD.pA 4 0 rfl (fun _=>q_z rfl) (WD.pA 5 1 rfl (fun _=>q_z rfl) (WD.done (by kernel_rfl) (WX.yn ?_))))))))
   exact WX.round ⟨zrM,z5T,(Int.tmod z6I z5T)⟩ h (Nat.lt_succ_self _) (.r2 rfl rfl) .nil
  ·replace h:=yq h zrN
   refine WC.exit (WX.yg (WX.yg (WX.yz ?_)))
   exact WX.mid z6I h (.cons rfl .nil) .nil
 ·rintro zc5 h
  replace h:=(zIS zc5).symm.trans h
  refine WC.b (WC.a (WL.pu rfl (WL.pu rfl (WL.nil (WX.a (WC.ret ?_))))))
  obtain rfl:=oJ h
  refine WX.yf Tryz.results111 (.tmp rfl .nil) (fun w hw=>?_)
  exact⟨yD rfl,hw.sub .nil⟩
def y51(zjM:Int)(zgx:Int):Option (z2×Int):=
 if decide (zgx=0) then some ((⟨0,0⟩:z2),2) else(y5C zjM).bind fun z8L=>(y5C zgx).bind fun zc6=>(y4u z8L zc6).bind fun z5A=>chk ((z5A:Int)≠0) (if (decide ((u64 (Int.tdiv z8L z5A))>1073741824))||(decide ((u64 (Int.tdiv zc6 z5A))>1073741824)) then some ((⟨0,0⟩:z2),3) else jp1 (fun(zc7:Int)=>some ((⟨zc7,i64 (u64 (Int.tdiv zc6 z5A))⟩:z2),0)) fun zmH=>if (decide (zjM<0)) != (decide (zgx<0)) then zmH (i64 (0-(i64 (u64 (Int.tdiv z8L z5A))))) else zmH (i64 (u64 (Int.tdiv z8L z5A))))
theorem y7X(Z:Zp)(zjM:Int)(zgx:Int)(r:z2×Int)(h:y51 zjM zgx=some r)(w₀:World)(hz:PZ [] w₀ Z):
  Calls Tryz.prog 106 #[(.int .i64 zjM),(.int .i64 zgx)] w₀ fun e w'=>e = .returned (.tuple #[(.agg #[(.int .i64 r.1.fN),(.int .i64 r.1.fD)]),(.int .i64 r.2)])∧Hp [] w₀ w' []:=by
 unfold y51 at h
 refine Calls.yK Tryz.func106 Tryz.ntmps106 ?_
 refine WC.b (WC.a (WL.nA 4 (yv (cs:=[(.int .i64 0),(.int .i64 0)]) zT rfl) ?_))
 intro zzB _
 refine WL.pu rfl (WL.nil (WX.a (WC.b (WC.b (WC.a (WL.pu rfl (WL.pu rfl (WL.nil (WX.a (WC.cond rfl (fun zrO=>?_) (fun zrO=>?_)))))))))))
 ·replace h:=yp h zrO
  refine WC.b (WC.a (WL.qA 12 (yL (v:=(.agg #[(.int .i64 0),(.int .i64 0)])) (Eos.parts (l:=[]) .nil []) (fun _=>by kernel_rfl)) (WL.ym rfl rfl (yl zz rfl rfl rfl .here rfl rfl rfl) (WL.pu rfl (WL.nil (WX.a (WC.ret (WX.ye ?_))))))))
  obtain rfl:=oJ h
  refine WX.yf Tryz.results106 (.agg rfl zf rfl (yi .here) (.tmp rfl .nil)) (fun w hw=>?_)
  exact⟨y24 rfl rfl,hw.sub .nil⟩
 ·replace h:=yq h zrO
  refine WC.skip (WX.a (WC.b ?_))
  obtain⟨z8L,zIU,h⟩:=z8 h
  obtain⟨zc6,zIV,h⟩:=z8 h
  refine WC.a (WL.pu rfl (WL.cA 14 (zb Tryz.call112 (.cons rfl .nil)) .nil (cc hz .nil fun w pz ho=>y8Z _ _ _ zIU w pz ) (WL.pu rfl (WL.cA 16 (zb Tryz.call112 (.cons rfl .nil)) .nil (cc hz .nil fun w pz ho=>y8Z _ _ _ zIV w pz ) (WL.pu rfl (WL.pu rfl (WL.nil (WX.a (WC.b ?_)))))))))
  obtain⟨z5A,zIW,h⟩:=z8 h
  refine WC.a (WL.pu rfl (WL.pu rfl (WL.cA 19 (zb Tryz.call111 (.r2 rfl rfl)) .nil (cc hz .nil fun w pz ho=>y9p _ _ _ _ zIW w pz ) (WL.pu rfl (WL.nil (WX.a (WC.b ?_)))))))
  obtain⟨zzC,h⟩:=yo h
  refine WC.yP (fun i=>[].contains i) [] rfl (WD.pA 0 20 rfl (fun _=>q_m rfl) (WD.pA 1 21 rfl (fun _=>q_m rfl) (WD.pA 2 22 rfl (fun _=>q_quo rfl rfl zzC rfl) (WD.pA 3 23 rfl (fun _=>q_m rfl) (WD.pA 4 24 rfl (fun _=>q_m rfl) (WD.pA 5 25 rfl (fun _=>q_quo rfl rfl zzC rfl) (WD.pA 6 6 rfl (fun _=>q_z rfl) (WD.pA 7 7 rfl (fun _=>q_z rfl) (WD.done (by kernel_rfl) (WX.a (WC.b (WC.b (WC.a (WL.pu rfl (WL.pu rfl (WL.pu rfl (WL.seg false 2 28 (B:=(decide ((u64 (Int.tdiv z8L z5A))>1073741824))||(decide ((u64 (Int.tdiv zc6 z5A))>1073741824))) rfl rfl rfl rfl rfl rfl (fun h=>(y6p h).symm) (fun _ zIX=>?_) ?_)))))))))))))))))
  ·skip
   refine WL.pu rfl (WL.pu rfl (WL.pu rfl ?_))
   exact WL.yB (y6q zIX) rfl rfl .all
  refine WL.nil (WX.a (WC.cond rfl (fun zrP=>?_) (fun zrP=>?_)))
  ·replace h:=yp h zrP
   refine WC.b (WC.a (WL.qA 32 (yL (v:=(.agg #[(.int .i64 0),(.int .i64 0)])) (Eos.parts (l:=[]) .nil []) (fun _=>by kernel_rfl)) (WL.ym rfl rfl (yl zz rfl rfl rfl .here rfl rfl rfl) (WL.pu rfl (WL.nil (WX.a (WC.ret (WX.ye ?_))))))))
   obtain rfl:=oJ h
   refine WX.yf Tryz.results106 (.agg rfl zf rfl (yi .here) (.tmp rfl .nil)) (fun w hw=>?_)
   exact⟨y24 rfl rfl,hw.sub .nil⟩
  ·replace h:=yq h zrP
   refine WC.skip (WX.a (WC.b (WC.a (WL.pu rfl (WL.qA 34 (y6G Tryz.underlying193 Tryz.underlying3 rfl rfl) (WL.pu rfl (WL.qA 36 (y6G Tryz.underlying193 Tryz.underlying3 rfl rfl) (WL.qA 37 (yL (v:=(.agg #[(.int .i64 (i64 (u64 (Int.tdiv z8L z5A)))),(.int .i64 (i64 (u64 (Int.tdiv zc6 z5A))))])) (Eos.parts (l:=[.tmp 34,.tmp 36]) (.r2 rfl rfl) [0,1]) (fun _=>by kernel_rfl)) (WL.nA 9 (yv (cs:=[(.int .i64 0),(.int .i64 0)]) zT rfl) ?_)))))))))
   intro zzD _
   refine WL.ym rfl rfl (yl zz rfl rfl rfl .here rfl rfl rfl) (WL.nil (WX.a ?_))
   obtain⟨zmH,zIY,h⟩:=y15 h
   refine WC.y3k (fun(zc7:Int)=>(zmH zc7=some r)) (fun zc7=>[(4,(.pointer (some ⟨zzB,0,none⟩))),(9,(.pointer (some ⟨zzD,0,none⟩)))]) (fun zc7=>[stb zzB 132 [(.int .i64 0),(.int .i64 0)],stb zzD 132 [(.int .i64 zc7),(.int .i64 (i64 (u64 (Int.tdiv zc6 z5A))))]]) ?_ ?_
   ·skip
    refine WC.b (WC.a (WL.pu rfl (WL.pu rfl (WL.pu rfl (WL.pu rfl (WL.qA 42 (q_bneq Tryz.underlying4 rfl rfl) (WL.nil (WX.a (WC.cond rfl (fun zrQ=>?_) (fun zrQ=>?_))))))))))
    ·replace h:=yp h zrQ
     refine WC.a (WL.qA 43 (ya y2k rfl rfl) (WL.qA 44 (yc yt rfl (yk .here rfl)) (WL.qA 45 (q_neg rfl rfl) (WL.qA 46 (ya y2k rfl rfl) (WL.ym rfl rfl (y5b (ds:=[(.int .i64 (i64 (0-(i64 (u64 (Int.tdiv z8L z5A)))))),(.int .i64 (i64 (u64 (Int.tdiv zc6 z5A))))]) yfe rfl rfl rfl rfl rfl .here rfl rfl) (WL.nil ?_))))))
     exact WX.mid (i64 (0-(i64 (u64 (Int.tdiv z8L z5A))))) h (.r2 rfl rfl) (.s2 .h1 .here)
    ·replace h:=yq h zrQ
     refine WC.skip ?_
     exact WX.mid (i64 (u64 (Int.tdiv z8L z5A))) h (.r2 rfl rfl) (.s2 .h1 .here)
   ·rintro zc7 h
    replace h:=(zIY zc7).symm.trans h
    refine WC.b (WC.a (WL.qA 47 (yh zf rfl (yi .h1) rfl) (WL.ym rfl rfl (yl zz rfl rfl rfl .here rfl rfl rfl) (WL.pu rfl (WL.nil (WX.a (WC.ret ?_)))))))
    obtain rfl:=oJ h
    refine WX.yf Tryz.results106 (.agg rfl zf rfl (yi .here) (.tmp rfl .nil)) (fun w hw=>?_)
    exact⟨y24 rfl rfl,hw.sub .nil⟩
def y3v(z3v:zB)(zmI:List (List zd))(zee:List (zO×z2))(zef:List (za×Int))(zrR:Int)(zeg:Int):Option z2:=
 chk ((0:Int)≤zeg∧zeg<((z3v.fVLs.length:Nat):Int)) ((y51 ((nth z3v.fVLs zeg).fMax) ((nth z3v.fVLs zeg).fBag)).bind fun zzE=>some zzE.1)
theorem y7c(Z:Zp)(zzF:Addr)(zzG:Option Addr)(zzH:Nat)(zzI:Option Addr)(zzJ:Nat)(zzK:Option Addr)(zzL:Nat)(zzM:Option Addr)(zzN:Nat)(zzO:Option Addr)(zzP:Nat)(zzQ:Option Addr)(zzR:Nat)(zzS:Option Addr)(zzT:Nat)(zzU:Option Addr)(zzV:Nat)(zzW:Option Addr)(zzX:Nat)(zgy:Nat)(zgz:Nat)(z3v:zB)(zmI:List (List zd))(zee:List (zO×z2))(zef:List (za×Int))(zrR:Int)(zeg:Int)(r:z2)(h:y3v z3v zmI zee zef zrR zeg=some r)(w₀:World)(hz:PZ (fps [yA zgy (fun x=>Value.agg (y2o x).toArray) (fun x=>Value.agg (yw x).toArray) zee,yA zgz (fun x=>Value.agg (e97 x).toArray) (Value.int .i64) zef]) w₀ Z)(zVw:ZS Z 4 (y48 Z) zzG zzH z3v.fM)(zVx:ZS Z 4 (y4M Z) zzI zzJ z3v.fC0)(zVy:ZS Z 4 (fun r x=>r=e66 x) zzK zzL z3v.fS)(zVz:ZS Z 4 (fun r x=>r=e64 x) zzM zzN z3v.fK)(zzY:ZS Z 7 (p46 Z) zzO zzP z3v.fVLs)(zVA:ZS Z 5 (fun r x=>r=y4Z x) zzQ zzR z3v.fH)(zVB:ZS Z 3 (y4N Z) zzS zzT z3v.fU)(zVC:ZS Z 4 (fun r x=>r=y50 x) zzU zzV z3v.fV0)(zVD:ZS Z 1 (p48 Z) zzW zzX zmI)(zzZ:ZC Z zzF [(.slice zzG z3v.fM.length zzH),(.slice zzI z3v.fC0.length zzJ),(.slice zzK z3v.fS.length zzL),(.slice zzM z3v.fK.length zzN),(.slice zzO z3v.fVLs.length zzP),(.slice zzQ z3v.fH.length zzR),(.slice zzS z3v.fU.length zzT),(.slice zzU z3v.fV0.length zzV),(.slice zzW zmI.length zzX),(.map (some zgy)),(.map (some zgz)),(.int .i64 zrR)])(hown:Hp (fps [yA zgy (fun x=>Value.agg (y2o x).toArray) (fun x=>Value.agg (yw x).toArray) zee,yA zgz (fun x=>Value.agg (e97 x).toArray) (Value.int .i64) zef]) w₀ w₀ [yA zgy (fun x=>Value.agg (y2o x).toArray) (fun x=>Value.agg (yw x).toArray) zee,yA zgz (fun x=>Value.agg (e97 x).toArray) (Value.int .i64) zef]):
  Calls Tryz.prog 71 #[(.pointer (some zzF)),(.int .i64 zeg)] w₀ fun e w'=>e = .returned (.agg #[(.int .i64 r.fN),(.int .i64 r.fD)])∧Hp (fps [yA zgy (fun x=>Value.agg (y2o x).toArray) (fun x=>Value.agg (yw x).toArray) zee,yA zgz (fun x=>Value.agg (e97 x).toArray) (Value.int .i64) zef]) w₀ w' [yA zgy (fun x=>Value.agg (y2o x).toArray) (fun x=>Value.agg (yw x).toArray) zee,yA zgz (fun x=>Value.agg (e97 x).toArray) (Value.int .i64) zef]:=by
 unfold y3v at h
 refine Calls.oh2 Tryz.func71 Tryz.ntmps71 hown ?_
 refine WC.b (WC.a (WL.nA 4 (yv (cs:=[(.int .i64 0),(.int .i64 0)]) zT rfl) ?_))
 intro zVE _
 refine WL.nil (WX.a (WC.b ?_))
 obtain⟨zA0,h⟩:=yo h
 obtain⟨zzE,zIZ,h⟩:=z8 h
 refine WC.yP (fun i=>[23].contains i) [] rfl (WD.pA 0 8 rfl (fun _=>q_m rfl) (WD.pA 1 9 rfl (fun _=>y14 rfl) (WD.pA 2 10 rfl (fun _=>ya y6n rfl rfl) (WD.pA 3 11 rfl (fun _=>ya y3E rfl rfl) (WD.qA 4 12 rfl (yc y4j rfl (y1l hz.pv zzZ rfl)) (WD.pA 5 13 rfl (fun _=>q_m rfl) (WD.znth (j:=6) (dd:=14) (by kernel_rfl) rfl z2V z2W rfl rfl (Z:=Z) (Pr:=(p46 Z)) y4U rfl rfl zzY zA0 ?_)))))))
 rintro zVF zVG zJ0 zVH ⟨zVI,zVJ,rfl,zVK⟩
 refine WD.pA 7 15 rfl (fun _=>ya y7F rfl rfl) (WD.qA 8 16 rfl (yc yt rfl (y1l hz.pv zJ0 rfl)) (WD.pA 9 17 rfl (fun _=>q_m rfl) (WD.pA 10 18 rfl (fun _=>y14 rfl) (WD.pA 11 19 rfl (fun _=>ya y6n rfl rfl) (WD.pA 12 20 rfl (fun _=>ya y3E rfl rfl) (WD.qA 13 21 rfl (yc y4j rfl (y1l hz.pv zzZ rfl)) (WD.pA 14 22 rfl (fun _=>q_m rfl) (WD.znth (j:=15) (dd:=23) (by kernel_rfl) rfl z2V z2W rfl rfl (Z:=Z) (Pr:=(p46 Z)) y4U rfl rfl zzY zA0 ?_))))))))
 rintro zVL zVM zJ1 zVN ⟨zVO,zVP,rfl,zVQ⟩
 refine WD.pA 16 24 rfl (fun _=>ya yak rfl rfl) (WD.qA 17 25 rfl (yc yt rfl (y1l hz.pv zJ1 rfl)) (WD.eA 18 26 rfl (zb Tryz.call106 (.r2 rfl rfl)) (cc hz .nil fun w pz ho=>y7X _ _ _ _ zIZ w pz ) (WD.pA 19 7 rfl (fun _=>q_m rfl) (WD.pA 20 27 rfl (fun _=>y7A rfl rfl) (WD.pA 21 28 rfl (fun _=>y7A rfl rfl) (WD.new (i:=22) (dd:=5) rfl (by kernel_rfl) rfl rfl rfl (yv (cs:=[(.int .i64 0),(.int .i64 0)]) zT rfl) (fun h'=>absurd h' (by decide)) ?_))))))
 intro zVR _
 refine WD.forced0 (i:=23) rfl (by kernel_rfl) rfl rfl rfl (Sin.of .nil) (yl zz rfl rfl rfl .here rfl rfl rfl) (WD.pA 24 6 rfl (fun _=>q_z rfl) (WD.done (by kernel_rfl) (WX.a (WC.b (WC.a (WL.qA 29 (yh zf rfl (yi .here) rfl) (WL.ym rfl rfl (yl zz rfl rfl rfl .h1 rfl rfl rfl) (WL.nil (WX.a (WC.ret ?_))))))))))
 obtain rfl:=oJ h
 refine WX.yf Tryz.results71 (.agg rfl zf rfl (yi .here) .nil) (fun w hw=>?_)
 exact⟨yD rfl,hw.sub (.s2 .h2 .h2)⟩
def y1L(z1u:z2):Option Bool:=
 (if (((decide (z1u.fD≥1))&&(decide (z1u.fD≤1073741824)))&&(decide (z1u.fN≥(-1073741824))))&&(decide (z1u.fN≤1073741824)) then(y5C z1u.fN).bind fun zA1=>(y5C z1u.fD).bind fun zA2=>(y4u zA1 zA2).bind fun zA3=>some (decide (zA3=1)) else some false).bind fun zrS=>some zrS
theorem y2s(Z:Zp)(z1u:z2)(r:Bool)(h:y1L z1u=some r)(w₀:World)(hz:PZ [] w₀ Z):
  Calls Tryz.prog 80 #[(.agg #[(.int .i64 z1u.fN),(.int .i64 z1u.fD)])] w₀ fun e w'=>e = .returned (.bool r)∧Hp [] w₀ w' []:=by
 unfold y1L at h
 refine Calls.on1 Tryz.func80 Tryz.ntmps80 ?_
 refine WC.b (WC.a (WL.nA 1 (yI (cs:=[(.int .i64 z1u.fN),(.int .i64 z1u.fD)]) rfl rfl) ?_))
 intro zrT _
 refine WL.pu rfl (WL.nil (WX.a (WC.b ?_)))
 obtain⟨zrS,zA4,h⟩:=z8 h
 refine WC.yP (fun i=>[].contains i) [] rfl (WD.pA 0 3 rfl (fun _=>ya y2F rfl rfl) (WD.qA 1 4 rfl (yc yt rfl (yk .here rfl)) (WD.pA 2 5 rfl (fun _=>q_geq rfl rfl) (WD.pA 3 6 rfl (fun _=>q_m rfl) (WD.mid (fuel':=21) [(1,(.pointer (some ⟨zrT,0,none⟩))),(2,(.bool false)),(6,(.bool (decide (z1u.fD≥1)))),(10,(.bool ((decide (z1u.fD≥1))&&(decide (z1u.fD≤1073741824)))))] (y34 29 [7,6,5,4,3,2,1,0]) ?_ (fun zA5=>?_))))))
 rotate_left
 ·rcases Bool.eq_false_or_eq_true (decide (z1u.fD≥1)) with hb' | hb'
  ·have zrU:=hb';clear hb'
   refine WD.pin (i:=6) rfl zrU (WD.pA 4 7 rfl (fun _=>ya y2F rfl rfl) (WD.qA 5 8 rfl (yc yt rfl (yk .here rfl)) (WD.pA 6 9 rfl (fun _=>q_leq rfl rfl) (WD.pA 7 10 rfl (fun _=>y3M rfl rfl) (WD.reL (.cons .here .nil) ?_ zA5)))))
   exact(.cons rfl (.cons rfl (.cons (zN (Eq.symm zrU)) (.cons (zN (y2A zrU)) .nil))))
  ·have zrV:=hb';clear hb'
   refine WD.pin (i:=6) rfl zrV (WD.kA 4 7 rfl (WD.kA 5 8 rfl (WD.kA 6 9 rfl (WD.pA 7 10 rfl (fun _=>y3N rfl rfl) (WD.reL (.cons .here .nil) ?_ zA5)))))
   exact(.cons rfl (.cons rfl (.cons (zN (Eq.symm zrV)) (.cons (zN (y2z zrV)) .nil))))
 refine WD.d #[true,true,true,true,true,true,true,true,false,false,false,false,false,false,false,false,false,false,false,false,false,false,false,false,false,false,false,false,false] (by kernel_rfl) (WD.pA 8 11 rfl (fun _=>q_m rfl) (WD.mid (fuel':=16) [(1,(.pointer (some ⟨zrT,0,none⟩))),(2,(.bool false)),(11,(.bool ((decide (z1u.fD≥1))&&(decide (z1u.fD≤1073741824))))),(15,(.bool (((decide (z1u.fD≥1))&&(decide (z1u.fD≤1073741824)))&&(decide (z1u.fN≥(-1073741824))))))] (y34 29 [12,11,10,9,8,7,6,5,4,3,2,1,0]) ?_ (fun zA6=>?_)))
 rotate_left
 ·rcases Bool.eq_false_or_eq_true ((decide (z1u.fD≥1))&&(decide (z1u.fD≤1073741824))) with hb' | hb'
  ·have zrW:=hb';clear hb'
   refine WD.pin (i:=11) rfl zrW (WD.pA 9 12 rfl (fun _=>ya y2k rfl rfl) (WD.qA 10 13 rfl (yc yt rfl (yk .here rfl)) (WD.pA 11 14 rfl (fun _=>q_geq rfl rfl) (WD.pA 12 15 rfl (fun _=>y3M rfl rfl) (WD.reL (.cons .here .nil) ?_ zA6)))))
   exact(.cons rfl (.cons rfl (.cons (zN (Eq.symm zrW)) (.cons (zN (y2A zrW)) .nil))))
  ·have zrX:=hb';clear hb'
   refine WD.pin (i:=11) rfl zrX (WD.kA 9 12 rfl (WD.kA 10 13 rfl (WD.kA 11 14 rfl (WD.pA 12 15 rfl (fun _=>y3N rfl rfl) (WD.reL (.cons .here .nil) ?_ zA6)))))
   exact(.cons rfl (.cons rfl (.cons (zN (Eq.symm zrX)) (.cons (zN (y2z zrX)) .nil))))
 refine WD.d #[true,true,true,true,true,true,true,true,true,true,true,true,true,false,false,false,false,false,false,false,false,false,false,false,false,false,false,false,false] (by kernel_rfl) (WD.pA 13 16 rfl (fun _=>q_m rfl) (WD.mid (fuel':=11) [(1,(.pointer (some ⟨zrT,0,none⟩))),(2,(.bool false)),(16,(.bool (((decide (z1u.fD≥1))&&(decide (z1u.fD≤1073741824)))&&(decide (z1u.fN≥(-1073741824)))))),(20,(.bool ((((decide (z1u.fD≥1))&&(decide (z1u.fD≤1073741824)))&&(decide (z1u.fN≥(-1073741824))))&&(decide (z1u.fN≤1073741824)))))] (y34 29 [17,16,15,14,13,12,11,10,9,8,7,6,5,4,3,2,1,0]) ?_ (fun zA7=>?_)))
 rotate_left
 ·rcases Bool.eq_false_or_eq_true (((decide (z1u.fD≥1))&&(decide (z1u.fD≤1073741824)))&&(decide (z1u.fN≥(-1073741824)))) with hb' | hb'
  ·have zrY:=hb';clear hb'
   refine WD.pin (i:=16) rfl zrY (WD.pA 14 17 rfl (fun _=>ya y2k rfl rfl) (WD.qA 15 18 rfl (yc yt rfl (yk .here rfl)) (WD.pA 16 19 rfl (fun _=>q_leq rfl rfl) (WD.pA 17 20 rfl (fun _=>y3M rfl rfl) (WD.reL (.cons .here .nil) ?_ zA7)))))
   exact(.cons rfl (.cons rfl (.cons (zN (Eq.symm zrY)) (.cons (zN (y2A zrY)) .nil))))
  ·have zrZ:=hb';clear hb'
   refine WD.pin (i:=16) rfl zrZ (WD.kA 14 17 rfl (WD.kA 15 18 rfl (WD.kA 16 19 rfl (WD.pA 17 20 rfl (fun _=>y3N rfl rfl) (WD.reL (.cons .here .nil) ?_ zA7)))))
   exact(.cons rfl (.cons rfl (.cons (zN (Eq.symm zrZ)) (.cons (zN (y2z zrZ)) .nil))))
 refine WD.d #[true,true,true,true,true,true,true,true,true,true,true,true,true,true,true,true,true,true,false,false,false,false,false,false,false,false,false,false,false] (by kernel_rfl) (WD.pA 18 21 rfl (fun _=>q_m rfl) (WD.mid (fuel':=1) [(2,(.bool false)),(21,(.bool ((((decide (z1u.fD≥1))&&(decide (z1u.fD≤1073741824)))&&(decide (z1u.fN≥(-1073741824))))&&(decide (z1u.fN≤1073741824))))),(30,(.bool zrS))] (y34 29 [27,26,25,24,23,22,21,20,19,18,17,16,15,14,13,12,11,10,9,8,7,6,5,4,3,2,1,0]) ?_ (fun zA8=>?_)))
 rotate_left
 ·rcases Bool.eq_false_or_eq_true ((((decide (z1u.fD≥1))&&(decide (z1u.fD≤1073741824)))&&(decide (z1u.fN≥(-1073741824))))&&(decide (z1u.fN≤1073741824))) with hb' | hb'
  ·have zs0:=hb';clear hb'
   have zak:=yp zA4 zs0
   obtain⟨zA1,zJ2,zak⟩:=z8 zak
   obtain⟨zA2,zJ3,zak⟩:=z8 zak
   obtain⟨zA3,zJ4,zak⟩:=z8 zak
   replace zak:=oJ zak
   refine WD.pin (i:=21) rfl zs0 (WD.pA 19 22 rfl (fun _=>ya y2k rfl rfl) (WD.qA 20 23 rfl (yc yt rfl (yk .here rfl)) (WD.eA 21 24 rfl (zb Tryz.call112 (.cons rfl .nil)) (cc hz .nil fun w pz ho=>y8Z _ _ _ zJ2 w pz ) (WD.pA 22 25 rfl (fun _=>ya y2F rfl rfl) (WD.qA 23 26 rfl (yc yt rfl (yk .here rfl)) (WD.eA 24 27 rfl (zb Tryz.call112 (.cons rfl .nil)) (cc hz .nil fun w pz ho=>y8Z _ _ _ zJ3 w pz ) (WD.eA 25 28 rfl (zb Tryz.call111 (.r2 rfl rfl)) (cc hz .nil fun w pz ho=>y9p _ _ _ _ zJ4 w pz ) (WD.pA 26 29 rfl (fun _=>yaI rfl rfl) (WD.pA 27 30 rfl (fun _=>y3M rfl rfl) (WD.reL (.cons .here .nil) ?_ zA8))))))))))
   exact(.cons rfl (.cons (zN (Eq.symm zs0)) (.cons (zN zak) .nil)))
  ·have zs1:=hb';clear hb'
   have zs2:=yq zA4 zs1
   replace zs2:=oJ zs2
   refine WD.pin (i:=21) rfl zs1 (WD.kA 19 22 rfl (WD.kA 20 23 rfl (WD.kA 21 24 rfl (WD.kA 22 25 rfl (WD.kA 23 26 rfl (WD.kA 24 27 rfl (WD.kA 25 28 rfl (WD.kA 26 29 rfl (WD.pA 27 30 rfl (fun _=>y3N rfl rfl) (WD.reL (.cons .here .nil) ?_ zA8))))))))))
   exact(.cons rfl (.cons (zN (Eq.symm zs1)) (.cons (zN zs2) .nil)))
 refine WD.d #[true,true,true,true,true,true,true,true,true,true,true,true,true,true,true,true,true,true,true,true,true,true,true,true,true,true,true,true,false] (by kernel_rfl) (WD.pA 28 2 rfl (fun _=>q_z rfl) (WD.done (by kernel_rfl) (WX.a (WC.ret ?_))))
 obtain rfl:=oJ h
 refine WX.yf Tryz.results80 (.tmp rfl .nil) (fun w hw=>?_)
 exact⟨yD rfl,hw.sub .nil⟩
def y90(zgA:z2)(zgB:z2):Option (Int×Int):=
 some ((i64 (zgA.fN*zgB.fN)),(i64 (zgA.fD*zgB.fD)))
theorem ygT(Z:Zp)(zA9:Addr)(zAa:Addr)(zgA:z2)(zgB:z2)(r:Int×Int)(h:y90 zgA zgB=some r)(w₀:World)(hz:PZ [] w₀ Z)(zAb:ZC Z zA9 [(.int .i64 zgA.fN),(.int .i64 zgA.fD)])(zAc:ZC Z zAa [(.int .i64 zgB.fN),(.int .i64 zgB.fD)]):
  Calls Tryz.prog 143 #[(.pointer (some zA9)),(.pointer (some zAa))] w₀ fun e w'=>e = .returned (.tuple #[(.int .i64 r.1),(.int .i64 r.2)])∧Hp [] w₀ w' []:=by
 unfold y90 at h
 refine Calls.yK Tryz.func143 Tryz.ntmps143 ?_
 refine WC.b (WC.a (WL.pu rfl (WL.pu rfl (WL.nil (WX.a (WC.b (WC.yP (fun i=>[].contains i) [] rfl (WD.pA 0 4 rfl (fun _=>ya y2k rfl rfl) (WD.qA 1 5 rfl (yc yt rfl (y1l hz.pv zAb rfl)) (WD.pA 2 6 rfl (fun _=>ya y2k rfl rfl) (WD.qA 3 7 rfl (yc yt rfl (y1l hz.pv zAc rfl)) (WD.pA 4 8 rfl (fun _=>y6T rfl rfl rfl) (WD.pA 5 9 rfl (fun _=>ya y2F rfl rfl) (WD.qA 6 10 rfl (yc yt rfl (y1l hz.pv zAb rfl)) (WD.pA 7 11 rfl (fun _=>ya y2F rfl rfl) (WD.qA 8 12 rfl (yc yt rfl (y1l hz.pv zAc rfl)) (WD.pA 9 13 rfl (fun _=>y6T rfl rfl rfl) (WD.pA 10 2 rfl (fun _=>q_z rfl) (WD.pA 11 3 rfl (fun _=>q_z rfl) (WD.done (by kernel_rfl) (WX.a (WC.ret ?_))))))))))))))))))))))
 obtain rfl:=oJ h
 refine WX.yf Tryz.results143 (.tmp rfl (.tmp rfl .nil)) (fun w hw=>?_)
 exact⟨y24 rfl rfl,hw.sub .nil⟩
def y9q(zc8:z2)(zc9:z2):Option (z2×Int):=
 (y1L zc8).bind fun zAd=>(if !zAd then some true else(y1L zc9).bind fun zAe=>some (!zAe)).bind fun zmJ=>if zmJ then some ((⟨0,0⟩:z2),2) else(y90 zc8 zc9).bind fun zs3=>(y51 zs3.1 zs3.2).bind fun zs4=>some (zs4.1,zs4.2)
theorem w_rat_do(Z:Zp)(zc8:z2)(zc9:z2)(r:z2×Int)(h:y9q zc8 zc9=some r)(w₀:World)(hz:PZ [] w₀ Z):
  Calls Tryz.prog 105 #[(.string ⟨#[42]⟩),(.agg #[(.int .i64 zc8.fN),(.int .i64 zc8.fD)]),(.agg #[(.int .i64 zc9.fN),(.int .i64 zc9.fD)])] w₀ fun e w'=>e = .returned (.tuple #[(.agg #[(.int .i64 r.1.fN),(.int .i64 r.1.fD)]),(.int .i64 r.2)])∧Hp [] w₀ w' []:=by
 unfold y9q at h
 refine Calls.on3 Tryz.func105 Tryz.ntmps105 ?_
 refine WC.b (WC.a (WL.nA 4 (yI (cs:=[(.int .i64 zc8.fN),(.int .i64 zc8.fD)]) rfl rfl) ?_))
 intro zjN _
 refine WL.nA 5 (yI (cs:=[(.int .i64 zc9.fN),(.int .i64 zc9.fD)]) rfl rfl) ?_
 intro zjO _
 refine WL.nA 6 (yv (cs:=[(.int .i64 0),(.int .i64 0)]) zT rfl) ?_
 intro zVS _
 refine WL.pu rfl (WL.nil (WX.a (WC.b (WC.b ?_))))
 obtain⟨zAd,zJ5,h⟩:=z8 h
 obtain⟨zmJ,zAf,h⟩:=z8 h
 refine WC.a (WL.qA 9 (yh zf rfl (yi .h2) rfl) (WL.cA 10 (zb Tryz.call80 (.cons rfl .nil)) .nil (cc hz .nil fun w pz ho=>y2s _ _ _ zJ5 w pz ) (WL.pu rfl (WL.pu rfl (WL.seg false 3 12 (B:=zmJ) rfl rfl rfl rfl rfl rfl (fun h=>(oJ (yp zAf h)).symm) (fun _ zJ6=>?_) ?_)))))
 ·skip
  have zjP:=yq zAf zJ6
  obtain⟨zAe,zJ7,zjP⟩:=z8 zjP
  replace zjP:=oJ zjP
  refine WL.qA 13 (yh zf rfl (yi .h1) rfl) (WL.cA 14 (zb Tryz.call80 (.cons rfl .nil)) .nil (cc hz .nil fun w pz ho=>y2s _ _ _ zJ7 w pz ) (WL.pu rfl (WL.pu rfl ?_)))
  exact WL.yB zjP rfl rfl .all
 refine WL.pu rfl (WL.seg false 7 17 (B:=zmJ) rfl rfl rfl rfl rfl rfl (fun h=>h) (fun _ zJ8=>?_) ?_)
 ·skip
  refine WL.pu rfl (WL.qA 19 (yc7 (r:=false) (by decide) rfl rfl) (WL.pu rfl (WL.e rfl rfl rfl (WL.e rfl rfl rfl (WL.e rfl rfl rfl (WL.pu rfl (WL.pu rfl ?_)))))))
  exact WL.yB (Eq.symm zJ8) rfl rfl .all
 refine WL.nil (WX.a (WC.cond rfl (fun zs5=>?_) (fun zs5=>?_)))
 ·replace h:=yp h zs5
  refine WC.b (WC.a (WL.qA 26 (yL (v:=(.agg #[(.int .i64 0),(.int .i64 0)])) (Eos.parts (l:=[]) .nil []) (fun _=>by kernel_rfl)) (WL.ym rfl rfl (yl zz rfl rfl rfl .here rfl rfl rfl) (WL.pu rfl (WL.nil (WX.a (WC.ret (WX.ye ?_))))))))
  obtain rfl:=oJ h
  refine WX.yf Tryz.results105 (.agg rfl zf rfl (yi .here) (.tmp rfl .nil)) (fun w hw=>?_)
  exact⟨y24 rfl rfl,hw.sub .nil⟩
 ·replace h:=yq h zs5
  refine WC.skip (WX.a (WC.b (WC.a (WL.nA 27 (y4B Value.string (fun x=>x)) ?_))))
  intro zVT _
  refine WL.qA 28 (y19 (Eos.caps (l:=[.tmp 4,.tmp 5]) (.r2 rfl rfl))) (WL.ym rfl rfl (y3s (k:=⟨#[43]⟩) (v:=(.func (.func 141) #[] #[(.pointer (some ⟨zjN,0,none⟩)),(.pointer (some ⟨zjO,0,none⟩))])) y3S Tryz.underlying258 rfl rfl rfl rfl .here) (WL.qA 29 (y19 (Eos.caps (l:=[.tmp 4,.tmp 5]) (.r2 rfl rfl))) (WL.ym rfl rfl (y3s (k:=⟨#[45]⟩) (v:=(.func (.func 142) #[] #[(.pointer (some ⟨zjN,0,none⟩)),(.pointer (some ⟨zjO,0,none⟩))])) y3S Tryz.underlying258 rfl rfl rfl rfl .here) (WL.qA 30 (y19 (Eos.caps (l:=[.tmp 4,.tmp 5]) (.r2 rfl rfl))) (WL.ym rfl rfl (y3s (k:=⟨#[42]⟩) (v:=(.func (.func 143) #[] #[(.pointer (some ⟨zjN,0,none⟩)),(.pointer (some ⟨zjO,0,none⟩))])) y3S Tryz.underlying258 rfl rfl rfl rfl .here) (WL.qA 31 (y19 (Eos.caps (l:=[.tmp 4,.tmp 5]) (.r2 rfl rfl))) (WL.ym rfl rfl (y3s (k:=⟨#[47]⟩) (v:=(.func (.func 144) #[] #[(.pointer (some ⟨zjN,0,none⟩)),(.pointer (some ⟨zjO,0,none⟩))])) y3S Tryz.underlying258 rfl rfl rfl rfl .here) (WL.pu rfl (WL.pu rfl (WL.nil (WX.a (WC.b ?_))))))))))))
  obtain⟨zs3,zJ9,h⟩:=z8 h
  obtain⟨zs4,zJa,h⟩:=z8 h
  refine WC.a (WL.pu rfl (WL.pu rfl (WL.qA 35 (yc6 (k:=⟨#[42]⟩) (dflt:=.nilFunc) (r:=(.func (.func 143) #[] #[(.pointer (some ⟨zjN,0,none⟩)),(.pointer (some ⟨zjO,0,none⟩))])) y3S Tryz.underlying258 zlX rfl rfl rfl .here (by rfl)) (WL.cA 36 (y2y (l:=[]) Tryz.call143 rfl .nil) .nil (ccl hz .nil (.s2 .h3 .h2) fun w pz ho la=>ygT _ _ _ _ _ _ zJ9 w pz ((la _ (.head _) _).stb) ((la _ (.tail _ (.head _)) _).stb)) (WL.pu rfl (WL.pu rfl (WL.cA 39 (zb Tryz.call106 (.r2 rfl rfl)) .nil (cc hz .nil fun w pz ho=>y7X _ _ _ _ zJa w pz ) (WL.pu rfl (WL.pu rfl (WL.ym rfl rfl (yl zz rfl rfl rfl .h1 rfl rfl rfl) (WL.pu rfl (WL.nil (WX.a (WC.ret ?_))))))))))))))
  obtain rfl:=oJ h
  refine WX.yf Tryz.results105 (.agg rfl zf rfl (yi .here) (.tmp rfl .nil)) (fun w hw=>?_)
  exact⟨y24 rfl rfl,hw.sub .nil⟩
def y3g(zeh:z2)(zei:z2):Option (z2×Int):=
 (y9q zeh zei).bind fun zs6=>some (zs6.1,zs6.2)
theorem ybJ(Z:Zp)(zeh:z2)(zei:z2)(r:z2×Int)(h:y3g zeh zei=some r)(w₀:World)(hz:PZ [] w₀ Z):
  Calls Tryz.prog 70 #[(.agg #[(.int .i64 zeh.fN),(.int .i64 zeh.fD)]),(.agg #[(.int .i64 zei.fN),(.int .i64 zei.fD)])] w₀ fun e w'=>e = .returned (.tuple #[(.agg #[(.int .i64 r.1.fN),(.int .i64 r.1.fD)]),(.int .i64 r.2)])∧Hp [] w₀ w' []:=by
 unfold y3g at h
 refine Calls.yK Tryz.func70 Tryz.ntmps70 ?_
 refine WC.b (WC.a (WL.nA 2 (yI (cs:=[(.int .i64 zeh.fN),(.int .i64 zeh.fD)]) rfl rfl) ?_))
 intro zVU _
 refine WL.nA 3 (yI (cs:=[(.int .i64 zei.fN),(.int .i64 zei.fD)]) rfl rfl) ?_
 intro zVV _
 refine WL.nA 4 (yv (cs:=[(.int .i64 0),(.int .i64 0)]) zT rfl) ?_
 intro zVW _
 refine WL.pu rfl (WL.nil (WX.a (WC.b ?_)))
 obtain⟨zs6,zJb,h⟩:=z8 h
 refine WC.a (WL.qA 6 (yh zf rfl (yi .h2) rfl) (WL.qA 7 (yh zf rfl (yi .h1) rfl) (WL.cA 8 (zb Tryz.call105 (.r3 rfl rfl rfl)) .nil (cc hz .nil fun w pz ho=>w_rat_do _ _ _ _ zJb w pz ) (WL.pu rfl (WL.pu rfl (WL.ym rfl rfl (yl zz rfl rfl rfl .here rfl rfl rfl) (WL.pu rfl (WL.nil (WX.a (WC.ret ?_))))))))))
 obtain rfl:=oJ h
 refine WX.yf Tryz.results70 (.agg rfl zf rfl (yi .here) (.tmp rfl .nil)) (fun w hw=>?_)
 exact⟨y24 rfl rfl,hw.sub .nil⟩
def y3A(zH:zB)(z8M:List (List zd))(zca:List (zO×z2))(zcb:List (za×Int))(zal:Int)(zcc:z2→z2→Option (z2×Int))(zcd:z2)(zce:z2):Option (z2×Int):=
 (zcc zcd zce).bind fun z8N=>jp1 (fun(zam:Int)=>if decide (z8N.2≠0) then(y2n 0).bind fun zAg=>some (zAg,zam) else some (z8N.1,zam)) fun zmK=>if decide (zal=0) then zmK z8N.2 else zmK zal
theorem y6y(Z:Zp)(zej:Nat)(zcf:Option Addr)(zcg:Nat)(zch:Option Addr)(zci:Nat)(zcj:Option Addr)(zck:Nat)(zcl:Option Addr)(zcm:Nat)(zcn:Option Addr)(zco:Nat)(zcp:Option Addr)(zcq:Nat)(zcr:Option Addr)(zcs:Nat)(zct:Option Addr)(zcu:Nat)(zcv:Option Addr)(zcw:Nat)(z6J:Nat)(z6K:Nat)(zan:FuncId)(zek:List Value)(zH:zB)(z8M:List (List zd))(zca:List (zO×z2))(zcb:List (za×Int))(zal:Int)(zcc:z2→z2→Option (z2×Int))(zcd:z2)(zce:z2)(r:z2×Int)(h:y3A zH z8M zca zcb zal zcc zcd zce=some r)(w₀:World)(hz:PZ (fps [stb zej 95 [(.slice zcf zH.fM.length zcg),(.slice zch zH.fC0.length zci),(.slice zcj zH.fS.length zck),(.slice zcl zH.fK.length zcm),(.slice zcn zH.fVLs.length zco),(.slice zcp zH.fH.length zcq),(.slice zcr zH.fU.length zcs),(.slice zct zH.fV0.length zcu),(.slice zcv z8M.length zcw),(.map (some z6J)),(.map (some z6K)),(.int .i64 zal)],yA z6J (fun x=>Value.agg (y2o x).toArray) (fun x=>Value.agg (yw x).toArray) zca,yA z6K (fun x=>Value.agg (e97 x).toArray) (Value.int .i64) zcb]) w₀ Z)(zVX:ZS Z 4 (y48 Z) zcf zcg zH.fM)(zVY:ZS Z 4 (y4M Z) zch zci zH.fC0)(zVZ:ZS Z 4 (fun r x=>r=e66 x) zcj zck zH.fS)(zW0:ZS Z 4 (fun r x=>r=e64 x) zcl zcm zH.fK)(zW1:ZS Z 7 (p46 Z) zcn zco zH.fVLs)(zW2:ZS Z 5 (fun r x=>r=y4Z x) zcp zcq zH.fH)(zW3:ZS Z 3 (y4N Z) zcr zcs zH.fU)(zW4:ZS Z 4 (fun r x=>r=y50 x) zct zcu zH.fV0)(zW5:ZS Z 1 (p48 Z) zcv zcw z8M)(zJc:∀ args w,(callFunc zan args).run Tryz.prog w = .ok (.enter zan args) w)(zJd:∀ w:World,PZ [] w Z→∀(x0:z2) (x1:z2) (r:z2×Int),zcc x0 x1=some r→Calls Tryz.prog zan (([(.agg #[(.int .i64 x0.fN),(.int .i64 x0.fD)]),(.agg #[(.int .i64 x1.fN),(.int .i64 x1.fD)])]:List Value)++zek).toArray w fun e w'=>e = .returned (.tuple #[(.agg #[(.int .i64 r.1.fN),(.int .i64 r.1.fD)]),(.int .i64 r.2)])∧Hp [] w w' [])(hown:Hp (fps [stb zej 95 [(.slice zcf zH.fM.length zcg),(.slice zch zH.fC0.length zci),(.slice zcj zH.fS.length zck),(.slice zcl zH.fK.length zcm),(.slice zcn zH.fVLs.length zco),(.slice zcp zH.fH.length zcq),(.slice zcr zH.fU.length zcs),(.slice zct zH.fV0.length zcu),(.slice zcv z8M.length zcw),(.map (some z6J)),(.map (some z6K)),(.int .i64 zal)],yA z6J (fun x=>Value.agg (y2o x).toArray) (fun x=>Value.agg (yw x).toArray) zca,yA z6K (fun x=>Value.agg (e97 x).toArray) (Value.int .i64) zcb]) w₀ w₀ [stb zej 95 [(.slice zcf zH.fM.length zcg),(.slice zch zH.fC0.length zci),(.slice zcj zH.fS.length zck),(.slice zcl zH.fK.length zcm),(.slice zcn zH.fVLs.length zco),(.slice zcp zH.fH.length zcq),(.slice zcr zH.fU.length zcs),(.slice zct zH.fV0.length zcu),(.slice zcv z8M.length zcw),(.map (some z6J)),(.map (some z6K)),(.int .i64 zal)],yA z6J (fun x=>Value.agg (y2o x).toArray) (fun x=>Value.agg (yw x).toArray) zca,yA z6K (fun x=>Value.agg (e97 x).toArray) (Value.int .i64) zcb]):
  Calls Tryz.prog 68 #[(.pointer (some ⟨zej,0,none⟩)),(.func (.func zan) #[] (zek).toArray),(.agg #[(.int .i64 zcd.fN),(.int .i64 zcd.fD)]),(.agg #[(.int .i64 zce.fN),(.int .i64 zce.fD)])] w₀ fun e w'=>e = .returned (.agg #[(.int .i64 r.1.fN),(.int .i64 r.1.fD)])∧Hp (fps [stb zej 95 [(.slice zcf zH.fM.length zcg),(.slice zch zH.fC0.length zci),(.slice zcj zH.fS.length zck),(.slice zcl zH.fK.length zcm),(.slice zcn zH.fVLs.length zco),(.slice zcp zH.fH.length zcq),(.slice zcr zH.fU.length zcs),(.slice zct zH.fV0.length zcu),(.slice zcv z8M.length zcw),(.map (some z6J)),(.map (some z6K)),(.int .i64 zal)],yA z6J (fun x=>Value.agg (y2o x).toArray) (fun x=>Value.agg (yw x).toArray) zca,yA z6K (fun x=>Value.agg (e97 x).toArray) (Value.int .i64) zcb]) w₀ w' [stb zej 95 [(.slice zcf zH.fM.length zcg),(.slice zch zH.fC0.length zci),(.slice zcj zH.fS.length zck),(.slice zcl zH.fK.length zcm),(.slice zcn zH.fVLs.length zco),(.slice zcp zH.fH.length zcq),(.slice zcr zH.fU.length zcs),(.slice zct zH.fV0.length zcu),(.slice zcv z8M.length zcw),(.map (some z6J)),(.map (some z6K)),(.int .i64 r.2)],yA z6J (fun x=>Value.agg (y2o x).toArray) (fun x=>Value.agg (yw x).toArray) zca,yA z6K (fun x=>Value.agg (e97 x).toArray) (Value.int .i64) zcb]:=by
 unfold y3A at h
 refine Calls.oh4 Tryz.func68 Tryz.ntmps68 hown ?_
 refine WC.b (WC.a (WL.nA 6 (yI (cs:=[(.int .i64 zcd.fN),(.int .i64 zcd.fD)]) rfl rfl) ?_))
 intro zW6 _
 refine WL.nA 7 (yI (cs:=[(.int .i64 zce.fN),(.int .i64 zce.fD)]) rfl rfl) ?_
 intro zW7 _
 refine WL.nA 8 (yv (cs:=[(.int .i64 0),(.int .i64 0)]) zT rfl) ?_
 intro zAh _
 refine WL.nil (WX.a (WC.b ?_))
 obtain⟨z8N,zJe,h⟩:=z8 h
 refine WC.a (WL.pu rfl (WL.qA 13 (yh zf rfl (yi .h2) rfl) (WL.qA 14 (yh zf rfl (yi .h1) rfl) (WL.cA 15 (y2y (l:=[.tmp 13,.tmp 14]) (f:=zan) (caps:=zek) zJc rfl (.r2 rfl rfl)) .nil (fun w hw=>zJd w (hz.now hw) zcd zce z8N  zJe) (WL.pu rfl (WL.pu rfl (WL.pu rfl (WL.nA 9 (yv (cs:=[(.int .i64 0),(.int .i64 0)]) zT rfl) ?_))))))))
 intro zAi _
 refine WL.ym rfl rfl (yl zz rfl rfl rfl .here rfl rfl rfl) (WL.pu rfl (WL.nil (WX.a ?_)))
 obtain⟨zmK,zJf,h⟩:=y15 h
 refine WC.y3k (fun(zam:Int)=>(zmK zam=some r)) (fun zam=>[(8,(.pointer (some ⟨zAh,0,none⟩))),(9,(.pointer (some ⟨zAi,0,none⟩))),(10,(.int .i64 z8N.2))]) (fun zam=>[stb zAh 132 [(.int .i64 0),(.int .i64 0)],stb zAi 132 [(.int .i64 z8N.1.fN),(.int .i64 z8N.1.fD)],stb zej 95 [(.slice zcf zH.fM.length zcg),(.slice zch zH.fC0.length zci),(.slice zcj zH.fS.length zck),(.slice zcl zH.fK.length zcm),(.slice zcn zH.fVLs.length zco),(.slice zcp zH.fH.length zcq),(.slice zcr zH.fU.length zcs),(.slice zct zH.fV0.length zcu),(.slice zcv z8M.length zcw),(.map (some z6J)),(.map (some z6K)),(.int .i64 zam)],yA z6J (fun x=>Value.agg (y2o x).toArray) (fun x=>Value.agg (yw x).toArray) zca,yA z6K (fun x=>Value.agg (e97 x).toArray) (Value.int .i64) zcb]) ?_ ?_
 ·skip
  refine WC.b (WC.a (WL.pu rfl (WL.qA 19 (y14 rfl) (WL.qA 20 (ya y9i rfl rfl) (WL.qA 21 (yc y35 rfl (yk .h4 rfl)) (WL.pu rfl (WL.nil (WX.a (WC.cond rfl (fun zs7=>?_) (fun zs7=>?_))))))))))
  ·replace h:=yp h zs7
   refine WC.a (WL.pu rfl (WL.pu rfl (WL.qA 25 (y14 rfl) (WL.qA 26 (ya y9i rfl rfl) (WL.ym rfl rfl (y5b (ds:=[(.slice zcf zH.fM.length zcg),(.slice zch zH.fC0.length zci),(.slice zcj zH.fS.length zck),(.slice zcl zH.fK.length zcm),(.slice zcn zH.fVLs.length zco),(.slice zcp zH.fH.length zcq),(.slice zcr zH.fU.length zcs),(.slice zct zH.fV0.length zcu),(.slice zcv z8M.length zcw),(.map (some z6J)),(.map (some z6K)),(.int .i64 z8N.2)]) yan rfl rfl rfl rfl rfl .h4 rfl rfl) (WL.nil ?_))))))
   exact WX.mid z8N.2 h (.r3 rfl rfl rfl) (.s5 .h2 .h1 .here .h2 .h2)
  ·replace h:=yq h zs7
   refine WC.skip ?_
   exact WX.mid zal h (.r3 rfl rfl rfl) (.s5 .h1 .here .h2 .h2 .h2)
 ·rintro zam h
  replace h:=(zJf zam).symm.trans h
  refine WC.b (WC.b (WC.a (WL.pu rfl (WL.pu rfl (WL.nil (WX.a (WC.cond rfl (fun zs8=>?_) (fun zs8=>?_))))))))
  ·replace h:=yp h zs8
   refine WC.b ?_
   obtain⟨zAg,zJg,h⟩:=z8 h
   refine WC.a (WL.cA 29 (zb Tryz.call43 (.cons rfl .nil)) .nil (cc hz .nil fun w pz ho=>y4R _ _ _ zJg w pz ) (WL.ym rfl rfl (yl zz rfl rfl rfl .here rfl rfl rfl) (WL.nil (WX.a (WC.ret (WX.ye ?_))))))
   obtain rfl:=oJ h
   refine WX.yf Tryz.results68 (.agg rfl zf rfl (yi .here) .nil) (fun w hw=>?_)
   exact⟨yD rfl,hw.sub (.s3 .h2 .h2 .h2)⟩
  ·replace h:=yq h zs8
   refine WC.skip (WX.a (WC.b (WC.a (WL.qA 30 (yh zf rfl (yi .h1) rfl) (WL.ym rfl rfl (yl zz rfl rfl rfl .here rfl rfl rfl) (WL.nil (WX.a (WC.ret ?_))))))))
   obtain rfl:=oJ h
   refine WX.yf Tryz.results68 (.agg rfl zf rfl (yi .here) .nil) (fun w hw=>?_)
   exact⟨yD rfl,hw.sub (.s3 .h2 .h2 .h2)⟩
def y91(zel:z2)(zem:z2):Option (Int×Int):=
 some ((i64 ((i64 (zel.fN*zem.fD))+(i64 (zem.fN*zel.fD)))),(i64 (zel.fD*zem.fD)))
theorem ygU(Z:Zp)(zAj:Addr)(zAk:Addr)(zel:z2)(zem:z2)(r:Int×Int)(h:y91 zel zem=some r)(w₀:World)(hz:PZ [] w₀ Z)(zs9:ZC Z zAj [(.int .i64 zel.fN),(.int .i64 zel.fD)])(zsa:ZC Z zAk [(.int .i64 zem.fN),(.int .i64 zem.fD)]):
  Calls Tryz.prog 141 #[(.pointer (some zAj)),(.pointer (some zAk))] w₀ fun e w'=>e = .returned (.tuple #[(.int .i64 r.1),(.int .i64 r.2)])∧Hp [] w₀ w' []:=by
 unfold y91 at h
 refine Calls.yK Tryz.func141 Tryz.ntmps141 ?_
 refine WC.b (WC.a (WL.pu rfl (WL.pu rfl (WL.nil (WX.a (WC.b (WC.yP (fun i=>[].contains i) [] rfl (WD.pA 0 4 rfl (fun _=>ya y2k rfl rfl) (WD.qA 1 5 rfl (yc yt rfl (y1l hz.pv zs9 rfl)) (WD.pA 2 6 rfl (fun _=>ya y2F rfl rfl) (WD.qA 3 7 rfl (yc yt rfl (y1l hz.pv zsa rfl)) (WD.pA 4 8 rfl (fun _=>y6T rfl rfl rfl) (WD.pA 5 9 rfl (fun _=>ya y2k rfl rfl) (WD.qA 6 10 rfl (yc yt rfl (y1l hz.pv zsa rfl)) (WD.pA 7 11 rfl (fun _=>ya y2F rfl rfl) (WD.qA 8 12 rfl (yc yt rfl (y1l hz.pv zs9 rfl)) (WD.pA 9 13 rfl (fun _=>y6T rfl rfl rfl) (WD.pA 10 14 rfl (fun _=>yd5 rfl rfl rfl) (WD.pA 11 15 rfl (fun _=>ya y2F rfl rfl) (WD.qA 12 16 rfl (yc yt rfl (y1l hz.pv zs9 rfl)) (WD.pA 13 17 rfl (fun _=>ya y2F rfl rfl) (WD.qA 14 18 rfl (yc yt rfl (y1l hz.pv zsa rfl)) (WD.pA 15 19 rfl (fun _=>y6T rfl rfl rfl) (WD.pA 16 2 rfl (fun _=>q_z rfl) (WD.pA 17 3 rfl (fun _=>q_z rfl) (WD.done (by kernel_rfl) (WX.a (WC.ret ?_))))))))))))))))))))))))))))
 obtain rfl:=oJ h
 refine WX.yf Tryz.results141 (.tmp rfl (.tmp rfl .nil)) (fun w hw=>?_)
 exact⟨y24 rfl rfl,hw.sub .nil⟩
def y8B(zcx:z2)(zcy:z2):Option (z2×Int):=
 (y1L zcx).bind fun zAl=>(if !zAl then some true else(y1L zcy).bind fun zAm=>some (!zAm)).bind fun zmL=>if zmL then some ((⟨0,0⟩:z2),2) else(y91 zcx zcy).bind fun zsb=>(y51 zsb.1 zsb.2).bind fun zsc=>some (zsc.1,zsc.2)
theorem yht(Z:Zp)(zcx:z2)(zcy:z2)(r:z2×Int)(h:y8B zcx zcy=some r)(w₀:World)(hz:PZ [] w₀ Z):
  Calls Tryz.prog 105 #[(.string ⟨#[43]⟩),(.agg #[(.int .i64 zcx.fN),(.int .i64 zcx.fD)]),(.agg #[(.int .i64 zcy.fN),(.int .i64 zcy.fD)])] w₀ fun e w'=>e = .returned (.tuple #[(.agg #[(.int .i64 r.1.fN),(.int .i64 r.1.fD)]),(.int .i64 r.2)])∧Hp [] w₀ w' []:=by
 unfold y8B at h
 refine Calls.on3 Tryz.func105 Tryz.ntmps105 ?_
 refine WC.b (WC.a (WL.nA 4 (yI (cs:=[(.int .i64 zcx.fN),(.int .i64 zcx.fD)]) rfl rfl) ?_))
 intro zjQ _
 refine WL.nA 5 (yI (cs:=[(.int .i64 zcy.fN),(.int .i64 zcy.fD)]) rfl rfl) ?_
 intro zjR _
 refine WL.nA 6 (yv (cs:=[(.int .i64 0),(.int .i64 0)]) zT rfl) ?_
 intro zW8 _
 refine WL.pu rfl (WL.nil (WX.a (WC.b (WC.b ?_))))
 obtain⟨zAl,zJh,h⟩:=z8 h
 obtain⟨zmL,zAn,h⟩:=z8 h
 refine WC.a (WL.qA 9 (yh zf rfl (yi .h2) rfl) (WL.cA 10 (zb Tryz.call80 (.cons rfl .nil)) .nil (cc hz .nil fun w pz ho=>y2s _ _ _ zJh w pz ) (WL.pu rfl (WL.pu rfl (WL.seg false 3 12 (B:=zmL) rfl rfl rfl rfl rfl rfl (fun h=>(oJ (yp zAn h)).symm) (fun _ zJi=>?_) ?_)))))
 ·skip
  have zjS:=yq zAn zJi
  obtain⟨zAm,zJj,zjS⟩:=z8 zjS
  replace zjS:=oJ zjS
  refine WL.qA 13 (yh zf rfl (yi .h1) rfl) (WL.cA 14 (zb Tryz.call80 (.cons rfl .nil)) .nil (cc hz .nil fun w pz ho=>y2s _ _ _ zJj w pz ) (WL.pu rfl (WL.pu rfl ?_)))
  exact WL.yB zjS rfl rfl .all
 refine WL.pu rfl (WL.seg false 7 17 (B:=zmL) rfl rfl rfl rfl rfl rfl (fun h=>h) (fun _ zJk=>?_) ?_)
 ·skip
  refine WL.pu rfl (WL.qA 19 (yc7 (r:=false) (by decide) rfl rfl) (WL.pu rfl (WL.e rfl rfl rfl (WL.e rfl rfl rfl (WL.e rfl rfl rfl (WL.pu rfl (WL.pu rfl ?_)))))))
  exact WL.yB (Eq.symm zJk) rfl rfl .all
 refine WL.nil (WX.a (WC.cond rfl (fun zsd=>?_) (fun zsd=>?_)))
 ·replace h:=yp h zsd
  refine WC.b (WC.a (WL.qA 26 (yL (v:=(.agg #[(.int .i64 0),(.int .i64 0)])) (Eos.parts (l:=[]) .nil []) (fun _=>by kernel_rfl)) (WL.ym rfl rfl (yl zz rfl rfl rfl .here rfl rfl rfl) (WL.pu rfl (WL.nil (WX.a (WC.ret (WX.ye ?_))))))))
  obtain rfl:=oJ h
  refine WX.yf Tryz.results105 (.agg rfl zf rfl (yi .here) (.tmp rfl .nil)) (fun w hw=>?_)
  exact⟨y24 rfl rfl,hw.sub .nil⟩
 ·replace h:=yq h zsd
  refine WC.skip (WX.a (WC.b (WC.a (WL.nA 27 (y4B Value.string (fun x=>x)) ?_))))
  intro zW9 _
  refine WL.qA 28 (y19 (Eos.caps (l:=[.tmp 4,.tmp 5]) (.r2 rfl rfl))) (WL.ym rfl rfl (y3s (k:=⟨#[43]⟩) (v:=(.func (.func 141) #[] #[(.pointer (some ⟨zjQ,0,none⟩)),(.pointer (some ⟨zjR,0,none⟩))])) y3S Tryz.underlying258 rfl rfl rfl rfl .here) (WL.qA 29 (y19 (Eos.caps (l:=[.tmp 4,.tmp 5]) (.r2 rfl rfl))) (WL.ym rfl rfl (y3s (k:=⟨#[45]⟩) (v:=(.func (.func 142) #[] #[(.pointer (some ⟨zjQ,0,none⟩)),(.pointer (some ⟨zjR,0,none⟩))])) y3S Tryz.underlying258 rfl rfl rfl rfl .here) (WL.qA 30 (y19 (Eos.caps (l:=[.tmp 4,.tmp 5]) (.r2 rfl rfl))) (WL.ym rfl rfl (y3s (k:=⟨#[42]⟩) (v:=(.func (.func 143) #[] #[(.pointer (some ⟨zjQ,0,none⟩)),(.pointer (some ⟨zjR,0,none⟩))])) y3S Tryz.underlying258 rfl rfl rfl rfl .here) (WL.qA 31 (y19 (Eos.caps (l:=[.tmp 4,.tmp 5]) (.r2 rfl rfl))) (WL.ym rfl rfl (y3s (k:=⟨#[47]⟩) (v:=(.func (.func 144) #[] #[(.pointer (some ⟨zjQ,0,none⟩)),(.pointer (some ⟨zjR,0,none⟩))])) y3S Tryz.underlying258 rfl rfl rfl rfl .here) (WL.pu rfl (WL.pu rfl (WL.nil (WX.a (WC.b ?_))))))))))))
  obtain⟨zsb,zJl,h⟩:=z8 h
  obtain⟨zsc,zJm,h⟩:=z8 h
  refine WC.a (WL.pu rfl (WL.pu rfl (WL.qA 35 (yc6 (k:=⟨#[43]⟩) (dflt:=.nilFunc) (r:=(.func (.func 141) #[] #[(.pointer (some ⟨zjQ,0,none⟩)),(.pointer (some ⟨zjR,0,none⟩))])) y3S Tryz.underlying258 zlX rfl rfl rfl .here (by rfl)) (WL.cA 36 (y2y (l:=[]) Tryz.call141 rfl .nil) .nil (ccl hz .nil (.s2 .h3 .h2) fun w pz ho la=>ygU _ _ _ _ _ _ zJl w pz ((la _ (.head _) _).stb) ((la _ (.tail _ (.head _)) _).stb)) (WL.pu rfl (WL.pu rfl (WL.cA 39 (zb Tryz.call106 (.r2 rfl rfl)) .nil (cc hz .nil fun w pz ho=>y7X _ _ _ _ zJm w pz ) (WL.pu rfl (WL.pu rfl (WL.ym rfl rfl (yl zz rfl rfl rfl .h1 rfl rfl rfl) (WL.pu rfl (WL.nil (WX.a (WC.ret ?_))))))))))))))
  obtain rfl:=oJ h
  refine WX.yf Tryz.results105 (.agg rfl zf rfl (yi .here) (.tmp rfl .nil)) (fun w hw=>?_)
  exact⟨y24 rfl rfl,hw.sub .nil⟩
def y1e(zen:z2)(zeo:z2):Option (z2×Int):=
 (y8B zen zeo).bind fun zse=>some (zse.1,zse.2)
theorem y65(Z:Zp)(zen:z2)(zeo:z2)(r:z2×Int)(h:y1e zen zeo=some r)(w₀:World)(hz:PZ [] w₀ Z):
  Calls Tryz.prog 69 #[(.agg #[(.int .i64 zen.fN),(.int .i64 zen.fD)]),(.agg #[(.int .i64 zeo.fN),(.int .i64 zeo.fD)])] w₀ fun e w'=>e = .returned (.tuple #[(.agg #[(.int .i64 r.1.fN),(.int .i64 r.1.fD)]),(.int .i64 r.2)])∧Hp [] w₀ w' []:=by
 unfold y1e at h
 refine Calls.yK Tryz.func69 Tryz.ntmps69 ?_
 refine WC.b (WC.a (WL.nA 2 (yI (cs:=[(.int .i64 zen.fN),(.int .i64 zen.fD)]) rfl rfl) ?_))
 intro zWa _
 refine WL.nA 3 (yI (cs:=[(.int .i64 zeo.fN),(.int .i64 zeo.fD)]) rfl rfl) ?_
 intro zWb _
 refine WL.nA 4 (yv (cs:=[(.int .i64 0),(.int .i64 0)]) zT rfl) ?_
 intro zWc _
 refine WL.pu rfl (WL.nil (WX.a (WC.b ?_)))
 obtain⟨zse,zJn,h⟩:=z8 h
 refine WC.a (WL.qA 6 (yh zf rfl (yi .h2) rfl) (WL.qA 7 (yh zf rfl (yi .h1) rfl) (WL.cA 8 (zb Tryz.call105 (.r3 rfl rfl rfl)) .nil (cc hz .nil fun w pz ho=>yht _ _ _ _ zJn w pz ) (WL.pu rfl (WL.pu rfl (WL.ym rfl rfl (yl zz rfl rfl rfl .here rfl rfl rfl) (WL.pu rfl (WL.nil (WX.a (WC.ret ?_))))))))))
 obtain rfl:=oJ h
 refine WX.yf Tryz.results69 (.agg rfl zf rfl (yi .here) (.tmp rfl .nil)) (fun w hw=>?_)
 exact⟨y24 rfl rfl,hw.sub .nil⟩
end Go.Proofs.YtcahmabkeaijdaaGreat
