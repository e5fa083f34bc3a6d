/- A part of this claim's proof: models of functions, walks, plain laws. No conditions. -/
import Derived.Test.YtakfmdiiehcbdaaW03a
namespace Go.Proofs.Ytakfmdiiehcbdaa
open Go Go.RowKit Sep
set_option linter.all false
set_option maxRecDepth 30000
set_option maxHeartbeats 4000000
def y23 (z1o : Type) (z2D : List z1) (z6D : (z1 × z1) → z1o → Option (Bool × z1o)) (z2g : List z1) (z2p : Int) (za7 : z1o → Option z1o) : Nat → Int → z1o → Option z1o
 | 0,_,_=>none
 | zjt + 1,z3h,z6V=>if decide (z3h < ((z2D.length : Nat) : Int)) then chk ((0 : Int) ≤ z3h ∧ z3h < ((z2D.length : Nat) : Int)) ((z6D ((⟨(⟨(((nth z2g z2p).fBurst).fN),(((nth z2g z2p).fBurst).fD)⟩ : z2),(⟨(((nth z2g z2p).fR).fN),(((nth z2g z2p).fR).fD)⟩ : z2)⟩ : z1),(⟨(⟨(((nth z2D z3h).fBurst).fN),(((nth z2D z3h).fBurst).fD)⟩ : z2),(⟨(((nth z2D z3h).fR).fN),(((nth z2D z3h).fR).fD)⟩ : z2)⟩ : z1)) z6V).bind fun zca=>if !zca.1 then some zca.2 else y23 z1o z2D z6D z2g z2p za7 zjt (i64 (z3h + 1)) zca.2) else za7 z6V
theorem y6n {n : Nat} {z1o : Type} {z2D : List z1} {z6D : (z1 × z1) → z1o → Option (Bool × z1o)} {z2g : List z1} {z2p : Int} {za7 : z1o → Option z1o} {z3h : Int} {z6V : z1o} {r : z1o} (h : y23 z1o z2D z6D z2g z2p za7 n z3h z6V = some r) : ∃ m,n = m + 1:=by
 cases n with
 | zero=>cases h
 | succ m=>exact ⟨m,rfl⟩
def y24 (z1o : Type) (z2g : List z1) (z2D : List z1) (z6D : (z1 × z1) → z1o → Option (Bool × z1o)) (za8 : z1o → Option z1o) : Nat → Int → z1o → Option z1o
 | 0,_,_=>none
 | zju + 1,z2p,z7y=>if decide (z2p < ((z2g.length : Nat) : Int)) then jp1 (fun (z9j : z1o)=>y24 z1o z2g z2D z6D za8 zju (i64 (z2p + 1)) z9j) fun zjv=>chk ((0 : Int) ≤ z2p ∧ z2p < ((z2g.length : Nat) : Int)) (jp1 (fun (z9k : z1o)=>zjv z9k) fun za7=>y23 z1o z2D z6D z2g z2p za7 yw 0 z7y) else za8 z7y
theorem y6o {n : Nat} {z1o : Type} {z2g : List z1} {z2D : List z1} {z6D : (z1 × z1) → z1o → Option (Bool × z1o)} {za8 : z1o → Option z1o} {z2p : Int} {z7y : z1o} {r : z1o} (h : y24 z1o z2g z2D z6D za8 n z2p z7y = some r) : ∃ m,n = m + 1:=by
 cases n with
 | zero=>cases h
 | succ m=>exact ⟨m,rfl⟩
def y2V (z1o : Type) (z6D : (z1 × z1) → z1o → Option (Bool × z1o)) (s0_5333 : z1o) (z2g : List z1) (z2D : List z1) : Option z1o :=
 jp1 (fun (za9 : z1o)=>some za9) fun za8=>y24 z1o z2g z2D z6D za8 yw 0 s0_5333
set_option maxRecDepth 20000 in
theorem y89 (Z : Zp) (z1o : Type) (zaa : Nat) (z3W : Type) (z7g : z3W → z1o → Asrt) (zab : z3W → z1o → Prop) (zaY : z3W) (zeS : Addr) (zcb : Option Addr) (zcc : Nat) (zac : Addr) (zgC : Option Addr) (zgD : Nat) (z6D : (z1 × z1) → z1o → Option (Bool × z1o)) (s0_5333 : z1o) (z2g : List z1) (z2D : List z1) (r : z1o) (w₀ : World) (hz : PZ (fps [z7g zaY s0_5333]) w₀ Z)
  (zst : y7i Try.prog Z zaa (α:=z1 × z1) (σ:=z1o) (G:=z3W) (H:=Unit) (fun h x=>[(.agg #[(.int .i64 x.1.fBurst.fN),(.int .i64 x.1.fBurst.fD),(.int .i64 x.1.fR.fN),(.int .i64 x.1.fR.fD)]),(.agg #[(.int .i64 x.2.fBurst.fN),(.int .i64 x.2.fBurst.fD),(.int .i64 x.2.fR.fN),(.int .i64 x.2.fR.fD)])]) (fun h x=>[]) z6D z7g zab)
  (zsu : zab zaY s0_5333)
  (zsv : ZS Z 4 (fun r x=>r = e35 x) zcb zcc z2g)
  (zsw : ZC Z zeS [(.slice zcb z2g.length zcc)])
  (zsx : ZS Z 4 (fun r x=>r = e35 x) zgC zgD z2D)
  (zsy : ZC Z zac [(.slice zgC z2D.length zgD)])
  (h : y2V z1o z6D s0_5333 z2g z2D = some r)
  (hown : Hp (fps [z7g zaY s0_5333]) w₀ w₀ [z7g zaY s0_5333]) :
  Calls Try.prog 89 #[(.func (.yield zaa) #[] #[]),(.pointer (some zeS)),(.pointer (some zac))] w₀ fun e w'=>∃ zo7 : z3W,e = .returned (.tuple #[]) ∧ (zab zo7 r) ∧ Hp (fps [z7g zaY s0_5333]) w₀ w' [z7g zo7 r]:=by
 unfold y2V at h
 refine Calls.yg (vs:=[(.func (.yield zaa) #[] #[]),(.pointer (some zeS)),(.pointer (some zac))]) (pre:=[z7g zaY s0_5333]) (env:=[(0,(.func (.yield zaa) #[] #[])),(1,(.pointer (some zeS))),(2,(.pointer (some zac)))]) Try.func89 rfl Try.ntmps89 rfl (hown) rfl ?_
 refine WC.b ?_
 refine WC.a ?_
 refine WL.a (d:=8) rfl rfl rfl (ye y3b rfl (y3Z hz.pv zsw rfl)) ?_
 refine WL.a (d:=9) rfl rfl rfl (y1k Try.underlying39 rfl) ?_
 refine WL.a (d:=10) rfl rfl rfl (q_m rfl) ?_
 refine WL.nil ?_
 refine WX.a ?_
 obtain ⟨za8,zsz,h⟩:=y1r h
 refine WC.y5V (fun (za9 : z1o) (zdu : z3W)=>(za8 za9 = some r) ∧ (zab zdu za9)) (fun (za9 : z1o) (zdu : z3W)=>[]) (fun (za9 : z1o) (zdu : z3W)=>[z7g zdu za9]) ?_ ?_
 ·skip
  refine WC.block ?_
  refine WC.y48 (fun (zdv : Nat) (z2p : Int) (z7y : z1o) (zaZ : z3W)=>(y24 z1o z2g z2D z6D za8 zdv z2p z7y = some r) ∧ (zab zaZ z7y)) (fun (zdv : Nat) (z2p : Int) (z7y : z1o) (zaZ : z3W)=>[(0,(.func (.yield zaa) #[] #[])),(2,(.pointer (some zac))),(8,(.slice zcb z2g.length zcc)),(9,(.int .i64 ((z2g.length : Nat) : Int))),(10,(.int .i64 z2p))]) (fun (zdv : Nat) (z2p : Int) (z7y : z1o) (zaZ : z3W)=>[z7g zaZ z7y]) (fun (zdv : Nat) (z2p : Int) (z7y : z1o) (zaZ : z3W)=>zdv) ⟨yw,0,s0_5333,zaY⟩ ⟨h,zsu⟩ (.cons rfl (.cons rfl (.cons rfl (.cons rfl (.cons rfl .nil))))) (.cons .here .nil) ?_
  rintro zdv z2p z7y zaZ ⟨h,zo8⟩
  obtain ⟨zju,rfl⟩:=y6o h
  rw [y24] at h
  refine WC.b ?_
  refine WC.a ?_
  refine WL.a (d:=11) rfl rfl rfl (y1h rfl rfl) ?_
  refine WL.nil ?_
  refine WX.a ?_
  refine WC.b ?_
  refine WC.cond rfl (fun zjw=>?_) (fun zjw=>?_)
  ·replace h:=yj h zjw
   refine WC.skip ?_
   refine WX.a ?_
   obtain ⟨zjv,zsA,h⟩:=y1r h
   refine WC.y3h (fun (z9j : z1o) (zdw : z3W)=>(zjv z9j = some r) ∧ (zab zdw z9j)) (fun (z9j : z1o) (zdw : z3W)=>[(0,(.func (.yield zaa) #[] #[])),(2,(.pointer (some zac))),(8,(.slice zcb z2g.length zcc)),(9,(.int .i64 ((z2g.length : Nat) : Int))),(10,(.int .i64 z2p))]) (fun (z9j : z1o) (zdw : z3W)=>[z7g zdw z9j]) ?_ ?_
   ·skip
    refine WC.block ?_
    refine WC.b ?_
    obtain ⟨zsB,h⟩:=yp h
    refine WC.a ?_
    refine WL.znth (dd:=12) rfl rfl (Z:=Z) (Pr:=(fun r x=>r = e35 x)) y2j rfl rfl zsv zsB ?_
    rintro zzD zzE zsC zzF rfl
    refine WL.a (d:=13) rfl rfl rfl (y6 (cs:=[(.int .i64 (((nth z2g z2p).fBurst).fN)),(.int .i64 (((nth z2g z2p).fBurst).fD)),(.int .i64 (((nth z2g z2p).fR).fN)),(.int .i64 (((nth z2g z2p).fR).fD))]) y1D rfl rfl (y2T hz.pv zsC)) ?_
    refine WL.new (dd:=5) rfl rfl rfl (yh (cs:=[(.int .i64 0),(.int .i64 0),(.int .i64 0),(.int .i64 0)]) y3H rfl) ?_
    intro zo9 _
    refine WL.yc rfl rfl (yd (vs:=[(.int .i64 (((nth z2g z2p).fBurst).fN)),(.int .i64 (((nth z2g z2p).fBurst).fD)),(.int .i64 (((nth z2g z2p).fR).fN)),(.int .i64 (((nth z2g z2p).fR).fD))]) (ds:=[(.int .i64 (((nth z2g z2p).fBurst).fN)),(.int .i64 (((nth z2g z2p).fBurst).fD)),(.int .i64 (((nth z2g z2p).fR).fN)),(.int .i64 (((nth z2g z2p).fR).fD))]) y3V rfl rfl rfl rfl (y3 rfl (y3 rfl (y3 rfl (y3 rfl yf)))) .here (Nat.le_of_ble_eq_true rfl) rfl) ?_
    refine WL.nil ?_
    refine WX.a ?_
    refine WC.b ?_
    refine WC.a ?_
    refine WL.a (d:=14) rfl rfl rfl (ye y3b rfl (y3Z hz.pv zsy rfl)) ?_
    refine WL.a (d:=15) rfl rfl rfl (y1k Try.underlying39 rfl) ?_
    refine WL.a (d:=16) rfl rfl rfl (q_m rfl) ?_
    refine WL.nil ?_
    refine WX.a ?_
    obtain ⟨za7,zsD,h⟩:=y1r h
    refine WC.y5V (fun (z9k : z1o) (zdx : z3W)=>(za7 z9k = some r) ∧ (zab zdx z9k)) (fun (z9k : z1o) (zdx : z3W)=>[(0,(.func (.yield zaa) #[] #[])),(2,(.pointer (some zac))),(8,(.slice zcb z2g.length zcc)),(9,(.int .i64 ((z2g.length : Nat) : Int))),(10,(.int .i64 z2p))]) (fun (z9k : z1o) (zdx : z3W)=>[z7g zdx z9k]) ?_ ?_
    ·skip
     refine WC.block ?_
     refine WC.y48 (fun (zdy : Nat) (z3h : Int) (z6V : z1o) (z9l : z3W)=>(y23 z1o z2D z6D z2g z2p za7 zdy z3h z6V = some r) ∧ (zab z9l z6V)) (fun (zdy : Nat) (z3h : Int) (z6V : z1o) (z9l : z3W)=>[(0,(.func (.yield zaa) #[] #[])),(2,(.pointer (some zac))),(5,(.pointer (some ⟨zo9,0,none⟩))),(8,(.slice zcb z2g.length zcc)),(9,(.int .i64 ((z2g.length : Nat) : Int))),(10,(.int .i64 z2p)),(14,(.slice zgC z2D.length zgD)),(15,(.int .i64 ((z2D.length : Nat) : Int))),(16,(.int .i64 z3h))]) (fun (zdy : Nat) (z3h : Int) (z6V : z1o) (z9l : z3W)=>[stb zo9 35 [(.int .i64 (((nth z2g z2p).fBurst).fN)),(.int .i64 (((nth z2g z2p).fBurst).fD)),(.int .i64 (((nth z2g z2p).fR).fN)),(.int .i64 (((nth z2g z2p).fR).fD))],z7g z9l z6V]) (fun (zdy : Nat) (z3h : Int) (z6V : z1o) (z9l : z3W)=>zdy) ⟨yw,0,z7y,zaZ⟩ ⟨h,zo8⟩ (.cons rfl (.cons rfl (.cons rfl (.cons rfl (.cons rfl (.cons rfl (.cons rfl (.cons rfl (.cons rfl .nil))))))))) (.cons .here (.cons .here .nil)) ?_
     rintro zdy z3h z6V z9l ⟨h,zoa⟩
     obtain ⟨zjt,rfl⟩:=y6n h
     rw [y23] at h
     refine WC.b ?_
     refine WC.a ?_
     refine WL.a (d:=17) rfl rfl rfl (y1h rfl rfl) ?_
     refine WL.nil ?_
     refine WX.a ?_
     refine WC.b ?_
     refine WC.cond rfl (fun zjx=>?_) (fun zjx=>?_)
     ·replace h:=yj h zjx
      refine WC.skip ?_
      refine WX.a ?_
      refine WC.b ?_
      refine WC.block ?_
      refine WC.b ?_
      obtain ⟨zsE,h⟩:=yp h
      refine WC.a ?_
      refine WL.znth (dd:=18) rfl rfl (Z:=Z) (Pr:=(fun r x=>r = e35 x)) y2j rfl rfl zsx zsE ?_
      rintro zzG zzH zsF zzI rfl
      refine WL.a (d:=19) rfl rfl rfl (y6 (cs:=[(.int .i64 (((nth z2D z3h).fBurst).fN)),(.int .i64 (((nth z2D z3h).fBurst).fD)),(.int .i64 (((nth z2D z3h).fR).fN)),(.int .i64 (((nth z2D z3h).fR).fD))]) y1D rfl rfl (y2T hz.pv zsF)) ?_
      refine WL.new (dd:=7) rfl rfl rfl (yh (cs:=[(.int .i64 0),(.int .i64 0),(.int .i64 0),(.int .i64 0)]) y3H rfl) ?_
      intro zzJ _
      refine WL.yc rfl rfl (yd (vs:=[(.int .i64 (((nth z2D z3h).fBurst).fN)),(.int .i64 (((nth z2D z3h).fBurst).fD)),(.int .i64 (((nth z2D z3h).fR).fN)),(.int .i64 (((nth z2D z3h).fR).fD))]) (ds:=[(.int .i64 (((nth z2D z3h).fBurst).fN)),(.int .i64 (((nth z2D z3h).fBurst).fD)),(.int .i64 (((nth z2D z3h).fR).fN)),(.int .i64 (((nth z2D z3h).fR).fD))]) y3V rfl rfl rfl rfl (y3 rfl (y3 rfl (y3 rfl (y3 rfl yf)))) .here (Nat.le_of_ble_eq_true rfl) rfl) ?_
      refine WL.nil ?_
      refine WX.a ?_
      refine WC.b ?_
      obtain ⟨zca,zsG,h⟩:=zb h
      refine WC.a ?_
      refine WL.a (d:=20) rfl rfl rfl (q_m rfl) ?_
      refine WL.a (d:=21) rfl rfl rfl (y6 (cs:=[(.int .i64 (((nth z2g z2p).fBurst).fN)),(.int .i64 (((nth z2g z2p).fBurst).fD)),(.int .i64 (((nth z2g z2p).fR).fN)),(.int .i64 (((nth z2g z2p).fR).fD))]) y1D rfl rfl (y7 .h1)) ?_
      refine WL.a (d:=22) rfl rfl rfl (y6 (cs:=[(.int .i64 (((nth z2D z3h).fBurst).fN)),(.int .i64 (((nth z2D z3h).fBurst).fD)),(.int .i64 (((nth z2D z3h).fR).fN)),(.int .i64 (((nth z2D z3h).fR).fD))]) y1D rfl rfl (y7 .here)) ?_
      refine WL.yield (dd:=23) (x:=((⟨(⟨(((nth z2g z2p).fBurst).fN),(((nth z2g z2p).fBurst).fD)⟩ : z2),(⟨(((nth z2g z2p).fR).fN),(((nth z2g z2p).fR).fD)⟩ : z2)⟩ : z1),(⟨(⟨(((nth z2D z3h).fBurst).fN),(((nth z2D z3h).fBurst).fD)⟩ : z2),(⟨(((nth z2D z3h).fR).fN),(((nth z2D z3h).fR).fD)⟩ : z2)⟩ : z1))) (h:=()) (g:=z9l) (s:=z6V) (b:=zca.1) (s':=zca.2) zst rfl rfl rfl (.cons rfl (.cons rfl .nil)) ((.cons .h2 .nil) : Sel _ [z7g z9l z6V] _) zsG zoa (fun w hw=>hz.call hw ((.cons .h2 .nil) : Sel _ [z7g z9l z6V] _)) ?_
      intro zob zoc
      refine WL.a (d:=24) rfl rfl rfl (y1n rfl) ?_
      refine WL.nil ?_
      refine WX.a ?_
      refine WC.cond rfl (fun zjy=>?_) (fun zjy=>?_)
      ·replace h:=yj h zjy
       refine WC.ret ?_
       refine WX.yt ?_
       refine WX.y8 ?_
       refine WX.y8 ?_
       refine WX.yt ?_
       refine WX.y8 ?_
       refine WX.yt ?_
       refine WX.y8 ?_
       refine WX.y8 ?_
       refine WX.yt ?_
       refine WX.y8 ?_
       obtain rfl:=Option.some.inj h
       refine WX.y9 Try.results89 .nil (fun w hw=>?_)
       exact ⟨zob,y5r,zoc,hw.sub (.cons .here .nil)⟩
      ·replace h:=yk h zjy
       refine WC.skip ?_
       refine WX.yn ?_
       refine WX.a ?_
       refine WC.a ?_
       refine WL.a (d:=25) rfl rfl rfl (y1d rfl rfl rfl) ?_
       refine WL.a (d:=16) rfl rfl rfl (q_m rfl) ?_
       refine WL.nil ?_
       exact WX.round (G:=Nat × Int × z1o × z3W) ⟨zjt,(i64 (z3h + 1)),zca.2,zob⟩ ⟨h,zoc⟩ (Nat.lt_succ_self _) (.cons rfl (.cons rfl (.cons rfl (.cons rfl (.cons rfl (.cons rfl (.cons rfl (.cons rfl (.cons rfl .nil))))))))) (.cons .h2 (.cons .here .nil))
     ·replace h:=yk h zjx
      refine WC.exit ?_
      refine WX.ym ?_
      refine WX.ym ?_
      refine WX.yH ?_
      exact WX.mid (G:=z1o × z3W) ⟨z6V,z9l⟩ ⟨h,zoa⟩ (.cons rfl (.cons rfl (.cons rfl (.cons rfl (.cons rfl .nil))))) (.cons .h1 .nil)
    ·rintro z9k zdx ⟨h,zsH⟩
     replace h:=(zsD z9k).symm.trans h
     refine WX.yn ?_
     exact WX.mid (G:=z1o × z3W) ⟨z9k,zdx⟩ ⟨h,zsH⟩ (.cons rfl (.cons rfl (.cons rfl (.cons rfl (.cons rfl .nil))))) (.cons .here .nil)
   ·rintro z9j zdw ⟨h,zsI⟩
    replace h:=(zsA z9j).symm.trans h
    refine WC.a ?_
    refine WL.a (d:=26) rfl rfl rfl (y1d rfl rfl rfl) ?_
    refine WL.a (d:=10) rfl rfl rfl (q_m rfl) ?_
    refine WL.nil ?_
    exact WX.round (G:=Nat × Int × z1o × z3W) ⟨zju,(i64 (z2p + 1)),z9j,zdw⟩ ⟨h,zsI⟩ (Nat.lt_succ_self _) (.cons rfl (.cons rfl (.cons rfl (.cons rfl (.cons rfl .nil))))) (.cons .here .nil)
  ·replace h:=yk h zjw
   refine WC.exit ?_
   refine WX.ym ?_
   refine WX.ym ?_
   refine WX.yH ?_
   exact WX.mid (G:=z1o × z3W) ⟨z7y,zaZ⟩ ⟨h,zo8⟩ .nil (.cons .here .nil)
 ·rintro za9 zdu ⟨h,zsJ⟩
  replace h:=(zsz za9).symm.trans h
  obtain rfl:=Option.some.inj h
  refine WX.y4u Try.results89 .nil (fun w hw=>?_)
  exact ⟨zdu,y5r,zsJ,hw.sub (.cons .here .nil)⟩
def y5F (zb0 : z2) (zb1 : z2) : Option (Int × Int) :=
 some ((i64 ((i64 (zb0.fN * zb1.fD)) - (i64 (zb1.fN * zb0.fD)))),(i64 (zb0.fD * zb1.fD)))
set_option maxRecDepth 20000 in
theorem y9Q (Z : Zp)  (zeT : Addr) (zeU : Addr) (zb0 : z2) (zb1 : z2) (r : Int × Int) (w₀ : World) (hz : PZ [] w₀ Z)
  (zjz : ZC Z zeT [(.int .i64 zb0.fN),(.int .i64 zb0.fD)])
  (zjA : ZC Z zeU [(.int .i64 zb1.fN),(.int .i64 zb1.fD)])
  (h : y5F zb0 zb1 = some r) :
  Calls Try.prog 55 #[(.pointer (some zeT)),(.pointer (some zeU))] w₀ fun e w'=>e = .returned (.tuple #[(.int .i64 r.1),(.int .i64 r.2)]) ∧ Hp [] w₀ w' []:=by
 unfold y5F at h
 refine Calls.yg (vs:=[(.pointer (some zeT)),(.pointer (some zeU))]) (pre:=[]) (env:=[(0,(.pointer (some zeT))),(1,(.pointer (some zeU)))]) Try.func55 rfl Try.ntmps55 rfl (Hp.nil w₀ _) rfl ?_
 refine WC.b ?_
 refine WC.a ?_
 refine WL.a (d:=2) rfl rfl rfl (q_z rfl) ?_
 refine WL.a (d:=3) rfl rfl rfl (q_z rfl) ?_
 refine WL.nil ?_
 refine WX.a ?_
 refine WC.b ?_
 refine WC.y1e (fun i=>[].contains i) [] rfl ?_
 refine WD.a (i:=0) (d:=4) (by kernel_rfl) rfl (z6 (by kernel_rfl)) (z7 (by kernel_rfl)) rfl rfl rfl (fun _=>y4 y1J rfl rfl) ?_
 refine WD.e (i:=1) (d:=5) (by kernel_rfl) rfl (z6 (by kernel_rfl)) (z7 (by kernel_rfl)) rfl rfl rfl (ye yx rfl (y1O hz.pv zjz rfl)) ?_
 refine WD.a (i:=2) (d:=6) (by kernel_rfl) rfl (z6 (by kernel_rfl)) (z7 (by kernel_rfl)) rfl rfl rfl (fun _=>y4 y21 rfl rfl) ?_
 refine WD.e (i:=3) (d:=7) (by kernel_rfl) rfl (z6 (by kernel_rfl)) (z7 (by kernel_rfl)) rfl rfl rfl (ye yx rfl (y1O hz.pv zjA rfl)) ?_
 refine WD.a (i:=4) (d:=8) (by kernel_rfl) rfl (z6 (by kernel_rfl)) (z7 (by kernel_rfl)) rfl rfl rfl (fun _=>y4d rfl rfl rfl) ?_
 refine WD.a (i:=5) (d:=9) (by kernel_rfl) rfl (z6 (by kernel_rfl)) (z7 (by kernel_rfl)) rfl rfl rfl (fun _=>y4 y1J rfl rfl) ?_
 refine WD.e (i:=6) (d:=10) (by kernel_rfl) rfl (z6 (by kernel_rfl)) (z7 (by kernel_rfl)) rfl rfl rfl (ye yx rfl (y1O hz.pv zjA rfl)) ?_
 refine WD.a (i:=7) (d:=11) (by kernel_rfl) rfl (z6 (by kernel_rfl)) (z7 (by kernel_rfl)) rfl rfl rfl (fun _=>y4 y21 rfl rfl) ?_
 refine WD.e (i:=8) (d:=12) (by kernel_rfl) rfl (z6 (by kernel_rfl)) (z7 (by kernel_rfl)) rfl rfl rfl (ye yx rfl (y1O hz.pv zjz rfl)) ?_
 refine WD.a (i:=9) (d:=13) (by kernel_rfl) rfl (z6 (by kernel_rfl)) (z7 (by kernel_rfl)) rfl rfl rfl (fun _=>y4d rfl rfl rfl) ?_
 refine WD.a (i:=10) (d:=14) (by kernel_rfl) rfl (z6 (by kernel_rfl)) (z7 (by kernel_rfl)) rfl rfl rfl (fun _=>y7y rfl rfl rfl) ?_
 refine WD.a (i:=11) (d:=15) (by kernel_rfl) rfl (z6 (by kernel_rfl)) (z7 (by kernel_rfl)) rfl rfl rfl (fun _=>y4 y21 rfl rfl) ?_
 refine WD.e (i:=12) (d:=16) (by kernel_rfl) rfl (z6 (by kernel_rfl)) (z7 (by kernel_rfl)) rfl rfl rfl (ye yx rfl (y1O hz.pv zjz rfl)) ?_
 refine WD.a (i:=13) (d:=17) (by kernel_rfl) rfl (z6 (by kernel_rfl)) (z7 (by kernel_rfl)) rfl rfl rfl (fun _=>y4 y21 rfl rfl) ?_
 refine WD.e (i:=14) (d:=18) (by kernel_rfl) rfl (z6 (by kernel_rfl)) (z7 (by kernel_rfl)) rfl rfl rfl (ye yx rfl (y1O hz.pv zjA rfl)) ?_
 refine WD.a (i:=15) (d:=19) (by kernel_rfl) rfl (z6 (by kernel_rfl)) (z7 (by kernel_rfl)) rfl rfl rfl (fun _=>y4d rfl rfl rfl) ?_
 refine WD.a (i:=16) (d:=2) (by kernel_rfl) rfl (z6 (by kernel_rfl)) (z7 (by kernel_rfl)) rfl rfl rfl (fun _=>q_z rfl) ?_
 refine WD.a (i:=17) (d:=3) (by kernel_rfl) rfl (z6 (by kernel_rfl)) (z7 (by kernel_rfl)) rfl rfl rfl (fun _=>q_z rfl) ?_
 refine WD.done (by kernel_rfl) ?_
 refine WX.a ?_
 refine WC.ret ?_
 obtain rfl:=Option.some.inj h
 refine WX.y9 Try.results55 (.tmp rfl (.tmp rfl .nil)) (fun w hw=>?_)
 exact ⟨y1I rfl rfl,hw.sub .nil⟩
def y20 (z6E : Int) (z67 : Int) : Option (z2 × Int) :=
 if decide (z67 = 0) then some ((⟨0,0⟩ : z2),2) else (y3j z6E).bind fun z6F=>(y3j z67).bind fun z6W=>(y2J z6F z6W).bind fun z3X=>chk ((z3X : Int) ≠ 0) (if (decide ((u64 (Int.tdiv z6F z3X)) > 1073741824)) || (decide ((u64 (Int.tdiv z6W z3X)) > 1073741824)) then some ((⟨0,0⟩ : z2),3) else jp1 (fun (z8R : Int)=>some ((⟨z8R,i64 (u64 (Int.tdiv z6W z3X))⟩ : z2),0)) fun zgE=>if (decide (z6E < 0)) != (decide (z67 < 0)) then zgE (i64 (0 - (i64 (u64 (Int.tdiv z6F z3X))))) else zgE (i64 (u64 (Int.tdiv z6F z3X))))
set_option maxRecDepth 20000 in
theorem y3k (Z : Zp)   (z6E : Int) (z67 : Int) (r : z2 × Int) (w₀ : World) (hz : PZ [] w₀ Z)
  (h : y20 z6E z67 = some r) :
  Calls Try.prog 9 #[(.int .i64 z6E),(.int .i64 z67)] w₀ fun e w'=>e = .returned (.tuple #[(.agg #[(.int .i64 r.1.fN),(.int .i64 r.1.fD)]),(.int .i64 r.2)]) ∧ Hp [] w₀ w' []:=by
 unfold y20 at h
 refine Calls.yg (vs:=[(.int .i64 z6E),(.int .i64 z67)]) (pre:=[]) (env:=[(0,(.int .i64 z6E)),(1,(.int .i64 z67))]) Try.func9 rfl Try.ntmps9 rfl (Hp.nil w₀ _) rfl ?_
 refine WC.b ?_
 refine WC.a ?_
 refine WL.new (dd:=4) rfl rfl rfl (yh (cs:=[(.int .i64 0),(.int .i64 0)]) yo rfl) ?_
 intro z6X _
 refine WL.a (d:=5) rfl rfl rfl (q_z rfl) ?_
 refine WL.nil ?_
 refine WX.a ?_
 refine WC.b ?_
 refine WC.b ?_
 refine WC.a ?_
 refine WL.a (d:=10) rfl rfl rfl (q_m rfl) ?_
 refine WL.a (d:=11) rfl rfl rfl (y3g rfl rfl) ?_
 refine WL.nil ?_
 refine WX.a ?_
 refine WC.cond rfl (fun zjB=>?_) (fun zjB=>?_)
 ·replace h:=yj h zjB
  refine WC.b ?_
  refine WC.a ?_
  refine WL.a (d:=12) rfl rfl rfl (y1j (v:=(.agg #[(.int .i64 0),(.int .i64 0)])) (Eos.parts (l:=[]) .nil []) (fun _=>by kernel_rfl)) ?_
  refine WL.yc rfl rfl (yd (vs:=[(.int .i64 0),(.int .i64 0)]) (ds:=[(.int .i64 0),(.int .i64 0)]) yl rfl rfl rfl rfl (y3 rfl (y3 rfl yf)) .here (Nat.le_of_ble_eq_true rfl) rfl) ?_
  refine WL.a (d:=5) rfl rfl rfl (q_z rfl) ?_
  refine WL.nil ?_
  refine WX.a ?_
  refine WC.ret ?_
  refine WX.y8 ?_
  obtain rfl:=Option.some.inj h
  refine WX.y9 Try.results9 (.agg rfl y5 rfl (y7 .here) (.tmp rfl .nil)) (fun w hw=>?_)
  exact ⟨y1I rfl rfl,hw.sub .nil⟩
 ·replace h:=yk h zjB
  refine WC.skip ?_
  refine WX.a ?_
  refine WC.b ?_
  obtain ⟨z6F,zsK,h⟩:=zb h
  obtain ⟨z6W,zsL,h⟩:=zb h
  refine WC.a ?_
  refine WL.a (d:=13) rfl rfl rfl (q_m rfl) ?_
  refine WL.b (dd:=14) rfl rfl rfl (zl (l:=[.tmp 13]) Try.call28 (.cons rfl .nil)) (.nil : Sel [stb z6X 30 [(.int .i64 0),(.int .i64 0)]] [] [stb z6X 30 [(.int .i64 0),(.int .i64 0)]]) (fun w hw=>by have pz:=(hz.call hw (.nil : Sel [stb z6X 30 [(.int .i64 0),(.int .i64 0)]] [] [stb z6X 30 [(.int .i64 0),(.int .i64 0)]])); exact y5E (Z:=_)  (z8d:=z6E) (r:=z6F) w pz  zsK) ?_
  refine WL.a (d:=15) rfl rfl rfl (q_m rfl) ?_
  refine WL.b (dd:=16) rfl rfl rfl (zl (l:=[.tmp 15]) Try.call28 (.cons rfl .nil)) (.nil : Sel [stb z6X 30 [(.int .i64 0),(.int .i64 0)]] [] [stb z6X 30 [(.int .i64 0),(.int .i64 0)]]) (fun w hw=>by have pz:=(hz.call hw (.nil : Sel [stb z6X 30 [(.int .i64 0),(.int .i64 0)]] [] [stb z6X 30 [(.int .i64 0),(.int .i64 0)]])); exact y5E (Z:=_)  (z8d:=z67) (r:=z6W) w pz  zsL) ?_
  refine WL.a (d:=6) rfl rfl rfl (q_z rfl) ?_
  refine WL.a (d:=7) rfl rfl rfl (q_z rfl) ?_
  refine WL.nil ?_
  refine WX.a ?_
  refine WC.b ?_
  obtain ⟨z3X,zsM,h⟩:=zb h
  refine WC.a ?_
  refine WL.a (d:=17) rfl rfl rfl (q_m rfl) ?_
  refine WL.a (d:=18) rfl rfl rfl (q_m rfl) ?_
  refine WL.b (dd:=19) rfl rfl rfl (zl (l:=[.tmp 17,.tmp 18]) Try.call29 (.cons rfl (.cons rfl .nil))) (.nil : Sel [stb z6X 30 [(.int .i64 0),(.int .i64 0)]] [] [stb z6X 30 [(.int .i64 0),(.int .i64 0)]]) (fun w hw=>by have pz:=(hz.call hw (.nil : Sel [stb z6X 30 [(.int .i64 0),(.int .i64 0)]] [] [stb z6X 30 [(.int .i64 0),(.int .i64 0)]])); exact y6a (Z:=_)  (z9Q:=z6F) (z9R:=z6W) (r:=z3X) w pz  zsM) ?_
  refine WL.a (d:=8) rfl rfl rfl (q_z rfl) ?_
  refine WL.nil ?_
  refine WX.a ?_
  refine WC.b ?_
  obtain ⟨zod,h⟩:=yp h
  refine WC.y1e (fun i=>[].contains i) [] rfl ?_
  refine WD.a (i:=0) (d:=20) (by kernel_rfl) rfl (z6 (by kernel_rfl)) (z7 (by kernel_rfl)) rfl rfl rfl (fun _=>q_m rfl) ?_
  refine WD.a (i:=1) (d:=21) (by kernel_rfl) rfl (z6 (by kernel_rfl)) (z7 (by kernel_rfl)) rfl rfl rfl (fun _=>q_m rfl) ?_
  refine WD.a (i:=2) (d:=22) (by kernel_rfl) rfl (z6 (by kernel_rfl)) (z7 (by kernel_rfl)) rfl rfl rfl (fun _=>q_quo rfl rfl zod rfl) ?_
  refine WD.a (i:=3) (d:=23) (by kernel_rfl) rfl (z6 (by kernel_rfl)) (z7 (by kernel_rfl)) rfl rfl rfl (fun _=>q_m rfl) ?_
  refine WD.a (i:=4) (d:=24) (by kernel_rfl) rfl (z6 (by kernel_rfl)) (z7 (by kernel_rfl)) rfl rfl rfl (fun _=>q_m rfl) ?_
  refine WD.a (i:=5) (d:=25) (by kernel_rfl) rfl (z6 (by kernel_rfl)) (z7 (by kernel_rfl)) rfl rfl rfl (fun _=>q_quo rfl rfl zod rfl) ?_
  refine WD.a (i:=6) (d:=6) (by kernel_rfl) rfl (z6 (by kernel_rfl)) (z7 (by kernel_rfl)) rfl rfl rfl (fun _=>q_z rfl) ?_
  refine WD.a (i:=7) (d:=7) (by kernel_rfl) rfl (z6 (by kernel_rfl)) (z7 (by kernel_rfl)) rfl rfl rfl (fun _=>q_z rfl) ?_
  refine WD.done (by kernel_rfl) ?_
  refine WX.a ?_
  refine WC.b ?_
  refine WC.b ?_
  refine WC.a ?_
  refine WL.a (d:=26) rfl rfl rfl (q_m rfl) ?_
  refine WL.a (d:=27) rfl rfl rfl (y3f rfl rfl) ?_
  refine WL.a (d:=28) rfl rfl rfl (q_m rfl) ?_
  refine WL.yF True [(0,(.int .i64 z6E)),(1,(.int .i64 z67)),(4,(.pointer (some ⟨z6X,0,none⟩))),(6,(.int .u64 (u64 (Int.tdiv z6F z3X)))),(7,(.int .u64 (u64 (Int.tdiv z6W z3X)))),(31,(.bool ((decide ((u64 (Int.tdiv z6F z3X)) > 1073741824)) || (decide ((u64 (Int.tdiv z6W z3X)) > 1073741824)))))] [stb z6X 30 [(.int .i64 0),(.int .i64 0)]] 3 ?_ (fun _=>?_)
  ·rcases Bool.eq_false_or_eq_true (decide ((u64 (Int.tdiv z6F z3X)) > 1073741824)) with hb' | hb'
   ·have zoe:=hb'; clear hb'
    refine WL.pin (i:=28) rfl zoe ?_
    refine WL.e rfl rfl rfl ?_
    refine WL.e rfl rfl rfl ?_
    refine WL.a (d:=31) rfl rfl rfl (ys rfl rfl) ?_
    exact WL.ya () trivial (.cons rfl (.cons rfl (.cons rfl (.cons rfl (.cons rfl (.cons (zt (y5s zoe)) .nil)))))) (.cons .here .nil)
   ·have zof:=hb'; clear hb'
    refine WL.pin (i:=28) rfl zof ?_
    refine WL.a (d:=29) rfl rfl rfl (q_m rfl) ?_
    refine WL.a (d:=30) rfl rfl rfl (y3f rfl rfl) ?_
    refine WL.a (d:=31) rfl rfl rfl (yr rfl rfl) ?_
    exact WL.ya () trivial (.cons rfl (.cons rfl (.cons rfl (.cons rfl (.cons rfl (.cons (zt (y5t zof)) .nil)))))) (.cons .here .nil)
  ·skip
   refine WL.nil ?_
   refine WX.a ?_
   refine WC.cond rfl (fun zjC=>?_) (fun zjC=>?_)
   ·replace h:=yj h zjC
    refine WC.b ?_
    refine WC.a ?_
    refine WL.a (d:=32) rfl rfl rfl (y1j (v:=(.agg #[(.int .i64 0),(.int .i64 0)])) (Eos.parts (l:=[]) .nil []) (fun _=>by kernel_rfl)) ?_
    refine WL.yc rfl rfl (yd (vs:=[(.int .i64 0),(.int .i64 0)]) (ds:=[(.int .i64 0),(.int .i64 0)]) yl rfl rfl rfl rfl (y3 rfl (y3 rfl yf)) .here (Nat.le_of_ble_eq_true rfl) rfl) ?_
    refine WL.a (d:=5) rfl rfl rfl (q_z rfl) ?_
    refine WL.nil ?_
    refine WX.a ?_
    refine WC.ret ?_
    refine WX.y8 ?_
    obtain rfl:=Option.some.inj h
    refine WX.y9 Try.results9 (.agg rfl y5 rfl (y7 .here) (.tmp rfl .nil)) (fun w hw=>?_)
    exact ⟨y1I rfl rfl,hw.sub .nil⟩
   ·replace h:=yk h zjC
    refine WC.skip ?_
    refine WX.a ?_
    refine WC.b ?_
    refine WC.a ?_
    refine WL.a (d:=33) rfl rfl rfl (q_m rfl) ?_
    refine WL.a (d:=34) rfl rfl rfl (y47 Try.underlying71 Try.underlying3 rfl rfl) ?_
    refine WL.a (d:=35) rfl rfl rfl (q_m rfl) ?_
    refine WL.a (d:=36) rfl rfl rfl (y47 Try.underlying71 Try.underlying3 rfl rfl) ?_
    refine WL.a (d:=37) rfl rfl rfl (y1j (v:=(.agg #[(.int .i64 (i64 (u64 (Int.tdiv z6F z3X)))),(.int .i64 (i64 (u64 (Int.tdiv z6W z3X))))])) (Eos.parts (l:=[.tmp 34,.tmp 36]) (.cons rfl (.cons rfl .nil)) [0,1]) (fun _=>by kernel_rfl)) ?_
    refine WL.new (dd:=9) rfl rfl rfl (yh (cs:=[(.int .i64 0),(.int .i64 0)]) yo rfl) ?_
    intro zog _
    refine WL.yc rfl rfl (yd (vs:=[(.int .i64 (i64 (u64 (Int.tdiv z6F z3X)))),(.int .i64 (i64 (u64 (Int.tdiv z6W z3X))))]) (ds:=[(.int .i64 (i64 (u64 (Int.tdiv z6F z3X)))),(.int .i64 (i64 (u64 (Int.tdiv z6W z3X))))]) yl rfl rfl rfl rfl (y3 rfl (y3 rfl yf)) .here (Nat.le_of_ble_eq_true rfl) rfl) ?_
    refine WL.nil ?_
    refine WX.a ?_
    obtain ⟨zgE,zsN,h⟩:=y1r h
    refine WC.y4f (fun (z8R : Int)=>(zgE z8R = some r)) (fun (z8R : Int)=>[(4,(.pointer (some ⟨z6X,0,none⟩))),(9,(.pointer (some ⟨zog,0,none⟩)))]) (fun (z8R : Int)=>[stb z6X 30 [(.int .i64 0),(.int .i64 0)],stb zog 30 [(.int .i64 z8R),(.int .i64 (i64 (u64 (Int.tdiv z6W z3X))))]]) ?_ ?_
    ·skip
     refine WC.b ?_
     refine WC.a ?_
     refine WL.a (d:=38) rfl rfl rfl (q_m rfl) ?_
     refine WL.a (d:=39) rfl rfl rfl (y1h rfl rfl) ?_
     refine WL.a (d:=40) rfl rfl rfl (q_m rfl) ?_
     refine WL.a (d:=41) rfl rfl rfl (y1h rfl rfl) ?_
     refine WL.a (d:=42) rfl rfl rfl (q_bneq Try.underlying4 rfl rfl) ?_
     refine WL.nil ?_
     refine WX.a ?_
     refine WC.cond rfl (fun zjD=>?_) (fun zjD=>?_)
     ·replace h:=yj h zjD
      refine WC.a ?_
      refine WL.a (d:=43) rfl rfl rfl (y4 y1J rfl rfl) ?_
      refine WL.a (d:=44) rfl rfl rfl (ye yx rfl (yu .here rfl)) ?_
      refine WL.a (d:=45) rfl rfl rfl (q_neg rfl rfl) ?_
      refine WL.a (d:=46) rfl rfl rfl (y4 y1J rfl rfl) ?_
      refine WL.yc rfl rfl (yd (vs:=[(.int .i64 (i64 (0 - (i64 (u64 (Int.tdiv z6F z3X))))))]) (ds:=[(.int .i64 (i64 (0 - (i64 (u64 (Int.tdiv z6F z3X)))))),(.int .i64 (i64 (u64 (Int.tdiv z6W z3X))))]) sizT_3 rfl rfl rfl rfl (y3 rfl yf) .here (Nat.le_of_ble_eq_true rfl) rfl) ?_
      refine WL.nil ?_
      exact WX.mid (G:=Int) (i64 (0 - (i64 (u64 (Int.tdiv z6F z3X))))) h (.cons rfl (.cons rfl .nil)) (.cons .h1 (.cons .here .nil))
     ·replace h:=yk h zjD
      refine WC.skip ?_
      exact WX.mid (G:=Int) (i64 (u64 (Int.tdiv z6F z3X))) h (.cons rfl (.cons rfl .nil)) (.cons .h1 (.cons .here .nil))
    ·rintro z8R h
     replace h:=(zsN z8R).symm.trans h
     refine WC.b ?_
     refine WC.a ?_
     refine WL.a (d:=47) rfl rfl rfl (y6 (cs:=[(.int .i64 z8R),(.int .i64 (i64 (u64 (Int.tdiv z6W z3X))))]) y5 rfl rfl (y7 .h1)) ?_
     refine WL.yc rfl rfl (yd (vs:=[(.int .i64 z8R),(.int .i64 (i64 (u64 (Int.tdiv z6W z3X))))]) (ds:=[(.int .i64 z8R),(.int .i64 (i64 (u64 (Int.tdiv z6W z3X))))]) yl rfl rfl rfl rfl (y3 rfl (y3 rfl yf)) .here (Nat.le_of_ble_eq_true rfl) rfl) ?_
     refine WL.a (d:=5) rfl rfl rfl (q_z rfl) ?_
     refine WL.nil ?_
     refine WX.a ?_
     refine WC.ret ?_
     obtain rfl:=Option.some.inj h
     refine WX.y9 Try.results9 (.agg rfl y5 rfl (y7 .here) (.tmp rfl .nil)) (fun w hw=>?_)
     exact ⟨y1I rfl rfl,hw.sub .nil⟩
def y70 (z1f : z2) (z1g : z2) : Option (z2 × Int) :=
 (y1i z1f).bind fun zgF=>(if !zgF then some true else (y1i z1g).bind fun zjE=>some (!zjE)).bind fun zeV=>if zeV then some ((⟨0,0⟩ : z2),2) else (y5F z1f z1g).bind fun zdz=>(y20 zdz.1 zdz.2).bind fun zb2=>some (zb2.1,zb2.2)
set_option maxRecDepth 20000 in
theorem w_rat_do (Z : Zp)   (z1f : z2) (z1g : z2) (r : z2 × Int) (w₀ : World) (hz : PZ [] w₀ Z)
  (h : y70 z1f z1g = some r) :
  Calls Try.prog 40 #[(.string ⟨#[45]⟩),(.agg #[(.int .i64 z1f.fN),(.int .i64 z1f.fD)]),(.agg #[(.int .i64 z1g.fN),(.int .i64 z1g.fD)])] w₀ fun e w'=>e = .returned (.tuple #[(.agg #[(.int .i64 r.1.fN),(.int .i64 r.1.fD)]),(.int .i64 r.2)]) ∧ Hp [] w₀ w' []:=by
 unfold y70 at h
 refine Calls.yg (vs:=[(.string ⟨#[45]⟩),(.agg #[(.int .i64 z1f.fN),(.int .i64 z1f.fD)]),(.agg #[(.int .i64 z1g.fN),(.int .i64 z1g.fD)])]) (pre:=[]) (env:=[(0,(.string ⟨#[45]⟩)),(1,(.agg #[(.int .i64 z1f.fN),(.int .i64 z1f.fD)])),(2,(.agg #[(.int .i64 z1g.fN),(.int .i64 z1g.fD)]))]) Try.func40 rfl Try.ntmps40 rfl (Hp.nil w₀ _) rfl ?_
 refine WC.b ?_
 refine WC.a ?_
 refine WL.new (dd:=4) rfl rfl rfl (yK (cs:=[(.int .i64 z1f.fN),(.int .i64 z1f.fD)]) rfl rfl) ?_
 intro zR _
 refine WL.new (dd:=5) rfl rfl rfl (yK (cs:=[(.int .i64 z1g.fN),(.int .i64 z1g.fD)]) rfl rfl) ?_
 intro zS _
 refine WL.new (dd:=6) rfl rfl rfl (yh (cs:=[(.int .i64 0),(.int .i64 0)]) yo rfl) ?_
 intro z4n _
 refine WL.a (d:=7) rfl rfl rfl (q_z rfl) ?_
 refine WL.nil ?_
 refine WX.a ?_
 refine WC.b ?_
 refine WC.b ?_
 obtain ⟨zgF,zsO,h⟩:=zb h
 obtain ⟨zeV,zoh,h⟩:=zb h
 refine WC.a ?_
 refine WL.a (d:=9) rfl rfl rfl (y6 (cs:=[(.int .i64 z1f.fN),(.int .i64 z1f.fD)]) y5 rfl rfl (y7 .h2)) ?_
 refine WL.b (dd:=10) rfl rfl rfl (zl (l:=[.tmp 9]) Try.call39 (.cons rfl .nil)) (.nil : Sel [stb z4n 30 [(.int .i64 0),(.int .i64 0)],stb zS 30 [(.int .i64 z1g.fN),(.int .i64 z1g.fD)],stb zR 30 [(.int .i64 z1f.fN),(.int .i64 z1f.fD)]] [] [stb z4n 30 [(.int .i64 0),(.int .i64 0)],stb zS 30 [(.int .i64 z1g.fN),(.int .i64 z1g.fD)],stb zR 30 [(.int .i64 z1f.fN),(.int .i64 z1f.fD)]]) (fun w hw=>by have pz:=(hz.call hw (.nil : Sel [stb z4n 30 [(.int .i64 0),(.int .i64 0)],stb zS 30 [(.int .i64 z1g.fN),(.int .i64 z1g.fD)],stb zR 30 [(.int .i64 z1f.fN),(.int .i64 z1f.fD)]] [] [stb z4n 30 [(.int .i64 0),(.int .i64 0)],stb zS 30 [(.int .i64 z1g.fN),(.int .i64 z1g.fD)],stb zR 30 [(.int .i64 z1f.fN),(.int .i64 z1f.fD)]])); exact y1F (Z:=_)  (z1p:=z1f) (r:=zgF) w pz  zsO) ?_
 refine WL.a (d:=11) rfl rfl rfl (y1n rfl) ?_
 refine WL.a (d:=12) rfl rfl rfl (q_m rfl) ?_
 refine WL.yF True [(0,(.string ⟨#[45]⟩)),(4,(.pointer (some ⟨zR,0,none⟩))),(5,(.pointer (some ⟨zS,0,none⟩))),(6,(.pointer (some ⟨z4n,0,none⟩))),(16,(.bool zeV))] [stb z4n 30 [(.int .i64 0),(.int .i64 0)],stb zS 30 [(.int .i64 z1g.fN),(.int .i64 z1g.fD)],stb zR 30 [(.int .i64 z1f.fN),(.int .i64 z1f.fD)]] 4 ?_ (fun _=>?_)
 ·rcases Bool.eq_false_or_eq_true (!zgF) with hb' | hb'
  ·have zoi:=hb'; clear hb'
   have zjF:=yj zoh zoi
   replace zjF:=Option.some.inj zjF
   refine WL.pin (i:=12) rfl zoi ?_
   refine WL.e rfl rfl rfl ?_
   refine WL.e rfl rfl rfl ?_
   refine WL.e rfl rfl rfl ?_
   refine WL.a (d:=16) rfl rfl rfl (ys rfl rfl) ?_
   exact WL.ya () trivial (.cons rfl (.cons rfl (.cons rfl (.cons rfl (.cons (zt zjF) .nil))))) (.cons .here (.cons .here (.cons .here .nil)))
  ·have zoj:=hb'; clear hb'
   have zeW:=yk zoh zoj
   obtain ⟨zjE,zsP,zeW⟩:=zb zeW
   replace zeW:=Option.some.inj zeW
   refine WL.pin (i:=12) rfl zoj ?_
   refine WL.a (d:=13) rfl rfl rfl (y6 (cs:=[(.int .i64 z1g.fN),(.int .i64 z1g.fD)]) y5 rfl rfl (y7 .h1)) ?_
   refine WL.b (dd:=14) rfl rfl rfl (zl (l:=[.tmp 13]) Try.call39 (.cons rfl .nil)) (.nil : Sel [stb z4n 30 [(.int .i64 0),(.int .i64 0)],stb zS 30 [(.int .i64 z1g.fN),(.int .i64 z1g.fD)],stb zR 30 [(.int .i64 z1f.fN),(.int .i64 z1f.fD)]] [] [stb z4n 30 [(.int .i64 0),(.int .i64 0)],stb zS 30 [(.int .i64 z1g.fN),(.int .i64 z1g.fD)],stb zR 30 [(.int .i64 z1f.fN),(.int .i64 z1f.fD)]]) (fun w hw=>by have pz:=(hz.call hw (.nil : Sel [stb z4n 30 [(.int .i64 0),(.int .i64 0)],stb zS 30 [(.int .i64 z1g.fN),(.int .i64 z1g.fD)],stb zR 30 [(.int .i64 z1f.fN),(.int .i64 z1f.fD)]] [] [stb z4n 30 [(.int .i64 0),(.int .i64 0)],stb zS 30 [(.int .i64 z1g.fN),(.int .i64 z1g.fD)],stb zR 30 [(.int .i64 z1f.fN),(.int .i64 z1f.fD)]])); exact y1F (Z:=_)  (z1p:=z1g) (r:=zjE) w pz  zsP) ?_
   refine WL.a (d:=15) rfl rfl rfl (y1n rfl) ?_
   refine WL.a (d:=16) rfl rfl rfl (yr rfl rfl) ?_
   exact WL.ya () trivial (.cons rfl (.cons rfl (.cons rfl (.cons rfl (.cons (zt zeW) .nil))))) (.cons .here (.cons .here (.cons .here .nil)))
 ·skip
  refine WL.a (d:=17) rfl rfl rfl (q_m rfl) ?_
  refine WL.yF True [(0,(.string ⟨#[45]⟩)),(4,(.pointer (some ⟨zR,0,none⟩))),(5,(.pointer (some ⟨zS,0,none⟩))),(6,(.pointer (some ⟨z4n,0,none⟩))),(25,(.bool zeV))] [stb z4n 30 [(.int .i64 0),(.int .i64 0)],stb zS 30 [(.int .i64 z1g.fN),(.int .i64 z1g.fD)],stb zR 30 [(.int .i64 z1f.fN),(.int .i64 z1f.fD)]] 8 ?_ (fun _=>?_)
  ·rcases Bool.eq_false_or_eq_true zeV with hb' | hb'
   ·have zol:=hb'; clear hb'
    refine WL.pin (i:=17) rfl zol ?_
    refine WL.e rfl rfl rfl ?_
    refine WL.e rfl rfl rfl ?_
    refine WL.e rfl rfl rfl ?_
    refine WL.e rfl rfl rfl ?_
    refine WL.e rfl rfl rfl ?_
    refine WL.e rfl rfl rfl ?_
    refine WL.e rfl rfl rfl ?_
    refine WL.a (d:=25) rfl rfl rfl (ys rfl rfl) ?_
    exact WL.ya () trivial (.cons rfl (.cons rfl (.cons rfl (.cons rfl (.cons (zt (Eq.symm zol)) .nil))))) (.cons .here (.cons .here (.cons .here .nil)))
   ·have zom:=hb'; clear hb'
    refine WL.pin (i:=17) rfl zom ?_
    refine WL.a (d:=18) rfl rfl rfl (q_m rfl) ?_
    refine WL.a (d:=19) rfl rfl rfl (y7C (r:=false) (by decide) rfl rfl) ?_
    refine WL.a (d:=20) rfl rfl rfl (q_m rfl) ?_
    refine WL.e rfl rfl rfl ?_
    refine WL.e rfl rfl rfl ?_
    refine WL.e rfl rfl rfl ?_
    refine WL.a (d:=24) rfl rfl rfl (yr rfl rfl) ?_
    refine WL.a (d:=25) rfl rfl rfl (yr rfl rfl) ?_
    exact WL.ya () trivial (.cons rfl (.cons rfl (.cons rfl (.cons rfl (.cons (zt (Eq.symm zom)) .nil))))) (.cons .here (.cons .here (.cons .here .nil)))
  ·skip
   refine WL.nil ?_
   refine WX.a ?_
   refine WC.cond rfl (fun zjG=>?_) (fun zjG=>?_)
   ·replace h:=yj h zjG
    refine WC.b ?_
    refine WC.a ?_
    refine WL.a (d:=26) rfl rfl rfl (y1j (v:=(.agg #[(.int .i64 0),(.int .i64 0)])) (Eos.parts (l:=[]) .nil []) (fun _=>by kernel_rfl)) ?_
    refine WL.yc rfl rfl (yd (vs:=[(.int .i64 0),(.int .i64 0)]) (ds:=[(.int .i64 0),(.int .i64 0)]) yl rfl rfl rfl rfl (y3 rfl (y3 rfl yf)) .here (Nat.le_of_ble_eq_true rfl) rfl) ?_
    refine WL.a (d:=7) rfl rfl rfl (q_z rfl) ?_
    refine WL.nil ?_
    refine WX.a ?_
    refine WC.ret ?_
    refine WX.y8 ?_
    obtain rfl:=Option.some.inj h
    refine WX.y9 Try.results40 (.agg rfl y5 rfl (y7 .here) (.tmp rfl .nil)) (fun w hw=>?_)
    exact ⟨y1I rfl rfl,hw.sub .nil⟩
   ·replace h:=yk h zjG
    refine WC.skip ?_
    refine WX.a ?_
    refine WC.b ?_
    refine WC.a ?_
    refine WL.new (dd:=27) rfl rfl rfl (y6u Value.string (fun x=>x)) ?_
    intro z7z _
    refine WL.a (d:=28) rfl rfl rfl (y18 (Eos.caps (l:=[.tmp 4,.tmp 5]) (.cons rfl (.cons rfl .nil)))) ?_
    refine WL.yc rfl rfl (y2d (k:=⟨#[43]⟩) (v:=(.func (.func 54) #[] #[(.pointer (some ⟨zR,0,none⟩)),(.pointer (some ⟨zS,0,none⟩))])) y2p Try.underlying105 rfl rfl rfl rfl .here) ?_
    refine WL.a (d:=29) rfl rfl rfl (y18 (Eos.caps (l:=[.tmp 4,.tmp 5]) (.cons rfl (.cons rfl .nil)))) ?_
    refine WL.yc rfl rfl (y2d (k:=⟨#[45]⟩) (v:=(.func (.func 55) #[] #[(.pointer (some ⟨zR,0,none⟩)),(.pointer (some ⟨zS,0,none⟩))])) y2p Try.underlying105 rfl rfl rfl rfl .here) ?_
    refine WL.a (d:=30) rfl rfl rfl (y18 (Eos.caps (l:=[.tmp 4,.tmp 5]) (.cons rfl (.cons rfl .nil)))) ?_
    refine WL.yc rfl rfl (y2d (k:=⟨#[42]⟩) (v:=(.func (.func 56) #[] #[(.pointer (some ⟨zR,0,none⟩)),(.pointer (some ⟨zS,0,none⟩))])) y2p Try.underlying105 rfl rfl rfl rfl .here) ?_
    refine WL.a (d:=31) rfl rfl rfl (y18 (Eos.caps (l:=[.tmp 4,.tmp 5]) (.cons rfl (.cons rfl .nil)))) ?_
    refine WL.yc rfl rfl (y2d (k:=⟨#[47]⟩) (v:=(.func (.func 57) #[] #[(.pointer (some ⟨zR,0,none⟩)),(.pointer (some ⟨zS,0,none⟩))])) y2p Try.underlying105 rfl rfl rfl rfl .here) ?_
    refine WL.a (d:=32) rfl rfl rfl (q_m rfl) ?_
    refine WL.a (d:=8) rfl rfl rfl (q_z rfl) ?_
    refine WL.nil ?_
    refine WX.a ?_
    refine WC.b ?_
    obtain ⟨zdz,zsQ,h⟩:=zb h
    obtain ⟨zb2,zsR,h⟩:=zb h
    refine WC.a ?_
    refine WL.a (d:=33) rfl rfl rfl (q_m rfl) ?_
    refine WL.a (d:=34) rfl rfl rfl (q_m rfl) ?_
    refine WL.a (d:=35) rfl rfl rfl (y7B (k:=⟨#[45]⟩) (dflt:=.nilFunc) (r:=(.func (.func 55) #[] #[(.pointer (some ⟨zR,0,none⟩)),(.pointer (some ⟨zS,0,none⟩))])) y2p Try.underlying105 zgk rfl rfl rfl .here (by rfl)) ?_
    refine WL.b (dd:=36) rfl rfl rfl (y2f (l:=[]) Try.call55 rfl .nil) (.nil : Sel [yN z7z Value.string (fun x=>x) [(⟨#[43]⟩,(.func (.func 54) #[] #[(.pointer (some ⟨zR,0,none⟩)),(.pointer (some ⟨zS,0,none⟩))])),(⟨#[45]⟩,(.func (.func 55) #[] #[(.pointer (some ⟨zR,0,none⟩)),(.pointer (some ⟨zS,0,none⟩))])),(⟨#[42]⟩,(.func (.func 56) #[] #[(.pointer (some ⟨zR,0,none⟩)),(.pointer (some ⟨zS,0,none⟩))])),(⟨#[47]⟩,(.func (.func 57) #[] #[(.pointer (some ⟨zR,0,none⟩)),(.pointer (some ⟨zS,0,none⟩))]))],stb z4n 30 [(.int .i64 0),(.int .i64 0)],stb zS 30 [(.int .i64 z1g.fN),(.int .i64 z1g.fD)],stb zR 30 [(.int .i64 z1f.fN),(.int .i64 z1f.fD)]] [] [yN z7z Value.string (fun x=>x) [(⟨#[43]⟩,(.func (.func 54) #[] #[(.pointer (some ⟨zR,0,none⟩)),(.pointer (some ⟨zS,0,none⟩))])),(⟨#[45]⟩,(.func (.func 55) #[] #[(.pointer (some ⟨zR,0,none⟩)),(.pointer (some ⟨zS,0,none⟩))])),(⟨#[42]⟩,(.func (.func 56) #[] #[(.pointer (some ⟨zR,0,none⟩)),(.pointer (some ⟨zS,0,none⟩))])),(⟨#[47]⟩,(.func (.func 57) #[] #[(.pointer (some ⟨zR,0,none⟩)),(.pointer (some ⟨zS,0,none⟩))]))],stb z4n 30 [(.int .i64 0),(.int .i64 0)],stb zS 30 [(.int .i64 z1g.fN),(.int .i64 z1g.fD)],stb zR 30 [(.int .i64 z1f.fN),(.int .i64 z1f.fD)]]) (fun w hw=>by have pz:=(hz.call hw (.nil : Sel [yN z7z Value.string (fun x=>x) [(⟨#[43]⟩,(.func (.func 54) #[] #[(.pointer (some ⟨zR,0,none⟩)),(.pointer (some ⟨zS,0,none⟩))])),(⟨#[45]⟩,(.func (.func 55) #[] #[(.pointer (some ⟨zR,0,none⟩)),(.pointer (some ⟨zS,0,none⟩))])),(⟨#[42]⟩,(.func (.func 56) #[] #[(.pointer (some ⟨zR,0,none⟩)),(.pointer (some ⟨zS,0,none⟩))])),(⟨#[47]⟩,(.func (.func 57) #[] #[(.pointer (some ⟨zR,0,none⟩)),(.pointer (some ⟨zS,0,none⟩))]))],stb z4n 30 [(.int .i64 0),(.int .i64 0)],stb zS 30 [(.int .i64 z1g.fN),(.int .i64 z1g.fD)],stb zR 30 [(.int .i64 z1f.fN),(.int .i64 z1f.fD)]] [] [yN z7z Value.string (fun x=>x) [(⟨#[43]⟩,(.func (.func 54) #[] #[(.pointer (some ⟨zR,0,none⟩)),(.pointer (some ⟨zS,0,none⟩))])),(⟨#[45]⟩,(.func (.func 55) #[] #[(.pointer (some ⟨zR,0,none⟩)),(.pointer (some ⟨zS,0,none⟩))])),(⟨#[42]⟩,(.func (.func 56) #[] #[(.pointer (some ⟨zR,0,none⟩)),(.pointer (some ⟨zS,0,none⟩))])),(⟨#[47]⟩,(.func (.func 57) #[] #[(.pointer (some ⟨zR,0,none⟩)),(.pointer (some ⟨zS,0,none⟩))]))],stb z4n 30 [(.int .i64 0),(.int .i64 0)],stb zS 30 [(.int .i64 z1g.fN),(.int .i64 z1g.fD)],stb zR 30 [(.int .i64 z1f.fN),(.int .i64 z1f.fD)]])).lend hw (.nil : Sel [yN z7z Value.string (fun x=>x) [(⟨#[43]⟩,(.func (.func 54) #[] #[(.pointer (some ⟨zR,0,none⟩)),(.pointer (some ⟨zS,0,none⟩))])),(⟨#[45]⟩,(.func (.func 55) #[] #[(.pointer (some ⟨zR,0,none⟩)),(.pointer (some ⟨zS,0,none⟩))])),(⟨#[42]⟩,(.func (.func 56) #[] #[(.pointer (some ⟨zR,0,none⟩)),(.pointer (some ⟨zS,0,none⟩))])),(⟨#[47]⟩,(.func (.func 57) #[] #[(.pointer (some ⟨zR,0,none⟩)),(.pointer (some ⟨zS,0,none⟩))]))],stb z4n 30 [(.int .i64 0),(.int .i64 0)],stb zS 30 [(.int .i64 z1g.fN),(.int .i64 z1g.fD)],stb zR 30 [(.int .i64 z1f.fN),(.int .i64 z1f.fD)]] [] [yN z7z Value.string (fun x=>x) [(⟨#[43]⟩,(.func (.func 54) #[] #[(.pointer (some ⟨zR,0,none⟩)),(.pointer (some ⟨zS,0,none⟩))])),(⟨#[45]⟩,(.func (.func 55) #[] #[(.pointer (some ⟨zR,0,none⟩)),(.pointer (some ⟨zS,0,none⟩))])),(⟨#[42]⟩,(.func (.func 56) #[] #[(.pointer (some ⟨zR,0,none⟩)),(.pointer (some ⟨zS,0,none⟩))])),(⟨#[47]⟩,(.func (.func 57) #[] #[(.pointer (some ⟨zR,0,none⟩)),(.pointer (some ⟨zS,0,none⟩))]))],stb z4n 30 [(.int .i64 0),(.int .i64 0)],stb zS 30 [(.int .i64 z1g.fN),(.int .i64 z1g.fD)],stb zR 30 [(.int .i64 z1f.fN),(.int .i64 z1f.fD)]]) (B:=[stb zR 30 [(.int .i64 z1f.fN),(.int .i64 z1f.fD)],stb zS 30 [(.int .i64 z1g.fN),(.int .i64 z1g.fD)]]) (fun _ hx'=>((.cons .h3 (.cons .h2 .nil)) : Sel _ [stb zR 30 [(.int .i64 z1f.fN),(.int .i64 z1f.fD)],stb zS 30 [(.int .i64 z1g.fN),(.int .i64 z1g.fD)]] _).mem hx'); exact y9Q (Z:=_) (zeT:=⟨zR,0,none⟩) (zeU:=⟨zS,0,none⟩) (zb0:=z1f) (zb1:=z1g) (r:=zdz) w pz ((hw.lent (.nil : Sel [yN z7z Value.string (fun x=>x) [(⟨#[43]⟩,(.func (.func 54) #[] #[(.pointer (some ⟨zR,0,none⟩)),(.pointer (some ⟨zS,0,none⟩))])),(⟨#[45]⟩,(.func (.func 55) #[] #[(.pointer (some ⟨zR,0,none⟩)),(.pointer (some ⟨zS,0,none⟩))])),(⟨#[42]⟩,(.func (.func 56) #[] #[(.pointer (some ⟨zR,0,none⟩)),(.pointer (some ⟨zS,0,none⟩))])),(⟨#[47]⟩,(.func (.func 57) #[] #[(.pointer (some ⟨zR,0,none⟩)),(.pointer (some ⟨zS,0,none⟩))]))],stb z4n 30 [(.int .i64 0),(.int .i64 0)],stb zS 30 [(.int .i64 z1g.fN),(.int .i64 z1g.fD)],stb zR 30 [(.int .i64 z1f.fN),(.int .i64 z1f.fD)]] [] [yN z7z Value.string (fun x=>x) [(⟨#[43]⟩,(.func (.func 54) #[] #[(.pointer (some ⟨zR,0,none⟩)),(.pointer (some ⟨zS,0,none⟩))])),(⟨#[45]⟩,(.func (.func 55) #[] #[(.pointer (some ⟨zR,0,none⟩)),(.pointer (some ⟨zS,0,none⟩))])),(⟨#[42]⟩,(.func (.func 56) #[] #[(.pointer (some ⟨zR,0,none⟩)),(.pointer (some ⟨zS,0,none⟩))])),(⟨#[47]⟩,(.func (.func 57) #[] #[(.pointer (some ⟨zR,0,none⟩)),(.pointer (some ⟨zS,0,none⟩))]))],stb z4n 30 [(.int .i64 0),(.int .i64 0)],stb zS 30 [(.int .i64 z1g.fN),(.int .i64 z1g.fD)],stb zR 30 [(.int .i64 z1f.fN),(.int .i64 z1f.fD)]]) (B:=[stb zR 30 [(.int .i64 z1f.fN),(.int .i64 z1f.fD)],stb zS 30 [(.int .i64 z1g.fN),(.int .i64 z1g.fD)]]) (fun _ hx'=>((.cons .h3 (.cons .h2 .nil)) : Sel _ [stb zR 30 [(.int .i64 z1f.fN),(.int .i64 z1f.fD)],stb zS 30 [(.int .i64 z1g.fN),(.int .i64 z1g.fD)]] _).mem hx') (.head _) _).stb) ((hw.lent (.nil : Sel [yN z7z Value.string (fun x=>x) [(⟨#[43]⟩,(.func (.func 54) #[] #[(.pointer (some ⟨zR,0,none⟩)),(.pointer (some ⟨zS,0,none⟩))])),(⟨#[45]⟩,(.func (.func 55) #[] #[(.pointer (some ⟨zR,0,none⟩)),(.pointer (some ⟨zS,0,none⟩))])),(⟨#[42]⟩,(.func (.func 56) #[] #[(.pointer (some ⟨zR,0,none⟩)),(.pointer (some ⟨zS,0,none⟩))])),(⟨#[47]⟩,(.func (.func 57) #[] #[(.pointer (some ⟨zR,0,none⟩)),(.pointer (some ⟨zS,0,none⟩))]))],stb z4n 30 [(.int .i64 0),(.int .i64 0)],stb zS 30 [(.int .i64 z1g.fN),(.int .i64 z1g.fD)],stb zR 30 [(.int .i64 z1f.fN),(.int .i64 z1f.fD)]] [] [yN z7z Value.string (fun x=>x) [(⟨#[43]⟩,(.func (.func 54) #[] #[(.pointer (some ⟨zR,0,none⟩)),(.pointer (some ⟨zS,0,none⟩))])),(⟨#[45]⟩,(.func (.func 55) #[] #[(.pointer (some ⟨zR,0,none⟩)),(.pointer (some ⟨zS,0,none⟩))])),(⟨#[42]⟩,(.func (.func 56) #[] #[(.pointer (some ⟨zR,0,none⟩)),(.pointer (some ⟨zS,0,none⟩))])),(⟨#[47]⟩,(.func (.func 57) #[] #[(.pointer (some ⟨zR,0,none⟩)),(.pointer (some ⟨zS,0,none⟩))]))],stb z4n 30 [(.int .i64 0),(.int .i64 0)],stb zS 30 [(.int .i64 z1g.fN),(.int .i64 z1g.fD)],stb zR 30 [(.int .i64 z1f.fN),(.int .i64 z1f.fD)]]) (B:=[stb zR 30 [(.int .i64 z1f.fN),(.int .i64 z1f.fD)],stb zS 30 [(.int .i64 z1g.fN),(.int .i64 z1g.fD)]]) (fun _ hx'=>((.cons .h3 (.cons .h2 .nil)) : Sel _ [stb zR 30 [(.int .i64 z1f.fN),(.int .i64 z1f.fD)],stb zS 30 [(.int .i64 z1g.fN),(.int .i64 z1g.fD)]] _).mem hx') (.tail _ (.head _)) _).stb) zsQ) ?_
    refine WL.a (d:=37) rfl rfl rfl (yb rfl rfl) ?_
    refine WL.a (d:=38) rfl rfl rfl (yb rfl rfl) ?_
    refine WL.b (dd:=39) rfl rfl rfl (zl (l:=[.tmp 37,.tmp 38]) Try.call9 (.cons rfl (.cons rfl .nil))) (.nil : Sel [yN z7z Value.string (fun x=>x) [(⟨#[43]⟩,(.func (.func 54) #[] #[(.pointer (some ⟨zR,0,none⟩)),(.pointer (some ⟨zS,0,none⟩))])),(⟨#[45]⟩,(.func (.func 55) #[] #[(.pointer (some ⟨zR,0,none⟩)),(.pointer (some ⟨zS,0,none⟩))])),(⟨#[42]⟩,(.func (.func 56) #[] #[(.pointer (some ⟨zR,0,none⟩)),(.pointer (some ⟨zS,0,none⟩))])),(⟨#[47]⟩,(.func (.func 57) #[] #[(.pointer (some ⟨zR,0,none⟩)),(.pointer (some ⟨zS,0,none⟩))]))],stb z4n 30 [(.int .i64 0),(.int .i64 0)],stb zS 30 [(.int .i64 z1g.fN),(.int .i64 z1g.fD)],stb zR 30 [(.int .i64 z1f.fN),(.int .i64 z1f.fD)]] [] [yN z7z Value.string (fun x=>x) [(⟨#[43]⟩,(.func (.func 54) #[] #[(.pointer (some ⟨zR,0,none⟩)),(.pointer (some ⟨zS,0,none⟩))])),(⟨#[45]⟩,(.func (.func 55) #[] #[(.pointer (some ⟨zR,0,none⟩)),(.pointer (some ⟨zS,0,none⟩))])),(⟨#[42]⟩,(.func (.func 56) #[] #[(.pointer (some ⟨zR,0,none⟩)),(.pointer (some ⟨zS,0,none⟩))])),(⟨#[47]⟩,(.func (.func 57) #[] #[(.pointer (some ⟨zR,0,none⟩)),(.pointer (some ⟨zS,0,none⟩))]))],stb z4n 30 [(.int .i64 0),(.int .i64 0)],stb zS 30 [(.int .i64 z1g.fN),(.int .i64 z1g.fD)],stb zR 30 [(.int .i64 z1f.fN),(.int .i64 z1f.fD)]]) (fun w hw=>by have pz:=(hz.call hw (.nil : Sel [yN z7z Value.string (fun x=>x) [(⟨#[43]⟩,(.func (.func 54) #[] #[(.pointer (some ⟨zR,0,none⟩)),(.pointer (some ⟨zS,0,none⟩))])),(⟨#[45]⟩,(.func (.func 55) #[] #[(.pointer (some ⟨zR,0,none⟩)),(.pointer (some ⟨zS,0,none⟩))])),(⟨#[42]⟩,(.func (.func 56) #[] #[(.pointer (some ⟨zR,0,none⟩)),(.pointer (some ⟨zS,0,none⟩))])),(⟨#[47]⟩,(.func (.func 57) #[] #[(.pointer (some ⟨zR,0,none⟩)),(.pointer (some ⟨zS,0,none⟩))]))],stb z4n 30 [(.int .i64 0),(.int .i64 0)],stb zS 30 [(.int .i64 z1g.fN),(.int .i64 z1g.fD)],stb zR 30 [(.int .i64 z1f.fN),(.int .i64 z1f.fD)]] [] [yN z7z Value.string (fun x=>x) [(⟨#[43]⟩,(.func (.func 54) #[] #[(.pointer (some ⟨zR,0,none⟩)),(.pointer (some ⟨zS,0,none⟩))])),(⟨#[45]⟩,(.func (.func 55) #[] #[(.pointer (some ⟨zR,0,none⟩)),(.pointer (some ⟨zS,0,none⟩))])),(⟨#[42]⟩,(.func (.func 56) #[] #[(.pointer (some ⟨zR,0,none⟩)),(.pointer (some ⟨zS,0,none⟩))])),(⟨#[47]⟩,(.func (.func 57) #[] #[(.pointer (some ⟨zR,0,none⟩)),(.pointer (some ⟨zS,0,none⟩))]))],stb z4n 30 [(.int .i64 0),(.int .i64 0)],stb zS 30 [(.int .i64 z1g.fN),(.int .i64 z1g.fD)],stb zR 30 [(.int .i64 z1f.fN),(.int .i64 z1f.fD)]])); exact y3k (Z:=_)  (z6E:=zdz.1) (z67:=zdz.2) (r:=zb2) w pz  zsR) ?_
    refine WL.a (d:=40) rfl rfl rfl (yb rfl rfl) ?_
    refine WL.a (d:=41) rfl rfl rfl (yb rfl rfl) ?_
    refine WL.yc rfl rfl (yd (vs:=[(.int .i64 zb2.1.fN),(.int .i64 zb2.1.fD)]) (ds:=[(.int .i64 zb2.1.fN),(.int .i64 zb2.1.fD)]) yl rfl rfl rfl rfl (y3 rfl (y3 rfl yf)) .h1 (Nat.le_of_ble_eq_true rfl) rfl) ?_
    refine WL.a (d:=7) rfl rfl rfl (q_z rfl) ?_
    refine WL.nil ?_
    refine WX.a ?_
    refine WC.ret ?_
    obtain rfl:=Option.some.inj h
    refine WX.y9 Try.results40 (.agg rfl y5 rfl (y7 .here) (.tmp rfl .nil)) (fun w hw=>?_)
    exact ⟨y1I rfl rfl,hw.sub .nil⟩
def y1x (z3Y : z2) (z3Z : z2) : Option (z2 × Int) :=
 (y70 z3Y z3Z).bind fun zb3=>some (zb3.1,zb3.2)
set_option maxRecDepth 20000 in
theorem y4K (Z : Zp)   (z3Y : z2) (z3Z : z2) (r : z2 × Int) (w₀ : World) (hz : PZ [] w₀ Z)
  (h : y1x z3Y z3Z = some r) :
  Calls Try.prog 24 #[(.agg #[(.int .i64 z3Y.fN),(.int .i64 z3Y.fD)]),(.agg #[(.int .i64 z3Z.fN),(.int .i64 z3Z.fD)])] w₀ fun e w'=>e = .returned (.tuple #[(.agg #[(.int .i64 r.1.fN),(.int .i64 r.1.fD)]),(.int .i64 r.2)]) ∧ Hp [] w₀ w' []:=by
 unfold y1x at h
 refine Calls.yg (vs:=[(.agg #[(.int .i64 z3Y.fN),(.int .i64 z3Y.fD)]),(.agg #[(.int .i64 z3Z.fN),(.int .i64 z3Z.fD)])]) (pre:=[]) (env:=[(0,(.agg #[(.int .i64 z3Y.fN),(.int .i64 z3Y.fD)])),(1,(.agg #[(.int .i64 z3Z.fN),(.int .i64 z3Z.fD)]))]) Try.func24 rfl Try.ntmps24 rfl (Hp.nil w₀ _) rfl ?_
 refine WC.b ?_
 refine WC.a ?_
 refine WL.new (dd:=2) rfl rfl rfl (yK (cs:=[(.int .i64 z3Y.fN),(.int .i64 z3Y.fD)]) rfl rfl) ?_
 intro zgG _
 refine WL.new (dd:=3) rfl rfl rfl (yK (cs:=[(.int .i64 z3Z.fN),(.int .i64 z3Z.fD)]) rfl rfl) ?_
 intro zgH _
 refine WL.new (dd:=4) rfl rfl rfl (yh (cs:=[(.int .i64 0),(.int .i64 0)]) yo rfl) ?_
 intro zgI _
 refine WL.a (d:=5) rfl rfl rfl (q_z rfl) ?_
 refine WL.nil ?_
 refine WX.a ?_
 refine WC.b ?_
 obtain ⟨zb3,zsS,h⟩:=zb h
 refine WC.a ?_
 refine WL.a (d:=6) rfl rfl rfl (y6 (cs:=[(.int .i64 z3Y.fN),(.int .i64 z3Y.fD)]) y5 rfl rfl (y7 .h2)) ?_
 refine WL.a (d:=7) rfl rfl rfl (y6 (cs:=[(.int .i64 z3Z.fN),(.int .i64 z3Z.fD)]) y5 rfl rfl (y7 .h1)) ?_
 refine WL.b (dd:=8) rfl rfl rfl (zl (l:=[.const (.string ⟨#[45]⟩),.tmp 6,.tmp 7]) Try.call40 (.cons rfl (.cons rfl (.cons rfl .nil)))) (.nil : Sel [stb zgI 30 [(.int .i64 0),(.int .i64 0)],stb zgH 30 [(.int .i64 z3Z.fN),(.int .i64 z3Z.fD)],stb zgG 30 [(.int .i64 z3Y.fN),(.int .i64 z3Y.fD)]] [] [stb zgI 30 [(.int .i64 0),(.int .i64 0)],stb zgH 30 [(.int .i64 z3Z.fN),(.int .i64 z3Z.fD)],stb zgG 30 [(.int .i64 z3Y.fN),(.int .i64 z3Y.fD)]]) (fun w hw=>by have pz:=(hz.call hw (.nil : Sel [stb zgI 30 [(.int .i64 0),(.int .i64 0)],stb zgH 30 [(.int .i64 z3Z.fN),(.int .i64 z3Z.fD)],stb zgG 30 [(.int .i64 z3Y.fN),(.int .i64 z3Y.fD)]] [] [stb zgI 30 [(.int .i64 0),(.int .i64 0)],stb zgH 30 [(.int .i64 z3Z.fN),(.int .i64 z3Z.fD)],stb zgG 30 [(.int .i64 z3Y.fN),(.int .i64 z3Y.fD)]])); exact w_rat_do (Z:=_)  (z1f:=z3Y) (z1g:=z3Z) (r:=zb3) w pz  zsS) ?_
 refine WL.a (d:=9) rfl rfl rfl (yb rfl rfl) ?_
 refine WL.a (d:=10) rfl rfl rfl (yb rfl rfl) ?_
 refine WL.yc rfl rfl (yd (vs:=[(.int .i64 zb3.1.fN),(.int .i64 zb3.1.fD)]) (ds:=[(.int .i64 zb3.1.fN),(.int .i64 zb3.1.fD)]) yl rfl rfl rfl rfl (y3 rfl (y3 rfl yf)) .here (Nat.le_of_ble_eq_true rfl) rfl) ?_
 refine WL.a (d:=5) rfl rfl rfl (q_z rfl) ?_
 refine WL.nil ?_
 refine WX.a ?_
 refine WC.ret ?_
 obtain rfl:=Option.some.inj h
 refine WX.y9 Try.results24 (.agg rfl y5 rfl (y7 .here) (.tmp rfl .nil)) (fun w hw=>?_)
 exact ⟨y1I rfl rfl,hw.sub .nil⟩
def y1l (z7A : z2y) (zad : z2 → z2 → Option (z2 × Int)) (z5L : z2) (z5M : z2) : Option (z2 × z2y) :=
 if decide (z7A.fE ≠ 0) then some ((⟨0,0⟩ : z2),z7A) else (zad z5L z5M).bind fun z6Y=>some (z6Y.1,(⟨z6Y.2⟩ : z2y))
set_option maxRecDepth 20000 in
theorem y3l (Z : Zp)  (z7B : Nat) (z8g : FuncId) (z9m : List Value) (z7A : z2y) (zad : z2 → z2 → Option (z2 × Int)) (z5L : z2) (z5M : z2) (r : z2 × z2y) (w₀ : World) (hz : PZ (fps [stb z7B 90 [(.int .i64 z7A.fE)]]) w₀ Z)
  (zsT : ∀ args w,(callFunc z8g args).run Try.prog w = .ok (.enter z8g args) w)
  (zsU : ∀ w : World,PZ [] w Z → ∀ (x0 : z2) (x1 : z2) (r : z2 × Int),zad x0 x1 = some r → Calls Try.prog z8g (([(.agg #[(.int .i64 x0.fN),(.int .i64 x0.fD)]),(.agg #[(.int .i64 x1.fN),(.int .i64 x1.fD)])] : List Value) ++ z9m).toArray w fun e w'=>e = .returned (.tuple #[(.agg #[(.int .i64 r.1.fN),(.int .i64 r.1.fD)]),(.int .i64 r.2)]) ∧ Hp [] w w' [])
  (h : y1l z7A zad z5L z5M = some r)
  (hown : Hp (fps [stb z7B 90 [(.int .i64 z7A.fE)]]) w₀ w₀ [stb z7B 90 [(.int .i64 z7A.fE)]]) :
  Calls Try.prog 58 #[(.pointer (some ⟨z7B,0,none⟩)),(.func (.func z8g) #[] (z9m).toArray),(.agg #[(.int .i64 z5L.fN),(.int .i64 z5L.fD)]),(.agg #[(.int .i64 z5M.fN),(.int .i64 z5M.fD)])] w₀ fun e w'=>e = .returned (.agg #[(.int .i64 r.1.fN),(.int .i64 r.1.fD)]) ∧ Hp (fps [stb z7B 90 [(.int .i64 z7A.fE)]]) w₀ w' [stb z7B 90 [(.int .i64 r.2.fE)]]:=by
 unfold y1l at h
 refine Calls.yg (vs:=[(.pointer (some ⟨z7B,0,none⟩)),(.func (.func z8g) #[] (z9m).toArray),(.agg #[(.int .i64 z5L.fN),(.int .i64 z5L.fD)]),(.agg #[(.int .i64 z5M.fN),(.int .i64 z5M.fD)])]) (pre:=[stb z7B 90 [(.int .i64 z7A.fE)]]) (env:=[(0,(.pointer (some ⟨z7B,0,none⟩))),(1,(.func (.func z8g) #[] (z9m).toArray)),(2,(.agg #[(.int .i64 z5L.fN),(.int .i64 z5L.fD)])),(3,(.agg #[(.int .i64 z5M.fN),(.int .i64 z5M.fD)]))]) Try.func58 rfl Try.ntmps58 rfl (hown) rfl ?_
 refine WC.b ?_
 refine WC.a ?_
 refine WL.new (dd:=6) rfl rfl rfl (yK (cs:=[(.int .i64 z5L.fN),(.int .i64 z5L.fD)]) rfl rfl) ?_
 intro zzK _
 refine WL.new (dd:=7) rfl rfl rfl (yK (cs:=[(.int .i64 z5M.fN),(.int .i64 z5M.fD)]) rfl rfl) ?_
 intro zzL _
 refine WL.new (dd:=8) rfl rfl rfl (yh (cs:=[(.int .i64 0),(.int .i64 0)]) yo rfl) ?_
 intro zzM _
 refine WL.nil ?_
 refine WX.a ?_
 refine WC.b ?_
 refine WC.b ?_
 refine WC.a ?_
 refine WL.a (d:=11) rfl rfl rfl (q_m rfl) ?_
 refine WL.a (d:=12) rfl rfl rfl (y4c rfl) ?_
 refine WL.a (d:=13) rfl rfl rfl (y4 y5Y rfl rfl) ?_
 refine WL.a (d:=14) rfl rfl rfl (ye y2H rfl (yu .h3 rfl)) ?_
 refine WL.a (d:=15) rfl rfl rfl (y2L rfl rfl) ?_
 refine WL.nil ?_
 refine WX.a ?_
 refine WC.cond rfl (fun zjH=>?_) (fun zjH=>?_)
 ·replace h:=yj h zjH
  refine WC.b ?_
  refine WC.a ?_
  refine WL.a (d:=16) rfl rfl rfl (y1j (v:=(.agg #[(.int .i64 0),(.int .i64 0)])) (Eos.parts (l:=[]) .nil []) (fun _=>by kernel_rfl)) ?_
  refine WL.yc rfl rfl (yd (vs:=[(.int .i64 0),(.int .i64 0)]) (ds:=[(.int .i64 0),(.int .i64 0)]) yl rfl rfl rfl rfl (y3 rfl (y3 rfl yf)) .here (Nat.le_of_ble_eq_true rfl) rfl) ?_
  refine WL.nil ?_
  refine WX.a ?_
  refine WC.ret ?_
  refine WX.y8 ?_
  obtain rfl:=Option.some.inj h
  refine WX.y9 Try.results58 (.agg rfl y5 rfl (y7 .here) .nil) (fun w hw=>?_)
  exact ⟨yI rfl,hw.sub (.cons .h3 .nil)⟩
 ·replace h:=yk h zjH
  refine WC.skip ?_
  refine WX.a ?_
  refine WC.b ?_
  obtain ⟨z6Y,zsV,h⟩:=zb h
  refine WC.a ?_
  refine WL.a (d:=18) rfl rfl rfl (q_m rfl) ?_
  refine WL.a (d:=19) rfl rfl rfl (y6 (cs:=[(.int .i64 z5L.fN),(.int .i64 z5L.fD)]) y5 rfl rfl (y7 .h2)) ?_
  refine WL.a (d:=20) rfl rfl rfl (y6 (cs:=[(.int .i64 z5M.fN),(.int .i64 z5M.fD)]) y5 rfl rfl (y7 .h1)) ?_
  refine WL.b (dd:=21) rfl rfl rfl (y2f (l:=[.tmp 19,.tmp 20]) (f:=z8g) (caps:=z9m) zsT rfl (.cons rfl (.cons rfl .nil))) .nil (fun w hw=>zsU w (hz.now hw) z5L z5M z6Y  zsV) ?_
  refine WL.a (d:=17) rfl rfl rfl (q_m rfl) ?_
  refine WL.a (d:=22) rfl rfl rfl (yb rfl rfl) ?_
  refine WL.a (d:=23) rfl rfl rfl (yb rfl rfl) ?_
  refine WL.new (dd:=9) rfl rfl rfl (yh (cs:=[(.int .i64 0),(.int .i64 0)]) yo rfl) ?_
  intro zzN _
  refine WL.yc rfl rfl (yd (vs:=[(.int .i64 z6Y.1.fN),(.int .i64 z6Y.1.fD)]) (ds:=[(.int .i64 z6Y.1.fN),(.int .i64 z6Y.1.fD)]) yl rfl rfl rfl rfl (y3 rfl (y3 rfl yf)) .here (Nat.le_of_ble_eq_true rfl) rfl) ?_
  refine WL.a (d:=10) rfl rfl rfl (q_z rfl) ?_
  refine WL.nil ?_
  refine WX.a ?_
  refine WC.b ?_
  refine WC.a ?_
  refine WL.a (d:=24) rfl rfl rfl (q_m rfl) ?_
  refine WL.a (d:=25) rfl rfl rfl (q_m rfl) ?_
  refine WL.a (d:=26) rfl rfl rfl (y4c rfl) ?_
  refine WL.a (d:=27) rfl rfl rfl (y4 y5Y rfl rfl) ?_
  refine WL.yc rfl rfl (yd (vs:=[(.int .i64 z6Y.2)]) (ds:=[(.int .i64 z6Y.2)]) y8o rfl rfl rfl rfl (y3 rfl yf) .h4 (Nat.le_of_ble_eq_true rfl) rfl) ?_
  refine WL.nil ?_
  refine WX.a ?_
  refine WC.b ?_
  refine WC.a ?_
  refine WL.a (d:=28) rfl rfl rfl (y6 (cs:=[(.int .i64 z6Y.1.fN),(.int .i64 z6Y.1.fD)]) y5 rfl rfl (y7 .h1)) ?_
  refine WL.yc rfl rfl (yd (vs:=[(.int .i64 z6Y.1.fN),(.int .i64 z6Y.1.fD)]) (ds:=[(.int .i64 z6Y.1.fN),(.int .i64 z6Y.1.fD)]) yl rfl rfl rfl rfl (y3 rfl (y3 rfl yf)) .h2 (Nat.le_of_ble_eq_true rfl) rfl) ?_
  refine WL.nil ?_
  refine WX.a ?_
  refine WC.ret ?_
  obtain rfl:=Option.some.inj h
  refine WX.y9 Try.results58 (.agg rfl y5 rfl (y7 .here) .nil) (fun w hw=>?_)
  exact ⟨yI rfl,hw.sub (.cons .h1 .nil)⟩
def y5G (zcd : z2) (zce : z2) : Option (Int × Int) :=
 some ((i64 (zcd.fN * zce.fD)),(i64 (zcd.fD * zce.fN)))
set_option maxRecDepth 20000 in
theorem y9R (Z : Zp)  (zeX : Addr) (zeY : Addr) (zcd : z2) (zce : z2) (r : Int × Int) (w₀ : World) (hz : PZ [] w₀ Z)
  (zon : ZC Z zeX [(.int .i64 zcd.fN),(.int .i64 zcd.fD)])
  (zoo : ZC Z zeY [(.int .i64 zce.fN),(.int .i64 zce.fD)])
  (h : y5G zcd zce = some r) :
  Calls Try.prog 57 #[(.pointer (some zeX)),(.pointer (some zeY))] w₀ fun e w'=>e = .returned (.tuple #[(.int .i64 r.1),(.int .i64 r.2)]) ∧ Hp [] w₀ w' []:=by
 unfold y5G at h
 refine Calls.yg (vs:=[(.pointer (some zeX)),(.pointer (some zeY))]) (pre:=[]) (env:=[(0,(.pointer (some zeX))),(1,(.pointer (some zeY)))]) Try.func57 rfl Try.ntmps57 rfl (Hp.nil w₀ _) rfl ?_
 refine WC.b ?_
 refine WC.a ?_
 refine WL.a (d:=2) rfl rfl rfl (q_z rfl) ?_
 refine WL.a (d:=3) rfl rfl rfl (q_z rfl) ?_
 refine WL.nil ?_
 refine WX.a ?_
 refine WC.b ?_
 refine WC.y1e (fun i=>[].contains i) [] rfl ?_
 refine WD.a (i:=0) (d:=4) (by kernel_rfl) rfl (z6 (by kernel_rfl)) (z7 (by kernel_rfl)) rfl rfl rfl (fun _=>y4 y1J rfl rfl) ?_
 refine WD.e (i:=1) (d:=5) (by kernel_rfl) rfl (z6 (by kernel_rfl)) (z7 (by kernel_rfl)) rfl rfl rfl (ye yx rfl (y1O hz.pv zon rfl)) ?_
 refine WD.a (i:=2) (d:=6) (by kernel_rfl) rfl (z6 (by kernel_rfl)) (z7 (by kernel_rfl)) rfl rfl rfl (fun _=>y4 y21 rfl rfl) ?_
 refine WD.e (i:=3) (d:=7) (by kernel_rfl) rfl (z6 (by kernel_rfl)) (z7 (by kernel_rfl)) rfl rfl rfl (ye yx rfl (y1O hz.pv zoo rfl)) ?_
 refine WD.a (i:=4) (d:=8) (by kernel_rfl) rfl (z6 (by kernel_rfl)) (z7 (by kernel_rfl)) rfl rfl rfl (fun _=>y4d rfl rfl rfl) ?_
 refine WD.a (i:=5) (d:=9) (by kernel_rfl) rfl (z6 (by kernel_rfl)) (z7 (by kernel_rfl)) rfl rfl rfl (fun _=>y4 y21 rfl rfl) ?_
 refine WD.e (i:=6) (d:=10) (by kernel_rfl) rfl (z6 (by kernel_rfl)) (z7 (by kernel_rfl)) rfl rfl rfl (ye yx rfl (y1O hz.pv zon rfl)) ?_
 refine WD.a (i:=7) (d:=11) (by kernel_rfl) rfl (z6 (by kernel_rfl)) (z7 (by kernel_rfl)) rfl rfl rfl (fun _=>y4 y1J rfl rfl) ?_
 refine WD.e (i:=8) (d:=12) (by kernel_rfl) rfl (z6 (by kernel_rfl)) (z7 (by kernel_rfl)) rfl rfl rfl (ye yx rfl (y1O hz.pv zoo rfl)) ?_
 refine WD.a (i:=9) (d:=13) (by kernel_rfl) rfl (z6 (by kernel_rfl)) (z7 (by kernel_rfl)) rfl rfl rfl (fun _=>y4d rfl rfl rfl) ?_
 refine WD.a (i:=10) (d:=2) (by kernel_rfl) rfl (z6 (by kernel_rfl)) (z7 (by kernel_rfl)) rfl rfl rfl (fun _=>q_z rfl) ?_
 refine WD.a (i:=11) (d:=3) (by kernel_rfl) rfl (z6 (by kernel_rfl)) (z7 (by kernel_rfl)) rfl rfl rfl (fun _=>q_z rfl) ?_
 refine WD.done (by kernel_rfl) ?_
 refine WX.a ?_
 refine WC.ret ?_
 obtain rfl:=Option.some.inj h
 refine WX.y9 Try.results57 (.tmp rfl (.tmp rfl .nil)) (fun w hw=>?_)
 exact ⟨y1I rfl rfl,hw.sub .nil⟩
def y6v (z1h : z2) (z1a : z2) : Option (z2 × Int) :=
 (y1i z1h).bind fun zgJ=>(if !zgJ then some true else (y1i z1a).bind fun zjI=>some (!zjI)).bind fun zeZ=>if zeZ || (decide (z1a.fN = 0)) then some ((⟨0,0⟩ : z2),2) else (y5G z1h z1a).bind fun zdA=>(y20 zdA.1 zdA.2).bind fun zb4=>some (zb4.1,zb4.2)
set_option maxRecDepth 20000 in
theorem yab (Z : Zp)   (z1h : z2) (z1a : z2) (r : z2 × Int) (w₀ : World) (hz : PZ [] w₀ Z)
  (h : y6v z1h z1a = some r) :
  Calls Try.prog 40 #[(.string ⟨#[47]⟩),(.agg #[(.int .i64 z1h.fN),(.int .i64 z1h.fD)]),(.agg #[(.int .i64 z1a.fN),(.int .i64 z1a.fD)])] w₀ fun e w'=>e = .returned (.tuple #[(.agg #[(.int .i64 r.1.fN),(.int .i64 r.1.fD)]),(.int .i64 r.2)]) ∧ Hp [] w₀ w' []:=by
 unfold y6v at h
 refine Calls.yg (vs:=[(.string ⟨#[47]⟩),(.agg #[(.int .i64 z1h.fN),(.int .i64 z1h.fD)]),(.agg #[(.int .i64 z1a.fN),(.int .i64 z1a.fD)])]) (pre:=[]) (env:=[(0,(.string ⟨#[47]⟩)),(1,(.agg #[(.int .i64 z1h.fN),(.int .i64 z1h.fD)])),(2,(.agg #[(.int .i64 z1a.fN),(.int .i64 z1a.fD)]))]) Try.func40 rfl Try.ntmps40 rfl (Hp.nil w₀ _) rfl ?_
 refine WC.b ?_
 refine WC.a ?_
 refine WL.new (dd:=4) rfl rfl rfl (yK (cs:=[(.int .i64 z1h.fN),(.int .i64 z1h.fD)]) rfl rfl) ?_
 intro zT _
 refine WL.new (dd:=5) rfl rfl rfl (yK (cs:=[(.int .i64 z1a.fN),(.int .i64 z1a.fD)]) rfl rfl) ?_
 intro zU _
 refine WL.new (dd:=6) rfl rfl rfl (yh (cs:=[(.int .i64 0),(.int .i64 0)]) yo rfl) ?_
 intro z4o _
 refine WL.a (d:=7) rfl rfl rfl (q_z rfl) ?_
 refine WL.nil ?_
 refine WX.a ?_
 refine WC.b ?_
 refine WC.b ?_
 obtain ⟨zgJ,zsW,h⟩:=zb h
 obtain ⟨zeZ,zop,h⟩:=zb h
 refine WC.a ?_
 refine WL.a (d:=9) rfl rfl rfl (y6 (cs:=[(.int .i64 z1h.fN),(.int .i64 z1h.fD)]) y5 rfl rfl (y7 .h2)) ?_
 refine WL.b (dd:=10) rfl rfl rfl (zl (l:=[.tmp 9]) Try.call39 (.cons rfl .nil)) (.nil : Sel [stb z4o 30 [(.int .i64 0),(.int .i64 0)],stb zU 30 [(.int .i64 z1a.fN),(.int .i64 z1a.fD)],stb zT 30 [(.int .i64 z1h.fN),(.int .i64 z1h.fD)]] [] [stb z4o 30 [(.int .i64 0),(.int .i64 0)],stb zU 30 [(.int .i64 z1a.fN),(.int .i64 z1a.fD)],stb zT 30 [(.int .i64 z1h.fN),(.int .i64 z1h.fD)]]) (fun w hw=>by have pz:=(hz.call hw (.nil : Sel [stb z4o 30 [(.int .i64 0),(.int .i64 0)],stb zU 30 [(.int .i64 z1a.fN),(.int .i64 z1a.fD)],stb zT 30 [(.int .i64 z1h.fN),(.int .i64 z1h.fD)]] [] [stb z4o 30 [(.int .i64 0),(.int .i64 0)],stb zU 30 [(.int .i64 z1a.fN),(.int .i64 z1a.fD)],stb zT 30 [(.int .i64 z1h.fN),(.int .i64 z1h.fD)]])); exact y1F (Z:=_)  (z1p:=z1h) (r:=zgJ) w pz  zsW) ?_
 refine WL.a (d:=11) rfl rfl rfl (y1n rfl) ?_
 refine WL.a (d:=12) rfl rfl rfl (q_m rfl) ?_
 refine WL.yF True [(0,(.string ⟨#[47]⟩)),(4,(.pointer (some ⟨zT,0,none⟩))),(5,(.pointer (some ⟨zU,0,none⟩))),(6,(.pointer (some ⟨z4o,0,none⟩))),(16,(.bool zeZ))] [stb z4o 30 [(.int .i64 0),(.int .i64 0)],stb zU 30 [(.int .i64 z1a.fN),(.int .i64 z1a.fD)],stb zT 30 [(.int .i64 z1h.fN),(.int .i64 z1h.fD)]] 4 ?_ (fun _=>?_)
 ·rcases Bool.eq_false_or_eq_true (!zgJ) with hb' | hb'
  ·have zoq:=hb'; clear hb'
   have zjJ:=yj zop zoq
   replace zjJ:=Option.some.inj zjJ
   refine WL.pin (i:=12) rfl zoq ?_
   refine WL.e rfl rfl rfl ?_
   refine WL.e rfl rfl rfl ?_
   refine WL.e rfl rfl rfl ?_
   refine WL.a (d:=16) rfl rfl rfl (ys rfl rfl) ?_
   exact WL.ya () trivial (.cons rfl (.cons rfl (.cons rfl (.cons rfl (.cons (zt zjJ) .nil))))) (.cons .here (.cons .here (.cons .here .nil)))
  ·have zor:=hb'; clear hb'
   have zf0:=yk zop zor
   obtain ⟨zjI,zsX,zf0⟩:=zb zf0
   replace zf0:=Option.some.inj zf0
   refine WL.pin (i:=12) rfl zor ?_
   refine WL.a (d:=13) rfl rfl rfl (y6 (cs:=[(.int .i64 z1a.fN),(.int .i64 z1a.fD)]) y5 rfl rfl (y7 .h1)) ?_
   refine WL.b (dd:=14) rfl rfl rfl (zl (l:=[.tmp 13]) Try.call39 (.cons rfl .nil)) (.nil : Sel [stb z4o 30 [(.int .i64 0),(.int .i64 0)],stb zU 30 [(.int .i64 z1a.fN),(.int .i64 z1a.fD)],stb zT 30 [(.int .i64 z1h.fN),(.int .i64 z1h.fD)]] [] [stb z4o 30 [(.int .i64 0),(.int .i64 0)],stb zU 30 [(.int .i64 z1a.fN),(.int .i64 z1a.fD)],stb zT 30 [(.int .i64 z1h.fN),(.int .i64 z1h.fD)]]) (fun w hw=>by have pz:=(hz.call hw (.nil : Sel [stb z4o 30 [(.int .i64 0),(.int .i64 0)],stb zU 30 [(.int .i64 z1a.fN),(.int .i64 z1a.fD)],stb zT 30 [(.int .i64 z1h.fN),(.int .i64 z1h.fD)]] [] [stb z4o 30 [(.int .i64 0),(.int .i64 0)],stb zU 30 [(.int .i64 z1a.fN),(.int .i64 z1a.fD)],stb zT 30 [(.int .i64 z1h.fN),(.int .i64 z1h.fD)]])); exact y1F (Z:=_)  (z1p:=z1a) (r:=zjI) w pz  zsX) ?_
   refine WL.a (d:=15) rfl rfl rfl (y1n rfl) ?_
   refine WL.a (d:=16) rfl rfl rfl (yr rfl rfl) ?_
   exact WL.ya () trivial (.cons rfl (.cons rfl (.cons rfl (.cons rfl (.cons (zt zf0) .nil))))) (.cons .here (.cons .here (.cons .here .nil)))
 ·skip
  refine WL.a (d:=17) rfl rfl rfl (q_m rfl) ?_
  refine WL.yF True [(0,(.string ⟨#[47]⟩)),(4,(.pointer (some ⟨zT,0,none⟩))),(5,(.pointer (some ⟨zU,0,none⟩))),(6,(.pointer (some ⟨z4o,0,none⟩))),(25,(.bool (zeZ || (decide (z1a.fN = 0)))))] [stb z4o 30 [(.int .i64 0),(.int .i64 0)],stb zU 30 [(.int .i64 z1a.fN),(.int .i64 z1a.fD)],stb zT 30 [(.int .i64 z1h.fN),(.int .i64 z1h.fD)]] 8 ?_ (fun _=>?_)
  ·rcases Bool.eq_false_or_eq_true zeZ with hb' | hb'
   ·have zos:=hb'; clear hb'
    refine WL.pin (i:=17) rfl zos ?_
    refine WL.e rfl rfl rfl ?_
    refine WL.e rfl rfl rfl ?_
    refine WL.e rfl rfl rfl ?_
    refine WL.e rfl rfl rfl ?_
    refine WL.e rfl rfl rfl ?_
    refine WL.e rfl rfl rfl ?_
    refine WL.e rfl rfl rfl ?_
    refine WL.a (d:=25) rfl rfl rfl (ys rfl rfl) ?_
    exact WL.ya () trivial (.cons rfl (.cons rfl (.cons rfl (.cons rfl (.cons (zt (y5s zos)) .nil))))) (.cons .here (.cons .here (.cons .here .nil)))
   ·have zot:=hb'; clear hb'
    refine WL.pin (i:=17) rfl zot ?_
    refine WL.a (d:=18) rfl rfl rfl (q_m rfl) ?_
    refine WL.a (d:=19) rfl rfl rfl (y7C (r:=true) (by decide) rfl rfl) ?_
    refine WL.a (d:=20) rfl rfl rfl (q_m rfl) ?_
    refine WL.a (d:=21) rfl rfl rfl (y4 y1J rfl rfl) ?_
    refine WL.a (d:=22) rfl rfl rfl (ye yx rfl (yu .h1 rfl)) ?_
    refine WL.a (d:=23) rfl rfl rfl (y3g rfl rfl) ?_
    refine WL.a (d:=24) rfl rfl rfl (ys rfl rfl) ?_
    refine WL.a (d:=25) rfl rfl rfl (yr rfl rfl) ?_
    exact WL.ya () trivial (.cons rfl (.cons rfl (.cons rfl (.cons rfl (.cons (zt (y5t zot)) .nil))))) (.cons .here (.cons .here (.cons .here .nil)))
  ·skip
   refine WL.nil ?_
   refine WX.a ?_
   refine WC.cond rfl (fun zjK=>?_) (fun zjK=>?_)
   ·replace h:=yj h zjK
    refine WC.b ?_
    refine WC.a ?_
    refine WL.a (d:=26) rfl rfl rfl (y1j (v:=(.agg #[(.int .i64 0),(.int .i64 0)])) (Eos.parts (l:=[]) .nil []) (fun _=>by kernel_rfl)) ?_
    refine WL.yc rfl rfl (yd (vs:=[(.int .i64 0),(.int .i64 0)]) (ds:=[(.int .i64 0),(.int .i64 0)]) yl rfl rfl rfl rfl (y3 rfl (y3 rfl yf)) .here (Nat.le_of_ble_eq_true rfl) rfl) ?_
    refine WL.a (d:=7) rfl rfl rfl (q_z rfl) ?_
    refine WL.nil ?_
    refine WX.a ?_
    refine WC.ret ?_
    refine WX.y8 ?_
    obtain rfl:=Option.some.inj h
    refine WX.y9 Try.results40 (.agg rfl y5 rfl (y7 .here) (.tmp rfl .nil)) (fun w hw=>?_)
    exact ⟨y1I rfl rfl,hw.sub .nil⟩
   ·replace h:=yk h zjK
    refine WC.skip ?_
    refine WX.a ?_
    refine WC.b ?_
    refine WC.a ?_
    refine WL.new (dd:=27) rfl rfl rfl (y6u Value.string (fun x=>x)) ?_
    intro z7C _
    refine WL.a (d:=28) rfl rfl rfl (y18 (Eos.caps (l:=[.tmp 4,.tmp 5]) (.cons rfl (.cons rfl .nil)))) ?_
    refine WL.yc rfl rfl (y2d (k:=⟨#[43]⟩) (v:=(.func (.func 54) #[] #[(.pointer (some ⟨zT,0,none⟩)),(.pointer (some ⟨zU,0,none⟩))])) y2p Try.underlying105 rfl rfl rfl rfl .here) ?_
    refine WL.a (d:=29) rfl rfl rfl (y18 (Eos.caps (l:=[.tmp 4,.tmp 5]) (.cons rfl (.cons rfl .nil)))) ?_
    refine WL.yc rfl rfl (y2d (k:=⟨#[45]⟩) (v:=(.func (.func 55) #[] #[(.pointer (some ⟨zT,0,none⟩)),(.pointer (some ⟨zU,0,none⟩))])) y2p Try.underlying105 rfl rfl rfl rfl .here) ?_
    refine WL.a (d:=30) rfl rfl rfl (y18 (Eos.caps (l:=[.tmp 4,.tmp 5]) (.cons rfl (.cons rfl .nil)))) ?_
    refine WL.yc rfl rfl (y2d (k:=⟨#[42]⟩) (v:=(.func (.func 56) #[] #[(.pointer (some ⟨zT,0,none⟩)),(.pointer (some ⟨zU,0,none⟩))])) y2p Try.underlying105 rfl rfl rfl rfl .here) ?_
    refine WL.a (d:=31) rfl rfl rfl (y18 (Eos.caps (l:=[.tmp 4,.tmp 5]) (.cons rfl (.cons rfl .nil)))) ?_
    refine WL.yc rfl rfl (y2d (k:=⟨#[47]⟩) (v:=(.func (.func 57) #[] #[(.pointer (some ⟨zT,0,none⟩)),(.pointer (some ⟨zU,0,none⟩))])) y2p Try.underlying105 rfl rfl rfl rfl .here) ?_
    refine WL.a (d:=32) rfl rfl rfl (q_m rfl) ?_
    refine WL.a (d:=8) rfl rfl rfl (q_z rfl) ?_
    refine WL.nil ?_
    refine WX.a ?_
    refine WC.b ?_
    obtain ⟨zdA,zsY,h⟩:=zb h
    obtain ⟨zb4,zsZ,h⟩:=zb h
    refine WC.a ?_
    refine WL.a (d:=33) rfl rfl rfl (q_m rfl) ?_
    refine WL.a (d:=34) rfl rfl rfl (q_m rfl) ?_
    refine WL.a (d:=35) rfl rfl rfl (y7B (k:=⟨#[47]⟩) (dflt:=.nilFunc) (r:=(.func (.func 57) #[] #[(.pointer (some ⟨zT,0,none⟩)),(.pointer (some ⟨zU,0,none⟩))])) y2p Try.underlying105 zgk rfl rfl rfl .here (by rfl)) ?_
    refine WL.b (dd:=36) rfl rfl rfl (y2f (l:=[]) Try.call57 rfl .nil) (.nil : Sel [yN z7C Value.string (fun x=>x) [(⟨#[43]⟩,(.func (.func 54) #[] #[(.pointer (some ⟨zT,0,none⟩)),(.pointer (some ⟨zU,0,none⟩))])),(⟨#[45]⟩,(.func (.func 55) #[] #[(.pointer (some ⟨zT,0,none⟩)),(.pointer (some ⟨zU,0,none⟩))])),(⟨#[42]⟩,(.func (.func 56) #[] #[(.pointer (some ⟨zT,0,none⟩)),(.pointer (some ⟨zU,0,none⟩))])),(⟨#[47]⟩,(.func (.func 57) #[] #[(.pointer (some ⟨zT,0,none⟩)),(.pointer (some ⟨zU,0,none⟩))]))],stb z4o 30 [(.int .i64 0),(.int .i64 0)],stb zU 30 [(.int .i64 z1a.fN),(.int .i64 z1a.fD)],stb zT 30 [(.int .i64 z1h.fN),(.int .i64 z1h.fD)]] [] [yN z7C Value.string (fun x=>x) [(⟨#[43]⟩,(.func (.func 54) #[] #[(.pointer (some ⟨zT,0,none⟩)),(.pointer (some ⟨zU,0,none⟩))])),(⟨#[45]⟩,(.func (.func 55) #[] #[(.pointer (some ⟨zT,0,none⟩)),(.pointer (some ⟨zU,0,none⟩))])),(⟨#[42]⟩,(.func (.func 56) #[] #[(.pointer (some ⟨zT,0,none⟩)),(.pointer (some ⟨zU,0,none⟩))])),(⟨#[47]⟩,(.func (.func 57) #[] #[(.pointer (some ⟨zT,0,none⟩)),(.pointer (some ⟨zU,0,none⟩))]))],stb z4o 30 [(.int .i64 0),(.int .i64 0)],stb zU 30 [(.int .i64 z1a.fN),(.int .i64 z1a.fD)],stb zT 30 [(.int .i64 z1h.fN),(.int .i64 z1h.fD)]]) (fun w hw=>by have pz:=(hz.call hw (.nil : Sel [yN z7C Value.string (fun x=>x) [(⟨#[43]⟩,(.func (.func 54) #[] #[(.pointer (some ⟨zT,0,none⟩)),(.pointer (some ⟨zU,0,none⟩))])),(⟨#[45]⟩,(.func (.func 55) #[] #[(.pointer (some ⟨zT,0,none⟩)),(.pointer (some ⟨zU,0,none⟩))])),(⟨#[42]⟩,(.func (.func 56) #[] #[(.pointer (some ⟨zT,0,none⟩)),(.pointer (some ⟨zU,0,none⟩))])),(⟨#[47]⟩,(.func (.func 57) #[] #[(.pointer (some ⟨zT,0,none⟩)),(.pointer (some ⟨zU,0,none⟩))]))],stb z4o 30 [(.int .i64 0),(.int .i64 0)],stb zU 30 [(.int .i64 z1a.fN),(.int .i64 z1a.fD)],stb zT 30 [(.int .i64 z1h.fN),(.int .i64 z1h.fD)]] [] [yN z7C Value.string (fun x=>x) [(⟨#[43]⟩,(.func (.func 54) #[] #[(.pointer (some ⟨zT,0,none⟩)),(.pointer (some ⟨zU,0,none⟩))])),(⟨#[45]⟩,(.func (.func 55) #[] #[(.pointer (some ⟨zT,0,none⟩)),(.pointer (some ⟨zU,0,none⟩))])),(⟨#[42]⟩,(.func (.func 56) #[] #[(.pointer (some ⟨zT,0,none⟩)),(.pointer (some ⟨zU,0,none⟩))])),(⟨#[47]⟩,(.func (.func 57) #[] #[(.pointer (some ⟨zT,0,none⟩)),(.pointer (some ⟨zU,0,none⟩))]))],stb z4o 30 [(.int .i64 0),(.int .i64 0)],stb zU 30 [(.int .i64 z1a.fN),(.int .i64 z1a.fD)],stb zT 30 [(.int .i64 z1h.fN),(.int .i64 z1h.fD)]])).lend hw (.nil : Sel [yN z7C Value.string (fun x=>x) [(⟨#[43]⟩,(.func (.func 54) #[] #[(.pointer (some ⟨zT,0,none⟩)),(.pointer (some ⟨zU,0,none⟩))])),(⟨#[45]⟩,(.func (.func 55) #[] #[(.pointer (some ⟨zT,0,none⟩)),(.pointer (some ⟨zU,0,none⟩))])),(⟨#[42]⟩,(.func (.func 56) #[] #[(.pointer (some ⟨zT,0,none⟩)),(.pointer (some ⟨zU,0,none⟩))])),(⟨#[47]⟩,(.func (.func 57) #[] #[(.pointer (some ⟨zT,0,none⟩)),(.pointer (some ⟨zU,0,none⟩))]))],stb z4o 30 [(.int .i64 0),(.int .i64 0)],stb zU 30 [(.int .i64 z1a.fN),(.int .i64 z1a.fD)],stb zT 30 [(.int .i64 z1h.fN),(.int .i64 z1h.fD)]] [] [yN z7C Value.string (fun x=>x) [(⟨#[43]⟩,(.func (.func 54) #[] #[(.pointer (some ⟨zT,0,none⟩)),(.pointer (some ⟨zU,0,none⟩))])),(⟨#[45]⟩,(.func (.func 55) #[] #[(.pointer (some ⟨zT,0,none⟩)),(.pointer (some ⟨zU,0,none⟩))])),(⟨#[42]⟩,(.func (.func 56) #[] #[(.pointer (some ⟨zT,0,none⟩)),(.pointer (some ⟨zU,0,none⟩))])),(⟨#[47]⟩,(.func (.func 57) #[] #[(.pointer (some ⟨zT,0,none⟩)),(.pointer (some ⟨zU,0,none⟩))]))],stb z4o 30 [(.int .i64 0),(.int .i64 0)],stb zU 30 [(.int .i64 z1a.fN),(.int .i64 z1a.fD)],stb zT 30 [(.int .i64 z1h.fN),(.int .i64 z1h.fD)]]) (B:=[stb zT 30 [(.int .i64 z1h.fN),(.int .i64 z1h.fD)],stb zU 30 [(.int .i64 z1a.fN),(.int .i64 z1a.fD)]]) (fun _ hx'=>((.cons .h3 (.cons .h2 .nil)) : Sel _ [stb zT 30 [(.int .i64 z1h.fN),(.int .i64 z1h.fD)],stb zU 30 [(.int .i64 z1a.fN),(.int .i64 z1a.fD)]] _).mem hx'); exact y9R (Z:=_) (zeX:=⟨zT,0,none⟩) (zeY:=⟨zU,0,none⟩) (zcd:=z1h) (zce:=z1a) (r:=zdA) w pz ((hw.lent (.nil : Sel [yN z7C Value.string (fun x=>x) [(⟨#[43]⟩,(.func (.func 54) #[] #[(.pointer (some ⟨zT,0,none⟩)),(.pointer (some ⟨zU,0,none⟩))])),(⟨#[45]⟩,(.func (.func 55) #[] #[(.pointer (some ⟨zT,0,none⟩)),(.pointer (some ⟨zU,0,none⟩))])),(⟨#[42]⟩,(.func (.func 56) #[] #[(.pointer (some ⟨zT,0,none⟩)),(.pointer (some ⟨zU,0,none⟩))])),(⟨#[47]⟩,(.func (.func 57) #[] #[(.pointer (some ⟨zT,0,none⟩)),(.pointer (some ⟨zU,0,none⟩))]))],stb z4o 30 [(.int .i64 0),(.int .i64 0)],stb zU 30 [(.int .i64 z1a.fN),(.int .i64 z1a.fD)],stb zT 30 [(.int .i64 z1h.fN),(.int .i64 z1h.fD)]] [] [yN z7C Value.string (fun x=>x) [(⟨#[43]⟩,(.func (.func 54) #[] #[(.pointer (some ⟨zT,0,none⟩)),(.pointer (some ⟨zU,0,none⟩))])),(⟨#[45]⟩,(.func (.func 55) #[] #[(.pointer (some ⟨zT,0,none⟩)),(.pointer (some ⟨zU,0,none⟩))])),(⟨#[42]⟩,(.func (.func 56) #[] #[(.pointer (some ⟨zT,0,none⟩)),(.pointer (some ⟨zU,0,none⟩))])),(⟨#[47]⟩,(.func (.func 57) #[] #[(.pointer (some ⟨zT,0,none⟩)),(.pointer (some ⟨zU,0,none⟩))]))],stb z4o 30 [(.int .i64 0),(.int .i64 0)],stb zU 30 [(.int .i64 z1a.fN),(.int .i64 z1a.fD)],stb zT 30 [(.int .i64 z1h.fN),(.int .i64 z1h.fD)]]) (B:=[stb zT 30 [(.int .i64 z1h.fN),(.int .i64 z1h.fD)],stb zU 30 [(.int .i64 z1a.fN),(.int .i64 z1a.fD)]]) (fun _ hx'=>((.cons .h3 (.cons .h2 .nil)) : Sel _ [stb zT 30 [(.int .i64 z1h.fN),(.int .i64 z1h.fD)],stb zU 30 [(.int .i64 z1a.fN),(.int .i64 z1a.fD)]] _).mem hx') (.head _) _).stb) ((hw.lent (.nil : Sel [yN z7C Value.string (fun x=>x) [(⟨#[43]⟩,(.func (.func 54) #[] #[(.pointer (some ⟨zT,0,none⟩)),(.pointer (some ⟨zU,0,none⟩))])),(⟨#[45]⟩,(.func (.func 55) #[] #[(.pointer (some ⟨zT,0,none⟩)),(.pointer (some ⟨zU,0,none⟩))])),(⟨#[42]⟩,(.func (.func 56) #[] #[(.pointer (some ⟨zT,0,none⟩)),(.pointer (some ⟨zU,0,none⟩))])),(⟨#[47]⟩,(.func (.func 57) #[] #[(.pointer (some ⟨zT,0,none⟩)),(.pointer (some ⟨zU,0,none⟩))]))],stb z4o 30 [(.int .i64 0),(.int .i64 0)],stb zU 30 [(.int .i64 z1a.fN),(.int .i64 z1a.fD)],stb zT 30 [(.int .i64 z1h.fN),(.int .i64 z1h.fD)]] [] [yN z7C Value.string (fun x=>x) [(⟨#[43]⟩,(.func (.func 54) #[] #[(.pointer (some ⟨zT,0,none⟩)),(.pointer (some ⟨zU,0,none⟩))])),(⟨#[45]⟩,(.func (.func 55) #[] #[(.pointer (some ⟨zT,0,none⟩)),(.pointer (some ⟨zU,0,none⟩))])),(⟨#[42]⟩,(.func (.func 56) #[] #[(.pointer (some ⟨zT,0,none⟩)),(.pointer (some ⟨zU,0,none⟩))])),(⟨#[47]⟩,(.func (.func 57) #[] #[(.pointer (some ⟨zT,0,none⟩)),(.pointer (some ⟨zU,0,none⟩))]))],stb z4o 30 [(.int .i64 0),(.int .i64 0)],stb zU 30 [(.int .i64 z1a.fN),(.int .i64 z1a.fD)],stb zT 30 [(.int .i64 z1h.fN),(.int .i64 z1h.fD)]]) (B:=[stb zT 30 [(.int .i64 z1h.fN),(.int .i64 z1h.fD)],stb zU 30 [(.int .i64 z1a.fN),(.int .i64 z1a.fD)]]) (fun _ hx'=>((.cons .h3 (.cons .h2 .nil)) : Sel _ [stb zT 30 [(.int .i64 z1h.fN),(.int .i64 z1h.fD)],stb zU 30 [(.int .i64 z1a.fN),(.int .i64 z1a.fD)]] _).mem hx') (.tail _ (.head _)) _).stb) zsY) ?_
    refine WL.a (d:=37) rfl rfl rfl (yb rfl rfl) ?_
    refine WL.a (d:=38) rfl rfl rfl (yb rfl rfl) ?_
    refine WL.b (dd:=39) rfl rfl rfl (zl (l:=[.tmp 37,.tmp 38]) Try.call9 (.cons rfl (.cons rfl .nil))) (.nil : Sel [yN z7C Value.string (fun x=>x) [(⟨#[43]⟩,(.func (.func 54) #[] #[(.pointer (some ⟨zT,0,none⟩)),(.pointer (some ⟨zU,0,none⟩))])),(⟨#[45]⟩,(.func (.func 55) #[] #[(.pointer (some ⟨zT,0,none⟩)),(.pointer (some ⟨zU,0,none⟩))])),(⟨#[42]⟩,(.func (.func 56) #[] #[(.pointer (some ⟨zT,0,none⟩)),(.pointer (some ⟨zU,0,none⟩))])),(⟨#[47]⟩,(.func (.func 57) #[] #[(.pointer (some ⟨zT,0,none⟩)),(.pointer (some ⟨zU,0,none⟩))]))],stb z4o 30 [(.int .i64 0),(.int .i64 0)],stb zU 30 [(.int .i64 z1a.fN),(.int .i64 z1a.fD)],stb zT 30 [(.int .i64 z1h.fN),(.int .i64 z1h.fD)]] [] [yN z7C Value.string (fun x=>x) [(⟨#[43]⟩,(.func (.func 54) #[] #[(.pointer (some ⟨zT,0,none⟩)),(.pointer (some ⟨zU,0,none⟩))])),(⟨#[45]⟩,(.func (.func 55) #[] #[(.pointer (some ⟨zT,0,none⟩)),(.pointer (some ⟨zU,0,none⟩))])),(⟨#[42]⟩,(.func (.func 56) #[] #[(.pointer (some ⟨zT,0,none⟩)),(.pointer (some ⟨zU,0,none⟩))])),(⟨#[47]⟩,(.func (.func 57) #[] #[(.pointer (some ⟨zT,0,none⟩)),(.pointer (some ⟨zU,0,none⟩))]))],stb z4o 30 [(.int .i64 0),(.int .i64 0)],stb zU 30 [(.int .i64 z1a.fN),(.int .i64 z1a.fD)],stb zT 30 [(.int .i64 z1h.fN),(.int .i64 z1h.fD)]]) (fun w hw=>by have pz:=(hz.call hw (.nil : Sel [yN z7C Value.string (fun x=>x) [(⟨#[43]⟩,(.func (.func 54) #[] #[(.pointer (some ⟨zT,0,none⟩)),(.pointer (some ⟨zU,0,none⟩))])),(⟨#[45]⟩,(.func (.func 55) #[] #[(.pointer (some ⟨zT,0,none⟩)),(.pointer (some ⟨zU,0,none⟩))])),(⟨#[42]⟩,(.func (.func 56) #[] #[(.pointer (some ⟨zT,0,none⟩)),(.pointer (some ⟨zU,0,none⟩))])),(⟨#[47]⟩,(.func (.func 57) #[] #[(.pointer (some ⟨zT,0,none⟩)),(.pointer (some ⟨zU,0,none⟩))]))],stb z4o 30 [(.int .i64 0),(.int .i64 0)],stb zU 30 [(.int .i64 z1a.fN),(.int .i64 z1a.fD)],stb zT 30 [(.int .i64 z1h.fN),(.int .i64 z1h.fD)]] [] [yN z7C Value.string (fun x=>x) [(⟨#[43]⟩,(.func (.func 54) #[] #[(.pointer (some ⟨zT,0,none⟩)),(.pointer (some ⟨zU,0,none⟩))])),(⟨#[45]⟩,(.func (.func 55) #[] #[(.pointer (some ⟨zT,0,none⟩)),(.pointer (some ⟨zU,0,none⟩))])),(⟨#[42]⟩,(.func (.func 56) #[] #[(.pointer (some ⟨zT,0,none⟩)),(.pointer (some ⟨zU,0,none⟩))])),(⟨#[47]⟩,(.func (.func 57) #[] #[(.pointer (some ⟨zT,0,none⟩)),(.pointer (some ⟨zU,0,none⟩))]))],stb z4o 30 [(.int .i64 0),(.int .i64 0)],stb zU 30 [(.int .i64 z1a.fN),(.int .i64 z1a.fD)],stb zT 30 [(.int .i64 z1h.fN),(.int .i64 z1h.fD)]])); exact y3k (Z:=_)  (z6E:=zdA.1) (z67:=zdA.2) (r:=zb4) w pz  zsZ) ?_
    refine WL.a (d:=40) rfl rfl rfl (yb rfl rfl) ?_
    refine WL.a (d:=41) rfl rfl rfl (yb rfl rfl) ?_
    refine WL.yc rfl rfl (yd (vs:=[(.int .i64 zb4.1.fN),(.int .i64 zb4.1.fD)]) (ds:=[(.int .i64 zb4.1.fN),(.int .i64 zb4.1.fD)]) yl rfl rfl rfl rfl (y3 rfl (y3 rfl yf)) .h1 (Nat.le_of_ble_eq_true rfl) rfl) ?_
    refine WL.a (d:=7) rfl rfl rfl (q_z rfl) ?_
    refine WL.nil ?_
    refine WX.a ?_
    refine WC.ret ?_
    obtain rfl:=Option.some.inj h
    refine WX.y9 Try.results40 (.agg rfl y5 rfl (y7 .here) (.tmp rfl .nil)) (fun w hw=>?_)
    exact ⟨y1I rfl rfl,hw.sub .nil⟩
def y2Q (z4K : z2) (z4L : z2) : Option (z2 × Int) :=
 (y6v z4K z4L).bind fun zb5=>some (zb5.1,zb5.2)
set_option maxRecDepth 20000 in
theorem y8E (Z : Zp)   (z4K : z2) (z4L : z2) (r : z2 × Int) (w₀ : World) (hz : PZ [] w₀ Z)
  (h : y2Q z4K z4L = some r) :
  Calls Try.prog 34 #[(.agg #[(.int .i64 z4K.fN),(.int .i64 z4K.fD)]),(.agg #[(.int .i64 z4L.fN),(.int .i64 z4L.fD)])] w₀ fun e w'=>e = .returned (.tuple #[(.agg #[(.int .i64 r.1.fN),(.int .i64 r.1.fD)]),(.int .i64 r.2)]) ∧ Hp [] w₀ w' []:=by
 unfold y2Q at h
 refine Calls.yg (vs:=[(.agg #[(.int .i64 z4K.fN),(.int .i64 z4K.fD)]),(.agg #[(.int .i64 z4L.fN),(.int .i64 z4L.fD)])]) (pre:=[]) (env:=[(0,(.agg #[(.int .i64 z4K.fN),(.int .i64 z4K.fD)])),(1,(.agg #[(.int .i64 z4L.fN),(.int .i64 z4L.fD)]))]) Try.func34 rfl Try.ntmps34 rfl (Hp.nil w₀ _) rfl ?_
 refine WC.b ?_
 refine WC.a ?_
 refine WL.new (dd:=2) rfl rfl rfl (yK (cs:=[(.int .i64 z4K.fN),(.int .i64 z4K.fD)]) rfl rfl) ?_
 intro zgK _
 refine WL.new (dd:=3) rfl rfl rfl (yK (cs:=[(.int .i64 z4L.fN),(.int .i64 z4L.fD)]) rfl rfl) ?_
 intro zgL _
 refine WL.new (dd:=4) rfl rfl rfl (yh (cs:=[(.int .i64 0),(.int .i64 0)]) yo rfl) ?_
 intro zgM _
 refine WL.a (d:=5) rfl rfl rfl (q_z rfl) ?_
 refine WL.nil ?_
 refine WX.a ?_
 refine WC.b ?_
 obtain ⟨zb5,zt0,h⟩:=zb h
 refine WC.a ?_
 refine WL.a (d:=6) rfl rfl rfl (y6 (cs:=[(.int .i64 z4K.fN),(.int .i64 z4K.fD)]) y5 rfl rfl (y7 .h2)) ?_
 refine WL.a (d:=7) rfl rfl rfl (y6 (cs:=[(.int .i64 z4L.fN),(.int .i64 z4L.fD)]) y5 rfl rfl (y7 .h1)) ?_
 refine WL.b (dd:=8) rfl rfl rfl (zl (l:=[.const (.string ⟨#[47]⟩),.tmp 6,.tmp 7]) Try.call40 (.cons rfl (.cons rfl (.cons rfl .nil)))) (.nil : Sel [stb zgM 30 [(.int .i64 0),(.int .i64 0)],stb zgL 30 [(.int .i64 z4L.fN),(.int .i64 z4L.fD)],stb zgK 30 [(.int .i64 z4K.fN),(.int .i64 z4K.fD)]] [] [stb zgM 30 [(.int .i64 0),(.int .i64 0)],stb zgL 30 [(.int .i64 z4L.fN),(.int .i64 z4L.fD)],stb zgK 30 [(.int .i64 z4K.fN),(.int .i64 z4K.fD)]]) (fun w hw=>by have pz:=(hz.call hw (.nil : Sel [stb zgM 30 [(.int .i64 0),(.int .i64 0)],stb zgL 30 [(.int .i64 z4L.fN),(.int .i64 z4L.fD)],stb zgK 30 [(.int .i64 z4K.fN),(.int .i64 z4K.fD)]] [] [stb zgM 30 [(.int .i64 0),(.int .i64 0)],stb zgL 30 [(.int .i64 z4L.fN),(.int .i64 z4L.fD)],stb zgK 30 [(.int .i64 z4K.fN),(.int .i64 z4K.fD)]])); exact yab (Z:=_)  (z1h:=z4K) (z1a:=z4L) (r:=zb5) w pz  zt0) ?_
 refine WL.a (d:=9) rfl rfl rfl (yb rfl rfl) ?_
 refine WL.a (d:=10) rfl rfl rfl (yb rfl rfl) ?_
 refine WL.yc rfl rfl (yd (vs:=[(.int .i64 zb5.1.fN),(.int .i64 zb5.1.fD)]) (ds:=[(.int .i64 zb5.1.fN),(.int .i64 zb5.1.fD)]) yl rfl rfl rfl rfl (y3 rfl (y3 rfl yf)) .here (Nat.le_of_ble_eq_true rfl) rfl) ?_
 refine WL.a (d:=5) rfl rfl rfl (q_z rfl) ?_
 refine WL.nil ?_
 refine WX.a ?_
 refine WC.ret ?_
 obtain rfl:=Option.some.inj h
 refine WX.y9 Try.results34 (.agg rfl y5 rfl (y7 .here) (.tmp rfl .nil)) (fun w hw=>?_)
 exact ⟨y1I rfl rfl,hw.sub .nil⟩
theorem srtA_90 : ∀ w,(isAgg (Try.y2i.t 24)).run Try.prog w = .ok true w:=fun _=>by kernel_rfl
theorem srtZ_90 : ∀ w,(Go.sizeOf (Try.y2i.t 24)).run Try.prog w = .ok 2 w:=fun _=>by kernel_rfl
def y2s (z6G : List z2) (zf1 : Int) (zf2 : Int) (zdB : Int) (zcf : z2 → z2 → Option Int) : Option (List z2):=chk ((zf1 = 0 ∧ zf2 = ((z6G.length : Nat) : Int)) ∧ (0 ≤ zdB ∧ zdB < 4611686018427387904 ∧ z6G.length < 4611686018427387904)) (chk (ordB zcf (y1s zcf z6G) = true) (some (y1s zcf z6G)))
theorem y4O (Z : Zp) (zcg : Option Addr) (zch : Nat) (zf3 : FuncId) (zjL : List Value) (z6G : List z2) (zf1 : Int) (zf2 : Int) (zdB : Int) (zcf : z2 → z2 → Option Int) (r : List z2) (w₀ : World) (hz : PZ (fps [row (.slice zcg z6G.length zch) 30 2 (z6G.flatMap e30)]) w₀ Z)
  (zt1 : ∀ args w,(callFunc zf3 args).run Try.prog w = .ok (.enter zf3 args) w)
  (zt2 : ∀ w : World,PZ [] w Z → ∀ (x0 : z2) (x1 : z2) (r : Int),zcf x0 x1 = some r → Calls Try.prog zf3 (([(.agg #[(.int .i64 x0.fN),(.int .i64 x0.fD)]),(.agg #[(.int .i64 x1.fN),(.int .i64 x1.fD)])] : List Value) ++ zjL).toArray w fun e w'=>e = .returned (.int .i64 r) ∧ Hp [] w w' [])
  (h : y2s z6G zf1 zf2 zdB zcf = some r) (hown : Hp (fps [row (.slice zcg z6G.length zch) 30 2 (z6G.flatMap e30)]) w₀ w₀ [row (.slice zcg z6G.length zch) 30 2 (z6G.flatMap e30)]) :
  Calls Try.prog 90 #[(.slice zcg z6G.length zch),(.int .i64 zf1),(.int .i64 zf2),(.int .i64 zdB),(.func (.func zf3) #[] (zjL).toArray)] w₀ fun e w'=>e = .returned (.tuple #[]) ∧ (r.length = z6G.length) ∧ Hp (fps [row (.slice zcg z6G.length zch) 30 2 (z6G.flatMap e30)]) w₀ w' [row (.slice zcg r.length zch) 30 2 (r.flatMap e30)]:=by
 obtain ⟨h0,h⟩:=yp h
 obtain ⟨h1,h⟩:=yp h
 have hr:=(Option.some.inj h).symm
 exact y8D (P:=Try.prog) (f:=90) (e:=30) (k:=2) (enc:=e30) (fun _=>rfl) (by decide) y86 (fun β _ enc cf g cb hO blk off cap d0 w0 eg hC R=>Try.y5w 2 srtA_90 srtZ_90 enc cf g cb hO blk off cap d0 w0 eg hC R) (Try.y5k (α:=Unit)) hz zt1 zt2 h0 h1 hr hown
def y1p (z2F : List z2) (zdC : z2 → z2 → Option Int) : Option (List z2) :=
 (y4U (u64 ((z2F.length : Nat) : Int))).bind fun zgN=>(y2s z2F 0 ((z2F.length : Nat) : Int) zgN zdC).bind fun zgO=>some zgO
set_option maxRecDepth 20000 in
theorem y4w (Z : Zp)  (z5c : Option Addr) (z5d : Nat) (zb6 : FuncId) (zdD : List Value) (z2F : List z2) (zdC : z2 → z2 → Option Int) (r : List z2) (w₀ : World) (hz : PZ (fps [row (.slice z5c z2F.length z5d) 30 2 (z2F.flatMap e30)]) w₀ Z)
  (zt3 : ∀ args w,(callFunc zb6 args).run Try.prog w = .ok (.enter zb6 args) w)
  (zt4 : ∀ w : World,PZ [] w Z → ∀ (x0 : z2) (x1 : z2) (r : Int),zdC x0 x1 = some r → Calls Try.prog zb6 (([(.agg #[(.int .i64 x0.fN),(.int .i64 x0.fD)]),(.agg #[(.int .i64 x1.fN),(.int .i64 x1.fD)])] : List Value) ++ zdD).toArray w fun e w'=>e = .returned (.int .i64 r) ∧ Hp [] w w' [])
  (h : y1p z2F zdC = some r)
  (hown : Hp (fps [row (.slice z5c z2F.length z5d) 30 2 (z2F.flatMap e30)]) w₀ w₀ [row (.slice z5c z2F.length z5d) 30 2 (z2F.flatMap e30)]) :
  Calls Try.prog 77 #[(.slice z5c z2F.length z5d),(.func (.func zb6) #[] (zdD).toArray)] w₀ fun e w'=>e = .returned (.tuple #[]) ∧ (r.length = z2F.length) ∧ Hp (fps [row (.slice z5c z2F.length z5d) 30 2 (z2F.flatMap e30)]) w₀ w' [row (.slice z5c r.length z5d) 30 2 (r.flatMap e30)]:=by
 unfold y1p at h
 refine Calls.yg (vs:=[(.slice z5c z2F.length z5d),(.func (.func zb6) #[] (zdD).toArray)]) (pre:=[row (.slice z5c z2F.length z5d) 30 2 (z2F.flatMap e30)]) (env:=[(0,(.slice z5c z2F.length z5d)),(1,(.func (.func zb6) #[] (zdD).toArray))]) Try.func77 rfl Try.ntmps77 rfl (hown) rfl ?_
 refine WC.b ?_
 refine WC.a ?_
 refine WL.a (d:=5) rfl rfl rfl (q_m rfl) ?_
 refine WL.a (d:=6) rfl rfl rfl (y1k Try.underlying77 rfl) ?_
 refine WL.a (d:=4) rfl rfl rfl (q_z rfl) ?_
 refine WL.nil ?_
 refine WX.a ?_
 obtain ⟨zgN,zt5,h⟩:=zb h
 obtain ⟨zgO,zt6,h⟩:=zb h
 refine WC.a ?_
 refine WL.a (d:=7) rfl rfl rfl (q_m rfl) ?_
 refine WL.a (d:=8) rfl rfl rfl (q_m rfl) ?_
 refine WL.a (d:=9) rfl rfl rfl (q_m rfl) ?_
 refine WL.a (d:=10) rfl rfl rfl (y47 Try.underlying3 Try.underlying120 rfl rfl) ?_
 refine WL.b (dd:=11) rfl rfl rfl (zl (l:=[.tmp 10]) Try.call74 (.cons rfl .nil)) (.nil : Sel [row (.slice z5c z2F.length z5d) 30 2 (z2F.flatMap e30)] [] [row (.slice z5c z2F.length z5d) 30 2 (z2F.flatMap e30)]) (fun w hw=>by have pz:=(hz.call hw (.nil : Sel [row (.slice z5c z2F.length z5d) 30 2 (z2F.flatMap e30)] [] [row (.slice z5c z2F.length z5d) 30 2 (z2F.flatMap e30)])); exact y88 (Z:=_)  (za3:=(u64 ((z2F.length : Nat) : Int))) (r:=zgN) w pz  zt5) ?_
 refine WL.a (d:=12) rfl rfl rfl (q_m rfl) ?_
 refine WL.y6s (dd:=13) rfl rfl rfl (zl (l:=[.tmp 7,.const (.int .i64 0),.tmp 8,.tmp 11,.tmp 12]) Try.call90 (.cons rfl (.cons rfl (.cons rfl (.cons rfl (.cons rfl .nil)))))) ((.cons .here .nil) : Sel [row (.slice z5c z2F.length z5d) 30 2 (z2F.flatMap e30)] [row (.slice z5c z2F.length z5d) 30 2 (z2F.flatMap e30)] []) (fun w hw=>by have pz:=(hz.call hw ((.cons .here .nil) : Sel [row (.slice z5c z2F.length z5d) 30 2 (z2F.flatMap e30)] [row (.slice z5c z2F.length z5d) 30 2 (z2F.flatMap e30)] [])); exact y4O (Z:=_) (zcg:=z5c) (zch:=z5d) (zf3:=zb6) (zjL:=zdD) (z6G:=z2F) (zf1:=0) (zf2:=((z2F.length : Nat) : Int)) (zdB:=zgN) (zcf:=zdC) (r:=zgO) w pz zt3 zt4 zt6 (hw.owns ((.cons .here .nil) : Sel [row (.slice z5c z2F.length z5d) 30 2 (z2F.flatMap e30)] [row (.slice z5c z2F.length z5d) 30 2 (z2F.flatMap e30)] []))) ?_
 rintro  zou
 refine WL.repin (i:=0) rfl (u:=(.slice z5c zgO.length z5d)) (slen zou.symm) ?_
 refine WL.nil ?_
 obtain rfl:=Option.some.inj h
 refine WX.y4u Try.results77 .nil (fun w hw=>?_)
 exact ⟨y5r,(zou.trans rfl),hw.sub (.cons .here .nil)⟩
def yR (z1F : List z2) (z14 : Int) (zae : (List z2) → Int → Option (List z2)) : Nat → (List z2) → Int → Int → Option (List z2)
 | 0,_,_,_=>none
 | zjM + 1,z2f,z5e,k2_14502=>if decide (k2_14502 < ((z1F.length - (z14 : Int).toNat : Nat) : Int)) then jp2 (fun (z8h : List z2) (zaf : Int)=>yR z1F z14 zae zjM z8h zaf (i64 (k2_14502 + 1))) fun zgP=>chk ((0 : Int) ≤ k2_14502 ∧ k2_14502 < ((z1F.length - (z14 : Int).toNat : Nat) : Int)) (chk ((0 : Int) ≤ (i64 (k2_14502 - 1)) ∧ (i64 (k2_14502 - 1)) < ((z1F.length - (z14 : Int).toNat : Nat) : Int)) (if decide ((⟨((nth z2f (z14 + k2_14502)).fN),((nth z2f (z14 + k2_14502)).fD)⟩ : z2) ≠ (⟨((nth z2f (z14 + (i64 (k2_14502 - 1)))).fN),((nth z2f (z14 + (i64 (k2_14502 - 1)))).fD)⟩ : z2)) then chk ((0 : Int) ≤ k2_14502 ∧ k2_14502 < ((z1F.length - (z14 : Int).toNat : Nat) : Int)) (chk ((0 : Int) ≤ z5e ∧ z5e < ((z2f.length : Nat) : Int)) (zgP (z2f.set (z5e : Int).toNat (⟨((nth z2f (z14 + k2_14502)).fN),((nth z2f (z14 + k2_14502)).fD)⟩ : z2)) (i64 (z5e + 1)))) else zgP z2f z5e)) else zae z2f z5e
theorem y3I {n : Nat} {z1F : List z2} {z14 : Int} {zae : (List z2) → Int → Option (List z2)} {z2f : List z2} {z5e : Int} {k2_14502 : Int} {r : List z2} (h : yR z1F z14 zae n z2f z5e k2_14502 = some r) : ∃ m,n = m + 1:=by
 cases n with
 | zero=>cases h
 | succ m=>exact ⟨m,rfl⟩
def yS (z1F : List z2) (zag : Option (List z2)) : Nat → Int → Option (List z2)
 | 0,_=>none
 | zjN + 1,z14=>if decide (z14 < ((z1F.length : Nat) : Int)) then jp0 (yS z1F zag zjN (i64 (z14 + 1))) fun zjO=>chk ((0 : Int) ≤ z14 ∧ z14 < ((z1F.length : Nat) : Int)) (chk ((0 : Int) ≤ (i64 (z14 - 1)) ∧ (i64 (z14 - 1)) < ((z1F.length : Nat) : Int)) (if decide ((⟨((nth z1F z14).fN),((nth z1F z14).fD)⟩ : z2) = (⟨((nth z1F (i64 (z14 - 1))).fN),((nth z1F (i64 (z14 - 1))).fD)⟩ : z2)) then chk ((0 : Int) ≤ z14 ∧ z14 < ((z1F.length : Nat) : Int)) (jp2 (fun (z5f : List z2) (z5g : Int)=>chk ((0 : Int) ≤ z5g ∧ z5g ≤ ((z5f.length : Nat) : Int)) (chk ((0 : Int) ≤ z5g ∧ z5g ≤ (((z5f.take (z5g : Int).toNat ++ List.replicate (z5f.length - (z5g : Int).toNat) ((⟨0,0⟩ : z2) : z2)).length : Nat) : Int)) (some ((z5f.take (z5g : Int).toNat ++ List.replicate (z5f.length - (z5g : Int).toNat) ((⟨0,0⟩ : z2) : z2)).take (z5g : Int).toNat)))) fun zae=>yR z1F z14 zae yw z1F z14 1) else zjO)) else zag
theorem y3J {n : Nat} {z1F : List z2} {zag : Option (List z2)} {z14 : Int} {r : List z2} (h : yS z1F zag n z14 = some r) : ∃ m,n = m + 1:=by
 cases n with
 | zero=>cases h
 | succ m=>exact ⟨m,rfl⟩
def y1t (z1F : List z2) : Option (List z2) :=
 if decide (((z1F.length : Nat) : Int) < 2) then some z1F else jp0 (some z1F) fun zag=>yS z1F zag yw 1
set_option maxRecDepth 20000 in
theorem y4E (Z : Zp)  (z8S : Option Addr) (z8T : Nat) (z1F : List z2) (r : List z2) (w₀ : World) (hz : PZ (fps [row (.slice z8S z1F.length z8T) 30 2 (z1F.flatMap e30)]) w₀ Z)
  (h : y1t z1F = some r)
  (hown : Hp (fps [row (.slice z8S z1F.length z8T) 30 2 (z1F.flatMap e30)]) w₀ w₀ [row (.slice z8S z1F.length z8T) 30 2 (z1F.flatMap e30)]) :
  Calls Try.prog 78 #[(.slice z8S z1F.length z8T)] w₀ fun e w'=>∃ zov : Option Addr,∃ zow : Nat,e = .returned (.slice zov r.length zow) ∧ True ∧ Hp (fps [row (.slice z8S z1F.length z8T) 30 2 (z1F.flatMap e30)]) w₀ w' [row (.slice zov r.length zow) 30 2 (r.flatMap e30)]:=by
 unfold y1t at h
 refine Calls.yg (vs:=[(.slice z8S z1F.length z8T)]) (pre:=[row (.slice z8S z1F.length z8T) 30 2 (z1F.flatMap e30)]) (env:=[(0,(.slice z8S z1F.length z8T))]) Try.func78 rfl Try.ntmps78 rfl (hown) rfl ?_
 refine WC.b ?_
 refine WC.a ?_
 refine WL.a (d:=2) rfl rfl rfl (q_z rfl) ?_
 refine WL.nil ?_
 refine WX.a ?_
 refine WC.b ?_
 refine WC.b ?_
 refine WC.a ?_
 refine WL.a (d:=6) rfl rfl rfl (q_m rfl) ?_
 refine WL.a (d:=7) rfl rfl rfl (y1k Try.underlying77 rfl) ?_
 refine WL.a (d:=8) rfl rfl rfl (y1h rfl rfl) ?_
 refine WL.nil ?_
 refine WX.a ?_
 refine WC.cond rfl (fun zjP=>?_) (fun zjP=>?_)
 ·replace h:=yj h zjP
  refine WC.b ?_
  refine WC.a ?_
  refine WL.a (d:=9) rfl rfl rfl (q_m rfl) ?_
  refine WL.a (d:=2) rfl rfl rfl (q_z rfl) ?_
  refine WL.nil ?_
  refine WX.a ?_
  refine WC.ret ?_
  refine WX.y8 ?_
  obtain rfl:=Option.some.inj h
  refine WX.y9 Try.results78 (.tmp rfl .nil) (fun w hw=>?_)
  exact ⟨z8S,z8T,yI rfl,trivial,hw.sub (.cons .here .nil)⟩
 ·replace h:=yk h zjP
  refine WC.skip ?_
  refine WX.a ?_
  obtain ⟨zag,zt7,h⟩:=y4C h
  refine WC.y3h (fun (zdE : Option Addr) (zdF : Nat)=>(zag = some r)) (fun (zdE : Option Addr) (zdF : Nat)=>[(0,(.slice zdE z1F.length zdF))]) (fun (zdE : Option Addr) (zdF : Nat)=>[row (.slice zdE z1F.length zdF) 30 2 (z1F.flatMap e30)]) ?_ ?_
  ·skip
   refine WC.b ?_
   refine WC.a ?_
   refine WL.a (d:=3) rfl rfl rfl (q_z rfl) ?_
   refine WL.nil ?_
   refine WX.a ?_
   refine WC.block ?_
   refine WC.y48 (fun (zdG : Nat) (z14 : Int) (zci : Option Addr) (z5B : Nat)=>(yS z1F zag zdG z14 = some r)) (fun (zdG : Nat) (z14 : Int) (zci : Option Addr) (z5B : Nat)=>[(0,(.slice zci z1F.length z5B)),(3,(.int .i64 z14))]) (fun (zdG : Nat) (z14 : Int) (zci : Option Addr) (z5B : Nat)=>[row (.slice zci z1F.length z5B) 30 2 (z1F.flatMap e30)]) (fun (zdG : Nat) (z14 : Int) (zci : Option Addr) (z5B : Nat)=>zdG) ⟨yw,1,z8S,z8T⟩ h (.cons rfl (.cons rfl .nil)) (.cons .here .nil) ?_
   rintro zdG z14 zci z5B h
   obtain ⟨zjN,rfl⟩:=y3J h
   rw [yS] at h
   refine WC.b ?_
   refine WC.b ?_
   refine WC.a ?_
   refine WL.a (d:=10) rfl rfl rfl (q_m rfl) ?_
   refine WL.a (d:=11) rfl rfl rfl (q_m rfl) ?_
   refine WL.a (d:=12) rfl rfl rfl (y1k Try.underlying77 rfl) ?_
   refine WL.a (d:=13) rfl rfl rfl (y1h rfl rfl) ?_
   refine WL.nil ?_
   refine WX.a ?_
   refine WC.cond rfl (fun zjQ=>?_) (fun zjQ=>?_)
   ·replace h:=yj h zjQ
    refine WC.skip ?_
    refine WX.a ?_
    obtain ⟨zjO,zt8,h⟩:=y4C h
    refine WC.y3h (fun (zdH : Option Addr) (zdI : Nat)=>(zjO = some r)) (fun (zdH : Option Addr) (zdI : Nat)=>[(0,(.slice zdH z1F.length zdI)),(3,(.int .i64 z14))]) (fun (zdH : Option Addr) (zdI : Nat)=>[row (.slice zdH z1F.length zdI) 30 2 (z1F.flatMap e30)]) ?_ ?_
    ·skip
     refine WC.block ?_
     refine WC.b ?_
     obtain ⟨zf4,h⟩:=yp h
     obtain ⟨zgQ,h⟩:=yp h
     refine WC.y1e (fun i=>[].contains i) [] rfl ?_
     refine WD.a (i:=0) (d:=16) (by kernel_rfl) rfl (z6 (by kernel_rfl)) (z7 (by kernel_rfl)) rfl rfl rfl (fun _=>q_m rfl) ?_
     refine WD.a (i:=1) (d:=17) (by kernel_rfl) rfl (z6 (by kernel_rfl)) (z7 (by kernel_rfl)) rfl rfl rfl (fun _=>q_m rfl) ?_
     refine WD.know (fun w hw=>Hp.y49 .here hw (by intro hz'; have:=zf4; rw [hz'] at this; omega)) ?_
     rintro ⟨z7W,rfl⟩
     refine WD.a (i:=2) (d:=18) (by kernel_rfl) rfl (z6 (by kernel_rfl)) (z7 (by kernel_rfl)) rfl rfl rfl (fun _=>y1y y1H rfl rfl zf4.1 zf4.2 y4v) ?_
     refine WD.e (i:=3) (d:=19) (by kernel_rfl) rfl (z6 (by kernel_rfl)) (z7 (by kernel_rfl)) rfl rfl rfl (y6 (cs:=(e30 (nth z1F z14))) y5 rfl rfl (y3v .here (y3w (enc:=e30) (l:=z1F) (i:=z14) (sz:=2) (fun _=>rfl) zf4.1 zf4.2))) ?_
     refine WD.a (i:=4) (d:=20) (by kernel_rfl) rfl (z6 (by kernel_rfl)) (z7 (by kernel_rfl)) rfl rfl rfl (fun _=>q_m rfl) ?_
     refine WD.a (i:=5) (d:=21) (by kernel_rfl) rfl (z6 (by kernel_rfl)) (z7 (by kernel_rfl)) rfl rfl rfl (fun _=>q_m rfl) ?_
     refine WD.a (i:=6) (d:=22) (by kernel_rfl) rfl (z6 (by kernel_rfl)) (z7 (by kernel_rfl)) rfl rfl rfl (fun _=>y7y rfl rfl rfl) ?_
     refine WD.a (i:=7) (d:=23) (by kernel_rfl) rfl (z6 (by kernel_rfl)) (z7 (by kernel_rfl)) rfl rfl rfl (fun _=>y1y y1H rfl rfl zgQ.1 zgQ.2 y4v) ?_
     refine WD.e (i:=8) (d:=24) (by kernel_rfl) rfl (z6 (by kernel_rfl)) (z7 (by kernel_rfl)) rfl rfl rfl (y6 (cs:=(e30 (nth z1F (i64 (z14 - 1))))) y5 rfl rfl (y3v .here (y3w (enc:=e30) (l:=z1F) (i:=i64 (z14 - 1)) (sz:=2) (fun _=>rfl) zgQ.1 zgQ.2))) ?_
     refine WD.a (i:=9) (d:=25) (by kernel_rfl) rfl (z6 (by kernel_rfl)) (z7 (by kernel_rfl)) rfl rfl rfl (fun _=>y66 (enc:=e30) (a:=(⟨((nth z1F z14).fN),((nth z1F z14).fD)⟩ : z2)) (b:=(⟨((nth z1F (i64 (z14 - 1))).fN),((nth z1F (i64 (z14 - 1))).fD)⟩ : z2)) y7n rfl rfl) ?_
     refine WD.done (by kernel_rfl) ?_
     refine WX.a ?_
     refine WC.cond rfl (fun zjR=>?_) (fun zjR=>?_)
     ·replace h:=yj h zjR
      refine WC.b ?_
      obtain ⟨zcj,h⟩:=yp h
      refine WC.a ?_
      refine WL.a (d:=26) rfl rfl rfl (q_m rfl) ?_
      refine WL.a (d:=27) rfl rfl rfl (q_m rfl) ?_
      refine WL.ya8 (dd:=28) rfl rfl y1H rfl rfl .here zcj ?_
      refine WL.a (d:=4) rfl rfl rfl (q_z rfl) ?_
      refine WL.nil ?_
      refine WX.a ?_
      obtain ⟨zae,zt9,h⟩:=y3F h
      refine WC.y3h (fun (z5f : List z2) (z5g : Int)=>(zae z5f z5g = some r) ∧ (z5f.length = z1F.length)) (fun (z5f : List z2) (z5g : Int)=>[(0,(.slice (some ⟨z7W,0,none⟩) z5f.length z5B)),(3,(.int .i64 z5g))]) (fun (z5f : List z2) (z5g : Int)=>[row (.slice (some ⟨z7W,0,none⟩) z5f.length z5B) 30 2 (z5f.flatMap e30)]) ?_ ?_
      ·skip
       refine WC.b ?_
       refine WC.a ?_
       refine WL.a (d:=5) rfl rfl rfl (q_z rfl) ?_
       refine WL.nil ?_
       refine WX.a ?_
       refine WC.block ?_
       refine WC.y48 (fun (zdJ : Nat) (z2f : List z2) (z5e : Int) (k2_14502 : Int)=>(yR z1F z14 zae zdJ z2f z5e k2_14502 = some r) ∧ (z2f.length = z1F.length)) (fun (zdJ : Nat) (z2f : List z2) (z5e : Int) (k2_14502 : Int)=>[(0,(.slice (some ⟨z7W,0,none⟩) z2f.length z5B)),(3,(.int .i64 z5e)),(4,(.slice (some ⟨z7W,(z14 : Int).toNat * 2,none⟩) (z1F.length - (z14 : Int).toNat) (z5B - (z14 : Int).toNat))),(5,(.int .i64 k2_14502))]) (fun (zdJ : Nat) (z2f : List z2) (z5e : Int) (k2_14502 : Int)=>[row (.slice (some ⟨z7W,0,none⟩) z2f.length z5B) 30 2 (z2f.flatMap e30)]) (fun (zdJ : Nat) (z2f : List z2) (z5e : Int) (k2_14502 : Int)=>zdJ) ⟨yw,z1F,z14,1⟩ ⟨h,rfl⟩ (.cons rfl (.cons rfl (.cons rfl (.cons rfl .nil)))) (.cons .here .nil) ?_
       rintro zdJ z2f z5e k2_14502 ⟨h,zdK⟩
       obtain ⟨zjM,rfl⟩:=y3I h
       rw [yR] at h
       refine WC.b ?_
       refine WC.b ?_
       refine WC.a ?_
       refine WL.a (d:=29) rfl rfl rfl (q_m rfl) ?_
       refine WL.a (d:=30) rfl rfl rfl (q_m rfl) ?_
       refine WL.a (d:=31) rfl rfl rfl (y1k Try.underlying77 rfl) ?_
       refine WL.a (d:=32) rfl rfl rfl (y1h rfl rfl) ?_
       refine WL.nil ?_
       refine WX.a ?_
       refine WC.cond rfl (fun zjS=>?_) (fun zjS=>?_)
       ·replace h:=yj h zjS
        refine WC.skip ?_
        refine WX.a ?_
        obtain ⟨zgP,zta,h⟩:=y3F h
        refine WC.y3h (fun (z8h : List z2) (zaf : Int)=>(zgP z8h zaf = some r) ∧ (z8h.length = z1F.length)) (fun (z8h : List z2) (zaf : Int)=>[(0,(.slice (some ⟨z7W,0,none⟩) z8h.length z5B)),(3,(.int .i64 zaf)),(4,(.slice (some ⟨z7W,(z14 : Int).toNat * 2,none⟩) (z1F.length - (z14 : Int).toNat) (z5B - (z14 : Int).toNat))),(5,(.int .i64 k2_14502))]) (fun (z8h : List z2) (zaf : Int)=>[row (.slice (some ⟨z7W,0,none⟩) z8h.length z5B) 30 2 (z8h.flatMap e30)]) ?_ ?_
        ·skip
         refine WC.block ?_
         refine WC.b ?_
         obtain ⟨zgR,h⟩:=yp h
         obtain ⟨zgS,h⟩:=yp h
         refine WC.y1e (fun i=>[].contains i) [] rfl ?_
         refine WD.a (i:=0) (d:=35) (by kernel_rfl) rfl (z6 (by kernel_rfl)) (z7 (by kernel_rfl)) rfl rfl rfl (fun _=>q_m rfl) ?_
         refine WD.a (i:=1) (d:=36) (by kernel_rfl) rfl (z6 (by kernel_rfl)) (z7 (by kernel_rfl)) rfl rfl rfl (fun _=>q_m rfl) ?_
         have zox : (0 : Int) ≤ z14 + k2_14502 ∧ z14 + k2_14502 < ((z2f.length : Nat) : Int):=by have h1:=zdK; have h2:=zcj; have h3:=zgR; omega
         refine WD.a (i:=2) (d:=37) (by kernel_rfl) rfl (z6 (by kernel_rfl)) (z7 (by kernel_rfl)) rfl rfl rfl (fun _=>y1y y1H rfl rfl zgR.1 zgR.2 (y7S zcj.1 zgR.1)) ?_
         refine WD.e (i:=3) (d:=38) (by kernel_rfl) rfl (z6 (by kernel_rfl)) (z7 (by kernel_rfl)) rfl rfl rfl (y6 (cs:=(e30 (nth z2f (z14 + k2_14502)))) y5 rfl rfl (y3v .here (y3w (enc:=e30) (l:=z2f) (i:=z14 + k2_14502) (sz:=2) (fun _=>rfl) zox.1 zox.2))) ?_
         refine WD.a (i:=4) (d:=39) (by kernel_rfl) rfl (z6 (by kernel_rfl)) (z7 (by kernel_rfl)) rfl rfl rfl (fun _=>q_m rfl) ?_
         refine WD.a (i:=5) (d:=40) (by kernel_rfl) rfl (z6 (by kernel_rfl)) (z7 (by kernel_rfl)) rfl rfl rfl (fun _=>q_m rfl) ?_
         refine WD.a (i:=6) (d:=41) (by kernel_rfl) rfl (z6 (by kernel_rfl)) (z7 (by kernel_rfl)) rfl rfl rfl (fun _=>y7y rfl rfl rfl) ?_
         have zoy : (0 : Int) ≤ z14 + (i64 (k2_14502 - 1)) ∧ z14 + (i64 (k2_14502 - 1)) < ((z2f.length : Nat) : Int):=by have h1:=zdK; have h2:=zcj; have h3:=zgS; omega
         refine WD.a (i:=7) (d:=42) (by kernel_rfl) rfl (z6 (by kernel_rfl)) (z7 (by kernel_rfl)) rfl rfl rfl (fun _=>y1y y1H rfl rfl zgS.1 zgS.2 (y7S zcj.1 zgS.1)) ?_
         refine WD.e (i:=8) (d:=43) (by kernel_rfl) rfl (z6 (by kernel_rfl)) (z7 (by kernel_rfl)) rfl rfl rfl (y6 (cs:=(e30 (nth z2f (z14 + (i64 (k2_14502 - 1)))))) y5 rfl rfl (y3v .here (y3w (enc:=e30) (l:=z2f) (i:=z14 + (i64 (k2_14502 - 1))) (sz:=2) (fun _=>rfl) zoy.1 zoy.2))) ?_
         refine WD.a (i:=9) (d:=44) (by kernel_rfl) rfl (z6 (by kernel_rfl)) (z7 (by kernel_rfl)) rfl rfl rfl (fun _=>y8W (enc:=e30) (a:=(⟨((nth z2f (z14 + k2_14502)).fN),((nth z2f (z14 + k2_14502)).fD)⟩ : z2)) (b:=(⟨((nth z2f (z14 + (i64 (k2_14502 - 1)))).fN),((nth z2f (z14 + (i64 (k2_14502 - 1)))).fD)⟩ : z2)) y7n rfl rfl) ?_
         refine WD.done (by kernel_rfl) ?_
         refine WX.a ?_
         refine WC.cond rfl (fun zjT=>?_) (fun zjT=>?_)
         ·replace h:=yj h zjT
          refine WC.b ?_
          obtain ⟨zgT,h⟩:=yp h
          obtain ⟨zdL,h⟩:=yp h
          refine WC.a ?_
          refine WL.a (d:=45) rfl rfl rfl (q_m rfl) ?_
          refine WL.a (d:=46) rfl rfl rfl (q_m rfl) ?_
          refine WL.a (d:=47) rfl rfl rfl (q_m rfl) ?_
          refine WL.a (d:=48) rfl rfl rfl (q_m rfl) ?_
          have zoz : (0 : Int) ≤ z14 + k2_14502 ∧ z14 + k2_14502 < ((z2f.length : Nat) : Int):=by have h1:=zdK; have h2:=zcj; have h3:=zgT; omega
          refine WL.a (d:=49) rfl rfl rfl (y1y y1H rfl rfl zgT.1 zgT.2 (y7S zcj.1 zgT.1)) ?_
          refine WL.a (d:=50) rfl rfl rfl (y6 (cs:=(e30 (nth z2f (z14 + k2_14502)))) y5 rfl rfl (y3v .here (y3w (enc:=e30) (l:=z2f) (i:=z14 + k2_14502) (sz:=2) (fun _=>rfl) zoz.1 zoz.2))) ?_
          refine WL.a (d:=51) rfl rfl rfl (y1y y1H rfl rfl zdL.1 zdL.2 y4v) ?_
          refine WL.yc rfl rfl (y9K (vs:=[(.int .i64 ((nth z2f (z14 + k2_14502)).fN)),(.int .i64 ((nth z2f (z14 + k2_14502)).fD))]) (ds:=(z2f.set (z5e : Int).toNat (⟨((nth z2f (z14 + k2_14502)).fN),((nth z2f (z14 + k2_14502)).fD)⟩ : z2)).flatMap e30) yl rfl rfl rfl rfl (y3 rfl (y3 rfl yf)) .here (flat_fit (enc:=e30) (sz:=2) (k:=0) (fun _=>rfl) zdL.1 zdL.2 (by decide)) (flat_put (enc:=e30) (l:=z2f) (sz:=2) (vs:=[(.int .i64 ((nth z2f (z14 + k2_14502)).fN)),(.int .i64 ((nth z2f (z14 + k2_14502)).fD))]) (y:=(⟨((nth z2f (z14 + k2_14502)).fN),((nth z2f (z14 + k2_14502)).fD)⟩ : z2)) (k:=0) (fun _=>rfl) zdL.1 zdL.2 rfl (Nat.le_of_ble_eq_true rfl))) ?_
          refine WL.relen .here (u:=(.slice (some ⟨z7W,0,none⟩) ((z2f.set (z5e : Int).toNat (⟨((nth z2f (z14 + k2_14502)).fN),((nth z2f (z14 + k2_14502)).fD)⟩ : z2)).length) z5B)) (slen (List.length_set).symm) ?_
          refine WL.repin (i:=0) rfl (u:=(.slice (some ⟨z7W,0,none⟩) ((z2f.set (z5e : Int).toNat (⟨((nth z2f (z14 + k2_14502)).fN),((nth z2f (z14 + k2_14502)).fD)⟩ : z2)).length) z5B)) (slen (List.length_set).symm) ?_
          refine WL.nil ?_
          refine WX.a ?_
          refine WC.a ?_
          refine WL.a (d:=52) rfl rfl rfl (q_m rfl) ?_
          refine WL.a (d:=53) rfl rfl rfl (y1d rfl rfl rfl) ?_
          refine WL.a (d:=3) rfl rfl rfl (q_z rfl) ?_
          refine WL.nil ?_
          refine WX.yn ?_
          exact WX.mid (G:=List z2 × Int) ⟨(z2f.set (z5e : Int).toNat (⟨((nth z2f (z14 + k2_14502)).fN),((nth z2f (z14 + k2_14502)).fD)⟩ : z2)),(i64 (z5e + 1))⟩ ⟨h,((List.length_set).trans zdK)⟩ (.cons rfl (.cons rfl (.cons rfl (.cons rfl .nil)))) (.cons .here .nil)
         ·replace h:=yk h zjT
          refine WC.skip ?_
          refine WX.yn ?_
          exact WX.mid (G:=List z2 × Int) ⟨z2f,z5e⟩ ⟨h,zdK⟩ (.cons rfl (.cons rfl (.cons rfl (.cons rfl .nil)))) (.cons .here .nil)
        ·rintro z8h zaf ⟨h,ztb⟩
         replace h:=(zta z8h zaf).symm.trans h
         refine WC.a ?_
         refine WL.a (d:=33) rfl rfl rfl (q_m rfl) ?_
         refine WL.a (d:=34) rfl rfl rfl (y1d rfl rfl rfl) ?_
         refine WL.a (d:=5) rfl rfl rfl (q_z rfl) ?_
         refine WL.nil ?_
         exact WX.round (G:=Nat × List z2 × Int × Int) ⟨zjM,z8h,zaf,(i64 (k2_14502 + 1))⟩ ⟨h,ztb⟩ (Nat.lt_succ_self _) (.cons rfl (.cons rfl (.cons rfl (.cons rfl .nil)))) (.cons .here .nil)
       ·replace h:=yk h zjS
        refine WC.exit ?_
        refine WX.ym ?_
        refine WX.ym ?_
        refine WX.yH ?_
        exact WX.mid (G:=List z2 × Int) ⟨z2f,z5e⟩ ⟨h,zdK⟩ (.cons rfl (.cons rfl .nil)) (.cons .here .nil)
      ·rintro z5f z5g ⟨h,zzO⟩
       replace h:=(zt9 z5f z5g).symm.trans h
       refine WC.b ?_
       obtain ⟨zgU,h⟩:=yp h
       refine WC.a ?_
       refine WL.a (d:=54) rfl rfl rfl (q_m rfl) ?_
       refine WL.a (d:=55) rfl rfl rfl (q_m rfl) ?_
       refine WL.ya5 (dd:=56) rfl rfl y1H rfl rfl .here zgU ?_
       intro zzP zzQ ztc
       refine WL.yc rfl rfl (y8V (enc:=e30) (z0:=((⟨0,0⟩ : z2) : z2)) (l:=z5f) y1H yo rfl ztc zgU (fun _=>rfl) (by decide) rfl y86 .here) ?_
       refine WL.relen .here (u:=(.slice (some ⟨z7W,0,none⟩) ((z5f.take (z5g : Int).toNat ++ List.replicate (z5f.length - (z5g : Int).toNat) ((⟨0,0⟩ : z2) : z2)).length) z5B)) (slen (y7h zgU).symm) ?_
       refine WL.repin (i:=0) rfl (u:=(.slice (some ⟨z7W,0,none⟩) ((z5f.take (z5g : Int).toNat ++ List.replicate (z5f.length - (z5g : Int).toNat) ((⟨0,0⟩ : z2) : z2)).length) z5B)) (slen (y7h zgU).symm) ?_
       refine WL.nil ?_
       refine WX.a ?_
       refine WC.b ?_
       obtain ⟨ztd,h⟩:=yp h
       refine WC.a ?_
       refine WL.a (d:=57) rfl rfl rfl (q_m rfl) ?_
       refine WL.a (d:=58) rfl rfl rfl (q_m rfl) ?_
       refine WL.ya4 (dd:=59) (enc:=e30) (ls:=z5f.take (z5g : Int).toNat ++ List.replicate (z5f.length - (z5g : Int).toNat) ((⟨0,0⟩ : z2) : z2)) rfl rfl y1H rfl rfl .here (fun _=>rfl) ztd ?_
       intro zte ztf
       refine WL.a (d:=2) rfl rfl rfl (q_z rfl) ?_
       refine WL.nil ?_
       refine WX.a ?_
       refine WC.ret ?_
       refine WX.yt ?_
       refine WX.y8 ?_
       refine WX.y8 ?_
       refine WX.yt ?_
       refine WX.y8 ?_
       obtain rfl:=Option.some.inj h
       refine WX.y9 Try.results78 (.tmp rfl .nil) (fun w hw=>?_)
       exact ⟨zte,ztf,yI rfl,trivial,hw.sub (.cons .here .nil)⟩
     ·replace h:=yk h zjR
      refine WC.skip ?_
      refine WX.yn ?_
      exact WX.mid (G:=Option Addr × Nat) ⟨(some ⟨z7W,0,none⟩),z5B⟩ h (.cons rfl (.cons rfl .nil)) (.cons .here .nil)
    ·rintro zdH zdI h
     replace h:=zt8.symm.trans h
     refine WC.a ?_
     refine WL.a (d:=14) rfl rfl rfl (q_m rfl) ?_
     refine WL.a (d:=15) rfl rfl rfl (y1d rfl rfl rfl) ?_
     refine WL.a (d:=3) rfl rfl rfl (q_z rfl) ?_
     refine WL.nil ?_
     exact WX.round (G:=Nat × Int × Option Addr × Nat) ⟨zjN,(i64 (z14 + 1)),zdH,zdI⟩ h (Nat.lt_succ_self _) (.cons rfl (.cons rfl .nil)) (.cons .here .nil)
   ·replace h:=yk h zjQ
    refine WC.exit ?_
    refine WX.ym ?_
    refine WX.ym ?_
    refine WX.yH ?_
    exact WX.mid (G:=Option Addr × Nat) ⟨zci,z5B⟩ h (.cons rfl .nil) (.cons .here .nil)
  ·rintro zdE zdF h
   replace h:=zt7.symm.trans h
   refine WC.b ?_
   refine WC.a ?_
   refine WL.a (d:=60) rfl rfl rfl (q_m rfl) ?_
   refine WL.a (d:=2) rfl rfl rfl (q_z rfl) ?_
   refine WL.nil ?_
   refine WX.a ?_
   refine WC.ret ?_
   obtain rfl:=Option.some.inj h
   refine WX.y9 Try.results78 (.tmp rfl .nil) (fun w hw=>?_)
   exact ⟨zdE,zdF,yI rfl,trivial,hw.sub (.cons .here .nil)⟩
def y1b  (zd : z1 × z1) (z15 : List z2) (z6H : Int) : Option (Bool × (Nat × List z2 × Int)) :=
 (yO zd.1.fBurst zd.2.fBurst).bind fun zjU=>if decide (zjU < 0) then (y1l (⟨z6H⟩ : z2y) (fun (y0 : z2) (y1 : z2)=>y1x y0 y1) zd.2.fBurst zd.1.fBurst).bind fun z8i=>(y1l z8i.2 (fun (y0 : z2) (y1 : z2)=>y1x y0 y1) zd.1.fR zd.2.fR).bind fun z8j=>(y1l z8j.2 (fun (y0 : z2) (y1 : z2)=>y2Q y0 y1) z8i.1 z8j.1).bind fun z7D=>chk ((((z15 ++ ([z7D.1] : List z2)).length : Nat) : Int) * 16 ≤ 140737488355328 ∧ (((z15 ++ ([z7D.1] : List z2)).length : Nat) : Int) ≤ 4611686018427387904) (some (true,(0,(z15 ++ ([z7D.1] : List z2)),z7D.2.fE))) else some (true,(0,z15,z6H))
def y1f (z7E : List z1) : Option (List z2 × Int) :=
 (y2m z7E).bind fun zgV=>if !zgV then some (([] : List z2),2) else (y4a z7E).bind fun zck=>jp2 (fun (z5u : Int) (z3T : List z2)=>if decide (z5u ≠ 0) then some (([] : List z2),z5u) else (y1p z3T (fun (y0 : z2) (y1 : z2)=>yO y0 y1)).bind fun z4X=>(y1t z4X).bind fun zjV=>some (zjV,0)) fun zjW=>(y3P zck zck).bind fun z2z=>(y2V (Nat × List z2 × Int) (fun (x : z1 × z1) (s : Nat × List z2 × Int)=>chk (s.1 = 0) (y1b x s.2.1 s.2.2)) (0,([] : List z2),0) z2z.1 z2z.2).bind fun z5N=>zjW z5N.2.2 z5N.2.1
set_option maxRecDepth 20000 in
theorem y4j (Z : Zp)  (z9n : Option Addr) (z9o : Nat) (z7E : List z1) (r : List z2 × Int) (w₀ : World) (hz : PZ [] w₀ Z)
  (zoA : ZS Z 4 (fun r x=>r = e35 x) z9n z9o z7E)
  (h : y1f z7E = some r) :
  Calls Try.prog 68 #[(.slice z9n z7E.length z9o)] w₀ fun e w'=>∃ Zn : Zp,∃ zoB : Option Addr,∃ zoC : Nat,e = .returned (.tuple #[(.slice zoB r.1.length zoC),(.int .i64 r.2)]) ∧ True ∧ Hp [] w₀ w' [fz Zn,row (.slice zoB r.1.length zoC) 30 2 (r.1.flatMap e30)]:=by
 unfold y1f at h
 refine Calls.y6C (vs:=[(.slice z9n z7E.length z9o)]) (pre:=[]) (env:=[(0,(.slice z9n z7E.length z9o))]) Try.func68 rfl Try.ntmps68 rfl (Hp.nil w₀ _) rfl ?_
 refine WC.pool ?_
 refine WC.b ?_
 refine WC.a ?_
 refine WL.a (d:=2) rfl rfl rfl (q_z rfl) ?_
 refine WL.a (d:=3) rfl rfl rfl (q_z rfl) ?_
 refine WL.nil ?_
 refine WX.a ?_
 refine WC.b ?_
 refine WC.b ?_
 obtain ⟨zgV,ztg,h⟩:=zb h
 refine WC.a ?_
 refine WL.a (d:=9) rfl rfl rfl (q_m rfl) ?_
 refine WL.b (dd:=10) rfl rfl rfl (zl (l:=[.tmp 9]) Try.call30 (.cons rfl .nil)) (.nil : Sel [fz []] [] [fz []]) (fun w hw=>by have pz:=(hz.call2 hw (.nil : Sel [fz []] [] [fz []]) .here); exact y3O (Z:=_) (z8L:=z9n) (z8M:=z9o) (z5t:=z7E) (r:=zgV) w pz (zoA.mono (Zle.left _ _)) ztg) ?_
 refine WL.a (d:=11) rfl rfl rfl (y1n rfl) ?_
 refine WL.nil ?_
 refine WX.a ?_
 refine WC.cond rfl (fun zjX=>?_) (fun zjX=>?_)
 ·replace h:=yj h zjX
  refine WC.b ?_
  refine WC.a ?_
  refine WL.a (d:=2) rfl rfl rfl (q_z rfl) ?_
  refine WL.a (d:=3) rfl rfl rfl (q_z rfl) ?_
  refine WL.nil ?_
  refine WX.a ?_
  refine WC.ret ?_
  refine WX.y8 ?_
  refine WX.nilRow 30 2 ?_
  obtain rfl:=Option.some.inj h
  refine WX.y7k Try.results68 (.tmp rfl (.tmp rfl .nil)) (fun w hw=>?_)
  exact ⟨[],none,0,y1I rfl rfl,trivial,hw.sub (.cons .h1 (.cons .here .nil))⟩
 ·replace h:=yk h zjX
  refine WC.skip ?_
  refine WX.a ?_
  refine WC.b ?_
  refine WC.a ?_
  refine WL.new (dd:=4) rfl rfl rfl (yh (cs:=[(.int .i64 0)]) y93 rfl) ?_
  intro z1B _
  refine WL.nil ?_
  refine WX.a ?_
  refine WC.b ?_
  refine WC.a ?_
  refine WL.new (dd:=5) rfl rfl rfl (yh (cs:=[(.slice none 0 0)]) y7V rfl) ?_
  intro z1M _
  refine WL.nil ?_
  refine WX.a ?_
  refine WC.b ?_
  obtain ⟨zck,zth,h⟩:=zb h
  refine WC.a ?_
  refine WL.a (d:=12) rfl rfl rfl (q_m rfl) ?_
  refine WL.y5e (dd:=13) rfl rfl rfl (zl (l:=[.tmp 12]) Try.call48 (.cons rfl .nil)) (.nil : Sel [stb z1M 77 [(.slice none 0 0)],stb z1B 90 [(.int .i64 0)],fz []] [] [stb z1M 77 [(.slice none 0 0)],stb z1B 90 [(.int .i64 0)],fz []]) (fun w hw=>by have pz:=(hz.call2 hw (.nil : Sel [stb z1M 77 [(.slice none 0 0)],stb z1B 90 [(.int .i64 0)],fz []] [] [stb z1M 77 [(.slice none 0 0)],stb z1B 90 [(.int .i64 0)],fz []]) .h2); exact y94 (Z:=_) (z8e:=z9n) (z8f:=z9o) (zm:=z7E) (r:=zck) w pz (zoA.mono (Zle.left _ _)) zth) ?_
  rintro zoD zoE _
  refine WL.a (d:=6) rfl rfl rfl (q_z rfl) ?_
  refine WL.nil ?_
  refine WX.a ?_
  obtain ⟨zjW,zti,h⟩:=y3F h
  refine WC.y6D (fun (z6I : Nat) (z5u : Int) (z3T : List z2) (z5O : Zp) (z3y : Option Addr) (z3z : Nat)=>(zjW z5u z3T = some r) ∧ (Zle (Z ++ []) (Z ++ z5O))) (fun (z6I : Nat) (z5u : Int) (z3T : List z2) (z5O : Zp) (z3y : Option Addr) (z3z : Nat)=>[(4,(.pointer (some ⟨z1B,0,none⟩))),(5,(.pointer (some ⟨z1M,0,none⟩)))]) (fun (z6I : Nat) (z5u : Int) (z3T : List z2) (z5O : Zp) (z3y : Option Addr) (z3z : Nat)=>[fz z5O,stb z1B 90 [(.int .i64 z5u)],stb z1M 77 [(.slice z3y z3T.length z3z)],row (.slice z3y z3T.length z3z) 30 2 (z3T.flatMap e30),dfr z6I]) ?_ ?_
  ·skip
   refine WC.b ?_
   refine WC.freezeS (ls:=zck) .here .h2 hz (RR.flat (enc:=e35) (fun _=>rfl) _) ?_
   intro z5P ztj zoF
   obtain ⟨z2z,ztk,h⟩:=zb h
   refine WC.a ?_
   refine WL.a (d:=14) rfl rfl rfl (q_m rfl) ?_
   refine WL.a (d:=15) rfl rfl rfl (q_m rfl) ?_
   refine WL.ya2 (dd:=16) rfl rfl rfl (zl (l:=[.tmp 14,.tmp 15]) Try.call76 (.cons rfl (.cons rfl .nil))) (.nil : Sel [fz z5P,stb z1M 77 [(.slice none 0 0)],stb z1B 90 [(.int .i64 0)]] [] [fz z5P,stb z1M 77 [(.slice none 0 0)],stb z1B 90 [(.int .i64 0)]]) (fun w hw=>by have pz:=(hz.call2 hw (.nil : Sel [fz z5P,stb z1M 77 [(.slice none 0 0)],stb z1B 90 [(.int .i64 0)]] [] [fz z5P,stb z1M 77 [(.slice none 0 0)],stb z1B 90 [(.int .i64 0)]]) .here); exact y8L (Z:=_) (zc6:=zoD) (zc7:=zoE) (zc8:=zoD) (zc9:=zoE) (za5:=zck) (za6:=zck) (r:=z2z) w pz zoF zoF ztk) ?_
   rintro z5h z5i z5v z5w z5x z5y ⟨ztl,ztm⟩
   refine WL.nil ?_
   refine WX.a ?_
   refine WC.block ?_
   refine WC.pool ?_
   refine WC.drop (.cons .here (.cons .h3 (.cons .h3 (.cons .here (.cons .here (.cons .here .nil)))))) ?_
   refine WC.nilRow 30 2 ?_
   refine WC.rangeFunc (f:=89) (caps:=[(.pointer (some ⟨z5h,0,none⟩)),(.pointer (some ⟨z5i,0,none⟩))]) rfl Try.call89 ?_
   intro zzR zzS z2G z6Z z2T zgW ztn zto w hw
   have hw1:=hw.selAll ((.cons .h3 (.cons .h3 (.cons .h2 (.cons .h2 (.cons .here .nil))))) : Sel _ [fz [],stb z1M 77 [(.slice none (([] : List z2).length) 0)],row (.slice none (([] : List z2).length) 0) 30 2 (([] : List z2).flatMap e30),stb z1B 90 [(.int .i64 0)],blk z2G (z2T .ready none)] _)
   have pz:=(hz.call2 hw1 ((.cons .here .nil) : Sel [y1A [fz [],stb z1M 77 [(.slice none (([] : List z2).length) 0)],row (.slice none (([] : List z2).length) 0) 30 2 (([] : List z2).flatMap e30),stb z1B 90 [(.int .i64 0)],blk z2G (z2T .ready none)],dfr z6Z,stb z5h 39 [(.slice z5v z2z.1.length z5w)],stb z5i 39 [(.slice z5x z2z.2.length z5y)],fz z5P] [y1A [fz [],stb z1M 77 [(.slice none (([] : List z2).length) 0)],row (.slice none (([] : List z2).length) 0) 30 2 (([] : List z2).flatMap e30),stb z1B 90 [(.int .i64 0)],blk z2G (z2T .ready none)]] [dfr z6Z,stb z5h 39 [(.slice z5v z2z.1.length z5w)],stb z5i 39 [(.slice z5x z2z.2.length z5y)],fz z5P]) .h3).lend hw1 ((.cons .here .nil) : Sel [y1A [fz [],stb z1M 77 [(.slice none (([] : List z2).length) 0)],row (.slice none (([] : List z2).length) 0) 30 2 (([] : List z2).flatMap e30),stb z1B 90 [(.int .i64 0)],blk z2G (z2T .ready none)],dfr z6Z,stb z5h 39 [(.slice z5v z2z.1.length z5w)],stb z5i 39 [(.slice z5x z2z.2.length z5y)],fz z5P] [y1A [fz [],stb z1M 77 [(.slice none (([] : List z2).length) 0)],row (.slice none (([] : List z2).length) 0) 30 2 (([] : List z2).flatMap e30),stb z1B 90 [(.int .i64 0)],blk z2G (z2T .ready none)]] [dfr z6Z,stb z5h 39 [(.slice z5v z2z.1.length z5w)],stb z5i 39 [(.slice z5x z2z.2.length z5y)],fz z5P]) (B:=[stb z5h 39 [(.slice z5v z2z.1.length z5w)],stb z5i 39 [(.slice z5x z2z.2.length z5y)]]) (fun _ hx'=>((.cons .h1 (.cons .h1 .nil)) : Sel _ [stb z5h 39 [(.slice z5v z2z.1.length z5w)],stb z5i 39 [(.slice z5x z2z.2.length z5y)]] _).mem hx')
   obtain ⟨z5N,ztp,h⟩:=zb h
   refine Calls.mono (y89 (Z:=_) (zaa:=z2G) (z3W:=(Option Addr × Nat)) (z7g:=(fun (g : Option Addr × Nat) (s : Nat × List z2 × Int)=>y1A ([fz [],stb z1M 77 [(.slice g.1 s.2.1.length g.2)],row (.slice g.1 s.2.1.length g.2) 30 2 (s.2.1.flatMap e30),stb z1B 90 [(.int .i64 s.2.2)]] ++ [blk z2G (z2T (rdy (pcs [] s.1)) (pcs [] s.1))]))) (zab:=(fun (g : Option Addr × Nat) (s : Nat × List z2 × Int)=>True)) (zaY:=(none,0)) (zeS:=⟨z5h,0,none⟩) (zcb:=z5v) (zcc:=z5w) (zac:=⟨z5i,0,none⟩) (zgC:=z5x) (zgD:=z5y) (z1o:=(Nat × List z2 × Int)) (z6D:=(fun (x : z1 × z1) (s : Nat × List z2 × Int)=>chk (s.1 = 0) (y1b x s.2.1 s.2.2))) (s0_5333:=(0,([] : List z2),0)) (z2g:=z2z.1) (z2D:=z2z.2) (r:=z5N) w pz ?_ trivial (ztl.mono (Zle.left _ _)) ((hw1.lent ((.cons .here .nil) : Sel [y1A [fz [],stb z1M 77 [(.slice none (([] : List z2).length) 0)],row (.slice none (([] : List z2).length) 0) 30 2 (([] : List z2).flatMap e30),stb z1B 90 [(.int .i64 0)],blk z2G (z2T .ready none)],dfr z6Z,stb z5h 39 [(.slice z5v z2z.1.length z5w)],stb z5i 39 [(.slice z5x z2z.2.length z5y)],fz z5P] [y1A [fz [],stb z1M 77 [(.slice none (([] : List z2).length) 0)],row (.slice none (([] : List z2).length) 0) 30 2 (([] : List z2).flatMap e30),stb z1B 90 [(.int .i64 0)],blk z2G (z2T .ready none)]] [dfr z6Z,stb z5h 39 [(.slice z5v z2z.1.length z5w)],stb z5i 39 [(.slice z5x z2z.2.length z5y)],fz z5P]) (B:=[stb z5h 39 [(.slice z5v z2z.1.length z5w)],stb z5i 39 [(.slice z5x z2z.2.length z5y)]]) (fun _ hx'=>((.cons .h1 (.cons .h1 .nil)) : Sel _ [stb z5h 39 [(.slice z5v z2z.1.length z5w)],stb z5i 39 [(.slice z5x z2z.2.length z5y)]] _).mem hx') (.head _) _).stb) (ztm.mono (Zle.left _ _)) ((hw1.lent ((.cons .here .nil) : Sel [y1A [fz [],stb z1M 77 [(.slice none (([] : List z2).length) 0)],row (.slice none (([] : List z2).length) 0) 30 2 (([] : List z2).flatMap e30),stb z1B 90 [(.int .i64 0)],blk z2G (z2T .ready none)],dfr z6Z,stb z5h 39 [(.slice z5v z2z.1.length z5w)],stb z5i 39 [(.slice z5x z2z.2.length z5y)],fz z5P] [y1A [fz [],stb z1M 77 [(.slice none (([] : List z2).length) 0)],row (.slice none (([] : List z2).length) 0) 30 2 (([] : List z2).flatMap e30),stb z1B 90 [(.int .i64 0)],blk z2G (z2T .ready none)]] [dfr z6Z,stb z5h 39 [(.slice z5v z2z.1.length z5w)],stb z5i 39 [(.slice z5x z2z.2.length z5y)],fz z5P]) (B:=[stb z5h 39 [(.slice z5v z2z.1.length z5w)],stb z5i 39 [(.slice z5x z2z.2.length z5y)]]) (fun _ hx'=>((.cons .h1 (.cons .h1 .nil)) : Sel _ [stb z5h 39 [(.slice z5v z2z.1.length z5w)],stb z5i 39 [(.slice z5x z2z.2.length z5y)]] _).mem hx') (.tail _ (.head _)) _).stb) ztp (hw1.owns ((.cons .here .nil) : Sel [y1A [fz [],stb z1M 77 [(.slice none (([] : List z2).length) 0)],row (.slice none (([] : List z2).length) 0) 30 2 (([] : List z2).flatMap e30),stb z1B 90 [(.int .i64 0)],blk z2G (z2T .ready none)],dfr z6Z,stb z5h 39 [(.slice z5v z2z.1.length z5w)],stb z5i 39 [(.slice z5x z2z.2.length z5y)],fz z5P] [y1A [fz [],stb z1M 77 [(.slice none (([] : List z2).length) 0)],row (.slice none (([] : List z2).length) 0) 30 2 (([] : List z2).flatMap e30),stb z1B 90 [(.int .i64 0)],blk z2G (z2T .ready none)]] [dfr z6Z,stb z5h 39 [(.slice z5v z2z.1.length z5w)],stb z5i 39 [(.slice z5x z2z.2.length z5y)],fz z5P]))) ?_
   ·skip
    refine y7j (LI:=(fun (g : Option Addr × Nat) (s : Nat × List z2 × Int)=>[fz [],stb z1M 77 [(.slice g.1 s.2.1.length g.2)],row (.slice g.1 s.2.1.length g.2) 30 2 (s.2.1.flatMap e30),stb z1B 90 [(.int .i64 s.2.2)]])) (pc:=(fun (s : Nat × List z2 × Int)=>pcs [] s.1)) zgW ztn zto (fun _ _=>rfl) (by decide) ?_
    rintro zd _ ⟨z2r,z2s⟩ ⟨ztq,z15,z6H⟩ ztr zts Fb wb zoG _ hz
    replace hz:=hz.left
    letI : Rnd:=inR z2G
    obtain ⟨hp0,z5Q⟩:=yp zoG
    replace hp0 : ztq = 0:=hp0; subst hp0; clear zoG
    replace z5Q : y1b zd z15 z6H = some (ztr,zts):=z5Q
    unfold y1b at z5Q
    refine WC.restr (env':=[(11,(.bool (!zgV))),(4,(.pointer (some ⟨z1B,0,none⟩))),(5,(.pointer (some ⟨z1M,0,none⟩))),(17,(.agg #[(.int .i64 zd.1.fBurst.fN),(.int .i64 zd.1.fBurst.fD),(.int .i64 zd.1.fR.fN),(.int .i64 zd.1.fR.fD)])),(18,(.agg #[(.int .i64 zd.2.fBurst.fN),(.int .i64 zd.2.fBurst.fD),(.int .i64 zd.2.fR.fN),(.int .i64 zd.2.fR.fD)]))]) (.cons rfl (.cons rfl (.cons rfl (.cons rfl (.cons rfl .nil))))) ?_
    refine WC.eqL (L':=[fz [],stb z1M 77 [(.slice z2r z15.length z2s)],row (.slice z2r z15.length z2s) 30 2 (z15.flatMap e30),stb z1B 90 [(.int .i64 z6H)],blk z2G (z2T .ready none)]) rfl ?_
    refine WC.b ?_
    refine WC.a ?_
    refine WL.new (dd:=7) rfl rfl rfl (yh (cs:=[(.int .i64 0),(.int .i64 0),(.int .i64 0),(.int .i64 0)]) y3H rfl) ?_
    intro z4Y _
    refine WL.yc rfl rfl (yd (vs:=[(.int .i64 zd.1.fBurst.fN),(.int .i64 zd.1.fBurst.fD),(.int .i64 zd.1.fR.fN),(.int .i64 zd.1.fR.fD)]) (ds:=[(.int .i64 zd.1.fBurst.fN),(.int .i64 zd.1.fBurst.fD),(.int .i64 zd.1.fR.fN),(.int .i64 zd.1.fR.fD)]) y3V rfl rfl rfl rfl (y3 rfl (y3 rfl (y3 rfl (y3 rfl yf)))) .here (Nat.le_of_ble_eq_true rfl) rfl) ?_
    refine WL.nil ?_
    refine WX.a ?_
    refine WC.a ?_
    refine WL.new (dd:=8) rfl rfl rfl (yh (cs:=[(.int .i64 0),(.int .i64 0),(.int .i64 0),(.int .i64 0)]) y3H rfl) ?_
    intro z4Z _
    refine WL.yc rfl rfl (yd (vs:=[(.int .i64 zd.2.fBurst.fN),(.int .i64 zd.2.fBurst.fD),(.int .i64 zd.2.fR.fN),(.int .i64 zd.2.fR.fD)]) (ds:=[(.int .i64 zd.2.fBurst.fN),(.int .i64 zd.2.fBurst.fD),(.int .i64 zd.2.fR.fN),(.int .i64 zd.2.fR.fD)]) y3V rfl rfl rfl rfl (y3 rfl (y3 rfl (y3 rfl (y3 rfl yf)))) .here (Nat.le_of_ble_eq_true rfl) rfl) ?_
    refine WL.nil ?_
    refine WX.y7R zgW .h6 ?_
    refine WC.block ?_
    refine WC.b ?_
    obtain ⟨zjU,ztt,z5Q⟩:=zb z5Q
    refine WC.a ?_
    refine WL.a (d:=19) rfl rfl rfl (y4 y3W rfl rfl) ?_
    refine WL.a (d:=20) rfl rfl rfl (y6 (cs:=[(.int .i64 zd.1.fBurst.fN),(.int .i64 zd.1.fBurst.fD)]) y5 rfl rfl (y1T (s:=2) .h2 rfl)) ?_
    refine WL.a (d:=21) rfl rfl rfl (y4 y3W rfl rfl) ?_
    refine WL.a (d:=22) rfl rfl rfl (y6 (cs:=[(.int .i64 zd.2.fBurst.fN),(.int .i64 zd.2.fBurst.fD)]) y5 rfl rfl (y1T (s:=2) .h1 rfl)) ?_
    refine WL.b (dd:=23) rfl rfl rfl (zl (l:=[.tmp 20,.tmp 22]) Try.call18 (.cons rfl (.cons rfl .nil))) (.nil : Sel [blk z2G (z2T .busy none),stb z4Z 35 [(.int .i64 zd.2.fBurst.fN),(.int .i64 zd.2.fBurst.fD),(.int .i64 zd.2.fR.fN),(.int .i64 zd.2.fR.fD)],stb z4Y 35 [(.int .i64 zd.1.fBurst.fN),(.int .i64 zd.1.fBurst.fD),(.int .i64 zd.1.fR.fN),(.int .i64 zd.1.fR.fD)],fz [],stb z1M 77 [(.slice z2r z15.length z2s)],row (.slice z2r z15.length z2s) 30 2 (z15.flatMap e30),stb z1B 90 [(.int .i64 z6H)]] [] [blk z2G (z2T .busy none),stb z4Z 35 [(.int .i64 zd.2.fBurst.fN),(.int .i64 zd.2.fBurst.fD),(.int .i64 zd.2.fR.fN),(.int .i64 zd.2.fR.fD)],stb z4Y 35 [(.int .i64 zd.1.fBurst.fN),(.int .i64 zd.1.fBurst.fD),(.int .i64 zd.1.fR.fN),(.int .i64 zd.1.fR.fD)],fz [],stb z1M 77 [(.slice z2r z15.length z2s)],row (.slice z2r z15.length z2s) 30 2 (z15.flatMap e30),stb z1B 90 [(.int .i64 z6H)]]) (fun w hw=>by have pz:=(hz.call2 hw (.nil : Sel [blk z2G (z2T .busy none),stb z4Z 35 [(.int .i64 zd.2.fBurst.fN),(.int .i64 zd.2.fBurst.fD),(.int .i64 zd.2.fR.fN),(.int .i64 zd.2.fR.fD)],stb z4Y 35 [(.int .i64 zd.1.fBurst.fN),(.int .i64 zd.1.fBurst.fD),(.int .i64 zd.1.fR.fN),(.int .i64 zd.1.fR.fD)],fz [],stb z1M 77 [(.slice z2r z15.length z2s)],row (.slice z2r z15.length z2s) 30 2 (z15.flatMap e30),stb z1B 90 [(.int .i64 z6H)]] [] [blk z2G (z2T .busy none),stb z4Z 35 [(.int .i64 zd.2.fBurst.fN),(.int .i64 zd.2.fBurst.fD),(.int .i64 zd.2.fR.fN),(.int .i64 zd.2.fR.fD)],stb z4Y 35 [(.int .i64 zd.1.fBurst.fN),(.int .i64 zd.1.fBurst.fD),(.int .i64 zd.1.fR.fN),(.int .i64 zd.1.fR.fD)],fz [],stb z1M 77 [(.slice z2r z15.length z2s)],row (.slice z2r z15.length z2s) 30 2 (z15.flatMap e30),stb z1B 90 [(.int .i64 z6H)]]) .h3); exact y1Y (Z:=_)  (z2m:=zd.1.fBurst) (z2n:=zd.2.fBurst) (r:=zjU) w pz  ztt) ?_
    refine WL.a (d:=24) rfl rfl rfl (y1h rfl rfl) ?_
    refine WL.nil ?_
    refine WX.a ?_
    refine WC.cond rfl (fun zjY=>?_) (fun zjY=>?_)
    ·replace z5Q:=yj z5Q zjY
     obtain ⟨z8i,ztu,z5Q⟩:=zb z5Q
     obtain ⟨z8j,ztv,z5Q⟩:=zb z5Q
     obtain ⟨z7D,ztw,z5Q⟩:=zb z5Q
     obtain ⟨ztx,z5Q⟩:=yp z5Q
     refine WC.y1e (fun i=>[5,10,11,13,14].contains i) [stbp z1M 77 [(0,(.slice z2r z15.length z2s))],stb z4Y 35 [(.int .i64 zd.1.fBurst.fN),(.int .i64 zd.1.fBurst.fD),(.int .i64 zd.1.fR.fN),(.int .i64 zd.1.fR.fD)],stb z4Z 35 [(.int .i64 zd.2.fBurst.fN),(.int .i64 zd.2.fBurst.fD),(.int .i64 zd.2.fR.fN),(.int .i64 zd.2.fR.fD)]] rfl ?_
     refine WD.y2z (i:=0) (d:=25) (by kernel_rfl) rfl (z6 (by kernel_rfl)) (z7 (by kernel_rfl)) rfl rfl rfl (Sin.wk (.cons .h4 (.cons .h2 (.cons .h1 .nil))) (.stb (.cons rfl .nil) (.same (.same .nil)))) (ye y3y rfl (y7A .here (.head _))) ?_
     refine WD.a (i:=1) (d:=26) (by kernel_rfl) rfl (z6 (by kernel_rfl)) (z7 (by kernel_rfl)) rfl rfl rfl (fun _=>y4 y3W rfl rfl) ?_
     refine WD.e (i:=2) (d:=27) (by kernel_rfl) rfl (z6 (by kernel_rfl)) (z7 (by kernel_rfl)) rfl rfl rfl (y6 (cs:=[(.int .i64 zd.2.fBurst.fN),(.int .i64 zd.2.fBurst.fD)]) y5 rfl rfl (y1T (s:=2) .h1 rfl)) ?_
     refine WD.a (i:=3) (d:=28) (by kernel_rfl) rfl (z6 (by kernel_rfl)) (z7 (by kernel_rfl)) rfl rfl rfl (fun _=>y4 y3W rfl rfl) ?_
     refine WD.e (i:=4) (d:=29) (by kernel_rfl) rfl (z6 (by kernel_rfl)) (z7 (by kernel_rfl)) rfl rfl rfl (y6 (cs:=[(.int .i64 zd.1.fBurst.fN),(.int .i64 zd.1.fBurst.fD)]) y5 rfl rfl (y1T (s:=2) .h2 rfl)) ?_
     refine WD.a (i:=6) (d:=31) (by kernel_rfl) rfl (z6 (by kernel_rfl)) (z7 (by kernel_rfl)) rfl rfl rfl (fun _=>y4 y4J rfl rfl) ?_
     refine WD.y2z (i:=7) (d:=32) (by kernel_rfl) rfl (z6 (by kernel_rfl)) (z7 (by kernel_rfl)) rfl rfl rfl (Sin.wk (.cons .h4 (.cons .h2 (.cons .h1 .nil))) (.stb (.cons rfl .nil) (.same (.same .nil)))) (y6 (cs:=[(.int .i64 zd.1.fR.fN),(.int .i64 zd.1.fR.fD)]) y5 rfl rfl (y1T (s:=2) .h1 rfl)) ?_
     refine WD.a (i:=8) (d:=33) (by kernel_rfl) rfl (z6 (by kernel_rfl)) (z7 (by kernel_rfl)) rfl rfl rfl (fun _=>y4 y4J rfl rfl) ?_
     refine WD.y2z (i:=9) (d:=34) (by kernel_rfl) rfl (z6 (by kernel_rfl)) (z7 (by kernel_rfl)) rfl rfl rfl (Sin.wk (.cons .h4 (.cons .h2 (.cons .h1 .nil))) (.stb (.cons rfl .nil) (.same (.same .nil)))) (y6 (cs:=[(.int .i64 zd.2.fR.fN),(.int .i64 zd.2.fR.fD)]) y5 rfl rfl (y1T (s:=2) .h2 rfl)) ?_
     refine WD.call0 (i:=5) (dd:=30) rfl (by kernel_rfl) rfl rfl rfl (.inl ⟨rfl,(Sin.wk (.cons .h5 (.cons .h3 (.cons .h2 .nil))) (.stb (.cons rfl .nil) (.same (.same .nil))))⟩) (zl (l:=[.tmp 4,.func 24,.tmp 27,.tmp 29]) Try.call58 (.cons rfl (.cons rfl (.cons rfl (.cons rfl .nil))))) ((.cons .h6 .nil) : Sel [blk z2G (z2T .busy none),stb z4Z 35 [(.int .i64 zd.2.fBurst.fN),(.int .i64 zd.2.fBurst.fD),(.int .i64 zd.2.fR.fN),(.int .i64 zd.2.fR.fD)],stb z4Y 35 [(.int .i64 zd.1.fBurst.fN),(.int .i64 zd.1.fBurst.fD),(.int .i64 zd.1.fR.fN),(.int .i64 zd.1.fR.fD)],fz [],stb z1M 77 [(.slice z2r z15.length z2s)],row (.slice z2r z15.length z2s) 30 2 (z15.flatMap e30),stb z1B 90 [(.int .i64 z6H)]] [stb z1B 90 [(.int .i64 z6H)]] [blk z2G (z2T .busy none),stb z4Z 35 [(.int .i64 zd.2.fBurst.fN),(.int .i64 zd.2.fBurst.fD),(.int .i64 zd.2.fR.fN),(.int .i64 zd.2.fR.fD)],stb z4Y 35 [(.int .i64 zd.1.fBurst.fN),(.int .i64 zd.1.fBurst.fD),(.int .i64 zd.1.fR.fN),(.int .i64 zd.1.fR.fD)],fz [],stb z1M 77 [(.slice z2r z15.length z2s)],row (.slice z2r z15.length z2s) 30 2 (z15.flatMap e30)]) (fun w hw=>by have pz:=(hz.call2 hw ((.cons .h6 .nil) : Sel [blk z2G (z2T .busy none),stb z4Z 35 [(.int .i64 zd.2.fBurst.fN),(.int .i64 zd.2.fBurst.fD),(.int .i64 zd.2.fR.fN),(.int .i64 zd.2.fR.fD)],stb z4Y 35 [(.int .i64 zd.1.fBurst.fN),(.int .i64 zd.1.fBurst.fD),(.int .i64 zd.1.fR.fN),(.int .i64 zd.1.fR.fD)],fz [],stb z1M 77 [(.slice z2r z15.length z2s)],row (.slice z2r z15.length z2s) 30 2 (z15.flatMap e30),stb z1B 90 [(.int .i64 z6H)]] [stb z1B 90 [(.int .i64 z6H)]] [blk z2G (z2T .busy none),stb z4Z 35 [(.int .i64 zd.2.fBurst.fN),(.int .i64 zd.2.fBurst.fD),(.int .i64 zd.2.fR.fN),(.int .i64 zd.2.fR.fD)],stb z4Y 35 [(.int .i64 zd.1.fBurst.fN),(.int .i64 zd.1.fBurst.fD),(.int .i64 zd.1.fR.fN),(.int .i64 zd.1.fR.fD)],fz [],stb z1M 77 [(.slice z2r z15.length z2s)],row (.slice z2r z15.length z2s) 30 2 (z15.flatMap e30)]) .h3); exact Calls.mono (y3l (Z:=_) (z7B:=z1B) (z8g:=24) (z9m:=[]) (z7A:=(⟨z6H⟩ : z2y)) (zad:=(fun (y0 : z2) (y1 : z2)=>y1x y0 y1)) (z5L:=zd.2.fBurst) (z5M:=zd.1.fBurst) (r:=z8i) w pz Try.call24 (fun w' hz' y0 y1  r  hr=>y4K (Z:=_)  (z3Y:=y0) (z3Z:=y1) (r:=r) w' hz'  hr) ztu (hw.owns ((.cons .h6 .nil) : Sel [blk z2G (z2T .busy none),stb z4Z 35 [(.int .i64 zd.2.fBurst.fN),(.int .i64 zd.2.fBurst.fD),(.int .i64 zd.2.fR.fN),(.int .i64 zd.2.fR.fD)],stb z4Y 35 [(.int .i64 zd.1.fBurst.fN),(.int .i64 zd.1.fBurst.fD),(.int .i64 zd.1.fR.fN),(.int .i64 zd.1.fR.fD)],fz [],stb z1M 77 [(.slice z2r z15.length z2s)],row (.slice z2r z15.length z2s) 30 2 (z15.flatMap e30),stb z1B 90 [(.int .i64 z6H)]] [stb z1B 90 [(.int .i64 z6H)]] [blk z2G (z2T .busy none),stb z4Z 35 [(.int .i64 zd.2.fBurst.fN),(.int .i64 zd.2.fBurst.fD),(.int .i64 zd.2.fR.fN),(.int .i64 zd.2.fR.fD)],stb z4Y 35 [(.int .i64 zd.1.fBurst.fN),(.int .i64 zd.1.fBurst.fD),(.int .i64 zd.1.fR.fN),(.int .i64 zd.1.fR.fD)],fz [],stb z1M 77 [(.slice z2r z15.length z2s)],row (.slice z2r z15.length z2s) 30 2 (z15.flatMap e30)]))) (fun _ _ h'=>⟨h'.1,trivial,h'.2⟩)) ?_
     intro _
     refine WD.call0 (i:=10) (dd:=35) rfl (by kernel_rfl) rfl rfl rfl (.inl ⟨rfl,(Sin.wk (.cons .h5 (.cons .h3 (.cons .h2 .nil))) (.stb (.cons rfl .nil) (.same (.same .nil))))⟩) (zl (l:=[.tmp 4,.func 24,.tmp 32,.tmp 34]) Try.call58 (.cons rfl (.cons rfl (.cons rfl (.cons rfl .nil))))) ((.cons .here .nil) : Sel [stb z1B 90 [(.int .i64 z8i.2.fE)],blk z2G (z2T .busy none),stb z4Z 35 [(.int .i64 zd.2.fBurst.fN),(.int .i64 zd.2.fBurst.fD),(.int .i64 zd.2.fR.fN),(.int .i64 zd.2.fR.fD)],stb z4Y 35 [(.int .i64 zd.1.fBurst.fN),(.int .i64 zd.1.fBurst.fD),(.int .i64 zd.1.fR.fN),(.int .i64 zd.1.fR.fD)],fz [],stb z1M 77 [(.slice z2r z15.length z2s)],row (.slice z2r z15.length z2s) 30 2 (z15.flatMap e30)] [stb z1B 90 [(.int .i64 z8i.2.fE)]] [blk z2G (z2T .busy none),stb z4Z 35 [(.int .i64 zd.2.fBurst.fN),(.int .i64 zd.2.fBurst.fD),(.int .i64 zd.2.fR.fN),(.int .i64 zd.2.fR.fD)],stb z4Y 35 [(.int .i64 zd.1.fBurst.fN),(.int .i64 zd.1.fBurst.fD),(.int .i64 zd.1.fR.fN),(.int .i64 zd.1.fR.fD)],fz [],stb z1M 77 [(.slice z2r z15.length z2s)],row (.slice z2r z15.length z2s) 30 2 (z15.flatMap e30)]) (fun w hw=>by have pz:=(hz.call2 hw ((.cons .here .nil) : Sel [stb z1B 90 [(.int .i64 z8i.2.fE)],blk z2G (z2T .busy none),stb z4Z 35 [(.int .i64 zd.2.fBurst.fN),(.int .i64 zd.2.fBurst.fD),(.int .i64 zd.2.fR.fN),(.int .i64 zd.2.fR.fD)],stb z4Y 35 [(.int .i64 zd.1.fBurst.fN),(.int .i64 zd.1.fBurst.fD),(.int .i64 zd.1.fR.fN),(.int .i64 zd.1.fR.fD)],fz [],stb z1M 77 [(.slice z2r z15.length z2s)],row (.slice z2r z15.length z2s) 30 2 (z15.flatMap e30)] [stb z1B 90 [(.int .i64 z8i.2.fE)]] [blk z2G (z2T .busy none),stb z4Z 35 [(.int .i64 zd.2.fBurst.fN),(.int .i64 zd.2.fBurst.fD),(.int .i64 zd.2.fR.fN),(.int .i64 zd.2.fR.fD)],stb z4Y 35 [(.int .i64 zd.1.fBurst.fN),(.int .i64 zd.1.fBurst.fD),(.int .i64 zd.1.fR.fN),(.int .i64 zd.1.fR.fD)],fz [],stb z1M 77 [(.slice z2r z15.length z2s)],row (.slice z2r z15.length z2s) 30 2 (z15.flatMap e30)]) .h3); exact Calls.mono (y3l (Z:=_) (z7B:=z1B) (z8g:=24) (z9m:=[]) (z7A:=z8i.2) (zad:=(fun (y0 : z2) (y1 : z2)=>y1x y0 y1)) (z5L:=zd.1.fR) (z5M:=zd.2.fR) (r:=z8j) w pz Try.call24 (fun w' hz' y0 y1  r  hr=>y4K (Z:=_)  (z3Y:=y0) (z3Z:=y1) (r:=r) w' hz'  hr) ztv (hw.owns ((.cons .here .nil) : Sel [stb z1B 90 [(.int .i64 z8i.2.fE)],blk z2G (z2T .busy none),stb z4Z 35 [(.int .i64 zd.2.fBurst.fN),(.int .i64 zd.2.fBurst.fD),(.int .i64 zd.2.fR.fN),(.int .i64 zd.2.fR.fD)],stb z4Y 35 [(.int .i64 zd.1.fBurst.fN),(.int .i64 zd.1.fBurst.fD),(.int .i64 zd.1.fR.fN),(.int .i64 zd.1.fR.fD)],fz [],stb z1M 77 [(.slice z2r z15.length z2s)],row (.slice z2r z15.length z2s) 30 2 (z15.flatMap e30)] [stb z1B 90 [(.int .i64 z8i.2.fE)]] [blk z2G (z2T .busy none),stb z4Z 35 [(.int .i64 zd.2.fBurst.fN),(.int .i64 zd.2.fBurst.fD),(.int .i64 zd.2.fR.fN),(.int .i64 zd.2.fR.fD)],stb z4Y 35 [(.int .i64 zd.1.fBurst.fN),(.int .i64 zd.1.fBurst.fD),(.int .i64 zd.1.fR.fN),(.int .i64 zd.1.fR.fD)],fz [],stb z1M 77 [(.slice z2r z15.length z2s)],row (.slice z2r z15.length z2s) 30 2 (z15.flatMap e30)]))) (fun _ _ h'=>⟨h'.1,trivial,h'.2⟩)) ?_
     intro _
     refine WD.call0 (i:=11) (dd:=36) rfl (by kernel_rfl) rfl rfl rfl (.inl ⟨rfl,(Sin.wk (.cons .h5 (.cons .h3 (.cons .h2 .nil))) (.stb (.cons rfl .nil) (.same (.same .nil))))⟩) (zl (l:=[.tmp 4,.func 34,.tmp 30,.tmp 35]) Try.call58 (.cons rfl (.cons rfl (.cons rfl (.cons rfl .nil))))) ((.cons .here .nil) : Sel [stb z1B 90 [(.int .i64 z8j.2.fE)],blk z2G (z2T .busy none),stb z4Z 35 [(.int .i64 zd.2.fBurst.fN),(.int .i64 zd.2.fBurst.fD),(.int .i64 zd.2.fR.fN),(.int .i64 zd.2.fR.fD)],stb z4Y 35 [(.int .i64 zd.1.fBurst.fN),(.int .i64 zd.1.fBurst.fD),(.int .i64 zd.1.fR.fN),(.int .i64 zd.1.fR.fD)],fz [],stb z1M 77 [(.slice z2r z15.length z2s)],row (.slice z2r z15.length z2s) 30 2 (z15.flatMap e30)] [stb z1B 90 [(.int .i64 z8j.2.fE)]] [blk z2G (z2T .busy none),stb z4Z 35 [(.int .i64 zd.2.fBurst.fN),(.int .i64 zd.2.fBurst.fD),(.int .i64 zd.2.fR.fN),(.int .i64 zd.2.fR.fD)],stb z4Y 35 [(.int .i64 zd.1.fBurst.fN),(.int .i64 zd.1.fBurst.fD),(.int .i64 zd.1.fR.fN),(.int .i64 zd.1.fR.fD)],fz [],stb z1M 77 [(.slice z2r z15.length z2s)],row (.slice z2r z15.length z2s) 30 2 (z15.flatMap e30)]) (fun w hw=>by have pz:=(hz.call2 hw ((.cons .here .nil) : Sel [stb z1B 90 [(.int .i64 z8j.2.fE)],blk z2G (z2T .busy none),stb z4Z 35 [(.int .i64 zd.2.fBurst.fN),(.int .i64 zd.2.fBurst.fD),(.int .i64 zd.2.fR.fN),(.int .i64 zd.2.fR.fD)],stb z4Y 35 [(.int .i64 zd.1.fBurst.fN),(.int .i64 zd.1.fBurst.fD),(.int .i64 zd.1.fR.fN),(.int .i64 zd.1.fR.fD)],fz [],stb z1M 77 [(.slice z2r z15.length z2s)],row (.slice z2r z15.length z2s) 30 2 (z15.flatMap e30)] [stb z1B 90 [(.int .i64 z8j.2.fE)]] [blk z2G (z2T .busy none),stb z4Z 35 [(.int .i64 zd.2.fBurst.fN),(.int .i64 zd.2.fBurst.fD),(.int .i64 zd.2.fR.fN),(.int .i64 zd.2.fR.fD)],stb z4Y 35 [(.int .i64 zd.1.fBurst.fN),(.int .i64 zd.1.fBurst.fD),(.int .i64 zd.1.fR.fN),(.int .i64 zd.1.fR.fD)],fz [],stb z1M 77 [(.slice z2r z15.length z2s)],row (.slice z2r z15.length z2s) 30 2 (z15.flatMap e30)]) .h3); exact Calls.mono (y3l (Z:=_) (z7B:=z1B) (z8g:=34) (z9m:=[]) (z7A:=z8j.2) (zad:=(fun (y0 : z2) (y1 : z2)=>y2Q y0 y1)) (z5L:=z8i.1) (z5M:=z8j.1) (r:=z7D) w pz Try.call34 (fun w' hz' y0 y1  r  hr=>y8E (Z:=_)  (z4K:=y0) (z4L:=y1) (r:=r) w' hz'  hr) ztw (hw.owns ((.cons .here .nil) : Sel [stb z1B 90 [(.int .i64 z8j.2.fE)],blk z2G (z2T .busy none),stb z4Z 35 [(.int .i64 zd.2.fBurst.fN),(.int .i64 zd.2.fBurst.fD),(.int .i64 zd.2.fR.fN),(.int .i64 zd.2.fR.fD)],stb z4Y 35 [(.int .i64 zd.1.fBurst.fN),(.int .i64 zd.1.fBurst.fD),(.int .i64 zd.1.fR.fN),(.int .i64 zd.1.fR.fD)],fz [],stb z1M 77 [(.slice z2r z15.length z2s)],row (.slice z2r z15.length z2s) 30 2 (z15.flatMap e30)] [stb z1B 90 [(.int .i64 z8j.2.fE)]] [blk z2G (z2T .busy none),stb z4Z 35 [(.int .i64 zd.2.fBurst.fN),(.int .i64 zd.2.fBurst.fD),(.int .i64 zd.2.fR.fN),(.int .i64 zd.2.fR.fD)],stb z4Y 35 [(.int .i64 zd.1.fBurst.fN),(.int .i64 zd.1.fBurst.fD),(.int .i64 zd.1.fR.fN),(.int .i64 zd.1.fR.fD)],fz [],stb z1M 77 [(.slice z2r z15.length z2s)],row (.slice z2r z15.length z2s) 30 2 (z15.flatMap e30)]))) (fun _ _ h'=>⟨h'.1,trivial,h'.2⟩)) ?_
     intro _
     refine WD.new (i:=12) (dd:=37) rfl (by kernel_rfl) rfl rfl rfl (yU (cs:=([z7D.1] : List z2).flatMap e30) y1H (Eos.parts (l:=[.tmp 36]) (.cons rfl .nil) [0]) (fun _=>by kernel_rfl) rfl (by unfold maxLen; omega)) (fun h'=>absurd h' (by decide)) ?_
     intro zzT _
     refine WD.old (i:=13) (dd:=38) rfl (by kernel_rfl) rfl rfl rfl rfl (fun _=>(Sin.wk (.cons .h7 (.cons .h5 (.cons .h4 .nil))) (.stb (.cons rfl .nil) (.same (.same .nil))))) (y5f (enc:=e30) (l1:=z15) (l2:=([z7D.1] : List z2)) y1H rfl rfl .h7 (fun _=>rfl) rfl rfl (y65 .here) (y5S y86 _) ztx) ?_
     rintro ⟨zf5,zf6⟩ _
     refine WD.y61 (i:=14) rfl (by kernel_rfl) rfl rfl rfl (by kernel_rfl) (yd (vs:=[(.slice zf5 ((z15 ++ ([z7D.1] : List z2)).length) zf6)]) (ds:=[(.slice zf5 ((z15 ++ ([z7D.1] : List z2)).length) zf6)]) y8p rfl rfl rfl rfl (y3 rfl yf) .h7 (Nat.le_of_ble_eq_true rfl) rfl) ?_
     refine WD.done (by kernel_rfl) ?_
     refine WX.yn ?_
     obtain ⟨rfl,rfl⟩:=y6L z5Q
     exact WX.y4g zgW .h4 (fun w' hw'=>⟨(zf5,zf6),rfl,trivial,(hw'.selAll ((.cons .h7 (.cons .h1 (.cons .h1 (.cons .h2 (.cons .here .nil))))) : Sel _ [fz [],stb z1M 77 [(.slice zf5 ((z15 ++ ([z7D.1] : List z2)).length) zf6)],row (.slice zf5 ((z15 ++ ([z7D.1] : List z2)).length) zf6) 30 2 ((z15 ++ ([z7D.1] : List z2)).flatMap e30),stb z1B 90 [(.int .i64 z7D.2.fE)],blk z2G (z2T .ready none)] _)).sub (.cons .here .nil)⟩)
    ·replace z5Q:=yk z5Q zjY
     refine WC.skip ?_
     refine WX.yn ?_
     obtain ⟨rfl,rfl⟩:=y6L z5Q
     exact WX.y4g zgW .here (fun w' hw'=>⟨(z2r,z2s),rfl,trivial,(hw'.selAll ((.cons .h3 (.cons .h3 (.cons .h3 (.cons .h3 (.cons .here .nil))))) : Sel _ [fz [],stb z1M 77 [(.slice z2r z15.length z2s)],row (.slice z2r z15.length z2s) 30 2 (z15.flatMap e30),stb z1B 90 [(.int .i64 z6H)],blk z2G (z2T .ready none)] _)).sub (.cons .here .nil)⟩)
   ·skip
    rintro _ w' ⟨⟨zf7,zf8⟩,rfl,_,hp⟩
    have hp1:=hw1.call ((.cons .here .nil) : Sel [y1A [fz [],stb z1M 77 [(.slice none (([] : List z2).length) 0)],row (.slice none (([] : List z2).length) 0) 30 2 (([] : List z2).flatMap e30),stb z1B 90 [(.int .i64 0)],blk z2G (z2T .ready none)],dfr z6Z,stb z5h 39 [(.slice z5v z2z.1.length z5w)],stb z5i 39 [(.slice z5x z2z.2.length z5y)],fz z5P] [y1A [fz [],stb z1M 77 [(.slice none (([] : List z2).length) 0)],row (.slice none (([] : List z2).length) 0) 30 2 (([] : List z2).flatMap e30),stb z1B 90 [(.int .i64 0)],blk z2G (z2T .ready none)]] [dfr z6Z,stb z5h 39 [(.slice z5v z2z.1.length z5w)],stb z5i 39 [(.slice z5x z2z.2.length z5y)],fz z5P]) hp
    have hp2 : Hp _ _ w' [fz [],stb z1M 77 [(.slice zf7 z5N.2.1.length zf8)],row (.slice zf7 z5N.2.1.length zf8) 30 2 (z5N.2.1.flatMap e30),stb z1B 90 [(.int .i64 z5N.2.2)],blk z2G (z2T (rdy (pcs [] z5N.1)) (pcs [] z5N.1)),dfr z6Z,stb z5h 39 [(.slice z5v z2z.1.length z5w)],stb z5i 39 [(.slice z5x z2z.2.length z5y)],fz z5P]:=hp1.pickAll .here
    refine ⟨_,pcs [] z5N.1,_,rfl,(hp2.sub ((.cons .h4 (.cons .here (.cons .here (.cons .here (.cons .here (.cons .here (.cons .here (.cons .here (.cons .here .nil))))))))) : Sel _ [blk z2G (z2T (rdy (pcs [] z5N.1)) (pcs [] z5N.1)),fz [],stb z1M 77 [(.slice zf7 z5N.2.1.length zf8)],row (.slice zf7 z5N.2.1.length zf8) 30 2 (z5N.2.1.flatMap e30),stb z1B 90 [(.int .i64 z5N.2.2)],dfr z6Z,stb z5h 39 [(.slice z5v z2z.1.length z5w)],stb z5i 39 [(.slice z5x z2z.2.length z5y)],fz z5P] _)),?_⟩
    clear hp hp1 hp2 pz hw hw1
    refine wjN ?_
    letI : Rnd:=aft z6Z
    refine WX.merge .here .h6 ?_
    refine WX.yn ?_
    exact WX.midR (D:=fun (g : Nat × Int × List z2 × Zp × Option Addr × Nat)=>g.1) (G:=Nat × Int × List z2 × Zp × Option Addr × Nat) ⟨z6Z,z5N.2.2,z5N.2.1,(z5P ++ []),zf7,zf8⟩ ⟨h,(ztj.trans ((Zle.left _ _).trans (Zle.yi _ _ _)))⟩ (.cons rfl (.cons rfl .nil)) (.cons .here (.cons .h2 (.cons .here (.cons .here (.cons .here .nil)))))
  ·rintro z6I z5u z3T z5O z3y z3z ⟨h,zzU⟩
   replace h:=(zti z5u z3T).symm.trans h
   letI : Rnd:=aft z6I
   refine WC.b ?_
   refine WC.b ?_
   refine WC.a ?_
   refine WL.a (d:=39) rfl rfl rfl (y4 y5Y rfl rfl) ?_
   refine WL.a (d:=40) rfl rfl rfl (ye y2H rfl (yu .h1 rfl)) ?_
   refine WL.a (d:=41) rfl rfl rfl (y2L rfl rfl) ?_
   refine WL.nil ?_
   refine WX.a ?_
   refine WC.cond rfl (fun zjZ=>?_) (fun zjZ=>?_)
   ·replace h:=yj h zjZ
    refine WC.b ?_
    refine WC.y1e (fun i=>[].contains i) [] rfl ?_
    refine WD.a (i:=0) (d:=42) (by kernel_rfl) rfl (z6 (by kernel_rfl)) (z7 (by kernel_rfl)) rfl rfl rfl (fun _=>y4 y5Y rfl rfl) ?_
    refine WD.e (i:=1) (d:=43) (by kernel_rfl) rfl (z6 (by kernel_rfl)) (z7 (by kernel_rfl)) rfl rfl rfl (ye y2H rfl (yu .h1 rfl)) ?_
    refine WD.a (i:=2) (d:=2) (by kernel_rfl) rfl (z6 (by kernel_rfl)) (z7 (by kernel_rfl)) rfl rfl rfl (fun _=>q_z rfl) ?_
    refine WD.a (i:=3) (d:=3) (by kernel_rfl) rfl (z6 (by kernel_rfl)) (z7 (by kernel_rfl)) rfl rfl rfl (fun _=>q_z rfl) ?_
    refine WD.done (by kernel_rfl) ?_
    refine WX.a ?_
    refine WC.ret ?_
    refine WX.y8 ?_
    refine WX.nilRow 30 2 ?_
    obtain rfl:=Option.some.inj h
    refine WX.y4H .h5 Try.results68 (.tmp rfl (.tmp rfl .nil)) (fun w hw=>?_)
    exact ⟨z5O,none,0,y1I rfl rfl,trivial,hw.sub (.cons .h2 (.cons .h1 .nil))⟩
   ·replace h:=yk h zjZ
    refine WC.skip ?_
    refine WX.a ?_
    refine WC.b ?_
    obtain ⟨z4X,zty,h⟩:=zb h
    refine WC.a ?_
    refine WL.a (d:=44) rfl rfl rfl (ye y3y rfl (yu .h2 rfl)) ?_
    refine WL.y6s (dd:=45) rfl rfl rfl (zl (l:=[.tmp 44,.func 18]) Try.call77 (.cons rfl (.cons rfl .nil))) ((.cons .h3 .nil) : Sel [fz z5O,stb z1B 90 [(.int .i64 z5u)],stb z1M 77 [(.slice z3y z3T.length z3z)],row (.slice z3y z3T.length z3z) 30 2 (z3T.flatMap e30),dfr z6I] [row (.slice z3y z3T.length z3z) 30 2 (z3T.flatMap e30)] [fz z5O,stb z1B 90 [(.int .i64 z5u)],stb z1M 77 [(.slice z3y z3T.length z3z)],dfr z6I]) (fun w hw=>by have pz:=(hz.call2 hw ((.cons .h3 .nil) : Sel [fz z5O,stb z1B 90 [(.int .i64 z5u)],stb z1M 77 [(.slice z3y z3T.length z3z)],row (.slice z3y z3T.length z3z) 30 2 (z3T.flatMap e30),dfr z6I] [row (.slice z3y z3T.length z3z) 30 2 (z3T.flatMap e30)] [fz z5O,stb z1B 90 [(.int .i64 z5u)],stb z1M 77 [(.slice z3y z3T.length z3z)],dfr z6I]) .here); exact y4w (Z:=_) (z5c:=z3y) (z5d:=z3z) (zb6:=18) (zdD:=[]) (z2F:=z3T) (zdC:=(fun (y0 : z2) (y1 : z2)=>yO y0 y1)) (r:=z4X) w pz Try.call18 (fun w' hz' y0 y1  r  hr=>y1Y (Z:=_)  (z2m:=y0) (z2n:=y1) (r:=r) w' hz'  hr) zty (hw.owns ((.cons .h3 .nil) : Sel [fz z5O,stb z1B 90 [(.int .i64 z5u)],stb z1M 77 [(.slice z3y z3T.length z3z)],row (.slice z3y z3T.length z3z) 30 2 (z3T.flatMap e30),dfr z6I] [row (.slice z3y z3T.length z3z) 30 2 (z3T.flatMap e30)] [fz z5O,stb z1B 90 [(.int .i64 z5u)],stb z1M 77 [(.slice z3y z3T.length z3z)],dfr z6I]))) ?_
    rintro  ztz
    refine WL.restb (cs':=[(.slice z3y z4X.length z3z)]) .h3 (by rw [ztz]) ?_
    refine WL.nil ?_
    refine WX.a ?_
    refine WC.b ?_
    obtain ⟨zjV,ztA,h⟩:=zb h
    refine WC.a ?_
    refine WL.a (d:=46) rfl rfl rfl (ye y3y rfl (yu .here rfl)) ?_
    refine WL.y5e (dd:=47) rfl rfl rfl (zl (l:=[.tmp 46]) Try.call78 (.cons rfl .nil)) ((.cons .h1 .nil) : Sel [stb z1M 77 [(.slice z3y z4X.length z3z)],row (.slice z3y z4X.length z3z) 30 2 (z4X.flatMap e30),fz z5O,stb z1B 90 [(.int .i64 z5u)],dfr z6I] [row (.slice z3y z4X.length z3z) 30 2 (z4X.flatMap e30)] [stb z1M 77 [(.slice z3y z4X.length z3z)],fz z5O,stb z1B 90 [(.int .i64 z5u)],dfr z6I]) (fun w hw=>by have pz:=(hz.call2 hw ((.cons .h1 .nil) : Sel [stb z1M 77 [(.slice z3y z4X.length z3z)],row (.slice z3y z4X.length z3z) 30 2 (z4X.flatMap e30),fz z5O,stb z1B 90 [(.int .i64 z5u)],dfr z6I] [row (.slice z3y z4X.length z3z) 30 2 (z4X.flatMap e30)] [stb z1M 77 [(.slice z3y z4X.length z3z)],fz z5O,stb z1B 90 [(.int .i64 z5u)],dfr z6I]) .h1); exact y4E (Z:=_) (z8S:=z3y) (z8T:=z3z) (z1F:=z4X) (r:=zjV) w pz  ztA (hw.owns ((.cons .h1 .nil) : Sel [stb z1M 77 [(.slice z3y z4X.length z3z)],row (.slice z3y z4X.length z3z) 30 2 (z4X.flatMap e30),fz z5O,stb z1B 90 [(.int .i64 z5u)],dfr z6I] [row (.slice z3y z4X.length z3z) 30 2 (z4X.flatMap e30)] [stb z1M 77 [(.slice z3y z4X.length z3z)],fz z5O,stb z1B 90 [(.int .i64 z5u)],dfr z6I]))) ?_
    rintro ztB ztC _
    refine WL.a (d:=2) rfl rfl rfl (q_z rfl) ?_
    refine WL.a (d:=3) rfl rfl rfl (q_z rfl) ?_
    refine WL.nil ?_
    refine WX.a ?_
    refine WC.ret ?_
    obtain rfl:=Option.some.inj h
    refine WX.y4H .h4 Try.results68 (.tmp rfl (.tmp rfl .nil)) (fun w hw=>?_)
    exact ⟨z5O,ztB,ztC,y1I rfl rfl,trivial,hw.sub (.cons .h3 (.cons .h1 .nil))⟩
def y29 (z37 : z1) (z38 : z1) : Option Int :=
 (yO z37.fR z38.fR).bind fun zk0=>some zk0
set_option maxRecDepth 20000 in
theorem y8s (Z : Zp)   (z37 : z1) (z38 : z1) (r : Int) (w₀ : World) (hz : PZ [] w₀ Z)
  (h : y29 z37 z38 = some r) :
  Calls Try.prog 43 #[(.agg #[(.int .i64 z37.fBurst.fN),(.int .i64 z37.fBurst.fD),(.int .i64 z37.fR.fN),(.int .i64 z37.fR.fD)]),(.agg #[(.int .i64 z38.fBurst.fN),(.int .i64 z38.fBurst.fD),(.int .i64 z38.fR.fN),(.int .i64 z38.fR.fD)])] w₀ fun e w'=>e = .returned (.int .i64 r) ∧ Hp [] w₀ w' []:=by
 unfold y29 at h
 refine Calls.yg (vs:=[(.agg #[(.int .i64 z37.fBurst.fN),(.int .i64 z37.fBurst.fD),(.int .i64 z37.fR.fN),(.int .i64 z37.fR.fD)]),(.agg #[(.int .i64 z38.fBurst.fN),(.int .i64 z38.fBurst.fD),(.int .i64 z38.fR.fN),(.int .i64 z38.fR.fD)])]) (pre:=[]) (env:=[(0,(.agg #[(.int .i64 z37.fBurst.fN),(.int .i64 z37.fBurst.fD),(.int .i64 z37.fR.fN),(.int .i64 z37.fR.fD)])),(1,(.agg #[(.int .i64 z38.fBurst.fN),(.int .i64 z38.fBurst.fD),(.int .i64 z38.fR.fN),(.int .i64 z38.fR.fD)]))]) Try.func43 rfl Try.ntmps43 rfl (Hp.nil w₀ _) rfl ?_
 refine WC.b ?_
 refine WC.a ?_
 refine WL.new (dd:=2) rfl rfl rfl (yK (cs:=[(.int .i64 z37.fBurst.fN),(.int .i64 z37.fBurst.fD),(.int .i64 z37.fR.fN),(.int .i64 z37.fR.fD)]) rfl rfl) ?_
 intro zgX _
 refine WL.new (dd:=3) rfl rfl rfl (yK (cs:=[(.int .i64 z38.fBurst.fN),(.int .i64 z38.fBurst.fD),(.int .i64 z38.fR.fN),(.int .i64 z38.fR.fD)]) rfl rfl) ?_
 intro zgY _
 refine WL.a (d:=4) rfl rfl rfl (q_z rfl) ?_
 refine WL.nil ?_
 refine WX.a ?_
 refine WC.b ?_
 obtain ⟨zk0,ztD,h⟩:=zb h
 refine WC.a ?_
 refine WL.a (d:=5) rfl rfl rfl (y4 y4J rfl rfl) ?_
 refine WL.a (d:=6) rfl rfl rfl (y6 (cs:=[(.int .i64 z37.fR.fN),(.int .i64 z37.fR.fD)]) y5 rfl rfl (y1T (s:=2) .h1 rfl)) ?_
 refine WL.a (d:=7) rfl rfl rfl (y4 y4J rfl rfl) ?_
 refine WL.a (d:=8) rfl rfl rfl (y6 (cs:=[(.int .i64 z38.fR.fN),(.int .i64 z38.fR.fD)]) y5 rfl rfl (y1T (s:=2) .here rfl)) ?_
 refine WL.b (dd:=9) rfl rfl rfl (zl (l:=[.tmp 6,.tmp 8]) Try.call18 (.cons rfl (.cons rfl .nil))) (.nil : Sel [stb zgY 35 [(.int .i64 z38.fBurst.fN),(.int .i64 z38.fBurst.fD),(.int .i64 z38.fR.fN),(.int .i64 z38.fR.fD)],stb zgX 35 [(.int .i64 z37.fBurst.fN),(.int .i64 z37.fBurst.fD),(.int .i64 z37.fR.fN),(.int .i64 z37.fR.fD)]] [] [stb zgY 35 [(.int .i64 z38.fBurst.fN),(.int .i64 z38.fBurst.fD),(.int .i64 z38.fR.fN),(.int .i64 z38.fR.fD)],stb zgX 35 [(.int .i64 z37.fBurst.fN),(.int .i64 z37.fBurst.fD),(.int .i64 z37.fR.fN),(.int .i64 z37.fR.fD)]]) (fun w hw=>by have pz:=(hz.call hw (.nil : Sel [stb zgY 35 [(.int .i64 z38.fBurst.fN),(.int .i64 z38.fBurst.fD),(.int .i64 z38.fR.fN),(.int .i64 z38.fR.fD)],stb zgX 35 [(.int .i64 z37.fBurst.fN),(.int .i64 z37.fBurst.fD),(.int .i64 z37.fR.fN),(.int .i64 z37.fR.fD)]] [] [stb zgY 35 [(.int .i64 z38.fBurst.fN),(.int .i64 z38.fBurst.fD),(.int .i64 z38.fR.fN),(.int .i64 z38.fR.fD)],stb zgX 35 [(.int .i64 z37.fBurst.fN),(.int .i64 z37.fBurst.fD),(.int .i64 z37.fR.fN),(.int .i64 z37.fR.fD)]])); exact y1Y (Z:=_)  (z2m:=z37.fR) (z2n:=z38.fR) (r:=zk0) w pz  ztD) ?_
 refine WL.a (d:=4) rfl rfl rfl (q_z rfl) ?_
 refine WL.nil ?_
 refine WX.a ?_
 refine WC.ret ?_
 obtain rfl:=Option.some.inj h
 refine WX.y9 Try.results43 (.tmp rfl .nil) (fun w hw=>?_)
 exact ⟨yI rfl,hw.sub .nil⟩
def yC (z1u : List z1) (z8U : z1 → z1 → Option Int) (zah : Int → Int → Int → Int → Option z1) : Nat → Int → Int → Int → Int → Int → Option z1
 | 0,_,_,_,_,_=>none
 | zk1 + 1,z2v,z71,z72,z73,z74=>if decide (z2v < ((z1u.length : Nat) : Int)) then jp4 (fun (zai : Int) (zaj : Int) (zak : Int) (zal : Int)=>yC z1u z8U zah zk1 (i64 (z2v + 1)) zai zaj zak zal) fun zgZ=>chk ((0 : Int) ≤ z2v ∧ z2v < ((z1u.length : Nat) : Int)) ((z8U (⟨(⟨(((nth z1u z2v).fBurst).fN),(((nth z1u z2v).fBurst).fD)⟩ : z2),(⟨(((nth z1u z2v).fR).fN),(((nth z1u z2v).fR).fD)⟩ : z2)⟩ : z1) (⟨(⟨z71,z72⟩ : z2),(⟨z73,z74⟩ : z2)⟩ : z1)).bind fun zk2=>if decide (zk2 < 0) then chk ((0 : Int) ≤ z2v ∧ z2v < ((z1u.length : Nat) : Int)) (zgZ (((nth z1u z2v).fBurst).fN) (((nth z1u z2v).fBurst).fD) (((nth z1u z2v).fR).fN) (((nth z1u z2v).fR).fD)) else zgZ z71 z72 z73 z74) else zah z71 z72 z73 z74
theorem y3m {n : Nat} {z1u : List z1} {z8U : z1 → z1 → Option Int} {zah : Int → Int → Int → Int → Option z1} {z2v : Int} {z71 : Int} {z72 : Int} {z73 : Int} {z74 : Int} {r : z1} (h : yC z1u z8U zah n z2v z71 z72 z73 z74 = some r) : ∃ m,n = m + 1:=by
 cases n with
 | zero=>cases h
 | succ m=>exact ⟨m,rfl⟩
def y1g (z1u : List z1) (z8U : z1 → z1 → Option Int) : Option z1 :=
 if decide (((z1u.length : Nat) : Int) < 1) then none else chk ((0 : Int) ≤ 0 ∧ 0 < ((z1u.length : Nat) : Int)) (jp4 (fun (z8V : Int) (z8W : Int) (z8X : Int) (z8Y : Int)=>some (⟨(⟨z8V,z8W⟩ : z2),(⟨z8X,z8Y⟩ : z2)⟩ : z1)) fun zah=>yC z1u z8U zah yw 1 (((nth z1u 0).fBurst).fN) (((nth z1u 0).fBurst).fD) (((nth z1u 0).fR).fN) (((nth z1u 0).fR).fD))
set_option maxRecDepth 20000 in
theorem y46 (Z : Zp)  (zcl : Option Addr) (zcm : Nat) (z9p : FuncId) (zb7 : List Value) (z1u : List z1) (z8U : z1 → z1 → Option Int) (r : z1) (w₀ : World) (hz : PZ [] w₀ Z)
  (zk3 : ZS Z 4 (fun r x=>r = e35 x) zcl zcm z1u)
  (ztE : ∀ args w,(callFunc z9p args).run Try.prog w = .ok (.enter z9p args) w)
  (ztF : ∀ w : World,PZ [] w Z → ∀ (x0 : z1) (x1 : z1) (r : Int),z8U x0 x1 = some r → Calls Try.prog z9p (([(.agg #[(.int .i64 x0.fBurst.fN),(.int .i64 x0.fBurst.fD),(.int .i64 x0.fR.fN),(.int .i64 x0.fR.fD)]),(.agg #[(.int .i64 x1.fBurst.fN),(.int .i64 x1.fBurst.fD),(.int .i64 x1.fR.fN),(.int .i64 x1.fR.fD)])] : List Value) ++ zb7).toArray w fun e w'=>e = .returned (.int .i64 r) ∧ Hp [] w w' [])
  (h : y1g z1u z8U = some r) :
  Calls Try.prog 42 #[(.slice zcl z1u.length zcm),(.func (.func z9p) #[] (zb7).toArray)] w₀ fun e w'=>e = .returned (.agg #[(.int .i64 r.fBurst.fN),(.int .i64 r.fBurst.fD),(.int .i64 r.fR.fN),(.int .i64 r.fR.fD)]) ∧ Hp [] w₀ w' []:=by
 unfold y1g at h
 refine Calls.yg (vs:=[(.slice zcl z1u.length zcm),(.func (.func z9p) #[] (zb7).toArray)]) (pre:=[]) (env:=[(0,(.slice zcl z1u.length zcm)),(1,(.func (.func z9p) #[] (zb7).toArray))]) Try.func42 rfl Try.ntmps42 rfl (Hp.nil w₀ _) rfl ?_
 refine WC.b ?_
 refine WC.a ?_
 refine WL.new (dd:=4) rfl rfl rfl (yh (cs:=[(.int .i64 0),(.int .i64 0),(.int .i64 0),(.int .i64 0)]) y3H rfl) ?_
 intro zdM _
 refine WL.nil ?_
 refine WX.a ?_
 refine WC.b ?_
 refine WC.b ?_
 refine WC.a ?_
 refine WL.a (d:=7) rfl rfl rfl (q_m rfl) ?_
 refine WL.a (d:=8) rfl rfl rfl (y1k Try.underlying39 rfl) ?_
 refine WL.a (d:=9) rfl rfl rfl (y1h rfl rfl) ?_
 refine WL.nil ?_
 refine WX.a ?_
 refine WC.cond rfl (fun zk4=>?_) (fun zk4=>?_)
 ·replace h:=yj h zk4
  cases h
 ·replace h:=yk h zk4
  refine WC.skip ?_
  refine WX.a ?_
  refine WC.b ?_
  obtain ⟨ztG,h⟩:=yp h
  refine WC.a ?_
  refine WL.a (d:=11) rfl rfl rfl (q_m rfl) ?_
  refine WL.znth (dd:=12) rfl rfl (Z:=Z) (Pr:=(fun r x=>r = e35 x)) y2j rfl rfl zk3 ztG ?_
  rintro zzV zzW ztH zzX rfl
  refine WL.a (d:=13) rfl rfl rfl (y6 (cs:=[(.int .i64 (((nth z1u 0).fBurst).fN)),(.int .i64 (((nth z1u 0).fBurst).fD)),(.int .i64 (((nth z1u 0).fR).fN)),(.int .i64 (((nth z1u 0).fR).fD))]) y1D rfl rfl (y2T hz.pv ztH)) ?_
  refine WL.new (dd:=5) rfl rfl rfl (yh (cs:=[(.int .i64 0),(.int .i64 0),(.int .i64 0),(.int .i64 0)]) y3H rfl) ?_
  intro zdN _
  refine WL.yc rfl rfl (yd (vs:=[(.int .i64 (((nth z1u 0).fBurst).fN)),(.int .i64 (((nth z1u 0).fBurst).fD)),(.int .i64 (((nth z1u 0).fR).fN)),(.int .i64 (((nth z1u 0).fR).fD))]) (ds:=[(.int .i64 (((nth z1u 0).fBurst).fN)),(.int .i64 (((nth z1u 0).fBurst).fD)),(.int .i64 (((nth z1u 0).fR).fN)),(.int .i64 (((nth z1u 0).fR).fD))]) y3V rfl rfl rfl rfl (y3 rfl (y3 rfl (y3 rfl (y3 rfl yf)))) .here (Nat.le_of_ble_eq_true rfl) rfl) ?_
  refine WL.nil ?_
  refine WX.a ?_
  obtain ⟨zah,ztI,h⟩:=y8U h
  refine WC.y4T (fun (z8V : Int) (z8W : Int) (z8X : Int) (z8Y : Int)=>(zah z8V z8W z8X z8Y = some r)) (fun (z8V : Int) (z8W : Int) (z8X : Int) (z8Y : Int)=>[(4,(.pointer (some ⟨zdM,0,none⟩))),(5,(.pointer (some ⟨zdN,0,none⟩)))]) (fun (z8V : Int) (z8W : Int) (z8X : Int) (z8Y : Int)=>[stb zdM 35 [(.int .i64 0),(.int .i64 0),(.int .i64 0),(.int .i64 0)],stb zdN 35 [(.int .i64 z8V),(.int .i64 z8W),(.int .i64 z8X),(.int .i64 z8Y)]]) ?_ ?_
  ·skip
   refine WC.b ?_
   refine WC.a ?_
   refine WL.a (d:=6) rfl rfl rfl (q_z rfl) ?_
   refine WL.nil ?_
   refine WX.a ?_
   refine WC.block ?_
   refine WC.y4B (fun (zdO : Nat) (z2v : Int) (z71 : Int) (z72 : Int) (z73 : Int) (z74 : Int)=>(yC z1u z8U zah zdO z2v z71 z72 z73 z74 = some r)) (fun (zdO : Nat) (z2v : Int) (z71 : Int) (z72 : Int) (z73 : Int) (z74 : Int)=>[(0,(.slice zcl z1u.length zcm)),(1,(.func (.func z9p) #[] (zb7).toArray)),(4,(.pointer (some ⟨zdM,0,none⟩))),(5,(.pointer (some ⟨zdN,0,none⟩))),(6,(.int .i64 z2v))]) (fun (zdO : Nat) (z2v : Int) (z71 : Int) (z72 : Int) (z73 : Int) (z74 : Int)=>[stb zdM 35 [(.int .i64 0),(.int .i64 0),(.int .i64 0),(.int .i64 0)],stb zdN 35 [(.int .i64 z71),(.int .i64 z72),(.int .i64 z73),(.int .i64 z74)]]) (fun (zdO : Nat) (z2v : Int) (z71 : Int) (z72 : Int) (z73 : Int) (z74 : Int)=>zdO) ⟨yw,1,(((nth z1u 0).fBurst).fN),(((nth z1u 0).fBurst).fD),(((nth z1u 0).fR).fN),(((nth z1u 0).fR).fD)⟩ h (.cons rfl (.cons rfl (.cons rfl (.cons rfl (.cons rfl .nil))))) (.cons .h1 (.cons .here .nil)) ?_
   rintro zdO z2v z71 z72 z73 z74 h
   obtain ⟨zk1,rfl⟩:=y3m h
   rw [yC] at h
   refine WC.b ?_
   refine WC.b ?_
   refine WC.a ?_
   refine WL.a (d:=14) rfl rfl rfl (q_m rfl) ?_
   refine WL.a (d:=15) rfl rfl rfl (q_m rfl) ?_
   refine WL.a (d:=16) rfl rfl rfl (y1k Try.underlying39 rfl) ?_
   refine WL.a (d:=17) rfl rfl rfl (y1h rfl rfl) ?_
   refine WL.nil ?_
   refine WX.a ?_
   refine WC.cond rfl (fun zk5=>?_) (fun zk5=>?_)
   ·replace h:=yj h zk5
    refine WC.skip ?_
    refine WX.a ?_
    obtain ⟨zgZ,ztJ,h⟩:=y8U h
    refine WC.y4T (fun (zai : Int) (zaj : Int) (zak : Int) (zal : Int)=>(zgZ zai zaj zak zal = some r)) (fun (zai : Int) (zaj : Int) (zak : Int) (zal : Int)=>[(0,(.slice zcl z1u.length zcm)),(1,(.func (.func z9p) #[] (zb7).toArray)),(4,(.pointer (some ⟨zdM,0,none⟩))),(5,(.pointer (some ⟨zdN,0,none⟩))),(6,(.int .i64 z2v))]) (fun (zai : Int) (zaj : Int) (zak : Int) (zal : Int)=>[stb zdM 35 [(.int .i64 0),(.int .i64 0),(.int .i64 0),(.int .i64 0)],stb zdN 35 [(.int .i64 zai),(.int .i64 zaj),(.int .i64 zak),(.int .i64 zal)]]) ?_ ?_
    ·skip
     refine WC.block ?_
     refine WC.b ?_
     obtain ⟨ztK,h⟩:=yp h
     obtain ⟨zk2,ztL,h⟩:=zb h
     refine WC.y1e (fun i=>[].contains i) [] rfl ?_
     refine WD.a (i:=0) (d:=20) (by kernel_rfl) rfl (z6 (by kernel_rfl)) (z7 (by kernel_rfl)) rfl rfl rfl (fun _=>q_m rfl) ?_
     refine WD.a (i:=1) (d:=21) (by kernel_rfl) rfl (z6 (by kernel_rfl)) (z7 (by kernel_rfl)) rfl rfl rfl (fun _=>q_m rfl) ?_
     refine WD.a (i:=2) (d:=22) (by kernel_rfl) rfl (z6 (by kernel_rfl)) (z7 (by kernel_rfl)) rfl rfl rfl (fun _=>q_m rfl) ?_
     refine WD.znth (j:=3) (dd:=23) (by kernel_rfl) rfl (z6 (by kernel_rfl)) (z7 (by kernel_rfl)) rfl rfl (Z:=Z) (Pr:=(fun r x=>r = e35 x)) y2j rfl rfl zk3 ztK ?_
     rintro zzY zzZ ztM zA0 rfl
     refine WD.e (i:=4) (d:=24) (by kernel_rfl) rfl (z6 (by kernel_rfl)) (z7 (by kernel_rfl)) rfl rfl rfl (y6 (cs:=[(.int .i64 (((nth z1u z2v).fBurst).fN)),(.int .i64 (((nth z1u z2v).fBurst).fD)),(.int .i64 (((nth z1u z2v).fR).fN)),(.int .i64 (((nth z1u z2v).fR).fD))]) y1D rfl rfl (y2T hz.pv ztM)) ?_
     refine WD.e (i:=5) (d:=25) (by kernel_rfl) rfl (z6 (by kernel_rfl)) (z7 (by kernel_rfl)) rfl rfl rfl (y6 (cs:=[(.int .i64 z71),(.int .i64 z72),(.int .i64 z73),(.int .i64 z74)]) y1D rfl rfl (y7 .h1)) ?_
     refine WD.c (i:=6) (d:=26) (by kernel_rfl) rfl (z6 (by kernel_rfl)) (z7 (by kernel_rfl)) rfl rfl rfl (y2f (l:=[.tmp 24,.tmp 25]) (f:=z9p) (caps:=zb7) ztE rfl (.cons rfl (.cons rfl .nil))) (fun w hw=>ztF w (hz.now hw) (⟨(⟨(((nth z1u z2v).fBurst).fN),(((nth z1u z2v).fBurst).fD)⟩ : z2),(⟨(((nth z1u z2v).fR).fN),(((nth z1u z2v).fR).fD)⟩ : z2)⟩ : z1) (⟨(⟨z71,z72⟩ : z2),(⟨z73,z74⟩ : z2)⟩ : z1) zk2  ztL) ?_
     refine WD.a (i:=7) (d:=27) (by kernel_rfl) rfl (z6 (by kernel_rfl)) (z7 (by kernel_rfl)) rfl rfl rfl (fun _=>y1h rfl rfl) ?_
     refine WD.done (by kernel_rfl) ?_
     refine WX.a ?_
     refine WC.cond rfl (fun zk6=>?_) (fun zk6=>?_)
     ·replace h:=yj h zk6
      obtain ⟨ztN,h⟩:=yp h
      refine WC.a ?_
      refine WL.a (d:=28) rfl rfl rfl (q_m rfl) ?_
      refine WL.a (d:=29) rfl rfl rfl (q_m rfl) ?_
      refine WL.znth (dd:=30) rfl rfl (Z:=Z) (Pr:=(fun r x=>r = e35 x)) y2j rfl rfl zk3 ztN ?_
      rintro zA1 zA2 ztO zA3 rfl
      refine WL.a (d:=31) rfl rfl rfl (y6 (cs:=[(.int .i64 (((nth z1u z2v).fBurst).fN)),(.int .i64 (((nth z1u z2v).fBurst).fD)),(.int .i64 (((nth z1u z2v).fR).fN)),(.int .i64 (((nth z1u z2v).fR).fD))]) y1D rfl rfl (y2T hz.pv ztO)) ?_
      refine WL.yc rfl rfl (yd (vs:=[(.int .i64 (((nth z1u z2v).fBurst).fN)),(.int .i64 (((nth z1u z2v).fBurst).fD)),(.int .i64 (((nth z1u z2v).fR).fN)),(.int .i64 (((nth z1u z2v).fR).fD))]) (ds:=[(.int .i64 (((nth z1u z2v).fBurst).fN)),(.int .i64 (((nth z1u z2v).fBurst).fD)),(.int .i64 (((nth z1u z2v).fR).fN)),(.int .i64 (((nth z1u z2v).fR).fD))]) y3V rfl rfl rfl rfl (y3 rfl (y3 rfl (y3 rfl (y3 rfl yf)))) .h1 (Nat.le_of_ble_eq_true rfl) rfl) ?_
      refine WL.nil ?_
      refine WX.yn ?_
      exact WX.mid (G:=Int × Int × Int × Int) ⟨(((nth z1u z2v).fBurst).fN),(((nth z1u z2v).fBurst).fD),(((nth z1u z2v).fR).fN),(((nth z1u z2v).fR).fD)⟩ h (.cons rfl (.cons rfl (.cons rfl (.cons rfl (.cons rfl .nil))))) (.cons .h1 (.cons .here .nil))
     ·replace h:=yk h zk6
      refine WC.skip ?_
      refine WX.yn ?_
      exact WX.mid (G:=Int × Int × Int × Int) ⟨z71,z72,z73,z74⟩ h (.cons rfl (.cons rfl (.cons rfl (.cons rfl (.cons rfl .nil))))) (.cons .here (.cons .here .nil))
    ·rintro zai zaj zak zal h
     replace h:=(ztJ zai zaj zak zal).symm.trans h
     refine WC.a ?_
     refine WL.a (d:=18) rfl rfl rfl (q_m rfl) ?_
     refine WL.a (d:=19) rfl rfl rfl (y1d rfl rfl rfl) ?_
     refine WL.a (d:=6) rfl rfl rfl (q_z rfl) ?_
     refine WL.nil ?_
     exact WX.round (G:=Nat × Int × Int × Int × Int × Int) ⟨zk1,(i64 (z2v + 1)),zai,zaj,zak,zal⟩ h (Nat.lt_succ_self _) (.cons rfl (.cons rfl (.cons rfl (.cons rfl (.cons rfl .nil))))) (.cons .here (.cons .here .nil))
   ·replace h:=yk h zk5
    refine WC.exit ?_
    refine WX.ym ?_
    refine WX.ym ?_
    refine WX.yH ?_
    exact WX.mid (G:=Int × Int × Int × Int) ⟨z71,z72,z73,z74⟩ h (.cons rfl (.cons rfl .nil)) (.cons .here (.cons .here .nil))
  ·rintro z8V z8W z8X z8Y h
   replace h:=(ztI z8V z8W z8X z8Y).symm.trans h
   refine WC.b ?_
   refine WC.a ?_
   refine WL.a (d:=32) rfl rfl rfl (y6 (cs:=[(.int .i64 z8V),(.int .i64 z8W),(.int .i64 z8X),(.int .i64 z8Y)]) y1D rfl rfl (y7 .h1)) ?_
   refine WL.yc rfl rfl (yd (vs:=[(.int .i64 z8V),(.int .i64 z8W),(.int .i64 z8X),(.int .i64 z8Y)]) (ds:=[(.int .i64 z8V),(.int .i64 z8W),(.int .i64 z8X),(.int .i64 z8Y)]) y3V rfl rfl rfl rfl (y3 rfl (y3 rfl (y3 rfl (y3 rfl yf)))) .here (Nat.le_of_ble_eq_true rfl) rfl) ?_
   refine WL.nil ?_
   refine WX.a ?_
   refine WC.ret ?_
   obtain rfl:=Option.some.inj h
   refine WX.y9 Try.results42 (.agg rfl y1D rfl (y7 .here) .nil) (fun w hw=>?_)
   exact ⟨yI rfl,hw.sub .nil⟩
def y1m (z7F : List z1) : Option (z2 × Int) :=
 (y2m z7F).bind fun zk7=>if !zk7 then some ((⟨0,0⟩ : z2),2) else (y1g z7F (fun (y0 : z1) (y1 : z1)=>y29 y0 y1)).bind fun zam=>some (zam.fR,0)
set_option maxRecDepth 20000 in
theorem y4V (Z : Zp)  (z9q : Option Addr) (z9r : Nat) (z7F : List z1) (r : z2 × Int) (w₀ : World) (hz : PZ [] w₀ Z)
  (zoH : ZS Z 4 (fun r x=>r = e35 x) z9q z9r z7F)
  (h : y1m z7F = some r) :
  Calls Try.prog 21 #[(.slice z9q z7F.length z9r)] w₀ fun e w'=>e = .returned (.tuple #[(.agg #[(.int .i64 r.1.fN),(.int .i64 r.1.fD)]),(.int .i64 r.2)]) ∧ Hp [] w₀ w' []:=by
 unfold y1m at h
 refine Calls.yg (vs:=[(.slice z9q z7F.length z9r)]) (pre:=[]) (env:=[(0,(.slice z9q z7F.length z9r))]) Try.func21 rfl Try.ntmps21 rfl (Hp.nil w₀ _) rfl ?_
 refine WC.b ?_
 refine WC.a ?_
 refine WL.new (dd:=2) rfl rfl rfl (yh (cs:=[(.int .i64 0),(.int .i64 0)]) yo rfl) ?_
 intro zb8 _
 refine WL.a (d:=3) rfl rfl rfl (q_z rfl) ?_
 refine WL.nil ?_
 refine WX.a ?_
 refine WC.b ?_
 refine WC.b ?_
 obtain ⟨zk7,ztP,h⟩:=zb h
 refine WC.a ?_
 refine WL.a (d:=4) rfl rfl rfl (q_m rfl) ?_
 refine WL.b (dd:=5) rfl rfl rfl (zl (l:=[.tmp 4]) Try.call30 (.cons rfl .nil)) (.nil : Sel [stb zb8 30 [(.int .i64 0),(.int .i64 0)]] [] [stb zb8 30 [(.int .i64 0),(.int .i64 0)]]) (fun w hw=>by have pz:=(hz.call hw (.nil : Sel [stb zb8 30 [(.int .i64 0),(.int .i64 0)]] [] [stb zb8 30 [(.int .i64 0),(.int .i64 0)]])); exact y3O (Z:=_) (z8L:=z9q) (z8M:=z9r) (z5t:=z7F) (r:=zk7) w pz zoH ztP) ?_
 refine WL.a (d:=6) rfl rfl rfl (y1n rfl) ?_
 refine WL.nil ?_
 refine WX.a ?_
 refine WC.cond rfl (fun zk8=>?_) (fun zk8=>?_)
 ·replace h:=yj h zk8
  refine WC.b ?_
  refine WC.a ?_
  refine WL.a (d:=7) rfl rfl rfl (y1j (v:=(.agg #[(.int .i64 0),(.int .i64 0)])) (Eos.parts (l:=[]) .nil []) (fun _=>by kernel_rfl)) ?_
  refine WL.yc rfl rfl (yd (vs:=[(.int .i64 0),(.int .i64 0)]) (ds:=[(.int .i64 0),(.int .i64 0)]) yl rfl rfl rfl rfl (y3 rfl (y3 rfl yf)) .here (Nat.le_of_ble_eq_true rfl) rfl) ?_
  refine WL.a (d:=3) rfl rfl rfl (q_z rfl) ?_
  refine WL.nil ?_
  refine WX.a ?_
  refine WC.ret ?_
  refine WX.y8 ?_
  obtain rfl:=Option.some.inj h
  refine WX.y9 Try.results21 (.agg rfl y5 rfl (y7 .here) (.tmp rfl .nil)) (fun w hw=>?_)
  exact ⟨y1I rfl rfl,hw.sub .nil⟩
 ·replace h:=yk h zk8
  refine WC.skip ?_
  refine WX.a ?_
  refine WC.b ?_
  obtain ⟨zam,ztQ,h⟩:=zb h
  refine WC.a ?_
  refine WL.a (d:=8) rfl rfl rfl (q_m rfl) ?_
  refine WL.b (dd:=9) rfl rfl rfl (zl (l:=[.tmp 8,.func 43]) Try.call42 (.cons rfl (.cons rfl .nil))) (.nil : Sel [stb zb8 30 [(.int .i64 0),(.int .i64 0)]] [] [stb zb8 30 [(.int .i64 0),(.int .i64 0)]]) (fun w hw=>by have pz:=(hz.call hw (.nil : Sel [stb zb8 30 [(.int .i64 0),(.int .i64 0)]] [] [stb zb8 30 [(.int .i64 0),(.int .i64 0)]])); exact y46 (Z:=_) (zcl:=z9q) (zcm:=z9r) (z9p:=43) (zb7:=[]) (z1u:=z7F) (z8U:=(fun (y0 : z1) (y1 : z1)=>y29 y0 y1)) (r:=zam) w pz zoH Try.call43 (fun w' hz' y0 y1  r  hr=>y8s (Z:=_)  (z37:=y0) (z38:=y1) (r:=r) w' hz'  hr) ztQ) ?_
  refine WL.a (d:=10) rfl rfl rfl (q_fieldA (cs':=#[(.int .i64 zam.fR.fN),(.int .i64 zam.fR.fD)]) yaa y5 rfl rfl) ?_
  refine WL.yc rfl rfl (yd (vs:=[(.int .i64 zam.fR.fN),(.int .i64 zam.fR.fD)]) (ds:=[(.int .i64 zam.fR.fN),(.int .i64 zam.fR.fD)]) yl rfl rfl rfl rfl (y3 rfl (y3 rfl yf)) .here (Nat.le_of_ble_eq_true rfl) rfl) ?_
  refine WL.a (d:=3) rfl rfl rfl (q_z rfl) ?_
  refine WL.nil ?_
  refine WX.a ?_
  refine WC.ret ?_
  obtain rfl:=Option.some.inj h
  refine WX.y9 Try.results21 (.agg rfl y5 rfl (y7 .here) (.tmp rfl .nil)) (fun w hw=>?_)
  exact ⟨y1I rfl rfl,hw.sub .nil⟩
def y5H (zb9 : z2) (zba : z2) : Option (Int × Int) :=
 some ((i64 ((i64 (zb9.fN * zba.fD)) + (i64 (zba.fN * zb9.fD)))),(i64 (zb9.fD * zba.fD)))
set_option maxRecDepth 20000 in
theorem y9S (Z : Zp)  (zf9 : Addr) (zfa : Addr) (zb9 : z2) (zba : z2) (r : Int × Int) (w₀ : World) (hz : PZ [] w₀ Z)
  (zk9 : ZC Z zf9 [(.int .i64 zb9.fN),(.int .i64 zb9.fD)])
  (zka : ZC Z zfa [(.int .i64 zba.fN),(.int .i64 zba.fD)])
  (h : y5H zb9 zba = some r) :
  Calls Try.prog 54 #[(.pointer (some zf9)),(.pointer (some zfa))] w₀ fun e w'=>e = .returned (.tuple #[(.int .i64 r.1),(.int .i64 r.2)]) ∧ Hp [] w₀ w' []:=by
 unfold y5H at h
 refine Calls.yg (vs:=[(.pointer (some zf9)),(.pointer (some zfa))]) (pre:=[]) (env:=[(0,(.pointer (some zf9))),(1,(.pointer (some zfa)))]) Try.func54 rfl Try.ntmps54 rfl (Hp.nil w₀ _) rfl ?_
 refine WC.b ?_
 refine WC.a ?_
 refine WL.a (d:=2) rfl rfl rfl (q_z rfl) ?_
 refine WL.a (d:=3) rfl rfl rfl (q_z rfl) ?_
 refine WL.nil ?_
 refine WX.a ?_
 refine WC.b ?_
 refine WC.y1e (fun i=>[].contains i) [] rfl ?_
 refine WD.a (i:=0) (d:=4) (by kernel_rfl) rfl (z6 (by kernel_rfl)) (z7 (by kernel_rfl)) rfl rfl rfl (fun _=>y4 y1J rfl rfl) ?_
 refine WD.e (i:=1) (d:=5) (by kernel_rfl) rfl (z6 (by kernel_rfl)) (z7 (by kernel_rfl)) rfl rfl rfl (ye yx rfl (y1O hz.pv zk9 rfl)) ?_
 refine WD.a (i:=2) (d:=6) (by kernel_rfl) rfl (z6 (by kernel_rfl)) (z7 (by kernel_rfl)) rfl rfl rfl (fun _=>y4 y21 rfl rfl) ?_
 refine WD.e (i:=3) (d:=7) (by kernel_rfl) rfl (z6 (by kernel_rfl)) (z7 (by kernel_rfl)) rfl rfl rfl (ye yx rfl (y1O hz.pv zka rfl)) ?_
 refine WD.a (i:=4) (d:=8) (by kernel_rfl) rfl (z6 (by kernel_rfl)) (z7 (by kernel_rfl)) rfl rfl rfl (fun _=>y4d rfl rfl rfl) ?_
 refine WD.a (i:=5) (d:=9) (by kernel_rfl) rfl (z6 (by kernel_rfl)) (z7 (by kernel_rfl)) rfl rfl rfl (fun _=>y4 y1J rfl rfl) ?_
 refine WD.e (i:=6) (d:=10) (by kernel_rfl) rfl (z6 (by kernel_rfl)) (z7 (by kernel_rfl)) rfl rfl rfl (ye yx rfl (y1O hz.pv zka rfl)) ?_
 refine WD.a (i:=7) (d:=11) (by kernel_rfl) rfl (z6 (by kernel_rfl)) (z7 (by kernel_rfl)) rfl rfl rfl (fun _=>y4 y21 rfl rfl) ?_
 refine WD.e (i:=8) (d:=12) (by kernel_rfl) rfl (z6 (by kernel_rfl)) (z7 (by kernel_rfl)) rfl rfl rfl (ye yx rfl (y1O hz.pv zk9 rfl)) ?_
 refine WD.a (i:=9) (d:=13) (by kernel_rfl) rfl (z6 (by kernel_rfl)) (z7 (by kernel_rfl)) rfl rfl rfl (fun _=>y4d rfl rfl rfl) ?_
 refine WD.a (i:=10) (d:=14) (by kernel_rfl) rfl (z6 (by kernel_rfl)) (z7 (by kernel_rfl)) rfl rfl rfl (fun _=>y1d rfl rfl rfl) ?_
 refine WD.a (i:=11) (d:=15) (by kernel_rfl) rfl (z6 (by kernel_rfl)) (z7 (by kernel_rfl)) rfl rfl rfl (fun _=>y4 y21 rfl rfl) ?_
 refine WD.e (i:=12) (d:=16) (by kernel_rfl) rfl (z6 (by kernel_rfl)) (z7 (by kernel_rfl)) rfl rfl rfl (ye yx rfl (y1O hz.pv zk9 rfl)) ?_
 refine WD.a (i:=13) (d:=17) (by kernel_rfl) rfl (z6 (by kernel_rfl)) (z7 (by kernel_rfl)) rfl rfl rfl (fun _=>y4 y21 rfl rfl) ?_
 refine WD.e (i:=14) (d:=18) (by kernel_rfl) rfl (z6 (by kernel_rfl)) (z7 (by kernel_rfl)) rfl rfl rfl (ye yx rfl (y1O hz.pv zka rfl)) ?_
 refine WD.a (i:=15) (d:=19) (by kernel_rfl) rfl (z6 (by kernel_rfl)) (z7 (by kernel_rfl)) rfl rfl rfl (fun _=>y4d rfl rfl rfl) ?_
 refine WD.a (i:=16) (d:=2) (by kernel_rfl) rfl (z6 (by kernel_rfl)) (z7 (by kernel_rfl)) rfl rfl rfl (fun _=>q_z rfl) ?_
 refine WD.a (i:=17) (d:=3) (by kernel_rfl) rfl (z6 (by kernel_rfl)) (z7 (by kernel_rfl)) rfl rfl rfl (fun _=>q_z rfl) ?_
 refine WD.done (by kernel_rfl) ?_
 refine WX.a ?_
 refine WC.ret ?_
 obtain rfl:=Option.some.inj h
 refine WX.y9 Try.results54 (.tmp rfl (.tmp rfl .nil)) (fun w hw=>?_)
 exact ⟨y1I rfl rfl,hw.sub .nil⟩
end Go.Proofs.Ytakfmdiiehcbdaa
