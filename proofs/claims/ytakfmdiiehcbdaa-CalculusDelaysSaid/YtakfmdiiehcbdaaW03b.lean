/- A part of this claim's proof: models of functions, walks, plain laws. No conditions. -/
import Derived.Test.YtakfmdiiehcbdaaW03a
namespace Go.Proofs.Ytakfmdiiehcbdaa
open Go Go.RowKit Sep
set_option linter.all false
set_option maxRecDepth 30000
set_option maxHeartbeats 4000000
def y27 (z1a : Type) (z2m : List z6) (z6M : (z6 × z6) → z1a → Option (Bool × z1a)) (z23 : List z6) (z2b : Int) (zaf : z1a → Option z1a) : Nat → Int → z1a → Option z1a
 | 0,_,_=>none
 | zkj + 1,z32,z72=>if decide (z32 < ((z2m.length : Nat) : Int)) then chk ((0 : Int) ≤ z32 ∧ z32 < ((z2m.length : Nat) : Int)) ((z6M ((⟨(⟨(((nth z23 z2b).fB).fN),(((nth z23 z2b).fB).fD)⟩ : z7),(⟨(((nth z23 z2b).fR).fN),(((nth z23 z2b).fR).fD)⟩ : z7)⟩ : z6),(⟨(⟨(((nth z2m z32).fB).fN),(((nth z2m z32).fB).fD)⟩ : z7),(⟨(((nth z2m z32).fR).fN),(((nth z2m z32).fR).fD)⟩ : z7)⟩ : z6)) z72).bind fun zcq=>if !zcq.1 then some zcq.2 else y27 z1a z2m z6M z23 z2b zaf zkj (i64 (z32 + 1)) zcq.2) else zaf z72
theorem y6h {n : Nat} {z1a : Type} {z2m : List z6} {z6M : (z6 × z6) → z1a → Option (Bool × z1a)} {z23 : List z6} {z2b : Int} {zaf : z1a → Option z1a} {z32 : Int} {z72 : z1a} {r : z1a} (h : y27 z1a z2m z6M z23 z2b zaf n z32 z72 = some r) : ∃ m,n = m + 1:=by
 cases n with
 | zero=>cases h
 | succ m=>exact ⟨m,rfl⟩
def y28 (z1a : Type) (z23 : List z6) (z2m : List z6) (z6M : (z6 × z6) → z1a → Option (Bool × z1a)) (zag : z1a → Option z1a) : Nat → Int → z1a → Option z1a
 | 0,_,_=>none
 | zkk + 1,z2b,z7E=>if decide (z2b < ((z23.length : Nat) : Int)) then jp1 (fun (z9o : z1a)=>y28 z1a z23 z2m z6M zag zkk (i64 (z2b + 1)) z9o) fun zkl=>chk ((0 : Int) ≤ z2b ∧ z2b < ((z23.length : Nat) : Int)) (jp1 (fun (z9p : z1a)=>zkl z9p) fun zaf=>y27 z1a z2m z6M z23 z2b zaf yu 0 z7E) else zag z7E
theorem y6i {n : Nat} {z1a : Type} {z23 : List z6} {z2m : List z6} {z6M : (z6 × z6) → z1a → Option (Bool × z1a)} {zag : z1a → Option z1a} {z2b : Int} {z7E : z1a} {r : z1a} (h : y28 z1a z23 z2m z6M zag n z2b z7E = some r) : ∃ m,n = m + 1:=by
 cases n with
 | zero=>cases h
 | succ m=>exact ⟨m,rfl⟩
def y30 (z1a : Type) (z6M : (z6 × z6) → z1a → Option (Bool × z1a)) (s0_5333 : z1a) (z23 : List z6) (z2m : List z6) : Option z1a :=
 jp1 (fun (zah : z1a)=>some zah) fun zag=>y28 z1a z23 z2m z6M zag yu 0 s0_5333
set_option maxRecDepth 20000 in
theorem y84 (Z : Zp) (z1a : Type) (zai : Nat) (z3R : Type) (z7l : z3R → z1a → Asrt) (zaj : z3R → z1a → Prop) (zbj : z3R) (zfu : Addr) (zcr : Option Addr) (zcs : Nat) (zak : Addr) (zhi : Option Addr) (zhj : Nat) (z6M : (z6 × z6) → z1a → Option (Bool × z1a)) (s0_5333 : z1a) (z23 : List z6) (z2m : List z6) (r : z1a) (w₀ : World) (hz : PZ (fps [z7l zbj s0_5333]) w₀ Z)
  (zty : y7e Try.prog Z zai (α:=z6 × z6) (σ:=z1a) (G:=z3R) (H:=Unit) (fun h x=>[(.agg #[(.int .i64 x.1.fB.fN),(.int .i64 x.1.fB.fD),(.int .i64 x.1.fR.fN),(.int .i64 x.1.fR.fD)]),(.agg #[(.int .i64 x.2.fB.fN),(.int .i64 x.2.fB.fD),(.int .i64 x.2.fR.fN),(.int .i64 x.2.fR.fD)])]) (fun h x=>[]) z6M z7l zaj)
  (ztz : zaj zbj s0_5333)
  (ztA : ZS Z 4 (fun r x=>r = e35 x) zcr zcs z23)
  (ztB : ZC Z zfu [(.slice zcr z23.length zcs)])
  (ztC : ZS Z 4 (fun r x=>r = e35 x) zhi zhj z2m)
  (ztD : ZC Z zak [(.slice zhi z2m.length zhj)])
  (h : y30 z1a z6M s0_5333 z23 z2m = some r)
  (hown : Hp (fps [z7l zbj s0_5333]) w₀ w₀ [z7l zbj s0_5333]) :
  Calls Try.prog 89 #[(.func (.yield zai) #[] #[]),(.pointer (some zfu)),(.pointer (some zak))] w₀ fun e w'=>∃ zpa : z3R,e = .returned (.tuple #[]) ∧ (zaj zpa r) ∧ Hp (fps [z7l zbj s0_5333]) w₀ w' [z7l zpa r]:=by
 unfold y30 at h
 refine Calls.yd (vs:=[(.func (.yield zai) #[] #[]),(.pointer (some zfu)),(.pointer (some zak))]) (pre:=[z7l zbj s0_5333]) (env:=[(0,(.func (.yield zai) #[] #[])),(1,(.pointer (some zfu))),(2,(.pointer (some zak)))]) Try.func89 rfl Try.ntmps89 rfl (hown) rfl ?_
 refine WC.b ?_
 refine WC.a ?_
 refine WL.a (d:=8) rfl rfl rfl (ya y4Q rfl (y4Z hz.pv ztB rfl)) ?_
 refine WL.a (d:=9) rfl rfl rfl (y10 Try.underlying39 rfl) ?_
 refine WL.a (d:=10) rfl rfl rfl (q_m rfl) ?_
 refine WL.nil ?_
 refine WX.a ?_
 obtain ⟨zag,ztE,h⟩:=y1h h
 refine WC.y5P (fun (zah : z1a) (zdP : z3R)=>(zag zah = some r) ∧ (zaj zdP zah)) (fun (zah : z1a) (zdP : z3R)=>[]) (fun (zah : z1a) (zdP : z3R)=>[z7l zdP zah]) ?_ ?_
 ·skip
  refine WC.block ?_
  refine WC.y49 (fun (zdQ : Nat) (z2b : Int) (z7E : z1a) (zbk : z3R)=>(y28 z1a z23 z2m z6M zag zdQ z2b z7E = some r) ∧ (zaj zbk z7E)) (fun (zdQ : Nat) (z2b : Int) (z7E : z1a) (zbk : z3R)=>[(0,(.func (.yield zai) #[] #[])),(2,(.pointer (some zak))),(8,(.slice zcr z23.length zcs)),(9,(.int .i64 ((z23.length : Nat) : Int))),(10,(.int .i64 z2b))]) (fun (zdQ : Nat) (z2b : Int) (z7E : z1a) (zbk : z3R)=>[z7l zbk z7E]) (fun (zdQ : Nat) (z2b : Int) (z7E : z1a) (zbk : z3R)=>zdQ) ⟨yu,0,s0_5333,zbj⟩ ⟨h,ztz⟩ (.cons rfl (.cons rfl (.cons rfl (.cons rfl (.cons rfl .nil))))) (.cons .here .nil) ?_
  rintro zdQ z2b z7E zbk ⟨h,zpb⟩
  obtain ⟨zkk,rfl⟩:=y6i h
  rw [y28] at h
  refine WC.b ?_
  refine WC.a ?_
  refine WL.a (d:=11) rfl rfl rfl (y1c rfl rfl) ?_
  refine WL.nil ?_
  refine WX.a ?_
  refine WC.b ?_
  refine WC.cond rfl (fun zkm=>?_) (fun zkm=>?_)
  ·replace h:=yh h zkm
   refine WC.skip ?_
   refine WX.a ?_
   obtain ⟨zkl,ztF,h⟩:=y1h h
   refine WC.y3G (fun (z9o : z1a) (zdR : z3R)=>(zkl z9o = some r) ∧ (zaj zdR z9o)) (fun (z9o : z1a) (zdR : z3R)=>[(0,(.func (.yield zai) #[] #[])),(2,(.pointer (some zak))),(8,(.slice zcr z23.length zcs)),(9,(.int .i64 ((z23.length : Nat) : Int))),(10,(.int .i64 z2b))]) (fun (z9o : z1a) (zdR : z3R)=>[z7l zdR z9o]) ?_ ?_
   ·skip
    refine WC.block ?_
    refine WC.b ?_
    obtain ⟨ztG,h⟩:=yl h
    refine WC.a ?_
    refine WL.znth (dd:=12) rfl rfl (Z:=Z) (Pr:=(fun r x=>r = e35 x)) y2w rfl rfl ztA ztG ?_
    rintro zAQ zAR ztH zAS rfl
    refine WL.a (d:=13) rfl rfl rfl (y4 (cs:=[(.int .i64 (((nth z23 z2b).fB).fN)),(.int .i64 (((nth z23 z2b).fB).fD)),(.int .i64 (((nth z23 z2b).fR).fN)),(.int .i64 (((nth z23 z2b).fR).fD))]) y1D rfl rfl (y2P hz.pv ztH)) ?_
    refine WL.new (dd:=5) rfl rfl rfl (ym (cs:=[(.int .i64 0),(.int .i64 0),(.int .i64 0),(.int .i64 0)]) y3J rfl) ?_
    intro zpc _
    refine WL.yb rfl rfl (yc (vs:=[(.int .i64 (((nth z23 z2b).fB).fN)),(.int .i64 (((nth z23 z2b).fB).fD)),(.int .i64 (((nth z23 z2b).fR).fN)),(.int .i64 (((nth z23 z2b).fR).fD))]) (ds:=[(.int .i64 (((nth z23 z2b).fB).fN)),(.int .i64 (((nth z23 z2b).fB).fD)),(.int .i64 (((nth z23 z2b).fR).fN)),(.int .i64 (((nth z23 z2b).fR).fD))]) y3X rfl rfl rfl rfl (y2 rfl (y2 rfl (y2 rfl (y2 rfl yk)))) .here (Nat.le_of_ble_eq_true rfl) rfl) ?_
    refine WL.nil ?_
    refine WX.a ?_
    refine WC.b ?_
    refine WC.a ?_
    refine WL.a (d:=14) rfl rfl rfl (ya y4Q rfl (y4Z hz.pv ztD rfl)) ?_
    refine WL.a (d:=15) rfl rfl rfl (y10 Try.underlying39 rfl) ?_
    refine WL.a (d:=16) rfl rfl rfl (q_m rfl) ?_
    refine WL.nil ?_
    refine WX.a ?_
    obtain ⟨zaf,ztI,h⟩:=y1h h
    refine WC.y5P (fun (z9p : z1a) (zdS : z3R)=>(zaf z9p = some r) ∧ (zaj zdS z9p)) (fun (z9p : z1a) (zdS : z3R)=>[(0,(.func (.yield zai) #[] #[])),(2,(.pointer (some zak))),(8,(.slice zcr z23.length zcs)),(9,(.int .i64 ((z23.length : Nat) : Int))),(10,(.int .i64 z2b))]) (fun (z9p : z1a) (zdS : z3R)=>[z7l zdS z9p]) ?_ ?_
    ·skip
     refine WC.block ?_
     refine WC.y49 (fun (zdT : Nat) (z32 : Int) (z72 : z1a) (z9q : z3R)=>(y27 z1a z2m z6M z23 z2b zaf zdT z32 z72 = some r) ∧ (zaj z9q z72)) (fun (zdT : Nat) (z32 : Int) (z72 : z1a) (z9q : z3R)=>[(0,(.func (.yield zai) #[] #[])),(2,(.pointer (some zak))),(5,(.pointer (some ⟨zpc,0,none⟩))),(8,(.slice zcr z23.length zcs)),(9,(.int .i64 ((z23.length : Nat) : Int))),(10,(.int .i64 z2b)),(14,(.slice zhi z2m.length zhj)),(15,(.int .i64 ((z2m.length : Nat) : Int))),(16,(.int .i64 z32))]) (fun (zdT : Nat) (z32 : Int) (z72 : z1a) (z9q : z3R)=>[stb zpc 35 [(.int .i64 (((nth z23 z2b).fB).fN)),(.int .i64 (((nth z23 z2b).fB).fD)),(.int .i64 (((nth z23 z2b).fR).fN)),(.int .i64 (((nth z23 z2b).fR).fD))],z7l z9q z72]) (fun (zdT : Nat) (z32 : Int) (z72 : z1a) (z9q : z3R)=>zdT) ⟨yu,0,z7E,zbk⟩ ⟨h,zpb⟩ (.cons rfl (.cons rfl (.cons rfl (.cons rfl (.cons rfl (.cons rfl (.cons rfl (.cons rfl (.cons rfl .nil))))))))) (.cons .here (.cons .here .nil)) ?_
     rintro zdT z32 z72 z9q ⟨h,zpd⟩
     obtain ⟨zkj,rfl⟩:=y6h h
     rw [y27] at h
     refine WC.b ?_
     refine WC.a ?_
     refine WL.a (d:=17) rfl rfl rfl (y1c rfl rfl) ?_
     refine WL.nil ?_
     refine WX.a ?_
     refine WC.b ?_
     refine WC.cond rfl (fun zkn=>?_) (fun zkn=>?_)
     ·replace h:=yh h zkn
      refine WC.skip ?_
      refine WX.a ?_
      refine WC.b ?_
      refine WC.block ?_
      refine WC.b ?_
      obtain ⟨ztJ,h⟩:=yl h
      refine WC.a ?_
      refine WL.znth (dd:=18) rfl rfl (Z:=Z) (Pr:=(fun r x=>r = e35 x)) y2w rfl rfl ztC ztJ ?_
      rintro zAT zAU ztK zAV rfl
      refine WL.a (d:=19) rfl rfl rfl (y4 (cs:=[(.int .i64 (((nth z2m z32).fB).fN)),(.int .i64 (((nth z2m z32).fB).fD)),(.int .i64 (((nth z2m z32).fR).fN)),(.int .i64 (((nth z2m z32).fR).fD))]) y1D rfl rfl (y2P hz.pv ztK)) ?_
      refine WL.new (dd:=7) rfl rfl rfl (ym (cs:=[(.int .i64 0),(.int .i64 0),(.int .i64 0),(.int .i64 0)]) y3J rfl) ?_
      intro zAW _
      refine WL.yb rfl rfl (yc (vs:=[(.int .i64 (((nth z2m z32).fB).fN)),(.int .i64 (((nth z2m z32).fB).fD)),(.int .i64 (((nth z2m z32).fR).fN)),(.int .i64 (((nth z2m z32).fR).fD))]) (ds:=[(.int .i64 (((nth z2m z32).fB).fN)),(.int .i64 (((nth z2m z32).fB).fD)),(.int .i64 (((nth z2m z32).fR).fN)),(.int .i64 (((nth z2m z32).fR).fD))]) y3X rfl rfl rfl rfl (y2 rfl (y2 rfl (y2 rfl (y2 rfl yk)))) .here (Nat.le_of_ble_eq_true rfl) rfl) ?_
      refine WL.nil ?_
      refine WX.a ?_
      refine WC.b ?_
      obtain ⟨zcq,ztL,h⟩:=ze h
      refine WC.a ?_
      refine WL.a (d:=20) rfl rfl rfl (q_m rfl) ?_
      refine WL.a (d:=21) rfl rfl rfl (y4 (cs:=[(.int .i64 (((nth z23 z2b).fB).fN)),(.int .i64 (((nth z23 z2b).fB).fD)),(.int .i64 (((nth z23 z2b).fR).fN)),(.int .i64 (((nth z23 z2b).fR).fD))]) y1D rfl rfl (y8 .h1)) ?_
      refine WL.a (d:=22) rfl rfl rfl (y4 (cs:=[(.int .i64 (((nth z2m z32).fB).fN)),(.int .i64 (((nth z2m z32).fB).fD)),(.int .i64 (((nth z2m z32).fR).fN)),(.int .i64 (((nth z2m z32).fR).fD))]) y1D rfl rfl (y8 .here)) ?_
      refine WL.yield (dd:=23) (x:=((⟨(⟨(((nth z23 z2b).fB).fN),(((nth z23 z2b).fB).fD)⟩ : z7),(⟨(((nth z23 z2b).fR).fN),(((nth z23 z2b).fR).fD)⟩ : z7)⟩ : z6),(⟨(⟨(((nth z2m z32).fB).fN),(((nth z2m z32).fB).fD)⟩ : z7),(⟨(((nth z2m z32).fR).fN),(((nth z2m z32).fR).fD)⟩ : z7)⟩ : z6))) (h:=()) (g:=z9q) (s:=z72) (b:=zcq.1) (s':=zcq.2) zty rfl rfl rfl (.cons rfl (.cons rfl .nil)) ((.cons .h2 .nil) : Sel _ [z7l z9q z72] _) ztL zpd (fun w hw=>hz.call hw ((.cons .h2 .nil) : Sel _ [z7l z9q z72] _)) ?_
      intro zpe zpf
      refine WL.a (d:=24) rfl rfl rfl (y1m rfl) ?_
      refine WL.nil ?_
      refine WX.a ?_
      refine WC.cond rfl (fun zko=>?_) (fun zko=>?_)
      ·replace h:=yh h zko
       refine WC.ret ?_
       refine WX.yq ?_
       refine WX.y6 ?_
       refine WX.y6 ?_
       refine WX.yq ?_
       refine WX.y6 ?_
       refine WX.yq ?_
       refine WX.y6 ?_
       refine WX.y6 ?_
       refine WX.yq ?_
       refine WX.y6 ?_
       obtain rfl:=Option.some.inj h
       refine WX.y7 Try.results89 .nil (fun w hw=>?_)
       exact ⟨zpe,y5s,zpf,hw.sub (.cons .here .nil)⟩
      ·replace h:=yi h zko
       refine WC.skip ?_
       refine WX.yg ?_
       refine WX.a ?_
       refine WC.a ?_
       refine WL.a (d:=25) rfl rfl rfl (yW rfl rfl rfl) ?_
       refine WL.a (d:=16) rfl rfl rfl (q_m rfl) ?_
       refine WL.nil ?_
       exact WX.round (G:=Nat × Int × z1a × z3R) ⟨zkj,(i64 (z32 + 1)),zcq.2,zpe⟩ ⟨h,zpf⟩ (Nat.lt_succ_self _) (.cons rfl (.cons rfl (.cons rfl (.cons rfl (.cons rfl (.cons rfl (.cons rfl (.cons rfl (.cons rfl .nil))))))))) (.cons .h2 (.cons .here .nil))
     ·replace h:=yi h zkn
      refine WC.exit ?_
      refine WX.ye ?_
      refine WX.ye ?_
      refine WX.yx ?_
      exact WX.mid (G:=z1a × z3R) ⟨z72,z9q⟩ ⟨h,zpd⟩ (.cons rfl (.cons rfl (.cons rfl (.cons rfl (.cons rfl .nil))))) (.cons .h1 .nil)
    ·rintro z9p zdS ⟨h,ztM⟩
     replace h:=(ztI z9p).symm.trans h
     refine WX.yg ?_
     exact WX.mid (G:=z1a × z3R) ⟨z9p,zdS⟩ ⟨h,ztM⟩ (.cons rfl (.cons rfl (.cons rfl (.cons rfl (.cons rfl .nil))))) (.cons .here .nil)
   ·rintro z9o zdR ⟨h,ztN⟩
    replace h:=(ztF z9o).symm.trans h
    refine WC.a ?_
    refine WL.a (d:=26) rfl rfl rfl (yW rfl rfl rfl) ?_
    refine WL.a (d:=10) rfl rfl rfl (q_m rfl) ?_
    refine WL.nil ?_
    exact WX.round (G:=Nat × Int × z1a × z3R) ⟨zkk,(i64 (z2b + 1)),z9o,zdR⟩ ⟨h,ztN⟩ (Nat.lt_succ_self _) (.cons rfl (.cons rfl (.cons rfl (.cons rfl (.cons rfl .nil))))) (.cons .here .nil)
  ·replace h:=yi h zkm
   refine WC.exit ?_
   refine WX.ye ?_
   refine WX.ye ?_
   refine WX.yx ?_
   exact WX.mid (G:=z1a × z3R) ⟨z7E,zbk⟩ ⟨h,zpb⟩ .nil (.cons .here .nil)
 ·rintro zah zdP ⟨h,ztO⟩
  replace h:=(ztE zah).symm.trans h
  obtain rfl:=Option.some.inj h
  refine WX.y4z Try.results89 .nil (fun w hw=>?_)
  exact ⟨zdP,y5s,ztO,hw.sub (.cons .here .nil)⟩
def y5F (zbl : z7) (zbm : z7) : Option (Int × Int) :=
 some ((i64 ((i64 (zbl.fN * zbm.fD)) - (i64 (zbm.fN * zbl.fD)))),(i64 (zbl.fD * zbm.fD)))
set_option maxRecDepth 20000 in
theorem ya0 (Z : Zp)  (zfv : Addr) (zfw : Addr) (zbl : z7) (zbm : z7) (r : Int × Int) (w₀ : World) (hz : PZ [] w₀ Z)
  (zkp : ZC Z zfv [(.int .i64 zbl.fN),(.int .i64 zbl.fD)])
  (zkq : ZC Z zfw [(.int .i64 zbm.fN),(.int .i64 zbm.fD)])
  (h : y5F zbl zbm = some r) :
  Calls Try.prog 55 #[(.pointer (some zfv)),(.pointer (some zfw))] w₀ fun e w'=>e = .returned (.tuple #[(.int .i64 r.1),(.int .i64 r.2)]) ∧ Hp [] w₀ w' []:=by
 unfold y5F at h
 refine Calls.yd (vs:=[(.pointer (some zfv)),(.pointer (some zfw))]) (pre:=[]) (env:=[(0,(.pointer (some zfv))),(1,(.pointer (some zfw)))]) Try.func55 rfl Try.ntmps55 rfl (Hp.nil w₀ _) rfl ?_
 refine WC.b ?_
 refine WC.a ?_
 refine WL.a (d:=2) rfl rfl rfl (q_z rfl) ?_
 refine WL.a (d:=3) rfl rfl rfl (q_z rfl) ?_
 refine WL.nil ?_
 refine WX.a ?_
 refine WC.b ?_
 refine WC.yY (fun i=>[].contains i) [] rfl ?_
 refine WD.a (i:=0) (d:=4) (by kernel_rfl) rfl (z8 (by kernel_rfl)) (za (by kernel_rfl)) rfl rfl rfl (fun _=>y3 y1Q rfl rfl) ?_
 refine WD.e (i:=1) (d:=5) (by kernel_rfl) rfl (z8 (by kernel_rfl)) (za (by kernel_rfl)) rfl rfl rfl (ya yw rfl (y1J hz.pv zkp rfl)) ?_
 refine WD.a (i:=2) (d:=6) (by kernel_rfl) rfl (z8 (by kernel_rfl)) (za (by kernel_rfl)) rfl rfl rfl (fun _=>y3 y24 rfl rfl) ?_
 refine WD.e (i:=3) (d:=7) (by kernel_rfl) rfl (z8 (by kernel_rfl)) (za (by kernel_rfl)) rfl rfl rfl (ya yw rfl (y1J hz.pv zkq rfl)) ?_
 refine WD.a (i:=4) (d:=8) (by kernel_rfl) rfl (z8 (by kernel_rfl)) (za (by kernel_rfl)) rfl rfl rfl (fun _=>y3t rfl rfl rfl) ?_
 refine WD.a (i:=5) (d:=9) (by kernel_rfl) rfl (z8 (by kernel_rfl)) (za (by kernel_rfl)) rfl rfl rfl (fun _=>y3 y1Q rfl rfl) ?_
 refine WD.e (i:=6) (d:=10) (by kernel_rfl) rfl (z8 (by kernel_rfl)) (za (by kernel_rfl)) rfl rfl rfl (ya yw rfl (y1J hz.pv zkq rfl)) ?_
 refine WD.a (i:=7) (d:=11) (by kernel_rfl) rfl (z8 (by kernel_rfl)) (za (by kernel_rfl)) rfl rfl rfl (fun _=>y3 y24 rfl rfl) ?_
 refine WD.e (i:=8) (d:=12) (by kernel_rfl) rfl (z8 (by kernel_rfl)) (za (by kernel_rfl)) rfl rfl rfl (ya yw rfl (y1J hz.pv zkp rfl)) ?_
 refine WD.a (i:=9) (d:=13) (by kernel_rfl) rfl (z8 (by kernel_rfl)) (za (by kernel_rfl)) rfl rfl rfl (fun _=>y3t rfl rfl rfl) ?_
 refine WD.a (i:=10) (d:=14) (by kernel_rfl) rfl (z8 (by kernel_rfl)) (za (by kernel_rfl)) rfl rfl rfl (fun _=>y6Q rfl rfl rfl) ?_
 refine WD.a (i:=11) (d:=15) (by kernel_rfl) rfl (z8 (by kernel_rfl)) (za (by kernel_rfl)) rfl rfl rfl (fun _=>y3 y24 rfl rfl) ?_
 refine WD.e (i:=12) (d:=16) (by kernel_rfl) rfl (z8 (by kernel_rfl)) (za (by kernel_rfl)) rfl rfl rfl (ya yw rfl (y1J hz.pv zkp rfl)) ?_
 refine WD.a (i:=13) (d:=17) (by kernel_rfl) rfl (z8 (by kernel_rfl)) (za (by kernel_rfl)) rfl rfl rfl (fun _=>y3 y24 rfl rfl) ?_
 refine WD.e (i:=14) (d:=18) (by kernel_rfl) rfl (z8 (by kernel_rfl)) (za (by kernel_rfl)) rfl rfl rfl (ya yw rfl (y1J hz.pv zkq rfl)) ?_
 refine WD.a (i:=15) (d:=19) (by kernel_rfl) rfl (z8 (by kernel_rfl)) (za (by kernel_rfl)) rfl rfl rfl (fun _=>y3t rfl rfl rfl) ?_
 refine WD.a (i:=16) (d:=2) (by kernel_rfl) rfl (z8 (by kernel_rfl)) (za (by kernel_rfl)) rfl rfl rfl (fun _=>q_z rfl) ?_
 refine WD.a (i:=17) (d:=3) (by kernel_rfl) rfl (z8 (by kernel_rfl)) (za (by kernel_rfl)) rfl rfl rfl (fun _=>q_z rfl) ?_
 refine WD.done (by kernel_rfl) ?_
 refine WX.a ?_
 refine WC.ret ?_
 obtain rfl:=Option.some.inj h
 refine WX.y7 Try.results55 (.tmp rfl (.tmp rfl .nil)) (fun w hw=>?_)
 exact ⟨y1M rfl rfl,hw.sub .nil⟩
def y2Q (z7F : Int) (z7m : Int) : Option (z7 × Int) :=
 if decide (z7m = 0) then some ((⟨0,0⟩ : z7),2) else (y3k z7F).bind fun z6N=>(y3k z7m).bind fun z73=>(y2M z6N z73).bind fun z3S=>chk ((z3S : Int) ≠ 0) (if (decide ((u64 (Int.tdiv z6N z3S)) > 1073741824)) || (decide ((u64 (Int.tdiv z73 z3S)) > 1073741824)) then some ((⟨0,0⟩ : z7),3) else jp1 (fun (z90 : Int)=>some ((⟨z90,i64 (u64 (Int.tdiv z73 z3S))⟩ : z7),0)) fun zhk=>if (decide (z7F < 0)) != (decide (z7m < 0)) then zhk (i64 (0 - (i64 (u64 (Int.tdiv z6N z3S))))) else zhk (i64 (u64 (Int.tdiv z6N z3S))))
set_option maxRecDepth 20000 in
theorem y51 (Z : Zp)   (z7F : Int) (z7m : Int) (r : z7 × Int) (w₀ : World) (hz : PZ [] w₀ Z)
  (h : y2Q z7F z7m = some r) :
  Calls Try.prog 9 #[(.int .i64 z7F),(.int .i64 z7m)] w₀ fun e w'=>e = .returned (.tuple #[(.agg #[(.int .i64 r.1.fN),(.int .i64 r.1.fD)]),(.int .i64 r.2)]) ∧ Hp [] w₀ w' []:=by
 unfold y2Q at h
 refine Calls.yd (vs:=[(.int .i64 z7F),(.int .i64 z7m)]) (pre:=[]) (env:=[(0,(.int .i64 z7F)),(1,(.int .i64 z7m))]) Try.func9 rfl Try.ntmps9 rfl (Hp.nil w₀ _) rfl ?_
 refine WC.b ?_
 refine WC.a ?_
 refine WL.new (dd:=4) rfl rfl rfl (ym (cs:=[(.int .i64 0),(.int .i64 0)]) yt rfl) ?_
 intro z74 _
 refine WL.a (d:=5) rfl rfl rfl (q_z rfl) ?_
 refine WL.nil ?_
 refine WX.a ?_
 refine WC.b ?_
 refine WC.b ?_
 refine WC.a ?_
 refine WL.a (d:=10) rfl rfl rfl (q_m rfl) ?_
 refine WL.a (d:=11) rfl rfl rfl (y4C rfl rfl) ?_
 refine WL.nil ?_
 refine WX.a ?_
 refine WC.cond rfl (fun zkr=>?_) (fun zkr=>?_)
 ·replace h:=yh h zkr
  refine WC.b ?_
  refine WC.a ?_
  refine WL.a (d:=12) rfl rfl rfl (y1g (v:=(.agg #[(.int .i64 0),(.int .i64 0)])) (Eos.parts (l:=[]) .nil []) (fun _=>by kernel_rfl)) ?_
  refine WL.yb rfl rfl (yc (vs:=[(.int .i64 0),(.int .i64 0)]) (ds:=[(.int .i64 0),(.int .i64 0)]) yo rfl rfl rfl rfl (y2 rfl (y2 rfl yk)) .here (Nat.le_of_ble_eq_true rfl) rfl) ?_
  refine WL.a (d:=5) rfl rfl rfl (q_z rfl) ?_
  refine WL.nil ?_
  refine WX.a ?_
  refine WC.ret ?_
  refine WX.y6 ?_
  obtain rfl:=Option.some.inj h
  refine WX.y7 Try.results9 (.agg rfl y5 rfl (y8 .here) (.tmp rfl .nil)) (fun w hw=>?_)
  exact ⟨y1M rfl rfl,hw.sub .nil⟩
 ·replace h:=yi h zkr
  refine WC.skip ?_
  refine WX.a ?_
  refine WC.b ?_
  obtain ⟨z6N,ztP,h⟩:=ze h
  obtain ⟨z73,ztQ,h⟩:=ze h
  refine WC.a ?_
  refine WL.a (d:=13) rfl rfl rfl (q_m rfl) ?_
  refine WL.b (dd:=14) rfl rfl rfl (zj (l:=[.tmp 13]) Try.call28 (.cons rfl .nil)) (.nil : Sel [stb z74 30 [(.int .i64 0),(.int .i64 0)]] [] [stb z74 30 [(.int .i64 0),(.int .i64 0)]]) (fun w hw=>by have pz:=(hz.call hw (.nil : Sel [stb z74 30 [(.int .i64 0),(.int .i64 0)]] [] [stb z74 30 [(.int .i64 0),(.int .i64 0)]])); exact y5E (Z:=_)  (z8m:=z7F) (r:=z6N) w pz  ztP) ?_
  refine WL.a (d:=15) rfl rfl rfl (q_m rfl) ?_
  refine WL.b (dd:=16) rfl rfl rfl (zj (l:=[.tmp 15]) Try.call28 (.cons rfl .nil)) (.nil : Sel [stb z74 30 [(.int .i64 0),(.int .i64 0)]] [] [stb z74 30 [(.int .i64 0),(.int .i64 0)]]) (fun w hw=>by have pz:=(hz.call hw (.nil : Sel [stb z74 30 [(.int .i64 0),(.int .i64 0)]] [] [stb z74 30 [(.int .i64 0),(.int .i64 0)]])); exact y5E (Z:=_)  (z8m:=z7m) (r:=z73) w pz  ztQ) ?_
  refine WL.a (d:=6) rfl rfl rfl (q_z rfl) ?_
  refine WL.a (d:=7) rfl rfl rfl (q_z rfl) ?_
  refine WL.nil ?_
  refine WX.a ?_
  refine WC.b ?_
  obtain ⟨z3S,ztR,h⟩:=ze h
  refine WC.a ?_
  refine WL.a (d:=17) rfl rfl rfl (q_m rfl) ?_
  refine WL.a (d:=18) rfl rfl rfl (q_m rfl) ?_
  refine WL.b (dd:=19) rfl rfl rfl (zj (l:=[.tmp 17,.tmp 18]) Try.call29 (.cons rfl (.cons rfl .nil))) (.nil : Sel [stb z74 30 [(.int .i64 0),(.int .i64 0)]] [] [stb z74 30 [(.int .i64 0),(.int .i64 0)]]) (fun w hw=>by have pz:=(hz.call hw (.nil : Sel [stb z74 30 [(.int .i64 0),(.int .i64 0)]] [] [stb z74 30 [(.int .i64 0),(.int .i64 0)]])); exact y66 (Z:=_)  (z9Y:=z6N) (z9Z:=z73) (r:=z3S) w pz  ztR) ?_
  refine WL.a (d:=8) rfl rfl rfl (q_z rfl) ?_
  refine WL.nil ?_
  refine WX.a ?_
  refine WC.b ?_
  obtain ⟨zpg,h⟩:=yl h
  refine WC.yY (fun i=>[].contains i) [] rfl ?_
  refine WD.a (i:=0) (d:=20) (by kernel_rfl) rfl (z8 (by kernel_rfl)) (za (by kernel_rfl)) rfl rfl rfl (fun _=>q_m rfl) ?_
  refine WD.a (i:=1) (d:=21) (by kernel_rfl) rfl (z8 (by kernel_rfl)) (za (by kernel_rfl)) rfl rfl rfl (fun _=>q_m rfl) ?_
  refine WD.a (i:=2) (d:=22) (by kernel_rfl) rfl (z8 (by kernel_rfl)) (za (by kernel_rfl)) rfl rfl rfl (fun _=>q_quo rfl rfl zpg rfl) ?_
  refine WD.a (i:=3) (d:=23) (by kernel_rfl) rfl (z8 (by kernel_rfl)) (za (by kernel_rfl)) rfl rfl rfl (fun _=>q_m rfl) ?_
  refine WD.a (i:=4) (d:=24) (by kernel_rfl) rfl (z8 (by kernel_rfl)) (za (by kernel_rfl)) rfl rfl rfl (fun _=>q_m rfl) ?_
  refine WD.a (i:=5) (d:=25) (by kernel_rfl) rfl (z8 (by kernel_rfl)) (za (by kernel_rfl)) rfl rfl rfl (fun _=>q_quo rfl rfl zpg rfl) ?_
  refine WD.a (i:=6) (d:=6) (by kernel_rfl) rfl (z8 (by kernel_rfl)) (za (by kernel_rfl)) rfl rfl rfl (fun _=>q_z rfl) ?_
  refine WD.a (i:=7) (d:=7) (by kernel_rfl) rfl (z8 (by kernel_rfl)) (za (by kernel_rfl)) rfl rfl rfl (fun _=>q_z rfl) ?_
  refine WD.done (by kernel_rfl) ?_
  refine WX.a ?_
  refine WC.b ?_
  refine WC.b ?_
  refine WC.a ?_
  refine WL.a (d:=26) rfl rfl rfl (q_m rfl) ?_
  refine WL.a (d:=27) rfl rfl rfl (y2F rfl rfl) ?_
  refine WL.a (d:=28) rfl rfl rfl (q_m rfl) ?_
  refine WL.yN True [(0,(.int .i64 z7F)),(1,(.int .i64 z7m)),(4,(.pointer (some ⟨z74,0,none⟩))),(6,(.int .u64 (u64 (Int.tdiv z6N z3S)))),(7,(.int .u64 (u64 (Int.tdiv z73 z3S)))),(31,(.bool ((decide ((u64 (Int.tdiv z6N z3S)) > 1073741824)) || (decide ((u64 (Int.tdiv z73 z3S)) > 1073741824)))))] [stb z74 30 [(.int .i64 0),(.int .i64 0)]] 3 ?_ (fun _=>?_)
  ·rcases Bool.eq_false_or_eq_true (decide ((u64 (Int.tdiv z6N z3S)) > 1073741824)) with hb' | hb'
   ·have zph:=hb'; clear hb'
    refine WL.pin (i:=28) rfl zph ?_
    refine WL.e rfl rfl rfl ?_
    refine WL.e rfl rfl rfl ?_
    refine WL.a (d:=31) rfl rfl rfl (ys rfl rfl) ?_
    exact WL.y9 () trivial (.cons rfl (.cons rfl (.cons rfl (.cons rfl (.cons rfl (.cons (zr (y4s zph)) .nil)))))) (.cons .here .nil)
   ·have zpi:=hb'; clear hb'
    refine WL.pin (i:=28) rfl zpi ?_
    refine WL.a (d:=29) rfl rfl rfl (q_m rfl) ?_
    refine WL.a (d:=30) rfl rfl rfl (y2F rfl rfl) ?_
    refine WL.a (d:=31) rfl rfl rfl (yr rfl rfl) ?_
    exact WL.y9 () trivial (.cons rfl (.cons rfl (.cons rfl (.cons rfl (.cons rfl (.cons (zr (y4t zpi)) .nil)))))) (.cons .here .nil)
  ·skip
   refine WL.nil ?_
   refine WX.a ?_
   refine WC.cond rfl (fun zks=>?_) (fun zks=>?_)
   ·replace h:=yh h zks
    refine WC.b ?_
    refine WC.a ?_
    refine WL.a (d:=32) rfl rfl rfl (y1g (v:=(.agg #[(.int .i64 0),(.int .i64 0)])) (Eos.parts (l:=[]) .nil []) (fun _=>by kernel_rfl)) ?_
    refine WL.yb rfl rfl (yc (vs:=[(.int .i64 0),(.int .i64 0)]) (ds:=[(.int .i64 0),(.int .i64 0)]) yo rfl rfl rfl rfl (y2 rfl (y2 rfl yk)) .here (Nat.le_of_ble_eq_true rfl) rfl) ?_
    refine WL.a (d:=5) rfl rfl rfl (q_z rfl) ?_
    refine WL.nil ?_
    refine WX.a ?_
    refine WC.ret ?_
    refine WX.y6 ?_
    obtain rfl:=Option.some.inj h
    refine WX.y7 Try.results9 (.agg rfl y5 rfl (y8 .here) (.tmp rfl .nil)) (fun w hw=>?_)
    exact ⟨y1M rfl rfl,hw.sub .nil⟩
   ·replace h:=yi h zks
    refine WC.skip ?_
    refine WX.a ?_
    refine WC.b ?_
    refine WC.a ?_
    refine WL.a (d:=33) rfl rfl rfl (q_m rfl) ?_
    refine WL.a (d:=34) rfl rfl rfl (y3v Try.underlying71 Try.underlying3 rfl rfl) ?_
    refine WL.a (d:=35) rfl rfl rfl (q_m rfl) ?_
    refine WL.a (d:=36) rfl rfl rfl (y3v Try.underlying71 Try.underlying3 rfl rfl) ?_
    refine WL.a (d:=37) rfl rfl rfl (y1g (v:=(.agg #[(.int .i64 (i64 (u64 (Int.tdiv z6N z3S)))),(.int .i64 (i64 (u64 (Int.tdiv z73 z3S))))])) (Eos.parts (l:=[.tmp 34,.tmp 36]) (.cons rfl (.cons rfl .nil)) [0,1]) (fun _=>by kernel_rfl)) ?_
    refine WL.new (dd:=9) rfl rfl rfl (ym (cs:=[(.int .i64 0),(.int .i64 0)]) yt rfl) ?_
    intro zpj _
    refine WL.yb rfl rfl (yc (vs:=[(.int .i64 (i64 (u64 (Int.tdiv z6N z3S)))),(.int .i64 (i64 (u64 (Int.tdiv z73 z3S))))]) (ds:=[(.int .i64 (i64 (u64 (Int.tdiv z6N z3S)))),(.int .i64 (i64 (u64 (Int.tdiv z73 z3S))))]) yo rfl rfl rfl rfl (y2 rfl (y2 rfl yk)) .here (Nat.le_of_ble_eq_true rfl) rfl) ?_
    refine WL.nil ?_
    refine WX.a ?_
    obtain ⟨zhk,ztS,h⟩:=y1h h
    refine WC.y34 (fun (z90 : Int)=>(zhk z90 = some r)) (fun (z90 : Int)=>[(4,(.pointer (some ⟨z74,0,none⟩))),(9,(.pointer (some ⟨zpj,0,none⟩)))]) (fun (z90 : Int)=>[stb z74 30 [(.int .i64 0),(.int .i64 0)],stb zpj 30 [(.int .i64 z90),(.int .i64 (i64 (u64 (Int.tdiv z73 z3S))))]]) ?_ ?_
    ·skip
     refine WC.b ?_
     refine WC.a ?_
     refine WL.a (d:=38) rfl rfl rfl (q_m rfl) ?_
     refine WL.a (d:=39) rfl rfl rfl (y1c rfl rfl) ?_
     refine WL.a (d:=40) rfl rfl rfl (q_m rfl) ?_
     refine WL.a (d:=41) rfl rfl rfl (y1c rfl rfl) ?_
     refine WL.a (d:=42) rfl rfl rfl (q_bneq Try.underlying4 rfl rfl) ?_
     refine WL.nil ?_
     refine WX.a ?_
     refine WC.cond rfl (fun zkt=>?_) (fun zkt=>?_)
     ·replace h:=yh h zkt
      refine WC.a ?_
      refine WL.a (d:=43) rfl rfl rfl (y3 y1Q rfl rfl) ?_
      refine WL.a (d:=44) rfl rfl rfl (ya yw rfl (yv .here rfl)) ?_
      refine WL.a (d:=45) rfl rfl rfl (q_neg rfl rfl) ?_
      refine WL.a (d:=46) rfl rfl rfl (y3 y1Q rfl rfl) ?_
      refine WL.yb rfl rfl (yc (vs:=[(.int .i64 (i64 (0 - (i64 (u64 (Int.tdiv z6N z3S))))))]) (ds:=[(.int .i64 (i64 (0 - (i64 (u64 (Int.tdiv z6N z3S)))))),(.int .i64 (i64 (u64 (Int.tdiv z73 z3S))))]) sizT_3 rfl rfl rfl rfl (y2 rfl yk) .here (Nat.le_of_ble_eq_true rfl) rfl) ?_
      refine WL.nil ?_
      exact WX.mid (G:=Int) (i64 (0 - (i64 (u64 (Int.tdiv z6N z3S))))) h (.cons rfl (.cons rfl .nil)) (.cons .h1 (.cons .here .nil))
     ·replace h:=yi h zkt
      refine WC.skip ?_
      exact WX.mid (G:=Int) (i64 (u64 (Int.tdiv z6N z3S))) h (.cons rfl (.cons rfl .nil)) (.cons .h1 (.cons .here .nil))
    ·rintro z90 h
     replace h:=(ztS z90).symm.trans h
     refine WC.b ?_
     refine WC.a ?_
     refine WL.a (d:=47) rfl rfl rfl (y4 (cs:=[(.int .i64 z90),(.int .i64 (i64 (u64 (Int.tdiv z73 z3S))))]) y5 rfl rfl (y8 .h1)) ?_
     refine WL.yb rfl rfl (yc (vs:=[(.int .i64 z90),(.int .i64 (i64 (u64 (Int.tdiv z73 z3S))))]) (ds:=[(.int .i64 z90),(.int .i64 (i64 (u64 (Int.tdiv z73 z3S))))]) yo rfl rfl rfl rfl (y2 rfl (y2 rfl yk)) .here (Nat.le_of_ble_eq_true rfl) rfl) ?_
     refine WL.a (d:=5) rfl rfl rfl (q_z rfl) ?_
     refine WL.nil ?_
     refine WX.a ?_
     refine WC.ret ?_
     obtain rfl:=Option.some.inj h
     refine WX.y7 Try.results9 (.agg rfl y5 rfl (y8 .here) (.tmp rfl .nil)) (fun w hw=>?_)
     exact ⟨y1M rfl rfl,hw.sub .nil⟩
def y6Z (z11 : z7) (z12 : z7) : Option (z7 × Int) :=
 (y1f z11).bind fun zhl=>(if !zhl then some true else (y1f z12).bind fun zku=>some (!zku)).bind fun zfx=>if zfx then some ((⟨0,0⟩ : z7),2) else (y5F z11 z12).bind fun zdU=>(y2Q zdU.1 zdU.2).bind fun zbn=>some (zbn.1,zbn.2)
set_option maxRecDepth 20000 in
theorem w_rat_do (Z : Zp)   (z11 : z7) (z12 : z7) (r : z7 × Int) (w₀ : World) (hz : PZ [] w₀ Z)
  (h : y6Z z11 z12 = some r) :
  Calls Try.prog 40 #[(.string ⟨#[45]⟩),(.agg #[(.int .i64 z11.fN),(.int .i64 z11.fD)]),(.agg #[(.int .i64 z12.fN),(.int .i64 z12.fD)])] w₀ fun e w'=>e = .returned (.tuple #[(.agg #[(.int .i64 r.1.fN),(.int .i64 r.1.fD)]),(.int .i64 r.2)]) ∧ Hp [] w₀ w' []:=by
 unfold y6Z at h
 refine Calls.yd (vs:=[(.string ⟨#[45]⟩),(.agg #[(.int .i64 z11.fN),(.int .i64 z11.fD)]),(.agg #[(.int .i64 z12.fN),(.int .i64 z12.fD)])]) (pre:=[]) (env:=[(0,(.string ⟨#[45]⟩)),(1,(.agg #[(.int .i64 z11.fN),(.int .i64 z11.fD)])),(2,(.agg #[(.int .i64 z12.fN),(.int .i64 z12.fD)]))]) Try.func40 rfl Try.ntmps40 rfl (Hp.nil w₀ _) rfl ?_
 refine WC.b ?_
 refine WC.a ?_
 refine WL.new (dd:=4) rfl rfl rfl (yI (cs:=[(.int .i64 z11.fN),(.int .i64 z11.fD)]) rfl rfl) ?_
 intro zF _
 refine WL.new (dd:=5) rfl rfl rfl (yI (cs:=[(.int .i64 z12.fN),(.int .i64 z12.fD)]) rfl rfl) ?_
 intro zG _
 refine WL.new (dd:=6) rfl rfl rfl (ym (cs:=[(.int .i64 0),(.int .i64 0)]) yt rfl) ?_
 intro z4o _
 refine WL.a (d:=7) rfl rfl rfl (q_z rfl) ?_
 refine WL.nil ?_
 refine WX.a ?_
 refine WC.b ?_
 refine WC.b ?_
 obtain ⟨zhl,ztT,h⟩:=ze h
 obtain ⟨zfx,zpk,h⟩:=ze h
 refine WC.a ?_
 refine WL.a (d:=9) rfl rfl rfl (y4 (cs:=[(.int .i64 z11.fN),(.int .i64 z11.fD)]) y5 rfl rfl (y8 .h2)) ?_
 refine WL.b (dd:=10) rfl rfl rfl (zj (l:=[.tmp 9]) Try.call39 (.cons rfl .nil)) (.nil : Sel [stb z4o 30 [(.int .i64 0),(.int .i64 0)],stb zG 30 [(.int .i64 z12.fN),(.int .i64 z12.fD)],stb zF 30 [(.int .i64 z11.fN),(.int .i64 z11.fD)]] [] [stb z4o 30 [(.int .i64 0),(.int .i64 0)],stb zG 30 [(.int .i64 z12.fN),(.int .i64 z12.fD)],stb zF 30 [(.int .i64 z11.fN),(.int .i64 z11.fD)]]) (fun w hw=>by have pz:=(hz.call hw (.nil : Sel [stb z4o 30 [(.int .i64 0),(.int .i64 0)],stb zG 30 [(.int .i64 z12.fN),(.int .i64 z12.fD)],stb zF 30 [(.int .i64 z11.fN),(.int .i64 z11.fD)]] [] [stb z4o 30 [(.int .i64 0),(.int .i64 0)],stb zG 30 [(.int .i64 z12.fN),(.int .i64 z12.fD)],stb zF 30 [(.int .i64 z11.fN),(.int .i64 z11.fD)]])); exact y1G (Z:=_)  (z1b:=z11) (r:=zhl) w pz  ztT) ?_
 refine WL.a (d:=11) rfl rfl rfl (y1m rfl) ?_
 refine WL.a (d:=12) rfl rfl rfl (q_m rfl) ?_
 refine WL.yN True [(0,(.string ⟨#[45]⟩)),(4,(.pointer (some ⟨zF,0,none⟩))),(5,(.pointer (some ⟨zG,0,none⟩))),(6,(.pointer (some ⟨z4o,0,none⟩))),(16,(.bool zfx))] [stb z4o 30 [(.int .i64 0),(.int .i64 0)],stb zG 30 [(.int .i64 z12.fN),(.int .i64 z12.fD)],stb zF 30 [(.int .i64 z11.fN),(.int .i64 z11.fD)]] 4 ?_ (fun _=>?_)
 ·rcases Bool.eq_false_or_eq_true (!zhl) with hb' | hb'
  ·have zpl:=hb'; clear hb'
   have zkv:=yh zpk zpl
   replace zkv:=Option.some.inj zkv
   refine WL.pin (i:=12) rfl zpl ?_
   refine WL.e rfl rfl rfl ?_
   refine WL.e rfl rfl rfl ?_
   refine WL.e rfl rfl rfl ?_
   refine WL.a (d:=16) rfl rfl rfl (ys rfl rfl) ?_
   exact WL.y9 () trivial (.cons rfl (.cons rfl (.cons rfl (.cons rfl (.cons (zr zkv) .nil))))) (.cons .here (.cons .here (.cons .here .nil)))
  ·have zpm:=hb'; clear hb'
   have zfy:=yi zpk zpm
   obtain ⟨zku,ztU,zfy⟩:=ze zfy
   replace zfy:=Option.some.inj zfy
   refine WL.pin (i:=12) rfl zpm ?_
   refine WL.a (d:=13) rfl rfl rfl (y4 (cs:=[(.int .i64 z12.fN),(.int .i64 z12.fD)]) y5 rfl rfl (y8 .h1)) ?_
   refine WL.b (dd:=14) rfl rfl rfl (zj (l:=[.tmp 13]) Try.call39 (.cons rfl .nil)) (.nil : Sel [stb z4o 30 [(.int .i64 0),(.int .i64 0)],stb zG 30 [(.int .i64 z12.fN),(.int .i64 z12.fD)],stb zF 30 [(.int .i64 z11.fN),(.int .i64 z11.fD)]] [] [stb z4o 30 [(.int .i64 0),(.int .i64 0)],stb zG 30 [(.int .i64 z12.fN),(.int .i64 z12.fD)],stb zF 30 [(.int .i64 z11.fN),(.int .i64 z11.fD)]]) (fun w hw=>by have pz:=(hz.call hw (.nil : Sel [stb z4o 30 [(.int .i64 0),(.int .i64 0)],stb zG 30 [(.int .i64 z12.fN),(.int .i64 z12.fD)],stb zF 30 [(.int .i64 z11.fN),(.int .i64 z11.fD)]] [] [stb z4o 30 [(.int .i64 0),(.int .i64 0)],stb zG 30 [(.int .i64 z12.fN),(.int .i64 z12.fD)],stb zF 30 [(.int .i64 z11.fN),(.int .i64 z11.fD)]])); exact y1G (Z:=_)  (z1b:=z12) (r:=zku) w pz  ztU) ?_
   refine WL.a (d:=15) rfl rfl rfl (y1m rfl) ?_
   refine WL.a (d:=16) rfl rfl rfl (yr rfl rfl) ?_
   exact WL.y9 () trivial (.cons rfl (.cons rfl (.cons rfl (.cons rfl (.cons (zr zfy) .nil))))) (.cons .here (.cons .here (.cons .here .nil)))
 ·skip
  refine WL.a (d:=17) rfl rfl rfl (q_m rfl) ?_
  refine WL.yN True [(0,(.string ⟨#[45]⟩)),(4,(.pointer (some ⟨zF,0,none⟩))),(5,(.pointer (some ⟨zG,0,none⟩))),(6,(.pointer (some ⟨z4o,0,none⟩))),(25,(.bool zfx))] [stb z4o 30 [(.int .i64 0),(.int .i64 0)],stb zG 30 [(.int .i64 z12.fN),(.int .i64 z12.fD)],stb zF 30 [(.int .i64 z11.fN),(.int .i64 z11.fD)]] 8 ?_ (fun _=>?_)
  ·rcases Bool.eq_false_or_eq_true zfx with hb' | hb'
   ·have zpn:=hb'; clear hb'
    refine WL.pin (i:=17) rfl zpn ?_
    refine WL.e rfl rfl rfl ?_
    refine WL.e rfl rfl rfl ?_
    refine WL.e rfl rfl rfl ?_
    refine WL.e rfl rfl rfl ?_
    refine WL.e rfl rfl rfl ?_
    refine WL.e rfl rfl rfl ?_
    refine WL.e rfl rfl rfl ?_
    refine WL.a (d:=25) rfl rfl rfl (ys rfl rfl) ?_
    exact WL.y9 () trivial (.cons rfl (.cons rfl (.cons rfl (.cons rfl (.cons (zr (Eq.symm zpn)) .nil))))) (.cons .here (.cons .here (.cons .here .nil)))
   ·have zpo:=hb'; clear hb'
    refine WL.pin (i:=17) rfl zpo ?_
    refine WL.a (d:=18) rfl rfl rfl (q_m rfl) ?_
    refine WL.a (d:=19) rfl rfl rfl (y7y (r:=false) (by decide) rfl rfl) ?_
    refine WL.a (d:=20) rfl rfl rfl (q_m rfl) ?_
    refine WL.e rfl rfl rfl ?_
    refine WL.e rfl rfl rfl ?_
    refine WL.e rfl rfl rfl ?_
    refine WL.a (d:=24) rfl rfl rfl (yr rfl rfl) ?_
    refine WL.a (d:=25) rfl rfl rfl (yr rfl rfl) ?_
    exact WL.y9 () trivial (.cons rfl (.cons rfl (.cons rfl (.cons rfl (.cons (zr (Eq.symm zpo)) .nil))))) (.cons .here (.cons .here (.cons .here .nil)))
  ·skip
   refine WL.nil ?_
   refine WX.a ?_
   refine WC.cond rfl (fun zkw=>?_) (fun zkw=>?_)
   ·replace h:=yh h zkw
    refine WC.b ?_
    refine WC.a ?_
    refine WL.a (d:=26) rfl rfl rfl (y1g (v:=(.agg #[(.int .i64 0),(.int .i64 0)])) (Eos.parts (l:=[]) .nil []) (fun _=>by kernel_rfl)) ?_
    refine WL.yb rfl rfl (yc (vs:=[(.int .i64 0),(.int .i64 0)]) (ds:=[(.int .i64 0),(.int .i64 0)]) yo rfl rfl rfl rfl (y2 rfl (y2 rfl yk)) .here (Nat.le_of_ble_eq_true rfl) rfl) ?_
    refine WL.a (d:=7) rfl rfl rfl (q_z rfl) ?_
    refine WL.nil ?_
    refine WX.a ?_
    refine WC.ret ?_
    refine WX.y6 ?_
    obtain rfl:=Option.some.inj h
    refine WX.y7 Try.results40 (.agg rfl y5 rfl (y8 .here) (.tmp rfl .nil)) (fun w hw=>?_)
    exact ⟨y1M rfl rfl,hw.sub .nil⟩
   ·replace h:=yi h zkw
    refine WC.skip ?_
    refine WX.a ?_
    refine WC.b ?_
    refine WC.a ?_
    refine WL.new (dd:=27) rfl rfl rfl (y6p Value.string (fun x=>x)) ?_
    intro z7G _
    refine WL.a (d:=28) rfl rfl rfl (y1d (Eos.caps (l:=[.tmp 4,.tmp 5]) (.cons rfl (.cons rfl .nil)))) ?_
    refine WL.yb rfl rfl (y2g (k:=⟨#[43]⟩) (v:=(.func (.func 54) #[] #[(.pointer (some ⟨zF,0,none⟩)),(.pointer (some ⟨zG,0,none⟩))])) y2q Try.underlying105 rfl rfl rfl rfl .here) ?_
    refine WL.a (d:=29) rfl rfl rfl (y1d (Eos.caps (l:=[.tmp 4,.tmp 5]) (.cons rfl (.cons rfl .nil)))) ?_
    refine WL.yb rfl rfl (y2g (k:=⟨#[45]⟩) (v:=(.func (.func 55) #[] #[(.pointer (some ⟨zF,0,none⟩)),(.pointer (some ⟨zG,0,none⟩))])) y2q Try.underlying105 rfl rfl rfl rfl .here) ?_
    refine WL.a (d:=30) rfl rfl rfl (y1d (Eos.caps (l:=[.tmp 4,.tmp 5]) (.cons rfl (.cons rfl .nil)))) ?_
    refine WL.yb rfl rfl (y2g (k:=⟨#[42]⟩) (v:=(.func (.func 56) #[] #[(.pointer (some ⟨zF,0,none⟩)),(.pointer (some ⟨zG,0,none⟩))])) y2q Try.underlying105 rfl rfl rfl rfl .here) ?_
    refine WL.a (d:=31) rfl rfl rfl (y1d (Eos.caps (l:=[.tmp 4,.tmp 5]) (.cons rfl (.cons rfl .nil)))) ?_
    refine WL.yb rfl rfl (y2g (k:=⟨#[47]⟩) (v:=(.func (.func 57) #[] #[(.pointer (some ⟨zF,0,none⟩)),(.pointer (some ⟨zG,0,none⟩))])) y2q Try.underlying105 rfl rfl rfl rfl .here) ?_
    refine WL.a (d:=32) rfl rfl rfl (q_m rfl) ?_
    refine WL.a (d:=8) rfl rfl rfl (q_z rfl) ?_
    refine WL.nil ?_
    refine WX.a ?_
    refine WC.b ?_
    obtain ⟨zdU,ztV,h⟩:=ze h
    obtain ⟨zbn,ztW,h⟩:=ze h
    refine WC.a ?_
    refine WL.a (d:=33) rfl rfl rfl (q_m rfl) ?_
    refine WL.a (d:=34) rfl rfl rfl (q_m rfl) ?_
    refine WL.a (d:=35) rfl rfl rfl (y7x (k:=⟨#[45]⟩) (dflt:=.nilFunc) (r:=(.func (.func 55) #[] #[(.pointer (some ⟨zF,0,none⟩)),(.pointer (some ⟨zG,0,none⟩))])) y2q Try.underlying105 zgZ rfl rfl rfl .here (by rfl)) ?_
    refine WL.b (dd:=36) rfl rfl rfl (y2C (l:=[]) Try.call55 rfl .nil) (.nil : Sel [yK z7G Value.string (fun x=>x) [(⟨#[43]⟩,(.func (.func 54) #[] #[(.pointer (some ⟨zF,0,none⟩)),(.pointer (some ⟨zG,0,none⟩))])),(⟨#[45]⟩,(.func (.func 55) #[] #[(.pointer (some ⟨zF,0,none⟩)),(.pointer (some ⟨zG,0,none⟩))])),(⟨#[42]⟩,(.func (.func 56) #[] #[(.pointer (some ⟨zF,0,none⟩)),(.pointer (some ⟨zG,0,none⟩))])),(⟨#[47]⟩,(.func (.func 57) #[] #[(.pointer (some ⟨zF,0,none⟩)),(.pointer (some ⟨zG,0,none⟩))]))],stb z4o 30 [(.int .i64 0),(.int .i64 0)],stb zG 30 [(.int .i64 z12.fN),(.int .i64 z12.fD)],stb zF 30 [(.int .i64 z11.fN),(.int .i64 z11.fD)]] [] [yK z7G Value.string (fun x=>x) [(⟨#[43]⟩,(.func (.func 54) #[] #[(.pointer (some ⟨zF,0,none⟩)),(.pointer (some ⟨zG,0,none⟩))])),(⟨#[45]⟩,(.func (.func 55) #[] #[(.pointer (some ⟨zF,0,none⟩)),(.pointer (some ⟨zG,0,none⟩))])),(⟨#[42]⟩,(.func (.func 56) #[] #[(.pointer (some ⟨zF,0,none⟩)),(.pointer (some ⟨zG,0,none⟩))])),(⟨#[47]⟩,(.func (.func 57) #[] #[(.pointer (some ⟨zF,0,none⟩)),(.pointer (some ⟨zG,0,none⟩))]))],stb z4o 30 [(.int .i64 0),(.int .i64 0)],stb zG 30 [(.int .i64 z12.fN),(.int .i64 z12.fD)],stb zF 30 [(.int .i64 z11.fN),(.int .i64 z11.fD)]]) (fun w hw=>by have pz:=(hz.call hw (.nil : Sel [yK z7G Value.string (fun x=>x) [(⟨#[43]⟩,(.func (.func 54) #[] #[(.pointer (some ⟨zF,0,none⟩)),(.pointer (some ⟨zG,0,none⟩))])),(⟨#[45]⟩,(.func (.func 55) #[] #[(.pointer (some ⟨zF,0,none⟩)),(.pointer (some ⟨zG,0,none⟩))])),(⟨#[42]⟩,(.func (.func 56) #[] #[(.pointer (some ⟨zF,0,none⟩)),(.pointer (some ⟨zG,0,none⟩))])),(⟨#[47]⟩,(.func (.func 57) #[] #[(.pointer (some ⟨zF,0,none⟩)),(.pointer (some ⟨zG,0,none⟩))]))],stb z4o 30 [(.int .i64 0),(.int .i64 0)],stb zG 30 [(.int .i64 z12.fN),(.int .i64 z12.fD)],stb zF 30 [(.int .i64 z11.fN),(.int .i64 z11.fD)]] [] [yK z7G Value.string (fun x=>x) [(⟨#[43]⟩,(.func (.func 54) #[] #[(.pointer (some ⟨zF,0,none⟩)),(.pointer (some ⟨zG,0,none⟩))])),(⟨#[45]⟩,(.func (.func 55) #[] #[(.pointer (some ⟨zF,0,none⟩)),(.pointer (some ⟨zG,0,none⟩))])),(⟨#[42]⟩,(.func (.func 56) #[] #[(.pointer (some ⟨zF,0,none⟩)),(.pointer (some ⟨zG,0,none⟩))])),(⟨#[47]⟩,(.func (.func 57) #[] #[(.pointer (some ⟨zF,0,none⟩)),(.pointer (some ⟨zG,0,none⟩))]))],stb z4o 30 [(.int .i64 0),(.int .i64 0)],stb zG 30 [(.int .i64 z12.fN),(.int .i64 z12.fD)],stb zF 30 [(.int .i64 z11.fN),(.int .i64 z11.fD)]])).lend hw (.nil : Sel [yK z7G Value.string (fun x=>x) [(⟨#[43]⟩,(.func (.func 54) #[] #[(.pointer (some ⟨zF,0,none⟩)),(.pointer (some ⟨zG,0,none⟩))])),(⟨#[45]⟩,(.func (.func 55) #[] #[(.pointer (some ⟨zF,0,none⟩)),(.pointer (some ⟨zG,0,none⟩))])),(⟨#[42]⟩,(.func (.func 56) #[] #[(.pointer (some ⟨zF,0,none⟩)),(.pointer (some ⟨zG,0,none⟩))])),(⟨#[47]⟩,(.func (.func 57) #[] #[(.pointer (some ⟨zF,0,none⟩)),(.pointer (some ⟨zG,0,none⟩))]))],stb z4o 30 [(.int .i64 0),(.int .i64 0)],stb zG 30 [(.int .i64 z12.fN),(.int .i64 z12.fD)],stb zF 30 [(.int .i64 z11.fN),(.int .i64 z11.fD)]] [] [yK z7G Value.string (fun x=>x) [(⟨#[43]⟩,(.func (.func 54) #[] #[(.pointer (some ⟨zF,0,none⟩)),(.pointer (some ⟨zG,0,none⟩))])),(⟨#[45]⟩,(.func (.func 55) #[] #[(.pointer (some ⟨zF,0,none⟩)),(.pointer (some ⟨zG,0,none⟩))])),(⟨#[42]⟩,(.func (.func 56) #[] #[(.pointer (some ⟨zF,0,none⟩)),(.pointer (some ⟨zG,0,none⟩))])),(⟨#[47]⟩,(.func (.func 57) #[] #[(.pointer (some ⟨zF,0,none⟩)),(.pointer (some ⟨zG,0,none⟩))]))],stb z4o 30 [(.int .i64 0),(.int .i64 0)],stb zG 30 [(.int .i64 z12.fN),(.int .i64 z12.fD)],stb zF 30 [(.int .i64 z11.fN),(.int .i64 z11.fD)]]) (B:=[stb zF 30 [(.int .i64 z11.fN),(.int .i64 z11.fD)],stb zG 30 [(.int .i64 z12.fN),(.int .i64 z12.fD)]]) (fun _ hx'=>((.cons .h3 (.cons .h2 .nil)) : Sel _ [stb zF 30 [(.int .i64 z11.fN),(.int .i64 z11.fD)],stb zG 30 [(.int .i64 z12.fN),(.int .i64 z12.fD)]] _).mem hx'); exact ya0 (Z:=_) (zfv:=⟨zF,0,none⟩) (zfw:=⟨zG,0,none⟩) (zbl:=z11) (zbm:=z12) (r:=zdU) w pz ((hw.lent (.nil : Sel [yK z7G Value.string (fun x=>x) [(⟨#[43]⟩,(.func (.func 54) #[] #[(.pointer (some ⟨zF,0,none⟩)),(.pointer (some ⟨zG,0,none⟩))])),(⟨#[45]⟩,(.func (.func 55) #[] #[(.pointer (some ⟨zF,0,none⟩)),(.pointer (some ⟨zG,0,none⟩))])),(⟨#[42]⟩,(.func (.func 56) #[] #[(.pointer (some ⟨zF,0,none⟩)),(.pointer (some ⟨zG,0,none⟩))])),(⟨#[47]⟩,(.func (.func 57) #[] #[(.pointer (some ⟨zF,0,none⟩)),(.pointer (some ⟨zG,0,none⟩))]))],stb z4o 30 [(.int .i64 0),(.int .i64 0)],stb zG 30 [(.int .i64 z12.fN),(.int .i64 z12.fD)],stb zF 30 [(.int .i64 z11.fN),(.int .i64 z11.fD)]] [] [yK z7G Value.string (fun x=>x) [(⟨#[43]⟩,(.func (.func 54) #[] #[(.pointer (some ⟨zF,0,none⟩)),(.pointer (some ⟨zG,0,none⟩))])),(⟨#[45]⟩,(.func (.func 55) #[] #[(.pointer (some ⟨zF,0,none⟩)),(.pointer (some ⟨zG,0,none⟩))])),(⟨#[42]⟩,(.func (.func 56) #[] #[(.pointer (some ⟨zF,0,none⟩)),(.pointer (some ⟨zG,0,none⟩))])),(⟨#[47]⟩,(.func (.func 57) #[] #[(.pointer (some ⟨zF,0,none⟩)),(.pointer (some ⟨zG,0,none⟩))]))],stb z4o 30 [(.int .i64 0),(.int .i64 0)],stb zG 30 [(.int .i64 z12.fN),(.int .i64 z12.fD)],stb zF 30 [(.int .i64 z11.fN),(.int .i64 z11.fD)]]) (B:=[stb zF 30 [(.int .i64 z11.fN),(.int .i64 z11.fD)],stb zG 30 [(.int .i64 z12.fN),(.int .i64 z12.fD)]]) (fun _ hx'=>((.cons .h3 (.cons .h2 .nil)) : Sel _ [stb zF 30 [(.int .i64 z11.fN),(.int .i64 z11.fD)],stb zG 30 [(.int .i64 z12.fN),(.int .i64 z12.fD)]] _).mem hx') (.head _) _).stb) ((hw.lent (.nil : Sel [yK z7G Value.string (fun x=>x) [(⟨#[43]⟩,(.func (.func 54) #[] #[(.pointer (some ⟨zF,0,none⟩)),(.pointer (some ⟨zG,0,none⟩))])),(⟨#[45]⟩,(.func (.func 55) #[] #[(.pointer (some ⟨zF,0,none⟩)),(.pointer (some ⟨zG,0,none⟩))])),(⟨#[42]⟩,(.func (.func 56) #[] #[(.pointer (some ⟨zF,0,none⟩)),(.pointer (some ⟨zG,0,none⟩))])),(⟨#[47]⟩,(.func (.func 57) #[] #[(.pointer (some ⟨zF,0,none⟩)),(.pointer (some ⟨zG,0,none⟩))]))],stb z4o 30 [(.int .i64 0),(.int .i64 0)],stb zG 30 [(.int .i64 z12.fN),(.int .i64 z12.fD)],stb zF 30 [(.int .i64 z11.fN),(.int .i64 z11.fD)]] [] [yK z7G Value.string (fun x=>x) [(⟨#[43]⟩,(.func (.func 54) #[] #[(.pointer (some ⟨zF,0,none⟩)),(.pointer (some ⟨zG,0,none⟩))])),(⟨#[45]⟩,(.func (.func 55) #[] #[(.pointer (some ⟨zF,0,none⟩)),(.pointer (some ⟨zG,0,none⟩))])),(⟨#[42]⟩,(.func (.func 56) #[] #[(.pointer (some ⟨zF,0,none⟩)),(.pointer (some ⟨zG,0,none⟩))])),(⟨#[47]⟩,(.func (.func 57) #[] #[(.pointer (some ⟨zF,0,none⟩)),(.pointer (some ⟨zG,0,none⟩))]))],stb z4o 30 [(.int .i64 0),(.int .i64 0)],stb zG 30 [(.int .i64 z12.fN),(.int .i64 z12.fD)],stb zF 30 [(.int .i64 z11.fN),(.int .i64 z11.fD)]]) (B:=[stb zF 30 [(.int .i64 z11.fN),(.int .i64 z11.fD)],stb zG 30 [(.int .i64 z12.fN),(.int .i64 z12.fD)]]) (fun _ hx'=>((.cons .h3 (.cons .h2 .nil)) : Sel _ [stb zF 30 [(.int .i64 z11.fN),(.int .i64 z11.fD)],stb zG 30 [(.int .i64 z12.fN),(.int .i64 z12.fD)]] _).mem hx') (.tail _ (.head _)) _).stb) ztV) ?_
    refine WL.a (d:=37) rfl rfl rfl (yf rfl rfl) ?_
    refine WL.a (d:=38) rfl rfl rfl (yf rfl rfl) ?_
    refine WL.b (dd:=39) rfl rfl rfl (zj (l:=[.tmp 37,.tmp 38]) Try.call9 (.cons rfl (.cons rfl .nil))) (.nil : Sel [yK z7G Value.string (fun x=>x) [(⟨#[43]⟩,(.func (.func 54) #[] #[(.pointer (some ⟨zF,0,none⟩)),(.pointer (some ⟨zG,0,none⟩))])),(⟨#[45]⟩,(.func (.func 55) #[] #[(.pointer (some ⟨zF,0,none⟩)),(.pointer (some ⟨zG,0,none⟩))])),(⟨#[42]⟩,(.func (.func 56) #[] #[(.pointer (some ⟨zF,0,none⟩)),(.pointer (some ⟨zG,0,none⟩))])),(⟨#[47]⟩,(.func (.func 57) #[] #[(.pointer (some ⟨zF,0,none⟩)),(.pointer (some ⟨zG,0,none⟩))]))],stb z4o 30 [(.int .i64 0),(.int .i64 0)],stb zG 30 [(.int .i64 z12.fN),(.int .i64 z12.fD)],stb zF 30 [(.int .i64 z11.fN),(.int .i64 z11.fD)]] [] [yK z7G Value.string (fun x=>x) [(⟨#[43]⟩,(.func (.func 54) #[] #[(.pointer (some ⟨zF,0,none⟩)),(.pointer (some ⟨zG,0,none⟩))])),(⟨#[45]⟩,(.func (.func 55) #[] #[(.pointer (some ⟨zF,0,none⟩)),(.pointer (some ⟨zG,0,none⟩))])),(⟨#[42]⟩,(.func (.func 56) #[] #[(.pointer (some ⟨zF,0,none⟩)),(.pointer (some ⟨zG,0,none⟩))])),(⟨#[47]⟩,(.func (.func 57) #[] #[(.pointer (some ⟨zF,0,none⟩)),(.pointer (some ⟨zG,0,none⟩))]))],stb z4o 30 [(.int .i64 0),(.int .i64 0)],stb zG 30 [(.int .i64 z12.fN),(.int .i64 z12.fD)],stb zF 30 [(.int .i64 z11.fN),(.int .i64 z11.fD)]]) (fun w hw=>by have pz:=(hz.call hw (.nil : Sel [yK z7G Value.string (fun x=>x) [(⟨#[43]⟩,(.func (.func 54) #[] #[(.pointer (some ⟨zF,0,none⟩)),(.pointer (some ⟨zG,0,none⟩))])),(⟨#[45]⟩,(.func (.func 55) #[] #[(.pointer (some ⟨zF,0,none⟩)),(.pointer (some ⟨zG,0,none⟩))])),(⟨#[42]⟩,(.func (.func 56) #[] #[(.pointer (some ⟨zF,0,none⟩)),(.pointer (some ⟨zG,0,none⟩))])),(⟨#[47]⟩,(.func (.func 57) #[] #[(.pointer (some ⟨zF,0,none⟩)),(.pointer (some ⟨zG,0,none⟩))]))],stb z4o 30 [(.int .i64 0),(.int .i64 0)],stb zG 30 [(.int .i64 z12.fN),(.int .i64 z12.fD)],stb zF 30 [(.int .i64 z11.fN),(.int .i64 z11.fD)]] [] [yK z7G Value.string (fun x=>x) [(⟨#[43]⟩,(.func (.func 54) #[] #[(.pointer (some ⟨zF,0,none⟩)),(.pointer (some ⟨zG,0,none⟩))])),(⟨#[45]⟩,(.func (.func 55) #[] #[(.pointer (some ⟨zF,0,none⟩)),(.pointer (some ⟨zG,0,none⟩))])),(⟨#[42]⟩,(.func (.func 56) #[] #[(.pointer (some ⟨zF,0,none⟩)),(.pointer (some ⟨zG,0,none⟩))])),(⟨#[47]⟩,(.func (.func 57) #[] #[(.pointer (some ⟨zF,0,none⟩)),(.pointer (some ⟨zG,0,none⟩))]))],stb z4o 30 [(.int .i64 0),(.int .i64 0)],stb zG 30 [(.int .i64 z12.fN),(.int .i64 z12.fD)],stb zF 30 [(.int .i64 z11.fN),(.int .i64 z11.fD)]])); exact y51 (Z:=_)  (z7F:=zdU.1) (z7m:=zdU.2) (r:=zbn) w pz  ztW) ?_
    refine WL.a (d:=40) rfl rfl rfl (yf rfl rfl) ?_
    refine WL.a (d:=41) rfl rfl rfl (yf rfl rfl) ?_
    refine WL.yb rfl rfl (yc (vs:=[(.int .i64 zbn.1.fN),(.int .i64 zbn.1.fD)]) (ds:=[(.int .i64 zbn.1.fN),(.int .i64 zbn.1.fD)]) yo rfl rfl rfl rfl (y2 rfl (y2 rfl yk)) .h1 (Nat.le_of_ble_eq_true rfl) rfl) ?_
    refine WL.a (d:=7) rfl rfl rfl (q_z rfl) ?_
    refine WL.nil ?_
    refine WX.a ?_
    refine WC.ret ?_
    obtain rfl:=Option.some.inj h
    refine WX.y7 Try.results40 (.agg rfl y5 rfl (y8 .here) (.tmp rfl .nil)) (fun w hw=>?_)
    exact ⟨y1M rfl rfl,hw.sub .nil⟩
def y1N (z49 : z7) (z4a : z7) : Option (z7 × Int) :=
 (y6Z z49 z4a).bind fun zbo=>some (zbo.1,zbo.2)
set_option maxRecDepth 20000 in
theorem y5n (Z : Zp)   (z49 : z7) (z4a : z7) (r : z7 × Int) (w₀ : World) (hz : PZ [] w₀ Z)
  (h : y1N z49 z4a = some r) :
  Calls Try.prog 24 #[(.agg #[(.int .i64 z49.fN),(.int .i64 z49.fD)]),(.agg #[(.int .i64 z4a.fN),(.int .i64 z4a.fD)])] w₀ fun e w'=>e = .returned (.tuple #[(.agg #[(.int .i64 r.1.fN),(.int .i64 r.1.fD)]),(.int .i64 r.2)]) ∧ Hp [] w₀ w' []:=by
 unfold y1N at h
 refine Calls.yd (vs:=[(.agg #[(.int .i64 z49.fN),(.int .i64 z49.fD)]),(.agg #[(.int .i64 z4a.fN),(.int .i64 z4a.fD)])]) (pre:=[]) (env:=[(0,(.agg #[(.int .i64 z49.fN),(.int .i64 z49.fD)])),(1,(.agg #[(.int .i64 z4a.fN),(.int .i64 z4a.fD)]))]) Try.func24 rfl Try.ntmps24 rfl (Hp.nil w₀ _) rfl ?_
 refine WC.b ?_
 refine WC.a ?_
 refine WL.new (dd:=2) rfl rfl rfl (yI (cs:=[(.int .i64 z49.fN),(.int .i64 z49.fD)]) rfl rfl) ?_
 intro zhm _
 refine WL.new (dd:=3) rfl rfl rfl (yI (cs:=[(.int .i64 z4a.fN),(.int .i64 z4a.fD)]) rfl rfl) ?_
 intro zhn _
 refine WL.new (dd:=4) rfl rfl rfl (ym (cs:=[(.int .i64 0),(.int .i64 0)]) yt rfl) ?_
 intro zho _
 refine WL.a (d:=5) rfl rfl rfl (q_z rfl) ?_
 refine WL.nil ?_
 refine WX.a ?_
 refine WC.b ?_
 obtain ⟨zbo,ztX,h⟩:=ze h
 refine WC.a ?_
 refine WL.a (d:=6) rfl rfl rfl (y4 (cs:=[(.int .i64 z49.fN),(.int .i64 z49.fD)]) y5 rfl rfl (y8 .h2)) ?_
 refine WL.a (d:=7) rfl rfl rfl (y4 (cs:=[(.int .i64 z4a.fN),(.int .i64 z4a.fD)]) y5 rfl rfl (y8 .h1)) ?_
 refine WL.b (dd:=8) rfl rfl rfl (zj (l:=[.const (.string ⟨#[45]⟩),.tmp 6,.tmp 7]) Try.call40 (.cons rfl (.cons rfl (.cons rfl .nil)))) (.nil : Sel [stb zho 30 [(.int .i64 0),(.int .i64 0)],stb zhn 30 [(.int .i64 z4a.fN),(.int .i64 z4a.fD)],stb zhm 30 [(.int .i64 z49.fN),(.int .i64 z49.fD)]] [] [stb zho 30 [(.int .i64 0),(.int .i64 0)],stb zhn 30 [(.int .i64 z4a.fN),(.int .i64 z4a.fD)],stb zhm 30 [(.int .i64 z49.fN),(.int .i64 z49.fD)]]) (fun w hw=>by have pz:=(hz.call hw (.nil : Sel [stb zho 30 [(.int .i64 0),(.int .i64 0)],stb zhn 30 [(.int .i64 z4a.fN),(.int .i64 z4a.fD)],stb zhm 30 [(.int .i64 z49.fN),(.int .i64 z49.fD)]] [] [stb zho 30 [(.int .i64 0),(.int .i64 0)],stb zhn 30 [(.int .i64 z4a.fN),(.int .i64 z4a.fD)],stb zhm 30 [(.int .i64 z49.fN),(.int .i64 z49.fD)]])); exact w_rat_do (Z:=_)  (z11:=z49) (z12:=z4a) (r:=zbo) w pz  ztX) ?_
 refine WL.a (d:=9) rfl rfl rfl (yf rfl rfl) ?_
 refine WL.a (d:=10) rfl rfl rfl (yf rfl rfl) ?_
 refine WL.yb rfl rfl (yc (vs:=[(.int .i64 zbo.1.fN),(.int .i64 zbo.1.fD)]) (ds:=[(.int .i64 zbo.1.fN),(.int .i64 zbo.1.fD)]) yo rfl rfl rfl rfl (y2 rfl (y2 rfl yk)) .here (Nat.le_of_ble_eq_true rfl) rfl) ?_
 refine WL.a (d:=5) rfl rfl rfl (q_z rfl) ?_
 refine WL.nil ?_
 refine WX.a ?_
 refine WC.ret ?_
 obtain rfl:=Option.some.inj h
 refine WX.y7 Try.results24 (.agg rfl y5 rfl (y8 .here) (.tmp rfl .nil)) (fun w hw=>?_)
 exact ⟨y1M rfl rfl,hw.sub .nil⟩
def y1j (z7H : z2h) (zal : z7 → z7 → Option (z7 × Int)) (z5W : z7) (z5X : z7) : Option (z7 × z2h) :=
 if decide (z7H.fE ≠ 0) then some ((⟨0,0⟩ : z7),z7H) else (zal z5W z5X).bind fun z75=>some (z75.1,(⟨z75.2⟩ : z2h))
set_option maxRecDepth 20000 in
theorem y3l (Z : Zp)  (z7I : Nat) (z8p : FuncId) (z9r : List Value) (z7H : z2h) (zal : z7 → z7 → Option (z7 × Int)) (z5W : z7) (z5X : z7) (r : z7 × z2h) (w₀ : World) (hz : PZ (fps [stb z7I 90 [(.int .i64 z7H.fE)]]) w₀ Z)
  (ztY : ∀ args w,(callFunc z8p args).run Try.prog w = .ok (.enter z8p args) w)
  (ztZ : ∀ w : World,PZ [] w Z → ∀ (x0 : z7) (x1 : z7) (r : z7 × Int),zal x0 x1 = some r → Calls Try.prog z8p (([(.agg #[(.int .i64 x0.fN),(.int .i64 x0.fD)]),(.agg #[(.int .i64 x1.fN),(.int .i64 x1.fD)])] : List Value) ++ z9r).toArray w fun e w'=>e = .returned (.tuple #[(.agg #[(.int .i64 r.1.fN),(.int .i64 r.1.fD)]),(.int .i64 r.2)]) ∧ Hp [] w w' [])
  (h : y1j z7H zal z5W z5X = some r)
  (hown : Hp (fps [stb z7I 90 [(.int .i64 z7H.fE)]]) w₀ w₀ [stb z7I 90 [(.int .i64 z7H.fE)]]) :
  Calls Try.prog 58 #[(.pointer (some ⟨z7I,0,none⟩)),(.func (.func z8p) #[] (z9r).toArray),(.agg #[(.int .i64 z5W.fN),(.int .i64 z5W.fD)]),(.agg #[(.int .i64 z5X.fN),(.int .i64 z5X.fD)])] w₀ fun e w'=>e = .returned (.agg #[(.int .i64 r.1.fN),(.int .i64 r.1.fD)]) ∧ Hp (fps [stb z7I 90 [(.int .i64 z7H.fE)]]) w₀ w' [stb z7I 90 [(.int .i64 r.2.fE)]]:=by
 unfold y1j at h
 refine Calls.yd (vs:=[(.pointer (some ⟨z7I,0,none⟩)),(.func (.func z8p) #[] (z9r).toArray),(.agg #[(.int .i64 z5W.fN),(.int .i64 z5W.fD)]),(.agg #[(.int .i64 z5X.fN),(.int .i64 z5X.fD)])]) (pre:=[stb z7I 90 [(.int .i64 z7H.fE)]]) (env:=[(0,(.pointer (some ⟨z7I,0,none⟩))),(1,(.func (.func z8p) #[] (z9r).toArray)),(2,(.agg #[(.int .i64 z5W.fN),(.int .i64 z5W.fD)])),(3,(.agg #[(.int .i64 z5X.fN),(.int .i64 z5X.fD)]))]) Try.func58 rfl Try.ntmps58 rfl (hown) rfl ?_
 refine WC.b ?_
 refine WC.a ?_
 refine WL.new (dd:=6) rfl rfl rfl (yI (cs:=[(.int .i64 z5W.fN),(.int .i64 z5W.fD)]) rfl rfl) ?_
 intro zAX _
 refine WL.new (dd:=7) rfl rfl rfl (yI (cs:=[(.int .i64 z5X.fN),(.int .i64 z5X.fD)]) rfl rfl) ?_
 intro zAY _
 refine WL.new (dd:=8) rfl rfl rfl (ym (cs:=[(.int .i64 0),(.int .i64 0)]) yt rfl) ?_
 intro zAZ _
 refine WL.nil ?_
 refine WX.a ?_
 refine WC.b ?_
 refine WC.b ?_
 refine WC.a ?_
 refine WL.a (d:=11) rfl rfl rfl (q_m rfl) ?_
 refine WL.a (d:=12) rfl rfl rfl (y4f rfl) ?_
 refine WL.a (d:=13) rfl rfl rfl (y3 y5U rfl rfl) ?_
 refine WL.a (d:=14) rfl rfl rfl (ya y2K rfl (yv .h3 rfl)) ?_
 refine WL.a (d:=15) rfl rfl rfl (y2G rfl rfl) ?_
 refine WL.nil ?_
 refine WX.a ?_
 refine WC.cond rfl (fun zkx=>?_) (fun zkx=>?_)
 ·replace h:=yh h zkx
  refine WC.b ?_
  refine WC.a ?_
  refine WL.a (d:=16) rfl rfl rfl (y1g (v:=(.agg #[(.int .i64 0),(.int .i64 0)])) (Eos.parts (l:=[]) .nil []) (fun _=>by kernel_rfl)) ?_
  refine WL.yb rfl rfl (yc (vs:=[(.int .i64 0),(.int .i64 0)]) (ds:=[(.int .i64 0),(.int .i64 0)]) yo rfl rfl rfl rfl (y2 rfl (y2 rfl yk)) .here (Nat.le_of_ble_eq_true rfl) rfl) ?_
  refine WL.nil ?_
  refine WX.a ?_
  refine WC.ret ?_
  refine WX.y6 ?_
  obtain rfl:=Option.some.inj h
  refine WX.y7 Try.results58 (.agg rfl y5 rfl (y8 .here) .nil) (fun w hw=>?_)
  exact ⟨yD rfl,hw.sub (.cons .h3 .nil)⟩
 ·replace h:=yi h zkx
  refine WC.skip ?_
  refine WX.a ?_
  refine WC.b ?_
  obtain ⟨z75,zu0,h⟩:=ze h
  refine WC.a ?_
  refine WL.a (d:=18) rfl rfl rfl (q_m rfl) ?_
  refine WL.a (d:=19) rfl rfl rfl (y4 (cs:=[(.int .i64 z5W.fN),(.int .i64 z5W.fD)]) y5 rfl rfl (y8 .h2)) ?_
  refine WL.a (d:=20) rfl rfl rfl (y4 (cs:=[(.int .i64 z5X.fN),(.int .i64 z5X.fD)]) y5 rfl rfl (y8 .h1)) ?_
  refine WL.b (dd:=21) rfl rfl rfl (y2C (l:=[.tmp 19,.tmp 20]) (f:=z8p) (caps:=z9r) ztY rfl (.cons rfl (.cons rfl .nil))) .nil (fun w hw=>ztZ w (hz.now hw) z5W z5X z75  zu0) ?_
  refine WL.a (d:=17) rfl rfl rfl (q_m rfl) ?_
  refine WL.a (d:=22) rfl rfl rfl (yf rfl rfl) ?_
  refine WL.a (d:=23) rfl rfl rfl (yf rfl rfl) ?_
  refine WL.new (dd:=9) rfl rfl rfl (ym (cs:=[(.int .i64 0),(.int .i64 0)]) yt rfl) ?_
  intro zB0 _
  refine WL.yb rfl rfl (yc (vs:=[(.int .i64 z75.1.fN),(.int .i64 z75.1.fD)]) (ds:=[(.int .i64 z75.1.fN),(.int .i64 z75.1.fD)]) yo rfl rfl rfl rfl (y2 rfl (y2 rfl yk)) .here (Nat.le_of_ble_eq_true rfl) rfl) ?_
  refine WL.a (d:=10) rfl rfl rfl (q_z rfl) ?_
  refine WL.nil ?_
  refine WX.a ?_
  refine WC.b ?_
  refine WC.a ?_
  refine WL.a (d:=24) rfl rfl rfl (q_m rfl) ?_
  refine WL.a (d:=25) rfl rfl rfl (q_m rfl) ?_
  refine WL.a (d:=26) rfl rfl rfl (y4f rfl) ?_
  refine WL.a (d:=27) rfl rfl rfl (y3 y5U rfl rfl) ?_
  refine WL.yb rfl rfl (yc (vs:=[(.int .i64 z75.2)]) (ds:=[(.int .i64 z75.2)]) y8g rfl rfl rfl rfl (y2 rfl yk) .h4 (Nat.le_of_ble_eq_true rfl) rfl) ?_
  refine WL.nil ?_
  refine WX.a ?_
  refine WC.b ?_
  refine WC.a ?_
  refine WL.a (d:=28) rfl rfl rfl (y4 (cs:=[(.int .i64 z75.1.fN),(.int .i64 z75.1.fD)]) y5 rfl rfl (y8 .h1)) ?_
  refine WL.yb rfl rfl (yc (vs:=[(.int .i64 z75.1.fN),(.int .i64 z75.1.fD)]) (ds:=[(.int .i64 z75.1.fN),(.int .i64 z75.1.fD)]) yo rfl rfl rfl rfl (y2 rfl (y2 rfl yk)) .h2 (Nat.le_of_ble_eq_true rfl) rfl) ?_
  refine WL.nil ?_
  refine WX.a ?_
  refine WC.ret ?_
  obtain rfl:=Option.some.inj h
  refine WX.y7 Try.results58 (.agg rfl y5 rfl (y8 .here) .nil) (fun w hw=>?_)
  exact ⟨yD rfl,hw.sub (.cons .h1 .nil)⟩
def y5G (zct : z7) (zcu : z7) : Option (Int × Int) :=
 some ((i64 (zct.fN * zcu.fD)),(i64 (zct.fD * zcu.fN)))
set_option maxRecDepth 20000 in
theorem ya1 (Z : Zp)  (zfz : Addr) (zfA : Addr) (zct : z7) (zcu : z7) (r : Int × Int) (w₀ : World) (hz : PZ [] w₀ Z)
  (zpp : ZC Z zfz [(.int .i64 zct.fN),(.int .i64 zct.fD)])
  (zpq : ZC Z zfA [(.int .i64 zcu.fN),(.int .i64 zcu.fD)])
  (h : y5G zct zcu = some r) :
  Calls Try.prog 57 #[(.pointer (some zfz)),(.pointer (some zfA))] w₀ fun e w'=>e = .returned (.tuple #[(.int .i64 r.1),(.int .i64 r.2)]) ∧ Hp [] w₀ w' []:=by
 unfold y5G at h
 refine Calls.yd (vs:=[(.pointer (some zfz)),(.pointer (some zfA))]) (pre:=[]) (env:=[(0,(.pointer (some zfz))),(1,(.pointer (some zfA)))]) Try.func57 rfl Try.ntmps57 rfl (Hp.nil w₀ _) rfl ?_
 refine WC.b ?_
 refine WC.a ?_
 refine WL.a (d:=2) rfl rfl rfl (q_z rfl) ?_
 refine WL.a (d:=3) rfl rfl rfl (q_z rfl) ?_
 refine WL.nil ?_
 refine WX.a ?_
 refine WC.b ?_
 refine WC.yY (fun i=>[].contains i) [] rfl ?_
 refine WD.a (i:=0) (d:=4) (by kernel_rfl) rfl (z8 (by kernel_rfl)) (za (by kernel_rfl)) rfl rfl rfl (fun _=>y3 y1Q rfl rfl) ?_
 refine WD.e (i:=1) (d:=5) (by kernel_rfl) rfl (z8 (by kernel_rfl)) (za (by kernel_rfl)) rfl rfl rfl (ya yw rfl (y1J hz.pv zpp rfl)) ?_
 refine WD.a (i:=2) (d:=6) (by kernel_rfl) rfl (z8 (by kernel_rfl)) (za (by kernel_rfl)) rfl rfl rfl (fun _=>y3 y24 rfl rfl) ?_
 refine WD.e (i:=3) (d:=7) (by kernel_rfl) rfl (z8 (by kernel_rfl)) (za (by kernel_rfl)) rfl rfl rfl (ya yw rfl (y1J hz.pv zpq rfl)) ?_
 refine WD.a (i:=4) (d:=8) (by kernel_rfl) rfl (z8 (by kernel_rfl)) (za (by kernel_rfl)) rfl rfl rfl (fun _=>y3t rfl rfl rfl) ?_
 refine WD.a (i:=5) (d:=9) (by kernel_rfl) rfl (z8 (by kernel_rfl)) (za (by kernel_rfl)) rfl rfl rfl (fun _=>y3 y24 rfl rfl) ?_
 refine WD.e (i:=6) (d:=10) (by kernel_rfl) rfl (z8 (by kernel_rfl)) (za (by kernel_rfl)) rfl rfl rfl (ya yw rfl (y1J hz.pv zpp rfl)) ?_
 refine WD.a (i:=7) (d:=11) (by kernel_rfl) rfl (z8 (by kernel_rfl)) (za (by kernel_rfl)) rfl rfl rfl (fun _=>y3 y1Q rfl rfl) ?_
 refine WD.e (i:=8) (d:=12) (by kernel_rfl) rfl (z8 (by kernel_rfl)) (za (by kernel_rfl)) rfl rfl rfl (ya yw rfl (y1J hz.pv zpq rfl)) ?_
 refine WD.a (i:=9) (d:=13) (by kernel_rfl) rfl (z8 (by kernel_rfl)) (za (by kernel_rfl)) rfl rfl rfl (fun _=>y3t rfl rfl rfl) ?_
 refine WD.a (i:=10) (d:=2) (by kernel_rfl) rfl (z8 (by kernel_rfl)) (za (by kernel_rfl)) rfl rfl rfl (fun _=>q_z rfl) ?_
 refine WD.a (i:=11) (d:=3) (by kernel_rfl) rfl (z8 (by kernel_rfl)) (za (by kernel_rfl)) rfl rfl rfl (fun _=>q_z rfl) ?_
 refine WD.done (by kernel_rfl) ?_
 refine WX.a ?_
 refine WC.ret ?_
 obtain rfl:=Option.some.inj h
 refine WX.y7 Try.results57 (.tmp rfl (.tmp rfl .nil)) (fun w hw=>?_)
 exact ⟨y1M rfl rfl,hw.sub .nil⟩
def y6q (z13 : z7) (zV : z7) : Option (z7 × Int) :=
 (y1f z13).bind fun zhp=>(if !zhp then some true else (y1f zV).bind fun zky=>some (!zky)).bind fun zfB=>if zfB || (decide (zV.fN = 0)) then some ((⟨0,0⟩ : z7),2) else (y5G z13 zV).bind fun zdV=>(y2Q zdV.1 zdV.2).bind fun zbp=>some (zbp.1,zbp.2)
set_option maxRecDepth 20000 in
theorem yan (Z : Zp)   (z13 : z7) (zV : z7) (r : z7 × Int) (w₀ : World) (hz : PZ [] w₀ Z)
  (h : y6q z13 zV = some r) :
  Calls Try.prog 40 #[(.string ⟨#[47]⟩),(.agg #[(.int .i64 z13.fN),(.int .i64 z13.fD)]),(.agg #[(.int .i64 zV.fN),(.int .i64 zV.fD)])] w₀ fun e w'=>e = .returned (.tuple #[(.agg #[(.int .i64 r.1.fN),(.int .i64 r.1.fD)]),(.int .i64 r.2)]) ∧ Hp [] w₀ w' []:=by
 unfold y6q at h
 refine Calls.yd (vs:=[(.string ⟨#[47]⟩),(.agg #[(.int .i64 z13.fN),(.int .i64 z13.fD)]),(.agg #[(.int .i64 zV.fN),(.int .i64 zV.fD)])]) (pre:=[]) (env:=[(0,(.string ⟨#[47]⟩)),(1,(.agg #[(.int .i64 z13.fN),(.int .i64 z13.fD)])),(2,(.agg #[(.int .i64 zV.fN),(.int .i64 zV.fD)]))]) Try.func40 rfl Try.ntmps40 rfl (Hp.nil w₀ _) rfl ?_
 refine WC.b ?_
 refine WC.a ?_
 refine WL.new (dd:=4) rfl rfl rfl (yI (cs:=[(.int .i64 z13.fN),(.int .i64 z13.fD)]) rfl rfl) ?_
 intro zH _
 refine WL.new (dd:=5) rfl rfl rfl (yI (cs:=[(.int .i64 zV.fN),(.int .i64 zV.fD)]) rfl rfl) ?_
 intro zI _
 refine WL.new (dd:=6) rfl rfl rfl (ym (cs:=[(.int .i64 0),(.int .i64 0)]) yt rfl) ?_
 intro z4p _
 refine WL.a (d:=7) rfl rfl rfl (q_z rfl) ?_
 refine WL.nil ?_
 refine WX.a ?_
 refine WC.b ?_
 refine WC.b ?_
 obtain ⟨zhp,zu1,h⟩:=ze h
 obtain ⟨zfB,zpr,h⟩:=ze h
 refine WC.a ?_
 refine WL.a (d:=9) rfl rfl rfl (y4 (cs:=[(.int .i64 z13.fN),(.int .i64 z13.fD)]) y5 rfl rfl (y8 .h2)) ?_
 refine WL.b (dd:=10) rfl rfl rfl (zj (l:=[.tmp 9]) Try.call39 (.cons rfl .nil)) (.nil : Sel [stb z4p 30 [(.int .i64 0),(.int .i64 0)],stb zI 30 [(.int .i64 zV.fN),(.int .i64 zV.fD)],stb zH 30 [(.int .i64 z13.fN),(.int .i64 z13.fD)]] [] [stb z4p 30 [(.int .i64 0),(.int .i64 0)],stb zI 30 [(.int .i64 zV.fN),(.int .i64 zV.fD)],stb zH 30 [(.int .i64 z13.fN),(.int .i64 z13.fD)]]) (fun w hw=>by have pz:=(hz.call hw (.nil : Sel [stb z4p 30 [(.int .i64 0),(.int .i64 0)],stb zI 30 [(.int .i64 zV.fN),(.int .i64 zV.fD)],stb zH 30 [(.int .i64 z13.fN),(.int .i64 z13.fD)]] [] [stb z4p 30 [(.int .i64 0),(.int .i64 0)],stb zI 30 [(.int .i64 zV.fN),(.int .i64 zV.fD)],stb zH 30 [(.int .i64 z13.fN),(.int .i64 z13.fD)]])); exact y1G (Z:=_)  (z1b:=z13) (r:=zhp) w pz  zu1) ?_
 refine WL.a (d:=11) rfl rfl rfl (y1m rfl) ?_
 refine WL.a (d:=12) rfl rfl rfl (q_m rfl) ?_
 refine WL.yN True [(0,(.string ⟨#[47]⟩)),(4,(.pointer (some ⟨zH,0,none⟩))),(5,(.pointer (some ⟨zI,0,none⟩))),(6,(.pointer (some ⟨z4p,0,none⟩))),(16,(.bool zfB))] [stb z4p 30 [(.int .i64 0),(.int .i64 0)],stb zI 30 [(.int .i64 zV.fN),(.int .i64 zV.fD)],stb zH 30 [(.int .i64 z13.fN),(.int .i64 z13.fD)]] 4 ?_ (fun _=>?_)
 ·rcases Bool.eq_false_or_eq_true (!zhp) with hb' | hb'
  ·have zps:=hb'; clear hb'
   have zkz:=yh zpr zps
   replace zkz:=Option.some.inj zkz
   refine WL.pin (i:=12) rfl zps ?_
   refine WL.e rfl rfl rfl ?_
   refine WL.e rfl rfl rfl ?_
   refine WL.e rfl rfl rfl ?_
   refine WL.a (d:=16) rfl rfl rfl (ys rfl rfl) ?_
   exact WL.y9 () trivial (.cons rfl (.cons rfl (.cons rfl (.cons rfl (.cons (zr zkz) .nil))))) (.cons .here (.cons .here (.cons .here .nil)))
  ·have zpt:=hb'; clear hb'
   have zfC:=yi zpr zpt
   obtain ⟨zky,zu2,zfC⟩:=ze zfC
   replace zfC:=Option.some.inj zfC
   refine WL.pin (i:=12) rfl zpt ?_
   refine WL.a (d:=13) rfl rfl rfl (y4 (cs:=[(.int .i64 zV.fN),(.int .i64 zV.fD)]) y5 rfl rfl (y8 .h1)) ?_
   refine WL.b (dd:=14) rfl rfl rfl (zj (l:=[.tmp 13]) Try.call39 (.cons rfl .nil)) (.nil : Sel [stb z4p 30 [(.int .i64 0),(.int .i64 0)],stb zI 30 [(.int .i64 zV.fN),(.int .i64 zV.fD)],stb zH 30 [(.int .i64 z13.fN),(.int .i64 z13.fD)]] [] [stb z4p 30 [(.int .i64 0),(.int .i64 0)],stb zI 30 [(.int .i64 zV.fN),(.int .i64 zV.fD)],stb zH 30 [(.int .i64 z13.fN),(.int .i64 z13.fD)]]) (fun w hw=>by have pz:=(hz.call hw (.nil : Sel [stb z4p 30 [(.int .i64 0),(.int .i64 0)],stb zI 30 [(.int .i64 zV.fN),(.int .i64 zV.fD)],stb zH 30 [(.int .i64 z13.fN),(.int .i64 z13.fD)]] [] [stb z4p 30 [(.int .i64 0),(.int .i64 0)],stb zI 30 [(.int .i64 zV.fN),(.int .i64 zV.fD)],stb zH 30 [(.int .i64 z13.fN),(.int .i64 z13.fD)]])); exact y1G (Z:=_)  (z1b:=zV) (r:=zky) w pz  zu2) ?_
   refine WL.a (d:=15) rfl rfl rfl (y1m rfl) ?_
   refine WL.a (d:=16) rfl rfl rfl (yr rfl rfl) ?_
   exact WL.y9 () trivial (.cons rfl (.cons rfl (.cons rfl (.cons rfl (.cons (zr zfC) .nil))))) (.cons .here (.cons .here (.cons .here .nil)))
 ·skip
  refine WL.a (d:=17) rfl rfl rfl (q_m rfl) ?_
  refine WL.yN True [(0,(.string ⟨#[47]⟩)),(4,(.pointer (some ⟨zH,0,none⟩))),(5,(.pointer (some ⟨zI,0,none⟩))),(6,(.pointer (some ⟨z4p,0,none⟩))),(25,(.bool (zfB || (decide (zV.fN = 0)))))] [stb z4p 30 [(.int .i64 0),(.int .i64 0)],stb zI 30 [(.int .i64 zV.fN),(.int .i64 zV.fD)],stb zH 30 [(.int .i64 z13.fN),(.int .i64 z13.fD)]] 8 ?_ (fun _=>?_)
  ·rcases Bool.eq_false_or_eq_true zfB with hb' | hb'
   ·have zpu:=hb'; clear hb'
    refine WL.pin (i:=17) rfl zpu ?_
    refine WL.e rfl rfl rfl ?_
    refine WL.e rfl rfl rfl ?_
    refine WL.e rfl rfl rfl ?_
    refine WL.e rfl rfl rfl ?_
    refine WL.e rfl rfl rfl ?_
    refine WL.e rfl rfl rfl ?_
    refine WL.e rfl rfl rfl ?_
    refine WL.a (d:=25) rfl rfl rfl (ys rfl rfl) ?_
    exact WL.y9 () trivial (.cons rfl (.cons rfl (.cons rfl (.cons rfl (.cons (zr (y4s zpu)) .nil))))) (.cons .here (.cons .here (.cons .here .nil)))
   ·have zpv:=hb'; clear hb'
    refine WL.pin (i:=17) rfl zpv ?_
    refine WL.a (d:=18) rfl rfl rfl (q_m rfl) ?_
    refine WL.a (d:=19) rfl rfl rfl (y7y (r:=true) (by decide) rfl rfl) ?_
    refine WL.a (d:=20) rfl rfl rfl (q_m rfl) ?_
    refine WL.a (d:=21) rfl rfl rfl (y3 y1Q rfl rfl) ?_
    refine WL.a (d:=22) rfl rfl rfl (ya yw rfl (yv .h1 rfl)) ?_
    refine WL.a (d:=23) rfl rfl rfl (y4C rfl rfl) ?_
    refine WL.a (d:=24) rfl rfl rfl (ys rfl rfl) ?_
    refine WL.a (d:=25) rfl rfl rfl (yr rfl rfl) ?_
    exact WL.y9 () trivial (.cons rfl (.cons rfl (.cons rfl (.cons rfl (.cons (zr (y4t zpv)) .nil))))) (.cons .here (.cons .here (.cons .here .nil)))
  ·skip
   refine WL.nil ?_
   refine WX.a ?_
   refine WC.cond rfl (fun zkA=>?_) (fun zkA=>?_)
   ·replace h:=yh h zkA
    refine WC.b ?_
    refine WC.a ?_
    refine WL.a (d:=26) rfl rfl rfl (y1g (v:=(.agg #[(.int .i64 0),(.int .i64 0)])) (Eos.parts (l:=[]) .nil []) (fun _=>by kernel_rfl)) ?_
    refine WL.yb rfl rfl (yc (vs:=[(.int .i64 0),(.int .i64 0)]) (ds:=[(.int .i64 0),(.int .i64 0)]) yo rfl rfl rfl rfl (y2 rfl (y2 rfl yk)) .here (Nat.le_of_ble_eq_true rfl) rfl) ?_
    refine WL.a (d:=7) rfl rfl rfl (q_z rfl) ?_
    refine WL.nil ?_
    refine WX.a ?_
    refine WC.ret ?_
    refine WX.y6 ?_
    obtain rfl:=Option.some.inj h
    refine WX.y7 Try.results40 (.agg rfl y5 rfl (y8 .here) (.tmp rfl .nil)) (fun w hw=>?_)
    exact ⟨y1M rfl rfl,hw.sub .nil⟩
   ·replace h:=yi h zkA
    refine WC.skip ?_
    refine WX.a ?_
    refine WC.b ?_
    refine WC.a ?_
    refine WL.new (dd:=27) rfl rfl rfl (y6p Value.string (fun x=>x)) ?_
    intro z7J _
    refine WL.a (d:=28) rfl rfl rfl (y1d (Eos.caps (l:=[.tmp 4,.tmp 5]) (.cons rfl (.cons rfl .nil)))) ?_
    refine WL.yb rfl rfl (y2g (k:=⟨#[43]⟩) (v:=(.func (.func 54) #[] #[(.pointer (some ⟨zH,0,none⟩)),(.pointer (some ⟨zI,0,none⟩))])) y2q Try.underlying105 rfl rfl rfl rfl .here) ?_
    refine WL.a (d:=29) rfl rfl rfl (y1d (Eos.caps (l:=[.tmp 4,.tmp 5]) (.cons rfl (.cons rfl .nil)))) ?_
    refine WL.yb rfl rfl (y2g (k:=⟨#[45]⟩) (v:=(.func (.func 55) #[] #[(.pointer (some ⟨zH,0,none⟩)),(.pointer (some ⟨zI,0,none⟩))])) y2q Try.underlying105 rfl rfl rfl rfl .here) ?_
    refine WL.a (d:=30) rfl rfl rfl (y1d (Eos.caps (l:=[.tmp 4,.tmp 5]) (.cons rfl (.cons rfl .nil)))) ?_
    refine WL.yb rfl rfl (y2g (k:=⟨#[42]⟩) (v:=(.func (.func 56) #[] #[(.pointer (some ⟨zH,0,none⟩)),(.pointer (some ⟨zI,0,none⟩))])) y2q Try.underlying105 rfl rfl rfl rfl .here) ?_
    refine WL.a (d:=31) rfl rfl rfl (y1d (Eos.caps (l:=[.tmp 4,.tmp 5]) (.cons rfl (.cons rfl .nil)))) ?_
    refine WL.yb rfl rfl (y2g (k:=⟨#[47]⟩) (v:=(.func (.func 57) #[] #[(.pointer (some ⟨zH,0,none⟩)),(.pointer (some ⟨zI,0,none⟩))])) y2q Try.underlying105 rfl rfl rfl rfl .here) ?_
    refine WL.a (d:=32) rfl rfl rfl (q_m rfl) ?_
    refine WL.a (d:=8) rfl rfl rfl (q_z rfl) ?_
    refine WL.nil ?_
    refine WX.a ?_
    refine WC.b ?_
    obtain ⟨zdV,zu3,h⟩:=ze h
    obtain ⟨zbp,zu4,h⟩:=ze h
    refine WC.a ?_
    refine WL.a (d:=33) rfl rfl rfl (q_m rfl) ?_
    refine WL.a (d:=34) rfl rfl rfl (q_m rfl) ?_
    refine WL.a (d:=35) rfl rfl rfl (y7x (k:=⟨#[47]⟩) (dflt:=.nilFunc) (r:=(.func (.func 57) #[] #[(.pointer (some ⟨zH,0,none⟩)),(.pointer (some ⟨zI,0,none⟩))])) y2q Try.underlying105 zgZ rfl rfl rfl .here (by rfl)) ?_
    refine WL.b (dd:=36) rfl rfl rfl (y2C (l:=[]) Try.call57 rfl .nil) (.nil : Sel [yK z7J Value.string (fun x=>x) [(⟨#[43]⟩,(.func (.func 54) #[] #[(.pointer (some ⟨zH,0,none⟩)),(.pointer (some ⟨zI,0,none⟩))])),(⟨#[45]⟩,(.func (.func 55) #[] #[(.pointer (some ⟨zH,0,none⟩)),(.pointer (some ⟨zI,0,none⟩))])),(⟨#[42]⟩,(.func (.func 56) #[] #[(.pointer (some ⟨zH,0,none⟩)),(.pointer (some ⟨zI,0,none⟩))])),(⟨#[47]⟩,(.func (.func 57) #[] #[(.pointer (some ⟨zH,0,none⟩)),(.pointer (some ⟨zI,0,none⟩))]))],stb z4p 30 [(.int .i64 0),(.int .i64 0)],stb zI 30 [(.int .i64 zV.fN),(.int .i64 zV.fD)],stb zH 30 [(.int .i64 z13.fN),(.int .i64 z13.fD)]] [] [yK z7J Value.string (fun x=>x) [(⟨#[43]⟩,(.func (.func 54) #[] #[(.pointer (some ⟨zH,0,none⟩)),(.pointer (some ⟨zI,0,none⟩))])),(⟨#[45]⟩,(.func (.func 55) #[] #[(.pointer (some ⟨zH,0,none⟩)),(.pointer (some ⟨zI,0,none⟩))])),(⟨#[42]⟩,(.func (.func 56) #[] #[(.pointer (some ⟨zH,0,none⟩)),(.pointer (some ⟨zI,0,none⟩))])),(⟨#[47]⟩,(.func (.func 57) #[] #[(.pointer (some ⟨zH,0,none⟩)),(.pointer (some ⟨zI,0,none⟩))]))],stb z4p 30 [(.int .i64 0),(.int .i64 0)],stb zI 30 [(.int .i64 zV.fN),(.int .i64 zV.fD)],stb zH 30 [(.int .i64 z13.fN),(.int .i64 z13.fD)]]) (fun w hw=>by have pz:=(hz.call hw (.nil : Sel [yK z7J Value.string (fun x=>x) [(⟨#[43]⟩,(.func (.func 54) #[] #[(.pointer (some ⟨zH,0,none⟩)),(.pointer (some ⟨zI,0,none⟩))])),(⟨#[45]⟩,(.func (.func 55) #[] #[(.pointer (some ⟨zH,0,none⟩)),(.pointer (some ⟨zI,0,none⟩))])),(⟨#[42]⟩,(.func (.func 56) #[] #[(.pointer (some ⟨zH,0,none⟩)),(.pointer (some ⟨zI,0,none⟩))])),(⟨#[47]⟩,(.func (.func 57) #[] #[(.pointer (some ⟨zH,0,none⟩)),(.pointer (some ⟨zI,0,none⟩))]))],stb z4p 30 [(.int .i64 0),(.int .i64 0)],stb zI 30 [(.int .i64 zV.fN),(.int .i64 zV.fD)],stb zH 30 [(.int .i64 z13.fN),(.int .i64 z13.fD)]] [] [yK z7J Value.string (fun x=>x) [(⟨#[43]⟩,(.func (.func 54) #[] #[(.pointer (some ⟨zH,0,none⟩)),(.pointer (some ⟨zI,0,none⟩))])),(⟨#[45]⟩,(.func (.func 55) #[] #[(.pointer (some ⟨zH,0,none⟩)),(.pointer (some ⟨zI,0,none⟩))])),(⟨#[42]⟩,(.func (.func 56) #[] #[(.pointer (some ⟨zH,0,none⟩)),(.pointer (some ⟨zI,0,none⟩))])),(⟨#[47]⟩,(.func (.func 57) #[] #[(.pointer (some ⟨zH,0,none⟩)),(.pointer (some ⟨zI,0,none⟩))]))],stb z4p 30 [(.int .i64 0),(.int .i64 0)],stb zI 30 [(.int .i64 zV.fN),(.int .i64 zV.fD)],stb zH 30 [(.int .i64 z13.fN),(.int .i64 z13.fD)]])).lend hw (.nil : Sel [yK z7J Value.string (fun x=>x) [(⟨#[43]⟩,(.func (.func 54) #[] #[(.pointer (some ⟨zH,0,none⟩)),(.pointer (some ⟨zI,0,none⟩))])),(⟨#[45]⟩,(.func (.func 55) #[] #[(.pointer (some ⟨zH,0,none⟩)),(.pointer (some ⟨zI,0,none⟩))])),(⟨#[42]⟩,(.func (.func 56) #[] #[(.pointer (some ⟨zH,0,none⟩)),(.pointer (some ⟨zI,0,none⟩))])),(⟨#[47]⟩,(.func (.func 57) #[] #[(.pointer (some ⟨zH,0,none⟩)),(.pointer (some ⟨zI,0,none⟩))]))],stb z4p 30 [(.int .i64 0),(.int .i64 0)],stb zI 30 [(.int .i64 zV.fN),(.int .i64 zV.fD)],stb zH 30 [(.int .i64 z13.fN),(.int .i64 z13.fD)]] [] [yK z7J Value.string (fun x=>x) [(⟨#[43]⟩,(.func (.func 54) #[] #[(.pointer (some ⟨zH,0,none⟩)),(.pointer (some ⟨zI,0,none⟩))])),(⟨#[45]⟩,(.func (.func 55) #[] #[(.pointer (some ⟨zH,0,none⟩)),(.pointer (some ⟨zI,0,none⟩))])),(⟨#[42]⟩,(.func (.func 56) #[] #[(.pointer (some ⟨zH,0,none⟩)),(.pointer (some ⟨zI,0,none⟩))])),(⟨#[47]⟩,(.func (.func 57) #[] #[(.pointer (some ⟨zH,0,none⟩)),(.pointer (some ⟨zI,0,none⟩))]))],stb z4p 30 [(.int .i64 0),(.int .i64 0)],stb zI 30 [(.int .i64 zV.fN),(.int .i64 zV.fD)],stb zH 30 [(.int .i64 z13.fN),(.int .i64 z13.fD)]]) (B:=[stb zH 30 [(.int .i64 z13.fN),(.int .i64 z13.fD)],stb zI 30 [(.int .i64 zV.fN),(.int .i64 zV.fD)]]) (fun _ hx'=>((.cons .h3 (.cons .h2 .nil)) : Sel _ [stb zH 30 [(.int .i64 z13.fN),(.int .i64 z13.fD)],stb zI 30 [(.int .i64 zV.fN),(.int .i64 zV.fD)]] _).mem hx'); exact ya1 (Z:=_) (zfz:=⟨zH,0,none⟩) (zfA:=⟨zI,0,none⟩) (zct:=z13) (zcu:=zV) (r:=zdV) w pz ((hw.lent (.nil : Sel [yK z7J Value.string (fun x=>x) [(⟨#[43]⟩,(.func (.func 54) #[] #[(.pointer (some ⟨zH,0,none⟩)),(.pointer (some ⟨zI,0,none⟩))])),(⟨#[45]⟩,(.func (.func 55) #[] #[(.pointer (some ⟨zH,0,none⟩)),(.pointer (some ⟨zI,0,none⟩))])),(⟨#[42]⟩,(.func (.func 56) #[] #[(.pointer (some ⟨zH,0,none⟩)),(.pointer (some ⟨zI,0,none⟩))])),(⟨#[47]⟩,(.func (.func 57) #[] #[(.pointer (some ⟨zH,0,none⟩)),(.pointer (some ⟨zI,0,none⟩))]))],stb z4p 30 [(.int .i64 0),(.int .i64 0)],stb zI 30 [(.int .i64 zV.fN),(.int .i64 zV.fD)],stb zH 30 [(.int .i64 z13.fN),(.int .i64 z13.fD)]] [] [yK z7J Value.string (fun x=>x) [(⟨#[43]⟩,(.func (.func 54) #[] #[(.pointer (some ⟨zH,0,none⟩)),(.pointer (some ⟨zI,0,none⟩))])),(⟨#[45]⟩,(.func (.func 55) #[] #[(.pointer (some ⟨zH,0,none⟩)),(.pointer (some ⟨zI,0,none⟩))])),(⟨#[42]⟩,(.func (.func 56) #[] #[(.pointer (some ⟨zH,0,none⟩)),(.pointer (some ⟨zI,0,none⟩))])),(⟨#[47]⟩,(.func (.func 57) #[] #[(.pointer (some ⟨zH,0,none⟩)),(.pointer (some ⟨zI,0,none⟩))]))],stb z4p 30 [(.int .i64 0),(.int .i64 0)],stb zI 30 [(.int .i64 zV.fN),(.int .i64 zV.fD)],stb zH 30 [(.int .i64 z13.fN),(.int .i64 z13.fD)]]) (B:=[stb zH 30 [(.int .i64 z13.fN),(.int .i64 z13.fD)],stb zI 30 [(.int .i64 zV.fN),(.int .i64 zV.fD)]]) (fun _ hx'=>((.cons .h3 (.cons .h2 .nil)) : Sel _ [stb zH 30 [(.int .i64 z13.fN),(.int .i64 z13.fD)],stb zI 30 [(.int .i64 zV.fN),(.int .i64 zV.fD)]] _).mem hx') (.head _) _).stb) ((hw.lent (.nil : Sel [yK z7J Value.string (fun x=>x) [(⟨#[43]⟩,(.func (.func 54) #[] #[(.pointer (some ⟨zH,0,none⟩)),(.pointer (some ⟨zI,0,none⟩))])),(⟨#[45]⟩,(.func (.func 55) #[] #[(.pointer (some ⟨zH,0,none⟩)),(.pointer (some ⟨zI,0,none⟩))])),(⟨#[42]⟩,(.func (.func 56) #[] #[(.pointer (some ⟨zH,0,none⟩)),(.pointer (some ⟨zI,0,none⟩))])),(⟨#[47]⟩,(.func (.func 57) #[] #[(.pointer (some ⟨zH,0,none⟩)),(.pointer (some ⟨zI,0,none⟩))]))],stb z4p 30 [(.int .i64 0),(.int .i64 0)],stb zI 30 [(.int .i64 zV.fN),(.int .i64 zV.fD)],stb zH 30 [(.int .i64 z13.fN),(.int .i64 z13.fD)]] [] [yK z7J Value.string (fun x=>x) [(⟨#[43]⟩,(.func (.func 54) #[] #[(.pointer (some ⟨zH,0,none⟩)),(.pointer (some ⟨zI,0,none⟩))])),(⟨#[45]⟩,(.func (.func 55) #[] #[(.pointer (some ⟨zH,0,none⟩)),(.pointer (some ⟨zI,0,none⟩))])),(⟨#[42]⟩,(.func (.func 56) #[] #[(.pointer (some ⟨zH,0,none⟩)),(.pointer (some ⟨zI,0,none⟩))])),(⟨#[47]⟩,(.func (.func 57) #[] #[(.pointer (some ⟨zH,0,none⟩)),(.pointer (some ⟨zI,0,none⟩))]))],stb z4p 30 [(.int .i64 0),(.int .i64 0)],stb zI 30 [(.int .i64 zV.fN),(.int .i64 zV.fD)],stb zH 30 [(.int .i64 z13.fN),(.int .i64 z13.fD)]]) (B:=[stb zH 30 [(.int .i64 z13.fN),(.int .i64 z13.fD)],stb zI 30 [(.int .i64 zV.fN),(.int .i64 zV.fD)]]) (fun _ hx'=>((.cons .h3 (.cons .h2 .nil)) : Sel _ [stb zH 30 [(.int .i64 z13.fN),(.int .i64 z13.fD)],stb zI 30 [(.int .i64 zV.fN),(.int .i64 zV.fD)]] _).mem hx') (.tail _ (.head _)) _).stb) zu3) ?_
    refine WL.a (d:=37) rfl rfl rfl (yf rfl rfl) ?_
    refine WL.a (d:=38) rfl rfl rfl (yf rfl rfl) ?_
    refine WL.b (dd:=39) rfl rfl rfl (zj (l:=[.tmp 37,.tmp 38]) Try.call9 (.cons rfl (.cons rfl .nil))) (.nil : Sel [yK z7J Value.string (fun x=>x) [(⟨#[43]⟩,(.func (.func 54) #[] #[(.pointer (some ⟨zH,0,none⟩)),(.pointer (some ⟨zI,0,none⟩))])),(⟨#[45]⟩,(.func (.func 55) #[] #[(.pointer (some ⟨zH,0,none⟩)),(.pointer (some ⟨zI,0,none⟩))])),(⟨#[42]⟩,(.func (.func 56) #[] #[(.pointer (some ⟨zH,0,none⟩)),(.pointer (some ⟨zI,0,none⟩))])),(⟨#[47]⟩,(.func (.func 57) #[] #[(.pointer (some ⟨zH,0,none⟩)),(.pointer (some ⟨zI,0,none⟩))]))],stb z4p 30 [(.int .i64 0),(.int .i64 0)],stb zI 30 [(.int .i64 zV.fN),(.int .i64 zV.fD)],stb zH 30 [(.int .i64 z13.fN),(.int .i64 z13.fD)]] [] [yK z7J Value.string (fun x=>x) [(⟨#[43]⟩,(.func (.func 54) #[] #[(.pointer (some ⟨zH,0,none⟩)),(.pointer (some ⟨zI,0,none⟩))])),(⟨#[45]⟩,(.func (.func 55) #[] #[(.pointer (some ⟨zH,0,none⟩)),(.pointer (some ⟨zI,0,none⟩))])),(⟨#[42]⟩,(.func (.func 56) #[] #[(.pointer (some ⟨zH,0,none⟩)),(.pointer (some ⟨zI,0,none⟩))])),(⟨#[47]⟩,(.func (.func 57) #[] #[(.pointer (some ⟨zH,0,none⟩)),(.pointer (some ⟨zI,0,none⟩))]))],stb z4p 30 [(.int .i64 0),(.int .i64 0)],stb zI 30 [(.int .i64 zV.fN),(.int .i64 zV.fD)],stb zH 30 [(.int .i64 z13.fN),(.int .i64 z13.fD)]]) (fun w hw=>by have pz:=(hz.call hw (.nil : Sel [yK z7J Value.string (fun x=>x) [(⟨#[43]⟩,(.func (.func 54) #[] #[(.pointer (some ⟨zH,0,none⟩)),(.pointer (some ⟨zI,0,none⟩))])),(⟨#[45]⟩,(.func (.func 55) #[] #[(.pointer (some ⟨zH,0,none⟩)),(.pointer (some ⟨zI,0,none⟩))])),(⟨#[42]⟩,(.func (.func 56) #[] #[(.pointer (some ⟨zH,0,none⟩)),(.pointer (some ⟨zI,0,none⟩))])),(⟨#[47]⟩,(.func (.func 57) #[] #[(.pointer (some ⟨zH,0,none⟩)),(.pointer (some ⟨zI,0,none⟩))]))],stb z4p 30 [(.int .i64 0),(.int .i64 0)],stb zI 30 [(.int .i64 zV.fN),(.int .i64 zV.fD)],stb zH 30 [(.int .i64 z13.fN),(.int .i64 z13.fD)]] [] [yK z7J Value.string (fun x=>x) [(⟨#[43]⟩,(.func (.func 54) #[] #[(.pointer (some ⟨zH,0,none⟩)),(.pointer (some ⟨zI,0,none⟩))])),(⟨#[45]⟩,(.func (.func 55) #[] #[(.pointer (some ⟨zH,0,none⟩)),(.pointer (some ⟨zI,0,none⟩))])),(⟨#[42]⟩,(.func (.func 56) #[] #[(.pointer (some ⟨zH,0,none⟩)),(.pointer (some ⟨zI,0,none⟩))])),(⟨#[47]⟩,(.func (.func 57) #[] #[(.pointer (some ⟨zH,0,none⟩)),(.pointer (some ⟨zI,0,none⟩))]))],stb z4p 30 [(.int .i64 0),(.int .i64 0)],stb zI 30 [(.int .i64 zV.fN),(.int .i64 zV.fD)],stb zH 30 [(.int .i64 z13.fN),(.int .i64 z13.fD)]])); exact y51 (Z:=_)  (z7F:=zdV.1) (z7m:=zdV.2) (r:=zbp) w pz  zu4) ?_
    refine WL.a (d:=40) rfl rfl rfl (yf rfl rfl) ?_
    refine WL.a (d:=41) rfl rfl rfl (yf rfl rfl) ?_
    refine WL.yb rfl rfl (yc (vs:=[(.int .i64 zbp.1.fN),(.int .i64 zbp.1.fD)]) (ds:=[(.int .i64 zbp.1.fN),(.int .i64 zbp.1.fD)]) yo rfl rfl rfl rfl (y2 rfl (y2 rfl yk)) .h1 (Nat.le_of_ble_eq_true rfl) rfl) ?_
    refine WL.a (d:=7) rfl rfl rfl (q_z rfl) ?_
    refine WL.nil ?_
    refine WX.a ?_
    refine WC.ret ?_
    obtain rfl:=Option.some.inj h
    refine WX.y7 Try.results40 (.agg rfl y5 rfl (y8 .here) (.tmp rfl .nil)) (fun w hw=>?_)
    exact ⟨y1M rfl rfl,hw.sub .nil⟩
def y2V (z4N : z7) (z4O : z7) : Option (z7 × Int) :=
 (y6q z4N z4O).bind fun zbq=>some (zbq.1,zbq.2)
set_option maxRecDepth 20000 in
theorem y8w (Z : Zp)   (z4N : z7) (z4O : z7) (r : z7 × Int) (w₀ : World) (hz : PZ [] w₀ Z)
  (h : y2V z4N z4O = some r) :
  Calls Try.prog 34 #[(.agg #[(.int .i64 z4N.fN),(.int .i64 z4N.fD)]),(.agg #[(.int .i64 z4O.fN),(.int .i64 z4O.fD)])] w₀ fun e w'=>e = .returned (.tuple #[(.agg #[(.int .i64 r.1.fN),(.int .i64 r.1.fD)]),(.int .i64 r.2)]) ∧ Hp [] w₀ w' []:=by
 unfold y2V at h
 refine Calls.yd (vs:=[(.agg #[(.int .i64 z4N.fN),(.int .i64 z4N.fD)]),(.agg #[(.int .i64 z4O.fN),(.int .i64 z4O.fD)])]) (pre:=[]) (env:=[(0,(.agg #[(.int .i64 z4N.fN),(.int .i64 z4N.fD)])),(1,(.agg #[(.int .i64 z4O.fN),(.int .i64 z4O.fD)]))]) Try.func34 rfl Try.ntmps34 rfl (Hp.nil w₀ _) rfl ?_
 refine WC.b ?_
 refine WC.a ?_
 refine WL.new (dd:=2) rfl rfl rfl (yI (cs:=[(.int .i64 z4N.fN),(.int .i64 z4N.fD)]) rfl rfl) ?_
 intro zhq _
 refine WL.new (dd:=3) rfl rfl rfl (yI (cs:=[(.int .i64 z4O.fN),(.int .i64 z4O.fD)]) rfl rfl) ?_
 intro zhr _
 refine WL.new (dd:=4) rfl rfl rfl (ym (cs:=[(.int .i64 0),(.int .i64 0)]) yt rfl) ?_
 intro zhs _
 refine WL.a (d:=5) rfl rfl rfl (q_z rfl) ?_
 refine WL.nil ?_
 refine WX.a ?_
 refine WC.b ?_
 obtain ⟨zbq,zu5,h⟩:=ze h
 refine WC.a ?_
 refine WL.a (d:=6) rfl rfl rfl (y4 (cs:=[(.int .i64 z4N.fN),(.int .i64 z4N.fD)]) y5 rfl rfl (y8 .h2)) ?_
 refine WL.a (d:=7) rfl rfl rfl (y4 (cs:=[(.int .i64 z4O.fN),(.int .i64 z4O.fD)]) y5 rfl rfl (y8 .h1)) ?_
 refine WL.b (dd:=8) rfl rfl rfl (zj (l:=[.const (.string ⟨#[47]⟩),.tmp 6,.tmp 7]) Try.call40 (.cons rfl (.cons rfl (.cons rfl .nil)))) (.nil : Sel [stb zhs 30 [(.int .i64 0),(.int .i64 0)],stb zhr 30 [(.int .i64 z4O.fN),(.int .i64 z4O.fD)],stb zhq 30 [(.int .i64 z4N.fN),(.int .i64 z4N.fD)]] [] [stb zhs 30 [(.int .i64 0),(.int .i64 0)],stb zhr 30 [(.int .i64 z4O.fN),(.int .i64 z4O.fD)],stb zhq 30 [(.int .i64 z4N.fN),(.int .i64 z4N.fD)]]) (fun w hw=>by have pz:=(hz.call hw (.nil : Sel [stb zhs 30 [(.int .i64 0),(.int .i64 0)],stb zhr 30 [(.int .i64 z4O.fN),(.int .i64 z4O.fD)],stb zhq 30 [(.int .i64 z4N.fN),(.int .i64 z4N.fD)]] [] [stb zhs 30 [(.int .i64 0),(.int .i64 0)],stb zhr 30 [(.int .i64 z4O.fN),(.int .i64 z4O.fD)],stb zhq 30 [(.int .i64 z4N.fN),(.int .i64 z4N.fD)]])); exact yan (Z:=_)  (z13:=z4N) (zV:=z4O) (r:=zbq) w pz  zu5) ?_
 refine WL.a (d:=9) rfl rfl rfl (yf rfl rfl) ?_
 refine WL.a (d:=10) rfl rfl rfl (yf rfl rfl) ?_
 refine WL.yb rfl rfl (yc (vs:=[(.int .i64 zbq.1.fN),(.int .i64 zbq.1.fD)]) (ds:=[(.int .i64 zbq.1.fN),(.int .i64 zbq.1.fD)]) yo rfl rfl rfl rfl (y2 rfl (y2 rfl yk)) .here (Nat.le_of_ble_eq_true rfl) rfl) ?_
 refine WL.a (d:=5) rfl rfl rfl (q_z rfl) ?_
 refine WL.nil ?_
 refine WX.a ?_
 refine WC.ret ?_
 obtain rfl:=Option.some.inj h
 refine WX.y7 Try.results34 (.agg rfl y5 rfl (y8 .here) (.tmp rfl .nil)) (fun w hw=>?_)
 exact ⟨y1M rfl rfl,hw.sub .nil⟩
theorem srtA_90 : ∀ w,(isAgg (Try.y2k.t 24)).run Try.prog w = .ok true w:=fun _=>by kernel_rfl
theorem srtZ_90 : ∀ w,(Go.sizeOf (Try.y2k.t 24)).run Try.prog w = .ok 2 w:=fun _=>by kernel_rfl
def y2u (z6O : List z7) (zfD : Int) (zfE : Int) (zdW : Int) (zcv : z7 → z7 → Option Int) : Option (List z7):=chk ((zfD = 0 ∧ zfE = ((z6O.length : Nat) : Int)) ∧ (0 ≤ zdW ∧ zdW < 4611686018427387904 ∧ z6O.length < 4611686018427387904)) (chk (ordB zcv (y1t zcv z6O) = true) (some (y1t zcv z6O)))
theorem y4V (Z : Zp) (zcw : Option Addr) (zcx : Nat) (zfF : FuncId) (zkB : List Value) (z6O : List z7) (zfD : Int) (zfE : Int) (zdW : Int) (zcv : z7 → z7 → Option Int) (r : List z7) (w₀ : World) (hz : PZ (fps [row (.slice zcw z6O.length zcx) 30 2 (z6O.flatMap e30)]) w₀ Z)
  (zu6 : ∀ args w,(callFunc zfF args).run Try.prog w = .ok (.enter zfF args) w)
  (zu7 : ∀ w : World,PZ [] w Z → ∀ (x0 : z7) (x1 : z7) (r : Int),zcv x0 x1 = some r → Calls Try.prog zfF (([(.agg #[(.int .i64 x0.fN),(.int .i64 x0.fD)]),(.agg #[(.int .i64 x1.fN),(.int .i64 x1.fD)])] : List Value) ++ zkB).toArray w fun e w'=>e = .returned (.int .i64 r) ∧ Hp [] w w' [])
  (h : y2u z6O zfD zfE zdW zcv = some r) (hown : Hp (fps [row (.slice zcw z6O.length zcx) 30 2 (z6O.flatMap e30)]) w₀ w₀ [row (.slice zcw z6O.length zcx) 30 2 (z6O.flatMap e30)]) :
  Calls Try.prog 90 #[(.slice zcw z6O.length zcx),(.int .i64 zfD),(.int .i64 zfE),(.int .i64 zdW),(.func (.func zfF) #[] (zkB).toArray)] w₀ fun e w'=>e = .returned (.tuple #[]) ∧ (r.length = z6O.length) ∧ Hp (fps [row (.slice zcw z6O.length zcx) 30 2 (z6O.flatMap e30)]) w₀ w' [row (.slice zcw r.length zcx) 30 2 (r.flatMap e30)]:=by
 obtain ⟨h0,h⟩:=yl h
 obtain ⟨h1,h⟩:=yl h
 have hr:=(Option.some.inj h).symm
 exact y8v (P:=Try.prog) (f:=90) (e:=30) (k:=2) (enc:=e30) (fun _=>rfl) (by decide) y81 (fun β _ enc cf g cb hO blk off cap d0 w0 eg hC R=>Try.y5v 2 srtA_90 srtZ_90 enc cf g cb hO blk off cap d0 w0 eg hC R) (Try.y5m (α:=Unit)) hz zu6 zu7 h0 h1 hr hown
def y1r (z2p : List z7) (zdX : z7 → z7 → Option Int) : Option (List z7) :=
 (y50 (u64 ((z2p.length : Nat) : Int))).bind fun zht=>(y2u z2p 0 ((z2p.length : Nat) : Int) zht zdX).bind fun zhu=>some zhu
set_option maxRecDepth 20000 in
theorem y4A (Z : Zp)  (z5h : Option Addr) (z5i : Nat) (zbr : FuncId) (zdY : List Value) (z2p : List z7) (zdX : z7 → z7 → Option Int) (r : List z7) (w₀ : World) (hz : PZ (fps [row (.slice z5h z2p.length z5i) 30 2 (z2p.flatMap e30)]) w₀ Z)
  (zu8 : ∀ args w,(callFunc zbr args).run Try.prog w = .ok (.enter zbr args) w)
  (zu9 : ∀ w : World,PZ [] w Z → ∀ (x0 : z7) (x1 : z7) (r : Int),zdX x0 x1 = some r → Calls Try.prog zbr (([(.agg #[(.int .i64 x0.fN),(.int .i64 x0.fD)]),(.agg #[(.int .i64 x1.fN),(.int .i64 x1.fD)])] : List Value) ++ zdY).toArray w fun e w'=>e = .returned (.int .i64 r) ∧ Hp [] w w' [])
  (h : y1r z2p zdX = some r)
  (hown : Hp (fps [row (.slice z5h z2p.length z5i) 30 2 (z2p.flatMap e30)]) w₀ w₀ [row (.slice z5h z2p.length z5i) 30 2 (z2p.flatMap e30)]) :
  Calls Try.prog 77 #[(.slice z5h z2p.length z5i),(.func (.func zbr) #[] (zdY).toArray)] w₀ fun e w'=>e = .returned (.tuple #[]) ∧ (r.length = z2p.length) ∧ Hp (fps [row (.slice z5h z2p.length z5i) 30 2 (z2p.flatMap e30)]) w₀ w' [row (.slice z5h r.length z5i) 30 2 (r.flatMap e30)]:=by
 unfold y1r at h
 refine Calls.yd (vs:=[(.slice z5h z2p.length z5i),(.func (.func zbr) #[] (zdY).toArray)]) (pre:=[row (.slice z5h z2p.length z5i) 30 2 (z2p.flatMap e30)]) (env:=[(0,(.slice z5h z2p.length z5i)),(1,(.func (.func zbr) #[] (zdY).toArray))]) Try.func77 rfl Try.ntmps77 rfl (hown) rfl ?_
 refine WC.b ?_
 refine WC.a ?_
 refine WL.a (d:=5) rfl rfl rfl (q_m rfl) ?_
 refine WL.a (d:=6) rfl rfl rfl (y10 Try.underlying77 rfl) ?_
 refine WL.a (d:=4) rfl rfl rfl (q_z rfl) ?_
 refine WL.nil ?_
 refine WX.a ?_
 obtain ⟨zht,zua,h⟩:=ze h
 obtain ⟨zhu,zub,h⟩:=ze h
 refine WC.a ?_
 refine WL.a (d:=7) rfl rfl rfl (q_m rfl) ?_
 refine WL.a (d:=8) rfl rfl rfl (q_m rfl) ?_
 refine WL.a (d:=9) rfl rfl rfl (q_m rfl) ?_
 refine WL.a (d:=10) rfl rfl rfl (y3v Try.underlying3 Try.underlying120 rfl rfl) ?_
 refine WL.b (dd:=11) rfl rfl rfl (zj (l:=[.tmp 10]) Try.call74 (.cons rfl .nil)) (.nil : Sel [row (.slice z5h z2p.length z5i) 30 2 (z2p.flatMap e30)] [] [row (.slice z5h z2p.length z5i) 30 2 (z2p.flatMap e30)]) (fun w hw=>by have pz:=(hz.call hw (.nil : Sel [row (.slice z5h z2p.length z5i) 30 2 (z2p.flatMap e30)] [] [row (.slice z5h z2p.length z5i) 30 2 (z2p.flatMap e30)])); exact y83 (Z:=_)  (zab:=(u64 ((z2p.length : Nat) : Int))) (r:=zht) w pz  zua) ?_
 refine WL.a (d:=12) rfl rfl rfl (q_m rfl) ?_
 refine WL.y6m (dd:=13) rfl rfl rfl (zj (l:=[.tmp 7,.const (.int .i64 0),.tmp 8,.tmp 11,.tmp 12]) Try.call90 (.cons rfl (.cons rfl (.cons rfl (.cons rfl (.cons rfl .nil)))))) ((.cons .here .nil) : Sel [row (.slice z5h z2p.length z5i) 30 2 (z2p.flatMap e30)] [row (.slice z5h z2p.length z5i) 30 2 (z2p.flatMap e30)] []) (fun w hw=>by have pz:=(hz.call hw ((.cons .here .nil) : Sel [row (.slice z5h z2p.length z5i) 30 2 (z2p.flatMap e30)] [row (.slice z5h z2p.length z5i) 30 2 (z2p.flatMap e30)] [])); exact y4V (Z:=_) (zcw:=z5h) (zcx:=z5i) (zfF:=zbr) (zkB:=zdY) (z6O:=z2p) (zfD:=0) (zfE:=((z2p.length : Nat) : Int)) (zdW:=zht) (zcv:=zdX) (r:=zhu) w pz zu8 zu9 zub (hw.owns ((.cons .here .nil) : Sel [row (.slice z5h z2p.length z5i) 30 2 (z2p.flatMap e30)] [row (.slice z5h z2p.length z5i) 30 2 (z2p.flatMap e30)] []))) ?_
 rintro  zpw
 refine WL.repin (i:=0) rfl (u:=(.slice z5h zhu.length z5i)) (slen zpw.symm) ?_
 refine WL.nil ?_
 obtain rfl:=Option.some.inj h
 refine WX.y4z Try.results77 .nil (fun w hw=>?_)
 exact ⟨y5s,(zpw.trans rfl),hw.sub (.cons .here .nil)⟩
def yO (z1r : List z7) (zQ : Int) (zam : (List z7) → Int → Option (List z7)) : Nat → (List z7) → Int → Int → Option (List z7)
 | 0,_,_,_=>none
 | zkC + 1,z21,z5j,k2_14502=>if decide (k2_14502 < ((z1r.length - (zQ : Int).toNat : Nat) : Int)) then jp2 (fun (z8q : List z7) (zan : Int)=>yO z1r zQ zam zkC z8q zan (i64 (k2_14502 + 1))) fun zhv=>chk ((0 : Int) ≤ k2_14502 ∧ k2_14502 < ((z1r.length - (zQ : Int).toNat : Nat) : Int)) (chk ((0 : Int) ≤ (i64 (k2_14502 - 1)) ∧ (i64 (k2_14502 - 1)) < ((z1r.length - (zQ : Int).toNat : Nat) : Int)) (if decide ((⟨((nth z21 (zQ + k2_14502)).fN),((nth z21 (zQ + k2_14502)).fD)⟩ : z7) ≠ (⟨((nth z21 (zQ + (i64 (k2_14502 - 1)))).fN),((nth z21 (zQ + (i64 (k2_14502 - 1)))).fD)⟩ : z7)) then chk ((0 : Int) ≤ k2_14502 ∧ k2_14502 < ((z1r.length - (zQ : Int).toNat : Nat) : Int)) (chk ((0 : Int) ≤ z5j ∧ z5j < ((z21.length : Nat) : Int)) (zhv (z21.set (z5j : Int).toNat (⟨((nth z21 (zQ + k2_14502)).fN),((nth z21 (zQ + k2_14502)).fD)⟩ : z7)) (i64 (z5j + 1)))) else zhv z21 z5j)) else zam z21 z5j
theorem y3K {n : Nat} {z1r : List z7} {zQ : Int} {zam : (List z7) → Int → Option (List z7)} {z21 : List z7} {z5j : Int} {k2_14502 : Int} {r : List z7} (h : yO z1r zQ zam n z21 z5j k2_14502 = some r) : ∃ m,n = m + 1:=by
 cases n with
 | zero=>cases h
 | succ m=>exact ⟨m,rfl⟩
def yP (z1r : List z7) (zao : Option (List z7)) : Nat → Int → Option (List z7)
 | 0,_=>none
 | zkD + 1,zQ=>if decide (zQ < ((z1r.length : Nat) : Int)) then jp0 (yP z1r zao zkD (i64 (zQ + 1))) fun zkE=>chk ((0 : Int) ≤ zQ ∧ zQ < ((z1r.length : Nat) : Int)) (chk ((0 : Int) ≤ (i64 (zQ - 1)) ∧ (i64 (zQ - 1)) < ((z1r.length : Nat) : Int)) (if decide ((⟨((nth z1r zQ).fN),((nth z1r zQ).fD)⟩ : z7) = (⟨((nth z1r (i64 (zQ - 1))).fN),((nth z1r (i64 (zQ - 1))).fD)⟩ : z7)) then chk ((0 : Int) ≤ zQ ∧ zQ < ((z1r.length : Nat) : Int)) (jp2 (fun (z5k : List z7) (z5l : Int)=>chk ((0 : Int) ≤ z5l ∧ z5l ≤ ((z5k.length : Nat) : Int)) (chk ((0 : Int) ≤ z5l ∧ z5l ≤ (((z5k.take (z5l : Int).toNat ++ List.replicate (z5k.length - (z5l : Int).toNat) ((⟨0,0⟩ : z7) : z7)).length : Nat) : Int)) (some ((z5k.take (z5l : Int).toNat ++ List.replicate (z5k.length - (z5l : Int).toNat) ((⟨0,0⟩ : z7) : z7)).take (z5l : Int).toNat)))) fun zam=>yO z1r zQ zam yu z1r zQ 1) else zkE)) else zao
theorem y3L {n : Nat} {z1r : List z7} {zao : Option (List z7)} {zQ : Int} {r : List z7} (h : yP z1r zao n zQ = some r) : ∃ m,n = m + 1:=by
 cases n with
 | zero=>cases h
 | succ m=>exact ⟨m,rfl⟩
def y1u (z1r : List z7) : Option (List z7) :=
 if decide (((z1r.length : Nat) : Int) < 2) then some z1r else jp0 (some z1r) fun zao=>yP z1r zao yu 1
set_option maxRecDepth 20000 in
theorem y4G (Z : Zp)  (z91 : Option Addr) (z92 : Nat) (z1r : List z7) (r : List z7) (w₀ : World) (hz : PZ (fps [row (.slice z91 z1r.length z92) 30 2 (z1r.flatMap e30)]) w₀ Z)
  (h : y1u z1r = some r)
  (hown : Hp (fps [row (.slice z91 z1r.length z92) 30 2 (z1r.flatMap e30)]) w₀ w₀ [row (.slice z91 z1r.length z92) 30 2 (z1r.flatMap e30)]) :
  Calls Try.prog 78 #[(.slice z91 z1r.length z92)] w₀ fun e w'=>∃ zpx : Option Addr,∃ zpy : Nat,e = .returned (.slice zpx r.length zpy) ∧ True ∧ Hp (fps [row (.slice z91 z1r.length z92) 30 2 (z1r.flatMap e30)]) w₀ w' [row (.slice zpx r.length zpy) 30 2 (r.flatMap e30)]:=by
 unfold y1u at h
 refine Calls.yd (vs:=[(.slice z91 z1r.length z92)]) (pre:=[row (.slice z91 z1r.length z92) 30 2 (z1r.flatMap e30)]) (env:=[(0,(.slice z91 z1r.length z92))]) Try.func78 rfl Try.ntmps78 rfl (hown) rfl ?_
 refine WC.b ?_
 refine WC.a ?_
 refine WL.a (d:=2) rfl rfl rfl (q_z rfl) ?_
 refine WL.nil ?_
 refine WX.a ?_
 refine WC.b ?_
 refine WC.b ?_
 refine WC.a ?_
 refine WL.a (d:=6) rfl rfl rfl (q_m rfl) ?_
 refine WL.a (d:=7) rfl rfl rfl (y10 Try.underlying77 rfl) ?_
 refine WL.a (d:=8) rfl rfl rfl (y1c rfl rfl) ?_
 refine WL.nil ?_
 refine WX.a ?_
 refine WC.cond rfl (fun zkF=>?_) (fun zkF=>?_)
 ·replace h:=yh h zkF
  refine WC.b ?_
  refine WC.a ?_
  refine WL.a (d:=9) rfl rfl rfl (q_m rfl) ?_
  refine WL.a (d:=2) rfl rfl rfl (q_z rfl) ?_
  refine WL.nil ?_
  refine WX.a ?_
  refine WC.ret ?_
  refine WX.y6 ?_
  obtain rfl:=Option.some.inj h
  refine WX.y7 Try.results78 (.tmp rfl .nil) (fun w hw=>?_)
  exact ⟨z91,z92,yD rfl,trivial,hw.sub (.cons .here .nil)⟩
 ·replace h:=yi h zkF
  refine WC.skip ?_
  refine WX.a ?_
  obtain ⟨zao,zuc,h⟩:=y3I h
  refine WC.y3G (fun (zdZ : Option Addr) (ze0 : Nat)=>(zao = some r)) (fun (zdZ : Option Addr) (ze0 : Nat)=>[(0,(.slice zdZ z1r.length ze0))]) (fun (zdZ : Option Addr) (ze0 : Nat)=>[row (.slice zdZ z1r.length ze0) 30 2 (z1r.flatMap e30)]) ?_ ?_
  ·skip
   refine WC.b ?_
   refine WC.a ?_
   refine WL.a (d:=3) rfl rfl rfl (q_z rfl) ?_
   refine WL.nil ?_
   refine WX.a ?_
   refine WC.block ?_
   refine WC.y49 (fun (ze1 : Nat) (zQ : Int) (zcy : Option Addr) (z5L : Nat)=>(yP z1r zao ze1 zQ = some r)) (fun (ze1 : Nat) (zQ : Int) (zcy : Option Addr) (z5L : Nat)=>[(0,(.slice zcy z1r.length z5L)),(3,(.int .i64 zQ))]) (fun (ze1 : Nat) (zQ : Int) (zcy : Option Addr) (z5L : Nat)=>[row (.slice zcy z1r.length z5L) 30 2 (z1r.flatMap e30)]) (fun (ze1 : Nat) (zQ : Int) (zcy : Option Addr) (z5L : Nat)=>ze1) ⟨yu,1,z91,z92⟩ h (.cons rfl (.cons rfl .nil)) (.cons .here .nil) ?_
   rintro ze1 zQ zcy z5L h
   obtain ⟨zkD,rfl⟩:=y3L h
   rw [yP] at h
   refine WC.b ?_
   refine WC.b ?_
   refine WC.a ?_
   refine WL.a (d:=10) rfl rfl rfl (q_m rfl) ?_
   refine WL.a (d:=11) rfl rfl rfl (q_m rfl) ?_
   refine WL.a (d:=12) rfl rfl rfl (y10 Try.underlying77 rfl) ?_
   refine WL.a (d:=13) rfl rfl rfl (y1c rfl rfl) ?_
   refine WL.nil ?_
   refine WX.a ?_
   refine WC.cond rfl (fun zkG=>?_) (fun zkG=>?_)
   ·replace h:=yh h zkG
    refine WC.skip ?_
    refine WX.a ?_
    obtain ⟨zkE,zud,h⟩:=y3I h
    refine WC.y3G (fun (ze2 : Option Addr) (ze3 : Nat)=>(zkE = some r)) (fun (ze2 : Option Addr) (ze3 : Nat)=>[(0,(.slice ze2 z1r.length ze3)),(3,(.int .i64 zQ))]) (fun (ze2 : Option Addr) (ze3 : Nat)=>[row (.slice ze2 z1r.length ze3) 30 2 (z1r.flatMap e30)]) ?_ ?_
    ·skip
     refine WC.block ?_
     refine WC.b ?_
     obtain ⟨zfG,h⟩:=yl h
     obtain ⟨zhw,h⟩:=yl h
     refine WC.yY (fun i=>[].contains i) [] rfl ?_
     refine WD.a (i:=0) (d:=16) (by kernel_rfl) rfl (z8 (by kernel_rfl)) (za (by kernel_rfl)) rfl rfl rfl (fun _=>q_m rfl) ?_
     refine WD.a (i:=1) (d:=17) (by kernel_rfl) rfl (z8 (by kernel_rfl)) (za (by kernel_rfl)) rfl rfl rfl (fun _=>q_m rfl) ?_
     refine WD.know (fun w hw=>Hp.y3j .here hw (by intro hz'; have:=zfG; rw [hz'] at this; omega)) ?_
     rintro ⟨z84,rfl⟩
     refine WD.a (i:=2) (d:=18) (by kernel_rfl) rfl (z8 (by kernel_rfl)) (za (by kernel_rfl)) rfl rfl rfl (fun _=>y14 y1K rfl rfl zfG.1 zfG.2 y39) ?_
     refine WD.e (i:=3) (d:=19) (by kernel_rfl) rfl (z8 (by kernel_rfl)) (za (by kernel_rfl)) rfl rfl rfl (y4 (cs:=(e30 (nth z1r zQ))) y5 rfl rfl (y36 .here (y2J (enc:=e30) (l:=z1r) (i:=zQ) (sz:=2) (fun _=>rfl) zfG.1 zfG.2))) ?_
     refine WD.a (i:=4) (d:=20) (by kernel_rfl) rfl (z8 (by kernel_rfl)) (za (by kernel_rfl)) rfl rfl rfl (fun _=>q_m rfl) ?_
     refine WD.a (i:=5) (d:=21) (by kernel_rfl) rfl (z8 (by kernel_rfl)) (za (by kernel_rfl)) rfl rfl rfl (fun _=>q_m rfl) ?_
     refine WD.a (i:=6) (d:=22) (by kernel_rfl) rfl (z8 (by kernel_rfl)) (za (by kernel_rfl)) rfl rfl rfl (fun _=>y6Q rfl rfl rfl) ?_
     refine WD.a (i:=7) (d:=23) (by kernel_rfl) rfl (z8 (by kernel_rfl)) (za (by kernel_rfl)) rfl rfl rfl (fun _=>y14 y1K rfl rfl zhw.1 zhw.2 y39) ?_
     refine WD.e (i:=8) (d:=24) (by kernel_rfl) rfl (z8 (by kernel_rfl)) (za (by kernel_rfl)) rfl rfl rfl (y4 (cs:=(e30 (nth z1r (i64 (zQ - 1))))) y5 rfl rfl (y36 .here (y2J (enc:=e30) (l:=z1r) (i:=i64 (zQ - 1)) (sz:=2) (fun _=>rfl) zhw.1 zhw.2))) ?_
     refine WD.a (i:=9) (d:=25) (by kernel_rfl) rfl (z8 (by kernel_rfl)) (za (by kernel_rfl)) rfl rfl rfl (fun _=>y61 (enc:=e30) (a:=(⟨((nth z1r zQ).fN),((nth z1r zQ).fD)⟩ : z7)) (b:=(⟨((nth z1r (i64 (zQ - 1))).fN),((nth z1r (i64 (zQ - 1))).fD)⟩ : z7)) y7i rfl rfl) ?_
     refine WD.done (by kernel_rfl) ?_
     refine WX.a ?_
     refine WC.cond rfl (fun zkH=>?_) (fun zkH=>?_)
     ·replace h:=yh h zkH
      refine WC.b ?_
      obtain ⟨zcz,h⟩:=yl h
      refine WC.a ?_
      refine WL.a (d:=26) rfl rfl rfl (q_m rfl) ?_
      refine WL.a (d:=27) rfl rfl rfl (q_m rfl) ?_
      refine WL.yak (dd:=28) rfl rfl y1K rfl rfl .here zcz ?_
      refine WL.a (d:=4) rfl rfl rfl (q_z rfl) ?_
      refine WL.nil ?_
      refine WX.a ?_
      obtain ⟨zam,zue,h⟩:=y4b h
      refine WC.y3G (fun (z5k : List z7) (z5l : Int)=>(zam z5k z5l = some r) ∧ (z5k.length = z1r.length)) (fun (z5k : List z7) (z5l : Int)=>[(0,(.slice (some ⟨z84,0,none⟩) z5k.length z5L)),(3,(.int .i64 z5l))]) (fun (z5k : List z7) (z5l : Int)=>[row (.slice (some ⟨z84,0,none⟩) z5k.length z5L) 30 2 (z5k.flatMap e30)]) ?_ ?_
      ·skip
       refine WC.b ?_
       refine WC.a ?_
       refine WL.a (d:=5) rfl rfl rfl (q_z rfl) ?_
       refine WL.nil ?_
       refine WX.a ?_
       refine WC.block ?_
       refine WC.y49 (fun (ze4 : Nat) (z21 : List z7) (z5j : Int) (k2_14502 : Int)=>(yO z1r zQ zam ze4 z21 z5j k2_14502 = some r) ∧ (z21.length = z1r.length)) (fun (ze4 : Nat) (z21 : List z7) (z5j : Int) (k2_14502 : Int)=>[(0,(.slice (some ⟨z84,0,none⟩) z21.length z5L)),(3,(.int .i64 z5j)),(4,(.slice (some ⟨z84,(zQ : Int).toNat * 2,none⟩) (z1r.length - (zQ : Int).toNat) (z5L - (zQ : Int).toNat))),(5,(.int .i64 k2_14502))]) (fun (ze4 : Nat) (z21 : List z7) (z5j : Int) (k2_14502 : Int)=>[row (.slice (some ⟨z84,0,none⟩) z21.length z5L) 30 2 (z21.flatMap e30)]) (fun (ze4 : Nat) (z21 : List z7) (z5j : Int) (k2_14502 : Int)=>ze4) ⟨yu,z1r,zQ,1⟩ ⟨h,rfl⟩ (.cons rfl (.cons rfl (.cons rfl (.cons rfl .nil)))) (.cons .here .nil) ?_
       rintro ze4 z21 z5j k2_14502 ⟨h,ze5⟩
       obtain ⟨zkC,rfl⟩:=y3K h
       rw [yO] at h
       refine WC.b ?_
       refine WC.b ?_
       refine WC.a ?_
       refine WL.a (d:=29) rfl rfl rfl (q_m rfl) ?_
       refine WL.a (d:=30) rfl rfl rfl (q_m rfl) ?_
       refine WL.a (d:=31) rfl rfl rfl (y10 Try.underlying77 rfl) ?_
       refine WL.a (d:=32) rfl rfl rfl (y1c rfl rfl) ?_
       refine WL.nil ?_
       refine WX.a ?_
       refine WC.cond rfl (fun zkI=>?_) (fun zkI=>?_)
       ·replace h:=yh h zkI
        refine WC.skip ?_
        refine WX.a ?_
        obtain ⟨zhv,zuf,h⟩:=y4b h
        refine WC.y3G (fun (z8q : List z7) (zan : Int)=>(zhv z8q zan = some r) ∧ (z8q.length = z1r.length)) (fun (z8q : List z7) (zan : Int)=>[(0,(.slice (some ⟨z84,0,none⟩) z8q.length z5L)),(3,(.int .i64 zan)),(4,(.slice (some ⟨z84,(zQ : Int).toNat * 2,none⟩) (z1r.length - (zQ : Int).toNat) (z5L - (zQ : Int).toNat))),(5,(.int .i64 k2_14502))]) (fun (z8q : List z7) (zan : Int)=>[row (.slice (some ⟨z84,0,none⟩) z8q.length z5L) 30 2 (z8q.flatMap e30)]) ?_ ?_
        ·skip
         refine WC.block ?_
         refine WC.b ?_
         obtain ⟨zhx,h⟩:=yl h
         obtain ⟨zhy,h⟩:=yl h
         refine WC.yY (fun i=>[].contains i) [] rfl ?_
         refine WD.a (i:=0) (d:=35) (by kernel_rfl) rfl (z8 (by kernel_rfl)) (za (by kernel_rfl)) rfl rfl rfl (fun _=>q_m rfl) ?_
         refine WD.a (i:=1) (d:=36) (by kernel_rfl) rfl (z8 (by kernel_rfl)) (za (by kernel_rfl)) rfl rfl rfl (fun _=>q_m rfl) ?_
         have zpz : (0 : Int) ≤ zQ + k2_14502 ∧ zQ + k2_14502 < ((z21.length : Nat) : Int):=by have h1:=ze5; have h2:=zcz; have h3:=zhx; omega
         refine WD.a (i:=2) (d:=37) (by kernel_rfl) rfl (z8 (by kernel_rfl)) (za (by kernel_rfl)) rfl rfl rfl (fun _=>y14 y1K rfl rfl zhx.1 zhx.2 (y7Q zcz.1 zhx.1)) ?_
         refine WD.e (i:=3) (d:=38) (by kernel_rfl) rfl (z8 (by kernel_rfl)) (za (by kernel_rfl)) rfl rfl rfl (y4 (cs:=(e30 (nth z21 (zQ + k2_14502)))) y5 rfl rfl (y36 .here (y2J (enc:=e30) (l:=z21) (i:=zQ + k2_14502) (sz:=2) (fun _=>rfl) zpz.1 zpz.2))) ?_
         refine WD.a (i:=4) (d:=39) (by kernel_rfl) rfl (z8 (by kernel_rfl)) (za (by kernel_rfl)) rfl rfl rfl (fun _=>q_m rfl) ?_
         refine WD.a (i:=5) (d:=40) (by kernel_rfl) rfl (z8 (by kernel_rfl)) (za (by kernel_rfl)) rfl rfl rfl (fun _=>q_m rfl) ?_
         refine WD.a (i:=6) (d:=41) (by kernel_rfl) rfl (z8 (by kernel_rfl)) (za (by kernel_rfl)) rfl rfl rfl (fun _=>y6Q rfl rfl rfl) ?_
         have zpA : (0 : Int) ≤ zQ + (i64 (k2_14502 - 1)) ∧ zQ + (i64 (k2_14502 - 1)) < ((z21.length : Nat) : Int):=by have h1:=ze5; have h2:=zcz; have h3:=zhy; omega
         refine WD.a (i:=7) (d:=42) (by kernel_rfl) rfl (z8 (by kernel_rfl)) (za (by kernel_rfl)) rfl rfl rfl (fun _=>y14 y1K rfl rfl zhy.1 zhy.2 (y7Q zcz.1 zhy.1)) ?_
         refine WD.e (i:=8) (d:=43) (by kernel_rfl) rfl (z8 (by kernel_rfl)) (za (by kernel_rfl)) rfl rfl rfl (y4 (cs:=(e30 (nth z21 (zQ + (i64 (k2_14502 - 1)))))) y5 rfl rfl (y36 .here (y2J (enc:=e30) (l:=z21) (i:=zQ + (i64 (k2_14502 - 1))) (sz:=2) (fun _=>rfl) zpA.1 zpA.2))) ?_
         refine WD.a (i:=9) (d:=44) (by kernel_rfl) rfl (z8 (by kernel_rfl)) (za (by kernel_rfl)) rfl rfl rfl (fun _=>y8V (enc:=e30) (a:=(⟨((nth z21 (zQ + k2_14502)).fN),((nth z21 (zQ + k2_14502)).fD)⟩ : z7)) (b:=(⟨((nth z21 (zQ + (i64 (k2_14502 - 1)))).fN),((nth z21 (zQ + (i64 (k2_14502 - 1)))).fD)⟩ : z7)) y7i rfl rfl) ?_
         refine WD.done (by kernel_rfl) ?_
         refine WX.a ?_
         refine WC.cond rfl (fun zkJ=>?_) (fun zkJ=>?_)
         ·replace h:=yh h zkJ
          refine WC.b ?_
          obtain ⟨zhz,h⟩:=yl h
          obtain ⟨ze6,h⟩:=yl h
          refine WC.a ?_
          refine WL.a (d:=45) rfl rfl rfl (q_m rfl) ?_
          refine WL.a (d:=46) rfl rfl rfl (q_m rfl) ?_
          refine WL.a (d:=47) rfl rfl rfl (q_m rfl) ?_
          refine WL.a (d:=48) rfl rfl rfl (q_m rfl) ?_
          have zpB : (0 : Int) ≤ zQ + k2_14502 ∧ zQ + k2_14502 < ((z21.length : Nat) : Int):=by have h1:=ze5; have h2:=zcz; have h3:=zhz; omega
          refine WL.a (d:=49) rfl rfl rfl (y14 y1K rfl rfl zhz.1 zhz.2 (y7Q zcz.1 zhz.1)) ?_
          refine WL.a (d:=50) rfl rfl rfl (y4 (cs:=(e30 (nth z21 (zQ + k2_14502)))) y5 rfl rfl (y36 .here (y2J (enc:=e30) (l:=z21) (i:=zQ + k2_14502) (sz:=2) (fun _=>rfl) zpB.1 zpB.2))) ?_
          refine WL.a (d:=51) rfl rfl rfl (y14 y1K rfl rfl ze6.1 ze6.2 y39) ?_
          refine WL.yb rfl rfl (y9U (vs:=[(.int .i64 ((nth z21 (zQ + k2_14502)).fN)),(.int .i64 ((nth z21 (zQ + k2_14502)).fD))]) (ds:=(z21.set (z5j : Int).toNat (⟨((nth z21 (zQ + k2_14502)).fN),((nth z21 (zQ + k2_14502)).fD)⟩ : z7)).flatMap e30) yo rfl rfl rfl rfl (y2 rfl (y2 rfl yk)) .here (flat_fit (enc:=e30) (sz:=2) (k:=0) (fun _=>rfl) ze6.1 ze6.2 (by decide)) (flat_put (enc:=e30) (l:=z21) (sz:=2) (vs:=[(.int .i64 ((nth z21 (zQ + k2_14502)).fN)),(.int .i64 ((nth z21 (zQ + k2_14502)).fD))]) (y:=(⟨((nth z21 (zQ + k2_14502)).fN),((nth z21 (zQ + k2_14502)).fD)⟩ : z7)) (k:=0) (fun _=>rfl) ze6.1 ze6.2 rfl (Nat.le_of_ble_eq_true rfl))) ?_
          refine WL.relen .here (u:=(.slice (some ⟨z84,0,none⟩) ((z21.set (z5j : Int).toNat (⟨((nth z21 (zQ + k2_14502)).fN),((nth z21 (zQ + k2_14502)).fD)⟩ : z7)).length) z5L)) (slen (List.length_set).symm) ?_
          refine WL.repin (i:=0) rfl (u:=(.slice (some ⟨z84,0,none⟩) ((z21.set (z5j : Int).toNat (⟨((nth z21 (zQ + k2_14502)).fN),((nth z21 (zQ + k2_14502)).fD)⟩ : z7)).length) z5L)) (slen (List.length_set).symm) ?_
          refine WL.nil ?_
          refine WX.a ?_
          refine WC.a ?_
          refine WL.a (d:=52) rfl rfl rfl (q_m rfl) ?_
          refine WL.a (d:=53) rfl rfl rfl (yW rfl rfl rfl) ?_
          refine WL.a (d:=3) rfl rfl rfl (q_z rfl) ?_
          refine WL.nil ?_
          refine WX.yg ?_
          exact WX.mid (G:=List z7 × Int) ⟨(z21.set (z5j : Int).toNat (⟨((nth z21 (zQ + k2_14502)).fN),((nth z21 (zQ + k2_14502)).fD)⟩ : z7)),(i64 (z5j + 1))⟩ ⟨h,((List.length_set).trans ze5)⟩ (.cons rfl (.cons rfl (.cons rfl (.cons rfl .nil)))) (.cons .here .nil)
         ·replace h:=yi h zkJ
          refine WC.skip ?_
          refine WX.yg ?_
          exact WX.mid (G:=List z7 × Int) ⟨z21,z5j⟩ ⟨h,ze5⟩ (.cons rfl (.cons rfl (.cons rfl (.cons rfl .nil)))) (.cons .here .nil)
        ·rintro z8q zan ⟨h,zug⟩
         replace h:=(zuf z8q zan).symm.trans h
         refine WC.a ?_
         refine WL.a (d:=33) rfl rfl rfl (q_m rfl) ?_
         refine WL.a (d:=34) rfl rfl rfl (yW rfl rfl rfl) ?_
         refine WL.a (d:=5) rfl rfl rfl (q_z rfl) ?_
         refine WL.nil ?_
         exact WX.round (G:=Nat × List z7 × Int × Int) ⟨zkC,z8q,zan,(i64 (k2_14502 + 1))⟩ ⟨h,zug⟩ (Nat.lt_succ_self _) (.cons rfl (.cons rfl (.cons rfl (.cons rfl .nil)))) (.cons .here .nil)
       ·replace h:=yi h zkI
        refine WC.exit ?_
        refine WX.ye ?_
        refine WX.ye ?_
        refine WX.yx ?_
        exact WX.mid (G:=List z7 × Int) ⟨z21,z5j⟩ ⟨h,ze5⟩ (.cons rfl (.cons rfl .nil)) (.cons .here .nil)
      ·rintro z5k z5l ⟨h,zB1⟩
       replace h:=(zue z5k z5l).symm.trans h
       refine WC.b ?_
       obtain ⟨zhA,h⟩:=yl h
       refine WC.a ?_
       refine WL.a (d:=54) rfl rfl rfl (q_m rfl) ?_
       refine WL.a (d:=55) rfl rfl rfl (q_m rfl) ?_
       refine WL.yah (dd:=56) rfl rfl y1K rfl rfl .here zhA ?_
       intro zB2 zB3 zuh
       refine WL.yb rfl rfl (y8U (enc:=e30) (z0:=((⟨0,0⟩ : z7) : z7)) (l:=z5k) y1K yt rfl zuh zhA (fun _=>rfl) (by decide) rfl y81 .here) ?_
       refine WL.relen .here (u:=(.slice (some ⟨z84,0,none⟩) ((z5k.take (z5l : Int).toNat ++ List.replicate (z5k.length - (z5l : Int).toNat) ((⟨0,0⟩ : z7) : z7)).length) z5L)) (slen (y7d zhA).symm) ?_
       refine WL.repin (i:=0) rfl (u:=(.slice (some ⟨z84,0,none⟩) ((z5k.take (z5l : Int).toNat ++ List.replicate (z5k.length - (z5l : Int).toNat) ((⟨0,0⟩ : z7) : z7)).length) z5L)) (slen (y7d zhA).symm) ?_
       refine WL.nil ?_
       refine WX.a ?_
       refine WC.b ?_
       obtain ⟨zui,h⟩:=yl h
       refine WC.a ?_
       refine WL.a (d:=57) rfl rfl rfl (q_m rfl) ?_
       refine WL.a (d:=58) rfl rfl rfl (q_m rfl) ?_
       refine WL.yag (dd:=59) (enc:=e30) (ls:=z5k.take (z5l : Int).toNat ++ List.replicate (z5k.length - (z5l : Int).toNat) ((⟨0,0⟩ : z7) : z7)) rfl rfl y1K rfl rfl .here (fun _=>rfl) zui ?_
       intro zuj zuk
       refine WL.a (d:=2) rfl rfl rfl (q_z rfl) ?_
       refine WL.nil ?_
       refine WX.a ?_
       refine WC.ret ?_
       refine WX.yq ?_
       refine WX.y6 ?_
       refine WX.y6 ?_
       refine WX.yq ?_
       refine WX.y6 ?_
       obtain rfl:=Option.some.inj h
       refine WX.y7 Try.results78 (.tmp rfl .nil) (fun w hw=>?_)
       exact ⟨zuj,zuk,yD rfl,trivial,hw.sub (.cons .here .nil)⟩
     ·replace h:=yi h zkH
      refine WC.skip ?_
      refine WX.yg ?_
      exact WX.mid (G:=Option Addr × Nat) ⟨(some ⟨z84,0,none⟩),z5L⟩ h (.cons rfl (.cons rfl .nil)) (.cons .here .nil)
    ·rintro ze2 ze3 h
     replace h:=zud.symm.trans h
     refine WC.a ?_
     refine WL.a (d:=14) rfl rfl rfl (q_m rfl) ?_
     refine WL.a (d:=15) rfl rfl rfl (yW rfl rfl rfl) ?_
     refine WL.a (d:=3) rfl rfl rfl (q_z rfl) ?_
     refine WL.nil ?_
     exact WX.round (G:=Nat × Int × Option Addr × Nat) ⟨zkD,(i64 (zQ + 1)),ze2,ze3⟩ h (Nat.lt_succ_self _) (.cons rfl (.cons rfl .nil)) (.cons .here .nil)
   ·replace h:=yi h zkG
    refine WC.exit ?_
    refine WX.ye ?_
    refine WX.ye ?_
    refine WX.yx ?_
    exact WX.mid (G:=Option Addr × Nat) ⟨zcy,z5L⟩ h (.cons rfl .nil) (.cons .here .nil)
  ·rintro zdZ ze0 h
   replace h:=zuc.symm.trans h
   refine WC.b ?_
   refine WC.a ?_
   refine WL.a (d:=60) rfl rfl rfl (q_m rfl) ?_
   refine WL.a (d:=2) rfl rfl rfl (q_z rfl) ?_
   refine WL.nil ?_
   refine WX.a ?_
   refine WC.ret ?_
   obtain rfl:=Option.some.inj h
   refine WX.y7 Try.results78 (.tmp rfl .nil) (fun w hw=>?_)
   exact ⟨zdZ,ze0,yD rfl,trivial,hw.sub (.cons .here .nil)⟩
def y1a  (zd : z6 × z6) (zR : List z7) (z6P : Int) : Option (Bool × (Nat × List z7 × Int)) :=
 (yV zd.1.fB zd.2.fB).bind fun zkK=>if decide (zkK < 0) then (y1j (⟨z6P⟩ : z2h) (fun (y0 : z7) (y1 : z7)=>y1N y0 y1) zd.2.fB zd.1.fB).bind fun z8r=>(y1j z8r.2 (fun (y0 : z7) (y1 : z7)=>y1N y0 y1) zd.1.fR zd.2.fR).bind fun z8s=>(y1j z8s.2 (fun (y0 : z7) (y1 : z7)=>y2V y0 y1) z8r.1 z8s.1).bind fun z7K=>chk ((((zR ++ ([z7K.1] : List z7)).length : Nat) : Int) * 16 ≤ 140737488355328 ∧ (((zR ++ ([z7K.1] : List z7)).length : Nat) : Int) ≤ 4611686018427387904) (some (true,(0,(zR ++ ([z7K.1] : List z7)),z7K.2.fE))) else some (true,(0,zR,z6P))
def y1Z (z7L : List z6) : Option (List z7 × Int) :=
 (y2n z7L).bind fun zhB=>if !zhB then some (([] : List z7),2) else (y4e z7L).bind fun zcA=>jp2 (fun (z5C : Int) (z3M : List z7)=>if decide (z5C ≠ 0) then some (([] : List z7),z5C) else (y1r z3M (fun (y0 : z7) (y1 : z7)=>yV y0 y1)).bind fun z56=>(y1u z56).bind fun zkL=>some (zkL,0)) fun zkM=>(y3T zcA zcA).bind fun z2i=>(y30 (Nat × List z7 × Int) (fun (x : z6 × z6) (s : Nat × List z7 × Int)=>chk (s.1 = 0) (y1a x s.2.1 s.2.2)) (0,([] : List z7),0) z2i.1 z2i.2).bind fun z5Y=>zkM z5Y.2.2 z5Y.2.1
set_option maxRecDepth 20000 in
theorem y4m (Z : Zp)  (z9s : Option Addr) (z9t : Nat) (z7L : List z6) (r : List z7 × Int) (w₀ : World) (hz : PZ [] w₀ Z)
  (zpC : ZS Z 4 (fun r x=>r = e35 x) z9s z9t z7L)
  (h : y1Z z7L = some r) :
  Calls Try.prog 68 #[(.slice z9s z7L.length z9t)] w₀ fun e w'=>∃ Zn : Zp,∃ zpD : Option Addr,∃ zpE : Nat,e = .returned (.tuple #[(.slice zpD r.1.length zpE),(.int .i64 r.2)]) ∧ True ∧ Hp [] w₀ w' [fz Zn,row (.slice zpD r.1.length zpE) 30 2 (r.1.flatMap e30)]:=by
 unfold y1Z at h
 refine Calls.y6u (vs:=[(.slice z9s z7L.length z9t)]) (pre:=[]) (env:=[(0,(.slice z9s z7L.length z9t))]) Try.func68 rfl Try.ntmps68 rfl (Hp.nil w₀ _) rfl ?_
 refine WC.pool ?_
 refine WC.b ?_
 refine WC.a ?_
 refine WL.a (d:=2) rfl rfl rfl (q_z rfl) ?_
 refine WL.a (d:=3) rfl rfl rfl (q_z rfl) ?_
 refine WL.nil ?_
 refine WX.a ?_
 refine WC.b ?_
 refine WC.b ?_
 obtain ⟨zhB,zul,h⟩:=ze h
 refine WC.a ?_
 refine WL.a (d:=9) rfl rfl rfl (q_m rfl) ?_
 refine WL.b (dd:=10) rfl rfl rfl (zj (l:=[.tmp 9]) Try.call30 (.cons rfl .nil)) (.nil : Sel [fz []] [] [fz []]) (fun w hw=>by have pz:=(hz.call2 hw (.nil : Sel [fz []] [] [fz []]) .here); exact y3S (Z:=_) (z8U:=z9s) (z8V:=z9t) (z5B:=z7L) (r:=zhB) w pz (zpC.mono (Zle.left _ _)) zul) ?_
 refine WL.a (d:=11) rfl rfl rfl (y1m rfl) ?_
 refine WL.nil ?_
 refine WX.a ?_
 refine WC.cond rfl (fun zkN=>?_) (fun zkN=>?_)
 ·replace h:=yh h zkN
  refine WC.b ?_
  refine WC.a ?_
  refine WL.a (d:=2) rfl rfl rfl (q_z rfl) ?_
  refine WL.a (d:=3) rfl rfl rfl (q_z rfl) ?_
  refine WL.nil ?_
  refine WX.a ?_
  refine WC.ret ?_
  refine WX.y6 ?_
  refine WX.nilRow 30 2 ?_
  obtain rfl:=Option.some.inj h
  refine WX.y7g Try.results68 (.tmp rfl (.tmp rfl .nil)) (fun w hw=>?_)
  exact ⟨[],none,0,y1M rfl rfl,trivial,hw.sub (.cons .h1 (.cons .here .nil))⟩
 ·replace h:=yi h zkN
  refine WC.skip ?_
  refine WX.a ?_
  refine WC.b ?_
  refine WC.a ?_
  refine WL.new (dd:=4) rfl rfl rfl (ym (cs:=[(.int .i64 0)]) y93 rfl) ?_
  intro z1o _
  refine WL.nil ?_
  refine WX.a ?_
  refine WC.b ?_
  refine WC.a ?_
  refine WL.new (dd:=5) rfl rfl rfl (ym (cs:=[(.slice none 0 0)]) y7S rfl) ?_
  intro z1y _
  refine WL.nil ?_
  refine WX.a ?_
  refine WC.b ?_
  obtain ⟨zcA,zum,h⟩:=ze h
  refine WC.a ?_
  refine WL.a (d:=12) rfl rfl rfl (q_m rfl) ?_
  refine WL.y48 (dd:=13) rfl rfl rfl (zj (l:=[.tmp 12]) Try.call48 (.cons rfl .nil)) (.nil : Sel [stb z1y 77 [(.slice none 0 0)],stb z1o 90 [(.int .i64 0)],fz []] [] [stb z1y 77 [(.slice none 0 0)],stb z1o 90 [(.int .i64 0)],fz []]) (fun w hw=>by have pz:=(hz.call2 hw (.nil : Sel [stb z1y 77 [(.slice none 0 0)],stb z1o 90 [(.int .i64 0)],fz []] [] [stb z1y 77 [(.slice none 0 0)],stb z1o 90 [(.int .i64 0)],fz []]) .h2); exact y94 (Z:=_) (z8n:=z9s) (z8o:=z9t) (zk:=z7L) (r:=zcA) w pz (zpC.mono (Zle.left _ _)) zum) ?_
  rintro zpF zpG _
  refine WL.a (d:=6) rfl rfl rfl (q_z rfl) ?_
  refine WL.nil ?_
  refine WX.a ?_
  obtain ⟨zkM,zun,h⟩:=y4b h
  refine WC.y6v (fun (z6Q : Nat) (z5C : Int) (z3M : List z7) (z5Z : Zp) (z3s : Option Addr) (z3t : Nat)=>(zkM z5C z3M = some r) ∧ (Zle (Z ++ []) (Z ++ z5Z))) (fun (z6Q : Nat) (z5C : Int) (z3M : List z7) (z5Z : Zp) (z3s : Option Addr) (z3t : Nat)=>[(4,(.pointer (some ⟨z1o,0,none⟩))),(5,(.pointer (some ⟨z1y,0,none⟩)))]) (fun (z6Q : Nat) (z5C : Int) (z3M : List z7) (z5Z : Zp) (z3s : Option Addr) (z3t : Nat)=>[fz z5Z,stb z1o 90 [(.int .i64 z5C)],stb z1y 77 [(.slice z3s z3M.length z3t)],row (.slice z3s z3M.length z3t) 30 2 (z3M.flatMap e30),dfr z6Q]) ?_ ?_
  ·skip
   refine WC.b ?_
   refine WC.freezeS (ls:=zcA) .here .h2 hz (RR.flat (enc:=e35) (fun _=>rfl) _) ?_
   intro z60 zuo zpH
   obtain ⟨z2i,zup,h⟩:=ze h
   refine WC.a ?_
   refine WL.a (d:=14) rfl rfl rfl (q_m rfl) ?_
   refine WL.a (d:=15) rfl rfl rfl (q_m rfl) ?_
   refine WL.yac (dd:=16) rfl rfl rfl (zj (l:=[.tmp 14,.tmp 15]) Try.call76 (.cons rfl (.cons rfl .nil))) (.nil : Sel [fz z60,stb z1y 77 [(.slice none 0 0)],stb z1o 90 [(.int .i64 0)]] [] [fz z60,stb z1y 77 [(.slice none 0 0)],stb z1o 90 [(.int .i64 0)]]) (fun w hw=>by have pz:=(hz.call2 hw (.nil : Sel [fz z60,stb z1y 77 [(.slice none 0 0)],stb z1o 90 [(.int .i64 0)]] [] [fz z60,stb z1y 77 [(.slice none 0 0)],stb z1o 90 [(.int .i64 0)]]) .here); exact y8K (Z:=_) (zcm:=zpF) (zcn:=zpG) (zco:=zpF) (zcp:=zpG) (zad:=zcA) (zae:=zcA) (r:=z2i) w pz zpH zpH zup) ?_
   rintro z5m z5n z5D z5E z5F z5G ⟨zuq,zur⟩
   refine WL.nil ?_
   refine WX.a ?_
   refine WC.block ?_
   refine WC.pool ?_
   refine WC.drop (.cons .here (.cons .h3 (.cons .h3 (.cons .here (.cons .here (.cons .here .nil)))))) ?_
   refine WC.nilRow 30 2 ?_
   refine WC.rangeFunc (f:=89) (caps:=[(.pointer (some ⟨z5m,0,none⟩)),(.pointer (some ⟨z5n,0,none⟩))]) rfl Try.call89 ?_
   intro zB4 zB5 z2q z78 z2D zhC zus zut w hw
   have hw1:=hw.selAll ((.cons .h3 (.cons .h3 (.cons .h2 (.cons .h2 (.cons .here .nil))))) : Sel _ [fz [],stb z1y 77 [(.slice none (([] : List z7).length) 0)],row (.slice none (([] : List z7).length) 0) 30 2 (([] : List z7).flatMap e30),stb z1o 90 [(.int .i64 0)],blk z2q (z2D .ready none)] _)
   have pz:=(hz.call2 hw1 ((.cons .here .nil) : Sel [y1A [fz [],stb z1y 77 [(.slice none (([] : List z7).length) 0)],row (.slice none (([] : List z7).length) 0) 30 2 (([] : List z7).flatMap e30),stb z1o 90 [(.int .i64 0)],blk z2q (z2D .ready none)],dfr z78,stb z5m 39 [(.slice z5D z2i.1.length z5E)],stb z5n 39 [(.slice z5F z2i.2.length z5G)],fz z60] [y1A [fz [],stb z1y 77 [(.slice none (([] : List z7).length) 0)],row (.slice none (([] : List z7).length) 0) 30 2 (([] : List z7).flatMap e30),stb z1o 90 [(.int .i64 0)],blk z2q (z2D .ready none)]] [dfr z78,stb z5m 39 [(.slice z5D z2i.1.length z5E)],stb z5n 39 [(.slice z5F z2i.2.length z5G)],fz z60]) .h3).lend hw1 ((.cons .here .nil) : Sel [y1A [fz [],stb z1y 77 [(.slice none (([] : List z7).length) 0)],row (.slice none (([] : List z7).length) 0) 30 2 (([] : List z7).flatMap e30),stb z1o 90 [(.int .i64 0)],blk z2q (z2D .ready none)],dfr z78,stb z5m 39 [(.slice z5D z2i.1.length z5E)],stb z5n 39 [(.slice z5F z2i.2.length z5G)],fz z60] [y1A [fz [],stb z1y 77 [(.slice none (([] : List z7).length) 0)],row (.slice none (([] : List z7).length) 0) 30 2 (([] : List z7).flatMap e30),stb z1o 90 [(.int .i64 0)],blk z2q (z2D .ready none)]] [dfr z78,stb z5m 39 [(.slice z5D z2i.1.length z5E)],stb z5n 39 [(.slice z5F z2i.2.length z5G)],fz z60]) (B:=[stb z5m 39 [(.slice z5D z2i.1.length z5E)],stb z5n 39 [(.slice z5F z2i.2.length z5G)]]) (fun _ hx'=>((.cons .h1 (.cons .h1 .nil)) : Sel _ [stb z5m 39 [(.slice z5D z2i.1.length z5E)],stb z5n 39 [(.slice z5F z2i.2.length z5G)]] _).mem hx')
   obtain ⟨z5Y,zuu,h⟩:=ze h
   refine Calls.mono (y84 (Z:=_) (zai:=z2q) (z3R:=(Option Addr × Nat)) (z7l:=(fun (g : Option Addr × Nat) (s : Nat × List z7 × Int)=>y1A ([fz [],stb z1y 77 [(.slice g.1 s.2.1.length g.2)],row (.slice g.1 s.2.1.length g.2) 30 2 (s.2.1.flatMap e30),stb z1o 90 [(.int .i64 s.2.2)]] ++ [blk z2q (z2D (rdy (pcs [] s.1)) (pcs [] s.1))]))) (zaj:=(fun (g : Option Addr × Nat) (s : Nat × List z7 × Int)=>True)) (zbj:=(none,0)) (zfu:=⟨z5m,0,none⟩) (zcr:=z5D) (zcs:=z5E) (zak:=⟨z5n,0,none⟩) (zhi:=z5F) (zhj:=z5G) (z1a:=(Nat × List z7 × Int)) (z6M:=(fun (x : z6 × z6) (s : Nat × List z7 × Int)=>chk (s.1 = 0) (y1a x s.2.1 s.2.2))) (s0_5333:=(0,([] : List z7),0)) (z23:=z2i.1) (z2m:=z2i.2) (r:=z5Y) w pz ?_ trivial (zuq.mono (Zle.left _ _)) ((hw1.lent ((.cons .here .nil) : Sel [y1A [fz [],stb z1y 77 [(.slice none (([] : List z7).length) 0)],row (.slice none (([] : List z7).length) 0) 30 2 (([] : List z7).flatMap e30),stb z1o 90 [(.int .i64 0)],blk z2q (z2D .ready none)],dfr z78,stb z5m 39 [(.slice z5D z2i.1.length z5E)],stb z5n 39 [(.slice z5F z2i.2.length z5G)],fz z60] [y1A [fz [],stb z1y 77 [(.slice none (([] : List z7).length) 0)],row (.slice none (([] : List z7).length) 0) 30 2 (([] : List z7).flatMap e30),stb z1o 90 [(.int .i64 0)],blk z2q (z2D .ready none)]] [dfr z78,stb z5m 39 [(.slice z5D z2i.1.length z5E)],stb z5n 39 [(.slice z5F z2i.2.length z5G)],fz z60]) (B:=[stb z5m 39 [(.slice z5D z2i.1.length z5E)],stb z5n 39 [(.slice z5F z2i.2.length z5G)]]) (fun _ hx'=>((.cons .h1 (.cons .h1 .nil)) : Sel _ [stb z5m 39 [(.slice z5D z2i.1.length z5E)],stb z5n 39 [(.slice z5F z2i.2.length z5G)]] _).mem hx') (.head _) _).stb) (zur.mono (Zle.left _ _)) ((hw1.lent ((.cons .here .nil) : Sel [y1A [fz [],stb z1y 77 [(.slice none (([] : List z7).length) 0)],row (.slice none (([] : List z7).length) 0) 30 2 (([] : List z7).flatMap e30),stb z1o 90 [(.int .i64 0)],blk z2q (z2D .ready none)],dfr z78,stb z5m 39 [(.slice z5D z2i.1.length z5E)],stb z5n 39 [(.slice z5F z2i.2.length z5G)],fz z60] [y1A [fz [],stb z1y 77 [(.slice none (([] : List z7).length) 0)],row (.slice none (([] : List z7).length) 0) 30 2 (([] : List z7).flatMap e30),stb z1o 90 [(.int .i64 0)],blk z2q (z2D .ready none)]] [dfr z78,stb z5m 39 [(.slice z5D z2i.1.length z5E)],stb z5n 39 [(.slice z5F z2i.2.length z5G)],fz z60]) (B:=[stb z5m 39 [(.slice z5D z2i.1.length z5E)],stb z5n 39 [(.slice z5F z2i.2.length z5G)]]) (fun _ hx'=>((.cons .h1 (.cons .h1 .nil)) : Sel _ [stb z5m 39 [(.slice z5D z2i.1.length z5E)],stb z5n 39 [(.slice z5F z2i.2.length z5G)]] _).mem hx') (.tail _ (.head _)) _).stb) zuu (hw1.owns ((.cons .here .nil) : Sel [y1A [fz [],stb z1y 77 [(.slice none (([] : List z7).length) 0)],row (.slice none (([] : List z7).length) 0) 30 2 (([] : List z7).flatMap e30),stb z1o 90 [(.int .i64 0)],blk z2q (z2D .ready none)],dfr z78,stb z5m 39 [(.slice z5D z2i.1.length z5E)],stb z5n 39 [(.slice z5F z2i.2.length z5G)],fz z60] [y1A [fz [],stb z1y 77 [(.slice none (([] : List z7).length) 0)],row (.slice none (([] : List z7).length) 0) 30 2 (([] : List z7).flatMap e30),stb z1o 90 [(.int .i64 0)],blk z2q (z2D .ready none)]] [dfr z78,stb z5m 39 [(.slice z5D z2i.1.length z5E)],stb z5n 39 [(.slice z5F z2i.2.length z5G)],fz z60]))) ?_
   ·skip
    refine y7f (LI:=(fun (g : Option Addr × Nat) (s : Nat × List z7 × Int)=>[fz [],stb z1y 77 [(.slice g.1 s.2.1.length g.2)],row (.slice g.1 s.2.1.length g.2) 30 2 (s.2.1.flatMap e30),stb z1o 90 [(.int .i64 s.2.2)]])) (pc:=(fun (s : Nat × List z7 × Int)=>pcs [] s.1)) zhC zus zut (fun _ _=>rfl) (by decide) ?_
    rintro zd _ ⟨z2c,z2d⟩ ⟨zuv,zR,z6P⟩ zuw zux Fb wb zpI _ hz
    replace hz:=hz.left
    letI : Rnd:=inR z2q
    obtain ⟨hp0,z61⟩:=yl zpI
    replace hp0 : zuv = 0:=hp0; subst hp0; clear zpI
    replace z61 : y1a zd zR z6P = some (zuw,zux):=z61
    unfold y1a at z61
    refine WC.restr (env':=[(11,(.bool (!zhB))),(4,(.pointer (some ⟨z1o,0,none⟩))),(5,(.pointer (some ⟨z1y,0,none⟩))),(17,(.agg #[(.int .i64 zd.1.fB.fN),(.int .i64 zd.1.fB.fD),(.int .i64 zd.1.fR.fN),(.int .i64 zd.1.fR.fD)])),(18,(.agg #[(.int .i64 zd.2.fB.fN),(.int .i64 zd.2.fB.fD),(.int .i64 zd.2.fR.fN),(.int .i64 zd.2.fR.fD)]))]) (.cons rfl (.cons rfl (.cons rfl (.cons rfl (.cons rfl .nil))))) ?_
    refine WC.eqL (L':=[fz [],stb z1y 77 [(.slice z2c zR.length z2d)],row (.slice z2c zR.length z2d) 30 2 (zR.flatMap e30),stb z1o 90 [(.int .i64 z6P)],blk z2q (z2D .ready none)]) rfl ?_
    refine WC.b ?_
    refine WC.a ?_
    refine WL.new (dd:=7) rfl rfl rfl (ym (cs:=[(.int .i64 0),(.int .i64 0),(.int .i64 0),(.int .i64 0)]) y3J rfl) ?_
    intro z57 _
    refine WL.yb rfl rfl (yc (vs:=[(.int .i64 zd.1.fB.fN),(.int .i64 zd.1.fB.fD),(.int .i64 zd.1.fR.fN),(.int .i64 zd.1.fR.fD)]) (ds:=[(.int .i64 zd.1.fB.fN),(.int .i64 zd.1.fB.fD),(.int .i64 zd.1.fR.fN),(.int .i64 zd.1.fR.fD)]) y3X rfl rfl rfl rfl (y2 rfl (y2 rfl (y2 rfl (y2 rfl yk)))) .here (Nat.le_of_ble_eq_true rfl) rfl) ?_
    refine WL.nil ?_
    refine WX.a ?_
    refine WC.a ?_
    refine WL.new (dd:=8) rfl rfl rfl (ym (cs:=[(.int .i64 0),(.int .i64 0),(.int .i64 0),(.int .i64 0)]) y3J rfl) ?_
    intro z58 _
    refine WL.yb rfl rfl (yc (vs:=[(.int .i64 zd.2.fB.fN),(.int .i64 zd.2.fB.fD),(.int .i64 zd.2.fR.fN),(.int .i64 zd.2.fR.fD)]) (ds:=[(.int .i64 zd.2.fB.fN),(.int .i64 zd.2.fB.fD),(.int .i64 zd.2.fR.fN),(.int .i64 zd.2.fR.fD)]) y3X rfl rfl rfl rfl (y2 rfl (y2 rfl (y2 rfl (y2 rfl yk)))) .here (Nat.le_of_ble_eq_true rfl) rfl) ?_
    refine WL.nil ?_
    refine WX.y7P zhC .h6 ?_
    refine WC.block ?_
    refine WC.b ?_
    obtain ⟨zkK,zuy,z61⟩:=ze z61
    refine WC.a ?_
    refine WL.a (d:=19) rfl rfl rfl (y3 y3Y rfl rfl) ?_
    refine WL.a (d:=20) rfl rfl rfl (y4 (cs:=[(.int .i64 zd.1.fB.fN),(.int .i64 zd.1.fB.fD)]) y5 rfl rfl (y1U (s:=2) .h2 rfl)) ?_
    refine WL.a (d:=21) rfl rfl rfl (y3 y3Y rfl rfl) ?_
    refine WL.a (d:=22) rfl rfl rfl (y4 (cs:=[(.int .i64 zd.2.fB.fN),(.int .i64 zd.2.fB.fD)]) y5 rfl rfl (y1U (s:=2) .h1 rfl)) ?_
    refine WL.b (dd:=23) rfl rfl rfl (zj (l:=[.tmp 20,.tmp 22]) Try.call18 (.cons rfl (.cons rfl .nil))) (.nil : Sel [blk z2q (z2D .busy none),stb z58 35 [(.int .i64 zd.2.fB.fN),(.int .i64 zd.2.fB.fD),(.int .i64 zd.2.fR.fN),(.int .i64 zd.2.fR.fD)],stb z57 35 [(.int .i64 zd.1.fB.fN),(.int .i64 zd.1.fB.fD),(.int .i64 zd.1.fR.fN),(.int .i64 zd.1.fR.fD)],fz [],stb z1y 77 [(.slice z2c zR.length z2d)],row (.slice z2c zR.length z2d) 30 2 (zR.flatMap e30),stb z1o 90 [(.int .i64 z6P)]] [] [blk z2q (z2D .busy none),stb z58 35 [(.int .i64 zd.2.fB.fN),(.int .i64 zd.2.fB.fD),(.int .i64 zd.2.fR.fN),(.int .i64 zd.2.fR.fD)],stb z57 35 [(.int .i64 zd.1.fB.fN),(.int .i64 zd.1.fB.fD),(.int .i64 zd.1.fR.fN),(.int .i64 zd.1.fR.fD)],fz [],stb z1y 77 [(.slice z2c zR.length z2d)],row (.slice z2c zR.length z2d) 30 2 (zR.flatMap e30),stb z1o 90 [(.int .i64 z6P)]]) (fun w hw=>by have pz:=(hz.call2 hw (.nil : Sel [blk z2q (z2D .busy none),stb z58 35 [(.int .i64 zd.2.fB.fN),(.int .i64 zd.2.fB.fD),(.int .i64 zd.2.fR.fN),(.int .i64 zd.2.fR.fD)],stb z57 35 [(.int .i64 zd.1.fB.fN),(.int .i64 zd.1.fB.fD),(.int .i64 zd.1.fR.fN),(.int .i64 zd.1.fR.fD)],fz [],stb z1y 77 [(.slice z2c zR.length z2d)],row (.slice z2c zR.length z2d) 30 2 (zR.flatMap e30),stb z1o 90 [(.int .i64 z6P)]] [] [blk z2q (z2D .busy none),stb z58 35 [(.int .i64 zd.2.fB.fN),(.int .i64 zd.2.fB.fD),(.int .i64 zd.2.fR.fN),(.int .i64 zd.2.fR.fD)],stb z57 35 [(.int .i64 zd.1.fB.fN),(.int .i64 zd.1.fB.fD),(.int .i64 zd.1.fR.fN),(.int .i64 zd.1.fR.fD)],fz [],stb z1y 77 [(.slice z2c zR.length z2d)],row (.slice z2c zR.length z2d) 30 2 (zR.flatMap e30),stb z1o 90 [(.int .i64 z6P)]]) .h3); exact y26 (Z:=_)  (z29:=zd.1.fB) (z2a:=zd.2.fB) (r:=zkK) w pz  zuy) ?_
    refine WL.a (d:=24) rfl rfl rfl (y1c rfl rfl) ?_
    refine WL.nil ?_
    refine WX.a ?_
    refine WC.cond rfl (fun zkO=>?_) (fun zkO=>?_)
    ·replace z61:=yh z61 zkO
     obtain ⟨z8r,zuz,z61⟩:=ze z61
     obtain ⟨z8s,zuA,z61⟩:=ze z61
     obtain ⟨z7K,zuB,z61⟩:=ze z61
     obtain ⟨zuC,z61⟩:=yl z61
     refine WC.yY (fun i=>[5,10,11,13,14].contains i) [stbp z1y 77 [(0,(.slice z2c zR.length z2d))],stb z57 35 [(.int .i64 zd.1.fB.fN),(.int .i64 zd.1.fB.fD),(.int .i64 zd.1.fR.fN),(.int .i64 zd.1.fR.fD)],stb z58 35 [(.int .i64 zd.2.fB.fN),(.int .i64 zd.2.fB.fD),(.int .i64 zd.2.fR.fN),(.int .i64 zd.2.fR.fD)]] rfl ?_
     refine WD.y2B (i:=0) (d:=25) (by kernel_rfl) rfl (z8 (by kernel_rfl)) (za (by kernel_rfl)) rfl rfl rfl (Sin.wk (.cons .h4 (.cons .h2 (.cons .h1 .nil))) (.stb (.cons rfl .nil) (.same (.same .nil)))) (ya y3z rfl (y7w .here (.head _))) ?_
     refine WD.a (i:=1) (d:=26) (by kernel_rfl) rfl (z8 (by kernel_rfl)) (za (by kernel_rfl)) rfl rfl rfl (fun _=>y3 y3Y rfl rfl) ?_
     refine WD.e (i:=2) (d:=27) (by kernel_rfl) rfl (z8 (by kernel_rfl)) (za (by kernel_rfl)) rfl rfl rfl (y4 (cs:=[(.int .i64 zd.2.fB.fN),(.int .i64 zd.2.fB.fD)]) y5 rfl rfl (y1U (s:=2) .h1 rfl)) ?_
     refine WD.a (i:=3) (d:=28) (by kernel_rfl) rfl (z8 (by kernel_rfl)) (za (by kernel_rfl)) rfl rfl rfl (fun _=>y3 y3Y rfl rfl) ?_
     refine WD.e (i:=4) (d:=29) (by kernel_rfl) rfl (z8 (by kernel_rfl)) (za (by kernel_rfl)) rfl rfl rfl (y4 (cs:=[(.int .i64 zd.1.fB.fN),(.int .i64 zd.1.fB.fD)]) y5 rfl rfl (y1U (s:=2) .h2 rfl)) ?_
     refine WD.a (i:=6) (d:=31) (by kernel_rfl) rfl (z8 (by kernel_rfl)) (za (by kernel_rfl)) rfl rfl rfl (fun _=>y3 y4P rfl rfl) ?_
     refine WD.y2B (i:=7) (d:=32) (by kernel_rfl) rfl (z8 (by kernel_rfl)) (za (by kernel_rfl)) rfl rfl rfl (Sin.wk (.cons .h4 (.cons .h2 (.cons .h1 .nil))) (.stb (.cons rfl .nil) (.same (.same .nil)))) (y4 (cs:=[(.int .i64 zd.1.fR.fN),(.int .i64 zd.1.fR.fD)]) y5 rfl rfl (y1U (s:=2) .h1 rfl)) ?_
     refine WD.a (i:=8) (d:=33) (by kernel_rfl) rfl (z8 (by kernel_rfl)) (za (by kernel_rfl)) rfl rfl rfl (fun _=>y3 y4P rfl rfl) ?_
     refine WD.y2B (i:=9) (d:=34) (by kernel_rfl) rfl (z8 (by kernel_rfl)) (za (by kernel_rfl)) rfl rfl rfl (Sin.wk (.cons .h4 (.cons .h2 (.cons .h1 .nil))) (.stb (.cons rfl .nil) (.same (.same .nil)))) (y4 (cs:=[(.int .i64 zd.2.fR.fN),(.int .i64 zd.2.fR.fD)]) y5 rfl rfl (y1U (s:=2) .h2 rfl)) ?_
     refine WD.call0 (i:=5) (dd:=30) rfl (by kernel_rfl) rfl rfl rfl (.inl ⟨rfl,(Sin.wk (.cons .h5 (.cons .h3 (.cons .h2 .nil))) (.stb (.cons rfl .nil) (.same (.same .nil))))⟩) (zj (l:=[.tmp 4,.func 24,.tmp 27,.tmp 29]) Try.call58 (.cons rfl (.cons rfl (.cons rfl (.cons rfl .nil))))) ((.cons .h6 .nil) : Sel [blk z2q (z2D .busy none),stb z58 35 [(.int .i64 zd.2.fB.fN),(.int .i64 zd.2.fB.fD),(.int .i64 zd.2.fR.fN),(.int .i64 zd.2.fR.fD)],stb z57 35 [(.int .i64 zd.1.fB.fN),(.int .i64 zd.1.fB.fD),(.int .i64 zd.1.fR.fN),(.int .i64 zd.1.fR.fD)],fz [],stb z1y 77 [(.slice z2c zR.length z2d)],row (.slice z2c zR.length z2d) 30 2 (zR.flatMap e30),stb z1o 90 [(.int .i64 z6P)]] [stb z1o 90 [(.int .i64 z6P)]] [blk z2q (z2D .busy none),stb z58 35 [(.int .i64 zd.2.fB.fN),(.int .i64 zd.2.fB.fD),(.int .i64 zd.2.fR.fN),(.int .i64 zd.2.fR.fD)],stb z57 35 [(.int .i64 zd.1.fB.fN),(.int .i64 zd.1.fB.fD),(.int .i64 zd.1.fR.fN),(.int .i64 zd.1.fR.fD)],fz [],stb z1y 77 [(.slice z2c zR.length z2d)],row (.slice z2c zR.length z2d) 30 2 (zR.flatMap e30)]) (fun w hw=>by have pz:=(hz.call2 hw ((.cons .h6 .nil) : Sel [blk z2q (z2D .busy none),stb z58 35 [(.int .i64 zd.2.fB.fN),(.int .i64 zd.2.fB.fD),(.int .i64 zd.2.fR.fN),(.int .i64 zd.2.fR.fD)],stb z57 35 [(.int .i64 zd.1.fB.fN),(.int .i64 zd.1.fB.fD),(.int .i64 zd.1.fR.fN),(.int .i64 zd.1.fR.fD)],fz [],stb z1y 77 [(.slice z2c zR.length z2d)],row (.slice z2c zR.length z2d) 30 2 (zR.flatMap e30),stb z1o 90 [(.int .i64 z6P)]] [stb z1o 90 [(.int .i64 z6P)]] [blk z2q (z2D .busy none),stb z58 35 [(.int .i64 zd.2.fB.fN),(.int .i64 zd.2.fB.fD),(.int .i64 zd.2.fR.fN),(.int .i64 zd.2.fR.fD)],stb z57 35 [(.int .i64 zd.1.fB.fN),(.int .i64 zd.1.fB.fD),(.int .i64 zd.1.fR.fN),(.int .i64 zd.1.fR.fD)],fz [],stb z1y 77 [(.slice z2c zR.length z2d)],row (.slice z2c zR.length z2d) 30 2 (zR.flatMap e30)]) .h3); exact Calls.mono (y3l (Z:=_) (z7I:=z1o) (z8p:=24) (z9r:=[]) (z7H:=(⟨z6P⟩ : z2h)) (zal:=(fun (y0 : z7) (y1 : z7)=>y1N y0 y1)) (z5W:=zd.2.fB) (z5X:=zd.1.fB) (r:=z8r) w pz Try.call24 (fun w' hz' y0 y1  r  hr=>y5n (Z:=_)  (z49:=y0) (z4a:=y1) (r:=r) w' hz'  hr) zuz (hw.owns ((.cons .h6 .nil) : Sel [blk z2q (z2D .busy none),stb z58 35 [(.int .i64 zd.2.fB.fN),(.int .i64 zd.2.fB.fD),(.int .i64 zd.2.fR.fN),(.int .i64 zd.2.fR.fD)],stb z57 35 [(.int .i64 zd.1.fB.fN),(.int .i64 zd.1.fB.fD),(.int .i64 zd.1.fR.fN),(.int .i64 zd.1.fR.fD)],fz [],stb z1y 77 [(.slice z2c zR.length z2d)],row (.slice z2c zR.length z2d) 30 2 (zR.flatMap e30),stb z1o 90 [(.int .i64 z6P)]] [stb z1o 90 [(.int .i64 z6P)]] [blk z2q (z2D .busy none),stb z58 35 [(.int .i64 zd.2.fB.fN),(.int .i64 zd.2.fB.fD),(.int .i64 zd.2.fR.fN),(.int .i64 zd.2.fR.fD)],stb z57 35 [(.int .i64 zd.1.fB.fN),(.int .i64 zd.1.fB.fD),(.int .i64 zd.1.fR.fN),(.int .i64 zd.1.fR.fD)],fz [],stb z1y 77 [(.slice z2c zR.length z2d)],row (.slice z2c zR.length z2d) 30 2 (zR.flatMap e30)]))) (fun _ _ h'=>⟨h'.1,trivial,h'.2⟩)) ?_
     intro _
     refine WD.call0 (i:=10) (dd:=35) rfl (by kernel_rfl) rfl rfl rfl (.inl ⟨rfl,(Sin.wk (.cons .h5 (.cons .h3 (.cons .h2 .nil))) (.stb (.cons rfl .nil) (.same (.same .nil))))⟩) (zj (l:=[.tmp 4,.func 24,.tmp 32,.tmp 34]) Try.call58 (.cons rfl (.cons rfl (.cons rfl (.cons rfl .nil))))) ((.cons .here .nil) : Sel [stb z1o 90 [(.int .i64 z8r.2.fE)],blk z2q (z2D .busy none),stb z58 35 [(.int .i64 zd.2.fB.fN),(.int .i64 zd.2.fB.fD),(.int .i64 zd.2.fR.fN),(.int .i64 zd.2.fR.fD)],stb z57 35 [(.int .i64 zd.1.fB.fN),(.int .i64 zd.1.fB.fD),(.int .i64 zd.1.fR.fN),(.int .i64 zd.1.fR.fD)],fz [],stb z1y 77 [(.slice z2c zR.length z2d)],row (.slice z2c zR.length z2d) 30 2 (zR.flatMap e30)] [stb z1o 90 [(.int .i64 z8r.2.fE)]] [blk z2q (z2D .busy none),stb z58 35 [(.int .i64 zd.2.fB.fN),(.int .i64 zd.2.fB.fD),(.int .i64 zd.2.fR.fN),(.int .i64 zd.2.fR.fD)],stb z57 35 [(.int .i64 zd.1.fB.fN),(.int .i64 zd.1.fB.fD),(.int .i64 zd.1.fR.fN),(.int .i64 zd.1.fR.fD)],fz [],stb z1y 77 [(.slice z2c zR.length z2d)],row (.slice z2c zR.length z2d) 30 2 (zR.flatMap e30)]) (fun w hw=>by have pz:=(hz.call2 hw ((.cons .here .nil) : Sel [stb z1o 90 [(.int .i64 z8r.2.fE)],blk z2q (z2D .busy none),stb z58 35 [(.int .i64 zd.2.fB.fN),(.int .i64 zd.2.fB.fD),(.int .i64 zd.2.fR.fN),(.int .i64 zd.2.fR.fD)],stb z57 35 [(.int .i64 zd.1.fB.fN),(.int .i64 zd.1.fB.fD),(.int .i64 zd.1.fR.fN),(.int .i64 zd.1.fR.fD)],fz [],stb z1y 77 [(.slice z2c zR.length z2d)],row (.slice z2c zR.length z2d) 30 2 (zR.flatMap e30)] [stb z1o 90 [(.int .i64 z8r.2.fE)]] [blk z2q (z2D .busy none),stb z58 35 [(.int .i64 zd.2.fB.fN),(.int .i64 zd.2.fB.fD),(.int .i64 zd.2.fR.fN),(.int .i64 zd.2.fR.fD)],stb z57 35 [(.int .i64 zd.1.fB.fN),(.int .i64 zd.1.fB.fD),(.int .i64 zd.1.fR.fN),(.int .i64 zd.1.fR.fD)],fz [],stb z1y 77 [(.slice z2c zR.length z2d)],row (.slice z2c zR.length z2d) 30 2 (zR.flatMap e30)]) .h3); exact Calls.mono (y3l (Z:=_) (z7I:=z1o) (z8p:=24) (z9r:=[]) (z7H:=z8r.2) (zal:=(fun (y0 : z7) (y1 : z7)=>y1N y0 y1)) (z5W:=zd.1.fR) (z5X:=zd.2.fR) (r:=z8s) w pz Try.call24 (fun w' hz' y0 y1  r  hr=>y5n (Z:=_)  (z49:=y0) (z4a:=y1) (r:=r) w' hz'  hr) zuA (hw.owns ((.cons .here .nil) : Sel [stb z1o 90 [(.int .i64 z8r.2.fE)],blk z2q (z2D .busy none),stb z58 35 [(.int .i64 zd.2.fB.fN),(.int .i64 zd.2.fB.fD),(.int .i64 zd.2.fR.fN),(.int .i64 zd.2.fR.fD)],stb z57 35 [(.int .i64 zd.1.fB.fN),(.int .i64 zd.1.fB.fD),(.int .i64 zd.1.fR.fN),(.int .i64 zd.1.fR.fD)],fz [],stb z1y 77 [(.slice z2c zR.length z2d)],row (.slice z2c zR.length z2d) 30 2 (zR.flatMap e30)] [stb z1o 90 [(.int .i64 z8r.2.fE)]] [blk z2q (z2D .busy none),stb z58 35 [(.int .i64 zd.2.fB.fN),(.int .i64 zd.2.fB.fD),(.int .i64 zd.2.fR.fN),(.int .i64 zd.2.fR.fD)],stb z57 35 [(.int .i64 zd.1.fB.fN),(.int .i64 zd.1.fB.fD),(.int .i64 zd.1.fR.fN),(.int .i64 zd.1.fR.fD)],fz [],stb z1y 77 [(.slice z2c zR.length z2d)],row (.slice z2c zR.length z2d) 30 2 (zR.flatMap e30)]))) (fun _ _ h'=>⟨h'.1,trivial,h'.2⟩)) ?_
     intro _
     refine WD.call0 (i:=11) (dd:=36) rfl (by kernel_rfl) rfl rfl rfl (.inl ⟨rfl,(Sin.wk (.cons .h5 (.cons .h3 (.cons .h2 .nil))) (.stb (.cons rfl .nil) (.same (.same .nil))))⟩) (zj (l:=[.tmp 4,.func 34,.tmp 30,.tmp 35]) Try.call58 (.cons rfl (.cons rfl (.cons rfl (.cons rfl .nil))))) ((.cons .here .nil) : Sel [stb z1o 90 [(.int .i64 z8s.2.fE)],blk z2q (z2D .busy none),stb z58 35 [(.int .i64 zd.2.fB.fN),(.int .i64 zd.2.fB.fD),(.int .i64 zd.2.fR.fN),(.int .i64 zd.2.fR.fD)],stb z57 35 [(.int .i64 zd.1.fB.fN),(.int .i64 zd.1.fB.fD),(.int .i64 zd.1.fR.fN),(.int .i64 zd.1.fR.fD)],fz [],stb z1y 77 [(.slice z2c zR.length z2d)],row (.slice z2c zR.length z2d) 30 2 (zR.flatMap e30)] [stb z1o 90 [(.int .i64 z8s.2.fE)]] [blk z2q (z2D .busy none),stb z58 35 [(.int .i64 zd.2.fB.fN),(.int .i64 zd.2.fB.fD),(.int .i64 zd.2.fR.fN),(.int .i64 zd.2.fR.fD)],stb z57 35 [(.int .i64 zd.1.fB.fN),(.int .i64 zd.1.fB.fD),(.int .i64 zd.1.fR.fN),(.int .i64 zd.1.fR.fD)],fz [],stb z1y 77 [(.slice z2c zR.length z2d)],row (.slice z2c zR.length z2d) 30 2 (zR.flatMap e30)]) (fun w hw=>by have pz:=(hz.call2 hw ((.cons .here .nil) : Sel [stb z1o 90 [(.int .i64 z8s.2.fE)],blk z2q (z2D .busy none),stb z58 35 [(.int .i64 zd.2.fB.fN),(.int .i64 zd.2.fB.fD),(.int .i64 zd.2.fR.fN),(.int .i64 zd.2.fR.fD)],stb z57 35 [(.int .i64 zd.1.fB.fN),(.int .i64 zd.1.fB.fD),(.int .i64 zd.1.fR.fN),(.int .i64 zd.1.fR.fD)],fz [],stb z1y 77 [(.slice z2c zR.length z2d)],row (.slice z2c zR.length z2d) 30 2 (zR.flatMap e30)] [stb z1o 90 [(.int .i64 z8s.2.fE)]] [blk z2q (z2D .busy none),stb z58 35 [(.int .i64 zd.2.fB.fN),(.int .i64 zd.2.fB.fD),(.int .i64 zd.2.fR.fN),(.int .i64 zd.2.fR.fD)],stb z57 35 [(.int .i64 zd.1.fB.fN),(.int .i64 zd.1.fB.fD),(.int .i64 zd.1.fR.fN),(.int .i64 zd.1.fR.fD)],fz [],stb z1y 77 [(.slice z2c zR.length z2d)],row (.slice z2c zR.length z2d) 30 2 (zR.flatMap e30)]) .h3); exact Calls.mono (y3l (Z:=_) (z7I:=z1o) (z8p:=34) (z9r:=[]) (z7H:=z8s.2) (zal:=(fun (y0 : z7) (y1 : z7)=>y2V y0 y1)) (z5W:=z8r.1) (z5X:=z8s.1) (r:=z7K) w pz Try.call34 (fun w' hz' y0 y1  r  hr=>y8w (Z:=_)  (z4N:=y0) (z4O:=y1) (r:=r) w' hz'  hr) zuB (hw.owns ((.cons .here .nil) : Sel [stb z1o 90 [(.int .i64 z8s.2.fE)],blk z2q (z2D .busy none),stb z58 35 [(.int .i64 zd.2.fB.fN),(.int .i64 zd.2.fB.fD),(.int .i64 zd.2.fR.fN),(.int .i64 zd.2.fR.fD)],stb z57 35 [(.int .i64 zd.1.fB.fN),(.int .i64 zd.1.fB.fD),(.int .i64 zd.1.fR.fN),(.int .i64 zd.1.fR.fD)],fz [],stb z1y 77 [(.slice z2c zR.length z2d)],row (.slice z2c zR.length z2d) 30 2 (zR.flatMap e30)] [stb z1o 90 [(.int .i64 z8s.2.fE)]] [blk z2q (z2D .busy none),stb z58 35 [(.int .i64 zd.2.fB.fN),(.int .i64 zd.2.fB.fD),(.int .i64 zd.2.fR.fN),(.int .i64 zd.2.fR.fD)],stb z57 35 [(.int .i64 zd.1.fB.fN),(.int .i64 zd.1.fB.fD),(.int .i64 zd.1.fR.fN),(.int .i64 zd.1.fR.fD)],fz [],stb z1y 77 [(.slice z2c zR.length z2d)],row (.slice z2c zR.length z2d) 30 2 (zR.flatMap e30)]))) (fun _ _ h'=>⟨h'.1,trivial,h'.2⟩)) ?_
     intro _
     refine WD.new (i:=12) (dd:=37) rfl (by kernel_rfl) rfl rfl rfl (yB (cs:=([z7K.1] : List z7).flatMap e30) y1K (Eos.parts (l:=[.tmp 36]) (.cons rfl .nil) [0]) (fun _=>by kernel_rfl) rfl (by unfold maxLen; omega)) (fun h'=>absurd h' (by decide)) ?_
     intro zB6 _
     refine WD.old (i:=13) (dd:=38) rfl (by kernel_rfl) rfl rfl rfl rfl (fun _=>(Sin.wk (.cons .h7 (.cons .h5 (.cons .h4 .nil))) (.stb (.cons rfl .nil) (.same (.same .nil))))) (y4c (enc:=e30) (l1:=zR) (l2:=([z7K.1] : List z7)) y1K rfl rfl .h7 (fun _=>rfl) rfl rfl (y4a .here) (y4L y81 _) zuC) ?_
     rintro ⟨zfH,zfI⟩ _
     refine WD.y6P (i:=14) rfl (by kernel_rfl) rfl rfl rfl (by kernel_rfl) (yc (vs:=[(.slice zfH ((zR ++ ([z7K.1] : List z7)).length) zfI)]) (ds:=[(.slice zfH ((zR ++ ([z7K.1] : List z7)).length) zfI)]) y8h rfl rfl rfl rfl (y2 rfl yk) .h7 (Nat.le_of_ble_eq_true rfl) rfl) ?_
     refine WD.done (by kernel_rfl) ?_
     refine WX.yg ?_
     obtain ⟨rfl,rfl⟩:=y6F z61
     exact WX.y4j zhC .h4 (fun w' hw'=>⟨(zfH,zfI),rfl,trivial,(hw'.selAll ((.cons .h7 (.cons .h1 (.cons .h1 (.cons .h2 (.cons .here .nil))))) : Sel _ [fz [],stb z1y 77 [(.slice zfH ((zR ++ ([z7K.1] : List z7)).length) zfI)],row (.slice zfH ((zR ++ ([z7K.1] : List z7)).length) zfI) 30 2 ((zR ++ ([z7K.1] : List z7)).flatMap e30),stb z1o 90 [(.int .i64 z7K.2.fE)],blk z2q (z2D .ready none)] _)).sub (.cons .here .nil)⟩)
    ·replace z61:=yi z61 zkO
     refine WC.skip ?_
     refine WX.yg ?_
     obtain ⟨rfl,rfl⟩:=y6F z61
     exact WX.y4j zhC .here (fun w' hw'=>⟨(z2c,z2d),rfl,trivial,(hw'.selAll ((.cons .h3 (.cons .h3 (.cons .h3 (.cons .h3 (.cons .here .nil))))) : Sel _ [fz [],stb z1y 77 [(.slice z2c zR.length z2d)],row (.slice z2c zR.length z2d) 30 2 (zR.flatMap e30),stb z1o 90 [(.int .i64 z6P)],blk z2q (z2D .ready none)] _)).sub (.cons .here .nil)⟩)
   ·skip
    rintro _ w' ⟨⟨zfJ,zfK⟩,rfl,_,hp⟩
    have hp1:=hw1.call ((.cons .here .nil) : Sel [y1A [fz [],stb z1y 77 [(.slice none (([] : List z7).length) 0)],row (.slice none (([] : List z7).length) 0) 30 2 (([] : List z7).flatMap e30),stb z1o 90 [(.int .i64 0)],blk z2q (z2D .ready none)],dfr z78,stb z5m 39 [(.slice z5D z2i.1.length z5E)],stb z5n 39 [(.slice z5F z2i.2.length z5G)],fz z60] [y1A [fz [],stb z1y 77 [(.slice none (([] : List z7).length) 0)],row (.slice none (([] : List z7).length) 0) 30 2 (([] : List z7).flatMap e30),stb z1o 90 [(.int .i64 0)],blk z2q (z2D .ready none)]] [dfr z78,stb z5m 39 [(.slice z5D z2i.1.length z5E)],stb z5n 39 [(.slice z5F z2i.2.length z5G)],fz z60]) hp
    have hp2 : Hp _ _ w' [fz [],stb z1y 77 [(.slice zfJ z5Y.2.1.length zfK)],row (.slice zfJ z5Y.2.1.length zfK) 30 2 (z5Y.2.1.flatMap e30),stb z1o 90 [(.int .i64 z5Y.2.2)],blk z2q (z2D (rdy (pcs [] z5Y.1)) (pcs [] z5Y.1)),dfr z78,stb z5m 39 [(.slice z5D z2i.1.length z5E)],stb z5n 39 [(.slice z5F z2i.2.length z5G)],fz z60]:=hp1.pickAll .here
    refine ⟨_,pcs [] z5Y.1,_,rfl,(hp2.sub ((.cons .h4 (.cons .here (.cons .here (.cons .here (.cons .here (.cons .here (.cons .here (.cons .here (.cons .here .nil))))))))) : Sel _ [blk z2q (z2D (rdy (pcs [] z5Y.1)) (pcs [] z5Y.1)),fz [],stb z1y 77 [(.slice zfJ z5Y.2.1.length zfK)],row (.slice zfJ z5Y.2.1.length zfK) 30 2 (z5Y.2.1.flatMap e30),stb z1o 90 [(.int .i64 z5Y.2.2)],dfr z78,stb z5m 39 [(.slice z5D z2i.1.length z5E)],stb z5n 39 [(.slice z5F z2i.2.length z5G)],fz z60] _)),?_⟩
    clear hp hp1 hp2 pz hw hw1
    refine wjN ?_
    letI : Rnd:=aft z78
    refine WX.merge .here .h6 ?_
    refine WX.yg ?_
    exact WX.midR (D:=fun (g : Nat × Int × List z7 × Zp × Option Addr × Nat)=>g.1) (G:=Nat × Int × List z7 × Zp × Option Addr × Nat) ⟨z78,z5Y.2.2,z5Y.2.1,(z60 ++ []),zfJ,zfK⟩ ⟨h,(zuo.trans ((Zle.left _ _).trans (Zle.yp _ _ _)))⟩ (.cons rfl (.cons rfl .nil)) (.cons .here (.cons .h2 (.cons .here (.cons .here (.cons .here .nil)))))
  ·rintro z6Q z5C z3M z5Z z3s z3t ⟨h,zB7⟩
   replace h:=(zun z5C z3M).symm.trans h
   letI : Rnd:=aft z6Q
   refine WC.b ?_
   refine WC.b ?_
   refine WC.a ?_
   refine WL.a (d:=39) rfl rfl rfl (y3 y5U rfl rfl) ?_
   refine WL.a (d:=40) rfl rfl rfl (ya y2K rfl (yv .h1 rfl)) ?_
   refine WL.a (d:=41) rfl rfl rfl (y2G rfl rfl) ?_
   refine WL.nil ?_
   refine WX.a ?_
   refine WC.cond rfl (fun zkP=>?_) (fun zkP=>?_)
   ·replace h:=yh h zkP
    refine WC.b ?_
    refine WC.yY (fun i=>[].contains i) [] rfl ?_
    refine WD.a (i:=0) (d:=42) (by kernel_rfl) rfl (z8 (by kernel_rfl)) (za (by kernel_rfl)) rfl rfl rfl (fun _=>y3 y5U rfl rfl) ?_
    refine WD.e (i:=1) (d:=43) (by kernel_rfl) rfl (z8 (by kernel_rfl)) (za (by kernel_rfl)) rfl rfl rfl (ya y2K rfl (yv .h1 rfl)) ?_
    refine WD.a (i:=2) (d:=2) (by kernel_rfl) rfl (z8 (by kernel_rfl)) (za (by kernel_rfl)) rfl rfl rfl (fun _=>q_z rfl) ?_
    refine WD.a (i:=3) (d:=3) (by kernel_rfl) rfl (z8 (by kernel_rfl)) (za (by kernel_rfl)) rfl rfl rfl (fun _=>q_z rfl) ?_
    refine WD.done (by kernel_rfl) ?_
    refine WX.a ?_
    refine WC.ret ?_
    refine WX.y6 ?_
    refine WX.nilRow 30 2 ?_
    obtain rfl:=Option.some.inj h
    refine WX.y4N .h5 Try.results68 (.tmp rfl (.tmp rfl .nil)) (fun w hw=>?_)
    exact ⟨z5Z,none,0,y1M rfl rfl,trivial,hw.sub (.cons .h2 (.cons .h1 .nil))⟩
   ·replace h:=yi h zkP
    refine WC.skip ?_
    refine WX.a ?_
    refine WC.b ?_
    obtain ⟨z56,zuD,h⟩:=ze h
    refine WC.a ?_
    refine WL.a (d:=44) rfl rfl rfl (ya y3z rfl (yv .h2 rfl)) ?_
    refine WL.y6m (dd:=45) rfl rfl rfl (zj (l:=[.tmp 44,.func 18]) Try.call77 (.cons rfl (.cons rfl .nil))) ((.cons .h3 .nil) : Sel [fz z5Z,stb z1o 90 [(.int .i64 z5C)],stb z1y 77 [(.slice z3s z3M.length z3t)],row (.slice z3s z3M.length z3t) 30 2 (z3M.flatMap e30),dfr z6Q] [row (.slice z3s z3M.length z3t) 30 2 (z3M.flatMap e30)] [fz z5Z,stb z1o 90 [(.int .i64 z5C)],stb z1y 77 [(.slice z3s z3M.length z3t)],dfr z6Q]) (fun w hw=>by have pz:=(hz.call2 hw ((.cons .h3 .nil) : Sel [fz z5Z,stb z1o 90 [(.int .i64 z5C)],stb z1y 77 [(.slice z3s z3M.length z3t)],row (.slice z3s z3M.length z3t) 30 2 (z3M.flatMap e30),dfr z6Q] [row (.slice z3s z3M.length z3t) 30 2 (z3M.flatMap e30)] [fz z5Z,stb z1o 90 [(.int .i64 z5C)],stb z1y 77 [(.slice z3s z3M.length z3t)],dfr z6Q]) .here); exact y4A (Z:=_) (z5h:=z3s) (z5i:=z3t) (zbr:=18) (zdY:=[]) (z2p:=z3M) (zdX:=(fun (y0 : z7) (y1 : z7)=>yV y0 y1)) (r:=z56) w pz Try.call18 (fun w' hz' y0 y1  r  hr=>y26 (Z:=_)  (z29:=y0) (z2a:=y1) (r:=r) w' hz'  hr) zuD (hw.owns ((.cons .h3 .nil) : Sel [fz z5Z,stb z1o 90 [(.int .i64 z5C)],stb z1y 77 [(.slice z3s z3M.length z3t)],row (.slice z3s z3M.length z3t) 30 2 (z3M.flatMap e30),dfr z6Q] [row (.slice z3s z3M.length z3t) 30 2 (z3M.flatMap e30)] [fz z5Z,stb z1o 90 [(.int .i64 z5C)],stb z1y 77 [(.slice z3s z3M.length z3t)],dfr z6Q]))) ?_
    rintro  zuE
    refine WL.restb (cs':=[(.slice z3s z56.length z3t)]) .h3 (by rw [zuE]) ?_
    refine WL.nil ?_
    refine WX.a ?_
    refine WC.b ?_
    obtain ⟨zkL,zuF,h⟩:=ze h
    refine WC.a ?_
    refine WL.a (d:=46) rfl rfl rfl (ya y3z rfl (yv .here rfl)) ?_
    refine WL.y48 (dd:=47) rfl rfl rfl (zj (l:=[.tmp 46]) Try.call78 (.cons rfl .nil)) ((.cons .h1 .nil) : Sel [stb z1y 77 [(.slice z3s z56.length z3t)],row (.slice z3s z56.length z3t) 30 2 (z56.flatMap e30),fz z5Z,stb z1o 90 [(.int .i64 z5C)],dfr z6Q] [row (.slice z3s z56.length z3t) 30 2 (z56.flatMap e30)] [stb z1y 77 [(.slice z3s z56.length z3t)],fz z5Z,stb z1o 90 [(.int .i64 z5C)],dfr z6Q]) (fun w hw=>by have pz:=(hz.call2 hw ((.cons .h1 .nil) : Sel [stb z1y 77 [(.slice z3s z56.length z3t)],row (.slice z3s z56.length z3t) 30 2 (z56.flatMap e30),fz z5Z,stb z1o 90 [(.int .i64 z5C)],dfr z6Q] [row (.slice z3s z56.length z3t) 30 2 (z56.flatMap e30)] [stb z1y 77 [(.slice z3s z56.length z3t)],fz z5Z,stb z1o 90 [(.int .i64 z5C)],dfr z6Q]) .h1); exact y4G (Z:=_) (z91:=z3s) (z92:=z3t) (z1r:=z56) (r:=zkL) w pz  zuF (hw.owns ((.cons .h1 .nil) : Sel [stb z1y 77 [(.slice z3s z56.length z3t)],row (.slice z3s z56.length z3t) 30 2 (z56.flatMap e30),fz z5Z,stb z1o 90 [(.int .i64 z5C)],dfr z6Q] [row (.slice z3s z56.length z3t) 30 2 (z56.flatMap e30)] [stb z1y 77 [(.slice z3s z56.length z3t)],fz z5Z,stb z1o 90 [(.int .i64 z5C)],dfr z6Q]))) ?_
    rintro zuG zuH _
    refine WL.a (d:=2) rfl rfl rfl (q_z rfl) ?_
    refine WL.a (d:=3) rfl rfl rfl (q_z rfl) ?_
    refine WL.nil ?_
    refine WX.a ?_
    refine WC.ret ?_
    obtain rfl:=Option.some.inj h
    refine WX.y4N .h4 Try.results68 (.tmp rfl (.tmp rfl .nil)) (fun w hw=>?_)
    exact ⟨z5Z,zuG,zuH,y1M rfl rfl,trivial,hw.sub (.cons .h3 (.cons .h1 .nil))⟩
def y2d (z2S : z6) (z2T : z6) : Option Int :=
 (yV z2S.fR z2T.fR).bind fun zkQ=>some zkQ
set_option maxRecDepth 20000 in
theorem y8k (Z : Zp)   (z2S : z6) (z2T : z6) (r : Int) (w₀ : World) (hz : PZ [] w₀ Z)
  (h : y2d z2S z2T = some r) :
  Calls Try.prog 43 #[(.agg #[(.int .i64 z2S.fB.fN),(.int .i64 z2S.fB.fD),(.int .i64 z2S.fR.fN),(.int .i64 z2S.fR.fD)]),(.agg #[(.int .i64 z2T.fB.fN),(.int .i64 z2T.fB.fD),(.int .i64 z2T.fR.fN),(.int .i64 z2T.fR.fD)])] w₀ fun e w'=>e = .returned (.int .i64 r) ∧ Hp [] w₀ w' []:=by
 unfold y2d at h
 refine Calls.yd (vs:=[(.agg #[(.int .i64 z2S.fB.fN),(.int .i64 z2S.fB.fD),(.int .i64 z2S.fR.fN),(.int .i64 z2S.fR.fD)]),(.agg #[(.int .i64 z2T.fB.fN),(.int .i64 z2T.fB.fD),(.int .i64 z2T.fR.fN),(.int .i64 z2T.fR.fD)])]) (pre:=[]) (env:=[(0,(.agg #[(.int .i64 z2S.fB.fN),(.int .i64 z2S.fB.fD),(.int .i64 z2S.fR.fN),(.int .i64 z2S.fR.fD)])),(1,(.agg #[(.int .i64 z2T.fB.fN),(.int .i64 z2T.fB.fD),(.int .i64 z2T.fR.fN),(.int .i64 z2T.fR.fD)]))]) Try.func43 rfl Try.ntmps43 rfl (Hp.nil w₀ _) rfl ?_
 refine WC.b ?_
 refine WC.a ?_
 refine WL.new (dd:=2) rfl rfl rfl (yI (cs:=[(.int .i64 z2S.fB.fN),(.int .i64 z2S.fB.fD),(.int .i64 z2S.fR.fN),(.int .i64 z2S.fR.fD)]) rfl rfl) ?_
 intro zhD _
 refine WL.new (dd:=3) rfl rfl rfl (yI (cs:=[(.int .i64 z2T.fB.fN),(.int .i64 z2T.fB.fD),(.int .i64 z2T.fR.fN),(.int .i64 z2T.fR.fD)]) rfl rfl) ?_
 intro zhE _
 refine WL.a (d:=4) rfl rfl rfl (q_z rfl) ?_
 refine WL.nil ?_
 refine WX.a ?_
 refine WC.b ?_
 obtain ⟨zkQ,zuI,h⟩:=ze h
 refine WC.a ?_
 refine WL.a (d:=5) rfl rfl rfl (y3 y4P rfl rfl) ?_
 refine WL.a (d:=6) rfl rfl rfl (y4 (cs:=[(.int .i64 z2S.fR.fN),(.int .i64 z2S.fR.fD)]) y5 rfl rfl (y1U (s:=2) .h1 rfl)) ?_
 refine WL.a (d:=7) rfl rfl rfl (y3 y4P rfl rfl) ?_
 refine WL.a (d:=8) rfl rfl rfl (y4 (cs:=[(.int .i64 z2T.fR.fN),(.int .i64 z2T.fR.fD)]) y5 rfl rfl (y1U (s:=2) .here rfl)) ?_
 refine WL.b (dd:=9) rfl rfl rfl (zj (l:=[.tmp 6,.tmp 8]) Try.call18 (.cons rfl (.cons rfl .nil))) (.nil : Sel [stb zhE 35 [(.int .i64 z2T.fB.fN),(.int .i64 z2T.fB.fD),(.int .i64 z2T.fR.fN),(.int .i64 z2T.fR.fD)],stb zhD 35 [(.int .i64 z2S.fB.fN),(.int .i64 z2S.fB.fD),(.int .i64 z2S.fR.fN),(.int .i64 z2S.fR.fD)]] [] [stb zhE 35 [(.int .i64 z2T.fB.fN),(.int .i64 z2T.fB.fD),(.int .i64 z2T.fR.fN),(.int .i64 z2T.fR.fD)],stb zhD 35 [(.int .i64 z2S.fB.fN),(.int .i64 z2S.fB.fD),(.int .i64 z2S.fR.fN),(.int .i64 z2S.fR.fD)]]) (fun w hw=>by have pz:=(hz.call hw (.nil : Sel [stb zhE 35 [(.int .i64 z2T.fB.fN),(.int .i64 z2T.fB.fD),(.int .i64 z2T.fR.fN),(.int .i64 z2T.fR.fD)],stb zhD 35 [(.int .i64 z2S.fB.fN),(.int .i64 z2S.fB.fD),(.int .i64 z2S.fR.fN),(.int .i64 z2S.fR.fD)]] [] [stb zhE 35 [(.int .i64 z2T.fB.fN),(.int .i64 z2T.fB.fD),(.int .i64 z2T.fR.fN),(.int .i64 z2T.fR.fD)],stb zhD 35 [(.int .i64 z2S.fB.fN),(.int .i64 z2S.fB.fD),(.int .i64 z2S.fR.fN),(.int .i64 z2S.fR.fD)]])); exact y26 (Z:=_)  (z29:=z2S.fR) (z2a:=z2T.fR) (r:=zkQ) w pz  zuI) ?_
 refine WL.a (d:=4) rfl rfl rfl (q_z rfl) ?_
 refine WL.nil ?_
 refine WX.a ?_
 refine WC.ret ?_
 obtain rfl:=Option.some.inj h
 refine WX.y7 Try.results43 (.tmp rfl .nil) (fun w hw=>?_)
 exact ⟨yD rfl,hw.sub .nil⟩
def yA (z1i : List z6) (z93 : z6 → z6 → Option Int) (zap : Int → Int → Int → Int → Option z6) : Nat → Int → Int → Int → Int → Int → Option z6
 | 0,_,_,_,_,_=>none
 | zkR + 1,z2f,z79,z7a,z7b,z7c=>if decide (z2f < ((z1i.length : Nat) : Int)) then jp4 (fun (zaq : Int) (zar : Int) (zas : Int) (zat : Int)=>yA z1i z93 zap zkR (i64 (z2f + 1)) zaq zar zas zat) fun zhF=>chk ((0 : Int) ≤ z2f ∧ z2f < ((z1i.length : Nat) : Int)) ((z93 (⟨(⟨(((nth z1i z2f).fB).fN),(((nth z1i z2f).fB).fD)⟩ : z7),(⟨(((nth z1i z2f).fR).fN),(((nth z1i z2f).fR).fD)⟩ : z7)⟩ : z6) (⟨(⟨z79,z7a⟩ : z7),(⟨z7b,z7c⟩ : z7)⟩ : z6)).bind fun zkS=>if decide (zkS < 0) then chk ((0 : Int) ≤ z2f ∧ z2f < ((z1i.length : Nat) : Int)) (zhF (((nth z1i z2f).fB).fN) (((nth z1i z2f).fB).fD) (((nth z1i z2f).fR).fN) (((nth z1i z2f).fR).fD)) else zhF z79 z7a z7b z7c) else zap z79 z7a z7b z7c
theorem y3m {n : Nat} {z1i : List z6} {z93 : z6 → z6 → Option Int} {zap : Int → Int → Int → Int → Option z6} {z2f : Int} {z79 : Int} {z7a : Int} {z7b : Int} {z7c : Int} {r : z6} (h : yA z1i z93 zap n z2f z79 z7a z7b z7c = some r) : ∃ m,n = m + 1:=by
 cases n with
 | zero=>cases h
 | succ m=>exact ⟨m,rfl⟩
def y1e (z1i : List z6) (z93 : z6 → z6 → Option Int) : Option z6 :=
 if decide (((z1i.length : Nat) : Int) < 1) then none else chk ((0 : Int) ≤ 0 ∧ 0 < ((z1i.length : Nat) : Int)) (jp4 (fun (z94 : Int) (z95 : Int) (z96 : Int) (z97 : Int)=>some (⟨(⟨z94,z95⟩ : z7),(⟨z96,z97⟩ : z7)⟩ : z6)) fun zap=>yA z1i z93 zap yu 1 (((nth z1i 0).fB).fN) (((nth z1i 0).fB).fD) (((nth z1i 0).fR).fN) (((nth z1i 0).fR).fD))
set_option maxRecDepth 20000 in
theorem y47 (Z : Zp)  (zcB : Option Addr) (zcC : Nat) (z9u : FuncId) (zbs : List Value) (z1i : List z6) (z93 : z6 → z6 → Option Int) (r : z6) (w₀ : World) (hz : PZ [] w₀ Z)
  (zkT : ZS Z 4 (fun r x=>r = e35 x) zcB zcC z1i)
  (zuJ : ∀ args w,(callFunc z9u args).run Try.prog w = .ok (.enter z9u args) w)
  (zuK : ∀ w : World,PZ [] w Z → ∀ (x0 : z6) (x1 : z6) (r : Int),z93 x0 x1 = some r → Calls Try.prog z9u (([(.agg #[(.int .i64 x0.fB.fN),(.int .i64 x0.fB.fD),(.int .i64 x0.fR.fN),(.int .i64 x0.fR.fD)]),(.agg #[(.int .i64 x1.fB.fN),(.int .i64 x1.fB.fD),(.int .i64 x1.fR.fN),(.int .i64 x1.fR.fD)])] : List Value) ++ zbs).toArray w fun e w'=>e = .returned (.int .i64 r) ∧ Hp [] w w' [])
  (h : y1e z1i z93 = some r) :
  Calls Try.prog 42 #[(.slice zcB z1i.length zcC),(.func (.func z9u) #[] (zbs).toArray)] w₀ fun e w'=>e = .returned (.agg #[(.int .i64 r.fB.fN),(.int .i64 r.fB.fD),(.int .i64 r.fR.fN),(.int .i64 r.fR.fD)]) ∧ Hp [] w₀ w' []:=by
 unfold y1e at h
 refine Calls.yd (vs:=[(.slice zcB z1i.length zcC),(.func (.func z9u) #[] (zbs).toArray)]) (pre:=[]) (env:=[(0,(.slice zcB z1i.length zcC)),(1,(.func (.func z9u) #[] (zbs).toArray))]) Try.func42 rfl Try.ntmps42 rfl (Hp.nil w₀ _) rfl ?_
 refine WC.b ?_
 refine WC.a ?_
 refine WL.new (dd:=4) rfl rfl rfl (ym (cs:=[(.int .i64 0),(.int .i64 0),(.int .i64 0),(.int .i64 0)]) y3J rfl) ?_
 intro ze7 _
 refine WL.nil ?_
 refine WX.a ?_
 refine WC.b ?_
 refine WC.b ?_
 refine WC.a ?_
 refine WL.a (d:=7) rfl rfl rfl (q_m rfl) ?_
 refine WL.a (d:=8) rfl rfl rfl (y10 Try.underlying39 rfl) ?_
 refine WL.a (d:=9) rfl rfl rfl (y1c rfl rfl) ?_
 refine WL.nil ?_
 refine WX.a ?_
 refine WC.cond rfl (fun zkU=>?_) (fun zkU=>?_)
 ·replace h:=yh h zkU
  cases h
 ·replace h:=yi h zkU
  refine WC.skip ?_
  refine WX.a ?_
  refine WC.b ?_
  obtain ⟨zuL,h⟩:=yl h
  refine WC.a ?_
  refine WL.a (d:=11) rfl rfl rfl (q_m rfl) ?_
  refine WL.znth (dd:=12) rfl rfl (Z:=Z) (Pr:=(fun r x=>r = e35 x)) y2w rfl rfl zkT zuL ?_
  rintro zB8 zB9 zuM zBa rfl
  refine WL.a (d:=13) rfl rfl rfl (y4 (cs:=[(.int .i64 (((nth z1i 0).fB).fN)),(.int .i64 (((nth z1i 0).fB).fD)),(.int .i64 (((nth z1i 0).fR).fN)),(.int .i64 (((nth z1i 0).fR).fD))]) y1D rfl rfl (y2P hz.pv zuM)) ?_
  refine WL.new (dd:=5) rfl rfl rfl (ym (cs:=[(.int .i64 0),(.int .i64 0),(.int .i64 0),(.int .i64 0)]) y3J rfl) ?_
  intro ze8 _
  refine WL.yb rfl rfl (yc (vs:=[(.int .i64 (((nth z1i 0).fB).fN)),(.int .i64 (((nth z1i 0).fB).fD)),(.int .i64 (((nth z1i 0).fR).fN)),(.int .i64 (((nth z1i 0).fR).fD))]) (ds:=[(.int .i64 (((nth z1i 0).fB).fN)),(.int .i64 (((nth z1i 0).fB).fD)),(.int .i64 (((nth z1i 0).fR).fN)),(.int .i64 (((nth z1i 0).fR).fD))]) y3X rfl rfl rfl rfl (y2 rfl (y2 rfl (y2 rfl (y2 rfl yk)))) .here (Nat.le_of_ble_eq_true rfl) rfl) ?_
  refine WL.nil ?_
  refine WX.a ?_
  obtain ⟨zap,zuN,h⟩:=y8T h
  refine WC.y4i (fun (z94 : Int) (z95 : Int) (z96 : Int) (z97 : Int)=>(zap z94 z95 z96 z97 = some r)) (fun (z94 : Int) (z95 : Int) (z96 : Int) (z97 : Int)=>[(4,(.pointer (some ⟨ze7,0,none⟩))),(5,(.pointer (some ⟨ze8,0,none⟩)))]) (fun (z94 : Int) (z95 : Int) (z96 : Int) (z97 : Int)=>[stb ze7 35 [(.int .i64 0),(.int .i64 0),(.int .i64 0),(.int .i64 0)],stb ze8 35 [(.int .i64 z94),(.int .i64 z95),(.int .i64 z96),(.int .i64 z97)]]) ?_ ?_
  ·skip
   refine WC.b ?_
   refine WC.a ?_
   refine WL.a (d:=6) rfl rfl rfl (q_z rfl) ?_
   refine WL.nil ?_
   refine WX.a ?_
   refine WC.block ?_
   refine WC.y3H (fun (ze9 : Nat) (z2f : Int) (z79 : Int) (z7a : Int) (z7b : Int) (z7c : Int)=>(yA z1i z93 zap ze9 z2f z79 z7a z7b z7c = some r)) (fun (ze9 : Nat) (z2f : Int) (z79 : Int) (z7a : Int) (z7b : Int) (z7c : Int)=>[(0,(.slice zcB z1i.length zcC)),(1,(.func (.func z9u) #[] (zbs).toArray)),(4,(.pointer (some ⟨ze7,0,none⟩))),(5,(.pointer (some ⟨ze8,0,none⟩))),(6,(.int .i64 z2f))]) (fun (ze9 : Nat) (z2f : Int) (z79 : Int) (z7a : Int) (z7b : Int) (z7c : Int)=>[stb ze7 35 [(.int .i64 0),(.int .i64 0),(.int .i64 0),(.int .i64 0)],stb ze8 35 [(.int .i64 z79),(.int .i64 z7a),(.int .i64 z7b),(.int .i64 z7c)]]) (fun (ze9 : Nat) (z2f : Int) (z79 : Int) (z7a : Int) (z7b : Int) (z7c : Int)=>ze9) ⟨yu,1,(((nth z1i 0).fB).fN),(((nth z1i 0).fB).fD),(((nth z1i 0).fR).fN),(((nth z1i 0).fR).fD)⟩ h (.cons rfl (.cons rfl (.cons rfl (.cons rfl (.cons rfl .nil))))) (.cons .h1 (.cons .here .nil)) ?_
   rintro ze9 z2f z79 z7a z7b z7c h
   obtain ⟨zkR,rfl⟩:=y3m h
   rw [yA] at h
   refine WC.b ?_
   refine WC.b ?_
   refine WC.a ?_
   refine WL.a (d:=14) rfl rfl rfl (q_m rfl) ?_
   refine WL.a (d:=15) rfl rfl rfl (q_m rfl) ?_
   refine WL.a (d:=16) rfl rfl rfl (y10 Try.underlying39 rfl) ?_
   refine WL.a (d:=17) rfl rfl rfl (y1c rfl rfl) ?_
   refine WL.nil ?_
   refine WX.a ?_
   refine WC.cond rfl (fun zkV=>?_) (fun zkV=>?_)
   ·replace h:=yh h zkV
    refine WC.skip ?_
    refine WX.a ?_
    obtain ⟨zhF,zuO,h⟩:=y8T h
    refine WC.y4i (fun (zaq : Int) (zar : Int) (zas : Int) (zat : Int)=>(zhF zaq zar zas zat = some r)) (fun (zaq : Int) (zar : Int) (zas : Int) (zat : Int)=>[(0,(.slice zcB z1i.length zcC)),(1,(.func (.func z9u) #[] (zbs).toArray)),(4,(.pointer (some ⟨ze7,0,none⟩))),(5,(.pointer (some ⟨ze8,0,none⟩))),(6,(.int .i64 z2f))]) (fun (zaq : Int) (zar : Int) (zas : Int) (zat : Int)=>[stb ze7 35 [(.int .i64 0),(.int .i64 0),(.int .i64 0),(.int .i64 0)],stb ze8 35 [(.int .i64 zaq),(.int .i64 zar),(.int .i64 zas),(.int .i64 zat)]]) ?_ ?_
    ·skip
     refine WC.block ?_
     refine WC.b ?_
     obtain ⟨zuP,h⟩:=yl h
     obtain ⟨zkS,zuQ,h⟩:=ze h
     refine WC.yY (fun i=>[].contains i) [] rfl ?_
     refine WD.a (i:=0) (d:=20) (by kernel_rfl) rfl (z8 (by kernel_rfl)) (za (by kernel_rfl)) rfl rfl rfl (fun _=>q_m rfl) ?_
     refine WD.a (i:=1) (d:=21) (by kernel_rfl) rfl (z8 (by kernel_rfl)) (za (by kernel_rfl)) rfl rfl rfl (fun _=>q_m rfl) ?_
     refine WD.a (i:=2) (d:=22) (by kernel_rfl) rfl (z8 (by kernel_rfl)) (za (by kernel_rfl)) rfl rfl rfl (fun _=>q_m rfl) ?_
     refine WD.znth (j:=3) (dd:=23) (by kernel_rfl) rfl (z8 (by kernel_rfl)) (za (by kernel_rfl)) rfl rfl (Z:=Z) (Pr:=(fun r x=>r = e35 x)) y2w rfl rfl zkT zuP ?_
     rintro zBb zBc zuR zBd rfl
     refine WD.e (i:=4) (d:=24) (by kernel_rfl) rfl (z8 (by kernel_rfl)) (za (by kernel_rfl)) rfl rfl rfl (y4 (cs:=[(.int .i64 (((nth z1i z2f).fB).fN)),(.int .i64 (((nth z1i z2f).fB).fD)),(.int .i64 (((nth z1i z2f).fR).fN)),(.int .i64 (((nth z1i z2f).fR).fD))]) y1D rfl rfl (y2P hz.pv zuR)) ?_
     refine WD.e (i:=5) (d:=25) (by kernel_rfl) rfl (z8 (by kernel_rfl)) (za (by kernel_rfl)) rfl rfl rfl (y4 (cs:=[(.int .i64 z79),(.int .i64 z7a),(.int .i64 z7b),(.int .i64 z7c)]) y1D rfl rfl (y8 .h1)) ?_
     refine WD.c (i:=6) (d:=26) (by kernel_rfl) rfl (z8 (by kernel_rfl)) (za (by kernel_rfl)) rfl rfl rfl (y2C (l:=[.tmp 24,.tmp 25]) (f:=z9u) (caps:=zbs) zuJ rfl (.cons rfl (.cons rfl .nil))) (fun w hw=>zuK w (hz.now hw) (⟨(⟨(((nth z1i z2f).fB).fN),(((nth z1i z2f).fB).fD)⟩ : z7),(⟨(((nth z1i z2f).fR).fN),(((nth z1i z2f).fR).fD)⟩ : z7)⟩ : z6) (⟨(⟨z79,z7a⟩ : z7),(⟨z7b,z7c⟩ : z7)⟩ : z6) zkS  zuQ) ?_
     refine WD.a (i:=7) (d:=27) (by kernel_rfl) rfl (z8 (by kernel_rfl)) (za (by kernel_rfl)) rfl rfl rfl (fun _=>y1c rfl rfl) ?_
     refine WD.done (by kernel_rfl) ?_
     refine WX.a ?_
     refine WC.cond rfl (fun zkW=>?_) (fun zkW=>?_)
     ·replace h:=yh h zkW
      obtain ⟨zuS,h⟩:=yl h
      refine WC.a ?_
      refine WL.a (d:=28) rfl rfl rfl (q_m rfl) ?_
      refine WL.a (d:=29) rfl rfl rfl (q_m rfl) ?_
      refine WL.znth (dd:=30) rfl rfl (Z:=Z) (Pr:=(fun r x=>r = e35 x)) y2w rfl rfl zkT zuS ?_
      rintro zBe zBf zuT zBg rfl
      refine WL.a (d:=31) rfl rfl rfl (y4 (cs:=[(.int .i64 (((nth z1i z2f).fB).fN)),(.int .i64 (((nth z1i z2f).fB).fD)),(.int .i64 (((nth z1i z2f).fR).fN)),(.int .i64 (((nth z1i z2f).fR).fD))]) y1D rfl rfl (y2P hz.pv zuT)) ?_
      refine WL.yb rfl rfl (yc (vs:=[(.int .i64 (((nth z1i z2f).fB).fN)),(.int .i64 (((nth z1i z2f).fB).fD)),(.int .i64 (((nth z1i z2f).fR).fN)),(.int .i64 (((nth z1i z2f).fR).fD))]) (ds:=[(.int .i64 (((nth z1i z2f).fB).fN)),(.int .i64 (((nth z1i z2f).fB).fD)),(.int .i64 (((nth z1i z2f).fR).fN)),(.int .i64 (((nth z1i z2f).fR).fD))]) y3X rfl rfl rfl rfl (y2 rfl (y2 rfl (y2 rfl (y2 rfl yk)))) .h1 (Nat.le_of_ble_eq_true rfl) rfl) ?_
      refine WL.nil ?_
      refine WX.yg ?_
      exact WX.mid (G:=Int × Int × Int × Int) ⟨(((nth z1i z2f).fB).fN),(((nth z1i z2f).fB).fD),(((nth z1i z2f).fR).fN),(((nth z1i z2f).fR).fD)⟩ h (.cons rfl (.cons rfl (.cons rfl (.cons rfl (.cons rfl .nil))))) (.cons .h1 (.cons .here .nil))
     ·replace h:=yi h zkW
      refine WC.skip ?_
      refine WX.yg ?_
      exact WX.mid (G:=Int × Int × Int × Int) ⟨z79,z7a,z7b,z7c⟩ h (.cons rfl (.cons rfl (.cons rfl (.cons rfl (.cons rfl .nil))))) (.cons .here (.cons .here .nil))
    ·rintro zaq zar zas zat h
     replace h:=(zuO zaq zar zas zat).symm.trans h
     refine WC.a ?_
     refine WL.a (d:=18) rfl rfl rfl (q_m rfl) ?_
     refine WL.a (d:=19) rfl rfl rfl (yW rfl rfl rfl) ?_
     refine WL.a (d:=6) rfl rfl rfl (q_z rfl) ?_
     refine WL.nil ?_
     exact WX.round (G:=Nat × Int × Int × Int × Int × Int) ⟨zkR,(i64 (z2f + 1)),zaq,zar,zas,zat⟩ h (Nat.lt_succ_self _) (.cons rfl (.cons rfl (.cons rfl (.cons rfl (.cons rfl .nil))))) (.cons .here (.cons .here .nil))
   ·replace h:=yi h zkV
    refine WC.exit ?_
    refine WX.ye ?_
    refine WX.ye ?_
    refine WX.yx ?_
    exact WX.mid (G:=Int × Int × Int × Int) ⟨z79,z7a,z7b,z7c⟩ h (.cons rfl (.cons rfl .nil)) (.cons .here (.cons .here .nil))
  ·rintro z94 z95 z96 z97 h
   replace h:=(zuN z94 z95 z96 z97).symm.trans h
   refine WC.b ?_
   refine WC.a ?_
   refine WL.a (d:=32) rfl rfl rfl (y4 (cs:=[(.int .i64 z94),(.int .i64 z95),(.int .i64 z96),(.int .i64 z97)]) y1D rfl rfl (y8 .h1)) ?_
   refine WL.yb rfl rfl (yc (vs:=[(.int .i64 z94),(.int .i64 z95),(.int .i64 z96),(.int .i64 z97)]) (ds:=[(.int .i64 z94),(.int .i64 z95),(.int .i64 z96),(.int .i64 z97)]) y3X rfl rfl rfl rfl (y2 rfl (y2 rfl (y2 rfl (y2 rfl yk)))) .here (Nat.le_of_ble_eq_true rfl) rfl) ?_
   refine WL.nil ?_
   refine WX.a ?_
   refine WC.ret ?_
   obtain rfl:=Option.some.inj h
   refine WX.y7 Try.results42 (.agg rfl y1D rfl (y8 .here) .nil) (fun w hw=>?_)
   exact ⟨yD rfl,hw.sub .nil⟩
def y3b (z8t : List z6) : Option (z7 × Int) :=
 (y2n z8t).bind fun zkX=>if !zkX then some ((⟨0,0⟩ : z7),2) else (y1e z8t (fun (y0 : z6) (y1 : z6)=>y2d y0 y1)).bind fun zau=>some (zau.fR,0)
set_option maxRecDepth 20000 in
theorem y7k (Z : Zp)  (zbt : Option Addr) (zbu : Nat) (z8t : List z6) (r : z7 × Int) (w₀ : World) (hz : PZ [] w₀ Z)
  (zpJ : ZS Z 4 (fun r x=>r = e35 x) zbt zbu z8t)
  (h : y3b z8t = some r) :
  Calls Try.prog 21 #[(.slice zbt z8t.length zbu)] w₀ fun e w'=>e = .returned (.tuple #[(.agg #[(.int .i64 r.1.fN),(.int .i64 r.1.fD)]),(.int .i64 r.2)]) ∧ Hp [] w₀ w' []:=by
 unfold y3b at h
 refine Calls.yd (vs:=[(.slice zbt z8t.length zbu)]) (pre:=[]) (env:=[(0,(.slice zbt z8t.length zbu))]) Try.func21 rfl Try.ntmps21 rfl (Hp.nil w₀ _) rfl ?_
 refine WC.b ?_
 refine WC.a ?_
 refine WL.new (dd:=2) rfl rfl rfl (ym (cs:=[(.int .i64 0),(.int .i64 0)]) yt rfl) ?_
 intro zbv _
 refine WL.a (d:=3) rfl rfl rfl (q_z rfl) ?_
 refine WL.nil ?_
 refine WX.a ?_
 refine WC.b ?_
 refine WC.b ?_
 obtain ⟨zkX,zuU,h⟩:=ze h
 refine WC.a ?_
 refine WL.a (d:=4) rfl rfl rfl (q_m rfl) ?_
 refine WL.b (dd:=5) rfl rfl rfl (zj (l:=[.tmp 4]) Try.call30 (.cons rfl .nil)) (.nil : Sel [stb zbv 30 [(.int .i64 0),(.int .i64 0)]] [] [stb zbv 30 [(.int .i64 0),(.int .i64 0)]]) (fun w hw=>by have pz:=(hz.call hw (.nil : Sel [stb zbv 30 [(.int .i64 0),(.int .i64 0)]] [] [stb zbv 30 [(.int .i64 0),(.int .i64 0)]])); exact y3S (Z:=_) (z8U:=zbt) (z8V:=zbu) (z5B:=z8t) (r:=zkX) w pz zpJ zuU) ?_
 refine WL.a (d:=6) rfl rfl rfl (y1m rfl) ?_
 refine WL.nil ?_
 refine WX.a ?_
 refine WC.cond rfl (fun zkY=>?_) (fun zkY=>?_)
 ·replace h:=yh h zkY
  refine WC.b ?_
  refine WC.a ?_
  refine WL.a (d:=7) rfl rfl rfl (y1g (v:=(.agg #[(.int .i64 0),(.int .i64 0)])) (Eos.parts (l:=[]) .nil []) (fun _=>by kernel_rfl)) ?_
  refine WL.yb rfl rfl (yc (vs:=[(.int .i64 0),(.int .i64 0)]) (ds:=[(.int .i64 0),(.int .i64 0)]) yo rfl rfl rfl rfl (y2 rfl (y2 rfl yk)) .here (Nat.le_of_ble_eq_true rfl) rfl) ?_
  refine WL.a (d:=3) rfl rfl rfl (q_z rfl) ?_
  refine WL.nil ?_
  refine WX.a ?_
  refine WC.ret ?_
  refine WX.y6 ?_
  obtain rfl:=Option.some.inj h
  refine WX.y7 Try.results21 (.agg rfl y5 rfl (y8 .here) (.tmp rfl .nil)) (fun w hw=>?_)
  exact ⟨y1M rfl rfl,hw.sub .nil⟩
 ·replace h:=yi h zkY
  refine WC.skip ?_
  refine WX.a ?_
  refine WC.b ?_
  obtain ⟨zau,zuV,h⟩:=ze h
  refine WC.a ?_
  refine WL.a (d:=8) rfl rfl rfl (q_m rfl) ?_
  refine WL.b (dd:=9) rfl rfl rfl (zj (l:=[.tmp 8,.func 43]) Try.call42 (.cons rfl (.cons rfl .nil))) (.nil : Sel [stb zbv 30 [(.int .i64 0),(.int .i64 0)]] [] [stb zbv 30 [(.int .i64 0),(.int .i64 0)]]) (fun w hw=>by have pz:=(hz.call hw (.nil : Sel [stb zbv 30 [(.int .i64 0),(.int .i64 0)]] [] [stb zbv 30 [(.int .i64 0),(.int .i64 0)]])); exact y47 (Z:=_) (zcB:=zbt) (zcC:=zbu) (z9u:=43) (zbs:=[]) (z1i:=z8t) (z93:=(fun (y0 : z6) (y1 : z6)=>y2d y0 y1)) (r:=zau) w pz zpJ Try.call43 (fun w' hz' y0 y1  r  hr=>y8k (Z:=_)  (z2S:=y0) (z2T:=y1) (r:=r) w' hz'  hr) zuV) ?_
  refine WL.a (d:=10) rfl rfl rfl (q_fieldA (cs':=#[(.int .i64 zau.fR.fN),(.int .i64 zau.fR.fD)]) yam y5 rfl rfl) ?_
  refine WL.yb rfl rfl (yc (vs:=[(.int .i64 zau.fR.fN),(.int .i64 zau.fR.fD)]) (ds:=[(.int .i64 zau.fR.fN),(.int .i64 zau.fR.fD)]) yo rfl rfl rfl rfl (y2 rfl (y2 rfl yk)) .here (Nat.le_of_ble_eq_true rfl) rfl) ?_
  refine WL.a (d:=3) rfl rfl rfl (q_z rfl) ?_
  refine WL.nil ?_
  refine WX.a ?_
  refine WC.ret ?_
  obtain rfl:=Option.some.inj h
  refine WX.y7 Try.results21 (.agg rfl y5 rfl (y8 .here) (.tmp rfl .nil)) (fun w hw=>?_)
  exact ⟨y1M rfl rfl,hw.sub .nil⟩
def y5H (zbw : z7) (zbx : z7) : Option (Int × Int) :=
 some ((i64 ((i64 (zbw.fN * zbx.fD)) + (i64 (zbx.fN * zbw.fD)))),(i64 (zbw.fD * zbx.fD)))
set_option maxRecDepth 20000 in
theorem ya2 (Z : Zp)  (zfL : Addr) (zfM : Addr) (zbw : z7) (zbx : z7) (r : Int × Int) (w₀ : World) (hz : PZ [] w₀ Z)
  (zkZ : ZC Z zfL [(.int .i64 zbw.fN),(.int .i64 zbw.fD)])
  (zl0 : ZC Z zfM [(.int .i64 zbx.fN),(.int .i64 zbx.fD)])
  (h : y5H zbw zbx = some r) :
  Calls Try.prog 54 #[(.pointer (some zfL)),(.pointer (some zfM))] w₀ fun e w'=>e = .returned (.tuple #[(.int .i64 r.1),(.int .i64 r.2)]) ∧ Hp [] w₀ w' []:=by
 unfold y5H at h
 refine Calls.yd (vs:=[(.pointer (some zfL)),(.pointer (some zfM))]) (pre:=[]) (env:=[(0,(.pointer (some zfL))),(1,(.pointer (some zfM)))]) Try.func54 rfl Try.ntmps54 rfl (Hp.nil w₀ _) rfl ?_
 refine WC.b ?_
 refine WC.a ?_
 refine WL.a (d:=2) rfl rfl rfl (q_z rfl) ?_
 refine WL.a (d:=3) rfl rfl rfl (q_z rfl) ?_
 refine WL.nil ?_
 refine WX.a ?_
 refine WC.b ?_
 refine WC.yY (fun i=>[].contains i) [] rfl ?_
 refine WD.a (i:=0) (d:=4) (by kernel_rfl) rfl (z8 (by kernel_rfl)) (za (by kernel_rfl)) rfl rfl rfl (fun _=>y3 y1Q rfl rfl) ?_
 refine WD.e (i:=1) (d:=5) (by kernel_rfl) rfl (z8 (by kernel_rfl)) (za (by kernel_rfl)) rfl rfl rfl (ya yw rfl (y1J hz.pv zkZ rfl)) ?_
 refine WD.a (i:=2) (d:=6) (by kernel_rfl) rfl (z8 (by kernel_rfl)) (za (by kernel_rfl)) rfl rfl rfl (fun _=>y3 y24 rfl rfl) ?_
 refine WD.e (i:=3) (d:=7) (by kernel_rfl) rfl (z8 (by kernel_rfl)) (za (by kernel_rfl)) rfl rfl rfl (ya yw rfl (y1J hz.pv zl0 rfl)) ?_
 refine WD.a (i:=4) (d:=8) (by kernel_rfl) rfl (z8 (by kernel_rfl)) (za (by kernel_rfl)) rfl rfl rfl (fun _=>y3t rfl rfl rfl) ?_
 refine WD.a (i:=5) (d:=9) (by kernel_rfl) rfl (z8 (by kernel_rfl)) (za (by kernel_rfl)) rfl rfl rfl (fun _=>y3 y1Q rfl rfl) ?_
 refine WD.e (i:=6) (d:=10) (by kernel_rfl) rfl (z8 (by kernel_rfl)) (za (by kernel_rfl)) rfl rfl rfl (ya yw rfl (y1J hz.pv zl0 rfl)) ?_
 refine WD.a (i:=7) (d:=11) (by kernel_rfl) rfl (z8 (by kernel_rfl)) (za (by kernel_rfl)) rfl rfl rfl (fun _=>y3 y24 rfl rfl) ?_
 refine WD.e (i:=8) (d:=12) (by kernel_rfl) rfl (z8 (by kernel_rfl)) (za (by kernel_rfl)) rfl rfl rfl (ya yw rfl (y1J hz.pv zkZ rfl)) ?_
 refine WD.a (i:=9) (d:=13) (by kernel_rfl) rfl (z8 (by kernel_rfl)) (za (by kernel_rfl)) rfl rfl rfl (fun _=>y3t rfl rfl rfl) ?_
 refine WD.a (i:=10) (d:=14) (by kernel_rfl) rfl (z8 (by kernel_rfl)) (za (by kernel_rfl)) rfl rfl rfl (fun _=>yW rfl rfl rfl) ?_
 refine WD.a (i:=11) (d:=15) (by kernel_rfl) rfl (z8 (by kernel_rfl)) (za (by kernel_rfl)) rfl rfl rfl (fun _=>y3 y24 rfl rfl) ?_
 refine WD.e (i:=12) (d:=16) (by kernel_rfl) rfl (z8 (by kernel_rfl)) (za (by kernel_rfl)) rfl rfl rfl (ya yw rfl (y1J hz.pv zkZ rfl)) ?_
 refine WD.a (i:=13) (d:=17) (by kernel_rfl) rfl (z8 (by kernel_rfl)) (za (by kernel_rfl)) rfl rfl rfl (fun _=>y3 y24 rfl rfl) ?_
 refine WD.e (i:=14) (d:=18) (by kernel_rfl) rfl (z8 (by kernel_rfl)) (za (by kernel_rfl)) rfl rfl rfl (ya yw rfl (y1J hz.pv zl0 rfl)) ?_
 refine WD.a (i:=15) (d:=19) (by kernel_rfl) rfl (z8 (by kernel_rfl)) (za (by kernel_rfl)) rfl rfl rfl (fun _=>y3t rfl rfl rfl) ?_
 refine WD.a (i:=16) (d:=2) (by kernel_rfl) rfl (z8 (by kernel_rfl)) (za (by kernel_rfl)) rfl rfl rfl (fun _=>q_z rfl) ?_
 refine WD.a (i:=17) (d:=3) (by kernel_rfl) rfl (z8 (by kernel_rfl)) (za (by kernel_rfl)) rfl rfl rfl (fun _=>q_z rfl) ?_
 refine WD.done (by kernel_rfl) ?_
 refine WX.a ?_
 refine WC.ret ?_
 obtain rfl:=Option.some.inj h
 refine WX.y7 Try.results54 (.tmp rfl (.tmp rfl .nil)) (fun w hw=>?_)
 exact ⟨y1M rfl rfl,hw.sub .nil⟩
end Go.Proofs.Ytakfmdiiehcbdaa
