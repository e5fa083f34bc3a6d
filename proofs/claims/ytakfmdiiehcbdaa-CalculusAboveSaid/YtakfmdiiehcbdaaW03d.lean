/- A part of this claim's proof: models of functions, walks, plain laws. No conditions. -/
import Derived.Test.YtakfmdiiehcbdaaW03c
namespace Go.Proofs.Ytakfmdiiehcbdaa
open Go Go.RowKit Sep
set_option linter.all false
set_option maxRecDepth 30000
set_option maxHeartbeats 4000000
def y19 (z5l : List (List z1)) (z2i : z2) (zaA : Int → Int → Int → Option (z2 × z2y)) : Nat → Int → Int → Int → Int → Option (z2 × z2y)
 | 0,_,_,_,_=>none
 | zl9 + 1,z6L,z6i,z4y,z4z=>if decide (z6L < ((z5l.length : Nat) : Int)) then chk ((0 : Int) ≤ z6L ∧ z6L < ((z5l.length : Nat) : Int)) ((y2N (nth z5l z6L) z2i).bind fun z43=>jp1 (fun (z7k : Int)=>(y12 (⟨z7k⟩ : z2y) (fun (y0 : z2) (y1 : z2)=>y15 y0 y1) (⟨z4y,z4z⟩ : z2) z43.1).bind fun z8t=>y19 z5l z2i zaA zl9 (i64 (z6L + 1)) z8t.2.fE z8t.1.fN z8t.1.fD) fun zhp=>if decide (z6i = 0) then zhp z43.2 else zhp z6i) else zaA z4y z4z z6i
theorem y4Y {n : Nat} {z5l : List (List z1)} {z2i : z2} {zaA : Int → Int → Int → Option (z2 × z2y)} {z6L : Int} {z6i : Int} {z4y : Int} {z4z : Int} {r : z2 × z2y} (h : y19 z5l z2i zaA n z6L z6i z4y z4z = some r) : ∃ m,n = m + 1:=by
 cases n with
 | zero=>cases h
 | succ m=>exact ⟨m,rfl⟩
def y22 (z7l : z2y) (z5l : List (List z1)) (z2i : z2) : Option (z2 × z2y) :=
 (y1L).bind fun z9A=>jp3 (fun (z95 : Int) (z96 : Int) (zbq : Int)=>some ((⟨z95,z96⟩ : z2),(⟨zbq⟩ : z2y))) fun zaA=>y19 z5l z2i zaA yw 0 z7l.fE z9A.fN z9A.fD
set_option maxRecDepth 20000 in
theorem y4L (Z : Zp)  (z3H : Nat) (zbr : Option Addr) (zbs : Nat) (z7l : z2y) (z5l : List (List z1)) (z2i : z2) (r : z2 × z2y) (w₀ : World) (hz : PZ (fps [stb z3H 98 [(.int .i64 z7l.fE)]]) w₀ Z)
  (zvo : ZS Z 1 (p39 Z) zbr zbs z5l)
  (h : y22 z7l z5l z2i = some r)
  (hown : Hp (fps [stb z3H 98 [(.int .i64 z7l.fE)]]) w₀ w₀ [stb z3H 98 [(.int .i64 z7l.fE)]]) :
  Calls Try.prog 35 #[(.pointer (some ⟨z3H,0,none⟩)),(.slice zbr z5l.length zbs),(.agg #[(.int .i64 z2i.fN),(.int .i64 z2i.fD)])] w₀ fun e w'=>e = .returned (.agg #[(.int .i64 r.1.fN),(.int .i64 r.1.fD)]) ∧ Hp (fps [stb z3H 98 [(.int .i64 z7l.fE)]]) w₀ w' [stb z3H 98 [(.int .i64 r.2.fE)]]:=by
 unfold y22 at h
 refine Calls.yg (vs:=[(.pointer (some ⟨z3H,0,none⟩)),(.slice zbr z5l.length zbs),(.agg #[(.int .i64 z2i.fN),(.int .i64 z2i.fD)])]) (pre:=[stb z3H 98 [(.int .i64 z7l.fE)]]) (env:=[(0,(.pointer (some ⟨z3H,0,none⟩))),(1,(.slice zbr z5l.length zbs)),(2,(.agg #[(.int .i64 z2i.fN),(.int .i64 z2i.fD)]))]) Try.func35 rfl Try.ntmps35 rfl (hown) rfl ?_
 refine WC.b ?_
 refine WC.a ?_
 refine WL.new (dd:=5) rfl rfl rfl (yK (cs:=[(.int .i64 z2i.fN),(.int .i64 z2i.fD)]) rfl rfl) ?_
 intro z6j _
 refine WL.new (dd:=6) rfl rfl rfl (yh (cs:=[(.int .i64 0),(.int .i64 0)]) yo rfl) ?_
 intro z5E _
 refine WL.nil ?_
 refine WX.a ?_
 refine WC.b ?_
 obtain ⟨z9A,zvp,h⟩:=zb h
 refine WC.a ?_
 refine WL.b (dd:=12) rfl rfl rfl (zl (l:=[]) Try.call51 .nil) (.nil : Sel [stb z5E 30 [(.int .i64 0),(.int .i64 0)],stb z6j 30 [(.int .i64 z2i.fN),(.int .i64 z2i.fD)],stb z3H 98 [(.int .i64 z7l.fE)]] [] [stb z5E 30 [(.int .i64 0),(.int .i64 0)],stb z6j 30 [(.int .i64 z2i.fN),(.int .i64 z2i.fD)],stb z3H 98 [(.int .i64 z7l.fE)]]) (fun w hw=>by have pz:=(hz.call hw (.nil : Sel [stb z5E 30 [(.int .i64 0),(.int .i64 0)],stb z6j 30 [(.int .i64 z2i.fN),(.int .i64 z2i.fD)],stb z3H 98 [(.int .i64 z7l.fE)]] [] [stb z5E 30 [(.int .i64 0),(.int .i64 0)],stb z6j 30 [(.int .i64 z2i.fN),(.int .i64 z2i.fD)],stb z3H 98 [(.int .i64 z7l.fE)]])); exact y2v (Z:=_)   (r:=z9A) w pz  zvp) ?_
 refine WL.new (dd:=7) rfl rfl rfl (yh (cs:=[(.int .i64 0),(.int .i64 0)]) yo rfl) ?_
 intro z7b _
 refine WL.yc rfl rfl (yd (vs:=[(.int .i64 z9A.fN),(.int .i64 z9A.fD)]) (ds:=[(.int .i64 z9A.fN),(.int .i64 z9A.fD)]) yl rfl rfl rfl rfl (y3 rfl (y3 rfl yf)) .here (Nat.le_of_ble_eq_true rfl) rfl) ?_
 refine WL.nil ?_
 refine WX.a ?_
 obtain ⟨zaA,zvq,h⟩:=y7Q h
 refine WC.y2M (fun (z95 : Int) (z96 : Int) (zbq : Int)=>(zaA z95 z96 zbq = some r)) (fun (z95 : Int) (z96 : Int) (zbq : Int)=>[(6,(.pointer (some ⟨z5E,0,none⟩))),(7,(.pointer (some ⟨z7b,0,none⟩)))]) (fun (z95 : Int) (z96 : Int) (zbq : Int)=>[stb z5E 30 [(.int .i64 0),(.int .i64 0)],stb z7b 30 [(.int .i64 z95),(.int .i64 z96)],stb z3H 98 [(.int .i64 zbq)]]) ?_ ?_
 ·skip
  refine WC.b ?_
  refine WC.a ?_
  refine WL.a (d:=13) rfl rfl rfl (q_m rfl) ?_
  refine WL.a (d:=14) rfl rfl rfl (y1k Try.underlying26 rfl) ?_
  refine WL.a (d:=15) rfl rfl rfl (q_m rfl) ?_
  refine WL.nil ?_
  refine WX.a ?_
  refine WC.block ?_
  refine WC.y64 (fun (ze7 : Nat) (z6L : Int) (z6i : Int) (z4y : Int) (z4z : Int)=>(y19 z5l z2i zaA ze7 z6L z6i z4y z4z = some r)) (fun (ze7 : Nat) (z6L : Int) (z6i : Int) (z4y : Int) (z4z : Int)=>[(0,(.pointer (some ⟨z3H,0,none⟩))),(5,(.pointer (some ⟨z6j,0,none⟩))),(6,(.pointer (some ⟨z5E,0,none⟩))),(7,(.pointer (some ⟨z7b,0,none⟩))),(13,(.slice zbr z5l.length zbs)),(14,(.int .i64 ((z5l.length : Nat) : Int))),(15,(.int .i64 z6L))]) (fun (ze7 : Nat) (z6L : Int) (z6i : Int) (z4y : Int) (z4z : Int)=>[stb z3H 98 [(.int .i64 z6i)],stb z6j 30 [(.int .i64 z2i.fN),(.int .i64 z2i.fD)],stb z5E 30 [(.int .i64 0),(.int .i64 0)],stb z7b 30 [(.int .i64 z4y),(.int .i64 z4z)]]) (fun (ze7 : Nat) (z6L : Int) (z6i : Int) (z4y : Int) (z4z : Int)=>ze7) ⟨yw,0,z7l.fE,z9A.fN,z9A.fD⟩ h (.cons rfl (.cons rfl (.cons rfl (.cons rfl (.cons rfl (.cons rfl (.cons rfl .nil))))))) (.cons .h3 (.cons .h2 (.cons .h1 (.cons .here .nil)))) ?_
  rintro ze7 z6L z6i z4y z4z h
  obtain ⟨zl9,rfl⟩:=y4Y h
  rw [y19] at h
  refine WC.b ?_
  refine WC.a ?_
  refine WL.a (d:=16) rfl rfl rfl (y1h rfl rfl) ?_
  refine WL.nil ?_
  refine WX.a ?_
  refine WC.b ?_
  refine WC.cond rfl (fun zla=>?_) (fun zla=>?_)
  ·replace h:=yj h zla
   refine WC.skip ?_
   refine WX.a ?_
   refine WC.b ?_
   refine WC.block ?_
   refine WC.b ?_
   obtain ⟨zvr,h⟩:=yp h
   refine WC.a ?_
   refine WL.znth (dd:=17) rfl rfl (Z:=Z) (Pr:=(p39 Z)) y32 rfl rfl zvo zvr ?_
   rintro zAD zAE zvs zAF ⟨zvt,zvu,rfl,zvv⟩
   refine WL.a (d:=18) rfl rfl rfl (ye y3b rfl (y3Z hz.pv zvs rfl)) ?_
   refine WL.a (d:=9) rfl rfl rfl (q_z rfl) ?_
   refine WL.nil ?_
   refine WX.a ?_
   refine WC.b ?_
   obtain ⟨z43,zvw,h⟩:=zb h
   refine WC.a ?_
   refine WL.a (d:=20) rfl rfl rfl (q_m rfl) ?_
   refine WL.a (d:=21) rfl rfl rfl (y6 (cs:=[(.int .i64 z2i.fN),(.int .i64 z2i.fD)]) y5 rfl rfl (y7 .h1)) ?_
   refine WL.b (dd:=22) rfl rfl rfl (zl (l:=[.tmp 20,.tmp 21]) Try.call22 (.cons rfl (.cons rfl .nil))) (.nil : Sel [stb z3H 98 [(.int .i64 z6i)],stb z6j 30 [(.int .i64 z2i.fN),(.int .i64 z2i.fD)],stb z5E 30 [(.int .i64 0),(.int .i64 0)],stb z7b 30 [(.int .i64 z4y),(.int .i64 z4z)]] [] [stb z3H 98 [(.int .i64 z6i)],stb z6j 30 [(.int .i64 z2i.fN),(.int .i64 z2i.fD)],stb z5E 30 [(.int .i64 0),(.int .i64 0)],stb z7b 30 [(.int .i64 z4y),(.int .i64 z4z)]]) (fun w hw=>by have pz:=(hz.call hw (.nil : Sel [stb z3H 98 [(.int .i64 z6i)],stb z6j 30 [(.int .i64 z2i.fN),(.int .i64 z2i.fD)],stb z5E 30 [(.int .i64 0),(.int .i64 0)],stb z7b 30 [(.int .i64 z4y),(.int .i64 z4z)]] [] [stb z3H 98 [(.int .i64 z6i)],stb z6j 30 [(.int .i64 z2i.fN),(.int .i64 z2i.fD)],stb z5E 30 [(.int .i64 0),(.int .i64 0)],stb z7b 30 [(.int .i64 z4y),(.int .i64 z4z)]])); exact y5K (Z:=_) (z93:=zvt) (z94:=zvu) (z1w:=(nth z5l z6L)) (z2d:=z2i) (r:=z43) w pz zvv zvw) ?_
   refine WL.a (d:=19) rfl rfl rfl (q_m rfl) ?_
   refine WL.a (d:=23) rfl rfl rfl (yb rfl rfl) ?_
   refine WL.a (d:=24) rfl rfl rfl (yb rfl rfl) ?_
   refine WL.new (dd:=10) rfl rfl rfl (yh (cs:=[(.int .i64 0),(.int .i64 0)]) yo rfl) ?_
   intro zbt _
   refine WL.yc rfl rfl (yd (vs:=[(.int .i64 z43.1.fN),(.int .i64 z43.1.fD)]) (ds:=[(.int .i64 z43.1.fN),(.int .i64 z43.1.fD)]) yl rfl rfl rfl rfl (y3 rfl (y3 rfl yf)) .here (Nat.le_of_ble_eq_true rfl) rfl) ?_
   refine WL.a (d:=11) rfl rfl rfl (q_z rfl) ?_
   refine WL.nil ?_
   refine WX.a ?_
   obtain ⟨zhp,zvx,h⟩:=y1r h
   refine WC.y4f (fun (z7k : Int)=>(zhp z7k = some r)) (fun (z7k : Int)=>[(0,(.pointer (some ⟨z3H,0,none⟩))),(5,(.pointer (some ⟨z6j,0,none⟩))),(6,(.pointer (some ⟨z5E,0,none⟩))),(7,(.pointer (some ⟨z7b,0,none⟩))),(10,(.pointer (some ⟨zbt,0,none⟩))),(13,(.slice zbr z5l.length zbs)),(14,(.int .i64 ((z5l.length : Nat) : Int))),(15,(.int .i64 z6L))]) (fun (z7k : Int)=>[stb z3H 98 [(.int .i64 z7k)],stb z6j 30 [(.int .i64 z2i.fN),(.int .i64 z2i.fD)],stb z5E 30 [(.int .i64 0),(.int .i64 0)],stb z7b 30 [(.int .i64 z4y),(.int .i64 z4z)],stb zbt 30 [(.int .i64 z43.1.fN),(.int .i64 z43.1.fD)]]) ?_ ?_
   ·skip
    refine WC.b ?_
    refine WC.a ?_
    refine WL.a (d:=25) rfl rfl rfl (q_m rfl) ?_
    refine WL.a (d:=26) rfl rfl rfl (y4c rfl) ?_
    refine WL.a (d:=27) rfl rfl rfl (y4 y3c rfl rfl) ?_
    refine WL.a (d:=28) rfl rfl rfl (ye y2H rfl (yu .h1 rfl)) ?_
    refine WL.a (d:=29) rfl rfl rfl (y3g rfl rfl) ?_
    refine WL.nil ?_
    refine WX.a ?_
    refine WC.cond rfl (fun zlb=>?_) (fun zlb=>?_)
    ·replace h:=yj h zlb
     refine WC.a ?_
     refine WL.a (d:=30) rfl rfl rfl (q_m rfl) ?_
     refine WL.a (d:=31) rfl rfl rfl (q_m rfl) ?_
     refine WL.a (d:=32) rfl rfl rfl (y4c rfl) ?_
     refine WL.a (d:=33) rfl rfl rfl (y4 y3c rfl rfl) ?_
     refine WL.yc rfl rfl (yd (vs:=[(.int .i64 z43.2)]) (ds:=[(.int .i64 z43.2)]) y8o rfl rfl rfl rfl (y3 rfl yf) .h1 (Nat.le_of_ble_eq_true rfl) rfl) ?_
     refine WL.nil ?_
     exact WX.mid (G:=Int) z43.2 h (.cons rfl (.cons rfl (.cons rfl (.cons rfl (.cons rfl (.cons rfl (.cons rfl (.cons rfl .nil)))))))) (.cons .here (.cons .h1 (.cons .h1 (.cons .h1 (.cons .here .nil)))))
    ·replace h:=yk h zlb
     refine WC.skip ?_
     exact WX.mid (G:=Int) z6i h (.cons rfl (.cons rfl (.cons rfl (.cons rfl (.cons rfl (.cons rfl (.cons rfl (.cons rfl .nil)))))))) (.cons .h1 (.cons .h1 (.cons .h1 (.cons .h1 (.cons .here .nil)))))
   ·rintro z7k h
    replace h:=(zvx z7k).symm.trans h
    obtain ⟨z8t,zvy,h⟩:=zb h
    refine WC.a ?_
    refine WL.a (d:=34) rfl rfl rfl (q_m rfl) ?_
    refine WL.a (d:=35) rfl rfl rfl (y6 (cs:=[(.int .i64 z4y),(.int .i64 z4z)]) y5 rfl rfl (y7 .h3)) ?_
    refine WL.a (d:=36) rfl rfl rfl (y6 (cs:=[(.int .i64 z43.1.fN),(.int .i64 z43.1.fD)]) y5 rfl rfl (y7 .h4)) ?_
    refine WL.b (dd:=37) rfl rfl rfl (zl (l:=[.tmp 34,.func 19,.tmp 35,.tmp 36]) Try.call33 (.cons rfl (.cons rfl (.cons rfl (.cons rfl .nil))))) ((.cons .here .nil) : Sel [stb z3H 98 [(.int .i64 z7k)],stb z6j 30 [(.int .i64 z2i.fN),(.int .i64 z2i.fD)],stb z5E 30 [(.int .i64 0),(.int .i64 0)],stb z7b 30 [(.int .i64 z4y),(.int .i64 z4z)],stb zbt 30 [(.int .i64 z43.1.fN),(.int .i64 z43.1.fD)]] [stb z3H 98 [(.int .i64 z7k)]] [stb z6j 30 [(.int .i64 z2i.fN),(.int .i64 z2i.fD)],stb z5E 30 [(.int .i64 0),(.int .i64 0)],stb z7b 30 [(.int .i64 z4y),(.int .i64 z4z)],stb zbt 30 [(.int .i64 z43.1.fN),(.int .i64 z43.1.fD)]]) (fun w hw=>by have pz:=(hz.call hw ((.cons .here .nil) : Sel [stb z3H 98 [(.int .i64 z7k)],stb z6j 30 [(.int .i64 z2i.fN),(.int .i64 z2i.fD)],stb z5E 30 [(.int .i64 0),(.int .i64 0)],stb z7b 30 [(.int .i64 z4y),(.int .i64 z4z)],stb zbt 30 [(.int .i64 z43.1.fN),(.int .i64 z43.1.fD)]] [stb z3H 98 [(.int .i64 z7k)]] [stb z6j 30 [(.int .i64 z2i.fN),(.int .i64 z2i.fD)],stb z5E 30 [(.int .i64 0),(.int .i64 0)],stb z7b 30 [(.int .i64 z4y),(.int .i64 z4z)],stb zbt 30 [(.int .i64 z43.1.fN),(.int .i64 z43.1.fD)]])); exact y1E (Z:=_) (z4q:=z3H) (z75:=19) (z7H:=[]) (z5j:=(⟨z7k⟩ : z2y)) (z7X:=(fun (y0 : z2) (y1 : z2)=>y15 y0 y1)) (z3a:=(⟨z4y,z4z⟩ : z2)) (z3b:=z43.1) (r:=z8t) w pz Try.call19 (fun w' hz' y0 y1  r  hr=>y3n (Z:=_)  (z3F:=y0) (z3G:=y1) (r:=r) w' hz'  hr) zvy (hw.owns ((.cons .here .nil) : Sel [stb z3H 98 [(.int .i64 z7k)],stb z6j 30 [(.int .i64 z2i.fN),(.int .i64 z2i.fD)],stb z5E 30 [(.int .i64 0),(.int .i64 0)],stb z7b 30 [(.int .i64 z4y),(.int .i64 z4z)],stb zbt 30 [(.int .i64 z43.1.fN),(.int .i64 z43.1.fD)]] [stb z3H 98 [(.int .i64 z7k)]] [stb z6j 30 [(.int .i64 z2i.fN),(.int .i64 z2i.fD)],stb z5E 30 [(.int .i64 0),(.int .i64 0)],stb z7b 30 [(.int .i64 z4y),(.int .i64 z4z)],stb zbt 30 [(.int .i64 z43.1.fN),(.int .i64 z43.1.fD)]]))) ?_
    refine WL.yc rfl rfl (yd (vs:=[(.int .i64 z8t.1.fN),(.int .i64 z8t.1.fD)]) (ds:=[(.int .i64 z8t.1.fN),(.int .i64 z8t.1.fD)]) yl rfl rfl rfl rfl (y3 rfl (y3 rfl yf)) .h3 (Nat.le_of_ble_eq_true rfl) rfl) ?_
    refine WL.nil ?_
    refine WX.yn ?_
    refine WX.a ?_
    refine WC.a ?_
    refine WL.a (d:=38) rfl rfl rfl (y1d rfl rfl rfl) ?_
    refine WL.a (d:=15) rfl rfl rfl (q_m rfl) ?_
    refine WL.nil ?_
    exact WX.round (G:=Nat × Int × Int × Int × Int) ⟨zl9,(i64 (z6L + 1)),z8t.2.fE,z8t.1.fN,z8t.1.fD⟩ h (Nat.lt_succ_self _) (.cons rfl (.cons rfl (.cons rfl (.cons rfl (.cons rfl (.cons rfl (.cons rfl .nil))))))) (.cons .h1 (.cons .h1 (.cons .h1 (.cons .here .nil))))
  ·replace h:=yk h zla
   refine WC.exit ?_
   refine WX.ym ?_
   refine WX.ym ?_
   refine WX.yH ?_
   exact WX.mid (G:=Int × Int × Int) ⟨z4y,z4z,z6i⟩ h (.cons rfl (.cons rfl .nil)) (.cons .h2 (.cons .h2 (.cons .here .nil)))
 ·rintro z95 z96 zbq h
  replace h:=(zvq z95 z96 zbq).symm.trans h
  refine WC.b ?_
  refine WC.a ?_
  refine WL.a (d:=39) rfl rfl rfl (y6 (cs:=[(.int .i64 z95),(.int .i64 z96)]) y5 rfl rfl (y7 .h1)) ?_
  refine WL.yc rfl rfl (yd (vs:=[(.int .i64 z95),(.int .i64 z96)]) (ds:=[(.int .i64 z95),(.int .i64 z96)]) yl rfl rfl rfl rfl (y3 rfl (y3 rfl yf)) .here (Nat.le_of_ble_eq_true rfl) rfl) ?_
  refine WL.nil ?_
  refine WX.a ?_
  refine WC.ret ?_
  obtain rfl:=Option.some.inj h
  refine WX.y9 Try.results35 (.agg rfl y5 rfl (y7 .here) .nil) (fun w hw=>?_)
  exact ⟨yI rfl,hw.sub (.cons .h2 .nil)⟩
def y2R (z7c : z2y) (z1y : z2) (zcH : List (List z1)) (z7m : zSv) : Option (z2 × z2y) :=
 (y22 z7c zcH z1y).bind fun z8u=>(y12 z8u.2 (fun (y0 : z2) (y1 : z2)=>y2Q y0 y1) z8u.1 z7m.fR).bind fun z8v=>(y12 z8v.2 (fun (y0 : z2) (y1 : z2)=>y1x y0 y1) z8v.1 z1y).bind fun z8w=>(y12 z8w.2 (fun (y0 : z2) (y1 : z2)=>y15 y0 y1) z8w.1 z7m.fLatency).bind fun zbu=>some (zbu.1,zbu.2)
set_option maxRecDepth 20000 in
theorem y7r (Z : Zp)  (z3i : Nat) (zfu : Addr) (zhq : Option Addr) (zhr : Nat) (zfv : Addr) (z7c : z2y) (z1y : z2) (zcH : List (List z1)) (z7m : zSv) (r : z2 × z2y) (w₀ : World) (hz : PZ (fps [stb z3i 98 [(.int .i64 z7c.fE)]]) w₀ Z)
  (zvz : ZS Z 1 (p39 Z) zhq zhr zcH)
  (zvA : ZC Z zfu [(.slice zhq zcH.length zhr)])
  (zpu : ZC Z zfv [(.int .i64 z7m.fR.fN),(.int .i64 z7m.fR.fD),(.int .i64 z7m.fLatency.fN),(.int .i64 z7m.fLatency.fD)])
  (h : y2R z7c z1y zcH z7m = some r)
  (hown : Hp (fps [stb z3i 98 [(.int .i64 z7c.fE)]]) w₀ w₀ [stb z3i 98 [(.int .i64 z7c.fE)]]) :
  Calls Try.prog 32 #[(.pointer (some ⟨z3i,0,none⟩)),(.agg #[(.int .i64 z1y.fN),(.int .i64 z1y.fD)]),(.pointer (some zfu)),(.pointer (some zfv))] w₀ fun e w'=>e = .returned (.agg #[(.int .i64 r.1.fN),(.int .i64 r.1.fD)]) ∧ Hp (fps [stb z3i 98 [(.int .i64 z7c.fE)]]) w₀ w' [stb z3i 98 [(.int .i64 r.2.fE)]]:=by
 unfold y2R at h
 refine Calls.yg (vs:=[(.pointer (some ⟨z3i,0,none⟩)),(.agg #[(.int .i64 z1y.fN),(.int .i64 z1y.fD)]),(.pointer (some zfu)),(.pointer (some zfv))]) (pre:=[stb z3i 98 [(.int .i64 z7c.fE)]]) (env:=[(0,(.pointer (some ⟨z3i,0,none⟩))),(1,(.agg #[(.int .i64 z1y.fN),(.int .i64 z1y.fD)])),(2,(.pointer (some zfu))),(3,(.pointer (some zfv)))]) Try.func32 rfl Try.ntmps32 rfl (hown) rfl ?_
 refine WC.b ?_
 refine WC.a ?_
 refine WL.new (dd:=5) rfl rfl rfl (yK (cs:=[(.int .i64 z1y.fN),(.int .i64 z1y.fD)]) rfl rfl) ?_
 intro z4A _
 refine WL.new (dd:=6) rfl rfl rfl (yh (cs:=[(.int .i64 0),(.int .i64 0)]) yo rfl) ?_
 intro z4Q _
 refine WL.nil ?_
 refine WX.a ?_
 refine WC.b ?_
 obtain ⟨z8u,zvB,h⟩:=zb h
 obtain ⟨z8v,zvC,h⟩:=zb h
 obtain ⟨z8w,zvD,h⟩:=zb h
 obtain ⟨zbu,zvE,h⟩:=zb h
 refine WC.y1e (fun i=>[6,9,11,14,15].contains i) [stb z4A 30 [(.int .i64 z1y.fN),(.int .i64 z1y.fD)]] rfl ?_
 refine WD.a (i:=0) (d:=7) (by kernel_rfl) rfl (z6 (by kernel_rfl)) (z7 (by kernel_rfl)) rfl rfl rfl (fun _=>q_m rfl) ?_
 refine WD.a (i:=1) (d:=8) (by kernel_rfl) rfl (z6 (by kernel_rfl)) (z7 (by kernel_rfl)) rfl rfl rfl (fun _=>q_m rfl) ?_
 refine WD.a (i:=2) (d:=9) (by kernel_rfl) rfl (z6 (by kernel_rfl)) (z7 (by kernel_rfl)) rfl rfl rfl (fun _=>q_m rfl) ?_
 refine WD.a (i:=3) (d:=10) (by kernel_rfl) rfl (z6 (by kernel_rfl)) (z7 (by kernel_rfl)) rfl rfl rfl (fun _=>q_m rfl) ?_
 refine WD.e (i:=4) (d:=11) (by kernel_rfl) rfl (z6 (by kernel_rfl)) (z7 (by kernel_rfl)) rfl rfl rfl (ye y3a rfl (y3Z hz.pv zvA rfl)) ?_
 refine WD.e (i:=5) (d:=12) (by kernel_rfl) rfl (z6 (by kernel_rfl)) (z7 (by kernel_rfl)) rfl rfl rfl (y6 (cs:=[(.int .i64 z1y.fN),(.int .i64 z1y.fD)]) y5 rfl rfl (y7 .h1)) ?_
 refine WD.a (i:=7) (d:=14) (by kernel_rfl) rfl (z6 (by kernel_rfl)) (z7 (by kernel_rfl)) rfl rfl rfl (fun _=>y4 y5X rfl rfl) ?_
 refine WD.y2z (i:=8) (d:=15) (by kernel_rfl) rfl (z6 (by kernel_rfl)) (z7 (by kernel_rfl)) rfl rfl rfl (Sin.of (.cons .h1 .nil)) (y6 (cs:=[(.int .i64 z7m.fR.fN),(.int .i64 z7m.fR.fD)]) y5 rfl rfl (y5U (off:=0) (s:=2) hz.pv zpu rfl)) ?_
 refine WD.y2z (i:=10) (d:=17) (by kernel_rfl) rfl (z6 (by kernel_rfl)) (z7 (by kernel_rfl)) rfl rfl rfl (Sin.of (.cons .h1 .nil)) (y6 (cs:=[(.int .i64 z1y.fN),(.int .i64 z1y.fD)]) y5 rfl rfl (y7 .here)) ?_
 refine WD.a (i:=12) (d:=19) (by kernel_rfl) rfl (z6 (by kernel_rfl)) (z7 (by kernel_rfl)) rfl rfl rfl (fun _=>y4 y55 rfl rfl) ?_
 refine WD.y2z (i:=13) (d:=20) (by kernel_rfl) rfl (z6 (by kernel_rfl)) (z7 (by kernel_rfl)) rfl rfl rfl (Sin.of (.cons .h1 .nil)) (y6 (cs:=[(.int .i64 z7m.fLatency.fN),(.int .i64 z7m.fLatency.fD)]) y5 rfl rfl (y5U (off:=2) (s:=2) hz.pv zpu rfl)) ?_
 refine WD.call0 (i:=6) (dd:=13) rfl (by kernel_rfl) rfl rfl rfl (.inl ⟨rfl,(Sin.of (.cons .h2 .nil))⟩) (zl (l:=[.tmp 10,.tmp 11,.tmp 12]) Try.call35 (.cons rfl (.cons rfl (.cons rfl .nil)))) ((.cons .h2 .nil) : Sel [stb z4Q 30 [(.int .i64 0),(.int .i64 0)],stb z4A 30 [(.int .i64 z1y.fN),(.int .i64 z1y.fD)],stb z3i 98 [(.int .i64 z7c.fE)]] [stb z3i 98 [(.int .i64 z7c.fE)]] [stb z4Q 30 [(.int .i64 0),(.int .i64 0)],stb z4A 30 [(.int .i64 z1y.fN),(.int .i64 z1y.fD)]]) (fun w hw=>by have pz:=(hz.call hw ((.cons .h2 .nil) : Sel [stb z4Q 30 [(.int .i64 0),(.int .i64 0)],stb z4A 30 [(.int .i64 z1y.fN),(.int .i64 z1y.fD)],stb z3i 98 [(.int .i64 z7c.fE)]] [stb z3i 98 [(.int .i64 z7c.fE)]] [stb z4Q 30 [(.int .i64 0),(.int .i64 0)],stb z4A 30 [(.int .i64 z1y.fN),(.int .i64 z1y.fD)]])); exact Calls.mono (y4L (Z:=_) (z3H:=z3i) (zbr:=zhq) (zbs:=zhr) (z7l:=z7c) (z5l:=zcH) (z2i:=z1y) (r:=z8u) w pz zvz zvB (hw.owns ((.cons .h2 .nil) : Sel [stb z4Q 30 [(.int .i64 0),(.int .i64 0)],stb z4A 30 [(.int .i64 z1y.fN),(.int .i64 z1y.fD)],stb z3i 98 [(.int .i64 z7c.fE)]] [stb z3i 98 [(.int .i64 z7c.fE)]] [stb z4Q 30 [(.int .i64 0),(.int .i64 0)],stb z4A 30 [(.int .i64 z1y.fN),(.int .i64 z1y.fD)]]))) (fun _ _ h'=>⟨h'.1,trivial,h'.2⟩)) ?_
 intro _
 refine WD.call0 (i:=9) (dd:=16) rfl (by kernel_rfl) rfl rfl rfl (.inl ⟨rfl,(Sin.of (.cons .h2 .nil))⟩) (zl (l:=[.tmp 9,.func 34,.tmp 13,.tmp 15]) Try.call33 (.cons rfl (.cons rfl (.cons rfl (.cons rfl .nil))))) ((.cons .here .nil) : Sel [stb z3i 98 [(.int .i64 z8u.2.fE)],stb z4Q 30 [(.int .i64 0),(.int .i64 0)],stb z4A 30 [(.int .i64 z1y.fN),(.int .i64 z1y.fD)]] [stb z3i 98 [(.int .i64 z8u.2.fE)]] [stb z4Q 30 [(.int .i64 0),(.int .i64 0)],stb z4A 30 [(.int .i64 z1y.fN),(.int .i64 z1y.fD)]]) (fun w hw=>by have pz:=(hz.call hw ((.cons .here .nil) : Sel [stb z3i 98 [(.int .i64 z8u.2.fE)],stb z4Q 30 [(.int .i64 0),(.int .i64 0)],stb z4A 30 [(.int .i64 z1y.fN),(.int .i64 z1y.fD)]] [stb z3i 98 [(.int .i64 z8u.2.fE)]] [stb z4Q 30 [(.int .i64 0),(.int .i64 0)],stb z4A 30 [(.int .i64 z1y.fN),(.int .i64 z1y.fD)]])); exact Calls.mono (y1E (Z:=_) (z4q:=z3i) (z75:=34) (z7H:=[]) (z5j:=z8u.2) (z7X:=(fun (y0 : z2) (y1 : z2)=>y2Q y0 y1)) (z3a:=z8u.1) (z3b:=z7m.fR) (r:=z8v) w pz Try.call34 (fun w' hz' y0 y1  r  hr=>y8E (Z:=_)  (z4K:=y0) (z4L:=y1) (r:=r) w' hz'  hr) zvC (hw.owns ((.cons .here .nil) : Sel [stb z3i 98 [(.int .i64 z8u.2.fE)],stb z4Q 30 [(.int .i64 0),(.int .i64 0)],stb z4A 30 [(.int .i64 z1y.fN),(.int .i64 z1y.fD)]] [stb z3i 98 [(.int .i64 z8u.2.fE)]] [stb z4Q 30 [(.int .i64 0),(.int .i64 0)],stb z4A 30 [(.int .i64 z1y.fN),(.int .i64 z1y.fD)]]))) (fun _ _ h'=>⟨h'.1,trivial,h'.2⟩)) ?_
 intro _
 refine WD.call0 (i:=11) (dd:=18) rfl (by kernel_rfl) rfl rfl rfl (.inl ⟨rfl,(Sin.of (.cons .h2 .nil))⟩) (zl (l:=[.tmp 8,.func 24,.tmp 16,.tmp 17]) Try.call33 (.cons rfl (.cons rfl (.cons rfl (.cons rfl .nil))))) ((.cons .here .nil) : Sel [stb z3i 98 [(.int .i64 z8v.2.fE)],stb z4Q 30 [(.int .i64 0),(.int .i64 0)],stb z4A 30 [(.int .i64 z1y.fN),(.int .i64 z1y.fD)]] [stb z3i 98 [(.int .i64 z8v.2.fE)]] [stb z4Q 30 [(.int .i64 0),(.int .i64 0)],stb z4A 30 [(.int .i64 z1y.fN),(.int .i64 z1y.fD)]]) (fun w hw=>by have pz:=(hz.call hw ((.cons .here .nil) : Sel [stb z3i 98 [(.int .i64 z8v.2.fE)],stb z4Q 30 [(.int .i64 0),(.int .i64 0)],stb z4A 30 [(.int .i64 z1y.fN),(.int .i64 z1y.fD)]] [stb z3i 98 [(.int .i64 z8v.2.fE)]] [stb z4Q 30 [(.int .i64 0),(.int .i64 0)],stb z4A 30 [(.int .i64 z1y.fN),(.int .i64 z1y.fD)]])); exact Calls.mono (y1E (Z:=_) (z4q:=z3i) (z75:=24) (z7H:=[]) (z5j:=z8v.2) (z7X:=(fun (y0 : z2) (y1 : z2)=>y1x y0 y1)) (z3a:=z8v.1) (z3b:=z1y) (r:=z8w) w pz Try.call24 (fun w' hz' y0 y1  r  hr=>y4K (Z:=_)  (z3Y:=y0) (z3Z:=y1) (r:=r) w' hz'  hr) zvD (hw.owns ((.cons .here .nil) : Sel [stb z3i 98 [(.int .i64 z8v.2.fE)],stb z4Q 30 [(.int .i64 0),(.int .i64 0)],stb z4A 30 [(.int .i64 z1y.fN),(.int .i64 z1y.fD)]] [stb z3i 98 [(.int .i64 z8v.2.fE)]] [stb z4Q 30 [(.int .i64 0),(.int .i64 0)],stb z4A 30 [(.int .i64 z1y.fN),(.int .i64 z1y.fD)]]))) (fun _ _ h'=>⟨h'.1,trivial,h'.2⟩)) ?_
 intro _
 refine WD.call0 (i:=14) (dd:=21) rfl (by kernel_rfl) rfl rfl rfl (.inl ⟨rfl,(Sin.of (.cons .h2 .nil))⟩) (zl (l:=[.tmp 7,.func 19,.tmp 18,.tmp 20]) Try.call33 (.cons rfl (.cons rfl (.cons rfl (.cons rfl .nil))))) ((.cons .here .nil) : Sel [stb z3i 98 [(.int .i64 z8w.2.fE)],stb z4Q 30 [(.int .i64 0),(.int .i64 0)],stb z4A 30 [(.int .i64 z1y.fN),(.int .i64 z1y.fD)]] [stb z3i 98 [(.int .i64 z8w.2.fE)]] [stb z4Q 30 [(.int .i64 0),(.int .i64 0)],stb z4A 30 [(.int .i64 z1y.fN),(.int .i64 z1y.fD)]]) (fun w hw=>by have pz:=(hz.call hw ((.cons .here .nil) : Sel [stb z3i 98 [(.int .i64 z8w.2.fE)],stb z4Q 30 [(.int .i64 0),(.int .i64 0)],stb z4A 30 [(.int .i64 z1y.fN),(.int .i64 z1y.fD)]] [stb z3i 98 [(.int .i64 z8w.2.fE)]] [stb z4Q 30 [(.int .i64 0),(.int .i64 0)],stb z4A 30 [(.int .i64 z1y.fN),(.int .i64 z1y.fD)]])); exact Calls.mono (y1E (Z:=_) (z4q:=z3i) (z75:=19) (z7H:=[]) (z5j:=z8w.2) (z7X:=(fun (y0 : z2) (y1 : z2)=>y15 y0 y1)) (z3a:=z8w.1) (z3b:=z7m.fLatency) (r:=zbu) w pz Try.call19 (fun w' hz' y0 y1  r  hr=>y3n (Z:=_)  (z3F:=y0) (z3G:=y1) (r:=r) w' hz'  hr) zvE (hw.owns ((.cons .here .nil) : Sel [stb z3i 98 [(.int .i64 z8w.2.fE)],stb z4Q 30 [(.int .i64 0),(.int .i64 0)],stb z4A 30 [(.int .i64 z1y.fN),(.int .i64 z1y.fD)]] [stb z3i 98 [(.int .i64 z8w.2.fE)]] [stb z4Q 30 [(.int .i64 0),(.int .i64 0)],stb z4A 30 [(.int .i64 z1y.fN),(.int .i64 z1y.fD)]]))) (fun _ _ h'=>⟨h'.1,trivial,h'.2⟩)) ?_
 intro _
 refine WD.y61 (i:=15) rfl (by kernel_rfl) rfl rfl rfl (by kernel_rfl) (yd (vs:=[(.int .i64 zbu.1.fN),(.int .i64 zbu.1.fD)]) (ds:=[(.int .i64 zbu.1.fN),(.int .i64 zbu.1.fD)]) yl rfl rfl rfl rfl (y3 rfl (y3 rfl yf)) .h1 (Nat.le_of_ble_eq_true rfl) rfl) ?_
 refine WD.done (by kernel_rfl) ?_
 refine WX.a ?_
 refine WC.ret ?_
 obtain rfl:=Option.some.inj h
 refine WX.y9 Try.results32 (.agg rfl y5 rfl (y7 .here) .nil) (fun w hw=>?_)
 exact ⟨yI rfl,hw.sub (.cons .h1 .nil)⟩
def y1a (z6M : List (List z1)) (z5T : zSv) (z3A : z2) (z2B : List z2) (z97 : Int) : Option (Bool × (Nat × List z2 × Int)) :=
 (y2R (⟨z97⟩ : z2y) z3A z6M z5T).bind fun z3I=>(if decide (((z2B.length : Nat) : Int) = 0) then some true else chk ((0 : Int) ≤ 0 ∧ 0 < ((z2B.length : Nat) : Int)) ((yO z3I.1 (⟨((nth z2B 0).fN),((nth z2B 0).fD)⟩ : z2)).bind fun zlc=>some (decide (zlc > 0)))).bind fun zld=>if zld then some (true,(0,([z3I.1] : List z2),z3I.2.fE)) else some (true,(0,z2B,z3I.2.fE))
def y2W (z1N : List (List z1)) (zq : zSv) (z6M : List (List z1)) (z5T : zSv) (z1O : List z2) : Option (z2 × Int) :=
 (y2b z1N zq z6M z5T z1O).bind fun ze8=>if decide (ze8 ≠ 0) then some ((⟨0,0⟩ : z2),ze8) else jp2 (fun (z9B : Int) (z6k : List z2)=>if decide (z9B ≠ 0) then some ((⟨0,0⟩ : z2),z9B) else chk ((0 : Int) ≤ 0 ∧ 0 < ((z6k.length : Nat) : Int)) (some ((⟨((nth z6k 0).fN),((nth z6k 0).fD)⟩ : z2),0))) fun zle=>(y2x z1N zq z6M z5T z1O).bind fun z1s=>(y1V (Nat × List z2 × Int) (fun (x : z2) (s : Nat × List z2 × Int)=>chk (s.1 = 0) (y1a z6M z5T x s.2.1 s.2.2)) (0,([] : List z2),0) z1N (⟨(⟨z1s.1,z1s.2.1⟩ : z2),(⟨z1s.2.2.1,z1s.2.2.2⟩ : z2)⟩ : zSv) z6M z5T z1O).bind fun z5U=>zle z5U.2.2 z5U.2.1
set_option maxRecDepth 20000 in
theorem y6M (Z : Zp)  (z23 : Option Addr) (z24 : Nat) (z1W : Addr) (zcI : Option Addr) (zcJ : Nat) (z1X : Addr) (z26 : Option Addr) (z27 : Nat) (z1N : List (List z1)) (zq : zSv) (z6M : List (List z1)) (z5T : zSv) (z1O : List z2) (r : z2 × Int) (w₀ : World) (hz : PZ [] w₀ Z)
  (zlf : ZS Z 1 (p39 Z) z23 z24 z1N)
  (zhs : ZS Z 1 (p39 Z) zcI zcJ z6M)
  (zht : ZC Z z1W [(.slice zcI z6M.length zcJ)])
  (zhu : ZC Z z1X [(.int .i64 z5T.fR.fN),(.int .i64 z5T.fR.fD),(.int .i64 z5T.fLatency.fN),(.int .i64 z5T.fLatency.fD)])
  (zlg : ZS Z 2 (fun r x=>r = e30 x) z26 z27 z1O)
  (h : y2W z1N zq z6M z5T z1O = some r) :
  Calls Try.prog 36 #[(.agg #[(.slice z23 z1N.length z24),(.int .i64 zq.fR.fN),(.int .i64 zq.fR.fD),(.int .i64 zq.fLatency.fN),(.int .i64 zq.fLatency.fD),(.func (.func 32) #[] #[(.pointer (some z1W)),(.pointer (some z1X))]),(.slice z26 z1O.length z27)])] w₀ fun e w'=>∃ Zn : Zp,e = .returned (.tuple #[(.agg #[(.int .i64 r.1.fN),(.int .i64 r.1.fD)]),(.int .i64 r.2)]) ∧ True ∧ Hp [] w₀ w' [fz Zn]:=by
 unfold y2W at h
 refine Calls.y6C (vs:=[(.agg #[(.slice z23 z1N.length z24),(.int .i64 zq.fR.fN),(.int .i64 zq.fR.fD),(.int .i64 zq.fLatency.fN),(.int .i64 zq.fLatency.fD),(.func (.func 32) #[] #[(.pointer (some z1W)),(.pointer (some z1X))]),(.slice z26 z1O.length z27)])]) (pre:=[]) (env:=[(0,(.agg #[(.slice z23 z1N.length z24),(.int .i64 zq.fR.fN),(.int .i64 zq.fR.fD),(.int .i64 zq.fLatency.fN),(.int .i64 zq.fLatency.fD),(.func (.func 32) #[] #[(.pointer (some z1W)),(.pointer (some z1X))]),(.slice z26 z1O.length z27)]))]) Try.func36 rfl Try.ntmps36 rfl (Hp.nil w₀ _) rfl ?_
 refine WC.pool ?_
 refine WC.b ?_
 refine WC.a ?_
 refine WL.new (dd:=1) rfl rfl rfl (yK (cs:=[(.slice z23 z1N.length z24),(.int .i64 zq.fR.fN),(.int .i64 zq.fR.fD),(.int .i64 zq.fLatency.fN),(.int .i64 zq.fLatency.fD),(.func (.func 32) #[] #[(.pointer (some z1W)),(.pointer (some z1X))]),(.slice z26 z1O.length z27)]) rfl rfl) ?_
 intro z3j _
 refine WL.new (dd:=2) rfl rfl rfl (yh (cs:=[(.int .i64 0),(.int .i64 0)]) yo rfl) ?_
 intro z3l _
 refine WL.a (d:=3) rfl rfl rfl (q_z rfl) ?_
 refine WL.nil ?_
 refine WX.a ?_
 refine WC.b ?_
 refine WC.b ?_
 obtain ⟨ze8,zvF,h⟩:=zb h
 refine WC.a ?_
 refine WL.a (d:=9) rfl rfl rfl (y6 (cs:=[(.slice z23 z1N.length z24),(.int .i64 zq.fR.fN),(.int .i64 zq.fR.fD),(.int .i64 zq.fLatency.fN),(.int .i64 zq.fLatency.fD),(.func (.func 32) #[] #[(.pointer (some z1W)),(.pointer (some z1X))]),(.slice z26 z1O.length z27)]) y5W rfl rfl (y7 .h1)) ?_
 refine WL.y2A (dd:=10) rfl rfl rfl (zl (l:=[.tmp 9]) Try.call52 (.cons rfl .nil)) (.nil : Sel [stb z3l 30 [(.int .i64 0),(.int .i64 0)],stb z3j 79 [(.slice z23 z1N.length z24),(.int .i64 zq.fR.fN),(.int .i64 zq.fR.fD),(.int .i64 zq.fLatency.fN),(.int .i64 zq.fLatency.fD),(.func (.func 32) #[] #[(.pointer (some z1W)),(.pointer (some z1X))]),(.slice z26 z1O.length z27)],fz []] [] [stb z3l 30 [(.int .i64 0),(.int .i64 0)],stb z3j 79 [(.slice z23 z1N.length z24),(.int .i64 zq.fR.fN),(.int .i64 zq.fR.fD),(.int .i64 zq.fLatency.fN),(.int .i64 zq.fLatency.fD),(.func (.func 32) #[] #[(.pointer (some z1W)),(.pointer (some z1X))]),(.slice z26 z1O.length z27)],fz []]) (fun w hw=>by have pz:=(hz.call2 hw (.nil : Sel [stb z3l 30 [(.int .i64 0),(.int .i64 0)],stb z3j 79 [(.slice z23 z1N.length z24),(.int .i64 zq.fR.fN),(.int .i64 zq.fR.fD),(.int .i64 zq.fLatency.fN),(.int .i64 zq.fLatency.fD),(.func (.func 32) #[] #[(.pointer (some z1W)),(.pointer (some z1X))]),(.slice z26 z1O.length z27)],fz []] [] [stb z3l 30 [(.int .i64 0),(.int .i64 0)],stb z3j 79 [(.slice z23 z1N.length z24),(.int .i64 zq.fR.fN),(.int .i64 zq.fR.fD),(.int .i64 zq.fLatency.fN),(.int .i64 zq.fLatency.fD),(.func (.func 32) #[] #[(.pointer (some z1W)),(.pointer (some z1X))]),(.slice z26 z1O.length z27)],fz []]) .h2); exact y6p (Z:=_) (z2I:=z23) (z2J:=z24) (z2U:=z1W) (zkm:=zcI) (zkn:=zcJ) (z2V:=z1X) (z2W:=z26) (z2X:=z27) (z21:=z1N) (zn:=zq) (zfd:=z6M) (zcp:=z5T) (z2H:=z1O) (r:=ze8) w pz ((zlf.mono (Zle.left _ _)).weak (fun _ _ h=>yG (Zle.left _ _) h)) ((zhs.mono (Zle.left _ _)).weak (fun _ _ h=>yG (Zle.left _ _) h)) (zht.mono (Zle.left _ _)) (zhu.mono (Zle.left _ _)) (zlg.mono (Zle.left _ _)) zvF) ?_
 rintro z5V _
 refine WL.merge .here .h2 ?_
 refine WL.a (d:=4) rfl rfl rfl (q_z rfl) ?_
 refine WL.nil ?_
 refine WX.a ?_
 refine WC.b ?_
 refine WC.a ?_
 refine WL.a (d:=11) rfl rfl rfl (q_m rfl) ?_
 refine WL.a (d:=12) rfl rfl rfl (y2L rfl rfl) ?_
 refine WL.nil ?_
 refine WX.a ?_
 refine WC.cond rfl (fun zlh=>?_) (fun zlh=>?_)
 ·replace h:=yj h zlh
  refine WC.b ?_
  refine WC.a ?_
  refine WL.a (d:=13) rfl rfl rfl (y1j (v:=(.agg #[(.int .i64 0),(.int .i64 0)])) (Eos.parts (l:=[]) .nil []) (fun _=>by kernel_rfl)) ?_
  refine WL.a (d:=14) rfl rfl rfl (q_m rfl) ?_
  refine WL.yc rfl rfl (yd (vs:=[(.int .i64 0),(.int .i64 0)]) (ds:=[(.int .i64 0),(.int .i64 0)]) yl rfl rfl rfl rfl (y3 rfl (y3 rfl yf)) .h1 (Nat.le_of_ble_eq_true rfl) rfl) ?_
  refine WL.a (d:=3) rfl rfl rfl (q_z rfl) ?_
  refine WL.nil ?_
  refine WX.a ?_
  refine WC.ret ?_
  refine WX.y8 ?_
  obtain rfl:=Option.some.inj h
  refine WX.y7k Try.results36 (.agg rfl y5 rfl (y7 .here) (.tmp rfl .nil)) (fun w hw=>?_)
  exact ⟨([] ++ z5V),y1I rfl rfl,trivial,hw.sub (.cons .h1 .nil)⟩
 ·replace h:=yk h zlh
  refine WC.skip ?_
  refine WX.a ?_
  refine WC.b ?_
  refine WC.a ?_
  refine WL.new (dd:=5) rfl rfl rfl (yh (cs:=[(.int .i64 0)]) y6Y rfl) ?_
  intro z3m _
  refine WL.nil ?_
  refine WX.a ?_
  refine WC.b ?_
  refine WC.a ?_
  refine WL.new (dd:=6) rfl rfl rfl (yh (cs:=[(.slice none 0 0)]) y7V rfl) ?_
  intro z3u _
  refine WL.nil ?_
  refine WX.a ?_
  obtain ⟨zle,zvG,h⟩:=y3F h
  refine WC.y6D (fun (zfw : Nat) (z9B : Int) (z6k : List z2) (zcK : Zp) (zfx : Option Addr) (zfy : Nat)=>(zle z9B z6k = some r) ∧ (Zle (Z ++ ([] ++ z5V)) (Z ++ zcK))) (fun (zfw : Nat) (z9B : Int) (z6k : List z2) (zcK : Zp) (zfx : Option Addr) (zfy : Nat)=>[(2,(.pointer (some ⟨z3l,0,none⟩))),(5,(.pointer (some ⟨z3m,0,none⟩))),(6,(.pointer (some ⟨z3u,0,none⟩)))]) (fun (zfw : Nat) (z9B : Int) (z6k : List z2) (zcK : Zp) (zfx : Option Addr) (zfy : Nat)=>[fz zcK,stb z3l 30 [(.int .i64 0),(.int .i64 0)],stb z3m 98 [(.int .i64 z9B)],stb z3u 77 [(.slice zfx z6k.length zfy)],row (.slice zfx z6k.length zfy) 30 2 (z6k.flatMap e30),dfr zfw]) ?_ ?_
  ·skip
   refine WC.b ?_
   obtain ⟨z1s,zvH,h⟩:=zb h
   refine WC.a ?_
   refine WL.a (d:=15) rfl rfl rfl (y6 (cs:=[(.slice z23 z1N.length z24),(.int .i64 zq.fR.fN),(.int .i64 zq.fR.fD),(.int .i64 zq.fLatency.fN),(.int .i64 zq.fLatency.fD),(.func (.func 32) #[] #[(.pointer (some z1W)),(.pointer (some z1X))]),(.slice z26 z1O.length z27)]) y5W rfl rfl (y7 .h4)) ?_
   refine WL.y2A (dd:=16) rfl rfl rfl (zl (l:=[.tmp 15]) Try.call53 (.cons rfl .nil)) (.nil : Sel [stb z3u 77 [(.slice none 0 0)],stb z3m 98 [(.int .i64 0)],fz ([] ++ z5V),stb z3l 30 [(.int .i64 0),(.int .i64 0)],stb z3j 79 [(.slice z23 z1N.length z24),(.int .i64 zq.fR.fN),(.int .i64 zq.fR.fD),(.int .i64 zq.fLatency.fN),(.int .i64 zq.fLatency.fD),(.func (.func 32) #[] #[(.pointer (some z1W)),(.pointer (some z1X))]),(.slice z26 z1O.length z27)]] [] [stb z3u 77 [(.slice none 0 0)],stb z3m 98 [(.int .i64 0)],fz ([] ++ z5V),stb z3l 30 [(.int .i64 0),(.int .i64 0)],stb z3j 79 [(.slice z23 z1N.length z24),(.int .i64 zq.fR.fN),(.int .i64 zq.fR.fD),(.int .i64 zq.fLatency.fN),(.int .i64 zq.fLatency.fD),(.func (.func 32) #[] #[(.pointer (some z1W)),(.pointer (some z1X))]),(.slice z26 z1O.length z27)]]) (fun w hw=>by have pz:=(hz.call2 hw (.nil : Sel [stb z3u 77 [(.slice none 0 0)],stb z3m 98 [(.int .i64 0)],fz ([] ++ z5V),stb z3l 30 [(.int .i64 0),(.int .i64 0)],stb z3j 79 [(.slice z23 z1N.length z24),(.int .i64 zq.fR.fN),(.int .i64 zq.fR.fD),(.int .i64 zq.fLatency.fN),(.int .i64 zq.fLatency.fD),(.func (.func 32) #[] #[(.pointer (some z1W)),(.pointer (some z1X))]),(.slice z26 z1O.length z27)]] [] [stb z3u 77 [(.slice none 0 0)],stb z3m 98 [(.int .i64 0)],fz ([] ++ z5V),stb z3l 30 [(.int .i64 0),(.int .i64 0)],stb z3j 79 [(.slice z23 z1N.length z24),(.int .i64 zq.fR.fN),(.int .i64 zq.fR.fD),(.int .i64 zq.fLatency.fN),(.int .i64 zq.fLatency.fD),(.func (.func 32) #[] #[(.pointer (some z1W)),(.pointer (some z1X))]),(.slice z26 z1O.length z27)]]) .h2); exact y6d (Z:=_) (zcr:=z23) (zcs:=z24) (zct:=z1W) (zkv:=zcI) (zkw:=zcJ) (zcu:=z1X) (zcv:=z26) (zcw:=z27) (zao:=z1N) (z54:=zq) (zfh:=z6M) (zcq:=z5T) (zap:=z1O) (r:=z1s) w pz ((zlf.mono ((Zle.left _ _).trans ((Zle.left _ _).trans (Zle.yi _ _ _)))).weak (fun _ _ h=>yG ((Zle.left _ _).trans ((Zle.left _ _).trans (Zle.yi _ _ _))) h)) ((zhs.mono ((Zle.left _ _).trans ((Zle.left _ _).trans (Zle.yi _ _ _)))).weak (fun _ _ h=>yG ((Zle.left _ _).trans ((Zle.left _ _).trans (Zle.yi _ _ _))) h)) (zht.mono ((Zle.left _ _).trans ((Zle.left _ _).trans (Zle.yi _ _ _)))) (zhu.mono ((Zle.left _ _).trans ((Zle.left _ _).trans (Zle.yi _ _ _)))) (zlg.mono ((Zle.left _ _).trans ((Zle.left _ _).trans (Zle.yi _ _ _)))) zvH) ?_
   rintro z6l _
   refine WL.nil ?_
   refine WX.a ?_
   refine WC.block ?_
   refine WC.pool ?_
   refine WC.drop (.cons .here (.cons .h1 (.cons .h1 (.cons .h2 (.cons .h2 (.cons .here (.cons .here .nil))))))) ?_
   refine WC.nilRow 30 2 ?_
   refine WC.rangeFunc (f:=69) (caps:=[(.pointer (some ⟨z6l,0,none⟩))]) rfl Try.call69 ?_
   intro zAG zAH z4g z7K z4B zhv zvI zvJ w hw
   have hw1:=hw.selAll ((.cons .h3 (.cons .h3 (.cons .h2 (.cons .h2 (.cons .h2 (.cons .h2 (.cons .here .nil))))))) : Sel _ [fz [],stb z3u 77 [(.slice none (([] : List z2).length) 0)],row (.slice none (([] : List z2).length) 0) 30 2 (([] : List z2).flatMap e30),stb z3m 98 [(.int .i64 0)],stb z3l 30 [(.int .i64 0),(.int .i64 0)],stb z3j 79 [(.slice z23 z1N.length z24),(.int .i64 zq.fR.fN),(.int .i64 zq.fR.fD),(.int .i64 zq.fLatency.fN),(.int .i64 zq.fLatency.fD),(.func (.func 32) #[] #[(.pointer (some z1W)),(.pointer (some z1X))]),(.slice z26 z1O.length z27)],blk z4g (z4B .ready none)] _)
   have pz:=(hz.call2 hw1 ((.cons .here .nil) : Sel [y1A [fz [],stb z3u 77 [(.slice none (([] : List z2).length) 0)],row (.slice none (([] : List z2).length) 0) 30 2 (([] : List z2).flatMap e30),stb z3m 98 [(.int .i64 0)],stb z3l 30 [(.int .i64 0),(.int .i64 0)],stb z3j 79 [(.slice z23 z1N.length z24),(.int .i64 zq.fR.fN),(.int .i64 zq.fR.fD),(.int .i64 zq.fLatency.fN),(.int .i64 zq.fLatency.fD),(.func (.func 32) #[] #[(.pointer (some z1W)),(.pointer (some z1X))]),(.slice z26 z1O.length z27)],blk z4g (z4B .ready none)],dfr z7K,stb z6l 79 [(.slice z23 z1N.length z24),(.int .i64 z1s.1),(.int .i64 z1s.2.1),(.int .i64 z1s.2.2.1),(.int .i64 z1s.2.2.2),(.func (.func 32) #[] #[(.pointer (some z1W)),(.pointer (some z1X))]),(.slice z26 z1O.length z27)],fz ([] ++ z5V)] [y1A [fz [],stb z3u 77 [(.slice none (([] : List z2).length) 0)],row (.slice none (([] : List z2).length) 0) 30 2 (([] : List z2).flatMap e30),stb z3m 98 [(.int .i64 0)],stb z3l 30 [(.int .i64 0),(.int .i64 0)],stb z3j 79 [(.slice z23 z1N.length z24),(.int .i64 zq.fR.fN),(.int .i64 zq.fR.fD),(.int .i64 zq.fLatency.fN),(.int .i64 zq.fLatency.fD),(.func (.func 32) #[] #[(.pointer (some z1W)),(.pointer (some z1X))]),(.slice z26 z1O.length z27)],blk z4g (z4B .ready none)]] [dfr z7K,stb z6l 79 [(.slice z23 z1N.length z24),(.int .i64 z1s.1),(.int .i64 z1s.2.1),(.int .i64 z1s.2.2.1),(.int .i64 z1s.2.2.2),(.func (.func 32) #[] #[(.pointer (some z1W)),(.pointer (some z1X))]),(.slice z26 z1O.length z27)],fz ([] ++ z5V)]) .h2).lend hw1 ((.cons .here .nil) : Sel [y1A [fz [],stb z3u 77 [(.slice none (([] : List z2).length) 0)],row (.slice none (([] : List z2).length) 0) 30 2 (([] : List z2).flatMap e30),stb z3m 98 [(.int .i64 0)],stb z3l 30 [(.int .i64 0),(.int .i64 0)],stb z3j 79 [(.slice z23 z1N.length z24),(.int .i64 zq.fR.fN),(.int .i64 zq.fR.fD),(.int .i64 zq.fLatency.fN),(.int .i64 zq.fLatency.fD),(.func (.func 32) #[] #[(.pointer (some z1W)),(.pointer (some z1X))]),(.slice z26 z1O.length z27)],blk z4g (z4B .ready none)],dfr z7K,stb z6l 79 [(.slice z23 z1N.length z24),(.int .i64 z1s.1),(.int .i64 z1s.2.1),(.int .i64 z1s.2.2.1),(.int .i64 z1s.2.2.2),(.func (.func 32) #[] #[(.pointer (some z1W)),(.pointer (some z1X))]),(.slice z26 z1O.length z27)],fz ([] ++ z5V)] [y1A [fz [],stb z3u 77 [(.slice none (([] : List z2).length) 0)],row (.slice none (([] : List z2).length) 0) 30 2 (([] : List z2).flatMap e30),stb z3m 98 [(.int .i64 0)],stb z3l 30 [(.int .i64 0),(.int .i64 0)],stb z3j 79 [(.slice z23 z1N.length z24),(.int .i64 zq.fR.fN),(.int .i64 zq.fR.fD),(.int .i64 zq.fLatency.fN),(.int .i64 zq.fLatency.fD),(.func (.func 32) #[] #[(.pointer (some z1W)),(.pointer (some z1X))]),(.slice z26 z1O.length z27)],blk z4g (z4B .ready none)]] [dfr z7K,stb z6l 79 [(.slice z23 z1N.length z24),(.int .i64 z1s.1),(.int .i64 z1s.2.1),(.int .i64 z1s.2.2.1),(.int .i64 z1s.2.2.2),(.func (.func 32) #[] #[(.pointer (some z1W)),(.pointer (some z1X))]),(.slice z26 z1O.length z27)],fz ([] ++ z5V)]) (B:=[stb z6l 79 [(.slice z23 z1N.length z24),(.int .i64 z1s.1),(.int .i64 z1s.2.1),(.int .i64 z1s.2.2.1),(.int .i64 z1s.2.2.2),(.func (.func 32) #[] #[(.pointer (some z1W)),(.pointer (some z1X))]),(.slice z26 z1O.length z27)]]) (fun _ hx'=>((.cons .h1 .nil) : Sel _ [stb z6l 79 [(.slice z23 z1N.length z24),(.int .i64 z1s.1),(.int .i64 z1s.2.1),(.int .i64 z1s.2.2.1),(.int .i64 z1s.2.2.2),(.func (.func 32) #[] #[(.pointer (some z1W)),(.pointer (some z1X))]),(.slice z26 z1O.length z27)]] _).mem hx')
   obtain ⟨z5U,zvK,h⟩:=zb h
   refine Calls.mono (y5x (Z:=_) (z7Y:=z4g) (z2K:=(Option Addr × Nat)) (z1I:=(fun (g : Option Addr × Nat) (s : Nat × List z2 × Int)=>y1A ([fz [],stb z3u 77 [(.slice g.1 s.2.1.length g.2)],row (.slice g.1 s.2.1.length g.2) 30 2 (s.2.1.flatMap e30),stb z3m 98 [(.int .i64 s.2.2)],stb z3l 30 [(.int .i64 0),(.int .i64 0)],stb z3j 79 [(.slice z23 z1N.length z24),(.int .i64 zq.fR.fN),(.int .i64 zq.fR.fD),(.int .i64 zq.fLatency.fN),(.int .i64 zq.fLatency.fD),(.func (.func 32) #[] #[(.pointer (some z1W)),(.pointer (some z1X))]),(.slice z26 z1O.length z27)]] ++ [blk z4g (z4B (rdy (pcs [] s.1)) (pcs [] s.1))]))) (z7Z:=(fun (g : Option Addr × Nat) (s : Nat × List z2 × Int)=>True)) (z7I:=(none,0)) (z8Z:=⟨z6l,0,none⟩) (zbk:=z23) (zbl:=z24) (zkH:=z1W) (zkI:=zcI) (zkJ:=zcJ) (zkK:=z1X) (zfl:=z26) (zfm:=z27) (zH:=(Nat × List z2 × Int)) (z4e:=(fun (x : z2) (s : Nat × List z2 × Int)=>chk (s.1 = 0) (y1a z6M z5T x s.2.1 s.2.2))) (s0_16993:=(0,([] : List z2),0)) (z4u:=z1N) (zcx:=(⟨(⟨z1s.1,z1s.2.1⟩ : z2),(⟨z1s.2.2.1,z1s.2.2.2⟩ : z2)⟩ : zSv)) (zfk:=z6M) (zcy:=z5T) (z1x:=z1O) (r:=z5U) w pz ?_ trivial ((((zlf.mono ((Zle.left _ _).trans ((Zle.left _ _).trans (Zle.yi _ _ _)))).weak (fun _ _ h=>yG ((Zle.left _ _).trans ((Zle.left _ _).trans (Zle.yi _ _ _))) h)).mono (Zle.left _ _)).weak (fun _ _ h=>yG (Zle.left _ _) h)) ((((zhs.mono ((Zle.left _ _).trans ((Zle.left _ _).trans (Zle.yi _ _ _)))).weak (fun _ _ h=>yG ((Zle.left _ _).trans ((Zle.left _ _).trans (Zle.yi _ _ _))) h)).mono (Zle.left _ _)).weak (fun _ _ h=>yG (Zle.left _ _) h)) ((zht.mono ((Zle.left _ _).trans ((Zle.left _ _).trans (Zle.yi _ _ _)))).mono (Zle.left _ _)) ((zhu.mono ((Zle.left _ _).trans ((Zle.left _ _).trans (Zle.yi _ _ _)))).mono (Zle.left _ _)) ((zlg.mono ((Zle.left _ _).trans ((Zle.left _ _).trans (Zle.yi _ _ _)))).mono (Zle.left _ _)) ((hw1.lent ((.cons .here .nil) : Sel [y1A [fz [],stb z3u 77 [(.slice none (([] : List z2).length) 0)],row (.slice none (([] : List z2).length) 0) 30 2 (([] : List z2).flatMap e30),stb z3m 98 [(.int .i64 0)],stb z3l 30 [(.int .i64 0),(.int .i64 0)],stb z3j 79 [(.slice z23 z1N.length z24),(.int .i64 zq.fR.fN),(.int .i64 zq.fR.fD),(.int .i64 zq.fLatency.fN),(.int .i64 zq.fLatency.fD),(.func (.func 32) #[] #[(.pointer (some z1W)),(.pointer (some z1X))]),(.slice z26 z1O.length z27)],blk z4g (z4B .ready none)],dfr z7K,stb z6l 79 [(.slice z23 z1N.length z24),(.int .i64 z1s.1),(.int .i64 z1s.2.1),(.int .i64 z1s.2.2.1),(.int .i64 z1s.2.2.2),(.func (.func 32) #[] #[(.pointer (some z1W)),(.pointer (some z1X))]),(.slice z26 z1O.length z27)],fz ([] ++ z5V)] [y1A [fz [],stb z3u 77 [(.slice none (([] : List z2).length) 0)],row (.slice none (([] : List z2).length) 0) 30 2 (([] : List z2).flatMap e30),stb z3m 98 [(.int .i64 0)],stb z3l 30 [(.int .i64 0),(.int .i64 0)],stb z3j 79 [(.slice z23 z1N.length z24),(.int .i64 zq.fR.fN),(.int .i64 zq.fR.fD),(.int .i64 zq.fLatency.fN),(.int .i64 zq.fLatency.fD),(.func (.func 32) #[] #[(.pointer (some z1W)),(.pointer (some z1X))]),(.slice z26 z1O.length z27)],blk z4g (z4B .ready none)]] [dfr z7K,stb z6l 79 [(.slice z23 z1N.length z24),(.int .i64 z1s.1),(.int .i64 z1s.2.1),(.int .i64 z1s.2.2.1),(.int .i64 z1s.2.2.2),(.func (.func 32) #[] #[(.pointer (some z1W)),(.pointer (some z1X))]),(.slice z26 z1O.length z27)],fz ([] ++ z5V)]) (B:=[stb z6l 79 [(.slice z23 z1N.length z24),(.int .i64 z1s.1),(.int .i64 z1s.2.1),(.int .i64 z1s.2.2.1),(.int .i64 z1s.2.2.2),(.func (.func 32) #[] #[(.pointer (some z1W)),(.pointer (some z1X))]),(.slice z26 z1O.length z27)]]) (fun _ hx'=>((.cons .h1 .nil) : Sel _ [stb z6l 79 [(.slice z23 z1N.length z24),(.int .i64 z1s.1),(.int .i64 z1s.2.1),(.int .i64 z1s.2.2.1),(.int .i64 z1s.2.2.2),(.func (.func 32) #[] #[(.pointer (some z1W)),(.pointer (some z1X))]),(.slice z26 z1O.length z27)]] _).mem hx') (.head _) _).stb) zvK (hw1.owns ((.cons .here .nil) : Sel [y1A [fz [],stb z3u 77 [(.slice none (([] : List z2).length) 0)],row (.slice none (([] : List z2).length) 0) 30 2 (([] : List z2).flatMap e30),stb z3m 98 [(.int .i64 0)],stb z3l 30 [(.int .i64 0),(.int .i64 0)],stb z3j 79 [(.slice z23 z1N.length z24),(.int .i64 zq.fR.fN),(.int .i64 zq.fR.fD),(.int .i64 zq.fLatency.fN),(.int .i64 zq.fLatency.fD),(.func (.func 32) #[] #[(.pointer (some z1W)),(.pointer (some z1X))]),(.slice z26 z1O.length z27)],blk z4g (z4B .ready none)],dfr z7K,stb z6l 79 [(.slice z23 z1N.length z24),(.int .i64 z1s.1),(.int .i64 z1s.2.1),(.int .i64 z1s.2.2.1),(.int .i64 z1s.2.2.2),(.func (.func 32) #[] #[(.pointer (some z1W)),(.pointer (some z1X))]),(.slice z26 z1O.length z27)],fz ([] ++ z5V)] [y1A [fz [],stb z3u 77 [(.slice none (([] : List z2).length) 0)],row (.slice none (([] : List z2).length) 0) 30 2 (([] : List z2).flatMap e30),stb z3m 98 [(.int .i64 0)],stb z3l 30 [(.int .i64 0),(.int .i64 0)],stb z3j 79 [(.slice z23 z1N.length z24),(.int .i64 zq.fR.fN),(.int .i64 zq.fR.fD),(.int .i64 zq.fLatency.fN),(.int .i64 zq.fLatency.fD),(.func (.func 32) #[] #[(.pointer (some z1W)),(.pointer (some z1X))]),(.slice z26 z1O.length z27)],blk z4g (z4B .ready none)]] [dfr z7K,stb z6l 79 [(.slice z23 z1N.length z24),(.int .i64 z1s.1),(.int .i64 z1s.2.1),(.int .i64 z1s.2.2.1),(.int .i64 z1s.2.2.2),(.func (.func 32) #[] #[(.pointer (some z1W)),(.pointer (some z1X))]),(.slice z26 z1O.length z27)],fz ([] ++ z5V)]))) ?_
   ·skip
    refine y7j (LI:=(fun (g : Option Addr × Nat) (s : Nat × List z2 × Int)=>[fz [],stb z3u 77 [(.slice g.1 s.2.1.length g.2)],row (.slice g.1 s.2.1.length g.2) 30 2 (s.2.1.flatMap e30),stb z3m 98 [(.int .i64 s.2.2)],stb z3l 30 [(.int .i64 0),(.int .i64 0)],stb z3j 79 [(.slice z23 z1N.length z24),(.int .i64 zq.fR.fN),(.int .i64 zq.fR.fD),(.int .i64 zq.fLatency.fN),(.int .i64 zq.fLatency.fD),(.func (.func 32) #[] #[(.pointer (some z1W)),(.pointer (some z1X))]),(.slice z26 z1O.length z27)]])) (pc:=(fun (s : Nat × List z2 × Int)=>pcs [] s.1)) zhv zvI zvJ (fun _ _=>rfl) (by decide) ?_
    rintro z3A _ ⟨z6m,z5m⟩ ⟨zvL,z2B,z97⟩ zvM zvN Fb wb zpv _ hz
    replace hz:=hz.left
    letI : Rnd:=inR z4g
    obtain ⟨hp0,z83⟩:=yp zpv
    replace hp0 : zvL = 0:=hp0; subst hp0; clear zpv
    replace z83 : y1a z6M z5T z3A z2B z97 = some (zvM,zvN):=z83
    unfold y1a at z83
    refine WC.restr (env':=[(1,(.pointer (some ⟨z3j,0,none⟩))),(12,(.bool (decide (ze8 ≠ 0)))),(5,(.pointer (some ⟨z3m,0,none⟩))),(6,(.pointer (some ⟨z3u,0,none⟩))),(17,(.agg #[(.int .i64 z3A.fN),(.int .i64 z3A.fD)]))]) (.cons rfl (.cons rfl (.cons rfl (.cons rfl (.cons rfl .nil))))) ?_
    refine WC.eqL (L':=[fz [],stb z3u 77 [(.slice z6m z2B.length z5m)],row (.slice z6m z2B.length z5m) 30 2 (z2B.flatMap e30),stb z3m 98 [(.int .i64 z97)],stb z3l 30 [(.int .i64 0),(.int .i64 0)],stb z3j 79 [(.slice z23 z1N.length z24),(.int .i64 zq.fR.fN),(.int .i64 zq.fR.fD),(.int .i64 zq.fLatency.fN),(.int .i64 zq.fLatency.fD),(.func (.func 32) #[] #[(.pointer (some z1W)),(.pointer (some z1X))]),(.slice z26 z1O.length z27)],blk z4g (z4B .ready none)]) rfl ?_
    refine WC.a ?_
    refine WL.new (dd:=7) rfl rfl rfl (yh (cs:=[(.int .i64 0),(.int .i64 0)]) yo rfl) ?_
    intro zaB _
    refine WL.yc rfl rfl (yd (vs:=[(.int .i64 z3A.fN),(.int .i64 z3A.fD)]) (ds:=[(.int .i64 z3A.fN),(.int .i64 z3A.fD)]) yl rfl rfl rfl rfl (y3 rfl (y3 rfl yf)) .here (Nat.le_of_ble_eq_true rfl) rfl) ?_
    refine WL.nil ?_
    refine WX.y7R zhv .h7 ?_
    refine WC.block ?_
    refine WC.b ?_
    obtain ⟨z3I,zvO,z83⟩:=zb z83
    refine WC.a ?_
    refine WL.a (d:=18) rfl rfl rfl (y4 y7E rfl rfl) ?_
    refine WL.a (d:=19) rfl rfl rfl (ye y9E rfl (yu .h7 rfl)) ?_
    refine WL.a (d:=20) rfl rfl rfl (y6 (cs:=[(.int .i64 z3A.fN),(.int .i64 z3A.fD)]) y5 rfl rfl (y7 .h1)) ?_
    refine WL.b (dd:=21) rfl rfl rfl (y2f (l:=[.tmp 5,.tmp 20]) Try.call32 rfl (.cons rfl (.cons rfl .nil))) ((.cons .h5 .nil) : Sel [blk z4g (z4B .busy none),stb zaB 30 [(.int .i64 z3A.fN),(.int .i64 z3A.fD)],fz [],stb z3u 77 [(.slice z6m z2B.length z5m)],row (.slice z6m z2B.length z5m) 30 2 (z2B.flatMap e30),stb z3m 98 [(.int .i64 z97)],stb z3l 30 [(.int .i64 0),(.int .i64 0)],stb z3j 79 [(.slice z23 z1N.length z24),(.int .i64 zq.fR.fN),(.int .i64 zq.fR.fD),(.int .i64 zq.fLatency.fN),(.int .i64 zq.fLatency.fD),(.func (.func 32) #[] #[(.pointer (some z1W)),(.pointer (some z1X))]),(.slice z26 z1O.length z27)]] [stb z3m 98 [(.int .i64 z97)]] [blk z4g (z4B .busy none),stb zaB 30 [(.int .i64 z3A.fN),(.int .i64 z3A.fD)],fz [],stb z3u 77 [(.slice z6m z2B.length z5m)],row (.slice z6m z2B.length z5m) 30 2 (z2B.flatMap e30),stb z3l 30 [(.int .i64 0),(.int .i64 0)],stb z3j 79 [(.slice z23 z1N.length z24),(.int .i64 zq.fR.fN),(.int .i64 zq.fR.fD),(.int .i64 zq.fLatency.fN),(.int .i64 zq.fLatency.fD),(.func (.func 32) #[] #[(.pointer (some z1W)),(.pointer (some z1X))]),(.slice z26 z1O.length z27)]]) (fun w hw=>by have pz:=(hz.call2 hw ((.cons .h5 .nil) : Sel [blk z4g (z4B .busy none),stb zaB 30 [(.int .i64 z3A.fN),(.int .i64 z3A.fD)],fz [],stb z3u 77 [(.slice z6m z2B.length z5m)],row (.slice z6m z2B.length z5m) 30 2 (z2B.flatMap e30),stb z3m 98 [(.int .i64 z97)],stb z3l 30 [(.int .i64 0),(.int .i64 0)],stb z3j 79 [(.slice z23 z1N.length z24),(.int .i64 zq.fR.fN),(.int .i64 zq.fR.fD),(.int .i64 zq.fLatency.fN),(.int .i64 zq.fLatency.fD),(.func (.func 32) #[] #[(.pointer (some z1W)),(.pointer (some z1X))]),(.slice z26 z1O.length z27)]] [stb z3m 98 [(.int .i64 z97)]] [blk z4g (z4B .busy none),stb zaB 30 [(.int .i64 z3A.fN),(.int .i64 z3A.fD)],fz [],stb z3u 77 [(.slice z6m z2B.length z5m)],row (.slice z6m z2B.length z5m) 30 2 (z2B.flatMap e30),stb z3l 30 [(.int .i64 0),(.int .i64 0)],stb z3j 79 [(.slice z23 z1N.length z24),(.int .i64 zq.fR.fN),(.int .i64 zq.fR.fD),(.int .i64 zq.fLatency.fN),(.int .i64 zq.fLatency.fD),(.func (.func 32) #[] #[(.pointer (some z1W)),(.pointer (some z1X))]),(.slice z26 z1O.length z27)]]) .h2); exact y7r (Z:=_) (z3i:=z3m) (zfu:=z1W) (zhq:=zcI) (zhr:=zcJ) (zfv:=z1X) (z7c:=(⟨z97⟩ : z2y)) (z1y:=z3A) (zcH:=z6M) (z7m:=z5T) (r:=z3I) w pz ((zhs.mono ((Zle.left _ _).trans ((Zle.left _ _).trans ((Zle.yi _ _ _).trans (Zle.left _ _))))).weak (fun _ _ h=>yG ((Zle.left _ _).trans ((Zle.left _ _).trans ((Zle.yi _ _ _).trans (Zle.left _ _)))) h)) (zht.mono ((Zle.left _ _).trans ((Zle.left _ _).trans ((Zle.yi _ _ _).trans (Zle.left _ _))))) (zhu.mono ((Zle.left _ _).trans ((Zle.left _ _).trans ((Zle.yi _ _ _).trans (Zle.left _ _))))) zvO (hw.owns ((.cons .h5 .nil) : Sel [blk z4g (z4B .busy none),stb zaB 30 [(.int .i64 z3A.fN),(.int .i64 z3A.fD)],fz [],stb z3u 77 [(.slice z6m z2B.length z5m)],row (.slice z6m z2B.length z5m) 30 2 (z2B.flatMap e30),stb z3m 98 [(.int .i64 z97)],stb z3l 30 [(.int .i64 0),(.int .i64 0)],stb z3j 79 [(.slice z23 z1N.length z24),(.int .i64 zq.fR.fN),(.int .i64 zq.fR.fD),(.int .i64 zq.fLatency.fN),(.int .i64 zq.fLatency.fD),(.func (.func 32) #[] #[(.pointer (some z1W)),(.pointer (some z1X))]),(.slice z26 z1O.length z27)]] [stb z3m 98 [(.int .i64 z97)]] [blk z4g (z4B .busy none),stb zaB 30 [(.int .i64 z3A.fN),(.int .i64 z3A.fD)],fz [],stb z3u 77 [(.slice z6m z2B.length z5m)],row (.slice z6m z2B.length z5m) 30 2 (z2B.flatMap e30),stb z3l 30 [(.int .i64 0),(.int .i64 0)],stb z3j 79 [(.slice z23 z1N.length z24),(.int .i64 zq.fR.fN),(.int .i64 zq.fR.fD),(.int .i64 zq.fLatency.fN),(.int .i64 zq.fLatency.fD),(.func (.func 32) #[] #[(.pointer (some z1W)),(.pointer (some z1X))]),(.slice z26 z1O.length z27)]]))) ?_
    refine WL.new (dd:=8) rfl rfl rfl (yh (cs:=[(.int .i64 0),(.int .i64 0)]) yo rfl) ?_
    intro zli _
    refine WL.yc rfl rfl (yd (vs:=[(.int .i64 z3I.1.fN),(.int .i64 z3I.1.fD)]) (ds:=[(.int .i64 z3I.1.fN),(.int .i64 z3I.1.fD)]) yl rfl rfl rfl rfl (y3 rfl (y3 rfl yf)) .here (Nat.le_of_ble_eq_true rfl) rfl) ?_
    refine WL.nil ?_
    refine WX.a ?_
    refine WC.b ?_
    obtain ⟨zld,zpw,z83⟩:=zb z83
    refine WC.y1e (fun i=>[].contains i) [] rfl ?_
    refine WD.e (i:=0) (d:=22) (by kernel_rfl) rfl (z6 (by kernel_rfl)) (z7 (by kernel_rfl)) rfl rfl rfl (ye y3y rfl (yu .h5 rfl)) ?_
    refine WD.a (i:=1) (d:=23) (by kernel_rfl) rfl (z6 (by kernel_rfl)) (z7 (by kernel_rfl)) rfl rfl rfl (fun _=>y1k Try.underlying77 rfl) ?_
    refine WD.a (i:=2) (d:=24) (by kernel_rfl) rfl (z6 (by kernel_rfl)) (z7 (by kernel_rfl)) rfl rfl rfl (fun _=>y3g rfl rfl) ?_
    refine WD.a (i:=3) (d:=25) (by kernel_rfl) rfl (z6 (by kernel_rfl)) (z7 (by kernel_rfl)) rfl rfl rfl (fun _=>q_m rfl) ?_
    refine WD.mid (fuel':=0) [(1,(.pointer (some ⟨z3j,0,none⟩))),(12,(.bool (decide (ze8 ≠ 0)))),(5,(.pointer (some ⟨z3m,0,none⟩))),(6,(.pointer (some ⟨z3u,0,none⟩))),(17,(.agg #[(.int .i64 z3A.fN),(.int .i64 z3A.fD)])),(7,(.pointer (some ⟨zaB,0,none⟩))),(18,(.pointer (some ⟨z3j,5,none⟩))),(19,(.func (.func 32) #[] #[(.pointer (some z1W)),(.pointer (some z1X))])),(20,(.agg #[(.int .i64 z3A.fN),(.int .i64 z3A.fD)])),(21,(.agg #[(.int .i64 z3I.1.fN),(.int .i64 z3I.1.fD)])),(8,(.pointer (some ⟨zli,0,none⟩))),(22,(.slice z6m z2B.length z5m)),(23,(.int .i64 ((z2B.length : Nat) : Int))),(24,(.bool (decide (((z2B.length : Nat) : Int) = 0)))),(25,(.bool (decide (((z2B.length : Nat) : Int) = 0)))),(32,(.bool zld))] (y1C 11 [10,9,8,7,6,5,4,3,2,1,0]) ?_ (fun zpx=>?_)
    rotate_left
    ·rcases Bool.eq_false_or_eq_true (decide (((z2B.length : Nat) : Int) = 0)) with hb' | hb'
     ·have zlj:=hb'; clear hb'
      have zlk:=yj zpw zlj
      replace zlk:=Option.some.inj zlk
      refine WD.pin (i:=25) rfl zlj ?_
      refine WD.b (i:=4) (d:=26) (by kernel_rfl) rfl (z6 (by kernel_rfl)) (z7 (by kernel_rfl)) rfl rfl rfl ?_
      refine WD.b (i:=5) (d:=27) (by kernel_rfl) rfl (z6 (by kernel_rfl)) (z7 (by kernel_rfl)) rfl rfl rfl ?_
      refine WD.b (i:=6) (d:=28) (by kernel_rfl) rfl (z6 (by kernel_rfl)) (z7 (by kernel_rfl)) rfl rfl rfl ?_
      refine WD.b (i:=7) (d:=29) (by kernel_rfl) rfl (z6 (by kernel_rfl)) (z7 (by kernel_rfl)) rfl rfl rfl ?_
      refine WD.b (i:=8) (d:=30) (by kernel_rfl) rfl (z6 (by kernel_rfl)) (z7 (by kernel_rfl)) rfl rfl rfl ?_
      refine WD.b (i:=9) (d:=31) (by kernel_rfl) rfl (z6 (by kernel_rfl)) (z7 (by kernel_rfl)) rfl rfl rfl ?_
      refine WD.a (i:=10) (d:=32) (by kernel_rfl) rfl (z6 (by kernel_rfl)) (z7 (by kernel_rfl)) rfl rfl rfl (fun _=>ys rfl rfl) ?_
      refine WD.yV (.cons .here (.cons .here (.cons .here (.cons .here (.cons .here (.cons .here (.cons .here (.cons .here (.cons .here .nil))))))))) ?_ zpx
      exact (.cons rfl (.cons rfl (.cons rfl (.cons rfl (.cons rfl (.cons rfl (.cons rfl (.cons rfl (.cons rfl (.cons rfl (.cons rfl (.cons rfl (.cons rfl (.cons rfl (.cons (zt (Eq.symm zlj)) (.cons (zt zlk) .nil))))))))))))))))
     ·have zll:=hb'; clear hb'
      have zcL:=yk zpw zll
      obtain ⟨zfz,zcL⟩:=yp zcL
      obtain ⟨zlc,zvP,zcL⟩:=zb zcL
      replace zcL:=Option.some.inj zcL
      refine WD.pin (i:=25) rfl zll ?_
      refine WD.e (i:=4) (d:=26) (by kernel_rfl) rfl (z6 (by kernel_rfl)) (z7 (by kernel_rfl)) rfl rfl rfl (y6 (cs:=[(.int .i64 z3I.1.fN),(.int .i64 z3I.1.fD)]) y5 rfl rfl (y7 .here)) ?_
      refine WD.e (i:=5) (d:=27) (by kernel_rfl) rfl (z6 (by kernel_rfl)) (z7 (by kernel_rfl)) rfl rfl rfl (ye y3y rfl (yu .h5 rfl)) ?_
      refine WD.know (fun w hw=>Hp.y49 .h6 hw (by intro hz'; have:=zfz; rw [hz'] at this; omega)) ?_
      rintro ⟨zhw,rfl⟩
      refine WD.a (i:=6) (d:=28) (by kernel_rfl) rfl (z6 (by kernel_rfl)) (z7 (by kernel_rfl)) rfl rfl rfl (fun _=>y1y y1H rfl rfl zfz.1 zfz.2 y4v) ?_
      refine WD.e (i:=7) (d:=29) (by kernel_rfl) rfl (z6 (by kernel_rfl)) (z7 (by kernel_rfl)) rfl rfl rfl (y6 (cs:=(e30 (nth z2B 0))) y5 rfl rfl (y3v .h6 (y3w (enc:=e30) (l:=z2B) (i:=0) (sz:=2) (fun _=>rfl) zfz.1 zfz.2))) ?_
      refine WD.c (i:=8) (d:=30) (by kernel_rfl) rfl (z6 (by kernel_rfl)) (z7 (by kernel_rfl)) rfl rfl rfl (zl (l:=[.tmp 26,.tmp 29]) Try.call18 (.cons rfl (.cons rfl .nil))) (fun w hw=>by have pz:=(hz.call2 hw (.nil : Sel [stb zli 30 [(.int .i64 z3I.1.fN),(.int .i64 z3I.1.fD)],stb z3m 98 [(.int .i64 z3I.2.fE)],blk z4g (z4B .busy none),stb zaB 30 [(.int .i64 z3A.fN),(.int .i64 z3A.fD)],fz [],stb z3u 77 [(.slice (some ⟨zhw,0,none⟩) z2B.length z5m)],row (.slice (some ⟨zhw,0,none⟩) z2B.length z5m) 30 2 (z2B.flatMap e30),stb z3l 30 [(.int .i64 0),(.int .i64 0)],stb z3j 79 [(.slice z23 z1N.length z24),(.int .i64 zq.fR.fN),(.int .i64 zq.fR.fD),(.int .i64 zq.fLatency.fN),(.int .i64 zq.fLatency.fD),(.func (.func 32) #[] #[(.pointer (some z1W)),(.pointer (some z1X))]),(.slice z26 z1O.length z27)]] [] [stb zli 30 [(.int .i64 z3I.1.fN),(.int .i64 z3I.1.fD)],stb z3m 98 [(.int .i64 z3I.2.fE)],blk z4g (z4B .busy none),stb zaB 30 [(.int .i64 z3A.fN),(.int .i64 z3A.fD)],fz [],stb z3u 77 [(.slice (some ⟨zhw,0,none⟩) z2B.length z5m)],row (.slice (some ⟨zhw,0,none⟩) z2B.length z5m) 30 2 (z2B.flatMap e30),stb z3l 30 [(.int .i64 0),(.int .i64 0)],stb z3j 79 [(.slice z23 z1N.length z24),(.int .i64 zq.fR.fN),(.int .i64 zq.fR.fD),(.int .i64 zq.fLatency.fN),(.int .i64 zq.fLatency.fD),(.func (.func 32) #[] #[(.pointer (some z1W)),(.pointer (some z1X))]),(.slice z26 z1O.length z27)]]) .h4); exact y1Y (Z:=_)  (z2m:=z3I.1) (z2n:=(⟨((nth z2B 0).fN),((nth z2B 0).fD)⟩ : z2)) (r:=zlc) w pz  zvP) ?_
      refine WD.a (i:=9) (d:=31) (by kernel_rfl) rfl (z6 (by kernel_rfl)) (z7 (by kernel_rfl)) rfl rfl rfl (fun _=>y3f rfl rfl) ?_
      refine WD.a (i:=10) (d:=32) (by kernel_rfl) rfl (z6 (by kernel_rfl)) (z7 (by kernel_rfl)) rfl rfl rfl (fun _=>yr rfl rfl) ?_
      refine WD.yV (.cons .here (.cons .here (.cons .here (.cons .here (.cons .here (.cons .here (.cons .here (.cons .here (.cons .here .nil))))))))) ?_ zpx
      exact (.cons rfl (.cons rfl (.cons rfl (.cons rfl (.cons rfl (.cons rfl (.cons rfl (.cons rfl (.cons rfl (.cons rfl (.cons rfl (.cons rfl (.cons rfl (.cons rfl (.cons (zt (Eq.symm zll)) (.cons (zt zcL) .nil))))))))))))))))
    refine WD.done (by kernel_rfl) ?_
    refine WX.a ?_
    refine WC.cond rfl (fun zlm=>?_) (fun zlm=>?_)
    ·replace z83:=yj z83 zlm
     refine WC.a ?_
     refine WL.a (d:=33) rfl rfl rfl (y6 (cs:=[(.int .i64 z3I.1.fN),(.int .i64 z3I.1.fD)]) y5 rfl rfl (y7 .here)) ?_
     refine WL.new (dd:=34) rfl rfl rfl (yU (cs:=([z3I.1] : List z2).flatMap e30) y1H (Eos.parts (l:=[.tmp 33]) (.cons rfl .nil) [0]) (fun _=>by kernel_rfl) rfl (by unfold maxLen; omega)) ?_
     intro zfA _
     refine WL.yc rfl rfl (yd (vs:=[(.slice (some ⟨zfA,0,none⟩) (([z3I.1] : List z2).length) 1)]) (ds:=[(.slice (some ⟨zfA,0,none⟩) (([z3I.1] : List z2).length) 1)]) y8p rfl rfl rfl rfl (y3 rfl yf) .h6 (Nat.le_of_ble_eq_true rfl) rfl) ?_
     refine WL.nil ?_
     refine WX.yn ?_
     obtain ⟨rfl,rfl⟩:=y6L z83
     exact WX.y4g zhv .h4 (fun w' hw'=>⟨((some ⟨zfA,0,none⟩),1),rfl,trivial,(hw'.selAll ((.cons .h6 (.cons .h1 (.cons .h1 (.cons .h2 (.cons .h4 (.cons .h4 (.cons .here .nil))))))) : Sel _ [fz [],stb z3u 77 [(.slice (some ⟨zfA,0,none⟩) (([z3I.1] : List z2).length) 1)],row (.slice (some ⟨zfA,0,none⟩) (([z3I.1] : List z2).length) 1) 30 2 (([z3I.1] : List z2).flatMap e30),stb z3m 98 [(.int .i64 z3I.2.fE)],stb z3l 30 [(.int .i64 0),(.int .i64 0)],stb z3j 79 [(.slice z23 z1N.length z24),(.int .i64 zq.fR.fN),(.int .i64 zq.fR.fD),(.int .i64 zq.fLatency.fN),(.int .i64 zq.fLatency.fD),(.func (.func 32) #[] #[(.pointer (some z1W)),(.pointer (some z1X))]),(.slice z26 z1O.length z27)],blk z4g (z4B .ready none)] _)).sub (.cons .here .nil)⟩)
    ·replace z83:=yk z83 zlm
     refine WC.skip ?_
     refine WX.yn ?_
     obtain ⟨rfl,rfl⟩:=y6L z83
     exact WX.y4g zhv .h2 (fun w' hw'=>⟨(z6m,z5m),rfl,trivial,(hw'.selAll ((.cons .h4 (.cons .h4 (.cons .h4 (.cons .h2 (.cons .h3 (.cons .h3 (.cons .here .nil))))))) : Sel _ [fz [],stb z3u 77 [(.slice z6m z2B.length z5m)],row (.slice z6m z2B.length z5m) 30 2 (z2B.flatMap e30),stb z3m 98 [(.int .i64 z3I.2.fE)],stb z3l 30 [(.int .i64 0),(.int .i64 0)],stb z3j 79 [(.slice z23 z1N.length z24),(.int .i64 zq.fR.fN),(.int .i64 zq.fR.fD),(.int .i64 zq.fLatency.fN),(.int .i64 zq.fLatency.fD),(.func (.func 32) #[] #[(.pointer (some z1W)),(.pointer (some z1X))]),(.slice z26 z1O.length z27)],blk z4g (z4B .ready none)] _)).sub (.cons .here .nil)⟩)
   ·skip
    rintro _ w' ⟨zvQ,⟨zfB,zfC⟩,rfl,_,hp⟩
    have hp1:=hw1.call ((.cons .here .nil) : Sel [y1A [fz [],stb z3u 77 [(.slice none (([] : List z2).length) 0)],row (.slice none (([] : List z2).length) 0) 30 2 (([] : List z2).flatMap e30),stb z3m 98 [(.int .i64 0)],stb z3l 30 [(.int .i64 0),(.int .i64 0)],stb z3j 79 [(.slice z23 z1N.length z24),(.int .i64 zq.fR.fN),(.int .i64 zq.fR.fD),(.int .i64 zq.fLatency.fN),(.int .i64 zq.fLatency.fD),(.func (.func 32) #[] #[(.pointer (some z1W)),(.pointer (some z1X))]),(.slice z26 z1O.length z27)],blk z4g (z4B .ready none)],dfr z7K,stb z6l 79 [(.slice z23 z1N.length z24),(.int .i64 z1s.1),(.int .i64 z1s.2.1),(.int .i64 z1s.2.2.1),(.int .i64 z1s.2.2.2),(.func (.func 32) #[] #[(.pointer (some z1W)),(.pointer (some z1X))]),(.slice z26 z1O.length z27)],fz ([] ++ z5V)] [y1A [fz [],stb z3u 77 [(.slice none (([] : List z2).length) 0)],row (.slice none (([] : List z2).length) 0) 30 2 (([] : List z2).flatMap e30),stb z3m 98 [(.int .i64 0)],stb z3l 30 [(.int .i64 0),(.int .i64 0)],stb z3j 79 [(.slice z23 z1N.length z24),(.int .i64 zq.fR.fN),(.int .i64 zq.fR.fD),(.int .i64 zq.fLatency.fN),(.int .i64 zq.fLatency.fD),(.func (.func 32) #[] #[(.pointer (some z1W)),(.pointer (some z1X))]),(.slice z26 z1O.length z27)],blk z4g (z4B .ready none)]] [dfr z7K,stb z6l 79 [(.slice z23 z1N.length z24),(.int .i64 z1s.1),(.int .i64 z1s.2.1),(.int .i64 z1s.2.2.1),(.int .i64 z1s.2.2.2),(.func (.func 32) #[] #[(.pointer (some z1W)),(.pointer (some z1X))]),(.slice z26 z1O.length z27)],fz ([] ++ z5V)]) hp
    have hp2 : Hp _ _ w' [fz [],stb z3u 77 [(.slice zfB z5U.2.1.length zfC)],row (.slice zfB z5U.2.1.length zfC) 30 2 (z5U.2.1.flatMap e30),stb z3m 98 [(.int .i64 z5U.2.2)],stb z3l 30 [(.int .i64 0),(.int .i64 0)],stb z3j 79 [(.slice z23 z1N.length z24),(.int .i64 zq.fR.fN),(.int .i64 zq.fR.fD),(.int .i64 zq.fLatency.fN),(.int .i64 zq.fLatency.fD),(.func (.func 32) #[] #[(.pointer (some z1W)),(.pointer (some z1X))]),(.slice z26 z1O.length z27)],blk z4g (z4B (rdy (pcs [] z5U.1)) (pcs [] z5U.1)),fz zvQ,dfr z7K,stb z6l 79 [(.slice z23 z1N.length z24),(.int .i64 z1s.1),(.int .i64 z1s.2.1),(.int .i64 z1s.2.2.1),(.int .i64 z1s.2.2.2),(.func (.func 32) #[] #[(.pointer (some z1W)),(.pointer (some z1X))]),(.slice z26 z1O.length z27)],fz ([] ++ z5V)]:=hp1.pickAll .h1
    refine ⟨_,pcs [] z5U.1,_,rfl,(hp2.sub ((.cons .h6 (.cons .here (.cons .here (.cons .here (.cons .here (.cons .here (.cons .here (.cons .h1 (.cons .h1 (.cons .h1 .nil)))))))))) : Sel _ [blk z4g (z4B (rdy (pcs [] z5U.1)) (pcs [] z5U.1)),fz [],stb z3u 77 [(.slice zfB z5U.2.1.length zfC)],row (.slice zfB z5U.2.1.length zfC) 30 2 (z5U.2.1.flatMap e30),stb z3m 98 [(.int .i64 z5U.2.2)],stb z3l 30 [(.int .i64 0),(.int .i64 0)],stb z3j 79 [(.slice z23 z1N.length z24),(.int .i64 zq.fR.fN),(.int .i64 zq.fR.fD),(.int .i64 zq.fLatency.fN),(.int .i64 zq.fLatency.fD),(.func (.func 32) #[] #[(.pointer (some z1W)),(.pointer (some z1X))]),(.slice z26 z1O.length z27)],dfr z7K,stb z6l 79 [(.slice z23 z1N.length z24),(.int .i64 z1s.1),(.int .i64 z1s.2.1),(.int .i64 z1s.2.2.1),(.int .i64 z1s.2.2.2),(.func (.func 32) #[] #[(.pointer (some z1W)),(.pointer (some z1X))]),(.slice z26 z1O.length z27)],fz ([] ++ z5V)] _)),?_⟩
    clear hp hp1 hp2 pz hw hw1
    refine wjN ?_
    letI : Rnd:=aft z7K
    refine WX.merge .here .h7 ?_
    refine WX.yn ?_
    exact WX.midR (D:=fun (g : Nat × Int × List z2 × Zp × Option Addr × Nat)=>g.1) (G:=Nat × Int × List z2 × Zp × Option Addr × Nat) ⟨z7K,z5U.2.2,z5U.2.1,(([] ++ z5V) ++ []),zfB,zfC⟩ ⟨h,((Zle.left _ _).trans (Zle.yi _ _ _))⟩ (.cons rfl (.cons rfl (.cons rfl .nil))) (.cons .here (.cons .h3 (.cons .h2 (.cons .here (.cons .here (.cons .h1 .nil))))))
  ·rintro zfw z9B z6k zcK zfx zfy ⟨h,zAI⟩
   replace h:=(zvG z9B z6k).symm.trans h
   letI : Rnd:=aft zfw
   refine WC.b ?_
   refine WC.b ?_
   refine WC.a ?_
   refine WL.a (d:=35) rfl rfl rfl (y4 y3c rfl rfl) ?_
   refine WL.a (d:=36) rfl rfl rfl (ye y2H rfl (yu .h2 rfl)) ?_
   refine WL.a (d:=37) rfl rfl rfl (y2L rfl rfl) ?_
   refine WL.nil ?_
   refine WX.a ?_
   refine WC.cond rfl (fun zln=>?_) (fun zln=>?_)
   ·replace h:=yj h zln
    refine WC.b ?_
    refine WC.y1e (fun i=>[3].contains i) [stbp z3m 98 [(0,(.int .i64 z9B))]] rfl ?_
    refine WD.a (i:=0) (d:=38) (by kernel_rfl) rfl (z6 (by kernel_rfl)) (z7 (by kernel_rfl)) rfl rfl rfl (fun _=>y1j (v:=(.agg #[(.int .i64 0),(.int .i64 0)])) (Eos.parts (l:=[]) .nil []) (fun _=>by kernel_rfl)) ?_
    refine WD.a (i:=1) (d:=39) (by kernel_rfl) rfl (z6 (by kernel_rfl)) (z7 (by kernel_rfl)) rfl rfl rfl (fun _=>y4 y3c rfl rfl) ?_
    refine WD.y2z (i:=2) (d:=40) (by kernel_rfl) rfl (z6 (by kernel_rfl)) (z7 (by kernel_rfl)) rfl rfl rfl (Sin.wk (.cons .h2 .nil) (.stb (.cons rfl .nil) .nil)) (ye y2H rfl (y7A .here (.head _))) ?_
    refine WD.forced0 (i:=3) rfl (by kernel_rfl) rfl rfl rfl (Sin.wk (.cons .h2 .nil) (.stb (.cons rfl .nil) .nil)) (yd (vs:=[(.int .i64 0),(.int .i64 0)]) (ds:=[(.int .i64 0),(.int .i64 0)]) yl rfl rfl rfl rfl (y3 rfl (y3 rfl yf)) .h1 (Nat.le_of_ble_eq_true rfl) rfl) ?_
    refine WD.a (i:=4) (d:=3) (by kernel_rfl) rfl (z6 (by kernel_rfl)) (z7 (by kernel_rfl)) rfl rfl rfl (fun _=>q_z rfl) ?_
    refine WD.done (by kernel_rfl) ?_
    refine WX.a ?_
    refine WC.ret ?_
    refine WX.y8 ?_
    obtain rfl:=Option.some.inj h
    refine WX.y4H .h5 Try.results36 (.agg rfl y5 rfl (y7 .h1) (.tmp rfl .nil)) (fun w hw=>?_)
    exact ⟨zcK,y1I rfl rfl,trivial,hw.sub (.cons .h2 .nil)⟩
   ·replace h:=yk h zln
    refine WC.skip ?_
    refine WX.a ?_
    refine WC.b ?_
    obtain ⟨zfD,h⟩:=yp h
    refine WC.a ?_
    refine WL.a (d:=41) rfl rfl rfl (ye y3y rfl (yu .h3 rfl)) ?_
    refine WL.know (fun w hw=>Hp.y49 .h4 hw (by intro hz'; have:=zfD; rw [hz'] at this; omega)) ?_
    rintro ⟨zAJ,rfl⟩
    refine WL.a (d:=42) rfl rfl rfl (y1y y1H rfl rfl zfD.1 zfD.2 y4v) ?_
    refine WL.a (d:=43) rfl rfl rfl (y6 (cs:=(e30 (nth z6k 0))) y5 rfl rfl (y3v .h4 (y3w (enc:=e30) (l:=z6k) (i:=0) (sz:=2) (fun _=>rfl) zfD.1 zfD.2))) ?_
    refine WL.yc rfl rfl (yd (vs:=[(.int .i64 ((nth z6k 0).fN)),(.int .i64 ((nth z6k 0).fD))]) (ds:=[(.int .i64 ((nth z6k 0).fN)),(.int .i64 ((nth z6k 0).fD))]) yl rfl rfl rfl rfl (y3 rfl (y3 rfl yf)) .h1 (Nat.le_of_ble_eq_true rfl) rfl) ?_
    refine WL.a (d:=3) rfl rfl rfl (q_z rfl) ?_
    refine WL.nil ?_
    refine WX.a ?_
    refine WC.ret ?_
    obtain rfl:=Option.some.inj h
    refine WX.y4H .h5 Try.results36 (.agg rfl y5 rfl (y7 .h1) (.tmp rfl .nil)) (fun w hw=>?_)
    exact ⟨zcK,y1I rfl rfl,trivial,hw.sub (.cons .h2 .nil)⟩
def y25 (z4R : List (List z1)) (z1P : zSv) : Option (z2 × Int) :=
 (y2W z4R z1P z4R z1P []).bind fun zbv=>some (zbv.1,zbv.2)
set_option maxRecDepth 20000 in
theorem y3L (Z : Zp)  (z5F : Option Addr) (z5G : Nat) (z4R : List (List z1)) (z1P : zSv) (r : z2 × Int) (w₀ : World) (hz : PZ [] w₀ Z)
  (zpy : ZS Z 1 (p39 Z) z5F z5G z4R)
  (h : y25 z4R z1P = some r) :
  Calls Try.prog 15 #[(.slice z5F z4R.length z5G),(.agg #[(.int .i64 z1P.fR.fN),(.int .i64 z1P.fR.fD),(.int .i64 z1P.fLatency.fN),(.int .i64 z1P.fLatency.fD)])] w₀ fun e w'=>∃ Zn : Zp,e = .returned (.tuple #[(.agg #[(.int .i64 r.1.fN),(.int .i64 r.1.fD)]),(.int .i64 r.2)]) ∧ True ∧ Hp [] w₀ w' [fz Zn]:=by
 unfold y25 at h
 refine Calls.yg (vs:=[(.slice z5F z4R.length z5G),(.agg #[(.int .i64 z1P.fR.fN),(.int .i64 z1P.fR.fD),(.int .i64 z1P.fLatency.fN),(.int .i64 z1P.fLatency.fD)])]) (pre:=[]) (env:=[(0,(.slice z5F z4R.length z5G)),(1,(.agg #[(.int .i64 z1P.fR.fN),(.int .i64 z1P.fR.fD),(.int .i64 z1P.fLatency.fN),(.int .i64 z1P.fLatency.fD)]))]) Try.func15 rfl Try.ntmps15 rfl (Hp.nil w₀ _) rfl ?_
 refine WC.pool ?_
 refine WC.b ?_
 refine WC.a ?_
 refine WL.new (dd:=2) rfl rfl rfl (yK (cs:=[(.slice z5F z4R.length z5G)]) rfl rfl) ?_
 intro zbw _
 refine WL.new (dd:=3) rfl rfl rfl (yK (cs:=[(.int .i64 z1P.fR.fN),(.int .i64 z1P.fR.fD),(.int .i64 z1P.fLatency.fN),(.int .i64 z1P.fLatency.fD)]) rfl rfl) ?_
 intro zbx _
 refine WL.new (dd:=4) rfl rfl rfl (yh (cs:=[(.int .i64 0),(.int .i64 0)]) yo rfl) ?_
 intro zhx _
 refine WL.a (d:=5) rfl rfl rfl (q_z rfl) ?_
 refine WL.nil ?_
 refine WX.a ?_
 refine WC.b ?_
 refine WC.a ?_
 refine WL.a (d:=7) rfl rfl rfl (ye y3a rfl (yu .h2 rfl)) ?_
 refine WL.a (d:=8) rfl rfl rfl (y6 (cs:=[(.int .i64 z1P.fR.fN),(.int .i64 z1P.fR.fD),(.int .i64 z1P.fLatency.fN),(.int .i64 z1P.fLatency.fD)]) y4h rfl rfl (y7 .h1)) ?_
 refine WL.a (d:=9) rfl rfl rfl (y1j (v:=(.agg #[(.slice z5F z4R.length z5G),(.int .i64 z1P.fR.fN),(.int .i64 z1P.fR.fD),(.int .i64 z1P.fLatency.fN),(.int .i64 z1P.fLatency.fD),.nilFunc,(.slice none 0 0)])) (Eos.parts (l:=[.tmp 7,.tmp 8]) (.cons rfl (.cons rfl .nil)) [0,1]) (fun _=>by kernel_rfl)) ?_
 refine WL.new (dd:=6) rfl rfl rfl (yh (cs:=[(.slice none 0 0),(.int .i64 0),(.int .i64 0),(.int .i64 0),(.int .i64 0),.nilFunc,(.slice none 0 0)]) y92 rfl) ?_
 intro zhy _
 refine WL.yc rfl rfl (yd (vs:=[(.slice z5F z4R.length z5G),(.int .i64 z1P.fR.fN),(.int .i64 z1P.fR.fD),(.int .i64 z1P.fLatency.fN),(.int .i64 z1P.fLatency.fD),.nilFunc,(.slice none 0 0)]) (ds:=[(.slice z5F z4R.length z5G),(.int .i64 z1P.fR.fN),(.int .i64 z1P.fR.fD),(.int .i64 z1P.fLatency.fN),(.int .i64 z1P.fLatency.fD),.nilFunc,(.slice none 0 0)]) y9B rfl rfl rfl rfl (y3 rfl (y3 rfl (y3 rfl (y3 rfl (y3 rfl (y3 rfl (y3 rfl yf))))))) .here (Nat.le_of_ble_eq_true rfl) rfl) ?_
 refine WL.nil ?_
 refine WX.a ?_
 refine WC.b ?_
 refine WC.a ?_
 refine WL.a (d:=10) rfl rfl rfl (y18 (Eos.caps (l:=[.tmp 2,.tmp 3]) (.cons rfl (.cons rfl .nil)))) ?_
 refine WL.a (d:=11) rfl rfl rfl (y4 y7E rfl rfl) ?_
 refine WL.yc rfl rfl (yd (vs:=[(.func (.func 32) #[] #[(.pointer (some ⟨zbw,0,none⟩)),(.pointer (some ⟨zbx,0,none⟩))])]) (ds:=[(.slice z5F z4R.length z5G),(.int .i64 z1P.fR.fN),(.int .i64 z1P.fR.fD),(.int .i64 z1P.fLatency.fN),(.int .i64 z1P.fLatency.fD),(.func (.func 32) #[] #[(.pointer (some ⟨zbw,0,none⟩)),(.pointer (some ⟨zbx,0,none⟩))]),(.slice none 0 0)]) y9C rfl rfl rfl rfl (y3 rfl yf) .here (Nat.le_of_ble_eq_true rfl) rfl) ?_
 refine WL.nil ?_
 refine WX.a ?_
 refine WC.b ?_
 obtain ⟨zbv,zvR,h⟩:=zb h
 refine WC.a ?_
 refine WL.a (d:=12) rfl rfl rfl (y6 (cs:=[(.slice z5F z4R.length z5G),(.int .i64 z1P.fR.fN),(.int .i64 z1P.fR.fD),(.int .i64 z1P.fLatency.fN),(.int .i64 z1P.fLatency.fD),(.func (.func 32) #[] #[(.pointer (some ⟨zbw,0,none⟩)),(.pointer (some ⟨zbx,0,none⟩))]),(.slice none 0 0)]) y5W rfl rfl (y7 .here)) ?_
 refine WL.freezeC (Z:=Z) .h3 .h3 ?_
 intro zAK zhz zvS
 refine WL.freezeC (Z:=Z) .h3 .here ?_
 intro zfE zfF zvT
 refine WL.y2A (dd:=13) rfl rfl rfl (zl (l:=[.tmp 12]) Try.call36 (.cons rfl .nil)) (.nil : Sel [fz zfE,stb zhy 79 [(.slice z5F z4R.length z5G),(.int .i64 z1P.fR.fN),(.int .i64 z1P.fR.fD),(.int .i64 z1P.fLatency.fN),(.int .i64 z1P.fLatency.fD),(.func (.func 32) #[] #[(.pointer (some ⟨zbw,0,none⟩)),(.pointer (some ⟨zbx,0,none⟩))]),(.slice none 0 0)],stb zhx 30 [(.int .i64 0),(.int .i64 0)]] [] [fz zfE,stb zhy 79 [(.slice z5F z4R.length z5G),(.int .i64 z1P.fR.fN),(.int .i64 z1P.fR.fD),(.int .i64 z1P.fLatency.fN),(.int .i64 z1P.fLatency.fD),(.func (.func 32) #[] #[(.pointer (some ⟨zbw,0,none⟩)),(.pointer (some ⟨zbx,0,none⟩))]),(.slice none 0 0)],stb zhx 30 [(.int .i64 0),(.int .i64 0)]]) (fun w hw=>by have pz:=(hz.call2 hw (.nil : Sel [fz zfE,stb zhy 79 [(.slice z5F z4R.length z5G),(.int .i64 z1P.fR.fN),(.int .i64 z1P.fR.fD),(.int .i64 z1P.fLatency.fN),(.int .i64 z1P.fLatency.fD),(.func (.func 32) #[] #[(.pointer (some ⟨zbw,0,none⟩)),(.pointer (some ⟨zbx,0,none⟩))]),(.slice none 0 0)],stb zhx 30 [(.int .i64 0),(.int .i64 0)]] [] [fz zfE,stb zhy 79 [(.slice z5F z4R.length z5G),(.int .i64 z1P.fR.fN),(.int .i64 z1P.fR.fD),(.int .i64 z1P.fLatency.fN),(.int .i64 z1P.fLatency.fD),(.func (.func 32) #[] #[(.pointer (some ⟨zbw,0,none⟩)),(.pointer (some ⟨zbx,0,none⟩))]),(.slice none 0 0)],stb zhx 30 [(.int .i64 0),(.int .i64 0)]]) .here); exact y6M (Z:=_) (z23:=z5F) (z24:=z5G) (z1W:=⟨zbw,0,none⟩) (zcI:=z5F) (zcJ:=z5G) (z1X:=⟨zbx,0,none⟩) (z26:=none) (z27:=0) (z1N:=z4R) (zq:=z1P) (z6M:=z4R) (z5T:=z1P) (z1O:=[]) (r:=zbv) w pz ((zpy.mono ((Zle.left _ _).trans (zhz.trans zfF))).weak (fun _ _ h=>yG ((Zle.left _ _).trans (zhz.trans zfF)) h)) ((zpy.mono ((Zle.left _ _).trans (zhz.trans zfF))).weak (fun _ _ h=>yG ((Zle.left _ _).trans (zhz.trans zfF)) h)) (zvS.mono zfF) zvT (ZS.nil _ _ _) zvR) ?_
 rintro zvU _
 refine WL.merge .here .here ?_
 refine WL.a (d:=14) rfl rfl rfl (yb rfl rfl) ?_
 refine WL.a (d:=15) rfl rfl rfl (yb rfl rfl) ?_
 refine WL.yc rfl rfl (yd (vs:=[(.int .i64 zbv.1.fN),(.int .i64 zbv.1.fD)]) (ds:=[(.int .i64 zbv.1.fN),(.int .i64 zbv.1.fD)]) yl rfl rfl rfl rfl (y3 rfl (y3 rfl yf)) .h2 (Nat.le_of_ble_eq_true rfl) rfl) ?_
 refine WL.a (d:=5) rfl rfl rfl (q_z rfl) ?_
 refine WL.nil ?_
 refine WX.a ?_
 refine WC.ret ?_
 obtain rfl:=Option.some.inj h
 refine WX.y9 Try.results15 (.agg rfl y5 rfl (y7 .here) (.tmp rfl .nil)) (fun w hw=>?_)
 exact ⟨(zfE ++ zvU),y1I rfl rfl,trivial,hw.sub (.cons .h1 .nil)⟩
def yW (z28 : List (List z1)) (zaC : Int → Int → Int → Option Int) : Nat → Int → Int → Int → Int → Option Int
 | 0,_,_,_,_=>none
 | zlo + 1,z6n,z4h,z44,z47=>if decide (z6n < ((z28.length : Nat) : Int)) then chk ((0 : Int) ≤ z6n ∧ z6n < ((z28.length : Nat) : Int)) ((y1f (nth z28 z6n)).bind fun z4S=>if decide (z4S.2 ≠ 0) then some z4S.2 else (y1m (nth z28 z6n)).bind fun z5n=>(y12 (⟨z4h⟩ : z2y) (fun (y0 : z2) (y1 : z2)=>y15 y0 y1) (⟨z44,z47⟩ : z2) z5n.1).bind fun z8x=>yW z28 zaC zlo (i64 (z6n + 1)) z8x.2.fE z8x.1.fN z8x.1.fD) else zaC z4h z44 z47
theorem y4G {n : Nat} {z28 : List (List z1)} {zaC : Int → Int → Int → Option Int} {z6n : Int} {z4h : Int} {z44 : Int} {z47 : Int} {r : Int} (h : yW z28 zaC n z6n z4h z44 z47 = some r) : ∃ m,n = m + 1:=by
 cases n with
 | zero=>cases h
 | succ m=>exact ⟨m,rfl⟩
def y26 (z28 : List (List z1)) (zo : zSv) (zfG : List (List z1)) (zcM : zSv) (z2L : List z2) : Option Int :=
 (if decide (((z28.length : Nat) : Int) > 32) then some true else (yP z28 (fun (y0 : List z1)=>yB y0)).bind fun zlp=>some zlp).bind fun zhA=>(if zhA then some true else (y2K zo).bind fun zlq=>some (!zlq)).bind fun zlr=>if zlr then some 2 else (y1L).bind fun z9C=>jp3 (fun (z7n : Int) (z7o : Int) (z7p : Int)=>(if decide (z7n = 0) then (yO (⟨z7o,z7p⟩ : z2) zo.fR).bind fun zls=>some (decide (zls > 0)) else some false).bind fun zlt=>if zlt then some 6 else some z7n) fun zaC=>yW z28 zaC yw 0 0 z9C.fN z9C.fD
set_option maxRecDepth 20000 in
theorem y6e (Z : Zp)  (z2M : Option Addr) (z2N : Nat) (z2Y : Addr) (zlu : Option Addr) (zlv : Nat) (z2Z : Addr) (z30 : Option Addr) (z31 : Nat) (z28 : List (List z1)) (zo : zSv) (zfG : List (List z1)) (zcM : zSv) (z2L : List z2) (r : Int) (w₀ : World) (hz : PZ [] w₀ Z)
  (zpz : ZS Z 1 (p39 Z) z2M z2N z28)
  (zAL : ZS Z 1 (p39 Z) zlu zlv zfG)
  (zAM : ZC Z z2Y [(.slice zlu zfG.length zlv)])
  (zAN : ZC Z z2Z [(.int .i64 zcM.fR.fN),(.int .i64 zcM.fR.fD),(.int .i64 zcM.fLatency.fN),(.int .i64 zcM.fLatency.fD)])
  (zAO : ZS Z 2 (fun r x=>r = e30 x) z30 z31 z2L)
  (h : y26 z28 zo zfG zcM z2L = some r) :
  Calls Try.prog 52 #[(.agg #[(.slice z2M z28.length z2N),(.int .i64 zo.fR.fN),(.int .i64 zo.fR.fD),(.int .i64 zo.fLatency.fN),(.int .i64 zo.fLatency.fD),(.func (.func 37) #[] #[(.pointer (some z2Y)),(.pointer (some z2Z))]),(.slice z30 z2L.length z31)])] w₀ fun e w'=>∃ Zn : Zp,e = .returned (.int .i64 r) ∧ True ∧ Hp [] w₀ w' [fz Zn]:=by
 unfold y26 at h
 refine Calls.yg (vs:=[(.agg #[(.slice z2M z28.length z2N),(.int .i64 zo.fR.fN),(.int .i64 zo.fR.fD),(.int .i64 zo.fLatency.fN),(.int .i64 zo.fLatency.fD),(.func (.func 37) #[] #[(.pointer (some z2Y)),(.pointer (some z2Z))]),(.slice z30 z2L.length z31)])]) (pre:=[]) (env:=[(0,(.agg #[(.slice z2M z28.length z2N),(.int .i64 zo.fR.fN),(.int .i64 zo.fR.fD),(.int .i64 zo.fLatency.fN),(.int .i64 zo.fLatency.fD),(.func (.func 37) #[] #[(.pointer (some z2Y)),(.pointer (some z2Z))]),(.slice z30 z2L.length z31)]))]) Try.func52 rfl Try.ntmps52 rfl (Hp.nil w₀ _) rfl ?_
 refine WC.pool ?_
 refine WC.b ?_
 refine WC.a ?_
 refine WL.new (dd:=1) rfl rfl rfl (yK (cs:=[(.slice z2M z28.length z2N),(.int .i64 zo.fR.fN),(.int .i64 zo.fR.fD),(.int .i64 zo.fLatency.fN),(.int .i64 zo.fLatency.fD),(.func (.func 37) #[] #[(.pointer (some z2Y)),(.pointer (some z2Z))]),(.slice z30 z2L.length z31)]) rfl rfl) ?_
 intro z3f _
 refine WL.a (d:=2) rfl rfl rfl (q_z rfl) ?_
 refine WL.nil ?_
 refine WX.a ?_
 refine WC.b ?_
 refine WC.b ?_
 obtain ⟨zhA,zpA,h⟩:=zb h
 obtain ⟨zlr,zpB,h⟩:=zb h
 refine WC.a ?_
 refine WL.a (d:=11) rfl rfl rfl (y4 y4I rfl rfl) ?_
 refine WL.a (d:=12) rfl rfl rfl (ye y3a rfl (yu .here rfl)) ?_
 refine WL.a (d:=13) rfl rfl rfl (y1k Try.underlying26 rfl) ?_
 refine WL.a (d:=14) rfl rfl rfl (y3f rfl rfl) ?_
 refine WL.a (d:=15) rfl rfl rfl (q_m rfl) ?_
 refine WL.yF True [(1,(.pointer (some ⟨z3f,0,none⟩))),(19,(.bool zhA))] [stb z3f 79 [(.slice z2M z28.length z2N),(.int .i64 zo.fR.fN),(.int .i64 zo.fR.fD),(.int .i64 zo.fLatency.fN),(.int .i64 zo.fLatency.fD),(.func (.func 37) #[] #[(.pointer (some z2Y)),(.pointer (some z2Z))]),(.slice z30 z2L.length z31)],fz []] 4 ?_ (fun _=>?_)
 ·rcases Bool.eq_false_or_eq_true (decide (((z28.length : Nat) : Int) > 32)) with hb' | hb'
  ·have zpC:=hb'; clear hb'
   have zlw:=yj zpA zpC
   replace zlw:=Option.some.inj zlw
   refine WL.pin (i:=15) rfl zpC ?_
   refine WL.e rfl rfl rfl ?_
   refine WL.e rfl rfl rfl ?_
   refine WL.e rfl rfl rfl ?_
   refine WL.a (d:=19) rfl rfl rfl (ys rfl rfl) ?_
   exact WL.ya () trivial (.cons rfl (.cons (zt zlw) .nil)) (.cons .here (.cons .here .nil))
  ·have zpD:=hb'; clear hb'
   have zfH:=yk zpA zpD
   obtain ⟨zlp,zvV,zfH⟩:=zb zfH
   replace zfH:=Option.some.inj zfH
   refine WL.pin (i:=15) rfl zpD ?_
   refine WL.a (d:=16) rfl rfl rfl (y4 y4I rfl rfl) ?_
   refine WL.a (d:=17) rfl rfl rfl (ye y3a rfl (yu .here rfl)) ?_
   refine WL.b (dd:=18) rfl rfl rfl (zl (l:=[.tmp 17,.func 67]) Try.call66 (.cons rfl (.cons rfl .nil))) (.nil : Sel [stb z3f 79 [(.slice z2M z28.length z2N),(.int .i64 zo.fR.fN),(.int .i64 zo.fR.fD),(.int .i64 zo.fLatency.fN),(.int .i64 zo.fLatency.fD),(.func (.func 37) #[] #[(.pointer (some z2Y)),(.pointer (some z2Z))]),(.slice z30 z2L.length z31)],fz []] [] [stb z3f 79 [(.slice z2M z28.length z2N),(.int .i64 zo.fR.fN),(.int .i64 zo.fR.fD),(.int .i64 zo.fLatency.fN),(.int .i64 zo.fLatency.fD),(.func (.func 37) #[] #[(.pointer (some z2Y)),(.pointer (some z2Z))]),(.slice z30 z2L.length z31)],fz []]) (fun w hw=>by have pz:=(hz.call2 hw (.nil : Sel [stb z3f 79 [(.slice z2M z28.length z2N),(.int .i64 zo.fR.fN),(.int .i64 zo.fR.fD),(.int .i64 zo.fLatency.fN),(.int .i64 zo.fLatency.fD),(.func (.func 37) #[] #[(.pointer (some z2Y)),(.pointer (some z2Z))]),(.slice z30 z2L.length z31)],fz []] [] [stb z3f 79 [(.slice z2M z28.length z2N),(.int .i64 zo.fR.fN),(.int .i64 zo.fR.fD),(.int .i64 zo.fLatency.fN),(.int .i64 zo.fLatency.fD),(.func (.func 37) #[] #[(.pointer (some z2Y)),(.pointer (some z2Z))]),(.slice z30 z2L.length z31)],fz []]) .h1); exact y2t (Z:=_) (zbZ:=z2M) (zc0:=z2N) (za0:=67) (zc1:=[]) (z9g:=z28) (zbY:=(fun (y0 : List z1)=>yB y0)) (r:=zlp) w pz ((zpz.mono (Zle.left _ _)).weak (fun _ _ h=>yG (Zle.left _ _) h)) Try.call67 (fun w' hz' y0 ga0 gc0 r gh0 hr=>y45 (Z:=_) (zbV:=ga0) (zbW:=gc0) (z9f:=y0) (r:=r) w' hz' gh0 hr) zvV) ?_
   refine WL.a (d:=19) rfl rfl rfl (yr rfl rfl) ?_
   exact WL.ya () trivial (.cons rfl (.cons (zt zfH) .nil)) (.cons .here (.cons .here .nil))
 ·skip
  refine WL.a (d:=20) rfl rfl rfl (q_m rfl) ?_
  refine WL.yF True [(1,(.pointer (some ⟨z3f,0,none⟩))),(25,(.bool zlr))] [stb z3f 79 [(.slice z2M z28.length z2N),(.int .i64 zo.fR.fN),(.int .i64 zo.fR.fD),(.int .i64 zo.fLatency.fN),(.int .i64 zo.fLatency.fD),(.func (.func 37) #[] #[(.pointer (some z2Y)),(.pointer (some z2Z))]),(.slice z30 z2L.length z31)],fz []] 5 ?_ (fun _=>?_)
  ·rcases Bool.eq_false_or_eq_true zhA with hb' | hb'
   ·have zpE:=hb'; clear hb'
    have zlx:=yj zpB zpE
    replace zlx:=Option.some.inj zlx
    refine WL.pin (i:=20) rfl zpE ?_
    refine WL.e rfl rfl rfl ?_
    refine WL.e rfl rfl rfl ?_
    refine WL.e rfl rfl rfl ?_
    refine WL.e rfl rfl rfl ?_
    refine WL.a (d:=25) rfl rfl rfl (ys rfl rfl) ?_
    exact WL.ya () trivial (.cons rfl (.cons (zt zlx) .nil)) (.cons .here (.cons .here .nil))
   ·have zpF:=hb'; clear hb'
    have zfI:=yk zpB zpF
    obtain ⟨zlq,zvW,zfI⟩:=zb zfI
    replace zfI:=Option.some.inj zfI
    refine WL.pin (i:=20) rfl zpF ?_
    refine WL.a (d:=21) rfl rfl rfl (y4 y7F rfl rfl) ?_
    refine WL.a (d:=22) rfl rfl rfl (y6 (cs:=[(.int .i64 zo.fR.fN),(.int .i64 zo.fR.fD),(.int .i64 zo.fLatency.fN),(.int .i64 zo.fLatency.fD)]) y4h rfl rfl (y1T (s:=4) .here rfl)) ?_
    refine WL.b (dd:=23) rfl rfl rfl (zl (l:=[.tmp 22]) Try.call47 (.cons rfl .nil)) (.nil : Sel [stb z3f 79 [(.slice z2M z28.length z2N),(.int .i64 zo.fR.fN),(.int .i64 zo.fR.fD),(.int .i64 zo.fLatency.fN),(.int .i64 zo.fLatency.fD),(.func (.func 37) #[] #[(.pointer (some z2Y)),(.pointer (some z2Z))]),(.slice z30 z2L.length z31)],fz []] [] [stb z3f 79 [(.slice z2M z28.length z2N),(.int .i64 zo.fR.fN),(.int .i64 zo.fR.fD),(.int .i64 zo.fLatency.fN),(.int .i64 zo.fLatency.fD),(.func (.func 37) #[] #[(.pointer (some z2Y)),(.pointer (some z2Z))]),(.slice z30 z2L.length z31)],fz []]) (fun w hw=>by have pz:=(hz.call2 hw (.nil : Sel [stb z3f 79 [(.slice z2M z28.length z2N),(.int .i64 zo.fR.fN),(.int .i64 zo.fR.fD),(.int .i64 zo.fLatency.fN),(.int .i64 zo.fLatency.fD),(.func (.func 37) #[] #[(.pointer (some z2Y)),(.pointer (some z2Z))]),(.slice z30 z2L.length z31)],fz []] [] [stb z3f 79 [(.slice z2M z28.length z2N),(.int .i64 zo.fR.fN),(.int .i64 zo.fR.fD),(.int .i64 zo.fLatency.fN),(.int .i64 zo.fLatency.fD),(.func (.func 37) #[] #[(.pointer (some z2Y)),(.pointer (some z2Z))]),(.slice z30 z2L.length z31)],fz []]) .h1); exact y6c (Z:=_)  (z1e:=zo) (r:=zlq) w pz  zvW) ?_
    refine WL.a (d:=24) rfl rfl rfl (y1n rfl) ?_
    refine WL.a (d:=25) rfl rfl rfl (yr rfl rfl) ?_
    exact WL.ya () trivial (.cons rfl (.cons (zt zfI) .nil)) (.cons .here (.cons .here .nil))
  ·skip
   refine WL.nil ?_
   refine WX.a ?_
   refine WC.cond rfl (fun zly=>?_) (fun zly=>?_)
   ·replace h:=yj h zly
    refine WC.b ?_
    refine WC.a ?_
    refine WL.a (d:=2) rfl rfl rfl (q_z rfl) ?_
    refine WL.nil ?_
    refine WX.a ?_
    refine WC.ret ?_
    refine WX.y8 ?_
    obtain rfl:=Option.some.inj h
    refine WX.y9 Try.results52 (.tmp rfl .nil) (fun w hw=>?_)
    exact ⟨[],yI rfl,trivial,hw.sub (.cons .h1 .nil)⟩
   ·replace h:=yk h zly
    refine WC.skip ?_
    refine WX.a ?_
    refine WC.b ?_
    refine WC.a ?_
    refine WL.new (dd:=3) rfl rfl rfl (yh (cs:=[(.int .i64 0)]) y6Y rfl) ?_
    intro z3V _
    refine WL.nil ?_
    refine WX.a ?_
    refine WC.b ?_
    obtain ⟨z9C,zvX,h⟩:=zb h
    refine WC.a ?_
    refine WL.b (dd:=26) rfl rfl rfl (zl (l:=[]) Try.call51 .nil) (.nil : Sel [stb z3V 98 [(.int .i64 0)],stb z3f 79 [(.slice z2M z28.length z2N),(.int .i64 zo.fR.fN),(.int .i64 zo.fR.fD),(.int .i64 zo.fLatency.fN),(.int .i64 zo.fLatency.fD),(.func (.func 37) #[] #[(.pointer (some z2Y)),(.pointer (some z2Z))]),(.slice z30 z2L.length z31)],fz []] [] [stb z3V 98 [(.int .i64 0)],stb z3f 79 [(.slice z2M z28.length z2N),(.int .i64 zo.fR.fN),(.int .i64 zo.fR.fD),(.int .i64 zo.fLatency.fN),(.int .i64 zo.fLatency.fD),(.func (.func 37) #[] #[(.pointer (some z2Y)),(.pointer (some z2Z))]),(.slice z30 z2L.length z31)],fz []]) (fun w hw=>by have pz:=(hz.call2 hw (.nil : Sel [stb z3V 98 [(.int .i64 0)],stb z3f 79 [(.slice z2M z28.length z2N),(.int .i64 zo.fR.fN),(.int .i64 zo.fR.fD),(.int .i64 zo.fLatency.fN),(.int .i64 zo.fLatency.fD),(.func (.func 37) #[] #[(.pointer (some z2Y)),(.pointer (some z2Z))]),(.slice z30 z2L.length z31)],fz []] [] [stb z3V 98 [(.int .i64 0)],stb z3f 79 [(.slice z2M z28.length z2N),(.int .i64 zo.fR.fN),(.int .i64 zo.fR.fD),(.int .i64 zo.fLatency.fN),(.int .i64 zo.fLatency.fD),(.func (.func 37) #[] #[(.pointer (some z2Y)),(.pointer (some z2Z))]),(.slice z30 z2L.length z31)],fz []]) .h2); exact y2v (Z:=_)   (r:=z9C) w pz  zvX) ?_
    refine WL.new (dd:=4) rfl rfl rfl (yh (cs:=[(.int .i64 0),(.int .i64 0)]) yo rfl) ?_
    intro z56 _
    refine WL.yc rfl rfl (yd (vs:=[(.int .i64 z9C.fN),(.int .i64 z9C.fD)]) (ds:=[(.int .i64 z9C.fN),(.int .i64 z9C.fD)]) yl rfl rfl rfl rfl (y3 rfl (y3 rfl yf)) .here (Nat.le_of_ble_eq_true rfl) rfl) ?_
    refine WL.nil ?_
    refine WX.a ?_
    obtain ⟨zaC,zvY,h⟩:=y7Q h
    refine WC.y4T (fun (z7n : Int) (z7o : Int) (z7p : Int) (z8y : Zp)=>(zaC z7n z7o z7p = some r) ∧ (Zle (Z ++ []) (Z ++ z8y))) (fun (z7n : Int) (z7o : Int) (z7p : Int) (z8y : Zp)=>[(1,(.pointer (some ⟨z3f,0,none⟩))),(3,(.pointer (some ⟨z3V,0,none⟩))),(4,(.pointer (some ⟨z56,0,none⟩)))]) (fun (z7n : Int) (z7o : Int) (z7p : Int) (z8y : Zp)=>[fz z8y,stb z3f 79 [(.slice z2M z28.length z2N),(.int .i64 zo.fR.fN),(.int .i64 zo.fR.fD),(.int .i64 zo.fLatency.fN),(.int .i64 zo.fLatency.fD),(.func (.func 37) #[] #[(.pointer (some z2Y)),(.pointer (some z2Z))]),(.slice z30 z2L.length z31)],stb z3V 98 [(.int .i64 z7n)],stb z56 30 [(.int .i64 z7o),(.int .i64 z7p)]]) ?_ ?_
    ·skip
     refine WC.b ?_
     refine WC.a ?_
     refine WL.a (d:=27) rfl rfl rfl (y4 y4I rfl rfl) ?_
     refine WL.a (d:=28) rfl rfl rfl (ye y3a rfl (yu .h2 rfl)) ?_
     refine WL.a (d:=29) rfl rfl rfl (y1k Try.underlying26 rfl) ?_
     refine WL.a (d:=30) rfl rfl rfl (q_m rfl) ?_
     refine WL.nil ?_
     refine WX.a ?_
     refine WC.block ?_
     refine WC.y4B (fun (ze9 : Nat) (z6n : Int) (z4h : Int) (z44 : Int) (z47 : Int) (z4C : Zp)=>(yW z28 zaC ze9 z6n z4h z44 z47 = some r) ∧ (Zle (Z ++ []) (Z ++ z4C))) (fun (ze9 : Nat) (z6n : Int) (z4h : Int) (z44 : Int) (z47 : Int) (z4C : Zp)=>[(1,(.pointer (some ⟨z3f,0,none⟩))),(3,(.pointer (some ⟨z3V,0,none⟩))),(4,(.pointer (some ⟨z56,0,none⟩))),(28,(.slice z2M z28.length z2N)),(29,(.int .i64 ((z28.length : Nat) : Int))),(30,(.int .i64 z6n))]) (fun (ze9 : Nat) (z6n : Int) (z4h : Int) (z44 : Int) (z47 : Int) (z4C : Zp)=>[fz z4C,stb z3f 79 [(.slice z2M z28.length z2N),(.int .i64 zo.fR.fN),(.int .i64 zo.fR.fD),(.int .i64 zo.fLatency.fN),(.int .i64 zo.fLatency.fD),(.func (.func 37) #[] #[(.pointer (some z2Y)),(.pointer (some z2Z))]),(.slice z30 z2L.length z31)],stb z3V 98 [(.int .i64 z4h)],stb z56 30 [(.int .i64 z44),(.int .i64 z47)]]) (fun (ze9 : Nat) (z6n : Int) (z4h : Int) (z44 : Int) (z47 : Int) (z4C : Zp)=>ze9) ⟨yw,0,0,z9C.fN,z9C.fD,[]⟩ ⟨h,(Zle.refl _)⟩ (.cons rfl (.cons rfl (.cons rfl (.cons rfl (.cons rfl (.cons rfl .nil)))))) (.cons .h3 (.cons .h2 (.cons .h1 (.cons .here .nil)))) ?_
     rintro ze9 z6n z4h z44 z47 z4C ⟨h,zhB⟩
     obtain ⟨zlo,rfl⟩:=y4G h
     rw [yW] at h
     refine WC.b ?_
     refine WC.a ?_
     refine WL.a (d:=31) rfl rfl rfl (y1h rfl rfl) ?_
     refine WL.nil ?_
     refine WX.a ?_
     refine WC.b ?_
     refine WC.cond rfl (fun zlz=>?_) (fun zlz=>?_)
     ·replace h:=yj h zlz
      refine WC.skip ?_
      refine WX.a ?_
      refine WC.b ?_
      refine WC.block ?_
      refine WC.b ?_
      obtain ⟨zvZ,h⟩:=yp h
      refine WC.a ?_
      refine WL.znth (dd:=32) rfl rfl (Z:=(Z ++ z4C)) (Pr:=(p39 (Z ++ z4C))) y32 rfl rfl ((zpz.mono ((Zle.left _ _).trans zhB)).weak (fun _ _ h=>yG ((Zle.left _ _).trans zhB) h)) zvZ ?_
      rintro zAP zAQ zw0 zAR ⟨zpG,zpH,rfl,zpI⟩
      refine WL.a (d:=33) rfl rfl rfl (ye y3b rfl (y3Z (hz.pv2 .here) zw0 rfl)) ?_
      refine WL.a (d:=6) rfl rfl rfl (q_z rfl) ?_
      refine WL.nil ?_
      refine WX.a ?_
      refine WC.b ?_
      refine WC.b ?_
      obtain ⟨z4S,zw1,h⟩:=zb h
      refine WC.a ?_
      refine WL.a (d:=35) rfl rfl rfl (q_m rfl) ?_
      refine WL.y6t (dd:=36) rfl rfl rfl (zl (l:=[.tmp 35]) Try.call68 (.cons rfl .nil)) (.nil : Sel [fz z4C,stb z3f 79 [(.slice z2M z28.length z2N),(.int .i64 zo.fR.fN),(.int .i64 zo.fR.fD),(.int .i64 zo.fLatency.fN),(.int .i64 zo.fLatency.fD),(.func (.func 37) #[] #[(.pointer (some z2Y)),(.pointer (some z2Z))]),(.slice z30 z2L.length z31)],stb z3V 98 [(.int .i64 z4h)],stb z56 30 [(.int .i64 z44),(.int .i64 z47)]] [] [fz z4C,stb z3f 79 [(.slice z2M z28.length z2N),(.int .i64 zo.fR.fN),(.int .i64 zo.fR.fD),(.int .i64 zo.fLatency.fN),(.int .i64 zo.fLatency.fD),(.func (.func 37) #[] #[(.pointer (some z2Y)),(.pointer (some z2Z))]),(.slice z30 z2L.length z31)],stb z3V 98 [(.int .i64 z4h)],stb z56 30 [(.int .i64 z44),(.int .i64 z47)]]) (fun w hw=>by have pz:=(hz.call2 hw (.nil : Sel [fz z4C,stb z3f 79 [(.slice z2M z28.length z2N),(.int .i64 zo.fR.fN),(.int .i64 zo.fR.fD),(.int .i64 zo.fLatency.fN),(.int .i64 zo.fLatency.fD),(.func (.func 37) #[] #[(.pointer (some z2Y)),(.pointer (some z2Z))]),(.slice z30 z2L.length z31)],stb z3V 98 [(.int .i64 z4h)],stb z56 30 [(.int .i64 z44),(.int .i64 z47)]] [] [fz z4C,stb z3f 79 [(.slice z2M z28.length z2N),(.int .i64 zo.fR.fN),(.int .i64 zo.fR.fD),(.int .i64 zo.fLatency.fN),(.int .i64 zo.fLatency.fD),(.func (.func 37) #[] #[(.pointer (some z2Y)),(.pointer (some z2Z))]),(.slice z30 z2L.length z31)],stb z3V 98 [(.int .i64 z4h)],stb z56 30 [(.int .i64 z44),(.int .i64 z47)]]) .here); exact y4j (Z:=_) (z9n:=zpG) (z9o:=zpH) (z7E:=(nth z28 z6n)) (r:=z4S) w pz zpI zw1) ?_
      rintro z8z z9D z9E _
      refine WL.merge .here .h1 ?_
      refine WL.a (d:=34) rfl rfl rfl (q_m rfl) ?_
      refine WL.a (d:=37) rfl rfl rfl (yb rfl rfl) ?_
      refine WL.a (d:=38) rfl rfl rfl (yb rfl rfl) ?_
      refine WL.a (d:=7) rfl rfl rfl (q_z rfl) ?_
      refine WL.a (d:=8) rfl rfl rfl (q_z rfl) ?_
      refine WL.nil ?_
      refine WX.a ?_
      refine WC.b ?_
      refine WC.a ?_
      refine WL.a (d:=39) rfl rfl rfl (q_m rfl) ?_
      refine WL.a (d:=40) rfl rfl rfl (y2L rfl rfl) ?_
      refine WL.nil ?_
      refine WX.a ?_
      refine WC.cond rfl (fun zlA=>?_) (fun zlA=>?_)
      ·replace h:=yj h zlA
       refine WC.b ?_
       refine WC.a ?_
       refine WL.a (d:=41) rfl rfl rfl (q_m rfl) ?_
       refine WL.a (d:=2) rfl rfl rfl (q_z rfl) ?_
       refine WL.nil ?_
       refine WX.a ?_
       refine WC.ret ?_
       refine WX.y8 ?_
       refine WX.yt ?_
       refine WX.y8 ?_
       refine WX.y8 ?_
       refine WX.yt ?_
       refine WX.y8 ?_
       obtain rfl:=Option.some.inj h
       refine WX.y9 Try.results52 (.tmp rfl .nil) (fun w hw=>?_)
       exact ⟨(z4C ++ z8z),yI rfl,trivial,hw.sub (.cons .here .nil)⟩
      ·replace h:=yk h zlA
       refine WC.skip ?_
       refine WX.a ?_
       refine WC.b ?_
       obtain ⟨z5n,zw2,h⟩:=zb h
       refine WC.a ?_
       refine WL.a (d:=43) rfl rfl rfl (q_m rfl) ?_
       refine WL.b (dd:=44) rfl rfl rfl (zl (l:=[.tmp 43]) Try.call21 (.cons rfl .nil)) (.nil : Sel [fz (z4C ++ z8z),row (.slice z9D z4S.1.length z9E) 30 2 (z4S.1.flatMap e30),stb z3f 79 [(.slice z2M z28.length z2N),(.int .i64 zo.fR.fN),(.int .i64 zo.fR.fD),(.int .i64 zo.fLatency.fN),(.int .i64 zo.fLatency.fD),(.func (.func 37) #[] #[(.pointer (some z2Y)),(.pointer (some z2Z))]),(.slice z30 z2L.length z31)],stb z3V 98 [(.int .i64 z4h)],stb z56 30 [(.int .i64 z44),(.int .i64 z47)]] [] [fz (z4C ++ z8z),row (.slice z9D z4S.1.length z9E) 30 2 (z4S.1.flatMap e30),stb z3f 79 [(.slice z2M z28.length z2N),(.int .i64 zo.fR.fN),(.int .i64 zo.fR.fD),(.int .i64 zo.fLatency.fN),(.int .i64 zo.fLatency.fD),(.func (.func 37) #[] #[(.pointer (some z2Y)),(.pointer (some z2Z))]),(.slice z30 z2L.length z31)],stb z3V 98 [(.int .i64 z4h)],stb z56 30 [(.int .i64 z44),(.int .i64 z47)]]) (fun w hw=>by have pz:=(hz.call2 hw (.nil : Sel [fz (z4C ++ z8z),row (.slice z9D z4S.1.length z9E) 30 2 (z4S.1.flatMap e30),stb z3f 79 [(.slice z2M z28.length z2N),(.int .i64 zo.fR.fN),(.int .i64 zo.fR.fD),(.int .i64 zo.fLatency.fN),(.int .i64 zo.fLatency.fD),(.func (.func 37) #[] #[(.pointer (some z2Y)),(.pointer (some z2Z))]),(.slice z30 z2L.length z31)],stb z3V 98 [(.int .i64 z4h)],stb z56 30 [(.int .i64 z44),(.int .i64 z47)]] [] [fz (z4C ++ z8z),row (.slice z9D z4S.1.length z9E) 30 2 (z4S.1.flatMap e30),stb z3f 79 [(.slice z2M z28.length z2N),(.int .i64 zo.fR.fN),(.int .i64 zo.fR.fD),(.int .i64 zo.fLatency.fN),(.int .i64 zo.fLatency.fD),(.func (.func 37) #[] #[(.pointer (some z2Y)),(.pointer (some z2Z))]),(.slice z30 z2L.length z31)],stb z3V 98 [(.int .i64 z4h)],stb z56 30 [(.int .i64 z44),(.int .i64 z47)]]) .here); exact y4V (Z:=_) (z9q:=zpG) (z9r:=zpH) (z7F:=(nth z28 z6n)) (r:=z5n) w pz (zpI.mono ((Zle.left _ _).trans (Zle.yi _ _ _))) zw2) ?_
       refine WL.a (d:=42) rfl rfl rfl (q_m rfl) ?_
       refine WL.a (d:=45) rfl rfl rfl (yb rfl rfl) ?_
       refine WL.a (d:=46) rfl rfl rfl (yb rfl rfl) ?_
       refine WL.new (dd:=9) rfl rfl rfl (yh (cs:=[(.int .i64 0),(.int .i64 0)]) yo rfl) ?_
       intro zea _
       refine WL.yc rfl rfl (yd (vs:=[(.int .i64 z5n.1.fN),(.int .i64 z5n.1.fD)]) (ds:=[(.int .i64 z5n.1.fN),(.int .i64 z5n.1.fD)]) yl rfl rfl rfl rfl (y3 rfl (y3 rfl yf)) .here (Nat.le_of_ble_eq_true rfl) rfl) ?_
       refine WL.a (d:=10) rfl rfl rfl (q_z rfl) ?_
       refine WL.nil ?_
       refine WX.a ?_
       obtain ⟨z8x,zw3,h⟩:=zb h
       refine WC.a ?_
       refine WL.a (d:=47) rfl rfl rfl (y6 (cs:=[(.int .i64 z44),(.int .i64 z47)]) y5 rfl rfl (y7 .h5)) ?_
       refine WL.a (d:=48) rfl rfl rfl (y6 (cs:=[(.int .i64 z5n.1.fN),(.int .i64 z5n.1.fD)]) y5 rfl rfl (y7 .here)) ?_
       refine WL.b (dd:=49) rfl rfl rfl (zl (l:=[.tmp 3,.func 19,.tmp 47,.tmp 48]) Try.call33 (.cons rfl (.cons rfl (.cons rfl (.cons rfl .nil))))) ((.cons .h4 .nil) : Sel [stb zea 30 [(.int .i64 z5n.1.fN),(.int .i64 z5n.1.fD)],fz (z4C ++ z8z),row (.slice z9D z4S.1.length z9E) 30 2 (z4S.1.flatMap e30),stb z3f 79 [(.slice z2M z28.length z2N),(.int .i64 zo.fR.fN),(.int .i64 zo.fR.fD),(.int .i64 zo.fLatency.fN),(.int .i64 zo.fLatency.fD),(.func (.func 37) #[] #[(.pointer (some z2Y)),(.pointer (some z2Z))]),(.slice z30 z2L.length z31)],stb z3V 98 [(.int .i64 z4h)],stb z56 30 [(.int .i64 z44),(.int .i64 z47)]] [stb z3V 98 [(.int .i64 z4h)]] [stb zea 30 [(.int .i64 z5n.1.fN),(.int .i64 z5n.1.fD)],fz (z4C ++ z8z),row (.slice z9D z4S.1.length z9E) 30 2 (z4S.1.flatMap e30),stb z3f 79 [(.slice z2M z28.length z2N),(.int .i64 zo.fR.fN),(.int .i64 zo.fR.fD),(.int .i64 zo.fLatency.fN),(.int .i64 zo.fLatency.fD),(.func (.func 37) #[] #[(.pointer (some z2Y)),(.pointer (some z2Z))]),(.slice z30 z2L.length z31)],stb z56 30 [(.int .i64 z44),(.int .i64 z47)]]) (fun w hw=>by have pz:=(hz.call2 hw ((.cons .h4 .nil) : Sel [stb zea 30 [(.int .i64 z5n.1.fN),(.int .i64 z5n.1.fD)],fz (z4C ++ z8z),row (.slice z9D z4S.1.length z9E) 30 2 (z4S.1.flatMap e30),stb z3f 79 [(.slice z2M z28.length z2N),(.int .i64 zo.fR.fN),(.int .i64 zo.fR.fD),(.int .i64 zo.fLatency.fN),(.int .i64 zo.fLatency.fD),(.func (.func 37) #[] #[(.pointer (some z2Y)),(.pointer (some z2Z))]),(.slice z30 z2L.length z31)],stb z3V 98 [(.int .i64 z4h)],stb z56 30 [(.int .i64 z44),(.int .i64 z47)]] [stb z3V 98 [(.int .i64 z4h)]] [stb zea 30 [(.int .i64 z5n.1.fN),(.int .i64 z5n.1.fD)],fz (z4C ++ z8z),row (.slice z9D z4S.1.length z9E) 30 2 (z4S.1.flatMap e30),stb z3f 79 [(.slice z2M z28.length z2N),(.int .i64 zo.fR.fN),(.int .i64 zo.fR.fD),(.int .i64 zo.fLatency.fN),(.int .i64 zo.fLatency.fD),(.func (.func 37) #[] #[(.pointer (some z2Y)),(.pointer (some z2Z))]),(.slice z30 z2L.length z31)],stb z56 30 [(.int .i64 z44),(.int .i64 z47)]]) .h1); exact y1E (Z:=_) (z4q:=z3V) (z75:=19) (z7H:=[]) (z5j:=(⟨z4h⟩ : z2y)) (z7X:=(fun (y0 : z2) (y1 : z2)=>y15 y0 y1)) (z3a:=(⟨z44,z47⟩ : z2)) (z3b:=z5n.1) (r:=z8x) w pz Try.call19 (fun w' hz' y0 y1  r  hr=>y3n (Z:=_)  (z3F:=y0) (z3G:=y1) (r:=r) w' hz'  hr) zw3 (hw.owns ((.cons .h4 .nil) : Sel [stb zea 30 [(.int .i64 z5n.1.fN),(.int .i64 z5n.1.fD)],fz (z4C ++ z8z),row (.slice z9D z4S.1.length z9E) 30 2 (z4S.1.flatMap e30),stb z3f 79 [(.slice z2M z28.length z2N),(.int .i64 zo.fR.fN),(.int .i64 zo.fR.fD),(.int .i64 zo.fLatency.fN),(.int .i64 zo.fLatency.fD),(.func (.func 37) #[] #[(.pointer (some z2Y)),(.pointer (some z2Z))]),(.slice z30 z2L.length z31)],stb z3V 98 [(.int .i64 z4h)],stb z56 30 [(.int .i64 z44),(.int .i64 z47)]] [stb z3V 98 [(.int .i64 z4h)]] [stb zea 30 [(.int .i64 z5n.1.fN),(.int .i64 z5n.1.fD)],fz (z4C ++ z8z),row (.slice z9D z4S.1.length z9E) 30 2 (z4S.1.flatMap e30),stb z3f 79 [(.slice z2M z28.length z2N),(.int .i64 zo.fR.fN),(.int .i64 zo.fR.fD),(.int .i64 zo.fLatency.fN),(.int .i64 zo.fLatency.fD),(.func (.func 37) #[] #[(.pointer (some z2Y)),(.pointer (some z2Z))]),(.slice z30 z2L.length z31)],stb z56 30 [(.int .i64 z44),(.int .i64 z47)]]))) ?_
       refine WL.yc rfl rfl (yd (vs:=[(.int .i64 z8x.1.fN),(.int .i64 z8x.1.fD)]) (ds:=[(.int .i64 z8x.1.fN),(.int .i64 z8x.1.fD)]) yl rfl rfl rfl rfl (y3 rfl (y3 rfl yf)) .h5 (Nat.le_of_ble_eq_true rfl) rfl) ?_
       refine WL.nil ?_
       refine WX.yn ?_
       refine WX.a ?_
       refine WC.a ?_
       refine WL.a (d:=50) rfl rfl rfl (y1d rfl rfl rfl) ?_
       refine WL.a (d:=30) rfl rfl rfl (q_m rfl) ?_
       refine WL.nil ?_
       exact WX.round (G:=Nat × Int × Int × Int × Int × Zp) ⟨zlo,(i64 (z6n + 1)),z8x.2.fE,z8x.1.fN,z8x.1.fD,(z4C ++ z8z)⟩ ⟨h,(zhB.trans ((Zle.left _ _).trans (Zle.yi _ _ _)))⟩ (Nat.lt_succ_self _) (.cons rfl (.cons rfl (.cons rfl (.cons rfl (.cons rfl (.cons rfl .nil)))))) (.cons .h3 (.cons .h4 (.cons .h1 (.cons .here .nil))))
     ·replace h:=yk h zlz
      refine WC.exit ?_
      refine WX.ym ?_
      refine WX.ym ?_
      refine WX.yH ?_
      exact WX.mid (G:=Int × Int × Int × Zp) ⟨z4h,z44,z47,z4C⟩ ⟨h,zhB⟩ (.cons rfl (.cons rfl (.cons rfl .nil))) (.cons .here (.cons .here (.cons .here (.cons .here .nil))))
    ·rintro z7n z7o z7p z8y ⟨h,zAS⟩
     replace h:=(zvY z7n z7o z7p).symm.trans h
     refine WC.b ?_
     refine WC.b ?_
     obtain ⟨zlt,zpJ,h⟩:=zb h
     refine WC.a ?_
     refine WL.a (d:=51) rfl rfl rfl (y4 y3c rfl rfl) ?_
     refine WL.a (d:=52) rfl rfl rfl (ye y2H rfl (yu .h2 rfl)) ?_
     refine WL.a (d:=53) rfl rfl rfl (y3g rfl rfl) ?_
     refine WL.a (d:=54) rfl rfl rfl (q_m rfl) ?_
     refine WL.yF True [(3,(.pointer (some ⟨z3V,0,none⟩))),(61,(.bool zlt))] [fz z8y,stb z3f 79 [(.slice z2M z28.length z2N),(.int .i64 zo.fR.fN),(.int .i64 zo.fR.fD),(.int .i64 zo.fLatency.fN),(.int .i64 zo.fLatency.fD),(.func (.func 37) #[] #[(.pointer (some z2Y)),(.pointer (some z2Z))]),(.slice z30 z2L.length z31)],stb z3V 98 [(.int .i64 z7n)],stb z56 30 [(.int .i64 z7o),(.int .i64 z7p)]] 7 ?_ (fun _=>?_)
     ·rcases Bool.eq_false_or_eq_true (decide (z7n = 0)) with hb' | hb'
      ·have zpK:=hb'; clear hb'
       have zfJ:=yj zpJ zpK
       obtain ⟨zls,zw4,zfJ⟩:=zb zfJ
       replace zfJ:=Option.some.inj zfJ
       refine WL.pin (i:=54) rfl zpK ?_
       refine WL.a (d:=55) rfl rfl rfl (y6 (cs:=[(.int .i64 z7o),(.int .i64 z7p)]) y5 rfl rfl (y7 .h3)) ?_
       refine WL.a (d:=56) rfl rfl rfl (y4 y7F rfl rfl) ?_
       refine WL.a (d:=57) rfl rfl rfl (y4 y5X rfl rfl) ?_
       refine WL.a (d:=58) rfl rfl rfl (y6 (cs:=[(.int .i64 zo.fR.fN),(.int .i64 zo.fR.fD)]) y5 rfl rfl (y1T (s:=2) .h1 rfl)) ?_
       refine WL.b (dd:=59) rfl rfl rfl (zl (l:=[.tmp 55,.tmp 58]) Try.call18 (.cons rfl (.cons rfl .nil))) (.nil : Sel [fz z8y,stb z3f 79 [(.slice z2M z28.length z2N),(.int .i64 zo.fR.fN),(.int .i64 zo.fR.fD),(.int .i64 zo.fLatency.fN),(.int .i64 zo.fLatency.fD),(.func (.func 37) #[] #[(.pointer (some z2Y)),(.pointer (some z2Z))]),(.slice z30 z2L.length z31)],stb z3V 98 [(.int .i64 z7n)],stb z56 30 [(.int .i64 z7o),(.int .i64 z7p)]] [] [fz z8y,stb z3f 79 [(.slice z2M z28.length z2N),(.int .i64 zo.fR.fN),(.int .i64 zo.fR.fD),(.int .i64 zo.fLatency.fN),(.int .i64 zo.fLatency.fD),(.func (.func 37) #[] #[(.pointer (some z2Y)),(.pointer (some z2Z))]),(.slice z30 z2L.length z31)],stb z3V 98 [(.int .i64 z7n)],stb z56 30 [(.int .i64 z7o),(.int .i64 z7p)]]) (fun w hw=>by have pz:=(hz.call2 hw (.nil : Sel [fz z8y,stb z3f 79 [(.slice z2M z28.length z2N),(.int .i64 zo.fR.fN),(.int .i64 zo.fR.fD),(.int .i64 zo.fLatency.fN),(.int .i64 zo.fLatency.fD),(.func (.func 37) #[] #[(.pointer (some z2Y)),(.pointer (some z2Z))]),(.slice z30 z2L.length z31)],stb z3V 98 [(.int .i64 z7n)],stb z56 30 [(.int .i64 z7o),(.int .i64 z7p)]] [] [fz z8y,stb z3f 79 [(.slice z2M z28.length z2N),(.int .i64 zo.fR.fN),(.int .i64 zo.fR.fD),(.int .i64 zo.fLatency.fN),(.int .i64 zo.fLatency.fD),(.func (.func 37) #[] #[(.pointer (some z2Y)),(.pointer (some z2Z))]),(.slice z30 z2L.length z31)],stb z3V 98 [(.int .i64 z7n)],stb z56 30 [(.int .i64 z7o),(.int .i64 z7p)]]) .here); exact y1Y (Z:=_)  (z2m:=(⟨z7o,z7p⟩ : z2)) (z2n:=zo.fR) (r:=zls) w pz  zw4) ?_
       refine WL.a (d:=60) rfl rfl rfl (y3f rfl rfl) ?_
       refine WL.a (d:=61) rfl rfl rfl (ys rfl rfl) ?_
       exact WL.ya () trivial (.cons rfl (.cons (zt zfJ) .nil)) (.cons .here (.cons .here (.cons .here (.cons .here .nil))))
      ·have zpL:=hb'; clear hb'
       have zlB:=yk zpJ zpL
       replace zlB:=Option.some.inj zlB
       refine WL.pin (i:=54) rfl zpL ?_
       refine WL.e rfl rfl rfl ?_
       refine WL.e rfl rfl rfl ?_
       refine WL.e rfl rfl rfl ?_
       refine WL.e rfl rfl rfl ?_
       refine WL.e rfl rfl rfl ?_
       refine WL.e rfl rfl rfl ?_
       refine WL.a (d:=61) rfl rfl rfl (yr rfl rfl) ?_
       exact WL.ya () trivial (.cons rfl (.cons (zt zlB) .nil)) (.cons .here (.cons .here (.cons .here (.cons .here .nil))))
     ·skip
      refine WL.nil ?_
      refine WX.a ?_
      refine WC.cond rfl (fun zlC=>?_) (fun zlC=>?_)
      ·replace h:=yj h zlC
       refine WC.b ?_
       refine WC.a ?_
       refine WL.a (d:=2) rfl rfl rfl (q_z rfl) ?_
       refine WL.nil ?_
       refine WX.a ?_
       refine WC.ret ?_
       refine WX.y8 ?_
       obtain rfl:=Option.some.inj h
       refine WX.y9 Try.results52 (.tmp rfl .nil) (fun w hw=>?_)
       exact ⟨z8y,yI rfl,trivial,hw.sub (.cons .here .nil)⟩
      ·replace h:=yk h zlC
       refine WC.skip ?_
       refine WX.a ?_
       refine WC.b ?_
       refine WC.a ?_
       refine WL.a (d:=62) rfl rfl rfl (y4 y3c rfl rfl) ?_
       refine WL.a (d:=63) rfl rfl rfl (ye y2H rfl (yu .h2 rfl)) ?_
       refine WL.a (d:=2) rfl rfl rfl (q_z rfl) ?_
       refine WL.nil ?_
       refine WX.a ?_
       refine WC.ret ?_
       obtain rfl:=Option.some.inj h
       refine WX.y9 Try.results52 (.tmp rfl .nil) (fun w hw=>?_)
       exact ⟨z8y,yI rfl,trivial,hw.sub (.cons .here .nil)⟩
def y2r (zaD : List (List z1)) (z57 : zSv) (zfK : List (List z1)) (zcN : zSv) (zaE : List z2) : Option (Int × Int × Int × Int) :=
 some (z57.fR.fN,z57.fR.fD,z57.fLatency.fN,z57.fLatency.fD)
set_option maxRecDepth 20000 in
theorem y5L (Z : Zp)  (zcO : Option Addr) (zcP : Nat) (zcQ : Addr) (zlD : Option Addr) (zlE : Nat) (zcR : Addr) (zcS : Option Addr) (zcT : Nat) (zaD : List (List z1)) (z57 : zSv) (zfK : List (List z1)) (zcN : zSv) (zaE : List z2) (r : Int × Int × Int × Int) (w₀ : World) (hz : PZ [] w₀ Z)
  (zAT : ZS Z 1 (p39 Z) zcO zcP zaD)
  (zAU : ZS Z 1 (p39 Z) zlD zlE zfK)
  (zAV : ZC Z zcQ [(.slice zlD zfK.length zlE)])
  (zAW : ZC Z zcR [(.int .i64 zcN.fR.fN),(.int .i64 zcN.fR.fD),(.int .i64 zcN.fLatency.fN),(.int .i64 zcN.fLatency.fD)])
  (zAX : ZS Z 2 (fun r x=>r = e30 x) zcS zcT zaE)
  (h : y2r zaD z57 zfK zcN zaE = some r) :
  Calls Try.prog 53 #[(.agg #[(.slice zcO zaD.length zcP),(.int .i64 z57.fR.fN),(.int .i64 z57.fR.fD),(.int .i64 z57.fLatency.fN),(.int .i64 z57.fLatency.fD),(.func (.func 37) #[] #[(.pointer (some zcQ)),(.pointer (some zcR))]),(.slice zcS zaE.length zcT)])] w₀ fun e w'=>∃ zpM : Nat,e = .returned (.func (.func 69) #[] #[(.pointer (some ⟨zpM,0,none⟩))]) ∧ True ∧ Hp [] w₀ w' [stb zpM 79 [(.slice zcO zaD.length zcP),(.int .i64 r.1),(.int .i64 r.2.1),(.int .i64 r.2.2.1),(.int .i64 r.2.2.2),(.func (.func 37) #[] #[(.pointer (some zcQ)),(.pointer (some zcR))]),(.slice zcS zaE.length zcT)]]:=by
 unfold y2r at h
 refine Calls.yg (vs:=[(.agg #[(.slice zcO zaD.length zcP),(.int .i64 z57.fR.fN),(.int .i64 z57.fR.fD),(.int .i64 z57.fLatency.fN),(.int .i64 z57.fLatency.fD),(.func (.func 37) #[] #[(.pointer (some zcQ)),(.pointer (some zcR))]),(.slice zcS zaE.length zcT)])]) (pre:=[]) (env:=[(0,(.agg #[(.slice zcO zaD.length zcP),(.int .i64 z57.fR.fN),(.int .i64 z57.fR.fD),(.int .i64 z57.fLatency.fN),(.int .i64 z57.fLatency.fD),(.func (.func 37) #[] #[(.pointer (some zcQ)),(.pointer (some zcR))]),(.slice zcS zaE.length zcT)]))]) Try.func53 rfl Try.ntmps53 rfl (Hp.nil w₀ _) rfl ?_
 refine WC.b ?_
 refine WC.a ?_
 refine WL.new (dd:=1) rfl rfl rfl (yK (cs:=[(.slice zcO zaD.length zcP),(.int .i64 z57.fR.fN),(.int .i64 z57.fR.fD),(.int .i64 z57.fLatency.fN),(.int .i64 z57.fLatency.fD),(.func (.func 37) #[] #[(.pointer (some zcQ)),(.pointer (some zcR))]),(.slice zcS zaE.length zcT)]) rfl rfl) ?_
 intro zw5 _
 refine WL.a (d:=2) rfl rfl rfl (q_z rfl) ?_
 refine WL.nil ?_
 refine WX.a ?_
 refine WC.b ?_
 refine WC.a ?_
 refine WL.a (d:=3) rfl rfl rfl (y18 (Eos.caps (l:=[.tmp 1]) (.cons rfl .nil))) ?_
 refine WL.a (d:=2) rfl rfl rfl (q_z rfl) ?_
 refine WL.nil ?_
 refine WX.a ?_
 refine WC.ret ?_
 obtain rfl:=Option.some.inj h
 refine WX.y9 Try.results53 (.tmp rfl .nil) (fun w hw=>?_)
 exact ⟨zw5,yI rfl,trivial,hw.sub (.cons .here .nil)⟩
def yy (zI : Type) (zK : List z2 × Int) (z4i : z2 → zI → Option (Bool × zI)) (zaF : zI → Option zI) : Nat → Int → zI → Option zI
 | 0,_,_=>none
 | zlF + 1,z1J,z4T=>if decide (z1J < ((zK.1.length : Nat) : Int)) then chk ((0 : Int) ≤ z1J ∧ z1J < ((zK.1.length : Nat) : Int)) ((y1M (⟨((nth zK.1 z1J).fN),((nth zK.1 z1J).fD)⟩ : z2)).bind fun zhC=>(y10 zhC).bind fun zhD=>(z4i zhD z4T).bind fun z6o=>(if !z6o.1 then some (true,z6o.2) else (y2a (⟨((nth zK.1 z1J).fN),((nth zK.1 z1J).fD)⟩ : z2)).bind fun zhE=>(y10 zhE).bind fun zhF=>(z4i zhF z6o.2).bind fun zfL=>some (!zfL.1,zfL.2)).bind fun zby=>if zby.1 then some zby.2 else yy zI zK z4i zaF zlF (i64 (z1J + 1)) zby.2) else zaF z4T
theorem y4k {n : Nat} {zI : Type} {zK : List z2 × Int} {z4i : z2 → zI → Option (Bool × zI)} {zaF : zI → Option zI} {z1J : Int} {z4T : zI} {r : zI} (h : yy zI zK z4i zaF n z1J z4T = some r) : ∃ m,n = m + 1:=by
 cases n with
 | zero=>cases h
 | succ m=>exact ⟨m,rfl⟩
def yz (zI : Type) (z4D : List (List z1)) (z4i : z2 → zI → Option (Bool × zI)) (zaG : zI → Option zI) : Nat → Int → zI → Option zI
 | 0,_,_=>none
 | zlG + 1,z5H,z6p=>if decide (z5H < ((z4D.length : Nat) : Int)) then jp1 (fun (z9F : zI)=>yz zI z4D z4i zaG zlG (i64 (z5H + 1)) z9F) fun zlH=>chk ((0 : Int) ≤ z5H ∧ z5H < ((z4D.length : Nat) : Int)) ((y1f (nth z4D z5H)).bind fun zK=>jp1 (fun (z9G : zI)=>zlH z9G) fun zaF=>yy zI zK z4i zaF yw 0 z6p) else zaG z6p
theorem y4l {n : Nat} {zI : Type} {z4D : List (List z1)} {z4i : z2 → zI → Option (Bool × zI)} {zaG : zI → Option zI} {z5H : Int} {z6p : zI} {r : zI} (h : yz zI z4D z4i zaG n z5H z6p = some r) : ∃ m,n = m + 1:=by
 cases n with
 | zero=>cases h
 | succ m=>exact ⟨m,rfl⟩
def yJ (zI : Type) (z1z : List z2) (z4i : z2 → zI → Option (Bool × zI)) (zaH : zI → Option zI) : Nat → Int → zI → Option zI
 | 0,_,_=>none
 | zlI + 1,z1K,z4U=>if decide (z1K < ((z1z.length : Nat) : Int)) then chk ((0 : Int) ≤ z1K ∧ z1K < ((z1z.length : Nat) : Int)) ((y1M (⟨((nth z1z z1K).fN),((nth z1z z1K).fD)⟩ : z2)).bind fun zhG=>(y10 zhG).bind fun zhH=>(z4i zhH z4U).bind fun z6q=>(if !z6q.1 then some (true,z6q.2) else (y2a (⟨((nth z1z z1K).fN),((nth z1z z1K).fD)⟩ : z2)).bind fun zhI=>(y10 zhI).bind fun zhJ=>(z4i zhJ z6q.2).bind fun zfM=>some (!zfM.1,zfM.2)).bind fun zbz=>if zbz.1 then some zbz.2 else yJ zI z1z z4i zaH zlI (i64 (z1K + 1)) zbz.2) else zaH z4U
theorem y4m {n : Nat} {zI : Type} {z1z : List z2} {z4i : z2 → zI → Option (Bool × zI)} {zaH : zI → Option zI} {z1K : Int} {z4U : zI} {r : zI} (h : yJ zI z1z z4i zaH n z1K z4U = some r) : ∃ m,n = m + 1:=by
 cases n with
 | zero=>cases h
 | succ m=>exact ⟨m,rfl⟩
def y1P (zI : Type) (z4i : z2 → zI → Option (Bool × zI)) (s0_30244 : zI) (z4D : List (List z1)) (zcU : zSv) (zfN : List (List z1)) (zcV : zSv) (z1z : List z2) : Option zI :=
 (y1L).bind fun zhK=>(z4i zhK s0_30244).bind fun zcW=>if !zcW.1 then some zcW.2 else jp1 (fun (z9H : zI)=>jp1 (fun (zaI : zI)=>some zaI) fun zaH=>yJ zI z1z z4i zaH yw 0 z9H) fun zaG=>yz zI z4D z4i zaG yw 0 zcW.2
set_option maxRecDepth 20000 in
theorem y5l (Z : Zp) (zI : Type) (z84 : Nat) (z2O : Type) (z1L : z2O → zI → Asrt) (z85 : z2O → zI → Prop) (z7L : z2O) (z98 : Addr) (zbA : Option Addr) (zbB : Nat) (zlJ : Addr) (zlK : Option Addr) (zlL : Nat) (zlM : Addr) (zfO : Option Addr) (zfP : Nat) (z4i : z2 → zI → Option (Bool × zI)) (s0_30244 : zI) (z4D : List (List z1)) (zcU : zSv) (zfN : List (List z1)) (zcV : zSv) (z1z : List z2) (r : zI) (w₀ : World) (hz : PZ (fps [z1L z7L s0_30244]) w₀ Z)
  (zfQ : y7i Try.prog Z z84 (α:=z2) (σ:=zI) (G:=z2O) (H:=Unit) (fun h x=>[(.agg #[(.int .i64 x.fN),(.int .i64 x.fD)])]) (fun h x=>[]) z4i z1L z85)
  (zw6 : z85 z7L s0_30244)
  (zw7 : ZS Z 1 (p39 Z) zbA zbB z4D)
  (zAY : ZS Z 1 (p39 Z) zlK zlL zfN)
  (zAZ : ZC Z zlJ [(.slice zlK zfN.length zlL)])
  (zB0 : ZC Z zlM [(.int .i64 zcV.fR.fN),(.int .i64 zcV.fR.fD),(.int .i64 zcV.fLatency.fN),(.int .i64 zcV.fLatency.fD)])
  (zw8 : ZS Z 2 (fun r x=>r = e30 x) zfO zfP z1z)
  (zpN : ZC Z z98 [(.slice zbA z4D.length zbB),(.int .i64 zcU.fR.fN),(.int .i64 zcU.fR.fD),(.int .i64 zcU.fLatency.fN),(.int .i64 zcU.fLatency.fD),(.func (.func 37) #[] #[(.pointer (some zlJ)),(.pointer (some zlM))]),(.slice zfO z1z.length zfP)])
  (h : y1P zI z4i s0_30244 z4D zcU zfN zcV z1z = some r)
  (hown : Hp (fps [z1L z7L s0_30244]) w₀ w₀ [z1L z7L s0_30244]) :
  Calls Try.prog 69 #[(.func (.yield z84) #[] #[]),(.pointer (some z98))] w₀ fun e w'=>∃ Zn : Zp,∃ zpO : z2O,e = .returned (.tuple #[]) ∧ (z85 zpO r) ∧ Hp (fps [z1L z7L s0_30244]) w₀ w' [fz Zn,z1L zpO r]:=by
 unfold y1P at h
 refine Calls.yg (vs:=[(.func (.yield z84) #[] #[]),(.pointer (some z98))]) (pre:=[z1L z7L s0_30244]) (env:=[(0,(.func (.yield z84) #[] #[])),(1,(.pointer (some z98)))]) Try.func69 rfl Try.ntmps69 rfl (hown) rfl ?_
 refine WC.pool ?_
 refine WC.b ?_
 refine WC.b ?_
 obtain ⟨zhK,zw9,h⟩:=zb h
 obtain ⟨zcW,zwa,h⟩:=zb h
 refine WC.a ?_
 refine WL.a (d:=11) rfl rfl rfl (q_m rfl) ?_
 refine WL.b (dd:=12) rfl rfl rfl (zl (l:=[]) Try.call51 .nil) (.nil : Sel [fz [],z1L z7L s0_30244] [] [fz [],z1L z7L s0_30244]) (fun w hw=>by have pz:=(hz.call2 hw (.nil : Sel [fz [],z1L z7L s0_30244] [] [fz [],z1L z7L s0_30244]) .here); exact y2v (Z:=_)   (r:=zhK) w pz  zw9) ?_
 refine WL.yield (dd:=13) (x:=zhK) (h:=()) (g:=z7L) (s:=s0_30244) (b:=zcW.1) (s':=zcW.2) zfQ rfl rfl rfl (.cons rfl .nil) ((.cons .h1 .nil) : Sel _ [z1L z7L s0_30244] _) zwa zw6 (fun w hw=>hz.call hw ((.cons .h1 .nil) : Sel _ [z1L z7L s0_30244] _)) ?_
 intro zpP zpQ
 refine WL.a (d:=14) rfl rfl rfl (y1n rfl) ?_
 refine WL.nil ?_
 refine WX.a ?_
 refine WC.cond rfl (fun zlN=>?_) (fun zlN=>?_)
 ·replace h:=yj h zlN
  refine WC.ret ?_
  refine WX.y8 ?_
  obtain rfl:=Option.some.inj h
  refine WX.y9 Try.results69 .nil (fun w hw=>?_)
  exact ⟨[],zpP,y5r,zpQ,hw.sub (.cons .h1 (.cons .here .nil))⟩
 ·replace h:=yk h zlN
  refine WC.skip ?_
  refine WX.a ?_
  obtain ⟨zaG,zwb,h⟩:=y1r h
  refine WC.y2M (fun (z9H : zI) (z4j : Zp) (zeb : z2O)=>(zaG z9H = some r) ∧ (Zle (Z ++ []) (Z ++ z4j)) ∧ (z85 zeb z9H)) (fun (z9H : zI) (z4j : Zp) (zeb : z2O)=>[(0,(.func (.yield z84) #[] #[])),(1,(.pointer (some z98)))]) (fun (z9H : zI) (z4j : Zp) (zeb : z2O)=>[fz z4j,z1L zeb z9H]) ?_ ?_
  ·skip
   refine WC.b ?_
   refine WC.a ?_
   refine WL.a (d:=15) rfl rfl rfl (y4 y4I rfl rfl) ?_
   refine WL.a (d:=16) rfl rfl rfl (ye y3a rfl (y1O (hz.pv2 .h1) (zpN.mono (Zle.left _ _)) rfl)) ?_
   refine WL.a (d:=17) rfl rfl rfl (y1k Try.underlying26 rfl) ?_
   refine WL.a (d:=18) rfl rfl rfl (q_m rfl) ?_
   refine WL.nil ?_
   refine WX.a ?_
   refine WC.block ?_
   refine WC.y64 (fun (zec : Nat) (z5H : Int) (z6p : zI) (z3s : Zp) (z8A : z2O)=>(yz zI z4D z4i zaG zec z5H z6p = some r) ∧ (Zle (Z ++ []) (Z ++ z3s)) ∧ (z85 z8A z6p)) (fun (zec : Nat) (z5H : Int) (z6p : zI) (z3s : Zp) (z8A : z2O)=>[(0,(.func (.yield z84) #[] #[])),(1,(.pointer (some z98))),(16,(.slice zbA z4D.length zbB)),(17,(.int .i64 ((z4D.length : Nat) : Int))),(18,(.int .i64 z5H))]) (fun (zec : Nat) (z5H : Int) (z6p : zI) (z3s : Zp) (z8A : z2O)=>[fz z3s,z1L z8A z6p]) (fun (zec : Nat) (z5H : Int) (z6p : zI) (z3s : Zp) (z8A : z2O)=>zec) ⟨yw,0,zcW.2,[],zpP⟩ ⟨h,(Zle.refl _),zpQ⟩ (.cons rfl (.cons rfl (.cons rfl (.cons rfl (.cons rfl .nil))))) (.cons .h1 (.cons .here .nil)) ?_
   rintro zec z5H z6p z3s z8A ⟨h,zhL,zpR⟩
   obtain ⟨zlG,rfl⟩:=y4l h
   rw [yz] at h
   refine WC.b ?_
   refine WC.a ?_
   refine WL.a (d:=19) rfl rfl rfl (y1h rfl rfl) ?_
   refine WL.nil ?_
   refine WX.a ?_
   refine WC.b ?_
   refine WC.cond rfl (fun zlO=>?_) (fun zlO=>?_)
   ·replace h:=yj h zlO
    refine WC.skip ?_
    refine WX.a ?_
    obtain ⟨zlH,zwc,h⟩:=y1r h
    refine WC.y2M (fun (z9F : zI) (zed : Zp) (zee : z2O)=>(zlH z9F = some r) ∧ (Zle (Z ++ z3s) (Z ++ zed)) ∧ (z85 zee z9F)) (fun (z9F : zI) (zed : Zp) (zee : z2O)=>[(0,(.func (.yield z84) #[] #[])),(1,(.pointer (some z98))),(16,(.slice zbA z4D.length zbB)),(17,(.int .i64 ((z4D.length : Nat) : Int))),(18,(.int .i64 z5H))]) (fun (z9F : zI) (zed : Zp) (zee : z2O)=>[fz zed,z1L zee z9F]) ?_ ?_
    ·skip
     refine WC.block ?_
     refine WC.b ?_
     obtain ⟨zwd,h⟩:=yp h
     refine WC.a ?_
     refine WL.znth (dd:=20) rfl rfl (Z:=(Z ++ z3s)) (Pr:=(p39 (Z ++ z3s))) y32 rfl rfl ((zw7.mono ((Zle.left _ _).trans zhL)).weak (fun _ _ h=>yG ((Zle.left _ _).trans zhL) h)) zwd ?_
     rintro zB1 zB2 zwe zB3 ⟨zwf,zwg,rfl,zwh⟩
     refine WL.a (d:=21) rfl rfl rfl (ye y3b rfl (y3Z (hz.pv2 .here) zwe rfl)) ?_
     refine WL.a (d:=4) rfl rfl rfl (q_z rfl) ?_
     refine WL.nil ?_
     refine WX.a ?_
     refine WC.b ?_
     obtain ⟨zK,zwi,h⟩:=zb h
     refine WC.a ?_
     refine WL.a (d:=23) rfl rfl rfl (q_m rfl) ?_
     refine WL.y6t (dd:=24) rfl rfl rfl (zl (l:=[.tmp 23]) Try.call68 (.cons rfl .nil)) (.nil : Sel [fz z3s,z1L z8A z6p] [] [fz z3s,z1L z8A z6p]) (fun w hw=>by have pz:=(hz.call2 hw (.nil : Sel [fz z3s,z1L z8A z6p] [] [fz z3s,z1L z8A z6p]) .here); exact y4j (Z:=_) (z9n:=zwf) (z9o:=zwg) (z7E:=(nth z4D z5H)) (r:=zK) w pz zwh zwi) ?_
     rintro z5A zwj zwk _
     refine WL.merge .here .h1 ?_
     refine WL.a (d:=22) rfl rfl rfl (q_m rfl) ?_
     refine WL.a (d:=25) rfl rfl rfl (yb rfl rfl) ?_
     refine WL.a (d:=26) rfl rfl rfl (yb rfl rfl) ?_
     refine WL.a (d:=5) rfl rfl rfl (q_z rfl) ?_
     refine WL.a (d:=6) rfl rfl rfl (q_z rfl) ?_
     refine WL.nil ?_
     refine WX.a ?_
     refine WC.b ?_
     refine WC.a ?_
     refine WL.a (d:=27) rfl rfl rfl (q_m rfl) ?_
     refine WL.a (d:=28) rfl rfl rfl (y1k Try.underlying77 rfl) ?_
     refine WL.a (d:=29) rfl rfl rfl (q_m rfl) ?_
     refine WL.nil ?_
     refine WX.a ?_
     obtain ⟨zaF,zwl,h⟩:=y1r h
     refine WC.y5V (fun (z9G : zI) (zef : z2O)=>(zaF z9G = some r) ∧ (z85 zef z9G)) (fun (z9G : zI) (zef : z2O)=>[(0,(.func (.yield z84) #[] #[])),(1,(.pointer (some z98))),(16,(.slice zbA z4D.length zbB)),(17,(.int .i64 ((z4D.length : Nat) : Int))),(18,(.int .i64 z5H))]) (fun (z9G : zI) (zef : z2O)=>[fz (z3s ++ z5A),z1L zef z9G]) ?_ ?_
     ·skip
      refine WC.block ?_
      refine WC.y4B (fun (zeg : Nat) (z1J : Int) (z4T : zI) (zeh : Option Addr) (z4E : Nat) (z6r : z2O)=>(yy zI zK z4i zaF zeg z1J z4T = some r) ∧ (z85 z6r z4T)) (fun (zeg : Nat) (z1J : Int) (z4T : zI) (zeh : Option Addr) (z4E : Nat) (z6r : z2O)=>[(0,(.func (.yield z84) #[] #[])),(1,(.pointer (some z98))),(16,(.slice zbA z4D.length zbB)),(17,(.int .i64 ((z4D.length : Nat) : Int))),(18,(.int .i64 z5H)),(27,(.slice zeh zK.1.length z4E)),(28,(.int .i64 ((zK.1.length : Nat) : Int))),(29,(.int .i64 z1J))]) (fun (zeg : Nat) (z1J : Int) (z4T : zI) (zeh : Option Addr) (z4E : Nat) (z6r : z2O)=>[fz (z3s ++ z5A),row (.slice zeh zK.1.length z4E) 30 2 (zK.1.flatMap e30),z1L z6r z4T]) (fun (zeg : Nat) (z1J : Int) (z4T : zI) (zeh : Option Addr) (z4E : Nat) (z6r : z2O)=>zeg) ⟨yw,0,z6p,zwj,zwk,z8A⟩ ⟨h,zpR⟩ (.cons rfl (.cons rfl (.cons rfl (.cons rfl (.cons rfl (.cons rfl (.cons rfl (.cons rfl .nil)))))))) (.cons .here (.cons .here (.cons .here .nil))) ?_
      rintro zeg z1J z4T zeh z4E z6r ⟨h,zpS⟩
      obtain ⟨zlF,rfl⟩:=y4k h
      rw [yy] at h
      refine WC.b ?_
      refine WC.a ?_
      refine WL.a (d:=30) rfl rfl rfl (y1h rfl rfl) ?_
      refine WL.nil ?_
      refine WX.a ?_
      refine WC.b ?_
      refine WC.cond rfl (fun zlP=>?_) (fun zlP=>?_)
      ·replace h:=yj h zlP
       refine WC.skip ?_
       refine WX.a ?_
       refine WC.b ?_
       refine WC.block ?_
       refine WC.b ?_
       obtain ⟨zfR,h⟩:=yp h
       refine WC.a ?_
       refine WL.know (fun w hw=>Hp.y49 .h1 hw (by intro hz'; have:=zfR; rw [hz'] at this; omega)) ?_
       rintro ⟨z5W,rfl⟩
       refine WL.a (d:=31) rfl rfl rfl (y1y y1H rfl rfl zfR.1 zfR.2 y4v) ?_
       refine WL.a (d:=32) rfl rfl rfl (y6 (cs:=(e30 (nth zK.1 z1J))) y5 rfl rfl (y3v .h1 (y3w (enc:=e30) (l:=zK.1) (i:=z1J) (sz:=2) (fun _=>rfl) zfR.1 zfR.2))) ?_
       refine WL.new (dd:=8) rfl rfl rfl (yh (cs:=[(.int .i64 0),(.int .i64 0)]) yo rfl) ?_
       intro z6N _
       refine WL.yc rfl rfl (yd (vs:=[(.int .i64 ((nth zK.1 z1J).fN)),(.int .i64 ((nth zK.1 z1J).fD))]) (ds:=[(.int .i64 ((nth zK.1 z1J).fN)),(.int .i64 ((nth zK.1 z1J).fD))]) yl rfl rfl rfl rfl (y3 rfl (y3 rfl yf)) .here (Nat.le_of_ble_eq_true rfl) rfl) ?_
       refine WL.nil ?_
       refine WX.a ?_
       refine WC.b ?_
       obtain ⟨zhC,zwm,h⟩:=zb h
       obtain ⟨zhD,zwn,h⟩:=zb h
       obtain ⟨z6o,zwo,h⟩:=zb h
       obtain ⟨zby,zpT,h⟩:=zb h
       refine WC.a ?_
       refine WL.a (d:=33) rfl rfl rfl (q_m rfl) ?_
       refine WL.a (d:=34) rfl rfl rfl (y6 (cs:=[(.int .i64 ((nth zK.1 z1J).fN)),(.int .i64 ((nth zK.1 z1J).fD))]) y5 rfl rfl (y7 .here)) ?_
       refine WL.b (dd:=35) rfl rfl rfl (zl (l:=[.tmp 34]) Try.call70 (.cons rfl .nil)) (.nil : Sel [stb z6N 30 [(.int .i64 ((nth zK.1 z1J).fN)),(.int .i64 ((nth zK.1 z1J).fD))],fz (z3s ++ z5A),row (.slice (some ⟨z5W,0,none⟩) zK.1.length z4E) 30 2 (zK.1.flatMap e30),z1L z6r z4T] [] [stb z6N 30 [(.int .i64 ((nth zK.1 z1J).fN)),(.int .i64 ((nth zK.1 z1J).fD))],fz (z3s ++ z5A),row (.slice (some ⟨z5W,0,none⟩) zK.1.length z4E) 30 2 (zK.1.flatMap e30),z1L z6r z4T]) (fun w hw=>by have pz:=(hz.call2 hw (.nil : Sel [stb z6N 30 [(.int .i64 ((nth zK.1 z1J).fN)),(.int .i64 ((nth zK.1 z1J).fD))],fz (z3s ++ z5A),row (.slice (some ⟨z5W,0,none⟩) zK.1.length z4E) 30 2 (zK.1.flatMap e30),z1L z6r z4T] [] [stb z6N 30 [(.int .i64 ((nth zK.1 z1J).fN)),(.int .i64 ((nth zK.1 z1J).fD))],fz (z3s ++ z5A),row (.slice (some ⟨z5W,0,none⟩) zK.1.length z4E) 30 2 (zK.1.flatMap e30),z1L z6r z4T]) .h1); exact y4x (Z:=_)  (z3d:=(⟨((nth zK.1 z1J).fN),((nth zK.1 z1J).fD)⟩ : z2)) (r:=zhC) w pz  zwm) ?_
       refine WL.b (dd:=36) rfl rfl rfl (zl (l:=[.tmp 35]) Try.call65 (.cons rfl .nil)) (.nil : Sel [stb z6N 30 [(.int .i64 ((nth zK.1 z1J).fN)),(.int .i64 ((nth zK.1 z1J).fD))],fz (z3s ++ z5A),row (.slice (some ⟨z5W,0,none⟩) zK.1.length z4E) 30 2 (zK.1.flatMap e30),z1L z6r z4T] [] [stb z6N 30 [(.int .i64 ((nth zK.1 z1J).fN)),(.int .i64 ((nth zK.1 z1J).fD))],fz (z3s ++ z5A),row (.slice (some ⟨z5W,0,none⟩) zK.1.length z4E) 30 2 (zK.1.flatMap e30),z1L z6r z4T]) (fun w hw=>by have pz:=(hz.call2 hw (.nil : Sel [stb z6N 30 [(.int .i64 ((nth zK.1 z1J).fN)),(.int .i64 ((nth zK.1 z1J).fD))],fz (z3s ++ z5A),row (.slice (some ⟨z5W,0,none⟩) zK.1.length z4E) 30 2 (zK.1.flatMap e30),z1L z6r z4T] [] [stb z6N 30 [(.int .i64 ((nth zK.1 z1J).fN)),(.int .i64 ((nth zK.1 z1J).fD))],fz (z3s ++ z5A),row (.slice (some ⟨z5W,0,none⟩) zK.1.length z4E) 30 2 (zK.1.flatMap e30),z1L z6r z4T]) .h1); exact y1S (Z:=_)  (z65:=zhC) (r:=zhD) w pz  zwn) ?_
       refine WL.yield (dd:=37) (x:=zhD) (h:=()) (g:=z6r) (s:=z4T) (b:=z6o.1) (s':=z6o.2) zfQ rfl rfl rfl (.cons rfl .nil) ((.cons .h3 .nil) : Sel _ [z1L z6r z4T] _) zwo zpS (fun w hw=>hz.call hw ((.cons .h3 .nil) : Sel _ [z1L z6r z4T] _)) ?_
       intro z8B zpU
       refine WL.a (d:=38) rfl rfl rfl (y1n rfl) ?_
       refine WL.a (d:=39) rfl rfl rfl (q_m rfl) ?_
       refine WL.y5R (fun (zcX : z2O)=>z85 zcX zby.2) (fun (zcX : z2O)=>[(0,(.func (.yield z84) #[] #[])),(1,(.pointer (some z98))),(16,(.slice zbA z4D.length zbB)),(17,(.int .i64 ((z4D.length : Nat) : Int))),(18,(.int .i64 z5H)),(27,(.slice (some ⟨z5W,0,none⟩) zK.1.length z4E)),(28,(.int .i64 ((zK.1.length : Nat) : Int))),(29,(.int .i64 z1J)),(46,(.bool zby.1))]) (fun (zcX : z2O)=>[z1L zcX zby.2,stb z6N 30 [(.int .i64 ((nth zK.1 z1J).fN)),(.int .i64 ((nth zK.1 z1J).fD))],fz (z3s ++ z5A),row (.slice (some ⟨z5W,0,none⟩) zK.1.length z4E) 30 2 (zK.1.flatMap e30)]) 7 ?_ (fun zcX zpV=>?_)
       ·rcases Bool.eq_false_or_eq_true (!z6o.1) with hb' | hb'
        ·have zpW:=hb'; clear hb'
         have zlQ:=yj zpT zpW
         replace zlQ:=Option.some.inj zlQ
         refine WL.pin (i:=39) rfl zpW ?_
         refine WL.e rfl rfl rfl ?_
         refine WL.e rfl rfl rfl ?_
         refine WL.e rfl rfl rfl ?_
         refine WL.e rfl rfl rfl ?_
         refine WL.e rfl rfl rfl ?_
         refine WL.e rfl rfl rfl ?_
         refine WL.a (d:=46) rfl rfl rfl (ys rfl rfl) ?_
         subst zlQ
         exact WL.ya z8B zpU (.cons rfl (.cons rfl (.cons rfl (.cons rfl (.cons rfl (.cons rfl (.cons rfl (.cons rfl (.cons rfl .nil))))))))) (.cons .here (.cons .here (.cons .here (.cons .here .nil))))
        ·have zpX:=hb'; clear hb'
         have zaJ:=yk zpT zpX
         obtain ⟨zhE,zwp,zaJ⟩:=zb zaJ
         obtain ⟨zhF,zwq,zaJ⟩:=zb zaJ
         obtain ⟨zfL,zwr,zaJ⟩:=zb zaJ
         replace zaJ:=Option.some.inj zaJ
         refine WL.pin (i:=39) rfl zpX ?_
         refine WL.a (d:=40) rfl rfl rfl (q_m rfl) ?_
         refine WL.a (d:=41) rfl rfl rfl (y6 (cs:=[(.int .i64 ((nth zK.1 z1J).fN)),(.int .i64 ((nth zK.1 z1J).fD))]) y5 rfl rfl (y7 .h1)) ?_
         refine WL.b (dd:=42) rfl rfl rfl (zl (l:=[.tmp 41]) Try.call71 (.cons rfl .nil)) (.nil : Sel [z1L z8B z6o.2,stb z6N 30 [(.int .i64 ((nth zK.1 z1J).fN)),(.int .i64 ((nth zK.1 z1J).fD))],fz (z3s ++ z5A),row (.slice (some ⟨z5W,0,none⟩) zK.1.length z4E) 30 2 (zK.1.flatMap e30)] [] [z1L z8B z6o.2,stb z6N 30 [(.int .i64 ((nth zK.1 z1J).fN)),(.int .i64 ((nth zK.1 z1J).fD))],fz (z3s ++ z5A),row (.slice (some ⟨z5W,0,none⟩) zK.1.length z4E) 30 2 (zK.1.flatMap e30)]) (fun w hw=>by have pz:=(hz.call2 hw (.nil : Sel [z1L z8B z6o.2,stb z6N 30 [(.int .i64 ((nth zK.1 z1J).fN)),(.int .i64 ((nth zK.1 z1J).fD))],fz (z3s ++ z5A),row (.slice (some ⟨z5W,0,none⟩) zK.1.length z4E) 30 2 (zK.1.flatMap e30)] [] [z1L z8B z6o.2,stb z6N 30 [(.int .i64 ((nth zK.1 z1J).fN)),(.int .i64 ((nth zK.1 z1J).fD))],fz (z3s ++ z5A),row (.slice (some ⟨z5W,0,none⟩) zK.1.length z4E) 30 2 (zK.1.flatMap e30)]) .h2); exact y5I (Z:=_)  (z32:=(⟨((nth zK.1 z1J).fN),((nth zK.1 z1J).fD)⟩ : z2)) (r:=zhE) w pz  zwp) ?_
         refine WL.b (dd:=43) rfl rfl rfl (zl (l:=[.tmp 42]) Try.call65 (.cons rfl .nil)) (.nil : Sel [z1L z8B z6o.2,stb z6N 30 [(.int .i64 ((nth zK.1 z1J).fN)),(.int .i64 ((nth zK.1 z1J).fD))],fz (z3s ++ z5A),row (.slice (some ⟨z5W,0,none⟩) zK.1.length z4E) 30 2 (zK.1.flatMap e30)] [] [z1L z8B z6o.2,stb z6N 30 [(.int .i64 ((nth zK.1 z1J).fN)),(.int .i64 ((nth zK.1 z1J).fD))],fz (z3s ++ z5A),row (.slice (some ⟨z5W,0,none⟩) zK.1.length z4E) 30 2 (zK.1.flatMap e30)]) (fun w hw=>by have pz:=(hz.call2 hw (.nil : Sel [z1L z8B z6o.2,stb z6N 30 [(.int .i64 ((nth zK.1 z1J).fN)),(.int .i64 ((nth zK.1 z1J).fD))],fz (z3s ++ z5A),row (.slice (some ⟨z5W,0,none⟩) zK.1.length z4E) 30 2 (zK.1.flatMap e30)] [] [z1L z8B z6o.2,stb z6N 30 [(.int .i64 ((nth zK.1 z1J).fN)),(.int .i64 ((nth zK.1 z1J).fD))],fz (z3s ++ z5A),row (.slice (some ⟨z5W,0,none⟩) zK.1.length z4E) 30 2 (zK.1.flatMap e30)]) .h2); exact y1S (Z:=_)  (z65:=zhE) (r:=zhF) w pz  zwq) ?_
         refine WL.yield (dd:=44) (x:=zhF) (h:=()) (g:=z8B) (s:=z6o.2) (b:=zfL.1) (s':=zfL.2) zfQ rfl rfl rfl (.cons rfl .nil) ((.cons .here .nil) : Sel _ [z1L z8B z6o.2] _) zwr zpU (fun w hw=>hz.call hw ((.cons .here .nil) : Sel _ [z1L z8B z6o.2] _)) ?_
         intro zws zwt
         refine WL.a (d:=45) rfl rfl rfl (y1n rfl) ?_
         refine WL.a (d:=46) rfl rfl rfl (yr rfl rfl) ?_
         subst zaJ
         exact WL.ya zws zwt (.cons rfl (.cons rfl (.cons rfl (.cons rfl (.cons rfl (.cons rfl (.cons rfl (.cons rfl (.cons rfl .nil))))))))) (.cons .here (.cons .here (.cons .here (.cons .here .nil))))
       ·skip
        refine WL.nil ?_
        refine WX.a ?_
        refine WC.cond rfl (fun zlR=>?_) (fun zlR=>?_)
        ·replace h:=yj h zlR
         refine WC.ret ?_
         refine WX.yt ?_
         refine WX.y8 ?_
         refine WX.y8 ?_
         refine WX.yt ?_
         refine WX.y8 ?_
         refine WX.yt ?_
         refine WX.y8 ?_
         refine WX.y8 ?_
         refine WX.yt ?_
         refine WX.y8 ?_
         obtain rfl:=Option.some.inj h
         refine WX.y9 Try.results69 .nil (fun w hw=>?_)
         exact ⟨(z3s ++ z5A),zcX,y5r,zpV,hw.sub (.cons .h2 (.cons .here .nil))⟩
        ·replace h:=yk h zlR
         refine WC.skip ?_
         refine WX.yn ?_
         refine WX.a ?_
         refine WC.a ?_
         refine WL.a (d:=47) rfl rfl rfl (y1d rfl rfl rfl) ?_
         refine WL.a (d:=29) rfl rfl rfl (q_m rfl) ?_
         refine WL.nil ?_
         exact WX.round (G:=Nat × Int × zI × Option Addr × Nat × z2O) ⟨zlF,(i64 (z1J + 1)),zby.2,(some ⟨z5W,0,none⟩),z4E,zcX⟩ ⟨h,zpV⟩ (Nat.lt_succ_self _) (.cons rfl (.cons rfl (.cons rfl (.cons rfl (.cons rfl (.cons rfl (.cons rfl (.cons rfl .nil)))))))) (.cons .h2 (.cons .h2 (.cons .here .nil)))
      ·replace h:=yk h zlP
       refine WC.exit ?_
       refine WX.ym ?_
       refine WX.ym ?_
       refine WX.yH ?_
       exact WX.mid (G:=zI × z2O) ⟨z4T,z6r⟩ ⟨h,zpS⟩ (.cons rfl (.cons rfl (.cons rfl (.cons rfl (.cons rfl .nil))))) (.cons .here (.cons .h1 .nil))
     ·rintro z9G zef ⟨h,zwu⟩
      replace h:=(zwl z9G).symm.trans h
      refine WX.yn ?_
      exact WX.mid (G:=zI × Zp × z2O) ⟨z9G,(z3s ++ z5A),zef⟩ ⟨h,((Zle.left _ _).trans (Zle.yi _ _ _)),zwu⟩ (.cons rfl (.cons rfl (.cons rfl (.cons rfl (.cons rfl .nil))))) (.cons .here (.cons .here .nil))
    ·rintro z9F zed zee ⟨h,zwv,zww⟩
     replace h:=(zwc z9F).symm.trans h
     refine WC.a ?_
     refine WL.a (d:=48) rfl rfl rfl (y1d rfl rfl rfl) ?_
     refine WL.a (d:=18) rfl rfl rfl (q_m rfl) ?_
     refine WL.nil ?_
     exact WX.round (G:=Nat × Int × zI × Zp × z2O) ⟨zlG,(i64 (z5H + 1)),z9F,zed,zee⟩ ⟨h,(zhL.trans zwv),zww⟩ (Nat.lt_succ_self _) (.cons rfl (.cons rfl (.cons rfl (.cons rfl (.cons rfl .nil))))) (.cons .here (.cons .here .nil))
   ·replace h:=yk h zlO
    refine WC.exit ?_
    refine WX.ym ?_
    refine WX.ym ?_
    refine WX.yH ?_
    exact WX.mid (G:=zI × Zp × z2O) ⟨z6p,z3s,z8A⟩ ⟨h,zhL,zpR⟩ (.cons rfl (.cons rfl .nil)) (.cons .here (.cons .here .nil))
  ·rintro z9H z4j zeb ⟨h,zpY,zwx⟩
   replace h:=(zwb z9H).symm.trans h
   refine WC.b ?_
   refine WC.a ?_
   refine WL.a (d:=49) rfl rfl rfl (y4 y9D rfl rfl) ?_
   refine WL.a (d:=50) rfl rfl rfl (ye y3y rfl (y1O (hz.pv2 .here) (zpN.mono ((Zle.left _ _).trans zpY)) rfl)) ?_
   refine WL.a (d:=51) rfl rfl rfl (y1k Try.underlying77 rfl) ?_
   refine WL.a (d:=52) rfl rfl rfl (q_m rfl) ?_
   refine WL.nil ?_
   refine WX.a ?_
   obtain ⟨zaH,zwy,h⟩:=y1r h
   refine WC.y5V (fun (zaI : zI) (zei : z2O)=>(zaH zaI = some r) ∧ (z85 zei zaI)) (fun (zaI : zI) (zei : z2O)=>[]) (fun (zaI : zI) (zei : z2O)=>[fz z4j,z1L zei zaI]) ?_ ?_
   ·skip
    refine WC.block ?_
    refine WC.y48 (fun (zej : Nat) (z1K : Int) (z4U : zI) (z6s : z2O)=>(yJ zI z1z z4i zaH zej z1K z4U = some r) ∧ (z85 z6s z4U)) (fun (zej : Nat) (z1K : Int) (z4U : zI) (z6s : z2O)=>[(0,(.func (.yield z84) #[] #[])),(50,(.slice zfO z1z.length zfP)),(51,(.int .i64 ((z1z.length : Nat) : Int))),(52,(.int .i64 z1K))]) (fun (zej : Nat) (z1K : Int) (z4U : zI) (z6s : z2O)=>[fz z4j,z1L z6s z4U]) (fun (zej : Nat) (z1K : Int) (z4U : zI) (z6s : z2O)=>zej) ⟨yw,0,z9H,zeb⟩ ⟨h,zwx⟩ (.cons rfl (.cons rfl (.cons rfl (.cons rfl .nil)))) (.cons .here (.cons .here .nil)) ?_
    rintro zej z1K z4U z6s ⟨h,zpZ⟩
    obtain ⟨zlI,rfl⟩:=y4m h
    rw [yJ] at h
    refine WC.b ?_
    refine WC.a ?_
    refine WL.a (d:=53) rfl rfl rfl (y1h rfl rfl) ?_
    refine WL.nil ?_
    refine WX.a ?_
    refine WC.b ?_
    refine WC.cond rfl (fun zlS=>?_) (fun zlS=>?_)
    ·replace h:=yj h zlS
     refine WC.skip ?_
     refine WX.a ?_
     refine WC.b ?_
     refine WC.block ?_
     refine WC.b ?_
     obtain ⟨zwz,h⟩:=yp h
     refine WC.a ?_
     refine WL.znth (dd:=54) rfl rfl (Z:=(Z ++ z4j)) (Pr:=(fun r x=>r = e30 x)) y1H rfl rfl (zw8.mono ((Zle.left _ _).trans zpY)) zwz ?_
     rintro zB4 zB5 zwA zB6 rfl
     refine WL.a (d:=55) rfl rfl rfl (y6 (cs:=[(.int .i64 ((nth z1z z1K).fN)),(.int .i64 ((nth z1z z1K).fD))]) y5 rfl rfl (y2T (hz.pv2 .here) zwA)) ?_
     refine WL.new (dd:=10) rfl rfl rfl (yh (cs:=[(.int .i64 0),(.int .i64 0)]) yo rfl) ?_
     intro z6O _
     refine WL.yc rfl rfl (yd (vs:=[(.int .i64 ((nth z1z z1K).fN)),(.int .i64 ((nth z1z z1K).fD))]) (ds:=[(.int .i64 ((nth z1z z1K).fN)),(.int .i64 ((nth z1z z1K).fD))]) yl rfl rfl rfl rfl (y3 rfl (y3 rfl yf)) .here (Nat.le_of_ble_eq_true rfl) rfl) ?_
     refine WL.nil ?_
     refine WX.a ?_
     refine WC.b ?_
     obtain ⟨zhG,zwB,h⟩:=zb h
     obtain ⟨zhH,zwC,h⟩:=zb h
     obtain ⟨z6q,zwD,h⟩:=zb h
     obtain ⟨zbz,zq0,h⟩:=zb h
     refine WC.a ?_
     refine WL.a (d:=56) rfl rfl rfl (q_m rfl) ?_
     refine WL.a (d:=57) rfl rfl rfl (y6 (cs:=[(.int .i64 ((nth z1z z1K).fN)),(.int .i64 ((nth z1z z1K).fD))]) y5 rfl rfl (y7 .here)) ?_
     refine WL.b (dd:=58) rfl rfl rfl (zl (l:=[.tmp 57]) Try.call70 (.cons rfl .nil)) (.nil : Sel [stb z6O 30 [(.int .i64 ((nth z1z z1K).fN)),(.int .i64 ((nth z1z z1K).fD))],fz z4j,z1L z6s z4U] [] [stb z6O 30 [(.int .i64 ((nth z1z z1K).fN)),(.int .i64 ((nth z1z z1K).fD))],fz z4j,z1L z6s z4U]) (fun w hw=>by have pz:=(hz.call2 hw (.nil : Sel [stb z6O 30 [(.int .i64 ((nth z1z z1K).fN)),(.int .i64 ((nth z1z z1K).fD))],fz z4j,z1L z6s z4U] [] [stb z6O 30 [(.int .i64 ((nth z1z z1K).fN)),(.int .i64 ((nth z1z z1K).fD))],fz z4j,z1L z6s z4U]) .h1); exact y4x (Z:=_)  (z3d:=(⟨((nth z1z z1K).fN),((nth z1z z1K).fD)⟩ : z2)) (r:=zhG) w pz  zwB) ?_
     refine WL.b (dd:=59) rfl rfl rfl (zl (l:=[.tmp 58]) Try.call65 (.cons rfl .nil)) (.nil : Sel [stb z6O 30 [(.int .i64 ((nth z1z z1K).fN)),(.int .i64 ((nth z1z z1K).fD))],fz z4j,z1L z6s z4U] [] [stb z6O 30 [(.int .i64 ((nth z1z z1K).fN)),(.int .i64 ((nth z1z z1K).fD))],fz z4j,z1L z6s z4U]) (fun w hw=>by have pz:=(hz.call2 hw (.nil : Sel [stb z6O 30 [(.int .i64 ((nth z1z z1K).fN)),(.int .i64 ((nth z1z z1K).fD))],fz z4j,z1L z6s z4U] [] [stb z6O 30 [(.int .i64 ((nth z1z z1K).fN)),(.int .i64 ((nth z1z z1K).fD))],fz z4j,z1L z6s z4U]) .h1); exact y1S (Z:=_)  (z65:=zhG) (r:=zhH) w pz  zwC) ?_
     refine WL.yield (dd:=60) (x:=zhH) (h:=()) (g:=z6s) (s:=z4U) (b:=z6q.1) (s':=z6q.2) zfQ rfl rfl rfl (.cons rfl .nil) ((.cons .h2 .nil) : Sel _ [z1L z6s z4U] _) zwD zpZ (fun w hw=>hz.call hw ((.cons .h2 .nil) : Sel _ [z1L z6s z4U] _)) ?_
     intro z8C zq1
     refine WL.a (d:=61) rfl rfl rfl (y1n rfl) ?_
     refine WL.a (d:=62) rfl rfl rfl (q_m rfl) ?_
     refine WL.y5R (fun (zcY : z2O)=>z85 zcY zbz.2) (fun (zcY : z2O)=>[(0,(.func (.yield z84) #[] #[])),(50,(.slice zfO z1z.length zfP)),(51,(.int .i64 ((z1z.length : Nat) : Int))),(52,(.int .i64 z1K)),(69,(.bool zbz.1))]) (fun (zcY : z2O)=>[z1L zcY zbz.2,stb z6O 30 [(.int .i64 ((nth z1z z1K).fN)),(.int .i64 ((nth z1z z1K).fD))],fz z4j]) 7 ?_ (fun zcY zq2=>?_)
     ·rcases Bool.eq_false_or_eq_true (!z6q.1) with hb' | hb'
      ·have zq3:=hb'; clear hb'
       have zlT:=yj zq0 zq3
       replace zlT:=Option.some.inj zlT
       refine WL.pin (i:=62) rfl zq3 ?_
       refine WL.e rfl rfl rfl ?_
       refine WL.e rfl rfl rfl ?_
       refine WL.e rfl rfl rfl ?_
       refine WL.e rfl rfl rfl ?_
       refine WL.e rfl rfl rfl ?_
       refine WL.e rfl rfl rfl ?_
       refine WL.a (d:=69) rfl rfl rfl (ys rfl rfl) ?_
       subst zlT
       exact WL.ya z8C zq1 (.cons rfl (.cons rfl (.cons rfl (.cons rfl (.cons rfl .nil))))) (.cons .here (.cons .here (.cons .here .nil)))
      ·have zq4:=hb'; clear hb'
       have zaK:=yk zq0 zq4
       obtain ⟨zhI,zwE,zaK⟩:=zb zaK
       obtain ⟨zhJ,zwF,zaK⟩:=zb zaK
       obtain ⟨zfM,zwG,zaK⟩:=zb zaK
       replace zaK:=Option.some.inj zaK
       refine WL.pin (i:=62) rfl zq4 ?_
       refine WL.a (d:=63) rfl rfl rfl (q_m rfl) ?_
       refine WL.a (d:=64) rfl rfl rfl (y6 (cs:=[(.int .i64 ((nth z1z z1K).fN)),(.int .i64 ((nth z1z z1K).fD))]) y5 rfl rfl (y7 .h1)) ?_
       refine WL.b (dd:=65) rfl rfl rfl (zl (l:=[.tmp 64]) Try.call71 (.cons rfl .nil)) (.nil : Sel [z1L z8C z6q.2,stb z6O 30 [(.int .i64 ((nth z1z z1K).fN)),(.int .i64 ((nth z1z z1K).fD))],fz z4j] [] [z1L z8C z6q.2,stb z6O 30 [(.int .i64 ((nth z1z z1K).fN)),(.int .i64 ((nth z1z z1K).fD))],fz z4j]) (fun w hw=>by have pz:=(hz.call2 hw (.nil : Sel [z1L z8C z6q.2,stb z6O 30 [(.int .i64 ((nth z1z z1K).fN)),(.int .i64 ((nth z1z z1K).fD))],fz z4j] [] [z1L z8C z6q.2,stb z6O 30 [(.int .i64 ((nth z1z z1K).fN)),(.int .i64 ((nth z1z z1K).fD))],fz z4j]) .h2); exact y5I (Z:=_)  (z32:=(⟨((nth z1z z1K).fN),((nth z1z z1K).fD)⟩ : z2)) (r:=zhI) w pz  zwE) ?_
       refine WL.b (dd:=66) rfl rfl rfl (zl (l:=[.tmp 65]) Try.call65 (.cons rfl .nil)) (.nil : Sel [z1L z8C z6q.2,stb z6O 30 [(.int .i64 ((nth z1z z1K).fN)),(.int .i64 ((nth z1z z1K).fD))],fz z4j] [] [z1L z8C z6q.2,stb z6O 30 [(.int .i64 ((nth z1z z1K).fN)),(.int .i64 ((nth z1z z1K).fD))],fz z4j]) (fun w hw=>by have pz:=(hz.call2 hw (.nil : Sel [z1L z8C z6q.2,stb z6O 30 [(.int .i64 ((nth z1z z1K).fN)),(.int .i64 ((nth z1z z1K).fD))],fz z4j] [] [z1L z8C z6q.2,stb z6O 30 [(.int .i64 ((nth z1z z1K).fN)),(.int .i64 ((nth z1z z1K).fD))],fz z4j]) .h2); exact y1S (Z:=_)  (z65:=zhI) (r:=zhJ) w pz  zwF) ?_
       refine WL.yield (dd:=67) (x:=zhJ) (h:=()) (g:=z8C) (s:=z6q.2) (b:=zfM.1) (s':=zfM.2) zfQ rfl rfl rfl (.cons rfl .nil) ((.cons .here .nil) : Sel _ [z1L z8C z6q.2] _) zwG zq1 (fun w hw=>hz.call hw ((.cons .here .nil) : Sel _ [z1L z8C z6q.2] _)) ?_
       intro zwH zwI
       refine WL.a (d:=68) rfl rfl rfl (y1n rfl) ?_
       refine WL.a (d:=69) rfl rfl rfl (yr rfl rfl) ?_
       subst zaK
       exact WL.ya zwH zwI (.cons rfl (.cons rfl (.cons rfl (.cons rfl (.cons rfl .nil))))) (.cons .here (.cons .here (.cons .here .nil)))
     ·skip
      refine WL.nil ?_
      refine WX.a ?_
      refine WC.cond rfl (fun zlU=>?_) (fun zlU=>?_)
      ·replace h:=yj h zlU
       refine WC.ret ?_
       refine WX.yt ?_
       refine WX.y8 ?_
       refine WX.y8 ?_
       refine WX.yt ?_
       refine WX.y8 ?_
       obtain rfl:=Option.some.inj h
       refine WX.y9 Try.results69 .nil (fun w hw=>?_)
       exact ⟨z4j,zcY,y5r,zq2,hw.sub (.cons .h2 (.cons .here .nil))⟩
      ·replace h:=yk h zlU
       refine WC.skip ?_
       refine WX.yn ?_
       refine WX.a ?_
       refine WC.a ?_
       refine WL.a (d:=70) rfl rfl rfl (y1d rfl rfl rfl) ?_
       refine WL.a (d:=52) rfl rfl rfl (q_m rfl) ?_
       refine WL.nil ?_
       exact WX.round (G:=Nat × Int × zI × z2O) ⟨zlI,(i64 (z1K + 1)),zbz.2,zcY⟩ ⟨h,zq2⟩ (Nat.lt_succ_self _) (.cons rfl (.cons rfl (.cons rfl (.cons rfl .nil)))) (.cons .h2 (.cons .here .nil))
    ·replace h:=yk h zlS
     refine WC.exit ?_
     refine WX.ym ?_
     refine WX.ym ?_
     refine WX.yH ?_
     exact WX.mid (G:=zI × z2O) ⟨z4U,z6s⟩ ⟨h,zpZ⟩ .nil (.cons .here (.cons .here .nil))
   ·rintro zaI zei ⟨h,zwJ⟩
    replace h:=(zwy zaI).symm.trans h
    obtain rfl:=Option.some.inj h
    refine WX.y4u Try.results69 .nil (fun w hw=>?_)
    exact ⟨z4j,zei,y5r,zwJ,hw.sub (.cons .here (.cons .here .nil))⟩
def y2y (z7d : z2y) (z1c : z2) (zcZ : List (List z1)) (z5X : zSv) : Option (z2 × z2y) :=
 (y22 z7d zcZ z1c).bind fun z1m=>(yO z1c z5X.fLatency).bind fun zlV=>if decide (zlV ≤ 0) then some (z1m.1,z1m.2) else (y12 z1m.2 (fun (y0 : z2) (y1 : z2)=>y1x y0 y1) z1c z5X.fLatency).bind fun z8D=>(y12 z8D.2 (fun (y0 : z2) (y1 : z2)=>y2B y0 y1) z5X.fR z8D.1).bind fun z8E=>(y12 z8E.2 (fun (y0 : z2) (y1 : z2)=>y1x y0 y1) z1m.1 z8E.1).bind fun zbC=>some (zbC.1,zbC.2)
set_option maxRecDepth 20000 in
theorem y71 (Z : Zp)  (z2P : Nat) (zfS : Addr) (zhM : Option Addr) (zhN : Nat) (zfT : Addr) (z7d : z2y) (z1c : z2) (zcZ : List (List z1)) (z5X : zSv) (r : z2 × z2y) (w₀ : World) (hz : PZ (fps [stb z2P 98 [(.int .i64 z7d.fE)]]) w₀ Z)
  (zwK : ZS Z 1 (p39 Z) zhM zhN zcZ)
  (zwL : ZC Z zfS [(.slice zhM zcZ.length zhN)])
  (zlW : ZC Z zfT [(.int .i64 z5X.fR.fN),(.int .i64 z5X.fR.fD),(.int .i64 z5X.fLatency.fN),(.int .i64 z5X.fLatency.fD)])
  (h : y2y z7d z1c zcZ z5X = some r)
  (hown : Hp (fps [stb z2P 98 [(.int .i64 z7d.fE)]]) w₀ w₀ [stb z2P 98 [(.int .i64 z7d.fE)]]) :
  Calls Try.prog 37 #[(.pointer (some ⟨z2P,0,none⟩)),(.agg #[(.int .i64 z1c.fN),(.int .i64 z1c.fD)]),(.pointer (some zfS)),(.pointer (some zfT))] w₀ fun e w'=>e = .returned (.agg #[(.int .i64 r.1.fN),(.int .i64 r.1.fD)]) ∧ Hp (fps [stb z2P 98 [(.int .i64 z7d.fE)]]) w₀ w' [stb z2P 98 [(.int .i64 r.2.fE)]]:=by
 unfold y2y at h
 refine Calls.yg (vs:=[(.pointer (some ⟨z2P,0,none⟩)),(.agg #[(.int .i64 z1c.fN),(.int .i64 z1c.fD)]),(.pointer (some zfS)),(.pointer (some zfT))]) (pre:=[stb z2P 98 [(.int .i64 z7d.fE)]]) (env:=[(0,(.pointer (some ⟨z2P,0,none⟩))),(1,(.agg #[(.int .i64 z1c.fN),(.int .i64 z1c.fD)])),(2,(.pointer (some zfS))),(3,(.pointer (some zfT)))]) Try.func37 rfl Try.ntmps37 rfl (hown) rfl ?_
 refine WC.b ?_
 refine WC.a ?_
 refine WL.new (dd:=5) rfl rfl rfl (yK (cs:=[(.int .i64 z1c.fN),(.int .i64 z1c.fD)]) rfl rfl) ?_
 intro z48 _
 refine WL.new (dd:=6) rfl rfl rfl (yh (cs:=[(.int .i64 0),(.int .i64 0)]) yo rfl) ?_
 intro z49 _
 refine WL.nil ?_
 refine WX.a ?_
 refine WC.b ?_
 obtain ⟨z1m,zwM,h⟩:=zb h
 refine WC.a ?_
 refine WL.a (d:=8) rfl rfl rfl (q_m rfl) ?_
 refine WL.a (d:=9) rfl rfl rfl (ye y3a rfl (y3Z hz.pv zwL rfl)) ?_
 refine WL.a (d:=10) rfl rfl rfl (y6 (cs:=[(.int .i64 z1c.fN),(.int .i64 z1c.fD)]) y5 rfl rfl (y7 .h1)) ?_
 refine WL.b (dd:=11) rfl rfl rfl (zl (l:=[.tmp 8,.tmp 9,.tmp 10]) Try.call35 (.cons rfl (.cons rfl (.cons rfl .nil)))) ((.cons .h2 .nil) : Sel [stb z49 30 [(.int .i64 0),(.int .i64 0)],stb z48 30 [(.int .i64 z1c.fN),(.int .i64 z1c.fD)],stb z2P 98 [(.int .i64 z7d.fE)]] [stb z2P 98 [(.int .i64 z7d.fE)]] [stb z49 30 [(.int .i64 0),(.int .i64 0)],stb z48 30 [(.int .i64 z1c.fN),(.int .i64 z1c.fD)]]) (fun w hw=>by have pz:=(hz.call hw ((.cons .h2 .nil) : Sel [stb z49 30 [(.int .i64 0),(.int .i64 0)],stb z48 30 [(.int .i64 z1c.fN),(.int .i64 z1c.fD)],stb z2P 98 [(.int .i64 z7d.fE)]] [stb z2P 98 [(.int .i64 z7d.fE)]] [stb z49 30 [(.int .i64 0),(.int .i64 0)],stb z48 30 [(.int .i64 z1c.fN),(.int .i64 z1c.fD)]])); exact y4L (Z:=_) (z3H:=z2P) (zbr:=zhM) (zbs:=zhN) (z7l:=z7d) (z5l:=zcZ) (z2i:=z1c) (r:=z1m) w pz zwK zwM (hw.owns ((.cons .h2 .nil) : Sel [stb z49 30 [(.int .i64 0),(.int .i64 0)],stb z48 30 [(.int .i64 z1c.fN),(.int .i64 z1c.fD)],stb z2P 98 [(.int .i64 z7d.fE)]] [stb z2P 98 [(.int .i64 z7d.fE)]] [stb z49 30 [(.int .i64 0),(.int .i64 0)],stb z48 30 [(.int .i64 z1c.fN),(.int .i64 z1c.fD)]]))) ?_
 refine WL.new (dd:=7) rfl rfl rfl (yh (cs:=[(.int .i64 0),(.int .i64 0)]) yo rfl) ?_
 intro z58 _
 refine WL.yc rfl rfl (yd (vs:=[(.int .i64 z1m.1.fN),(.int .i64 z1m.1.fD)]) (ds:=[(.int .i64 z1m.1.fN),(.int .i64 z1m.1.fD)]) yl rfl rfl rfl rfl (y3 rfl (y3 rfl yf)) .here (Nat.le_of_ble_eq_true rfl) rfl) ?_
 refine WL.nil ?_
 refine WX.a ?_
 refine WC.b ?_
 refine WC.b ?_
 obtain ⟨zlV,zwN,h⟩:=zb h
 refine WC.a ?_
 refine WL.a (d:=12) rfl rfl rfl (y6 (cs:=[(.int .i64 z1c.fN),(.int .i64 z1c.fD)]) y5 rfl rfl (y7 .h3)) ?_
 refine WL.a (d:=13) rfl rfl rfl (y4 y55 rfl rfl) ?_
 refine WL.a (d:=14) rfl rfl rfl (y6 (cs:=[(.int .i64 z5X.fLatency.fN),(.int .i64 z5X.fLatency.fD)]) y5 rfl rfl (y5U (off:=2) (s:=2) hz.pv zlW rfl)) ?_
 refine WL.b (dd:=15) rfl rfl rfl (zl (l:=[.tmp 12,.tmp 14]) Try.call18 (.cons rfl (.cons rfl .nil))) (.nil : Sel [stb z58 30 [(.int .i64 z1m.1.fN),(.int .i64 z1m.1.fD)],stb z2P 98 [(.int .i64 z1m.2.fE)],stb z49 30 [(.int .i64 0),(.int .i64 0)],stb z48 30 [(.int .i64 z1c.fN),(.int .i64 z1c.fD)]] [] [stb z58 30 [(.int .i64 z1m.1.fN),(.int .i64 z1m.1.fD)],stb z2P 98 [(.int .i64 z1m.2.fE)],stb z49 30 [(.int .i64 0),(.int .i64 0)],stb z48 30 [(.int .i64 z1c.fN),(.int .i64 z1c.fD)]]) (fun w hw=>by have pz:=(hz.call hw (.nil : Sel [stb z58 30 [(.int .i64 z1m.1.fN),(.int .i64 z1m.1.fD)],stb z2P 98 [(.int .i64 z1m.2.fE)],stb z49 30 [(.int .i64 0),(.int .i64 0)],stb z48 30 [(.int .i64 z1c.fN),(.int .i64 z1c.fD)]] [] [stb z58 30 [(.int .i64 z1m.1.fN),(.int .i64 z1m.1.fD)],stb z2P 98 [(.int .i64 z1m.2.fE)],stb z49 30 [(.int .i64 0),(.int .i64 0)],stb z48 30 [(.int .i64 z1c.fN),(.int .i64 z1c.fD)]])); exact y1Y (Z:=_)  (z2m:=z1c) (z2n:=z5X.fLatency) (r:=zlV) w pz  zwN) ?_
 refine WL.a (d:=16) rfl rfl rfl (y5a rfl rfl) ?_
 refine WL.nil ?_
 refine WX.a ?_
 refine WC.cond rfl (fun zlX=>?_) (fun zlX=>?_)
 ·replace h:=yj h zlX
  refine WC.b ?_
  refine WC.a ?_
  refine WL.a (d:=17) rfl rfl rfl (y6 (cs:=[(.int .i64 z1m.1.fN),(.int .i64 z1m.1.fD)]) y5 rfl rfl (y7 .here)) ?_
  refine WL.yc rfl rfl (yd (vs:=[(.int .i64 z1m.1.fN),(.int .i64 z1m.1.fD)]) (ds:=[(.int .i64 z1m.1.fN),(.int .i64 z1m.1.fD)]) yl rfl rfl rfl rfl (y3 rfl (y3 rfl yf)) .h2 (Nat.le_of_ble_eq_true rfl) rfl) ?_
  refine WL.nil ?_
  refine WX.a ?_
  refine WC.ret ?_
  refine WX.y8 ?_
  obtain rfl:=Option.some.inj h
  refine WX.y9 Try.results37 (.agg rfl y5 rfl (y7 .here) .nil) (fun w hw=>?_)
  exact ⟨yI rfl,hw.sub (.cons .h2 .nil)⟩
 ·replace h:=yk h zlX
  refine WC.skip ?_
  refine WX.a ?_
  refine WC.b ?_
  obtain ⟨z8D,zwO,h⟩:=zb h
  obtain ⟨z8E,zwP,h⟩:=zb h
  obtain ⟨zbC,zwQ,h⟩:=zb h
  refine WC.y1e (fun i=>[9,10,11,12].contains i) [stb z58 30 [(.int .i64 z1m.1.fN),(.int .i64 z1m.1.fD)]] rfl ?_
  refine WD.a (i:=0) (d:=18) (by kernel_rfl) rfl (z6 (by kernel_rfl)) (z7 (by kernel_rfl)) rfl rfl rfl (fun _=>q_m rfl) ?_
  refine WD.y2z (i:=1) (d:=19) (by kernel_rfl) rfl (z6 (by kernel_rfl)) (z7 (by kernel_rfl)) rfl rfl rfl (Sin.of (.cons .here .nil)) (y6 (cs:=[(.int .i64 z1m.1.fN),(.int .i64 z1m.1.fD)]) y5 rfl rfl (y7 .here)) ?_
  refine WD.a (i:=2) (d:=20) (by kernel_rfl) rfl (z6 (by kernel_rfl)) (z7 (by kernel_rfl)) rfl rfl rfl (fun _=>q_m rfl) ?_
  refine WD.a (i:=3) (d:=21) (by kernel_rfl) rfl (z6 (by kernel_rfl)) (z7 (by kernel_rfl)) rfl rfl rfl (fun _=>y4 y5X rfl rfl) ?_
  refine WD.y2z (i:=4) (d:=22) (by kernel_rfl) rfl (z6 (by kernel_rfl)) (z7 (by kernel_rfl)) rfl rfl rfl (Sin.of (.cons .here .nil)) (y6 (cs:=[(.int .i64 z5X.fR.fN),(.int .i64 z5X.fR.fD)]) y5 rfl rfl (y5U (off:=0) (s:=2) hz.pv zlW rfl)) ?_
  refine WD.a (i:=5) (d:=23) (by kernel_rfl) rfl (z6 (by kernel_rfl)) (z7 (by kernel_rfl)) rfl rfl rfl (fun _=>q_m rfl) ?_
  refine WD.e (i:=6) (d:=24) (by kernel_rfl) rfl (z6 (by kernel_rfl)) (z7 (by kernel_rfl)) rfl rfl rfl (y6 (cs:=[(.int .i64 z1c.fN),(.int .i64 z1c.fD)]) y5 rfl rfl (y7 .h3)) ?_
  refine WD.a (i:=7) (d:=25) (by kernel_rfl) rfl (z6 (by kernel_rfl)) (z7 (by kernel_rfl)) rfl rfl rfl (fun _=>y4 y55 rfl rfl) ?_
  refine WD.e (i:=8) (d:=26) (by kernel_rfl) rfl (z6 (by kernel_rfl)) (z7 (by kernel_rfl)) rfl rfl rfl (y6 (cs:=[(.int .i64 z5X.fLatency.fN),(.int .i64 z5X.fLatency.fD)]) y5 rfl rfl (y5U (off:=2) (s:=2) hz.pv zlW rfl)) ?_
  refine WD.call0 (i:=9) (dd:=27) rfl (by kernel_rfl) rfl rfl rfl (.inl ⟨rfl,(Sin.of (.cons .h1 .nil))⟩) (zl (l:=[.tmp 23,.func 24,.tmp 24,.tmp 26]) Try.call33 (.cons rfl (.cons rfl (.cons rfl (.cons rfl .nil))))) ((.cons .h1 .nil) : Sel [stb z58 30 [(.int .i64 z1m.1.fN),(.int .i64 z1m.1.fD)],stb z2P 98 [(.int .i64 z1m.2.fE)],stb z49 30 [(.int .i64 0),(.int .i64 0)],stb z48 30 [(.int .i64 z1c.fN),(.int .i64 z1c.fD)]] [stb z2P 98 [(.int .i64 z1m.2.fE)]] [stb z58 30 [(.int .i64 z1m.1.fN),(.int .i64 z1m.1.fD)],stb z49 30 [(.int .i64 0),(.int .i64 0)],stb z48 30 [(.int .i64 z1c.fN),(.int .i64 z1c.fD)]]) (fun w hw=>by have pz:=(hz.call hw ((.cons .h1 .nil) : Sel [stb z58 30 [(.int .i64 z1m.1.fN),(.int .i64 z1m.1.fD)],stb z2P 98 [(.int .i64 z1m.2.fE)],stb z49 30 [(.int .i64 0),(.int .i64 0)],stb z48 30 [(.int .i64 z1c.fN),(.int .i64 z1c.fD)]] [stb z2P 98 [(.int .i64 z1m.2.fE)]] [stb z58 30 [(.int .i64 z1m.1.fN),(.int .i64 z1m.1.fD)],stb z49 30 [(.int .i64 0),(.int .i64 0)],stb z48 30 [(.int .i64 z1c.fN),(.int .i64 z1c.fD)]])); exact Calls.mono (y1E (Z:=_) (z4q:=z2P) (z75:=24) (z7H:=[]) (z5j:=z1m.2) (z7X:=(fun (y0 : z2) (y1 : z2)=>y1x y0 y1)) (z3a:=z1c) (z3b:=z5X.fLatency) (r:=z8D) w pz Try.call24 (fun w' hz' y0 y1  r  hr=>y4K (Z:=_)  (z3Y:=y0) (z3Z:=y1) (r:=r) w' hz'  hr) zwO (hw.owns ((.cons .h1 .nil) : Sel [stb z58 30 [(.int .i64 z1m.1.fN),(.int .i64 z1m.1.fD)],stb z2P 98 [(.int .i64 z1m.2.fE)],stb z49 30 [(.int .i64 0),(.int .i64 0)],stb z48 30 [(.int .i64 z1c.fN),(.int .i64 z1c.fD)]] [stb z2P 98 [(.int .i64 z1m.2.fE)]] [stb z58 30 [(.int .i64 z1m.1.fN),(.int .i64 z1m.1.fD)],stb z49 30 [(.int .i64 0),(.int .i64 0)],stb z48 30 [(.int .i64 z1c.fN),(.int .i64 z1c.fD)]]))) (fun _ _ h'=>⟨h'.1,trivial,h'.2⟩)) ?_
  intro _
  refine WD.call0 (i:=10) (dd:=28) rfl (by kernel_rfl) rfl rfl rfl (.inl ⟨rfl,(Sin.of (.cons .h1 .nil))⟩) (zl (l:=[.tmp 20,.func 25,.tmp 22,.tmp 27]) Try.call33 (.cons rfl (.cons rfl (.cons rfl (.cons rfl .nil))))) ((.cons .here .nil) : Sel [stb z2P 98 [(.int .i64 z8D.2.fE)],stb z58 30 [(.int .i64 z1m.1.fN),(.int .i64 z1m.1.fD)],stb z49 30 [(.int .i64 0),(.int .i64 0)],stb z48 30 [(.int .i64 z1c.fN),(.int .i64 z1c.fD)]] [stb z2P 98 [(.int .i64 z8D.2.fE)]] [stb z58 30 [(.int .i64 z1m.1.fN),(.int .i64 z1m.1.fD)],stb z49 30 [(.int .i64 0),(.int .i64 0)],stb z48 30 [(.int .i64 z1c.fN),(.int .i64 z1c.fD)]]) (fun w hw=>by have pz:=(hz.call hw ((.cons .here .nil) : Sel [stb z2P 98 [(.int .i64 z8D.2.fE)],stb z58 30 [(.int .i64 z1m.1.fN),(.int .i64 z1m.1.fD)],stb z49 30 [(.int .i64 0),(.int .i64 0)],stb z48 30 [(.int .i64 z1c.fN),(.int .i64 z1c.fD)]] [stb z2P 98 [(.int .i64 z8D.2.fE)]] [stb z58 30 [(.int .i64 z1m.1.fN),(.int .i64 z1m.1.fD)],stb z49 30 [(.int .i64 0),(.int .i64 0)],stb z48 30 [(.int .i64 z1c.fN),(.int .i64 z1c.fD)]])); exact Calls.mono (y1E (Z:=_) (z4q:=z2P) (z75:=25) (z7H:=[]) (z5j:=z8D.2) (z7X:=(fun (y0 : z2) (y1 : z2)=>y2B y0 y1)) (z3a:=z5X.fR) (z3b:=z8D.1) (r:=z8E) w pz Try.call25 (fun w' hz' y0 y1  r  hr=>y7o (Z:=_)  (z4w:=y0) (z4x:=y1) (r:=r) w' hz'  hr) zwP (hw.owns ((.cons .here .nil) : Sel [stb z2P 98 [(.int .i64 z8D.2.fE)],stb z58 30 [(.int .i64 z1m.1.fN),(.int .i64 z1m.1.fD)],stb z49 30 [(.int .i64 0),(.int .i64 0)],stb z48 30 [(.int .i64 z1c.fN),(.int .i64 z1c.fD)]] [stb z2P 98 [(.int .i64 z8D.2.fE)]] [stb z58 30 [(.int .i64 z1m.1.fN),(.int .i64 z1m.1.fD)],stb z49 30 [(.int .i64 0),(.int .i64 0)],stb z48 30 [(.int .i64 z1c.fN),(.int .i64 z1c.fD)]]))) (fun _ _ h'=>⟨h'.1,trivial,h'.2⟩)) ?_
  intro _
  refine WD.call0 (i:=11) (dd:=29) rfl (by kernel_rfl) rfl rfl rfl (.inl ⟨rfl,(Sin.of (.cons .h1 .nil))⟩) (zl (l:=[.tmp 18,.func 24,.tmp 19,.tmp 28]) Try.call33 (.cons rfl (.cons rfl (.cons rfl (.cons rfl .nil))))) ((.cons .here .nil) : Sel [stb z2P 98 [(.int .i64 z8E.2.fE)],stb z58 30 [(.int .i64 z1m.1.fN),(.int .i64 z1m.1.fD)],stb z49 30 [(.int .i64 0),(.int .i64 0)],stb z48 30 [(.int .i64 z1c.fN),(.int .i64 z1c.fD)]] [stb z2P 98 [(.int .i64 z8E.2.fE)]] [stb z58 30 [(.int .i64 z1m.1.fN),(.int .i64 z1m.1.fD)],stb z49 30 [(.int .i64 0),(.int .i64 0)],stb z48 30 [(.int .i64 z1c.fN),(.int .i64 z1c.fD)]]) (fun w hw=>by have pz:=(hz.call hw ((.cons .here .nil) : Sel [stb z2P 98 [(.int .i64 z8E.2.fE)],stb z58 30 [(.int .i64 z1m.1.fN),(.int .i64 z1m.1.fD)],stb z49 30 [(.int .i64 0),(.int .i64 0)],stb z48 30 [(.int .i64 z1c.fN),(.int .i64 z1c.fD)]] [stb z2P 98 [(.int .i64 z8E.2.fE)]] [stb z58 30 [(.int .i64 z1m.1.fN),(.int .i64 z1m.1.fD)],stb z49 30 [(.int .i64 0),(.int .i64 0)],stb z48 30 [(.int .i64 z1c.fN),(.int .i64 z1c.fD)]])); exact Calls.mono (y1E (Z:=_) (z4q:=z2P) (z75:=24) (z7H:=[]) (z5j:=z8E.2) (z7X:=(fun (y0 : z2) (y1 : z2)=>y1x y0 y1)) (z3a:=z1m.1) (z3b:=z8E.1) (r:=zbC) w pz Try.call24 (fun w' hz' y0 y1  r  hr=>y4K (Z:=_)  (z3Y:=y0) (z3Z:=y1) (r:=r) w' hz'  hr) zwQ (hw.owns ((.cons .here .nil) : Sel [stb z2P 98 [(.int .i64 z8E.2.fE)],stb z58 30 [(.int .i64 z1m.1.fN),(.int .i64 z1m.1.fD)],stb z49 30 [(.int .i64 0),(.int .i64 0)],stb z48 30 [(.int .i64 z1c.fN),(.int .i64 z1c.fD)]] [stb z2P 98 [(.int .i64 z8E.2.fE)]] [stb z58 30 [(.int .i64 z1m.1.fN),(.int .i64 z1m.1.fD)],stb z49 30 [(.int .i64 0),(.int .i64 0)],stb z48 30 [(.int .i64 z1c.fN),(.int .i64 z1c.fD)]]))) (fun _ _ h'=>⟨h'.1,trivial,h'.2⟩)) ?_
  intro _
  refine WD.y61 (i:=12) rfl (by kernel_rfl) rfl rfl rfl (by kernel_rfl) (yd (vs:=[(.int .i64 zbC.1.fN),(.int .i64 zbC.1.fD)]) (ds:=[(.int .i64 zbC.1.fN),(.int .i64 zbC.1.fD)]) yl rfl rfl rfl rfl (y3 rfl (y3 rfl yf)) .h2 (Nat.le_of_ble_eq_true rfl) rfl) ?_
  refine WD.done (by kernel_rfl) ?_
  refine WX.a ?_
  refine WC.ret ?_
  obtain rfl:=Option.some.inj h
  refine WX.y9 Try.results37 (.agg rfl y5 rfl (y7 .here) .nil) (fun w hw=>?_)
  exact ⟨yI rfl,hw.sub (.cons .h1 .nil)⟩
end Go.Proofs.Ytakfmdiiehcbdaa
