/- A part of this claim's proof: models of functions, walks, plain laws. No conditions. -/
import Derived.Test.YtakfmdiiehcbdaaW03c
namespace Go.Proofs.Ytakfmdiiehcbdaa
open Go Go.RowKit Sep
set_option linter.all false
set_option maxRecDepth 30000
set_option maxHeartbeats 4000000
def y17 (z5q : List (List z6)) (z24 : z7) (zaK : Int → Int → Int → Option (z7 × z2h)) : Nat → Int → Int → Int → Int → Option (z7 × z2h)
 | 0,_,_,_,_=>none
 | zlZ + 1,z6T,z6r,z4B,z4C=>if decide (z6T < ((z5q.length : Nat) : Int)) then chk ((0 : Int) ≤ z6T ∧ z6T < ((z5q.length : Nat) : Int)) ((y35 (nth z5q z6T) z24).bind fun z3Y=>jp1 (fun (z7q : Int)=>(y12 (⟨z7q⟩ : z2h) (fun (y0 : z7) (y1 : z7)=>y1l y0 y1) (⟨z4B,z4C⟩ : z7) z3Y.1).bind fun z8D=>y17 z5q z24 zaK zlZ (i64 (z6T + 1)) z8D.2.fE z8D.1.fN z8D.1.fD) fun zi5=>if decide (z6r = 0) then zi5 z3Y.2 else zi5 z6r) else zaK z4B z4C z6r
theorem y59 {n : Nat} {z5q : List (List z6)} {z24 : z7} {zaK : Int → Int → Int → Option (z7 × z2h)} {z6T : Int} {z6r : Int} {z4B : Int} {z4C : Int} {r : z7 × z2h} (h : y17 z5q z24 zaK n z6T z6r z4B z4C = some r) : ∃ m,n = m + 1:=by
 cases n with
 | zero=>cases h
 | succ m=>exact ⟨m,rfl⟩
def y25 (z7r : z2h) (z5q : List (List z6)) (z24 : z7) : Option (z7 × z2h) :=
 (y1L).bind fun z9D=>jp3 (fun (z9c : Int) (z9d : Int) (zbN : Int)=>some ((⟨z9c,z9d⟩ : z7),(⟨zbN⟩ : z2h))) fun zaK=>y17 z5q z24 zaK yu 0 z7r.fE z9D.fN z9D.fD
set_option maxRecDepth 20000 in
theorem y4S (Z : Zp)  (z3y : Nat) (zbO : Option Addr) (zbP : Nat) (z7r : z2h) (z5q : List (List z6)) (z24 : z7) (r : z7 × z2h) (w₀ : World) (hz : PZ (fps [stb z3y 98 [(.int .i64 z7r.fE)]]) w₀ Z)
  (zwt : ZS Z 1 (p39 Z) zbO zbP z5q)
  (h : y25 z7r z5q z24 = some r)
  (hown : Hp (fps [stb z3y 98 [(.int .i64 z7r.fE)]]) w₀ w₀ [stb z3y 98 [(.int .i64 z7r.fE)]]) :
  Calls Try.prog 35 #[(.pointer (some ⟨z3y,0,none⟩)),(.slice zbO z5q.length zbP),(.agg #[(.int .i64 z24.fN),(.int .i64 z24.fD)])] w₀ fun e w'=>e = .returned (.agg #[(.int .i64 r.1.fN),(.int .i64 r.1.fD)]) ∧ Hp (fps [stb z3y 98 [(.int .i64 z7r.fE)]]) w₀ w' [stb z3y 98 [(.int .i64 r.2.fE)]]:=by
 unfold y25 at h
 refine Calls.yd (vs:=[(.pointer (some ⟨z3y,0,none⟩)),(.slice zbO z5q.length zbP),(.agg #[(.int .i64 z24.fN),(.int .i64 z24.fD)])]) (pre:=[stb z3y 98 [(.int .i64 z7r.fE)]]) (env:=[(0,(.pointer (some ⟨z3y,0,none⟩))),(1,(.slice zbO z5q.length zbP)),(2,(.agg #[(.int .i64 z24.fN),(.int .i64 z24.fD)]))]) Try.func35 rfl Try.ntmps35 rfl (hown) rfl ?_
 refine WC.b ?_
 refine WC.a ?_
 refine WL.new (dd:=5) rfl rfl rfl (yI (cs:=[(.int .i64 z24.fN),(.int .i64 z24.fD)]) rfl rfl) ?_
 intro z6s _
 refine WL.new (dd:=6) rfl rfl rfl (ym (cs:=[(.int .i64 0),(.int .i64 0)]) yt rfl) ?_
 intro z5O _
 refine WL.nil ?_
 refine WX.a ?_
 refine WC.b ?_
 obtain ⟨z9D,zwu,h⟩:=ze h
 refine WC.a ?_
 refine WL.b (dd:=12) rfl rfl rfl (zj (l:=[]) Try.call51 .nil) (.nil : Sel [stb z5O 30 [(.int .i64 0),(.int .i64 0)],stb z6s 30 [(.int .i64 z24.fN),(.int .i64 z24.fD)],stb z3y 98 [(.int .i64 z7r.fE)]] [] [stb z5O 30 [(.int .i64 0),(.int .i64 0)],stb z6s 30 [(.int .i64 z24.fN),(.int .i64 z24.fD)],stb z3y 98 [(.int .i64 z7r.fE)]]) (fun w hw=>by have pz:=(hz.call hw (.nil : Sel [stb z5O 30 [(.int .i64 0),(.int .i64 0)],stb z6s 30 [(.int .i64 z24.fN),(.int .i64 z24.fD)],stb z3y 98 [(.int .i64 z7r.fE)]] [] [stb z5O 30 [(.int .i64 0),(.int .i64 0)],stb z6s 30 [(.int .i64 z24.fN),(.int .i64 z24.fD)],stb z3y 98 [(.int .i64 z7r.fE)]])); exact y2y (Z:=_)   (r:=z9D) w pz  zwu) ?_
 refine WL.new (dd:=7) rfl rfl rfl (ym (cs:=[(.int .i64 0),(.int .i64 0)]) yt rfl) ?_
 intro z7h _
 refine WL.yb rfl rfl (yc (vs:=[(.int .i64 z9D.fN),(.int .i64 z9D.fD)]) (ds:=[(.int .i64 z9D.fN),(.int .i64 z9D.fD)]) yo rfl rfl rfl rfl (y2 rfl (y2 rfl yk)) .here (Nat.le_of_ble_eq_true rfl) rfl) ?_
 refine WL.nil ?_
 refine WX.a ?_
 obtain ⟨zaK,zwv,h⟩:=y6U h
 refine WC.y2O (fun (z9c : Int) (z9d : Int) (zbN : Int)=>(zaK z9c z9d zbN = some r)) (fun (z9c : Int) (z9d : Int) (zbN : Int)=>[(6,(.pointer (some ⟨z5O,0,none⟩))),(7,(.pointer (some ⟨z7h,0,none⟩)))]) (fun (z9c : Int) (z9d : Int) (zbN : Int)=>[stb z5O 30 [(.int .i64 0),(.int .i64 0)],stb z7h 30 [(.int .i64 z9c),(.int .i64 z9d)],stb z3y 98 [(.int .i64 zbN)]]) ?_ ?_
 ·skip
  refine WC.b ?_
  refine WC.a ?_
  refine WL.a (d:=13) rfl rfl rfl (q_m rfl) ?_
  refine WL.a (d:=14) rfl rfl rfl (y10 Try.underlying26 rfl) ?_
  refine WL.a (d:=15) rfl rfl rfl (q_m rfl) ?_
  refine WL.nil ?_
  refine WX.a ?_
  refine WC.block ?_
  refine WC.y6R (fun (zes : Nat) (z6T : Int) (z6r : Int) (z4B : Int) (z4C : Int)=>(y17 z5q z24 zaK zes z6T z6r z4B z4C = some r)) (fun (zes : Nat) (z6T : Int) (z6r : Int) (z4B : Int) (z4C : Int)=>[(0,(.pointer (some ⟨z3y,0,none⟩))),(5,(.pointer (some ⟨z6s,0,none⟩))),(6,(.pointer (some ⟨z5O,0,none⟩))),(7,(.pointer (some ⟨z7h,0,none⟩))),(13,(.slice zbO z5q.length zbP)),(14,(.int .i64 ((z5q.length : Nat) : Int))),(15,(.int .i64 z6T))]) (fun (zes : Nat) (z6T : Int) (z6r : Int) (z4B : Int) (z4C : Int)=>[stb z3y 98 [(.int .i64 z6r)],stb z6s 30 [(.int .i64 z24.fN),(.int .i64 z24.fD)],stb z5O 30 [(.int .i64 0),(.int .i64 0)],stb z7h 30 [(.int .i64 z4B),(.int .i64 z4C)]]) (fun (zes : Nat) (z6T : Int) (z6r : Int) (z4B : Int) (z4C : Int)=>zes) ⟨yu,0,z7r.fE,z9D.fN,z9D.fD⟩ h (.cons rfl (.cons rfl (.cons rfl (.cons rfl (.cons rfl (.cons rfl (.cons rfl .nil))))))) (.cons .h3 (.cons .h2 (.cons .h1 (.cons .here .nil)))) ?_
  rintro zes z6T z6r z4B z4C h
  obtain ⟨zlZ,rfl⟩:=y59 h
  rw [y17] at h
  refine WC.b ?_
  refine WC.a ?_
  refine WL.a (d:=16) rfl rfl rfl (y1c rfl rfl) ?_
  refine WL.nil ?_
  refine WX.a ?_
  refine WC.b ?_
  refine WC.cond rfl (fun zm0=>?_) (fun zm0=>?_)
  ·replace h:=yh h zm0
   refine WC.skip ?_
   refine WX.a ?_
   refine WC.b ?_
   refine WC.block ?_
   refine WC.b ?_
   obtain ⟨zww,h⟩:=yl h
   refine WC.a ?_
   refine WL.znth (dd:=17) rfl rfl (Z:=Z) (Pr:=(p39 Z)) y3Q rfl rfl zwt zww ?_
   rintro zBQ zBR zwx zBS ⟨zwy,zwz,rfl,zwA⟩
   refine WL.a (d:=18) rfl rfl rfl (ya y4Q rfl (y4Z hz.pv zwx rfl)) ?_
   refine WL.a (d:=9) rfl rfl rfl (q_z rfl) ?_
   refine WL.nil ?_
   refine WX.a ?_
   refine WC.b ?_
   obtain ⟨z3Y,zwB,h⟩:=ze h
   refine WC.a ?_
   refine WL.a (d:=20) rfl rfl rfl (q_m rfl) ?_
   refine WL.a (d:=21) rfl rfl rfl (y4 (cs:=[(.int .i64 z24.fN),(.int .i64 z24.fD)]) y5 rfl rfl (y8 .h1)) ?_
   refine WL.b (dd:=22) rfl rfl rfl (zj (l:=[.tmp 20,.tmp 21]) Try.call22 (.cons rfl (.cons rfl .nil))) (.nil : Sel [stb z3y 98 [(.int .i64 z6r)],stb z6s 30 [(.int .i64 z24.fN),(.int .i64 z24.fD)],stb z5O 30 [(.int .i64 0),(.int .i64 0)],stb z7h 30 [(.int .i64 z4B),(.int .i64 z4C)]] [] [stb z3y 98 [(.int .i64 z6r)],stb z6s 30 [(.int .i64 z24.fN),(.int .i64 z24.fD)],stb z5O 30 [(.int .i64 0),(.int .i64 0)],stb z7h 30 [(.int .i64 z4B),(.int .i64 z4C)]]) (fun w hw=>by have pz:=(hz.call hw (.nil : Sel [stb z3y 98 [(.int .i64 z6r)],stb z6s 30 [(.int .i64 z24.fN),(.int .i64 z24.fD)],stb z5O 30 [(.int .i64 0),(.int .i64 0)],stb z7h 30 [(.int .i64 z4B),(.int .i64 z4C)]] [] [stb z3y 98 [(.int .i64 z6r)],stb z6s 30 [(.int .i64 z24.fN),(.int .i64 z24.fD)],stb z5O 30 [(.int .i64 0),(.int .i64 0)],stb z7h 30 [(.int .i64 z4B),(.int .i64 z4C)]])); exact y85 (Z:=_) (zaI:=zwy) (zaJ:=zwz) (z1k:=(nth z5q z6T)) (z20:=z24) (r:=z3Y) w pz zwA zwB) ?_
   refine WL.a (d:=19) rfl rfl rfl (q_m rfl) ?_
   refine WL.a (d:=23) rfl rfl rfl (yf rfl rfl) ?_
   refine WL.a (d:=24) rfl rfl rfl (yf rfl rfl) ?_
   refine WL.new (dd:=10) rfl rfl rfl (ym (cs:=[(.int .i64 0),(.int .i64 0)]) yt rfl) ?_
   intro zbQ _
   refine WL.yb rfl rfl (yc (vs:=[(.int .i64 z3Y.1.fN),(.int .i64 z3Y.1.fD)]) (ds:=[(.int .i64 z3Y.1.fN),(.int .i64 z3Y.1.fD)]) yo rfl rfl rfl rfl (y2 rfl (y2 rfl yk)) .here (Nat.le_of_ble_eq_true rfl) rfl) ?_
   refine WL.a (d:=11) rfl rfl rfl (q_z rfl) ?_
   refine WL.nil ?_
   refine WX.a ?_
   obtain ⟨zi5,zwC,h⟩:=y1h h
   refine WC.y34 (fun (z7q : Int)=>(zi5 z7q = some r)) (fun (z7q : Int)=>[(0,(.pointer (some ⟨z3y,0,none⟩))),(5,(.pointer (some ⟨z6s,0,none⟩))),(6,(.pointer (some ⟨z5O,0,none⟩))),(7,(.pointer (some ⟨z7h,0,none⟩))),(10,(.pointer (some ⟨zbQ,0,none⟩))),(13,(.slice zbO z5q.length zbP)),(14,(.int .i64 ((z5q.length : Nat) : Int))),(15,(.int .i64 z6T))]) (fun (z7q : Int)=>[stb z3y 98 [(.int .i64 z7q)],stb z6s 30 [(.int .i64 z24.fN),(.int .i64 z24.fD)],stb z5O 30 [(.int .i64 0),(.int .i64 0)],stb z7h 30 [(.int .i64 z4B),(.int .i64 z4C)],stb zbQ 30 [(.int .i64 z3Y.1.fN),(.int .i64 z3Y.1.fD)]]) ?_ ?_
   ·skip
    refine WC.b ?_
    refine WC.a ?_
    refine WL.a (d:=25) rfl rfl rfl (q_m rfl) ?_
    refine WL.a (d:=26) rfl rfl rfl (y4f rfl) ?_
    refine WL.a (d:=27) rfl rfl rfl (y3 y3g rfl rfl) ?_
    refine WL.a (d:=28) rfl rfl rfl (ya y2K rfl (yv .h1 rfl)) ?_
    refine WL.a (d:=29) rfl rfl rfl (y4C rfl rfl) ?_
    refine WL.nil ?_
    refine WX.a ?_
    refine WC.cond rfl (fun zm1=>?_) (fun zm1=>?_)
    ·replace h:=yh h zm1
     refine WC.a ?_
     refine WL.a (d:=30) rfl rfl rfl (q_m rfl) ?_
     refine WL.a (d:=31) rfl rfl rfl (q_m rfl) ?_
     refine WL.a (d:=32) rfl rfl rfl (y4f rfl) ?_
     refine WL.a (d:=33) rfl rfl rfl (y3 y3g rfl rfl) ?_
     refine WL.yb rfl rfl (yc (vs:=[(.int .i64 z3Y.2)]) (ds:=[(.int .i64 z3Y.2)]) y8g rfl rfl rfl rfl (y2 rfl yk) .h1 (Nat.le_of_ble_eq_true rfl) rfl) ?_
     refine WL.nil ?_
     exact WX.mid (G:=Int) z3Y.2 h (.cons rfl (.cons rfl (.cons rfl (.cons rfl (.cons rfl (.cons rfl (.cons rfl (.cons rfl .nil)))))))) (.cons .here (.cons .h1 (.cons .h1 (.cons .h1 (.cons .here .nil)))))
    ·replace h:=yi h zm1
     refine WC.skip ?_
     exact WX.mid (G:=Int) z6r h (.cons rfl (.cons rfl (.cons rfl (.cons rfl (.cons rfl (.cons rfl (.cons rfl (.cons rfl .nil)))))))) (.cons .h1 (.cons .h1 (.cons .h1 (.cons .h1 (.cons .here .nil)))))
   ·rintro z7q h
    replace h:=(zwC z7q).symm.trans h
    obtain ⟨z8D,zwD,h⟩:=ze h
    refine WC.a ?_
    refine WL.a (d:=34) rfl rfl rfl (q_m rfl) ?_
    refine WL.a (d:=35) rfl rfl rfl (y4 (cs:=[(.int .i64 z4B),(.int .i64 z4C)]) y5 rfl rfl (y8 .h3)) ?_
    refine WL.a (d:=36) rfl rfl rfl (y4 (cs:=[(.int .i64 z3Y.1.fN),(.int .i64 z3Y.1.fD)]) y5 rfl rfl (y8 .h4)) ?_
    refine WL.b (dd:=37) rfl rfl rfl (zj (l:=[.tmp 34,.func 19,.tmp 35,.tmp 36]) Try.call33 (.cons rfl (.cons rfl (.cons rfl (.cons rfl .nil))))) ((.cons .here .nil) : Sel [stb z3y 98 [(.int .i64 z7q)],stb z6s 30 [(.int .i64 z24.fN),(.int .i64 z24.fD)],stb z5O 30 [(.int .i64 0),(.int .i64 0)],stb z7h 30 [(.int .i64 z4B),(.int .i64 z4C)],stb zbQ 30 [(.int .i64 z3Y.1.fN),(.int .i64 z3Y.1.fD)]] [stb z3y 98 [(.int .i64 z7q)]] [stb z6s 30 [(.int .i64 z24.fN),(.int .i64 z24.fD)],stb z5O 30 [(.int .i64 0),(.int .i64 0)],stb z7h 30 [(.int .i64 z4B),(.int .i64 z4C)],stb zbQ 30 [(.int .i64 z3Y.1.fN),(.int .i64 z3Y.1.fD)]]) (fun w hw=>by have pz:=(hz.call hw ((.cons .here .nil) : Sel [stb z3y 98 [(.int .i64 z7q)],stb z6s 30 [(.int .i64 z24.fN),(.int .i64 z24.fD)],stb z5O 30 [(.int .i64 0),(.int .i64 0)],stb z7h 30 [(.int .i64 z4B),(.int .i64 z4C)],stb zbQ 30 [(.int .i64 z3Y.1.fN),(.int .i64 z3Y.1.fD)]] [stb z3y 98 [(.int .i64 z7q)]] [stb z6s 30 [(.int .i64 z24.fN),(.int .i64 z24.fD)],stb z5O 30 [(.int .i64 0),(.int .i64 0)],stb z7h 30 [(.int .i64 z4B),(.int .i64 z4C)],stb zbQ 30 [(.int .i64 z3Y.1.fN),(.int .i64 z3Y.1.fD)]])); exact y1F (Z:=_) (z4r:=z3y) (z7d:=19) (z7N:=[]) (z5o:=(⟨z7q⟩ : z2h)) (z85:=(fun (y0 : z7) (y1 : z7)=>y1l y0 y1)) (z2U:=(⟨z4B,z4C⟩ : z7)) (z2V:=z3Y.1) (r:=z8D) w pz Try.call19 (fun w' hz' y0 y1  r  hr=>y4R (Z:=_)  (z3T:=y0) (z3U:=y1) (r:=r) w' hz'  hr) zwD (hw.owns ((.cons .here .nil) : Sel [stb z3y 98 [(.int .i64 z7q)],stb z6s 30 [(.int .i64 z24.fN),(.int .i64 z24.fD)],stb z5O 30 [(.int .i64 0),(.int .i64 0)],stb z7h 30 [(.int .i64 z4B),(.int .i64 z4C)],stb zbQ 30 [(.int .i64 z3Y.1.fN),(.int .i64 z3Y.1.fD)]] [stb z3y 98 [(.int .i64 z7q)]] [stb z6s 30 [(.int .i64 z24.fN),(.int .i64 z24.fD)],stb z5O 30 [(.int .i64 0),(.int .i64 0)],stb z7h 30 [(.int .i64 z4B),(.int .i64 z4C)],stb zbQ 30 [(.int .i64 z3Y.1.fN),(.int .i64 z3Y.1.fD)]]))) ?_
    refine WL.yb rfl rfl (yc (vs:=[(.int .i64 z8D.1.fN),(.int .i64 z8D.1.fD)]) (ds:=[(.int .i64 z8D.1.fN),(.int .i64 z8D.1.fD)]) yo rfl rfl rfl rfl (y2 rfl (y2 rfl yk)) .h3 (Nat.le_of_ble_eq_true rfl) rfl) ?_
    refine WL.nil ?_
    refine WX.yg ?_
    refine WX.a ?_
    refine WC.a ?_
    refine WL.a (d:=38) rfl rfl rfl (yW rfl rfl rfl) ?_
    refine WL.a (d:=15) rfl rfl rfl (q_m rfl) ?_
    refine WL.nil ?_
    exact WX.round (G:=Nat × Int × Int × Int × Int) ⟨zlZ,(i64 (z6T + 1)),z8D.2.fE,z8D.1.fN,z8D.1.fD⟩ h (Nat.lt_succ_self _) (.cons rfl (.cons rfl (.cons rfl (.cons rfl (.cons rfl (.cons rfl (.cons rfl .nil))))))) (.cons .h1 (.cons .h1 (.cons .h1 (.cons .here .nil))))
  ·replace h:=yi h zm0
   refine WC.exit ?_
   refine WX.ye ?_
   refine WX.ye ?_
   refine WX.yx ?_
   exact WX.mid (G:=Int × Int × Int) ⟨z4B,z4C,z6r⟩ h (.cons rfl (.cons rfl .nil)) (.cons .h2 (.cons .h2 (.cons .here .nil)))
 ·rintro z9c z9d zbN h
  replace h:=(zwv z9c z9d zbN).symm.trans h
  refine WC.b ?_
  refine WC.a ?_
  refine WL.a (d:=39) rfl rfl rfl (y4 (cs:=[(.int .i64 z9c),(.int .i64 z9d)]) y5 rfl rfl (y8 .h1)) ?_
  refine WL.yb rfl rfl (yc (vs:=[(.int .i64 z9c),(.int .i64 z9d)]) (ds:=[(.int .i64 z9c),(.int .i64 z9d)]) yo rfl rfl rfl rfl (y2 rfl (y2 rfl yk)) .here (Nat.le_of_ble_eq_true rfl) rfl) ?_
  refine WL.nil ?_
  refine WX.a ?_
  refine WC.ret ?_
  obtain rfl:=Option.some.inj h
  refine WX.y7 Try.results35 (.agg rfl y5 rfl (y8 .here) .nil) (fun w hw=>?_)
  exact ⟨yD rfl,hw.sub (.cons .h2 .nil)⟩
def y2W (z7i : z2h) (z1l : z7) (zcX : List (List z6)) (z7s : zSv) : Option (z7 × z2h) :=
 (y25 z7i zcX z1l).bind fun z8E=>(y12 z8E.2 (fun (y0 : z7) (y1 : z7)=>y2V y0 y1) z8E.1 z7s.fR).bind fun z8F=>(y12 z8F.2 (fun (y0 : z7) (y1 : z7)=>y1N y0 y1) z8F.1 z1l).bind fun z8G=>(y12 z8G.2 (fun (y0 : z7) (y1 : z7)=>y1l y0 y1) z8G.1 z7s.fLatency).bind fun zbR=>some (zbR.1,zbR.2)
set_option maxRecDepth 20000 in
theorem y7n (Z : Zp)  (z33 : Nat) (zg6 : Addr) (zi6 : Option Addr) (zi7 : Nat) (zg7 : Addr) (z7i : z2h) (z1l : z7) (zcX : List (List z6)) (z7s : zSv) (r : z7 × z2h) (w₀ : World) (hz : PZ (fps [stb z33 98 [(.int .i64 z7i.fE)]]) w₀ Z)
  (zwE : ZS Z 1 (p39 Z) zi6 zi7 zcX)
  (zwF : ZC Z zg6 [(.slice zi6 zcX.length zi7)])
  (zqw : ZC Z zg7 [(.int .i64 z7s.fR.fN),(.int .i64 z7s.fR.fD),(.int .i64 z7s.fLatency.fN),(.int .i64 z7s.fLatency.fD)])
  (h : y2W z7i z1l zcX z7s = some r)
  (hown : Hp (fps [stb z33 98 [(.int .i64 z7i.fE)]]) w₀ w₀ [stb z33 98 [(.int .i64 z7i.fE)]]) :
  Calls Try.prog 32 #[(.pointer (some ⟨z33,0,none⟩)),(.agg #[(.int .i64 z1l.fN),(.int .i64 z1l.fD)]),(.pointer (some zg6)),(.pointer (some zg7))] w₀ fun e w'=>e = .returned (.agg #[(.int .i64 r.1.fN),(.int .i64 r.1.fD)]) ∧ Hp (fps [stb z33 98 [(.int .i64 z7i.fE)]]) w₀ w' [stb z33 98 [(.int .i64 r.2.fE)]]:=by
 unfold y2W at h
 refine Calls.yd (vs:=[(.pointer (some ⟨z33,0,none⟩)),(.agg #[(.int .i64 z1l.fN),(.int .i64 z1l.fD)]),(.pointer (some zg6)),(.pointer (some zg7))]) (pre:=[stb z33 98 [(.int .i64 z7i.fE)]]) (env:=[(0,(.pointer (some ⟨z33,0,none⟩))),(1,(.agg #[(.int .i64 z1l.fN),(.int .i64 z1l.fD)])),(2,(.pointer (some zg6))),(3,(.pointer (some zg7)))]) Try.func32 rfl Try.ntmps32 rfl (hown) rfl ?_
 refine WC.b ?_
 refine WC.a ?_
 refine WL.new (dd:=5) rfl rfl rfl (yI (cs:=[(.int .i64 z1l.fN),(.int .i64 z1l.fD)]) rfl rfl) ?_
 intro z4D _
 refine WL.new (dd:=6) rfl rfl rfl (ym (cs:=[(.int .i64 0),(.int .i64 0)]) yt rfl) ?_
 intro z4V _
 refine WL.nil ?_
 refine WX.a ?_
 refine WC.b ?_
 obtain ⟨z8E,zwG,h⟩:=ze h
 obtain ⟨z8F,zwH,h⟩:=ze h
 obtain ⟨z8G,zwI,h⟩:=ze h
 obtain ⟨zbR,zwJ,h⟩:=ze h
 refine WC.yY (fun i=>[6,9,11,14,15].contains i) [stb z4D 30 [(.int .i64 z1l.fN),(.int .i64 z1l.fD)]] rfl ?_
 refine WD.a (i:=0) (d:=7) (by kernel_rfl) rfl (z8 (by kernel_rfl)) (za (by kernel_rfl)) rfl rfl rfl (fun _=>q_m rfl) ?_
 refine WD.a (i:=1) (d:=8) (by kernel_rfl) rfl (z8 (by kernel_rfl)) (za (by kernel_rfl)) rfl rfl rfl (fun _=>q_m rfl) ?_
 refine WD.a (i:=2) (d:=9) (by kernel_rfl) rfl (z8 (by kernel_rfl)) (za (by kernel_rfl)) rfl rfl rfl (fun _=>q_m rfl) ?_
 refine WD.a (i:=3) (d:=10) (by kernel_rfl) rfl (z8 (by kernel_rfl)) (za (by kernel_rfl)) rfl rfl rfl (fun _=>q_m rfl) ?_
 refine WD.e (i:=4) (d:=11) (by kernel_rfl) rfl (z8 (by kernel_rfl)) (za (by kernel_rfl)) rfl rfl rfl (ya y3f rfl (y4Z hz.pv zwF rfl)) ?_
 refine WD.e (i:=5) (d:=12) (by kernel_rfl) rfl (z8 (by kernel_rfl)) (za (by kernel_rfl)) rfl rfl rfl (y4 (cs:=[(.int .i64 z1l.fN),(.int .i64 z1l.fD)]) y5 rfl rfl (y8 .h1)) ?_
 refine WD.a (i:=7) (d:=14) (by kernel_rfl) rfl (z8 (by kernel_rfl)) (za (by kernel_rfl)) rfl rfl rfl (fun _=>y3 y5S rfl rfl) ?_
 refine WD.y2B (i:=8) (d:=15) (by kernel_rfl) rfl (z8 (by kernel_rfl)) (za (by kernel_rfl)) rfl rfl rfl (Sin.of (.cons .h1 .nil)) (y4 (cs:=[(.int .i64 z7s.fR.fN),(.int .i64 z7s.fR.fD)]) y5 rfl rfl (y6E (off:=0) (s:=2) hz.pv zqw rfl)) ?_
 refine WD.y2B (i:=10) (d:=17) (by kernel_rfl) rfl (z8 (by kernel_rfl)) (za (by kernel_rfl)) rfl rfl rfl (Sin.of (.cons .h1 .nil)) (y4 (cs:=[(.int .i64 z1l.fN),(.int .i64 z1l.fD)]) y5 rfl rfl (y8 .here)) ?_
 refine WD.a (i:=12) (d:=19) (by kernel_rfl) rfl (z8 (by kernel_rfl)) (za (by kernel_rfl)) rfl rfl rfl (fun _=>y3 y5T rfl rfl) ?_
 refine WD.y2B (i:=13) (d:=20) (by kernel_rfl) rfl (z8 (by kernel_rfl)) (za (by kernel_rfl)) rfl rfl rfl (Sin.of (.cons .h1 .nil)) (y4 (cs:=[(.int .i64 z7s.fLatency.fN),(.int .i64 z7s.fLatency.fD)]) y5 rfl rfl (y6E (off:=2) (s:=2) hz.pv zqw rfl)) ?_
 refine WD.call0 (i:=6) (dd:=13) rfl (by kernel_rfl) rfl rfl rfl (.inl ⟨rfl,(Sin.of (.cons .h2 .nil))⟩) (zj (l:=[.tmp 10,.tmp 11,.tmp 12]) Try.call35 (.cons rfl (.cons rfl (.cons rfl .nil)))) ((.cons .h2 .nil) : Sel [stb z4V 30 [(.int .i64 0),(.int .i64 0)],stb z4D 30 [(.int .i64 z1l.fN),(.int .i64 z1l.fD)],stb z33 98 [(.int .i64 z7i.fE)]] [stb z33 98 [(.int .i64 z7i.fE)]] [stb z4V 30 [(.int .i64 0),(.int .i64 0)],stb z4D 30 [(.int .i64 z1l.fN),(.int .i64 z1l.fD)]]) (fun w hw=>by have pz:=(hz.call hw ((.cons .h2 .nil) : Sel [stb z4V 30 [(.int .i64 0),(.int .i64 0)],stb z4D 30 [(.int .i64 z1l.fN),(.int .i64 z1l.fD)],stb z33 98 [(.int .i64 z7i.fE)]] [stb z33 98 [(.int .i64 z7i.fE)]] [stb z4V 30 [(.int .i64 0),(.int .i64 0)],stb z4D 30 [(.int .i64 z1l.fN),(.int .i64 z1l.fD)]])); exact Calls.mono (y4S (Z:=_) (z3y:=z33) (zbO:=zi6) (zbP:=zi7) (z7r:=z7i) (z5q:=zcX) (z24:=z1l) (r:=z8E) w pz zwE zwG (hw.owns ((.cons .h2 .nil) : Sel [stb z4V 30 [(.int .i64 0),(.int .i64 0)],stb z4D 30 [(.int .i64 z1l.fN),(.int .i64 z1l.fD)],stb z33 98 [(.int .i64 z7i.fE)]] [stb z33 98 [(.int .i64 z7i.fE)]] [stb z4V 30 [(.int .i64 0),(.int .i64 0)],stb z4D 30 [(.int .i64 z1l.fN),(.int .i64 z1l.fD)]]))) (fun _ _ h'=>⟨h'.1,trivial,h'.2⟩)) ?_
 intro _
 refine WD.call0 (i:=9) (dd:=16) rfl (by kernel_rfl) rfl rfl rfl (.inl ⟨rfl,(Sin.of (.cons .h2 .nil))⟩) (zj (l:=[.tmp 9,.func 34,.tmp 13,.tmp 15]) Try.call33 (.cons rfl (.cons rfl (.cons rfl (.cons rfl .nil))))) ((.cons .here .nil) : Sel [stb z33 98 [(.int .i64 z8E.2.fE)],stb z4V 30 [(.int .i64 0),(.int .i64 0)],stb z4D 30 [(.int .i64 z1l.fN),(.int .i64 z1l.fD)]] [stb z33 98 [(.int .i64 z8E.2.fE)]] [stb z4V 30 [(.int .i64 0),(.int .i64 0)],stb z4D 30 [(.int .i64 z1l.fN),(.int .i64 z1l.fD)]]) (fun w hw=>by have pz:=(hz.call hw ((.cons .here .nil) : Sel [stb z33 98 [(.int .i64 z8E.2.fE)],stb z4V 30 [(.int .i64 0),(.int .i64 0)],stb z4D 30 [(.int .i64 z1l.fN),(.int .i64 z1l.fD)]] [stb z33 98 [(.int .i64 z8E.2.fE)]] [stb z4V 30 [(.int .i64 0),(.int .i64 0)],stb z4D 30 [(.int .i64 z1l.fN),(.int .i64 z1l.fD)]])); exact Calls.mono (y1F (Z:=_) (z4r:=z33) (z7d:=34) (z7N:=[]) (z5o:=z8E.2) (z85:=(fun (y0 : z7) (y1 : z7)=>y2V y0 y1)) (z2U:=z8E.1) (z2V:=z7s.fR) (r:=z8F) w pz Try.call34 (fun w' hz' y0 y1  r  hr=>y8w (Z:=_)  (z4N:=y0) (z4O:=y1) (r:=r) w' hz'  hr) zwH (hw.owns ((.cons .here .nil) : Sel [stb z33 98 [(.int .i64 z8E.2.fE)],stb z4V 30 [(.int .i64 0),(.int .i64 0)],stb z4D 30 [(.int .i64 z1l.fN),(.int .i64 z1l.fD)]] [stb z33 98 [(.int .i64 z8E.2.fE)]] [stb z4V 30 [(.int .i64 0),(.int .i64 0)],stb z4D 30 [(.int .i64 z1l.fN),(.int .i64 z1l.fD)]]))) (fun _ _ h'=>⟨h'.1,trivial,h'.2⟩)) ?_
 intro _
 refine WD.call0 (i:=11) (dd:=18) rfl (by kernel_rfl) rfl rfl rfl (.inl ⟨rfl,(Sin.of (.cons .h2 .nil))⟩) (zj (l:=[.tmp 8,.func 24,.tmp 16,.tmp 17]) Try.call33 (.cons rfl (.cons rfl (.cons rfl (.cons rfl .nil))))) ((.cons .here .nil) : Sel [stb z33 98 [(.int .i64 z8F.2.fE)],stb z4V 30 [(.int .i64 0),(.int .i64 0)],stb z4D 30 [(.int .i64 z1l.fN),(.int .i64 z1l.fD)]] [stb z33 98 [(.int .i64 z8F.2.fE)]] [stb z4V 30 [(.int .i64 0),(.int .i64 0)],stb z4D 30 [(.int .i64 z1l.fN),(.int .i64 z1l.fD)]]) (fun w hw=>by have pz:=(hz.call hw ((.cons .here .nil) : Sel [stb z33 98 [(.int .i64 z8F.2.fE)],stb z4V 30 [(.int .i64 0),(.int .i64 0)],stb z4D 30 [(.int .i64 z1l.fN),(.int .i64 z1l.fD)]] [stb z33 98 [(.int .i64 z8F.2.fE)]] [stb z4V 30 [(.int .i64 0),(.int .i64 0)],stb z4D 30 [(.int .i64 z1l.fN),(.int .i64 z1l.fD)]])); exact Calls.mono (y1F (Z:=_) (z4r:=z33) (z7d:=24) (z7N:=[]) (z5o:=z8F.2) (z85:=(fun (y0 : z7) (y1 : z7)=>y1N y0 y1)) (z2U:=z8F.1) (z2V:=z1l) (r:=z8G) w pz Try.call24 (fun w' hz' y0 y1  r  hr=>y5n (Z:=_)  (z49:=y0) (z4a:=y1) (r:=r) w' hz'  hr) zwI (hw.owns ((.cons .here .nil) : Sel [stb z33 98 [(.int .i64 z8F.2.fE)],stb z4V 30 [(.int .i64 0),(.int .i64 0)],stb z4D 30 [(.int .i64 z1l.fN),(.int .i64 z1l.fD)]] [stb z33 98 [(.int .i64 z8F.2.fE)]] [stb z4V 30 [(.int .i64 0),(.int .i64 0)],stb z4D 30 [(.int .i64 z1l.fN),(.int .i64 z1l.fD)]]))) (fun _ _ h'=>⟨h'.1,trivial,h'.2⟩)) ?_
 intro _
 refine WD.call0 (i:=14) (dd:=21) rfl (by kernel_rfl) rfl rfl rfl (.inl ⟨rfl,(Sin.of (.cons .h2 .nil))⟩) (zj (l:=[.tmp 7,.func 19,.tmp 18,.tmp 20]) Try.call33 (.cons rfl (.cons rfl (.cons rfl (.cons rfl .nil))))) ((.cons .here .nil) : Sel [stb z33 98 [(.int .i64 z8G.2.fE)],stb z4V 30 [(.int .i64 0),(.int .i64 0)],stb z4D 30 [(.int .i64 z1l.fN),(.int .i64 z1l.fD)]] [stb z33 98 [(.int .i64 z8G.2.fE)]] [stb z4V 30 [(.int .i64 0),(.int .i64 0)],stb z4D 30 [(.int .i64 z1l.fN),(.int .i64 z1l.fD)]]) (fun w hw=>by have pz:=(hz.call hw ((.cons .here .nil) : Sel [stb z33 98 [(.int .i64 z8G.2.fE)],stb z4V 30 [(.int .i64 0),(.int .i64 0)],stb z4D 30 [(.int .i64 z1l.fN),(.int .i64 z1l.fD)]] [stb z33 98 [(.int .i64 z8G.2.fE)]] [stb z4V 30 [(.int .i64 0),(.int .i64 0)],stb z4D 30 [(.int .i64 z1l.fN),(.int .i64 z1l.fD)]])); exact Calls.mono (y1F (Z:=_) (z4r:=z33) (z7d:=19) (z7N:=[]) (z5o:=z8G.2) (z85:=(fun (y0 : z7) (y1 : z7)=>y1l y0 y1)) (z2U:=z8G.1) (z2V:=z7s.fLatency) (r:=zbR) w pz Try.call19 (fun w' hz' y0 y1  r  hr=>y4R (Z:=_)  (z3T:=y0) (z3U:=y1) (r:=r) w' hz'  hr) zwJ (hw.owns ((.cons .here .nil) : Sel [stb z33 98 [(.int .i64 z8G.2.fE)],stb z4V 30 [(.int .i64 0),(.int .i64 0)],stb z4D 30 [(.int .i64 z1l.fN),(.int .i64 z1l.fD)]] [stb z33 98 [(.int .i64 z8G.2.fE)]] [stb z4V 30 [(.int .i64 0),(.int .i64 0)],stb z4D 30 [(.int .i64 z1l.fN),(.int .i64 z1l.fD)]]))) (fun _ _ h'=>⟨h'.1,trivial,h'.2⟩)) ?_
 intro _
 refine WD.y6P (i:=15) rfl (by kernel_rfl) rfl rfl rfl (by kernel_rfl) (yc (vs:=[(.int .i64 zbR.1.fN),(.int .i64 zbR.1.fD)]) (ds:=[(.int .i64 zbR.1.fN),(.int .i64 zbR.1.fD)]) yo rfl rfl rfl rfl (y2 rfl (y2 rfl yk)) .h1 (Nat.le_of_ble_eq_true rfl) rfl) ?_
 refine WD.done (by kernel_rfl) ?_
 refine WX.a ?_
 refine WC.ret ?_
 obtain rfl:=Option.some.inj h
 refine WX.y7 Try.results32 (.agg rfl y5 rfl (y8 .here) .nil) (fun w hw=>?_)
 exact ⟨yD rfl,hw.sub (.cons .h1 .nil)⟩
def y1i (z6U : List (List z6)) (z64 : zSv) (z3u : z7) (z2k : List z7) (z9e : Int) : Option (Bool × (Nat × List z7 × Int)) :=
 (y2W (⟨z9e⟩ : z2h) z3u z6U z64).bind fun z3z=>(if decide (((z2k.length : Nat) : Int) = 0) then some true else chk ((0 : Int) ≤ 0 ∧ 0 < ((z2k.length : Nat) : Int)) ((yV z3z.1 (⟨((nth z2k 0).fN),((nth z2k 0).fD)⟩ : z7)).bind fun zm2=>some (decide (zm2 > 0)))).bind fun zm3=>if zm3 then some (true,(0,([z3z.1] : List z7),z3z.2.fE)) else some (true,(0,z2k,z3z.2.fE))
def y31 (z1z : List (List z6)) (zn : zSv) (z6U : List (List z6)) (z64 : zSv) (z1A : List z7) : Option (z7 × Int) :=
 (y2f z1z zn z6U z64 z1A).bind fun zet=>if decide (zet ≠ 0) then some ((⟨0,0⟩ : z7),zet) else jp2 (fun (z9E : Int) (z6t : List z7)=>if decide (z9E ≠ 0) then some ((⟨0,0⟩ : z7),z9E) else chk ((0 : Int) ≤ 0 ∧ 0 < ((z6t.length : Nat) : Int)) (some ((⟨((nth z6t 0).fN),((nth z6t 0).fD)⟩ : z7),0))) fun zm4=>(y2A z1z zn z6U z64 z1A).bind fun z1e=>(y1W (Nat × List z7 × Int) (fun (x : z7) (s : Nat × List z7 × Int)=>chk (s.1 = 0) (y1i z6U z64 x s.2.1 s.2.2)) (0,([] : List z7),0) z1z (⟨(⟨z1e.1,z1e.2.1⟩ : z7),(⟨z1e.2.2.1,z1e.2.2.2⟩ : z7)⟩ : zSv) z6U z64 z1A).bind fun z65=>zm4 z65.2.2 z65.2.1
set_option maxRecDepth 20000 in
theorem y6H (Z : Zp)  (z1R : Option Addr) (z1S : Nat) (z1J : Addr) (zcY : Option Addr) (zcZ : Nat) (z1K : Addr) (z1T : Option Addr) (z1U : Nat) (z1z : List (List z6)) (zn : zSv) (z6U : List (List z6)) (z64 : zSv) (z1A : List z7) (r : z7 × Int) (w₀ : World) (hz : PZ [] w₀ Z)
  (zm5 : ZS Z 1 (p39 Z) z1R z1S z1z)
  (zi8 : ZS Z 1 (p39 Z) zcY zcZ z6U)
  (zi9 : ZC Z z1J [(.slice zcY z6U.length zcZ)])
  (zia : ZC Z z1K [(.int .i64 z64.fR.fN),(.int .i64 z64.fR.fD),(.int .i64 z64.fLatency.fN),(.int .i64 z64.fLatency.fD)])
  (zm6 : ZS Z 2 (fun r x=>r = e30 x) z1T z1U z1A)
  (h : y31 z1z zn z6U z64 z1A = some r) :
  Calls Try.prog 36 #[(.agg #[(.slice z1R z1z.length z1S),(.int .i64 zn.fR.fN),(.int .i64 zn.fR.fD),(.int .i64 zn.fLatency.fN),(.int .i64 zn.fLatency.fD),(.func (.func 32) #[] #[(.pointer (some z1J)),(.pointer (some z1K))]),(.slice z1T z1A.length z1U)])] w₀ fun e w'=>∃ Zn : Zp,e = .returned (.tuple #[(.agg #[(.int .i64 r.1.fN),(.int .i64 r.1.fD)]),(.int .i64 r.2)]) ∧ True ∧ Hp [] w₀ w' [fz Zn]:=by
 unfold y31 at h
 refine Calls.y6u (vs:=[(.agg #[(.slice z1R z1z.length z1S),(.int .i64 zn.fR.fN),(.int .i64 zn.fR.fD),(.int .i64 zn.fLatency.fN),(.int .i64 zn.fLatency.fD),(.func (.func 32) #[] #[(.pointer (some z1J)),(.pointer (some z1K))]),(.slice z1T z1A.length z1U)])]) (pre:=[]) (env:=[(0,(.agg #[(.slice z1R z1z.length z1S),(.int .i64 zn.fR.fN),(.int .i64 zn.fR.fD),(.int .i64 zn.fLatency.fN),(.int .i64 zn.fLatency.fD),(.func (.func 32) #[] #[(.pointer (some z1J)),(.pointer (some z1K))]),(.slice z1T z1A.length z1U)]))]) Try.func36 rfl Try.ntmps36 rfl (Hp.nil w₀ _) rfl ?_
 refine WC.pool ?_
 refine WC.b ?_
 refine WC.a ?_
 refine WL.new (dd:=1) rfl rfl rfl (yI (cs:=[(.slice z1R z1z.length z1S),(.int .i64 zn.fR.fN),(.int .i64 zn.fR.fD),(.int .i64 zn.fLatency.fN),(.int .i64 zn.fLatency.fD),(.func (.func 32) #[] #[(.pointer (some z1J)),(.pointer (some z1K))]),(.slice z1T z1A.length z1U)]) rfl rfl) ?_
 intro z34 _
 refine WL.new (dd:=2) rfl rfl rfl (ym (cs:=[(.int .i64 0),(.int .i64 0)]) yt rfl) ?_
 intro z37 _
 refine WL.a (d:=3) rfl rfl rfl (q_z rfl) ?_
 refine WL.nil ?_
 refine WX.a ?_
 refine WC.b ?_
 refine WC.b ?_
 obtain ⟨zet,zwK,h⟩:=ze h
 refine WC.a ?_
 refine WL.a (d:=9) rfl rfl rfl (y4 (cs:=[(.slice z1R z1z.length z1S),(.int .i64 zn.fR.fN),(.int .i64 zn.fR.fD),(.int .i64 zn.fLatency.fN),(.int .i64 zn.fLatency.fD),(.func (.func 32) #[] #[(.pointer (some z1J)),(.pointer (some z1K))]),(.slice z1T z1A.length z1U)]) y5R rfl rfl (y8 .h1)) ?_
 refine WL.y2D (dd:=10) rfl rfl rfl (zj (l:=[.tmp 9]) Try.call52 (.cons rfl .nil)) (.nil : Sel [stb z37 30 [(.int .i64 0),(.int .i64 0)],stb z34 79 [(.slice z1R z1z.length z1S),(.int .i64 zn.fR.fN),(.int .i64 zn.fR.fD),(.int .i64 zn.fLatency.fN),(.int .i64 zn.fLatency.fD),(.func (.func 32) #[] #[(.pointer (some z1J)),(.pointer (some z1K))]),(.slice z1T z1A.length z1U)],fz []] [] [stb z37 30 [(.int .i64 0),(.int .i64 0)],stb z34 79 [(.slice z1R z1z.length z1S),(.int .i64 zn.fR.fN),(.int .i64 zn.fR.fD),(.int .i64 zn.fLatency.fN),(.int .i64 zn.fLatency.fD),(.func (.func 32) #[] #[(.pointer (some z1J)),(.pointer (some z1K))]),(.slice z1T z1A.length z1U)],fz []]) (fun w hw=>by have pz:=(hz.call2 hw (.nil : Sel [stb z37 30 [(.int .i64 0),(.int .i64 0)],stb z34 79 [(.slice z1R z1z.length z1S),(.int .i64 zn.fR.fN),(.int .i64 zn.fR.fD),(.int .i64 zn.fLatency.fN),(.int .i64 zn.fLatency.fD),(.func (.func 32) #[] #[(.pointer (some z1J)),(.pointer (some z1K))]),(.slice z1T z1A.length z1U)],fz []] [] [stb z37 30 [(.int .i64 0),(.int .i64 0)],stb z34 79 [(.slice z1R z1z.length z1S),(.int .i64 zn.fR.fN),(.int .i64 zn.fR.fD),(.int .i64 zn.fLatency.fN),(.int .i64 zn.fLatency.fD),(.func (.func 32) #[] #[(.pointer (some z1J)),(.pointer (some z1K))]),(.slice z1T z1A.length z1U)],fz []]) .h2); exact y6j (Z:=_) (z2s:=z1R) (z2t:=z1S) (z2E:=z1J) (zlc:=zcY) (zld:=zcZ) (z2F:=z1K) (z2G:=z1T) (z2H:=z1U) (z1Q:=z1z) (zl:=zn) (zfP:=z6U) (zcF:=z64) (z2r:=z1A) (r:=zet) w pz ((zm5.mono (Zle.left _ _)).weak (fun _ _ h=>yL (Zle.left _ _) h)) ((zi8.mono (Zle.left _ _)).weak (fun _ _ h=>yL (Zle.left _ _) h)) (zi9.mono (Zle.left _ _)) (zia.mono (Zle.left _ _)) (zm6.mono (Zle.left _ _)) zwK) ?_
 rintro z67 _
 refine WL.merge .here .h2 ?_
 refine WL.a (d:=4) rfl rfl rfl (q_z rfl) ?_
 refine WL.nil ?_
 refine WX.a ?_
 refine WC.b ?_
 refine WC.a ?_
 refine WL.a (d:=11) rfl rfl rfl (q_m rfl) ?_
 refine WL.a (d:=12) rfl rfl rfl (y2G rfl rfl) ?_
 refine WL.nil ?_
 refine WX.a ?_
 refine WC.cond rfl (fun zm7=>?_) (fun zm7=>?_)
 ·replace h:=yh h zm7
  refine WC.b ?_
  refine WC.a ?_
  refine WL.a (d:=13) rfl rfl rfl (y1g (v:=(.agg #[(.int .i64 0),(.int .i64 0)])) (Eos.parts (l:=[]) .nil []) (fun _=>by kernel_rfl)) ?_
  refine WL.a (d:=14) rfl rfl rfl (q_m rfl) ?_
  refine WL.yb rfl rfl (yc (vs:=[(.int .i64 0),(.int .i64 0)]) (ds:=[(.int .i64 0),(.int .i64 0)]) yo rfl rfl rfl rfl (y2 rfl (y2 rfl yk)) .h1 (Nat.le_of_ble_eq_true rfl) rfl) ?_
  refine WL.a (d:=3) rfl rfl rfl (q_z rfl) ?_
  refine WL.nil ?_
  refine WX.a ?_
  refine WC.ret ?_
  refine WX.y6 ?_
  obtain rfl:=Option.some.inj h
  refine WX.y7g Try.results36 (.agg rfl y5 rfl (y8 .here) (.tmp rfl .nil)) (fun w hw=>?_)
  exact ⟨([] ++ z67),y1M rfl rfl,trivial,hw.sub (.cons .h1 .nil)⟩
 ·replace h:=yi h zm7
  refine WC.skip ?_
  refine WX.a ?_
  refine WC.b ?_
  refine WC.a ?_
  refine WL.new (dd:=5) rfl rfl rfl (ym (cs:=[(.int .i64 0)]) y6W rfl) ?_
  intro z38 _
  refine WL.nil ?_
  refine WX.a ?_
  refine WC.b ?_
  refine WC.a ?_
  refine WL.new (dd:=6) rfl rfl rfl (ym (cs:=[(.slice none 0 0)]) y7S rfl) ?_
  intro z3j _
  refine WL.nil ?_
  refine WX.a ?_
  obtain ⟨zm4,zwL,h⟩:=y4b h
  refine WC.y6v (fun (zg8 : Nat) (z9E : Int) (z6t : List z7) (zd0 : Zp) (zg9 : Option Addr) (zga : Nat)=>(zm4 z9E z6t = some r) ∧ (Zle (Z ++ ([] ++ z67)) (Z ++ zd0))) (fun (zg8 : Nat) (z9E : Int) (z6t : List z7) (zd0 : Zp) (zg9 : Option Addr) (zga : Nat)=>[(2,(.pointer (some ⟨z37,0,none⟩))),(5,(.pointer (some ⟨z38,0,none⟩))),(6,(.pointer (some ⟨z3j,0,none⟩)))]) (fun (zg8 : Nat) (z9E : Int) (z6t : List z7) (zd0 : Zp) (zg9 : Option Addr) (zga : Nat)=>[fz zd0,stb z37 30 [(.int .i64 0),(.int .i64 0)],stb z38 98 [(.int .i64 z9E)],stb z3j 77 [(.slice zg9 z6t.length zga)],row (.slice zg9 z6t.length zga) 30 2 (z6t.flatMap e30),dfr zg8]) ?_ ?_
  ·skip
   refine WC.b ?_
   obtain ⟨z1e,zwM,h⟩:=ze h
   refine WC.a ?_
   refine WL.a (d:=15) rfl rfl rfl (y4 (cs:=[(.slice z1R z1z.length z1S),(.int .i64 zn.fR.fN),(.int .i64 zn.fR.fD),(.int .i64 zn.fLatency.fN),(.int .i64 zn.fLatency.fD),(.func (.func 32) #[] #[(.pointer (some z1J)),(.pointer (some z1K))]),(.slice z1T z1A.length z1U)]) y5R rfl rfl (y8 .h4)) ?_
   refine WL.y2D (dd:=16) rfl rfl rfl (zj (l:=[.tmp 15]) Try.call53 (.cons rfl .nil)) (.nil : Sel [stb z3j 77 [(.slice none 0 0)],stb z38 98 [(.int .i64 0)],fz ([] ++ z67),stb z37 30 [(.int .i64 0),(.int .i64 0)],stb z34 79 [(.slice z1R z1z.length z1S),(.int .i64 zn.fR.fN),(.int .i64 zn.fR.fD),(.int .i64 zn.fLatency.fN),(.int .i64 zn.fLatency.fD),(.func (.func 32) #[] #[(.pointer (some z1J)),(.pointer (some z1K))]),(.slice z1T z1A.length z1U)]] [] [stb z3j 77 [(.slice none 0 0)],stb z38 98 [(.int .i64 0)],fz ([] ++ z67),stb z37 30 [(.int .i64 0),(.int .i64 0)],stb z34 79 [(.slice z1R z1z.length z1S),(.int .i64 zn.fR.fN),(.int .i64 zn.fR.fD),(.int .i64 zn.fLatency.fN),(.int .i64 zn.fLatency.fD),(.func (.func 32) #[] #[(.pointer (some z1J)),(.pointer (some z1K))]),(.slice z1T z1A.length z1U)]]) (fun w hw=>by have pz:=(hz.call2 hw (.nil : Sel [stb z3j 77 [(.slice none 0 0)],stb z38 98 [(.int .i64 0)],fz ([] ++ z67),stb z37 30 [(.int .i64 0),(.int .i64 0)],stb z34 79 [(.slice z1R z1z.length z1S),(.int .i64 zn.fR.fN),(.int .i64 zn.fR.fD),(.int .i64 zn.fLatency.fN),(.int .i64 zn.fLatency.fD),(.func (.func 32) #[] #[(.pointer (some z1J)),(.pointer (some z1K))]),(.slice z1T z1A.length z1U)]] [] [stb z3j 77 [(.slice none 0 0)],stb z38 98 [(.int .i64 0)],fz ([] ++ z67),stb z37 30 [(.int .i64 0),(.int .i64 0)],stb z34 79 [(.slice z1R z1z.length z1S),(.int .i64 zn.fR.fN),(.int .i64 zn.fR.fD),(.int .i64 zn.fLatency.fN),(.int .i64 zn.fLatency.fD),(.func (.func 32) #[] #[(.pointer (some z1J)),(.pointer (some z1K))]),(.slice z1T z1A.length z1U)]]) .h2); exact y69 (Z:=_) (zcH:=z1R) (zcI:=z1S) (zcJ:=z1J) (zll:=zcY) (zlm:=zcZ) (zcK:=z1K) (zcL:=z1T) (zcM:=z1U) (zaw:=z1z) (z5a:=zn) (zfT:=z6U) (zcG:=z64) (zax:=z1A) (r:=z1e) w pz ((zm5.mono ((Zle.left _ _).trans ((Zle.left _ _).trans (Zle.yp _ _ _)))).weak (fun _ _ h=>yL ((Zle.left _ _).trans ((Zle.left _ _).trans (Zle.yp _ _ _))) h)) ((zi8.mono ((Zle.left _ _).trans ((Zle.left _ _).trans (Zle.yp _ _ _)))).weak (fun _ _ h=>yL ((Zle.left _ _).trans ((Zle.left _ _).trans (Zle.yp _ _ _))) h)) (zi9.mono ((Zle.left _ _).trans ((Zle.left _ _).trans (Zle.yp _ _ _)))) (zia.mono ((Zle.left _ _).trans ((Zle.left _ _).trans (Zle.yp _ _ _)))) (zm6.mono ((Zle.left _ _).trans ((Zle.left _ _).trans (Zle.yp _ _ _)))) zwM) ?_
   rintro z6u _
   refine WL.nil ?_
   refine WX.a ?_
   refine WC.block ?_
   refine WC.pool ?_
   refine WC.drop (.cons .here (.cons .h1 (.cons .h1 (.cons .h2 (.cons .h2 (.cons .here (.cons .here .nil))))))) ?_
   refine WC.nilRow 30 2 ?_
   refine WC.rangeFunc (f:=69) (caps:=[(.pointer (some ⟨z6u,0,none⟩))]) rfl Try.call69 ?_
   intro zBT zBU z4e z7Q z4E zib zwN zwO w hw
   have hw1:=hw.selAll ((.cons .h3 (.cons .h3 (.cons .h2 (.cons .h2 (.cons .h2 (.cons .h2 (.cons .here .nil))))))) : Sel _ [fz [],stb z3j 77 [(.slice none (([] : List z7).length) 0)],row (.slice none (([] : List z7).length) 0) 30 2 (([] : List z7).flatMap e30),stb z38 98 [(.int .i64 0)],stb z37 30 [(.int .i64 0),(.int .i64 0)],stb z34 79 [(.slice z1R z1z.length z1S),(.int .i64 zn.fR.fN),(.int .i64 zn.fR.fD),(.int .i64 zn.fLatency.fN),(.int .i64 zn.fLatency.fD),(.func (.func 32) #[] #[(.pointer (some z1J)),(.pointer (some z1K))]),(.slice z1T z1A.length z1U)],blk z4e (z4E .ready none)] _)
   have pz:=(hz.call2 hw1 ((.cons .here .nil) : Sel [y1A [fz [],stb z3j 77 [(.slice none (([] : List z7).length) 0)],row (.slice none (([] : List z7).length) 0) 30 2 (([] : List z7).flatMap e30),stb z38 98 [(.int .i64 0)],stb z37 30 [(.int .i64 0),(.int .i64 0)],stb z34 79 [(.slice z1R z1z.length z1S),(.int .i64 zn.fR.fN),(.int .i64 zn.fR.fD),(.int .i64 zn.fLatency.fN),(.int .i64 zn.fLatency.fD),(.func (.func 32) #[] #[(.pointer (some z1J)),(.pointer (some z1K))]),(.slice z1T z1A.length z1U)],blk z4e (z4E .ready none)],dfr z7Q,stb z6u 79 [(.slice z1R z1z.length z1S),(.int .i64 z1e.1),(.int .i64 z1e.2.1),(.int .i64 z1e.2.2.1),(.int .i64 z1e.2.2.2),(.func (.func 32) #[] #[(.pointer (some z1J)),(.pointer (some z1K))]),(.slice z1T z1A.length z1U)],fz ([] ++ z67)] [y1A [fz [],stb z3j 77 [(.slice none (([] : List z7).length) 0)],row (.slice none (([] : List z7).length) 0) 30 2 (([] : List z7).flatMap e30),stb z38 98 [(.int .i64 0)],stb z37 30 [(.int .i64 0),(.int .i64 0)],stb z34 79 [(.slice z1R z1z.length z1S),(.int .i64 zn.fR.fN),(.int .i64 zn.fR.fD),(.int .i64 zn.fLatency.fN),(.int .i64 zn.fLatency.fD),(.func (.func 32) #[] #[(.pointer (some z1J)),(.pointer (some z1K))]),(.slice z1T z1A.length z1U)],blk z4e (z4E .ready none)]] [dfr z7Q,stb z6u 79 [(.slice z1R z1z.length z1S),(.int .i64 z1e.1),(.int .i64 z1e.2.1),(.int .i64 z1e.2.2.1),(.int .i64 z1e.2.2.2),(.func (.func 32) #[] #[(.pointer (some z1J)),(.pointer (some z1K))]),(.slice z1T z1A.length z1U)],fz ([] ++ z67)]) .h2).lend hw1 ((.cons .here .nil) : Sel [y1A [fz [],stb z3j 77 [(.slice none (([] : List z7).length) 0)],row (.slice none (([] : List z7).length) 0) 30 2 (([] : List z7).flatMap e30),stb z38 98 [(.int .i64 0)],stb z37 30 [(.int .i64 0),(.int .i64 0)],stb z34 79 [(.slice z1R z1z.length z1S),(.int .i64 zn.fR.fN),(.int .i64 zn.fR.fD),(.int .i64 zn.fLatency.fN),(.int .i64 zn.fLatency.fD),(.func (.func 32) #[] #[(.pointer (some z1J)),(.pointer (some z1K))]),(.slice z1T z1A.length z1U)],blk z4e (z4E .ready none)],dfr z7Q,stb z6u 79 [(.slice z1R z1z.length z1S),(.int .i64 z1e.1),(.int .i64 z1e.2.1),(.int .i64 z1e.2.2.1),(.int .i64 z1e.2.2.2),(.func (.func 32) #[] #[(.pointer (some z1J)),(.pointer (some z1K))]),(.slice z1T z1A.length z1U)],fz ([] ++ z67)] [y1A [fz [],stb z3j 77 [(.slice none (([] : List z7).length) 0)],row (.slice none (([] : List z7).length) 0) 30 2 (([] : List z7).flatMap e30),stb z38 98 [(.int .i64 0)],stb z37 30 [(.int .i64 0),(.int .i64 0)],stb z34 79 [(.slice z1R z1z.length z1S),(.int .i64 zn.fR.fN),(.int .i64 zn.fR.fD),(.int .i64 zn.fLatency.fN),(.int .i64 zn.fLatency.fD),(.func (.func 32) #[] #[(.pointer (some z1J)),(.pointer (some z1K))]),(.slice z1T z1A.length z1U)],blk z4e (z4E .ready none)]] [dfr z7Q,stb z6u 79 [(.slice z1R z1z.length z1S),(.int .i64 z1e.1),(.int .i64 z1e.2.1),(.int .i64 z1e.2.2.1),(.int .i64 z1e.2.2.2),(.func (.func 32) #[] #[(.pointer (some z1J)),(.pointer (some z1K))]),(.slice z1T z1A.length z1U)],fz ([] ++ z67)]) (B:=[stb z6u 79 [(.slice z1R z1z.length z1S),(.int .i64 z1e.1),(.int .i64 z1e.2.1),(.int .i64 z1e.2.2.1),(.int .i64 z1e.2.2.2),(.func (.func 32) #[] #[(.pointer (some z1J)),(.pointer (some z1K))]),(.slice z1T z1A.length z1U)]]) (fun _ hx'=>((.cons .h1 .nil) : Sel _ [stb z6u 79 [(.slice z1R z1z.length z1S),(.int .i64 z1e.1),(.int .i64 z1e.2.1),(.int .i64 z1e.2.2.1),(.int .i64 z1e.2.2.2),(.func (.func 32) #[] #[(.pointer (some z1J)),(.pointer (some z1K))]),(.slice z1T z1A.length z1U)]] _).mem hx')
   obtain ⟨z65,zwP,h⟩:=ze h
   refine Calls.mono (y5w (Z:=_) (z86:=z4e) (z2u:=(Option Addr × Nat)) (z1u:=(fun (g : Option Addr × Nat) (s : Nat × List z7 × Int)=>y1A ([fz [],stb z3j 77 [(.slice g.1 s.2.1.length g.2)],row (.slice g.1 s.2.1.length g.2) 30 2 (s.2.1.flatMap e30),stb z38 98 [(.int .i64 s.2.2)],stb z37 30 [(.int .i64 0),(.int .i64 0)],stb z34 79 [(.slice z1R z1z.length z1S),(.int .i64 zn.fR.fN),(.int .i64 zn.fR.fD),(.int .i64 zn.fLatency.fN),(.int .i64 zn.fLatency.fD),(.func (.func 32) #[] #[(.pointer (some z1J)),(.pointer (some z1K))]),(.slice z1T z1A.length z1U)]] ++ [blk z4e (z4E (rdy (pcs [] s.1)) (pcs [] s.1))]))) (z87:=(fun (g : Option Addr × Nat) (s : Nat × List z7 × Int)=>True)) (z7O:=(none,0)) (z98:=⟨z6u,0,none⟩) (zbH:=z1R) (zbI:=z1S) (zlx:=z1J) (zly:=zcY) (zlz:=zcZ) (zlA:=z1K) (zfX:=z1T) (zfY:=z1U) (zx:=(Nat × List z7 × Int)) (z4c:=(fun (x : z7) (s : Nat × List z7 × Int)=>chk (s.1 = 0) (y1i z6U z64 x s.2.1 s.2.2))) (s0_16993:=(0,([] : List z7),0)) (z4z:=z1z) (zcN:=(⟨(⟨z1e.1,z1e.2.1⟩ : z7),(⟨z1e.2.2.1,z1e.2.2.2⟩ : z7)⟩ : zSv)) (zfW:=z6U) (zcO:=z64) (z1j:=z1A) (r:=z65) w pz ?_ trivial ((((zm5.mono ((Zle.left _ _).trans ((Zle.left _ _).trans (Zle.yp _ _ _)))).weak (fun _ _ h=>yL ((Zle.left _ _).trans ((Zle.left _ _).trans (Zle.yp _ _ _))) h)).mono (Zle.left _ _)).weak (fun _ _ h=>yL (Zle.left _ _) h)) ((((zi8.mono ((Zle.left _ _).trans ((Zle.left _ _).trans (Zle.yp _ _ _)))).weak (fun _ _ h=>yL ((Zle.left _ _).trans ((Zle.left _ _).trans (Zle.yp _ _ _))) h)).mono (Zle.left _ _)).weak (fun _ _ h=>yL (Zle.left _ _) h)) ((zi9.mono ((Zle.left _ _).trans ((Zle.left _ _).trans (Zle.yp _ _ _)))).mono (Zle.left _ _)) ((zia.mono ((Zle.left _ _).trans ((Zle.left _ _).trans (Zle.yp _ _ _)))).mono (Zle.left _ _)) ((zm6.mono ((Zle.left _ _).trans ((Zle.left _ _).trans (Zle.yp _ _ _)))).mono (Zle.left _ _)) ((hw1.lent ((.cons .here .nil) : Sel [y1A [fz [],stb z3j 77 [(.slice none (([] : List z7).length) 0)],row (.slice none (([] : List z7).length) 0) 30 2 (([] : List z7).flatMap e30),stb z38 98 [(.int .i64 0)],stb z37 30 [(.int .i64 0),(.int .i64 0)],stb z34 79 [(.slice z1R z1z.length z1S),(.int .i64 zn.fR.fN),(.int .i64 zn.fR.fD),(.int .i64 zn.fLatency.fN),(.int .i64 zn.fLatency.fD),(.func (.func 32) #[] #[(.pointer (some z1J)),(.pointer (some z1K))]),(.slice z1T z1A.length z1U)],blk z4e (z4E .ready none)],dfr z7Q,stb z6u 79 [(.slice z1R z1z.length z1S),(.int .i64 z1e.1),(.int .i64 z1e.2.1),(.int .i64 z1e.2.2.1),(.int .i64 z1e.2.2.2),(.func (.func 32) #[] #[(.pointer (some z1J)),(.pointer (some z1K))]),(.slice z1T z1A.length z1U)],fz ([] ++ z67)] [y1A [fz [],stb z3j 77 [(.slice none (([] : List z7).length) 0)],row (.slice none (([] : List z7).length) 0) 30 2 (([] : List z7).flatMap e30),stb z38 98 [(.int .i64 0)],stb z37 30 [(.int .i64 0),(.int .i64 0)],stb z34 79 [(.slice z1R z1z.length z1S),(.int .i64 zn.fR.fN),(.int .i64 zn.fR.fD),(.int .i64 zn.fLatency.fN),(.int .i64 zn.fLatency.fD),(.func (.func 32) #[] #[(.pointer (some z1J)),(.pointer (some z1K))]),(.slice z1T z1A.length z1U)],blk z4e (z4E .ready none)]] [dfr z7Q,stb z6u 79 [(.slice z1R z1z.length z1S),(.int .i64 z1e.1),(.int .i64 z1e.2.1),(.int .i64 z1e.2.2.1),(.int .i64 z1e.2.2.2),(.func (.func 32) #[] #[(.pointer (some z1J)),(.pointer (some z1K))]),(.slice z1T z1A.length z1U)],fz ([] ++ z67)]) (B:=[stb z6u 79 [(.slice z1R z1z.length z1S),(.int .i64 z1e.1),(.int .i64 z1e.2.1),(.int .i64 z1e.2.2.1),(.int .i64 z1e.2.2.2),(.func (.func 32) #[] #[(.pointer (some z1J)),(.pointer (some z1K))]),(.slice z1T z1A.length z1U)]]) (fun _ hx'=>((.cons .h1 .nil) : Sel _ [stb z6u 79 [(.slice z1R z1z.length z1S),(.int .i64 z1e.1),(.int .i64 z1e.2.1),(.int .i64 z1e.2.2.1),(.int .i64 z1e.2.2.2),(.func (.func 32) #[] #[(.pointer (some z1J)),(.pointer (some z1K))]),(.slice z1T z1A.length z1U)]] _).mem hx') (.head _) _).stb) zwP (hw1.owns ((.cons .here .nil) : Sel [y1A [fz [],stb z3j 77 [(.slice none (([] : List z7).length) 0)],row (.slice none (([] : List z7).length) 0) 30 2 (([] : List z7).flatMap e30),stb z38 98 [(.int .i64 0)],stb z37 30 [(.int .i64 0),(.int .i64 0)],stb z34 79 [(.slice z1R z1z.length z1S),(.int .i64 zn.fR.fN),(.int .i64 zn.fR.fD),(.int .i64 zn.fLatency.fN),(.int .i64 zn.fLatency.fD),(.func (.func 32) #[] #[(.pointer (some z1J)),(.pointer (some z1K))]),(.slice z1T z1A.length z1U)],blk z4e (z4E .ready none)],dfr z7Q,stb z6u 79 [(.slice z1R z1z.length z1S),(.int .i64 z1e.1),(.int .i64 z1e.2.1),(.int .i64 z1e.2.2.1),(.int .i64 z1e.2.2.2),(.func (.func 32) #[] #[(.pointer (some z1J)),(.pointer (some z1K))]),(.slice z1T z1A.length z1U)],fz ([] ++ z67)] [y1A [fz [],stb z3j 77 [(.slice none (([] : List z7).length) 0)],row (.slice none (([] : List z7).length) 0) 30 2 (([] : List z7).flatMap e30),stb z38 98 [(.int .i64 0)],stb z37 30 [(.int .i64 0),(.int .i64 0)],stb z34 79 [(.slice z1R z1z.length z1S),(.int .i64 zn.fR.fN),(.int .i64 zn.fR.fD),(.int .i64 zn.fLatency.fN),(.int .i64 zn.fLatency.fD),(.func (.func 32) #[] #[(.pointer (some z1J)),(.pointer (some z1K))]),(.slice z1T z1A.length z1U)],blk z4e (z4E .ready none)]] [dfr z7Q,stb z6u 79 [(.slice z1R z1z.length z1S),(.int .i64 z1e.1),(.int .i64 z1e.2.1),(.int .i64 z1e.2.2.1),(.int .i64 z1e.2.2.2),(.func (.func 32) #[] #[(.pointer (some z1J)),(.pointer (some z1K))]),(.slice z1T z1A.length z1U)],fz ([] ++ z67)]))) ?_
   ·skip
    refine y7f (LI:=(fun (g : Option Addr × Nat) (s : Nat × List z7 × Int)=>[fz [],stb z3j 77 [(.slice g.1 s.2.1.length g.2)],row (.slice g.1 s.2.1.length g.2) 30 2 (s.2.1.flatMap e30),stb z38 98 [(.int .i64 s.2.2)],stb z37 30 [(.int .i64 0),(.int .i64 0)],stb z34 79 [(.slice z1R z1z.length z1S),(.int .i64 zn.fR.fN),(.int .i64 zn.fR.fD),(.int .i64 zn.fLatency.fN),(.int .i64 zn.fLatency.fD),(.func (.func 32) #[] #[(.pointer (some z1J)),(.pointer (some z1K))]),(.slice z1T z1A.length z1U)]])) (pc:=(fun (s : Nat × List z7 × Int)=>pcs [] s.1)) zib zwN zwO (fun _ _=>rfl) (by decide) ?_
    rintro z3u _ ⟨z6v,z5r⟩ ⟨zwQ,z2k,z9e⟩ zwR zwS Fb wb zqx _ hz
    replace hz:=hz.left
    letI : Rnd:=inR z4e
    obtain ⟨hp0,z8b⟩:=yl zqx
    replace hp0 : zwQ = 0:=hp0; subst hp0; clear zqx
    replace z8b : y1i z6U z64 z3u z2k z9e = some (zwR,zwS):=z8b
    unfold y1i at z8b
    refine WC.restr (env':=[(1,(.pointer (some ⟨z34,0,none⟩))),(12,(.bool (decide (zet ≠ 0)))),(5,(.pointer (some ⟨z38,0,none⟩))),(6,(.pointer (some ⟨z3j,0,none⟩))),(17,(.agg #[(.int .i64 z3u.fN),(.int .i64 z3u.fD)]))]) (.cons rfl (.cons rfl (.cons rfl (.cons rfl (.cons rfl .nil))))) ?_
    refine WC.eqL (L':=[fz [],stb z3j 77 [(.slice z6v z2k.length z5r)],row (.slice z6v z2k.length z5r) 30 2 (z2k.flatMap e30),stb z38 98 [(.int .i64 z9e)],stb z37 30 [(.int .i64 0),(.int .i64 0)],stb z34 79 [(.slice z1R z1z.length z1S),(.int .i64 zn.fR.fN),(.int .i64 zn.fR.fD),(.int .i64 zn.fLatency.fN),(.int .i64 zn.fLatency.fD),(.func (.func 32) #[] #[(.pointer (some z1J)),(.pointer (some z1K))]),(.slice z1T z1A.length z1U)],blk z4e (z4E .ready none)]) rfl ?_
    refine WC.a ?_
    refine WL.new (dd:=7) rfl rfl rfl (ym (cs:=[(.int .i64 0),(.int .i64 0)]) yt rfl) ?_
    intro zaL _
    refine WL.yb rfl rfl (yc (vs:=[(.int .i64 z3u.fN),(.int .i64 z3u.fD)]) (ds:=[(.int .i64 z3u.fN),(.int .i64 z3u.fD)]) yo rfl rfl rfl rfl (y2 rfl (y2 rfl yk)) .here (Nat.le_of_ble_eq_true rfl) rfl) ?_
    refine WL.nil ?_
    refine WX.y7P zib .h7 ?_
    refine WC.block ?_
    refine WC.b ?_
    obtain ⟨z3z,zwT,z8b⟩:=ze z8b
    refine WC.a ?_
    refine WL.a (d:=18) rfl rfl rfl (y3 y7A rfl rfl) ?_
    refine WL.a (d:=19) rfl rfl rfl (ya y9K rfl (yv .h7 rfl)) ?_
    refine WL.a (d:=20) rfl rfl rfl (y4 (cs:=[(.int .i64 z3u.fN),(.int .i64 z3u.fD)]) y5 rfl rfl (y8 .h1)) ?_
    refine WL.b (dd:=21) rfl rfl rfl (y2C (l:=[.tmp 5,.tmp 20]) Try.call32 rfl (.cons rfl (.cons rfl .nil))) ((.cons .h5 .nil) : Sel [blk z4e (z4E .busy none),stb zaL 30 [(.int .i64 z3u.fN),(.int .i64 z3u.fD)],fz [],stb z3j 77 [(.slice z6v z2k.length z5r)],row (.slice z6v z2k.length z5r) 30 2 (z2k.flatMap e30),stb z38 98 [(.int .i64 z9e)],stb z37 30 [(.int .i64 0),(.int .i64 0)],stb z34 79 [(.slice z1R z1z.length z1S),(.int .i64 zn.fR.fN),(.int .i64 zn.fR.fD),(.int .i64 zn.fLatency.fN),(.int .i64 zn.fLatency.fD),(.func (.func 32) #[] #[(.pointer (some z1J)),(.pointer (some z1K))]),(.slice z1T z1A.length z1U)]] [stb z38 98 [(.int .i64 z9e)]] [blk z4e (z4E .busy none),stb zaL 30 [(.int .i64 z3u.fN),(.int .i64 z3u.fD)],fz [],stb z3j 77 [(.slice z6v z2k.length z5r)],row (.slice z6v z2k.length z5r) 30 2 (z2k.flatMap e30),stb z37 30 [(.int .i64 0),(.int .i64 0)],stb z34 79 [(.slice z1R z1z.length z1S),(.int .i64 zn.fR.fN),(.int .i64 zn.fR.fD),(.int .i64 zn.fLatency.fN),(.int .i64 zn.fLatency.fD),(.func (.func 32) #[] #[(.pointer (some z1J)),(.pointer (some z1K))]),(.slice z1T z1A.length z1U)]]) (fun w hw=>by have pz:=(hz.call2 hw ((.cons .h5 .nil) : Sel [blk z4e (z4E .busy none),stb zaL 30 [(.int .i64 z3u.fN),(.int .i64 z3u.fD)],fz [],stb z3j 77 [(.slice z6v z2k.length z5r)],row (.slice z6v z2k.length z5r) 30 2 (z2k.flatMap e30),stb z38 98 [(.int .i64 z9e)],stb z37 30 [(.int .i64 0),(.int .i64 0)],stb z34 79 [(.slice z1R z1z.length z1S),(.int .i64 zn.fR.fN),(.int .i64 zn.fR.fD),(.int .i64 zn.fLatency.fN),(.int .i64 zn.fLatency.fD),(.func (.func 32) #[] #[(.pointer (some z1J)),(.pointer (some z1K))]),(.slice z1T z1A.length z1U)]] [stb z38 98 [(.int .i64 z9e)]] [blk z4e (z4E .busy none),stb zaL 30 [(.int .i64 z3u.fN),(.int .i64 z3u.fD)],fz [],stb z3j 77 [(.slice z6v z2k.length z5r)],row (.slice z6v z2k.length z5r) 30 2 (z2k.flatMap e30),stb z37 30 [(.int .i64 0),(.int .i64 0)],stb z34 79 [(.slice z1R z1z.length z1S),(.int .i64 zn.fR.fN),(.int .i64 zn.fR.fD),(.int .i64 zn.fLatency.fN),(.int .i64 zn.fLatency.fD),(.func (.func 32) #[] #[(.pointer (some z1J)),(.pointer (some z1K))]),(.slice z1T z1A.length z1U)]]) .h2); exact y7n (Z:=_) (z33:=z38) (zg6:=z1J) (zi6:=zcY) (zi7:=zcZ) (zg7:=z1K) (z7i:=(⟨z9e⟩ : z2h)) (z1l:=z3u) (zcX:=z6U) (z7s:=z64) (r:=z3z) w pz ((zi8.mono ((Zle.left _ _).trans ((Zle.left _ _).trans ((Zle.yp _ _ _).trans (Zle.left _ _))))).weak (fun _ _ h=>yL ((Zle.left _ _).trans ((Zle.left _ _).trans ((Zle.yp _ _ _).trans (Zle.left _ _)))) h)) (zi9.mono ((Zle.left _ _).trans ((Zle.left _ _).trans ((Zle.yp _ _ _).trans (Zle.left _ _))))) (zia.mono ((Zle.left _ _).trans ((Zle.left _ _).trans ((Zle.yp _ _ _).trans (Zle.left _ _))))) zwT (hw.owns ((.cons .h5 .nil) : Sel [blk z4e (z4E .busy none),stb zaL 30 [(.int .i64 z3u.fN),(.int .i64 z3u.fD)],fz [],stb z3j 77 [(.slice z6v z2k.length z5r)],row (.slice z6v z2k.length z5r) 30 2 (z2k.flatMap e30),stb z38 98 [(.int .i64 z9e)],stb z37 30 [(.int .i64 0),(.int .i64 0)],stb z34 79 [(.slice z1R z1z.length z1S),(.int .i64 zn.fR.fN),(.int .i64 zn.fR.fD),(.int .i64 zn.fLatency.fN),(.int .i64 zn.fLatency.fD),(.func (.func 32) #[] #[(.pointer (some z1J)),(.pointer (some z1K))]),(.slice z1T z1A.length z1U)]] [stb z38 98 [(.int .i64 z9e)]] [blk z4e (z4E .busy none),stb zaL 30 [(.int .i64 z3u.fN),(.int .i64 z3u.fD)],fz [],stb z3j 77 [(.slice z6v z2k.length z5r)],row (.slice z6v z2k.length z5r) 30 2 (z2k.flatMap e30),stb z37 30 [(.int .i64 0),(.int .i64 0)],stb z34 79 [(.slice z1R z1z.length z1S),(.int .i64 zn.fR.fN),(.int .i64 zn.fR.fD),(.int .i64 zn.fLatency.fN),(.int .i64 zn.fLatency.fD),(.func (.func 32) #[] #[(.pointer (some z1J)),(.pointer (some z1K))]),(.slice z1T z1A.length z1U)]]))) ?_
    refine WL.new (dd:=8) rfl rfl rfl (ym (cs:=[(.int .i64 0),(.int .i64 0)]) yt rfl) ?_
    intro zm8 _
    refine WL.yb rfl rfl (yc (vs:=[(.int .i64 z3z.1.fN),(.int .i64 z3z.1.fD)]) (ds:=[(.int .i64 z3z.1.fN),(.int .i64 z3z.1.fD)]) yo rfl rfl rfl rfl (y2 rfl (y2 rfl yk)) .here (Nat.le_of_ble_eq_true rfl) rfl) ?_
    refine WL.nil ?_
    refine WX.a ?_
    refine WC.b ?_
    obtain ⟨zm3,zqy,z8b⟩:=ze z8b
    refine WC.yY (fun i=>[].contains i) [] rfl ?_
    refine WD.e (i:=0) (d:=22) (by kernel_rfl) rfl (z8 (by kernel_rfl)) (za (by kernel_rfl)) rfl rfl rfl (ya y3z rfl (yv .h5 rfl)) ?_
    refine WD.a (i:=1) (d:=23) (by kernel_rfl) rfl (z8 (by kernel_rfl)) (za (by kernel_rfl)) rfl rfl rfl (fun _=>y10 Try.underlying77 rfl) ?_
    refine WD.a (i:=2) (d:=24) (by kernel_rfl) rfl (z8 (by kernel_rfl)) (za (by kernel_rfl)) rfl rfl rfl (fun _=>y4C rfl rfl) ?_
    refine WD.a (i:=3) (d:=25) (by kernel_rfl) rfl (z8 (by kernel_rfl)) (za (by kernel_rfl)) rfl rfl rfl (fun _=>q_m rfl) ?_
    refine WD.mid (fuel':=0) [(1,(.pointer (some ⟨z34,0,none⟩))),(12,(.bool (decide (zet ≠ 0)))),(5,(.pointer (some ⟨z38,0,none⟩))),(6,(.pointer (some ⟨z3j,0,none⟩))),(17,(.agg #[(.int .i64 z3u.fN),(.int .i64 z3u.fD)])),(7,(.pointer (some ⟨zaL,0,none⟩))),(18,(.pointer (some ⟨z34,5,none⟩))),(19,(.func (.func 32) #[] #[(.pointer (some z1J)),(.pointer (some z1K))])),(20,(.agg #[(.int .i64 z3u.fN),(.int .i64 z3u.fD)])),(21,(.agg #[(.int .i64 z3z.1.fN),(.int .i64 z3z.1.fD)])),(8,(.pointer (some ⟨zm8,0,none⟩))),(22,(.slice z6v z2k.length z5r)),(23,(.int .i64 ((z2k.length : Nat) : Int))),(24,(.bool (decide (((z2k.length : Nat) : Int) = 0)))),(25,(.bool (decide (((z2k.length : Nat) : Int) = 0)))),(32,(.bool zm3))] (y1n 11 [10,9,8,7,6,5,4,3,2,1,0]) ?_ (fun zqz=>?_)
    rotate_left
    ·rcases Bool.eq_false_or_eq_true (decide (((z2k.length : Nat) : Int) = 0)) with hb' | hb'
     ·have zm9:=hb'; clear hb'
      have zma:=yh zqy zm9
      replace zma:=Option.some.inj zma
      refine WD.pin (i:=25) rfl zm9 ?_
      refine WD.b (i:=4) (d:=26) (by kernel_rfl) rfl (z8 (by kernel_rfl)) (za (by kernel_rfl)) rfl rfl rfl ?_
      refine WD.b (i:=5) (d:=27) (by kernel_rfl) rfl (z8 (by kernel_rfl)) (za (by kernel_rfl)) rfl rfl rfl ?_
      refine WD.b (i:=6) (d:=28) (by kernel_rfl) rfl (z8 (by kernel_rfl)) (za (by kernel_rfl)) rfl rfl rfl ?_
      refine WD.b (i:=7) (d:=29) (by kernel_rfl) rfl (z8 (by kernel_rfl)) (za (by kernel_rfl)) rfl rfl rfl ?_
      refine WD.b (i:=8) (d:=30) (by kernel_rfl) rfl (z8 (by kernel_rfl)) (za (by kernel_rfl)) rfl rfl rfl ?_
      refine WD.b (i:=9) (d:=31) (by kernel_rfl) rfl (z8 (by kernel_rfl)) (za (by kernel_rfl)) rfl rfl rfl ?_
      refine WD.a (i:=10) (d:=32) (by kernel_rfl) rfl (z8 (by kernel_rfl)) (za (by kernel_rfl)) rfl rfl rfl (fun _=>ys rfl rfl) ?_
      refine WD.yC (.cons .here (.cons .here (.cons .here (.cons .here (.cons .here (.cons .here (.cons .here (.cons .here (.cons .here .nil))))))))) ?_ zqz
      exact (.cons rfl (.cons rfl (.cons rfl (.cons rfl (.cons rfl (.cons rfl (.cons rfl (.cons rfl (.cons rfl (.cons rfl (.cons rfl (.cons rfl (.cons rfl (.cons rfl (.cons (zr (Eq.symm zm9)) (.cons (zr zma) .nil))))))))))))))))
     ·have zmb:=hb'; clear hb'
      have zd1:=yi zqy zmb
      obtain ⟨zgb,zd1⟩:=yl zd1
      obtain ⟨zm2,zwU,zd1⟩:=ze zd1
      replace zd1:=Option.some.inj zd1
      refine WD.pin (i:=25) rfl zmb ?_
      refine WD.e (i:=4) (d:=26) (by kernel_rfl) rfl (z8 (by kernel_rfl)) (za (by kernel_rfl)) rfl rfl rfl (y4 (cs:=[(.int .i64 z3z.1.fN),(.int .i64 z3z.1.fD)]) y5 rfl rfl (y8 .here)) ?_
      refine WD.e (i:=5) (d:=27) (by kernel_rfl) rfl (z8 (by kernel_rfl)) (za (by kernel_rfl)) rfl rfl rfl (ya y3z rfl (yv .h5 rfl)) ?_
      refine WD.know (fun w hw=>Hp.y3j .h6 hw (by intro hz'; have:=zgb; rw [hz'] at this; omega)) ?_
      rintro ⟨zic,rfl⟩
      refine WD.a (i:=6) (d:=28) (by kernel_rfl) rfl (z8 (by kernel_rfl)) (za (by kernel_rfl)) rfl rfl rfl (fun _=>y14 y1K rfl rfl zgb.1 zgb.2 y39) ?_
      refine WD.e (i:=7) (d:=29) (by kernel_rfl) rfl (z8 (by kernel_rfl)) (za (by kernel_rfl)) rfl rfl rfl (y4 (cs:=(e30 (nth z2k 0))) y5 rfl rfl (y36 .h6 (y2J (enc:=e30) (l:=z2k) (i:=0) (sz:=2) (fun _=>rfl) zgb.1 zgb.2))) ?_
      refine WD.c (i:=8) (d:=30) (by kernel_rfl) rfl (z8 (by kernel_rfl)) (za (by kernel_rfl)) rfl rfl rfl (zj (l:=[.tmp 26,.tmp 29]) Try.call18 (.cons rfl (.cons rfl .nil))) (fun w hw=>by have pz:=(hz.call2 hw (.nil : Sel [stb zm8 30 [(.int .i64 z3z.1.fN),(.int .i64 z3z.1.fD)],stb z38 98 [(.int .i64 z3z.2.fE)],blk z4e (z4E .busy none),stb zaL 30 [(.int .i64 z3u.fN),(.int .i64 z3u.fD)],fz [],stb z3j 77 [(.slice (some ⟨zic,0,none⟩) z2k.length z5r)],row (.slice (some ⟨zic,0,none⟩) z2k.length z5r) 30 2 (z2k.flatMap e30),stb z37 30 [(.int .i64 0),(.int .i64 0)],stb z34 79 [(.slice z1R z1z.length z1S),(.int .i64 zn.fR.fN),(.int .i64 zn.fR.fD),(.int .i64 zn.fLatency.fN),(.int .i64 zn.fLatency.fD),(.func (.func 32) #[] #[(.pointer (some z1J)),(.pointer (some z1K))]),(.slice z1T z1A.length z1U)]] [] [stb zm8 30 [(.int .i64 z3z.1.fN),(.int .i64 z3z.1.fD)],stb z38 98 [(.int .i64 z3z.2.fE)],blk z4e (z4E .busy none),stb zaL 30 [(.int .i64 z3u.fN),(.int .i64 z3u.fD)],fz [],stb z3j 77 [(.slice (some ⟨zic,0,none⟩) z2k.length z5r)],row (.slice (some ⟨zic,0,none⟩) z2k.length z5r) 30 2 (z2k.flatMap e30),stb z37 30 [(.int .i64 0),(.int .i64 0)],stb z34 79 [(.slice z1R z1z.length z1S),(.int .i64 zn.fR.fN),(.int .i64 zn.fR.fD),(.int .i64 zn.fLatency.fN),(.int .i64 zn.fLatency.fD),(.func (.func 32) #[] #[(.pointer (some z1J)),(.pointer (some z1K))]),(.slice z1T z1A.length z1U)]]) .h4); exact y26 (Z:=_)  (z29:=z3z.1) (z2a:=(⟨((nth z2k 0).fN),((nth z2k 0).fD)⟩ : z7)) (r:=zm2) w pz  zwU) ?_
      refine WD.a (i:=9) (d:=31) (by kernel_rfl) rfl (z8 (by kernel_rfl)) (za (by kernel_rfl)) rfl rfl rfl (fun _=>y2F rfl rfl) ?_
      refine WD.a (i:=10) (d:=32) (by kernel_rfl) rfl (z8 (by kernel_rfl)) (za (by kernel_rfl)) rfl rfl rfl (fun _=>yr rfl rfl) ?_
      refine WD.yC (.cons .here (.cons .here (.cons .here (.cons .here (.cons .here (.cons .here (.cons .here (.cons .here (.cons .here .nil))))))))) ?_ zqz
      exact (.cons rfl (.cons rfl (.cons rfl (.cons rfl (.cons rfl (.cons rfl (.cons rfl (.cons rfl (.cons rfl (.cons rfl (.cons rfl (.cons rfl (.cons rfl (.cons rfl (.cons (zr (Eq.symm zmb)) (.cons (zr zd1) .nil))))))))))))))))
    refine WD.done (by kernel_rfl) ?_
    refine WX.a ?_
    refine WC.cond rfl (fun zmc=>?_) (fun zmc=>?_)
    ·replace z8b:=yh z8b zmc
     refine WC.a ?_
     refine WL.a (d:=33) rfl rfl rfl (y4 (cs:=[(.int .i64 z3z.1.fN),(.int .i64 z3z.1.fD)]) y5 rfl rfl (y8 .here)) ?_
     refine WL.new (dd:=34) rfl rfl rfl (yB (cs:=([z3z.1] : List z7).flatMap e30) y1K (Eos.parts (l:=[.tmp 33]) (.cons rfl .nil) [0]) (fun _=>by kernel_rfl) rfl (by unfold maxLen; omega)) ?_
     intro zgc _
     refine WL.yb rfl rfl (yc (vs:=[(.slice (some ⟨zgc,0,none⟩) (([z3z.1] : List z7).length) 1)]) (ds:=[(.slice (some ⟨zgc,0,none⟩) (([z3z.1] : List z7).length) 1)]) y8h rfl rfl rfl rfl (y2 rfl yk) .h6 (Nat.le_of_ble_eq_true rfl) rfl) ?_
     refine WL.nil ?_
     refine WX.yg ?_
     obtain ⟨rfl,rfl⟩:=y6F z8b
     exact WX.y4j zib .h4 (fun w' hw'=>⟨((some ⟨zgc,0,none⟩),1),rfl,trivial,(hw'.selAll ((.cons .h6 (.cons .h1 (.cons .h1 (.cons .h2 (.cons .h4 (.cons .h4 (.cons .here .nil))))))) : Sel _ [fz [],stb z3j 77 [(.slice (some ⟨zgc,0,none⟩) (([z3z.1] : List z7).length) 1)],row (.slice (some ⟨zgc,0,none⟩) (([z3z.1] : List z7).length) 1) 30 2 (([z3z.1] : List z7).flatMap e30),stb z38 98 [(.int .i64 z3z.2.fE)],stb z37 30 [(.int .i64 0),(.int .i64 0)],stb z34 79 [(.slice z1R z1z.length z1S),(.int .i64 zn.fR.fN),(.int .i64 zn.fR.fD),(.int .i64 zn.fLatency.fN),(.int .i64 zn.fLatency.fD),(.func (.func 32) #[] #[(.pointer (some z1J)),(.pointer (some z1K))]),(.slice z1T z1A.length z1U)],blk z4e (z4E .ready none)] _)).sub (.cons .here .nil)⟩)
    ·replace z8b:=yi z8b zmc
     refine WC.skip ?_
     refine WX.yg ?_
     obtain ⟨rfl,rfl⟩:=y6F z8b
     exact WX.y4j zib .h2 (fun w' hw'=>⟨(z6v,z5r),rfl,trivial,(hw'.selAll ((.cons .h4 (.cons .h4 (.cons .h4 (.cons .h2 (.cons .h3 (.cons .h3 (.cons .here .nil))))))) : Sel _ [fz [],stb z3j 77 [(.slice z6v z2k.length z5r)],row (.slice z6v z2k.length z5r) 30 2 (z2k.flatMap e30),stb z38 98 [(.int .i64 z3z.2.fE)],stb z37 30 [(.int .i64 0),(.int .i64 0)],stb z34 79 [(.slice z1R z1z.length z1S),(.int .i64 zn.fR.fN),(.int .i64 zn.fR.fD),(.int .i64 zn.fLatency.fN),(.int .i64 zn.fLatency.fD),(.func (.func 32) #[] #[(.pointer (some z1J)),(.pointer (some z1K))]),(.slice z1T z1A.length z1U)],blk z4e (z4E .ready none)] _)).sub (.cons .here .nil)⟩)
   ·skip
    rintro _ w' ⟨zwV,⟨zgd,zge⟩,rfl,_,hp⟩
    have hp1:=hw1.call ((.cons .here .nil) : Sel [y1A [fz [],stb z3j 77 [(.slice none (([] : List z7).length) 0)],row (.slice none (([] : List z7).length) 0) 30 2 (([] : List z7).flatMap e30),stb z38 98 [(.int .i64 0)],stb z37 30 [(.int .i64 0),(.int .i64 0)],stb z34 79 [(.slice z1R z1z.length z1S),(.int .i64 zn.fR.fN),(.int .i64 zn.fR.fD),(.int .i64 zn.fLatency.fN),(.int .i64 zn.fLatency.fD),(.func (.func 32) #[] #[(.pointer (some z1J)),(.pointer (some z1K))]),(.slice z1T z1A.length z1U)],blk z4e (z4E .ready none)],dfr z7Q,stb z6u 79 [(.slice z1R z1z.length z1S),(.int .i64 z1e.1),(.int .i64 z1e.2.1),(.int .i64 z1e.2.2.1),(.int .i64 z1e.2.2.2),(.func (.func 32) #[] #[(.pointer (some z1J)),(.pointer (some z1K))]),(.slice z1T z1A.length z1U)],fz ([] ++ z67)] [y1A [fz [],stb z3j 77 [(.slice none (([] : List z7).length) 0)],row (.slice none (([] : List z7).length) 0) 30 2 (([] : List z7).flatMap e30),stb z38 98 [(.int .i64 0)],stb z37 30 [(.int .i64 0),(.int .i64 0)],stb z34 79 [(.slice z1R z1z.length z1S),(.int .i64 zn.fR.fN),(.int .i64 zn.fR.fD),(.int .i64 zn.fLatency.fN),(.int .i64 zn.fLatency.fD),(.func (.func 32) #[] #[(.pointer (some z1J)),(.pointer (some z1K))]),(.slice z1T z1A.length z1U)],blk z4e (z4E .ready none)]] [dfr z7Q,stb z6u 79 [(.slice z1R z1z.length z1S),(.int .i64 z1e.1),(.int .i64 z1e.2.1),(.int .i64 z1e.2.2.1),(.int .i64 z1e.2.2.2),(.func (.func 32) #[] #[(.pointer (some z1J)),(.pointer (some z1K))]),(.slice z1T z1A.length z1U)],fz ([] ++ z67)]) hp
    have hp2 : Hp _ _ w' [fz [],stb z3j 77 [(.slice zgd z65.2.1.length zge)],row (.slice zgd z65.2.1.length zge) 30 2 (z65.2.1.flatMap e30),stb z38 98 [(.int .i64 z65.2.2)],stb z37 30 [(.int .i64 0),(.int .i64 0)],stb z34 79 [(.slice z1R z1z.length z1S),(.int .i64 zn.fR.fN),(.int .i64 zn.fR.fD),(.int .i64 zn.fLatency.fN),(.int .i64 zn.fLatency.fD),(.func (.func 32) #[] #[(.pointer (some z1J)),(.pointer (some z1K))]),(.slice z1T z1A.length z1U)],blk z4e (z4E (rdy (pcs [] z65.1)) (pcs [] z65.1)),fz zwV,dfr z7Q,stb z6u 79 [(.slice z1R z1z.length z1S),(.int .i64 z1e.1),(.int .i64 z1e.2.1),(.int .i64 z1e.2.2.1),(.int .i64 z1e.2.2.2),(.func (.func 32) #[] #[(.pointer (some z1J)),(.pointer (some z1K))]),(.slice z1T z1A.length z1U)],fz ([] ++ z67)]:=hp1.pickAll .h1
    refine ⟨_,pcs [] z65.1,_,rfl,(hp2.sub ((.cons .h6 (.cons .here (.cons .here (.cons .here (.cons .here (.cons .here (.cons .here (.cons .h1 (.cons .h1 (.cons .h1 .nil)))))))))) : Sel _ [blk z4e (z4E (rdy (pcs [] z65.1)) (pcs [] z65.1)),fz [],stb z3j 77 [(.slice zgd z65.2.1.length zge)],row (.slice zgd z65.2.1.length zge) 30 2 (z65.2.1.flatMap e30),stb z38 98 [(.int .i64 z65.2.2)],stb z37 30 [(.int .i64 0),(.int .i64 0)],stb z34 79 [(.slice z1R z1z.length z1S),(.int .i64 zn.fR.fN),(.int .i64 zn.fR.fD),(.int .i64 zn.fLatency.fN),(.int .i64 zn.fLatency.fD),(.func (.func 32) #[] #[(.pointer (some z1J)),(.pointer (some z1K))]),(.slice z1T z1A.length z1U)],dfr z7Q,stb z6u 79 [(.slice z1R z1z.length z1S),(.int .i64 z1e.1),(.int .i64 z1e.2.1),(.int .i64 z1e.2.2.1),(.int .i64 z1e.2.2.2),(.func (.func 32) #[] #[(.pointer (some z1J)),(.pointer (some z1K))]),(.slice z1T z1A.length z1U)],fz ([] ++ z67)] _)),?_⟩
    clear hp hp1 hp2 pz hw hw1
    refine wjN ?_
    letI : Rnd:=aft z7Q
    refine WX.merge .here .h7 ?_
    refine WX.yg ?_
    exact WX.midR (D:=fun (g : Nat × Int × List z7 × Zp × Option Addr × Nat)=>g.1) (G:=Nat × Int × List z7 × Zp × Option Addr × Nat) ⟨z7Q,z65.2.2,z65.2.1,(([] ++ z67) ++ []),zgd,zge⟩ ⟨h,((Zle.left _ _).trans (Zle.yp _ _ _))⟩ (.cons rfl (.cons rfl (.cons rfl .nil))) (.cons .here (.cons .h3 (.cons .h2 (.cons .here (.cons .here (.cons .h1 .nil))))))
  ·rintro zg8 z9E z6t zd0 zg9 zga ⟨h,zBV⟩
   replace h:=(zwL z9E z6t).symm.trans h
   letI : Rnd:=aft zg8
   refine WC.b ?_
   refine WC.b ?_
   refine WC.a ?_
   refine WL.a (d:=35) rfl rfl rfl (y3 y3g rfl rfl) ?_
   refine WL.a (d:=36) rfl rfl rfl (ya y2K rfl (yv .h2 rfl)) ?_
   refine WL.a (d:=37) rfl rfl rfl (y2G rfl rfl) ?_
   refine WL.nil ?_
   refine WX.a ?_
   refine WC.cond rfl (fun zmd=>?_) (fun zmd=>?_)
   ·replace h:=yh h zmd
    refine WC.b ?_
    refine WC.yY (fun i=>[3].contains i) [stbp z38 98 [(0,(.int .i64 z9E))]] rfl ?_
    refine WD.a (i:=0) (d:=38) (by kernel_rfl) rfl (z8 (by kernel_rfl)) (za (by kernel_rfl)) rfl rfl rfl (fun _=>y1g (v:=(.agg #[(.int .i64 0),(.int .i64 0)])) (Eos.parts (l:=[]) .nil []) (fun _=>by kernel_rfl)) ?_
    refine WD.a (i:=1) (d:=39) (by kernel_rfl) rfl (z8 (by kernel_rfl)) (za (by kernel_rfl)) rfl rfl rfl (fun _=>y3 y3g rfl rfl) ?_
    refine WD.y2B (i:=2) (d:=40) (by kernel_rfl) rfl (z8 (by kernel_rfl)) (za (by kernel_rfl)) rfl rfl rfl (Sin.wk (.cons .h2 .nil) (.stb (.cons rfl .nil) .nil)) (ya y2K rfl (y7w .here (.head _))) ?_
    refine WD.forced0 (i:=3) rfl (by kernel_rfl) rfl rfl rfl (Sin.wk (.cons .h2 .nil) (.stb (.cons rfl .nil) .nil)) (yc (vs:=[(.int .i64 0),(.int .i64 0)]) (ds:=[(.int .i64 0),(.int .i64 0)]) yo rfl rfl rfl rfl (y2 rfl (y2 rfl yk)) .h1 (Nat.le_of_ble_eq_true rfl) rfl) ?_
    refine WD.a (i:=4) (d:=3) (by kernel_rfl) rfl (z8 (by kernel_rfl)) (za (by kernel_rfl)) rfl rfl rfl (fun _=>q_z rfl) ?_
    refine WD.done (by kernel_rfl) ?_
    refine WX.a ?_
    refine WC.ret ?_
    refine WX.y6 ?_
    obtain rfl:=Option.some.inj h
    refine WX.y4N .h5 Try.results36 (.agg rfl y5 rfl (y8 .h1) (.tmp rfl .nil)) (fun w hw=>?_)
    exact ⟨zd0,y1M rfl rfl,trivial,hw.sub (.cons .h2 .nil)⟩
   ·replace h:=yi h zmd
    refine WC.skip ?_
    refine WX.a ?_
    refine WC.b ?_
    obtain ⟨zgf,h⟩:=yl h
    refine WC.a ?_
    refine WL.a (d:=41) rfl rfl rfl (ya y3z rfl (yv .h3 rfl)) ?_
    refine WL.know (fun w hw=>Hp.y3j .h4 hw (by intro hz'; have:=zgf; rw [hz'] at this; omega)) ?_
    rintro ⟨zBW,rfl⟩
    refine WL.a (d:=42) rfl rfl rfl (y14 y1K rfl rfl zgf.1 zgf.2 y39) ?_
    refine WL.a (d:=43) rfl rfl rfl (y4 (cs:=(e30 (nth z6t 0))) y5 rfl rfl (y36 .h4 (y2J (enc:=e30) (l:=z6t) (i:=0) (sz:=2) (fun _=>rfl) zgf.1 zgf.2))) ?_
    refine WL.yb rfl rfl (yc (vs:=[(.int .i64 ((nth z6t 0).fN)),(.int .i64 ((nth z6t 0).fD))]) (ds:=[(.int .i64 ((nth z6t 0).fN)),(.int .i64 ((nth z6t 0).fD))]) yo rfl rfl rfl rfl (y2 rfl (y2 rfl yk)) .h1 (Nat.le_of_ble_eq_true rfl) rfl) ?_
    refine WL.a (d:=3) rfl rfl rfl (q_z rfl) ?_
    refine WL.nil ?_
    refine WX.a ?_
    refine WC.ret ?_
    obtain rfl:=Option.some.inj h
    refine WX.y4N .h5 Try.results36 (.agg rfl y5 rfl (y8 .h1) (.tmp rfl .nil)) (fun w hw=>?_)
    exact ⟨zd0,y1M rfl rfl,trivial,hw.sub (.cons .h2 .nil)⟩
def y2o (z4W : List (List z6)) (z1B : zSv) : Option (z7 × Int) :=
 (y31 z4W z1B z4W z1B []).bind fun z7R=>some (z7R.1,z7R.2)
set_option maxRecDepth 20000 in
theorem y3N (Z : Zp)  (z5P : Option Addr) (z5Q : Nat) (z4W : List (List z6)) (z1B : zSv) (r : z7 × Int) (w₀ : World) (hz : PZ [] w₀ Z)
  (zqA : ZS Z 1 (p39 Z) z5P z5Q z4W)
  (h : y2o z4W z1B = some r) :
  Calls Try.prog 15 #[(.slice z5P z4W.length z5Q),(.agg #[(.int .i64 z1B.fR.fN),(.int .i64 z1B.fR.fD),(.int .i64 z1B.fLatency.fN),(.int .i64 z1B.fLatency.fD)])] w₀ fun e w'=>∃ Zn : Zp,e = .returned (.tuple #[(.agg #[(.int .i64 r.1.fN),(.int .i64 r.1.fD)]),(.int .i64 r.2)]) ∧ True ∧ Hp [] w₀ w' [fz Zn]:=by
 unfold y2o at h
 refine Calls.yd (vs:=[(.slice z5P z4W.length z5Q),(.agg #[(.int .i64 z1B.fR.fN),(.int .i64 z1B.fR.fD),(.int .i64 z1B.fLatency.fN),(.int .i64 z1B.fLatency.fD)])]) (pre:=[]) (env:=[(0,(.slice z5P z4W.length z5Q)),(1,(.agg #[(.int .i64 z1B.fR.fN),(.int .i64 z1B.fR.fD),(.int .i64 z1B.fLatency.fN),(.int .i64 z1B.fLatency.fD)]))]) Try.func15 rfl Try.ntmps15 rfl (Hp.nil w₀ _) rfl ?_
 refine WC.pool ?_
 refine WC.b ?_
 refine WC.a ?_
 refine WL.new (dd:=2) rfl rfl rfl (yI (cs:=[(.slice z5P z4W.length z5Q)]) rfl rfl) ?_
 intro zbS _
 refine WL.new (dd:=3) rfl rfl rfl (yI (cs:=[(.int .i64 z1B.fR.fN),(.int .i64 z1B.fR.fD),(.int .i64 z1B.fLatency.fN),(.int .i64 z1B.fLatency.fD)]) rfl rfl) ?_
 intro zbT _
 refine WL.new (dd:=4) rfl rfl rfl (ym (cs:=[(.int .i64 0),(.int .i64 0)]) yt rfl) ?_
 intro zid _
 refine WL.a (d:=5) rfl rfl rfl (q_z rfl) ?_
 refine WL.nil ?_
 refine WX.a ?_
 refine WC.b ?_
 refine WC.a ?_
 refine WL.a (d:=7) rfl rfl rfl (ya y3f rfl (yv .h2 rfl)) ?_
 refine WL.a (d:=8) rfl rfl rfl (y4 (cs:=[(.int .i64 z1B.fR.fN),(.int .i64 z1B.fR.fD),(.int .i64 z1B.fLatency.fN),(.int .i64 z1B.fLatency.fD)]) y4k rfl rfl (y8 .h1)) ?_
 refine WL.a (d:=9) rfl rfl rfl (y1g (v:=(.agg #[(.slice z5P z4W.length z5Q),(.int .i64 z1B.fR.fN),(.int .i64 z1B.fR.fD),(.int .i64 z1B.fLatency.fN),(.int .i64 z1B.fLatency.fD),.nilFunc,(.slice none 0 0)])) (Eos.parts (l:=[.tmp 7,.tmp 8]) (.cons rfl (.cons rfl .nil)) [0,1]) (fun _=>by kernel_rfl)) ?_
 refine WL.new (dd:=6) rfl rfl rfl (ym (cs:=[(.slice none 0 0),(.int .i64 0),(.int .i64 0),(.int .i64 0),(.int .i64 0),.nilFunc,(.slice none 0 0)]) y92 rfl) ?_
 intro zie _
 refine WL.yb rfl rfl (yc (vs:=[(.slice z5P z4W.length z5Q),(.int .i64 z1B.fR.fN),(.int .i64 z1B.fR.fD),(.int .i64 z1B.fLatency.fN),(.int .i64 z1B.fLatency.fD),.nilFunc,(.slice none 0 0)]) (ds:=[(.slice z5P z4W.length z5Q),(.int .i64 z1B.fR.fN),(.int .i64 z1B.fR.fD),(.int .i64 z1B.fLatency.fN),(.int .i64 z1B.fLatency.fD),.nilFunc,(.slice none 0 0)]) y9H rfl rfl rfl rfl (y2 rfl (y2 rfl (y2 rfl (y2 rfl (y2 rfl (y2 rfl (y2 rfl yk))))))) .here (Nat.le_of_ble_eq_true rfl) rfl) ?_
 refine WL.nil ?_
 refine WX.a ?_
 refine WC.b ?_
 refine WC.a ?_
 refine WL.a (d:=10) rfl rfl rfl (y1d (Eos.caps (l:=[.tmp 2,.tmp 3]) (.cons rfl (.cons rfl .nil)))) ?_
 refine WL.a (d:=11) rfl rfl rfl (y3 y7A rfl rfl) ?_
 refine WL.yb rfl rfl (yc (vs:=[(.func (.func 32) #[] #[(.pointer (some ⟨zbS,0,none⟩)),(.pointer (some ⟨zbT,0,none⟩))])]) (ds:=[(.slice z5P z4W.length z5Q),(.int .i64 z1B.fR.fN),(.int .i64 z1B.fR.fD),(.int .i64 z1B.fLatency.fN),(.int .i64 z1B.fLatency.fD),(.func (.func 32) #[] #[(.pointer (some ⟨zbS,0,none⟩)),(.pointer (some ⟨zbT,0,none⟩))]),(.slice none 0 0)]) y9I rfl rfl rfl rfl (y2 rfl yk) .here (Nat.le_of_ble_eq_true rfl) rfl) ?_
 refine WL.nil ?_
 refine WX.a ?_
 refine WC.b ?_
 obtain ⟨z7R,zwW,h⟩:=ze h
 refine WC.a ?_
 refine WL.a (d:=12) rfl rfl rfl (y4 (cs:=[(.slice z5P z4W.length z5Q),(.int .i64 z1B.fR.fN),(.int .i64 z1B.fR.fD),(.int .i64 z1B.fLatency.fN),(.int .i64 z1B.fLatency.fD),(.func (.func 32) #[] #[(.pointer (some ⟨zbS,0,none⟩)),(.pointer (some ⟨zbT,0,none⟩))]),(.slice none 0 0)]) y5R rfl rfl (y8 .here)) ?_
 refine WL.freezeC (Z:=Z) .h3 .h3 ?_
 intro zBX zif zwX
 refine WL.freezeC (Z:=Z) .h3 .here ?_
 intro zgg zgh zwY
 refine WL.y2D (dd:=13) rfl rfl rfl (zj (l:=[.tmp 12]) Try.call36 (.cons rfl .nil)) (.nil : Sel [fz zgg,stb zie 79 [(.slice z5P z4W.length z5Q),(.int .i64 z1B.fR.fN),(.int .i64 z1B.fR.fD),(.int .i64 z1B.fLatency.fN),(.int .i64 z1B.fLatency.fD),(.func (.func 32) #[] #[(.pointer (some ⟨zbS,0,none⟩)),(.pointer (some ⟨zbT,0,none⟩))]),(.slice none 0 0)],stb zid 30 [(.int .i64 0),(.int .i64 0)]] [] [fz zgg,stb zie 79 [(.slice z5P z4W.length z5Q),(.int .i64 z1B.fR.fN),(.int .i64 z1B.fR.fD),(.int .i64 z1B.fLatency.fN),(.int .i64 z1B.fLatency.fD),(.func (.func 32) #[] #[(.pointer (some ⟨zbS,0,none⟩)),(.pointer (some ⟨zbT,0,none⟩))]),(.slice none 0 0)],stb zid 30 [(.int .i64 0),(.int .i64 0)]]) (fun w hw=>by have pz:=(hz.call2 hw (.nil : Sel [fz zgg,stb zie 79 [(.slice z5P z4W.length z5Q),(.int .i64 z1B.fR.fN),(.int .i64 z1B.fR.fD),(.int .i64 z1B.fLatency.fN),(.int .i64 z1B.fLatency.fD),(.func (.func 32) #[] #[(.pointer (some ⟨zbS,0,none⟩)),(.pointer (some ⟨zbT,0,none⟩))]),(.slice none 0 0)],stb zid 30 [(.int .i64 0),(.int .i64 0)]] [] [fz zgg,stb zie 79 [(.slice z5P z4W.length z5Q),(.int .i64 z1B.fR.fN),(.int .i64 z1B.fR.fD),(.int .i64 z1B.fLatency.fN),(.int .i64 z1B.fLatency.fD),(.func (.func 32) #[] #[(.pointer (some ⟨zbS,0,none⟩)),(.pointer (some ⟨zbT,0,none⟩))]),(.slice none 0 0)],stb zid 30 [(.int .i64 0),(.int .i64 0)]]) .here); exact y6H (Z:=_) (z1R:=z5P) (z1S:=z5Q) (z1J:=⟨zbS,0,none⟩) (zcY:=z5P) (zcZ:=z5Q) (z1K:=⟨zbT,0,none⟩) (z1T:=none) (z1U:=0) (z1z:=z4W) (zn:=z1B) (z6U:=z4W) (z64:=z1B) (z1A:=[]) (r:=z7R) w pz ((zqA.mono ((Zle.left _ _).trans (zif.trans zgh))).weak (fun _ _ h=>yL ((Zle.left _ _).trans (zif.trans zgh)) h)) ((zqA.mono ((Zle.left _ _).trans (zif.trans zgh))).weak (fun _ _ h=>yL ((Zle.left _ _).trans (zif.trans zgh)) h)) (zwX.mono zgh) zwY (ZS.nil _ _ _) zwW) ?_
 rintro zwZ _
 refine WL.merge .here .here ?_
 refine WL.a (d:=14) rfl rfl rfl (yf rfl rfl) ?_
 refine WL.a (d:=15) rfl rfl rfl (yf rfl rfl) ?_
 refine WL.yb rfl rfl (yc (vs:=[(.int .i64 z7R.1.fN),(.int .i64 z7R.1.fD)]) (ds:=[(.int .i64 z7R.1.fN),(.int .i64 z7R.1.fD)]) yo rfl rfl rfl rfl (y2 rfl (y2 rfl yk)) .h2 (Nat.le_of_ble_eq_true rfl) rfl) ?_
 refine WL.a (d:=5) rfl rfl rfl (q_z rfl) ?_
 refine WL.nil ?_
 refine WX.a ?_
 refine WC.ret ?_
 obtain rfl:=Option.some.inj h
 refine WX.y7 Try.results15 (.agg rfl y5 rfl (y8 .here) (.tmp rfl .nil)) (fun w hw=>?_)
 exact ⟨(zgg ++ zwZ),y1M rfl rfl,trivial,hw.sub (.cons .h1 .nil)⟩
def yS (z1V : List (List z6)) (zaM : Int → Int → Int → Option Int) : Nat → Int → Int → Int → Int → Option Int
 | 0,_,_,_,_=>none
 | zme + 1,z6w,z4f,z3Z,z40=>if decide (z6w < ((z1V.length : Nat) : Int)) then chk ((0 : Int) ≤ z6w ∧ z6w < ((z1V.length : Nat) : Int)) ((y1Z (nth z1V z6w)).bind fun z4X=>if decide (z4X.2 ≠ 0) then some z4X.2 else (y3b (nth z1V z6w)).bind fun z5s=>(y12 (⟨z4f⟩ : z2h) (fun (y0 : z7) (y1 : z7)=>y1l y0 y1) (⟨z3Z,z40⟩ : z7) z5s.1).bind fun z8H=>yS z1V zaM zme (i64 (z6w + 1)) z8H.2.fE z8H.1.fN z8H.1.fD) else zaM z4f z3Z z40
theorem y4I {n : Nat} {z1V : List (List z6)} {zaM : Int → Int → Int → Option Int} {z6w : Int} {z4f : Int} {z3Z : Int} {z40 : Int} {r : Int} (h : yS z1V zaM n z6w z4f z3Z z40 = some r) : ∃ m,n = m + 1:=by
 cases n with
 | zero=>cases h
 | succ m=>exact ⟨m,rfl⟩
def y29 (z1V : List (List z6)) (zm : zSv) (zgi : List (List z6)) (zd2 : zSv) (z2v : List z7) : Option Int :=
 (if decide (((z1V.length : Nat) : Int) > 32) then some true else (yM z1V (fun (y0 : List z6)=>yz y0)).bind fun zmf=>some zmf).bind fun zig=>(if zig then some true else (y2N zm).bind fun zmg=>some (!zmg)).bind fun zmh=>if zmh then some 2 else (y1L).bind fun z9F=>jp3 (fun (z7t : Int) (z7u : Int) (z7v : Int)=>(if decide (z7t = 0) then (yV (⟨z7u,z7v⟩ : z7) zm.fR).bind fun zmi=>some (decide (zmi > 0)) else some false).bind fun zmj=>if zmj then some 6 else some z7t) fun zaM=>yS z1V zaM yu 0 0 z9F.fN z9F.fD
set_option maxRecDepth 20000 in
theorem y6a (Z : Zp)  (z2w : Option Addr) (z2x : Nat) (z2I : Addr) (zmk : Option Addr) (zml : Nat) (z2J : Addr) (z2K : Option Addr) (z2L : Nat) (z1V : List (List z6)) (zm : zSv) (zgi : List (List z6)) (zd2 : zSv) (z2v : List z7) (r : Int) (w₀ : World) (hz : PZ [] w₀ Z)
  (zqB : ZS Z 1 (p39 Z) z2w z2x z1V)
  (zBY : ZS Z 1 (p39 Z) zmk zml zgi)
  (zBZ : ZC Z z2I [(.slice zmk zgi.length zml)])
  (zC0 : ZC Z z2J [(.int .i64 zd2.fR.fN),(.int .i64 zd2.fR.fD),(.int .i64 zd2.fLatency.fN),(.int .i64 zd2.fLatency.fD)])
  (zC1 : ZS Z 2 (fun r x=>r = e30 x) z2K z2L z2v)
  (h : y29 z1V zm zgi zd2 z2v = some r) :
  Calls Try.prog 52 #[(.agg #[(.slice z2w z1V.length z2x),(.int .i64 zm.fR.fN),(.int .i64 zm.fR.fD),(.int .i64 zm.fLatency.fN),(.int .i64 zm.fLatency.fD),(.func (.func 37) #[] #[(.pointer (some z2I)),(.pointer (some z2J))]),(.slice z2K z2v.length z2L)])] w₀ fun e w'=>∃ Zn : Zp,e = .returned (.int .i64 r) ∧ True ∧ Hp [] w₀ w' [fz Zn]:=by
 unfold y29 at h
 refine Calls.yd (vs:=[(.agg #[(.slice z2w z1V.length z2x),(.int .i64 zm.fR.fN),(.int .i64 zm.fR.fD),(.int .i64 zm.fLatency.fN),(.int .i64 zm.fLatency.fD),(.func (.func 37) #[] #[(.pointer (some z2I)),(.pointer (some z2J))]),(.slice z2K z2v.length z2L)])]) (pre:=[]) (env:=[(0,(.agg #[(.slice z2w z1V.length z2x),(.int .i64 zm.fR.fN),(.int .i64 zm.fR.fD),(.int .i64 zm.fLatency.fN),(.int .i64 zm.fLatency.fD),(.func (.func 37) #[] #[(.pointer (some z2I)),(.pointer (some z2J))]),(.slice z2K z2v.length z2L)]))]) Try.func52 rfl Try.ntmps52 rfl (Hp.nil w₀ _) rfl ?_
 refine WC.pool ?_
 refine WC.b ?_
 refine WC.a ?_
 refine WL.new (dd:=1) rfl rfl rfl (yI (cs:=[(.slice z2w z1V.length z2x),(.int .i64 zm.fR.fN),(.int .i64 zm.fR.fD),(.int .i64 zm.fLatency.fN),(.int .i64 zm.fLatency.fD),(.func (.func 37) #[] #[(.pointer (some z2I)),(.pointer (some z2J))]),(.slice z2K z2v.length z2L)]) rfl rfl) ?_
 intro z2Z _
 refine WL.a (d:=2) rfl rfl rfl (q_z rfl) ?_
 refine WL.nil ?_
 refine WX.a ?_
 refine WC.b ?_
 refine WC.b ?_
 obtain ⟨zig,zqC,h⟩:=ze h
 obtain ⟨zmh,zqD,h⟩:=ze h
 refine WC.a ?_
 refine WL.a (d:=11) rfl rfl rfl (y3 y4O rfl rfl) ?_
 refine WL.a (d:=12) rfl rfl rfl (ya y3f rfl (yv .here rfl)) ?_
 refine WL.a (d:=13) rfl rfl rfl (y10 Try.underlying26 rfl) ?_
 refine WL.a (d:=14) rfl rfl rfl (y2F rfl rfl) ?_
 refine WL.a (d:=15) rfl rfl rfl (q_m rfl) ?_
 refine WL.yN True [(1,(.pointer (some ⟨z2Z,0,none⟩))),(19,(.bool zig))] [stb z2Z 79 [(.slice z2w z1V.length z2x),(.int .i64 zm.fR.fN),(.int .i64 zm.fR.fD),(.int .i64 zm.fLatency.fN),(.int .i64 zm.fLatency.fD),(.func (.func 37) #[] #[(.pointer (some z2I)),(.pointer (some z2J))]),(.slice z2K z2v.length z2L)],fz []] 4 ?_ (fun _=>?_)
 ·rcases Bool.eq_false_or_eq_true (decide (((z1V.length : Nat) : Int) > 32)) with hb' | hb'
  ·have zqE:=hb'; clear hb'
   have zmm:=yh zqC zqE
   replace zmm:=Option.some.inj zmm
   refine WL.pin (i:=15) rfl zqE ?_
   refine WL.e rfl rfl rfl ?_
   refine WL.e rfl rfl rfl ?_
   refine WL.e rfl rfl rfl ?_
   refine WL.a (d:=19) rfl rfl rfl (ys rfl rfl) ?_
   exact WL.y9 () trivial (.cons rfl (.cons (zr zmm) .nil)) (.cons .here (.cons .here .nil))
  ·have zqF:=hb'; clear hb'
   have zgj:=yi zqC zqF
   obtain ⟨zmf,zx0,zgj⟩:=ze zgj
   replace zgj:=Option.some.inj zgj
   refine WL.pin (i:=15) rfl zqF ?_
   refine WL.a (d:=16) rfl rfl rfl (y3 y4O rfl rfl) ?_
   refine WL.a (d:=17) rfl rfl rfl (ya y3f rfl (yv .here rfl)) ?_
   refine WL.b (dd:=18) rfl rfl rfl (zj (l:=[.tmp 17,.func 67]) Try.call66 (.cons rfl (.cons rfl .nil))) (.nil : Sel [stb z2Z 79 [(.slice z2w z1V.length z2x),(.int .i64 zm.fR.fN),(.int .i64 zm.fR.fD),(.int .i64 zm.fLatency.fN),(.int .i64 zm.fLatency.fD),(.func (.func 37) #[] #[(.pointer (some z2I)),(.pointer (some z2J))]),(.slice z2K z2v.length z2L)],fz []] [] [stb z2Z 79 [(.slice z2w z1V.length z2x),(.int .i64 zm.fR.fN),(.int .i64 zm.fR.fD),(.int .i64 zm.fLatency.fN),(.int .i64 zm.fLatency.fD),(.func (.func 37) #[] #[(.pointer (some z2I)),(.pointer (some z2J))]),(.slice z2K z2v.length z2L)],fz []]) (fun w hw=>by have pz:=(hz.call2 hw (.nil : Sel [stb z2Z 79 [(.slice z2w z1V.length z2x),(.int .i64 zm.fR.fN),(.int .i64 zm.fR.fD),(.int .i64 zm.fLatency.fN),(.int .i64 zm.fLatency.fD),(.func (.func 37) #[] #[(.pointer (some z2I)),(.pointer (some z2J))]),(.slice z2K z2v.length z2L)],fz []] [] [stb z2Z 79 [(.slice z2w z1V.length z2x),(.int .i64 zm.fR.fN),(.int .i64 zm.fR.fD),(.int .i64 zm.fLatency.fN),(.int .i64 zm.fLatency.fD),(.func (.func 37) #[] #[(.pointer (some z2I)),(.pointer (some z2J))]),(.slice z2K z2v.length z2L)],fz []]) .h1); exact y2v (Z:=_) (zcf:=z2w) (zcg:=z2x) (za8:=67) (zch:=[]) (z9l:=z1V) (zce:=(fun (y0 : List z6)=>yz y0)) (r:=zmf) w pz ((zqB.mono (Zle.left _ _)).weak (fun _ _ h=>yL (Zle.left _ _) h)) Try.call67 (fun w' hz' y0 ga0 gc0 r gh0 hr=>y46 (Z:=_) (zcb:=ga0) (zcc:=gc0) (z9k:=y0) (r:=r) w' hz' gh0 hr) zx0) ?_
   refine WL.a (d:=19) rfl rfl rfl (yr rfl rfl) ?_
   exact WL.y9 () trivial (.cons rfl (.cons (zr zgj) .nil)) (.cons .here (.cons .here .nil))
 ·skip
  refine WL.a (d:=20) rfl rfl rfl (q_m rfl) ?_
  refine WL.yN True [(1,(.pointer (some ⟨z2Z,0,none⟩))),(25,(.bool zmh))] [stb z2Z 79 [(.slice z2w z1V.length z2x),(.int .i64 zm.fR.fN),(.int .i64 zm.fR.fD),(.int .i64 zm.fLatency.fN),(.int .i64 zm.fLatency.fD),(.func (.func 37) #[] #[(.pointer (some z2I)),(.pointer (some z2J))]),(.slice z2K z2v.length z2L)],fz []] 5 ?_ (fun _=>?_)
  ·rcases Bool.eq_false_or_eq_true zig with hb' | hb'
   ·have zqG:=hb'; clear hb'
    have zmn:=yh zqD zqG
    replace zmn:=Option.some.inj zmn
    refine WL.pin (i:=20) rfl zqG ?_
    refine WL.e rfl rfl rfl ?_
    refine WL.e rfl rfl rfl ?_
    refine WL.e rfl rfl rfl ?_
    refine WL.e rfl rfl rfl ?_
    refine WL.a (d:=25) rfl rfl rfl (ys rfl rfl) ?_
    exact WL.y9 () trivial (.cons rfl (.cons (zr zmn) .nil)) (.cons .here (.cons .here .nil))
   ·have zqH:=hb'; clear hb'
    have zgk:=yi zqD zqH
    obtain ⟨zmg,zx1,zgk⟩:=ze zgk
    replace zgk:=Option.some.inj zgk
    refine WL.pin (i:=20) rfl zqH ?_
    refine WL.a (d:=21) rfl rfl rfl (y3 y7B rfl rfl) ?_
    refine WL.a (d:=22) rfl rfl rfl (y4 (cs:=[(.int .i64 zm.fR.fN),(.int .i64 zm.fR.fD),(.int .i64 zm.fLatency.fN),(.int .i64 zm.fLatency.fD)]) y4k rfl rfl (y1U (s:=4) .here rfl)) ?_
    refine WL.b (dd:=23) rfl rfl rfl (zj (l:=[.tmp 22]) Try.call47 (.cons rfl .nil)) (.nil : Sel [stb z2Z 79 [(.slice z2w z1V.length z2x),(.int .i64 zm.fR.fN),(.int .i64 zm.fR.fD),(.int .i64 zm.fLatency.fN),(.int .i64 zm.fLatency.fD),(.func (.func 37) #[] #[(.pointer (some z2I)),(.pointer (some z2J))]),(.slice z2K z2v.length z2L)],fz []] [] [stb z2Z 79 [(.slice z2w z1V.length z2x),(.int .i64 zm.fR.fN),(.int .i64 zm.fR.fD),(.int .i64 zm.fLatency.fN),(.int .i64 zm.fLatency.fD),(.func (.func 37) #[] #[(.pointer (some z2I)),(.pointer (some z2J))]),(.slice z2K z2v.length z2L)],fz []]) (fun w hw=>by have pz:=(hz.call2 hw (.nil : Sel [stb z2Z 79 [(.slice z2w z1V.length z2x),(.int .i64 zm.fR.fN),(.int .i64 zm.fR.fD),(.int .i64 zm.fLatency.fN),(.int .i64 zm.fLatency.fD),(.func (.func 37) #[] #[(.pointer (some z2I)),(.pointer (some z2J))]),(.slice z2K z2v.length z2L)],fz []] [] [stb z2Z 79 [(.slice z2w z1V.length z2x),(.int .i64 zm.fR.fN),(.int .i64 zm.fR.fD),(.int .i64 zm.fLatency.fN),(.int .i64 zm.fLatency.fD),(.func (.func 37) #[] #[(.pointer (some z2I)),(.pointer (some z2J))]),(.slice z2K z2v.length z2L)],fz []]) .h1); exact y68 (Z:=_)  (z10:=zm) (r:=zmg) w pz  zx1) ?_
    refine WL.a (d:=24) rfl rfl rfl (y1m rfl) ?_
    refine WL.a (d:=25) rfl rfl rfl (yr rfl rfl) ?_
    exact WL.y9 () trivial (.cons rfl (.cons (zr zgk) .nil)) (.cons .here (.cons .here .nil))
  ·skip
   refine WL.nil ?_
   refine WX.a ?_
   refine WC.cond rfl (fun zmo=>?_) (fun zmo=>?_)
   ·replace h:=yh h zmo
    refine WC.b ?_
    refine WC.a ?_
    refine WL.a (d:=2) rfl rfl rfl (q_z rfl) ?_
    refine WL.nil ?_
    refine WX.a ?_
    refine WC.ret ?_
    refine WX.y6 ?_
    obtain rfl:=Option.some.inj h
    refine WX.y7 Try.results52 (.tmp rfl .nil) (fun w hw=>?_)
    exact ⟨[],yD rfl,trivial,hw.sub (.cons .h1 .nil)⟩
   ·replace h:=yi h zmo
    refine WC.skip ?_
    refine WX.a ?_
    refine WC.b ?_
    refine WC.a ?_
    refine WL.new (dd:=3) rfl rfl rfl (ym (cs:=[(.int .i64 0)]) y6W rfl) ?_
    intro z3O _
    refine WL.nil ?_
    refine WX.a ?_
    refine WC.b ?_
    obtain ⟨z9F,zx2,h⟩:=ze h
    refine WC.a ?_
    refine WL.b (dd:=26) rfl rfl rfl (zj (l:=[]) Try.call51 .nil) (.nil : Sel [stb z3O 98 [(.int .i64 0)],stb z2Z 79 [(.slice z2w z1V.length z2x),(.int .i64 zm.fR.fN),(.int .i64 zm.fR.fD),(.int .i64 zm.fLatency.fN),(.int .i64 zm.fLatency.fD),(.func (.func 37) #[] #[(.pointer (some z2I)),(.pointer (some z2J))]),(.slice z2K z2v.length z2L)],fz []] [] [stb z3O 98 [(.int .i64 0)],stb z2Z 79 [(.slice z2w z1V.length z2x),(.int .i64 zm.fR.fN),(.int .i64 zm.fR.fD),(.int .i64 zm.fLatency.fN),(.int .i64 zm.fLatency.fD),(.func (.func 37) #[] #[(.pointer (some z2I)),(.pointer (some z2J))]),(.slice z2K z2v.length z2L)],fz []]) (fun w hw=>by have pz:=(hz.call2 hw (.nil : Sel [stb z3O 98 [(.int .i64 0)],stb z2Z 79 [(.slice z2w z1V.length z2x),(.int .i64 zm.fR.fN),(.int .i64 zm.fR.fD),(.int .i64 zm.fLatency.fN),(.int .i64 zm.fLatency.fD),(.func (.func 37) #[] #[(.pointer (some z2I)),(.pointer (some z2J))]),(.slice z2K z2v.length z2L)],fz []] [] [stb z3O 98 [(.int .i64 0)],stb z2Z 79 [(.slice z2w z1V.length z2x),(.int .i64 zm.fR.fN),(.int .i64 zm.fR.fD),(.int .i64 zm.fLatency.fN),(.int .i64 zm.fLatency.fD),(.func (.func 37) #[] #[(.pointer (some z2I)),(.pointer (some z2J))]),(.slice z2K z2v.length z2L)],fz []]) .h2); exact y2y (Z:=_)   (r:=z9F) w pz  zx2) ?_
    refine WL.new (dd:=4) rfl rfl rfl (ym (cs:=[(.int .i64 0),(.int .i64 0)]) yt rfl) ?_
    intro z5b _
    refine WL.yb rfl rfl (yc (vs:=[(.int .i64 z9F.fN),(.int .i64 z9F.fD)]) (ds:=[(.int .i64 z9F.fN),(.int .i64 z9F.fD)]) yo rfl rfl rfl rfl (y2 rfl (y2 rfl yk)) .here (Nat.le_of_ble_eq_true rfl) rfl) ?_
    refine WL.nil ?_
    refine WX.a ?_
    obtain ⟨zaM,zx3,h⟩:=y6U h
    refine WC.y4i (fun (z7t : Int) (z7u : Int) (z7v : Int) (z8I : Zp)=>(zaM z7t z7u z7v = some r) ∧ (Zle (Z ++ []) (Z ++ z8I))) (fun (z7t : Int) (z7u : Int) (z7v : Int) (z8I : Zp)=>[(1,(.pointer (some ⟨z2Z,0,none⟩))),(3,(.pointer (some ⟨z3O,0,none⟩))),(4,(.pointer (some ⟨z5b,0,none⟩)))]) (fun (z7t : Int) (z7u : Int) (z7v : Int) (z8I : Zp)=>[fz z8I,stb z2Z 79 [(.slice z2w z1V.length z2x),(.int .i64 zm.fR.fN),(.int .i64 zm.fR.fD),(.int .i64 zm.fLatency.fN),(.int .i64 zm.fLatency.fD),(.func (.func 37) #[] #[(.pointer (some z2I)),(.pointer (some z2J))]),(.slice z2K z2v.length z2L)],stb z3O 98 [(.int .i64 z7t)],stb z5b 30 [(.int .i64 z7u),(.int .i64 z7v)]]) ?_ ?_
    ·skip
     refine WC.b ?_
     refine WC.a ?_
     refine WL.a (d:=27) rfl rfl rfl (y3 y4O rfl rfl) ?_
     refine WL.a (d:=28) rfl rfl rfl (ya y3f rfl (yv .h2 rfl)) ?_
     refine WL.a (d:=29) rfl rfl rfl (y10 Try.underlying26 rfl) ?_
     refine WL.a (d:=30) rfl rfl rfl (q_m rfl) ?_
     refine WL.nil ?_
     refine WX.a ?_
     refine WC.block ?_
     refine WC.y3H (fun (zeu : Nat) (z6w : Int) (z4f : Int) (z3Z : Int) (z40 : Int) (z4F : Zp)=>(yS z1V zaM zeu z6w z4f z3Z z40 = some r) ∧ (Zle (Z ++ []) (Z ++ z4F))) (fun (zeu : Nat) (z6w : Int) (z4f : Int) (z3Z : Int) (z40 : Int) (z4F : Zp)=>[(1,(.pointer (some ⟨z2Z,0,none⟩))),(3,(.pointer (some ⟨z3O,0,none⟩))),(4,(.pointer (some ⟨z5b,0,none⟩))),(28,(.slice z2w z1V.length z2x)),(29,(.int .i64 ((z1V.length : Nat) : Int))),(30,(.int .i64 z6w))]) (fun (zeu : Nat) (z6w : Int) (z4f : Int) (z3Z : Int) (z40 : Int) (z4F : Zp)=>[fz z4F,stb z2Z 79 [(.slice z2w z1V.length z2x),(.int .i64 zm.fR.fN),(.int .i64 zm.fR.fD),(.int .i64 zm.fLatency.fN),(.int .i64 zm.fLatency.fD),(.func (.func 37) #[] #[(.pointer (some z2I)),(.pointer (some z2J))]),(.slice z2K z2v.length z2L)],stb z3O 98 [(.int .i64 z4f)],stb z5b 30 [(.int .i64 z3Z),(.int .i64 z40)]]) (fun (zeu : Nat) (z6w : Int) (z4f : Int) (z3Z : Int) (z40 : Int) (z4F : Zp)=>zeu) ⟨yu,0,0,z9F.fN,z9F.fD,[]⟩ ⟨h,(Zle.refl _)⟩ (.cons rfl (.cons rfl (.cons rfl (.cons rfl (.cons rfl (.cons rfl .nil)))))) (.cons .h3 (.cons .h2 (.cons .h1 (.cons .here .nil)))) ?_
     rintro zeu z6w z4f z3Z z40 z4F ⟨h,zih⟩
     obtain ⟨zme,rfl⟩:=y4I h
     rw [yS] at h
     refine WC.b ?_
     refine WC.a ?_
     refine WL.a (d:=31) rfl rfl rfl (y1c rfl rfl) ?_
     refine WL.nil ?_
     refine WX.a ?_
     refine WC.b ?_
     refine WC.cond rfl (fun zmp=>?_) (fun zmp=>?_)
     ·replace h:=yh h zmp
      refine WC.skip ?_
      refine WX.a ?_
      refine WC.b ?_
      refine WC.block ?_
      refine WC.b ?_
      obtain ⟨zx4,h⟩:=yl h
      refine WC.a ?_
      refine WL.znth (dd:=32) rfl rfl (Z:=(Z ++ z4F)) (Pr:=(p39 (Z ++ z4F))) y3Q rfl rfl ((zqB.mono ((Zle.left _ _).trans zih)).weak (fun _ _ h=>yL ((Zle.left _ _).trans zih) h)) zx4 ?_
      rintro zC2 zC3 zx5 zC4 ⟨zqI,zqJ,rfl,zqK⟩
      refine WL.a (d:=33) rfl rfl rfl (ya y4Q rfl (y4Z (hz.pv2 .here) zx5 rfl)) ?_
      refine WL.a (d:=6) rfl rfl rfl (q_z rfl) ?_
      refine WL.nil ?_
      refine WX.a ?_
      refine WC.b ?_
      refine WC.b ?_
      obtain ⟨z4X,zx6,h⟩:=ze h
      refine WC.a ?_
      refine WL.a (d:=35) rfl rfl rfl (q_m rfl) ?_
      refine WL.y6n (dd:=36) rfl rfl rfl (zj (l:=[.tmp 35]) Try.call68 (.cons rfl .nil)) (.nil : Sel [fz z4F,stb z2Z 79 [(.slice z2w z1V.length z2x),(.int .i64 zm.fR.fN),(.int .i64 zm.fR.fD),(.int .i64 zm.fLatency.fN),(.int .i64 zm.fLatency.fD),(.func (.func 37) #[] #[(.pointer (some z2I)),(.pointer (some z2J))]),(.slice z2K z2v.length z2L)],stb z3O 98 [(.int .i64 z4f)],stb z5b 30 [(.int .i64 z3Z),(.int .i64 z40)]] [] [fz z4F,stb z2Z 79 [(.slice z2w z1V.length z2x),(.int .i64 zm.fR.fN),(.int .i64 zm.fR.fD),(.int .i64 zm.fLatency.fN),(.int .i64 zm.fLatency.fD),(.func (.func 37) #[] #[(.pointer (some z2I)),(.pointer (some z2J))]),(.slice z2K z2v.length z2L)],stb z3O 98 [(.int .i64 z4f)],stb z5b 30 [(.int .i64 z3Z),(.int .i64 z40)]]) (fun w hw=>by have pz:=(hz.call2 hw (.nil : Sel [fz z4F,stb z2Z 79 [(.slice z2w z1V.length z2x),(.int .i64 zm.fR.fN),(.int .i64 zm.fR.fD),(.int .i64 zm.fLatency.fN),(.int .i64 zm.fLatency.fD),(.func (.func 37) #[] #[(.pointer (some z2I)),(.pointer (some z2J))]),(.slice z2K z2v.length z2L)],stb z3O 98 [(.int .i64 z4f)],stb z5b 30 [(.int .i64 z3Z),(.int .i64 z40)]] [] [fz z4F,stb z2Z 79 [(.slice z2w z1V.length z2x),(.int .i64 zm.fR.fN),(.int .i64 zm.fR.fD),(.int .i64 zm.fLatency.fN),(.int .i64 zm.fLatency.fD),(.func (.func 37) #[] #[(.pointer (some z2I)),(.pointer (some z2J))]),(.slice z2K z2v.length z2L)],stb z3O 98 [(.int .i64 z4f)],stb z5b 30 [(.int .i64 z3Z),(.int .i64 z40)]]) .here); exact y4m (Z:=_) (z9s:=zqI) (z9t:=zqJ) (z7L:=(nth z1V z6w)) (r:=z4X) w pz zqK zx6) ?_
      rintro z8J z9G z9H _
      refine WL.merge .here .h1 ?_
      refine WL.a (d:=34) rfl rfl rfl (q_m rfl) ?_
      refine WL.a (d:=37) rfl rfl rfl (yf rfl rfl) ?_
      refine WL.a (d:=38) rfl rfl rfl (yf rfl rfl) ?_
      refine WL.a (d:=7) rfl rfl rfl (q_z rfl) ?_
      refine WL.a (d:=8) rfl rfl rfl (q_z rfl) ?_
      refine WL.nil ?_
      refine WX.a ?_
      refine WC.b ?_
      refine WC.a ?_
      refine WL.a (d:=39) rfl rfl rfl (q_m rfl) ?_
      refine WL.a (d:=40) rfl rfl rfl (y2G rfl rfl) ?_
      refine WL.nil ?_
      refine WX.a ?_
      refine WC.cond rfl (fun zmq=>?_) (fun zmq=>?_)
      ·replace h:=yh h zmq
       refine WC.b ?_
       refine WC.a ?_
       refine WL.a (d:=41) rfl rfl rfl (q_m rfl) ?_
       refine WL.a (d:=2) rfl rfl rfl (q_z rfl) ?_
       refine WL.nil ?_
       refine WX.a ?_
       refine WC.ret ?_
       refine WX.y6 ?_
       refine WX.yq ?_
       refine WX.y6 ?_
       refine WX.y6 ?_
       refine WX.yq ?_
       refine WX.y6 ?_
       obtain rfl:=Option.some.inj h
       refine WX.y7 Try.results52 (.tmp rfl .nil) (fun w hw=>?_)
       exact ⟨(z4F ++ z8J),yD rfl,trivial,hw.sub (.cons .here .nil)⟩
      ·replace h:=yi h zmq
       refine WC.skip ?_
       refine WX.a ?_
       refine WC.b ?_
       obtain ⟨z5s,zx7,h⟩:=ze h
       refine WC.a ?_
       refine WL.a (d:=43) rfl rfl rfl (q_m rfl) ?_
       refine WL.b (dd:=44) rfl rfl rfl (zj (l:=[.tmp 43]) Try.call21 (.cons rfl .nil)) (.nil : Sel [fz (z4F ++ z8J),row (.slice z9G z4X.1.length z9H) 30 2 (z4X.1.flatMap e30),stb z2Z 79 [(.slice z2w z1V.length z2x),(.int .i64 zm.fR.fN),(.int .i64 zm.fR.fD),(.int .i64 zm.fLatency.fN),(.int .i64 zm.fLatency.fD),(.func (.func 37) #[] #[(.pointer (some z2I)),(.pointer (some z2J))]),(.slice z2K z2v.length z2L)],stb z3O 98 [(.int .i64 z4f)],stb z5b 30 [(.int .i64 z3Z),(.int .i64 z40)]] [] [fz (z4F ++ z8J),row (.slice z9G z4X.1.length z9H) 30 2 (z4X.1.flatMap e30),stb z2Z 79 [(.slice z2w z1V.length z2x),(.int .i64 zm.fR.fN),(.int .i64 zm.fR.fD),(.int .i64 zm.fLatency.fN),(.int .i64 zm.fLatency.fD),(.func (.func 37) #[] #[(.pointer (some z2I)),(.pointer (some z2J))]),(.slice z2K z2v.length z2L)],stb z3O 98 [(.int .i64 z4f)],stb z5b 30 [(.int .i64 z3Z),(.int .i64 z40)]]) (fun w hw=>by have pz:=(hz.call2 hw (.nil : Sel [fz (z4F ++ z8J),row (.slice z9G z4X.1.length z9H) 30 2 (z4X.1.flatMap e30),stb z2Z 79 [(.slice z2w z1V.length z2x),(.int .i64 zm.fR.fN),(.int .i64 zm.fR.fD),(.int .i64 zm.fLatency.fN),(.int .i64 zm.fLatency.fD),(.func (.func 37) #[] #[(.pointer (some z2I)),(.pointer (some z2J))]),(.slice z2K z2v.length z2L)],stb z3O 98 [(.int .i64 z4f)],stb z5b 30 [(.int .i64 z3Z),(.int .i64 z40)]] [] [fz (z4F ++ z8J),row (.slice z9G z4X.1.length z9H) 30 2 (z4X.1.flatMap e30),stb z2Z 79 [(.slice z2w z1V.length z2x),(.int .i64 zm.fR.fN),(.int .i64 zm.fR.fD),(.int .i64 zm.fLatency.fN),(.int .i64 zm.fLatency.fD),(.func (.func 37) #[] #[(.pointer (some z2I)),(.pointer (some z2J))]),(.slice z2K z2v.length z2L)],stb z3O 98 [(.int .i64 z4f)],stb z5b 30 [(.int .i64 z3Z),(.int .i64 z40)]]) .here); exact y7k (Z:=_) (zbt:=zqI) (zbu:=zqJ) (z8t:=(nth z1V z6w)) (r:=z5s) w pz (zqK.mono ((Zle.left _ _).trans (Zle.yp _ _ _))) zx7) ?_
       refine WL.a (d:=42) rfl rfl rfl (q_m rfl) ?_
       refine WL.a (d:=45) rfl rfl rfl (yf rfl rfl) ?_
       refine WL.a (d:=46) rfl rfl rfl (yf rfl rfl) ?_
       refine WL.new (dd:=9) rfl rfl rfl (ym (cs:=[(.int .i64 0),(.int .i64 0)]) yt rfl) ?_
       intro zev _
       refine WL.yb rfl rfl (yc (vs:=[(.int .i64 z5s.1.fN),(.int .i64 z5s.1.fD)]) (ds:=[(.int .i64 z5s.1.fN),(.int .i64 z5s.1.fD)]) yo rfl rfl rfl rfl (y2 rfl (y2 rfl yk)) .here (Nat.le_of_ble_eq_true rfl) rfl) ?_
       refine WL.a (d:=10) rfl rfl rfl (q_z rfl) ?_
       refine WL.nil ?_
       refine WX.a ?_
       obtain ⟨z8H,zx8,h⟩:=ze h
       refine WC.a ?_
       refine WL.a (d:=47) rfl rfl rfl (y4 (cs:=[(.int .i64 z3Z),(.int .i64 z40)]) y5 rfl rfl (y8 .h5)) ?_
       refine WL.a (d:=48) rfl rfl rfl (y4 (cs:=[(.int .i64 z5s.1.fN),(.int .i64 z5s.1.fD)]) y5 rfl rfl (y8 .here)) ?_
       refine WL.b (dd:=49) rfl rfl rfl (zj (l:=[.tmp 3,.func 19,.tmp 47,.tmp 48]) Try.call33 (.cons rfl (.cons rfl (.cons rfl (.cons rfl .nil))))) ((.cons .h4 .nil) : Sel [stb zev 30 [(.int .i64 z5s.1.fN),(.int .i64 z5s.1.fD)],fz (z4F ++ z8J),row (.slice z9G z4X.1.length z9H) 30 2 (z4X.1.flatMap e30),stb z2Z 79 [(.slice z2w z1V.length z2x),(.int .i64 zm.fR.fN),(.int .i64 zm.fR.fD),(.int .i64 zm.fLatency.fN),(.int .i64 zm.fLatency.fD),(.func (.func 37) #[] #[(.pointer (some z2I)),(.pointer (some z2J))]),(.slice z2K z2v.length z2L)],stb z3O 98 [(.int .i64 z4f)],stb z5b 30 [(.int .i64 z3Z),(.int .i64 z40)]] [stb z3O 98 [(.int .i64 z4f)]] [stb zev 30 [(.int .i64 z5s.1.fN),(.int .i64 z5s.1.fD)],fz (z4F ++ z8J),row (.slice z9G z4X.1.length z9H) 30 2 (z4X.1.flatMap e30),stb z2Z 79 [(.slice z2w z1V.length z2x),(.int .i64 zm.fR.fN),(.int .i64 zm.fR.fD),(.int .i64 zm.fLatency.fN),(.int .i64 zm.fLatency.fD),(.func (.func 37) #[] #[(.pointer (some z2I)),(.pointer (some z2J))]),(.slice z2K z2v.length z2L)],stb z5b 30 [(.int .i64 z3Z),(.int .i64 z40)]]) (fun w hw=>by have pz:=(hz.call2 hw ((.cons .h4 .nil) : Sel [stb zev 30 [(.int .i64 z5s.1.fN),(.int .i64 z5s.1.fD)],fz (z4F ++ z8J),row (.slice z9G z4X.1.length z9H) 30 2 (z4X.1.flatMap e30),stb z2Z 79 [(.slice z2w z1V.length z2x),(.int .i64 zm.fR.fN),(.int .i64 zm.fR.fD),(.int .i64 zm.fLatency.fN),(.int .i64 zm.fLatency.fD),(.func (.func 37) #[] #[(.pointer (some z2I)),(.pointer (some z2J))]),(.slice z2K z2v.length z2L)],stb z3O 98 [(.int .i64 z4f)],stb z5b 30 [(.int .i64 z3Z),(.int .i64 z40)]] [stb z3O 98 [(.int .i64 z4f)]] [stb zev 30 [(.int .i64 z5s.1.fN),(.int .i64 z5s.1.fD)],fz (z4F ++ z8J),row (.slice z9G z4X.1.length z9H) 30 2 (z4X.1.flatMap e30),stb z2Z 79 [(.slice z2w z1V.length z2x),(.int .i64 zm.fR.fN),(.int .i64 zm.fR.fD),(.int .i64 zm.fLatency.fN),(.int .i64 zm.fLatency.fD),(.func (.func 37) #[] #[(.pointer (some z2I)),(.pointer (some z2J))]),(.slice z2K z2v.length z2L)],stb z5b 30 [(.int .i64 z3Z),(.int .i64 z40)]]) .h1); exact y1F (Z:=_) (z4r:=z3O) (z7d:=19) (z7N:=[]) (z5o:=(⟨z4f⟩ : z2h)) (z85:=(fun (y0 : z7) (y1 : z7)=>y1l y0 y1)) (z2U:=(⟨z3Z,z40⟩ : z7)) (z2V:=z5s.1) (r:=z8H) w pz Try.call19 (fun w' hz' y0 y1  r  hr=>y4R (Z:=_)  (z3T:=y0) (z3U:=y1) (r:=r) w' hz'  hr) zx8 (hw.owns ((.cons .h4 .nil) : Sel [stb zev 30 [(.int .i64 z5s.1.fN),(.int .i64 z5s.1.fD)],fz (z4F ++ z8J),row (.slice z9G z4X.1.length z9H) 30 2 (z4X.1.flatMap e30),stb z2Z 79 [(.slice z2w z1V.length z2x),(.int .i64 zm.fR.fN),(.int .i64 zm.fR.fD),(.int .i64 zm.fLatency.fN),(.int .i64 zm.fLatency.fD),(.func (.func 37) #[] #[(.pointer (some z2I)),(.pointer (some z2J))]),(.slice z2K z2v.length z2L)],stb z3O 98 [(.int .i64 z4f)],stb z5b 30 [(.int .i64 z3Z),(.int .i64 z40)]] [stb z3O 98 [(.int .i64 z4f)]] [stb zev 30 [(.int .i64 z5s.1.fN),(.int .i64 z5s.1.fD)],fz (z4F ++ z8J),row (.slice z9G z4X.1.length z9H) 30 2 (z4X.1.flatMap e30),stb z2Z 79 [(.slice z2w z1V.length z2x),(.int .i64 zm.fR.fN),(.int .i64 zm.fR.fD),(.int .i64 zm.fLatency.fN),(.int .i64 zm.fLatency.fD),(.func (.func 37) #[] #[(.pointer (some z2I)),(.pointer (some z2J))]),(.slice z2K z2v.length z2L)],stb z5b 30 [(.int .i64 z3Z),(.int .i64 z40)]]))) ?_
       refine WL.yb rfl rfl (yc (vs:=[(.int .i64 z8H.1.fN),(.int .i64 z8H.1.fD)]) (ds:=[(.int .i64 z8H.1.fN),(.int .i64 z8H.1.fD)]) yo rfl rfl rfl rfl (y2 rfl (y2 rfl yk)) .h5 (Nat.le_of_ble_eq_true rfl) rfl) ?_
       refine WL.nil ?_
       refine WX.yg ?_
       refine WX.a ?_
       refine WC.a ?_
       refine WL.a (d:=50) rfl rfl rfl (yW rfl rfl rfl) ?_
       refine WL.a (d:=30) rfl rfl rfl (q_m rfl) ?_
       refine WL.nil ?_
       exact WX.round (G:=Nat × Int × Int × Int × Int × Zp) ⟨zme,(i64 (z6w + 1)),z8H.2.fE,z8H.1.fN,z8H.1.fD,(z4F ++ z8J)⟩ ⟨h,(zih.trans ((Zle.left _ _).trans (Zle.yp _ _ _)))⟩ (Nat.lt_succ_self _) (.cons rfl (.cons rfl (.cons rfl (.cons rfl (.cons rfl (.cons rfl .nil)))))) (.cons .h3 (.cons .h4 (.cons .h1 (.cons .here .nil))))
     ·replace h:=yi h zmp
      refine WC.exit ?_
      refine WX.ye ?_
      refine WX.ye ?_
      refine WX.yx ?_
      exact WX.mid (G:=Int × Int × Int × Zp) ⟨z4f,z3Z,z40,z4F⟩ ⟨h,zih⟩ (.cons rfl (.cons rfl (.cons rfl .nil))) (.cons .here (.cons .here (.cons .here (.cons .here .nil))))
    ·rintro z7t z7u z7v z8I ⟨h,zC5⟩
     replace h:=(zx3 z7t z7u z7v).symm.trans h
     refine WC.b ?_
     refine WC.b ?_
     obtain ⟨zmj,zqL,h⟩:=ze h
     refine WC.a ?_
     refine WL.a (d:=51) rfl rfl rfl (y3 y3g rfl rfl) ?_
     refine WL.a (d:=52) rfl rfl rfl (ya y2K rfl (yv .h2 rfl)) ?_
     refine WL.a (d:=53) rfl rfl rfl (y4C rfl rfl) ?_
     refine WL.a (d:=54) rfl rfl rfl (q_m rfl) ?_
     refine WL.yN True [(3,(.pointer (some ⟨z3O,0,none⟩))),(61,(.bool zmj))] [fz z8I,stb z2Z 79 [(.slice z2w z1V.length z2x),(.int .i64 zm.fR.fN),(.int .i64 zm.fR.fD),(.int .i64 zm.fLatency.fN),(.int .i64 zm.fLatency.fD),(.func (.func 37) #[] #[(.pointer (some z2I)),(.pointer (some z2J))]),(.slice z2K z2v.length z2L)],stb z3O 98 [(.int .i64 z7t)],stb z5b 30 [(.int .i64 z7u),(.int .i64 z7v)]] 7 ?_ (fun _=>?_)
     ·rcases Bool.eq_false_or_eq_true (decide (z7t = 0)) with hb' | hb'
      ·have zqM:=hb'; clear hb'
       have zgl:=yh zqL zqM
       obtain ⟨zmi,zx9,zgl⟩:=ze zgl
       replace zgl:=Option.some.inj zgl
       refine WL.pin (i:=54) rfl zqM ?_
       refine WL.a (d:=55) rfl rfl rfl (y4 (cs:=[(.int .i64 z7u),(.int .i64 z7v)]) y5 rfl rfl (y8 .h3)) ?_
       refine WL.a (d:=56) rfl rfl rfl (y3 y7B rfl rfl) ?_
       refine WL.a (d:=57) rfl rfl rfl (y3 y5S rfl rfl) ?_
       refine WL.a (d:=58) rfl rfl rfl (y4 (cs:=[(.int .i64 zm.fR.fN),(.int .i64 zm.fR.fD)]) y5 rfl rfl (y1U (s:=2) .h1 rfl)) ?_
       refine WL.b (dd:=59) rfl rfl rfl (zj (l:=[.tmp 55,.tmp 58]) Try.call18 (.cons rfl (.cons rfl .nil))) (.nil : Sel [fz z8I,stb z2Z 79 [(.slice z2w z1V.length z2x),(.int .i64 zm.fR.fN),(.int .i64 zm.fR.fD),(.int .i64 zm.fLatency.fN),(.int .i64 zm.fLatency.fD),(.func (.func 37) #[] #[(.pointer (some z2I)),(.pointer (some z2J))]),(.slice z2K z2v.length z2L)],stb z3O 98 [(.int .i64 z7t)],stb z5b 30 [(.int .i64 z7u),(.int .i64 z7v)]] [] [fz z8I,stb z2Z 79 [(.slice z2w z1V.length z2x),(.int .i64 zm.fR.fN),(.int .i64 zm.fR.fD),(.int .i64 zm.fLatency.fN),(.int .i64 zm.fLatency.fD),(.func (.func 37) #[] #[(.pointer (some z2I)),(.pointer (some z2J))]),(.slice z2K z2v.length z2L)],stb z3O 98 [(.int .i64 z7t)],stb z5b 30 [(.int .i64 z7u),(.int .i64 z7v)]]) (fun w hw=>by have pz:=(hz.call2 hw (.nil : Sel [fz z8I,stb z2Z 79 [(.slice z2w z1V.length z2x),(.int .i64 zm.fR.fN),(.int .i64 zm.fR.fD),(.int .i64 zm.fLatency.fN),(.int .i64 zm.fLatency.fD),(.func (.func 37) #[] #[(.pointer (some z2I)),(.pointer (some z2J))]),(.slice z2K z2v.length z2L)],stb z3O 98 [(.int .i64 z7t)],stb z5b 30 [(.int .i64 z7u),(.int .i64 z7v)]] [] [fz z8I,stb z2Z 79 [(.slice z2w z1V.length z2x),(.int .i64 zm.fR.fN),(.int .i64 zm.fR.fD),(.int .i64 zm.fLatency.fN),(.int .i64 zm.fLatency.fD),(.func (.func 37) #[] #[(.pointer (some z2I)),(.pointer (some z2J))]),(.slice z2K z2v.length z2L)],stb z3O 98 [(.int .i64 z7t)],stb z5b 30 [(.int .i64 z7u),(.int .i64 z7v)]]) .here); exact y26 (Z:=_)  (z29:=(⟨z7u,z7v⟩ : z7)) (z2a:=zm.fR) (r:=zmi) w pz  zx9) ?_
       refine WL.a (d:=60) rfl rfl rfl (y2F rfl rfl) ?_
       refine WL.a (d:=61) rfl rfl rfl (ys rfl rfl) ?_
       exact WL.y9 () trivial (.cons rfl (.cons (zr zgl) .nil)) (.cons .here (.cons .here (.cons .here (.cons .here .nil))))
      ·have zqN:=hb'; clear hb'
       have zmr:=yi zqL zqN
       replace zmr:=Option.some.inj zmr
       refine WL.pin (i:=54) rfl zqN ?_
       refine WL.e rfl rfl rfl ?_
       refine WL.e rfl rfl rfl ?_
       refine WL.e rfl rfl rfl ?_
       refine WL.e rfl rfl rfl ?_
       refine WL.e rfl rfl rfl ?_
       refine WL.e rfl rfl rfl ?_
       refine WL.a (d:=61) rfl rfl rfl (yr rfl rfl) ?_
       exact WL.y9 () trivial (.cons rfl (.cons (zr zmr) .nil)) (.cons .here (.cons .here (.cons .here (.cons .here .nil))))
     ·skip
      refine WL.nil ?_
      refine WX.a ?_
      refine WC.cond rfl (fun zms=>?_) (fun zms=>?_)
      ·replace h:=yh h zms
       refine WC.b ?_
       refine WC.a ?_
       refine WL.a (d:=2) rfl rfl rfl (q_z rfl) ?_
       refine WL.nil ?_
       refine WX.a ?_
       refine WC.ret ?_
       refine WX.y6 ?_
       obtain rfl:=Option.some.inj h
       refine WX.y7 Try.results52 (.tmp rfl .nil) (fun w hw=>?_)
       exact ⟨z8I,yD rfl,trivial,hw.sub (.cons .here .nil)⟩
      ·replace h:=yi h zms
       refine WC.skip ?_
       refine WX.a ?_
       refine WC.b ?_
       refine WC.a ?_
       refine WL.a (d:=62) rfl rfl rfl (y3 y3g rfl rfl) ?_
       refine WL.a (d:=63) rfl rfl rfl (ya y2K rfl (yv .h2 rfl)) ?_
       refine WL.a (d:=2) rfl rfl rfl (q_z rfl) ?_
       refine WL.nil ?_
       refine WX.a ?_
       refine WC.ret ?_
       obtain rfl:=Option.some.inj h
       refine WX.y7 Try.results52 (.tmp rfl .nil) (fun w hw=>?_)
       exact ⟨z8I,yD rfl,trivial,hw.sub (.cons .here .nil)⟩
def y2t (zaN : List (List z6)) (z5c : zSv) (zgm : List (List z6)) (zd3 : zSv) (zaO : List z7) : Option (Int × Int × Int × Int) :=
 some (z5c.fR.fN,z5c.fR.fD,z5c.fLatency.fN,z5c.fLatency.fD)
set_option maxRecDepth 20000 in
theorem y5K (Z : Zp)  (zd4 : Option Addr) (zd5 : Nat) (zd6 : Addr) (zmt : Option Addr) (zmu : Nat) (zd7 : Addr) (zd8 : Option Addr) (zd9 : Nat) (zaN : List (List z6)) (z5c : zSv) (zgm : List (List z6)) (zd3 : zSv) (zaO : List z7) (r : Int × Int × Int × Int) (w₀ : World) (hz : PZ [] w₀ Z)
  (zC6 : ZS Z 1 (p39 Z) zd4 zd5 zaN)
  (zC7 : ZS Z 1 (p39 Z) zmt zmu zgm)
  (zC8 : ZC Z zd6 [(.slice zmt zgm.length zmu)])
  (zC9 : ZC Z zd7 [(.int .i64 zd3.fR.fN),(.int .i64 zd3.fR.fD),(.int .i64 zd3.fLatency.fN),(.int .i64 zd3.fLatency.fD)])
  (zCa : ZS Z 2 (fun r x=>r = e30 x) zd8 zd9 zaO)
  (h : y2t zaN z5c zgm zd3 zaO = some r) :
  Calls Try.prog 53 #[(.agg #[(.slice zd4 zaN.length zd5),(.int .i64 z5c.fR.fN),(.int .i64 z5c.fR.fD),(.int .i64 z5c.fLatency.fN),(.int .i64 z5c.fLatency.fD),(.func (.func 37) #[] #[(.pointer (some zd6)),(.pointer (some zd7))]),(.slice zd8 zaO.length zd9)])] w₀ fun e w'=>∃ zqO : Nat,e = .returned (.func (.func 69) #[] #[(.pointer (some ⟨zqO,0,none⟩))]) ∧ True ∧ Hp [] w₀ w' [stb zqO 79 [(.slice zd4 zaN.length zd5),(.int .i64 r.1),(.int .i64 r.2.1),(.int .i64 r.2.2.1),(.int .i64 r.2.2.2),(.func (.func 37) #[] #[(.pointer (some zd6)),(.pointer (some zd7))]),(.slice zd8 zaO.length zd9)]]:=by
 unfold y2t at h
 refine Calls.yd (vs:=[(.agg #[(.slice zd4 zaN.length zd5),(.int .i64 z5c.fR.fN),(.int .i64 z5c.fR.fD),(.int .i64 z5c.fLatency.fN),(.int .i64 z5c.fLatency.fD),(.func (.func 37) #[] #[(.pointer (some zd6)),(.pointer (some zd7))]),(.slice zd8 zaO.length zd9)])]) (pre:=[]) (env:=[(0,(.agg #[(.slice zd4 zaN.length zd5),(.int .i64 z5c.fR.fN),(.int .i64 z5c.fR.fD),(.int .i64 z5c.fLatency.fN),(.int .i64 z5c.fLatency.fD),(.func (.func 37) #[] #[(.pointer (some zd6)),(.pointer (some zd7))]),(.slice zd8 zaO.length zd9)]))]) Try.func53 rfl Try.ntmps53 rfl (Hp.nil w₀ _) rfl ?_
 refine WC.b ?_
 refine WC.a ?_
 refine WL.new (dd:=1) rfl rfl rfl (yI (cs:=[(.slice zd4 zaN.length zd5),(.int .i64 z5c.fR.fN),(.int .i64 z5c.fR.fD),(.int .i64 z5c.fLatency.fN),(.int .i64 z5c.fLatency.fD),(.func (.func 37) #[] #[(.pointer (some zd6)),(.pointer (some zd7))]),(.slice zd8 zaO.length zd9)]) rfl rfl) ?_
 intro zxa _
 refine WL.a (d:=2) rfl rfl rfl (q_z rfl) ?_
 refine WL.nil ?_
 refine WX.a ?_
 refine WC.b ?_
 refine WC.a ?_
 refine WL.a (d:=3) rfl rfl rfl (y1d (Eos.caps (l:=[.tmp 1]) (.cons rfl .nil))) ?_
 refine WL.a (d:=2) rfl rfl rfl (q_z rfl) ?_
 refine WL.nil ?_
 refine WX.a ?_
 refine WC.ret ?_
 obtain rfl:=Option.some.inj h
 refine WX.y7 Try.results53 (.tmp rfl .nil) (fun w hw=>?_)
 exact ⟨zxa,yD rfl,trivial,hw.sub (.cons .here .nil)⟩
def y18 (zy : Type) (zA : List z7 × Int) (z4g : z7 → zy → Option (Bool × zy)) (zaP : zy → Option zy) : Nat → Int → zy → Option zy
 | 0,_,_=>none
 | zmv + 1,z1v,z4Y=>if decide (z1v < ((zA.1.length : Nat) : Int)) then chk ((0 : Int) ≤ z1v ∧ z1v < ((zA.1.length : Nat) : Int)) ((y2R (⟨((nth zA.1 z1v).fN),((nth zA.1 z1v).fD)⟩ : z7)).bind fun zii=>(y1k zii).bind fun zij=>(z4g zij z4Y).bind fun z6x=>(if !z6x.1 then some (true,z6x.2) else (y3n (⟨((nth zA.1 z1v).fN),((nth zA.1 z1v).fD)⟩ : z7)).bind fun zik=>(y1k zik).bind fun zil=>(z4g zil z6x.2).bind fun zgn=>some (!zgn.1,zgn.2)).bind fun zbU=>if zbU.1 then some zbU.2 else y18 zy zA z4g zaP zmv (i64 (z1v + 1)) zbU.2) else zaP z4Y
theorem y4n {n : Nat} {zy : Type} {zA : List z7 × Int} {z4g : z7 → zy → Option (Bool × zy)} {zaP : zy → Option zy} {z1v : Int} {z4Y : zy} {r : zy} (h : y18 zy zA z4g zaP n z1v z4Y = some r) : ∃ m,n = m + 1:=by
 cases n with
 | zero=>cases h
 | succ m=>exact ⟨m,rfl⟩
def yE (zy : Type) (z4G : List (List z6)) (z4g : z7 → zy → Option (Bool × zy)) (zaQ : zy → Option zy) : Nat → Int → zy → Option zy
 | 0,_,_=>none
 | zmw + 1,z5R,z6y=>if decide (z5R < ((z4G.length : Nat) : Int)) then jp1 (fun (z9I : zy)=>yE zy z4G z4g zaQ zmw (i64 (z5R + 1)) z9I) fun zmx=>chk ((0 : Int) ≤ z5R ∧ z5R < ((z4G.length : Nat) : Int)) ((y1Z (nth z4G z5R)).bind fun zA=>jp1 (fun (z9J : zy)=>zmx z9J) fun zaP=>y18 zy zA z4g zaP yu 0 z6y) else zaQ z6y
theorem y4o {n : Nat} {zy : Type} {z4G : List (List z6)} {z4g : z7 → zy → Option (Bool × zy)} {zaQ : zy → Option zy} {z5R : Int} {z6y : zy} {r : zy} (h : yE zy z4G z4g zaQ n z5R z6y = some r) : ∃ m,n = m + 1:=by
 cases n with
 | zero=>cases h
 | succ m=>exact ⟨m,rfl⟩
def y19 (zy : Type) (z1m : List z7) (z4g : z7 → zy → Option (Bool × zy)) (zaR : zy → Option zy) : Nat → Int → zy → Option zy
 | 0,_,_=>none
 | zmy + 1,z1w,z4Z=>if decide (z1w < ((z1m.length : Nat) : Int)) then chk ((0 : Int) ≤ z1w ∧ z1w < ((z1m.length : Nat) : Int)) ((y2R (⟨((nth z1m z1w).fN),((nth z1m z1w).fD)⟩ : z7)).bind fun zim=>(y1k zim).bind fun zin=>(z4g zin z4Z).bind fun z6z=>(if !z6z.1 then some (true,z6z.2) else (y3n (⟨((nth z1m z1w).fN),((nth z1m z1w).fD)⟩ : z7)).bind fun zio=>(y1k zio).bind fun ziq=>(z4g ziq z6z.2).bind fun zgo=>some (!zgo.1,zgo.2)).bind fun zbV=>if zbV.1 then some zbV.2 else y19 zy z1m z4g zaR zmy (i64 (z1w + 1)) zbV.2) else zaR z4Z
theorem y4p {n : Nat} {zy : Type} {z1m : List z7} {z4g : z7 → zy → Option (Bool × zy)} {zaR : zy → Option zy} {z1w : Int} {z4Z : zy} {r : zy} (h : y19 zy z1m z4g zaR n z1w z4Z = some r) : ∃ m,n = m + 1:=by
 cases n with
 | zero=>cases h
 | succ m=>exact ⟨m,rfl⟩
def y1O (zy : Type) (z4g : z7 → zy → Option (Bool × zy)) (s0_30244 : zy) (z4G : List (List z6)) (zda : zSv) (zgp : List (List z6)) (zdb : zSv) (z1m : List z7) : Option zy :=
 (y1L).bind fun zir=>(z4g zir s0_30244).bind fun zdc=>if !zdc.1 then some zdc.2 else jp1 (fun (z9K : zy)=>jp1 (fun (zaS : zy)=>some zaS) fun zaR=>y19 zy z1m z4g zaR yu 0 z9K) fun zaQ=>yE zy z4G z4g zaQ yu 0 zdc.2
set_option maxRecDepth 20000 in
theorem y5o (Z : Zp) (zy : Type) (z8c : Nat) (z2y : Type) (z1x : z2y → zy → Asrt) (z8d : z2y → zy → Prop) (z7S : z2y) (z9f : Addr) (zbW : Option Addr) (zbX : Nat) (zmz : Addr) (zmA : Option Addr) (zmB : Nat) (zmC : Addr) (zgq : Option Addr) (zgr : Nat) (z4g : z7 → zy → Option (Bool × zy)) (s0_30244 : zy) (z4G : List (List z6)) (zda : zSv) (zgp : List (List z6)) (zdb : zSv) (z1m : List z7) (r : zy) (w₀ : World) (hz : PZ (fps [z1x z7S s0_30244]) w₀ Z)
  (zgs : y7e Try.prog Z z8c (α:=z7) (σ:=zy) (G:=z2y) (H:=Unit) (fun h x=>[(.agg #[(.int .i64 x.fN),(.int .i64 x.fD)])]) (fun h x=>[]) z4g z1x z8d)
  (zxb : z8d z7S s0_30244)
  (zxc : ZS Z 1 (p39 Z) zbW zbX z4G)
  (zCb : ZS Z 1 (p39 Z) zmA zmB zgp)
  (zCc : ZC Z zmz [(.slice zmA zgp.length zmB)])
  (zCd : ZC Z zmC [(.int .i64 zdb.fR.fN),(.int .i64 zdb.fR.fD),(.int .i64 zdb.fLatency.fN),(.int .i64 zdb.fLatency.fD)])
  (zxd : ZS Z 2 (fun r x=>r = e30 x) zgq zgr z1m)
  (zqP : ZC Z z9f [(.slice zbW z4G.length zbX),(.int .i64 zda.fR.fN),(.int .i64 zda.fR.fD),(.int .i64 zda.fLatency.fN),(.int .i64 zda.fLatency.fD),(.func (.func 37) #[] #[(.pointer (some zmz)),(.pointer (some zmC))]),(.slice zgq z1m.length zgr)])
  (h : y1O zy z4g s0_30244 z4G zda zgp zdb z1m = some r)
  (hown : Hp (fps [z1x z7S s0_30244]) w₀ w₀ [z1x z7S s0_30244]) :
  Calls Try.prog 69 #[(.func (.yield z8c) #[] #[]),(.pointer (some z9f))] w₀ fun e w'=>∃ Zn : Zp,∃ zqQ : z2y,e = .returned (.tuple #[]) ∧ (z8d zqQ r) ∧ Hp (fps [z1x z7S s0_30244]) w₀ w' [fz Zn,z1x zqQ r]:=by
 unfold y1O at h
 refine Calls.yd (vs:=[(.func (.yield z8c) #[] #[]),(.pointer (some z9f))]) (pre:=[z1x z7S s0_30244]) (env:=[(0,(.func (.yield z8c) #[] #[])),(1,(.pointer (some z9f)))]) Try.func69 rfl Try.ntmps69 rfl (hown) rfl ?_
 refine WC.pool ?_
 refine WC.b ?_
 refine WC.b ?_
 obtain ⟨zir,zxe,h⟩:=ze h
 obtain ⟨zdc,zxf,h⟩:=ze h
 refine WC.a ?_
 refine WL.a (d:=11) rfl rfl rfl (q_m rfl) ?_
 refine WL.b (dd:=12) rfl rfl rfl (zj (l:=[]) Try.call51 .nil) (.nil : Sel [fz [],z1x z7S s0_30244] [] [fz [],z1x z7S s0_30244]) (fun w hw=>by have pz:=(hz.call2 hw (.nil : Sel [fz [],z1x z7S s0_30244] [] [fz [],z1x z7S s0_30244]) .here); exact y2y (Z:=_)   (r:=zir) w pz  zxe) ?_
 refine WL.yield (dd:=13) (x:=zir) (h:=()) (g:=z7S) (s:=s0_30244) (b:=zdc.1) (s':=zdc.2) zgs rfl rfl rfl (.cons rfl .nil) ((.cons .h1 .nil) : Sel _ [z1x z7S s0_30244] _) zxf zxb (fun w hw=>hz.call hw ((.cons .h1 .nil) : Sel _ [z1x z7S s0_30244] _)) ?_
 intro zqR zqS
 refine WL.a (d:=14) rfl rfl rfl (y1m rfl) ?_
 refine WL.nil ?_
 refine WX.a ?_
 refine WC.cond rfl (fun zmD=>?_) (fun zmD=>?_)
 ·replace h:=yh h zmD
  refine WC.ret ?_
  refine WX.y6 ?_
  obtain rfl:=Option.some.inj h
  refine WX.y7 Try.results69 .nil (fun w hw=>?_)
  exact ⟨[],zqR,y5s,zqS,hw.sub (.cons .h1 (.cons .here .nil))⟩
 ·replace h:=yi h zmD
  refine WC.skip ?_
  refine WX.a ?_
  obtain ⟨zaQ,zxg,h⟩:=y1h h
  refine WC.y2O (fun (z9K : zy) (z4h : Zp) (zew : z2y)=>(zaQ z9K = some r) ∧ (Zle (Z ++ []) (Z ++ z4h)) ∧ (z8d zew z9K)) (fun (z9K : zy) (z4h : Zp) (zew : z2y)=>[(0,(.func (.yield z8c) #[] #[])),(1,(.pointer (some z9f)))]) (fun (z9K : zy) (z4h : Zp) (zew : z2y)=>[fz z4h,z1x zew z9K]) ?_ ?_
  ·skip
   refine WC.b ?_
   refine WC.a ?_
   refine WL.a (d:=15) rfl rfl rfl (y3 y4O rfl rfl) ?_
   refine WL.a (d:=16) rfl rfl rfl (ya y3f rfl (y1J (hz.pv2 .h1) (zqP.mono (Zle.left _ _)) rfl)) ?_
   refine WL.a (d:=17) rfl rfl rfl (y10 Try.underlying26 rfl) ?_
   refine WL.a (d:=18) rfl rfl rfl (q_m rfl) ?_
   refine WL.nil ?_
   refine WX.a ?_
   refine WC.block ?_
   refine WC.y6R (fun (zex : Nat) (z5R : Int) (z6y : zy) (z3h : Zp) (z8K : z2y)=>(yE zy z4G z4g zaQ zex z5R z6y = some r) ∧ (Zle (Z ++ []) (Z ++ z3h)) ∧ (z8d z8K z6y)) (fun (zex : Nat) (z5R : Int) (z6y : zy) (z3h : Zp) (z8K : z2y)=>[(0,(.func (.yield z8c) #[] #[])),(1,(.pointer (some z9f))),(16,(.slice zbW z4G.length zbX)),(17,(.int .i64 ((z4G.length : Nat) : Int))),(18,(.int .i64 z5R))]) (fun (zex : Nat) (z5R : Int) (z6y : zy) (z3h : Zp) (z8K : z2y)=>[fz z3h,z1x z8K z6y]) (fun (zex : Nat) (z5R : Int) (z6y : zy) (z3h : Zp) (z8K : z2y)=>zex) ⟨yu,0,zdc.2,[],zqR⟩ ⟨h,(Zle.refl _),zqS⟩ (.cons rfl (.cons rfl (.cons rfl (.cons rfl (.cons rfl .nil))))) (.cons .h1 (.cons .here .nil)) ?_
   rintro zex z5R z6y z3h z8K ⟨h,zis,zqT⟩
   obtain ⟨zmw,rfl⟩:=y4o h
   rw [yE] at h
   refine WC.b ?_
   refine WC.a ?_
   refine WL.a (d:=19) rfl rfl rfl (y1c rfl rfl) ?_
   refine WL.nil ?_
   refine WX.a ?_
   refine WC.b ?_
   refine WC.cond rfl (fun zmE=>?_) (fun zmE=>?_)
   ·replace h:=yh h zmE
    refine WC.skip ?_
    refine WX.a ?_
    obtain ⟨zmx,zxh,h⟩:=y1h h
    refine WC.y2O (fun (z9I : zy) (zey : Zp) (zez : z2y)=>(zmx z9I = some r) ∧ (Zle (Z ++ z3h) (Z ++ zey)) ∧ (z8d zez z9I)) (fun (z9I : zy) (zey : Zp) (zez : z2y)=>[(0,(.func (.yield z8c) #[] #[])),(1,(.pointer (some z9f))),(16,(.slice zbW z4G.length zbX)),(17,(.int .i64 ((z4G.length : Nat) : Int))),(18,(.int .i64 z5R))]) (fun (z9I : zy) (zey : Zp) (zez : z2y)=>[fz zey,z1x zez z9I]) ?_ ?_
    ·skip
     refine WC.block ?_
     refine WC.b ?_
     obtain ⟨zxi,h⟩:=yl h
     refine WC.a ?_
     refine WL.znth (dd:=20) rfl rfl (Z:=(Z ++ z3h)) (Pr:=(p39 (Z ++ z3h))) y3Q rfl rfl ((zxc.mono ((Zle.left _ _).trans zis)).weak (fun _ _ h=>yL ((Zle.left _ _).trans zis) h)) zxi ?_
     rintro zCe zCf zxj zCg ⟨zxk,zxl,rfl,zxm⟩
     refine WL.a (d:=21) rfl rfl rfl (ya y4Q rfl (y4Z (hz.pv2 .here) zxj rfl)) ?_
     refine WL.a (d:=4) rfl rfl rfl (q_z rfl) ?_
     refine WL.nil ?_
     refine WX.a ?_
     refine WC.b ?_
     obtain ⟨zA,zxn,h⟩:=ze h
     refine WC.a ?_
     refine WL.a (d:=23) rfl rfl rfl (q_m rfl) ?_
     refine WL.y6n (dd:=24) rfl rfl rfl (zj (l:=[.tmp 23]) Try.call68 (.cons rfl .nil)) (.nil : Sel [fz z3h,z1x z8K z6y] [] [fz z3h,z1x z8K z6y]) (fun w hw=>by have pz:=(hz.call2 hw (.nil : Sel [fz z3h,z1x z8K z6y] [] [fz z3h,z1x z8K z6y]) .here); exact y4m (Z:=_) (z9s:=zxk) (z9t:=zxl) (z7L:=(nth z4G z5R)) (r:=zA) w pz zxm zxn) ?_
     rintro z5I zxo zxp _
     refine WL.merge .here .h1 ?_
     refine WL.a (d:=22) rfl rfl rfl (q_m rfl) ?_
     refine WL.a (d:=25) rfl rfl rfl (yf rfl rfl) ?_
     refine WL.a (d:=26) rfl rfl rfl (yf rfl rfl) ?_
     refine WL.a (d:=5) rfl rfl rfl (q_z rfl) ?_
     refine WL.a (d:=6) rfl rfl rfl (q_z rfl) ?_
     refine WL.nil ?_
     refine WX.a ?_
     refine WC.b ?_
     refine WC.a ?_
     refine WL.a (d:=27) rfl rfl rfl (q_m rfl) ?_
     refine WL.a (d:=28) rfl rfl rfl (y10 Try.underlying77 rfl) ?_
     refine WL.a (d:=29) rfl rfl rfl (q_m rfl) ?_
     refine WL.nil ?_
     refine WX.a ?_
     obtain ⟨zaP,zxq,h⟩:=y1h h
     refine WC.y5P (fun (z9J : zy) (zeA : z2y)=>(zaP z9J = some r) ∧ (z8d zeA z9J)) (fun (z9J : zy) (zeA : z2y)=>[(0,(.func (.yield z8c) #[] #[])),(1,(.pointer (some z9f))),(16,(.slice zbW z4G.length zbX)),(17,(.int .i64 ((z4G.length : Nat) : Int))),(18,(.int .i64 z5R))]) (fun (z9J : zy) (zeA : z2y)=>[fz (z3h ++ z5I),z1x zeA z9J]) ?_ ?_
     ·skip
      refine WC.block ?_
      refine WC.y3H (fun (zeB : Nat) (z1v : Int) (z4Y : zy) (zeC : Option Addr) (z4H : Nat) (z6A : z2y)=>(y18 zy zA z4g zaP zeB z1v z4Y = some r) ∧ (z8d z6A z4Y)) (fun (zeB : Nat) (z1v : Int) (z4Y : zy) (zeC : Option Addr) (z4H : Nat) (z6A : z2y)=>[(0,(.func (.yield z8c) #[] #[])),(1,(.pointer (some z9f))),(16,(.slice zbW z4G.length zbX)),(17,(.int .i64 ((z4G.length : Nat) : Int))),(18,(.int .i64 z5R)),(27,(.slice zeC zA.1.length z4H)),(28,(.int .i64 ((zA.1.length : Nat) : Int))),(29,(.int .i64 z1v))]) (fun (zeB : Nat) (z1v : Int) (z4Y : zy) (zeC : Option Addr) (z4H : Nat) (z6A : z2y)=>[fz (z3h ++ z5I),row (.slice zeC zA.1.length z4H) 30 2 (zA.1.flatMap e30),z1x z6A z4Y]) (fun (zeB : Nat) (z1v : Int) (z4Y : zy) (zeC : Option Addr) (z4H : Nat) (z6A : z2y)=>zeB) ⟨yu,0,z6y,zxo,zxp,z8K⟩ ⟨h,zqT⟩ (.cons rfl (.cons rfl (.cons rfl (.cons rfl (.cons rfl (.cons rfl (.cons rfl (.cons rfl .nil)))))))) (.cons .here (.cons .here (.cons .here .nil))) ?_
      rintro zeB z1v z4Y zeC z4H z6A ⟨h,zqU⟩
      obtain ⟨zmv,rfl⟩:=y4n h
      rw [y18] at h
      refine WC.b ?_
      refine WC.a ?_
      refine WL.a (d:=30) rfl rfl rfl (y1c rfl rfl) ?_
      refine WL.nil ?_
      refine WX.a ?_
      refine WC.b ?_
      refine WC.cond rfl (fun zmF=>?_) (fun zmF=>?_)
      ·replace h:=yh h zmF
       refine WC.skip ?_
       refine WX.a ?_
       refine WC.b ?_
       refine WC.block ?_
       refine WC.b ?_
       obtain ⟨zgt,h⟩:=yl h
       refine WC.a ?_
       refine WL.know (fun w hw=>Hp.y3j .h1 hw (by intro hz'; have:=zgt; rw [hz'] at this; omega)) ?_
       rintro ⟨z68,rfl⟩
       refine WL.a (d:=31) rfl rfl rfl (y14 y1K rfl rfl zgt.1 zgt.2 y39) ?_
       refine WL.a (d:=32) rfl rfl rfl (y4 (cs:=(e30 (nth zA.1 z1v))) y5 rfl rfl (y36 .h1 (y2J (enc:=e30) (l:=zA.1) (i:=z1v) (sz:=2) (fun _=>rfl) zgt.1 zgt.2))) ?_
       refine WL.new (dd:=8) rfl rfl rfl (ym (cs:=[(.int .i64 0),(.int .i64 0)]) yt rfl) ?_
       intro z6V _
       refine WL.yb rfl rfl (yc (vs:=[(.int .i64 ((nth zA.1 z1v).fN)),(.int .i64 ((nth zA.1 z1v).fD))]) (ds:=[(.int .i64 ((nth zA.1 z1v).fN)),(.int .i64 ((nth zA.1 z1v).fD))]) yo rfl rfl rfl rfl (y2 rfl (y2 rfl yk)) .here (Nat.le_of_ble_eq_true rfl) rfl) ?_
       refine WL.nil ?_
       refine WX.a ?_
       refine WC.b ?_
       obtain ⟨zii,zxr,h⟩:=ze h
       obtain ⟨zij,zxs,h⟩:=ze h
       obtain ⟨z6x,zxt,h⟩:=ze h
       obtain ⟨zbU,zqV,h⟩:=ze h
       refine WC.a ?_
       refine WL.a (d:=33) rfl rfl rfl (q_m rfl) ?_
       refine WL.a (d:=34) rfl rfl rfl (y4 (cs:=[(.int .i64 ((nth zA.1 z1v).fN)),(.int .i64 ((nth zA.1 z1v).fD))]) y5 rfl rfl (y8 .here)) ?_
       refine WL.b (dd:=35) rfl rfl rfl (zj (l:=[.tmp 34]) Try.call70 (.cons rfl .nil)) (.nil : Sel [stb z6V 30 [(.int .i64 ((nth zA.1 z1v).fN)),(.int .i64 ((nth zA.1 z1v).fD))],fz (z3h ++ z5I),row (.slice (some ⟨z68,0,none⟩) zA.1.length z4H) 30 2 (zA.1.flatMap e30),z1x z6A z4Y] [] [stb z6V 30 [(.int .i64 ((nth zA.1 z1v).fN)),(.int .i64 ((nth zA.1 z1v).fD))],fz (z3h ++ z5I),row (.slice (some ⟨z68,0,none⟩) zA.1.length z4H) 30 2 (zA.1.flatMap e30),z1x z6A z4Y]) (fun w hw=>by have pz:=(hz.call2 hw (.nil : Sel [stb z6V 30 [(.int .i64 ((nth zA.1 z1v).fN)),(.int .i64 ((nth zA.1 z1v).fD))],fz (z3h ++ z5I),row (.slice (some ⟨z68,0,none⟩) zA.1.length z4H) 30 2 (zA.1.flatMap e30),z1x z6A z4Y] [] [stb z6V 30 [(.int .i64 ((nth zA.1 z1v).fN)),(.int .i64 ((nth zA.1 z1v).fD))],fz (z3h ++ z5I),row (.slice (some ⟨z68,0,none⟩) zA.1.length z4H) 30 2 (zA.1.flatMap e30),z1x z6A z4Y]) .h1); exact y4B (Z:=_)  (z2X:=(⟨((nth zA.1 z1v).fN),((nth zA.1 z1v).fD)⟩ : z7)) (r:=zii) w pz  zxr) ?_
       refine WL.b (dd:=36) rfl rfl rfl (zj (l:=[.tmp 35]) Try.call65 (.cons rfl .nil)) (.nil : Sel [stb z6V 30 [(.int .i64 ((nth zA.1 z1v).fN)),(.int .i64 ((nth zA.1 z1v).fD))],fz (z3h ++ z5I),row (.slice (some ⟨z68,0,none⟩) zA.1.length z4H) 30 2 (zA.1.flatMap e30),z1x z6A z4Y] [] [stb z6V 30 [(.int .i64 ((nth zA.1 z1v).fN)),(.int .i64 ((nth zA.1 z1v).fD))],fz (z3h ++ z5I),row (.slice (some ⟨z68,0,none⟩) zA.1.length z4H) 30 2 (zA.1.flatMap e30),z1x z6A z4Y]) (fun w hw=>by have pz:=(hz.call2 hw (.nil : Sel [stb z6V 30 [(.int .i64 ((nth zA.1 z1v).fN)),(.int .i64 ((nth zA.1 z1v).fD))],fz (z3h ++ z5I),row (.slice (some ⟨z68,0,none⟩) zA.1.length z4H) 30 2 (zA.1.flatMap e30),z1x z6A z4Y] [] [stb z6V 30 [(.int .i64 ((nth zA.1 z1v).fN)),(.int .i64 ((nth zA.1 z1v).fD))],fz (z3h ++ z5I),row (.slice (some ⟨z68,0,none⟩) zA.1.length z4H) 30 2 (zA.1.flatMap e30),z1x z6A z4Y]) .h1); exact y1S (Z:=_)  (z6g:=zii) (r:=zij) w pz  zxs) ?_
       refine WL.yield (dd:=37) (x:=zij) (h:=()) (g:=z6A) (s:=z4Y) (b:=z6x.1) (s':=z6x.2) zgs rfl rfl rfl (.cons rfl .nil) ((.cons .h3 .nil) : Sel _ [z1x z6A z4Y] _) zxt zqU (fun w hw=>hz.call hw ((.cons .h3 .nil) : Sel _ [z1x z6A z4Y] _)) ?_
       intro z8L zqW
       refine WL.a (d:=38) rfl rfl rfl (y1m rfl) ?_
       refine WL.a (d:=39) rfl rfl rfl (q_m rfl) ?_
       refine WL.y6C (fun (zdd : z2y)=>z8d zdd zbU.2) (fun (zdd : z2y)=>[(0,(.func (.yield z8c) #[] #[])),(1,(.pointer (some z9f))),(16,(.slice zbW z4G.length zbX)),(17,(.int .i64 ((z4G.length : Nat) : Int))),(18,(.int .i64 z5R)),(27,(.slice (some ⟨z68,0,none⟩) zA.1.length z4H)),(28,(.int .i64 ((zA.1.length : Nat) : Int))),(29,(.int .i64 z1v)),(46,(.bool zbU.1))]) (fun (zdd : z2y)=>[z1x zdd zbU.2,stb z6V 30 [(.int .i64 ((nth zA.1 z1v).fN)),(.int .i64 ((nth zA.1 z1v).fD))],fz (z3h ++ z5I),row (.slice (some ⟨z68,0,none⟩) zA.1.length z4H) 30 2 (zA.1.flatMap e30)]) 7 ?_ (fun zdd zqX=>?_)
       ·rcases Bool.eq_false_or_eq_true (!z6x.1) with hb' | hb'
        ·have zqY:=hb'; clear hb'
         have zmG:=yh zqV zqY
         replace zmG:=Option.some.inj zmG
         refine WL.pin (i:=39) rfl zqY ?_
         refine WL.e rfl rfl rfl ?_
         refine WL.e rfl rfl rfl ?_
         refine WL.e rfl rfl rfl ?_
         refine WL.e rfl rfl rfl ?_
         refine WL.e rfl rfl rfl ?_
         refine WL.e rfl rfl rfl ?_
         refine WL.a (d:=46) rfl rfl rfl (ys rfl rfl) ?_
         subst zmG
         exact WL.y9 z8L zqW (.cons rfl (.cons rfl (.cons rfl (.cons rfl (.cons rfl (.cons rfl (.cons rfl (.cons rfl (.cons rfl .nil))))))))) (.cons .here (.cons .here (.cons .here (.cons .here .nil))))
        ·have zqZ:=hb'; clear hb'
         have zaT:=yi zqV zqZ
         obtain ⟨zik,zxu,zaT⟩:=ze zaT
         obtain ⟨zil,zxv,zaT⟩:=ze zaT
         obtain ⟨zgn,zxw,zaT⟩:=ze zaT
         replace zaT:=Option.some.inj zaT
         refine WL.pin (i:=39) rfl zqZ ?_
         refine WL.a (d:=40) rfl rfl rfl (q_m rfl) ?_
         refine WL.a (d:=41) rfl rfl rfl (y4 (cs:=[(.int .i64 ((nth zA.1 z1v).fN)),(.int .i64 ((nth zA.1 z1v).fD))]) y5 rfl rfl (y8 .h1)) ?_
         refine WL.b (dd:=42) rfl rfl rfl (zj (l:=[.tmp 41]) Try.call71 (.cons rfl .nil)) (.nil : Sel [z1x z8L z6x.2,stb z6V 30 [(.int .i64 ((nth zA.1 z1v).fN)),(.int .i64 ((nth zA.1 z1v).fD))],fz (z3h ++ z5I),row (.slice (some ⟨z68,0,none⟩) zA.1.length z4H) 30 2 (zA.1.flatMap e30)] [] [z1x z8L z6x.2,stb z6V 30 [(.int .i64 ((nth zA.1 z1v).fN)),(.int .i64 ((nth zA.1 z1v).fD))],fz (z3h ++ z5I),row (.slice (some ⟨z68,0,none⟩) zA.1.length z4H) 30 2 (zA.1.flatMap e30)]) (fun w hw=>by have pz:=(hz.call2 hw (.nil : Sel [z1x z8L z6x.2,stb z6V 30 [(.int .i64 ((nth zA.1 z1v).fN)),(.int .i64 ((nth zA.1 z1v).fD))],fz (z3h ++ z5I),row (.slice (some ⟨z68,0,none⟩) zA.1.length z4H) 30 2 (zA.1.flatMap e30)] [] [z1x z8L z6x.2,stb z6V 30 [(.int .i64 ((nth zA.1 z1v).fN)),(.int .i64 ((nth zA.1 z1v).fD))],fz (z3h ++ z5I),row (.slice (some ⟨z68,0,none⟩) zA.1.length z4H) 30 2 (zA.1.flatMap e30)]) .h2); exact y5I (Z:=_)  (z2O:=(⟨((nth zA.1 z1v).fN),((nth zA.1 z1v).fD)⟩ : z7)) (r:=zik) w pz  zxu) ?_
         refine WL.b (dd:=43) rfl rfl rfl (zj (l:=[.tmp 42]) Try.call65 (.cons rfl .nil)) (.nil : Sel [z1x z8L z6x.2,stb z6V 30 [(.int .i64 ((nth zA.1 z1v).fN)),(.int .i64 ((nth zA.1 z1v).fD))],fz (z3h ++ z5I),row (.slice (some ⟨z68,0,none⟩) zA.1.length z4H) 30 2 (zA.1.flatMap e30)] [] [z1x z8L z6x.2,stb z6V 30 [(.int .i64 ((nth zA.1 z1v).fN)),(.int .i64 ((nth zA.1 z1v).fD))],fz (z3h ++ z5I),row (.slice (some ⟨z68,0,none⟩) zA.1.length z4H) 30 2 (zA.1.flatMap e30)]) (fun w hw=>by have pz:=(hz.call2 hw (.nil : Sel [z1x z8L z6x.2,stb z6V 30 [(.int .i64 ((nth zA.1 z1v).fN)),(.int .i64 ((nth zA.1 z1v).fD))],fz (z3h ++ z5I),row (.slice (some ⟨z68,0,none⟩) zA.1.length z4H) 30 2 (zA.1.flatMap e30)] [] [z1x z8L z6x.2,stb z6V 30 [(.int .i64 ((nth zA.1 z1v).fN)),(.int .i64 ((nth zA.1 z1v).fD))],fz (z3h ++ z5I),row (.slice (some ⟨z68,0,none⟩) zA.1.length z4H) 30 2 (zA.1.flatMap e30)]) .h2); exact y1S (Z:=_)  (z6g:=zik) (r:=zil) w pz  zxv) ?_
         refine WL.yield (dd:=44) (x:=zil) (h:=()) (g:=z8L) (s:=z6x.2) (b:=zgn.1) (s':=zgn.2) zgs rfl rfl rfl (.cons rfl .nil) ((.cons .here .nil) : Sel _ [z1x z8L z6x.2] _) zxw zqW (fun w hw=>hz.call hw ((.cons .here .nil) : Sel _ [z1x z8L z6x.2] _)) ?_
         intro zxx zxy
         refine WL.a (d:=45) rfl rfl rfl (y1m rfl) ?_
         refine WL.a (d:=46) rfl rfl rfl (yr rfl rfl) ?_
         subst zaT
         exact WL.y9 zxx zxy (.cons rfl (.cons rfl (.cons rfl (.cons rfl (.cons rfl (.cons rfl (.cons rfl (.cons rfl (.cons rfl .nil))))))))) (.cons .here (.cons .here (.cons .here (.cons .here .nil))))
       ·skip
        refine WL.nil ?_
        refine WX.a ?_
        refine WC.cond rfl (fun zmH=>?_) (fun zmH=>?_)
        ·replace h:=yh h zmH
         refine WC.ret ?_
         refine WX.yq ?_
         refine WX.y6 ?_
         refine WX.y6 ?_
         refine WX.yq ?_
         refine WX.y6 ?_
         refine WX.yq ?_
         refine WX.y6 ?_
         refine WX.y6 ?_
         refine WX.yq ?_
         refine WX.y6 ?_
         obtain rfl:=Option.some.inj h
         refine WX.y7 Try.results69 .nil (fun w hw=>?_)
         exact ⟨(z3h ++ z5I),zdd,y5s,zqX,hw.sub (.cons .h2 (.cons .here .nil))⟩
        ·replace h:=yi h zmH
         refine WC.skip ?_
         refine WX.yg ?_
         refine WX.a ?_
         refine WC.a ?_
         refine WL.a (d:=47) rfl rfl rfl (yW rfl rfl rfl) ?_
         refine WL.a (d:=29) rfl rfl rfl (q_m rfl) ?_
         refine WL.nil ?_
         exact WX.round (G:=Nat × Int × zy × Option Addr × Nat × z2y) ⟨zmv,(i64 (z1v + 1)),zbU.2,(some ⟨z68,0,none⟩),z4H,zdd⟩ ⟨h,zqX⟩ (Nat.lt_succ_self _) (.cons rfl (.cons rfl (.cons rfl (.cons rfl (.cons rfl (.cons rfl (.cons rfl (.cons rfl .nil)))))))) (.cons .h2 (.cons .h2 (.cons .here .nil)))
      ·replace h:=yi h zmF
       refine WC.exit ?_
       refine WX.ye ?_
       refine WX.ye ?_
       refine WX.yx ?_
       exact WX.mid (G:=zy × z2y) ⟨z4Y,z6A⟩ ⟨h,zqU⟩ (.cons rfl (.cons rfl (.cons rfl (.cons rfl (.cons rfl .nil))))) (.cons .here (.cons .h1 .nil))
     ·rintro z9J zeA ⟨h,zxz⟩
      replace h:=(zxq z9J).symm.trans h
      refine WX.yg ?_
      exact WX.mid (G:=zy × Zp × z2y) ⟨z9J,(z3h ++ z5I),zeA⟩ ⟨h,((Zle.left _ _).trans (Zle.yp _ _ _)),zxz⟩ (.cons rfl (.cons rfl (.cons rfl (.cons rfl (.cons rfl .nil))))) (.cons .here (.cons .here .nil))
    ·rintro z9I zey zez ⟨h,zxA,zxB⟩
     replace h:=(zxh z9I).symm.trans h
     refine WC.a ?_
     refine WL.a (d:=48) rfl rfl rfl (yW rfl rfl rfl) ?_
     refine WL.a (d:=18) rfl rfl rfl (q_m rfl) ?_
     refine WL.nil ?_
     exact WX.round (G:=Nat × Int × zy × Zp × z2y) ⟨zmw,(i64 (z5R + 1)),z9I,zey,zez⟩ ⟨h,(zis.trans zxA),zxB⟩ (Nat.lt_succ_self _) (.cons rfl (.cons rfl (.cons rfl (.cons rfl (.cons rfl .nil))))) (.cons .here (.cons .here .nil))
   ·replace h:=yi h zmE
    refine WC.exit ?_
    refine WX.ye ?_
    refine WX.ye ?_
    refine WX.yx ?_
    exact WX.mid (G:=zy × Zp × z2y) ⟨z6y,z3h,z8K⟩ ⟨h,zis,zqT⟩ (.cons rfl (.cons rfl .nil)) (.cons .here (.cons .here .nil))
  ·rintro z9K z4h zew ⟨h,zr0,zxC⟩
   replace h:=(zxg z9K).symm.trans h
   refine WC.b ?_
   refine WC.a ?_
   refine WL.a (d:=49) rfl rfl rfl (y3 y9J rfl rfl) ?_
   refine WL.a (d:=50) rfl rfl rfl (ya y3z rfl (y1J (hz.pv2 .here) (zqP.mono ((Zle.left _ _).trans zr0)) rfl)) ?_
   refine WL.a (d:=51) rfl rfl rfl (y10 Try.underlying77 rfl) ?_
   refine WL.a (d:=52) rfl rfl rfl (q_m rfl) ?_
   refine WL.nil ?_
   refine WX.a ?_
   obtain ⟨zaR,zxD,h⟩:=y1h h
   refine WC.y5P (fun (zaS : zy) (zeD : z2y)=>(zaR zaS = some r) ∧ (z8d zeD zaS)) (fun (zaS : zy) (zeD : z2y)=>[]) (fun (zaS : zy) (zeD : z2y)=>[fz z4h,z1x zeD zaS]) ?_ ?_
   ·skip
    refine WC.block ?_
    refine WC.y49 (fun (zeE : Nat) (z1w : Int) (z4Z : zy) (z6B : z2y)=>(y19 zy z1m z4g zaR zeE z1w z4Z = some r) ∧ (z8d z6B z4Z)) (fun (zeE : Nat) (z1w : Int) (z4Z : zy) (z6B : z2y)=>[(0,(.func (.yield z8c) #[] #[])),(50,(.slice zgq z1m.length zgr)),(51,(.int .i64 ((z1m.length : Nat) : Int))),(52,(.int .i64 z1w))]) (fun (zeE : Nat) (z1w : Int) (z4Z : zy) (z6B : z2y)=>[fz z4h,z1x z6B z4Z]) (fun (zeE : Nat) (z1w : Int) (z4Z : zy) (z6B : z2y)=>zeE) ⟨yu,0,z9K,zew⟩ ⟨h,zxC⟩ (.cons rfl (.cons rfl (.cons rfl (.cons rfl .nil)))) (.cons .here (.cons .here .nil)) ?_
    rintro zeE z1w z4Z z6B ⟨h,zr1⟩
    obtain ⟨zmy,rfl⟩:=y4p h
    rw [y19] at h
    refine WC.b ?_
    refine WC.a ?_
    refine WL.a (d:=53) rfl rfl rfl (y1c rfl rfl) ?_
    refine WL.nil ?_
    refine WX.a ?_
    refine WC.b ?_
    refine WC.cond rfl (fun zmI=>?_) (fun zmI=>?_)
    ·replace h:=yh h zmI
     refine WC.skip ?_
     refine WX.a ?_
     refine WC.b ?_
     refine WC.block ?_
     refine WC.b ?_
     obtain ⟨zxE,h⟩:=yl h
     refine WC.a ?_
     refine WL.znth (dd:=54) rfl rfl (Z:=(Z ++ z4h)) (Pr:=(fun r x=>r = e30 x)) y1K rfl rfl (zxd.mono ((Zle.left _ _).trans zr0)) zxE ?_
     rintro zCh zCi zxF zCj rfl
     refine WL.a (d:=55) rfl rfl rfl (y4 (cs:=[(.int .i64 ((nth z1m z1w).fN)),(.int .i64 ((nth z1m z1w).fD))]) y5 rfl rfl (y2P (hz.pv2 .here) zxF)) ?_
     refine WL.new (dd:=10) rfl rfl rfl (ym (cs:=[(.int .i64 0),(.int .i64 0)]) yt rfl) ?_
     intro z6W _
     refine WL.yb rfl rfl (yc (vs:=[(.int .i64 ((nth z1m z1w).fN)),(.int .i64 ((nth z1m z1w).fD))]) (ds:=[(.int .i64 ((nth z1m z1w).fN)),(.int .i64 ((nth z1m z1w).fD))]) yo rfl rfl rfl rfl (y2 rfl (y2 rfl yk)) .here (Nat.le_of_ble_eq_true rfl) rfl) ?_
     refine WL.nil ?_
     refine WX.a ?_
     refine WC.b ?_
     obtain ⟨zim,zxG,h⟩:=ze h
     obtain ⟨zin,zxH,h⟩:=ze h
     obtain ⟨z6z,zxI,h⟩:=ze h
     obtain ⟨zbV,zr2,h⟩:=ze h
     refine WC.a ?_
     refine WL.a (d:=56) rfl rfl rfl (q_m rfl) ?_
     refine WL.a (d:=57) rfl rfl rfl (y4 (cs:=[(.int .i64 ((nth z1m z1w).fN)),(.int .i64 ((nth z1m z1w).fD))]) y5 rfl rfl (y8 .here)) ?_
     refine WL.b (dd:=58) rfl rfl rfl (zj (l:=[.tmp 57]) Try.call70 (.cons rfl .nil)) (.nil : Sel [stb z6W 30 [(.int .i64 ((nth z1m z1w).fN)),(.int .i64 ((nth z1m z1w).fD))],fz z4h,z1x z6B z4Z] [] [stb z6W 30 [(.int .i64 ((nth z1m z1w).fN)),(.int .i64 ((nth z1m z1w).fD))],fz z4h,z1x z6B z4Z]) (fun w hw=>by have pz:=(hz.call2 hw (.nil : Sel [stb z6W 30 [(.int .i64 ((nth z1m z1w).fN)),(.int .i64 ((nth z1m z1w).fD))],fz z4h,z1x z6B z4Z] [] [stb z6W 30 [(.int .i64 ((nth z1m z1w).fN)),(.int .i64 ((nth z1m z1w).fD))],fz z4h,z1x z6B z4Z]) .h1); exact y4B (Z:=_)  (z2X:=(⟨((nth z1m z1w).fN),((nth z1m z1w).fD)⟩ : z7)) (r:=zim) w pz  zxG) ?_
     refine WL.b (dd:=59) rfl rfl rfl (zj (l:=[.tmp 58]) Try.call65 (.cons rfl .nil)) (.nil : Sel [stb z6W 30 [(.int .i64 ((nth z1m z1w).fN)),(.int .i64 ((nth z1m z1w).fD))],fz z4h,z1x z6B z4Z] [] [stb z6W 30 [(.int .i64 ((nth z1m z1w).fN)),(.int .i64 ((nth z1m z1w).fD))],fz z4h,z1x z6B z4Z]) (fun w hw=>by have pz:=(hz.call2 hw (.nil : Sel [stb z6W 30 [(.int .i64 ((nth z1m z1w).fN)),(.int .i64 ((nth z1m z1w).fD))],fz z4h,z1x z6B z4Z] [] [stb z6W 30 [(.int .i64 ((nth z1m z1w).fN)),(.int .i64 ((nth z1m z1w).fD))],fz z4h,z1x z6B z4Z]) .h1); exact y1S (Z:=_)  (z6g:=zim) (r:=zin) w pz  zxH) ?_
     refine WL.yield (dd:=60) (x:=zin) (h:=()) (g:=z6B) (s:=z4Z) (b:=z6z.1) (s':=z6z.2) zgs rfl rfl rfl (.cons rfl .nil) ((.cons .h2 .nil) : Sel _ [z1x z6B z4Z] _) zxI zr1 (fun w hw=>hz.call hw ((.cons .h2 .nil) : Sel _ [z1x z6B z4Z] _)) ?_
     intro z8M zr3
     refine WL.a (d:=61) rfl rfl rfl (y1m rfl) ?_
     refine WL.a (d:=62) rfl rfl rfl (q_m rfl) ?_
     refine WL.y6C (fun (zde : z2y)=>z8d zde zbV.2) (fun (zde : z2y)=>[(0,(.func (.yield z8c) #[] #[])),(50,(.slice zgq z1m.length zgr)),(51,(.int .i64 ((z1m.length : Nat) : Int))),(52,(.int .i64 z1w)),(69,(.bool zbV.1))]) (fun (zde : z2y)=>[z1x zde zbV.2,stb z6W 30 [(.int .i64 ((nth z1m z1w).fN)),(.int .i64 ((nth z1m z1w).fD))],fz z4h]) 7 ?_ (fun zde zr4=>?_)
     ·rcases Bool.eq_false_or_eq_true (!z6z.1) with hb' | hb'
      ·have zr5:=hb'; clear hb'
       have zmJ:=yh zr2 zr5
       replace zmJ:=Option.some.inj zmJ
       refine WL.pin (i:=62) rfl zr5 ?_
       refine WL.e rfl rfl rfl ?_
       refine WL.e rfl rfl rfl ?_
       refine WL.e rfl rfl rfl ?_
       refine WL.e rfl rfl rfl ?_
       refine WL.e rfl rfl rfl ?_
       refine WL.e rfl rfl rfl ?_
       refine WL.a (d:=69) rfl rfl rfl (ys rfl rfl) ?_
       subst zmJ
       exact WL.y9 z8M zr3 (.cons rfl (.cons rfl (.cons rfl (.cons rfl (.cons rfl .nil))))) (.cons .here (.cons .here (.cons .here .nil)))
      ·have zr6:=hb'; clear hb'
       have zaU:=yi zr2 zr6
       obtain ⟨zio,zxJ,zaU⟩:=ze zaU
       obtain ⟨ziq,zxK,zaU⟩:=ze zaU
       obtain ⟨zgo,zxL,zaU⟩:=ze zaU
       replace zaU:=Option.some.inj zaU
       refine WL.pin (i:=62) rfl zr6 ?_
       refine WL.a (d:=63) rfl rfl rfl (q_m rfl) ?_
       refine WL.a (d:=64) rfl rfl rfl (y4 (cs:=[(.int .i64 ((nth z1m z1w).fN)),(.int .i64 ((nth z1m z1w).fD))]) y5 rfl rfl (y8 .h1)) ?_
       refine WL.b (dd:=65) rfl rfl rfl (zj (l:=[.tmp 64]) Try.call71 (.cons rfl .nil)) (.nil : Sel [z1x z8M z6z.2,stb z6W 30 [(.int .i64 ((nth z1m z1w).fN)),(.int .i64 ((nth z1m z1w).fD))],fz z4h] [] [z1x z8M z6z.2,stb z6W 30 [(.int .i64 ((nth z1m z1w).fN)),(.int .i64 ((nth z1m z1w).fD))],fz z4h]) (fun w hw=>by have pz:=(hz.call2 hw (.nil : Sel [z1x z8M z6z.2,stb z6W 30 [(.int .i64 ((nth z1m z1w).fN)),(.int .i64 ((nth z1m z1w).fD))],fz z4h] [] [z1x z8M z6z.2,stb z6W 30 [(.int .i64 ((nth z1m z1w).fN)),(.int .i64 ((nth z1m z1w).fD))],fz z4h]) .h2); exact y5I (Z:=_)  (z2O:=(⟨((nth z1m z1w).fN),((nth z1m z1w).fD)⟩ : z7)) (r:=zio) w pz  zxJ) ?_
       refine WL.b (dd:=66) rfl rfl rfl (zj (l:=[.tmp 65]) Try.call65 (.cons rfl .nil)) (.nil : Sel [z1x z8M z6z.2,stb z6W 30 [(.int .i64 ((nth z1m z1w).fN)),(.int .i64 ((nth z1m z1w).fD))],fz z4h] [] [z1x z8M z6z.2,stb z6W 30 [(.int .i64 ((nth z1m z1w).fN)),(.int .i64 ((nth z1m z1w).fD))],fz z4h]) (fun w hw=>by have pz:=(hz.call2 hw (.nil : Sel [z1x z8M z6z.2,stb z6W 30 [(.int .i64 ((nth z1m z1w).fN)),(.int .i64 ((nth z1m z1w).fD))],fz z4h] [] [z1x z8M z6z.2,stb z6W 30 [(.int .i64 ((nth z1m z1w).fN)),(.int .i64 ((nth z1m z1w).fD))],fz z4h]) .h2); exact y1S (Z:=_)  (z6g:=zio) (r:=ziq) w pz  zxK) ?_
       refine WL.yield (dd:=67) (x:=ziq) (h:=()) (g:=z8M) (s:=z6z.2) (b:=zgo.1) (s':=zgo.2) zgs rfl rfl rfl (.cons rfl .nil) ((.cons .here .nil) : Sel _ [z1x z8M z6z.2] _) zxL zr3 (fun w hw=>hz.call hw ((.cons .here .nil) : Sel _ [z1x z8M z6z.2] _)) ?_
       intro zxM zxN
       refine WL.a (d:=68) rfl rfl rfl (y1m rfl) ?_
       refine WL.a (d:=69) rfl rfl rfl (yr rfl rfl) ?_
       subst zaU
       exact WL.y9 zxM zxN (.cons rfl (.cons rfl (.cons rfl (.cons rfl (.cons rfl .nil))))) (.cons .here (.cons .here (.cons .here .nil)))
     ·skip
      refine WL.nil ?_
      refine WX.a ?_
      refine WC.cond rfl (fun zmK=>?_) (fun zmK=>?_)
      ·replace h:=yh h zmK
       refine WC.ret ?_
       refine WX.yq ?_
       refine WX.y6 ?_
       refine WX.y6 ?_
       refine WX.yq ?_
       refine WX.y6 ?_
       obtain rfl:=Option.some.inj h
       refine WX.y7 Try.results69 .nil (fun w hw=>?_)
       exact ⟨z4h,zde,y5s,zr4,hw.sub (.cons .h2 (.cons .here .nil))⟩
      ·replace h:=yi h zmK
       refine WC.skip ?_
       refine WX.yg ?_
       refine WX.a ?_
       refine WC.a ?_
       refine WL.a (d:=70) rfl rfl rfl (yW rfl rfl rfl) ?_
       refine WL.a (d:=52) rfl rfl rfl (q_m rfl) ?_
       refine WL.nil ?_
       exact WX.round (G:=Nat × Int × zy × z2y) ⟨zmy,(i64 (z1w + 1)),zbV.2,zde⟩ ⟨h,zr4⟩ (Nat.lt_succ_self _) (.cons rfl (.cons rfl (.cons rfl (.cons rfl .nil)))) (.cons .h2 (.cons .here .nil))
    ·replace h:=yi h zmI
     refine WC.exit ?_
     refine WX.ye ?_
     refine WX.ye ?_
     refine WX.yx ?_
     exact WX.mid (G:=zy × z2y) ⟨z4Z,z6B⟩ ⟨h,zr1⟩ .nil (.cons .here (.cons .here .nil))
   ·rintro zaS zeD ⟨h,zxO⟩
    replace h:=(zxD zaS).symm.trans h
    obtain rfl:=Option.some.inj h
    refine WX.y4z Try.results69 .nil (fun w hw=>?_)
    exact ⟨z4h,zeD,y5s,zxO,hw.sub (.cons .here (.cons .here .nil))⟩
def y1T (z7j : z2h) (zX : z7) (zdf : List (List z6)) (z69 : zSv) : Option (z7 × z2h) :=
 (y25 z7j zdf zX).bind fun z18=>(yV zX z69.fLatency).bind fun zmL=>if decide (zmL ≤ 0) then some (z18.1,z18.2) else (y12 z18.2 (fun (y0 : z7) (y1 : z7)=>y1N y0 y1) zX z69.fLatency).bind fun z8N=>(y12 z8N.2 (fun (y0 : z7) (y1 : z7)=>y3F y0 y1) z69.fR z8N.1).bind fun z8O=>(y12 z8O.2 (fun (y0 : z7) (y1 : z7)=>y1N y0 y1) z18.1 z8O.1).bind fun zbY=>some (zbY.1,zbY.2)
set_option maxRecDepth 20000 in
theorem y70 (Z : Zp)  (z2A : Nat) (zgu : Addr) (zit : Option Addr) (ziu : Nat) (zgv : Addr) (z7j : z2h) (zX : z7) (zdf : List (List z6)) (z69 : zSv) (r : z7 × z2h) (w₀ : World) (hz : PZ (fps [stb z2A 98 [(.int .i64 z7j.fE)]]) w₀ Z)
  (zxP : ZS Z 1 (p39 Z) zit ziu zdf)
  (zxQ : ZC Z zgu [(.slice zit zdf.length ziu)])
  (zmM : ZC Z zgv [(.int .i64 z69.fR.fN),(.int .i64 z69.fR.fD),(.int .i64 z69.fLatency.fN),(.int .i64 z69.fLatency.fD)])
  (h : y1T z7j zX zdf z69 = some r)
  (hown : Hp (fps [stb z2A 98 [(.int .i64 z7j.fE)]]) w₀ w₀ [stb z2A 98 [(.int .i64 z7j.fE)]]) :
  Calls Try.prog 37 #[(.pointer (some ⟨z2A,0,none⟩)),(.agg #[(.int .i64 zX.fN),(.int .i64 zX.fD)]),(.pointer (some zgu)),(.pointer (some zgv))] w₀ fun e w'=>e = .returned (.agg #[(.int .i64 r.1.fN),(.int .i64 r.1.fD)]) ∧ Hp (fps [stb z2A 98 [(.int .i64 z7j.fE)]]) w₀ w' [stb z2A 98 [(.int .i64 r.2.fE)]]:=by
 unfold y1T at h
 refine Calls.yd (vs:=[(.pointer (some ⟨z2A,0,none⟩)),(.agg #[(.int .i64 zX.fN),(.int .i64 zX.fD)]),(.pointer (some zgu)),(.pointer (some zgv))]) (pre:=[stb z2A 98 [(.int .i64 z7j.fE)]]) (env:=[(0,(.pointer (some ⟨z2A,0,none⟩))),(1,(.agg #[(.int .i64 zX.fN),(.int .i64 zX.fD)])),(2,(.pointer (some zgu))),(3,(.pointer (some zgv)))]) Try.func37 rfl Try.ntmps37 rfl (hown) rfl ?_
 refine WC.b ?_
 refine WC.a ?_
 refine WL.new (dd:=5) rfl rfl rfl (yI (cs:=[(.int .i64 zX.fN),(.int .i64 zX.fD)]) rfl rfl) ?_
 intro z41 _
 refine WL.new (dd:=6) rfl rfl rfl (ym (cs:=[(.int .i64 0),(.int .i64 0)]) yt rfl) ?_
 intro z42 _
 refine WL.nil ?_
 refine WX.a ?_
 refine WC.b ?_
 obtain ⟨z18,zxR,h⟩:=ze h
 refine WC.a ?_
 refine WL.a (d:=8) rfl rfl rfl (q_m rfl) ?_
 refine WL.a (d:=9) rfl rfl rfl (ya y3f rfl (y4Z hz.pv zxQ rfl)) ?_
 refine WL.a (d:=10) rfl rfl rfl (y4 (cs:=[(.int .i64 zX.fN),(.int .i64 zX.fD)]) y5 rfl rfl (y8 .h1)) ?_
 refine WL.b (dd:=11) rfl rfl rfl (zj (l:=[.tmp 8,.tmp 9,.tmp 10]) Try.call35 (.cons rfl (.cons rfl (.cons rfl .nil)))) ((.cons .h2 .nil) : Sel [stb z42 30 [(.int .i64 0),(.int .i64 0)],stb z41 30 [(.int .i64 zX.fN),(.int .i64 zX.fD)],stb z2A 98 [(.int .i64 z7j.fE)]] [stb z2A 98 [(.int .i64 z7j.fE)]] [stb z42 30 [(.int .i64 0),(.int .i64 0)],stb z41 30 [(.int .i64 zX.fN),(.int .i64 zX.fD)]]) (fun w hw=>by have pz:=(hz.call hw ((.cons .h2 .nil) : Sel [stb z42 30 [(.int .i64 0),(.int .i64 0)],stb z41 30 [(.int .i64 zX.fN),(.int .i64 zX.fD)],stb z2A 98 [(.int .i64 z7j.fE)]] [stb z2A 98 [(.int .i64 z7j.fE)]] [stb z42 30 [(.int .i64 0),(.int .i64 0)],stb z41 30 [(.int .i64 zX.fN),(.int .i64 zX.fD)]])); exact y4S (Z:=_) (z3y:=z2A) (zbO:=zit) (zbP:=ziu) (z7r:=z7j) (z5q:=zdf) (z24:=zX) (r:=z18) w pz zxP zxR (hw.owns ((.cons .h2 .nil) : Sel [stb z42 30 [(.int .i64 0),(.int .i64 0)],stb z41 30 [(.int .i64 zX.fN),(.int .i64 zX.fD)],stb z2A 98 [(.int .i64 z7j.fE)]] [stb z2A 98 [(.int .i64 z7j.fE)]] [stb z42 30 [(.int .i64 0),(.int .i64 0)],stb z41 30 [(.int .i64 zX.fN),(.int .i64 zX.fD)]]))) ?_
 refine WL.new (dd:=7) rfl rfl rfl (ym (cs:=[(.int .i64 0),(.int .i64 0)]) yt rfl) ?_
 intro z5d _
 refine WL.yb rfl rfl (yc (vs:=[(.int .i64 z18.1.fN),(.int .i64 z18.1.fD)]) (ds:=[(.int .i64 z18.1.fN),(.int .i64 z18.1.fD)]) yo rfl rfl rfl rfl (y2 rfl (y2 rfl yk)) .here (Nat.le_of_ble_eq_true rfl) rfl) ?_
 refine WL.nil ?_
 refine WX.a ?_
 refine WC.b ?_
 refine WC.b ?_
 obtain ⟨zmL,zxS,h⟩:=ze h
 refine WC.a ?_
 refine WL.a (d:=12) rfl rfl rfl (y4 (cs:=[(.int .i64 zX.fN),(.int .i64 zX.fD)]) y5 rfl rfl (y8 .h3)) ?_
 refine WL.a (d:=13) rfl rfl rfl (y3 y5T rfl rfl) ?_
 refine WL.a (d:=14) rfl rfl rfl (y4 (cs:=[(.int .i64 z69.fLatency.fN),(.int .i64 z69.fLatency.fD)]) y5 rfl rfl (y6E (off:=2) (s:=2) hz.pv zmM rfl)) ?_
 refine WL.b (dd:=15) rfl rfl rfl (zj (l:=[.tmp 12,.tmp 14]) Try.call18 (.cons rfl (.cons rfl .nil))) (.nil : Sel [stb z5d 30 [(.int .i64 z18.1.fN),(.int .i64 z18.1.fD)],stb z2A 98 [(.int .i64 z18.2.fE)],stb z42 30 [(.int .i64 0),(.int .i64 0)],stb z41 30 [(.int .i64 zX.fN),(.int .i64 zX.fD)]] [] [stb z5d 30 [(.int .i64 z18.1.fN),(.int .i64 z18.1.fD)],stb z2A 98 [(.int .i64 z18.2.fE)],stb z42 30 [(.int .i64 0),(.int .i64 0)],stb z41 30 [(.int .i64 zX.fN),(.int .i64 zX.fD)]]) (fun w hw=>by have pz:=(hz.call hw (.nil : Sel [stb z5d 30 [(.int .i64 z18.1.fN),(.int .i64 z18.1.fD)],stb z2A 98 [(.int .i64 z18.2.fE)],stb z42 30 [(.int .i64 0),(.int .i64 0)],stb z41 30 [(.int .i64 zX.fN),(.int .i64 zX.fD)]] [] [stb z5d 30 [(.int .i64 z18.1.fN),(.int .i64 z18.1.fD)],stb z2A 98 [(.int .i64 z18.2.fE)],stb z42 30 [(.int .i64 0),(.int .i64 0)],stb z41 30 [(.int .i64 zX.fN),(.int .i64 zX.fD)]])); exact y26 (Z:=_)  (z29:=zX) (z2a:=z69.fLatency) (r:=zmL) w pz  zxS) ?_
 refine WL.a (d:=16) rfl rfl rfl (y5A rfl rfl) ?_
 refine WL.nil ?_
 refine WX.a ?_
 refine WC.cond rfl (fun zmN=>?_) (fun zmN=>?_)
 ·replace h:=yh h zmN
  refine WC.b ?_
  refine WC.a ?_
  refine WL.a (d:=17) rfl rfl rfl (y4 (cs:=[(.int .i64 z18.1.fN),(.int .i64 z18.1.fD)]) y5 rfl rfl (y8 .here)) ?_
  refine WL.yb rfl rfl (yc (vs:=[(.int .i64 z18.1.fN),(.int .i64 z18.1.fD)]) (ds:=[(.int .i64 z18.1.fN),(.int .i64 z18.1.fD)]) yo rfl rfl rfl rfl (y2 rfl (y2 rfl yk)) .h2 (Nat.le_of_ble_eq_true rfl) rfl) ?_
  refine WL.nil ?_
  refine WX.a ?_
  refine WC.ret ?_
  refine WX.y6 ?_
  obtain rfl:=Option.some.inj h
  refine WX.y7 Try.results37 (.agg rfl y5 rfl (y8 .here) .nil) (fun w hw=>?_)
  exact ⟨yD rfl,hw.sub (.cons .h2 .nil)⟩
 ·replace h:=yi h zmN
  refine WC.skip ?_
  refine WX.a ?_
  refine WC.b ?_
  obtain ⟨z8N,zxT,h⟩:=ze h
  obtain ⟨z8O,zxU,h⟩:=ze h
  obtain ⟨zbY,zxV,h⟩:=ze h
  refine WC.yY (fun i=>[9,10,11,12].contains i) [stb z5d 30 [(.int .i64 z18.1.fN),(.int .i64 z18.1.fD)]] rfl ?_
  refine WD.a (i:=0) (d:=18) (by kernel_rfl) rfl (z8 (by kernel_rfl)) (za (by kernel_rfl)) rfl rfl rfl (fun _=>q_m rfl) ?_
  refine WD.y2B (i:=1) (d:=19) (by kernel_rfl) rfl (z8 (by kernel_rfl)) (za (by kernel_rfl)) rfl rfl rfl (Sin.of (.cons .here .nil)) (y4 (cs:=[(.int .i64 z18.1.fN),(.int .i64 z18.1.fD)]) y5 rfl rfl (y8 .here)) ?_
  refine WD.a (i:=2) (d:=20) (by kernel_rfl) rfl (z8 (by kernel_rfl)) (za (by kernel_rfl)) rfl rfl rfl (fun _=>q_m rfl) ?_
  refine WD.a (i:=3) (d:=21) (by kernel_rfl) rfl (z8 (by kernel_rfl)) (za (by kernel_rfl)) rfl rfl rfl (fun _=>y3 y5S rfl rfl) ?_
  refine WD.y2B (i:=4) (d:=22) (by kernel_rfl) rfl (z8 (by kernel_rfl)) (za (by kernel_rfl)) rfl rfl rfl (Sin.of (.cons .here .nil)) (y4 (cs:=[(.int .i64 z69.fR.fN),(.int .i64 z69.fR.fD)]) y5 rfl rfl (y6E (off:=0) (s:=2) hz.pv zmM rfl)) ?_
  refine WD.a (i:=5) (d:=23) (by kernel_rfl) rfl (z8 (by kernel_rfl)) (za (by kernel_rfl)) rfl rfl rfl (fun _=>q_m rfl) ?_
  refine WD.e (i:=6) (d:=24) (by kernel_rfl) rfl (z8 (by kernel_rfl)) (za (by kernel_rfl)) rfl rfl rfl (y4 (cs:=[(.int .i64 zX.fN),(.int .i64 zX.fD)]) y5 rfl rfl (y8 .h3)) ?_
  refine WD.a (i:=7) (d:=25) (by kernel_rfl) rfl (z8 (by kernel_rfl)) (za (by kernel_rfl)) rfl rfl rfl (fun _=>y3 y5T rfl rfl) ?_
  refine WD.e (i:=8) (d:=26) (by kernel_rfl) rfl (z8 (by kernel_rfl)) (za (by kernel_rfl)) rfl rfl rfl (y4 (cs:=[(.int .i64 z69.fLatency.fN),(.int .i64 z69.fLatency.fD)]) y5 rfl rfl (y6E (off:=2) (s:=2) hz.pv zmM rfl)) ?_
  refine WD.call0 (i:=9) (dd:=27) rfl (by kernel_rfl) rfl rfl rfl (.inl ⟨rfl,(Sin.of (.cons .h1 .nil))⟩) (zj (l:=[.tmp 23,.func 24,.tmp 24,.tmp 26]) Try.call33 (.cons rfl (.cons rfl (.cons rfl (.cons rfl .nil))))) ((.cons .h1 .nil) : Sel [stb z5d 30 [(.int .i64 z18.1.fN),(.int .i64 z18.1.fD)],stb z2A 98 [(.int .i64 z18.2.fE)],stb z42 30 [(.int .i64 0),(.int .i64 0)],stb z41 30 [(.int .i64 zX.fN),(.int .i64 zX.fD)]] [stb z2A 98 [(.int .i64 z18.2.fE)]] [stb z5d 30 [(.int .i64 z18.1.fN),(.int .i64 z18.1.fD)],stb z42 30 [(.int .i64 0),(.int .i64 0)],stb z41 30 [(.int .i64 zX.fN),(.int .i64 zX.fD)]]) (fun w hw=>by have pz:=(hz.call hw ((.cons .h1 .nil) : Sel [stb z5d 30 [(.int .i64 z18.1.fN),(.int .i64 z18.1.fD)],stb z2A 98 [(.int .i64 z18.2.fE)],stb z42 30 [(.int .i64 0),(.int .i64 0)],stb z41 30 [(.int .i64 zX.fN),(.int .i64 zX.fD)]] [stb z2A 98 [(.int .i64 z18.2.fE)]] [stb z5d 30 [(.int .i64 z18.1.fN),(.int .i64 z18.1.fD)],stb z42 30 [(.int .i64 0),(.int .i64 0)],stb z41 30 [(.int .i64 zX.fN),(.int .i64 zX.fD)]])); exact Calls.mono (y1F (Z:=_) (z4r:=z2A) (z7d:=24) (z7N:=[]) (z5o:=z18.2) (z85:=(fun (y0 : z7) (y1 : z7)=>y1N y0 y1)) (z2U:=zX) (z2V:=z69.fLatency) (r:=z8N) w pz Try.call24 (fun w' hz' y0 y1  r  hr=>y5n (Z:=_)  (z49:=y0) (z4a:=y1) (r:=r) w' hz'  hr) zxT (hw.owns ((.cons .h1 .nil) : Sel [stb z5d 30 [(.int .i64 z18.1.fN),(.int .i64 z18.1.fD)],stb z2A 98 [(.int .i64 z18.2.fE)],stb z42 30 [(.int .i64 0),(.int .i64 0)],stb z41 30 [(.int .i64 zX.fN),(.int .i64 zX.fD)]] [stb z2A 98 [(.int .i64 z18.2.fE)]] [stb z5d 30 [(.int .i64 z18.1.fN),(.int .i64 z18.1.fD)],stb z42 30 [(.int .i64 0),(.int .i64 0)],stb z41 30 [(.int .i64 zX.fN),(.int .i64 zX.fD)]]))) (fun _ _ h'=>⟨h'.1,trivial,h'.2⟩)) ?_
  intro _
  refine WD.call0 (i:=10) (dd:=28) rfl (by kernel_rfl) rfl rfl rfl (.inl ⟨rfl,(Sin.of (.cons .h1 .nil))⟩) (zj (l:=[.tmp 20,.func 25,.tmp 22,.tmp 27]) Try.call33 (.cons rfl (.cons rfl (.cons rfl (.cons rfl .nil))))) ((.cons .here .nil) : Sel [stb z2A 98 [(.int .i64 z8N.2.fE)],stb z5d 30 [(.int .i64 z18.1.fN),(.int .i64 z18.1.fD)],stb z42 30 [(.int .i64 0),(.int .i64 0)],stb z41 30 [(.int .i64 zX.fN),(.int .i64 zX.fD)]] [stb z2A 98 [(.int .i64 z8N.2.fE)]] [stb z5d 30 [(.int .i64 z18.1.fN),(.int .i64 z18.1.fD)],stb z42 30 [(.int .i64 0),(.int .i64 0)],stb z41 30 [(.int .i64 zX.fN),(.int .i64 zX.fD)]]) (fun w hw=>by have pz:=(hz.call hw ((.cons .here .nil) : Sel [stb z2A 98 [(.int .i64 z8N.2.fE)],stb z5d 30 [(.int .i64 z18.1.fN),(.int .i64 z18.1.fD)],stb z42 30 [(.int .i64 0),(.int .i64 0)],stb z41 30 [(.int .i64 zX.fN),(.int .i64 zX.fD)]] [stb z2A 98 [(.int .i64 z8N.2.fE)]] [stb z5d 30 [(.int .i64 z18.1.fN),(.int .i64 z18.1.fD)],stb z42 30 [(.int .i64 0),(.int .i64 0)],stb z41 30 [(.int .i64 zX.fN),(.int .i64 zX.fD)]])); exact Calls.mono (y1F (Z:=_) (z4r:=z2A) (z7d:=25) (z7N:=[]) (z5o:=z8N.2) (z85:=(fun (y0 : z7) (y1 : z7)=>y3F y0 y1)) (z2U:=z69.fR) (z2V:=z8N.1) (r:=z8O) w pz Try.call25 (fun w' hz' y0 y1  r  hr=>y8x (Z:=_)  (z4S:=y0) (z4T:=y1) (r:=r) w' hz'  hr) zxU (hw.owns ((.cons .here .nil) : Sel [stb z2A 98 [(.int .i64 z8N.2.fE)],stb z5d 30 [(.int .i64 z18.1.fN),(.int .i64 z18.1.fD)],stb z42 30 [(.int .i64 0),(.int .i64 0)],stb z41 30 [(.int .i64 zX.fN),(.int .i64 zX.fD)]] [stb z2A 98 [(.int .i64 z8N.2.fE)]] [stb z5d 30 [(.int .i64 z18.1.fN),(.int .i64 z18.1.fD)],stb z42 30 [(.int .i64 0),(.int .i64 0)],stb z41 30 [(.int .i64 zX.fN),(.int .i64 zX.fD)]]))) (fun _ _ h'=>⟨h'.1,trivial,h'.2⟩)) ?_
  intro _
  refine WD.call0 (i:=11) (dd:=29) rfl (by kernel_rfl) rfl rfl rfl (.inl ⟨rfl,(Sin.of (.cons .h1 .nil))⟩) (zj (l:=[.tmp 18,.func 24,.tmp 19,.tmp 28]) Try.call33 (.cons rfl (.cons rfl (.cons rfl (.cons rfl .nil))))) ((.cons .here .nil) : Sel [stb z2A 98 [(.int .i64 z8O.2.fE)],stb z5d 30 [(.int .i64 z18.1.fN),(.int .i64 z18.1.fD)],stb z42 30 [(.int .i64 0),(.int .i64 0)],stb z41 30 [(.int .i64 zX.fN),(.int .i64 zX.fD)]] [stb z2A 98 [(.int .i64 z8O.2.fE)]] [stb z5d 30 [(.int .i64 z18.1.fN),(.int .i64 z18.1.fD)],stb z42 30 [(.int .i64 0),(.int .i64 0)],stb z41 30 [(.int .i64 zX.fN),(.int .i64 zX.fD)]]) (fun w hw=>by have pz:=(hz.call hw ((.cons .here .nil) : Sel [stb z2A 98 [(.int .i64 z8O.2.fE)],stb z5d 30 [(.int .i64 z18.1.fN),(.int .i64 z18.1.fD)],stb z42 30 [(.int .i64 0),(.int .i64 0)],stb z41 30 [(.int .i64 zX.fN),(.int .i64 zX.fD)]] [stb z2A 98 [(.int .i64 z8O.2.fE)]] [stb z5d 30 [(.int .i64 z18.1.fN),(.int .i64 z18.1.fD)],stb z42 30 [(.int .i64 0),(.int .i64 0)],stb z41 30 [(.int .i64 zX.fN),(.int .i64 zX.fD)]])); exact Calls.mono (y1F (Z:=_) (z4r:=z2A) (z7d:=24) (z7N:=[]) (z5o:=z8O.2) (z85:=(fun (y0 : z7) (y1 : z7)=>y1N y0 y1)) (z2U:=z18.1) (z2V:=z8O.1) (r:=zbY) w pz Try.call24 (fun w' hz' y0 y1  r  hr=>y5n (Z:=_)  (z49:=y0) (z4a:=y1) (r:=r) w' hz'  hr) zxV (hw.owns ((.cons .here .nil) : Sel [stb z2A 98 [(.int .i64 z8O.2.fE)],stb z5d 30 [(.int .i64 z18.1.fN),(.int .i64 z18.1.fD)],stb z42 30 [(.int .i64 0),(.int .i64 0)],stb z41 30 [(.int .i64 zX.fN),(.int .i64 zX.fD)]] [stb z2A 98 [(.int .i64 z8O.2.fE)]] [stb z5d 30 [(.int .i64 z18.1.fN),(.int .i64 z18.1.fD)],stb z42 30 [(.int .i64 0),(.int .i64 0)],stb z41 30 [(.int .i64 zX.fN),(.int .i64 zX.fD)]]))) (fun _ _ h'=>⟨h'.1,trivial,h'.2⟩)) ?_
  intro _
  refine WD.y6P (i:=12) rfl (by kernel_rfl) rfl rfl rfl (by kernel_rfl) (yc (vs:=[(.int .i64 zbY.1.fN),(.int .i64 zbY.1.fD)]) (ds:=[(.int .i64 zbY.1.fN),(.int .i64 zbY.1.fD)]) yo rfl rfl rfl rfl (y2 rfl (y2 rfl yk)) .h2 (Nat.le_of_ble_eq_true rfl) rfl) ?_
  refine WD.done (by kernel_rfl) ?_
  refine WX.a ?_
  refine WC.ret ?_
  obtain rfl:=Option.some.inj h
  refine WX.y7 Try.results37 (.agg rfl y5 rfl (y8 .here) .nil) (fun w hw=>?_)
  exact ⟨yD rfl,hw.sub (.cons .h1 .nil)⟩
end Go.Proofs.Ytakfmdiiehcbdaa
