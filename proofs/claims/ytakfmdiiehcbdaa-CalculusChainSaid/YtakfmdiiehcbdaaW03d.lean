/- A part of this claim's proof: models of functions, walks, plain laws. No conditions. -/
import Derived.Test.YtakfmdiiehcbdaaW03c
namespace Go.Proofs.Ytakfmdiiehcbdaa
open Go Go.RowKit Sep
set_option linter.all false
set_option maxRecDepth 30000
set_option maxHeartbeats 4000000
def m_calculus_calc_total_L2 (z5f : List (List z1)) (z28 : z2) (zau : Int → Int → Int → Option (z2 × z2j)) : Nat → Int → Int → Int → Int → Option (z2 × z2j)
 | 0,_,_,_,_=>none
 | zl6 + 1,z6K,z6g,z4q,z4r=>if decide (z6K < ((z5f.length : Nat) : Int)) then chk ((0 : Int) ≤ z6K ∧ z6K < ((z5f.length : Nat) : Int)) ((m_curve_At (nth z5f z6K) z28).bind fun z3S=>jp1 (fun (z7j : Int)=>(m_calculus_calc_do (⟨z7j⟩ : z2j) (fun (y0 : z2) (y1 : z2)=>m_rat_Add y0 y1) (⟨z4q,z4r⟩ : z2) z3S.1).bind fun z8s=>m_calculus_calc_total_L2 z5f z28 zau zl6 (i64 (z6K + 1)) z8s.2.fE z8s.1.fN z8s.1.fD) fun zhm=>if decide (z6g = 0) then zhm z3S.2 else zhm z6g) else zau z4q z4r z6g
theorem m_calculus_calc_total_L2_fuel {n : Nat} {z5f : List (List z1)} {z28 : z2} {zau : Int → Int → Int → Option (z2 × z2j)} {z6K : Int} {z6g : Int} {z4q : Int} {z4r : Int} {r : z2 × z2j} (h : m_calculus_calc_total_L2 z5f z28 zau n z6K z6g z4q z4r = some r) : ∃ m,n = m + 1:=by
 cases n with
 | zero=>cases h
 | succ m=>exact ⟨m,rfl⟩
def m_calculus_calc_total (z7k : z2j) (z5f : List (List z1)) (z28 : z2) : Option (z2 × z2j) :=
 (m_calculus_zero).bind fun z9t=>jp3 (fun (z90 : Int) (z91 : Int) (zbn : Int)=>some ((⟨z90,z91⟩ : z2),(⟨zbn⟩ : z2j))) fun zau=>m_calculus_calc_total_L2 z5f z28 zau FUEL 0 z7k.fE z9t.fN z9t.fD
set_option maxRecDepth 20000 in
theorem w_calculus_calc_total (Z : Zp)  (z3u : Nat) (zbo : Option Addr) (zbp : Nat) (z7k : z2j) (z5f : List (List z1)) (z28 : z2) (r : z2 × z2j) (w₀ : World) (hz : PZ (fps [stb z3u 98 [(.int .i64 z7k.fE)]]) w₀ Z)
  (zvD : ZS Z 1 (p39 Z) zbo zbp z5f)
  (h : m_calculus_calc_total z7k z5f z28 = some r)
  (hown : Hp (fps [stb z3u 98 [(.int .i64 z7k.fE)]]) w₀ w₀ [stb z3u 98 [(.int .i64 z7k.fE)]]) :
  Calls Try.prog 35 #[(.pointer (some ⟨z3u,0,none⟩)),(.slice zbo z5f.length zbp),(.agg #[(.int .i64 z28.fN),(.int .i64 z28.fD)])] w₀ fun e w'=>e = .returned (.agg #[(.int .i64 r.1.fN),(.int .i64 r.1.fD)]) ∧ Hp (fps [stb z3u 98 [(.int .i64 z7k.fE)]]) w₀ w' [stb z3u 98 [(.int .i64 r.2.fE)]]:=by
 unfold m_calculus_calc_total at h
 refine Calls.ofWC (vs:=[(.pointer (some ⟨z3u,0,none⟩)),(.slice zbo z5f.length zbp),(.agg #[(.int .i64 z28.fN),(.int .i64 z28.fD)])]) (pre:=[stb z3u 98 [(.int .i64 z7k.fE)]]) (env:=[(0,(.pointer (some ⟨z3u,0,none⟩))),(1,(.slice zbo z5f.length zbp)),(2,(.agg #[(.int .i64 z28.fN),(.int .i64 z28.fD)]))]) Try.func35 rfl Try.ntmps35 rfl (hown) rfl ?_
 refine WC.b ?_
 refine WC.a ?_
 refine WL.new (dd:=5) rfl rfl rfl (e_box (cs:=[(.int .i64 z28.fN),(.int .i64 z28.fD)]) rfl rfl) ?_
 intro z6h _
 refine WL.new (dd:=6) rfl rfl rfl (e_alloc (cs:=[(.int .i64 0),(.int .i64 0)]) zeroT_30 rfl) ?_
 intro z5y _
 refine WL.nil ?_
 refine WX.a ?_
 refine WC.b ?_
 obtain ⟨z9t,zvE,h⟩:=zd h
 refine WC.a ?_
 refine WL.b (dd:=12) rfl rfl rfl (zk (l:=[]) Try.call51 .nil) (.nil : Sel [stb z5y 30 [(.int .i64 0),(.int .i64 0)],stb z6h 30 [(.int .i64 z28.fN),(.int .i64 z28.fD)],stb z3u 98 [(.int .i64 z7k.fE)]] [] [stb z5y 30 [(.int .i64 0),(.int .i64 0)],stb z6h 30 [(.int .i64 z28.fN),(.int .i64 z28.fD)],stb z3u 98 [(.int .i64 z7k.fE)]]) (fun w hw=>by have pz:=(hz.call hw (.nil : Sel [stb z5y 30 [(.int .i64 0),(.int .i64 0)],stb z6h 30 [(.int .i64 z28.fN),(.int .i64 z28.fD)],stb z3u 98 [(.int .i64 z7k.fE)]] [] [stb z5y 30 [(.int .i64 0),(.int .i64 0)],stb z6h 30 [(.int .i64 z28.fN),(.int .i64 z28.fD)],stb z3u 98 [(.int .i64 z7k.fE)]])); exact w_calculus_zero (Z:=_)   (r:=z9t) w pz  zvE) ?_
 refine WL.new (dd:=7) rfl rfl rfl (e_alloc (cs:=[(.int .i64 0),(.int .i64 0)]) zeroT_30 rfl) ?_
 intro z7a _
 refine WL.eff0 rfl rfl (e_store (vs:=[(.int .i64 z9t.fN),(.int .i64 z9t.fD)]) (ds:=[(.int .i64 z9t.fN),(.int .i64 z9t.fD)]) sizT_30 rfl rfl rfl rfl (oc_cons rfl (oc_cons rfl oc_nil)) .here (Nat.le_of_ble_eq_true rfl) rfl) ?_
 refine WL.nil ?_
 refine WX.a ?_
 obtain ⟨zau,zvF,h⟩:=jp3_elim h
 refine WC.seqMid3 (fun (z90 : Int) (z91 : Int) (zbn : Int)=>(zau z90 z91 zbn = some r)) (fun (z90 : Int) (z91 : Int) (zbn : Int)=>[(6,(.pointer (some ⟨z5y,0,none⟩))),(7,(.pointer (some ⟨z7a,0,none⟩)))]) (fun (z90 : Int) (z91 : Int) (zbn : Int)=>[stb z5y 30 [(.int .i64 0),(.int .i64 0)],stb z7a 30 [(.int .i64 z90),(.int .i64 z91)],stb z3u 98 [(.int .i64 zbn)]]) ?_ ?_
 ·skip
  refine WC.b ?_
  refine WC.a ?_
  refine WL.a (d:=13) rfl rfl rfl (q_m rfl) ?_
  refine WL.a (d:=14) rfl rfl rfl (q_len Try.underlying26 rfl) ?_
  refine WL.a (d:=15) rfl rfl rfl (q_m rfl) ?_
  refine WL.nil ?_
  refine WX.a ?_
  refine WC.block ?_
  refine WC.loop5 (fun (ze3 : Nat) (z6K : Int) (z6g : Int) (z4q : Int) (z4r : Int)=>(m_calculus_calc_total_L2 z5f z28 zau ze3 z6K z6g z4q z4r = some r)) (fun (ze3 : Nat) (z6K : Int) (z6g : Int) (z4q : Int) (z4r : Int)=>[(0,(.pointer (some ⟨z3u,0,none⟩))),(5,(.pointer (some ⟨z6h,0,none⟩))),(6,(.pointer (some ⟨z5y,0,none⟩))),(7,(.pointer (some ⟨z7a,0,none⟩))),(13,(.slice zbo z5f.length zbp)),(14,(.int .i64 ((z5f.length : Nat) : Int))),(15,(.int .i64 z6K))]) (fun (ze3 : Nat) (z6K : Int) (z6g : Int) (z4q : Int) (z4r : Int)=>[stb z3u 98 [(.int .i64 z6g)],stb z6h 30 [(.int .i64 z28.fN),(.int .i64 z28.fD)],stb z5y 30 [(.int .i64 0),(.int .i64 0)],stb z7a 30 [(.int .i64 z4q),(.int .i64 z4r)]]) (fun (ze3 : Nat) (z6K : Int) (z6g : Int) (z4q : Int) (z4r : Int)=>ze3) ⟨FUEL,0,z7k.fE,z9t.fN,z9t.fD⟩ h (.cons rfl (.cons rfl (.cons rfl (.cons rfl (.cons rfl (.cons rfl (.cons rfl .nil))))))) (.cons .h3 (.cons .h2 (.cons .h1 (.cons .here .nil)))) ?_
  rintro ze3 z6K z6g z4q z4r h
  obtain ⟨zl6,rfl⟩:=m_calculus_calc_total_L2_fuel h
  rw [m_calculus_calc_total_L2] at h
  refine WC.b ?_
  refine WC.a ?_
  refine WL.a (d:=16) rfl rfl rfl (q_lss rfl rfl) ?_
  refine WL.nil ?_
  refine WX.a ?_
  refine WC.b ?_
  refine WC.cond rfl (fun zl7=>?_) (fun zl7=>?_)
  ·replace h:=ite_t h zl7
   refine WC.skip ?_
   refine WX.a ?_
   refine WC.b ?_
   refine WC.block ?_
   refine WC.b ?_
   obtain ⟨zvG,h⟩:=chk_elim h
   refine WC.a ?_
   refine WL.znth (dd:=17) rfl rfl (Z:=Z) (Pr:=(p39 Z)) elT_26 rfl rfl zvD zvG ?_
   rintro zAH zAI zvH zAJ ⟨zvI,zvJ,rfl,zvK⟩
   refine WL.a (d:=18) rfl rfl rfl (q_load1 oneT_39 rfl (rd_z hz.pv zvH rfl)) ?_
   refine WL.a (d:=9) rfl rfl rfl (q_z rfl) ?_
   refine WL.nil ?_
   refine WX.a ?_
   refine WC.b ?_
   obtain ⟨z3S,zvL,h⟩:=zd h
   refine WC.a ?_
   refine WL.a (d:=20) rfl rfl rfl (q_m rfl) ?_
   refine WL.a (d:=21) rfl rfl rfl (q_loadA (cs:=[(.int .i64 z28.fN),(.int .i64 z28.fD)]) aggT_30 rfl rfl (rd_all .h1)) ?_
   refine WL.b (dd:=22) rfl rfl rfl (zk (l:=[.tmp 20,.tmp 21]) Try.call22 (.cons rfl (.cons rfl .nil))) (.nil : Sel [stb z3u 98 [(.int .i64 z6g)],stb z6h 30 [(.int .i64 z28.fN),(.int .i64 z28.fD)],stb z5y 30 [(.int .i64 0),(.int .i64 0)],stb z7a 30 [(.int .i64 z4q),(.int .i64 z4r)]] [] [stb z3u 98 [(.int .i64 z6g)],stb z6h 30 [(.int .i64 z28.fN),(.int .i64 z28.fD)],stb z5y 30 [(.int .i64 0),(.int .i64 0)],stb z7a 30 [(.int .i64 z4q),(.int .i64 z4r)]]) (fun w hw=>by have pz:=(hz.call hw (.nil : Sel [stb z3u 98 [(.int .i64 z6g)],stb z6h 30 [(.int .i64 z28.fN),(.int .i64 z28.fD)],stb z5y 30 [(.int .i64 0),(.int .i64 0)],stb z7a 30 [(.int .i64 z4q),(.int .i64 z4r)]] [] [stb z3u 98 [(.int .i64 z6g)],stb z6h 30 [(.int .i64 z28.fN),(.int .i64 z28.fD)],stb z5y 30 [(.int .i64 0),(.int .i64 0)],stb z7a 30 [(.int .i64 z4q),(.int .i64 z4r)]])); exact w_curve_At (Z:=_) (zas:=zvI) (zat:=zvJ) (z1n:=(nth z5f z6K)) (z23:=z28) (r:=z3S) w pz zvK zvL) ?_
   refine WL.a (d:=19) rfl rfl rfl (q_m rfl) ?_
   refine WL.a (d:=23) rfl rfl rfl (q_extract rfl rfl) ?_
   refine WL.a (d:=24) rfl rfl rfl (q_extract rfl rfl) ?_
   refine WL.new (dd:=10) rfl rfl rfl (e_alloc (cs:=[(.int .i64 0),(.int .i64 0)]) zeroT_30 rfl) ?_
   intro zbq _
   refine WL.eff0 rfl rfl (e_store (vs:=[(.int .i64 z3S.1.fN),(.int .i64 z3S.1.fD)]) (ds:=[(.int .i64 z3S.1.fN),(.int .i64 z3S.1.fD)]) sizT_30 rfl rfl rfl rfl (oc_cons rfl (oc_cons rfl oc_nil)) .here (Nat.le_of_ble_eq_true rfl) rfl) ?_
   refine WL.a (d:=11) rfl rfl rfl (q_z rfl) ?_
   refine WL.nil ?_
   refine WX.a ?_
   obtain ⟨zhm,zvM,h⟩:=jp1_elim h
   refine WC.seqMid1 (fun (z7j : Int)=>(zhm z7j = some r)) (fun (z7j : Int)=>[(0,(.pointer (some ⟨z3u,0,none⟩))),(5,(.pointer (some ⟨z6h,0,none⟩))),(6,(.pointer (some ⟨z5y,0,none⟩))),(7,(.pointer (some ⟨z7a,0,none⟩))),(10,(.pointer (some ⟨zbq,0,none⟩))),(13,(.slice zbo z5f.length zbp)),(14,(.int .i64 ((z5f.length : Nat) : Int))),(15,(.int .i64 z6K))]) (fun (z7j : Int)=>[stb z3u 98 [(.int .i64 z7j)],stb z6h 30 [(.int .i64 z28.fN),(.int .i64 z28.fD)],stb z5y 30 [(.int .i64 0),(.int .i64 0)],stb z7a 30 [(.int .i64 z4q),(.int .i64 z4r)],stb zbq 30 [(.int .i64 z3S.1.fN),(.int .i64 z3S.1.fD)]]) ?_ ?_
   ·skip
    refine WC.b ?_
    refine WC.a ?_
    refine WL.a (d:=25) rfl rfl rfl (q_m rfl) ?_
    refine WL.a (d:=26) rfl rfl rfl (q_nilCheck rfl) ?_
    refine WL.a (d:=27) rfl rfl rfl (q_fieldAddr fo_98_0 rfl rfl) ?_
    refine WL.a (d:=28) rfl rfl rfl (q_load1 oneT_31 rfl (rd_stb .h1 rfl)) ?_
    refine WL.a (d:=29) rfl rfl rfl (q_eql rfl rfl) ?_
    refine WL.nil ?_
    refine WX.a ?_
    refine WC.cond rfl (fun zl8=>?_) (fun zl8=>?_)
    ·replace h:=ite_t h zl8
     refine WC.a ?_
     refine WL.a (d:=30) rfl rfl rfl (q_m rfl) ?_
     refine WL.a (d:=31) rfl rfl rfl (q_m rfl) ?_
     refine WL.a (d:=32) rfl rfl rfl (q_nilCheck rfl) ?_
     refine WL.a (d:=33) rfl rfl rfl (q_fieldAddr fo_98_0 rfl rfl) ?_
     refine WL.eff0 rfl rfl (e_store (vs:=[(.int .i64 z3S.2)]) (ds:=[(.int .i64 z3S.2)]) sizT_31 rfl rfl rfl rfl (oc_cons rfl oc_nil) .h1 (Nat.le_of_ble_eq_true rfl) rfl) ?_
     refine WL.nil ?_
     exact WX.mid (G:=Int) z3S.2 h (.cons rfl (.cons rfl (.cons rfl (.cons rfl (.cons rfl (.cons rfl (.cons rfl (.cons rfl .nil)))))))) (.cons .here (.cons .h1 (.cons .h1 (.cons .h1 (.cons .here .nil)))))
    ·replace h:=ite_f h zl8
     refine WC.skip ?_
     exact WX.mid (G:=Int) z6g h (.cons rfl (.cons rfl (.cons rfl (.cons rfl (.cons rfl (.cons rfl (.cons rfl (.cons rfl .nil)))))))) (.cons .h1 (.cons .h1 (.cons .h1 (.cons .h1 (.cons .here .nil)))))
   ·rintro z7j h
    replace h:=(zvM z7j).symm.trans h
    obtain ⟨z8s,zvN,h⟩:=zd h
    refine WC.a ?_
    refine WL.a (d:=34) rfl rfl rfl (q_m rfl) ?_
    refine WL.a (d:=35) rfl rfl rfl (q_loadA (cs:=[(.int .i64 z4q),(.int .i64 z4r)]) aggT_30 rfl rfl (rd_all .h3)) ?_
    refine WL.a (d:=36) rfl rfl rfl (q_loadA (cs:=[(.int .i64 z3S.1.fN),(.int .i64 z3S.1.fD)]) aggT_30 rfl rfl (rd_all .h4)) ?_
    refine WL.b (dd:=37) rfl rfl rfl (zk (l:=[.tmp 34,.func 19,.tmp 35,.tmp 36]) Try.call33 (.cons rfl (.cons rfl (.cons rfl (.cons rfl .nil))))) ((.cons .here .nil) : Sel [stb z3u 98 [(.int .i64 z7j)],stb z6h 30 [(.int .i64 z28.fN),(.int .i64 z28.fD)],stb z5y 30 [(.int .i64 0),(.int .i64 0)],stb z7a 30 [(.int .i64 z4q),(.int .i64 z4r)],stb zbq 30 [(.int .i64 z3S.1.fN),(.int .i64 z3S.1.fD)]] [stb z3u 98 [(.int .i64 z7j)]] [stb z6h 30 [(.int .i64 z28.fN),(.int .i64 z28.fD)],stb z5y 30 [(.int .i64 0),(.int .i64 0)],stb z7a 30 [(.int .i64 z4q),(.int .i64 z4r)],stb zbq 30 [(.int .i64 z3S.1.fN),(.int .i64 z3S.1.fD)]]) (fun w hw=>by have pz:=(hz.call hw ((.cons .here .nil) : Sel [stb z3u 98 [(.int .i64 z7j)],stb z6h 30 [(.int .i64 z28.fN),(.int .i64 z28.fD)],stb z5y 30 [(.int .i64 0),(.int .i64 0)],stb z7a 30 [(.int .i64 z4q),(.int .i64 z4r)],stb zbq 30 [(.int .i64 z3S.1.fN),(.int .i64 z3S.1.fD)]] [stb z3u 98 [(.int .i64 z7j)]] [stb z6h 30 [(.int .i64 z28.fN),(.int .i64 z28.fD)],stb z5y 30 [(.int .i64 0),(.int .i64 0)],stb z7a 30 [(.int .i64 z4q),(.int .i64 z4r)],stb zbq 30 [(.int .i64 z3S.1.fN),(.int .i64 z3S.1.fD)]])); exact w_calculus_calc_do (Z:=_) (z4h:=z3u) (z75:=19) (z7D:=[]) (z5d:=(⟨z7j⟩ : z2j)) (z7V:=(fun (y0 : z2) (y1 : z2)=>m_rat_Add y0 y1)) (z2Y:=(⟨z4q,z4r⟩ : z2)) (z2Z:=z3S.1) (r:=z8s) w pz Try.call19 (fun w' hz' y0 y1  r  hr=>w_rat_Add (Z:=_)  (z3I:=y0) (z3J:=y1) (r:=r) w' hz'  hr) zvN (hw.owns ((.cons .here .nil) : Sel [stb z3u 98 [(.int .i64 z7j)],stb z6h 30 [(.int .i64 z28.fN),(.int .i64 z28.fD)],stb z5y 30 [(.int .i64 0),(.int .i64 0)],stb z7a 30 [(.int .i64 z4q),(.int .i64 z4r)],stb zbq 30 [(.int .i64 z3S.1.fN),(.int .i64 z3S.1.fD)]] [stb z3u 98 [(.int .i64 z7j)]] [stb z6h 30 [(.int .i64 z28.fN),(.int .i64 z28.fD)],stb z5y 30 [(.int .i64 0),(.int .i64 0)],stb z7a 30 [(.int .i64 z4q),(.int .i64 z4r)],stb zbq 30 [(.int .i64 z3S.1.fN),(.int .i64 z3S.1.fD)]]))) ?_
    refine WL.eff0 rfl rfl (e_store (vs:=[(.int .i64 z8s.1.fN),(.int .i64 z8s.1.fD)]) (ds:=[(.int .i64 z8s.1.fN),(.int .i64 z8s.1.fD)]) sizT_30 rfl rfl rfl rfl (oc_cons rfl (oc_cons rfl oc_nil)) .h3 (Nat.le_of_ble_eq_true rfl) rfl) ?_
    refine WL.nil ?_
    refine WX.blockNormal ?_
    refine WX.a ?_
    refine WC.a ?_
    refine WL.a (d:=38) rfl rfl rfl (q_add rfl rfl rfl) ?_
    refine WL.a (d:=15) rfl rfl rfl (q_m rfl) ?_
    refine WL.nil ?_
    exact WX.round (G:=Nat × Int × Int × Int × Int) ⟨zl6,(i64 (z6K + 1)),z8s.2.fE,z8s.1.fN,z8s.1.fD⟩ h (Nat.lt_succ_self _) (.cons rfl (.cons rfl (.cons rfl (.cons rfl (.cons rfl (.cons rfl (.cons rfl .nil))))))) (.cons .h1 (.cons .h1 (.cons .h1 (.cons .here .nil))))
  ·replace h:=ite_f h zl7
   refine WC.exit ?_
   refine WX.thenExit ?_
   refine WX.thenExit ?_
   refine WX.blockHit ?_
   exact WX.mid (G:=Int × Int × Int) ⟨z4q,z4r,z6g⟩ h (.cons rfl (.cons rfl .nil)) (.cons .h2 (.cons .h2 (.cons .here .nil)))
 ·rintro z90 z91 zbn h
  replace h:=(zvF z90 z91 zbn).symm.trans h
  refine WC.b ?_
  refine WC.a ?_
  refine WL.a (d:=39) rfl rfl rfl (q_loadA (cs:=[(.int .i64 z90),(.int .i64 z91)]) aggT_30 rfl rfl (rd_all .h1)) ?_
  refine WL.eff0 rfl rfl (e_store (vs:=[(.int .i64 z90),(.int .i64 z91)]) (ds:=[(.int .i64 z90),(.int .i64 z91)]) sizT_30 rfl rfl rfl rfl (oc_cons rfl (oc_cons rfl oc_nil)) .here (Nat.le_of_ble_eq_true rfl) rfl) ?_
  refine WL.nil ?_
  refine WX.a ?_
  refine WC.ret ?_
  obtain rfl:=Option.some.inj h
  refine WX.bpRet Try.results35 (.agg rfl aggT_30 rfl (rd_all .here) .nil) (fun w hw=>?_)
  exact ⟨ret1 rfl,hw.sub (.cons .h2 .nil)⟩
def m_calculus_Delay_1 (z7b : z2j) (z1o : z2) (zcA : List (List z1)) (z7l : Sapi_Server) : Option (z2 × z2j) :=
 (m_calculus_calc_total z7b zcA z1o).bind fun z8t=>(m_calculus_calc_do z8t.2 (fun (y0 : z2) (y1 : z2)=>m_rat_Div y0 y1) z8t.1 z7l.fRate).bind fun z8u=>(m_calculus_calc_do z8u.2 (fun (y0 : z2) (y1 : z2)=>m_rat_Sub y0 y1) z8u.1 z1o).bind fun z8v=>(m_calculus_calc_do z8v.2 (fun (y0 : z2) (y1 : z2)=>m_rat_Add y0 y1) z8v.1 z7l.fLatency).bind fun zbr=>some (zbr.1,zbr.2)
set_option maxRecDepth 20000 in
theorem w_calculus_Delay_1 (Z : Zp)  (z35 : Nat) (zfq : Addr) (zhn : Option Addr) (zho : Nat) (zfr : Addr) (z7b : z2j) (z1o : z2) (zcA : List (List z1)) (z7l : Sapi_Server) (r : z2 × z2j) (w₀ : World) (hz : PZ (fps [stb z35 98 [(.int .i64 z7b.fE)]]) w₀ Z)
  (zvO : ZS Z 1 (p39 Z) zhn zho zcA)
  (zvP : ZC Z zfq [(.slice zhn zcA.length zho)])
  (zpF : ZC Z zfr [(.int .i64 z7l.fRate.fN),(.int .i64 z7l.fRate.fD),(.int .i64 z7l.fLatency.fN),(.int .i64 z7l.fLatency.fD)])
  (h : m_calculus_Delay_1 z7b z1o zcA z7l = some r)
  (hown : Hp (fps [stb z35 98 [(.int .i64 z7b.fE)]]) w₀ w₀ [stb z35 98 [(.int .i64 z7b.fE)]]) :
  Calls Try.prog 32 #[(.pointer (some ⟨z35,0,none⟩)),(.agg #[(.int .i64 z1o.fN),(.int .i64 z1o.fD)]),(.pointer (some zfq)),(.pointer (some zfr))] w₀ fun e w'=>e = .returned (.agg #[(.int .i64 r.1.fN),(.int .i64 r.1.fD)]) ∧ Hp (fps [stb z35 98 [(.int .i64 z7b.fE)]]) w₀ w' [stb z35 98 [(.int .i64 r.2.fE)]]:=by
 unfold m_calculus_Delay_1 at h
 refine Calls.ofWC (vs:=[(.pointer (some ⟨z35,0,none⟩)),(.agg #[(.int .i64 z1o.fN),(.int .i64 z1o.fD)]),(.pointer (some zfq)),(.pointer (some zfr))]) (pre:=[stb z35 98 [(.int .i64 z7b.fE)]]) (env:=[(0,(.pointer (some ⟨z35,0,none⟩))),(1,(.agg #[(.int .i64 z1o.fN),(.int .i64 z1o.fD)])),(2,(.pointer (some zfq))),(3,(.pointer (some zfr)))]) Try.func32 rfl Try.ntmps32 rfl (hown) rfl ?_
 refine WC.b ?_
 refine WC.a ?_
 refine WL.new (dd:=5) rfl rfl rfl (e_box (cs:=[(.int .i64 z1o.fN),(.int .i64 z1o.fD)]) rfl rfl) ?_
 intro z4s _
 refine WL.new (dd:=6) rfl rfl rfl (e_alloc (cs:=[(.int .i64 0),(.int .i64 0)]) zeroT_30 rfl) ?_
 intro z4I _
 refine WL.nil ?_
 refine WX.a ?_
 refine WC.b ?_
 obtain ⟨z8t,zvQ,h⟩:=zd h
 obtain ⟨z8u,zvR,h⟩:=zd h
 obtain ⟨z8v,zvS,h⟩:=zd h
 obtain ⟨zbr,zvT,h⟩:=zd h
 refine WC.draw (fun i=>[6,9,11,14,15].contains i) [stb z4s 30 [(.int .i64 z1o.fN),(.int .i64 z1o.fD)]] rfl ?_
 refine WD.a (i:=0) (d:=7) (by kernel_rfl) rfl (z6 (by kernel_rfl)) (z7 (by kernel_rfl)) rfl rfl rfl (fun _=>q_m rfl) ?_
 refine WD.a (i:=1) (d:=8) (by kernel_rfl) rfl (z6 (by kernel_rfl)) (z7 (by kernel_rfl)) rfl rfl rfl (fun _=>q_m rfl) ?_
 refine WD.a (i:=2) (d:=9) (by kernel_rfl) rfl (z6 (by kernel_rfl)) (z7 (by kernel_rfl)) rfl rfl rfl (fun _=>q_m rfl) ?_
 refine WD.a (i:=3) (d:=10) (by kernel_rfl) rfl (z6 (by kernel_rfl)) (z7 (by kernel_rfl)) rfl rfl rfl (fun _=>q_m rfl) ?_
 refine WD.e (i:=4) (d:=11) (by kernel_rfl) rfl (z6 (by kernel_rfl)) (z7 (by kernel_rfl)) rfl rfl rfl (q_load1 oneT_26 rfl (rd_z hz.pv zvP rfl)) ?_
 refine WD.e (i:=5) (d:=12) (by kernel_rfl) rfl (z6 (by kernel_rfl)) (z7 (by kernel_rfl)) rfl rfl rfl (q_loadA (cs:=[(.int .i64 z1o.fN),(.int .i64 z1o.fD)]) aggT_30 rfl rfl (rd_all .h1)) ?_
 refine WD.a (i:=7) (d:=14) (by kernel_rfl) rfl (z6 (by kernel_rfl)) (z7 (by kernel_rfl)) rfl rfl rfl (fun _=>q_fieldAddr fo_43_0 rfl rfl) ?_
 refine WD.stable (i:=8) (d:=15) (by kernel_rfl) rfl (z6 (by kernel_rfl)) (z7 (by kernel_rfl)) rfl rfl rfl (Sin.of (.cons .h1 .nil)) (q_loadA (cs:=[(.int .i64 z7l.fRate.fN),(.int .i64 z7l.fRate.fD)]) aggT_30 rfl rfl (rd_zsub (off:=0) (s:=2) hz.pv zpF rfl)) ?_
 refine WD.stable (i:=10) (d:=17) (by kernel_rfl) rfl (z6 (by kernel_rfl)) (z7 (by kernel_rfl)) rfl rfl rfl (Sin.of (.cons .h1 .nil)) (q_loadA (cs:=[(.int .i64 z1o.fN),(.int .i64 z1o.fD)]) aggT_30 rfl rfl (rd_all .here)) ?_
 refine WD.a (i:=12) (d:=19) (by kernel_rfl) rfl (z6 (by kernel_rfl)) (z7 (by kernel_rfl)) rfl rfl rfl (fun _=>q_fieldAddr fo_43_1 rfl rfl) ?_
 refine WD.stable (i:=13) (d:=20) (by kernel_rfl) rfl (z6 (by kernel_rfl)) (z7 (by kernel_rfl)) rfl rfl rfl (Sin.of (.cons .h1 .nil)) (q_loadA (cs:=[(.int .i64 z7l.fLatency.fN),(.int .i64 z7l.fLatency.fD)]) aggT_30 rfl rfl (rd_zsub (off:=2) (s:=2) hz.pv zpF rfl)) ?_
 refine WD.call0 (i:=6) (dd:=13) rfl (by kernel_rfl) rfl rfl rfl (.inl ⟨rfl,(Sin.of (.cons .h2 .nil))⟩) (zk (l:=[.tmp 10,.tmp 11,.tmp 12]) Try.call35 (.cons rfl (.cons rfl (.cons rfl .nil)))) ((.cons .h2 .nil) : Sel [stb z4I 30 [(.int .i64 0),(.int .i64 0)],stb z4s 30 [(.int .i64 z1o.fN),(.int .i64 z1o.fD)],stb z35 98 [(.int .i64 z7b.fE)]] [stb z35 98 [(.int .i64 z7b.fE)]] [stb z4I 30 [(.int .i64 0),(.int .i64 0)],stb z4s 30 [(.int .i64 z1o.fN),(.int .i64 z1o.fD)]]) (fun w hw=>by have pz:=(hz.call hw ((.cons .h2 .nil) : Sel [stb z4I 30 [(.int .i64 0),(.int .i64 0)],stb z4s 30 [(.int .i64 z1o.fN),(.int .i64 z1o.fD)],stb z35 98 [(.int .i64 z7b.fE)]] [stb z35 98 [(.int .i64 z7b.fE)]] [stb z4I 30 [(.int .i64 0),(.int .i64 0)],stb z4s 30 [(.int .i64 z1o.fN),(.int .i64 z1o.fD)]])); exact Calls.mono (w_calculus_calc_total (Z:=_) (z3u:=z35) (zbo:=zhn) (zbp:=zho) (z7k:=z7b) (z5f:=zcA) (z28:=z1o) (r:=z8t) w pz zvO zvQ (hw.owns ((.cons .h2 .nil) : Sel [stb z4I 30 [(.int .i64 0),(.int .i64 0)],stb z4s 30 [(.int .i64 z1o.fN),(.int .i64 z1o.fD)],stb z35 98 [(.int .i64 z7b.fE)]] [stb z35 98 [(.int .i64 z7b.fE)]] [stb z4I 30 [(.int .i64 0),(.int .i64 0)],stb z4s 30 [(.int .i64 z1o.fN),(.int .i64 z1o.fD)]]))) (fun _ _ h'=>⟨h'.1,trivial,h'.2⟩)) ?_
 intro _
 refine WD.call0 (i:=9) (dd:=16) rfl (by kernel_rfl) rfl rfl rfl (.inl ⟨rfl,(Sin.of (.cons .h2 .nil))⟩) (zk (l:=[.tmp 9,.func 34,.tmp 13,.tmp 15]) Try.call33 (.cons rfl (.cons rfl (.cons rfl (.cons rfl .nil))))) ((.cons .here .nil) : Sel [stb z35 98 [(.int .i64 z8t.2.fE)],stb z4I 30 [(.int .i64 0),(.int .i64 0)],stb z4s 30 [(.int .i64 z1o.fN),(.int .i64 z1o.fD)]] [stb z35 98 [(.int .i64 z8t.2.fE)]] [stb z4I 30 [(.int .i64 0),(.int .i64 0)],stb z4s 30 [(.int .i64 z1o.fN),(.int .i64 z1o.fD)]]) (fun w hw=>by have pz:=(hz.call hw ((.cons .here .nil) : Sel [stb z35 98 [(.int .i64 z8t.2.fE)],stb z4I 30 [(.int .i64 0),(.int .i64 0)],stb z4s 30 [(.int .i64 z1o.fN),(.int .i64 z1o.fD)]] [stb z35 98 [(.int .i64 z8t.2.fE)]] [stb z4I 30 [(.int .i64 0),(.int .i64 0)],stb z4s 30 [(.int .i64 z1o.fN),(.int .i64 z1o.fD)]])); exact Calls.mono (w_calculus_calc_do (Z:=_) (z4h:=z35) (z75:=34) (z7D:=[]) (z5d:=z8t.2) (z7V:=(fun (y0 : z2) (y1 : z2)=>m_rat_Div y0 y1)) (z2Y:=z8t.1) (z2Z:=z7l.fRate) (r:=z8u) w pz Try.call34 (fun w' hz' y0 y1  r  hr=>w_rat_Div (Z:=_)  (z4B:=y0) (z4C:=y1) (r:=r) w' hz'  hr) zvR (hw.owns ((.cons .here .nil) : Sel [stb z35 98 [(.int .i64 z8t.2.fE)],stb z4I 30 [(.int .i64 0),(.int .i64 0)],stb z4s 30 [(.int .i64 z1o.fN),(.int .i64 z1o.fD)]] [stb z35 98 [(.int .i64 z8t.2.fE)]] [stb z4I 30 [(.int .i64 0),(.int .i64 0)],stb z4s 30 [(.int .i64 z1o.fN),(.int .i64 z1o.fD)]]))) (fun _ _ h'=>⟨h'.1,trivial,h'.2⟩)) ?_
 intro _
 refine WD.call0 (i:=11) (dd:=18) rfl (by kernel_rfl) rfl rfl rfl (.inl ⟨rfl,(Sin.of (.cons .h2 .nil))⟩) (zk (l:=[.tmp 8,.func 24,.tmp 16,.tmp 17]) Try.call33 (.cons rfl (.cons rfl (.cons rfl (.cons rfl .nil))))) ((.cons .here .nil) : Sel [stb z35 98 [(.int .i64 z8u.2.fE)],stb z4I 30 [(.int .i64 0),(.int .i64 0)],stb z4s 30 [(.int .i64 z1o.fN),(.int .i64 z1o.fD)]] [stb z35 98 [(.int .i64 z8u.2.fE)]] [stb z4I 30 [(.int .i64 0),(.int .i64 0)],stb z4s 30 [(.int .i64 z1o.fN),(.int .i64 z1o.fD)]]) (fun w hw=>by have pz:=(hz.call hw ((.cons .here .nil) : Sel [stb z35 98 [(.int .i64 z8u.2.fE)],stb z4I 30 [(.int .i64 0),(.int .i64 0)],stb z4s 30 [(.int .i64 z1o.fN),(.int .i64 z1o.fD)]] [stb z35 98 [(.int .i64 z8u.2.fE)]] [stb z4I 30 [(.int .i64 0),(.int .i64 0)],stb z4s 30 [(.int .i64 z1o.fN),(.int .i64 z1o.fD)]])); exact Calls.mono (w_calculus_calc_do (Z:=_) (z4h:=z35) (z75:=24) (z7D:=[]) (z5d:=z8u.2) (z7V:=(fun (y0 : z2) (y1 : z2)=>m_rat_Sub y0 y1)) (z2Y:=z8u.1) (z2Z:=z1o) (r:=z8v) w pz Try.call24 (fun w' hz' y0 y1  r  hr=>w_rat_Sub (Z:=_)  (z40:=y0) (z41:=y1) (r:=r) w' hz'  hr) zvS (hw.owns ((.cons .here .nil) : Sel [stb z35 98 [(.int .i64 z8u.2.fE)],stb z4I 30 [(.int .i64 0),(.int .i64 0)],stb z4s 30 [(.int .i64 z1o.fN),(.int .i64 z1o.fD)]] [stb z35 98 [(.int .i64 z8u.2.fE)]] [stb z4I 30 [(.int .i64 0),(.int .i64 0)],stb z4s 30 [(.int .i64 z1o.fN),(.int .i64 z1o.fD)]]))) (fun _ _ h'=>⟨h'.1,trivial,h'.2⟩)) ?_
 intro _
 refine WD.call0 (i:=14) (dd:=21) rfl (by kernel_rfl) rfl rfl rfl (.inl ⟨rfl,(Sin.of (.cons .h2 .nil))⟩) (zk (l:=[.tmp 7,.func 19,.tmp 18,.tmp 20]) Try.call33 (.cons rfl (.cons rfl (.cons rfl (.cons rfl .nil))))) ((.cons .here .nil) : Sel [stb z35 98 [(.int .i64 z8v.2.fE)],stb z4I 30 [(.int .i64 0),(.int .i64 0)],stb z4s 30 [(.int .i64 z1o.fN),(.int .i64 z1o.fD)]] [stb z35 98 [(.int .i64 z8v.2.fE)]] [stb z4I 30 [(.int .i64 0),(.int .i64 0)],stb z4s 30 [(.int .i64 z1o.fN),(.int .i64 z1o.fD)]]) (fun w hw=>by have pz:=(hz.call hw ((.cons .here .nil) : Sel [stb z35 98 [(.int .i64 z8v.2.fE)],stb z4I 30 [(.int .i64 0),(.int .i64 0)],stb z4s 30 [(.int .i64 z1o.fN),(.int .i64 z1o.fD)]] [stb z35 98 [(.int .i64 z8v.2.fE)]] [stb z4I 30 [(.int .i64 0),(.int .i64 0)],stb z4s 30 [(.int .i64 z1o.fN),(.int .i64 z1o.fD)]])); exact Calls.mono (w_calculus_calc_do (Z:=_) (z4h:=z35) (z75:=19) (z7D:=[]) (z5d:=z8v.2) (z7V:=(fun (y0 : z2) (y1 : z2)=>m_rat_Add y0 y1)) (z2Y:=z8v.1) (z2Z:=z7l.fLatency) (r:=zbr) w pz Try.call19 (fun w' hz' y0 y1  r  hr=>w_rat_Add (Z:=_)  (z3I:=y0) (z3J:=y1) (r:=r) w' hz'  hr) zvT (hw.owns ((.cons .here .nil) : Sel [stb z35 98 [(.int .i64 z8v.2.fE)],stb z4I 30 [(.int .i64 0),(.int .i64 0)],stb z4s 30 [(.int .i64 z1o.fN),(.int .i64 z1o.fD)]] [stb z35 98 [(.int .i64 z8v.2.fE)]] [stb z4I 30 [(.int .i64 0),(.int .i64 0)],stb z4s 30 [(.int .i64 z1o.fN),(.int .i64 z1o.fD)]]))) (fun _ _ h'=>⟨h'.1,trivial,h'.2⟩)) ?_
 intro _
 refine WD.last0 (i:=15) rfl (by kernel_rfl) rfl rfl rfl (by kernel_rfl) (e_store (vs:=[(.int .i64 zbr.1.fN),(.int .i64 zbr.1.fD)]) (ds:=[(.int .i64 zbr.1.fN),(.int .i64 zbr.1.fD)]) sizT_30 rfl rfl rfl rfl (oc_cons rfl (oc_cons rfl oc_nil)) .h1 (Nat.le_of_ble_eq_true rfl) rfl) ?_
 refine WD.done (by kernel_rfl) ?_
 refine WX.a ?_
 refine WC.ret ?_
 obtain rfl:=Option.some.inj h
 refine WX.bpRet Try.results32 (.agg rfl aggT_30 rfl (rd_all .here) .nil) (fun w hw=>?_)
 exact ⟨ret1 rfl,hw.sub (.cons .h1 .nil)⟩
def m_calculus_search_max_R4 (z6L : List (List z1)) (z5P : Sapi_Server) (z3p : z2) (z2o : List z2) (z92 : Int) : Option (Bool × (Nat × List z2 × Int)) :=
 (m_calculus_Delay_1 (⟨z92⟩ : z2j) z3p z6L z5P).bind fun z3v=>(if decide (((z2o.length : Nat) : Int) = 0) then some true else chk ((0 : Int) ≤ 0 ∧ 0 < ((z2o.length : Nat) : Int)) ((m_rat_Cmp z3v.1 (⟨((nth z2o 0).fN),((nth z2o 0).fD)⟩ : z2)).bind fun zl9=>some (decide (zl9 > 0)))).bind fun zla=>if zla then some (true,(0,([z3v.1] : List z2),z3v.2.fE)) else some (true,(0,z2o,z3v.2.fE))
def m_calculus_search_max (z1D : List (List z1)) (zo : Sapi_Server) (z6L : List (List z1)) (z5P : Sapi_Server) (z1E : List z2) : Option (z2 × Int) :=
 (m_calculus_search_check z1D zo z6L z5P z1E).bind fun ze4=>if decide (ze4 ≠ 0) then some ((⟨0,0⟩ : z2),ze4) else jp2 (fun (z9u : Int) (z6i : List z2)=>if decide (z9u ≠ 0) then some ((⟨0,0⟩ : z2),z9u) else chk ((0 : Int) ≤ 0 ∧ 0 < ((z6i.length : Nat) : Int)) (some ((⟨((nth z6i 0).fN),((nth z6i 0).fD)⟩ : z2),0))) fun zlb=>(m_calculus_search_points z1D zo z6L z5P z1E).bind fun z1i=>(m_calculus_search_points_1 (Nat × List z2 × Int) (fun (x : z2) (s : Nat × List z2 × Int)=>chk (s.1 = 0) (m_calculus_search_max_R4 z6L z5P x s.2.1 s.2.2)) (0,([] : List z2),0) z1D (⟨(⟨z1i.1,z1i.2.1⟩ : z2),(⟨z1i.2.2.1,z1i.2.2.2⟩ : z2)⟩ : Sapi_Server) z6L z5P z1E).bind fun z5Q=>zlb z5Q.2.2 z5Q.2.1
set_option maxRecDepth 20000 in
theorem w_calculus_search_max (Z : Zp)  (z1S : Option Addr) (z1T : Nat) (z1L : Addr) (zcB : Option Addr) (zcC : Nat) (z1M : Addr) (z1U : Option Addr) (z1V : Nat) (z1D : List (List z1)) (zo : Sapi_Server) (z6L : List (List z1)) (z5P : Sapi_Server) (z1E : List z2) (r : z2 × Int) (w₀ : World) (hz : PZ [] w₀ Z)
  (zlc : ZS Z 1 (p39 Z) z1S z1T z1D)
  (zhp : ZS Z 1 (p39 Z) zcB zcC z6L)
  (zhq : ZC Z z1L [(.slice zcB z6L.length zcC)])
  (zhr : ZC Z z1M [(.int .i64 z5P.fRate.fN),(.int .i64 z5P.fRate.fD),(.int .i64 z5P.fLatency.fN),(.int .i64 z5P.fLatency.fD)])
  (zld : ZS Z 2 (fun r x=>r = e30 x) z1U z1V z1E)
  (h : m_calculus_search_max z1D zo z6L z5P z1E = some r) :
  Calls Try.prog 36 #[(.agg #[(.slice z1S z1D.length z1T),(.int .i64 zo.fRate.fN),(.int .i64 zo.fRate.fD),(.int .i64 zo.fLatency.fN),(.int .i64 zo.fLatency.fD),(.func (.func 32) #[] #[(.pointer (some z1L)),(.pointer (some z1M))]),(.slice z1U z1E.length z1V)])] w₀ fun e w'=>∃ Zn : Zp,e = .returned (.tuple #[(.agg #[(.int .i64 r.1.fN),(.int .i64 r.1.fD)]),(.int .i64 r.2)]) ∧ True ∧ Hp [] w₀ w' [fz Zn]:=by
 unfold m_calculus_search_max at h
 refine Calls.ofWCM (vs:=[(.agg #[(.slice z1S z1D.length z1T),(.int .i64 zo.fRate.fN),(.int .i64 zo.fRate.fD),(.int .i64 zo.fLatency.fN),(.int .i64 zo.fLatency.fD),(.func (.func 32) #[] #[(.pointer (some z1L)),(.pointer (some z1M))]),(.slice z1U z1E.length z1V)])]) (pre:=[]) (env:=[(0,(.agg #[(.slice z1S z1D.length z1T),(.int .i64 zo.fRate.fN),(.int .i64 zo.fRate.fD),(.int .i64 zo.fLatency.fN),(.int .i64 zo.fLatency.fD),(.func (.func 32) #[] #[(.pointer (some z1L)),(.pointer (some z1M))]),(.slice z1U z1E.length z1V)]))]) Try.func36 rfl Try.ntmps36 rfl (Hp.nil w₀ _) rfl ?_
 refine WC.pool ?_
 refine WC.b ?_
 refine WC.a ?_
 refine WL.new (dd:=1) rfl rfl rfl (e_box (cs:=[(.slice z1S z1D.length z1T),(.int .i64 zo.fRate.fN),(.int .i64 zo.fRate.fD),(.int .i64 zo.fLatency.fN),(.int .i64 zo.fLatency.fD),(.func (.func 32) #[] #[(.pointer (some z1L)),(.pointer (some z1M))]),(.slice z1U z1E.length z1V)]) rfl rfl) ?_
 intro z36 _
 refine WL.new (dd:=2) rfl rfl rfl (e_alloc (cs:=[(.int .i64 0),(.int .i64 0)]) zeroT_30 rfl) ?_
 intro z38 _
 refine WL.a (d:=3) rfl rfl rfl (q_z rfl) ?_
 refine WL.nil ?_
 refine WX.a ?_
 refine WC.b ?_
 refine WC.b ?_
 obtain ⟨ze4,zvU,h⟩:=zd h
 refine WC.a ?_
 refine WL.a (d:=9) rfl rfl rfl (q_loadA (cs:=[(.slice z1S z1D.length z1T),(.int .i64 zo.fRate.fN),(.int .i64 zo.fRate.fD),(.int .i64 zo.fLatency.fN),(.int .i64 zo.fLatency.fD),(.func (.func 32) #[] #[(.pointer (some z1L)),(.pointer (some z1M))]),(.slice z1U z1E.length z1V)]) aggT_79 rfl rfl (rd_all .h1)) ?_
 refine WL.enter1 (dd:=10) rfl rfl rfl (zk (l:=[.tmp 9]) Try.call52 (.cons rfl .nil)) (.nil : Sel [stb z38 30 [(.int .i64 0),(.int .i64 0)],stb z36 79 [(.slice z1S z1D.length z1T),(.int .i64 zo.fRate.fN),(.int .i64 zo.fRate.fD),(.int .i64 zo.fLatency.fN),(.int .i64 zo.fLatency.fD),(.func (.func 32) #[] #[(.pointer (some z1L)),(.pointer (some z1M))]),(.slice z1U z1E.length z1V)],fz []] [] [stb z38 30 [(.int .i64 0),(.int .i64 0)],stb z36 79 [(.slice z1S z1D.length z1T),(.int .i64 zo.fRate.fN),(.int .i64 zo.fRate.fD),(.int .i64 zo.fLatency.fN),(.int .i64 zo.fLatency.fD),(.func (.func 32) #[] #[(.pointer (some z1L)),(.pointer (some z1M))]),(.slice z1U z1E.length z1V)],fz []]) (fun w hw=>by have pz:=(hz.call2 hw (.nil : Sel [stb z38 30 [(.int .i64 0),(.int .i64 0)],stb z36 79 [(.slice z1S z1D.length z1T),(.int .i64 zo.fRate.fN),(.int .i64 zo.fRate.fD),(.int .i64 zo.fLatency.fN),(.int .i64 zo.fLatency.fD),(.func (.func 32) #[] #[(.pointer (some z1L)),(.pointer (some z1M))]),(.slice z1U z1E.length z1V)],fz []] [] [stb z38 30 [(.int .i64 0),(.int .i64 0)],stb z36 79 [(.slice z1S z1D.length z1T),(.int .i64 zo.fRate.fN),(.int .i64 zo.fRate.fD),(.int .i64 zo.fLatency.fN),(.int .i64 zo.fLatency.fD),(.func (.func 32) #[] #[(.pointer (some z1L)),(.pointer (some z1M))]),(.slice z1U z1E.length z1V)],fz []]) .h2); exact w_calculus_search_check (Z:=_) (z2w:=z1S) (z2x:=z1T) (z2H:=z1L) (zkj:=zcB) (zkk:=zcC) (z2I:=z1M) (z2J:=z1U) (z2K:=z1V) (z1R:=z1D) (zm:=zo) (zf9:=z6L) (zck:=z5P) (z2v:=z1E) (r:=ze4) w pz ((zlc.mono (Zle.left _ _)).weak (fun _ _ h=>p39_mono (Zle.left _ _) h)) ((zhp.mono (Zle.left _ _)).weak (fun _ _ h=>p39_mono (Zle.left _ _) h)) (zhq.mono (Zle.left _ _)) (zhr.mono (Zle.left _ _)) (zld.mono (Zle.left _ _)) zvU) ?_
 rintro z5R _
 refine WL.merge .here .h2 ?_
 refine WL.a (d:=4) rfl rfl rfl (q_z rfl) ?_
 refine WL.nil ?_
 refine WX.a ?_
 refine WC.b ?_
 refine WC.a ?_
 refine WL.a (d:=11) rfl rfl rfl (q_m rfl) ?_
 refine WL.a (d:=12) rfl rfl rfl (q_neq rfl rfl) ?_
 refine WL.nil ?_
 refine WX.a ?_
 refine WC.cond rfl (fun zle=>?_) (fun zle=>?_)
 ·replace h:=ite_t h zle
  refine WC.b ?_
  refine WC.a ?_
  refine WL.a (d:=13) rfl rfl rfl (q_build (v:=(.agg #[(.int .i64 0),(.int .i64 0)])) (Eos.parts (l:=[]) .nil []) (fun _=>by kernel_rfl)) ?_
  refine WL.a (d:=14) rfl rfl rfl (q_m rfl) ?_
  refine WL.eff0 rfl rfl (e_store (vs:=[(.int .i64 0),(.int .i64 0)]) (ds:=[(.int .i64 0),(.int .i64 0)]) sizT_30 rfl rfl rfl rfl (oc_cons rfl (oc_cons rfl oc_nil)) .h1 (Nat.le_of_ble_eq_true rfl) rfl) ?_
  refine WL.a (d:=3) rfl rfl rfl (q_z rfl) ?_
  refine WL.nil ?_
  refine WX.a ?_
  refine WC.ret ?_
  refine WX.thenRet ?_
  obtain rfl:=Option.some.inj h
  refine WX.bpRetM Try.results36 (.agg rfl aggT_30 rfl (rd_all .here) (.tmp rfl .nil)) (fun w hw=>?_)
  exact ⟨([] ++ z5R),ret2 rfl rfl,trivial,hw.sub (.cons .h1 .nil)⟩
 ·replace h:=ite_f h zle
  refine WC.skip ?_
  refine WX.a ?_
  refine WC.b ?_
  refine WC.a ?_
  refine WL.new (dd:=5) rfl rfl rfl (e_alloc (cs:=[(.int .i64 0)]) zeroT_98 rfl) ?_
  intro z3a _
  refine WL.nil ?_
  refine WX.a ?_
  refine WC.b ?_
  refine WC.a ?_
  refine WL.new (dd:=6) rfl rfl rfl (e_alloc (cs:=[(.slice none 0 0)]) zeroT_77 rfl) ?_
  intro z3k _
  refine WL.nil ?_
  refine WX.a ?_
  obtain ⟨zlb,zvV,h⟩:=jp2_elim h
  refine WC.seqMidR6 (fun (zfs : Nat) (z9u : Int) (z6i : List z2) (zcD : Zp) (zft : Option Addr) (zfu : Nat)=>(zlb z9u z6i = some r) ∧ (Zle (Z ++ ([] ++ z5R)) (Z ++ zcD))) (fun (zfs : Nat) (z9u : Int) (z6i : List z2) (zcD : Zp) (zft : Option Addr) (zfu : Nat)=>[(2,(.pointer (some ⟨z38,0,none⟩))),(5,(.pointer (some ⟨z3a,0,none⟩))),(6,(.pointer (some ⟨z3k,0,none⟩)))]) (fun (zfs : Nat) (z9u : Int) (z6i : List z2) (zcD : Zp) (zft : Option Addr) (zfu : Nat)=>[fz zcD,stb z38 30 [(.int .i64 0),(.int .i64 0)],stb z3a 98 [(.int .i64 z9u)],stb z3k 77 [(.slice zft z6i.length zfu)],row (.slice zft z6i.length zfu) 30 2 (z6i.flatMap e30),dfr zfs]) ?_ ?_
  ·skip
   refine WC.b ?_
   obtain ⟨z1i,zvW,h⟩:=zd h
   refine WC.a ?_
   refine WL.a (d:=15) rfl rfl rfl (q_loadA (cs:=[(.slice z1S z1D.length z1T),(.int .i64 zo.fRate.fN),(.int .i64 zo.fRate.fD),(.int .i64 zo.fLatency.fN),(.int .i64 zo.fLatency.fD),(.func (.func 32) #[] #[(.pointer (some z1L)),(.pointer (some z1M))]),(.slice z1U z1E.length z1V)]) aggT_79 rfl rfl (rd_all .h4)) ?_
   refine WL.enter1 (dd:=16) rfl rfl rfl (zk (l:=[.tmp 15]) Try.call53 (.cons rfl .nil)) (.nil : Sel [stb z3k 77 [(.slice none 0 0)],stb z3a 98 [(.int .i64 0)],fz ([] ++ z5R),stb z38 30 [(.int .i64 0),(.int .i64 0)],stb z36 79 [(.slice z1S z1D.length z1T),(.int .i64 zo.fRate.fN),(.int .i64 zo.fRate.fD),(.int .i64 zo.fLatency.fN),(.int .i64 zo.fLatency.fD),(.func (.func 32) #[] #[(.pointer (some z1L)),(.pointer (some z1M))]),(.slice z1U z1E.length z1V)]] [] [stb z3k 77 [(.slice none 0 0)],stb z3a 98 [(.int .i64 0)],fz ([] ++ z5R),stb z38 30 [(.int .i64 0),(.int .i64 0)],stb z36 79 [(.slice z1S z1D.length z1T),(.int .i64 zo.fRate.fN),(.int .i64 zo.fRate.fD),(.int .i64 zo.fLatency.fN),(.int .i64 zo.fLatency.fD),(.func (.func 32) #[] #[(.pointer (some z1L)),(.pointer (some z1M))]),(.slice z1U z1E.length z1V)]]) (fun w hw=>by have pz:=(hz.call2 hw (.nil : Sel [stb z3k 77 [(.slice none 0 0)],stb z3a 98 [(.int .i64 0)],fz ([] ++ z5R),stb z38 30 [(.int .i64 0),(.int .i64 0)],stb z36 79 [(.slice z1S z1D.length z1T),(.int .i64 zo.fRate.fN),(.int .i64 zo.fRate.fD),(.int .i64 zo.fLatency.fN),(.int .i64 zo.fLatency.fD),(.func (.func 32) #[] #[(.pointer (some z1L)),(.pointer (some z1M))]),(.slice z1U z1E.length z1V)]] [] [stb z3k 77 [(.slice none 0 0)],stb z3a 98 [(.int .i64 0)],fz ([] ++ z5R),stb z38 30 [(.int .i64 0),(.int .i64 0)],stb z36 79 [(.slice z1S z1D.length z1T),(.int .i64 zo.fRate.fN),(.int .i64 zo.fRate.fD),(.int .i64 zo.fLatency.fN),(.int .i64 zo.fLatency.fD),(.func (.func 32) #[] #[(.pointer (some z1L)),(.pointer (some z1M))]),(.slice z1U z1E.length z1V)]]) .h2); exact w_calculus_search_points (Z:=_) (zcm:=z1S) (zcn:=z1T) (zco:=z1L) (zks:=zcB) (zkt:=zcC) (zcp:=z1M) (zcq:=z1U) (zcr:=z1V) (zaf:=z1D) (z4T:=zo) (zfd:=z6L) (zcl:=z5P) (zag:=z1E) (r:=z1i) w pz ((zlc.mono ((Zle.left _ _).trans ((Zle.left _ _).trans (Zle.assoc _ _ _)))).weak (fun _ _ h=>p39_mono ((Zle.left _ _).trans ((Zle.left _ _).trans (Zle.assoc _ _ _))) h)) ((zhp.mono ((Zle.left _ _).trans ((Zle.left _ _).trans (Zle.assoc _ _ _)))).weak (fun _ _ h=>p39_mono ((Zle.left _ _).trans ((Zle.left _ _).trans (Zle.assoc _ _ _))) h)) (zhq.mono ((Zle.left _ _).trans ((Zle.left _ _).trans (Zle.assoc _ _ _)))) (zhr.mono ((Zle.left _ _).trans ((Zle.left _ _).trans (Zle.assoc _ _ _)))) (zld.mono ((Zle.left _ _).trans ((Zle.left _ _).trans (Zle.assoc _ _ _)))) zvW) ?_
   rintro z6j _
   refine WL.nil ?_
   refine WX.a ?_
   refine WC.block ?_
   refine WC.pool ?_
   refine WC.drop (.cons .here (.cons .h1 (.cons .h1 (.cons .h2 (.cons .h2 (.cons .here (.cons .here .nil))))))) ?_
   refine WC.nilRow 30 2 ?_
   refine WC.rangeFunc (f:=69) (caps:=[(.pointer (some ⟨z6j,0,none⟩))]) rfl Try.call69 ?_
   intro zAK zAL z47 z7G z4t zhs zvX zvY w hw
   have hw1:=hw.selAll ((.cons .h3 (.cons .h3 (.cons .h2 (.cons .h2 (.cons .h2 (.cons .h2 (.cons .here .nil))))))) : Sel _ [fz [],stb z3k 77 [(.slice none (([] : List z2).length) 0)],row (.slice none (([] : List z2).length) 0) 30 2 (([] : List z2).flatMap e30),stb z3a 98 [(.int .i64 0)],stb z38 30 [(.int .i64 0),(.int .i64 0)],stb z36 79 [(.slice z1S z1D.length z1T),(.int .i64 zo.fRate.fN),(.int .i64 zo.fRate.fD),(.int .i64 zo.fLatency.fN),(.int .i64 zo.fLatency.fD),(.func (.func 32) #[] #[(.pointer (some z1L)),(.pointer (some z1M))]),(.slice z1U z1E.length z1V)],blk z47 (z4t .ready none)] _)
   have pz:=(hz.call2 hw1 ((.cons .here .nil) : Sel [allA [fz [],stb z3k 77 [(.slice none (([] : List z2).length) 0)],row (.slice none (([] : List z2).length) 0) 30 2 (([] : List z2).flatMap e30),stb z3a 98 [(.int .i64 0)],stb z38 30 [(.int .i64 0),(.int .i64 0)],stb z36 79 [(.slice z1S z1D.length z1T),(.int .i64 zo.fRate.fN),(.int .i64 zo.fRate.fD),(.int .i64 zo.fLatency.fN),(.int .i64 zo.fLatency.fD),(.func (.func 32) #[] #[(.pointer (some z1L)),(.pointer (some z1M))]),(.slice z1U z1E.length z1V)],blk z47 (z4t .ready none)],dfr z7G,stb z6j 79 [(.slice z1S z1D.length z1T),(.int .i64 z1i.1),(.int .i64 z1i.2.1),(.int .i64 z1i.2.2.1),(.int .i64 z1i.2.2.2),(.func (.func 32) #[] #[(.pointer (some z1L)),(.pointer (some z1M))]),(.slice z1U z1E.length z1V)],fz ([] ++ z5R)] [allA [fz [],stb z3k 77 [(.slice none (([] : List z2).length) 0)],row (.slice none (([] : List z2).length) 0) 30 2 (([] : List z2).flatMap e30),stb z3a 98 [(.int .i64 0)],stb z38 30 [(.int .i64 0),(.int .i64 0)],stb z36 79 [(.slice z1S z1D.length z1T),(.int .i64 zo.fRate.fN),(.int .i64 zo.fRate.fD),(.int .i64 zo.fLatency.fN),(.int .i64 zo.fLatency.fD),(.func (.func 32) #[] #[(.pointer (some z1L)),(.pointer (some z1M))]),(.slice z1U z1E.length z1V)],blk z47 (z4t .ready none)]] [dfr z7G,stb z6j 79 [(.slice z1S z1D.length z1T),(.int .i64 z1i.1),(.int .i64 z1i.2.1),(.int .i64 z1i.2.2.1),(.int .i64 z1i.2.2.2),(.func (.func 32) #[] #[(.pointer (some z1L)),(.pointer (some z1M))]),(.slice z1U z1E.length z1V)],fz ([] ++ z5R)]) .h2).lend hw1 ((.cons .here .nil) : Sel [allA [fz [],stb z3k 77 [(.slice none (([] : List z2).length) 0)],row (.slice none (([] : List z2).length) 0) 30 2 (([] : List z2).flatMap e30),stb z3a 98 [(.int .i64 0)],stb z38 30 [(.int .i64 0),(.int .i64 0)],stb z36 79 [(.slice z1S z1D.length z1T),(.int .i64 zo.fRate.fN),(.int .i64 zo.fRate.fD),(.int .i64 zo.fLatency.fN),(.int .i64 zo.fLatency.fD),(.func (.func 32) #[] #[(.pointer (some z1L)),(.pointer (some z1M))]),(.slice z1U z1E.length z1V)],blk z47 (z4t .ready none)],dfr z7G,stb z6j 79 [(.slice z1S z1D.length z1T),(.int .i64 z1i.1),(.int .i64 z1i.2.1),(.int .i64 z1i.2.2.1),(.int .i64 z1i.2.2.2),(.func (.func 32) #[] #[(.pointer (some z1L)),(.pointer (some z1M))]),(.slice z1U z1E.length z1V)],fz ([] ++ z5R)] [allA [fz [],stb z3k 77 [(.slice none (([] : List z2).length) 0)],row (.slice none (([] : List z2).length) 0) 30 2 (([] : List z2).flatMap e30),stb z3a 98 [(.int .i64 0)],stb z38 30 [(.int .i64 0),(.int .i64 0)],stb z36 79 [(.slice z1S z1D.length z1T),(.int .i64 zo.fRate.fN),(.int .i64 zo.fRate.fD),(.int .i64 zo.fLatency.fN),(.int .i64 zo.fLatency.fD),(.func (.func 32) #[] #[(.pointer (some z1L)),(.pointer (some z1M))]),(.slice z1U z1E.length z1V)],blk z47 (z4t .ready none)]] [dfr z7G,stb z6j 79 [(.slice z1S z1D.length z1T),(.int .i64 z1i.1),(.int .i64 z1i.2.1),(.int .i64 z1i.2.2.1),(.int .i64 z1i.2.2.2),(.func (.func 32) #[] #[(.pointer (some z1L)),(.pointer (some z1M))]),(.slice z1U z1E.length z1V)],fz ([] ++ z5R)]) (B:=[stb z6j 79 [(.slice z1S z1D.length z1T),(.int .i64 z1i.1),(.int .i64 z1i.2.1),(.int .i64 z1i.2.2.1),(.int .i64 z1i.2.2.2),(.func (.func 32) #[] #[(.pointer (some z1L)),(.pointer (some z1M))]),(.slice z1U z1E.length z1V)]]) (fun _ hx'=>((.cons .h1 .nil) : Sel _ [stb z6j 79 [(.slice z1S z1D.length z1T),(.int .i64 z1i.1),(.int .i64 z1i.2.1),(.int .i64 z1i.2.2.1),(.int .i64 z1i.2.2.2),(.func (.func 32) #[] #[(.pointer (some z1L)),(.pointer (some z1M))]),(.slice z1U z1E.length z1V)]] _).mem hx')
   obtain ⟨z5Q,zvZ,h⟩:=zd h
   refine Calls.mono (w_calculus_search_points_1 (Z:=_) (z7W:=z47) (z2y:=(Option Addr × Nat)) (z1y:=(fun (g : Option Addr × Nat) (s : Nat × List z2 × Int)=>allA ([fz [],stb z3k 77 [(.slice g.1 s.2.1.length g.2)],row (.slice g.1 s.2.1.length g.2) 30 2 (s.2.1.flatMap e30),stb z3a 98 [(.int .i64 s.2.2)],stb z38 30 [(.int .i64 0),(.int .i64 0)],stb z36 79 [(.slice z1S z1D.length z1T),(.int .i64 zo.fRate.fN),(.int .i64 zo.fRate.fD),(.int .i64 zo.fLatency.fN),(.int .i64 zo.fLatency.fD),(.func (.func 32) #[] #[(.pointer (some z1L)),(.pointer (some z1M))]),(.slice z1U z1E.length z1V)]] ++ [blk z47 (z4t (rdy (pcs [] s.1)) (pcs [] s.1))]))) (z7X:=(fun (g : Option Addr × Nat) (s : Nat × List z2 × Int)=>True)) (z7E:=(none,0)) (z8W:=⟨z6j,0,none⟩) (zbg:=z1S) (zbh:=z1T) (zkE:=z1L) (zkF:=zcB) (zkG:=zcC) (zkH:=z1M) (zfh:=z1U) (zfi:=z1V) (zA:=(Nat × List z2 × Int)) (z43:=(fun (x : z2) (s : Nat × List z2 × Int)=>chk (s.1 = 0) (m_calculus_search_max_R4 z6L z5P x s.2.1 s.2.2))) (s0_16993:=(0,([] : List z2),0)) (z4n:=z1D) (zcs:=(⟨(⟨z1i.1,z1i.2.1⟩ : z2),(⟨z1i.2.2.1,z1i.2.2.2⟩ : z2)⟩ : Sapi_Server)) (zfg:=z6L) (zct:=z5P) (z1m:=z1E) (r:=z5Q) w pz ?_ trivial ((((zlc.mono ((Zle.left _ _).trans ((Zle.left _ _).trans (Zle.assoc _ _ _)))).weak (fun _ _ h=>p39_mono ((Zle.left _ _).trans ((Zle.left _ _).trans (Zle.assoc _ _ _))) h)).mono (Zle.left _ _)).weak (fun _ _ h=>p39_mono (Zle.left _ _) h)) ((((zhp.mono ((Zle.left _ _).trans ((Zle.left _ _).trans (Zle.assoc _ _ _)))).weak (fun _ _ h=>p39_mono ((Zle.left _ _).trans ((Zle.left _ _).trans (Zle.assoc _ _ _))) h)).mono (Zle.left _ _)).weak (fun _ _ h=>p39_mono (Zle.left _ _) h)) ((zhq.mono ((Zle.left _ _).trans ((Zle.left _ _).trans (Zle.assoc _ _ _)))).mono (Zle.left _ _)) ((zhr.mono ((Zle.left _ _).trans ((Zle.left _ _).trans (Zle.assoc _ _ _)))).mono (Zle.left _ _)) ((zld.mono ((Zle.left _ _).trans ((Zle.left _ _).trans (Zle.assoc _ _ _)))).mono (Zle.left _ _)) ((hw1.lent ((.cons .here .nil) : Sel [allA [fz [],stb z3k 77 [(.slice none (([] : List z2).length) 0)],row (.slice none (([] : List z2).length) 0) 30 2 (([] : List z2).flatMap e30),stb z3a 98 [(.int .i64 0)],stb z38 30 [(.int .i64 0),(.int .i64 0)],stb z36 79 [(.slice z1S z1D.length z1T),(.int .i64 zo.fRate.fN),(.int .i64 zo.fRate.fD),(.int .i64 zo.fLatency.fN),(.int .i64 zo.fLatency.fD),(.func (.func 32) #[] #[(.pointer (some z1L)),(.pointer (some z1M))]),(.slice z1U z1E.length z1V)],blk z47 (z4t .ready none)],dfr z7G,stb z6j 79 [(.slice z1S z1D.length z1T),(.int .i64 z1i.1),(.int .i64 z1i.2.1),(.int .i64 z1i.2.2.1),(.int .i64 z1i.2.2.2),(.func (.func 32) #[] #[(.pointer (some z1L)),(.pointer (some z1M))]),(.slice z1U z1E.length z1V)],fz ([] ++ z5R)] [allA [fz [],stb z3k 77 [(.slice none (([] : List z2).length) 0)],row (.slice none (([] : List z2).length) 0) 30 2 (([] : List z2).flatMap e30),stb z3a 98 [(.int .i64 0)],stb z38 30 [(.int .i64 0),(.int .i64 0)],stb z36 79 [(.slice z1S z1D.length z1T),(.int .i64 zo.fRate.fN),(.int .i64 zo.fRate.fD),(.int .i64 zo.fLatency.fN),(.int .i64 zo.fLatency.fD),(.func (.func 32) #[] #[(.pointer (some z1L)),(.pointer (some z1M))]),(.slice z1U z1E.length z1V)],blk z47 (z4t .ready none)]] [dfr z7G,stb z6j 79 [(.slice z1S z1D.length z1T),(.int .i64 z1i.1),(.int .i64 z1i.2.1),(.int .i64 z1i.2.2.1),(.int .i64 z1i.2.2.2),(.func (.func 32) #[] #[(.pointer (some z1L)),(.pointer (some z1M))]),(.slice z1U z1E.length z1V)],fz ([] ++ z5R)]) (B:=[stb z6j 79 [(.slice z1S z1D.length z1T),(.int .i64 z1i.1),(.int .i64 z1i.2.1),(.int .i64 z1i.2.2.1),(.int .i64 z1i.2.2.2),(.func (.func 32) #[] #[(.pointer (some z1L)),(.pointer (some z1M))]),(.slice z1U z1E.length z1V)]]) (fun _ hx'=>((.cons .h1 .nil) : Sel _ [stb z6j 79 [(.slice z1S z1D.length z1T),(.int .i64 z1i.1),(.int .i64 z1i.2.1),(.int .i64 z1i.2.2.1),(.int .i64 z1i.2.2.2),(.func (.func 32) #[] #[(.pointer (some z1L)),(.pointer (some z1M))]),(.slice z1U z1E.length z1V)]] _).mem hx') (.head _) _).stb) zvZ (hw1.owns ((.cons .here .nil) : Sel [allA [fz [],stb z3k 77 [(.slice none (([] : List z2).length) 0)],row (.slice none (([] : List z2).length) 0) 30 2 (([] : List z2).flatMap e30),stb z3a 98 [(.int .i64 0)],stb z38 30 [(.int .i64 0),(.int .i64 0)],stb z36 79 [(.slice z1S z1D.length z1T),(.int .i64 zo.fRate.fN),(.int .i64 zo.fRate.fD),(.int .i64 zo.fLatency.fN),(.int .i64 zo.fLatency.fD),(.func (.func 32) #[] #[(.pointer (some z1L)),(.pointer (some z1M))]),(.slice z1U z1E.length z1V)],blk z47 (z4t .ready none)],dfr z7G,stb z6j 79 [(.slice z1S z1D.length z1T),(.int .i64 z1i.1),(.int .i64 z1i.2.1),(.int .i64 z1i.2.2.1),(.int .i64 z1i.2.2.2),(.func (.func 32) #[] #[(.pointer (some z1L)),(.pointer (some z1M))]),(.slice z1U z1E.length z1V)],fz ([] ++ z5R)] [allA [fz [],stb z3k 77 [(.slice none (([] : List z2).length) 0)],row (.slice none (([] : List z2).length) 0) 30 2 (([] : List z2).flatMap e30),stb z3a 98 [(.int .i64 0)],stb z38 30 [(.int .i64 0),(.int .i64 0)],stb z36 79 [(.slice z1S z1D.length z1T),(.int .i64 zo.fRate.fN),(.int .i64 zo.fRate.fD),(.int .i64 zo.fLatency.fN),(.int .i64 zo.fLatency.fD),(.func (.func 32) #[] #[(.pointer (some z1L)),(.pointer (some z1M))]),(.slice z1U z1E.length z1V)],blk z47 (z4t .ready none)]] [dfr z7G,stb z6j 79 [(.slice z1S z1D.length z1T),(.int .i64 z1i.1),(.int .i64 z1i.2.1),(.int .i64 z1i.2.2.1),(.int .i64 z1i.2.2.2),(.func (.func 32) #[] #[(.pointer (some z1L)),(.pointer (some z1M))]),(.slice z1U z1E.length z1V)],fz ([] ++ z5R)]))) ?_
   ·skip
    refine yieldP_of (LI:=(fun (g : Option Addr × Nat) (s : Nat × List z2 × Int)=>[fz [],stb z3k 77 [(.slice g.1 s.2.1.length g.2)],row (.slice g.1 s.2.1.length g.2) 30 2 (s.2.1.flatMap e30),stb z3a 98 [(.int .i64 s.2.2)],stb z38 30 [(.int .i64 0),(.int .i64 0)],stb z36 79 [(.slice z1S z1D.length z1T),(.int .i64 zo.fRate.fN),(.int .i64 zo.fRate.fD),(.int .i64 zo.fLatency.fN),(.int .i64 zo.fLatency.fD),(.func (.func 32) #[] #[(.pointer (some z1L)),(.pointer (some z1M))]),(.slice z1U z1E.length z1V)]])) (pc:=(fun (s : Nat × List z2 × Int)=>pcs [] s.1)) zhs zvX zvY (fun _ _=>rfl) (by decide) ?_
    rintro z3p _ ⟨z6k,z5g⟩ ⟨zw0,z2o,z92⟩ zw1 zw2 Fb wb zpG _ hz
    replace hz:=hz.left
    letI : Rnd:=inR z47
    obtain ⟨hp0,z81⟩:=chk_elim zpG
    replace hp0 : zw0 = 0:=hp0; subst hp0; clear zpG
    replace z81 : m_calculus_search_max_R4 z6L z5P z3p z2o z92 = some (zw1,zw2):=z81
    unfold m_calculus_search_max_R4 at z81
    refine WC.restr (env':=[(1,(.pointer (some ⟨z36,0,none⟩))),(12,(.bool (decide (ze4 ≠ 0)))),(5,(.pointer (some ⟨z3a,0,none⟩))),(6,(.pointer (some ⟨z3k,0,none⟩))),(17,(.agg #[(.int .i64 z3p.fN),(.int .i64 z3p.fD)]))]) (.cons rfl (.cons rfl (.cons rfl (.cons rfl (.cons rfl .nil))))) ?_
    refine WC.eqL (L':=[fz [],stb z3k 77 [(.slice z6k z2o.length z5g)],row (.slice z6k z2o.length z5g) 30 2 (z2o.flatMap e30),stb z3a 98 [(.int .i64 z92)],stb z38 30 [(.int .i64 0),(.int .i64 0)],stb z36 79 [(.slice z1S z1D.length z1T),(.int .i64 zo.fRate.fN),(.int .i64 zo.fRate.fD),(.int .i64 zo.fLatency.fN),(.int .i64 zo.fLatency.fD),(.func (.func 32) #[] #[(.pointer (some z1L)),(.pointer (some z1M))]),(.slice z1U z1E.length z1V)],blk z47 (z4t .ready none)]) rfl ?_
    refine WC.a ?_
    refine WL.new (dd:=7) rfl rfl rfl (e_alloc (cs:=[(.int .i64 0),(.int .i64 0)]) zeroT_30 rfl) ?_
    intro zav _
    refine WL.eff0 rfl rfl (e_store (vs:=[(.int .i64 z3p.fN),(.int .i64 z3p.fD)]) (ds:=[(.int .i64 z3p.fN),(.int .i64 z3p.fD)]) sizT_30 rfl rfl rfl rfl (oc_cons rfl (oc_cons rfl oc_nil)) .here (Nat.le_of_ble_eq_true rfl) rfl) ?_
    refine WL.nil ?_
    refine WX.begin zhs .h7 ?_
    refine WC.block ?_
    refine WC.b ?_
    obtain ⟨z3v,zw3,z81⟩:=zd z81
    refine WC.a ?_
    refine WL.a (d:=18) rfl rfl rfl (q_fieldAddr fo_79_2 rfl rfl) ?_
    refine WL.a (d:=19) rfl rfl rfl (q_load1 oneT_76 rfl (rd_stb .h7 rfl)) ?_
    refine WL.a (d:=20) rfl rfl rfl (q_loadA (cs:=[(.int .i64 z3p.fN),(.int .i64 z3p.fD)]) aggT_30 rfl rfl (rd_all .h1)) ?_
    refine WL.b (dd:=21) rfl rfl rfl (run_callv (l:=[.tmp 5,.tmp 20]) Try.call32 rfl (.cons rfl (.cons rfl .nil))) ((.cons .h5 .nil) : Sel [blk z47 (z4t .busy none),stb zav 30 [(.int .i64 z3p.fN),(.int .i64 z3p.fD)],fz [],stb z3k 77 [(.slice z6k z2o.length z5g)],row (.slice z6k z2o.length z5g) 30 2 (z2o.flatMap e30),stb z3a 98 [(.int .i64 z92)],stb z38 30 [(.int .i64 0),(.int .i64 0)],stb z36 79 [(.slice z1S z1D.length z1T),(.int .i64 zo.fRate.fN),(.int .i64 zo.fRate.fD),(.int .i64 zo.fLatency.fN),(.int .i64 zo.fLatency.fD),(.func (.func 32) #[] #[(.pointer (some z1L)),(.pointer (some z1M))]),(.slice z1U z1E.length z1V)]] [stb z3a 98 [(.int .i64 z92)]] [blk z47 (z4t .busy none),stb zav 30 [(.int .i64 z3p.fN),(.int .i64 z3p.fD)],fz [],stb z3k 77 [(.slice z6k z2o.length z5g)],row (.slice z6k z2o.length z5g) 30 2 (z2o.flatMap e30),stb z38 30 [(.int .i64 0),(.int .i64 0)],stb z36 79 [(.slice z1S z1D.length z1T),(.int .i64 zo.fRate.fN),(.int .i64 zo.fRate.fD),(.int .i64 zo.fLatency.fN),(.int .i64 zo.fLatency.fD),(.func (.func 32) #[] #[(.pointer (some z1L)),(.pointer (some z1M))]),(.slice z1U z1E.length z1V)]]) (fun w hw=>by have pz:=(hz.call2 hw ((.cons .h5 .nil) : Sel [blk z47 (z4t .busy none),stb zav 30 [(.int .i64 z3p.fN),(.int .i64 z3p.fD)],fz [],stb z3k 77 [(.slice z6k z2o.length z5g)],row (.slice z6k z2o.length z5g) 30 2 (z2o.flatMap e30),stb z3a 98 [(.int .i64 z92)],stb z38 30 [(.int .i64 0),(.int .i64 0)],stb z36 79 [(.slice z1S z1D.length z1T),(.int .i64 zo.fRate.fN),(.int .i64 zo.fRate.fD),(.int .i64 zo.fLatency.fN),(.int .i64 zo.fLatency.fD),(.func (.func 32) #[] #[(.pointer (some z1L)),(.pointer (some z1M))]),(.slice z1U z1E.length z1V)]] [stb z3a 98 [(.int .i64 z92)]] [blk z47 (z4t .busy none),stb zav 30 [(.int .i64 z3p.fN),(.int .i64 z3p.fD)],fz [],stb z3k 77 [(.slice z6k z2o.length z5g)],row (.slice z6k z2o.length z5g) 30 2 (z2o.flatMap e30),stb z38 30 [(.int .i64 0),(.int .i64 0)],stb z36 79 [(.slice z1S z1D.length z1T),(.int .i64 zo.fRate.fN),(.int .i64 zo.fRate.fD),(.int .i64 zo.fLatency.fN),(.int .i64 zo.fLatency.fD),(.func (.func 32) #[] #[(.pointer (some z1L)),(.pointer (some z1M))]),(.slice z1U z1E.length z1V)]]) .h2); exact w_calculus_Delay_1 (Z:=_) (z35:=z3a) (zfq:=z1L) (zhn:=zcB) (zho:=zcC) (zfr:=z1M) (z7b:=(⟨z92⟩ : z2j)) (z1o:=z3p) (zcA:=z6L) (z7l:=z5P) (r:=z3v) w pz ((zhp.mono ((Zle.left _ _).trans ((Zle.left _ _).trans ((Zle.assoc _ _ _).trans (Zle.left _ _))))).weak (fun _ _ h=>p39_mono ((Zle.left _ _).trans ((Zle.left _ _).trans ((Zle.assoc _ _ _).trans (Zle.left _ _)))) h)) (zhq.mono ((Zle.left _ _).trans ((Zle.left _ _).trans ((Zle.assoc _ _ _).trans (Zle.left _ _))))) (zhr.mono ((Zle.left _ _).trans ((Zle.left _ _).trans ((Zle.assoc _ _ _).trans (Zle.left _ _))))) zw3 (hw.owns ((.cons .h5 .nil) : Sel [blk z47 (z4t .busy none),stb zav 30 [(.int .i64 z3p.fN),(.int .i64 z3p.fD)],fz [],stb z3k 77 [(.slice z6k z2o.length z5g)],row (.slice z6k z2o.length z5g) 30 2 (z2o.flatMap e30),stb z3a 98 [(.int .i64 z92)],stb z38 30 [(.int .i64 0),(.int .i64 0)],stb z36 79 [(.slice z1S z1D.length z1T),(.int .i64 zo.fRate.fN),(.int .i64 zo.fRate.fD),(.int .i64 zo.fLatency.fN),(.int .i64 zo.fLatency.fD),(.func (.func 32) #[] #[(.pointer (some z1L)),(.pointer (some z1M))]),(.slice z1U z1E.length z1V)]] [stb z3a 98 [(.int .i64 z92)]] [blk z47 (z4t .busy none),stb zav 30 [(.int .i64 z3p.fN),(.int .i64 z3p.fD)],fz [],stb z3k 77 [(.slice z6k z2o.length z5g)],row (.slice z6k z2o.length z5g) 30 2 (z2o.flatMap e30),stb z38 30 [(.int .i64 0),(.int .i64 0)],stb z36 79 [(.slice z1S z1D.length z1T),(.int .i64 zo.fRate.fN),(.int .i64 zo.fRate.fD),(.int .i64 zo.fLatency.fN),(.int .i64 zo.fLatency.fD),(.func (.func 32) #[] #[(.pointer (some z1L)),(.pointer (some z1M))]),(.slice z1U z1E.length z1V)]]))) ?_
    refine WL.new (dd:=8) rfl rfl rfl (e_alloc (cs:=[(.int .i64 0),(.int .i64 0)]) zeroT_30 rfl) ?_
    intro zlf _
    refine WL.eff0 rfl rfl (e_store (vs:=[(.int .i64 z3v.1.fN),(.int .i64 z3v.1.fD)]) (ds:=[(.int .i64 z3v.1.fN),(.int .i64 z3v.1.fD)]) sizT_30 rfl rfl rfl rfl (oc_cons rfl (oc_cons rfl oc_nil)) .here (Nat.le_of_ble_eq_true rfl) rfl) ?_
    refine WL.nil ?_
    refine WX.a ?_
    refine WC.b ?_
    obtain ⟨zla,zpH,z81⟩:=zd z81
    refine WC.draw (fun i=>[].contains i) [] rfl ?_
    refine WD.e (i:=0) (d:=22) (by kernel_rfl) rfl (z6 (by kernel_rfl)) (z7 (by kernel_rfl)) rfl rfl rfl (q_load1 oneT_77 rfl (rd_stb .h5 rfl)) ?_
    refine WD.a (i:=1) (d:=23) (by kernel_rfl) rfl (z6 (by kernel_rfl)) (z7 (by kernel_rfl)) rfl rfl rfl (fun _=>q_len Try.underlying77 rfl) ?_
    refine WD.a (i:=2) (d:=24) (by kernel_rfl) rfl (z6 (by kernel_rfl)) (z7 (by kernel_rfl)) rfl rfl rfl (fun _=>q_eql rfl rfl) ?_
    refine WD.a (i:=3) (d:=25) (by kernel_rfl) rfl (z6 (by kernel_rfl)) (z7 (by kernel_rfl)) rfl rfl rfl (fun _=>q_m rfl) ?_
    refine WD.mid (fuel':=0) [(1,(.pointer (some ⟨z36,0,none⟩))),(12,(.bool (decide (ze4 ≠ 0)))),(5,(.pointer (some ⟨z3a,0,none⟩))),(6,(.pointer (some ⟨z3k,0,none⟩))),(17,(.agg #[(.int .i64 z3p.fN),(.int .i64 z3p.fD)])),(7,(.pointer (some ⟨zav,0,none⟩))),(18,(.pointer (some ⟨z36,5,none⟩))),(19,(.func (.func 32) #[] #[(.pointer (some z1L)),(.pointer (some z1M))])),(20,(.agg #[(.int .i64 z3p.fN),(.int .i64 z3p.fD)])),(21,(.agg #[(.int .i64 z3v.1.fN),(.int .i64 z3v.1.fD)])),(8,(.pointer (some ⟨zlf,0,none⟩))),(22,(.slice z6k z2o.length z5g)),(23,(.int .i64 ((z2o.length : Nat) : Int))),(24,(.bool (decide (((z2o.length : Nat) : Int) = 0)))),(25,(.bool (decide (((z2o.length : Nat) : Int) = 0)))),(32,(.bool zla))] (listedA 11 [10,9,8,7,6,5,4,3,2,1,0]) ?_ (fun zpI=>?_)
    rotate_left
    ·rcases Bool.eq_false_or_eq_true (decide (((z2o.length : Nat) : Int) = 0)) with hb' | hb'
     ·have zlg:=hb'; clear hb'
      have zlh:=ite_t zpH zlg
      replace zlh:=Option.some.inj zlh
      refine WD.pin (i:=25) rfl zlg ?_
      refine WD.b (i:=4) (d:=26) (by kernel_rfl) rfl (z6 (by kernel_rfl)) (z7 (by kernel_rfl)) rfl rfl rfl ?_
      refine WD.b (i:=5) (d:=27) (by kernel_rfl) rfl (z6 (by kernel_rfl)) (z7 (by kernel_rfl)) rfl rfl rfl ?_
      refine WD.b (i:=6) (d:=28) (by kernel_rfl) rfl (z6 (by kernel_rfl)) (z7 (by kernel_rfl)) rfl rfl rfl ?_
      refine WD.b (i:=7) (d:=29) (by kernel_rfl) rfl (z6 (by kernel_rfl)) (z7 (by kernel_rfl)) rfl rfl rfl ?_
      refine WD.b (i:=8) (d:=30) (by kernel_rfl) rfl (z6 (by kernel_rfl)) (z7 (by kernel_rfl)) rfl rfl rfl ?_
      refine WD.b (i:=9) (d:=31) (by kernel_rfl) rfl (z6 (by kernel_rfl)) (z7 (by kernel_rfl)) rfl rfl rfl ?_
      refine WD.a (i:=10) (d:=32) (by kernel_rfl) rfl (z6 (by kernel_rfl)) (z7 (by kernel_rfl)) rfl rfl rfl (fun _=>q_pickT rfl rfl) ?_
      refine WD.reL (.cons .here (.cons .here (.cons .here (.cons .here (.cons .here (.cons .here (.cons .here (.cons .here (.cons .here .nil))))))))) ?_ zpI
      exact (.cons rfl (.cons rfl (.cons rfl (.cons rfl (.cons rfl (.cons rfl (.cons rfl (.cons rfl (.cons rfl (.cons rfl (.cons rfl (.cons rfl (.cons rfl (.cons rfl (.cons (zr (Eq.symm zlg)) (.cons (zr zlh) .nil))))))))))))))))
     ·have zli:=hb'; clear hb'
      have zcE:=ite_f zpH zli
      obtain ⟨zfv,zcE⟩:=chk_elim zcE
      obtain ⟨zl9,zw4,zcE⟩:=zd zcE
      replace zcE:=Option.some.inj zcE
      refine WD.pin (i:=25) rfl zli ?_
      refine WD.e (i:=4) (d:=26) (by kernel_rfl) rfl (z6 (by kernel_rfl)) (z7 (by kernel_rfl)) rfl rfl rfl (q_loadA (cs:=[(.int .i64 z3v.1.fN),(.int .i64 z3v.1.fD)]) aggT_30 rfl rfl (rd_all .here)) ?_
      refine WD.e (i:=5) (d:=27) (by kernel_rfl) rfl (z6 (by kernel_rfl)) (z7 (by kernel_rfl)) rfl rfl rfl (q_load1 oneT_77 rfl (rd_stb .h5 rfl)) ?_
      refine WD.know (fun w hw=>Hp.expose .h6 hw (by intro hz'; have:=zfv; rw [hz'] at this; omega)) ?_
      rintro ⟨zht,rfl⟩
      refine WD.a (i:=6) (d:=28) (by kernel_rfl) rfl (z6 (by kernel_rfl)) (z7 (by kernel_rfl)) rfl rfl rfl (fun _=>q_indexAddr elT_77 rfl rfl zfv.1 zfv.2 rowAdd) ?_
      refine WD.e (i:=7) (d:=29) (by kernel_rfl) rfl (z6 (by kernel_rfl)) (z7 (by kernel_rfl)) rfl rfl rfl (q_loadA (cs:=(e30 (nth z2o 0))) aggT_30 rfl rfl (rd_rows .h6 (flat_rd (enc:=e30) (l:=z2o) (i:=0) (sz:=2) (fun _=>rfl) zfv.1 zfv.2))) ?_
      refine WD.c (i:=8) (d:=30) (by kernel_rfl) rfl (z6 (by kernel_rfl)) (z7 (by kernel_rfl)) rfl rfl rfl (zk (l:=[.tmp 26,.tmp 29]) Try.call18 (.cons rfl (.cons rfl .nil))) (fun w hw=>by have pz:=(hz.call2 hw (.nil : Sel [stb zlf 30 [(.int .i64 z3v.1.fN),(.int .i64 z3v.1.fD)],stb z3a 98 [(.int .i64 z3v.2.fE)],blk z47 (z4t .busy none),stb zav 30 [(.int .i64 z3p.fN),(.int .i64 z3p.fD)],fz [],stb z3k 77 [(.slice (some ⟨zht,0,none⟩) z2o.length z5g)],row (.slice (some ⟨zht,0,none⟩) z2o.length z5g) 30 2 (z2o.flatMap e30),stb z38 30 [(.int .i64 0),(.int .i64 0)],stb z36 79 [(.slice z1S z1D.length z1T),(.int .i64 zo.fRate.fN),(.int .i64 zo.fRate.fD),(.int .i64 zo.fLatency.fN),(.int .i64 zo.fLatency.fD),(.func (.func 32) #[] #[(.pointer (some z1L)),(.pointer (some z1M))]),(.slice z1U z1E.length z1V)]] [] [stb zlf 30 [(.int .i64 z3v.1.fN),(.int .i64 z3v.1.fD)],stb z3a 98 [(.int .i64 z3v.2.fE)],blk z47 (z4t .busy none),stb zav 30 [(.int .i64 z3p.fN),(.int .i64 z3p.fD)],fz [],stb z3k 77 [(.slice (some ⟨zht,0,none⟩) z2o.length z5g)],row (.slice (some ⟨zht,0,none⟩) z2o.length z5g) 30 2 (z2o.flatMap e30),stb z38 30 [(.int .i64 0),(.int .i64 0)],stb z36 79 [(.slice z1S z1D.length z1T),(.int .i64 zo.fRate.fN),(.int .i64 zo.fRate.fD),(.int .i64 zo.fLatency.fN),(.int .i64 zo.fLatency.fD),(.func (.func 32) #[] #[(.pointer (some z1L)),(.pointer (some z1M))]),(.slice z1U z1E.length z1V)]]) .h4); exact w_rat_Cmp (Z:=_)  (z2d:=z3v.1) (z2e:=(⟨((nth z2o 0).fN),((nth z2o 0).fD)⟩ : z2)) (r:=zl9) w pz  zw4) ?_
      refine WD.a (i:=9) (d:=31) (by kernel_rfl) rfl (z6 (by kernel_rfl)) (z7 (by kernel_rfl)) rfl rfl rfl (fun _=>q_gtr rfl rfl) ?_
      refine WD.a (i:=10) (d:=32) (by kernel_rfl) rfl (z6 (by kernel_rfl)) (z7 (by kernel_rfl)) rfl rfl rfl (fun _=>q_pickF rfl rfl) ?_
      refine WD.reL (.cons .here (.cons .here (.cons .here (.cons .here (.cons .here (.cons .here (.cons .here (.cons .here (.cons .here .nil))))))))) ?_ zpI
      exact (.cons rfl (.cons rfl (.cons rfl (.cons rfl (.cons rfl (.cons rfl (.cons rfl (.cons rfl (.cons rfl (.cons rfl (.cons rfl (.cons rfl (.cons rfl (.cons rfl (.cons (zr (Eq.symm zli)) (.cons (zr zcE) .nil))))))))))))))))
    refine WD.done (by kernel_rfl) ?_
    refine WX.a ?_
    refine WC.cond rfl (fun zlj=>?_) (fun zlj=>?_)
    ·replace z81:=ite_t z81 zlj
     refine WC.a ?_
     refine WL.a (d:=33) rfl rfl rfl (q_loadA (cs:=[(.int .i64 z3v.1.fN),(.int .i64 z3v.1.fD)]) aggT_30 rfl rfl (rd_all .here)) ?_
     refine WL.new (dd:=34) rfl rfl rfl (e_buildSlice (cs:=([z3v.1] : List z2).flatMap e30) elT_77 (Eos.parts (l:=[.tmp 33]) (.cons rfl .nil) [0]) (fun _=>by kernel_rfl) rfl (by unfold maxLen; omega)) ?_
     intro zfw _
     refine WL.eff0 rfl rfl (e_store (vs:=[(.slice (some ⟨zfw,0,none⟩) (([z3v.1] : List z2).length) 1)]) (ds:=[(.slice (some ⟨zfw,0,none⟩) (([z3v.1] : List z2).length) 1)]) sizT_77 rfl rfl rfl rfl (oc_cons rfl oc_nil) .h6 (Nat.le_of_ble_eq_true rfl) rfl) ?_
     refine WL.nil ?_
     refine WX.blockNormal ?_
     obtain ⟨rfl,rfl⟩:=rf_inj z81
     exact WX.rNormal zhs .h4 (fun w' hw'=>⟨((some ⟨zfw,0,none⟩),1),rfl,trivial,(hw'.selAll ((.cons .h6 (.cons .h1 (.cons .h1 (.cons .h2 (.cons .h4 (.cons .h4 (.cons .here .nil))))))) : Sel _ [fz [],stb z3k 77 [(.slice (some ⟨zfw,0,none⟩) (([z3v.1] : List z2).length) 1)],row (.slice (some ⟨zfw,0,none⟩) (([z3v.1] : List z2).length) 1) 30 2 (([z3v.1] : List z2).flatMap e30),stb z3a 98 [(.int .i64 z3v.2.fE)],stb z38 30 [(.int .i64 0),(.int .i64 0)],stb z36 79 [(.slice z1S z1D.length z1T),(.int .i64 zo.fRate.fN),(.int .i64 zo.fRate.fD),(.int .i64 zo.fLatency.fN),(.int .i64 zo.fLatency.fD),(.func (.func 32) #[] #[(.pointer (some z1L)),(.pointer (some z1M))]),(.slice z1U z1E.length z1V)],blk z47 (z4t .ready none)] _)).sub (.cons .here .nil)⟩)
    ·replace z81:=ite_f z81 zlj
     refine WC.skip ?_
     refine WX.blockNormal ?_
     obtain ⟨rfl,rfl⟩:=rf_inj z81
     exact WX.rNormal zhs .h2 (fun w' hw'=>⟨(z6k,z5g),rfl,trivial,(hw'.selAll ((.cons .h4 (.cons .h4 (.cons .h4 (.cons .h2 (.cons .h3 (.cons .h3 (.cons .here .nil))))))) : Sel _ [fz [],stb z3k 77 [(.slice z6k z2o.length z5g)],row (.slice z6k z2o.length z5g) 30 2 (z2o.flatMap e30),stb z3a 98 [(.int .i64 z3v.2.fE)],stb z38 30 [(.int .i64 0),(.int .i64 0)],stb z36 79 [(.slice z1S z1D.length z1T),(.int .i64 zo.fRate.fN),(.int .i64 zo.fRate.fD),(.int .i64 zo.fLatency.fN),(.int .i64 zo.fLatency.fD),(.func (.func 32) #[] #[(.pointer (some z1L)),(.pointer (some z1M))]),(.slice z1U z1E.length z1V)],blk z47 (z4t .ready none)] _)).sub (.cons .here .nil)⟩)
   ·skip
    rintro _ w' ⟨zw5,⟨zfx,zfy⟩,rfl,_,hp⟩
    have hp1:=hw1.call ((.cons .here .nil) : Sel [allA [fz [],stb z3k 77 [(.slice none (([] : List z2).length) 0)],row (.slice none (([] : List z2).length) 0) 30 2 (([] : List z2).flatMap e30),stb z3a 98 [(.int .i64 0)],stb z38 30 [(.int .i64 0),(.int .i64 0)],stb z36 79 [(.slice z1S z1D.length z1T),(.int .i64 zo.fRate.fN),(.int .i64 zo.fRate.fD),(.int .i64 zo.fLatency.fN),(.int .i64 zo.fLatency.fD),(.func (.func 32) #[] #[(.pointer (some z1L)),(.pointer (some z1M))]),(.slice z1U z1E.length z1V)],blk z47 (z4t .ready none)],dfr z7G,stb z6j 79 [(.slice z1S z1D.length z1T),(.int .i64 z1i.1),(.int .i64 z1i.2.1),(.int .i64 z1i.2.2.1),(.int .i64 z1i.2.2.2),(.func (.func 32) #[] #[(.pointer (some z1L)),(.pointer (some z1M))]),(.slice z1U z1E.length z1V)],fz ([] ++ z5R)] [allA [fz [],stb z3k 77 [(.slice none (([] : List z2).length) 0)],row (.slice none (([] : List z2).length) 0) 30 2 (([] : List z2).flatMap e30),stb z3a 98 [(.int .i64 0)],stb z38 30 [(.int .i64 0),(.int .i64 0)],stb z36 79 [(.slice z1S z1D.length z1T),(.int .i64 zo.fRate.fN),(.int .i64 zo.fRate.fD),(.int .i64 zo.fLatency.fN),(.int .i64 zo.fLatency.fD),(.func (.func 32) #[] #[(.pointer (some z1L)),(.pointer (some z1M))]),(.slice z1U z1E.length z1V)],blk z47 (z4t .ready none)]] [dfr z7G,stb z6j 79 [(.slice z1S z1D.length z1T),(.int .i64 z1i.1),(.int .i64 z1i.2.1),(.int .i64 z1i.2.2.1),(.int .i64 z1i.2.2.2),(.func (.func 32) #[] #[(.pointer (some z1L)),(.pointer (some z1M))]),(.slice z1U z1E.length z1V)],fz ([] ++ z5R)]) hp
    have hp2 : Hp _ _ w' [fz [],stb z3k 77 [(.slice zfx z5Q.2.1.length zfy)],row (.slice zfx z5Q.2.1.length zfy) 30 2 (z5Q.2.1.flatMap e30),stb z3a 98 [(.int .i64 z5Q.2.2)],stb z38 30 [(.int .i64 0),(.int .i64 0)],stb z36 79 [(.slice z1S z1D.length z1T),(.int .i64 zo.fRate.fN),(.int .i64 zo.fRate.fD),(.int .i64 zo.fLatency.fN),(.int .i64 zo.fLatency.fD),(.func (.func 32) #[] #[(.pointer (some z1L)),(.pointer (some z1M))]),(.slice z1U z1E.length z1V)],blk z47 (z4t (rdy (pcs [] z5Q.1)) (pcs [] z5Q.1)),fz zw5,dfr z7G,stb z6j 79 [(.slice z1S z1D.length z1T),(.int .i64 z1i.1),(.int .i64 z1i.2.1),(.int .i64 z1i.2.2.1),(.int .i64 z1i.2.2.2),(.func (.func 32) #[] #[(.pointer (some z1L)),(.pointer (some z1M))]),(.slice z1U z1E.length z1V)],fz ([] ++ z5R)]:=hp1.pickAll .h1
    refine ⟨_,pcs [] z5Q.1,_,rfl,(hp2.sub ((.cons .h6 (.cons .here (.cons .here (.cons .here (.cons .here (.cons .here (.cons .here (.cons .h1 (.cons .h1 (.cons .h1 .nil)))))))))) : Sel _ [blk z47 (z4t (rdy (pcs [] z5Q.1)) (pcs [] z5Q.1)),fz [],stb z3k 77 [(.slice zfx z5Q.2.1.length zfy)],row (.slice zfx z5Q.2.1.length zfy) 30 2 (z5Q.2.1.flatMap e30),stb z3a 98 [(.int .i64 z5Q.2.2)],stb z38 30 [(.int .i64 0),(.int .i64 0)],stb z36 79 [(.slice z1S z1D.length z1T),(.int .i64 zo.fRate.fN),(.int .i64 zo.fRate.fD),(.int .i64 zo.fLatency.fN),(.int .i64 zo.fLatency.fD),(.func (.func 32) #[] #[(.pointer (some z1L)),(.pointer (some z1M))]),(.slice z1U z1E.length z1V)],dfr z7G,stb z6j 79 [(.slice z1S z1D.length z1T),(.int .i64 z1i.1),(.int .i64 z1i.2.1),(.int .i64 z1i.2.2.1),(.int .i64 z1i.2.2.2),(.func (.func 32) #[] #[(.pointer (some z1L)),(.pointer (some z1M))]),(.slice z1U z1E.length z1V)],fz ([] ++ z5R)] _)),?_⟩
    clear hp hp1 hp2 pz hw hw1
    refine wjN ?_
    letI : Rnd:=aft z7G
    refine WX.merge .here .h7 ?_
    refine WX.blockNormal ?_
    exact WX.midR (D:=fun (g : Nat × Int × List z2 × Zp × Option Addr × Nat)=>g.1) (G:=Nat × Int × List z2 × Zp × Option Addr × Nat) ⟨z7G,z5Q.2.2,z5Q.2.1,(([] ++ z5R) ++ []),zfx,zfy⟩ ⟨h,((Zle.left _ _).trans (Zle.assoc _ _ _))⟩ (.cons rfl (.cons rfl (.cons rfl .nil))) (.cons .here (.cons .h3 (.cons .h2 (.cons .here (.cons .here (.cons .h1 .nil))))))
  ·rintro zfs z9u z6i zcD zft zfu ⟨h,zAM⟩
   replace h:=(zvV z9u z6i).symm.trans h
   letI : Rnd:=aft zfs
   refine WC.b ?_
   refine WC.b ?_
   refine WC.a ?_
   refine WL.a (d:=35) rfl rfl rfl (q_fieldAddr fo_98_0 rfl rfl) ?_
   refine WL.a (d:=36) rfl rfl rfl (q_load1 oneT_31 rfl (rd_stb .h2 rfl)) ?_
   refine WL.a (d:=37) rfl rfl rfl (q_neq rfl rfl) ?_
   refine WL.nil ?_
   refine WX.a ?_
   refine WC.cond rfl (fun zlk=>?_) (fun zlk=>?_)
   ·replace h:=ite_t h zlk
    refine WC.b ?_
    refine WC.draw (fun i=>[3].contains i) [stbp z3a 98 [(0,(.int .i64 z9u))]] rfl ?_
    refine WD.a (i:=0) (d:=38) (by kernel_rfl) rfl (z6 (by kernel_rfl)) (z7 (by kernel_rfl)) rfl rfl rfl (fun _=>q_build (v:=(.agg #[(.int .i64 0),(.int .i64 0)])) (Eos.parts (l:=[]) .nil []) (fun _=>by kernel_rfl)) ?_
    refine WD.a (i:=1) (d:=39) (by kernel_rfl) rfl (z6 (by kernel_rfl)) (z7 (by kernel_rfl)) rfl rfl rfl (fun _=>q_fieldAddr fo_98_0 rfl rfl) ?_
    refine WD.stable (i:=2) (d:=40) (by kernel_rfl) rfl (z6 (by kernel_rfl)) (z7 (by kernel_rfl)) rfl rfl rfl (Sin.wk (.cons .h2 .nil) (.stb (.cons rfl .nil) .nil)) (q_load1 oneT_31 rfl (rd_stbp .here (.head _))) ?_
    refine WD.forced0 (i:=3) rfl (by kernel_rfl) rfl rfl rfl (Sin.wk (.cons .h2 .nil) (.stb (.cons rfl .nil) .nil)) (e_store (vs:=[(.int .i64 0),(.int .i64 0)]) (ds:=[(.int .i64 0),(.int .i64 0)]) sizT_30 rfl rfl rfl rfl (oc_cons rfl (oc_cons rfl oc_nil)) .h1 (Nat.le_of_ble_eq_true rfl) rfl) ?_
    refine WD.a (i:=4) (d:=3) (by kernel_rfl) rfl (z6 (by kernel_rfl)) (z7 (by kernel_rfl)) rfl rfl rfl (fun _=>q_z rfl) ?_
    refine WD.done (by kernel_rfl) ?_
    refine WX.a ?_
    refine WC.ret ?_
    refine WX.thenRet ?_
    obtain rfl:=Option.some.inj h
    refine WX.bpRetD .h5 Try.results36 (.agg rfl aggT_30 rfl (rd_all .h1) (.tmp rfl .nil)) (fun w hw=>?_)
    exact ⟨zcD,ret2 rfl rfl,trivial,hw.sub (.cons .h2 .nil)⟩
   ·replace h:=ite_f h zlk
    refine WC.skip ?_
    refine WX.a ?_
    refine WC.b ?_
    obtain ⟨zfz,h⟩:=chk_elim h
    refine WC.a ?_
    refine WL.a (d:=41) rfl rfl rfl (q_load1 oneT_77 rfl (rd_stb .h3 rfl)) ?_
    refine WL.know (fun w hw=>Hp.expose .h4 hw (by intro hz'; have:=zfz; rw [hz'] at this; omega)) ?_
    rintro ⟨zAN,rfl⟩
    refine WL.a (d:=42) rfl rfl rfl (q_indexAddr elT_77 rfl rfl zfz.1 zfz.2 rowAdd) ?_
    refine WL.a (d:=43) rfl rfl rfl (q_loadA (cs:=(e30 (nth z6i 0))) aggT_30 rfl rfl (rd_rows .h4 (flat_rd (enc:=e30) (l:=z6i) (i:=0) (sz:=2) (fun _=>rfl) zfz.1 zfz.2))) ?_
    refine WL.eff0 rfl rfl (e_store (vs:=[(.int .i64 ((nth z6i 0).fN)),(.int .i64 ((nth z6i 0).fD))]) (ds:=[(.int .i64 ((nth z6i 0).fN)),(.int .i64 ((nth z6i 0).fD))]) sizT_30 rfl rfl rfl rfl (oc_cons rfl (oc_cons rfl oc_nil)) .h1 (Nat.le_of_ble_eq_true rfl) rfl) ?_
    refine WL.a (d:=3) rfl rfl rfl (q_z rfl) ?_
    refine WL.nil ?_
    refine WX.a ?_
    refine WC.ret ?_
    obtain rfl:=Option.some.inj h
    refine WX.bpRetD .h5 Try.results36 (.agg rfl aggT_30 rfl (rd_all .h1) (.tmp rfl .nil)) (fun w hw=>?_)
    exact ⟨zcD,ret2 rfl rfl,trivial,hw.sub (.cons .h2 .nil)⟩
def m_calculus_Delay (z4j : List (List z1)) (z1s : Sapi_Server) : Option (z2 × Int) :=
 (m_calculus_search_max z4j z1s z4j z1s []).bind fun z93=>some (z93.1,z93.2)
set_option maxRecDepth 20000 in
theorem w_calculus_Delay (Z : Zp)  (z5h : Option Addr) (z5i : Nat) (z4j : List (List z1)) (z1s : Sapi_Server) (r : z2 × Int) (w₀ : World) (hz : PZ [] w₀ Z)
  (zpJ : ZS Z 1 (p39 Z) z5h z5i z4j)
  (h : m_calculus_Delay z4j z1s = some r) :
  Calls Try.prog 15 #[(.slice z5h z4j.length z5i),(.agg #[(.int .i64 z1s.fRate.fN),(.int .i64 z1s.fRate.fD),(.int .i64 z1s.fLatency.fN),(.int .i64 z1s.fLatency.fD)])] w₀ fun e w'=>∃ Zn : Zp,e = .returned (.tuple #[(.agg #[(.int .i64 r.1.fN),(.int .i64 r.1.fD)]),(.int .i64 r.2)]) ∧ True ∧ Hp [] w₀ w' [fz Zn]:=by
 unfold m_calculus_Delay at h
 refine Calls.ofWC (vs:=[(.slice z5h z4j.length z5i),(.agg #[(.int .i64 z1s.fRate.fN),(.int .i64 z1s.fRate.fD),(.int .i64 z1s.fLatency.fN),(.int .i64 z1s.fLatency.fD)])]) (pre:=[]) (env:=[(0,(.slice z5h z4j.length z5i)),(1,(.agg #[(.int .i64 z1s.fRate.fN),(.int .i64 z1s.fRate.fD),(.int .i64 z1s.fLatency.fN),(.int .i64 z1s.fLatency.fD)]))]) Try.func15 rfl Try.ntmps15 rfl (Hp.nil w₀ _) rfl ?_
 refine WC.pool ?_
 refine WC.b ?_
 refine WC.a ?_
 refine WL.new (dd:=2) rfl rfl rfl (e_box (cs:=[(.slice z5h z4j.length z5i)]) rfl rfl) ?_
 intro zbs _
 refine WL.new (dd:=3) rfl rfl rfl (e_box (cs:=[(.int .i64 z1s.fRate.fN),(.int .i64 z1s.fRate.fD),(.int .i64 z1s.fLatency.fN),(.int .i64 z1s.fLatency.fD)]) rfl rfl) ?_
 intro zbt _
 refine WL.new (dd:=4) rfl rfl rfl (e_alloc (cs:=[(.int .i64 0),(.int .i64 0)]) zeroT_30 rfl) ?_
 intro zhu _
 refine WL.a (d:=5) rfl rfl rfl (q_z rfl) ?_
 refine WL.nil ?_
 refine WX.a ?_
 refine WC.b ?_
 refine WC.a ?_
 refine WL.a (d:=7) rfl rfl rfl (q_load1 oneT_26 rfl (rd_stb .h2 rfl)) ?_
 refine WL.a (d:=8) rfl rfl rfl (q_loadA (cs:=[(.int .i64 z1s.fRate.fN),(.int .i64 z1s.fRate.fD),(.int .i64 z1s.fLatency.fN),(.int .i64 z1s.fLatency.fD)]) aggT_43 rfl rfl (rd_all .h1)) ?_
 refine WL.a (d:=9) rfl rfl rfl (q_build (v:=(.agg #[(.slice z5h z4j.length z5i),(.int .i64 z1s.fRate.fN),(.int .i64 z1s.fRate.fD),(.int .i64 z1s.fLatency.fN),(.int .i64 z1s.fLatency.fD),.nilFunc,(.slice none 0 0)])) (Eos.parts (l:=[.tmp 7,.tmp 8]) (.cons rfl (.cons rfl .nil)) [0,1]) (fun _=>by kernel_rfl)) ?_
 refine WL.new (dd:=6) rfl rfl rfl (e_alloc (cs:=[(.slice none 0 0),(.int .i64 0),(.int .i64 0),(.int .i64 0),(.int .i64 0),.nilFunc,(.slice none 0 0)]) zeroT_79 rfl) ?_
 intro zhv _
 refine WL.eff0 rfl rfl (e_store (vs:=[(.slice z5h z4j.length z5i),(.int .i64 z1s.fRate.fN),(.int .i64 z1s.fRate.fD),(.int .i64 z1s.fLatency.fN),(.int .i64 z1s.fLatency.fD),.nilFunc,(.slice none 0 0)]) (ds:=[(.slice z5h z4j.length z5i),(.int .i64 z1s.fRate.fN),(.int .i64 z1s.fRate.fD),(.int .i64 z1s.fLatency.fN),(.int .i64 z1s.fLatency.fD),.nilFunc,(.slice none 0 0)]) sizT_79 rfl rfl rfl rfl (oc_cons rfl (oc_cons rfl (oc_cons rfl (oc_cons rfl (oc_cons rfl (oc_cons rfl (oc_cons rfl oc_nil))))))) .here (Nat.le_of_ble_eq_true rfl) rfl) ?_
 refine WL.nil ?_
 refine WX.a ?_
 refine WC.b ?_
 refine WC.a ?_
 refine WL.a (d:=10) rfl rfl rfl (q_makeFunc (Eos.caps (l:=[.tmp 2,.tmp 3]) (.cons rfl (.cons rfl .nil)))) ?_
 refine WL.a (d:=11) rfl rfl rfl (q_fieldAddr fo_79_2 rfl rfl) ?_
 refine WL.eff0 rfl rfl (e_store (vs:=[(.func (.func 32) #[] #[(.pointer (some ⟨zbs,0,none⟩)),(.pointer (some ⟨zbt,0,none⟩))])]) (ds:=[(.slice z5h z4j.length z5i),(.int .i64 z1s.fRate.fN),(.int .i64 z1s.fRate.fD),(.int .i64 z1s.fLatency.fN),(.int .i64 z1s.fLatency.fD),(.func (.func 32) #[] #[(.pointer (some ⟨zbs,0,none⟩)),(.pointer (some ⟨zbt,0,none⟩))]),(.slice none 0 0)]) sizT_76 rfl rfl rfl rfl (oc_cons rfl oc_nil) .here (Nat.le_of_ble_eq_true rfl) rfl) ?_
 refine WL.nil ?_
 refine WX.a ?_
 refine WC.b ?_
 obtain ⟨z93,zw6,h⟩:=zd h
 refine WC.a ?_
 refine WL.a (d:=12) rfl rfl rfl (q_loadA (cs:=[(.slice z5h z4j.length z5i),(.int .i64 z1s.fRate.fN),(.int .i64 z1s.fRate.fD),(.int .i64 z1s.fLatency.fN),(.int .i64 z1s.fLatency.fD),(.func (.func 32) #[] #[(.pointer (some ⟨zbs,0,none⟩)),(.pointer (some ⟨zbt,0,none⟩))]),(.slice none 0 0)]) aggT_79 rfl rfl (rd_all .here)) ?_
 refine WL.freezeC (Z:=Z) .h3 .h3 ?_
 intro zAO zhw zw7
 refine WL.freezeC (Z:=Z) .h3 .here ?_
 intro zfA zfB zw8
 refine WL.enter1 (dd:=13) rfl rfl rfl (zk (l:=[.tmp 12]) Try.call36 (.cons rfl .nil)) (.nil : Sel [fz zfA,stb zhv 79 [(.slice z5h z4j.length z5i),(.int .i64 z1s.fRate.fN),(.int .i64 z1s.fRate.fD),(.int .i64 z1s.fLatency.fN),(.int .i64 z1s.fLatency.fD),(.func (.func 32) #[] #[(.pointer (some ⟨zbs,0,none⟩)),(.pointer (some ⟨zbt,0,none⟩))]),(.slice none 0 0)],stb zhu 30 [(.int .i64 0),(.int .i64 0)]] [] [fz zfA,stb zhv 79 [(.slice z5h z4j.length z5i),(.int .i64 z1s.fRate.fN),(.int .i64 z1s.fRate.fD),(.int .i64 z1s.fLatency.fN),(.int .i64 z1s.fLatency.fD),(.func (.func 32) #[] #[(.pointer (some ⟨zbs,0,none⟩)),(.pointer (some ⟨zbt,0,none⟩))]),(.slice none 0 0)],stb zhu 30 [(.int .i64 0),(.int .i64 0)]]) (fun w hw=>by have pz:=(hz.call2 hw (.nil : Sel [fz zfA,stb zhv 79 [(.slice z5h z4j.length z5i),(.int .i64 z1s.fRate.fN),(.int .i64 z1s.fRate.fD),(.int .i64 z1s.fLatency.fN),(.int .i64 z1s.fLatency.fD),(.func (.func 32) #[] #[(.pointer (some ⟨zbs,0,none⟩)),(.pointer (some ⟨zbt,0,none⟩))]),(.slice none 0 0)],stb zhu 30 [(.int .i64 0),(.int .i64 0)]] [] [fz zfA,stb zhv 79 [(.slice z5h z4j.length z5i),(.int .i64 z1s.fRate.fN),(.int .i64 z1s.fRate.fD),(.int .i64 z1s.fLatency.fN),(.int .i64 z1s.fLatency.fD),(.func (.func 32) #[] #[(.pointer (some ⟨zbs,0,none⟩)),(.pointer (some ⟨zbt,0,none⟩))]),(.slice none 0 0)],stb zhu 30 [(.int .i64 0),(.int .i64 0)]]) .here); exact w_calculus_search_max (Z:=_) (z1S:=z5h) (z1T:=z5i) (z1L:=⟨zbs,0,none⟩) (zcB:=z5h) (zcC:=z5i) (z1M:=⟨zbt,0,none⟩) (z1U:=none) (z1V:=0) (z1D:=z4j) (zo:=z1s) (z6L:=z4j) (z5P:=z1s) (z1E:=[]) (r:=z93) w pz ((zpJ.mono ((Zle.left _ _).trans (zhw.trans zfB))).weak (fun _ _ h=>p39_mono ((Zle.left _ _).trans (zhw.trans zfB)) h)) ((zpJ.mono ((Zle.left _ _).trans (zhw.trans zfB))).weak (fun _ _ h=>p39_mono ((Zle.left _ _).trans (zhw.trans zfB)) h)) (zw7.mono zfB) zw8 (ZS.nil _ _ _) zw6) ?_
 rintro zw9 _
 refine WL.merge .here .here ?_
 refine WL.a (d:=14) rfl rfl rfl (q_extract rfl rfl) ?_
 refine WL.a (d:=15) rfl rfl rfl (q_extract rfl rfl) ?_
 refine WL.eff0 rfl rfl (e_store (vs:=[(.int .i64 z93.1.fN),(.int .i64 z93.1.fD)]) (ds:=[(.int .i64 z93.1.fN),(.int .i64 z93.1.fD)]) sizT_30 rfl rfl rfl rfl (oc_cons rfl (oc_cons rfl oc_nil)) .h2 (Nat.le_of_ble_eq_true rfl) rfl) ?_
 refine WL.a (d:=5) rfl rfl rfl (q_z rfl) ?_
 refine WL.nil ?_
 refine WX.a ?_
 refine WC.ret ?_
 obtain rfl:=Option.some.inj h
 refine WX.bpRet Try.results15 (.agg rfl aggT_30 rfl (rd_all .here) (.tmp rfl .nil)) (fun w hw=>?_)
 exact ⟨(zfA ++ zw9),ret2 rfl rfl,trivial,hw.sub (.cons .h1 .nil)⟩
def m_calculus_search_checkb_L2 (z1W : List (List z1)) (zaw : Int → Int → Int → Option Int) : Nat → Int → Int → Int → Int → Option Int
 | 0,_,_,_,_=>none
 | zll + 1,z6l,z48,z3T,z3U=>if decide (z6l < ((z1W.length : Nat) : Int)) then chk ((0 : Int) ≤ z6l ∧ z6l < ((z1W.length : Nat) : Int)) ((m_curve_Breaks (nth z1W z6l)).bind fun z4J=>if decide (z4J.2 ≠ 0) then some z4J.2 else (m_curve_Rate (nth z1W z6l)).bind fun z5j=>(m_calculus_calc_do (⟨z48⟩ : z2j) (fun (y0 : z2) (y1 : z2)=>m_rat_Add y0 y1) (⟨z3T,z3U⟩ : z2) z5j.1).bind fun z8w=>m_calculus_search_checkb_L2 z1W zaw zll (i64 (z6l + 1)) z8w.2.fE z8w.1.fN z8w.1.fD) else zaw z48 z3T z3U
theorem m_calculus_search_checkb_L2_fuel {n : Nat} {z1W : List (List z1)} {zaw : Int → Int → Int → Option Int} {z6l : Int} {z48 : Int} {z3T : Int} {z3U : Int} {r : Int} (h : m_calculus_search_checkb_L2 z1W zaw n z6l z48 z3T z3U = some r) : ∃ m,n = m + 1:=by
 cases n with
 | zero=>cases h
 | succ m=>exact ⟨m,rfl⟩
def m_calculus_search_checkb (z1W : List (List z1)) (zn : Sapi_Server) (zfC : List (List z1)) (zcF : Sapi_Server) (z2z : List z2) : Option Int :=
 (if decide (((z1W.length : Nat) : Int) > 32) then some true else (m_slices_ContainsFunc_api_Curve_api_Curve z1W (fun (y0 : List z1)=>m_calculus_search_check_1 y0)).bind fun zlm=>some zlm).bind fun zhx=>(if zhx then some true else (m_calculus_Valid zn).bind fun zln=>some (!zln)).bind fun zlo=>if zlo then some 2 else (m_calculus_zero).bind fun z9v=>jp3 (fun (z7m : Int) (z7n : Int) (z7o : Int)=>(if decide (z7m = 0) then (m_rat_Cmp (⟨z7n,z7o⟩ : z2) zn.fRate).bind fun zlp=>some (decide (zlp > 0)) else some false).bind fun zlq=>if zlq then some 6 else some z7m) fun zaw=>m_calculus_search_checkb_L2 z1W zaw FUEL 0 0 z9v.fN z9v.fD
set_option maxRecDepth 20000 in
theorem w_calculus_search_checkb (Z : Zp)  (z2A : Option Addr) (z2B : Nat) (z2L : Addr) (zlr : Option Addr) (zls : Nat) (z2M : Addr) (z2N : Option Addr) (z2O : Nat) (z1W : List (List z1)) (zn : Sapi_Server) (zfC : List (List z1)) (zcF : Sapi_Server) (z2z : List z2) (r : Int) (w₀ : World) (hz : PZ [] w₀ Z)
  (zpK : ZS Z 1 (p39 Z) z2A z2B z1W)
  (zAP : ZS Z 1 (p39 Z) zlr zls zfC)
  (zAQ : ZC Z z2L [(.slice zlr zfC.length zls)])
  (zAR : ZC Z z2M [(.int .i64 zcF.fRate.fN),(.int .i64 zcF.fRate.fD),(.int .i64 zcF.fLatency.fN),(.int .i64 zcF.fLatency.fD)])
  (zAS : ZS Z 2 (fun r x=>r = e30 x) z2N z2O z2z)
  (h : m_calculus_search_checkb z1W zn zfC zcF z2z = some r) :
  Calls Try.prog 52 #[(.agg #[(.slice z2A z1W.length z2B),(.int .i64 zn.fRate.fN),(.int .i64 zn.fRate.fD),(.int .i64 zn.fLatency.fN),(.int .i64 zn.fLatency.fD),(.func (.func 37) #[] #[(.pointer (some z2L)),(.pointer (some z2M))]),(.slice z2N z2z.length z2O)])] w₀ fun e w'=>∃ Zn : Zp,e = .returned (.int .i64 r) ∧ True ∧ Hp [] w₀ w' [fz Zn]:=by
 unfold m_calculus_search_checkb at h
 refine Calls.ofWC (vs:=[(.agg #[(.slice z2A z1W.length z2B),(.int .i64 zn.fRate.fN),(.int .i64 zn.fRate.fD),(.int .i64 zn.fLatency.fN),(.int .i64 zn.fLatency.fD),(.func (.func 37) #[] #[(.pointer (some z2L)),(.pointer (some z2M))]),(.slice z2N z2z.length z2O)])]) (pre:=[]) (env:=[(0,(.agg #[(.slice z2A z1W.length z2B),(.int .i64 zn.fRate.fN),(.int .i64 zn.fRate.fD),(.int .i64 zn.fLatency.fN),(.int .i64 zn.fLatency.fD),(.func (.func 37) #[] #[(.pointer (some z2L)),(.pointer (some z2M))]),(.slice z2N z2z.length z2O)]))]) Try.func52 rfl Try.ntmps52 rfl (Hp.nil w₀ _) rfl ?_
 refine WC.pool ?_
 refine WC.b ?_
 refine WC.a ?_
 refine WL.new (dd:=1) rfl rfl rfl (e_box (cs:=[(.slice z2A z1W.length z2B),(.int .i64 zn.fRate.fN),(.int .i64 zn.fRate.fD),(.int .i64 zn.fLatency.fN),(.int .i64 zn.fLatency.fD),(.func (.func 37) #[] #[(.pointer (some z2L)),(.pointer (some z2M))]),(.slice z2N z2z.length z2O)]) rfl rfl) ?_
 intro z32 _
 refine WL.a (d:=2) rfl rfl rfl (q_z rfl) ?_
 refine WL.nil ?_
 refine WX.a ?_
 refine WC.b ?_
 refine WC.b ?_
 obtain ⟨zhx,zpL,h⟩:=zd h
 obtain ⟨zlo,zpM,h⟩:=zd h
 refine WC.a ?_
 refine WL.a (d:=11) rfl rfl rfl (q_fieldAddr fo_79_0 rfl rfl) ?_
 refine WL.a (d:=12) rfl rfl rfl (q_load1 oneT_26 rfl (rd_stb .here rfl)) ?_
 refine WL.a (d:=13) rfl rfl rfl (q_len Try.underlying26 rfl) ?_
 refine WL.a (d:=14) rfl rfl rfl (q_gtr rfl rfl) ?_
 refine WL.a (d:=15) rfl rfl rfl (q_m rfl) ?_
 refine WL.cut0 True [(1,(.pointer (some ⟨z32,0,none⟩))),(19,(.bool zhx))] [stb z32 79 [(.slice z2A z1W.length z2B),(.int .i64 zn.fRate.fN),(.int .i64 zn.fRate.fD),(.int .i64 zn.fLatency.fN),(.int .i64 zn.fLatency.fD),(.func (.func 37) #[] #[(.pointer (some z2L)),(.pointer (some z2M))]),(.slice z2N z2z.length z2O)],fz []] 4 ?_ (fun _=>?_)
 ·rcases Bool.eq_false_or_eq_true (decide (((z1W.length : Nat) : Int) > 32)) with hb' | hb'
  ·have zpN:=hb'; clear hb'
   have zlt:=ite_t zpL zpN
   replace zlt:=Option.some.inj zlt
   refine WL.pin (i:=15) rfl zpN ?_
   refine WL.e rfl rfl rfl ?_
   refine WL.e rfl rfl rfl ?_
   refine WL.e rfl rfl rfl ?_
   refine WL.a (d:=19) rfl rfl rfl (q_pickT rfl rfl) ?_
   exact WL.cutEnd () trivial (.cons rfl (.cons (zr zlt) .nil)) (.cons .here (.cons .here .nil))
  ·have zpO:=hb'; clear hb'
   have zfD:=ite_f zpL zpO
   obtain ⟨zlm,zwa,zfD⟩:=zd zfD
   replace zfD:=Option.some.inj zfD
   refine WL.pin (i:=15) rfl zpO ?_
   refine WL.a (d:=16) rfl rfl rfl (q_fieldAddr fo_79_0 rfl rfl) ?_
   refine WL.a (d:=17) rfl rfl rfl (q_load1 oneT_26 rfl (rd_stb .here rfl)) ?_
   refine WL.b (dd:=18) rfl rfl rfl (zk (l:=[.tmp 17,.func 67]) Try.call66 (.cons rfl (.cons rfl .nil))) (.nil : Sel [stb z32 79 [(.slice z2A z1W.length z2B),(.int .i64 zn.fRate.fN),(.int .i64 zn.fRate.fD),(.int .i64 zn.fLatency.fN),(.int .i64 zn.fLatency.fD),(.func (.func 37) #[] #[(.pointer (some z2L)),(.pointer (some z2M))]),(.slice z2N z2z.length z2O)],fz []] [] [stb z32 79 [(.slice z2A z1W.length z2B),(.int .i64 zn.fRate.fN),(.int .i64 zn.fRate.fD),(.int .i64 zn.fLatency.fN),(.int .i64 zn.fLatency.fD),(.func (.func 37) #[] #[(.pointer (some z2L)),(.pointer (some z2M))]),(.slice z2N z2z.length z2O)],fz []]) (fun w hw=>by have pz:=(hz.call2 hw (.nil : Sel [stb z32 79 [(.slice z2A z1W.length z2B),(.int .i64 zn.fRate.fN),(.int .i64 zn.fRate.fD),(.int .i64 zn.fLatency.fN),(.int .i64 zn.fLatency.fD),(.func (.func 37) #[] #[(.pointer (some z2L)),(.pointer (some z2M))]),(.slice z2N z2z.length z2O)],fz []] [] [stb z32 79 [(.slice z2A z1W.length z2B),(.int .i64 zn.fRate.fN),(.int .i64 zn.fRate.fD),(.int .i64 zn.fLatency.fN),(.int .i64 zn.fLatency.fD),(.func (.func 37) #[] #[(.pointer (some z2L)),(.pointer (some z2M))]),(.slice z2N z2z.length z2O)],fz []]) .h1); exact w_slices_ContainsFunc_api_Curve_api_Curve (Z:=_) (zbU:=z2A) (zbV:=z2B) (z9R:=67) (zbW:=[]) (z9c:=z1W) (zbT:=(fun (y0 : List z1)=>m_calculus_search_check_1 y0)) (r:=zlm) w pz ((zpK.mono (Zle.left _ _)).weak (fun _ _ h=>p39_mono (Zle.left _ _) h)) Try.call67 (fun w' hz' y0 ga0 gc0 r gh0 hr=>w_calculus_search_check_1 (Z:=_) (zbQ:=ga0) (zbR:=gc0) (z9b:=y0) (r:=r) w' hz' gh0 hr) zwa) ?_
   refine WL.a (d:=19) rfl rfl rfl (q_pickF rfl rfl) ?_
   exact WL.cutEnd () trivial (.cons rfl (.cons (zr zfD) .nil)) (.cons .here (.cons .here .nil))
 ·skip
  refine WL.a (d:=20) rfl rfl rfl (q_m rfl) ?_
  refine WL.cut0 True [(1,(.pointer (some ⟨z32,0,none⟩))),(25,(.bool zlo))] [stb z32 79 [(.slice z2A z1W.length z2B),(.int .i64 zn.fRate.fN),(.int .i64 zn.fRate.fD),(.int .i64 zn.fLatency.fN),(.int .i64 zn.fLatency.fD),(.func (.func 37) #[] #[(.pointer (some z2L)),(.pointer (some z2M))]),(.slice z2N z2z.length z2O)],fz []] 5 ?_ (fun _=>?_)
  ·rcases Bool.eq_false_or_eq_true zhx with hb' | hb'
   ·have zpP:=hb'; clear hb'
    have zlu:=ite_t zpM zpP
    replace zlu:=Option.some.inj zlu
    refine WL.pin (i:=20) rfl zpP ?_
    refine WL.e rfl rfl rfl ?_
    refine WL.e rfl rfl rfl ?_
    refine WL.e rfl rfl rfl ?_
    refine WL.e rfl rfl rfl ?_
    refine WL.a (d:=25) rfl rfl rfl (q_pickT rfl rfl) ?_
    exact WL.cutEnd () trivial (.cons rfl (.cons (zr zlu) .nil)) (.cons .here (.cons .here .nil))
   ·have zpQ:=hb'; clear hb'
    have zfE:=ite_f zpM zpQ
    obtain ⟨zln,zwb,zfE⟩:=zd zfE
    replace zfE:=Option.some.inj zfE
    refine WL.pin (i:=20) rfl zpQ ?_
    refine WL.a (d:=21) rfl rfl rfl (q_fieldAddr fo_79_1 rfl rfl) ?_
    refine WL.a (d:=22) rfl rfl rfl (q_loadA (cs:=[(.int .i64 zn.fRate.fN),(.int .i64 zn.fRate.fD),(.int .i64 zn.fLatency.fN),(.int .i64 zn.fLatency.fD)]) aggT_43 rfl rfl (rd_sub (s:=4) .here rfl)) ?_
    refine WL.b (dd:=23) rfl rfl rfl (zk (l:=[.tmp 22]) Try.call47 (.cons rfl .nil)) (.nil : Sel [stb z32 79 [(.slice z2A z1W.length z2B),(.int .i64 zn.fRate.fN),(.int .i64 zn.fRate.fD),(.int .i64 zn.fLatency.fN),(.int .i64 zn.fLatency.fD),(.func (.func 37) #[] #[(.pointer (some z2L)),(.pointer (some z2M))]),(.slice z2N z2z.length z2O)],fz []] [] [stb z32 79 [(.slice z2A z1W.length z2B),(.int .i64 zn.fRate.fN),(.int .i64 zn.fRate.fD),(.int .i64 zn.fLatency.fN),(.int .i64 zn.fLatency.fD),(.func (.func 37) #[] #[(.pointer (some z2L)),(.pointer (some z2M))]),(.slice z2N z2z.length z2O)],fz []]) (fun w hw=>by have pz:=(hz.call2 hw (.nil : Sel [stb z32 79 [(.slice z2A z1W.length z2B),(.int .i64 zn.fRate.fN),(.int .i64 zn.fRate.fD),(.int .i64 zn.fLatency.fN),(.int .i64 zn.fLatency.fD),(.func (.func 37) #[] #[(.pointer (some z2L)),(.pointer (some z2M))]),(.slice z2N z2z.length z2O)],fz []] [] [stb z32 79 [(.slice z2A z1W.length z2B),(.int .i64 zn.fRate.fN),(.int .i64 zn.fRate.fD),(.int .i64 zn.fLatency.fN),(.int .i64 zn.fLatency.fD),(.func (.func 37) #[] #[(.pointer (some z2L)),(.pointer (some z2M))]),(.slice z2N z2z.length z2O)],fz []]) .h1); exact w_calculus_Valid (Z:=_)  (z11:=zn) (r:=zln) w pz  zwb) ?_
    refine WL.a (d:=24) rfl rfl rfl (q_not rfl) ?_
    refine WL.a (d:=25) rfl rfl rfl (q_pickF rfl rfl) ?_
    exact WL.cutEnd () trivial (.cons rfl (.cons (zr zfE) .nil)) (.cons .here (.cons .here .nil))
  ·skip
   refine WL.nil ?_
   refine WX.a ?_
   refine WC.cond rfl (fun zlv=>?_) (fun zlv=>?_)
   ·replace h:=ite_t h zlv
    refine WC.b ?_
    refine WC.a ?_
    refine WL.a (d:=2) rfl rfl rfl (q_z rfl) ?_
    refine WL.nil ?_
    refine WX.a ?_
    refine WC.ret ?_
    refine WX.thenRet ?_
    obtain rfl:=Option.some.inj h
    refine WX.bpRet Try.results52 (.tmp rfl .nil) (fun w hw=>?_)
    exact ⟨[],ret1 rfl,trivial,hw.sub (.cons .h1 .nil)⟩
   ·replace h:=ite_f h zlv
    refine WC.skip ?_
    refine WX.a ?_
    refine WC.b ?_
    refine WC.a ?_
    refine WL.new (dd:=3) rfl rfl rfl (e_alloc (cs:=[(.int .i64 0)]) zeroT_98 rfl) ?_
    intro z3L _
    refine WL.nil ?_
    refine WX.a ?_
    refine WC.b ?_
    obtain ⟨z9v,zwc,h⟩:=zd h
    refine WC.a ?_
    refine WL.b (dd:=26) rfl rfl rfl (zk (l:=[]) Try.call51 .nil) (.nil : Sel [stb z3L 98 [(.int .i64 0)],stb z32 79 [(.slice z2A z1W.length z2B),(.int .i64 zn.fRate.fN),(.int .i64 zn.fRate.fD),(.int .i64 zn.fLatency.fN),(.int .i64 zn.fLatency.fD),(.func (.func 37) #[] #[(.pointer (some z2L)),(.pointer (some z2M))]),(.slice z2N z2z.length z2O)],fz []] [] [stb z3L 98 [(.int .i64 0)],stb z32 79 [(.slice z2A z1W.length z2B),(.int .i64 zn.fRate.fN),(.int .i64 zn.fRate.fD),(.int .i64 zn.fLatency.fN),(.int .i64 zn.fLatency.fD),(.func (.func 37) #[] #[(.pointer (some z2L)),(.pointer (some z2M))]),(.slice z2N z2z.length z2O)],fz []]) (fun w hw=>by have pz:=(hz.call2 hw (.nil : Sel [stb z3L 98 [(.int .i64 0)],stb z32 79 [(.slice z2A z1W.length z2B),(.int .i64 zn.fRate.fN),(.int .i64 zn.fRate.fD),(.int .i64 zn.fLatency.fN),(.int .i64 zn.fLatency.fD),(.func (.func 37) #[] #[(.pointer (some z2L)),(.pointer (some z2M))]),(.slice z2N z2z.length z2O)],fz []] [] [stb z3L 98 [(.int .i64 0)],stb z32 79 [(.slice z2A z1W.length z2B),(.int .i64 zn.fRate.fN),(.int .i64 zn.fRate.fD),(.int .i64 zn.fLatency.fN),(.int .i64 zn.fLatency.fD),(.func (.func 37) #[] #[(.pointer (some z2L)),(.pointer (some z2M))]),(.slice z2N z2z.length z2O)],fz []]) .h2); exact w_calculus_zero (Z:=_)   (r:=z9v) w pz  zwc) ?_
    refine WL.new (dd:=4) rfl rfl rfl (e_alloc (cs:=[(.int .i64 0),(.int .i64 0)]) zeroT_30 rfl) ?_
    intro z4U _
    refine WL.eff0 rfl rfl (e_store (vs:=[(.int .i64 z9v.fN),(.int .i64 z9v.fD)]) (ds:=[(.int .i64 z9v.fN),(.int .i64 z9v.fD)]) sizT_30 rfl rfl rfl rfl (oc_cons rfl (oc_cons rfl oc_nil)) .here (Nat.le_of_ble_eq_true rfl) rfl) ?_
    refine WL.nil ?_
    refine WX.a ?_
    obtain ⟨zaw,zwd,h⟩:=jp3_elim h
    refine WC.seqMid4 (fun (z7m : Int) (z7n : Int) (z7o : Int) (z8x : Zp)=>(zaw z7m z7n z7o = some r) ∧ (Zle (Z ++ []) (Z ++ z8x))) (fun (z7m : Int) (z7n : Int) (z7o : Int) (z8x : Zp)=>[(1,(.pointer (some ⟨z32,0,none⟩))),(3,(.pointer (some ⟨z3L,0,none⟩))),(4,(.pointer (some ⟨z4U,0,none⟩)))]) (fun (z7m : Int) (z7n : Int) (z7o : Int) (z8x : Zp)=>[fz z8x,stb z32 79 [(.slice z2A z1W.length z2B),(.int .i64 zn.fRate.fN),(.int .i64 zn.fRate.fD),(.int .i64 zn.fLatency.fN),(.int .i64 zn.fLatency.fD),(.func (.func 37) #[] #[(.pointer (some z2L)),(.pointer (some z2M))]),(.slice z2N z2z.length z2O)],stb z3L 98 [(.int .i64 z7m)],stb z4U 30 [(.int .i64 z7n),(.int .i64 z7o)]]) ?_ ?_
    ·skip
     refine WC.b ?_
     refine WC.a ?_
     refine WL.a (d:=27) rfl rfl rfl (q_fieldAddr fo_79_0 rfl rfl) ?_
     refine WL.a (d:=28) rfl rfl rfl (q_load1 oneT_26 rfl (rd_stb .h2 rfl)) ?_
     refine WL.a (d:=29) rfl rfl rfl (q_len Try.underlying26 rfl) ?_
     refine WL.a (d:=30) rfl rfl rfl (q_m rfl) ?_
     refine WL.nil ?_
     refine WX.a ?_
     refine WC.block ?_
     refine WC.loop6 (fun (ze5 : Nat) (z6l : Int) (z48 : Int) (z3T : Int) (z3U : Int) (z4u : Zp)=>(m_calculus_search_checkb_L2 z1W zaw ze5 z6l z48 z3T z3U = some r) ∧ (Zle (Z ++ []) (Z ++ z4u))) (fun (ze5 : Nat) (z6l : Int) (z48 : Int) (z3T : Int) (z3U : Int) (z4u : Zp)=>[(1,(.pointer (some ⟨z32,0,none⟩))),(3,(.pointer (some ⟨z3L,0,none⟩))),(4,(.pointer (some ⟨z4U,0,none⟩))),(28,(.slice z2A z1W.length z2B)),(29,(.int .i64 ((z1W.length : Nat) : Int))),(30,(.int .i64 z6l))]) (fun (ze5 : Nat) (z6l : Int) (z48 : Int) (z3T : Int) (z3U : Int) (z4u : Zp)=>[fz z4u,stb z32 79 [(.slice z2A z1W.length z2B),(.int .i64 zn.fRate.fN),(.int .i64 zn.fRate.fD),(.int .i64 zn.fLatency.fN),(.int .i64 zn.fLatency.fD),(.func (.func 37) #[] #[(.pointer (some z2L)),(.pointer (some z2M))]),(.slice z2N z2z.length z2O)],stb z3L 98 [(.int .i64 z48)],stb z4U 30 [(.int .i64 z3T),(.int .i64 z3U)]]) (fun (ze5 : Nat) (z6l : Int) (z48 : Int) (z3T : Int) (z3U : Int) (z4u : Zp)=>ze5) ⟨FUEL,0,0,z9v.fN,z9v.fD,[]⟩ ⟨h,(Zle.refl _)⟩ (.cons rfl (.cons rfl (.cons rfl (.cons rfl (.cons rfl (.cons rfl .nil)))))) (.cons .h3 (.cons .h2 (.cons .h1 (.cons .here .nil)))) ?_
     rintro ze5 z6l z48 z3T z3U z4u ⟨h,zhy⟩
     obtain ⟨zll,rfl⟩:=m_calculus_search_checkb_L2_fuel h
     rw [m_calculus_search_checkb_L2] at h
     refine WC.b ?_
     refine WC.a ?_
     refine WL.a (d:=31) rfl rfl rfl (q_lss rfl rfl) ?_
     refine WL.nil ?_
     refine WX.a ?_
     refine WC.b ?_
     refine WC.cond rfl (fun zlw=>?_) (fun zlw=>?_)
     ·replace h:=ite_t h zlw
      refine WC.skip ?_
      refine WX.a ?_
      refine WC.b ?_
      refine WC.block ?_
      refine WC.b ?_
      obtain ⟨zwe,h⟩:=chk_elim h
      refine WC.a ?_
      refine WL.znth (dd:=32) rfl rfl (Z:=(Z ++ z4u)) (Pr:=(p39 (Z ++ z4u))) elT_26 rfl rfl ((zpK.mono ((Zle.left _ _).trans zhy)).weak (fun _ _ h=>p39_mono ((Zle.left _ _).trans zhy) h)) zwe ?_
      rintro zAT zAU zwf zAV ⟨zpR,zpS,rfl,zpT⟩
      refine WL.a (d:=33) rfl rfl rfl (q_load1 oneT_39 rfl (rd_z (hz.pv2 .here) zwf rfl)) ?_
      refine WL.a (d:=6) rfl rfl rfl (q_z rfl) ?_
      refine WL.nil ?_
      refine WX.a ?_
      refine WC.b ?_
      refine WC.b ?_
      obtain ⟨z4J,zwg,h⟩:=zd h
      refine WC.a ?_
      refine WL.a (d:=35) rfl rfl rfl (q_m rfl) ?_
      refine WL.enter3 (dd:=36) rfl rfl rfl (zk (l:=[.tmp 35]) Try.call68 (.cons rfl .nil)) (.nil : Sel [fz z4u,stb z32 79 [(.slice z2A z1W.length z2B),(.int .i64 zn.fRate.fN),(.int .i64 zn.fRate.fD),(.int .i64 zn.fLatency.fN),(.int .i64 zn.fLatency.fD),(.func (.func 37) #[] #[(.pointer (some z2L)),(.pointer (some z2M))]),(.slice z2N z2z.length z2O)],stb z3L 98 [(.int .i64 z48)],stb z4U 30 [(.int .i64 z3T),(.int .i64 z3U)]] [] [fz z4u,stb z32 79 [(.slice z2A z1W.length z2B),(.int .i64 zn.fRate.fN),(.int .i64 zn.fRate.fD),(.int .i64 zn.fLatency.fN),(.int .i64 zn.fLatency.fD),(.func (.func 37) #[] #[(.pointer (some z2L)),(.pointer (some z2M))]),(.slice z2N z2z.length z2O)],stb z3L 98 [(.int .i64 z48)],stb z4U 30 [(.int .i64 z3T),(.int .i64 z3U)]]) (fun w hw=>by have pz:=(hz.call2 hw (.nil : Sel [fz z4u,stb z32 79 [(.slice z2A z1W.length z2B),(.int .i64 zn.fRate.fN),(.int .i64 zn.fRate.fD),(.int .i64 zn.fLatency.fN),(.int .i64 zn.fLatency.fD),(.func (.func 37) #[] #[(.pointer (some z2L)),(.pointer (some z2M))]),(.slice z2N z2z.length z2O)],stb z3L 98 [(.int .i64 z48)],stb z4U 30 [(.int .i64 z3T),(.int .i64 z3U)]] [] [fz z4u,stb z32 79 [(.slice z2A z1W.length z2B),(.int .i64 zn.fRate.fN),(.int .i64 zn.fRate.fD),(.int .i64 zn.fLatency.fN),(.int .i64 zn.fLatency.fD),(.func (.func 37) #[] #[(.pointer (some z2L)),(.pointer (some z2M))]),(.slice z2N z2z.length z2O)],stb z3L 98 [(.int .i64 z48)],stb z4U 30 [(.int .i64 z3T),(.int .i64 z3U)]]) .here); exact w_curve_Breaks (Z:=_) (z9j:=zpR) (z9k:=zpS) (z7B:=(nth z1W z6l)) (r:=z4J) w pz zpT zwg) ?_
      rintro z8y z9w z9x _
      refine WL.merge .here .h1 ?_
      refine WL.a (d:=34) rfl rfl rfl (q_m rfl) ?_
      refine WL.a (d:=37) rfl rfl rfl (q_extract rfl rfl) ?_
      refine WL.a (d:=38) rfl rfl rfl (q_extract rfl rfl) ?_
      refine WL.a (d:=7) rfl rfl rfl (q_z rfl) ?_
      refine WL.a (d:=8) rfl rfl rfl (q_z rfl) ?_
      refine WL.nil ?_
      refine WX.a ?_
      refine WC.b ?_
      refine WC.a ?_
      refine WL.a (d:=39) rfl rfl rfl (q_m rfl) ?_
      refine WL.a (d:=40) rfl rfl rfl (q_neq rfl rfl) ?_
      refine WL.nil ?_
      refine WX.a ?_
      refine WC.cond rfl (fun zlx=>?_) (fun zlx=>?_)
      ·replace h:=ite_t h zlx
       refine WC.b ?_
       refine WC.a ?_
       refine WL.a (d:=41) rfl rfl rfl (q_m rfl) ?_
       refine WL.a (d:=2) rfl rfl rfl (q_z rfl) ?_
       refine WL.nil ?_
       refine WX.a ?_
       refine WC.ret ?_
       refine WX.thenRet ?_
       refine WX.blockRet ?_
       refine WX.thenRet ?_
       refine WX.thenRet ?_
       refine WX.blockRet ?_
       refine WX.thenRet ?_
       obtain rfl:=Option.some.inj h
       refine WX.bpRet Try.results52 (.tmp rfl .nil) (fun w hw=>?_)
       exact ⟨(z4u ++ z8y),ret1 rfl,trivial,hw.sub (.cons .here .nil)⟩
      ·replace h:=ite_f h zlx
       refine WC.skip ?_
       refine WX.a ?_
       refine WC.b ?_
       obtain ⟨z5j,zwh,h⟩:=zd h
       refine WC.a ?_
       refine WL.a (d:=43) rfl rfl rfl (q_m rfl) ?_
       refine WL.b (dd:=44) rfl rfl rfl (zk (l:=[.tmp 43]) Try.call21 (.cons rfl .nil)) (.nil : Sel [fz (z4u ++ z8y),row (.slice z9w z4J.1.length z9x) 30 2 (z4J.1.flatMap e30),stb z32 79 [(.slice z2A z1W.length z2B),(.int .i64 zn.fRate.fN),(.int .i64 zn.fRate.fD),(.int .i64 zn.fLatency.fN),(.int .i64 zn.fLatency.fD),(.func (.func 37) #[] #[(.pointer (some z2L)),(.pointer (some z2M))]),(.slice z2N z2z.length z2O)],stb z3L 98 [(.int .i64 z48)],stb z4U 30 [(.int .i64 z3T),(.int .i64 z3U)]] [] [fz (z4u ++ z8y),row (.slice z9w z4J.1.length z9x) 30 2 (z4J.1.flatMap e30),stb z32 79 [(.slice z2A z1W.length z2B),(.int .i64 zn.fRate.fN),(.int .i64 zn.fRate.fD),(.int .i64 zn.fLatency.fN),(.int .i64 zn.fLatency.fD),(.func (.func 37) #[] #[(.pointer (some z2L)),(.pointer (some z2M))]),(.slice z2N z2z.length z2O)],stb z3L 98 [(.int .i64 z48)],stb z4U 30 [(.int .i64 z3T),(.int .i64 z3U)]]) (fun w hw=>by have pz:=(hz.call2 hw (.nil : Sel [fz (z4u ++ z8y),row (.slice z9w z4J.1.length z9x) 30 2 (z4J.1.flatMap e30),stb z32 79 [(.slice z2A z1W.length z2B),(.int .i64 zn.fRate.fN),(.int .i64 zn.fRate.fD),(.int .i64 zn.fLatency.fN),(.int .i64 zn.fLatency.fD),(.func (.func 37) #[] #[(.pointer (some z2L)),(.pointer (some z2M))]),(.slice z2N z2z.length z2O)],stb z3L 98 [(.int .i64 z48)],stb z4U 30 [(.int .i64 z3T),(.int .i64 z3U)]] [] [fz (z4u ++ z8y),row (.slice z9w z4J.1.length z9x) 30 2 (z4J.1.flatMap e30),stb z32 79 [(.slice z2A z1W.length z2B),(.int .i64 zn.fRate.fN),(.int .i64 zn.fRate.fD),(.int .i64 zn.fLatency.fN),(.int .i64 zn.fLatency.fD),(.func (.func 37) #[] #[(.pointer (some z2L)),(.pointer (some z2M))]),(.slice z2N z2z.length z2O)],stb z3L 98 [(.int .i64 z48)],stb z4U 30 [(.int .i64 z3T),(.int .i64 z3U)]]) .here); exact w_curve_Rate (Z:=_) (zb2:=zpR) (zb3:=zpS) (z8h:=(nth z1W z6l)) (r:=z5j) w pz (zpT.mono ((Zle.left _ _).trans (Zle.assoc _ _ _))) zwh) ?_
       refine WL.a (d:=42) rfl rfl rfl (q_m rfl) ?_
       refine WL.a (d:=45) rfl rfl rfl (q_extract rfl rfl) ?_
       refine WL.a (d:=46) rfl rfl rfl (q_extract rfl rfl) ?_
       refine WL.new (dd:=9) rfl rfl rfl (e_alloc (cs:=[(.int .i64 0),(.int .i64 0)]) zeroT_30 rfl) ?_
       intro ze6 _
       refine WL.eff0 rfl rfl (e_store (vs:=[(.int .i64 z5j.1.fN),(.int .i64 z5j.1.fD)]) (ds:=[(.int .i64 z5j.1.fN),(.int .i64 z5j.1.fD)]) sizT_30 rfl rfl rfl rfl (oc_cons rfl (oc_cons rfl oc_nil)) .here (Nat.le_of_ble_eq_true rfl) rfl) ?_
       refine WL.a (d:=10) rfl rfl rfl (q_z rfl) ?_
       refine WL.nil ?_
       refine WX.a ?_
       obtain ⟨z8w,zwi,h⟩:=zd h
       refine WC.a ?_
       refine WL.a (d:=47) rfl rfl rfl (q_loadA (cs:=[(.int .i64 z3T),(.int .i64 z3U)]) aggT_30 rfl rfl (rd_all .h5)) ?_
       refine WL.a (d:=48) rfl rfl rfl (q_loadA (cs:=[(.int .i64 z5j.1.fN),(.int .i64 z5j.1.fD)]) aggT_30 rfl rfl (rd_all .here)) ?_
       refine WL.b (dd:=49) rfl rfl rfl (zk (l:=[.tmp 3,.func 19,.tmp 47,.tmp 48]) Try.call33 (.cons rfl (.cons rfl (.cons rfl (.cons rfl .nil))))) ((.cons .h4 .nil) : Sel [stb ze6 30 [(.int .i64 z5j.1.fN),(.int .i64 z5j.1.fD)],fz (z4u ++ z8y),row (.slice z9w z4J.1.length z9x) 30 2 (z4J.1.flatMap e30),stb z32 79 [(.slice z2A z1W.length z2B),(.int .i64 zn.fRate.fN),(.int .i64 zn.fRate.fD),(.int .i64 zn.fLatency.fN),(.int .i64 zn.fLatency.fD),(.func (.func 37) #[] #[(.pointer (some z2L)),(.pointer (some z2M))]),(.slice z2N z2z.length z2O)],stb z3L 98 [(.int .i64 z48)],stb z4U 30 [(.int .i64 z3T),(.int .i64 z3U)]] [stb z3L 98 [(.int .i64 z48)]] [stb ze6 30 [(.int .i64 z5j.1.fN),(.int .i64 z5j.1.fD)],fz (z4u ++ z8y),row (.slice z9w z4J.1.length z9x) 30 2 (z4J.1.flatMap e30),stb z32 79 [(.slice z2A z1W.length z2B),(.int .i64 zn.fRate.fN),(.int .i64 zn.fRate.fD),(.int .i64 zn.fLatency.fN),(.int .i64 zn.fLatency.fD),(.func (.func 37) #[] #[(.pointer (some z2L)),(.pointer (some z2M))]),(.slice z2N z2z.length z2O)],stb z4U 30 [(.int .i64 z3T),(.int .i64 z3U)]]) (fun w hw=>by have pz:=(hz.call2 hw ((.cons .h4 .nil) : Sel [stb ze6 30 [(.int .i64 z5j.1.fN),(.int .i64 z5j.1.fD)],fz (z4u ++ z8y),row (.slice z9w z4J.1.length z9x) 30 2 (z4J.1.flatMap e30),stb z32 79 [(.slice z2A z1W.length z2B),(.int .i64 zn.fRate.fN),(.int .i64 zn.fRate.fD),(.int .i64 zn.fLatency.fN),(.int .i64 zn.fLatency.fD),(.func (.func 37) #[] #[(.pointer (some z2L)),(.pointer (some z2M))]),(.slice z2N z2z.length z2O)],stb z3L 98 [(.int .i64 z48)],stb z4U 30 [(.int .i64 z3T),(.int .i64 z3U)]] [stb z3L 98 [(.int .i64 z48)]] [stb ze6 30 [(.int .i64 z5j.1.fN),(.int .i64 z5j.1.fD)],fz (z4u ++ z8y),row (.slice z9w z4J.1.length z9x) 30 2 (z4J.1.flatMap e30),stb z32 79 [(.slice z2A z1W.length z2B),(.int .i64 zn.fRate.fN),(.int .i64 zn.fRate.fD),(.int .i64 zn.fLatency.fN),(.int .i64 zn.fLatency.fD),(.func (.func 37) #[] #[(.pointer (some z2L)),(.pointer (some z2M))]),(.slice z2N z2z.length z2O)],stb z4U 30 [(.int .i64 z3T),(.int .i64 z3U)]]) .h1); exact w_calculus_calc_do (Z:=_) (z4h:=z3L) (z75:=19) (z7D:=[]) (z5d:=(⟨z48⟩ : z2j)) (z7V:=(fun (y0 : z2) (y1 : z2)=>m_rat_Add y0 y1)) (z2Y:=(⟨z3T,z3U⟩ : z2)) (z2Z:=z5j.1) (r:=z8w) w pz Try.call19 (fun w' hz' y0 y1  r  hr=>w_rat_Add (Z:=_)  (z3I:=y0) (z3J:=y1) (r:=r) w' hz'  hr) zwi (hw.owns ((.cons .h4 .nil) : Sel [stb ze6 30 [(.int .i64 z5j.1.fN),(.int .i64 z5j.1.fD)],fz (z4u ++ z8y),row (.slice z9w z4J.1.length z9x) 30 2 (z4J.1.flatMap e30),stb z32 79 [(.slice z2A z1W.length z2B),(.int .i64 zn.fRate.fN),(.int .i64 zn.fRate.fD),(.int .i64 zn.fLatency.fN),(.int .i64 zn.fLatency.fD),(.func (.func 37) #[] #[(.pointer (some z2L)),(.pointer (some z2M))]),(.slice z2N z2z.length z2O)],stb z3L 98 [(.int .i64 z48)],stb z4U 30 [(.int .i64 z3T),(.int .i64 z3U)]] [stb z3L 98 [(.int .i64 z48)]] [stb ze6 30 [(.int .i64 z5j.1.fN),(.int .i64 z5j.1.fD)],fz (z4u ++ z8y),row (.slice z9w z4J.1.length z9x) 30 2 (z4J.1.flatMap e30),stb z32 79 [(.slice z2A z1W.length z2B),(.int .i64 zn.fRate.fN),(.int .i64 zn.fRate.fD),(.int .i64 zn.fLatency.fN),(.int .i64 zn.fLatency.fD),(.func (.func 37) #[] #[(.pointer (some z2L)),(.pointer (some z2M))]),(.slice z2N z2z.length z2O)],stb z4U 30 [(.int .i64 z3T),(.int .i64 z3U)]]))) ?_
       refine WL.eff0 rfl rfl (e_store (vs:=[(.int .i64 z8w.1.fN),(.int .i64 z8w.1.fD)]) (ds:=[(.int .i64 z8w.1.fN),(.int .i64 z8w.1.fD)]) sizT_30 rfl rfl rfl rfl (oc_cons rfl (oc_cons rfl oc_nil)) .h5 (Nat.le_of_ble_eq_true rfl) rfl) ?_
       refine WL.nil ?_
       refine WX.blockNormal ?_
       refine WX.a ?_
       refine WC.a ?_
       refine WL.a (d:=50) rfl rfl rfl (q_add rfl rfl rfl) ?_
       refine WL.a (d:=30) rfl rfl rfl (q_m rfl) ?_
       refine WL.nil ?_
       exact WX.round (G:=Nat × Int × Int × Int × Int × Zp) ⟨zll,(i64 (z6l + 1)),z8w.2.fE,z8w.1.fN,z8w.1.fD,(z4u ++ z8y)⟩ ⟨h,(zhy.trans ((Zle.left _ _).trans (Zle.assoc _ _ _)))⟩ (Nat.lt_succ_self _) (.cons rfl (.cons rfl (.cons rfl (.cons rfl (.cons rfl (.cons rfl .nil)))))) (.cons .h3 (.cons .h4 (.cons .h1 (.cons .here .nil))))
     ·replace h:=ite_f h zlw
      refine WC.exit ?_
      refine WX.thenExit ?_
      refine WX.thenExit ?_
      refine WX.blockHit ?_
      exact WX.mid (G:=Int × Int × Int × Zp) ⟨z48,z3T,z3U,z4u⟩ ⟨h,zhy⟩ (.cons rfl (.cons rfl (.cons rfl .nil))) (.cons .here (.cons .here (.cons .here (.cons .here .nil))))
    ·rintro z7m z7n z7o z8x ⟨h,zAW⟩
     replace h:=(zwd z7m z7n z7o).symm.trans h
     refine WC.b ?_
     refine WC.b ?_
     obtain ⟨zlq,zpU,h⟩:=zd h
     refine WC.a ?_
     refine WL.a (d:=51) rfl rfl rfl (q_fieldAddr fo_98_0 rfl rfl) ?_
     refine WL.a (d:=52) rfl rfl rfl (q_load1 oneT_31 rfl (rd_stb .h2 rfl)) ?_
     refine WL.a (d:=53) rfl rfl rfl (q_eql rfl rfl) ?_
     refine WL.a (d:=54) rfl rfl rfl (q_m rfl) ?_
     refine WL.cut0 True [(3,(.pointer (some ⟨z3L,0,none⟩))),(61,(.bool zlq))] [fz z8x,stb z32 79 [(.slice z2A z1W.length z2B),(.int .i64 zn.fRate.fN),(.int .i64 zn.fRate.fD),(.int .i64 zn.fLatency.fN),(.int .i64 zn.fLatency.fD),(.func (.func 37) #[] #[(.pointer (some z2L)),(.pointer (some z2M))]),(.slice z2N z2z.length z2O)],stb z3L 98 [(.int .i64 z7m)],stb z4U 30 [(.int .i64 z7n),(.int .i64 z7o)]] 7 ?_ (fun _=>?_)
     ·rcases Bool.eq_false_or_eq_true (decide (z7m = 0)) with hb' | hb'
      ·have zpV:=hb'; clear hb'
       have zfF:=ite_t zpU zpV
       obtain ⟨zlp,zwj,zfF⟩:=zd zfF
       replace zfF:=Option.some.inj zfF
       refine WL.pin (i:=54) rfl zpV ?_
       refine WL.a (d:=55) rfl rfl rfl (q_loadA (cs:=[(.int .i64 z7n),(.int .i64 z7o)]) aggT_30 rfl rfl (rd_all .h3)) ?_
       refine WL.a (d:=56) rfl rfl rfl (q_fieldAddr fo_79_1 rfl rfl) ?_
       refine WL.a (d:=57) rfl rfl rfl (q_fieldAddr fo_43_0 rfl rfl) ?_
       refine WL.a (d:=58) rfl rfl rfl (q_loadA (cs:=[(.int .i64 zn.fRate.fN),(.int .i64 zn.fRate.fD)]) aggT_30 rfl rfl (rd_sub (s:=2) .h1 rfl)) ?_
       refine WL.b (dd:=59) rfl rfl rfl (zk (l:=[.tmp 55,.tmp 58]) Try.call18 (.cons rfl (.cons rfl .nil))) (.nil : Sel [fz z8x,stb z32 79 [(.slice z2A z1W.length z2B),(.int .i64 zn.fRate.fN),(.int .i64 zn.fRate.fD),(.int .i64 zn.fLatency.fN),(.int .i64 zn.fLatency.fD),(.func (.func 37) #[] #[(.pointer (some z2L)),(.pointer (some z2M))]),(.slice z2N z2z.length z2O)],stb z3L 98 [(.int .i64 z7m)],stb z4U 30 [(.int .i64 z7n),(.int .i64 z7o)]] [] [fz z8x,stb z32 79 [(.slice z2A z1W.length z2B),(.int .i64 zn.fRate.fN),(.int .i64 zn.fRate.fD),(.int .i64 zn.fLatency.fN),(.int .i64 zn.fLatency.fD),(.func (.func 37) #[] #[(.pointer (some z2L)),(.pointer (some z2M))]),(.slice z2N z2z.length z2O)],stb z3L 98 [(.int .i64 z7m)],stb z4U 30 [(.int .i64 z7n),(.int .i64 z7o)]]) (fun w hw=>by have pz:=(hz.call2 hw (.nil : Sel [fz z8x,stb z32 79 [(.slice z2A z1W.length z2B),(.int .i64 zn.fRate.fN),(.int .i64 zn.fRate.fD),(.int .i64 zn.fLatency.fN),(.int .i64 zn.fLatency.fD),(.func (.func 37) #[] #[(.pointer (some z2L)),(.pointer (some z2M))]),(.slice z2N z2z.length z2O)],stb z3L 98 [(.int .i64 z7m)],stb z4U 30 [(.int .i64 z7n),(.int .i64 z7o)]] [] [fz z8x,stb z32 79 [(.slice z2A z1W.length z2B),(.int .i64 zn.fRate.fN),(.int .i64 zn.fRate.fD),(.int .i64 zn.fLatency.fN),(.int .i64 zn.fLatency.fD),(.func (.func 37) #[] #[(.pointer (some z2L)),(.pointer (some z2M))]),(.slice z2N z2z.length z2O)],stb z3L 98 [(.int .i64 z7m)],stb z4U 30 [(.int .i64 z7n),(.int .i64 z7o)]]) .here); exact w_rat_Cmp (Z:=_)  (z2d:=(⟨z7n,z7o⟩ : z2)) (z2e:=zn.fRate) (r:=zlp) w pz  zwj) ?_
       refine WL.a (d:=60) rfl rfl rfl (q_gtr rfl rfl) ?_
       refine WL.a (d:=61) rfl rfl rfl (q_pickT rfl rfl) ?_
       exact WL.cutEnd () trivial (.cons rfl (.cons (zr zfF) .nil)) (.cons .here (.cons .here (.cons .here (.cons .here .nil))))
      ·have zpW:=hb'; clear hb'
       have zly:=ite_f zpU zpW
       replace zly:=Option.some.inj zly
       refine WL.pin (i:=54) rfl zpW ?_
       refine WL.e rfl rfl rfl ?_
       refine WL.e rfl rfl rfl ?_
       refine WL.e rfl rfl rfl ?_
       refine WL.e rfl rfl rfl ?_
       refine WL.e rfl rfl rfl ?_
       refine WL.e rfl rfl rfl ?_
       refine WL.a (d:=61) rfl rfl rfl (q_pickF rfl rfl) ?_
       exact WL.cutEnd () trivial (.cons rfl (.cons (zr zly) .nil)) (.cons .here (.cons .here (.cons .here (.cons .here .nil))))
     ·skip
      refine WL.nil ?_
      refine WX.a ?_
      refine WC.cond rfl (fun zlz=>?_) (fun zlz=>?_)
      ·replace h:=ite_t h zlz
       refine WC.b ?_
       refine WC.a ?_
       refine WL.a (d:=2) rfl rfl rfl (q_z rfl) ?_
       refine WL.nil ?_
       refine WX.a ?_
       refine WC.ret ?_
       refine WX.thenRet ?_
       obtain rfl:=Option.some.inj h
       refine WX.bpRet Try.results52 (.tmp rfl .nil) (fun w hw=>?_)
       exact ⟨z8x,ret1 rfl,trivial,hw.sub (.cons .here .nil)⟩
      ·replace h:=ite_f h zlz
       refine WC.skip ?_
       refine WX.a ?_
       refine WC.b ?_
       refine WC.a ?_
       refine WL.a (d:=62) rfl rfl rfl (q_fieldAddr fo_98_0 rfl rfl) ?_
       refine WL.a (d:=63) rfl rfl rfl (q_load1 oneT_31 rfl (rd_stb .h2 rfl)) ?_
       refine WL.a (d:=2) rfl rfl rfl (q_z rfl) ?_
       refine WL.nil ?_
       refine WX.a ?_
       refine WC.ret ?_
       obtain rfl:=Option.some.inj h
       refine WX.bpRet Try.results52 (.tmp rfl .nil) (fun w hw=>?_)
       exact ⟨z8x,ret1 rfl,trivial,hw.sub (.cons .here .nil)⟩
def m_calculus_search_pointsb (zax : List (List z1)) (z4V : Sapi_Server) (zfG : List (List z1)) (zcG : Sapi_Server) (zay : List z2) : Option (Int × Int × Int × Int) :=
 some (z4V.fRate.fN,z4V.fRate.fD,z4V.fLatency.fN,z4V.fLatency.fD)
set_option maxRecDepth 20000 in
theorem w_calculus_search_pointsb (Z : Zp)  (zcH : Option Addr) (zcI : Nat) (zcJ : Addr) (zlA : Option Addr) (zlB : Nat) (zcK : Addr) (zcL : Option Addr) (zcM : Nat) (zax : List (List z1)) (z4V : Sapi_Server) (zfG : List (List z1)) (zcG : Sapi_Server) (zay : List z2) (r : Int × Int × Int × Int) (w₀ : World) (hz : PZ [] w₀ Z)
  (zAX : ZS Z 1 (p39 Z) zcH zcI zax)
  (zAY : ZS Z 1 (p39 Z) zlA zlB zfG)
  (zAZ : ZC Z zcJ [(.slice zlA zfG.length zlB)])
  (zB0 : ZC Z zcK [(.int .i64 zcG.fRate.fN),(.int .i64 zcG.fRate.fD),(.int .i64 zcG.fLatency.fN),(.int .i64 zcG.fLatency.fD)])
  (zB1 : ZS Z 2 (fun r x=>r = e30 x) zcL zcM zay)
  (h : m_calculus_search_pointsb zax z4V zfG zcG zay = some r) :
  Calls Try.prog 53 #[(.agg #[(.slice zcH zax.length zcI),(.int .i64 z4V.fRate.fN),(.int .i64 z4V.fRate.fD),(.int .i64 z4V.fLatency.fN),(.int .i64 z4V.fLatency.fD),(.func (.func 37) #[] #[(.pointer (some zcJ)),(.pointer (some zcK))]),(.slice zcL zay.length zcM)])] w₀ fun e w'=>∃ zpX : Nat,e = .returned (.func (.func 69) #[] #[(.pointer (some ⟨zpX,0,none⟩))]) ∧ True ∧ Hp [] w₀ w' [stb zpX 79 [(.slice zcH zax.length zcI),(.int .i64 r.1),(.int .i64 r.2.1),(.int .i64 r.2.2.1),(.int .i64 r.2.2.2),(.func (.func 37) #[] #[(.pointer (some zcJ)),(.pointer (some zcK))]),(.slice zcL zay.length zcM)]]:=by
 unfold m_calculus_search_pointsb at h
 refine Calls.ofWC (vs:=[(.agg #[(.slice zcH zax.length zcI),(.int .i64 z4V.fRate.fN),(.int .i64 z4V.fRate.fD),(.int .i64 z4V.fLatency.fN),(.int .i64 z4V.fLatency.fD),(.func (.func 37) #[] #[(.pointer (some zcJ)),(.pointer (some zcK))]),(.slice zcL zay.length zcM)])]) (pre:=[]) (env:=[(0,(.agg #[(.slice zcH zax.length zcI),(.int .i64 z4V.fRate.fN),(.int .i64 z4V.fRate.fD),(.int .i64 z4V.fLatency.fN),(.int .i64 z4V.fLatency.fD),(.func (.func 37) #[] #[(.pointer (some zcJ)),(.pointer (some zcK))]),(.slice zcL zay.length zcM)]))]) Try.func53 rfl Try.ntmps53 rfl (Hp.nil w₀ _) rfl ?_
 refine WC.b ?_
 refine WC.a ?_
 refine WL.new (dd:=1) rfl rfl rfl (e_box (cs:=[(.slice zcH zax.length zcI),(.int .i64 z4V.fRate.fN),(.int .i64 z4V.fRate.fD),(.int .i64 z4V.fLatency.fN),(.int .i64 z4V.fLatency.fD),(.func (.func 37) #[] #[(.pointer (some zcJ)),(.pointer (some zcK))]),(.slice zcL zay.length zcM)]) rfl rfl) ?_
 intro zwk _
 refine WL.a (d:=2) rfl rfl rfl (q_z rfl) ?_
 refine WL.nil ?_
 refine WX.a ?_
 refine WC.b ?_
 refine WC.a ?_
 refine WL.a (d:=3) rfl rfl rfl (q_makeFunc (Eos.caps (l:=[.tmp 1]) (.cons rfl .nil))) ?_
 refine WL.a (d:=2) rfl rfl rfl (q_z rfl) ?_
 refine WL.nil ?_
 refine WX.a ?_
 refine WC.ret ?_
 obtain rfl:=Option.some.inj h
 refine WX.bpRet Try.results53 (.tmp rfl .nil) (fun w hw=>?_)
 exact ⟨zwk,ret1 rfl,trivial,hw.sub (.cons .here .nil)⟩
def m_calculus_search_points_1b_L5 (zB : Type) (zD : List z2 × Int) (z49 : z2 → zB → Option (Bool × zB)) (zaz : zB → Option zB) : Nat → Int → zB → Option zB
 | 0,_,_=>none
 | zlC + 1,z1z,z4K=>if decide (z1z < ((zD.1.length : Nat) : Int)) then chk ((0 : Int) ≤ z1z ∧ z1z < ((zD.1.length : Nat) : Int)) ((m_rat_Floor (⟨((nth zD.1 z1z).fN),((nth zD.1 z1z).fD)⟩ : z2)).bind fun zhz=>(m_calculus_whole zhz).bind fun zhA=>(z49 zhA z4K).bind fun z6m=>(if !z6m.1 then some (true,z6m.2) else (m_rat_Ceil (⟨((nth zD.1 z1z).fN),((nth zD.1 z1z).fD)⟩ : z2)).bind fun zhB=>(m_calculus_whole zhB).bind fun zhC=>(z49 zhC z6m.2).bind fun zfH=>some (!zfH.1,zfH.2)).bind fun zbu=>if zbu.1 then some zbu.2 else m_calculus_search_points_1b_L5 zB zD z49 zaz zlC (i64 (z1z + 1)) zbu.2) else zaz z4K
theorem m_calculus_search_points_1b_L5_fuel {n : Nat} {zB : Type} {zD : List z2 × Int} {z49 : z2 → zB → Option (Bool × zB)} {zaz : zB → Option zB} {z1z : Int} {z4K : zB} {r : zB} (h : m_calculus_search_points_1b_L5 zB zD z49 zaz n z1z z4K = some r) : ∃ m,n = m + 1:=by
 cases n with
 | zero=>cases h
 | succ m=>exact ⟨m,rfl⟩
def m_calculus_search_points_1b_L4 (zB : Type) (z4v : List (List z1)) (z49 : z2 → zB → Option (Bool × zB)) (zaA : zB → Option zB) : Nat → Int → zB → Option zB
 | 0,_,_=>none
 | zlD + 1,z5z,z6n=>if decide (z5z < ((z4v.length : Nat) : Int)) then jp1 (fun (z9y : zB)=>m_calculus_search_points_1b_L4 zB z4v z49 zaA zlD (i64 (z5z + 1)) z9y) fun zlE=>chk ((0 : Int) ≤ z5z ∧ z5z < ((z4v.length : Nat) : Int)) ((m_curve_Breaks (nth z4v z5z)).bind fun zD=>jp1 (fun (z9z : zB)=>zlE z9z) fun zaz=>m_calculus_search_points_1b_L5 zB zD z49 zaz FUEL 0 z6n) else zaA z6n
theorem m_calculus_search_points_1b_L4_fuel {n : Nat} {zB : Type} {z4v : List (List z1)} {z49 : z2 → zB → Option (Bool × zB)} {zaA : zB → Option zB} {z5z : Int} {z6n : zB} {r : zB} (h : m_calculus_search_points_1b_L4 zB z4v z49 zaA n z5z z6n = some r) : ∃ m,n = m + 1:=by
 cases n with
 | zero=>cases h
 | succ m=>exact ⟨m,rfl⟩
def m_calculus_search_points_1b_L6 (zB : Type) (z1p : List z2) (z49 : z2 → zB → Option (Bool × zB)) (zaB : zB → Option zB) : Nat → Int → zB → Option zB
 | 0,_,_=>none
 | zlF + 1,z1A,z4L=>if decide (z1A < ((z1p.length : Nat) : Int)) then chk ((0 : Int) ≤ z1A ∧ z1A < ((z1p.length : Nat) : Int)) ((m_rat_Floor (⟨((nth z1p z1A).fN),((nth z1p z1A).fD)⟩ : z2)).bind fun zhD=>(m_calculus_whole zhD).bind fun zhE=>(z49 zhE z4L).bind fun z6o=>(if !z6o.1 then some (true,z6o.2) else (m_rat_Ceil (⟨((nth z1p z1A).fN),((nth z1p z1A).fD)⟩ : z2)).bind fun zhF=>(m_calculus_whole zhF).bind fun zhG=>(z49 zhG z6o.2).bind fun zfI=>some (!zfI.1,zfI.2)).bind fun zbv=>if zbv.1 then some zbv.2 else m_calculus_search_points_1b_L6 zB z1p z49 zaB zlF (i64 (z1A + 1)) zbv.2) else zaB z4L
theorem m_calculus_search_points_1b_L6_fuel {n : Nat} {zB : Type} {z1p : List z2} {z49 : z2 → zB → Option (Bool × zB)} {zaB : zB → Option zB} {z1A : Int} {z4L : zB} {r : zB} (h : m_calculus_search_points_1b_L6 zB z1p z49 zaB n z1A z4L = some r) : ∃ m,n = m + 1:=by
 cases n with
 | zero=>cases h
 | succ m=>exact ⟨m,rfl⟩
def m_calculus_search_points_1b (zB : Type) (z49 : z2 → zB → Option (Bool × zB)) (s0_30244 : zB) (z4v : List (List z1)) (zcN : Sapi_Server) (zfJ : List (List z1)) (zcO : Sapi_Server) (z1p : List z2) : Option zB :=
 (m_calculus_zero).bind fun zhH=>(z49 zhH s0_30244).bind fun zcP=>if !zcP.1 then some zcP.2 else jp1 (fun (z9A : zB)=>jp1 (fun (zaC : zB)=>some zaC) fun zaB=>m_calculus_search_points_1b_L6 zB z1p z49 zaB FUEL 0 z9A) fun zaA=>m_calculus_search_points_1b_L4 zB z4v z49 zaA FUEL 0 zcP.2
set_option maxRecDepth 20000 in
theorem w_calculus_search_points_1b (Z : Zp) (zB : Type) (z82 : Nat) (z2C : Type) (z1B : z2C → zB → Asrt) (z83 : z2C → zB → Prop) (z7H : z2C) (z94 : Addr) (zbw : Option Addr) (zbx : Nat) (zlG : Addr) (zlH : Option Addr) (zlI : Nat) (zlJ : Addr) (zfK : Option Addr) (zfL : Nat) (z49 : z2 → zB → Option (Bool × zB)) (s0_30244 : zB) (z4v : List (List z1)) (zcN : Sapi_Server) (zfJ : List (List z1)) (zcO : Sapi_Server) (z1p : List z2) (r : zB) (w₀ : World) (hz : PZ (fps [z1B z7H s0_30244]) w₀ Z)
  (zfM : YieldP Try.prog Z z82 (α:=z2) (σ:=zB) (G:=z2C) (H:=Unit) (fun h x=>[(.agg #[(.int .i64 x.fN),(.int .i64 x.fD)])]) (fun h x=>[]) z49 z1B z83)
  (zwl : z83 z7H s0_30244)
  (zwm : ZS Z 1 (p39 Z) zbw zbx z4v)
  (zB2 : ZS Z 1 (p39 Z) zlH zlI zfJ)
  (zB3 : ZC Z zlG [(.slice zlH zfJ.length zlI)])
  (zB4 : ZC Z zlJ [(.int .i64 zcO.fRate.fN),(.int .i64 zcO.fRate.fD),(.int .i64 zcO.fLatency.fN),(.int .i64 zcO.fLatency.fD)])
  (zwn : ZS Z 2 (fun r x=>r = e30 x) zfK zfL z1p)
  (zpY : ZC Z z94 [(.slice zbw z4v.length zbx),(.int .i64 zcN.fRate.fN),(.int .i64 zcN.fRate.fD),(.int .i64 zcN.fLatency.fN),(.int .i64 zcN.fLatency.fD),(.func (.func 37) #[] #[(.pointer (some zlG)),(.pointer (some zlJ))]),(.slice zfK z1p.length zfL)])
  (h : m_calculus_search_points_1b zB z49 s0_30244 z4v zcN zfJ zcO z1p = some r)
  (hown : Hp (fps [z1B z7H s0_30244]) w₀ w₀ [z1B z7H s0_30244]) :
  Calls Try.prog 69 #[(.func (.yield z82) #[] #[]),(.pointer (some z94))] w₀ fun e w'=>∃ Zn : Zp,∃ zpZ : z2C,e = .returned (.tuple #[]) ∧ (z83 zpZ r) ∧ Hp (fps [z1B z7H s0_30244]) w₀ w' [fz Zn,z1B zpZ r]:=by
 unfold m_calculus_search_points_1b at h
 refine Calls.ofWC (vs:=[(.func (.yield z82) #[] #[]),(.pointer (some z94))]) (pre:=[z1B z7H s0_30244]) (env:=[(0,(.func (.yield z82) #[] #[])),(1,(.pointer (some z94)))]) Try.func69 rfl Try.ntmps69 rfl (hown) rfl ?_
 refine WC.pool ?_
 refine WC.b ?_
 refine WC.b ?_
 obtain ⟨zhH,zwo,h⟩:=zd h
 obtain ⟨zcP,zwp,h⟩:=zd h
 refine WC.a ?_
 refine WL.a (d:=11) rfl rfl rfl (q_m rfl) ?_
 refine WL.b (dd:=12) rfl rfl rfl (zk (l:=[]) Try.call51 .nil) (.nil : Sel [fz [],z1B z7H s0_30244] [] [fz [],z1B z7H s0_30244]) (fun w hw=>by have pz:=(hz.call2 hw (.nil : Sel [fz [],z1B z7H s0_30244] [] [fz [],z1B z7H s0_30244]) .here); exact w_calculus_zero (Z:=_)   (r:=zhH) w pz  zwo) ?_
 refine WL.yield (dd:=13) (x:=zhH) (h:=()) (g:=z7H) (s:=s0_30244) (b:=zcP.1) (s':=zcP.2) zfM rfl rfl rfl (.cons rfl .nil) ((.cons .h1 .nil) : Sel _ [z1B z7H s0_30244] _) zwp zwl (fun w hw=>hz.call hw ((.cons .h1 .nil) : Sel _ [z1B z7H s0_30244] _)) ?_
 intro zq0 zq1
 refine WL.a (d:=14) rfl rfl rfl (q_not rfl) ?_
 refine WL.nil ?_
 refine WX.a ?_
 refine WC.cond rfl (fun zlK=>?_) (fun zlK=>?_)
 ·replace h:=ite_t h zlK
  refine WC.ret ?_
  refine WX.thenRet ?_
  obtain rfl:=Option.some.inj h
  refine WX.bpRet Try.results69 .nil (fun w hw=>?_)
  exact ⟨[],zq0,ret0,zq1,hw.sub (.cons .h1 (.cons .here .nil))⟩
 ·replace h:=ite_f h zlK
  refine WC.skip ?_
  refine WX.a ?_
  obtain ⟨zaA,zwq,h⟩:=jp1_elim h
  refine WC.seqMid3 (fun (z9A : zB) (z4a : Zp) (ze7 : z2C)=>(zaA z9A = some r) ∧ (Zle (Z ++ []) (Z ++ z4a)) ∧ (z83 ze7 z9A)) (fun (z9A : zB) (z4a : Zp) (ze7 : z2C)=>[(0,(.func (.yield z82) #[] #[])),(1,(.pointer (some z94)))]) (fun (z9A : zB) (z4a : Zp) (ze7 : z2C)=>[fz z4a,z1B ze7 z9A]) ?_ ?_
  ·skip
   refine WC.b ?_
   refine WC.a ?_
   refine WL.a (d:=15) rfl rfl rfl (q_fieldAddr fo_79_0 rfl rfl) ?_
   refine WL.a (d:=16) rfl rfl rfl (q_load1 oneT_26 rfl (rd_zAt (hz.pv2 .h1) (zpY.mono (Zle.left _ _)) rfl)) ?_
   refine WL.a (d:=17) rfl rfl rfl (q_len Try.underlying26 rfl) ?_
   refine WL.a (d:=18) rfl rfl rfl (q_m rfl) ?_
   refine WL.nil ?_
   refine WX.a ?_
   refine WC.block ?_
   refine WC.loop5 (fun (ze8 : Nat) (z5z : Int) (z6n : zB) (z3i : Zp) (z8z : z2C)=>(m_calculus_search_points_1b_L4 zB z4v z49 zaA ze8 z5z z6n = some r) ∧ (Zle (Z ++ []) (Z ++ z3i)) ∧ (z83 z8z z6n)) (fun (ze8 : Nat) (z5z : Int) (z6n : zB) (z3i : Zp) (z8z : z2C)=>[(0,(.func (.yield z82) #[] #[])),(1,(.pointer (some z94))),(16,(.slice zbw z4v.length zbx)),(17,(.int .i64 ((z4v.length : Nat) : Int))),(18,(.int .i64 z5z))]) (fun (ze8 : Nat) (z5z : Int) (z6n : zB) (z3i : Zp) (z8z : z2C)=>[fz z3i,z1B z8z z6n]) (fun (ze8 : Nat) (z5z : Int) (z6n : zB) (z3i : Zp) (z8z : z2C)=>ze8) ⟨FUEL,0,zcP.2,[],zq0⟩ ⟨h,(Zle.refl _),zq1⟩ (.cons rfl (.cons rfl (.cons rfl (.cons rfl (.cons rfl .nil))))) (.cons .h1 (.cons .here .nil)) ?_
   rintro ze8 z5z z6n z3i z8z ⟨h,zhI,zq2⟩
   obtain ⟨zlD,rfl⟩:=m_calculus_search_points_1b_L4_fuel h
   rw [m_calculus_search_points_1b_L4] at h
   refine WC.b ?_
   refine WC.a ?_
   refine WL.a (d:=19) rfl rfl rfl (q_lss rfl rfl) ?_
   refine WL.nil ?_
   refine WX.a ?_
   refine WC.b ?_
   refine WC.cond rfl (fun zlL=>?_) (fun zlL=>?_)
   ·replace h:=ite_t h zlL
    refine WC.skip ?_
    refine WX.a ?_
    obtain ⟨zlE,zwr,h⟩:=jp1_elim h
    refine WC.seqMid3 (fun (z9y : zB) (ze9 : Zp) (zea : z2C)=>(zlE z9y = some r) ∧ (Zle (Z ++ z3i) (Z ++ ze9)) ∧ (z83 zea z9y)) (fun (z9y : zB) (ze9 : Zp) (zea : z2C)=>[(0,(.func (.yield z82) #[] #[])),(1,(.pointer (some z94))),(16,(.slice zbw z4v.length zbx)),(17,(.int .i64 ((z4v.length : Nat) : Int))),(18,(.int .i64 z5z))]) (fun (z9y : zB) (ze9 : Zp) (zea : z2C)=>[fz ze9,z1B zea z9y]) ?_ ?_
    ·skip
     refine WC.block ?_
     refine WC.b ?_
     obtain ⟨zws,h⟩:=chk_elim h
     refine WC.a ?_
     refine WL.znth (dd:=20) rfl rfl (Z:=(Z ++ z3i)) (Pr:=(p39 (Z ++ z3i))) elT_26 rfl rfl ((zwm.mono ((Zle.left _ _).trans zhI)).weak (fun _ _ h=>p39_mono ((Zle.left _ _).trans zhI) h)) zws ?_
     rintro zB5 zB6 zwt zB7 ⟨zwu,zwv,rfl,zww⟩
     refine WL.a (d:=21) rfl rfl rfl (q_load1 oneT_39 rfl (rd_z (hz.pv2 .here) zwt rfl)) ?_
     refine WL.a (d:=4) rfl rfl rfl (q_z rfl) ?_
     refine WL.nil ?_
     refine WX.a ?_
     refine WC.b ?_
     obtain ⟨zD,zwx,h⟩:=zd h
     refine WC.a ?_
     refine WL.a (d:=23) rfl rfl rfl (q_m rfl) ?_
     refine WL.enter3 (dd:=24) rfl rfl rfl (zk (l:=[.tmp 23]) Try.call68 (.cons rfl .nil)) (.nil : Sel [fz z3i,z1B z8z z6n] [] [fz z3i,z1B z8z z6n]) (fun w hw=>by have pz:=(hz.call2 hw (.nil : Sel [fz z3i,z1B z8z z6n] [] [fz z3i,z1B z8z z6n]) .here); exact w_curve_Breaks (Z:=_) (z9j:=zwu) (z9k:=zwv) (z7B:=(nth z4v z5z)) (r:=zD) w pz zww zwx) ?_
     rintro z5t zwy zwz _
     refine WL.merge .here .h1 ?_
     refine WL.a (d:=22) rfl rfl rfl (q_m rfl) ?_
     refine WL.a (d:=25) rfl rfl rfl (q_extract rfl rfl) ?_
     refine WL.a (d:=26) rfl rfl rfl (q_extract rfl rfl) ?_
     refine WL.a (d:=5) rfl rfl rfl (q_z rfl) ?_
     refine WL.a (d:=6) rfl rfl rfl (q_z rfl) ?_
     refine WL.nil ?_
     refine WX.a ?_
     refine WC.b ?_
     refine WC.a ?_
     refine WL.a (d:=27) rfl rfl rfl (q_m rfl) ?_
     refine WL.a (d:=28) rfl rfl rfl (q_len Try.underlying77 rfl) ?_
     refine WL.a (d:=29) rfl rfl rfl (q_m rfl) ?_
     refine WL.nil ?_
     refine WX.a ?_
     obtain ⟨zaz,zwA,h⟩:=jp1_elim h
     refine WC.mid2 (fun (z9z : zB) (zeb : z2C)=>(zaz z9z = some r) ∧ (z83 zeb z9z)) (fun (z9z : zB) (zeb : z2C)=>[(0,(.func (.yield z82) #[] #[])),(1,(.pointer (some z94))),(16,(.slice zbw z4v.length zbx)),(17,(.int .i64 ((z4v.length : Nat) : Int))),(18,(.int .i64 z5z))]) (fun (z9z : zB) (zeb : z2C)=>[fz (z3i ++ z5t),z1B zeb z9z]) ?_ ?_
     ·skip
      refine WC.block ?_
      refine WC.loop6 (fun (zec : Nat) (z1z : Int) (z4K : zB) (zed : Option Addr) (z4w : Nat) (z6p : z2C)=>(m_calculus_search_points_1b_L5 zB zD z49 zaz zec z1z z4K = some r) ∧ (z83 z6p z4K)) (fun (zec : Nat) (z1z : Int) (z4K : zB) (zed : Option Addr) (z4w : Nat) (z6p : z2C)=>[(0,(.func (.yield z82) #[] #[])),(1,(.pointer (some z94))),(16,(.slice zbw z4v.length zbx)),(17,(.int .i64 ((z4v.length : Nat) : Int))),(18,(.int .i64 z5z)),(27,(.slice zed zD.1.length z4w)),(28,(.int .i64 ((zD.1.length : Nat) : Int))),(29,(.int .i64 z1z))]) (fun (zec : Nat) (z1z : Int) (z4K : zB) (zed : Option Addr) (z4w : Nat) (z6p : z2C)=>[fz (z3i ++ z5t),row (.slice zed zD.1.length z4w) 30 2 (zD.1.flatMap e30),z1B z6p z4K]) (fun (zec : Nat) (z1z : Int) (z4K : zB) (zed : Option Addr) (z4w : Nat) (z6p : z2C)=>zec) ⟨FUEL,0,z6n,zwy,zwz,z8z⟩ ⟨h,zq2⟩ (.cons rfl (.cons rfl (.cons rfl (.cons rfl (.cons rfl (.cons rfl (.cons rfl (.cons rfl .nil)))))))) (.cons .here (.cons .here (.cons .here .nil))) ?_
      rintro zec z1z z4K zed z4w z6p ⟨h,zq3⟩
      obtain ⟨zlC,rfl⟩:=m_calculus_search_points_1b_L5_fuel h
      rw [m_calculus_search_points_1b_L5] at h
      refine WC.b ?_
      refine WC.a ?_
      refine WL.a (d:=30) rfl rfl rfl (q_lss rfl rfl) ?_
      refine WL.nil ?_
      refine WX.a ?_
      refine WC.b ?_
      refine WC.cond rfl (fun zlM=>?_) (fun zlM=>?_)
      ·replace h:=ite_t h zlM
       refine WC.skip ?_
       refine WX.a ?_
       refine WC.b ?_
       refine WC.block ?_
       refine WC.b ?_
       obtain ⟨zfN,h⟩:=chk_elim h
       refine WC.a ?_
       refine WL.know (fun w hw=>Hp.expose .h1 hw (by intro hz'; have:=zfN; rw [hz'] at this; omega)) ?_
       rintro ⟨z5S,rfl⟩
       refine WL.a (d:=31) rfl rfl rfl (q_indexAddr elT_77 rfl rfl zfN.1 zfN.2 rowAdd) ?_
       refine WL.a (d:=32) rfl rfl rfl (q_loadA (cs:=(e30 (nth zD.1 z1z))) aggT_30 rfl rfl (rd_rows .h1 (flat_rd (enc:=e30) (l:=zD.1) (i:=z1z) (sz:=2) (fun _=>rfl) zfN.1 zfN.2))) ?_
       refine WL.new (dd:=8) rfl rfl rfl (e_alloc (cs:=[(.int .i64 0),(.int .i64 0)]) zeroT_30 rfl) ?_
       intro z6M _
       refine WL.eff0 rfl rfl (e_store (vs:=[(.int .i64 ((nth zD.1 z1z).fN)),(.int .i64 ((nth zD.1 z1z).fD))]) (ds:=[(.int .i64 ((nth zD.1 z1z).fN)),(.int .i64 ((nth zD.1 z1z).fD))]) sizT_30 rfl rfl rfl rfl (oc_cons rfl (oc_cons rfl oc_nil)) .here (Nat.le_of_ble_eq_true rfl) rfl) ?_
       refine WL.nil ?_
       refine WX.a ?_
       refine WC.b ?_
       obtain ⟨zhz,zwB,h⟩:=zd h
       obtain ⟨zhA,zwC,h⟩:=zd h
       obtain ⟨z6m,zwD,h⟩:=zd h
       obtain ⟨zbu,zq4,h⟩:=zd h
       refine WC.a ?_
       refine WL.a (d:=33) rfl rfl rfl (q_m rfl) ?_
       refine WL.a (d:=34) rfl rfl rfl (q_loadA (cs:=[(.int .i64 ((nth zD.1 z1z).fN)),(.int .i64 ((nth zD.1 z1z).fD))]) aggT_30 rfl rfl (rd_all .here)) ?_
       refine WL.b (dd:=35) rfl rfl rfl (zk (l:=[.tmp 34]) Try.call70 (.cons rfl .nil)) (.nil : Sel [stb z6M 30 [(.int .i64 ((nth zD.1 z1z).fN)),(.int .i64 ((nth zD.1 z1z).fD))],fz (z3i ++ z5t),row (.slice (some ⟨z5S,0,none⟩) zD.1.length z4w) 30 2 (zD.1.flatMap e30),z1B z6p z4K] [] [stb z6M 30 [(.int .i64 ((nth zD.1 z1z).fN)),(.int .i64 ((nth zD.1 z1z).fD))],fz (z3i ++ z5t),row (.slice (some ⟨z5S,0,none⟩) zD.1.length z4w) 30 2 (zD.1.flatMap e30),z1B z6p z4K]) (fun w hw=>by have pz:=(hz.call2 hw (.nil : Sel [stb z6M 30 [(.int .i64 ((nth zD.1 z1z).fN)),(.int .i64 ((nth zD.1 z1z).fD))],fz (z3i ++ z5t),row (.slice (some ⟨z5S,0,none⟩) zD.1.length z4w) 30 2 (zD.1.flatMap e30),z1B z6p z4K] [] [stb z6M 30 [(.int .i64 ((nth zD.1 z1z).fN)),(.int .i64 ((nth zD.1 z1z).fD))],fz (z3i ++ z5t),row (.slice (some ⟨z5S,0,none⟩) zD.1.length z4w) 30 2 (zD.1.flatMap e30),z1B z6p z4K]) .h1); exact w_rat_Floor (Z:=_)  (z31:=(⟨((nth zD.1 z1z).fN),((nth zD.1 z1z).fD)⟩ : z2)) (r:=zhz) w pz  zwB) ?_
       refine WL.b (dd:=36) rfl rfl rfl (zk (l:=[.tmp 35]) Try.call65 (.cons rfl .nil)) (.nil : Sel [stb z6M 30 [(.int .i64 ((nth zD.1 z1z).fN)),(.int .i64 ((nth zD.1 z1z).fD))],fz (z3i ++ z5t),row (.slice (some ⟨z5S,0,none⟩) zD.1.length z4w) 30 2 (zD.1.flatMap e30),z1B z6p z4K] [] [stb z6M 30 [(.int .i64 ((nth zD.1 z1z).fN)),(.int .i64 ((nth zD.1 z1z).fD))],fz (z3i ++ z5t),row (.slice (some ⟨z5S,0,none⟩) zD.1.length z4w) 30 2 (zD.1.flatMap e30),z1B z6p z4K]) (fun w hw=>by have pz:=(hz.call2 hw (.nil : Sel [stb z6M 30 [(.int .i64 ((nth zD.1 z1z).fN)),(.int .i64 ((nth zD.1 z1z).fD))],fz (z3i ++ z5t),row (.slice (some ⟨z5S,0,none⟩) zD.1.length z4w) 30 2 (zD.1.flatMap e30),z1B z6p z4K] [] [stb z6M 30 [(.int .i64 ((nth zD.1 z1z).fN)),(.int .i64 ((nth zD.1 z1z).fD))],fz (z3i ++ z5t),row (.slice (some ⟨z5S,0,none⟩) zD.1.length z4w) 30 2 (zD.1.flatMap e30),z1B z6p z4K]) .h1); exact w_calculus_whole (Z:=_)  (z63:=zhz) (r:=zhA) w pz  zwC) ?_
       refine WL.yield (dd:=37) (x:=zhA) (h:=()) (g:=z6p) (s:=z4K) (b:=z6m.1) (s':=z6m.2) zfM rfl rfl rfl (.cons rfl .nil) ((.cons .h3 .nil) : Sel _ [z1B z6p z4K] _) zwD zq3 (fun w hw=>hz.call hw ((.cons .h3 .nil) : Sel _ [z1B z6p z4K] _)) ?_
       intro z8A zq5
       refine WL.a (d:=38) rfl rfl rfl (q_not rfl) ?_
       refine WL.a (d:=39) rfl rfl rfl (q_m rfl) ?_
       refine WL.cut1 (fun (zcQ : z2C)=>z83 zcQ zbu.2) (fun (zcQ : z2C)=>[(0,(.func (.yield z82) #[] #[])),(1,(.pointer (some z94))),(16,(.slice zbw z4v.length zbx)),(17,(.int .i64 ((z4v.length : Nat) : Int))),(18,(.int .i64 z5z)),(27,(.slice (some ⟨z5S,0,none⟩) zD.1.length z4w)),(28,(.int .i64 ((zD.1.length : Nat) : Int))),(29,(.int .i64 z1z)),(46,(.bool zbu.1))]) (fun (zcQ : z2C)=>[z1B zcQ zbu.2,stb z6M 30 [(.int .i64 ((nth zD.1 z1z).fN)),(.int .i64 ((nth zD.1 z1z).fD))],fz (z3i ++ z5t),row (.slice (some ⟨z5S,0,none⟩) zD.1.length z4w) 30 2 (zD.1.flatMap e30)]) 7 ?_ (fun zcQ zq6=>?_)
       ·rcases Bool.eq_false_or_eq_true (!z6m.1) with hb' | hb'
        ·have zq7:=hb'; clear hb'
         have zlN:=ite_t zq4 zq7
         replace zlN:=Option.some.inj zlN
         refine WL.pin (i:=39) rfl zq7 ?_
         refine WL.e rfl rfl rfl ?_
         refine WL.e rfl rfl rfl ?_
         refine WL.e rfl rfl rfl ?_
         refine WL.e rfl rfl rfl ?_
         refine WL.e rfl rfl rfl ?_
         refine WL.e rfl rfl rfl ?_
         refine WL.a (d:=46) rfl rfl rfl (q_pickT rfl rfl) ?_
         subst zlN
         exact WL.cutEnd z8A zq5 (.cons rfl (.cons rfl (.cons rfl (.cons rfl (.cons rfl (.cons rfl (.cons rfl (.cons rfl (.cons rfl .nil))))))))) (.cons .here (.cons .here (.cons .here (.cons .here .nil))))
        ·have zq8:=hb'; clear hb'
         have zaD:=ite_f zq4 zq8
         obtain ⟨zhB,zwE,zaD⟩:=zd zaD
         obtain ⟨zhC,zwF,zaD⟩:=zd zaD
         obtain ⟨zfH,zwG,zaD⟩:=zd zaD
         replace zaD:=Option.some.inj zaD
         refine WL.pin (i:=39) rfl zq8 ?_
         refine WL.a (d:=40) rfl rfl rfl (q_m rfl) ?_
         refine WL.a (d:=41) rfl rfl rfl (q_loadA (cs:=[(.int .i64 ((nth zD.1 z1z).fN)),(.int .i64 ((nth zD.1 z1z).fD))]) aggT_30 rfl rfl (rd_all .h1)) ?_
         refine WL.b (dd:=42) rfl rfl rfl (zk (l:=[.tmp 41]) Try.call71 (.cons rfl .nil)) (.nil : Sel [z1B z8A z6m.2,stb z6M 30 [(.int .i64 ((nth zD.1 z1z).fN)),(.int .i64 ((nth zD.1 z1z).fD))],fz (z3i ++ z5t),row (.slice (some ⟨z5S,0,none⟩) zD.1.length z4w) 30 2 (zD.1.flatMap e30)] [] [z1B z8A z6m.2,stb z6M 30 [(.int .i64 ((nth zD.1 z1z).fN)),(.int .i64 ((nth zD.1 z1z).fD))],fz (z3i ++ z5t),row (.slice (some ⟨z5S,0,none⟩) zD.1.length z4w) 30 2 (zD.1.flatMap e30)]) (fun w hw=>by have pz:=(hz.call2 hw (.nil : Sel [z1B z8A z6m.2,stb z6M 30 [(.int .i64 ((nth zD.1 z1z).fN)),(.int .i64 ((nth zD.1 z1z).fD))],fz (z3i ++ z5t),row (.slice (some ⟨z5S,0,none⟩) zD.1.length z4w) 30 2 (zD.1.flatMap e30)] [] [z1B z8A z6m.2,stb z6M 30 [(.int .i64 ((nth zD.1 z1z).fN)),(.int .i64 ((nth zD.1 z1z).fD))],fz (z3i ++ z5t),row (.slice (some ⟨z5S,0,none⟩) zD.1.length z4w) 30 2 (zD.1.flatMap e30)]) .h2); exact w_rat_Ceil (Z:=_)  (z2Q:=(⟨((nth zD.1 z1z).fN),((nth zD.1 z1z).fD)⟩ : z2)) (r:=zhB) w pz  zwE) ?_
         refine WL.b (dd:=43) rfl rfl rfl (zk (l:=[.tmp 42]) Try.call65 (.cons rfl .nil)) (.nil : Sel [z1B z8A z6m.2,stb z6M 30 [(.int .i64 ((nth zD.1 z1z).fN)),(.int .i64 ((nth zD.1 z1z).fD))],fz (z3i ++ z5t),row (.slice (some ⟨z5S,0,none⟩) zD.1.length z4w) 30 2 (zD.1.flatMap e30)] [] [z1B z8A z6m.2,stb z6M 30 [(.int .i64 ((nth zD.1 z1z).fN)),(.int .i64 ((nth zD.1 z1z).fD))],fz (z3i ++ z5t),row (.slice (some ⟨z5S,0,none⟩) zD.1.length z4w) 30 2 (zD.1.flatMap e30)]) (fun w hw=>by have pz:=(hz.call2 hw (.nil : Sel [z1B z8A z6m.2,stb z6M 30 [(.int .i64 ((nth zD.1 z1z).fN)),(.int .i64 ((nth zD.1 z1z).fD))],fz (z3i ++ z5t),row (.slice (some ⟨z5S,0,none⟩) zD.1.length z4w) 30 2 (zD.1.flatMap e30)] [] [z1B z8A z6m.2,stb z6M 30 [(.int .i64 ((nth zD.1 z1z).fN)),(.int .i64 ((nth zD.1 z1z).fD))],fz (z3i ++ z5t),row (.slice (some ⟨z5S,0,none⟩) zD.1.length z4w) 30 2 (zD.1.flatMap e30)]) .h2); exact w_calculus_whole (Z:=_)  (z63:=zhB) (r:=zhC) w pz  zwF) ?_
         refine WL.yield (dd:=44) (x:=zhC) (h:=()) (g:=z8A) (s:=z6m.2) (b:=zfH.1) (s':=zfH.2) zfM rfl rfl rfl (.cons rfl .nil) ((.cons .here .nil) : Sel _ [z1B z8A z6m.2] _) zwG zq5 (fun w hw=>hz.call hw ((.cons .here .nil) : Sel _ [z1B z8A z6m.2] _)) ?_
         intro zwH zwI
         refine WL.a (d:=45) rfl rfl rfl (q_not rfl) ?_
         refine WL.a (d:=46) rfl rfl rfl (q_pickF rfl rfl) ?_
         subst zaD
         exact WL.cutEnd zwH zwI (.cons rfl (.cons rfl (.cons rfl (.cons rfl (.cons rfl (.cons rfl (.cons rfl (.cons rfl (.cons rfl .nil))))))))) (.cons .here (.cons .here (.cons .here (.cons .here .nil))))
       ·skip
        refine WL.nil ?_
        refine WX.a ?_
        refine WC.cond rfl (fun zlO=>?_) (fun zlO=>?_)
        ·replace h:=ite_t h zlO
         refine WC.ret ?_
         refine WX.blockRet ?_
         refine WX.thenRet ?_
         refine WX.thenRet ?_
         refine WX.blockRet ?_
         refine WX.thenRet ?_
         refine WX.blockRet ?_
         refine WX.thenRet ?_
         refine WX.thenRet ?_
         refine WX.blockRet ?_
         refine WX.thenRet ?_
         obtain rfl:=Option.some.inj h
         refine WX.bpRet Try.results69 .nil (fun w hw=>?_)
         exact ⟨(z3i ++ z5t),zcQ,ret0,zq6,hw.sub (.cons .h2 (.cons .here .nil))⟩
        ·replace h:=ite_f h zlO
         refine WC.skip ?_
         refine WX.blockNormal ?_
         refine WX.a ?_
         refine WC.a ?_
         refine WL.a (d:=47) rfl rfl rfl (q_add rfl rfl rfl) ?_
         refine WL.a (d:=29) rfl rfl rfl (q_m rfl) ?_
         refine WL.nil ?_
         exact WX.round (G:=Nat × Int × zB × Option Addr × Nat × z2C) ⟨zlC,(i64 (z1z + 1)),zbu.2,(some ⟨z5S,0,none⟩),z4w,zcQ⟩ ⟨h,zq6⟩ (Nat.lt_succ_self _) (.cons rfl (.cons rfl (.cons rfl (.cons rfl (.cons rfl (.cons rfl (.cons rfl (.cons rfl .nil)))))))) (.cons .h2 (.cons .h2 (.cons .here .nil)))
      ·replace h:=ite_f h zlM
       refine WC.exit ?_
       refine WX.thenExit ?_
       refine WX.thenExit ?_
       refine WX.blockHit ?_
       exact WX.mid (G:=zB × z2C) ⟨z4K,z6p⟩ ⟨h,zq3⟩ (.cons rfl (.cons rfl (.cons rfl (.cons rfl (.cons rfl .nil))))) (.cons .here (.cons .h1 .nil))
     ·rintro z9z zeb ⟨h,zwJ⟩
      replace h:=(zwA z9z).symm.trans h
      refine WX.blockNormal ?_
      exact WX.mid (G:=zB × Zp × z2C) ⟨z9z,(z3i ++ z5t),zeb⟩ ⟨h,((Zle.left _ _).trans (Zle.assoc _ _ _)),zwJ⟩ (.cons rfl (.cons rfl (.cons rfl (.cons rfl (.cons rfl .nil))))) (.cons .here (.cons .here .nil))
    ·rintro z9y ze9 zea ⟨h,zwK,zwL⟩
     replace h:=(zwr z9y).symm.trans h
     refine WC.a ?_
     refine WL.a (d:=48) rfl rfl rfl (q_add rfl rfl rfl) ?_
     refine WL.a (d:=18) rfl rfl rfl (q_m rfl) ?_
     refine WL.nil ?_
     exact WX.round (G:=Nat × Int × zB × Zp × z2C) ⟨zlD,(i64 (z5z + 1)),z9y,ze9,zea⟩ ⟨h,(zhI.trans zwK),zwL⟩ (Nat.lt_succ_self _) (.cons rfl (.cons rfl (.cons rfl (.cons rfl (.cons rfl .nil))))) (.cons .here (.cons .here .nil))
   ·replace h:=ite_f h zlL
    refine WC.exit ?_
    refine WX.thenExit ?_
    refine WX.thenExit ?_
    refine WX.blockHit ?_
    exact WX.mid (G:=zB × Zp × z2C) ⟨z6n,z3i,z8z⟩ ⟨h,zhI,zq2⟩ (.cons rfl (.cons rfl .nil)) (.cons .here (.cons .here .nil))
  ·rintro z9A z4a ze7 ⟨h,zq9,zwM⟩
   replace h:=(zwq z9A).symm.trans h
   refine WC.b ?_
   refine WC.a ?_
   refine WL.a (d:=49) rfl rfl rfl (q_fieldAddr fo_79_3 rfl rfl) ?_
   refine WL.a (d:=50) rfl rfl rfl (q_load1 oneT_77 rfl (rd_zAt (hz.pv2 .here) (zpY.mono ((Zle.left _ _).trans zq9)) rfl)) ?_
   refine WL.a (d:=51) rfl rfl rfl (q_len Try.underlying77 rfl) ?_
   refine WL.a (d:=52) rfl rfl rfl (q_m rfl) ?_
   refine WL.nil ?_
   refine WX.a ?_
   obtain ⟨zaB,zwN,h⟩:=jp1_elim h
   refine WC.mid2 (fun (zaC : zB) (zee : z2C)=>(zaB zaC = some r) ∧ (z83 zee zaC)) (fun (zaC : zB) (zee : z2C)=>[]) (fun (zaC : zB) (zee : z2C)=>[fz z4a,z1B zee zaC]) ?_ ?_
   ·skip
    refine WC.block ?_
    refine WC.loop4 (fun (zef : Nat) (z1A : Int) (z4L : zB) (z6q : z2C)=>(m_calculus_search_points_1b_L6 zB z1p z49 zaB zef z1A z4L = some r) ∧ (z83 z6q z4L)) (fun (zef : Nat) (z1A : Int) (z4L : zB) (z6q : z2C)=>[(0,(.func (.yield z82) #[] #[])),(50,(.slice zfK z1p.length zfL)),(51,(.int .i64 ((z1p.length : Nat) : Int))),(52,(.int .i64 z1A))]) (fun (zef : Nat) (z1A : Int) (z4L : zB) (z6q : z2C)=>[fz z4a,z1B z6q z4L]) (fun (zef : Nat) (z1A : Int) (z4L : zB) (z6q : z2C)=>zef) ⟨FUEL,0,z9A,ze7⟩ ⟨h,zwM⟩ (.cons rfl (.cons rfl (.cons rfl (.cons rfl .nil)))) (.cons .here (.cons .here .nil)) ?_
    rintro zef z1A z4L z6q ⟨h,zqa⟩
    obtain ⟨zlF,rfl⟩:=m_calculus_search_points_1b_L6_fuel h
    rw [m_calculus_search_points_1b_L6] at h
    refine WC.b ?_
    refine WC.a ?_
    refine WL.a (d:=53) rfl rfl rfl (q_lss rfl rfl) ?_
    refine WL.nil ?_
    refine WX.a ?_
    refine WC.b ?_
    refine WC.cond rfl (fun zlP=>?_) (fun zlP=>?_)
    ·replace h:=ite_t h zlP
     refine WC.skip ?_
     refine WX.a ?_
     refine WC.b ?_
     refine WC.block ?_
     refine WC.b ?_
     obtain ⟨zwO,h⟩:=chk_elim h
     refine WC.a ?_
     refine WL.znth (dd:=54) rfl rfl (Z:=(Z ++ z4a)) (Pr:=(fun r x=>r = e30 x)) elT_77 rfl rfl (zwn.mono ((Zle.left _ _).trans zq9)) zwO ?_
     rintro zB8 zB9 zwP zBa rfl
     refine WL.a (d:=55) rfl rfl rfl (q_loadA (cs:=[(.int .i64 ((nth z1p z1A).fN)),(.int .i64 ((nth z1p z1A).fD))]) aggT_30 rfl rfl (rd_zs (hz.pv2 .here) zwP)) ?_
     refine WL.new (dd:=10) rfl rfl rfl (e_alloc (cs:=[(.int .i64 0),(.int .i64 0)]) zeroT_30 rfl) ?_
     intro z6N _
     refine WL.eff0 rfl rfl (e_store (vs:=[(.int .i64 ((nth z1p z1A).fN)),(.int .i64 ((nth z1p z1A).fD))]) (ds:=[(.int .i64 ((nth z1p z1A).fN)),(.int .i64 ((nth z1p z1A).fD))]) sizT_30 rfl rfl rfl rfl (oc_cons rfl (oc_cons rfl oc_nil)) .here (Nat.le_of_ble_eq_true rfl) rfl) ?_
     refine WL.nil ?_
     refine WX.a ?_
     refine WC.b ?_
     obtain ⟨zhD,zwQ,h⟩:=zd h
     obtain ⟨zhE,zwR,h⟩:=zd h
     obtain ⟨z6o,zwS,h⟩:=zd h
     obtain ⟨zbv,zqb,h⟩:=zd h
     refine WC.a ?_
     refine WL.a (d:=56) rfl rfl rfl (q_m rfl) ?_
     refine WL.a (d:=57) rfl rfl rfl (q_loadA (cs:=[(.int .i64 ((nth z1p z1A).fN)),(.int .i64 ((nth z1p z1A).fD))]) aggT_30 rfl rfl (rd_all .here)) ?_
     refine WL.b (dd:=58) rfl rfl rfl (zk (l:=[.tmp 57]) Try.call70 (.cons rfl .nil)) (.nil : Sel [stb z6N 30 [(.int .i64 ((nth z1p z1A).fN)),(.int .i64 ((nth z1p z1A).fD))],fz z4a,z1B z6q z4L] [] [stb z6N 30 [(.int .i64 ((nth z1p z1A).fN)),(.int .i64 ((nth z1p z1A).fD))],fz z4a,z1B z6q z4L]) (fun w hw=>by have pz:=(hz.call2 hw (.nil : Sel [stb z6N 30 [(.int .i64 ((nth z1p z1A).fN)),(.int .i64 ((nth z1p z1A).fD))],fz z4a,z1B z6q z4L] [] [stb z6N 30 [(.int .i64 ((nth z1p z1A).fN)),(.int .i64 ((nth z1p z1A).fD))],fz z4a,z1B z6q z4L]) .h1); exact w_rat_Floor (Z:=_)  (z31:=(⟨((nth z1p z1A).fN),((nth z1p z1A).fD)⟩ : z2)) (r:=zhD) w pz  zwQ) ?_
     refine WL.b (dd:=59) rfl rfl rfl (zk (l:=[.tmp 58]) Try.call65 (.cons rfl .nil)) (.nil : Sel [stb z6N 30 [(.int .i64 ((nth z1p z1A).fN)),(.int .i64 ((nth z1p z1A).fD))],fz z4a,z1B z6q z4L] [] [stb z6N 30 [(.int .i64 ((nth z1p z1A).fN)),(.int .i64 ((nth z1p z1A).fD))],fz z4a,z1B z6q z4L]) (fun w hw=>by have pz:=(hz.call2 hw (.nil : Sel [stb z6N 30 [(.int .i64 ((nth z1p z1A).fN)),(.int .i64 ((nth z1p z1A).fD))],fz z4a,z1B z6q z4L] [] [stb z6N 30 [(.int .i64 ((nth z1p z1A).fN)),(.int .i64 ((nth z1p z1A).fD))],fz z4a,z1B z6q z4L]) .h1); exact w_calculus_whole (Z:=_)  (z63:=zhD) (r:=zhE) w pz  zwR) ?_
     refine WL.yield (dd:=60) (x:=zhE) (h:=()) (g:=z6q) (s:=z4L) (b:=z6o.1) (s':=z6o.2) zfM rfl rfl rfl (.cons rfl .nil) ((.cons .h2 .nil) : Sel _ [z1B z6q z4L] _) zwS zqa (fun w hw=>hz.call hw ((.cons .h2 .nil) : Sel _ [z1B z6q z4L] _)) ?_
     intro z8B zqc
     refine WL.a (d:=61) rfl rfl rfl (q_not rfl) ?_
     refine WL.a (d:=62) rfl rfl rfl (q_m rfl) ?_
     refine WL.cut1 (fun (zcR : z2C)=>z83 zcR zbv.2) (fun (zcR : z2C)=>[(0,(.func (.yield z82) #[] #[])),(50,(.slice zfK z1p.length zfL)),(51,(.int .i64 ((z1p.length : Nat) : Int))),(52,(.int .i64 z1A)),(69,(.bool zbv.1))]) (fun (zcR : z2C)=>[z1B zcR zbv.2,stb z6N 30 [(.int .i64 ((nth z1p z1A).fN)),(.int .i64 ((nth z1p z1A).fD))],fz z4a]) 7 ?_ (fun zcR zqd=>?_)
     ·rcases Bool.eq_false_or_eq_true (!z6o.1) with hb' | hb'
      ·have zqe:=hb'; clear hb'
       have zlQ:=ite_t zqb zqe
       replace zlQ:=Option.some.inj zlQ
       refine WL.pin (i:=62) rfl zqe ?_
       refine WL.e rfl rfl rfl ?_
       refine WL.e rfl rfl rfl ?_
       refine WL.e rfl rfl rfl ?_
       refine WL.e rfl rfl rfl ?_
       refine WL.e rfl rfl rfl ?_
       refine WL.e rfl rfl rfl ?_
       refine WL.a (d:=69) rfl rfl rfl (q_pickT rfl rfl) ?_
       subst zlQ
       exact WL.cutEnd z8B zqc (.cons rfl (.cons rfl (.cons rfl (.cons rfl (.cons rfl .nil))))) (.cons .here (.cons .here (.cons .here .nil)))
      ·have zqf:=hb'; clear hb'
       have zaE:=ite_f zqb zqf
       obtain ⟨zhF,zwT,zaE⟩:=zd zaE
       obtain ⟨zhG,zwU,zaE⟩:=zd zaE
       obtain ⟨zfI,zwV,zaE⟩:=zd zaE
       replace zaE:=Option.some.inj zaE
       refine WL.pin (i:=62) rfl zqf ?_
       refine WL.a (d:=63) rfl rfl rfl (q_m rfl) ?_
       refine WL.a (d:=64) rfl rfl rfl (q_loadA (cs:=[(.int .i64 ((nth z1p z1A).fN)),(.int .i64 ((nth z1p z1A).fD))]) aggT_30 rfl rfl (rd_all .h1)) ?_
       refine WL.b (dd:=65) rfl rfl rfl (zk (l:=[.tmp 64]) Try.call71 (.cons rfl .nil)) (.nil : Sel [z1B z8B z6o.2,stb z6N 30 [(.int .i64 ((nth z1p z1A).fN)),(.int .i64 ((nth z1p z1A).fD))],fz z4a] [] [z1B z8B z6o.2,stb z6N 30 [(.int .i64 ((nth z1p z1A).fN)),(.int .i64 ((nth z1p z1A).fD))],fz z4a]) (fun w hw=>by have pz:=(hz.call2 hw (.nil : Sel [z1B z8B z6o.2,stb z6N 30 [(.int .i64 ((nth z1p z1A).fN)),(.int .i64 ((nth z1p z1A).fD))],fz z4a] [] [z1B z8B z6o.2,stb z6N 30 [(.int .i64 ((nth z1p z1A).fN)),(.int .i64 ((nth z1p z1A).fD))],fz z4a]) .h2); exact w_rat_Ceil (Z:=_)  (z2Q:=(⟨((nth z1p z1A).fN),((nth z1p z1A).fD)⟩ : z2)) (r:=zhF) w pz  zwT) ?_
       refine WL.b (dd:=66) rfl rfl rfl (zk (l:=[.tmp 65]) Try.call65 (.cons rfl .nil)) (.nil : Sel [z1B z8B z6o.2,stb z6N 30 [(.int .i64 ((nth z1p z1A).fN)),(.int .i64 ((nth z1p z1A).fD))],fz z4a] [] [z1B z8B z6o.2,stb z6N 30 [(.int .i64 ((nth z1p z1A).fN)),(.int .i64 ((nth z1p z1A).fD))],fz z4a]) (fun w hw=>by have pz:=(hz.call2 hw (.nil : Sel [z1B z8B z6o.2,stb z6N 30 [(.int .i64 ((nth z1p z1A).fN)),(.int .i64 ((nth z1p z1A).fD))],fz z4a] [] [z1B z8B z6o.2,stb z6N 30 [(.int .i64 ((nth z1p z1A).fN)),(.int .i64 ((nth z1p z1A).fD))],fz z4a]) .h2); exact w_calculus_whole (Z:=_)  (z63:=zhF) (r:=zhG) w pz  zwU) ?_
       refine WL.yield (dd:=67) (x:=zhG) (h:=()) (g:=z8B) (s:=z6o.2) (b:=zfI.1) (s':=zfI.2) zfM rfl rfl rfl (.cons rfl .nil) ((.cons .here .nil) : Sel _ [z1B z8B z6o.2] _) zwV zqc (fun w hw=>hz.call hw ((.cons .here .nil) : Sel _ [z1B z8B z6o.2] _)) ?_
       intro zwW zwX
       refine WL.a (d:=68) rfl rfl rfl (q_not rfl) ?_
       refine WL.a (d:=69) rfl rfl rfl (q_pickF rfl rfl) ?_
       subst zaE
       exact WL.cutEnd zwW zwX (.cons rfl (.cons rfl (.cons rfl (.cons rfl (.cons rfl .nil))))) (.cons .here (.cons .here (.cons .here .nil)))
     ·skip
      refine WL.nil ?_
      refine WX.a ?_
      refine WC.cond rfl (fun zlR=>?_) (fun zlR=>?_)
      ·replace h:=ite_t h zlR
       refine WC.ret ?_
       refine WX.blockRet ?_
       refine WX.thenRet ?_
       refine WX.thenRet ?_
       refine WX.blockRet ?_
       refine WX.thenRet ?_
       obtain rfl:=Option.some.inj h
       refine WX.bpRet Try.results69 .nil (fun w hw=>?_)
       exact ⟨z4a,zcR,ret0,zqd,hw.sub (.cons .h2 (.cons .here .nil))⟩
      ·replace h:=ite_f h zlR
       refine WC.skip ?_
       refine WX.blockNormal ?_
       refine WX.a ?_
       refine WC.a ?_
       refine WL.a (d:=70) rfl rfl rfl (q_add rfl rfl rfl) ?_
       refine WL.a (d:=52) rfl rfl rfl (q_m rfl) ?_
       refine WL.nil ?_
       exact WX.round (G:=Nat × Int × zB × z2C) ⟨zlF,(i64 (z1A + 1)),zbv.2,zcR⟩ ⟨h,zqd⟩ (Nat.lt_succ_self _) (.cons rfl (.cons rfl (.cons rfl (.cons rfl .nil)))) (.cons .h2 (.cons .here .nil))
    ·replace h:=ite_f h zlP
     refine WC.exit ?_
     refine WX.thenExit ?_
     refine WX.thenExit ?_
     refine WX.blockHit ?_
     exact WX.mid (G:=zB × z2C) ⟨z4L,z6q⟩ ⟨h,zqa⟩ .nil (.cons .here (.cons .here .nil))
   ·rintro zaC zee ⟨h,zwY⟩
    replace h:=(zwN zaC).symm.trans h
    obtain rfl:=Option.some.inj h
    refine WX.bpNormal Try.results69 .nil (fun w hw=>?_)
    exact ⟨z4a,zee,ret0,zwY,hw.sub (.cons .here (.cons .here .nil))⟩
def m_calculus_Backlog_1 (z7c : z2j) (z13 : z2) (zcS : List (List z1)) (z5T : Sapi_Server) : Option (z2 × z2j) :=
 (m_calculus_calc_total z7c zcS z13).bind fun z1c=>(m_rat_Cmp z13 z5T.fLatency).bind fun zlS=>if decide (zlS ≤ 0) then some (z1c.1,z1c.2) else (m_calculus_calc_do z1c.2 (fun (y0 : z2) (y1 : z2)=>m_rat_Sub y0 y1) z13 z5T.fLatency).bind fun z8C=>(m_calculus_calc_do z8C.2 (fun (y0 : z2) (y1 : z2)=>m_rat_Mul y0 y1) z5T.fRate z8C.1).bind fun z8D=>(m_calculus_calc_do z8D.2 (fun (y0 : z2) (y1 : z2)=>m_rat_Sub y0 y1) z1c.1 z8D.1).bind fun zby=>some (zby.1,zby.2)
set_option maxRecDepth 20000 in
theorem w_calculus_Backlog_1 (Z : Zp)  (z2D : Nat) (zfO : Addr) (zhJ : Option Addr) (zhK : Nat) (zfP : Addr) (z7c : z2j) (z13 : z2) (zcS : List (List z1)) (z5T : Sapi_Server) (r : z2 × z2j) (w₀ : World) (hz : PZ (fps [stb z2D 98 [(.int .i64 z7c.fE)]]) w₀ Z)
  (zwZ : ZS Z 1 (p39 Z) zhJ zhK zcS)
  (zx0 : ZC Z zfO [(.slice zhJ zcS.length zhK)])
  (zlT : ZC Z zfP [(.int .i64 z5T.fRate.fN),(.int .i64 z5T.fRate.fD),(.int .i64 z5T.fLatency.fN),(.int .i64 z5T.fLatency.fD)])
  (h : m_calculus_Backlog_1 z7c z13 zcS z5T = some r)
  (hown : Hp (fps [stb z2D 98 [(.int .i64 z7c.fE)]]) w₀ w₀ [stb z2D 98 [(.int .i64 z7c.fE)]]) :
  Calls Try.prog 37 #[(.pointer (some ⟨z2D,0,none⟩)),(.agg #[(.int .i64 z13.fN),(.int .i64 z13.fD)]),(.pointer (some zfO)),(.pointer (some zfP))] w₀ fun e w'=>e = .returned (.agg #[(.int .i64 r.1.fN),(.int .i64 r.1.fD)]) ∧ Hp (fps [stb z2D 98 [(.int .i64 z7c.fE)]]) w₀ w' [stb z2D 98 [(.int .i64 r.2.fE)]]:=by
 unfold m_calculus_Backlog_1 at h
 refine Calls.ofWC (vs:=[(.pointer (some ⟨z2D,0,none⟩)),(.agg #[(.int .i64 z13.fN),(.int .i64 z13.fD)]),(.pointer (some zfO)),(.pointer (some zfP))]) (pre:=[stb z2D 98 [(.int .i64 z7c.fE)]]) (env:=[(0,(.pointer (some ⟨z2D,0,none⟩))),(1,(.agg #[(.int .i64 z13.fN),(.int .i64 z13.fD)])),(2,(.pointer (some zfO))),(3,(.pointer (some zfP)))]) Try.func37 rfl Try.ntmps37 rfl (hown) rfl ?_
 refine WC.b ?_
 refine WC.a ?_
 refine WL.new (dd:=5) rfl rfl rfl (e_box (cs:=[(.int .i64 z13.fN),(.int .i64 z13.fD)]) rfl rfl) ?_
 intro z3V _
 refine WL.new (dd:=6) rfl rfl rfl (e_alloc (cs:=[(.int .i64 0),(.int .i64 0)]) zeroT_30 rfl) ?_
 intro z3W _
 refine WL.nil ?_
 refine WX.a ?_
 refine WC.b ?_
 obtain ⟨z1c,zx1,h⟩:=zd h
 refine WC.a ?_
 refine WL.a (d:=8) rfl rfl rfl (q_m rfl) ?_
 refine WL.a (d:=9) rfl rfl rfl (q_load1 oneT_26 rfl (rd_z hz.pv zx0 rfl)) ?_
 refine WL.a (d:=10) rfl rfl rfl (q_loadA (cs:=[(.int .i64 z13.fN),(.int .i64 z13.fD)]) aggT_30 rfl rfl (rd_all .h1)) ?_
 refine WL.b (dd:=11) rfl rfl rfl (zk (l:=[.tmp 8,.tmp 9,.tmp 10]) Try.call35 (.cons rfl (.cons rfl (.cons rfl .nil)))) ((.cons .h2 .nil) : Sel [stb z3W 30 [(.int .i64 0),(.int .i64 0)],stb z3V 30 [(.int .i64 z13.fN),(.int .i64 z13.fD)],stb z2D 98 [(.int .i64 z7c.fE)]] [stb z2D 98 [(.int .i64 z7c.fE)]] [stb z3W 30 [(.int .i64 0),(.int .i64 0)],stb z3V 30 [(.int .i64 z13.fN),(.int .i64 z13.fD)]]) (fun w hw=>by have pz:=(hz.call hw ((.cons .h2 .nil) : Sel [stb z3W 30 [(.int .i64 0),(.int .i64 0)],stb z3V 30 [(.int .i64 z13.fN),(.int .i64 z13.fD)],stb z2D 98 [(.int .i64 z7c.fE)]] [stb z2D 98 [(.int .i64 z7c.fE)]] [stb z3W 30 [(.int .i64 0),(.int .i64 0)],stb z3V 30 [(.int .i64 z13.fN),(.int .i64 z13.fD)]])); exact w_calculus_calc_total (Z:=_) (z3u:=z2D) (zbo:=zhJ) (zbp:=zhK) (z7k:=z7c) (z5f:=zcS) (z28:=z13) (r:=z1c) w pz zwZ zx1 (hw.owns ((.cons .h2 .nil) : Sel [stb z3W 30 [(.int .i64 0),(.int .i64 0)],stb z3V 30 [(.int .i64 z13.fN),(.int .i64 z13.fD)],stb z2D 98 [(.int .i64 z7c.fE)]] [stb z2D 98 [(.int .i64 z7c.fE)]] [stb z3W 30 [(.int .i64 0),(.int .i64 0)],stb z3V 30 [(.int .i64 z13.fN),(.int .i64 z13.fD)]]))) ?_
 refine WL.new (dd:=7) rfl rfl rfl (e_alloc (cs:=[(.int .i64 0),(.int .i64 0)]) zeroT_30 rfl) ?_
 intro z4W _
 refine WL.eff0 rfl rfl (e_store (vs:=[(.int .i64 z1c.1.fN),(.int .i64 z1c.1.fD)]) (ds:=[(.int .i64 z1c.1.fN),(.int .i64 z1c.1.fD)]) sizT_30 rfl rfl rfl rfl (oc_cons rfl (oc_cons rfl oc_nil)) .here (Nat.le_of_ble_eq_true rfl) rfl) ?_
 refine WL.nil ?_
 refine WX.a ?_
 refine WC.b ?_
 refine WC.b ?_
 obtain ⟨zlS,zx2,h⟩:=zd h
 refine WC.a ?_
 refine WL.a (d:=12) rfl rfl rfl (q_loadA (cs:=[(.int .i64 z13.fN),(.int .i64 z13.fD)]) aggT_30 rfl rfl (rd_all .h3)) ?_
 refine WL.a (d:=13) rfl rfl rfl (q_fieldAddr fo_43_1 rfl rfl) ?_
 refine WL.a (d:=14) rfl rfl rfl (q_loadA (cs:=[(.int .i64 z5T.fLatency.fN),(.int .i64 z5T.fLatency.fD)]) aggT_30 rfl rfl (rd_zsub (off:=2) (s:=2) hz.pv zlT rfl)) ?_
 refine WL.b (dd:=15) rfl rfl rfl (zk (l:=[.tmp 12,.tmp 14]) Try.call18 (.cons rfl (.cons rfl .nil))) (.nil : Sel [stb z4W 30 [(.int .i64 z1c.1.fN),(.int .i64 z1c.1.fD)],stb z2D 98 [(.int .i64 z1c.2.fE)],stb z3W 30 [(.int .i64 0),(.int .i64 0)],stb z3V 30 [(.int .i64 z13.fN),(.int .i64 z13.fD)]] [] [stb z4W 30 [(.int .i64 z1c.1.fN),(.int .i64 z1c.1.fD)],stb z2D 98 [(.int .i64 z1c.2.fE)],stb z3W 30 [(.int .i64 0),(.int .i64 0)],stb z3V 30 [(.int .i64 z13.fN),(.int .i64 z13.fD)]]) (fun w hw=>by have pz:=(hz.call hw (.nil : Sel [stb z4W 30 [(.int .i64 z1c.1.fN),(.int .i64 z1c.1.fD)],stb z2D 98 [(.int .i64 z1c.2.fE)],stb z3W 30 [(.int .i64 0),(.int .i64 0)],stb z3V 30 [(.int .i64 z13.fN),(.int .i64 z13.fD)]] [] [stb z4W 30 [(.int .i64 z1c.1.fN),(.int .i64 z1c.1.fD)],stb z2D 98 [(.int .i64 z1c.2.fE)],stb z3W 30 [(.int .i64 0),(.int .i64 0)],stb z3V 30 [(.int .i64 z13.fN),(.int .i64 z13.fD)]])); exact w_rat_Cmp (Z:=_)  (z2d:=z13) (z2e:=z5T.fLatency) (r:=zlS) w pz  zx2) ?_
 refine WL.a (d:=16) rfl rfl rfl (q_leq rfl rfl) ?_
 refine WL.nil ?_
 refine WX.a ?_
 refine WC.cond rfl (fun zlU=>?_) (fun zlU=>?_)
 ·replace h:=ite_t h zlU
  refine WC.b ?_
  refine WC.a ?_
  refine WL.a (d:=17) rfl rfl rfl (q_loadA (cs:=[(.int .i64 z1c.1.fN),(.int .i64 z1c.1.fD)]) aggT_30 rfl rfl (rd_all .here)) ?_
  refine WL.eff0 rfl rfl (e_store (vs:=[(.int .i64 z1c.1.fN),(.int .i64 z1c.1.fD)]) (ds:=[(.int .i64 z1c.1.fN),(.int .i64 z1c.1.fD)]) sizT_30 rfl rfl rfl rfl (oc_cons rfl (oc_cons rfl oc_nil)) .h2 (Nat.le_of_ble_eq_true rfl) rfl) ?_
  refine WL.nil ?_
  refine WX.a ?_
  refine WC.ret ?_
  refine WX.thenRet ?_
  obtain rfl:=Option.some.inj h
  refine WX.bpRet Try.results37 (.agg rfl aggT_30 rfl (rd_all .here) .nil) (fun w hw=>?_)
  exact ⟨ret1 rfl,hw.sub (.cons .h2 .nil)⟩
 ·replace h:=ite_f h zlU
  refine WC.skip ?_
  refine WX.a ?_
  refine WC.b ?_
  obtain ⟨z8C,zx3,h⟩:=zd h
  obtain ⟨z8D,zx4,h⟩:=zd h
  obtain ⟨zby,zx5,h⟩:=zd h
  refine WC.draw (fun i=>[9,10,11,12].contains i) [stb z4W 30 [(.int .i64 z1c.1.fN),(.int .i64 z1c.1.fD)]] rfl ?_
  refine WD.a (i:=0) (d:=18) (by kernel_rfl) rfl (z6 (by kernel_rfl)) (z7 (by kernel_rfl)) rfl rfl rfl (fun _=>q_m rfl) ?_
  refine WD.stable (i:=1) (d:=19) (by kernel_rfl) rfl (z6 (by kernel_rfl)) (z7 (by kernel_rfl)) rfl rfl rfl (Sin.of (.cons .here .nil)) (q_loadA (cs:=[(.int .i64 z1c.1.fN),(.int .i64 z1c.1.fD)]) aggT_30 rfl rfl (rd_all .here)) ?_
  refine WD.a (i:=2) (d:=20) (by kernel_rfl) rfl (z6 (by kernel_rfl)) (z7 (by kernel_rfl)) rfl rfl rfl (fun _=>q_m rfl) ?_
  refine WD.a (i:=3) (d:=21) (by kernel_rfl) rfl (z6 (by kernel_rfl)) (z7 (by kernel_rfl)) rfl rfl rfl (fun _=>q_fieldAddr fo_43_0 rfl rfl) ?_
  refine WD.stable (i:=4) (d:=22) (by kernel_rfl) rfl (z6 (by kernel_rfl)) (z7 (by kernel_rfl)) rfl rfl rfl (Sin.of (.cons .here .nil)) (q_loadA (cs:=[(.int .i64 z5T.fRate.fN),(.int .i64 z5T.fRate.fD)]) aggT_30 rfl rfl (rd_zsub (off:=0) (s:=2) hz.pv zlT rfl)) ?_
  refine WD.a (i:=5) (d:=23) (by kernel_rfl) rfl (z6 (by kernel_rfl)) (z7 (by kernel_rfl)) rfl rfl rfl (fun _=>q_m rfl) ?_
  refine WD.e (i:=6) (d:=24) (by kernel_rfl) rfl (z6 (by kernel_rfl)) (z7 (by kernel_rfl)) rfl rfl rfl (q_loadA (cs:=[(.int .i64 z13.fN),(.int .i64 z13.fD)]) aggT_30 rfl rfl (rd_all .h3)) ?_
  refine WD.a (i:=7) (d:=25) (by kernel_rfl) rfl (z6 (by kernel_rfl)) (z7 (by kernel_rfl)) rfl rfl rfl (fun _=>q_fieldAddr fo_43_1 rfl rfl) ?_
  refine WD.e (i:=8) (d:=26) (by kernel_rfl) rfl (z6 (by kernel_rfl)) (z7 (by kernel_rfl)) rfl rfl rfl (q_loadA (cs:=[(.int .i64 z5T.fLatency.fN),(.int .i64 z5T.fLatency.fD)]) aggT_30 rfl rfl (rd_zsub (off:=2) (s:=2) hz.pv zlT rfl)) ?_
  refine WD.call0 (i:=9) (dd:=27) rfl (by kernel_rfl) rfl rfl rfl (.inl ⟨rfl,(Sin.of (.cons .h1 .nil))⟩) (zk (l:=[.tmp 23,.func 24,.tmp 24,.tmp 26]) Try.call33 (.cons rfl (.cons rfl (.cons rfl (.cons rfl .nil))))) ((.cons .h1 .nil) : Sel [stb z4W 30 [(.int .i64 z1c.1.fN),(.int .i64 z1c.1.fD)],stb z2D 98 [(.int .i64 z1c.2.fE)],stb z3W 30 [(.int .i64 0),(.int .i64 0)],stb z3V 30 [(.int .i64 z13.fN),(.int .i64 z13.fD)]] [stb z2D 98 [(.int .i64 z1c.2.fE)]] [stb z4W 30 [(.int .i64 z1c.1.fN),(.int .i64 z1c.1.fD)],stb z3W 30 [(.int .i64 0),(.int .i64 0)],stb z3V 30 [(.int .i64 z13.fN),(.int .i64 z13.fD)]]) (fun w hw=>by have pz:=(hz.call hw ((.cons .h1 .nil) : Sel [stb z4W 30 [(.int .i64 z1c.1.fN),(.int .i64 z1c.1.fD)],stb z2D 98 [(.int .i64 z1c.2.fE)],stb z3W 30 [(.int .i64 0),(.int .i64 0)],stb z3V 30 [(.int .i64 z13.fN),(.int .i64 z13.fD)]] [stb z2D 98 [(.int .i64 z1c.2.fE)]] [stb z4W 30 [(.int .i64 z1c.1.fN),(.int .i64 z1c.1.fD)],stb z3W 30 [(.int .i64 0),(.int .i64 0)],stb z3V 30 [(.int .i64 z13.fN),(.int .i64 z13.fD)]])); exact Calls.mono (w_calculus_calc_do (Z:=_) (z4h:=z2D) (z75:=24) (z7D:=[]) (z5d:=z1c.2) (z7V:=(fun (y0 : z2) (y1 : z2)=>m_rat_Sub y0 y1)) (z2Y:=z13) (z2Z:=z5T.fLatency) (r:=z8C) w pz Try.call24 (fun w' hz' y0 y1  r  hr=>w_rat_Sub (Z:=_)  (z40:=y0) (z41:=y1) (r:=r) w' hz'  hr) zx3 (hw.owns ((.cons .h1 .nil) : Sel [stb z4W 30 [(.int .i64 z1c.1.fN),(.int .i64 z1c.1.fD)],stb z2D 98 [(.int .i64 z1c.2.fE)],stb z3W 30 [(.int .i64 0),(.int .i64 0)],stb z3V 30 [(.int .i64 z13.fN),(.int .i64 z13.fD)]] [stb z2D 98 [(.int .i64 z1c.2.fE)]] [stb z4W 30 [(.int .i64 z1c.1.fN),(.int .i64 z1c.1.fD)],stb z3W 30 [(.int .i64 0),(.int .i64 0)],stb z3V 30 [(.int .i64 z13.fN),(.int .i64 z13.fD)]]))) (fun _ _ h'=>⟨h'.1,trivial,h'.2⟩)) ?_
  intro _
  refine WD.call0 (i:=10) (dd:=28) rfl (by kernel_rfl) rfl rfl rfl (.inl ⟨rfl,(Sin.of (.cons .h1 .nil))⟩) (zk (l:=[.tmp 20,.func 25,.tmp 22,.tmp 27]) Try.call33 (.cons rfl (.cons rfl (.cons rfl (.cons rfl .nil))))) ((.cons .here .nil) : Sel [stb z2D 98 [(.int .i64 z8C.2.fE)],stb z4W 30 [(.int .i64 z1c.1.fN),(.int .i64 z1c.1.fD)],stb z3W 30 [(.int .i64 0),(.int .i64 0)],stb z3V 30 [(.int .i64 z13.fN),(.int .i64 z13.fD)]] [stb z2D 98 [(.int .i64 z8C.2.fE)]] [stb z4W 30 [(.int .i64 z1c.1.fN),(.int .i64 z1c.1.fD)],stb z3W 30 [(.int .i64 0),(.int .i64 0)],stb z3V 30 [(.int .i64 z13.fN),(.int .i64 z13.fD)]]) (fun w hw=>by have pz:=(hz.call hw ((.cons .here .nil) : Sel [stb z2D 98 [(.int .i64 z8C.2.fE)],stb z4W 30 [(.int .i64 z1c.1.fN),(.int .i64 z1c.1.fD)],stb z3W 30 [(.int .i64 0),(.int .i64 0)],stb z3V 30 [(.int .i64 z13.fN),(.int .i64 z13.fD)]] [stb z2D 98 [(.int .i64 z8C.2.fE)]] [stb z4W 30 [(.int .i64 z1c.1.fN),(.int .i64 z1c.1.fD)],stb z3W 30 [(.int .i64 0),(.int .i64 0)],stb z3V 30 [(.int .i64 z13.fN),(.int .i64 z13.fD)]])); exact Calls.mono (w_calculus_calc_do (Z:=_) (z4h:=z2D) (z75:=25) (z7D:=[]) (z5d:=z8C.2) (z7V:=(fun (y0 : z2) (y1 : z2)=>m_rat_Mul y0 y1)) (z2Y:=z5T.fRate) (z2Z:=z8C.1) (r:=z8D) w pz Try.call25 (fun w' hz' y0 y1  r  hr=>w_rat_Mul (Z:=_)  (z4G:=y0) (z4H:=y1) (r:=r) w' hz'  hr) zx4 (hw.owns ((.cons .here .nil) : Sel [stb z2D 98 [(.int .i64 z8C.2.fE)],stb z4W 30 [(.int .i64 z1c.1.fN),(.int .i64 z1c.1.fD)],stb z3W 30 [(.int .i64 0),(.int .i64 0)],stb z3V 30 [(.int .i64 z13.fN),(.int .i64 z13.fD)]] [stb z2D 98 [(.int .i64 z8C.2.fE)]] [stb z4W 30 [(.int .i64 z1c.1.fN),(.int .i64 z1c.1.fD)],stb z3W 30 [(.int .i64 0),(.int .i64 0)],stb z3V 30 [(.int .i64 z13.fN),(.int .i64 z13.fD)]]))) (fun _ _ h'=>⟨h'.1,trivial,h'.2⟩)) ?_
  intro _
  refine WD.call0 (i:=11) (dd:=29) rfl (by kernel_rfl) rfl rfl rfl (.inl ⟨rfl,(Sin.of (.cons .h1 .nil))⟩) (zk (l:=[.tmp 18,.func 24,.tmp 19,.tmp 28]) Try.call33 (.cons rfl (.cons rfl (.cons rfl (.cons rfl .nil))))) ((.cons .here .nil) : Sel [stb z2D 98 [(.int .i64 z8D.2.fE)],stb z4W 30 [(.int .i64 z1c.1.fN),(.int .i64 z1c.1.fD)],stb z3W 30 [(.int .i64 0),(.int .i64 0)],stb z3V 30 [(.int .i64 z13.fN),(.int .i64 z13.fD)]] [stb z2D 98 [(.int .i64 z8D.2.fE)]] [stb z4W 30 [(.int .i64 z1c.1.fN),(.int .i64 z1c.1.fD)],stb z3W 30 [(.int .i64 0),(.int .i64 0)],stb z3V 30 [(.int .i64 z13.fN),(.int .i64 z13.fD)]]) (fun w hw=>by have pz:=(hz.call hw ((.cons .here .nil) : Sel [stb z2D 98 [(.int .i64 z8D.2.fE)],stb z4W 30 [(.int .i64 z1c.1.fN),(.int .i64 z1c.1.fD)],stb z3W 30 [(.int .i64 0),(.int .i64 0)],stb z3V 30 [(.int .i64 z13.fN),(.int .i64 z13.fD)]] [stb z2D 98 [(.int .i64 z8D.2.fE)]] [stb z4W 30 [(.int .i64 z1c.1.fN),(.int .i64 z1c.1.fD)],stb z3W 30 [(.int .i64 0),(.int .i64 0)],stb z3V 30 [(.int .i64 z13.fN),(.int .i64 z13.fD)]])); exact Calls.mono (w_calculus_calc_do (Z:=_) (z4h:=z2D) (z75:=24) (z7D:=[]) (z5d:=z8D.2) (z7V:=(fun (y0 : z2) (y1 : z2)=>m_rat_Sub y0 y1)) (z2Y:=z1c.1) (z2Z:=z8D.1) (r:=zby) w pz Try.call24 (fun w' hz' y0 y1  r  hr=>w_rat_Sub (Z:=_)  (z40:=y0) (z41:=y1) (r:=r) w' hz'  hr) zx5 (hw.owns ((.cons .here .nil) : Sel [stb z2D 98 [(.int .i64 z8D.2.fE)],stb z4W 30 [(.int .i64 z1c.1.fN),(.int .i64 z1c.1.fD)],stb z3W 30 [(.int .i64 0),(.int .i64 0)],stb z3V 30 [(.int .i64 z13.fN),(.int .i64 z13.fD)]] [stb z2D 98 [(.int .i64 z8D.2.fE)]] [stb z4W 30 [(.int .i64 z1c.1.fN),(.int .i64 z1c.1.fD)],stb z3W 30 [(.int .i64 0),(.int .i64 0)],stb z3V 30 [(.int .i64 z13.fN),(.int .i64 z13.fD)]]))) (fun _ _ h'=>⟨h'.1,trivial,h'.2⟩)) ?_
  intro _
  refine WD.last0 (i:=12) rfl (by kernel_rfl) rfl rfl rfl (by kernel_rfl) (e_store (vs:=[(.int .i64 zby.1.fN),(.int .i64 zby.1.fD)]) (ds:=[(.int .i64 zby.1.fN),(.int .i64 zby.1.fD)]) sizT_30 rfl rfl rfl rfl (oc_cons rfl (oc_cons rfl oc_nil)) .h2 (Nat.le_of_ble_eq_true rfl) rfl) ?_
  refine WD.done (by kernel_rfl) ?_
  refine WX.a ?_
  refine WC.ret ?_
  obtain rfl:=Option.some.inj h
  refine WX.bpRet Try.results37 (.agg rfl aggT_30 rfl (rd_all .here) .nil) (fun w hw=>?_)
  exact ⟨ret1 rfl,hw.sub (.cons .h1 .nil)⟩
end Go.Proofs.Ytakfmdiiehcbdaa
