/- A part of this claim's proof: models of functions, walks, plain laws. No conditions. -/
import Derived.Test.YtakfmdiiehcbdaaW03c
namespace Go.Proofs.Ytakfmdiiehcbdaa
open Go Go.RowKit Sep
set_option linter.all false
set_option maxRecDepth 30000
set_option maxHeartbeats 4000000
def m_calculus_calc_total_L2 (z4J : List (List z1)) (z1T : z2) (z9P : Int → Int → Int → Option (z2 × z2a)) : Nat → Int → Int → Int → Int → Option (z2 × z2a)
 | 0,_,_,_,_=>none
 | zkf + 1,z65,z5G,z3X,z3Y=>if decide (z65 < ((z4J.length : Nat) : Int)) then chk ((0 : Int) ≤ z65 ∧ z65 < ((z4J.length : Nat) : Int)) ((m_curve_At (nth z4J z65) z1T).bind fun z3v=>jp1 (fun (z6E : Int)=>(m_calculus_calc_do (⟨z6E⟩ : z2a) (fun (y0 : z2) (y1 : z2)=>m_rat_Add y0 y1) (⟨z3X,z3Y⟩ : z2) z3v.1).bind fun z7N=>m_calculus_calc_total_L2 z4J z1T z9P zkf (i64 (z65 + 1)) z7N.2.fE z7N.1.fN z7N.1.fD) fun zgv=>if decide (z5G = 0) then zgv z3v.2 else zgv z5G) else z9P z3X z3Y z5G
theorem m_calculus_calc_total_L2_fuel {n : Nat} {z4J : List (List z1)} {z1T : z2} {z9P : Int → Int → Int → Option (z2 × z2a)} {z65 : Int} {z5G : Int} {z3X : Int} {z3Y : Int} {r : z2 × z2a} (h : m_calculus_calc_total_L2 z4J z1T z9P n z65 z5G z3X z3Y = some r) : ∃ m,n = m + 1:=by
 cases n with
 | zero=>cases h
 | succ m=>exact ⟨m,rfl⟩
def m_calculus_calc_total (z6F : z2a) (z4J : List (List z1)) (z1T : z2) : Option (z2 × z2a) :=
 (m_calculus_zero).bind fun z8N=>jp3 (fun (z8k : Int) (z8l : Int) (zaG : Int)=>some ((⟨z8k,z8l⟩ : z2),(⟨zaG⟩ : z2a))) fun z9P=>m_calculus_calc_total_L2 z4J z1T z9P FUEL 0 z6F.fE z8N.fN z8N.fD
set_option maxRecDepth 20000 in
theorem w_calculus_calc_total (Z : Zp)  (z3b : Nat) (zaH : Option Addr) (zaI : Nat) (z6F : z2a) (z4J : List (List z1)) (z1T : z2) (r : z2 × z2a) (w₀ : World) (hz : PZ (fps [stb z3b 98 [(.int .i64 z6F.fE)]]) w₀ Z)
  (zu7 : ZS Z 1 (p39 Z) zaH zaI z4J)
  (h : m_calculus_calc_total z6F z4J z1T = some r)
  (hown : Hp (fps [stb z3b 98 [(.int .i64 z6F.fE)]]) w₀ w₀ [stb z3b 98 [(.int .i64 z6F.fE)]]) :
  Calls Try.prog 35 #[(.pointer (some ⟨z3b,0,none⟩)),(.slice zaH z4J.length zaI),(.agg #[(.int .i64 z1T.fN),(.int .i64 z1T.fD)])] w₀ fun e w'=>e = .returned (.agg #[(.int .i64 r.1.fN),(.int .i64 r.1.fD)]) ∧ Hp (fps [stb z3b 98 [(.int .i64 z6F.fE)]]) w₀ w' [stb z3b 98 [(.int .i64 r.2.fE)]]:=by
 unfold m_calculus_calc_total at h
 refine Calls.ofWC (vs:=[(.pointer (some ⟨z3b,0,none⟩)),(.slice zaH z4J.length zaI),(.agg #[(.int .i64 z1T.fN),(.int .i64 z1T.fD)])]) (pre:=[stb z3b 98 [(.int .i64 z6F.fE)]]) (env:=[(0,(.pointer (some ⟨z3b,0,none⟩))),(1,(.slice zaH z4J.length zaI)),(2,(.agg #[(.int .i64 z1T.fN),(.int .i64 z1T.fD)]))]) Try.func35 rfl Try.ntmps35 rfl (hown) rfl ?_
 refine WC.seq ?_
 refine WC.region ?_
 refine WL.new (dd:=5) rfl rfl rfl (e_box (cs:=[(.int .i64 z1T.fN),(.int .i64 z1T.fD)]) rfl rfl) ?_
 intro z5H _
 refine WL.new (dd:=6) rfl rfl rfl (e_alloc (cs:=[(.int .i64 0),(.int .i64 0)]) zeroT_30 rfl) ?_
 intro z54 _
 refine WL.nil ?_
 refine WX.then ?_
 refine WC.seq ?_
 obtain ⟨z8N,zu8,h⟩:=ze h
 refine WC.region ?_
 refine WL.callD (dd:=12) rfl rfl rfl (zn (l:=[]) Try.call51 .nil) (.nil : Sel [stb z54 30 [(.int .i64 0),(.int .i64 0)],stb z5H 30 [(.int .i64 z1T.fN),(.int .i64 z1T.fD)],stb z3b 98 [(.int .i64 z6F.fE)]] [] [stb z54 30 [(.int .i64 0),(.int .i64 0)],stb z5H 30 [(.int .i64 z1T.fN),(.int .i64 z1T.fD)],stb z3b 98 [(.int .i64 z6F.fE)]]) (fun w hw=>by have pz:=(hz.call hw (.nil : Sel [stb z54 30 [(.int .i64 0),(.int .i64 0)],stb z5H 30 [(.int .i64 z1T.fN),(.int .i64 z1T.fD)],stb z3b 98 [(.int .i64 z6F.fE)]] [] [stb z54 30 [(.int .i64 0),(.int .i64 0)],stb z5H 30 [(.int .i64 z1T.fN),(.int .i64 z1T.fD)],stb z3b 98 [(.int .i64 z6F.fE)]])); exact w_calculus_zero (Z:=_)   (r:=z8N) w pz  zu8) ?_
 refine WL.new (dd:=7) rfl rfl rfl (e_alloc (cs:=[(.int .i64 0),(.int .i64 0)]) zeroT_30 rfl) ?_
 intro z6u _
 refine WL.eff0 rfl rfl (e_store (vs:=[(.int .i64 z8N.fN),(.int .i64 z8N.fD)]) (ds:=[(.int .i64 z8N.fN),(.int .i64 z8N.fD)]) sizT_30 rfl rfl rfl rfl (oc_cons rfl (oc_cons rfl oc_nil)) .here (Nat.le_of_ble_eq_true rfl) rfl) ?_
 refine WL.nil ?_
 refine WX.then ?_
 obtain ⟨z9P,zu9,h⟩:=jp3_elim h
 refine WC.seqMid3 (fun (z8k : Int) (z8l : Int) (zaG : Int)=>(z9P z8k z8l zaG = some r)) (fun (z8k : Int) (z8l : Int) (zaG : Int)=>[(6,(.pointer (some ⟨z54,0,none⟩))),(7,(.pointer (some ⟨z6u,0,none⟩)))]) (fun (z8k : Int) (z8l : Int) (zaG : Int)=>[stb z54 30 [(.int .i64 0),(.int .i64 0)],stb z6u 30 [(.int .i64 z8k),(.int .i64 z8l)],stb z3b 98 [(.int .i64 zaG)]]) ?_ ?_
 ·skip
  refine WC.seq ?_
  refine WC.region ?_
  refine WL.quiet (d:=13) rfl rfl rfl (q_move rfl) ?_
  refine WL.quiet (d:=14) rfl rfl rfl (q_len Try.underlying26 rfl) ?_
  refine WL.quiet (d:=15) rfl rfl rfl (q_move rfl) ?_
  refine WL.nil ?_
  refine WX.then ?_
  refine WC.block ?_
  refine WC.loop5 (fun (zdi : Nat) (z65 : Int) (z5G : Int) (z3X : Int) (z3Y : Int)=>(m_calculus_calc_total_L2 z4J z1T z9P zdi z65 z5G z3X z3Y = some r)) (fun (zdi : Nat) (z65 : Int) (z5G : Int) (z3X : Int) (z3Y : Int)=>[(0,(.pointer (some ⟨z3b,0,none⟩))),(5,(.pointer (some ⟨z5H,0,none⟩))),(6,(.pointer (some ⟨z54,0,none⟩))),(7,(.pointer (some ⟨z6u,0,none⟩))),(13,(.slice zaH z4J.length zaI)),(14,(.int .i64 ((z4J.length : Nat) : Int))),(15,(.int .i64 z65))]) (fun (zdi : Nat) (z65 : Int) (z5G : Int) (z3X : Int) (z3Y : Int)=>[stb z3b 98 [(.int .i64 z5G)],stb z5H 30 [(.int .i64 z1T.fN),(.int .i64 z1T.fD)],stb z54 30 [(.int .i64 0),(.int .i64 0)],stb z6u 30 [(.int .i64 z3X),(.int .i64 z3Y)]]) (fun (zdi : Nat) (z65 : Int) (z5G : Int) (z3X : Int) (z3Y : Int)=>zdi) ⟨FUEL,0,z6F.fE,z8N.fN,z8N.fD⟩ h (.cons rfl (.cons rfl (.cons rfl (.cons rfl (.cons rfl (.cons rfl (.cons rfl .nil))))))) (.cons (.there (.there (.there .here))) (.cons (.there (.there .here)) (.cons (.there .here) (.cons .here .nil)))) ?_
  rintro zdi z65 z5G z3X z3Y h
  obtain ⟨zkf,rfl⟩:=m_calculus_calc_total_L2_fuel h
  rw [m_calculus_calc_total_L2] at h
  refine WC.seq ?_
  refine WC.region ?_
  refine WL.quiet (d:=16) rfl rfl rfl (q_lss rfl rfl) ?_
  refine WL.nil ?_
  refine WX.then ?_
  refine WC.seq ?_
  refine WC.cond rfl (fun zkg=>?_) (fun zkg=>?_)
  ·replace h:=ite_t h zkg
   refine WC.skip ?_
   refine WX.then ?_
   refine WC.seq ?_
   refine WC.block ?_
   refine WC.seq ?_
   obtain ⟨zua,h⟩:=chk_elim h
   refine WC.region ?_
   refine WL.znth (dd:=17) rfl rfl (Z:=Z) (Pr:=(p39 Z)) elT_26 rfl rfl zu7 zua ?_
   rintro zyv zyw zub zyx ⟨zuc,zud,rfl,zue⟩
   refine WL.quiet (d:=18) rfl rfl rfl (q_load1 oneT_39 rfl (rd_z hz.pv zub rfl)) ?_
   refine WL.quiet (d:=9) rfl rfl rfl (q_assign rfl) ?_
   refine WL.nil ?_
   refine WX.then ?_
   refine WC.seq ?_
   obtain ⟨z3v,zuf,h⟩:=ze h
   refine WC.region ?_
   refine WL.quiet (d:=20) rfl rfl rfl (q_move rfl) ?_
   refine WL.quiet (d:=21) rfl rfl rfl (q_loadA (cs:=[(.int .i64 z1T.fN),(.int .i64 z1T.fD)]) aggT_30 rfl rfl (rd_all (.there .here))) ?_
   refine WL.callD (dd:=22) rfl rfl rfl (zn (l:=[.tmp 20,.tmp 21]) Try.call22 (.cons rfl (.cons rfl .nil))) (.nil : Sel [stb z3b 98 [(.int .i64 z5G)],stb z5H 30 [(.int .i64 z1T.fN),(.int .i64 z1T.fD)],stb z54 30 [(.int .i64 0),(.int .i64 0)],stb z6u 30 [(.int .i64 z3X),(.int .i64 z3Y)]] [] [stb z3b 98 [(.int .i64 z5G)],stb z5H 30 [(.int .i64 z1T.fN),(.int .i64 z1T.fD)],stb z54 30 [(.int .i64 0),(.int .i64 0)],stb z6u 30 [(.int .i64 z3X),(.int .i64 z3Y)]]) (fun w hw=>by have pz:=(hz.call hw (.nil : Sel [stb z3b 98 [(.int .i64 z5G)],stb z5H 30 [(.int .i64 z1T.fN),(.int .i64 z1T.fD)],stb z54 30 [(.int .i64 0),(.int .i64 0)],stb z6u 30 [(.int .i64 z3X),(.int .i64 z3Y)]] [] [stb z3b 98 [(.int .i64 z5G)],stb z5H 30 [(.int .i64 z1T.fN),(.int .i64 z1T.fD)],stb z54 30 [(.int .i64 0),(.int .i64 0)],stb z6u 30 [(.int .i64 z3X),(.int .i64 z3Y)]])); exact w_curve_At (Z:=_) (z9N:=zuc) (z9O:=zud) (z1e:=(nth z4J z65)) (z1Q:=z1T) (r:=z3v) w pz zue zuf) ?_
   refine WL.quiet (d:=19) rfl rfl rfl (q_move rfl) ?_
   refine WL.quiet (d:=23) rfl rfl rfl (q_extract rfl rfl) ?_
   refine WL.quiet (d:=24) rfl rfl rfl (q_extract rfl rfl) ?_
   refine WL.new (dd:=10) rfl rfl rfl (e_alloc (cs:=[(.int .i64 0),(.int .i64 0)]) zeroT_30 rfl) ?_
   intro zaJ _
   refine WL.eff0 rfl rfl (e_store (vs:=[(.int .i64 z3v.1.fN),(.int .i64 z3v.1.fD)]) (ds:=[(.int .i64 z3v.1.fN),(.int .i64 z3v.1.fD)]) sizT_30 rfl rfl rfl rfl (oc_cons rfl (oc_cons rfl oc_nil)) .here (Nat.le_of_ble_eq_true rfl) rfl) ?_
   refine WL.quiet (d:=11) rfl rfl rfl (q_assign rfl) ?_
   refine WL.nil ?_
   refine WX.then ?_
   obtain ⟨zgv,zug,h⟩:=jp1_elim h
   refine WC.seqMid1 (fun (z6E : Int)=>(zgv z6E = some r)) (fun (z6E : Int)=>[(0,(.pointer (some ⟨z3b,0,none⟩))),(5,(.pointer (some ⟨z5H,0,none⟩))),(6,(.pointer (some ⟨z54,0,none⟩))),(7,(.pointer (some ⟨z6u,0,none⟩))),(10,(.pointer (some ⟨zaJ,0,none⟩))),(13,(.slice zaH z4J.length zaI)),(14,(.int .i64 ((z4J.length : Nat) : Int))),(15,(.int .i64 z65))]) (fun (z6E : Int)=>[stb z3b 98 [(.int .i64 z6E)],stb z5H 30 [(.int .i64 z1T.fN),(.int .i64 z1T.fD)],stb z54 30 [(.int .i64 0),(.int .i64 0)],stb z6u 30 [(.int .i64 z3X),(.int .i64 z3Y)],stb zaJ 30 [(.int .i64 z3v.1.fN),(.int .i64 z3v.1.fD)]]) ?_ ?_
   ·skip
    refine WC.seq ?_
    refine WC.region ?_
    refine WL.quiet (d:=25) rfl rfl rfl (q_move rfl) ?_
    refine WL.quiet (d:=26) rfl rfl rfl (q_nilCheck rfl) ?_
    refine WL.quiet (d:=27) rfl rfl rfl (q_fieldAddr fo_98_0 rfl rfl) ?_
    refine WL.quiet (d:=28) rfl rfl rfl (q_load1 oneT_31 rfl (rd_stb (.there .here) rfl)) ?_
    refine WL.quiet (d:=29) rfl rfl rfl (q_eql rfl rfl) ?_
    refine WL.nil ?_
    refine WX.then ?_
    refine WC.cond rfl (fun zkh=>?_) (fun zkh=>?_)
    ·replace h:=ite_t h zkh
     refine WC.region ?_
     refine WL.quiet (d:=30) rfl rfl rfl (q_move rfl) ?_
     refine WL.quiet (d:=31) rfl rfl rfl (q_move rfl) ?_
     refine WL.quiet (d:=32) rfl rfl rfl (q_nilCheck rfl) ?_
     refine WL.quiet (d:=33) rfl rfl rfl (q_fieldAddr fo_98_0 rfl rfl) ?_
     refine WL.eff0 rfl rfl (e_store (vs:=[(.int .i64 z3v.2)]) (ds:=[(.int .i64 z3v.2)]) sizT_31 rfl rfl rfl rfl (oc_cons rfl oc_nil) (.there .here) (Nat.le_of_ble_eq_true rfl) rfl) ?_
     refine WL.nil ?_
     exact WX.mid (G:=Int) z3v.2 h (.cons rfl (.cons rfl (.cons rfl (.cons rfl (.cons rfl (.cons rfl (.cons rfl (.cons rfl .nil)))))))) (.cons .here (.cons (.there .here) (.cons (.there .here) (.cons (.there .here) (.cons .here .nil)))))
    ·replace h:=ite_f h zkh
     refine WC.skip ?_
     exact WX.mid (G:=Int) z5G h (.cons rfl (.cons rfl (.cons rfl (.cons rfl (.cons rfl (.cons rfl (.cons rfl (.cons rfl .nil)))))))) (.cons (.there .here) (.cons (.there .here) (.cons (.there .here) (.cons (.there .here) (.cons .here .nil)))))
   ·rintro z6E h
    replace h:=(zug z6E).symm.trans h
    obtain ⟨z7N,zuh,h⟩:=ze h
    refine WC.region ?_
    refine WL.quiet (d:=34) rfl rfl rfl (q_move rfl) ?_
    refine WL.quiet (d:=35) rfl rfl rfl (q_loadA (cs:=[(.int .i64 z3X),(.int .i64 z3Y)]) aggT_30 rfl rfl (rd_all (.there (.there (.there .here))))) ?_
    refine WL.quiet (d:=36) rfl rfl rfl (q_loadA (cs:=[(.int .i64 z3v.1.fN),(.int .i64 z3v.1.fD)]) aggT_30 rfl rfl (rd_all (.there (.there (.there (.there .here)))))) ?_
    refine WL.callD (dd:=37) rfl rfl rfl (zn (l:=[.tmp 34,.func 19,.tmp 35,.tmp 36]) Try.call33 (.cons rfl (.cons rfl (.cons rfl (.cons rfl .nil))))) ((.cons .here .nil) : Sel [stb z3b 98 [(.int .i64 z6E)],stb z5H 30 [(.int .i64 z1T.fN),(.int .i64 z1T.fD)],stb z54 30 [(.int .i64 0),(.int .i64 0)],stb z6u 30 [(.int .i64 z3X),(.int .i64 z3Y)],stb zaJ 30 [(.int .i64 z3v.1.fN),(.int .i64 z3v.1.fD)]] [stb z3b 98 [(.int .i64 z6E)]] [stb z5H 30 [(.int .i64 z1T.fN),(.int .i64 z1T.fD)],stb z54 30 [(.int .i64 0),(.int .i64 0)],stb z6u 30 [(.int .i64 z3X),(.int .i64 z3Y)],stb zaJ 30 [(.int .i64 z3v.1.fN),(.int .i64 z3v.1.fD)]]) (fun w hw=>by have pz:=(hz.call hw ((.cons .here .nil) : Sel [stb z3b 98 [(.int .i64 z6E)],stb z5H 30 [(.int .i64 z1T.fN),(.int .i64 z1T.fD)],stb z54 30 [(.int .i64 0),(.int .i64 0)],stb z6u 30 [(.int .i64 z3X),(.int .i64 z3Y)],stb zaJ 30 [(.int .i64 z3v.1.fN),(.int .i64 z3v.1.fD)]] [stb z3b 98 [(.int .i64 z6E)]] [stb z5H 30 [(.int .i64 z1T.fN),(.int .i64 z1T.fD)],stb z54 30 [(.int .i64 0),(.int .i64 0)],stb z6u 30 [(.int .i64 z3X),(.int .i64 z3Y)],stb zaJ 30 [(.int .i64 z3v.1.fN),(.int .i64 z3v.1.fD)]])); exact w_calculus_calc_do (Z:=_) (z3R:=z3b) (z6q:=19) (z6Y:=[]) (z4H:=(⟨z6E⟩ : z2a)) (z7h:=(fun (y0 : z2) (y1 : z2)=>m_rat_Add y0 y1)) (z2H:=(⟨z3X,z3Y⟩ : z2)) (z2I:=z3v.1) (r:=z7N) w pz Try.call19 (fun w' hz' y0 y1  r  hr=>w_rat_Add (Z:=_)  (z3E:=y0) (z3F:=y1) (r:=r) w' hz'  hr) zuh (hw.owns ((.cons .here .nil) : Sel [stb z3b 98 [(.int .i64 z6E)],stb z5H 30 [(.int .i64 z1T.fN),(.int .i64 z1T.fD)],stb z54 30 [(.int .i64 0),(.int .i64 0)],stb z6u 30 [(.int .i64 z3X),(.int .i64 z3Y)],stb zaJ 30 [(.int .i64 z3v.1.fN),(.int .i64 z3v.1.fD)]] [stb z3b 98 [(.int .i64 z6E)]] [stb z5H 30 [(.int .i64 z1T.fN),(.int .i64 z1T.fD)],stb z54 30 [(.int .i64 0),(.int .i64 0)],stb z6u 30 [(.int .i64 z3X),(.int .i64 z3Y)],stb zaJ 30 [(.int .i64 z3v.1.fN),(.int .i64 z3v.1.fD)]]))) ?_
    refine WL.eff0 rfl rfl (e_store (vs:=[(.int .i64 z7N.1.fN),(.int .i64 z7N.1.fD)]) (ds:=[(.int .i64 z7N.1.fN),(.int .i64 z7N.1.fD)]) sizT_30 rfl rfl rfl rfl (oc_cons rfl (oc_cons rfl oc_nil)) (.there (.there (.there .here))) (Nat.le_of_ble_eq_true rfl) rfl) ?_
    refine WL.nil ?_
    refine WX.blockNormal ?_
    refine WX.then ?_
    refine WC.region ?_
    refine WL.quiet (d:=38) rfl rfl rfl (q_add rfl rfl rfl) ?_
    refine WL.quiet (d:=15) rfl rfl rfl (q_move rfl) ?_
    refine WL.nil ?_
    exact WX.round (G:=Nat × Int × Int × Int × Int) ⟨zkf,(i64 (z65 + 1)),z7N.2.fE,z7N.1.fN,z7N.1.fD⟩ h (Nat.lt_succ_self _) (.cons rfl (.cons rfl (.cons rfl (.cons rfl (.cons rfl (.cons rfl (.cons rfl .nil))))))) (.cons (.there .here) (.cons (.there .here) (.cons (.there .here) (.cons .here .nil))))
  ·replace h:=ite_f h zkg
   refine WC.exit ?_
   refine WX.thenExit ?_
   refine WX.thenExit ?_
   refine WX.blockHit ?_
   exact WX.mid (G:=Int × Int × Int) ⟨z3X,z3Y,z5G⟩ h (.cons rfl (.cons rfl .nil)) (.cons (.there (.there .here)) (.cons (.there (.there .here)) (.cons .here .nil)))
 ·rintro z8k z8l zaG h
  replace h:=(zu9 z8k z8l zaG).symm.trans h
  refine WC.seq ?_
  refine WC.region ?_
  refine WL.quiet (d:=39) rfl rfl rfl (q_loadA (cs:=[(.int .i64 z8k),(.int .i64 z8l)]) aggT_30 rfl rfl (rd_all (.there .here))) ?_
  refine WL.eff0 rfl rfl (e_store (vs:=[(.int .i64 z8k),(.int .i64 z8l)]) (ds:=[(.int .i64 z8k),(.int .i64 z8l)]) sizT_30 rfl rfl rfl rfl (oc_cons rfl (oc_cons rfl oc_nil)) .here (Nat.le_of_ble_eq_true rfl) rfl) ?_
  refine WL.nil ?_
  refine WX.then ?_
  refine WC.ret ?_
  obtain rfl:=Option.some.inj h
  refine WX.bpRet Try.results35 (.agg rfl aggT_30 rfl (rd_all .here) .nil) (fun w hw=>?_)
  exact ⟨ret1 rfl,hw.sub (.cons (.there (.there .here)) .nil)⟩
def m_calculus_Delay_1 (z6v : z2a) (z1f : z2) (zbQ : List (List z1)) (z6G : Sapi_Server) : Option (z2 × z2a) :=
 (m_calculus_calc_total z6v zbQ z1f).bind fun z7O=>(m_calculus_calc_do z7O.2 (fun (y0 : z2) (y1 : z2)=>m_rat_Div y0 y1) z7O.1 z6G.fRate).bind fun z7P=>(m_calculus_calc_do z7P.2 (fun (y0 : z2) (y1 : z2)=>m_rat_Sub y0 y1) z7P.1 z1f).bind fun z7Q=>(m_calculus_calc_do z7Q.2 (fun (y0 : z2) (y1 : z2)=>m_rat_Add y0 y1) z7Q.1 z6G.fLatency).bind fun zaK=>some (zaK.1,zaK.2)
set_option maxRecDepth 20000 in
theorem w_calculus_Delay_1 (Z : Zp)  (z2O : Nat) (zeC : Addr) (zgw : Option Addr) (zgx : Nat) (zeD : Addr) (z6v : z2a) (z1f : z2) (zbQ : List (List z1)) (z6G : Sapi_Server) (r : z2 × z2a) (w₀ : World) (hz : PZ (fps [stb z2O 98 [(.int .i64 z6v.fE)]]) w₀ Z)
  (zui : ZS Z 1 (p39 Z) zgw zgx zbQ)
  (zuj : ZC Z zeC [(.slice zgw zbQ.length zgx)])
  (zov : ZC Z zeD [(.int .i64 z6G.fRate.fN),(.int .i64 z6G.fRate.fD),(.int .i64 z6G.fLatency.fN),(.int .i64 z6G.fLatency.fD)])
  (h : m_calculus_Delay_1 z6v z1f zbQ z6G = some r)
  (hown : Hp (fps [stb z2O 98 [(.int .i64 z6v.fE)]]) w₀ w₀ [stb z2O 98 [(.int .i64 z6v.fE)]]) :
  Calls Try.prog 32 #[(.pointer (some ⟨z2O,0,none⟩)),(.agg #[(.int .i64 z1f.fN),(.int .i64 z1f.fD)]),(.pointer (some zeC)),(.pointer (some zeD))] w₀ fun e w'=>e = .returned (.agg #[(.int .i64 r.1.fN),(.int .i64 r.1.fD)]) ∧ Hp (fps [stb z2O 98 [(.int .i64 z6v.fE)]]) w₀ w' [stb z2O 98 [(.int .i64 r.2.fE)]]:=by
 unfold m_calculus_Delay_1 at h
 refine Calls.ofWC (vs:=[(.pointer (some ⟨z2O,0,none⟩)),(.agg #[(.int .i64 z1f.fN),(.int .i64 z1f.fD)]),(.pointer (some zeC)),(.pointer (some zeD))]) (pre:=[stb z2O 98 [(.int .i64 z6v.fE)]]) (env:=[(0,(.pointer (some ⟨z2O,0,none⟩))),(1,(.agg #[(.int .i64 z1f.fN),(.int .i64 z1f.fD)])),(2,(.pointer (some zeC))),(3,(.pointer (some zeD)))]) Try.func32 rfl Try.ntmps32 rfl (hown) rfl ?_
 refine WC.seq ?_
 refine WC.region ?_
 refine WL.new (dd:=5) rfl rfl rfl (e_box (cs:=[(.int .i64 z1f.fN),(.int .i64 z1f.fD)]) rfl rfl) ?_
 intro z3Z _
 refine WL.new (dd:=6) rfl rfl rfl (e_alloc (cs:=[(.int .i64 0),(.int .i64 0)]) zeroT_30 rfl) ?_
 intro z4k _
 refine WL.nil ?_
 refine WX.then ?_
 refine WC.seq ?_
 obtain ⟨z7O,zuk,h⟩:=ze h
 obtain ⟨z7P,zul,h⟩:=ze h
 obtain ⟨z7Q,zum,h⟩:=ze h
 obtain ⟨zaK,zun,h⟩:=ze h
 refine WC.draw (fun i=>[6,9,11,14,15].contains i) [stb z3Z 30 [(.int .i64 z1f.fN),(.int .i64 z1f.fD)]] rfl ?_
 refine WD.pure (i:=0) (d:=7) (by kernel_rfl) rfl (z6 (by kernel_rfl)) (z7 (by kernel_rfl)) rfl rfl rfl (fun _=>q_move rfl) ?_
 refine WD.pure (i:=1) (d:=8) (by kernel_rfl) rfl (z6 (by kernel_rfl)) (z7 (by kernel_rfl)) rfl rfl rfl (fun _=>q_move rfl) ?_
 refine WD.pure (i:=2) (d:=9) (by kernel_rfl) rfl (z6 (by kernel_rfl)) (z7 (by kernel_rfl)) rfl rfl rfl (fun _=>q_move rfl) ?_
 refine WD.pure (i:=3) (d:=10) (by kernel_rfl) rfl (z6 (by kernel_rfl)) (z7 (by kernel_rfl)) rfl rfl rfl (fun _=>q_move rfl) ?_
 refine WD.quiet (i:=4) (d:=11) (by kernel_rfl) rfl (z6 (by kernel_rfl)) (z7 (by kernel_rfl)) rfl rfl rfl (q_load1 oneT_26 rfl (rd_z hz.pv zuj rfl)) ?_
 refine WD.quiet (i:=5) (d:=12) (by kernel_rfl) rfl (z6 (by kernel_rfl)) (z7 (by kernel_rfl)) rfl rfl rfl (q_loadA (cs:=[(.int .i64 z1f.fN),(.int .i64 z1f.fD)]) aggT_30 rfl rfl (rd_all (.there .here))) ?_
 refine WD.pure (i:=7) (d:=14) (by kernel_rfl) rfl (z6 (by kernel_rfl)) (z7 (by kernel_rfl)) rfl rfl rfl (fun _=>q_fieldAddr fo_43_0 rfl rfl) ?_
 refine WD.stable (i:=8) (d:=15) (by kernel_rfl) rfl (z6 (by kernel_rfl)) (z7 (by kernel_rfl)) rfl rfl rfl (Sin.of (.cons (.there .here) .nil)) (q_loadA (cs:=[(.int .i64 z6G.fRate.fN),(.int .i64 z6G.fRate.fD)]) aggT_30 rfl rfl (rd_zsub (off:=0) (s:=2) hz.pv zov rfl)) ?_
 refine WD.stable (i:=10) (d:=17) (by kernel_rfl) rfl (z6 (by kernel_rfl)) (z7 (by kernel_rfl)) rfl rfl rfl (Sin.of (.cons (.there .here) .nil)) (q_loadA (cs:=[(.int .i64 z1f.fN),(.int .i64 z1f.fD)]) aggT_30 rfl rfl (rd_all .here)) ?_
 refine WD.pure (i:=12) (d:=19) (by kernel_rfl) rfl (z6 (by kernel_rfl)) (z7 (by kernel_rfl)) rfl rfl rfl (fun _=>q_fieldAddr fo_43_1 rfl rfl) ?_
 refine WD.stable (i:=13) (d:=20) (by kernel_rfl) rfl (z6 (by kernel_rfl)) (z7 (by kernel_rfl)) rfl rfl rfl (Sin.of (.cons (.there .here) .nil)) (q_loadA (cs:=[(.int .i64 z6G.fLatency.fN),(.int .i64 z6G.fLatency.fD)]) aggT_30 rfl rfl (rd_zsub (off:=2) (s:=2) hz.pv zov rfl)) ?_
 refine WD.call0 (i:=6) (dd:=13) rfl (by kernel_rfl) rfl rfl rfl (.inl ⟨rfl,(Sin.of (.cons (.there (.there .here)) .nil))⟩) (zn (l:=[.tmp 10,.tmp 11,.tmp 12]) Try.call35 (.cons rfl (.cons rfl (.cons rfl .nil)))) ((.cons (.there (.there .here)) .nil) : Sel [stb z4k 30 [(.int .i64 0),(.int .i64 0)],stb z3Z 30 [(.int .i64 z1f.fN),(.int .i64 z1f.fD)],stb z2O 98 [(.int .i64 z6v.fE)]] [stb z2O 98 [(.int .i64 z6v.fE)]] [stb z4k 30 [(.int .i64 0),(.int .i64 0)],stb z3Z 30 [(.int .i64 z1f.fN),(.int .i64 z1f.fD)]]) (fun w hw=>by have pz:=(hz.call hw ((.cons (.there (.there .here)) .nil) : Sel [stb z4k 30 [(.int .i64 0),(.int .i64 0)],stb z3Z 30 [(.int .i64 z1f.fN),(.int .i64 z1f.fD)],stb z2O 98 [(.int .i64 z6v.fE)]] [stb z2O 98 [(.int .i64 z6v.fE)]] [stb z4k 30 [(.int .i64 0),(.int .i64 0)],stb z3Z 30 [(.int .i64 z1f.fN),(.int .i64 z1f.fD)]])); exact Calls.mono (w_calculus_calc_total (Z:=_) (z3b:=z2O) (zaH:=zgw) (zaI:=zgx) (z6F:=z6v) (z4J:=zbQ) (z1T:=z1f) (r:=z7O) w pz zui zuk (hw.owns ((.cons (.there (.there .here)) .nil) : Sel [stb z4k 30 [(.int .i64 0),(.int .i64 0)],stb z3Z 30 [(.int .i64 z1f.fN),(.int .i64 z1f.fD)],stb z2O 98 [(.int .i64 z6v.fE)]] [stb z2O 98 [(.int .i64 z6v.fE)]] [stb z4k 30 [(.int .i64 0),(.int .i64 0)],stb z3Z 30 [(.int .i64 z1f.fN),(.int .i64 z1f.fD)]]))) (fun _ _ h'=>⟨h'.1,trivial,h'.2⟩)) ?_
 intro _
 refine WD.call0 (i:=9) (dd:=16) rfl (by kernel_rfl) rfl rfl rfl (.inl ⟨rfl,(Sin.of (.cons (.there (.there .here)) .nil))⟩) (zn (l:=[.tmp 9,.func 34,.tmp 13,.tmp 15]) Try.call33 (.cons rfl (.cons rfl (.cons rfl (.cons rfl .nil))))) ((.cons .here .nil) : Sel [stb z2O 98 [(.int .i64 z7O.2.fE)],stb z4k 30 [(.int .i64 0),(.int .i64 0)],stb z3Z 30 [(.int .i64 z1f.fN),(.int .i64 z1f.fD)]] [stb z2O 98 [(.int .i64 z7O.2.fE)]] [stb z4k 30 [(.int .i64 0),(.int .i64 0)],stb z3Z 30 [(.int .i64 z1f.fN),(.int .i64 z1f.fD)]]) (fun w hw=>by have pz:=(hz.call hw ((.cons .here .nil) : Sel [stb z2O 98 [(.int .i64 z7O.2.fE)],stb z4k 30 [(.int .i64 0),(.int .i64 0)],stb z3Z 30 [(.int .i64 z1f.fN),(.int .i64 z1f.fD)]] [stb z2O 98 [(.int .i64 z7O.2.fE)]] [stb z4k 30 [(.int .i64 0),(.int .i64 0)],stb z3Z 30 [(.int .i64 z1f.fN),(.int .i64 z1f.fD)]])); exact Calls.mono (w_calculus_calc_do (Z:=_) (z3R:=z2O) (z6q:=34) (z6Y:=[]) (z4H:=z7O.2) (z7h:=(fun (y0 : z2) (y1 : z2)=>m_rat_Div y0 y1)) (z2H:=z7O.1) (z2I:=z6G.fRate) (r:=z7P) w pz Try.call34 (fun w' hz' y0 y1  r  hr=>w_rat_Div (Z:=_)  (z4c:=y0) (z4d:=y1) (r:=r) w' hz'  hr) zul (hw.owns ((.cons .here .nil) : Sel [stb z2O 98 [(.int .i64 z7O.2.fE)],stb z4k 30 [(.int .i64 0),(.int .i64 0)],stb z3Z 30 [(.int .i64 z1f.fN),(.int .i64 z1f.fD)]] [stb z2O 98 [(.int .i64 z7O.2.fE)]] [stb z4k 30 [(.int .i64 0),(.int .i64 0)],stb z3Z 30 [(.int .i64 z1f.fN),(.int .i64 z1f.fD)]]))) (fun _ _ h'=>⟨h'.1,trivial,h'.2⟩)) ?_
 intro _
 refine WD.call0 (i:=11) (dd:=18) rfl (by kernel_rfl) rfl rfl rfl (.inl ⟨rfl,(Sin.of (.cons (.there (.there .here)) .nil))⟩) (zn (l:=[.tmp 8,.func 24,.tmp 16,.tmp 17]) Try.call33 (.cons rfl (.cons rfl (.cons rfl (.cons rfl .nil))))) ((.cons .here .nil) : Sel [stb z2O 98 [(.int .i64 z7P.2.fE)],stb z4k 30 [(.int .i64 0),(.int .i64 0)],stb z3Z 30 [(.int .i64 z1f.fN),(.int .i64 z1f.fD)]] [stb z2O 98 [(.int .i64 z7P.2.fE)]] [stb z4k 30 [(.int .i64 0),(.int .i64 0)],stb z3Z 30 [(.int .i64 z1f.fN),(.int .i64 z1f.fD)]]) (fun w hw=>by have pz:=(hz.call hw ((.cons .here .nil) : Sel [stb z2O 98 [(.int .i64 z7P.2.fE)],stb z4k 30 [(.int .i64 0),(.int .i64 0)],stb z3Z 30 [(.int .i64 z1f.fN),(.int .i64 z1f.fD)]] [stb z2O 98 [(.int .i64 z7P.2.fE)]] [stb z4k 30 [(.int .i64 0),(.int .i64 0)],stb z3Z 30 [(.int .i64 z1f.fN),(.int .i64 z1f.fD)]])); exact Calls.mono (w_calculus_calc_do (Z:=_) (z3R:=z2O) (z6q:=24) (z6Y:=[]) (z4H:=z7P.2) (z7h:=(fun (y0 : z2) (y1 : z2)=>m_rat_Sub y0 y1)) (z2H:=z7P.1) (z2I:=z1f) (r:=z7Q) w pz Try.call24 (fun w' hz' y0 y1  r  hr=>w_rat_Sub (Z:=_)  (z3C:=y0) (z3D:=y1) (r:=r) w' hz'  hr) zum (hw.owns ((.cons .here .nil) : Sel [stb z2O 98 [(.int .i64 z7P.2.fE)],stb z4k 30 [(.int .i64 0),(.int .i64 0)],stb z3Z 30 [(.int .i64 z1f.fN),(.int .i64 z1f.fD)]] [stb z2O 98 [(.int .i64 z7P.2.fE)]] [stb z4k 30 [(.int .i64 0),(.int .i64 0)],stb z3Z 30 [(.int .i64 z1f.fN),(.int .i64 z1f.fD)]]))) (fun _ _ h'=>⟨h'.1,trivial,h'.2⟩)) ?_
 intro _
 refine WD.call0 (i:=14) (dd:=21) rfl (by kernel_rfl) rfl rfl rfl (.inl ⟨rfl,(Sin.of (.cons (.there (.there .here)) .nil))⟩) (zn (l:=[.tmp 7,.func 19,.tmp 18,.tmp 20]) Try.call33 (.cons rfl (.cons rfl (.cons rfl (.cons rfl .nil))))) ((.cons .here .nil) : Sel [stb z2O 98 [(.int .i64 z7Q.2.fE)],stb z4k 30 [(.int .i64 0),(.int .i64 0)],stb z3Z 30 [(.int .i64 z1f.fN),(.int .i64 z1f.fD)]] [stb z2O 98 [(.int .i64 z7Q.2.fE)]] [stb z4k 30 [(.int .i64 0),(.int .i64 0)],stb z3Z 30 [(.int .i64 z1f.fN),(.int .i64 z1f.fD)]]) (fun w hw=>by have pz:=(hz.call hw ((.cons .here .nil) : Sel [stb z2O 98 [(.int .i64 z7Q.2.fE)],stb z4k 30 [(.int .i64 0),(.int .i64 0)],stb z3Z 30 [(.int .i64 z1f.fN),(.int .i64 z1f.fD)]] [stb z2O 98 [(.int .i64 z7Q.2.fE)]] [stb z4k 30 [(.int .i64 0),(.int .i64 0)],stb z3Z 30 [(.int .i64 z1f.fN),(.int .i64 z1f.fD)]])); exact Calls.mono (w_calculus_calc_do (Z:=_) (z3R:=z2O) (z6q:=19) (z6Y:=[]) (z4H:=z7Q.2) (z7h:=(fun (y0 : z2) (y1 : z2)=>m_rat_Add y0 y1)) (z2H:=z7Q.1) (z2I:=z6G.fLatency) (r:=zaK) w pz Try.call19 (fun w' hz' y0 y1  r  hr=>w_rat_Add (Z:=_)  (z3E:=y0) (z3F:=y1) (r:=r) w' hz'  hr) zun (hw.owns ((.cons .here .nil) : Sel [stb z2O 98 [(.int .i64 z7Q.2.fE)],stb z4k 30 [(.int .i64 0),(.int .i64 0)],stb z3Z 30 [(.int .i64 z1f.fN),(.int .i64 z1f.fD)]] [stb z2O 98 [(.int .i64 z7Q.2.fE)]] [stb z4k 30 [(.int .i64 0),(.int .i64 0)],stb z3Z 30 [(.int .i64 z1f.fN),(.int .i64 z1f.fD)]]))) (fun _ _ h'=>⟨h'.1,trivial,h'.2⟩)) ?_
 intro _
 refine WD.last0 (i:=15) rfl (by kernel_rfl) rfl rfl rfl (by kernel_rfl) (e_store (vs:=[(.int .i64 zaK.1.fN),(.int .i64 zaK.1.fD)]) (ds:=[(.int .i64 zaK.1.fN),(.int .i64 zaK.1.fD)]) sizT_30 rfl rfl rfl rfl (oc_cons rfl (oc_cons rfl oc_nil)) (.there .here) (Nat.le_of_ble_eq_true rfl) rfl) ?_
 refine WD.done (by kernel_rfl) ?_
 refine WX.then ?_
 refine WC.ret ?_
 obtain rfl:=Option.some.inj h
 refine WX.bpRet Try.results32 (.agg rfl aggT_30 rfl (rd_all .here) .nil) (fun w hw=>?_)
 exact ⟨ret1 rfl,hw.sub (.cons (.there .here) .nil)⟩
def m_calculus_search_max_R4 (z67 : List (List z1)) (z5i : Sapi_Server) (z36 : z2) (z28 : List z2) (z8m : Int) : Option (Bool × (Nat × List z2 × Int)) :=
 (m_calculus_Delay_1 (⟨z8m⟩ : z2a) z36 z67 z5i).bind fun z3c=>(if decide (((z28.length : Nat) : Int) = 0) then some true else chk ((0 : Int) ≤ 0 ∧ 0 < ((z28.length : Nat) : Int)) ((m_rat_Cmp z3c.1 (⟨((nth z28 0).fN),((nth z28 0).fD)⟩ : z2)).bind fun zki=>some (decide (zki > 0)))).bind fun zkj=>if zkj then some (true,(0,([z3c.1] : List z2),z3c.2.fE)) else some (true,(0,z28,z3c.2.fE))
def m_calculus_search_max (z1t : List (List z1)) (zk : Sapi_Server) (z67 : List (List z1)) (z5i : Sapi_Server) (z1u : List z2) : Option (z2 × Int) :=
 (m_calculus_search_check z1t zk z67 z5i z1u).bind fun zdj=>if decide (zdj ≠ 0) then some ((⟨0,0⟩ : z2),zdj) else jp2 (fun (z8O : Int) (z5I : List z2)=>if decide (z8O ≠ 0) then some ((⟨0,0⟩ : z2),z8O) else chk ((0 : Int) ≤ 0 ∧ 0 < ((z5I.length : Nat) : Int)) (some ((⟨((nth z5I 0).fN),((nth z5I 0).fD)⟩ : z2),0))) fun zkk=>(m_calculus_search_points z1t zk z67 z5i z1u).bind fun z19=>(m_calculus_search_points_1 (Nat × List z2 × Int) (fun (x : z2) (s : Nat × List z2 × Int)=>chk (s.1 = 0) (m_calculus_search_max_R4 z67 z5i x s.2.1 s.2.2)) (0,([] : List z2),0) z1t (⟨(⟨z19.1,z19.2.1⟩ : z2),(⟨z19.2.2.1,z19.2.2.2⟩ : z2)⟩ : Sapi_Server) z67 z5i z1u).bind fun z5j=>zkk z5j.2.2 z5j.2.1
set_option maxRecDepth 20000 in
theorem w_calculus_search_max (Z : Zp)  (z1H : Option Addr) (z1I : Nat) (z1B : Addr) (zbR : Option Addr) (zbS : Nat) (z1C : Addr) (z1J : Option Addr) (z1K : Nat) (z1t : List (List z1)) (zk : Sapi_Server) (z67 : List (List z1)) (z5i : Sapi_Server) (z1u : List z2) (r : z2 × Int) (w₀ : World) (hz : PZ [] w₀ Z)
  (zkl : ZS Z 1 (p39 Z) z1H z1I z1t)
  (zgy : ZS Z 1 (p39 Z) zbR zbS z67)
  (zgz : ZC Z z1B [(.slice zbR z67.length zbS)])
  (zgA : ZC Z z1C [(.int .i64 z5i.fRate.fN),(.int .i64 z5i.fRate.fD),(.int .i64 z5i.fLatency.fN),(.int .i64 z5i.fLatency.fD)])
  (zkm : ZS Z 2 (fun r x=>r = e30 x) z1J z1K z1u)
  (h : m_calculus_search_max z1t zk z67 z5i z1u = some r) :
  Calls Try.prog 36 #[(.agg #[(.slice z1H z1t.length z1I),(.int .i64 zk.fRate.fN),(.int .i64 zk.fRate.fD),(.int .i64 zk.fLatency.fN),(.int .i64 zk.fLatency.fD),(.func (.func 32) #[] #[(.pointer (some z1B)),(.pointer (some z1C))]),(.slice z1J z1u.length z1K)])] w₀ fun e w'=>∃ Zn : Zp,e = .returned (.tuple #[(.agg #[(.int .i64 r.1.fN),(.int .i64 r.1.fD)]),(.int .i64 r.2)]) ∧ True ∧ Hp [] w₀ w' [fz Zn]:=by
 unfold m_calculus_search_max at h
 refine Calls.ofWCM (vs:=[(.agg #[(.slice z1H z1t.length z1I),(.int .i64 zk.fRate.fN),(.int .i64 zk.fRate.fD),(.int .i64 zk.fLatency.fN),(.int .i64 zk.fLatency.fD),(.func (.func 32) #[] #[(.pointer (some z1B)),(.pointer (some z1C))]),(.slice z1J z1u.length z1K)])]) (pre:=[]) (env:=[(0,(.agg #[(.slice z1H z1t.length z1I),(.int .i64 zk.fRate.fN),(.int .i64 zk.fRate.fD),(.int .i64 zk.fLatency.fN),(.int .i64 zk.fLatency.fD),(.func (.func 32) #[] #[(.pointer (some z1B)),(.pointer (some z1C))]),(.slice z1J z1u.length z1K)]))]) Try.func36 rfl Try.ntmps36 rfl (Hp.nil w₀ _) rfl ?_
 refine WC.pool ?_
 refine WC.seq ?_
 refine WC.region ?_
 refine WL.new (dd:=1) rfl rfl rfl (e_box (cs:=[(.slice z1H z1t.length z1I),(.int .i64 zk.fRate.fN),(.int .i64 zk.fRate.fD),(.int .i64 zk.fLatency.fN),(.int .i64 zk.fLatency.fD),(.func (.func 32) #[] #[(.pointer (some z1B)),(.pointer (some z1C))]),(.slice z1J z1u.length z1K)]) rfl rfl) ?_
 intro z2P _
 refine WL.new (dd:=2) rfl rfl rfl (e_alloc (cs:=[(.int .i64 0),(.int .i64 0)]) zeroT_30 rfl) ?_
 intro z2R _
 refine WL.quiet (d:=3) rfl rfl rfl (q_assign rfl) ?_
 refine WL.nil ?_
 refine WX.then ?_
 refine WC.seq ?_
 refine WC.seq ?_
 obtain ⟨zdj,zuo,h⟩:=ze h
 refine WC.region ?_
 refine WL.quiet (d:=9) rfl rfl rfl (q_loadA (cs:=[(.slice z1H z1t.length z1I),(.int .i64 zk.fRate.fN),(.int .i64 zk.fRate.fD),(.int .i64 zk.fLatency.fN),(.int .i64 zk.fLatency.fD),(.func (.func 32) #[] #[(.pointer (some z1B)),(.pointer (some z1C))]),(.slice z1J z1u.length z1K)]) aggT_79 rfl rfl (rd_all (.there .here))) ?_
 refine WL.enter1 (dd:=10) rfl rfl rfl (zn (l:=[.tmp 9]) Try.call52 (.cons rfl .nil)) (.nil : Sel [stb z2R 30 [(.int .i64 0),(.int .i64 0)],stb z2P 79 [(.slice z1H z1t.length z1I),(.int .i64 zk.fRate.fN),(.int .i64 zk.fRate.fD),(.int .i64 zk.fLatency.fN),(.int .i64 zk.fLatency.fD),(.func (.func 32) #[] #[(.pointer (some z1B)),(.pointer (some z1C))]),(.slice z1J z1u.length z1K)],fz []] [] [stb z2R 30 [(.int .i64 0),(.int .i64 0)],stb z2P 79 [(.slice z1H z1t.length z1I),(.int .i64 zk.fRate.fN),(.int .i64 zk.fRate.fD),(.int .i64 zk.fLatency.fN),(.int .i64 zk.fLatency.fD),(.func (.func 32) #[] #[(.pointer (some z1B)),(.pointer (some z1C))]),(.slice z1J z1u.length z1K)],fz []]) (fun w hw=>by have pz:=(hz.call2 hw (.nil : Sel [stb z2R 30 [(.int .i64 0),(.int .i64 0)],stb z2P 79 [(.slice z1H z1t.length z1I),(.int .i64 zk.fRate.fN),(.int .i64 zk.fRate.fD),(.int .i64 zk.fLatency.fN),(.int .i64 zk.fLatency.fD),(.func (.func 32) #[] #[(.pointer (some z1B)),(.pointer (some z1C))]),(.slice z1J z1u.length z1K)],fz []] [] [stb z2R 30 [(.int .i64 0),(.int .i64 0)],stb z2P 79 [(.slice z1H z1t.length z1I),(.int .i64 zk.fRate.fN),(.int .i64 zk.fRate.fD),(.int .i64 zk.fLatency.fN),(.int .i64 zk.fLatency.fD),(.func (.func 32) #[] #[(.pointer (some z1B)),(.pointer (some z1C))]),(.slice z1J z1u.length z1K)],fz []]) (.there (.there .here))); exact w_calculus_search_check (Z:=_) (z2h:=z1H) (z2i:=z1I) (z2s:=z1B) (zjs:=zbR) (zjt:=zbS) (z2t:=z1C) (z2u:=z1J) (z2v:=z1K) (z1G:=z1t) (zi:=zk) (zel:=z67) (zby:=z5i) (z2g:=z1u) (r:=zdj) w pz ((zkl.mono (Zle.left _ _)).weak (fun _ _ h=>p39_mono (Zle.left _ _) h)) ((zgy.mono (Zle.left _ _)).weak (fun _ _ h=>p39_mono (Zle.left _ _) h)) (zgz.mono (Zle.left _ _)) (zgA.mono (Zle.left _ _)) (zkm.mono (Zle.left _ _)) zuo) ?_
 rintro z5k _
 refine WL.merge .here (.there (.there .here)) ?_
 refine WL.quiet (d:=4) rfl rfl rfl (q_assign rfl) ?_
 refine WL.nil ?_
 refine WX.then ?_
 refine WC.seq ?_
 refine WC.region ?_
 refine WL.quiet (d:=11) rfl rfl rfl (q_move rfl) ?_
 refine WL.quiet (d:=12) rfl rfl rfl (q_neq rfl rfl) ?_
 refine WL.nil ?_
 refine WX.then ?_
 refine WC.cond rfl (fun zkn=>?_) (fun zkn=>?_)
 ·replace h:=ite_t h zkn
  refine WC.seq ?_
  refine WC.region ?_
  refine WL.quiet (d:=13) rfl rfl rfl (q_build (v:=(.agg #[(.int .i64 0),(.int .i64 0)])) (Eos.parts (l:=[]) .nil []) (fun _=>by kernel_rfl)) ?_
  refine WL.quiet (d:=14) rfl rfl rfl (q_move rfl) ?_
  refine WL.eff0 rfl rfl (e_store (vs:=[(.int .i64 0),(.int .i64 0)]) (ds:=[(.int .i64 0),(.int .i64 0)]) sizT_30 rfl rfl rfl rfl (oc_cons rfl (oc_cons rfl oc_nil)) (.there .here) (Nat.le_of_ble_eq_true rfl) rfl) ?_
  refine WL.quiet (d:=3) rfl rfl rfl (q_assign rfl) ?_
  refine WL.nil ?_
  refine WX.then ?_
  refine WC.ret ?_
  refine WX.thenRet ?_
  obtain rfl:=Option.some.inj h
  refine WX.bpRetM Try.results36 (.agg rfl aggT_30 rfl (rd_all .here) (.tmp rfl .nil)) (fun w hw=>?_)
  exact ⟨([] ++ z5k),ret2 rfl rfl,trivial,hw.sub (.cons (.there .here) .nil)⟩
 ·replace h:=ite_f h zkn
  refine WC.skip ?_
  refine WX.then ?_
  refine WC.seq ?_
  refine WC.region ?_
  refine WL.new (dd:=5) rfl rfl rfl (e_alloc (cs:=[(.int .i64 0)]) zeroT_98 rfl) ?_
  intro z2S _
  refine WL.nil ?_
  refine WX.then ?_
  refine WC.seq ?_
  refine WC.region ?_
  refine WL.new (dd:=6) rfl rfl rfl (e_alloc (cs:=[(.slice none 0 0)]) zeroT_77 rfl) ?_
  intro z2Z _
  refine WL.nil ?_
  refine WX.then ?_
  obtain ⟨zkk,zup,h⟩:=jp2_elim h
  refine WC.seqMidR6 (fun (zeE : Nat) (z8O : Int) (z5I : List z2) (zbT : Zp) (zeF : Option Addr) (zeG : Nat)=>(zkk z8O z5I = some r) ∧ (Zle (Z ++ ([] ++ z5k)) (Z ++ zbT))) (fun (zeE : Nat) (z8O : Int) (z5I : List z2) (zbT : Zp) (zeF : Option Addr) (zeG : Nat)=>[(2,(.pointer (some ⟨z2R,0,none⟩))),(5,(.pointer (some ⟨z2S,0,none⟩))),(6,(.pointer (some ⟨z2Z,0,none⟩)))]) (fun (zeE : Nat) (z8O : Int) (z5I : List z2) (zbT : Zp) (zeF : Option Addr) (zeG : Nat)=>[fz zbT,stb z2R 30 [(.int .i64 0),(.int .i64 0)],stb z2S 98 [(.int .i64 z8O)],stb z2Z 77 [(.slice zeF z5I.length zeG)],row (.slice zeF z5I.length zeG) 30 2 (z5I.flatMap e30),dfr zeE]) ?_ ?_
  ·skip
   refine WC.seq ?_
   obtain ⟨z19,zuq,h⟩:=ze h
   refine WC.region ?_
   refine WL.quiet (d:=15) rfl rfl rfl (q_loadA (cs:=[(.slice z1H z1t.length z1I),(.int .i64 zk.fRate.fN),(.int .i64 zk.fRate.fD),(.int .i64 zk.fLatency.fN),(.int .i64 zk.fLatency.fD),(.func (.func 32) #[] #[(.pointer (some z1B)),(.pointer (some z1C))]),(.slice z1J z1u.length z1K)]) aggT_79 rfl rfl (rd_all (.there (.there (.there (.there .here)))))) ?_
   refine WL.enter1 (dd:=16) rfl rfl rfl (zn (l:=[.tmp 15]) Try.call53 (.cons rfl .nil)) (.nil : Sel [stb z2Z 77 [(.slice none 0 0)],stb z2S 98 [(.int .i64 0)],fz ([] ++ z5k),stb z2R 30 [(.int .i64 0),(.int .i64 0)],stb z2P 79 [(.slice z1H z1t.length z1I),(.int .i64 zk.fRate.fN),(.int .i64 zk.fRate.fD),(.int .i64 zk.fLatency.fN),(.int .i64 zk.fLatency.fD),(.func (.func 32) #[] #[(.pointer (some z1B)),(.pointer (some z1C))]),(.slice z1J z1u.length z1K)]] [] [stb z2Z 77 [(.slice none 0 0)],stb z2S 98 [(.int .i64 0)],fz ([] ++ z5k),stb z2R 30 [(.int .i64 0),(.int .i64 0)],stb z2P 79 [(.slice z1H z1t.length z1I),(.int .i64 zk.fRate.fN),(.int .i64 zk.fRate.fD),(.int .i64 zk.fLatency.fN),(.int .i64 zk.fLatency.fD),(.func (.func 32) #[] #[(.pointer (some z1B)),(.pointer (some z1C))]),(.slice z1J z1u.length z1K)]]) (fun w hw=>by have pz:=(hz.call2 hw (.nil : Sel [stb z2Z 77 [(.slice none 0 0)],stb z2S 98 [(.int .i64 0)],fz ([] ++ z5k),stb z2R 30 [(.int .i64 0),(.int .i64 0)],stb z2P 79 [(.slice z1H z1t.length z1I),(.int .i64 zk.fRate.fN),(.int .i64 zk.fRate.fD),(.int .i64 zk.fLatency.fN),(.int .i64 zk.fLatency.fD),(.func (.func 32) #[] #[(.pointer (some z1B)),(.pointer (some z1C))]),(.slice z1J z1u.length z1K)]] [] [stb z2Z 77 [(.slice none 0 0)],stb z2S 98 [(.int .i64 0)],fz ([] ++ z5k),stb z2R 30 [(.int .i64 0),(.int .i64 0)],stb z2P 79 [(.slice z1H z1t.length z1I),(.int .i64 zk.fRate.fN),(.int .i64 zk.fRate.fD),(.int .i64 zk.fLatency.fN),(.int .i64 zk.fLatency.fD),(.func (.func 32) #[] #[(.pointer (some z1B)),(.pointer (some z1C))]),(.slice z1J z1u.length z1K)]]) (.there (.there .here))); exact w_calculus_search_points (Z:=_) (zbA:=z1H) (zbB:=z1I) (zbC:=z1B) (zjB:=zbR) (zjC:=zbS) (zbD:=z1C) (zbE:=z1J) (zbF:=z1K) (z9B:=z1t) (z4t:=zk) (zep:=z67) (zbz:=z5i) (z9C:=z1u) (r:=z19) w pz ((zkl.mono ((Zle.left _ _).trans ((Zle.left _ _).trans (Zle.assoc _ _ _)))).weak (fun _ _ h=>p39_mono ((Zle.left _ _).trans ((Zle.left _ _).trans (Zle.assoc _ _ _))) h)) ((zgy.mono ((Zle.left _ _).trans ((Zle.left _ _).trans (Zle.assoc _ _ _)))).weak (fun _ _ h=>p39_mono ((Zle.left _ _).trans ((Zle.left _ _).trans (Zle.assoc _ _ _))) h)) (zgz.mono ((Zle.left _ _).trans ((Zle.left _ _).trans (Zle.assoc _ _ _)))) (zgA.mono ((Zle.left _ _).trans ((Zle.left _ _).trans (Zle.assoc _ _ _)))) (zkm.mono ((Zle.left _ _).trans ((Zle.left _ _).trans (Zle.assoc _ _ _)))) zuq) ?_
   rintro z5J _
   refine WL.nil ?_
   refine WX.then ?_
   refine WC.block ?_
   refine WC.pool ?_
   refine WC.drop (.cons .here (.cons (.there .here) (.cons (.there .here) (.cons (.there (.there .here)) (.cons (.there (.there .here)) (.cons .here (.cons .here .nil))))))) ?_
   refine WC.nilRow 30 2 ?_
   refine WC.rangeFunc (f:=69) (caps:=[(.pointer (some ⟨z5J,0,none⟩))]) rfl Try.call69 ?_
   intro zyy zyz z3J z72 z40 zgB zur zus w hw
   have hw1:=hw.selAll ((.cons (.there (.there (.there .here))) (.cons (.there (.there (.there .here))) (.cons (.there (.there .here)) (.cons (.there (.there .here)) (.cons (.there (.there .here)) (.cons (.there (.there .here)) (.cons .here .nil))))))) : Sel _ [fz [],stb z2Z 77 [(.slice none (([] : List z2).length) 0)],row (.slice none (([] : List z2).length) 0) 30 2 (([] : List z2).flatMap e30),stb z2S 98 [(.int .i64 0)],stb z2R 30 [(.int .i64 0),(.int .i64 0)],stb z2P 79 [(.slice z1H z1t.length z1I),(.int .i64 zk.fRate.fN),(.int .i64 zk.fRate.fD),(.int .i64 zk.fLatency.fN),(.int .i64 zk.fLatency.fD),(.func (.func 32) #[] #[(.pointer (some z1B)),(.pointer (some z1C))]),(.slice z1J z1u.length z1K)],blk z3J (z40 .ready none)] _)
   have pz:=(hz.call2 hw1 ((.cons .here .nil) : Sel [allA [fz [],stb z2Z 77 [(.slice none (([] : List z2).length) 0)],row (.slice none (([] : List z2).length) 0) 30 2 (([] : List z2).flatMap e30),stb z2S 98 [(.int .i64 0)],stb z2R 30 [(.int .i64 0),(.int .i64 0)],stb z2P 79 [(.slice z1H z1t.length z1I),(.int .i64 zk.fRate.fN),(.int .i64 zk.fRate.fD),(.int .i64 zk.fLatency.fN),(.int .i64 zk.fLatency.fD),(.func (.func 32) #[] #[(.pointer (some z1B)),(.pointer (some z1C))]),(.slice z1J z1u.length z1K)],blk z3J (z40 .ready none)],dfr z72,stb z5J 79 [(.slice z1H z1t.length z1I),(.int .i64 z19.1),(.int .i64 z19.2.1),(.int .i64 z19.2.2.1),(.int .i64 z19.2.2.2),(.func (.func 32) #[] #[(.pointer (some z1B)),(.pointer (some z1C))]),(.slice z1J z1u.length z1K)],fz ([] ++ z5k)] [allA [fz [],stb z2Z 77 [(.slice none (([] : List z2).length) 0)],row (.slice none (([] : List z2).length) 0) 30 2 (([] : List z2).flatMap e30),stb z2S 98 [(.int .i64 0)],stb z2R 30 [(.int .i64 0),(.int .i64 0)],stb z2P 79 [(.slice z1H z1t.length z1I),(.int .i64 zk.fRate.fN),(.int .i64 zk.fRate.fD),(.int .i64 zk.fLatency.fN),(.int .i64 zk.fLatency.fD),(.func (.func 32) #[] #[(.pointer (some z1B)),(.pointer (some z1C))]),(.slice z1J z1u.length z1K)],blk z3J (z40 .ready none)]] [dfr z72,stb z5J 79 [(.slice z1H z1t.length z1I),(.int .i64 z19.1),(.int .i64 z19.2.1),(.int .i64 z19.2.2.1),(.int .i64 z19.2.2.2),(.func (.func 32) #[] #[(.pointer (some z1B)),(.pointer (some z1C))]),(.slice z1J z1u.length z1K)],fz ([] ++ z5k)]) (.there (.there .here))).lend hw1 ((.cons .here .nil) : Sel [allA [fz [],stb z2Z 77 [(.slice none (([] : List z2).length) 0)],row (.slice none (([] : List z2).length) 0) 30 2 (([] : List z2).flatMap e30),stb z2S 98 [(.int .i64 0)],stb z2R 30 [(.int .i64 0),(.int .i64 0)],stb z2P 79 [(.slice z1H z1t.length z1I),(.int .i64 zk.fRate.fN),(.int .i64 zk.fRate.fD),(.int .i64 zk.fLatency.fN),(.int .i64 zk.fLatency.fD),(.func (.func 32) #[] #[(.pointer (some z1B)),(.pointer (some z1C))]),(.slice z1J z1u.length z1K)],blk z3J (z40 .ready none)],dfr z72,stb z5J 79 [(.slice z1H z1t.length z1I),(.int .i64 z19.1),(.int .i64 z19.2.1),(.int .i64 z19.2.2.1),(.int .i64 z19.2.2.2),(.func (.func 32) #[] #[(.pointer (some z1B)),(.pointer (some z1C))]),(.slice z1J z1u.length z1K)],fz ([] ++ z5k)] [allA [fz [],stb z2Z 77 [(.slice none (([] : List z2).length) 0)],row (.slice none (([] : List z2).length) 0) 30 2 (([] : List z2).flatMap e30),stb z2S 98 [(.int .i64 0)],stb z2R 30 [(.int .i64 0),(.int .i64 0)],stb z2P 79 [(.slice z1H z1t.length z1I),(.int .i64 zk.fRate.fN),(.int .i64 zk.fRate.fD),(.int .i64 zk.fLatency.fN),(.int .i64 zk.fLatency.fD),(.func (.func 32) #[] #[(.pointer (some z1B)),(.pointer (some z1C))]),(.slice z1J z1u.length z1K)],blk z3J (z40 .ready none)]] [dfr z72,stb z5J 79 [(.slice z1H z1t.length z1I),(.int .i64 z19.1),(.int .i64 z19.2.1),(.int .i64 z19.2.2.1),(.int .i64 z19.2.2.2),(.func (.func 32) #[] #[(.pointer (some z1B)),(.pointer (some z1C))]),(.slice z1J z1u.length z1K)],fz ([] ++ z5k)]) (B:=[stb z5J 79 [(.slice z1H z1t.length z1I),(.int .i64 z19.1),(.int .i64 z19.2.1),(.int .i64 z19.2.2.1),(.int .i64 z19.2.2.2),(.func (.func 32) #[] #[(.pointer (some z1B)),(.pointer (some z1C))]),(.slice z1J z1u.length z1K)]]) (fun _ hx'=>((.cons (.there .here) .nil) : Sel _ [stb z5J 79 [(.slice z1H z1t.length z1I),(.int .i64 z19.1),(.int .i64 z19.2.1),(.int .i64 z19.2.2.1),(.int .i64 z19.2.2.2),(.func (.func 32) #[] #[(.pointer (some z1B)),(.pointer (some z1C))]),(.slice z1J z1u.length z1K)]] _).mem hx')
   obtain ⟨z5j,zut,h⟩:=ze h
   refine Calls.mono (w_calculus_search_points_1 (Z:=_) (z7i:=z3J) (z2j:=(Option Addr × Nat)) (z1o:=(fun (g : Option Addr × Nat) (s : Nat × List z2 × Int)=>allA ([fz [],stb z2Z 77 [(.slice g.1 s.2.1.length g.2)],row (.slice g.1 s.2.1.length g.2) 30 2 (s.2.1.flatMap e30),stb z2S 98 [(.int .i64 s.2.2)],stb z2R 30 [(.int .i64 0),(.int .i64 0)],stb z2P 79 [(.slice z1H z1t.length z1I),(.int .i64 zk.fRate.fN),(.int .i64 zk.fRate.fD),(.int .i64 zk.fLatency.fN),(.int .i64 zk.fLatency.fD),(.func (.func 32) #[] #[(.pointer (some z1B)),(.pointer (some z1C))]),(.slice z1J z1u.length z1K)]] ++ [blk z3J (z40 (rdy (pcs [] s.1)) (pcs [] s.1))]))) (z7j:=(fun (g : Option Addr × Nat) (s : Nat × List z2 × Int)=>True)) (z6Z:=(none,0)) (z8g:=⟨z5J,0,none⟩) (zaA:=z1H) (zaB:=z1I) (zjN:=z1B) (zjO:=zbR) (zjP:=zbS) (zjQ:=z1C) (zet:=z1J) (zeu:=z1K) (zu:=(Nat × List z2 × Int)) (z3H:=(fun (x : z2) (s : Nat × List z2 × Int)=>chk (s.1 = 0) (m_calculus_search_max_R4 z67 z5i x s.2.1 s.2.2))) (s0_16993:=(0,([] : List z2),0)) (z3V:=z1t) (zbG:=(⟨(⟨z19.1,z19.2.1⟩ : z2),(⟨z19.2.2.1,z19.2.2.2⟩ : z2)⟩ : Sapi_Server)) (zes:=z67) (zbH:=z5i) (z1d:=z1u) (r:=z5j) w pz ?_ trivial ((((zkl.mono ((Zle.left _ _).trans ((Zle.left _ _).trans (Zle.assoc _ _ _)))).weak (fun _ _ h=>p39_mono ((Zle.left _ _).trans ((Zle.left _ _).trans (Zle.assoc _ _ _))) h)).mono (Zle.left _ _)).weak (fun _ _ h=>p39_mono (Zle.left _ _) h)) ((((zgy.mono ((Zle.left _ _).trans ((Zle.left _ _).trans (Zle.assoc _ _ _)))).weak (fun _ _ h=>p39_mono ((Zle.left _ _).trans ((Zle.left _ _).trans (Zle.assoc _ _ _))) h)).mono (Zle.left _ _)).weak (fun _ _ h=>p39_mono (Zle.left _ _) h)) ((zgz.mono ((Zle.left _ _).trans ((Zle.left _ _).trans (Zle.assoc _ _ _)))).mono (Zle.left _ _)) ((zgA.mono ((Zle.left _ _).trans ((Zle.left _ _).trans (Zle.assoc _ _ _)))).mono (Zle.left _ _)) ((zkm.mono ((Zle.left _ _).trans ((Zle.left _ _).trans (Zle.assoc _ _ _)))).mono (Zle.left _ _)) ((hw1.lent ((.cons .here .nil) : Sel [allA [fz [],stb z2Z 77 [(.slice none (([] : List z2).length) 0)],row (.slice none (([] : List z2).length) 0) 30 2 (([] : List z2).flatMap e30),stb z2S 98 [(.int .i64 0)],stb z2R 30 [(.int .i64 0),(.int .i64 0)],stb z2P 79 [(.slice z1H z1t.length z1I),(.int .i64 zk.fRate.fN),(.int .i64 zk.fRate.fD),(.int .i64 zk.fLatency.fN),(.int .i64 zk.fLatency.fD),(.func (.func 32) #[] #[(.pointer (some z1B)),(.pointer (some z1C))]),(.slice z1J z1u.length z1K)],blk z3J (z40 .ready none)],dfr z72,stb z5J 79 [(.slice z1H z1t.length z1I),(.int .i64 z19.1),(.int .i64 z19.2.1),(.int .i64 z19.2.2.1),(.int .i64 z19.2.2.2),(.func (.func 32) #[] #[(.pointer (some z1B)),(.pointer (some z1C))]),(.slice z1J z1u.length z1K)],fz ([] ++ z5k)] [allA [fz [],stb z2Z 77 [(.slice none (([] : List z2).length) 0)],row (.slice none (([] : List z2).length) 0) 30 2 (([] : List z2).flatMap e30),stb z2S 98 [(.int .i64 0)],stb z2R 30 [(.int .i64 0),(.int .i64 0)],stb z2P 79 [(.slice z1H z1t.length z1I),(.int .i64 zk.fRate.fN),(.int .i64 zk.fRate.fD),(.int .i64 zk.fLatency.fN),(.int .i64 zk.fLatency.fD),(.func (.func 32) #[] #[(.pointer (some z1B)),(.pointer (some z1C))]),(.slice z1J z1u.length z1K)],blk z3J (z40 .ready none)]] [dfr z72,stb z5J 79 [(.slice z1H z1t.length z1I),(.int .i64 z19.1),(.int .i64 z19.2.1),(.int .i64 z19.2.2.1),(.int .i64 z19.2.2.2),(.func (.func 32) #[] #[(.pointer (some z1B)),(.pointer (some z1C))]),(.slice z1J z1u.length z1K)],fz ([] ++ z5k)]) (B:=[stb z5J 79 [(.slice z1H z1t.length z1I),(.int .i64 z19.1),(.int .i64 z19.2.1),(.int .i64 z19.2.2.1),(.int .i64 z19.2.2.2),(.func (.func 32) #[] #[(.pointer (some z1B)),(.pointer (some z1C))]),(.slice z1J z1u.length z1K)]]) (fun _ hx'=>((.cons (.there .here) .nil) : Sel _ [stb z5J 79 [(.slice z1H z1t.length z1I),(.int .i64 z19.1),(.int .i64 z19.2.1),(.int .i64 z19.2.2.1),(.int .i64 z19.2.2.2),(.func (.func 32) #[] #[(.pointer (some z1B)),(.pointer (some z1C))]),(.slice z1J z1u.length z1K)]] _).mem hx') (.head _) _).stb) zut (hw1.owns ((.cons .here .nil) : Sel [allA [fz [],stb z2Z 77 [(.slice none (([] : List z2).length) 0)],row (.slice none (([] : List z2).length) 0) 30 2 (([] : List z2).flatMap e30),stb z2S 98 [(.int .i64 0)],stb z2R 30 [(.int .i64 0),(.int .i64 0)],stb z2P 79 [(.slice z1H z1t.length z1I),(.int .i64 zk.fRate.fN),(.int .i64 zk.fRate.fD),(.int .i64 zk.fLatency.fN),(.int .i64 zk.fLatency.fD),(.func (.func 32) #[] #[(.pointer (some z1B)),(.pointer (some z1C))]),(.slice z1J z1u.length z1K)],blk z3J (z40 .ready none)],dfr z72,stb z5J 79 [(.slice z1H z1t.length z1I),(.int .i64 z19.1),(.int .i64 z19.2.1),(.int .i64 z19.2.2.1),(.int .i64 z19.2.2.2),(.func (.func 32) #[] #[(.pointer (some z1B)),(.pointer (some z1C))]),(.slice z1J z1u.length z1K)],fz ([] ++ z5k)] [allA [fz [],stb z2Z 77 [(.slice none (([] : List z2).length) 0)],row (.slice none (([] : List z2).length) 0) 30 2 (([] : List z2).flatMap e30),stb z2S 98 [(.int .i64 0)],stb z2R 30 [(.int .i64 0),(.int .i64 0)],stb z2P 79 [(.slice z1H z1t.length z1I),(.int .i64 zk.fRate.fN),(.int .i64 zk.fRate.fD),(.int .i64 zk.fLatency.fN),(.int .i64 zk.fLatency.fD),(.func (.func 32) #[] #[(.pointer (some z1B)),(.pointer (some z1C))]),(.slice z1J z1u.length z1K)],blk z3J (z40 .ready none)]] [dfr z72,stb z5J 79 [(.slice z1H z1t.length z1I),(.int .i64 z19.1),(.int .i64 z19.2.1),(.int .i64 z19.2.2.1),(.int .i64 z19.2.2.2),(.func (.func 32) #[] #[(.pointer (some z1B)),(.pointer (some z1C))]),(.slice z1J z1u.length z1K)],fz ([] ++ z5k)]))) ?_
   ·skip
    refine yieldP_of (LI:=(fun (g : Option Addr × Nat) (s : Nat × List z2 × Int)=>[fz [],stb z2Z 77 [(.slice g.1 s.2.1.length g.2)],row (.slice g.1 s.2.1.length g.2) 30 2 (s.2.1.flatMap e30),stb z2S 98 [(.int .i64 s.2.2)],stb z2R 30 [(.int .i64 0),(.int .i64 0)],stb z2P 79 [(.slice z1H z1t.length z1I),(.int .i64 zk.fRate.fN),(.int .i64 zk.fRate.fD),(.int .i64 zk.fLatency.fN),(.int .i64 zk.fLatency.fD),(.func (.func 32) #[] #[(.pointer (some z1B)),(.pointer (some z1C))]),(.slice z1J z1u.length z1K)]])) (pc:=(fun (s : Nat × List z2 × Int)=>pcs [] s.1)) zgB zur zus (fun _ _=>rfl) (by decide) ?_
    rintro z36 _ ⟨z5K,z4K⟩ ⟨zuu,z28,z8m⟩ zuv zuw Fb wb zow _ hz
    replace hz:=hz.left
    letI : Rnd:=inR z3J
    obtain ⟨hp0,z7n⟩:=chk_elim zow
    replace hp0 : zuu = 0:=hp0; subst hp0; clear zow
    replace z7n : m_calculus_search_max_R4 z67 z5i z36 z28 z8m = some (zuv,zuw):=z7n
    unfold m_calculus_search_max_R4 at z7n
    refine WC.restr (env':=[(1,(.pointer (some ⟨z2P,0,none⟩))),(12,(.bool (decide (zdj ≠ 0)))),(5,(.pointer (some ⟨z2S,0,none⟩))),(6,(.pointer (some ⟨z2Z,0,none⟩))),(17,(.agg #[(.int .i64 z36.fN),(.int .i64 z36.fD)]))]) (.cons rfl (.cons rfl (.cons rfl (.cons rfl (.cons rfl .nil))))) ?_
    refine WC.eqL (L':=[fz [],stb z2Z 77 [(.slice z5K z28.length z4K)],row (.slice z5K z28.length z4K) 30 2 (z28.flatMap e30),stb z2S 98 [(.int .i64 z8m)],stb z2R 30 [(.int .i64 0),(.int .i64 0)],stb z2P 79 [(.slice z1H z1t.length z1I),(.int .i64 zk.fRate.fN),(.int .i64 zk.fRate.fD),(.int .i64 zk.fLatency.fN),(.int .i64 zk.fLatency.fD),(.func (.func 32) #[] #[(.pointer (some z1B)),(.pointer (some z1C))]),(.slice z1J z1u.length z1K)],blk z3J (z40 .ready none)]) rfl ?_
    refine WC.region ?_
    refine WL.new (dd:=7) rfl rfl rfl (e_alloc (cs:=[(.int .i64 0),(.int .i64 0)]) zeroT_30 rfl) ?_
    intro z9Q _
    refine WL.eff0 rfl rfl (e_store (vs:=[(.int .i64 z36.fN),(.int .i64 z36.fD)]) (ds:=[(.int .i64 z36.fN),(.int .i64 z36.fD)]) sizT_30 rfl rfl rfl rfl (oc_cons rfl (oc_cons rfl oc_nil)) .here (Nat.le_of_ble_eq_true rfl) rfl) ?_
    refine WL.nil ?_
    refine WX.begin zgB (.there (.there (.there (.there (.there (.there (.there .here))))))) ?_
    refine WC.block ?_
    refine WC.seq ?_
    obtain ⟨z3c,zux,z7n⟩:=ze z7n
    refine WC.region ?_
    refine WL.quiet (d:=18) rfl rfl rfl (q_fieldAddr fo_79_2 rfl rfl) ?_
    refine WL.quiet (d:=19) rfl rfl rfl (q_load1 oneT_76 rfl (rd_stb (.there (.there (.there (.there (.there (.there (.there .here))))))) rfl)) ?_
    refine WL.quiet (d:=20) rfl rfl rfl (q_loadA (cs:=[(.int .i64 z36.fN),(.int .i64 z36.fD)]) aggT_30 rfl rfl (rd_all (.there .here))) ?_
    refine WL.callD (dd:=21) rfl rfl rfl (run_callv (l:=[.tmp 5,.tmp 20]) Try.call32 rfl (.cons rfl (.cons rfl .nil))) ((.cons (.there (.there (.there (.there (.there .here))))) .nil) : Sel [blk z3J (z40 .busy none),stb z9Q 30 [(.int .i64 z36.fN),(.int .i64 z36.fD)],fz [],stb z2Z 77 [(.slice z5K z28.length z4K)],row (.slice z5K z28.length z4K) 30 2 (z28.flatMap e30),stb z2S 98 [(.int .i64 z8m)],stb z2R 30 [(.int .i64 0),(.int .i64 0)],stb z2P 79 [(.slice z1H z1t.length z1I),(.int .i64 zk.fRate.fN),(.int .i64 zk.fRate.fD),(.int .i64 zk.fLatency.fN),(.int .i64 zk.fLatency.fD),(.func (.func 32) #[] #[(.pointer (some z1B)),(.pointer (some z1C))]),(.slice z1J z1u.length z1K)]] [stb z2S 98 [(.int .i64 z8m)]] [blk z3J (z40 .busy none),stb z9Q 30 [(.int .i64 z36.fN),(.int .i64 z36.fD)],fz [],stb z2Z 77 [(.slice z5K z28.length z4K)],row (.slice z5K z28.length z4K) 30 2 (z28.flatMap e30),stb z2R 30 [(.int .i64 0),(.int .i64 0)],stb z2P 79 [(.slice z1H z1t.length z1I),(.int .i64 zk.fRate.fN),(.int .i64 zk.fRate.fD),(.int .i64 zk.fLatency.fN),(.int .i64 zk.fLatency.fD),(.func (.func 32) #[] #[(.pointer (some z1B)),(.pointer (some z1C))]),(.slice z1J z1u.length z1K)]]) (fun w hw=>by have pz:=(hz.call2 hw ((.cons (.there (.there (.there (.there (.there .here))))) .nil) : Sel [blk z3J (z40 .busy none),stb z9Q 30 [(.int .i64 z36.fN),(.int .i64 z36.fD)],fz [],stb z2Z 77 [(.slice z5K z28.length z4K)],row (.slice z5K z28.length z4K) 30 2 (z28.flatMap e30),stb z2S 98 [(.int .i64 z8m)],stb z2R 30 [(.int .i64 0),(.int .i64 0)],stb z2P 79 [(.slice z1H z1t.length z1I),(.int .i64 zk.fRate.fN),(.int .i64 zk.fRate.fD),(.int .i64 zk.fLatency.fN),(.int .i64 zk.fLatency.fD),(.func (.func 32) #[] #[(.pointer (some z1B)),(.pointer (some z1C))]),(.slice z1J z1u.length z1K)]] [stb z2S 98 [(.int .i64 z8m)]] [blk z3J (z40 .busy none),stb z9Q 30 [(.int .i64 z36.fN),(.int .i64 z36.fD)],fz [],stb z2Z 77 [(.slice z5K z28.length z4K)],row (.slice z5K z28.length z4K) 30 2 (z28.flatMap e30),stb z2R 30 [(.int .i64 0),(.int .i64 0)],stb z2P 79 [(.slice z1H z1t.length z1I),(.int .i64 zk.fRate.fN),(.int .i64 zk.fRate.fD),(.int .i64 zk.fLatency.fN),(.int .i64 zk.fLatency.fD),(.func (.func 32) #[] #[(.pointer (some z1B)),(.pointer (some z1C))]),(.slice z1J z1u.length z1K)]]) (.there (.there .here))); exact w_calculus_Delay_1 (Z:=_) (z2O:=z2S) (zeC:=z1B) (zgw:=zbR) (zgx:=zbS) (zeD:=z1C) (z6v:=(⟨z8m⟩ : z2a)) (z1f:=z36) (zbQ:=z67) (z6G:=z5i) (r:=z3c) w pz ((zgy.mono ((Zle.left _ _).trans ((Zle.left _ _).trans ((Zle.assoc _ _ _).trans (Zle.left _ _))))).weak (fun _ _ h=>p39_mono ((Zle.left _ _).trans ((Zle.left _ _).trans ((Zle.assoc _ _ _).trans (Zle.left _ _)))) h)) (zgz.mono ((Zle.left _ _).trans ((Zle.left _ _).trans ((Zle.assoc _ _ _).trans (Zle.left _ _))))) (zgA.mono ((Zle.left _ _).trans ((Zle.left _ _).trans ((Zle.assoc _ _ _).trans (Zle.left _ _))))) zux (hw.owns ((.cons (.there (.there (.there (.there (.there .here))))) .nil) : Sel [blk z3J (z40 .busy none),stb z9Q 30 [(.int .i64 z36.fN),(.int .i64 z36.fD)],fz [],stb z2Z 77 [(.slice z5K z28.length z4K)],row (.slice z5K z28.length z4K) 30 2 (z28.flatMap e30),stb z2S 98 [(.int .i64 z8m)],stb z2R 30 [(.int .i64 0),(.int .i64 0)],stb z2P 79 [(.slice z1H z1t.length z1I),(.int .i64 zk.fRate.fN),(.int .i64 zk.fRate.fD),(.int .i64 zk.fLatency.fN),(.int .i64 zk.fLatency.fD),(.func (.func 32) #[] #[(.pointer (some z1B)),(.pointer (some z1C))]),(.slice z1J z1u.length z1K)]] [stb z2S 98 [(.int .i64 z8m)]] [blk z3J (z40 .busy none),stb z9Q 30 [(.int .i64 z36.fN),(.int .i64 z36.fD)],fz [],stb z2Z 77 [(.slice z5K z28.length z4K)],row (.slice z5K z28.length z4K) 30 2 (z28.flatMap e30),stb z2R 30 [(.int .i64 0),(.int .i64 0)],stb z2P 79 [(.slice z1H z1t.length z1I),(.int .i64 zk.fRate.fN),(.int .i64 zk.fRate.fD),(.int .i64 zk.fLatency.fN),(.int .i64 zk.fLatency.fD),(.func (.func 32) #[] #[(.pointer (some z1B)),(.pointer (some z1C))]),(.slice z1J z1u.length z1K)]]))) ?_
    refine WL.new (dd:=8) rfl rfl rfl (e_alloc (cs:=[(.int .i64 0),(.int .i64 0)]) zeroT_30 rfl) ?_
    intro zko _
    refine WL.eff0 rfl rfl (e_store (vs:=[(.int .i64 z3c.1.fN),(.int .i64 z3c.1.fD)]) (ds:=[(.int .i64 z3c.1.fN),(.int .i64 z3c.1.fD)]) sizT_30 rfl rfl rfl rfl (oc_cons rfl (oc_cons rfl oc_nil)) .here (Nat.le_of_ble_eq_true rfl) rfl) ?_
    refine WL.nil ?_
    refine WX.then ?_
    refine WC.seq ?_
    obtain ⟨zkj,zox,z7n⟩:=ze z7n
    refine WC.draw (fun i=>[].contains i) [] rfl ?_
    refine WD.quiet (i:=0) (d:=22) (by kernel_rfl) rfl (z6 (by kernel_rfl)) (z7 (by kernel_rfl)) rfl rfl rfl (q_load1 oneT_77 rfl (rd_stb (.there (.there (.there (.there (.there .here))))) rfl)) ?_
    refine WD.pure (i:=1) (d:=23) (by kernel_rfl) rfl (z6 (by kernel_rfl)) (z7 (by kernel_rfl)) rfl rfl rfl (fun _=>q_len Try.underlying77 rfl) ?_
    refine WD.pure (i:=2) (d:=24) (by kernel_rfl) rfl (z6 (by kernel_rfl)) (z7 (by kernel_rfl)) rfl rfl rfl (fun _=>q_eql rfl rfl) ?_
    refine WD.pure (i:=3) (d:=25) (by kernel_rfl) rfl (z6 (by kernel_rfl)) (z7 (by kernel_rfl)) rfl rfl rfl (fun _=>q_move rfl) ?_
    refine WD.mid (fuel':=0) [(1,(.pointer (some ⟨z2P,0,none⟩))),(12,(.bool (decide (zdj ≠ 0)))),(5,(.pointer (some ⟨z2S,0,none⟩))),(6,(.pointer (some ⟨z2Z,0,none⟩))),(17,(.agg #[(.int .i64 z36.fN),(.int .i64 z36.fD)])),(7,(.pointer (some ⟨z9Q,0,none⟩))),(18,(.pointer (some ⟨z2P,5,none⟩))),(19,(.func (.func 32) #[] #[(.pointer (some z1B)),(.pointer (some z1C))])),(20,(.agg #[(.int .i64 z36.fN),(.int .i64 z36.fD)])),(21,(.agg #[(.int .i64 z3c.1.fN),(.int .i64 z3c.1.fD)])),(8,(.pointer (some ⟨zko,0,none⟩))),(22,(.slice z5K z28.length z4K)),(23,(.int .i64 ((z28.length : Nat) : Int))),(24,(.bool (decide (((z28.length : Nat) : Int) = 0)))),(25,(.bool (decide (((z28.length : Nat) : Int) = 0)))),(32,(.bool zkj))] (listedA 11 [10,9,8,7,6,5,4,3,2,1,0]) ?_ (fun zoy=>?_)
    rotate_left
    ·rcases Bool.eq_false_or_eq_true (decide (((z28.length : Nat) : Int) = 0)) with hb' | hb'
     ·have zkp:=hb'; clear hb'
      have zkq:=ite_t zox zkp
      replace zkq:=Option.some.inj zkq
      refine WD.pin (i:=25) rfl zkp ?_
      refine WD.skip (i:=4) (d:=26) (by kernel_rfl) rfl (z6 (by kernel_rfl)) (z7 (by kernel_rfl)) rfl rfl rfl ?_
      refine WD.skip (i:=5) (d:=27) (by kernel_rfl) rfl (z6 (by kernel_rfl)) (z7 (by kernel_rfl)) rfl rfl rfl ?_
      refine WD.skip (i:=6) (d:=28) (by kernel_rfl) rfl (z6 (by kernel_rfl)) (z7 (by kernel_rfl)) rfl rfl rfl ?_
      refine WD.skip (i:=7) (d:=29) (by kernel_rfl) rfl (z6 (by kernel_rfl)) (z7 (by kernel_rfl)) rfl rfl rfl ?_
      refine WD.skip (i:=8) (d:=30) (by kernel_rfl) rfl (z6 (by kernel_rfl)) (z7 (by kernel_rfl)) rfl rfl rfl ?_
      refine WD.skip (i:=9) (d:=31) (by kernel_rfl) rfl (z6 (by kernel_rfl)) (z7 (by kernel_rfl)) rfl rfl rfl ?_
      refine WD.pure (i:=10) (d:=32) (by kernel_rfl) rfl (z6 (by kernel_rfl)) (z7 (by kernel_rfl)) rfl rfl rfl (fun _=>q_pickT rfl rfl) ?_
      refine WD.reL (.cons .here (.cons .here (.cons .here (.cons .here (.cons .here (.cons .here (.cons .here (.cons .here (.cons .here .nil))))))))) ?_ zoy
      exact (.cons rfl (.cons rfl (.cons rfl (.cons rfl (.cons rfl (.cons rfl (.cons rfl (.cons rfl (.cons rfl (.cons rfl (.cons rfl (.cons rfl (.cons rfl (.cons rfl (.cons (zp (Eq.symm zkp)) (.cons (zp zkq) .nil))))))))))))))))
     ·have zkr:=hb'; clear hb'
      have zbU:=ite_f zox zkr
      obtain ⟨zeH,zbU⟩:=chk_elim zbU
      obtain ⟨zki,zuy,zbU⟩:=ze zbU
      replace zbU:=Option.some.inj zbU
      refine WD.pin (i:=25) rfl zkr ?_
      refine WD.quiet (i:=4) (d:=26) (by kernel_rfl) rfl (z6 (by kernel_rfl)) (z7 (by kernel_rfl)) rfl rfl rfl (q_loadA (cs:=[(.int .i64 z3c.1.fN),(.int .i64 z3c.1.fD)]) aggT_30 rfl rfl (rd_all .here)) ?_
      refine WD.quiet (i:=5) (d:=27) (by kernel_rfl) rfl (z6 (by kernel_rfl)) (z7 (by kernel_rfl)) rfl rfl rfl (q_load1 oneT_77 rfl (rd_stb (.there (.there (.there (.there (.there .here))))) rfl)) ?_
      refine WD.know (fun w hw=>Hp.expose (.there (.there (.there (.there (.there (.there .here)))))) hw (by intro hz'; have:=zeH; rw [hz'] at this; omega)) ?_
      rintro ⟨zgC,rfl⟩
      refine WD.pure (i:=6) (d:=28) (by kernel_rfl) rfl (z6 (by kernel_rfl)) (z7 (by kernel_rfl)) rfl rfl rfl (fun _=>q_indexAddr elT_77 rfl rfl zeH.1 zeH.2 rowAdd) ?_
      refine WD.quiet (i:=7) (d:=29) (by kernel_rfl) rfl (z6 (by kernel_rfl)) (z7 (by kernel_rfl)) rfl rfl rfl (q_loadA (cs:=(e30 (nth z28 0))) aggT_30 rfl rfl (rd_rows (.there (.there (.there (.there (.there (.there .here)))))) (flat_rd (enc:=e30) (l:=z28) (i:=0) (sz:=2) (fun _=>rfl) zeH.1 zeH.2))) ?_
      refine WD.enter (i:=8) (d:=30) (by kernel_rfl) rfl (z6 (by kernel_rfl)) (z7 (by kernel_rfl)) rfl rfl rfl (zn (l:=[.tmp 26,.tmp 29]) Try.call18 (.cons rfl (.cons rfl .nil))) (fun w hw=>by have pz:=(hz.call2 hw (.nil : Sel [stb zko 30 [(.int .i64 z3c.1.fN),(.int .i64 z3c.1.fD)],stb z2S 98 [(.int .i64 z3c.2.fE)],blk z3J (z40 .busy none),stb z9Q 30 [(.int .i64 z36.fN),(.int .i64 z36.fD)],fz [],stb z2Z 77 [(.slice (some ⟨zgC,0,none⟩) z28.length z4K)],row (.slice (some ⟨zgC,0,none⟩) z28.length z4K) 30 2 (z28.flatMap e30),stb z2R 30 [(.int .i64 0),(.int .i64 0)],stb z2P 79 [(.slice z1H z1t.length z1I),(.int .i64 zk.fRate.fN),(.int .i64 zk.fRate.fD),(.int .i64 zk.fLatency.fN),(.int .i64 zk.fLatency.fD),(.func (.func 32) #[] #[(.pointer (some z1B)),(.pointer (some z1C))]),(.slice z1J z1u.length z1K)]] [] [stb zko 30 [(.int .i64 z3c.1.fN),(.int .i64 z3c.1.fD)],stb z2S 98 [(.int .i64 z3c.2.fE)],blk z3J (z40 .busy none),stb z9Q 30 [(.int .i64 z36.fN),(.int .i64 z36.fD)],fz [],stb z2Z 77 [(.slice (some ⟨zgC,0,none⟩) z28.length z4K)],row (.slice (some ⟨zgC,0,none⟩) z28.length z4K) 30 2 (z28.flatMap e30),stb z2R 30 [(.int .i64 0),(.int .i64 0)],stb z2P 79 [(.slice z1H z1t.length z1I),(.int .i64 zk.fRate.fN),(.int .i64 zk.fRate.fD),(.int .i64 zk.fLatency.fN),(.int .i64 zk.fLatency.fD),(.func (.func 32) #[] #[(.pointer (some z1B)),(.pointer (some z1C))]),(.slice z1J z1u.length z1K)]]) (.there (.there (.there (.there .here))))); exact w_rat_Cmp (Z:=_)  (z21:=z3c.1) (z23:=(⟨((nth z28 0).fN),((nth z28 0).fD)⟩ : z2)) (r:=zki) w pz  zuy) ?_
      refine WD.pure (i:=9) (d:=31) (by kernel_rfl) rfl (z6 (by kernel_rfl)) (z7 (by kernel_rfl)) rfl rfl rfl (fun _=>q_gtr rfl rfl) ?_
      refine WD.pure (i:=10) (d:=32) (by kernel_rfl) rfl (z6 (by kernel_rfl)) (z7 (by kernel_rfl)) rfl rfl rfl (fun _=>q_pickF rfl rfl) ?_
      refine WD.reL (.cons .here (.cons .here (.cons .here (.cons .here (.cons .here (.cons .here (.cons .here (.cons .here (.cons .here .nil))))))))) ?_ zoy
      exact (.cons rfl (.cons rfl (.cons rfl (.cons rfl (.cons rfl (.cons rfl (.cons rfl (.cons rfl (.cons rfl (.cons rfl (.cons rfl (.cons rfl (.cons rfl (.cons rfl (.cons (zp (Eq.symm zkr)) (.cons (zp zbU) .nil))))))))))))))))
    refine WD.done (by kernel_rfl) ?_
    refine WX.then ?_
    refine WC.cond rfl (fun zks=>?_) (fun zks=>?_)
    ·replace z7n:=ite_t z7n zks
     refine WC.region ?_
     refine WL.quiet (d:=33) rfl rfl rfl (q_loadA (cs:=[(.int .i64 z3c.1.fN),(.int .i64 z3c.1.fD)]) aggT_30 rfl rfl (rd_all .here)) ?_
     refine WL.new (dd:=34) rfl rfl rfl (e_buildSlice (cs:=([z3c.1] : List z2).flatMap e30) elT_77 (Eos.parts (l:=[.tmp 33]) (.cons rfl .nil) [0]) (fun _=>by kernel_rfl) rfl (by unfold maxLen; omega)) ?_
     intro zeI _
     refine WL.eff0 rfl rfl (e_store (vs:=[(.slice (some ⟨zeI,0,none⟩) (([z3c.1] : List z2).length) 1)]) (ds:=[(.slice (some ⟨zeI,0,none⟩) (([z3c.1] : List z2).length) 1)]) sizT_77 rfl rfl rfl rfl (oc_cons rfl oc_nil) (.there (.there (.there (.there (.there (.there .here)))))) (Nat.le_of_ble_eq_true rfl) rfl) ?_
     refine WL.nil ?_
     refine WX.blockNormal ?_
     obtain ⟨rfl,rfl⟩:=rf_inj z7n
     exact WX.rNormal zgB (.there (.there (.there (.there .here)))) (fun w' hw'=>⟨((some ⟨zeI,0,none⟩),1),rfl,trivial,(hw'.selAll ((.cons (.there (.there (.there (.there (.there (.there .here)))))) (.cons (.there .here) (.cons (.there .here) (.cons (.there (.there .here)) (.cons (.there (.there (.there (.there .here)))) (.cons (.there (.there (.there (.there .here)))) (.cons .here .nil))))))) : Sel _ [fz [],stb z2Z 77 [(.slice (some ⟨zeI,0,none⟩) (([z3c.1] : List z2).length) 1)],row (.slice (some ⟨zeI,0,none⟩) (([z3c.1] : List z2).length) 1) 30 2 (([z3c.1] : List z2).flatMap e30),stb z2S 98 [(.int .i64 z3c.2.fE)],stb z2R 30 [(.int .i64 0),(.int .i64 0)],stb z2P 79 [(.slice z1H z1t.length z1I),(.int .i64 zk.fRate.fN),(.int .i64 zk.fRate.fD),(.int .i64 zk.fLatency.fN),(.int .i64 zk.fLatency.fD),(.func (.func 32) #[] #[(.pointer (some z1B)),(.pointer (some z1C))]),(.slice z1J z1u.length z1K)],blk z3J (z40 .ready none)] _)).sub (.cons .here .nil)⟩)
    ·replace z7n:=ite_f z7n zks
     refine WC.skip ?_
     refine WX.blockNormal ?_
     obtain ⟨rfl,rfl⟩:=rf_inj z7n
     exact WX.rNormal zgB (.there (.there .here)) (fun w' hw'=>⟨(z5K,z4K),rfl,trivial,(hw'.selAll ((.cons (.there (.there (.there (.there .here)))) (.cons (.there (.there (.there (.there .here)))) (.cons (.there (.there (.there (.there .here)))) (.cons (.there (.there .here)) (.cons (.there (.there (.there .here))) (.cons (.there (.there (.there .here))) (.cons .here .nil))))))) : Sel _ [fz [],stb z2Z 77 [(.slice z5K z28.length z4K)],row (.slice z5K z28.length z4K) 30 2 (z28.flatMap e30),stb z2S 98 [(.int .i64 z3c.2.fE)],stb z2R 30 [(.int .i64 0),(.int .i64 0)],stb z2P 79 [(.slice z1H z1t.length z1I),(.int .i64 zk.fRate.fN),(.int .i64 zk.fRate.fD),(.int .i64 zk.fLatency.fN),(.int .i64 zk.fLatency.fD),(.func (.func 32) #[] #[(.pointer (some z1B)),(.pointer (some z1C))]),(.slice z1J z1u.length z1K)],blk z3J (z40 .ready none)] _)).sub (.cons .here .nil)⟩)
   ·skip
    rintro _ w' ⟨zuz,⟨zeJ,zeK⟩,rfl,_,hp⟩
    have hp1:=hw1.call ((.cons .here .nil) : Sel [allA [fz [],stb z2Z 77 [(.slice none (([] : List z2).length) 0)],row (.slice none (([] : List z2).length) 0) 30 2 (([] : List z2).flatMap e30),stb z2S 98 [(.int .i64 0)],stb z2R 30 [(.int .i64 0),(.int .i64 0)],stb z2P 79 [(.slice z1H z1t.length z1I),(.int .i64 zk.fRate.fN),(.int .i64 zk.fRate.fD),(.int .i64 zk.fLatency.fN),(.int .i64 zk.fLatency.fD),(.func (.func 32) #[] #[(.pointer (some z1B)),(.pointer (some z1C))]),(.slice z1J z1u.length z1K)],blk z3J (z40 .ready none)],dfr z72,stb z5J 79 [(.slice z1H z1t.length z1I),(.int .i64 z19.1),(.int .i64 z19.2.1),(.int .i64 z19.2.2.1),(.int .i64 z19.2.2.2),(.func (.func 32) #[] #[(.pointer (some z1B)),(.pointer (some z1C))]),(.slice z1J z1u.length z1K)],fz ([] ++ z5k)] [allA [fz [],stb z2Z 77 [(.slice none (([] : List z2).length) 0)],row (.slice none (([] : List z2).length) 0) 30 2 (([] : List z2).flatMap e30),stb z2S 98 [(.int .i64 0)],stb z2R 30 [(.int .i64 0),(.int .i64 0)],stb z2P 79 [(.slice z1H z1t.length z1I),(.int .i64 zk.fRate.fN),(.int .i64 zk.fRate.fD),(.int .i64 zk.fLatency.fN),(.int .i64 zk.fLatency.fD),(.func (.func 32) #[] #[(.pointer (some z1B)),(.pointer (some z1C))]),(.slice z1J z1u.length z1K)],blk z3J (z40 .ready none)]] [dfr z72,stb z5J 79 [(.slice z1H z1t.length z1I),(.int .i64 z19.1),(.int .i64 z19.2.1),(.int .i64 z19.2.2.1),(.int .i64 z19.2.2.2),(.func (.func 32) #[] #[(.pointer (some z1B)),(.pointer (some z1C))]),(.slice z1J z1u.length z1K)],fz ([] ++ z5k)]) hp
    have hp2 : Hp _ _ w' [fz [],stb z2Z 77 [(.slice zeJ z5j.2.1.length zeK)],row (.slice zeJ z5j.2.1.length zeK) 30 2 (z5j.2.1.flatMap e30),stb z2S 98 [(.int .i64 z5j.2.2)],stb z2R 30 [(.int .i64 0),(.int .i64 0)],stb z2P 79 [(.slice z1H z1t.length z1I),(.int .i64 zk.fRate.fN),(.int .i64 zk.fRate.fD),(.int .i64 zk.fLatency.fN),(.int .i64 zk.fLatency.fD),(.func (.func 32) #[] #[(.pointer (some z1B)),(.pointer (some z1C))]),(.slice z1J z1u.length z1K)],blk z3J (z40 (rdy (pcs [] z5j.1)) (pcs [] z5j.1)),fz zuz,dfr z72,stb z5J 79 [(.slice z1H z1t.length z1I),(.int .i64 z19.1),(.int .i64 z19.2.1),(.int .i64 z19.2.2.1),(.int .i64 z19.2.2.2),(.func (.func 32) #[] #[(.pointer (some z1B)),(.pointer (some z1C))]),(.slice z1J z1u.length z1K)],fz ([] ++ z5k)]:=hp1.pickAll (.there .here)
    refine ⟨_,pcs [] z5j.1,_,rfl,(hp2.sub ((.cons (.there (.there (.there (.there (.there (.there .here)))))) (.cons .here (.cons .here (.cons .here (.cons .here (.cons .here (.cons .here (.cons (.there .here) (.cons (.there .here) (.cons (.there .here) .nil)))))))))) : Sel _ [blk z3J (z40 (rdy (pcs [] z5j.1)) (pcs [] z5j.1)),fz [],stb z2Z 77 [(.slice zeJ z5j.2.1.length zeK)],row (.slice zeJ z5j.2.1.length zeK) 30 2 (z5j.2.1.flatMap e30),stb z2S 98 [(.int .i64 z5j.2.2)],stb z2R 30 [(.int .i64 0),(.int .i64 0)],stb z2P 79 [(.slice z1H z1t.length z1I),(.int .i64 zk.fRate.fN),(.int .i64 zk.fRate.fD),(.int .i64 zk.fLatency.fN),(.int .i64 zk.fLatency.fD),(.func (.func 32) #[] #[(.pointer (some z1B)),(.pointer (some z1C))]),(.slice z1J z1u.length z1K)],dfr z72,stb z5J 79 [(.slice z1H z1t.length z1I),(.int .i64 z19.1),(.int .i64 z19.2.1),(.int .i64 z19.2.2.1),(.int .i64 z19.2.2.2),(.func (.func 32) #[] #[(.pointer (some z1B)),(.pointer (some z1C))]),(.slice z1J z1u.length z1K)],fz ([] ++ z5k)] _)),?_⟩
    clear hp hp1 hp2 pz hw hw1
    refine wjN ?_
    letI : Rnd:=aft z72
    refine WX.merge .here (.there (.there (.there (.there (.there (.there (.there .here))))))) ?_
    refine WX.blockNormal ?_
    exact WX.midR (D:=fun (g : Nat × Int × List z2 × Zp × Option Addr × Nat)=>g.1) (G:=Nat × Int × List z2 × Zp × Option Addr × Nat) ⟨z72,z5j.2.2,z5j.2.1,(([] ++ z5k) ++ []),zeJ,zeK⟩ ⟨h,((Zle.left _ _).trans (Zle.assoc _ _ _))⟩ (.cons rfl (.cons rfl (.cons rfl .nil))) (.cons .here (.cons (.there (.there (.there .here))) (.cons (.there (.there .here)) (.cons .here (.cons .here (.cons (.there .here) .nil))))))
  ·rintro zeE z8O z5I zbT zeF zeG ⟨h,zyA⟩
   replace h:=(zup z8O z5I).symm.trans h
   letI : Rnd:=aft zeE
   refine WC.seq ?_
   refine WC.seq ?_
   refine WC.region ?_
   refine WL.quiet (d:=35) rfl rfl rfl (q_fieldAddr fo_98_0 rfl rfl) ?_
   refine WL.quiet (d:=36) rfl rfl rfl (q_load1 oneT_31 rfl (rd_stb (.there (.there .here)) rfl)) ?_
   refine WL.quiet (d:=37) rfl rfl rfl (q_neq rfl rfl) ?_
   refine WL.nil ?_
   refine WX.then ?_
   refine WC.cond rfl (fun zkt=>?_) (fun zkt=>?_)
   ·replace h:=ite_t h zkt
    refine WC.seq ?_
    refine WC.draw (fun i=>[3].contains i) [stbp z2S 98 [(0,(.int .i64 z8O))]] rfl ?_
    refine WD.quiet (i:=0) (d:=38) (by kernel_rfl) rfl (z6 (by kernel_rfl)) (z7 (by kernel_rfl)) rfl rfl rfl (q_build (v:=(.agg #[(.int .i64 0),(.int .i64 0)])) (Eos.parts (l:=[]) .nil []) (fun _=>by kernel_rfl)) ?_
    refine WD.pure (i:=1) (d:=39) (by kernel_rfl) rfl (z6 (by kernel_rfl)) (z7 (by kernel_rfl)) rfl rfl rfl (fun _=>q_fieldAddr fo_98_0 rfl rfl) ?_
    refine WD.stable (i:=2) (d:=40) (by kernel_rfl) rfl (z6 (by kernel_rfl)) (z7 (by kernel_rfl)) rfl rfl rfl (Sin.wk (.cons (.there (.there .here)) .nil) (.stb (.cons rfl .nil) .nil)) (q_load1 oneT_31 rfl (rd_stbp .here (.head _))) ?_
    refine WD.forced0 (i:=3) rfl (by kernel_rfl) rfl rfl rfl (Sin.wk (.cons (.there (.there .here)) .nil) (.stb (.cons rfl .nil) .nil)) (e_store (vs:=[(.int .i64 0),(.int .i64 0)]) (ds:=[(.int .i64 0),(.int .i64 0)]) sizT_30 rfl rfl rfl rfl (oc_cons rfl (oc_cons rfl oc_nil)) (.there .here) (Nat.le_of_ble_eq_true rfl) rfl) ?_
    refine WD.pure (i:=4) (d:=3) (by kernel_rfl) rfl (z6 (by kernel_rfl)) (z7 (by kernel_rfl)) rfl rfl rfl (fun _=>q_assign rfl) ?_
    refine WD.done (by kernel_rfl) ?_
    refine WX.then ?_
    refine WC.ret ?_
    refine WX.thenRet ?_
    obtain rfl:=Option.some.inj h
    refine WX.bpRetD (.there (.there (.there (.there (.there .here))))) Try.results36 (.agg rfl aggT_30 rfl (rd_all (.there .here)) (.tmp rfl .nil)) (fun w hw=>?_)
    exact ⟨zbT,ret2 rfl rfl,trivial,hw.sub (.cons (.there (.there .here)) .nil)⟩
   ·replace h:=ite_f h zkt
    refine WC.skip ?_
    refine WX.then ?_
    refine WC.seq ?_
    obtain ⟨zeL,h⟩:=chk_elim h
    refine WC.region ?_
    refine WL.quiet (d:=41) rfl rfl rfl (q_load1 oneT_77 rfl (rd_stb (.there (.there (.there .here))) rfl)) ?_
    refine WL.know (fun w hw=>Hp.expose (.there (.there (.there (.there .here)))) hw (by intro hz'; have:=zeL; rw [hz'] at this; omega)) ?_
    rintro ⟨zyB,rfl⟩
    refine WL.quiet (d:=42) rfl rfl rfl (q_indexAddr elT_77 rfl rfl zeL.1 zeL.2 rowAdd) ?_
    refine WL.quiet (d:=43) rfl rfl rfl (q_loadA (cs:=(e30 (nth z5I 0))) aggT_30 rfl rfl (rd_rows (.there (.there (.there (.there .here)))) (flat_rd (enc:=e30) (l:=z5I) (i:=0) (sz:=2) (fun _=>rfl) zeL.1 zeL.2))) ?_
    refine WL.eff0 rfl rfl (e_store (vs:=[(.int .i64 ((nth z5I 0).fN)),(.int .i64 ((nth z5I 0).fD))]) (ds:=[(.int .i64 ((nth z5I 0).fN)),(.int .i64 ((nth z5I 0).fD))]) sizT_30 rfl rfl rfl rfl (oc_cons rfl (oc_cons rfl oc_nil)) (.there .here) (Nat.le_of_ble_eq_true rfl) rfl) ?_
    refine WL.quiet (d:=3) rfl rfl rfl (q_assign rfl) ?_
    refine WL.nil ?_
    refine WX.then ?_
    refine WC.ret ?_
    obtain rfl:=Option.some.inj h
    refine WX.bpRetD (.there (.there (.there (.there (.there .here))))) Try.results36 (.agg rfl aggT_30 rfl (rd_all (.there .here)) (.tmp rfl .nil)) (fun w hw=>?_)
    exact ⟨zbT,ret2 rfl rfl,trivial,hw.sub (.cons (.there (.there .here)) .nil)⟩
def m_calculus_Delay (z4u : List (List z1)) (z1y : Sapi_Server) : Option (z2 × Int) :=
 (m_calculus_search_max z4u z1y z4u z1y []).bind fun zaL=>some (zaL.1,zaL.2)
set_option maxRecDepth 20000 in
theorem w_calculus_Delay (Z : Zp)  (z5l : Option Addr) (z5m : Nat) (z4u : List (List z1)) (z1y : Sapi_Server) (r : z2 × Int) (w₀ : World) (hz : PZ [] w₀ Z)
  (zoz : ZS Z 1 (p39 Z) z5l z5m z4u)
  (h : m_calculus_Delay z4u z1y = some r) :
  Calls Try.prog 15 #[(.slice z5l z4u.length z5m),(.agg #[(.int .i64 z1y.fRate.fN),(.int .i64 z1y.fRate.fD),(.int .i64 z1y.fLatency.fN),(.int .i64 z1y.fLatency.fD)])] w₀ fun e w'=>∃ Zn : Zp,e = .returned (.tuple #[(.agg #[(.int .i64 r.1.fN),(.int .i64 r.1.fD)]),(.int .i64 r.2)]) ∧ True ∧ Hp [] w₀ w' [fz Zn]:=by
 unfold m_calculus_Delay at h
 refine Calls.ofWC (vs:=[(.slice z5l z4u.length z5m),(.agg #[(.int .i64 z1y.fRate.fN),(.int .i64 z1y.fRate.fD),(.int .i64 z1y.fLatency.fN),(.int .i64 z1y.fLatency.fD)])]) (pre:=[]) (env:=[(0,(.slice z5l z4u.length z5m)),(1,(.agg #[(.int .i64 z1y.fRate.fN),(.int .i64 z1y.fRate.fD),(.int .i64 z1y.fLatency.fN),(.int .i64 z1y.fLatency.fD)]))]) Try.func15 rfl Try.ntmps15 rfl (Hp.nil w₀ _) rfl ?_
 refine WC.pool ?_
 refine WC.seq ?_
 refine WC.region ?_
 refine WL.new (dd:=2) rfl rfl rfl (e_box (cs:=[(.slice z5l z4u.length z5m)]) rfl rfl) ?_
 intro zaM _
 refine WL.new (dd:=3) rfl rfl rfl (e_box (cs:=[(.int .i64 z1y.fRate.fN),(.int .i64 z1y.fRate.fD),(.int .i64 z1y.fLatency.fN),(.int .i64 z1y.fLatency.fD)]) rfl rfl) ?_
 intro zaN _
 refine WL.new (dd:=4) rfl rfl rfl (e_alloc (cs:=[(.int .i64 0),(.int .i64 0)]) zeroT_30 rfl) ?_
 intro zgD _
 refine WL.quiet (d:=5) rfl rfl rfl (q_assign rfl) ?_
 refine WL.nil ?_
 refine WX.then ?_
 refine WC.seq ?_
 refine WC.region ?_
 refine WL.quiet (d:=7) rfl rfl rfl (q_load1 oneT_26 rfl (rd_stb (.there (.there .here)) rfl)) ?_
 refine WL.quiet (d:=8) rfl rfl rfl (q_loadA (cs:=[(.int .i64 z1y.fRate.fN),(.int .i64 z1y.fRate.fD),(.int .i64 z1y.fLatency.fN),(.int .i64 z1y.fLatency.fD)]) aggT_43 rfl rfl (rd_all (.there .here))) ?_
 refine WL.quiet (d:=9) rfl rfl rfl (q_build (v:=(.agg #[(.slice z5l z4u.length z5m),(.int .i64 z1y.fRate.fN),(.int .i64 z1y.fRate.fD),(.int .i64 z1y.fLatency.fN),(.int .i64 z1y.fLatency.fD),.nilFunc,(.slice none 0 0)])) (Eos.parts (l:=[.tmp 7,.tmp 8]) (.cons rfl (.cons rfl .nil)) [0,1]) (fun _=>by kernel_rfl)) ?_
 refine WL.new (dd:=6) rfl rfl rfl (e_alloc (cs:=[(.slice none 0 0),(.int .i64 0),(.int .i64 0),(.int .i64 0),(.int .i64 0),.nilFunc,(.slice none 0 0)]) zeroT_79 rfl) ?_
 intro zgE _
 refine WL.eff0 rfl rfl (e_store (vs:=[(.slice z5l z4u.length z5m),(.int .i64 z1y.fRate.fN),(.int .i64 z1y.fRate.fD),(.int .i64 z1y.fLatency.fN),(.int .i64 z1y.fLatency.fD),.nilFunc,(.slice none 0 0)]) (ds:=[(.slice z5l z4u.length z5m),(.int .i64 z1y.fRate.fN),(.int .i64 z1y.fRate.fD),(.int .i64 z1y.fLatency.fN),(.int .i64 z1y.fLatency.fD),.nilFunc,(.slice none 0 0)]) sizT_79 rfl rfl rfl rfl (oc_cons rfl (oc_cons rfl (oc_cons rfl (oc_cons rfl (oc_cons rfl (oc_cons rfl (oc_cons rfl oc_nil))))))) .here (Nat.le_of_ble_eq_true rfl) rfl) ?_
 refine WL.nil ?_
 refine WX.then ?_
 refine WC.seq ?_
 refine WC.region ?_
 refine WL.quiet (d:=10) rfl rfl rfl (q_makeFunc (Eos.caps (l:=[.tmp 2,.tmp 3]) (.cons rfl (.cons rfl .nil)))) ?_
 refine WL.quiet (d:=11) rfl rfl rfl (q_fieldAddr fo_79_2 rfl rfl) ?_
 refine WL.eff0 rfl rfl (e_store (vs:=[(.func (.func 32) #[] #[(.pointer (some ⟨zaM,0,none⟩)),(.pointer (some ⟨zaN,0,none⟩))])]) (ds:=[(.slice z5l z4u.length z5m),(.int .i64 z1y.fRate.fN),(.int .i64 z1y.fRate.fD),(.int .i64 z1y.fLatency.fN),(.int .i64 z1y.fLatency.fD),(.func (.func 32) #[] #[(.pointer (some ⟨zaM,0,none⟩)),(.pointer (some ⟨zaN,0,none⟩))]),(.slice none 0 0)]) sizT_76 rfl rfl rfl rfl (oc_cons rfl oc_nil) .here (Nat.le_of_ble_eq_true rfl) rfl) ?_
 refine WL.nil ?_
 refine WX.then ?_
 refine WC.seq ?_
 obtain ⟨zaL,zuA,h⟩:=ze h
 refine WC.region ?_
 refine WL.quiet (d:=12) rfl rfl rfl (q_loadA (cs:=[(.slice z5l z4u.length z5m),(.int .i64 z1y.fRate.fN),(.int .i64 z1y.fRate.fD),(.int .i64 z1y.fLatency.fN),(.int .i64 z1y.fLatency.fD),(.func (.func 32) #[] #[(.pointer (some ⟨zaM,0,none⟩)),(.pointer (some ⟨zaN,0,none⟩))]),(.slice none 0 0)]) aggT_79 rfl rfl (rd_all .here)) ?_
 refine WL.freezeC (Z:=Z) (.there (.there (.there .here))) (.there (.there (.there .here))) ?_
 intro zyC zgF zuB
 refine WL.freezeC (Z:=Z) (.there (.there (.there .here))) .here ?_
 intro zeM zeN zuC
 refine WL.enter1 (dd:=13) rfl rfl rfl (zn (l:=[.tmp 12]) Try.call36 (.cons rfl .nil)) (.nil : Sel [fz zeM,stb zgE 79 [(.slice z5l z4u.length z5m),(.int .i64 z1y.fRate.fN),(.int .i64 z1y.fRate.fD),(.int .i64 z1y.fLatency.fN),(.int .i64 z1y.fLatency.fD),(.func (.func 32) #[] #[(.pointer (some ⟨zaM,0,none⟩)),(.pointer (some ⟨zaN,0,none⟩))]),(.slice none 0 0)],stb zgD 30 [(.int .i64 0),(.int .i64 0)]] [] [fz zeM,stb zgE 79 [(.slice z5l z4u.length z5m),(.int .i64 z1y.fRate.fN),(.int .i64 z1y.fRate.fD),(.int .i64 z1y.fLatency.fN),(.int .i64 z1y.fLatency.fD),(.func (.func 32) #[] #[(.pointer (some ⟨zaM,0,none⟩)),(.pointer (some ⟨zaN,0,none⟩))]),(.slice none 0 0)],stb zgD 30 [(.int .i64 0),(.int .i64 0)]]) (fun w hw=>by have pz:=(hz.call2 hw (.nil : Sel [fz zeM,stb zgE 79 [(.slice z5l z4u.length z5m),(.int .i64 z1y.fRate.fN),(.int .i64 z1y.fRate.fD),(.int .i64 z1y.fLatency.fN),(.int .i64 z1y.fLatency.fD),(.func (.func 32) #[] #[(.pointer (some ⟨zaM,0,none⟩)),(.pointer (some ⟨zaN,0,none⟩))]),(.slice none 0 0)],stb zgD 30 [(.int .i64 0),(.int .i64 0)]] [] [fz zeM,stb zgE 79 [(.slice z5l z4u.length z5m),(.int .i64 z1y.fRate.fN),(.int .i64 z1y.fRate.fD),(.int .i64 z1y.fLatency.fN),(.int .i64 z1y.fLatency.fD),(.func (.func 32) #[] #[(.pointer (some ⟨zaM,0,none⟩)),(.pointer (some ⟨zaN,0,none⟩))]),(.slice none 0 0)],stb zgD 30 [(.int .i64 0),(.int .i64 0)]]) .here); exact w_calculus_search_max (Z:=_) (z1H:=z5l) (z1I:=z5m) (z1B:=⟨zaM,0,none⟩) (zbR:=z5l) (zbS:=z5m) (z1C:=⟨zaN,0,none⟩) (z1J:=none) (z1K:=0) (z1t:=z4u) (zk:=z1y) (z67:=z4u) (z5i:=z1y) (z1u:=[]) (r:=zaL) w pz ((zoz.mono ((Zle.left _ _).trans (zgF.trans zeN))).weak (fun _ _ h=>p39_mono ((Zle.left _ _).trans (zgF.trans zeN)) h)) ((zoz.mono ((Zle.left _ _).trans (zgF.trans zeN))).weak (fun _ _ h=>p39_mono ((Zle.left _ _).trans (zgF.trans zeN)) h)) (zuB.mono zeN) zuC (ZS.nil _ _ _) zuA) ?_
 rintro zuD _
 refine WL.merge .here .here ?_
 refine WL.quiet (d:=14) rfl rfl rfl (q_extract rfl rfl) ?_
 refine WL.quiet (d:=15) rfl rfl rfl (q_extract rfl rfl) ?_
 refine WL.eff0 rfl rfl (e_store (vs:=[(.int .i64 zaL.1.fN),(.int .i64 zaL.1.fD)]) (ds:=[(.int .i64 zaL.1.fN),(.int .i64 zaL.1.fD)]) sizT_30 rfl rfl rfl rfl (oc_cons rfl (oc_cons rfl oc_nil)) (.there (.there .here)) (Nat.le_of_ble_eq_true rfl) rfl) ?_
 refine WL.quiet (d:=5) rfl rfl rfl (q_assign rfl) ?_
 refine WL.nil ?_
 refine WX.then ?_
 refine WC.ret ?_
 obtain rfl:=Option.some.inj h
 refine WX.bpRet Try.results15 (.agg rfl aggT_30 rfl (rd_all .here) (.tmp rfl .nil)) (fun w hw=>?_)
 exact ⟨(zeM ++ zuD),ret2 rfl rfl,trivial,hw.sub (.cons (.there .here) .nil)⟩
def m_calculus_search_checkb_L2 (z1L : List (List z1)) (z9R : Int → Int → Int → Option Int) : Nat → Int → Int → Int → Int → Option Int
 | 0,_,_,_,_=>none
 | zku + 1,z5L,z3K,z3w,z3x=>if decide (z5L < ((z1L.length : Nat) : Int)) then chk ((0 : Int) ≤ z5L ∧ z5L < ((z1L.length : Nat) : Int)) ((m_curve_Breaks (nth z1L z5L)).bind fun z4l=>if decide (z4l.2 ≠ 0) then some z4l.2 else (m_curve_Rate (nth z1L z5L)).bind fun z4L=>(m_calculus_calc_do (⟨z3K⟩ : z2a) (fun (y0 : z2) (y1 : z2)=>m_rat_Add y0 y1) (⟨z3w,z3x⟩ : z2) z4L.1).bind fun z7R=>m_calculus_search_checkb_L2 z1L z9R zku (i64 (z5L + 1)) z7R.2.fE z7R.1.fN z7R.1.fD) else z9R z3K z3w z3x
theorem m_calculus_search_checkb_L2_fuel {n : Nat} {z1L : List (List z1)} {z9R : Int → Int → Int → Option Int} {z5L : Int} {z3K : Int} {z3w : Int} {z3x : Int} {r : Int} (h : m_calculus_search_checkb_L2 z1L z9R n z5L z3K z3w z3x = some r) : ∃ m,n = m + 1:=by
 cases n with
 | zero=>cases h
 | succ m=>exact ⟨m,rfl⟩
def m_calculus_search_checkb (z1L : List (List z1)) (zj : Sapi_Server) (zeO : List (List z1)) (zbV : Sapi_Server) (z2k : List z2) : Option Int :=
 (if decide (((z1L.length : Nat) : Int) > 32) then some true else (m_slices_ContainsFunc_api_Curve_api_Curve z1L (fun (y0 : List z1)=>m_calculus_search_check_1 y0)).bind fun zkv=>some zkv).bind fun zgG=>(if zgG then some true else (m_calculus_Valid zj).bind fun zkw=>some (!zkw)).bind fun zkx=>if zkx then some 2 else (m_calculus_zero).bind fun z8P=>jp3 (fun (z6H : Int) (z6I : Int) (z6J : Int)=>(if decide (z6H = 0) then (m_rat_Cmp (⟨z6I,z6J⟩ : z2) zj.fRate).bind fun zky=>some (decide (zky > 0)) else some false).bind fun zkz=>if zkz then some 6 else some z6H) fun z9R=>m_calculus_search_checkb_L2 z1L z9R FUEL 0 0 z8P.fN z8P.fD
set_option maxRecDepth 20000 in
theorem w_calculus_search_checkb (Z : Zp)  (z2l : Option Addr) (z2m : Nat) (z2w : Addr) (zkA : Option Addr) (zkB : Nat) (z2x : Addr) (z2y : Option Addr) (z2z : Nat) (z1L : List (List z1)) (zj : Sapi_Server) (zeO : List (List z1)) (zbV : Sapi_Server) (z2k : List z2) (r : Int) (w₀ : World) (hz : PZ [] w₀ Z)
  (zoA : ZS Z 1 (p39 Z) z2l z2m z1L)
  (zyD : ZS Z 1 (p39 Z) zkA zkB zeO)
  (zyE : ZC Z z2w [(.slice zkA zeO.length zkB)])
  (zyF : ZC Z z2x [(.int .i64 zbV.fRate.fN),(.int .i64 zbV.fRate.fD),(.int .i64 zbV.fLatency.fN),(.int .i64 zbV.fLatency.fD)])
  (zyG : ZS Z 2 (fun r x=>r = e30 x) z2y z2z z2k)
  (h : m_calculus_search_checkb z1L zj zeO zbV z2k = some r) :
  Calls Try.prog 52 #[(.agg #[(.slice z2l z1L.length z2m),(.int .i64 zj.fRate.fN),(.int .i64 zj.fRate.fD),(.int .i64 zj.fLatency.fN),(.int .i64 zj.fLatency.fD),(.func (.func 37) #[] #[(.pointer (some z2w)),(.pointer (some z2x))]),(.slice z2y z2k.length z2z)])] w₀ fun e w'=>∃ Zn : Zp,e = .returned (.int .i64 r) ∧ True ∧ Hp [] w₀ w' [fz Zn]:=by
 unfold m_calculus_search_checkb at h
 refine Calls.ofWC (vs:=[(.agg #[(.slice z2l z1L.length z2m),(.int .i64 zj.fRate.fN),(.int .i64 zj.fRate.fD),(.int .i64 zj.fLatency.fN),(.int .i64 zj.fLatency.fD),(.func (.func 37) #[] #[(.pointer (some z2w)),(.pointer (some z2x))]),(.slice z2y z2k.length z2z)])]) (pre:=[]) (env:=[(0,(.agg #[(.slice z2l z1L.length z2m),(.int .i64 zj.fRate.fN),(.int .i64 zj.fRate.fD),(.int .i64 zj.fLatency.fN),(.int .i64 zj.fLatency.fD),(.func (.func 37) #[] #[(.pointer (some z2w)),(.pointer (some z2x))]),(.slice z2y z2k.length z2z)]))]) Try.func52 rfl Try.ntmps52 rfl (Hp.nil w₀ _) rfl ?_
 refine WC.pool ?_
 refine WC.seq ?_
 refine WC.region ?_
 refine WL.new (dd:=1) rfl rfl rfl (e_box (cs:=[(.slice z2l z1L.length z2m),(.int .i64 zj.fRate.fN),(.int .i64 zj.fRate.fD),(.int .i64 zj.fLatency.fN),(.int .i64 zj.fLatency.fD),(.func (.func 37) #[] #[(.pointer (some z2w)),(.pointer (some z2x))]),(.slice z2y z2k.length z2z)]) rfl rfl) ?_
 intro z2M _
 refine WL.quiet (d:=2) rfl rfl rfl (q_assign rfl) ?_
 refine WL.nil ?_
 refine WX.then ?_
 refine WC.seq ?_
 refine WC.seq ?_
 obtain ⟨zgG,zoB,h⟩:=ze h
 obtain ⟨zkx,zoC,h⟩:=ze h
 refine WC.region ?_
 refine WL.quiet (d:=11) rfl rfl rfl (q_fieldAddr fo_79_0 rfl rfl) ?_
 refine WL.quiet (d:=12) rfl rfl rfl (q_load1 oneT_26 rfl (rd_stb .here rfl)) ?_
 refine WL.quiet (d:=13) rfl rfl rfl (q_len Try.underlying26 rfl) ?_
 refine WL.quiet (d:=14) rfl rfl rfl (q_gtr rfl rfl) ?_
 refine WL.quiet (d:=15) rfl rfl rfl (q_move rfl) ?_
 refine WL.cut0 True [(1,(.pointer (some ⟨z2M,0,none⟩))),(19,(.bool zgG))] [stb z2M 79 [(.slice z2l z1L.length z2m),(.int .i64 zj.fRate.fN),(.int .i64 zj.fRate.fD),(.int .i64 zj.fLatency.fN),(.int .i64 zj.fLatency.fD),(.func (.func 37) #[] #[(.pointer (some z2w)),(.pointer (some z2x))]),(.slice z2y z2k.length z2z)],fz []] 4 ?_ (fun _=>?_)
 ·rcases Bool.eq_false_or_eq_true (decide (((z1L.length : Nat) : Int) > 32)) with hb' | hb'
  ·have zoD:=hb'; clear hb'
   have zkC:=ite_t zoB zoD
   replace zkC:=Option.some.inj zkC
   refine WL.pin (i:=15) rfl zoD ?_
   refine WL.skip rfl rfl rfl ?_
   refine WL.skip rfl rfl rfl ?_
   refine WL.skip rfl rfl rfl ?_
   refine WL.quiet (d:=19) rfl rfl rfl (q_pickT rfl rfl) ?_
   exact WL.cutEnd () trivial (.cons rfl (.cons (zp zkC) .nil)) (.cons .here (.cons .here .nil))
  ·have zoE:=hb'; clear hb'
   have zeP:=ite_f zoB zoE
   obtain ⟨zkv,zuE,zeP⟩:=ze zeP
   replace zeP:=Option.some.inj zeP
   refine WL.pin (i:=15) rfl zoE ?_
   refine WL.quiet (d:=16) rfl rfl rfl (q_fieldAddr fo_79_0 rfl rfl) ?_
   refine WL.quiet (d:=17) rfl rfl rfl (q_load1 oneT_26 rfl (rd_stb .here rfl)) ?_
   refine WL.callD (dd:=18) rfl rfl rfl (zn (l:=[.tmp 17,.func 67]) Try.call66 (.cons rfl (.cons rfl .nil))) (.nil : Sel [stb z2M 79 [(.slice z2l z1L.length z2m),(.int .i64 zj.fRate.fN),(.int .i64 zj.fRate.fD),(.int .i64 zj.fLatency.fN),(.int .i64 zj.fLatency.fD),(.func (.func 37) #[] #[(.pointer (some z2w)),(.pointer (some z2x))]),(.slice z2y z2k.length z2z)],fz []] [] [stb z2M 79 [(.slice z2l z1L.length z2m),(.int .i64 zj.fRate.fN),(.int .i64 zj.fRate.fD),(.int .i64 zj.fLatency.fN),(.int .i64 zj.fLatency.fD),(.func (.func 37) #[] #[(.pointer (some z2w)),(.pointer (some z2x))]),(.slice z2y z2k.length z2z)],fz []]) (fun w hw=>by have pz:=(hz.call2 hw (.nil : Sel [stb z2M 79 [(.slice z2l z1L.length z2m),(.int .i64 zj.fRate.fN),(.int .i64 zj.fRate.fD),(.int .i64 zj.fLatency.fN),(.int .i64 zj.fLatency.fD),(.func (.func 37) #[] #[(.pointer (some z2w)),(.pointer (some z2x))]),(.slice z2y z2k.length z2z)],fz []] [] [stb z2M 79 [(.slice z2l z1L.length z2m),(.int .i64 zj.fRate.fN),(.int .i64 zj.fRate.fD),(.int .i64 zj.fLatency.fN),(.int .i64 zj.fLatency.fD),(.func (.func 37) #[] #[(.pointer (some z2w)),(.pointer (some z2x))]),(.slice z2y z2k.length z2z)],fz []]) (.there .here)); exact w_slices_ContainsFunc_api_Curve_api_Curve (Z:=_) (zb8:=z2l) (zb9:=z2m) (z9d:=67) (zba:=[]) (z8v:=z1L) (zb7:=(fun (y0 : List z1)=>m_calculus_search_check_1 y0)) (r:=zkv) w pz ((zoA.mono (Zle.left _ _)).weak (fun _ _ h=>p39_mono (Zle.left _ _) h)) Try.call67 (fun w' hz' y0 ga0 gc0 r gh0 hr=>w_calculus_search_check_1 (Z:=_) (zb4:=ga0) (zb5:=gc0) (z8u:=y0) (r:=r) w' hz' gh0 hr) zuE) ?_
   refine WL.quiet (d:=19) rfl rfl rfl (q_pickF rfl rfl) ?_
   exact WL.cutEnd () trivial (.cons rfl (.cons (zp zeP) .nil)) (.cons .here (.cons .here .nil))
 ·skip
  refine WL.quiet (d:=20) rfl rfl rfl (q_move rfl) ?_
  refine WL.cut0 True [(1,(.pointer (some ⟨z2M,0,none⟩))),(25,(.bool zkx))] [stb z2M 79 [(.slice z2l z1L.length z2m),(.int .i64 zj.fRate.fN),(.int .i64 zj.fRate.fD),(.int .i64 zj.fLatency.fN),(.int .i64 zj.fLatency.fD),(.func (.func 37) #[] #[(.pointer (some z2w)),(.pointer (some z2x))]),(.slice z2y z2k.length z2z)],fz []] 5 ?_ (fun _=>?_)
  ·rcases Bool.eq_false_or_eq_true zgG with hb' | hb'
   ·have zoF:=hb'; clear hb'
    have zkD:=ite_t zoC zoF
    replace zkD:=Option.some.inj zkD
    refine WL.pin (i:=20) rfl zoF ?_
    refine WL.skip rfl rfl rfl ?_
    refine WL.skip rfl rfl rfl ?_
    refine WL.skip rfl rfl rfl ?_
    refine WL.skip rfl rfl rfl ?_
    refine WL.quiet (d:=25) rfl rfl rfl (q_pickT rfl rfl) ?_
    exact WL.cutEnd () trivial (.cons rfl (.cons (zp zkD) .nil)) (.cons .here (.cons .here .nil))
   ·have zoG:=hb'; clear hb'
    have zeQ:=ite_f zoC zoG
    obtain ⟨zkw,zuF,zeQ⟩:=ze zeQ
    replace zeQ:=Option.some.inj zeQ
    refine WL.pin (i:=20) rfl zoG ?_
    refine WL.quiet (d:=21) rfl rfl rfl (q_fieldAddr fo_79_1 rfl rfl) ?_
    refine WL.quiet (d:=22) rfl rfl rfl (q_loadA (cs:=[(.int .i64 zj.fRate.fN),(.int .i64 zj.fRate.fD),(.int .i64 zj.fLatency.fN),(.int .i64 zj.fLatency.fD)]) aggT_43 rfl rfl (rd_sub (s:=4) .here rfl)) ?_
    refine WL.callD (dd:=23) rfl rfl rfl (zn (l:=[.tmp 22]) Try.call47 (.cons rfl .nil)) (.nil : Sel [stb z2M 79 [(.slice z2l z1L.length z2m),(.int .i64 zj.fRate.fN),(.int .i64 zj.fRate.fD),(.int .i64 zj.fLatency.fN),(.int .i64 zj.fLatency.fD),(.func (.func 37) #[] #[(.pointer (some z2w)),(.pointer (some z2x))]),(.slice z2y z2k.length z2z)],fz []] [] [stb z2M 79 [(.slice z2l z1L.length z2m),(.int .i64 zj.fRate.fN),(.int .i64 zj.fRate.fD),(.int .i64 zj.fLatency.fN),(.int .i64 zj.fLatency.fD),(.func (.func 37) #[] #[(.pointer (some z2w)),(.pointer (some z2x))]),(.slice z2y z2k.length z2z)],fz []]) (fun w hw=>by have pz:=(hz.call2 hw (.nil : Sel [stb z2M 79 [(.slice z2l z1L.length z2m),(.int .i64 zj.fRate.fN),(.int .i64 zj.fRate.fD),(.int .i64 zj.fLatency.fN),(.int .i64 zj.fLatency.fD),(.func (.func 37) #[] #[(.pointer (some z2w)),(.pointer (some z2x))]),(.slice z2y z2k.length z2z)],fz []] [] [stb z2M 79 [(.slice z2l z1L.length z2m),(.int .i64 zj.fRate.fN),(.int .i64 zj.fRate.fD),(.int .i64 zj.fLatency.fN),(.int .i64 zj.fLatency.fD),(.func (.func 37) #[] #[(.pointer (some z2w)),(.pointer (some z2x))]),(.slice z2y z2k.length z2z)],fz []]) (.there .here)); exact w_calculus_Valid (Z:=_)  (zV:=zj) (r:=zkw) w pz  zuF) ?_
    refine WL.quiet (d:=24) rfl rfl rfl (q_not rfl) ?_
    refine WL.quiet (d:=25) rfl rfl rfl (q_pickF rfl rfl) ?_
    exact WL.cutEnd () trivial (.cons rfl (.cons (zp zeQ) .nil)) (.cons .here (.cons .here .nil))
  ·skip
   refine WL.nil ?_
   refine WX.then ?_
   refine WC.cond rfl (fun zkE=>?_) (fun zkE=>?_)
   ·replace h:=ite_t h zkE
    refine WC.seq ?_
    refine WC.region ?_
    refine WL.quiet (d:=2) rfl rfl rfl (q_assign rfl) ?_
    refine WL.nil ?_
    refine WX.then ?_
    refine WC.ret ?_
    refine WX.thenRet ?_
    obtain rfl:=Option.some.inj h
    refine WX.bpRet Try.results52 (.tmp rfl .nil) (fun w hw=>?_)
    exact ⟨[],ret1 rfl,trivial,hw.sub (.cons (.there .here) .nil)⟩
   ·replace h:=ite_f h zkE
    refine WC.skip ?_
    refine WX.then ?_
    refine WC.seq ?_
    refine WC.region ?_
    refine WL.new (dd:=3) rfl rfl rfl (e_alloc (cs:=[(.int .i64 0)]) zeroT_98 rfl) ?_
    intro z3o _
    refine WL.nil ?_
    refine WX.then ?_
    refine WC.seq ?_
    obtain ⟨z8P,zuG,h⟩:=ze h
    refine WC.region ?_
    refine WL.callD (dd:=26) rfl rfl rfl (zn (l:=[]) Try.call51 .nil) (.nil : Sel [stb z3o 98 [(.int .i64 0)],stb z2M 79 [(.slice z2l z1L.length z2m),(.int .i64 zj.fRate.fN),(.int .i64 zj.fRate.fD),(.int .i64 zj.fLatency.fN),(.int .i64 zj.fLatency.fD),(.func (.func 37) #[] #[(.pointer (some z2w)),(.pointer (some z2x))]),(.slice z2y z2k.length z2z)],fz []] [] [stb z3o 98 [(.int .i64 0)],stb z2M 79 [(.slice z2l z1L.length z2m),(.int .i64 zj.fRate.fN),(.int .i64 zj.fRate.fD),(.int .i64 zj.fLatency.fN),(.int .i64 zj.fLatency.fD),(.func (.func 37) #[] #[(.pointer (some z2w)),(.pointer (some z2x))]),(.slice z2y z2k.length z2z)],fz []]) (fun w hw=>by have pz:=(hz.call2 hw (.nil : Sel [stb z3o 98 [(.int .i64 0)],stb z2M 79 [(.slice z2l z1L.length z2m),(.int .i64 zj.fRate.fN),(.int .i64 zj.fRate.fD),(.int .i64 zj.fLatency.fN),(.int .i64 zj.fLatency.fD),(.func (.func 37) #[] #[(.pointer (some z2w)),(.pointer (some z2x))]),(.slice z2y z2k.length z2z)],fz []] [] [stb z3o 98 [(.int .i64 0)],stb z2M 79 [(.slice z2l z1L.length z2m),(.int .i64 zj.fRate.fN),(.int .i64 zj.fRate.fD),(.int .i64 zj.fLatency.fN),(.int .i64 zj.fLatency.fD),(.func (.func 37) #[] #[(.pointer (some z2w)),(.pointer (some z2x))]),(.slice z2y z2k.length z2z)],fz []]) (.there (.there .here))); exact w_calculus_zero (Z:=_)   (r:=z8P) w pz  zuG) ?_
    refine WL.new (dd:=4) rfl rfl rfl (e_alloc (cs:=[(.int .i64 0),(.int .i64 0)]) zeroT_30 rfl) ?_
    intro z4v _
    refine WL.eff0 rfl rfl (e_store (vs:=[(.int .i64 z8P.fN),(.int .i64 z8P.fD)]) (ds:=[(.int .i64 z8P.fN),(.int .i64 z8P.fD)]) sizT_30 rfl rfl rfl rfl (oc_cons rfl (oc_cons rfl oc_nil)) .here (Nat.le_of_ble_eq_true rfl) rfl) ?_
    refine WL.nil ?_
    refine WX.then ?_
    obtain ⟨z9R,zuH,h⟩:=jp3_elim h
    refine WC.seqMid4 (fun (z6H : Int) (z6I : Int) (z6J : Int) (z7S : Zp)=>(z9R z6H z6I z6J = some r) ∧ (Zle (Z ++ []) (Z ++ z7S))) (fun (z6H : Int) (z6I : Int) (z6J : Int) (z7S : Zp)=>[(1,(.pointer (some ⟨z2M,0,none⟩))),(3,(.pointer (some ⟨z3o,0,none⟩))),(4,(.pointer (some ⟨z4v,0,none⟩)))]) (fun (z6H : Int) (z6I : Int) (z6J : Int) (z7S : Zp)=>[fz z7S,stb z2M 79 [(.slice z2l z1L.length z2m),(.int .i64 zj.fRate.fN),(.int .i64 zj.fRate.fD),(.int .i64 zj.fLatency.fN),(.int .i64 zj.fLatency.fD),(.func (.func 37) #[] #[(.pointer (some z2w)),(.pointer (some z2x))]),(.slice z2y z2k.length z2z)],stb z3o 98 [(.int .i64 z6H)],stb z4v 30 [(.int .i64 z6I),(.int .i64 z6J)]]) ?_ ?_
    ·skip
     refine WC.seq ?_
     refine WC.region ?_
     refine WL.quiet (d:=27) rfl rfl rfl (q_fieldAddr fo_79_0 rfl rfl) ?_
     refine WL.quiet (d:=28) rfl rfl rfl (q_load1 oneT_26 rfl (rd_stb (.there (.there .here)) rfl)) ?_
     refine WL.quiet (d:=29) rfl rfl rfl (q_len Try.underlying26 rfl) ?_
     refine WL.quiet (d:=30) rfl rfl rfl (q_move rfl) ?_
     refine WL.nil ?_
     refine WX.then ?_
     refine WC.block ?_
     refine WC.loop6 (fun (zdk : Nat) (z5L : Int) (z3K : Int) (z3w : Int) (z3x : Int) (z41 : Zp)=>(m_calculus_search_checkb_L2 z1L z9R zdk z5L z3K z3w z3x = some r) ∧ (Zle (Z ++ []) (Z ++ z41))) (fun (zdk : Nat) (z5L : Int) (z3K : Int) (z3w : Int) (z3x : Int) (z41 : Zp)=>[(1,(.pointer (some ⟨z2M,0,none⟩))),(3,(.pointer (some ⟨z3o,0,none⟩))),(4,(.pointer (some ⟨z4v,0,none⟩))),(28,(.slice z2l z1L.length z2m)),(29,(.int .i64 ((z1L.length : Nat) : Int))),(30,(.int .i64 z5L))]) (fun (zdk : Nat) (z5L : Int) (z3K : Int) (z3w : Int) (z3x : Int) (z41 : Zp)=>[fz z41,stb z2M 79 [(.slice z2l z1L.length z2m),(.int .i64 zj.fRate.fN),(.int .i64 zj.fRate.fD),(.int .i64 zj.fLatency.fN),(.int .i64 zj.fLatency.fD),(.func (.func 37) #[] #[(.pointer (some z2w)),(.pointer (some z2x))]),(.slice z2y z2k.length z2z)],stb z3o 98 [(.int .i64 z3K)],stb z4v 30 [(.int .i64 z3w),(.int .i64 z3x)]]) (fun (zdk : Nat) (z5L : Int) (z3K : Int) (z3w : Int) (z3x : Int) (z41 : Zp)=>zdk) ⟨FUEL,0,0,z8P.fN,z8P.fD,[]⟩ ⟨h,(Zle.refl _)⟩ (.cons rfl (.cons rfl (.cons rfl (.cons rfl (.cons rfl (.cons rfl .nil)))))) (.cons (.there (.there (.there .here))) (.cons (.there (.there .here)) (.cons (.there .here) (.cons .here .nil)))) ?_
     rintro zdk z5L z3K z3w z3x z41 ⟨h,zgH⟩
     obtain ⟨zku,rfl⟩:=m_calculus_search_checkb_L2_fuel h
     rw [m_calculus_search_checkb_L2] at h
     refine WC.seq ?_
     refine WC.region ?_
     refine WL.quiet (d:=31) rfl rfl rfl (q_lss rfl rfl) ?_
     refine WL.nil ?_
     refine WX.then ?_
     refine WC.seq ?_
     refine WC.cond rfl (fun zkF=>?_) (fun zkF=>?_)
     ·replace h:=ite_t h zkF
      refine WC.skip ?_
      refine WX.then ?_
      refine WC.seq ?_
      refine WC.block ?_
      refine WC.seq ?_
      obtain ⟨zuI,h⟩:=chk_elim h
      refine WC.region ?_
      refine WL.znth (dd:=32) rfl rfl (Z:=(Z ++ z41)) (Pr:=(p39 (Z ++ z41))) elT_26 rfl rfl ((zoA.mono ((Zle.left _ _).trans zgH)).weak (fun _ _ h=>p39_mono ((Zle.left _ _).trans zgH) h)) zuI ?_
      rintro zyH zyI zuJ zyJ ⟨zoH,zoI,rfl,zoJ⟩
      refine WL.quiet (d:=33) rfl rfl rfl (q_load1 oneT_39 rfl (rd_z (hz.pv2 .here) zuJ rfl)) ?_
      refine WL.quiet (d:=6) rfl rfl rfl (q_assign rfl) ?_
      refine WL.nil ?_
      refine WX.then ?_
      refine WC.seq ?_
      refine WC.seq ?_
      obtain ⟨z4l,zuK,h⟩:=ze h
      refine WC.region ?_
      refine WL.quiet (d:=35) rfl rfl rfl (q_move rfl) ?_
      refine WL.enter3 (dd:=36) rfl rfl rfl (zn (l:=[.tmp 35]) Try.call68 (.cons rfl .nil)) (.nil : Sel [fz z41,stb z2M 79 [(.slice z2l z1L.length z2m),(.int .i64 zj.fRate.fN),(.int .i64 zj.fRate.fD),(.int .i64 zj.fLatency.fN),(.int .i64 zj.fLatency.fD),(.func (.func 37) #[] #[(.pointer (some z2w)),(.pointer (some z2x))]),(.slice z2y z2k.length z2z)],stb z3o 98 [(.int .i64 z3K)],stb z4v 30 [(.int .i64 z3w),(.int .i64 z3x)]] [] [fz z41,stb z2M 79 [(.slice z2l z1L.length z2m),(.int .i64 zj.fRate.fN),(.int .i64 zj.fRate.fD),(.int .i64 zj.fLatency.fN),(.int .i64 zj.fLatency.fD),(.func (.func 37) #[] #[(.pointer (some z2w)),(.pointer (some z2x))]),(.slice z2y z2k.length z2z)],stb z3o 98 [(.int .i64 z3K)],stb z4v 30 [(.int .i64 z3w),(.int .i64 z3x)]]) (fun w hw=>by have pz:=(hz.call2 hw (.nil : Sel [fz z41,stb z2M 79 [(.slice z2l z1L.length z2m),(.int .i64 zj.fRate.fN),(.int .i64 zj.fRate.fD),(.int .i64 zj.fLatency.fN),(.int .i64 zj.fLatency.fD),(.func (.func 37) #[] #[(.pointer (some z2w)),(.pointer (some z2x))]),(.slice z2y z2k.length z2z)],stb z3o 98 [(.int .i64 z3K)],stb z4v 30 [(.int .i64 z3w),(.int .i64 z3x)]] [] [fz z41,stb z2M 79 [(.slice z2l z1L.length z2m),(.int .i64 zj.fRate.fN),(.int .i64 zj.fRate.fD),(.int .i64 zj.fLatency.fN),(.int .i64 zj.fLatency.fD),(.func (.func 37) #[] #[(.pointer (some z2w)),(.pointer (some z2x))]),(.slice z2y z2k.length z2z)],stb z3o 98 [(.int .i64 z3K)],stb z4v 30 [(.int .i64 z3w),(.int .i64 z3x)]]) .here); exact w_curve_Breaks (Z:=_) (z8C:=zoH) (z8D:=zoI) (z6W:=(nth z1L z5L)) (r:=z4l) w pz zoJ zuK) ?_
      rintro z7T z8Q z8R _
      refine WL.merge .here (.there .here) ?_
      refine WL.quiet (d:=34) rfl rfl rfl (q_move rfl) ?_
      refine WL.quiet (d:=37) rfl rfl rfl (q_extract rfl rfl) ?_
      refine WL.quiet (d:=38) rfl rfl rfl (q_extract rfl rfl) ?_
      refine WL.quiet (d:=7) rfl rfl rfl (q_assign rfl) ?_
      refine WL.quiet (d:=8) rfl rfl rfl (q_assign rfl) ?_
      refine WL.nil ?_
      refine WX.then ?_
      refine WC.seq ?_
      refine WC.region ?_
      refine WL.quiet (d:=39) rfl rfl rfl (q_move rfl) ?_
      refine WL.quiet (d:=40) rfl rfl rfl (q_neq rfl rfl) ?_
      refine WL.nil ?_
      refine WX.then ?_
      refine WC.cond rfl (fun zkG=>?_) (fun zkG=>?_)
      ·replace h:=ite_t h zkG
       refine WC.seq ?_
       refine WC.region ?_
       refine WL.quiet (d:=41) rfl rfl rfl (q_move rfl) ?_
       refine WL.quiet (d:=2) rfl rfl rfl (q_assign rfl) ?_
       refine WL.nil ?_
       refine WX.then ?_
       refine WC.ret ?_
       refine WX.thenRet ?_
       refine WX.blockRet ?_
       refine WX.thenRet ?_
       refine WX.thenRet ?_
       refine WX.blockRet ?_
       refine WX.thenRet ?_
       obtain rfl:=Option.some.inj h
       refine WX.bpRet Try.results52 (.tmp rfl .nil) (fun w hw=>?_)
       exact ⟨(z41 ++ z7T),ret1 rfl,trivial,hw.sub (.cons .here .nil)⟩
      ·replace h:=ite_f h zkG
       refine WC.skip ?_
       refine WX.then ?_
       refine WC.seq ?_
       obtain ⟨z4L,zuL,h⟩:=ze h
       refine WC.region ?_
       refine WL.quiet (d:=43) rfl rfl rfl (q_move rfl) ?_
       refine WL.callD (dd:=44) rfl rfl rfl (zn (l:=[.tmp 43]) Try.call21 (.cons rfl .nil)) (.nil : Sel [fz (z41 ++ z7T),row (.slice z8Q z4l.1.length z8R) 30 2 (z4l.1.flatMap e30),stb z2M 79 [(.slice z2l z1L.length z2m),(.int .i64 zj.fRate.fN),(.int .i64 zj.fRate.fD),(.int .i64 zj.fLatency.fN),(.int .i64 zj.fLatency.fD),(.func (.func 37) #[] #[(.pointer (some z2w)),(.pointer (some z2x))]),(.slice z2y z2k.length z2z)],stb z3o 98 [(.int .i64 z3K)],stb z4v 30 [(.int .i64 z3w),(.int .i64 z3x)]] [] [fz (z41 ++ z7T),row (.slice z8Q z4l.1.length z8R) 30 2 (z4l.1.flatMap e30),stb z2M 79 [(.slice z2l z1L.length z2m),(.int .i64 zj.fRate.fN),(.int .i64 zj.fRate.fD),(.int .i64 zj.fLatency.fN),(.int .i64 zj.fLatency.fD),(.func (.func 37) #[] #[(.pointer (some z2w)),(.pointer (some z2x))]),(.slice z2y z2k.length z2z)],stb z3o 98 [(.int .i64 z3K)],stb z4v 30 [(.int .i64 z3w),(.int .i64 z3x)]]) (fun w hw=>by have pz:=(hz.call2 hw (.nil : Sel [fz (z41 ++ z7T),row (.slice z8Q z4l.1.length z8R) 30 2 (z4l.1.flatMap e30),stb z2M 79 [(.slice z2l z1L.length z2m),(.int .i64 zj.fRate.fN),(.int .i64 zj.fRate.fD),(.int .i64 zj.fLatency.fN),(.int .i64 zj.fLatency.fD),(.func (.func 37) #[] #[(.pointer (some z2w)),(.pointer (some z2x))]),(.slice z2y z2k.length z2z)],stb z3o 98 [(.int .i64 z3K)],stb z4v 30 [(.int .i64 z3w),(.int .i64 z3x)]] [] [fz (z41 ++ z7T),row (.slice z8Q z4l.1.length z8R) 30 2 (z4l.1.flatMap e30),stb z2M 79 [(.slice z2l z1L.length z2m),(.int .i64 zj.fRate.fN),(.int .i64 zj.fRate.fD),(.int .i64 zj.fLatency.fN),(.int .i64 zj.fLatency.fD),(.func (.func 37) #[] #[(.pointer (some z2w)),(.pointer (some z2x))]),(.slice z2y z2k.length z2z)],stb z3o 98 [(.int .i64 z3K)],stb z4v 30 [(.int .i64 z3w),(.int .i64 z3x)]]) .here); exact w_curve_Rate (Z:=_) (zam:=zoH) (zan:=zoI) (z7D:=(nth z1L z5L)) (r:=z4L) w pz (zoJ.mono ((Zle.left _ _).trans (Zle.assoc _ _ _))) zuL) ?_
       refine WL.quiet (d:=42) rfl rfl rfl (q_move rfl) ?_
       refine WL.quiet (d:=45) rfl rfl rfl (q_extract rfl rfl) ?_
       refine WL.quiet (d:=46) rfl rfl rfl (q_extract rfl rfl) ?_
       refine WL.new (dd:=9) rfl rfl rfl (e_alloc (cs:=[(.int .i64 0),(.int .i64 0)]) zeroT_30 rfl) ?_
       intro zdl _
       refine WL.eff0 rfl rfl (e_store (vs:=[(.int .i64 z4L.1.fN),(.int .i64 z4L.1.fD)]) (ds:=[(.int .i64 z4L.1.fN),(.int .i64 z4L.1.fD)]) sizT_30 rfl rfl rfl rfl (oc_cons rfl (oc_cons rfl oc_nil)) .here (Nat.le_of_ble_eq_true rfl) rfl) ?_
       refine WL.quiet (d:=10) rfl rfl rfl (q_assign rfl) ?_
       refine WL.nil ?_
       refine WX.then ?_
       obtain ⟨z7R,zuM,h⟩:=ze h
       refine WC.region ?_
       refine WL.quiet (d:=47) rfl rfl rfl (q_loadA (cs:=[(.int .i64 z3w),(.int .i64 z3x)]) aggT_30 rfl rfl (rd_all (.there (.there (.there (.there (.there .here))))))) ?_
       refine WL.quiet (d:=48) rfl rfl rfl (q_loadA (cs:=[(.int .i64 z4L.1.fN),(.int .i64 z4L.1.fD)]) aggT_30 rfl rfl (rd_all .here)) ?_
       refine WL.callD (dd:=49) rfl rfl rfl (zn (l:=[.tmp 3,.func 19,.tmp 47,.tmp 48]) Try.call33 (.cons rfl (.cons rfl (.cons rfl (.cons rfl .nil))))) ((.cons (.there (.there (.there (.there .here)))) .nil) : Sel [stb zdl 30 [(.int .i64 z4L.1.fN),(.int .i64 z4L.1.fD)],fz (z41 ++ z7T),row (.slice z8Q z4l.1.length z8R) 30 2 (z4l.1.flatMap e30),stb z2M 79 [(.slice z2l z1L.length z2m),(.int .i64 zj.fRate.fN),(.int .i64 zj.fRate.fD),(.int .i64 zj.fLatency.fN),(.int .i64 zj.fLatency.fD),(.func (.func 37) #[] #[(.pointer (some z2w)),(.pointer (some z2x))]),(.slice z2y z2k.length z2z)],stb z3o 98 [(.int .i64 z3K)],stb z4v 30 [(.int .i64 z3w),(.int .i64 z3x)]] [stb z3o 98 [(.int .i64 z3K)]] [stb zdl 30 [(.int .i64 z4L.1.fN),(.int .i64 z4L.1.fD)],fz (z41 ++ z7T),row (.slice z8Q z4l.1.length z8R) 30 2 (z4l.1.flatMap e30),stb z2M 79 [(.slice z2l z1L.length z2m),(.int .i64 zj.fRate.fN),(.int .i64 zj.fRate.fD),(.int .i64 zj.fLatency.fN),(.int .i64 zj.fLatency.fD),(.func (.func 37) #[] #[(.pointer (some z2w)),(.pointer (some z2x))]),(.slice z2y z2k.length z2z)],stb z4v 30 [(.int .i64 z3w),(.int .i64 z3x)]]) (fun w hw=>by have pz:=(hz.call2 hw ((.cons (.there (.there (.there (.there .here)))) .nil) : Sel [stb zdl 30 [(.int .i64 z4L.1.fN),(.int .i64 z4L.1.fD)],fz (z41 ++ z7T),row (.slice z8Q z4l.1.length z8R) 30 2 (z4l.1.flatMap e30),stb z2M 79 [(.slice z2l z1L.length z2m),(.int .i64 zj.fRate.fN),(.int .i64 zj.fRate.fD),(.int .i64 zj.fLatency.fN),(.int .i64 zj.fLatency.fD),(.func (.func 37) #[] #[(.pointer (some z2w)),(.pointer (some z2x))]),(.slice z2y z2k.length z2z)],stb z3o 98 [(.int .i64 z3K)],stb z4v 30 [(.int .i64 z3w),(.int .i64 z3x)]] [stb z3o 98 [(.int .i64 z3K)]] [stb zdl 30 [(.int .i64 z4L.1.fN),(.int .i64 z4L.1.fD)],fz (z41 ++ z7T),row (.slice z8Q z4l.1.length z8R) 30 2 (z4l.1.flatMap e30),stb z2M 79 [(.slice z2l z1L.length z2m),(.int .i64 zj.fRate.fN),(.int .i64 zj.fRate.fD),(.int .i64 zj.fLatency.fN),(.int .i64 zj.fLatency.fD),(.func (.func 37) #[] #[(.pointer (some z2w)),(.pointer (some z2x))]),(.slice z2y z2k.length z2z)],stb z4v 30 [(.int .i64 z3w),(.int .i64 z3x)]]) (.there .here)); exact w_calculus_calc_do (Z:=_) (z3R:=z3o) (z6q:=19) (z6Y:=[]) (z4H:=(⟨z3K⟩ : z2a)) (z7h:=(fun (y0 : z2) (y1 : z2)=>m_rat_Add y0 y1)) (z2H:=(⟨z3w,z3x⟩ : z2)) (z2I:=z4L.1) (r:=z7R) w pz Try.call19 (fun w' hz' y0 y1  r  hr=>w_rat_Add (Z:=_)  (z3E:=y0) (z3F:=y1) (r:=r) w' hz'  hr) zuM (hw.owns ((.cons (.there (.there (.there (.there .here)))) .nil) : Sel [stb zdl 30 [(.int .i64 z4L.1.fN),(.int .i64 z4L.1.fD)],fz (z41 ++ z7T),row (.slice z8Q z4l.1.length z8R) 30 2 (z4l.1.flatMap e30),stb z2M 79 [(.slice z2l z1L.length z2m),(.int .i64 zj.fRate.fN),(.int .i64 zj.fRate.fD),(.int .i64 zj.fLatency.fN),(.int .i64 zj.fLatency.fD),(.func (.func 37) #[] #[(.pointer (some z2w)),(.pointer (some z2x))]),(.slice z2y z2k.length z2z)],stb z3o 98 [(.int .i64 z3K)],stb z4v 30 [(.int .i64 z3w),(.int .i64 z3x)]] [stb z3o 98 [(.int .i64 z3K)]] [stb zdl 30 [(.int .i64 z4L.1.fN),(.int .i64 z4L.1.fD)],fz (z41 ++ z7T),row (.slice z8Q z4l.1.length z8R) 30 2 (z4l.1.flatMap e30),stb z2M 79 [(.slice z2l z1L.length z2m),(.int .i64 zj.fRate.fN),(.int .i64 zj.fRate.fD),(.int .i64 zj.fLatency.fN),(.int .i64 zj.fLatency.fD),(.func (.func 37) #[] #[(.pointer (some z2w)),(.pointer (some z2x))]),(.slice z2y z2k.length z2z)],stb z4v 30 [(.int .i64 z3w),(.int .i64 z3x)]]))) ?_
       refine WL.eff0 rfl rfl (e_store (vs:=[(.int .i64 z7R.1.fN),(.int .i64 z7R.1.fD)]) (ds:=[(.int .i64 z7R.1.fN),(.int .i64 z7R.1.fD)]) sizT_30 rfl rfl rfl rfl (oc_cons rfl (oc_cons rfl oc_nil)) (.there (.there (.there (.there (.there .here))))) (Nat.le_of_ble_eq_true rfl) rfl) ?_
       refine WL.nil ?_
       refine WX.blockNormal ?_
       refine WX.then ?_
       refine WC.region ?_
       refine WL.quiet (d:=50) rfl rfl rfl (q_add rfl rfl rfl) ?_
       refine WL.quiet (d:=30) rfl rfl rfl (q_move rfl) ?_
       refine WL.nil ?_
       exact WX.round (G:=Nat × Int × Int × Int × Int × Zp) ⟨zku,(i64 (z5L + 1)),z7R.2.fE,z7R.1.fN,z7R.1.fD,(z41 ++ z7T)⟩ ⟨h,(zgH.trans ((Zle.left _ _).trans (Zle.assoc _ _ _)))⟩ (Nat.lt_succ_self _) (.cons rfl (.cons rfl (.cons rfl (.cons rfl (.cons rfl (.cons rfl .nil)))))) (.cons (.there (.there (.there .here))) (.cons (.there (.there (.there (.there .here)))) (.cons (.there .here) (.cons .here .nil))))
     ·replace h:=ite_f h zkF
      refine WC.exit ?_
      refine WX.thenExit ?_
      refine WX.thenExit ?_
      refine WX.blockHit ?_
      exact WX.mid (G:=Int × Int × Int × Zp) ⟨z3K,z3w,z3x,z41⟩ ⟨h,zgH⟩ (.cons rfl (.cons rfl (.cons rfl .nil))) (.cons .here (.cons .here (.cons .here (.cons .here .nil))))
    ·rintro z6H z6I z6J z7S ⟨h,zyK⟩
     replace h:=(zuH z6H z6I z6J).symm.trans h
     refine WC.seq ?_
     refine WC.seq ?_
     obtain ⟨zkz,zoK,h⟩:=ze h
     refine WC.region ?_
     refine WL.quiet (d:=51) rfl rfl rfl (q_fieldAddr fo_98_0 rfl rfl) ?_
     refine WL.quiet (d:=52) rfl rfl rfl (q_load1 oneT_31 rfl (rd_stb (.there (.there .here)) rfl)) ?_
     refine WL.quiet (d:=53) rfl rfl rfl (q_eql rfl rfl) ?_
     refine WL.quiet (d:=54) rfl rfl rfl (q_move rfl) ?_
     refine WL.cut0 True [(3,(.pointer (some ⟨z3o,0,none⟩))),(61,(.bool zkz))] [fz z7S,stb z2M 79 [(.slice z2l z1L.length z2m),(.int .i64 zj.fRate.fN),(.int .i64 zj.fRate.fD),(.int .i64 zj.fLatency.fN),(.int .i64 zj.fLatency.fD),(.func (.func 37) #[] #[(.pointer (some z2w)),(.pointer (some z2x))]),(.slice z2y z2k.length z2z)],stb z3o 98 [(.int .i64 z6H)],stb z4v 30 [(.int .i64 z6I),(.int .i64 z6J)]] 7 ?_ (fun _=>?_)
     ·rcases Bool.eq_false_or_eq_true (decide (z6H = 0)) with hb' | hb'
      ·have zoL:=hb'; clear hb'
       have zeR:=ite_t zoK zoL
       obtain ⟨zky,zuN,zeR⟩:=ze zeR
       replace zeR:=Option.some.inj zeR
       refine WL.pin (i:=54) rfl zoL ?_
       refine WL.quiet (d:=55) rfl rfl rfl (q_loadA (cs:=[(.int .i64 z6I),(.int .i64 z6J)]) aggT_30 rfl rfl (rd_all (.there (.there (.there .here))))) ?_
       refine WL.quiet (d:=56) rfl rfl rfl (q_fieldAddr fo_79_1 rfl rfl) ?_
       refine WL.quiet (d:=57) rfl rfl rfl (q_fieldAddr fo_43_0 rfl rfl) ?_
       refine WL.quiet (d:=58) rfl rfl rfl (q_loadA (cs:=[(.int .i64 zj.fRate.fN),(.int .i64 zj.fRate.fD)]) aggT_30 rfl rfl (rd_sub (s:=2) (.there .here) rfl)) ?_
       refine WL.callD (dd:=59) rfl rfl rfl (zn (l:=[.tmp 55,.tmp 58]) Try.call18 (.cons rfl (.cons rfl .nil))) (.nil : Sel [fz z7S,stb z2M 79 [(.slice z2l z1L.length z2m),(.int .i64 zj.fRate.fN),(.int .i64 zj.fRate.fD),(.int .i64 zj.fLatency.fN),(.int .i64 zj.fLatency.fD),(.func (.func 37) #[] #[(.pointer (some z2w)),(.pointer (some z2x))]),(.slice z2y z2k.length z2z)],stb z3o 98 [(.int .i64 z6H)],stb z4v 30 [(.int .i64 z6I),(.int .i64 z6J)]] [] [fz z7S,stb z2M 79 [(.slice z2l z1L.length z2m),(.int .i64 zj.fRate.fN),(.int .i64 zj.fRate.fD),(.int .i64 zj.fLatency.fN),(.int .i64 zj.fLatency.fD),(.func (.func 37) #[] #[(.pointer (some z2w)),(.pointer (some z2x))]),(.slice z2y z2k.length z2z)],stb z3o 98 [(.int .i64 z6H)],stb z4v 30 [(.int .i64 z6I),(.int .i64 z6J)]]) (fun w hw=>by have pz:=(hz.call2 hw (.nil : Sel [fz z7S,stb z2M 79 [(.slice z2l z1L.length z2m),(.int .i64 zj.fRate.fN),(.int .i64 zj.fRate.fD),(.int .i64 zj.fLatency.fN),(.int .i64 zj.fLatency.fD),(.func (.func 37) #[] #[(.pointer (some z2w)),(.pointer (some z2x))]),(.slice z2y z2k.length z2z)],stb z3o 98 [(.int .i64 z6H)],stb z4v 30 [(.int .i64 z6I),(.int .i64 z6J)]] [] [fz z7S,stb z2M 79 [(.slice z2l z1L.length z2m),(.int .i64 zj.fRate.fN),(.int .i64 zj.fRate.fD),(.int .i64 zj.fLatency.fN),(.int .i64 zj.fLatency.fD),(.func (.func 37) #[] #[(.pointer (some z2w)),(.pointer (some z2x))]),(.slice z2y z2k.length z2z)],stb z3o 98 [(.int .i64 z6H)],stb z4v 30 [(.int .i64 z6I),(.int .i64 z6J)]]) .here); exact w_rat_Cmp (Z:=_)  (z21:=(⟨z6I,z6J⟩ : z2)) (z23:=zj.fRate) (r:=zky) w pz  zuN) ?_
       refine WL.quiet (d:=60) rfl rfl rfl (q_gtr rfl rfl) ?_
       refine WL.quiet (d:=61) rfl rfl rfl (q_pickT rfl rfl) ?_
       exact WL.cutEnd () trivial (.cons rfl (.cons (zp zeR) .nil)) (.cons .here (.cons .here (.cons .here (.cons .here .nil))))
      ·have zoM:=hb'; clear hb'
       have zkH:=ite_f zoK zoM
       replace zkH:=Option.some.inj zkH
       refine WL.pin (i:=54) rfl zoM ?_
       refine WL.skip rfl rfl rfl ?_
       refine WL.skip rfl rfl rfl ?_
       refine WL.skip rfl rfl rfl ?_
       refine WL.skip rfl rfl rfl ?_
       refine WL.skip rfl rfl rfl ?_
       refine WL.skip rfl rfl rfl ?_
       refine WL.quiet (d:=61) rfl rfl rfl (q_pickF rfl rfl) ?_
       exact WL.cutEnd () trivial (.cons rfl (.cons (zp zkH) .nil)) (.cons .here (.cons .here (.cons .here (.cons .here .nil))))
     ·skip
      refine WL.nil ?_
      refine WX.then ?_
      refine WC.cond rfl (fun zkI=>?_) (fun zkI=>?_)
      ·replace h:=ite_t h zkI
       refine WC.seq ?_
       refine WC.region ?_
       refine WL.quiet (d:=2) rfl rfl rfl (q_assign rfl) ?_
       refine WL.nil ?_
       refine WX.then ?_
       refine WC.ret ?_
       refine WX.thenRet ?_
       obtain rfl:=Option.some.inj h
       refine WX.bpRet Try.results52 (.tmp rfl .nil) (fun w hw=>?_)
       exact ⟨z7S,ret1 rfl,trivial,hw.sub (.cons .here .nil)⟩
      ·replace h:=ite_f h zkI
       refine WC.skip ?_
       refine WX.then ?_
       refine WC.seq ?_
       refine WC.region ?_
       refine WL.quiet (d:=62) rfl rfl rfl (q_fieldAddr fo_98_0 rfl rfl) ?_
       refine WL.quiet (d:=63) rfl rfl rfl (q_load1 oneT_31 rfl (rd_stb (.there (.there .here)) rfl)) ?_
       refine WL.quiet (d:=2) rfl rfl rfl (q_assign rfl) ?_
       refine WL.nil ?_
       refine WX.then ?_
       refine WC.ret ?_
       obtain rfl:=Option.some.inj h
       refine WX.bpRet Try.results52 (.tmp rfl .nil) (fun w hw=>?_)
       exact ⟨z7S,ret1 rfl,trivial,hw.sub (.cons .here .nil)⟩
def m_calculus_search_pointsb (z9S : List (List z1)) (z4w : Sapi_Server) (zeS : List (List z1)) (zbW : Sapi_Server) (z9T : List z2) : Option (Int × Int × Int × Int) :=
 some (z4w.fRate.fN,z4w.fRate.fD,z4w.fLatency.fN,z4w.fLatency.fD)
set_option maxRecDepth 20000 in
theorem w_calculus_search_pointsb (Z : Zp)  (zbX : Option Addr) (zbY : Nat) (zbZ : Addr) (zkJ : Option Addr) (zkK : Nat) (zc0 : Addr) (zc1 : Option Addr) (zc2 : Nat) (z9S : List (List z1)) (z4w : Sapi_Server) (zeS : List (List z1)) (zbW : Sapi_Server) (z9T : List z2) (r : Int × Int × Int × Int) (w₀ : World) (hz : PZ [] w₀ Z)
  (zyL : ZS Z 1 (p39 Z) zbX zbY z9S)
  (zyM : ZS Z 1 (p39 Z) zkJ zkK zeS)
  (zyN : ZC Z zbZ [(.slice zkJ zeS.length zkK)])
  (zyO : ZC Z zc0 [(.int .i64 zbW.fRate.fN),(.int .i64 zbW.fRate.fD),(.int .i64 zbW.fLatency.fN),(.int .i64 zbW.fLatency.fD)])
  (zyP : ZS Z 2 (fun r x=>r = e30 x) zc1 zc2 z9T)
  (h : m_calculus_search_pointsb z9S z4w zeS zbW z9T = some r) :
  Calls Try.prog 53 #[(.agg #[(.slice zbX z9S.length zbY),(.int .i64 z4w.fRate.fN),(.int .i64 z4w.fRate.fD),(.int .i64 z4w.fLatency.fN),(.int .i64 z4w.fLatency.fD),(.func (.func 37) #[] #[(.pointer (some zbZ)),(.pointer (some zc0))]),(.slice zc1 z9T.length zc2)])] w₀ fun e w'=>∃ zoN : Nat,e = .returned (.func (.func 69) #[] #[(.pointer (some ⟨zoN,0,none⟩))]) ∧ True ∧ Hp [] w₀ w' [stb zoN 79 [(.slice zbX z9S.length zbY),(.int .i64 r.1),(.int .i64 r.2.1),(.int .i64 r.2.2.1),(.int .i64 r.2.2.2),(.func (.func 37) #[] #[(.pointer (some zbZ)),(.pointer (some zc0))]),(.slice zc1 z9T.length zc2)]]:=by
 unfold m_calculus_search_pointsb at h
 refine Calls.ofWC (vs:=[(.agg #[(.slice zbX z9S.length zbY),(.int .i64 z4w.fRate.fN),(.int .i64 z4w.fRate.fD),(.int .i64 z4w.fLatency.fN),(.int .i64 z4w.fLatency.fD),(.func (.func 37) #[] #[(.pointer (some zbZ)),(.pointer (some zc0))]),(.slice zc1 z9T.length zc2)])]) (pre:=[]) (env:=[(0,(.agg #[(.slice zbX z9S.length zbY),(.int .i64 z4w.fRate.fN),(.int .i64 z4w.fRate.fD),(.int .i64 z4w.fLatency.fN),(.int .i64 z4w.fLatency.fD),(.func (.func 37) #[] #[(.pointer (some zbZ)),(.pointer (some zc0))]),(.slice zc1 z9T.length zc2)]))]) Try.func53 rfl Try.ntmps53 rfl (Hp.nil w₀ _) rfl ?_
 refine WC.seq ?_
 refine WC.region ?_
 refine WL.new (dd:=1) rfl rfl rfl (e_box (cs:=[(.slice zbX z9S.length zbY),(.int .i64 z4w.fRate.fN),(.int .i64 z4w.fRate.fD),(.int .i64 z4w.fLatency.fN),(.int .i64 z4w.fLatency.fD),(.func (.func 37) #[] #[(.pointer (some zbZ)),(.pointer (some zc0))]),(.slice zc1 z9T.length zc2)]) rfl rfl) ?_
 intro zuO _
 refine WL.quiet (d:=2) rfl rfl rfl (q_assign rfl) ?_
 refine WL.nil ?_
 refine WX.then ?_
 refine WC.seq ?_
 refine WC.region ?_
 refine WL.quiet (d:=3) rfl rfl rfl (q_makeFunc (Eos.caps (l:=[.tmp 1]) (.cons rfl .nil))) ?_
 refine WL.quiet (d:=2) rfl rfl rfl (q_assign rfl) ?_
 refine WL.nil ?_
 refine WX.then ?_
 refine WC.ret ?_
 obtain rfl:=Option.some.inj h
 refine WX.bpRet Try.results53 (.tmp rfl .nil) (fun w hw=>?_)
 exact ⟨zuO,ret1 rfl,trivial,hw.sub (.cons .here .nil)⟩
def m_calculus_search_points_1b_L5 (zw : Type) (zy : List z2 × Int) (z3L : z2 → zw → Option (Bool × zw)) (z9U : zw → Option zw) : Nat → Int → zw → Option zw
 | 0,_,_=>none
 | zkL + 1,z1p,z4m=>if decide (z1p < ((zy.1.length : Nat) : Int)) then chk ((0 : Int) ≤ z1p ∧ z1p < ((zy.1.length : Nat) : Int)) ((m_rat_Floor (⟨((nth zy.1 z1p).fN),((nth zy.1 z1p).fD)⟩ : z2)).bind fun zgI=>(m_calculus_whole zgI).bind fun zgJ=>(z3L zgJ z4m).bind fun z5M=>(if !z5M.1 then some (true,z5M.2) else (m_rat_Ceil (⟨((nth zy.1 z1p).fN),((nth zy.1 z1p).fD)⟩ : z2)).bind fun zgK=>(m_calculus_whole zgK).bind fun zgL=>(z3L zgL z5M.2).bind fun zeT=>some (!zeT.1,zeT.2)).bind fun zaO=>if zaO.1 then some zaO.2 else m_calculus_search_points_1b_L5 zw zy z3L z9U zkL (i64 (z1p + 1)) zaO.2) else z9U z4m
theorem m_calculus_search_points_1b_L5_fuel {n : Nat} {zw : Type} {zy : List z2 × Int} {z3L : z2 → zw → Option (Bool × zw)} {z9U : zw → Option zw} {z1p : Int} {z4m : zw} {r : zw} (h : m_calculus_search_points_1b_L5 zw zy z3L z9U n z1p z4m = some r) : ∃ m,n = m + 1:=by
 cases n with
 | zero=>cases h
 | succ m=>exact ⟨m,rfl⟩
def m_calculus_search_points_1b_L4 (zw : Type) (z42 : List (List z1)) (z3L : z2 → zw → Option (Bool × zw)) (z9V : zw → Option zw) : Nat → Int → zw → Option zw
 | 0,_,_=>none
 | zkM + 1,z56,z5N=>if decide (z56 < ((z42.length : Nat) : Int)) then jp1 (fun (z8S : zw)=>m_calculus_search_points_1b_L4 zw z42 z3L z9V zkM (i64 (z56 + 1)) z8S) fun zkN=>chk ((0 : Int) ≤ z56 ∧ z56 < ((z42.length : Nat) : Int)) ((m_curve_Breaks (nth z42 z56)).bind fun zy=>jp1 (fun (z8T : zw)=>zkN z8T) fun z9U=>m_calculus_search_points_1b_L5 zw zy z3L z9U FUEL 0 z5N) else z9V z5N
theorem m_calculus_search_points_1b_L4_fuel {n : Nat} {zw : Type} {z42 : List (List z1)} {z3L : z2 → zw → Option (Bool × zw)} {z9V : zw → Option zw} {z56 : Int} {z5N : zw} {r : zw} (h : m_calculus_search_points_1b_L4 zw z42 z3L z9V n z56 z5N = some r) : ∃ m,n = m + 1:=by
 cases n with
 | zero=>cases h
 | succ m=>exact ⟨m,rfl⟩
def m_calculus_search_points_1b_L6 (zw : Type) (z1g : List z2) (z3L : z2 → zw → Option (Bool × zw)) (z9W : zw → Option zw) : Nat → Int → zw → Option zw
 | 0,_,_=>none
 | zkO + 1,z1q,z4n=>if decide (z1q < ((z1g.length : Nat) : Int)) then chk ((0 : Int) ≤ z1q ∧ z1q < ((z1g.length : Nat) : Int)) ((m_rat_Floor (⟨((nth z1g z1q).fN),((nth z1g z1q).fD)⟩ : z2)).bind fun zgM=>(m_calculus_whole zgM).bind fun zgN=>(z3L zgN z4n).bind fun z5O=>(if !z5O.1 then some (true,z5O.2) else (m_rat_Ceil (⟨((nth z1g z1q).fN),((nth z1g z1q).fD)⟩ : z2)).bind fun zgO=>(m_calculus_whole zgO).bind fun zgP=>(z3L zgP z5O.2).bind fun zeU=>some (!zeU.1,zeU.2)).bind fun zaP=>if zaP.1 then some zaP.2 else m_calculus_search_points_1b_L6 zw z1g z3L z9W zkO (i64 (z1q + 1)) zaP.2) else z9W z4n
theorem m_calculus_search_points_1b_L6_fuel {n : Nat} {zw : Type} {z1g : List z2} {z3L : z2 → zw → Option (Bool × zw)} {z9W : zw → Option zw} {z1q : Int} {z4n : zw} {r : zw} (h : m_calculus_search_points_1b_L6 zw z1g z3L z9W n z1q z4n = some r) : ∃ m,n = m + 1:=by
 cases n with
 | zero=>cases h
 | succ m=>exact ⟨m,rfl⟩
def m_calculus_search_points_1b (zw : Type) (z3L : z2 → zw → Option (Bool × zw)) (s0_30244 : zw) (z42 : List (List z1)) (zc3 : Sapi_Server) (zeV : List (List z1)) (zc4 : Sapi_Server) (z1g : List z2) : Option zw :=
 (m_calculus_zero).bind fun zgQ=>(z3L zgQ s0_30244).bind fun zc5=>if !zc5.1 then some zc5.2 else jp1 (fun (z8U : zw)=>jp1 (fun (z9X : zw)=>some z9X) fun z9W=>m_calculus_search_points_1b_L6 zw z1g z3L z9W FUEL 0 z8U) fun z9V=>m_calculus_search_points_1b_L4 zw z42 z3L z9V FUEL 0 zc5.2
set_option maxRecDepth 20000 in
theorem w_calculus_search_points_1b (Z : Zp) (zw : Type) (z7o : Nat) (z2n : Type) (z1r : z2n → zw → Asrt) (z7p : z2n → zw → Prop) (z73 : z2n) (z8n : Addr) (zaQ : Option Addr) (zaR : Nat) (zkP : Addr) (zkQ : Option Addr) (zkR : Nat) (zkS : Addr) (zeW : Option Addr) (zeX : Nat) (z3L : z2 → zw → Option (Bool × zw)) (s0_30244 : zw) (z42 : List (List z1)) (zc3 : Sapi_Server) (zeV : List (List z1)) (zc4 : Sapi_Server) (z1g : List z2) (r : zw) (w₀ : World) (hz : PZ (fps [z1r z73 s0_30244]) w₀ Z)
  (zeY : YieldP Try.prog Z z7o (α:=z2) (σ:=zw) (G:=z2n) (H:=Unit) (fun h x=>[(.agg #[(.int .i64 x.fN),(.int .i64 x.fD)])]) (fun h x=>[]) z3L z1r z7p)
  (zuP : z7p z73 s0_30244)
  (zuQ : ZS Z 1 (p39 Z) zaQ zaR z42)
  (zyQ : ZS Z 1 (p39 Z) zkQ zkR zeV)
  (zyR : ZC Z zkP [(.slice zkQ zeV.length zkR)])
  (zyS : ZC Z zkS [(.int .i64 zc4.fRate.fN),(.int .i64 zc4.fRate.fD),(.int .i64 zc4.fLatency.fN),(.int .i64 zc4.fLatency.fD)])
  (zuR : ZS Z 2 (fun r x=>r = e30 x) zeW zeX z1g)
  (zoO : ZC Z z8n [(.slice zaQ z42.length zaR),(.int .i64 zc3.fRate.fN),(.int .i64 zc3.fRate.fD),(.int .i64 zc3.fLatency.fN),(.int .i64 zc3.fLatency.fD),(.func (.func 37) #[] #[(.pointer (some zkP)),(.pointer (some zkS))]),(.slice zeW z1g.length zeX)])
  (h : m_calculus_search_points_1b zw z3L s0_30244 z42 zc3 zeV zc4 z1g = some r)
  (hown : Hp (fps [z1r z73 s0_30244]) w₀ w₀ [z1r z73 s0_30244]) :
  Calls Try.prog 69 #[(.func (.yield z7o) #[] #[]),(.pointer (some z8n))] w₀ fun e w'=>∃ Zn : Zp,∃ zoP : z2n,e = .returned (.tuple #[]) ∧ (z7p zoP r) ∧ Hp (fps [z1r z73 s0_30244]) w₀ w' [fz Zn,z1r zoP r]:=by
 unfold m_calculus_search_points_1b at h
 refine Calls.ofWC (vs:=[(.func (.yield z7o) #[] #[]),(.pointer (some z8n))]) (pre:=[z1r z73 s0_30244]) (env:=[(0,(.func (.yield z7o) #[] #[])),(1,(.pointer (some z8n)))]) Try.func69 rfl Try.ntmps69 rfl (hown) rfl ?_
 refine WC.pool ?_
 refine WC.seq ?_
 refine WC.seq ?_
 obtain ⟨zgQ,zuS,h⟩:=ze h
 obtain ⟨zc5,zuT,h⟩:=ze h
 refine WC.region ?_
 refine WL.quiet (d:=11) rfl rfl rfl (q_move rfl) ?_
 refine WL.callD (dd:=12) rfl rfl rfl (zn (l:=[]) Try.call51 .nil) (.nil : Sel [fz [],z1r z73 s0_30244] [] [fz [],z1r z73 s0_30244]) (fun w hw=>by have pz:=(hz.call2 hw (.nil : Sel [fz [],z1r z73 s0_30244] [] [fz [],z1r z73 s0_30244]) .here); exact w_calculus_zero (Z:=_)   (r:=zgQ) w pz  zuS) ?_
 refine WL.yield (dd:=13) (x:=zgQ) (h:=()) (g:=z73) (s:=s0_30244) (b:=zc5.1) (s':=zc5.2) zeY rfl rfl rfl (.cons rfl .nil) ((.cons (.there .here) .nil) : Sel _ [z1r z73 s0_30244] _) zuT zuP (fun w hw=>hz.call hw ((.cons (.there .here) .nil) : Sel _ [z1r z73 s0_30244] _)) ?_
 intro zoQ zoR
 refine WL.quiet (d:=14) rfl rfl rfl (q_not rfl) ?_
 refine WL.nil ?_
 refine WX.then ?_
 refine WC.cond rfl (fun zkT=>?_) (fun zkT=>?_)
 ·replace h:=ite_t h zkT
  refine WC.ret ?_
  refine WX.thenRet ?_
  obtain rfl:=Option.some.inj h
  refine WX.bpRet Try.results69 .nil (fun w hw=>?_)
  exact ⟨[],zoQ,ret0,zoR,hw.sub (.cons (.there .here) (.cons .here .nil))⟩
 ·replace h:=ite_f h zkT
  refine WC.skip ?_
  refine WX.then ?_
  obtain ⟨z9V,zuU,h⟩:=jp1_elim h
  refine WC.seqMid3 (fun (z8U : zw) (z3M : Zp) (zdm : z2n)=>(z9V z8U = some r) ∧ (Zle (Z ++ []) (Z ++ z3M)) ∧ (z7p zdm z8U)) (fun (z8U : zw) (z3M : Zp) (zdm : z2n)=>[(0,(.func (.yield z7o) #[] #[])),(1,(.pointer (some z8n)))]) (fun (z8U : zw) (z3M : Zp) (zdm : z2n)=>[fz z3M,z1r zdm z8U]) ?_ ?_
  ·skip
   refine WC.seq ?_
   refine WC.region ?_
   refine WL.quiet (d:=15) rfl rfl rfl (q_fieldAddr fo_79_0 rfl rfl) ?_
   refine WL.quiet (d:=16) rfl rfl rfl (q_load1 oneT_26 rfl (rd_zAt (hz.pv2 (.there .here)) (zoO.mono (Zle.left _ _)) rfl)) ?_
   refine WL.quiet (d:=17) rfl rfl rfl (q_len Try.underlying26 rfl) ?_
   refine WL.quiet (d:=18) rfl rfl rfl (q_move rfl) ?_
   refine WL.nil ?_
   refine WX.then ?_
   refine WC.block ?_
   refine WC.loop5 (fun (zdn : Nat) (z56 : Int) (z5N : zw) (z2Y : Zp) (z7U : z2n)=>(m_calculus_search_points_1b_L4 zw z42 z3L z9V zdn z56 z5N = some r) ∧ (Zle (Z ++ []) (Z ++ z2Y)) ∧ (z7p z7U z5N)) (fun (zdn : Nat) (z56 : Int) (z5N : zw) (z2Y : Zp) (z7U : z2n)=>[(0,(.func (.yield z7o) #[] #[])),(1,(.pointer (some z8n))),(16,(.slice zaQ z42.length zaR)),(17,(.int .i64 ((z42.length : Nat) : Int))),(18,(.int .i64 z56))]) (fun (zdn : Nat) (z56 : Int) (z5N : zw) (z2Y : Zp) (z7U : z2n)=>[fz z2Y,z1r z7U z5N]) (fun (zdn : Nat) (z56 : Int) (z5N : zw) (z2Y : Zp) (z7U : z2n)=>zdn) ⟨FUEL,0,zc5.2,[],zoQ⟩ ⟨h,(Zle.refl _),zoR⟩ (.cons rfl (.cons rfl (.cons rfl (.cons rfl (.cons rfl .nil))))) (.cons (.there .here) (.cons .here .nil)) ?_
   rintro zdn z56 z5N z2Y z7U ⟨h,zgR,zoS⟩
   obtain ⟨zkM,rfl⟩:=m_calculus_search_points_1b_L4_fuel h
   rw [m_calculus_search_points_1b_L4] at h
   refine WC.seq ?_
   refine WC.region ?_
   refine WL.quiet (d:=19) rfl rfl rfl (q_lss rfl rfl) ?_
   refine WL.nil ?_
   refine WX.then ?_
   refine WC.seq ?_
   refine WC.cond rfl (fun zkU=>?_) (fun zkU=>?_)
   ·replace h:=ite_t h zkU
    refine WC.skip ?_
    refine WX.then ?_
    obtain ⟨zkN,zuV,h⟩:=jp1_elim h
    refine WC.seqMid3 (fun (z8S : zw) (zdo : Zp) (zdp : z2n)=>(zkN z8S = some r) ∧ (Zle (Z ++ z2Y) (Z ++ zdo)) ∧ (z7p zdp z8S)) (fun (z8S : zw) (zdo : Zp) (zdp : z2n)=>[(0,(.func (.yield z7o) #[] #[])),(1,(.pointer (some z8n))),(16,(.slice zaQ z42.length zaR)),(17,(.int .i64 ((z42.length : Nat) : Int))),(18,(.int .i64 z56))]) (fun (z8S : zw) (zdo : Zp) (zdp : z2n)=>[fz zdo,z1r zdp z8S]) ?_ ?_
    ·skip
     refine WC.block ?_
     refine WC.seq ?_
     obtain ⟨zuW,h⟩:=chk_elim h
     refine WC.region ?_
     refine WL.znth (dd:=20) rfl rfl (Z:=(Z ++ z2Y)) (Pr:=(p39 (Z ++ z2Y))) elT_26 rfl rfl ((zuQ.mono ((Zle.left _ _).trans zgR)).weak (fun _ _ h=>p39_mono ((Zle.left _ _).trans zgR) h)) zuW ?_
     rintro zyT zyU zuX zyV ⟨zuY,zuZ,rfl,zv0⟩
     refine WL.quiet (d:=21) rfl rfl rfl (q_load1 oneT_39 rfl (rd_z (hz.pv2 .here) zuX rfl)) ?_
     refine WL.quiet (d:=4) rfl rfl rfl (q_assign rfl) ?_
     refine WL.nil ?_
     refine WX.then ?_
     refine WC.seq ?_
     obtain ⟨zy,zv1,h⟩:=ze h
     refine WC.region ?_
     refine WL.quiet (d:=23) rfl rfl rfl (q_move rfl) ?_
     refine WL.enter3 (dd:=24) rfl rfl rfl (zn (l:=[.tmp 23]) Try.call68 (.cons rfl .nil)) (.nil : Sel [fz z2Y,z1r z7U z5N] [] [fz z2Y,z1r z7U z5N]) (fun w hw=>by have pz:=(hz.call2 hw (.nil : Sel [fz z2Y,z1r z7U z5N] [] [fz z2Y,z1r z7U z5N]) .here); exact w_curve_Breaks (Z:=_) (z8C:=zuY) (z8D:=zuZ) (z6W:=(nth z42 z56)) (r:=zy) w pz zv0 zv1) ?_
     rintro z4W zv2 zv3 _
     refine WL.merge .here (.there .here) ?_
     refine WL.quiet (d:=22) rfl rfl rfl (q_move rfl) ?_
     refine WL.quiet (d:=25) rfl rfl rfl (q_extract rfl rfl) ?_
     refine WL.quiet (d:=26) rfl rfl rfl (q_extract rfl rfl) ?_
     refine WL.quiet (d:=5) rfl rfl rfl (q_assign rfl) ?_
     refine WL.quiet (d:=6) rfl rfl rfl (q_assign rfl) ?_
     refine WL.nil ?_
     refine WX.then ?_
     refine WC.seq ?_
     refine WC.region ?_
     refine WL.quiet (d:=27) rfl rfl rfl (q_move rfl) ?_
     refine WL.quiet (d:=28) rfl rfl rfl (q_len Try.underlying77 rfl) ?_
     refine WL.quiet (d:=29) rfl rfl rfl (q_move rfl) ?_
     refine WL.nil ?_
     refine WX.then ?_
     obtain ⟨z9U,zv4,h⟩:=jp1_elim h
     refine WC.mid2 (fun (z8T : zw) (zdq : z2n)=>(z9U z8T = some r) ∧ (z7p zdq z8T)) (fun (z8T : zw) (zdq : z2n)=>[(0,(.func (.yield z7o) #[] #[])),(1,(.pointer (some z8n))),(16,(.slice zaQ z42.length zaR)),(17,(.int .i64 ((z42.length : Nat) : Int))),(18,(.int .i64 z56))]) (fun (z8T : zw) (zdq : z2n)=>[fz (z2Y ++ z4W),z1r zdq z8T]) ?_ ?_
     ·skip
      refine WC.block ?_
      refine WC.loop6 (fun (zdr : Nat) (z1p : Int) (z4m : zw) (zds : Option Addr) (z43 : Nat) (z5P : z2n)=>(m_calculus_search_points_1b_L5 zw zy z3L z9U zdr z1p z4m = some r) ∧ (z7p z5P z4m)) (fun (zdr : Nat) (z1p : Int) (z4m : zw) (zds : Option Addr) (z43 : Nat) (z5P : z2n)=>[(0,(.func (.yield z7o) #[] #[])),(1,(.pointer (some z8n))),(16,(.slice zaQ z42.length zaR)),(17,(.int .i64 ((z42.length : Nat) : Int))),(18,(.int .i64 z56)),(27,(.slice zds zy.1.length z43)),(28,(.int .i64 ((zy.1.length : Nat) : Int))),(29,(.int .i64 z1p))]) (fun (zdr : Nat) (z1p : Int) (z4m : zw) (zds : Option Addr) (z43 : Nat) (z5P : z2n)=>[fz (z2Y ++ z4W),row (.slice zds zy.1.length z43) 30 2 (zy.1.flatMap e30),z1r z5P z4m]) (fun (zdr : Nat) (z1p : Int) (z4m : zw) (zds : Option Addr) (z43 : Nat) (z5P : z2n)=>zdr) ⟨FUEL,0,z5N,zv2,zv3,z7U⟩ ⟨h,zoS⟩ (.cons rfl (.cons rfl (.cons rfl (.cons rfl (.cons rfl (.cons rfl (.cons rfl (.cons rfl .nil)))))))) (.cons .here (.cons .here (.cons .here .nil))) ?_
      rintro zdr z1p z4m zds z43 z5P ⟨h,zoT⟩
      obtain ⟨zkL,rfl⟩:=m_calculus_search_points_1b_L5_fuel h
      rw [m_calculus_search_points_1b_L5] at h
      refine WC.seq ?_
      refine WC.region ?_
      refine WL.quiet (d:=30) rfl rfl rfl (q_lss rfl rfl) ?_
      refine WL.nil ?_
      refine WX.then ?_
      refine WC.seq ?_
      refine WC.cond rfl (fun zkV=>?_) (fun zkV=>?_)
      ·replace h:=ite_t h zkV
       refine WC.skip ?_
       refine WX.then ?_
       refine WC.seq ?_
       refine WC.block ?_
       refine WC.seq ?_
       obtain ⟨zeZ,h⟩:=chk_elim h
       refine WC.region ?_
       refine WL.know (fun w hw=>Hp.expose (.there .here) hw (by intro hz'; have:=zeZ; rw [hz'] at this; omega)) ?_
       rintro ⟨z5n,rfl⟩
       refine WL.quiet (d:=31) rfl rfl rfl (q_indexAddr elT_77 rfl rfl zeZ.1 zeZ.2 rowAdd) ?_
       refine WL.quiet (d:=32) rfl rfl rfl (q_loadA (cs:=(e30 (nth zy.1 z1p))) aggT_30 rfl rfl (rd_rows (.there .here) (flat_rd (enc:=e30) (l:=zy.1) (i:=z1p) (sz:=2) (fun _=>rfl) zeZ.1 zeZ.2))) ?_
       refine WL.new (dd:=8) rfl rfl rfl (e_alloc (cs:=[(.int .i64 0),(.int .i64 0)]) zeroT_30 rfl) ?_
       intro z68 _
       refine WL.eff0 rfl rfl (e_store (vs:=[(.int .i64 ((nth zy.1 z1p).fN)),(.int .i64 ((nth zy.1 z1p).fD))]) (ds:=[(.int .i64 ((nth zy.1 z1p).fN)),(.int .i64 ((nth zy.1 z1p).fD))]) sizT_30 rfl rfl rfl rfl (oc_cons rfl (oc_cons rfl oc_nil)) .here (Nat.le_of_ble_eq_true rfl) rfl) ?_
       refine WL.nil ?_
       refine WX.then ?_
       refine WC.seq ?_
       obtain ⟨zgI,zv5,h⟩:=ze h
       obtain ⟨zgJ,zv6,h⟩:=ze h
       obtain ⟨z5M,zv7,h⟩:=ze h
       obtain ⟨zaO,zoU,h⟩:=ze h
       refine WC.region ?_
       refine WL.quiet (d:=33) rfl rfl rfl (q_move rfl) ?_
       refine WL.quiet (d:=34) rfl rfl rfl (q_loadA (cs:=[(.int .i64 ((nth zy.1 z1p).fN)),(.int .i64 ((nth zy.1 z1p).fD))]) aggT_30 rfl rfl (rd_all .here)) ?_
       refine WL.callD (dd:=35) rfl rfl rfl (zn (l:=[.tmp 34]) Try.call70 (.cons rfl .nil)) (.nil : Sel [stb z68 30 [(.int .i64 ((nth zy.1 z1p).fN)),(.int .i64 ((nth zy.1 z1p).fD))],fz (z2Y ++ z4W),row (.slice (some ⟨z5n,0,none⟩) zy.1.length z43) 30 2 (zy.1.flatMap e30),z1r z5P z4m] [] [stb z68 30 [(.int .i64 ((nth zy.1 z1p).fN)),(.int .i64 ((nth zy.1 z1p).fD))],fz (z2Y ++ z4W),row (.slice (some ⟨z5n,0,none⟩) zy.1.length z43) 30 2 (zy.1.flatMap e30),z1r z5P z4m]) (fun w hw=>by have pz:=(hz.call2 hw (.nil : Sel [stb z68 30 [(.int .i64 ((nth zy.1 z1p).fN)),(.int .i64 ((nth zy.1 z1p).fD))],fz (z2Y ++ z4W),row (.slice (some ⟨z5n,0,none⟩) zy.1.length z43) 30 2 (zy.1.flatMap e30),z1r z5P z4m] [] [stb z68 30 [(.int .i64 ((nth zy.1 z1p).fN)),(.int .i64 ((nth zy.1 z1p).fD))],fz (z2Y ++ z4W),row (.slice (some ⟨z5n,0,none⟩) zy.1.length z43) 30 2 (zy.1.flatMap e30),z1r z5P z4m]) (.there .here)); exact w_rat_Floor (Z:=_)  (z2K:=(⟨((nth zy.1 z1p).fN),((nth zy.1 z1p).fD)⟩ : z2)) (r:=zgI) w pz  zv5) ?_
       refine WL.callD (dd:=36) rfl rfl rfl (zn (l:=[.tmp 35]) Try.call65 (.cons rfl .nil)) (.nil : Sel [stb z68 30 [(.int .i64 ((nth zy.1 z1p).fN)),(.int .i64 ((nth zy.1 z1p).fD))],fz (z2Y ++ z4W),row (.slice (some ⟨z5n,0,none⟩) zy.1.length z43) 30 2 (zy.1.flatMap e30),z1r z5P z4m] [] [stb z68 30 [(.int .i64 ((nth zy.1 z1p).fN)),(.int .i64 ((nth zy.1 z1p).fD))],fz (z2Y ++ z4W),row (.slice (some ⟨z5n,0,none⟩) zy.1.length z43) 30 2 (zy.1.flatMap e30),z1r z5P z4m]) (fun w hw=>by have pz:=(hz.call2 hw (.nil : Sel [stb z68 30 [(.int .i64 ((nth zy.1 z1p).fN)),(.int .i64 ((nth zy.1 z1p).fD))],fz (z2Y ++ z4W),row (.slice (some ⟨z5n,0,none⟩) zy.1.length z43) 30 2 (zy.1.flatMap e30),z1r z5P z4m] [] [stb z68 30 [(.int .i64 ((nth zy.1 z1p).fN)),(.int .i64 ((nth zy.1 z1p).fD))],fz (z2Y ++ z4W),row (.slice (some ⟨z5n,0,none⟩) zy.1.length z43) 30 2 (zy.1.flatMap e30),z1r z5P z4m]) (.there .here)); exact w_calculus_whole (Z:=_)  (z5v:=zgI) (r:=zgJ) w pz  zv6) ?_
       refine WL.yield (dd:=37) (x:=zgJ) (h:=()) (g:=z5P) (s:=z4m) (b:=z5M.1) (s':=z5M.2) zeY rfl rfl rfl (.cons rfl .nil) ((.cons (.there (.there (.there .here))) .nil) : Sel _ [z1r z5P z4m] _) zv7 zoT (fun w hw=>hz.call hw ((.cons (.there (.there (.there .here))) .nil) : Sel _ [z1r z5P z4m] _)) ?_
       intro z7V zoV
       refine WL.quiet (d:=38) rfl rfl rfl (q_not rfl) ?_
       refine WL.quiet (d:=39) rfl rfl rfl (q_move rfl) ?_
       refine WL.cut1 (fun (zc6 : z2n)=>z7p zc6 zaO.2) (fun (zc6 : z2n)=>[(0,(.func (.yield z7o) #[] #[])),(1,(.pointer (some z8n))),(16,(.slice zaQ z42.length zaR)),(17,(.int .i64 ((z42.length : Nat) : Int))),(18,(.int .i64 z56)),(27,(.slice (some ⟨z5n,0,none⟩) zy.1.length z43)),(28,(.int .i64 ((zy.1.length : Nat) : Int))),(29,(.int .i64 z1p)),(46,(.bool zaO.1))]) (fun (zc6 : z2n)=>[z1r zc6 zaO.2,stb z68 30 [(.int .i64 ((nth zy.1 z1p).fN)),(.int .i64 ((nth zy.1 z1p).fD))],fz (z2Y ++ z4W),row (.slice (some ⟨z5n,0,none⟩) zy.1.length z43) 30 2 (zy.1.flatMap e30)]) 7 ?_ (fun zc6 zoW=>?_)
       ·rcases Bool.eq_false_or_eq_true (!z5M.1) with hb' | hb'
        ·have zoX:=hb'; clear hb'
         have zkW:=ite_t zoU zoX
         replace zkW:=Option.some.inj zkW
         refine WL.pin (i:=39) rfl zoX ?_
         refine WL.skip rfl rfl rfl ?_
         refine WL.skip rfl rfl rfl ?_
         refine WL.skip rfl rfl rfl ?_
         refine WL.skip rfl rfl rfl ?_
         refine WL.skip rfl rfl rfl ?_
         refine WL.skip rfl rfl rfl ?_
         refine WL.quiet (d:=46) rfl rfl rfl (q_pickT rfl rfl) ?_
         subst zkW
         exact WL.cutEnd z7V zoV (.cons rfl (.cons rfl (.cons rfl (.cons rfl (.cons rfl (.cons rfl (.cons rfl (.cons rfl (.cons rfl .nil))))))))) (.cons .here (.cons .here (.cons .here (.cons .here .nil))))
        ·have zoY:=hb'; clear hb'
         have z9Y:=ite_f zoU zoY
         obtain ⟨zgK,zv8,z9Y⟩:=ze z9Y
         obtain ⟨zgL,zv9,z9Y⟩:=ze z9Y
         obtain ⟨zeT,zva,z9Y⟩:=ze z9Y
         replace z9Y:=Option.some.inj z9Y
         refine WL.pin (i:=39) rfl zoY ?_
         refine WL.quiet (d:=40) rfl rfl rfl (q_move rfl) ?_
         refine WL.quiet (d:=41) rfl rfl rfl (q_loadA (cs:=[(.int .i64 ((nth zy.1 z1p).fN)),(.int .i64 ((nth zy.1 z1p).fD))]) aggT_30 rfl rfl (rd_all (.there .here))) ?_
         refine WL.callD (dd:=42) rfl rfl rfl (zn (l:=[.tmp 41]) Try.call71 (.cons rfl .nil)) (.nil : Sel [z1r z7V z5M.2,stb z68 30 [(.int .i64 ((nth zy.1 z1p).fN)),(.int .i64 ((nth zy.1 z1p).fD))],fz (z2Y ++ z4W),row (.slice (some ⟨z5n,0,none⟩) zy.1.length z43) 30 2 (zy.1.flatMap e30)] [] [z1r z7V z5M.2,stb z68 30 [(.int .i64 ((nth zy.1 z1p).fN)),(.int .i64 ((nth zy.1 z1p).fD))],fz (z2Y ++ z4W),row (.slice (some ⟨z5n,0,none⟩) zy.1.length z43) 30 2 (zy.1.flatMap e30)]) (fun w hw=>by have pz:=(hz.call2 hw (.nil : Sel [z1r z7V z5M.2,stb z68 30 [(.int .i64 ((nth zy.1 z1p).fN)),(.int .i64 ((nth zy.1 z1p).fD))],fz (z2Y ++ z4W),row (.slice (some ⟨z5n,0,none⟩) zy.1.length z43) 30 2 (zy.1.flatMap e30)] [] [z1r z7V z5M.2,stb z68 30 [(.int .i64 ((nth zy.1 z1p).fN)),(.int .i64 ((nth zy.1 z1p).fD))],fz (z2Y ++ z4W),row (.slice (some ⟨z5n,0,none⟩) zy.1.length z43) 30 2 (zy.1.flatMap e30)]) (.there (.there .here))); exact w_rat_Ceil (Z:=_)  (z2B:=(⟨((nth zy.1 z1p).fN),((nth zy.1 z1p).fD)⟩ : z2)) (r:=zgK) w pz  zv8) ?_
         refine WL.callD (dd:=43) rfl rfl rfl (zn (l:=[.tmp 42]) Try.call65 (.cons rfl .nil)) (.nil : Sel [z1r z7V z5M.2,stb z68 30 [(.int .i64 ((nth zy.1 z1p).fN)),(.int .i64 ((nth zy.1 z1p).fD))],fz (z2Y ++ z4W),row (.slice (some ⟨z5n,0,none⟩) zy.1.length z43) 30 2 (zy.1.flatMap e30)] [] [z1r z7V z5M.2,stb z68 30 [(.int .i64 ((nth zy.1 z1p).fN)),(.int .i64 ((nth zy.1 z1p).fD))],fz (z2Y ++ z4W),row (.slice (some ⟨z5n,0,none⟩) zy.1.length z43) 30 2 (zy.1.flatMap e30)]) (fun w hw=>by have pz:=(hz.call2 hw (.nil : Sel [z1r z7V z5M.2,stb z68 30 [(.int .i64 ((nth zy.1 z1p).fN)),(.int .i64 ((nth zy.1 z1p).fD))],fz (z2Y ++ z4W),row (.slice (some ⟨z5n,0,none⟩) zy.1.length z43) 30 2 (zy.1.flatMap e30)] [] [z1r z7V z5M.2,stb z68 30 [(.int .i64 ((nth zy.1 z1p).fN)),(.int .i64 ((nth zy.1 z1p).fD))],fz (z2Y ++ z4W),row (.slice (some ⟨z5n,0,none⟩) zy.1.length z43) 30 2 (zy.1.flatMap e30)]) (.there (.there .here))); exact w_calculus_whole (Z:=_)  (z5v:=zgK) (r:=zgL) w pz  zv9) ?_
         refine WL.yield (dd:=44) (x:=zgL) (h:=()) (g:=z7V) (s:=z5M.2) (b:=zeT.1) (s':=zeT.2) zeY rfl rfl rfl (.cons rfl .nil) ((.cons .here .nil) : Sel _ [z1r z7V z5M.2] _) zva zoV (fun w hw=>hz.call hw ((.cons .here .nil) : Sel _ [z1r z7V z5M.2] _)) ?_
         intro zvb zvc
         refine WL.quiet (d:=45) rfl rfl rfl (q_not rfl) ?_
         refine WL.quiet (d:=46) rfl rfl rfl (q_pickF rfl rfl) ?_
         subst z9Y
         exact WL.cutEnd zvb zvc (.cons rfl (.cons rfl (.cons rfl (.cons rfl (.cons rfl (.cons rfl (.cons rfl (.cons rfl (.cons rfl .nil))))))))) (.cons .here (.cons .here (.cons .here (.cons .here .nil))))
       ·skip
        refine WL.nil ?_
        refine WX.then ?_
        refine WC.cond rfl (fun zkX=>?_) (fun zkX=>?_)
        ·replace h:=ite_t h zkX
         refine WC.ret ?_
         refine WX.blockRet ?_
         refine WX.thenRet ?_
         refine WX.thenRet ?_
         refine WX.blockRet ?_
         refine WX.thenRet ?_
         refine WX.blockRet ?_
         refine WX.thenRet ?_
         refine WX.thenRet ?_
         refine WX.blockRet ?_
         refine WX.thenRet ?_
         obtain rfl:=Option.some.inj h
         refine WX.bpRet Try.results69 .nil (fun w hw=>?_)
         exact ⟨(z2Y ++ z4W),zc6,ret0,zoW,hw.sub (.cons (.there (.there .here)) (.cons .here .nil))⟩
        ·replace h:=ite_f h zkX
         refine WC.skip ?_
         refine WX.blockNormal ?_
         refine WX.then ?_
         refine WC.region ?_
         refine WL.quiet (d:=47) rfl rfl rfl (q_add rfl rfl rfl) ?_
         refine WL.quiet (d:=29) rfl rfl rfl (q_move rfl) ?_
         refine WL.nil ?_
         exact WX.round (G:=Nat × Int × zw × Option Addr × Nat × z2n) ⟨zkL,(i64 (z1p + 1)),zaO.2,(some ⟨z5n,0,none⟩),z43,zc6⟩ ⟨h,zoW⟩ (Nat.lt_succ_self _) (.cons rfl (.cons rfl (.cons rfl (.cons rfl (.cons rfl (.cons rfl (.cons rfl (.cons rfl .nil)))))))) (.cons (.there (.there .here)) (.cons (.there (.there .here)) (.cons .here .nil)))
      ·replace h:=ite_f h zkV
       refine WC.exit ?_
       refine WX.thenExit ?_
       refine WX.thenExit ?_
       refine WX.blockHit ?_
       exact WX.mid (G:=zw × z2n) ⟨z4m,z5P⟩ ⟨h,zoT⟩ (.cons rfl (.cons rfl (.cons rfl (.cons rfl (.cons rfl .nil))))) (.cons .here (.cons (.there .here) .nil))
     ·rintro z8T zdq ⟨h,zvd⟩
      replace h:=(zv4 z8T).symm.trans h
      refine WX.blockNormal ?_
      exact WX.mid (G:=zw × Zp × z2n) ⟨z8T,(z2Y ++ z4W),zdq⟩ ⟨h,((Zle.left _ _).trans (Zle.assoc _ _ _)),zvd⟩ (.cons rfl (.cons rfl (.cons rfl (.cons rfl (.cons rfl .nil))))) (.cons .here (.cons .here .nil))
    ·rintro z8S zdo zdp ⟨h,zve,zvf⟩
     replace h:=(zuV z8S).symm.trans h
     refine WC.region ?_
     refine WL.quiet (d:=48) rfl rfl rfl (q_add rfl rfl rfl) ?_
     refine WL.quiet (d:=18) rfl rfl rfl (q_move rfl) ?_
     refine WL.nil ?_
     exact WX.round (G:=Nat × Int × zw × Zp × z2n) ⟨zkM,(i64 (z56 + 1)),z8S,zdo,zdp⟩ ⟨h,(zgR.trans zve),zvf⟩ (Nat.lt_succ_self _) (.cons rfl (.cons rfl (.cons rfl (.cons rfl (.cons rfl .nil))))) (.cons .here (.cons .here .nil))
   ·replace h:=ite_f h zkU
    refine WC.exit ?_
    refine WX.thenExit ?_
    refine WX.thenExit ?_
    refine WX.blockHit ?_
    exact WX.mid (G:=zw × Zp × z2n) ⟨z5N,z2Y,z7U⟩ ⟨h,zgR,zoS⟩ (.cons rfl (.cons rfl .nil)) (.cons .here (.cons .here .nil))
  ·rintro z8U z3M zdm ⟨h,zoZ,zvg⟩
   replace h:=(zuU z8U).symm.trans h
   refine WC.seq ?_
   refine WC.region ?_
   refine WL.quiet (d:=49) rfl rfl rfl (q_fieldAddr fo_79_3 rfl rfl) ?_
   refine WL.quiet (d:=50) rfl rfl rfl (q_load1 oneT_77 rfl (rd_zAt (hz.pv2 .here) (zoO.mono ((Zle.left _ _).trans zoZ)) rfl)) ?_
   refine WL.quiet (d:=51) rfl rfl rfl (q_len Try.underlying77 rfl) ?_
   refine WL.quiet (d:=52) rfl rfl rfl (q_move rfl) ?_
   refine WL.nil ?_
   refine WX.then ?_
   obtain ⟨z9W,zvh,h⟩:=jp1_elim h
   refine WC.mid2 (fun (z9X : zw) (zdt : z2n)=>(z9W z9X = some r) ∧ (z7p zdt z9X)) (fun (z9X : zw) (zdt : z2n)=>[]) (fun (z9X : zw) (zdt : z2n)=>[fz z3M,z1r zdt z9X]) ?_ ?_
   ·skip
    refine WC.block ?_
    refine WC.loop4 (fun (zdu : Nat) (z1q : Int) (z4n : zw) (z5Q : z2n)=>(m_calculus_search_points_1b_L6 zw z1g z3L z9W zdu z1q z4n = some r) ∧ (z7p z5Q z4n)) (fun (zdu : Nat) (z1q : Int) (z4n : zw) (z5Q : z2n)=>[(0,(.func (.yield z7o) #[] #[])),(50,(.slice zeW z1g.length zeX)),(51,(.int .i64 ((z1g.length : Nat) : Int))),(52,(.int .i64 z1q))]) (fun (zdu : Nat) (z1q : Int) (z4n : zw) (z5Q : z2n)=>[fz z3M,z1r z5Q z4n]) (fun (zdu : Nat) (z1q : Int) (z4n : zw) (z5Q : z2n)=>zdu) ⟨FUEL,0,z8U,zdm⟩ ⟨h,zvg⟩ (.cons rfl (.cons rfl (.cons rfl (.cons rfl .nil)))) (.cons .here (.cons .here .nil)) ?_
    rintro zdu z1q z4n z5Q ⟨h,zp0⟩
    obtain ⟨zkO,rfl⟩:=m_calculus_search_points_1b_L6_fuel h
    rw [m_calculus_search_points_1b_L6] at h
    refine WC.seq ?_
    refine WC.region ?_
    refine WL.quiet (d:=53) rfl rfl rfl (q_lss rfl rfl) ?_
    refine WL.nil ?_
    refine WX.then ?_
    refine WC.seq ?_
    refine WC.cond rfl (fun zkY=>?_) (fun zkY=>?_)
    ·replace h:=ite_t h zkY
     refine WC.skip ?_
     refine WX.then ?_
     refine WC.seq ?_
     refine WC.block ?_
     refine WC.seq ?_
     obtain ⟨zvi,h⟩:=chk_elim h
     refine WC.region ?_
     refine WL.znth (dd:=54) rfl rfl (Z:=(Z ++ z3M)) (Pr:=(fun r x=>r = e30 x)) elT_77 rfl rfl (zuR.mono ((Zle.left _ _).trans zoZ)) zvi ?_
     rintro zyW zyX zvj zyY rfl
     refine WL.quiet (d:=55) rfl rfl rfl (q_loadA (cs:=[(.int .i64 ((nth z1g z1q).fN)),(.int .i64 ((nth z1g z1q).fD))]) aggT_30 rfl rfl (rd_zs (hz.pv2 .here) zvj)) ?_
     refine WL.new (dd:=10) rfl rfl rfl (e_alloc (cs:=[(.int .i64 0),(.int .i64 0)]) zeroT_30 rfl) ?_
     intro z69 _
     refine WL.eff0 rfl rfl (e_store (vs:=[(.int .i64 ((nth z1g z1q).fN)),(.int .i64 ((nth z1g z1q).fD))]) (ds:=[(.int .i64 ((nth z1g z1q).fN)),(.int .i64 ((nth z1g z1q).fD))]) sizT_30 rfl rfl rfl rfl (oc_cons rfl (oc_cons rfl oc_nil)) .here (Nat.le_of_ble_eq_true rfl) rfl) ?_
     refine WL.nil ?_
     refine WX.then ?_
     refine WC.seq ?_
     obtain ⟨zgM,zvk,h⟩:=ze h
     obtain ⟨zgN,zvl,h⟩:=ze h
     obtain ⟨z5O,zvm,h⟩:=ze h
     obtain ⟨zaP,zp1,h⟩:=ze h
     refine WC.region ?_
     refine WL.quiet (d:=56) rfl rfl rfl (q_move rfl) ?_
     refine WL.quiet (d:=57) rfl rfl rfl (q_loadA (cs:=[(.int .i64 ((nth z1g z1q).fN)),(.int .i64 ((nth z1g z1q).fD))]) aggT_30 rfl rfl (rd_all .here)) ?_
     refine WL.callD (dd:=58) rfl rfl rfl (zn (l:=[.tmp 57]) Try.call70 (.cons rfl .nil)) (.nil : Sel [stb z69 30 [(.int .i64 ((nth z1g z1q).fN)),(.int .i64 ((nth z1g z1q).fD))],fz z3M,z1r z5Q z4n] [] [stb z69 30 [(.int .i64 ((nth z1g z1q).fN)),(.int .i64 ((nth z1g z1q).fD))],fz z3M,z1r z5Q z4n]) (fun w hw=>by have pz:=(hz.call2 hw (.nil : Sel [stb z69 30 [(.int .i64 ((nth z1g z1q).fN)),(.int .i64 ((nth z1g z1q).fD))],fz z3M,z1r z5Q z4n] [] [stb z69 30 [(.int .i64 ((nth z1g z1q).fN)),(.int .i64 ((nth z1g z1q).fD))],fz z3M,z1r z5Q z4n]) (.there .here)); exact w_rat_Floor (Z:=_)  (z2K:=(⟨((nth z1g z1q).fN),((nth z1g z1q).fD)⟩ : z2)) (r:=zgM) w pz  zvk) ?_
     refine WL.callD (dd:=59) rfl rfl rfl (zn (l:=[.tmp 58]) Try.call65 (.cons rfl .nil)) (.nil : Sel [stb z69 30 [(.int .i64 ((nth z1g z1q).fN)),(.int .i64 ((nth z1g z1q).fD))],fz z3M,z1r z5Q z4n] [] [stb z69 30 [(.int .i64 ((nth z1g z1q).fN)),(.int .i64 ((nth z1g z1q).fD))],fz z3M,z1r z5Q z4n]) (fun w hw=>by have pz:=(hz.call2 hw (.nil : Sel [stb z69 30 [(.int .i64 ((nth z1g z1q).fN)),(.int .i64 ((nth z1g z1q).fD))],fz z3M,z1r z5Q z4n] [] [stb z69 30 [(.int .i64 ((nth z1g z1q).fN)),(.int .i64 ((nth z1g z1q).fD))],fz z3M,z1r z5Q z4n]) (.there .here)); exact w_calculus_whole (Z:=_)  (z5v:=zgM) (r:=zgN) w pz  zvl) ?_
     refine WL.yield (dd:=60) (x:=zgN) (h:=()) (g:=z5Q) (s:=z4n) (b:=z5O.1) (s':=z5O.2) zeY rfl rfl rfl (.cons rfl .nil) ((.cons (.there (.there .here)) .nil) : Sel _ [z1r z5Q z4n] _) zvm zp0 (fun w hw=>hz.call hw ((.cons (.there (.there .here)) .nil) : Sel _ [z1r z5Q z4n] _)) ?_
     intro z7W zp2
     refine WL.quiet (d:=61) rfl rfl rfl (q_not rfl) ?_
     refine WL.quiet (d:=62) rfl rfl rfl (q_move rfl) ?_
     refine WL.cut1 (fun (zc7 : z2n)=>z7p zc7 zaP.2) (fun (zc7 : z2n)=>[(0,(.func (.yield z7o) #[] #[])),(50,(.slice zeW z1g.length zeX)),(51,(.int .i64 ((z1g.length : Nat) : Int))),(52,(.int .i64 z1q)),(69,(.bool zaP.1))]) (fun (zc7 : z2n)=>[z1r zc7 zaP.2,stb z69 30 [(.int .i64 ((nth z1g z1q).fN)),(.int .i64 ((nth z1g z1q).fD))],fz z3M]) 7 ?_ (fun zc7 zp3=>?_)
     ·rcases Bool.eq_false_or_eq_true (!z5O.1) with hb' | hb'
      ·have zp4:=hb'; clear hb'
       have zkZ:=ite_t zp1 zp4
       replace zkZ:=Option.some.inj zkZ
       refine WL.pin (i:=62) rfl zp4 ?_
       refine WL.skip rfl rfl rfl ?_
       refine WL.skip rfl rfl rfl ?_
       refine WL.skip rfl rfl rfl ?_
       refine WL.skip rfl rfl rfl ?_
       refine WL.skip rfl rfl rfl ?_
       refine WL.skip rfl rfl rfl ?_
       refine WL.quiet (d:=69) rfl rfl rfl (q_pickT rfl rfl) ?_
       subst zkZ
       exact WL.cutEnd z7W zp2 (.cons rfl (.cons rfl (.cons rfl (.cons rfl (.cons rfl .nil))))) (.cons .here (.cons .here (.cons .here .nil)))
      ·have zp5:=hb'; clear hb'
       have z9Z:=ite_f zp1 zp5
       obtain ⟨zgO,zvn,z9Z⟩:=ze z9Z
       obtain ⟨zgP,zvo,z9Z⟩:=ze z9Z
       obtain ⟨zeU,zvp,z9Z⟩:=ze z9Z
       replace z9Z:=Option.some.inj z9Z
       refine WL.pin (i:=62) rfl zp5 ?_
       refine WL.quiet (d:=63) rfl rfl rfl (q_move rfl) ?_
       refine WL.quiet (d:=64) rfl rfl rfl (q_loadA (cs:=[(.int .i64 ((nth z1g z1q).fN)),(.int .i64 ((nth z1g z1q).fD))]) aggT_30 rfl rfl (rd_all (.there .here))) ?_
       refine WL.callD (dd:=65) rfl rfl rfl (zn (l:=[.tmp 64]) Try.call71 (.cons rfl .nil)) (.nil : Sel [z1r z7W z5O.2,stb z69 30 [(.int .i64 ((nth z1g z1q).fN)),(.int .i64 ((nth z1g z1q).fD))],fz z3M] [] [z1r z7W z5O.2,stb z69 30 [(.int .i64 ((nth z1g z1q).fN)),(.int .i64 ((nth z1g z1q).fD))],fz z3M]) (fun w hw=>by have pz:=(hz.call2 hw (.nil : Sel [z1r z7W z5O.2,stb z69 30 [(.int .i64 ((nth z1g z1q).fN)),(.int .i64 ((nth z1g z1q).fD))],fz z3M] [] [z1r z7W z5O.2,stb z69 30 [(.int .i64 ((nth z1g z1q).fN)),(.int .i64 ((nth z1g z1q).fD))],fz z3M]) (.there (.there .here))); exact w_rat_Ceil (Z:=_)  (z2B:=(⟨((nth z1g z1q).fN),((nth z1g z1q).fD)⟩ : z2)) (r:=zgO) w pz  zvn) ?_
       refine WL.callD (dd:=66) rfl rfl rfl (zn (l:=[.tmp 65]) Try.call65 (.cons rfl .nil)) (.nil : Sel [z1r z7W z5O.2,stb z69 30 [(.int .i64 ((nth z1g z1q).fN)),(.int .i64 ((nth z1g z1q).fD))],fz z3M] [] [z1r z7W z5O.2,stb z69 30 [(.int .i64 ((nth z1g z1q).fN)),(.int .i64 ((nth z1g z1q).fD))],fz z3M]) (fun w hw=>by have pz:=(hz.call2 hw (.nil : Sel [z1r z7W z5O.2,stb z69 30 [(.int .i64 ((nth z1g z1q).fN)),(.int .i64 ((nth z1g z1q).fD))],fz z3M] [] [z1r z7W z5O.2,stb z69 30 [(.int .i64 ((nth z1g z1q).fN)),(.int .i64 ((nth z1g z1q).fD))],fz z3M]) (.there (.there .here))); exact w_calculus_whole (Z:=_)  (z5v:=zgO) (r:=zgP) w pz  zvo) ?_
       refine WL.yield (dd:=67) (x:=zgP) (h:=()) (g:=z7W) (s:=z5O.2) (b:=zeU.1) (s':=zeU.2) zeY rfl rfl rfl (.cons rfl .nil) ((.cons .here .nil) : Sel _ [z1r z7W z5O.2] _) zvp zp2 (fun w hw=>hz.call hw ((.cons .here .nil) : Sel _ [z1r z7W z5O.2] _)) ?_
       intro zvq zvr
       refine WL.quiet (d:=68) rfl rfl rfl (q_not rfl) ?_
       refine WL.quiet (d:=69) rfl rfl rfl (q_pickF rfl rfl) ?_
       subst z9Z
       exact WL.cutEnd zvq zvr (.cons rfl (.cons rfl (.cons rfl (.cons rfl (.cons rfl .nil))))) (.cons .here (.cons .here (.cons .here .nil)))
     ·skip
      refine WL.nil ?_
      refine WX.then ?_
      refine WC.cond rfl (fun zl0=>?_) (fun zl0=>?_)
      ·replace h:=ite_t h zl0
       refine WC.ret ?_
       refine WX.blockRet ?_
       refine WX.thenRet ?_
       refine WX.thenRet ?_
       refine WX.blockRet ?_
       refine WX.thenRet ?_
       obtain rfl:=Option.some.inj h
       refine WX.bpRet Try.results69 .nil (fun w hw=>?_)
       exact ⟨z3M,zc7,ret0,zp3,hw.sub (.cons (.there (.there .here)) (.cons .here .nil))⟩
      ·replace h:=ite_f h zl0
       refine WC.skip ?_
       refine WX.blockNormal ?_
       refine WX.then ?_
       refine WC.region ?_
       refine WL.quiet (d:=70) rfl rfl rfl (q_add rfl rfl rfl) ?_
       refine WL.quiet (d:=52) rfl rfl rfl (q_move rfl) ?_
       refine WL.nil ?_
       exact WX.round (G:=Nat × Int × zw × z2n) ⟨zkO,(i64 (z1q + 1)),zaP.2,zc7⟩ ⟨h,zp3⟩ (Nat.lt_succ_self _) (.cons rfl (.cons rfl (.cons rfl (.cons rfl .nil)))) (.cons (.there (.there .here)) (.cons .here .nil))
    ·replace h:=ite_f h zkY
     refine WC.exit ?_
     refine WX.thenExit ?_
     refine WX.thenExit ?_
     refine WX.blockHit ?_
     exact WX.mid (G:=zw × z2n) ⟨z4n,z5Q⟩ ⟨h,zp0⟩ .nil (.cons .here (.cons .here .nil))
   ·rintro z9X zdt ⟨h,zvs⟩
    replace h:=(zvh z9X).symm.trans h
    obtain rfl:=Option.some.inj h
    refine WX.bpNormal Try.results69 .nil (fun w hw=>?_)
    exact ⟨z3M,zdt,ret0,zvs,hw.sub (.cons .here (.cons .here .nil))⟩
def m_calculus_Backlog_1 (z6w : z2a) (zT : z2) (zc8 : List (List z1)) (z5o : Sapi_Server) : Option (z2 × z2a) :=
 (m_calculus_calc_total z6w zc8 zT).bind fun z13=>(m_rat_Cmp zT z5o.fLatency).bind fun zl1=>if decide (zl1 ≤ 0) then some (z13.1,z13.2) else (m_calculus_calc_do z13.2 (fun (y0 : z2) (y1 : z2)=>m_rat_Sub y0 y1) zT z5o.fLatency).bind fun z7X=>(m_calculus_calc_do z7X.2 (fun (y0 : z2) (y1 : z2)=>m_rat_Mul y0 y1) z5o.fRate z7X.1).bind fun z7Y=>(m_calculus_calc_do z7Y.2 (fun (y0 : z2) (y1 : z2)=>m_rat_Sub y0 y1) z13.1 z7Y.1).bind fun zaS=>some (zaS.1,zaS.2)
set_option maxRecDepth 20000 in
theorem w_calculus_Backlog_1 (Z : Zp)  (z2o : Nat) (zf0 : Addr) (zgS : Option Addr) (zgT : Nat) (zf1 : Addr) (z6w : z2a) (zT : z2) (zc8 : List (List z1)) (z5o : Sapi_Server) (r : z2 × z2a) (w₀ : World) (hz : PZ (fps [stb z2o 98 [(.int .i64 z6w.fE)]]) w₀ Z)
  (zvt : ZS Z 1 (p39 Z) zgS zgT zc8)
  (zvu : ZC Z zf0 [(.slice zgS zc8.length zgT)])
  (zl2 : ZC Z zf1 [(.int .i64 z5o.fRate.fN),(.int .i64 z5o.fRate.fD),(.int .i64 z5o.fLatency.fN),(.int .i64 z5o.fLatency.fD)])
  (h : m_calculus_Backlog_1 z6w zT zc8 z5o = some r)
  (hown : Hp (fps [stb z2o 98 [(.int .i64 z6w.fE)]]) w₀ w₀ [stb z2o 98 [(.int .i64 z6w.fE)]]) :
  Calls Try.prog 37 #[(.pointer (some ⟨z2o,0,none⟩)),(.agg #[(.int .i64 zT.fN),(.int .i64 zT.fD)]),(.pointer (some zf0)),(.pointer (some zf1))] w₀ fun e w'=>e = .returned (.agg #[(.int .i64 r.1.fN),(.int .i64 r.1.fD)]) ∧ Hp (fps [stb z2o 98 [(.int .i64 z6w.fE)]]) w₀ w' [stb z2o 98 [(.int .i64 r.2.fE)]]:=by
 unfold m_calculus_Backlog_1 at h
 refine Calls.ofWC (vs:=[(.pointer (some ⟨z2o,0,none⟩)),(.agg #[(.int .i64 zT.fN),(.int .i64 zT.fD)]),(.pointer (some zf0)),(.pointer (some zf1))]) (pre:=[stb z2o 98 [(.int .i64 z6w.fE)]]) (env:=[(0,(.pointer (some ⟨z2o,0,none⟩))),(1,(.agg #[(.int .i64 zT.fN),(.int .i64 zT.fD)])),(2,(.pointer (some zf0))),(3,(.pointer (some zf1)))]) Try.func37 rfl Try.ntmps37 rfl (hown) rfl ?_
 refine WC.seq ?_
 refine WC.region ?_
 refine WL.new (dd:=5) rfl rfl rfl (e_box (cs:=[(.int .i64 zT.fN),(.int .i64 zT.fD)]) rfl rfl) ?_
 intro z3y _
 refine WL.new (dd:=6) rfl rfl rfl (e_alloc (cs:=[(.int .i64 0),(.int .i64 0)]) zeroT_30 rfl) ?_
 intro z3z _
 refine WL.nil ?_
 refine WX.then ?_
 refine WC.seq ?_
 obtain ⟨z13,zvv,h⟩:=ze h
 refine WC.region ?_
 refine WL.quiet (d:=8) rfl rfl rfl (q_move rfl) ?_
 refine WL.quiet (d:=9) rfl rfl rfl (q_load1 oneT_26 rfl (rd_z hz.pv zvu rfl)) ?_
 refine WL.quiet (d:=10) rfl rfl rfl (q_loadA (cs:=[(.int .i64 zT.fN),(.int .i64 zT.fD)]) aggT_30 rfl rfl (rd_all (.there .here))) ?_
 refine WL.callD (dd:=11) rfl rfl rfl (zn (l:=[.tmp 8,.tmp 9,.tmp 10]) Try.call35 (.cons rfl (.cons rfl (.cons rfl .nil)))) ((.cons (.there (.there .here)) .nil) : Sel [stb z3z 30 [(.int .i64 0),(.int .i64 0)],stb z3y 30 [(.int .i64 zT.fN),(.int .i64 zT.fD)],stb z2o 98 [(.int .i64 z6w.fE)]] [stb z2o 98 [(.int .i64 z6w.fE)]] [stb z3z 30 [(.int .i64 0),(.int .i64 0)],stb z3y 30 [(.int .i64 zT.fN),(.int .i64 zT.fD)]]) (fun w hw=>by have pz:=(hz.call hw ((.cons (.there (.there .here)) .nil) : Sel [stb z3z 30 [(.int .i64 0),(.int .i64 0)],stb z3y 30 [(.int .i64 zT.fN),(.int .i64 zT.fD)],stb z2o 98 [(.int .i64 z6w.fE)]] [stb z2o 98 [(.int .i64 z6w.fE)]] [stb z3z 30 [(.int .i64 0),(.int .i64 0)],stb z3y 30 [(.int .i64 zT.fN),(.int .i64 zT.fD)]])); exact w_calculus_calc_total (Z:=_) (z3b:=z2o) (zaH:=zgS) (zaI:=zgT) (z6F:=z6w) (z4J:=zc8) (z1T:=zT) (r:=z13) w pz zvt zvv (hw.owns ((.cons (.there (.there .here)) .nil) : Sel [stb z3z 30 [(.int .i64 0),(.int .i64 0)],stb z3y 30 [(.int .i64 zT.fN),(.int .i64 zT.fD)],stb z2o 98 [(.int .i64 z6w.fE)]] [stb z2o 98 [(.int .i64 z6w.fE)]] [stb z3z 30 [(.int .i64 0),(.int .i64 0)],stb z3y 30 [(.int .i64 zT.fN),(.int .i64 zT.fD)]]))) ?_
 refine WL.new (dd:=7) rfl rfl rfl (e_alloc (cs:=[(.int .i64 0),(.int .i64 0)]) zeroT_30 rfl) ?_
 intro z4x _
 refine WL.eff0 rfl rfl (e_store (vs:=[(.int .i64 z13.1.fN),(.int .i64 z13.1.fD)]) (ds:=[(.int .i64 z13.1.fN),(.int .i64 z13.1.fD)]) sizT_30 rfl rfl rfl rfl (oc_cons rfl (oc_cons rfl oc_nil)) .here (Nat.le_of_ble_eq_true rfl) rfl) ?_
 refine WL.nil ?_
 refine WX.then ?_
 refine WC.seq ?_
 refine WC.seq ?_
 obtain ⟨zl1,zvw,h⟩:=ze h
 refine WC.region ?_
 refine WL.quiet (d:=12) rfl rfl rfl (q_loadA (cs:=[(.int .i64 zT.fN),(.int .i64 zT.fD)]) aggT_30 rfl rfl (rd_all (.there (.there (.there .here))))) ?_
 refine WL.quiet (d:=13) rfl rfl rfl (q_fieldAddr fo_43_1 rfl rfl) ?_
 refine WL.quiet (d:=14) rfl rfl rfl (q_loadA (cs:=[(.int .i64 z5o.fLatency.fN),(.int .i64 z5o.fLatency.fD)]) aggT_30 rfl rfl (rd_zsub (off:=2) (s:=2) hz.pv zl2 rfl)) ?_
 refine WL.callD (dd:=15) rfl rfl rfl (zn (l:=[.tmp 12,.tmp 14]) Try.call18 (.cons rfl (.cons rfl .nil))) (.nil : Sel [stb z4x 30 [(.int .i64 z13.1.fN),(.int .i64 z13.1.fD)],stb z2o 98 [(.int .i64 z13.2.fE)],stb z3z 30 [(.int .i64 0),(.int .i64 0)],stb z3y 30 [(.int .i64 zT.fN),(.int .i64 zT.fD)]] [] [stb z4x 30 [(.int .i64 z13.1.fN),(.int .i64 z13.1.fD)],stb z2o 98 [(.int .i64 z13.2.fE)],stb z3z 30 [(.int .i64 0),(.int .i64 0)],stb z3y 30 [(.int .i64 zT.fN),(.int .i64 zT.fD)]]) (fun w hw=>by have pz:=(hz.call hw (.nil : Sel [stb z4x 30 [(.int .i64 z13.1.fN),(.int .i64 z13.1.fD)],stb z2o 98 [(.int .i64 z13.2.fE)],stb z3z 30 [(.int .i64 0),(.int .i64 0)],stb z3y 30 [(.int .i64 zT.fN),(.int .i64 zT.fD)]] [] [stb z4x 30 [(.int .i64 z13.1.fN),(.int .i64 z13.1.fD)],stb z2o 98 [(.int .i64 z13.2.fE)],stb z3z 30 [(.int .i64 0),(.int .i64 0)],stb z3y 30 [(.int .i64 zT.fN),(.int .i64 zT.fD)]])); exact w_rat_Cmp (Z:=_)  (z21:=zT) (z23:=z5o.fLatency) (r:=zl1) w pz  zvw) ?_
 refine WL.quiet (d:=16) rfl rfl rfl (q_leq rfl rfl) ?_
 refine WL.nil ?_
 refine WX.then ?_
 refine WC.cond rfl (fun zl3=>?_) (fun zl3=>?_)
 ·replace h:=ite_t h zl3
  refine WC.seq ?_
  refine WC.region ?_
  refine WL.quiet (d:=17) rfl rfl rfl (q_loadA (cs:=[(.int .i64 z13.1.fN),(.int .i64 z13.1.fD)]) aggT_30 rfl rfl (rd_all .here)) ?_
  refine WL.eff0 rfl rfl (e_store (vs:=[(.int .i64 z13.1.fN),(.int .i64 z13.1.fD)]) (ds:=[(.int .i64 z13.1.fN),(.int .i64 z13.1.fD)]) sizT_30 rfl rfl rfl rfl (oc_cons rfl (oc_cons rfl oc_nil)) (.there (.there .here)) (Nat.le_of_ble_eq_true rfl) rfl) ?_
  refine WL.nil ?_
  refine WX.then ?_
  refine WC.ret ?_
  refine WX.thenRet ?_
  obtain rfl:=Option.some.inj h
  refine WX.bpRet Try.results37 (.agg rfl aggT_30 rfl (rd_all .here) .nil) (fun w hw=>?_)
  exact ⟨ret1 rfl,hw.sub (.cons (.there (.there .here)) .nil)⟩
 ·replace h:=ite_f h zl3
  refine WC.skip ?_
  refine WX.then ?_
  refine WC.seq ?_
  obtain ⟨z7X,zvx,h⟩:=ze h
  obtain ⟨z7Y,zvy,h⟩:=ze h
  obtain ⟨zaS,zvz,h⟩:=ze h
  refine WC.draw (fun i=>[9,10,11,12].contains i) [stb z4x 30 [(.int .i64 z13.1.fN),(.int .i64 z13.1.fD)]] rfl ?_
  refine WD.pure (i:=0) (d:=18) (by kernel_rfl) rfl (z6 (by kernel_rfl)) (z7 (by kernel_rfl)) rfl rfl rfl (fun _=>q_move rfl) ?_
  refine WD.stable (i:=1) (d:=19) (by kernel_rfl) rfl (z6 (by kernel_rfl)) (z7 (by kernel_rfl)) rfl rfl rfl (Sin.of (.cons .here .nil)) (q_loadA (cs:=[(.int .i64 z13.1.fN),(.int .i64 z13.1.fD)]) aggT_30 rfl rfl (rd_all .here)) ?_
  refine WD.pure (i:=2) (d:=20) (by kernel_rfl) rfl (z6 (by kernel_rfl)) (z7 (by kernel_rfl)) rfl rfl rfl (fun _=>q_move rfl) ?_
  refine WD.pure (i:=3) (d:=21) (by kernel_rfl) rfl (z6 (by kernel_rfl)) (z7 (by kernel_rfl)) rfl rfl rfl (fun _=>q_fieldAddr fo_43_0 rfl rfl) ?_
  refine WD.stable (i:=4) (d:=22) (by kernel_rfl) rfl (z6 (by kernel_rfl)) (z7 (by kernel_rfl)) rfl rfl rfl (Sin.of (.cons .here .nil)) (q_loadA (cs:=[(.int .i64 z5o.fRate.fN),(.int .i64 z5o.fRate.fD)]) aggT_30 rfl rfl (rd_zsub (off:=0) (s:=2) hz.pv zl2 rfl)) ?_
  refine WD.pure (i:=5) (d:=23) (by kernel_rfl) rfl (z6 (by kernel_rfl)) (z7 (by kernel_rfl)) rfl rfl rfl (fun _=>q_move rfl) ?_
  refine WD.quiet (i:=6) (d:=24) (by kernel_rfl) rfl (z6 (by kernel_rfl)) (z7 (by kernel_rfl)) rfl rfl rfl (q_loadA (cs:=[(.int .i64 zT.fN),(.int .i64 zT.fD)]) aggT_30 rfl rfl (rd_all (.there (.there (.there .here))))) ?_
  refine WD.pure (i:=7) (d:=25) (by kernel_rfl) rfl (z6 (by kernel_rfl)) (z7 (by kernel_rfl)) rfl rfl rfl (fun _=>q_fieldAddr fo_43_1 rfl rfl) ?_
  refine WD.quiet (i:=8) (d:=26) (by kernel_rfl) rfl (z6 (by kernel_rfl)) (z7 (by kernel_rfl)) rfl rfl rfl (q_loadA (cs:=[(.int .i64 z5o.fLatency.fN),(.int .i64 z5o.fLatency.fD)]) aggT_30 rfl rfl (rd_zsub (off:=2) (s:=2) hz.pv zl2 rfl)) ?_
  refine WD.call0 (i:=9) (dd:=27) rfl (by kernel_rfl) rfl rfl rfl (.inl ⟨rfl,(Sin.of (.cons (.there .here) .nil))⟩) (zn (l:=[.tmp 23,.func 24,.tmp 24,.tmp 26]) Try.call33 (.cons rfl (.cons rfl (.cons rfl (.cons rfl .nil))))) ((.cons (.there .here) .nil) : Sel [stb z4x 30 [(.int .i64 z13.1.fN),(.int .i64 z13.1.fD)],stb z2o 98 [(.int .i64 z13.2.fE)],stb z3z 30 [(.int .i64 0),(.int .i64 0)],stb z3y 30 [(.int .i64 zT.fN),(.int .i64 zT.fD)]] [stb z2o 98 [(.int .i64 z13.2.fE)]] [stb z4x 30 [(.int .i64 z13.1.fN),(.int .i64 z13.1.fD)],stb z3z 30 [(.int .i64 0),(.int .i64 0)],stb z3y 30 [(.int .i64 zT.fN),(.int .i64 zT.fD)]]) (fun w hw=>by have pz:=(hz.call hw ((.cons (.there .here) .nil) : Sel [stb z4x 30 [(.int .i64 z13.1.fN),(.int .i64 z13.1.fD)],stb z2o 98 [(.int .i64 z13.2.fE)],stb z3z 30 [(.int .i64 0),(.int .i64 0)],stb z3y 30 [(.int .i64 zT.fN),(.int .i64 zT.fD)]] [stb z2o 98 [(.int .i64 z13.2.fE)]] [stb z4x 30 [(.int .i64 z13.1.fN),(.int .i64 z13.1.fD)],stb z3z 30 [(.int .i64 0),(.int .i64 0)],stb z3y 30 [(.int .i64 zT.fN),(.int .i64 zT.fD)]])); exact Calls.mono (w_calculus_calc_do (Z:=_) (z3R:=z2o) (z6q:=24) (z6Y:=[]) (z4H:=z13.2) (z7h:=(fun (y0 : z2) (y1 : z2)=>m_rat_Sub y0 y1)) (z2H:=zT) (z2I:=z5o.fLatency) (r:=z7X) w pz Try.call24 (fun w' hz' y0 y1  r  hr=>w_rat_Sub (Z:=_)  (z3C:=y0) (z3D:=y1) (r:=r) w' hz'  hr) zvx (hw.owns ((.cons (.there .here) .nil) : Sel [stb z4x 30 [(.int .i64 z13.1.fN),(.int .i64 z13.1.fD)],stb z2o 98 [(.int .i64 z13.2.fE)],stb z3z 30 [(.int .i64 0),(.int .i64 0)],stb z3y 30 [(.int .i64 zT.fN),(.int .i64 zT.fD)]] [stb z2o 98 [(.int .i64 z13.2.fE)]] [stb z4x 30 [(.int .i64 z13.1.fN),(.int .i64 z13.1.fD)],stb z3z 30 [(.int .i64 0),(.int .i64 0)],stb z3y 30 [(.int .i64 zT.fN),(.int .i64 zT.fD)]]))) (fun _ _ h'=>⟨h'.1,trivial,h'.2⟩)) ?_
  intro _
  refine WD.call0 (i:=10) (dd:=28) rfl (by kernel_rfl) rfl rfl rfl (.inl ⟨rfl,(Sin.of (.cons (.there .here) .nil))⟩) (zn (l:=[.tmp 20,.func 25,.tmp 22,.tmp 27]) Try.call33 (.cons rfl (.cons rfl (.cons rfl (.cons rfl .nil))))) ((.cons .here .nil) : Sel [stb z2o 98 [(.int .i64 z7X.2.fE)],stb z4x 30 [(.int .i64 z13.1.fN),(.int .i64 z13.1.fD)],stb z3z 30 [(.int .i64 0),(.int .i64 0)],stb z3y 30 [(.int .i64 zT.fN),(.int .i64 zT.fD)]] [stb z2o 98 [(.int .i64 z7X.2.fE)]] [stb z4x 30 [(.int .i64 z13.1.fN),(.int .i64 z13.1.fD)],stb z3z 30 [(.int .i64 0),(.int .i64 0)],stb z3y 30 [(.int .i64 zT.fN),(.int .i64 zT.fD)]]) (fun w hw=>by have pz:=(hz.call hw ((.cons .here .nil) : Sel [stb z2o 98 [(.int .i64 z7X.2.fE)],stb z4x 30 [(.int .i64 z13.1.fN),(.int .i64 z13.1.fD)],stb z3z 30 [(.int .i64 0),(.int .i64 0)],stb z3y 30 [(.int .i64 zT.fN),(.int .i64 zT.fD)]] [stb z2o 98 [(.int .i64 z7X.2.fE)]] [stb z4x 30 [(.int .i64 z13.1.fN),(.int .i64 z13.1.fD)],stb z3z 30 [(.int .i64 0),(.int .i64 0)],stb z3y 30 [(.int .i64 zT.fN),(.int .i64 zT.fD)]])); exact Calls.mono (w_calculus_calc_do (Z:=_) (z3R:=z2o) (z6q:=25) (z6Y:=[]) (z4H:=z7X.2) (z7h:=(fun (y0 : z2) (y1 : z2)=>m_rat_Mul y0 y1)) (z2H:=z5o.fRate) (z2I:=z7X.1) (r:=z7Y) w pz Try.call25 (fun w' hz' y0 y1  r  hr=>w_rat_Mul (Z:=_)  (z4h:=y0) (z4i:=y1) (r:=r) w' hz'  hr) zvy (hw.owns ((.cons .here .nil) : Sel [stb z2o 98 [(.int .i64 z7X.2.fE)],stb z4x 30 [(.int .i64 z13.1.fN),(.int .i64 z13.1.fD)],stb z3z 30 [(.int .i64 0),(.int .i64 0)],stb z3y 30 [(.int .i64 zT.fN),(.int .i64 zT.fD)]] [stb z2o 98 [(.int .i64 z7X.2.fE)]] [stb z4x 30 [(.int .i64 z13.1.fN),(.int .i64 z13.1.fD)],stb z3z 30 [(.int .i64 0),(.int .i64 0)],stb z3y 30 [(.int .i64 zT.fN),(.int .i64 zT.fD)]]))) (fun _ _ h'=>⟨h'.1,trivial,h'.2⟩)) ?_
  intro _
  refine WD.call0 (i:=11) (dd:=29) rfl (by kernel_rfl) rfl rfl rfl (.inl ⟨rfl,(Sin.of (.cons (.there .here) .nil))⟩) (zn (l:=[.tmp 18,.func 24,.tmp 19,.tmp 28]) Try.call33 (.cons rfl (.cons rfl (.cons rfl (.cons rfl .nil))))) ((.cons .here .nil) : Sel [stb z2o 98 [(.int .i64 z7Y.2.fE)],stb z4x 30 [(.int .i64 z13.1.fN),(.int .i64 z13.1.fD)],stb z3z 30 [(.int .i64 0),(.int .i64 0)],stb z3y 30 [(.int .i64 zT.fN),(.int .i64 zT.fD)]] [stb z2o 98 [(.int .i64 z7Y.2.fE)]] [stb z4x 30 [(.int .i64 z13.1.fN),(.int .i64 z13.1.fD)],stb z3z 30 [(.int .i64 0),(.int .i64 0)],stb z3y 30 [(.int .i64 zT.fN),(.int .i64 zT.fD)]]) (fun w hw=>by have pz:=(hz.call hw ((.cons .here .nil) : Sel [stb z2o 98 [(.int .i64 z7Y.2.fE)],stb z4x 30 [(.int .i64 z13.1.fN),(.int .i64 z13.1.fD)],stb z3z 30 [(.int .i64 0),(.int .i64 0)],stb z3y 30 [(.int .i64 zT.fN),(.int .i64 zT.fD)]] [stb z2o 98 [(.int .i64 z7Y.2.fE)]] [stb z4x 30 [(.int .i64 z13.1.fN),(.int .i64 z13.1.fD)],stb z3z 30 [(.int .i64 0),(.int .i64 0)],stb z3y 30 [(.int .i64 zT.fN),(.int .i64 zT.fD)]])); exact Calls.mono (w_calculus_calc_do (Z:=_) (z3R:=z2o) (z6q:=24) (z6Y:=[]) (z4H:=z7Y.2) (z7h:=(fun (y0 : z2) (y1 : z2)=>m_rat_Sub y0 y1)) (z2H:=z13.1) (z2I:=z7Y.1) (r:=zaS) w pz Try.call24 (fun w' hz' y0 y1  r  hr=>w_rat_Sub (Z:=_)  (z3C:=y0) (z3D:=y1) (r:=r) w' hz'  hr) zvz (hw.owns ((.cons .here .nil) : Sel [stb z2o 98 [(.int .i64 z7Y.2.fE)],stb z4x 30 [(.int .i64 z13.1.fN),(.int .i64 z13.1.fD)],stb z3z 30 [(.int .i64 0),(.int .i64 0)],stb z3y 30 [(.int .i64 zT.fN),(.int .i64 zT.fD)]] [stb z2o 98 [(.int .i64 z7Y.2.fE)]] [stb z4x 30 [(.int .i64 z13.1.fN),(.int .i64 z13.1.fD)],stb z3z 30 [(.int .i64 0),(.int .i64 0)],stb z3y 30 [(.int .i64 zT.fN),(.int .i64 zT.fD)]]))) (fun _ _ h'=>⟨h'.1,trivial,h'.2⟩)) ?_
  intro _
  refine WD.last0 (i:=12) rfl (by kernel_rfl) rfl rfl rfl (by kernel_rfl) (e_store (vs:=[(.int .i64 zaS.1.fN),(.int .i64 zaS.1.fD)]) (ds:=[(.int .i64 zaS.1.fN),(.int .i64 zaS.1.fD)]) sizT_30 rfl rfl rfl rfl (oc_cons rfl (oc_cons rfl oc_nil)) (.there (.there .here)) (Nat.le_of_ble_eq_true rfl) rfl) ?_
  refine WD.done (by kernel_rfl) ?_
  refine WX.then ?_
  refine WC.ret ?_
  obtain rfl:=Option.some.inj h
  refine WX.bpRet Try.results37 (.agg rfl aggT_30 rfl (rd_all .here) .nil) (fun w hw=>?_)
  exact ⟨ret1 rfl,hw.sub (.cons (.there .here) .nil)⟩
end Go.Proofs.Ytakfmdiiehcbdaa
