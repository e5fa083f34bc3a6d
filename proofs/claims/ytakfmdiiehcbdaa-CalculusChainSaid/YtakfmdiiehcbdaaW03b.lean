/- A part of this claim's proof: models of functions, walks, plain laws. No conditions. -/
import Derived.Test.YtakfmdiiehcbdaaW03a
namespace Go.Proofs.Ytakfmdiiehcbdaa
open Go Go.RowKit Sep
set_option linter.all false
set_option maxRecDepth 30000
set_option maxHeartbeats 4000000
def m_curve_pairs_1_L4 (z1e : Type) (z2r : List z1) (z6B : (z1 × z1) → z1e → Option (Bool × z1e)) (z27 : List z1) (z2f : Int) (z9Y : z1e → Option z1e) : Nat → Int → z1e → Option z1e
 | 0,_,_=>none
 | zjq + 1,z34,z6V=>if decide (z34 < ((z2r.length : Nat) : Int)) then chk ((0 : Int) ≤ z34 ∧ z34 < ((z2r.length : Nat) : Int)) ((z6B ((⟨(⟨(((nth z27 z2f).fBurst).fN),(((nth z27 z2f).fBurst).fD)⟩ : z2),(⟨(((nth z27 z2f).fRate).fN),(((nth z27 z2f).fRate).fD)⟩ : z2)⟩ : z1),(⟨(⟨(((nth z2r z34).fBurst).fN),(((nth z2r z34).fBurst).fD)⟩ : z2),(⟨(((nth z2r z34).fRate).fN),(((nth z2r z34).fRate).fD)⟩ : z2)⟩ : z1)) z6V).bind fun zc5=>if !zc5.1 then some zc5.2 else m_curve_pairs_1_L4 z1e z2r z6B z27 z2f z9Y zjq (i64 (z34 + 1)) zc5.2) else z9Y z6V
theorem m_curve_pairs_1_L4_fuel {n : Nat} {z1e : Type} {z2r : List z1} {z6B : (z1 × z1) → z1e → Option (Bool × z1e)} {z27 : List z1} {z2f : Int} {z9Y : z1e → Option z1e} {z34 : Int} {z6V : z1e} {r : z1e} (h : m_curve_pairs_1_L4 z1e z2r z6B z27 z2f z9Y n z34 z6V = some r) : ∃ m,n = m + 1:=by
 cases n with
 | zero=>cases h
 | succ m=>exact ⟨m,rfl⟩
def m_curve_pairs_1_L3 (z1e : Type) (z27 : List z1) (z2r : List z1) (z6B : (z1 × z1) → z1e → Option (Bool × z1e)) (z9Z : z1e → Option z1e) : Nat → Int → z1e → Option z1e
 | 0,_,_=>none
 | zjr + 1,z2f,z7v=>if decide (z2f < ((z27.length : Nat) : Int)) then jp1 (fun (z9f : z1e)=>m_curve_pairs_1_L3 z1e z27 z2r z6B z9Z zjr (i64 (z2f + 1)) z9f) fun zjs=>chk ((0 : Int) ≤ z2f ∧ z2f < ((z27.length : Nat) : Int)) (jp1 (fun (z9g : z1e)=>zjs z9g) fun z9Y=>m_curve_pairs_1_L4 z1e z2r z6B z27 z2f z9Y FUEL 0 z7v) else z9Z z7v
theorem m_curve_pairs_1_L3_fuel {n : Nat} {z1e : Type} {z27 : List z1} {z2r : List z1} {z6B : (z1 × z1) → z1e → Option (Bool × z1e)} {z9Z : z1e → Option z1e} {z2f : Int} {z7v : z1e} {r : z1e} (h : m_curve_pairs_1_L3 z1e z27 z2r z6B z9Z n z2f z7v = some r) : ∃ m,n = m + 1:=by
 cases n with
 | zero=>cases h
 | succ m=>exact ⟨m,rfl⟩
def m_curve_pairs_1 (z1e : Type) (z6B : (z1 × z1) → z1e → Option (Bool × z1e)) (s0_5333 : z1e) (z27 : List z1) (z2r : List z1) : Option z1e :=
 jp1 (fun (za0 : z1e)=>some za0) fun z9Z=>m_curve_pairs_1_L3 z1e z27 z2r z6B z9Z FUEL 0 s0_5333
set_option maxRecDepth 20000 in
theorem w_curve_pairs_1 (Z : Zp) (z1e : Type) (za1 : Nat) (z3N : Type) (z7f : z3N → z1e → Asrt) (za2 : z3N → z1e → Prop) (zaS : z3N) (zeO : Addr) (zc6 : Option Addr) (zc7 : Nat) (za3 : Addr) (zgz : Option Addr) (zgA : Nat) (z6B : (z1 × z1) → z1e → Option (Bool × z1e)) (s0_5333 : z1e) (z27 : List z1) (z2r : List z1) (r : z1e) (w₀ : World) (hz : PZ (fps [z7f zaS s0_5333]) w₀ Z)
  (zsI : YieldP Try.prog Z za1 (α:=z1 × z1) (σ:=z1e) (G:=z3N) (H:=Unit) (fun h x=>[(.agg #[(.int .i64 x.1.fBurst.fN),(.int .i64 x.1.fBurst.fD),(.int .i64 x.1.fRate.fN),(.int .i64 x.1.fRate.fD)]),(.agg #[(.int .i64 x.2.fBurst.fN),(.int .i64 x.2.fBurst.fD),(.int .i64 x.2.fRate.fN),(.int .i64 x.2.fRate.fD)])]) (fun h x=>[]) z6B z7f za2)
  (zsJ : za2 zaS s0_5333)
  (zsK : ZS Z 4 (fun r x=>r = e35 x) zc6 zc7 z27)
  (zsL : ZC Z zeO [(.slice zc6 z27.length zc7)])
  (zsM : ZS Z 4 (fun r x=>r = e35 x) zgz zgA z2r)
  (zsN : ZC Z za3 [(.slice zgz z2r.length zgA)])
  (h : m_curve_pairs_1 z1e z6B s0_5333 z27 z2r = some r)
  (hown : Hp (fps [z7f zaS s0_5333]) w₀ w₀ [z7f zaS s0_5333]) :
  Calls Try.prog 89 #[(.func (.yield za1) #[] #[]),(.pointer (some zeO)),(.pointer (some za3))] w₀ fun e w'=>∃ zoi : z3N,e = .returned (.tuple #[]) ∧ (za2 zoi r) ∧ Hp (fps [z7f zaS s0_5333]) w₀ w' [z7f zoi r]:=by
 unfold m_curve_pairs_1 at h
 refine Calls.ofWC (vs:=[(.func (.yield za1) #[] #[]),(.pointer (some zeO)),(.pointer (some za3))]) (pre:=[z7f zaS s0_5333]) (env:=[(0,(.func (.yield za1) #[] #[])),(1,(.pointer (some zeO))),(2,(.pointer (some za3)))]) Try.func89 rfl Try.ntmps89 rfl (hown) rfl ?_
 refine WC.b ?_
 refine WC.a ?_
 refine WL.a (d:=8) rfl rfl rfl (q_load1 oneT_39 rfl (rd_z hz.pv zsL rfl)) ?_
 refine WL.a (d:=9) rfl rfl rfl (q_len Try.underlying39 rfl) ?_
 refine WL.a (d:=10) rfl rfl rfl (q_m rfl) ?_
 refine WL.nil ?_
 refine WX.a ?_
 obtain ⟨z9Z,zsO,h⟩:=jp1_elim h
 refine WC.mid2 (fun (za0 : z1e) (zdq : z3N)=>(z9Z za0 = some r) ∧ (za2 zdq za0)) (fun (za0 : z1e) (zdq : z3N)=>[]) (fun (za0 : z1e) (zdq : z3N)=>[z7f zdq za0]) ?_ ?_
 ·skip
  refine WC.block ?_
  refine WC.loop4 (fun (zdr : Nat) (z2f : Int) (z7v : z1e) (zaT : z3N)=>(m_curve_pairs_1_L3 z1e z27 z2r z6B z9Z zdr z2f z7v = some r) ∧ (za2 zaT z7v)) (fun (zdr : Nat) (z2f : Int) (z7v : z1e) (zaT : z3N)=>[(0,(.func (.yield za1) #[] #[])),(2,(.pointer (some za3))),(8,(.slice zc6 z27.length zc7)),(9,(.int .i64 ((z27.length : Nat) : Int))),(10,(.int .i64 z2f))]) (fun (zdr : Nat) (z2f : Int) (z7v : z1e) (zaT : z3N)=>[z7f zaT z7v]) (fun (zdr : Nat) (z2f : Int) (z7v : z1e) (zaT : z3N)=>zdr) ⟨FUEL,0,s0_5333,zaS⟩ ⟨h,zsJ⟩ (.cons rfl (.cons rfl (.cons rfl (.cons rfl (.cons rfl .nil))))) (.cons .here .nil) ?_
  rintro zdr z2f z7v zaT ⟨h,zoj⟩
  obtain ⟨zjr,rfl⟩:=m_curve_pairs_1_L3_fuel h
  rw [m_curve_pairs_1_L3] at h
  refine WC.b ?_
  refine WC.a ?_
  refine WL.a (d:=11) rfl rfl rfl (q_lss rfl rfl) ?_
  refine WL.nil ?_
  refine WX.a ?_
  refine WC.b ?_
  refine WC.cond rfl (fun zjt=>?_) (fun zjt=>?_)
  ·replace h:=ite_t h zjt
   refine WC.skip ?_
   refine WX.a ?_
   obtain ⟨zjs,zsP,h⟩:=jp1_elim h
   refine WC.seqMid2 (fun (z9f : z1e) (zds : z3N)=>(zjs z9f = some r) ∧ (za2 zds z9f)) (fun (z9f : z1e) (zds : z3N)=>[(0,(.func (.yield za1) #[] #[])),(2,(.pointer (some za3))),(8,(.slice zc6 z27.length zc7)),(9,(.int .i64 ((z27.length : Nat) : Int))),(10,(.int .i64 z2f))]) (fun (z9f : z1e) (zds : z3N)=>[z7f zds z9f]) ?_ ?_
   ·skip
    refine WC.block ?_
    refine WC.b ?_
    obtain ⟨zsQ,h⟩:=chk_elim h
    refine WC.a ?_
    refine WL.znth (dd:=12) rfl rfl (Z:=Z) (Pr:=(fun r x=>r = e35 x)) elT_39 rfl rfl zsK zsQ ?_
    rintro zzH zzI zsR zzJ rfl
    refine WL.a (d:=13) rfl rfl rfl (q_loadA (cs:=[(.int .i64 (((nth z27 z2f).fBurst).fN)),(.int .i64 (((nth z27 z2f).fBurst).fD)),(.int .i64 (((nth z27 z2f).fRate).fN)),(.int .i64 (((nth z27 z2f).fRate).fD))]) aggT_35 rfl rfl (rd_zs hz.pv zsR)) ?_
    refine WL.new (dd:=5) rfl rfl rfl (e_alloc (cs:=[(.int .i64 0),(.int .i64 0),(.int .i64 0),(.int .i64 0)]) zeroT_35 rfl) ?_
    intro zol _
    refine WL.eff0 rfl rfl (e_store (vs:=[(.int .i64 (((nth z27 z2f).fBurst).fN)),(.int .i64 (((nth z27 z2f).fBurst).fD)),(.int .i64 (((nth z27 z2f).fRate).fN)),(.int .i64 (((nth z27 z2f).fRate).fD))]) (ds:=[(.int .i64 (((nth z27 z2f).fBurst).fN)),(.int .i64 (((nth z27 z2f).fBurst).fD)),(.int .i64 (((nth z27 z2f).fRate).fN)),(.int .i64 (((nth z27 z2f).fRate).fD))]) sizT_35 rfl rfl rfl rfl (oc_cons rfl (oc_cons rfl (oc_cons rfl (oc_cons rfl oc_nil)))) .here (Nat.le_of_ble_eq_true rfl) rfl) ?_
    refine WL.nil ?_
    refine WX.a ?_
    refine WC.b ?_
    refine WC.a ?_
    refine WL.a (d:=14) rfl rfl rfl (q_load1 oneT_39 rfl (rd_z hz.pv zsN rfl)) ?_
    refine WL.a (d:=15) rfl rfl rfl (q_len Try.underlying39 rfl) ?_
    refine WL.a (d:=16) rfl rfl rfl (q_m rfl) ?_
    refine WL.nil ?_
    refine WX.a ?_
    obtain ⟨z9Y,zsS,h⟩:=jp1_elim h
    refine WC.mid2 (fun (z9g : z1e) (zdt : z3N)=>(z9Y z9g = some r) ∧ (za2 zdt z9g)) (fun (z9g : z1e) (zdt : z3N)=>[(0,(.func (.yield za1) #[] #[])),(2,(.pointer (some za3))),(8,(.slice zc6 z27.length zc7)),(9,(.int .i64 ((z27.length : Nat) : Int))),(10,(.int .i64 z2f))]) (fun (z9g : z1e) (zdt : z3N)=>[z7f zdt z9g]) ?_ ?_
    ·skip
     refine WC.block ?_
     refine WC.loop4 (fun (zdu : Nat) (z34 : Int) (z6V : z1e) (z9h : z3N)=>(m_curve_pairs_1_L4 z1e z2r z6B z27 z2f z9Y zdu z34 z6V = some r) ∧ (za2 z9h z6V)) (fun (zdu : Nat) (z34 : Int) (z6V : z1e) (z9h : z3N)=>[(0,(.func (.yield za1) #[] #[])),(2,(.pointer (some za3))),(5,(.pointer (some ⟨zol,0,none⟩))),(8,(.slice zc6 z27.length zc7)),(9,(.int .i64 ((z27.length : Nat) : Int))),(10,(.int .i64 z2f)),(14,(.slice zgz z2r.length zgA)),(15,(.int .i64 ((z2r.length : Nat) : Int))),(16,(.int .i64 z34))]) (fun (zdu : Nat) (z34 : Int) (z6V : z1e) (z9h : z3N)=>[stb zol 35 [(.int .i64 (((nth z27 z2f).fBurst).fN)),(.int .i64 (((nth z27 z2f).fBurst).fD)),(.int .i64 (((nth z27 z2f).fRate).fN)),(.int .i64 (((nth z27 z2f).fRate).fD))],z7f z9h z6V]) (fun (zdu : Nat) (z34 : Int) (z6V : z1e) (z9h : z3N)=>zdu) ⟨FUEL,0,z7v,zaT⟩ ⟨h,zoj⟩ (.cons rfl (.cons rfl (.cons rfl (.cons rfl (.cons rfl (.cons rfl (.cons rfl (.cons rfl (.cons rfl .nil))))))))) (.cons .here (.cons .here .nil)) ?_
     rintro zdu z34 z6V z9h ⟨h,zom⟩
     obtain ⟨zjq,rfl⟩:=m_curve_pairs_1_L4_fuel h
     rw [m_curve_pairs_1_L4] at h
     refine WC.b ?_
     refine WC.a ?_
     refine WL.a (d:=17) rfl rfl rfl (q_lss rfl rfl) ?_
     refine WL.nil ?_
     refine WX.a ?_
     refine WC.b ?_
     refine WC.cond rfl (fun zju=>?_) (fun zju=>?_)
     ·replace h:=ite_t h zju
      refine WC.skip ?_
      refine WX.a ?_
      refine WC.b ?_
      refine WC.block ?_
      refine WC.b ?_
      obtain ⟨zsT,h⟩:=chk_elim h
      refine WC.a ?_
      refine WL.znth (dd:=18) rfl rfl (Z:=Z) (Pr:=(fun r x=>r = e35 x)) elT_39 rfl rfl zsM zsT ?_
      rintro zzK zzL zsU zzM rfl
      refine WL.a (d:=19) rfl rfl rfl (q_loadA (cs:=[(.int .i64 (((nth z2r z34).fBurst).fN)),(.int .i64 (((nth z2r z34).fBurst).fD)),(.int .i64 (((nth z2r z34).fRate).fN)),(.int .i64 (((nth z2r z34).fRate).fD))]) aggT_35 rfl rfl (rd_zs hz.pv zsU)) ?_
      refine WL.new (dd:=7) rfl rfl rfl (e_alloc (cs:=[(.int .i64 0),(.int .i64 0),(.int .i64 0),(.int .i64 0)]) zeroT_35 rfl) ?_
      intro zzN _
      refine WL.eff0 rfl rfl (e_store (vs:=[(.int .i64 (((nth z2r z34).fBurst).fN)),(.int .i64 (((nth z2r z34).fBurst).fD)),(.int .i64 (((nth z2r z34).fRate).fN)),(.int .i64 (((nth z2r z34).fRate).fD))]) (ds:=[(.int .i64 (((nth z2r z34).fBurst).fN)),(.int .i64 (((nth z2r z34).fBurst).fD)),(.int .i64 (((nth z2r z34).fRate).fN)),(.int .i64 (((nth z2r z34).fRate).fD))]) sizT_35 rfl rfl rfl rfl (oc_cons rfl (oc_cons rfl (oc_cons rfl (oc_cons rfl oc_nil)))) .here (Nat.le_of_ble_eq_true rfl) rfl) ?_
      refine WL.nil ?_
      refine WX.a ?_
      refine WC.b ?_
      obtain ⟨zc5,zsV,h⟩:=zd h
      refine WC.a ?_
      refine WL.a (d:=20) rfl rfl rfl (q_m rfl) ?_
      refine WL.a (d:=21) rfl rfl rfl (q_loadA (cs:=[(.int .i64 (((nth z27 z2f).fBurst).fN)),(.int .i64 (((nth z27 z2f).fBurst).fD)),(.int .i64 (((nth z27 z2f).fRate).fN)),(.int .i64 (((nth z27 z2f).fRate).fD))]) aggT_35 rfl rfl (rd_all .h1)) ?_
      refine WL.a (d:=22) rfl rfl rfl (q_loadA (cs:=[(.int .i64 (((nth z2r z34).fBurst).fN)),(.int .i64 (((nth z2r z34).fBurst).fD)),(.int .i64 (((nth z2r z34).fRate).fN)),(.int .i64 (((nth z2r z34).fRate).fD))]) aggT_35 rfl rfl (rd_all .here)) ?_
      refine WL.yield (dd:=23) (x:=((⟨(⟨(((nth z27 z2f).fBurst).fN),(((nth z27 z2f).fBurst).fD)⟩ : z2),(⟨(((nth z27 z2f).fRate).fN),(((nth z27 z2f).fRate).fD)⟩ : z2)⟩ : z1),(⟨(⟨(((nth z2r z34).fBurst).fN),(((nth z2r z34).fBurst).fD)⟩ : z2),(⟨(((nth z2r z34).fRate).fN),(((nth z2r z34).fRate).fD)⟩ : z2)⟩ : z1))) (h:=()) (g:=z9h) (s:=z6V) (b:=zc5.1) (s':=zc5.2) zsI rfl rfl rfl (.cons rfl (.cons rfl .nil)) ((.cons .h2 .nil) : Sel _ [z7f z9h z6V] _) zsV zom (fun w hw=>hz.call hw ((.cons .h2 .nil) : Sel _ [z7f z9h z6V] _)) ?_
      intro zon zoo
      refine WL.a (d:=24) rfl rfl rfl (q_not rfl) ?_
      refine WL.nil ?_
      refine WX.a ?_
      refine WC.cond rfl (fun zjv=>?_) (fun zjv=>?_)
      ·replace h:=ite_t h zjv
       refine WC.ret ?_
       refine WX.blockRet ?_
       refine WX.thenRet ?_
       refine WX.thenRet ?_
       refine WX.blockRet ?_
       refine WX.thenRet ?_
       refine WX.blockRet ?_
       refine WX.thenRet ?_
       refine WX.thenRet ?_
       refine WX.blockRet ?_
       refine WX.thenRet ?_
       obtain rfl:=Option.some.inj h
       refine WX.bpRet Try.results89 .nil (fun w hw=>?_)
       exact ⟨zon,ret0,zoo,hw.sub (.cons .here .nil)⟩
      ·replace h:=ite_f h zjv
       refine WC.skip ?_
       refine WX.blockNormal ?_
       refine WX.a ?_
       refine WC.a ?_
       refine WL.a (d:=25) rfl rfl rfl (q_add rfl rfl rfl) ?_
       refine WL.a (d:=16) rfl rfl rfl (q_m rfl) ?_
       refine WL.nil ?_
       exact WX.round (G:=Nat × Int × z1e × z3N) ⟨zjq,(i64 (z34 + 1)),zc5.2,zon⟩ ⟨h,zoo⟩ (Nat.lt_succ_self _) (.cons rfl (.cons rfl (.cons rfl (.cons rfl (.cons rfl (.cons rfl (.cons rfl (.cons rfl (.cons rfl .nil))))))))) (.cons .h2 (.cons .here .nil))
     ·replace h:=ite_f h zju
      refine WC.exit ?_
      refine WX.thenExit ?_
      refine WX.thenExit ?_
      refine WX.blockHit ?_
      exact WX.mid (G:=z1e × z3N) ⟨z6V,z9h⟩ ⟨h,zom⟩ (.cons rfl (.cons rfl (.cons rfl (.cons rfl (.cons rfl .nil))))) (.cons .h1 .nil)
    ·rintro z9g zdt ⟨h,zsW⟩
     replace h:=(zsS z9g).symm.trans h
     refine WX.blockNormal ?_
     exact WX.mid (G:=z1e × z3N) ⟨z9g,zdt⟩ ⟨h,zsW⟩ (.cons rfl (.cons rfl (.cons rfl (.cons rfl (.cons rfl .nil))))) (.cons .here .nil)
   ·rintro z9f zds ⟨h,zsX⟩
    replace h:=(zsP z9f).symm.trans h
    refine WC.a ?_
    refine WL.a (d:=26) rfl rfl rfl (q_add rfl rfl rfl) ?_
    refine WL.a (d:=10) rfl rfl rfl (q_m rfl) ?_
    refine WL.nil ?_
    exact WX.round (G:=Nat × Int × z1e × z3N) ⟨zjr,(i64 (z2f + 1)),z9f,zds⟩ ⟨h,zsX⟩ (Nat.lt_succ_self _) (.cons rfl (.cons rfl (.cons rfl (.cons rfl (.cons rfl .nil))))) (.cons .here .nil)
  ·replace h:=ite_f h zjt
   refine WC.exit ?_
   refine WX.thenExit ?_
   refine WX.thenExit ?_
   refine WX.blockHit ?_
   exact WX.mid (G:=z1e × z3N) ⟨z7v,zaT⟩ ⟨h,zoj⟩ .nil (.cons .here .nil)
 ·rintro za0 zdq ⟨h,zsY⟩
  replace h:=(zsO za0).symm.trans h
  obtain rfl:=Option.some.inj h
  refine WX.bpNormal Try.results89 .nil (fun w hw=>?_)
  exact ⟨zdq,ret0,zsY,hw.sub (.cons .here .nil)⟩
def m_rat_do_2 (zaU : z2) (zaV : z2) : Option (Int × Int) :=
 some ((i64 ((i64 (zaU.fN * zaV.fD)) - (i64 (zaV.fN * zaU.fD)))),(i64 (zaU.fD * zaV.fD)))
set_option maxRecDepth 20000 in
theorem w_rat_do_2 (Z : Zp)  (zeP : Addr) (zeQ : Addr) (zaU : z2) (zaV : z2) (r : Int × Int) (w₀ : World) (hz : PZ [] w₀ Z)
  (zjw : ZC Z zeP [(.int .i64 zaU.fN),(.int .i64 zaU.fD)])
  (zjx : ZC Z zeQ [(.int .i64 zaV.fN),(.int .i64 zaV.fD)])
  (h : m_rat_do_2 zaU zaV = some r) :
  Calls Try.prog 55 #[(.pointer (some zeP)),(.pointer (some zeQ))] w₀ fun e w'=>e = .returned (.tuple #[(.int .i64 r.1),(.int .i64 r.2)]) ∧ Hp [] w₀ w' []:=by
 unfold m_rat_do_2 at h
 refine Calls.ofWC (vs:=[(.pointer (some zeP)),(.pointer (some zeQ))]) (pre:=[]) (env:=[(0,(.pointer (some zeP))),(1,(.pointer (some zeQ)))]) Try.func55 rfl Try.ntmps55 rfl (Hp.nil w₀ _) rfl ?_
 refine WC.b ?_
 refine WC.a ?_
 refine WL.a (d:=2) rfl rfl rfl (q_z rfl) ?_
 refine WL.a (d:=3) rfl rfl rfl (q_z rfl) ?_
 refine WL.nil ?_
 refine WX.a ?_
 refine WC.b ?_
 refine WC.draw (fun i=>[].contains i) [] rfl ?_
 refine WD.a (i:=0) (d:=4) (by kernel_rfl) rfl (z6 (by kernel_rfl)) (z7 (by kernel_rfl)) rfl rfl rfl (fun _=>q_fieldAddr fo_30_0 rfl rfl) ?_
 refine WD.e (i:=1) (d:=5) (by kernel_rfl) rfl (z6 (by kernel_rfl)) (z7 (by kernel_rfl)) rfl rfl rfl (q_load1 oneT_3 rfl (rd_zAt hz.pv zjw rfl)) ?_
 refine WD.a (i:=2) (d:=6) (by kernel_rfl) rfl (z6 (by kernel_rfl)) (z7 (by kernel_rfl)) rfl rfl rfl (fun _=>q_fieldAddr fo_30_1 rfl rfl) ?_
 refine WD.e (i:=3) (d:=7) (by kernel_rfl) rfl (z6 (by kernel_rfl)) (z7 (by kernel_rfl)) rfl rfl rfl (q_load1 oneT_3 rfl (rd_zAt hz.pv zjx rfl)) ?_
 refine WD.a (i:=4) (d:=8) (by kernel_rfl) rfl (z6 (by kernel_rfl)) (z7 (by kernel_rfl)) rfl rfl rfl (fun _=>q_mul rfl rfl rfl) ?_
 refine WD.a (i:=5) (d:=9) (by kernel_rfl) rfl (z6 (by kernel_rfl)) (z7 (by kernel_rfl)) rfl rfl rfl (fun _=>q_fieldAddr fo_30_0 rfl rfl) ?_
 refine WD.e (i:=6) (d:=10) (by kernel_rfl) rfl (z6 (by kernel_rfl)) (z7 (by kernel_rfl)) rfl rfl rfl (q_load1 oneT_3 rfl (rd_zAt hz.pv zjx rfl)) ?_
 refine WD.a (i:=7) (d:=11) (by kernel_rfl) rfl (z6 (by kernel_rfl)) (z7 (by kernel_rfl)) rfl rfl rfl (fun _=>q_fieldAddr fo_30_1 rfl rfl) ?_
 refine WD.e (i:=8) (d:=12) (by kernel_rfl) rfl (z6 (by kernel_rfl)) (z7 (by kernel_rfl)) rfl rfl rfl (q_load1 oneT_3 rfl (rd_zAt hz.pv zjw rfl)) ?_
 refine WD.a (i:=9) (d:=13) (by kernel_rfl) rfl (z6 (by kernel_rfl)) (z7 (by kernel_rfl)) rfl rfl rfl (fun _=>q_mul rfl rfl rfl) ?_
 refine WD.a (i:=10) (d:=14) (by kernel_rfl) rfl (z6 (by kernel_rfl)) (z7 (by kernel_rfl)) rfl rfl rfl (fun _=>q_sub rfl rfl rfl) ?_
 refine WD.a (i:=11) (d:=15) (by kernel_rfl) rfl (z6 (by kernel_rfl)) (z7 (by kernel_rfl)) rfl rfl rfl (fun _=>q_fieldAddr fo_30_1 rfl rfl) ?_
 refine WD.e (i:=12) (d:=16) (by kernel_rfl) rfl (z6 (by kernel_rfl)) (z7 (by kernel_rfl)) rfl rfl rfl (q_load1 oneT_3 rfl (rd_zAt hz.pv zjw rfl)) ?_
 refine WD.a (i:=13) (d:=17) (by kernel_rfl) rfl (z6 (by kernel_rfl)) (z7 (by kernel_rfl)) rfl rfl rfl (fun _=>q_fieldAddr fo_30_1 rfl rfl) ?_
 refine WD.e (i:=14) (d:=18) (by kernel_rfl) rfl (z6 (by kernel_rfl)) (z7 (by kernel_rfl)) rfl rfl rfl (q_load1 oneT_3 rfl (rd_zAt hz.pv zjx rfl)) ?_
 refine WD.a (i:=15) (d:=19) (by kernel_rfl) rfl (z6 (by kernel_rfl)) (z7 (by kernel_rfl)) rfl rfl rfl (fun _=>q_mul rfl rfl rfl) ?_
 refine WD.a (i:=16) (d:=2) (by kernel_rfl) rfl (z6 (by kernel_rfl)) (z7 (by kernel_rfl)) rfl rfl rfl (fun _=>q_z rfl) ?_
 refine WD.a (i:=17) (d:=3) (by kernel_rfl) rfl (z6 (by kernel_rfl)) (z7 (by kernel_rfl)) rfl rfl rfl (fun _=>q_z rfl) ?_
 refine WD.done (by kernel_rfl) ?_
 refine WX.a ?_
 refine WC.ret ?_
 obtain rfl:=Option.some.inj h
 refine WX.bpRet Try.results55 (.tmp rfl (.tmp rfl .nil)) (fun w hw=>?_)
 exact ⟨ret2 rfl rfl,hw.sub .nil⟩
def m_rat_Make (z6C : Int) (z64 : Int) : Option (z2 × Int) :=
 if decide (z64 = 0) then some ((⟨0,0⟩ : z2),2) else (m_rat_size z6C).bind fun z6D=>(m_rat_size z64).bind fun z6W=>(m_rat_gcd_uint64 z6D z6W).bind fun z3O=>chk ((z3O : Int) ≠ 0) (if (decide ((u64 (Int.tdiv z6D z3O)) > 1073741824)) || (decide ((u64 (Int.tdiv z6W z3O)) > 1073741824)) then some ((⟨0,0⟩ : z2),3) else jp1 (fun (z8O : Int)=>some ((⟨z8O,i64 (u64 (Int.tdiv z6W z3O))⟩ : z2),0)) fun zgB=>if (decide (z6C < 0)) != (decide (z64 < 0)) then zgB (i64 (0 - (i64 (u64 (Int.tdiv z6D z3O))))) else zgB (i64 (u64 (Int.tdiv z6D z3O))))
set_option maxRecDepth 20000 in
theorem w_rat_Make (Z : Zp)   (z6C : Int) (z64 : Int) (r : z2 × Int) (w₀ : World) (hz : PZ [] w₀ Z)
  (h : m_rat_Make z6C z64 = some r) :
  Calls Try.prog 9 #[(.int .i64 z6C),(.int .i64 z64)] w₀ fun e w'=>e = .returned (.tuple #[(.agg #[(.int .i64 r.1.fN),(.int .i64 r.1.fD)]),(.int .i64 r.2)]) ∧ Hp [] w₀ w' []:=by
 unfold m_rat_Make at h
 refine Calls.ofWC (vs:=[(.int .i64 z6C),(.int .i64 z64)]) (pre:=[]) (env:=[(0,(.int .i64 z6C)),(1,(.int .i64 z64))]) Try.func9 rfl Try.ntmps9 rfl (Hp.nil w₀ _) rfl ?_
 refine WC.b ?_
 refine WC.a ?_
 refine WL.new (dd:=4) rfl rfl rfl (e_alloc (cs:=[(.int .i64 0),(.int .i64 0)]) zeroT_30 rfl) ?_
 intro z6X _
 refine WL.a (d:=5) rfl rfl rfl (q_z rfl) ?_
 refine WL.nil ?_
 refine WX.a ?_
 refine WC.b ?_
 refine WC.b ?_
 refine WC.a ?_
 refine WL.a (d:=10) rfl rfl rfl (q_m rfl) ?_
 refine WL.a (d:=11) rfl rfl rfl (q_eql rfl rfl) ?_
 refine WL.nil ?_
 refine WX.a ?_
 refine WC.cond rfl (fun zjy=>?_) (fun zjy=>?_)
 ·replace h:=ite_t h zjy
  refine WC.b ?_
  refine WC.a ?_
  refine WL.a (d:=12) rfl rfl rfl (q_build (v:=(.agg #[(.int .i64 0),(.int .i64 0)])) (Eos.parts (l:=[]) .nil []) (fun _=>by kernel_rfl)) ?_
  refine WL.eff0 rfl rfl (e_store (vs:=[(.int .i64 0),(.int .i64 0)]) (ds:=[(.int .i64 0),(.int .i64 0)]) sizT_30 rfl rfl rfl rfl (oc_cons rfl (oc_cons rfl oc_nil)) .here (Nat.le_of_ble_eq_true rfl) rfl) ?_
  refine WL.a (d:=5) rfl rfl rfl (q_z rfl) ?_
  refine WL.nil ?_
  refine WX.a ?_
  refine WC.ret ?_
  refine WX.thenRet ?_
  obtain rfl:=Option.some.inj h
  refine WX.bpRet Try.results9 (.agg rfl aggT_30 rfl (rd_all .here) (.tmp rfl .nil)) (fun w hw=>?_)
  exact ⟨ret2 rfl rfl,hw.sub .nil⟩
 ·replace h:=ite_f h zjy
  refine WC.skip ?_
  refine WX.a ?_
  refine WC.b ?_
  obtain ⟨z6D,zsZ,h⟩:=zd h
  obtain ⟨z6W,zt0,h⟩:=zd h
  refine WC.a ?_
  refine WL.a (d:=13) rfl rfl rfl (q_m rfl) ?_
  refine WL.b (dd:=14) rfl rfl rfl (zk (l:=[.tmp 13]) Try.call28 (.cons rfl .nil)) (.nil : Sel [stb z6X 30 [(.int .i64 0),(.int .i64 0)]] [] [stb z6X 30 [(.int .i64 0),(.int .i64 0)]]) (fun w hw=>by have pz:=(hz.call hw (.nil : Sel [stb z6X 30 [(.int .i64 0),(.int .i64 0)]] [] [stb z6X 30 [(.int .i64 0),(.int .i64 0)]])); exact w_rat_size (Z:=_)  (z8a:=z6C) (r:=z6D) w pz  zsZ) ?_
  refine WL.a (d:=15) rfl rfl rfl (q_m rfl) ?_
  refine WL.b (dd:=16) rfl rfl rfl (zk (l:=[.tmp 15]) Try.call28 (.cons rfl .nil)) (.nil : Sel [stb z6X 30 [(.int .i64 0),(.int .i64 0)]] [] [stb z6X 30 [(.int .i64 0),(.int .i64 0)]]) (fun w hw=>by have pz:=(hz.call hw (.nil : Sel [stb z6X 30 [(.int .i64 0),(.int .i64 0)]] [] [stb z6X 30 [(.int .i64 0),(.int .i64 0)]])); exact w_rat_size (Z:=_)  (z8a:=z64) (r:=z6W) w pz  zt0) ?_
  refine WL.a (d:=6) rfl rfl rfl (q_z rfl) ?_
  refine WL.a (d:=7) rfl rfl rfl (q_z rfl) ?_
  refine WL.nil ?_
  refine WX.a ?_
  refine WC.b ?_
  obtain ⟨z3O,zt1,h⟩:=zd h
  refine WC.a ?_
  refine WL.a (d:=17) rfl rfl rfl (q_m rfl) ?_
  refine WL.a (d:=18) rfl rfl rfl (q_m rfl) ?_
  refine WL.b (dd:=19) rfl rfl rfl (zk (l:=[.tmp 17,.tmp 18]) Try.call29 (.cons rfl (.cons rfl .nil))) (.nil : Sel [stb z6X 30 [(.int .i64 0),(.int .i64 0)]] [] [stb z6X 30 [(.int .i64 0),(.int .i64 0)]]) (fun w hw=>by have pz:=(hz.call hw (.nil : Sel [stb z6X 30 [(.int .i64 0),(.int .i64 0)]] [] [stb z6X 30 [(.int .i64 0),(.int .i64 0)]])); exact w_rat_gcd_uint64 (Z:=_)  (z9H:=z6D) (z9I:=z6W) (r:=z3O) w pz  zt1) ?_
  refine WL.a (d:=8) rfl rfl rfl (q_z rfl) ?_
  refine WL.nil ?_
  refine WX.a ?_
  refine WC.b ?_
  obtain ⟨zop,h⟩:=chk_elim h
  refine WC.draw (fun i=>[].contains i) [] rfl ?_
  refine WD.a (i:=0) (d:=20) (by kernel_rfl) rfl (z6 (by kernel_rfl)) (z7 (by kernel_rfl)) rfl rfl rfl (fun _=>q_m rfl) ?_
  refine WD.a (i:=1) (d:=21) (by kernel_rfl) rfl (z6 (by kernel_rfl)) (z7 (by kernel_rfl)) rfl rfl rfl (fun _=>q_m rfl) ?_
  refine WD.a (i:=2) (d:=22) (by kernel_rfl) rfl (z6 (by kernel_rfl)) (z7 (by kernel_rfl)) rfl rfl rfl (fun _=>q_quo rfl rfl zop rfl) ?_
  refine WD.a (i:=3) (d:=23) (by kernel_rfl) rfl (z6 (by kernel_rfl)) (z7 (by kernel_rfl)) rfl rfl rfl (fun _=>q_m rfl) ?_
  refine WD.a (i:=4) (d:=24) (by kernel_rfl) rfl (z6 (by kernel_rfl)) (z7 (by kernel_rfl)) rfl rfl rfl (fun _=>q_m rfl) ?_
  refine WD.a (i:=5) (d:=25) (by kernel_rfl) rfl (z6 (by kernel_rfl)) (z7 (by kernel_rfl)) rfl rfl rfl (fun _=>q_quo rfl rfl zop rfl) ?_
  refine WD.a (i:=6) (d:=6) (by kernel_rfl) rfl (z6 (by kernel_rfl)) (z7 (by kernel_rfl)) rfl rfl rfl (fun _=>q_z rfl) ?_
  refine WD.a (i:=7) (d:=7) (by kernel_rfl) rfl (z6 (by kernel_rfl)) (z7 (by kernel_rfl)) rfl rfl rfl (fun _=>q_z rfl) ?_
  refine WD.done (by kernel_rfl) ?_
  refine WX.a ?_
  refine WC.b ?_
  refine WC.b ?_
  refine WC.a ?_
  refine WL.a (d:=26) rfl rfl rfl (q_m rfl) ?_
  refine WL.a (d:=27) rfl rfl rfl (q_gtr rfl rfl) ?_
  refine WL.a (d:=28) rfl rfl rfl (q_m rfl) ?_
  refine WL.cut0 True [(0,(.int .i64 z6C)),(1,(.int .i64 z64)),(4,(.pointer (some ⟨z6X,0,none⟩))),(6,(.int .u64 (u64 (Int.tdiv z6D z3O)))),(7,(.int .u64 (u64 (Int.tdiv z6W z3O)))),(31,(.bool ((decide ((u64 (Int.tdiv z6D z3O)) > 1073741824)) || (decide ((u64 (Int.tdiv z6W z3O)) > 1073741824)))))] [stb z6X 30 [(.int .i64 0),(.int .i64 0)]] 3 ?_ (fun _=>?_)
  ·rcases Bool.eq_false_or_eq_true (decide ((u64 (Int.tdiv z6D z3O)) > 1073741824)) with hb' | hb'
   ·have zoq:=hb'; clear hb'
    refine WL.pin (i:=28) rfl zoq ?_
    refine WL.e rfl rfl rfl ?_
    refine WL.e rfl rfl rfl ?_
    refine WL.a (d:=31) rfl rfl rfl (q_pickT rfl rfl) ?_
    exact WL.cutEnd () trivial (.cons rfl (.cons rfl (.cons rfl (.cons rfl (.cons rfl (.cons (zr (or_l zoq)) .nil)))))) (.cons .here .nil)
   ·have zor:=hb'; clear hb'
    refine WL.pin (i:=28) rfl zor ?_
    refine WL.a (d:=29) rfl rfl rfl (q_m rfl) ?_
    refine WL.a (d:=30) rfl rfl rfl (q_gtr rfl rfl) ?_
    refine WL.a (d:=31) rfl rfl rfl (q_pickF rfl rfl) ?_
    exact WL.cutEnd () trivial (.cons rfl (.cons rfl (.cons rfl (.cons rfl (.cons rfl (.cons (zr (or_r zor)) .nil)))))) (.cons .here .nil)
  ·skip
   refine WL.nil ?_
   refine WX.a ?_
   refine WC.cond rfl (fun zjz=>?_) (fun zjz=>?_)
   ·replace h:=ite_t h zjz
    refine WC.b ?_
    refine WC.a ?_
    refine WL.a (d:=32) rfl rfl rfl (q_build (v:=(.agg #[(.int .i64 0),(.int .i64 0)])) (Eos.parts (l:=[]) .nil []) (fun _=>by kernel_rfl)) ?_
    refine WL.eff0 rfl rfl (e_store (vs:=[(.int .i64 0),(.int .i64 0)]) (ds:=[(.int .i64 0),(.int .i64 0)]) sizT_30 rfl rfl rfl rfl (oc_cons rfl (oc_cons rfl oc_nil)) .here (Nat.le_of_ble_eq_true rfl) rfl) ?_
    refine WL.a (d:=5) rfl rfl rfl (q_z rfl) ?_
    refine WL.nil ?_
    refine WX.a ?_
    refine WC.ret ?_
    refine WX.thenRet ?_
    obtain rfl:=Option.some.inj h
    refine WX.bpRet Try.results9 (.agg rfl aggT_30 rfl (rd_all .here) (.tmp rfl .nil)) (fun w hw=>?_)
    exact ⟨ret2 rfl rfl,hw.sub .nil⟩
   ·replace h:=ite_f h zjz
    refine WC.skip ?_
    refine WX.a ?_
    refine WC.b ?_
    refine WC.a ?_
    refine WL.a (d:=33) rfl rfl rfl (q_m rfl) ?_
    refine WL.a (d:=34) rfl rfl rfl (q_conv Try.underlying71 Try.underlying3 rfl rfl) ?_
    refine WL.a (d:=35) rfl rfl rfl (q_m rfl) ?_
    refine WL.a (d:=36) rfl rfl rfl (q_conv Try.underlying71 Try.underlying3 rfl rfl) ?_
    refine WL.a (d:=37) rfl rfl rfl (q_build (v:=(.agg #[(.int .i64 (i64 (u64 (Int.tdiv z6D z3O)))),(.int .i64 (i64 (u64 (Int.tdiv z6W z3O))))])) (Eos.parts (l:=[.tmp 34,.tmp 36]) (.cons rfl (.cons rfl .nil)) [0,1]) (fun _=>by kernel_rfl)) ?_
    refine WL.new (dd:=9) rfl rfl rfl (e_alloc (cs:=[(.int .i64 0),(.int .i64 0)]) zeroT_30 rfl) ?_
    intro zos _
    refine WL.eff0 rfl rfl (e_store (vs:=[(.int .i64 (i64 (u64 (Int.tdiv z6D z3O)))),(.int .i64 (i64 (u64 (Int.tdiv z6W z3O))))]) (ds:=[(.int .i64 (i64 (u64 (Int.tdiv z6D z3O)))),(.int .i64 (i64 (u64 (Int.tdiv z6W z3O))))]) sizT_30 rfl rfl rfl rfl (oc_cons rfl (oc_cons rfl oc_nil)) .here (Nat.le_of_ble_eq_true rfl) rfl) ?_
    refine WL.nil ?_
    refine WX.a ?_
    obtain ⟨zgB,zt2,h⟩:=jp1_elim h
    refine WC.seqMid1 (fun (z8O : Int)=>(zgB z8O = some r)) (fun (z8O : Int)=>[(4,(.pointer (some ⟨z6X,0,none⟩))),(9,(.pointer (some ⟨zos,0,none⟩)))]) (fun (z8O : Int)=>[stb z6X 30 [(.int .i64 0),(.int .i64 0)],stb zos 30 [(.int .i64 z8O),(.int .i64 (i64 (u64 (Int.tdiv z6W z3O))))]]) ?_ ?_
    ·skip
     refine WC.b ?_
     refine WC.a ?_
     refine WL.a (d:=38) rfl rfl rfl (q_m rfl) ?_
     refine WL.a (d:=39) rfl rfl rfl (q_lss rfl rfl) ?_
     refine WL.a (d:=40) rfl rfl rfl (q_m rfl) ?_
     refine WL.a (d:=41) rfl rfl rfl (q_lss rfl rfl) ?_
     refine WL.a (d:=42) rfl rfl rfl (q_bneq Try.underlying4 rfl rfl) ?_
     refine WL.nil ?_
     refine WX.a ?_
     refine WC.cond rfl (fun zjA=>?_) (fun zjA=>?_)
     ·replace h:=ite_t h zjA
      refine WC.a ?_
      refine WL.a (d:=43) rfl rfl rfl (q_fieldAddr fo_30_0 rfl rfl) ?_
      refine WL.a (d:=44) rfl rfl rfl (q_load1 oneT_3 rfl (rd_stb .here rfl)) ?_
      refine WL.a (d:=45) rfl rfl rfl (q_neg rfl rfl) ?_
      refine WL.a (d:=46) rfl rfl rfl (q_fieldAddr fo_30_0 rfl rfl) ?_
      refine WL.eff0 rfl rfl (e_store (vs:=[(.int .i64 (i64 (0 - (i64 (u64 (Int.tdiv z6D z3O))))))]) (ds:=[(.int .i64 (i64 (0 - (i64 (u64 (Int.tdiv z6D z3O)))))),(.int .i64 (i64 (u64 (Int.tdiv z6W z3O))))]) sizT_3 rfl rfl rfl rfl (oc_cons rfl oc_nil) .here (Nat.le_of_ble_eq_true rfl) rfl) ?_
      refine WL.nil ?_
      exact WX.mid (G:=Int) (i64 (0 - (i64 (u64 (Int.tdiv z6D z3O))))) h (.cons rfl (.cons rfl .nil)) (.cons .h1 (.cons .here .nil))
     ·replace h:=ite_f h zjA
      refine WC.skip ?_
      exact WX.mid (G:=Int) (i64 (u64 (Int.tdiv z6D z3O))) h (.cons rfl (.cons rfl .nil)) (.cons .h1 (.cons .here .nil))
    ·rintro z8O h
     replace h:=(zt2 z8O).symm.trans h
     refine WC.b ?_
     refine WC.a ?_
     refine WL.a (d:=47) rfl rfl rfl (q_loadA (cs:=[(.int .i64 z8O),(.int .i64 (i64 (u64 (Int.tdiv z6W z3O))))]) aggT_30 rfl rfl (rd_all .h1)) ?_
     refine WL.eff0 rfl rfl (e_store (vs:=[(.int .i64 z8O),(.int .i64 (i64 (u64 (Int.tdiv z6W z3O))))]) (ds:=[(.int .i64 z8O),(.int .i64 (i64 (u64 (Int.tdiv z6W z3O))))]) sizT_30 rfl rfl rfl rfl (oc_cons rfl (oc_cons rfl oc_nil)) .here (Nat.le_of_ble_eq_true rfl) rfl) ?_
     refine WL.a (d:=5) rfl rfl rfl (q_z rfl) ?_
     refine WL.nil ?_
     refine WX.a ?_
     refine WC.ret ?_
     obtain rfl:=Option.some.inj h
     refine WX.bpRet Try.results9 (.agg rfl aggT_30 rfl (rd_all .here) (.tmp rfl .nil)) (fun w hw=>?_)
     exact ⟨ret2 rfl rfl,hw.sub .nil⟩
def m_rat_do (z15 : z2) (z16 : z2) : Option (z2 × Int) :=
 (m_rat_Valid z15).bind fun zgC=>(if !zgC then some true else (m_rat_Valid z16).bind fun zjB=>some (!zjB)).bind fun zeR=>if zeR then some ((⟨0,0⟩ : z2),2) else (m_rat_do_2 z15 z16).bind fun zdv=>(m_rat_Make zdv.1 zdv.2).bind fun zaW=>some (zaW.1,zaW.2)
set_option maxRecDepth 20000 in
theorem w_rat_do (Z : Zp)   (z15 : z2) (z16 : z2) (r : z2 × Int) (w₀ : World) (hz : PZ [] w₀ Z)
  (h : m_rat_do z15 z16 = some r) :
  Calls Try.prog 40 #[(.string ⟨#[45]⟩),(.agg #[(.int .i64 z15.fN),(.int .i64 z15.fD)]),(.agg #[(.int .i64 z16.fN),(.int .i64 z16.fD)])] w₀ fun e w'=>e = .returned (.tuple #[(.agg #[(.int .i64 r.1.fN),(.int .i64 r.1.fD)]),(.int .i64 r.2)]) ∧ Hp [] w₀ w' []:=by
 unfold m_rat_do at h
 refine Calls.ofWC (vs:=[(.string ⟨#[45]⟩),(.agg #[(.int .i64 z15.fN),(.int .i64 z15.fD)]),(.agg #[(.int .i64 z16.fN),(.int .i64 z16.fD)])]) (pre:=[]) (env:=[(0,(.string ⟨#[45]⟩)),(1,(.agg #[(.int .i64 z15.fN),(.int .i64 z15.fD)])),(2,(.agg #[(.int .i64 z16.fN),(.int .i64 z16.fD)]))]) Try.func40 rfl Try.ntmps40 rfl (Hp.nil w₀ _) rfl ?_
 refine WC.b ?_
 refine WC.a ?_
 refine WL.new (dd:=4) rfl rfl rfl (e_box (cs:=[(.int .i64 z15.fN),(.int .i64 z15.fD)]) rfl rfl) ?_
 intro zJ _
 refine WL.new (dd:=5) rfl rfl rfl (e_box (cs:=[(.int .i64 z16.fN),(.int .i64 z16.fD)]) rfl rfl) ?_
 intro zK _
 refine WL.new (dd:=6) rfl rfl rfl (e_alloc (cs:=[(.int .i64 0),(.int .i64 0)]) zeroT_30 rfl) ?_
 intro z4e _
 refine WL.a (d:=7) rfl rfl rfl (q_z rfl) ?_
 refine WL.nil ?_
 refine WX.a ?_
 refine WC.b ?_
 refine WC.b ?_
 obtain ⟨zgC,zt3,h⟩:=zd h
 obtain ⟨zeR,zot,h⟩:=zd h
 refine WC.a ?_
 refine WL.a (d:=9) rfl rfl rfl (q_loadA (cs:=[(.int .i64 z15.fN),(.int .i64 z15.fD)]) aggT_30 rfl rfl (rd_all .h2)) ?_
 refine WL.b (dd:=10) rfl rfl rfl (zk (l:=[.tmp 9]) Try.call39 (.cons rfl .nil)) (.nil : Sel [stb z4e 30 [(.int .i64 0),(.int .i64 0)],stb zK 30 [(.int .i64 z16.fN),(.int .i64 z16.fD)],stb zJ 30 [(.int .i64 z15.fN),(.int .i64 z15.fD)]] [] [stb z4e 30 [(.int .i64 0),(.int .i64 0)],stb zK 30 [(.int .i64 z16.fN),(.int .i64 z16.fD)],stb zJ 30 [(.int .i64 z15.fN),(.int .i64 z15.fD)]]) (fun w hw=>by have pz:=(hz.call hw (.nil : Sel [stb z4e 30 [(.int .i64 0),(.int .i64 0)],stb zK 30 [(.int .i64 z16.fN),(.int .i64 z16.fD)],stb zJ 30 [(.int .i64 z15.fN),(.int .i64 z15.fD)]] [] [stb z4e 30 [(.int .i64 0),(.int .i64 0)],stb zK 30 [(.int .i64 z16.fN),(.int .i64 z16.fD)],stb zJ 30 [(.int .i64 z15.fN),(.int .i64 z15.fD)]])); exact w_rat_Valid (Z:=_)  (z1f:=z15) (r:=zgC) w pz  zt3) ?_
 refine WL.a (d:=11) rfl rfl rfl (q_not rfl) ?_
 refine WL.a (d:=12) rfl rfl rfl (q_m rfl) ?_
 refine WL.cut0 True [(0,(.string ⟨#[45]⟩)),(4,(.pointer (some ⟨zJ,0,none⟩))),(5,(.pointer (some ⟨zK,0,none⟩))),(6,(.pointer (some ⟨z4e,0,none⟩))),(16,(.bool zeR))] [stb z4e 30 [(.int .i64 0),(.int .i64 0)],stb zK 30 [(.int .i64 z16.fN),(.int .i64 z16.fD)],stb zJ 30 [(.int .i64 z15.fN),(.int .i64 z15.fD)]] 4 ?_ (fun _=>?_)
 ·rcases Bool.eq_false_or_eq_true (!zgC) with hb' | hb'
  ·have zou:=hb'; clear hb'
   have zjC:=ite_t zot zou
   replace zjC:=Option.some.inj zjC
   refine WL.pin (i:=12) rfl zou ?_
   refine WL.e rfl rfl rfl ?_
   refine WL.e rfl rfl rfl ?_
   refine WL.e rfl rfl rfl ?_
   refine WL.a (d:=16) rfl rfl rfl (q_pickT rfl rfl) ?_
   exact WL.cutEnd () trivial (.cons rfl (.cons rfl (.cons rfl (.cons rfl (.cons (zr zjC) .nil))))) (.cons .here (.cons .here (.cons .here .nil)))
  ·have zov:=hb'; clear hb'
   have zeS:=ite_f zot zov
   obtain ⟨zjB,zt4,zeS⟩:=zd zeS
   replace zeS:=Option.some.inj zeS
   refine WL.pin (i:=12) rfl zov ?_
   refine WL.a (d:=13) rfl rfl rfl (q_loadA (cs:=[(.int .i64 z16.fN),(.int .i64 z16.fD)]) aggT_30 rfl rfl (rd_all .h1)) ?_
   refine WL.b (dd:=14) rfl rfl rfl (zk (l:=[.tmp 13]) Try.call39 (.cons rfl .nil)) (.nil : Sel [stb z4e 30 [(.int .i64 0),(.int .i64 0)],stb zK 30 [(.int .i64 z16.fN),(.int .i64 z16.fD)],stb zJ 30 [(.int .i64 z15.fN),(.int .i64 z15.fD)]] [] [stb z4e 30 [(.int .i64 0),(.int .i64 0)],stb zK 30 [(.int .i64 z16.fN),(.int .i64 z16.fD)],stb zJ 30 [(.int .i64 z15.fN),(.int .i64 z15.fD)]]) (fun w hw=>by have pz:=(hz.call hw (.nil : Sel [stb z4e 30 [(.int .i64 0),(.int .i64 0)],stb zK 30 [(.int .i64 z16.fN),(.int .i64 z16.fD)],stb zJ 30 [(.int .i64 z15.fN),(.int .i64 z15.fD)]] [] [stb z4e 30 [(.int .i64 0),(.int .i64 0)],stb zK 30 [(.int .i64 z16.fN),(.int .i64 z16.fD)],stb zJ 30 [(.int .i64 z15.fN),(.int .i64 z15.fD)]])); exact w_rat_Valid (Z:=_)  (z1f:=z16) (r:=zjB) w pz  zt4) ?_
   refine WL.a (d:=15) rfl rfl rfl (q_not rfl) ?_
   refine WL.a (d:=16) rfl rfl rfl (q_pickF rfl rfl) ?_
   exact WL.cutEnd () trivial (.cons rfl (.cons rfl (.cons rfl (.cons rfl (.cons (zr zeS) .nil))))) (.cons .here (.cons .here (.cons .here .nil)))
 ·skip
  refine WL.a (d:=17) rfl rfl rfl (q_m rfl) ?_
  refine WL.cut0 True [(0,(.string ⟨#[45]⟩)),(4,(.pointer (some ⟨zJ,0,none⟩))),(5,(.pointer (some ⟨zK,0,none⟩))),(6,(.pointer (some ⟨z4e,0,none⟩))),(25,(.bool zeR))] [stb z4e 30 [(.int .i64 0),(.int .i64 0)],stb zK 30 [(.int .i64 z16.fN),(.int .i64 z16.fD)],stb zJ 30 [(.int .i64 z15.fN),(.int .i64 z15.fD)]] 8 ?_ (fun _=>?_)
  ·rcases Bool.eq_false_or_eq_true zeR with hb' | hb'
   ·have zow:=hb'; clear hb'
    refine WL.pin (i:=17) rfl zow ?_
    refine WL.e rfl rfl rfl ?_
    refine WL.e rfl rfl rfl ?_
    refine WL.e rfl rfl rfl ?_
    refine WL.e rfl rfl rfl ?_
    refine WL.e rfl rfl rfl ?_
    refine WL.e rfl rfl rfl ?_
    refine WL.e rfl rfl rfl ?_
    refine WL.a (d:=25) rfl rfl rfl (q_pickT rfl rfl) ?_
    exact WL.cutEnd () trivial (.cons rfl (.cons rfl (.cons rfl (.cons rfl (.cons (zr (Eq.symm zow)) .nil))))) (.cons .here (.cons .here (.cons .here .nil)))
   ·have zox:=hb'; clear hb'
    refine WL.pin (i:=17) rfl zox ?_
    refine WL.a (d:=18) rfl rfl rfl (q_m rfl) ?_
    refine WL.a (d:=19) rfl rfl rfl (q_seqlC (r:=false) (by decide) rfl rfl) ?_
    refine WL.a (d:=20) rfl rfl rfl (q_m rfl) ?_
    refine WL.e rfl rfl rfl ?_
    refine WL.e rfl rfl rfl ?_
    refine WL.e rfl rfl rfl ?_
    refine WL.a (d:=24) rfl rfl rfl (q_pickF rfl rfl) ?_
    refine WL.a (d:=25) rfl rfl rfl (q_pickF rfl rfl) ?_
    exact WL.cutEnd () trivial (.cons rfl (.cons rfl (.cons rfl (.cons rfl (.cons (zr (Eq.symm zox)) .nil))))) (.cons .here (.cons .here (.cons .here .nil)))
  ·skip
   refine WL.nil ?_
   refine WX.a ?_
   refine WC.cond rfl (fun zjD=>?_) (fun zjD=>?_)
   ·replace h:=ite_t h zjD
    refine WC.b ?_
    refine WC.a ?_
    refine WL.a (d:=26) rfl rfl rfl (q_build (v:=(.agg #[(.int .i64 0),(.int .i64 0)])) (Eos.parts (l:=[]) .nil []) (fun _=>by kernel_rfl)) ?_
    refine WL.eff0 rfl rfl (e_store (vs:=[(.int .i64 0),(.int .i64 0)]) (ds:=[(.int .i64 0),(.int .i64 0)]) sizT_30 rfl rfl rfl rfl (oc_cons rfl (oc_cons rfl oc_nil)) .here (Nat.le_of_ble_eq_true rfl) rfl) ?_
    refine WL.a (d:=7) rfl rfl rfl (q_z rfl) ?_
    refine WL.nil ?_
    refine WX.a ?_
    refine WC.ret ?_
    refine WX.thenRet ?_
    obtain rfl:=Option.some.inj h
    refine WX.bpRet Try.results40 (.agg rfl aggT_30 rfl (rd_all .here) (.tmp rfl .nil)) (fun w hw=>?_)
    exact ⟨ret2 rfl rfl,hw.sub .nil⟩
   ·replace h:=ite_f h zjD
    refine WC.skip ?_
    refine WX.a ?_
    refine WC.b ?_
    refine WC.a ?_
    refine WL.new (dd:=27) rfl rfl rfl (e_makeMap Value.string (fun x=>x)) ?_
    intro z7w _
    refine WL.a (d:=28) rfl rfl rfl (q_makeFunc (Eos.caps (l:=[.tmp 4,.tmp 5]) (.cons rfl (.cons rfl .nil)))) ?_
    refine WL.eff0 rfl rfl (e_insert (k:=⟨#[43]⟩) (v:=(.func (.func 54) #[] #[(.pointer (some ⟨zJ,0,none⟩)),(.pointer (some ⟨zK,0,none⟩))])) keyT_9 Try.underlying105 rfl rfl rfl rfl .here) ?_
    refine WL.a (d:=29) rfl rfl rfl (q_makeFunc (Eos.caps (l:=[.tmp 4,.tmp 5]) (.cons rfl (.cons rfl .nil)))) ?_
    refine WL.eff0 rfl rfl (e_insert (k:=⟨#[45]⟩) (v:=(.func (.func 55) #[] #[(.pointer (some ⟨zJ,0,none⟩)),(.pointer (some ⟨zK,0,none⟩))])) keyT_9 Try.underlying105 rfl rfl rfl rfl .here) ?_
    refine WL.a (d:=30) rfl rfl rfl (q_makeFunc (Eos.caps (l:=[.tmp 4,.tmp 5]) (.cons rfl (.cons rfl .nil)))) ?_
    refine WL.eff0 rfl rfl (e_insert (k:=⟨#[42]⟩) (v:=(.func (.func 56) #[] #[(.pointer (some ⟨zJ,0,none⟩)),(.pointer (some ⟨zK,0,none⟩))])) keyT_9 Try.underlying105 rfl rfl rfl rfl .here) ?_
    refine WL.a (d:=31) rfl rfl rfl (q_makeFunc (Eos.caps (l:=[.tmp 4,.tmp 5]) (.cons rfl (.cons rfl .nil)))) ?_
    refine WL.eff0 rfl rfl (e_insert (k:=⟨#[47]⟩) (v:=(.func (.func 57) #[] #[(.pointer (some ⟨zJ,0,none⟩)),(.pointer (some ⟨zK,0,none⟩))])) keyT_9 Try.underlying105 rfl rfl rfl rfl .here) ?_
    refine WL.a (d:=32) rfl rfl rfl (q_m rfl) ?_
    refine WL.a (d:=8) rfl rfl rfl (q_z rfl) ?_
    refine WL.nil ?_
    refine WX.a ?_
    refine WC.b ?_
    obtain ⟨zdv,zt5,h⟩:=zd h
    obtain ⟨zaW,zt6,h⟩:=zd h
    refine WC.a ?_
    refine WL.a (d:=33) rfl rfl rfl (q_m rfl) ?_
    refine WL.a (d:=34) rfl rfl rfl (q_m rfl) ?_
    refine WL.a (d:=35) rfl rfl rfl (q_lookC (k:=⟨#[45]⟩) (dflt:=.nilFunc) (r:=(.func (.func 55) #[] #[(.pointer (some ⟨zJ,0,none⟩)),(.pointer (some ⟨zK,0,none⟩))])) keyT_9 Try.underlying105 zgh rfl rfl rfl .here (by rfl)) ?_
    refine WL.b (dd:=36) rfl rfl rfl (run_callv (l:=[]) Try.call55 rfl .nil) (.nil : Sel [mapA z7w Value.string (fun x=>x) [(⟨#[43]⟩,(.func (.func 54) #[] #[(.pointer (some ⟨zJ,0,none⟩)),(.pointer (some ⟨zK,0,none⟩))])),(⟨#[45]⟩,(.func (.func 55) #[] #[(.pointer (some ⟨zJ,0,none⟩)),(.pointer (some ⟨zK,0,none⟩))])),(⟨#[42]⟩,(.func (.func 56) #[] #[(.pointer (some ⟨zJ,0,none⟩)),(.pointer (some ⟨zK,0,none⟩))])),(⟨#[47]⟩,(.func (.func 57) #[] #[(.pointer (some ⟨zJ,0,none⟩)),(.pointer (some ⟨zK,0,none⟩))]))],stb z4e 30 [(.int .i64 0),(.int .i64 0)],stb zK 30 [(.int .i64 z16.fN),(.int .i64 z16.fD)],stb zJ 30 [(.int .i64 z15.fN),(.int .i64 z15.fD)]] [] [mapA z7w Value.string (fun x=>x) [(⟨#[43]⟩,(.func (.func 54) #[] #[(.pointer (some ⟨zJ,0,none⟩)),(.pointer (some ⟨zK,0,none⟩))])),(⟨#[45]⟩,(.func (.func 55) #[] #[(.pointer (some ⟨zJ,0,none⟩)),(.pointer (some ⟨zK,0,none⟩))])),(⟨#[42]⟩,(.func (.func 56) #[] #[(.pointer (some ⟨zJ,0,none⟩)),(.pointer (some ⟨zK,0,none⟩))])),(⟨#[47]⟩,(.func (.func 57) #[] #[(.pointer (some ⟨zJ,0,none⟩)),(.pointer (some ⟨zK,0,none⟩))]))],stb z4e 30 [(.int .i64 0),(.int .i64 0)],stb zK 30 [(.int .i64 z16.fN),(.int .i64 z16.fD)],stb zJ 30 [(.int .i64 z15.fN),(.int .i64 z15.fD)]]) (fun w hw=>by have pz:=(hz.call hw (.nil : Sel [mapA z7w Value.string (fun x=>x) [(⟨#[43]⟩,(.func (.func 54) #[] #[(.pointer (some ⟨zJ,0,none⟩)),(.pointer (some ⟨zK,0,none⟩))])),(⟨#[45]⟩,(.func (.func 55) #[] #[(.pointer (some ⟨zJ,0,none⟩)),(.pointer (some ⟨zK,0,none⟩))])),(⟨#[42]⟩,(.func (.func 56) #[] #[(.pointer (some ⟨zJ,0,none⟩)),(.pointer (some ⟨zK,0,none⟩))])),(⟨#[47]⟩,(.func (.func 57) #[] #[(.pointer (some ⟨zJ,0,none⟩)),(.pointer (some ⟨zK,0,none⟩))]))],stb z4e 30 [(.int .i64 0),(.int .i64 0)],stb zK 30 [(.int .i64 z16.fN),(.int .i64 z16.fD)],stb zJ 30 [(.int .i64 z15.fN),(.int .i64 z15.fD)]] [] [mapA z7w Value.string (fun x=>x) [(⟨#[43]⟩,(.func (.func 54) #[] #[(.pointer (some ⟨zJ,0,none⟩)),(.pointer (some ⟨zK,0,none⟩))])),(⟨#[45]⟩,(.func (.func 55) #[] #[(.pointer (some ⟨zJ,0,none⟩)),(.pointer (some ⟨zK,0,none⟩))])),(⟨#[42]⟩,(.func (.func 56) #[] #[(.pointer (some ⟨zJ,0,none⟩)),(.pointer (some ⟨zK,0,none⟩))])),(⟨#[47]⟩,(.func (.func 57) #[] #[(.pointer (some ⟨zJ,0,none⟩)),(.pointer (some ⟨zK,0,none⟩))]))],stb z4e 30 [(.int .i64 0),(.int .i64 0)],stb zK 30 [(.int .i64 z16.fN),(.int .i64 z16.fD)],stb zJ 30 [(.int .i64 z15.fN),(.int .i64 z15.fD)]])).lend hw (.nil : Sel [mapA z7w Value.string (fun x=>x) [(⟨#[43]⟩,(.func (.func 54) #[] #[(.pointer (some ⟨zJ,0,none⟩)),(.pointer (some ⟨zK,0,none⟩))])),(⟨#[45]⟩,(.func (.func 55) #[] #[(.pointer (some ⟨zJ,0,none⟩)),(.pointer (some ⟨zK,0,none⟩))])),(⟨#[42]⟩,(.func (.func 56) #[] #[(.pointer (some ⟨zJ,0,none⟩)),(.pointer (some ⟨zK,0,none⟩))])),(⟨#[47]⟩,(.func (.func 57) #[] #[(.pointer (some ⟨zJ,0,none⟩)),(.pointer (some ⟨zK,0,none⟩))]))],stb z4e 30 [(.int .i64 0),(.int .i64 0)],stb zK 30 [(.int .i64 z16.fN),(.int .i64 z16.fD)],stb zJ 30 [(.int .i64 z15.fN),(.int .i64 z15.fD)]] [] [mapA z7w Value.string (fun x=>x) [(⟨#[43]⟩,(.func (.func 54) #[] #[(.pointer (some ⟨zJ,0,none⟩)),(.pointer (some ⟨zK,0,none⟩))])),(⟨#[45]⟩,(.func (.func 55) #[] #[(.pointer (some ⟨zJ,0,none⟩)),(.pointer (some ⟨zK,0,none⟩))])),(⟨#[42]⟩,(.func (.func 56) #[] #[(.pointer (some ⟨zJ,0,none⟩)),(.pointer (some ⟨zK,0,none⟩))])),(⟨#[47]⟩,(.func (.func 57) #[] #[(.pointer (some ⟨zJ,0,none⟩)),(.pointer (some ⟨zK,0,none⟩))]))],stb z4e 30 [(.int .i64 0),(.int .i64 0)],stb zK 30 [(.int .i64 z16.fN),(.int .i64 z16.fD)],stb zJ 30 [(.int .i64 z15.fN),(.int .i64 z15.fD)]]) (B:=[stb zJ 30 [(.int .i64 z15.fN),(.int .i64 z15.fD)],stb zK 30 [(.int .i64 z16.fN),(.int .i64 z16.fD)]]) (fun _ hx'=>((.cons .h3 (.cons .h2 .nil)) : Sel _ [stb zJ 30 [(.int .i64 z15.fN),(.int .i64 z15.fD)],stb zK 30 [(.int .i64 z16.fN),(.int .i64 z16.fD)]] _).mem hx'); exact w_rat_do_2 (Z:=_) (zeP:=⟨zJ,0,none⟩) (zeQ:=⟨zK,0,none⟩) (zaU:=z15) (zaV:=z16) (r:=zdv) w pz ((hw.lent (.nil : Sel [mapA z7w Value.string (fun x=>x) [(⟨#[43]⟩,(.func (.func 54) #[] #[(.pointer (some ⟨zJ,0,none⟩)),(.pointer (some ⟨zK,0,none⟩))])),(⟨#[45]⟩,(.func (.func 55) #[] #[(.pointer (some ⟨zJ,0,none⟩)),(.pointer (some ⟨zK,0,none⟩))])),(⟨#[42]⟩,(.func (.func 56) #[] #[(.pointer (some ⟨zJ,0,none⟩)),(.pointer (some ⟨zK,0,none⟩))])),(⟨#[47]⟩,(.func (.func 57) #[] #[(.pointer (some ⟨zJ,0,none⟩)),(.pointer (some ⟨zK,0,none⟩))]))],stb z4e 30 [(.int .i64 0),(.int .i64 0)],stb zK 30 [(.int .i64 z16.fN),(.int .i64 z16.fD)],stb zJ 30 [(.int .i64 z15.fN),(.int .i64 z15.fD)]] [] [mapA z7w Value.string (fun x=>x) [(⟨#[43]⟩,(.func (.func 54) #[] #[(.pointer (some ⟨zJ,0,none⟩)),(.pointer (some ⟨zK,0,none⟩))])),(⟨#[45]⟩,(.func (.func 55) #[] #[(.pointer (some ⟨zJ,0,none⟩)),(.pointer (some ⟨zK,0,none⟩))])),(⟨#[42]⟩,(.func (.func 56) #[] #[(.pointer (some ⟨zJ,0,none⟩)),(.pointer (some ⟨zK,0,none⟩))])),(⟨#[47]⟩,(.func (.func 57) #[] #[(.pointer (some ⟨zJ,0,none⟩)),(.pointer (some ⟨zK,0,none⟩))]))],stb z4e 30 [(.int .i64 0),(.int .i64 0)],stb zK 30 [(.int .i64 z16.fN),(.int .i64 z16.fD)],stb zJ 30 [(.int .i64 z15.fN),(.int .i64 z15.fD)]]) (B:=[stb zJ 30 [(.int .i64 z15.fN),(.int .i64 z15.fD)],stb zK 30 [(.int .i64 z16.fN),(.int .i64 z16.fD)]]) (fun _ hx'=>((.cons .h3 (.cons .h2 .nil)) : Sel _ [stb zJ 30 [(.int .i64 z15.fN),(.int .i64 z15.fD)],stb zK 30 [(.int .i64 z16.fN),(.int .i64 z16.fD)]] _).mem hx') (.head _) _).stb) ((hw.lent (.nil : Sel [mapA z7w Value.string (fun x=>x) [(⟨#[43]⟩,(.func (.func 54) #[] #[(.pointer (some ⟨zJ,0,none⟩)),(.pointer (some ⟨zK,0,none⟩))])),(⟨#[45]⟩,(.func (.func 55) #[] #[(.pointer (some ⟨zJ,0,none⟩)),(.pointer (some ⟨zK,0,none⟩))])),(⟨#[42]⟩,(.func (.func 56) #[] #[(.pointer (some ⟨zJ,0,none⟩)),(.pointer (some ⟨zK,0,none⟩))])),(⟨#[47]⟩,(.func (.func 57) #[] #[(.pointer (some ⟨zJ,0,none⟩)),(.pointer (some ⟨zK,0,none⟩))]))],stb z4e 30 [(.int .i64 0),(.int .i64 0)],stb zK 30 [(.int .i64 z16.fN),(.int .i64 z16.fD)],stb zJ 30 [(.int .i64 z15.fN),(.int .i64 z15.fD)]] [] [mapA z7w Value.string (fun x=>x) [(⟨#[43]⟩,(.func (.func 54) #[] #[(.pointer (some ⟨zJ,0,none⟩)),(.pointer (some ⟨zK,0,none⟩))])),(⟨#[45]⟩,(.func (.func 55) #[] #[(.pointer (some ⟨zJ,0,none⟩)),(.pointer (some ⟨zK,0,none⟩))])),(⟨#[42]⟩,(.func (.func 56) #[] #[(.pointer (some ⟨zJ,0,none⟩)),(.pointer (some ⟨zK,0,none⟩))])),(⟨#[47]⟩,(.func (.func 57) #[] #[(.pointer (some ⟨zJ,0,none⟩)),(.pointer (some ⟨zK,0,none⟩))]))],stb z4e 30 [(.int .i64 0),(.int .i64 0)],stb zK 30 [(.int .i64 z16.fN),(.int .i64 z16.fD)],stb zJ 30 [(.int .i64 z15.fN),(.int .i64 z15.fD)]]) (B:=[stb zJ 30 [(.int .i64 z15.fN),(.int .i64 z15.fD)],stb zK 30 [(.int .i64 z16.fN),(.int .i64 z16.fD)]]) (fun _ hx'=>((.cons .h3 (.cons .h2 .nil)) : Sel _ [stb zJ 30 [(.int .i64 z15.fN),(.int .i64 z15.fD)],stb zK 30 [(.int .i64 z16.fN),(.int .i64 z16.fD)]] _).mem hx') (.tail _ (.head _)) _).stb) zt5) ?_
    refine WL.a (d:=37) rfl rfl rfl (q_extract rfl rfl) ?_
    refine WL.a (d:=38) rfl rfl rfl (q_extract rfl rfl) ?_
    refine WL.b (dd:=39) rfl rfl rfl (zk (l:=[.tmp 37,.tmp 38]) Try.call9 (.cons rfl (.cons rfl .nil))) (.nil : Sel [mapA z7w Value.string (fun x=>x) [(⟨#[43]⟩,(.func (.func 54) #[] #[(.pointer (some ⟨zJ,0,none⟩)),(.pointer (some ⟨zK,0,none⟩))])),(⟨#[45]⟩,(.func (.func 55) #[] #[(.pointer (some ⟨zJ,0,none⟩)),(.pointer (some ⟨zK,0,none⟩))])),(⟨#[42]⟩,(.func (.func 56) #[] #[(.pointer (some ⟨zJ,0,none⟩)),(.pointer (some ⟨zK,0,none⟩))])),(⟨#[47]⟩,(.func (.func 57) #[] #[(.pointer (some ⟨zJ,0,none⟩)),(.pointer (some ⟨zK,0,none⟩))]))],stb z4e 30 [(.int .i64 0),(.int .i64 0)],stb zK 30 [(.int .i64 z16.fN),(.int .i64 z16.fD)],stb zJ 30 [(.int .i64 z15.fN),(.int .i64 z15.fD)]] [] [mapA z7w Value.string (fun x=>x) [(⟨#[43]⟩,(.func (.func 54) #[] #[(.pointer (some ⟨zJ,0,none⟩)),(.pointer (some ⟨zK,0,none⟩))])),(⟨#[45]⟩,(.func (.func 55) #[] #[(.pointer (some ⟨zJ,0,none⟩)),(.pointer (some ⟨zK,0,none⟩))])),(⟨#[42]⟩,(.func (.func 56) #[] #[(.pointer (some ⟨zJ,0,none⟩)),(.pointer (some ⟨zK,0,none⟩))])),(⟨#[47]⟩,(.func (.func 57) #[] #[(.pointer (some ⟨zJ,0,none⟩)),(.pointer (some ⟨zK,0,none⟩))]))],stb z4e 30 [(.int .i64 0),(.int .i64 0)],stb zK 30 [(.int .i64 z16.fN),(.int .i64 z16.fD)],stb zJ 30 [(.int .i64 z15.fN),(.int .i64 z15.fD)]]) (fun w hw=>by have pz:=(hz.call hw (.nil : Sel [mapA z7w Value.string (fun x=>x) [(⟨#[43]⟩,(.func (.func 54) #[] #[(.pointer (some ⟨zJ,0,none⟩)),(.pointer (some ⟨zK,0,none⟩))])),(⟨#[45]⟩,(.func (.func 55) #[] #[(.pointer (some ⟨zJ,0,none⟩)),(.pointer (some ⟨zK,0,none⟩))])),(⟨#[42]⟩,(.func (.func 56) #[] #[(.pointer (some ⟨zJ,0,none⟩)),(.pointer (some ⟨zK,0,none⟩))])),(⟨#[47]⟩,(.func (.func 57) #[] #[(.pointer (some ⟨zJ,0,none⟩)),(.pointer (some ⟨zK,0,none⟩))]))],stb z4e 30 [(.int .i64 0),(.int .i64 0)],stb zK 30 [(.int .i64 z16.fN),(.int .i64 z16.fD)],stb zJ 30 [(.int .i64 z15.fN),(.int .i64 z15.fD)]] [] [mapA z7w Value.string (fun x=>x) [(⟨#[43]⟩,(.func (.func 54) #[] #[(.pointer (some ⟨zJ,0,none⟩)),(.pointer (some ⟨zK,0,none⟩))])),(⟨#[45]⟩,(.func (.func 55) #[] #[(.pointer (some ⟨zJ,0,none⟩)),(.pointer (some ⟨zK,0,none⟩))])),(⟨#[42]⟩,(.func (.func 56) #[] #[(.pointer (some ⟨zJ,0,none⟩)),(.pointer (some ⟨zK,0,none⟩))])),(⟨#[47]⟩,(.func (.func 57) #[] #[(.pointer (some ⟨zJ,0,none⟩)),(.pointer (some ⟨zK,0,none⟩))]))],stb z4e 30 [(.int .i64 0),(.int .i64 0)],stb zK 30 [(.int .i64 z16.fN),(.int .i64 z16.fD)],stb zJ 30 [(.int .i64 z15.fN),(.int .i64 z15.fD)]])); exact w_rat_Make (Z:=_)  (z6C:=zdv.1) (z64:=zdv.2) (r:=zaW) w pz  zt6) ?_
    refine WL.a (d:=40) rfl rfl rfl (q_extract rfl rfl) ?_
    refine WL.a (d:=41) rfl rfl rfl (q_extract rfl rfl) ?_
    refine WL.eff0 rfl rfl (e_store (vs:=[(.int .i64 zaW.1.fN),(.int .i64 zaW.1.fD)]) (ds:=[(.int .i64 zaW.1.fN),(.int .i64 zaW.1.fD)]) sizT_30 rfl rfl rfl rfl (oc_cons rfl (oc_cons rfl oc_nil)) .h1 (Nat.le_of_ble_eq_true rfl) rfl) ?_
    refine WL.a (d:=7) rfl rfl rfl (q_z rfl) ?_
    refine WL.nil ?_
    refine WX.a ?_
    refine WC.ret ?_
    obtain rfl:=Option.some.inj h
    refine WX.bpRet Try.results40 (.agg rfl aggT_30 rfl (rd_all .here) (.tmp rfl .nil)) (fun w hw=>?_)
    exact ⟨ret2 rfl rfl,hw.sub .nil⟩
def m_rat_Sub (z40 : z2) (z41 : z2) : Option (z2 × Int) :=
 (m_rat_do z40 z41).bind fun zaX=>some (zaX.1,zaX.2)
set_option maxRecDepth 20000 in
theorem w_rat_Sub (Z : Zp)   (z40 : z2) (z41 : z2) (r : z2 × Int) (w₀ : World) (hz : PZ [] w₀ Z)
  (h : m_rat_Sub z40 z41 = some r) :
  Calls Try.prog 24 #[(.agg #[(.int .i64 z40.fN),(.int .i64 z40.fD)]),(.agg #[(.int .i64 z41.fN),(.int .i64 z41.fD)])] w₀ fun e w'=>e = .returned (.tuple #[(.agg #[(.int .i64 r.1.fN),(.int .i64 r.1.fD)]),(.int .i64 r.2)]) ∧ Hp [] w₀ w' []:=by
 unfold m_rat_Sub at h
 refine Calls.ofWC (vs:=[(.agg #[(.int .i64 z40.fN),(.int .i64 z40.fD)]),(.agg #[(.int .i64 z41.fN),(.int .i64 z41.fD)])]) (pre:=[]) (env:=[(0,(.agg #[(.int .i64 z40.fN),(.int .i64 z40.fD)])),(1,(.agg #[(.int .i64 z41.fN),(.int .i64 z41.fD)]))]) Try.func24 rfl Try.ntmps24 rfl (Hp.nil w₀ _) rfl ?_
 refine WC.b ?_
 refine WC.a ?_
 refine WL.new (dd:=2) rfl rfl rfl (e_box (cs:=[(.int .i64 z40.fN),(.int .i64 z40.fD)]) rfl rfl) ?_
 intro zgD _
 refine WL.new (dd:=3) rfl rfl rfl (e_box (cs:=[(.int .i64 z41.fN),(.int .i64 z41.fD)]) rfl rfl) ?_
 intro zgE _
 refine WL.new (dd:=4) rfl rfl rfl (e_alloc (cs:=[(.int .i64 0),(.int .i64 0)]) zeroT_30 rfl) ?_
 intro zgF _
 refine WL.a (d:=5) rfl rfl rfl (q_z rfl) ?_
 refine WL.nil ?_
 refine WX.a ?_
 refine WC.b ?_
 obtain ⟨zaX,zt7,h⟩:=zd h
 refine WC.a ?_
 refine WL.a (d:=6) rfl rfl rfl (q_loadA (cs:=[(.int .i64 z40.fN),(.int .i64 z40.fD)]) aggT_30 rfl rfl (rd_all .h2)) ?_
 refine WL.a (d:=7) rfl rfl rfl (q_loadA (cs:=[(.int .i64 z41.fN),(.int .i64 z41.fD)]) aggT_30 rfl rfl (rd_all .h1)) ?_
 refine WL.b (dd:=8) rfl rfl rfl (zk (l:=[.const (.string ⟨#[45]⟩),.tmp 6,.tmp 7]) Try.call40 (.cons rfl (.cons rfl (.cons rfl .nil)))) (.nil : Sel [stb zgF 30 [(.int .i64 0),(.int .i64 0)],stb zgE 30 [(.int .i64 z41.fN),(.int .i64 z41.fD)],stb zgD 30 [(.int .i64 z40.fN),(.int .i64 z40.fD)]] [] [stb zgF 30 [(.int .i64 0),(.int .i64 0)],stb zgE 30 [(.int .i64 z41.fN),(.int .i64 z41.fD)],stb zgD 30 [(.int .i64 z40.fN),(.int .i64 z40.fD)]]) (fun w hw=>by have pz:=(hz.call hw (.nil : Sel [stb zgF 30 [(.int .i64 0),(.int .i64 0)],stb zgE 30 [(.int .i64 z41.fN),(.int .i64 z41.fD)],stb zgD 30 [(.int .i64 z40.fN),(.int .i64 z40.fD)]] [] [stb zgF 30 [(.int .i64 0),(.int .i64 0)],stb zgE 30 [(.int .i64 z41.fN),(.int .i64 z41.fD)],stb zgD 30 [(.int .i64 z40.fN),(.int .i64 z40.fD)]])); exact w_rat_do (Z:=_)  (z15:=z40) (z16:=z41) (r:=zaX) w pz  zt7) ?_
 refine WL.a (d:=9) rfl rfl rfl (q_extract rfl rfl) ?_
 refine WL.a (d:=10) rfl rfl rfl (q_extract rfl rfl) ?_
 refine WL.eff0 rfl rfl (e_store (vs:=[(.int .i64 zaX.1.fN),(.int .i64 zaX.1.fD)]) (ds:=[(.int .i64 zaX.1.fN),(.int .i64 zaX.1.fD)]) sizT_30 rfl rfl rfl rfl (oc_cons rfl (oc_cons rfl oc_nil)) .here (Nat.le_of_ble_eq_true rfl) rfl) ?_
 refine WL.a (d:=5) rfl rfl rfl (q_z rfl) ?_
 refine WL.nil ?_
 refine WX.a ?_
 refine WC.ret ?_
 obtain rfl:=Option.some.inj h
 refine WX.bpRet Try.results24 (.agg rfl aggT_30 rfl (rd_all .here) (.tmp rfl .nil)) (fun w hw=>?_)
 exact ⟨ret2 rfl rfl,hw.sub .nil⟩
def m_curve_calc_do (z7x : z2j) (za4 : z2 → z2 → Option (z2 × Int)) (z5H : z2) (z5I : z2) : Option (z2 × z2j) :=
 if decide (z7x.fE ≠ 0) then some ((⟨0,0⟩ : z2),z7x) else (za4 z5H z5I).bind fun z6Y=>some (z6Y.1,(⟨z6Y.2⟩ : z2j))
set_option maxRecDepth 20000 in
theorem w_curve_calc_do (Z : Zp)  (z7y : Nat) (z8d : FuncId) (z9i : List Value) (z7x : z2j) (za4 : z2 → z2 → Option (z2 × Int)) (z5H : z2) (z5I : z2) (r : z2 × z2j) (w₀ : World) (hz : PZ (fps [stb z7y 90 [(.int .i64 z7x.fE)]]) w₀ Z)
  (zt8 : ∀ args w,(callFunc z8d args).run Try.prog w = .ok (.enter z8d args) w)
  (zt9 : ∀ w : World,PZ [] w Z → ∀ (x0 : z2) (x1 : z2) (r : z2 × Int),za4 x0 x1 = some r → Calls Try.prog z8d (([(.agg #[(.int .i64 x0.fN),(.int .i64 x0.fD)]),(.agg #[(.int .i64 x1.fN),(.int .i64 x1.fD)])] : List Value) ++ z9i).toArray w fun e w'=>e = .returned (.tuple #[(.agg #[(.int .i64 r.1.fN),(.int .i64 r.1.fD)]),(.int .i64 r.2)]) ∧ Hp [] w w' [])
  (h : m_curve_calc_do z7x za4 z5H z5I = some r)
  (hown : Hp (fps [stb z7y 90 [(.int .i64 z7x.fE)]]) w₀ w₀ [stb z7y 90 [(.int .i64 z7x.fE)]]) :
  Calls Try.prog 58 #[(.pointer (some ⟨z7y,0,none⟩)),(.func (.func z8d) #[] (z9i).toArray),(.agg #[(.int .i64 z5H.fN),(.int .i64 z5H.fD)]),(.agg #[(.int .i64 z5I.fN),(.int .i64 z5I.fD)])] w₀ fun e w'=>e = .returned (.agg #[(.int .i64 r.1.fN),(.int .i64 r.1.fD)]) ∧ Hp (fps [stb z7y 90 [(.int .i64 z7x.fE)]]) w₀ w' [stb z7y 90 [(.int .i64 r.2.fE)]]:=by
 unfold m_curve_calc_do at h
 refine Calls.ofWC (vs:=[(.pointer (some ⟨z7y,0,none⟩)),(.func (.func z8d) #[] (z9i).toArray),(.agg #[(.int .i64 z5H.fN),(.int .i64 z5H.fD)]),(.agg #[(.int .i64 z5I.fN),(.int .i64 z5I.fD)])]) (pre:=[stb z7y 90 [(.int .i64 z7x.fE)]]) (env:=[(0,(.pointer (some ⟨z7y,0,none⟩))),(1,(.func (.func z8d) #[] (z9i).toArray)),(2,(.agg #[(.int .i64 z5H.fN),(.int .i64 z5H.fD)])),(3,(.agg #[(.int .i64 z5I.fN),(.int .i64 z5I.fD)]))]) Try.func58 rfl Try.ntmps58 rfl (hown) rfl ?_
 refine WC.b ?_
 refine WC.a ?_
 refine WL.new (dd:=6) rfl rfl rfl (e_box (cs:=[(.int .i64 z5H.fN),(.int .i64 z5H.fD)]) rfl rfl) ?_
 intro zzO _
 refine WL.new (dd:=7) rfl rfl rfl (e_box (cs:=[(.int .i64 z5I.fN),(.int .i64 z5I.fD)]) rfl rfl) ?_
 intro zzP _
 refine WL.new (dd:=8) rfl rfl rfl (e_alloc (cs:=[(.int .i64 0),(.int .i64 0)]) zeroT_30 rfl) ?_
 intro zzQ _
 refine WL.nil ?_
 refine WX.a ?_
 refine WC.b ?_
 refine WC.b ?_
 refine WC.a ?_
 refine WL.a (d:=11) rfl rfl rfl (q_m rfl) ?_
 refine WL.a (d:=12) rfl rfl rfl (q_nilCheck rfl) ?_
 refine WL.a (d:=13) rfl rfl rfl (q_fieldAddr fo_90_0 rfl rfl) ?_
 refine WL.a (d:=14) rfl rfl rfl (q_load1 oneT_31 rfl (rd_stb .h3 rfl)) ?_
 refine WL.a (d:=15) rfl rfl rfl (q_neq rfl rfl) ?_
 refine WL.nil ?_
 refine WX.a ?_
 refine WC.cond rfl (fun zjE=>?_) (fun zjE=>?_)
 ·replace h:=ite_t h zjE
  refine WC.b ?_
  refine WC.a ?_
  refine WL.a (d:=16) rfl rfl rfl (q_build (v:=(.agg #[(.int .i64 0),(.int .i64 0)])) (Eos.parts (l:=[]) .nil []) (fun _=>by kernel_rfl)) ?_
  refine WL.eff0 rfl rfl (e_store (vs:=[(.int .i64 0),(.int .i64 0)]) (ds:=[(.int .i64 0),(.int .i64 0)]) sizT_30 rfl rfl rfl rfl (oc_cons rfl (oc_cons rfl oc_nil)) .here (Nat.le_of_ble_eq_true rfl) rfl) ?_
  refine WL.nil ?_
  refine WX.a ?_
  refine WC.ret ?_
  refine WX.thenRet ?_
  obtain rfl:=Option.some.inj h
  refine WX.bpRet Try.results58 (.agg rfl aggT_30 rfl (rd_all .here) .nil) (fun w hw=>?_)
  exact ⟨ret1 rfl,hw.sub (.cons .h3 .nil)⟩
 ·replace h:=ite_f h zjE
  refine WC.skip ?_
  refine WX.a ?_
  refine WC.b ?_
  obtain ⟨z6Y,zta,h⟩:=zd h
  refine WC.a ?_
  refine WL.a (d:=18) rfl rfl rfl (q_m rfl) ?_
  refine WL.a (d:=19) rfl rfl rfl (q_loadA (cs:=[(.int .i64 z5H.fN),(.int .i64 z5H.fD)]) aggT_30 rfl rfl (rd_all .h2)) ?_
  refine WL.a (d:=20) rfl rfl rfl (q_loadA (cs:=[(.int .i64 z5I.fN),(.int .i64 z5I.fD)]) aggT_30 rfl rfl (rd_all .h1)) ?_
  refine WL.b (dd:=21) rfl rfl rfl (run_callv (l:=[.tmp 19,.tmp 20]) (f:=z8d) (caps:=z9i) zt8 rfl (.cons rfl (.cons rfl .nil))) .nil (fun w hw=>zt9 w (hz.now hw) z5H z5I z6Y  zta) ?_
  refine WL.a (d:=17) rfl rfl rfl (q_m rfl) ?_
  refine WL.a (d:=22) rfl rfl rfl (q_extract rfl rfl) ?_
  refine WL.a (d:=23) rfl rfl rfl (q_extract rfl rfl) ?_
  refine WL.new (dd:=9) rfl rfl rfl (e_alloc (cs:=[(.int .i64 0),(.int .i64 0)]) zeroT_30 rfl) ?_
  intro zzR _
  refine WL.eff0 rfl rfl (e_store (vs:=[(.int .i64 z6Y.1.fN),(.int .i64 z6Y.1.fD)]) (ds:=[(.int .i64 z6Y.1.fN),(.int .i64 z6Y.1.fD)]) sizT_30 rfl rfl rfl rfl (oc_cons rfl (oc_cons rfl oc_nil)) .here (Nat.le_of_ble_eq_true rfl) rfl) ?_
  refine WL.a (d:=10) rfl rfl rfl (q_z rfl) ?_
  refine WL.nil ?_
  refine WX.a ?_
  refine WC.b ?_
  refine WC.a ?_
  refine WL.a (d:=24) rfl rfl rfl (q_m rfl) ?_
  refine WL.a (d:=25) rfl rfl rfl (q_m rfl) ?_
  refine WL.a (d:=26) rfl rfl rfl (q_nilCheck rfl) ?_
  refine WL.a (d:=27) rfl rfl rfl (q_fieldAddr fo_90_0 rfl rfl) ?_
  refine WL.eff0 rfl rfl (e_store (vs:=[(.int .i64 z6Y.2)]) (ds:=[(.int .i64 z6Y.2)]) sizT_31 rfl rfl rfl rfl (oc_cons rfl oc_nil) .h4 (Nat.le_of_ble_eq_true rfl) rfl) ?_
  refine WL.nil ?_
  refine WX.a ?_
  refine WC.b ?_
  refine WC.a ?_
  refine WL.a (d:=28) rfl rfl rfl (q_loadA (cs:=[(.int .i64 z6Y.1.fN),(.int .i64 z6Y.1.fD)]) aggT_30 rfl rfl (rd_all .h1)) ?_
  refine WL.eff0 rfl rfl (e_store (vs:=[(.int .i64 z6Y.1.fN),(.int .i64 z6Y.1.fD)]) (ds:=[(.int .i64 z6Y.1.fN),(.int .i64 z6Y.1.fD)]) sizT_30 rfl rfl rfl rfl (oc_cons rfl (oc_cons rfl oc_nil)) .h2 (Nat.le_of_ble_eq_true rfl) rfl) ?_
  refine WL.nil ?_
  refine WX.a ?_
  refine WC.ret ?_
  obtain rfl:=Option.some.inj h
  refine WX.bpRet Try.results58 (.agg rfl aggT_30 rfl (rd_all .here) .nil) (fun w hw=>?_)
  exact ⟨ret1 rfl,hw.sub (.cons .h1 .nil)⟩
def m_rat_do_4 (zc8 : z2) (zc9 : z2) : Option (Int × Int) :=
 some ((i64 (zc8.fN * zc9.fD)),(i64 (zc8.fD * zc9.fN)))
set_option maxRecDepth 20000 in
theorem w_rat_do_4 (Z : Zp)  (zeT : Addr) (zeU : Addr) (zc8 : z2) (zc9 : z2) (r : Int × Int) (w₀ : World) (hz : PZ [] w₀ Z)
  (zoy : ZC Z zeT [(.int .i64 zc8.fN),(.int .i64 zc8.fD)])
  (zoz : ZC Z zeU [(.int .i64 zc9.fN),(.int .i64 zc9.fD)])
  (h : m_rat_do_4 zc8 zc9 = some r) :
  Calls Try.prog 57 #[(.pointer (some zeT)),(.pointer (some zeU))] w₀ fun e w'=>e = .returned (.tuple #[(.int .i64 r.1),(.int .i64 r.2)]) ∧ Hp [] w₀ w' []:=by
 unfold m_rat_do_4 at h
 refine Calls.ofWC (vs:=[(.pointer (some zeT)),(.pointer (some zeU))]) (pre:=[]) (env:=[(0,(.pointer (some zeT))),(1,(.pointer (some zeU)))]) Try.func57 rfl Try.ntmps57 rfl (Hp.nil w₀ _) rfl ?_
 refine WC.b ?_
 refine WC.a ?_
 refine WL.a (d:=2) rfl rfl rfl (q_z rfl) ?_
 refine WL.a (d:=3) rfl rfl rfl (q_z rfl) ?_
 refine WL.nil ?_
 refine WX.a ?_
 refine WC.b ?_
 refine WC.draw (fun i=>[].contains i) [] rfl ?_
 refine WD.a (i:=0) (d:=4) (by kernel_rfl) rfl (z6 (by kernel_rfl)) (z7 (by kernel_rfl)) rfl rfl rfl (fun _=>q_fieldAddr fo_30_0 rfl rfl) ?_
 refine WD.e (i:=1) (d:=5) (by kernel_rfl) rfl (z6 (by kernel_rfl)) (z7 (by kernel_rfl)) rfl rfl rfl (q_load1 oneT_3 rfl (rd_zAt hz.pv zoy rfl)) ?_
 refine WD.a (i:=2) (d:=6) (by kernel_rfl) rfl (z6 (by kernel_rfl)) (z7 (by kernel_rfl)) rfl rfl rfl (fun _=>q_fieldAddr fo_30_1 rfl rfl) ?_
 refine WD.e (i:=3) (d:=7) (by kernel_rfl) rfl (z6 (by kernel_rfl)) (z7 (by kernel_rfl)) rfl rfl rfl (q_load1 oneT_3 rfl (rd_zAt hz.pv zoz rfl)) ?_
 refine WD.a (i:=4) (d:=8) (by kernel_rfl) rfl (z6 (by kernel_rfl)) (z7 (by kernel_rfl)) rfl rfl rfl (fun _=>q_mul rfl rfl rfl) ?_
 refine WD.a (i:=5) (d:=9) (by kernel_rfl) rfl (z6 (by kernel_rfl)) (z7 (by kernel_rfl)) rfl rfl rfl (fun _=>q_fieldAddr fo_30_1 rfl rfl) ?_
 refine WD.e (i:=6) (d:=10) (by kernel_rfl) rfl (z6 (by kernel_rfl)) (z7 (by kernel_rfl)) rfl rfl rfl (q_load1 oneT_3 rfl (rd_zAt hz.pv zoy rfl)) ?_
 refine WD.a (i:=7) (d:=11) (by kernel_rfl) rfl (z6 (by kernel_rfl)) (z7 (by kernel_rfl)) rfl rfl rfl (fun _=>q_fieldAddr fo_30_0 rfl rfl) ?_
 refine WD.e (i:=8) (d:=12) (by kernel_rfl) rfl (z6 (by kernel_rfl)) (z7 (by kernel_rfl)) rfl rfl rfl (q_load1 oneT_3 rfl (rd_zAt hz.pv zoz rfl)) ?_
 refine WD.a (i:=9) (d:=13) (by kernel_rfl) rfl (z6 (by kernel_rfl)) (z7 (by kernel_rfl)) rfl rfl rfl (fun _=>q_mul rfl rfl rfl) ?_
 refine WD.a (i:=10) (d:=2) (by kernel_rfl) rfl (z6 (by kernel_rfl)) (z7 (by kernel_rfl)) rfl rfl rfl (fun _=>q_z rfl) ?_
 refine WD.a (i:=11) (d:=3) (by kernel_rfl) rfl (z6 (by kernel_rfl)) (z7 (by kernel_rfl)) rfl rfl rfl (fun _=>q_z rfl) ?_
 refine WD.done (by kernel_rfl) ?_
 refine WX.a ?_
 refine WC.ret ?_
 obtain rfl:=Option.some.inj h
 refine WX.bpRet Try.results57 (.tmp rfl (.tmp rfl .nil)) (fun w hw=>?_)
 exact ⟨ret2 rfl rfl,hw.sub .nil⟩
def m_rat_dob (z17 : z2) (z12 : z2) : Option (z2 × Int) :=
 (m_rat_Valid z17).bind fun zgG=>(if !zgG then some true else (m_rat_Valid z12).bind fun zjF=>some (!zjF)).bind fun zeV=>if zeV || (decide (z12.fN = 0)) then some ((⟨0,0⟩ : z2),2) else (m_rat_do_4 z17 z12).bind fun zdw=>(m_rat_Make zdw.1 zdw.2).bind fun zaY=>some (zaY.1,zaY.2)
set_option maxRecDepth 20000 in
theorem w_rat_dob (Z : Zp)   (z17 : z2) (z12 : z2) (r : z2 × Int) (w₀ : World) (hz : PZ [] w₀ Z)
  (h : m_rat_dob z17 z12 = some r) :
  Calls Try.prog 40 #[(.string ⟨#[47]⟩),(.agg #[(.int .i64 z17.fN),(.int .i64 z17.fD)]),(.agg #[(.int .i64 z12.fN),(.int .i64 z12.fD)])] w₀ fun e w'=>e = .returned (.tuple #[(.agg #[(.int .i64 r.1.fN),(.int .i64 r.1.fD)]),(.int .i64 r.2)]) ∧ Hp [] w₀ w' []:=by
 unfold m_rat_dob at h
 refine Calls.ofWC (vs:=[(.string ⟨#[47]⟩),(.agg #[(.int .i64 z17.fN),(.int .i64 z17.fD)]),(.agg #[(.int .i64 z12.fN),(.int .i64 z12.fD)])]) (pre:=[]) (env:=[(0,(.string ⟨#[47]⟩)),(1,(.agg #[(.int .i64 z17.fN),(.int .i64 z17.fD)])),(2,(.agg #[(.int .i64 z12.fN),(.int .i64 z12.fD)]))]) Try.func40 rfl Try.ntmps40 rfl (Hp.nil w₀ _) rfl ?_
 refine WC.b ?_
 refine WC.a ?_
 refine WL.new (dd:=4) rfl rfl rfl (e_box (cs:=[(.int .i64 z17.fN),(.int .i64 z17.fD)]) rfl rfl) ?_
 intro zL _
 refine WL.new (dd:=5) rfl rfl rfl (e_box (cs:=[(.int .i64 z12.fN),(.int .i64 z12.fD)]) rfl rfl) ?_
 intro zM _
 refine WL.new (dd:=6) rfl rfl rfl (e_alloc (cs:=[(.int .i64 0),(.int .i64 0)]) zeroT_30 rfl) ?_
 intro z4f _
 refine WL.a (d:=7) rfl rfl rfl (q_z rfl) ?_
 refine WL.nil ?_
 refine WX.a ?_
 refine WC.b ?_
 refine WC.b ?_
 obtain ⟨zgG,ztb,h⟩:=zd h
 obtain ⟨zeV,zoA,h⟩:=zd h
 refine WC.a ?_
 refine WL.a (d:=9) rfl rfl rfl (q_loadA (cs:=[(.int .i64 z17.fN),(.int .i64 z17.fD)]) aggT_30 rfl rfl (rd_all .h2)) ?_
 refine WL.b (dd:=10) rfl rfl rfl (zk (l:=[.tmp 9]) Try.call39 (.cons rfl .nil)) (.nil : Sel [stb z4f 30 [(.int .i64 0),(.int .i64 0)],stb zM 30 [(.int .i64 z12.fN),(.int .i64 z12.fD)],stb zL 30 [(.int .i64 z17.fN),(.int .i64 z17.fD)]] [] [stb z4f 30 [(.int .i64 0),(.int .i64 0)],stb zM 30 [(.int .i64 z12.fN),(.int .i64 z12.fD)],stb zL 30 [(.int .i64 z17.fN),(.int .i64 z17.fD)]]) (fun w hw=>by have pz:=(hz.call hw (.nil : Sel [stb z4f 30 [(.int .i64 0),(.int .i64 0)],stb zM 30 [(.int .i64 z12.fN),(.int .i64 z12.fD)],stb zL 30 [(.int .i64 z17.fN),(.int .i64 z17.fD)]] [] [stb z4f 30 [(.int .i64 0),(.int .i64 0)],stb zM 30 [(.int .i64 z12.fN),(.int .i64 z12.fD)],stb zL 30 [(.int .i64 z17.fN),(.int .i64 z17.fD)]])); exact w_rat_Valid (Z:=_)  (z1f:=z17) (r:=zgG) w pz  ztb) ?_
 refine WL.a (d:=11) rfl rfl rfl (q_not rfl) ?_
 refine WL.a (d:=12) rfl rfl rfl (q_m rfl) ?_
 refine WL.cut0 True [(0,(.string ⟨#[47]⟩)),(4,(.pointer (some ⟨zL,0,none⟩))),(5,(.pointer (some ⟨zM,0,none⟩))),(6,(.pointer (some ⟨z4f,0,none⟩))),(16,(.bool zeV))] [stb z4f 30 [(.int .i64 0),(.int .i64 0)],stb zM 30 [(.int .i64 z12.fN),(.int .i64 z12.fD)],stb zL 30 [(.int .i64 z17.fN),(.int .i64 z17.fD)]] 4 ?_ (fun _=>?_)
 ·rcases Bool.eq_false_or_eq_true (!zgG) with hb' | hb'
  ·have zoB:=hb'; clear hb'
   have zjG:=ite_t zoA zoB
   replace zjG:=Option.some.inj zjG
   refine WL.pin (i:=12) rfl zoB ?_
   refine WL.e rfl rfl rfl ?_
   refine WL.e rfl rfl rfl ?_
   refine WL.e rfl rfl rfl ?_
   refine WL.a (d:=16) rfl rfl rfl (q_pickT rfl rfl) ?_
   exact WL.cutEnd () trivial (.cons rfl (.cons rfl (.cons rfl (.cons rfl (.cons (zr zjG) .nil))))) (.cons .here (.cons .here (.cons .here .nil)))
  ·have zoC:=hb'; clear hb'
   have zeW:=ite_f zoA zoC
   obtain ⟨zjF,ztc,zeW⟩:=zd zeW
   replace zeW:=Option.some.inj zeW
   refine WL.pin (i:=12) rfl zoC ?_
   refine WL.a (d:=13) rfl rfl rfl (q_loadA (cs:=[(.int .i64 z12.fN),(.int .i64 z12.fD)]) aggT_30 rfl rfl (rd_all .h1)) ?_
   refine WL.b (dd:=14) rfl rfl rfl (zk (l:=[.tmp 13]) Try.call39 (.cons rfl .nil)) (.nil : Sel [stb z4f 30 [(.int .i64 0),(.int .i64 0)],stb zM 30 [(.int .i64 z12.fN),(.int .i64 z12.fD)],stb zL 30 [(.int .i64 z17.fN),(.int .i64 z17.fD)]] [] [stb z4f 30 [(.int .i64 0),(.int .i64 0)],stb zM 30 [(.int .i64 z12.fN),(.int .i64 z12.fD)],stb zL 30 [(.int .i64 z17.fN),(.int .i64 z17.fD)]]) (fun w hw=>by have pz:=(hz.call hw (.nil : Sel [stb z4f 30 [(.int .i64 0),(.int .i64 0)],stb zM 30 [(.int .i64 z12.fN),(.int .i64 z12.fD)],stb zL 30 [(.int .i64 z17.fN),(.int .i64 z17.fD)]] [] [stb z4f 30 [(.int .i64 0),(.int .i64 0)],stb zM 30 [(.int .i64 z12.fN),(.int .i64 z12.fD)],stb zL 30 [(.int .i64 z17.fN),(.int .i64 z17.fD)]])); exact w_rat_Valid (Z:=_)  (z1f:=z12) (r:=zjF) w pz  ztc) ?_
   refine WL.a (d:=15) rfl rfl rfl (q_not rfl) ?_
   refine WL.a (d:=16) rfl rfl rfl (q_pickF rfl rfl) ?_
   exact WL.cutEnd () trivial (.cons rfl (.cons rfl (.cons rfl (.cons rfl (.cons (zr zeW) .nil))))) (.cons .here (.cons .here (.cons .here .nil)))
 ·skip
  refine WL.a (d:=17) rfl rfl rfl (q_m rfl) ?_
  refine WL.cut0 True [(0,(.string ⟨#[47]⟩)),(4,(.pointer (some ⟨zL,0,none⟩))),(5,(.pointer (some ⟨zM,0,none⟩))),(6,(.pointer (some ⟨z4f,0,none⟩))),(25,(.bool (zeV || (decide (z12.fN = 0)))))] [stb z4f 30 [(.int .i64 0),(.int .i64 0)],stb zM 30 [(.int .i64 z12.fN),(.int .i64 z12.fD)],stb zL 30 [(.int .i64 z17.fN),(.int .i64 z17.fD)]] 8 ?_ (fun _=>?_)
  ·rcases Bool.eq_false_or_eq_true zeV with hb' | hb'
   ·have zoD:=hb'; clear hb'
    refine WL.pin (i:=17) rfl zoD ?_
    refine WL.e rfl rfl rfl ?_
    refine WL.e rfl rfl rfl ?_
    refine WL.e rfl rfl rfl ?_
    refine WL.e rfl rfl rfl ?_
    refine WL.e rfl rfl rfl ?_
    refine WL.e rfl rfl rfl ?_
    refine WL.e rfl rfl rfl ?_
    refine WL.a (d:=25) rfl rfl rfl (q_pickT rfl rfl) ?_
    exact WL.cutEnd () trivial (.cons rfl (.cons rfl (.cons rfl (.cons rfl (.cons (zr (or_l zoD)) .nil))))) (.cons .here (.cons .here (.cons .here .nil)))
   ·have zoE:=hb'; clear hb'
    refine WL.pin (i:=17) rfl zoE ?_
    refine WL.a (d:=18) rfl rfl rfl (q_m rfl) ?_
    refine WL.a (d:=19) rfl rfl rfl (q_seqlC (r:=true) (by decide) rfl rfl) ?_
    refine WL.a (d:=20) rfl rfl rfl (q_m rfl) ?_
    refine WL.a (d:=21) rfl rfl rfl (q_fieldAddr fo_30_0 rfl rfl) ?_
    refine WL.a (d:=22) rfl rfl rfl (q_load1 oneT_3 rfl (rd_stb .h1 rfl)) ?_
    refine WL.a (d:=23) rfl rfl rfl (q_eql rfl rfl) ?_
    refine WL.a (d:=24) rfl rfl rfl (q_pickT rfl rfl) ?_
    refine WL.a (d:=25) rfl rfl rfl (q_pickF rfl rfl) ?_
    exact WL.cutEnd () trivial (.cons rfl (.cons rfl (.cons rfl (.cons rfl (.cons (zr (or_r zoE)) .nil))))) (.cons .here (.cons .here (.cons .here .nil)))
  ·skip
   refine WL.nil ?_
   refine WX.a ?_
   refine WC.cond rfl (fun zjH=>?_) (fun zjH=>?_)
   ·replace h:=ite_t h zjH
    refine WC.b ?_
    refine WC.a ?_
    refine WL.a (d:=26) rfl rfl rfl (q_build (v:=(.agg #[(.int .i64 0),(.int .i64 0)])) (Eos.parts (l:=[]) .nil []) (fun _=>by kernel_rfl)) ?_
    refine WL.eff0 rfl rfl (e_store (vs:=[(.int .i64 0),(.int .i64 0)]) (ds:=[(.int .i64 0),(.int .i64 0)]) sizT_30 rfl rfl rfl rfl (oc_cons rfl (oc_cons rfl oc_nil)) .here (Nat.le_of_ble_eq_true rfl) rfl) ?_
    refine WL.a (d:=7) rfl rfl rfl (q_z rfl) ?_
    refine WL.nil ?_
    refine WX.a ?_
    refine WC.ret ?_
    refine WX.thenRet ?_
    obtain rfl:=Option.some.inj h
    refine WX.bpRet Try.results40 (.agg rfl aggT_30 rfl (rd_all .here) (.tmp rfl .nil)) (fun w hw=>?_)
    exact ⟨ret2 rfl rfl,hw.sub .nil⟩
   ·replace h:=ite_f h zjH
    refine WC.skip ?_
    refine WX.a ?_
    refine WC.b ?_
    refine WC.a ?_
    refine WL.new (dd:=27) rfl rfl rfl (e_makeMap Value.string (fun x=>x)) ?_
    intro z7z _
    refine WL.a (d:=28) rfl rfl rfl (q_makeFunc (Eos.caps (l:=[.tmp 4,.tmp 5]) (.cons rfl (.cons rfl .nil)))) ?_
    refine WL.eff0 rfl rfl (e_insert (k:=⟨#[43]⟩) (v:=(.func (.func 54) #[] #[(.pointer (some ⟨zL,0,none⟩)),(.pointer (some ⟨zM,0,none⟩))])) keyT_9 Try.underlying105 rfl rfl rfl rfl .here) ?_
    refine WL.a (d:=29) rfl rfl rfl (q_makeFunc (Eos.caps (l:=[.tmp 4,.tmp 5]) (.cons rfl (.cons rfl .nil)))) ?_
    refine WL.eff0 rfl rfl (e_insert (k:=⟨#[45]⟩) (v:=(.func (.func 55) #[] #[(.pointer (some ⟨zL,0,none⟩)),(.pointer (some ⟨zM,0,none⟩))])) keyT_9 Try.underlying105 rfl rfl rfl rfl .here) ?_
    refine WL.a (d:=30) rfl rfl rfl (q_makeFunc (Eos.caps (l:=[.tmp 4,.tmp 5]) (.cons rfl (.cons rfl .nil)))) ?_
    refine WL.eff0 rfl rfl (e_insert (k:=⟨#[42]⟩) (v:=(.func (.func 56) #[] #[(.pointer (some ⟨zL,0,none⟩)),(.pointer (some ⟨zM,0,none⟩))])) keyT_9 Try.underlying105 rfl rfl rfl rfl .here) ?_
    refine WL.a (d:=31) rfl rfl rfl (q_makeFunc (Eos.caps (l:=[.tmp 4,.tmp 5]) (.cons rfl (.cons rfl .nil)))) ?_
    refine WL.eff0 rfl rfl (e_insert (k:=⟨#[47]⟩) (v:=(.func (.func 57) #[] #[(.pointer (some ⟨zL,0,none⟩)),(.pointer (some ⟨zM,0,none⟩))])) keyT_9 Try.underlying105 rfl rfl rfl rfl .here) ?_
    refine WL.a (d:=32) rfl rfl rfl (q_m rfl) ?_
    refine WL.a (d:=8) rfl rfl rfl (q_z rfl) ?_
    refine WL.nil ?_
    refine WX.a ?_
    refine WC.b ?_
    obtain ⟨zdw,ztd,h⟩:=zd h
    obtain ⟨zaY,zte,h⟩:=zd h
    refine WC.a ?_
    refine WL.a (d:=33) rfl rfl rfl (q_m rfl) ?_
    refine WL.a (d:=34) rfl rfl rfl (q_m rfl) ?_
    refine WL.a (d:=35) rfl rfl rfl (q_lookC (k:=⟨#[47]⟩) (dflt:=.nilFunc) (r:=(.func (.func 57) #[] #[(.pointer (some ⟨zL,0,none⟩)),(.pointer (some ⟨zM,0,none⟩))])) keyT_9 Try.underlying105 zgh rfl rfl rfl .here (by rfl)) ?_
    refine WL.b (dd:=36) rfl rfl rfl (run_callv (l:=[]) Try.call57 rfl .nil) (.nil : Sel [mapA z7z Value.string (fun x=>x) [(⟨#[43]⟩,(.func (.func 54) #[] #[(.pointer (some ⟨zL,0,none⟩)),(.pointer (some ⟨zM,0,none⟩))])),(⟨#[45]⟩,(.func (.func 55) #[] #[(.pointer (some ⟨zL,0,none⟩)),(.pointer (some ⟨zM,0,none⟩))])),(⟨#[42]⟩,(.func (.func 56) #[] #[(.pointer (some ⟨zL,0,none⟩)),(.pointer (some ⟨zM,0,none⟩))])),(⟨#[47]⟩,(.func (.func 57) #[] #[(.pointer (some ⟨zL,0,none⟩)),(.pointer (some ⟨zM,0,none⟩))]))],stb z4f 30 [(.int .i64 0),(.int .i64 0)],stb zM 30 [(.int .i64 z12.fN),(.int .i64 z12.fD)],stb zL 30 [(.int .i64 z17.fN),(.int .i64 z17.fD)]] [] [mapA z7z Value.string (fun x=>x) [(⟨#[43]⟩,(.func (.func 54) #[] #[(.pointer (some ⟨zL,0,none⟩)),(.pointer (some ⟨zM,0,none⟩))])),(⟨#[45]⟩,(.func (.func 55) #[] #[(.pointer (some ⟨zL,0,none⟩)),(.pointer (some ⟨zM,0,none⟩))])),(⟨#[42]⟩,(.func (.func 56) #[] #[(.pointer (some ⟨zL,0,none⟩)),(.pointer (some ⟨zM,0,none⟩))])),(⟨#[47]⟩,(.func (.func 57) #[] #[(.pointer (some ⟨zL,0,none⟩)),(.pointer (some ⟨zM,0,none⟩))]))],stb z4f 30 [(.int .i64 0),(.int .i64 0)],stb zM 30 [(.int .i64 z12.fN),(.int .i64 z12.fD)],stb zL 30 [(.int .i64 z17.fN),(.int .i64 z17.fD)]]) (fun w hw=>by have pz:=(hz.call hw (.nil : Sel [mapA z7z Value.string (fun x=>x) [(⟨#[43]⟩,(.func (.func 54) #[] #[(.pointer (some ⟨zL,0,none⟩)),(.pointer (some ⟨zM,0,none⟩))])),(⟨#[45]⟩,(.func (.func 55) #[] #[(.pointer (some ⟨zL,0,none⟩)),(.pointer (some ⟨zM,0,none⟩))])),(⟨#[42]⟩,(.func (.func 56) #[] #[(.pointer (some ⟨zL,0,none⟩)),(.pointer (some ⟨zM,0,none⟩))])),(⟨#[47]⟩,(.func (.func 57) #[] #[(.pointer (some ⟨zL,0,none⟩)),(.pointer (some ⟨zM,0,none⟩))]))],stb z4f 30 [(.int .i64 0),(.int .i64 0)],stb zM 30 [(.int .i64 z12.fN),(.int .i64 z12.fD)],stb zL 30 [(.int .i64 z17.fN),(.int .i64 z17.fD)]] [] [mapA z7z Value.string (fun x=>x) [(⟨#[43]⟩,(.func (.func 54) #[] #[(.pointer (some ⟨zL,0,none⟩)),(.pointer (some ⟨zM,0,none⟩))])),(⟨#[45]⟩,(.func (.func 55) #[] #[(.pointer (some ⟨zL,0,none⟩)),(.pointer (some ⟨zM,0,none⟩))])),(⟨#[42]⟩,(.func (.func 56) #[] #[(.pointer (some ⟨zL,0,none⟩)),(.pointer (some ⟨zM,0,none⟩))])),(⟨#[47]⟩,(.func (.func 57) #[] #[(.pointer (some ⟨zL,0,none⟩)),(.pointer (some ⟨zM,0,none⟩))]))],stb z4f 30 [(.int .i64 0),(.int .i64 0)],stb zM 30 [(.int .i64 z12.fN),(.int .i64 z12.fD)],stb zL 30 [(.int .i64 z17.fN),(.int .i64 z17.fD)]])).lend hw (.nil : Sel [mapA z7z Value.string (fun x=>x) [(⟨#[43]⟩,(.func (.func 54) #[] #[(.pointer (some ⟨zL,0,none⟩)),(.pointer (some ⟨zM,0,none⟩))])),(⟨#[45]⟩,(.func (.func 55) #[] #[(.pointer (some ⟨zL,0,none⟩)),(.pointer (some ⟨zM,0,none⟩))])),(⟨#[42]⟩,(.func (.func 56) #[] #[(.pointer (some ⟨zL,0,none⟩)),(.pointer (some ⟨zM,0,none⟩))])),(⟨#[47]⟩,(.func (.func 57) #[] #[(.pointer (some ⟨zL,0,none⟩)),(.pointer (some ⟨zM,0,none⟩))]))],stb z4f 30 [(.int .i64 0),(.int .i64 0)],stb zM 30 [(.int .i64 z12.fN),(.int .i64 z12.fD)],stb zL 30 [(.int .i64 z17.fN),(.int .i64 z17.fD)]] [] [mapA z7z Value.string (fun x=>x) [(⟨#[43]⟩,(.func (.func 54) #[] #[(.pointer (some ⟨zL,0,none⟩)),(.pointer (some ⟨zM,0,none⟩))])),(⟨#[45]⟩,(.func (.func 55) #[] #[(.pointer (some ⟨zL,0,none⟩)),(.pointer (some ⟨zM,0,none⟩))])),(⟨#[42]⟩,(.func (.func 56) #[] #[(.pointer (some ⟨zL,0,none⟩)),(.pointer (some ⟨zM,0,none⟩))])),(⟨#[47]⟩,(.func (.func 57) #[] #[(.pointer (some ⟨zL,0,none⟩)),(.pointer (some ⟨zM,0,none⟩))]))],stb z4f 30 [(.int .i64 0),(.int .i64 0)],stb zM 30 [(.int .i64 z12.fN),(.int .i64 z12.fD)],stb zL 30 [(.int .i64 z17.fN),(.int .i64 z17.fD)]]) (B:=[stb zL 30 [(.int .i64 z17.fN),(.int .i64 z17.fD)],stb zM 30 [(.int .i64 z12.fN),(.int .i64 z12.fD)]]) (fun _ hx'=>((.cons .h3 (.cons .h2 .nil)) : Sel _ [stb zL 30 [(.int .i64 z17.fN),(.int .i64 z17.fD)],stb zM 30 [(.int .i64 z12.fN),(.int .i64 z12.fD)]] _).mem hx'); exact w_rat_do_4 (Z:=_) (zeT:=⟨zL,0,none⟩) (zeU:=⟨zM,0,none⟩) (zc8:=z17) (zc9:=z12) (r:=zdw) w pz ((hw.lent (.nil : Sel [mapA z7z Value.string (fun x=>x) [(⟨#[43]⟩,(.func (.func 54) #[] #[(.pointer (some ⟨zL,0,none⟩)),(.pointer (some ⟨zM,0,none⟩))])),(⟨#[45]⟩,(.func (.func 55) #[] #[(.pointer (some ⟨zL,0,none⟩)),(.pointer (some ⟨zM,0,none⟩))])),(⟨#[42]⟩,(.func (.func 56) #[] #[(.pointer (some ⟨zL,0,none⟩)),(.pointer (some ⟨zM,0,none⟩))])),(⟨#[47]⟩,(.func (.func 57) #[] #[(.pointer (some ⟨zL,0,none⟩)),(.pointer (some ⟨zM,0,none⟩))]))],stb z4f 30 [(.int .i64 0),(.int .i64 0)],stb zM 30 [(.int .i64 z12.fN),(.int .i64 z12.fD)],stb zL 30 [(.int .i64 z17.fN),(.int .i64 z17.fD)]] [] [mapA z7z Value.string (fun x=>x) [(⟨#[43]⟩,(.func (.func 54) #[] #[(.pointer (some ⟨zL,0,none⟩)),(.pointer (some ⟨zM,0,none⟩))])),(⟨#[45]⟩,(.func (.func 55) #[] #[(.pointer (some ⟨zL,0,none⟩)),(.pointer (some ⟨zM,0,none⟩))])),(⟨#[42]⟩,(.func (.func 56) #[] #[(.pointer (some ⟨zL,0,none⟩)),(.pointer (some ⟨zM,0,none⟩))])),(⟨#[47]⟩,(.func (.func 57) #[] #[(.pointer (some ⟨zL,0,none⟩)),(.pointer (some ⟨zM,0,none⟩))]))],stb z4f 30 [(.int .i64 0),(.int .i64 0)],stb zM 30 [(.int .i64 z12.fN),(.int .i64 z12.fD)],stb zL 30 [(.int .i64 z17.fN),(.int .i64 z17.fD)]]) (B:=[stb zL 30 [(.int .i64 z17.fN),(.int .i64 z17.fD)],stb zM 30 [(.int .i64 z12.fN),(.int .i64 z12.fD)]]) (fun _ hx'=>((.cons .h3 (.cons .h2 .nil)) : Sel _ [stb zL 30 [(.int .i64 z17.fN),(.int .i64 z17.fD)],stb zM 30 [(.int .i64 z12.fN),(.int .i64 z12.fD)]] _).mem hx') (.head _) _).stb) ((hw.lent (.nil : Sel [mapA z7z Value.string (fun x=>x) [(⟨#[43]⟩,(.func (.func 54) #[] #[(.pointer (some ⟨zL,0,none⟩)),(.pointer (some ⟨zM,0,none⟩))])),(⟨#[45]⟩,(.func (.func 55) #[] #[(.pointer (some ⟨zL,0,none⟩)),(.pointer (some ⟨zM,0,none⟩))])),(⟨#[42]⟩,(.func (.func 56) #[] #[(.pointer (some ⟨zL,0,none⟩)),(.pointer (some ⟨zM,0,none⟩))])),(⟨#[47]⟩,(.func (.func 57) #[] #[(.pointer (some ⟨zL,0,none⟩)),(.pointer (some ⟨zM,0,none⟩))]))],stb z4f 30 [(.int .i64 0),(.int .i64 0)],stb zM 30 [(.int .i64 z12.fN),(.int .i64 z12.fD)],stb zL 30 [(.int .i64 z17.fN),(.int .i64 z17.fD)]] [] [mapA z7z Value.string (fun x=>x) [(⟨#[43]⟩,(.func (.func 54) #[] #[(.pointer (some ⟨zL,0,none⟩)),(.pointer (some ⟨zM,0,none⟩))])),(⟨#[45]⟩,(.func (.func 55) #[] #[(.pointer (some ⟨zL,0,none⟩)),(.pointer (some ⟨zM,0,none⟩))])),(⟨#[42]⟩,(.func (.func 56) #[] #[(.pointer (some ⟨zL,0,none⟩)),(.pointer (some ⟨zM,0,none⟩))])),(⟨#[47]⟩,(.func (.func 57) #[] #[(.pointer (some ⟨zL,0,none⟩)),(.pointer (some ⟨zM,0,none⟩))]))],stb z4f 30 [(.int .i64 0),(.int .i64 0)],stb zM 30 [(.int .i64 z12.fN),(.int .i64 z12.fD)],stb zL 30 [(.int .i64 z17.fN),(.int .i64 z17.fD)]]) (B:=[stb zL 30 [(.int .i64 z17.fN),(.int .i64 z17.fD)],stb zM 30 [(.int .i64 z12.fN),(.int .i64 z12.fD)]]) (fun _ hx'=>((.cons .h3 (.cons .h2 .nil)) : Sel _ [stb zL 30 [(.int .i64 z17.fN),(.int .i64 z17.fD)],stb zM 30 [(.int .i64 z12.fN),(.int .i64 z12.fD)]] _).mem hx') (.tail _ (.head _)) _).stb) ztd) ?_
    refine WL.a (d:=37) rfl rfl rfl (q_extract rfl rfl) ?_
    refine WL.a (d:=38) rfl rfl rfl (q_extract rfl rfl) ?_
    refine WL.b (dd:=39) rfl rfl rfl (zk (l:=[.tmp 37,.tmp 38]) Try.call9 (.cons rfl (.cons rfl .nil))) (.nil : Sel [mapA z7z Value.string (fun x=>x) [(⟨#[43]⟩,(.func (.func 54) #[] #[(.pointer (some ⟨zL,0,none⟩)),(.pointer (some ⟨zM,0,none⟩))])),(⟨#[45]⟩,(.func (.func 55) #[] #[(.pointer (some ⟨zL,0,none⟩)),(.pointer (some ⟨zM,0,none⟩))])),(⟨#[42]⟩,(.func (.func 56) #[] #[(.pointer (some ⟨zL,0,none⟩)),(.pointer (some ⟨zM,0,none⟩))])),(⟨#[47]⟩,(.func (.func 57) #[] #[(.pointer (some ⟨zL,0,none⟩)),(.pointer (some ⟨zM,0,none⟩))]))],stb z4f 30 [(.int .i64 0),(.int .i64 0)],stb zM 30 [(.int .i64 z12.fN),(.int .i64 z12.fD)],stb zL 30 [(.int .i64 z17.fN),(.int .i64 z17.fD)]] [] [mapA z7z Value.string (fun x=>x) [(⟨#[43]⟩,(.func (.func 54) #[] #[(.pointer (some ⟨zL,0,none⟩)),(.pointer (some ⟨zM,0,none⟩))])),(⟨#[45]⟩,(.func (.func 55) #[] #[(.pointer (some ⟨zL,0,none⟩)),(.pointer (some ⟨zM,0,none⟩))])),(⟨#[42]⟩,(.func (.func 56) #[] #[(.pointer (some ⟨zL,0,none⟩)),(.pointer (some ⟨zM,0,none⟩))])),(⟨#[47]⟩,(.func (.func 57) #[] #[(.pointer (some ⟨zL,0,none⟩)),(.pointer (some ⟨zM,0,none⟩))]))],stb z4f 30 [(.int .i64 0),(.int .i64 0)],stb zM 30 [(.int .i64 z12.fN),(.int .i64 z12.fD)],stb zL 30 [(.int .i64 z17.fN),(.int .i64 z17.fD)]]) (fun w hw=>by have pz:=(hz.call hw (.nil : Sel [mapA z7z Value.string (fun x=>x) [(⟨#[43]⟩,(.func (.func 54) #[] #[(.pointer (some ⟨zL,0,none⟩)),(.pointer (some ⟨zM,0,none⟩))])),(⟨#[45]⟩,(.func (.func 55) #[] #[(.pointer (some ⟨zL,0,none⟩)),(.pointer (some ⟨zM,0,none⟩))])),(⟨#[42]⟩,(.func (.func 56) #[] #[(.pointer (some ⟨zL,0,none⟩)),(.pointer (some ⟨zM,0,none⟩))])),(⟨#[47]⟩,(.func (.func 57) #[] #[(.pointer (some ⟨zL,0,none⟩)),(.pointer (some ⟨zM,0,none⟩))]))],stb z4f 30 [(.int .i64 0),(.int .i64 0)],stb zM 30 [(.int .i64 z12.fN),(.int .i64 z12.fD)],stb zL 30 [(.int .i64 z17.fN),(.int .i64 z17.fD)]] [] [mapA z7z Value.string (fun x=>x) [(⟨#[43]⟩,(.func (.func 54) #[] #[(.pointer (some ⟨zL,0,none⟩)),(.pointer (some ⟨zM,0,none⟩))])),(⟨#[45]⟩,(.func (.func 55) #[] #[(.pointer (some ⟨zL,0,none⟩)),(.pointer (some ⟨zM,0,none⟩))])),(⟨#[42]⟩,(.func (.func 56) #[] #[(.pointer (some ⟨zL,0,none⟩)),(.pointer (some ⟨zM,0,none⟩))])),(⟨#[47]⟩,(.func (.func 57) #[] #[(.pointer (some ⟨zL,0,none⟩)),(.pointer (some ⟨zM,0,none⟩))]))],stb z4f 30 [(.int .i64 0),(.int .i64 0)],stb zM 30 [(.int .i64 z12.fN),(.int .i64 z12.fD)],stb zL 30 [(.int .i64 z17.fN),(.int .i64 z17.fD)]])); exact w_rat_Make (Z:=_)  (z6C:=zdw.1) (z64:=zdw.2) (r:=zaY) w pz  zte) ?_
    refine WL.a (d:=40) rfl rfl rfl (q_extract rfl rfl) ?_
    refine WL.a (d:=41) rfl rfl rfl (q_extract rfl rfl) ?_
    refine WL.eff0 rfl rfl (e_store (vs:=[(.int .i64 zaY.1.fN),(.int .i64 zaY.1.fD)]) (ds:=[(.int .i64 zaY.1.fN),(.int .i64 zaY.1.fD)]) sizT_30 rfl rfl rfl rfl (oc_cons rfl (oc_cons rfl oc_nil)) .h1 (Nat.le_of_ble_eq_true rfl) rfl) ?_
    refine WL.a (d:=7) rfl rfl rfl (q_z rfl) ?_
    refine WL.nil ?_
    refine WX.a ?_
    refine WC.ret ?_
    obtain rfl:=Option.some.inj h
    refine WX.bpRet Try.results40 (.agg rfl aggT_30 rfl (rd_all .here) (.tmp rfl .nil)) (fun w hw=>?_)
    exact ⟨ret2 rfl rfl,hw.sub .nil⟩
def m_rat_Div (z4B : z2) (z4C : z2) : Option (z2 × Int) :=
 (m_rat_dob z4B z4C).bind fun zaZ=>some (zaZ.1,zaZ.2)
set_option maxRecDepth 20000 in
theorem w_rat_Div (Z : Zp)   (z4B : z2) (z4C : z2) (r : z2 × Int) (w₀ : World) (hz : PZ [] w₀ Z)
  (h : m_rat_Div z4B z4C = some r) :
  Calls Try.prog 34 #[(.agg #[(.int .i64 z4B.fN),(.int .i64 z4B.fD)]),(.agg #[(.int .i64 z4C.fN),(.int .i64 z4C.fD)])] w₀ fun e w'=>e = .returned (.tuple #[(.agg #[(.int .i64 r.1.fN),(.int .i64 r.1.fD)]),(.int .i64 r.2)]) ∧ Hp [] w₀ w' []:=by
 unfold m_rat_Div at h
 refine Calls.ofWC (vs:=[(.agg #[(.int .i64 z4B.fN),(.int .i64 z4B.fD)]),(.agg #[(.int .i64 z4C.fN),(.int .i64 z4C.fD)])]) (pre:=[]) (env:=[(0,(.agg #[(.int .i64 z4B.fN),(.int .i64 z4B.fD)])),(1,(.agg #[(.int .i64 z4C.fN),(.int .i64 z4C.fD)]))]) Try.func34 rfl Try.ntmps34 rfl (Hp.nil w₀ _) rfl ?_
 refine WC.b ?_
 refine WC.a ?_
 refine WL.new (dd:=2) rfl rfl rfl (e_box (cs:=[(.int .i64 z4B.fN),(.int .i64 z4B.fD)]) rfl rfl) ?_
 intro zgH _
 refine WL.new (dd:=3) rfl rfl rfl (e_box (cs:=[(.int .i64 z4C.fN),(.int .i64 z4C.fD)]) rfl rfl) ?_
 intro zgI _
 refine WL.new (dd:=4) rfl rfl rfl (e_alloc (cs:=[(.int .i64 0),(.int .i64 0)]) zeroT_30 rfl) ?_
 intro zgJ _
 refine WL.a (d:=5) rfl rfl rfl (q_z rfl) ?_
 refine WL.nil ?_
 refine WX.a ?_
 refine WC.b ?_
 obtain ⟨zaZ,ztf,h⟩:=zd h
 refine WC.a ?_
 refine WL.a (d:=6) rfl rfl rfl (q_loadA (cs:=[(.int .i64 z4B.fN),(.int .i64 z4B.fD)]) aggT_30 rfl rfl (rd_all .h2)) ?_
 refine WL.a (d:=7) rfl rfl rfl (q_loadA (cs:=[(.int .i64 z4C.fN),(.int .i64 z4C.fD)]) aggT_30 rfl rfl (rd_all .h1)) ?_
 refine WL.b (dd:=8) rfl rfl rfl (zk (l:=[.const (.string ⟨#[47]⟩),.tmp 6,.tmp 7]) Try.call40 (.cons rfl (.cons rfl (.cons rfl .nil)))) (.nil : Sel [stb zgJ 30 [(.int .i64 0),(.int .i64 0)],stb zgI 30 [(.int .i64 z4C.fN),(.int .i64 z4C.fD)],stb zgH 30 [(.int .i64 z4B.fN),(.int .i64 z4B.fD)]] [] [stb zgJ 30 [(.int .i64 0),(.int .i64 0)],stb zgI 30 [(.int .i64 z4C.fN),(.int .i64 z4C.fD)],stb zgH 30 [(.int .i64 z4B.fN),(.int .i64 z4B.fD)]]) (fun w hw=>by have pz:=(hz.call hw (.nil : Sel [stb zgJ 30 [(.int .i64 0),(.int .i64 0)],stb zgI 30 [(.int .i64 z4C.fN),(.int .i64 z4C.fD)],stb zgH 30 [(.int .i64 z4B.fN),(.int .i64 z4B.fD)]] [] [stb zgJ 30 [(.int .i64 0),(.int .i64 0)],stb zgI 30 [(.int .i64 z4C.fN),(.int .i64 z4C.fD)],stb zgH 30 [(.int .i64 z4B.fN),(.int .i64 z4B.fD)]])); exact w_rat_dob (Z:=_)  (z17:=z4B) (z12:=z4C) (r:=zaZ) w pz  ztf) ?_
 refine WL.a (d:=9) rfl rfl rfl (q_extract rfl rfl) ?_
 refine WL.a (d:=10) rfl rfl rfl (q_extract rfl rfl) ?_
 refine WL.eff0 rfl rfl (e_store (vs:=[(.int .i64 zaZ.1.fN),(.int .i64 zaZ.1.fD)]) (ds:=[(.int .i64 zaZ.1.fN),(.int .i64 zaZ.1.fD)]) sizT_30 rfl rfl rfl rfl (oc_cons rfl (oc_cons rfl oc_nil)) .here (Nat.le_of_ble_eq_true rfl) rfl) ?_
 refine WL.a (d:=5) rfl rfl rfl (q_z rfl) ?_
 refine WL.nil ?_
 refine WX.a ?_
 refine WC.ret ?_
 obtain rfl:=Option.some.inj h
 refine WX.bpRet Try.results34 (.agg rfl aggT_30 rfl (rd_all .here) (.tmp rfl .nil)) (fun w hw=>?_)
 exact ⟨ret2 rfl rfl,hw.sub .nil⟩
theorem srtA_90 : ∀ w,(isAgg (Try.laysSlF014_f90_ren.t 24)).run Try.prog w = .ok true w:=fun _=>by kernel_rfl
theorem srtZ_90 : ∀ w,(Go.sizeOf (Try.laysSlF014_f90_ren.t 24)).run Try.prog w = .ok 2 w:=fun _=>by kernel_rfl
def m_slices_pdqsortCmpFunc_api_Rat (z6E : List z2) (zeX : Int) (zeY : Int) (zdx : Int) (zca : z2 → z2 → Option Int) : Option (List z2):=chk ((zeX = 0 ∧ zeY = ((z6E.length : Nat) : Int)) ∧ (0 ≤ zdx ∧ zdx < 4611686018427387904 ∧ z6E.length < 4611686018427387904)) (chk (ordB zca (sortBy zca z6E) = true) (some (sortBy zca z6E)))
theorem w_slices_pdqsortCmpFunc_api_Rat (Z : Zp) (zcb : Option Addr) (zcc : Nat) (zeZ : FuncId) (zjI : List Value) (z6E : List z2) (zeX : Int) (zeY : Int) (zdx : Int) (zca : z2 → z2 → Option Int) (r : List z2) (w₀ : World) (hz : PZ (fps [row (.slice zcb z6E.length zcc) 30 2 (z6E.flatMap e30)]) w₀ Z)
  (ztg : ∀ args w,(callFunc zeZ args).run Try.prog w = .ok (.enter zeZ args) w)
  (zth : ∀ w : World,PZ [] w Z → ∀ (x0 : z2) (x1 : z2) (r : Int),zca x0 x1 = some r → Calls Try.prog zeZ (([(.agg #[(.int .i64 x0.fN),(.int .i64 x0.fD)]),(.agg #[(.int .i64 x1.fN),(.int .i64 x1.fD)])] : List Value) ++ zjI).toArray w fun e w'=>e = .returned (.int .i64 r) ∧ Hp [] w w' [])
  (h : m_slices_pdqsortCmpFunc_api_Rat z6E zeX zeY zdx zca = some r) (hown : Hp (fps [row (.slice zcb z6E.length zcc) 30 2 (z6E.flatMap e30)]) w₀ w₀ [row (.slice zcb z6E.length zcc) 30 2 (z6E.flatMap e30)]) :
  Calls Try.prog 90 #[(.slice zcb z6E.length zcc),(.int .i64 zeX),(.int .i64 zeY),(.int .i64 zdx),(.func (.func zeZ) #[] (zjI).toArray)] w₀ fun e w'=>e = .returned (.tuple #[]) ∧ (r.length = z6E.length) ∧ Hp (fps [row (.slice zcb z6E.length zcc) 30 2 (z6E.flatMap e30)]) w₀ w' [row (.slice zcb r.length zcc) 30 2 (r.flatMap e30)]:=by
 obtain ⟨h0,h⟩:=chk_elim h
 obtain ⟨h1,h⟩:=chk_elim h
 have hr:=(Option.some.inj h).symm
 exact sort_func (P:=Try.prog) (f:=90) (e:=30) (k:=2) (enc:=e30) (fun _=>rfl) (by decide) e30_oc (fun β _ enc cf g cb hO blk off cap d0 w0 eg hC R=>Try.pdqsortCmpFunc_all_f90 2 srtA_90 srtZ_90 enc cf g cb hO blk off cap d0 w0 eg hC R) (Try.pdqsortCmpFunc_none_f90 (α:=Unit)) hz ztg zth h0 h1 hr hown
def m_slices_SortFunc_api_Rat_api_Rat (z2t : List z2) (zdy : z2 → z2 → Option Int) : Option (List z2) :=
 (m_bits_Len (u64 ((z2t.length : Nat) : Int))).bind fun zgK=>(m_slices_pdqsortCmpFunc_api_Rat z2t 0 ((z2t.length : Nat) : Int) zgK zdy).bind fun zgL=>some zgL
set_option maxRecDepth 20000 in
theorem w_slices_SortFunc_api_Rat_api_Rat (Z : Zp)  (z56 : Option Addr) (z57 : Nat) (zb0 : FuncId) (zdz : List Value) (z2t : List z2) (zdy : z2 → z2 → Option Int) (r : List z2) (w₀ : World) (hz : PZ (fps [row (.slice z56 z2t.length z57) 30 2 (z2t.flatMap e30)]) w₀ Z)
  (zti : ∀ args w,(callFunc zb0 args).run Try.prog w = .ok (.enter zb0 args) w)
  (ztj : ∀ w : World,PZ [] w Z → ∀ (x0 : z2) (x1 : z2) (r : Int),zdy x0 x1 = some r → Calls Try.prog zb0 (([(.agg #[(.int .i64 x0.fN),(.int .i64 x0.fD)]),(.agg #[(.int .i64 x1.fN),(.int .i64 x1.fD)])] : List Value) ++ zdz).toArray w fun e w'=>e = .returned (.int .i64 r) ∧ Hp [] w w' [])
  (h : m_slices_SortFunc_api_Rat_api_Rat z2t zdy = some r)
  (hown : Hp (fps [row (.slice z56 z2t.length z57) 30 2 (z2t.flatMap e30)]) w₀ w₀ [row (.slice z56 z2t.length z57) 30 2 (z2t.flatMap e30)]) :
  Calls Try.prog 77 #[(.slice z56 z2t.length z57),(.func (.func zb0) #[] (zdz).toArray)] w₀ fun e w'=>e = .returned (.tuple #[]) ∧ (r.length = z2t.length) ∧ Hp (fps [row (.slice z56 z2t.length z57) 30 2 (z2t.flatMap e30)]) w₀ w' [row (.slice z56 r.length z57) 30 2 (r.flatMap e30)]:=by
 unfold m_slices_SortFunc_api_Rat_api_Rat at h
 refine Calls.ofWC (vs:=[(.slice z56 z2t.length z57),(.func (.func zb0) #[] (zdz).toArray)]) (pre:=[row (.slice z56 z2t.length z57) 30 2 (z2t.flatMap e30)]) (env:=[(0,(.slice z56 z2t.length z57)),(1,(.func (.func zb0) #[] (zdz).toArray))]) Try.func77 rfl Try.ntmps77 rfl (hown) rfl ?_
 refine WC.b ?_
 refine WC.a ?_
 refine WL.a (d:=5) rfl rfl rfl (q_m rfl) ?_
 refine WL.a (d:=6) rfl rfl rfl (q_len Try.underlying77 rfl) ?_
 refine WL.a (d:=4) rfl rfl rfl (q_z rfl) ?_
 refine WL.nil ?_
 refine WX.a ?_
 obtain ⟨zgK,ztk,h⟩:=zd h
 obtain ⟨zgL,ztl,h⟩:=zd h
 refine WC.a ?_
 refine WL.a (d:=7) rfl rfl rfl (q_m rfl) ?_
 refine WL.a (d:=8) rfl rfl rfl (q_m rfl) ?_
 refine WL.a (d:=9) rfl rfl rfl (q_m rfl) ?_
 refine WL.a (d:=10) rfl rfl rfl (q_conv Try.underlying3 Try.underlying120 rfl rfl) ?_
 refine WL.b (dd:=11) rfl rfl rfl (zk (l:=[.tmp 10]) Try.call74 (.cons rfl .nil)) (.nil : Sel [row (.slice z56 z2t.length z57) 30 2 (z2t.flatMap e30)] [] [row (.slice z56 z2t.length z57) 30 2 (z2t.flatMap e30)]) (fun w hw=>by have pz:=(hz.call hw (.nil : Sel [row (.slice z56 z2t.length z57) 30 2 (z2t.flatMap e30)] [] [row (.slice z56 z2t.length z57) 30 2 (z2t.flatMap e30)])); exact w_bits_Len (Z:=_)  (z9U:=(u64 ((z2t.length : Nat) : Int))) (r:=zgK) w pz  ztk) ?_
 refine WL.a (d:=12) rfl rfl rfl (q_m rfl) ?_
 refine WL.enter0 (dd:=13) rfl rfl rfl (zk (l:=[.tmp 7,.const (.int .i64 0),.tmp 8,.tmp 11,.tmp 12]) Try.call90 (.cons rfl (.cons rfl (.cons rfl (.cons rfl (.cons rfl .nil)))))) ((.cons .here .nil) : Sel [row (.slice z56 z2t.length z57) 30 2 (z2t.flatMap e30)] [row (.slice z56 z2t.length z57) 30 2 (z2t.flatMap e30)] []) (fun w hw=>by have pz:=(hz.call hw ((.cons .here .nil) : Sel [row (.slice z56 z2t.length z57) 30 2 (z2t.flatMap e30)] [row (.slice z56 z2t.length z57) 30 2 (z2t.flatMap e30)] [])); exact w_slices_pdqsortCmpFunc_api_Rat (Z:=_) (zcb:=z56) (zcc:=z57) (zeZ:=zb0) (zjI:=zdz) (z6E:=z2t) (zeX:=0) (zeY:=((z2t.length : Nat) : Int)) (zdx:=zgK) (zca:=zdy) (r:=zgL) w pz zti ztj ztl (hw.owns ((.cons .here .nil) : Sel [row (.slice z56 z2t.length z57) 30 2 (z2t.flatMap e30)] [row (.slice z56 z2t.length z57) 30 2 (z2t.flatMap e30)] []))) ?_
 rintro  zoF
 refine WL.repin (i:=0) rfl (u:=(.slice z56 zgL.length z57)) (slen zoF.symm) ?_
 refine WL.nil ?_
 obtain rfl:=Option.some.inj h
 refine WX.bpNormal Try.results77 .nil (fun w hw=>?_)
 exact ⟨ret0,(zoF.trans rfl),hw.sub (.cons .here .nil)⟩
def m_slices_Compact_api_Rat_api_Rat_L4 (z1v : List z2) (zW : Int) (za5 : (List z2) → Int → Option (List z2)) : Nat → (List z2) → Int → Int → Option (List z2)
 | 0,_,_,_=>none
 | zjJ + 1,z26,z58,k2_14502=>if decide (k2_14502 < ((z1v.length - (zW : Int).toNat : Nat) : Int)) then jp2 (fun (z8e : List z2) (za6 : Int)=>m_slices_Compact_api_Rat_api_Rat_L4 z1v zW za5 zjJ z8e za6 (i64 (k2_14502 + 1))) fun zgM=>chk ((0 : Int) ≤ k2_14502 ∧ k2_14502 < ((z1v.length - (zW : Int).toNat : Nat) : Int)) (chk ((0 : Int) ≤ (i64 (k2_14502 - 1)) ∧ (i64 (k2_14502 - 1)) < ((z1v.length - (zW : Int).toNat : Nat) : Int)) (if decide ((⟨((nth z26 (zW + k2_14502)).fN),((nth z26 (zW + k2_14502)).fD)⟩ : z2) ≠ (⟨((nth z26 (zW + (i64 (k2_14502 - 1)))).fN),((nth z26 (zW + (i64 (k2_14502 - 1)))).fD)⟩ : z2)) then chk ((0 : Int) ≤ k2_14502 ∧ k2_14502 < ((z1v.length - (zW : Int).toNat : Nat) : Int)) (chk ((0 : Int) ≤ z58 ∧ z58 < ((z26.length : Nat) : Int)) (zgM (z26.set (z58 : Int).toNat (⟨((nth z26 (zW + k2_14502)).fN),((nth z26 (zW + k2_14502)).fD)⟩ : z2)) (i64 (z58 + 1)))) else zgM z26 z58)) else za5 z26 z58
theorem m_slices_Compact_api_Rat_api_Rat_L4_fuel {n : Nat} {z1v : List z2} {zW : Int} {za5 : (List z2) → Int → Option (List z2)} {z26 : List z2} {z58 : Int} {k2_14502 : Int} {r : List z2} (h : m_slices_Compact_api_Rat_api_Rat_L4 z1v zW za5 n z26 z58 k2_14502 = some r) : ∃ m,n = m + 1:=by
 cases n with
 | zero=>cases h
 | succ m=>exact ⟨m,rfl⟩
def m_slices_Compact_api_Rat_api_Rat_L3 (z1v : List z2) (za7 : Option (List z2)) : Nat → Int → Option (List z2)
 | 0,_=>none
 | zjK + 1,zW=>if decide (zW < ((z1v.length : Nat) : Int)) then jp0 (m_slices_Compact_api_Rat_api_Rat_L3 z1v za7 zjK (i64 (zW + 1))) fun zjL=>chk ((0 : Int) ≤ zW ∧ zW < ((z1v.length : Nat) : Int)) (chk ((0 : Int) ≤ (i64 (zW - 1)) ∧ (i64 (zW - 1)) < ((z1v.length : Nat) : Int)) (if decide ((⟨((nth z1v zW).fN),((nth z1v zW).fD)⟩ : z2) = (⟨((nth z1v (i64 (zW - 1))).fN),((nth z1v (i64 (zW - 1))).fD)⟩ : z2)) then chk ((0 : Int) ≤ zW ∧ zW < ((z1v.length : Nat) : Int)) (jp2 (fun (z59 : List z2) (z5a : Int)=>chk ((0 : Int) ≤ z5a ∧ z5a ≤ ((z59.length : Nat) : Int)) (chk ((0 : Int) ≤ z5a ∧ z5a ≤ (((z59.take (z5a : Int).toNat ++ List.replicate (z59.length - (z5a : Int).toNat) ((⟨0,0⟩ : z2) : z2)).length : Nat) : Int)) (some ((z59.take (z5a : Int).toNat ++ List.replicate (z59.length - (z5a : Int).toNat) ((⟨0,0⟩ : z2) : z2)).take (z5a : Int).toNat)))) fun za5=>m_slices_Compact_api_Rat_api_Rat_L4 z1v zW za5 FUEL z1v zW 1) else zjL)) else za7
theorem m_slices_Compact_api_Rat_api_Rat_L3_fuel {n : Nat} {z1v : List z2} {za7 : Option (List z2)} {zW : Int} {r : List z2} (h : m_slices_Compact_api_Rat_api_Rat_L3 z1v za7 n zW = some r) : ∃ m,n = m + 1:=by
 cases n with
 | zero=>cases h
 | succ m=>exact ⟨m,rfl⟩
def m_slices_Compact_api_Rat_api_Rat (z1v : List z2) : Option (List z2) :=
 if decide (((z1v.length : Nat) : Int) < 2) then some z1v else jp0 (some z1v) fun za7=>m_slices_Compact_api_Rat_api_Rat_L3 z1v za7 FUEL 1
set_option maxRecDepth 20000 in
theorem w_slices_Compact_api_Rat_api_Rat (Z : Zp)  (z8P : Option Addr) (z8Q : Nat) (z1v : List z2) (r : List z2) (w₀ : World) (hz : PZ (fps [row (.slice z8P z1v.length z8Q) 30 2 (z1v.flatMap e30)]) w₀ Z)
  (h : m_slices_Compact_api_Rat_api_Rat z1v = some r)
  (hown : Hp (fps [row (.slice z8P z1v.length z8Q) 30 2 (z1v.flatMap e30)]) w₀ w₀ [row (.slice z8P z1v.length z8Q) 30 2 (z1v.flatMap e30)]) :
  Calls Try.prog 78 #[(.slice z8P z1v.length z8Q)] w₀ fun e w'=>∃ zoG : Option Addr,∃ zoH : Nat,e = .returned (.slice zoG r.length zoH) ∧ True ∧ Hp (fps [row (.slice z8P z1v.length z8Q) 30 2 (z1v.flatMap e30)]) w₀ w' [row (.slice zoG r.length zoH) 30 2 (r.flatMap e30)]:=by
 unfold m_slices_Compact_api_Rat_api_Rat at h
 refine Calls.ofWC (vs:=[(.slice z8P z1v.length z8Q)]) (pre:=[row (.slice z8P z1v.length z8Q) 30 2 (z1v.flatMap e30)]) (env:=[(0,(.slice z8P z1v.length z8Q))]) Try.func78 rfl Try.ntmps78 rfl (hown) rfl ?_
 refine WC.b ?_
 refine WC.a ?_
 refine WL.a (d:=2) rfl rfl rfl (q_z rfl) ?_
 refine WL.nil ?_
 refine WX.a ?_
 refine WC.b ?_
 refine WC.b ?_
 refine WC.a ?_
 refine WL.a (d:=6) rfl rfl rfl (q_m rfl) ?_
 refine WL.a (d:=7) rfl rfl rfl (q_len Try.underlying77 rfl) ?_
 refine WL.a (d:=8) rfl rfl rfl (q_lss rfl rfl) ?_
 refine WL.nil ?_
 refine WX.a ?_
 refine WC.cond rfl (fun zjM=>?_) (fun zjM=>?_)
 ·replace h:=ite_t h zjM
  refine WC.b ?_
  refine WC.a ?_
  refine WL.a (d:=9) rfl rfl rfl (q_m rfl) ?_
  refine WL.a (d:=2) rfl rfl rfl (q_z rfl) ?_
  refine WL.nil ?_
  refine WX.a ?_
  refine WC.ret ?_
  refine WX.thenRet ?_
  obtain rfl:=Option.some.inj h
  refine WX.bpRet Try.results78 (.tmp rfl .nil) (fun w hw=>?_)
  exact ⟨z8P,z8Q,ret1 rfl,trivial,hw.sub (.cons .here .nil)⟩
 ·replace h:=ite_f h zjM
  refine WC.skip ?_
  refine WX.a ?_
  obtain ⟨za7,ztm,h⟩:=jp0_elim h
  refine WC.seqMid2 (fun (zdA : Option Addr) (zdB : Nat)=>(za7 = some r)) (fun (zdA : Option Addr) (zdB : Nat)=>[(0,(.slice zdA z1v.length zdB))]) (fun (zdA : Option Addr) (zdB : Nat)=>[row (.slice zdA z1v.length zdB) 30 2 (z1v.flatMap e30)]) ?_ ?_
  ·skip
   refine WC.b ?_
   refine WC.a ?_
   refine WL.a (d:=3) rfl rfl rfl (q_z rfl) ?_
   refine WL.nil ?_
   refine WX.a ?_
   refine WC.block ?_
   refine WC.loop4 (fun (zdC : Nat) (zW : Int) (zcd : Option Addr) (z5v : Nat)=>(m_slices_Compact_api_Rat_api_Rat_L3 z1v za7 zdC zW = some r)) (fun (zdC : Nat) (zW : Int) (zcd : Option Addr) (z5v : Nat)=>[(0,(.slice zcd z1v.length z5v)),(3,(.int .i64 zW))]) (fun (zdC : Nat) (zW : Int) (zcd : Option Addr) (z5v : Nat)=>[row (.slice zcd z1v.length z5v) 30 2 (z1v.flatMap e30)]) (fun (zdC : Nat) (zW : Int) (zcd : Option Addr) (z5v : Nat)=>zdC) ⟨FUEL,1,z8P,z8Q⟩ h (.cons rfl (.cons rfl .nil)) (.cons .here .nil) ?_
   rintro zdC zW zcd z5v h
   obtain ⟨zjK,rfl⟩:=m_slices_Compact_api_Rat_api_Rat_L3_fuel h
   rw [m_slices_Compact_api_Rat_api_Rat_L3] at h
   refine WC.b ?_
   refine WC.b ?_
   refine WC.a ?_
   refine WL.a (d:=10) rfl rfl rfl (q_m rfl) ?_
   refine WL.a (d:=11) rfl rfl rfl (q_m rfl) ?_
   refine WL.a (d:=12) rfl rfl rfl (q_len Try.underlying77 rfl) ?_
   refine WL.a (d:=13) rfl rfl rfl (q_lss rfl rfl) ?_
   refine WL.nil ?_
   refine WX.a ?_
   refine WC.cond rfl (fun zjN=>?_) (fun zjN=>?_)
   ·replace h:=ite_t h zjN
    refine WC.skip ?_
    refine WX.a ?_
    obtain ⟨zjL,ztn,h⟩:=jp0_elim h
    refine WC.seqMid2 (fun (zdD : Option Addr) (zdE : Nat)=>(zjL = some r)) (fun (zdD : Option Addr) (zdE : Nat)=>[(0,(.slice zdD z1v.length zdE)),(3,(.int .i64 zW))]) (fun (zdD : Option Addr) (zdE : Nat)=>[row (.slice zdD z1v.length zdE) 30 2 (z1v.flatMap e30)]) ?_ ?_
    ·skip
     refine WC.block ?_
     refine WC.b ?_
     obtain ⟨zf0,h⟩:=chk_elim h
     obtain ⟨zgN,h⟩:=chk_elim h
     refine WC.draw (fun i=>[].contains i) [] rfl ?_
     refine WD.a (i:=0) (d:=16) (by kernel_rfl) rfl (z6 (by kernel_rfl)) (z7 (by kernel_rfl)) rfl rfl rfl (fun _=>q_m rfl) ?_
     refine WD.a (i:=1) (d:=17) (by kernel_rfl) rfl (z6 (by kernel_rfl)) (z7 (by kernel_rfl)) rfl rfl rfl (fun _=>q_m rfl) ?_
     refine WD.know (fun w hw=>Hp.expose .here hw (by intro hz'; have:=zf0; rw [hz'] at this; omega)) ?_
     rintro ⟨z7U,rfl⟩
     refine WD.a (i:=2) (d:=18) (by kernel_rfl) rfl (z6 (by kernel_rfl)) (z7 (by kernel_rfl)) rfl rfl rfl (fun _=>q_indexAddr elT_77 rfl rfl zf0.1 zf0.2 rowAdd) ?_
     refine WD.e (i:=3) (d:=19) (by kernel_rfl) rfl (z6 (by kernel_rfl)) (z7 (by kernel_rfl)) rfl rfl rfl (q_loadA (cs:=(e30 (nth z1v zW))) aggT_30 rfl rfl (rd_rows .here (flat_rd (enc:=e30) (l:=z1v) (i:=zW) (sz:=2) (fun _=>rfl) zf0.1 zf0.2))) ?_
     refine WD.a (i:=4) (d:=20) (by kernel_rfl) rfl (z6 (by kernel_rfl)) (z7 (by kernel_rfl)) rfl rfl rfl (fun _=>q_m rfl) ?_
     refine WD.a (i:=5) (d:=21) (by kernel_rfl) rfl (z6 (by kernel_rfl)) (z7 (by kernel_rfl)) rfl rfl rfl (fun _=>q_m rfl) ?_
     refine WD.a (i:=6) (d:=22) (by kernel_rfl) rfl (z6 (by kernel_rfl)) (z7 (by kernel_rfl)) rfl rfl rfl (fun _=>q_sub rfl rfl rfl) ?_
     refine WD.a (i:=7) (d:=23) (by kernel_rfl) rfl (z6 (by kernel_rfl)) (z7 (by kernel_rfl)) rfl rfl rfl (fun _=>q_indexAddr elT_77 rfl rfl zgN.1 zgN.2 rowAdd) ?_
     refine WD.e (i:=8) (d:=24) (by kernel_rfl) rfl (z6 (by kernel_rfl)) (z7 (by kernel_rfl)) rfl rfl rfl (q_loadA (cs:=(e30 (nth z1v (i64 (zW - 1))))) aggT_30 rfl rfl (rd_rows .here (flat_rd (enc:=e30) (l:=z1v) (i:=i64 (zW - 1)) (sz:=2) (fun _=>rfl) zgN.1 zgN.2))) ?_
     refine WD.a (i:=9) (d:=25) (by kernel_rfl) rfl (z6 (by kernel_rfl)) (z7 (by kernel_rfl)) rfl rfl rfl (fun _=>q_aggeql (enc:=e30) (a:=(⟨((nth z1v zW).fN),((nth z1v zW).fD)⟩ : z2)) (b:=(⟨((nth z1v (i64 (zW - 1))).fN),((nth z1v (i64 (zW - 1))).fD)⟩ : z2)) eqT_30 rfl rfl) ?_
     refine WD.done (by kernel_rfl) ?_
     refine WX.a ?_
     refine WC.cond rfl (fun zjO=>?_) (fun zjO=>?_)
     ·replace h:=ite_t h zjO
      refine WC.b ?_
      obtain ⟨zce,h⟩:=chk_elim h
      refine WC.a ?_
      refine WL.a (d:=26) rfl rfl rfl (q_m rfl) ?_
      refine WL.a (d:=27) rfl rfl rfl (q_m rfl) ?_
      refine WL.rowLoX (dd:=28) rfl rfl elT_77 rfl rfl .here zce ?_
      refine WL.a (d:=4) rfl rfl rfl (q_z rfl) ?_
      refine WL.nil ?_
      refine WX.a ?_
      obtain ⟨za5,zto,h⟩:=jp2_elim h
      refine WC.seqMid2 (fun (z59 : List z2) (z5a : Int)=>(za5 z59 z5a = some r) ∧ (z59.length = z1v.length)) (fun (z59 : List z2) (z5a : Int)=>[(0,(.slice (some ⟨z7U,0,none⟩) z59.length z5v)),(3,(.int .i64 z5a))]) (fun (z59 : List z2) (z5a : Int)=>[row (.slice (some ⟨z7U,0,none⟩) z59.length z5v) 30 2 (z59.flatMap e30)]) ?_ ?_
      ·skip
       refine WC.b ?_
       refine WC.a ?_
       refine WL.a (d:=5) rfl rfl rfl (q_z rfl) ?_
       refine WL.nil ?_
       refine WX.a ?_
       refine WC.block ?_
       refine WC.loop4 (fun (zdF : Nat) (z26 : List z2) (z58 : Int) (k2_14502 : Int)=>(m_slices_Compact_api_Rat_api_Rat_L4 z1v zW za5 zdF z26 z58 k2_14502 = some r) ∧ (z26.length = z1v.length)) (fun (zdF : Nat) (z26 : List z2) (z58 : Int) (k2_14502 : Int)=>[(0,(.slice (some ⟨z7U,0,none⟩) z26.length z5v)),(3,(.int .i64 z58)),(4,(.slice (some ⟨z7U,(zW : Int).toNat * 2,none⟩) (z1v.length - (zW : Int).toNat) (z5v - (zW : Int).toNat))),(5,(.int .i64 k2_14502))]) (fun (zdF : Nat) (z26 : List z2) (z58 : Int) (k2_14502 : Int)=>[row (.slice (some ⟨z7U,0,none⟩) z26.length z5v) 30 2 (z26.flatMap e30)]) (fun (zdF : Nat) (z26 : List z2) (z58 : Int) (k2_14502 : Int)=>zdF) ⟨FUEL,z1v,zW,1⟩ ⟨h,rfl⟩ (.cons rfl (.cons rfl (.cons rfl (.cons rfl .nil)))) (.cons .here .nil) ?_
       rintro zdF z26 z58 k2_14502 ⟨h,zdG⟩
       obtain ⟨zjJ,rfl⟩:=m_slices_Compact_api_Rat_api_Rat_L4_fuel h
       rw [m_slices_Compact_api_Rat_api_Rat_L4] at h
       refine WC.b ?_
       refine WC.b ?_
       refine WC.a ?_
       refine WL.a (d:=29) rfl rfl rfl (q_m rfl) ?_
       refine WL.a (d:=30) rfl rfl rfl (q_m rfl) ?_
       refine WL.a (d:=31) rfl rfl rfl (q_len Try.underlying77 rfl) ?_
       refine WL.a (d:=32) rfl rfl rfl (q_lss rfl rfl) ?_
       refine WL.nil ?_
       refine WX.a ?_
       refine WC.cond rfl (fun zjP=>?_) (fun zjP=>?_)
       ·replace h:=ite_t h zjP
        refine WC.skip ?_
        refine WX.a ?_
        obtain ⟨zgM,ztp,h⟩:=jp2_elim h
        refine WC.seqMid2 (fun (z8e : List z2) (za6 : Int)=>(zgM z8e za6 = some r) ∧ (z8e.length = z1v.length)) (fun (z8e : List z2) (za6 : Int)=>[(0,(.slice (some ⟨z7U,0,none⟩) z8e.length z5v)),(3,(.int .i64 za6)),(4,(.slice (some ⟨z7U,(zW : Int).toNat * 2,none⟩) (z1v.length - (zW : Int).toNat) (z5v - (zW : Int).toNat))),(5,(.int .i64 k2_14502))]) (fun (z8e : List z2) (za6 : Int)=>[row (.slice (some ⟨z7U,0,none⟩) z8e.length z5v) 30 2 (z8e.flatMap e30)]) ?_ ?_
        ·skip
         refine WC.block ?_
         refine WC.b ?_
         obtain ⟨zgO,h⟩:=chk_elim h
         obtain ⟨zgP,h⟩:=chk_elim h
         refine WC.draw (fun i=>[].contains i) [] rfl ?_
         refine WD.a (i:=0) (d:=35) (by kernel_rfl) rfl (z6 (by kernel_rfl)) (z7 (by kernel_rfl)) rfl rfl rfl (fun _=>q_m rfl) ?_
         refine WD.a (i:=1) (d:=36) (by kernel_rfl) rfl (z6 (by kernel_rfl)) (z7 (by kernel_rfl)) rfl rfl rfl (fun _=>q_m rfl) ?_
         have zoI : (0 : Int) ≤ zW + k2_14502 ∧ zW + k2_14502 < ((z26.length : Nat) : Int):=by have h1:=zdG; have h2:=zce; have h3:=zgO; omega
         refine WD.a (i:=2) (d:=37) (by kernel_rfl) rfl (z6 (by kernel_rfl)) (z7 (by kernel_rfl)) rfl rfl rfl (fun _=>q_indexAddr elT_77 rfl rfl zgO.1 zgO.2 (aliasAdd zce.1 zgO.1)) ?_
         refine WD.e (i:=3) (d:=38) (by kernel_rfl) rfl (z6 (by kernel_rfl)) (z7 (by kernel_rfl)) rfl rfl rfl (q_loadA (cs:=(e30 (nth z26 (zW + k2_14502)))) aggT_30 rfl rfl (rd_rows .here (flat_rd (enc:=e30) (l:=z26) (i:=zW + k2_14502) (sz:=2) (fun _=>rfl) zoI.1 zoI.2))) ?_
         refine WD.a (i:=4) (d:=39) (by kernel_rfl) rfl (z6 (by kernel_rfl)) (z7 (by kernel_rfl)) rfl rfl rfl (fun _=>q_m rfl) ?_
         refine WD.a (i:=5) (d:=40) (by kernel_rfl) rfl (z6 (by kernel_rfl)) (z7 (by kernel_rfl)) rfl rfl rfl (fun _=>q_m rfl) ?_
         refine WD.a (i:=6) (d:=41) (by kernel_rfl) rfl (z6 (by kernel_rfl)) (z7 (by kernel_rfl)) rfl rfl rfl (fun _=>q_sub rfl rfl rfl) ?_
         have zoJ : (0 : Int) ≤ zW + (i64 (k2_14502 - 1)) ∧ zW + (i64 (k2_14502 - 1)) < ((z26.length : Nat) : Int):=by have h1:=zdG; have h2:=zce; have h3:=zgP; omega
         refine WD.a (i:=7) (d:=42) (by kernel_rfl) rfl (z6 (by kernel_rfl)) (z7 (by kernel_rfl)) rfl rfl rfl (fun _=>q_indexAddr elT_77 rfl rfl zgP.1 zgP.2 (aliasAdd zce.1 zgP.1)) ?_
         refine WD.e (i:=8) (d:=43) (by kernel_rfl) rfl (z6 (by kernel_rfl)) (z7 (by kernel_rfl)) rfl rfl rfl (q_loadA (cs:=(e30 (nth z26 (zW + (i64 (k2_14502 - 1)))))) aggT_30 rfl rfl (rd_rows .here (flat_rd (enc:=e30) (l:=z26) (i:=zW + (i64 (k2_14502 - 1))) (sz:=2) (fun _=>rfl) zoJ.1 zoJ.2))) ?_
         refine WD.a (i:=9) (d:=44) (by kernel_rfl) rfl (z6 (by kernel_rfl)) (z7 (by kernel_rfl)) rfl rfl rfl (fun _=>q_aggneq (enc:=e30) (a:=(⟨((nth z26 (zW + k2_14502)).fN),((nth z26 (zW + k2_14502)).fD)⟩ : z2)) (b:=(⟨((nth z26 (zW + (i64 (k2_14502 - 1)))).fN),((nth z26 (zW + (i64 (k2_14502 - 1)))).fD)⟩ : z2)) eqT_30 rfl rfl) ?_
         refine WD.done (by kernel_rfl) ?_
         refine WX.a ?_
         refine WC.cond rfl (fun zjQ=>?_) (fun zjQ=>?_)
         ·replace h:=ite_t h zjQ
          refine WC.b ?_
          obtain ⟨zgQ,h⟩:=chk_elim h
          obtain ⟨zdH,h⟩:=chk_elim h
          refine WC.a ?_
          refine WL.a (d:=45) rfl rfl rfl (q_m rfl) ?_
          refine WL.a (d:=46) rfl rfl rfl (q_m rfl) ?_
          refine WL.a (d:=47) rfl rfl rfl (q_m rfl) ?_
          refine WL.a (d:=48) rfl rfl rfl (q_m rfl) ?_
          have zoK : (0 : Int) ≤ zW + k2_14502 ∧ zW + k2_14502 < ((z26.length : Nat) : Int):=by have h1:=zdG; have h2:=zce; have h3:=zgQ; omega
          refine WL.a (d:=49) rfl rfl rfl (q_indexAddr elT_77 rfl rfl zgQ.1 zgQ.2 (aliasAdd zce.1 zgQ.1)) ?_
          refine WL.a (d:=50) rfl rfl rfl (q_loadA (cs:=(e30 (nth z26 (zW + k2_14502)))) aggT_30 rfl rfl (rd_rows .here (flat_rd (enc:=e30) (l:=z26) (i:=zW + k2_14502) (sz:=2) (fun _=>rfl) zoK.1 zoK.2))) ?_
          refine WL.a (d:=51) rfl rfl rfl (q_indexAddr elT_77 rfl rfl zdH.1 zdH.2 rowAdd) ?_
          refine WL.eff0 rfl rfl (e_rowStore (vs:=[(.int .i64 ((nth z26 (zW + k2_14502)).fN)),(.int .i64 ((nth z26 (zW + k2_14502)).fD))]) (ds:=(z26.set (z58 : Int).toNat (⟨((nth z26 (zW + k2_14502)).fN),((nth z26 (zW + k2_14502)).fD)⟩ : z2)).flatMap e30) sizT_30 rfl rfl rfl rfl (oc_cons rfl (oc_cons rfl oc_nil)) .here (flat_fit (enc:=e30) (sz:=2) (k:=0) (fun _=>rfl) zdH.1 zdH.2 (by decide)) (flat_put (enc:=e30) (l:=z26) (sz:=2) (vs:=[(.int .i64 ((nth z26 (zW + k2_14502)).fN)),(.int .i64 ((nth z26 (zW + k2_14502)).fD))]) (y:=(⟨((nth z26 (zW + k2_14502)).fN),((nth z26 (zW + k2_14502)).fD)⟩ : z2)) (k:=0) (fun _=>rfl) zdH.1 zdH.2 rfl (Nat.le_of_ble_eq_true rfl))) ?_
          refine WL.relen .here (u:=(.slice (some ⟨z7U,0,none⟩) ((z26.set (z58 : Int).toNat (⟨((nth z26 (zW + k2_14502)).fN),((nth z26 (zW + k2_14502)).fD)⟩ : z2)).length) z5v)) (slen (List.length_set).symm) ?_
          refine WL.repin (i:=0) rfl (u:=(.slice (some ⟨z7U,0,none⟩) ((z26.set (z58 : Int).toNat (⟨((nth z26 (zW + k2_14502)).fN),((nth z26 (zW + k2_14502)).fD)⟩ : z2)).length) z5v)) (slen (List.length_set).symm) ?_
          refine WL.nil ?_
          refine WX.a ?_
          refine WC.a ?_
          refine WL.a (d:=52) rfl rfl rfl (q_m rfl) ?_
          refine WL.a (d:=53) rfl rfl rfl (q_add rfl rfl rfl) ?_
          refine WL.a (d:=3) rfl rfl rfl (q_z rfl) ?_
          refine WL.nil ?_
          refine WX.blockNormal ?_
          exact WX.mid (G:=List z2 × Int) ⟨(z26.set (z58 : Int).toNat (⟨((nth z26 (zW + k2_14502)).fN),((nth z26 (zW + k2_14502)).fD)⟩ : z2)),(i64 (z58 + 1))⟩ ⟨h,((List.length_set).trans zdG)⟩ (.cons rfl (.cons rfl (.cons rfl (.cons rfl .nil)))) (.cons .here .nil)
         ·replace h:=ite_f h zjQ
          refine WC.skip ?_
          refine WX.blockNormal ?_
          exact WX.mid (G:=List z2 × Int) ⟨z26,z58⟩ ⟨h,zdG⟩ (.cons rfl (.cons rfl (.cons rfl (.cons rfl .nil)))) (.cons .here .nil)
        ·rintro z8e za6 ⟨h,ztq⟩
         replace h:=(ztp z8e za6).symm.trans h
         refine WC.a ?_
         refine WL.a (d:=33) rfl rfl rfl (q_m rfl) ?_
         refine WL.a (d:=34) rfl rfl rfl (q_add rfl rfl rfl) ?_
         refine WL.a (d:=5) rfl rfl rfl (q_z rfl) ?_
         refine WL.nil ?_
         exact WX.round (G:=Nat × List z2 × Int × Int) ⟨zjJ,z8e,za6,(i64 (k2_14502 + 1))⟩ ⟨h,ztq⟩ (Nat.lt_succ_self _) (.cons rfl (.cons rfl (.cons rfl (.cons rfl .nil)))) (.cons .here .nil)
       ·replace h:=ite_f h zjP
        refine WC.exit ?_
        refine WX.thenExit ?_
        refine WX.thenExit ?_
        refine WX.blockHit ?_
        exact WX.mid (G:=List z2 × Int) ⟨z26,z58⟩ ⟨h,zdG⟩ (.cons rfl (.cons rfl .nil)) (.cons .here .nil)
      ·rintro z59 z5a ⟨h,zzS⟩
       replace h:=(zto z59 z5a).symm.trans h
       refine WC.b ?_
       obtain ⟨zgR,h⟩:=chk_elim h
       refine WC.a ?_
       refine WL.a (d:=54) rfl rfl rfl (q_m rfl) ?_
       refine WL.a (d:=55) rfl rfl rfl (q_m rfl) ?_
       refine WL.rowLoD (dd:=56) rfl rfl elT_77 rfl rfl .here zgR ?_
       intro zzT zzU ztr
       refine WL.eff0 rfl rfl (e_clearTailD (enc:=e30) (z0:=((⟨0,0⟩ : z2) : z2)) (l:=z59) elT_77 zeroT_30 rfl ztr zgR (fun _=>rfl) (by decide) rfl e30_oc .here) ?_
       refine WL.relen .here (u:=(.slice (some ⟨z7U,0,none⟩) ((z59.take (z5a : Int).toNat ++ List.replicate (z59.length - (z5a : Int).toNat) ((⟨0,0⟩ : z2) : z2)).length) z5v)) (slen (take_rep_len zgR).symm) ?_
       refine WL.repin (i:=0) rfl (u:=(.slice (some ⟨z7U,0,none⟩) ((z59.take (z5a : Int).toNat ++ List.replicate (z59.length - (z5a : Int).toNat) ((⟨0,0⟩ : z2) : z2)).length) z5v)) (slen (take_rep_len zgR).symm) ?_
       refine WL.nil ?_
       refine WX.a ?_
       refine WC.b ?_
       obtain ⟨zts,h⟩:=chk_elim h
       refine WC.a ?_
       refine WL.a (d:=57) rfl rfl rfl (q_m rfl) ?_
       refine WL.a (d:=58) rfl rfl rfl (q_m rfl) ?_
       refine WL.rowHiD (dd:=59) (enc:=e30) (ls:=z59.take (z5a : Int).toNat ++ List.replicate (z59.length - (z5a : Int).toNat) ((⟨0,0⟩ : z2) : z2)) rfl rfl elT_77 rfl rfl .here (fun _=>rfl) zts ?_
       intro ztt ztu
       refine WL.a (d:=2) rfl rfl rfl (q_z rfl) ?_
       refine WL.nil ?_
       refine WX.a ?_
       refine WC.ret ?_
       refine WX.blockRet ?_
       refine WX.thenRet ?_
       refine WX.thenRet ?_
       refine WX.blockRet ?_
       refine WX.thenRet ?_
       obtain rfl:=Option.some.inj h
       refine WX.bpRet Try.results78 (.tmp rfl .nil) (fun w hw=>?_)
       exact ⟨ztt,ztu,ret1 rfl,trivial,hw.sub (.cons .here .nil)⟩
     ·replace h:=ite_f h zjO
      refine WC.skip ?_
      refine WX.blockNormal ?_
      exact WX.mid (G:=Option Addr × Nat) ⟨(some ⟨z7U,0,none⟩),z5v⟩ h (.cons rfl (.cons rfl .nil)) (.cons .here .nil)
    ·rintro zdD zdE h
     replace h:=ztn.symm.trans h
     refine WC.a ?_
     refine WL.a (d:=14) rfl rfl rfl (q_m rfl) ?_
     refine WL.a (d:=15) rfl rfl rfl (q_add rfl rfl rfl) ?_
     refine WL.a (d:=3) rfl rfl rfl (q_z rfl) ?_
     refine WL.nil ?_
     exact WX.round (G:=Nat × Int × Option Addr × Nat) ⟨zjK,(i64 (zW + 1)),zdD,zdE⟩ h (Nat.lt_succ_self _) (.cons rfl (.cons rfl .nil)) (.cons .here .nil)
   ·replace h:=ite_f h zjN
    refine WC.exit ?_
    refine WX.thenExit ?_
    refine WX.thenExit ?_
    refine WX.blockHit ?_
    exact WX.mid (G:=Option Addr × Nat) ⟨zcd,z5v⟩ h (.cons rfl .nil) (.cons .here .nil)
  ·rintro zdA zdB h
   replace h:=ztm.symm.trans h
   refine WC.b ?_
   refine WC.a ?_
   refine WL.a (d:=60) rfl rfl rfl (q_m rfl) ?_
   refine WL.a (d:=2) rfl rfl rfl (q_z rfl) ?_
   refine WL.nil ?_
   refine WX.a ?_
   refine WC.ret ?_
   obtain rfl:=Option.some.inj h
   refine WX.bpRet Try.results78 (.tmp rfl .nil) (fun w hw=>?_)
   exact ⟨zdA,zdB,ret1 rfl,trivial,hw.sub (.cons .here .nil)⟩
def m_curve_Breaks_R4  (ze : z1 × z1) (zX : List z2) (z6F : Int) : Option (Bool × (Nat × List z2 × Int)) :=
 (m_rat_Cmp ze.1.fBurst ze.2.fBurst).bind fun zjR=>if decide (zjR < 0) then (m_curve_calc_do (⟨z6F⟩ : z2j) (fun (y0 : z2) (y1 : z2)=>m_rat_Sub y0 y1) ze.2.fBurst ze.1.fBurst).bind fun z8f=>(m_curve_calc_do z8f.2 (fun (y0 : z2) (y1 : z2)=>m_rat_Sub y0 y1) ze.1.fRate ze.2.fRate).bind fun z8g=>(m_curve_calc_do z8g.2 (fun (y0 : z2) (y1 : z2)=>m_rat_Div y0 y1) z8f.1 z8g.1).bind fun z7A=>chk ((((zX ++ ([z7A.1] : List z2)).length : Nat) : Int) * 16 ≤ 140737488355328 ∧ (((zX ++ ([z7A.1] : List z2)).length : Nat) : Int) ≤ 4611686018427387904) (some (true,(0,(zX ++ ([z7A.1] : List z2)),z7A.2.fE))) else some (true,(0,zX,z6F))
def m_curve_Breaks (z7B : List z1) : Option (List z2 × Int) :=
 (m_curve_Valid z7B).bind fun zgS=>if !zgS then some (([] : List z2),2) else (m_curve_norm z7B).bind fun zcf=>jp2 (fun (z5n : Int) (z3H : List z2)=>if decide (z5n ≠ 0) then some (([] : List z2),z5n) else (m_slices_SortFunc_api_Rat_api_Rat z3H (fun (y0 : z2) (y1 : z2)=>m_rat_Cmp y0 y1)).bind fun z4P=>(m_slices_Compact_api_Rat_api_Rat z4P).bind fun zjS=>some (zjS,0)) fun zjT=>(m_curve_pairs zcf zcf).bind fun z2n=>(m_curve_pairs_1 (Nat × List z2 × Int) (fun (x : z1 × z1) (s : Nat × List z2 × Int)=>chk (s.1 = 0) (m_curve_Breaks_R4 x s.2.1 s.2.2)) (0,([] : List z2),0) z2n.1 z2n.2).bind fun z5J=>zjT z5J.2.2 z5J.2.1
set_option maxRecDepth 20000 in
theorem w_curve_Breaks (Z : Zp)  (z9j : Option Addr) (z9k : Nat) (z7B : List z1) (r : List z2 × Int) (w₀ : World) (hz : PZ [] w₀ Z)
  (zoL : ZS Z 4 (fun r x=>r = e35 x) z9j z9k z7B)
  (h : m_curve_Breaks z7B = some r) :
  Calls Try.prog 68 #[(.slice z9j z7B.length z9k)] w₀ fun e w'=>∃ Zn : Zp,∃ zoM : Option Addr,∃ zoN : Nat,e = .returned (.tuple #[(.slice zoM r.1.length zoN),(.int .i64 r.2)]) ∧ True ∧ Hp [] w₀ w' [fz Zn,row (.slice zoM r.1.length zoN) 30 2 (r.1.flatMap e30)]:=by
 unfold m_curve_Breaks at h
 refine Calls.ofWCM (vs:=[(.slice z9j z7B.length z9k)]) (pre:=[]) (env:=[(0,(.slice z9j z7B.length z9k))]) Try.func68 rfl Try.ntmps68 rfl (Hp.nil w₀ _) rfl ?_
 refine WC.pool ?_
 refine WC.b ?_
 refine WC.a ?_
 refine WL.a (d:=2) rfl rfl rfl (q_z rfl) ?_
 refine WL.a (d:=3) rfl rfl rfl (q_z rfl) ?_
 refine WL.nil ?_
 refine WX.a ?_
 refine WC.b ?_
 refine WC.b ?_
 obtain ⟨zgS,ztv,h⟩:=zd h
 refine WC.a ?_
 refine WL.a (d:=9) rfl rfl rfl (q_m rfl) ?_
 refine WL.b (dd:=10) rfl rfl rfl (zk (l:=[.tmp 9]) Try.call30 (.cons rfl .nil)) (.nil : Sel [fz []] [] [fz []]) (fun w hw=>by have pz:=(hz.call2 hw (.nil : Sel [fz []] [] [fz []]) .here); exact w_curve_Valid (Z:=_) (z8b:=z9j) (z8c:=z9k) (z4Z:=z7B) (r:=zgS) w pz (zoL.mono (Zle.left _ _)) ztv) ?_
 refine WL.a (d:=11) rfl rfl rfl (q_not rfl) ?_
 refine WL.nil ?_
 refine WX.a ?_
 refine WC.cond rfl (fun zjU=>?_) (fun zjU=>?_)
 ·replace h:=ite_t h zjU
  refine WC.b ?_
  refine WC.a ?_
  refine WL.a (d:=2) rfl rfl rfl (q_z rfl) ?_
  refine WL.a (d:=3) rfl rfl rfl (q_z rfl) ?_
  refine WL.nil ?_
  refine WX.a ?_
  refine WC.ret ?_
  refine WX.thenRet ?_
  refine WX.nilRow 30 2 ?_
  obtain rfl:=Option.some.inj h
  refine WX.bpRetM Try.results68 (.tmp rfl (.tmp rfl .nil)) (fun w hw=>?_)
  exact ⟨[],none,0,ret2 rfl rfl,trivial,hw.sub (.cons .h1 (.cons .here .nil))⟩
 ·replace h:=ite_f h zjU
  refine WC.skip ?_
  refine WX.a ?_
  refine WC.b ?_
  refine WC.a ?_
  refine WL.new (dd:=4) rfl rfl rfl (e_alloc (cs:=[(.int .i64 0)]) zeroT_90 rfl) ?_
  intro z1r _
  refine WL.nil ?_
  refine WX.a ?_
  refine WC.b ?_
  refine WC.a ?_
  refine WL.new (dd:=5) rfl rfl rfl (e_alloc (cs:=[(.slice none 0 0)]) zeroT_77 rfl) ?_
  intro z1C _
  refine WL.nil ?_
  refine WX.a ?_
  refine WC.b ?_
  obtain ⟨zcf,ztw,h⟩:=zd h
  refine WC.a ?_
  refine WL.a (d:=12) rfl rfl rfl (q_m rfl) ?_
  refine WL.enter2 (dd:=13) rfl rfl rfl (zk (l:=[.tmp 12]) Try.call48 (.cons rfl .nil)) (.nil : Sel [stb z1C 77 [(.slice none 0 0)],stb z1r 90 [(.int .i64 0)],fz []] [] [stb z1C 77 [(.slice none 0 0)],stb z1r 90 [(.int .i64 0)],fz []]) (fun w hw=>by have pz:=(hz.call2 hw (.nil : Sel [stb z1C 77 [(.slice none 0 0)],stb z1r 90 [(.int .i64 0)],fz []] [] [stb z1C 77 [(.slice none 0 0)],stb z1r 90 [(.int .i64 0)],fz []]) .h2); exact w_curve_norm (Z:=_) (z7S:=z9j) (z7T:=z9k) (zl:=z7B) (r:=zcf) w pz (zoL.mono (Zle.left _ _)) ztw) ?_
  rintro zoO zoP _
  refine WL.a (d:=6) rfl rfl rfl (q_z rfl) ?_
  refine WL.nil ?_
  refine WX.a ?_
  obtain ⟨zjT,ztx,h⟩:=jp2_elim h
  refine WC.seqMidR6 (fun (z6G : Nat) (z5n : Int) (z3H : List z2) (z5K : Zp) (z3n : Option Addr) (z3o : Nat)=>(zjT z5n z3H = some r) ∧ (Zle (Z ++ []) (Z ++ z5K))) (fun (z6G : Nat) (z5n : Int) (z3H : List z2) (z5K : Zp) (z3n : Option Addr) (z3o : Nat)=>[(4,(.pointer (some ⟨z1r,0,none⟩))),(5,(.pointer (some ⟨z1C,0,none⟩)))]) (fun (z6G : Nat) (z5n : Int) (z3H : List z2) (z5K : Zp) (z3n : Option Addr) (z3o : Nat)=>[fz z5K,stb z1r 90 [(.int .i64 z5n)],stb z1C 77 [(.slice z3n z3H.length z3o)],row (.slice z3n z3H.length z3o) 30 2 (z3H.flatMap e30),dfr z6G]) ?_ ?_
  ·skip
   refine WC.b ?_
   refine WC.freezeS (ls:=zcf) .here .h2 hz (RR.flat (enc:=e35) (fun _=>rfl) _) ?_
   intro z5L zty zoQ
   obtain ⟨z2n,ztz,h⟩:=zd h
   refine WC.a ?_
   refine WL.a (d:=14) rfl rfl rfl (q_m rfl) ?_
   refine WL.a (d:=15) rfl rfl rfl (q_m rfl) ?_
   refine WL.enter6 (dd:=16) rfl rfl rfl (zk (l:=[.tmp 14,.tmp 15]) Try.call76 (.cons rfl (.cons rfl .nil))) (.nil : Sel [fz z5L,stb z1C 77 [(.slice none 0 0)],stb z1r 90 [(.int .i64 0)]] [] [fz z5L,stb z1C 77 [(.slice none 0 0)],stb z1r 90 [(.int .i64 0)]]) (fun w hw=>by have pz:=(hz.call2 hw (.nil : Sel [fz z5L,stb z1C 77 [(.slice none 0 0)],stb z1r 90 [(.int .i64 0)]] [] [fz z5L,stb z1C 77 [(.slice none 0 0)],stb z1r 90 [(.int .i64 0)]]) .here); exact w_curve_pairs (Z:=_) (zc1:=zoO) (zc2:=zoP) (zc3:=zoO) (zc4:=zoP) (z9W:=zcf) (z9X:=zcf) (r:=z2n) w pz zoQ zoQ ztz) ?_
   rintro z5b z5c z5o z5p z5q z5r ⟨ztA,ztB⟩
   refine WL.nil ?_
   refine WX.a ?_
   refine WC.block ?_
   refine WC.pool ?_
   refine WC.drop (.cons .here (.cons .h3 (.cons .h3 (.cons .here (.cons .here (.cons .here .nil)))))) ?_
   refine WC.nilRow 30 2 ?_
   refine WC.rangeFunc (f:=89) (caps:=[(.pointer (some ⟨z5b,0,none⟩)),(.pointer (some ⟨z5c,0,none⟩))]) rfl Try.call89 ?_
   intro zzV zzW z2u z6Z z2G zgT ztC ztD w hw
   have hw1:=hw.selAll ((.cons .h3 (.cons .h3 (.cons .h2 (.cons .h2 (.cons .here .nil))))) : Sel _ [fz [],stb z1C 77 [(.slice none (([] : List z2).length) 0)],row (.slice none (([] : List z2).length) 0) 30 2 (([] : List z2).flatMap e30),stb z1r 90 [(.int .i64 0)],blk z2u (z2G .ready none)] _)
   have pz:=(hz.call2 hw1 ((.cons .here .nil) : Sel [allA [fz [],stb z1C 77 [(.slice none (([] : List z2).length) 0)],row (.slice none (([] : List z2).length) 0) 30 2 (([] : List z2).flatMap e30),stb z1r 90 [(.int .i64 0)],blk z2u (z2G .ready none)],dfr z6Z,stb z5b 39 [(.slice z5o z2n.1.length z5p)],stb z5c 39 [(.slice z5q z2n.2.length z5r)],fz z5L] [allA [fz [],stb z1C 77 [(.slice none (([] : List z2).length) 0)],row (.slice none (([] : List z2).length) 0) 30 2 (([] : List z2).flatMap e30),stb z1r 90 [(.int .i64 0)],blk z2u (z2G .ready none)]] [dfr z6Z,stb z5b 39 [(.slice z5o z2n.1.length z5p)],stb z5c 39 [(.slice z5q z2n.2.length z5r)],fz z5L]) .h3).lend hw1 ((.cons .here .nil) : Sel [allA [fz [],stb z1C 77 [(.slice none (([] : List z2).length) 0)],row (.slice none (([] : List z2).length) 0) 30 2 (([] : List z2).flatMap e30),stb z1r 90 [(.int .i64 0)],blk z2u (z2G .ready none)],dfr z6Z,stb z5b 39 [(.slice z5o z2n.1.length z5p)],stb z5c 39 [(.slice z5q z2n.2.length z5r)],fz z5L] [allA [fz [],stb z1C 77 [(.slice none (([] : List z2).length) 0)],row (.slice none (([] : List z2).length) 0) 30 2 (([] : List z2).flatMap e30),stb z1r 90 [(.int .i64 0)],blk z2u (z2G .ready none)]] [dfr z6Z,stb z5b 39 [(.slice z5o z2n.1.length z5p)],stb z5c 39 [(.slice z5q z2n.2.length z5r)],fz z5L]) (B:=[stb z5b 39 [(.slice z5o z2n.1.length z5p)],stb z5c 39 [(.slice z5q z2n.2.length z5r)]]) (fun _ hx'=>((.cons .h1 (.cons .h1 .nil)) : Sel _ [stb z5b 39 [(.slice z5o z2n.1.length z5p)],stb z5c 39 [(.slice z5q z2n.2.length z5r)]] _).mem hx')
   obtain ⟨z5J,ztE,h⟩:=zd h
   refine Calls.mono (w_curve_pairs_1 (Z:=_) (za1:=z2u) (z3N:=(Option Addr × Nat)) (z7f:=(fun (g : Option Addr × Nat) (s : Nat × List z2 × Int)=>allA ([fz [],stb z1C 77 [(.slice g.1 s.2.1.length g.2)],row (.slice g.1 s.2.1.length g.2) 30 2 (s.2.1.flatMap e30),stb z1r 90 [(.int .i64 s.2.2)]] ++ [blk z2u (z2G (rdy (pcs [] s.1)) (pcs [] s.1))]))) (za2:=(fun (g : Option Addr × Nat) (s : Nat × List z2 × Int)=>True)) (zaS:=(none,0)) (zeO:=⟨z5b,0,none⟩) (zc6:=z5o) (zc7:=z5p) (za3:=⟨z5c,0,none⟩) (zgz:=z5q) (zgA:=z5r) (z1e:=(Nat × List z2 × Int)) (z6B:=(fun (x : z1 × z1) (s : Nat × List z2 × Int)=>chk (s.1 = 0) (m_curve_Breaks_R4 x s.2.1 s.2.2))) (s0_5333:=(0,([] : List z2),0)) (z27:=z2n.1) (z2r:=z2n.2) (r:=z5J) w pz ?_ trivial (ztA.mono (Zle.left _ _)) ((hw1.lent ((.cons .here .nil) : Sel [allA [fz [],stb z1C 77 [(.slice none (([] : List z2).length) 0)],row (.slice none (([] : List z2).length) 0) 30 2 (([] : List z2).flatMap e30),stb z1r 90 [(.int .i64 0)],blk z2u (z2G .ready none)],dfr z6Z,stb z5b 39 [(.slice z5o z2n.1.length z5p)],stb z5c 39 [(.slice z5q z2n.2.length z5r)],fz z5L] [allA [fz [],stb z1C 77 [(.slice none (([] : List z2).length) 0)],row (.slice none (([] : List z2).length) 0) 30 2 (([] : List z2).flatMap e30),stb z1r 90 [(.int .i64 0)],blk z2u (z2G .ready none)]] [dfr z6Z,stb z5b 39 [(.slice z5o z2n.1.length z5p)],stb z5c 39 [(.slice z5q z2n.2.length z5r)],fz z5L]) (B:=[stb z5b 39 [(.slice z5o z2n.1.length z5p)],stb z5c 39 [(.slice z5q z2n.2.length z5r)]]) (fun _ hx'=>((.cons .h1 (.cons .h1 .nil)) : Sel _ [stb z5b 39 [(.slice z5o z2n.1.length z5p)],stb z5c 39 [(.slice z5q z2n.2.length z5r)]] _).mem hx') (.head _) _).stb) (ztB.mono (Zle.left _ _)) ((hw1.lent ((.cons .here .nil) : Sel [allA [fz [],stb z1C 77 [(.slice none (([] : List z2).length) 0)],row (.slice none (([] : List z2).length) 0) 30 2 (([] : List z2).flatMap e30),stb z1r 90 [(.int .i64 0)],blk z2u (z2G .ready none)],dfr z6Z,stb z5b 39 [(.slice z5o z2n.1.length z5p)],stb z5c 39 [(.slice z5q z2n.2.length z5r)],fz z5L] [allA [fz [],stb z1C 77 [(.slice none (([] : List z2).length) 0)],row (.slice none (([] : List z2).length) 0) 30 2 (([] : List z2).flatMap e30),stb z1r 90 [(.int .i64 0)],blk z2u (z2G .ready none)]] [dfr z6Z,stb z5b 39 [(.slice z5o z2n.1.length z5p)],stb z5c 39 [(.slice z5q z2n.2.length z5r)],fz z5L]) (B:=[stb z5b 39 [(.slice z5o z2n.1.length z5p)],stb z5c 39 [(.slice z5q z2n.2.length z5r)]]) (fun _ hx'=>((.cons .h1 (.cons .h1 .nil)) : Sel _ [stb z5b 39 [(.slice z5o z2n.1.length z5p)],stb z5c 39 [(.slice z5q z2n.2.length z5r)]] _).mem hx') (.tail _ (.head _)) _).stb) ztE (hw1.owns ((.cons .here .nil) : Sel [allA [fz [],stb z1C 77 [(.slice none (([] : List z2).length) 0)],row (.slice none (([] : List z2).length) 0) 30 2 (([] : List z2).flatMap e30),stb z1r 90 [(.int .i64 0)],blk z2u (z2G .ready none)],dfr z6Z,stb z5b 39 [(.slice z5o z2n.1.length z5p)],stb z5c 39 [(.slice z5q z2n.2.length z5r)],fz z5L] [allA [fz [],stb z1C 77 [(.slice none (([] : List z2).length) 0)],row (.slice none (([] : List z2).length) 0) 30 2 (([] : List z2).flatMap e30),stb z1r 90 [(.int .i64 0)],blk z2u (z2G .ready none)]] [dfr z6Z,stb z5b 39 [(.slice z5o z2n.1.length z5p)],stb z5c 39 [(.slice z5q z2n.2.length z5r)],fz z5L]))) ?_
   ·skip
    refine yieldP_of (LI:=(fun (g : Option Addr × Nat) (s : Nat × List z2 × Int)=>[fz [],stb z1C 77 [(.slice g.1 s.2.1.length g.2)],row (.slice g.1 s.2.1.length g.2) 30 2 (s.2.1.flatMap e30),stb z1r 90 [(.int .i64 s.2.2)]])) (pc:=(fun (s : Nat × List z2 × Int)=>pcs [] s.1)) zgT ztC ztD (fun _ _=>rfl) (by decide) ?_
    rintro ze _ ⟨z2g,z2h⟩ ⟨ztF,zX,z6F⟩ ztG ztH Fb wb zoR _ hz
    replace hz:=hz.left
    letI : Rnd:=inR z2u
    obtain ⟨hp0,z5M⟩:=chk_elim zoR
    replace hp0 : ztF = 0:=hp0; subst hp0; clear zoR
    replace z5M : m_curve_Breaks_R4 ze zX z6F = some (ztG,ztH):=z5M
    unfold m_curve_Breaks_R4 at z5M
    refine WC.restr (env':=[(11,(.bool (!zgS))),(4,(.pointer (some ⟨z1r,0,none⟩))),(5,(.pointer (some ⟨z1C,0,none⟩))),(17,(.agg #[(.int .i64 ze.1.fBurst.fN),(.int .i64 ze.1.fBurst.fD),(.int .i64 ze.1.fRate.fN),(.int .i64 ze.1.fRate.fD)])),(18,(.agg #[(.int .i64 ze.2.fBurst.fN),(.int .i64 ze.2.fBurst.fD),(.int .i64 ze.2.fRate.fN),(.int .i64 ze.2.fRate.fD)]))]) (.cons rfl (.cons rfl (.cons rfl (.cons rfl (.cons rfl .nil))))) ?_
    refine WC.eqL (L':=[fz [],stb z1C 77 [(.slice z2g zX.length z2h)],row (.slice z2g zX.length z2h) 30 2 (zX.flatMap e30),stb z1r 90 [(.int .i64 z6F)],blk z2u (z2G .ready none)]) rfl ?_
    refine WC.b ?_
    refine WC.a ?_
    refine WL.new (dd:=7) rfl rfl rfl (e_alloc (cs:=[(.int .i64 0),(.int .i64 0),(.int .i64 0),(.int .i64 0)]) zeroT_35 rfl) ?_
    intro z4Q _
    refine WL.eff0 rfl rfl (e_store (vs:=[(.int .i64 ze.1.fBurst.fN),(.int .i64 ze.1.fBurst.fD),(.int .i64 ze.1.fRate.fN),(.int .i64 ze.1.fRate.fD)]) (ds:=[(.int .i64 ze.1.fBurst.fN),(.int .i64 ze.1.fBurst.fD),(.int .i64 ze.1.fRate.fN),(.int .i64 ze.1.fRate.fD)]) sizT_35 rfl rfl rfl rfl (oc_cons rfl (oc_cons rfl (oc_cons rfl (oc_cons rfl oc_nil)))) .here (Nat.le_of_ble_eq_true rfl) rfl) ?_
    refine WL.nil ?_
    refine WX.a ?_
    refine WC.a ?_
    refine WL.new (dd:=8) rfl rfl rfl (e_alloc (cs:=[(.int .i64 0),(.int .i64 0),(.int .i64 0),(.int .i64 0)]) zeroT_35 rfl) ?_
    intro z4R _
    refine WL.eff0 rfl rfl (e_store (vs:=[(.int .i64 ze.2.fBurst.fN),(.int .i64 ze.2.fBurst.fD),(.int .i64 ze.2.fRate.fN),(.int .i64 ze.2.fRate.fD)]) (ds:=[(.int .i64 ze.2.fBurst.fN),(.int .i64 ze.2.fBurst.fD),(.int .i64 ze.2.fRate.fN),(.int .i64 ze.2.fRate.fD)]) sizT_35 rfl rfl rfl rfl (oc_cons rfl (oc_cons rfl (oc_cons rfl (oc_cons rfl oc_nil)))) .here (Nat.le_of_ble_eq_true rfl) rfl) ?_
    refine WL.nil ?_
    refine WX.begin zgT .h6 ?_
    refine WC.block ?_
    refine WC.b ?_
    obtain ⟨zjR,ztI,z5M⟩:=zd z5M
    refine WC.a ?_
    refine WL.a (d:=19) rfl rfl rfl (q_fieldAddr fo_35_0 rfl rfl) ?_
    refine WL.a (d:=20) rfl rfl rfl (q_loadA (cs:=[(.int .i64 ze.1.fBurst.fN),(.int .i64 ze.1.fBurst.fD)]) aggT_30 rfl rfl (rd_sub (s:=2) .h2 rfl)) ?_
    refine WL.a (d:=21) rfl rfl rfl (q_fieldAddr fo_35_0 rfl rfl) ?_
    refine WL.a (d:=22) rfl rfl rfl (q_loadA (cs:=[(.int .i64 ze.2.fBurst.fN),(.int .i64 ze.2.fBurst.fD)]) aggT_30 rfl rfl (rd_sub (s:=2) .h1 rfl)) ?_
    refine WL.b (dd:=23) rfl rfl rfl (zk (l:=[.tmp 20,.tmp 22]) Try.call18 (.cons rfl (.cons rfl .nil))) (.nil : Sel [blk z2u (z2G .busy none),stb z4R 35 [(.int .i64 ze.2.fBurst.fN),(.int .i64 ze.2.fBurst.fD),(.int .i64 ze.2.fRate.fN),(.int .i64 ze.2.fRate.fD)],stb z4Q 35 [(.int .i64 ze.1.fBurst.fN),(.int .i64 ze.1.fBurst.fD),(.int .i64 ze.1.fRate.fN),(.int .i64 ze.1.fRate.fD)],fz [],stb z1C 77 [(.slice z2g zX.length z2h)],row (.slice z2g zX.length z2h) 30 2 (zX.flatMap e30),stb z1r 90 [(.int .i64 z6F)]] [] [blk z2u (z2G .busy none),stb z4R 35 [(.int .i64 ze.2.fBurst.fN),(.int .i64 ze.2.fBurst.fD),(.int .i64 ze.2.fRate.fN),(.int .i64 ze.2.fRate.fD)],stb z4Q 35 [(.int .i64 ze.1.fBurst.fN),(.int .i64 ze.1.fBurst.fD),(.int .i64 ze.1.fRate.fN),(.int .i64 ze.1.fRate.fD)],fz [],stb z1C 77 [(.slice z2g zX.length z2h)],row (.slice z2g zX.length z2h) 30 2 (zX.flatMap e30),stb z1r 90 [(.int .i64 z6F)]]) (fun w hw=>by have pz:=(hz.call2 hw (.nil : Sel [blk z2u (z2G .busy none),stb z4R 35 [(.int .i64 ze.2.fBurst.fN),(.int .i64 ze.2.fBurst.fD),(.int .i64 ze.2.fRate.fN),(.int .i64 ze.2.fRate.fD)],stb z4Q 35 [(.int .i64 ze.1.fBurst.fN),(.int .i64 ze.1.fBurst.fD),(.int .i64 ze.1.fRate.fN),(.int .i64 ze.1.fRate.fD)],fz [],stb z1C 77 [(.slice z2g zX.length z2h)],row (.slice z2g zX.length z2h) 30 2 (zX.flatMap e30),stb z1r 90 [(.int .i64 z6F)]] [] [blk z2u (z2G .busy none),stb z4R 35 [(.int .i64 ze.2.fBurst.fN),(.int .i64 ze.2.fBurst.fD),(.int .i64 ze.2.fRate.fN),(.int .i64 ze.2.fRate.fD)],stb z4Q 35 [(.int .i64 ze.1.fBurst.fN),(.int .i64 ze.1.fBurst.fD),(.int .i64 ze.1.fRate.fN),(.int .i64 ze.1.fRate.fD)],fz [],stb z1C 77 [(.slice z2g zX.length z2h)],row (.slice z2g zX.length z2h) 30 2 (zX.flatMap e30),stb z1r 90 [(.int .i64 z6F)]]) .h3); exact w_rat_Cmp (Z:=_)  (z2d:=ze.1.fBurst) (z2e:=ze.2.fBurst) (r:=zjR) w pz  ztI) ?_
    refine WL.a (d:=24) rfl rfl rfl (q_lss rfl rfl) ?_
    refine WL.nil ?_
    refine WX.a ?_
    refine WC.cond rfl (fun zjV=>?_) (fun zjV=>?_)
    ·replace z5M:=ite_t z5M zjV
     obtain ⟨z8f,ztJ,z5M⟩:=zd z5M
     obtain ⟨z8g,ztK,z5M⟩:=zd z5M
     obtain ⟨z7A,ztL,z5M⟩:=zd z5M
     obtain ⟨ztM,z5M⟩:=chk_elim z5M
     refine WC.draw (fun i=>[5,10,11,13,14].contains i) [stbp z1C 77 [(0,(.slice z2g zX.length z2h))],stb z4Q 35 [(.int .i64 ze.1.fBurst.fN),(.int .i64 ze.1.fBurst.fD),(.int .i64 ze.1.fRate.fN),(.int .i64 ze.1.fRate.fD)],stb z4R 35 [(.int .i64 ze.2.fBurst.fN),(.int .i64 ze.2.fBurst.fD),(.int .i64 ze.2.fRate.fN),(.int .i64 ze.2.fRate.fD)]] rfl ?_
     refine WD.stable (i:=0) (d:=25) (by kernel_rfl) rfl (z6 (by kernel_rfl)) (z7 (by kernel_rfl)) rfl rfl rfl (Sin.wk (.cons .h4 (.cons .h2 (.cons .h1 .nil))) (.stb (.cons rfl .nil) (.same (.same .nil)))) (q_load1 oneT_77 rfl (rd_stbp .here (.head _))) ?_
     refine WD.a (i:=1) (d:=26) (by kernel_rfl) rfl (z6 (by kernel_rfl)) (z7 (by kernel_rfl)) rfl rfl rfl (fun _=>q_fieldAddr fo_35_0 rfl rfl) ?_
     refine WD.e (i:=2) (d:=27) (by kernel_rfl) rfl (z6 (by kernel_rfl)) (z7 (by kernel_rfl)) rfl rfl rfl (q_loadA (cs:=[(.int .i64 ze.2.fBurst.fN),(.int .i64 ze.2.fBurst.fD)]) aggT_30 rfl rfl (rd_sub (s:=2) .h1 rfl)) ?_
     refine WD.a (i:=3) (d:=28) (by kernel_rfl) rfl (z6 (by kernel_rfl)) (z7 (by kernel_rfl)) rfl rfl rfl (fun _=>q_fieldAddr fo_35_0 rfl rfl) ?_
     refine WD.e (i:=4) (d:=29) (by kernel_rfl) rfl (z6 (by kernel_rfl)) (z7 (by kernel_rfl)) rfl rfl rfl (q_loadA (cs:=[(.int .i64 ze.1.fBurst.fN),(.int .i64 ze.1.fBurst.fD)]) aggT_30 rfl rfl (rd_sub (s:=2) .h2 rfl)) ?_
     refine WD.a (i:=6) (d:=31) (by kernel_rfl) rfl (z6 (by kernel_rfl)) (z7 (by kernel_rfl)) rfl rfl rfl (fun _=>q_fieldAddr fo_35_1 rfl rfl) ?_
     refine WD.stable (i:=7) (d:=32) (by kernel_rfl) rfl (z6 (by kernel_rfl)) (z7 (by kernel_rfl)) rfl rfl rfl (Sin.wk (.cons .h4 (.cons .h2 (.cons .h1 .nil))) (.stb (.cons rfl .nil) (.same (.same .nil)))) (q_loadA (cs:=[(.int .i64 ze.1.fRate.fN),(.int .i64 ze.1.fRate.fD)]) aggT_30 rfl rfl (rd_sub (s:=2) .h1 rfl)) ?_
     refine WD.a (i:=8) (d:=33) (by kernel_rfl) rfl (z6 (by kernel_rfl)) (z7 (by kernel_rfl)) rfl rfl rfl (fun _=>q_fieldAddr fo_35_1 rfl rfl) ?_
     refine WD.stable (i:=9) (d:=34) (by kernel_rfl) rfl (z6 (by kernel_rfl)) (z7 (by kernel_rfl)) rfl rfl rfl (Sin.wk (.cons .h4 (.cons .h2 (.cons .h1 .nil))) (.stb (.cons rfl .nil) (.same (.same .nil)))) (q_loadA (cs:=[(.int .i64 ze.2.fRate.fN),(.int .i64 ze.2.fRate.fD)]) aggT_30 rfl rfl (rd_sub (s:=2) .h2 rfl)) ?_
     refine WD.call0 (i:=5) (dd:=30) rfl (by kernel_rfl) rfl rfl rfl (.inl ⟨rfl,(Sin.wk (.cons .h5 (.cons .h3 (.cons .h2 .nil))) (.stb (.cons rfl .nil) (.same (.same .nil))))⟩) (zk (l:=[.tmp 4,.func 24,.tmp 27,.tmp 29]) Try.call58 (.cons rfl (.cons rfl (.cons rfl (.cons rfl .nil))))) ((.cons .h6 .nil) : Sel [blk z2u (z2G .busy none),stb z4R 35 [(.int .i64 ze.2.fBurst.fN),(.int .i64 ze.2.fBurst.fD),(.int .i64 ze.2.fRate.fN),(.int .i64 ze.2.fRate.fD)],stb z4Q 35 [(.int .i64 ze.1.fBurst.fN),(.int .i64 ze.1.fBurst.fD),(.int .i64 ze.1.fRate.fN),(.int .i64 ze.1.fRate.fD)],fz [],stb z1C 77 [(.slice z2g zX.length z2h)],row (.slice z2g zX.length z2h) 30 2 (zX.flatMap e30),stb z1r 90 [(.int .i64 z6F)]] [stb z1r 90 [(.int .i64 z6F)]] [blk z2u (z2G .busy none),stb z4R 35 [(.int .i64 ze.2.fBurst.fN),(.int .i64 ze.2.fBurst.fD),(.int .i64 ze.2.fRate.fN),(.int .i64 ze.2.fRate.fD)],stb z4Q 35 [(.int .i64 ze.1.fBurst.fN),(.int .i64 ze.1.fBurst.fD),(.int .i64 ze.1.fRate.fN),(.int .i64 ze.1.fRate.fD)],fz [],stb z1C 77 [(.slice z2g zX.length z2h)],row (.slice z2g zX.length z2h) 30 2 (zX.flatMap e30)]) (fun w hw=>by have pz:=(hz.call2 hw ((.cons .h6 .nil) : Sel [blk z2u (z2G .busy none),stb z4R 35 [(.int .i64 ze.2.fBurst.fN),(.int .i64 ze.2.fBurst.fD),(.int .i64 ze.2.fRate.fN),(.int .i64 ze.2.fRate.fD)],stb z4Q 35 [(.int .i64 ze.1.fBurst.fN),(.int .i64 ze.1.fBurst.fD),(.int .i64 ze.1.fRate.fN),(.int .i64 ze.1.fRate.fD)],fz [],stb z1C 77 [(.slice z2g zX.length z2h)],row (.slice z2g zX.length z2h) 30 2 (zX.flatMap e30),stb z1r 90 [(.int .i64 z6F)]] [stb z1r 90 [(.int .i64 z6F)]] [blk z2u (z2G .busy none),stb z4R 35 [(.int .i64 ze.2.fBurst.fN),(.int .i64 ze.2.fBurst.fD),(.int .i64 ze.2.fRate.fN),(.int .i64 ze.2.fRate.fD)],stb z4Q 35 [(.int .i64 ze.1.fBurst.fN),(.int .i64 ze.1.fBurst.fD),(.int .i64 ze.1.fRate.fN),(.int .i64 ze.1.fRate.fD)],fz [],stb z1C 77 [(.slice z2g zX.length z2h)],row (.slice z2g zX.length z2h) 30 2 (zX.flatMap e30)]) .h3); exact Calls.mono (w_curve_calc_do (Z:=_) (z7y:=z1r) (z8d:=24) (z9i:=[]) (z7x:=(⟨z6F⟩ : z2j)) (za4:=(fun (y0 : z2) (y1 : z2)=>m_rat_Sub y0 y1)) (z5H:=ze.2.fBurst) (z5I:=ze.1.fBurst) (r:=z8f) w pz Try.call24 (fun w' hz' y0 y1  r  hr=>w_rat_Sub (Z:=_)  (z40:=y0) (z41:=y1) (r:=r) w' hz'  hr) ztJ (hw.owns ((.cons .h6 .nil) : Sel [blk z2u (z2G .busy none),stb z4R 35 [(.int .i64 ze.2.fBurst.fN),(.int .i64 ze.2.fBurst.fD),(.int .i64 ze.2.fRate.fN),(.int .i64 ze.2.fRate.fD)],stb z4Q 35 [(.int .i64 ze.1.fBurst.fN),(.int .i64 ze.1.fBurst.fD),(.int .i64 ze.1.fRate.fN),(.int .i64 ze.1.fRate.fD)],fz [],stb z1C 77 [(.slice z2g zX.length z2h)],row (.slice z2g zX.length z2h) 30 2 (zX.flatMap e30),stb z1r 90 [(.int .i64 z6F)]] [stb z1r 90 [(.int .i64 z6F)]] [blk z2u (z2G .busy none),stb z4R 35 [(.int .i64 ze.2.fBurst.fN),(.int .i64 ze.2.fBurst.fD),(.int .i64 ze.2.fRate.fN),(.int .i64 ze.2.fRate.fD)],stb z4Q 35 [(.int .i64 ze.1.fBurst.fN),(.int .i64 ze.1.fBurst.fD),(.int .i64 ze.1.fRate.fN),(.int .i64 ze.1.fRate.fD)],fz [],stb z1C 77 [(.slice z2g zX.length z2h)],row (.slice z2g zX.length z2h) 30 2 (zX.flatMap e30)]))) (fun _ _ h'=>⟨h'.1,trivial,h'.2⟩)) ?_
     intro _
     refine WD.call0 (i:=10) (dd:=35) rfl (by kernel_rfl) rfl rfl rfl (.inl ⟨rfl,(Sin.wk (.cons .h5 (.cons .h3 (.cons .h2 .nil))) (.stb (.cons rfl .nil) (.same (.same .nil))))⟩) (zk (l:=[.tmp 4,.func 24,.tmp 32,.tmp 34]) Try.call58 (.cons rfl (.cons rfl (.cons rfl (.cons rfl .nil))))) ((.cons .here .nil) : Sel [stb z1r 90 [(.int .i64 z8f.2.fE)],blk z2u (z2G .busy none),stb z4R 35 [(.int .i64 ze.2.fBurst.fN),(.int .i64 ze.2.fBurst.fD),(.int .i64 ze.2.fRate.fN),(.int .i64 ze.2.fRate.fD)],stb z4Q 35 [(.int .i64 ze.1.fBurst.fN),(.int .i64 ze.1.fBurst.fD),(.int .i64 ze.1.fRate.fN),(.int .i64 ze.1.fRate.fD)],fz [],stb z1C 77 [(.slice z2g zX.length z2h)],row (.slice z2g zX.length z2h) 30 2 (zX.flatMap e30)] [stb z1r 90 [(.int .i64 z8f.2.fE)]] [blk z2u (z2G .busy none),stb z4R 35 [(.int .i64 ze.2.fBurst.fN),(.int .i64 ze.2.fBurst.fD),(.int .i64 ze.2.fRate.fN),(.int .i64 ze.2.fRate.fD)],stb z4Q 35 [(.int .i64 ze.1.fBurst.fN),(.int .i64 ze.1.fBurst.fD),(.int .i64 ze.1.fRate.fN),(.int .i64 ze.1.fRate.fD)],fz [],stb z1C 77 [(.slice z2g zX.length z2h)],row (.slice z2g zX.length z2h) 30 2 (zX.flatMap e30)]) (fun w hw=>by have pz:=(hz.call2 hw ((.cons .here .nil) : Sel [stb z1r 90 [(.int .i64 z8f.2.fE)],blk z2u (z2G .busy none),stb z4R 35 [(.int .i64 ze.2.fBurst.fN),(.int .i64 ze.2.fBurst.fD),(.int .i64 ze.2.fRate.fN),(.int .i64 ze.2.fRate.fD)],stb z4Q 35 [(.int .i64 ze.1.fBurst.fN),(.int .i64 ze.1.fBurst.fD),(.int .i64 ze.1.fRate.fN),(.int .i64 ze.1.fRate.fD)],fz [],stb z1C 77 [(.slice z2g zX.length z2h)],row (.slice z2g zX.length z2h) 30 2 (zX.flatMap e30)] [stb z1r 90 [(.int .i64 z8f.2.fE)]] [blk z2u (z2G .busy none),stb z4R 35 [(.int .i64 ze.2.fBurst.fN),(.int .i64 ze.2.fBurst.fD),(.int .i64 ze.2.fRate.fN),(.int .i64 ze.2.fRate.fD)],stb z4Q 35 [(.int .i64 ze.1.fBurst.fN),(.int .i64 ze.1.fBurst.fD),(.int .i64 ze.1.fRate.fN),(.int .i64 ze.1.fRate.fD)],fz [],stb z1C 77 [(.slice z2g zX.length z2h)],row (.slice z2g zX.length z2h) 30 2 (zX.flatMap e30)]) .h3); exact Calls.mono (w_curve_calc_do (Z:=_) (z7y:=z1r) (z8d:=24) (z9i:=[]) (z7x:=z8f.2) (za4:=(fun (y0 : z2) (y1 : z2)=>m_rat_Sub y0 y1)) (z5H:=ze.1.fRate) (z5I:=ze.2.fRate) (r:=z8g) w pz Try.call24 (fun w' hz' y0 y1  r  hr=>w_rat_Sub (Z:=_)  (z40:=y0) (z41:=y1) (r:=r) w' hz'  hr) ztK (hw.owns ((.cons .here .nil) : Sel [stb z1r 90 [(.int .i64 z8f.2.fE)],blk z2u (z2G .busy none),stb z4R 35 [(.int .i64 ze.2.fBurst.fN),(.int .i64 ze.2.fBurst.fD),(.int .i64 ze.2.fRate.fN),(.int .i64 ze.2.fRate.fD)],stb z4Q 35 [(.int .i64 ze.1.fBurst.fN),(.int .i64 ze.1.fBurst.fD),(.int .i64 ze.1.fRate.fN),(.int .i64 ze.1.fRate.fD)],fz [],stb z1C 77 [(.slice z2g zX.length z2h)],row (.slice z2g zX.length z2h) 30 2 (zX.flatMap e30)] [stb z1r 90 [(.int .i64 z8f.2.fE)]] [blk z2u (z2G .busy none),stb z4R 35 [(.int .i64 ze.2.fBurst.fN),(.int .i64 ze.2.fBurst.fD),(.int .i64 ze.2.fRate.fN),(.int .i64 ze.2.fRate.fD)],stb z4Q 35 [(.int .i64 ze.1.fBurst.fN),(.int .i64 ze.1.fBurst.fD),(.int .i64 ze.1.fRate.fN),(.int .i64 ze.1.fRate.fD)],fz [],stb z1C 77 [(.slice z2g zX.length z2h)],row (.slice z2g zX.length z2h) 30 2 (zX.flatMap e30)]))) (fun _ _ h'=>⟨h'.1,trivial,h'.2⟩)) ?_
     intro _
     refine WD.call0 (i:=11) (dd:=36) rfl (by kernel_rfl) rfl rfl rfl (.inl ⟨rfl,(Sin.wk (.cons .h5 (.cons .h3 (.cons .h2 .nil))) (.stb (.cons rfl .nil) (.same (.same .nil))))⟩) (zk (l:=[.tmp 4,.func 34,.tmp 30,.tmp 35]) Try.call58 (.cons rfl (.cons rfl (.cons rfl (.cons rfl .nil))))) ((.cons .here .nil) : Sel [stb z1r 90 [(.int .i64 z8g.2.fE)],blk z2u (z2G .busy none),stb z4R 35 [(.int .i64 ze.2.fBurst.fN),(.int .i64 ze.2.fBurst.fD),(.int .i64 ze.2.fRate.fN),(.int .i64 ze.2.fRate.fD)],stb z4Q 35 [(.int .i64 ze.1.fBurst.fN),(.int .i64 ze.1.fBurst.fD),(.int .i64 ze.1.fRate.fN),(.int .i64 ze.1.fRate.fD)],fz [],stb z1C 77 [(.slice z2g zX.length z2h)],row (.slice z2g zX.length z2h) 30 2 (zX.flatMap e30)] [stb z1r 90 [(.int .i64 z8g.2.fE)]] [blk z2u (z2G .busy none),stb z4R 35 [(.int .i64 ze.2.fBurst.fN),(.int .i64 ze.2.fBurst.fD),(.int .i64 ze.2.fRate.fN),(.int .i64 ze.2.fRate.fD)],stb z4Q 35 [(.int .i64 ze.1.fBurst.fN),(.int .i64 ze.1.fBurst.fD),(.int .i64 ze.1.fRate.fN),(.int .i64 ze.1.fRate.fD)],fz [],stb z1C 77 [(.slice z2g zX.length z2h)],row (.slice z2g zX.length z2h) 30 2 (zX.flatMap e30)]) (fun w hw=>by have pz:=(hz.call2 hw ((.cons .here .nil) : Sel [stb z1r 90 [(.int .i64 z8g.2.fE)],blk z2u (z2G .busy none),stb z4R 35 [(.int .i64 ze.2.fBurst.fN),(.int .i64 ze.2.fBurst.fD),(.int .i64 ze.2.fRate.fN),(.int .i64 ze.2.fRate.fD)],stb z4Q 35 [(.int .i64 ze.1.fBurst.fN),(.int .i64 ze.1.fBurst.fD),(.int .i64 ze.1.fRate.fN),(.int .i64 ze.1.fRate.fD)],fz [],stb z1C 77 [(.slice z2g zX.length z2h)],row (.slice z2g zX.length z2h) 30 2 (zX.flatMap e30)] [stb z1r 90 [(.int .i64 z8g.2.fE)]] [blk z2u (z2G .busy none),stb z4R 35 [(.int .i64 ze.2.fBurst.fN),(.int .i64 ze.2.fBurst.fD),(.int .i64 ze.2.fRate.fN),(.int .i64 ze.2.fRate.fD)],stb z4Q 35 [(.int .i64 ze.1.fBurst.fN),(.int .i64 ze.1.fBurst.fD),(.int .i64 ze.1.fRate.fN),(.int .i64 ze.1.fRate.fD)],fz [],stb z1C 77 [(.slice z2g zX.length z2h)],row (.slice z2g zX.length z2h) 30 2 (zX.flatMap e30)]) .h3); exact Calls.mono (w_curve_calc_do (Z:=_) (z7y:=z1r) (z8d:=34) (z9i:=[]) (z7x:=z8g.2) (za4:=(fun (y0 : z2) (y1 : z2)=>m_rat_Div y0 y1)) (z5H:=z8f.1) (z5I:=z8g.1) (r:=z7A) w pz Try.call34 (fun w' hz' y0 y1  r  hr=>w_rat_Div (Z:=_)  (z4B:=y0) (z4C:=y1) (r:=r) w' hz'  hr) ztL (hw.owns ((.cons .here .nil) : Sel [stb z1r 90 [(.int .i64 z8g.2.fE)],blk z2u (z2G .busy none),stb z4R 35 [(.int .i64 ze.2.fBurst.fN),(.int .i64 ze.2.fBurst.fD),(.int .i64 ze.2.fRate.fN),(.int .i64 ze.2.fRate.fD)],stb z4Q 35 [(.int .i64 ze.1.fBurst.fN),(.int .i64 ze.1.fBurst.fD),(.int .i64 ze.1.fRate.fN),(.int .i64 ze.1.fRate.fD)],fz [],stb z1C 77 [(.slice z2g zX.length z2h)],row (.slice z2g zX.length z2h) 30 2 (zX.flatMap e30)] [stb z1r 90 [(.int .i64 z8g.2.fE)]] [blk z2u (z2G .busy none),stb z4R 35 [(.int .i64 ze.2.fBurst.fN),(.int .i64 ze.2.fBurst.fD),(.int .i64 ze.2.fRate.fN),(.int .i64 ze.2.fRate.fD)],stb z4Q 35 [(.int .i64 ze.1.fBurst.fN),(.int .i64 ze.1.fBurst.fD),(.int .i64 ze.1.fRate.fN),(.int .i64 ze.1.fRate.fD)],fz [],stb z1C 77 [(.slice z2g zX.length z2h)],row (.slice z2g zX.length z2h) 30 2 (zX.flatMap e30)]))) (fun _ _ h'=>⟨h'.1,trivial,h'.2⟩)) ?_
     intro _
     refine WD.new (i:=12) (dd:=37) rfl (by kernel_rfl) rfl rfl rfl (e_buildSlice (cs:=([z7A.1] : List z2).flatMap e30) elT_77 (Eos.parts (l:=[.tmp 36]) (.cons rfl .nil) [0]) (fun _=>by kernel_rfl) rfl (by unfold maxLen; omega)) (fun h'=>absurd h' (by decide)) ?_
     intro zzX _
     refine WD.old (i:=13) (dd:=38) rfl (by kernel_rfl) rfl rfl rfl rfl (fun _=>(Sin.wk (.cons .h7 (.cons .h5 (.cons .h4 .nil))) (.stb (.cons rfl .nil) (.same (.same .nil))))) (e_appendF (enc:=e30) (l1:=zX) (l2:=([z7A.1] : List z2)) elT_77 rfl rfl .h7 (fun _=>rfl) rfl rfl (news_row .here) (oc_flat e30_oc _) ztM) ?_
     rintro ⟨zf1,zf2⟩ _
     refine WD.last0 (i:=14) rfl (by kernel_rfl) rfl rfl rfl (by kernel_rfl) (e_store (vs:=[(.slice zf1 ((zX ++ ([z7A.1] : List z2)).length) zf2)]) (ds:=[(.slice zf1 ((zX ++ ([z7A.1] : List z2)).length) zf2)]) sizT_77 rfl rfl rfl rfl (oc_cons rfl oc_nil) .h7 (Nat.le_of_ble_eq_true rfl) rfl) ?_
     refine WD.done (by kernel_rfl) ?_
     refine WX.blockNormal ?_
     obtain ⟨rfl,rfl⟩:=rf_inj z5M
     exact WX.rNormal zgT .h4 (fun w' hw'=>⟨(zf1,zf2),rfl,trivial,(hw'.selAll ((.cons .h7 (.cons .h1 (.cons .h1 (.cons .h2 (.cons .here .nil))))) : Sel _ [fz [],stb z1C 77 [(.slice zf1 ((zX ++ ([z7A.1] : List z2)).length) zf2)],row (.slice zf1 ((zX ++ ([z7A.1] : List z2)).length) zf2) 30 2 ((zX ++ ([z7A.1] : List z2)).flatMap e30),stb z1r 90 [(.int .i64 z7A.2.fE)],blk z2u (z2G .ready none)] _)).sub (.cons .here .nil)⟩)
    ·replace z5M:=ite_f z5M zjV
     refine WC.skip ?_
     refine WX.blockNormal ?_
     obtain ⟨rfl,rfl⟩:=rf_inj z5M
     exact WX.rNormal zgT .here (fun w' hw'=>⟨(z2g,z2h),rfl,trivial,(hw'.selAll ((.cons .h3 (.cons .h3 (.cons .h3 (.cons .h3 (.cons .here .nil))))) : Sel _ [fz [],stb z1C 77 [(.slice z2g zX.length z2h)],row (.slice z2g zX.length z2h) 30 2 (zX.flatMap e30),stb z1r 90 [(.int .i64 z6F)],blk z2u (z2G .ready none)] _)).sub (.cons .here .nil)⟩)
   ·skip
    rintro _ w' ⟨⟨zf3,zf4⟩,rfl,_,hp⟩
    have hp1:=hw1.call ((.cons .here .nil) : Sel [allA [fz [],stb z1C 77 [(.slice none (([] : List z2).length) 0)],row (.slice none (([] : List z2).length) 0) 30 2 (([] : List z2).flatMap e30),stb z1r 90 [(.int .i64 0)],blk z2u (z2G .ready none)],dfr z6Z,stb z5b 39 [(.slice z5o z2n.1.length z5p)],stb z5c 39 [(.slice z5q z2n.2.length z5r)],fz z5L] [allA [fz [],stb z1C 77 [(.slice none (([] : List z2).length) 0)],row (.slice none (([] : List z2).length) 0) 30 2 (([] : List z2).flatMap e30),stb z1r 90 [(.int .i64 0)],blk z2u (z2G .ready none)]] [dfr z6Z,stb z5b 39 [(.slice z5o z2n.1.length z5p)],stb z5c 39 [(.slice z5q z2n.2.length z5r)],fz z5L]) hp
    have hp2 : Hp _ _ w' [fz [],stb z1C 77 [(.slice zf3 z5J.2.1.length zf4)],row (.slice zf3 z5J.2.1.length zf4) 30 2 (z5J.2.1.flatMap e30),stb z1r 90 [(.int .i64 z5J.2.2)],blk z2u (z2G (rdy (pcs [] z5J.1)) (pcs [] z5J.1)),dfr z6Z,stb z5b 39 [(.slice z5o z2n.1.length z5p)],stb z5c 39 [(.slice z5q z2n.2.length z5r)],fz z5L]:=hp1.pickAll .here
    refine ⟨_,pcs [] z5J.1,_,rfl,(hp2.sub ((.cons .h4 (.cons .here (.cons .here (.cons .here (.cons .here (.cons .here (.cons .here (.cons .here (.cons .here .nil))))))))) : Sel _ [blk z2u (z2G (rdy (pcs [] z5J.1)) (pcs [] z5J.1)),fz [],stb z1C 77 [(.slice zf3 z5J.2.1.length zf4)],row (.slice zf3 z5J.2.1.length zf4) 30 2 (z5J.2.1.flatMap e30),stb z1r 90 [(.int .i64 z5J.2.2)],dfr z6Z,stb z5b 39 [(.slice z5o z2n.1.length z5p)],stb z5c 39 [(.slice z5q z2n.2.length z5r)],fz z5L] _)),?_⟩
    clear hp hp1 hp2 pz hw hw1
    refine wjN ?_
    letI : Rnd:=aft z6Z
    refine WX.merge .here .h6 ?_
    refine WX.blockNormal ?_
    exact WX.midR (D:=fun (g : Nat × Int × List z2 × Zp × Option Addr × Nat)=>g.1) (G:=Nat × Int × List z2 × Zp × Option Addr × Nat) ⟨z6Z,z5J.2.2,z5J.2.1,(z5L ++ []),zf3,zf4⟩ ⟨h,(zty.trans ((Zle.left _ _).trans (Zle.assoc _ _ _)))⟩ (.cons rfl (.cons rfl .nil)) (.cons .here (.cons .h2 (.cons .here (.cons .here (.cons .here .nil)))))
  ·rintro z6G z5n z3H z5K z3n z3o ⟨h,zzY⟩
   replace h:=(ztx z5n z3H).symm.trans h
   letI : Rnd:=aft z6G
   refine WC.b ?_
   refine WC.b ?_
   refine WC.a ?_
   refine WL.a (d:=39) rfl rfl rfl (q_fieldAddr fo_90_0 rfl rfl) ?_
   refine WL.a (d:=40) rfl rfl rfl (q_load1 oneT_31 rfl (rd_stb .h1 rfl)) ?_
   refine WL.a (d:=41) rfl rfl rfl (q_neq rfl rfl) ?_
   refine WL.nil ?_
   refine WX.a ?_
   refine WC.cond rfl (fun zjW=>?_) (fun zjW=>?_)
   ·replace h:=ite_t h zjW
    refine WC.b ?_
    refine WC.draw (fun i=>[].contains i) [] rfl ?_
    refine WD.a (i:=0) (d:=42) (by kernel_rfl) rfl (z6 (by kernel_rfl)) (z7 (by kernel_rfl)) rfl rfl rfl (fun _=>q_fieldAddr fo_90_0 rfl rfl) ?_
    refine WD.e (i:=1) (d:=43) (by kernel_rfl) rfl (z6 (by kernel_rfl)) (z7 (by kernel_rfl)) rfl rfl rfl (q_load1 oneT_31 rfl (rd_stb .h1 rfl)) ?_
    refine WD.a (i:=2) (d:=2) (by kernel_rfl) rfl (z6 (by kernel_rfl)) (z7 (by kernel_rfl)) rfl rfl rfl (fun _=>q_z rfl) ?_
    refine WD.a (i:=3) (d:=3) (by kernel_rfl) rfl (z6 (by kernel_rfl)) (z7 (by kernel_rfl)) rfl rfl rfl (fun _=>q_z rfl) ?_
    refine WD.done (by kernel_rfl) ?_
    refine WX.a ?_
    refine WC.ret ?_
    refine WX.thenRet ?_
    refine WX.nilRow 30 2 ?_
    obtain rfl:=Option.some.inj h
    refine WX.bpRetD .h5 Try.results68 (.tmp rfl (.tmp rfl .nil)) (fun w hw=>?_)
    exact ⟨z5K,none,0,ret2 rfl rfl,trivial,hw.sub (.cons .h2 (.cons .h1 .nil))⟩
   ·replace h:=ite_f h zjW
    refine WC.skip ?_
    refine WX.a ?_
    refine WC.b ?_
    obtain ⟨z4P,ztN,h⟩:=zd h
    refine WC.a ?_
    refine WL.a (d:=44) rfl rfl rfl (q_load1 oneT_77 rfl (rd_stb .h2 rfl)) ?_
    refine WL.enter0 (dd:=45) rfl rfl rfl (zk (l:=[.tmp 44,.func 18]) Try.call77 (.cons rfl (.cons rfl .nil))) ((.cons .h3 .nil) : Sel [fz z5K,stb z1r 90 [(.int .i64 z5n)],stb z1C 77 [(.slice z3n z3H.length z3o)],row (.slice z3n z3H.length z3o) 30 2 (z3H.flatMap e30),dfr z6G] [row (.slice z3n z3H.length z3o) 30 2 (z3H.flatMap e30)] [fz z5K,stb z1r 90 [(.int .i64 z5n)],stb z1C 77 [(.slice z3n z3H.length z3o)],dfr z6G]) (fun w hw=>by have pz:=(hz.call2 hw ((.cons .h3 .nil) : Sel [fz z5K,stb z1r 90 [(.int .i64 z5n)],stb z1C 77 [(.slice z3n z3H.length z3o)],row (.slice z3n z3H.length z3o) 30 2 (z3H.flatMap e30),dfr z6G] [row (.slice z3n z3H.length z3o) 30 2 (z3H.flatMap e30)] [fz z5K,stb z1r 90 [(.int .i64 z5n)],stb z1C 77 [(.slice z3n z3H.length z3o)],dfr z6G]) .here); exact w_slices_SortFunc_api_Rat_api_Rat (Z:=_) (z56:=z3n) (z57:=z3o) (zb0:=18) (zdz:=[]) (z2t:=z3H) (zdy:=(fun (y0 : z2) (y1 : z2)=>m_rat_Cmp y0 y1)) (r:=z4P) w pz Try.call18 (fun w' hz' y0 y1  r  hr=>w_rat_Cmp (Z:=_)  (z2d:=y0) (z2e:=y1) (r:=r) w' hz'  hr) ztN (hw.owns ((.cons .h3 .nil) : Sel [fz z5K,stb z1r 90 [(.int .i64 z5n)],stb z1C 77 [(.slice z3n z3H.length z3o)],row (.slice z3n z3H.length z3o) 30 2 (z3H.flatMap e30),dfr z6G] [row (.slice z3n z3H.length z3o) 30 2 (z3H.flatMap e30)] [fz z5K,stb z1r 90 [(.int .i64 z5n)],stb z1C 77 [(.slice z3n z3H.length z3o)],dfr z6G]))) ?_
    rintro  ztO
    refine WL.restb (cs':=[(.slice z3n z4P.length z3o)]) .h3 (by rw [ztO]) ?_
    refine WL.nil ?_
    refine WX.a ?_
    refine WC.b ?_
    obtain ⟨zjS,ztP,h⟩:=zd h
    refine WC.a ?_
    refine WL.a (d:=46) rfl rfl rfl (q_load1 oneT_77 rfl (rd_stb .here rfl)) ?_
    refine WL.enter2 (dd:=47) rfl rfl rfl (zk (l:=[.tmp 46]) Try.call78 (.cons rfl .nil)) ((.cons .h1 .nil) : Sel [stb z1C 77 [(.slice z3n z4P.length z3o)],row (.slice z3n z4P.length z3o) 30 2 (z4P.flatMap e30),fz z5K,stb z1r 90 [(.int .i64 z5n)],dfr z6G] [row (.slice z3n z4P.length z3o) 30 2 (z4P.flatMap e30)] [stb z1C 77 [(.slice z3n z4P.length z3o)],fz z5K,stb z1r 90 [(.int .i64 z5n)],dfr z6G]) (fun w hw=>by have pz:=(hz.call2 hw ((.cons .h1 .nil) : Sel [stb z1C 77 [(.slice z3n z4P.length z3o)],row (.slice z3n z4P.length z3o) 30 2 (z4P.flatMap e30),fz z5K,stb z1r 90 [(.int .i64 z5n)],dfr z6G] [row (.slice z3n z4P.length z3o) 30 2 (z4P.flatMap e30)] [stb z1C 77 [(.slice z3n z4P.length z3o)],fz z5K,stb z1r 90 [(.int .i64 z5n)],dfr z6G]) .h1); exact w_slices_Compact_api_Rat_api_Rat (Z:=_) (z8P:=z3n) (z8Q:=z3o) (z1v:=z4P) (r:=zjS) w pz  ztP (hw.owns ((.cons .h1 .nil) : Sel [stb z1C 77 [(.slice z3n z4P.length z3o)],row (.slice z3n z4P.length z3o) 30 2 (z4P.flatMap e30),fz z5K,stb z1r 90 [(.int .i64 z5n)],dfr z6G] [row (.slice z3n z4P.length z3o) 30 2 (z4P.flatMap e30)] [stb z1C 77 [(.slice z3n z4P.length z3o)],fz z5K,stb z1r 90 [(.int .i64 z5n)],dfr z6G]))) ?_
    rintro ztQ ztR _
    refine WL.a (d:=2) rfl rfl rfl (q_z rfl) ?_
    refine WL.a (d:=3) rfl rfl rfl (q_z rfl) ?_
    refine WL.nil ?_
    refine WX.a ?_
    refine WC.ret ?_
    obtain rfl:=Option.some.inj h
    refine WX.bpRetD .h4 Try.results68 (.tmp rfl (.tmp rfl .nil)) (fun w hw=>?_)
    exact ⟨z5K,ztQ,ztR,ret2 rfl rfl,trivial,hw.sub (.cons .h3 (.cons .h1 .nil))⟩
def m_curve_Rate_1 (z2W : z1) (z2X : z1) : Option Int :=
 (m_rat_Cmp z2W.fRate z2X.fRate).bind fun zjX=>some zjX
set_option maxRecDepth 20000 in
theorem w_curve_Rate_1 (Z : Zp)   (z2W : z1) (z2X : z1) (r : Int) (w₀ : World) (hz : PZ [] w₀ Z)
  (h : m_curve_Rate_1 z2W z2X = some r) :
  Calls Try.prog 43 #[(.agg #[(.int .i64 z2W.fBurst.fN),(.int .i64 z2W.fBurst.fD),(.int .i64 z2W.fRate.fN),(.int .i64 z2W.fRate.fD)]),(.agg #[(.int .i64 z2X.fBurst.fN),(.int .i64 z2X.fBurst.fD),(.int .i64 z2X.fRate.fN),(.int .i64 z2X.fRate.fD)])] w₀ fun e w'=>e = .returned (.int .i64 r) ∧ Hp [] w₀ w' []:=by
 unfold m_curve_Rate_1 at h
 refine Calls.ofWC (vs:=[(.agg #[(.int .i64 z2W.fBurst.fN),(.int .i64 z2W.fBurst.fD),(.int .i64 z2W.fRate.fN),(.int .i64 z2W.fRate.fD)]),(.agg #[(.int .i64 z2X.fBurst.fN),(.int .i64 z2X.fBurst.fD),(.int .i64 z2X.fRate.fN),(.int .i64 z2X.fRate.fD)])]) (pre:=[]) (env:=[(0,(.agg #[(.int .i64 z2W.fBurst.fN),(.int .i64 z2W.fBurst.fD),(.int .i64 z2W.fRate.fN),(.int .i64 z2W.fRate.fD)])),(1,(.agg #[(.int .i64 z2X.fBurst.fN),(.int .i64 z2X.fBurst.fD),(.int .i64 z2X.fRate.fN),(.int .i64 z2X.fRate.fD)]))]) Try.func43 rfl Try.ntmps43 rfl (Hp.nil w₀ _) rfl ?_
 refine WC.b ?_
 refine WC.a ?_
 refine WL.new (dd:=2) rfl rfl rfl (e_box (cs:=[(.int .i64 z2W.fBurst.fN),(.int .i64 z2W.fBurst.fD),(.int .i64 z2W.fRate.fN),(.int .i64 z2W.fRate.fD)]) rfl rfl) ?_
 intro zgU _
 refine WL.new (dd:=3) rfl rfl rfl (e_box (cs:=[(.int .i64 z2X.fBurst.fN),(.int .i64 z2X.fBurst.fD),(.int .i64 z2X.fRate.fN),(.int .i64 z2X.fRate.fD)]) rfl rfl) ?_
 intro zgV _
 refine WL.a (d:=4) rfl rfl rfl (q_z rfl) ?_
 refine WL.nil ?_
 refine WX.a ?_
 refine WC.b ?_
 obtain ⟨zjX,ztS,h⟩:=zd h
 refine WC.a ?_
 refine WL.a (d:=5) rfl rfl rfl (q_fieldAddr fo_35_1 rfl rfl) ?_
 refine WL.a (d:=6) rfl rfl rfl (q_loadA (cs:=[(.int .i64 z2W.fRate.fN),(.int .i64 z2W.fRate.fD)]) aggT_30 rfl rfl (rd_sub (s:=2) .h1 rfl)) ?_
 refine WL.a (d:=7) rfl rfl rfl (q_fieldAddr fo_35_1 rfl rfl) ?_
 refine WL.a (d:=8) rfl rfl rfl (q_loadA (cs:=[(.int .i64 z2X.fRate.fN),(.int .i64 z2X.fRate.fD)]) aggT_30 rfl rfl (rd_sub (s:=2) .here rfl)) ?_
 refine WL.b (dd:=9) rfl rfl rfl (zk (l:=[.tmp 6,.tmp 8]) Try.call18 (.cons rfl (.cons rfl .nil))) (.nil : Sel [stb zgV 35 [(.int .i64 z2X.fBurst.fN),(.int .i64 z2X.fBurst.fD),(.int .i64 z2X.fRate.fN),(.int .i64 z2X.fRate.fD)],stb zgU 35 [(.int .i64 z2W.fBurst.fN),(.int .i64 z2W.fBurst.fD),(.int .i64 z2W.fRate.fN),(.int .i64 z2W.fRate.fD)]] [] [stb zgV 35 [(.int .i64 z2X.fBurst.fN),(.int .i64 z2X.fBurst.fD),(.int .i64 z2X.fRate.fN),(.int .i64 z2X.fRate.fD)],stb zgU 35 [(.int .i64 z2W.fBurst.fN),(.int .i64 z2W.fBurst.fD),(.int .i64 z2W.fRate.fN),(.int .i64 z2W.fRate.fD)]]) (fun w hw=>by have pz:=(hz.call hw (.nil : Sel [stb zgV 35 [(.int .i64 z2X.fBurst.fN),(.int .i64 z2X.fBurst.fD),(.int .i64 z2X.fRate.fN),(.int .i64 z2X.fRate.fD)],stb zgU 35 [(.int .i64 z2W.fBurst.fN),(.int .i64 z2W.fBurst.fD),(.int .i64 z2W.fRate.fN),(.int .i64 z2W.fRate.fD)]] [] [stb zgV 35 [(.int .i64 z2X.fBurst.fN),(.int .i64 z2X.fBurst.fD),(.int .i64 z2X.fRate.fN),(.int .i64 z2X.fRate.fD)],stb zgU 35 [(.int .i64 z2W.fBurst.fN),(.int .i64 z2W.fBurst.fD),(.int .i64 z2W.fRate.fN),(.int .i64 z2W.fRate.fD)]])); exact w_rat_Cmp (Z:=_)  (z2d:=z2W.fRate) (z2e:=z2X.fRate) (r:=zjX) w pz  ztS) ?_
 refine WL.a (d:=4) rfl rfl rfl (q_z rfl) ?_
 refine WL.nil ?_
 refine WX.a ?_
 refine WC.ret ?_
 obtain rfl:=Option.some.inj h
 refine WX.bpRet Try.results43 (.tmp rfl .nil) (fun w hw=>?_)
 exact ⟨ret1 rfl,hw.sub .nil⟩
def m_slices_MinFunc_api_Curve_api_Bucket_L2 (z1k : List z1) (z8R : z1 → z1 → Option Int) (za8 : Int → Int → Int → Int → Option z1) : Nat → Int → Int → Int → Int → Int → Option z1
 | 0,_,_,_,_,_=>none
 | zjY + 1,z2i,z71,z72,z73,z74=>if decide (z2i < ((z1k.length : Nat) : Int)) then jp4 (fun (za9 : Int) (zaa : Int) (zab : Int) (zac : Int)=>m_slices_MinFunc_api_Curve_api_Bucket_L2 z1k z8R za8 zjY (i64 (z2i + 1)) za9 zaa zab zac) fun zgW=>chk ((0 : Int) ≤ z2i ∧ z2i < ((z1k.length : Nat) : Int)) ((z8R (⟨(⟨(((nth z1k z2i).fBurst).fN),(((nth z1k z2i).fBurst).fD)⟩ : z2),(⟨(((nth z1k z2i).fRate).fN),(((nth z1k z2i).fRate).fD)⟩ : z2)⟩ : z1) (⟨(⟨z71,z72⟩ : z2),(⟨z73,z74⟩ : z2)⟩ : z1)).bind fun zjZ=>if decide (zjZ < 0) then chk ((0 : Int) ≤ z2i ∧ z2i < ((z1k.length : Nat) : Int)) (zgW (((nth z1k z2i).fBurst).fN) (((nth z1k z2i).fBurst).fD) (((nth z1k z2i).fRate).fN) (((nth z1k z2i).fRate).fD)) else zgW z71 z72 z73 z74) else za8 z71 z72 z73 z74
theorem m_slices_MinFunc_api_Curve_api_Bucket_L2_fuel {n : Nat} {z1k : List z1} {z8R : z1 → z1 → Option Int} {za8 : Int → Int → Int → Int → Option z1} {z2i : Int} {z71 : Int} {z72 : Int} {z73 : Int} {z74 : Int} {r : z1} (h : m_slices_MinFunc_api_Curve_api_Bucket_L2 z1k z8R za8 n z2i z71 z72 z73 z74 = some r) : ∃ m,n = m + 1:=by
 cases n with
 | zero=>cases h
 | succ m=>exact ⟨m,rfl⟩
def m_slices_MinFunc_api_Curve_api_Bucket (z1k : List z1) (z8R : z1 → z1 → Option Int) : Option z1 :=
 if decide (((z1k.length : Nat) : Int) < 1) then none else chk ((0 : Int) ≤ 0 ∧ 0 < ((z1k.length : Nat) : Int)) (jp4 (fun (z8S : Int) (z8T : Int) (z8U : Int) (z8V : Int)=>some (⟨(⟨z8S,z8T⟩ : z2),(⟨z8U,z8V⟩ : z2)⟩ : z1)) fun za8=>m_slices_MinFunc_api_Curve_api_Bucket_L2 z1k z8R za8 FUEL 1 (((nth z1k 0).fBurst).fN) (((nth z1k 0).fBurst).fD) (((nth z1k 0).fRate).fN) (((nth z1k 0).fRate).fD))
set_option maxRecDepth 20000 in
theorem w_slices_MinFunc_api_Curve_api_Bucket (Z : Zp)  (zcg : Option Addr) (zch : Nat) (z9l : FuncId) (zb1 : List Value) (z1k : List z1) (z8R : z1 → z1 → Option Int) (r : z1) (w₀ : World) (hz : PZ [] w₀ Z)
  (zk0 : ZS Z 4 (fun r x=>r = e35 x) zcg zch z1k)
  (ztT : ∀ args w,(callFunc z9l args).run Try.prog w = .ok (.enter z9l args) w)
  (ztU : ∀ w : World,PZ [] w Z → ∀ (x0 : z1) (x1 : z1) (r : Int),z8R x0 x1 = some r → Calls Try.prog z9l (([(.agg #[(.int .i64 x0.fBurst.fN),(.int .i64 x0.fBurst.fD),(.int .i64 x0.fRate.fN),(.int .i64 x0.fRate.fD)]),(.agg #[(.int .i64 x1.fBurst.fN),(.int .i64 x1.fBurst.fD),(.int .i64 x1.fRate.fN),(.int .i64 x1.fRate.fD)])] : List Value) ++ zb1).toArray w fun e w'=>e = .returned (.int .i64 r) ∧ Hp [] w w' [])
  (h : m_slices_MinFunc_api_Curve_api_Bucket z1k z8R = some r) :
  Calls Try.prog 42 #[(.slice zcg z1k.length zch),(.func (.func z9l) #[] (zb1).toArray)] w₀ fun e w'=>e = .returned (.agg #[(.int .i64 r.fBurst.fN),(.int .i64 r.fBurst.fD),(.int .i64 r.fRate.fN),(.int .i64 r.fRate.fD)]) ∧ Hp [] w₀ w' []:=by
 unfold m_slices_MinFunc_api_Curve_api_Bucket at h
 refine Calls.ofWC (vs:=[(.slice zcg z1k.length zch),(.func (.func z9l) #[] (zb1).toArray)]) (pre:=[]) (env:=[(0,(.slice zcg z1k.length zch)),(1,(.func (.func z9l) #[] (zb1).toArray))]) Try.func42 rfl Try.ntmps42 rfl (Hp.nil w₀ _) rfl ?_
 refine WC.b ?_
 refine WC.a ?_
 refine WL.new (dd:=4) rfl rfl rfl (e_alloc (cs:=[(.int .i64 0),(.int .i64 0),(.int .i64 0),(.int .i64 0)]) zeroT_35 rfl) ?_
 intro zdI _
 refine WL.nil ?_
 refine WX.a ?_
 refine WC.b ?_
 refine WC.b ?_
 refine WC.a ?_
 refine WL.a (d:=7) rfl rfl rfl (q_m rfl) ?_
 refine WL.a (d:=8) rfl rfl rfl (q_len Try.underlying39 rfl) ?_
 refine WL.a (d:=9) rfl rfl rfl (q_lss rfl rfl) ?_
 refine WL.nil ?_
 refine WX.a ?_
 refine WC.cond rfl (fun zk1=>?_) (fun zk1=>?_)
 ·replace h:=ite_t h zk1
  cases h
 ·replace h:=ite_f h zk1
  refine WC.skip ?_
  refine WX.a ?_
  refine WC.b ?_
  obtain ⟨ztV,h⟩:=chk_elim h
  refine WC.a ?_
  refine WL.a (d:=11) rfl rfl rfl (q_m rfl) ?_
  refine WL.znth (dd:=12) rfl rfl (Z:=Z) (Pr:=(fun r x=>r = e35 x)) elT_39 rfl rfl zk0 ztV ?_
  rintro zzZ zA0 ztW zA1 rfl
  refine WL.a (d:=13) rfl rfl rfl (q_loadA (cs:=[(.int .i64 (((nth z1k 0).fBurst).fN)),(.int .i64 (((nth z1k 0).fBurst).fD)),(.int .i64 (((nth z1k 0).fRate).fN)),(.int .i64 (((nth z1k 0).fRate).fD))]) aggT_35 rfl rfl (rd_zs hz.pv ztW)) ?_
  refine WL.new (dd:=5) rfl rfl rfl (e_alloc (cs:=[(.int .i64 0),(.int .i64 0),(.int .i64 0),(.int .i64 0)]) zeroT_35 rfl) ?_
  intro zdJ _
  refine WL.eff0 rfl rfl (e_store (vs:=[(.int .i64 (((nth z1k 0).fBurst).fN)),(.int .i64 (((nth z1k 0).fBurst).fD)),(.int .i64 (((nth z1k 0).fRate).fN)),(.int .i64 (((nth z1k 0).fRate).fD))]) (ds:=[(.int .i64 (((nth z1k 0).fBurst).fN)),(.int .i64 (((nth z1k 0).fBurst).fD)),(.int .i64 (((nth z1k 0).fRate).fN)),(.int .i64 (((nth z1k 0).fRate).fD))]) sizT_35 rfl rfl rfl rfl (oc_cons rfl (oc_cons rfl (oc_cons rfl (oc_cons rfl oc_nil)))) .here (Nat.le_of_ble_eq_true rfl) rfl) ?_
  refine WL.nil ?_
  refine WX.a ?_
  obtain ⟨za8,ztX,h⟩:=jp4_elim h
  refine WC.seqMid4 (fun (z8S : Int) (z8T : Int) (z8U : Int) (z8V : Int)=>(za8 z8S z8T z8U z8V = some r)) (fun (z8S : Int) (z8T : Int) (z8U : Int) (z8V : Int)=>[(4,(.pointer (some ⟨zdI,0,none⟩))),(5,(.pointer (some ⟨zdJ,0,none⟩)))]) (fun (z8S : Int) (z8T : Int) (z8U : Int) (z8V : Int)=>[stb zdI 35 [(.int .i64 0),(.int .i64 0),(.int .i64 0),(.int .i64 0)],stb zdJ 35 [(.int .i64 z8S),(.int .i64 z8T),(.int .i64 z8U),(.int .i64 z8V)]]) ?_ ?_
  ·skip
   refine WC.b ?_
   refine WC.a ?_
   refine WL.a (d:=6) rfl rfl rfl (q_z rfl) ?_
   refine WL.nil ?_
   refine WX.a ?_
   refine WC.block ?_
   refine WC.loop6 (fun (zdK : Nat) (z2i : Int) (z71 : Int) (z72 : Int) (z73 : Int) (z74 : Int)=>(m_slices_MinFunc_api_Curve_api_Bucket_L2 z1k z8R za8 zdK z2i z71 z72 z73 z74 = some r)) (fun (zdK : Nat) (z2i : Int) (z71 : Int) (z72 : Int) (z73 : Int) (z74 : Int)=>[(0,(.slice zcg z1k.length zch)),(1,(.func (.func z9l) #[] (zb1).toArray)),(4,(.pointer (some ⟨zdI,0,none⟩))),(5,(.pointer (some ⟨zdJ,0,none⟩))),(6,(.int .i64 z2i))]) (fun (zdK : Nat) (z2i : Int) (z71 : Int) (z72 : Int) (z73 : Int) (z74 : Int)=>[stb zdI 35 [(.int .i64 0),(.int .i64 0),(.int .i64 0),(.int .i64 0)],stb zdJ 35 [(.int .i64 z71),(.int .i64 z72),(.int .i64 z73),(.int .i64 z74)]]) (fun (zdK : Nat) (z2i : Int) (z71 : Int) (z72 : Int) (z73 : Int) (z74 : Int)=>zdK) ⟨FUEL,1,(((nth z1k 0).fBurst).fN),(((nth z1k 0).fBurst).fD),(((nth z1k 0).fRate).fN),(((nth z1k 0).fRate).fD)⟩ h (.cons rfl (.cons rfl (.cons rfl (.cons rfl (.cons rfl .nil))))) (.cons .h1 (.cons .here .nil)) ?_
   rintro zdK z2i z71 z72 z73 z74 h
   obtain ⟨zjY,rfl⟩:=m_slices_MinFunc_api_Curve_api_Bucket_L2_fuel h
   rw [m_slices_MinFunc_api_Curve_api_Bucket_L2] at h
   refine WC.b ?_
   refine WC.b ?_
   refine WC.a ?_
   refine WL.a (d:=14) rfl rfl rfl (q_m rfl) ?_
   refine WL.a (d:=15) rfl rfl rfl (q_m rfl) ?_
   refine WL.a (d:=16) rfl rfl rfl (q_len Try.underlying39 rfl) ?_
   refine WL.a (d:=17) rfl rfl rfl (q_lss rfl rfl) ?_
   refine WL.nil ?_
   refine WX.a ?_
   refine WC.cond rfl (fun zk2=>?_) (fun zk2=>?_)
   ·replace h:=ite_t h zk2
    refine WC.skip ?_
    refine WX.a ?_
    obtain ⟨zgW,ztY,h⟩:=jp4_elim h
    refine WC.seqMid4 (fun (za9 : Int) (zaa : Int) (zab : Int) (zac : Int)=>(zgW za9 zaa zab zac = some r)) (fun (za9 : Int) (zaa : Int) (zab : Int) (zac : Int)=>[(0,(.slice zcg z1k.length zch)),(1,(.func (.func z9l) #[] (zb1).toArray)),(4,(.pointer (some ⟨zdI,0,none⟩))),(5,(.pointer (some ⟨zdJ,0,none⟩))),(6,(.int .i64 z2i))]) (fun (za9 : Int) (zaa : Int) (zab : Int) (zac : Int)=>[stb zdI 35 [(.int .i64 0),(.int .i64 0),(.int .i64 0),(.int .i64 0)],stb zdJ 35 [(.int .i64 za9),(.int .i64 zaa),(.int .i64 zab),(.int .i64 zac)]]) ?_ ?_
    ·skip
     refine WC.block ?_
     refine WC.b ?_
     obtain ⟨ztZ,h⟩:=chk_elim h
     obtain ⟨zjZ,zu0,h⟩:=zd h
     refine WC.draw (fun i=>[].contains i) [] rfl ?_
     refine WD.a (i:=0) (d:=20) (by kernel_rfl) rfl (z6 (by kernel_rfl)) (z7 (by kernel_rfl)) rfl rfl rfl (fun _=>q_m rfl) ?_
     refine WD.a (i:=1) (d:=21) (by kernel_rfl) rfl (z6 (by kernel_rfl)) (z7 (by kernel_rfl)) rfl rfl rfl (fun _=>q_m rfl) ?_
     refine WD.a (i:=2) (d:=22) (by kernel_rfl) rfl (z6 (by kernel_rfl)) (z7 (by kernel_rfl)) rfl rfl rfl (fun _=>q_m rfl) ?_
     refine WD.znth (j:=3) (dd:=23) (by kernel_rfl) rfl (z6 (by kernel_rfl)) (z7 (by kernel_rfl)) rfl rfl (Z:=Z) (Pr:=(fun r x=>r = e35 x)) elT_39 rfl rfl zk0 ztZ ?_
     rintro zA2 zA3 zu1 zA4 rfl
     refine WD.e (i:=4) (d:=24) (by kernel_rfl) rfl (z6 (by kernel_rfl)) (z7 (by kernel_rfl)) rfl rfl rfl (q_loadA (cs:=[(.int .i64 (((nth z1k z2i).fBurst).fN)),(.int .i64 (((nth z1k z2i).fBurst).fD)),(.int .i64 (((nth z1k z2i).fRate).fN)),(.int .i64 (((nth z1k z2i).fRate).fD))]) aggT_35 rfl rfl (rd_zs hz.pv zu1)) ?_
     refine WD.e (i:=5) (d:=25) (by kernel_rfl) rfl (z6 (by kernel_rfl)) (z7 (by kernel_rfl)) rfl rfl rfl (q_loadA (cs:=[(.int .i64 z71),(.int .i64 z72),(.int .i64 z73),(.int .i64 z74)]) aggT_35 rfl rfl (rd_all .h1)) ?_
     refine WD.c (i:=6) (d:=26) (by kernel_rfl) rfl (z6 (by kernel_rfl)) (z7 (by kernel_rfl)) rfl rfl rfl (run_callv (l:=[.tmp 24,.tmp 25]) (f:=z9l) (caps:=zb1) ztT rfl (.cons rfl (.cons rfl .nil))) (fun w hw=>ztU w (hz.now hw) (⟨(⟨(((nth z1k z2i).fBurst).fN),(((nth z1k z2i).fBurst).fD)⟩ : z2),(⟨(((nth z1k z2i).fRate).fN),(((nth z1k z2i).fRate).fD)⟩ : z2)⟩ : z1) (⟨(⟨z71,z72⟩ : z2),(⟨z73,z74⟩ : z2)⟩ : z1) zjZ  zu0) ?_
     refine WD.a (i:=7) (d:=27) (by kernel_rfl) rfl (z6 (by kernel_rfl)) (z7 (by kernel_rfl)) rfl rfl rfl (fun _=>q_lss rfl rfl) ?_
     refine WD.done (by kernel_rfl) ?_
     refine WX.a ?_
     refine WC.cond rfl (fun zk3=>?_) (fun zk3=>?_)
     ·replace h:=ite_t h zk3
      obtain ⟨zu2,h⟩:=chk_elim h
      refine WC.a ?_
      refine WL.a (d:=28) rfl rfl rfl (q_m rfl) ?_
      refine WL.a (d:=29) rfl rfl rfl (q_m rfl) ?_
      refine WL.znth (dd:=30) rfl rfl (Z:=Z) (Pr:=(fun r x=>r = e35 x)) elT_39 rfl rfl zk0 zu2 ?_
      rintro zA5 zA6 zu3 zA7 rfl
      refine WL.a (d:=31) rfl rfl rfl (q_loadA (cs:=[(.int .i64 (((nth z1k z2i).fBurst).fN)),(.int .i64 (((nth z1k z2i).fBurst).fD)),(.int .i64 (((nth z1k z2i).fRate).fN)),(.int .i64 (((nth z1k z2i).fRate).fD))]) aggT_35 rfl rfl (rd_zs hz.pv zu3)) ?_
      refine WL.eff0 rfl rfl (e_store (vs:=[(.int .i64 (((nth z1k z2i).fBurst).fN)),(.int .i64 (((nth z1k z2i).fBurst).fD)),(.int .i64 (((nth z1k z2i).fRate).fN)),(.int .i64 (((nth z1k z2i).fRate).fD))]) (ds:=[(.int .i64 (((nth z1k z2i).fBurst).fN)),(.int .i64 (((nth z1k z2i).fBurst).fD)),(.int .i64 (((nth z1k z2i).fRate).fN)),(.int .i64 (((nth z1k z2i).fRate).fD))]) sizT_35 rfl rfl rfl rfl (oc_cons rfl (oc_cons rfl (oc_cons rfl (oc_cons rfl oc_nil)))) .h1 (Nat.le_of_ble_eq_true rfl) rfl) ?_
      refine WL.nil ?_
      refine WX.blockNormal ?_
      exact WX.mid (G:=Int × Int × Int × Int) ⟨(((nth z1k z2i).fBurst).fN),(((nth z1k z2i).fBurst).fD),(((nth z1k z2i).fRate).fN),(((nth z1k z2i).fRate).fD)⟩ h (.cons rfl (.cons rfl (.cons rfl (.cons rfl (.cons rfl .nil))))) (.cons .h1 (.cons .here .nil))
     ·replace h:=ite_f h zk3
      refine WC.skip ?_
      refine WX.blockNormal ?_
      exact WX.mid (G:=Int × Int × Int × Int) ⟨z71,z72,z73,z74⟩ h (.cons rfl (.cons rfl (.cons rfl (.cons rfl (.cons rfl .nil))))) (.cons .here (.cons .here .nil))
    ·rintro za9 zaa zab zac h
     replace h:=(ztY za9 zaa zab zac).symm.trans h
     refine WC.a ?_
     refine WL.a (d:=18) rfl rfl rfl (q_m rfl) ?_
     refine WL.a (d:=19) rfl rfl rfl (q_add rfl rfl rfl) ?_
     refine WL.a (d:=6) rfl rfl rfl (q_z rfl) ?_
     refine WL.nil ?_
     exact WX.round (G:=Nat × Int × Int × Int × Int × Int) ⟨zjY,(i64 (z2i + 1)),za9,zaa,zab,zac⟩ h (Nat.lt_succ_self _) (.cons rfl (.cons rfl (.cons rfl (.cons rfl (.cons rfl .nil))))) (.cons .here (.cons .here .nil))
   ·replace h:=ite_f h zk2
    refine WC.exit ?_
    refine WX.thenExit ?_
    refine WX.thenExit ?_
    refine WX.blockHit ?_
    exact WX.mid (G:=Int × Int × Int × Int) ⟨z71,z72,z73,z74⟩ h (.cons rfl (.cons rfl .nil)) (.cons .here (.cons .here .nil))
  ·rintro z8S z8T z8U z8V h
   replace h:=(ztX z8S z8T z8U z8V).symm.trans h
   refine WC.b ?_
   refine WC.a ?_
   refine WL.a (d:=32) rfl rfl rfl (q_loadA (cs:=[(.int .i64 z8S),(.int .i64 z8T),(.int .i64 z8U),(.int .i64 z8V)]) aggT_35 rfl rfl (rd_all .h1)) ?_
   refine WL.eff0 rfl rfl (e_store (vs:=[(.int .i64 z8S),(.int .i64 z8T),(.int .i64 z8U),(.int .i64 z8V)]) (ds:=[(.int .i64 z8S),(.int .i64 z8T),(.int .i64 z8U),(.int .i64 z8V)]) sizT_35 rfl rfl rfl rfl (oc_cons rfl (oc_cons rfl (oc_cons rfl (oc_cons rfl oc_nil)))) .here (Nat.le_of_ble_eq_true rfl) rfl) ?_
   refine WL.nil ?_
   refine WX.a ?_
   refine WC.ret ?_
   obtain rfl:=Option.some.inj h
   refine WX.bpRet Try.results42 (.agg rfl aggT_35 rfl (rd_all .here) .nil) (fun w hw=>?_)
   exact ⟨ret1 rfl,hw.sub .nil⟩
def m_curve_Rate (z8h : List z1) : Option (z2 × Int) :=
 (m_curve_Valid z8h).bind fun zk4=>if !zk4 then some ((⟨0,0⟩ : z2),2) else (m_slices_MinFunc_api_Curve_api_Bucket z8h (fun (y0 : z1) (y1 : z1)=>m_curve_Rate_1 y0 y1)).bind fun zad=>some (zad.fRate,0)
set_option maxRecDepth 20000 in
theorem w_curve_Rate (Z : Zp)  (zb2 : Option Addr) (zb3 : Nat) (z8h : List z1) (r : z2 × Int) (w₀ : World) (hz : PZ [] w₀ Z)
  (zoS : ZS Z 4 (fun r x=>r = e35 x) zb2 zb3 z8h)
  (h : m_curve_Rate z8h = some r) :
  Calls Try.prog 21 #[(.slice zb2 z8h.length zb3)] w₀ fun e w'=>e = .returned (.tuple #[(.agg #[(.int .i64 r.1.fN),(.int .i64 r.1.fD)]),(.int .i64 r.2)]) ∧ Hp [] w₀ w' []:=by
 unfold m_curve_Rate at h
 refine Calls.ofWC (vs:=[(.slice zb2 z8h.length zb3)]) (pre:=[]) (env:=[(0,(.slice zb2 z8h.length zb3))]) Try.func21 rfl Try.ntmps21 rfl (Hp.nil w₀ _) rfl ?_
 refine WC.b ?_
 refine WC.a ?_
 refine WL.new (dd:=2) rfl rfl rfl (e_alloc (cs:=[(.int .i64 0),(.int .i64 0)]) zeroT_30 rfl) ?_
 intro zb4 _
 refine WL.a (d:=3) rfl rfl rfl (q_z rfl) ?_
 refine WL.nil ?_
 refine WX.a ?_
 refine WC.b ?_
 refine WC.b ?_
 obtain ⟨zk4,zu4,h⟩:=zd h
 refine WC.a ?_
 refine WL.a (d:=4) rfl rfl rfl (q_m rfl) ?_
 refine WL.b (dd:=5) rfl rfl rfl (zk (l:=[.tmp 4]) Try.call30 (.cons rfl .nil)) (.nil : Sel [stb zb4 30 [(.int .i64 0),(.int .i64 0)]] [] [stb zb4 30 [(.int .i64 0),(.int .i64 0)]]) (fun w hw=>by have pz:=(hz.call hw (.nil : Sel [stb zb4 30 [(.int .i64 0),(.int .i64 0)]] [] [stb zb4 30 [(.int .i64 0),(.int .i64 0)]])); exact w_curve_Valid (Z:=_) (z8b:=zb2) (z8c:=zb3) (z4Z:=z8h) (r:=zk4) w pz zoS zu4) ?_
 refine WL.a (d:=6) rfl rfl rfl (q_not rfl) ?_
 refine WL.nil ?_
 refine WX.a ?_
 refine WC.cond rfl (fun zk5=>?_) (fun zk5=>?_)
 ·replace h:=ite_t h zk5
  refine WC.b ?_
  refine WC.a ?_
  refine WL.a (d:=7) rfl rfl rfl (q_build (v:=(.agg #[(.int .i64 0),(.int .i64 0)])) (Eos.parts (l:=[]) .nil []) (fun _=>by kernel_rfl)) ?_
  refine WL.eff0 rfl rfl (e_store (vs:=[(.int .i64 0),(.int .i64 0)]) (ds:=[(.int .i64 0),(.int .i64 0)]) sizT_30 rfl rfl rfl rfl (oc_cons rfl (oc_cons rfl oc_nil)) .here (Nat.le_of_ble_eq_true rfl) rfl) ?_
  refine WL.a (d:=3) rfl rfl rfl (q_z rfl) ?_
  refine WL.nil ?_
  refine WX.a ?_
  refine WC.ret ?_
  refine WX.thenRet ?_
  obtain rfl:=Option.some.inj h
  refine WX.bpRet Try.results21 (.agg rfl aggT_30 rfl (rd_all .here) (.tmp rfl .nil)) (fun w hw=>?_)
  exact ⟨ret2 rfl rfl,hw.sub .nil⟩
 ·replace h:=ite_f h zk5
  refine WC.skip ?_
  refine WX.a ?_
  refine WC.b ?_
  obtain ⟨zad,zu5,h⟩:=zd h
  refine WC.a ?_
  refine WL.a (d:=8) rfl rfl rfl (q_m rfl) ?_
  refine WL.b (dd:=9) rfl rfl rfl (zk (l:=[.tmp 8,.func 43]) Try.call42 (.cons rfl (.cons rfl .nil))) (.nil : Sel [stb zb4 30 [(.int .i64 0),(.int .i64 0)]] [] [stb zb4 30 [(.int .i64 0),(.int .i64 0)]]) (fun w hw=>by have pz:=(hz.call hw (.nil : Sel [stb zb4 30 [(.int .i64 0),(.int .i64 0)]] [] [stb zb4 30 [(.int .i64 0),(.int .i64 0)]])); exact w_slices_MinFunc_api_Curve_api_Bucket (Z:=_) (zcg:=zb2) (zch:=zb3) (z9l:=43) (zb1:=[]) (z1k:=z8h) (z8R:=(fun (y0 : z1) (y1 : z1)=>m_curve_Rate_1 y0 y1)) (r:=zad) w pz zoS Try.call43 (fun w' hz' y0 y1  r  hr=>w_curve_Rate_1 (Z:=_)  (z2W:=y0) (z2X:=y1) (r:=r) w' hz'  hr) zu5) ?_
  refine WL.a (d:=10) rfl rfl rfl (q_fieldA (cs':=#[(.int .i64 zad.fRate.fN),(.int .i64 zad.fRate.fD)]) fldT_35_1 aggT_30 rfl rfl) ?_
  refine WL.eff0 rfl rfl (e_store (vs:=[(.int .i64 zad.fRate.fN),(.int .i64 zad.fRate.fD)]) (ds:=[(.int .i64 zad.fRate.fN),(.int .i64 zad.fRate.fD)]) sizT_30 rfl rfl rfl rfl (oc_cons rfl (oc_cons rfl oc_nil)) .here (Nat.le_of_ble_eq_true rfl) rfl) ?_
  refine WL.a (d:=3) rfl rfl rfl (q_z rfl) ?_
  refine WL.nil ?_
  refine WX.a ?_
  refine WC.ret ?_
  obtain rfl:=Option.some.inj h
  refine WX.bpRet Try.results21 (.agg rfl aggT_30 rfl (rd_all .here) (.tmp rfl .nil)) (fun w hw=>?_)
  exact ⟨ret2 rfl rfl,hw.sub .nil⟩
def m_rat_do_1 (zb5 : z2) (zb6 : z2) : Option (Int × Int) :=
 some ((i64 ((i64 (zb5.fN * zb6.fD)) + (i64 (zb6.fN * zb5.fD)))),(i64 (zb5.fD * zb6.fD)))
set_option maxRecDepth 20000 in
theorem w_rat_do_1 (Z : Zp)  (zf5 : Addr) (zf6 : Addr) (zb5 : z2) (zb6 : z2) (r : Int × Int) (w₀ : World) (hz : PZ [] w₀ Z)
  (zk6 : ZC Z zf5 [(.int .i64 zb5.fN),(.int .i64 zb5.fD)])
  (zk7 : ZC Z zf6 [(.int .i64 zb6.fN),(.int .i64 zb6.fD)])
  (h : m_rat_do_1 zb5 zb6 = some r) :
  Calls Try.prog 54 #[(.pointer (some zf5)),(.pointer (some zf6))] w₀ fun e w'=>e = .returned (.tuple #[(.int .i64 r.1),(.int .i64 r.2)]) ∧ Hp [] w₀ w' []:=by
 unfold m_rat_do_1 at h
 refine Calls.ofWC (vs:=[(.pointer (some zf5)),(.pointer (some zf6))]) (pre:=[]) (env:=[(0,(.pointer (some zf5))),(1,(.pointer (some zf6)))]) Try.func54 rfl Try.ntmps54 rfl (Hp.nil w₀ _) rfl ?_
 refine WC.b ?_
 refine WC.a ?_
 refine WL.a (d:=2) rfl rfl rfl (q_z rfl) ?_
 refine WL.a (d:=3) rfl rfl rfl (q_z rfl) ?_
 refine WL.nil ?_
 refine WX.a ?_
 refine WC.b ?_
 refine WC.draw (fun i=>[].contains i) [] rfl ?_
 refine WD.a (i:=0) (d:=4) (by kernel_rfl) rfl (z6 (by kernel_rfl)) (z7 (by kernel_rfl)) rfl rfl rfl (fun _=>q_fieldAddr fo_30_0 rfl rfl) ?_
 refine WD.e (i:=1) (d:=5) (by kernel_rfl) rfl (z6 (by kernel_rfl)) (z7 (by kernel_rfl)) rfl rfl rfl (q_load1 oneT_3 rfl (rd_zAt hz.pv zk6 rfl)) ?_
 refine WD.a (i:=2) (d:=6) (by kernel_rfl) rfl (z6 (by kernel_rfl)) (z7 (by kernel_rfl)) rfl rfl rfl (fun _=>q_fieldAddr fo_30_1 rfl rfl) ?_
 refine WD.e (i:=3) (d:=7) (by kernel_rfl) rfl (z6 (by kernel_rfl)) (z7 (by kernel_rfl)) rfl rfl rfl (q_load1 oneT_3 rfl (rd_zAt hz.pv zk7 rfl)) ?_
 refine WD.a (i:=4) (d:=8) (by kernel_rfl) rfl (z6 (by kernel_rfl)) (z7 (by kernel_rfl)) rfl rfl rfl (fun _=>q_mul rfl rfl rfl) ?_
 refine WD.a (i:=5) (d:=9) (by kernel_rfl) rfl (z6 (by kernel_rfl)) (z7 (by kernel_rfl)) rfl rfl rfl (fun _=>q_fieldAddr fo_30_0 rfl rfl) ?_
 refine WD.e (i:=6) (d:=10) (by kernel_rfl) rfl (z6 (by kernel_rfl)) (z7 (by kernel_rfl)) rfl rfl rfl (q_load1 oneT_3 rfl (rd_zAt hz.pv zk7 rfl)) ?_
 refine WD.a (i:=7) (d:=11) (by kernel_rfl) rfl (z6 (by kernel_rfl)) (z7 (by kernel_rfl)) rfl rfl rfl (fun _=>q_fieldAddr fo_30_1 rfl rfl) ?_
 refine WD.e (i:=8) (d:=12) (by kernel_rfl) rfl (z6 (by kernel_rfl)) (z7 (by kernel_rfl)) rfl rfl rfl (q_load1 oneT_3 rfl (rd_zAt hz.pv zk6 rfl)) ?_
 refine WD.a (i:=9) (d:=13) (by kernel_rfl) rfl (z6 (by kernel_rfl)) (z7 (by kernel_rfl)) rfl rfl rfl (fun _=>q_mul rfl rfl rfl) ?_
 refine WD.a (i:=10) (d:=14) (by kernel_rfl) rfl (z6 (by kernel_rfl)) (z7 (by kernel_rfl)) rfl rfl rfl (fun _=>q_add rfl rfl rfl) ?_
 refine WD.a (i:=11) (d:=15) (by kernel_rfl) rfl (z6 (by kernel_rfl)) (z7 (by kernel_rfl)) rfl rfl rfl (fun _=>q_fieldAddr fo_30_1 rfl rfl) ?_
 refine WD.e (i:=12) (d:=16) (by kernel_rfl) rfl (z6 (by kernel_rfl)) (z7 (by kernel_rfl)) rfl rfl rfl (q_load1 oneT_3 rfl (rd_zAt hz.pv zk6 rfl)) ?_
 refine WD.a (i:=13) (d:=17) (by kernel_rfl) rfl (z6 (by kernel_rfl)) (z7 (by kernel_rfl)) rfl rfl rfl (fun _=>q_fieldAddr fo_30_1 rfl rfl) ?_
 refine WD.e (i:=14) (d:=18) (by kernel_rfl) rfl (z6 (by kernel_rfl)) (z7 (by kernel_rfl)) rfl rfl rfl (q_load1 oneT_3 rfl (rd_zAt hz.pv zk7 rfl)) ?_
 refine WD.a (i:=15) (d:=19) (by kernel_rfl) rfl (z6 (by kernel_rfl)) (z7 (by kernel_rfl)) rfl rfl rfl (fun _=>q_mul rfl rfl rfl) ?_
 refine WD.a (i:=16) (d:=2) (by kernel_rfl) rfl (z6 (by kernel_rfl)) (z7 (by kernel_rfl)) rfl rfl rfl (fun _=>q_z rfl) ?_
 refine WD.a (i:=17) (d:=3) (by kernel_rfl) rfl (z6 (by kernel_rfl)) (z7 (by kernel_rfl)) rfl rfl rfl (fun _=>q_z rfl) ?_
 refine WD.done (by kernel_rfl) ?_
 refine WX.a ?_
 refine WC.ret ?_
 obtain rfl:=Option.some.inj h
 refine WX.bpRet Try.results54 (.tmp rfl (.tmp rfl .nil)) (fun w hw=>?_)
 exact ⟨ret2 rfl rfl,hw.sub .nil⟩
end Go.Proofs.Ytakfmdiiehcbdaa
