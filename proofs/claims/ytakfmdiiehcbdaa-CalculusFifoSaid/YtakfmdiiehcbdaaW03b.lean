/- A part of this claim's proof: models of functions, walks, plain laws. No conditions. -/
import Derived.Test.YtakfmdiiehcbdaaW03a
namespace Go.Proofs.Ytakfmdiiehcbdaa
open Go Go.RowKit Sep
set_option linter.all false
set_option maxRecDepth 30000
set_option maxHeartbeats 4000000
def m_curve_pairs_1_L4 (z15 : Type) (z2b : List z1) (z5Y : (z1 × z1) → z15 → Option (Bool × z15)) (z1S : List z1) (z1X : Int) (z9k : z15 → Option z15) : Nat → Int → z15 → Option z15
 | 0,_,_=>none
 | ziz + 1,z2N,z6h=>if decide (z2N < ((z2b.length : Nat) : Int)) then chk ((0 : Int) ≤ z2N ∧ z2N < ((z2b.length : Nat) : Int)) ((z5Y ((⟨(⟨(((nth z1S z1X).fBurst).fN),(((nth z1S z1X).fBurst).fD)⟩ : z2),(⟨(((nth z1S z1X).fRate).fN),(((nth z1S z1X).fRate).fD)⟩ : z2)⟩ : z1),(⟨(⟨(((nth z2b z2N).fBurst).fN),(((nth z2b z2N).fBurst).fD)⟩ : z2),(⟨(((nth z2b z2N).fRate).fN),(((nth z2b z2N).fRate).fD)⟩ : z2)⟩ : z1)) z6h).bind fun zbj=>if !zbj.1 then some zbj.2 else m_curve_pairs_1_L4 z15 z2b z5Y z1S z1X z9k ziz (i64 (z2N + 1)) zbj.2) else z9k z6h
theorem m_curve_pairs_1_L4_fuel {n : Nat} {z15 : Type} {z2b : List z1} {z5Y : (z1 × z1) → z15 → Option (Bool × z15)} {z1S : List z1} {z1X : Int} {z9k : z15 → Option z15} {z2N : Int} {z6h : z15} {r : z15} (h : m_curve_pairs_1_L4 z15 z2b z5Y z1S z1X z9k n z2N z6h = some r) : ∃ m,n = m + 1:=by
 cases n with
 | zero=>cases h
 | succ m=>exact ⟨m,rfl⟩
def m_curve_pairs_1_L3 (z15 : Type) (z1S : List z1) (z2b : List z1) (z5Y : (z1 × z1) → z15 → Option (Bool × z15)) (z9l : z15 → Option z15) : Nat → Int → z15 → Option z15
 | 0,_,_=>none
 | ziA + 1,z1X,z6P=>if decide (z1X < ((z1S.length : Nat) : Int)) then jp1 (fun (z8y : z15)=>m_curve_pairs_1_L3 z15 z1S z2b z5Y z9l ziA (i64 (z1X + 1)) z8y) fun ziB=>chk ((0 : Int) ≤ z1X ∧ z1X < ((z1S.length : Nat) : Int)) (jp1 (fun (z8z : z15)=>ziB z8z) fun z9k=>m_curve_pairs_1_L4 z15 z2b z5Y z1S z1X z9k FUEL 0 z6P) else z9l z6P
theorem m_curve_pairs_1_L3_fuel {n : Nat} {z15 : Type} {z1S : List z1} {z2b : List z1} {z5Y : (z1 × z1) → z15 → Option (Bool × z15)} {z9l : z15 → Option z15} {z1X : Int} {z6P : z15} {r : z15} (h : m_curve_pairs_1_L3 z15 z1S z2b z5Y z9l n z1X z6P = some r) : ∃ m,n = m + 1:=by
 cases n with
 | zero=>cases h
 | succ m=>exact ⟨m,rfl⟩
def m_curve_pairs_1 (z15 : Type) (z5Y : (z1 × z1) → z15 → Option (Bool × z15)) (s0_5333 : z15) (z1S : List z1) (z2b : List z1) : Option z15 :=
 jp1 (fun (z9m : z15)=>some z9m) fun z9l=>m_curve_pairs_1_L3 z15 z1S z2b z5Y z9l FUEL 0 s0_5333
set_option maxRecDepth 20000 in
theorem w_curve_pairs_1 (Z : Zp) (z15 : Type) (z9n : Nat) (z3q : Type) (z6A : z3q → z15 → Asrt) (z9o : z3q → z15 → Prop) (zac : z3q) (ze0 : Addr) (zbk : Option Addr) (zbl : Nat) (z9p : Addr) (zfI : Option Addr) (zfJ : Nat) (z5Y : (z1 × z1) → z15 → Option (Bool × z15)) (s0_5333 : z15) (z1S : List z1) (z2b : List z1) (r : z15) (w₀ : World) (hz : PZ (fps [z6A zac s0_5333]) w₀ Z)
  (zrc : YieldP Try.prog Z z9n (α:=z1 × z1) (σ:=z15) (G:=z3q) (H:=Unit) (fun h x=>[(.agg #[(.int .i64 x.1.fBurst.fN),(.int .i64 x.1.fBurst.fD),(.int .i64 x.1.fRate.fN),(.int .i64 x.1.fRate.fD)]),(.agg #[(.int .i64 x.2.fBurst.fN),(.int .i64 x.2.fBurst.fD),(.int .i64 x.2.fRate.fN),(.int .i64 x.2.fRate.fD)])]) (fun h x=>[]) z5Y z6A z9o)
  (zrd : z9o zac s0_5333)
  (zre : ZS Z 4 (fun r x=>r = e35 x) zbk zbl z1S)
  (zrf : ZC Z ze0 [(.slice zbk z1S.length zbl)])
  (zrg : ZS Z 4 (fun r x=>r = e35 x) zfI zfJ z2b)
  (zrh : ZC Z z9p [(.slice zfI z2b.length zfJ)])
  (h : m_curve_pairs_1 z15 z5Y s0_5333 z1S z2b = some r)
  (hown : Hp (fps [z6A zac s0_5333]) w₀ w₀ [z6A zac s0_5333]) :
  Calls Try.prog 89 #[(.func (.yield z9n) #[] #[]),(.pointer (some ze0)),(.pointer (some z9p))] w₀ fun e w'=>∃ zn8 : z3q,e = .returned (.tuple #[]) ∧ (z9o zn8 r) ∧ Hp (fps [z6A zac s0_5333]) w₀ w' [z6A zn8 r]:=by
 unfold m_curve_pairs_1 at h
 refine Calls.ofWC (vs:=[(.func (.yield z9n) #[] #[]),(.pointer (some ze0)),(.pointer (some z9p))]) (pre:=[z6A zac s0_5333]) (env:=[(0,(.func (.yield z9n) #[] #[])),(1,(.pointer (some ze0))),(2,(.pointer (some z9p)))]) Try.func89 rfl Try.ntmps89 rfl (hown) rfl ?_
 refine WC.seq ?_
 refine WC.region ?_
 refine WL.quiet (d:=8) rfl rfl rfl (q_load1 oneT_39 rfl (rd_z hz.pv zrf rfl)) ?_
 refine WL.quiet (d:=9) rfl rfl rfl (q_len Try.underlying39 rfl) ?_
 refine WL.quiet (d:=10) rfl rfl rfl (q_move rfl) ?_
 refine WL.nil ?_
 refine WX.then ?_
 obtain ⟨z9l,zri,h⟩:=jp1_elim h
 refine WC.mid2 (fun (z9m : z15) (zcF : z3q)=>(z9l z9m = some r) ∧ (z9o zcF z9m)) (fun (z9m : z15) (zcF : z3q)=>[]) (fun (z9m : z15) (zcF : z3q)=>[z6A zcF z9m]) ?_ ?_
 ·skip
  refine WC.block ?_
  refine WC.loop4 (fun (zcG : Nat) (z1X : Int) (z6P : z15) (zad : z3q)=>(m_curve_pairs_1_L3 z15 z1S z2b z5Y z9l zcG z1X z6P = some r) ∧ (z9o zad z6P)) (fun (zcG : Nat) (z1X : Int) (z6P : z15) (zad : z3q)=>[(0,(.func (.yield z9n) #[] #[])),(2,(.pointer (some z9p))),(8,(.slice zbk z1S.length zbl)),(9,(.int .i64 ((z1S.length : Nat) : Int))),(10,(.int .i64 z1X))]) (fun (zcG : Nat) (z1X : Int) (z6P : z15) (zad : z3q)=>[z6A zad z6P]) (fun (zcG : Nat) (z1X : Int) (z6P : z15) (zad : z3q)=>zcG) ⟨FUEL,0,s0_5333,zac⟩ ⟨h,zrd⟩ (.cons rfl (.cons rfl (.cons rfl (.cons rfl (.cons rfl .nil))))) (.cons .here .nil) ?_
  rintro zcG z1X z6P zad ⟨h,zn9⟩
  obtain ⟨ziA,rfl⟩:=m_curve_pairs_1_L3_fuel h
  rw [m_curve_pairs_1_L3] at h
  refine WC.seq ?_
  refine WC.region ?_
  refine WL.quiet (d:=11) rfl rfl rfl (q_lss rfl rfl) ?_
  refine WL.nil ?_
  refine WX.then ?_
  refine WC.seq ?_
  refine WC.cond rfl (fun ziC=>?_) (fun ziC=>?_)
  ·replace h:=ite_t h ziC
   refine WC.skip ?_
   refine WX.then ?_
   obtain ⟨ziB,zrj,h⟩:=jp1_elim h
   refine WC.seqMid2 (fun (z8y : z15) (zcH : z3q)=>(ziB z8y = some r) ∧ (z9o zcH z8y)) (fun (z8y : z15) (zcH : z3q)=>[(0,(.func (.yield z9n) #[] #[])),(2,(.pointer (some z9p))),(8,(.slice zbk z1S.length zbl)),(9,(.int .i64 ((z1S.length : Nat) : Int))),(10,(.int .i64 z1X))]) (fun (z8y : z15) (zcH : z3q)=>[z6A zcH z8y]) ?_ ?_
   ·skip
    refine WC.block ?_
    refine WC.seq ?_
    obtain ⟨zrk,h⟩:=chk_elim h
    refine WC.region ?_
    refine WL.znth (dd:=12) rfl rfl (Z:=Z) (Pr:=(fun r x=>r = e35 x)) elT_39 rfl rfl zre zrk ?_
    rintro zxv zxw zrl zxx rfl
    refine WL.quiet (d:=13) rfl rfl rfl (q_loadA (cs:=[(.int .i64 (((nth z1S z1X).fBurst).fN)),(.int .i64 (((nth z1S z1X).fBurst).fD)),(.int .i64 (((nth z1S z1X).fRate).fN)),(.int .i64 (((nth z1S z1X).fRate).fD))]) aggT_35 rfl rfl (rd_zs hz.pv zrl)) ?_
    refine WL.new (dd:=5) rfl rfl rfl (e_alloc (cs:=[(.int .i64 0),(.int .i64 0),(.int .i64 0),(.int .i64 0)]) zeroT_35 rfl) ?_
    intro zna _
    refine WL.eff0 rfl rfl (e_store (vs:=[(.int .i64 (((nth z1S z1X).fBurst).fN)),(.int .i64 (((nth z1S z1X).fBurst).fD)),(.int .i64 (((nth z1S z1X).fRate).fN)),(.int .i64 (((nth z1S z1X).fRate).fD))]) (ds:=[(.int .i64 (((nth z1S z1X).fBurst).fN)),(.int .i64 (((nth z1S z1X).fBurst).fD)),(.int .i64 (((nth z1S z1X).fRate).fN)),(.int .i64 (((nth z1S z1X).fRate).fD))]) sizT_35 rfl rfl rfl rfl (oc_cons rfl (oc_cons rfl (oc_cons rfl (oc_cons rfl oc_nil)))) .here (Nat.le_of_ble_eq_true rfl) rfl) ?_
    refine WL.nil ?_
    refine WX.then ?_
    refine WC.seq ?_
    refine WC.region ?_
    refine WL.quiet (d:=14) rfl rfl rfl (q_load1 oneT_39 rfl (rd_z hz.pv zrh rfl)) ?_
    refine WL.quiet (d:=15) rfl rfl rfl (q_len Try.underlying39 rfl) ?_
    refine WL.quiet (d:=16) rfl rfl rfl (q_move rfl) ?_
    refine WL.nil ?_
    refine WX.then ?_
    obtain ⟨z9k,zrm,h⟩:=jp1_elim h
    refine WC.mid2 (fun (z8z : z15) (zcI : z3q)=>(z9k z8z = some r) ∧ (z9o zcI z8z)) (fun (z8z : z15) (zcI : z3q)=>[(0,(.func (.yield z9n) #[] #[])),(2,(.pointer (some z9p))),(8,(.slice zbk z1S.length zbl)),(9,(.int .i64 ((z1S.length : Nat) : Int))),(10,(.int .i64 z1X))]) (fun (z8z : z15) (zcI : z3q)=>[z6A zcI z8z]) ?_ ?_
    ·skip
     refine WC.block ?_
     refine WC.loop4 (fun (zcJ : Nat) (z2N : Int) (z6h : z15) (z8A : z3q)=>(m_curve_pairs_1_L4 z15 z2b z5Y z1S z1X z9k zcJ z2N z6h = some r) ∧ (z9o z8A z6h)) (fun (zcJ : Nat) (z2N : Int) (z6h : z15) (z8A : z3q)=>[(0,(.func (.yield z9n) #[] #[])),(2,(.pointer (some z9p))),(5,(.pointer (some ⟨zna,0,none⟩))),(8,(.slice zbk z1S.length zbl)),(9,(.int .i64 ((z1S.length : Nat) : Int))),(10,(.int .i64 z1X)),(14,(.slice zfI z2b.length zfJ)),(15,(.int .i64 ((z2b.length : Nat) : Int))),(16,(.int .i64 z2N))]) (fun (zcJ : Nat) (z2N : Int) (z6h : z15) (z8A : z3q)=>[stb zna 35 [(.int .i64 (((nth z1S z1X).fBurst).fN)),(.int .i64 (((nth z1S z1X).fBurst).fD)),(.int .i64 (((nth z1S z1X).fRate).fN)),(.int .i64 (((nth z1S z1X).fRate).fD))],z6A z8A z6h]) (fun (zcJ : Nat) (z2N : Int) (z6h : z15) (z8A : z3q)=>zcJ) ⟨FUEL,0,z6P,zad⟩ ⟨h,zn9⟩ (.cons rfl (.cons rfl (.cons rfl (.cons rfl (.cons rfl (.cons rfl (.cons rfl (.cons rfl (.cons rfl .nil))))))))) (.cons .here (.cons .here .nil)) ?_
     rintro zcJ z2N z6h z8A ⟨h,znb⟩
     obtain ⟨ziz,rfl⟩:=m_curve_pairs_1_L4_fuel h
     rw [m_curve_pairs_1_L4] at h
     refine WC.seq ?_
     refine WC.region ?_
     refine WL.quiet (d:=17) rfl rfl rfl (q_lss rfl rfl) ?_
     refine WL.nil ?_
     refine WX.then ?_
     refine WC.seq ?_
     refine WC.cond rfl (fun ziD=>?_) (fun ziD=>?_)
     ·replace h:=ite_t h ziD
      refine WC.skip ?_
      refine WX.then ?_
      refine WC.seq ?_
      refine WC.block ?_
      refine WC.seq ?_
      obtain ⟨zrn,h⟩:=chk_elim h
      refine WC.region ?_
      refine WL.znth (dd:=18) rfl rfl (Z:=Z) (Pr:=(fun r x=>r = e35 x)) elT_39 rfl rfl zrg zrn ?_
      rintro zxy zxz zro zxA rfl
      refine WL.quiet (d:=19) rfl rfl rfl (q_loadA (cs:=[(.int .i64 (((nth z2b z2N).fBurst).fN)),(.int .i64 (((nth z2b z2N).fBurst).fD)),(.int .i64 (((nth z2b z2N).fRate).fN)),(.int .i64 (((nth z2b z2N).fRate).fD))]) aggT_35 rfl rfl (rd_zs hz.pv zro)) ?_
      refine WL.new (dd:=7) rfl rfl rfl (e_alloc (cs:=[(.int .i64 0),(.int .i64 0),(.int .i64 0),(.int .i64 0)]) zeroT_35 rfl) ?_
      intro zxB _
      refine WL.eff0 rfl rfl (e_store (vs:=[(.int .i64 (((nth z2b z2N).fBurst).fN)),(.int .i64 (((nth z2b z2N).fBurst).fD)),(.int .i64 (((nth z2b z2N).fRate).fN)),(.int .i64 (((nth z2b z2N).fRate).fD))]) (ds:=[(.int .i64 (((nth z2b z2N).fBurst).fN)),(.int .i64 (((nth z2b z2N).fBurst).fD)),(.int .i64 (((nth z2b z2N).fRate).fN)),(.int .i64 (((nth z2b z2N).fRate).fD))]) sizT_35 rfl rfl rfl rfl (oc_cons rfl (oc_cons rfl (oc_cons rfl (oc_cons rfl oc_nil)))) .here (Nat.le_of_ble_eq_true rfl) rfl) ?_
      refine WL.nil ?_
      refine WX.then ?_
      refine WC.seq ?_
      obtain ⟨zbj,zrp,h⟩:=ze h
      refine WC.region ?_
      refine WL.quiet (d:=20) rfl rfl rfl (q_move rfl) ?_
      refine WL.quiet (d:=21) rfl rfl rfl (q_loadA (cs:=[(.int .i64 (((nth z1S z1X).fBurst).fN)),(.int .i64 (((nth z1S z1X).fBurst).fD)),(.int .i64 (((nth z1S z1X).fRate).fN)),(.int .i64 (((nth z1S z1X).fRate).fD))]) aggT_35 rfl rfl (rd_all (.there .here))) ?_
      refine WL.quiet (d:=22) rfl rfl rfl (q_loadA (cs:=[(.int .i64 (((nth z2b z2N).fBurst).fN)),(.int .i64 (((nth z2b z2N).fBurst).fD)),(.int .i64 (((nth z2b z2N).fRate).fN)),(.int .i64 (((nth z2b z2N).fRate).fD))]) aggT_35 rfl rfl (rd_all .here)) ?_
      refine WL.yield (dd:=23) (x:=((⟨(⟨(((nth z1S z1X).fBurst).fN),(((nth z1S z1X).fBurst).fD)⟩ : z2),(⟨(((nth z1S z1X).fRate).fN),(((nth z1S z1X).fRate).fD)⟩ : z2)⟩ : z1),(⟨(⟨(((nth z2b z2N).fBurst).fN),(((nth z2b z2N).fBurst).fD)⟩ : z2),(⟨(((nth z2b z2N).fRate).fN),(((nth z2b z2N).fRate).fD)⟩ : z2)⟩ : z1))) (h:=()) (g:=z8A) (s:=z6h) (b:=zbj.1) (s':=zbj.2) zrc rfl rfl rfl (.cons rfl (.cons rfl .nil)) ((.cons (.there (.there .here)) .nil) : Sel _ [z6A z8A z6h] _) zrp znb (fun w hw=>hz.call hw ((.cons (.there (.there .here)) .nil) : Sel _ [z6A z8A z6h] _)) ?_
      intro znc znd
      refine WL.quiet (d:=24) rfl rfl rfl (q_not rfl) ?_
      refine WL.nil ?_
      refine WX.then ?_
      refine WC.cond rfl (fun ziE=>?_) (fun ziE=>?_)
      ·replace h:=ite_t h ziE
       refine WC.ret ?_
       refine WX.blockRet ?_
       refine WX.thenRet ?_
       refine WX.thenRet ?_
       refine WX.blockRet ?_
       refine WX.thenRet ?_
       refine WX.blockRet ?_
       refine WX.thenRet ?_
       refine WX.thenRet ?_
       refine WX.blockRet ?_
       refine WX.thenRet ?_
       obtain rfl:=Option.some.inj h
       refine WX.bpRet Try.results89 .nil (fun w hw=>?_)
       exact ⟨znc,ret0,znd,hw.sub (.cons .here .nil)⟩
      ·replace h:=ite_f h ziE
       refine WC.skip ?_
       refine WX.blockNormal ?_
       refine WX.then ?_
       refine WC.region ?_
       refine WL.quiet (d:=25) rfl rfl rfl (q_add rfl rfl rfl) ?_
       refine WL.quiet (d:=16) rfl rfl rfl (q_move rfl) ?_
       refine WL.nil ?_
       exact WX.round (G:=Nat × Int × z15 × z3q) ⟨ziz,(i64 (z2N + 1)),zbj.2,znc⟩ ⟨h,znd⟩ (Nat.lt_succ_self _) (.cons rfl (.cons rfl (.cons rfl (.cons rfl (.cons rfl (.cons rfl (.cons rfl (.cons rfl (.cons rfl .nil))))))))) (.cons (.there (.there .here)) (.cons .here .nil))
     ·replace h:=ite_f h ziD
      refine WC.exit ?_
      refine WX.thenExit ?_
      refine WX.thenExit ?_
      refine WX.blockHit ?_
      exact WX.mid (G:=z15 × z3q) ⟨z6h,z8A⟩ ⟨h,znb⟩ (.cons rfl (.cons rfl (.cons rfl (.cons rfl (.cons rfl .nil))))) (.cons (.there .here) .nil)
    ·rintro z8z zcI ⟨h,zrq⟩
     replace h:=(zrm z8z).symm.trans h
     refine WX.blockNormal ?_
     exact WX.mid (G:=z15 × z3q) ⟨z8z,zcI⟩ ⟨h,zrq⟩ (.cons rfl (.cons rfl (.cons rfl (.cons rfl (.cons rfl .nil))))) (.cons .here .nil)
   ·rintro z8y zcH ⟨h,zrr⟩
    replace h:=(zrj z8y).symm.trans h
    refine WC.region ?_
    refine WL.quiet (d:=26) rfl rfl rfl (q_add rfl rfl rfl) ?_
    refine WL.quiet (d:=10) rfl rfl rfl (q_move rfl) ?_
    refine WL.nil ?_
    exact WX.round (G:=Nat × Int × z15 × z3q) ⟨ziA,(i64 (z1X + 1)),z8y,zcH⟩ ⟨h,zrr⟩ (Nat.lt_succ_self _) (.cons rfl (.cons rfl (.cons rfl (.cons rfl (.cons rfl .nil))))) (.cons .here .nil)
  ·replace h:=ite_f h ziC
   refine WC.exit ?_
   refine WX.thenExit ?_
   refine WX.thenExit ?_
   refine WX.blockHit ?_
   exact WX.mid (G:=z15 × z3q) ⟨z6P,zad⟩ ⟨h,zn9⟩ .nil (.cons .here .nil)
 ·rintro z9m zcF ⟨h,zrs⟩
  replace h:=(zri z9m).symm.trans h
  obtain rfl:=Option.some.inj h
  refine WX.bpNormal Try.results89 .nil (fun w hw=>?_)
  exact ⟨zcF,ret0,zrs,hw.sub (.cons .here .nil)⟩
def m_rat_do_2 (zae : z2) (zaf : z2) : Option (Int × Int) :=
 some ((i64 ((i64 (zae.fN * zaf.fD)) - (i64 (zaf.fN * zae.fD)))),(i64 (zae.fD * zaf.fD)))
set_option maxRecDepth 20000 in
theorem w_rat_do_2 (Z : Zp)  (ze1 : Addr) (ze2 : Addr) (zae : z2) (zaf : z2) (r : Int × Int) (w₀ : World) (hz : PZ [] w₀ Z)
  (ziF : ZC Z ze1 [(.int .i64 zae.fN),(.int .i64 zae.fD)])
  (ziG : ZC Z ze2 [(.int .i64 zaf.fN),(.int .i64 zaf.fD)])
  (h : m_rat_do_2 zae zaf = some r) :
  Calls Try.prog 55 #[(.pointer (some ze1)),(.pointer (some ze2))] w₀ fun e w'=>e = .returned (.tuple #[(.int .i64 r.1),(.int .i64 r.2)]) ∧ Hp [] w₀ w' []:=by
 unfold m_rat_do_2 at h
 refine Calls.ofWC (vs:=[(.pointer (some ze1)),(.pointer (some ze2))]) (pre:=[]) (env:=[(0,(.pointer (some ze1))),(1,(.pointer (some ze2)))]) Try.func55 rfl Try.ntmps55 rfl (Hp.nil w₀ _) rfl ?_
 refine WC.seq ?_
 refine WC.region ?_
 refine WL.quiet (d:=2) rfl rfl rfl (q_assign rfl) ?_
 refine WL.quiet (d:=3) rfl rfl rfl (q_assign rfl) ?_
 refine WL.nil ?_
 refine WX.then ?_
 refine WC.seq ?_
 refine WC.draw (fun i=>[].contains i) [] rfl ?_
 refine WD.pure (i:=0) (d:=4) (by kernel_rfl) rfl (z6 (by kernel_rfl)) (z7 (by kernel_rfl)) rfl rfl rfl (fun _=>q_fieldAddr fo_30_0 rfl rfl) ?_
 refine WD.quiet (i:=1) (d:=5) (by kernel_rfl) rfl (z6 (by kernel_rfl)) (z7 (by kernel_rfl)) rfl rfl rfl (q_load1 oneT_3 rfl (rd_zAt hz.pv ziF rfl)) ?_
 refine WD.pure (i:=2) (d:=6) (by kernel_rfl) rfl (z6 (by kernel_rfl)) (z7 (by kernel_rfl)) rfl rfl rfl (fun _=>q_fieldAddr fo_30_1 rfl rfl) ?_
 refine WD.quiet (i:=3) (d:=7) (by kernel_rfl) rfl (z6 (by kernel_rfl)) (z7 (by kernel_rfl)) rfl rfl rfl (q_load1 oneT_3 rfl (rd_zAt hz.pv ziG rfl)) ?_
 refine WD.pure (i:=4) (d:=8) (by kernel_rfl) rfl (z6 (by kernel_rfl)) (z7 (by kernel_rfl)) rfl rfl rfl (fun _=>q_mul rfl rfl rfl) ?_
 refine WD.pure (i:=5) (d:=9) (by kernel_rfl) rfl (z6 (by kernel_rfl)) (z7 (by kernel_rfl)) rfl rfl rfl (fun _=>q_fieldAddr fo_30_0 rfl rfl) ?_
 refine WD.quiet (i:=6) (d:=10) (by kernel_rfl) rfl (z6 (by kernel_rfl)) (z7 (by kernel_rfl)) rfl rfl rfl (q_load1 oneT_3 rfl (rd_zAt hz.pv ziG rfl)) ?_
 refine WD.pure (i:=7) (d:=11) (by kernel_rfl) rfl (z6 (by kernel_rfl)) (z7 (by kernel_rfl)) rfl rfl rfl (fun _=>q_fieldAddr fo_30_1 rfl rfl) ?_
 refine WD.quiet (i:=8) (d:=12) (by kernel_rfl) rfl (z6 (by kernel_rfl)) (z7 (by kernel_rfl)) rfl rfl rfl (q_load1 oneT_3 rfl (rd_zAt hz.pv ziF rfl)) ?_
 refine WD.pure (i:=9) (d:=13) (by kernel_rfl) rfl (z6 (by kernel_rfl)) (z7 (by kernel_rfl)) rfl rfl rfl (fun _=>q_mul rfl rfl rfl) ?_
 refine WD.pure (i:=10) (d:=14) (by kernel_rfl) rfl (z6 (by kernel_rfl)) (z7 (by kernel_rfl)) rfl rfl rfl (fun _=>q_sub rfl rfl rfl) ?_
 refine WD.pure (i:=11) (d:=15) (by kernel_rfl) rfl (z6 (by kernel_rfl)) (z7 (by kernel_rfl)) rfl rfl rfl (fun _=>q_fieldAddr fo_30_1 rfl rfl) ?_
 refine WD.quiet (i:=12) (d:=16) (by kernel_rfl) rfl (z6 (by kernel_rfl)) (z7 (by kernel_rfl)) rfl rfl rfl (q_load1 oneT_3 rfl (rd_zAt hz.pv ziF rfl)) ?_
 refine WD.pure (i:=13) (d:=17) (by kernel_rfl) rfl (z6 (by kernel_rfl)) (z7 (by kernel_rfl)) rfl rfl rfl (fun _=>q_fieldAddr fo_30_1 rfl rfl) ?_
 refine WD.quiet (i:=14) (d:=18) (by kernel_rfl) rfl (z6 (by kernel_rfl)) (z7 (by kernel_rfl)) rfl rfl rfl (q_load1 oneT_3 rfl (rd_zAt hz.pv ziG rfl)) ?_
 refine WD.pure (i:=15) (d:=19) (by kernel_rfl) rfl (z6 (by kernel_rfl)) (z7 (by kernel_rfl)) rfl rfl rfl (fun _=>q_mul rfl rfl rfl) ?_
 refine WD.pure (i:=16) (d:=2) (by kernel_rfl) rfl (z6 (by kernel_rfl)) (z7 (by kernel_rfl)) rfl rfl rfl (fun _=>q_assign rfl) ?_
 refine WD.pure (i:=17) (d:=3) (by kernel_rfl) rfl (z6 (by kernel_rfl)) (z7 (by kernel_rfl)) rfl rfl rfl (fun _=>q_assign rfl) ?_
 refine WD.done (by kernel_rfl) ?_
 refine WX.then ?_
 refine WC.ret ?_
 obtain rfl:=Option.some.inj h
 refine WX.bpRet Try.results55 (.tmp rfl (.tmp rfl .nil)) (fun w hw=>?_)
 exact ⟨ret2 rfl rfl,hw.sub .nil⟩
def m_rat_Make (z7f : Int) (z6Q : Int) : Option (z2 × Int) :=
 if decide (z6Q = 0) then some ((⟨0,0⟩ : z2),2) else (m_rat_size z7f).bind fun z5Z=>(m_rat_size z6Q).bind fun z6i=>(m_rat_gcd_uint64 z5Z z6i).bind fun z3r=>chk ((z3r : Int) ≠ 0) (if (decide ((u64 (Int.tdiv z5Z z3r)) > 1073741824)) || (decide ((u64 (Int.tdiv z6i z3r)) > 1073741824)) then some ((⟨0,0⟩ : z2),3) else jp1 (fun (z88 : Int)=>some ((⟨z88,i64 (u64 (Int.tdiv z6i z3r))⟩ : z2),0)) fun zfK=>if (decide (z7f < 0)) != (decide (z6Q < 0)) then zfK (i64 (0 - (i64 (u64 (Int.tdiv z5Z z3r))))) else zfK (i64 (u64 (Int.tdiv z5Z z3r))))
set_option maxRecDepth 20000 in
theorem w_rat_Make (Z : Zp)   (z7f : Int) (z6Q : Int) (r : z2 × Int) (w₀ : World) (hz : PZ [] w₀ Z)
  (h : m_rat_Make z7f z6Q = some r) :
  Calls Try.prog 9 #[(.int .i64 z7f),(.int .i64 z6Q)] w₀ fun e w'=>e = .returned (.tuple #[(.agg #[(.int .i64 r.1.fN),(.int .i64 r.1.fD)]),(.int .i64 r.2)]) ∧ Hp [] w₀ w' []:=by
 unfold m_rat_Make at h
 refine Calls.ofWC (vs:=[(.int .i64 z7f),(.int .i64 z6Q)]) (pre:=[]) (env:=[(0,(.int .i64 z7f)),(1,(.int .i64 z6Q))]) Try.func9 rfl Try.ntmps9 rfl (Hp.nil w₀ _) rfl ?_
 refine WC.seq ?_
 refine WC.region ?_
 refine WL.new (dd:=4) rfl rfl rfl (e_alloc (cs:=[(.int .i64 0),(.int .i64 0)]) zeroT_30 rfl) ?_
 intro z6j _
 refine WL.quiet (d:=5) rfl rfl rfl (q_assign rfl) ?_
 refine WL.nil ?_
 refine WX.then ?_
 refine WC.seq ?_
 refine WC.seq ?_
 refine WC.region ?_
 refine WL.quiet (d:=10) rfl rfl rfl (q_move rfl) ?_
 refine WL.quiet (d:=11) rfl rfl rfl (q_eql rfl rfl) ?_
 refine WL.nil ?_
 refine WX.then ?_
 refine WC.cond rfl (fun ziH=>?_) (fun ziH=>?_)
 ·replace h:=ite_t h ziH
  refine WC.seq ?_
  refine WC.region ?_
  refine WL.quiet (d:=12) rfl rfl rfl (q_build (v:=(.agg #[(.int .i64 0),(.int .i64 0)])) (Eos.parts (l:=[]) .nil []) (fun _=>by kernel_rfl)) ?_
  refine WL.eff0 rfl rfl (e_store (vs:=[(.int .i64 0),(.int .i64 0)]) (ds:=[(.int .i64 0),(.int .i64 0)]) sizT_30 rfl rfl rfl rfl (oc_cons rfl (oc_cons rfl oc_nil)) .here (Nat.le_of_ble_eq_true rfl) rfl) ?_
  refine WL.quiet (d:=5) rfl rfl rfl (q_assign rfl) ?_
  refine WL.nil ?_
  refine WX.then ?_
  refine WC.ret ?_
  refine WX.thenRet ?_
  obtain rfl:=Option.some.inj h
  refine WX.bpRet Try.results9 (.agg rfl aggT_30 rfl (rd_all .here) (.tmp rfl .nil)) (fun w hw=>?_)
  exact ⟨ret2 rfl rfl,hw.sub .nil⟩
 ·replace h:=ite_f h ziH
  refine WC.skip ?_
  refine WX.then ?_
  refine WC.seq ?_
  obtain ⟨z5Z,zrt,h⟩:=ze h
  obtain ⟨z6i,zru,h⟩:=ze h
  refine WC.region ?_
  refine WL.quiet (d:=13) rfl rfl rfl (q_move rfl) ?_
  refine WL.callD (dd:=14) rfl rfl rfl (zn (l:=[.tmp 13]) Try.call28 (.cons rfl .nil)) (.nil : Sel [stb z6j 30 [(.int .i64 0),(.int .i64 0)]] [] [stb z6j 30 [(.int .i64 0),(.int .i64 0)]]) (fun w hw=>by have pz:=(hz.call hw (.nil : Sel [stb z6j 30 [(.int .i64 0),(.int .i64 0)]] [] [stb z6j 30 [(.int .i64 0),(.int .i64 0)]])); exact w_rat_size (Z:=_)  (z7w:=z7f) (r:=z5Z) w pz  zrt) ?_
  refine WL.quiet (d:=15) rfl rfl rfl (q_move rfl) ?_
  refine WL.callD (dd:=16) rfl rfl rfl (zn (l:=[.tmp 15]) Try.call28 (.cons rfl .nil)) (.nil : Sel [stb z6j 30 [(.int .i64 0),(.int .i64 0)]] [] [stb z6j 30 [(.int .i64 0),(.int .i64 0)]]) (fun w hw=>by have pz:=(hz.call hw (.nil : Sel [stb z6j 30 [(.int .i64 0),(.int .i64 0)]] [] [stb z6j 30 [(.int .i64 0),(.int .i64 0)]])); exact w_rat_size (Z:=_)  (z7w:=z6Q) (r:=z6i) w pz  zru) ?_
  refine WL.quiet (d:=6) rfl rfl rfl (q_assign rfl) ?_
  refine WL.quiet (d:=7) rfl rfl rfl (q_assign rfl) ?_
  refine WL.nil ?_
  refine WX.then ?_
  refine WC.seq ?_
  obtain ⟨z3r,zrv,h⟩:=ze h
  refine WC.region ?_
  refine WL.quiet (d:=17) rfl rfl rfl (q_move rfl) ?_
  refine WL.quiet (d:=18) rfl rfl rfl (q_move rfl) ?_
  refine WL.callD (dd:=19) rfl rfl rfl (zn (l:=[.tmp 17,.tmp 18]) Try.call29 (.cons rfl (.cons rfl .nil))) (.nil : Sel [stb z6j 30 [(.int .i64 0),(.int .i64 0)]] [] [stb z6j 30 [(.int .i64 0),(.int .i64 0)]]) (fun w hw=>by have pz:=(hz.call hw (.nil : Sel [stb z6j 30 [(.int .i64 0),(.int .i64 0)]] [] [stb z6j 30 [(.int .i64 0),(.int .i64 0)]])); exact w_rat_gcd_uint64 (Z:=_)  (z93:=z5Z) (z94:=z6i) (r:=z3r) w pz  zrv) ?_
  refine WL.quiet (d:=8) rfl rfl rfl (q_assign rfl) ?_
  refine WL.nil ?_
  refine WX.then ?_
  refine WC.seq ?_
  obtain ⟨zne,h⟩:=chk_elim h
  refine WC.draw (fun i=>[].contains i) [] rfl ?_
  refine WD.pure (i:=0) (d:=20) (by kernel_rfl) rfl (z6 (by kernel_rfl)) (z7 (by kernel_rfl)) rfl rfl rfl (fun _=>q_move rfl) ?_
  refine WD.pure (i:=1) (d:=21) (by kernel_rfl) rfl (z6 (by kernel_rfl)) (z7 (by kernel_rfl)) rfl rfl rfl (fun _=>q_move rfl) ?_
  refine WD.pure (i:=2) (d:=22) (by kernel_rfl) rfl (z6 (by kernel_rfl)) (z7 (by kernel_rfl)) rfl rfl rfl (fun _=>q_quo rfl rfl zne rfl) ?_
  refine WD.pure (i:=3) (d:=23) (by kernel_rfl) rfl (z6 (by kernel_rfl)) (z7 (by kernel_rfl)) rfl rfl rfl (fun _=>q_move rfl) ?_
  refine WD.pure (i:=4) (d:=24) (by kernel_rfl) rfl (z6 (by kernel_rfl)) (z7 (by kernel_rfl)) rfl rfl rfl (fun _=>q_move rfl) ?_
  refine WD.pure (i:=5) (d:=25) (by kernel_rfl) rfl (z6 (by kernel_rfl)) (z7 (by kernel_rfl)) rfl rfl rfl (fun _=>q_quo rfl rfl zne rfl) ?_
  refine WD.pure (i:=6) (d:=6) (by kernel_rfl) rfl (z6 (by kernel_rfl)) (z7 (by kernel_rfl)) rfl rfl rfl (fun _=>q_assign rfl) ?_
  refine WD.pure (i:=7) (d:=7) (by kernel_rfl) rfl (z6 (by kernel_rfl)) (z7 (by kernel_rfl)) rfl rfl rfl (fun _=>q_assign rfl) ?_
  refine WD.done (by kernel_rfl) ?_
  refine WX.then ?_
  refine WC.seq ?_
  refine WC.seq ?_
  refine WC.region ?_
  refine WL.quiet (d:=26) rfl rfl rfl (q_move rfl) ?_
  refine WL.quiet (d:=27) rfl rfl rfl (q_gtr rfl rfl) ?_
  refine WL.quiet (d:=28) rfl rfl rfl (q_move rfl) ?_
  refine WL.cut0 True [(0,(.int .i64 z7f)),(1,(.int .i64 z6Q)),(4,(.pointer (some ⟨z6j,0,none⟩))),(6,(.int .u64 (u64 (Int.tdiv z5Z z3r)))),(7,(.int .u64 (u64 (Int.tdiv z6i z3r)))),(31,(.bool ((decide ((u64 (Int.tdiv z5Z z3r)) > 1073741824)) || (decide ((u64 (Int.tdiv z6i z3r)) > 1073741824)))))] [stb z6j 30 [(.int .i64 0),(.int .i64 0)]] 3 ?_ (fun _=>?_)
  ·rcases Bool.eq_false_or_eq_true (decide ((u64 (Int.tdiv z5Z z3r)) > 1073741824)) with hb' | hb'
   ·have znf:=hb'; clear hb'
    refine WL.pin (i:=28) rfl znf ?_
    refine WL.skip rfl rfl rfl ?_
    refine WL.skip rfl rfl rfl ?_
    refine WL.quiet (d:=31) rfl rfl rfl (q_pickT rfl rfl) ?_
    exact WL.cutEnd () trivial (.cons rfl (.cons rfl (.cons rfl (.cons rfl (.cons rfl (.cons (zp (or_l znf)) .nil)))))) (.cons .here .nil)
   ·have zng:=hb'; clear hb'
    refine WL.pin (i:=28) rfl zng ?_
    refine WL.quiet (d:=29) rfl rfl rfl (q_move rfl) ?_
    refine WL.quiet (d:=30) rfl rfl rfl (q_gtr rfl rfl) ?_
    refine WL.quiet (d:=31) rfl rfl rfl (q_pickF rfl rfl) ?_
    exact WL.cutEnd () trivial (.cons rfl (.cons rfl (.cons rfl (.cons rfl (.cons rfl (.cons (zp (or_r zng)) .nil)))))) (.cons .here .nil)
  ·skip
   refine WL.nil ?_
   refine WX.then ?_
   refine WC.cond rfl (fun ziI=>?_) (fun ziI=>?_)
   ·replace h:=ite_t h ziI
    refine WC.seq ?_
    refine WC.region ?_
    refine WL.quiet (d:=32) rfl rfl rfl (q_build (v:=(.agg #[(.int .i64 0),(.int .i64 0)])) (Eos.parts (l:=[]) .nil []) (fun _=>by kernel_rfl)) ?_
    refine WL.eff0 rfl rfl (e_store (vs:=[(.int .i64 0),(.int .i64 0)]) (ds:=[(.int .i64 0),(.int .i64 0)]) sizT_30 rfl rfl rfl rfl (oc_cons rfl (oc_cons rfl oc_nil)) .here (Nat.le_of_ble_eq_true rfl) rfl) ?_
    refine WL.quiet (d:=5) rfl rfl rfl (q_assign rfl) ?_
    refine WL.nil ?_
    refine WX.then ?_
    refine WC.ret ?_
    refine WX.thenRet ?_
    obtain rfl:=Option.some.inj h
    refine WX.bpRet Try.results9 (.agg rfl aggT_30 rfl (rd_all .here) (.tmp rfl .nil)) (fun w hw=>?_)
    exact ⟨ret2 rfl rfl,hw.sub .nil⟩
   ·replace h:=ite_f h ziI
    refine WC.skip ?_
    refine WX.then ?_
    refine WC.seq ?_
    refine WC.region ?_
    refine WL.quiet (d:=33) rfl rfl rfl (q_move rfl) ?_
    refine WL.quiet (d:=34) rfl rfl rfl (q_conv Try.underlying71 Try.underlying3 rfl rfl) ?_
    refine WL.quiet (d:=35) rfl rfl rfl (q_move rfl) ?_
    refine WL.quiet (d:=36) rfl rfl rfl (q_conv Try.underlying71 Try.underlying3 rfl rfl) ?_
    refine WL.quiet (d:=37) rfl rfl rfl (q_build (v:=(.agg #[(.int .i64 (i64 (u64 (Int.tdiv z5Z z3r)))),(.int .i64 (i64 (u64 (Int.tdiv z6i z3r))))])) (Eos.parts (l:=[.tmp 34,.tmp 36]) (.cons rfl (.cons rfl .nil)) [0,1]) (fun _=>by kernel_rfl)) ?_
    refine WL.new (dd:=9) rfl rfl rfl (e_alloc (cs:=[(.int .i64 0),(.int .i64 0)]) zeroT_30 rfl) ?_
    intro znh _
    refine WL.eff0 rfl rfl (e_store (vs:=[(.int .i64 (i64 (u64 (Int.tdiv z5Z z3r)))),(.int .i64 (i64 (u64 (Int.tdiv z6i z3r))))]) (ds:=[(.int .i64 (i64 (u64 (Int.tdiv z5Z z3r)))),(.int .i64 (i64 (u64 (Int.tdiv z6i z3r))))]) sizT_30 rfl rfl rfl rfl (oc_cons rfl (oc_cons rfl oc_nil)) .here (Nat.le_of_ble_eq_true rfl) rfl) ?_
    refine WL.nil ?_
    refine WX.then ?_
    obtain ⟨zfK,zrw,h⟩:=jp1_elim h
    refine WC.seqMid1 (fun (z88 : Int)=>(zfK z88 = some r)) (fun (z88 : Int)=>[(4,(.pointer (some ⟨z6j,0,none⟩))),(9,(.pointer (some ⟨znh,0,none⟩)))]) (fun (z88 : Int)=>[stb z6j 30 [(.int .i64 0),(.int .i64 0)],stb znh 30 [(.int .i64 z88),(.int .i64 (i64 (u64 (Int.tdiv z6i z3r))))]]) ?_ ?_
    ·skip
     refine WC.seq ?_
     refine WC.region ?_
     refine WL.quiet (d:=38) rfl rfl rfl (q_move rfl) ?_
     refine WL.quiet (d:=39) rfl rfl rfl (q_lss rfl rfl) ?_
     refine WL.quiet (d:=40) rfl rfl rfl (q_move rfl) ?_
     refine WL.quiet (d:=41) rfl rfl rfl (q_lss rfl rfl) ?_
     refine WL.quiet (d:=42) rfl rfl rfl (q_bneq Try.underlying4 rfl rfl) ?_
     refine WL.nil ?_
     refine WX.then ?_
     refine WC.cond rfl (fun ziJ=>?_) (fun ziJ=>?_)
     ·replace h:=ite_t h ziJ
      refine WC.region ?_
      refine WL.quiet (d:=43) rfl rfl rfl (q_fieldAddr fo_30_0 rfl rfl) ?_
      refine WL.quiet (d:=44) rfl rfl rfl (q_load1 oneT_3 rfl (rd_stb .here rfl)) ?_
      refine WL.quiet (d:=45) rfl rfl rfl (q_neg rfl rfl) ?_
      refine WL.quiet (d:=46) rfl rfl rfl (q_fieldAddr fo_30_0 rfl rfl) ?_
      refine WL.eff0 rfl rfl (e_store (vs:=[(.int .i64 (i64 (0 - (i64 (u64 (Int.tdiv z5Z z3r))))))]) (ds:=[(.int .i64 (i64 (0 - (i64 (u64 (Int.tdiv z5Z z3r)))))),(.int .i64 (i64 (u64 (Int.tdiv z6i z3r))))]) sizT_3 rfl rfl rfl rfl (oc_cons rfl oc_nil) .here (Nat.le_of_ble_eq_true rfl) rfl) ?_
      refine WL.nil ?_
      exact WX.mid (G:=Int) (i64 (0 - (i64 (u64 (Int.tdiv z5Z z3r))))) h (.cons rfl (.cons rfl .nil)) (.cons (.there .here) (.cons .here .nil))
     ·replace h:=ite_f h ziJ
      refine WC.skip ?_
      exact WX.mid (G:=Int) (i64 (u64 (Int.tdiv z5Z z3r))) h (.cons rfl (.cons rfl .nil)) (.cons (.there .here) (.cons .here .nil))
    ·rintro z88 h
     replace h:=(zrw z88).symm.trans h
     refine WC.seq ?_
     refine WC.region ?_
     refine WL.quiet (d:=47) rfl rfl rfl (q_loadA (cs:=[(.int .i64 z88),(.int .i64 (i64 (u64 (Int.tdiv z6i z3r))))]) aggT_30 rfl rfl (rd_all (.there .here))) ?_
     refine WL.eff0 rfl rfl (e_store (vs:=[(.int .i64 z88),(.int .i64 (i64 (u64 (Int.tdiv z6i z3r))))]) (ds:=[(.int .i64 z88),(.int .i64 (i64 (u64 (Int.tdiv z6i z3r))))]) sizT_30 rfl rfl rfl rfl (oc_cons rfl (oc_cons rfl oc_nil)) .here (Nat.le_of_ble_eq_true rfl) rfl) ?_
     refine WL.quiet (d:=5) rfl rfl rfl (q_assign rfl) ?_
     refine WL.nil ?_
     refine WX.then ?_
     refine WC.ret ?_
     obtain rfl:=Option.some.inj h
     refine WX.bpRet Try.results9 (.agg rfl aggT_30 rfl (rd_all .here) (.tmp rfl .nil)) (fun w hw=>?_)
     exact ⟨ret2 rfl rfl,hw.sub .nil⟩
def m_rat_do (zW : z2) (zX : z2) : Option (z2 × Int) :=
 (m_rat_Valid zW).bind fun zfL=>(if !zfL then some true else (m_rat_Valid zX).bind fun ziK=>some (!ziK)).bind fun ze3=>if ze3 then some ((⟨0,0⟩ : z2),2) else (m_rat_do_2 zW zX).bind fun zcK=>(m_rat_Make zcK.1 zcK.2).bind fun zag=>some (zag.1,zag.2)
set_option maxRecDepth 20000 in
theorem w_rat_do (Z : Zp)   (zW : z2) (zX : z2) (r : z2 × Int) (w₀ : World) (hz : PZ [] w₀ Z)
  (h : m_rat_do zW zX = some r) :
  Calls Try.prog 40 #[(.string ⟨#[45]⟩),(.agg #[(.int .i64 zW.fN),(.int .i64 zW.fD)]),(.agg #[(.int .i64 zX.fN),(.int .i64 zX.fD)])] w₀ fun e w'=>e = .returned (.tuple #[(.agg #[(.int .i64 r.1.fN),(.int .i64 r.1.fD)]),(.int .i64 r.2)]) ∧ Hp [] w₀ w' []:=by
 unfold m_rat_do at h
 refine Calls.ofWC (vs:=[(.string ⟨#[45]⟩),(.agg #[(.int .i64 zW.fN),(.int .i64 zW.fD)]),(.agg #[(.int .i64 zX.fN),(.int .i64 zX.fD)])]) (pre:=[]) (env:=[(0,(.string ⟨#[45]⟩)),(1,(.agg #[(.int .i64 zW.fN),(.int .i64 zW.fD)])),(2,(.agg #[(.int .i64 zX.fN),(.int .i64 zX.fD)]))]) Try.func40 rfl Try.ntmps40 rfl (Hp.nil w₀ _) rfl ?_
 refine WC.seq ?_
 refine WC.region ?_
 refine WL.new (dd:=4) rfl rfl rfl (e_box (cs:=[(.int .i64 zW.fN),(.int .i64 zW.fD)]) rfl rfl) ?_
 intro zC _
 refine WL.new (dd:=5) rfl rfl rfl (e_box (cs:=[(.int .i64 zX.fN),(.int .i64 zX.fD)]) rfl rfl) ?_
 intro zD _
 refine WL.new (dd:=6) rfl rfl rfl (e_alloc (cs:=[(.int .i64 0),(.int .i64 0)]) zeroT_30 rfl) ?_
 intro z3O _
 refine WL.quiet (d:=7) rfl rfl rfl (q_assign rfl) ?_
 refine WL.nil ?_
 refine WX.then ?_
 refine WC.seq ?_
 refine WC.seq ?_
 obtain ⟨zfL,zrx,h⟩:=ze h
 obtain ⟨ze3,zni,h⟩:=ze h
 refine WC.region ?_
 refine WL.quiet (d:=9) rfl rfl rfl (q_loadA (cs:=[(.int .i64 zW.fN),(.int .i64 zW.fD)]) aggT_30 rfl rfl (rd_all (.there (.there .here)))) ?_
 refine WL.callD (dd:=10) rfl rfl rfl (zn (l:=[.tmp 9]) Try.call39 (.cons rfl .nil)) (.nil : Sel [stb z3O 30 [(.int .i64 0),(.int .i64 0)],stb zD 30 [(.int .i64 zX.fN),(.int .i64 zX.fD)],stb zC 30 [(.int .i64 zW.fN),(.int .i64 zW.fD)]] [] [stb z3O 30 [(.int .i64 0),(.int .i64 0)],stb zD 30 [(.int .i64 zX.fN),(.int .i64 zX.fD)],stb zC 30 [(.int .i64 zW.fN),(.int .i64 zW.fD)]]) (fun w hw=>by have pz:=(hz.call hw (.nil : Sel [stb z3O 30 [(.int .i64 0),(.int .i64 0)],stb zD 30 [(.int .i64 zX.fN),(.int .i64 zX.fD)],stb zC 30 [(.int .i64 zW.fN),(.int .i64 zW.fD)]] [] [stb z3O 30 [(.int .i64 0),(.int .i64 0)],stb zD 30 [(.int .i64 zX.fN),(.int .i64 zX.fD)],stb zC 30 [(.int .i64 zW.fN),(.int .i64 zW.fD)]])); exact w_rat_Valid (Z:=_)  (z16:=zW) (r:=zfL) w pz  zrx) ?_
 refine WL.quiet (d:=11) rfl rfl rfl (q_not rfl) ?_
 refine WL.quiet (d:=12) rfl rfl rfl (q_move rfl) ?_
 refine WL.cut0 True [(0,(.string ⟨#[45]⟩)),(4,(.pointer (some ⟨zC,0,none⟩))),(5,(.pointer (some ⟨zD,0,none⟩))),(6,(.pointer (some ⟨z3O,0,none⟩))),(16,(.bool ze3))] [stb z3O 30 [(.int .i64 0),(.int .i64 0)],stb zD 30 [(.int .i64 zX.fN),(.int .i64 zX.fD)],stb zC 30 [(.int .i64 zW.fN),(.int .i64 zW.fD)]] 4 ?_ (fun _=>?_)
 ·rcases Bool.eq_false_or_eq_true (!zfL) with hb' | hb'
  ·have znj:=hb'; clear hb'
   have ziL:=ite_t zni znj
   replace ziL:=Option.some.inj ziL
   refine WL.pin (i:=12) rfl znj ?_
   refine WL.skip rfl rfl rfl ?_
   refine WL.skip rfl rfl rfl ?_
   refine WL.skip rfl rfl rfl ?_
   refine WL.quiet (d:=16) rfl rfl rfl (q_pickT rfl rfl) ?_
   exact WL.cutEnd () trivial (.cons rfl (.cons rfl (.cons rfl (.cons rfl (.cons (zp ziL) .nil))))) (.cons .here (.cons .here (.cons .here .nil)))
  ·have znk:=hb'; clear hb'
   have ze4:=ite_f zni znk
   obtain ⟨ziK,zry,ze4⟩:=ze ze4
   replace ze4:=Option.some.inj ze4
   refine WL.pin (i:=12) rfl znk ?_
   refine WL.quiet (d:=13) rfl rfl rfl (q_loadA (cs:=[(.int .i64 zX.fN),(.int .i64 zX.fD)]) aggT_30 rfl rfl (rd_all (.there .here))) ?_
   refine WL.callD (dd:=14) rfl rfl rfl (zn (l:=[.tmp 13]) Try.call39 (.cons rfl .nil)) (.nil : Sel [stb z3O 30 [(.int .i64 0),(.int .i64 0)],stb zD 30 [(.int .i64 zX.fN),(.int .i64 zX.fD)],stb zC 30 [(.int .i64 zW.fN),(.int .i64 zW.fD)]] [] [stb z3O 30 [(.int .i64 0),(.int .i64 0)],stb zD 30 [(.int .i64 zX.fN),(.int .i64 zX.fD)],stb zC 30 [(.int .i64 zW.fN),(.int .i64 zW.fD)]]) (fun w hw=>by have pz:=(hz.call hw (.nil : Sel [stb z3O 30 [(.int .i64 0),(.int .i64 0)],stb zD 30 [(.int .i64 zX.fN),(.int .i64 zX.fD)],stb zC 30 [(.int .i64 zW.fN),(.int .i64 zW.fD)]] [] [stb z3O 30 [(.int .i64 0),(.int .i64 0)],stb zD 30 [(.int .i64 zX.fN),(.int .i64 zX.fD)],stb zC 30 [(.int .i64 zW.fN),(.int .i64 zW.fD)]])); exact w_rat_Valid (Z:=_)  (z16:=zX) (r:=ziK) w pz  zry) ?_
   refine WL.quiet (d:=15) rfl rfl rfl (q_not rfl) ?_
   refine WL.quiet (d:=16) rfl rfl rfl (q_pickF rfl rfl) ?_
   exact WL.cutEnd () trivial (.cons rfl (.cons rfl (.cons rfl (.cons rfl (.cons (zp ze4) .nil))))) (.cons .here (.cons .here (.cons .here .nil)))
 ·skip
  refine WL.quiet (d:=17) rfl rfl rfl (q_move rfl) ?_
  refine WL.cut0 True [(0,(.string ⟨#[45]⟩)),(4,(.pointer (some ⟨zC,0,none⟩))),(5,(.pointer (some ⟨zD,0,none⟩))),(6,(.pointer (some ⟨z3O,0,none⟩))),(25,(.bool ze3))] [stb z3O 30 [(.int .i64 0),(.int .i64 0)],stb zD 30 [(.int .i64 zX.fN),(.int .i64 zX.fD)],stb zC 30 [(.int .i64 zW.fN),(.int .i64 zW.fD)]] 8 ?_ (fun _=>?_)
  ·rcases Bool.eq_false_or_eq_true ze3 with hb' | hb'
   ·have znl:=hb'; clear hb'
    refine WL.pin (i:=17) rfl znl ?_
    refine WL.skip rfl rfl rfl ?_
    refine WL.skip rfl rfl rfl ?_
    refine WL.skip rfl rfl rfl ?_
    refine WL.skip rfl rfl rfl ?_
    refine WL.skip rfl rfl rfl ?_
    refine WL.skip rfl rfl rfl ?_
    refine WL.skip rfl rfl rfl ?_
    refine WL.quiet (d:=25) rfl rfl rfl (q_pickT rfl rfl) ?_
    exact WL.cutEnd () trivial (.cons rfl (.cons rfl (.cons rfl (.cons rfl (.cons (zp (Eq.symm znl)) .nil))))) (.cons .here (.cons .here (.cons .here .nil)))
   ·have znm:=hb'; clear hb'
    refine WL.pin (i:=17) rfl znm ?_
    refine WL.quiet (d:=18) rfl rfl rfl (q_move rfl) ?_
    refine WL.quiet (d:=19) rfl rfl rfl (q_seqlC (r:=false) (by decide) rfl rfl) ?_
    refine WL.quiet (d:=20) rfl rfl rfl (q_move rfl) ?_
    refine WL.skip rfl rfl rfl ?_
    refine WL.skip rfl rfl rfl ?_
    refine WL.skip rfl rfl rfl ?_
    refine WL.quiet (d:=24) rfl rfl rfl (q_pickF rfl rfl) ?_
    refine WL.quiet (d:=25) rfl rfl rfl (q_pickF rfl rfl) ?_
    exact WL.cutEnd () trivial (.cons rfl (.cons rfl (.cons rfl (.cons rfl (.cons (zp (Eq.symm znm)) .nil))))) (.cons .here (.cons .here (.cons .here .nil)))
  ·skip
   refine WL.nil ?_
   refine WX.then ?_
   refine WC.cond rfl (fun ziM=>?_) (fun ziM=>?_)
   ·replace h:=ite_t h ziM
    refine WC.seq ?_
    refine WC.region ?_
    refine WL.quiet (d:=26) rfl rfl rfl (q_build (v:=(.agg #[(.int .i64 0),(.int .i64 0)])) (Eos.parts (l:=[]) .nil []) (fun _=>by kernel_rfl)) ?_
    refine WL.eff0 rfl rfl (e_store (vs:=[(.int .i64 0),(.int .i64 0)]) (ds:=[(.int .i64 0),(.int .i64 0)]) sizT_30 rfl rfl rfl rfl (oc_cons rfl (oc_cons rfl oc_nil)) .here (Nat.le_of_ble_eq_true rfl) rfl) ?_
    refine WL.quiet (d:=7) rfl rfl rfl (q_assign rfl) ?_
    refine WL.nil ?_
    refine WX.then ?_
    refine WC.ret ?_
    refine WX.thenRet ?_
    obtain rfl:=Option.some.inj h
    refine WX.bpRet Try.results40 (.agg rfl aggT_30 rfl (rd_all .here) (.tmp rfl .nil)) (fun w hw=>?_)
    exact ⟨ret2 rfl rfl,hw.sub .nil⟩
   ·replace h:=ite_f h ziM
    refine WC.skip ?_
    refine WX.then ?_
    refine WC.seq ?_
    refine WC.region ?_
    refine WL.new (dd:=27) rfl rfl rfl (e_makeMap Value.string (fun x=>x)) ?_
    intro z6R _
    refine WL.quiet (d:=28) rfl rfl rfl (q_makeFunc (Eos.caps (l:=[.tmp 4,.tmp 5]) (.cons rfl (.cons rfl .nil)))) ?_
    refine WL.eff0 rfl rfl (e_insert (k:=⟨#[43]⟩) (v:=(.func (.func 54) #[] #[(.pointer (some ⟨zC,0,none⟩)),(.pointer (some ⟨zD,0,none⟩))])) keyT_9 Try.underlying105 rfl rfl rfl rfl .here) ?_
    refine WL.quiet (d:=29) rfl rfl rfl (q_makeFunc (Eos.caps (l:=[.tmp 4,.tmp 5]) (.cons rfl (.cons rfl .nil)))) ?_
    refine WL.eff0 rfl rfl (e_insert (k:=⟨#[45]⟩) (v:=(.func (.func 55) #[] #[(.pointer (some ⟨zC,0,none⟩)),(.pointer (some ⟨zD,0,none⟩))])) keyT_9 Try.underlying105 rfl rfl rfl rfl .here) ?_
    refine WL.quiet (d:=30) rfl rfl rfl (q_makeFunc (Eos.caps (l:=[.tmp 4,.tmp 5]) (.cons rfl (.cons rfl .nil)))) ?_
    refine WL.eff0 rfl rfl (e_insert (k:=⟨#[42]⟩) (v:=(.func (.func 56) #[] #[(.pointer (some ⟨zC,0,none⟩)),(.pointer (some ⟨zD,0,none⟩))])) keyT_9 Try.underlying105 rfl rfl rfl rfl .here) ?_
    refine WL.quiet (d:=31) rfl rfl rfl (q_makeFunc (Eos.caps (l:=[.tmp 4,.tmp 5]) (.cons rfl (.cons rfl .nil)))) ?_
    refine WL.eff0 rfl rfl (e_insert (k:=⟨#[47]⟩) (v:=(.func (.func 57) #[] #[(.pointer (some ⟨zC,0,none⟩)),(.pointer (some ⟨zD,0,none⟩))])) keyT_9 Try.underlying105 rfl rfl rfl rfl .here) ?_
    refine WL.quiet (d:=32) rfl rfl rfl (q_move rfl) ?_
    refine WL.quiet (d:=8) rfl rfl rfl (q_assign rfl) ?_
    refine WL.nil ?_
    refine WX.then ?_
    refine WC.seq ?_
    obtain ⟨zcK,zrz,h⟩:=ze h
    obtain ⟨zag,zrA,h⟩:=ze h
    refine WC.region ?_
    refine WL.quiet (d:=33) rfl rfl rfl (q_move rfl) ?_
    refine WL.quiet (d:=34) rfl rfl rfl (q_move rfl) ?_
    refine WL.quiet (d:=35) rfl rfl rfl (q_lookC (k:=⟨#[45]⟩) (dflt:=.nilFunc) (r:=(.func (.func 55) #[] #[(.pointer (some ⟨zC,0,none⟩)),(.pointer (some ⟨zD,0,none⟩))])) keyT_9 Try.underlying105 zfp rfl rfl rfl .here (by rfl)) ?_
    refine WL.callD (dd:=36) rfl rfl rfl (run_callv (l:=[]) Try.call55 rfl .nil) (.nil : Sel [mapA z6R Value.string (fun x=>x) [(⟨#[43]⟩,(.func (.func 54) #[] #[(.pointer (some ⟨zC,0,none⟩)),(.pointer (some ⟨zD,0,none⟩))])),(⟨#[45]⟩,(.func (.func 55) #[] #[(.pointer (some ⟨zC,0,none⟩)),(.pointer (some ⟨zD,0,none⟩))])),(⟨#[42]⟩,(.func (.func 56) #[] #[(.pointer (some ⟨zC,0,none⟩)),(.pointer (some ⟨zD,0,none⟩))])),(⟨#[47]⟩,(.func (.func 57) #[] #[(.pointer (some ⟨zC,0,none⟩)),(.pointer (some ⟨zD,0,none⟩))]))],stb z3O 30 [(.int .i64 0),(.int .i64 0)],stb zD 30 [(.int .i64 zX.fN),(.int .i64 zX.fD)],stb zC 30 [(.int .i64 zW.fN),(.int .i64 zW.fD)]] [] [mapA z6R Value.string (fun x=>x) [(⟨#[43]⟩,(.func (.func 54) #[] #[(.pointer (some ⟨zC,0,none⟩)),(.pointer (some ⟨zD,0,none⟩))])),(⟨#[45]⟩,(.func (.func 55) #[] #[(.pointer (some ⟨zC,0,none⟩)),(.pointer (some ⟨zD,0,none⟩))])),(⟨#[42]⟩,(.func (.func 56) #[] #[(.pointer (some ⟨zC,0,none⟩)),(.pointer (some ⟨zD,0,none⟩))])),(⟨#[47]⟩,(.func (.func 57) #[] #[(.pointer (some ⟨zC,0,none⟩)),(.pointer (some ⟨zD,0,none⟩))]))],stb z3O 30 [(.int .i64 0),(.int .i64 0)],stb zD 30 [(.int .i64 zX.fN),(.int .i64 zX.fD)],stb zC 30 [(.int .i64 zW.fN),(.int .i64 zW.fD)]]) (fun w hw=>by have pz:=(hz.call hw (.nil : Sel [mapA z6R Value.string (fun x=>x) [(⟨#[43]⟩,(.func (.func 54) #[] #[(.pointer (some ⟨zC,0,none⟩)),(.pointer (some ⟨zD,0,none⟩))])),(⟨#[45]⟩,(.func (.func 55) #[] #[(.pointer (some ⟨zC,0,none⟩)),(.pointer (some ⟨zD,0,none⟩))])),(⟨#[42]⟩,(.func (.func 56) #[] #[(.pointer (some ⟨zC,0,none⟩)),(.pointer (some ⟨zD,0,none⟩))])),(⟨#[47]⟩,(.func (.func 57) #[] #[(.pointer (some ⟨zC,0,none⟩)),(.pointer (some ⟨zD,0,none⟩))]))],stb z3O 30 [(.int .i64 0),(.int .i64 0)],stb zD 30 [(.int .i64 zX.fN),(.int .i64 zX.fD)],stb zC 30 [(.int .i64 zW.fN),(.int .i64 zW.fD)]] [] [mapA z6R Value.string (fun x=>x) [(⟨#[43]⟩,(.func (.func 54) #[] #[(.pointer (some ⟨zC,0,none⟩)),(.pointer (some ⟨zD,0,none⟩))])),(⟨#[45]⟩,(.func (.func 55) #[] #[(.pointer (some ⟨zC,0,none⟩)),(.pointer (some ⟨zD,0,none⟩))])),(⟨#[42]⟩,(.func (.func 56) #[] #[(.pointer (some ⟨zC,0,none⟩)),(.pointer (some ⟨zD,0,none⟩))])),(⟨#[47]⟩,(.func (.func 57) #[] #[(.pointer (some ⟨zC,0,none⟩)),(.pointer (some ⟨zD,0,none⟩))]))],stb z3O 30 [(.int .i64 0),(.int .i64 0)],stb zD 30 [(.int .i64 zX.fN),(.int .i64 zX.fD)],stb zC 30 [(.int .i64 zW.fN),(.int .i64 zW.fD)]])).lend hw (.nil : Sel [mapA z6R Value.string (fun x=>x) [(⟨#[43]⟩,(.func (.func 54) #[] #[(.pointer (some ⟨zC,0,none⟩)),(.pointer (some ⟨zD,0,none⟩))])),(⟨#[45]⟩,(.func (.func 55) #[] #[(.pointer (some ⟨zC,0,none⟩)),(.pointer (some ⟨zD,0,none⟩))])),(⟨#[42]⟩,(.func (.func 56) #[] #[(.pointer (some ⟨zC,0,none⟩)),(.pointer (some ⟨zD,0,none⟩))])),(⟨#[47]⟩,(.func (.func 57) #[] #[(.pointer (some ⟨zC,0,none⟩)),(.pointer (some ⟨zD,0,none⟩))]))],stb z3O 30 [(.int .i64 0),(.int .i64 0)],stb zD 30 [(.int .i64 zX.fN),(.int .i64 zX.fD)],stb zC 30 [(.int .i64 zW.fN),(.int .i64 zW.fD)]] [] [mapA z6R Value.string (fun x=>x) [(⟨#[43]⟩,(.func (.func 54) #[] #[(.pointer (some ⟨zC,0,none⟩)),(.pointer (some ⟨zD,0,none⟩))])),(⟨#[45]⟩,(.func (.func 55) #[] #[(.pointer (some ⟨zC,0,none⟩)),(.pointer (some ⟨zD,0,none⟩))])),(⟨#[42]⟩,(.func (.func 56) #[] #[(.pointer (some ⟨zC,0,none⟩)),(.pointer (some ⟨zD,0,none⟩))])),(⟨#[47]⟩,(.func (.func 57) #[] #[(.pointer (some ⟨zC,0,none⟩)),(.pointer (some ⟨zD,0,none⟩))]))],stb z3O 30 [(.int .i64 0),(.int .i64 0)],stb zD 30 [(.int .i64 zX.fN),(.int .i64 zX.fD)],stb zC 30 [(.int .i64 zW.fN),(.int .i64 zW.fD)]]) (B:=[stb zC 30 [(.int .i64 zW.fN),(.int .i64 zW.fD)],stb zD 30 [(.int .i64 zX.fN),(.int .i64 zX.fD)]]) (fun _ hx'=>((.cons (.there (.there (.there .here))) (.cons (.there (.there .here)) .nil)) : Sel _ [stb zC 30 [(.int .i64 zW.fN),(.int .i64 zW.fD)],stb zD 30 [(.int .i64 zX.fN),(.int .i64 zX.fD)]] _).mem hx'); exact w_rat_do_2 (Z:=_) (ze1:=⟨zC,0,none⟩) (ze2:=⟨zD,0,none⟩) (zae:=zW) (zaf:=zX) (r:=zcK) w pz ((hw.lent (.nil : Sel [mapA z6R Value.string (fun x=>x) [(⟨#[43]⟩,(.func (.func 54) #[] #[(.pointer (some ⟨zC,0,none⟩)),(.pointer (some ⟨zD,0,none⟩))])),(⟨#[45]⟩,(.func (.func 55) #[] #[(.pointer (some ⟨zC,0,none⟩)),(.pointer (some ⟨zD,0,none⟩))])),(⟨#[42]⟩,(.func (.func 56) #[] #[(.pointer (some ⟨zC,0,none⟩)),(.pointer (some ⟨zD,0,none⟩))])),(⟨#[47]⟩,(.func (.func 57) #[] #[(.pointer (some ⟨zC,0,none⟩)),(.pointer (some ⟨zD,0,none⟩))]))],stb z3O 30 [(.int .i64 0),(.int .i64 0)],stb zD 30 [(.int .i64 zX.fN),(.int .i64 zX.fD)],stb zC 30 [(.int .i64 zW.fN),(.int .i64 zW.fD)]] [] [mapA z6R Value.string (fun x=>x) [(⟨#[43]⟩,(.func (.func 54) #[] #[(.pointer (some ⟨zC,0,none⟩)),(.pointer (some ⟨zD,0,none⟩))])),(⟨#[45]⟩,(.func (.func 55) #[] #[(.pointer (some ⟨zC,0,none⟩)),(.pointer (some ⟨zD,0,none⟩))])),(⟨#[42]⟩,(.func (.func 56) #[] #[(.pointer (some ⟨zC,0,none⟩)),(.pointer (some ⟨zD,0,none⟩))])),(⟨#[47]⟩,(.func (.func 57) #[] #[(.pointer (some ⟨zC,0,none⟩)),(.pointer (some ⟨zD,0,none⟩))]))],stb z3O 30 [(.int .i64 0),(.int .i64 0)],stb zD 30 [(.int .i64 zX.fN),(.int .i64 zX.fD)],stb zC 30 [(.int .i64 zW.fN),(.int .i64 zW.fD)]]) (B:=[stb zC 30 [(.int .i64 zW.fN),(.int .i64 zW.fD)],stb zD 30 [(.int .i64 zX.fN),(.int .i64 zX.fD)]]) (fun _ hx'=>((.cons (.there (.there (.there .here))) (.cons (.there (.there .here)) .nil)) : Sel _ [stb zC 30 [(.int .i64 zW.fN),(.int .i64 zW.fD)],stb zD 30 [(.int .i64 zX.fN),(.int .i64 zX.fD)]] _).mem hx') (.head _) _).stb) ((hw.lent (.nil : Sel [mapA z6R Value.string (fun x=>x) [(⟨#[43]⟩,(.func (.func 54) #[] #[(.pointer (some ⟨zC,0,none⟩)),(.pointer (some ⟨zD,0,none⟩))])),(⟨#[45]⟩,(.func (.func 55) #[] #[(.pointer (some ⟨zC,0,none⟩)),(.pointer (some ⟨zD,0,none⟩))])),(⟨#[42]⟩,(.func (.func 56) #[] #[(.pointer (some ⟨zC,0,none⟩)),(.pointer (some ⟨zD,0,none⟩))])),(⟨#[47]⟩,(.func (.func 57) #[] #[(.pointer (some ⟨zC,0,none⟩)),(.pointer (some ⟨zD,0,none⟩))]))],stb z3O 30 [(.int .i64 0),(.int .i64 0)],stb zD 30 [(.int .i64 zX.fN),(.int .i64 zX.fD)],stb zC 30 [(.int .i64 zW.fN),(.int .i64 zW.fD)]] [] [mapA z6R Value.string (fun x=>x) [(⟨#[43]⟩,(.func (.func 54) #[] #[(.pointer (some ⟨zC,0,none⟩)),(.pointer (some ⟨zD,0,none⟩))])),(⟨#[45]⟩,(.func (.func 55) #[] #[(.pointer (some ⟨zC,0,none⟩)),(.pointer (some ⟨zD,0,none⟩))])),(⟨#[42]⟩,(.func (.func 56) #[] #[(.pointer (some ⟨zC,0,none⟩)),(.pointer (some ⟨zD,0,none⟩))])),(⟨#[47]⟩,(.func (.func 57) #[] #[(.pointer (some ⟨zC,0,none⟩)),(.pointer (some ⟨zD,0,none⟩))]))],stb z3O 30 [(.int .i64 0),(.int .i64 0)],stb zD 30 [(.int .i64 zX.fN),(.int .i64 zX.fD)],stb zC 30 [(.int .i64 zW.fN),(.int .i64 zW.fD)]]) (B:=[stb zC 30 [(.int .i64 zW.fN),(.int .i64 zW.fD)],stb zD 30 [(.int .i64 zX.fN),(.int .i64 zX.fD)]]) (fun _ hx'=>((.cons (.there (.there (.there .here))) (.cons (.there (.there .here)) .nil)) : Sel _ [stb zC 30 [(.int .i64 zW.fN),(.int .i64 zW.fD)],stb zD 30 [(.int .i64 zX.fN),(.int .i64 zX.fD)]] _).mem hx') (.tail _ (.head _)) _).stb) zrz) ?_
    refine WL.quiet (d:=37) rfl rfl rfl (q_extract rfl rfl) ?_
    refine WL.quiet (d:=38) rfl rfl rfl (q_extract rfl rfl) ?_
    refine WL.callD (dd:=39) rfl rfl rfl (zn (l:=[.tmp 37,.tmp 38]) Try.call9 (.cons rfl (.cons rfl .nil))) (.nil : Sel [mapA z6R Value.string (fun x=>x) [(⟨#[43]⟩,(.func (.func 54) #[] #[(.pointer (some ⟨zC,0,none⟩)),(.pointer (some ⟨zD,0,none⟩))])),(⟨#[45]⟩,(.func (.func 55) #[] #[(.pointer (some ⟨zC,0,none⟩)),(.pointer (some ⟨zD,0,none⟩))])),(⟨#[42]⟩,(.func (.func 56) #[] #[(.pointer (some ⟨zC,0,none⟩)),(.pointer (some ⟨zD,0,none⟩))])),(⟨#[47]⟩,(.func (.func 57) #[] #[(.pointer (some ⟨zC,0,none⟩)),(.pointer (some ⟨zD,0,none⟩))]))],stb z3O 30 [(.int .i64 0),(.int .i64 0)],stb zD 30 [(.int .i64 zX.fN),(.int .i64 zX.fD)],stb zC 30 [(.int .i64 zW.fN),(.int .i64 zW.fD)]] [] [mapA z6R Value.string (fun x=>x) [(⟨#[43]⟩,(.func (.func 54) #[] #[(.pointer (some ⟨zC,0,none⟩)),(.pointer (some ⟨zD,0,none⟩))])),(⟨#[45]⟩,(.func (.func 55) #[] #[(.pointer (some ⟨zC,0,none⟩)),(.pointer (some ⟨zD,0,none⟩))])),(⟨#[42]⟩,(.func (.func 56) #[] #[(.pointer (some ⟨zC,0,none⟩)),(.pointer (some ⟨zD,0,none⟩))])),(⟨#[47]⟩,(.func (.func 57) #[] #[(.pointer (some ⟨zC,0,none⟩)),(.pointer (some ⟨zD,0,none⟩))]))],stb z3O 30 [(.int .i64 0),(.int .i64 0)],stb zD 30 [(.int .i64 zX.fN),(.int .i64 zX.fD)],stb zC 30 [(.int .i64 zW.fN),(.int .i64 zW.fD)]]) (fun w hw=>by have pz:=(hz.call hw (.nil : Sel [mapA z6R Value.string (fun x=>x) [(⟨#[43]⟩,(.func (.func 54) #[] #[(.pointer (some ⟨zC,0,none⟩)),(.pointer (some ⟨zD,0,none⟩))])),(⟨#[45]⟩,(.func (.func 55) #[] #[(.pointer (some ⟨zC,0,none⟩)),(.pointer (some ⟨zD,0,none⟩))])),(⟨#[42]⟩,(.func (.func 56) #[] #[(.pointer (some ⟨zC,0,none⟩)),(.pointer (some ⟨zD,0,none⟩))])),(⟨#[47]⟩,(.func (.func 57) #[] #[(.pointer (some ⟨zC,0,none⟩)),(.pointer (some ⟨zD,0,none⟩))]))],stb z3O 30 [(.int .i64 0),(.int .i64 0)],stb zD 30 [(.int .i64 zX.fN),(.int .i64 zX.fD)],stb zC 30 [(.int .i64 zW.fN),(.int .i64 zW.fD)]] [] [mapA z6R Value.string (fun x=>x) [(⟨#[43]⟩,(.func (.func 54) #[] #[(.pointer (some ⟨zC,0,none⟩)),(.pointer (some ⟨zD,0,none⟩))])),(⟨#[45]⟩,(.func (.func 55) #[] #[(.pointer (some ⟨zC,0,none⟩)),(.pointer (some ⟨zD,0,none⟩))])),(⟨#[42]⟩,(.func (.func 56) #[] #[(.pointer (some ⟨zC,0,none⟩)),(.pointer (some ⟨zD,0,none⟩))])),(⟨#[47]⟩,(.func (.func 57) #[] #[(.pointer (some ⟨zC,0,none⟩)),(.pointer (some ⟨zD,0,none⟩))]))],stb z3O 30 [(.int .i64 0),(.int .i64 0)],stb zD 30 [(.int .i64 zX.fN),(.int .i64 zX.fD)],stb zC 30 [(.int .i64 zW.fN),(.int .i64 zW.fD)]])); exact w_rat_Make (Z:=_)  (z7f:=zcK.1) (z6Q:=zcK.2) (r:=zag) w pz  zrA) ?_
    refine WL.quiet (d:=40) rfl rfl rfl (q_extract rfl rfl) ?_
    refine WL.quiet (d:=41) rfl rfl rfl (q_extract rfl rfl) ?_
    refine WL.eff0 rfl rfl (e_store (vs:=[(.int .i64 zag.1.fN),(.int .i64 zag.1.fD)]) (ds:=[(.int .i64 zag.1.fN),(.int .i64 zag.1.fD)]) sizT_30 rfl rfl rfl rfl (oc_cons rfl (oc_cons rfl oc_nil)) (.there .here) (Nat.le_of_ble_eq_true rfl) rfl) ?_
    refine WL.quiet (d:=7) rfl rfl rfl (q_assign rfl) ?_
    refine WL.nil ?_
    refine WX.then ?_
    refine WC.ret ?_
    obtain rfl:=Option.some.inj h
    refine WX.bpRet Try.results40 (.agg rfl aggT_30 rfl (rd_all .here) (.tmp rfl .nil)) (fun w hw=>?_)
    exact ⟨ret2 rfl rfl,hw.sub .nil⟩
def m_rat_Sub (z3C : z2) (z3D : z2) : Option (z2 × Int) :=
 (m_rat_do z3C z3D).bind fun zah=>some (zah.1,zah.2)
set_option maxRecDepth 20000 in
theorem w_rat_Sub (Z : Zp)   (z3C : z2) (z3D : z2) (r : z2 × Int) (w₀ : World) (hz : PZ [] w₀ Z)
  (h : m_rat_Sub z3C z3D = some r) :
  Calls Try.prog 24 #[(.agg #[(.int .i64 z3C.fN),(.int .i64 z3C.fD)]),(.agg #[(.int .i64 z3D.fN),(.int .i64 z3D.fD)])] w₀ fun e w'=>e = .returned (.tuple #[(.agg #[(.int .i64 r.1.fN),(.int .i64 r.1.fD)]),(.int .i64 r.2)]) ∧ Hp [] w₀ w' []:=by
 unfold m_rat_Sub at h
 refine Calls.ofWC (vs:=[(.agg #[(.int .i64 z3C.fN),(.int .i64 z3C.fD)]),(.agg #[(.int .i64 z3D.fN),(.int .i64 z3D.fD)])]) (pre:=[]) (env:=[(0,(.agg #[(.int .i64 z3C.fN),(.int .i64 z3C.fD)])),(1,(.agg #[(.int .i64 z3D.fN),(.int .i64 z3D.fD)]))]) Try.func24 rfl Try.ntmps24 rfl (Hp.nil w₀ _) rfl ?_
 refine WC.seq ?_
 refine WC.region ?_
 refine WL.new (dd:=2) rfl rfl rfl (e_box (cs:=[(.int .i64 z3C.fN),(.int .i64 z3C.fD)]) rfl rfl) ?_
 intro zfM _
 refine WL.new (dd:=3) rfl rfl rfl (e_box (cs:=[(.int .i64 z3D.fN),(.int .i64 z3D.fD)]) rfl rfl) ?_
 intro zfN _
 refine WL.new (dd:=4) rfl rfl rfl (e_alloc (cs:=[(.int .i64 0),(.int .i64 0)]) zeroT_30 rfl) ?_
 intro zfO _
 refine WL.quiet (d:=5) rfl rfl rfl (q_assign rfl) ?_
 refine WL.nil ?_
 refine WX.then ?_
 refine WC.seq ?_
 obtain ⟨zah,zrB,h⟩:=ze h
 refine WC.region ?_
 refine WL.quiet (d:=6) rfl rfl rfl (q_loadA (cs:=[(.int .i64 z3C.fN),(.int .i64 z3C.fD)]) aggT_30 rfl rfl (rd_all (.there (.there .here)))) ?_
 refine WL.quiet (d:=7) rfl rfl rfl (q_loadA (cs:=[(.int .i64 z3D.fN),(.int .i64 z3D.fD)]) aggT_30 rfl rfl (rd_all (.there .here))) ?_
 refine WL.callD (dd:=8) rfl rfl rfl (zn (l:=[.const (.string ⟨#[45]⟩),.tmp 6,.tmp 7]) Try.call40 (.cons rfl (.cons rfl (.cons rfl .nil)))) (.nil : Sel [stb zfO 30 [(.int .i64 0),(.int .i64 0)],stb zfN 30 [(.int .i64 z3D.fN),(.int .i64 z3D.fD)],stb zfM 30 [(.int .i64 z3C.fN),(.int .i64 z3C.fD)]] [] [stb zfO 30 [(.int .i64 0),(.int .i64 0)],stb zfN 30 [(.int .i64 z3D.fN),(.int .i64 z3D.fD)],stb zfM 30 [(.int .i64 z3C.fN),(.int .i64 z3C.fD)]]) (fun w hw=>by have pz:=(hz.call hw (.nil : Sel [stb zfO 30 [(.int .i64 0),(.int .i64 0)],stb zfN 30 [(.int .i64 z3D.fN),(.int .i64 z3D.fD)],stb zfM 30 [(.int .i64 z3C.fN),(.int .i64 z3C.fD)]] [] [stb zfO 30 [(.int .i64 0),(.int .i64 0)],stb zfN 30 [(.int .i64 z3D.fN),(.int .i64 z3D.fD)],stb zfM 30 [(.int .i64 z3C.fN),(.int .i64 z3C.fD)]])); exact w_rat_do (Z:=_)  (zW:=z3C) (zX:=z3D) (r:=zah) w pz  zrB) ?_
 refine WL.quiet (d:=9) rfl rfl rfl (q_extract rfl rfl) ?_
 refine WL.quiet (d:=10) rfl rfl rfl (q_extract rfl rfl) ?_
 refine WL.eff0 rfl rfl (e_store (vs:=[(.int .i64 zah.1.fN),(.int .i64 zah.1.fD)]) (ds:=[(.int .i64 zah.1.fN),(.int .i64 zah.1.fD)]) sizT_30 rfl rfl rfl rfl (oc_cons rfl (oc_cons rfl oc_nil)) .here (Nat.le_of_ble_eq_true rfl) rfl) ?_
 refine WL.quiet (d:=5) rfl rfl rfl (q_assign rfl) ?_
 refine WL.nil ?_
 refine WX.then ?_
 refine WC.ret ?_
 obtain rfl:=Option.some.inj h
 refine WX.bpRet Try.results24 (.agg rfl aggT_30 rfl (rd_all .here) (.tmp rfl .nil)) (fun w hw=>?_)
 exact ⟨ret2 rfl rfl,hw.sub .nil⟩
def m_curve_calc_do (z6S : z2a) (z9q : z2 → z2 → Option (z2 × Int)) (z5a : z2) (z5b : z2) : Option (z2 × z2a) :=
 if decide (z6S.fE ≠ 0) then some ((⟨0,0⟩ : z2),z6S) else (z9q z5a z5b).bind fun z6k=>some (z6k.1,(⟨z6k.2⟩ : z2a))
set_option maxRecDepth 20000 in
theorem w_curve_calc_do (Z : Zp)  (z6T : Nat) (z7z : FuncId) (z8B : List Value) (z6S : z2a) (z9q : z2 → z2 → Option (z2 × Int)) (z5a : z2) (z5b : z2) (r : z2 × z2a) (w₀ : World) (hz : PZ (fps [stb z6T 90 [(.int .i64 z6S.fE)]]) w₀ Z)
  (zrC : ∀ args w,(callFunc z7z args).run Try.prog w = .ok (.enter z7z args) w)
  (zrD : ∀ w : World,PZ [] w Z → ∀ (x0 : z2) (x1 : z2) (r : z2 × Int),z9q x0 x1 = some r → Calls Try.prog z7z (([(.agg #[(.int .i64 x0.fN),(.int .i64 x0.fD)]),(.agg #[(.int .i64 x1.fN),(.int .i64 x1.fD)])] : List Value) ++ z8B).toArray w fun e w'=>e = .returned (.tuple #[(.agg #[(.int .i64 r.1.fN),(.int .i64 r.1.fD)]),(.int .i64 r.2)]) ∧ Hp [] w w' [])
  (h : m_curve_calc_do z6S z9q z5a z5b = some r)
  (hown : Hp (fps [stb z6T 90 [(.int .i64 z6S.fE)]]) w₀ w₀ [stb z6T 90 [(.int .i64 z6S.fE)]]) :
  Calls Try.prog 58 #[(.pointer (some ⟨z6T,0,none⟩)),(.func (.func z7z) #[] (z8B).toArray),(.agg #[(.int .i64 z5a.fN),(.int .i64 z5a.fD)]),(.agg #[(.int .i64 z5b.fN),(.int .i64 z5b.fD)])] w₀ fun e w'=>e = .returned (.agg #[(.int .i64 r.1.fN),(.int .i64 r.1.fD)]) ∧ Hp (fps [stb z6T 90 [(.int .i64 z6S.fE)]]) w₀ w' [stb z6T 90 [(.int .i64 r.2.fE)]]:=by
 unfold m_curve_calc_do at h
 refine Calls.ofWC (vs:=[(.pointer (some ⟨z6T,0,none⟩)),(.func (.func z7z) #[] (z8B).toArray),(.agg #[(.int .i64 z5a.fN),(.int .i64 z5a.fD)]),(.agg #[(.int .i64 z5b.fN),(.int .i64 z5b.fD)])]) (pre:=[stb z6T 90 [(.int .i64 z6S.fE)]]) (env:=[(0,(.pointer (some ⟨z6T,0,none⟩))),(1,(.func (.func z7z) #[] (z8B).toArray)),(2,(.agg #[(.int .i64 z5a.fN),(.int .i64 z5a.fD)])),(3,(.agg #[(.int .i64 z5b.fN),(.int .i64 z5b.fD)]))]) Try.func58 rfl Try.ntmps58 rfl (hown) rfl ?_
 refine WC.seq ?_
 refine WC.region ?_
 refine WL.new (dd:=6) rfl rfl rfl (e_box (cs:=[(.int .i64 z5a.fN),(.int .i64 z5a.fD)]) rfl rfl) ?_
 intro zxC _
 refine WL.new (dd:=7) rfl rfl rfl (e_box (cs:=[(.int .i64 z5b.fN),(.int .i64 z5b.fD)]) rfl rfl) ?_
 intro zxD _
 refine WL.new (dd:=8) rfl rfl rfl (e_alloc (cs:=[(.int .i64 0),(.int .i64 0)]) zeroT_30 rfl) ?_
 intro zxE _
 refine WL.nil ?_
 refine WX.then ?_
 refine WC.seq ?_
 refine WC.seq ?_
 refine WC.region ?_
 refine WL.quiet (d:=11) rfl rfl rfl (q_move rfl) ?_
 refine WL.quiet (d:=12) rfl rfl rfl (q_nilCheck rfl) ?_
 refine WL.quiet (d:=13) rfl rfl rfl (q_fieldAddr fo_90_0 rfl rfl) ?_
 refine WL.quiet (d:=14) rfl rfl rfl (q_load1 oneT_31 rfl (rd_stb (.there (.there (.there .here))) rfl)) ?_
 refine WL.quiet (d:=15) rfl rfl rfl (q_neq rfl rfl) ?_
 refine WL.nil ?_
 refine WX.then ?_
 refine WC.cond rfl (fun ziN=>?_) (fun ziN=>?_)
 ·replace h:=ite_t h ziN
  refine WC.seq ?_
  refine WC.region ?_
  refine WL.quiet (d:=16) rfl rfl rfl (q_build (v:=(.agg #[(.int .i64 0),(.int .i64 0)])) (Eos.parts (l:=[]) .nil []) (fun _=>by kernel_rfl)) ?_
  refine WL.eff0 rfl rfl (e_store (vs:=[(.int .i64 0),(.int .i64 0)]) (ds:=[(.int .i64 0),(.int .i64 0)]) sizT_30 rfl rfl rfl rfl (oc_cons rfl (oc_cons rfl oc_nil)) .here (Nat.le_of_ble_eq_true rfl) rfl) ?_
  refine WL.nil ?_
  refine WX.then ?_
  refine WC.ret ?_
  refine WX.thenRet ?_
  obtain rfl:=Option.some.inj h
  refine WX.bpRet Try.results58 (.agg rfl aggT_30 rfl (rd_all .here) .nil) (fun w hw=>?_)
  exact ⟨ret1 rfl,hw.sub (.cons (.there (.there (.there .here))) .nil)⟩
 ·replace h:=ite_f h ziN
  refine WC.skip ?_
  refine WX.then ?_
  refine WC.seq ?_
  obtain ⟨z6k,zrE,h⟩:=ze h
  refine WC.region ?_
  refine WL.quiet (d:=18) rfl rfl rfl (q_move rfl) ?_
  refine WL.quiet (d:=19) rfl rfl rfl (q_loadA (cs:=[(.int .i64 z5a.fN),(.int .i64 z5a.fD)]) aggT_30 rfl rfl (rd_all (.there (.there .here)))) ?_
  refine WL.quiet (d:=20) rfl rfl rfl (q_loadA (cs:=[(.int .i64 z5b.fN),(.int .i64 z5b.fD)]) aggT_30 rfl rfl (rd_all (.there .here))) ?_
  refine WL.callD (dd:=21) rfl rfl rfl (run_callv (l:=[.tmp 19,.tmp 20]) (f:=z7z) (caps:=z8B) zrC rfl (.cons rfl (.cons rfl .nil))) .nil (fun w hw=>zrD w (hz.now hw) z5a z5b z6k  zrE) ?_
  refine WL.quiet (d:=17) rfl rfl rfl (q_move rfl) ?_
  refine WL.quiet (d:=22) rfl rfl rfl (q_extract rfl rfl) ?_
  refine WL.quiet (d:=23) rfl rfl rfl (q_extract rfl rfl) ?_
  refine WL.new (dd:=9) rfl rfl rfl (e_alloc (cs:=[(.int .i64 0),(.int .i64 0)]) zeroT_30 rfl) ?_
  intro zxF _
  refine WL.eff0 rfl rfl (e_store (vs:=[(.int .i64 z6k.1.fN),(.int .i64 z6k.1.fD)]) (ds:=[(.int .i64 z6k.1.fN),(.int .i64 z6k.1.fD)]) sizT_30 rfl rfl rfl rfl (oc_cons rfl (oc_cons rfl oc_nil)) .here (Nat.le_of_ble_eq_true rfl) rfl) ?_
  refine WL.quiet (d:=10) rfl rfl rfl (q_assign rfl) ?_
  refine WL.nil ?_
  refine WX.then ?_
  refine WC.seq ?_
  refine WC.region ?_
  refine WL.quiet (d:=24) rfl rfl rfl (q_move rfl) ?_
  refine WL.quiet (d:=25) rfl rfl rfl (q_move rfl) ?_
  refine WL.quiet (d:=26) rfl rfl rfl (q_nilCheck rfl) ?_
  refine WL.quiet (d:=27) rfl rfl rfl (q_fieldAddr fo_90_0 rfl rfl) ?_
  refine WL.eff0 rfl rfl (e_store (vs:=[(.int .i64 z6k.2)]) (ds:=[(.int .i64 z6k.2)]) sizT_31 rfl rfl rfl rfl (oc_cons rfl oc_nil) (.there (.there (.there (.there .here)))) (Nat.le_of_ble_eq_true rfl) rfl) ?_
  refine WL.nil ?_
  refine WX.then ?_
  refine WC.seq ?_
  refine WC.region ?_
  refine WL.quiet (d:=28) rfl rfl rfl (q_loadA (cs:=[(.int .i64 z6k.1.fN),(.int .i64 z6k.1.fD)]) aggT_30 rfl rfl (rd_all (.there .here))) ?_
  refine WL.eff0 rfl rfl (e_store (vs:=[(.int .i64 z6k.1.fN),(.int .i64 z6k.1.fD)]) (ds:=[(.int .i64 z6k.1.fN),(.int .i64 z6k.1.fD)]) sizT_30 rfl rfl rfl rfl (oc_cons rfl (oc_cons rfl oc_nil)) (.there (.there .here)) (Nat.le_of_ble_eq_true rfl) rfl) ?_
  refine WL.nil ?_
  refine WX.then ?_
  refine WC.ret ?_
  obtain rfl:=Option.some.inj h
  refine WX.bpRet Try.results58 (.agg rfl aggT_30 rfl (rd_all .here) .nil) (fun w hw=>?_)
  exact ⟨ret1 rfl,hw.sub (.cons (.there .here) .nil)⟩
def m_rat_do_4 (zbm : z2) (zbn : z2) : Option (Int × Int) :=
 some ((i64 (zbm.fN * zbn.fD)),(i64 (zbm.fD * zbn.fN)))
set_option maxRecDepth 20000 in
theorem w_rat_do_4 (Z : Zp)  (ze5 : Addr) (ze6 : Addr) (zbm : z2) (zbn : z2) (r : Int × Int) (w₀ : World) (hz : PZ [] w₀ Z)
  (znn : ZC Z ze5 [(.int .i64 zbm.fN),(.int .i64 zbm.fD)])
  (zno : ZC Z ze6 [(.int .i64 zbn.fN),(.int .i64 zbn.fD)])
  (h : m_rat_do_4 zbm zbn = some r) :
  Calls Try.prog 57 #[(.pointer (some ze5)),(.pointer (some ze6))] w₀ fun e w'=>e = .returned (.tuple #[(.int .i64 r.1),(.int .i64 r.2)]) ∧ Hp [] w₀ w' []:=by
 unfold m_rat_do_4 at h
 refine Calls.ofWC (vs:=[(.pointer (some ze5)),(.pointer (some ze6))]) (pre:=[]) (env:=[(0,(.pointer (some ze5))),(1,(.pointer (some ze6)))]) Try.func57 rfl Try.ntmps57 rfl (Hp.nil w₀ _) rfl ?_
 refine WC.seq ?_
 refine WC.region ?_
 refine WL.quiet (d:=2) rfl rfl rfl (q_assign rfl) ?_
 refine WL.quiet (d:=3) rfl rfl rfl (q_assign rfl) ?_
 refine WL.nil ?_
 refine WX.then ?_
 refine WC.seq ?_
 refine WC.draw (fun i=>[].contains i) [] rfl ?_
 refine WD.pure (i:=0) (d:=4) (by kernel_rfl) rfl (z6 (by kernel_rfl)) (z7 (by kernel_rfl)) rfl rfl rfl (fun _=>q_fieldAddr fo_30_0 rfl rfl) ?_
 refine WD.quiet (i:=1) (d:=5) (by kernel_rfl) rfl (z6 (by kernel_rfl)) (z7 (by kernel_rfl)) rfl rfl rfl (q_load1 oneT_3 rfl (rd_zAt hz.pv znn rfl)) ?_
 refine WD.pure (i:=2) (d:=6) (by kernel_rfl) rfl (z6 (by kernel_rfl)) (z7 (by kernel_rfl)) rfl rfl rfl (fun _=>q_fieldAddr fo_30_1 rfl rfl) ?_
 refine WD.quiet (i:=3) (d:=7) (by kernel_rfl) rfl (z6 (by kernel_rfl)) (z7 (by kernel_rfl)) rfl rfl rfl (q_load1 oneT_3 rfl (rd_zAt hz.pv zno rfl)) ?_
 refine WD.pure (i:=4) (d:=8) (by kernel_rfl) rfl (z6 (by kernel_rfl)) (z7 (by kernel_rfl)) rfl rfl rfl (fun _=>q_mul rfl rfl rfl) ?_
 refine WD.pure (i:=5) (d:=9) (by kernel_rfl) rfl (z6 (by kernel_rfl)) (z7 (by kernel_rfl)) rfl rfl rfl (fun _=>q_fieldAddr fo_30_1 rfl rfl) ?_
 refine WD.quiet (i:=6) (d:=10) (by kernel_rfl) rfl (z6 (by kernel_rfl)) (z7 (by kernel_rfl)) rfl rfl rfl (q_load1 oneT_3 rfl (rd_zAt hz.pv znn rfl)) ?_
 refine WD.pure (i:=7) (d:=11) (by kernel_rfl) rfl (z6 (by kernel_rfl)) (z7 (by kernel_rfl)) rfl rfl rfl (fun _=>q_fieldAddr fo_30_0 rfl rfl) ?_
 refine WD.quiet (i:=8) (d:=12) (by kernel_rfl) rfl (z6 (by kernel_rfl)) (z7 (by kernel_rfl)) rfl rfl rfl (q_load1 oneT_3 rfl (rd_zAt hz.pv zno rfl)) ?_
 refine WD.pure (i:=9) (d:=13) (by kernel_rfl) rfl (z6 (by kernel_rfl)) (z7 (by kernel_rfl)) rfl rfl rfl (fun _=>q_mul rfl rfl rfl) ?_
 refine WD.pure (i:=10) (d:=2) (by kernel_rfl) rfl (z6 (by kernel_rfl)) (z7 (by kernel_rfl)) rfl rfl rfl (fun _=>q_assign rfl) ?_
 refine WD.pure (i:=11) (d:=3) (by kernel_rfl) rfl (z6 (by kernel_rfl)) (z7 (by kernel_rfl)) rfl rfl rfl (fun _=>q_assign rfl) ?_
 refine WD.done (by kernel_rfl) ?_
 refine WX.then ?_
 refine WC.ret ?_
 obtain rfl:=Option.some.inj h
 refine WX.bpRet Try.results57 (.tmp rfl (.tmp rfl .nil)) (fun w hw=>?_)
 exact ⟨ret2 rfl rfl,hw.sub .nil⟩
def m_rat_dob (zY : z2) (zR : z2) : Option (z2 × Int) :=
 (m_rat_Valid zY).bind fun zfP=>(if !zfP then some true else (m_rat_Valid zR).bind fun ziO=>some (!ziO)).bind fun ze7=>if ze7 || (decide (zR.fN = 0)) then some ((⟨0,0⟩ : z2),2) else (m_rat_do_4 zY zR).bind fun zcL=>(m_rat_Make zcL.1 zcL.2).bind fun zai=>some (zai.1,zai.2)
set_option maxRecDepth 20000 in
theorem w_rat_dob (Z : Zp)   (zY : z2) (zR : z2) (r : z2 × Int) (w₀ : World) (hz : PZ [] w₀ Z)
  (h : m_rat_dob zY zR = some r) :
  Calls Try.prog 40 #[(.string ⟨#[47]⟩),(.agg #[(.int .i64 zY.fN),(.int .i64 zY.fD)]),(.agg #[(.int .i64 zR.fN),(.int .i64 zR.fD)])] w₀ fun e w'=>e = .returned (.tuple #[(.agg #[(.int .i64 r.1.fN),(.int .i64 r.1.fD)]),(.int .i64 r.2)]) ∧ Hp [] w₀ w' []:=by
 unfold m_rat_dob at h
 refine Calls.ofWC (vs:=[(.string ⟨#[47]⟩),(.agg #[(.int .i64 zY.fN),(.int .i64 zY.fD)]),(.agg #[(.int .i64 zR.fN),(.int .i64 zR.fD)])]) (pre:=[]) (env:=[(0,(.string ⟨#[47]⟩)),(1,(.agg #[(.int .i64 zY.fN),(.int .i64 zY.fD)])),(2,(.agg #[(.int .i64 zR.fN),(.int .i64 zR.fD)]))]) Try.func40 rfl Try.ntmps40 rfl (Hp.nil w₀ _) rfl ?_
 refine WC.seq ?_
 refine WC.region ?_
 refine WL.new (dd:=4) rfl rfl rfl (e_box (cs:=[(.int .i64 zY.fN),(.int .i64 zY.fD)]) rfl rfl) ?_
 intro zF _
 refine WL.new (dd:=5) rfl rfl rfl (e_box (cs:=[(.int .i64 zR.fN),(.int .i64 zR.fD)]) rfl rfl) ?_
 intro zG _
 refine WL.new (dd:=6) rfl rfl rfl (e_alloc (cs:=[(.int .i64 0),(.int .i64 0)]) zeroT_30 rfl) ?_
 intro z3P _
 refine WL.quiet (d:=7) rfl rfl rfl (q_assign rfl) ?_
 refine WL.nil ?_
 refine WX.then ?_
 refine WC.seq ?_
 refine WC.seq ?_
 obtain ⟨zfP,zrF,h⟩:=ze h
 obtain ⟨ze7,znp,h⟩:=ze h
 refine WC.region ?_
 refine WL.quiet (d:=9) rfl rfl rfl (q_loadA (cs:=[(.int .i64 zY.fN),(.int .i64 zY.fD)]) aggT_30 rfl rfl (rd_all (.there (.there .here)))) ?_
 refine WL.callD (dd:=10) rfl rfl rfl (zn (l:=[.tmp 9]) Try.call39 (.cons rfl .nil)) (.nil : Sel [stb z3P 30 [(.int .i64 0),(.int .i64 0)],stb zG 30 [(.int .i64 zR.fN),(.int .i64 zR.fD)],stb zF 30 [(.int .i64 zY.fN),(.int .i64 zY.fD)]] [] [stb z3P 30 [(.int .i64 0),(.int .i64 0)],stb zG 30 [(.int .i64 zR.fN),(.int .i64 zR.fD)],stb zF 30 [(.int .i64 zY.fN),(.int .i64 zY.fD)]]) (fun w hw=>by have pz:=(hz.call hw (.nil : Sel [stb z3P 30 [(.int .i64 0),(.int .i64 0)],stb zG 30 [(.int .i64 zR.fN),(.int .i64 zR.fD)],stb zF 30 [(.int .i64 zY.fN),(.int .i64 zY.fD)]] [] [stb z3P 30 [(.int .i64 0),(.int .i64 0)],stb zG 30 [(.int .i64 zR.fN),(.int .i64 zR.fD)],stb zF 30 [(.int .i64 zY.fN),(.int .i64 zY.fD)]])); exact w_rat_Valid (Z:=_)  (z16:=zY) (r:=zfP) w pz  zrF) ?_
 refine WL.quiet (d:=11) rfl rfl rfl (q_not rfl) ?_
 refine WL.quiet (d:=12) rfl rfl rfl (q_move rfl) ?_
 refine WL.cut0 True [(0,(.string ⟨#[47]⟩)),(4,(.pointer (some ⟨zF,0,none⟩))),(5,(.pointer (some ⟨zG,0,none⟩))),(6,(.pointer (some ⟨z3P,0,none⟩))),(16,(.bool ze7))] [stb z3P 30 [(.int .i64 0),(.int .i64 0)],stb zG 30 [(.int .i64 zR.fN),(.int .i64 zR.fD)],stb zF 30 [(.int .i64 zY.fN),(.int .i64 zY.fD)]] 4 ?_ (fun _=>?_)
 ·rcases Bool.eq_false_or_eq_true (!zfP) with hb' | hb'
  ·have znq:=hb'; clear hb'
   have ziP:=ite_t znp znq
   replace ziP:=Option.some.inj ziP
   refine WL.pin (i:=12) rfl znq ?_
   refine WL.skip rfl rfl rfl ?_
   refine WL.skip rfl rfl rfl ?_
   refine WL.skip rfl rfl rfl ?_
   refine WL.quiet (d:=16) rfl rfl rfl (q_pickT rfl rfl) ?_
   exact WL.cutEnd () trivial (.cons rfl (.cons rfl (.cons rfl (.cons rfl (.cons (zp ziP) .nil))))) (.cons .here (.cons .here (.cons .here .nil)))
  ·have znr:=hb'; clear hb'
   have ze8:=ite_f znp znr
   obtain ⟨ziO,zrG,ze8⟩:=ze ze8
   replace ze8:=Option.some.inj ze8
   refine WL.pin (i:=12) rfl znr ?_
   refine WL.quiet (d:=13) rfl rfl rfl (q_loadA (cs:=[(.int .i64 zR.fN),(.int .i64 zR.fD)]) aggT_30 rfl rfl (rd_all (.there .here))) ?_
   refine WL.callD (dd:=14) rfl rfl rfl (zn (l:=[.tmp 13]) Try.call39 (.cons rfl .nil)) (.nil : Sel [stb z3P 30 [(.int .i64 0),(.int .i64 0)],stb zG 30 [(.int .i64 zR.fN),(.int .i64 zR.fD)],stb zF 30 [(.int .i64 zY.fN),(.int .i64 zY.fD)]] [] [stb z3P 30 [(.int .i64 0),(.int .i64 0)],stb zG 30 [(.int .i64 zR.fN),(.int .i64 zR.fD)],stb zF 30 [(.int .i64 zY.fN),(.int .i64 zY.fD)]]) (fun w hw=>by have pz:=(hz.call hw (.nil : Sel [stb z3P 30 [(.int .i64 0),(.int .i64 0)],stb zG 30 [(.int .i64 zR.fN),(.int .i64 zR.fD)],stb zF 30 [(.int .i64 zY.fN),(.int .i64 zY.fD)]] [] [stb z3P 30 [(.int .i64 0),(.int .i64 0)],stb zG 30 [(.int .i64 zR.fN),(.int .i64 zR.fD)],stb zF 30 [(.int .i64 zY.fN),(.int .i64 zY.fD)]])); exact w_rat_Valid (Z:=_)  (z16:=zR) (r:=ziO) w pz  zrG) ?_
   refine WL.quiet (d:=15) rfl rfl rfl (q_not rfl) ?_
   refine WL.quiet (d:=16) rfl rfl rfl (q_pickF rfl rfl) ?_
   exact WL.cutEnd () trivial (.cons rfl (.cons rfl (.cons rfl (.cons rfl (.cons (zp ze8) .nil))))) (.cons .here (.cons .here (.cons .here .nil)))
 ·skip
  refine WL.quiet (d:=17) rfl rfl rfl (q_move rfl) ?_
  refine WL.cut0 True [(0,(.string ⟨#[47]⟩)),(4,(.pointer (some ⟨zF,0,none⟩))),(5,(.pointer (some ⟨zG,0,none⟩))),(6,(.pointer (some ⟨z3P,0,none⟩))),(25,(.bool (ze7 || (decide (zR.fN = 0)))))] [stb z3P 30 [(.int .i64 0),(.int .i64 0)],stb zG 30 [(.int .i64 zR.fN),(.int .i64 zR.fD)],stb zF 30 [(.int .i64 zY.fN),(.int .i64 zY.fD)]] 8 ?_ (fun _=>?_)
  ·rcases Bool.eq_false_or_eq_true ze7 with hb' | hb'
   ·have zns:=hb'; clear hb'
    refine WL.pin (i:=17) rfl zns ?_
    refine WL.skip rfl rfl rfl ?_
    refine WL.skip rfl rfl rfl ?_
    refine WL.skip rfl rfl rfl ?_
    refine WL.skip rfl rfl rfl ?_
    refine WL.skip rfl rfl rfl ?_
    refine WL.skip rfl rfl rfl ?_
    refine WL.skip rfl rfl rfl ?_
    refine WL.quiet (d:=25) rfl rfl rfl (q_pickT rfl rfl) ?_
    exact WL.cutEnd () trivial (.cons rfl (.cons rfl (.cons rfl (.cons rfl (.cons (zp (or_l zns)) .nil))))) (.cons .here (.cons .here (.cons .here .nil)))
   ·have znt:=hb'; clear hb'
    refine WL.pin (i:=17) rfl znt ?_
    refine WL.quiet (d:=18) rfl rfl rfl (q_move rfl) ?_
    refine WL.quiet (d:=19) rfl rfl rfl (q_seqlC (r:=true) (by decide) rfl rfl) ?_
    refine WL.quiet (d:=20) rfl rfl rfl (q_move rfl) ?_
    refine WL.quiet (d:=21) rfl rfl rfl (q_fieldAddr fo_30_0 rfl rfl) ?_
    refine WL.quiet (d:=22) rfl rfl rfl (q_load1 oneT_3 rfl (rd_stb (.there .here) rfl)) ?_
    refine WL.quiet (d:=23) rfl rfl rfl (q_eql rfl rfl) ?_
    refine WL.quiet (d:=24) rfl rfl rfl (q_pickT rfl rfl) ?_
    refine WL.quiet (d:=25) rfl rfl rfl (q_pickF rfl rfl) ?_
    exact WL.cutEnd () trivial (.cons rfl (.cons rfl (.cons rfl (.cons rfl (.cons (zp (or_r znt)) .nil))))) (.cons .here (.cons .here (.cons .here .nil)))
  ·skip
   refine WL.nil ?_
   refine WX.then ?_
   refine WC.cond rfl (fun ziQ=>?_) (fun ziQ=>?_)
   ·replace h:=ite_t h ziQ
    refine WC.seq ?_
    refine WC.region ?_
    refine WL.quiet (d:=26) rfl rfl rfl (q_build (v:=(.agg #[(.int .i64 0),(.int .i64 0)])) (Eos.parts (l:=[]) .nil []) (fun _=>by kernel_rfl)) ?_
    refine WL.eff0 rfl rfl (e_store (vs:=[(.int .i64 0),(.int .i64 0)]) (ds:=[(.int .i64 0),(.int .i64 0)]) sizT_30 rfl rfl rfl rfl (oc_cons rfl (oc_cons rfl oc_nil)) .here (Nat.le_of_ble_eq_true rfl) rfl) ?_
    refine WL.quiet (d:=7) rfl rfl rfl (q_assign rfl) ?_
    refine WL.nil ?_
    refine WX.then ?_
    refine WC.ret ?_
    refine WX.thenRet ?_
    obtain rfl:=Option.some.inj h
    refine WX.bpRet Try.results40 (.agg rfl aggT_30 rfl (rd_all .here) (.tmp rfl .nil)) (fun w hw=>?_)
    exact ⟨ret2 rfl rfl,hw.sub .nil⟩
   ·replace h:=ite_f h ziQ
    refine WC.skip ?_
    refine WX.then ?_
    refine WC.seq ?_
    refine WC.region ?_
    refine WL.new (dd:=27) rfl rfl rfl (e_makeMap Value.string (fun x=>x)) ?_
    intro z6U _
    refine WL.quiet (d:=28) rfl rfl rfl (q_makeFunc (Eos.caps (l:=[.tmp 4,.tmp 5]) (.cons rfl (.cons rfl .nil)))) ?_
    refine WL.eff0 rfl rfl (e_insert (k:=⟨#[43]⟩) (v:=(.func (.func 54) #[] #[(.pointer (some ⟨zF,0,none⟩)),(.pointer (some ⟨zG,0,none⟩))])) keyT_9 Try.underlying105 rfl rfl rfl rfl .here) ?_
    refine WL.quiet (d:=29) rfl rfl rfl (q_makeFunc (Eos.caps (l:=[.tmp 4,.tmp 5]) (.cons rfl (.cons rfl .nil)))) ?_
    refine WL.eff0 rfl rfl (e_insert (k:=⟨#[45]⟩) (v:=(.func (.func 55) #[] #[(.pointer (some ⟨zF,0,none⟩)),(.pointer (some ⟨zG,0,none⟩))])) keyT_9 Try.underlying105 rfl rfl rfl rfl .here) ?_
    refine WL.quiet (d:=30) rfl rfl rfl (q_makeFunc (Eos.caps (l:=[.tmp 4,.tmp 5]) (.cons rfl (.cons rfl .nil)))) ?_
    refine WL.eff0 rfl rfl (e_insert (k:=⟨#[42]⟩) (v:=(.func (.func 56) #[] #[(.pointer (some ⟨zF,0,none⟩)),(.pointer (some ⟨zG,0,none⟩))])) keyT_9 Try.underlying105 rfl rfl rfl rfl .here) ?_
    refine WL.quiet (d:=31) rfl rfl rfl (q_makeFunc (Eos.caps (l:=[.tmp 4,.tmp 5]) (.cons rfl (.cons rfl .nil)))) ?_
    refine WL.eff0 rfl rfl (e_insert (k:=⟨#[47]⟩) (v:=(.func (.func 57) #[] #[(.pointer (some ⟨zF,0,none⟩)),(.pointer (some ⟨zG,0,none⟩))])) keyT_9 Try.underlying105 rfl rfl rfl rfl .here) ?_
    refine WL.quiet (d:=32) rfl rfl rfl (q_move rfl) ?_
    refine WL.quiet (d:=8) rfl rfl rfl (q_assign rfl) ?_
    refine WL.nil ?_
    refine WX.then ?_
    refine WC.seq ?_
    obtain ⟨zcL,zrH,h⟩:=ze h
    obtain ⟨zai,zrI,h⟩:=ze h
    refine WC.region ?_
    refine WL.quiet (d:=33) rfl rfl rfl (q_move rfl) ?_
    refine WL.quiet (d:=34) rfl rfl rfl (q_move rfl) ?_
    refine WL.quiet (d:=35) rfl rfl rfl (q_lookC (k:=⟨#[47]⟩) (dflt:=.nilFunc) (r:=(.func (.func 57) #[] #[(.pointer (some ⟨zF,0,none⟩)),(.pointer (some ⟨zG,0,none⟩))])) keyT_9 Try.underlying105 zfp rfl rfl rfl .here (by rfl)) ?_
    refine WL.callD (dd:=36) rfl rfl rfl (run_callv (l:=[]) Try.call57 rfl .nil) (.nil : Sel [mapA z6U Value.string (fun x=>x) [(⟨#[43]⟩,(.func (.func 54) #[] #[(.pointer (some ⟨zF,0,none⟩)),(.pointer (some ⟨zG,0,none⟩))])),(⟨#[45]⟩,(.func (.func 55) #[] #[(.pointer (some ⟨zF,0,none⟩)),(.pointer (some ⟨zG,0,none⟩))])),(⟨#[42]⟩,(.func (.func 56) #[] #[(.pointer (some ⟨zF,0,none⟩)),(.pointer (some ⟨zG,0,none⟩))])),(⟨#[47]⟩,(.func (.func 57) #[] #[(.pointer (some ⟨zF,0,none⟩)),(.pointer (some ⟨zG,0,none⟩))]))],stb z3P 30 [(.int .i64 0),(.int .i64 0)],stb zG 30 [(.int .i64 zR.fN),(.int .i64 zR.fD)],stb zF 30 [(.int .i64 zY.fN),(.int .i64 zY.fD)]] [] [mapA z6U Value.string (fun x=>x) [(⟨#[43]⟩,(.func (.func 54) #[] #[(.pointer (some ⟨zF,0,none⟩)),(.pointer (some ⟨zG,0,none⟩))])),(⟨#[45]⟩,(.func (.func 55) #[] #[(.pointer (some ⟨zF,0,none⟩)),(.pointer (some ⟨zG,0,none⟩))])),(⟨#[42]⟩,(.func (.func 56) #[] #[(.pointer (some ⟨zF,0,none⟩)),(.pointer (some ⟨zG,0,none⟩))])),(⟨#[47]⟩,(.func (.func 57) #[] #[(.pointer (some ⟨zF,0,none⟩)),(.pointer (some ⟨zG,0,none⟩))]))],stb z3P 30 [(.int .i64 0),(.int .i64 0)],stb zG 30 [(.int .i64 zR.fN),(.int .i64 zR.fD)],stb zF 30 [(.int .i64 zY.fN),(.int .i64 zY.fD)]]) (fun w hw=>by have pz:=(hz.call hw (.nil : Sel [mapA z6U Value.string (fun x=>x) [(⟨#[43]⟩,(.func (.func 54) #[] #[(.pointer (some ⟨zF,0,none⟩)),(.pointer (some ⟨zG,0,none⟩))])),(⟨#[45]⟩,(.func (.func 55) #[] #[(.pointer (some ⟨zF,0,none⟩)),(.pointer (some ⟨zG,0,none⟩))])),(⟨#[42]⟩,(.func (.func 56) #[] #[(.pointer (some ⟨zF,0,none⟩)),(.pointer (some ⟨zG,0,none⟩))])),(⟨#[47]⟩,(.func (.func 57) #[] #[(.pointer (some ⟨zF,0,none⟩)),(.pointer (some ⟨zG,0,none⟩))]))],stb z3P 30 [(.int .i64 0),(.int .i64 0)],stb zG 30 [(.int .i64 zR.fN),(.int .i64 zR.fD)],stb zF 30 [(.int .i64 zY.fN),(.int .i64 zY.fD)]] [] [mapA z6U Value.string (fun x=>x) [(⟨#[43]⟩,(.func (.func 54) #[] #[(.pointer (some ⟨zF,0,none⟩)),(.pointer (some ⟨zG,0,none⟩))])),(⟨#[45]⟩,(.func (.func 55) #[] #[(.pointer (some ⟨zF,0,none⟩)),(.pointer (some ⟨zG,0,none⟩))])),(⟨#[42]⟩,(.func (.func 56) #[] #[(.pointer (some ⟨zF,0,none⟩)),(.pointer (some ⟨zG,0,none⟩))])),(⟨#[47]⟩,(.func (.func 57) #[] #[(.pointer (some ⟨zF,0,none⟩)),(.pointer (some ⟨zG,0,none⟩))]))],stb z3P 30 [(.int .i64 0),(.int .i64 0)],stb zG 30 [(.int .i64 zR.fN),(.int .i64 zR.fD)],stb zF 30 [(.int .i64 zY.fN),(.int .i64 zY.fD)]])).lend hw (.nil : Sel [mapA z6U Value.string (fun x=>x) [(⟨#[43]⟩,(.func (.func 54) #[] #[(.pointer (some ⟨zF,0,none⟩)),(.pointer (some ⟨zG,0,none⟩))])),(⟨#[45]⟩,(.func (.func 55) #[] #[(.pointer (some ⟨zF,0,none⟩)),(.pointer (some ⟨zG,0,none⟩))])),(⟨#[42]⟩,(.func (.func 56) #[] #[(.pointer (some ⟨zF,0,none⟩)),(.pointer (some ⟨zG,0,none⟩))])),(⟨#[47]⟩,(.func (.func 57) #[] #[(.pointer (some ⟨zF,0,none⟩)),(.pointer (some ⟨zG,0,none⟩))]))],stb z3P 30 [(.int .i64 0),(.int .i64 0)],stb zG 30 [(.int .i64 zR.fN),(.int .i64 zR.fD)],stb zF 30 [(.int .i64 zY.fN),(.int .i64 zY.fD)]] [] [mapA z6U Value.string (fun x=>x) [(⟨#[43]⟩,(.func (.func 54) #[] #[(.pointer (some ⟨zF,0,none⟩)),(.pointer (some ⟨zG,0,none⟩))])),(⟨#[45]⟩,(.func (.func 55) #[] #[(.pointer (some ⟨zF,0,none⟩)),(.pointer (some ⟨zG,0,none⟩))])),(⟨#[42]⟩,(.func (.func 56) #[] #[(.pointer (some ⟨zF,0,none⟩)),(.pointer (some ⟨zG,0,none⟩))])),(⟨#[47]⟩,(.func (.func 57) #[] #[(.pointer (some ⟨zF,0,none⟩)),(.pointer (some ⟨zG,0,none⟩))]))],stb z3P 30 [(.int .i64 0),(.int .i64 0)],stb zG 30 [(.int .i64 zR.fN),(.int .i64 zR.fD)],stb zF 30 [(.int .i64 zY.fN),(.int .i64 zY.fD)]]) (B:=[stb zF 30 [(.int .i64 zY.fN),(.int .i64 zY.fD)],stb zG 30 [(.int .i64 zR.fN),(.int .i64 zR.fD)]]) (fun _ hx'=>((.cons (.there (.there (.there .here))) (.cons (.there (.there .here)) .nil)) : Sel _ [stb zF 30 [(.int .i64 zY.fN),(.int .i64 zY.fD)],stb zG 30 [(.int .i64 zR.fN),(.int .i64 zR.fD)]] _).mem hx'); exact w_rat_do_4 (Z:=_) (ze5:=⟨zF,0,none⟩) (ze6:=⟨zG,0,none⟩) (zbm:=zY) (zbn:=zR) (r:=zcL) w pz ((hw.lent (.nil : Sel [mapA z6U Value.string (fun x=>x) [(⟨#[43]⟩,(.func (.func 54) #[] #[(.pointer (some ⟨zF,0,none⟩)),(.pointer (some ⟨zG,0,none⟩))])),(⟨#[45]⟩,(.func (.func 55) #[] #[(.pointer (some ⟨zF,0,none⟩)),(.pointer (some ⟨zG,0,none⟩))])),(⟨#[42]⟩,(.func (.func 56) #[] #[(.pointer (some ⟨zF,0,none⟩)),(.pointer (some ⟨zG,0,none⟩))])),(⟨#[47]⟩,(.func (.func 57) #[] #[(.pointer (some ⟨zF,0,none⟩)),(.pointer (some ⟨zG,0,none⟩))]))],stb z3P 30 [(.int .i64 0),(.int .i64 0)],stb zG 30 [(.int .i64 zR.fN),(.int .i64 zR.fD)],stb zF 30 [(.int .i64 zY.fN),(.int .i64 zY.fD)]] [] [mapA z6U Value.string (fun x=>x) [(⟨#[43]⟩,(.func (.func 54) #[] #[(.pointer (some ⟨zF,0,none⟩)),(.pointer (some ⟨zG,0,none⟩))])),(⟨#[45]⟩,(.func (.func 55) #[] #[(.pointer (some ⟨zF,0,none⟩)),(.pointer (some ⟨zG,0,none⟩))])),(⟨#[42]⟩,(.func (.func 56) #[] #[(.pointer (some ⟨zF,0,none⟩)),(.pointer (some ⟨zG,0,none⟩))])),(⟨#[47]⟩,(.func (.func 57) #[] #[(.pointer (some ⟨zF,0,none⟩)),(.pointer (some ⟨zG,0,none⟩))]))],stb z3P 30 [(.int .i64 0),(.int .i64 0)],stb zG 30 [(.int .i64 zR.fN),(.int .i64 zR.fD)],stb zF 30 [(.int .i64 zY.fN),(.int .i64 zY.fD)]]) (B:=[stb zF 30 [(.int .i64 zY.fN),(.int .i64 zY.fD)],stb zG 30 [(.int .i64 zR.fN),(.int .i64 zR.fD)]]) (fun _ hx'=>((.cons (.there (.there (.there .here))) (.cons (.there (.there .here)) .nil)) : Sel _ [stb zF 30 [(.int .i64 zY.fN),(.int .i64 zY.fD)],stb zG 30 [(.int .i64 zR.fN),(.int .i64 zR.fD)]] _).mem hx') (.head _) _).stb) ((hw.lent (.nil : Sel [mapA z6U Value.string (fun x=>x) [(⟨#[43]⟩,(.func (.func 54) #[] #[(.pointer (some ⟨zF,0,none⟩)),(.pointer (some ⟨zG,0,none⟩))])),(⟨#[45]⟩,(.func (.func 55) #[] #[(.pointer (some ⟨zF,0,none⟩)),(.pointer (some ⟨zG,0,none⟩))])),(⟨#[42]⟩,(.func (.func 56) #[] #[(.pointer (some ⟨zF,0,none⟩)),(.pointer (some ⟨zG,0,none⟩))])),(⟨#[47]⟩,(.func (.func 57) #[] #[(.pointer (some ⟨zF,0,none⟩)),(.pointer (some ⟨zG,0,none⟩))]))],stb z3P 30 [(.int .i64 0),(.int .i64 0)],stb zG 30 [(.int .i64 zR.fN),(.int .i64 zR.fD)],stb zF 30 [(.int .i64 zY.fN),(.int .i64 zY.fD)]] [] [mapA z6U Value.string (fun x=>x) [(⟨#[43]⟩,(.func (.func 54) #[] #[(.pointer (some ⟨zF,0,none⟩)),(.pointer (some ⟨zG,0,none⟩))])),(⟨#[45]⟩,(.func (.func 55) #[] #[(.pointer (some ⟨zF,0,none⟩)),(.pointer (some ⟨zG,0,none⟩))])),(⟨#[42]⟩,(.func (.func 56) #[] #[(.pointer (some ⟨zF,0,none⟩)),(.pointer (some ⟨zG,0,none⟩))])),(⟨#[47]⟩,(.func (.func 57) #[] #[(.pointer (some ⟨zF,0,none⟩)),(.pointer (some ⟨zG,0,none⟩))]))],stb z3P 30 [(.int .i64 0),(.int .i64 0)],stb zG 30 [(.int .i64 zR.fN),(.int .i64 zR.fD)],stb zF 30 [(.int .i64 zY.fN),(.int .i64 zY.fD)]]) (B:=[stb zF 30 [(.int .i64 zY.fN),(.int .i64 zY.fD)],stb zG 30 [(.int .i64 zR.fN),(.int .i64 zR.fD)]]) (fun _ hx'=>((.cons (.there (.there (.there .here))) (.cons (.there (.there .here)) .nil)) : Sel _ [stb zF 30 [(.int .i64 zY.fN),(.int .i64 zY.fD)],stb zG 30 [(.int .i64 zR.fN),(.int .i64 zR.fD)]] _).mem hx') (.tail _ (.head _)) _).stb) zrH) ?_
    refine WL.quiet (d:=37) rfl rfl rfl (q_extract rfl rfl) ?_
    refine WL.quiet (d:=38) rfl rfl rfl (q_extract rfl rfl) ?_
    refine WL.callD (dd:=39) rfl rfl rfl (zn (l:=[.tmp 37,.tmp 38]) Try.call9 (.cons rfl (.cons rfl .nil))) (.nil : Sel [mapA z6U Value.string (fun x=>x) [(⟨#[43]⟩,(.func (.func 54) #[] #[(.pointer (some ⟨zF,0,none⟩)),(.pointer (some ⟨zG,0,none⟩))])),(⟨#[45]⟩,(.func (.func 55) #[] #[(.pointer (some ⟨zF,0,none⟩)),(.pointer (some ⟨zG,0,none⟩))])),(⟨#[42]⟩,(.func (.func 56) #[] #[(.pointer (some ⟨zF,0,none⟩)),(.pointer (some ⟨zG,0,none⟩))])),(⟨#[47]⟩,(.func (.func 57) #[] #[(.pointer (some ⟨zF,0,none⟩)),(.pointer (some ⟨zG,0,none⟩))]))],stb z3P 30 [(.int .i64 0),(.int .i64 0)],stb zG 30 [(.int .i64 zR.fN),(.int .i64 zR.fD)],stb zF 30 [(.int .i64 zY.fN),(.int .i64 zY.fD)]] [] [mapA z6U Value.string (fun x=>x) [(⟨#[43]⟩,(.func (.func 54) #[] #[(.pointer (some ⟨zF,0,none⟩)),(.pointer (some ⟨zG,0,none⟩))])),(⟨#[45]⟩,(.func (.func 55) #[] #[(.pointer (some ⟨zF,0,none⟩)),(.pointer (some ⟨zG,0,none⟩))])),(⟨#[42]⟩,(.func (.func 56) #[] #[(.pointer (some ⟨zF,0,none⟩)),(.pointer (some ⟨zG,0,none⟩))])),(⟨#[47]⟩,(.func (.func 57) #[] #[(.pointer (some ⟨zF,0,none⟩)),(.pointer (some ⟨zG,0,none⟩))]))],stb z3P 30 [(.int .i64 0),(.int .i64 0)],stb zG 30 [(.int .i64 zR.fN),(.int .i64 zR.fD)],stb zF 30 [(.int .i64 zY.fN),(.int .i64 zY.fD)]]) (fun w hw=>by have pz:=(hz.call hw (.nil : Sel [mapA z6U Value.string (fun x=>x) [(⟨#[43]⟩,(.func (.func 54) #[] #[(.pointer (some ⟨zF,0,none⟩)),(.pointer (some ⟨zG,0,none⟩))])),(⟨#[45]⟩,(.func (.func 55) #[] #[(.pointer (some ⟨zF,0,none⟩)),(.pointer (some ⟨zG,0,none⟩))])),(⟨#[42]⟩,(.func (.func 56) #[] #[(.pointer (some ⟨zF,0,none⟩)),(.pointer (some ⟨zG,0,none⟩))])),(⟨#[47]⟩,(.func (.func 57) #[] #[(.pointer (some ⟨zF,0,none⟩)),(.pointer (some ⟨zG,0,none⟩))]))],stb z3P 30 [(.int .i64 0),(.int .i64 0)],stb zG 30 [(.int .i64 zR.fN),(.int .i64 zR.fD)],stb zF 30 [(.int .i64 zY.fN),(.int .i64 zY.fD)]] [] [mapA z6U Value.string (fun x=>x) [(⟨#[43]⟩,(.func (.func 54) #[] #[(.pointer (some ⟨zF,0,none⟩)),(.pointer (some ⟨zG,0,none⟩))])),(⟨#[45]⟩,(.func (.func 55) #[] #[(.pointer (some ⟨zF,0,none⟩)),(.pointer (some ⟨zG,0,none⟩))])),(⟨#[42]⟩,(.func (.func 56) #[] #[(.pointer (some ⟨zF,0,none⟩)),(.pointer (some ⟨zG,0,none⟩))])),(⟨#[47]⟩,(.func (.func 57) #[] #[(.pointer (some ⟨zF,0,none⟩)),(.pointer (some ⟨zG,0,none⟩))]))],stb z3P 30 [(.int .i64 0),(.int .i64 0)],stb zG 30 [(.int .i64 zR.fN),(.int .i64 zR.fD)],stb zF 30 [(.int .i64 zY.fN),(.int .i64 zY.fD)]])); exact w_rat_Make (Z:=_)  (z7f:=zcL.1) (z6Q:=zcL.2) (r:=zai) w pz  zrI) ?_
    refine WL.quiet (d:=40) rfl rfl rfl (q_extract rfl rfl) ?_
    refine WL.quiet (d:=41) rfl rfl rfl (q_extract rfl rfl) ?_
    refine WL.eff0 rfl rfl (e_store (vs:=[(.int .i64 zai.1.fN),(.int .i64 zai.1.fD)]) (ds:=[(.int .i64 zai.1.fN),(.int .i64 zai.1.fD)]) sizT_30 rfl rfl rfl rfl (oc_cons rfl (oc_cons rfl oc_nil)) (.there .here) (Nat.le_of_ble_eq_true rfl) rfl) ?_
    refine WL.quiet (d:=7) rfl rfl rfl (q_assign rfl) ?_
    refine WL.nil ?_
    refine WX.then ?_
    refine WC.ret ?_
    obtain rfl:=Option.some.inj h
    refine WX.bpRet Try.results40 (.agg rfl aggT_30 rfl (rd_all .here) (.tmp rfl .nil)) (fun w hw=>?_)
    exact ⟨ret2 rfl rfl,hw.sub .nil⟩
def m_rat_Div (z4c : z2) (z4d : z2) : Option (z2 × Int) :=
 (m_rat_dob z4c z4d).bind fun zaj=>some (zaj.1,zaj.2)
set_option maxRecDepth 20000 in
theorem w_rat_Div (Z : Zp)   (z4c : z2) (z4d : z2) (r : z2 × Int) (w₀ : World) (hz : PZ [] w₀ Z)
  (h : m_rat_Div z4c z4d = some r) :
  Calls Try.prog 34 #[(.agg #[(.int .i64 z4c.fN),(.int .i64 z4c.fD)]),(.agg #[(.int .i64 z4d.fN),(.int .i64 z4d.fD)])] w₀ fun e w'=>e = .returned (.tuple #[(.agg #[(.int .i64 r.1.fN),(.int .i64 r.1.fD)]),(.int .i64 r.2)]) ∧ Hp [] w₀ w' []:=by
 unfold m_rat_Div at h
 refine Calls.ofWC (vs:=[(.agg #[(.int .i64 z4c.fN),(.int .i64 z4c.fD)]),(.agg #[(.int .i64 z4d.fN),(.int .i64 z4d.fD)])]) (pre:=[]) (env:=[(0,(.agg #[(.int .i64 z4c.fN),(.int .i64 z4c.fD)])),(1,(.agg #[(.int .i64 z4d.fN),(.int .i64 z4d.fD)]))]) Try.func34 rfl Try.ntmps34 rfl (Hp.nil w₀ _) rfl ?_
 refine WC.seq ?_
 refine WC.region ?_
 refine WL.new (dd:=2) rfl rfl rfl (e_box (cs:=[(.int .i64 z4c.fN),(.int .i64 z4c.fD)]) rfl rfl) ?_
 intro zfQ _
 refine WL.new (dd:=3) rfl rfl rfl (e_box (cs:=[(.int .i64 z4d.fN),(.int .i64 z4d.fD)]) rfl rfl) ?_
 intro zfR _
 refine WL.new (dd:=4) rfl rfl rfl (e_alloc (cs:=[(.int .i64 0),(.int .i64 0)]) zeroT_30 rfl) ?_
 intro zfS _
 refine WL.quiet (d:=5) rfl rfl rfl (q_assign rfl) ?_
 refine WL.nil ?_
 refine WX.then ?_
 refine WC.seq ?_
 obtain ⟨zaj,zrJ,h⟩:=ze h
 refine WC.region ?_
 refine WL.quiet (d:=6) rfl rfl rfl (q_loadA (cs:=[(.int .i64 z4c.fN),(.int .i64 z4c.fD)]) aggT_30 rfl rfl (rd_all (.there (.there .here)))) ?_
 refine WL.quiet (d:=7) rfl rfl rfl (q_loadA (cs:=[(.int .i64 z4d.fN),(.int .i64 z4d.fD)]) aggT_30 rfl rfl (rd_all (.there .here))) ?_
 refine WL.callD (dd:=8) rfl rfl rfl (zn (l:=[.const (.string ⟨#[47]⟩),.tmp 6,.tmp 7]) Try.call40 (.cons rfl (.cons rfl (.cons rfl .nil)))) (.nil : Sel [stb zfS 30 [(.int .i64 0),(.int .i64 0)],stb zfR 30 [(.int .i64 z4d.fN),(.int .i64 z4d.fD)],stb zfQ 30 [(.int .i64 z4c.fN),(.int .i64 z4c.fD)]] [] [stb zfS 30 [(.int .i64 0),(.int .i64 0)],stb zfR 30 [(.int .i64 z4d.fN),(.int .i64 z4d.fD)],stb zfQ 30 [(.int .i64 z4c.fN),(.int .i64 z4c.fD)]]) (fun w hw=>by have pz:=(hz.call hw (.nil : Sel [stb zfS 30 [(.int .i64 0),(.int .i64 0)],stb zfR 30 [(.int .i64 z4d.fN),(.int .i64 z4d.fD)],stb zfQ 30 [(.int .i64 z4c.fN),(.int .i64 z4c.fD)]] [] [stb zfS 30 [(.int .i64 0),(.int .i64 0)],stb zfR 30 [(.int .i64 z4d.fN),(.int .i64 z4d.fD)],stb zfQ 30 [(.int .i64 z4c.fN),(.int .i64 z4c.fD)]])); exact w_rat_dob (Z:=_)  (zY:=z4c) (zR:=z4d) (r:=zaj) w pz  zrJ) ?_
 refine WL.quiet (d:=9) rfl rfl rfl (q_extract rfl rfl) ?_
 refine WL.quiet (d:=10) rfl rfl rfl (q_extract rfl rfl) ?_
 refine WL.eff0 rfl rfl (e_store (vs:=[(.int .i64 zaj.1.fN),(.int .i64 zaj.1.fD)]) (ds:=[(.int .i64 zaj.1.fN),(.int .i64 zaj.1.fD)]) sizT_30 rfl rfl rfl rfl (oc_cons rfl (oc_cons rfl oc_nil)) .here (Nat.le_of_ble_eq_true rfl) rfl) ?_
 refine WL.quiet (d:=5) rfl rfl rfl (q_assign rfl) ?_
 refine WL.nil ?_
 refine WX.then ?_
 refine WC.ret ?_
 obtain rfl:=Option.some.inj h
 refine WX.bpRet Try.results34 (.agg rfl aggT_30 rfl (rd_all .here) (.tmp rfl .nil)) (fun w hw=>?_)
 exact ⟨ret2 rfl rfl,hw.sub .nil⟩
theorem srtA_90 : ∀ w,(isAgg (Try.laysSlF014_f90_ren.t 24)).run Try.prog w = .ok true w:=fun _=>by kernel_rfl
theorem srtZ_90 : ∀ w,(Go.sizeOf (Try.laysSlF014_f90_ren.t 24)).run Try.prog w = .ok 2 w:=fun _=>by kernel_rfl
def m_slices_pdqsortCmpFunc_api_Rat (z60 : List z2) (ze9 : Int) (zea : Int) (zcM : Int) (zbo : z2 → z2 → Option Int) : Option (List z2):=chk ((ze9 = 0 ∧ zea = ((z60.length : Nat) : Int)) ∧ (0 ≤ zcM ∧ zcM < 4611686018427387904 ∧ z60.length < 4611686018427387904)) (chk (ordB zbo (sortBy zbo z60) = true) (some (sortBy zbo z60)))
theorem w_slices_pdqsortCmpFunc_api_Rat (Z : Zp) (zbp : Option Addr) (zbq : Nat) (zeb : FuncId) (ziR : List Value) (z60 : List z2) (ze9 : Int) (zea : Int) (zcM : Int) (zbo : z2 → z2 → Option Int) (r : List z2) (w₀ : World) (hz : PZ (fps [row (.slice zbp z60.length zbq) 30 2 (z60.flatMap e30)]) w₀ Z)
  (zrK : ∀ args w,(callFunc zeb args).run Try.prog w = .ok (.enter zeb args) w)
  (zrL : ∀ w : World,PZ [] w Z → ∀ (x0 : z2) (x1 : z2) (r : Int),zbo x0 x1 = some r → Calls Try.prog zeb (([(.agg #[(.int .i64 x0.fN),(.int .i64 x0.fD)]),(.agg #[(.int .i64 x1.fN),(.int .i64 x1.fD)])] : List Value) ++ ziR).toArray w fun e w'=>e = .returned (.int .i64 r) ∧ Hp [] w w' [])
  (h : m_slices_pdqsortCmpFunc_api_Rat z60 ze9 zea zcM zbo = some r) (hown : Hp (fps [row (.slice zbp z60.length zbq) 30 2 (z60.flatMap e30)]) w₀ w₀ [row (.slice zbp z60.length zbq) 30 2 (z60.flatMap e30)]) :
  Calls Try.prog 90 #[(.slice zbp z60.length zbq),(.int .i64 ze9),(.int .i64 zea),(.int .i64 zcM),(.func (.func zeb) #[] (ziR).toArray)] w₀ fun e w'=>e = .returned (.tuple #[]) ∧ (r.length = z60.length) ∧ Hp (fps [row (.slice zbp z60.length zbq) 30 2 (z60.flatMap e30)]) w₀ w' [row (.slice zbp r.length zbq) 30 2 (r.flatMap e30)]:=by
 obtain ⟨h0,h⟩:=chk_elim h
 obtain ⟨h1,h⟩:=chk_elim h
 have hr:=(Option.some.inj h).symm
 exact sort_func (P:=Try.prog) (f:=90) (e:=30) (k:=2) (enc:=e30) (fun _=>rfl) (by decide) e30_oc (fun β _ enc cf g cb hO blk off cap d0 w0 eg hC R=>Try.pdqsortCmpFunc_all_f90 2 srtA_90 srtZ_90 enc cf g cb hO blk off cap d0 w0 eg hC R) (Try.pdqsortCmpFunc_none_f90 (α:=Unit)) hz zrK zrL h0 h1 hr hown
def m_slices_SortFunc_api_Rat_api_Rat (z2e : List z2) (zcN : z2 → z2 → Option Int) : Option (List z2) :=
 (m_bits_Len (u64 ((z2e.length : Nat) : Int))).bind fun zfT=>(m_slices_pdqsortCmpFunc_api_Rat z2e 0 ((z2e.length : Nat) : Int) zfT zcN).bind fun zfU=>some zfU
set_option maxRecDepth 20000 in
theorem w_slices_SortFunc_api_Rat_api_Rat (Z : Zp)  (z4A : Option Addr) (z4B : Nat) (zak : FuncId) (zcO : List Value) (z2e : List z2) (zcN : z2 → z2 → Option Int) (r : List z2) (w₀ : World) (hz : PZ (fps [row (.slice z4A z2e.length z4B) 30 2 (z2e.flatMap e30)]) w₀ Z)
  (zrM : ∀ args w,(callFunc zak args).run Try.prog w = .ok (.enter zak args) w)
  (zrN : ∀ w : World,PZ [] w Z → ∀ (x0 : z2) (x1 : z2) (r : Int),zcN x0 x1 = some r → Calls Try.prog zak (([(.agg #[(.int .i64 x0.fN),(.int .i64 x0.fD)]),(.agg #[(.int .i64 x1.fN),(.int .i64 x1.fD)])] : List Value) ++ zcO).toArray w fun e w'=>e = .returned (.int .i64 r) ∧ Hp [] w w' [])
  (h : m_slices_SortFunc_api_Rat_api_Rat z2e zcN = some r)
  (hown : Hp (fps [row (.slice z4A z2e.length z4B) 30 2 (z2e.flatMap e30)]) w₀ w₀ [row (.slice z4A z2e.length z4B) 30 2 (z2e.flatMap e30)]) :
  Calls Try.prog 77 #[(.slice z4A z2e.length z4B),(.func (.func zak) #[] (zcO).toArray)] w₀ fun e w'=>e = .returned (.tuple #[]) ∧ (r.length = z2e.length) ∧ Hp (fps [row (.slice z4A z2e.length z4B) 30 2 (z2e.flatMap e30)]) w₀ w' [row (.slice z4A r.length z4B) 30 2 (r.flatMap e30)]:=by
 unfold m_slices_SortFunc_api_Rat_api_Rat at h
 refine Calls.ofWC (vs:=[(.slice z4A z2e.length z4B),(.func (.func zak) #[] (zcO).toArray)]) (pre:=[row (.slice z4A z2e.length z4B) 30 2 (z2e.flatMap e30)]) (env:=[(0,(.slice z4A z2e.length z4B)),(1,(.func (.func zak) #[] (zcO).toArray))]) Try.func77 rfl Try.ntmps77 rfl (hown) rfl ?_
 refine WC.seq ?_
 refine WC.region ?_
 refine WL.quiet (d:=5) rfl rfl rfl (q_move rfl) ?_
 refine WL.quiet (d:=6) rfl rfl rfl (q_len Try.underlying77 rfl) ?_
 refine WL.quiet (d:=4) rfl rfl rfl (q_assign rfl) ?_
 refine WL.nil ?_
 refine WX.then ?_
 obtain ⟨zfT,zrO,h⟩:=ze h
 obtain ⟨zfU,zrP,h⟩:=ze h
 refine WC.region ?_
 refine WL.quiet (d:=7) rfl rfl rfl (q_move rfl) ?_
 refine WL.quiet (d:=8) rfl rfl rfl (q_move rfl) ?_
 refine WL.quiet (d:=9) rfl rfl rfl (q_move rfl) ?_
 refine WL.quiet (d:=10) rfl rfl rfl (q_conv Try.underlying3 Try.underlying120 rfl rfl) ?_
 refine WL.callD (dd:=11) rfl rfl rfl (zn (l:=[.tmp 10]) Try.call74 (.cons rfl .nil)) (.nil : Sel [row (.slice z4A z2e.length z4B) 30 2 (z2e.flatMap e30)] [] [row (.slice z4A z2e.length z4B) 30 2 (z2e.flatMap e30)]) (fun w hw=>by have pz:=(hz.call hw (.nil : Sel [row (.slice z4A z2e.length z4B) 30 2 (z2e.flatMap e30)] [] [row (.slice z4A z2e.length z4B) 30 2 (z2e.flatMap e30)])); exact w_bits_Len (Z:=_)  (z9g:=(u64 ((z2e.length : Nat) : Int))) (r:=zfT) w pz  zrO) ?_
 refine WL.quiet (d:=12) rfl rfl rfl (q_move rfl) ?_
 refine WL.enter0 (dd:=13) rfl rfl rfl (zn (l:=[.tmp 7,.const (.int .i64 0),.tmp 8,.tmp 11,.tmp 12]) Try.call90 (.cons rfl (.cons rfl (.cons rfl (.cons rfl (.cons rfl .nil)))))) ((.cons .here .nil) : Sel [row (.slice z4A z2e.length z4B) 30 2 (z2e.flatMap e30)] [row (.slice z4A z2e.length z4B) 30 2 (z2e.flatMap e30)] []) (fun w hw=>by have pz:=(hz.call hw ((.cons .here .nil) : Sel [row (.slice z4A z2e.length z4B) 30 2 (z2e.flatMap e30)] [row (.slice z4A z2e.length z4B) 30 2 (z2e.flatMap e30)] [])); exact w_slices_pdqsortCmpFunc_api_Rat (Z:=_) (zbp:=z4A) (zbq:=z4B) (zeb:=zak) (ziR:=zcO) (z60:=z2e) (ze9:=0) (zea:=((z2e.length : Nat) : Int)) (zcM:=zfT) (zbo:=zcN) (r:=zfU) w pz zrM zrN zrP (hw.owns ((.cons .here .nil) : Sel [row (.slice z4A z2e.length z4B) 30 2 (z2e.flatMap e30)] [row (.slice z4A z2e.length z4B) 30 2 (z2e.flatMap e30)] []))) ?_
 rintro  znu
 refine WL.repin (i:=0) rfl (u:=(.slice z4A zfU.length z4B)) (slen znu.symm) ?_
 refine WL.nil ?_
 obtain rfl:=Option.some.inj h
 refine WX.bpNormal Try.results77 .nil (fun w hw=>?_)
 exact ⟨ret0,(znu.trans rfl),hw.sub (.cons .here .nil)⟩
def m_slices_Compact_api_Rat_api_Rat_L4 (z1l : List z2) (zO : Int) (z9r : (List z2) → Int → Option (List z2)) : Nat → (List z2) → Int → Int → Option (List z2)
 | 0,_,_,_=>none
 | ziS + 1,z1R,z4C,k2_14502=>if decide (k2_14502 < ((z1l.length - (zO : Int).toNat : Nat) : Int)) then jp2 (fun (z7A : List z2) (z9s : Int)=>m_slices_Compact_api_Rat_api_Rat_L4 z1l zO z9r ziS z7A z9s (i64 (k2_14502 + 1))) fun zfV=>chk ((0 : Int) ≤ k2_14502 ∧ k2_14502 < ((z1l.length - (zO : Int).toNat : Nat) : Int)) (chk ((0 : Int) ≤ (i64 (k2_14502 - 1)) ∧ (i64 (k2_14502 - 1)) < ((z1l.length - (zO : Int).toNat : Nat) : Int)) (if decide ((⟨((nth z1R (zO + k2_14502)).fN),((nth z1R (zO + k2_14502)).fD)⟩ : z2) ≠ (⟨((nth z1R (zO + (i64 (k2_14502 - 1)))).fN),((nth z1R (zO + (i64 (k2_14502 - 1)))).fD)⟩ : z2)) then chk ((0 : Int) ≤ k2_14502 ∧ k2_14502 < ((z1l.length - (zO : Int).toNat : Nat) : Int)) (chk ((0 : Int) ≤ z4C ∧ z4C < ((z1R.length : Nat) : Int)) (zfV (z1R.set (z4C : Int).toNat (⟨((nth z1R (zO + k2_14502)).fN),((nth z1R (zO + k2_14502)).fD)⟩ : z2)) (i64 (z4C + 1)))) else zfV z1R z4C)) else z9r z1R z4C
theorem m_slices_Compact_api_Rat_api_Rat_L4_fuel {n : Nat} {z1l : List z2} {zO : Int} {z9r : (List z2) → Int → Option (List z2)} {z1R : List z2} {z4C : Int} {k2_14502 : Int} {r : List z2} (h : m_slices_Compact_api_Rat_api_Rat_L4 z1l zO z9r n z1R z4C k2_14502 = some r) : ∃ m,n = m + 1:=by
 cases n with
 | zero=>cases h
 | succ m=>exact ⟨m,rfl⟩
def m_slices_Compact_api_Rat_api_Rat_L3 (z1l : List z2) (z9t : Option (List z2)) : Nat → Int → Option (List z2)
 | 0,_=>none
 | ziT + 1,zO=>if decide (zO < ((z1l.length : Nat) : Int)) then jp0 (m_slices_Compact_api_Rat_api_Rat_L3 z1l z9t ziT (i64 (zO + 1))) fun ziU=>chk ((0 : Int) ≤ zO ∧ zO < ((z1l.length : Nat) : Int)) (chk ((0 : Int) ≤ (i64 (zO - 1)) ∧ (i64 (zO - 1)) < ((z1l.length : Nat) : Int)) (if decide ((⟨((nth z1l zO).fN),((nth z1l zO).fD)⟩ : z2) = (⟨((nth z1l (i64 (zO - 1))).fN),((nth z1l (i64 (zO - 1))).fD)⟩ : z2)) then chk ((0 : Int) ≤ zO ∧ zO < ((z1l.length : Nat) : Int)) (jp2 (fun (z4D : List z2) (z4E : Int)=>chk ((0 : Int) ≤ z4E ∧ z4E ≤ ((z4D.length : Nat) : Int)) (chk ((0 : Int) ≤ z4E ∧ z4E ≤ (((z4D.take (z4E : Int).toNat ++ List.replicate (z4D.length - (z4E : Int).toNat) ((⟨0,0⟩ : z2) : z2)).length : Nat) : Int)) (some ((z4D.take (z4E : Int).toNat ++ List.replicate (z4D.length - (z4E : Int).toNat) ((⟨0,0⟩ : z2) : z2)).take (z4E : Int).toNat)))) fun z9r=>m_slices_Compact_api_Rat_api_Rat_L4 z1l zO z9r FUEL z1l zO 1) else ziU)) else z9t
theorem m_slices_Compact_api_Rat_api_Rat_L3_fuel {n : Nat} {z1l : List z2} {z9t : Option (List z2)} {zO : Int} {r : List z2} (h : m_slices_Compact_api_Rat_api_Rat_L3 z1l z9t n zO = some r) : ∃ m,n = m + 1:=by
 cases n with
 | zero=>cases h
 | succ m=>exact ⟨m,rfl⟩
def m_slices_Compact_api_Rat_api_Rat (z1l : List z2) : Option (List z2) :=
 if decide (((z1l.length : Nat) : Int) < 2) then some z1l else jp0 (some z1l) fun z9t=>m_slices_Compact_api_Rat_api_Rat_L3 z1l z9t FUEL 1
set_option maxRecDepth 20000 in
theorem w_slices_Compact_api_Rat_api_Rat (Z : Zp)  (z89 : Option Addr) (z8a : Nat) (z1l : List z2) (r : List z2) (w₀ : World) (hz : PZ (fps [row (.slice z89 z1l.length z8a) 30 2 (z1l.flatMap e30)]) w₀ Z)
  (h : m_slices_Compact_api_Rat_api_Rat z1l = some r)
  (hown : Hp (fps [row (.slice z89 z1l.length z8a) 30 2 (z1l.flatMap e30)]) w₀ w₀ [row (.slice z89 z1l.length z8a) 30 2 (z1l.flatMap e30)]) :
  Calls Try.prog 78 #[(.slice z89 z1l.length z8a)] w₀ fun e w'=>∃ znv : Option Addr,∃ znw : Nat,e = .returned (.slice znv r.length znw) ∧ True ∧ Hp (fps [row (.slice z89 z1l.length z8a) 30 2 (z1l.flatMap e30)]) w₀ w' [row (.slice znv r.length znw) 30 2 (r.flatMap e30)]:=by
 unfold m_slices_Compact_api_Rat_api_Rat at h
 refine Calls.ofWC (vs:=[(.slice z89 z1l.length z8a)]) (pre:=[row (.slice z89 z1l.length z8a) 30 2 (z1l.flatMap e30)]) (env:=[(0,(.slice z89 z1l.length z8a))]) Try.func78 rfl Try.ntmps78 rfl (hown) rfl ?_
 refine WC.seq ?_
 refine WC.region ?_
 refine WL.quiet (d:=2) rfl rfl rfl (q_assign rfl) ?_
 refine WL.nil ?_
 refine WX.then ?_
 refine WC.seq ?_
 refine WC.seq ?_
 refine WC.region ?_
 refine WL.quiet (d:=6) rfl rfl rfl (q_move rfl) ?_
 refine WL.quiet (d:=7) rfl rfl rfl (q_len Try.underlying77 rfl) ?_
 refine WL.quiet (d:=8) rfl rfl rfl (q_lss rfl rfl) ?_
 refine WL.nil ?_
 refine WX.then ?_
 refine WC.cond rfl (fun ziV=>?_) (fun ziV=>?_)
 ·replace h:=ite_t h ziV
  refine WC.seq ?_
  refine WC.region ?_
  refine WL.quiet (d:=9) rfl rfl rfl (q_move rfl) ?_
  refine WL.quiet (d:=2) rfl rfl rfl (q_assign rfl) ?_
  refine WL.nil ?_
  refine WX.then ?_
  refine WC.ret ?_
  refine WX.thenRet ?_
  obtain rfl:=Option.some.inj h
  refine WX.bpRet Try.results78 (.tmp rfl .nil) (fun w hw=>?_)
  exact ⟨z89,z8a,ret1 rfl,trivial,hw.sub (.cons .here .nil)⟩
 ·replace h:=ite_f h ziV
  refine WC.skip ?_
  refine WX.then ?_
  obtain ⟨z9t,zrQ,h⟩:=jp0_elim h
  refine WC.seqMid2 (fun (zcP : Option Addr) (zcQ : Nat)=>(z9t = some r)) (fun (zcP : Option Addr) (zcQ : Nat)=>[(0,(.slice zcP z1l.length zcQ))]) (fun (zcP : Option Addr) (zcQ : Nat)=>[row (.slice zcP z1l.length zcQ) 30 2 (z1l.flatMap e30)]) ?_ ?_
  ·skip
   refine WC.seq ?_
   refine WC.region ?_
   refine WL.quiet (d:=3) rfl rfl rfl (q_assign rfl) ?_
   refine WL.nil ?_
   refine WX.then ?_
   refine WC.block ?_
   refine WC.loop4 (fun (zcR : Nat) (zO : Int) (zbr : Option Addr) (z4Y : Nat)=>(m_slices_Compact_api_Rat_api_Rat_L3 z1l z9t zcR zO = some r)) (fun (zcR : Nat) (zO : Int) (zbr : Option Addr) (z4Y : Nat)=>[(0,(.slice zbr z1l.length z4Y)),(3,(.int .i64 zO))]) (fun (zcR : Nat) (zO : Int) (zbr : Option Addr) (z4Y : Nat)=>[row (.slice zbr z1l.length z4Y) 30 2 (z1l.flatMap e30)]) (fun (zcR : Nat) (zO : Int) (zbr : Option Addr) (z4Y : Nat)=>zcR) ⟨FUEL,1,z89,z8a⟩ h (.cons rfl (.cons rfl .nil)) (.cons .here .nil) ?_
   rintro zcR zO zbr z4Y h
   obtain ⟨ziT,rfl⟩:=m_slices_Compact_api_Rat_api_Rat_L3_fuel h
   rw [m_slices_Compact_api_Rat_api_Rat_L3] at h
   refine WC.seq ?_
   refine WC.seq ?_
   refine WC.region ?_
   refine WL.quiet (d:=10) rfl rfl rfl (q_move rfl) ?_
   refine WL.quiet (d:=11) rfl rfl rfl (q_move rfl) ?_
   refine WL.quiet (d:=12) rfl rfl rfl (q_len Try.underlying77 rfl) ?_
   refine WL.quiet (d:=13) rfl rfl rfl (q_lss rfl rfl) ?_
   refine WL.nil ?_
   refine WX.then ?_
   refine WC.cond rfl (fun ziW=>?_) (fun ziW=>?_)
   ·replace h:=ite_t h ziW
    refine WC.skip ?_
    refine WX.then ?_
    obtain ⟨ziU,zrR,h⟩:=jp0_elim h
    refine WC.seqMid2 (fun (zcS : Option Addr) (zcT : Nat)=>(ziU = some r)) (fun (zcS : Option Addr) (zcT : Nat)=>[(0,(.slice zcS z1l.length zcT)),(3,(.int .i64 zO))]) (fun (zcS : Option Addr) (zcT : Nat)=>[row (.slice zcS z1l.length zcT) 30 2 (z1l.flatMap e30)]) ?_ ?_
    ·skip
     refine WC.block ?_
     refine WC.seq ?_
     obtain ⟨zec,h⟩:=chk_elim h
     obtain ⟨zfW,h⟩:=chk_elim h
     refine WC.draw (fun i=>[].contains i) [] rfl ?_
     refine WD.pure (i:=0) (d:=16) (by kernel_rfl) rfl (z6 (by kernel_rfl)) (z7 (by kernel_rfl)) rfl rfl rfl (fun _=>q_move rfl) ?_
     refine WD.pure (i:=1) (d:=17) (by kernel_rfl) rfl (z6 (by kernel_rfl)) (z7 (by kernel_rfl)) rfl rfl rfl (fun _=>q_move rfl) ?_
     refine WD.know (fun w hw=>Hp.expose .here hw (by intro hz'; have:=zec; rw [hz'] at this; omega)) ?_
     rintro ⟨z7g,rfl⟩
     refine WD.pure (i:=2) (d:=18) (by kernel_rfl) rfl (z6 (by kernel_rfl)) (z7 (by kernel_rfl)) rfl rfl rfl (fun _=>q_indexAddr elT_77 rfl rfl zec.1 zec.2 rowAdd) ?_
     refine WD.quiet (i:=3) (d:=19) (by kernel_rfl) rfl (z6 (by kernel_rfl)) (z7 (by kernel_rfl)) rfl rfl rfl (q_loadA (cs:=(e30 (nth z1l zO))) aggT_30 rfl rfl (rd_rows .here (flat_rd (enc:=e30) (l:=z1l) (i:=zO) (sz:=2) (fun _=>rfl) zec.1 zec.2))) ?_
     refine WD.pure (i:=4) (d:=20) (by kernel_rfl) rfl (z6 (by kernel_rfl)) (z7 (by kernel_rfl)) rfl rfl rfl (fun _=>q_move rfl) ?_
     refine WD.pure (i:=5) (d:=21) (by kernel_rfl) rfl (z6 (by kernel_rfl)) (z7 (by kernel_rfl)) rfl rfl rfl (fun _=>q_move rfl) ?_
     refine WD.pure (i:=6) (d:=22) (by kernel_rfl) rfl (z6 (by kernel_rfl)) (z7 (by kernel_rfl)) rfl rfl rfl (fun _=>q_sub rfl rfl rfl) ?_
     refine WD.pure (i:=7) (d:=23) (by kernel_rfl) rfl (z6 (by kernel_rfl)) (z7 (by kernel_rfl)) rfl rfl rfl (fun _=>q_indexAddr elT_77 rfl rfl zfW.1 zfW.2 rowAdd) ?_
     refine WD.quiet (i:=8) (d:=24) (by kernel_rfl) rfl (z6 (by kernel_rfl)) (z7 (by kernel_rfl)) rfl rfl rfl (q_loadA (cs:=(e30 (nth z1l (i64 (zO - 1))))) aggT_30 rfl rfl (rd_rows .here (flat_rd (enc:=e30) (l:=z1l) (i:=i64 (zO - 1)) (sz:=2) (fun _=>rfl) zfW.1 zfW.2))) ?_
     refine WD.pure (i:=9) (d:=25) (by kernel_rfl) rfl (z6 (by kernel_rfl)) (z7 (by kernel_rfl)) rfl rfl rfl (fun _=>q_aggeql (enc:=e30) (a:=(⟨((nth z1l zO).fN),((nth z1l zO).fD)⟩ : z2)) (b:=(⟨((nth z1l (i64 (zO - 1))).fN),((nth z1l (i64 (zO - 1))).fD)⟩ : z2)) eqT_30 rfl rfl) ?_
     refine WD.done (by kernel_rfl) ?_
     refine WX.then ?_
     refine WC.cond rfl (fun ziX=>?_) (fun ziX=>?_)
     ·replace h:=ite_t h ziX
      refine WC.seq ?_
      obtain ⟨zbs,h⟩:=chk_elim h
      refine WC.region ?_
      refine WL.quiet (d:=26) rfl rfl rfl (q_move rfl) ?_
      refine WL.quiet (d:=27) rfl rfl rfl (q_move rfl) ?_
      refine WL.rowLoX (dd:=28) rfl rfl elT_77 rfl rfl .here zbs ?_
      refine WL.quiet (d:=4) rfl rfl rfl (q_assign rfl) ?_
      refine WL.nil ?_
      refine WX.then ?_
      obtain ⟨z9r,zrS,h⟩:=jp2_elim h
      refine WC.seqMid2 (fun (z4D : List z2) (z4E : Int)=>(z9r z4D z4E = some r) ∧ (z4D.length = z1l.length)) (fun (z4D : List z2) (z4E : Int)=>[(0,(.slice (some ⟨z7g,0,none⟩) z4D.length z4Y)),(3,(.int .i64 z4E))]) (fun (z4D : List z2) (z4E : Int)=>[row (.slice (some ⟨z7g,0,none⟩) z4D.length z4Y) 30 2 (z4D.flatMap e30)]) ?_ ?_
      ·skip
       refine WC.seq ?_
       refine WC.region ?_
       refine WL.quiet (d:=5) rfl rfl rfl (q_assign rfl) ?_
       refine WL.nil ?_
       refine WX.then ?_
       refine WC.block ?_
       refine WC.loop4 (fun (zcU : Nat) (z1R : List z2) (z4C : Int) (k2_14502 : Int)=>(m_slices_Compact_api_Rat_api_Rat_L4 z1l zO z9r zcU z1R z4C k2_14502 = some r) ∧ (z1R.length = z1l.length)) (fun (zcU : Nat) (z1R : List z2) (z4C : Int) (k2_14502 : Int)=>[(0,(.slice (some ⟨z7g,0,none⟩) z1R.length z4Y)),(3,(.int .i64 z4C)),(4,(.slice (some ⟨z7g,(zO : Int).toNat * 2,none⟩) (z1l.length - (zO : Int).toNat) (z4Y - (zO : Int).toNat))),(5,(.int .i64 k2_14502))]) (fun (zcU : Nat) (z1R : List z2) (z4C : Int) (k2_14502 : Int)=>[row (.slice (some ⟨z7g,0,none⟩) z1R.length z4Y) 30 2 (z1R.flatMap e30)]) (fun (zcU : Nat) (z1R : List z2) (z4C : Int) (k2_14502 : Int)=>zcU) ⟨FUEL,z1l,zO,1⟩ ⟨h,rfl⟩ (.cons rfl (.cons rfl (.cons rfl (.cons rfl .nil)))) (.cons .here .nil) ?_
       rintro zcU z1R z4C k2_14502 ⟨h,zcV⟩
       obtain ⟨ziS,rfl⟩:=m_slices_Compact_api_Rat_api_Rat_L4_fuel h
       rw [m_slices_Compact_api_Rat_api_Rat_L4] at h
       refine WC.seq ?_
       refine WC.seq ?_
       refine WC.region ?_
       refine WL.quiet (d:=29) rfl rfl rfl (q_move rfl) ?_
       refine WL.quiet (d:=30) rfl rfl rfl (q_move rfl) ?_
       refine WL.quiet (d:=31) rfl rfl rfl (q_len Try.underlying77 rfl) ?_
       refine WL.quiet (d:=32) rfl rfl rfl (q_lss rfl rfl) ?_
       refine WL.nil ?_
       refine WX.then ?_
       refine WC.cond rfl (fun ziY=>?_) (fun ziY=>?_)
       ·replace h:=ite_t h ziY
        refine WC.skip ?_
        refine WX.then ?_
        obtain ⟨zfV,zrT,h⟩:=jp2_elim h
        refine WC.seqMid2 (fun (z7A : List z2) (z9s : Int)=>(zfV z7A z9s = some r) ∧ (z7A.length = z1l.length)) (fun (z7A : List z2) (z9s : Int)=>[(0,(.slice (some ⟨z7g,0,none⟩) z7A.length z4Y)),(3,(.int .i64 z9s)),(4,(.slice (some ⟨z7g,(zO : Int).toNat * 2,none⟩) (z1l.length - (zO : Int).toNat) (z4Y - (zO : Int).toNat))),(5,(.int .i64 k2_14502))]) (fun (z7A : List z2) (z9s : Int)=>[row (.slice (some ⟨z7g,0,none⟩) z7A.length z4Y) 30 2 (z7A.flatMap e30)]) ?_ ?_
        ·skip
         refine WC.block ?_
         refine WC.seq ?_
         obtain ⟨zfX,h⟩:=chk_elim h
         obtain ⟨zfY,h⟩:=chk_elim h
         refine WC.draw (fun i=>[].contains i) [] rfl ?_
         refine WD.pure (i:=0) (d:=35) (by kernel_rfl) rfl (z6 (by kernel_rfl)) (z7 (by kernel_rfl)) rfl rfl rfl (fun _=>q_move rfl) ?_
         refine WD.pure (i:=1) (d:=36) (by kernel_rfl) rfl (z6 (by kernel_rfl)) (z7 (by kernel_rfl)) rfl rfl rfl (fun _=>q_move rfl) ?_
         have znx : (0 : Int) ≤ zO + k2_14502 ∧ zO + k2_14502 < ((z1R.length : Nat) : Int):=by have h1:=zcV; have h2:=zbs; have h3:=zfX; omega
         refine WD.pure (i:=2) (d:=37) (by kernel_rfl) rfl (z6 (by kernel_rfl)) (z7 (by kernel_rfl)) rfl rfl rfl (fun _=>q_indexAddr elT_77 rfl rfl zfX.1 zfX.2 (aliasAdd zbs.1 zfX.1)) ?_
         refine WD.quiet (i:=3) (d:=38) (by kernel_rfl) rfl (z6 (by kernel_rfl)) (z7 (by kernel_rfl)) rfl rfl rfl (q_loadA (cs:=(e30 (nth z1R (zO + k2_14502)))) aggT_30 rfl rfl (rd_rows .here (flat_rd (enc:=e30) (l:=z1R) (i:=zO + k2_14502) (sz:=2) (fun _=>rfl) znx.1 znx.2))) ?_
         refine WD.pure (i:=4) (d:=39) (by kernel_rfl) rfl (z6 (by kernel_rfl)) (z7 (by kernel_rfl)) rfl rfl rfl (fun _=>q_move rfl) ?_
         refine WD.pure (i:=5) (d:=40) (by kernel_rfl) rfl (z6 (by kernel_rfl)) (z7 (by kernel_rfl)) rfl rfl rfl (fun _=>q_move rfl) ?_
         refine WD.pure (i:=6) (d:=41) (by kernel_rfl) rfl (z6 (by kernel_rfl)) (z7 (by kernel_rfl)) rfl rfl rfl (fun _=>q_sub rfl rfl rfl) ?_
         have zny : (0 : Int) ≤ zO + (i64 (k2_14502 - 1)) ∧ zO + (i64 (k2_14502 - 1)) < ((z1R.length : Nat) : Int):=by have h1:=zcV; have h2:=zbs; have h3:=zfY; omega
         refine WD.pure (i:=7) (d:=42) (by kernel_rfl) rfl (z6 (by kernel_rfl)) (z7 (by kernel_rfl)) rfl rfl rfl (fun _=>q_indexAddr elT_77 rfl rfl zfY.1 zfY.2 (aliasAdd zbs.1 zfY.1)) ?_
         refine WD.quiet (i:=8) (d:=43) (by kernel_rfl) rfl (z6 (by kernel_rfl)) (z7 (by kernel_rfl)) rfl rfl rfl (q_loadA (cs:=(e30 (nth z1R (zO + (i64 (k2_14502 - 1)))))) aggT_30 rfl rfl (rd_rows .here (flat_rd (enc:=e30) (l:=z1R) (i:=zO + (i64 (k2_14502 - 1))) (sz:=2) (fun _=>rfl) zny.1 zny.2))) ?_
         refine WD.pure (i:=9) (d:=44) (by kernel_rfl) rfl (z6 (by kernel_rfl)) (z7 (by kernel_rfl)) rfl rfl rfl (fun _=>q_aggneq (enc:=e30) (a:=(⟨((nth z1R (zO + k2_14502)).fN),((nth z1R (zO + k2_14502)).fD)⟩ : z2)) (b:=(⟨((nth z1R (zO + (i64 (k2_14502 - 1)))).fN),((nth z1R (zO + (i64 (k2_14502 - 1)))).fD)⟩ : z2)) eqT_30 rfl rfl) ?_
         refine WD.done (by kernel_rfl) ?_
         refine WX.then ?_
         refine WC.cond rfl (fun ziZ=>?_) (fun ziZ=>?_)
         ·replace h:=ite_t h ziZ
          refine WC.seq ?_
          obtain ⟨zfZ,h⟩:=chk_elim h
          obtain ⟨zcW,h⟩:=chk_elim h
          refine WC.region ?_
          refine WL.quiet (d:=45) rfl rfl rfl (q_move rfl) ?_
          refine WL.quiet (d:=46) rfl rfl rfl (q_move rfl) ?_
          refine WL.quiet (d:=47) rfl rfl rfl (q_move rfl) ?_
          refine WL.quiet (d:=48) rfl rfl rfl (q_move rfl) ?_
          have znz : (0 : Int) ≤ zO + k2_14502 ∧ zO + k2_14502 < ((z1R.length : Nat) : Int):=by have h1:=zcV; have h2:=zbs; have h3:=zfZ; omega
          refine WL.quiet (d:=49) rfl rfl rfl (q_indexAddr elT_77 rfl rfl zfZ.1 zfZ.2 (aliasAdd zbs.1 zfZ.1)) ?_
          refine WL.quiet (d:=50) rfl rfl rfl (q_loadA (cs:=(e30 (nth z1R (zO + k2_14502)))) aggT_30 rfl rfl (rd_rows .here (flat_rd (enc:=e30) (l:=z1R) (i:=zO + k2_14502) (sz:=2) (fun _=>rfl) znz.1 znz.2))) ?_
          refine WL.quiet (d:=51) rfl rfl rfl (q_indexAddr elT_77 rfl rfl zcW.1 zcW.2 rowAdd) ?_
          refine WL.eff0 rfl rfl (e_rowStore (vs:=[(.int .i64 ((nth z1R (zO + k2_14502)).fN)),(.int .i64 ((nth z1R (zO + k2_14502)).fD))]) (ds:=(z1R.set (z4C : Int).toNat (⟨((nth z1R (zO + k2_14502)).fN),((nth z1R (zO + k2_14502)).fD)⟩ : z2)).flatMap e30) sizT_30 rfl rfl rfl rfl (oc_cons rfl (oc_cons rfl oc_nil)) .here (flat_fit (enc:=e30) (sz:=2) (k:=0) (fun _=>rfl) zcW.1 zcW.2 (by decide)) (flat_put (enc:=e30) (l:=z1R) (sz:=2) (vs:=[(.int .i64 ((nth z1R (zO + k2_14502)).fN)),(.int .i64 ((nth z1R (zO + k2_14502)).fD))]) (y:=(⟨((nth z1R (zO + k2_14502)).fN),((nth z1R (zO + k2_14502)).fD)⟩ : z2)) (k:=0) (fun _=>rfl) zcW.1 zcW.2 rfl (Nat.le_of_ble_eq_true rfl))) ?_
          refine WL.relen .here (u:=(.slice (some ⟨z7g,0,none⟩) ((z1R.set (z4C : Int).toNat (⟨((nth z1R (zO + k2_14502)).fN),((nth z1R (zO + k2_14502)).fD)⟩ : z2)).length) z4Y)) (slen (List.length_set).symm) ?_
          refine WL.repin (i:=0) rfl (u:=(.slice (some ⟨z7g,0,none⟩) ((z1R.set (z4C : Int).toNat (⟨((nth z1R (zO + k2_14502)).fN),((nth z1R (zO + k2_14502)).fD)⟩ : z2)).length) z4Y)) (slen (List.length_set).symm) ?_
          refine WL.nil ?_
          refine WX.then ?_
          refine WC.region ?_
          refine WL.quiet (d:=52) rfl rfl rfl (q_move rfl) ?_
          refine WL.quiet (d:=53) rfl rfl rfl (q_add rfl rfl rfl) ?_
          refine WL.quiet (d:=3) rfl rfl rfl (q_assign rfl) ?_
          refine WL.nil ?_
          refine WX.blockNormal ?_
          exact WX.mid (G:=List z2 × Int) ⟨(z1R.set (z4C : Int).toNat (⟨((nth z1R (zO + k2_14502)).fN),((nth z1R (zO + k2_14502)).fD)⟩ : z2)),(i64 (z4C + 1))⟩ ⟨h,((List.length_set).trans zcV)⟩ (.cons rfl (.cons rfl (.cons rfl (.cons rfl .nil)))) (.cons .here .nil)
         ·replace h:=ite_f h ziZ
          refine WC.skip ?_
          refine WX.blockNormal ?_
          exact WX.mid (G:=List z2 × Int) ⟨z1R,z4C⟩ ⟨h,zcV⟩ (.cons rfl (.cons rfl (.cons rfl (.cons rfl .nil)))) (.cons .here .nil)
        ·rintro z7A z9s ⟨h,zrU⟩
         replace h:=(zrT z7A z9s).symm.trans h
         refine WC.region ?_
         refine WL.quiet (d:=33) rfl rfl rfl (q_move rfl) ?_
         refine WL.quiet (d:=34) rfl rfl rfl (q_add rfl rfl rfl) ?_
         refine WL.quiet (d:=5) rfl rfl rfl (q_assign rfl) ?_
         refine WL.nil ?_
         exact WX.round (G:=Nat × List z2 × Int × Int) ⟨ziS,z7A,z9s,(i64 (k2_14502 + 1))⟩ ⟨h,zrU⟩ (Nat.lt_succ_self _) (.cons rfl (.cons rfl (.cons rfl (.cons rfl .nil)))) (.cons .here .nil)
       ·replace h:=ite_f h ziY
        refine WC.exit ?_
        refine WX.thenExit ?_
        refine WX.thenExit ?_
        refine WX.blockHit ?_
        exact WX.mid (G:=List z2 × Int) ⟨z1R,z4C⟩ ⟨h,zcV⟩ (.cons rfl (.cons rfl .nil)) (.cons .here .nil)
      ·rintro z4D z4E ⟨h,zxG⟩
       replace h:=(zrS z4D z4E).symm.trans h
       refine WC.seq ?_
       obtain ⟨zg0,h⟩:=chk_elim h
       refine WC.region ?_
       refine WL.quiet (d:=54) rfl rfl rfl (q_move rfl) ?_
       refine WL.quiet (d:=55) rfl rfl rfl (q_move rfl) ?_
       refine WL.rowLoD (dd:=56) rfl rfl elT_77 rfl rfl .here zg0 ?_
       intro zxH zxI zrV
       refine WL.eff0 rfl rfl (e_clearTailD (enc:=e30) (z0:=((⟨0,0⟩ : z2) : z2)) (l:=z4D) elT_77 zeroT_30 rfl zrV zg0 (fun _=>rfl) (by decide) rfl e30_oc .here) ?_
       refine WL.relen .here (u:=(.slice (some ⟨z7g,0,none⟩) ((z4D.take (z4E : Int).toNat ++ List.replicate (z4D.length - (z4E : Int).toNat) ((⟨0,0⟩ : z2) : z2)).length) z4Y)) (slen (take_rep_len zg0).symm) ?_
       refine WL.repin (i:=0) rfl (u:=(.slice (some ⟨z7g,0,none⟩) ((z4D.take (z4E : Int).toNat ++ List.replicate (z4D.length - (z4E : Int).toNat) ((⟨0,0⟩ : z2) : z2)).length) z4Y)) (slen (take_rep_len zg0).symm) ?_
       refine WL.nil ?_
       refine WX.then ?_
       refine WC.seq ?_
       obtain ⟨zrW,h⟩:=chk_elim h
       refine WC.region ?_
       refine WL.quiet (d:=57) rfl rfl rfl (q_move rfl) ?_
       refine WL.quiet (d:=58) rfl rfl rfl (q_move rfl) ?_
       refine WL.rowHiD (dd:=59) (enc:=e30) (ls:=z4D.take (z4E : Int).toNat ++ List.replicate (z4D.length - (z4E : Int).toNat) ((⟨0,0⟩ : z2) : z2)) rfl rfl elT_77 rfl rfl .here (fun _=>rfl) zrW ?_
       intro zrX zrY
       refine WL.quiet (d:=2) rfl rfl rfl (q_assign rfl) ?_
       refine WL.nil ?_
       refine WX.then ?_
       refine WC.ret ?_
       refine WX.blockRet ?_
       refine WX.thenRet ?_
       refine WX.thenRet ?_
       refine WX.blockRet ?_
       refine WX.thenRet ?_
       obtain rfl:=Option.some.inj h
       refine WX.bpRet Try.results78 (.tmp rfl .nil) (fun w hw=>?_)
       exact ⟨zrX,zrY,ret1 rfl,trivial,hw.sub (.cons .here .nil)⟩
     ·replace h:=ite_f h ziX
      refine WC.skip ?_
      refine WX.blockNormal ?_
      exact WX.mid (G:=Option Addr × Nat) ⟨(some ⟨z7g,0,none⟩),z4Y⟩ h (.cons rfl (.cons rfl .nil)) (.cons .here .nil)
    ·rintro zcS zcT h
     replace h:=zrR.symm.trans h
     refine WC.region ?_
     refine WL.quiet (d:=14) rfl rfl rfl (q_move rfl) ?_
     refine WL.quiet (d:=15) rfl rfl rfl (q_add rfl rfl rfl) ?_
     refine WL.quiet (d:=3) rfl rfl rfl (q_assign rfl) ?_
     refine WL.nil ?_
     exact WX.round (G:=Nat × Int × Option Addr × Nat) ⟨ziT,(i64 (zO + 1)),zcS,zcT⟩ h (Nat.lt_succ_self _) (.cons rfl (.cons rfl .nil)) (.cons .here .nil)
   ·replace h:=ite_f h ziW
    refine WC.exit ?_
    refine WX.thenExit ?_
    refine WX.thenExit ?_
    refine WX.blockHit ?_
    exact WX.mid (G:=Option Addr × Nat) ⟨zbr,z4Y⟩ h (.cons rfl .nil) (.cons .here .nil)
  ·rintro zcP zcQ h
   replace h:=zrQ.symm.trans h
   refine WC.seq ?_
   refine WC.region ?_
   refine WL.quiet (d:=60) rfl rfl rfl (q_move rfl) ?_
   refine WL.quiet (d:=2) rfl rfl rfl (q_assign rfl) ?_
   refine WL.nil ?_
   refine WX.then ?_
   refine WC.ret ?_
   obtain rfl:=Option.some.inj h
   refine WX.bpRet Try.results78 (.tmp rfl .nil) (fun w hw=>?_)
   exact ⟨zcP,zcQ,ret1 rfl,trivial,hw.sub (.cons .here .nil)⟩
def m_curve_Breaks_R4  (za : z1 × z1) (zP : List z2) (z61 : Int) : Option (Bool × (Nat × List z2 × Int)) :=
 (m_rat_Cmp za.1.fBurst za.2.fBurst).bind fun zj0=>if decide (zj0 < 0) then (m_curve_calc_do (⟨z61⟩ : z2a) (fun (y0 : z2) (y1 : z2)=>m_rat_Sub y0 y1) za.2.fBurst za.1.fBurst).bind fun z7B=>(m_curve_calc_do z7B.2 (fun (y0 : z2) (y1 : z2)=>m_rat_Sub y0 y1) za.1.fRate za.2.fRate).bind fun z7C=>(m_curve_calc_do z7C.2 (fun (y0 : z2) (y1 : z2)=>m_rat_Div y0 y1) z7B.1 z7C.1).bind fun z6V=>chk ((((zP ++ ([z6V.1] : List z2)).length : Nat) : Int) * 16 ≤ 140737488355328 ∧ (((zP ++ ([z6V.1] : List z2)).length : Nat) : Int) ≤ 4611686018427387904) (some (true,(0,(zP ++ ([z6V.1] : List z2)),z6V.2.fE))) else some (true,(0,zP,z61))
def m_curve_Breaks (z6W : List z1) : Option (List z2 × Int) :=
 (m_curve_Valid z6W).bind fun zg1=>if !zg1 then some (([] : List z2),2) else (m_curve_norm z6W).bind fun zbt=>jp2 (fun (z4Q : Int) (z3m : List z2)=>if decide (z4Q ≠ 0) then some (([] : List z2),z4Q) else (m_slices_SortFunc_api_Rat_api_Rat z3m (fun (y0 : z2) (y1 : z2)=>m_rat_Cmp y0 y1)).bind fun z4p=>(m_slices_Compact_api_Rat_api_Rat z4p).bind fun zj1=>some (zj1,0)) fun zj2=>(m_curve_pairs zbt zbt).bind fun z26=>(m_curve_pairs_1 (Nat × List z2 × Int) (fun (x : z1 × z1) (s : Nat × List z2 × Int)=>chk (s.1 = 0) (m_curve_Breaks_R4 x s.2.1 s.2.2)) (0,([] : List z2),0) z26.1 z26.2).bind fun z5c=>zj2 z5c.2.2 z5c.2.1
set_option maxRecDepth 20000 in
theorem w_curve_Breaks (Z : Zp)  (z8C : Option Addr) (z8D : Nat) (z6W : List z1) (r : List z2 × Int) (w₀ : World) (hz : PZ [] w₀ Z)
  (znA : ZS Z 4 (fun r x=>r = e35 x) z8C z8D z6W)
  (h : m_curve_Breaks z6W = some r) :
  Calls Try.prog 68 #[(.slice z8C z6W.length z8D)] w₀ fun e w'=>∃ Zn : Zp,∃ znB : Option Addr,∃ znC : Nat,e = .returned (.tuple #[(.slice znB r.1.length znC),(.int .i64 r.2)]) ∧ True ∧ Hp [] w₀ w' [fz Zn,row (.slice znB r.1.length znC) 30 2 (r.1.flatMap e30)]:=by
 unfold m_curve_Breaks at h
 refine Calls.ofWCM (vs:=[(.slice z8C z6W.length z8D)]) (pre:=[]) (env:=[(0,(.slice z8C z6W.length z8D))]) Try.func68 rfl Try.ntmps68 rfl (Hp.nil w₀ _) rfl ?_
 refine WC.pool ?_
 refine WC.seq ?_
 refine WC.region ?_
 refine WL.quiet (d:=2) rfl rfl rfl (q_assign rfl) ?_
 refine WL.quiet (d:=3) rfl rfl rfl (q_assign rfl) ?_
 refine WL.nil ?_
 refine WX.then ?_
 refine WC.seq ?_
 refine WC.seq ?_
 obtain ⟨zg1,zrZ,h⟩:=ze h
 refine WC.region ?_
 refine WL.quiet (d:=9) rfl rfl rfl (q_move rfl) ?_
 refine WL.callD (dd:=10) rfl rfl rfl (zn (l:=[.tmp 9]) Try.call30 (.cons rfl .nil)) (.nil : Sel [fz []] [] [fz []]) (fun w hw=>by have pz:=(hz.call2 hw (.nil : Sel [fz []] [] [fz []]) .here); exact w_curve_Valid (Z:=_) (z82:=z8C) (z83:=z8D) (z4P:=z6W) (r:=zg1) w pz (znA.mono (Zle.left _ _)) zrZ) ?_
 refine WL.quiet (d:=11) rfl rfl rfl (q_not rfl) ?_
 refine WL.nil ?_
 refine WX.then ?_
 refine WC.cond rfl (fun zj3=>?_) (fun zj3=>?_)
 ·replace h:=ite_t h zj3
  refine WC.seq ?_
  refine WC.region ?_
  refine WL.quiet (d:=2) rfl rfl rfl (q_assign rfl) ?_
  refine WL.quiet (d:=3) rfl rfl rfl (q_assign rfl) ?_
  refine WL.nil ?_
  refine WX.then ?_
  refine WC.ret ?_
  refine WX.thenRet ?_
  refine WX.nilRow 30 2 ?_
  obtain rfl:=Option.some.inj h
  refine WX.bpRetM Try.results68 (.tmp rfl (.tmp rfl .nil)) (fun w hw=>?_)
  exact ⟨[],none,0,ret2 rfl rfl,trivial,hw.sub (.cons (.there .here) (.cons .here .nil))⟩
 ·replace h:=ite_f h zj3
  refine WC.skip ?_
  refine WX.then ?_
  refine WC.seq ?_
  refine WC.region ?_
  refine WL.new (dd:=4) rfl rfl rfl (e_alloc (cs:=[(.int .i64 0)]) zeroT_90 rfl) ?_
  intro z1i _
  refine WL.nil ?_
  refine WX.then ?_
  refine WC.seq ?_
  refine WC.region ?_
  refine WL.new (dd:=5) rfl rfl rfl (e_alloc (cs:=[(.slice none 0 0)]) zeroT_77 rfl) ?_
  intro z1s _
  refine WL.nil ?_
  refine WX.then ?_
  refine WC.seq ?_
  obtain ⟨zbt,zs0,h⟩:=ze h
  refine WC.region ?_
  refine WL.quiet (d:=12) rfl rfl rfl (q_move rfl) ?_
  refine WL.enter2 (dd:=13) rfl rfl rfl (zn (l:=[.tmp 12]) Try.call48 (.cons rfl .nil)) (.nil : Sel [stb z1s 77 [(.slice none 0 0)],stb z1i 90 [(.int .i64 0)],fz []] [] [stb z1s 77 [(.slice none 0 0)],stb z1i 90 [(.int .i64 0)],fz []]) (fun w hw=>by have pz:=(hz.call2 hw (.nil : Sel [stb z1s 77 [(.slice none 0 0)],stb z1i 90 [(.int .i64 0)],fz []] [] [stb z1s 77 [(.slice none 0 0)],stb z1i 90 [(.int .i64 0)],fz []]) (.there (.there .here))); exact w_curve_norm (Z:=_) (z7x:=z8C) (z7y:=z8D) (zh:=z6W) (r:=zbt) w pz (znA.mono (Zle.left _ _)) zs0) ?_
  rintro znD znE _
  refine WL.quiet (d:=6) rfl rfl rfl (q_assign rfl) ?_
  refine WL.nil ?_
  refine WX.then ?_
  obtain ⟨zj2,zs1,h⟩:=jp2_elim h
  refine WC.seqMidR6 (fun (z62 : Nat) (z4Q : Int) (z3m : List z2) (z5d : Zp) (z34 : Option Addr) (z35 : Nat)=>(zj2 z4Q z3m = some r) ∧ (Zle (Z ++ []) (Z ++ z5d))) (fun (z62 : Nat) (z4Q : Int) (z3m : List z2) (z5d : Zp) (z34 : Option Addr) (z35 : Nat)=>[(4,(.pointer (some ⟨z1i,0,none⟩))),(5,(.pointer (some ⟨z1s,0,none⟩)))]) (fun (z62 : Nat) (z4Q : Int) (z3m : List z2) (z5d : Zp) (z34 : Option Addr) (z35 : Nat)=>[fz z5d,stb z1i 90 [(.int .i64 z4Q)],stb z1s 77 [(.slice z34 z3m.length z35)],row (.slice z34 z3m.length z35) 30 2 (z3m.flatMap e30),dfr z62]) ?_ ?_
  ·skip
   refine WC.seq ?_
   refine WC.freezeS (ls:=zbt) .here (.there (.there .here)) hz (RR.flat (enc:=e35) (fun _=>rfl) _) ?_
   intro z5e zs2 znF
   obtain ⟨z26,zs3,h⟩:=ze h
   refine WC.region ?_
   refine WL.quiet (d:=14) rfl rfl rfl (q_move rfl) ?_
   refine WL.quiet (d:=15) rfl rfl rfl (q_move rfl) ?_
   refine WL.enter6 (dd:=16) rfl rfl rfl (zn (l:=[.tmp 14,.tmp 15]) Try.call76 (.cons rfl (.cons rfl .nil))) (.nil : Sel [fz z5e,stb z1s 77 [(.slice none 0 0)],stb z1i 90 [(.int .i64 0)]] [] [fz z5e,stb z1s 77 [(.slice none 0 0)],stb z1i 90 [(.int .i64 0)]]) (fun w hw=>by have pz:=(hz.call2 hw (.nil : Sel [fz z5e,stb z1s 77 [(.slice none 0 0)],stb z1i 90 [(.int .i64 0)]] [] [fz z5e,stb z1s 77 [(.slice none 0 0)],stb z1i 90 [(.int .i64 0)]]) .here); exact w_curve_pairs (Z:=_) (zbf:=znD) (zbg:=znE) (zbh:=znD) (zbi:=znE) (z9i:=zbt) (z9j:=zbt) (r:=z26) w pz znF znF zs3) ?_
   rintro z4F z4G z4R z4S z4T z4U ⟨zs4,zs5⟩
   refine WL.nil ?_
   refine WX.then ?_
   refine WC.block ?_
   refine WC.pool ?_
   refine WC.drop (.cons .here (.cons (.there (.there (.there .here))) (.cons (.there (.there (.there .here))) (.cons .here (.cons .here (.cons .here .nil)))))) ?_
   refine WC.nilRow 30 2 ?_
   refine WC.rangeFunc (f:=89) (caps:=[(.pointer (some ⟨z4F,0,none⟩)),(.pointer (some ⟨z4G,0,none⟩))]) rfl Try.call89 ?_
   intro zxJ zxK z2f z6l z2r zg2 zs6 zs7 w hw
   have hw1:=hw.selAll ((.cons (.there (.there (.there .here))) (.cons (.there (.there (.there .here))) (.cons (.there (.there .here)) (.cons (.there (.there .here)) (.cons .here .nil))))) : Sel _ [fz [],stb z1s 77 [(.slice none (([] : List z2).length) 0)],row (.slice none (([] : List z2).length) 0) 30 2 (([] : List z2).flatMap e30),stb z1i 90 [(.int .i64 0)],blk z2f (z2r .ready none)] _)
   have pz:=(hz.call2 hw1 ((.cons .here .nil) : Sel [allA [fz [],stb z1s 77 [(.slice none (([] : List z2).length) 0)],row (.slice none (([] : List z2).length) 0) 30 2 (([] : List z2).flatMap e30),stb z1i 90 [(.int .i64 0)],blk z2f (z2r .ready none)],dfr z6l,stb z4F 39 [(.slice z4R z26.1.length z4S)],stb z4G 39 [(.slice z4T z26.2.length z4U)],fz z5e] [allA [fz [],stb z1s 77 [(.slice none (([] : List z2).length) 0)],row (.slice none (([] : List z2).length) 0) 30 2 (([] : List z2).flatMap e30),stb z1i 90 [(.int .i64 0)],blk z2f (z2r .ready none)]] [dfr z6l,stb z4F 39 [(.slice z4R z26.1.length z4S)],stb z4G 39 [(.slice z4T z26.2.length z4U)],fz z5e]) (.there (.there (.there .here)))).lend hw1 ((.cons .here .nil) : Sel [allA [fz [],stb z1s 77 [(.slice none (([] : List z2).length) 0)],row (.slice none (([] : List z2).length) 0) 30 2 (([] : List z2).flatMap e30),stb z1i 90 [(.int .i64 0)],blk z2f (z2r .ready none)],dfr z6l,stb z4F 39 [(.slice z4R z26.1.length z4S)],stb z4G 39 [(.slice z4T z26.2.length z4U)],fz z5e] [allA [fz [],stb z1s 77 [(.slice none (([] : List z2).length) 0)],row (.slice none (([] : List z2).length) 0) 30 2 (([] : List z2).flatMap e30),stb z1i 90 [(.int .i64 0)],blk z2f (z2r .ready none)]] [dfr z6l,stb z4F 39 [(.slice z4R z26.1.length z4S)],stb z4G 39 [(.slice z4T z26.2.length z4U)],fz z5e]) (B:=[stb z4F 39 [(.slice z4R z26.1.length z4S)],stb z4G 39 [(.slice z4T z26.2.length z4U)]]) (fun _ hx'=>((.cons (.there .here) (.cons (.there .here) .nil)) : Sel _ [stb z4F 39 [(.slice z4R z26.1.length z4S)],stb z4G 39 [(.slice z4T z26.2.length z4U)]] _).mem hx')
   obtain ⟨z5c,zs8,h⟩:=ze h
   refine Calls.mono (w_curve_pairs_1 (Z:=_) (z9n:=z2f) (z3q:=(Option Addr × Nat)) (z6A:=(fun (g : Option Addr × Nat) (s : Nat × List z2 × Int)=>allA ([fz [],stb z1s 77 [(.slice g.1 s.2.1.length g.2)],row (.slice g.1 s.2.1.length g.2) 30 2 (s.2.1.flatMap e30),stb z1i 90 [(.int .i64 s.2.2)]] ++ [blk z2f (z2r (rdy (pcs [] s.1)) (pcs [] s.1))]))) (z9o:=(fun (g : Option Addr × Nat) (s : Nat × List z2 × Int)=>True)) (zac:=(none,0)) (ze0:=⟨z4F,0,none⟩) (zbk:=z4R) (zbl:=z4S) (z9p:=⟨z4G,0,none⟩) (zfI:=z4T) (zfJ:=z4U) (z15:=(Nat × List z2 × Int)) (z5Y:=(fun (x : z1 × z1) (s : Nat × List z2 × Int)=>chk (s.1 = 0) (m_curve_Breaks_R4 x s.2.1 s.2.2))) (s0_5333:=(0,([] : List z2),0)) (z1S:=z26.1) (z2b:=z26.2) (r:=z5c) w pz ?_ trivial (zs4.mono (Zle.left _ _)) ((hw1.lent ((.cons .here .nil) : Sel [allA [fz [],stb z1s 77 [(.slice none (([] : List z2).length) 0)],row (.slice none (([] : List z2).length) 0) 30 2 (([] : List z2).flatMap e30),stb z1i 90 [(.int .i64 0)],blk z2f (z2r .ready none)],dfr z6l,stb z4F 39 [(.slice z4R z26.1.length z4S)],stb z4G 39 [(.slice z4T z26.2.length z4U)],fz z5e] [allA [fz [],stb z1s 77 [(.slice none (([] : List z2).length) 0)],row (.slice none (([] : List z2).length) 0) 30 2 (([] : List z2).flatMap e30),stb z1i 90 [(.int .i64 0)],blk z2f (z2r .ready none)]] [dfr z6l,stb z4F 39 [(.slice z4R z26.1.length z4S)],stb z4G 39 [(.slice z4T z26.2.length z4U)],fz z5e]) (B:=[stb z4F 39 [(.slice z4R z26.1.length z4S)],stb z4G 39 [(.slice z4T z26.2.length z4U)]]) (fun _ hx'=>((.cons (.there .here) (.cons (.there .here) .nil)) : Sel _ [stb z4F 39 [(.slice z4R z26.1.length z4S)],stb z4G 39 [(.slice z4T z26.2.length z4U)]] _).mem hx') (.head _) _).stb) (zs5.mono (Zle.left _ _)) ((hw1.lent ((.cons .here .nil) : Sel [allA [fz [],stb z1s 77 [(.slice none (([] : List z2).length) 0)],row (.slice none (([] : List z2).length) 0) 30 2 (([] : List z2).flatMap e30),stb z1i 90 [(.int .i64 0)],blk z2f (z2r .ready none)],dfr z6l,stb z4F 39 [(.slice z4R z26.1.length z4S)],stb z4G 39 [(.slice z4T z26.2.length z4U)],fz z5e] [allA [fz [],stb z1s 77 [(.slice none (([] : List z2).length) 0)],row (.slice none (([] : List z2).length) 0) 30 2 (([] : List z2).flatMap e30),stb z1i 90 [(.int .i64 0)],blk z2f (z2r .ready none)]] [dfr z6l,stb z4F 39 [(.slice z4R z26.1.length z4S)],stb z4G 39 [(.slice z4T z26.2.length z4U)],fz z5e]) (B:=[stb z4F 39 [(.slice z4R z26.1.length z4S)],stb z4G 39 [(.slice z4T z26.2.length z4U)]]) (fun _ hx'=>((.cons (.there .here) (.cons (.there .here) .nil)) : Sel _ [stb z4F 39 [(.slice z4R z26.1.length z4S)],stb z4G 39 [(.slice z4T z26.2.length z4U)]] _).mem hx') (.tail _ (.head _)) _).stb) zs8 (hw1.owns ((.cons .here .nil) : Sel [allA [fz [],stb z1s 77 [(.slice none (([] : List z2).length) 0)],row (.slice none (([] : List z2).length) 0) 30 2 (([] : List z2).flatMap e30),stb z1i 90 [(.int .i64 0)],blk z2f (z2r .ready none)],dfr z6l,stb z4F 39 [(.slice z4R z26.1.length z4S)],stb z4G 39 [(.slice z4T z26.2.length z4U)],fz z5e] [allA [fz [],stb z1s 77 [(.slice none (([] : List z2).length) 0)],row (.slice none (([] : List z2).length) 0) 30 2 (([] : List z2).flatMap e30),stb z1i 90 [(.int .i64 0)],blk z2f (z2r .ready none)]] [dfr z6l,stb z4F 39 [(.slice z4R z26.1.length z4S)],stb z4G 39 [(.slice z4T z26.2.length z4U)],fz z5e]))) ?_
   ·skip
    refine yieldP_of (LI:=(fun (g : Option Addr × Nat) (s : Nat × List z2 × Int)=>[fz [],stb z1s 77 [(.slice g.1 s.2.1.length g.2)],row (.slice g.1 s.2.1.length g.2) 30 2 (s.2.1.flatMap e30),stb z1i 90 [(.int .i64 s.2.2)]])) (pc:=(fun (s : Nat × List z2 × Int)=>pcs [] s.1)) zg2 zs6 zs7 (fun _ _=>rfl) (by decide) ?_
    rintro za _ ⟨z1Y,z1Z⟩ ⟨zs9,zP,z61⟩ zsa zsb Fb wb znG _ hz
    replace hz:=hz.left
    letI : Rnd:=inR z2f
    obtain ⟨hp0,z5f⟩:=chk_elim znG
    replace hp0 : zs9 = 0:=hp0; subst hp0; clear znG
    replace z5f : m_curve_Breaks_R4 za zP z61 = some (zsa,zsb):=z5f
    unfold m_curve_Breaks_R4 at z5f
    refine WC.restr (env':=[(11,(.bool (!zg1))),(4,(.pointer (some ⟨z1i,0,none⟩))),(5,(.pointer (some ⟨z1s,0,none⟩))),(17,(.agg #[(.int .i64 za.1.fBurst.fN),(.int .i64 za.1.fBurst.fD),(.int .i64 za.1.fRate.fN),(.int .i64 za.1.fRate.fD)])),(18,(.agg #[(.int .i64 za.2.fBurst.fN),(.int .i64 za.2.fBurst.fD),(.int .i64 za.2.fRate.fN),(.int .i64 za.2.fRate.fD)]))]) (.cons rfl (.cons rfl (.cons rfl (.cons rfl (.cons rfl .nil))))) ?_
    refine WC.eqL (L':=[fz [],stb z1s 77 [(.slice z1Y zP.length z1Z)],row (.slice z1Y zP.length z1Z) 30 2 (zP.flatMap e30),stb z1i 90 [(.int .i64 z61)],blk z2f (z2r .ready none)]) rfl ?_
    refine WC.seq ?_
    refine WC.region ?_
    refine WL.new (dd:=7) rfl rfl rfl (e_alloc (cs:=[(.int .i64 0),(.int .i64 0),(.int .i64 0),(.int .i64 0)]) zeroT_35 rfl) ?_
    intro z4q _
    refine WL.eff0 rfl rfl (e_store (vs:=[(.int .i64 za.1.fBurst.fN),(.int .i64 za.1.fBurst.fD),(.int .i64 za.1.fRate.fN),(.int .i64 za.1.fRate.fD)]) (ds:=[(.int .i64 za.1.fBurst.fN),(.int .i64 za.1.fBurst.fD),(.int .i64 za.1.fRate.fN),(.int .i64 za.1.fRate.fD)]) sizT_35 rfl rfl rfl rfl (oc_cons rfl (oc_cons rfl (oc_cons rfl (oc_cons rfl oc_nil)))) .here (Nat.le_of_ble_eq_true rfl) rfl) ?_
    refine WL.nil ?_
    refine WX.then ?_
    refine WC.region ?_
    refine WL.new (dd:=8) rfl rfl rfl (e_alloc (cs:=[(.int .i64 0),(.int .i64 0),(.int .i64 0),(.int .i64 0)]) zeroT_35 rfl) ?_
    intro z4r _
    refine WL.eff0 rfl rfl (e_store (vs:=[(.int .i64 za.2.fBurst.fN),(.int .i64 za.2.fBurst.fD),(.int .i64 za.2.fRate.fN),(.int .i64 za.2.fRate.fD)]) (ds:=[(.int .i64 za.2.fBurst.fN),(.int .i64 za.2.fBurst.fD),(.int .i64 za.2.fRate.fN),(.int .i64 za.2.fRate.fD)]) sizT_35 rfl rfl rfl rfl (oc_cons rfl (oc_cons rfl (oc_cons rfl (oc_cons rfl oc_nil)))) .here (Nat.le_of_ble_eq_true rfl) rfl) ?_
    refine WL.nil ?_
    refine WX.begin zg2 (.there (.there (.there (.there (.there (.there .here)))))) ?_
    refine WC.block ?_
    refine WC.seq ?_
    obtain ⟨zj0,zsc,z5f⟩:=ze z5f
    refine WC.region ?_
    refine WL.quiet (d:=19) rfl rfl rfl (q_fieldAddr fo_35_0 rfl rfl) ?_
    refine WL.quiet (d:=20) rfl rfl rfl (q_loadA (cs:=[(.int .i64 za.1.fBurst.fN),(.int .i64 za.1.fBurst.fD)]) aggT_30 rfl rfl (rd_sub (s:=2) (.there (.there .here)) rfl)) ?_
    refine WL.quiet (d:=21) rfl rfl rfl (q_fieldAddr fo_35_0 rfl rfl) ?_
    refine WL.quiet (d:=22) rfl rfl rfl (q_loadA (cs:=[(.int .i64 za.2.fBurst.fN),(.int .i64 za.2.fBurst.fD)]) aggT_30 rfl rfl (rd_sub (s:=2) (.there .here) rfl)) ?_
    refine WL.callD (dd:=23) rfl rfl rfl (zn (l:=[.tmp 20,.tmp 22]) Try.call18 (.cons rfl (.cons rfl .nil))) (.nil : Sel [blk z2f (z2r .busy none),stb z4r 35 [(.int .i64 za.2.fBurst.fN),(.int .i64 za.2.fBurst.fD),(.int .i64 za.2.fRate.fN),(.int .i64 za.2.fRate.fD)],stb z4q 35 [(.int .i64 za.1.fBurst.fN),(.int .i64 za.1.fBurst.fD),(.int .i64 za.1.fRate.fN),(.int .i64 za.1.fRate.fD)],fz [],stb z1s 77 [(.slice z1Y zP.length z1Z)],row (.slice z1Y zP.length z1Z) 30 2 (zP.flatMap e30),stb z1i 90 [(.int .i64 z61)]] [] [blk z2f (z2r .busy none),stb z4r 35 [(.int .i64 za.2.fBurst.fN),(.int .i64 za.2.fBurst.fD),(.int .i64 za.2.fRate.fN),(.int .i64 za.2.fRate.fD)],stb z4q 35 [(.int .i64 za.1.fBurst.fN),(.int .i64 za.1.fBurst.fD),(.int .i64 za.1.fRate.fN),(.int .i64 za.1.fRate.fD)],fz [],stb z1s 77 [(.slice z1Y zP.length z1Z)],row (.slice z1Y zP.length z1Z) 30 2 (zP.flatMap e30),stb z1i 90 [(.int .i64 z61)]]) (fun w hw=>by have pz:=(hz.call2 hw (.nil : Sel [blk z2f (z2r .busy none),stb z4r 35 [(.int .i64 za.2.fBurst.fN),(.int .i64 za.2.fBurst.fD),(.int .i64 za.2.fRate.fN),(.int .i64 za.2.fRate.fD)],stb z4q 35 [(.int .i64 za.1.fBurst.fN),(.int .i64 za.1.fBurst.fD),(.int .i64 za.1.fRate.fN),(.int .i64 za.1.fRate.fD)],fz [],stb z1s 77 [(.slice z1Y zP.length z1Z)],row (.slice z1Y zP.length z1Z) 30 2 (zP.flatMap e30),stb z1i 90 [(.int .i64 z61)]] [] [blk z2f (z2r .busy none),stb z4r 35 [(.int .i64 za.2.fBurst.fN),(.int .i64 za.2.fBurst.fD),(.int .i64 za.2.fRate.fN),(.int .i64 za.2.fRate.fD)],stb z4q 35 [(.int .i64 za.1.fBurst.fN),(.int .i64 za.1.fBurst.fD),(.int .i64 za.1.fRate.fN),(.int .i64 za.1.fRate.fD)],fz [],stb z1s 77 [(.slice z1Y zP.length z1Z)],row (.slice z1Y zP.length z1Z) 30 2 (zP.flatMap e30),stb z1i 90 [(.int .i64 z61)]]) (.there (.there (.there .here)))); exact w_rat_Cmp (Z:=_)  (z21:=za.1.fBurst) (z23:=za.2.fBurst) (r:=zj0) w pz  zsc) ?_
    refine WL.quiet (d:=24) rfl rfl rfl (q_lss rfl rfl) ?_
    refine WL.nil ?_
    refine WX.then ?_
    refine WC.cond rfl (fun zj4=>?_) (fun zj4=>?_)
    ·replace z5f:=ite_t z5f zj4
     obtain ⟨z7B,zsd,z5f⟩:=ze z5f
     obtain ⟨z7C,zse,z5f⟩:=ze z5f
     obtain ⟨z6V,zsf,z5f⟩:=ze z5f
     obtain ⟨zsg,z5f⟩:=chk_elim z5f
     refine WC.draw (fun i=>[5,10,11,13,14].contains i) [stbp z1s 77 [(0,(.slice z1Y zP.length z1Z))],stb z4q 35 [(.int .i64 za.1.fBurst.fN),(.int .i64 za.1.fBurst.fD),(.int .i64 za.1.fRate.fN),(.int .i64 za.1.fRate.fD)],stb z4r 35 [(.int .i64 za.2.fBurst.fN),(.int .i64 za.2.fBurst.fD),(.int .i64 za.2.fRate.fN),(.int .i64 za.2.fRate.fD)]] rfl ?_
     refine WD.stable (i:=0) (d:=25) (by kernel_rfl) rfl (z6 (by kernel_rfl)) (z7 (by kernel_rfl)) rfl rfl rfl (Sin.wk (.cons (.there (.there (.there (.there .here)))) (.cons (.there (.there .here)) (.cons (.there .here) .nil))) (.stb (.cons rfl .nil) (.same (.same .nil)))) (q_load1 oneT_77 rfl (rd_stbp .here (.head _))) ?_
     refine WD.pure (i:=1) (d:=26) (by kernel_rfl) rfl (z6 (by kernel_rfl)) (z7 (by kernel_rfl)) rfl rfl rfl (fun _=>q_fieldAddr fo_35_0 rfl rfl) ?_
     refine WD.quiet (i:=2) (d:=27) (by kernel_rfl) rfl (z6 (by kernel_rfl)) (z7 (by kernel_rfl)) rfl rfl rfl (q_loadA (cs:=[(.int .i64 za.2.fBurst.fN),(.int .i64 za.2.fBurst.fD)]) aggT_30 rfl rfl (rd_sub (s:=2) (.there .here) rfl)) ?_
     refine WD.pure (i:=3) (d:=28) (by kernel_rfl) rfl (z6 (by kernel_rfl)) (z7 (by kernel_rfl)) rfl rfl rfl (fun _=>q_fieldAddr fo_35_0 rfl rfl) ?_
     refine WD.quiet (i:=4) (d:=29) (by kernel_rfl) rfl (z6 (by kernel_rfl)) (z7 (by kernel_rfl)) rfl rfl rfl (q_loadA (cs:=[(.int .i64 za.1.fBurst.fN),(.int .i64 za.1.fBurst.fD)]) aggT_30 rfl rfl (rd_sub (s:=2) (.there (.there .here)) rfl)) ?_
     refine WD.pure (i:=6) (d:=31) (by kernel_rfl) rfl (z6 (by kernel_rfl)) (z7 (by kernel_rfl)) rfl rfl rfl (fun _=>q_fieldAddr fo_35_1 rfl rfl) ?_
     refine WD.stable (i:=7) (d:=32) (by kernel_rfl) rfl (z6 (by kernel_rfl)) (z7 (by kernel_rfl)) rfl rfl rfl (Sin.wk (.cons (.there (.there (.there (.there .here)))) (.cons (.there (.there .here)) (.cons (.there .here) .nil))) (.stb (.cons rfl .nil) (.same (.same .nil)))) (q_loadA (cs:=[(.int .i64 za.1.fRate.fN),(.int .i64 za.1.fRate.fD)]) aggT_30 rfl rfl (rd_sub (s:=2) (.there .here) rfl)) ?_
     refine WD.pure (i:=8) (d:=33) (by kernel_rfl) rfl (z6 (by kernel_rfl)) (z7 (by kernel_rfl)) rfl rfl rfl (fun _=>q_fieldAddr fo_35_1 rfl rfl) ?_
     refine WD.stable (i:=9) (d:=34) (by kernel_rfl) rfl (z6 (by kernel_rfl)) (z7 (by kernel_rfl)) rfl rfl rfl (Sin.wk (.cons (.there (.there (.there (.there .here)))) (.cons (.there (.there .here)) (.cons (.there .here) .nil))) (.stb (.cons rfl .nil) (.same (.same .nil)))) (q_loadA (cs:=[(.int .i64 za.2.fRate.fN),(.int .i64 za.2.fRate.fD)]) aggT_30 rfl rfl (rd_sub (s:=2) (.there (.there .here)) rfl)) ?_
     refine WD.call0 (i:=5) (dd:=30) rfl (by kernel_rfl) rfl rfl rfl (.inl ⟨rfl,(Sin.wk (.cons (.there (.there (.there (.there (.there .here))))) (.cons (.there (.there (.there .here))) (.cons (.there (.there .here)) .nil))) (.stb (.cons rfl .nil) (.same (.same .nil))))⟩) (zn (l:=[.tmp 4,.func 24,.tmp 27,.tmp 29]) Try.call58 (.cons rfl (.cons rfl (.cons rfl (.cons rfl .nil))))) ((.cons (.there (.there (.there (.there (.there (.there .here)))))) .nil) : Sel [blk z2f (z2r .busy none),stb z4r 35 [(.int .i64 za.2.fBurst.fN),(.int .i64 za.2.fBurst.fD),(.int .i64 za.2.fRate.fN),(.int .i64 za.2.fRate.fD)],stb z4q 35 [(.int .i64 za.1.fBurst.fN),(.int .i64 za.1.fBurst.fD),(.int .i64 za.1.fRate.fN),(.int .i64 za.1.fRate.fD)],fz [],stb z1s 77 [(.slice z1Y zP.length z1Z)],row (.slice z1Y zP.length z1Z) 30 2 (zP.flatMap e30),stb z1i 90 [(.int .i64 z61)]] [stb z1i 90 [(.int .i64 z61)]] [blk z2f (z2r .busy none),stb z4r 35 [(.int .i64 za.2.fBurst.fN),(.int .i64 za.2.fBurst.fD),(.int .i64 za.2.fRate.fN),(.int .i64 za.2.fRate.fD)],stb z4q 35 [(.int .i64 za.1.fBurst.fN),(.int .i64 za.1.fBurst.fD),(.int .i64 za.1.fRate.fN),(.int .i64 za.1.fRate.fD)],fz [],stb z1s 77 [(.slice z1Y zP.length z1Z)],row (.slice z1Y zP.length z1Z) 30 2 (zP.flatMap e30)]) (fun w hw=>by have pz:=(hz.call2 hw ((.cons (.there (.there (.there (.there (.there (.there .here)))))) .nil) : Sel [blk z2f (z2r .busy none),stb z4r 35 [(.int .i64 za.2.fBurst.fN),(.int .i64 za.2.fBurst.fD),(.int .i64 za.2.fRate.fN),(.int .i64 za.2.fRate.fD)],stb z4q 35 [(.int .i64 za.1.fBurst.fN),(.int .i64 za.1.fBurst.fD),(.int .i64 za.1.fRate.fN),(.int .i64 za.1.fRate.fD)],fz [],stb z1s 77 [(.slice z1Y zP.length z1Z)],row (.slice z1Y zP.length z1Z) 30 2 (zP.flatMap e30),stb z1i 90 [(.int .i64 z61)]] [stb z1i 90 [(.int .i64 z61)]] [blk z2f (z2r .busy none),stb z4r 35 [(.int .i64 za.2.fBurst.fN),(.int .i64 za.2.fBurst.fD),(.int .i64 za.2.fRate.fN),(.int .i64 za.2.fRate.fD)],stb z4q 35 [(.int .i64 za.1.fBurst.fN),(.int .i64 za.1.fBurst.fD),(.int .i64 za.1.fRate.fN),(.int .i64 za.1.fRate.fD)],fz [],stb z1s 77 [(.slice z1Y zP.length z1Z)],row (.slice z1Y zP.length z1Z) 30 2 (zP.flatMap e30)]) (.there (.there (.there .here)))); exact Calls.mono (w_curve_calc_do (Z:=_) (z6T:=z1i) (z7z:=24) (z8B:=[]) (z6S:=(⟨z61⟩ : z2a)) (z9q:=(fun (y0 : z2) (y1 : z2)=>m_rat_Sub y0 y1)) (z5a:=za.2.fBurst) (z5b:=za.1.fBurst) (r:=z7B) w pz Try.call24 (fun w' hz' y0 y1  r  hr=>w_rat_Sub (Z:=_)  (z3C:=y0) (z3D:=y1) (r:=r) w' hz'  hr) zsd (hw.owns ((.cons (.there (.there (.there (.there (.there (.there .here)))))) .nil) : Sel [blk z2f (z2r .busy none),stb z4r 35 [(.int .i64 za.2.fBurst.fN),(.int .i64 za.2.fBurst.fD),(.int .i64 za.2.fRate.fN),(.int .i64 za.2.fRate.fD)],stb z4q 35 [(.int .i64 za.1.fBurst.fN),(.int .i64 za.1.fBurst.fD),(.int .i64 za.1.fRate.fN),(.int .i64 za.1.fRate.fD)],fz [],stb z1s 77 [(.slice z1Y zP.length z1Z)],row (.slice z1Y zP.length z1Z) 30 2 (zP.flatMap e30),stb z1i 90 [(.int .i64 z61)]] [stb z1i 90 [(.int .i64 z61)]] [blk z2f (z2r .busy none),stb z4r 35 [(.int .i64 za.2.fBurst.fN),(.int .i64 za.2.fBurst.fD),(.int .i64 za.2.fRate.fN),(.int .i64 za.2.fRate.fD)],stb z4q 35 [(.int .i64 za.1.fBurst.fN),(.int .i64 za.1.fBurst.fD),(.int .i64 za.1.fRate.fN),(.int .i64 za.1.fRate.fD)],fz [],stb z1s 77 [(.slice z1Y zP.length z1Z)],row (.slice z1Y zP.length z1Z) 30 2 (zP.flatMap e30)]))) (fun _ _ h'=>⟨h'.1,trivial,h'.2⟩)) ?_
     intro _
     refine WD.call0 (i:=10) (dd:=35) rfl (by kernel_rfl) rfl rfl rfl (.inl ⟨rfl,(Sin.wk (.cons (.there (.there (.there (.there (.there .here))))) (.cons (.there (.there (.there .here))) (.cons (.there (.there .here)) .nil))) (.stb (.cons rfl .nil) (.same (.same .nil))))⟩) (zn (l:=[.tmp 4,.func 24,.tmp 32,.tmp 34]) Try.call58 (.cons rfl (.cons rfl (.cons rfl (.cons rfl .nil))))) ((.cons .here .nil) : Sel [stb z1i 90 [(.int .i64 z7B.2.fE)],blk z2f (z2r .busy none),stb z4r 35 [(.int .i64 za.2.fBurst.fN),(.int .i64 za.2.fBurst.fD),(.int .i64 za.2.fRate.fN),(.int .i64 za.2.fRate.fD)],stb z4q 35 [(.int .i64 za.1.fBurst.fN),(.int .i64 za.1.fBurst.fD),(.int .i64 za.1.fRate.fN),(.int .i64 za.1.fRate.fD)],fz [],stb z1s 77 [(.slice z1Y zP.length z1Z)],row (.slice z1Y zP.length z1Z) 30 2 (zP.flatMap e30)] [stb z1i 90 [(.int .i64 z7B.2.fE)]] [blk z2f (z2r .busy none),stb z4r 35 [(.int .i64 za.2.fBurst.fN),(.int .i64 za.2.fBurst.fD),(.int .i64 za.2.fRate.fN),(.int .i64 za.2.fRate.fD)],stb z4q 35 [(.int .i64 za.1.fBurst.fN),(.int .i64 za.1.fBurst.fD),(.int .i64 za.1.fRate.fN),(.int .i64 za.1.fRate.fD)],fz [],stb z1s 77 [(.slice z1Y zP.length z1Z)],row (.slice z1Y zP.length z1Z) 30 2 (zP.flatMap e30)]) (fun w hw=>by have pz:=(hz.call2 hw ((.cons .here .nil) : Sel [stb z1i 90 [(.int .i64 z7B.2.fE)],blk z2f (z2r .busy none),stb z4r 35 [(.int .i64 za.2.fBurst.fN),(.int .i64 za.2.fBurst.fD),(.int .i64 za.2.fRate.fN),(.int .i64 za.2.fRate.fD)],stb z4q 35 [(.int .i64 za.1.fBurst.fN),(.int .i64 za.1.fBurst.fD),(.int .i64 za.1.fRate.fN),(.int .i64 za.1.fRate.fD)],fz [],stb z1s 77 [(.slice z1Y zP.length z1Z)],row (.slice z1Y zP.length z1Z) 30 2 (zP.flatMap e30)] [stb z1i 90 [(.int .i64 z7B.2.fE)]] [blk z2f (z2r .busy none),stb z4r 35 [(.int .i64 za.2.fBurst.fN),(.int .i64 za.2.fBurst.fD),(.int .i64 za.2.fRate.fN),(.int .i64 za.2.fRate.fD)],stb z4q 35 [(.int .i64 za.1.fBurst.fN),(.int .i64 za.1.fBurst.fD),(.int .i64 za.1.fRate.fN),(.int .i64 za.1.fRate.fD)],fz [],stb z1s 77 [(.slice z1Y zP.length z1Z)],row (.slice z1Y zP.length z1Z) 30 2 (zP.flatMap e30)]) (.there (.there (.there .here)))); exact Calls.mono (w_curve_calc_do (Z:=_) (z6T:=z1i) (z7z:=24) (z8B:=[]) (z6S:=z7B.2) (z9q:=(fun (y0 : z2) (y1 : z2)=>m_rat_Sub y0 y1)) (z5a:=za.1.fRate) (z5b:=za.2.fRate) (r:=z7C) w pz Try.call24 (fun w' hz' y0 y1  r  hr=>w_rat_Sub (Z:=_)  (z3C:=y0) (z3D:=y1) (r:=r) w' hz'  hr) zse (hw.owns ((.cons .here .nil) : Sel [stb z1i 90 [(.int .i64 z7B.2.fE)],blk z2f (z2r .busy none),stb z4r 35 [(.int .i64 za.2.fBurst.fN),(.int .i64 za.2.fBurst.fD),(.int .i64 za.2.fRate.fN),(.int .i64 za.2.fRate.fD)],stb z4q 35 [(.int .i64 za.1.fBurst.fN),(.int .i64 za.1.fBurst.fD),(.int .i64 za.1.fRate.fN),(.int .i64 za.1.fRate.fD)],fz [],stb z1s 77 [(.slice z1Y zP.length z1Z)],row (.slice z1Y zP.length z1Z) 30 2 (zP.flatMap e30)] [stb z1i 90 [(.int .i64 z7B.2.fE)]] [blk z2f (z2r .busy none),stb z4r 35 [(.int .i64 za.2.fBurst.fN),(.int .i64 za.2.fBurst.fD),(.int .i64 za.2.fRate.fN),(.int .i64 za.2.fRate.fD)],stb z4q 35 [(.int .i64 za.1.fBurst.fN),(.int .i64 za.1.fBurst.fD),(.int .i64 za.1.fRate.fN),(.int .i64 za.1.fRate.fD)],fz [],stb z1s 77 [(.slice z1Y zP.length z1Z)],row (.slice z1Y zP.length z1Z) 30 2 (zP.flatMap e30)]))) (fun _ _ h'=>⟨h'.1,trivial,h'.2⟩)) ?_
     intro _
     refine WD.call0 (i:=11) (dd:=36) rfl (by kernel_rfl) rfl rfl rfl (.inl ⟨rfl,(Sin.wk (.cons (.there (.there (.there (.there (.there .here))))) (.cons (.there (.there (.there .here))) (.cons (.there (.there .here)) .nil))) (.stb (.cons rfl .nil) (.same (.same .nil))))⟩) (zn (l:=[.tmp 4,.func 34,.tmp 30,.tmp 35]) Try.call58 (.cons rfl (.cons rfl (.cons rfl (.cons rfl .nil))))) ((.cons .here .nil) : Sel [stb z1i 90 [(.int .i64 z7C.2.fE)],blk z2f (z2r .busy none),stb z4r 35 [(.int .i64 za.2.fBurst.fN),(.int .i64 za.2.fBurst.fD),(.int .i64 za.2.fRate.fN),(.int .i64 za.2.fRate.fD)],stb z4q 35 [(.int .i64 za.1.fBurst.fN),(.int .i64 za.1.fBurst.fD),(.int .i64 za.1.fRate.fN),(.int .i64 za.1.fRate.fD)],fz [],stb z1s 77 [(.slice z1Y zP.length z1Z)],row (.slice z1Y zP.length z1Z) 30 2 (zP.flatMap e30)] [stb z1i 90 [(.int .i64 z7C.2.fE)]] [blk z2f (z2r .busy none),stb z4r 35 [(.int .i64 za.2.fBurst.fN),(.int .i64 za.2.fBurst.fD),(.int .i64 za.2.fRate.fN),(.int .i64 za.2.fRate.fD)],stb z4q 35 [(.int .i64 za.1.fBurst.fN),(.int .i64 za.1.fBurst.fD),(.int .i64 za.1.fRate.fN),(.int .i64 za.1.fRate.fD)],fz [],stb z1s 77 [(.slice z1Y zP.length z1Z)],row (.slice z1Y zP.length z1Z) 30 2 (zP.flatMap e30)]) (fun w hw=>by have pz:=(hz.call2 hw ((.cons .here .nil) : Sel [stb z1i 90 [(.int .i64 z7C.2.fE)],blk z2f (z2r .busy none),stb z4r 35 [(.int .i64 za.2.fBurst.fN),(.int .i64 za.2.fBurst.fD),(.int .i64 za.2.fRate.fN),(.int .i64 za.2.fRate.fD)],stb z4q 35 [(.int .i64 za.1.fBurst.fN),(.int .i64 za.1.fBurst.fD),(.int .i64 za.1.fRate.fN),(.int .i64 za.1.fRate.fD)],fz [],stb z1s 77 [(.slice z1Y zP.length z1Z)],row (.slice z1Y zP.length z1Z) 30 2 (zP.flatMap e30)] [stb z1i 90 [(.int .i64 z7C.2.fE)]] [blk z2f (z2r .busy none),stb z4r 35 [(.int .i64 za.2.fBurst.fN),(.int .i64 za.2.fBurst.fD),(.int .i64 za.2.fRate.fN),(.int .i64 za.2.fRate.fD)],stb z4q 35 [(.int .i64 za.1.fBurst.fN),(.int .i64 za.1.fBurst.fD),(.int .i64 za.1.fRate.fN),(.int .i64 za.1.fRate.fD)],fz [],stb z1s 77 [(.slice z1Y zP.length z1Z)],row (.slice z1Y zP.length z1Z) 30 2 (zP.flatMap e30)]) (.there (.there (.there .here)))); exact Calls.mono (w_curve_calc_do (Z:=_) (z6T:=z1i) (z7z:=34) (z8B:=[]) (z6S:=z7C.2) (z9q:=(fun (y0 : z2) (y1 : z2)=>m_rat_Div y0 y1)) (z5a:=z7B.1) (z5b:=z7C.1) (r:=z6V) w pz Try.call34 (fun w' hz' y0 y1  r  hr=>w_rat_Div (Z:=_)  (z4c:=y0) (z4d:=y1) (r:=r) w' hz'  hr) zsf (hw.owns ((.cons .here .nil) : Sel [stb z1i 90 [(.int .i64 z7C.2.fE)],blk z2f (z2r .busy none),stb z4r 35 [(.int .i64 za.2.fBurst.fN),(.int .i64 za.2.fBurst.fD),(.int .i64 za.2.fRate.fN),(.int .i64 za.2.fRate.fD)],stb z4q 35 [(.int .i64 za.1.fBurst.fN),(.int .i64 za.1.fBurst.fD),(.int .i64 za.1.fRate.fN),(.int .i64 za.1.fRate.fD)],fz [],stb z1s 77 [(.slice z1Y zP.length z1Z)],row (.slice z1Y zP.length z1Z) 30 2 (zP.flatMap e30)] [stb z1i 90 [(.int .i64 z7C.2.fE)]] [blk z2f (z2r .busy none),stb z4r 35 [(.int .i64 za.2.fBurst.fN),(.int .i64 za.2.fBurst.fD),(.int .i64 za.2.fRate.fN),(.int .i64 za.2.fRate.fD)],stb z4q 35 [(.int .i64 za.1.fBurst.fN),(.int .i64 za.1.fBurst.fD),(.int .i64 za.1.fRate.fN),(.int .i64 za.1.fRate.fD)],fz [],stb z1s 77 [(.slice z1Y zP.length z1Z)],row (.slice z1Y zP.length z1Z) 30 2 (zP.flatMap e30)]))) (fun _ _ h'=>⟨h'.1,trivial,h'.2⟩)) ?_
     intro _
     refine WD.new (i:=12) (dd:=37) rfl (by kernel_rfl) rfl rfl rfl (e_buildSlice (cs:=([z6V.1] : List z2).flatMap e30) elT_77 (Eos.parts (l:=[.tmp 36]) (.cons rfl .nil) [0]) (fun _=>by kernel_rfl) rfl (by unfold maxLen; omega)) (fun h'=>absurd h' (by decide)) ?_
     intro zxL _
     refine WD.old (i:=13) (dd:=38) rfl (by kernel_rfl) rfl rfl rfl rfl (fun _=>(Sin.wk (.cons (.there (.there (.there (.there (.there (.there (.there .here))))))) (.cons (.there (.there (.there (.there (.there .here))))) (.cons (.there (.there (.there (.there .here)))) .nil))) (.stb (.cons rfl .nil) (.same (.same .nil))))) (e_appendF (enc:=e30) (l1:=zP) (l2:=([z6V.1] : List z2)) elT_77 rfl rfl (.there (.there (.there (.there (.there (.there (.there .here))))))) (fun _=>rfl) rfl rfl (news_row .here) (oc_flat e30_oc _) zsg) ?_
     rintro ⟨zed,zee⟩ _
     refine WD.last0 (i:=14) rfl (by kernel_rfl) rfl rfl rfl (by kernel_rfl) (e_store (vs:=[(.slice zed ((zP ++ ([z6V.1] : List z2)).length) zee)]) (ds:=[(.slice zed ((zP ++ ([z6V.1] : List z2)).length) zee)]) sizT_77 rfl rfl rfl rfl (oc_cons rfl oc_nil) (.there (.there (.there (.there (.there (.there (.there .here))))))) (Nat.le_of_ble_eq_true rfl) rfl) ?_
     refine WD.done (by kernel_rfl) ?_
     refine WX.blockNormal ?_
     obtain ⟨rfl,rfl⟩:=rf_inj z5f
     exact WX.rNormal zg2 (.there (.there (.there (.there .here)))) (fun w' hw'=>⟨(zed,zee),rfl,trivial,(hw'.selAll ((.cons (.there (.there (.there (.there (.there (.there (.there .here))))))) (.cons (.there .here) (.cons (.there .here) (.cons (.there (.there .here)) (.cons .here .nil))))) : Sel _ [fz [],stb z1s 77 [(.slice zed ((zP ++ ([z6V.1] : List z2)).length) zee)],row (.slice zed ((zP ++ ([z6V.1] : List z2)).length) zee) 30 2 ((zP ++ ([z6V.1] : List z2)).flatMap e30),stb z1i 90 [(.int .i64 z6V.2.fE)],blk z2f (z2r .ready none)] _)).sub (.cons .here .nil)⟩)
    ·replace z5f:=ite_f z5f zj4
     refine WC.skip ?_
     refine WX.blockNormal ?_
     obtain ⟨rfl,rfl⟩:=rf_inj z5f
     exact WX.rNormal zg2 .here (fun w' hw'=>⟨(z1Y,z1Z),rfl,trivial,(hw'.selAll ((.cons (.there (.there (.there .here))) (.cons (.there (.there (.there .here))) (.cons (.there (.there (.there .here))) (.cons (.there (.there (.there .here))) (.cons .here .nil))))) : Sel _ [fz [],stb z1s 77 [(.slice z1Y zP.length z1Z)],row (.slice z1Y zP.length z1Z) 30 2 (zP.flatMap e30),stb z1i 90 [(.int .i64 z61)],blk z2f (z2r .ready none)] _)).sub (.cons .here .nil)⟩)
   ·skip
    rintro _ w' ⟨⟨zef,zeg⟩,rfl,_,hp⟩
    have hp1:=hw1.call ((.cons .here .nil) : Sel [allA [fz [],stb z1s 77 [(.slice none (([] : List z2).length) 0)],row (.slice none (([] : List z2).length) 0) 30 2 (([] : List z2).flatMap e30),stb z1i 90 [(.int .i64 0)],blk z2f (z2r .ready none)],dfr z6l,stb z4F 39 [(.slice z4R z26.1.length z4S)],stb z4G 39 [(.slice z4T z26.2.length z4U)],fz z5e] [allA [fz [],stb z1s 77 [(.slice none (([] : List z2).length) 0)],row (.slice none (([] : List z2).length) 0) 30 2 (([] : List z2).flatMap e30),stb z1i 90 [(.int .i64 0)],blk z2f (z2r .ready none)]] [dfr z6l,stb z4F 39 [(.slice z4R z26.1.length z4S)],stb z4G 39 [(.slice z4T z26.2.length z4U)],fz z5e]) hp
    have hp2 : Hp _ _ w' [fz [],stb z1s 77 [(.slice zef z5c.2.1.length zeg)],row (.slice zef z5c.2.1.length zeg) 30 2 (z5c.2.1.flatMap e30),stb z1i 90 [(.int .i64 z5c.2.2)],blk z2f (z2r (rdy (pcs [] z5c.1)) (pcs [] z5c.1)),dfr z6l,stb z4F 39 [(.slice z4R z26.1.length z4S)],stb z4G 39 [(.slice z4T z26.2.length z4U)],fz z5e]:=hp1.pickAll .here
    refine ⟨_,pcs [] z5c.1,_,rfl,(hp2.sub ((.cons (.there (.there (.there (.there .here)))) (.cons .here (.cons .here (.cons .here (.cons .here (.cons .here (.cons .here (.cons .here (.cons .here .nil))))))))) : Sel _ [blk z2f (z2r (rdy (pcs [] z5c.1)) (pcs [] z5c.1)),fz [],stb z1s 77 [(.slice zef z5c.2.1.length zeg)],row (.slice zef z5c.2.1.length zeg) 30 2 (z5c.2.1.flatMap e30),stb z1i 90 [(.int .i64 z5c.2.2)],dfr z6l,stb z4F 39 [(.slice z4R z26.1.length z4S)],stb z4G 39 [(.slice z4T z26.2.length z4U)],fz z5e] _)),?_⟩
    clear hp hp1 hp2 pz hw hw1
    refine wjN ?_
    letI : Rnd:=aft z6l
    refine WX.merge .here (.there (.there (.there (.there (.there (.there .here)))))) ?_
    refine WX.blockNormal ?_
    exact WX.midR (D:=fun (g : Nat × Int × List z2 × Zp × Option Addr × Nat)=>g.1) (G:=Nat × Int × List z2 × Zp × Option Addr × Nat) ⟨z6l,z5c.2.2,z5c.2.1,(z5e ++ []),zef,zeg⟩ ⟨h,(zs2.trans ((Zle.left _ _).trans (Zle.assoc _ _ _)))⟩ (.cons rfl (.cons rfl .nil)) (.cons .here (.cons (.there (.there .here)) (.cons .here (.cons .here (.cons .here .nil)))))
  ·rintro z62 z4Q z3m z5d z34 z35 ⟨h,zxM⟩
   replace h:=(zs1 z4Q z3m).symm.trans h
   letI : Rnd:=aft z62
   refine WC.seq ?_
   refine WC.seq ?_
   refine WC.region ?_
   refine WL.quiet (d:=39) rfl rfl rfl (q_fieldAddr fo_90_0 rfl rfl) ?_
   refine WL.quiet (d:=40) rfl rfl rfl (q_load1 oneT_31 rfl (rd_stb (.there .here) rfl)) ?_
   refine WL.quiet (d:=41) rfl rfl rfl (q_neq rfl rfl) ?_
   refine WL.nil ?_
   refine WX.then ?_
   refine WC.cond rfl (fun zj5=>?_) (fun zj5=>?_)
   ·replace h:=ite_t h zj5
    refine WC.seq ?_
    refine WC.draw (fun i=>[].contains i) [] rfl ?_
    refine WD.pure (i:=0) (d:=42) (by kernel_rfl) rfl (z6 (by kernel_rfl)) (z7 (by kernel_rfl)) rfl rfl rfl (fun _=>q_fieldAddr fo_90_0 rfl rfl) ?_
    refine WD.quiet (i:=1) (d:=43) (by kernel_rfl) rfl (z6 (by kernel_rfl)) (z7 (by kernel_rfl)) rfl rfl rfl (q_load1 oneT_31 rfl (rd_stb (.there .here) rfl)) ?_
    refine WD.pure (i:=2) (d:=2) (by kernel_rfl) rfl (z6 (by kernel_rfl)) (z7 (by kernel_rfl)) rfl rfl rfl (fun _=>q_assign rfl) ?_
    refine WD.pure (i:=3) (d:=3) (by kernel_rfl) rfl (z6 (by kernel_rfl)) (z7 (by kernel_rfl)) rfl rfl rfl (fun _=>q_assign rfl) ?_
    refine WD.done (by kernel_rfl) ?_
    refine WX.then ?_
    refine WC.ret ?_
    refine WX.thenRet ?_
    refine WX.nilRow 30 2 ?_
    obtain rfl:=Option.some.inj h
    refine WX.bpRetD (.there (.there (.there (.there (.there .here))))) Try.results68 (.tmp rfl (.tmp rfl .nil)) (fun w hw=>?_)
    exact ⟨z5d,none,0,ret2 rfl rfl,trivial,hw.sub (.cons (.there (.there .here)) (.cons (.there .here) .nil))⟩
   ·replace h:=ite_f h zj5
    refine WC.skip ?_
    refine WX.then ?_
    refine WC.seq ?_
    obtain ⟨z4p,zsh,h⟩:=ze h
    refine WC.region ?_
    refine WL.quiet (d:=44) rfl rfl rfl (q_load1 oneT_77 rfl (rd_stb (.there (.there .here)) rfl)) ?_
    refine WL.enter0 (dd:=45) rfl rfl rfl (zn (l:=[.tmp 44,.func 18]) Try.call77 (.cons rfl (.cons rfl .nil))) ((.cons (.there (.there (.there .here))) .nil) : Sel [fz z5d,stb z1i 90 [(.int .i64 z4Q)],stb z1s 77 [(.slice z34 z3m.length z35)],row (.slice z34 z3m.length z35) 30 2 (z3m.flatMap e30),dfr z62] [row (.slice z34 z3m.length z35) 30 2 (z3m.flatMap e30)] [fz z5d,stb z1i 90 [(.int .i64 z4Q)],stb z1s 77 [(.slice z34 z3m.length z35)],dfr z62]) (fun w hw=>by have pz:=(hz.call2 hw ((.cons (.there (.there (.there .here))) .nil) : Sel [fz z5d,stb z1i 90 [(.int .i64 z4Q)],stb z1s 77 [(.slice z34 z3m.length z35)],row (.slice z34 z3m.length z35) 30 2 (z3m.flatMap e30),dfr z62] [row (.slice z34 z3m.length z35) 30 2 (z3m.flatMap e30)] [fz z5d,stb z1i 90 [(.int .i64 z4Q)],stb z1s 77 [(.slice z34 z3m.length z35)],dfr z62]) .here); exact w_slices_SortFunc_api_Rat_api_Rat (Z:=_) (z4A:=z34) (z4B:=z35) (zak:=18) (zcO:=[]) (z2e:=z3m) (zcN:=(fun (y0 : z2) (y1 : z2)=>m_rat_Cmp y0 y1)) (r:=z4p) w pz Try.call18 (fun w' hz' y0 y1  r  hr=>w_rat_Cmp (Z:=_)  (z21:=y0) (z23:=y1) (r:=r) w' hz'  hr) zsh (hw.owns ((.cons (.there (.there (.there .here))) .nil) : Sel [fz z5d,stb z1i 90 [(.int .i64 z4Q)],stb z1s 77 [(.slice z34 z3m.length z35)],row (.slice z34 z3m.length z35) 30 2 (z3m.flatMap e30),dfr z62] [row (.slice z34 z3m.length z35) 30 2 (z3m.flatMap e30)] [fz z5d,stb z1i 90 [(.int .i64 z4Q)],stb z1s 77 [(.slice z34 z3m.length z35)],dfr z62]))) ?_
    rintro  zsi
    refine WL.restb (cs':=[(.slice z34 z4p.length z35)]) (.there (.there (.there .here))) (by rw [zsi]) ?_
    refine WL.nil ?_
    refine WX.then ?_
    refine WC.seq ?_
    obtain ⟨zj1,zsj,h⟩:=ze h
    refine WC.region ?_
    refine WL.quiet (d:=46) rfl rfl rfl (q_load1 oneT_77 rfl (rd_stb .here rfl)) ?_
    refine WL.enter2 (dd:=47) rfl rfl rfl (zn (l:=[.tmp 46]) Try.call78 (.cons rfl .nil)) ((.cons (.there .here) .nil) : Sel [stb z1s 77 [(.slice z34 z4p.length z35)],row (.slice z34 z4p.length z35) 30 2 (z4p.flatMap e30),fz z5d,stb z1i 90 [(.int .i64 z4Q)],dfr z62] [row (.slice z34 z4p.length z35) 30 2 (z4p.flatMap e30)] [stb z1s 77 [(.slice z34 z4p.length z35)],fz z5d,stb z1i 90 [(.int .i64 z4Q)],dfr z62]) (fun w hw=>by have pz:=(hz.call2 hw ((.cons (.there .here) .nil) : Sel [stb z1s 77 [(.slice z34 z4p.length z35)],row (.slice z34 z4p.length z35) 30 2 (z4p.flatMap e30),fz z5d,stb z1i 90 [(.int .i64 z4Q)],dfr z62] [row (.slice z34 z4p.length z35) 30 2 (z4p.flatMap e30)] [stb z1s 77 [(.slice z34 z4p.length z35)],fz z5d,stb z1i 90 [(.int .i64 z4Q)],dfr z62]) (.there .here)); exact w_slices_Compact_api_Rat_api_Rat (Z:=_) (z89:=z34) (z8a:=z35) (z1l:=z4p) (r:=zj1) w pz  zsj (hw.owns ((.cons (.there .here) .nil) : Sel [stb z1s 77 [(.slice z34 z4p.length z35)],row (.slice z34 z4p.length z35) 30 2 (z4p.flatMap e30),fz z5d,stb z1i 90 [(.int .i64 z4Q)],dfr z62] [row (.slice z34 z4p.length z35) 30 2 (z4p.flatMap e30)] [stb z1s 77 [(.slice z34 z4p.length z35)],fz z5d,stb z1i 90 [(.int .i64 z4Q)],dfr z62]))) ?_
    rintro zsk zsl _
    refine WL.quiet (d:=2) rfl rfl rfl (q_assign rfl) ?_
    refine WL.quiet (d:=3) rfl rfl rfl (q_assign rfl) ?_
    refine WL.nil ?_
    refine WX.then ?_
    refine WC.ret ?_
    obtain rfl:=Option.some.inj h
    refine WX.bpRetD (.there (.there (.there (.there .here)))) Try.results68 (.tmp rfl (.tmp rfl .nil)) (fun w hw=>?_)
    exact ⟨z5d,zsk,zsl,ret2 rfl rfl,trivial,hw.sub (.cons (.there (.there (.there .here))) (.cons (.there .here) .nil))⟩
def m_curve_Rate_1 (z2F : z1) (z2G : z1) : Option Int :=
 (m_rat_Cmp z2F.fRate z2G.fRate).bind fun zj6=>some zj6
set_option maxRecDepth 20000 in
theorem w_curve_Rate_1 (Z : Zp)   (z2F : z1) (z2G : z1) (r : Int) (w₀ : World) (hz : PZ [] w₀ Z)
  (h : m_curve_Rate_1 z2F z2G = some r) :
  Calls Try.prog 43 #[(.agg #[(.int .i64 z2F.fBurst.fN),(.int .i64 z2F.fBurst.fD),(.int .i64 z2F.fRate.fN),(.int .i64 z2F.fRate.fD)]),(.agg #[(.int .i64 z2G.fBurst.fN),(.int .i64 z2G.fBurst.fD),(.int .i64 z2G.fRate.fN),(.int .i64 z2G.fRate.fD)])] w₀ fun e w'=>e = .returned (.int .i64 r) ∧ Hp [] w₀ w' []:=by
 unfold m_curve_Rate_1 at h
 refine Calls.ofWC (vs:=[(.agg #[(.int .i64 z2F.fBurst.fN),(.int .i64 z2F.fBurst.fD),(.int .i64 z2F.fRate.fN),(.int .i64 z2F.fRate.fD)]),(.agg #[(.int .i64 z2G.fBurst.fN),(.int .i64 z2G.fBurst.fD),(.int .i64 z2G.fRate.fN),(.int .i64 z2G.fRate.fD)])]) (pre:=[]) (env:=[(0,(.agg #[(.int .i64 z2F.fBurst.fN),(.int .i64 z2F.fBurst.fD),(.int .i64 z2F.fRate.fN),(.int .i64 z2F.fRate.fD)])),(1,(.agg #[(.int .i64 z2G.fBurst.fN),(.int .i64 z2G.fBurst.fD),(.int .i64 z2G.fRate.fN),(.int .i64 z2G.fRate.fD)]))]) Try.func43 rfl Try.ntmps43 rfl (Hp.nil w₀ _) rfl ?_
 refine WC.seq ?_
 refine WC.region ?_
 refine WL.new (dd:=2) rfl rfl rfl (e_box (cs:=[(.int .i64 z2F.fBurst.fN),(.int .i64 z2F.fBurst.fD),(.int .i64 z2F.fRate.fN),(.int .i64 z2F.fRate.fD)]) rfl rfl) ?_
 intro zg3 _
 refine WL.new (dd:=3) rfl rfl rfl (e_box (cs:=[(.int .i64 z2G.fBurst.fN),(.int .i64 z2G.fBurst.fD),(.int .i64 z2G.fRate.fN),(.int .i64 z2G.fRate.fD)]) rfl rfl) ?_
 intro zg4 _
 refine WL.quiet (d:=4) rfl rfl rfl (q_assign rfl) ?_
 refine WL.nil ?_
 refine WX.then ?_
 refine WC.seq ?_
 obtain ⟨zj6,zsm,h⟩:=ze h
 refine WC.region ?_
 refine WL.quiet (d:=5) rfl rfl rfl (q_fieldAddr fo_35_1 rfl rfl) ?_
 refine WL.quiet (d:=6) rfl rfl rfl (q_loadA (cs:=[(.int .i64 z2F.fRate.fN),(.int .i64 z2F.fRate.fD)]) aggT_30 rfl rfl (rd_sub (s:=2) (.there .here) rfl)) ?_
 refine WL.quiet (d:=7) rfl rfl rfl (q_fieldAddr fo_35_1 rfl rfl) ?_
 refine WL.quiet (d:=8) rfl rfl rfl (q_loadA (cs:=[(.int .i64 z2G.fRate.fN),(.int .i64 z2G.fRate.fD)]) aggT_30 rfl rfl (rd_sub (s:=2) .here rfl)) ?_
 refine WL.callD (dd:=9) rfl rfl rfl (zn (l:=[.tmp 6,.tmp 8]) Try.call18 (.cons rfl (.cons rfl .nil))) (.nil : Sel [stb zg4 35 [(.int .i64 z2G.fBurst.fN),(.int .i64 z2G.fBurst.fD),(.int .i64 z2G.fRate.fN),(.int .i64 z2G.fRate.fD)],stb zg3 35 [(.int .i64 z2F.fBurst.fN),(.int .i64 z2F.fBurst.fD),(.int .i64 z2F.fRate.fN),(.int .i64 z2F.fRate.fD)]] [] [stb zg4 35 [(.int .i64 z2G.fBurst.fN),(.int .i64 z2G.fBurst.fD),(.int .i64 z2G.fRate.fN),(.int .i64 z2G.fRate.fD)],stb zg3 35 [(.int .i64 z2F.fBurst.fN),(.int .i64 z2F.fBurst.fD),(.int .i64 z2F.fRate.fN),(.int .i64 z2F.fRate.fD)]]) (fun w hw=>by have pz:=(hz.call hw (.nil : Sel [stb zg4 35 [(.int .i64 z2G.fBurst.fN),(.int .i64 z2G.fBurst.fD),(.int .i64 z2G.fRate.fN),(.int .i64 z2G.fRate.fD)],stb zg3 35 [(.int .i64 z2F.fBurst.fN),(.int .i64 z2F.fBurst.fD),(.int .i64 z2F.fRate.fN),(.int .i64 z2F.fRate.fD)]] [] [stb zg4 35 [(.int .i64 z2G.fBurst.fN),(.int .i64 z2G.fBurst.fD),(.int .i64 z2G.fRate.fN),(.int .i64 z2G.fRate.fD)],stb zg3 35 [(.int .i64 z2F.fBurst.fN),(.int .i64 z2F.fBurst.fD),(.int .i64 z2F.fRate.fN),(.int .i64 z2F.fRate.fD)]])); exact w_rat_Cmp (Z:=_)  (z21:=z2F.fRate) (z23:=z2G.fRate) (r:=zj6) w pz  zsm) ?_
 refine WL.quiet (d:=4) rfl rfl rfl (q_assign rfl) ?_
 refine WL.nil ?_
 refine WX.then ?_
 refine WC.ret ?_
 obtain rfl:=Option.some.inj h
 refine WX.bpRet Try.results43 (.tmp rfl .nil) (fun w hw=>?_)
 exact ⟨ret1 rfl,hw.sub .nil⟩
def m_slices_MinFunc_api_Curve_api_Bucket_L2 (z1c : List z1) (z8b : z1 → z1 → Option Int) (z9u : Int → Int → Int → Int → Option z1) : Nat → Int → Int → Int → Int → Int → Option z1
 | 0,_,_,_,_,_=>none
 | zj7 + 1,z24,z6m,z6n,z6o,z6p=>if decide (z24 < ((z1c.length : Nat) : Int)) then jp4 (fun (z9v : Int) (z9w : Int) (z9x : Int) (z9y : Int)=>m_slices_MinFunc_api_Curve_api_Bucket_L2 z1c z8b z9u zj7 (i64 (z24 + 1)) z9v z9w z9x z9y) fun zg5=>chk ((0 : Int) ≤ z24 ∧ z24 < ((z1c.length : Nat) : Int)) ((z8b (⟨(⟨(((nth z1c z24).fBurst).fN),(((nth z1c z24).fBurst).fD)⟩ : z2),(⟨(((nth z1c z24).fRate).fN),(((nth z1c z24).fRate).fD)⟩ : z2)⟩ : z1) (⟨(⟨z6m,z6n⟩ : z2),(⟨z6o,z6p⟩ : z2)⟩ : z1)).bind fun zj8=>if decide (zj8 < 0) then chk ((0 : Int) ≤ z24 ∧ z24 < ((z1c.length : Nat) : Int)) (zg5 (((nth z1c z24).fBurst).fN) (((nth z1c z24).fBurst).fD) (((nth z1c z24).fRate).fN) (((nth z1c z24).fRate).fD)) else zg5 z6m z6n z6o z6p) else z9u z6m z6n z6o z6p
theorem m_slices_MinFunc_api_Curve_api_Bucket_L2_fuel {n : Nat} {z1c : List z1} {z8b : z1 → z1 → Option Int} {z9u : Int → Int → Int → Int → Option z1} {z24 : Int} {z6m : Int} {z6n : Int} {z6o : Int} {z6p : Int} {r : z1} (h : m_slices_MinFunc_api_Curve_api_Bucket_L2 z1c z8b z9u n z24 z6m z6n z6o z6p = some r) : ∃ m,n = m + 1:=by
 cases n with
 | zero=>cases h
 | succ m=>exact ⟨m,rfl⟩
def m_slices_MinFunc_api_Curve_api_Bucket (z1c : List z1) (z8b : z1 → z1 → Option Int) : Option z1 :=
 if decide (((z1c.length : Nat) : Int) < 1) then none else chk ((0 : Int) ≤ 0 ∧ 0 < ((z1c.length : Nat) : Int)) (jp4 (fun (z8c : Int) (z8d : Int) (z8e : Int) (z8f : Int)=>some (⟨(⟨z8c,z8d⟩ : z2),(⟨z8e,z8f⟩ : z2)⟩ : z1)) fun z9u=>m_slices_MinFunc_api_Curve_api_Bucket_L2 z1c z8b z9u FUEL 1 (((nth z1c 0).fBurst).fN) (((nth z1c 0).fBurst).fD) (((nth z1c 0).fRate).fN) (((nth z1c 0).fRate).fD))
set_option maxRecDepth 20000 in
theorem w_slices_MinFunc_api_Curve_api_Bucket (Z : Zp)  (zbu : Option Addr) (zbv : Nat) (z8E : FuncId) (zal : List Value) (z1c : List z1) (z8b : z1 → z1 → Option Int) (r : z1) (w₀ : World) (hz : PZ [] w₀ Z)
  (zj9 : ZS Z 4 (fun r x=>r = e35 x) zbu zbv z1c)
  (zsn : ∀ args w,(callFunc z8E args).run Try.prog w = .ok (.enter z8E args) w)
  (zso : ∀ w : World,PZ [] w Z → ∀ (x0 : z1) (x1 : z1) (r : Int),z8b x0 x1 = some r → Calls Try.prog z8E (([(.agg #[(.int .i64 x0.fBurst.fN),(.int .i64 x0.fBurst.fD),(.int .i64 x0.fRate.fN),(.int .i64 x0.fRate.fD)]),(.agg #[(.int .i64 x1.fBurst.fN),(.int .i64 x1.fBurst.fD),(.int .i64 x1.fRate.fN),(.int .i64 x1.fRate.fD)])] : List Value) ++ zal).toArray w fun e w'=>e = .returned (.int .i64 r) ∧ Hp [] w w' [])
  (h : m_slices_MinFunc_api_Curve_api_Bucket z1c z8b = some r) :
  Calls Try.prog 42 #[(.slice zbu z1c.length zbv),(.func (.func z8E) #[] (zal).toArray)] w₀ fun e w'=>e = .returned (.agg #[(.int .i64 r.fBurst.fN),(.int .i64 r.fBurst.fD),(.int .i64 r.fRate.fN),(.int .i64 r.fRate.fD)]) ∧ Hp [] w₀ w' []:=by
 unfold m_slices_MinFunc_api_Curve_api_Bucket at h
 refine Calls.ofWC (vs:=[(.slice zbu z1c.length zbv),(.func (.func z8E) #[] (zal).toArray)]) (pre:=[]) (env:=[(0,(.slice zbu z1c.length zbv)),(1,(.func (.func z8E) #[] (zal).toArray))]) Try.func42 rfl Try.ntmps42 rfl (Hp.nil w₀ _) rfl ?_
 refine WC.seq ?_
 refine WC.region ?_
 refine WL.new (dd:=4) rfl rfl rfl (e_alloc (cs:=[(.int .i64 0),(.int .i64 0),(.int .i64 0),(.int .i64 0)]) zeroT_35 rfl) ?_
 intro zcX _
 refine WL.nil ?_
 refine WX.then ?_
 refine WC.seq ?_
 refine WC.seq ?_
 refine WC.region ?_
 refine WL.quiet (d:=7) rfl rfl rfl (q_move rfl) ?_
 refine WL.quiet (d:=8) rfl rfl rfl (q_len Try.underlying39 rfl) ?_
 refine WL.quiet (d:=9) rfl rfl rfl (q_lss rfl rfl) ?_
 refine WL.nil ?_
 refine WX.then ?_
 refine WC.cond rfl (fun zja=>?_) (fun zja=>?_)
 ·replace h:=ite_t h zja
  cases h
 ·replace h:=ite_f h zja
  refine WC.skip ?_
  refine WX.then ?_
  refine WC.seq ?_
  obtain ⟨zsp,h⟩:=chk_elim h
  refine WC.region ?_
  refine WL.quiet (d:=11) rfl rfl rfl (q_move rfl) ?_
  refine WL.znth (dd:=12) rfl rfl (Z:=Z) (Pr:=(fun r x=>r = e35 x)) elT_39 rfl rfl zj9 zsp ?_
  rintro zxN zxO zsq zxP rfl
  refine WL.quiet (d:=13) rfl rfl rfl (q_loadA (cs:=[(.int .i64 (((nth z1c 0).fBurst).fN)),(.int .i64 (((nth z1c 0).fBurst).fD)),(.int .i64 (((nth z1c 0).fRate).fN)),(.int .i64 (((nth z1c 0).fRate).fD))]) aggT_35 rfl rfl (rd_zs hz.pv zsq)) ?_
  refine WL.new (dd:=5) rfl rfl rfl (e_alloc (cs:=[(.int .i64 0),(.int .i64 0),(.int .i64 0),(.int .i64 0)]) zeroT_35 rfl) ?_
  intro zcY _
  refine WL.eff0 rfl rfl (e_store (vs:=[(.int .i64 (((nth z1c 0).fBurst).fN)),(.int .i64 (((nth z1c 0).fBurst).fD)),(.int .i64 (((nth z1c 0).fRate).fN)),(.int .i64 (((nth z1c 0).fRate).fD))]) (ds:=[(.int .i64 (((nth z1c 0).fBurst).fN)),(.int .i64 (((nth z1c 0).fBurst).fD)),(.int .i64 (((nth z1c 0).fRate).fN)),(.int .i64 (((nth z1c 0).fRate).fD))]) sizT_35 rfl rfl rfl rfl (oc_cons rfl (oc_cons rfl (oc_cons rfl (oc_cons rfl oc_nil)))) .here (Nat.le_of_ble_eq_true rfl) rfl) ?_
  refine WL.nil ?_
  refine WX.then ?_
  obtain ⟨z9u,zsr,h⟩:=jp4_elim h
  refine WC.seqMid4 (fun (z8c : Int) (z8d : Int) (z8e : Int) (z8f : Int)=>(z9u z8c z8d z8e z8f = some r)) (fun (z8c : Int) (z8d : Int) (z8e : Int) (z8f : Int)=>[(4,(.pointer (some ⟨zcX,0,none⟩))),(5,(.pointer (some ⟨zcY,0,none⟩)))]) (fun (z8c : Int) (z8d : Int) (z8e : Int) (z8f : Int)=>[stb zcX 35 [(.int .i64 0),(.int .i64 0),(.int .i64 0),(.int .i64 0)],stb zcY 35 [(.int .i64 z8c),(.int .i64 z8d),(.int .i64 z8e),(.int .i64 z8f)]]) ?_ ?_
  ·skip
   refine WC.seq ?_
   refine WC.region ?_
   refine WL.quiet (d:=6) rfl rfl rfl (q_assign rfl) ?_
   refine WL.nil ?_
   refine WX.then ?_
   refine WC.block ?_
   refine WC.loop6 (fun (zcZ : Nat) (z24 : Int) (z6m : Int) (z6n : Int) (z6o : Int) (z6p : Int)=>(m_slices_MinFunc_api_Curve_api_Bucket_L2 z1c z8b z9u zcZ z24 z6m z6n z6o z6p = some r)) (fun (zcZ : Nat) (z24 : Int) (z6m : Int) (z6n : Int) (z6o : Int) (z6p : Int)=>[(0,(.slice zbu z1c.length zbv)),(1,(.func (.func z8E) #[] (zal).toArray)),(4,(.pointer (some ⟨zcX,0,none⟩))),(5,(.pointer (some ⟨zcY,0,none⟩))),(6,(.int .i64 z24))]) (fun (zcZ : Nat) (z24 : Int) (z6m : Int) (z6n : Int) (z6o : Int) (z6p : Int)=>[stb zcX 35 [(.int .i64 0),(.int .i64 0),(.int .i64 0),(.int .i64 0)],stb zcY 35 [(.int .i64 z6m),(.int .i64 z6n),(.int .i64 z6o),(.int .i64 z6p)]]) (fun (zcZ : Nat) (z24 : Int) (z6m : Int) (z6n : Int) (z6o : Int) (z6p : Int)=>zcZ) ⟨FUEL,1,(((nth z1c 0).fBurst).fN),(((nth z1c 0).fBurst).fD),(((nth z1c 0).fRate).fN),(((nth z1c 0).fRate).fD)⟩ h (.cons rfl (.cons rfl (.cons rfl (.cons rfl (.cons rfl .nil))))) (.cons (.there .here) (.cons .here .nil)) ?_
   rintro zcZ z24 z6m z6n z6o z6p h
   obtain ⟨zj7,rfl⟩:=m_slices_MinFunc_api_Curve_api_Bucket_L2_fuel h
   rw [m_slices_MinFunc_api_Curve_api_Bucket_L2] at h
   refine WC.seq ?_
   refine WC.seq ?_
   refine WC.region ?_
   refine WL.quiet (d:=14) rfl rfl rfl (q_move rfl) ?_
   refine WL.quiet (d:=15) rfl rfl rfl (q_move rfl) ?_
   refine WL.quiet (d:=16) rfl rfl rfl (q_len Try.underlying39 rfl) ?_
   refine WL.quiet (d:=17) rfl rfl rfl (q_lss rfl rfl) ?_
   refine WL.nil ?_
   refine WX.then ?_
   refine WC.cond rfl (fun zjb=>?_) (fun zjb=>?_)
   ·replace h:=ite_t h zjb
    refine WC.skip ?_
    refine WX.then ?_
    obtain ⟨zg5,zss,h⟩:=jp4_elim h
    refine WC.seqMid4 (fun (z9v : Int) (z9w : Int) (z9x : Int) (z9y : Int)=>(zg5 z9v z9w z9x z9y = some r)) (fun (z9v : Int) (z9w : Int) (z9x : Int) (z9y : Int)=>[(0,(.slice zbu z1c.length zbv)),(1,(.func (.func z8E) #[] (zal).toArray)),(4,(.pointer (some ⟨zcX,0,none⟩))),(5,(.pointer (some ⟨zcY,0,none⟩))),(6,(.int .i64 z24))]) (fun (z9v : Int) (z9w : Int) (z9x : Int) (z9y : Int)=>[stb zcX 35 [(.int .i64 0),(.int .i64 0),(.int .i64 0),(.int .i64 0)],stb zcY 35 [(.int .i64 z9v),(.int .i64 z9w),(.int .i64 z9x),(.int .i64 z9y)]]) ?_ ?_
    ·skip
     refine WC.block ?_
     refine WC.seq ?_
     obtain ⟨zst,h⟩:=chk_elim h
     obtain ⟨zj8,zsu,h⟩:=ze h
     refine WC.draw (fun i=>[].contains i) [] rfl ?_
     refine WD.pure (i:=0) (d:=20) (by kernel_rfl) rfl (z6 (by kernel_rfl)) (z7 (by kernel_rfl)) rfl rfl rfl (fun _=>q_move rfl) ?_
     refine WD.pure (i:=1) (d:=21) (by kernel_rfl) rfl (z6 (by kernel_rfl)) (z7 (by kernel_rfl)) rfl rfl rfl (fun _=>q_move rfl) ?_
     refine WD.pure (i:=2) (d:=22) (by kernel_rfl) rfl (z6 (by kernel_rfl)) (z7 (by kernel_rfl)) rfl rfl rfl (fun _=>q_move rfl) ?_
     refine WD.znth (j:=3) (dd:=23) (by kernel_rfl) rfl (z6 (by kernel_rfl)) (z7 (by kernel_rfl)) rfl rfl (Z:=Z) (Pr:=(fun r x=>r = e35 x)) elT_39 rfl rfl zj9 zst ?_
     rintro zxQ zxR zsv zxS rfl
     refine WD.quiet (i:=4) (d:=24) (by kernel_rfl) rfl (z6 (by kernel_rfl)) (z7 (by kernel_rfl)) rfl rfl rfl (q_loadA (cs:=[(.int .i64 (((nth z1c z24).fBurst).fN)),(.int .i64 (((nth z1c z24).fBurst).fD)),(.int .i64 (((nth z1c z24).fRate).fN)),(.int .i64 (((nth z1c z24).fRate).fD))]) aggT_35 rfl rfl (rd_zs hz.pv zsv)) ?_
     refine WD.quiet (i:=5) (d:=25) (by kernel_rfl) rfl (z6 (by kernel_rfl)) (z7 (by kernel_rfl)) rfl rfl rfl (q_loadA (cs:=[(.int .i64 z6m),(.int .i64 z6n),(.int .i64 z6o),(.int .i64 z6p)]) aggT_35 rfl rfl (rd_all (.there .here))) ?_
     refine WD.enter (i:=6) (d:=26) (by kernel_rfl) rfl (z6 (by kernel_rfl)) (z7 (by kernel_rfl)) rfl rfl rfl (run_callv (l:=[.tmp 24,.tmp 25]) (f:=z8E) (caps:=zal) zsn rfl (.cons rfl (.cons rfl .nil))) (fun w hw=>zso w (hz.now hw) (⟨(⟨(((nth z1c z24).fBurst).fN),(((nth z1c z24).fBurst).fD)⟩ : z2),(⟨(((nth z1c z24).fRate).fN),(((nth z1c z24).fRate).fD)⟩ : z2)⟩ : z1) (⟨(⟨z6m,z6n⟩ : z2),(⟨z6o,z6p⟩ : z2)⟩ : z1) zj8  zsu) ?_
     refine WD.pure (i:=7) (d:=27) (by kernel_rfl) rfl (z6 (by kernel_rfl)) (z7 (by kernel_rfl)) rfl rfl rfl (fun _=>q_lss rfl rfl) ?_
     refine WD.done (by kernel_rfl) ?_
     refine WX.then ?_
     refine WC.cond rfl (fun zjc=>?_) (fun zjc=>?_)
     ·replace h:=ite_t h zjc
      obtain ⟨zsw,h⟩:=chk_elim h
      refine WC.region ?_
      refine WL.quiet (d:=28) rfl rfl rfl (q_move rfl) ?_
      refine WL.quiet (d:=29) rfl rfl rfl (q_move rfl) ?_
      refine WL.znth (dd:=30) rfl rfl (Z:=Z) (Pr:=(fun r x=>r = e35 x)) elT_39 rfl rfl zj9 zsw ?_
      rintro zxT zxU zsx zxV rfl
      refine WL.quiet (d:=31) rfl rfl rfl (q_loadA (cs:=[(.int .i64 (((nth z1c z24).fBurst).fN)),(.int .i64 (((nth z1c z24).fBurst).fD)),(.int .i64 (((nth z1c z24).fRate).fN)),(.int .i64 (((nth z1c z24).fRate).fD))]) aggT_35 rfl rfl (rd_zs hz.pv zsx)) ?_
      refine WL.eff0 rfl rfl (e_store (vs:=[(.int .i64 (((nth z1c z24).fBurst).fN)),(.int .i64 (((nth z1c z24).fBurst).fD)),(.int .i64 (((nth z1c z24).fRate).fN)),(.int .i64 (((nth z1c z24).fRate).fD))]) (ds:=[(.int .i64 (((nth z1c z24).fBurst).fN)),(.int .i64 (((nth z1c z24).fBurst).fD)),(.int .i64 (((nth z1c z24).fRate).fN)),(.int .i64 (((nth z1c z24).fRate).fD))]) sizT_35 rfl rfl rfl rfl (oc_cons rfl (oc_cons rfl (oc_cons rfl (oc_cons rfl oc_nil)))) (.there .here) (Nat.le_of_ble_eq_true rfl) rfl) ?_
      refine WL.nil ?_
      refine WX.blockNormal ?_
      exact WX.mid (G:=Int × Int × Int × Int) ⟨(((nth z1c z24).fBurst).fN),(((nth z1c z24).fBurst).fD),(((nth z1c z24).fRate).fN),(((nth z1c z24).fRate).fD)⟩ h (.cons rfl (.cons rfl (.cons rfl (.cons rfl (.cons rfl .nil))))) (.cons (.there .here) (.cons .here .nil))
     ·replace h:=ite_f h zjc
      refine WC.skip ?_
      refine WX.blockNormal ?_
      exact WX.mid (G:=Int × Int × Int × Int) ⟨z6m,z6n,z6o,z6p⟩ h (.cons rfl (.cons rfl (.cons rfl (.cons rfl (.cons rfl .nil))))) (.cons .here (.cons .here .nil))
    ·rintro z9v z9w z9x z9y h
     replace h:=(zss z9v z9w z9x z9y).symm.trans h
     refine WC.region ?_
     refine WL.quiet (d:=18) rfl rfl rfl (q_move rfl) ?_
     refine WL.quiet (d:=19) rfl rfl rfl (q_add rfl rfl rfl) ?_
     refine WL.quiet (d:=6) rfl rfl rfl (q_assign rfl) ?_
     refine WL.nil ?_
     exact WX.round (G:=Nat × Int × Int × Int × Int × Int) ⟨zj7,(i64 (z24 + 1)),z9v,z9w,z9x,z9y⟩ h (Nat.lt_succ_self _) (.cons rfl (.cons rfl (.cons rfl (.cons rfl (.cons rfl .nil))))) (.cons .here (.cons .here .nil))
   ·replace h:=ite_f h zjb
    refine WC.exit ?_
    refine WX.thenExit ?_
    refine WX.thenExit ?_
    refine WX.blockHit ?_
    exact WX.mid (G:=Int × Int × Int × Int) ⟨z6m,z6n,z6o,z6p⟩ h (.cons rfl (.cons rfl .nil)) (.cons .here (.cons .here .nil))
  ·rintro z8c z8d z8e z8f h
   replace h:=(zsr z8c z8d z8e z8f).symm.trans h
   refine WC.seq ?_
   refine WC.region ?_
   refine WL.quiet (d:=32) rfl rfl rfl (q_loadA (cs:=[(.int .i64 z8c),(.int .i64 z8d),(.int .i64 z8e),(.int .i64 z8f)]) aggT_35 rfl rfl (rd_all (.there .here))) ?_
   refine WL.eff0 rfl rfl (e_store (vs:=[(.int .i64 z8c),(.int .i64 z8d),(.int .i64 z8e),(.int .i64 z8f)]) (ds:=[(.int .i64 z8c),(.int .i64 z8d),(.int .i64 z8e),(.int .i64 z8f)]) sizT_35 rfl rfl rfl rfl (oc_cons rfl (oc_cons rfl (oc_cons rfl (oc_cons rfl oc_nil)))) .here (Nat.le_of_ble_eq_true rfl) rfl) ?_
   refine WL.nil ?_
   refine WX.then ?_
   refine WC.ret ?_
   obtain rfl:=Option.some.inj h
   refine WX.bpRet Try.results42 (.agg rfl aggT_35 rfl (rd_all .here) .nil) (fun w hw=>?_)
   exact ⟨ret1 rfl,hw.sub .nil⟩
def m_curve_Rate (z7D : List z1) : Option (z2 × Int) :=
 (m_curve_Valid z7D).bind fun zjd=>if !zjd then some ((⟨0,0⟩ : z2),2) else (m_slices_MinFunc_api_Curve_api_Bucket z7D (fun (y0 : z1) (y1 : z1)=>m_curve_Rate_1 y0 y1)).bind fun z9z=>some (z9z.fRate,0)
set_option maxRecDepth 20000 in
theorem w_curve_Rate (Z : Zp)  (zam : Option Addr) (zan : Nat) (z7D : List z1) (r : z2 × Int) (w₀ : World) (hz : PZ [] w₀ Z)
  (znH : ZS Z 4 (fun r x=>r = e35 x) zam zan z7D)
  (h : m_curve_Rate z7D = some r) :
  Calls Try.prog 21 #[(.slice zam z7D.length zan)] w₀ fun e w'=>e = .returned (.tuple #[(.agg #[(.int .i64 r.1.fN),(.int .i64 r.1.fD)]),(.int .i64 r.2)]) ∧ Hp [] w₀ w' []:=by
 unfold m_curve_Rate at h
 refine Calls.ofWC (vs:=[(.slice zam z7D.length zan)]) (pre:=[]) (env:=[(0,(.slice zam z7D.length zan))]) Try.func21 rfl Try.ntmps21 rfl (Hp.nil w₀ _) rfl ?_
 refine WC.seq ?_
 refine WC.region ?_
 refine WL.new (dd:=2) rfl rfl rfl (e_alloc (cs:=[(.int .i64 0),(.int .i64 0)]) zeroT_30 rfl) ?_
 intro zao _
 refine WL.quiet (d:=3) rfl rfl rfl (q_assign rfl) ?_
 refine WL.nil ?_
 refine WX.then ?_
 refine WC.seq ?_
 refine WC.seq ?_
 obtain ⟨zjd,zsy,h⟩:=ze h
 refine WC.region ?_
 refine WL.quiet (d:=4) rfl rfl rfl (q_move rfl) ?_
 refine WL.callD (dd:=5) rfl rfl rfl (zn (l:=[.tmp 4]) Try.call30 (.cons rfl .nil)) (.nil : Sel [stb zao 30 [(.int .i64 0),(.int .i64 0)]] [] [stb zao 30 [(.int .i64 0),(.int .i64 0)]]) (fun w hw=>by have pz:=(hz.call hw (.nil : Sel [stb zao 30 [(.int .i64 0),(.int .i64 0)]] [] [stb zao 30 [(.int .i64 0),(.int .i64 0)]])); exact w_curve_Valid (Z:=_) (z82:=zam) (z83:=zan) (z4P:=z7D) (r:=zjd) w pz znH zsy) ?_
 refine WL.quiet (d:=6) rfl rfl rfl (q_not rfl) ?_
 refine WL.nil ?_
 refine WX.then ?_
 refine WC.cond rfl (fun zje=>?_) (fun zje=>?_)
 ·replace h:=ite_t h zje
  refine WC.seq ?_
  refine WC.region ?_
  refine WL.quiet (d:=7) rfl rfl rfl (q_build (v:=(.agg #[(.int .i64 0),(.int .i64 0)])) (Eos.parts (l:=[]) .nil []) (fun _=>by kernel_rfl)) ?_
  refine WL.eff0 rfl rfl (e_store (vs:=[(.int .i64 0),(.int .i64 0)]) (ds:=[(.int .i64 0),(.int .i64 0)]) sizT_30 rfl rfl rfl rfl (oc_cons rfl (oc_cons rfl oc_nil)) .here (Nat.le_of_ble_eq_true rfl) rfl) ?_
  refine WL.quiet (d:=3) rfl rfl rfl (q_assign rfl) ?_
  refine WL.nil ?_
  refine WX.then ?_
  refine WC.ret ?_
  refine WX.thenRet ?_
  obtain rfl:=Option.some.inj h
  refine WX.bpRet Try.results21 (.agg rfl aggT_30 rfl (rd_all .here) (.tmp rfl .nil)) (fun w hw=>?_)
  exact ⟨ret2 rfl rfl,hw.sub .nil⟩
 ·replace h:=ite_f h zje
  refine WC.skip ?_
  refine WX.then ?_
  refine WC.seq ?_
  obtain ⟨z9z,zsz,h⟩:=ze h
  refine WC.region ?_
  refine WL.quiet (d:=8) rfl rfl rfl (q_move rfl) ?_
  refine WL.callD (dd:=9) rfl rfl rfl (zn (l:=[.tmp 8,.func 43]) Try.call42 (.cons rfl (.cons rfl .nil))) (.nil : Sel [stb zao 30 [(.int .i64 0),(.int .i64 0)]] [] [stb zao 30 [(.int .i64 0),(.int .i64 0)]]) (fun w hw=>by have pz:=(hz.call hw (.nil : Sel [stb zao 30 [(.int .i64 0),(.int .i64 0)]] [] [stb zao 30 [(.int .i64 0),(.int .i64 0)]])); exact w_slices_MinFunc_api_Curve_api_Bucket (Z:=_) (zbu:=zam) (zbv:=zan) (z8E:=43) (zal:=[]) (z1c:=z7D) (z8b:=(fun (y0 : z1) (y1 : z1)=>m_curve_Rate_1 y0 y1)) (r:=z9z) w pz znH Try.call43 (fun w' hz' y0 y1  r  hr=>w_curve_Rate_1 (Z:=_)  (z2F:=y0) (z2G:=y1) (r:=r) w' hz'  hr) zsz) ?_
  refine WL.quiet (d:=10) rfl rfl rfl (q_fieldA (cs':=#[(.int .i64 z9z.fRate.fN),(.int .i64 z9z.fRate.fD)]) fldT_35_1 aggT_30 rfl rfl) ?_
  refine WL.eff0 rfl rfl (e_store (vs:=[(.int .i64 z9z.fRate.fN),(.int .i64 z9z.fRate.fD)]) (ds:=[(.int .i64 z9z.fRate.fN),(.int .i64 z9z.fRate.fD)]) sizT_30 rfl rfl rfl rfl (oc_cons rfl (oc_cons rfl oc_nil)) .here (Nat.le_of_ble_eq_true rfl) rfl) ?_
  refine WL.quiet (d:=3) rfl rfl rfl (q_assign rfl) ?_
  refine WL.nil ?_
  refine WX.then ?_
  refine WC.ret ?_
  obtain rfl:=Option.some.inj h
  refine WX.bpRet Try.results21 (.agg rfl aggT_30 rfl (rd_all .here) (.tmp rfl .nil)) (fun w hw=>?_)
  exact ⟨ret2 rfl rfl,hw.sub .nil⟩
def m_rat_do_1 (zap : z2) (zaq : z2) : Option (Int × Int) :=
 some ((i64 ((i64 (zap.fN * zaq.fD)) + (i64 (zaq.fN * zap.fD)))),(i64 (zap.fD * zaq.fD)))
set_option maxRecDepth 20000 in
theorem w_rat_do_1 (Z : Zp)  (zeh : Addr) (zei : Addr) (zap : z2) (zaq : z2) (r : Int × Int) (w₀ : World) (hz : PZ [] w₀ Z)
  (zjf : ZC Z zeh [(.int .i64 zap.fN),(.int .i64 zap.fD)])
  (zjg : ZC Z zei [(.int .i64 zaq.fN),(.int .i64 zaq.fD)])
  (h : m_rat_do_1 zap zaq = some r) :
  Calls Try.prog 54 #[(.pointer (some zeh)),(.pointer (some zei))] w₀ fun e w'=>e = .returned (.tuple #[(.int .i64 r.1),(.int .i64 r.2)]) ∧ Hp [] w₀ w' []:=by
 unfold m_rat_do_1 at h
 refine Calls.ofWC (vs:=[(.pointer (some zeh)),(.pointer (some zei))]) (pre:=[]) (env:=[(0,(.pointer (some zeh))),(1,(.pointer (some zei)))]) Try.func54 rfl Try.ntmps54 rfl (Hp.nil w₀ _) rfl ?_
 refine WC.seq ?_
 refine WC.region ?_
 refine WL.quiet (d:=2) rfl rfl rfl (q_assign rfl) ?_
 refine WL.quiet (d:=3) rfl rfl rfl (q_assign rfl) ?_
 refine WL.nil ?_
 refine WX.then ?_
 refine WC.seq ?_
 refine WC.draw (fun i=>[].contains i) [] rfl ?_
 refine WD.pure (i:=0) (d:=4) (by kernel_rfl) rfl (z6 (by kernel_rfl)) (z7 (by kernel_rfl)) rfl rfl rfl (fun _=>q_fieldAddr fo_30_0 rfl rfl) ?_
 refine WD.quiet (i:=1) (d:=5) (by kernel_rfl) rfl (z6 (by kernel_rfl)) (z7 (by kernel_rfl)) rfl rfl rfl (q_load1 oneT_3 rfl (rd_zAt hz.pv zjf rfl)) ?_
 refine WD.pure (i:=2) (d:=6) (by kernel_rfl) rfl (z6 (by kernel_rfl)) (z7 (by kernel_rfl)) rfl rfl rfl (fun _=>q_fieldAddr fo_30_1 rfl rfl) ?_
 refine WD.quiet (i:=3) (d:=7) (by kernel_rfl) rfl (z6 (by kernel_rfl)) (z7 (by kernel_rfl)) rfl rfl rfl (q_load1 oneT_3 rfl (rd_zAt hz.pv zjg rfl)) ?_
 refine WD.pure (i:=4) (d:=8) (by kernel_rfl) rfl (z6 (by kernel_rfl)) (z7 (by kernel_rfl)) rfl rfl rfl (fun _=>q_mul rfl rfl rfl) ?_
 refine WD.pure (i:=5) (d:=9) (by kernel_rfl) rfl (z6 (by kernel_rfl)) (z7 (by kernel_rfl)) rfl rfl rfl (fun _=>q_fieldAddr fo_30_0 rfl rfl) ?_
 refine WD.quiet (i:=6) (d:=10) (by kernel_rfl) rfl (z6 (by kernel_rfl)) (z7 (by kernel_rfl)) rfl rfl rfl (q_load1 oneT_3 rfl (rd_zAt hz.pv zjg rfl)) ?_
 refine WD.pure (i:=7) (d:=11) (by kernel_rfl) rfl (z6 (by kernel_rfl)) (z7 (by kernel_rfl)) rfl rfl rfl (fun _=>q_fieldAddr fo_30_1 rfl rfl) ?_
 refine WD.quiet (i:=8) (d:=12) (by kernel_rfl) rfl (z6 (by kernel_rfl)) (z7 (by kernel_rfl)) rfl rfl rfl (q_load1 oneT_3 rfl (rd_zAt hz.pv zjf rfl)) ?_
 refine WD.pure (i:=9) (d:=13) (by kernel_rfl) rfl (z6 (by kernel_rfl)) (z7 (by kernel_rfl)) rfl rfl rfl (fun _=>q_mul rfl rfl rfl) ?_
 refine WD.pure (i:=10) (d:=14) (by kernel_rfl) rfl (z6 (by kernel_rfl)) (z7 (by kernel_rfl)) rfl rfl rfl (fun _=>q_add rfl rfl rfl) ?_
 refine WD.pure (i:=11) (d:=15) (by kernel_rfl) rfl (z6 (by kernel_rfl)) (z7 (by kernel_rfl)) rfl rfl rfl (fun _=>q_fieldAddr fo_30_1 rfl rfl) ?_
 refine WD.quiet (i:=12) (d:=16) (by kernel_rfl) rfl (z6 (by kernel_rfl)) (z7 (by kernel_rfl)) rfl rfl rfl (q_load1 oneT_3 rfl (rd_zAt hz.pv zjf rfl)) ?_
 refine WD.pure (i:=13) (d:=17) (by kernel_rfl) rfl (z6 (by kernel_rfl)) (z7 (by kernel_rfl)) rfl rfl rfl (fun _=>q_fieldAddr fo_30_1 rfl rfl) ?_
 refine WD.quiet (i:=14) (d:=18) (by kernel_rfl) rfl (z6 (by kernel_rfl)) (z7 (by kernel_rfl)) rfl rfl rfl (q_load1 oneT_3 rfl (rd_zAt hz.pv zjg rfl)) ?_
 refine WD.pure (i:=15) (d:=19) (by kernel_rfl) rfl (z6 (by kernel_rfl)) (z7 (by kernel_rfl)) rfl rfl rfl (fun _=>q_mul rfl rfl rfl) ?_
 refine WD.pure (i:=16) (d:=2) (by kernel_rfl) rfl (z6 (by kernel_rfl)) (z7 (by kernel_rfl)) rfl rfl rfl (fun _=>q_assign rfl) ?_
 refine WD.pure (i:=17) (d:=3) (by kernel_rfl) rfl (z6 (by kernel_rfl)) (z7 (by kernel_rfl)) rfl rfl rfl (fun _=>q_assign rfl) ?_
 refine WD.done (by kernel_rfl) ?_
 refine WX.then ?_
 refine WC.ret ?_
 obtain rfl:=Option.some.inj h
 refine WX.bpRet Try.results54 (.tmp rfl (.tmp rfl .nil)) (fun w hw=>?_)
 exact ⟨ret2 rfl rfl,hw.sub .nil⟩
end Go.Proofs.Ytakfmdiiehcbdaa
