/- A part of this claim's proof: models of functions, walks, plain laws. No conditions. -/
import Derived.Test.YtakfmdiiehcbdaaGreatW03Zd
namespace Go.Proofs.YtakfmdiiehcbdaaGreat
open Go Go.RowKit Sep
set_option linter.all false
set_option maxRecDepth 30000
set_option maxHeartbeats 4000000
def m_calculus_search_maxb_R4 (z6K : List (List z1)) (z5X : S41) (z3j : z2) (z2g : List z2) (z9d : Int) : Option (Bool × (Nat × List z2 × Int)) :=
 (m_calculus_Backlog_1 (⟨z9d⟩ : z2c) z3j z6K z5X).bind fun z3s=>(if decide (((z2g.length : Nat) : Int) = 0) then some true else chk ((0 : Int) ≤ 0 ∧ 0 < ((z2g.length : Nat) : Int)) ((m_rat_Cmp z3s.1 (⟨((nth z2g 0).fN),((nth z2g 0).fD)⟩ : z2)).bind fun zmB=>some (decide (zmB > 0)))).bind fun zmC=>if zmC then some (true,(0,([z3s.1] : List z2),z3s.2.fE)) else some (true,(0,z2g,z3s.2.fE))
def m_calculus_search_maxb (z1w : List (List z1)) (zn : S41) (z6K : List (List z1)) (z5X : S41) (z1x : List z2) : Option (z2 × Int) :=
 (m_calculus_search_checkb z1w zn z6K z5X z1x).bind fun zeL=>if decide (zeL ≠ 0) then some ((⟨0,0⟩ : z2),zeL) else jp2 (fun (z9N : Int) (z6r : List z2)=>if decide (z9N ≠ 0) then some ((⟨0,0⟩ : z2),z9N) else chk ((0 : Int) ≤ 0 ∧ 0 < ((z6r.length : Nat) : Int)) (some ((⟨((nth z6r 0).fN),((nth z6r 0).fD)⟩ : z2),0))) fun zmD=>(m_calculus_search_pointsb z1w zn z6K z5X z1x).bind fun z1c=>(m_calculus_search_points_1b (Nat × List z2 × Int) (fun (x : z2) (s : Nat × List z2 × Int)=>chk (s.1 = 0) (m_calculus_search_maxb_R4 z6K z5X x s.2.1 s.2.2)) (0,([] : List z2),0) z1w (⟨(⟨z1c.1,z1c.2.1⟩ : z2),(⟨z1c.2.2.1,z1c.2.2.2⟩ : z2)⟩ : S41) z6K z5X z1x).bind fun z5Y=>zmD z5Y.2.2 z5Y.2.1
set_option maxRecDepth 20000 in
theorem w_calculus_search_maxb (Z : Zp)  (z1O : Option Addr) (z1P : Nat) (z1F : Addr) (zdo : Option Addr) (zdp : Nat) (z1G : Addr) (z1Q : Option Addr) (z1R : Nat) (z1w : List (List z1)) (zn : S41) (z6K : List (List z1)) (z5X : S41) (z1x : List z2) (r : z2 × Int) (w₀ : World) (hz : PZ [] w₀ Z)
  (zmE : ZS Z 1 (p23 Z) z1O z1P z1w)
  (zis : ZS Z 1 (p23 Z) zdo zdp z6K)
  (zit : ZC Z z1F [(.slice zdo z6K.length zdp)])
  (ziu : ZC Z z1G [(.int .i64 z5X.fRate.fN),(.int .i64 z5X.fRate.fD),(.int .i64 z5X.fLatency.fN),(.int .i64 z5X.fLatency.fD)])
  (zmF : ZS Z 2 (fun r x=>r = e40 x) z1Q z1R z1x)
  (h : m_calculus_search_maxb z1w zn z6K z5X z1x = some r) :
  Calls Tryz.prog 35 #[(.agg #[(.slice z1O z1w.length z1P),(.int .i64 zn.fRate.fN),(.int .i64 zn.fRate.fD),(.int .i64 zn.fLatency.fN),(.int .i64 zn.fLatency.fD),(.func (.func 38) #[] #[(.pointer (some z1F)),(.pointer (some z1G))]),(.slice z1Q z1x.length z1R)])] w₀ fun e w'=>∃ Zn : Zp,e = .returned (.tuple #[(.agg #[(.int .i64 r.1.fN),(.int .i64 r.1.fD)]),(.int .i64 r.2)]) ∧ True ∧ Hp [] w₀ w' [fz Zn]:=by
 unfold m_calculus_search_maxb at h
 refine Calls.ofWCM (vs:=[(.agg #[(.slice z1O z1w.length z1P),(.int .i64 zn.fRate.fN),(.int .i64 zn.fRate.fD),(.int .i64 zn.fLatency.fN),(.int .i64 zn.fLatency.fD),(.func (.func 38) #[] #[(.pointer (some z1F)),(.pointer (some z1G))]),(.slice z1Q z1x.length z1R)])]) (pre:=[]) (env:=[(0,(.agg #[(.slice z1O z1w.length z1P),(.int .i64 zn.fRate.fN),(.int .i64 zn.fRate.fD),(.int .i64 zn.fLatency.fN),(.int .i64 zn.fLatency.fD),(.func (.func 38) #[] #[(.pointer (some z1F)),(.pointer (some z1G))]),(.slice z1Q z1x.length z1R)]))]) Tryz.func35 rfl Tryz.ntmps35 rfl (Hp.nil w₀ _) rfl ?_
 refine WC.pool ?_
 refine WC.b ?_
 refine WC.a ?_
 refine WL.new (dd:=1) rfl rfl rfl (e_box (cs:=[(.slice z1O z1w.length z1P),(.int .i64 zn.fRate.fN),(.int .i64 zn.fRate.fD),(.int .i64 zn.fLatency.fN),(.int .i64 zn.fLatency.fD),(.func (.func 38) #[] #[(.pointer (some z1F)),(.pointer (some z1G))]),(.slice z1Q z1x.length z1R)]) rfl rfl) ?_
 intro z30 _
 refine WL.new (dd:=2) rfl rfl rfl (e_alloc (cs:=[(.int .i64 0),(.int .i64 0)]) zeroT_40 rfl) ?_
 intro z34 _
 refine WL.a (d:=3) rfl rfl rfl (q_z rfl) ?_
 refine WL.nil ?_
 refine WX.a ?_
 refine WC.b ?_
 refine WC.b ?_
 obtain ⟨zeL,zz9,h⟩:=z8 h
 refine WC.a ?_
 refine WL.a (d:=9) rfl rfl rfl (q_loadA (cs:=[(.slice z1O z1w.length z1P),(.int .i64 zn.fRate.fN),(.int .i64 zn.fRate.fD),(.int .i64 zn.fLatency.fN),(.int .i64 zn.fLatency.fD),(.func (.func 38) #[] #[(.pointer (some z1F)),(.pointer (some z1G))]),(.slice z1Q z1x.length z1R)]) aggT_67 rfl rfl (rd_all .h1)) ?_
 refine WL.enter1 (dd:=10) rfl rfl rfl (zi (l:=[.tmp 9]) Tryz.call54 (.cons rfl .nil)) (.nil : Sel [stb z34 40 [(.int .i64 0),(.int .i64 0)],stb z30 67 [(.slice z1O z1w.length z1P),(.int .i64 zn.fRate.fN),(.int .i64 zn.fRate.fD),(.int .i64 zn.fLatency.fN),(.int .i64 zn.fLatency.fD),(.func (.func 38) #[] #[(.pointer (some z1F)),(.pointer (some z1G))]),(.slice z1Q z1x.length z1R)],fz []] [] [stb z34 40 [(.int .i64 0),(.int .i64 0)],stb z30 67 [(.slice z1O z1w.length z1P),(.int .i64 zn.fRate.fN),(.int .i64 zn.fRate.fD),(.int .i64 zn.fLatency.fN),(.int .i64 zn.fLatency.fD),(.func (.func 38) #[] #[(.pointer (some z1F)),(.pointer (some z1G))]),(.slice z1Q z1x.length z1R)],fz []]) (fun w hw=>by have pz:=(hz.call2 hw (.nil : Sel [stb z34 40 [(.int .i64 0),(.int .i64 0)],stb z30 67 [(.slice z1O z1w.length z1P),(.int .i64 zn.fRate.fN),(.int .i64 zn.fRate.fD),(.int .i64 zn.fLatency.fN),(.int .i64 zn.fLatency.fD),(.func (.func 38) #[] #[(.pointer (some z1F)),(.pointer (some z1G))]),(.slice z1Q z1x.length z1R)],fz []] [] [stb z34 40 [(.int .i64 0),(.int .i64 0)],stb z30 67 [(.slice z1O z1w.length z1P),(.int .i64 zn.fRate.fN),(.int .i64 zn.fRate.fD),(.int .i64 zn.fLatency.fN),(.int .i64 zn.fLatency.fD),(.func (.func 38) #[] #[(.pointer (some z1F)),(.pointer (some z1G))]),(.slice z1Q z1x.length z1R)],fz []]) .h2); exact w_calculus_search_checkb (Z:=_) (z2r:=z1O) (z2s:=z1P) (z2F:=z1F) (zm7:=zdo) (zm8:=zdp) (z2G:=z1G) (z2H:=z1Q) (z2I:=z1R) (z1N:=z1w) (zl:=zn) (zg9:=z6K) (zda:=z5X) (z2q:=z1x) (r:=zeL) w pz ((zmE.mono (Zle.left _ _)).weak (fun _ _ h=>p23_mono (Zle.left _ _) h)) ((zis.mono (Zle.left _ _)).weak (fun _ _ h=>p23_mono (Zle.left _ _) h)) (zit.mono (Zle.left _ _)) (ziu.mono (Zle.left _ _)) (zmF.mono (Zle.left _ _)) zz9) ?_
 rintro z5Z _
 refine WL.merge .here .h2 ?_
 refine WL.a (d:=4) rfl rfl rfl (q_z rfl) ?_
 refine WL.nil ?_
 refine WX.a ?_
 refine WC.b ?_
 refine WC.a ?_
 refine WL.a (d:=11) rfl rfl rfl (q_m rfl) ?_
 refine WL.a (d:=12) rfl rfl rfl (q_neq rfl rfl) ?_
 refine WL.nil ?_
 refine WX.a ?_
 refine WC.cond rfl (fun zmG=>?_) (fun zmG=>?_)
 ·replace h:=ite_t h zmG
  refine WC.b ?_
  refine WC.a ?_
  refine WL.a (d:=13) rfl rfl rfl (q_build (v:=(.agg #[(.int .i64 0),(.int .i64 0)])) (Eos.parts (l:=[]) .nil []) (fun _=>by kernel_rfl)) ?_
  refine WL.a (d:=14) rfl rfl rfl (q_m rfl) ?_
  refine WL.eff0 rfl rfl (e_store (vs:=[(.int .i64 0),(.int .i64 0)]) (ds:=[(.int .i64 0),(.int .i64 0)]) sizT_40 rfl rfl rfl rfl (oc_cons rfl (oc_cons rfl oc_nil)) .h1 (Nat.le_of_ble_eq_true rfl) rfl) ?_
  refine WL.a (d:=3) rfl rfl rfl (q_z rfl) ?_
  refine WL.nil ?_
  refine WX.a ?_
  refine WC.ret ?_
  refine WX.thenRet ?_
  obtain rfl:=Option.some.inj h
  refine WX.bpRetM Tryz.results35 (.agg rfl aggT_40 rfl (rd_all .here) (.tmp rfl .nil)) (fun w hw=>?_)
  exact ⟨([] ++ z5Z),ret2 rfl rfl,trivial,hw.sub (.cons .h1 .nil)⟩
 ·replace h:=ite_f h zmG
  refine WC.skip ?_
  refine WX.a ?_
  refine WC.b ?_
  refine WC.a ?_
  refine WL.new (dd:=5) rfl rfl rfl (e_alloc (cs:=[(.int .i64 0)]) zeroT_87 rfl) ?_
  intro z35 _
  refine WL.nil ?_
  refine WX.a ?_
  refine WC.b ?_
  refine WC.a ?_
  refine WL.new (dd:=6) rfl rfl rfl (e_alloc (cs:=[(.slice none 0 0)]) zeroT_65 rfl) ?_
  intro z3d _
  refine WL.nil ?_
  refine WX.a ?_
  obtain ⟨zmD,zza,h⟩:=jp2_elim h
  refine WC.seqMidR6 (fun (zgn : Nat) (z9N : Int) (z6r : List z2) (zdq : Zp) (zgo : Option Addr) (zgp : Nat)=>(zmD z9N z6r = some r) ∧ (Zle (Z ++ ([] ++ z5Z)) (Z ++ zdq))) (fun (zgn : Nat) (z9N : Int) (z6r : List z2) (zdq : Zp) (zgo : Option Addr) (zgp : Nat)=>[(2,(.pointer (some ⟨z34,0,none⟩))),(5,(.pointer (some ⟨z35,0,none⟩))),(6,(.pointer (some ⟨z3d,0,none⟩)))]) (fun (zgn : Nat) (z9N : Int) (z6r : List z2) (zdq : Zp) (zgo : Option Addr) (zgp : Nat)=>[fz zdq,stb z34 40 [(.int .i64 0),(.int .i64 0)],stb z35 87 [(.int .i64 z9N)],stb z3d 65 [(.slice zgo z6r.length zgp)],row (.slice zgo z6r.length zgp) 40 2 (z6r.flatMap e40),dfr zgn]) ?_ ?_
  ·skip
   refine WC.b ?_
   obtain ⟨z1c,zzb,h⟩:=z8 h
   refine WC.a ?_
   refine WL.a (d:=15) rfl rfl rfl (q_loadA (cs:=[(.slice z1O z1w.length z1P),(.int .i64 zn.fRate.fN),(.int .i64 zn.fRate.fD),(.int .i64 zn.fLatency.fN),(.int .i64 zn.fLatency.fD),(.func (.func 38) #[] #[(.pointer (some z1F)),(.pointer (some z1G))]),(.slice z1Q z1x.length z1R)]) aggT_67 rfl rfl (rd_all .h4)) ?_
   refine WL.enter1 (dd:=16) rfl rfl rfl (zi (l:=[.tmp 15]) Tryz.call55 (.cons rfl .nil)) (.nil : Sel [stb z3d 65 [(.slice none 0 0)],stb z35 87 [(.int .i64 0)],fz ([] ++ z5Z),stb z34 40 [(.int .i64 0),(.int .i64 0)],stb z30 67 [(.slice z1O z1w.length z1P),(.int .i64 zn.fRate.fN),(.int .i64 zn.fRate.fD),(.int .i64 zn.fLatency.fN),(.int .i64 zn.fLatency.fD),(.func (.func 38) #[] #[(.pointer (some z1F)),(.pointer (some z1G))]),(.slice z1Q z1x.length z1R)]] [] [stb z3d 65 [(.slice none 0 0)],stb z35 87 [(.int .i64 0)],fz ([] ++ z5Z),stb z34 40 [(.int .i64 0),(.int .i64 0)],stb z30 67 [(.slice z1O z1w.length z1P),(.int .i64 zn.fRate.fN),(.int .i64 zn.fRate.fD),(.int .i64 zn.fLatency.fN),(.int .i64 zn.fLatency.fD),(.func (.func 38) #[] #[(.pointer (some z1F)),(.pointer (some z1G))]),(.slice z1Q z1x.length z1R)]]) (fun w hw=>by have pz:=(hz.call2 hw (.nil : Sel [stb z3d 65 [(.slice none 0 0)],stb z35 87 [(.int .i64 0)],fz ([] ++ z5Z),stb z34 40 [(.int .i64 0),(.int .i64 0)],stb z30 67 [(.slice z1O z1w.length z1P),(.int .i64 zn.fRate.fN),(.int .i64 zn.fRate.fD),(.int .i64 zn.fLatency.fN),(.int .i64 zn.fLatency.fD),(.func (.func 38) #[] #[(.pointer (some z1F)),(.pointer (some z1G))]),(.slice z1Q z1x.length z1R)]] [] [stb z3d 65 [(.slice none 0 0)],stb z35 87 [(.int .i64 0)],fz ([] ++ z5Z),stb z34 40 [(.int .i64 0),(.int .i64 0)],stb z30 67 [(.slice z1O z1w.length z1P),(.int .i64 zn.fRate.fN),(.int .i64 zn.fRate.fD),(.int .i64 zn.fLatency.fN),(.int .i64 zn.fLatency.fD),(.func (.func 38) #[] #[(.pointer (some z1F)),(.pointer (some z1G))]),(.slice z1Q z1x.length z1R)]]) .h2); exact w_calculus_search_pointsb (Z:=_) (zdc:=z1O) (zdd:=z1P) (zde:=z1F) (zmg:=zdo) (zmh:=zdp) (zdf:=z1G) (zdg:=z1Q) (zdh:=z1R) (zaK:=z1w) (z4Z:=zn) (zgd:=z6K) (zdb:=z5X) (zaL:=z1x) (r:=z1c) w pz ((zmE.mono ((Zle.left _ _).trans ((Zle.left _ _).trans (Zle.assoc _ _ _)))).weak (fun _ _ h=>p23_mono ((Zle.left _ _).trans ((Zle.left _ _).trans (Zle.assoc _ _ _))) h)) ((zis.mono ((Zle.left _ _).trans ((Zle.left _ _).trans (Zle.assoc _ _ _)))).weak (fun _ _ h=>p23_mono ((Zle.left _ _).trans ((Zle.left _ _).trans (Zle.assoc _ _ _))) h)) (zit.mono ((Zle.left _ _).trans ((Zle.left _ _).trans (Zle.assoc _ _ _)))) (ziu.mono ((Zle.left _ _).trans ((Zle.left _ _).trans (Zle.assoc _ _ _)))) (zmF.mono ((Zle.left _ _).trans ((Zle.left _ _).trans (Zle.assoc _ _ _)))) zzb) ?_
   rintro z6s _
   refine WL.nil ?_
   refine WX.a ?_
   refine WC.block ?_
   refine WC.pool ?_
   refine WC.drop (.cons .here (.cons .h1 (.cons .h1 (.cons .h2 (.cons .h2 (.cons .here (.cons .here .nil))))))) ?_
   refine WC.nilRow 40 2 ?_
   refine WC.rangeFunc (f:=78) (caps:=[(.pointer (some ⟨z6s,0,none⟩))]) rfl Tryz.call78 ?_
   intro zDH zDI z4f z7I z4z ziv zzc zzd w hw
   have hw1:=hw.selAll ((.cons .h3 (.cons .h3 (.cons .h2 (.cons .h2 (.cons .h2 (.cons .h2 (.cons .here .nil))))))) : Sel _ [fz [],stb z3d 65 [(.slice none (([] : List z2).length) 0)],row (.slice none (([] : List z2).length) 0) 40 2 (([] : List z2).flatMap e40),stb z35 87 [(.int .i64 0)],stb z34 40 [(.int .i64 0),(.int .i64 0)],stb z30 67 [(.slice z1O z1w.length z1P),(.int .i64 zn.fRate.fN),(.int .i64 zn.fRate.fD),(.int .i64 zn.fLatency.fN),(.int .i64 zn.fLatency.fD),(.func (.func 38) #[] #[(.pointer (some z1F)),(.pointer (some z1G))]),(.slice z1Q z1x.length z1R)],blk z4f (z4z .ready none)] _)
   have pz:=(hz.call2 hw1 ((.cons .here .nil) : Sel [allA [fz [],stb z3d 65 [(.slice none (([] : List z2).length) 0)],row (.slice none (([] : List z2).length) 0) 40 2 (([] : List z2).flatMap e40),stb z35 87 [(.int .i64 0)],stb z34 40 [(.int .i64 0),(.int .i64 0)],stb z30 67 [(.slice z1O z1w.length z1P),(.int .i64 zn.fRate.fN),(.int .i64 zn.fRate.fD),(.int .i64 zn.fLatency.fN),(.int .i64 zn.fLatency.fD),(.func (.func 38) #[] #[(.pointer (some z1F)),(.pointer (some z1G))]),(.slice z1Q z1x.length z1R)],blk z4f (z4z .ready none)],dfr z7I,stb z6s 67 [(.slice z1O z1w.length z1P),(.int .i64 z1c.1),(.int .i64 z1c.2.1),(.int .i64 z1c.2.2.1),(.int .i64 z1c.2.2.2),(.func (.func 38) #[] #[(.pointer (some z1F)),(.pointer (some z1G))]),(.slice z1Q z1x.length z1R)],fz ([] ++ z5Z)] [allA [fz [],stb z3d 65 [(.slice none (([] : List z2).length) 0)],row (.slice none (([] : List z2).length) 0) 40 2 (([] : List z2).flatMap e40),stb z35 87 [(.int .i64 0)],stb z34 40 [(.int .i64 0),(.int .i64 0)],stb z30 67 [(.slice z1O z1w.length z1P),(.int .i64 zn.fRate.fN),(.int .i64 zn.fRate.fD),(.int .i64 zn.fLatency.fN),(.int .i64 zn.fLatency.fD),(.func (.func 38) #[] #[(.pointer (some z1F)),(.pointer (some z1G))]),(.slice z1Q z1x.length z1R)],blk z4f (z4z .ready none)]] [dfr z7I,stb z6s 67 [(.slice z1O z1w.length z1P),(.int .i64 z1c.1),(.int .i64 z1c.2.1),(.int .i64 z1c.2.2.1),(.int .i64 z1c.2.2.2),(.func (.func 38) #[] #[(.pointer (some z1F)),(.pointer (some z1G))]),(.slice z1Q z1x.length z1R)],fz ([] ++ z5Z)]) .h2).lend hw1 ((.cons .here .nil) : Sel [allA [fz [],stb z3d 65 [(.slice none (([] : List z2).length) 0)],row (.slice none (([] : List z2).length) 0) 40 2 (([] : List z2).flatMap e40),stb z35 87 [(.int .i64 0)],stb z34 40 [(.int .i64 0),(.int .i64 0)],stb z30 67 [(.slice z1O z1w.length z1P),(.int .i64 zn.fRate.fN),(.int .i64 zn.fRate.fD),(.int .i64 zn.fLatency.fN),(.int .i64 zn.fLatency.fD),(.func (.func 38) #[] #[(.pointer (some z1F)),(.pointer (some z1G))]),(.slice z1Q z1x.length z1R)],blk z4f (z4z .ready none)],dfr z7I,stb z6s 67 [(.slice z1O z1w.length z1P),(.int .i64 z1c.1),(.int .i64 z1c.2.1),(.int .i64 z1c.2.2.1),(.int .i64 z1c.2.2.2),(.func (.func 38) #[] #[(.pointer (some z1F)),(.pointer (some z1G))]),(.slice z1Q z1x.length z1R)],fz ([] ++ z5Z)] [allA [fz [],stb z3d 65 [(.slice none (([] : List z2).length) 0)],row (.slice none (([] : List z2).length) 0) 40 2 (([] : List z2).flatMap e40),stb z35 87 [(.int .i64 0)],stb z34 40 [(.int .i64 0),(.int .i64 0)],stb z30 67 [(.slice z1O z1w.length z1P),(.int .i64 zn.fRate.fN),(.int .i64 zn.fRate.fD),(.int .i64 zn.fLatency.fN),(.int .i64 zn.fLatency.fD),(.func (.func 38) #[] #[(.pointer (some z1F)),(.pointer (some z1G))]),(.slice z1Q z1x.length z1R)],blk z4f (z4z .ready none)]] [dfr z7I,stb z6s 67 [(.slice z1O z1w.length z1P),(.int .i64 z1c.1),(.int .i64 z1c.2.1),(.int .i64 z1c.2.2.1),(.int .i64 z1c.2.2.2),(.func (.func 38) #[] #[(.pointer (some z1F)),(.pointer (some z1G))]),(.slice z1Q z1x.length z1R)],fz ([] ++ z5Z)]) (B:=[stb z6s 67 [(.slice z1O z1w.length z1P),(.int .i64 z1c.1),(.int .i64 z1c.2.1),(.int .i64 z1c.2.2.1),(.int .i64 z1c.2.2.2),(.func (.func 38) #[] #[(.pointer (some z1F)),(.pointer (some z1G))]),(.slice z1Q z1x.length z1R)]]) (fun _ hx'=>((.cons .h1 .nil) : Sel _ [stb z6s 67 [(.slice z1O z1w.length z1P),(.int .i64 z1c.1),(.int .i64 z1c.2.1),(.int .i64 z1c.2.2.1),(.int .i64 z1c.2.2.2),(.func (.func 38) #[] #[(.pointer (some z1F)),(.pointer (some z1G))]),(.slice z1Q z1x.length z1R)]] _).mem hx')
   obtain ⟨z5Y,zze,h⟩:=z8 h
   refine Calls.mono (w_calculus_search_points_1b (Z:=_) (z80:=z4f) (z2t:=(Option Addr × Nat)) (z1s:=(fun (g : Option Addr × Nat) (s : Nat × List z2 × Int)=>allA ([fz [],stb z3d 65 [(.slice g.1 s.2.1.length g.2)],row (.slice g.1 s.2.1.length g.2) 40 2 (s.2.1.flatMap e40),stb z35 87 [(.int .i64 s.2.2)],stb z34 40 [(.int .i64 0),(.int .i64 0)],stb z30 67 [(.slice z1O z1w.length z1P),(.int .i64 zn.fRate.fN),(.int .i64 zn.fRate.fD),(.int .i64 zn.fLatency.fN),(.int .i64 zn.fLatency.fD),(.func (.func 38) #[] #[(.pointer (some z1F)),(.pointer (some z1G))]),(.slice z1Q z1x.length z1R)]] ++ [blk z4f (z4z (rdy (pcs [] s.1)) (pcs [] s.1))]))) (z81:=(fun (g : Option Addr × Nat) (s : Nat × List z2 × Int)=>True)) (z7H:=(none,0)) (z9c:=⟨z6s,0,none⟩) (zbY:=z1O) (zbZ:=z1P) (zmm:=z1F) (zmn:=zdo) (zmo:=zdp) (zmp:=z1G) (zgh:=z1Q) (zgi:=z1R) (zt:=(Nat × List z2 × Int)) (z4d:=(fun (x : z2) (s : Nat × List z2 × Int)=>chk (s.1 = 0) (m_calculus_search_maxb_R4 z6K z5X x s.2.1 s.2.2))) (s0_27363:=(0,([] : List z2),0)) (z4x:=z1w) (zdi:=(⟨(⟨z1c.1,z1c.2.1⟩ : z2),(⟨z1c.2.2.1,z1c.2.2.2⟩ : z2)⟩ : S41)) (zgg:=z6K) (zdj:=z5X) (z1h:=z1x) (r:=z5Y) w pz ?_ trivial ((((zmE.mono ((Zle.left _ _).trans ((Zle.left _ _).trans (Zle.assoc _ _ _)))).weak (fun _ _ h=>p23_mono ((Zle.left _ _).trans ((Zle.left _ _).trans (Zle.assoc _ _ _))) h)).mono (Zle.left _ _)).weak (fun _ _ h=>p23_mono (Zle.left _ _) h)) ((((zis.mono ((Zle.left _ _).trans ((Zle.left _ _).trans (Zle.assoc _ _ _)))).weak (fun _ _ h=>p23_mono ((Zle.left _ _).trans ((Zle.left _ _).trans (Zle.assoc _ _ _))) h)).mono (Zle.left _ _)).weak (fun _ _ h=>p23_mono (Zle.left _ _) h)) ((zit.mono ((Zle.left _ _).trans ((Zle.left _ _).trans (Zle.assoc _ _ _)))).mono (Zle.left _ _)) ((ziu.mono ((Zle.left _ _).trans ((Zle.left _ _).trans (Zle.assoc _ _ _)))).mono (Zle.left _ _)) ((zmF.mono ((Zle.left _ _).trans ((Zle.left _ _).trans (Zle.assoc _ _ _)))).mono (Zle.left _ _)) ((hw1.lent ((.cons .here .nil) : Sel [allA [fz [],stb z3d 65 [(.slice none (([] : List z2).length) 0)],row (.slice none (([] : List z2).length) 0) 40 2 (([] : List z2).flatMap e40),stb z35 87 [(.int .i64 0)],stb z34 40 [(.int .i64 0),(.int .i64 0)],stb z30 67 [(.slice z1O z1w.length z1P),(.int .i64 zn.fRate.fN),(.int .i64 zn.fRate.fD),(.int .i64 zn.fLatency.fN),(.int .i64 zn.fLatency.fD),(.func (.func 38) #[] #[(.pointer (some z1F)),(.pointer (some z1G))]),(.slice z1Q z1x.length z1R)],blk z4f (z4z .ready none)],dfr z7I,stb z6s 67 [(.slice z1O z1w.length z1P),(.int .i64 z1c.1),(.int .i64 z1c.2.1),(.int .i64 z1c.2.2.1),(.int .i64 z1c.2.2.2),(.func (.func 38) #[] #[(.pointer (some z1F)),(.pointer (some z1G))]),(.slice z1Q z1x.length z1R)],fz ([] ++ z5Z)] [allA [fz [],stb z3d 65 [(.slice none (([] : List z2).length) 0)],row (.slice none (([] : List z2).length) 0) 40 2 (([] : List z2).flatMap e40),stb z35 87 [(.int .i64 0)],stb z34 40 [(.int .i64 0),(.int .i64 0)],stb z30 67 [(.slice z1O z1w.length z1P),(.int .i64 zn.fRate.fN),(.int .i64 zn.fRate.fD),(.int .i64 zn.fLatency.fN),(.int .i64 zn.fLatency.fD),(.func (.func 38) #[] #[(.pointer (some z1F)),(.pointer (some z1G))]),(.slice z1Q z1x.length z1R)],blk z4f (z4z .ready none)]] [dfr z7I,stb z6s 67 [(.slice z1O z1w.length z1P),(.int .i64 z1c.1),(.int .i64 z1c.2.1),(.int .i64 z1c.2.2.1),(.int .i64 z1c.2.2.2),(.func (.func 38) #[] #[(.pointer (some z1F)),(.pointer (some z1G))]),(.slice z1Q z1x.length z1R)],fz ([] ++ z5Z)]) (B:=[stb z6s 67 [(.slice z1O z1w.length z1P),(.int .i64 z1c.1),(.int .i64 z1c.2.1),(.int .i64 z1c.2.2.1),(.int .i64 z1c.2.2.2),(.func (.func 38) #[] #[(.pointer (some z1F)),(.pointer (some z1G))]),(.slice z1Q z1x.length z1R)]]) (fun _ hx'=>((.cons .h1 .nil) : Sel _ [stb z6s 67 [(.slice z1O z1w.length z1P),(.int .i64 z1c.1),(.int .i64 z1c.2.1),(.int .i64 z1c.2.2.1),(.int .i64 z1c.2.2.2),(.func (.func 38) #[] #[(.pointer (some z1F)),(.pointer (some z1G))]),(.slice z1Q z1x.length z1R)]] _).mem hx') (.head _) _).stb) zze (hw1.owns ((.cons .here .nil) : Sel [allA [fz [],stb z3d 65 [(.slice none (([] : List z2).length) 0)],row (.slice none (([] : List z2).length) 0) 40 2 (([] : List z2).flatMap e40),stb z35 87 [(.int .i64 0)],stb z34 40 [(.int .i64 0),(.int .i64 0)],stb z30 67 [(.slice z1O z1w.length z1P),(.int .i64 zn.fRate.fN),(.int .i64 zn.fRate.fD),(.int .i64 zn.fLatency.fN),(.int .i64 zn.fLatency.fD),(.func (.func 38) #[] #[(.pointer (some z1F)),(.pointer (some z1G))]),(.slice z1Q z1x.length z1R)],blk z4f (z4z .ready none)],dfr z7I,stb z6s 67 [(.slice z1O z1w.length z1P),(.int .i64 z1c.1),(.int .i64 z1c.2.1),(.int .i64 z1c.2.2.1),(.int .i64 z1c.2.2.2),(.func (.func 38) #[] #[(.pointer (some z1F)),(.pointer (some z1G))]),(.slice z1Q z1x.length z1R)],fz ([] ++ z5Z)] [allA [fz [],stb z3d 65 [(.slice none (([] : List z2).length) 0)],row (.slice none (([] : List z2).length) 0) 40 2 (([] : List z2).flatMap e40),stb z35 87 [(.int .i64 0)],stb z34 40 [(.int .i64 0),(.int .i64 0)],stb z30 67 [(.slice z1O z1w.length z1P),(.int .i64 zn.fRate.fN),(.int .i64 zn.fRate.fD),(.int .i64 zn.fLatency.fN),(.int .i64 zn.fLatency.fD),(.func (.func 38) #[] #[(.pointer (some z1F)),(.pointer (some z1G))]),(.slice z1Q z1x.length z1R)],blk z4f (z4z .ready none)]] [dfr z7I,stb z6s 67 [(.slice z1O z1w.length z1P),(.int .i64 z1c.1),(.int .i64 z1c.2.1),(.int .i64 z1c.2.2.1),(.int .i64 z1c.2.2.2),(.func (.func 38) #[] #[(.pointer (some z1F)),(.pointer (some z1G))]),(.slice z1Q z1x.length z1R)],fz ([] ++ z5Z)]))) ?_
   ·skip
    refine yieldP_of (LI:=(fun (g : Option Addr × Nat) (s : Nat × List z2 × Int)=>[fz [],stb z3d 65 [(.slice g.1 s.2.1.length g.2)],row (.slice g.1 s.2.1.length g.2) 40 2 (s.2.1.flatMap e40),stb z35 87 [(.int .i64 s.2.2)],stb z34 40 [(.int .i64 0),(.int .i64 0)],stb z30 67 [(.slice z1O z1w.length z1P),(.int .i64 zn.fRate.fN),(.int .i64 zn.fRate.fD),(.int .i64 zn.fLatency.fN),(.int .i64 zn.fLatency.fD),(.func (.func 38) #[] #[(.pointer (some z1F)),(.pointer (some z1G))]),(.slice z1Q z1x.length z1R)]])) (pc:=(fun (s : Nat × List z2 × Int)=>pcs [] s.1)) ziv zzc zzd (fun _ _=>rfl) (by decide) ?_
    rintro z3j _ ⟨z6t,z5m⟩ ⟨zzf,z2g,z9d⟩ zzg zzh Fb wb zrD _ hz
    replace hz:=hz.left
    letI : Rnd:=inR z4f
    obtain ⟨hp0,z82⟩:=chk_elim zrD
    replace hp0 : zzf = 0:=hp0; subst hp0; clear zrD
    replace z82 : m_calculus_search_maxb_R4 z6K z5X z3j z2g z9d = some (zzg,zzh):=z82
    unfold m_calculus_search_maxb_R4 at z82
    refine WC.restr (env':=[(1,(.pointer (some ⟨z30,0,none⟩))),(12,(.bool (decide (zeL ≠ 0)))),(5,(.pointer (some ⟨z35,0,none⟩))),(6,(.pointer (some ⟨z3d,0,none⟩))),(17,(.agg #[(.int .i64 z3j.fN),(.int .i64 z3j.fD)]))]) (.cons rfl (.cons rfl (.cons rfl (.cons rfl (.cons rfl .nil))))) ?_
    refine WC.eqL (L':=[fz [],stb z3d 65 [(.slice z6t z2g.length z5m)],row (.slice z6t z2g.length z5m) 40 2 (z2g.flatMap e40),stb z35 87 [(.int .i64 z9d)],stb z34 40 [(.int .i64 0),(.int .i64 0)],stb z30 67 [(.slice z1O z1w.length z1P),(.int .i64 zn.fRate.fN),(.int .i64 zn.fRate.fD),(.int .i64 zn.fLatency.fN),(.int .i64 zn.fLatency.fD),(.func (.func 38) #[] #[(.pointer (some z1F)),(.pointer (some z1G))]),(.slice z1Q z1x.length z1R)],blk z4f (z4z .ready none)]) rfl ?_
    refine WC.a ?_
    refine WL.new (dd:=7) rfl rfl rfl (e_alloc (cs:=[(.int .i64 0),(.int .i64 0)]) zeroT_40 rfl) ?_
    intro zaS _
    refine WL.eff0 rfl rfl (e_store (vs:=[(.int .i64 z3j.fN),(.int .i64 z3j.fD)]) (ds:=[(.int .i64 z3j.fN),(.int .i64 z3j.fD)]) sizT_40 rfl rfl rfl rfl (oc_cons rfl (oc_cons rfl oc_nil)) .here (Nat.le_of_ble_eq_true rfl) rfl) ?_
    refine WL.nil ?_
    refine WX.begin ziv .h7 ?_
    refine WC.block ?_
    refine WC.b ?_
    obtain ⟨z3s,zzi,z82⟩:=z8 z82
    refine WC.a ?_
    refine WL.a (d:=18) rfl rfl rfl (q_fieldAddr fo_67_2 rfl rfl) ?_
    refine WL.a (d:=19) rfl rfl rfl (q_load1 oneT_64 rfl (rd_stb .h7 rfl)) ?_
    refine WL.a (d:=20) rfl rfl rfl (q_loadA (cs:=[(.int .i64 z3j.fN),(.int .i64 z3j.fD)]) aggT_40 rfl rfl (rd_all .h1)) ?_
    refine WL.b (dd:=21) rfl rfl rfl (run_callv (l:=[.tmp 5,.tmp 20]) Tryz.call38 rfl (.cons rfl (.cons rfl .nil))) ((.cons .h5 .nil) : Sel [blk z4f (z4z .busy none),stb zaS 40 [(.int .i64 z3j.fN),(.int .i64 z3j.fD)],fz [],stb z3d 65 [(.slice z6t z2g.length z5m)],row (.slice z6t z2g.length z5m) 40 2 (z2g.flatMap e40),stb z35 87 [(.int .i64 z9d)],stb z34 40 [(.int .i64 0),(.int .i64 0)],stb z30 67 [(.slice z1O z1w.length z1P),(.int .i64 zn.fRate.fN),(.int .i64 zn.fRate.fD),(.int .i64 zn.fLatency.fN),(.int .i64 zn.fLatency.fD),(.func (.func 38) #[] #[(.pointer (some z1F)),(.pointer (some z1G))]),(.slice z1Q z1x.length z1R)]] [stb z35 87 [(.int .i64 z9d)]] [blk z4f (z4z .busy none),stb zaS 40 [(.int .i64 z3j.fN),(.int .i64 z3j.fD)],fz [],stb z3d 65 [(.slice z6t z2g.length z5m)],row (.slice z6t z2g.length z5m) 40 2 (z2g.flatMap e40),stb z34 40 [(.int .i64 0),(.int .i64 0)],stb z30 67 [(.slice z1O z1w.length z1P),(.int .i64 zn.fRate.fN),(.int .i64 zn.fRate.fD),(.int .i64 zn.fLatency.fN),(.int .i64 zn.fLatency.fD),(.func (.func 38) #[] #[(.pointer (some z1F)),(.pointer (some z1G))]),(.slice z1Q z1x.length z1R)]]) (fun w hw=>by have pz:=(hz.call2 hw ((.cons .h5 .nil) : Sel [blk z4f (z4z .busy none),stb zaS 40 [(.int .i64 z3j.fN),(.int .i64 z3j.fD)],fz [],stb z3d 65 [(.slice z6t z2g.length z5m)],row (.slice z6t z2g.length z5m) 40 2 (z2g.flatMap e40),stb z35 87 [(.int .i64 z9d)],stb z34 40 [(.int .i64 0),(.int .i64 0)],stb z30 67 [(.slice z1O z1w.length z1P),(.int .i64 zn.fRate.fN),(.int .i64 zn.fRate.fD),(.int .i64 zn.fLatency.fN),(.int .i64 zn.fLatency.fD),(.func (.func 38) #[] #[(.pointer (some z1F)),(.pointer (some z1G))]),(.slice z1Q z1x.length z1R)]] [stb z35 87 [(.int .i64 z9d)]] [blk z4f (z4z .busy none),stb zaS 40 [(.int .i64 z3j.fN),(.int .i64 z3j.fD)],fz [],stb z3d 65 [(.slice z6t z2g.length z5m)],row (.slice z6t z2g.length z5m) 40 2 (z2g.flatMap e40),stb z34 40 [(.int .i64 0),(.int .i64 0)],stb z30 67 [(.slice z1O z1w.length z1P),(.int .i64 zn.fRate.fN),(.int .i64 zn.fRate.fD),(.int .i64 zn.fLatency.fN),(.int .i64 zn.fLatency.fD),(.func (.func 38) #[] #[(.pointer (some z1F)),(.pointer (some z1G))]),(.slice z1Q z1x.length z1R)]]) .h2); exact w_calculus_Backlog_1 (Z:=_) (z2v:=z35) (zgl:=z1F) (ziq:=zdo) (zir:=zdp) (zgm:=z1G) (z78:=(⟨z9d⟩ : z2c)) (zV:=z3j) (zdn:=z6K) (z5W:=z5X) (r:=z3s) w pz ((zis.mono ((Zle.left _ _).trans ((Zle.left _ _).trans ((Zle.assoc _ _ _).trans (Zle.left _ _))))).weak (fun _ _ h=>p23_mono ((Zle.left _ _).trans ((Zle.left _ _).trans ((Zle.assoc _ _ _).trans (Zle.left _ _)))) h)) (zit.mono ((Zle.left _ _).trans ((Zle.left _ _).trans ((Zle.assoc _ _ _).trans (Zle.left _ _))))) (ziu.mono ((Zle.left _ _).trans ((Zle.left _ _).trans ((Zle.assoc _ _ _).trans (Zle.left _ _))))) zzi (hw.owns ((.cons .h5 .nil) : Sel [blk z4f (z4z .busy none),stb zaS 40 [(.int .i64 z3j.fN),(.int .i64 z3j.fD)],fz [],stb z3d 65 [(.slice z6t z2g.length z5m)],row (.slice z6t z2g.length z5m) 40 2 (z2g.flatMap e40),stb z35 87 [(.int .i64 z9d)],stb z34 40 [(.int .i64 0),(.int .i64 0)],stb z30 67 [(.slice z1O z1w.length z1P),(.int .i64 zn.fRate.fN),(.int .i64 zn.fRate.fD),(.int .i64 zn.fLatency.fN),(.int .i64 zn.fLatency.fD),(.func (.func 38) #[] #[(.pointer (some z1F)),(.pointer (some z1G))]),(.slice z1Q z1x.length z1R)]] [stb z35 87 [(.int .i64 z9d)]] [blk z4f (z4z .busy none),stb zaS 40 [(.int .i64 z3j.fN),(.int .i64 z3j.fD)],fz [],stb z3d 65 [(.slice z6t z2g.length z5m)],row (.slice z6t z2g.length z5m) 40 2 (z2g.flatMap e40),stb z34 40 [(.int .i64 0),(.int .i64 0)],stb z30 67 [(.slice z1O z1w.length z1P),(.int .i64 zn.fRate.fN),(.int .i64 zn.fRate.fD),(.int .i64 zn.fLatency.fN),(.int .i64 zn.fLatency.fD),(.func (.func 38) #[] #[(.pointer (some z1F)),(.pointer (some z1G))]),(.slice z1Q z1x.length z1R)]]))) ?_
    refine WL.new (dd:=8) rfl rfl rfl (e_alloc (cs:=[(.int .i64 0),(.int .i64 0)]) zeroT_40 rfl) ?_
    intro zmH _
    refine WL.eff0 rfl rfl (e_store (vs:=[(.int .i64 z3s.1.fN),(.int .i64 z3s.1.fD)]) (ds:=[(.int .i64 z3s.1.fN),(.int .i64 z3s.1.fD)]) sizT_40 rfl rfl rfl rfl (oc_cons rfl (oc_cons rfl oc_nil)) .here (Nat.le_of_ble_eq_true rfl) rfl) ?_
    refine WL.nil ?_
    refine WX.a ?_
    refine WC.b ?_
    obtain ⟨zmC,zrE,z82⟩:=z8 z82
    refine WC.draw (fun i=>[].contains i) [] rfl ?_
    refine WD.e (i:=0) (d:=22) (by kernel_rfl) rfl (z6 (by kernel_rfl)) (z7 (by kernel_rfl)) rfl rfl rfl (q_load1 oneT_65 rfl (rd_stb .h5 rfl)) ?_
    refine WD.a (i:=1) (d:=23) (by kernel_rfl) rfl (z6 (by kernel_rfl)) (z7 (by kernel_rfl)) rfl rfl rfl (fun _=>q_len Tryz.underlying65 rfl) ?_
    refine WD.a (i:=2) (d:=24) (by kernel_rfl) rfl (z6 (by kernel_rfl)) (z7 (by kernel_rfl)) rfl rfl rfl (fun _=>q_eql rfl rfl) ?_
    refine WD.a (i:=3) (d:=25) (by kernel_rfl) rfl (z6 (by kernel_rfl)) (z7 (by kernel_rfl)) rfl rfl rfl (fun _=>q_m rfl) ?_
    refine WD.mid (fuel':=0) [(1,(.pointer (some ⟨z30,0,none⟩))),(12,(.bool (decide (zeL ≠ 0)))),(5,(.pointer (some ⟨z35,0,none⟩))),(6,(.pointer (some ⟨z3d,0,none⟩))),(17,(.agg #[(.int .i64 z3j.fN),(.int .i64 z3j.fD)])),(7,(.pointer (some ⟨zaS,0,none⟩))),(18,(.pointer (some ⟨z30,5,none⟩))),(19,(.func (.func 38) #[] #[(.pointer (some z1F)),(.pointer (some z1G))])),(20,(.agg #[(.int .i64 z3j.fN),(.int .i64 z3j.fD)])),(21,(.agg #[(.int .i64 z3s.1.fN),(.int .i64 z3s.1.fD)])),(8,(.pointer (some ⟨zmH,0,none⟩))),(22,(.slice z6t z2g.length z5m)),(23,(.int .i64 ((z2g.length : Nat) : Int))),(24,(.bool (decide (((z2g.length : Nat) : Int) = 0)))),(25,(.bool (decide (((z2g.length : Nat) : Int) = 0)))),(32,(.bool zmC))] (listedA 11 [10,9,8,7,6,5,4,3,2,1,0]) ?_ (fun zrF=>?_)
    rotate_left
    ·rcases Bool.eq_false_or_eq_true (decide (((z2g.length : Nat) : Int) = 0)) with hb' | hb'
     ·have zmI:=hb'; clear hb'
      have zmJ:=ite_t zrE zmI
      replace zmJ:=Option.some.inj zmJ
      refine WD.pin (i:=25) rfl zmI ?_
      refine WD.b (i:=4) (d:=26) (by kernel_rfl) rfl (z6 (by kernel_rfl)) (z7 (by kernel_rfl)) rfl rfl rfl ?_
      refine WD.b (i:=5) (d:=27) (by kernel_rfl) rfl (z6 (by kernel_rfl)) (z7 (by kernel_rfl)) rfl rfl rfl ?_
      refine WD.b (i:=6) (d:=28) (by kernel_rfl) rfl (z6 (by kernel_rfl)) (z7 (by kernel_rfl)) rfl rfl rfl ?_
      refine WD.b (i:=7) (d:=29) (by kernel_rfl) rfl (z6 (by kernel_rfl)) (z7 (by kernel_rfl)) rfl rfl rfl ?_
      refine WD.b (i:=8) (d:=30) (by kernel_rfl) rfl (z6 (by kernel_rfl)) (z7 (by kernel_rfl)) rfl rfl rfl ?_
      refine WD.b (i:=9) (d:=31) (by kernel_rfl) rfl (z6 (by kernel_rfl)) (z7 (by kernel_rfl)) rfl rfl rfl ?_
      refine WD.a (i:=10) (d:=32) (by kernel_rfl) rfl (z6 (by kernel_rfl)) (z7 (by kernel_rfl)) rfl rfl rfl (fun _=>q_pickT rfl rfl) ?_
      refine WD.reL (.cons .here (.cons .here (.cons .here (.cons .here (.cons .here (.cons .here (.cons .here (.cons .here (.cons .here .nil))))))))) ?_ zrF
      exact (.cons rfl (.cons rfl (.cons rfl (.cons rfl (.cons rfl (.cons rfl (.cons rfl (.cons rfl (.cons rfl (.cons rfl (.cons rfl (.cons rfl (.cons rfl (.cons rfl (.cons (zf (Eq.symm zmI)) (.cons (zf zmJ) .nil))))))))))))))))
     ·have zmK:=hb'; clear hb'
      have zdr:=ite_f zrE zmK
      obtain ⟨zgq,zdr⟩:=chk_elim zdr
      obtain ⟨zmB,zzj,zdr⟩:=z8 zdr
      replace zdr:=Option.some.inj zdr
      refine WD.pin (i:=25) rfl zmK ?_
      refine WD.e (i:=4) (d:=26) (by kernel_rfl) rfl (z6 (by kernel_rfl)) (z7 (by kernel_rfl)) rfl rfl rfl (q_loadA (cs:=[(.int .i64 z3s.1.fN),(.int .i64 z3s.1.fD)]) aggT_40 rfl rfl (rd_all .here)) ?_
      refine WD.e (i:=5) (d:=27) (by kernel_rfl) rfl (z6 (by kernel_rfl)) (z7 (by kernel_rfl)) rfl rfl rfl (q_load1 oneT_65 rfl (rd_stb .h5 rfl)) ?_
      refine WD.know (fun w hw=>Hp.expose .h6 hw (by intro hz'; have:=zgq; rw [hz'] at this; omega)) ?_
      rintro ⟨ziw,rfl⟩
      refine WD.a (i:=6) (d:=28) (by kernel_rfl) rfl (z6 (by kernel_rfl)) (z7 (by kernel_rfl)) rfl rfl rfl (fun _=>q_indexAddr elT_65 rfl rfl zgq.1 zgq.2 rowAdd) ?_
      refine WD.e (i:=7) (d:=29) (by kernel_rfl) rfl (z6 (by kernel_rfl)) (z7 (by kernel_rfl)) rfl rfl rfl (q_loadA (cs:=(e40 (nth z2g 0))) aggT_40 rfl rfl (rd_rows .h6 (flat_rd (enc:=e40) (l:=z2g) (i:=0) (sz:=2) (fun _=>rfl) zgq.1 zgq.2))) ?_
      refine WD.c (i:=8) (d:=30) (by kernel_rfl) rfl (z6 (by kernel_rfl)) (z7 (by kernel_rfl)) rfl rfl rfl (zi (l:=[.tmp 26,.tmp 29]) Tryz.call24 (.cons rfl (.cons rfl .nil))) (fun w hw=>by have pz:=(hz.call2 hw (.nil : Sel [stb zmH 40 [(.int .i64 z3s.1.fN),(.int .i64 z3s.1.fD)],stb z35 87 [(.int .i64 z3s.2.fE)],blk z4f (z4z .busy none),stb zaS 40 [(.int .i64 z3j.fN),(.int .i64 z3j.fD)],fz [],stb z3d 65 [(.slice (some ⟨ziw,0,none⟩) z2g.length z5m)],row (.slice (some ⟨ziw,0,none⟩) z2g.length z5m) 40 2 (z2g.flatMap e40),stb z34 40 [(.int .i64 0),(.int .i64 0)],stb z30 67 [(.slice z1O z1w.length z1P),(.int .i64 zn.fRate.fN),(.int .i64 zn.fRate.fD),(.int .i64 zn.fLatency.fN),(.int .i64 zn.fLatency.fD),(.func (.func 38) #[] #[(.pointer (some z1F)),(.pointer (some z1G))]),(.slice z1Q z1x.length z1R)]] [] [stb zmH 40 [(.int .i64 z3s.1.fN),(.int .i64 z3s.1.fD)],stb z35 87 [(.int .i64 z3s.2.fE)],blk z4f (z4z .busy none),stb zaS 40 [(.int .i64 z3j.fN),(.int .i64 z3j.fD)],fz [],stb z3d 65 [(.slice (some ⟨ziw,0,none⟩) z2g.length z5m)],row (.slice (some ⟨ziw,0,none⟩) z2g.length z5m) 40 2 (z2g.flatMap e40),stb z34 40 [(.int .i64 0),(.int .i64 0)],stb z30 67 [(.slice z1O z1w.length z1P),(.int .i64 zn.fRate.fN),(.int .i64 zn.fRate.fD),(.int .i64 zn.fLatency.fN),(.int .i64 zn.fLatency.fD),(.func (.func 38) #[] #[(.pointer (some z1F)),(.pointer (some z1G))]),(.slice z1Q z1x.length z1R)]]) .h4); exact w_rat_Cmp (Z:=_)  (z28:=z3s.1) (z29:=(⟨((nth z2g 0).fN),((nth z2g 0).fD)⟩ : z2)) (r:=zmB) w pz  zzj) ?_
      refine WD.a (i:=9) (d:=31) (by kernel_rfl) rfl (z6 (by kernel_rfl)) (z7 (by kernel_rfl)) rfl rfl rfl (fun _=>q_gtr rfl rfl) ?_
      refine WD.a (i:=10) (d:=32) (by kernel_rfl) rfl (z6 (by kernel_rfl)) (z7 (by kernel_rfl)) rfl rfl rfl (fun _=>q_pickF rfl rfl) ?_
      refine WD.reL (.cons .here (.cons .here (.cons .here (.cons .here (.cons .here (.cons .here (.cons .here (.cons .here (.cons .here .nil))))))))) ?_ zrF
      exact (.cons rfl (.cons rfl (.cons rfl (.cons rfl (.cons rfl (.cons rfl (.cons rfl (.cons rfl (.cons rfl (.cons rfl (.cons rfl (.cons rfl (.cons rfl (.cons rfl (.cons (zf (Eq.symm zmK)) (.cons (zf zdr) .nil))))))))))))))))
    refine WD.done (by kernel_rfl) ?_
    refine WX.a ?_
    refine WC.cond rfl (fun zmL=>?_) (fun zmL=>?_)
    ·replace z82:=ite_t z82 zmL
     refine WC.a ?_
     refine WL.a (d:=33) rfl rfl rfl (q_loadA (cs:=[(.int .i64 z3s.1.fN),(.int .i64 z3s.1.fD)]) aggT_40 rfl rfl (rd_all .here)) ?_
     refine WL.new (dd:=34) rfl rfl rfl (e_buildSlice (cs:=([z3s.1] : List z2).flatMap e40) elT_65 (Eos.parts (l:=[.tmp 33]) (.cons rfl .nil) [0]) (fun _=>by kernel_rfl) rfl (by unfold maxLen; omega)) ?_
     intro zgr _
     refine WL.eff0 rfl rfl (e_store (vs:=[(.slice (some ⟨zgr,0,none⟩) (([z3s.1] : List z2).length) 1)]) (ds:=[(.slice (some ⟨zgr,0,none⟩) (([z3s.1] : List z2).length) 1)]) sizT_65 rfl rfl rfl rfl (oc_cons rfl oc_nil) .h6 (Nat.le_of_ble_eq_true rfl) rfl) ?_
     refine WL.nil ?_
     refine WX.blockNormal ?_
     obtain ⟨rfl,rfl⟩:=rf_inj z82
     exact WX.rNormal ziv .h4 (fun w' hw'=>⟨((some ⟨zgr,0,none⟩),1),rfl,trivial,(hw'.selAll ((.cons .h6 (.cons .h1 (.cons .h1 (.cons .h2 (.cons .h4 (.cons .h4 (.cons .here .nil))))))) : Sel _ [fz [],stb z3d 65 [(.slice (some ⟨zgr,0,none⟩) (([z3s.1] : List z2).length) 1)],row (.slice (some ⟨zgr,0,none⟩) (([z3s.1] : List z2).length) 1) 40 2 (([z3s.1] : List z2).flatMap e40),stb z35 87 [(.int .i64 z3s.2.fE)],stb z34 40 [(.int .i64 0),(.int .i64 0)],stb z30 67 [(.slice z1O z1w.length z1P),(.int .i64 zn.fRate.fN),(.int .i64 zn.fRate.fD),(.int .i64 zn.fLatency.fN),(.int .i64 zn.fLatency.fD),(.func (.func 38) #[] #[(.pointer (some z1F)),(.pointer (some z1G))]),(.slice z1Q z1x.length z1R)],blk z4f (z4z .ready none)] _)).sub (.cons .here .nil)⟩)
    ·replace z82:=ite_f z82 zmL
     refine WC.skip ?_
     refine WX.blockNormal ?_
     obtain ⟨rfl,rfl⟩:=rf_inj z82
     exact WX.rNormal ziv .h2 (fun w' hw'=>⟨(z6t,z5m),rfl,trivial,(hw'.selAll ((.cons .h4 (.cons .h4 (.cons .h4 (.cons .h2 (.cons .h3 (.cons .h3 (.cons .here .nil))))))) : Sel _ [fz [],stb z3d 65 [(.slice z6t z2g.length z5m)],row (.slice z6t z2g.length z5m) 40 2 (z2g.flatMap e40),stb z35 87 [(.int .i64 z3s.2.fE)],stb z34 40 [(.int .i64 0),(.int .i64 0)],stb z30 67 [(.slice z1O z1w.length z1P),(.int .i64 zn.fRate.fN),(.int .i64 zn.fRate.fD),(.int .i64 zn.fLatency.fN),(.int .i64 zn.fLatency.fD),(.func (.func 38) #[] #[(.pointer (some z1F)),(.pointer (some z1G))]),(.slice z1Q z1x.length z1R)],blk z4f (z4z .ready none)] _)).sub (.cons .here .nil)⟩)
   ·skip
    rintro _ w' ⟨zzk,⟨zgs,zgt⟩,rfl,_,hp⟩
    have hp1:=hw1.call ((.cons .here .nil) : Sel [allA [fz [],stb z3d 65 [(.slice none (([] : List z2).length) 0)],row (.slice none (([] : List z2).length) 0) 40 2 (([] : List z2).flatMap e40),stb z35 87 [(.int .i64 0)],stb z34 40 [(.int .i64 0),(.int .i64 0)],stb z30 67 [(.slice z1O z1w.length z1P),(.int .i64 zn.fRate.fN),(.int .i64 zn.fRate.fD),(.int .i64 zn.fLatency.fN),(.int .i64 zn.fLatency.fD),(.func (.func 38) #[] #[(.pointer (some z1F)),(.pointer (some z1G))]),(.slice z1Q z1x.length z1R)],blk z4f (z4z .ready none)],dfr z7I,stb z6s 67 [(.slice z1O z1w.length z1P),(.int .i64 z1c.1),(.int .i64 z1c.2.1),(.int .i64 z1c.2.2.1),(.int .i64 z1c.2.2.2),(.func (.func 38) #[] #[(.pointer (some z1F)),(.pointer (some z1G))]),(.slice z1Q z1x.length z1R)],fz ([] ++ z5Z)] [allA [fz [],stb z3d 65 [(.slice none (([] : List z2).length) 0)],row (.slice none (([] : List z2).length) 0) 40 2 (([] : List z2).flatMap e40),stb z35 87 [(.int .i64 0)],stb z34 40 [(.int .i64 0),(.int .i64 0)],stb z30 67 [(.slice z1O z1w.length z1P),(.int .i64 zn.fRate.fN),(.int .i64 zn.fRate.fD),(.int .i64 zn.fLatency.fN),(.int .i64 zn.fLatency.fD),(.func (.func 38) #[] #[(.pointer (some z1F)),(.pointer (some z1G))]),(.slice z1Q z1x.length z1R)],blk z4f (z4z .ready none)]] [dfr z7I,stb z6s 67 [(.slice z1O z1w.length z1P),(.int .i64 z1c.1),(.int .i64 z1c.2.1),(.int .i64 z1c.2.2.1),(.int .i64 z1c.2.2.2),(.func (.func 38) #[] #[(.pointer (some z1F)),(.pointer (some z1G))]),(.slice z1Q z1x.length z1R)],fz ([] ++ z5Z)]) hp
    have hp2 : Hp _ _ w' [fz [],stb z3d 65 [(.slice zgs z5Y.2.1.length zgt)],row (.slice zgs z5Y.2.1.length zgt) 40 2 (z5Y.2.1.flatMap e40),stb z35 87 [(.int .i64 z5Y.2.2)],stb z34 40 [(.int .i64 0),(.int .i64 0)],stb z30 67 [(.slice z1O z1w.length z1P),(.int .i64 zn.fRate.fN),(.int .i64 zn.fRate.fD),(.int .i64 zn.fLatency.fN),(.int .i64 zn.fLatency.fD),(.func (.func 38) #[] #[(.pointer (some z1F)),(.pointer (some z1G))]),(.slice z1Q z1x.length z1R)],blk z4f (z4z (rdy (pcs [] z5Y.1)) (pcs [] z5Y.1)),fz zzk,dfr z7I,stb z6s 67 [(.slice z1O z1w.length z1P),(.int .i64 z1c.1),(.int .i64 z1c.2.1),(.int .i64 z1c.2.2.1),(.int .i64 z1c.2.2.2),(.func (.func 38) #[] #[(.pointer (some z1F)),(.pointer (some z1G))]),(.slice z1Q z1x.length z1R)],fz ([] ++ z5Z)]:=hp1.pickAll .h1
    refine ⟨_,pcs [] z5Y.1,_,rfl,(hp2.sub ((.cons .h6 (.cons .here (.cons .here (.cons .here (.cons .here (.cons .here (.cons .here (.cons .h1 (.cons .h1 (.cons .h1 .nil)))))))))) : Sel _ [blk z4f (z4z (rdy (pcs [] z5Y.1)) (pcs [] z5Y.1)),fz [],stb z3d 65 [(.slice zgs z5Y.2.1.length zgt)],row (.slice zgs z5Y.2.1.length zgt) 40 2 (z5Y.2.1.flatMap e40),stb z35 87 [(.int .i64 z5Y.2.2)],stb z34 40 [(.int .i64 0),(.int .i64 0)],stb z30 67 [(.slice z1O z1w.length z1P),(.int .i64 zn.fRate.fN),(.int .i64 zn.fRate.fD),(.int .i64 zn.fLatency.fN),(.int .i64 zn.fLatency.fD),(.func (.func 38) #[] #[(.pointer (some z1F)),(.pointer (some z1G))]),(.slice z1Q z1x.length z1R)],dfr z7I,stb z6s 67 [(.slice z1O z1w.length z1P),(.int .i64 z1c.1),(.int .i64 z1c.2.1),(.int .i64 z1c.2.2.1),(.int .i64 z1c.2.2.2),(.func (.func 38) #[] #[(.pointer (some z1F)),(.pointer (some z1G))]),(.slice z1Q z1x.length z1R)],fz ([] ++ z5Z)] _)),?_⟩
    clear hp hp1 hp2 pz hw hw1
    refine wjN ?_
    letI : Rnd:=aft z7I
    refine WX.merge .here .h7 ?_
    refine WX.blockNormal ?_
    exact WX.midR (D:=fun (g : Nat × Int × List z2 × Zp × Option Addr × Nat)=>g.1) (G:=Nat × Int × List z2 × Zp × Option Addr × Nat) ⟨z7I,z5Y.2.2,z5Y.2.1,(([] ++ z5Z) ++ []),zgs,zgt⟩ ⟨h,((Zle.left _ _).trans (Zle.assoc _ _ _))⟩ (.cons rfl (.cons rfl (.cons rfl .nil))) (.cons .here (.cons .h3 (.cons .h2 (.cons .here (.cons .here (.cons .h1 .nil))))))
  ·rintro zgn z9N z6r zdq zgo zgp ⟨h,zDJ⟩
   replace h:=(zza z9N z6r).symm.trans h
   letI : Rnd:=aft zgn
   refine WC.b ?_
   refine WC.b ?_
   refine WC.a ?_
   refine WL.a (d:=35) rfl rfl rfl (q_fieldAddr fo_87_0 rfl rfl) ?_
   refine WL.a (d:=36) rfl rfl rfl (q_load1 oneT_26 rfl (rd_stb .h2 rfl)) ?_
   refine WL.a (d:=37) rfl rfl rfl (q_neq rfl rfl) ?_
   refine WL.nil ?_
   refine WX.a ?_
   refine WC.cond rfl (fun zmM=>?_) (fun zmM=>?_)
   ·replace h:=ite_t h zmM
    refine WC.b ?_
    refine WC.draw (fun i=>[3].contains i) [stbp z35 87 [(0,(.int .i64 z9N))]] rfl ?_
    refine WD.e (i:=0) (d:=38) (by kernel_rfl) rfl (z6 (by kernel_rfl)) (z7 (by kernel_rfl)) rfl rfl rfl (q_build (v:=(.agg #[(.int .i64 0),(.int .i64 0)])) (Eos.parts (l:=[]) .nil []) (fun _=>by kernel_rfl)) ?_
    refine WD.a (i:=1) (d:=39) (by kernel_rfl) rfl (z6 (by kernel_rfl)) (z7 (by kernel_rfl)) rfl rfl rfl (fun _=>q_fieldAddr fo_87_0 rfl rfl) ?_
    refine WD.stable (i:=2) (d:=40) (by kernel_rfl) rfl (z6 (by kernel_rfl)) (z7 (by kernel_rfl)) rfl rfl rfl (Sin.wk (.cons .h2 .nil) (.stb (.cons rfl .nil) .nil)) (q_load1 oneT_26 rfl (rd_stbp .here (.head _))) ?_
    refine WD.forced0 (i:=3) rfl (by kernel_rfl) rfl rfl rfl (Sin.wk (.cons .h2 .nil) (.stb (.cons rfl .nil) .nil)) (e_store (vs:=[(.int .i64 0),(.int .i64 0)]) (ds:=[(.int .i64 0),(.int .i64 0)]) sizT_40 rfl rfl rfl rfl (oc_cons rfl (oc_cons rfl oc_nil)) .h1 (Nat.le_of_ble_eq_true rfl) rfl) ?_
    refine WD.a (i:=4) (d:=3) (by kernel_rfl) rfl (z6 (by kernel_rfl)) (z7 (by kernel_rfl)) rfl rfl rfl (fun _=>q_z rfl) ?_
    refine WD.done (by kernel_rfl) ?_
    refine WX.a ?_
    refine WC.ret ?_
    refine WX.thenRet ?_
    obtain rfl:=Option.some.inj h
    refine WX.bpRetD .h5 Tryz.results35 (.agg rfl aggT_40 rfl (rd_all .h1) (.tmp rfl .nil)) (fun w hw=>?_)
    exact ⟨zdq,ret2 rfl rfl,trivial,hw.sub (.cons .h2 .nil)⟩
   ·replace h:=ite_f h zmM
    refine WC.skip ?_
    refine WX.a ?_
    refine WC.b ?_
    obtain ⟨zgu,h⟩:=chk_elim h
    refine WC.a ?_
    refine WL.a (d:=41) rfl rfl rfl (q_load1 oneT_65 rfl (rd_stb .h3 rfl)) ?_
    refine WL.know (fun w hw=>Hp.expose .h4 hw (by intro hz'; have:=zgu; rw [hz'] at this; omega)) ?_
    rintro ⟨zDK,rfl⟩
    refine WL.a (d:=42) rfl rfl rfl (q_indexAddr elT_65 rfl rfl zgu.1 zgu.2 rowAdd) ?_
    refine WL.a (d:=43) rfl rfl rfl (q_loadA (cs:=(e40 (nth z6r 0))) aggT_40 rfl rfl (rd_rows .h4 (flat_rd (enc:=e40) (l:=z6r) (i:=0) (sz:=2) (fun _=>rfl) zgu.1 zgu.2))) ?_
    refine WL.eff0 rfl rfl (e_store (vs:=[(.int .i64 ((nth z6r 0).fN)),(.int .i64 ((nth z6r 0).fD))]) (ds:=[(.int .i64 ((nth z6r 0).fN)),(.int .i64 ((nth z6r 0).fD))]) sizT_40 rfl rfl rfl rfl (oc_cons rfl (oc_cons rfl oc_nil)) .h1 (Nat.le_of_ble_eq_true rfl) rfl) ?_
    refine WL.a (d:=3) rfl rfl rfl (q_z rfl) ?_
    refine WL.nil ?_
    refine WX.a ?_
    refine WC.ret ?_
    obtain rfl:=Option.some.inj h
    refine WX.bpRetD .h5 Tryz.results35 (.agg rfl aggT_40 rfl (rd_all .h1) (.tmp rfl .nil)) (fun w hw=>?_)
    exact ⟨zdq,ret2 rfl rfl,trivial,hw.sub (.cons .h2 .nil)⟩
def m_calculus_Backlog (z5y : List (List z1)) (zW : S41) : Option (z2 × Int) :=
 (m_calculus_search_maxb z5y zW z5y zW ([zW.fLatency] : List z2)).bind fun zc1=>some (zc1.1,zc1.2)
set_option maxRecDepth 20000 in
theorem w_calculus_Backlog (Z : Zp)  (z6L : Option Addr) (z6M : Nat) (z5y : List (List z1)) (zW : S41) (r : z2 × Int) (w₀ : World) (hz : PZ [] w₀ Z)
  (zrG : ZS Z 1 (p23 Z) z6L z6M z5y)
  (h : m_calculus_Backlog z5y zW = some r) :
  Calls Tryz.prog 13 #[(.slice z6L z5y.length z6M),(.agg #[(.int .i64 zW.fRate.fN),(.int .i64 zW.fRate.fD),(.int .i64 zW.fLatency.fN),(.int .i64 zW.fLatency.fD)])] w₀ fun e w'=>∃ Zn : Zp,e = .returned (.tuple #[(.agg #[(.int .i64 r.1.fN),(.int .i64 r.1.fD)]),(.int .i64 r.2)]) ∧ True ∧ Hp [] w₀ w' [fz Zn]:=by
 unfold m_calculus_Backlog at h
 refine Calls.ofWC (vs:=[(.slice z6L z5y.length z6M),(.agg #[(.int .i64 zW.fRate.fN),(.int .i64 zW.fRate.fD),(.int .i64 zW.fLatency.fN),(.int .i64 zW.fLatency.fD)])]) (pre:=[]) (env:=[(0,(.slice z6L z5y.length z6M)),(1,(.agg #[(.int .i64 zW.fRate.fN),(.int .i64 zW.fRate.fD),(.int .i64 zW.fLatency.fN),(.int .i64 zW.fLatency.fD)]))]) Tryz.func13 rfl Tryz.ntmps13 rfl (Hp.nil w₀ _) rfl ?_
 refine WC.pool ?_
 refine WC.b ?_
 refine WC.a ?_
 refine WL.new (dd:=2) rfl rfl rfl (e_box (cs:=[(.slice z6L z5y.length z6M)]) rfl rfl) ?_
 intro zc2 _
 refine WL.new (dd:=3) rfl rfl rfl (e_box (cs:=[(.int .i64 zW.fRate.fN),(.int .i64 zW.fRate.fD),(.int .i64 zW.fLatency.fN),(.int .i64 zW.fLatency.fD)]) rfl rfl) ?_
 intro zc3 _
 refine WL.new (dd:=4) rfl rfl rfl (e_alloc (cs:=[(.int .i64 0),(.int .i64 0)]) zeroT_40 rfl) ?_
 intro zix _
 refine WL.a (d:=5) rfl rfl rfl (q_z rfl) ?_
 refine WL.nil ?_
 refine WX.a ?_
 refine WC.b ?_
 refine WC.a ?_
 refine WL.a (d:=7) rfl rfl rfl (q_load1 oneT_38 rfl (rd_stb .h2 rfl)) ?_
 refine WL.a (d:=8) rfl rfl rfl (q_loadA (cs:=[(.int .i64 zW.fRate.fN),(.int .i64 zW.fRate.fD),(.int .i64 zW.fLatency.fN),(.int .i64 zW.fLatency.fD)]) aggT_42 rfl rfl (rd_all .h1)) ?_
 refine WL.a (d:=9) rfl rfl rfl (q_fieldAddr fo_42_1 rfl rfl) ?_
 refine WL.a (d:=10) rfl rfl rfl (q_loadA (cs:=[(.int .i64 zW.fLatency.fN),(.int .i64 zW.fLatency.fD)]) aggT_40 rfl rfl (rd_sub (s:=2) .h1 rfl)) ?_
 refine WL.new (dd:=11) rfl rfl rfl (e_buildSlice (cs:=([zW.fLatency] : List z2).flatMap e40) elT_65 (Eos.parts (l:=[.tmp 10]) (.cons rfl .nil) [0]) (fun _=>by kernel_rfl) rfl (by unfold maxLen; omega)) ?_
 intro z9O _
 refine WL.a (d:=12) rfl rfl rfl (q_build (v:=(.agg #[(.slice z6L z5y.length z6M),(.int .i64 zW.fRate.fN),(.int .i64 zW.fRate.fD),(.int .i64 zW.fLatency.fN),(.int .i64 zW.fLatency.fD),.nilFunc,(.slice (some ⟨z9O,0,none⟩) (([zW.fLatency] : List z2).length) 1)])) (Eos.parts (l:=[.tmp 7,.tmp 8,.tmp 11]) (.cons rfl (.cons rfl (.cons rfl .nil))) [0,1,3]) (fun _=>by kernel_rfl)) ?_
 refine WL.new (dd:=6) rfl rfl rfl (e_alloc (cs:=[(.slice none 0 0),(.int .i64 0),(.int .i64 0),(.int .i64 0),(.int .i64 0),.nilFunc,(.slice none 0 0)]) zeroT_67 rfl) ?_
 intro ziy _
 refine WL.eff0 rfl rfl (e_store (vs:=[(.slice z6L z5y.length z6M),(.int .i64 zW.fRate.fN),(.int .i64 zW.fRate.fD),(.int .i64 zW.fLatency.fN),(.int .i64 zW.fLatency.fD),.nilFunc,(.slice (some ⟨z9O,0,none⟩) (([zW.fLatency] : List z2).length) 1)]) (ds:=[(.slice z6L z5y.length z6M),(.int .i64 zW.fRate.fN),(.int .i64 zW.fRate.fD),(.int .i64 zW.fLatency.fN),(.int .i64 zW.fLatency.fD),.nilFunc,(.slice (some ⟨z9O,0,none⟩) (([zW.fLatency] : List z2).length) 1)]) sizT_67 rfl rfl rfl rfl (oc_cons rfl (oc_cons rfl (oc_cons rfl (oc_cons rfl (oc_cons rfl (oc_cons rfl (oc_cons rfl oc_nil))))))) .here (Nat.le_of_ble_eq_true rfl) rfl) ?_
 refine WL.nil ?_
 refine WX.a ?_
 refine WC.b ?_
 refine WC.a ?_
 refine WL.a (d:=13) rfl rfl rfl (q_makeFunc (Eos.caps (l:=[.tmp 2,.tmp 3]) (.cons rfl (.cons rfl .nil)))) ?_
 refine WL.a (d:=14) rfl rfl rfl (q_fieldAddr fo_67_2 rfl rfl) ?_
 refine WL.eff0 rfl rfl (e_store (vs:=[(.func (.func 38) #[] #[(.pointer (some ⟨zc2,0,none⟩)),(.pointer (some ⟨zc3,0,none⟩))])]) (ds:=[(.slice z6L z5y.length z6M),(.int .i64 zW.fRate.fN),(.int .i64 zW.fRate.fD),(.int .i64 zW.fLatency.fN),(.int .i64 zW.fLatency.fD),(.func (.func 38) #[] #[(.pointer (some ⟨zc2,0,none⟩)),(.pointer (some ⟨zc3,0,none⟩))]),(.slice (some ⟨z9O,0,none⟩) (([zW.fLatency] : List z2).length) 1)]) sizT_64 rfl rfl rfl rfl (oc_cons rfl oc_nil) .here (Nat.le_of_ble_eq_true rfl) rfl) ?_
 refine WL.nil ?_
 refine WX.a ?_
 refine WC.b ?_
 obtain ⟨zc1,zzl,h⟩:=z8 h
 refine WC.a ?_
 refine WL.a (d:=15) rfl rfl rfl (q_loadA (cs:=[(.slice z6L z5y.length z6M),(.int .i64 zW.fRate.fN),(.int .i64 zW.fRate.fD),(.int .i64 zW.fLatency.fN),(.int .i64 zW.fLatency.fD),(.func (.func 38) #[] #[(.pointer (some ⟨zc2,0,none⟩)),(.pointer (some ⟨zc3,0,none⟩))]),(.slice (some ⟨z9O,0,none⟩) (([zW.fLatency] : List z2).length) 1)]) aggT_67 rfl rfl (rd_all .here)) ?_
 refine WL.freezeC (Z:=Z) .h4 .h4 ?_
 intro zDL ziz zzm
 refine WL.freezeC (Z:=Z) .h4 .here ?_
 intro zDM zgv zzn
 refine WL.freezeS (ls:=([zW.fLatency] : List z2)) .h2 .here hz (RR.flat (enc:=e40) (fun _=>rfl) _) ?_
 intro zgw zeM zzo
 refine WL.enter1 (dd:=16) rfl rfl rfl (zi (l:=[.tmp 15]) Tryz.call35 (.cons rfl .nil)) (.nil : Sel [fz zgw,stb ziy 67 [(.slice z6L z5y.length z6M),(.int .i64 zW.fRate.fN),(.int .i64 zW.fRate.fD),(.int .i64 zW.fLatency.fN),(.int .i64 zW.fLatency.fD),(.func (.func 38) #[] #[(.pointer (some ⟨zc2,0,none⟩)),(.pointer (some ⟨zc3,0,none⟩))]),(.slice (some ⟨z9O,0,none⟩) (([zW.fLatency] : List z2).length) 1)],stb zix 40 [(.int .i64 0),(.int .i64 0)]] [] [fz zgw,stb ziy 67 [(.slice z6L z5y.length z6M),(.int .i64 zW.fRate.fN),(.int .i64 zW.fRate.fD),(.int .i64 zW.fLatency.fN),(.int .i64 zW.fLatency.fD),(.func (.func 38) #[] #[(.pointer (some ⟨zc2,0,none⟩)),(.pointer (some ⟨zc3,0,none⟩))]),(.slice (some ⟨z9O,0,none⟩) (([zW.fLatency] : List z2).length) 1)],stb zix 40 [(.int .i64 0),(.int .i64 0)]]) (fun w hw=>by have pz:=(hz.call2 hw (.nil : Sel [fz zgw,stb ziy 67 [(.slice z6L z5y.length z6M),(.int .i64 zW.fRate.fN),(.int .i64 zW.fRate.fD),(.int .i64 zW.fLatency.fN),(.int .i64 zW.fLatency.fD),(.func (.func 38) #[] #[(.pointer (some ⟨zc2,0,none⟩)),(.pointer (some ⟨zc3,0,none⟩))]),(.slice (some ⟨z9O,0,none⟩) (([zW.fLatency] : List z2).length) 1)],stb zix 40 [(.int .i64 0),(.int .i64 0)]] [] [fz zgw,stb ziy 67 [(.slice z6L z5y.length z6M),(.int .i64 zW.fRate.fN),(.int .i64 zW.fRate.fD),(.int .i64 zW.fLatency.fN),(.int .i64 zW.fLatency.fD),(.func (.func 38) #[] #[(.pointer (some ⟨zc2,0,none⟩)),(.pointer (some ⟨zc3,0,none⟩))]),(.slice (some ⟨z9O,0,none⟩) (([zW.fLatency] : List z2).length) 1)],stb zix 40 [(.int .i64 0),(.int .i64 0)]]) .here); exact w_calculus_search_maxb (Z:=_) (z1O:=z6L) (z1P:=z6M) (z1F:=⟨zc2,0,none⟩) (zdo:=z6L) (zdp:=z6M) (z1G:=⟨zc3,0,none⟩) (z1Q:=(some ⟨z9O,0,none⟩)) (z1R:=1) (z1w:=z5y) (zn:=zW) (z6K:=z5y) (z5X:=zW) (z1x:=([zW.fLatency] : List z2)) (r:=zc1) w pz ((zrG.mono ((Zle.left _ _).trans (ziz.trans (zgv.trans zeM)))).weak (fun _ _ h=>p23_mono ((Zle.left _ _).trans (ziz.trans (zgv.trans zeM))) h)) ((zrG.mono ((Zle.left _ _).trans (ziz.trans (zgv.trans zeM)))).weak (fun _ _ h=>p23_mono ((Zle.left _ _).trans (ziz.trans (zgv.trans zeM))) h)) (zzm.mono (zgv.trans zeM)) (zzn.mono zeM) zzo zzl) ?_
 rintro zzp _
 refine WL.merge .here .here ?_
 refine WL.a (d:=17) rfl rfl rfl (q_extract rfl rfl) ?_
 refine WL.a (d:=18) rfl rfl rfl (q_extract rfl rfl) ?_
 refine WL.eff0 rfl rfl (e_store (vs:=[(.int .i64 zc1.1.fN),(.int .i64 zc1.1.fD)]) (ds:=[(.int .i64 zc1.1.fN),(.int .i64 zc1.1.fD)]) sizT_40 rfl rfl rfl rfl (oc_cons rfl (oc_cons rfl oc_nil)) .h2 (Nat.le_of_ble_eq_true rfl) rfl) ?_
 refine WL.a (d:=5) rfl rfl rfl (q_z rfl) ?_
 refine WL.nil ?_
 refine WX.a ?_
 refine WC.ret ?_
 obtain rfl:=Option.some.inj h
 refine WX.bpRet Tryz.results13 (.agg rfl aggT_40 rfl (rd_all .here) (.tmp rfl .nil)) (fun w hw=>?_)
 exact ⟨(zgw ++ zzp),ret2 rfl rfl,trivial,hw.sub (.cons .h1 .nil)⟩
def m_calculus_frames_L2 (zJ : List Sapi_Sent) (zaT : Option Bool) : Nat → Int → Option Bool
 | 0,_=>none
 | zmN + 1,zO=>if decide (zO < ((zJ.length : Nat) : Int)) then chk ((0 : Int) ≤ zO ∧ zO < ((zJ.length : Nat) : Int)) (chk (((((decide (((nth zJ zO).fTime) < 0)) || (decide (((nth zJ zO).fTime) > 1073741824))) || (decide (((nth zJ zO).fSize) < 1))) || (decide (((nth zJ zO).fSize) > 72))) = false → ((decide (zO > 0)) = true → ((0 : Int) ≤ (i64 (zO - 1)) ∧ (i64 (zO - 1)) < ((zJ.length : Nat) : Int)))) (if ((((decide (((nth zJ zO).fTime) < 0)) || (decide (((nth zJ zO).fTime) > 1073741824))) || (decide (((nth zJ zO).fSize) < 1))) || (decide (((nth zJ zO).fSize) > 72))) || ((decide (zO > 0)) && (decide (((nth zJ (i64 (zO - 1))).fTime) > ((nth zJ zO).fTime)))) then some false else m_calculus_frames_L2 zJ zaT zmN (i64 (zO + 1)))) else zaT
theorem m_calculus_frames_L2_fuel {n : Nat} {zJ : List Sapi_Sent} {zaT : Option Bool} {zO : Int} {r : Bool} (h : m_calculus_frames_L2 zJ zaT n zO = some r) : ∃ m,n = m + 1:=by
 cases n with
 | zero=>cases h
 | succ m=>exact ⟨m,rfl⟩
def m_calculus_frames (zJ : List Sapi_Sent) : Option Bool :=
 jp0 (some (decide (((zJ.length : Nat) : Int) ≤ 4000))) fun zaT=>m_calculus_frames_L2 zJ zaT FUEL 0
set_option maxRecDepth 20000 in
theorem w_calculus_frames (Z : Zp)  (z60 : Option Addr) (z61 : Nat) (zJ : List Sapi_Sent) (r : Bool) (w₀ : World) (hz : PZ [] w₀ Z)
  (zrH : ZS Z 3 (fun r x=>r = e58 x) z60 z61 zJ)
  (h : m_calculus_frames zJ = some r) :
  Calls Tryz.prog 22 #[(.slice z60 zJ.length z61)] w₀ fun e w'=>e = .returned (.bool r) ∧ Hp [] w₀ w' []:=by
 unfold m_calculus_frames at h
 refine Calls.ofWC (vs:=[(.slice z60 zJ.length z61)]) (pre:=[]) (env:=[(0,(.slice z60 zJ.length z61))]) Tryz.func22 rfl Tryz.ntmps22 rfl (Hp.nil w₀ _) rfl ?_
 refine WC.b ?_
 refine WC.a ?_
 refine WL.a (d:=2) rfl rfl rfl (q_z rfl) ?_
 refine WL.nil ?_
 refine WX.a ?_
 obtain ⟨zaT,zzq,h⟩:=jp0_elim h
 refine WC.seqMid0 ((zaT = some r)) ([(0,(.slice z60 zJ.length z61))]) ([]) ?_ ?_
 ·skip
  refine WC.b ?_
  refine WC.a ?_
  refine WL.a (d:=5) rfl rfl rfl (q_m rfl) ?_
  refine WL.a (d:=6) rfl rfl rfl (q_len Tryz.underlying24 rfl) ?_
  refine WL.a (d:=7) rfl rfl rfl (q_m rfl) ?_
  refine WL.nil ?_
  refine WX.a ?_
  refine WC.block ?_
  refine WC.loop2 (fun (zeN : Nat) (zO : Int)=>(m_calculus_frames_L2 zJ zaT zeN zO = some r)) (fun (zeN : Nat) (zO : Int)=>[(0,(.slice z60 zJ.length z61)),(5,(.slice z60 zJ.length z61)),(6,(.int .i64 ((zJ.length : Nat) : Int))),(7,(.int .i64 zO))]) (fun (zeN : Nat) (zO : Int)=>[]) (fun (zeN : Nat) (zO : Int)=>zeN) ⟨FUEL,0⟩ h (.cons rfl (.cons rfl (.cons rfl (.cons rfl .nil)))) .nil ?_
  rintro zeN zO h
  obtain ⟨zmN,rfl⟩:=m_calculus_frames_L2_fuel h
  rw [m_calculus_frames_L2] at h
  refine WC.b ?_
  refine WC.a ?_
  refine WL.a (d:=8) rfl rfl rfl (q_lss rfl rfl) ?_
  refine WL.nil ?_
  refine WX.a ?_
  refine WC.b ?_
  refine WC.cond rfl (fun zmO=>?_) (fun zmO=>?_)
  ·replace h:=ite_t h zmO
   refine WC.skip ?_
   refine WX.a ?_
   refine WC.b ?_
   refine WC.block ?_
   refine WC.b ?_
   obtain ⟨zzr,h⟩:=chk_elim h
   refine WC.a ?_
   refine WL.a (d:=9) rfl rfl rfl (q_m rfl) ?_
   refine WL.znth (dd:=10) rfl rfl (Z:=Z) (Pr:=(fun r x=>r = e58 x)) elT_24 rfl rfl zrH zzr ?_
   rintro zDN zDO zzs zDP rfl
   refine WL.a (d:=11) rfl rfl rfl (q_loadA (cs:=[(.int .i64 ((nth zJ zO).fTime)),(.int .i64 ((nth zJ zO).fVL)),(.int .i64 ((nth zJ zO).fSize))]) aggT_58 rfl rfl (rd_zs hz.pv zzs)) ?_
   refine WL.new (dd:=4) rfl rfl rfl (e_alloc (cs:=[(.int .i64 0),(.int .i64 0),(.int .i64 0)]) zeroT_58 rfl) ?_
   intro zmP _
   refine WL.a (d:=3) rfl rfl rfl (q_z rfl) ?_
   refine WL.eff0 rfl rfl (e_store (vs:=[(.int .i64 ((nth zJ zO).fTime)),(.int .i64 ((nth zJ zO).fVL)),(.int .i64 ((nth zJ zO).fSize))]) (ds:=[(.int .i64 ((nth zJ zO).fTime)),(.int .i64 ((nth zJ zO).fVL)),(.int .i64 ((nth zJ zO).fSize))]) sizT_58 rfl rfl rfl rfl (oc_cons rfl (oc_cons rfl (oc_cons rfl oc_nil))) .here (Nat.le_of_ble_eq_true rfl) rfl) ?_
   refine WL.nil ?_
   refine WX.a ?_
   refine WC.b ?_
   obtain ⟨zzt,h⟩:=chk_elim h
   refine WC.draw (fun i=>[].contains i) [] rfl ?_
   refine WD.a (i:=0) (d:=12) (by kernel_rfl) rfl (z6 (by kernel_rfl)) (z7 (by kernel_rfl)) rfl rfl rfl (fun _=>q_fieldAddr fo_58_0 rfl rfl) ?_
   refine WD.e (i:=1) (d:=13) (by kernel_rfl) rfl (z6 (by kernel_rfl)) (z7 (by kernel_rfl)) rfl rfl rfl (q_load1 oneT_3 rfl (rd_stb .here rfl)) ?_
   refine WD.a (i:=2) (d:=14) (by kernel_rfl) rfl (z6 (by kernel_rfl)) (z7 (by kernel_rfl)) rfl rfl rfl (fun _=>q_lss rfl rfl) ?_
   refine WD.a (i:=3) (d:=15) (by kernel_rfl) rfl (z6 (by kernel_rfl)) (z7 (by kernel_rfl)) rfl rfl rfl (fun _=>q_m rfl) ?_
   refine WD.mid (fuel':=25) [(0,(.slice z60 zJ.length z61)),(5,(.slice z60 zJ.length z61)),(6,(.int .i64 ((zJ.length : Nat) : Int))),(7,(.int .i64 zO)),(4,(.pointer (some ⟨zmP,0,none⟩))),(3,(.int .i64 zO)),(15,(.bool (decide (((nth zJ zO).fTime) < 0)))),(19,(.bool ((decide (((nth zJ zO).fTime) < 0)) || (decide (((nth zJ zO).fTime) > 1073741824)))))] (listedA 33 [7,6,5,4,3,2,1,0]) ?_ (fun zrI=>?_)
   rotate_left
   ·rcases Bool.eq_false_or_eq_true (decide (((nth zJ zO).fTime) < 0)) with hb' | hb'
    ·have zmQ:=hb'; clear hb'
     refine WD.pin (i:=15) rfl zmQ ?_
     refine WD.b (i:=4) (d:=16) (by kernel_rfl) rfl (z6 (by kernel_rfl)) (z7 (by kernel_rfl)) rfl rfl rfl ?_
     refine WD.b (i:=5) (d:=17) (by kernel_rfl) rfl (z6 (by kernel_rfl)) (z7 (by kernel_rfl)) rfl rfl rfl ?_
     refine WD.b (i:=6) (d:=18) (by kernel_rfl) rfl (z6 (by kernel_rfl)) (z7 (by kernel_rfl)) rfl rfl rfl ?_
     refine WD.a (i:=7) (d:=19) (by kernel_rfl) rfl (z6 (by kernel_rfl)) (z7 (by kernel_rfl)) rfl rfl rfl (fun _=>q_pickT rfl rfl) ?_
     refine WD.reL (.cons .here .nil) ?_ zrI
     exact (.cons rfl (.cons rfl (.cons rfl (.cons rfl (.cons rfl (.cons rfl (.cons (zf (Eq.symm zmQ)) (.cons (zf (or_l zmQ)) .nil))))))))
    ·have zmR:=hb'; clear hb'
     refine WD.pin (i:=15) rfl zmR ?_
     refine WD.a (i:=4) (d:=16) (by kernel_rfl) rfl (z6 (by kernel_rfl)) (z7 (by kernel_rfl)) rfl rfl rfl (fun _=>q_fieldAddr fo_58_0 rfl rfl) ?_
     refine WD.e (i:=5) (d:=17) (by kernel_rfl) rfl (z6 (by kernel_rfl)) (z7 (by kernel_rfl)) rfl rfl rfl (q_load1 oneT_3 rfl (rd_stb .here rfl)) ?_
     refine WD.a (i:=6) (d:=18) (by kernel_rfl) rfl (z6 (by kernel_rfl)) (z7 (by kernel_rfl)) rfl rfl rfl (fun _=>q_gtr rfl rfl) ?_
     refine WD.a (i:=7) (d:=19) (by kernel_rfl) rfl (z6 (by kernel_rfl)) (z7 (by kernel_rfl)) rfl rfl rfl (fun _=>q_pickF rfl rfl) ?_
     refine WD.reL (.cons .here .nil) ?_ zrI
     exact (.cons rfl (.cons rfl (.cons rfl (.cons rfl (.cons rfl (.cons rfl (.cons (zf (Eq.symm zmR)) (.cons (zf (or_r zmR)) .nil))))))))
   refine WD.d #[true,true,true,true,true,true,true,true,false,false,false,false,false,false,false,false,false,false,false,false,false,false,false,false,false,false,false,false,false,false,false,false,false] (by kernel_rfl) ?_
   refine WD.a (i:=8) (d:=20) (by kernel_rfl) rfl (z6 (by kernel_rfl)) (z7 (by kernel_rfl)) rfl rfl rfl (fun _=>q_m rfl) ?_
   refine WD.mid (fuel':=20) [(0,(.slice z60 zJ.length z61)),(5,(.slice z60 zJ.length z61)),(6,(.int .i64 ((zJ.length : Nat) : Int))),(7,(.int .i64 zO)),(4,(.pointer (some ⟨zmP,0,none⟩))),(3,(.int .i64 zO)),(20,(.bool ((decide (((nth zJ zO).fTime) < 0)) || (decide (((nth zJ zO).fTime) > 1073741824))))),(24,(.bool (((decide (((nth zJ zO).fTime) < 0)) || (decide (((nth zJ zO).fTime) > 1073741824))) || (decide (((nth zJ zO).fSize) < 1)))))] (listedA 33 [12,11,10,9,8,7,6,5,4,3,2,1,0]) ?_ (fun zrJ=>?_)
   rotate_left
   ·rcases Bool.eq_false_or_eq_true ((decide (((nth zJ zO).fTime) < 0)) || (decide (((nth zJ zO).fTime) > 1073741824))) with hb' | hb'
    ·have zmS:=hb'; clear hb'
     refine WD.pin (i:=20) rfl zmS ?_
     refine WD.b (i:=9) (d:=21) (by kernel_rfl) rfl (z6 (by kernel_rfl)) (z7 (by kernel_rfl)) rfl rfl rfl ?_
     refine WD.b (i:=10) (d:=22) (by kernel_rfl) rfl (z6 (by kernel_rfl)) (z7 (by kernel_rfl)) rfl rfl rfl ?_
     refine WD.b (i:=11) (d:=23) (by kernel_rfl) rfl (z6 (by kernel_rfl)) (z7 (by kernel_rfl)) rfl rfl rfl ?_
     refine WD.a (i:=12) (d:=24) (by kernel_rfl) rfl (z6 (by kernel_rfl)) (z7 (by kernel_rfl)) rfl rfl rfl (fun _=>q_pickT rfl rfl) ?_
     refine WD.reL (.cons .here .nil) ?_ zrJ
     exact (.cons rfl (.cons rfl (.cons rfl (.cons rfl (.cons rfl (.cons rfl (.cons (zf (Eq.symm zmS)) (.cons (zf (or_l zmS)) .nil))))))))
    ·have zmT:=hb'; clear hb'
     refine WD.pin (i:=20) rfl zmT ?_
     refine WD.a (i:=9) (d:=21) (by kernel_rfl) rfl (z6 (by kernel_rfl)) (z7 (by kernel_rfl)) rfl rfl rfl (fun _=>q_fieldAddr fo_58_2 rfl rfl) ?_
     refine WD.e (i:=10) (d:=22) (by kernel_rfl) rfl (z6 (by kernel_rfl)) (z7 (by kernel_rfl)) rfl rfl rfl (q_load1 oneT_3 rfl (rd_stb .here rfl)) ?_
     refine WD.a (i:=11) (d:=23) (by kernel_rfl) rfl (z6 (by kernel_rfl)) (z7 (by kernel_rfl)) rfl rfl rfl (fun _=>q_lss rfl rfl) ?_
     refine WD.a (i:=12) (d:=24) (by kernel_rfl) rfl (z6 (by kernel_rfl)) (z7 (by kernel_rfl)) rfl rfl rfl (fun _=>q_pickF rfl rfl) ?_
     refine WD.reL (.cons .here .nil) ?_ zrJ
     exact (.cons rfl (.cons rfl (.cons rfl (.cons rfl (.cons rfl (.cons rfl (.cons (zf (Eq.symm zmT)) (.cons (zf (or_r zmT)) .nil))))))))
   refine WD.d #[true,true,true,true,true,true,true,true,true,true,true,true,true,false,false,false,false,false,false,false,false,false,false,false,false,false,false,false,false,false,false,false,false] (by kernel_rfl) ?_
   refine WD.a (i:=13) (d:=25) (by kernel_rfl) rfl (z6 (by kernel_rfl)) (z7 (by kernel_rfl)) rfl rfl rfl (fun _=>q_m rfl) ?_
   refine WD.mid (fuel':=15) [(0,(.slice z60 zJ.length z61)),(5,(.slice z60 zJ.length z61)),(6,(.int .i64 ((zJ.length : Nat) : Int))),(7,(.int .i64 zO)),(4,(.pointer (some ⟨zmP,0,none⟩))),(3,(.int .i64 zO)),(25,(.bool (((decide (((nth zJ zO).fTime) < 0)) || (decide (((nth zJ zO).fTime) > 1073741824))) || (decide (((nth zJ zO).fSize) < 1))))),(29,(.bool ((((decide (((nth zJ zO).fTime) < 0)) || (decide (((nth zJ zO).fTime) > 1073741824))) || (decide (((nth zJ zO).fSize) < 1))) || (decide (((nth zJ zO).fSize) > 72)))))] (listedA 33 [17,16,15,14,13,12,11,10,9,8,7,6,5,4,3,2,1,0]) ?_ (fun zrK=>?_)
   rotate_left
   ·rcases Bool.eq_false_or_eq_true (((decide (((nth zJ zO).fTime) < 0)) || (decide (((nth zJ zO).fTime) > 1073741824))) || (decide (((nth zJ zO).fSize) < 1))) with hb' | hb'
    ·have zmU:=hb'; clear hb'
     refine WD.pin (i:=25) rfl zmU ?_
     refine WD.b (i:=14) (d:=26) (by kernel_rfl) rfl (z6 (by kernel_rfl)) (z7 (by kernel_rfl)) rfl rfl rfl ?_
     refine WD.b (i:=15) (d:=27) (by kernel_rfl) rfl (z6 (by kernel_rfl)) (z7 (by kernel_rfl)) rfl rfl rfl ?_
     refine WD.b (i:=16) (d:=28) (by kernel_rfl) rfl (z6 (by kernel_rfl)) (z7 (by kernel_rfl)) rfl rfl rfl ?_
     refine WD.a (i:=17) (d:=29) (by kernel_rfl) rfl (z6 (by kernel_rfl)) (z7 (by kernel_rfl)) rfl rfl rfl (fun _=>q_pickT rfl rfl) ?_
     refine WD.reL (.cons .here .nil) ?_ zrK
     exact (.cons rfl (.cons rfl (.cons rfl (.cons rfl (.cons rfl (.cons rfl (.cons (zf (Eq.symm zmU)) (.cons (zf (or_l zmU)) .nil))))))))
    ·have zmV:=hb'; clear hb'
     refine WD.pin (i:=25) rfl zmV ?_
     refine WD.a (i:=14) (d:=26) (by kernel_rfl) rfl (z6 (by kernel_rfl)) (z7 (by kernel_rfl)) rfl rfl rfl (fun _=>q_fieldAddr fo_58_2 rfl rfl) ?_
     refine WD.e (i:=15) (d:=27) (by kernel_rfl) rfl (z6 (by kernel_rfl)) (z7 (by kernel_rfl)) rfl rfl rfl (q_load1 oneT_3 rfl (rd_stb .here rfl)) ?_
     refine WD.a (i:=16) (d:=28) (by kernel_rfl) rfl (z6 (by kernel_rfl)) (z7 (by kernel_rfl)) rfl rfl rfl (fun _=>q_gtr rfl rfl) ?_
     refine WD.a (i:=17) (d:=29) (by kernel_rfl) rfl (z6 (by kernel_rfl)) (z7 (by kernel_rfl)) rfl rfl rfl (fun _=>q_pickF rfl rfl) ?_
     refine WD.reL (.cons .here .nil) ?_ zrK
     exact (.cons rfl (.cons rfl (.cons rfl (.cons rfl (.cons rfl (.cons rfl (.cons (zf (Eq.symm zmV)) (.cons (zf (or_r zmV)) .nil))))))))
   refine WD.d #[true,true,true,true,true,true,true,true,true,true,true,true,true,true,true,true,true,true,false,false,false,false,false,false,false,false,false,false,false,false,false,false,false] (by kernel_rfl) ?_
   refine WD.a (i:=18) (d:=30) (by kernel_rfl) rfl (z6 (by kernel_rfl)) (z7 (by kernel_rfl)) rfl rfl rfl (fun _=>q_m rfl) ?_
   refine WD.mid (fuel':=0) [(0,(.slice z60 zJ.length z61)),(5,(.slice z60 zJ.length z61)),(6,(.int .i64 ((zJ.length : Nat) : Int))),(7,(.int .i64 zO)),(30,(.bool ((((decide (((nth zJ zO).fTime) < 0)) || (decide (((nth zJ zO).fTime) > 1073741824))) || (decide (((nth zJ zO).fSize) < 1))) || (decide (((nth zJ zO).fSize) > 72))))),(44,(.bool (((((decide (((nth zJ zO).fTime) < 0)) || (decide (((nth zJ zO).fTime) > 1073741824))) || (decide (((nth zJ zO).fSize) < 1))) || (decide (((nth zJ zO).fSize) > 72))) || ((decide (zO > 0)) && (decide (((nth zJ (i64 (zO - 1))).fTime) > ((nth zJ zO).fTime)))))))] (listedA 33 [32,31,30,29,28,27,26,25,24,23,22,21,20,19,18,17,16,15,14,13,12,11,10,9,8,7,6,5,4,3,2,1,0]) ?_ (fun zrL=>?_)
   rotate_left
   ·rcases Bool.eq_false_or_eq_true ((((decide (((nth zJ zO).fTime) < 0)) || (decide (((nth zJ zO).fTime) > 1073741824))) || (decide (((nth zJ zO).fSize) < 1))) || (decide (((nth zJ zO).fSize) > 72))) with hb' | hb'
    ·have zmW:=hb'; clear hb'
     refine WD.pin (i:=30) rfl zmW ?_
     refine WD.b (i:=19) (d:=31) (by kernel_rfl) rfl (z6 (by kernel_rfl)) (z7 (by kernel_rfl)) rfl rfl rfl ?_
     refine WD.b (i:=20) (d:=32) (by kernel_rfl) rfl (z6 (by kernel_rfl)) (z7 (by kernel_rfl)) rfl rfl rfl ?_
     refine WD.b (i:=21) (d:=33) (by kernel_rfl) rfl (z6 (by kernel_rfl)) (z7 (by kernel_rfl)) rfl rfl rfl ?_
     refine WD.b (i:=22) (d:=34) (by kernel_rfl) rfl (z6 (by kernel_rfl)) (z7 (by kernel_rfl)) rfl rfl rfl ?_
     refine WD.b (i:=23) (d:=35) (by kernel_rfl) rfl (z6 (by kernel_rfl)) (z7 (by kernel_rfl)) rfl rfl rfl ?_
     refine WD.b (i:=24) (d:=36) (by kernel_rfl) rfl (z6 (by kernel_rfl)) (z7 (by kernel_rfl)) rfl rfl rfl ?_
     refine WD.b (i:=25) (d:=37) (by kernel_rfl) rfl (z6 (by kernel_rfl)) (z7 (by kernel_rfl)) rfl rfl rfl ?_
     refine WD.b (i:=26) (d:=38) (by kernel_rfl) rfl (z6 (by kernel_rfl)) (z7 (by kernel_rfl)) rfl rfl rfl ?_
     refine WD.b (i:=27) (d:=39) (by kernel_rfl) rfl (z6 (by kernel_rfl)) (z7 (by kernel_rfl)) rfl rfl rfl ?_
     refine WD.b (i:=28) (d:=40) (by kernel_rfl) rfl (z6 (by kernel_rfl)) (z7 (by kernel_rfl)) rfl rfl rfl ?_
     refine WD.b (i:=29) (d:=41) (by kernel_rfl) rfl (z6 (by kernel_rfl)) (z7 (by kernel_rfl)) rfl rfl rfl ?_
     refine WD.b (i:=30) (d:=42) (by kernel_rfl) rfl (z6 (by kernel_rfl)) (z7 (by kernel_rfl)) rfl rfl rfl ?_
     refine WD.b (i:=31) (d:=43) (by kernel_rfl) rfl (z6 (by kernel_rfl)) (z7 (by kernel_rfl)) rfl rfl rfl ?_
     refine WD.a (i:=32) (d:=44) (by kernel_rfl) rfl (z6 (by kernel_rfl)) (z7 (by kernel_rfl)) rfl rfl rfl (fun _=>q_pickT rfl rfl) ?_
     refine WD.reL (.cons .here .nil) ?_ zrL
     exact (.cons rfl (.cons rfl (.cons rfl (.cons rfl (.cons (zf (Eq.symm zmW)) (.cons (zf (or_l zmW)) .nil))))))
    ·have ziA:=hb'; clear hb'
     have zzu:=zzt ziA
     refine WD.pin (i:=30) rfl ziA ?_
     refine WD.a (i:=19) (d:=31) (by kernel_rfl) rfl (z6 (by kernel_rfl)) (z7 (by kernel_rfl)) rfl rfl rfl (fun _=>q_m rfl) ?_
     refine WD.a (i:=20) (d:=32) (by kernel_rfl) rfl (z6 (by kernel_rfl)) (z7 (by kernel_rfl)) rfl rfl rfl (fun _=>q_gtr rfl rfl) ?_
     refine WD.a (i:=21) (d:=33) (by kernel_rfl) rfl (z6 (by kernel_rfl)) (z7 (by kernel_rfl)) rfl rfl rfl (fun _=>q_m rfl) ?_
     refine WD.mid (fuel':=1) [(0,(.slice z60 zJ.length z61)),(5,(.slice z60 zJ.length z61)),(6,(.int .i64 ((zJ.length : Nat) : Int))),(7,(.int .i64 zO)),(30,(.bool false)),(33,(.bool (decide (zO > 0)))),(43,(.bool ((decide (zO > 0)) && (decide (((nth zJ (i64 (zO - 1))).fTime) > ((nth zJ zO).fTime))))))] (listedA 33 [31,30,29,28,27,26,25,24,23,22,21,20,19,18,17,16,15,14,13,12,11,10,9,8,7,6,5,4,3,2,1,0]) ?_ (fun zrM=>?_)
     rotate_left
     ·rcases Bool.eq_false_or_eq_true (decide (zO > 0)) with hb' | hb'
      ·have ziB:=hb'; clear hb'
       have zzv:=zzu ziB
       refine WD.pin (i:=33) rfl ziB ?_
       refine WD.a (i:=22) (d:=34) (by kernel_rfl) rfl (z6 (by kernel_rfl)) (z7 (by kernel_rfl)) rfl rfl rfl (fun _=>q_m rfl) ?_
       refine WD.a (i:=23) (d:=35) (by kernel_rfl) rfl (z6 (by kernel_rfl)) (z7 (by kernel_rfl)) rfl rfl rfl (fun _=>q_m rfl) ?_
       refine WD.a (i:=24) (d:=36) (by kernel_rfl) rfl (z6 (by kernel_rfl)) (z7 (by kernel_rfl)) rfl rfl rfl (fun _=>q_sub rfl rfl rfl) ?_
       refine WD.znth (j:=25) (dd:=37) (by kernel_rfl) rfl (z6 (by kernel_rfl)) (z7 (by kernel_rfl)) rfl rfl (Z:=Z) (Pr:=(fun r x=>r = e58 x)) elT_24 rfl rfl zrH zzv ?_
       rintro zDQ zDR zzw zDS rfl
       refine WD.a (i:=26) (d:=38) (by kernel_rfl) rfl (z6 (by kernel_rfl)) (z7 (by kernel_rfl)) rfl rfl rfl (fun _=>q_fieldAddr fo_58_0 rfl rfl) ?_
       refine WD.e (i:=27) (d:=39) (by kernel_rfl) rfl (z6 (by kernel_rfl)) (z7 (by kernel_rfl)) rfl rfl rfl (q_load1 oneT_3 rfl (rd_zAt hz.pv zzw rfl)) ?_
       refine WD.a (i:=28) (d:=40) (by kernel_rfl) rfl (z6 (by kernel_rfl)) (z7 (by kernel_rfl)) rfl rfl rfl (fun _=>q_fieldAddr fo_58_0 rfl rfl) ?_
       refine WD.e (i:=29) (d:=41) (by kernel_rfl) rfl (z6 (by kernel_rfl)) (z7 (by kernel_rfl)) rfl rfl rfl (q_load1 oneT_3 rfl (rd_stb .here rfl)) ?_
       refine WD.a (i:=30) (d:=42) (by kernel_rfl) rfl (z6 (by kernel_rfl)) (z7 (by kernel_rfl)) rfl rfl rfl (fun _=>q_gtr rfl rfl) ?_
       refine WD.a (i:=31) (d:=43) (by kernel_rfl) rfl (z6 (by kernel_rfl)) (z7 (by kernel_rfl)) rfl rfl rfl (fun _=>q_pickT rfl rfl) ?_
       refine WD.reL (.cons .here .nil) ?_ zrM
       exact (.cons rfl (.cons rfl (.cons rfl (.cons rfl (.cons rfl (.cons (zf (Eq.symm ziB)) (.cons (zf (and_r ziB)) .nil)))))))
      ·have zmX:=hb'; clear hb'
       refine WD.pin (i:=33) rfl zmX ?_
       refine WD.b (i:=22) (d:=34) (by kernel_rfl) rfl (z6 (by kernel_rfl)) (z7 (by kernel_rfl)) rfl rfl rfl ?_
       refine WD.b (i:=23) (d:=35) (by kernel_rfl) rfl (z6 (by kernel_rfl)) (z7 (by kernel_rfl)) rfl rfl rfl ?_
       refine WD.b (i:=24) (d:=36) (by kernel_rfl) rfl (z6 (by kernel_rfl)) (z7 (by kernel_rfl)) rfl rfl rfl ?_
       refine WD.b (i:=25) (d:=37) (by kernel_rfl) rfl (z6 (by kernel_rfl)) (z7 (by kernel_rfl)) rfl rfl rfl ?_
       refine WD.b (i:=26) (d:=38) (by kernel_rfl) rfl (z6 (by kernel_rfl)) (z7 (by kernel_rfl)) rfl rfl rfl ?_
       refine WD.b (i:=27) (d:=39) (by kernel_rfl) rfl (z6 (by kernel_rfl)) (z7 (by kernel_rfl)) rfl rfl rfl ?_
       refine WD.b (i:=28) (d:=40) (by kernel_rfl) rfl (z6 (by kernel_rfl)) (z7 (by kernel_rfl)) rfl rfl rfl ?_
       refine WD.b (i:=29) (d:=41) (by kernel_rfl) rfl (z6 (by kernel_rfl)) (z7 (by kernel_rfl)) rfl rfl rfl ?_
       refine WD.b (i:=30) (d:=42) (by kernel_rfl) rfl (z6 (by kernel_rfl)) (z7 (by kernel_rfl)) rfl rfl rfl ?_
       refine WD.a (i:=31) (d:=43) (by kernel_rfl) rfl (z6 (by kernel_rfl)) (z7 (by kernel_rfl)) rfl rfl rfl (fun _=>q_pickF rfl rfl) ?_
       refine WD.reL (.cons .here .nil) ?_ zrM
       exact (.cons rfl (.cons rfl (.cons rfl (.cons rfl (.cons rfl (.cons (zf (Eq.symm zmX)) (.cons (zf (and_l zmX)) .nil)))))))
     refine WD.d #[true,true,true,true,true,true,true,true,true,true,true,true,true,true,true,true,true,true,true,true,true,true,true,true,true,true,true,true,true,true,true,true,false] (by kernel_rfl) ?_
     refine WD.a (i:=32) (d:=44) (by kernel_rfl) rfl (z6 (by kernel_rfl)) (z7 (by kernel_rfl)) rfl rfl rfl (fun _=>q_pickF rfl rfl) ?_
     refine WD.reL (.cons .here .nil) ?_ zrL
     exact (.cons rfl (.cons rfl (.cons rfl (.cons rfl (.cons (zf (Eq.symm ziA)) (.cons (zf (or_r ziA)) .nil))))))
   refine WD.d #[true,true,true,true,true,true,true,true,true,true,true,true,true,true,true,true,true,true,true,true,true,true,true,true,true,true,true,true,true,true,true,true,true] (by kernel_rfl) ?_
   refine WD.done (by kernel_rfl) ?_
   refine WX.a ?_
   refine WC.cond rfl (fun zmY=>?_) (fun zmY=>?_)
   ·replace h:=ite_t h zmY
    refine WC.b ?_
    refine WC.a ?_
    refine WL.a (d:=2) rfl rfl rfl (q_z rfl) ?_
    refine WL.nil ?_
    refine WX.a ?_
    refine WC.ret ?_
    refine WX.blockRet ?_
    refine WX.thenRet ?_
    refine WX.thenRet ?_
    refine WX.blockRet ?_
    refine WX.thenRet ?_
    obtain rfl:=Option.some.inj h
    refine WX.bpRet Tryz.results22 (.tmp rfl .nil) (fun w hw=>?_)
    exact ⟨ret1 rfl,hw.sub .nil⟩
   ·replace h:=ite_f h zmY
    refine WC.skip ?_
    refine WX.blockNormal ?_
    refine WX.a ?_
    refine WC.a ?_
    refine WL.a (d:=45) rfl rfl rfl (q_add rfl rfl rfl) ?_
    refine WL.a (d:=7) rfl rfl rfl (q_m rfl) ?_
    refine WL.nil ?_
    exact WX.round (G:=Nat × Int) ⟨zmN,(i64 (zO + 1))⟩ h (Nat.lt_succ_self _) (.cons rfl (.cons rfl (.cons rfl (.cons rfl .nil)))) .nil
  ·replace h:=ite_f h zmO
   refine WC.exit ?_
   refine WX.thenExit ?_
   refine WX.thenExit ?_
   refine WX.blockHit ?_
   exact WX.mid (G:=Unit) () h (.cons rfl .nil) .nil
 ·rintro  h
  replace h:=zzq.symm.trans h
  refine WC.b ?_
  refine WC.a ?_
  refine WL.a (d:=46) rfl rfl rfl (q_m rfl) ?_
  refine WL.a (d:=47) rfl rfl rfl (q_len Tryz.underlying24 rfl) ?_
  refine WL.a (d:=48) rfl rfl rfl (q_leq rfl rfl) ?_
  refine WL.a (d:=2) rfl rfl rfl (q_z rfl) ?_
  refine WL.nil ?_
  refine WX.a ?_
  refine WC.ret ?_
  obtain rfl:=Option.some.inj h
  refine WX.bpRet Tryz.results22 (.tmp rfl .nil) (fun w hw=>?_)
  exact ⟨ret1 rfl,hw.sub .nil⟩
def m_calculus_Serve_L2 (z2b : List Sapi_Sent) (z3k : Int) (z2K : Int) (zaU : (List Int) → Option (List Int × Int)) : Nat → (List Int) → Int → Int → Option (List Int × Int)
 | 0,_,_,_=>none
 | zmZ + 1,z6u,z6N,z2V=>if decide (z2V < ((z2b.length : Nat) : Int)) then chk ((0 : Int) ≤ z2V ∧ z2V < ((z2b.length : Nat) : Int)) (chk ((((z6u ++ ([i64 ((max z6N (i64 (((nth z2b z2V).fTime) + z3k))) + (i64 (((nth z2b z2V).fSize) * z2K)))] : List Int)).length : Nat) : Int) * 8 ≤ 140737488355328 ∧ (((z6u ++ ([i64 ((max z6N (i64 (((nth z2b z2V).fTime) + z3k))) + (i64 (((nth z2b z2V).fSize) * z2K)))] : List Int)).length : Nat) : Int) ≤ 4611686018427387904) (m_calculus_Serve_L2 z2b z3k z2K zaU zmZ (z6u ++ ([i64 ((max z6N (i64 (((nth z2b z2V).fTime) + z3k))) + (i64 (((nth z2b z2V).fSize) * z2K)))] : List Int)) (i64 ((max z6N (i64 (((nth z2b z2V).fTime) + z3k))) + (i64 (((nth z2b z2V).fSize) * z2K)))) (i64 (z2V + 1)))) else zaU z6u
theorem m_calculus_Serve_L2_fuel {n : Nat} {z2b : List Sapi_Sent} {z3k : Int} {z2K : Int} {zaU : (List Int) → Option (List Int × Int)} {z6u : List Int} {z6N : Int} {z2V : Int} {r : List Int × Int} (h : m_calculus_Serve_L2 z2b z3k z2K zaU n z6u z6N z2V = some r) : ∃ m,n = m + 1:=by
 cases n with
 | zero=>cases h
 | succ m=>exact ⟨m,rfl⟩
def m_calculus_Serve (z2b : List Sapi_Sent) (z2K : Int) (z3k : Int) : Option (List Int × Int) :=
 (m_calculus_frames z2b).bind fun z9e=>if ((((!z9e) || (decide (z2K < 1))) || (decide (z2K > 16))) || (decide (z3k < 0))) || (decide (z3k > 1000)) then some (([] : List Int),2) else jp1 (fun (z9P : List Int)=>some (z9P,0)) fun zaU=>m_calculus_Serve_L2 z2b z3k z2K zaU FUEL ([] : List Int) 0 0
set_option maxRecDepth 20000 in
theorem w_calculus_Serve (Z : Zp)  (z8F : Option Addr) (z8G : Nat) (z2b : List Sapi_Sent) (z2K : Int) (z3k : Int) (r : List Int × Int) (w₀ : World) (hz : PZ [] w₀ Z)
  (zrN : ZS Z 3 (fun r x=>r = e58 x) z8F z8G z2b)
  (h : m_calculus_Serve z2b z2K z3k = some r) :
  Calls Tryz.prog 8 #[(.slice z8F z2b.length z8G),(.int .i64 z2K),(.int .i64 z3k)] w₀ fun e w'=>∃ zrO : Option Addr,∃ zrP : Nat,e = .returned (.tuple #[(.slice zrO r.1.length zrP),(.int .i64 r.2)]) ∧ True ∧ Hp [] w₀ w' [row (.slice zrO r.1.length zrP) 3 1 (r.1.flatMap e3)]:=by
 unfold m_calculus_Serve at h
 refine Calls.ofWC (vs:=[(.slice z8F z2b.length z8G),(.int .i64 z2K),(.int .i64 z3k)]) (pre:=[]) (env:=[(0,(.slice z8F z2b.length z8G)),(1,(.int .i64 z2K)),(2,(.int .i64 z3k))]) Tryz.func8 rfl Tryz.ntmps8 rfl (Hp.nil w₀ _) rfl ?_
 refine WC.b ?_
 refine WC.a ?_
 refine WL.a (d:=6) rfl rfl rfl (q_z rfl) ?_
 refine WL.a (d:=7) rfl rfl rfl (q_z rfl) ?_
 refine WL.nil ?_
 refine WX.a ?_
 refine WC.b ?_
 refine WC.b ?_
 obtain ⟨z9e,zzx,h⟩:=z8 h
 refine WC.a ?_
 refine WL.a (d:=12) rfl rfl rfl (q_m rfl) ?_
 refine WL.b (dd:=13) rfl rfl rfl (zi (l:=[.tmp 12]) Tryz.call22 (.cons rfl .nil)) (.nil : Sel [] [] []) (fun w hw=>by have pz:=(hz.call hw (.nil : Sel [] [] [])); exact w_calculus_frames (Z:=_) (z60:=z8F) (z61:=z8G) (zJ:=z2b) (r:=z9e) w pz zrN zzx) ?_
 refine WL.a (d:=14) rfl rfl rfl (q_not rfl) ?_
 refine WL.a (d:=15) rfl rfl rfl (q_m rfl) ?_
 refine WL.cut0 True [(0,(.slice z8F z2b.length z8G)),(1,(.int .i64 z2K)),(2,(.int .i64 z3k)),(18,(.bool ((!z9e) || (decide (z2K < 1)))))] [] 3 ?_ (fun _=>?_)
 ·rcases Bool.eq_false_or_eq_true (!z9e) with hb' | hb'
  ·have zrQ:=hb'; clear hb'
   refine WL.pin (i:=15) rfl zrQ ?_
   refine WL.e rfl rfl rfl ?_
   refine WL.e rfl rfl rfl ?_
   refine WL.a (d:=18) rfl rfl rfl (q_pickT rfl rfl) ?_
   exact WL.cutEnd () trivial (.cons rfl (.cons rfl (.cons rfl (.cons (zf (or_l zrQ)) .nil)))) .nil
  ·have zrR:=hb'; clear hb'
   refine WL.pin (i:=15) rfl zrR ?_
   refine WL.a (d:=16) rfl rfl rfl (q_m rfl) ?_
   refine WL.a (d:=17) rfl rfl rfl (q_lss rfl rfl) ?_
   refine WL.a (d:=18) rfl rfl rfl (q_pickF rfl rfl) ?_
   exact WL.cutEnd () trivial (.cons rfl (.cons rfl (.cons rfl (.cons (zf (or_r zrR)) .nil)))) .nil
 ·skip
  refine WL.a (d:=19) rfl rfl rfl (q_m rfl) ?_
  refine WL.cut0 True [(0,(.slice z8F z2b.length z8G)),(1,(.int .i64 z2K)),(2,(.int .i64 z3k)),(22,(.bool (((!z9e) || (decide (z2K < 1))) || (decide (z2K > 16)))))] [] 3 ?_ (fun _=>?_)
  ·rcases Bool.eq_false_or_eq_true ((!z9e) || (decide (z2K < 1))) with hb' | hb'
   ·have zrS:=hb'; clear hb'
    refine WL.pin (i:=19) rfl zrS ?_
    refine WL.e rfl rfl rfl ?_
    refine WL.e rfl rfl rfl ?_
    refine WL.a (d:=22) rfl rfl rfl (q_pickT rfl rfl) ?_
    exact WL.cutEnd () trivial (.cons rfl (.cons rfl (.cons rfl (.cons (zf (or_l zrS)) .nil)))) .nil
   ·have zrT:=hb'; clear hb'
    refine WL.pin (i:=19) rfl zrT ?_
    refine WL.a (d:=20) rfl rfl rfl (q_m rfl) ?_
    refine WL.a (d:=21) rfl rfl rfl (q_gtr rfl rfl) ?_
    refine WL.a (d:=22) rfl rfl rfl (q_pickF rfl rfl) ?_
    exact WL.cutEnd () trivial (.cons rfl (.cons rfl (.cons rfl (.cons (zf (or_r zrT)) .nil)))) .nil
  ·skip
   refine WL.a (d:=23) rfl rfl rfl (q_m rfl) ?_
   refine WL.cut0 True [(0,(.slice z8F z2b.length z8G)),(1,(.int .i64 z2K)),(2,(.int .i64 z3k)),(26,(.bool ((((!z9e) || (decide (z2K < 1))) || (decide (z2K > 16))) || (decide (z3k < 0)))))] [] 3 ?_ (fun _=>?_)
   ·rcases Bool.eq_false_or_eq_true (((!z9e) || (decide (z2K < 1))) || (decide (z2K > 16))) with hb' | hb'
    ·have zrU:=hb'; clear hb'
     refine WL.pin (i:=23) rfl zrU ?_
     refine WL.e rfl rfl rfl ?_
     refine WL.e rfl rfl rfl ?_
     refine WL.a (d:=26) rfl rfl rfl (q_pickT rfl rfl) ?_
     exact WL.cutEnd () trivial (.cons rfl (.cons rfl (.cons rfl (.cons (zf (or_l zrU)) .nil)))) .nil
    ·have zrV:=hb'; clear hb'
     refine WL.pin (i:=23) rfl zrV ?_
     refine WL.a (d:=24) rfl rfl rfl (q_m rfl) ?_
     refine WL.a (d:=25) rfl rfl rfl (q_lss rfl rfl) ?_
     refine WL.a (d:=26) rfl rfl rfl (q_pickF rfl rfl) ?_
     exact WL.cutEnd () trivial (.cons rfl (.cons rfl (.cons rfl (.cons (zf (or_r zrV)) .nil)))) .nil
   ·skip
    refine WL.a (d:=27) rfl rfl rfl (q_m rfl) ?_
    refine WL.cut0 True [(0,(.slice z8F z2b.length z8G)),(1,(.int .i64 z2K)),(2,(.int .i64 z3k)),(30,(.bool (((((!z9e) || (decide (z2K < 1))) || (decide (z2K > 16))) || (decide (z3k < 0))) || (decide (z3k > 1000)))))] [] 3 ?_ (fun _=>?_)
    ·rcases Bool.eq_false_or_eq_true ((((!z9e) || (decide (z2K < 1))) || (decide (z2K > 16))) || (decide (z3k < 0))) with hb' | hb'
     ·have zrW:=hb'; clear hb'
      refine WL.pin (i:=27) rfl zrW ?_
      refine WL.e rfl rfl rfl ?_
      refine WL.e rfl rfl rfl ?_
      refine WL.a (d:=30) rfl rfl rfl (q_pickT rfl rfl) ?_
      exact WL.cutEnd () trivial (.cons rfl (.cons rfl (.cons rfl (.cons (zf (or_l zrW)) .nil)))) .nil
     ·have zrX:=hb'; clear hb'
      refine WL.pin (i:=27) rfl zrX ?_
      refine WL.a (d:=28) rfl rfl rfl (q_m rfl) ?_
      refine WL.a (d:=29) rfl rfl rfl (q_gtr rfl rfl) ?_
      refine WL.a (d:=30) rfl rfl rfl (q_pickF rfl rfl) ?_
      exact WL.cutEnd () trivial (.cons rfl (.cons rfl (.cons rfl (.cons (zf (or_r zrX)) .nil)))) .nil
    ·skip
     refine WL.nil ?_
     refine WX.a ?_
     refine WC.cond rfl (fun zn0=>?_) (fun zn0=>?_)
     ·replace h:=ite_t h zn0
      refine WC.b ?_
      refine WC.a ?_
      refine WL.a (d:=6) rfl rfl rfl (q_z rfl) ?_
      refine WL.a (d:=7) rfl rfl rfl (q_z rfl) ?_
      refine WL.nil ?_
      refine WX.a ?_
      refine WC.ret ?_
      refine WX.thenRet ?_
      refine WX.nilRow 3 1 ?_
      obtain rfl:=Option.some.inj h
      refine WX.bpRet Tryz.results8 (.tmp rfl (.tmp rfl .nil)) (fun w hw=>?_)
      exact ⟨none,0,ret2 rfl rfl,trivial,hw.sub (.cons .here .nil)⟩
     ·replace h:=ite_f h zn0
      refine WC.skip ?_
      refine WX.a ?_
      refine WC.b ?_
      refine WC.a ?_
      refine WL.a (d:=8) rfl rfl rfl (q_z rfl) ?_
      refine WL.nil ?_
      refine WX.a ?_
      refine WC.b ?_
      refine WC.a ?_
      refine WL.a (d:=9) rfl rfl rfl (q_z rfl) ?_
      refine WL.nil ?_
      refine WX.a ?_
      obtain ⟨zaU,zzy,h⟩:=jp1_elim h
      refine WC.seqMid3 (fun (z9P : List Int) (zeO : Option Addr) (zeP : Nat)=>(zaU z9P = some r)) (fun (z9P : List Int) (zeO : Option Addr) (zeP : Nat)=>[(8,(.slice zeO z9P.length zeP))]) (fun (z9P : List Int) (zeO : Option Addr) (zeP : Nat)=>[row (.slice zeO z9P.length zeP) 3 1 (z9P.flatMap e3)]) ?_ ?_
      ·skip
       refine WC.b ?_
       refine WC.a ?_
       refine WL.a (d:=31) rfl rfl rfl (q_m rfl) ?_
       refine WL.a (d:=32) rfl rfl rfl (q_len Tryz.underlying24 rfl) ?_
       refine WL.a (d:=33) rfl rfl rfl (q_m rfl) ?_
       refine WL.nil ?_
       refine WX.a ?_
       refine WC.block ?_
       refine WC.nilRow 3 1 ?_
       refine WC.loop6 (fun (zeQ : Nat) (z6u : List Int) (z6N : Int) (z2V : Int) (zds : Option Addr) (zdt : Nat)=>(m_calculus_Serve_L2 z2b z3k z2K zaU zeQ z6u z6N z2V = some r)) (fun (zeQ : Nat) (z6u : List Int) (z6N : Int) (z2V : Int) (zds : Option Addr) (zdt : Nat)=>[(1,(.int .i64 z2K)),(2,(.int .i64 z3k)),(8,(.slice zds z6u.length zdt)),(9,(.int .i64 z6N)),(31,(.slice z8F z2b.length z8G)),(32,(.int .i64 ((z2b.length : Nat) : Int))),(33,(.int .i64 z2V))]) (fun (zeQ : Nat) (z6u : List Int) (z6N : Int) (z2V : Int) (zds : Option Addr) (zdt : Nat)=>[row (.slice zds z6u.length zdt) 3 1 (z6u.flatMap e3)]) (fun (zeQ : Nat) (z6u : List Int) (z6N : Int) (z2V : Int) (zds : Option Addr) (zdt : Nat)=>zeQ) ⟨FUEL,([] : List Int),0,0,none,0⟩ h (.cons rfl (.cons rfl (.cons rfl (.cons rfl (.cons rfl (.cons rfl (.cons rfl .nil))))))) (.cons .here .nil) ?_
       rintro zeQ z6u z6N z2V zds zdt h
       obtain ⟨zmZ,rfl⟩:=m_calculus_Serve_L2_fuel h
       rw [m_calculus_Serve_L2] at h
       refine WC.b ?_
       refine WC.a ?_
       refine WL.a (d:=34) rfl rfl rfl (q_lss rfl rfl) ?_
       refine WL.nil ?_
       refine WX.a ?_
       refine WC.b ?_
       refine WC.cond rfl (fun zn1=>?_) (fun zn1=>?_)
       ·replace h:=ite_t h zn1
        refine WC.skip ?_
        refine WX.a ?_
        refine WC.b ?_
        refine WC.block ?_
        refine WC.b ?_
        obtain ⟨zzz,h⟩:=chk_elim h
        refine WC.a ?_
        refine WL.znth (dd:=35) rfl rfl (Z:=Z) (Pr:=(fun r x=>r = e58 x)) elT_24 rfl rfl zrN zzz ?_
        rintro zDT zDU zzA zDV rfl
        refine WL.a (d:=36) rfl rfl rfl (q_loadA (cs:=[(.int .i64 ((nth z2b z2V).fTime)),(.int .i64 ((nth z2b z2V).fVL)),(.int .i64 ((nth z2b z2V).fSize))]) aggT_58 rfl rfl (rd_zs hz.pv zzA)) ?_
        refine WL.new (dd:=11) rfl rfl rfl (e_alloc (cs:=[(.int .i64 0),(.int .i64 0),(.int .i64 0)]) zeroT_58 rfl) ?_
        intro zDW _
        refine WL.eff0 rfl rfl (e_store (vs:=[(.int .i64 ((nth z2b z2V).fTime)),(.int .i64 ((nth z2b z2V).fVL)),(.int .i64 ((nth z2b z2V).fSize))]) (ds:=[(.int .i64 ((nth z2b z2V).fTime)),(.int .i64 ((nth z2b z2V).fVL)),(.int .i64 ((nth z2b z2V).fSize))]) sizT_58 rfl rfl rfl rfl (oc_cons rfl (oc_cons rfl (oc_cons rfl oc_nil))) .here (Nat.le_of_ble_eq_true rfl) rfl) ?_
        refine WL.nil ?_
        refine WX.a ?_
        refine WC.b ?_
        refine WC.a ?_
        refine WL.a (d:=37) rfl rfl rfl (q_m rfl) ?_
        refine WL.a (d:=38) rfl rfl rfl (q_fieldAddr fo_58_0 rfl rfl) ?_
        refine WL.a (d:=39) rfl rfl rfl (q_load1 oneT_3 rfl (rd_stb .here rfl)) ?_
        refine WL.a (d:=40) rfl rfl rfl (q_m rfl) ?_
        refine WL.a (d:=41) rfl rfl rfl (q_add rfl rfl rfl) ?_
        refine WL.a (d:=42) rfl rfl rfl (q_max rfl rfl rfl) ?_
        refine WL.a (d:=43) rfl rfl rfl (q_fieldAddr fo_58_2 rfl rfl) ?_
        refine WL.a (d:=44) rfl rfl rfl (q_load1 oneT_3 rfl (rd_stb .here rfl)) ?_
        refine WL.a (d:=45) rfl rfl rfl (q_m rfl) ?_
        refine WL.a (d:=46) rfl rfl rfl (q_mul rfl rfl rfl) ?_
        refine WL.a (d:=47) rfl rfl rfl (q_add rfl rfl rfl) ?_
        refine WL.a (d:=9) rfl rfl rfl (q_z rfl) ?_
        refine WL.nil ?_
        refine WX.a ?_
        obtain ⟨zzB,h⟩:=chk_elim h
        refine WC.a ?_
        refine WL.a (d:=48) rfl rfl rfl (q_m rfl) ?_
        refine WL.a (d:=49) rfl rfl rfl (q_m rfl) ?_
        refine WL.new (dd:=50) rfl rfl rfl (e_buildSlice (cs:=([i64 ((max z6N (i64 (((nth z2b z2V).fTime) + z3k))) + (i64 (((nth z2b z2V).fSize) * z2K)))] : List Int).flatMap e3) elT_31 (Eos.parts (l:=[.tmp 49]) (.cons rfl .nil) [0]) (fun _=>by kernel_rfl) rfl (by unfold maxLen; omega)) ?_
        intro zDX _
        refine WL.eff (d:=51) rfl rfl rfl (e_appendF (enc:=e3) (l1:=z6u) (l2:=([i64 ((max z6N (i64 (((nth z2b z2V).fTime) + z3k))) + (i64 (((nth z2b z2V).fSize) * z2K)))] : List Int)) elT_31 rfl rfl .h2 (fun _=>rfl) rfl rfl (news_row .here) (oc_flat e3_oc _) zzB) ?_
        rintro ⟨zzC,zzD⟩ _
        refine WL.a (d:=8) rfl rfl rfl (q_z rfl) ?_
        refine WL.nil ?_
        refine WX.blockNormal ?_
        refine WX.a ?_
        refine WC.a ?_
        refine WL.a (d:=52) rfl rfl rfl (q_add rfl rfl rfl) ?_
        refine WL.a (d:=33) rfl rfl rfl (q_m rfl) ?_
        refine WL.nil ?_
        exact WX.round (G:=Nat × List Int × Int × Int × Option Addr × Nat) ⟨zmZ,(z6u ++ ([i64 ((max z6N (i64 (((nth z2b z2V).fTime) + z3k))) + (i64 (((nth z2b z2V).fSize) * z2K)))] : List Int)),(i64 ((max z6N (i64 (((nth z2b z2V).fTime) + z3k))) + (i64 (((nth z2b z2V).fSize) * z2K)))),(i64 (z2V + 1)),zzC,zzD⟩ h (Nat.lt_succ_self _) (.cons rfl (.cons rfl (.cons rfl (.cons rfl (.cons rfl (.cons rfl (.cons rfl .nil))))))) (.cons .here .nil)
       ·replace h:=ite_f h zn1
        refine WC.exit ?_
        refine WX.thenExit ?_
        refine WX.thenExit ?_
        refine WX.blockHit ?_
        exact WX.mid (G:=List Int × Option Addr × Nat) ⟨z6u,zds,zdt⟩ h (.cons rfl .nil) (.cons .here .nil)
      ·rintro z9P zeO zeP h
       replace h:=(zzy z9P).symm.trans h
       refine WC.b ?_
       refine WC.a ?_
       refine WL.a (d:=53) rfl rfl rfl (q_m rfl) ?_
       refine WL.a (d:=6) rfl rfl rfl (q_z rfl) ?_
       refine WL.a (d:=7) rfl rfl rfl (q_z rfl) ?_
       refine WL.nil ?_
       refine WX.a ?_
       refine WC.ret ?_
       obtain rfl:=Option.some.inj h
       refine WX.bpRet Tryz.results8 (.tmp rfl (.tmp rfl .nil)) (fun w hw=>?_)
       exact ⟨zeO,zeP,ret2 rfl rfl,trivial,hw.sub (.cons .here .nil)⟩
def m_calculus_Conforms_L4 (zN : List Sapi_Sent) (z16 : Int) (z3t : List z1) (zaV : Bool → Option (Bool × Int)) : Nat → Bool → Int → Int → Option (Bool × Int)
 | 0,_,_,_=>none
 | zn2 + 1,z7J,z7m,z20=>if decide (z20 < (((zN.drop (z16 : Int).toNat).length : Nat) : Int)) then chk ((0 : Int) ≤ z20 ∧ z20 < (((zN.drop (z16 : Int).toNat).length : Nat) : Int)) (chk ((0 : Int) ≤ z16 ∧ z16 < ((zN.length : Nat) : Int)) ((m_curve_At z3t (⟨i64 (((nth (zN.drop (z16 : Int).toNat) z20).fTime) - ((nth zN z16).fTime)),1⟩ : z2)).bind fun z5n=>if decide (z5n.2 ≠ 0) then some (false,z5n.2) else (if z7J then (m_rat_Cmp (⟨i64 (z7m + ((nth (zN.drop (z16 : Int).toNat) z20).fSize)),1⟩ : z2) z5n.1).bind fun zn3=>some (decide (zn3 ≤ 0)) else some false).bind fun ziC=>m_calculus_Conforms_L4 zN z16 z3t zaV zn2 ziC (i64 (z7m + ((nth (zN.drop (z16 : Int).toNat) z20).fSize))) (i64 (z20 + 1)))) else zaV z7J
theorem m_calculus_Conforms_L4_fuel {n : Nat} {zN : List Sapi_Sent} {z16 : Int} {z3t : List z1} {zaV : Bool → Option (Bool × Int)} {z7J : Bool} {z7m : Int} {z20 : Int} {r : Bool × Int} (h : m_calculus_Conforms_L4 zN z16 z3t zaV n z7J z7m z20 = some r) : ∃ m,n = m + 1:=by
 cases n with
 | zero=>cases h
 | succ m=>exact ⟨m,rfl⟩
def m_calculus_Conforms_L3 (zN : List Sapi_Sent) (z3t : List z1) (zaW : Bool → Option (Bool × Int)) : Nat → Bool → Int → Option (Bool × Int)
 | 0,_,_=>none
 | zn4 + 1,z83,z16=>if decide (z16 < ((zN.length : Nat) : Int)) then jp1 (fun (zaX : Bool)=>m_calculus_Conforms_L3 zN z3t zaW zn4 zaX (i64 (z16 + 1))) fun zn5=>chk ((0 : Int) ≤ z16 ∧ (z16 : Int) ≤ (zN.length : Int) ∧ (zN.length : Int) ≤ ((zN.length : Nat) : Int)) (jp1 (fun (zaY : Bool)=>zn5 zaY) fun zaV=>m_calculus_Conforms_L4 zN z16 z3t zaV FUEL z83 0 0) else zaW z83
theorem m_calculus_Conforms_L3_fuel {n : Nat} {zN : List Sapi_Sent} {z3t : List z1} {zaW : Bool → Option (Bool × Int)} {z83 : Bool} {z16 : Int} {r : Bool × Int} (h : m_calculus_Conforms_L3 zN z3t zaW n z83 z16 = some r) : ∃ m,n = m + 1:=by
 cases n with
 | zero=>cases h
 | succ m=>exact ⟨m,rfl⟩
def m_calculus_Conforms (z3t : List z1) (zN : List Sapi_Sent) : Option (Bool × Int) :=
 (m_curve_Valid z3t).bind fun ziD=>(if !ziD then some true else (m_calculus_frames zN).bind fun zn6=>some (!zn6)).bind fun zn7=>if zn7 then some (false,2) else jp1 (fun (zc4 : Bool)=>some (zc4,0)) fun zaW=>m_calculus_Conforms_L3 zN z3t zaW FUEL true 0
set_option maxRecDepth 20000 in
theorem w_calculus_Conforms (Z : Zp)  (z7n : Option Addr) (z7o : Nat) (z7K : Option Addr) (z7L : Nat) (z3t : List z1) (zN : List Sapi_Sent) (r : Bool × Int) (w₀ : World) (hz : PZ [] w₀ Z)
  (zrY : ZS Z 4 (fun r x=>r = e54 x) z7n z7o z3t)
  (zn8 : ZS Z 3 (fun r x=>r = e58 x) z7K z7L zN)
  (h : m_calculus_Conforms z3t zN = some r) :
  Calls Tryz.prog 6 #[(.slice z7n z3t.length z7o),(.slice z7K zN.length z7L)] w₀ fun e w'=>e = .returned (.tuple #[(.bool r.1),(.int .i64 r.2)]) ∧ Hp [] w₀ w' []:=by
 unfold m_calculus_Conforms at h
 refine Calls.ofWC (vs:=[(.slice z7n z3t.length z7o),(.slice z7K zN.length z7L)]) (pre:=[]) (env:=[(0,(.slice z7n z3t.length z7o)),(1,(.slice z7K zN.length z7L))]) Tryz.func6 rfl Tryz.ntmps6 rfl (Hp.nil w₀ _) rfl ?_
 refine WC.b ?_
 refine WC.a ?_
 refine WL.a (d:=4) rfl rfl rfl (q_z rfl) ?_
 refine WL.a (d:=5) rfl rfl rfl (q_z rfl) ?_
 refine WL.nil ?_
 refine WX.a ?_
 refine WC.b ?_
 refine WC.b ?_
 obtain ⟨ziD,zzE,h⟩:=z8 h
 obtain ⟨zn7,zrZ,h⟩:=z8 h
 refine WC.a ?_
 refine WL.a (d:=13) rfl rfl rfl (q_m rfl) ?_
 refine WL.b (dd:=14) rfl rfl rfl (zi (l:=[.tmp 13]) Tryz.call21 (.cons rfl .nil)) (.nil : Sel [] [] []) (fun w hw=>by have pz:=(hz.call hw (.nil : Sel [] [] [])); exact w_curve_Valid (Z:=_) (z8R:=z7n) (z8S:=z7o) (z5q:=z3t) (r:=ziD) w pz zrY zzE) ?_
 refine WL.a (d:=15) rfl rfl rfl (q_not rfl) ?_
 refine WL.a (d:=16) rfl rfl rfl (q_m rfl) ?_
 refine WL.cut0 True [(0,(.slice z7n z3t.length z7o)),(1,(.slice z7K zN.length z7L)),(20,(.bool zn7))] [] 4 ?_ (fun _=>?_)
 ·rcases Bool.eq_false_or_eq_true (!ziD) with hb' | hb'
  ·have zs0:=hb'; clear hb'
   have zn9:=ite_t zrZ zs0
   replace zn9:=Option.some.inj zn9
   refine WL.pin (i:=16) rfl zs0 ?_
   refine WL.e rfl rfl rfl ?_
   refine WL.e rfl rfl rfl ?_
   refine WL.e rfl rfl rfl ?_
   refine WL.a (d:=20) rfl rfl rfl (q_pickT rfl rfl) ?_
   exact WL.cutEnd () trivial (.cons rfl (.cons rfl (.cons (zf zn9) .nil))) .nil
  ·have zs1:=hb'; clear hb'
   have zgx:=ite_f zrZ zs1
   obtain ⟨zn6,zzF,zgx⟩:=z8 zgx
   replace zgx:=Option.some.inj zgx
   refine WL.pin (i:=16) rfl zs1 ?_
   refine WL.a (d:=17) rfl rfl rfl (q_m rfl) ?_
   refine WL.b (dd:=18) rfl rfl rfl (zi (l:=[.tmp 17]) Tryz.call22 (.cons rfl .nil)) (.nil : Sel [] [] []) (fun w hw=>by have pz:=(hz.call hw (.nil : Sel [] [] [])); exact w_calculus_frames (Z:=_) (z60:=z7K) (z61:=z7L) (zJ:=zN) (r:=zn6) w pz zn8 zzF) ?_
   refine WL.a (d:=19) rfl rfl rfl (q_not rfl) ?_
   refine WL.a (d:=20) rfl rfl rfl (q_pickF rfl rfl) ?_
   exact WL.cutEnd () trivial (.cons rfl (.cons rfl (.cons (zf zgx) .nil))) .nil
 ·skip
  refine WL.nil ?_
  refine WX.a ?_
  refine WC.cond rfl (fun zna=>?_) (fun zna=>?_)
  ·replace h:=ite_t h zna
   refine WC.b ?_
   refine WC.a ?_
   refine WL.a (d:=4) rfl rfl rfl (q_z rfl) ?_
   refine WL.a (d:=5) rfl rfl rfl (q_z rfl) ?_
   refine WL.nil ?_
   refine WX.a ?_
   refine WC.ret ?_
   refine WX.thenRet ?_
   obtain rfl:=Option.some.inj h
   refine WX.bpRet Tryz.results6 (.tmp rfl (.tmp rfl .nil)) (fun w hw=>?_)
   exact ⟨ret2 rfl rfl,hw.sub .nil⟩
  ·replace h:=ite_f h zna
   refine WC.skip ?_
   refine WX.a ?_
   refine WC.b ?_
   refine WC.a ?_
   refine WL.a (d:=6) rfl rfl rfl (q_z rfl) ?_
   refine WL.nil ?_
   refine WX.a ?_
   obtain ⟨zaW,zzG,h⟩:=jp1_elim h
   refine WC.seqMid1 (fun (zc4 : Bool)=>(zaW zc4 = some r)) (fun (zc4 : Bool)=>[(6,(.bool zc4))]) (fun (zc4 : Bool)=>[]) ?_ ?_
   ·skip
    refine WC.b ?_
    refine WC.a ?_
    refine WL.a (d:=21) rfl rfl rfl (q_m rfl) ?_
    refine WL.a (d:=22) rfl rfl rfl (q_len Tryz.underlying24 rfl) ?_
    refine WL.a (d:=23) rfl rfl rfl (q_m rfl) ?_
    refine WL.nil ?_
    refine WX.a ?_
    refine WC.block ?_
    refine WC.loop3 (fun (zeR : Nat) (z83 : Bool) (z16 : Int)=>(m_calculus_Conforms_L3 zN z3t zaW zeR z83 z16 = some r)) (fun (zeR : Nat) (z83 : Bool) (z16 : Int)=>[(0,(.slice z7n z3t.length z7o)),(1,(.slice z7K zN.length z7L)),(6,(.bool z83)),(22,(.int .i64 ((zN.length : Nat) : Int))),(23,(.int .i64 z16))]) (fun (zeR : Nat) (z83 : Bool) (z16 : Int)=>[]) (fun (zeR : Nat) (z83 : Bool) (z16 : Int)=>zeR) ⟨FUEL,true,0⟩ h (.cons rfl (.cons rfl (.cons rfl (.cons rfl (.cons rfl .nil))))) .nil ?_
    rintro zeR z83 z16 h
    obtain ⟨zn4,rfl⟩:=m_calculus_Conforms_L3_fuel h
    rw [m_calculus_Conforms_L3] at h
    refine WC.b ?_
    refine WC.a ?_
    refine WL.a (d:=24) rfl rfl rfl (q_lss rfl rfl) ?_
    refine WL.nil ?_
    refine WX.a ?_
    refine WC.b ?_
    refine WC.cond rfl (fun znb=>?_) (fun znb=>?_)
    ·replace h:=ite_t h znb
     refine WC.skip ?_
     refine WX.a ?_
     obtain ⟨zn5,zzH,h⟩:=jp1_elim h
     refine WC.seqMid1 (fun (zaX : Bool)=>(zn5 zaX = some r)) (fun (zaX : Bool)=>[(0,(.slice z7n z3t.length z7o)),(1,(.slice z7K zN.length z7L)),(6,(.bool zaX)),(22,(.int .i64 ((zN.length : Nat) : Int))),(23,(.int .i64 z16))]) (fun (zaX : Bool)=>[]) ?_ ?_
     ·skip
      refine WC.block ?_
      refine WC.b ?_
      refine WC.a ?_
      refine WL.a (d:=25) rfl rfl rfl (q_m rfl) ?_
      refine WL.a (d:=7) rfl rfl rfl (q_z rfl) ?_
      refine WL.nil ?_
      refine WX.a ?_
      refine WC.b ?_
      refine WC.a ?_
      refine WL.a (d:=8) rfl rfl rfl (q_z rfl) ?_
      refine WL.nil ?_
      refine WX.a ?_
      refine WC.b ?_
      obtain ⟨zzI,h⟩:=chk_elim h
      refine WC.a ?_
      refine WL.a (d:=26) rfl rfl rfl (q_m rfl) ?_
      refine WL.a (d:=27) rfl rfl rfl (q_m rfl) ?_
      refine WL.zsub (dd:=28) rfl rfl (Z:=Z) (Pr:=(fun r x=>r = e58 x)) elT_24 rfl zn8 (ixo rfl) ixn rfl rfl zzI (by rw [Int.toNat_natCast,List.take_length]) ?_
      rintro zs2 zs3 zzJ
      refine WL.a (d:=29) rfl rfl rfl (q_len Tryz.underlying24 rfl) ?_
      refine WL.a (d:=30) rfl rfl rfl (q_m rfl) ?_
      refine WL.nil ?_
      refine WX.a ?_
      obtain ⟨zaV,zzK,h⟩:=jp1_elim h
      refine WC.mid1 (fun (zaY : Bool)=>(zaV zaY = some r)) (fun (zaY : Bool)=>[(0,(.slice z7n z3t.length z7o)),(1,(.slice z7K zN.length z7L)),(6,(.bool zaY)),(22,(.int .i64 ((zN.length : Nat) : Int))),(23,(.int .i64 z16))]) (fun (zaY : Bool)=>[]) ?_ ?_
      ·skip
       refine WC.block ?_
       refine WC.loop4 (fun (zeS : Nat) (z7J : Bool) (z7m : Int) (z20 : Int)=>(m_calculus_Conforms_L4 zN z16 z3t zaV zeS z7J z7m z20 = some r)) (fun (zeS : Nat) (z7J : Bool) (z7m : Int) (z20 : Int)=>[(0,(.slice z7n z3t.length z7o)),(1,(.slice z7K zN.length z7L)),(6,(.bool z7J)),(7,(.int .i64 z16)),(8,(.int .i64 z7m)),(22,(.int .i64 ((zN.length : Nat) : Int))),(23,(.int .i64 z16)),(28,(.slice zs2 ((zN.drop (z16 : Int).toNat).length) zs3)),(29,(.int .i64 (((zN.drop (z16 : Int).toNat).length : Nat) : Int))),(30,(.int .i64 z20))]) (fun (zeS : Nat) (z7J : Bool) (z7m : Int) (z20 : Int)=>[]) (fun (zeS : Nat) (z7J : Bool) (z7m : Int) (z20 : Int)=>zeS) ⟨FUEL,z83,0,0⟩ h (.cons rfl (.cons rfl (.cons rfl (.cons rfl (.cons rfl (.cons rfl (.cons rfl (.cons rfl (.cons rfl (.cons rfl .nil)))))))))) .nil ?_
       rintro zeS z7J z7m z20 h
       obtain ⟨zn2,rfl⟩:=m_calculus_Conforms_L4_fuel h
       rw [m_calculus_Conforms_L4] at h
       refine WC.b ?_
       refine WC.a ?_
       refine WL.a (d:=31) rfl rfl rfl (q_lss rfl rfl) ?_
       refine WL.nil ?_
       refine WX.a ?_
       refine WC.b ?_
       refine WC.cond rfl (fun znc=>?_) (fun znc=>?_)
       ·replace h:=ite_t h znc
        refine WC.skip ?_
        refine WX.a ?_
        refine WC.b ?_
        refine WC.block ?_
        refine WC.b ?_
        obtain ⟨zzL,h⟩:=chk_elim h
        refine WC.a ?_
        refine WL.znth (dd:=32) rfl rfl (Z:=Z) (Pr:=(fun r x=>r = e58 x)) elT_24 rfl rfl zzJ zzL ?_
        rintro zDY zDZ zzM zE0 rfl
        refine WL.a (d:=33) rfl rfl rfl (q_loadA (cs:=[(.int .i64 ((nth (zN.drop (z16 : Int).toNat) z20).fTime)),(.int .i64 ((nth (zN.drop (z16 : Int).toNat) z20).fVL)),(.int .i64 ((nth (zN.drop (z16 : Int).toNat) z20).fSize))]) aggT_58 rfl rfl (rd_zs hz.pv zzM)) ?_
        refine WL.new (dd:=10) rfl rfl rfl (e_alloc (cs:=[(.int .i64 0),(.int .i64 0),(.int .i64 0)]) zeroT_58 rfl) ?_
        intro zdu _
        refine WL.eff0 rfl rfl (e_store (vs:=[(.int .i64 ((nth (zN.drop (z16 : Int).toNat) z20).fTime)),(.int .i64 ((nth (zN.drop (z16 : Int).toNat) z20).fVL)),(.int .i64 ((nth (zN.drop (z16 : Int).toNat) z20).fSize))]) (ds:=[(.int .i64 ((nth (zN.drop (z16 : Int).toNat) z20).fTime)),(.int .i64 ((nth (zN.drop (z16 : Int).toNat) z20).fVL)),(.int .i64 ((nth (zN.drop (z16 : Int).toNat) z20).fSize))]) sizT_58 rfl rfl rfl rfl (oc_cons rfl (oc_cons rfl (oc_cons rfl oc_nil))) .here (Nat.le_of_ble_eq_true rfl) rfl) ?_
        refine WL.nil ?_
        refine WX.a ?_
        refine WC.b ?_
        refine WC.a ?_
        refine WL.a (d:=34) rfl rfl rfl (q_m rfl) ?_
        refine WL.a (d:=35) rfl rfl rfl (q_fieldAddr fo_58_2 rfl rfl) ?_
        refine WL.a (d:=36) rfl rfl rfl (q_load1 oneT_3 rfl (rd_stb .here rfl)) ?_
        refine WL.a (d:=37) rfl rfl rfl (q_add rfl rfl rfl) ?_
        refine WL.a (d:=8) rfl rfl rfl (q_z rfl) ?_
        refine WL.nil ?_
        refine WX.a ?_
        refine WC.b ?_
        obtain ⟨zzN,h⟩:=chk_elim h
        obtain ⟨z5n,zzO,h⟩:=z8 h
        refine WC.draw (fun i=>[15].contains i) [] rfl ?_
        refine WD.a (i:=0) (d:=39) (by kernel_rfl) rfl (z6 (by kernel_rfl)) (z7 (by kernel_rfl)) rfl rfl rfl (fun _=>q_m rfl) ?_
        refine WD.a (i:=1) (d:=40) (by kernel_rfl) rfl (z6 (by kernel_rfl)) (z7 (by kernel_rfl)) rfl rfl rfl (fun _=>q_fieldAddr fo_58_0 rfl rfl) ?_
        refine WD.e (i:=2) (d:=41) (by kernel_rfl) rfl (z6 (by kernel_rfl)) (z7 (by kernel_rfl)) rfl rfl rfl (q_load1 oneT_3 rfl (rd_stb .here rfl)) ?_
        refine WD.a (i:=3) (d:=42) (by kernel_rfl) rfl (z6 (by kernel_rfl)) (z7 (by kernel_rfl)) rfl rfl rfl (fun _=>q_m rfl) ?_
        refine WD.a (i:=4) (d:=43) (by kernel_rfl) rfl (z6 (by kernel_rfl)) (z7 (by kernel_rfl)) rfl rfl rfl (fun _=>q_m rfl) ?_
        refine WD.znth (j:=5) (dd:=44) (by kernel_rfl) rfl (z6 (by kernel_rfl)) (z7 (by kernel_rfl)) rfl rfl (Z:=Z) (Pr:=(fun r x=>r = e58 x)) elT_24 rfl rfl zn8 zzN ?_
        rintro zE1 zE2 zzP zE3 rfl
        refine WD.a (i:=6) (d:=45) (by kernel_rfl) rfl (z6 (by kernel_rfl)) (z7 (by kernel_rfl)) rfl rfl rfl (fun _=>q_fieldAddr fo_58_0 rfl rfl) ?_
        refine WD.e (i:=7) (d:=46) (by kernel_rfl) rfl (z6 (by kernel_rfl)) (z7 (by kernel_rfl)) rfl rfl rfl (q_load1 oneT_3 rfl (rd_zAt hz.pv zzP rfl)) ?_
        refine WD.a (i:=8) (d:=47) (by kernel_rfl) rfl (z6 (by kernel_rfl)) (z7 (by kernel_rfl)) rfl rfl rfl (fun _=>q_sub rfl rfl rfl) ?_
        refine WD.e (i:=9) (d:=48) (by kernel_rfl) rfl (z6 (by kernel_rfl)) (z7 (by kernel_rfl)) rfl rfl rfl (q_build (v:=(.agg #[(.int .i64 (i64 (((nth (zN.drop (z16 : Int).toNat) z20).fTime) - ((nth zN z16).fTime)))),(.int .i64 1)])) (Eos.parts (l:=[.tmp 47,.const (.int .i64 1)]) (.cons rfl (.cons rfl .nil)) [0,1]) (fun _=>by kernel_rfl)) ?_
        refine WD.c (i:=10) (d:=49) (by kernel_rfl) rfl (z6 (by kernel_rfl)) (z7 (by kernel_rfl)) rfl rfl rfl (zi (l:=[.tmp 39,.tmp 48]) Tryz.call23 (.cons rfl (.cons rfl .nil))) (fun w hw=>by have pz:=(hz.call hw (.nil : Sel [stb zdu 58 [(.int .i64 ((nth (zN.drop (z16 : Int).toNat) z20).fTime)),(.int .i64 ((nth (zN.drop (z16 : Int).toNat) z20).fVL)),(.int .i64 ((nth (zN.drop (z16 : Int).toNat) z20).fSize))]] [] [stb zdu 58 [(.int .i64 ((nth (zN.drop (z16 : Int).toNat) z20).fTime)),(.int .i64 ((nth (zN.drop (z16 : Int).toNat) z20).fVL)),(.int .i64 ((nth (zN.drop (z16 : Int).toNat) z20).fSize))]])); exact w_curve_At (Z:=_) (zaF:=z7n) (zaG:=z7o) (z1f:=z3t) (z1V:=(⟨i64 (((nth (zN.drop (z16 : Int).toNat) z20).fTime) - ((nth zN z16).fTime)),1⟩ : z2)) (r:=z5n) w pz zrY zzO) ?_
        refine WD.a (i:=11) (d:=38) (by kernel_rfl) rfl (z6 (by kernel_rfl)) (z7 (by kernel_rfl)) rfl rfl rfl (fun _=>q_m rfl) ?_
        refine WD.a (i:=12) (d:=50) (by kernel_rfl) rfl (z6 (by kernel_rfl)) (z7 (by kernel_rfl)) rfl rfl rfl (fun _=>q_extract rfl rfl) ?_
        refine WD.a (i:=13) (d:=51) (by kernel_rfl) rfl (z6 (by kernel_rfl)) (z7 (by kernel_rfl)) rfl rfl rfl (fun _=>q_extract rfl rfl) ?_
        refine WD.new (i:=14) (dd:=11) rfl (by kernel_rfl) rfl rfl rfl (e_alloc (cs:=[(.int .i64 0),(.int .i64 0)]) zeroT_40 rfl) (fun h'=>absurd h' (by decide)) ?_
        intro zgy _
        refine WD.forced0 (i:=15) rfl (by kernel_rfl) rfl rfl rfl (Sin.of .nil) (e_store (vs:=[(.int .i64 z5n.1.fN),(.int .i64 z5n.1.fD)]) (ds:=[(.int .i64 z5n.1.fN),(.int .i64 z5n.1.fD)]) sizT_40 rfl rfl rfl rfl (oc_cons rfl (oc_cons rfl oc_nil)) .here (Nat.le_of_ble_eq_true rfl) rfl) ?_
        refine WD.a (i:=16) (d:=12) (by kernel_rfl) rfl (z6 (by kernel_rfl)) (z7 (by kernel_rfl)) rfl rfl rfl (fun _=>q_z rfl) ?_
        refine WD.done (by kernel_rfl) ?_
        refine WX.a ?_
        refine WC.b ?_
        refine WC.b ?_
        refine WC.a ?_
        refine WL.a (d:=52) rfl rfl rfl (q_m rfl) ?_
        refine WL.a (d:=53) rfl rfl rfl (q_neq rfl rfl) ?_
        refine WL.nil ?_
        refine WX.a ?_
        refine WC.cond rfl (fun znd=>?_) (fun znd=>?_)
        ·replace h:=ite_t h znd
         refine WC.b ?_
         refine WC.a ?_
         refine WL.a (d:=54) rfl rfl rfl (q_m rfl) ?_
         refine WL.a (d:=4) rfl rfl rfl (q_z rfl) ?_
         refine WL.a (d:=5) rfl rfl rfl (q_z rfl) ?_
         refine WL.nil ?_
         refine WX.a ?_
         refine WC.ret ?_
         refine WX.thenRet ?_
         refine WX.blockRet ?_
         refine WX.thenRet ?_
         refine WX.thenRet ?_
         refine WX.blockRet ?_
         refine WX.thenRet ?_
         refine WX.blockRet ?_
         refine WX.thenRet ?_
         refine WX.thenRet ?_
         refine WX.blockRet ?_
         refine WX.thenRet ?_
         obtain rfl:=Option.some.inj h
         refine WX.bpRet Tryz.results6 (.tmp rfl (.tmp rfl .nil)) (fun w hw=>?_)
         exact ⟨ret2 rfl rfl,hw.sub .nil⟩
        ·replace h:=ite_f h znd
         refine WC.skip ?_
         refine WX.a ?_
         obtain ⟨ziC,zs4,h⟩:=z8 h
         refine WC.a ?_
         refine WL.a (d:=55) rfl rfl rfl (q_m rfl) ?_
         refine WL.a (d:=56) rfl rfl rfl (q_m rfl) ?_
         refine WL.cut0 True [(0,(.slice z7n z3t.length z7o)),(1,(.slice z7K zN.length z7L)),(6,(.bool z7J)),(7,(.int .i64 z16)),(8,(.int .i64 (i64 (z7m + ((nth (zN.drop (z16 : Int).toNat) z20).fSize))))),(22,(.int .i64 ((zN.length : Nat) : Int))),(23,(.int .i64 z16)),(28,(.slice zs2 ((zN.drop (z16 : Int).toNat).length) zs3)),(29,(.int .i64 (((zN.drop (z16 : Int).toNat).length : Nat) : Int))),(30,(.int .i64 z20)),(62,(.bool ziC))] [stb zgy 40 [(.int .i64 z5n.1.fN),(.int .i64 z5n.1.fD)],stb zdu 58 [(.int .i64 ((nth (zN.drop (z16 : Int).toNat) z20).fTime)),(.int .i64 ((nth (zN.drop (z16 : Int).toNat) z20).fVL)),(.int .i64 ((nth (zN.drop (z16 : Int).toNat) z20).fSize))]] 6 ?_ (fun _=>?_)
         ·rcases Bool.eq_false_or_eq_true z7J with hb' | hb'
          ·have zs5:=hb'; clear hb'
           have zgz:=ite_t zs4 zs5
           obtain ⟨zn3,zzQ,zgz⟩:=z8 zgz
           replace zgz:=Option.some.inj zgz
           refine WL.pin (i:=56) rfl zs5 ?_
           refine WL.a (d:=57) rfl rfl rfl (q_m rfl) ?_
           refine WL.a (d:=58) rfl rfl rfl (q_build (v:=(.agg #[(.int .i64 (i64 (z7m + ((nth (zN.drop (z16 : Int).toNat) z20).fSize)))),(.int .i64 1)])) (Eos.parts (l:=[.tmp 57,.const (.int .i64 1)]) (.cons rfl (.cons rfl .nil)) [0,1]) (fun _=>by kernel_rfl)) ?_
           refine WL.a (d:=59) rfl rfl rfl (q_loadA (cs:=[(.int .i64 z5n.1.fN),(.int .i64 z5n.1.fD)]) aggT_40 rfl rfl (rd_all .here)) ?_
           refine WL.b (dd:=60) rfl rfl rfl (zi (l:=[.tmp 58,.tmp 59]) Tryz.call24 (.cons rfl (.cons rfl .nil))) (.nil : Sel [stb zgy 40 [(.int .i64 z5n.1.fN),(.int .i64 z5n.1.fD)],stb zdu 58 [(.int .i64 ((nth (zN.drop (z16 : Int).toNat) z20).fTime)),(.int .i64 ((nth (zN.drop (z16 : Int).toNat) z20).fVL)),(.int .i64 ((nth (zN.drop (z16 : Int).toNat) z20).fSize))]] [] [stb zgy 40 [(.int .i64 z5n.1.fN),(.int .i64 z5n.1.fD)],stb zdu 58 [(.int .i64 ((nth (zN.drop (z16 : Int).toNat) z20).fTime)),(.int .i64 ((nth (zN.drop (z16 : Int).toNat) z20).fVL)),(.int .i64 ((nth (zN.drop (z16 : Int).toNat) z20).fSize))]]) (fun w hw=>by have pz:=(hz.call hw (.nil : Sel [stb zgy 40 [(.int .i64 z5n.1.fN),(.int .i64 z5n.1.fD)],stb zdu 58 [(.int .i64 ((nth (zN.drop (z16 : Int).toNat) z20).fTime)),(.int .i64 ((nth (zN.drop (z16 : Int).toNat) z20).fVL)),(.int .i64 ((nth (zN.drop (z16 : Int).toNat) z20).fSize))]] [] [stb zgy 40 [(.int .i64 z5n.1.fN),(.int .i64 z5n.1.fD)],stb zdu 58 [(.int .i64 ((nth (zN.drop (z16 : Int).toNat) z20).fTime)),(.int .i64 ((nth (zN.drop (z16 : Int).toNat) z20).fVL)),(.int .i64 ((nth (zN.drop (z16 : Int).toNat) z20).fSize))]])); exact w_rat_Cmp (Z:=_)  (z28:=(⟨i64 (z7m + ((nth (zN.drop (z16 : Int).toNat) z20).fSize)),1⟩ : z2)) (z29:=z5n.1) (r:=zn3) w pz  zzQ) ?_
           refine WL.a (d:=61) rfl rfl rfl (q_leq rfl rfl) ?_
           refine WL.a (d:=62) rfl rfl rfl (q_pickT rfl rfl) ?_
           exact WL.cutEnd () trivial (.cons rfl (.cons rfl (.cons rfl (.cons rfl (.cons rfl (.cons rfl (.cons rfl (.cons rfl (.cons rfl (.cons rfl (.cons (zf zgz) .nil))))))))))) (.cons .here (.cons .here .nil))
          ·have zs6:=hb'; clear hb'
           have zne:=ite_f zs4 zs6
           replace zne:=Option.some.inj zne
           refine WL.pin (i:=56) rfl zs6 ?_
           refine WL.e rfl rfl rfl ?_
           refine WL.e rfl rfl rfl ?_
           refine WL.e rfl rfl rfl ?_
           refine WL.e rfl rfl rfl ?_
           refine WL.e rfl rfl rfl ?_
           refine WL.a (d:=62) rfl rfl rfl (q_pickF rfl rfl) ?_
           exact WL.cutEnd () trivial (.cons rfl (.cons rfl (.cons rfl (.cons rfl (.cons rfl (.cons rfl (.cons rfl (.cons rfl (.cons rfl (.cons rfl (.cons (zf zne) .nil))))))))))) (.cons .here (.cons .here .nil))
         ·skip
          refine WL.a (d:=6) rfl rfl rfl (q_z rfl) ?_
          refine WL.nil ?_
          refine WX.blockNormal ?_
          refine WX.a ?_
          refine WC.a ?_
          refine WL.a (d:=63) rfl rfl rfl (q_add rfl rfl rfl) ?_
          refine WL.a (d:=30) rfl rfl rfl (q_m rfl) ?_
          refine WL.nil ?_
          exact WX.round (G:=Nat × Bool × Int × Int) ⟨zn2,ziC,(i64 (z7m + ((nth (zN.drop (z16 : Int).toNat) z20).fSize))),(i64 (z20 + 1))⟩ h (Nat.lt_succ_self _) (.cons rfl (.cons rfl (.cons rfl (.cons rfl (.cons rfl (.cons rfl (.cons rfl (.cons rfl (.cons rfl (.cons rfl .nil)))))))))) .nil
       ·replace h:=ite_f h znc
        refine WC.exit ?_
        refine WX.thenExit ?_
        refine WX.thenExit ?_
        refine WX.blockHit ?_
        exact WX.mid (G:=Bool) z7J h (.cons rfl (.cons rfl (.cons rfl (.cons rfl (.cons rfl .nil))))) .nil
      ·rintro zaY h
       replace h:=(zzK zaY).symm.trans h
       refine WX.blockNormal ?_
       exact WX.mid (G:=Bool) zaY h (.cons rfl (.cons rfl (.cons rfl (.cons rfl (.cons rfl .nil))))) .nil
     ·rintro zaX h
      replace h:=(zzH zaX).symm.trans h
      refine WC.a ?_
      refine WL.a (d:=64) rfl rfl rfl (q_add rfl rfl rfl) ?_
      refine WL.a (d:=23) rfl rfl rfl (q_m rfl) ?_
      refine WL.nil ?_
      exact WX.round (G:=Nat × Bool × Int) ⟨zn4,zaX,(i64 (z16 + 1))⟩ h (Nat.lt_succ_self _) (.cons rfl (.cons rfl (.cons rfl (.cons rfl (.cons rfl .nil))))) .nil
    ·replace h:=ite_f h znb
     refine WC.exit ?_
     refine WX.thenExit ?_
     refine WX.thenExit ?_
     refine WX.blockHit ?_
     exact WX.mid (G:=Bool) z83 h (.cons rfl .nil) .nil
   ·rintro zc4 h
    replace h:=(zzG zc4).symm.trans h
    refine WC.b ?_
    refine WC.a ?_
    refine WL.a (d:=65) rfl rfl rfl (q_m rfl) ?_
    refine WL.a (d:=4) rfl rfl rfl (q_z rfl) ?_
    refine WL.a (d:=5) rfl rfl rfl (q_z rfl) ?_
    refine WL.nil ?_
    refine WX.a ?_
    refine WC.ret ?_
    obtain rfl:=Option.some.inj h
    refine WX.bpRet Tryz.results6 (.tmp rfl (.tmp rfl .nil)) (fun w hw=>?_)
    exact ⟨ret2 rfl rfl,hw.sub .nil⟩
def m_law03_Ints_L2 (z5E : List Int) (z6v : List Int) (zaZ : Option Bool) : Nat → Int → Option Bool
 | 0,_=>none
 | znf + 1,z6w=>if decide (z6w < ((z5E.length : Nat) : Int)) then chk ((0 : Int) ≤ z6w ∧ z6w < ((z5E.length : Nat) : Int)) (chk ((0 : Int) ≤ z6w ∧ z6w < ((z6v.length : Nat) : Int)) (if decide ((nth z5E z6w) ≠ (nth z6v z6w)) then some false else m_law03_Ints_L2 z5E z6v zaZ znf (i64 (z6w + 1)))) else zaZ
theorem m_law03_Ints_L2_fuel {n : Nat} {z5E : List Int} {z6v : List Int} {zaZ : Option Bool} {z6w : Int} {r : Bool} (h : m_law03_Ints_L2 z5E z6v zaZ n z6w = some r) : ∃ m,n = m + 1:=by
 cases n with
 | zero=>cases h
 | succ m=>exact ⟨m,rfl⟩
def m_law03_Ints (z5E : List Int) (z6v : List Int) : Option Bool :=
 if decide (((z5E.length : Nat) : Int) ≠ ((z6v.length : Nat) : Int)) then some false else jp0 (some true) fun zaZ=>m_law03_Ints_L2 z5E z6v zaZ FUEL 0
set_option maxRecDepth 20000 in
theorem w_law03_Ints (Z : Zp)  (zdv : Option Addr) (zdw : Nat) (zdx : Option Addr) (zdy : Nat) (z5E : List Int) (z6v : List Int) (r : Bool) (w₀ : World) (hz : PZ [] w₀ Z)
  (zzR : ZS Z 1 (fun r x=>r = e3 x) zdv zdw z5E)
  (zzS : ZS Z 1 (fun r x=>r = e3 x) zdx zdy z6v)
  (h : m_law03_Ints z5E z6v = some r) :
  Calls Tryz.prog 10 #[(.slice zdv z5E.length zdw),(.slice zdx z6v.length zdy)] w₀ fun e w'=>e = .returned (.bool r) ∧ Hp [] w₀ w' []:=by
 unfold m_law03_Ints at h
 refine Calls.ofWC (vs:=[(.slice zdv z5E.length zdw),(.slice zdx z6v.length zdy)]) (pre:=[]) (env:=[(0,(.slice zdv z5E.length zdw)),(1,(.slice zdx z6v.length zdy))]) Tryz.func10 rfl Tryz.ntmps10 rfl (Hp.nil w₀ _) rfl ?_
 refine WC.b ?_
 refine WC.a ?_
 refine WL.a (d:=4) rfl rfl rfl (q_z rfl) ?_
 refine WL.nil ?_
 refine WX.a ?_
 refine WC.b ?_
 refine WC.b ?_
 refine WC.a ?_
 refine WL.a (d:=6) rfl rfl rfl (q_m rfl) ?_
 refine WL.a (d:=7) rfl rfl rfl (q_len Tryz.underlying31 rfl) ?_
 refine WL.a (d:=8) rfl rfl rfl (q_m rfl) ?_
 refine WL.a (d:=9) rfl rfl rfl (q_len Tryz.underlying31 rfl) ?_
 refine WL.a (d:=10) rfl rfl rfl (q_neq rfl rfl) ?_
 refine WL.nil ?_
 refine WX.a ?_
 refine WC.cond rfl (fun zng=>?_) (fun zng=>?_)
 ·replace h:=ite_t h zng
  refine WC.b ?_
  refine WC.a ?_
  refine WL.a (d:=4) rfl rfl rfl (q_z rfl) ?_
  refine WL.nil ?_
  refine WX.a ?_
  refine WC.ret ?_
  refine WX.thenRet ?_
  obtain rfl:=Option.some.inj h
  refine WX.bpRet Tryz.results10 (.tmp rfl .nil) (fun w hw=>?_)
  exact ⟨ret1 rfl,hw.sub .nil⟩
 ·replace h:=ite_f h zng
  refine WC.skip ?_
  refine WX.a ?_
  obtain ⟨zaZ,zzT,h⟩:=jp0_elim h
  refine WC.seqMid0 ((zaZ = some r)) ([]) ([]) ?_ ?_
  ·skip
   refine WC.b ?_
   refine WC.a ?_
   refine WL.a (d:=11) rfl rfl rfl (q_m rfl) ?_
   refine WL.a (d:=12) rfl rfl rfl (q_len Tryz.underlying31 rfl) ?_
   refine WL.a (d:=13) rfl rfl rfl (q_m rfl) ?_
   refine WL.nil ?_
   refine WX.a ?_
   refine WC.block ?_
   refine WC.loop2 (fun (zeT : Nat) (z6w : Int)=>(m_law03_Ints_L2 z5E z6v zaZ zeT z6w = some r)) (fun (zeT : Nat) (z6w : Int)=>[(0,(.slice zdv z5E.length zdw)),(1,(.slice zdx z6v.length zdy)),(12,(.int .i64 ((z5E.length : Nat) : Int))),(13,(.int .i64 z6w))]) (fun (zeT : Nat) (z6w : Int)=>[]) (fun (zeT : Nat) (z6w : Int)=>zeT) ⟨FUEL,0⟩ h (.cons rfl (.cons rfl (.cons rfl (.cons rfl .nil)))) .nil ?_
   rintro zeT z6w h
   obtain ⟨znf,rfl⟩:=m_law03_Ints_L2_fuel h
   rw [m_law03_Ints_L2] at h
   refine WC.b ?_
   refine WC.a ?_
   refine WL.a (d:=14) rfl rfl rfl (q_lss rfl rfl) ?_
   refine WL.nil ?_
   refine WX.a ?_
   refine WC.b ?_
   refine WC.cond rfl (fun znh=>?_) (fun znh=>?_)
   ·replace h:=ite_t h znh
    refine WC.skip ?_
    refine WX.a ?_
    refine WC.b ?_
    refine WC.block ?_
    refine WC.b ?_
    refine WC.a ?_
    refine WL.a (d:=15) rfl rfl rfl (q_m rfl) ?_
    refine WL.a (d:=5) rfl rfl rfl (q_z rfl) ?_
    refine WL.nil ?_
    refine WX.a ?_
    refine WC.b ?_
    obtain ⟨zzU,h⟩:=chk_elim h
    obtain ⟨zzV,h⟩:=chk_elim h
    refine WC.draw (fun i=>[].contains i) [] rfl ?_
    refine WD.a (i:=0) (d:=16) (by kernel_rfl) rfl (z6 (by kernel_rfl)) (z7 (by kernel_rfl)) rfl rfl rfl (fun _=>q_m rfl) ?_
    refine WD.a (i:=1) (d:=17) (by kernel_rfl) rfl (z6 (by kernel_rfl)) (z7 (by kernel_rfl)) rfl rfl rfl (fun _=>q_m rfl) ?_
    refine WD.znth (j:=2) (dd:=18) (by kernel_rfl) rfl (z6 (by kernel_rfl)) (z7 (by kernel_rfl)) rfl rfl (Z:=Z) (Pr:=(fun r x=>r = e3 x)) elT_31 rfl rfl zzR zzU ?_
    rintro zE4 zE5 zzW zE6 rfl
    refine WD.e (i:=3) (d:=19) (by kernel_rfl) rfl (z6 (by kernel_rfl)) (z7 (by kernel_rfl)) rfl rfl rfl (q_load1 oneT_3 rfl (rd_z hz.pv zzW rfl)) ?_
    refine WD.a (i:=4) (d:=20) (by kernel_rfl) rfl (z6 (by kernel_rfl)) (z7 (by kernel_rfl)) rfl rfl rfl (fun _=>q_m rfl) ?_
    refine WD.a (i:=5) (d:=21) (by kernel_rfl) rfl (z6 (by kernel_rfl)) (z7 (by kernel_rfl)) rfl rfl rfl (fun _=>q_m rfl) ?_
    refine WD.znth (j:=6) (dd:=22) (by kernel_rfl) rfl (z6 (by kernel_rfl)) (z7 (by kernel_rfl)) rfl rfl (Z:=Z) (Pr:=(fun r x=>r = e3 x)) elT_31 rfl rfl zzS zzV ?_
    rintro zE7 zE8 zzX zE9 rfl
    refine WD.e (i:=7) (d:=23) (by kernel_rfl) rfl (z6 (by kernel_rfl)) (z7 (by kernel_rfl)) rfl rfl rfl (q_load1 oneT_3 rfl (rd_z hz.pv zzX rfl)) ?_
    refine WD.a (i:=8) (d:=24) (by kernel_rfl) rfl (z6 (by kernel_rfl)) (z7 (by kernel_rfl)) rfl rfl rfl (fun _=>q_neq rfl rfl) ?_
    refine WD.done (by kernel_rfl) ?_
    refine WX.a ?_
    refine WC.cond rfl (fun zni=>?_) (fun zni=>?_)
    ·replace h:=ite_t h zni
     refine WC.b ?_
     refine WC.a ?_
     refine WL.a (d:=4) rfl rfl rfl (q_z rfl) ?_
     refine WL.nil ?_
     refine WX.a ?_
     refine WC.ret ?_
     refine WX.blockRet ?_
     refine WX.thenRet ?_
     refine WX.thenRet ?_
     refine WX.blockRet ?_
     refine WX.thenRet ?_
     obtain rfl:=Option.some.inj h
     refine WX.bpRet Tryz.results10 (.tmp rfl .nil) (fun w hw=>?_)
     exact ⟨ret1 rfl,hw.sub .nil⟩
    ·replace h:=ite_f h zni
     refine WC.skip ?_
     refine WX.blockNormal ?_
     refine WX.a ?_
     refine WC.a ?_
     refine WL.a (d:=25) rfl rfl rfl (q_add rfl rfl rfl) ?_
     refine WL.a (d:=13) rfl rfl rfl (q_m rfl) ?_
     refine WL.nil ?_
     exact WX.round (G:=Nat × Int) ⟨znf,(i64 (z6w + 1))⟩ h (Nat.lt_succ_self _) (.cons rfl (.cons rfl (.cons rfl (.cons rfl .nil)))) .nil
   ·replace h:=ite_f h znh
    refine WC.exit ?_
    refine WX.thenExit ?_
    refine WX.thenExit ?_
    refine WX.blockHit ?_
    exact WX.mid (G:=Unit) () h .nil .nil
  ·rintro  h
   replace h:=zzT.symm.trans h
   refine WC.b ?_
   refine WC.a ?_
   refine WL.a (d:=4) rfl rfl rfl (q_z rfl) ?_
   refine WL.nil ?_
   refine WX.a ?_
   refine WC.ret ?_
   obtain rfl:=Option.some.inj h
   refine WX.bpRet Tryz.results10 (.tmp rfl .nil) (fun w hw=>?_)
   exact ⟨ret1 rfl,hw.sub .nil⟩
end Go.Proofs.YtakfmdiiehcbdaaGreat
