/- A part of this claim's proof: models of functions, walks, plain laws. No conditions. -/
import Derived.Test.YtbihfglmcjkdhaaW02a
namespace Go.Proofs.Ytbihfglmcjkdhaa
open Go Go.RowKit Sep
set_option linter.all false
set_option maxRecDepth 30000
set_option maxHeartbeats 4000000
def m_rat_doc (z1f : z2) (z1g : z2) : Option (z2 × Int) :=
 (m_rat_Valid z1f).bind fun zex=>(if !zex then some true else (m_rat_Valid z1g).bind fun zgQ=>some (!zgQ)).bind fun zdf=>if zdf then some ((⟨0,0⟩ : z2),2) else (m_rat_do_2 z1f z1g).bind fun zbs=>(m_rat_Make zbs.1 zbs.2).bind fun z9C=>some (z9C.1,z9C.2)
set_option maxRecDepth 20000 in
theorem w_rat_doc (Z : Zp)   (z1f : z2) (z1g : z2) (r : z2 × Int) (w₀ : World) (hz : PZ [] w₀ Z)
  (h : m_rat_doc z1f z1g = some r) :
  Calls Try.prog 39 #[(.string ⟨#[45]⟩),(.agg #[(.int .i64 z1f.fN),(.int .i64 z1f.fD)]),(.agg #[(.int .i64 z1g.fN),(.int .i64 z1g.fD)])] w₀ fun e w'=>e = .returned (.tuple #[(.agg #[(.int .i64 r.1.fN),(.int .i64 r.1.fD)]),(.int .i64 r.2)]) ∧ Hp [] w₀ w' []:=by
 unfold m_rat_doc at h
 refine Calls.ofWC (vs:=[(.string ⟨#[45]⟩),(.agg #[(.int .i64 z1f.fN),(.int .i64 z1f.fD)]),(.agg #[(.int .i64 z1g.fN),(.int .i64 z1g.fD)])]) (pre:=[]) (env:=[(0,(.string ⟨#[45]⟩)),(1,(.agg #[(.int .i64 z1f.fN),(.int .i64 z1f.fD)])),(2,(.agg #[(.int .i64 z1g.fN),(.int .i64 z1g.fD)]))]) Try.func39 rfl Try.ntmps39 rfl (Hp.nil w₀ _) rfl ?_
 refine WC.seq ?_
 refine WC.region ?_
 refine WL.new (dd:=4) rfl rfl rfl (e_box (cs:=[(.int .i64 z1f.fN),(.int .i64 z1f.fD)]) rfl rfl) ?_
 intro zL _
 refine WL.new (dd:=5) rfl rfl rfl (e_box (cs:=[(.int .i64 z1g.fN),(.int .i64 z1g.fD)]) rfl rfl) ?_
 intro zM _
 refine WL.new (dd:=6) rfl rfl rfl (e_alloc (cs:=[(.int .i64 0),(.int .i64 0)]) zeroT_28 rfl) ?_
 intro z3U _
 refine WL.quiet (d:=7) rfl rfl rfl (q_assign rfl) ?_
 refine WL.nil ?_
 refine WX.then ?_
 refine WC.seq ?_
 refine WC.seq ?_
 obtain ⟨zex,zq2,h⟩:=zb h
 obtain ⟨zdf,zlG,h⟩:=zb h
 refine WC.region ?_
 refine WL.quiet (d:=9) rfl rfl rfl (q_loadA (cs:=[(.int .i64 z1f.fN),(.int .i64 z1f.fD)]) aggT_28 rfl rfl (rd_all (.there (.there .here)))) ?_
 refine WL.callD (dd:=10) rfl rfl rfl (zg (l:=[.tmp 9]) Try.call42 (.cons rfl .nil)) (.nil : Sel [stb z3U 28 [(.int .i64 0),(.int .i64 0)],stb zM 28 [(.int .i64 z1g.fN),(.int .i64 z1g.fD)],stb zL 28 [(.int .i64 z1f.fN),(.int .i64 z1f.fD)]] [] [stb z3U 28 [(.int .i64 0),(.int .i64 0)],stb zM 28 [(.int .i64 z1g.fN),(.int .i64 z1g.fD)],stb zL 28 [(.int .i64 z1f.fN),(.int .i64 z1f.fD)]]) (fun w hw=>by have pz:=(hz.call hw (.nil : Sel [stb z3U 28 [(.int .i64 0),(.int .i64 0)],stb zM 28 [(.int .i64 z1g.fN),(.int .i64 z1g.fD)],stb zL 28 [(.int .i64 z1f.fN),(.int .i64 z1f.fD)]] [] [stb z3U 28 [(.int .i64 0),(.int .i64 0)],stb zM 28 [(.int .i64 z1g.fN),(.int .i64 z1g.fD)],stb zL 28 [(.int .i64 z1f.fN),(.int .i64 z1f.fD)]])); exact w_rat_Valid (Z:=_)  (z1q:=z1f) (r:=zex) w pz  zq2) ?_
 refine WL.quiet (d:=11) rfl rfl rfl (q_not rfl) ?_
 refine WL.quiet (d:=12) rfl rfl rfl (q_move rfl) ?_
 refine WL.cut0 True [(0,(.string ⟨#[45]⟩)),(4,(.pointer (some ⟨zL,0,none⟩))),(5,(.pointer (some ⟨zM,0,none⟩))),(6,(.pointer (some ⟨z3U,0,none⟩))),(16,(.bool zdf))] [stb z3U 28 [(.int .i64 0),(.int .i64 0)],stb zM 28 [(.int .i64 z1g.fN),(.int .i64 z1g.fD)],stb zL 28 [(.int .i64 z1f.fN),(.int .i64 z1f.fD)]] 4 ?_ (fun _=>?_)
 ·rcases Bool.eq_false_or_eq_true (!zex) with hb' | hb'
  ·have zlH:=hb'; clear hb'
   have zgR:=ite_t zlG zlH
   replace zgR:=Option.some.inj zgR
   refine WL.pin (i:=12) rfl zlH ?_
   refine WL.skip rfl rfl rfl ?_
   refine WL.skip rfl rfl rfl ?_
   refine WL.skip rfl rfl rfl ?_
   refine WL.quiet (d:=16) rfl rfl rfl (q_pickT rfl rfl) ?_
   exact WL.cutEnd () trivial (.cons rfl (.cons rfl (.cons rfl (.cons rfl (.cons (zl zgR) .nil))))) (.cons .here (.cons .here (.cons .here .nil)))
  ·have zlI:=hb'; clear hb'
   have zdg:=ite_f zlG zlI
   obtain ⟨zgQ,zq3,zdg⟩:=zb zdg
   replace zdg:=Option.some.inj zdg
   refine WL.pin (i:=12) rfl zlI ?_
   refine WL.quiet (d:=13) rfl rfl rfl (q_loadA (cs:=[(.int .i64 z1g.fN),(.int .i64 z1g.fD)]) aggT_28 rfl rfl (rd_all (.there .here))) ?_
   refine WL.callD (dd:=14) rfl rfl rfl (zg (l:=[.tmp 13]) Try.call42 (.cons rfl .nil)) (.nil : Sel [stb z3U 28 [(.int .i64 0),(.int .i64 0)],stb zM 28 [(.int .i64 z1g.fN),(.int .i64 z1g.fD)],stb zL 28 [(.int .i64 z1f.fN),(.int .i64 z1f.fD)]] [] [stb z3U 28 [(.int .i64 0),(.int .i64 0)],stb zM 28 [(.int .i64 z1g.fN),(.int .i64 z1g.fD)],stb zL 28 [(.int .i64 z1f.fN),(.int .i64 z1f.fD)]]) (fun w hw=>by have pz:=(hz.call hw (.nil : Sel [stb z3U 28 [(.int .i64 0),(.int .i64 0)],stb zM 28 [(.int .i64 z1g.fN),(.int .i64 z1g.fD)],stb zL 28 [(.int .i64 z1f.fN),(.int .i64 z1f.fD)]] [] [stb z3U 28 [(.int .i64 0),(.int .i64 0)],stb zM 28 [(.int .i64 z1g.fN),(.int .i64 z1g.fD)],stb zL 28 [(.int .i64 z1f.fN),(.int .i64 z1f.fD)]])); exact w_rat_Valid (Z:=_)  (z1q:=z1g) (r:=zgQ) w pz  zq3) ?_
   refine WL.quiet (d:=15) rfl rfl rfl (q_not rfl) ?_
   refine WL.quiet (d:=16) rfl rfl rfl (q_pickF rfl rfl) ?_
   exact WL.cutEnd () trivial (.cons rfl (.cons rfl (.cons rfl (.cons rfl (.cons (zl zdg) .nil))))) (.cons .here (.cons .here (.cons .here .nil)))
 ·skip
  refine WL.quiet (d:=17) rfl rfl rfl (q_move rfl) ?_
  refine WL.cut0 True [(0,(.string ⟨#[45]⟩)),(4,(.pointer (some ⟨zL,0,none⟩))),(5,(.pointer (some ⟨zM,0,none⟩))),(6,(.pointer (some ⟨z3U,0,none⟩))),(25,(.bool zdf))] [stb z3U 28 [(.int .i64 0),(.int .i64 0)],stb zM 28 [(.int .i64 z1g.fN),(.int .i64 z1g.fD)],stb zL 28 [(.int .i64 z1f.fN),(.int .i64 z1f.fD)]] 8 ?_ (fun _=>?_)
  ·rcases Bool.eq_false_or_eq_true zdf with hb' | hb'
   ·have zlJ:=hb'; clear hb'
    refine WL.pin (i:=17) rfl zlJ ?_
    refine WL.skip rfl rfl rfl ?_
    refine WL.skip rfl rfl rfl ?_
    refine WL.skip rfl rfl rfl ?_
    refine WL.skip rfl rfl rfl ?_
    refine WL.skip rfl rfl rfl ?_
    refine WL.skip rfl rfl rfl ?_
    refine WL.skip rfl rfl rfl ?_
    refine WL.quiet (d:=25) rfl rfl rfl (q_pickT rfl rfl) ?_
    exact WL.cutEnd () trivial (.cons rfl (.cons rfl (.cons rfl (.cons rfl (.cons (zl (Eq.symm zlJ)) .nil))))) (.cons .here (.cons .here (.cons .here .nil)))
   ·have zlK:=hb'; clear hb'
    refine WL.pin (i:=17) rfl zlK ?_
    refine WL.quiet (d:=18) rfl rfl rfl (q_move rfl) ?_
    refine WL.quiet (d:=19) rfl rfl rfl (q_seqlC (r:=false) (by decide) rfl rfl) ?_
    refine WL.quiet (d:=20) rfl rfl rfl (q_move rfl) ?_
    refine WL.skip rfl rfl rfl ?_
    refine WL.skip rfl rfl rfl ?_
    refine WL.skip rfl rfl rfl ?_
    refine WL.quiet (d:=24) rfl rfl rfl (q_pickF rfl rfl) ?_
    refine WL.quiet (d:=25) rfl rfl rfl (q_pickF rfl rfl) ?_
    exact WL.cutEnd () trivial (.cons rfl (.cons rfl (.cons rfl (.cons rfl (.cons (zl (Eq.symm zlK)) .nil))))) (.cons .here (.cons .here (.cons .here .nil)))
  ·skip
   refine WL.nil ?_
   refine WX.then ?_
   refine WC.cond rfl (fun zgS=>?_) (fun zgS=>?_)
   ·replace h:=ite_t h zgS
    refine WC.seq ?_
    refine WC.region ?_
    refine WL.quiet (d:=26) rfl rfl rfl (q_build (v:=(.agg #[(.int .i64 0),(.int .i64 0)])) (Eos.parts (l:=[]) .nil []) (fun _=>by kernel_rfl)) ?_
    refine WL.eff0 rfl rfl (e_store (vs:=[(.int .i64 0),(.int .i64 0)]) (ds:=[(.int .i64 0),(.int .i64 0)]) sizT_28 rfl rfl rfl rfl (oc_cons rfl (oc_cons rfl oc_nil)) .here (Nat.le_of_ble_eq_true rfl) rfl) ?_
    refine WL.quiet (d:=7) rfl rfl rfl (q_assign rfl) ?_
    refine WL.nil ?_
    refine WX.then ?_
    refine WC.ret ?_
    refine WX.thenRet ?_
    obtain rfl:=Option.some.inj h
    refine WX.bpRet Try.results39 (.agg rfl aggT_28 rfl (rd_all .here) (.tmp rfl .nil)) (fun w hw=>?_)
    exact ⟨ret2 rfl rfl,hw.sub .nil⟩
   ·replace h:=ite_f h zgS
    refine WC.skip ?_
    refine WX.then ?_
    refine WC.seq ?_
    refine WC.region ?_
    refine WL.new (dd:=27) rfl rfl rfl (e_makeMap Value.string (fun x=>x)) ?_
    intro z6r _
    refine WL.quiet (d:=28) rfl rfl rfl (q_makeFunc (Eos.caps (l:=[.tmp 4,.tmp 5]) (.cons rfl (.cons rfl .nil)))) ?_
    refine WL.eff0 rfl rfl (e_insert (k:=⟨#[43]⟩) (v:=(.func (.func 64) #[] #[(.pointer (some ⟨zL,0,none⟩)),(.pointer (some ⟨zM,0,none⟩))])) keyT_9 Try.underlying94 rfl rfl rfl rfl .here) ?_
    refine WL.quiet (d:=29) rfl rfl rfl (q_makeFunc (Eos.caps (l:=[.tmp 4,.tmp 5]) (.cons rfl (.cons rfl .nil)))) ?_
    refine WL.eff0 rfl rfl (e_insert (k:=⟨#[45]⟩) (v:=(.func (.func 65) #[] #[(.pointer (some ⟨zL,0,none⟩)),(.pointer (some ⟨zM,0,none⟩))])) keyT_9 Try.underlying94 rfl rfl rfl rfl .here) ?_
    refine WL.quiet (d:=30) rfl rfl rfl (q_makeFunc (Eos.caps (l:=[.tmp 4,.tmp 5]) (.cons rfl (.cons rfl .nil)))) ?_
    refine WL.eff0 rfl rfl (e_insert (k:=⟨#[42]⟩) (v:=(.func (.func 66) #[] #[(.pointer (some ⟨zL,0,none⟩)),(.pointer (some ⟨zM,0,none⟩))])) keyT_9 Try.underlying94 rfl rfl rfl rfl .here) ?_
    refine WL.quiet (d:=31) rfl rfl rfl (q_makeFunc (Eos.caps (l:=[.tmp 4,.tmp 5]) (.cons rfl (.cons rfl .nil)))) ?_
    refine WL.eff0 rfl rfl (e_insert (k:=⟨#[47]⟩) (v:=(.func (.func 67) #[] #[(.pointer (some ⟨zL,0,none⟩)),(.pointer (some ⟨zM,0,none⟩))])) keyT_9 Try.underlying94 rfl rfl rfl rfl .here) ?_
    refine WL.quiet (d:=32) rfl rfl rfl (q_move rfl) ?_
    refine WL.quiet (d:=8) rfl rfl rfl (q_assign rfl) ?_
    refine WL.nil ?_
    refine WX.then ?_
    refine WC.seq ?_
    obtain ⟨zbs,zq4,h⟩:=zb h
    obtain ⟨z9C,zq5,h⟩:=zb h
    refine WC.region ?_
    refine WL.quiet (d:=33) rfl rfl rfl (q_move rfl) ?_
    refine WL.quiet (d:=34) rfl rfl rfl (q_move rfl) ?_
    refine WL.quiet (d:=35) rfl rfl rfl (q_lookC (k:=⟨#[45]⟩) (dflt:=.nilFunc) (r:=(.func (.func 65) #[] #[(.pointer (some ⟨zL,0,none⟩)),(.pointer (some ⟨zM,0,none⟩))])) keyT_9 Try.underlying94 zeroT_93 rfl rfl rfl .here (by rfl)) ?_
    refine WL.callD (dd:=36) rfl rfl rfl (run_callv (l:=[]) Try.call65 rfl .nil) (.nil : Sel [mapA z6r Value.string (fun x=>x) [(⟨#[43]⟩,(.func (.func 64) #[] #[(.pointer (some ⟨zL,0,none⟩)),(.pointer (some ⟨zM,0,none⟩))])),(⟨#[45]⟩,(.func (.func 65) #[] #[(.pointer (some ⟨zL,0,none⟩)),(.pointer (some ⟨zM,0,none⟩))])),(⟨#[42]⟩,(.func (.func 66) #[] #[(.pointer (some ⟨zL,0,none⟩)),(.pointer (some ⟨zM,0,none⟩))])),(⟨#[47]⟩,(.func (.func 67) #[] #[(.pointer (some ⟨zL,0,none⟩)),(.pointer (some ⟨zM,0,none⟩))]))],stb z3U 28 [(.int .i64 0),(.int .i64 0)],stb zM 28 [(.int .i64 z1g.fN),(.int .i64 z1g.fD)],stb zL 28 [(.int .i64 z1f.fN),(.int .i64 z1f.fD)]] [] [mapA z6r Value.string (fun x=>x) [(⟨#[43]⟩,(.func (.func 64) #[] #[(.pointer (some ⟨zL,0,none⟩)),(.pointer (some ⟨zM,0,none⟩))])),(⟨#[45]⟩,(.func (.func 65) #[] #[(.pointer (some ⟨zL,0,none⟩)),(.pointer (some ⟨zM,0,none⟩))])),(⟨#[42]⟩,(.func (.func 66) #[] #[(.pointer (some ⟨zL,0,none⟩)),(.pointer (some ⟨zM,0,none⟩))])),(⟨#[47]⟩,(.func (.func 67) #[] #[(.pointer (some ⟨zL,0,none⟩)),(.pointer (some ⟨zM,0,none⟩))]))],stb z3U 28 [(.int .i64 0),(.int .i64 0)],stb zM 28 [(.int .i64 z1g.fN),(.int .i64 z1g.fD)],stb zL 28 [(.int .i64 z1f.fN),(.int .i64 z1f.fD)]]) (fun w hw=>by have pz:=(hz.call hw (.nil : Sel [mapA z6r Value.string (fun x=>x) [(⟨#[43]⟩,(.func (.func 64) #[] #[(.pointer (some ⟨zL,0,none⟩)),(.pointer (some ⟨zM,0,none⟩))])),(⟨#[45]⟩,(.func (.func 65) #[] #[(.pointer (some ⟨zL,0,none⟩)),(.pointer (some ⟨zM,0,none⟩))])),(⟨#[42]⟩,(.func (.func 66) #[] #[(.pointer (some ⟨zL,0,none⟩)),(.pointer (some ⟨zM,0,none⟩))])),(⟨#[47]⟩,(.func (.func 67) #[] #[(.pointer (some ⟨zL,0,none⟩)),(.pointer (some ⟨zM,0,none⟩))]))],stb z3U 28 [(.int .i64 0),(.int .i64 0)],stb zM 28 [(.int .i64 z1g.fN),(.int .i64 z1g.fD)],stb zL 28 [(.int .i64 z1f.fN),(.int .i64 z1f.fD)]] [] [mapA z6r Value.string (fun x=>x) [(⟨#[43]⟩,(.func (.func 64) #[] #[(.pointer (some ⟨zL,0,none⟩)),(.pointer (some ⟨zM,0,none⟩))])),(⟨#[45]⟩,(.func (.func 65) #[] #[(.pointer (some ⟨zL,0,none⟩)),(.pointer (some ⟨zM,0,none⟩))])),(⟨#[42]⟩,(.func (.func 66) #[] #[(.pointer (some ⟨zL,0,none⟩)),(.pointer (some ⟨zM,0,none⟩))])),(⟨#[47]⟩,(.func (.func 67) #[] #[(.pointer (some ⟨zL,0,none⟩)),(.pointer (some ⟨zM,0,none⟩))]))],stb z3U 28 [(.int .i64 0),(.int .i64 0)],stb zM 28 [(.int .i64 z1g.fN),(.int .i64 z1g.fD)],stb zL 28 [(.int .i64 z1f.fN),(.int .i64 z1f.fD)]])).lend hw (.nil : Sel [mapA z6r Value.string (fun x=>x) [(⟨#[43]⟩,(.func (.func 64) #[] #[(.pointer (some ⟨zL,0,none⟩)),(.pointer (some ⟨zM,0,none⟩))])),(⟨#[45]⟩,(.func (.func 65) #[] #[(.pointer (some ⟨zL,0,none⟩)),(.pointer (some ⟨zM,0,none⟩))])),(⟨#[42]⟩,(.func (.func 66) #[] #[(.pointer (some ⟨zL,0,none⟩)),(.pointer (some ⟨zM,0,none⟩))])),(⟨#[47]⟩,(.func (.func 67) #[] #[(.pointer (some ⟨zL,0,none⟩)),(.pointer (some ⟨zM,0,none⟩))]))],stb z3U 28 [(.int .i64 0),(.int .i64 0)],stb zM 28 [(.int .i64 z1g.fN),(.int .i64 z1g.fD)],stb zL 28 [(.int .i64 z1f.fN),(.int .i64 z1f.fD)]] [] [mapA z6r Value.string (fun x=>x) [(⟨#[43]⟩,(.func (.func 64) #[] #[(.pointer (some ⟨zL,0,none⟩)),(.pointer (some ⟨zM,0,none⟩))])),(⟨#[45]⟩,(.func (.func 65) #[] #[(.pointer (some ⟨zL,0,none⟩)),(.pointer (some ⟨zM,0,none⟩))])),(⟨#[42]⟩,(.func (.func 66) #[] #[(.pointer (some ⟨zL,0,none⟩)),(.pointer (some ⟨zM,0,none⟩))])),(⟨#[47]⟩,(.func (.func 67) #[] #[(.pointer (some ⟨zL,0,none⟩)),(.pointer (some ⟨zM,0,none⟩))]))],stb z3U 28 [(.int .i64 0),(.int .i64 0)],stb zM 28 [(.int .i64 z1g.fN),(.int .i64 z1g.fD)],stb zL 28 [(.int .i64 z1f.fN),(.int .i64 z1f.fD)]]) (B:=[stb zL 28 [(.int .i64 z1f.fN),(.int .i64 z1f.fD)],stb zM 28 [(.int .i64 z1g.fN),(.int .i64 z1g.fD)]]) (fun _ hx'=>((.cons (.there (.there (.there .here))) (.cons (.there (.there .here)) .nil)) : Sel _ [stb zL 28 [(.int .i64 z1f.fN),(.int .i64 z1f.fD)],stb zM 28 [(.int .i64 z1g.fN),(.int .i64 z1g.fD)]] _).mem hx'); exact w_rat_do_2 (Z:=_) (zdd:=⟨zL,0,none⟩) (zde:=⟨zM,0,none⟩) (z9A:=z1f) (z9B:=z1g) (r:=zbs) w pz ((hw.lent (.nil : Sel [mapA z6r Value.string (fun x=>x) [(⟨#[43]⟩,(.func (.func 64) #[] #[(.pointer (some ⟨zL,0,none⟩)),(.pointer (some ⟨zM,0,none⟩))])),(⟨#[45]⟩,(.func (.func 65) #[] #[(.pointer (some ⟨zL,0,none⟩)),(.pointer (some ⟨zM,0,none⟩))])),(⟨#[42]⟩,(.func (.func 66) #[] #[(.pointer (some ⟨zL,0,none⟩)),(.pointer (some ⟨zM,0,none⟩))])),(⟨#[47]⟩,(.func (.func 67) #[] #[(.pointer (some ⟨zL,0,none⟩)),(.pointer (some ⟨zM,0,none⟩))]))],stb z3U 28 [(.int .i64 0),(.int .i64 0)],stb zM 28 [(.int .i64 z1g.fN),(.int .i64 z1g.fD)],stb zL 28 [(.int .i64 z1f.fN),(.int .i64 z1f.fD)]] [] [mapA z6r Value.string (fun x=>x) [(⟨#[43]⟩,(.func (.func 64) #[] #[(.pointer (some ⟨zL,0,none⟩)),(.pointer (some ⟨zM,0,none⟩))])),(⟨#[45]⟩,(.func (.func 65) #[] #[(.pointer (some ⟨zL,0,none⟩)),(.pointer (some ⟨zM,0,none⟩))])),(⟨#[42]⟩,(.func (.func 66) #[] #[(.pointer (some ⟨zL,0,none⟩)),(.pointer (some ⟨zM,0,none⟩))])),(⟨#[47]⟩,(.func (.func 67) #[] #[(.pointer (some ⟨zL,0,none⟩)),(.pointer (some ⟨zM,0,none⟩))]))],stb z3U 28 [(.int .i64 0),(.int .i64 0)],stb zM 28 [(.int .i64 z1g.fN),(.int .i64 z1g.fD)],stb zL 28 [(.int .i64 z1f.fN),(.int .i64 z1f.fD)]]) (B:=[stb zL 28 [(.int .i64 z1f.fN),(.int .i64 z1f.fD)],stb zM 28 [(.int .i64 z1g.fN),(.int .i64 z1g.fD)]]) (fun _ hx'=>((.cons (.there (.there (.there .here))) (.cons (.there (.there .here)) .nil)) : Sel _ [stb zL 28 [(.int .i64 z1f.fN),(.int .i64 z1f.fD)],stb zM 28 [(.int .i64 z1g.fN),(.int .i64 z1g.fD)]] _).mem hx') (.head _) _).stb) ((hw.lent (.nil : Sel [mapA z6r Value.string (fun x=>x) [(⟨#[43]⟩,(.func (.func 64) #[] #[(.pointer (some ⟨zL,0,none⟩)),(.pointer (some ⟨zM,0,none⟩))])),(⟨#[45]⟩,(.func (.func 65) #[] #[(.pointer (some ⟨zL,0,none⟩)),(.pointer (some ⟨zM,0,none⟩))])),(⟨#[42]⟩,(.func (.func 66) #[] #[(.pointer (some ⟨zL,0,none⟩)),(.pointer (some ⟨zM,0,none⟩))])),(⟨#[47]⟩,(.func (.func 67) #[] #[(.pointer (some ⟨zL,0,none⟩)),(.pointer (some ⟨zM,0,none⟩))]))],stb z3U 28 [(.int .i64 0),(.int .i64 0)],stb zM 28 [(.int .i64 z1g.fN),(.int .i64 z1g.fD)],stb zL 28 [(.int .i64 z1f.fN),(.int .i64 z1f.fD)]] [] [mapA z6r Value.string (fun x=>x) [(⟨#[43]⟩,(.func (.func 64) #[] #[(.pointer (some ⟨zL,0,none⟩)),(.pointer (some ⟨zM,0,none⟩))])),(⟨#[45]⟩,(.func (.func 65) #[] #[(.pointer (some ⟨zL,0,none⟩)),(.pointer (some ⟨zM,0,none⟩))])),(⟨#[42]⟩,(.func (.func 66) #[] #[(.pointer (some ⟨zL,0,none⟩)),(.pointer (some ⟨zM,0,none⟩))])),(⟨#[47]⟩,(.func (.func 67) #[] #[(.pointer (some ⟨zL,0,none⟩)),(.pointer (some ⟨zM,0,none⟩))]))],stb z3U 28 [(.int .i64 0),(.int .i64 0)],stb zM 28 [(.int .i64 z1g.fN),(.int .i64 z1g.fD)],stb zL 28 [(.int .i64 z1f.fN),(.int .i64 z1f.fD)]]) (B:=[stb zL 28 [(.int .i64 z1f.fN),(.int .i64 z1f.fD)],stb zM 28 [(.int .i64 z1g.fN),(.int .i64 z1g.fD)]]) (fun _ hx'=>((.cons (.there (.there (.there .here))) (.cons (.there (.there .here)) .nil)) : Sel _ [stb zL 28 [(.int .i64 z1f.fN),(.int .i64 z1f.fD)],stb zM 28 [(.int .i64 z1g.fN),(.int .i64 z1g.fD)]] _).mem hx') (.tail _ (.head _)) _).stb) zq4) ?_
    refine WL.quiet (d:=37) rfl rfl rfl (q_extract rfl rfl) ?_
    refine WL.quiet (d:=38) rfl rfl rfl (q_extract rfl rfl) ?_
    refine WL.callD (dd:=39) rfl rfl rfl (zg (l:=[.tmp 37,.tmp 38]) Try.call38 (.cons rfl (.cons rfl .nil))) (.nil : Sel [mapA z6r Value.string (fun x=>x) [(⟨#[43]⟩,(.func (.func 64) #[] #[(.pointer (some ⟨zL,0,none⟩)),(.pointer (some ⟨zM,0,none⟩))])),(⟨#[45]⟩,(.func (.func 65) #[] #[(.pointer (some ⟨zL,0,none⟩)),(.pointer (some ⟨zM,0,none⟩))])),(⟨#[42]⟩,(.func (.func 66) #[] #[(.pointer (some ⟨zL,0,none⟩)),(.pointer (some ⟨zM,0,none⟩))])),(⟨#[47]⟩,(.func (.func 67) #[] #[(.pointer (some ⟨zL,0,none⟩)),(.pointer (some ⟨zM,0,none⟩))]))],stb z3U 28 [(.int .i64 0),(.int .i64 0)],stb zM 28 [(.int .i64 z1g.fN),(.int .i64 z1g.fD)],stb zL 28 [(.int .i64 z1f.fN),(.int .i64 z1f.fD)]] [] [mapA z6r Value.string (fun x=>x) [(⟨#[43]⟩,(.func (.func 64) #[] #[(.pointer (some ⟨zL,0,none⟩)),(.pointer (some ⟨zM,0,none⟩))])),(⟨#[45]⟩,(.func (.func 65) #[] #[(.pointer (some ⟨zL,0,none⟩)),(.pointer (some ⟨zM,0,none⟩))])),(⟨#[42]⟩,(.func (.func 66) #[] #[(.pointer (some ⟨zL,0,none⟩)),(.pointer (some ⟨zM,0,none⟩))])),(⟨#[47]⟩,(.func (.func 67) #[] #[(.pointer (some ⟨zL,0,none⟩)),(.pointer (some ⟨zM,0,none⟩))]))],stb z3U 28 [(.int .i64 0),(.int .i64 0)],stb zM 28 [(.int .i64 z1g.fN),(.int .i64 z1g.fD)],stb zL 28 [(.int .i64 z1f.fN),(.int .i64 z1f.fD)]]) (fun w hw=>by have pz:=(hz.call hw (.nil : Sel [mapA z6r Value.string (fun x=>x) [(⟨#[43]⟩,(.func (.func 64) #[] #[(.pointer (some ⟨zL,0,none⟩)),(.pointer (some ⟨zM,0,none⟩))])),(⟨#[45]⟩,(.func (.func 65) #[] #[(.pointer (some ⟨zL,0,none⟩)),(.pointer (some ⟨zM,0,none⟩))])),(⟨#[42]⟩,(.func (.func 66) #[] #[(.pointer (some ⟨zL,0,none⟩)),(.pointer (some ⟨zM,0,none⟩))])),(⟨#[47]⟩,(.func (.func 67) #[] #[(.pointer (some ⟨zL,0,none⟩)),(.pointer (some ⟨zM,0,none⟩))]))],stb z3U 28 [(.int .i64 0),(.int .i64 0)],stb zM 28 [(.int .i64 z1g.fN),(.int .i64 z1g.fD)],stb zL 28 [(.int .i64 z1f.fN),(.int .i64 z1f.fD)]] [] [mapA z6r Value.string (fun x=>x) [(⟨#[43]⟩,(.func (.func 64) #[] #[(.pointer (some ⟨zL,0,none⟩)),(.pointer (some ⟨zM,0,none⟩))])),(⟨#[45]⟩,(.func (.func 65) #[] #[(.pointer (some ⟨zL,0,none⟩)),(.pointer (some ⟨zM,0,none⟩))])),(⟨#[42]⟩,(.func (.func 66) #[] #[(.pointer (some ⟨zL,0,none⟩)),(.pointer (some ⟨zM,0,none⟩))])),(⟨#[47]⟩,(.func (.func 67) #[] #[(.pointer (some ⟨zL,0,none⟩)),(.pointer (some ⟨zM,0,none⟩))]))],stb z3U 28 [(.int .i64 0),(.int .i64 0)],stb zM 28 [(.int .i64 z1g.fN),(.int .i64 z1g.fD)],stb zL 28 [(.int .i64 z1f.fN),(.int .i64 z1f.fD)]])); exact w_rat_Make (Z:=_)  (n_22:=zbs.1) (d_23:=zbs.2) (r:=z9C) w pz  zq5) ?_
    refine WL.quiet (d:=40) rfl rfl rfl (q_extract rfl rfl) ?_
    refine WL.quiet (d:=41) rfl rfl rfl (q_extract rfl rfl) ?_
    refine WL.eff0 rfl rfl (e_store (vs:=[(.int .i64 z9C.1.fN),(.int .i64 z9C.1.fD)]) (ds:=[(.int .i64 z9C.1.fN),(.int .i64 z9C.1.fD)]) sizT_28 rfl rfl rfl rfl (oc_cons rfl (oc_cons rfl oc_nil)) (.there .here) (Nat.le_of_ble_eq_true rfl) rfl) ?_
    refine WL.quiet (d:=7) rfl rfl rfl (q_assign rfl) ?_
    refine WL.nil ?_
    refine WX.then ?_
    refine WC.ret ?_
    obtain rfl:=Option.some.inj h
    refine WX.bpRet Try.results39 (.agg rfl aggT_28 rfl (rd_all .here) (.tmp rfl .nil)) (fun w hw=>?_)
    exact ⟨ret2 rfl rfl,hw.sub .nil⟩
def m_rat_Sub (z49 : z2) (z4a : z2) : Option (z2 × Int) :=
 (m_rat_doc z49 z4a).bind fun z9D=>some (z9D.1,z9D.2)
set_option maxRecDepth 20000 in
theorem w_rat_Sub (Z : Zp)   (z49 : z2) (z4a : z2) (r : z2 × Int) (w₀ : World) (hz : PZ [] w₀ Z)
  (h : m_rat_Sub z49 z4a = some r) :
  Calls Try.prog 14 #[(.agg #[(.int .i64 z49.fN),(.int .i64 z49.fD)]),(.agg #[(.int .i64 z4a.fN),(.int .i64 z4a.fD)])] w₀ fun e w'=>e = .returned (.tuple #[(.agg #[(.int .i64 r.1.fN),(.int .i64 r.1.fD)]),(.int .i64 r.2)]) ∧ Hp [] w₀ w' []:=by
 unfold m_rat_Sub at h
 refine Calls.ofWC (vs:=[(.agg #[(.int .i64 z49.fN),(.int .i64 z49.fD)]),(.agg #[(.int .i64 z4a.fN),(.int .i64 z4a.fD)])]) (pre:=[]) (env:=[(0,(.agg #[(.int .i64 z49.fN),(.int .i64 z49.fD)])),(1,(.agg #[(.int .i64 z4a.fN),(.int .i64 z4a.fD)]))]) Try.func14 rfl Try.ntmps14 rfl (Hp.nil w₀ _) rfl ?_
 refine WC.seq ?_
 refine WC.region ?_
 refine WL.new (dd:=2) rfl rfl rfl (e_box (cs:=[(.int .i64 z49.fN),(.int .i64 z49.fD)]) rfl rfl) ?_
 intro zey _
 refine WL.new (dd:=3) rfl rfl rfl (e_box (cs:=[(.int .i64 z4a.fN),(.int .i64 z4a.fD)]) rfl rfl) ?_
 intro zez _
 refine WL.new (dd:=4) rfl rfl rfl (e_alloc (cs:=[(.int .i64 0),(.int .i64 0)]) zeroT_28 rfl) ?_
 intro zeA _
 refine WL.quiet (d:=5) rfl rfl rfl (q_assign rfl) ?_
 refine WL.nil ?_
 refine WX.then ?_
 refine WC.seq ?_
 obtain ⟨z9D,zq6,h⟩:=zb h
 refine WC.region ?_
 refine WL.quiet (d:=6) rfl rfl rfl (q_loadA (cs:=[(.int .i64 z49.fN),(.int .i64 z49.fD)]) aggT_28 rfl rfl (rd_all (.there (.there .here)))) ?_
 refine WL.quiet (d:=7) rfl rfl rfl (q_loadA (cs:=[(.int .i64 z4a.fN),(.int .i64 z4a.fD)]) aggT_28 rfl rfl (rd_all (.there .here))) ?_
 refine WL.callD (dd:=8) rfl rfl rfl (zg (l:=[.const (.string ⟨#[45]⟩),.tmp 6,.tmp 7]) Try.call39 (.cons rfl (.cons rfl (.cons rfl .nil)))) (.nil : Sel [stb zeA 28 [(.int .i64 0),(.int .i64 0)],stb zez 28 [(.int .i64 z4a.fN),(.int .i64 z4a.fD)],stb zey 28 [(.int .i64 z49.fN),(.int .i64 z49.fD)]] [] [stb zeA 28 [(.int .i64 0),(.int .i64 0)],stb zez 28 [(.int .i64 z4a.fN),(.int .i64 z4a.fD)],stb zey 28 [(.int .i64 z49.fN),(.int .i64 z49.fD)]]) (fun w hw=>by have pz:=(hz.call hw (.nil : Sel [stb zeA 28 [(.int .i64 0),(.int .i64 0)],stb zez 28 [(.int .i64 z4a.fN),(.int .i64 z4a.fD)],stb zey 28 [(.int .i64 z49.fN),(.int .i64 z49.fD)]] [] [stb zeA 28 [(.int .i64 0),(.int .i64 0)],stb zez 28 [(.int .i64 z4a.fN),(.int .i64 z4a.fD)],stb zey 28 [(.int .i64 z49.fN),(.int .i64 z49.fD)]])); exact w_rat_doc (Z:=_)  (z1f:=z49) (z1g:=z4a) (r:=z9D) w pz  zq6) ?_
 refine WL.quiet (d:=9) rfl rfl rfl (q_extract rfl rfl) ?_
 refine WL.quiet (d:=10) rfl rfl rfl (q_extract rfl rfl) ?_
 refine WL.eff0 rfl rfl (e_store (vs:=[(.int .i64 z9D.1.fN),(.int .i64 z9D.1.fD)]) (ds:=[(.int .i64 z9D.1.fN),(.int .i64 z9D.1.fD)]) sizT_28 rfl rfl rfl rfl (oc_cons rfl (oc_cons rfl oc_nil)) .here (Nat.le_of_ble_eq_true rfl) rfl) ?_
 refine WL.quiet (d:=5) rfl rfl rfl (q_assign rfl) ?_
 refine WL.nil ?_
 refine WX.then ?_
 refine WC.ret ?_
 obtain rfl:=Option.some.inj h
 refine WX.bpRet Try.results14 (.agg rfl aggT_28 rfl (rd_all .here) (.tmp rfl .nil)) (fun w hw=>?_)
 exact ⟨ret2 rfl rfl,hw.sub .nil⟩
def m_curve_Rate_1 (z2G : z1) (z2H : z1) : Option Int :=
 (m_rat_Cmp z2G.fRate z2H.fRate).bind fun zgT=>some zgT
set_option maxRecDepth 20000 in
theorem w_curve_Rate_1 (Z : Zp)   (z2G : z1) (z2H : z1) (r : Int) (w₀ : World) (hz : PZ [] w₀ Z)
  (h : m_curve_Rate_1 z2G z2H = some r) :
  Calls Try.prog 41 #[(.agg #[(.int .i64 z2G.fBurst.fN),(.int .i64 z2G.fBurst.fD),(.int .i64 z2G.fRate.fN),(.int .i64 z2G.fRate.fD)]),(.agg #[(.int .i64 z2H.fBurst.fN),(.int .i64 z2H.fBurst.fD),(.int .i64 z2H.fRate.fN),(.int .i64 z2H.fRate.fD)])] w₀ fun e w'=>e = .returned (.int .i64 r) ∧ Hp [] w₀ w' []:=by
 unfold m_curve_Rate_1 at h
 refine Calls.ofWC (vs:=[(.agg #[(.int .i64 z2G.fBurst.fN),(.int .i64 z2G.fBurst.fD),(.int .i64 z2G.fRate.fN),(.int .i64 z2G.fRate.fD)]),(.agg #[(.int .i64 z2H.fBurst.fN),(.int .i64 z2H.fBurst.fD),(.int .i64 z2H.fRate.fN),(.int .i64 z2H.fRate.fD)])]) (pre:=[]) (env:=[(0,(.agg #[(.int .i64 z2G.fBurst.fN),(.int .i64 z2G.fBurst.fD),(.int .i64 z2G.fRate.fN),(.int .i64 z2G.fRate.fD)])),(1,(.agg #[(.int .i64 z2H.fBurst.fN),(.int .i64 z2H.fBurst.fD),(.int .i64 z2H.fRate.fN),(.int .i64 z2H.fRate.fD)]))]) Try.func41 rfl Try.ntmps41 rfl (Hp.nil w₀ _) rfl ?_
 refine WC.seq ?_
 refine WC.region ?_
 refine WL.new (dd:=2) rfl rfl rfl (e_box (cs:=[(.int .i64 z2G.fBurst.fN),(.int .i64 z2G.fBurst.fD),(.int .i64 z2G.fRate.fN),(.int .i64 z2G.fRate.fD)]) rfl rfl) ?_
 intro zeB _
 refine WL.new (dd:=3) rfl rfl rfl (e_box (cs:=[(.int .i64 z2H.fBurst.fN),(.int .i64 z2H.fBurst.fD),(.int .i64 z2H.fRate.fN),(.int .i64 z2H.fRate.fD)]) rfl rfl) ?_
 intro zeC _
 refine WL.quiet (d:=4) rfl rfl rfl (q_assign rfl) ?_
 refine WL.nil ?_
 refine WX.then ?_
 refine WC.seq ?_
 obtain ⟨zgT,zq7,h⟩:=zb h
 refine WC.region ?_
 refine WL.quiet (d:=5) rfl rfl rfl (q_fieldAddr fo_42_1 rfl rfl) ?_
 refine WL.quiet (d:=6) rfl rfl rfl (q_loadA (cs:=[(.int .i64 z2G.fRate.fN),(.int .i64 z2G.fRate.fD)]) aggT_28 rfl rfl (rd_sub (s:=2) (.there .here) rfl)) ?_
 refine WL.quiet (d:=7) rfl rfl rfl (q_fieldAddr fo_42_1 rfl rfl) ?_
 refine WL.quiet (d:=8) rfl rfl rfl (q_loadA (cs:=[(.int .i64 z2H.fRate.fN),(.int .i64 z2H.fRate.fD)]) aggT_28 rfl rfl (rd_sub (s:=2) .here rfl)) ?_
 refine WL.callD (dd:=9) rfl rfl rfl (zg (l:=[.tmp 6,.tmp 8]) Try.call17 (.cons rfl (.cons rfl .nil))) (.nil : Sel [stb zeC 42 [(.int .i64 z2H.fBurst.fN),(.int .i64 z2H.fBurst.fD),(.int .i64 z2H.fRate.fN),(.int .i64 z2H.fRate.fD)],stb zeB 42 [(.int .i64 z2G.fBurst.fN),(.int .i64 z2G.fBurst.fD),(.int .i64 z2G.fRate.fN),(.int .i64 z2G.fRate.fD)]] [] [stb zeC 42 [(.int .i64 z2H.fBurst.fN),(.int .i64 z2H.fBurst.fD),(.int .i64 z2H.fRate.fN),(.int .i64 z2H.fRate.fD)],stb zeB 42 [(.int .i64 z2G.fBurst.fN),(.int .i64 z2G.fBurst.fD),(.int .i64 z2G.fRate.fN),(.int .i64 z2G.fRate.fD)]]) (fun w hw=>by have pz:=(hz.call hw (.nil : Sel [stb zeC 42 [(.int .i64 z2H.fBurst.fN),(.int .i64 z2H.fBurst.fD),(.int .i64 z2H.fRate.fN),(.int .i64 z2H.fRate.fD)],stb zeB 42 [(.int .i64 z2G.fBurst.fN),(.int .i64 z2G.fBurst.fD),(.int .i64 z2G.fRate.fN),(.int .i64 z2G.fRate.fD)]] [] [stb zeC 42 [(.int .i64 z2H.fBurst.fN),(.int .i64 z2H.fBurst.fD),(.int .i64 z2H.fRate.fN),(.int .i64 z2H.fRate.fD)],stb zeB 42 [(.int .i64 z2G.fBurst.fN),(.int .i64 z2G.fBurst.fD),(.int .i64 z2G.fRate.fN),(.int .i64 z2G.fRate.fD)]])); exact w_rat_Cmp (Z:=_)  (z2s:=z2G.fRate) (z2t:=z2H.fRate) (r:=zgT) w pz  zq7) ?_
 refine WL.quiet (d:=4) rfl rfl rfl (q_assign rfl) ?_
 refine WL.nil ?_
 refine WX.then ?_
 refine WC.ret ?_
 obtain rfl:=Option.some.inj h
 refine WX.bpRet Try.results41 (.tmp rfl .nil) (fun w hw=>?_)
 exact ⟨ret1 rfl,hw.sub .nil⟩
def m_slices_MinFunc_api_Curve_api_Bucket_L2 (z1l : List z1) (z7s : z1 → z1 → Option Int) (z8r : Int → Int → Int → Int → Option z1) : Nat → Int → Int → Int → Int → Int → Option z1
 | 0,_,_,_,_,_=>none
 | zgU + 1,z23,z5Z,z60,z61,z62=>if decide (z23 < ((z1l.length : Nat) : Int)) then jp4 (fun (z8s : Int) (z8t : Int) (z8u : Int) (z8v : Int)=>m_slices_MinFunc_api_Curve_api_Bucket_L2 z1l z7s z8r zgU (i64 (z23 + 1)) z8s z8t z8u z8v) fun zeD=>chk ((0 : Int) ≤ z23 ∧ z23 < ((z1l.length : Nat) : Int)) ((z7s (⟨(⟨(((nth z1l z23).fBurst).fN),(((nth z1l z23).fBurst).fD)⟩ : z2),(⟨(((nth z1l z23).fRate).fN),(((nth z1l z23).fRate).fD)⟩ : z2)⟩ : z1) (⟨(⟨z5Z,z60⟩ : z2),(⟨z61,z62⟩ : z2)⟩ : z1)).bind fun zgV=>if decide (zgV < 0) then chk ((0 : Int) ≤ z23 ∧ z23 < ((z1l.length : Nat) : Int)) (zeD (((nth z1l z23).fBurst).fN) (((nth z1l z23).fBurst).fD) (((nth z1l z23).fRate).fN) (((nth z1l z23).fRate).fD)) else zeD z5Z z60 z61 z62) else z8r z5Z z60 z61 z62
theorem m_slices_MinFunc_api_Curve_api_Bucket_L2_fuel {n : Nat} {z1l : List z1} {z7s : z1 → z1 → Option Int} {z8r : Int → Int → Int → Int → Option z1} {z23 : Int} {z5Z : Int} {z60 : Int} {z61 : Int} {z62 : Int} {r : z1} (h : m_slices_MinFunc_api_Curve_api_Bucket_L2 z1l z7s z8r n z23 z5Z z60 z61 z62 = some r) : ∃ m,n = m + 1:=by
 cases n with
 | zero=>cases h
 | succ m=>exact ⟨m,rfl⟩
def m_slices_MinFunc_api_Curve_api_Bucket (z1l : List z1) (z7s : z1 → z1 → Option Int) : Option z1 :=
 if decide (((z1l.length : Nat) : Int) < 1) then none else chk ((0 : Int) ≤ 0 ∧ 0 < ((z1l.length : Nat) : Int)) (jp4 (fun (z7t : Int) (z7u : Int) (z7v : Int) (z7w : Int)=>some (⟨(⟨z7t,z7u⟩ : z2),(⟨z7v,z7w⟩ : z2)⟩ : z1)) fun z8r=>m_slices_MinFunc_api_Curve_api_Bucket_L2 z1l z7s z8r FUEL 1 (((nth z1l 0).fBurst).fN) (((nth z1l 0).fBurst).fD) (((nth z1l 0).fRate).fN) (((nth z1l 0).fRate).fD))
set_option maxRecDepth 20000 in
theorem w_slices_MinFunc_api_Curve_api_Bucket (Z : Zp)  (zaw : Option Addr) (zax : Nat) (z7X : FuncId) (z9E : List Value) (z1l : List z1) (z7s : z1 → z1 → Option Int) (r : z1) (w₀ : World) (hz : PZ [] w₀ Z)
  (zgW : ZS Z 4 (fun r x=>r = e42 x) zaw zax z1l)
  (zq8 : ∀ args w,(callFunc z7X args).run Try.prog w = .ok (.enter z7X args) w)
  (zq9 : ∀ w : World,PZ [] w Z → ∀ (x0 : z1) (x1 : z1) (r : Int),z7s x0 x1 = some r → Calls Try.prog z7X (([(.agg #[(.int .i64 x0.fBurst.fN),(.int .i64 x0.fBurst.fD),(.int .i64 x0.fRate.fN),(.int .i64 x0.fRate.fD)]),(.agg #[(.int .i64 x1.fBurst.fN),(.int .i64 x1.fBurst.fD),(.int .i64 x1.fRate.fN),(.int .i64 x1.fRate.fD)])] : List Value) ++ z9E).toArray w fun e w'=>e = .returned (.int .i64 r) ∧ Hp [] w w' [])
  (h : m_slices_MinFunc_api_Curve_api_Bucket z1l z7s = some r) :
  Calls Try.prog 40 #[(.slice zaw z1l.length zax),(.func (.func z7X) #[] (z9E).toArray)] w₀ fun e w'=>e = .returned (.agg #[(.int .i64 r.fBurst.fN),(.int .i64 r.fBurst.fD),(.int .i64 r.fRate.fN),(.int .i64 r.fRate.fD)]) ∧ Hp [] w₀ w' []:=by
 unfold m_slices_MinFunc_api_Curve_api_Bucket at h
 refine Calls.ofWC (vs:=[(.slice zaw z1l.length zax),(.func (.func z7X) #[] (z9E).toArray)]) (pre:=[]) (env:=[(0,(.slice zaw z1l.length zax)),(1,(.func (.func z7X) #[] (z9E).toArray))]) Try.func40 rfl Try.ntmps40 rfl (Hp.nil w₀ _) rfl ?_
 refine WC.seq ?_
 refine WC.region ?_
 refine WL.new (dd:=4) rfl rfl rfl (e_alloc (cs:=[(.int .i64 0),(.int .i64 0),(.int .i64 0),(.int .i64 0)]) zeroT_42 rfl) ?_
 intro zbt _
 refine WL.nil ?_
 refine WX.then ?_
 refine WC.seq ?_
 refine WC.seq ?_
 refine WC.region ?_
 refine WL.quiet (d:=7) rfl rfl rfl (q_move rfl) ?_
 refine WL.quiet (d:=8) rfl rfl rfl (q_len Try.underlying25 rfl) ?_
 refine WL.quiet (d:=9) rfl rfl rfl (q_lss rfl rfl) ?_
 refine WL.nil ?_
 refine WX.then ?_
 refine WC.cond rfl (fun zgX=>?_) (fun zgX=>?_)
 ·replace h:=ite_t h zgX
  cases h
 ·replace h:=ite_f h zgX
  refine WC.skip ?_
  refine WX.then ?_
  refine WC.seq ?_
  obtain ⟨zqa,h⟩:=chk_elim h
  refine WC.region ?_
  refine WL.quiet (d:=11) rfl rfl rfl (q_move rfl) ?_
  refine WL.znth (dd:=12) rfl rfl (Z:=Z) (Pr:=(fun r x=>r = e42 x)) elT_25 rfl rfl zgW zqa ?_
  rintro zxc zxd zqb zxe rfl
  refine WL.quiet (d:=13) rfl rfl rfl (q_loadA (cs:=[(.int .i64 (((nth z1l 0).fBurst).fN)),(.int .i64 (((nth z1l 0).fBurst).fD)),(.int .i64 (((nth z1l 0).fRate).fN)),(.int .i64 (((nth z1l 0).fRate).fD))]) aggT_42 rfl rfl (rd_zs hz.pv zqb)) ?_
  refine WL.new (dd:=5) rfl rfl rfl (e_alloc (cs:=[(.int .i64 0),(.int .i64 0),(.int .i64 0),(.int .i64 0)]) zeroT_42 rfl) ?_
  intro zbu _
  refine WL.eff0 rfl rfl (e_store (vs:=[(.int .i64 (((nth z1l 0).fBurst).fN)),(.int .i64 (((nth z1l 0).fBurst).fD)),(.int .i64 (((nth z1l 0).fRate).fN)),(.int .i64 (((nth z1l 0).fRate).fD))]) (ds:=[(.int .i64 (((nth z1l 0).fBurst).fN)),(.int .i64 (((nth z1l 0).fBurst).fD)),(.int .i64 (((nth z1l 0).fRate).fN)),(.int .i64 (((nth z1l 0).fRate).fD))]) sizT_42 rfl rfl rfl rfl (oc_cons rfl (oc_cons rfl (oc_cons rfl (oc_cons rfl oc_nil)))) .here (Nat.le_of_ble_eq_true rfl) rfl) ?_
  refine WL.nil ?_
  refine WX.then ?_
  obtain ⟨z8r,zqc,h⟩:=jp4_elim h
  refine WC.seqMid4 (fun (z7t : Int) (z7u : Int) (z7v : Int) (z7w : Int)=>(z8r z7t z7u z7v z7w = some r)) (fun (z7t : Int) (z7u : Int) (z7v : Int) (z7w : Int)=>[(4,(.pointer (some ⟨zbt,0,none⟩))),(5,(.pointer (some ⟨zbu,0,none⟩)))]) (fun (z7t : Int) (z7u : Int) (z7v : Int) (z7w : Int)=>[stb zbt 42 [(.int .i64 0),(.int .i64 0),(.int .i64 0),(.int .i64 0)],stb zbu 42 [(.int .i64 z7t),(.int .i64 z7u),(.int .i64 z7v),(.int .i64 z7w)]]) ?_ ?_
  ·skip
   refine WC.seq ?_
   refine WC.region ?_
   refine WL.quiet (d:=6) rfl rfl rfl (q_assign rfl) ?_
   refine WL.nil ?_
   refine WX.then ?_
   refine WC.block ?_
   refine WC.loop6 (fun (zbv : Nat) (z23 : Int) (z5Z : Int) (z60 : Int) (z61 : Int) (z62 : Int)=>(m_slices_MinFunc_api_Curve_api_Bucket_L2 z1l z7s z8r zbv z23 z5Z z60 z61 z62 = some r)) (fun (zbv : Nat) (z23 : Int) (z5Z : Int) (z60 : Int) (z61 : Int) (z62 : Int)=>[(0,(.slice zaw z1l.length zax)),(1,(.func (.func z7X) #[] (z9E).toArray)),(4,(.pointer (some ⟨zbt,0,none⟩))),(5,(.pointer (some ⟨zbu,0,none⟩))),(6,(.int .i64 z23))]) (fun (zbv : Nat) (z23 : Int) (z5Z : Int) (z60 : Int) (z61 : Int) (z62 : Int)=>[stb zbt 42 [(.int .i64 0),(.int .i64 0),(.int .i64 0),(.int .i64 0)],stb zbu 42 [(.int .i64 z5Z),(.int .i64 z60),(.int .i64 z61),(.int .i64 z62)]]) (fun (zbv : Nat) (z23 : Int) (z5Z : Int) (z60 : Int) (z61 : Int) (z62 : Int)=>zbv) ⟨FUEL,1,(((nth z1l 0).fBurst).fN),(((nth z1l 0).fBurst).fD),(((nth z1l 0).fRate).fN),(((nth z1l 0).fRate).fD)⟩ h (.cons rfl (.cons rfl (.cons rfl (.cons rfl (.cons rfl .nil))))) (.cons (.there .here) (.cons .here .nil)) ?_
   rintro zbv z23 z5Z z60 z61 z62 h
   obtain ⟨zgU,rfl⟩:=m_slices_MinFunc_api_Curve_api_Bucket_L2_fuel h
   rw [m_slices_MinFunc_api_Curve_api_Bucket_L2] at h
   refine WC.seq ?_
   refine WC.seq ?_
   refine WC.region ?_
   refine WL.quiet (d:=14) rfl rfl rfl (q_move rfl) ?_
   refine WL.quiet (d:=15) rfl rfl rfl (q_move rfl) ?_
   refine WL.quiet (d:=16) rfl rfl rfl (q_len Try.underlying25 rfl) ?_
   refine WL.quiet (d:=17) rfl rfl rfl (q_lss rfl rfl) ?_
   refine WL.nil ?_
   refine WX.then ?_
   refine WC.cond rfl (fun zgY=>?_) (fun zgY=>?_)
   ·replace h:=ite_t h zgY
    refine WC.skip ?_
    refine WX.then ?_
    obtain ⟨zeD,zqd,h⟩:=jp4_elim h
    refine WC.seqMid4 (fun (z8s : Int) (z8t : Int) (z8u : Int) (z8v : Int)=>(zeD z8s z8t z8u z8v = some r)) (fun (z8s : Int) (z8t : Int) (z8u : Int) (z8v : Int)=>[(0,(.slice zaw z1l.length zax)),(1,(.func (.func z7X) #[] (z9E).toArray)),(4,(.pointer (some ⟨zbt,0,none⟩))),(5,(.pointer (some ⟨zbu,0,none⟩))),(6,(.int .i64 z23))]) (fun (z8s : Int) (z8t : Int) (z8u : Int) (z8v : Int)=>[stb zbt 42 [(.int .i64 0),(.int .i64 0),(.int .i64 0),(.int .i64 0)],stb zbu 42 [(.int .i64 z8s),(.int .i64 z8t),(.int .i64 z8u),(.int .i64 z8v)]]) ?_ ?_
    ·skip
     refine WC.block ?_
     refine WC.seq ?_
     obtain ⟨zqe,h⟩:=chk_elim h
     obtain ⟨zgV,zqf,h⟩:=zb h
     refine WC.draw (fun i=>[].contains i) [] rfl ?_
     refine WD.pure (i:=0) (d:=20) (by kernel_rfl) rfl (z6 (by kernel_rfl)) (z7 (by kernel_rfl)) rfl rfl rfl (fun _=>q_move rfl) ?_
     refine WD.pure (i:=1) (d:=21) (by kernel_rfl) rfl (z6 (by kernel_rfl)) (z7 (by kernel_rfl)) rfl rfl rfl (fun _=>q_move rfl) ?_
     refine WD.pure (i:=2) (d:=22) (by kernel_rfl) rfl (z6 (by kernel_rfl)) (z7 (by kernel_rfl)) rfl rfl rfl (fun _=>q_move rfl) ?_
     refine WD.znth (j:=3) (dd:=23) (by kernel_rfl) rfl (z6 (by kernel_rfl)) (z7 (by kernel_rfl)) rfl rfl (Z:=Z) (Pr:=(fun r x=>r = e42 x)) elT_25 rfl rfl zgW zqe ?_
     rintro zxf zxg zqg zxh rfl
     refine WD.quiet (i:=4) (d:=24) (by kernel_rfl) rfl (z6 (by kernel_rfl)) (z7 (by kernel_rfl)) rfl rfl rfl (q_loadA (cs:=[(.int .i64 (((nth z1l z23).fBurst).fN)),(.int .i64 (((nth z1l z23).fBurst).fD)),(.int .i64 (((nth z1l z23).fRate).fN)),(.int .i64 (((nth z1l z23).fRate).fD))]) aggT_42 rfl rfl (rd_zs hz.pv zqg)) ?_
     refine WD.quiet (i:=5) (d:=25) (by kernel_rfl) rfl (z6 (by kernel_rfl)) (z7 (by kernel_rfl)) rfl rfl rfl (q_loadA (cs:=[(.int .i64 z5Z),(.int .i64 z60),(.int .i64 z61),(.int .i64 z62)]) aggT_42 rfl rfl (rd_all (.there .here))) ?_
     refine WD.enter (i:=6) (d:=26) (by kernel_rfl) rfl (z6 (by kernel_rfl)) (z7 (by kernel_rfl)) rfl rfl rfl (run_callv (l:=[.tmp 24,.tmp 25]) (f:=z7X) (caps:=z9E) zq8 rfl (.cons rfl (.cons rfl .nil))) (fun w hw=>zq9 w (hz.now hw) (⟨(⟨(((nth z1l z23).fBurst).fN),(((nth z1l z23).fBurst).fD)⟩ : z2),(⟨(((nth z1l z23).fRate).fN),(((nth z1l z23).fRate).fD)⟩ : z2)⟩ : z1) (⟨(⟨z5Z,z60⟩ : z2),(⟨z61,z62⟩ : z2)⟩ : z1) zgV  zqf) ?_
     refine WD.pure (i:=7) (d:=27) (by kernel_rfl) rfl (z6 (by kernel_rfl)) (z7 (by kernel_rfl)) rfl rfl rfl (fun _=>q_lss rfl rfl) ?_
     refine WD.done (by kernel_rfl) ?_
     refine WX.then ?_
     refine WC.cond rfl (fun zgZ=>?_) (fun zgZ=>?_)
     ·replace h:=ite_t h zgZ
      obtain ⟨zqh,h⟩:=chk_elim h
      refine WC.region ?_
      refine WL.quiet (d:=28) rfl rfl rfl (q_move rfl) ?_
      refine WL.quiet (d:=29) rfl rfl rfl (q_move rfl) ?_
      refine WL.znth (dd:=30) rfl rfl (Z:=Z) (Pr:=(fun r x=>r = e42 x)) elT_25 rfl rfl zgW zqh ?_
      rintro zxi zxj zqi zxk rfl
      refine WL.quiet (d:=31) rfl rfl rfl (q_loadA (cs:=[(.int .i64 (((nth z1l z23).fBurst).fN)),(.int .i64 (((nth z1l z23).fBurst).fD)),(.int .i64 (((nth z1l z23).fRate).fN)),(.int .i64 (((nth z1l z23).fRate).fD))]) aggT_42 rfl rfl (rd_zs hz.pv zqi)) ?_
      refine WL.eff0 rfl rfl (e_store (vs:=[(.int .i64 (((nth z1l z23).fBurst).fN)),(.int .i64 (((nth z1l z23).fBurst).fD)),(.int .i64 (((nth z1l z23).fRate).fN)),(.int .i64 (((nth z1l z23).fRate).fD))]) (ds:=[(.int .i64 (((nth z1l z23).fBurst).fN)),(.int .i64 (((nth z1l z23).fBurst).fD)),(.int .i64 (((nth z1l z23).fRate).fN)),(.int .i64 (((nth z1l z23).fRate).fD))]) sizT_42 rfl rfl rfl rfl (oc_cons rfl (oc_cons rfl (oc_cons rfl (oc_cons rfl oc_nil)))) (.there .here) (Nat.le_of_ble_eq_true rfl) rfl) ?_
      refine WL.nil ?_
      refine WX.blockNormal ?_
      exact WX.mid (G:=Int × Int × Int × Int) ⟨(((nth z1l z23).fBurst).fN),(((nth z1l z23).fBurst).fD),(((nth z1l z23).fRate).fN),(((nth z1l z23).fRate).fD)⟩ h (.cons rfl (.cons rfl (.cons rfl (.cons rfl (.cons rfl .nil))))) (.cons (.there .here) (.cons .here .nil))
     ·replace h:=ite_f h zgZ
      refine WC.skip ?_
      refine WX.blockNormal ?_
      exact WX.mid (G:=Int × Int × Int × Int) ⟨z5Z,z60,z61,z62⟩ h (.cons rfl (.cons rfl (.cons rfl (.cons rfl (.cons rfl .nil))))) (.cons .here (.cons .here .nil))
    ·rintro z8s z8t z8u z8v h
     replace h:=(zqd z8s z8t z8u z8v).symm.trans h
     refine WC.region ?_
     refine WL.quiet (d:=18) rfl rfl rfl (q_move rfl) ?_
     refine WL.quiet (d:=19) rfl rfl rfl (q_add rfl rfl rfl) ?_
     refine WL.quiet (d:=6) rfl rfl rfl (q_assign rfl) ?_
     refine WL.nil ?_
     exact WX.round (G:=Nat × Int × Int × Int × Int × Int) ⟨zgU,(i64 (z23 + 1)),z8s,z8t,z8u,z8v⟩ h (Nat.lt_succ_self _) (.cons rfl (.cons rfl (.cons rfl (.cons rfl (.cons rfl .nil))))) (.cons .here (.cons .here .nil))
   ·replace h:=ite_f h zgY
    refine WC.exit ?_
    refine WX.thenExit ?_
    refine WX.thenExit ?_
    refine WX.blockHit ?_
    exact WX.mid (G:=Int × Int × Int × Int) ⟨z5Z,z60,z61,z62⟩ h (.cons rfl (.cons rfl .nil)) (.cons .here (.cons .here .nil))
  ·rintro z7t z7u z7v z7w h
   replace h:=(zqc z7t z7u z7v z7w).symm.trans h
   refine WC.seq ?_
   refine WC.region ?_
   refine WL.quiet (d:=32) rfl rfl rfl (q_loadA (cs:=[(.int .i64 z7t),(.int .i64 z7u),(.int .i64 z7v),(.int .i64 z7w)]) aggT_42 rfl rfl (rd_all (.there .here))) ?_
   refine WL.eff0 rfl rfl (e_store (vs:=[(.int .i64 z7t),(.int .i64 z7u),(.int .i64 z7v),(.int .i64 z7w)]) (ds:=[(.int .i64 z7t),(.int .i64 z7u),(.int .i64 z7v),(.int .i64 z7w)]) sizT_42 rfl rfl rfl rfl (oc_cons rfl (oc_cons rfl (oc_cons rfl (oc_cons rfl oc_nil)))) .here (Nat.le_of_ble_eq_true rfl) rfl) ?_
   refine WL.nil ?_
   refine WX.then ?_
   refine WC.ret ?_
   obtain rfl:=Option.some.inj h
   refine WX.bpRet Try.results40 (.agg rfl aggT_42 rfl (rd_all .here) .nil) (fun w hw=>?_)
   exact ⟨ret1 rfl,hw.sub .nil⟩
def m_curve_Rate (z6Z : List z1) : Option (z2 × Int) :=
 (m_curve_Valid z6Z).bind fun zh0=>if !zh0 then some ((⟨0,0⟩ : z2),2) else (m_slices_MinFunc_api_Curve_api_Bucket z6Z (fun (y0 : z1) (y1 : z1)=>m_curve_Rate_1 y0 y1)).bind fun z8w=>some (z8w.fRate,0)
set_option maxRecDepth 20000 in
theorem w_curve_Rate (Z : Zp)  (z9F : Option Addr) (z9G : Nat) (z6Z : List z1) (r : z2 × Int) (w₀ : World) (hz : PZ [] w₀ Z)
  (zlL : ZS Z 4 (fun r x=>r = e42 x) z9F z9G z6Z)
  (h : m_curve_Rate z6Z = some r) :
  Calls Try.prog 15 #[(.slice z9F z6Z.length z9G)] w₀ fun e w'=>e = .returned (.tuple #[(.agg #[(.int .i64 r.1.fN),(.int .i64 r.1.fD)]),(.int .i64 r.2)]) ∧ Hp [] w₀ w' []:=by
 unfold m_curve_Rate at h
 refine Calls.ofWC (vs:=[(.slice z9F z6Z.length z9G)]) (pre:=[]) (env:=[(0,(.slice z9F z6Z.length z9G))]) Try.func15 rfl Try.ntmps15 rfl (Hp.nil w₀ _) rfl ?_
 refine WC.seq ?_
 refine WC.region ?_
 refine WL.new (dd:=2) rfl rfl rfl (e_alloc (cs:=[(.int .i64 0),(.int .i64 0)]) zeroT_28 rfl) ?_
 intro z9H _
 refine WL.quiet (d:=3) rfl rfl rfl (q_assign rfl) ?_
 refine WL.nil ?_
 refine WX.then ?_
 refine WC.seq ?_
 refine WC.seq ?_
 obtain ⟨zh0,zqj,h⟩:=zb h
 refine WC.region ?_
 refine WL.quiet (d:=4) rfl rfl rfl (q_move rfl) ?_
 refine WL.callD (dd:=5) rfl rfl rfl (zg (l:=[.tmp 4]) Try.call26 (.cons rfl .nil)) (.nil : Sel [stb z9H 28 [(.int .i64 0),(.int .i64 0)]] [] [stb z9H 28 [(.int .i64 0),(.int .i64 0)]]) (fun w hw=>by have pz:=(hz.call hw (.nil : Sel [stb z9H 28 [(.int .i64 0),(.int .i64 0)]] [] [stb z9H 28 [(.int .i64 0),(.int .i64 0)]])); exact w_curve_Valid (Z:=_) (z5S:=z9F) (z5T:=z9G) (z3S:=z6Z) (r:=zh0) w pz zlL zqj) ?_
 refine WL.quiet (d:=6) rfl rfl rfl (q_not rfl) ?_
 refine WL.nil ?_
 refine WX.then ?_
 refine WC.cond rfl (fun zh1=>?_) (fun zh1=>?_)
 ·replace h:=ite_t h zh1
  refine WC.seq ?_
  refine WC.region ?_
  refine WL.quiet (d:=7) rfl rfl rfl (q_build (v:=(.agg #[(.int .i64 0),(.int .i64 0)])) (Eos.parts (l:=[]) .nil []) (fun _=>by kernel_rfl)) ?_
  refine WL.eff0 rfl rfl (e_store (vs:=[(.int .i64 0),(.int .i64 0)]) (ds:=[(.int .i64 0),(.int .i64 0)]) sizT_28 rfl rfl rfl rfl (oc_cons rfl (oc_cons rfl oc_nil)) .here (Nat.le_of_ble_eq_true rfl) rfl) ?_
  refine WL.quiet (d:=3) rfl rfl rfl (q_assign rfl) ?_
  refine WL.nil ?_
  refine WX.then ?_
  refine WC.ret ?_
  refine WX.thenRet ?_
  obtain rfl:=Option.some.inj h
  refine WX.bpRet Try.results15 (.agg rfl aggT_28 rfl (rd_all .here) (.tmp rfl .nil)) (fun w hw=>?_)
  exact ⟨ret2 rfl rfl,hw.sub .nil⟩
 ·replace h:=ite_f h zh1
  refine WC.skip ?_
  refine WX.then ?_
  refine WC.seq ?_
  obtain ⟨z8w,zqk,h⟩:=zb h
  refine WC.region ?_
  refine WL.quiet (d:=8) rfl rfl rfl (q_move rfl) ?_
  refine WL.callD (dd:=9) rfl rfl rfl (zg (l:=[.tmp 8,.func 41]) Try.call40 (.cons rfl (.cons rfl .nil))) (.nil : Sel [stb z9H 28 [(.int .i64 0),(.int .i64 0)]] [] [stb z9H 28 [(.int .i64 0),(.int .i64 0)]]) (fun w hw=>by have pz:=(hz.call hw (.nil : Sel [stb z9H 28 [(.int .i64 0),(.int .i64 0)]] [] [stb z9H 28 [(.int .i64 0),(.int .i64 0)]])); exact w_slices_MinFunc_api_Curve_api_Bucket (Z:=_) (zaw:=z9F) (zax:=z9G) (z7X:=41) (z9E:=[]) (z1l:=z6Z) (z7s:=(fun (y0 : z1) (y1 : z1)=>m_curve_Rate_1 y0 y1)) (r:=z8w) w pz zlL Try.call41 (fun w' hz' y0 y1  r  hr=>w_curve_Rate_1 (Z:=_)  (z2G:=y0) (z2H:=y1) (r:=r) w' hz'  hr) zqk) ?_
  refine WL.quiet (d:=10) rfl rfl rfl (q_fieldA (cs':=#[(.int .i64 z8w.fRate.fN),(.int .i64 z8w.fRate.fD)]) fldT_42_1 aggT_28 rfl rfl) ?_
  refine WL.eff0 rfl rfl (e_store (vs:=[(.int .i64 z8w.fRate.fN),(.int .i64 z8w.fRate.fD)]) (ds:=[(.int .i64 z8w.fRate.fN),(.int .i64 z8w.fRate.fD)]) sizT_28 rfl rfl rfl rfl (oc_cons rfl (oc_cons rfl oc_nil)) .here (Nat.le_of_ble_eq_true rfl) rfl) ?_
  refine WL.quiet (d:=3) rfl rfl rfl (q_assign rfl) ?_
  refine WL.nil ?_
  refine WX.then ?_
  refine WC.ret ?_
  obtain rfl:=Option.some.inj h
  refine WX.bpRet Try.results15 (.agg rfl aggT_28 rfl (rd_all .here) (.tmp rfl .nil)) (fun w hw=>?_)
  exact ⟨ret2 rfl rfl,hw.sub .nil⟩
def m_law02_bucket (z3L : z2) (z3M : z2) : Option z1 :=
 some (⟨z3L,z3M⟩ : z1)
set_option maxRecDepth 20000 in
theorem w_law02_bucket (Z : Zp)   (z3L : z2) (z3M : z2) (r : z1) (w₀ : World) (hz : PZ [] w₀ Z)
  (h : m_law02_bucket z3L z3M = some r) :
  Calls Try.prog 43 #[(.agg #[(.int .i64 z3L.fN),(.int .i64 z3L.fD)]),(.agg #[(.int .i64 z3M.fN),(.int .i64 z3M.fD)])] w₀ fun e w'=>e = .returned (.agg #[(.int .i64 r.fBurst.fN),(.int .i64 r.fBurst.fD),(.int .i64 r.fRate.fN),(.int .i64 r.fRate.fD)]) ∧ Hp [] w₀ w' []:=by
 unfold m_law02_bucket at h
 refine Calls.ofWC (vs:=[(.agg #[(.int .i64 z3L.fN),(.int .i64 z3L.fD)]),(.agg #[(.int .i64 z3M.fN),(.int .i64 z3M.fD)])]) (pre:=[]) (env:=[(0,(.agg #[(.int .i64 z3L.fN),(.int .i64 z3L.fD)])),(1,(.agg #[(.int .i64 z3M.fN),(.int .i64 z3M.fD)]))]) Try.func43 rfl Try.ntmps43 rfl (Hp.nil w₀ _) rfl ?_
 refine WC.seq ?_
 refine WC.region ?_
 refine WL.new (dd:=2) rfl rfl rfl (e_box (cs:=[(.int .i64 z3L.fN),(.int .i64 z3L.fD)]) rfl rfl) ?_
 intro zxl _
 refine WL.new (dd:=3) rfl rfl rfl (e_box (cs:=[(.int .i64 z3M.fN),(.int .i64 z3M.fD)]) rfl rfl) ?_
 intro zxm _
 refine WL.new (dd:=4) rfl rfl rfl (e_alloc (cs:=[(.int .i64 0),(.int .i64 0),(.int .i64 0),(.int .i64 0)]) zeroT_42 rfl) ?_
 intro zxn _
 refine WL.nil ?_
 refine WX.then ?_
 refine WC.seq ?_
 refine WC.region ?_
 refine WL.quiet (d:=5) rfl rfl rfl (q_loadA (cs:=[(.int .i64 z3L.fN),(.int .i64 z3L.fD)]) aggT_28 rfl rfl (rd_all (.there (.there .here)))) ?_
 refine WL.quiet (d:=6) rfl rfl rfl (q_loadA (cs:=[(.int .i64 z3M.fN),(.int .i64 z3M.fD)]) aggT_28 rfl rfl (rd_all (.there .here))) ?_
 refine WL.quiet (d:=7) rfl rfl rfl (q_build (v:=(.agg #[(.int .i64 z3L.fN),(.int .i64 z3L.fD),(.int .i64 z3M.fN),(.int .i64 z3M.fD)])) (Eos.parts (l:=[.tmp 5,.tmp 6]) (.cons rfl (.cons rfl .nil)) [0,1]) (fun _=>by kernel_rfl)) ?_
 refine WL.eff0 rfl rfl (e_store (vs:=[(.int .i64 z3L.fN),(.int .i64 z3L.fD),(.int .i64 z3M.fN),(.int .i64 z3M.fD)]) (ds:=[(.int .i64 z3L.fN),(.int .i64 z3L.fD),(.int .i64 z3M.fN),(.int .i64 z3M.fD)]) sizT_42 rfl rfl rfl rfl (oc_cons rfl (oc_cons rfl (oc_cons rfl (oc_cons rfl oc_nil)))) .here (Nat.le_of_ble_eq_true rfl) rfl) ?_
 refine WL.nil ?_
 refine WX.then ?_
 refine WC.ret ?_
 obtain rfl:=Option.some.inj h
 refine WX.bpRet Try.results43 (.agg rfl aggT_42 rfl (rd_all .here) .nil) (fun w hw=>?_)
 exact ⟨ret1 rfl,hw.sub .nil⟩
def m_slices_Index_api_Curve_api_Bucket_L2 (z3w : List z1) (z2P : z1) (z8x : Option Int) : Nat → Int → Option Int
 | 0,_=>none
 | zh2 + 1,z3N=>if decide (z3N < ((z3w.length : Nat) : Int)) then chk ((0 : Int) ≤ z3N ∧ z3N < ((z3w.length : Nat) : Int)) (if decide (z2P = (⟨(⟨(((nth z3w z3N).fBurst).fN),(((nth z3w z3N).fBurst).fD)⟩ : z2),(⟨(((nth z3w z3N).fRate).fN),(((nth z3w z3N).fRate).fD)⟩ : z2)⟩ : z1)) then some z3N else m_slices_Index_api_Curve_api_Bucket_L2 z3w z2P z8x zh2 (i64 (z3N + 1))) else z8x
theorem m_slices_Index_api_Curve_api_Bucket_L2_fuel {n : Nat} {z3w : List z1} {z2P : z1} {z8x : Option Int} {z3N : Int} {r : Int} (h : m_slices_Index_api_Curve_api_Bucket_L2 z3w z2P z8x n z3N = some r) : ∃ m,n = m + 1:=by
 cases n with
 | zero=>cases h
 | succ m=>exact ⟨m,rfl⟩
def m_slices_Index_api_Curve_api_Bucket (z3w : List z1) (z2P : z1) : Option Int :=
 jp0 (some (-1)) fun z8x=>m_slices_Index_api_Curve_api_Bucket_L2 z3w z2P z8x FUEL 0
set_option maxRecDepth 20000 in
theorem w_slices_Index_api_Curve_api_Bucket (Z : Zp)  (zbw : Option Addr) (zbx : Nat) (z3w : List z1) (z2P : z1) (r : Int) (w₀ : World) (hz : PZ [] w₀ Z)
  (zql : ZS Z 4 (fun r x=>r = e42 x) zbw zbx z3w)
  (h : m_slices_Index_api_Curve_api_Bucket z3w z2P = some r) :
  Calls Try.prog 80 #[(.slice zbw z3w.length zbx),(.agg #[(.int .i64 z2P.fBurst.fN),(.int .i64 z2P.fBurst.fD),(.int .i64 z2P.fRate.fN),(.int .i64 z2P.fRate.fD)])] w₀ fun e w'=>e = .returned (.int .i64 r) ∧ Hp [] w₀ w' []:=by
 unfold m_slices_Index_api_Curve_api_Bucket at h
 refine Calls.ofWC (vs:=[(.slice zbw z3w.length zbx),(.agg #[(.int .i64 z2P.fBurst.fN),(.int .i64 z2P.fBurst.fD),(.int .i64 z2P.fRate.fN),(.int .i64 z2P.fRate.fD)])]) (pre:=[]) (env:=[(0,(.slice zbw z3w.length zbx)),(1,(.agg #[(.int .i64 z2P.fBurst.fN),(.int .i64 z2P.fBurst.fD),(.int .i64 z2P.fRate.fN),(.int .i64 z2P.fRate.fD)]))]) Try.func80 rfl Try.ntmps80 rfl (Hp.nil w₀ _) rfl ?_
 refine WC.seq ?_
 refine WC.region ?_
 refine WL.new (dd:=3) rfl rfl rfl (e_box (cs:=[(.int .i64 z2P.fBurst.fN),(.int .i64 z2P.fBurst.fD),(.int .i64 z2P.fRate.fN),(.int .i64 z2P.fRate.fD)]) rfl rfl) ?_
 intro zlM _
 refine WL.quiet (d:=4) rfl rfl rfl (q_assign rfl) ?_
 refine WL.nil ?_
 refine WX.then ?_
 obtain ⟨z8x,zqm,h⟩:=jp0_elim h
 refine WC.seqMid0 ((z8x = some r)) ([]) ([]) ?_ ?_
 ·skip
  refine WC.seq ?_
  refine WC.region ?_
  refine WL.quiet (d:=6) rfl rfl rfl (q_move rfl) ?_
  refine WL.quiet (d:=7) rfl rfl rfl (q_len Try.underlying25 rfl) ?_
  refine WL.quiet (d:=8) rfl rfl rfl (q_move rfl) ?_
  refine WL.nil ?_
  refine WX.then ?_
  refine WC.block ?_
  refine WC.loop2 (fun (zby : Nat) (z3N : Int)=>(m_slices_Index_api_Curve_api_Bucket_L2 z3w z2P z8x zby z3N = some r)) (fun (zby : Nat) (z3N : Int)=>[(0,(.slice zbw z3w.length zbx)),(3,(.pointer (some ⟨zlM,0,none⟩))),(7,(.int .i64 ((z3w.length : Nat) : Int))),(8,(.int .i64 z3N))]) (fun (zby : Nat) (z3N : Int)=>[stb zlM 42 [(.int .i64 z2P.fBurst.fN),(.int .i64 z2P.fBurst.fD),(.int .i64 z2P.fRate.fN),(.int .i64 z2P.fRate.fD)]]) (fun (zby : Nat) (z3N : Int)=>zby) ⟨FUEL,0⟩ h (.cons rfl (.cons rfl (.cons rfl (.cons rfl .nil)))) (.cons .here .nil) ?_
  rintro zby z3N h
  obtain ⟨zh2,rfl⟩:=m_slices_Index_api_Curve_api_Bucket_L2_fuel h
  rw [m_slices_Index_api_Curve_api_Bucket_L2] at h
  refine WC.seq ?_
  refine WC.region ?_
  refine WL.quiet (d:=9) rfl rfl rfl (q_lss rfl rfl) ?_
  refine WL.nil ?_
  refine WX.then ?_
  refine WC.seq ?_
  refine WC.cond rfl (fun zh3=>?_) (fun zh3=>?_)
  ·replace h:=ite_t h zh3
   refine WC.skip ?_
   refine WX.then ?_
   refine WC.seq ?_
   refine WC.block ?_
   refine WC.seq ?_
   refine WC.region ?_
   refine WL.quiet (d:=10) rfl rfl rfl (q_move rfl) ?_
   refine WL.quiet (d:=5) rfl rfl rfl (q_assign rfl) ?_
   refine WL.nil ?_
   refine WX.then ?_
   refine WC.seq ?_
   obtain ⟨zqn,h⟩:=chk_elim h
   refine WC.draw (fun i=>[].contains i) [] rfl ?_
   refine WD.quiet (i:=0) (d:=11) (by kernel_rfl) rfl (z6 (by kernel_rfl)) (z7 (by kernel_rfl)) rfl rfl rfl (q_loadA (cs:=[(.int .i64 z2P.fBurst.fN),(.int .i64 z2P.fBurst.fD),(.int .i64 z2P.fRate.fN),(.int .i64 z2P.fRate.fD)]) aggT_42 rfl rfl (rd_all .here)) ?_
   refine WD.pure (i:=1) (d:=12) (by kernel_rfl) rfl (z6 (by kernel_rfl)) (z7 (by kernel_rfl)) rfl rfl rfl (fun _=>q_move rfl) ?_
   refine WD.pure (i:=2) (d:=13) (by kernel_rfl) rfl (z6 (by kernel_rfl)) (z7 (by kernel_rfl)) rfl rfl rfl (fun _=>q_move rfl) ?_
   refine WD.znth (j:=3) (dd:=14) (by kernel_rfl) rfl (z6 (by kernel_rfl)) (z7 (by kernel_rfl)) rfl rfl (Z:=Z) (Pr:=(fun r x=>r = e42 x)) elT_25 rfl rfl zql zqn ?_
   rintro zxo zxp zqo zxq rfl
   refine WD.quiet (i:=4) (d:=15) (by kernel_rfl) rfl (z6 (by kernel_rfl)) (z7 (by kernel_rfl)) rfl rfl rfl (q_loadA (cs:=[(.int .i64 (((nth z3w z3N).fBurst).fN)),(.int .i64 (((nth z3w z3N).fBurst).fD)),(.int .i64 (((nth z3w z3N).fRate).fN)),(.int .i64 (((nth z3w z3N).fRate).fD))]) aggT_42 rfl rfl (rd_zs hz.pv zqo)) ?_
   refine WD.pure (i:=5) (d:=16) (by kernel_rfl) rfl (z6 (by kernel_rfl)) (z7 (by kernel_rfl)) rfl rfl rfl (fun _=>q_aggeql (enc:=e42) (a:=z2P) (b:=(⟨(⟨(((nth z3w z3N).fBurst).fN),(((nth z3w z3N).fBurst).fD)⟩ : z2),(⟨(((nth z3w z3N).fRate).fN),(((nth z3w z3N).fRate).fD)⟩ : z2)⟩ : z1)) eqT_42 rfl rfl) ?_
   refine WD.done (by kernel_rfl) ?_
   refine WX.then ?_
   refine WC.cond rfl (fun zh4=>?_) (fun zh4=>?_)
   ·replace h:=ite_t h zh4
    refine WC.seq ?_
    refine WC.region ?_
    refine WL.quiet (d:=17) rfl rfl rfl (q_move rfl) ?_
    refine WL.quiet (d:=4) rfl rfl rfl (q_assign rfl) ?_
    refine WL.nil ?_
    refine WX.then ?_
    refine WC.ret ?_
    refine WX.blockRet ?_
    refine WX.thenRet ?_
    refine WX.thenRet ?_
    refine WX.blockRet ?_
    refine WX.thenRet ?_
    obtain rfl:=Option.some.inj h
    refine WX.bpRet Try.results80 (.tmp rfl .nil) (fun w hw=>?_)
    exact ⟨ret1 rfl,hw.sub .nil⟩
   ·replace h:=ite_f h zh4
    refine WC.skip ?_
    refine WX.blockNormal ?_
    refine WX.then ?_
    refine WC.region ?_
    refine WL.quiet (d:=18) rfl rfl rfl (q_add rfl rfl rfl) ?_
    refine WL.quiet (d:=8) rfl rfl rfl (q_move rfl) ?_
    refine WL.nil ?_
    exact WX.round (G:=Nat × Int) ⟨zh2,(i64 (z3N + 1))⟩ h (Nat.lt_succ_self _) (.cons rfl (.cons rfl (.cons rfl (.cons rfl .nil)))) (.cons .here .nil)
  ·replace h:=ite_f h zh3
   refine WC.exit ?_
   refine WX.thenExit ?_
   refine WX.thenExit ?_
   refine WX.blockHit ?_
   exact WX.mid (G:=Unit) () h .nil .nil
 ·rintro  h
  replace h:=zqm.symm.trans h
  refine WC.seq ?_
  refine WC.region ?_
  refine WL.quiet (d:=4) rfl rfl rfl (q_assign rfl) ?_
  refine WL.nil ?_
  refine WX.then ?_
  refine WC.ret ?_
  obtain rfl:=Option.some.inj h
  refine WX.bpRet Try.results80 (.tmp rfl .nil) (fun w hw=>?_)
  exact ⟨ret1 rfl,hw.sub .nil⟩
def m_slices_Contains_api_Curve_api_Bucket (z8y : List z1) (z2z : z1) : Option Bool :=
 (m_slices_Index_api_Curve_api_Bucket z8y z2z).bind fun zh5=>some (decide (zh5 ≥ 0))
set_option maxRecDepth 20000 in
theorem w_slices_Contains_api_Curve_api_Bucket (Z : Zp)  (zbz : Option Addr) (zbA : Nat) (z8y : List z1) (z2z : z1) (r : Bool) (w₀ : World) (hz : PZ [] w₀ Z)
  (zqp : ZS Z 4 (fun r x=>r = e42 x) zbz zbA z8y)
  (h : m_slices_Contains_api_Curve_api_Bucket z8y z2z = some r) :
  Calls Try.prog 68 #[(.slice zbz z8y.length zbA),(.agg #[(.int .i64 z2z.fBurst.fN),(.int .i64 z2z.fBurst.fD),(.int .i64 z2z.fRate.fN),(.int .i64 z2z.fRate.fD)])] w₀ fun e w'=>e = .returned (.bool r) ∧ Hp [] w₀ w' []:=by
 unfold m_slices_Contains_api_Curve_api_Bucket at h
 refine Calls.ofWC (vs:=[(.slice zbz z8y.length zbA),(.agg #[(.int .i64 z2z.fBurst.fN),(.int .i64 z2z.fBurst.fD),(.int .i64 z2z.fRate.fN),(.int .i64 z2z.fRate.fD)])]) (pre:=[]) (env:=[(0,(.slice zbz z8y.length zbA)),(1,(.agg #[(.int .i64 z2z.fBurst.fN),(.int .i64 z2z.fBurst.fD),(.int .i64 z2z.fRate.fN),(.int .i64 z2z.fRate.fD)]))]) Try.func68 rfl Try.ntmps68 rfl (Hp.nil w₀ _) rfl ?_
 refine WC.seq ?_
 refine WC.region ?_
 refine WL.new (dd:=3) rfl rfl rfl (e_box (cs:=[(.int .i64 z2z.fBurst.fN),(.int .i64 z2z.fBurst.fD),(.int .i64 z2z.fRate.fN),(.int .i64 z2z.fRate.fD)]) rfl rfl) ?_
 intro zeE _
 refine WL.quiet (d:=4) rfl rfl rfl (q_assign rfl) ?_
 refine WL.nil ?_
 refine WX.then ?_
 refine WC.seq ?_
 obtain ⟨zh5,zqq,h⟩:=zb h
 refine WC.region ?_
 refine WL.quiet (d:=5) rfl rfl rfl (q_move rfl) ?_
 refine WL.quiet (d:=6) rfl rfl rfl (q_loadA (cs:=[(.int .i64 z2z.fBurst.fN),(.int .i64 z2z.fBurst.fD),(.int .i64 z2z.fRate.fN),(.int .i64 z2z.fRate.fD)]) aggT_42 rfl rfl (rd_all .here)) ?_
 refine WL.callD (dd:=7) rfl rfl rfl (zg (l:=[.tmp 5,.tmp 6]) Try.call80 (.cons rfl (.cons rfl .nil))) (.nil : Sel [stb zeE 42 [(.int .i64 z2z.fBurst.fN),(.int .i64 z2z.fBurst.fD),(.int .i64 z2z.fRate.fN),(.int .i64 z2z.fRate.fD)]] [] [stb zeE 42 [(.int .i64 z2z.fBurst.fN),(.int .i64 z2z.fBurst.fD),(.int .i64 z2z.fRate.fN),(.int .i64 z2z.fRate.fD)]]) (fun w hw=>by have pz:=(hz.call hw (.nil : Sel [stb zeE 42 [(.int .i64 z2z.fBurst.fN),(.int .i64 z2z.fBurst.fD),(.int .i64 z2z.fRate.fN),(.int .i64 z2z.fRate.fD)]] [] [stb zeE 42 [(.int .i64 z2z.fBurst.fN),(.int .i64 z2z.fBurst.fD),(.int .i64 z2z.fRate.fN),(.int .i64 z2z.fRate.fD)]])); exact w_slices_Index_api_Curve_api_Bucket (Z:=_) (zbw:=zbz) (zbx:=zbA) (z3w:=z8y) (z2P:=z2z) (r:=zh5) w pz zqp zqq) ?_
 refine WL.quiet (d:=8) rfl rfl rfl (q_geq rfl rfl) ?_
 refine WL.quiet (d:=4) rfl rfl rfl (q_assign rfl) ?_
 refine WL.nil ?_
 refine WX.then ?_
 refine WC.ret ?_
 obtain rfl:=Option.some.inj h
 refine WX.bpRet Try.results68 (.tmp rfl .nil) (fun w hw=>?_)
 exact ⟨ret1 rfl,hw.sub .nil⟩
def m_curve_dominates (z1j : z1) (z1k : z1) : Option Bool :=
 (if decide (z1j ≠ z1k) then (m_rat_Cmp z1j.fBurst z1k.fBurst).bind fun zh6=>some (decide (zh6 ≤ 0)) else some false).bind fun zeF=>(if zeF then (m_rat_Cmp z1j.fRate z1k.fRate).bind fun zh7=>some (decide (zh7 ≤ 0)) else some false).bind fun zh8=>some zh8
set_option maxRecDepth 20000 in
theorem w_curve_dominates (Z : Zp)   (z1j : z1) (z1k : z1) (r : Bool) (w₀ : World) (hz : PZ [] w₀ Z)
  (h : m_curve_dominates z1j z1k = some r) :
  Calls Try.prog 70 #[(.agg #[(.int .i64 z1j.fBurst.fN),(.int .i64 z1j.fBurst.fD),(.int .i64 z1j.fRate.fN),(.int .i64 z1j.fRate.fD)]),(.agg #[(.int .i64 z1k.fBurst.fN),(.int .i64 z1k.fBurst.fD),(.int .i64 z1k.fRate.fN),(.int .i64 z1k.fRate.fD)])] w₀ fun e w'=>e = .returned (.bool r) ∧ Hp [] w₀ w' []:=by
 unfold m_curve_dominates at h
 refine Calls.ofWC (vs:=[(.agg #[(.int .i64 z1j.fBurst.fN),(.int .i64 z1j.fBurst.fD),(.int .i64 z1j.fRate.fN),(.int .i64 z1j.fRate.fD)]),(.agg #[(.int .i64 z1k.fBurst.fN),(.int .i64 z1k.fBurst.fD),(.int .i64 z1k.fRate.fN),(.int .i64 z1k.fRate.fD)])]) (pre:=[]) (env:=[(0,(.agg #[(.int .i64 z1j.fBurst.fN),(.int .i64 z1j.fBurst.fD),(.int .i64 z1j.fRate.fN),(.int .i64 z1j.fRate.fD)])),(1,(.agg #[(.int .i64 z1k.fBurst.fN),(.int .i64 z1k.fBurst.fD),(.int .i64 z1k.fRate.fN),(.int .i64 z1k.fRate.fD)]))]) Try.func70 rfl Try.ntmps70 rfl (Hp.nil w₀ _) rfl ?_
 refine WC.seq ?_
 refine WC.region ?_
 refine WL.new (dd:=2) rfl rfl rfl (e_box (cs:=[(.int .i64 z1j.fBurst.fN),(.int .i64 z1j.fBurst.fD),(.int .i64 z1j.fRate.fN),(.int .i64 z1j.fRate.fD)]) rfl rfl) ?_
 intro z7x _
 refine WL.new (dd:=3) rfl rfl rfl (e_box (cs:=[(.int .i64 z1k.fBurst.fN),(.int .i64 z1k.fBurst.fD),(.int .i64 z1k.fRate.fN),(.int .i64 z1k.fRate.fD)]) rfl rfl) ?_
 intro z7y _
 refine WL.quiet (d:=4) rfl rfl rfl (q_assign rfl) ?_
 refine WL.nil ?_
 refine WX.then ?_
 refine WC.seq ?_
 obtain ⟨zeF,zlN,h⟩:=zb h
 obtain ⟨zh8,zlO,h⟩:=zb h
 refine WC.region ?_
 refine WL.quiet (d:=5) rfl rfl rfl (q_loadA (cs:=[(.int .i64 z1j.fBurst.fN),(.int .i64 z1j.fBurst.fD),(.int .i64 z1j.fRate.fN),(.int .i64 z1j.fRate.fD)]) aggT_42 rfl rfl (rd_all (.there .here))) ?_
 refine WL.quiet (d:=6) rfl rfl rfl (q_loadA (cs:=[(.int .i64 z1k.fBurst.fN),(.int .i64 z1k.fBurst.fD),(.int .i64 z1k.fRate.fN),(.int .i64 z1k.fRate.fD)]) aggT_42 rfl rfl (rd_all .here)) ?_
 refine WL.quiet (d:=7) rfl rfl rfl (q_aggneq (enc:=e42) (a:=z1j) (b:=z1k) eqT_42 rfl rfl) ?_
 refine WL.quiet (d:=8) rfl rfl rfl (q_move rfl) ?_
 refine WL.cut0 True [(2,(.pointer (some ⟨z7x,0,none⟩))),(3,(.pointer (some ⟨z7y,0,none⟩))),(4,(.bool false)),(15,(.bool zeF))] [stb z7y 42 [(.int .i64 z1k.fBurst.fN),(.int .i64 z1k.fBurst.fD),(.int .i64 z1k.fRate.fN),(.int .i64 z1k.fRate.fD)],stb z7x 42 [(.int .i64 z1j.fBurst.fN),(.int .i64 z1j.fBurst.fD),(.int .i64 z1j.fRate.fN),(.int .i64 z1j.fRate.fD)]] 7 ?_ (fun _=>?_)
 ·rcases Bool.eq_false_or_eq_true (decide (z1j ≠ z1k)) with hb' | hb'
  ·have zlP:=hb'; clear hb'
   have zdh:=ite_t zlN zlP
   obtain ⟨zh6,zqr,zdh⟩:=zb zdh
   replace zdh:=Option.some.inj zdh
   refine WL.pin (i:=8) rfl zlP ?_
   refine WL.quiet (d:=9) rfl rfl rfl (q_fieldAddr fo_42_0 rfl rfl) ?_
   refine WL.quiet (d:=10) rfl rfl rfl (q_loadA (cs:=[(.int .i64 z1j.fBurst.fN),(.int .i64 z1j.fBurst.fD)]) aggT_28 rfl rfl (rd_sub (s:=2) (.there .here) rfl)) ?_
   refine WL.quiet (d:=11) rfl rfl rfl (q_fieldAddr fo_42_0 rfl rfl) ?_
   refine WL.quiet (d:=12) rfl rfl rfl (q_loadA (cs:=[(.int .i64 z1k.fBurst.fN),(.int .i64 z1k.fBurst.fD)]) aggT_28 rfl rfl (rd_sub (s:=2) .here rfl)) ?_
   refine WL.callD (dd:=13) rfl rfl rfl (zg (l:=[.tmp 10,.tmp 12]) Try.call17 (.cons rfl (.cons rfl .nil))) (.nil : Sel [stb z7y 42 [(.int .i64 z1k.fBurst.fN),(.int .i64 z1k.fBurst.fD),(.int .i64 z1k.fRate.fN),(.int .i64 z1k.fRate.fD)],stb z7x 42 [(.int .i64 z1j.fBurst.fN),(.int .i64 z1j.fBurst.fD),(.int .i64 z1j.fRate.fN),(.int .i64 z1j.fRate.fD)]] [] [stb z7y 42 [(.int .i64 z1k.fBurst.fN),(.int .i64 z1k.fBurst.fD),(.int .i64 z1k.fRate.fN),(.int .i64 z1k.fRate.fD)],stb z7x 42 [(.int .i64 z1j.fBurst.fN),(.int .i64 z1j.fBurst.fD),(.int .i64 z1j.fRate.fN),(.int .i64 z1j.fRate.fD)]]) (fun w hw=>by have pz:=(hz.call hw (.nil : Sel [stb z7y 42 [(.int .i64 z1k.fBurst.fN),(.int .i64 z1k.fBurst.fD),(.int .i64 z1k.fRate.fN),(.int .i64 z1k.fRate.fD)],stb z7x 42 [(.int .i64 z1j.fBurst.fN),(.int .i64 z1j.fBurst.fD),(.int .i64 z1j.fRate.fN),(.int .i64 z1j.fRate.fD)]] [] [stb z7y 42 [(.int .i64 z1k.fBurst.fN),(.int .i64 z1k.fBurst.fD),(.int .i64 z1k.fRate.fN),(.int .i64 z1k.fRate.fD)],stb z7x 42 [(.int .i64 z1j.fBurst.fN),(.int .i64 z1j.fBurst.fD),(.int .i64 z1j.fRate.fN),(.int .i64 z1j.fRate.fD)]])); exact w_rat_Cmp (Z:=_)  (z2s:=z1j.fBurst) (z2t:=z1k.fBurst) (r:=zh6) w pz  zqr) ?_
   refine WL.quiet (d:=14) rfl rfl rfl (q_leq rfl rfl) ?_
   refine WL.quiet (d:=15) rfl rfl rfl (q_pickT rfl rfl) ?_
   exact WL.cutEnd () trivial (.cons rfl (.cons rfl (.cons rfl (.cons (zl zdh) .nil)))) (.cons .here (.cons .here .nil))
  ·have zlQ:=hb'; clear hb'
   have zh9:=ite_f zlN zlQ
   replace zh9:=Option.some.inj zh9
   refine WL.pin (i:=8) rfl zlQ ?_
   refine WL.skip rfl rfl rfl ?_
   refine WL.skip rfl rfl rfl ?_
   refine WL.skip rfl rfl rfl ?_
   refine WL.skip rfl rfl rfl ?_
   refine WL.skip rfl rfl rfl ?_
   refine WL.skip rfl rfl rfl ?_
   refine WL.quiet (d:=15) rfl rfl rfl (q_pickF rfl rfl) ?_
   exact WL.cutEnd () trivial (.cons rfl (.cons rfl (.cons rfl (.cons (zl zh9) .nil)))) (.cons .here (.cons .here .nil))
 ·skip
  refine WL.quiet (d:=16) rfl rfl rfl (q_move rfl) ?_
  refine WL.cut0 True [(4,(.bool false)),(23,(.bool zh8))] [stb z7y 42 [(.int .i64 z1k.fBurst.fN),(.int .i64 z1k.fBurst.fD),(.int .i64 z1k.fRate.fN),(.int .i64 z1k.fRate.fD)],stb z7x 42 [(.int .i64 z1j.fBurst.fN),(.int .i64 z1j.fBurst.fD),(.int .i64 z1j.fRate.fN),(.int .i64 z1j.fRate.fD)]] 7 ?_ (fun _=>?_)
  ·rcases Bool.eq_false_or_eq_true zeF with hb' | hb'
   ·have zlR:=hb'; clear hb'
    have zdi:=ite_t zlO zlR
    obtain ⟨zh7,zqs,zdi⟩:=zb zdi
    replace zdi:=Option.some.inj zdi
    refine WL.pin (i:=16) rfl zlR ?_
    refine WL.quiet (d:=17) rfl rfl rfl (q_fieldAddr fo_42_1 rfl rfl) ?_
    refine WL.quiet (d:=18) rfl rfl rfl (q_loadA (cs:=[(.int .i64 z1j.fRate.fN),(.int .i64 z1j.fRate.fD)]) aggT_28 rfl rfl (rd_sub (s:=2) (.there .here) rfl)) ?_
    refine WL.quiet (d:=19) rfl rfl rfl (q_fieldAddr fo_42_1 rfl rfl) ?_
    refine WL.quiet (d:=20) rfl rfl rfl (q_loadA (cs:=[(.int .i64 z1k.fRate.fN),(.int .i64 z1k.fRate.fD)]) aggT_28 rfl rfl (rd_sub (s:=2) .here rfl)) ?_
    refine WL.callD (dd:=21) rfl rfl rfl (zg (l:=[.tmp 18,.tmp 20]) Try.call17 (.cons rfl (.cons rfl .nil))) (.nil : Sel [stb z7y 42 [(.int .i64 z1k.fBurst.fN),(.int .i64 z1k.fBurst.fD),(.int .i64 z1k.fRate.fN),(.int .i64 z1k.fRate.fD)],stb z7x 42 [(.int .i64 z1j.fBurst.fN),(.int .i64 z1j.fBurst.fD),(.int .i64 z1j.fRate.fN),(.int .i64 z1j.fRate.fD)]] [] [stb z7y 42 [(.int .i64 z1k.fBurst.fN),(.int .i64 z1k.fBurst.fD),(.int .i64 z1k.fRate.fN),(.int .i64 z1k.fRate.fD)],stb z7x 42 [(.int .i64 z1j.fBurst.fN),(.int .i64 z1j.fBurst.fD),(.int .i64 z1j.fRate.fN),(.int .i64 z1j.fRate.fD)]]) (fun w hw=>by have pz:=(hz.call hw (.nil : Sel [stb z7y 42 [(.int .i64 z1k.fBurst.fN),(.int .i64 z1k.fBurst.fD),(.int .i64 z1k.fRate.fN),(.int .i64 z1k.fRate.fD)],stb z7x 42 [(.int .i64 z1j.fBurst.fN),(.int .i64 z1j.fBurst.fD),(.int .i64 z1j.fRate.fN),(.int .i64 z1j.fRate.fD)]] [] [stb z7y 42 [(.int .i64 z1k.fBurst.fN),(.int .i64 z1k.fBurst.fD),(.int .i64 z1k.fRate.fN),(.int .i64 z1k.fRate.fD)],stb z7x 42 [(.int .i64 z1j.fBurst.fN),(.int .i64 z1j.fBurst.fD),(.int .i64 z1j.fRate.fN),(.int .i64 z1j.fRate.fD)]])); exact w_rat_Cmp (Z:=_)  (z2s:=z1j.fRate) (z2t:=z1k.fRate) (r:=zh7) w pz  zqs) ?_
    refine WL.quiet (d:=22) rfl rfl rfl (q_leq rfl rfl) ?_
    refine WL.quiet (d:=23) rfl rfl rfl (q_pickT rfl rfl) ?_
    exact WL.cutEnd () trivial (.cons rfl (.cons (zl zdi) .nil)) (.cons .here (.cons .here .nil))
   ·have zlS:=hb'; clear hb'
    have zha:=ite_f zlO zlS
    replace zha:=Option.some.inj zha
    refine WL.pin (i:=16) rfl zlS ?_
    refine WL.skip rfl rfl rfl ?_
    refine WL.skip rfl rfl rfl ?_
    refine WL.skip rfl rfl rfl ?_
    refine WL.skip rfl rfl rfl ?_
    refine WL.skip rfl rfl rfl ?_
    refine WL.skip rfl rfl rfl ?_
    refine WL.quiet (d:=23) rfl rfl rfl (q_pickF rfl rfl) ?_
    exact WL.cutEnd () trivial (.cons rfl (.cons (zl zha) .nil)) (.cons .here (.cons .here .nil))
  ·skip
   refine WL.quiet (d:=4) rfl rfl rfl (q_assign rfl) ?_
   refine WL.nil ?_
   refine WX.then ?_
   refine WC.ret ?_
   obtain rfl:=Option.some.inj h
   refine WX.bpRet Try.results70 (.tmp rfl .nil) (fun w hw=>?_)
   exact ⟨ret1 rfl,hw.sub .nil⟩
def m_curve_norm_1 (z2A : z1) (z6G : z1) : Option Bool :=
 (m_curve_dominates z2A z6G).bind fun zhb=>some zhb
set_option maxRecDepth 20000 in
theorem w_curve_norm_1 (Z : Zp)  (zdj : Addr) (z2A : z1) (z6G : z1) (r : Bool) (w₀ : World) (hz : PZ [] w₀ Z)
  (zqt : ZC Z zdj [(.int .i64 z6G.fBurst.fN),(.int .i64 z6G.fBurst.fD),(.int .i64 z6G.fRate.fN),(.int .i64 z6G.fRate.fD)])
  (h : m_curve_norm_1 z2A z6G = some r) :
  Calls Try.prog 69 #[(.agg #[(.int .i64 z2A.fBurst.fN),(.int .i64 z2A.fBurst.fD),(.int .i64 z2A.fRate.fN),(.int .i64 z2A.fRate.fD)]),(.pointer (some zdj))] w₀ fun e w'=>e = .returned (.bool r) ∧ Hp [] w₀ w' []:=by
 unfold m_curve_norm_1 at h
 refine Calls.ofWC (vs:=[(.agg #[(.int .i64 z2A.fBurst.fN),(.int .i64 z2A.fBurst.fD),(.int .i64 z2A.fRate.fN),(.int .i64 z2A.fRate.fD)]),(.pointer (some zdj))]) (pre:=[]) (env:=[(0,(.agg #[(.int .i64 z2A.fBurst.fN),(.int .i64 z2A.fBurst.fD),(.int .i64 z2A.fRate.fN),(.int .i64 z2A.fRate.fD)])),(1,(.pointer (some zdj)))]) Try.func69 rfl Try.ntmps69 rfl (Hp.nil w₀ _) rfl ?_
 refine WC.seq ?_
 refine WC.region ?_
 refine WL.new (dd:=2) rfl rfl rfl (e_box (cs:=[(.int .i64 z2A.fBurst.fN),(.int .i64 z2A.fBurst.fD),(.int .i64 z2A.fRate.fN),(.int .i64 z2A.fRate.fD)]) rfl rfl) ?_
 intro zeG _
 refine WL.quiet (d:=3) rfl rfl rfl (q_assign rfl) ?_
 refine WL.nil ?_
 refine WX.then ?_
 refine WC.seq ?_
 obtain ⟨zhb,zqu,h⟩:=zb h
 refine WC.region ?_
 refine WL.quiet (d:=4) rfl rfl rfl (q_loadA (cs:=[(.int .i64 z2A.fBurst.fN),(.int .i64 z2A.fBurst.fD),(.int .i64 z2A.fRate.fN),(.int .i64 z2A.fRate.fD)]) aggT_42 rfl rfl (rd_all .here)) ?_
 refine WL.quiet (d:=5) rfl rfl rfl (q_loadA (cs:=[(.int .i64 z6G.fBurst.fN),(.int .i64 z6G.fBurst.fD),(.int .i64 z6G.fRate.fN),(.int .i64 z6G.fRate.fD)]) aggT_42 rfl rfl (rd_zs hz.pv zqt)) ?_
 refine WL.callD (dd:=6) rfl rfl rfl (zg (l:=[.tmp 4,.tmp 5]) Try.call70 (.cons rfl (.cons rfl .nil))) (.nil : Sel [stb zeG 42 [(.int .i64 z2A.fBurst.fN),(.int .i64 z2A.fBurst.fD),(.int .i64 z2A.fRate.fN),(.int .i64 z2A.fRate.fD)]] [] [stb zeG 42 [(.int .i64 z2A.fBurst.fN),(.int .i64 z2A.fBurst.fD),(.int .i64 z2A.fRate.fN),(.int .i64 z2A.fRate.fD)]]) (fun w hw=>by have pz:=(hz.call hw (.nil : Sel [stb zeG 42 [(.int .i64 z2A.fBurst.fN),(.int .i64 z2A.fBurst.fD),(.int .i64 z2A.fRate.fN),(.int .i64 z2A.fRate.fD)]] [] [stb zeG 42 [(.int .i64 z2A.fBurst.fN),(.int .i64 z2A.fBurst.fD),(.int .i64 z2A.fRate.fN),(.int .i64 z2A.fRate.fD)]])); exact w_curve_dominates (Z:=_)  (z1j:=z2A) (z1k:=z6G) (r:=zhb) w pz  zqu) ?_
 refine WL.quiet (d:=3) rfl rfl rfl (q_assign rfl) ?_
 refine WL.nil ?_
 refine WX.then ?_
 refine WC.ret ?_
 obtain rfl:=Option.some.inj h
 refine WX.bpRet Try.results69 (.tmp rfl .nil) (fun w hw=>?_)
 exact ⟨ret1 rfl,hw.sub .nil⟩
def m_curve_norm_2 (z2I : z1) (z2J : z1) : Option Int :=
 (m_rat_Cmp z2I.fBurst z2J.fBurst).bind fun zhc=>some zhc
set_option maxRecDepth 20000 in
theorem w_curve_norm_2 (Z : Zp)   (z2I : z1) (z2J : z1) (r : Int) (w₀ : World) (hz : PZ [] w₀ Z)
  (h : m_curve_norm_2 z2I z2J = some r) :
  Calls Try.prog 72 #[(.agg #[(.int .i64 z2I.fBurst.fN),(.int .i64 z2I.fBurst.fD),(.int .i64 z2I.fRate.fN),(.int .i64 z2I.fRate.fD)]),(.agg #[(.int .i64 z2J.fBurst.fN),(.int .i64 z2J.fBurst.fD),(.int .i64 z2J.fRate.fN),(.int .i64 z2J.fRate.fD)])] w₀ fun e w'=>e = .returned (.int .i64 r) ∧ Hp [] w₀ w' []:=by
 unfold m_curve_norm_2 at h
 refine Calls.ofWC (vs:=[(.agg #[(.int .i64 z2I.fBurst.fN),(.int .i64 z2I.fBurst.fD),(.int .i64 z2I.fRate.fN),(.int .i64 z2I.fRate.fD)]),(.agg #[(.int .i64 z2J.fBurst.fN),(.int .i64 z2J.fBurst.fD),(.int .i64 z2J.fRate.fN),(.int .i64 z2J.fRate.fD)])]) (pre:=[]) (env:=[(0,(.agg #[(.int .i64 z2I.fBurst.fN),(.int .i64 z2I.fBurst.fD),(.int .i64 z2I.fRate.fN),(.int .i64 z2I.fRate.fD)])),(1,(.agg #[(.int .i64 z2J.fBurst.fN),(.int .i64 z2J.fBurst.fD),(.int .i64 z2J.fRate.fN),(.int .i64 z2J.fRate.fD)]))]) Try.func72 rfl Try.ntmps72 rfl (Hp.nil w₀ _) rfl ?_
 refine WC.seq ?_
 refine WC.region ?_
 refine WL.new (dd:=2) rfl rfl rfl (e_box (cs:=[(.int .i64 z2I.fBurst.fN),(.int .i64 z2I.fBurst.fD),(.int .i64 z2I.fRate.fN),(.int .i64 z2I.fRate.fD)]) rfl rfl) ?_
 intro zeH _
 refine WL.new (dd:=3) rfl rfl rfl (e_box (cs:=[(.int .i64 z2J.fBurst.fN),(.int .i64 z2J.fBurst.fD),(.int .i64 z2J.fRate.fN),(.int .i64 z2J.fRate.fD)]) rfl rfl) ?_
 intro zeI _
 refine WL.quiet (d:=4) rfl rfl rfl (q_assign rfl) ?_
 refine WL.nil ?_
 refine WX.then ?_
 refine WC.seq ?_
 obtain ⟨zhc,zqv,h⟩:=zb h
 refine WC.region ?_
 refine WL.quiet (d:=5) rfl rfl rfl (q_fieldAddr fo_42_0 rfl rfl) ?_
 refine WL.quiet (d:=6) rfl rfl rfl (q_loadA (cs:=[(.int .i64 z2I.fBurst.fN),(.int .i64 z2I.fBurst.fD)]) aggT_28 rfl rfl (rd_sub (s:=2) (.there .here) rfl)) ?_
 refine WL.quiet (d:=7) rfl rfl rfl (q_fieldAddr fo_42_0 rfl rfl) ?_
 refine WL.quiet (d:=8) rfl rfl rfl (q_loadA (cs:=[(.int .i64 z2J.fBurst.fN),(.int .i64 z2J.fBurst.fD)]) aggT_28 rfl rfl (rd_sub (s:=2) .here rfl)) ?_
 refine WL.callD (dd:=9) rfl rfl rfl (zg (l:=[.tmp 6,.tmp 8]) Try.call17 (.cons rfl (.cons rfl .nil))) (.nil : Sel [stb zeI 42 [(.int .i64 z2J.fBurst.fN),(.int .i64 z2J.fBurst.fD),(.int .i64 z2J.fRate.fN),(.int .i64 z2J.fRate.fD)],stb zeH 42 [(.int .i64 z2I.fBurst.fN),(.int .i64 z2I.fBurst.fD),(.int .i64 z2I.fRate.fN),(.int .i64 z2I.fRate.fD)]] [] [stb zeI 42 [(.int .i64 z2J.fBurst.fN),(.int .i64 z2J.fBurst.fD),(.int .i64 z2J.fRate.fN),(.int .i64 z2J.fRate.fD)],stb zeH 42 [(.int .i64 z2I.fBurst.fN),(.int .i64 z2I.fBurst.fD),(.int .i64 z2I.fRate.fN),(.int .i64 z2I.fRate.fD)]]) (fun w hw=>by have pz:=(hz.call hw (.nil : Sel [stb zeI 42 [(.int .i64 z2J.fBurst.fN),(.int .i64 z2J.fBurst.fD),(.int .i64 z2J.fRate.fN),(.int .i64 z2J.fRate.fD)],stb zeH 42 [(.int .i64 z2I.fBurst.fN),(.int .i64 z2I.fBurst.fD),(.int .i64 z2I.fRate.fN),(.int .i64 z2I.fRate.fD)]] [] [stb zeI 42 [(.int .i64 z2J.fBurst.fN),(.int .i64 z2J.fBurst.fD),(.int .i64 z2J.fRate.fN),(.int .i64 z2J.fRate.fD)],stb zeH 42 [(.int .i64 z2I.fBurst.fN),(.int .i64 z2I.fBurst.fD),(.int .i64 z2I.fRate.fN),(.int .i64 z2I.fRate.fD)]])); exact w_rat_Cmp (Z:=_)  (z2s:=z2I.fBurst) (z2t:=z2J.fBurst) (r:=zhc) w pz  zqv) ?_
 refine WL.quiet (d:=4) rfl rfl rfl (q_assign rfl) ?_
 refine WL.nil ?_
 refine WX.then ?_
 refine WC.ret ?_
 obtain rfl:=Option.some.inj h
 refine WX.bpRet Try.results72 (.tmp rfl .nil) (fun w hw=>?_)
 exact ⟨ret1 rfl,hw.sub .nil⟩
def m_bits_Len (z8z : Int) : Option Int:=chk ((0 : Int) ≤ z8z ∧ z8z ≤ 18446744073709551615) (some ((Go.Lib.bitLen (z8z).toNat : Nat) : Int))
theorem w_bits_Len (Z : Zp) (z8z : Int) (r : Int) (w₀ : World) (hz : PZ [] w₀ Z) (h : m_bits_Len z8z = some r) : Calls Try.prog 75 #[.int .u64 z8z] w₀ fun e w'=>e = .returned (.int .i64 r) ∧ Hp [] w₀ w' []:=by
 obtain ⟨h0,h⟩:=chk_elim h
 obtain rfl:=Option.some.inj h
 refine (Try.bits_Len z8z w₀ h0.1 h0.2).mono ?_
 rintro e w' ⟨rfl,rfl⟩
 exact ⟨rfl,Hp.nil w' []⟩
theorem srtA_81 : ∀ w,(isAgg (Try.laysSlF014_f81_ren.t 24)).run Try.prog w = .ok true w:=fun _=>by kernel_rfl
theorem srtZ_81 : ∀ w,(Go.sizeOf (Try.laysSlF014_f81_ren.t 24)).run Try.prog w = .ok 4 w:=fun _=>by kernel_rfl
def m_slices_pdqsortCmpFunc_api_Bucket (z5D : List z1) (zdk : Int) (zdl : Int) (zbB : Int) (zay : z1 → z1 → Option Int) : Option (List z1):=chk ((zdk = 0 ∧ zdl = ((z5D.length : Nat) : Int)) ∧ (0 ≤ zbB ∧ zbB < 4611686018427387904 ∧ z5D.length < 4611686018427387904)) (chk (ordB zay (sortBy zay z5D) = true) (some (sortBy zay z5D)))
theorem w_slices_pdqsortCmpFunc_api_Bucket (Z : Zp) (zaz : Option Addr) (zaA : Nat) (zdm : FuncId) (zhd : List Value) (z5D : List z1) (zdk : Int) (zdl : Int) (zbB : Int) (zay : z1 → z1 → Option Int) (r : List z1) (w₀ : World) (hz : PZ (fps [row (.slice zaz z5D.length zaA) 42 4 (z5D.flatMap e42)]) w₀ Z)
  (zqw : ∀ args w,(callFunc zdm args).run Try.prog w = .ok (.enter zdm args) w)
  (zqx : ∀ w : World,PZ [] w Z → ∀ (x0 : z1) (x1 : z1) (r : Int),zay x0 x1 = some r → Calls Try.prog zdm (([(.agg #[(.int .i64 x0.fBurst.fN),(.int .i64 x0.fBurst.fD),(.int .i64 x0.fRate.fN),(.int .i64 x0.fRate.fD)]),(.agg #[(.int .i64 x1.fBurst.fN),(.int .i64 x1.fBurst.fD),(.int .i64 x1.fRate.fN),(.int .i64 x1.fRate.fD)])] : List Value) ++ zhd).toArray w fun e w'=>e = .returned (.int .i64 r) ∧ Hp [] w w' [])
  (h : m_slices_pdqsortCmpFunc_api_Bucket z5D zdk zdl zbB zay = some r) (hown : Hp (fps [row (.slice zaz z5D.length zaA) 42 4 (z5D.flatMap e42)]) w₀ w₀ [row (.slice zaz z5D.length zaA) 42 4 (z5D.flatMap e42)]) :
  Calls Try.prog 81 #[(.slice zaz z5D.length zaA),(.int .i64 zdk),(.int .i64 zdl),(.int .i64 zbB),(.func (.func zdm) #[] (zhd).toArray)] w₀ fun e w'=>e = .returned (.tuple #[]) ∧ (r.length = z5D.length) ∧ Hp (fps [row (.slice zaz z5D.length zaA) 42 4 (z5D.flatMap e42)]) w₀ w' [row (.slice zaz r.length zaA) 42 4 (r.flatMap e42)]:=by
 obtain ⟨h0,h⟩:=chk_elim h
 obtain ⟨h1,h⟩:=chk_elim h
 have hr:=(Option.some.inj h).symm
 exact sort_func (P:=Try.prog) (f:=81) (e:=42) (k:=4) (enc:=e42) (fun _=>rfl) (by decide) e42_oc (fun β _ enc cf g cb hO blk off cap d0 w0 eg hC R=>Try.pdqsortCmpFunc_all_f81 4 srtA_81 srtZ_81 enc cf g cb hO blk off cap d0 w0 eg hC R) (Try.pdqsortCmpFunc_none_f81 (α:=Unit)) hz zqw zqx h0 h1 hr hown
def m_slices_SortFunc_api_Curve_api_Bucket (z2u : List z1) (zbC : z1 → z1 → Option Int) : Option (List z1) :=
 (m_bits_Len (u64 ((z2u.length : Nat) : Int))).bind fun zeJ=>(m_slices_pdqsortCmpFunc_api_Bucket z2u 0 ((z2u.length : Nat) : Int) zeJ zbC).bind fun zeK=>some zeK
set_option maxRecDepth 20000 in
theorem w_slices_SortFunc_api_Curve_api_Bucket (Z : Zp)  (z4v : Option Addr) (z4w : Nat) (z9I : FuncId) (zbD : List Value) (z2u : List z1) (zbC : z1 → z1 → Option Int) (r : List z1) (w₀ : World) (hz : PZ (fps [row (.slice z4v z2u.length z4w) 42 4 (z2u.flatMap e42)]) w₀ Z)
  (zqy : ∀ args w,(callFunc z9I args).run Try.prog w = .ok (.enter z9I args) w)
  (zqz : ∀ w : World,PZ [] w Z → ∀ (x0 : z1) (x1 : z1) (r : Int),zbC x0 x1 = some r → Calls Try.prog z9I (([(.agg #[(.int .i64 x0.fBurst.fN),(.int .i64 x0.fBurst.fD),(.int .i64 x0.fRate.fN),(.int .i64 x0.fRate.fD)]),(.agg #[(.int .i64 x1.fBurst.fN),(.int .i64 x1.fBurst.fD),(.int .i64 x1.fRate.fN),(.int .i64 x1.fRate.fD)])] : List Value) ++ zbD).toArray w fun e w'=>e = .returned (.int .i64 r) ∧ Hp [] w w' [])
  (h : m_slices_SortFunc_api_Curve_api_Bucket z2u zbC = some r)
  (hown : Hp (fps [row (.slice z4v z2u.length z4w) 42 4 (z2u.flatMap e42)]) w₀ w₀ [row (.slice z4v z2u.length z4w) 42 4 (z2u.flatMap e42)]) :
  Calls Try.prog 71 #[(.slice z4v z2u.length z4w),(.func (.func z9I) #[] (zbD).toArray)] w₀ fun e w'=>e = .returned (.tuple #[]) ∧ (r.length = z2u.length) ∧ Hp (fps [row (.slice z4v z2u.length z4w) 42 4 (z2u.flatMap e42)]) w₀ w' [row (.slice z4v r.length z4w) 42 4 (r.flatMap e42)]:=by
 unfold m_slices_SortFunc_api_Curve_api_Bucket at h
 refine Calls.ofWC (vs:=[(.slice z4v z2u.length z4w),(.func (.func z9I) #[] (zbD).toArray)]) (pre:=[row (.slice z4v z2u.length z4w) 42 4 (z2u.flatMap e42)]) (env:=[(0,(.slice z4v z2u.length z4w)),(1,(.func (.func z9I) #[] (zbD).toArray))]) Try.func71 rfl Try.ntmps71 rfl (hown) rfl ?_
 refine WC.seq ?_
 refine WC.region ?_
 refine WL.quiet (d:=5) rfl rfl rfl (q_move rfl) ?_
 refine WL.quiet (d:=6) rfl rfl rfl (q_len Try.underlying25 rfl) ?_
 refine WL.quiet (d:=4) rfl rfl rfl (q_assign rfl) ?_
 refine WL.nil ?_
 refine WX.then ?_
 obtain ⟨zeJ,zqA,h⟩:=zb h
 obtain ⟨zeK,zqB,h⟩:=zb h
 refine WC.region ?_
 refine WL.quiet (d:=7) rfl rfl rfl (q_move rfl) ?_
 refine WL.quiet (d:=8) rfl rfl rfl (q_move rfl) ?_
 refine WL.quiet (d:=9) rfl rfl rfl (q_move rfl) ?_
 refine WL.quiet (d:=10) rfl rfl rfl (q_conv Try.underlying3 Try.underlying102 rfl rfl) ?_
 refine WL.callD (dd:=11) rfl rfl rfl (zg (l:=[.tmp 10]) Try.call75 (.cons rfl .nil)) (.nil : Sel [row (.slice z4v z2u.length z4w) 42 4 (z2u.flatMap e42)] [] [row (.slice z4v z2u.length z4w) 42 4 (z2u.flatMap e42)]) (fun w hw=>by have pz:=(hz.call hw (.nil : Sel [row (.slice z4v z2u.length z4w) 42 4 (z2u.flatMap e42)] [] [row (.slice z4v z2u.length z4w) 42 4 (z2u.flatMap e42)])); exact w_bits_Len (Z:=_)  (z8z:=(u64 ((z2u.length : Nat) : Int))) (r:=zeJ) w pz  zqA) ?_
 refine WL.quiet (d:=12) rfl rfl rfl (q_move rfl) ?_
 refine WL.enter0 (dd:=13) rfl rfl rfl (zg (l:=[.tmp 7,.const (.int .i64 0),.tmp 8,.tmp 11,.tmp 12]) Try.call81 (.cons rfl (.cons rfl (.cons rfl (.cons rfl (.cons rfl .nil)))))) ((.cons .here .nil) : Sel [row (.slice z4v z2u.length z4w) 42 4 (z2u.flatMap e42)] [row (.slice z4v z2u.length z4w) 42 4 (z2u.flatMap e42)] []) (fun w hw=>by have pz:=(hz.call hw ((.cons .here .nil) : Sel [row (.slice z4v z2u.length z4w) 42 4 (z2u.flatMap e42)] [row (.slice z4v z2u.length z4w) 42 4 (z2u.flatMap e42)] [])); exact w_slices_pdqsortCmpFunc_api_Bucket (Z:=_) (zaz:=z4v) (zaA:=z4w) (zdm:=z9I) (zhd:=zbD) (z5D:=z2u) (zdk:=0) (zdl:=((z2u.length : Nat) : Int)) (zbB:=zeJ) (zay:=zbC) (r:=zeK) w pz zqy zqz zqB (hw.owns ((.cons .here .nil) : Sel [row (.slice z4v z2u.length z4w) 42 4 (z2u.flatMap e42)] [row (.slice z4v z2u.length z4w) 42 4 (z2u.flatMap e42)] []))) ?_
 rintro  zlT
 refine WL.repin (i:=0) rfl (u:=(.slice z4v zeK.length z4w)) (slen zlT.symm) ?_
 refine WL.nil ?_
 obtain rfl:=Option.some.inj h
 refine WX.bpNormal Try.results71 .nil (fun w hw=>?_)
 exact ⟨ret0,(zlT.trans rfl),hw.sub (.cons .here .nil)⟩
def m_curve_norm_L2 (zh : List z1) (z8A : (List z1) → Option (List z1)) : Nat → (List z1) → Int → Option (List z1)
 | 0,_,_=>none
 | zhe + 1,z1A,zn=>if decide (zn < ((zh.length : Nat) : Int)) then jp1 (fun (z7z : List z1)=>m_curve_norm_L2 zh z8A zhe z7z (i64 (zn + 1))) fun zeL=>chk ((0 : Int) ≤ zn ∧ zn < ((zh.length : Nat) : Int)) ((m_slices_Contains_api_Curve_api_Bucket z1A (⟨(⟨(((nth zh zn).fBurst).fN),(((nth zh zn).fBurst).fD)⟩ : z2),(⟨(((nth zh zn).fRate).fN),(((nth zh zn).fRate).fD)⟩ : z2)⟩ : z1)).bind fun zeM=>(if !zeM then (m_slices_ContainsFunc_api_Curve_api_Bucket zh (fun (y0 : z1)=>m_curve_norm_1 y0 (⟨(⟨(((nth zh zn).fBurst).fN),(((nth zh zn).fBurst).fD)⟩ : z2),(⟨(((nth zh zn).fRate).fN),(((nth zh zn).fRate).fD)⟩ : z2)⟩ : z1))).bind fun zhf=>some (!zhf) else some false).bind fun zhg=>if zhg then chk ((((z1A ++ ([(⟨(⟨(((nth zh zn).fBurst).fN),(((nth zh zn).fBurst).fD)⟩ : z2),(⟨(((nth zh zn).fRate).fN),(((nth zh zn).fRate).fD)⟩ : z2)⟩ : z1)] : List z1)).length : Nat) : Int) * 32 ≤ 140737488355328 ∧ (((z1A ++ ([(⟨(⟨(((nth zh zn).fBurst).fN),(((nth zh zn).fBurst).fD)⟩ : z2),(⟨(((nth zh zn).fRate).fN),(((nth zh zn).fRate).fD)⟩ : z2)⟩ : z1)] : List z1)).length : Nat) : Int) ≤ 4611686018427387904) (zeL (z1A ++ ([(⟨(⟨(((nth zh zn).fBurst).fN),(((nth zh zn).fBurst).fD)⟩ : z2),(⟨(((nth zh zn).fRate).fN),(((nth zh zn).fRate).fD)⟩ : z2)⟩ : z1)] : List z1))) else zeL z1A) else z8A z1A
theorem m_curve_norm_L2_fuel {n : Nat} {zh : List z1} {z8A : (List z1) → Option (List z1)} {z1A : List z1} {zn : Int} {r : List z1} (h : m_curve_norm_L2 zh z8A n z1A zn = some r) : ∃ m,n = m + 1:=by
 cases n with
 | zero=>cases h
 | succ m=>exact ⟨m,rfl⟩
def m_curve_norm (zh : List z1) : Option (List z1) :=
 jp1 (fun (z4k : List z1)=>(m_slices_SortFunc_api_Curve_api_Bucket z4k (fun (y0 : z1) (y1 : z1)=>m_curve_norm_2 y0 y1)).bind fun zeN=>some zeN) fun z8A=>m_curve_norm_L2 zh z8A FUEL ([] : List z1) 0
set_option maxRecDepth 20000 in
theorem w_curve_norm (Z : Zp)  (z5p : Option Addr) (z5q : Nat) (zh : List z1) (r : List z1) (w₀ : World) (hz : PZ [] w₀ Z)
  (zlU : ZS Z 4 (fun r x=>r = e42 x) z5p z5q zh)
  (h : m_curve_norm zh = some r) :
  Calls Try.prog 45 #[(.slice z5p zh.length z5q)] w₀ fun e w'=>∃ zlV : Option Addr,∃ zlW : Nat,e = .returned (.slice zlV r.length zlW) ∧ True ∧ Hp [] w₀ w' [row (.slice zlV r.length zlW) 42 4 (r.flatMap e42)]:=by
 unfold m_curve_norm at h
 refine Calls.ofWC (vs:=[(.slice z5p zh.length z5q)]) (pre:=[]) (env:=[(0,(.slice z5p zh.length z5q))]) Try.func45 rfl Try.ntmps45 rfl (Hp.nil w₀ _) rfl ?_
 refine WC.seq ?_
 refine WC.region ?_
 refine WL.quiet (d:=2) rfl rfl rfl (q_assign rfl) ?_
 refine WL.nil ?_
 refine WX.then ?_
 refine WC.seq ?_
 refine WC.region ?_
 refine WL.quiet (d:=3) rfl rfl rfl (q_assign rfl) ?_
 refine WL.nil ?_
 refine WX.then ?_
 obtain ⟨z8A,zqC,h⟩:=jp1_elim h
 refine WC.seqMid3 (fun (z4k : List z1) (z6s : Option Addr) (z6t : Nat)=>(z8A z4k = some r)) (fun (z4k : List z1) (z6s : Option Addr) (z6t : Nat)=>[(3,(.slice z6s z4k.length z6t))]) (fun (z4k : List z1) (z6s : Option Addr) (z6t : Nat)=>[row (.slice z6s z4k.length z6t) 42 4 (z4k.flatMap e42)]) ?_ ?_
 ·skip
  refine WC.seq ?_
  refine WC.region ?_
  refine WL.quiet (d:=6) rfl rfl rfl (q_move rfl) ?_
  refine WL.quiet (d:=7) rfl rfl rfl (q_len Try.underlying25 rfl) ?_
  refine WL.quiet (d:=8) rfl rfl rfl (q_move rfl) ?_
  refine WL.nil ?_
  refine WX.then ?_
  refine WC.block ?_
  refine WC.nilRow 42 4 ?_
  refine WC.loop5 (fun (zbE : Nat) (z1A : List z1) (zn : Int) (z3a : Option Addr) (z3b : Nat)=>(m_curve_norm_L2 zh z8A zbE z1A zn = some r)) (fun (zbE : Nat) (z1A : List z1) (zn : Int) (z3a : Option Addr) (z3b : Nat)=>[(0,(.slice z5p zh.length z5q)),(3,(.slice z3a z1A.length z3b)),(6,(.slice z5p zh.length z5q)),(7,(.int .i64 ((zh.length : Nat) : Int))),(8,(.int .i64 zn))]) (fun (zbE : Nat) (z1A : List z1) (zn : Int) (z3a : Option Addr) (z3b : Nat)=>[row (.slice z3a z1A.length z3b) 42 4 (z1A.flatMap e42)]) (fun (zbE : Nat) (z1A : List z1) (zn : Int) (z3a : Option Addr) (z3b : Nat)=>zbE) ⟨FUEL,([] : List z1),0,none,0⟩ h (.cons rfl (.cons rfl (.cons rfl (.cons rfl (.cons rfl .nil))))) (.cons .here .nil) ?_
  rintro zbE z1A zn z3a z3b h
  obtain ⟨zhe,rfl⟩:=m_curve_norm_L2_fuel h
  rw [m_curve_norm_L2] at h
  refine WC.seq ?_
  refine WC.region ?_
  refine WL.quiet (d:=9) rfl rfl rfl (q_lss rfl rfl) ?_
  refine WL.nil ?_
  refine WX.then ?_
  refine WC.seq ?_
  refine WC.cond rfl (fun zhh=>?_) (fun zhh=>?_)
  ·replace h:=ite_t h zhh
   refine WC.skip ?_
   refine WX.then ?_
   obtain ⟨zeL,zqD,h⟩:=jp1_elim h
   refine WC.seqMid3 (fun (z7z : List z1) (zbF : Option Addr) (zbG : Nat)=>(zeL z7z = some r)) (fun (z7z : List z1) (zbF : Option Addr) (zbG : Nat)=>[(0,(.slice z5p zh.length z5q)),(3,(.slice zbF z7z.length zbG)),(6,(.slice z5p zh.length z5q)),(7,(.int .i64 ((zh.length : Nat) : Int))),(8,(.int .i64 zn))]) (fun (z7z : List z1) (zbF : Option Addr) (zbG : Nat)=>[row (.slice zbF z7z.length zbG) 42 4 (z7z.flatMap e42)]) ?_ ?_
   ·skip
    refine WC.block ?_
    refine WC.seq ?_
    obtain ⟨zqE,h⟩:=chk_elim h
    refine WC.region ?_
    refine WL.znth (dd:=10) rfl rfl (Z:=Z) (Pr:=(fun r x=>r = e42 x)) elT_25 rfl rfl zlU zqE ?_
    rintro zxr zxs zqF zxt rfl
    refine WL.quiet (d:=11) rfl rfl rfl (q_loadA (cs:=[(.int .i64 (((nth zh zn).fBurst).fN)),(.int .i64 (((nth zh zn).fBurst).fD)),(.int .i64 (((nth zh zn).fRate).fN)),(.int .i64 (((nth zh zn).fRate).fD))]) aggT_42 rfl rfl (rd_zs hz.pv zqF)) ?_
    refine WL.new (dd:=5) rfl rfl rfl (e_alloc (cs:=[(.int .i64 0),(.int .i64 0),(.int .i64 0),(.int .i64 0)]) zeroT_42 rfl) ?_
    intro z4b _
    refine WL.eff0 rfl rfl (e_store (vs:=[(.int .i64 (((nth zh zn).fBurst).fN)),(.int .i64 (((nth zh zn).fBurst).fD)),(.int .i64 (((nth zh zn).fRate).fN)),(.int .i64 (((nth zh zn).fRate).fD))]) (ds:=[(.int .i64 (((nth zh zn).fBurst).fN)),(.int .i64 (((nth zh zn).fBurst).fD)),(.int .i64 (((nth zh zn).fRate).fN)),(.int .i64 (((nth zh zn).fRate).fD))]) sizT_42 rfl rfl rfl rfl (oc_cons rfl (oc_cons rfl (oc_cons rfl (oc_cons rfl oc_nil)))) .here (Nat.le_of_ble_eq_true rfl) rfl) ?_
    refine WL.nil ?_
    refine WX.then ?_
    refine WC.seq ?_
    obtain ⟨zeM,zqG,h⟩:=zb h
    obtain ⟨zhg,zlX,h⟩:=zb h
    refine WC.region ?_
    refine WL.quiet (d:=12) rfl rfl rfl (q_move rfl) ?_
    refine WL.quiet (d:=13) rfl rfl rfl (q_loadA (cs:=[(.int .i64 (((nth zh zn).fBurst).fN)),(.int .i64 (((nth zh zn).fBurst).fD)),(.int .i64 (((nth zh zn).fRate).fN)),(.int .i64 (((nth zh zn).fRate).fD))]) aggT_42 rfl rfl (rd_all .here)) ?_
    refine WL.callD (dd:=14) rfl rfl rfl (zg (l:=[.tmp 12,.tmp 13]) Try.call68 (.cons rfl (.cons rfl .nil))) (.nil : Sel [stb z4b 42 [(.int .i64 (((nth zh zn).fBurst).fN)),(.int .i64 (((nth zh zn).fBurst).fD)),(.int .i64 (((nth zh zn).fRate).fN)),(.int .i64 (((nth zh zn).fRate).fD))],row (.slice z3a z1A.length z3b) 42 4 (z1A.flatMap e42)] [] [stb z4b 42 [(.int .i64 (((nth zh zn).fBurst).fN)),(.int .i64 (((nth zh zn).fBurst).fD)),(.int .i64 (((nth zh zn).fRate).fN)),(.int .i64 (((nth zh zn).fRate).fD))],row (.slice z3a z1A.length z3b) 42 4 (z1A.flatMap e42)]) (fun w hw=>by have pz:=(hz.call hw (.nil : Sel [stb z4b 42 [(.int .i64 (((nth zh zn).fBurst).fN)),(.int .i64 (((nth zh zn).fBurst).fD)),(.int .i64 (((nth zh zn).fRate).fN)),(.int .i64 (((nth zh zn).fRate).fD))],row (.slice z3a z1A.length z3b) 42 4 (z1A.flatMap e42)] [] [stb z4b 42 [(.int .i64 (((nth zh zn).fBurst).fN)),(.int .i64 (((nth zh zn).fBurst).fD)),(.int .i64 (((nth zh zn).fRate).fN)),(.int .i64 (((nth zh zn).fRate).fD))],row (.slice z3a z1A.length z3b) 42 4 (z1A.flatMap e42)])).lend hw (.nil : Sel [stb z4b 42 [(.int .i64 (((nth zh zn).fBurst).fN)),(.int .i64 (((nth zh zn).fBurst).fD)),(.int .i64 (((nth zh zn).fRate).fN)),(.int .i64 (((nth zh zn).fRate).fD))],row (.slice z3a z1A.length z3b) 42 4 (z1A.flatMap e42)] [] [stb z4b 42 [(.int .i64 (((nth zh zn).fBurst).fN)),(.int .i64 (((nth zh zn).fBurst).fD)),(.int .i64 (((nth zh zn).fRate).fN)),(.int .i64 (((nth zh zn).fRate).fD))],row (.slice z3a z1A.length z3b) 42 4 (z1A.flatMap e42)]) (B:=[row (.slice z3a z1A.length z3b) 42 4 (z1A.flatMap e42)]) (fun _ hx'=>((.cons (.there .here) .nil) : Sel _ [row (.slice z3a z1A.length z3b) 42 4 (z1A.flatMap e42)] _).mem hx'); exact w_slices_Contains_api_Curve_api_Bucket (Z:=_) (zbz:=z3a) (zbA:=z3b) (z8y:=z1A) (z2z:=(⟨(⟨(((nth zh zn).fBurst).fN),(((nth zh zn).fBurst).fD)⟩ : z2),(⟨(((nth zh zn).fRate).fN),(((nth zh zn).fRate).fD)⟩ : z2)⟩ : z1)) (r:=zeM) w pz (ZA.row (hw.lent (.nil : Sel [stb z4b 42 [(.int .i64 (((nth zh zn).fBurst).fN)),(.int .i64 (((nth zh zn).fBurst).fD)),(.int .i64 (((nth zh zn).fRate).fN)),(.int .i64 (((nth zh zn).fRate).fD))],row (.slice z3a z1A.length z3b) 42 4 (z1A.flatMap e42)] [] [stb z4b 42 [(.int .i64 (((nth zh zn).fBurst).fN)),(.int .i64 (((nth zh zn).fBurst).fD)),(.int .i64 (((nth zh zn).fRate).fN)),(.int .i64 (((nth zh zn).fRate).fD))],row (.slice z3a z1A.length z3b) 42 4 (z1A.flatMap e42)]) (B:=[row (.slice z3a z1A.length z3b) 42 4 (z1A.flatMap e42)]) (fun _ hx'=>((.cons (.there .here) .nil) : Sel _ [row (.slice z3a z1A.length z3b) 42 4 (z1A.flatMap e42)] _).mem hx') (.head _) _) (RR.flat (enc:=e42) (fun _=>rfl) _) ⟨w,pz.1⟩) zqG) ?_
    refine WL.quiet (d:=15) rfl rfl rfl (q_not rfl) ?_
    refine WL.quiet (d:=16) rfl rfl rfl (q_move rfl) ?_
    refine WL.cut0 True [(0,(.slice z5p zh.length z5q)),(3,(.slice z3a z1A.length z3b)),(6,(.slice z5p zh.length z5q)),(7,(.int .i64 ((zh.length : Nat) : Int))),(8,(.int .i64 zn)),(5,(.pointer (some ⟨z4b,0,none⟩))),(21,(.bool zhg))] [stb z4b 42 [(.int .i64 (((nth zh zn).fBurst).fN)),(.int .i64 (((nth zh zn).fBurst).fD)),(.int .i64 (((nth zh zn).fRate).fN)),(.int .i64 (((nth zh zn).fRate).fD))],row (.slice z3a z1A.length z3b) 42 4 (z1A.flatMap e42)] 5 ?_ (fun _=>?_)
    ·rcases Bool.eq_false_or_eq_true (!zeM) with hb' | hb'
     ·have zlY:=hb'; clear hb'
      have zdn:=ite_t zlX zlY
      obtain ⟨zhf,zqH,zdn⟩:=zb zdn
      replace zdn:=Option.some.inj zdn
      refine WL.pin (i:=16) rfl zlY ?_
      refine WL.quiet (d:=17) rfl rfl rfl (q_move rfl) ?_
      refine WL.quiet (d:=18) rfl rfl rfl (q_makeFunc (Eos.caps (l:=[.tmp 5]) (.cons rfl .nil))) ?_
      refine WL.callD (dd:=19) rfl rfl rfl (zg (l:=[.tmp 17,.tmp 18]) Try.call56 (.cons rfl (.cons rfl .nil))) (.nil : Sel [stb z4b 42 [(.int .i64 (((nth zh zn).fBurst).fN)),(.int .i64 (((nth zh zn).fBurst).fD)),(.int .i64 (((nth zh zn).fRate).fN)),(.int .i64 (((nth zh zn).fRate).fD))],row (.slice z3a z1A.length z3b) 42 4 (z1A.flatMap e42)] [] [stb z4b 42 [(.int .i64 (((nth zh zn).fBurst).fN)),(.int .i64 (((nth zh zn).fBurst).fD)),(.int .i64 (((nth zh zn).fRate).fN)),(.int .i64 (((nth zh zn).fRate).fD))],row (.slice z3a z1A.length z3b) 42 4 (z1A.flatMap e42)]) (fun w hw=>by have pz:=(hz.call hw (.nil : Sel [stb z4b 42 [(.int .i64 (((nth zh zn).fBurst).fN)),(.int .i64 (((nth zh zn).fBurst).fD)),(.int .i64 (((nth zh zn).fRate).fN)),(.int .i64 (((nth zh zn).fRate).fD))],row (.slice z3a z1A.length z3b) 42 4 (z1A.flatMap e42)] [] [stb z4b 42 [(.int .i64 (((nth zh zn).fBurst).fN)),(.int .i64 (((nth zh zn).fBurst).fD)),(.int .i64 (((nth zh zn).fRate).fN)),(.int .i64 (((nth zh zn).fRate).fD))],row (.slice z3a z1A.length z3b) 42 4 (z1A.flatMap e42)])).lend hw (.nil : Sel [stb z4b 42 [(.int .i64 (((nth zh zn).fBurst).fN)),(.int .i64 (((nth zh zn).fBurst).fD)),(.int .i64 (((nth zh zn).fRate).fN)),(.int .i64 (((nth zh zn).fRate).fD))],row (.slice z3a z1A.length z3b) 42 4 (z1A.flatMap e42)] [] [stb z4b 42 [(.int .i64 (((nth zh zn).fBurst).fN)),(.int .i64 (((nth zh zn).fBurst).fD)),(.int .i64 (((nth zh zn).fRate).fN)),(.int .i64 (((nth zh zn).fRate).fD))],row (.slice z3a z1A.length z3b) 42 4 (z1A.flatMap e42)]) (B:=[stb z4b 42 [(.int .i64 (((nth zh zn).fBurst).fN)),(.int .i64 (((nth zh zn).fBurst).fD)),(.int .i64 (((nth zh zn).fRate).fN)),(.int .i64 (((nth zh zn).fRate).fD))]]) (fun _ hx'=>((.cons .here .nil) : Sel _ [stb z4b 42 [(.int .i64 (((nth zh zn).fBurst).fN)),(.int .i64 (((nth zh zn).fBurst).fD)),(.int .i64 (((nth zh zn).fRate).fN)),(.int .i64 (((nth zh zn).fRate).fD))]] _).mem hx'); exact w_slices_ContainsFunc_api_Curve_api_Bucket (Z:=_) (zao:=z5p) (zap:=z5q) (z8m:=69) (zaq:=[(.pointer (some ⟨z4b,0,none⟩))]) (z7Q:=zh) (zan:=(fun (y0 : z1)=>m_curve_norm_1 y0 (⟨(⟨(((nth zh zn).fBurst).fN),(((nth zh zn).fBurst).fD)⟩ : z2),(⟨(((nth zh zn).fRate).fN),(((nth zh zn).fRate).fD)⟩ : z2)⟩ : z1))) (r:=zhf) w pz (zlU.mono (Zle.left _ _)) Try.call69 (fun w' hz' y0  r  hr=>w_curve_norm_1 (Z:=_) (zdj:=⟨z4b,0,none⟩) (z2A:=y0) (z6G:=(⟨(⟨(((nth zh zn).fBurst).fN),(((nth zh zn).fBurst).fD)⟩ : z2),(⟨(((nth zh zn).fRate).fN),(((nth zh zn).fRate).fD)⟩ : z2)⟩ : z1)) (r:=r) w' hz' ((hw.lent (.nil : Sel [stb z4b 42 [(.int .i64 (((nth zh zn).fBurst).fN)),(.int .i64 (((nth zh zn).fBurst).fD)),(.int .i64 (((nth zh zn).fRate).fN)),(.int .i64 (((nth zh zn).fRate).fD))],row (.slice z3a z1A.length z3b) 42 4 (z1A.flatMap e42)] [] [stb z4b 42 [(.int .i64 (((nth zh zn).fBurst).fN)),(.int .i64 (((nth zh zn).fBurst).fD)),(.int .i64 (((nth zh zn).fRate).fN)),(.int .i64 (((nth zh zn).fRate).fD))],row (.slice z3a z1A.length z3b) 42 4 (z1A.flatMap e42)]) (B:=[stb z4b 42 [(.int .i64 (((nth zh zn).fBurst).fN)),(.int .i64 (((nth zh zn).fBurst).fD)),(.int .i64 (((nth zh zn).fRate).fN)),(.int .i64 (((nth zh zn).fRate).fD))]]) (fun _ hx'=>((.cons .here .nil) : Sel _ [stb z4b 42 [(.int .i64 (((nth zh zn).fBurst).fN)),(.int .i64 (((nth zh zn).fBurst).fD)),(.int .i64 (((nth zh zn).fRate).fN)),(.int .i64 (((nth zh zn).fRate).fD))]] _).mem hx') (.head _) _).stb) hr) zqH) ?_
      refine WL.quiet (d:=20) rfl rfl rfl (q_not rfl) ?_
      refine WL.quiet (d:=21) rfl rfl rfl (q_pickT rfl rfl) ?_
      exact WL.cutEnd () trivial (.cons rfl (.cons rfl (.cons rfl (.cons rfl (.cons rfl (.cons rfl (.cons (zl zdn) .nil))))))) (.cons .here (.cons .here .nil))
     ·have zlZ:=hb'; clear hb'
      have zhi:=ite_f zlX zlZ
      replace zhi:=Option.some.inj zhi
      refine WL.pin (i:=16) rfl zlZ ?_
      refine WL.skip rfl rfl rfl ?_
      refine WL.skip rfl rfl rfl ?_
      refine WL.skip rfl rfl rfl ?_
      refine WL.skip rfl rfl rfl ?_
      refine WL.quiet (d:=21) rfl rfl rfl (q_pickF rfl rfl) ?_
      exact WL.cutEnd () trivial (.cons rfl (.cons rfl (.cons rfl (.cons rfl (.cons rfl (.cons rfl (.cons (zl zhi) .nil))))))) (.cons .here (.cons .here .nil))
    ·skip
     refine WL.nil ?_
     refine WX.then ?_
     refine WC.cond rfl (fun zhj=>?_) (fun zhj=>?_)
     ·replace h:=ite_t h zhj
      obtain ⟨zqI,h⟩:=chk_elim h
      refine WC.region ?_
      refine WL.quiet (d:=22) rfl rfl rfl (q_move rfl) ?_
      refine WL.quiet (d:=23) rfl rfl rfl (q_loadA (cs:=[(.int .i64 (((nth zh zn).fBurst).fN)),(.int .i64 (((nth zh zn).fBurst).fD)),(.int .i64 (((nth zh zn).fRate).fN)),(.int .i64 (((nth zh zn).fRate).fD))]) aggT_42 rfl rfl (rd_all .here)) ?_
      refine WL.new (dd:=24) rfl rfl rfl (e_buildSlice (cs:=([(⟨(⟨(((nth zh zn).fBurst).fN),(((nth zh zn).fBurst).fD)⟩ : z2),(⟨(((nth zh zn).fRate).fN),(((nth zh zn).fRate).fD)⟩ : z2)⟩ : z1)] : List z1).flatMap e42) elT_25 (Eos.parts (l:=[.tmp 23]) (.cons rfl .nil) [0]) (fun _=>by kernel_rfl) rfl (by unfold maxLen; omega)) ?_
      intro zxu _
      refine WL.eff (d:=25) rfl rfl rfl (e_appendF (enc:=e42) (l1:=z1A) (l2:=([(⟨(⟨(((nth zh zn).fBurst).fN),(((nth zh zn).fBurst).fD)⟩ : z2),(⟨(((nth zh zn).fRate).fN),(((nth zh zn).fRate).fD)⟩ : z2)⟩ : z1)] : List z1)) elT_25 rfl rfl (.there (.there .here)) (fun _=>rfl) rfl rfl (news_row .here) (oc_flat e42_oc _) zqI) ?_
      rintro ⟨zqJ,zqK⟩ _
      refine WL.quiet (d:=3) rfl rfl rfl (q_assign rfl) ?_
      refine WL.nil ?_
      refine WX.blockNormal ?_
      exact WX.mid (G:=List z1 × Option Addr × Nat) ⟨(z1A ++ ([(⟨(⟨(((nth zh zn).fBurst).fN),(((nth zh zn).fBurst).fD)⟩ : z2),(⟨(((nth zh zn).fRate).fN),(((nth zh zn).fRate).fD)⟩ : z2)⟩ : z1)] : List z1)),zqJ,zqK⟩ h (.cons rfl (.cons rfl (.cons rfl (.cons rfl (.cons rfl .nil))))) (.cons .here .nil)
     ·replace h:=ite_f h zhj
      refine WC.skip ?_
      refine WX.blockNormal ?_
      exact WX.mid (G:=List z1 × Option Addr × Nat) ⟨z1A,z3a,z3b⟩ h (.cons rfl (.cons rfl (.cons rfl (.cons rfl (.cons rfl .nil))))) (.cons (.there .here) .nil)
   ·rintro z7z zbF zbG h
    replace h:=(zqD z7z).symm.trans h
    refine WC.region ?_
    refine WL.quiet (d:=26) rfl rfl rfl (q_add rfl rfl rfl) ?_
    refine WL.quiet (d:=8) rfl rfl rfl (q_move rfl) ?_
    refine WL.nil ?_
    exact WX.round (G:=Nat × List z1 × Int × Option Addr × Nat) ⟨zhe,z7z,(i64 (zn + 1)),zbF,zbG⟩ h (Nat.lt_succ_self _) (.cons rfl (.cons rfl (.cons rfl (.cons rfl (.cons rfl .nil))))) (.cons .here .nil)
  ·replace h:=ite_f h zhh
   refine WC.exit ?_
   refine WX.thenExit ?_
   refine WX.thenExit ?_
   refine WX.blockHit ?_
   exact WX.mid (G:=List z1 × Option Addr × Nat) ⟨z1A,z3a,z3b⟩ h (.cons rfl .nil) (.cons .here .nil)
 ·rintro z4k z6s z6t h
  replace h:=(zqC z4k).symm.trans h
  refine WC.seq ?_
  obtain ⟨zeN,zqL,h⟩:=zb h
  refine WC.region ?_
  refine WL.quiet (d:=27) rfl rfl rfl (q_move rfl) ?_
  refine WL.enter0 (dd:=28) rfl rfl rfl (zg (l:=[.tmp 27,.func 72]) Try.call71 (.cons rfl (.cons rfl .nil))) ((.cons .here .nil) : Sel [row (.slice z6s z4k.length z6t) 42 4 (z4k.flatMap e42)] [row (.slice z6s z4k.length z6t) 42 4 (z4k.flatMap e42)] []) (fun w hw=>by have pz:=(hz.call hw ((.cons .here .nil) : Sel [row (.slice z6s z4k.length z6t) 42 4 (z4k.flatMap e42)] [row (.slice z6s z4k.length z6t) 42 4 (z4k.flatMap e42)] [])); exact w_slices_SortFunc_api_Curve_api_Bucket (Z:=_) (z4v:=z6s) (z4w:=z6t) (z9I:=72) (zbD:=[]) (z2u:=z4k) (zbC:=(fun (y0 : z1) (y1 : z1)=>m_curve_norm_2 y0 y1)) (r:=zeN) w pz Try.call72 (fun w' hz' y0 y1  r  hr=>w_curve_norm_2 (Z:=_)  (z2I:=y0) (z2J:=y1) (r:=r) w' hz'  hr) zqL (hw.owns ((.cons .here .nil) : Sel [row (.slice z6s z4k.length z6t) 42 4 (z4k.flatMap e42)] [row (.slice z6s z4k.length z6t) 42 4 (z4k.flatMap e42)] []))) ?_
  rintro  zqM
  refine WL.repin (i:=3) rfl (u:=(.slice z6s zeN.length z6t)) (slen zqM.symm) ?_
  refine WL.nil ?_
  refine WX.then ?_
  refine WC.seq ?_
  refine WC.region ?_
  refine WL.quiet (d:=29) rfl rfl rfl (q_move rfl) ?_
  refine WL.quiet (d:=2) rfl rfl rfl (q_assign rfl) ?_
  refine WL.nil ?_
  refine WX.then ?_
  refine WC.ret ?_
  obtain rfl:=Option.some.inj h
  refine WX.bpRet Try.results45 (.tmp rfl .nil) (fun w hw=>?_)
  exact ⟨z6s,z6t,ret1 rfl,trivial,hw.sub (.cons .here .nil)⟩
def m_curve_Norm (z71 : List z1) : Option (List z1 × Int) :=
 (m_curve_Valid z71).bind fun zhk=>if !zhk then some (([] : List z1),2) else (m_curve_norm z71).bind fun zhl=>some (zhl,0)
set_option maxRecDepth 20000 in
theorem w_curve_Norm (Z : Zp)  (z9J : Option Addr) (z9K : Nat) (z71 : List z1) (r : List z1 × Int) (w₀ : World) (hz : PZ [] w₀ Z)
  (zm0 : ZS Z 4 (fun r x=>r = e42 x) z9J z9K z71)
  (h : m_curve_Norm z71 = some r) :
  Calls Try.prog 19 #[(.slice z9J z71.length z9K)] w₀ fun e w'=>∃ zm1 : Option Addr,∃ zm2 : Nat,e = .returned (.tuple #[(.slice zm1 r.1.length zm2),(.int .i64 r.2)]) ∧ True ∧ Hp [] w₀ w' [row (.slice zm1 r.1.length zm2) 42 4 (r.1.flatMap e42)]:=by
 unfold m_curve_Norm at h
 refine Calls.ofWC (vs:=[(.slice z9J z71.length z9K)]) (pre:=[]) (env:=[(0,(.slice z9J z71.length z9K))]) Try.func19 rfl Try.ntmps19 rfl (Hp.nil w₀ _) rfl ?_
 refine WC.seq ?_
 refine WC.region ?_
 refine WL.quiet (d:=2) rfl rfl rfl (q_assign rfl) ?_
 refine WL.quiet (d:=3) rfl rfl rfl (q_assign rfl) ?_
 refine WL.nil ?_
 refine WX.then ?_
 refine WC.seq ?_
 refine WC.seq ?_
 obtain ⟨zhk,zqN,h⟩:=zb h
 refine WC.region ?_
 refine WL.quiet (d:=4) rfl rfl rfl (q_move rfl) ?_
 refine WL.callD (dd:=5) rfl rfl rfl (zg (l:=[.tmp 4]) Try.call26 (.cons rfl .nil)) (.nil : Sel [] [] []) (fun w hw=>by have pz:=(hz.call hw (.nil : Sel [] [] [])); exact w_curve_Valid (Z:=_) (z5S:=z9J) (z5T:=z9K) (z3S:=z71) (r:=zhk) w pz zm0 zqN) ?_
 refine WL.quiet (d:=6) rfl rfl rfl (q_not rfl) ?_
 refine WL.nil ?_
 refine WX.then ?_
 refine WC.cond rfl (fun zhm=>?_) (fun zhm=>?_)
 ·replace h:=ite_t h zhm
  refine WC.seq ?_
  refine WC.region ?_
  refine WL.quiet (d:=2) rfl rfl rfl (q_assign rfl) ?_
  refine WL.quiet (d:=3) rfl rfl rfl (q_assign rfl) ?_
  refine WL.nil ?_
  refine WX.then ?_
  refine WC.ret ?_
  refine WX.thenRet ?_
  refine WX.nilRow 42 4 ?_
  obtain rfl:=Option.some.inj h
  refine WX.bpRet Try.results19 (.tmp rfl (.tmp rfl .nil)) (fun w hw=>?_)
  exact ⟨none,0,ret2 rfl rfl,trivial,hw.sub (.cons .here .nil)⟩
 ·replace h:=ite_f h zhm
  refine WC.skip ?_
  refine WX.then ?_
  refine WC.seq ?_
  obtain ⟨zhl,zqO,h⟩:=zb h
  refine WC.region ?_
  refine WL.quiet (d:=7) rfl rfl rfl (q_move rfl) ?_
  refine WL.enter2 (dd:=8) rfl rfl rfl (zg (l:=[.tmp 7]) Try.call45 (.cons rfl .nil)) (.nil : Sel [] [] []) (fun w hw=>by have pz:=(hz.call hw (.nil : Sel [] [] [])); exact w_curve_norm (Z:=_) (z5p:=z9J) (z5q:=z9K) (zh:=z71) (r:=zhl) w pz zm0 zqO) ?_
  rintro zqP zqQ _
  refine WL.quiet (d:=2) rfl rfl rfl (q_assign rfl) ?_
  refine WL.quiet (d:=3) rfl rfl rfl (q_assign rfl) ?_
  refine WL.nil ?_
  refine WX.then ?_
  refine WC.ret ?_
  obtain rfl:=Option.some.inj h
  refine WX.bpRet Try.results19 (.tmp rfl (.tmp rfl .nil)) (fun w hw=>?_)
  exact ⟨zqP,zqQ,ret2 rfl rfl,trivial,hw.sub (.cons .here .nil)⟩
def m_curve_pairs (z7Y : List z1) (z7Z : List z1) : Option (List z1 × List z1) :=
 some (z7Y,z7Z)
set_option maxRecDepth 20000 in
theorem w_curve_pairs (Z : Zp)  (z9L : Option Addr) (z9M : Nat) (z9N : Option Addr) (z9O : Nat) (z7Y : List z1) (z7Z : List z1) (r : List z1 × List z1) (w₀ : World) (hz : PZ [] w₀ Z)
  (zqR : ZS Z 4 (fun r x=>r = e42 x) z9L z9M z7Y)
  (zqS : ZS Z 4 (fun r x=>r = e42 x) z9N z9O z7Z)
  (h : m_curve_pairs z7Y z7Z = some r) :
  Calls Try.prog 46 #[(.slice z9L z7Y.length z9M),(.slice z9N z7Z.length z9O)] w₀ fun e w'=>∃ zm3 : Nat,∃ zm4 : Nat,∃ zm5 : Option Addr,∃ zm6 : Nat,∃ zm7 : Option Addr,∃ zm8 : Nat,e = .returned (.func (.func 73) #[] #[(.pointer (some ⟨zm3,0,none⟩)),(.pointer (some ⟨zm4,0,none⟩))]) ∧ ((ZS Z 4 (fun r x=>r = e42 x) zm5 zm6 r.1) ∧ (ZS Z 4 (fun r x=>r = e42 x) zm7 zm8 r.2)) ∧ Hp [] w₀ w' [stb zm3 25 [(.slice zm5 r.1.length zm6)],stb zm4 25 [(.slice zm7 r.2.length zm8)]]:=by
 unfold m_curve_pairs at h
 refine Calls.ofWC (vs:=[(.slice z9L z7Y.length z9M),(.slice z9N z7Z.length z9O)]) (pre:=[]) (env:=[(0,(.slice z9L z7Y.length z9M)),(1,(.slice z9N z7Z.length z9O))]) Try.func46 rfl Try.ntmps46 rfl (Hp.nil w₀ _) rfl ?_
 refine WC.seq ?_
 refine WC.region ?_
 refine WL.new (dd:=2) rfl rfl rfl (e_box (cs:=[(.slice z9L z7Y.length z9M)]) rfl rfl) ?_
 intro zqT _
 refine WL.new (dd:=3) rfl rfl rfl (e_box (cs:=[(.slice z9N z7Z.length z9O)]) rfl rfl) ?_
 intro zqU _
 refine WL.quiet (d:=4) rfl rfl rfl (q_assign rfl) ?_
 refine WL.nil ?_
 refine WX.then ?_
 refine WC.seq ?_
 refine WC.region ?_
 refine WL.quiet (d:=5) rfl rfl rfl (q_makeFunc (Eos.caps (l:=[.tmp 2,.tmp 3]) (.cons rfl (.cons rfl .nil)))) ?_
 refine WL.quiet (d:=4) rfl rfl rfl (q_assign rfl) ?_
 refine WL.nil ?_
 refine WX.then ?_
 refine WC.ret ?_
 obtain rfl:=Option.some.inj h
 refine WX.bpRet Try.results46 (.tmp rfl .nil) (fun w hw=>?_)
 exact ⟨zqT,zqU,z9L,z9M,z9N,z9O,ret1 rfl,⟨zqR,zqS⟩,hw.sub (.cons (.there .here) (.cons .here .nil))⟩
def m_curve_pairs_1_L4 (z1i : Type) (z2f : List z1) (z5r : (z1 × z1) → z1i → Option (Bool × z1i)) (z1Q : List z1) (z1X : Int) (z8B : z1i → Option z1i) : Nat → Int → z1i → Option z1i
 | 0,_,_=>none
 | zhn + 1,z2K,z63=>if decide (z2K < ((z2f.length : Nat) : Int)) then chk ((0 : Int) ≤ z2K ∧ z2K < ((z2f.length : Nat) : Int)) ((z5r ((⟨(⟨(((nth z1Q z1X).fBurst).fN),(((nth z1Q z1X).fBurst).fD)⟩ : z2),(⟨(((nth z1Q z1X).fRate).fN),(((nth z1Q z1X).fRate).fD)⟩ : z2)⟩ : z1),(⟨(⟨(((nth z2f z2K).fBurst).fN),(((nth z2f z2K).fBurst).fD)⟩ : z2),(⟨(((nth z2f z2K).fRate).fN),(((nth z2f z2K).fRate).fD)⟩ : z2)⟩ : z1)) z63).bind fun zaB=>if !zaB.1 then some zaB.2 else m_curve_pairs_1_L4 z1i z2f z5r z1Q z1X z8B zhn (i64 (z2K + 1)) zaB.2) else z8B z63
theorem m_curve_pairs_1_L4_fuel {n : Nat} {z1i : Type} {z2f : List z1} {z5r : (z1 × z1) → z1i → Option (Bool × z1i)} {z1Q : List z1} {z1X : Int} {z8B : z1i → Option z1i} {z2K : Int} {z63 : z1i} {r : z1i} (h : m_curve_pairs_1_L4 z1i z2f z5r z1Q z1X z8B n z2K z63 = some r) : ∃ m,n = m + 1:=by
 cases n with
 | zero=>cases h
 | succ m=>exact ⟨m,rfl⟩
def m_curve_pairs_1_L3 (z1i : Type) (z1Q : List z1) (z2f : List z1) (z5r : (z1 × z1) → z1i → Option (Bool × z1i)) (z8C : z1i → Option z1i) : Nat → Int → z1i → Option z1i
 | 0,_,_=>none
 | zho + 1,z1X,z6u=>if decide (z1X < ((z1Q.length : Nat) : Int)) then jp1 (fun (z80 : z1i)=>m_curve_pairs_1_L3 z1i z1Q z2f z5r z8C zho (i64 (z1X + 1)) z80) fun zhp=>chk ((0 : Int) ≤ z1X ∧ z1X < ((z1Q.length : Nat) : Int)) (jp1 (fun (z81 : z1i)=>zhp z81) fun z8B=>m_curve_pairs_1_L4 z1i z2f z5r z1Q z1X z8B FUEL 0 z6u) else z8C z6u
theorem m_curve_pairs_1_L3_fuel {n : Nat} {z1i : Type} {z1Q : List z1} {z2f : List z1} {z5r : (z1 × z1) → z1i → Option (Bool × z1i)} {z8C : z1i → Option z1i} {z1X : Int} {z6u : z1i} {r : z1i} (h : m_curve_pairs_1_L3 z1i z1Q z2f z5r z8C n z1X z6u = some r) : ∃ m,n = m + 1:=by
 cases n with
 | zero=>cases h
 | succ m=>exact ⟨m,rfl⟩
def m_curve_pairs_1 (z1i : Type) (z5r : (z1 × z1) → z1i → Option (Bool × z1i)) (s0_5040 : z1i) (z1Q : List z1) (z2f : List z1) : Option z1i :=
 jp1 (fun (z8D : z1i)=>some z8D) fun z8C=>m_curve_pairs_1_L3 z1i z1Q z2f z5r z8C FUEL 0 s0_5040
set_option maxRecDepth 20000 in
theorem w_curve_pairs_1 (Z : Zp) (z1i : Type) (z82 : Nat) (z3x : Type) (z64 : z3x → z1i → Asrt) (z83 : z3x → z1i → Prop) (z8E : z3x) (zbH : Addr) (z9P : Option Addr) (z9Q : Nat) (z84 : Addr) (zdo : Option Addr) (zdp : Nat) (z5r : (z1 × z1) → z1i → Option (Bool × z1i)) (s0_5040 : z1i) (z1Q : List z1) (z2f : List z1) (r : z1i) (w₀ : World) (hz : PZ (fps [z64 z8E s0_5040]) w₀ Z)
  (zqV : YieldP Try.prog Z z82 (α:=z1 × z1) (σ:=z1i) (G:=z3x) (H:=Unit) (fun h x=>[(.agg #[(.int .i64 x.1.fBurst.fN),(.int .i64 x.1.fBurst.fD),(.int .i64 x.1.fRate.fN),(.int .i64 x.1.fRate.fD)]),(.agg #[(.int .i64 x.2.fBurst.fN),(.int .i64 x.2.fBurst.fD),(.int .i64 x.2.fRate.fN),(.int .i64 x.2.fRate.fD)])]) (fun h x=>[]) z5r z64 z83)
  (zqW : z83 z8E s0_5040)
  (zqX : ZS Z 4 (fun r x=>r = e42 x) z9P z9Q z1Q)
  (zqY : ZC Z zbH [(.slice z9P z1Q.length z9Q)])
  (zqZ : ZS Z 4 (fun r x=>r = e42 x) zdo zdp z2f)
  (zr0 : ZC Z z84 [(.slice zdo z2f.length zdp)])
  (h : m_curve_pairs_1 z1i z5r s0_5040 z1Q z2f = some r)
  (hown : Hp (fps [z64 z8E s0_5040]) w₀ w₀ [z64 z8E s0_5040]) :
  Calls Try.prog 73 #[(.func (.yield z82) #[] #[]),(.pointer (some zbH)),(.pointer (some z84))] w₀ fun e w'=>∃ zm9 : z3x,e = .returned (.tuple #[]) ∧ (z83 zm9 r) ∧ Hp (fps [z64 z8E s0_5040]) w₀ w' [z64 zm9 r]:=by
 unfold m_curve_pairs_1 at h
 refine Calls.ofWC (vs:=[(.func (.yield z82) #[] #[]),(.pointer (some zbH)),(.pointer (some z84))]) (pre:=[z64 z8E s0_5040]) (env:=[(0,(.func (.yield z82) #[] #[])),(1,(.pointer (some zbH))),(2,(.pointer (some z84)))]) Try.func73 rfl Try.ntmps73 rfl (hown) rfl ?_
 refine WC.seq ?_
 refine WC.region ?_
 refine WL.quiet (d:=8) rfl rfl rfl (q_load1 oneT_25 rfl (rd_z hz.pv zqY rfl)) ?_
 refine WL.quiet (d:=9) rfl rfl rfl (q_len Try.underlying25 rfl) ?_
 refine WL.quiet (d:=10) rfl rfl rfl (q_move rfl) ?_
 refine WL.nil ?_
 refine WX.then ?_
 obtain ⟨z8C,zr1,h⟩:=jp1_elim h
 refine WC.mid2 (fun (z8D : z1i) (zbI : z3x)=>(z8C z8D = some r) ∧ (z83 zbI z8D)) (fun (z8D : z1i) (zbI : z3x)=>[]) (fun (z8D : z1i) (zbI : z3x)=>[z64 zbI z8D]) ?_ ?_
 ·skip
  refine WC.block ?_
  refine WC.loop4 (fun (zbJ : Nat) (z1X : Int) (z6u : z1i) (z9R : z3x)=>(m_curve_pairs_1_L3 z1i z1Q z2f z5r z8C zbJ z1X z6u = some r) ∧ (z83 z9R z6u)) (fun (zbJ : Nat) (z1X : Int) (z6u : z1i) (z9R : z3x)=>[(0,(.func (.yield z82) #[] #[])),(2,(.pointer (some z84))),(8,(.slice z9P z1Q.length z9Q)),(9,(.int .i64 ((z1Q.length : Nat) : Int))),(10,(.int .i64 z1X))]) (fun (zbJ : Nat) (z1X : Int) (z6u : z1i) (z9R : z3x)=>[z64 z9R z6u]) (fun (zbJ : Nat) (z1X : Int) (z6u : z1i) (z9R : z3x)=>zbJ) ⟨FUEL,0,s0_5040,z8E⟩ ⟨h,zqW⟩ (.cons rfl (.cons rfl (.cons rfl (.cons rfl (.cons rfl .nil))))) (.cons .here .nil) ?_
  rintro zbJ z1X z6u z9R ⟨h,zma⟩
  obtain ⟨zho,rfl⟩:=m_curve_pairs_1_L3_fuel h
  rw [m_curve_pairs_1_L3] at h
  refine WC.seq ?_
  refine WC.region ?_
  refine WL.quiet (d:=11) rfl rfl rfl (q_lss rfl rfl) ?_
  refine WL.nil ?_
  refine WX.then ?_
  refine WC.seq ?_
  refine WC.cond rfl (fun zhq=>?_) (fun zhq=>?_)
  ·replace h:=ite_t h zhq
   refine WC.skip ?_
   refine WX.then ?_
   obtain ⟨zhp,zr2,h⟩:=jp1_elim h
   refine WC.seqMid2 (fun (z80 : z1i) (zbK : z3x)=>(zhp z80 = some r) ∧ (z83 zbK z80)) (fun (z80 : z1i) (zbK : z3x)=>[(0,(.func (.yield z82) #[] #[])),(2,(.pointer (some z84))),(8,(.slice z9P z1Q.length z9Q)),(9,(.int .i64 ((z1Q.length : Nat) : Int))),(10,(.int .i64 z1X))]) (fun (z80 : z1i) (zbK : z3x)=>[z64 zbK z80]) ?_ ?_
   ·skip
    refine WC.block ?_
    refine WC.seq ?_
    obtain ⟨zr3,h⟩:=chk_elim h
    refine WC.region ?_
    refine WL.znth (dd:=12) rfl rfl (Z:=Z) (Pr:=(fun r x=>r = e42 x)) elT_25 rfl rfl zqX zr3 ?_
    rintro zxv zxw zr4 zxx rfl
    refine WL.quiet (d:=13) rfl rfl rfl (q_loadA (cs:=[(.int .i64 (((nth z1Q z1X).fBurst).fN)),(.int .i64 (((nth z1Q z1X).fBurst).fD)),(.int .i64 (((nth z1Q z1X).fRate).fN)),(.int .i64 (((nth z1Q z1X).fRate).fD))]) aggT_42 rfl rfl (rd_zs hz.pv zr4)) ?_
    refine WL.new (dd:=5) rfl rfl rfl (e_alloc (cs:=[(.int .i64 0),(.int .i64 0),(.int .i64 0),(.int .i64 0)]) zeroT_42 rfl) ?_
    intro zmb _
    refine WL.eff0 rfl rfl (e_store (vs:=[(.int .i64 (((nth z1Q z1X).fBurst).fN)),(.int .i64 (((nth z1Q z1X).fBurst).fD)),(.int .i64 (((nth z1Q z1X).fRate).fN)),(.int .i64 (((nth z1Q z1X).fRate).fD))]) (ds:=[(.int .i64 (((nth z1Q z1X).fBurst).fN)),(.int .i64 (((nth z1Q z1X).fBurst).fD)),(.int .i64 (((nth z1Q z1X).fRate).fN)),(.int .i64 (((nth z1Q z1X).fRate).fD))]) sizT_42 rfl rfl rfl rfl (oc_cons rfl (oc_cons rfl (oc_cons rfl (oc_cons rfl oc_nil)))) .here (Nat.le_of_ble_eq_true rfl) rfl) ?_
    refine WL.nil ?_
    refine WX.then ?_
    refine WC.seq ?_
    refine WC.region ?_
    refine WL.quiet (d:=14) rfl rfl rfl (q_load1 oneT_25 rfl (rd_z hz.pv zr0 rfl)) ?_
    refine WL.quiet (d:=15) rfl rfl rfl (q_len Try.underlying25 rfl) ?_
    refine WL.quiet (d:=16) rfl rfl rfl (q_move rfl) ?_
    refine WL.nil ?_
    refine WX.then ?_
    obtain ⟨z8B,zr5,h⟩:=jp1_elim h
    refine WC.mid2 (fun (z81 : z1i) (zbL : z3x)=>(z8B z81 = some r) ∧ (z83 zbL z81)) (fun (z81 : z1i) (zbL : z3x)=>[(0,(.func (.yield z82) #[] #[])),(2,(.pointer (some z84))),(8,(.slice z9P z1Q.length z9Q)),(9,(.int .i64 ((z1Q.length : Nat) : Int))),(10,(.int .i64 z1X))]) (fun (z81 : z1i) (zbL : z3x)=>[z64 zbL z81]) ?_ ?_
    ·skip
     refine WC.block ?_
     refine WC.loop4 (fun (zbM : Nat) (z2K : Int) (z63 : z1i) (z85 : z3x)=>(m_curve_pairs_1_L4 z1i z2f z5r z1Q z1X z8B zbM z2K z63 = some r) ∧ (z83 z85 z63)) (fun (zbM : Nat) (z2K : Int) (z63 : z1i) (z85 : z3x)=>[(0,(.func (.yield z82) #[] #[])),(2,(.pointer (some z84))),(5,(.pointer (some ⟨zmb,0,none⟩))),(8,(.slice z9P z1Q.length z9Q)),(9,(.int .i64 ((z1Q.length : Nat) : Int))),(10,(.int .i64 z1X)),(14,(.slice zdo z2f.length zdp)),(15,(.int .i64 ((z2f.length : Nat) : Int))),(16,(.int .i64 z2K))]) (fun (zbM : Nat) (z2K : Int) (z63 : z1i) (z85 : z3x)=>[stb zmb 42 [(.int .i64 (((nth z1Q z1X).fBurst).fN)),(.int .i64 (((nth z1Q z1X).fBurst).fD)),(.int .i64 (((nth z1Q z1X).fRate).fN)),(.int .i64 (((nth z1Q z1X).fRate).fD))],z64 z85 z63]) (fun (zbM : Nat) (z2K : Int) (z63 : z1i) (z85 : z3x)=>zbM) ⟨FUEL,0,z6u,z9R⟩ ⟨h,zma⟩ (.cons rfl (.cons rfl (.cons rfl (.cons rfl (.cons rfl (.cons rfl (.cons rfl (.cons rfl (.cons rfl .nil))))))))) (.cons .here (.cons .here .nil)) ?_
     rintro zbM z2K z63 z85 ⟨h,zmc⟩
     obtain ⟨zhn,rfl⟩:=m_curve_pairs_1_L4_fuel h
     rw [m_curve_pairs_1_L4] at h
     refine WC.seq ?_
     refine WC.region ?_
     refine WL.quiet (d:=17) rfl rfl rfl (q_lss rfl rfl) ?_
     refine WL.nil ?_
     refine WX.then ?_
     refine WC.seq ?_
     refine WC.cond rfl (fun zhr=>?_) (fun zhr=>?_)
     ·replace h:=ite_t h zhr
      refine WC.skip ?_
      refine WX.then ?_
      refine WC.seq ?_
      refine WC.block ?_
      refine WC.seq ?_
      obtain ⟨zr6,h⟩:=chk_elim h
      refine WC.region ?_
      refine WL.znth (dd:=18) rfl rfl (Z:=Z) (Pr:=(fun r x=>r = e42 x)) elT_25 rfl rfl zqZ zr6 ?_
      rintro zxy zxz zr7 zxA rfl
      refine WL.quiet (d:=19) rfl rfl rfl (q_loadA (cs:=[(.int .i64 (((nth z2f z2K).fBurst).fN)),(.int .i64 (((nth z2f z2K).fBurst).fD)),(.int .i64 (((nth z2f z2K).fRate).fN)),(.int .i64 (((nth z2f z2K).fRate).fD))]) aggT_42 rfl rfl (rd_zs hz.pv zr7)) ?_
      refine WL.new (dd:=7) rfl rfl rfl (e_alloc (cs:=[(.int .i64 0),(.int .i64 0),(.int .i64 0),(.int .i64 0)]) zeroT_42 rfl) ?_
      intro zxB _
      refine WL.eff0 rfl rfl (e_store (vs:=[(.int .i64 (((nth z2f z2K).fBurst).fN)),(.int .i64 (((nth z2f z2K).fBurst).fD)),(.int .i64 (((nth z2f z2K).fRate).fN)),(.int .i64 (((nth z2f z2K).fRate).fD))]) (ds:=[(.int .i64 (((nth z2f z2K).fBurst).fN)),(.int .i64 (((nth z2f z2K).fBurst).fD)),(.int .i64 (((nth z2f z2K).fRate).fN)),(.int .i64 (((nth z2f z2K).fRate).fD))]) sizT_42 rfl rfl rfl rfl (oc_cons rfl (oc_cons rfl (oc_cons rfl (oc_cons rfl oc_nil)))) .here (Nat.le_of_ble_eq_true rfl) rfl) ?_
      refine WL.nil ?_
      refine WX.then ?_
      refine WC.seq ?_
      obtain ⟨zaB,zr8,h⟩:=zb h
      refine WC.region ?_
      refine WL.quiet (d:=20) rfl rfl rfl (q_move rfl) ?_
      refine WL.quiet (d:=21) rfl rfl rfl (q_loadA (cs:=[(.int .i64 (((nth z1Q z1X).fBurst).fN)),(.int .i64 (((nth z1Q z1X).fBurst).fD)),(.int .i64 (((nth z1Q z1X).fRate).fN)),(.int .i64 (((nth z1Q z1X).fRate).fD))]) aggT_42 rfl rfl (rd_all (.there .here))) ?_
      refine WL.quiet (d:=22) rfl rfl rfl (q_loadA (cs:=[(.int .i64 (((nth z2f z2K).fBurst).fN)),(.int .i64 (((nth z2f z2K).fBurst).fD)),(.int .i64 (((nth z2f z2K).fRate).fN)),(.int .i64 (((nth z2f z2K).fRate).fD))]) aggT_42 rfl rfl (rd_all .here)) ?_
      refine WL.yield (dd:=23) (x:=((⟨(⟨(((nth z1Q z1X).fBurst).fN),(((nth z1Q z1X).fBurst).fD)⟩ : z2),(⟨(((nth z1Q z1X).fRate).fN),(((nth z1Q z1X).fRate).fD)⟩ : z2)⟩ : z1),(⟨(⟨(((nth z2f z2K).fBurst).fN),(((nth z2f z2K).fBurst).fD)⟩ : z2),(⟨(((nth z2f z2K).fRate).fN),(((nth z2f z2K).fRate).fD)⟩ : z2)⟩ : z1))) (h:=()) (g:=z85) (s:=z63) (b:=zaB.1) (s':=zaB.2) zqV rfl rfl rfl (.cons rfl (.cons rfl .nil)) ((.cons (.there (.there .here)) .nil) : Sel _ [z64 z85 z63] _) zr8 zmc (fun w hw=>hz.call hw ((.cons (.there (.there .here)) .nil) : Sel _ [z64 z85 z63] _)) ?_
      intro zmd zme
      refine WL.quiet (d:=24) rfl rfl rfl (q_not rfl) ?_
      refine WL.nil ?_
      refine WX.then ?_
      refine WC.cond rfl (fun zhs=>?_) (fun zhs=>?_)
      ·replace h:=ite_t h zhs
       refine WC.ret ?_
       refine WX.blockRet ?_
       refine WX.thenRet ?_
       refine WX.thenRet ?_
       refine WX.blockRet ?_
       refine WX.thenRet ?_
       refine WX.blockRet ?_
       refine WX.thenRet ?_
       refine WX.thenRet ?_
       refine WX.blockRet ?_
       refine WX.thenRet ?_
       obtain rfl:=Option.some.inj h
       refine WX.bpRet Try.results73 .nil (fun w hw=>?_)
       exact ⟨zmd,ret0,zme,hw.sub (.cons .here .nil)⟩
      ·replace h:=ite_f h zhs
       refine WC.skip ?_
       refine WX.blockNormal ?_
       refine WX.then ?_
       refine WC.region ?_
       refine WL.quiet (d:=25) rfl rfl rfl (q_add rfl rfl rfl) ?_
       refine WL.quiet (d:=16) rfl rfl rfl (q_move rfl) ?_
       refine WL.nil ?_
       exact WX.round (G:=Nat × Int × z1i × z3x) ⟨zhn,(i64 (z2K + 1)),zaB.2,zmd⟩ ⟨h,zme⟩ (Nat.lt_succ_self _) (.cons rfl (.cons rfl (.cons rfl (.cons rfl (.cons rfl (.cons rfl (.cons rfl (.cons rfl (.cons rfl .nil))))))))) (.cons (.there (.there .here)) (.cons .here .nil))
     ·replace h:=ite_f h zhr
      refine WC.exit ?_
      refine WX.thenExit ?_
      refine WX.thenExit ?_
      refine WX.blockHit ?_
      exact WX.mid (G:=z1i × z3x) ⟨z63,z85⟩ ⟨h,zmc⟩ (.cons rfl (.cons rfl (.cons rfl (.cons rfl (.cons rfl .nil))))) (.cons (.there .here) .nil)
    ·rintro z81 zbL ⟨h,zr9⟩
     replace h:=(zr5 z81).symm.trans h
     refine WX.blockNormal ?_
     exact WX.mid (G:=z1i × z3x) ⟨z81,zbL⟩ ⟨h,zr9⟩ (.cons rfl (.cons rfl (.cons rfl (.cons rfl (.cons rfl .nil))))) (.cons .here .nil)
   ·rintro z80 zbK ⟨h,zra⟩
    replace h:=(zr2 z80).symm.trans h
    refine WC.region ?_
    refine WL.quiet (d:=26) rfl rfl rfl (q_add rfl rfl rfl) ?_
    refine WL.quiet (d:=10) rfl rfl rfl (q_move rfl) ?_
    refine WL.nil ?_
    exact WX.round (G:=Nat × Int × z1i × z3x) ⟨zho,(i64 (z1X + 1)),z80,zbK⟩ ⟨h,zra⟩ (Nat.lt_succ_self _) (.cons rfl (.cons rfl (.cons rfl (.cons rfl (.cons rfl .nil))))) (.cons .here .nil)
  ·replace h:=ite_f h zhq
   refine WC.exit ?_
   refine WX.thenExit ?_
   refine WX.thenExit ?_
   refine WX.blockHit ?_
   exact WX.mid (G:=z1i × z3x) ⟨z6u,z9R⟩ ⟨h,zma⟩ .nil (.cons .here .nil)
 ·rintro z8D zbI ⟨h,zrb⟩
  replace h:=(zr1 z8D).symm.trans h
  obtain rfl:=Option.some.inj h
  refine WX.bpNormal Try.results73 .nil (fun w hw=>?_)
  exact ⟨zbI,ret0,zrb,hw.sub (.cons .here .nil)⟩
def m_rat_do_4 (zaC : z2) (zaD : z2) : Option (Int × Int) :=
 some ((i64 (zaC.fN * zaD.fD)),(i64 (zaC.fD * zaD.fN)))
set_option maxRecDepth 20000 in
theorem w_rat_do_4 (Z : Zp)  (zdq : Addr) (zdr : Addr) (zaC : z2) (zaD : z2) (r : Int × Int) (w₀ : World) (hz : PZ [] w₀ Z)
  (zmf : ZC Z zdq [(.int .i64 zaC.fN),(.int .i64 zaC.fD)])
  (zmg : ZC Z zdr [(.int .i64 zaD.fN),(.int .i64 zaD.fD)])
  (h : m_rat_do_4 zaC zaD = some r) :
  Calls Try.prog 67 #[(.pointer (some zdq)),(.pointer (some zdr))] w₀ fun e w'=>e = .returned (.tuple #[(.int .i64 r.1),(.int .i64 r.2)]) ∧ Hp [] w₀ w' []:=by
 unfold m_rat_do_4 at h
 refine Calls.ofWC (vs:=[(.pointer (some zdq)),(.pointer (some zdr))]) (pre:=[]) (env:=[(0,(.pointer (some zdq))),(1,(.pointer (some zdr)))]) Try.func67 rfl Try.ntmps67 rfl (Hp.nil w₀ _) rfl ?_
 refine WC.seq ?_
 refine WC.region ?_
 refine WL.quiet (d:=2) rfl rfl rfl (q_assign rfl) ?_
 refine WL.quiet (d:=3) rfl rfl rfl (q_assign rfl) ?_
 refine WL.nil ?_
 refine WX.then ?_
 refine WC.seq ?_
 refine WC.draw (fun i=>[].contains i) [] rfl ?_
 refine WD.pure (i:=0) (d:=4) (by kernel_rfl) rfl (z6 (by kernel_rfl)) (z7 (by kernel_rfl)) rfl rfl rfl (fun _=>q_fieldAddr fo_28_0 rfl rfl) ?_
 refine WD.quiet (i:=1) (d:=5) (by kernel_rfl) rfl (z6 (by kernel_rfl)) (z7 (by kernel_rfl)) rfl rfl rfl (q_load1 oneT_3 rfl (rd_zAt hz.pv zmf rfl)) ?_
 refine WD.pure (i:=2) (d:=6) (by kernel_rfl) rfl (z6 (by kernel_rfl)) (z7 (by kernel_rfl)) rfl rfl rfl (fun _=>q_fieldAddr fo_28_1 rfl rfl) ?_
 refine WD.quiet (i:=3) (d:=7) (by kernel_rfl) rfl (z6 (by kernel_rfl)) (z7 (by kernel_rfl)) rfl rfl rfl (q_load1 oneT_3 rfl (rd_zAt hz.pv zmg rfl)) ?_
 refine WD.pure (i:=4) (d:=8) (by kernel_rfl) rfl (z6 (by kernel_rfl)) (z7 (by kernel_rfl)) rfl rfl rfl (fun _=>q_mul rfl rfl rfl) ?_
 refine WD.pure (i:=5) (d:=9) (by kernel_rfl) rfl (z6 (by kernel_rfl)) (z7 (by kernel_rfl)) rfl rfl rfl (fun _=>q_fieldAddr fo_28_1 rfl rfl) ?_
 refine WD.quiet (i:=6) (d:=10) (by kernel_rfl) rfl (z6 (by kernel_rfl)) (z7 (by kernel_rfl)) rfl rfl rfl (q_load1 oneT_3 rfl (rd_zAt hz.pv zmf rfl)) ?_
 refine WD.pure (i:=7) (d:=11) (by kernel_rfl) rfl (z6 (by kernel_rfl)) (z7 (by kernel_rfl)) rfl rfl rfl (fun _=>q_fieldAddr fo_28_0 rfl rfl) ?_
 refine WD.quiet (i:=8) (d:=12) (by kernel_rfl) rfl (z6 (by kernel_rfl)) (z7 (by kernel_rfl)) rfl rfl rfl (q_load1 oneT_3 rfl (rd_zAt hz.pv zmg rfl)) ?_
 refine WD.pure (i:=9) (d:=13) (by kernel_rfl) rfl (z6 (by kernel_rfl)) (z7 (by kernel_rfl)) rfl rfl rfl (fun _=>q_mul rfl rfl rfl) ?_
 refine WD.pure (i:=10) (d:=2) (by kernel_rfl) rfl (z6 (by kernel_rfl)) (z7 (by kernel_rfl)) rfl rfl rfl (fun _=>q_assign rfl) ?_
 refine WD.pure (i:=11) (d:=3) (by kernel_rfl) rfl (z6 (by kernel_rfl)) (z7 (by kernel_rfl)) rfl rfl rfl (fun _=>q_assign rfl) ?_
 refine WD.done (by kernel_rfl) ?_
 refine WX.then ?_
 refine WC.ret ?_
 obtain rfl:=Option.some.inj h
 refine WX.bpRet Try.results67 (.tmp rfl (.tmp rfl .nil)) (fun w hw=>?_)
 exact ⟨ret2 rfl rfl,hw.sub .nil⟩
def m_rat_dod (z1h : z2) (z17 : z2) : Option (z2 × Int) :=
 (m_rat_Valid z1h).bind fun zeO=>(if !zeO then some true else (m_rat_Valid z17).bind fun zht=>some (!zht)).bind fun zds=>if zds || (decide (z17.fN = 0)) then some ((⟨0,0⟩ : z2),2) else (m_rat_do_4 z1h z17).bind fun zbN=>(m_rat_Make zbN.1 zbN.2).bind fun z9S=>some (z9S.1,z9S.2)
set_option maxRecDepth 20000 in
theorem w_rat_dod (Z : Zp)   (z1h : z2) (z17 : z2) (r : z2 × Int) (w₀ : World) (hz : PZ [] w₀ Z)
  (h : m_rat_dod z1h z17 = some r) :
  Calls Try.prog 39 #[(.string ⟨#[47]⟩),(.agg #[(.int .i64 z1h.fN),(.int .i64 z1h.fD)]),(.agg #[(.int .i64 z17.fN),(.int .i64 z17.fD)])] w₀ fun e w'=>e = .returned (.tuple #[(.agg #[(.int .i64 r.1.fN),(.int .i64 r.1.fD)]),(.int .i64 r.2)]) ∧ Hp [] w₀ w' []:=by
 unfold m_rat_dod at h
 refine Calls.ofWC (vs:=[(.string ⟨#[47]⟩),(.agg #[(.int .i64 z1h.fN),(.int .i64 z1h.fD)]),(.agg #[(.int .i64 z17.fN),(.int .i64 z17.fD)])]) (pre:=[]) (env:=[(0,(.string ⟨#[47]⟩)),(1,(.agg #[(.int .i64 z1h.fN),(.int .i64 z1h.fD)])),(2,(.agg #[(.int .i64 z17.fN),(.int .i64 z17.fD)]))]) Try.func39 rfl Try.ntmps39 rfl (Hp.nil w₀ _) rfl ?_
 refine WC.seq ?_
 refine WC.region ?_
 refine WL.new (dd:=4) rfl rfl rfl (e_box (cs:=[(.int .i64 z1h.fN),(.int .i64 z1h.fD)]) rfl rfl) ?_
 intro zN _
 refine WL.new (dd:=5) rfl rfl rfl (e_box (cs:=[(.int .i64 z17.fN),(.int .i64 z17.fD)]) rfl rfl) ?_
 intro zO _
 refine WL.new (dd:=6) rfl rfl rfl (e_alloc (cs:=[(.int .i64 0),(.int .i64 0)]) zeroT_28 rfl) ?_
 intro z3V _
 refine WL.quiet (d:=7) rfl rfl rfl (q_assign rfl) ?_
 refine WL.nil ?_
 refine WX.then ?_
 refine WC.seq ?_
 refine WC.seq ?_
 obtain ⟨zeO,zrc,h⟩:=zb h
 obtain ⟨zds,zmh,h⟩:=zb h
 refine WC.region ?_
 refine WL.quiet (d:=9) rfl rfl rfl (q_loadA (cs:=[(.int .i64 z1h.fN),(.int .i64 z1h.fD)]) aggT_28 rfl rfl (rd_all (.there (.there .here)))) ?_
 refine WL.callD (dd:=10) rfl rfl rfl (zg (l:=[.tmp 9]) Try.call42 (.cons rfl .nil)) (.nil : Sel [stb z3V 28 [(.int .i64 0),(.int .i64 0)],stb zO 28 [(.int .i64 z17.fN),(.int .i64 z17.fD)],stb zN 28 [(.int .i64 z1h.fN),(.int .i64 z1h.fD)]] [] [stb z3V 28 [(.int .i64 0),(.int .i64 0)],stb zO 28 [(.int .i64 z17.fN),(.int .i64 z17.fD)],stb zN 28 [(.int .i64 z1h.fN),(.int .i64 z1h.fD)]]) (fun w hw=>by have pz:=(hz.call hw (.nil : Sel [stb z3V 28 [(.int .i64 0),(.int .i64 0)],stb zO 28 [(.int .i64 z17.fN),(.int .i64 z17.fD)],stb zN 28 [(.int .i64 z1h.fN),(.int .i64 z1h.fD)]] [] [stb z3V 28 [(.int .i64 0),(.int .i64 0)],stb zO 28 [(.int .i64 z17.fN),(.int .i64 z17.fD)],stb zN 28 [(.int .i64 z1h.fN),(.int .i64 z1h.fD)]])); exact w_rat_Valid (Z:=_)  (z1q:=z1h) (r:=zeO) w pz  zrc) ?_
 refine WL.quiet (d:=11) rfl rfl rfl (q_not rfl) ?_
 refine WL.quiet (d:=12) rfl rfl rfl (q_move rfl) ?_
 refine WL.cut0 True [(0,(.string ⟨#[47]⟩)),(4,(.pointer (some ⟨zN,0,none⟩))),(5,(.pointer (some ⟨zO,0,none⟩))),(6,(.pointer (some ⟨z3V,0,none⟩))),(16,(.bool zds))] [stb z3V 28 [(.int .i64 0),(.int .i64 0)],stb zO 28 [(.int .i64 z17.fN),(.int .i64 z17.fD)],stb zN 28 [(.int .i64 z1h.fN),(.int .i64 z1h.fD)]] 4 ?_ (fun _=>?_)
 ·rcases Bool.eq_false_or_eq_true (!zeO) with hb' | hb'
  ·have zmi:=hb'; clear hb'
   have zhu:=ite_t zmh zmi
   replace zhu:=Option.some.inj zhu
   refine WL.pin (i:=12) rfl zmi ?_
   refine WL.skip rfl rfl rfl ?_
   refine WL.skip rfl rfl rfl ?_
   refine WL.skip rfl rfl rfl ?_
   refine WL.quiet (d:=16) rfl rfl rfl (q_pickT rfl rfl) ?_
   exact WL.cutEnd () trivial (.cons rfl (.cons rfl (.cons rfl (.cons rfl (.cons (zl zhu) .nil))))) (.cons .here (.cons .here (.cons .here .nil)))
  ·have zmj:=hb'; clear hb'
   have zdt:=ite_f zmh zmj
   obtain ⟨zht,zrd,zdt⟩:=zb zdt
   replace zdt:=Option.some.inj zdt
   refine WL.pin (i:=12) rfl zmj ?_
   refine WL.quiet (d:=13) rfl rfl rfl (q_loadA (cs:=[(.int .i64 z17.fN),(.int .i64 z17.fD)]) aggT_28 rfl rfl (rd_all (.there .here))) ?_
   refine WL.callD (dd:=14) rfl rfl rfl (zg (l:=[.tmp 13]) Try.call42 (.cons rfl .nil)) (.nil : Sel [stb z3V 28 [(.int .i64 0),(.int .i64 0)],stb zO 28 [(.int .i64 z17.fN),(.int .i64 z17.fD)],stb zN 28 [(.int .i64 z1h.fN),(.int .i64 z1h.fD)]] [] [stb z3V 28 [(.int .i64 0),(.int .i64 0)],stb zO 28 [(.int .i64 z17.fN),(.int .i64 z17.fD)],stb zN 28 [(.int .i64 z1h.fN),(.int .i64 z1h.fD)]]) (fun w hw=>by have pz:=(hz.call hw (.nil : Sel [stb z3V 28 [(.int .i64 0),(.int .i64 0)],stb zO 28 [(.int .i64 z17.fN),(.int .i64 z17.fD)],stb zN 28 [(.int .i64 z1h.fN),(.int .i64 z1h.fD)]] [] [stb z3V 28 [(.int .i64 0),(.int .i64 0)],stb zO 28 [(.int .i64 z17.fN),(.int .i64 z17.fD)],stb zN 28 [(.int .i64 z1h.fN),(.int .i64 z1h.fD)]])); exact w_rat_Valid (Z:=_)  (z1q:=z17) (r:=zht) w pz  zrd) ?_
   refine WL.quiet (d:=15) rfl rfl rfl (q_not rfl) ?_
   refine WL.quiet (d:=16) rfl rfl rfl (q_pickF rfl rfl) ?_
   exact WL.cutEnd () trivial (.cons rfl (.cons rfl (.cons rfl (.cons rfl (.cons (zl zdt) .nil))))) (.cons .here (.cons .here (.cons .here .nil)))
 ·skip
  refine WL.quiet (d:=17) rfl rfl rfl (q_move rfl) ?_
  refine WL.cut0 True [(0,(.string ⟨#[47]⟩)),(4,(.pointer (some ⟨zN,0,none⟩))),(5,(.pointer (some ⟨zO,0,none⟩))),(6,(.pointer (some ⟨z3V,0,none⟩))),(25,(.bool (zds || (decide (z17.fN = 0)))))] [stb z3V 28 [(.int .i64 0),(.int .i64 0)],stb zO 28 [(.int .i64 z17.fN),(.int .i64 z17.fD)],stb zN 28 [(.int .i64 z1h.fN),(.int .i64 z1h.fD)]] 8 ?_ (fun _=>?_)
  ·rcases Bool.eq_false_or_eq_true zds with hb' | hb'
   ·have zmk:=hb'; clear hb'
    refine WL.pin (i:=17) rfl zmk ?_
    refine WL.skip rfl rfl rfl ?_
    refine WL.skip rfl rfl rfl ?_
    refine WL.skip rfl rfl rfl ?_
    refine WL.skip rfl rfl rfl ?_
    refine WL.skip rfl rfl rfl ?_
    refine WL.skip rfl rfl rfl ?_
    refine WL.skip rfl rfl rfl ?_
    refine WL.quiet (d:=25) rfl rfl rfl (q_pickT rfl rfl) ?_
    exact WL.cutEnd () trivial (.cons rfl (.cons rfl (.cons rfl (.cons rfl (.cons (zl (or_l zmk)) .nil))))) (.cons .here (.cons .here (.cons .here .nil)))
   ·have zml:=hb'; clear hb'
    refine WL.pin (i:=17) rfl zml ?_
    refine WL.quiet (d:=18) rfl rfl rfl (q_move rfl) ?_
    refine WL.quiet (d:=19) rfl rfl rfl (q_seqlC (r:=true) (by decide) rfl rfl) ?_
    refine WL.quiet (d:=20) rfl rfl rfl (q_move rfl) ?_
    refine WL.quiet (d:=21) rfl rfl rfl (q_fieldAddr fo_28_0 rfl rfl) ?_
    refine WL.quiet (d:=22) rfl rfl rfl (q_load1 oneT_3 rfl (rd_stb (.there .here) rfl)) ?_
    refine WL.quiet (d:=23) rfl rfl rfl (q_eql rfl rfl) ?_
    refine WL.quiet (d:=24) rfl rfl rfl (q_pickT rfl rfl) ?_
    refine WL.quiet (d:=25) rfl rfl rfl (q_pickF rfl rfl) ?_
    exact WL.cutEnd () trivial (.cons rfl (.cons rfl (.cons rfl (.cons rfl (.cons (zl (or_r zml)) .nil))))) (.cons .here (.cons .here (.cons .here .nil)))
  ·skip
   refine WL.nil ?_
   refine WX.then ?_
   refine WC.cond rfl (fun zhv=>?_) (fun zhv=>?_)
   ·replace h:=ite_t h zhv
    refine WC.seq ?_
    refine WC.region ?_
    refine WL.quiet (d:=26) rfl rfl rfl (q_build (v:=(.agg #[(.int .i64 0),(.int .i64 0)])) (Eos.parts (l:=[]) .nil []) (fun _=>by kernel_rfl)) ?_
    refine WL.eff0 rfl rfl (e_store (vs:=[(.int .i64 0),(.int .i64 0)]) (ds:=[(.int .i64 0),(.int .i64 0)]) sizT_28 rfl rfl rfl rfl (oc_cons rfl (oc_cons rfl oc_nil)) .here (Nat.le_of_ble_eq_true rfl) rfl) ?_
    refine WL.quiet (d:=7) rfl rfl rfl (q_assign rfl) ?_
    refine WL.nil ?_
    refine WX.then ?_
    refine WC.ret ?_
    refine WX.thenRet ?_
    obtain rfl:=Option.some.inj h
    refine WX.bpRet Try.results39 (.agg rfl aggT_28 rfl (rd_all .here) (.tmp rfl .nil)) (fun w hw=>?_)
    exact ⟨ret2 rfl rfl,hw.sub .nil⟩
   ·replace h:=ite_f h zhv
    refine WC.skip ?_
    refine WX.then ?_
    refine WC.seq ?_
    refine WC.region ?_
    refine WL.new (dd:=27) rfl rfl rfl (e_makeMap Value.string (fun x=>x)) ?_
    intro z6v _
    refine WL.quiet (d:=28) rfl rfl rfl (q_makeFunc (Eos.caps (l:=[.tmp 4,.tmp 5]) (.cons rfl (.cons rfl .nil)))) ?_
    refine WL.eff0 rfl rfl (e_insert (k:=⟨#[43]⟩) (v:=(.func (.func 64) #[] #[(.pointer (some ⟨zN,0,none⟩)),(.pointer (some ⟨zO,0,none⟩))])) keyT_9 Try.underlying94 rfl rfl rfl rfl .here) ?_
    refine WL.quiet (d:=29) rfl rfl rfl (q_makeFunc (Eos.caps (l:=[.tmp 4,.tmp 5]) (.cons rfl (.cons rfl .nil)))) ?_
    refine WL.eff0 rfl rfl (e_insert (k:=⟨#[45]⟩) (v:=(.func (.func 65) #[] #[(.pointer (some ⟨zN,0,none⟩)),(.pointer (some ⟨zO,0,none⟩))])) keyT_9 Try.underlying94 rfl rfl rfl rfl .here) ?_
    refine WL.quiet (d:=30) rfl rfl rfl (q_makeFunc (Eos.caps (l:=[.tmp 4,.tmp 5]) (.cons rfl (.cons rfl .nil)))) ?_
    refine WL.eff0 rfl rfl (e_insert (k:=⟨#[42]⟩) (v:=(.func (.func 66) #[] #[(.pointer (some ⟨zN,0,none⟩)),(.pointer (some ⟨zO,0,none⟩))])) keyT_9 Try.underlying94 rfl rfl rfl rfl .here) ?_
    refine WL.quiet (d:=31) rfl rfl rfl (q_makeFunc (Eos.caps (l:=[.tmp 4,.tmp 5]) (.cons rfl (.cons rfl .nil)))) ?_
    refine WL.eff0 rfl rfl (e_insert (k:=⟨#[47]⟩) (v:=(.func (.func 67) #[] #[(.pointer (some ⟨zN,0,none⟩)),(.pointer (some ⟨zO,0,none⟩))])) keyT_9 Try.underlying94 rfl rfl rfl rfl .here) ?_
    refine WL.quiet (d:=32) rfl rfl rfl (q_move rfl) ?_
    refine WL.quiet (d:=8) rfl rfl rfl (q_assign rfl) ?_
    refine WL.nil ?_
    refine WX.then ?_
    refine WC.seq ?_
    obtain ⟨zbN,zre,h⟩:=zb h
    obtain ⟨z9S,zrf,h⟩:=zb h
    refine WC.region ?_
    refine WL.quiet (d:=33) rfl rfl rfl (q_move rfl) ?_
    refine WL.quiet (d:=34) rfl rfl rfl (q_move rfl) ?_
    refine WL.quiet (d:=35) rfl rfl rfl (q_lookC (k:=⟨#[47]⟩) (dflt:=.nilFunc) (r:=(.func (.func 67) #[] #[(.pointer (some ⟨zN,0,none⟩)),(.pointer (some ⟨zO,0,none⟩))])) keyT_9 Try.underlying94 zeroT_93 rfl rfl rfl .here (by rfl)) ?_
    refine WL.callD (dd:=36) rfl rfl rfl (run_callv (l:=[]) Try.call67 rfl .nil) (.nil : Sel [mapA z6v Value.string (fun x=>x) [(⟨#[43]⟩,(.func (.func 64) #[] #[(.pointer (some ⟨zN,0,none⟩)),(.pointer (some ⟨zO,0,none⟩))])),(⟨#[45]⟩,(.func (.func 65) #[] #[(.pointer (some ⟨zN,0,none⟩)),(.pointer (some ⟨zO,0,none⟩))])),(⟨#[42]⟩,(.func (.func 66) #[] #[(.pointer (some ⟨zN,0,none⟩)),(.pointer (some ⟨zO,0,none⟩))])),(⟨#[47]⟩,(.func (.func 67) #[] #[(.pointer (some ⟨zN,0,none⟩)),(.pointer (some ⟨zO,0,none⟩))]))],stb z3V 28 [(.int .i64 0),(.int .i64 0)],stb zO 28 [(.int .i64 z17.fN),(.int .i64 z17.fD)],stb zN 28 [(.int .i64 z1h.fN),(.int .i64 z1h.fD)]] [] [mapA z6v Value.string (fun x=>x) [(⟨#[43]⟩,(.func (.func 64) #[] #[(.pointer (some ⟨zN,0,none⟩)),(.pointer (some ⟨zO,0,none⟩))])),(⟨#[45]⟩,(.func (.func 65) #[] #[(.pointer (some ⟨zN,0,none⟩)),(.pointer (some ⟨zO,0,none⟩))])),(⟨#[42]⟩,(.func (.func 66) #[] #[(.pointer (some ⟨zN,0,none⟩)),(.pointer (some ⟨zO,0,none⟩))])),(⟨#[47]⟩,(.func (.func 67) #[] #[(.pointer (some ⟨zN,0,none⟩)),(.pointer (some ⟨zO,0,none⟩))]))],stb z3V 28 [(.int .i64 0),(.int .i64 0)],stb zO 28 [(.int .i64 z17.fN),(.int .i64 z17.fD)],stb zN 28 [(.int .i64 z1h.fN),(.int .i64 z1h.fD)]]) (fun w hw=>by have pz:=(hz.call hw (.nil : Sel [mapA z6v Value.string (fun x=>x) [(⟨#[43]⟩,(.func (.func 64) #[] #[(.pointer (some ⟨zN,0,none⟩)),(.pointer (some ⟨zO,0,none⟩))])),(⟨#[45]⟩,(.func (.func 65) #[] #[(.pointer (some ⟨zN,0,none⟩)),(.pointer (some ⟨zO,0,none⟩))])),(⟨#[42]⟩,(.func (.func 66) #[] #[(.pointer (some ⟨zN,0,none⟩)),(.pointer (some ⟨zO,0,none⟩))])),(⟨#[47]⟩,(.func (.func 67) #[] #[(.pointer (some ⟨zN,0,none⟩)),(.pointer (some ⟨zO,0,none⟩))]))],stb z3V 28 [(.int .i64 0),(.int .i64 0)],stb zO 28 [(.int .i64 z17.fN),(.int .i64 z17.fD)],stb zN 28 [(.int .i64 z1h.fN),(.int .i64 z1h.fD)]] [] [mapA z6v Value.string (fun x=>x) [(⟨#[43]⟩,(.func (.func 64) #[] #[(.pointer (some ⟨zN,0,none⟩)),(.pointer (some ⟨zO,0,none⟩))])),(⟨#[45]⟩,(.func (.func 65) #[] #[(.pointer (some ⟨zN,0,none⟩)),(.pointer (some ⟨zO,0,none⟩))])),(⟨#[42]⟩,(.func (.func 66) #[] #[(.pointer (some ⟨zN,0,none⟩)),(.pointer (some ⟨zO,0,none⟩))])),(⟨#[47]⟩,(.func (.func 67) #[] #[(.pointer (some ⟨zN,0,none⟩)),(.pointer (some ⟨zO,0,none⟩))]))],stb z3V 28 [(.int .i64 0),(.int .i64 0)],stb zO 28 [(.int .i64 z17.fN),(.int .i64 z17.fD)],stb zN 28 [(.int .i64 z1h.fN),(.int .i64 z1h.fD)]])).lend hw (.nil : Sel [mapA z6v Value.string (fun x=>x) [(⟨#[43]⟩,(.func (.func 64) #[] #[(.pointer (some ⟨zN,0,none⟩)),(.pointer (some ⟨zO,0,none⟩))])),(⟨#[45]⟩,(.func (.func 65) #[] #[(.pointer (some ⟨zN,0,none⟩)),(.pointer (some ⟨zO,0,none⟩))])),(⟨#[42]⟩,(.func (.func 66) #[] #[(.pointer (some ⟨zN,0,none⟩)),(.pointer (some ⟨zO,0,none⟩))])),(⟨#[47]⟩,(.func (.func 67) #[] #[(.pointer (some ⟨zN,0,none⟩)),(.pointer (some ⟨zO,0,none⟩))]))],stb z3V 28 [(.int .i64 0),(.int .i64 0)],stb zO 28 [(.int .i64 z17.fN),(.int .i64 z17.fD)],stb zN 28 [(.int .i64 z1h.fN),(.int .i64 z1h.fD)]] [] [mapA z6v Value.string (fun x=>x) [(⟨#[43]⟩,(.func (.func 64) #[] #[(.pointer (some ⟨zN,0,none⟩)),(.pointer (some ⟨zO,0,none⟩))])),(⟨#[45]⟩,(.func (.func 65) #[] #[(.pointer (some ⟨zN,0,none⟩)),(.pointer (some ⟨zO,0,none⟩))])),(⟨#[42]⟩,(.func (.func 66) #[] #[(.pointer (some ⟨zN,0,none⟩)),(.pointer (some ⟨zO,0,none⟩))])),(⟨#[47]⟩,(.func (.func 67) #[] #[(.pointer (some ⟨zN,0,none⟩)),(.pointer (some ⟨zO,0,none⟩))]))],stb z3V 28 [(.int .i64 0),(.int .i64 0)],stb zO 28 [(.int .i64 z17.fN),(.int .i64 z17.fD)],stb zN 28 [(.int .i64 z1h.fN),(.int .i64 z1h.fD)]]) (B:=[stb zN 28 [(.int .i64 z1h.fN),(.int .i64 z1h.fD)],stb zO 28 [(.int .i64 z17.fN),(.int .i64 z17.fD)]]) (fun _ hx'=>((.cons (.there (.there (.there .here))) (.cons (.there (.there .here)) .nil)) : Sel _ [stb zN 28 [(.int .i64 z1h.fN),(.int .i64 z1h.fD)],stb zO 28 [(.int .i64 z17.fN),(.int .i64 z17.fD)]] _).mem hx'); exact w_rat_do_4 (Z:=_) (zdq:=⟨zN,0,none⟩) (zdr:=⟨zO,0,none⟩) (zaC:=z1h) (zaD:=z17) (r:=zbN) w pz ((hw.lent (.nil : Sel [mapA z6v Value.string (fun x=>x) [(⟨#[43]⟩,(.func (.func 64) #[] #[(.pointer (some ⟨zN,0,none⟩)),(.pointer (some ⟨zO,0,none⟩))])),(⟨#[45]⟩,(.func (.func 65) #[] #[(.pointer (some ⟨zN,0,none⟩)),(.pointer (some ⟨zO,0,none⟩))])),(⟨#[42]⟩,(.func (.func 66) #[] #[(.pointer (some ⟨zN,0,none⟩)),(.pointer (some ⟨zO,0,none⟩))])),(⟨#[47]⟩,(.func (.func 67) #[] #[(.pointer (some ⟨zN,0,none⟩)),(.pointer (some ⟨zO,0,none⟩))]))],stb z3V 28 [(.int .i64 0),(.int .i64 0)],stb zO 28 [(.int .i64 z17.fN),(.int .i64 z17.fD)],stb zN 28 [(.int .i64 z1h.fN),(.int .i64 z1h.fD)]] [] [mapA z6v Value.string (fun x=>x) [(⟨#[43]⟩,(.func (.func 64) #[] #[(.pointer (some ⟨zN,0,none⟩)),(.pointer (some ⟨zO,0,none⟩))])),(⟨#[45]⟩,(.func (.func 65) #[] #[(.pointer (some ⟨zN,0,none⟩)),(.pointer (some ⟨zO,0,none⟩))])),(⟨#[42]⟩,(.func (.func 66) #[] #[(.pointer (some ⟨zN,0,none⟩)),(.pointer (some ⟨zO,0,none⟩))])),(⟨#[47]⟩,(.func (.func 67) #[] #[(.pointer (some ⟨zN,0,none⟩)),(.pointer (some ⟨zO,0,none⟩))]))],stb z3V 28 [(.int .i64 0),(.int .i64 0)],stb zO 28 [(.int .i64 z17.fN),(.int .i64 z17.fD)],stb zN 28 [(.int .i64 z1h.fN),(.int .i64 z1h.fD)]]) (B:=[stb zN 28 [(.int .i64 z1h.fN),(.int .i64 z1h.fD)],stb zO 28 [(.int .i64 z17.fN),(.int .i64 z17.fD)]]) (fun _ hx'=>((.cons (.there (.there (.there .here))) (.cons (.there (.there .here)) .nil)) : Sel _ [stb zN 28 [(.int .i64 z1h.fN),(.int .i64 z1h.fD)],stb zO 28 [(.int .i64 z17.fN),(.int .i64 z17.fD)]] _).mem hx') (.head _) _).stb) ((hw.lent (.nil : Sel [mapA z6v Value.string (fun x=>x) [(⟨#[43]⟩,(.func (.func 64) #[] #[(.pointer (some ⟨zN,0,none⟩)),(.pointer (some ⟨zO,0,none⟩))])),(⟨#[45]⟩,(.func (.func 65) #[] #[(.pointer (some ⟨zN,0,none⟩)),(.pointer (some ⟨zO,0,none⟩))])),(⟨#[42]⟩,(.func (.func 66) #[] #[(.pointer (some ⟨zN,0,none⟩)),(.pointer (some ⟨zO,0,none⟩))])),(⟨#[47]⟩,(.func (.func 67) #[] #[(.pointer (some ⟨zN,0,none⟩)),(.pointer (some ⟨zO,0,none⟩))]))],stb z3V 28 [(.int .i64 0),(.int .i64 0)],stb zO 28 [(.int .i64 z17.fN),(.int .i64 z17.fD)],stb zN 28 [(.int .i64 z1h.fN),(.int .i64 z1h.fD)]] [] [mapA z6v Value.string (fun x=>x) [(⟨#[43]⟩,(.func (.func 64) #[] #[(.pointer (some ⟨zN,0,none⟩)),(.pointer (some ⟨zO,0,none⟩))])),(⟨#[45]⟩,(.func (.func 65) #[] #[(.pointer (some ⟨zN,0,none⟩)),(.pointer (some ⟨zO,0,none⟩))])),(⟨#[42]⟩,(.func (.func 66) #[] #[(.pointer (some ⟨zN,0,none⟩)),(.pointer (some ⟨zO,0,none⟩))])),(⟨#[47]⟩,(.func (.func 67) #[] #[(.pointer (some ⟨zN,0,none⟩)),(.pointer (some ⟨zO,0,none⟩))]))],stb z3V 28 [(.int .i64 0),(.int .i64 0)],stb zO 28 [(.int .i64 z17.fN),(.int .i64 z17.fD)],stb zN 28 [(.int .i64 z1h.fN),(.int .i64 z1h.fD)]]) (B:=[stb zN 28 [(.int .i64 z1h.fN),(.int .i64 z1h.fD)],stb zO 28 [(.int .i64 z17.fN),(.int .i64 z17.fD)]]) (fun _ hx'=>((.cons (.there (.there (.there .here))) (.cons (.there (.there .here)) .nil)) : Sel _ [stb zN 28 [(.int .i64 z1h.fN),(.int .i64 z1h.fD)],stb zO 28 [(.int .i64 z17.fN),(.int .i64 z17.fD)]] _).mem hx') (.tail _ (.head _)) _).stb) zre) ?_
    refine WL.quiet (d:=37) rfl rfl rfl (q_extract rfl rfl) ?_
    refine WL.quiet (d:=38) rfl rfl rfl (q_extract rfl rfl) ?_
    refine WL.callD (dd:=39) rfl rfl rfl (zg (l:=[.tmp 37,.tmp 38]) Try.call38 (.cons rfl (.cons rfl .nil))) (.nil : Sel [mapA z6v Value.string (fun x=>x) [(⟨#[43]⟩,(.func (.func 64) #[] #[(.pointer (some ⟨zN,0,none⟩)),(.pointer (some ⟨zO,0,none⟩))])),(⟨#[45]⟩,(.func (.func 65) #[] #[(.pointer (some ⟨zN,0,none⟩)),(.pointer (some ⟨zO,0,none⟩))])),(⟨#[42]⟩,(.func (.func 66) #[] #[(.pointer (some ⟨zN,0,none⟩)),(.pointer (some ⟨zO,0,none⟩))])),(⟨#[47]⟩,(.func (.func 67) #[] #[(.pointer (some ⟨zN,0,none⟩)),(.pointer (some ⟨zO,0,none⟩))]))],stb z3V 28 [(.int .i64 0),(.int .i64 0)],stb zO 28 [(.int .i64 z17.fN),(.int .i64 z17.fD)],stb zN 28 [(.int .i64 z1h.fN),(.int .i64 z1h.fD)]] [] [mapA z6v Value.string (fun x=>x) [(⟨#[43]⟩,(.func (.func 64) #[] #[(.pointer (some ⟨zN,0,none⟩)),(.pointer (some ⟨zO,0,none⟩))])),(⟨#[45]⟩,(.func (.func 65) #[] #[(.pointer (some ⟨zN,0,none⟩)),(.pointer (some ⟨zO,0,none⟩))])),(⟨#[42]⟩,(.func (.func 66) #[] #[(.pointer (some ⟨zN,0,none⟩)),(.pointer (some ⟨zO,0,none⟩))])),(⟨#[47]⟩,(.func (.func 67) #[] #[(.pointer (some ⟨zN,0,none⟩)),(.pointer (some ⟨zO,0,none⟩))]))],stb z3V 28 [(.int .i64 0),(.int .i64 0)],stb zO 28 [(.int .i64 z17.fN),(.int .i64 z17.fD)],stb zN 28 [(.int .i64 z1h.fN),(.int .i64 z1h.fD)]]) (fun w hw=>by have pz:=(hz.call hw (.nil : Sel [mapA z6v Value.string (fun x=>x) [(⟨#[43]⟩,(.func (.func 64) #[] #[(.pointer (some ⟨zN,0,none⟩)),(.pointer (some ⟨zO,0,none⟩))])),(⟨#[45]⟩,(.func (.func 65) #[] #[(.pointer (some ⟨zN,0,none⟩)),(.pointer (some ⟨zO,0,none⟩))])),(⟨#[42]⟩,(.func (.func 66) #[] #[(.pointer (some ⟨zN,0,none⟩)),(.pointer (some ⟨zO,0,none⟩))])),(⟨#[47]⟩,(.func (.func 67) #[] #[(.pointer (some ⟨zN,0,none⟩)),(.pointer (some ⟨zO,0,none⟩))]))],stb z3V 28 [(.int .i64 0),(.int .i64 0)],stb zO 28 [(.int .i64 z17.fN),(.int .i64 z17.fD)],stb zN 28 [(.int .i64 z1h.fN),(.int .i64 z1h.fD)]] [] [mapA z6v Value.string (fun x=>x) [(⟨#[43]⟩,(.func (.func 64) #[] #[(.pointer (some ⟨zN,0,none⟩)),(.pointer (some ⟨zO,0,none⟩))])),(⟨#[45]⟩,(.func (.func 65) #[] #[(.pointer (some ⟨zN,0,none⟩)),(.pointer (some ⟨zO,0,none⟩))])),(⟨#[42]⟩,(.func (.func 66) #[] #[(.pointer (some ⟨zN,0,none⟩)),(.pointer (some ⟨zO,0,none⟩))])),(⟨#[47]⟩,(.func (.func 67) #[] #[(.pointer (some ⟨zN,0,none⟩)),(.pointer (some ⟨zO,0,none⟩))]))],stb z3V 28 [(.int .i64 0),(.int .i64 0)],stb zO 28 [(.int .i64 z17.fN),(.int .i64 z17.fD)],stb zN 28 [(.int .i64 z1h.fN),(.int .i64 z1h.fD)]])); exact w_rat_Make (Z:=_)  (n_22:=zbN.1) (d_23:=zbN.2) (r:=z9S) w pz  zrf) ?_
    refine WL.quiet (d:=40) rfl rfl rfl (q_extract rfl rfl) ?_
    refine WL.quiet (d:=41) rfl rfl rfl (q_extract rfl rfl) ?_
    refine WL.eff0 rfl rfl (e_store (vs:=[(.int .i64 z9S.1.fN),(.int .i64 z9S.1.fD)]) (ds:=[(.int .i64 z9S.1.fN),(.int .i64 z9S.1.fD)]) sizT_28 rfl rfl rfl rfl (oc_cons rfl (oc_cons rfl oc_nil)) (.there .here) (Nat.le_of_ble_eq_true rfl) rfl) ?_
    refine WL.quiet (d:=7) rfl rfl rfl (q_assign rfl) ?_
    refine WL.nil ?_
    refine WX.then ?_
    refine WC.ret ?_
    obtain rfl:=Option.some.inj h
    refine WX.bpRet Try.results39 (.agg rfl aggT_28 rfl (rd_all .here) (.tmp rfl .nil)) (fun w hw=>?_)
    exact ⟨ret2 rfl rfl,hw.sub .nil⟩
def m_rat_Div (z4l : z2) (z4m : z2) : Option (z2 × Int) :=
 (m_rat_dod z4l z4m).bind fun z9T=>some (z9T.1,z9T.2)
set_option maxRecDepth 20000 in
theorem w_rat_Div (Z : Zp)   (z4l : z2) (z4m : z2) (r : z2 × Int) (w₀ : World) (hz : PZ [] w₀ Z)
  (h : m_rat_Div z4l z4m = some r) :
  Calls Try.prog 21 #[(.agg #[(.int .i64 z4l.fN),(.int .i64 z4l.fD)]),(.agg #[(.int .i64 z4m.fN),(.int .i64 z4m.fD)])] w₀ fun e w'=>e = .returned (.tuple #[(.agg #[(.int .i64 r.1.fN),(.int .i64 r.1.fD)]),(.int .i64 r.2)]) ∧ Hp [] w₀ w' []:=by
 unfold m_rat_Div at h
 refine Calls.ofWC (vs:=[(.agg #[(.int .i64 z4l.fN),(.int .i64 z4l.fD)]),(.agg #[(.int .i64 z4m.fN),(.int .i64 z4m.fD)])]) (pre:=[]) (env:=[(0,(.agg #[(.int .i64 z4l.fN),(.int .i64 z4l.fD)])),(1,(.agg #[(.int .i64 z4m.fN),(.int .i64 z4m.fD)]))]) Try.func21 rfl Try.ntmps21 rfl (Hp.nil w₀ _) rfl ?_
 refine WC.seq ?_
 refine WC.region ?_
 refine WL.new (dd:=2) rfl rfl rfl (e_box (cs:=[(.int .i64 z4l.fN),(.int .i64 z4l.fD)]) rfl rfl) ?_
 intro zeP _
 refine WL.new (dd:=3) rfl rfl rfl (e_box (cs:=[(.int .i64 z4m.fN),(.int .i64 z4m.fD)]) rfl rfl) ?_
 intro zeQ _
 refine WL.new (dd:=4) rfl rfl rfl (e_alloc (cs:=[(.int .i64 0),(.int .i64 0)]) zeroT_28 rfl) ?_
 intro zeR _
 refine WL.quiet (d:=5) rfl rfl rfl (q_assign rfl) ?_
 refine WL.nil ?_
 refine WX.then ?_
 refine WC.seq ?_
 obtain ⟨z9T,zrg,h⟩:=zb h
 refine WC.region ?_
 refine WL.quiet (d:=6) rfl rfl rfl (q_loadA (cs:=[(.int .i64 z4l.fN),(.int .i64 z4l.fD)]) aggT_28 rfl rfl (rd_all (.there (.there .here)))) ?_
 refine WL.quiet (d:=7) rfl rfl rfl (q_loadA (cs:=[(.int .i64 z4m.fN),(.int .i64 z4m.fD)]) aggT_28 rfl rfl (rd_all (.there .here))) ?_
 refine WL.callD (dd:=8) rfl rfl rfl (zg (l:=[.const (.string ⟨#[47]⟩),.tmp 6,.tmp 7]) Try.call39 (.cons rfl (.cons rfl (.cons rfl .nil)))) (.nil : Sel [stb zeR 28 [(.int .i64 0),(.int .i64 0)],stb zeQ 28 [(.int .i64 z4m.fN),(.int .i64 z4m.fD)],stb zeP 28 [(.int .i64 z4l.fN),(.int .i64 z4l.fD)]] [] [stb zeR 28 [(.int .i64 0),(.int .i64 0)],stb zeQ 28 [(.int .i64 z4m.fN),(.int .i64 z4m.fD)],stb zeP 28 [(.int .i64 z4l.fN),(.int .i64 z4l.fD)]]) (fun w hw=>by have pz:=(hz.call hw (.nil : Sel [stb zeR 28 [(.int .i64 0),(.int .i64 0)],stb zeQ 28 [(.int .i64 z4m.fN),(.int .i64 z4m.fD)],stb zeP 28 [(.int .i64 z4l.fN),(.int .i64 z4l.fD)]] [] [stb zeR 28 [(.int .i64 0),(.int .i64 0)],stb zeQ 28 [(.int .i64 z4m.fN),(.int .i64 z4m.fD)],stb zeP 28 [(.int .i64 z4l.fN),(.int .i64 z4l.fD)]])); exact w_rat_dod (Z:=_)  (z1h:=z4l) (z17:=z4m) (r:=z9T) w pz  zrg) ?_
 refine WL.quiet (d:=9) rfl rfl rfl (q_extract rfl rfl) ?_
 refine WL.quiet (d:=10) rfl rfl rfl (q_extract rfl rfl) ?_
 refine WL.eff0 rfl rfl (e_store (vs:=[(.int .i64 z9T.1.fN),(.int .i64 z9T.1.fD)]) (ds:=[(.int .i64 z9T.1.fN),(.int .i64 z9T.1.fD)]) sizT_28 rfl rfl rfl rfl (oc_cons rfl (oc_cons rfl oc_nil)) .here (Nat.le_of_ble_eq_true rfl) rfl) ?_
 refine WL.quiet (d:=5) rfl rfl rfl (q_assign rfl) ?_
 refine WL.nil ?_
 refine WX.then ?_
 refine WC.ret ?_
 obtain rfl:=Option.some.inj h
 refine WX.bpRet Try.results21 (.agg rfl aggT_28 rfl (rd_all .here) (.tmp rfl .nil)) (fun w hw=>?_)
 exact ⟨ret2 rfl rfl,hw.sub .nil⟩
theorem srtA_74 : ∀ w,(isAgg (Try.laysSlF014_f74_ren.t 24)).run Try.prog w = .ok true w:=fun _=>by kernel_rfl
theorem srtZ_74 : ∀ w,(Go.sizeOf (Try.laysSlF014_f74_ren.t 24)).run Try.prog w = .ok 2 w:=fun _=>by kernel_rfl
def m_slices_pdqsortCmpFunc_api_Rat (z5E : List z2) (zdu : Int) (zdv : Int) (zbO : Int) (zaE : z2 → z2 → Option Int) : Option (List z2):=chk ((zdu = 0 ∧ zdv = ((z5E.length : Nat) : Int)) ∧ (0 ≤ zbO ∧ zbO < 4611686018427387904 ∧ z5E.length < 4611686018427387904)) (chk (ordB zaE (sortBy zaE z5E) = true) (some (sortBy zaE z5E)))
theorem w_slices_pdqsortCmpFunc_api_Rat (Z : Zp) (zaF : Option Addr) (zaG : Nat) (zdw : FuncId) (zhw : List Value) (z5E : List z2) (zdu : Int) (zdv : Int) (zbO : Int) (zaE : z2 → z2 → Option Int) (r : List z2) (w₀ : World) (hz : PZ (fps [row (.slice zaF z5E.length zaG) 28 2 (z5E.flatMap e28)]) w₀ Z)
  (zrh : ∀ args w,(callFunc zdw args).run Try.prog w = .ok (.enter zdw args) w)
  (zri : ∀ w : World,PZ [] w Z → ∀ (x0 : z2) (x1 : z2) (r : Int),zaE x0 x1 = some r → Calls Try.prog zdw (([(.agg #[(.int .i64 x0.fN),(.int .i64 x0.fD)]),(.agg #[(.int .i64 x1.fN),(.int .i64 x1.fD)])] : List Value) ++ zhw).toArray w fun e w'=>e = .returned (.int .i64 r) ∧ Hp [] w w' [])
  (h : m_slices_pdqsortCmpFunc_api_Rat z5E zdu zdv zbO zaE = some r) (hown : Hp (fps [row (.slice zaF z5E.length zaG) 28 2 (z5E.flatMap e28)]) w₀ w₀ [row (.slice zaF z5E.length zaG) 28 2 (z5E.flatMap e28)]) :
  Calls Try.prog 74 #[(.slice zaF z5E.length zaG),(.int .i64 zdu),(.int .i64 zdv),(.int .i64 zbO),(.func (.func zdw) #[] (zhw).toArray)] w₀ fun e w'=>e = .returned (.tuple #[]) ∧ (r.length = z5E.length) ∧ Hp (fps [row (.slice zaF z5E.length zaG) 28 2 (z5E.flatMap e28)]) w₀ w' [row (.slice zaF r.length zaG) 28 2 (r.flatMap e28)]:=by
 obtain ⟨h0,h⟩:=chk_elim h
 obtain ⟨h1,h⟩:=chk_elim h
 have hr:=(Option.some.inj h).symm
 exact sort_func (P:=Try.prog) (f:=74) (e:=28) (k:=2) (enc:=e28) (fun _=>rfl) (by decide) e28_oc (fun β _ enc cf g cb hO blk off cap d0 w0 eg hC R=>Try.pdqsortCmpFunc_all_f74 2 srtA_74 srtZ_74 enc cf g cb hO blk off cap d0 w0 eg hC R) (Try.pdqsortCmpFunc_none_f74 (α:=Unit)) hz zrh zri h0 h1 hr hown
def m_slices_SortFunc_api_Rat_api_Rat (z2v : List z2) (zbP : z2 → z2 → Option Int) : Option (List z2) :=
 (m_bits_Len (u64 ((z2v.length : Nat) : Int))).bind fun zeS=>(m_slices_pdqsortCmpFunc_api_Rat z2v 0 ((z2v.length : Nat) : Int) zeS zbP).bind fun zeT=>some zeT
set_option maxRecDepth 20000 in
theorem w_slices_SortFunc_api_Rat_api_Rat (Z : Zp)  (z4x : Option Addr) (z4y : Nat) (z9U : FuncId) (zbQ : List Value) (z2v : List z2) (zbP : z2 → z2 → Option Int) (r : List z2) (w₀ : World) (hz : PZ (fps [row (.slice z4x z2v.length z4y) 28 2 (z2v.flatMap e28)]) w₀ Z)
  (zrj : ∀ args w,(callFunc z9U args).run Try.prog w = .ok (.enter z9U args) w)
  (zrk : ∀ w : World,PZ [] w Z → ∀ (x0 : z2) (x1 : z2) (r : Int),zbP x0 x1 = some r → Calls Try.prog z9U (([(.agg #[(.int .i64 x0.fN),(.int .i64 x0.fD)]),(.agg #[(.int .i64 x1.fN),(.int .i64 x1.fD)])] : List Value) ++ zbQ).toArray w fun e w'=>e = .returned (.int .i64 r) ∧ Hp [] w w' [])
  (h : m_slices_SortFunc_api_Rat_api_Rat z2v zbP = some r)
  (hown : Hp (fps [row (.slice z4x z2v.length z4y) 28 2 (z2v.flatMap e28)]) w₀ w₀ [row (.slice z4x z2v.length z4y) 28 2 (z2v.flatMap e28)]) :
  Calls Try.prog 48 #[(.slice z4x z2v.length z4y),(.func (.func z9U) #[] (zbQ).toArray)] w₀ fun e w'=>e = .returned (.tuple #[]) ∧ (r.length = z2v.length) ∧ Hp (fps [row (.slice z4x z2v.length z4y) 28 2 (z2v.flatMap e28)]) w₀ w' [row (.slice z4x r.length z4y) 28 2 (r.flatMap e28)]:=by
 unfold m_slices_SortFunc_api_Rat_api_Rat at h
 refine Calls.ofWC (vs:=[(.slice z4x z2v.length z4y),(.func (.func z9U) #[] (zbQ).toArray)]) (pre:=[row (.slice z4x z2v.length z4y) 28 2 (z2v.flatMap e28)]) (env:=[(0,(.slice z4x z2v.length z4y)),(1,(.func (.func z9U) #[] (zbQ).toArray))]) Try.func48 rfl Try.ntmps48 rfl (hown) rfl ?_
 refine WC.seq ?_
 refine WC.region ?_
 refine WL.quiet (d:=5) rfl rfl rfl (q_move rfl) ?_
 refine WL.quiet (d:=6) rfl rfl rfl (q_len Try.underlying44 rfl) ?_
 refine WL.quiet (d:=4) rfl rfl rfl (q_assign rfl) ?_
 refine WL.nil ?_
 refine WX.then ?_
 obtain ⟨zeS,zrl,h⟩:=zb h
 obtain ⟨zeT,zrm,h⟩:=zb h
 refine WC.region ?_
 refine WL.quiet (d:=7) rfl rfl rfl (q_move rfl) ?_
 refine WL.quiet (d:=8) rfl rfl rfl (q_move rfl) ?_
 refine WL.quiet (d:=9) rfl rfl rfl (q_move rfl) ?_
 refine WL.quiet (d:=10) rfl rfl rfl (q_conv Try.underlying3 Try.underlying102 rfl rfl) ?_
 refine WL.callD (dd:=11) rfl rfl rfl (zg (l:=[.tmp 10]) Try.call75 (.cons rfl .nil)) (.nil : Sel [row (.slice z4x z2v.length z4y) 28 2 (z2v.flatMap e28)] [] [row (.slice z4x z2v.length z4y) 28 2 (z2v.flatMap e28)]) (fun w hw=>by have pz:=(hz.call hw (.nil : Sel [row (.slice z4x z2v.length z4y) 28 2 (z2v.flatMap e28)] [] [row (.slice z4x z2v.length z4y) 28 2 (z2v.flatMap e28)])); exact w_bits_Len (Z:=_)  (z8z:=(u64 ((z2v.length : Nat) : Int))) (r:=zeS) w pz  zrl) ?_
 refine WL.quiet (d:=12) rfl rfl rfl (q_move rfl) ?_
 refine WL.enter0 (dd:=13) rfl rfl rfl (zg (l:=[.tmp 7,.const (.int .i64 0),.tmp 8,.tmp 11,.tmp 12]) Try.call74 (.cons rfl (.cons rfl (.cons rfl (.cons rfl (.cons rfl .nil)))))) ((.cons .here .nil) : Sel [row (.slice z4x z2v.length z4y) 28 2 (z2v.flatMap e28)] [row (.slice z4x z2v.length z4y) 28 2 (z2v.flatMap e28)] []) (fun w hw=>by have pz:=(hz.call hw ((.cons .here .nil) : Sel [row (.slice z4x z2v.length z4y) 28 2 (z2v.flatMap e28)] [row (.slice z4x z2v.length z4y) 28 2 (z2v.flatMap e28)] [])); exact w_slices_pdqsortCmpFunc_api_Rat (Z:=_) (zaF:=z4x) (zaG:=z4y) (zdw:=z9U) (zhw:=zbQ) (z5E:=z2v) (zdu:=0) (zdv:=((z2v.length : Nat) : Int)) (zbO:=zeS) (zaE:=zbP) (r:=zeT) w pz zrj zrk zrm (hw.owns ((.cons .here .nil) : Sel [row (.slice z4x z2v.length z4y) 28 2 (z2v.flatMap e28)] [row (.slice z4x z2v.length z4y) 28 2 (z2v.flatMap e28)] []))) ?_
 rintro  zmm
 refine WL.repin (i:=0) rfl (u:=(.slice z4x zeT.length z4y)) (slen zmm.symm) ?_
 refine WL.nil ?_
 obtain rfl:=Option.some.inj h
 refine WX.bpNormal Try.results48 .nil (fun w hw=>?_)
 exact ⟨ret0,(zmm.trans rfl),hw.sub (.cons .here .nil)⟩
def m_slices_Compact_api_Rat_api_Rat_L4 (z1v : List z2) (zY : Int) (z8F : (List z2) → Int → Option (List z2)) : Nat → (List z2) → Int → Int → Option (List z2)
 | 0,_,_,_=>none
 | zhx + 1,z1R,z4z,k2_13992=>if decide (k2_13992 < ((z1v.length - (zY : Int).toNat : Nat) : Int)) then jp2 (fun (z72 : List z2) (z8G : Int)=>m_slices_Compact_api_Rat_api_Rat_L4 z1v zY z8F zhx z72 z8G (i64 (k2_13992 + 1))) fun zeU=>chk ((0 : Int) ≤ k2_13992 ∧ k2_13992 < ((z1v.length - (zY : Int).toNat : Nat) : Int)) (chk ((0 : Int) ≤ (i64 (k2_13992 - 1)) ∧ (i64 (k2_13992 - 1)) < ((z1v.length - (zY : Int).toNat : Nat) : Int)) (if decide ((⟨((nth z1R (zY + k2_13992)).fN),((nth z1R (zY + k2_13992)).fD)⟩ : z2) ≠ (⟨((nth z1R (zY + (i64 (k2_13992 - 1)))).fN),((nth z1R (zY + (i64 (k2_13992 - 1)))).fD)⟩ : z2)) then chk ((0 : Int) ≤ k2_13992 ∧ k2_13992 < ((z1v.length - (zY : Int).toNat : Nat) : Int)) (chk ((0 : Int) ≤ z4z ∧ z4z < ((z1R.length : Nat) : Int)) (zeU (z1R.set (z4z : Int).toNat (⟨((nth z1R (zY + k2_13992)).fN),((nth z1R (zY + k2_13992)).fD)⟩ : z2)) (i64 (z4z + 1)))) else zeU z1R z4z)) else z8F z1R z4z
theorem m_slices_Compact_api_Rat_api_Rat_L4_fuel {n : Nat} {z1v : List z2} {zY : Int} {z8F : (List z2) → Int → Option (List z2)} {z1R : List z2} {z4z : Int} {k2_13992 : Int} {r : List z2} (h : m_slices_Compact_api_Rat_api_Rat_L4 z1v zY z8F n z1R z4z k2_13992 = some r) : ∃ m,n = m + 1:=by
 cases n with
 | zero=>cases h
 | succ m=>exact ⟨m,rfl⟩
def m_slices_Compact_api_Rat_api_Rat_L3 (z1v : List z2) (z8H : Option (List z2)) : Nat → Int → Option (List z2)
 | 0,_=>none
 | zhy + 1,zY=>if decide (zY < ((z1v.length : Nat) : Int)) then jp0 (m_slices_Compact_api_Rat_api_Rat_L3 z1v z8H zhy (i64 (zY + 1))) fun zhz=>chk ((0 : Int) ≤ zY ∧ zY < ((z1v.length : Nat) : Int)) (chk ((0 : Int) ≤ (i64 (zY - 1)) ∧ (i64 (zY - 1)) < ((z1v.length : Nat) : Int)) (if decide ((⟨((nth z1v zY).fN),((nth z1v zY).fD)⟩ : z2) = (⟨((nth z1v (i64 (zY - 1))).fN),((nth z1v (i64 (zY - 1))).fD)⟩ : z2)) then chk ((0 : Int) ≤ zY ∧ zY < ((z1v.length : Nat) : Int)) (jp2 (fun (z4A : List z2) (z4B : Int)=>chk ((0 : Int) ≤ z4B ∧ z4B ≤ ((z4A.length : Nat) : Int)) (chk ((0 : Int) ≤ z4B ∧ z4B ≤ (((z4A.take (z4B : Int).toNat ++ List.replicate (z4A.length - (z4B : Int).toNat) ((⟨0,0⟩ : z2) : z2)).length : Nat) : Int)) (some ((z4A.take (z4B : Int).toNat ++ List.replicate (z4A.length - (z4B : Int).toNat) ((⟨0,0⟩ : z2) : z2)).take (z4B : Int).toNat)))) fun z8F=>m_slices_Compact_api_Rat_api_Rat_L4 z1v zY z8F FUEL z1v zY 1) else zhz)) else z8H
theorem m_slices_Compact_api_Rat_api_Rat_L3_fuel {n : Nat} {z1v : List z2} {z8H : Option (List z2)} {zY : Int} {r : List z2} (h : m_slices_Compact_api_Rat_api_Rat_L3 z1v z8H n zY = some r) : ∃ m,n = m + 1:=by
 cases n with
 | zero=>cases h
 | succ m=>exact ⟨m,rfl⟩
def m_slices_Compact_api_Rat_api_Rat (z1v : List z2) : Option (List z2) :=
 if decide (((z1v.length : Nat) : Int) < 2) then some z1v else jp0 (some z1v) fun z8H=>m_slices_Compact_api_Rat_api_Rat_L3 z1v z8H FUEL 1
set_option maxRecDepth 20000 in
theorem w_slices_Compact_api_Rat_api_Rat (Z : Zp)  (z7A : Option Addr) (z7B : Nat) (z1v : List z2) (r : List z2) (w₀ : World) (hz : PZ (fps [row (.slice z7A z1v.length z7B) 28 2 (z1v.flatMap e28)]) w₀ Z)
  (h : m_slices_Compact_api_Rat_api_Rat z1v = some r)
  (hown : Hp (fps [row (.slice z7A z1v.length z7B) 28 2 (z1v.flatMap e28)]) w₀ w₀ [row (.slice z7A z1v.length z7B) 28 2 (z1v.flatMap e28)]) :
  Calls Try.prog 49 #[(.slice z7A z1v.length z7B)] w₀ fun e w'=>∃ zmn : Option Addr,∃ zmo : Nat,e = .returned (.slice zmn r.length zmo) ∧ True ∧ Hp (fps [row (.slice z7A z1v.length z7B) 28 2 (z1v.flatMap e28)]) w₀ w' [row (.slice zmn r.length zmo) 28 2 (r.flatMap e28)]:=by
 unfold m_slices_Compact_api_Rat_api_Rat at h
 refine Calls.ofWC (vs:=[(.slice z7A z1v.length z7B)]) (pre:=[row (.slice z7A z1v.length z7B) 28 2 (z1v.flatMap e28)]) (env:=[(0,(.slice z7A z1v.length z7B))]) Try.func49 rfl Try.ntmps49 rfl (hown) rfl ?_
 refine WC.seq ?_
 refine WC.region ?_
 refine WL.quiet (d:=2) rfl rfl rfl (q_assign rfl) ?_
 refine WL.nil ?_
 refine WX.then ?_
 refine WC.seq ?_
 refine WC.seq ?_
 refine WC.region ?_
 refine WL.quiet (d:=6) rfl rfl rfl (q_move rfl) ?_
 refine WL.quiet (d:=7) rfl rfl rfl (q_len Try.underlying44 rfl) ?_
 refine WL.quiet (d:=8) rfl rfl rfl (q_lss rfl rfl) ?_
 refine WL.nil ?_
 refine WX.then ?_
 refine WC.cond rfl (fun zhA=>?_) (fun zhA=>?_)
 ·replace h:=ite_t h zhA
  refine WC.seq ?_
  refine WC.region ?_
  refine WL.quiet (d:=9) rfl rfl rfl (q_move rfl) ?_
  refine WL.quiet (d:=2) rfl rfl rfl (q_assign rfl) ?_
  refine WL.nil ?_
  refine WX.then ?_
  refine WC.ret ?_
  refine WX.thenRet ?_
  obtain rfl:=Option.some.inj h
  refine WX.bpRet Try.results49 (.tmp rfl .nil) (fun w hw=>?_)
  exact ⟨z7A,z7B,ret1 rfl,trivial,hw.sub (.cons .here .nil)⟩
 ·replace h:=ite_f h zhA
  refine WC.skip ?_
  refine WX.then ?_
  obtain ⟨z8H,zrn,h⟩:=jp0_elim h
  refine WC.seqMid2 (fun (zbR : Option Addr) (zbS : Nat)=>(z8H = some r)) (fun (zbR : Option Addr) (zbS : Nat)=>[(0,(.slice zbR z1v.length zbS))]) (fun (zbR : Option Addr) (zbS : Nat)=>[row (.slice zbR z1v.length zbS) 28 2 (z1v.flatMap e28)]) ?_ ?_
  ·skip
   refine WC.seq ?_
   refine WC.region ?_
   refine WL.quiet (d:=3) rfl rfl rfl (q_assign rfl) ?_
   refine WL.nil ?_
   refine WX.then ?_
   refine WC.block ?_
   refine WC.loop4 (fun (zbT : Nat) (zY : Int) (zaH : Option Addr) (z56 : Nat)=>(m_slices_Compact_api_Rat_api_Rat_L3 z1v z8H zbT zY = some r)) (fun (zbT : Nat) (zY : Int) (zaH : Option Addr) (z56 : Nat)=>[(0,(.slice zaH z1v.length z56)),(3,(.int .i64 zY))]) (fun (zbT : Nat) (zY : Int) (zaH : Option Addr) (z56 : Nat)=>[row (.slice zaH z1v.length z56) 28 2 (z1v.flatMap e28)]) (fun (zbT : Nat) (zY : Int) (zaH : Option Addr) (z56 : Nat)=>zbT) ⟨FUEL,1,z7A,z7B⟩ h (.cons rfl (.cons rfl .nil)) (.cons .here .nil) ?_
   rintro zbT zY zaH z56 h
   obtain ⟨zhy,rfl⟩:=m_slices_Compact_api_Rat_api_Rat_L3_fuel h
   rw [m_slices_Compact_api_Rat_api_Rat_L3] at h
   refine WC.seq ?_
   refine WC.seq ?_
   refine WC.region ?_
   refine WL.quiet (d:=10) rfl rfl rfl (q_move rfl) ?_
   refine WL.quiet (d:=11) rfl rfl rfl (q_move rfl) ?_
   refine WL.quiet (d:=12) rfl rfl rfl (q_len Try.underlying44 rfl) ?_
   refine WL.quiet (d:=13) rfl rfl rfl (q_lss rfl rfl) ?_
   refine WL.nil ?_
   refine WX.then ?_
   refine WC.cond rfl (fun zhB=>?_) (fun zhB=>?_)
   ·replace h:=ite_t h zhB
    refine WC.skip ?_
    refine WX.then ?_
    obtain ⟨zhz,zro,h⟩:=jp0_elim h
    refine WC.seqMid2 (fun (zbU : Option Addr) (zbV : Nat)=>(zhz = some r)) (fun (zbU : Option Addr) (zbV : Nat)=>[(0,(.slice zbU z1v.length zbV)),(3,(.int .i64 zY))]) (fun (zbU : Option Addr) (zbV : Nat)=>[row (.slice zbU z1v.length zbV) 28 2 (z1v.flatMap e28)]) ?_ ?_
    ·skip
     refine WC.block ?_
     refine WC.seq ?_
     obtain ⟨zdx,h⟩:=chk_elim h
     obtain ⟨zeV,h⟩:=chk_elim h
     refine WC.draw (fun i=>[].contains i) [] rfl ?_
     refine WD.pure (i:=0) (d:=16) (by kernel_rfl) rfl (z6 (by kernel_rfl)) (z7 (by kernel_rfl)) rfl rfl rfl (fun _=>q_move rfl) ?_
     refine WD.pure (i:=1) (d:=17) (by kernel_rfl) rfl (z6 (by kernel_rfl)) (z7 (by kernel_rfl)) rfl rfl rfl (fun _=>q_move rfl) ?_
     refine WD.know (fun w hw=>Hp.expose .here hw (by intro hz'; have:=zdx; rw [hz'] at this; omega)) ?_
     rintro ⟨z6H,rfl⟩
     refine WD.pure (i:=2) (d:=18) (by kernel_rfl) rfl (z6 (by kernel_rfl)) (z7 (by kernel_rfl)) rfl rfl rfl (fun _=>q_indexAddr elT_44 rfl rfl zdx.1 zdx.2 rowAdd) ?_
     refine WD.quiet (i:=3) (d:=19) (by kernel_rfl) rfl (z6 (by kernel_rfl)) (z7 (by kernel_rfl)) rfl rfl rfl (q_loadA (cs:=(e28 (nth z1v zY))) aggT_28 rfl rfl (rd_rows .here (flat_rd (enc:=e28) (l:=z1v) (i:=zY) (sz:=2) (fun _=>rfl) zdx.1 zdx.2))) ?_
     refine WD.pure (i:=4) (d:=20) (by kernel_rfl) rfl (z6 (by kernel_rfl)) (z7 (by kernel_rfl)) rfl rfl rfl (fun _=>q_move rfl) ?_
     refine WD.pure (i:=5) (d:=21) (by kernel_rfl) rfl (z6 (by kernel_rfl)) (z7 (by kernel_rfl)) rfl rfl rfl (fun _=>q_move rfl) ?_
     refine WD.pure (i:=6) (d:=22) (by kernel_rfl) rfl (z6 (by kernel_rfl)) (z7 (by kernel_rfl)) rfl rfl rfl (fun _=>q_sub rfl rfl rfl) ?_
     refine WD.pure (i:=7) (d:=23) (by kernel_rfl) rfl (z6 (by kernel_rfl)) (z7 (by kernel_rfl)) rfl rfl rfl (fun _=>q_indexAddr elT_44 rfl rfl zeV.1 zeV.2 rowAdd) ?_
     refine WD.quiet (i:=8) (d:=24) (by kernel_rfl) rfl (z6 (by kernel_rfl)) (z7 (by kernel_rfl)) rfl rfl rfl (q_loadA (cs:=(e28 (nth z1v (i64 (zY - 1))))) aggT_28 rfl rfl (rd_rows .here (flat_rd (enc:=e28) (l:=z1v) (i:=i64 (zY - 1)) (sz:=2) (fun _=>rfl) zeV.1 zeV.2))) ?_
     refine WD.pure (i:=9) (d:=25) (by kernel_rfl) rfl (z6 (by kernel_rfl)) (z7 (by kernel_rfl)) rfl rfl rfl (fun _=>q_aggeql (enc:=e28) (a:=(⟨((nth z1v zY).fN),((nth z1v zY).fD)⟩ : z2)) (b:=(⟨((nth z1v (i64 (zY - 1))).fN),((nth z1v (i64 (zY - 1))).fD)⟩ : z2)) eqT_28 rfl rfl) ?_
     refine WD.done (by kernel_rfl) ?_
     refine WX.then ?_
     refine WC.cond rfl (fun zhC=>?_) (fun zhC=>?_)
     ·replace h:=ite_t h zhC
      refine WC.seq ?_
      obtain ⟨zaI,h⟩:=chk_elim h
      refine WC.region ?_
      refine WL.quiet (d:=26) rfl rfl rfl (q_move rfl) ?_
      refine WL.quiet (d:=27) rfl rfl rfl (q_move rfl) ?_
      refine WL.rowLoX (dd:=28) rfl rfl elT_44 rfl rfl .here zaI ?_
      refine WL.quiet (d:=4) rfl rfl rfl (q_assign rfl) ?_
      refine WL.nil ?_
      refine WX.then ?_
      obtain ⟨z8F,zrp,h⟩:=jp2_elim h
      refine WC.seqMid2 (fun (z4A : List z2) (z4B : Int)=>(z8F z4A z4B = some r) ∧ (z4A.length = z1v.length)) (fun (z4A : List z2) (z4B : Int)=>[(0,(.slice (some ⟨z6H,0,none⟩) z4A.length z56)),(3,(.int .i64 z4B))]) (fun (z4A : List z2) (z4B : Int)=>[row (.slice (some ⟨z6H,0,none⟩) z4A.length z56) 28 2 (z4A.flatMap e28)]) ?_ ?_
      ·skip
       refine WC.seq ?_
       refine WC.region ?_
       refine WL.quiet (d:=5) rfl rfl rfl (q_assign rfl) ?_
       refine WL.nil ?_
       refine WX.then ?_
       refine WC.block ?_
       refine WC.loop4 (fun (zbW : Nat) (z1R : List z2) (z4z : Int) (k2_13992 : Int)=>(m_slices_Compact_api_Rat_api_Rat_L4 z1v zY z8F zbW z1R z4z k2_13992 = some r) ∧ (z1R.length = z1v.length)) (fun (zbW : Nat) (z1R : List z2) (z4z : Int) (k2_13992 : Int)=>[(0,(.slice (some ⟨z6H,0,none⟩) z1R.length z56)),(3,(.int .i64 z4z)),(4,(.slice (some ⟨z6H,(zY : Int).toNat * 2,none⟩) (z1v.length - (zY : Int).toNat) (z56 - (zY : Int).toNat))),(5,(.int .i64 k2_13992))]) (fun (zbW : Nat) (z1R : List z2) (z4z : Int) (k2_13992 : Int)=>[row (.slice (some ⟨z6H,0,none⟩) z1R.length z56) 28 2 (z1R.flatMap e28)]) (fun (zbW : Nat) (z1R : List z2) (z4z : Int) (k2_13992 : Int)=>zbW) ⟨FUEL,z1v,zY,1⟩ ⟨h,rfl⟩ (.cons rfl (.cons rfl (.cons rfl (.cons rfl .nil)))) (.cons .here .nil) ?_
       rintro zbW z1R z4z k2_13992 ⟨h,zbX⟩
       obtain ⟨zhx,rfl⟩:=m_slices_Compact_api_Rat_api_Rat_L4_fuel h
       rw [m_slices_Compact_api_Rat_api_Rat_L4] at h
       refine WC.seq ?_
       refine WC.seq ?_
       refine WC.region ?_
       refine WL.quiet (d:=29) rfl rfl rfl (q_move rfl) ?_
       refine WL.quiet (d:=30) rfl rfl rfl (q_move rfl) ?_
       refine WL.quiet (d:=31) rfl rfl rfl (q_len Try.underlying44 rfl) ?_
       refine WL.quiet (d:=32) rfl rfl rfl (q_lss rfl rfl) ?_
       refine WL.nil ?_
       refine WX.then ?_
       refine WC.cond rfl (fun zhD=>?_) (fun zhD=>?_)
       ·replace h:=ite_t h zhD
        refine WC.skip ?_
        refine WX.then ?_
        obtain ⟨zeU,zrq,h⟩:=jp2_elim h
        refine WC.seqMid2 (fun (z72 : List z2) (z8G : Int)=>(zeU z72 z8G = some r) ∧ (z72.length = z1v.length)) (fun (z72 : List z2) (z8G : Int)=>[(0,(.slice (some ⟨z6H,0,none⟩) z72.length z56)),(3,(.int .i64 z8G)),(4,(.slice (some ⟨z6H,(zY : Int).toNat * 2,none⟩) (z1v.length - (zY : Int).toNat) (z56 - (zY : Int).toNat))),(5,(.int .i64 k2_13992))]) (fun (z72 : List z2) (z8G : Int)=>[row (.slice (some ⟨z6H,0,none⟩) z72.length z56) 28 2 (z72.flatMap e28)]) ?_ ?_
        ·skip
         refine WC.block ?_
         refine WC.seq ?_
         obtain ⟨zeW,h⟩:=chk_elim h
         obtain ⟨zeX,h⟩:=chk_elim h
         refine WC.draw (fun i=>[].contains i) [] rfl ?_
         refine WD.pure (i:=0) (d:=35) (by kernel_rfl) rfl (z6 (by kernel_rfl)) (z7 (by kernel_rfl)) rfl rfl rfl (fun _=>q_move rfl) ?_
         refine WD.pure (i:=1) (d:=36) (by kernel_rfl) rfl (z6 (by kernel_rfl)) (z7 (by kernel_rfl)) rfl rfl rfl (fun _=>q_move rfl) ?_
         have zmp : (0 : Int) ≤ zY + k2_13992 ∧ zY + k2_13992 < ((z1R.length : Nat) : Int):=by have h1:=zbX; have h2:=zaI; have h3:=zeW; omega
         refine WD.pure (i:=2) (d:=37) (by kernel_rfl) rfl (z6 (by kernel_rfl)) (z7 (by kernel_rfl)) rfl rfl rfl (fun _=>q_indexAddr elT_44 rfl rfl zeW.1 zeW.2 (aliasAdd zaI.1 zeW.1)) ?_
         refine WD.quiet (i:=3) (d:=38) (by kernel_rfl) rfl (z6 (by kernel_rfl)) (z7 (by kernel_rfl)) rfl rfl rfl (q_loadA (cs:=(e28 (nth z1R (zY + k2_13992)))) aggT_28 rfl rfl (rd_rows .here (flat_rd (enc:=e28) (l:=z1R) (i:=zY + k2_13992) (sz:=2) (fun _=>rfl) zmp.1 zmp.2))) ?_
         refine WD.pure (i:=4) (d:=39) (by kernel_rfl) rfl (z6 (by kernel_rfl)) (z7 (by kernel_rfl)) rfl rfl rfl (fun _=>q_move rfl) ?_
         refine WD.pure (i:=5) (d:=40) (by kernel_rfl) rfl (z6 (by kernel_rfl)) (z7 (by kernel_rfl)) rfl rfl rfl (fun _=>q_move rfl) ?_
         refine WD.pure (i:=6) (d:=41) (by kernel_rfl) rfl (z6 (by kernel_rfl)) (z7 (by kernel_rfl)) rfl rfl rfl (fun _=>q_sub rfl rfl rfl) ?_
         have zmq : (0 : Int) ≤ zY + (i64 (k2_13992 - 1)) ∧ zY + (i64 (k2_13992 - 1)) < ((z1R.length : Nat) : Int):=by have h1:=zbX; have h2:=zaI; have h3:=zeX; omega
         refine WD.pure (i:=7) (d:=42) (by kernel_rfl) rfl (z6 (by kernel_rfl)) (z7 (by kernel_rfl)) rfl rfl rfl (fun _=>q_indexAddr elT_44 rfl rfl zeX.1 zeX.2 (aliasAdd zaI.1 zeX.1)) ?_
         refine WD.quiet (i:=8) (d:=43) (by kernel_rfl) rfl (z6 (by kernel_rfl)) (z7 (by kernel_rfl)) rfl rfl rfl (q_loadA (cs:=(e28 (nth z1R (zY + (i64 (k2_13992 - 1)))))) aggT_28 rfl rfl (rd_rows .here (flat_rd (enc:=e28) (l:=z1R) (i:=zY + (i64 (k2_13992 - 1))) (sz:=2) (fun _=>rfl) zmq.1 zmq.2))) ?_
         refine WD.pure (i:=9) (d:=44) (by kernel_rfl) rfl (z6 (by kernel_rfl)) (z7 (by kernel_rfl)) rfl rfl rfl (fun _=>q_aggneq (enc:=e28) (a:=(⟨((nth z1R (zY + k2_13992)).fN),((nth z1R (zY + k2_13992)).fD)⟩ : z2)) (b:=(⟨((nth z1R (zY + (i64 (k2_13992 - 1)))).fN),((nth z1R (zY + (i64 (k2_13992 - 1)))).fD)⟩ : z2)) eqT_28 rfl rfl) ?_
         refine WD.done (by kernel_rfl) ?_
         refine WX.then ?_
         refine WC.cond rfl (fun zhE=>?_) (fun zhE=>?_)
         ·replace h:=ite_t h zhE
          refine WC.seq ?_
          obtain ⟨zeY,h⟩:=chk_elim h
          obtain ⟨zbY,h⟩:=chk_elim h
          refine WC.region ?_
          refine WL.quiet (d:=45) rfl rfl rfl (q_move rfl) ?_
          refine WL.quiet (d:=46) rfl rfl rfl (q_move rfl) ?_
          refine WL.quiet (d:=47) rfl rfl rfl (q_move rfl) ?_
          refine WL.quiet (d:=48) rfl rfl rfl (q_move rfl) ?_
          have zmr : (0 : Int) ≤ zY + k2_13992 ∧ zY + k2_13992 < ((z1R.length : Nat) : Int):=by have h1:=zbX; have h2:=zaI; have h3:=zeY; omega
          refine WL.quiet (d:=49) rfl rfl rfl (q_indexAddr elT_44 rfl rfl zeY.1 zeY.2 (aliasAdd zaI.1 zeY.1)) ?_
          refine WL.quiet (d:=50) rfl rfl rfl (q_loadA (cs:=(e28 (nth z1R (zY + k2_13992)))) aggT_28 rfl rfl (rd_rows .here (flat_rd (enc:=e28) (l:=z1R) (i:=zY + k2_13992) (sz:=2) (fun _=>rfl) zmr.1 zmr.2))) ?_
          refine WL.quiet (d:=51) rfl rfl rfl (q_indexAddr elT_44 rfl rfl zbY.1 zbY.2 rowAdd) ?_
          refine WL.eff0 rfl rfl (e_rowStore (vs:=[(.int .i64 ((nth z1R (zY + k2_13992)).fN)),(.int .i64 ((nth z1R (zY + k2_13992)).fD))]) (ds:=(z1R.set (z4z : Int).toNat (⟨((nth z1R (zY + k2_13992)).fN),((nth z1R (zY + k2_13992)).fD)⟩ : z2)).flatMap e28) sizT_28 rfl rfl rfl rfl (oc_cons rfl (oc_cons rfl oc_nil)) .here (flat_fit (enc:=e28) (sz:=2) (k:=0) (fun _=>rfl) zbY.1 zbY.2 (by decide)) (flat_put (enc:=e28) (l:=z1R) (sz:=2) (vs:=[(.int .i64 ((nth z1R (zY + k2_13992)).fN)),(.int .i64 ((nth z1R (zY + k2_13992)).fD))]) (y:=(⟨((nth z1R (zY + k2_13992)).fN),((nth z1R (zY + k2_13992)).fD)⟩ : z2)) (k:=0) (fun _=>rfl) zbY.1 zbY.2 rfl (Nat.le_of_ble_eq_true rfl))) ?_
          refine WL.relen .here (u:=(.slice (some ⟨z6H,0,none⟩) ((z1R.set (z4z : Int).toNat (⟨((nth z1R (zY + k2_13992)).fN),((nth z1R (zY + k2_13992)).fD)⟩ : z2)).length) z56)) (slen (List.length_set).symm) ?_
          refine WL.repin (i:=0) rfl (u:=(.slice (some ⟨z6H,0,none⟩) ((z1R.set (z4z : Int).toNat (⟨((nth z1R (zY + k2_13992)).fN),((nth z1R (zY + k2_13992)).fD)⟩ : z2)).length) z56)) (slen (List.length_set).symm) ?_
          refine WL.nil ?_
          refine WX.then ?_
          refine WC.region ?_
          refine WL.quiet (d:=52) rfl rfl rfl (q_move rfl) ?_
          refine WL.quiet (d:=53) rfl rfl rfl (q_add rfl rfl rfl) ?_
          refine WL.quiet (d:=3) rfl rfl rfl (q_assign rfl) ?_
          refine WL.nil ?_
          refine WX.blockNormal ?_
          exact WX.mid (G:=List z2 × Int) ⟨(z1R.set (z4z : Int).toNat (⟨((nth z1R (zY + k2_13992)).fN),((nth z1R (zY + k2_13992)).fD)⟩ : z2)),(i64 (z4z + 1))⟩ ⟨h,((List.length_set).trans zbX)⟩ (.cons rfl (.cons rfl (.cons rfl (.cons rfl .nil)))) (.cons .here .nil)
         ·replace h:=ite_f h zhE
          refine WC.skip ?_
          refine WX.blockNormal ?_
          exact WX.mid (G:=List z2 × Int) ⟨z1R,z4z⟩ ⟨h,zbX⟩ (.cons rfl (.cons rfl (.cons rfl (.cons rfl .nil)))) (.cons .here .nil)
        ·rintro z72 z8G ⟨h,zrr⟩
         replace h:=(zrq z72 z8G).symm.trans h
         refine WC.region ?_
         refine WL.quiet (d:=33) rfl rfl rfl (q_move rfl) ?_
         refine WL.quiet (d:=34) rfl rfl rfl (q_add rfl rfl rfl) ?_
         refine WL.quiet (d:=5) rfl rfl rfl (q_assign rfl) ?_
         refine WL.nil ?_
         exact WX.round (G:=Nat × List z2 × Int × Int) ⟨zhx,z72,z8G,(i64 (k2_13992 + 1))⟩ ⟨h,zrr⟩ (Nat.lt_succ_self _) (.cons rfl (.cons rfl (.cons rfl (.cons rfl .nil)))) (.cons .here .nil)
       ·replace h:=ite_f h zhD
        refine WC.exit ?_
        refine WX.thenExit ?_
        refine WX.thenExit ?_
        refine WX.blockHit ?_
        exact WX.mid (G:=List z2 × Int) ⟨z1R,z4z⟩ ⟨h,zbX⟩ (.cons rfl (.cons rfl .nil)) (.cons .here .nil)
      ·rintro z4A z4B ⟨h,zxC⟩
       replace h:=(zrp z4A z4B).symm.trans h
       refine WC.seq ?_
       obtain ⟨zeZ,h⟩:=chk_elim h
       refine WC.region ?_
       refine WL.quiet (d:=54) rfl rfl rfl (q_move rfl) ?_
       refine WL.quiet (d:=55) rfl rfl rfl (q_move rfl) ?_
       refine WL.rowLoD (dd:=56) rfl rfl elT_44 rfl rfl .here zeZ ?_
       intro zxD zxE zrs
       refine WL.eff0 rfl rfl (e_clearTailD (enc:=e28) (z0:=((⟨0,0⟩ : z2) : z2)) (l:=z4A) elT_44 zeroT_28 rfl zrs zeZ (fun _=>rfl) (by decide) rfl e28_oc .here) ?_
       refine WL.relen .here (u:=(.slice (some ⟨z6H,0,none⟩) ((z4A.take (z4B : Int).toNat ++ List.replicate (z4A.length - (z4B : Int).toNat) ((⟨0,0⟩ : z2) : z2)).length) z56)) (slen (take_rep_len zeZ).symm) ?_
       refine WL.repin (i:=0) rfl (u:=(.slice (some ⟨z6H,0,none⟩) ((z4A.take (z4B : Int).toNat ++ List.replicate (z4A.length - (z4B : Int).toNat) ((⟨0,0⟩ : z2) : z2)).length) z56)) (slen (take_rep_len zeZ).symm) ?_
       refine WL.nil ?_
       refine WX.then ?_
       refine WC.seq ?_
       obtain ⟨zrt,h⟩:=chk_elim h
       refine WC.region ?_
       refine WL.quiet (d:=57) rfl rfl rfl (q_move rfl) ?_
       refine WL.quiet (d:=58) rfl rfl rfl (q_move rfl) ?_
       refine WL.rowHiD (dd:=59) (enc:=e28) (ls:=z4A.take (z4B : Int).toNat ++ List.replicate (z4A.length - (z4B : Int).toNat) ((⟨0,0⟩ : z2) : z2)) rfl rfl elT_44 rfl rfl .here (fun _=>rfl) zrt ?_
       intro zru zrv
       refine WL.quiet (d:=2) rfl rfl rfl (q_assign rfl) ?_
       refine WL.nil ?_
       refine WX.then ?_
       refine WC.ret ?_
       refine WX.blockRet ?_
       refine WX.thenRet ?_
       refine WX.thenRet ?_
       refine WX.blockRet ?_
       refine WX.thenRet ?_
       obtain rfl:=Option.some.inj h
       refine WX.bpRet Try.results49 (.tmp rfl .nil) (fun w hw=>?_)
       exact ⟨zru,zrv,ret1 rfl,trivial,hw.sub (.cons .here .nil)⟩
     ·replace h:=ite_f h zhC
      refine WC.skip ?_
      refine WX.blockNormal ?_
      exact WX.mid (G:=Option Addr × Nat) ⟨(some ⟨z6H,0,none⟩),z56⟩ h (.cons rfl (.cons rfl .nil)) (.cons .here .nil)
    ·rintro zbU zbV h
     replace h:=zro.symm.trans h
     refine WC.region ?_
     refine WL.quiet (d:=14) rfl rfl rfl (q_move rfl) ?_
     refine WL.quiet (d:=15) rfl rfl rfl (q_add rfl rfl rfl) ?_
     refine WL.quiet (d:=3) rfl rfl rfl (q_assign rfl) ?_
     refine WL.nil ?_
     exact WX.round (G:=Nat × Int × Option Addr × Nat) ⟨zhy,(i64 (zY + 1)),zbU,zbV⟩ h (Nat.lt_succ_self _) (.cons rfl (.cons rfl .nil)) (.cons .here .nil)
   ·replace h:=ite_f h zhB
    refine WC.exit ?_
    refine WX.thenExit ?_
    refine WX.thenExit ?_
    refine WX.blockHit ?_
    exact WX.mid (G:=Option Addr × Nat) ⟨zaH,z56⟩ h (.cons rfl .nil) (.cons .here .nil)
  ·rintro zbR zbS h
   replace h:=zrn.symm.trans h
   refine WC.seq ?_
   refine WC.region ?_
   refine WL.quiet (d:=60) rfl rfl rfl (q_move rfl) ?_
   refine WL.quiet (d:=2) rfl rfl rfl (q_assign rfl) ?_
   refine WL.nil ?_
   refine WX.then ?_
   refine WC.ret ?_
   obtain rfl:=Option.some.inj h
   refine WX.bpRet Try.results49 (.tmp rfl .nil) (fun w hw=>?_)
   exact ⟨zbR,zbS,ret1 rfl,trivial,hw.sub (.cons .here .nil)⟩
end Go.Proofs.Ytbihfglmcjkdhaa
