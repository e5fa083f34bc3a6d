/- A part of this claim's proof: models of functions, walks, plain laws. No conditions. -/
import Derived.Test.YtakfmdiiehcbdaaW03b
namespace Go.Proofs.Ytakfmdiiehcbdaa
open Go Go.RowKit Sep
set_option linter.all false
set_option maxRecDepth 30000
set_option maxHeartbeats 4000000
def m_rat_doc (zZ : z2) (z10 : z2) : Option (z2 × Int) :=
 (m_rat_Valid zZ).bind fun zg6=>(if !zg6 then some true else (m_rat_Valid z10).bind fun zjh=>some (!zjh)).bind fun zej=>if zej then some ((⟨0,0⟩ : z2),2) else (m_rat_do_1 zZ z10).bind fun zd0=>(m_rat_Make zd0.1 zd0.2).bind fun zar=>some (zar.1,zar.2)
set_option maxRecDepth 20000 in
theorem w_rat_doc (Z : Zp)   (zZ : z2) (z10 : z2) (r : z2 × Int) (w₀ : World) (hz : PZ [] w₀ Z)
  (h : m_rat_doc zZ z10 = some r) :
  Calls Try.prog 40 #[(.string ⟨#[43]⟩),(.agg #[(.int .i64 zZ.fN),(.int .i64 zZ.fD)]),(.agg #[(.int .i64 z10.fN),(.int .i64 z10.fD)])] w₀ fun e w'=>e = .returned (.tuple #[(.agg #[(.int .i64 r.1.fN),(.int .i64 r.1.fD)]),(.int .i64 r.2)]) ∧ Hp [] w₀ w' []:=by
 unfold m_rat_doc at h
 refine Calls.ofWC (vs:=[(.string ⟨#[43]⟩),(.agg #[(.int .i64 zZ.fN),(.int .i64 zZ.fD)]),(.agg #[(.int .i64 z10.fN),(.int .i64 z10.fD)])]) (pre:=[]) (env:=[(0,(.string ⟨#[43]⟩)),(1,(.agg #[(.int .i64 zZ.fN),(.int .i64 zZ.fD)])),(2,(.agg #[(.int .i64 z10.fN),(.int .i64 z10.fD)]))]) Try.func40 rfl Try.ntmps40 rfl (Hp.nil w₀ _) rfl ?_
 refine WC.seq ?_
 refine WC.region ?_
 refine WL.new (dd:=4) rfl rfl rfl (e_box (cs:=[(.int .i64 zZ.fN),(.int .i64 zZ.fD)]) rfl rfl) ?_
 intro zH _
 refine WL.new (dd:=5) rfl rfl rfl (e_box (cs:=[(.int .i64 z10.fN),(.int .i64 z10.fD)]) rfl rfl) ?_
 intro zI _
 refine WL.new (dd:=6) rfl rfl rfl (e_alloc (cs:=[(.int .i64 0),(.int .i64 0)]) zeroT_30 rfl) ?_
 intro z3Q _
 refine WL.quiet (d:=7) rfl rfl rfl (q_assign rfl) ?_
 refine WL.nil ?_
 refine WX.then ?_
 refine WC.seq ?_
 refine WC.seq ?_
 obtain ⟨zg6,zsA,h⟩:=ze h
 obtain ⟨zej,znI,h⟩:=ze h
 refine WC.region ?_
 refine WL.quiet (d:=9) rfl rfl rfl (q_loadA (cs:=[(.int .i64 zZ.fN),(.int .i64 zZ.fD)]) aggT_30 rfl rfl (rd_all (.there (.there .here)))) ?_
 refine WL.callD (dd:=10) rfl rfl rfl (zn (l:=[.tmp 9]) Try.call39 (.cons rfl .nil)) (.nil : Sel [stb z3Q 30 [(.int .i64 0),(.int .i64 0)],stb zI 30 [(.int .i64 z10.fN),(.int .i64 z10.fD)],stb zH 30 [(.int .i64 zZ.fN),(.int .i64 zZ.fD)]] [] [stb z3Q 30 [(.int .i64 0),(.int .i64 0)],stb zI 30 [(.int .i64 z10.fN),(.int .i64 z10.fD)],stb zH 30 [(.int .i64 zZ.fN),(.int .i64 zZ.fD)]]) (fun w hw=>by have pz:=(hz.call hw (.nil : Sel [stb z3Q 30 [(.int .i64 0),(.int .i64 0)],stb zI 30 [(.int .i64 z10.fN),(.int .i64 z10.fD)],stb zH 30 [(.int .i64 zZ.fN),(.int .i64 zZ.fD)]] [] [stb z3Q 30 [(.int .i64 0),(.int .i64 0)],stb zI 30 [(.int .i64 z10.fN),(.int .i64 z10.fD)],stb zH 30 [(.int .i64 zZ.fN),(.int .i64 zZ.fD)]])); exact w_rat_Valid (Z:=_)  (z16:=zZ) (r:=zg6) w pz  zsA) ?_
 refine WL.quiet (d:=11) rfl rfl rfl (q_not rfl) ?_
 refine WL.quiet (d:=12) rfl rfl rfl (q_move rfl) ?_
 refine WL.cut0 True [(0,(.string ⟨#[43]⟩)),(4,(.pointer (some ⟨zH,0,none⟩))),(5,(.pointer (some ⟨zI,0,none⟩))),(6,(.pointer (some ⟨z3Q,0,none⟩))),(16,(.bool zej))] [stb z3Q 30 [(.int .i64 0),(.int .i64 0)],stb zI 30 [(.int .i64 z10.fN),(.int .i64 z10.fD)],stb zH 30 [(.int .i64 zZ.fN),(.int .i64 zZ.fD)]] 4 ?_ (fun _=>?_)
 ·rcases Bool.eq_false_or_eq_true (!zg6) with hb' | hb'
  ·have znJ:=hb'; clear hb'
   have zji:=ite_t znI znJ
   replace zji:=Option.some.inj zji
   refine WL.pin (i:=12) rfl znJ ?_
   refine WL.skip rfl rfl rfl ?_
   refine WL.skip rfl rfl rfl ?_
   refine WL.skip rfl rfl rfl ?_
   refine WL.quiet (d:=16) rfl rfl rfl (q_pickT rfl rfl) ?_
   exact WL.cutEnd () trivial (.cons rfl (.cons rfl (.cons rfl (.cons rfl (.cons (zp zji) .nil))))) (.cons .here (.cons .here (.cons .here .nil)))
  ·have znK:=hb'; clear hb'
   have zek:=ite_f znI znK
   obtain ⟨zjh,zsB,zek⟩:=ze zek
   replace zek:=Option.some.inj zek
   refine WL.pin (i:=12) rfl znK ?_
   refine WL.quiet (d:=13) rfl rfl rfl (q_loadA (cs:=[(.int .i64 z10.fN),(.int .i64 z10.fD)]) aggT_30 rfl rfl (rd_all (.there .here))) ?_
   refine WL.callD (dd:=14) rfl rfl rfl (zn (l:=[.tmp 13]) Try.call39 (.cons rfl .nil)) (.nil : Sel [stb z3Q 30 [(.int .i64 0),(.int .i64 0)],stb zI 30 [(.int .i64 z10.fN),(.int .i64 z10.fD)],stb zH 30 [(.int .i64 zZ.fN),(.int .i64 zZ.fD)]] [] [stb z3Q 30 [(.int .i64 0),(.int .i64 0)],stb zI 30 [(.int .i64 z10.fN),(.int .i64 z10.fD)],stb zH 30 [(.int .i64 zZ.fN),(.int .i64 zZ.fD)]]) (fun w hw=>by have pz:=(hz.call hw (.nil : Sel [stb z3Q 30 [(.int .i64 0),(.int .i64 0)],stb zI 30 [(.int .i64 z10.fN),(.int .i64 z10.fD)],stb zH 30 [(.int .i64 zZ.fN),(.int .i64 zZ.fD)]] [] [stb z3Q 30 [(.int .i64 0),(.int .i64 0)],stb zI 30 [(.int .i64 z10.fN),(.int .i64 z10.fD)],stb zH 30 [(.int .i64 zZ.fN),(.int .i64 zZ.fD)]])); exact w_rat_Valid (Z:=_)  (z16:=z10) (r:=zjh) w pz  zsB) ?_
   refine WL.quiet (d:=15) rfl rfl rfl (q_not rfl) ?_
   refine WL.quiet (d:=16) rfl rfl rfl (q_pickF rfl rfl) ?_
   exact WL.cutEnd () trivial (.cons rfl (.cons rfl (.cons rfl (.cons rfl (.cons (zp zek) .nil))))) (.cons .here (.cons .here (.cons .here .nil)))
 ·skip
  refine WL.quiet (d:=17) rfl rfl rfl (q_move rfl) ?_
  refine WL.cut0 True [(0,(.string ⟨#[43]⟩)),(4,(.pointer (some ⟨zH,0,none⟩))),(5,(.pointer (some ⟨zI,0,none⟩))),(6,(.pointer (some ⟨z3Q,0,none⟩))),(25,(.bool zej))] [stb z3Q 30 [(.int .i64 0),(.int .i64 0)],stb zI 30 [(.int .i64 z10.fN),(.int .i64 z10.fD)],stb zH 30 [(.int .i64 zZ.fN),(.int .i64 zZ.fD)]] 8 ?_ (fun _=>?_)
  ·rcases Bool.eq_false_or_eq_true zej with hb' | hb'
   ·have znL:=hb'; clear hb'
    refine WL.pin (i:=17) rfl znL ?_
    refine WL.skip rfl rfl rfl ?_
    refine WL.skip rfl rfl rfl ?_
    refine WL.skip rfl rfl rfl ?_
    refine WL.skip rfl rfl rfl ?_
    refine WL.skip rfl rfl rfl ?_
    refine WL.skip rfl rfl rfl ?_
    refine WL.skip rfl rfl rfl ?_
    refine WL.quiet (d:=25) rfl rfl rfl (q_pickT rfl rfl) ?_
    exact WL.cutEnd () trivial (.cons rfl (.cons rfl (.cons rfl (.cons rfl (.cons (zp (Eq.symm znL)) .nil))))) (.cons .here (.cons .here (.cons .here .nil)))
   ·have znM:=hb'; clear hb'
    refine WL.pin (i:=17) rfl znM ?_
    refine WL.quiet (d:=18) rfl rfl rfl (q_move rfl) ?_
    refine WL.quiet (d:=19) rfl rfl rfl (q_seqlC (r:=false) (by decide) rfl rfl) ?_
    refine WL.quiet (d:=20) rfl rfl rfl (q_move rfl) ?_
    refine WL.skip rfl rfl rfl ?_
    refine WL.skip rfl rfl rfl ?_
    refine WL.skip rfl rfl rfl ?_
    refine WL.quiet (d:=24) rfl rfl rfl (q_pickF rfl rfl) ?_
    refine WL.quiet (d:=25) rfl rfl rfl (q_pickF rfl rfl) ?_
    exact WL.cutEnd () trivial (.cons rfl (.cons rfl (.cons rfl (.cons rfl (.cons (zp (Eq.symm znM)) .nil))))) (.cons .here (.cons .here (.cons .here .nil)))
  ·skip
   refine WL.nil ?_
   refine WX.then ?_
   refine WC.cond rfl (fun zjj=>?_) (fun zjj=>?_)
   ·replace h:=ite_t h zjj
    refine WC.seq ?_
    refine WC.region ?_
    refine WL.quiet (d:=26) rfl rfl rfl (q_build (v:=(.agg #[(.int .i64 0),(.int .i64 0)])) (Eos.parts (l:=[]) .nil []) (fun _=>by kernel_rfl)) ?_
    refine WL.eff0 rfl rfl (e_store (vs:=[(.int .i64 0),(.int .i64 0)]) (ds:=[(.int .i64 0),(.int .i64 0)]) sizT_30 rfl rfl rfl rfl (oc_cons rfl (oc_cons rfl oc_nil)) .here (Nat.le_of_ble_eq_true rfl) rfl) ?_
    refine WL.quiet (d:=7) rfl rfl rfl (q_assign rfl) ?_
    refine WL.nil ?_
    refine WX.then ?_
    refine WC.ret ?_
    refine WX.thenRet ?_
    obtain rfl:=Option.some.inj h
    refine WX.bpRet Try.results40 (.agg rfl aggT_30 rfl (rd_all .here) (.tmp rfl .nil)) (fun w hw=>?_)
    exact ⟨ret2 rfl rfl,hw.sub .nil⟩
   ·replace h:=ite_f h zjj
    refine WC.skip ?_
    refine WX.then ?_
    refine WC.seq ?_
    refine WC.region ?_
    refine WL.new (dd:=27) rfl rfl rfl (e_makeMap Value.string (fun x=>x)) ?_
    intro z6X _
    refine WL.quiet (d:=28) rfl rfl rfl (q_makeFunc (Eos.caps (l:=[.tmp 4,.tmp 5]) (.cons rfl (.cons rfl .nil)))) ?_
    refine WL.eff0 rfl rfl (e_insert (k:=⟨#[43]⟩) (v:=(.func (.func 54) #[] #[(.pointer (some ⟨zH,0,none⟩)),(.pointer (some ⟨zI,0,none⟩))])) keyT_9 Try.underlying105 rfl rfl rfl rfl .here) ?_
    refine WL.quiet (d:=29) rfl rfl rfl (q_makeFunc (Eos.caps (l:=[.tmp 4,.tmp 5]) (.cons rfl (.cons rfl .nil)))) ?_
    refine WL.eff0 rfl rfl (e_insert (k:=⟨#[45]⟩) (v:=(.func (.func 55) #[] #[(.pointer (some ⟨zH,0,none⟩)),(.pointer (some ⟨zI,0,none⟩))])) keyT_9 Try.underlying105 rfl rfl rfl rfl .here) ?_
    refine WL.quiet (d:=30) rfl rfl rfl (q_makeFunc (Eos.caps (l:=[.tmp 4,.tmp 5]) (.cons rfl (.cons rfl .nil)))) ?_
    refine WL.eff0 rfl rfl (e_insert (k:=⟨#[42]⟩) (v:=(.func (.func 56) #[] #[(.pointer (some ⟨zH,0,none⟩)),(.pointer (some ⟨zI,0,none⟩))])) keyT_9 Try.underlying105 rfl rfl rfl rfl .here) ?_
    refine WL.quiet (d:=31) rfl rfl rfl (q_makeFunc (Eos.caps (l:=[.tmp 4,.tmp 5]) (.cons rfl (.cons rfl .nil)))) ?_
    refine WL.eff0 rfl rfl (e_insert (k:=⟨#[47]⟩) (v:=(.func (.func 57) #[] #[(.pointer (some ⟨zH,0,none⟩)),(.pointer (some ⟨zI,0,none⟩))])) keyT_9 Try.underlying105 rfl rfl rfl rfl .here) ?_
    refine WL.quiet (d:=32) rfl rfl rfl (q_move rfl) ?_
    refine WL.quiet (d:=8) rfl rfl rfl (q_assign rfl) ?_
    refine WL.nil ?_
    refine WX.then ?_
    refine WC.seq ?_
    obtain ⟨zd0,zsC,h⟩:=ze h
    obtain ⟨zar,zsD,h⟩:=ze h
    refine WC.region ?_
    refine WL.quiet (d:=33) rfl rfl rfl (q_move rfl) ?_
    refine WL.quiet (d:=34) rfl rfl rfl (q_move rfl) ?_
    refine WL.quiet (d:=35) rfl rfl rfl (q_lookC (k:=⟨#[43]⟩) (dflt:=.nilFunc) (r:=(.func (.func 54) #[] #[(.pointer (some ⟨zH,0,none⟩)),(.pointer (some ⟨zI,0,none⟩))])) keyT_9 Try.underlying105 zfp rfl rfl rfl .here (by rfl)) ?_
    refine WL.callD (dd:=36) rfl rfl rfl (run_callv (l:=[]) Try.call54 rfl .nil) (.nil : Sel [mapA z6X Value.string (fun x=>x) [(⟨#[43]⟩,(.func (.func 54) #[] #[(.pointer (some ⟨zH,0,none⟩)),(.pointer (some ⟨zI,0,none⟩))])),(⟨#[45]⟩,(.func (.func 55) #[] #[(.pointer (some ⟨zH,0,none⟩)),(.pointer (some ⟨zI,0,none⟩))])),(⟨#[42]⟩,(.func (.func 56) #[] #[(.pointer (some ⟨zH,0,none⟩)),(.pointer (some ⟨zI,0,none⟩))])),(⟨#[47]⟩,(.func (.func 57) #[] #[(.pointer (some ⟨zH,0,none⟩)),(.pointer (some ⟨zI,0,none⟩))]))],stb z3Q 30 [(.int .i64 0),(.int .i64 0)],stb zI 30 [(.int .i64 z10.fN),(.int .i64 z10.fD)],stb zH 30 [(.int .i64 zZ.fN),(.int .i64 zZ.fD)]] [] [mapA z6X Value.string (fun x=>x) [(⟨#[43]⟩,(.func (.func 54) #[] #[(.pointer (some ⟨zH,0,none⟩)),(.pointer (some ⟨zI,0,none⟩))])),(⟨#[45]⟩,(.func (.func 55) #[] #[(.pointer (some ⟨zH,0,none⟩)),(.pointer (some ⟨zI,0,none⟩))])),(⟨#[42]⟩,(.func (.func 56) #[] #[(.pointer (some ⟨zH,0,none⟩)),(.pointer (some ⟨zI,0,none⟩))])),(⟨#[47]⟩,(.func (.func 57) #[] #[(.pointer (some ⟨zH,0,none⟩)),(.pointer (some ⟨zI,0,none⟩))]))],stb z3Q 30 [(.int .i64 0),(.int .i64 0)],stb zI 30 [(.int .i64 z10.fN),(.int .i64 z10.fD)],stb zH 30 [(.int .i64 zZ.fN),(.int .i64 zZ.fD)]]) (fun w hw=>by have pz:=(hz.call hw (.nil : Sel [mapA z6X Value.string (fun x=>x) [(⟨#[43]⟩,(.func (.func 54) #[] #[(.pointer (some ⟨zH,0,none⟩)),(.pointer (some ⟨zI,0,none⟩))])),(⟨#[45]⟩,(.func (.func 55) #[] #[(.pointer (some ⟨zH,0,none⟩)),(.pointer (some ⟨zI,0,none⟩))])),(⟨#[42]⟩,(.func (.func 56) #[] #[(.pointer (some ⟨zH,0,none⟩)),(.pointer (some ⟨zI,0,none⟩))])),(⟨#[47]⟩,(.func (.func 57) #[] #[(.pointer (some ⟨zH,0,none⟩)),(.pointer (some ⟨zI,0,none⟩))]))],stb z3Q 30 [(.int .i64 0),(.int .i64 0)],stb zI 30 [(.int .i64 z10.fN),(.int .i64 z10.fD)],stb zH 30 [(.int .i64 zZ.fN),(.int .i64 zZ.fD)]] [] [mapA z6X Value.string (fun x=>x) [(⟨#[43]⟩,(.func (.func 54) #[] #[(.pointer (some ⟨zH,0,none⟩)),(.pointer (some ⟨zI,0,none⟩))])),(⟨#[45]⟩,(.func (.func 55) #[] #[(.pointer (some ⟨zH,0,none⟩)),(.pointer (some ⟨zI,0,none⟩))])),(⟨#[42]⟩,(.func (.func 56) #[] #[(.pointer (some ⟨zH,0,none⟩)),(.pointer (some ⟨zI,0,none⟩))])),(⟨#[47]⟩,(.func (.func 57) #[] #[(.pointer (some ⟨zH,0,none⟩)),(.pointer (some ⟨zI,0,none⟩))]))],stb z3Q 30 [(.int .i64 0),(.int .i64 0)],stb zI 30 [(.int .i64 z10.fN),(.int .i64 z10.fD)],stb zH 30 [(.int .i64 zZ.fN),(.int .i64 zZ.fD)]])).lend hw (.nil : Sel [mapA z6X Value.string (fun x=>x) [(⟨#[43]⟩,(.func (.func 54) #[] #[(.pointer (some ⟨zH,0,none⟩)),(.pointer (some ⟨zI,0,none⟩))])),(⟨#[45]⟩,(.func (.func 55) #[] #[(.pointer (some ⟨zH,0,none⟩)),(.pointer (some ⟨zI,0,none⟩))])),(⟨#[42]⟩,(.func (.func 56) #[] #[(.pointer (some ⟨zH,0,none⟩)),(.pointer (some ⟨zI,0,none⟩))])),(⟨#[47]⟩,(.func (.func 57) #[] #[(.pointer (some ⟨zH,0,none⟩)),(.pointer (some ⟨zI,0,none⟩))]))],stb z3Q 30 [(.int .i64 0),(.int .i64 0)],stb zI 30 [(.int .i64 z10.fN),(.int .i64 z10.fD)],stb zH 30 [(.int .i64 zZ.fN),(.int .i64 zZ.fD)]] [] [mapA z6X Value.string (fun x=>x) [(⟨#[43]⟩,(.func (.func 54) #[] #[(.pointer (some ⟨zH,0,none⟩)),(.pointer (some ⟨zI,0,none⟩))])),(⟨#[45]⟩,(.func (.func 55) #[] #[(.pointer (some ⟨zH,0,none⟩)),(.pointer (some ⟨zI,0,none⟩))])),(⟨#[42]⟩,(.func (.func 56) #[] #[(.pointer (some ⟨zH,0,none⟩)),(.pointer (some ⟨zI,0,none⟩))])),(⟨#[47]⟩,(.func (.func 57) #[] #[(.pointer (some ⟨zH,0,none⟩)),(.pointer (some ⟨zI,0,none⟩))]))],stb z3Q 30 [(.int .i64 0),(.int .i64 0)],stb zI 30 [(.int .i64 z10.fN),(.int .i64 z10.fD)],stb zH 30 [(.int .i64 zZ.fN),(.int .i64 zZ.fD)]]) (B:=[stb zH 30 [(.int .i64 zZ.fN),(.int .i64 zZ.fD)],stb zI 30 [(.int .i64 z10.fN),(.int .i64 z10.fD)]]) (fun _ hx'=>((.cons (.there (.there (.there .here))) (.cons (.there (.there .here)) .nil)) : Sel _ [stb zH 30 [(.int .i64 zZ.fN),(.int .i64 zZ.fD)],stb zI 30 [(.int .i64 z10.fN),(.int .i64 z10.fD)]] _).mem hx'); exact w_rat_do_1 (Z:=_) (zeh:=⟨zH,0,none⟩) (zei:=⟨zI,0,none⟩) (zap:=zZ) (zaq:=z10) (r:=zd0) w pz ((hw.lent (.nil : Sel [mapA z6X Value.string (fun x=>x) [(⟨#[43]⟩,(.func (.func 54) #[] #[(.pointer (some ⟨zH,0,none⟩)),(.pointer (some ⟨zI,0,none⟩))])),(⟨#[45]⟩,(.func (.func 55) #[] #[(.pointer (some ⟨zH,0,none⟩)),(.pointer (some ⟨zI,0,none⟩))])),(⟨#[42]⟩,(.func (.func 56) #[] #[(.pointer (some ⟨zH,0,none⟩)),(.pointer (some ⟨zI,0,none⟩))])),(⟨#[47]⟩,(.func (.func 57) #[] #[(.pointer (some ⟨zH,0,none⟩)),(.pointer (some ⟨zI,0,none⟩))]))],stb z3Q 30 [(.int .i64 0),(.int .i64 0)],stb zI 30 [(.int .i64 z10.fN),(.int .i64 z10.fD)],stb zH 30 [(.int .i64 zZ.fN),(.int .i64 zZ.fD)]] [] [mapA z6X Value.string (fun x=>x) [(⟨#[43]⟩,(.func (.func 54) #[] #[(.pointer (some ⟨zH,0,none⟩)),(.pointer (some ⟨zI,0,none⟩))])),(⟨#[45]⟩,(.func (.func 55) #[] #[(.pointer (some ⟨zH,0,none⟩)),(.pointer (some ⟨zI,0,none⟩))])),(⟨#[42]⟩,(.func (.func 56) #[] #[(.pointer (some ⟨zH,0,none⟩)),(.pointer (some ⟨zI,0,none⟩))])),(⟨#[47]⟩,(.func (.func 57) #[] #[(.pointer (some ⟨zH,0,none⟩)),(.pointer (some ⟨zI,0,none⟩))]))],stb z3Q 30 [(.int .i64 0),(.int .i64 0)],stb zI 30 [(.int .i64 z10.fN),(.int .i64 z10.fD)],stb zH 30 [(.int .i64 zZ.fN),(.int .i64 zZ.fD)]]) (B:=[stb zH 30 [(.int .i64 zZ.fN),(.int .i64 zZ.fD)],stb zI 30 [(.int .i64 z10.fN),(.int .i64 z10.fD)]]) (fun _ hx'=>((.cons (.there (.there (.there .here))) (.cons (.there (.there .here)) .nil)) : Sel _ [stb zH 30 [(.int .i64 zZ.fN),(.int .i64 zZ.fD)],stb zI 30 [(.int .i64 z10.fN),(.int .i64 z10.fD)]] _).mem hx') (.head _) _).stb) ((hw.lent (.nil : Sel [mapA z6X Value.string (fun x=>x) [(⟨#[43]⟩,(.func (.func 54) #[] #[(.pointer (some ⟨zH,0,none⟩)),(.pointer (some ⟨zI,0,none⟩))])),(⟨#[45]⟩,(.func (.func 55) #[] #[(.pointer (some ⟨zH,0,none⟩)),(.pointer (some ⟨zI,0,none⟩))])),(⟨#[42]⟩,(.func (.func 56) #[] #[(.pointer (some ⟨zH,0,none⟩)),(.pointer (some ⟨zI,0,none⟩))])),(⟨#[47]⟩,(.func (.func 57) #[] #[(.pointer (some ⟨zH,0,none⟩)),(.pointer (some ⟨zI,0,none⟩))]))],stb z3Q 30 [(.int .i64 0),(.int .i64 0)],stb zI 30 [(.int .i64 z10.fN),(.int .i64 z10.fD)],stb zH 30 [(.int .i64 zZ.fN),(.int .i64 zZ.fD)]] [] [mapA z6X Value.string (fun x=>x) [(⟨#[43]⟩,(.func (.func 54) #[] #[(.pointer (some ⟨zH,0,none⟩)),(.pointer (some ⟨zI,0,none⟩))])),(⟨#[45]⟩,(.func (.func 55) #[] #[(.pointer (some ⟨zH,0,none⟩)),(.pointer (some ⟨zI,0,none⟩))])),(⟨#[42]⟩,(.func (.func 56) #[] #[(.pointer (some ⟨zH,0,none⟩)),(.pointer (some ⟨zI,0,none⟩))])),(⟨#[47]⟩,(.func (.func 57) #[] #[(.pointer (some ⟨zH,0,none⟩)),(.pointer (some ⟨zI,0,none⟩))]))],stb z3Q 30 [(.int .i64 0),(.int .i64 0)],stb zI 30 [(.int .i64 z10.fN),(.int .i64 z10.fD)],stb zH 30 [(.int .i64 zZ.fN),(.int .i64 zZ.fD)]]) (B:=[stb zH 30 [(.int .i64 zZ.fN),(.int .i64 zZ.fD)],stb zI 30 [(.int .i64 z10.fN),(.int .i64 z10.fD)]]) (fun _ hx'=>((.cons (.there (.there (.there .here))) (.cons (.there (.there .here)) .nil)) : Sel _ [stb zH 30 [(.int .i64 zZ.fN),(.int .i64 zZ.fD)],stb zI 30 [(.int .i64 z10.fN),(.int .i64 z10.fD)]] _).mem hx') (.tail _ (.head _)) _).stb) zsC) ?_
    refine WL.quiet (d:=37) rfl rfl rfl (q_extract rfl rfl) ?_
    refine WL.quiet (d:=38) rfl rfl rfl (q_extract rfl rfl) ?_
    refine WL.callD (dd:=39) rfl rfl rfl (zn (l:=[.tmp 37,.tmp 38]) Try.call9 (.cons rfl (.cons rfl .nil))) (.nil : Sel [mapA z6X Value.string (fun x=>x) [(⟨#[43]⟩,(.func (.func 54) #[] #[(.pointer (some ⟨zH,0,none⟩)),(.pointer (some ⟨zI,0,none⟩))])),(⟨#[45]⟩,(.func (.func 55) #[] #[(.pointer (some ⟨zH,0,none⟩)),(.pointer (some ⟨zI,0,none⟩))])),(⟨#[42]⟩,(.func (.func 56) #[] #[(.pointer (some ⟨zH,0,none⟩)),(.pointer (some ⟨zI,0,none⟩))])),(⟨#[47]⟩,(.func (.func 57) #[] #[(.pointer (some ⟨zH,0,none⟩)),(.pointer (some ⟨zI,0,none⟩))]))],stb z3Q 30 [(.int .i64 0),(.int .i64 0)],stb zI 30 [(.int .i64 z10.fN),(.int .i64 z10.fD)],stb zH 30 [(.int .i64 zZ.fN),(.int .i64 zZ.fD)]] [] [mapA z6X Value.string (fun x=>x) [(⟨#[43]⟩,(.func (.func 54) #[] #[(.pointer (some ⟨zH,0,none⟩)),(.pointer (some ⟨zI,0,none⟩))])),(⟨#[45]⟩,(.func (.func 55) #[] #[(.pointer (some ⟨zH,0,none⟩)),(.pointer (some ⟨zI,0,none⟩))])),(⟨#[42]⟩,(.func (.func 56) #[] #[(.pointer (some ⟨zH,0,none⟩)),(.pointer (some ⟨zI,0,none⟩))])),(⟨#[47]⟩,(.func (.func 57) #[] #[(.pointer (some ⟨zH,0,none⟩)),(.pointer (some ⟨zI,0,none⟩))]))],stb z3Q 30 [(.int .i64 0),(.int .i64 0)],stb zI 30 [(.int .i64 z10.fN),(.int .i64 z10.fD)],stb zH 30 [(.int .i64 zZ.fN),(.int .i64 zZ.fD)]]) (fun w hw=>by have pz:=(hz.call hw (.nil : Sel [mapA z6X Value.string (fun x=>x) [(⟨#[43]⟩,(.func (.func 54) #[] #[(.pointer (some ⟨zH,0,none⟩)),(.pointer (some ⟨zI,0,none⟩))])),(⟨#[45]⟩,(.func (.func 55) #[] #[(.pointer (some ⟨zH,0,none⟩)),(.pointer (some ⟨zI,0,none⟩))])),(⟨#[42]⟩,(.func (.func 56) #[] #[(.pointer (some ⟨zH,0,none⟩)),(.pointer (some ⟨zI,0,none⟩))])),(⟨#[47]⟩,(.func (.func 57) #[] #[(.pointer (some ⟨zH,0,none⟩)),(.pointer (some ⟨zI,0,none⟩))]))],stb z3Q 30 [(.int .i64 0),(.int .i64 0)],stb zI 30 [(.int .i64 z10.fN),(.int .i64 z10.fD)],stb zH 30 [(.int .i64 zZ.fN),(.int .i64 zZ.fD)]] [] [mapA z6X Value.string (fun x=>x) [(⟨#[43]⟩,(.func (.func 54) #[] #[(.pointer (some ⟨zH,0,none⟩)),(.pointer (some ⟨zI,0,none⟩))])),(⟨#[45]⟩,(.func (.func 55) #[] #[(.pointer (some ⟨zH,0,none⟩)),(.pointer (some ⟨zI,0,none⟩))])),(⟨#[42]⟩,(.func (.func 56) #[] #[(.pointer (some ⟨zH,0,none⟩)),(.pointer (some ⟨zI,0,none⟩))])),(⟨#[47]⟩,(.func (.func 57) #[] #[(.pointer (some ⟨zH,0,none⟩)),(.pointer (some ⟨zI,0,none⟩))]))],stb z3Q 30 [(.int .i64 0),(.int .i64 0)],stb zI 30 [(.int .i64 z10.fN),(.int .i64 z10.fD)],stb zH 30 [(.int .i64 zZ.fN),(.int .i64 zZ.fD)]])); exact w_rat_Make (Z:=_)  (z7f:=zd0.1) (z6Q:=zd0.2) (r:=zar) w pz  zsD) ?_
    refine WL.quiet (d:=40) rfl rfl rfl (q_extract rfl rfl) ?_
    refine WL.quiet (d:=41) rfl rfl rfl (q_extract rfl rfl) ?_
    refine WL.eff0 rfl rfl (e_store (vs:=[(.int .i64 zar.1.fN),(.int .i64 zar.1.fD)]) (ds:=[(.int .i64 zar.1.fN),(.int .i64 zar.1.fD)]) sizT_30 rfl rfl rfl rfl (oc_cons rfl (oc_cons rfl oc_nil)) (.there .here) (Nat.le_of_ble_eq_true rfl) rfl) ?_
    refine WL.quiet (d:=7) rfl rfl rfl (q_assign rfl) ?_
    refine WL.nil ?_
    refine WX.then ?_
    refine WC.ret ?_
    obtain rfl:=Option.some.inj h
    refine WX.bpRet Try.results40 (.agg rfl aggT_30 rfl (rd_all .here) (.tmp rfl .nil)) (fun w hw=>?_)
    exact ⟨ret2 rfl rfl,hw.sub .nil⟩
def m_rat_Add (z3E : z2) (z3F : z2) : Option (z2 × Int) :=
 (m_rat_doc z3E z3F).bind fun zas=>some (zas.1,zas.2)
set_option maxRecDepth 20000 in
theorem w_rat_Add (Z : Zp)   (z3E : z2) (z3F : z2) (r : z2 × Int) (w₀ : World) (hz : PZ [] w₀ Z)
  (h : m_rat_Add z3E z3F = some r) :
  Calls Try.prog 19 #[(.agg #[(.int .i64 z3E.fN),(.int .i64 z3E.fD)]),(.agg #[(.int .i64 z3F.fN),(.int .i64 z3F.fD)])] w₀ fun e w'=>e = .returned (.tuple #[(.agg #[(.int .i64 r.1.fN),(.int .i64 r.1.fD)]),(.int .i64 r.2)]) ∧ Hp [] w₀ w' []:=by
 unfold m_rat_Add at h
 refine Calls.ofWC (vs:=[(.agg #[(.int .i64 z3E.fN),(.int .i64 z3E.fD)]),(.agg #[(.int .i64 z3F.fN),(.int .i64 z3F.fD)])]) (pre:=[]) (env:=[(0,(.agg #[(.int .i64 z3E.fN),(.int .i64 z3E.fD)])),(1,(.agg #[(.int .i64 z3F.fN),(.int .i64 z3F.fD)]))]) Try.func19 rfl Try.ntmps19 rfl (Hp.nil w₀ _) rfl ?_
 refine WC.seq ?_
 refine WC.region ?_
 refine WL.new (dd:=2) rfl rfl rfl (e_box (cs:=[(.int .i64 z3E.fN),(.int .i64 z3E.fD)]) rfl rfl) ?_
 intro zg7 _
 refine WL.new (dd:=3) rfl rfl rfl (e_box (cs:=[(.int .i64 z3F.fN),(.int .i64 z3F.fD)]) rfl rfl) ?_
 intro zg8 _
 refine WL.new (dd:=4) rfl rfl rfl (e_alloc (cs:=[(.int .i64 0),(.int .i64 0)]) zeroT_30 rfl) ?_
 intro zg9 _
 refine WL.quiet (d:=5) rfl rfl rfl (q_assign rfl) ?_
 refine WL.nil ?_
 refine WX.then ?_
 refine WC.seq ?_
 obtain ⟨zas,zsE,h⟩:=ze h
 refine WC.region ?_
 refine WL.quiet (d:=6) rfl rfl rfl (q_loadA (cs:=[(.int .i64 z3E.fN),(.int .i64 z3E.fD)]) aggT_30 rfl rfl (rd_all (.there (.there .here)))) ?_
 refine WL.quiet (d:=7) rfl rfl rfl (q_loadA (cs:=[(.int .i64 z3F.fN),(.int .i64 z3F.fD)]) aggT_30 rfl rfl (rd_all (.there .here))) ?_
 refine WL.callD (dd:=8) rfl rfl rfl (zn (l:=[.const (.string ⟨#[43]⟩),.tmp 6,.tmp 7]) Try.call40 (.cons rfl (.cons rfl (.cons rfl .nil)))) (.nil : Sel [stb zg9 30 [(.int .i64 0),(.int .i64 0)],stb zg8 30 [(.int .i64 z3F.fN),(.int .i64 z3F.fD)],stb zg7 30 [(.int .i64 z3E.fN),(.int .i64 z3E.fD)]] [] [stb zg9 30 [(.int .i64 0),(.int .i64 0)],stb zg8 30 [(.int .i64 z3F.fN),(.int .i64 z3F.fD)],stb zg7 30 [(.int .i64 z3E.fN),(.int .i64 z3E.fD)]]) (fun w hw=>by have pz:=(hz.call hw (.nil : Sel [stb zg9 30 [(.int .i64 0),(.int .i64 0)],stb zg8 30 [(.int .i64 z3F.fN),(.int .i64 z3F.fD)],stb zg7 30 [(.int .i64 z3E.fN),(.int .i64 z3E.fD)]] [] [stb zg9 30 [(.int .i64 0),(.int .i64 0)],stb zg8 30 [(.int .i64 z3F.fN),(.int .i64 z3F.fD)],stb zg7 30 [(.int .i64 z3E.fN),(.int .i64 z3E.fD)]])); exact w_rat_doc (Z:=_)  (zZ:=z3E) (z10:=z3F) (r:=zas) w pz  zsE) ?_
 refine WL.quiet (d:=9) rfl rfl rfl (q_extract rfl rfl) ?_
 refine WL.quiet (d:=10) rfl rfl rfl (q_extract rfl rfl) ?_
 refine WL.eff0 rfl rfl (e_store (vs:=[(.int .i64 zas.1.fN),(.int .i64 zas.1.fD)]) (ds:=[(.int .i64 zas.1.fN),(.int .i64 zas.1.fD)]) sizT_30 rfl rfl rfl rfl (oc_cons rfl (oc_cons rfl oc_nil)) .here (Nat.le_of_ble_eq_true rfl) rfl) ?_
 refine WL.quiet (d:=5) rfl rfl rfl (q_assign rfl) ?_
 refine WL.nil ?_
 refine WX.then ?_
 refine WC.ret ?_
 obtain rfl:=Option.some.inj h
 refine WX.bpRet Try.results19 (.agg rfl aggT_30 rfl (rd_all .here) (.tmp rfl .nil)) (fun w hw=>?_)
 exact ⟨ret2 rfl rfl,hw.sub .nil⟩
def m_calculus_calc_do (z4H : z2a) (z7h : z2 → z2 → Option (z2 × Int)) (z2H : z2) (z2I : z2) : Option (z2 × z2a) :=
 if decide (z4H.fE ≠ 0) then (m_calculus_zero).bind fun zbw=>some (zbw,z4H) else (z7h z2H z2I).bind fun z3f=>if decide (z3f.2 ≠ 0) then (m_calculus_zero).bind fun zbx=>some (zbx,(⟨z3f.2⟩ : z2a)) else some (z3f.1,(⟨z3f.2⟩ : z2a))
set_option maxRecDepth 20000 in
theorem w_calculus_calc_do (Z : Zp)  (z3R : Nat) (z6q : FuncId) (z6Y : List Value) (z4H : z2a) (z7h : z2 → z2 → Option (z2 × Int)) (z2H : z2) (z2I : z2) (r : z2 × z2a) (w₀ : World) (hz : PZ (fps [stb z3R 98 [(.int .i64 z4H.fE)]]) w₀ Z)
  (zsF : ∀ args w,(callFunc z6q args).run Try.prog w = .ok (.enter z6q args) w)
  (zsG : ∀ w : World,PZ [] w Z → ∀ (x0 : z2) (x1 : z2) (r : z2 × Int),z7h x0 x1 = some r → Calls Try.prog z6q (([(.agg #[(.int .i64 x0.fN),(.int .i64 x0.fD)]),(.agg #[(.int .i64 x1.fN),(.int .i64 x1.fD)])] : List Value) ++ z6Y).toArray w fun e w'=>e = .returned (.tuple #[(.agg #[(.int .i64 r.1.fN),(.int .i64 r.1.fD)]),(.int .i64 r.2)]) ∧ Hp [] w w' [])
  (h : m_calculus_calc_do z4H z7h z2H z2I = some r)
  (hown : Hp (fps [stb z3R 98 [(.int .i64 z4H.fE)]]) w₀ w₀ [stb z3R 98 [(.int .i64 z4H.fE)]]) :
  Calls Try.prog 33 #[(.pointer (some ⟨z3R,0,none⟩)),(.func (.func z6q) #[] (z6Y).toArray),(.agg #[(.int .i64 z2H.fN),(.int .i64 z2H.fD)]),(.agg #[(.int .i64 z2I.fN),(.int .i64 z2I.fD)])] w₀ fun e w'=>e = .returned (.agg #[(.int .i64 r.1.fN),(.int .i64 r.1.fD)]) ∧ Hp (fps [stb z3R 98 [(.int .i64 z4H.fE)]]) w₀ w' [stb z3R 98 [(.int .i64 r.2.fE)]]:=by
 unfold m_calculus_calc_do at h
 refine Calls.ofWC (vs:=[(.pointer (some ⟨z3R,0,none⟩)),(.func (.func z6q) #[] (z6Y).toArray),(.agg #[(.int .i64 z2H.fN),(.int .i64 z2H.fD)]),(.agg #[(.int .i64 z2I.fN),(.int .i64 z2I.fD)])]) (pre:=[stb z3R 98 [(.int .i64 z4H.fE)]]) (env:=[(0,(.pointer (some ⟨z3R,0,none⟩))),(1,(.func (.func z6q) #[] (z6Y).toArray)),(2,(.agg #[(.int .i64 z2H.fN),(.int .i64 z2H.fD)])),(3,(.agg #[(.int .i64 z2I.fN),(.int .i64 z2I.fD)]))]) Try.func33 rfl Try.ntmps33 rfl (hown) rfl ?_
 refine WC.seq ?_
 refine WC.region ?_
 refine WL.new (dd:=6) rfl rfl rfl (e_box (cs:=[(.int .i64 z2H.fN),(.int .i64 z2H.fD)]) rfl rfl) ?_
 intro zat _
 refine WL.new (dd:=7) rfl rfl rfl (e_box (cs:=[(.int .i64 z2I.fN),(.int .i64 z2I.fD)]) rfl rfl) ?_
 intro zau _
 refine WL.new (dd:=8) rfl rfl rfl (e_alloc (cs:=[(.int .i64 0),(.int .i64 0)]) zeroT_30 rfl) ?_
 intro zav _
 refine WL.nil ?_
 refine WX.then ?_
 refine WC.seq ?_
 refine WC.seq ?_
 refine WC.region ?_
 refine WL.quiet (d:=11) rfl rfl rfl (q_move rfl) ?_
 refine WL.quiet (d:=12) rfl rfl rfl (q_nilCheck rfl) ?_
 refine WL.quiet (d:=13) rfl rfl rfl (q_fieldAddr fo_98_0 rfl rfl) ?_
 refine WL.quiet (d:=14) rfl rfl rfl (q_load1 oneT_31 rfl (rd_stb (.there (.there (.there .here))) rfl)) ?_
 refine WL.quiet (d:=15) rfl rfl rfl (q_neq rfl rfl) ?_
 refine WL.nil ?_
 refine WX.then ?_
 refine WC.cond rfl (fun zjk=>?_) (fun zjk=>?_)
 ·replace h:=ite_t h zjk
  refine WC.seq ?_
  obtain ⟨zbw,zsH,h⟩:=ze h
  refine WC.region ?_
  refine WL.callD (dd:=16) rfl rfl rfl (zn (l:=[]) Try.call51 .nil) (.nil : Sel [stb zav 30 [(.int .i64 0),(.int .i64 0)],stb zau 30 [(.int .i64 z2I.fN),(.int .i64 z2I.fD)],stb zat 30 [(.int .i64 z2H.fN),(.int .i64 z2H.fD)],stb z3R 98 [(.int .i64 z4H.fE)]] [] [stb zav 30 [(.int .i64 0),(.int .i64 0)],stb zau 30 [(.int .i64 z2I.fN),(.int .i64 z2I.fD)],stb zat 30 [(.int .i64 z2H.fN),(.int .i64 z2H.fD)],stb z3R 98 [(.int .i64 z4H.fE)]]) (fun w hw=>by have pz:=(hz.call hw (.nil : Sel [stb zav 30 [(.int .i64 0),(.int .i64 0)],stb zau 30 [(.int .i64 z2I.fN),(.int .i64 z2I.fD)],stb zat 30 [(.int .i64 z2H.fN),(.int .i64 z2H.fD)],stb z3R 98 [(.int .i64 z4H.fE)]] [] [stb zav 30 [(.int .i64 0),(.int .i64 0)],stb zau 30 [(.int .i64 z2I.fN),(.int .i64 z2I.fD)],stb zat 30 [(.int .i64 z2H.fN),(.int .i64 z2H.fD)],stb z3R 98 [(.int .i64 z4H.fE)]])); exact w_calculus_zero (Z:=_)   (r:=zbw) w pz  zsH) ?_
  refine WL.eff0 rfl rfl (e_store (vs:=[(.int .i64 zbw.fN),(.int .i64 zbw.fD)]) (ds:=[(.int .i64 zbw.fN),(.int .i64 zbw.fD)]) sizT_30 rfl rfl rfl rfl (oc_cons rfl (oc_cons rfl oc_nil)) .here (Nat.le_of_ble_eq_true rfl) rfl) ?_
  refine WL.nil ?_
  refine WX.then ?_
  refine WC.ret ?_
  refine WX.thenRet ?_
  obtain rfl:=Option.some.inj h
  refine WX.bpRet Try.results33 (.agg rfl aggT_30 rfl (rd_all .here) .nil) (fun w hw=>?_)
  exact ⟨ret1 rfl,hw.sub (.cons (.there (.there (.there .here))) .nil)⟩
 ·replace h:=ite_f h zjk
  refine WC.skip ?_
  refine WX.then ?_
  refine WC.seq ?_
  obtain ⟨z3f,zsI,h⟩:=ze h
  refine WC.region ?_
  refine WL.quiet (d:=18) rfl rfl rfl (q_move rfl) ?_
  refine WL.quiet (d:=19) rfl rfl rfl (q_loadA (cs:=[(.int .i64 z2H.fN),(.int .i64 z2H.fD)]) aggT_30 rfl rfl (rd_all (.there (.there .here)))) ?_
  refine WL.quiet (d:=20) rfl rfl rfl (q_loadA (cs:=[(.int .i64 z2I.fN),(.int .i64 z2I.fD)]) aggT_30 rfl rfl (rd_all (.there .here))) ?_
  refine WL.callD (dd:=21) rfl rfl rfl (run_callv (l:=[.tmp 19,.tmp 20]) (f:=z6q) (caps:=z6Y) zsF rfl (.cons rfl (.cons rfl .nil))) .nil (fun w hw=>zsG w (hz.now hw) z2H z2I z3f  zsI) ?_
  refine WL.quiet (d:=17) rfl rfl rfl (q_move rfl) ?_
  refine WL.quiet (d:=22) rfl rfl rfl (q_extract rfl rfl) ?_
  refine WL.quiet (d:=23) rfl rfl rfl (q_extract rfl rfl) ?_
  refine WL.new (dd:=9) rfl rfl rfl (e_alloc (cs:=[(.int .i64 0),(.int .i64 0)]) zeroT_30 rfl) ?_
  intro zga _
  refine WL.eff0 rfl rfl (e_store (vs:=[(.int .i64 z3f.1.fN),(.int .i64 z3f.1.fD)]) (ds:=[(.int .i64 z3f.1.fN),(.int .i64 z3f.1.fD)]) sizT_30 rfl rfl rfl rfl (oc_cons rfl (oc_cons rfl oc_nil)) .here (Nat.le_of_ble_eq_true rfl) rfl) ?_
  refine WL.quiet (d:=10) rfl rfl rfl (q_assign rfl) ?_
  refine WL.nil ?_
  refine WX.then ?_
  refine WC.seq ?_
  refine WC.seq ?_
  refine WC.region ?_
  refine WL.quiet (d:=24) rfl rfl rfl (q_move rfl) ?_
  refine WL.quiet (d:=25) rfl rfl rfl (q_move rfl) ?_
  refine WL.quiet (d:=26) rfl rfl rfl (q_nilCheck rfl) ?_
  refine WL.quiet (d:=27) rfl rfl rfl (q_fieldAddr fo_98_0 rfl rfl) ?_
  refine WL.eff0 rfl rfl (e_store (vs:=[(.int .i64 z3f.2)]) (ds:=[(.int .i64 z3f.2)]) sizT_31 rfl rfl rfl rfl (oc_cons rfl oc_nil) (.there (.there (.there (.there .here)))) (Nat.le_of_ble_eq_true rfl) rfl) ?_
  refine WL.nil ?_
  refine WX.then ?_
  refine WC.seq ?_
  refine WC.region ?_
  refine WL.quiet (d:=28) rfl rfl rfl (q_move rfl) ?_
  refine WL.quiet (d:=29) rfl rfl rfl (q_neq rfl rfl) ?_
  refine WL.nil ?_
  refine WX.then ?_
  refine WC.cond rfl (fun zjl=>?_) (fun zjl=>?_)
  ·replace h:=ite_t h zjl
   refine WC.seq ?_
   obtain ⟨zbx,zsJ,h⟩:=ze h
   refine WC.region ?_
   refine WL.callD (dd:=30) rfl rfl rfl (zn (l:=[]) Try.call51 .nil) (.nil : Sel [stb z3R 98 [(.int .i64 z3f.2)],stb zga 30 [(.int .i64 z3f.1.fN),(.int .i64 z3f.1.fD)],stb zav 30 [(.int .i64 0),(.int .i64 0)],stb zau 30 [(.int .i64 z2I.fN),(.int .i64 z2I.fD)],stb zat 30 [(.int .i64 z2H.fN),(.int .i64 z2H.fD)]] [] [stb z3R 98 [(.int .i64 z3f.2)],stb zga 30 [(.int .i64 z3f.1.fN),(.int .i64 z3f.1.fD)],stb zav 30 [(.int .i64 0),(.int .i64 0)],stb zau 30 [(.int .i64 z2I.fN),(.int .i64 z2I.fD)],stb zat 30 [(.int .i64 z2H.fN),(.int .i64 z2H.fD)]]) (fun w hw=>by have pz:=(hz.call hw (.nil : Sel [stb z3R 98 [(.int .i64 z3f.2)],stb zga 30 [(.int .i64 z3f.1.fN),(.int .i64 z3f.1.fD)],stb zav 30 [(.int .i64 0),(.int .i64 0)],stb zau 30 [(.int .i64 z2I.fN),(.int .i64 z2I.fD)],stb zat 30 [(.int .i64 z2H.fN),(.int .i64 z2H.fD)]] [] [stb z3R 98 [(.int .i64 z3f.2)],stb zga 30 [(.int .i64 z3f.1.fN),(.int .i64 z3f.1.fD)],stb zav 30 [(.int .i64 0),(.int .i64 0)],stb zau 30 [(.int .i64 z2I.fN),(.int .i64 z2I.fD)],stb zat 30 [(.int .i64 z2H.fN),(.int .i64 z2H.fD)]])); exact w_calculus_zero (Z:=_)   (r:=zbx) w pz  zsJ) ?_
   refine WL.eff0 rfl rfl (e_store (vs:=[(.int .i64 zbx.fN),(.int .i64 zbx.fD)]) (ds:=[(.int .i64 zbx.fN),(.int .i64 zbx.fD)]) sizT_30 rfl rfl rfl rfl (oc_cons rfl (oc_cons rfl oc_nil)) (.there (.there .here)) (Nat.le_of_ble_eq_true rfl) rfl) ?_
   refine WL.nil ?_
   refine WX.then ?_
   refine WC.ret ?_
   refine WX.thenRet ?_
   obtain rfl:=Option.some.inj h
   refine WX.bpRet Try.results33 (.agg rfl aggT_30 rfl (rd_all .here) .nil) (fun w hw=>?_)
   exact ⟨ret1 rfl,hw.sub (.cons (.there .here) .nil)⟩
  ·replace h:=ite_f h zjl
   refine WC.skip ?_
   refine WX.then ?_
   refine WC.seq ?_
   refine WC.region ?_
   refine WL.quiet (d:=31) rfl rfl rfl (q_loadA (cs:=[(.int .i64 z3f.1.fN),(.int .i64 z3f.1.fD)]) aggT_30 rfl rfl (rd_all (.there .here))) ?_
   refine WL.eff0 rfl rfl (e_store (vs:=[(.int .i64 z3f.1.fN),(.int .i64 z3f.1.fD)]) (ds:=[(.int .i64 z3f.1.fN),(.int .i64 z3f.1.fD)]) sizT_30 rfl rfl rfl rfl (oc_cons rfl (oc_cons rfl oc_nil)) (.there (.there .here)) (Nat.le_of_ble_eq_true rfl) rfl) ?_
   refine WL.nil ?_
   refine WX.then ?_
   refine WC.ret ?_
   obtain rfl:=Option.some.inj h
   refine WX.bpRet Try.results33 (.agg rfl aggT_30 rfl (rd_all .here) .nil) (fun w hw=>?_)
   exact ⟨ret1 rfl,hw.sub (.cons (.there .here) .nil)⟩
def m_calculus_search_check_L2 (z1G : List (List z1)) (z9A : Int → Int → Int → Option Int) : Nat → Int → Int → Int → Int → Option Int
 | 0,_,_,_,_=>none
 | zjm + 1,z5w,z3G,z3s,z3t=>if decide (z5w < ((z1G.length : Nat) : Int)) then chk ((0 : Int) ≤ z5w ∧ z5w < ((z1G.length : Nat) : Int)) ((m_curve_Breaks (nth z1G z5w)).bind fun z4e=>if decide (z4e.2 ≠ 0) then some z4e.2 else (m_curve_Rate (nth z1G z5w)).bind fun z4I=>(m_calculus_calc_do (⟨z3G⟩ : z2a) (fun (y0 : z2) (y1 : z2)=>m_rat_Add y0 y1) (⟨z3s,z3t⟩ : z2) z4I.1).bind fun z7E=>m_calculus_search_check_L2 z1G z9A zjm (i64 (z5w + 1)) z7E.2.fE z7E.1.fN z7E.1.fD) else z9A z3G z3s z3t
theorem m_calculus_search_check_L2_fuel {n : Nat} {z1G : List (List z1)} {z9A : Int → Int → Int → Option Int} {z5w : Int} {z3G : Int} {z3s : Int} {z3t : Int} {r : Int} (h : m_calculus_search_check_L2 z1G z9A n z5w z3G z3s z3t = some r) : ∃ m,n = m + 1:=by
 cases n with
 | zero=>cases h
 | succ m=>exact ⟨m,rfl⟩
def m_calculus_search_check (z1G : List (List z1)) (zi : Sapi_Server) (zel : List (List z1)) (zby : Sapi_Server) (z2g : List z2) : Option Int :=
 (if decide (((z1G.length : Nat) : Int) > 32) then some true else (m_slices_ContainsFunc_api_Curve_api_Curve z1G (fun (y0 : List z1)=>m_calculus_search_check_1 y0)).bind fun zjn=>some zjn).bind fun zgb=>(if zgb then some true else (m_calculus_Valid zi).bind fun zjo=>some (!zjo)).bind fun zjp=>if zjp then some 2 else (m_calculus_zero).bind fun z8F=>jp3 (fun (z6B : Int) (z6C : Int) (z6D : Int)=>(if decide (z6B = 0) then (m_rat_Cmp (⟨z6C,z6D⟩ : z2) zi.fRate).bind fun zjq=>some (decide (zjq > 0)) else some false).bind fun zjr=>if zjr then some 6 else some z6B) fun z9A=>m_calculus_search_check_L2 z1G z9A FUEL 0 0 z8F.fN z8F.fD
set_option maxRecDepth 20000 in
theorem w_calculus_search_check (Z : Zp)  (z2h : Option Addr) (z2i : Nat) (z2s : Addr) (zjs : Option Addr) (zjt : Nat) (z2t : Addr) (z2u : Option Addr) (z2v : Nat) (z1G : List (List z1)) (zi : Sapi_Server) (zel : List (List z1)) (zby : Sapi_Server) (z2g : List z2) (r : Int) (w₀ : World) (hz : PZ [] w₀ Z)
  (znN : ZS Z 1 (p39 Z) z2h z2i z1G)
  (zxW : ZS Z 1 (p39 Z) zjs zjt zel)
  (zxX : ZC Z z2s [(.slice zjs zel.length zjt)])
  (zxY : ZC Z z2t [(.int .i64 zby.fRate.fN),(.int .i64 zby.fRate.fD),(.int .i64 zby.fLatency.fN),(.int .i64 zby.fLatency.fD)])
  (zxZ : ZS Z 2 (fun r x=>r = e30 x) z2u z2v z2g)
  (h : m_calculus_search_check z1G zi zel zby z2g = some r) :
  Calls Try.prog 52 #[(.agg #[(.slice z2h z1G.length z2i),(.int .i64 zi.fRate.fN),(.int .i64 zi.fRate.fD),(.int .i64 zi.fLatency.fN),(.int .i64 zi.fLatency.fD),(.func (.func 32) #[] #[(.pointer (some z2s)),(.pointer (some z2t))]),(.slice z2u z2g.length z2v)])] w₀ fun e w'=>∃ Zn : Zp,e = .returned (.int .i64 r) ∧ True ∧ Hp [] w₀ w' [fz Zn]:=by
 unfold m_calculus_search_check at h
 refine Calls.ofWC (vs:=[(.agg #[(.slice z2h z1G.length z2i),(.int .i64 zi.fRate.fN),(.int .i64 zi.fRate.fD),(.int .i64 zi.fLatency.fN),(.int .i64 zi.fLatency.fD),(.func (.func 32) #[] #[(.pointer (some z2s)),(.pointer (some z2t))]),(.slice z2u z2g.length z2v)])]) (pre:=[]) (env:=[(0,(.agg #[(.slice z2h z1G.length z2i),(.int .i64 zi.fRate.fN),(.int .i64 zi.fRate.fD),(.int .i64 zi.fLatency.fN),(.int .i64 zi.fLatency.fD),(.func (.func 32) #[] #[(.pointer (some z2s)),(.pointer (some z2t))]),(.slice z2u z2g.length z2v)]))]) Try.func52 rfl Try.ntmps52 rfl (Hp.nil w₀ _) rfl ?_
 refine WC.pool ?_
 refine WC.seq ?_
 refine WC.region ?_
 refine WL.new (dd:=1) rfl rfl rfl (e_box (cs:=[(.slice z2h z1G.length z2i),(.int .i64 zi.fRate.fN),(.int .i64 zi.fRate.fD),(.int .i64 zi.fLatency.fN),(.int .i64 zi.fLatency.fD),(.func (.func 32) #[] #[(.pointer (some z2s)),(.pointer (some z2t))]),(.slice z2u z2g.length z2v)]) rfl rfl) ?_
 intro z2J _
 refine WL.quiet (d:=2) rfl rfl rfl (q_assign rfl) ?_
 refine WL.nil ?_
 refine WX.then ?_
 refine WC.seq ?_
 refine WC.seq ?_
 obtain ⟨zgb,znO,h⟩:=ze h
 obtain ⟨zjp,znP,h⟩:=ze h
 refine WC.region ?_
 refine WL.quiet (d:=11) rfl rfl rfl (q_fieldAddr fo_79_0 rfl rfl) ?_
 refine WL.quiet (d:=12) rfl rfl rfl (q_load1 oneT_26 rfl (rd_stb .here rfl)) ?_
 refine WL.quiet (d:=13) rfl rfl rfl (q_len Try.underlying26 rfl) ?_
 refine WL.quiet (d:=14) rfl rfl rfl (q_gtr rfl rfl) ?_
 refine WL.quiet (d:=15) rfl rfl rfl (q_move rfl) ?_
 refine WL.cut0 True [(1,(.pointer (some ⟨z2J,0,none⟩))),(19,(.bool zgb))] [stb z2J 79 [(.slice z2h z1G.length z2i),(.int .i64 zi.fRate.fN),(.int .i64 zi.fRate.fD),(.int .i64 zi.fLatency.fN),(.int .i64 zi.fLatency.fD),(.func (.func 32) #[] #[(.pointer (some z2s)),(.pointer (some z2t))]),(.slice z2u z2g.length z2v)],fz []] 4 ?_ (fun _=>?_)
 ·rcases Bool.eq_false_or_eq_true (decide (((z1G.length : Nat) : Int) > 32)) with hb' | hb'
  ·have znQ:=hb'; clear hb'
   have zju:=ite_t znO znQ
   replace zju:=Option.some.inj zju
   refine WL.pin (i:=15) rfl znQ ?_
   refine WL.skip rfl rfl rfl ?_
   refine WL.skip rfl rfl rfl ?_
   refine WL.skip rfl rfl rfl ?_
   refine WL.quiet (d:=19) rfl rfl rfl (q_pickT rfl rfl) ?_
   exact WL.cutEnd () trivial (.cons rfl (.cons (zp zju) .nil)) (.cons .here (.cons .here .nil))
  ·have znR:=hb'; clear hb'
   have zem:=ite_f znO znR
   obtain ⟨zjn,zsK,zem⟩:=ze zem
   replace zem:=Option.some.inj zem
   refine WL.pin (i:=15) rfl znR ?_
   refine WL.quiet (d:=16) rfl rfl rfl (q_fieldAddr fo_79_0 rfl rfl) ?_
   refine WL.quiet (d:=17) rfl rfl rfl (q_load1 oneT_26 rfl (rd_stb .here rfl)) ?_
   refine WL.callD (dd:=18) rfl rfl rfl (zn (l:=[.tmp 17,.func 67]) Try.call66 (.cons rfl (.cons rfl .nil))) (.nil : Sel [stb z2J 79 [(.slice z2h z1G.length z2i),(.int .i64 zi.fRate.fN),(.int .i64 zi.fRate.fD),(.int .i64 zi.fLatency.fN),(.int .i64 zi.fLatency.fD),(.func (.func 32) #[] #[(.pointer (some z2s)),(.pointer (some z2t))]),(.slice z2u z2g.length z2v)],fz []] [] [stb z2J 79 [(.slice z2h z1G.length z2i),(.int .i64 zi.fRate.fN),(.int .i64 zi.fRate.fD),(.int .i64 zi.fLatency.fN),(.int .i64 zi.fLatency.fD),(.func (.func 32) #[] #[(.pointer (some z2s)),(.pointer (some z2t))]),(.slice z2u z2g.length z2v)],fz []]) (fun w hw=>by have pz:=(hz.call2 hw (.nil : Sel [stb z2J 79 [(.slice z2h z1G.length z2i),(.int .i64 zi.fRate.fN),(.int .i64 zi.fRate.fD),(.int .i64 zi.fLatency.fN),(.int .i64 zi.fLatency.fD),(.func (.func 32) #[] #[(.pointer (some z2s)),(.pointer (some z2t))]),(.slice z2u z2g.length z2v)],fz []] [] [stb z2J 79 [(.slice z2h z1G.length z2i),(.int .i64 zi.fRate.fN),(.int .i64 zi.fRate.fD),(.int .i64 zi.fLatency.fN),(.int .i64 zi.fLatency.fD),(.func (.func 32) #[] #[(.pointer (some z2s)),(.pointer (some z2t))]),(.slice z2u z2g.length z2v)],fz []]) (.there .here)); exact w_slices_ContainsFunc_api_Curve_api_Curve (Z:=_) (zb8:=z2h) (zb9:=z2i) (z9d:=67) (zba:=[]) (z8v:=z1G) (zb7:=(fun (y0 : List z1)=>m_calculus_search_check_1 y0)) (r:=zjn) w pz ((znN.mono (Zle.left _ _)).weak (fun _ _ h=>p39_mono (Zle.left _ _) h)) Try.call67 (fun w' hz' y0 ga0 gc0 r gh0 hr=>w_calculus_search_check_1 (Z:=_) (zb4:=ga0) (zb5:=gc0) (z8u:=y0) (r:=r) w' hz' gh0 hr) zsK) ?_
   refine WL.quiet (d:=19) rfl rfl rfl (q_pickF rfl rfl) ?_
   exact WL.cutEnd () trivial (.cons rfl (.cons (zp zem) .nil)) (.cons .here (.cons .here .nil))
 ·skip
  refine WL.quiet (d:=20) rfl rfl rfl (q_move rfl) ?_
  refine WL.cut0 True [(1,(.pointer (some ⟨z2J,0,none⟩))),(25,(.bool zjp))] [stb z2J 79 [(.slice z2h z1G.length z2i),(.int .i64 zi.fRate.fN),(.int .i64 zi.fRate.fD),(.int .i64 zi.fLatency.fN),(.int .i64 zi.fLatency.fD),(.func (.func 32) #[] #[(.pointer (some z2s)),(.pointer (some z2t))]),(.slice z2u z2g.length z2v)],fz []] 5 ?_ (fun _=>?_)
  ·rcases Bool.eq_false_or_eq_true zgb with hb' | hb'
   ·have znS:=hb'; clear hb'
    have zjv:=ite_t znP znS
    replace zjv:=Option.some.inj zjv
    refine WL.pin (i:=20) rfl znS ?_
    refine WL.skip rfl rfl rfl ?_
    refine WL.skip rfl rfl rfl ?_
    refine WL.skip rfl rfl rfl ?_
    refine WL.skip rfl rfl rfl ?_
    refine WL.quiet (d:=25) rfl rfl rfl (q_pickT rfl rfl) ?_
    exact WL.cutEnd () trivial (.cons rfl (.cons (zp zjv) .nil)) (.cons .here (.cons .here .nil))
   ·have znT:=hb'; clear hb'
    have zen:=ite_f znP znT
    obtain ⟨zjo,zsL,zen⟩:=ze zen
    replace zen:=Option.some.inj zen
    refine WL.pin (i:=20) rfl znT ?_
    refine WL.quiet (d:=21) rfl rfl rfl (q_fieldAddr fo_79_1 rfl rfl) ?_
    refine WL.quiet (d:=22) rfl rfl rfl (q_loadA (cs:=[(.int .i64 zi.fRate.fN),(.int .i64 zi.fRate.fD),(.int .i64 zi.fLatency.fN),(.int .i64 zi.fLatency.fD)]) aggT_43 rfl rfl (rd_sub (s:=4) .here rfl)) ?_
    refine WL.callD (dd:=23) rfl rfl rfl (zn (l:=[.tmp 22]) Try.call47 (.cons rfl .nil)) (.nil : Sel [stb z2J 79 [(.slice z2h z1G.length z2i),(.int .i64 zi.fRate.fN),(.int .i64 zi.fRate.fD),(.int .i64 zi.fLatency.fN),(.int .i64 zi.fLatency.fD),(.func (.func 32) #[] #[(.pointer (some z2s)),(.pointer (some z2t))]),(.slice z2u z2g.length z2v)],fz []] [] [stb z2J 79 [(.slice z2h z1G.length z2i),(.int .i64 zi.fRate.fN),(.int .i64 zi.fRate.fD),(.int .i64 zi.fLatency.fN),(.int .i64 zi.fLatency.fD),(.func (.func 32) #[] #[(.pointer (some z2s)),(.pointer (some z2t))]),(.slice z2u z2g.length z2v)],fz []]) (fun w hw=>by have pz:=(hz.call2 hw (.nil : Sel [stb z2J 79 [(.slice z2h z1G.length z2i),(.int .i64 zi.fRate.fN),(.int .i64 zi.fRate.fD),(.int .i64 zi.fLatency.fN),(.int .i64 zi.fLatency.fD),(.func (.func 32) #[] #[(.pointer (some z2s)),(.pointer (some z2t))]),(.slice z2u z2g.length z2v)],fz []] [] [stb z2J 79 [(.slice z2h z1G.length z2i),(.int .i64 zi.fRate.fN),(.int .i64 zi.fRate.fD),(.int .i64 zi.fLatency.fN),(.int .i64 zi.fLatency.fD),(.func (.func 32) #[] #[(.pointer (some z2s)),(.pointer (some z2t))]),(.slice z2u z2g.length z2v)],fz []]) (.there .here)); exact w_calculus_Valid (Z:=_)  (zV:=zi) (r:=zjo) w pz  zsL) ?_
    refine WL.quiet (d:=24) rfl rfl rfl (q_not rfl) ?_
    refine WL.quiet (d:=25) rfl rfl rfl (q_pickF rfl rfl) ?_
    exact WL.cutEnd () trivial (.cons rfl (.cons (zp zen) .nil)) (.cons .here (.cons .here .nil))
  ·skip
   refine WL.nil ?_
   refine WX.then ?_
   refine WC.cond rfl (fun zjw=>?_) (fun zjw=>?_)
   ·replace h:=ite_t h zjw
    refine WC.seq ?_
    refine WC.region ?_
    refine WL.quiet (d:=2) rfl rfl rfl (q_assign rfl) ?_
    refine WL.nil ?_
    refine WX.then ?_
    refine WC.ret ?_
    refine WX.thenRet ?_
    obtain rfl:=Option.some.inj h
    refine WX.bpRet Try.results52 (.tmp rfl .nil) (fun w hw=>?_)
    exact ⟨[],ret1 rfl,trivial,hw.sub (.cons (.there .here) .nil)⟩
   ·replace h:=ite_f h zjw
    refine WC.skip ?_
    refine WX.then ?_
    refine WC.seq ?_
    refine WC.region ?_
    refine WL.new (dd:=3) rfl rfl rfl (e_alloc (cs:=[(.int .i64 0)]) zeroT_98 rfl) ?_
    intro z3n _
    refine WL.nil ?_
    refine WX.then ?_
    refine WC.seq ?_
    obtain ⟨z8F,zsM,h⟩:=ze h
    refine WC.region ?_
    refine WL.callD (dd:=26) rfl rfl rfl (zn (l:=[]) Try.call51 .nil) (.nil : Sel [stb z3n 98 [(.int .i64 0)],stb z2J 79 [(.slice z2h z1G.length z2i),(.int .i64 zi.fRate.fN),(.int .i64 zi.fRate.fD),(.int .i64 zi.fLatency.fN),(.int .i64 zi.fLatency.fD),(.func (.func 32) #[] #[(.pointer (some z2s)),(.pointer (some z2t))]),(.slice z2u z2g.length z2v)],fz []] [] [stb z3n 98 [(.int .i64 0)],stb z2J 79 [(.slice z2h z1G.length z2i),(.int .i64 zi.fRate.fN),(.int .i64 zi.fRate.fD),(.int .i64 zi.fLatency.fN),(.int .i64 zi.fLatency.fD),(.func (.func 32) #[] #[(.pointer (some z2s)),(.pointer (some z2t))]),(.slice z2u z2g.length z2v)],fz []]) (fun w hw=>by have pz:=(hz.call2 hw (.nil : Sel [stb z3n 98 [(.int .i64 0)],stb z2J 79 [(.slice z2h z1G.length z2i),(.int .i64 zi.fRate.fN),(.int .i64 zi.fRate.fD),(.int .i64 zi.fLatency.fN),(.int .i64 zi.fLatency.fD),(.func (.func 32) #[] #[(.pointer (some z2s)),(.pointer (some z2t))]),(.slice z2u z2g.length z2v)],fz []] [] [stb z3n 98 [(.int .i64 0)],stb z2J 79 [(.slice z2h z1G.length z2i),(.int .i64 zi.fRate.fN),(.int .i64 zi.fRate.fD),(.int .i64 zi.fLatency.fN),(.int .i64 zi.fLatency.fD),(.func (.func 32) #[] #[(.pointer (some z2s)),(.pointer (some z2t))]),(.slice z2u z2g.length z2v)],fz []]) (.there (.there .here))); exact w_calculus_zero (Z:=_)   (r:=z8F) w pz  zsM) ?_
    refine WL.new (dd:=4) rfl rfl rfl (e_alloc (cs:=[(.int .i64 0),(.int .i64 0)]) zeroT_30 rfl) ?_
    intro z4s _
    refine WL.eff0 rfl rfl (e_store (vs:=[(.int .i64 z8F.fN),(.int .i64 z8F.fD)]) (ds:=[(.int .i64 z8F.fN),(.int .i64 z8F.fD)]) sizT_30 rfl rfl rfl rfl (oc_cons rfl (oc_cons rfl oc_nil)) .here (Nat.le_of_ble_eq_true rfl) rfl) ?_
    refine WL.nil ?_
    refine WX.then ?_
    obtain ⟨z9A,zsN,h⟩:=jp3_elim h
    refine WC.seqMid4 (fun (z6B : Int) (z6C : Int) (z6D : Int) (z7F : Zp)=>(z9A z6B z6C z6D = some r) ∧ (Zle (Z ++ []) (Z ++ z7F))) (fun (z6B : Int) (z6C : Int) (z6D : Int) (z7F : Zp)=>[(1,(.pointer (some ⟨z2J,0,none⟩))),(3,(.pointer (some ⟨z3n,0,none⟩))),(4,(.pointer (some ⟨z4s,0,none⟩)))]) (fun (z6B : Int) (z6C : Int) (z6D : Int) (z7F : Zp)=>[fz z7F,stb z2J 79 [(.slice z2h z1G.length z2i),(.int .i64 zi.fRate.fN),(.int .i64 zi.fRate.fD),(.int .i64 zi.fLatency.fN),(.int .i64 zi.fLatency.fD),(.func (.func 32) #[] #[(.pointer (some z2s)),(.pointer (some z2t))]),(.slice z2u z2g.length z2v)],stb z3n 98 [(.int .i64 z6B)],stb z4s 30 [(.int .i64 z6C),(.int .i64 z6D)]]) ?_ ?_
    ·skip
     refine WC.seq ?_
     refine WC.region ?_
     refine WL.quiet (d:=27) rfl rfl rfl (q_fieldAddr fo_79_0 rfl rfl) ?_
     refine WL.quiet (d:=28) rfl rfl rfl (q_load1 oneT_26 rfl (rd_stb (.there (.there .here)) rfl)) ?_
     refine WL.quiet (d:=29) rfl rfl rfl (q_len Try.underlying26 rfl) ?_
     refine WL.quiet (d:=30) rfl rfl rfl (q_move rfl) ?_
     refine WL.nil ?_
     refine WX.then ?_
     refine WC.block ?_
     refine WC.loop6 (fun (zd1 : Nat) (z5w : Int) (z3G : Int) (z3s : Int) (z3t : Int) (z3U : Zp)=>(m_calculus_search_check_L2 z1G z9A zd1 z5w z3G z3s z3t = some r) ∧ (Zle (Z ++ []) (Z ++ z3U))) (fun (zd1 : Nat) (z5w : Int) (z3G : Int) (z3s : Int) (z3t : Int) (z3U : Zp)=>[(1,(.pointer (some ⟨z2J,0,none⟩))),(3,(.pointer (some ⟨z3n,0,none⟩))),(4,(.pointer (some ⟨z4s,0,none⟩))),(28,(.slice z2h z1G.length z2i)),(29,(.int .i64 ((z1G.length : Nat) : Int))),(30,(.int .i64 z5w))]) (fun (zd1 : Nat) (z5w : Int) (z3G : Int) (z3s : Int) (z3t : Int) (z3U : Zp)=>[fz z3U,stb z2J 79 [(.slice z2h z1G.length z2i),(.int .i64 zi.fRate.fN),(.int .i64 zi.fRate.fD),(.int .i64 zi.fLatency.fN),(.int .i64 zi.fLatency.fD),(.func (.func 32) #[] #[(.pointer (some z2s)),(.pointer (some z2t))]),(.slice z2u z2g.length z2v)],stb z3n 98 [(.int .i64 z3G)],stb z4s 30 [(.int .i64 z3s),(.int .i64 z3t)]]) (fun (zd1 : Nat) (z5w : Int) (z3G : Int) (z3s : Int) (z3t : Int) (z3U : Zp)=>zd1) ⟨FUEL,0,0,z8F.fN,z8F.fD,[]⟩ ⟨h,(Zle.refl _)⟩ (.cons rfl (.cons rfl (.cons rfl (.cons rfl (.cons rfl (.cons rfl .nil)))))) (.cons (.there (.there (.there .here))) (.cons (.there (.there .here)) (.cons (.there .here) (.cons .here .nil)))) ?_
     rintro zd1 z5w z3G z3s z3t z3U ⟨h,zgc⟩
     obtain ⟨zjm,rfl⟩:=m_calculus_search_check_L2_fuel h
     rw [m_calculus_search_check_L2] at h
     refine WC.seq ?_
     refine WC.region ?_
     refine WL.quiet (d:=31) rfl rfl rfl (q_lss rfl rfl) ?_
     refine WL.nil ?_
     refine WX.then ?_
     refine WC.seq ?_
     refine WC.cond rfl (fun zjx=>?_) (fun zjx=>?_)
     ·replace h:=ite_t h zjx
      refine WC.skip ?_
      refine WX.then ?_
      refine WC.seq ?_
      refine WC.block ?_
      refine WC.seq ?_
      obtain ⟨zsO,h⟩:=chk_elim h
      refine WC.region ?_
      refine WL.znth (dd:=32) rfl rfl (Z:=(Z ++ z3U)) (Pr:=(p39 (Z ++ z3U))) elT_26 rfl rfl ((znN.mono ((Zle.left _ _).trans zgc)).weak (fun _ _ h=>p39_mono ((Zle.left _ _).trans zgc) h)) zsO ?_
      rintro zy0 zy1 zsP zy2 ⟨znU,znV,rfl,znW⟩
      refine WL.quiet (d:=33) rfl rfl rfl (q_load1 oneT_39 rfl (rd_z (hz.pv2 .here) zsP rfl)) ?_
      refine WL.quiet (d:=6) rfl rfl rfl (q_assign rfl) ?_
      refine WL.nil ?_
      refine WX.then ?_
      refine WC.seq ?_
      refine WC.seq ?_
      obtain ⟨z4e,zsQ,h⟩:=ze h
      refine WC.region ?_
      refine WL.quiet (d:=35) rfl rfl rfl (q_move rfl) ?_
      refine WL.enter3 (dd:=36) rfl rfl rfl (zn (l:=[.tmp 35]) Try.call68 (.cons rfl .nil)) (.nil : Sel [fz z3U,stb z2J 79 [(.slice z2h z1G.length z2i),(.int .i64 zi.fRate.fN),(.int .i64 zi.fRate.fD),(.int .i64 zi.fLatency.fN),(.int .i64 zi.fLatency.fD),(.func (.func 32) #[] #[(.pointer (some z2s)),(.pointer (some z2t))]),(.slice z2u z2g.length z2v)],stb z3n 98 [(.int .i64 z3G)],stb z4s 30 [(.int .i64 z3s),(.int .i64 z3t)]] [] [fz z3U,stb z2J 79 [(.slice z2h z1G.length z2i),(.int .i64 zi.fRate.fN),(.int .i64 zi.fRate.fD),(.int .i64 zi.fLatency.fN),(.int .i64 zi.fLatency.fD),(.func (.func 32) #[] #[(.pointer (some z2s)),(.pointer (some z2t))]),(.slice z2u z2g.length z2v)],stb z3n 98 [(.int .i64 z3G)],stb z4s 30 [(.int .i64 z3s),(.int .i64 z3t)]]) (fun w hw=>by have pz:=(hz.call2 hw (.nil : Sel [fz z3U,stb z2J 79 [(.slice z2h z1G.length z2i),(.int .i64 zi.fRate.fN),(.int .i64 zi.fRate.fD),(.int .i64 zi.fLatency.fN),(.int .i64 zi.fLatency.fD),(.func (.func 32) #[] #[(.pointer (some z2s)),(.pointer (some z2t))]),(.slice z2u z2g.length z2v)],stb z3n 98 [(.int .i64 z3G)],stb z4s 30 [(.int .i64 z3s),(.int .i64 z3t)]] [] [fz z3U,stb z2J 79 [(.slice z2h z1G.length z2i),(.int .i64 zi.fRate.fN),(.int .i64 zi.fRate.fD),(.int .i64 zi.fLatency.fN),(.int .i64 zi.fLatency.fD),(.func (.func 32) #[] #[(.pointer (some z2s)),(.pointer (some z2t))]),(.slice z2u z2g.length z2v)],stb z3n 98 [(.int .i64 z3G)],stb z4s 30 [(.int .i64 z3s),(.int .i64 z3t)]]) .here); exact w_curve_Breaks (Z:=_) (z8C:=znU) (z8D:=znV) (z6W:=(nth z1G z5w)) (r:=z4e) w pz znW zsQ) ?_
      rintro z7G z8G z8H _
      refine WL.merge .here (.there .here) ?_
      refine WL.quiet (d:=34) rfl rfl rfl (q_move rfl) ?_
      refine WL.quiet (d:=37) rfl rfl rfl (q_extract rfl rfl) ?_
      refine WL.quiet (d:=38) rfl rfl rfl (q_extract rfl rfl) ?_
      refine WL.quiet (d:=7) rfl rfl rfl (q_assign rfl) ?_
      refine WL.quiet (d:=8) rfl rfl rfl (q_assign rfl) ?_
      refine WL.nil ?_
      refine WX.then ?_
      refine WC.seq ?_
      refine WC.region ?_
      refine WL.quiet (d:=39) rfl rfl rfl (q_move rfl) ?_
      refine WL.quiet (d:=40) rfl rfl rfl (q_neq rfl rfl) ?_
      refine WL.nil ?_
      refine WX.then ?_
      refine WC.cond rfl (fun zjy=>?_) (fun zjy=>?_)
      ·replace h:=ite_t h zjy
       refine WC.seq ?_
       refine WC.region ?_
       refine WL.quiet (d:=41) rfl rfl rfl (q_move rfl) ?_
       refine WL.quiet (d:=2) rfl rfl rfl (q_assign rfl) ?_
       refine WL.nil ?_
       refine WX.then ?_
       refine WC.ret ?_
       refine WX.thenRet ?_
       refine WX.blockRet ?_
       refine WX.thenRet ?_
       refine WX.thenRet ?_
       refine WX.blockRet ?_
       refine WX.thenRet ?_
       obtain rfl:=Option.some.inj h
       refine WX.bpRet Try.results52 (.tmp rfl .nil) (fun w hw=>?_)
       exact ⟨(z3U ++ z7G),ret1 rfl,trivial,hw.sub (.cons .here .nil)⟩
      ·replace h:=ite_f h zjy
       refine WC.skip ?_
       refine WX.then ?_
       refine WC.seq ?_
       obtain ⟨z4I,zsR,h⟩:=ze h
       refine WC.region ?_
       refine WL.quiet (d:=43) rfl rfl rfl (q_move rfl) ?_
       refine WL.callD (dd:=44) rfl rfl rfl (zn (l:=[.tmp 43]) Try.call21 (.cons rfl .nil)) (.nil : Sel [fz (z3U ++ z7G),row (.slice z8G z4e.1.length z8H) 30 2 (z4e.1.flatMap e30),stb z2J 79 [(.slice z2h z1G.length z2i),(.int .i64 zi.fRate.fN),(.int .i64 zi.fRate.fD),(.int .i64 zi.fLatency.fN),(.int .i64 zi.fLatency.fD),(.func (.func 32) #[] #[(.pointer (some z2s)),(.pointer (some z2t))]),(.slice z2u z2g.length z2v)],stb z3n 98 [(.int .i64 z3G)],stb z4s 30 [(.int .i64 z3s),(.int .i64 z3t)]] [] [fz (z3U ++ z7G),row (.slice z8G z4e.1.length z8H) 30 2 (z4e.1.flatMap e30),stb z2J 79 [(.slice z2h z1G.length z2i),(.int .i64 zi.fRate.fN),(.int .i64 zi.fRate.fD),(.int .i64 zi.fLatency.fN),(.int .i64 zi.fLatency.fD),(.func (.func 32) #[] #[(.pointer (some z2s)),(.pointer (some z2t))]),(.slice z2u z2g.length z2v)],stb z3n 98 [(.int .i64 z3G)],stb z4s 30 [(.int .i64 z3s),(.int .i64 z3t)]]) (fun w hw=>by have pz:=(hz.call2 hw (.nil : Sel [fz (z3U ++ z7G),row (.slice z8G z4e.1.length z8H) 30 2 (z4e.1.flatMap e30),stb z2J 79 [(.slice z2h z1G.length z2i),(.int .i64 zi.fRate.fN),(.int .i64 zi.fRate.fD),(.int .i64 zi.fLatency.fN),(.int .i64 zi.fLatency.fD),(.func (.func 32) #[] #[(.pointer (some z2s)),(.pointer (some z2t))]),(.slice z2u z2g.length z2v)],stb z3n 98 [(.int .i64 z3G)],stb z4s 30 [(.int .i64 z3s),(.int .i64 z3t)]] [] [fz (z3U ++ z7G),row (.slice z8G z4e.1.length z8H) 30 2 (z4e.1.flatMap e30),stb z2J 79 [(.slice z2h z1G.length z2i),(.int .i64 zi.fRate.fN),(.int .i64 zi.fRate.fD),(.int .i64 zi.fLatency.fN),(.int .i64 zi.fLatency.fD),(.func (.func 32) #[] #[(.pointer (some z2s)),(.pointer (some z2t))]),(.slice z2u z2g.length z2v)],stb z3n 98 [(.int .i64 z3G)],stb z4s 30 [(.int .i64 z3s),(.int .i64 z3t)]]) .here); exact w_curve_Rate (Z:=_) (zam:=znU) (zan:=znV) (z7D:=(nth z1G z5w)) (r:=z4I) w pz (znW.mono ((Zle.left _ _).trans (Zle.assoc _ _ _))) zsR) ?_
       refine WL.quiet (d:=42) rfl rfl rfl (q_move rfl) ?_
       refine WL.quiet (d:=45) rfl rfl rfl (q_extract rfl rfl) ?_
       refine WL.quiet (d:=46) rfl rfl rfl (q_extract rfl rfl) ?_
       refine WL.new (dd:=9) rfl rfl rfl (e_alloc (cs:=[(.int .i64 0),(.int .i64 0)]) zeroT_30 rfl) ?_
       intro zd2 _
       refine WL.eff0 rfl rfl (e_store (vs:=[(.int .i64 z4I.1.fN),(.int .i64 z4I.1.fD)]) (ds:=[(.int .i64 z4I.1.fN),(.int .i64 z4I.1.fD)]) sizT_30 rfl rfl rfl rfl (oc_cons rfl (oc_cons rfl oc_nil)) .here (Nat.le_of_ble_eq_true rfl) rfl) ?_
       refine WL.quiet (d:=10) rfl rfl rfl (q_assign rfl) ?_
       refine WL.nil ?_
       refine WX.then ?_
       obtain ⟨z7E,zsS,h⟩:=ze h
       refine WC.region ?_
       refine WL.quiet (d:=47) rfl rfl rfl (q_loadA (cs:=[(.int .i64 z3s),(.int .i64 z3t)]) aggT_30 rfl rfl (rd_all (.there (.there (.there (.there (.there .here))))))) ?_
       refine WL.quiet (d:=48) rfl rfl rfl (q_loadA (cs:=[(.int .i64 z4I.1.fN),(.int .i64 z4I.1.fD)]) aggT_30 rfl rfl (rd_all .here)) ?_
       refine WL.callD (dd:=49) rfl rfl rfl (zn (l:=[.tmp 3,.func 19,.tmp 47,.tmp 48]) Try.call33 (.cons rfl (.cons rfl (.cons rfl (.cons rfl .nil))))) ((.cons (.there (.there (.there (.there .here)))) .nil) : Sel [stb zd2 30 [(.int .i64 z4I.1.fN),(.int .i64 z4I.1.fD)],fz (z3U ++ z7G),row (.slice z8G z4e.1.length z8H) 30 2 (z4e.1.flatMap e30),stb z2J 79 [(.slice z2h z1G.length z2i),(.int .i64 zi.fRate.fN),(.int .i64 zi.fRate.fD),(.int .i64 zi.fLatency.fN),(.int .i64 zi.fLatency.fD),(.func (.func 32) #[] #[(.pointer (some z2s)),(.pointer (some z2t))]),(.slice z2u z2g.length z2v)],stb z3n 98 [(.int .i64 z3G)],stb z4s 30 [(.int .i64 z3s),(.int .i64 z3t)]] [stb z3n 98 [(.int .i64 z3G)]] [stb zd2 30 [(.int .i64 z4I.1.fN),(.int .i64 z4I.1.fD)],fz (z3U ++ z7G),row (.slice z8G z4e.1.length z8H) 30 2 (z4e.1.flatMap e30),stb z2J 79 [(.slice z2h z1G.length z2i),(.int .i64 zi.fRate.fN),(.int .i64 zi.fRate.fD),(.int .i64 zi.fLatency.fN),(.int .i64 zi.fLatency.fD),(.func (.func 32) #[] #[(.pointer (some z2s)),(.pointer (some z2t))]),(.slice z2u z2g.length z2v)],stb z4s 30 [(.int .i64 z3s),(.int .i64 z3t)]]) (fun w hw=>by have pz:=(hz.call2 hw ((.cons (.there (.there (.there (.there .here)))) .nil) : Sel [stb zd2 30 [(.int .i64 z4I.1.fN),(.int .i64 z4I.1.fD)],fz (z3U ++ z7G),row (.slice z8G z4e.1.length z8H) 30 2 (z4e.1.flatMap e30),stb z2J 79 [(.slice z2h z1G.length z2i),(.int .i64 zi.fRate.fN),(.int .i64 zi.fRate.fD),(.int .i64 zi.fLatency.fN),(.int .i64 zi.fLatency.fD),(.func (.func 32) #[] #[(.pointer (some z2s)),(.pointer (some z2t))]),(.slice z2u z2g.length z2v)],stb z3n 98 [(.int .i64 z3G)],stb z4s 30 [(.int .i64 z3s),(.int .i64 z3t)]] [stb z3n 98 [(.int .i64 z3G)]] [stb zd2 30 [(.int .i64 z4I.1.fN),(.int .i64 z4I.1.fD)],fz (z3U ++ z7G),row (.slice z8G z4e.1.length z8H) 30 2 (z4e.1.flatMap e30),stb z2J 79 [(.slice z2h z1G.length z2i),(.int .i64 zi.fRate.fN),(.int .i64 zi.fRate.fD),(.int .i64 zi.fLatency.fN),(.int .i64 zi.fLatency.fD),(.func (.func 32) #[] #[(.pointer (some z2s)),(.pointer (some z2t))]),(.slice z2u z2g.length z2v)],stb z4s 30 [(.int .i64 z3s),(.int .i64 z3t)]]) (.there .here)); exact w_calculus_calc_do (Z:=_) (z3R:=z3n) (z6q:=19) (z6Y:=[]) (z4H:=(⟨z3G⟩ : z2a)) (z7h:=(fun (y0 : z2) (y1 : z2)=>m_rat_Add y0 y1)) (z2H:=(⟨z3s,z3t⟩ : z2)) (z2I:=z4I.1) (r:=z7E) w pz Try.call19 (fun w' hz' y0 y1  r  hr=>w_rat_Add (Z:=_)  (z3E:=y0) (z3F:=y1) (r:=r) w' hz'  hr) zsS (hw.owns ((.cons (.there (.there (.there (.there .here)))) .nil) : Sel [stb zd2 30 [(.int .i64 z4I.1.fN),(.int .i64 z4I.1.fD)],fz (z3U ++ z7G),row (.slice z8G z4e.1.length z8H) 30 2 (z4e.1.flatMap e30),stb z2J 79 [(.slice z2h z1G.length z2i),(.int .i64 zi.fRate.fN),(.int .i64 zi.fRate.fD),(.int .i64 zi.fLatency.fN),(.int .i64 zi.fLatency.fD),(.func (.func 32) #[] #[(.pointer (some z2s)),(.pointer (some z2t))]),(.slice z2u z2g.length z2v)],stb z3n 98 [(.int .i64 z3G)],stb z4s 30 [(.int .i64 z3s),(.int .i64 z3t)]] [stb z3n 98 [(.int .i64 z3G)]] [stb zd2 30 [(.int .i64 z4I.1.fN),(.int .i64 z4I.1.fD)],fz (z3U ++ z7G),row (.slice z8G z4e.1.length z8H) 30 2 (z4e.1.flatMap e30),stb z2J 79 [(.slice z2h z1G.length z2i),(.int .i64 zi.fRate.fN),(.int .i64 zi.fRate.fD),(.int .i64 zi.fLatency.fN),(.int .i64 zi.fLatency.fD),(.func (.func 32) #[] #[(.pointer (some z2s)),(.pointer (some z2t))]),(.slice z2u z2g.length z2v)],stb z4s 30 [(.int .i64 z3s),(.int .i64 z3t)]]))) ?_
       refine WL.eff0 rfl rfl (e_store (vs:=[(.int .i64 z7E.1.fN),(.int .i64 z7E.1.fD)]) (ds:=[(.int .i64 z7E.1.fN),(.int .i64 z7E.1.fD)]) sizT_30 rfl rfl rfl rfl (oc_cons rfl (oc_cons rfl oc_nil)) (.there (.there (.there (.there (.there .here))))) (Nat.le_of_ble_eq_true rfl) rfl) ?_
       refine WL.nil ?_
       refine WX.blockNormal ?_
       refine WX.then ?_
       refine WC.region ?_
       refine WL.quiet (d:=50) rfl rfl rfl (q_add rfl rfl rfl) ?_
       refine WL.quiet (d:=30) rfl rfl rfl (q_move rfl) ?_
       refine WL.nil ?_
       exact WX.round (G:=Nat × Int × Int × Int × Int × Zp) ⟨zjm,(i64 (z5w + 1)),z7E.2.fE,z7E.1.fN,z7E.1.fD,(z3U ++ z7G)⟩ ⟨h,(zgc.trans ((Zle.left _ _).trans (Zle.assoc _ _ _)))⟩ (Nat.lt_succ_self _) (.cons rfl (.cons rfl (.cons rfl (.cons rfl (.cons rfl (.cons rfl .nil)))))) (.cons (.there (.there (.there .here))) (.cons (.there (.there (.there (.there .here)))) (.cons (.there .here) (.cons .here .nil))))
     ·replace h:=ite_f h zjx
      refine WC.exit ?_
      refine WX.thenExit ?_
      refine WX.thenExit ?_
      refine WX.blockHit ?_
      exact WX.mid (G:=Int × Int × Int × Zp) ⟨z3G,z3s,z3t,z3U⟩ ⟨h,zgc⟩ (.cons rfl (.cons rfl (.cons rfl .nil))) (.cons .here (.cons .here (.cons .here (.cons .here .nil))))
    ·rintro z6B z6C z6D z7F ⟨h,zy3⟩
     replace h:=(zsN z6B z6C z6D).symm.trans h
     refine WC.seq ?_
     refine WC.seq ?_
     obtain ⟨zjr,znX,h⟩:=ze h
     refine WC.region ?_
     refine WL.quiet (d:=51) rfl rfl rfl (q_fieldAddr fo_98_0 rfl rfl) ?_
     refine WL.quiet (d:=52) rfl rfl rfl (q_load1 oneT_31 rfl (rd_stb (.there (.there .here)) rfl)) ?_
     refine WL.quiet (d:=53) rfl rfl rfl (q_eql rfl rfl) ?_
     refine WL.quiet (d:=54) rfl rfl rfl (q_move rfl) ?_
     refine WL.cut0 True [(3,(.pointer (some ⟨z3n,0,none⟩))),(61,(.bool zjr))] [fz z7F,stb z2J 79 [(.slice z2h z1G.length z2i),(.int .i64 zi.fRate.fN),(.int .i64 zi.fRate.fD),(.int .i64 zi.fLatency.fN),(.int .i64 zi.fLatency.fD),(.func (.func 32) #[] #[(.pointer (some z2s)),(.pointer (some z2t))]),(.slice z2u z2g.length z2v)],stb z3n 98 [(.int .i64 z6B)],stb z4s 30 [(.int .i64 z6C),(.int .i64 z6D)]] 7 ?_ (fun _=>?_)
     ·rcases Bool.eq_false_or_eq_true (decide (z6B = 0)) with hb' | hb'
      ·have znY:=hb'; clear hb'
       have zeo:=ite_t znX znY
       obtain ⟨zjq,zsT,zeo⟩:=ze zeo
       replace zeo:=Option.some.inj zeo
       refine WL.pin (i:=54) rfl znY ?_
       refine WL.quiet (d:=55) rfl rfl rfl (q_loadA (cs:=[(.int .i64 z6C),(.int .i64 z6D)]) aggT_30 rfl rfl (rd_all (.there (.there (.there .here))))) ?_
       refine WL.quiet (d:=56) rfl rfl rfl (q_fieldAddr fo_79_1 rfl rfl) ?_
       refine WL.quiet (d:=57) rfl rfl rfl (q_fieldAddr fo_43_0 rfl rfl) ?_
       refine WL.quiet (d:=58) rfl rfl rfl (q_loadA (cs:=[(.int .i64 zi.fRate.fN),(.int .i64 zi.fRate.fD)]) aggT_30 rfl rfl (rd_sub (s:=2) (.there .here) rfl)) ?_
       refine WL.callD (dd:=59) rfl rfl rfl (zn (l:=[.tmp 55,.tmp 58]) Try.call18 (.cons rfl (.cons rfl .nil))) (.nil : Sel [fz z7F,stb z2J 79 [(.slice z2h z1G.length z2i),(.int .i64 zi.fRate.fN),(.int .i64 zi.fRate.fD),(.int .i64 zi.fLatency.fN),(.int .i64 zi.fLatency.fD),(.func (.func 32) #[] #[(.pointer (some z2s)),(.pointer (some z2t))]),(.slice z2u z2g.length z2v)],stb z3n 98 [(.int .i64 z6B)],stb z4s 30 [(.int .i64 z6C),(.int .i64 z6D)]] [] [fz z7F,stb z2J 79 [(.slice z2h z1G.length z2i),(.int .i64 zi.fRate.fN),(.int .i64 zi.fRate.fD),(.int .i64 zi.fLatency.fN),(.int .i64 zi.fLatency.fD),(.func (.func 32) #[] #[(.pointer (some z2s)),(.pointer (some z2t))]),(.slice z2u z2g.length z2v)],stb z3n 98 [(.int .i64 z6B)],stb z4s 30 [(.int .i64 z6C),(.int .i64 z6D)]]) (fun w hw=>by have pz:=(hz.call2 hw (.nil : Sel [fz z7F,stb z2J 79 [(.slice z2h z1G.length z2i),(.int .i64 zi.fRate.fN),(.int .i64 zi.fRate.fD),(.int .i64 zi.fLatency.fN),(.int .i64 zi.fLatency.fD),(.func (.func 32) #[] #[(.pointer (some z2s)),(.pointer (some z2t))]),(.slice z2u z2g.length z2v)],stb z3n 98 [(.int .i64 z6B)],stb z4s 30 [(.int .i64 z6C),(.int .i64 z6D)]] [] [fz z7F,stb z2J 79 [(.slice z2h z1G.length z2i),(.int .i64 zi.fRate.fN),(.int .i64 zi.fRate.fD),(.int .i64 zi.fLatency.fN),(.int .i64 zi.fLatency.fD),(.func (.func 32) #[] #[(.pointer (some z2s)),(.pointer (some z2t))]),(.slice z2u z2g.length z2v)],stb z3n 98 [(.int .i64 z6B)],stb z4s 30 [(.int .i64 z6C),(.int .i64 z6D)]]) .here); exact w_rat_Cmp (Z:=_)  (z21:=(⟨z6C,z6D⟩ : z2)) (z23:=zi.fRate) (r:=zjq) w pz  zsT) ?_
       refine WL.quiet (d:=60) rfl rfl rfl (q_gtr rfl rfl) ?_
       refine WL.quiet (d:=61) rfl rfl rfl (q_pickT rfl rfl) ?_
       exact WL.cutEnd () trivial (.cons rfl (.cons (zp zeo) .nil)) (.cons .here (.cons .here (.cons .here (.cons .here .nil))))
      ·have znZ:=hb'; clear hb'
       have zjz:=ite_f znX znZ
       replace zjz:=Option.some.inj zjz
       refine WL.pin (i:=54) rfl znZ ?_
       refine WL.skip rfl rfl rfl ?_
       refine WL.skip rfl rfl rfl ?_
       refine WL.skip rfl rfl rfl ?_
       refine WL.skip rfl rfl rfl ?_
       refine WL.skip rfl rfl rfl ?_
       refine WL.skip rfl rfl rfl ?_
       refine WL.quiet (d:=61) rfl rfl rfl (q_pickF rfl rfl) ?_
       exact WL.cutEnd () trivial (.cons rfl (.cons (zp zjz) .nil)) (.cons .here (.cons .here (.cons .here (.cons .here .nil))))
     ·skip
      refine WL.nil ?_
      refine WX.then ?_
      refine WC.cond rfl (fun zjA=>?_) (fun zjA=>?_)
      ·replace h:=ite_t h zjA
       refine WC.seq ?_
       refine WC.region ?_
       refine WL.quiet (d:=2) rfl rfl rfl (q_assign rfl) ?_
       refine WL.nil ?_
       refine WX.then ?_
       refine WC.ret ?_
       refine WX.thenRet ?_
       obtain rfl:=Option.some.inj h
       refine WX.bpRet Try.results52 (.tmp rfl .nil) (fun w hw=>?_)
       exact ⟨z7F,ret1 rfl,trivial,hw.sub (.cons .here .nil)⟩
      ·replace h:=ite_f h zjA
       refine WC.skip ?_
       refine WX.then ?_
       refine WC.seq ?_
       refine WC.region ?_
       refine WL.quiet (d:=62) rfl rfl rfl (q_fieldAddr fo_98_0 rfl rfl) ?_
       refine WL.quiet (d:=63) rfl rfl rfl (q_load1 oneT_31 rfl (rd_stb (.there (.there .here)) rfl)) ?_
       refine WL.quiet (d:=2) rfl rfl rfl (q_assign rfl) ?_
       refine WL.nil ?_
       refine WX.then ?_
       refine WC.ret ?_
       obtain rfl:=Option.some.inj h
       refine WX.bpRet Try.results52 (.tmp rfl .nil) (fun w hw=>?_)
       exact ⟨z7F,ret1 rfl,trivial,hw.sub (.cons .here .nil)⟩
def m_calculus_search_points (z9B : List (List z1)) (z4t : Sapi_Server) (zep : List (List z1)) (zbz : Sapi_Server) (z9C : List z2) : Option (Int × Int × Int × Int) :=
 some (z4t.fRate.fN,z4t.fRate.fD,z4t.fLatency.fN,z4t.fLatency.fD)
set_option maxRecDepth 20000 in
theorem w_calculus_search_points (Z : Zp)  (zbA : Option Addr) (zbB : Nat) (zbC : Addr) (zjB : Option Addr) (zjC : Nat) (zbD : Addr) (zbE : Option Addr) (zbF : Nat) (z9B : List (List z1)) (z4t : Sapi_Server) (zep : List (List z1)) (zbz : Sapi_Server) (z9C : List z2) (r : Int × Int × Int × Int) (w₀ : World) (hz : PZ [] w₀ Z)
  (zy4 : ZS Z 1 (p39 Z) zbA zbB z9B)
  (zy5 : ZS Z 1 (p39 Z) zjB zjC zep)
  (zy6 : ZC Z zbC [(.slice zjB zep.length zjC)])
  (zy7 : ZC Z zbD [(.int .i64 zbz.fRate.fN),(.int .i64 zbz.fRate.fD),(.int .i64 zbz.fLatency.fN),(.int .i64 zbz.fLatency.fD)])
  (zy8 : ZS Z 2 (fun r x=>r = e30 x) zbE zbF z9C)
  (h : m_calculus_search_points z9B z4t zep zbz z9C = some r) :
  Calls Try.prog 53 #[(.agg #[(.slice zbA z9B.length zbB),(.int .i64 z4t.fRate.fN),(.int .i64 z4t.fRate.fD),(.int .i64 z4t.fLatency.fN),(.int .i64 z4t.fLatency.fD),(.func (.func 32) #[] #[(.pointer (some zbC)),(.pointer (some zbD))]),(.slice zbE z9C.length zbF)])] w₀ fun e w'=>∃ zo0 : Nat,e = .returned (.func (.func 69) #[] #[(.pointer (some ⟨zo0,0,none⟩))]) ∧ True ∧ Hp [] w₀ w' [stb zo0 79 [(.slice zbA z9B.length zbB),(.int .i64 r.1),(.int .i64 r.2.1),(.int .i64 r.2.2.1),(.int .i64 r.2.2.2),(.func (.func 32) #[] #[(.pointer (some zbC)),(.pointer (some zbD))]),(.slice zbE z9C.length zbF)]]:=by
 unfold m_calculus_search_points at h
 refine Calls.ofWC (vs:=[(.agg #[(.slice zbA z9B.length zbB),(.int .i64 z4t.fRate.fN),(.int .i64 z4t.fRate.fD),(.int .i64 z4t.fLatency.fN),(.int .i64 z4t.fLatency.fD),(.func (.func 32) #[] #[(.pointer (some zbC)),(.pointer (some zbD))]),(.slice zbE z9C.length zbF)])]) (pre:=[]) (env:=[(0,(.agg #[(.slice zbA z9B.length zbB),(.int .i64 z4t.fRate.fN),(.int .i64 z4t.fRate.fD),(.int .i64 z4t.fLatency.fN),(.int .i64 z4t.fLatency.fD),(.func (.func 32) #[] #[(.pointer (some zbC)),(.pointer (some zbD))]),(.slice zbE z9C.length zbF)]))]) Try.func53 rfl Try.ntmps53 rfl (Hp.nil w₀ _) rfl ?_
 refine WC.seq ?_
 refine WC.region ?_
 refine WL.new (dd:=1) rfl rfl rfl (e_box (cs:=[(.slice zbA z9B.length zbB),(.int .i64 z4t.fRate.fN),(.int .i64 z4t.fRate.fD),(.int .i64 z4t.fLatency.fN),(.int .i64 z4t.fLatency.fD),(.func (.func 32) #[] #[(.pointer (some zbC)),(.pointer (some zbD))]),(.slice zbE z9C.length zbF)]) rfl rfl) ?_
 intro zsU _
 refine WL.quiet (d:=2) rfl rfl rfl (q_assign rfl) ?_
 refine WL.nil ?_
 refine WX.then ?_
 refine WC.seq ?_
 refine WC.region ?_
 refine WL.quiet (d:=3) rfl rfl rfl (q_makeFunc (Eos.caps (l:=[.tmp 1]) (.cons rfl .nil))) ?_
 refine WL.quiet (d:=2) rfl rfl rfl (q_assign rfl) ?_
 refine WL.nil ?_
 refine WX.then ?_
 refine WC.ret ?_
 obtain rfl:=Option.some.inj h
 refine WX.bpRet Try.results53 (.tmp rfl .nil) (fun w hw=>?_)
 exact ⟨zsU,ret1 rfl,trivial,hw.sub (.cons .here .nil)⟩
def m_rat_Floor (z2K : z2) : Option Int :=
 (m_rat_Valid z2K).bind fun zjD=>if !zjD then some 0 else chk ((z2K.fD : Int) ≠ 0) (jp1 (fun (zaw : Int)=>some zaw) fun zgd=>chk ((z2K.fD : Int) ≠ 0) (if decide ((Int.tmod z2K.fN z2K.fD) < 0) then zgd (i64 ((i64 (Int.tdiv z2K.fN z2K.fD)) - 1)) else zgd (i64 (Int.tdiv z2K.fN z2K.fD))))
set_option maxRecDepth 20000 in
theorem w_rat_Floor (Z : Zp)   (z2K : z2) (r : Int) (w₀ : World) (hz : PZ [] w₀ Z)
  (h : m_rat_Floor z2K = some r) :
  Calls Try.prog 70 #[(.agg #[(.int .i64 z2K.fN),(.int .i64 z2K.fD)])] w₀ fun e w'=>e = .returned (.int .i64 r) ∧ Hp [] w₀ w' []:=by
 unfold m_rat_Floor at h
 refine Calls.ofWC (vs:=[(.agg #[(.int .i64 z2K.fN),(.int .i64 z2K.fD)])]) (pre:=[]) (env:=[(0,(.agg #[(.int .i64 z2K.fN),(.int .i64 z2K.fD)]))]) Try.func70 rfl Try.ntmps70 rfl (Hp.nil w₀ _) rfl ?_
 refine WC.seq ?_
 refine WC.region ?_
 refine WL.new (dd:=1) rfl rfl rfl (e_box (cs:=[(.int .i64 z2K.fN),(.int .i64 z2K.fD)]) rfl rfl) ?_
 intro zge _
 refine WL.quiet (d:=2) rfl rfl rfl (q_assign rfl) ?_
 refine WL.nil ?_
 refine WX.then ?_
 refine WC.seq ?_
 refine WC.seq ?_
 obtain ⟨zjD,zsV,h⟩:=ze h
 refine WC.region ?_
 refine WL.quiet (d:=4) rfl rfl rfl (q_loadA (cs:=[(.int .i64 z2K.fN),(.int .i64 z2K.fD)]) aggT_30 rfl rfl (rd_all .here)) ?_
 refine WL.callD (dd:=5) rfl rfl rfl (zn (l:=[.tmp 4]) Try.call39 (.cons rfl .nil)) (.nil : Sel [stb zge 30 [(.int .i64 z2K.fN),(.int .i64 z2K.fD)]] [] [stb zge 30 [(.int .i64 z2K.fN),(.int .i64 z2K.fD)]]) (fun w hw=>by have pz:=(hz.call hw (.nil : Sel [stb zge 30 [(.int .i64 z2K.fN),(.int .i64 z2K.fD)]] [] [stb zge 30 [(.int .i64 z2K.fN),(.int .i64 z2K.fD)]])); exact w_rat_Valid (Z:=_)  (z16:=z2K) (r:=zjD) w pz  zsV) ?_
 refine WL.quiet (d:=6) rfl rfl rfl (q_not rfl) ?_
 refine WL.nil ?_
 refine WX.then ?_
 refine WC.cond rfl (fun zjE=>?_) (fun zjE=>?_)
 ·replace h:=ite_t h zjE
  refine WC.seq ?_
  refine WC.region ?_
  refine WL.quiet (d:=2) rfl rfl rfl (q_assign rfl) ?_
  refine WL.nil ?_
  refine WX.then ?_
  refine WC.ret ?_
  refine WX.thenRet ?_
  obtain rfl:=Option.some.inj h
  refine WX.bpRet Try.results70 (.tmp rfl .nil) (fun w hw=>?_)
  exact ⟨ret1 rfl,hw.sub .nil⟩
 ·replace h:=ite_f h zjE
  refine WC.skip ?_
  refine WX.then ?_
  refine WC.seq ?_
  obtain ⟨zsW,h⟩:=chk_elim h
  refine WC.region ?_
  refine WL.quiet (d:=7) rfl rfl rfl (q_fieldAddr fo_30_0 rfl rfl) ?_
  refine WL.quiet (d:=8) rfl rfl rfl (q_load1 oneT_3 rfl (rd_stb .here rfl)) ?_
  refine WL.quiet (d:=9) rfl rfl rfl (q_fieldAddr fo_30_1 rfl rfl) ?_
  refine WL.quiet (d:=10) rfl rfl rfl (q_load1 oneT_3 rfl (rd_stb .here rfl)) ?_
  refine WL.quiet (d:=11) rfl rfl rfl (q_quo rfl rfl zsW rfl) ?_
  refine WL.quiet (d:=3) rfl rfl rfl (q_assign rfl) ?_
  refine WL.nil ?_
  refine WX.then ?_
  obtain ⟨zgd,zsX,h⟩:=jp1_elim h
  refine WC.seqMid1 (fun (zaw : Int)=>(zgd zaw = some r)) (fun (zaw : Int)=>[(3,(.int .i64 zaw))]) (fun (zaw : Int)=>[]) ?_ ?_
  ·skip
   refine WC.seq ?_
   obtain ⟨zsY,h⟩:=chk_elim h
   refine WC.region ?_
   refine WL.quiet (d:=12) rfl rfl rfl (q_fieldAddr fo_30_0 rfl rfl) ?_
   refine WL.quiet (d:=13) rfl rfl rfl (q_load1 oneT_3 rfl (rd_stb .here rfl)) ?_
   refine WL.quiet (d:=14) rfl rfl rfl (q_fieldAddr fo_30_1 rfl rfl) ?_
   refine WL.quiet (d:=15) rfl rfl rfl (q_load1 oneT_3 rfl (rd_stb .here rfl)) ?_
   refine WL.quiet (d:=16) rfl rfl rfl (q_rem rfl rfl zsY rfl) ?_
   refine WL.quiet (d:=17) rfl rfl rfl (q_lss rfl rfl) ?_
   refine WL.nil ?_
   refine WX.then ?_
   refine WC.cond rfl (fun zjF=>?_) (fun zjF=>?_)
   ·replace h:=ite_t h zjF
    refine WC.region ?_
    refine WL.quiet (d:=18) rfl rfl rfl (q_move rfl) ?_
    refine WL.quiet (d:=19) rfl rfl rfl (q_sub rfl rfl rfl) ?_
    refine WL.quiet (d:=3) rfl rfl rfl (q_assign rfl) ?_
    refine WL.nil ?_
    exact WX.mid (G:=Int) (i64 ((i64 (Int.tdiv z2K.fN z2K.fD)) - 1)) h (.cons rfl .nil) .nil
   ·replace h:=ite_f h zjF
    refine WC.skip ?_
    exact WX.mid (G:=Int) (i64 (Int.tdiv z2K.fN z2K.fD)) h (.cons rfl .nil) .nil
  ·rintro zaw h
   replace h:=(zsX zaw).symm.trans h
   refine WC.seq ?_
   refine WC.region ?_
   refine WL.quiet (d:=20) rfl rfl rfl (q_move rfl) ?_
   refine WL.quiet (d:=2) rfl rfl rfl (q_assign rfl) ?_
   refine WL.nil ?_
   refine WX.then ?_
   refine WC.ret ?_
   obtain rfl:=Option.some.inj h
   refine WX.bpRet Try.results70 (.tmp rfl .nil) (fun w hw=>?_)
   exact ⟨ret1 rfl,hw.sub .nil⟩
def m_rat_Ceil (z2B : z2) : Option Int :=
 (m_rat_Valid z2B).bind fun zjG=>if !zjG then some 0 else (m_rat_Floor (⟨i64 (0 - z2B.fN),z2B.fD⟩ : z2)).bind fun zjH=>some (i64 (0 - zjH))
set_option maxRecDepth 20000 in
theorem w_rat_Ceil (Z : Zp)   (z2B : z2) (r : Int) (w₀ : World) (hz : PZ [] w₀ Z)
  (h : m_rat_Ceil z2B = some r) :
  Calls Try.prog 71 #[(.agg #[(.int .i64 z2B.fN),(.int .i64 z2B.fD)])] w₀ fun e w'=>e = .returned (.int .i64 r) ∧ Hp [] w₀ w' []:=by
 unfold m_rat_Ceil at h
 refine Calls.ofWC (vs:=[(.agg #[(.int .i64 z2B.fN),(.int .i64 z2B.fD)])]) (pre:=[]) (env:=[(0,(.agg #[(.int .i64 z2B.fN),(.int .i64 z2B.fD)]))]) Try.func71 rfl Try.ntmps71 rfl (Hp.nil w₀ _) rfl ?_
 refine WC.seq ?_
 refine WC.region ?_
 refine WL.new (dd:=1) rfl rfl rfl (e_box (cs:=[(.int .i64 z2B.fN),(.int .i64 z2B.fD)]) rfl rfl) ?_
 intro zax _
 refine WL.quiet (d:=2) rfl rfl rfl (q_assign rfl) ?_
 refine WL.nil ?_
 refine WX.then ?_
 refine WC.seq ?_
 refine WC.seq ?_
 obtain ⟨zjG,zsZ,h⟩:=ze h
 refine WC.region ?_
 refine WL.quiet (d:=3) rfl rfl rfl (q_loadA (cs:=[(.int .i64 z2B.fN),(.int .i64 z2B.fD)]) aggT_30 rfl rfl (rd_all .here)) ?_
 refine WL.callD (dd:=4) rfl rfl rfl (zn (l:=[.tmp 3]) Try.call39 (.cons rfl .nil)) (.nil : Sel [stb zax 30 [(.int .i64 z2B.fN),(.int .i64 z2B.fD)]] [] [stb zax 30 [(.int .i64 z2B.fN),(.int .i64 z2B.fD)]]) (fun w hw=>by have pz:=(hz.call hw (.nil : Sel [stb zax 30 [(.int .i64 z2B.fN),(.int .i64 z2B.fD)]] [] [stb zax 30 [(.int .i64 z2B.fN),(.int .i64 z2B.fD)]])); exact w_rat_Valid (Z:=_)  (z16:=z2B) (r:=zjG) w pz  zsZ) ?_
 refine WL.quiet (d:=5) rfl rfl rfl (q_not rfl) ?_
 refine WL.nil ?_
 refine WX.then ?_
 refine WC.cond rfl (fun zjI=>?_) (fun zjI=>?_)
 ·replace h:=ite_t h zjI
  refine WC.seq ?_
  refine WC.region ?_
  refine WL.quiet (d:=2) rfl rfl rfl (q_assign rfl) ?_
  refine WL.nil ?_
  refine WX.then ?_
  refine WC.ret ?_
  refine WX.thenRet ?_
  obtain rfl:=Option.some.inj h
  refine WX.bpRet Try.results71 (.tmp rfl .nil) (fun w hw=>?_)
  exact ⟨ret1 rfl,hw.sub .nil⟩
 ·replace h:=ite_f h zjI
  refine WC.skip ?_
  refine WX.then ?_
  refine WC.seq ?_
  obtain ⟨zjH,zt0,h⟩:=ze h
  refine WC.region ?_
  refine WL.quiet (d:=6) rfl rfl rfl (q_fieldAddr fo_30_0 rfl rfl) ?_
  refine WL.quiet (d:=7) rfl rfl rfl (q_load1 oneT_3 rfl (rd_stb .here rfl)) ?_
  refine WL.quiet (d:=8) rfl rfl rfl (q_neg rfl rfl) ?_
  refine WL.quiet (d:=9) rfl rfl rfl (q_fieldAddr fo_30_1 rfl rfl) ?_
  refine WL.quiet (d:=10) rfl rfl rfl (q_load1 oneT_3 rfl (rd_stb .here rfl)) ?_
  refine WL.quiet (d:=11) rfl rfl rfl (q_build (v:=(.agg #[(.int .i64 (i64 (0 - z2B.fN))),(.int .i64 z2B.fD)])) (Eos.parts (l:=[.tmp 8,.tmp 10]) (.cons rfl (.cons rfl .nil)) [0,1]) (fun _=>by kernel_rfl)) ?_
  refine WL.callD (dd:=12) rfl rfl rfl (zn (l:=[.tmp 11]) Try.call70 (.cons rfl .nil)) (.nil : Sel [stb zax 30 [(.int .i64 z2B.fN),(.int .i64 z2B.fD)]] [] [stb zax 30 [(.int .i64 z2B.fN),(.int .i64 z2B.fD)]]) (fun w hw=>by have pz:=(hz.call hw (.nil : Sel [stb zax 30 [(.int .i64 z2B.fN),(.int .i64 z2B.fD)]] [] [stb zax 30 [(.int .i64 z2B.fN),(.int .i64 z2B.fD)]])); exact w_rat_Floor (Z:=_)  (z2K:=(⟨i64 (0 - z2B.fN),z2B.fD⟩ : z2)) (r:=zjH) w pz  zt0) ?_
  refine WL.quiet (d:=13) rfl rfl rfl (q_neg rfl rfl) ?_
  refine WL.quiet (d:=2) rfl rfl rfl (q_assign rfl) ?_
  refine WL.nil ?_
  refine WX.then ?_
  refine WC.ret ?_
  obtain rfl:=Option.some.inj h
  refine WX.bpRet Try.results71 (.tmp rfl .nil) (fun w hw=>?_)
  exact ⟨ret1 rfl,hw.sub .nil⟩
def m_calculus_search_points_1_L5 (zu : Type) (zx : List z2 × Int) (z3H : z2 → zu → Option (Bool × zu)) (z9D : zu → Option zu) : Nat → Int → zu → Option zu
 | 0,_,_=>none
 | zjJ + 1,z1m,z4f=>if decide (z1m < ((zx.1.length : Nat) : Int)) then chk ((0 : Int) ≤ z1m ∧ z1m < ((zx.1.length : Nat) : Int)) ((m_rat_Floor (⟨((nth zx.1 z1m).fN),((nth zx.1 z1m).fD)⟩ : z2)).bind fun zgf=>(m_calculus_whole zgf).bind fun zgg=>(z3H zgg z4f).bind fun z5x=>(if !z5x.1 then some (true,z5x.2) else (m_rat_Ceil (⟨((nth zx.1 z1m).fN),((nth zx.1 z1m).fD)⟩ : z2)).bind fun zgh=>(m_calculus_whole zgh).bind fun zgi=>(z3H zgi z5x.2).bind fun zeq=>some (!zeq.1,zeq.2)).bind fun zay=>if zay.1 then some zay.2 else m_calculus_search_points_1_L5 zu zx z3H z9D zjJ (i64 (z1m + 1)) zay.2) else z9D z4f
theorem m_calculus_search_points_1_L5_fuel {n : Nat} {zu : Type} {zx : List z2 × Int} {z3H : z2 → zu → Option (Bool × zu)} {z9D : zu → Option zu} {z1m : Int} {z4f : zu} {r : zu} (h : m_calculus_search_points_1_L5 zu zx z3H z9D n z1m z4f = some r) : ∃ m,n = m + 1:=by
 cases n with
 | zero=>cases h
 | succ m=>exact ⟨m,rfl⟩
def m_calculus_search_points_1_L4 (zu : Type) (z3V : List (List z1)) (z3H : z2 → zu → Option (Bool × zu)) (z9E : zu → Option zu) : Nat → Int → zu → Option zu
 | 0,_,_=>none
 | zjK + 1,z4Z,z5y=>if decide (z4Z < ((z3V.length : Nat) : Int)) then jp1 (fun (z8I : zu)=>m_calculus_search_points_1_L4 zu z3V z3H z9E zjK (i64 (z4Z + 1)) z8I) fun zjL=>chk ((0 : Int) ≤ z4Z ∧ z4Z < ((z3V.length : Nat) : Int)) ((m_curve_Breaks (nth z3V z4Z)).bind fun zx=>jp1 (fun (z8J : zu)=>zjL z8J) fun z9D=>m_calculus_search_points_1_L5 zu zx z3H z9D FUEL 0 z5y) else z9E z5y
theorem m_calculus_search_points_1_L4_fuel {n : Nat} {zu : Type} {z3V : List (List z1)} {z3H : z2 → zu → Option (Bool × zu)} {z9E : zu → Option zu} {z4Z : Int} {z5y : zu} {r : zu} (h : m_calculus_search_points_1_L4 zu z3V z3H z9E n z4Z z5y = some r) : ∃ m,n = m + 1:=by
 cases n with
 | zero=>cases h
 | succ m=>exact ⟨m,rfl⟩
def m_calculus_search_points_1_L6 (zu : Type) (z1d : List z2) (z3H : z2 → zu → Option (Bool × zu)) (z9F : zu → Option zu) : Nat → Int → zu → Option zu
 | 0,_,_=>none
 | zjM + 1,z1n,z4g=>if decide (z1n < ((z1d.length : Nat) : Int)) then chk ((0 : Int) ≤ z1n ∧ z1n < ((z1d.length : Nat) : Int)) ((m_rat_Floor (⟨((nth z1d z1n).fN),((nth z1d z1n).fD)⟩ : z2)).bind fun zgj=>(m_calculus_whole zgj).bind fun zgk=>(z3H zgk z4g).bind fun z5z=>(if !z5z.1 then some (true,z5z.2) else (m_rat_Ceil (⟨((nth z1d z1n).fN),((nth z1d z1n).fD)⟩ : z2)).bind fun zgl=>(m_calculus_whole zgl).bind fun zgm=>(z3H zgm z5z.2).bind fun zer=>some (!zer.1,zer.2)).bind fun zaz=>if zaz.1 then some zaz.2 else m_calculus_search_points_1_L6 zu z1d z3H z9F zjM (i64 (z1n + 1)) zaz.2) else z9F z4g
theorem m_calculus_search_points_1_L6_fuel {n : Nat} {zu : Type} {z1d : List z2} {z3H : z2 → zu → Option (Bool × zu)} {z9F : zu → Option zu} {z1n : Int} {z4g : zu} {r : zu} (h : m_calculus_search_points_1_L6 zu z1d z3H z9F n z1n z4g = some r) : ∃ m,n = m + 1:=by
 cases n with
 | zero=>cases h
 | succ m=>exact ⟨m,rfl⟩
def m_calculus_search_points_1 (zu : Type) (z3H : z2 → zu → Option (Bool × zu)) (s0_16993 : zu) (z3V : List (List z1)) (zbG : Sapi_Server) (zes : List (List z1)) (zbH : Sapi_Server) (z1d : List z2) : Option zu :=
 (m_calculus_zero).bind fun zgn=>(z3H zgn s0_16993).bind fun zbI=>if !zbI.1 then some zbI.2 else jp1 (fun (z8K : zu)=>jp1 (fun (z9G : zu)=>some z9G) fun z9F=>m_calculus_search_points_1_L6 zu z1d z3H z9F FUEL 0 z8K) fun z9E=>m_calculus_search_points_1_L4 zu z3V z3H z9E FUEL 0 zbI.2
set_option maxRecDepth 20000 in
theorem w_calculus_search_points_1 (Z : Zp) (zu : Type) (z7i : Nat) (z2j : Type) (z1o : z2j → zu → Asrt) (z7j : z2j → zu → Prop) (z6Z : z2j) (z8g : Addr) (zaA : Option Addr) (zaB : Nat) (zjN : Addr) (zjO : Option Addr) (zjP : Nat) (zjQ : Addr) (zet : Option Addr) (zeu : Nat) (z3H : z2 → zu → Option (Bool × zu)) (s0_16993 : zu) (z3V : List (List z1)) (zbG : Sapi_Server) (zes : List (List z1)) (zbH : Sapi_Server) (z1d : List z2) (r : zu) (w₀ : World) (hz : PZ (fps [z1o z6Z s0_16993]) w₀ Z)
  (zev : YieldP Try.prog Z z7i (α:=z2) (σ:=zu) (G:=z2j) (H:=Unit) (fun h x=>[(.agg #[(.int .i64 x.fN),(.int .i64 x.fD)])]) (fun h x=>[]) z3H z1o z7j)
  (zt1 : z7j z6Z s0_16993)
  (zt2 : ZS Z 1 (p39 Z) zaA zaB z3V)
  (zy9 : ZS Z 1 (p39 Z) zjO zjP zes)
  (zya : ZC Z zjN [(.slice zjO zes.length zjP)])
  (zyb : ZC Z zjQ [(.int .i64 zbH.fRate.fN),(.int .i64 zbH.fRate.fD),(.int .i64 zbH.fLatency.fN),(.int .i64 zbH.fLatency.fD)])
  (zt3 : ZS Z 2 (fun r x=>r = e30 x) zet zeu z1d)
  (zo1 : ZC Z z8g [(.slice zaA z3V.length zaB),(.int .i64 zbG.fRate.fN),(.int .i64 zbG.fRate.fD),(.int .i64 zbG.fLatency.fN),(.int .i64 zbG.fLatency.fD),(.func (.func 32) #[] #[(.pointer (some zjN)),(.pointer (some zjQ))]),(.slice zet z1d.length zeu)])
  (h : m_calculus_search_points_1 zu z3H s0_16993 z3V zbG zes zbH z1d = some r)
  (hown : Hp (fps [z1o z6Z s0_16993]) w₀ w₀ [z1o z6Z s0_16993]) :
  Calls Try.prog 69 #[(.func (.yield z7i) #[] #[]),(.pointer (some z8g))] w₀ fun e w'=>∃ Zn : Zp,∃ zo2 : z2j,e = .returned (.tuple #[]) ∧ (z7j zo2 r) ∧ Hp (fps [z1o z6Z s0_16993]) w₀ w' [fz Zn,z1o zo2 r]:=by
 unfold m_calculus_search_points_1 at h
 refine Calls.ofWC (vs:=[(.func (.yield z7i) #[] #[]),(.pointer (some z8g))]) (pre:=[z1o z6Z s0_16993]) (env:=[(0,(.func (.yield z7i) #[] #[])),(1,(.pointer (some z8g)))]) Try.func69 rfl Try.ntmps69 rfl (hown) rfl ?_
 refine WC.pool ?_
 refine WC.seq ?_
 refine WC.seq ?_
 obtain ⟨zgn,zt4,h⟩:=ze h
 obtain ⟨zbI,zt5,h⟩:=ze h
 refine WC.region ?_
 refine WL.quiet (d:=11) rfl rfl rfl (q_move rfl) ?_
 refine WL.callD (dd:=12) rfl rfl rfl (zn (l:=[]) Try.call51 .nil) (.nil : Sel [fz [],z1o z6Z s0_16993] [] [fz [],z1o z6Z s0_16993]) (fun w hw=>by have pz:=(hz.call2 hw (.nil : Sel [fz [],z1o z6Z s0_16993] [] [fz [],z1o z6Z s0_16993]) .here); exact w_calculus_zero (Z:=_)   (r:=zgn) w pz  zt4) ?_
 refine WL.yield (dd:=13) (x:=zgn) (h:=()) (g:=z6Z) (s:=s0_16993) (b:=zbI.1) (s':=zbI.2) zev rfl rfl rfl (.cons rfl .nil) ((.cons (.there .here) .nil) : Sel _ [z1o z6Z s0_16993] _) zt5 zt1 (fun w hw=>hz.call hw ((.cons (.there .here) .nil) : Sel _ [z1o z6Z s0_16993] _)) ?_
 intro zo3 zo4
 refine WL.quiet (d:=14) rfl rfl rfl (q_not rfl) ?_
 refine WL.nil ?_
 refine WX.then ?_
 refine WC.cond rfl (fun zjR=>?_) (fun zjR=>?_)
 ·replace h:=ite_t h zjR
  refine WC.ret ?_
  refine WX.thenRet ?_
  obtain rfl:=Option.some.inj h
  refine WX.bpRet Try.results69 .nil (fun w hw=>?_)
  exact ⟨[],zo3,ret0,zo4,hw.sub (.cons (.there .here) (.cons .here .nil))⟩
 ·replace h:=ite_f h zjR
  refine WC.skip ?_
  refine WX.then ?_
  obtain ⟨z9E,zt6,h⟩:=jp1_elim h
  refine WC.seqMid3 (fun (z8K : zu) (z3I : Zp) (zd3 : z2j)=>(z9E z8K = some r) ∧ (Zle (Z ++ []) (Z ++ z3I)) ∧ (z7j zd3 z8K)) (fun (z8K : zu) (z3I : Zp) (zd3 : z2j)=>[(0,(.func (.yield z7i) #[] #[])),(1,(.pointer (some z8g)))]) (fun (z8K : zu) (z3I : Zp) (zd3 : z2j)=>[fz z3I,z1o zd3 z8K]) ?_ ?_
  ·skip
   refine WC.seq ?_
   refine WC.region ?_
   refine WL.quiet (d:=15) rfl rfl rfl (q_fieldAddr fo_79_0 rfl rfl) ?_
   refine WL.quiet (d:=16) rfl rfl rfl (q_load1 oneT_26 rfl (rd_zAt (hz.pv2 (.there .here)) (zo1.mono (Zle.left _ _)) rfl)) ?_
   refine WL.quiet (d:=17) rfl rfl rfl (q_len Try.underlying26 rfl) ?_
   refine WL.quiet (d:=18) rfl rfl rfl (q_move rfl) ?_
   refine WL.nil ?_
   refine WX.then ?_
   refine WC.block ?_
   refine WC.loop5 (fun (zd4 : Nat) (z4Z : Int) (z5y : zu) (z2W : Zp) (z7H : z2j)=>(m_calculus_search_points_1_L4 zu z3V z3H z9E zd4 z4Z z5y = some r) ∧ (Zle (Z ++ []) (Z ++ z2W)) ∧ (z7j z7H z5y)) (fun (zd4 : Nat) (z4Z : Int) (z5y : zu) (z2W : Zp) (z7H : z2j)=>[(0,(.func (.yield z7i) #[] #[])),(1,(.pointer (some z8g))),(16,(.slice zaA z3V.length zaB)),(17,(.int .i64 ((z3V.length : Nat) : Int))),(18,(.int .i64 z4Z))]) (fun (zd4 : Nat) (z4Z : Int) (z5y : zu) (z2W : Zp) (z7H : z2j)=>[fz z2W,z1o z7H z5y]) (fun (zd4 : Nat) (z4Z : Int) (z5y : zu) (z2W : Zp) (z7H : z2j)=>zd4) ⟨FUEL,0,zbI.2,[],zo3⟩ ⟨h,(Zle.refl _),zo4⟩ (.cons rfl (.cons rfl (.cons rfl (.cons rfl (.cons rfl .nil))))) (.cons (.there .here) (.cons .here .nil)) ?_
   rintro zd4 z4Z z5y z2W z7H ⟨h,zgo,zo5⟩
   obtain ⟨zjK,rfl⟩:=m_calculus_search_points_1_L4_fuel h
   rw [m_calculus_search_points_1_L4] at h
   refine WC.seq ?_
   refine WC.region ?_
   refine WL.quiet (d:=19) rfl rfl rfl (q_lss rfl rfl) ?_
   refine WL.nil ?_
   refine WX.then ?_
   refine WC.seq ?_
   refine WC.cond rfl (fun zjS=>?_) (fun zjS=>?_)
   ·replace h:=ite_t h zjS
    refine WC.skip ?_
    refine WX.then ?_
    obtain ⟨zjL,zt7,h⟩:=jp1_elim h
    refine WC.seqMid3 (fun (z8I : zu) (zd5 : Zp) (zd6 : z2j)=>(zjL z8I = some r) ∧ (Zle (Z ++ z2W) (Z ++ zd5)) ∧ (z7j zd6 z8I)) (fun (z8I : zu) (zd5 : Zp) (zd6 : z2j)=>[(0,(.func (.yield z7i) #[] #[])),(1,(.pointer (some z8g))),(16,(.slice zaA z3V.length zaB)),(17,(.int .i64 ((z3V.length : Nat) : Int))),(18,(.int .i64 z4Z))]) (fun (z8I : zu) (zd5 : Zp) (zd6 : z2j)=>[fz zd5,z1o zd6 z8I]) ?_ ?_
    ·skip
     refine WC.block ?_
     refine WC.seq ?_
     obtain ⟨zt8,h⟩:=chk_elim h
     refine WC.region ?_
     refine WL.znth (dd:=20) rfl rfl (Z:=(Z ++ z2W)) (Pr:=(p39 (Z ++ z2W))) elT_26 rfl rfl ((zt2.mono ((Zle.left _ _).trans zgo)).weak (fun _ _ h=>p39_mono ((Zle.left _ _).trans zgo) h)) zt8 ?_
     rintro zyc zyd zt9 zye ⟨zta,ztb,rfl,ztc⟩
     refine WL.quiet (d:=21) rfl rfl rfl (q_load1 oneT_39 rfl (rd_z (hz.pv2 .here) zt9 rfl)) ?_
     refine WL.quiet (d:=4) rfl rfl rfl (q_assign rfl) ?_
     refine WL.nil ?_
     refine WX.then ?_
     refine WC.seq ?_
     obtain ⟨zx,ztd,h⟩:=ze h
     refine WC.region ?_
     refine WL.quiet (d:=23) rfl rfl rfl (q_move rfl) ?_
     refine WL.enter3 (dd:=24) rfl rfl rfl (zn (l:=[.tmp 23]) Try.call68 (.cons rfl .nil)) (.nil : Sel [fz z2W,z1o z7H z5y] [] [fz z2W,z1o z7H z5y]) (fun w hw=>by have pz:=(hz.call2 hw (.nil : Sel [fz z2W,z1o z7H z5y] [] [fz z2W,z1o z7H z5y]) .here); exact w_curve_Breaks (Z:=_) (z8C:=zta) (z8D:=ztb) (z6W:=(nth z3V z4Z)) (r:=zx) w pz ztc ztd) ?_
     rintro z4V zte ztf _
     refine WL.merge .here (.there .here) ?_
     refine WL.quiet (d:=22) rfl rfl rfl (q_move rfl) ?_
     refine WL.quiet (d:=25) rfl rfl rfl (q_extract rfl rfl) ?_
     refine WL.quiet (d:=26) rfl rfl rfl (q_extract rfl rfl) ?_
     refine WL.quiet (d:=5) rfl rfl rfl (q_assign rfl) ?_
     refine WL.quiet (d:=6) rfl rfl rfl (q_assign rfl) ?_
     refine WL.nil ?_
     refine WX.then ?_
     refine WC.seq ?_
     refine WC.region ?_
     refine WL.quiet (d:=27) rfl rfl rfl (q_move rfl) ?_
     refine WL.quiet (d:=28) rfl rfl rfl (q_len Try.underlying77 rfl) ?_
     refine WL.quiet (d:=29) rfl rfl rfl (q_move rfl) ?_
     refine WL.nil ?_
     refine WX.then ?_
     obtain ⟨z9D,ztg,h⟩:=jp1_elim h
     refine WC.mid2 (fun (z8J : zu) (zd7 : z2j)=>(z9D z8J = some r) ∧ (z7j zd7 z8J)) (fun (z8J : zu) (zd7 : z2j)=>[(0,(.func (.yield z7i) #[] #[])),(1,(.pointer (some z8g))),(16,(.slice zaA z3V.length zaB)),(17,(.int .i64 ((z3V.length : Nat) : Int))),(18,(.int .i64 z4Z))]) (fun (z8J : zu) (zd7 : z2j)=>[fz (z2W ++ z4V),z1o zd7 z8J]) ?_ ?_
     ·skip
      refine WC.block ?_
      refine WC.loop6 (fun (zd8 : Nat) (z1m : Int) (z4f : zu) (zd9 : Option Addr) (z3W : Nat) (z5A : z2j)=>(m_calculus_search_points_1_L5 zu zx z3H z9D zd8 z1m z4f = some r) ∧ (z7j z5A z4f)) (fun (zd8 : Nat) (z1m : Int) (z4f : zu) (zd9 : Option Addr) (z3W : Nat) (z5A : z2j)=>[(0,(.func (.yield z7i) #[] #[])),(1,(.pointer (some z8g))),(16,(.slice zaA z3V.length zaB)),(17,(.int .i64 ((z3V.length : Nat) : Int))),(18,(.int .i64 z4Z)),(27,(.slice zd9 zx.1.length z3W)),(28,(.int .i64 ((zx.1.length : Nat) : Int))),(29,(.int .i64 z1m))]) (fun (zd8 : Nat) (z1m : Int) (z4f : zu) (zd9 : Option Addr) (z3W : Nat) (z5A : z2j)=>[fz (z2W ++ z4V),row (.slice zd9 zx.1.length z3W) 30 2 (zx.1.flatMap e30),z1o z5A z4f]) (fun (zd8 : Nat) (z1m : Int) (z4f : zu) (zd9 : Option Addr) (z3W : Nat) (z5A : z2j)=>zd8) ⟨FUEL,0,z5y,zte,ztf,z7H⟩ ⟨h,zo5⟩ (.cons rfl (.cons rfl (.cons rfl (.cons rfl (.cons rfl (.cons rfl (.cons rfl (.cons rfl .nil)))))))) (.cons .here (.cons .here (.cons .here .nil))) ?_
      rintro zd8 z1m z4f zd9 z3W z5A ⟨h,zo6⟩
      obtain ⟨zjJ,rfl⟩:=m_calculus_search_points_1_L5_fuel h
      rw [m_calculus_search_points_1_L5] at h
      refine WC.seq ?_
      refine WC.region ?_
      refine WL.quiet (d:=30) rfl rfl rfl (q_lss rfl rfl) ?_
      refine WL.nil ?_
      refine WX.then ?_
      refine WC.seq ?_
      refine WC.cond rfl (fun zjT=>?_) (fun zjT=>?_)
      ·replace h:=ite_t h zjT
       refine WC.skip ?_
       refine WX.then ?_
       refine WC.seq ?_
       refine WC.block ?_
       refine WC.seq ?_
       obtain ⟨zew,h⟩:=chk_elim h
       refine WC.region ?_
       refine WL.know (fun w hw=>Hp.expose (.there .here) hw (by intro hz'; have:=zew; rw [hz'] at this; omega)) ?_
       rintro ⟨z5g,rfl⟩
       refine WL.quiet (d:=31) rfl rfl rfl (q_indexAddr elT_77 rfl rfl zew.1 zew.2 rowAdd) ?_
       refine WL.quiet (d:=32) rfl rfl rfl (q_loadA (cs:=(e30 (nth zx.1 z1m))) aggT_30 rfl rfl (rd_rows (.there .here) (flat_rd (enc:=e30) (l:=zx.1) (i:=z1m) (sz:=2) (fun _=>rfl) zew.1 zew.2))) ?_
       refine WL.new (dd:=8) rfl rfl rfl (e_alloc (cs:=[(.int .i64 0),(.int .i64 0)]) zeroT_30 rfl) ?_
       intro z63 _
       refine WL.eff0 rfl rfl (e_store (vs:=[(.int .i64 ((nth zx.1 z1m).fN)),(.int .i64 ((nth zx.1 z1m).fD))]) (ds:=[(.int .i64 ((nth zx.1 z1m).fN)),(.int .i64 ((nth zx.1 z1m).fD))]) sizT_30 rfl rfl rfl rfl (oc_cons rfl (oc_cons rfl oc_nil)) .here (Nat.le_of_ble_eq_true rfl) rfl) ?_
       refine WL.nil ?_
       refine WX.then ?_
       refine WC.seq ?_
       obtain ⟨zgf,zth,h⟩:=ze h
       obtain ⟨zgg,zti,h⟩:=ze h
       obtain ⟨z5x,ztj,h⟩:=ze h
       obtain ⟨zay,zo7,h⟩:=ze h
       refine WC.region ?_
       refine WL.quiet (d:=33) rfl rfl rfl (q_move rfl) ?_
       refine WL.quiet (d:=34) rfl rfl rfl (q_loadA (cs:=[(.int .i64 ((nth zx.1 z1m).fN)),(.int .i64 ((nth zx.1 z1m).fD))]) aggT_30 rfl rfl (rd_all .here)) ?_
       refine WL.callD (dd:=35) rfl rfl rfl (zn (l:=[.tmp 34]) Try.call70 (.cons rfl .nil)) (.nil : Sel [stb z63 30 [(.int .i64 ((nth zx.1 z1m).fN)),(.int .i64 ((nth zx.1 z1m).fD))],fz (z2W ++ z4V),row (.slice (some ⟨z5g,0,none⟩) zx.1.length z3W) 30 2 (zx.1.flatMap e30),z1o z5A z4f] [] [stb z63 30 [(.int .i64 ((nth zx.1 z1m).fN)),(.int .i64 ((nth zx.1 z1m).fD))],fz (z2W ++ z4V),row (.slice (some ⟨z5g,0,none⟩) zx.1.length z3W) 30 2 (zx.1.flatMap e30),z1o z5A z4f]) (fun w hw=>by have pz:=(hz.call2 hw (.nil : Sel [stb z63 30 [(.int .i64 ((nth zx.1 z1m).fN)),(.int .i64 ((nth zx.1 z1m).fD))],fz (z2W ++ z4V),row (.slice (some ⟨z5g,0,none⟩) zx.1.length z3W) 30 2 (zx.1.flatMap e30),z1o z5A z4f] [] [stb z63 30 [(.int .i64 ((nth zx.1 z1m).fN)),(.int .i64 ((nth zx.1 z1m).fD))],fz (z2W ++ z4V),row (.slice (some ⟨z5g,0,none⟩) zx.1.length z3W) 30 2 (zx.1.flatMap e30),z1o z5A z4f]) (.there .here)); exact w_rat_Floor (Z:=_)  (z2K:=(⟨((nth zx.1 z1m).fN),((nth zx.1 z1m).fD)⟩ : z2)) (r:=zgf) w pz  zth) ?_
       refine WL.callD (dd:=36) rfl rfl rfl (zn (l:=[.tmp 35]) Try.call65 (.cons rfl .nil)) (.nil : Sel [stb z63 30 [(.int .i64 ((nth zx.1 z1m).fN)),(.int .i64 ((nth zx.1 z1m).fD))],fz (z2W ++ z4V),row (.slice (some ⟨z5g,0,none⟩) zx.1.length z3W) 30 2 (zx.1.flatMap e30),z1o z5A z4f] [] [stb z63 30 [(.int .i64 ((nth zx.1 z1m).fN)),(.int .i64 ((nth zx.1 z1m).fD))],fz (z2W ++ z4V),row (.slice (some ⟨z5g,0,none⟩) zx.1.length z3W) 30 2 (zx.1.flatMap e30),z1o z5A z4f]) (fun w hw=>by have pz:=(hz.call2 hw (.nil : Sel [stb z63 30 [(.int .i64 ((nth zx.1 z1m).fN)),(.int .i64 ((nth zx.1 z1m).fD))],fz (z2W ++ z4V),row (.slice (some ⟨z5g,0,none⟩) zx.1.length z3W) 30 2 (zx.1.flatMap e30),z1o z5A z4f] [] [stb z63 30 [(.int .i64 ((nth zx.1 z1m).fN)),(.int .i64 ((nth zx.1 z1m).fD))],fz (z2W ++ z4V),row (.slice (some ⟨z5g,0,none⟩) zx.1.length z3W) 30 2 (zx.1.flatMap e30),z1o z5A z4f]) (.there .here)); exact w_calculus_whole (Z:=_)  (z5v:=zgf) (r:=zgg) w pz  zti) ?_
       refine WL.yield (dd:=37) (x:=zgg) (h:=()) (g:=z5A) (s:=z4f) (b:=z5x.1) (s':=z5x.2) zev rfl rfl rfl (.cons rfl .nil) ((.cons (.there (.there (.there .here))) .nil) : Sel _ [z1o z5A z4f] _) ztj zo6 (fun w hw=>hz.call hw ((.cons (.there (.there (.there .here))) .nil) : Sel _ [z1o z5A z4f] _)) ?_
       intro z7I zo8
       refine WL.quiet (d:=38) rfl rfl rfl (q_not rfl) ?_
       refine WL.quiet (d:=39) rfl rfl rfl (q_move rfl) ?_
       refine WL.cut1 (fun (zbJ : z2j)=>z7j zbJ zay.2) (fun (zbJ : z2j)=>[(0,(.func (.yield z7i) #[] #[])),(1,(.pointer (some z8g))),(16,(.slice zaA z3V.length zaB)),(17,(.int .i64 ((z3V.length : Nat) : Int))),(18,(.int .i64 z4Z)),(27,(.slice (some ⟨z5g,0,none⟩) zx.1.length z3W)),(28,(.int .i64 ((zx.1.length : Nat) : Int))),(29,(.int .i64 z1m)),(46,(.bool zay.1))]) (fun (zbJ : z2j)=>[z1o zbJ zay.2,stb z63 30 [(.int .i64 ((nth zx.1 z1m).fN)),(.int .i64 ((nth zx.1 z1m).fD))],fz (z2W ++ z4V),row (.slice (some ⟨z5g,0,none⟩) zx.1.length z3W) 30 2 (zx.1.flatMap e30)]) 7 ?_ (fun zbJ zo9=>?_)
       ·rcases Bool.eq_false_or_eq_true (!z5x.1) with hb' | hb'
        ·have zoa:=hb'; clear hb'
         have zjU:=ite_t zo7 zoa
         replace zjU:=Option.some.inj zjU
         refine WL.pin (i:=39) rfl zoa ?_
         refine WL.skip rfl rfl rfl ?_
         refine WL.skip rfl rfl rfl ?_
         refine WL.skip rfl rfl rfl ?_
         refine WL.skip rfl rfl rfl ?_
         refine WL.skip rfl rfl rfl ?_
         refine WL.skip rfl rfl rfl ?_
         refine WL.quiet (d:=46) rfl rfl rfl (q_pickT rfl rfl) ?_
         subst zjU
         exact WL.cutEnd z7I zo8 (.cons rfl (.cons rfl (.cons rfl (.cons rfl (.cons rfl (.cons rfl (.cons rfl (.cons rfl (.cons rfl .nil))))))))) (.cons .here (.cons .here (.cons .here (.cons .here .nil))))
        ·have zob:=hb'; clear hb'
         have z9H:=ite_f zo7 zob
         obtain ⟨zgh,ztk,z9H⟩:=ze z9H
         obtain ⟨zgi,ztl,z9H⟩:=ze z9H
         obtain ⟨zeq,ztm,z9H⟩:=ze z9H
         replace z9H:=Option.some.inj z9H
         refine WL.pin (i:=39) rfl zob ?_
         refine WL.quiet (d:=40) rfl rfl rfl (q_move rfl) ?_
         refine WL.quiet (d:=41) rfl rfl rfl (q_loadA (cs:=[(.int .i64 ((nth zx.1 z1m).fN)),(.int .i64 ((nth zx.1 z1m).fD))]) aggT_30 rfl rfl (rd_all (.there .here))) ?_
         refine WL.callD (dd:=42) rfl rfl rfl (zn (l:=[.tmp 41]) Try.call71 (.cons rfl .nil)) (.nil : Sel [z1o z7I z5x.2,stb z63 30 [(.int .i64 ((nth zx.1 z1m).fN)),(.int .i64 ((nth zx.1 z1m).fD))],fz (z2W ++ z4V),row (.slice (some ⟨z5g,0,none⟩) zx.1.length z3W) 30 2 (zx.1.flatMap e30)] [] [z1o z7I z5x.2,stb z63 30 [(.int .i64 ((nth zx.1 z1m).fN)),(.int .i64 ((nth zx.1 z1m).fD))],fz (z2W ++ z4V),row (.slice (some ⟨z5g,0,none⟩) zx.1.length z3W) 30 2 (zx.1.flatMap e30)]) (fun w hw=>by have pz:=(hz.call2 hw (.nil : Sel [z1o z7I z5x.2,stb z63 30 [(.int .i64 ((nth zx.1 z1m).fN)),(.int .i64 ((nth zx.1 z1m).fD))],fz (z2W ++ z4V),row (.slice (some ⟨z5g,0,none⟩) zx.1.length z3W) 30 2 (zx.1.flatMap e30)] [] [z1o z7I z5x.2,stb z63 30 [(.int .i64 ((nth zx.1 z1m).fN)),(.int .i64 ((nth zx.1 z1m).fD))],fz (z2W ++ z4V),row (.slice (some ⟨z5g,0,none⟩) zx.1.length z3W) 30 2 (zx.1.flatMap e30)]) (.there (.there .here))); exact w_rat_Ceil (Z:=_)  (z2B:=(⟨((nth zx.1 z1m).fN),((nth zx.1 z1m).fD)⟩ : z2)) (r:=zgh) w pz  ztk) ?_
         refine WL.callD (dd:=43) rfl rfl rfl (zn (l:=[.tmp 42]) Try.call65 (.cons rfl .nil)) (.nil : Sel [z1o z7I z5x.2,stb z63 30 [(.int .i64 ((nth zx.1 z1m).fN)),(.int .i64 ((nth zx.1 z1m).fD))],fz (z2W ++ z4V),row (.slice (some ⟨z5g,0,none⟩) zx.1.length z3W) 30 2 (zx.1.flatMap e30)] [] [z1o z7I z5x.2,stb z63 30 [(.int .i64 ((nth zx.1 z1m).fN)),(.int .i64 ((nth zx.1 z1m).fD))],fz (z2W ++ z4V),row (.slice (some ⟨z5g,0,none⟩) zx.1.length z3W) 30 2 (zx.1.flatMap e30)]) (fun w hw=>by have pz:=(hz.call2 hw (.nil : Sel [z1o z7I z5x.2,stb z63 30 [(.int .i64 ((nth zx.1 z1m).fN)),(.int .i64 ((nth zx.1 z1m).fD))],fz (z2W ++ z4V),row (.slice (some ⟨z5g,0,none⟩) zx.1.length z3W) 30 2 (zx.1.flatMap e30)] [] [z1o z7I z5x.2,stb z63 30 [(.int .i64 ((nth zx.1 z1m).fN)),(.int .i64 ((nth zx.1 z1m).fD))],fz (z2W ++ z4V),row (.slice (some ⟨z5g,0,none⟩) zx.1.length z3W) 30 2 (zx.1.flatMap e30)]) (.there (.there .here))); exact w_calculus_whole (Z:=_)  (z5v:=zgh) (r:=zgi) w pz  ztl) ?_
         refine WL.yield (dd:=44) (x:=zgi) (h:=()) (g:=z7I) (s:=z5x.2) (b:=zeq.1) (s':=zeq.2) zev rfl rfl rfl (.cons rfl .nil) ((.cons .here .nil) : Sel _ [z1o z7I z5x.2] _) ztm zo8 (fun w hw=>hz.call hw ((.cons .here .nil) : Sel _ [z1o z7I z5x.2] _)) ?_
         intro ztn zto
         refine WL.quiet (d:=45) rfl rfl rfl (q_not rfl) ?_
         refine WL.quiet (d:=46) rfl rfl rfl (q_pickF rfl rfl) ?_
         subst z9H
         exact WL.cutEnd ztn zto (.cons rfl (.cons rfl (.cons rfl (.cons rfl (.cons rfl (.cons rfl (.cons rfl (.cons rfl (.cons rfl .nil))))))))) (.cons .here (.cons .here (.cons .here (.cons .here .nil))))
       ·skip
        refine WL.nil ?_
        refine WX.then ?_
        refine WC.cond rfl (fun zjV=>?_) (fun zjV=>?_)
        ·replace h:=ite_t h zjV
         refine WC.ret ?_
         refine WX.blockRet ?_
         refine WX.thenRet ?_
         refine WX.thenRet ?_
         refine WX.blockRet ?_
         refine WX.thenRet ?_
         refine WX.blockRet ?_
         refine WX.thenRet ?_
         refine WX.thenRet ?_
         refine WX.blockRet ?_
         refine WX.thenRet ?_
         obtain rfl:=Option.some.inj h
         refine WX.bpRet Try.results69 .nil (fun w hw=>?_)
         exact ⟨(z2W ++ z4V),zbJ,ret0,zo9,hw.sub (.cons (.there (.there .here)) (.cons .here .nil))⟩
        ·replace h:=ite_f h zjV
         refine WC.skip ?_
         refine WX.blockNormal ?_
         refine WX.then ?_
         refine WC.region ?_
         refine WL.quiet (d:=47) rfl rfl rfl (q_add rfl rfl rfl) ?_
         refine WL.quiet (d:=29) rfl rfl rfl (q_move rfl) ?_
         refine WL.nil ?_
         exact WX.round (G:=Nat × Int × zu × Option Addr × Nat × z2j) ⟨zjJ,(i64 (z1m + 1)),zay.2,(some ⟨z5g,0,none⟩),z3W,zbJ⟩ ⟨h,zo9⟩ (Nat.lt_succ_self _) (.cons rfl (.cons rfl (.cons rfl (.cons rfl (.cons rfl (.cons rfl (.cons rfl (.cons rfl .nil)))))))) (.cons (.there (.there .here)) (.cons (.there (.there .here)) (.cons .here .nil)))
      ·replace h:=ite_f h zjT
       refine WC.exit ?_
       refine WX.thenExit ?_
       refine WX.thenExit ?_
       refine WX.blockHit ?_
       exact WX.mid (G:=zu × z2j) ⟨z4f,z5A⟩ ⟨h,zo6⟩ (.cons rfl (.cons rfl (.cons rfl (.cons rfl (.cons rfl .nil))))) (.cons .here (.cons (.there .here) .nil))
     ·rintro z8J zd7 ⟨h,ztp⟩
      replace h:=(ztg z8J).symm.trans h
      refine WX.blockNormal ?_
      exact WX.mid (G:=zu × Zp × z2j) ⟨z8J,(z2W ++ z4V),zd7⟩ ⟨h,((Zle.left _ _).trans (Zle.assoc _ _ _)),ztp⟩ (.cons rfl (.cons rfl (.cons rfl (.cons rfl (.cons rfl .nil))))) (.cons .here (.cons .here .nil))
    ·rintro z8I zd5 zd6 ⟨h,ztq,ztr⟩
     replace h:=(zt7 z8I).symm.trans h
     refine WC.region ?_
     refine WL.quiet (d:=48) rfl rfl rfl (q_add rfl rfl rfl) ?_
     refine WL.quiet (d:=18) rfl rfl rfl (q_move rfl) ?_
     refine WL.nil ?_
     exact WX.round (G:=Nat × Int × zu × Zp × z2j) ⟨zjK,(i64 (z4Z + 1)),z8I,zd5,zd6⟩ ⟨h,(zgo.trans ztq),ztr⟩ (Nat.lt_succ_self _) (.cons rfl (.cons rfl (.cons rfl (.cons rfl (.cons rfl .nil))))) (.cons .here (.cons .here .nil))
   ·replace h:=ite_f h zjS
    refine WC.exit ?_
    refine WX.thenExit ?_
    refine WX.thenExit ?_
    refine WX.blockHit ?_
    exact WX.mid (G:=zu × Zp × z2j) ⟨z5y,z2W,z7H⟩ ⟨h,zgo,zo5⟩ (.cons rfl (.cons rfl .nil)) (.cons .here (.cons .here .nil))
  ·rintro z8K z3I zd3 ⟨h,zoc,zts⟩
   replace h:=(zt6 z8K).symm.trans h
   refine WC.seq ?_
   refine WC.region ?_
   refine WL.quiet (d:=49) rfl rfl rfl (q_fieldAddr fo_79_3 rfl rfl) ?_
   refine WL.quiet (d:=50) rfl rfl rfl (q_load1 oneT_77 rfl (rd_zAt (hz.pv2 .here) (zo1.mono ((Zle.left _ _).trans zoc)) rfl)) ?_
   refine WL.quiet (d:=51) rfl rfl rfl (q_len Try.underlying77 rfl) ?_
   refine WL.quiet (d:=52) rfl rfl rfl (q_move rfl) ?_
   refine WL.nil ?_
   refine WX.then ?_
   obtain ⟨z9F,ztt,h⟩:=jp1_elim h
   refine WC.mid2 (fun (z9G : zu) (zda : z2j)=>(z9F z9G = some r) ∧ (z7j zda z9G)) (fun (z9G : zu) (zda : z2j)=>[]) (fun (z9G : zu) (zda : z2j)=>[fz z3I,z1o zda z9G]) ?_ ?_
   ·skip
    refine WC.block ?_
    refine WC.loop4 (fun (zdb : Nat) (z1n : Int) (z4g : zu) (z5B : z2j)=>(m_calculus_search_points_1_L6 zu z1d z3H z9F zdb z1n z4g = some r) ∧ (z7j z5B z4g)) (fun (zdb : Nat) (z1n : Int) (z4g : zu) (z5B : z2j)=>[(0,(.func (.yield z7i) #[] #[])),(50,(.slice zet z1d.length zeu)),(51,(.int .i64 ((z1d.length : Nat) : Int))),(52,(.int .i64 z1n))]) (fun (zdb : Nat) (z1n : Int) (z4g : zu) (z5B : z2j)=>[fz z3I,z1o z5B z4g]) (fun (zdb : Nat) (z1n : Int) (z4g : zu) (z5B : z2j)=>zdb) ⟨FUEL,0,z8K,zd3⟩ ⟨h,zts⟩ (.cons rfl (.cons rfl (.cons rfl (.cons rfl .nil)))) (.cons .here (.cons .here .nil)) ?_
    rintro zdb z1n z4g z5B ⟨h,zod⟩
    obtain ⟨zjM,rfl⟩:=m_calculus_search_points_1_L6_fuel h
    rw [m_calculus_search_points_1_L6] at h
    refine WC.seq ?_
    refine WC.region ?_
    refine WL.quiet (d:=53) rfl rfl rfl (q_lss rfl rfl) ?_
    refine WL.nil ?_
    refine WX.then ?_
    refine WC.seq ?_
    refine WC.cond rfl (fun zjW=>?_) (fun zjW=>?_)
    ·replace h:=ite_t h zjW
     refine WC.skip ?_
     refine WX.then ?_
     refine WC.seq ?_
     refine WC.block ?_
     refine WC.seq ?_
     obtain ⟨ztu,h⟩:=chk_elim h
     refine WC.region ?_
     refine WL.znth (dd:=54) rfl rfl (Z:=(Z ++ z3I)) (Pr:=(fun r x=>r = e30 x)) elT_77 rfl rfl (zt3.mono ((Zle.left _ _).trans zoc)) ztu ?_
     rintro zyf zyg ztv zyh rfl
     refine WL.quiet (d:=55) rfl rfl rfl (q_loadA (cs:=[(.int .i64 ((nth z1d z1n).fN)),(.int .i64 ((nth z1d z1n).fD))]) aggT_30 rfl rfl (rd_zs (hz.pv2 .here) ztv)) ?_
     refine WL.new (dd:=10) rfl rfl rfl (e_alloc (cs:=[(.int .i64 0),(.int .i64 0)]) zeroT_30 rfl) ?_
     intro z64 _
     refine WL.eff0 rfl rfl (e_store (vs:=[(.int .i64 ((nth z1d z1n).fN)),(.int .i64 ((nth z1d z1n).fD))]) (ds:=[(.int .i64 ((nth z1d z1n).fN)),(.int .i64 ((nth z1d z1n).fD))]) sizT_30 rfl rfl rfl rfl (oc_cons rfl (oc_cons rfl oc_nil)) .here (Nat.le_of_ble_eq_true rfl) rfl) ?_
     refine WL.nil ?_
     refine WX.then ?_
     refine WC.seq ?_
     obtain ⟨zgj,ztw,h⟩:=ze h
     obtain ⟨zgk,ztx,h⟩:=ze h
     obtain ⟨z5z,zty,h⟩:=ze h
     obtain ⟨zaz,zoe,h⟩:=ze h
     refine WC.region ?_
     refine WL.quiet (d:=56) rfl rfl rfl (q_move rfl) ?_
     refine WL.quiet (d:=57) rfl rfl rfl (q_loadA (cs:=[(.int .i64 ((nth z1d z1n).fN)),(.int .i64 ((nth z1d z1n).fD))]) aggT_30 rfl rfl (rd_all .here)) ?_
     refine WL.callD (dd:=58) rfl rfl rfl (zn (l:=[.tmp 57]) Try.call70 (.cons rfl .nil)) (.nil : Sel [stb z64 30 [(.int .i64 ((nth z1d z1n).fN)),(.int .i64 ((nth z1d z1n).fD))],fz z3I,z1o z5B z4g] [] [stb z64 30 [(.int .i64 ((nth z1d z1n).fN)),(.int .i64 ((nth z1d z1n).fD))],fz z3I,z1o z5B z4g]) (fun w hw=>by have pz:=(hz.call2 hw (.nil : Sel [stb z64 30 [(.int .i64 ((nth z1d z1n).fN)),(.int .i64 ((nth z1d z1n).fD))],fz z3I,z1o z5B z4g] [] [stb z64 30 [(.int .i64 ((nth z1d z1n).fN)),(.int .i64 ((nth z1d z1n).fD))],fz z3I,z1o z5B z4g]) (.there .here)); exact w_rat_Floor (Z:=_)  (z2K:=(⟨((nth z1d z1n).fN),((nth z1d z1n).fD)⟩ : z2)) (r:=zgj) w pz  ztw) ?_
     refine WL.callD (dd:=59) rfl rfl rfl (zn (l:=[.tmp 58]) Try.call65 (.cons rfl .nil)) (.nil : Sel [stb z64 30 [(.int .i64 ((nth z1d z1n).fN)),(.int .i64 ((nth z1d z1n).fD))],fz z3I,z1o z5B z4g] [] [stb z64 30 [(.int .i64 ((nth z1d z1n).fN)),(.int .i64 ((nth z1d z1n).fD))],fz z3I,z1o z5B z4g]) (fun w hw=>by have pz:=(hz.call2 hw (.nil : Sel [stb z64 30 [(.int .i64 ((nth z1d z1n).fN)),(.int .i64 ((nth z1d z1n).fD))],fz z3I,z1o z5B z4g] [] [stb z64 30 [(.int .i64 ((nth z1d z1n).fN)),(.int .i64 ((nth z1d z1n).fD))],fz z3I,z1o z5B z4g]) (.there .here)); exact w_calculus_whole (Z:=_)  (z5v:=zgj) (r:=zgk) w pz  ztx) ?_
     refine WL.yield (dd:=60) (x:=zgk) (h:=()) (g:=z5B) (s:=z4g) (b:=z5z.1) (s':=z5z.2) zev rfl rfl rfl (.cons rfl .nil) ((.cons (.there (.there .here)) .nil) : Sel _ [z1o z5B z4g] _) zty zod (fun w hw=>hz.call hw ((.cons (.there (.there .here)) .nil) : Sel _ [z1o z5B z4g] _)) ?_
     intro z7J zof
     refine WL.quiet (d:=61) rfl rfl rfl (q_not rfl) ?_
     refine WL.quiet (d:=62) rfl rfl rfl (q_move rfl) ?_
     refine WL.cut1 (fun (zbK : z2j)=>z7j zbK zaz.2) (fun (zbK : z2j)=>[(0,(.func (.yield z7i) #[] #[])),(50,(.slice zet z1d.length zeu)),(51,(.int .i64 ((z1d.length : Nat) : Int))),(52,(.int .i64 z1n)),(69,(.bool zaz.1))]) (fun (zbK : z2j)=>[z1o zbK zaz.2,stb z64 30 [(.int .i64 ((nth z1d z1n).fN)),(.int .i64 ((nth z1d z1n).fD))],fz z3I]) 7 ?_ (fun zbK zog=>?_)
     ·rcases Bool.eq_false_or_eq_true (!z5z.1) with hb' | hb'
      ·have zoh:=hb'; clear hb'
       have zjX:=ite_t zoe zoh
       replace zjX:=Option.some.inj zjX
       refine WL.pin (i:=62) rfl zoh ?_
       refine WL.skip rfl rfl rfl ?_
       refine WL.skip rfl rfl rfl ?_
       refine WL.skip rfl rfl rfl ?_
       refine WL.skip rfl rfl rfl ?_
       refine WL.skip rfl rfl rfl ?_
       refine WL.skip rfl rfl rfl ?_
       refine WL.quiet (d:=69) rfl rfl rfl (q_pickT rfl rfl) ?_
       subst zjX
       exact WL.cutEnd z7J zof (.cons rfl (.cons rfl (.cons rfl (.cons rfl (.cons rfl .nil))))) (.cons .here (.cons .here (.cons .here .nil)))
      ·have zoi:=hb'; clear hb'
       have z9I:=ite_f zoe zoi
       obtain ⟨zgl,ztz,z9I⟩:=ze z9I
       obtain ⟨zgm,ztA,z9I⟩:=ze z9I
       obtain ⟨zer,ztB,z9I⟩:=ze z9I
       replace z9I:=Option.some.inj z9I
       refine WL.pin (i:=62) rfl zoi ?_
       refine WL.quiet (d:=63) rfl rfl rfl (q_move rfl) ?_
       refine WL.quiet (d:=64) rfl rfl rfl (q_loadA (cs:=[(.int .i64 ((nth z1d z1n).fN)),(.int .i64 ((nth z1d z1n).fD))]) aggT_30 rfl rfl (rd_all (.there .here))) ?_
       refine WL.callD (dd:=65) rfl rfl rfl (zn (l:=[.tmp 64]) Try.call71 (.cons rfl .nil)) (.nil : Sel [z1o z7J z5z.2,stb z64 30 [(.int .i64 ((nth z1d z1n).fN)),(.int .i64 ((nth z1d z1n).fD))],fz z3I] [] [z1o z7J z5z.2,stb z64 30 [(.int .i64 ((nth z1d z1n).fN)),(.int .i64 ((nth z1d z1n).fD))],fz z3I]) (fun w hw=>by have pz:=(hz.call2 hw (.nil : Sel [z1o z7J z5z.2,stb z64 30 [(.int .i64 ((nth z1d z1n).fN)),(.int .i64 ((nth z1d z1n).fD))],fz z3I] [] [z1o z7J z5z.2,stb z64 30 [(.int .i64 ((nth z1d z1n).fN)),(.int .i64 ((nth z1d z1n).fD))],fz z3I]) (.there (.there .here))); exact w_rat_Ceil (Z:=_)  (z2B:=(⟨((nth z1d z1n).fN),((nth z1d z1n).fD)⟩ : z2)) (r:=zgl) w pz  ztz) ?_
       refine WL.callD (dd:=66) rfl rfl rfl (zn (l:=[.tmp 65]) Try.call65 (.cons rfl .nil)) (.nil : Sel [z1o z7J z5z.2,stb z64 30 [(.int .i64 ((nth z1d z1n).fN)),(.int .i64 ((nth z1d z1n).fD))],fz z3I] [] [z1o z7J z5z.2,stb z64 30 [(.int .i64 ((nth z1d z1n).fN)),(.int .i64 ((nth z1d z1n).fD))],fz z3I]) (fun w hw=>by have pz:=(hz.call2 hw (.nil : Sel [z1o z7J z5z.2,stb z64 30 [(.int .i64 ((nth z1d z1n).fN)),(.int .i64 ((nth z1d z1n).fD))],fz z3I] [] [z1o z7J z5z.2,stb z64 30 [(.int .i64 ((nth z1d z1n).fN)),(.int .i64 ((nth z1d z1n).fD))],fz z3I]) (.there (.there .here))); exact w_calculus_whole (Z:=_)  (z5v:=zgl) (r:=zgm) w pz  ztA) ?_
       refine WL.yield (dd:=67) (x:=zgm) (h:=()) (g:=z7J) (s:=z5z.2) (b:=zer.1) (s':=zer.2) zev rfl rfl rfl (.cons rfl .nil) ((.cons .here .nil) : Sel _ [z1o z7J z5z.2] _) ztB zof (fun w hw=>hz.call hw ((.cons .here .nil) : Sel _ [z1o z7J z5z.2] _)) ?_
       intro ztC ztD
       refine WL.quiet (d:=68) rfl rfl rfl (q_not rfl) ?_
       refine WL.quiet (d:=69) rfl rfl rfl (q_pickF rfl rfl) ?_
       subst z9I
       exact WL.cutEnd ztC ztD (.cons rfl (.cons rfl (.cons rfl (.cons rfl (.cons rfl .nil))))) (.cons .here (.cons .here (.cons .here .nil)))
     ·skip
      refine WL.nil ?_
      refine WX.then ?_
      refine WC.cond rfl (fun zjY=>?_) (fun zjY=>?_)
      ·replace h:=ite_t h zjY
       refine WC.ret ?_
       refine WX.blockRet ?_
       refine WX.thenRet ?_
       refine WX.thenRet ?_
       refine WX.blockRet ?_
       refine WX.thenRet ?_
       obtain rfl:=Option.some.inj h
       refine WX.bpRet Try.results69 .nil (fun w hw=>?_)
       exact ⟨z3I,zbK,ret0,zog,hw.sub (.cons (.there (.there .here)) (.cons .here .nil))⟩
      ·replace h:=ite_f h zjY
       refine WC.skip ?_
       refine WX.blockNormal ?_
       refine WX.then ?_
       refine WC.region ?_
       refine WL.quiet (d:=70) rfl rfl rfl (q_add rfl rfl rfl) ?_
       refine WL.quiet (d:=52) rfl rfl rfl (q_move rfl) ?_
       refine WL.nil ?_
       exact WX.round (G:=Nat × Int × zu × z2j) ⟨zjM,(i64 (z1n + 1)),zaz.2,zbK⟩ ⟨h,zog⟩ (Nat.lt_succ_self _) (.cons rfl (.cons rfl (.cons rfl (.cons rfl .nil)))) (.cons (.there (.there .here)) (.cons .here .nil))
    ·replace h:=ite_f h zjW
     refine WC.exit ?_
     refine WX.thenExit ?_
     refine WX.thenExit ?_
     refine WX.blockHit ?_
     exact WX.mid (G:=zu × z2j) ⟨z4g,z5B⟩ ⟨h,zod⟩ .nil (.cons .here (.cons .here .nil))
   ·rintro z9G zda ⟨h,ztE⟩
    replace h:=(ztt z9G).symm.trans h
    obtain rfl:=Option.some.inj h
    refine WX.bpNormal Try.results69 .nil (fun w hw=>?_)
    exact ⟨z3I,zda,ret0,ztE,hw.sub (.cons .here (.cons .here .nil))⟩
def m_rat_do_3 (zbL : z2) (zbM : z2) : Option (Int × Int) :=
 some ((i64 (zbL.fN * zbM.fN)),(i64 (zbL.fD * zbM.fD)))
set_option maxRecDepth 20000 in
theorem w_rat_do_3 (Z : Zp)  (zex : Addr) (zey : Addr) (zbL : z2) (zbM : z2) (r : Int × Int) (w₀ : World) (hz : PZ [] w₀ Z)
  (zoj : ZC Z zex [(.int .i64 zbL.fN),(.int .i64 zbL.fD)])
  (zol : ZC Z zey [(.int .i64 zbM.fN),(.int .i64 zbM.fD)])
  (h : m_rat_do_3 zbL zbM = some r) :
  Calls Try.prog 56 #[(.pointer (some zex)),(.pointer (some zey))] w₀ fun e w'=>e = .returned (.tuple #[(.int .i64 r.1),(.int .i64 r.2)]) ∧ Hp [] w₀ w' []:=by
 unfold m_rat_do_3 at h
 refine Calls.ofWC (vs:=[(.pointer (some zex)),(.pointer (some zey))]) (pre:=[]) (env:=[(0,(.pointer (some zex))),(1,(.pointer (some zey)))]) Try.func56 rfl Try.ntmps56 rfl (Hp.nil w₀ _) rfl ?_
 refine WC.seq ?_
 refine WC.region ?_
 refine WL.quiet (d:=2) rfl rfl rfl (q_assign rfl) ?_
 refine WL.quiet (d:=3) rfl rfl rfl (q_assign rfl) ?_
 refine WL.nil ?_
 refine WX.then ?_
 refine WC.seq ?_
 refine WC.draw (fun i=>[].contains i) [] rfl ?_
 refine WD.pure (i:=0) (d:=4) (by kernel_rfl) rfl (z6 (by kernel_rfl)) (z7 (by kernel_rfl)) rfl rfl rfl (fun _=>q_fieldAddr fo_30_0 rfl rfl) ?_
 refine WD.quiet (i:=1) (d:=5) (by kernel_rfl) rfl (z6 (by kernel_rfl)) (z7 (by kernel_rfl)) rfl rfl rfl (q_load1 oneT_3 rfl (rd_zAt hz.pv zoj rfl)) ?_
 refine WD.pure (i:=2) (d:=6) (by kernel_rfl) rfl (z6 (by kernel_rfl)) (z7 (by kernel_rfl)) rfl rfl rfl (fun _=>q_fieldAddr fo_30_0 rfl rfl) ?_
 refine WD.quiet (i:=3) (d:=7) (by kernel_rfl) rfl (z6 (by kernel_rfl)) (z7 (by kernel_rfl)) rfl rfl rfl (q_load1 oneT_3 rfl (rd_zAt hz.pv zol rfl)) ?_
 refine WD.pure (i:=4) (d:=8) (by kernel_rfl) rfl (z6 (by kernel_rfl)) (z7 (by kernel_rfl)) rfl rfl rfl (fun _=>q_mul rfl rfl rfl) ?_
 refine WD.pure (i:=5) (d:=9) (by kernel_rfl) rfl (z6 (by kernel_rfl)) (z7 (by kernel_rfl)) rfl rfl rfl (fun _=>q_fieldAddr fo_30_1 rfl rfl) ?_
 refine WD.quiet (i:=6) (d:=10) (by kernel_rfl) rfl (z6 (by kernel_rfl)) (z7 (by kernel_rfl)) rfl rfl rfl (q_load1 oneT_3 rfl (rd_zAt hz.pv zoj rfl)) ?_
 refine WD.pure (i:=7) (d:=11) (by kernel_rfl) rfl (z6 (by kernel_rfl)) (z7 (by kernel_rfl)) rfl rfl rfl (fun _=>q_fieldAddr fo_30_1 rfl rfl) ?_
 refine WD.quiet (i:=8) (d:=12) (by kernel_rfl) rfl (z6 (by kernel_rfl)) (z7 (by kernel_rfl)) rfl rfl rfl (q_load1 oneT_3 rfl (rd_zAt hz.pv zol rfl)) ?_
 refine WD.pure (i:=9) (d:=13) (by kernel_rfl) rfl (z6 (by kernel_rfl)) (z7 (by kernel_rfl)) rfl rfl rfl (fun _=>q_mul rfl rfl rfl) ?_
 refine WD.pure (i:=10) (d:=2) (by kernel_rfl) rfl (z6 (by kernel_rfl)) (z7 (by kernel_rfl)) rfl rfl rfl (fun _=>q_assign rfl) ?_
 refine WD.pure (i:=11) (d:=3) (by kernel_rfl) rfl (z6 (by kernel_rfl)) (z7 (by kernel_rfl)) rfl rfl rfl (fun _=>q_assign rfl) ?_
 refine WD.done (by kernel_rfl) ?_
 refine WX.then ?_
 refine WC.ret ?_
 obtain rfl:=Option.some.inj h
 refine WX.bpRet Try.results56 (.tmp rfl (.tmp rfl .nil)) (fun w hw=>?_)
 exact ⟨ret2 rfl rfl,hw.sub .nil⟩
def m_rat_dod (z11 : z2) (z12 : z2) : Option (z2 × Int) :=
 (m_rat_Valid z11).bind fun zgp=>(if !zgp then some true else (m_rat_Valid z12).bind fun zjZ=>some (!zjZ)).bind fun zez=>if zez then some ((⟨0,0⟩ : z2),2) else (m_rat_do_3 z11 z12).bind fun zdc=>(m_rat_Make zdc.1 zdc.2).bind fun zaC=>some (zaC.1,zaC.2)
set_option maxRecDepth 20000 in
theorem w_rat_dod (Z : Zp)   (z11 : z2) (z12 : z2) (r : z2 × Int) (w₀ : World) (hz : PZ [] w₀ Z)
  (h : m_rat_dod z11 z12 = some r) :
  Calls Try.prog 40 #[(.string ⟨#[42]⟩),(.agg #[(.int .i64 z11.fN),(.int .i64 z11.fD)]),(.agg #[(.int .i64 z12.fN),(.int .i64 z12.fD)])] w₀ fun e w'=>e = .returned (.tuple #[(.agg #[(.int .i64 r.1.fN),(.int .i64 r.1.fD)]),(.int .i64 r.2)]) ∧ Hp [] w₀ w' []:=by
 unfold m_rat_dod at h
 refine Calls.ofWC (vs:=[(.string ⟨#[42]⟩),(.agg #[(.int .i64 z11.fN),(.int .i64 z11.fD)]),(.agg #[(.int .i64 z12.fN),(.int .i64 z12.fD)])]) (pre:=[]) (env:=[(0,(.string ⟨#[42]⟩)),(1,(.agg #[(.int .i64 z11.fN),(.int .i64 z11.fD)])),(2,(.agg #[(.int .i64 z12.fN),(.int .i64 z12.fD)]))]) Try.func40 rfl Try.ntmps40 rfl (Hp.nil w₀ _) rfl ?_
 refine WC.seq ?_
 refine WC.region ?_
 refine WL.new (dd:=4) rfl rfl rfl (e_box (cs:=[(.int .i64 z11.fN),(.int .i64 z11.fD)]) rfl rfl) ?_
 intro zJ _
 refine WL.new (dd:=5) rfl rfl rfl (e_box (cs:=[(.int .i64 z12.fN),(.int .i64 z12.fD)]) rfl rfl) ?_
 intro zK _
 refine WL.new (dd:=6) rfl rfl rfl (e_alloc (cs:=[(.int .i64 0),(.int .i64 0)]) zeroT_30 rfl) ?_
 intro z3S _
 refine WL.quiet (d:=7) rfl rfl rfl (q_assign rfl) ?_
 refine WL.nil ?_
 refine WX.then ?_
 refine WC.seq ?_
 refine WC.seq ?_
 obtain ⟨zgp,ztF,h⟩:=ze h
 obtain ⟨zez,zom,h⟩:=ze h
 refine WC.region ?_
 refine WL.quiet (d:=9) rfl rfl rfl (q_loadA (cs:=[(.int .i64 z11.fN),(.int .i64 z11.fD)]) aggT_30 rfl rfl (rd_all (.there (.there .here)))) ?_
 refine WL.callD (dd:=10) rfl rfl rfl (zn (l:=[.tmp 9]) Try.call39 (.cons rfl .nil)) (.nil : Sel [stb z3S 30 [(.int .i64 0),(.int .i64 0)],stb zK 30 [(.int .i64 z12.fN),(.int .i64 z12.fD)],stb zJ 30 [(.int .i64 z11.fN),(.int .i64 z11.fD)]] [] [stb z3S 30 [(.int .i64 0),(.int .i64 0)],stb zK 30 [(.int .i64 z12.fN),(.int .i64 z12.fD)],stb zJ 30 [(.int .i64 z11.fN),(.int .i64 z11.fD)]]) (fun w hw=>by have pz:=(hz.call hw (.nil : Sel [stb z3S 30 [(.int .i64 0),(.int .i64 0)],stb zK 30 [(.int .i64 z12.fN),(.int .i64 z12.fD)],stb zJ 30 [(.int .i64 z11.fN),(.int .i64 z11.fD)]] [] [stb z3S 30 [(.int .i64 0),(.int .i64 0)],stb zK 30 [(.int .i64 z12.fN),(.int .i64 z12.fD)],stb zJ 30 [(.int .i64 z11.fN),(.int .i64 z11.fD)]])); exact w_rat_Valid (Z:=_)  (z16:=z11) (r:=zgp) w pz  ztF) ?_
 refine WL.quiet (d:=11) rfl rfl rfl (q_not rfl) ?_
 refine WL.quiet (d:=12) rfl rfl rfl (q_move rfl) ?_
 refine WL.cut0 True [(0,(.string ⟨#[42]⟩)),(4,(.pointer (some ⟨zJ,0,none⟩))),(5,(.pointer (some ⟨zK,0,none⟩))),(6,(.pointer (some ⟨z3S,0,none⟩))),(16,(.bool zez))] [stb z3S 30 [(.int .i64 0),(.int .i64 0)],stb zK 30 [(.int .i64 z12.fN),(.int .i64 z12.fD)],stb zJ 30 [(.int .i64 z11.fN),(.int .i64 z11.fD)]] 4 ?_ (fun _=>?_)
 ·rcases Bool.eq_false_or_eq_true (!zgp) with hb' | hb'
  ·have zon:=hb'; clear hb'
   have zk0:=ite_t zom zon
   replace zk0:=Option.some.inj zk0
   refine WL.pin (i:=12) rfl zon ?_
   refine WL.skip rfl rfl rfl ?_
   refine WL.skip rfl rfl rfl ?_
   refine WL.skip rfl rfl rfl ?_
   refine WL.quiet (d:=16) rfl rfl rfl (q_pickT rfl rfl) ?_
   exact WL.cutEnd () trivial (.cons rfl (.cons rfl (.cons rfl (.cons rfl (.cons (zp zk0) .nil))))) (.cons .here (.cons .here (.cons .here .nil)))
  ·have zoo:=hb'; clear hb'
   have zeA:=ite_f zom zoo
   obtain ⟨zjZ,ztG,zeA⟩:=ze zeA
   replace zeA:=Option.some.inj zeA
   refine WL.pin (i:=12) rfl zoo ?_
   refine WL.quiet (d:=13) rfl rfl rfl (q_loadA (cs:=[(.int .i64 z12.fN),(.int .i64 z12.fD)]) aggT_30 rfl rfl (rd_all (.there .here))) ?_
   refine WL.callD (dd:=14) rfl rfl rfl (zn (l:=[.tmp 13]) Try.call39 (.cons rfl .nil)) (.nil : Sel [stb z3S 30 [(.int .i64 0),(.int .i64 0)],stb zK 30 [(.int .i64 z12.fN),(.int .i64 z12.fD)],stb zJ 30 [(.int .i64 z11.fN),(.int .i64 z11.fD)]] [] [stb z3S 30 [(.int .i64 0),(.int .i64 0)],stb zK 30 [(.int .i64 z12.fN),(.int .i64 z12.fD)],stb zJ 30 [(.int .i64 z11.fN),(.int .i64 z11.fD)]]) (fun w hw=>by have pz:=(hz.call hw (.nil : Sel [stb z3S 30 [(.int .i64 0),(.int .i64 0)],stb zK 30 [(.int .i64 z12.fN),(.int .i64 z12.fD)],stb zJ 30 [(.int .i64 z11.fN),(.int .i64 z11.fD)]] [] [stb z3S 30 [(.int .i64 0),(.int .i64 0)],stb zK 30 [(.int .i64 z12.fN),(.int .i64 z12.fD)],stb zJ 30 [(.int .i64 z11.fN),(.int .i64 z11.fD)]])); exact w_rat_Valid (Z:=_)  (z16:=z12) (r:=zjZ) w pz  ztG) ?_
   refine WL.quiet (d:=15) rfl rfl rfl (q_not rfl) ?_
   refine WL.quiet (d:=16) rfl rfl rfl (q_pickF rfl rfl) ?_
   exact WL.cutEnd () trivial (.cons rfl (.cons rfl (.cons rfl (.cons rfl (.cons (zp zeA) .nil))))) (.cons .here (.cons .here (.cons .here .nil)))
 ·skip
  refine WL.quiet (d:=17) rfl rfl rfl (q_move rfl) ?_
  refine WL.cut0 True [(0,(.string ⟨#[42]⟩)),(4,(.pointer (some ⟨zJ,0,none⟩))),(5,(.pointer (some ⟨zK,0,none⟩))),(6,(.pointer (some ⟨z3S,0,none⟩))),(25,(.bool zez))] [stb z3S 30 [(.int .i64 0),(.int .i64 0)],stb zK 30 [(.int .i64 z12.fN),(.int .i64 z12.fD)],stb zJ 30 [(.int .i64 z11.fN),(.int .i64 z11.fD)]] 8 ?_ (fun _=>?_)
  ·rcases Bool.eq_false_or_eq_true zez with hb' | hb'
   ·have zop:=hb'; clear hb'
    refine WL.pin (i:=17) rfl zop ?_
    refine WL.skip rfl rfl rfl ?_
    refine WL.skip rfl rfl rfl ?_
    refine WL.skip rfl rfl rfl ?_
    refine WL.skip rfl rfl rfl ?_
    refine WL.skip rfl rfl rfl ?_
    refine WL.skip rfl rfl rfl ?_
    refine WL.skip rfl rfl rfl ?_
    refine WL.quiet (d:=25) rfl rfl rfl (q_pickT rfl rfl) ?_
    exact WL.cutEnd () trivial (.cons rfl (.cons rfl (.cons rfl (.cons rfl (.cons (zp (Eq.symm zop)) .nil))))) (.cons .here (.cons .here (.cons .here .nil)))
   ·have zoq:=hb'; clear hb'
    refine WL.pin (i:=17) rfl zoq ?_
    refine WL.quiet (d:=18) rfl rfl rfl (q_move rfl) ?_
    refine WL.quiet (d:=19) rfl rfl rfl (q_seqlC (r:=false) (by decide) rfl rfl) ?_
    refine WL.quiet (d:=20) rfl rfl rfl (q_move rfl) ?_
    refine WL.skip rfl rfl rfl ?_
    refine WL.skip rfl rfl rfl ?_
    refine WL.skip rfl rfl rfl ?_
    refine WL.quiet (d:=24) rfl rfl rfl (q_pickF rfl rfl) ?_
    refine WL.quiet (d:=25) rfl rfl rfl (q_pickF rfl rfl) ?_
    exact WL.cutEnd () trivial (.cons rfl (.cons rfl (.cons rfl (.cons rfl (.cons (zp (Eq.symm zoq)) .nil))))) (.cons .here (.cons .here (.cons .here .nil)))
  ·skip
   refine WL.nil ?_
   refine WX.then ?_
   refine WC.cond rfl (fun zk1=>?_) (fun zk1=>?_)
   ·replace h:=ite_t h zk1
    refine WC.seq ?_
    refine WC.region ?_
    refine WL.quiet (d:=26) rfl rfl rfl (q_build (v:=(.agg #[(.int .i64 0),(.int .i64 0)])) (Eos.parts (l:=[]) .nil []) (fun _=>by kernel_rfl)) ?_
    refine WL.eff0 rfl rfl (e_store (vs:=[(.int .i64 0),(.int .i64 0)]) (ds:=[(.int .i64 0),(.int .i64 0)]) sizT_30 rfl rfl rfl rfl (oc_cons rfl (oc_cons rfl oc_nil)) .here (Nat.le_of_ble_eq_true rfl) rfl) ?_
    refine WL.quiet (d:=7) rfl rfl rfl (q_assign rfl) ?_
    refine WL.nil ?_
    refine WX.then ?_
    refine WC.ret ?_
    refine WX.thenRet ?_
    obtain rfl:=Option.some.inj h
    refine WX.bpRet Try.results40 (.agg rfl aggT_30 rfl (rd_all .here) (.tmp rfl .nil)) (fun w hw=>?_)
    exact ⟨ret2 rfl rfl,hw.sub .nil⟩
   ·replace h:=ite_f h zk1
    refine WC.skip ?_
    refine WX.then ?_
    refine WC.seq ?_
    refine WC.region ?_
    refine WL.new (dd:=27) rfl rfl rfl (e_makeMap Value.string (fun x=>x)) ?_
    intro z71 _
    refine WL.quiet (d:=28) rfl rfl rfl (q_makeFunc (Eos.caps (l:=[.tmp 4,.tmp 5]) (.cons rfl (.cons rfl .nil)))) ?_
    refine WL.eff0 rfl rfl (e_insert (k:=⟨#[43]⟩) (v:=(.func (.func 54) #[] #[(.pointer (some ⟨zJ,0,none⟩)),(.pointer (some ⟨zK,0,none⟩))])) keyT_9 Try.underlying105 rfl rfl rfl rfl .here) ?_
    refine WL.quiet (d:=29) rfl rfl rfl (q_makeFunc (Eos.caps (l:=[.tmp 4,.tmp 5]) (.cons rfl (.cons rfl .nil)))) ?_
    refine WL.eff0 rfl rfl (e_insert (k:=⟨#[45]⟩) (v:=(.func (.func 55) #[] #[(.pointer (some ⟨zJ,0,none⟩)),(.pointer (some ⟨zK,0,none⟩))])) keyT_9 Try.underlying105 rfl rfl rfl rfl .here) ?_
    refine WL.quiet (d:=30) rfl rfl rfl (q_makeFunc (Eos.caps (l:=[.tmp 4,.tmp 5]) (.cons rfl (.cons rfl .nil)))) ?_
    refine WL.eff0 rfl rfl (e_insert (k:=⟨#[42]⟩) (v:=(.func (.func 56) #[] #[(.pointer (some ⟨zJ,0,none⟩)),(.pointer (some ⟨zK,0,none⟩))])) keyT_9 Try.underlying105 rfl rfl rfl rfl .here) ?_
    refine WL.quiet (d:=31) rfl rfl rfl (q_makeFunc (Eos.caps (l:=[.tmp 4,.tmp 5]) (.cons rfl (.cons rfl .nil)))) ?_
    refine WL.eff0 rfl rfl (e_insert (k:=⟨#[47]⟩) (v:=(.func (.func 57) #[] #[(.pointer (some ⟨zJ,0,none⟩)),(.pointer (some ⟨zK,0,none⟩))])) keyT_9 Try.underlying105 rfl rfl rfl rfl .here) ?_
    refine WL.quiet (d:=32) rfl rfl rfl (q_move rfl) ?_
    refine WL.quiet (d:=8) rfl rfl rfl (q_assign rfl) ?_
    refine WL.nil ?_
    refine WX.then ?_
    refine WC.seq ?_
    obtain ⟨zdc,ztH,h⟩:=ze h
    obtain ⟨zaC,ztI,h⟩:=ze h
    refine WC.region ?_
    refine WL.quiet (d:=33) rfl rfl rfl (q_move rfl) ?_
    refine WL.quiet (d:=34) rfl rfl rfl (q_move rfl) ?_
    refine WL.quiet (d:=35) rfl rfl rfl (q_lookC (k:=⟨#[42]⟩) (dflt:=.nilFunc) (r:=(.func (.func 56) #[] #[(.pointer (some ⟨zJ,0,none⟩)),(.pointer (some ⟨zK,0,none⟩))])) keyT_9 Try.underlying105 zfp rfl rfl rfl .here (by rfl)) ?_
    refine WL.callD (dd:=36) rfl rfl rfl (run_callv (l:=[]) Try.call56 rfl .nil) (.nil : Sel [mapA z71 Value.string (fun x=>x) [(⟨#[43]⟩,(.func (.func 54) #[] #[(.pointer (some ⟨zJ,0,none⟩)),(.pointer (some ⟨zK,0,none⟩))])),(⟨#[45]⟩,(.func (.func 55) #[] #[(.pointer (some ⟨zJ,0,none⟩)),(.pointer (some ⟨zK,0,none⟩))])),(⟨#[42]⟩,(.func (.func 56) #[] #[(.pointer (some ⟨zJ,0,none⟩)),(.pointer (some ⟨zK,0,none⟩))])),(⟨#[47]⟩,(.func (.func 57) #[] #[(.pointer (some ⟨zJ,0,none⟩)),(.pointer (some ⟨zK,0,none⟩))]))],stb z3S 30 [(.int .i64 0),(.int .i64 0)],stb zK 30 [(.int .i64 z12.fN),(.int .i64 z12.fD)],stb zJ 30 [(.int .i64 z11.fN),(.int .i64 z11.fD)]] [] [mapA z71 Value.string (fun x=>x) [(⟨#[43]⟩,(.func (.func 54) #[] #[(.pointer (some ⟨zJ,0,none⟩)),(.pointer (some ⟨zK,0,none⟩))])),(⟨#[45]⟩,(.func (.func 55) #[] #[(.pointer (some ⟨zJ,0,none⟩)),(.pointer (some ⟨zK,0,none⟩))])),(⟨#[42]⟩,(.func (.func 56) #[] #[(.pointer (some ⟨zJ,0,none⟩)),(.pointer (some ⟨zK,0,none⟩))])),(⟨#[47]⟩,(.func (.func 57) #[] #[(.pointer (some ⟨zJ,0,none⟩)),(.pointer (some ⟨zK,0,none⟩))]))],stb z3S 30 [(.int .i64 0),(.int .i64 0)],stb zK 30 [(.int .i64 z12.fN),(.int .i64 z12.fD)],stb zJ 30 [(.int .i64 z11.fN),(.int .i64 z11.fD)]]) (fun w hw=>by have pz:=(hz.call hw (.nil : Sel [mapA z71 Value.string (fun x=>x) [(⟨#[43]⟩,(.func (.func 54) #[] #[(.pointer (some ⟨zJ,0,none⟩)),(.pointer (some ⟨zK,0,none⟩))])),(⟨#[45]⟩,(.func (.func 55) #[] #[(.pointer (some ⟨zJ,0,none⟩)),(.pointer (some ⟨zK,0,none⟩))])),(⟨#[42]⟩,(.func (.func 56) #[] #[(.pointer (some ⟨zJ,0,none⟩)),(.pointer (some ⟨zK,0,none⟩))])),(⟨#[47]⟩,(.func (.func 57) #[] #[(.pointer (some ⟨zJ,0,none⟩)),(.pointer (some ⟨zK,0,none⟩))]))],stb z3S 30 [(.int .i64 0),(.int .i64 0)],stb zK 30 [(.int .i64 z12.fN),(.int .i64 z12.fD)],stb zJ 30 [(.int .i64 z11.fN),(.int .i64 z11.fD)]] [] [mapA z71 Value.string (fun x=>x) [(⟨#[43]⟩,(.func (.func 54) #[] #[(.pointer (some ⟨zJ,0,none⟩)),(.pointer (some ⟨zK,0,none⟩))])),(⟨#[45]⟩,(.func (.func 55) #[] #[(.pointer (some ⟨zJ,0,none⟩)),(.pointer (some ⟨zK,0,none⟩))])),(⟨#[42]⟩,(.func (.func 56) #[] #[(.pointer (some ⟨zJ,0,none⟩)),(.pointer (some ⟨zK,0,none⟩))])),(⟨#[47]⟩,(.func (.func 57) #[] #[(.pointer (some ⟨zJ,0,none⟩)),(.pointer (some ⟨zK,0,none⟩))]))],stb z3S 30 [(.int .i64 0),(.int .i64 0)],stb zK 30 [(.int .i64 z12.fN),(.int .i64 z12.fD)],stb zJ 30 [(.int .i64 z11.fN),(.int .i64 z11.fD)]])).lend hw (.nil : Sel [mapA z71 Value.string (fun x=>x) [(⟨#[43]⟩,(.func (.func 54) #[] #[(.pointer (some ⟨zJ,0,none⟩)),(.pointer (some ⟨zK,0,none⟩))])),(⟨#[45]⟩,(.func (.func 55) #[] #[(.pointer (some ⟨zJ,0,none⟩)),(.pointer (some ⟨zK,0,none⟩))])),(⟨#[42]⟩,(.func (.func 56) #[] #[(.pointer (some ⟨zJ,0,none⟩)),(.pointer (some ⟨zK,0,none⟩))])),(⟨#[47]⟩,(.func (.func 57) #[] #[(.pointer (some ⟨zJ,0,none⟩)),(.pointer (some ⟨zK,0,none⟩))]))],stb z3S 30 [(.int .i64 0),(.int .i64 0)],stb zK 30 [(.int .i64 z12.fN),(.int .i64 z12.fD)],stb zJ 30 [(.int .i64 z11.fN),(.int .i64 z11.fD)]] [] [mapA z71 Value.string (fun x=>x) [(⟨#[43]⟩,(.func (.func 54) #[] #[(.pointer (some ⟨zJ,0,none⟩)),(.pointer (some ⟨zK,0,none⟩))])),(⟨#[45]⟩,(.func (.func 55) #[] #[(.pointer (some ⟨zJ,0,none⟩)),(.pointer (some ⟨zK,0,none⟩))])),(⟨#[42]⟩,(.func (.func 56) #[] #[(.pointer (some ⟨zJ,0,none⟩)),(.pointer (some ⟨zK,0,none⟩))])),(⟨#[47]⟩,(.func (.func 57) #[] #[(.pointer (some ⟨zJ,0,none⟩)),(.pointer (some ⟨zK,0,none⟩))]))],stb z3S 30 [(.int .i64 0),(.int .i64 0)],stb zK 30 [(.int .i64 z12.fN),(.int .i64 z12.fD)],stb zJ 30 [(.int .i64 z11.fN),(.int .i64 z11.fD)]]) (B:=[stb zJ 30 [(.int .i64 z11.fN),(.int .i64 z11.fD)],stb zK 30 [(.int .i64 z12.fN),(.int .i64 z12.fD)]]) (fun _ hx'=>((.cons (.there (.there (.there .here))) (.cons (.there (.there .here)) .nil)) : Sel _ [stb zJ 30 [(.int .i64 z11.fN),(.int .i64 z11.fD)],stb zK 30 [(.int .i64 z12.fN),(.int .i64 z12.fD)]] _).mem hx'); exact w_rat_do_3 (Z:=_) (zex:=⟨zJ,0,none⟩) (zey:=⟨zK,0,none⟩) (zbL:=z11) (zbM:=z12) (r:=zdc) w pz ((hw.lent (.nil : Sel [mapA z71 Value.string (fun x=>x) [(⟨#[43]⟩,(.func (.func 54) #[] #[(.pointer (some ⟨zJ,0,none⟩)),(.pointer (some ⟨zK,0,none⟩))])),(⟨#[45]⟩,(.func (.func 55) #[] #[(.pointer (some ⟨zJ,0,none⟩)),(.pointer (some ⟨zK,0,none⟩))])),(⟨#[42]⟩,(.func (.func 56) #[] #[(.pointer (some ⟨zJ,0,none⟩)),(.pointer (some ⟨zK,0,none⟩))])),(⟨#[47]⟩,(.func (.func 57) #[] #[(.pointer (some ⟨zJ,0,none⟩)),(.pointer (some ⟨zK,0,none⟩))]))],stb z3S 30 [(.int .i64 0),(.int .i64 0)],stb zK 30 [(.int .i64 z12.fN),(.int .i64 z12.fD)],stb zJ 30 [(.int .i64 z11.fN),(.int .i64 z11.fD)]] [] [mapA z71 Value.string (fun x=>x) [(⟨#[43]⟩,(.func (.func 54) #[] #[(.pointer (some ⟨zJ,0,none⟩)),(.pointer (some ⟨zK,0,none⟩))])),(⟨#[45]⟩,(.func (.func 55) #[] #[(.pointer (some ⟨zJ,0,none⟩)),(.pointer (some ⟨zK,0,none⟩))])),(⟨#[42]⟩,(.func (.func 56) #[] #[(.pointer (some ⟨zJ,0,none⟩)),(.pointer (some ⟨zK,0,none⟩))])),(⟨#[47]⟩,(.func (.func 57) #[] #[(.pointer (some ⟨zJ,0,none⟩)),(.pointer (some ⟨zK,0,none⟩))]))],stb z3S 30 [(.int .i64 0),(.int .i64 0)],stb zK 30 [(.int .i64 z12.fN),(.int .i64 z12.fD)],stb zJ 30 [(.int .i64 z11.fN),(.int .i64 z11.fD)]]) (B:=[stb zJ 30 [(.int .i64 z11.fN),(.int .i64 z11.fD)],stb zK 30 [(.int .i64 z12.fN),(.int .i64 z12.fD)]]) (fun _ hx'=>((.cons (.there (.there (.there .here))) (.cons (.there (.there .here)) .nil)) : Sel _ [stb zJ 30 [(.int .i64 z11.fN),(.int .i64 z11.fD)],stb zK 30 [(.int .i64 z12.fN),(.int .i64 z12.fD)]] _).mem hx') (.head _) _).stb) ((hw.lent (.nil : Sel [mapA z71 Value.string (fun x=>x) [(⟨#[43]⟩,(.func (.func 54) #[] #[(.pointer (some ⟨zJ,0,none⟩)),(.pointer (some ⟨zK,0,none⟩))])),(⟨#[45]⟩,(.func (.func 55) #[] #[(.pointer (some ⟨zJ,0,none⟩)),(.pointer (some ⟨zK,0,none⟩))])),(⟨#[42]⟩,(.func (.func 56) #[] #[(.pointer (some ⟨zJ,0,none⟩)),(.pointer (some ⟨zK,0,none⟩))])),(⟨#[47]⟩,(.func (.func 57) #[] #[(.pointer (some ⟨zJ,0,none⟩)),(.pointer (some ⟨zK,0,none⟩))]))],stb z3S 30 [(.int .i64 0),(.int .i64 0)],stb zK 30 [(.int .i64 z12.fN),(.int .i64 z12.fD)],stb zJ 30 [(.int .i64 z11.fN),(.int .i64 z11.fD)]] [] [mapA z71 Value.string (fun x=>x) [(⟨#[43]⟩,(.func (.func 54) #[] #[(.pointer (some ⟨zJ,0,none⟩)),(.pointer (some ⟨zK,0,none⟩))])),(⟨#[45]⟩,(.func (.func 55) #[] #[(.pointer (some ⟨zJ,0,none⟩)),(.pointer (some ⟨zK,0,none⟩))])),(⟨#[42]⟩,(.func (.func 56) #[] #[(.pointer (some ⟨zJ,0,none⟩)),(.pointer (some ⟨zK,0,none⟩))])),(⟨#[47]⟩,(.func (.func 57) #[] #[(.pointer (some ⟨zJ,0,none⟩)),(.pointer (some ⟨zK,0,none⟩))]))],stb z3S 30 [(.int .i64 0),(.int .i64 0)],stb zK 30 [(.int .i64 z12.fN),(.int .i64 z12.fD)],stb zJ 30 [(.int .i64 z11.fN),(.int .i64 z11.fD)]]) (B:=[stb zJ 30 [(.int .i64 z11.fN),(.int .i64 z11.fD)],stb zK 30 [(.int .i64 z12.fN),(.int .i64 z12.fD)]]) (fun _ hx'=>((.cons (.there (.there (.there .here))) (.cons (.there (.there .here)) .nil)) : Sel _ [stb zJ 30 [(.int .i64 z11.fN),(.int .i64 z11.fD)],stb zK 30 [(.int .i64 z12.fN),(.int .i64 z12.fD)]] _).mem hx') (.tail _ (.head _)) _).stb) ztH) ?_
    refine WL.quiet (d:=37) rfl rfl rfl (q_extract rfl rfl) ?_
    refine WL.quiet (d:=38) rfl rfl rfl (q_extract rfl rfl) ?_
    refine WL.callD (dd:=39) rfl rfl rfl (zn (l:=[.tmp 37,.tmp 38]) Try.call9 (.cons rfl (.cons rfl .nil))) (.nil : Sel [mapA z71 Value.string (fun x=>x) [(⟨#[43]⟩,(.func (.func 54) #[] #[(.pointer (some ⟨zJ,0,none⟩)),(.pointer (some ⟨zK,0,none⟩))])),(⟨#[45]⟩,(.func (.func 55) #[] #[(.pointer (some ⟨zJ,0,none⟩)),(.pointer (some ⟨zK,0,none⟩))])),(⟨#[42]⟩,(.func (.func 56) #[] #[(.pointer (some ⟨zJ,0,none⟩)),(.pointer (some ⟨zK,0,none⟩))])),(⟨#[47]⟩,(.func (.func 57) #[] #[(.pointer (some ⟨zJ,0,none⟩)),(.pointer (some ⟨zK,0,none⟩))]))],stb z3S 30 [(.int .i64 0),(.int .i64 0)],stb zK 30 [(.int .i64 z12.fN),(.int .i64 z12.fD)],stb zJ 30 [(.int .i64 z11.fN),(.int .i64 z11.fD)]] [] [mapA z71 Value.string (fun x=>x) [(⟨#[43]⟩,(.func (.func 54) #[] #[(.pointer (some ⟨zJ,0,none⟩)),(.pointer (some ⟨zK,0,none⟩))])),(⟨#[45]⟩,(.func (.func 55) #[] #[(.pointer (some ⟨zJ,0,none⟩)),(.pointer (some ⟨zK,0,none⟩))])),(⟨#[42]⟩,(.func (.func 56) #[] #[(.pointer (some ⟨zJ,0,none⟩)),(.pointer (some ⟨zK,0,none⟩))])),(⟨#[47]⟩,(.func (.func 57) #[] #[(.pointer (some ⟨zJ,0,none⟩)),(.pointer (some ⟨zK,0,none⟩))]))],stb z3S 30 [(.int .i64 0),(.int .i64 0)],stb zK 30 [(.int .i64 z12.fN),(.int .i64 z12.fD)],stb zJ 30 [(.int .i64 z11.fN),(.int .i64 z11.fD)]]) (fun w hw=>by have pz:=(hz.call hw (.nil : Sel [mapA z71 Value.string (fun x=>x) [(⟨#[43]⟩,(.func (.func 54) #[] #[(.pointer (some ⟨zJ,0,none⟩)),(.pointer (some ⟨zK,0,none⟩))])),(⟨#[45]⟩,(.func (.func 55) #[] #[(.pointer (some ⟨zJ,0,none⟩)),(.pointer (some ⟨zK,0,none⟩))])),(⟨#[42]⟩,(.func (.func 56) #[] #[(.pointer (some ⟨zJ,0,none⟩)),(.pointer (some ⟨zK,0,none⟩))])),(⟨#[47]⟩,(.func (.func 57) #[] #[(.pointer (some ⟨zJ,0,none⟩)),(.pointer (some ⟨zK,0,none⟩))]))],stb z3S 30 [(.int .i64 0),(.int .i64 0)],stb zK 30 [(.int .i64 z12.fN),(.int .i64 z12.fD)],stb zJ 30 [(.int .i64 z11.fN),(.int .i64 z11.fD)]] [] [mapA z71 Value.string (fun x=>x) [(⟨#[43]⟩,(.func (.func 54) #[] #[(.pointer (some ⟨zJ,0,none⟩)),(.pointer (some ⟨zK,0,none⟩))])),(⟨#[45]⟩,(.func (.func 55) #[] #[(.pointer (some ⟨zJ,0,none⟩)),(.pointer (some ⟨zK,0,none⟩))])),(⟨#[42]⟩,(.func (.func 56) #[] #[(.pointer (some ⟨zJ,0,none⟩)),(.pointer (some ⟨zK,0,none⟩))])),(⟨#[47]⟩,(.func (.func 57) #[] #[(.pointer (some ⟨zJ,0,none⟩)),(.pointer (some ⟨zK,0,none⟩))]))],stb z3S 30 [(.int .i64 0),(.int .i64 0)],stb zK 30 [(.int .i64 z12.fN),(.int .i64 z12.fD)],stb zJ 30 [(.int .i64 z11.fN),(.int .i64 z11.fD)]])); exact w_rat_Make (Z:=_)  (z7f:=zdc.1) (z6Q:=zdc.2) (r:=zaC) w pz  ztI) ?_
    refine WL.quiet (d:=40) rfl rfl rfl (q_extract rfl rfl) ?_
    refine WL.quiet (d:=41) rfl rfl rfl (q_extract rfl rfl) ?_
    refine WL.eff0 rfl rfl (e_store (vs:=[(.int .i64 zaC.1.fN),(.int .i64 zaC.1.fD)]) (ds:=[(.int .i64 zaC.1.fN),(.int .i64 zaC.1.fD)]) sizT_30 rfl rfl rfl rfl (oc_cons rfl (oc_cons rfl oc_nil)) (.there .here) (Nat.le_of_ble_eq_true rfl) rfl) ?_
    refine WL.quiet (d:=7) rfl rfl rfl (q_assign rfl) ?_
    refine WL.nil ?_
    refine WX.then ?_
    refine WC.ret ?_
    obtain rfl:=Option.some.inj h
    refine WX.bpRet Try.results40 (.agg rfl aggT_30 rfl (rd_all .here) (.tmp rfl .nil)) (fun w hw=>?_)
    exact ⟨ret2 rfl rfl,hw.sub .nil⟩
def m_rat_Mul (z4h : z2) (z4i : z2) : Option (z2 × Int) :=
 (m_rat_dod z4h z4i).bind fun zaD=>some (zaD.1,zaD.2)
set_option maxRecDepth 20000 in
theorem w_rat_Mul (Z : Zp)   (z4h : z2) (z4i : z2) (r : z2 × Int) (w₀ : World) (hz : PZ [] w₀ Z)
  (h : m_rat_Mul z4h z4i = some r) :
  Calls Try.prog 25 #[(.agg #[(.int .i64 z4h.fN),(.int .i64 z4h.fD)]),(.agg #[(.int .i64 z4i.fN),(.int .i64 z4i.fD)])] w₀ fun e w'=>e = .returned (.tuple #[(.agg #[(.int .i64 r.1.fN),(.int .i64 r.1.fD)]),(.int .i64 r.2)]) ∧ Hp [] w₀ w' []:=by
 unfold m_rat_Mul at h
 refine Calls.ofWC (vs:=[(.agg #[(.int .i64 z4h.fN),(.int .i64 z4h.fD)]),(.agg #[(.int .i64 z4i.fN),(.int .i64 z4i.fD)])]) (pre:=[]) (env:=[(0,(.agg #[(.int .i64 z4h.fN),(.int .i64 z4h.fD)])),(1,(.agg #[(.int .i64 z4i.fN),(.int .i64 z4i.fD)]))]) Try.func25 rfl Try.ntmps25 rfl (Hp.nil w₀ _) rfl ?_
 refine WC.seq ?_
 refine WC.region ?_
 refine WL.new (dd:=2) rfl rfl rfl (e_box (cs:=[(.int .i64 z4h.fN),(.int .i64 z4h.fD)]) rfl rfl) ?_
 intro zgq _
 refine WL.new (dd:=3) rfl rfl rfl (e_box (cs:=[(.int .i64 z4i.fN),(.int .i64 z4i.fD)]) rfl rfl) ?_
 intro zgr _
 refine WL.new (dd:=4) rfl rfl rfl (e_alloc (cs:=[(.int .i64 0),(.int .i64 0)]) zeroT_30 rfl) ?_
 intro zgs _
 refine WL.quiet (d:=5) rfl rfl rfl (q_assign rfl) ?_
 refine WL.nil ?_
 refine WX.then ?_
 refine WC.seq ?_
 obtain ⟨zaD,ztJ,h⟩:=ze h
 refine WC.region ?_
 refine WL.quiet (d:=6) rfl rfl rfl (q_loadA (cs:=[(.int .i64 z4h.fN),(.int .i64 z4h.fD)]) aggT_30 rfl rfl (rd_all (.there (.there .here)))) ?_
 refine WL.quiet (d:=7) rfl rfl rfl (q_loadA (cs:=[(.int .i64 z4i.fN),(.int .i64 z4i.fD)]) aggT_30 rfl rfl (rd_all (.there .here))) ?_
 refine WL.callD (dd:=8) rfl rfl rfl (zn (l:=[.const (.string ⟨#[42]⟩),.tmp 6,.tmp 7]) Try.call40 (.cons rfl (.cons rfl (.cons rfl .nil)))) (.nil : Sel [stb zgs 30 [(.int .i64 0),(.int .i64 0)],stb zgr 30 [(.int .i64 z4i.fN),(.int .i64 z4i.fD)],stb zgq 30 [(.int .i64 z4h.fN),(.int .i64 z4h.fD)]] [] [stb zgs 30 [(.int .i64 0),(.int .i64 0)],stb zgr 30 [(.int .i64 z4i.fN),(.int .i64 z4i.fD)],stb zgq 30 [(.int .i64 z4h.fN),(.int .i64 z4h.fD)]]) (fun w hw=>by have pz:=(hz.call hw (.nil : Sel [stb zgs 30 [(.int .i64 0),(.int .i64 0)],stb zgr 30 [(.int .i64 z4i.fN),(.int .i64 z4i.fD)],stb zgq 30 [(.int .i64 z4h.fN),(.int .i64 z4h.fD)]] [] [stb zgs 30 [(.int .i64 0),(.int .i64 0)],stb zgr 30 [(.int .i64 z4i.fN),(.int .i64 z4i.fD)],stb zgq 30 [(.int .i64 z4h.fN),(.int .i64 z4h.fD)]])); exact w_rat_dod (Z:=_)  (z11:=z4h) (z12:=z4i) (r:=zaD) w pz  ztJ) ?_
 refine WL.quiet (d:=9) rfl rfl rfl (q_extract rfl rfl) ?_
 refine WL.quiet (d:=10) rfl rfl rfl (q_extract rfl rfl) ?_
 refine WL.eff0 rfl rfl (e_store (vs:=[(.int .i64 zaD.1.fN),(.int .i64 zaD.1.fD)]) (ds:=[(.int .i64 zaD.1.fN),(.int .i64 zaD.1.fD)]) sizT_30 rfl rfl rfl rfl (oc_cons rfl (oc_cons rfl oc_nil)) .here (Nat.le_of_ble_eq_true rfl) rfl) ?_
 refine WL.quiet (d:=5) rfl rfl rfl (q_assign rfl) ?_
 refine WL.nil ?_
 refine WX.then ?_
 refine WC.ret ?_
 obtain rfl:=Option.some.inj h
 refine WX.bpRet Try.results25 (.agg rfl aggT_30 rfl (rd_all .here) (.tmp rfl .nil)) (fun w hw=>?_)
 exact ⟨ret2 rfl rfl,hw.sub .nil⟩
def m_curve_calc_value (z6r : z2a) (zS : z1) (z2L : z2) : Option (z2 × z2a) :=
 (m_curve_calc_do z6r (fun (y0 : z2) (y1 : z2)=>m_rat_Mul y0 y1) zS.fRate z2L).bind fun z7K=>(m_curve_calc_do z7K.2 (fun (y0 : z2) (y1 : z2)=>m_rat_Add y0 y1) zS.fBurst z7K.1).bind fun zaE=>some (zaE.1,zaE.2)
set_option maxRecDepth 20000 in
theorem w_curve_calc_value (Z : Zp)  (z4j : Nat) (z6r : z2a) (zS : z1) (z2L : z2) (r : z2 × z2a) (w₀ : World) (hz : PZ (fps [stb z4j 90 [(.int .i64 z6r.fE)]]) w₀ Z)
  (h : m_curve_calc_value z6r zS z2L = some r)
  (hown : Hp (fps [stb z4j 90 [(.int .i64 z6r.fE)]]) w₀ w₀ [stb z4j 90 [(.int .i64 z6r.fE)]]) :
  Calls Try.prog 45 #[(.pointer (some ⟨z4j,0,none⟩)),(.agg #[(.int .i64 zS.fBurst.fN),(.int .i64 zS.fBurst.fD),(.int .i64 zS.fRate.fN),(.int .i64 zS.fRate.fD)]),(.agg #[(.int .i64 z2L.fN),(.int .i64 z2L.fD)])] w₀ fun e w'=>e = .returned (.agg #[(.int .i64 r.1.fN),(.int .i64 r.1.fD)]) ∧ Hp (fps [stb z4j 90 [(.int .i64 z6r.fE)]]) w₀ w' [stb z4j 90 [(.int .i64 r.2.fE)]]:=by
 unfold m_curve_calc_value at h
 refine Calls.ofWC (vs:=[(.pointer (some ⟨z4j,0,none⟩)),(.agg #[(.int .i64 zS.fBurst.fN),(.int .i64 zS.fBurst.fD),(.int .i64 zS.fRate.fN),(.int .i64 zS.fRate.fD)]),(.agg #[(.int .i64 z2L.fN),(.int .i64 z2L.fD)])]) (pre:=[stb z4j 90 [(.int .i64 z6r.fE)]]) (env:=[(0,(.pointer (some ⟨z4j,0,none⟩))),(1,(.agg #[(.int .i64 zS.fBurst.fN),(.int .i64 zS.fBurst.fD),(.int .i64 zS.fRate.fN),(.int .i64 zS.fRate.fD)])),(2,(.agg #[(.int .i64 z2L.fN),(.int .i64 z2L.fD)]))]) Try.func45 rfl Try.ntmps45 rfl (hown) rfl ?_
 refine WC.seq ?_
 refine WC.region ?_
 refine WL.new (dd:=4) rfl rfl rfl (e_box (cs:=[(.int .i64 zS.fBurst.fN),(.int .i64 zS.fBurst.fD),(.int .i64 zS.fRate.fN),(.int .i64 zS.fRate.fD)]) rfl rfl) ?_
 intro z7k _
 refine WL.new (dd:=5) rfl rfl rfl (e_box (cs:=[(.int .i64 z2L.fN),(.int .i64 z2L.fD)]) rfl rfl) ?_
 intro z7L _
 refine WL.new (dd:=6) rfl rfl rfl (e_alloc (cs:=[(.int .i64 0),(.int .i64 0)]) zeroT_30 rfl) ?_
 intro z7M _
 refine WL.nil ?_
 refine WX.then ?_
 refine WC.seq ?_
 obtain ⟨z7K,ztK,h⟩:=ze h
 obtain ⟨zaE,ztL,h⟩:=ze h
 refine WC.draw (fun i=>[7,8,9].contains i) [stb z7k 35 [(.int .i64 zS.fBurst.fN),(.int .i64 zS.fBurst.fD),(.int .i64 zS.fRate.fN),(.int .i64 zS.fRate.fD)]] rfl ?_
 refine WD.pure (i:=0) (d:=7) (by kernel_rfl) rfl (z6 (by kernel_rfl)) (z7 (by kernel_rfl)) rfl rfl rfl (fun _=>q_move rfl) ?_
 refine WD.pure (i:=1) (d:=8) (by kernel_rfl) rfl (z6 (by kernel_rfl)) (z7 (by kernel_rfl)) rfl rfl rfl (fun _=>q_fieldAddr fo_35_0 rfl rfl) ?_
 refine WD.stable (i:=2) (d:=9) (by kernel_rfl) rfl (z6 (by kernel_rfl)) (z7 (by kernel_rfl)) rfl rfl rfl (Sin.of (.cons (.there (.there .here)) .nil)) (q_loadA (cs:=[(.int .i64 zS.fBurst.fN),(.int .i64 zS.fBurst.fD)]) aggT_30 rfl rfl (rd_sub (s:=2) .here rfl)) ?_
 refine WD.pure (i:=3) (d:=10) (by kernel_rfl) rfl (z6 (by kernel_rfl)) (z7 (by kernel_rfl)) rfl rfl rfl (fun _=>q_move rfl) ?_
 refine WD.pure (i:=4) (d:=11) (by kernel_rfl) rfl (z6 (by kernel_rfl)) (z7 (by kernel_rfl)) rfl rfl rfl (fun _=>q_fieldAddr fo_35_1 rfl rfl) ?_
 refine WD.quiet (i:=5) (d:=12) (by kernel_rfl) rfl (z6 (by kernel_rfl)) (z7 (by kernel_rfl)) rfl rfl rfl (q_loadA (cs:=[(.int .i64 zS.fRate.fN),(.int .i64 zS.fRate.fD)]) aggT_30 rfl rfl (rd_sub (s:=2) (.there (.there .here)) rfl)) ?_
 refine WD.quiet (i:=6) (d:=13) (by kernel_rfl) rfl (z6 (by kernel_rfl)) (z7 (by kernel_rfl)) rfl rfl rfl (q_loadA (cs:=[(.int .i64 z2L.fN),(.int .i64 z2L.fD)]) aggT_30 rfl rfl (rd_all (.there .here))) ?_
 refine WD.call0 (i:=7) (dd:=14) rfl (by kernel_rfl) rfl rfl rfl (.inl ⟨rfl,(Sin.of (.cons (.there (.there (.there .here))) .nil))⟩) (zn (l:=[.tmp 10,.func 25,.tmp 12,.tmp 13]) Try.call58 (.cons rfl (.cons rfl (.cons rfl (.cons rfl .nil))))) ((.cons (.there (.there (.there .here))) .nil) : Sel [stb z7M 30 [(.int .i64 0),(.int .i64 0)],stb z7L 30 [(.int .i64 z2L.fN),(.int .i64 z2L.fD)],stb z7k 35 [(.int .i64 zS.fBurst.fN),(.int .i64 zS.fBurst.fD),(.int .i64 zS.fRate.fN),(.int .i64 zS.fRate.fD)],stb z4j 90 [(.int .i64 z6r.fE)]] [stb z4j 90 [(.int .i64 z6r.fE)]] [stb z7M 30 [(.int .i64 0),(.int .i64 0)],stb z7L 30 [(.int .i64 z2L.fN),(.int .i64 z2L.fD)],stb z7k 35 [(.int .i64 zS.fBurst.fN),(.int .i64 zS.fBurst.fD),(.int .i64 zS.fRate.fN),(.int .i64 zS.fRate.fD)]]) (fun w hw=>by have pz:=(hz.call hw ((.cons (.there (.there (.there .here))) .nil) : Sel [stb z7M 30 [(.int .i64 0),(.int .i64 0)],stb z7L 30 [(.int .i64 z2L.fN),(.int .i64 z2L.fD)],stb z7k 35 [(.int .i64 zS.fBurst.fN),(.int .i64 zS.fBurst.fD),(.int .i64 zS.fRate.fN),(.int .i64 zS.fRate.fD)],stb z4j 90 [(.int .i64 z6r.fE)]] [stb z4j 90 [(.int .i64 z6r.fE)]] [stb z7M 30 [(.int .i64 0),(.int .i64 0)],stb z7L 30 [(.int .i64 z2L.fN),(.int .i64 z2L.fD)],stb z7k 35 [(.int .i64 zS.fBurst.fN),(.int .i64 zS.fBurst.fD),(.int .i64 zS.fRate.fN),(.int .i64 zS.fRate.fD)]])); exact Calls.mono (w_curve_calc_do (Z:=_) (z6T:=z4j) (z7z:=25) (z8B:=[]) (z6S:=z6r) (z9q:=(fun (y0 : z2) (y1 : z2)=>m_rat_Mul y0 y1)) (z5a:=zS.fRate) (z5b:=z2L) (r:=z7K) w pz Try.call25 (fun w' hz' y0 y1  r  hr=>w_rat_Mul (Z:=_)  (z4h:=y0) (z4i:=y1) (r:=r) w' hz'  hr) ztK (hw.owns ((.cons (.there (.there (.there .here))) .nil) : Sel [stb z7M 30 [(.int .i64 0),(.int .i64 0)],stb z7L 30 [(.int .i64 z2L.fN),(.int .i64 z2L.fD)],stb z7k 35 [(.int .i64 zS.fBurst.fN),(.int .i64 zS.fBurst.fD),(.int .i64 zS.fRate.fN),(.int .i64 zS.fRate.fD)],stb z4j 90 [(.int .i64 z6r.fE)]] [stb z4j 90 [(.int .i64 z6r.fE)]] [stb z7M 30 [(.int .i64 0),(.int .i64 0)],stb z7L 30 [(.int .i64 z2L.fN),(.int .i64 z2L.fD)],stb z7k 35 [(.int .i64 zS.fBurst.fN),(.int .i64 zS.fBurst.fD),(.int .i64 zS.fRate.fN),(.int .i64 zS.fRate.fD)]]))) (fun _ _ h'=>⟨h'.1,trivial,h'.2⟩)) ?_
 intro _
 refine WD.call0 (i:=8) (dd:=15) rfl (by kernel_rfl) rfl rfl rfl (.inl ⟨rfl,(Sin.of (.cons (.there (.there (.there .here))) .nil))⟩) (zn (l:=[.tmp 7,.func 19,.tmp 9,.tmp 14]) Try.call58 (.cons rfl (.cons rfl (.cons rfl (.cons rfl .nil))))) ((.cons .here .nil) : Sel [stb z4j 90 [(.int .i64 z7K.2.fE)],stb z7M 30 [(.int .i64 0),(.int .i64 0)],stb z7L 30 [(.int .i64 z2L.fN),(.int .i64 z2L.fD)],stb z7k 35 [(.int .i64 zS.fBurst.fN),(.int .i64 zS.fBurst.fD),(.int .i64 zS.fRate.fN),(.int .i64 zS.fRate.fD)]] [stb z4j 90 [(.int .i64 z7K.2.fE)]] [stb z7M 30 [(.int .i64 0),(.int .i64 0)],stb z7L 30 [(.int .i64 z2L.fN),(.int .i64 z2L.fD)],stb z7k 35 [(.int .i64 zS.fBurst.fN),(.int .i64 zS.fBurst.fD),(.int .i64 zS.fRate.fN),(.int .i64 zS.fRate.fD)]]) (fun w hw=>by have pz:=(hz.call hw ((.cons .here .nil) : Sel [stb z4j 90 [(.int .i64 z7K.2.fE)],stb z7M 30 [(.int .i64 0),(.int .i64 0)],stb z7L 30 [(.int .i64 z2L.fN),(.int .i64 z2L.fD)],stb z7k 35 [(.int .i64 zS.fBurst.fN),(.int .i64 zS.fBurst.fD),(.int .i64 zS.fRate.fN),(.int .i64 zS.fRate.fD)]] [stb z4j 90 [(.int .i64 z7K.2.fE)]] [stb z7M 30 [(.int .i64 0),(.int .i64 0)],stb z7L 30 [(.int .i64 z2L.fN),(.int .i64 z2L.fD)],stb z7k 35 [(.int .i64 zS.fBurst.fN),(.int .i64 zS.fBurst.fD),(.int .i64 zS.fRate.fN),(.int .i64 zS.fRate.fD)]])); exact Calls.mono (w_curve_calc_do (Z:=_) (z6T:=z4j) (z7z:=19) (z8B:=[]) (z6S:=z7K.2) (z9q:=(fun (y0 : z2) (y1 : z2)=>m_rat_Add y0 y1)) (z5a:=zS.fBurst) (z5b:=z7K.1) (r:=zaE) w pz Try.call19 (fun w' hz' y0 y1  r  hr=>w_rat_Add (Z:=_)  (z3E:=y0) (z3F:=y1) (r:=r) w' hz'  hr) ztL (hw.owns ((.cons .here .nil) : Sel [stb z4j 90 [(.int .i64 z7K.2.fE)],stb z7M 30 [(.int .i64 0),(.int .i64 0)],stb z7L 30 [(.int .i64 z2L.fN),(.int .i64 z2L.fD)],stb z7k 35 [(.int .i64 zS.fBurst.fN),(.int .i64 zS.fBurst.fD),(.int .i64 zS.fRate.fN),(.int .i64 zS.fRate.fD)]] [stb z4j 90 [(.int .i64 z7K.2.fE)]] [stb z7M 30 [(.int .i64 0),(.int .i64 0)],stb z7L 30 [(.int .i64 z2L.fN),(.int .i64 z2L.fD)],stb z7k 35 [(.int .i64 zS.fBurst.fN),(.int .i64 zS.fBurst.fD),(.int .i64 zS.fRate.fN),(.int .i64 zS.fRate.fD)]]))) (fun _ _ h'=>⟨h'.1,trivial,h'.2⟩)) ?_
 intro _
 refine WD.last0 (i:=9) rfl (by kernel_rfl) rfl rfl rfl (by kernel_rfl) (e_store (vs:=[(.int .i64 zaE.1.fN),(.int .i64 zaE.1.fD)]) (ds:=[(.int .i64 zaE.1.fN),(.int .i64 zaE.1.fD)]) sizT_30 rfl rfl rfl rfl (oc_cons rfl (oc_cons rfl oc_nil)) (.there .here) (Nat.le_of_ble_eq_true rfl) rfl) ?_
 refine WD.done (by kernel_rfl) ?_
 refine WX.then ?_
 refine WC.ret ?_
 obtain rfl:=Option.some.inj h
 refine WX.bpRet Try.results45 (.agg rfl aggT_30 rfl (rd_all .here) .nil) (fun w hw=>?_)
 exact ⟨ret1 rfl,hw.sub (.cons (.there .here) .nil)⟩
def m_slices_MinFunc_api_Rat_api_Rat_L2 (z27 : List z2) (z8h : z2 → z2 → Option Int) (z9J : Int → Int → Option z2) : Nat → Int → Int → Int → Option z2
 | 0,_,_,_=>none
 | zk2 + 1,z31,z6s,z6t=>if decide (z31 < ((z27.length : Nat) : Int)) then jp2 (fun (z9K : Int) (z9L : Int)=>m_slices_MinFunc_api_Rat_api_Rat_L2 z27 z8h z9J zk2 (i64 (z31 + 1)) z9K z9L) fun zgt=>chk ((0 : Int) ≤ z31 ∧ z31 < ((z27.length : Nat) : Int)) ((z8h (⟨((nth z27 z31).fN),((nth z27 z31).fD)⟩ : z2) (⟨z6s,z6t⟩ : z2)).bind fun zk3=>if decide (zk3 < 0) then chk ((0 : Int) ≤ z31 ∧ z31 < ((z27.length : Nat) : Int)) (zgt ((nth z27 z31).fN) ((nth z27 z31).fD)) else zgt z6s z6t) else z9J z6s z6t
theorem m_slices_MinFunc_api_Rat_api_Rat_L2_fuel {n : Nat} {z27 : List z2} {z8h : z2 → z2 → Option Int} {z9J : Int → Int → Option z2} {z31 : Int} {z6s : Int} {z6t : Int} {r : z2} (h : m_slices_MinFunc_api_Rat_api_Rat_L2 z27 z8h z9J n z31 z6s z6t = some r) : ∃ m,n = m + 1:=by
 cases n with
 | zero=>cases h
 | succ m=>exact ⟨m,rfl⟩
def m_slices_MinFunc_api_Rat_api_Rat (z27 : List z2) (z8h : z2 → z2 → Option Int) : Option z2 :=
 if decide (((z27.length : Nat) : Int) < 1) then none else chk ((0 : Int) ≤ 0 ∧ 0 < ((z27.length : Nat) : Int)) (jp2 (fun (z8i : Int) (z8j : Int)=>some (⟨z8i,z8j⟩ : z2)) fun z9J=>m_slices_MinFunc_api_Rat_api_Rat_L2 z27 z8h z9J FUEL 1 ((nth z27 0).fN) ((nth z27 0).fD))
set_option maxRecDepth 20000 in
theorem w_slices_MinFunc_api_Rat_api_Rat (Z : Zp)  (zbN : Option Addr) (zbO : Nat) (z8L : FuncId) (zaF : List Value) (z27 : List z2) (z8h : z2 → z2 → Option Int) (r : z2) (w₀ : World) (hz : PZ [] w₀ Z)
  (zk4 : ZS Z 2 (fun r x=>r = e30 x) zbN zbO z27)
  (ztM : ∀ args w,(callFunc z8L args).run Try.prog w = .ok (.enter z8L args) w)
  (ztN : ∀ w : World,PZ [] w Z → ∀ (x0 : z2) (x1 : z2) (r : Int),z8h x0 x1 = some r → Calls Try.prog z8L (([(.agg #[(.int .i64 x0.fN),(.int .i64 x0.fD)]),(.agg #[(.int .i64 x1.fN),(.int .i64 x1.fD)])] : List Value) ++ zaF).toArray w fun e w'=>e = .returned (.int .i64 r) ∧ Hp [] w w' [])
  (h : m_slices_MinFunc_api_Rat_api_Rat z27 z8h = some r) :
  Calls Try.prog 46 #[(.slice zbN z27.length zbO),(.func (.func z8L) #[] (zaF).toArray)] w₀ fun e w'=>e = .returned (.agg #[(.int .i64 r.fN),(.int .i64 r.fD)]) ∧ Hp [] w₀ w' []:=by
 unfold m_slices_MinFunc_api_Rat_api_Rat at h
 refine Calls.ofWC (vs:=[(.slice zbN z27.length zbO),(.func (.func z8L) #[] (zaF).toArray)]) (pre:=[]) (env:=[(0,(.slice zbN z27.length zbO)),(1,(.func (.func z8L) #[] (zaF).toArray))]) Try.func46 rfl Try.ntmps46 rfl (Hp.nil w₀ _) rfl ?_
 refine WC.seq ?_
 refine WC.region ?_
 refine WL.new (dd:=4) rfl rfl rfl (e_alloc (cs:=[(.int .i64 0),(.int .i64 0)]) zeroT_30 rfl) ?_
 intro zdd _
 refine WL.nil ?_
 refine WX.then ?_
 refine WC.seq ?_
 refine WC.seq ?_
 refine WC.region ?_
 refine WL.quiet (d:=7) rfl rfl rfl (q_move rfl) ?_
 refine WL.quiet (d:=8) rfl rfl rfl (q_len Try.underlying77 rfl) ?_
 refine WL.quiet (d:=9) rfl rfl rfl (q_lss rfl rfl) ?_
 refine WL.nil ?_
 refine WX.then ?_
 refine WC.cond rfl (fun zk5=>?_) (fun zk5=>?_)
 ·replace h:=ite_t h zk5
  cases h
 ·replace h:=ite_f h zk5
  refine WC.skip ?_
  refine WX.then ?_
  refine WC.seq ?_
  obtain ⟨ztO,h⟩:=chk_elim h
  refine WC.region ?_
  refine WL.quiet (d:=11) rfl rfl rfl (q_move rfl) ?_
  refine WL.znth (dd:=12) rfl rfl (Z:=Z) (Pr:=(fun r x=>r = e30 x)) elT_77 rfl rfl zk4 ztO ?_
  rintro zyi zyj ztP zyk rfl
  refine WL.quiet (d:=13) rfl rfl rfl (q_loadA (cs:=[(.int .i64 ((nth z27 0).fN)),(.int .i64 ((nth z27 0).fD))]) aggT_30 rfl rfl (rd_zs hz.pv ztP)) ?_
  refine WL.new (dd:=5) rfl rfl rfl (e_alloc (cs:=[(.int .i64 0),(.int .i64 0)]) zeroT_30 rfl) ?_
  intro zde _
  refine WL.eff0 rfl rfl (e_store (vs:=[(.int .i64 ((nth z27 0).fN)),(.int .i64 ((nth z27 0).fD))]) (ds:=[(.int .i64 ((nth z27 0).fN)),(.int .i64 ((nth z27 0).fD))]) sizT_30 rfl rfl rfl rfl (oc_cons rfl (oc_cons rfl oc_nil)) .here (Nat.le_of_ble_eq_true rfl) rfl) ?_
  refine WL.nil ?_
  refine WX.then ?_
  obtain ⟨z9J,ztQ,h⟩:=jp2_elim h
  refine WC.seqMid2 (fun (z8i : Int) (z8j : Int)=>(z9J z8i z8j = some r)) (fun (z8i : Int) (z8j : Int)=>[(4,(.pointer (some ⟨zdd,0,none⟩))),(5,(.pointer (some ⟨zde,0,none⟩)))]) (fun (z8i : Int) (z8j : Int)=>[stb zdd 30 [(.int .i64 0),(.int .i64 0)],stb zde 30 [(.int .i64 z8i),(.int .i64 z8j)]]) ?_ ?_
  ·skip
   refine WC.seq ?_
   refine WC.region ?_
   refine WL.quiet (d:=6) rfl rfl rfl (q_assign rfl) ?_
   refine WL.nil ?_
   refine WX.then ?_
   refine WC.block ?_
   refine WC.loop4 (fun (zdf : Nat) (z31 : Int) (z6s : Int) (z6t : Int)=>(m_slices_MinFunc_api_Rat_api_Rat_L2 z27 z8h z9J zdf z31 z6s z6t = some r)) (fun (zdf : Nat) (z31 : Int) (z6s : Int) (z6t : Int)=>[(0,(.slice zbN z27.length zbO)),(1,(.func (.func z8L) #[] (zaF).toArray)),(4,(.pointer (some ⟨zdd,0,none⟩))),(5,(.pointer (some ⟨zde,0,none⟩))),(6,(.int .i64 z31))]) (fun (zdf : Nat) (z31 : Int) (z6s : Int) (z6t : Int)=>[stb zdd 30 [(.int .i64 0),(.int .i64 0)],stb zde 30 [(.int .i64 z6s),(.int .i64 z6t)]]) (fun (zdf : Nat) (z31 : Int) (z6s : Int) (z6t : Int)=>zdf) ⟨FUEL,1,((nth z27 0).fN),((nth z27 0).fD)⟩ h (.cons rfl (.cons rfl (.cons rfl (.cons rfl (.cons rfl .nil))))) (.cons (.there .here) (.cons .here .nil)) ?_
   rintro zdf z31 z6s z6t h
   obtain ⟨zk2,rfl⟩:=m_slices_MinFunc_api_Rat_api_Rat_L2_fuel h
   rw [m_slices_MinFunc_api_Rat_api_Rat_L2] at h
   refine WC.seq ?_
   refine WC.seq ?_
   refine WC.region ?_
   refine WL.quiet (d:=14) rfl rfl rfl (q_move rfl) ?_
   refine WL.quiet (d:=15) rfl rfl rfl (q_move rfl) ?_
   refine WL.quiet (d:=16) rfl rfl rfl (q_len Try.underlying77 rfl) ?_
   refine WL.quiet (d:=17) rfl rfl rfl (q_lss rfl rfl) ?_
   refine WL.nil ?_
   refine WX.then ?_
   refine WC.cond rfl (fun zk6=>?_) (fun zk6=>?_)
   ·replace h:=ite_t h zk6
    refine WC.skip ?_
    refine WX.then ?_
    obtain ⟨zgt,ztR,h⟩:=jp2_elim h
    refine WC.seqMid2 (fun (z9K : Int) (z9L : Int)=>(zgt z9K z9L = some r)) (fun (z9K : Int) (z9L : Int)=>[(0,(.slice zbN z27.length zbO)),(1,(.func (.func z8L) #[] (zaF).toArray)),(4,(.pointer (some ⟨zdd,0,none⟩))),(5,(.pointer (some ⟨zde,0,none⟩))),(6,(.int .i64 z31))]) (fun (z9K : Int) (z9L : Int)=>[stb zdd 30 [(.int .i64 0),(.int .i64 0)],stb zde 30 [(.int .i64 z9K),(.int .i64 z9L)]]) ?_ ?_
    ·skip
     refine WC.block ?_
     refine WC.seq ?_
     obtain ⟨ztS,h⟩:=chk_elim h
     obtain ⟨zk3,ztT,h⟩:=ze h
     refine WC.draw (fun i=>[].contains i) [] rfl ?_
     refine WD.pure (i:=0) (d:=20) (by kernel_rfl) rfl (z6 (by kernel_rfl)) (z7 (by kernel_rfl)) rfl rfl rfl (fun _=>q_move rfl) ?_
     refine WD.pure (i:=1) (d:=21) (by kernel_rfl) rfl (z6 (by kernel_rfl)) (z7 (by kernel_rfl)) rfl rfl rfl (fun _=>q_move rfl) ?_
     refine WD.pure (i:=2) (d:=22) (by kernel_rfl) rfl (z6 (by kernel_rfl)) (z7 (by kernel_rfl)) rfl rfl rfl (fun _=>q_move rfl) ?_
     refine WD.znth (j:=3) (dd:=23) (by kernel_rfl) rfl (z6 (by kernel_rfl)) (z7 (by kernel_rfl)) rfl rfl (Z:=Z) (Pr:=(fun r x=>r = e30 x)) elT_77 rfl rfl zk4 ztS ?_
     rintro zyl zym ztU zyn rfl
     refine WD.quiet (i:=4) (d:=24) (by kernel_rfl) rfl (z6 (by kernel_rfl)) (z7 (by kernel_rfl)) rfl rfl rfl (q_loadA (cs:=[(.int .i64 ((nth z27 z31).fN)),(.int .i64 ((nth z27 z31).fD))]) aggT_30 rfl rfl (rd_zs hz.pv ztU)) ?_
     refine WD.quiet (i:=5) (d:=25) (by kernel_rfl) rfl (z6 (by kernel_rfl)) (z7 (by kernel_rfl)) rfl rfl rfl (q_loadA (cs:=[(.int .i64 z6s),(.int .i64 z6t)]) aggT_30 rfl rfl (rd_all (.there .here))) ?_
     refine WD.enter (i:=6) (d:=26) (by kernel_rfl) rfl (z6 (by kernel_rfl)) (z7 (by kernel_rfl)) rfl rfl rfl (run_callv (l:=[.tmp 24,.tmp 25]) (f:=z8L) (caps:=zaF) ztM rfl (.cons rfl (.cons rfl .nil))) (fun w hw=>ztN w (hz.now hw) (⟨((nth z27 z31).fN),((nth z27 z31).fD)⟩ : z2) (⟨z6s,z6t⟩ : z2) zk3  ztT) ?_
     refine WD.pure (i:=7) (d:=27) (by kernel_rfl) rfl (z6 (by kernel_rfl)) (z7 (by kernel_rfl)) rfl rfl rfl (fun _=>q_lss rfl rfl) ?_
     refine WD.done (by kernel_rfl) ?_
     refine WX.then ?_
     refine WC.cond rfl (fun zk7=>?_) (fun zk7=>?_)
     ·replace h:=ite_t h zk7
      obtain ⟨ztV,h⟩:=chk_elim h
      refine WC.region ?_
      refine WL.quiet (d:=28) rfl rfl rfl (q_move rfl) ?_
      refine WL.quiet (d:=29) rfl rfl rfl (q_move rfl) ?_
      refine WL.znth (dd:=30) rfl rfl (Z:=Z) (Pr:=(fun r x=>r = e30 x)) elT_77 rfl rfl zk4 ztV ?_
      rintro zyo zyp ztW zyq rfl
      refine WL.quiet (d:=31) rfl rfl rfl (q_loadA (cs:=[(.int .i64 ((nth z27 z31).fN)),(.int .i64 ((nth z27 z31).fD))]) aggT_30 rfl rfl (rd_zs hz.pv ztW)) ?_
      refine WL.eff0 rfl rfl (e_store (vs:=[(.int .i64 ((nth z27 z31).fN)),(.int .i64 ((nth z27 z31).fD))]) (ds:=[(.int .i64 ((nth z27 z31).fN)),(.int .i64 ((nth z27 z31).fD))]) sizT_30 rfl rfl rfl rfl (oc_cons rfl (oc_cons rfl oc_nil)) (.there .here) (Nat.le_of_ble_eq_true rfl) rfl) ?_
      refine WL.nil ?_
      refine WX.blockNormal ?_
      exact WX.mid (G:=Int × Int) ⟨((nth z27 z31).fN),((nth z27 z31).fD)⟩ h (.cons rfl (.cons rfl (.cons rfl (.cons rfl (.cons rfl .nil))))) (.cons (.there .here) (.cons .here .nil))
     ·replace h:=ite_f h zk7
      refine WC.skip ?_
      refine WX.blockNormal ?_
      exact WX.mid (G:=Int × Int) ⟨z6s,z6t⟩ h (.cons rfl (.cons rfl (.cons rfl (.cons rfl (.cons rfl .nil))))) (.cons .here (.cons .here .nil))
    ·rintro z9K z9L h
     replace h:=(ztR z9K z9L).symm.trans h
     refine WC.region ?_
     refine WL.quiet (d:=18) rfl rfl rfl (q_move rfl) ?_
     refine WL.quiet (d:=19) rfl rfl rfl (q_add rfl rfl rfl) ?_
     refine WL.quiet (d:=6) rfl rfl rfl (q_assign rfl) ?_
     refine WL.nil ?_
     exact WX.round (G:=Nat × Int × Int × Int) ⟨zk2,(i64 (z31 + 1)),z9K,z9L⟩ h (Nat.lt_succ_self _) (.cons rfl (.cons rfl (.cons rfl (.cons rfl (.cons rfl .nil))))) (.cons .here (.cons .here .nil))
   ·replace h:=ite_f h zk6
    refine WC.exit ?_
    refine WX.thenExit ?_
    refine WX.thenExit ?_
    refine WX.blockHit ?_
    exact WX.mid (G:=Int × Int) ⟨z6s,z6t⟩ h (.cons rfl (.cons rfl .nil)) (.cons .here (.cons .here .nil))
  ·rintro z8i z8j h
   replace h:=(ztQ z8i z8j).symm.trans h
   refine WC.seq ?_
   refine WC.region ?_
   refine WL.quiet (d:=32) rfl rfl rfl (q_loadA (cs:=[(.int .i64 z8i),(.int .i64 z8j)]) aggT_30 rfl rfl (rd_all (.there .here))) ?_
   refine WL.eff0 rfl rfl (e_store (vs:=[(.int .i64 z8i),(.int .i64 z8j)]) (ds:=[(.int .i64 z8i),(.int .i64 z8j)]) sizT_30 rfl rfl rfl rfl (oc_cons rfl (oc_cons rfl oc_nil)) .here (Nat.le_of_ble_eq_true rfl) rfl) ?_
   refine WL.nil ?_
   refine WX.then ?_
   refine WC.ret ?_
   obtain rfl:=Option.some.inj h
   refine WX.bpRet Try.results46 (.agg rfl aggT_30 rfl (rd_all .here) .nil) (fun w hw=>?_)
   exact ⟨ret1 rfl,hw.sub .nil⟩
def m_curve_At_L2 (z1e : List z1) (z1Q : z2) (z9M : (List z2) → Int → Option (z2 × Int)) : Nat → (List z2) → Int → Int → Option (z2 × Int)
 | 0,_,_,_=>none
 | zk8 + 1,z3g,z1F,z5h=>if decide (z1F < ((z1e.length : Nat) : Int)) then chk ((0 : Int) ≤ z1F ∧ z1F < ((z1e.length : Nat) : Int)) ((m_curve_calc_value (⟨z5h⟩ : z2a) (⟨(⟨(((nth z1e z1F).fBurst).fN),(((nth z1e z1F).fBurst).fD)⟩ : z2),(⟨(((nth z1e z1F).fRate).fN),(((nth z1e z1F).fRate).fD)⟩ : z2)⟩ : z1) z1Q).bind fun z8M=>chk ((((z3g ++ ([z8M.1] : List z2)).length : Nat) : Int) * 16 ≤ 140737488355328 ∧ (((z3g ++ ([z8M.1] : List z2)).length : Nat) : Int) ≤ 4611686018427387904) (m_curve_At_L2 z1e z1Q z9M zk8 (z3g ++ ([z8M.1] : List z2)) (i64 (z1F + 1)) z8M.2.fE)) else z9M z3g z5h
theorem m_curve_At_L2_fuel {n : Nat} {z1e : List z1} {z1Q : z2} {z9M : (List z2) → Int → Option (z2 × Int)} {z3g : List z2} {z1F : Int} {z5h : Int} {r : z2 × Int} (h : m_curve_At_L2 z1e z1Q z9M n z3g z1F z5h = some r) : ∃ m,n = m + 1:=by
 cases n with
 | zero=>cases h
 | succ m=>exact ⟨m,rfl⟩
def m_curve_At (z1e : List z1) (z1Q : z2) : Option (z2 × Int) :=
 (m_curve_Valid z1e).bind fun zgu=>(if !zgu then some true else (m_curve_good z1Q).bind fun zk9=>some (!zk9)).bind fun zka=>if zka then some ((⟨0,0⟩ : z2),2) else jp2 (fun (z2X : List z2) (z5C : Int)=>if decide (z5C ≠ 0) then some ((⟨0,0⟩ : z2),z5C) else (m_slices_MinFunc_api_Rat_api_Rat z2X (fun (y0 : z2) (y1 : z2)=>m_rat_Cmp y0 y1)).bind fun zbP=>some (zbP,0)) fun z9M=>m_curve_At_L2 z1e z1Q z9M FUEL ([] : List z2) 0 0
set_option maxRecDepth 20000 in
theorem w_curve_At (Z : Zp)  (z9N : Option Addr) (z9O : Nat) (z1e : List z1) (z1Q : z2) (r : z2 × Int) (w₀ : World) (hz : PZ [] w₀ Z)
  (zor : ZS Z 4 (fun r x=>r = e35 x) z9N z9O z1e)
  (h : m_curve_At z1e z1Q = some r) :
  Calls Try.prog 22 #[(.slice z9N z1e.length z9O),(.agg #[(.int .i64 z1Q.fN),(.int .i64 z1Q.fD)])] w₀ fun e w'=>e = .returned (.tuple #[(.agg #[(.int .i64 r.1.fN),(.int .i64 r.1.fD)]),(.int .i64 r.2)]) ∧ Hp [] w₀ w' []:=by
 unfold m_curve_At at h
 refine Calls.ofWC (vs:=[(.slice z9N z1e.length z9O),(.agg #[(.int .i64 z1Q.fN),(.int .i64 z1Q.fD)])]) (pre:=[]) (env:=[(0,(.slice z9N z1e.length z9O)),(1,(.agg #[(.int .i64 z1Q.fN),(.int .i64 z1Q.fD)]))]) Try.func22 rfl Try.ntmps22 rfl (Hp.nil w₀ _) rfl ?_
 refine WC.seq ?_
 refine WC.region ?_
 refine WL.new (dd:=3) rfl rfl rfl (e_box (cs:=[(.int .i64 z1Q.fN),(.int .i64 z1Q.fD)]) rfl rfl) ?_
 intro z5D _
 refine WL.new (dd:=4) rfl rfl rfl (e_alloc (cs:=[(.int .i64 0),(.int .i64 0)]) zeroT_30 rfl) ?_
 intro z3u _
 refine WL.quiet (d:=5) rfl rfl rfl (q_assign rfl) ?_
 refine WL.nil ?_
 refine WX.then ?_
 refine WC.seq ?_
 refine WC.seq ?_
 obtain ⟨zgu,ztX,h⟩:=ze h
 obtain ⟨zka,zos,h⟩:=ze h
 refine WC.region ?_
 refine WL.quiet (d:=10) rfl rfl rfl (q_move rfl) ?_
 refine WL.callD (dd:=11) rfl rfl rfl (zn (l:=[.tmp 10]) Try.call30 (.cons rfl .nil)) (.nil : Sel [stb z3u 30 [(.int .i64 0),(.int .i64 0)],stb z5D 30 [(.int .i64 z1Q.fN),(.int .i64 z1Q.fD)]] [] [stb z3u 30 [(.int .i64 0),(.int .i64 0)],stb z5D 30 [(.int .i64 z1Q.fN),(.int .i64 z1Q.fD)]]) (fun w hw=>by have pz:=(hz.call hw (.nil : Sel [stb z3u 30 [(.int .i64 0),(.int .i64 0)],stb z5D 30 [(.int .i64 z1Q.fN),(.int .i64 z1Q.fD)]] [] [stb z3u 30 [(.int .i64 0),(.int .i64 0)],stb z5D 30 [(.int .i64 z1Q.fN),(.int .i64 z1Q.fD)]])); exact w_curve_Valid (Z:=_) (z82:=z9N) (z83:=z9O) (z4P:=z1e) (r:=zgu) w pz zor ztX) ?_
 refine WL.quiet (d:=12) rfl rfl rfl (q_not rfl) ?_
 refine WL.quiet (d:=13) rfl rfl rfl (q_move rfl) ?_
 refine WL.cut0 True [(0,(.slice z9N z1e.length z9O)),(3,(.pointer (some ⟨z5D,0,none⟩))),(4,(.pointer (some ⟨z3u,0,none⟩))),(17,(.bool zka))] [stb z3u 30 [(.int .i64 0),(.int .i64 0)],stb z5D 30 [(.int .i64 z1Q.fN),(.int .i64 z1Q.fD)]] 4 ?_ (fun _=>?_)
 ·rcases Bool.eq_false_or_eq_true (!zgu) with hb' | hb'
  ·have zot:=hb'; clear hb'
   have zkb:=ite_t zos zot
   replace zkb:=Option.some.inj zkb
   refine WL.pin (i:=13) rfl zot ?_
   refine WL.skip rfl rfl rfl ?_
   refine WL.skip rfl rfl rfl ?_
   refine WL.skip rfl rfl rfl ?_
   refine WL.quiet (d:=17) rfl rfl rfl (q_pickT rfl rfl) ?_
   exact WL.cutEnd () trivial (.cons rfl (.cons rfl (.cons rfl (.cons (zp zkb) .nil)))) (.cons .here (.cons .here .nil))
  ·have zou:=hb'; clear hb'
   have zeB:=ite_f zos zou
   obtain ⟨zk9,ztY,zeB⟩:=ze zeB
   replace zeB:=Option.some.inj zeB
   refine WL.pin (i:=13) rfl zou ?_
   refine WL.quiet (d:=14) rfl rfl rfl (q_loadA (cs:=[(.int .i64 z1Q.fN),(.int .i64 z1Q.fD)]) aggT_30 rfl rfl (rd_all (.there .here))) ?_
   refine WL.callD (dd:=15) rfl rfl rfl (zn (l:=[.tmp 14]) Try.call44 (.cons rfl .nil)) (.nil : Sel [stb z3u 30 [(.int .i64 0),(.int .i64 0)],stb z5D 30 [(.int .i64 z1Q.fN),(.int .i64 z1Q.fD)]] [] [stb z3u 30 [(.int .i64 0),(.int .i64 0)],stb z5D 30 [(.int .i64 z1Q.fN),(.int .i64 z1Q.fD)]]) (fun w hw=>by have pz:=(hz.call hw (.nil : Sel [stb z3u 30 [(.int .i64 0),(.int .i64 0)],stb z5D 30 [(.int .i64 z1Q.fN),(.int .i64 z1Q.fD)]] [] [stb z3u 30 [(.int .i64 0),(.int .i64 0)],stb z5D 30 [(.int .i64 z1Q.fN),(.int .i64 z1Q.fD)]])); exact w_curve_good (Z:=_)  (z3j:=z1Q) (r:=zk9) w pz  ztY) ?_
   refine WL.quiet (d:=16) rfl rfl rfl (q_not rfl) ?_
   refine WL.quiet (d:=17) rfl rfl rfl (q_pickF rfl rfl) ?_
   exact WL.cutEnd () trivial (.cons rfl (.cons rfl (.cons rfl (.cons (zp zeB) .nil)))) (.cons .here (.cons .here .nil))
 ·skip
  refine WL.nil ?_
  refine WX.then ?_
  refine WC.cond rfl (fun zkc=>?_) (fun zkc=>?_)
  ·replace h:=ite_t h zkc
   refine WC.seq ?_
   refine WC.region ?_
   refine WL.quiet (d:=18) rfl rfl rfl (q_build (v:=(.agg #[(.int .i64 0),(.int .i64 0)])) (Eos.parts (l:=[]) .nil []) (fun _=>by kernel_rfl)) ?_
   refine WL.eff0 rfl rfl (e_store (vs:=[(.int .i64 0),(.int .i64 0)]) (ds:=[(.int .i64 0),(.int .i64 0)]) sizT_30 rfl rfl rfl rfl (oc_cons rfl (oc_cons rfl oc_nil)) .here (Nat.le_of_ble_eq_true rfl) rfl) ?_
   refine WL.quiet (d:=5) rfl rfl rfl (q_assign rfl) ?_
   refine WL.nil ?_
   refine WX.then ?_
   refine WC.ret ?_
   refine WX.thenRet ?_
   obtain rfl:=Option.some.inj h
   refine WX.bpRet Try.results22 (.agg rfl aggT_30 rfl (rd_all .here) (.tmp rfl .nil)) (fun w hw=>?_)
   exact ⟨ret2 rfl rfl,hw.sub .nil⟩
  ·replace h:=ite_f h zkc
   refine WC.skip ?_
   refine WX.then ?_
   refine WC.seq ?_
   refine WC.region ?_
   refine WL.new (dd:=6) rfl rfl rfl (e_alloc (cs:=[(.int .i64 0)]) zeroT_90 rfl) ?_
   intro z52 _
   refine WL.nil ?_
   refine WX.then ?_
   refine WC.seq ?_
   refine WC.region ?_
   refine WL.quiet (d:=7) rfl rfl rfl (q_assign rfl) ?_
   refine WL.nil ?_
   refine WX.then ?_
   obtain ⟨z9M,ztZ,h⟩:=jp2_elim h
   refine WC.seqMid4 (fun (z2X : List z2) (z5C : Int) (z5E : Option Addr) (z5F : Nat)=>(z9M z2X z5C = some r)) (fun (z2X : List z2) (z5C : Int) (z5E : Option Addr) (z5F : Nat)=>[(4,(.pointer (some ⟨z3u,0,none⟩))),(6,(.pointer (some ⟨z52,0,none⟩))),(7,(.slice z5E z2X.length z5F))]) (fun (z2X : List z2) (z5C : Int) (z5E : Option Addr) (z5F : Nat)=>[row (.slice z5E z2X.length z5F) 30 2 (z2X.flatMap e30),stb z3u 30 [(.int .i64 0),(.int .i64 0)],stb z52 90 [(.int .i64 z5C)]]) ?_ ?_
   ·skip
    refine WC.seq ?_
    refine WC.region ?_
    refine WL.quiet (d:=19) rfl rfl rfl (q_move rfl) ?_
    refine WL.quiet (d:=20) rfl rfl rfl (q_len Try.underlying39 rfl) ?_
    refine WL.quiet (d:=21) rfl rfl rfl (q_move rfl) ?_
    refine WL.nil ?_
    refine WX.then ?_
    refine WC.block ?_
    refine WC.nilRow 30 2 ?_
    refine WC.loop6 (fun (zdg : Nat) (z3g : List z2) (z1F : Int) (z5h : Int) (z7l : Option Addr) (z7m : Nat)=>(m_curve_At_L2 z1e z1Q z9M zdg z3g z1F z5h = some r)) (fun (zdg : Nat) (z3g : List z2) (z1F : Int) (z5h : Int) (z7l : Option Addr) (z7m : Nat)=>[(3,(.pointer (some ⟨z5D,0,none⟩))),(4,(.pointer (some ⟨z3u,0,none⟩))),(6,(.pointer (some ⟨z52,0,none⟩))),(7,(.slice z7l z3g.length z7m)),(19,(.slice z9N z1e.length z9O)),(20,(.int .i64 ((z1e.length : Nat) : Int))),(21,(.int .i64 z1F))]) (fun (zdg : Nat) (z3g : List z2) (z1F : Int) (z5h : Int) (z7l : Option Addr) (z7m : Nat)=>[row (.slice z7l z3g.length z7m) 30 2 (z3g.flatMap e30),stb z5D 30 [(.int .i64 z1Q.fN),(.int .i64 z1Q.fD)],stb z3u 30 [(.int .i64 0),(.int .i64 0)],stb z52 90 [(.int .i64 z5h)]]) (fun (zdg : Nat) (z3g : List z2) (z1F : Int) (z5h : Int) (z7l : Option Addr) (z7m : Nat)=>zdg) ⟨FUEL,([] : List z2),0,0,none,0⟩ h (.cons rfl (.cons rfl (.cons rfl (.cons rfl (.cons rfl (.cons rfl (.cons rfl .nil))))))) (.cons .here (.cons (.there (.there .here)) (.cons (.there .here) (.cons .here .nil)))) ?_
    rintro zdg z3g z1F z5h z7l z7m h
    obtain ⟨zk8,rfl⟩:=m_curve_At_L2_fuel h
    rw [m_curve_At_L2] at h
    refine WC.seq ?_
    refine WC.region ?_
    refine WL.quiet (d:=22) rfl rfl rfl (q_lss rfl rfl) ?_
    refine WL.nil ?_
    refine WX.then ?_
    refine WC.seq ?_
    refine WC.cond rfl (fun zkd=>?_) (fun zkd=>?_)
    ·replace h:=ite_t h zkd
     refine WC.skip ?_
     refine WX.then ?_
     refine WC.seq ?_
     refine WC.block ?_
     refine WC.seq ?_
     obtain ⟨zu0,h⟩:=chk_elim h
     refine WC.region ?_
     refine WL.znth (dd:=23) rfl rfl (Z:=Z) (Pr:=(fun r x=>r = e35 x)) elT_39 rfl rfl zor zu0 ?_
     rintro zyr zys zu1 zyt rfl
     refine WL.quiet (d:=24) rfl rfl rfl (q_loadA (cs:=[(.int .i64 (((nth z1e z1F).fBurst).fN)),(.int .i64 (((nth z1e z1F).fBurst).fD)),(.int .i64 (((nth z1e z1F).fRate).fN)),(.int .i64 (((nth z1e z1F).fRate).fD))]) aggT_35 rfl rfl (rd_zs hz.pv zu1)) ?_
     refine WL.new (dd:=9) rfl rfl rfl (e_alloc (cs:=[(.int .i64 0),(.int .i64 0),(.int .i64 0),(.int .i64 0)]) zeroT_35 rfl) ?_
     intro zdh _
     refine WL.eff0 rfl rfl (e_store (vs:=[(.int .i64 (((nth z1e z1F).fBurst).fN)),(.int .i64 (((nth z1e z1F).fBurst).fD)),(.int .i64 (((nth z1e z1F).fRate).fN)),(.int .i64 (((nth z1e z1F).fRate).fD))]) (ds:=[(.int .i64 (((nth z1e z1F).fBurst).fN)),(.int .i64 (((nth z1e z1F).fBurst).fD)),(.int .i64 (((nth z1e z1F).fRate).fN)),(.int .i64 (((nth z1e z1F).fRate).fD))]) sizT_35 rfl rfl rfl rfl (oc_cons rfl (oc_cons rfl (oc_cons rfl (oc_cons rfl oc_nil)))) .here (Nat.le_of_ble_eq_true rfl) rfl) ?_
     refine WL.nil ?_
     refine WX.then ?_
     obtain ⟨z8M,zu2,h⟩:=ze h
     obtain ⟨zu3,h⟩:=chk_elim h
     refine WC.region ?_
     refine WL.quiet (d:=25) rfl rfl rfl (q_move rfl) ?_
     refine WL.quiet (d:=26) rfl rfl rfl (q_loadA (cs:=[(.int .i64 (((nth z1e z1F).fBurst).fN)),(.int .i64 (((nth z1e z1F).fBurst).fD)),(.int .i64 (((nth z1e z1F).fRate).fN)),(.int .i64 (((nth z1e z1F).fRate).fD))]) aggT_35 rfl rfl (rd_all .here)) ?_
     refine WL.quiet (d:=27) rfl rfl rfl (q_loadA (cs:=[(.int .i64 z1Q.fN),(.int .i64 z1Q.fD)]) aggT_30 rfl rfl (rd_all (.there (.there .here)))) ?_
     refine WL.callD (dd:=28) rfl rfl rfl (zn (l:=[.tmp 6,.tmp 26,.tmp 27]) Try.call45 (.cons rfl (.cons rfl (.cons rfl .nil)))) ((.cons (.there (.there (.there (.there .here)))) .nil) : Sel [stb zdh 35 [(.int .i64 (((nth z1e z1F).fBurst).fN)),(.int .i64 (((nth z1e z1F).fBurst).fD)),(.int .i64 (((nth z1e z1F).fRate).fN)),(.int .i64 (((nth z1e z1F).fRate).fD))],row (.slice z7l z3g.length z7m) 30 2 (z3g.flatMap e30),stb z5D 30 [(.int .i64 z1Q.fN),(.int .i64 z1Q.fD)],stb z3u 30 [(.int .i64 0),(.int .i64 0)],stb z52 90 [(.int .i64 z5h)]] [stb z52 90 [(.int .i64 z5h)]] [stb zdh 35 [(.int .i64 (((nth z1e z1F).fBurst).fN)),(.int .i64 (((nth z1e z1F).fBurst).fD)),(.int .i64 (((nth z1e z1F).fRate).fN)),(.int .i64 (((nth z1e z1F).fRate).fD))],row (.slice z7l z3g.length z7m) 30 2 (z3g.flatMap e30),stb z5D 30 [(.int .i64 z1Q.fN),(.int .i64 z1Q.fD)],stb z3u 30 [(.int .i64 0),(.int .i64 0)]]) (fun w hw=>by have pz:=(hz.call hw ((.cons (.there (.there (.there (.there .here)))) .nil) : Sel [stb zdh 35 [(.int .i64 (((nth z1e z1F).fBurst).fN)),(.int .i64 (((nth z1e z1F).fBurst).fD)),(.int .i64 (((nth z1e z1F).fRate).fN)),(.int .i64 (((nth z1e z1F).fRate).fD))],row (.slice z7l z3g.length z7m) 30 2 (z3g.flatMap e30),stb z5D 30 [(.int .i64 z1Q.fN),(.int .i64 z1Q.fD)],stb z3u 30 [(.int .i64 0),(.int .i64 0)],stb z52 90 [(.int .i64 z5h)]] [stb z52 90 [(.int .i64 z5h)]] [stb zdh 35 [(.int .i64 (((nth z1e z1F).fBurst).fN)),(.int .i64 (((nth z1e z1F).fBurst).fD)),(.int .i64 (((nth z1e z1F).fRate).fN)),(.int .i64 (((nth z1e z1F).fRate).fD))],row (.slice z7l z3g.length z7m) 30 2 (z3g.flatMap e30),stb z5D 30 [(.int .i64 z1Q.fN),(.int .i64 z1Q.fD)],stb z3u 30 [(.int .i64 0),(.int .i64 0)]])); exact w_curve_calc_value (Z:=_) (z4j:=z52) (z6r:=(⟨z5h⟩ : z2a)) (zS:=(⟨(⟨(((nth z1e z1F).fBurst).fN),(((nth z1e z1F).fBurst).fD)⟩ : z2),(⟨(((nth z1e z1F).fRate).fN),(((nth z1e z1F).fRate).fD)⟩ : z2)⟩ : z1)) (z2L:=z1Q) (r:=z8M) w pz  zu2 (hw.owns ((.cons (.there (.there (.there (.there .here)))) .nil) : Sel [stb zdh 35 [(.int .i64 (((nth z1e z1F).fBurst).fN)),(.int .i64 (((nth z1e z1F).fBurst).fD)),(.int .i64 (((nth z1e z1F).fRate).fN)),(.int .i64 (((nth z1e z1F).fRate).fD))],row (.slice z7l z3g.length z7m) 30 2 (z3g.flatMap e30),stb z5D 30 [(.int .i64 z1Q.fN),(.int .i64 z1Q.fD)],stb z3u 30 [(.int .i64 0),(.int .i64 0)],stb z52 90 [(.int .i64 z5h)]] [stb z52 90 [(.int .i64 z5h)]] [stb zdh 35 [(.int .i64 (((nth z1e z1F).fBurst).fN)),(.int .i64 (((nth z1e z1F).fBurst).fD)),(.int .i64 (((nth z1e z1F).fRate).fN)),(.int .i64 (((nth z1e z1F).fRate).fD))],row (.slice z7l z3g.length z7m) 30 2 (z3g.flatMap e30),stb z5D 30 [(.int .i64 z1Q.fN),(.int .i64 z1Q.fD)],stb z3u 30 [(.int .i64 0),(.int .i64 0)]]))) ?_
     refine WL.new (dd:=29) rfl rfl rfl (e_buildSlice (cs:=([z8M.1] : List z2).flatMap e30) elT_77 (Eos.parts (l:=[.tmp 28]) (.cons rfl .nil) [0]) (fun _=>by kernel_rfl) rfl (by unfold maxLen; omega)) ?_
     intro zyu _
     refine WL.eff (d:=30) rfl rfl rfl (e_appendF (enc:=e30) (l1:=z3g) (l2:=([z8M.1] : List z2)) elT_77 rfl rfl (.there (.there (.there .here))) (fun _=>rfl) rfl rfl (news_row .here) (oc_flat e30_oc _) zu3) ?_
     rintro ⟨zu4,zu5⟩ _
     refine WL.quiet (d:=7) rfl rfl rfl (q_assign rfl) ?_
     refine WL.nil ?_
     refine WX.blockNormal ?_
     refine WX.then ?_
     refine WC.region ?_
     refine WL.quiet (d:=31) rfl rfl rfl (q_add rfl rfl rfl) ?_
     refine WL.quiet (d:=21) rfl rfl rfl (q_move rfl) ?_
     refine WL.nil ?_
     exact WX.round (G:=Nat × List z2 × Int × Int × Option Addr × Nat) ⟨zk8,(z3g ++ ([z8M.1] : List z2)),(i64 (z1F + 1)),z8M.2.fE,zu4,zu5⟩ h (Nat.lt_succ_self _) (.cons rfl (.cons rfl (.cons rfl (.cons rfl (.cons rfl (.cons rfl (.cons rfl .nil))))))) (.cons .here (.cons (.there (.there (.there .here))) (.cons (.there (.there (.there .here))) (.cons (.there .here) .nil))))
    ·replace h:=ite_f h zkd
     refine WC.exit ?_
     refine WX.thenExit ?_
     refine WX.thenExit ?_
     refine WX.blockHit ?_
     exact WX.mid (G:=List z2 × Int × Option Addr × Nat) ⟨z3g,z5h,z7l,z7m⟩ h (.cons rfl (.cons rfl (.cons rfl .nil))) (.cons .here (.cons (.there .here) (.cons (.there .here) .nil)))
   ·rintro z2X z5C z5E z5F h
    replace h:=(ztZ z2X z5C).symm.trans h
    refine WC.seq ?_
    refine WC.seq ?_
    refine WC.region ?_
    refine WL.quiet (d:=32) rfl rfl rfl (q_fieldAddr fo_90_0 rfl rfl) ?_
    refine WL.quiet (d:=33) rfl rfl rfl (q_load1 oneT_31 rfl (rd_stb (.there (.there .here)) rfl)) ?_
    refine WL.quiet (d:=34) rfl rfl rfl (q_neq rfl rfl) ?_
    refine WL.nil ?_
    refine WX.then ?_
    refine WC.cond rfl (fun zke=>?_) (fun zke=>?_)
    ·replace h:=ite_t h zke
     refine WC.seq ?_
     refine WC.draw (fun i=>[3].contains i) [stbp z52 90 [(0,(.int .i64 z5C))]] rfl ?_
     refine WD.quiet (i:=0) (d:=35) (by kernel_rfl) rfl (z6 (by kernel_rfl)) (z7 (by kernel_rfl)) rfl rfl rfl (q_build (v:=(.agg #[(.int .i64 0),(.int .i64 0)])) (Eos.parts (l:=[]) .nil []) (fun _=>by kernel_rfl)) ?_
     refine WD.pure (i:=1) (d:=36) (by kernel_rfl) rfl (z6 (by kernel_rfl)) (z7 (by kernel_rfl)) rfl rfl rfl (fun _=>q_fieldAddr fo_90_0 rfl rfl) ?_
     refine WD.stable (i:=2) (d:=37) (by kernel_rfl) rfl (z6 (by kernel_rfl)) (z7 (by kernel_rfl)) rfl rfl rfl (Sin.wk (.cons (.there (.there .here)) .nil) (.stb (.cons rfl .nil) .nil)) (q_load1 oneT_31 rfl (rd_stbp .here (.head _))) ?_
     refine WD.forced0 (i:=3) rfl (by kernel_rfl) rfl rfl rfl (Sin.wk (.cons (.there (.there .here)) .nil) (.stb (.cons rfl .nil) .nil)) (e_store (vs:=[(.int .i64 0),(.int .i64 0)]) (ds:=[(.int .i64 0),(.int .i64 0)]) sizT_30 rfl rfl rfl rfl (oc_cons rfl (oc_cons rfl oc_nil)) (.there .here) (Nat.le_of_ble_eq_true rfl) rfl) ?_
     refine WD.pure (i:=4) (d:=5) (by kernel_rfl) rfl (z6 (by kernel_rfl)) (z7 (by kernel_rfl)) rfl rfl rfl (fun _=>q_assign rfl) ?_
     refine WD.done (by kernel_rfl) ?_
     refine WX.then ?_
     refine WC.ret ?_
     refine WX.thenRet ?_
     obtain rfl:=Option.some.inj h
     refine WX.bpRet Try.results22 (.agg rfl aggT_30 rfl (rd_all .here) (.tmp rfl .nil)) (fun w hw=>?_)
     exact ⟨ret2 rfl rfl,hw.sub .nil⟩
    ·replace h:=ite_f h zke
     refine WC.skip ?_
     refine WX.then ?_
     refine WC.seq ?_
     obtain ⟨zbP,zu6,h⟩:=ze h
     refine WC.region ?_
     refine WL.quiet (d:=38) rfl rfl rfl (q_move rfl) ?_
     refine WL.callD (dd:=39) rfl rfl rfl (zn (l:=[.tmp 38,.func 18]) Try.call46 (.cons rfl (.cons rfl .nil))) (.nil : Sel [row (.slice z5E z2X.length z5F) 30 2 (z2X.flatMap e30),stb z3u 30 [(.int .i64 0),(.int .i64 0)],stb z52 90 [(.int .i64 z5C)]] [] [row (.slice z5E z2X.length z5F) 30 2 (z2X.flatMap e30),stb z3u 30 [(.int .i64 0),(.int .i64 0)],stb z52 90 [(.int .i64 z5C)]]) (fun w hw=>by have pz:=(hz.call hw (.nil : Sel [row (.slice z5E z2X.length z5F) 30 2 (z2X.flatMap e30),stb z3u 30 [(.int .i64 0),(.int .i64 0)],stb z52 90 [(.int .i64 z5C)]] [] [row (.slice z5E z2X.length z5F) 30 2 (z2X.flatMap e30),stb z3u 30 [(.int .i64 0),(.int .i64 0)],stb z52 90 [(.int .i64 z5C)]])).lend hw (.nil : Sel [row (.slice z5E z2X.length z5F) 30 2 (z2X.flatMap e30),stb z3u 30 [(.int .i64 0),(.int .i64 0)],stb z52 90 [(.int .i64 z5C)]] [] [row (.slice z5E z2X.length z5F) 30 2 (z2X.flatMap e30),stb z3u 30 [(.int .i64 0),(.int .i64 0)],stb z52 90 [(.int .i64 z5C)]]) (B:=[row (.slice z5E z2X.length z5F) 30 2 (z2X.flatMap e30)]) (fun _ hx'=>((.cons .here .nil) : Sel _ [row (.slice z5E z2X.length z5F) 30 2 (z2X.flatMap e30)] _).mem hx'); exact w_slices_MinFunc_api_Rat_api_Rat (Z:=_) (zbN:=z5E) (zbO:=z5F) (z8L:=18) (zaF:=[]) (z27:=z2X) (z8h:=(fun (y0 : z2) (y1 : z2)=>m_rat_Cmp y0 y1)) (r:=zbP) w pz (ZA.row (hw.lent (.nil : Sel [row (.slice z5E z2X.length z5F) 30 2 (z2X.flatMap e30),stb z3u 30 [(.int .i64 0),(.int .i64 0)],stb z52 90 [(.int .i64 z5C)]] [] [row (.slice z5E z2X.length z5F) 30 2 (z2X.flatMap e30),stb z3u 30 [(.int .i64 0),(.int .i64 0)],stb z52 90 [(.int .i64 z5C)]]) (B:=[row (.slice z5E z2X.length z5F) 30 2 (z2X.flatMap e30)]) (fun _ hx'=>((.cons .here .nil) : Sel _ [row (.slice z5E z2X.length z5F) 30 2 (z2X.flatMap e30)] _).mem hx') (.head _) _) (RR.flat (enc:=e30) (fun _=>rfl) _) ⟨w,pz.1⟩) Try.call18 (fun w' hz' y0 y1  r  hr=>w_rat_Cmp (Z:=_)  (z21:=y0) (z23:=y1) (r:=r) w' hz'  hr) zu6) ?_
     refine WL.eff0 rfl rfl (e_store (vs:=[(.int .i64 zbP.fN),(.int .i64 zbP.fD)]) (ds:=[(.int .i64 zbP.fN),(.int .i64 zbP.fD)]) sizT_30 rfl rfl rfl rfl (oc_cons rfl (oc_cons rfl oc_nil)) (.there .here) (Nat.le_of_ble_eq_true rfl) rfl) ?_
     refine WL.quiet (d:=5) rfl rfl rfl (q_assign rfl) ?_
     refine WL.nil ?_
     refine WX.then ?_
     refine WC.ret ?_
     obtain rfl:=Option.some.inj h
     refine WX.bpRet Try.results22 (.agg rfl aggT_30 rfl (rd_all .here) (.tmp rfl .nil)) (fun w hw=>?_)
     exact ⟨ret2 rfl rfl,hw.sub .nil⟩
end Go.Proofs.Ytakfmdiiehcbdaa
