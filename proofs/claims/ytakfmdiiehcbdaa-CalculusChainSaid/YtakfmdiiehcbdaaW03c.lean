/- A part of this claim's proof: models of functions, walks, plain laws. No conditions. -/
import Derived.Test.YtakfmdiiehcbdaaW03b
namespace Go.Proofs.Ytakfmdiiehcbdaa
open Go Go.RowKit Sep
set_option linter.all false
set_option maxRecDepth 30000
set_option maxHeartbeats 4000000
def m_rat_doc (z18 : z2) (z19 : z2) : Option (z2 × Int) :=
 (m_rat_Valid z18).bind fun zgX=>(if !zgX then some true else (m_rat_Valid z19).bind fun zk8=>some (!zk8)).bind fun zf7=>if zf7 then some ((⟨0,0⟩ : z2),2) else (m_rat_do_1 z18 z19).bind fun zdL=>(m_rat_Make zdL.1 zdL.2).bind fun zb7=>some (zb7.1,zb7.2)
set_option maxRecDepth 20000 in
theorem w_rat_doc (Z : Zp)   (z18 : z2) (z19 : z2) (r : z2 × Int) (w₀ : World) (hz : PZ [] w₀ Z)
  (h : m_rat_doc z18 z19 = some r) :
  Calls Try.prog 40 #[(.string ⟨#[43]⟩),(.agg #[(.int .i64 z18.fN),(.int .i64 z18.fD)]),(.agg #[(.int .i64 z19.fN),(.int .i64 z19.fD)])] w₀ fun e w'=>e = .returned (.tuple #[(.agg #[(.int .i64 r.1.fN),(.int .i64 r.1.fD)]),(.int .i64 r.2)]) ∧ Hp [] w₀ w' []:=by
 unfold m_rat_doc at h
 refine Calls.ofWC (vs:=[(.string ⟨#[43]⟩),(.agg #[(.int .i64 z18.fN),(.int .i64 z18.fD)]),(.agg #[(.int .i64 z19.fN),(.int .i64 z19.fD)])]) (pre:=[]) (env:=[(0,(.string ⟨#[43]⟩)),(1,(.agg #[(.int .i64 z18.fN),(.int .i64 z18.fD)])),(2,(.agg #[(.int .i64 z19.fN),(.int .i64 z19.fD)]))]) Try.func40 rfl Try.ntmps40 rfl (Hp.nil w₀ _) rfl ?_
 refine WC.b ?_
 refine WC.a ?_
 refine WL.new (dd:=4) rfl rfl rfl (e_box (cs:=[(.int .i64 z18.fN),(.int .i64 z18.fD)]) rfl rfl) ?_
 intro zN _
 refine WL.new (dd:=5) rfl rfl rfl (e_box (cs:=[(.int .i64 z19.fN),(.int .i64 z19.fD)]) rfl rfl) ?_
 intro zO _
 refine WL.new (dd:=6) rfl rfl rfl (e_alloc (cs:=[(.int .i64 0),(.int .i64 0)]) zeroT_30 rfl) ?_
 intro z4g _
 refine WL.a (d:=7) rfl rfl rfl (q_z rfl) ?_
 refine WL.nil ?_
 refine WX.a ?_
 refine WC.b ?_
 refine WC.b ?_
 obtain ⟨zgX,zu6,h⟩:=zd h
 obtain ⟨zf7,zoT,h⟩:=zd h
 refine WC.a ?_
 refine WL.a (d:=9) rfl rfl rfl (q_loadA (cs:=[(.int .i64 z18.fN),(.int .i64 z18.fD)]) aggT_30 rfl rfl (rd_all .h2)) ?_
 refine WL.b (dd:=10) rfl rfl rfl (zk (l:=[.tmp 9]) Try.call39 (.cons rfl .nil)) (.nil : Sel [stb z4g 30 [(.int .i64 0),(.int .i64 0)],stb zO 30 [(.int .i64 z19.fN),(.int .i64 z19.fD)],stb zN 30 [(.int .i64 z18.fN),(.int .i64 z18.fD)]] [] [stb z4g 30 [(.int .i64 0),(.int .i64 0)],stb zO 30 [(.int .i64 z19.fN),(.int .i64 z19.fD)],stb zN 30 [(.int .i64 z18.fN),(.int .i64 z18.fD)]]) (fun w hw=>by have pz:=(hz.call hw (.nil : Sel [stb z4g 30 [(.int .i64 0),(.int .i64 0)],stb zO 30 [(.int .i64 z19.fN),(.int .i64 z19.fD)],stb zN 30 [(.int .i64 z18.fN),(.int .i64 z18.fD)]] [] [stb z4g 30 [(.int .i64 0),(.int .i64 0)],stb zO 30 [(.int .i64 z19.fN),(.int .i64 z19.fD)],stb zN 30 [(.int .i64 z18.fN),(.int .i64 z18.fD)]])); exact w_rat_Valid (Z:=_)  (z1f:=z18) (r:=zgX) w pz  zu6) ?_
 refine WL.a (d:=11) rfl rfl rfl (q_not rfl) ?_
 refine WL.a (d:=12) rfl rfl rfl (q_m rfl) ?_
 refine WL.cut0 True [(0,(.string ⟨#[43]⟩)),(4,(.pointer (some ⟨zN,0,none⟩))),(5,(.pointer (some ⟨zO,0,none⟩))),(6,(.pointer (some ⟨z4g,0,none⟩))),(16,(.bool zf7))] [stb z4g 30 [(.int .i64 0),(.int .i64 0)],stb zO 30 [(.int .i64 z19.fN),(.int .i64 z19.fD)],stb zN 30 [(.int .i64 z18.fN),(.int .i64 z18.fD)]] 4 ?_ (fun _=>?_)
 ·rcases Bool.eq_false_or_eq_true (!zgX) with hb' | hb'
  ·have zoU:=hb'; clear hb'
   have zk9:=ite_t zoT zoU
   replace zk9:=Option.some.inj zk9
   refine WL.pin (i:=12) rfl zoU ?_
   refine WL.e rfl rfl rfl ?_
   refine WL.e rfl rfl rfl ?_
   refine WL.e rfl rfl rfl ?_
   refine WL.a (d:=16) rfl rfl rfl (q_pickT rfl rfl) ?_
   exact WL.cutEnd () trivial (.cons rfl (.cons rfl (.cons rfl (.cons rfl (.cons (zr zk9) .nil))))) (.cons .here (.cons .here (.cons .here .nil)))
  ·have zoV:=hb'; clear hb'
   have zf8:=ite_f zoT zoV
   obtain ⟨zk8,zu7,zf8⟩:=zd zf8
   replace zf8:=Option.some.inj zf8
   refine WL.pin (i:=12) rfl zoV ?_
   refine WL.a (d:=13) rfl rfl rfl (q_loadA (cs:=[(.int .i64 z19.fN),(.int .i64 z19.fD)]) aggT_30 rfl rfl (rd_all .h1)) ?_
   refine WL.b (dd:=14) rfl rfl rfl (zk (l:=[.tmp 13]) Try.call39 (.cons rfl .nil)) (.nil : Sel [stb z4g 30 [(.int .i64 0),(.int .i64 0)],stb zO 30 [(.int .i64 z19.fN),(.int .i64 z19.fD)],stb zN 30 [(.int .i64 z18.fN),(.int .i64 z18.fD)]] [] [stb z4g 30 [(.int .i64 0),(.int .i64 0)],stb zO 30 [(.int .i64 z19.fN),(.int .i64 z19.fD)],stb zN 30 [(.int .i64 z18.fN),(.int .i64 z18.fD)]]) (fun w hw=>by have pz:=(hz.call hw (.nil : Sel [stb z4g 30 [(.int .i64 0),(.int .i64 0)],stb zO 30 [(.int .i64 z19.fN),(.int .i64 z19.fD)],stb zN 30 [(.int .i64 z18.fN),(.int .i64 z18.fD)]] [] [stb z4g 30 [(.int .i64 0),(.int .i64 0)],stb zO 30 [(.int .i64 z19.fN),(.int .i64 z19.fD)],stb zN 30 [(.int .i64 z18.fN),(.int .i64 z18.fD)]])); exact w_rat_Valid (Z:=_)  (z1f:=z19) (r:=zk8) w pz  zu7) ?_
   refine WL.a (d:=15) rfl rfl rfl (q_not rfl) ?_
   refine WL.a (d:=16) rfl rfl rfl (q_pickF rfl rfl) ?_
   exact WL.cutEnd () trivial (.cons rfl (.cons rfl (.cons rfl (.cons rfl (.cons (zr zf8) .nil))))) (.cons .here (.cons .here (.cons .here .nil)))
 ·skip
  refine WL.a (d:=17) rfl rfl rfl (q_m rfl) ?_
  refine WL.cut0 True [(0,(.string ⟨#[43]⟩)),(4,(.pointer (some ⟨zN,0,none⟩))),(5,(.pointer (some ⟨zO,0,none⟩))),(6,(.pointer (some ⟨z4g,0,none⟩))),(25,(.bool zf7))] [stb z4g 30 [(.int .i64 0),(.int .i64 0)],stb zO 30 [(.int .i64 z19.fN),(.int .i64 z19.fD)],stb zN 30 [(.int .i64 z18.fN),(.int .i64 z18.fD)]] 8 ?_ (fun _=>?_)
  ·rcases Bool.eq_false_or_eq_true zf7 with hb' | hb'
   ·have zoW:=hb'; clear hb'
    refine WL.pin (i:=17) rfl zoW ?_
    refine WL.e rfl rfl rfl ?_
    refine WL.e rfl rfl rfl ?_
    refine WL.e rfl rfl rfl ?_
    refine WL.e rfl rfl rfl ?_
    refine WL.e rfl rfl rfl ?_
    refine WL.e rfl rfl rfl ?_
    refine WL.e rfl rfl rfl ?_
    refine WL.a (d:=25) rfl rfl rfl (q_pickT rfl rfl) ?_
    exact WL.cutEnd () trivial (.cons rfl (.cons rfl (.cons rfl (.cons rfl (.cons (zr (Eq.symm zoW)) .nil))))) (.cons .here (.cons .here (.cons .here .nil)))
   ·have zoX:=hb'; clear hb'
    refine WL.pin (i:=17) rfl zoX ?_
    refine WL.a (d:=18) rfl rfl rfl (q_m rfl) ?_
    refine WL.a (d:=19) rfl rfl rfl (q_seqlC (r:=false) (by decide) rfl rfl) ?_
    refine WL.a (d:=20) rfl rfl rfl (q_m rfl) ?_
    refine WL.e rfl rfl rfl ?_
    refine WL.e rfl rfl rfl ?_
    refine WL.e rfl rfl rfl ?_
    refine WL.a (d:=24) rfl rfl rfl (q_pickF rfl rfl) ?_
    refine WL.a (d:=25) rfl rfl rfl (q_pickF rfl rfl) ?_
    exact WL.cutEnd () trivial (.cons rfl (.cons rfl (.cons rfl (.cons rfl (.cons (zr (Eq.symm zoX)) .nil))))) (.cons .here (.cons .here (.cons .here .nil)))
  ·skip
   refine WL.nil ?_
   refine WX.a ?_
   refine WC.cond rfl (fun zka=>?_) (fun zka=>?_)
   ·replace h:=ite_t h zka
    refine WC.b ?_
    refine WC.a ?_
    refine WL.a (d:=26) rfl rfl rfl (q_build (v:=(.agg #[(.int .i64 0),(.int .i64 0)])) (Eos.parts (l:=[]) .nil []) (fun _=>by kernel_rfl)) ?_
    refine WL.eff0 rfl rfl (e_store (vs:=[(.int .i64 0),(.int .i64 0)]) (ds:=[(.int .i64 0),(.int .i64 0)]) sizT_30 rfl rfl rfl rfl (oc_cons rfl (oc_cons rfl oc_nil)) .here (Nat.le_of_ble_eq_true rfl) rfl) ?_
    refine WL.a (d:=7) rfl rfl rfl (q_z rfl) ?_
    refine WL.nil ?_
    refine WX.a ?_
    refine WC.ret ?_
    refine WX.thenRet ?_
    obtain rfl:=Option.some.inj h
    refine WX.bpRet Try.results40 (.agg rfl aggT_30 rfl (rd_all .here) (.tmp rfl .nil)) (fun w hw=>?_)
    exact ⟨ret2 rfl rfl,hw.sub .nil⟩
   ·replace h:=ite_f h zka
    refine WC.skip ?_
    refine WX.a ?_
    refine WC.b ?_
    refine WC.a ?_
    refine WL.new (dd:=27) rfl rfl rfl (e_makeMap Value.string (fun x=>x)) ?_
    intro z7C _
    refine WL.a (d:=28) rfl rfl rfl (q_makeFunc (Eos.caps (l:=[.tmp 4,.tmp 5]) (.cons rfl (.cons rfl .nil)))) ?_
    refine WL.eff0 rfl rfl (e_insert (k:=⟨#[43]⟩) (v:=(.func (.func 54) #[] #[(.pointer (some ⟨zN,0,none⟩)),(.pointer (some ⟨zO,0,none⟩))])) keyT_9 Try.underlying105 rfl rfl rfl rfl .here) ?_
    refine WL.a (d:=29) rfl rfl rfl (q_makeFunc (Eos.caps (l:=[.tmp 4,.tmp 5]) (.cons rfl (.cons rfl .nil)))) ?_
    refine WL.eff0 rfl rfl (e_insert (k:=⟨#[45]⟩) (v:=(.func (.func 55) #[] #[(.pointer (some ⟨zN,0,none⟩)),(.pointer (some ⟨zO,0,none⟩))])) keyT_9 Try.underlying105 rfl rfl rfl rfl .here) ?_
    refine WL.a (d:=30) rfl rfl rfl (q_makeFunc (Eos.caps (l:=[.tmp 4,.tmp 5]) (.cons rfl (.cons rfl .nil)))) ?_
    refine WL.eff0 rfl rfl (e_insert (k:=⟨#[42]⟩) (v:=(.func (.func 56) #[] #[(.pointer (some ⟨zN,0,none⟩)),(.pointer (some ⟨zO,0,none⟩))])) keyT_9 Try.underlying105 rfl rfl rfl rfl .here) ?_
    refine WL.a (d:=31) rfl rfl rfl (q_makeFunc (Eos.caps (l:=[.tmp 4,.tmp 5]) (.cons rfl (.cons rfl .nil)))) ?_
    refine WL.eff0 rfl rfl (e_insert (k:=⟨#[47]⟩) (v:=(.func (.func 57) #[] #[(.pointer (some ⟨zN,0,none⟩)),(.pointer (some ⟨zO,0,none⟩))])) keyT_9 Try.underlying105 rfl rfl rfl rfl .here) ?_
    refine WL.a (d:=32) rfl rfl rfl (q_m rfl) ?_
    refine WL.a (d:=8) rfl rfl rfl (q_z rfl) ?_
    refine WL.nil ?_
    refine WX.a ?_
    refine WC.b ?_
    obtain ⟨zdL,zu8,h⟩:=zd h
    obtain ⟨zb7,zu9,h⟩:=zd h
    refine WC.a ?_
    refine WL.a (d:=33) rfl rfl rfl (q_m rfl) ?_
    refine WL.a (d:=34) rfl rfl rfl (q_m rfl) ?_
    refine WL.a (d:=35) rfl rfl rfl (q_lookC (k:=⟨#[43]⟩) (dflt:=.nilFunc) (r:=(.func (.func 54) #[] #[(.pointer (some ⟨zN,0,none⟩)),(.pointer (some ⟨zO,0,none⟩))])) keyT_9 Try.underlying105 zgh rfl rfl rfl .here (by rfl)) ?_
    refine WL.b (dd:=36) rfl rfl rfl (run_callv (l:=[]) Try.call54 rfl .nil) (.nil : Sel [mapA z7C Value.string (fun x=>x) [(⟨#[43]⟩,(.func (.func 54) #[] #[(.pointer (some ⟨zN,0,none⟩)),(.pointer (some ⟨zO,0,none⟩))])),(⟨#[45]⟩,(.func (.func 55) #[] #[(.pointer (some ⟨zN,0,none⟩)),(.pointer (some ⟨zO,0,none⟩))])),(⟨#[42]⟩,(.func (.func 56) #[] #[(.pointer (some ⟨zN,0,none⟩)),(.pointer (some ⟨zO,0,none⟩))])),(⟨#[47]⟩,(.func (.func 57) #[] #[(.pointer (some ⟨zN,0,none⟩)),(.pointer (some ⟨zO,0,none⟩))]))],stb z4g 30 [(.int .i64 0),(.int .i64 0)],stb zO 30 [(.int .i64 z19.fN),(.int .i64 z19.fD)],stb zN 30 [(.int .i64 z18.fN),(.int .i64 z18.fD)]] [] [mapA z7C Value.string (fun x=>x) [(⟨#[43]⟩,(.func (.func 54) #[] #[(.pointer (some ⟨zN,0,none⟩)),(.pointer (some ⟨zO,0,none⟩))])),(⟨#[45]⟩,(.func (.func 55) #[] #[(.pointer (some ⟨zN,0,none⟩)),(.pointer (some ⟨zO,0,none⟩))])),(⟨#[42]⟩,(.func (.func 56) #[] #[(.pointer (some ⟨zN,0,none⟩)),(.pointer (some ⟨zO,0,none⟩))])),(⟨#[47]⟩,(.func (.func 57) #[] #[(.pointer (some ⟨zN,0,none⟩)),(.pointer (some ⟨zO,0,none⟩))]))],stb z4g 30 [(.int .i64 0),(.int .i64 0)],stb zO 30 [(.int .i64 z19.fN),(.int .i64 z19.fD)],stb zN 30 [(.int .i64 z18.fN),(.int .i64 z18.fD)]]) (fun w hw=>by have pz:=(hz.call hw (.nil : Sel [mapA z7C Value.string (fun x=>x) [(⟨#[43]⟩,(.func (.func 54) #[] #[(.pointer (some ⟨zN,0,none⟩)),(.pointer (some ⟨zO,0,none⟩))])),(⟨#[45]⟩,(.func (.func 55) #[] #[(.pointer (some ⟨zN,0,none⟩)),(.pointer (some ⟨zO,0,none⟩))])),(⟨#[42]⟩,(.func (.func 56) #[] #[(.pointer (some ⟨zN,0,none⟩)),(.pointer (some ⟨zO,0,none⟩))])),(⟨#[47]⟩,(.func (.func 57) #[] #[(.pointer (some ⟨zN,0,none⟩)),(.pointer (some ⟨zO,0,none⟩))]))],stb z4g 30 [(.int .i64 0),(.int .i64 0)],stb zO 30 [(.int .i64 z19.fN),(.int .i64 z19.fD)],stb zN 30 [(.int .i64 z18.fN),(.int .i64 z18.fD)]] [] [mapA z7C Value.string (fun x=>x) [(⟨#[43]⟩,(.func (.func 54) #[] #[(.pointer (some ⟨zN,0,none⟩)),(.pointer (some ⟨zO,0,none⟩))])),(⟨#[45]⟩,(.func (.func 55) #[] #[(.pointer (some ⟨zN,0,none⟩)),(.pointer (some ⟨zO,0,none⟩))])),(⟨#[42]⟩,(.func (.func 56) #[] #[(.pointer (some ⟨zN,0,none⟩)),(.pointer (some ⟨zO,0,none⟩))])),(⟨#[47]⟩,(.func (.func 57) #[] #[(.pointer (some ⟨zN,0,none⟩)),(.pointer (some ⟨zO,0,none⟩))]))],stb z4g 30 [(.int .i64 0),(.int .i64 0)],stb zO 30 [(.int .i64 z19.fN),(.int .i64 z19.fD)],stb zN 30 [(.int .i64 z18.fN),(.int .i64 z18.fD)]])).lend hw (.nil : Sel [mapA z7C Value.string (fun x=>x) [(⟨#[43]⟩,(.func (.func 54) #[] #[(.pointer (some ⟨zN,0,none⟩)),(.pointer (some ⟨zO,0,none⟩))])),(⟨#[45]⟩,(.func (.func 55) #[] #[(.pointer (some ⟨zN,0,none⟩)),(.pointer (some ⟨zO,0,none⟩))])),(⟨#[42]⟩,(.func (.func 56) #[] #[(.pointer (some ⟨zN,0,none⟩)),(.pointer (some ⟨zO,0,none⟩))])),(⟨#[47]⟩,(.func (.func 57) #[] #[(.pointer (some ⟨zN,0,none⟩)),(.pointer (some ⟨zO,0,none⟩))]))],stb z4g 30 [(.int .i64 0),(.int .i64 0)],stb zO 30 [(.int .i64 z19.fN),(.int .i64 z19.fD)],stb zN 30 [(.int .i64 z18.fN),(.int .i64 z18.fD)]] [] [mapA z7C Value.string (fun x=>x) [(⟨#[43]⟩,(.func (.func 54) #[] #[(.pointer (some ⟨zN,0,none⟩)),(.pointer (some ⟨zO,0,none⟩))])),(⟨#[45]⟩,(.func (.func 55) #[] #[(.pointer (some ⟨zN,0,none⟩)),(.pointer (some ⟨zO,0,none⟩))])),(⟨#[42]⟩,(.func (.func 56) #[] #[(.pointer (some ⟨zN,0,none⟩)),(.pointer (some ⟨zO,0,none⟩))])),(⟨#[47]⟩,(.func (.func 57) #[] #[(.pointer (some ⟨zN,0,none⟩)),(.pointer (some ⟨zO,0,none⟩))]))],stb z4g 30 [(.int .i64 0),(.int .i64 0)],stb zO 30 [(.int .i64 z19.fN),(.int .i64 z19.fD)],stb zN 30 [(.int .i64 z18.fN),(.int .i64 z18.fD)]]) (B:=[stb zN 30 [(.int .i64 z18.fN),(.int .i64 z18.fD)],stb zO 30 [(.int .i64 z19.fN),(.int .i64 z19.fD)]]) (fun _ hx'=>((.cons .h3 (.cons .h2 .nil)) : Sel _ [stb zN 30 [(.int .i64 z18.fN),(.int .i64 z18.fD)],stb zO 30 [(.int .i64 z19.fN),(.int .i64 z19.fD)]] _).mem hx'); exact w_rat_do_1 (Z:=_) (zf5:=⟨zN,0,none⟩) (zf6:=⟨zO,0,none⟩) (zb5:=z18) (zb6:=z19) (r:=zdL) w pz ((hw.lent (.nil : Sel [mapA z7C Value.string (fun x=>x) [(⟨#[43]⟩,(.func (.func 54) #[] #[(.pointer (some ⟨zN,0,none⟩)),(.pointer (some ⟨zO,0,none⟩))])),(⟨#[45]⟩,(.func (.func 55) #[] #[(.pointer (some ⟨zN,0,none⟩)),(.pointer (some ⟨zO,0,none⟩))])),(⟨#[42]⟩,(.func (.func 56) #[] #[(.pointer (some ⟨zN,0,none⟩)),(.pointer (some ⟨zO,0,none⟩))])),(⟨#[47]⟩,(.func (.func 57) #[] #[(.pointer (some ⟨zN,0,none⟩)),(.pointer (some ⟨zO,0,none⟩))]))],stb z4g 30 [(.int .i64 0),(.int .i64 0)],stb zO 30 [(.int .i64 z19.fN),(.int .i64 z19.fD)],stb zN 30 [(.int .i64 z18.fN),(.int .i64 z18.fD)]] [] [mapA z7C Value.string (fun x=>x) [(⟨#[43]⟩,(.func (.func 54) #[] #[(.pointer (some ⟨zN,0,none⟩)),(.pointer (some ⟨zO,0,none⟩))])),(⟨#[45]⟩,(.func (.func 55) #[] #[(.pointer (some ⟨zN,0,none⟩)),(.pointer (some ⟨zO,0,none⟩))])),(⟨#[42]⟩,(.func (.func 56) #[] #[(.pointer (some ⟨zN,0,none⟩)),(.pointer (some ⟨zO,0,none⟩))])),(⟨#[47]⟩,(.func (.func 57) #[] #[(.pointer (some ⟨zN,0,none⟩)),(.pointer (some ⟨zO,0,none⟩))]))],stb z4g 30 [(.int .i64 0),(.int .i64 0)],stb zO 30 [(.int .i64 z19.fN),(.int .i64 z19.fD)],stb zN 30 [(.int .i64 z18.fN),(.int .i64 z18.fD)]]) (B:=[stb zN 30 [(.int .i64 z18.fN),(.int .i64 z18.fD)],stb zO 30 [(.int .i64 z19.fN),(.int .i64 z19.fD)]]) (fun _ hx'=>((.cons .h3 (.cons .h2 .nil)) : Sel _ [stb zN 30 [(.int .i64 z18.fN),(.int .i64 z18.fD)],stb zO 30 [(.int .i64 z19.fN),(.int .i64 z19.fD)]] _).mem hx') (.head _) _).stb) ((hw.lent (.nil : Sel [mapA z7C Value.string (fun x=>x) [(⟨#[43]⟩,(.func (.func 54) #[] #[(.pointer (some ⟨zN,0,none⟩)),(.pointer (some ⟨zO,0,none⟩))])),(⟨#[45]⟩,(.func (.func 55) #[] #[(.pointer (some ⟨zN,0,none⟩)),(.pointer (some ⟨zO,0,none⟩))])),(⟨#[42]⟩,(.func (.func 56) #[] #[(.pointer (some ⟨zN,0,none⟩)),(.pointer (some ⟨zO,0,none⟩))])),(⟨#[47]⟩,(.func (.func 57) #[] #[(.pointer (some ⟨zN,0,none⟩)),(.pointer (some ⟨zO,0,none⟩))]))],stb z4g 30 [(.int .i64 0),(.int .i64 0)],stb zO 30 [(.int .i64 z19.fN),(.int .i64 z19.fD)],stb zN 30 [(.int .i64 z18.fN),(.int .i64 z18.fD)]] [] [mapA z7C Value.string (fun x=>x) [(⟨#[43]⟩,(.func (.func 54) #[] #[(.pointer (some ⟨zN,0,none⟩)),(.pointer (some ⟨zO,0,none⟩))])),(⟨#[45]⟩,(.func (.func 55) #[] #[(.pointer (some ⟨zN,0,none⟩)),(.pointer (some ⟨zO,0,none⟩))])),(⟨#[42]⟩,(.func (.func 56) #[] #[(.pointer (some ⟨zN,0,none⟩)),(.pointer (some ⟨zO,0,none⟩))])),(⟨#[47]⟩,(.func (.func 57) #[] #[(.pointer (some ⟨zN,0,none⟩)),(.pointer (some ⟨zO,0,none⟩))]))],stb z4g 30 [(.int .i64 0),(.int .i64 0)],stb zO 30 [(.int .i64 z19.fN),(.int .i64 z19.fD)],stb zN 30 [(.int .i64 z18.fN),(.int .i64 z18.fD)]]) (B:=[stb zN 30 [(.int .i64 z18.fN),(.int .i64 z18.fD)],stb zO 30 [(.int .i64 z19.fN),(.int .i64 z19.fD)]]) (fun _ hx'=>((.cons .h3 (.cons .h2 .nil)) : Sel _ [stb zN 30 [(.int .i64 z18.fN),(.int .i64 z18.fD)],stb zO 30 [(.int .i64 z19.fN),(.int .i64 z19.fD)]] _).mem hx') (.tail _ (.head _)) _).stb) zu8) ?_
    refine WL.a (d:=37) rfl rfl rfl (q_extract rfl rfl) ?_
    refine WL.a (d:=38) rfl rfl rfl (q_extract rfl rfl) ?_
    refine WL.b (dd:=39) rfl rfl rfl (zk (l:=[.tmp 37,.tmp 38]) Try.call9 (.cons rfl (.cons rfl .nil))) (.nil : Sel [mapA z7C Value.string (fun x=>x) [(⟨#[43]⟩,(.func (.func 54) #[] #[(.pointer (some ⟨zN,0,none⟩)),(.pointer (some ⟨zO,0,none⟩))])),(⟨#[45]⟩,(.func (.func 55) #[] #[(.pointer (some ⟨zN,0,none⟩)),(.pointer (some ⟨zO,0,none⟩))])),(⟨#[42]⟩,(.func (.func 56) #[] #[(.pointer (some ⟨zN,0,none⟩)),(.pointer (some ⟨zO,0,none⟩))])),(⟨#[47]⟩,(.func (.func 57) #[] #[(.pointer (some ⟨zN,0,none⟩)),(.pointer (some ⟨zO,0,none⟩))]))],stb z4g 30 [(.int .i64 0),(.int .i64 0)],stb zO 30 [(.int .i64 z19.fN),(.int .i64 z19.fD)],stb zN 30 [(.int .i64 z18.fN),(.int .i64 z18.fD)]] [] [mapA z7C Value.string (fun x=>x) [(⟨#[43]⟩,(.func (.func 54) #[] #[(.pointer (some ⟨zN,0,none⟩)),(.pointer (some ⟨zO,0,none⟩))])),(⟨#[45]⟩,(.func (.func 55) #[] #[(.pointer (some ⟨zN,0,none⟩)),(.pointer (some ⟨zO,0,none⟩))])),(⟨#[42]⟩,(.func (.func 56) #[] #[(.pointer (some ⟨zN,0,none⟩)),(.pointer (some ⟨zO,0,none⟩))])),(⟨#[47]⟩,(.func (.func 57) #[] #[(.pointer (some ⟨zN,0,none⟩)),(.pointer (some ⟨zO,0,none⟩))]))],stb z4g 30 [(.int .i64 0),(.int .i64 0)],stb zO 30 [(.int .i64 z19.fN),(.int .i64 z19.fD)],stb zN 30 [(.int .i64 z18.fN),(.int .i64 z18.fD)]]) (fun w hw=>by have pz:=(hz.call hw (.nil : Sel [mapA z7C Value.string (fun x=>x) [(⟨#[43]⟩,(.func (.func 54) #[] #[(.pointer (some ⟨zN,0,none⟩)),(.pointer (some ⟨zO,0,none⟩))])),(⟨#[45]⟩,(.func (.func 55) #[] #[(.pointer (some ⟨zN,0,none⟩)),(.pointer (some ⟨zO,0,none⟩))])),(⟨#[42]⟩,(.func (.func 56) #[] #[(.pointer (some ⟨zN,0,none⟩)),(.pointer (some ⟨zO,0,none⟩))])),(⟨#[47]⟩,(.func (.func 57) #[] #[(.pointer (some ⟨zN,0,none⟩)),(.pointer (some ⟨zO,0,none⟩))]))],stb z4g 30 [(.int .i64 0),(.int .i64 0)],stb zO 30 [(.int .i64 z19.fN),(.int .i64 z19.fD)],stb zN 30 [(.int .i64 z18.fN),(.int .i64 z18.fD)]] [] [mapA z7C Value.string (fun x=>x) [(⟨#[43]⟩,(.func (.func 54) #[] #[(.pointer (some ⟨zN,0,none⟩)),(.pointer (some ⟨zO,0,none⟩))])),(⟨#[45]⟩,(.func (.func 55) #[] #[(.pointer (some ⟨zN,0,none⟩)),(.pointer (some ⟨zO,0,none⟩))])),(⟨#[42]⟩,(.func (.func 56) #[] #[(.pointer (some ⟨zN,0,none⟩)),(.pointer (some ⟨zO,0,none⟩))])),(⟨#[47]⟩,(.func (.func 57) #[] #[(.pointer (some ⟨zN,0,none⟩)),(.pointer (some ⟨zO,0,none⟩))]))],stb z4g 30 [(.int .i64 0),(.int .i64 0)],stb zO 30 [(.int .i64 z19.fN),(.int .i64 z19.fD)],stb zN 30 [(.int .i64 z18.fN),(.int .i64 z18.fD)]])); exact w_rat_Make (Z:=_)  (z6C:=zdL.1) (z64:=zdL.2) (r:=zb7) w pz  zu9) ?_
    refine WL.a (d:=40) rfl rfl rfl (q_extract rfl rfl) ?_
    refine WL.a (d:=41) rfl rfl rfl (q_extract rfl rfl) ?_
    refine WL.eff0 rfl rfl (e_store (vs:=[(.int .i64 zb7.1.fN),(.int .i64 zb7.1.fD)]) (ds:=[(.int .i64 zb7.1.fN),(.int .i64 zb7.1.fD)]) sizT_30 rfl rfl rfl rfl (oc_cons rfl (oc_cons rfl oc_nil)) .h1 (Nat.le_of_ble_eq_true rfl) rfl) ?_
    refine WL.a (d:=7) rfl rfl rfl (q_z rfl) ?_
    refine WL.nil ?_
    refine WX.a ?_
    refine WC.ret ?_
    obtain rfl:=Option.some.inj h
    refine WX.bpRet Try.results40 (.agg rfl aggT_30 rfl (rd_all .here) (.tmp rfl .nil)) (fun w hw=>?_)
    exact ⟨ret2 rfl rfl,hw.sub .nil⟩
def m_rat_Add (z3I : z2) (z3J : z2) : Option (z2 × Int) :=
 (m_rat_doc z3I z3J).bind fun zb8=>some (zb8.1,zb8.2)
set_option maxRecDepth 20000 in
theorem w_rat_Add (Z : Zp)   (z3I : z2) (z3J : z2) (r : z2 × Int) (w₀ : World) (hz : PZ [] w₀ Z)
  (h : m_rat_Add z3I z3J = some r) :
  Calls Try.prog 19 #[(.agg #[(.int .i64 z3I.fN),(.int .i64 z3I.fD)]),(.agg #[(.int .i64 z3J.fN),(.int .i64 z3J.fD)])] w₀ fun e w'=>e = .returned (.tuple #[(.agg #[(.int .i64 r.1.fN),(.int .i64 r.1.fD)]),(.int .i64 r.2)]) ∧ Hp [] w₀ w' []:=by
 unfold m_rat_Add at h
 refine Calls.ofWC (vs:=[(.agg #[(.int .i64 z3I.fN),(.int .i64 z3I.fD)]),(.agg #[(.int .i64 z3J.fN),(.int .i64 z3J.fD)])]) (pre:=[]) (env:=[(0,(.agg #[(.int .i64 z3I.fN),(.int .i64 z3I.fD)])),(1,(.agg #[(.int .i64 z3J.fN),(.int .i64 z3J.fD)]))]) Try.func19 rfl Try.ntmps19 rfl (Hp.nil w₀ _) rfl ?_
 refine WC.b ?_
 refine WC.a ?_
 refine WL.new (dd:=2) rfl rfl rfl (e_box (cs:=[(.int .i64 z3I.fN),(.int .i64 z3I.fD)]) rfl rfl) ?_
 intro zgY _
 refine WL.new (dd:=3) rfl rfl rfl (e_box (cs:=[(.int .i64 z3J.fN),(.int .i64 z3J.fD)]) rfl rfl) ?_
 intro zgZ _
 refine WL.new (dd:=4) rfl rfl rfl (e_alloc (cs:=[(.int .i64 0),(.int .i64 0)]) zeroT_30 rfl) ?_
 intro zh0 _
 refine WL.a (d:=5) rfl rfl rfl (q_z rfl) ?_
 refine WL.nil ?_
 refine WX.a ?_
 refine WC.b ?_
 obtain ⟨zb8,zua,h⟩:=zd h
 refine WC.a ?_
 refine WL.a (d:=6) rfl rfl rfl (q_loadA (cs:=[(.int .i64 z3I.fN),(.int .i64 z3I.fD)]) aggT_30 rfl rfl (rd_all .h2)) ?_
 refine WL.a (d:=7) rfl rfl rfl (q_loadA (cs:=[(.int .i64 z3J.fN),(.int .i64 z3J.fD)]) aggT_30 rfl rfl (rd_all .h1)) ?_
 refine WL.b (dd:=8) rfl rfl rfl (zk (l:=[.const (.string ⟨#[43]⟩),.tmp 6,.tmp 7]) Try.call40 (.cons rfl (.cons rfl (.cons rfl .nil)))) (.nil : Sel [stb zh0 30 [(.int .i64 0),(.int .i64 0)],stb zgZ 30 [(.int .i64 z3J.fN),(.int .i64 z3J.fD)],stb zgY 30 [(.int .i64 z3I.fN),(.int .i64 z3I.fD)]] [] [stb zh0 30 [(.int .i64 0),(.int .i64 0)],stb zgZ 30 [(.int .i64 z3J.fN),(.int .i64 z3J.fD)],stb zgY 30 [(.int .i64 z3I.fN),(.int .i64 z3I.fD)]]) (fun w hw=>by have pz:=(hz.call hw (.nil : Sel [stb zh0 30 [(.int .i64 0),(.int .i64 0)],stb zgZ 30 [(.int .i64 z3J.fN),(.int .i64 z3J.fD)],stb zgY 30 [(.int .i64 z3I.fN),(.int .i64 z3I.fD)]] [] [stb zh0 30 [(.int .i64 0),(.int .i64 0)],stb zgZ 30 [(.int .i64 z3J.fN),(.int .i64 z3J.fD)],stb zgY 30 [(.int .i64 z3I.fN),(.int .i64 z3I.fD)]])); exact w_rat_doc (Z:=_)  (z18:=z3I) (z19:=z3J) (r:=zb8) w pz  zua) ?_
 refine WL.a (d:=9) rfl rfl rfl (q_extract rfl rfl) ?_
 refine WL.a (d:=10) rfl rfl rfl (q_extract rfl rfl) ?_
 refine WL.eff0 rfl rfl (e_store (vs:=[(.int .i64 zb8.1.fN),(.int .i64 zb8.1.fD)]) (ds:=[(.int .i64 zb8.1.fN),(.int .i64 zb8.1.fD)]) sizT_30 rfl rfl rfl rfl (oc_cons rfl (oc_cons rfl oc_nil)) .here (Nat.le_of_ble_eq_true rfl) rfl) ?_
 refine WL.a (d:=5) rfl rfl rfl (q_z rfl) ?_
 refine WL.nil ?_
 refine WX.a ?_
 refine WC.ret ?_
 obtain rfl:=Option.some.inj h
 refine WX.bpRet Try.results19 (.agg rfl aggT_30 rfl (rd_all .here) (.tmp rfl .nil)) (fun w hw=>?_)
 exact ⟨ret2 rfl rfl,hw.sub .nil⟩
def m_calculus_calc_do (z5d : z2j) (z7V : z2 → z2 → Option (z2 × Int)) (z2Y : z2) (z2Z : z2) : Option (z2 × z2j) :=
 if decide (z5d.fE ≠ 0) then (m_calculus_zero).bind fun zci=>some (zci,z5d) else (z7V z2Y z2Z).bind fun z3z=>if decide (z3z.2 ≠ 0) then (m_calculus_zero).bind fun zcj=>some (zcj,(⟨z3z.2⟩ : z2j)) else some (z3z.1,(⟨z3z.2⟩ : z2j))
set_option maxRecDepth 20000 in
theorem w_calculus_calc_do (Z : Zp)  (z4h : Nat) (z75 : FuncId) (z7D : List Value) (z5d : z2j) (z7V : z2 → z2 → Option (z2 × Int)) (z2Y : z2) (z2Z : z2) (r : z2 × z2j) (w₀ : World) (hz : PZ (fps [stb z4h 98 [(.int .i64 z5d.fE)]]) w₀ Z)
  (zub : ∀ args w,(callFunc z75 args).run Try.prog w = .ok (.enter z75 args) w)
  (zuc : ∀ w : World,PZ [] w Z → ∀ (x0 : z2) (x1 : z2) (r : z2 × Int),z7V x0 x1 = some r → Calls Try.prog z75 (([(.agg #[(.int .i64 x0.fN),(.int .i64 x0.fD)]),(.agg #[(.int .i64 x1.fN),(.int .i64 x1.fD)])] : List Value) ++ z7D).toArray w fun e w'=>e = .returned (.tuple #[(.agg #[(.int .i64 r.1.fN),(.int .i64 r.1.fD)]),(.int .i64 r.2)]) ∧ Hp [] w w' [])
  (h : m_calculus_calc_do z5d z7V z2Y z2Z = some r)
  (hown : Hp (fps [stb z4h 98 [(.int .i64 z5d.fE)]]) w₀ w₀ [stb z4h 98 [(.int .i64 z5d.fE)]]) :
  Calls Try.prog 33 #[(.pointer (some ⟨z4h,0,none⟩)),(.func (.func z75) #[] (z7D).toArray),(.agg #[(.int .i64 z2Y.fN),(.int .i64 z2Y.fD)]),(.agg #[(.int .i64 z2Z.fN),(.int .i64 z2Z.fD)])] w₀ fun e w'=>e = .returned (.agg #[(.int .i64 r.1.fN),(.int .i64 r.1.fD)]) ∧ Hp (fps [stb z4h 98 [(.int .i64 z5d.fE)]]) w₀ w' [stb z4h 98 [(.int .i64 r.2.fE)]]:=by
 unfold m_calculus_calc_do at h
 refine Calls.ofWC (vs:=[(.pointer (some ⟨z4h,0,none⟩)),(.func (.func z75) #[] (z7D).toArray),(.agg #[(.int .i64 z2Y.fN),(.int .i64 z2Y.fD)]),(.agg #[(.int .i64 z2Z.fN),(.int .i64 z2Z.fD)])]) (pre:=[stb z4h 98 [(.int .i64 z5d.fE)]]) (env:=[(0,(.pointer (some ⟨z4h,0,none⟩))),(1,(.func (.func z75) #[] (z7D).toArray)),(2,(.agg #[(.int .i64 z2Y.fN),(.int .i64 z2Y.fD)])),(3,(.agg #[(.int .i64 z2Z.fN),(.int .i64 z2Z.fD)]))]) Try.func33 rfl Try.ntmps33 rfl (hown) rfl ?_
 refine WC.b ?_
 refine WC.a ?_
 refine WL.new (dd:=6) rfl rfl rfl (e_box (cs:=[(.int .i64 z2Y.fN),(.int .i64 z2Y.fD)]) rfl rfl) ?_
 intro zb9 _
 refine WL.new (dd:=7) rfl rfl rfl (e_box (cs:=[(.int .i64 z2Z.fN),(.int .i64 z2Z.fD)]) rfl rfl) ?_
 intro zba _
 refine WL.new (dd:=8) rfl rfl rfl (e_alloc (cs:=[(.int .i64 0),(.int .i64 0)]) zeroT_30 rfl) ?_
 intro zbb _
 refine WL.nil ?_
 refine WX.a ?_
 refine WC.b ?_
 refine WC.b ?_
 refine WC.a ?_
 refine WL.a (d:=11) rfl rfl rfl (q_m rfl) ?_
 refine WL.a (d:=12) rfl rfl rfl (q_nilCheck rfl) ?_
 refine WL.a (d:=13) rfl rfl rfl (q_fieldAddr fo_98_0 rfl rfl) ?_
 refine WL.a (d:=14) rfl rfl rfl (q_load1 oneT_31 rfl (rd_stb .h3 rfl)) ?_
 refine WL.a (d:=15) rfl rfl rfl (q_neq rfl rfl) ?_
 refine WL.nil ?_
 refine WX.a ?_
 refine WC.cond rfl (fun zkb=>?_) (fun zkb=>?_)
 ·replace h:=ite_t h zkb
  refine WC.b ?_
  obtain ⟨zci,zud,h⟩:=zd h
  refine WC.a ?_
  refine WL.b (dd:=16) rfl rfl rfl (zk (l:=[]) Try.call51 .nil) (.nil : Sel [stb zbb 30 [(.int .i64 0),(.int .i64 0)],stb zba 30 [(.int .i64 z2Z.fN),(.int .i64 z2Z.fD)],stb zb9 30 [(.int .i64 z2Y.fN),(.int .i64 z2Y.fD)],stb z4h 98 [(.int .i64 z5d.fE)]] [] [stb zbb 30 [(.int .i64 0),(.int .i64 0)],stb zba 30 [(.int .i64 z2Z.fN),(.int .i64 z2Z.fD)],stb zb9 30 [(.int .i64 z2Y.fN),(.int .i64 z2Y.fD)],stb z4h 98 [(.int .i64 z5d.fE)]]) (fun w hw=>by have pz:=(hz.call hw (.nil : Sel [stb zbb 30 [(.int .i64 0),(.int .i64 0)],stb zba 30 [(.int .i64 z2Z.fN),(.int .i64 z2Z.fD)],stb zb9 30 [(.int .i64 z2Y.fN),(.int .i64 z2Y.fD)],stb z4h 98 [(.int .i64 z5d.fE)]] [] [stb zbb 30 [(.int .i64 0),(.int .i64 0)],stb zba 30 [(.int .i64 z2Z.fN),(.int .i64 z2Z.fD)],stb zb9 30 [(.int .i64 z2Y.fN),(.int .i64 z2Y.fD)],stb z4h 98 [(.int .i64 z5d.fE)]])); exact w_calculus_zero (Z:=_)   (r:=zci) w pz  zud) ?_
  refine WL.eff0 rfl rfl (e_store (vs:=[(.int .i64 zci.fN),(.int .i64 zci.fD)]) (ds:=[(.int .i64 zci.fN),(.int .i64 zci.fD)]) sizT_30 rfl rfl rfl rfl (oc_cons rfl (oc_cons rfl oc_nil)) .here (Nat.le_of_ble_eq_true rfl) rfl) ?_
  refine WL.nil ?_
  refine WX.a ?_
  refine WC.ret ?_
  refine WX.thenRet ?_
  obtain rfl:=Option.some.inj h
  refine WX.bpRet Try.results33 (.agg rfl aggT_30 rfl (rd_all .here) .nil) (fun w hw=>?_)
  exact ⟨ret1 rfl,hw.sub (.cons .h3 .nil)⟩
 ·replace h:=ite_f h zkb
  refine WC.skip ?_
  refine WX.a ?_
  refine WC.b ?_
  obtain ⟨z3z,zue,h⟩:=zd h
  refine WC.a ?_
  refine WL.a (d:=18) rfl rfl rfl (q_m rfl) ?_
  refine WL.a (d:=19) rfl rfl rfl (q_loadA (cs:=[(.int .i64 z2Y.fN),(.int .i64 z2Y.fD)]) aggT_30 rfl rfl (rd_all .h2)) ?_
  refine WL.a (d:=20) rfl rfl rfl (q_loadA (cs:=[(.int .i64 z2Z.fN),(.int .i64 z2Z.fD)]) aggT_30 rfl rfl (rd_all .h1)) ?_
  refine WL.b (dd:=21) rfl rfl rfl (run_callv (l:=[.tmp 19,.tmp 20]) (f:=z75) (caps:=z7D) zub rfl (.cons rfl (.cons rfl .nil))) .nil (fun w hw=>zuc w (hz.now hw) z2Y z2Z z3z  zue) ?_
  refine WL.a (d:=17) rfl rfl rfl (q_m rfl) ?_
  refine WL.a (d:=22) rfl rfl rfl (q_extract rfl rfl) ?_
  refine WL.a (d:=23) rfl rfl rfl (q_extract rfl rfl) ?_
  refine WL.new (dd:=9) rfl rfl rfl (e_alloc (cs:=[(.int .i64 0),(.int .i64 0)]) zeroT_30 rfl) ?_
  intro zh1 _
  refine WL.eff0 rfl rfl (e_store (vs:=[(.int .i64 z3z.1.fN),(.int .i64 z3z.1.fD)]) (ds:=[(.int .i64 z3z.1.fN),(.int .i64 z3z.1.fD)]) sizT_30 rfl rfl rfl rfl (oc_cons rfl (oc_cons rfl oc_nil)) .here (Nat.le_of_ble_eq_true rfl) rfl) ?_
  refine WL.a (d:=10) rfl rfl rfl (q_z rfl) ?_
  refine WL.nil ?_
  refine WX.a ?_
  refine WC.b ?_
  refine WC.b ?_
  refine WC.a ?_
  refine WL.a (d:=24) rfl rfl rfl (q_m rfl) ?_
  refine WL.a (d:=25) rfl rfl rfl (q_m rfl) ?_
  refine WL.a (d:=26) rfl rfl rfl (q_nilCheck rfl) ?_
  refine WL.a (d:=27) rfl rfl rfl (q_fieldAddr fo_98_0 rfl rfl) ?_
  refine WL.eff0 rfl rfl (e_store (vs:=[(.int .i64 z3z.2)]) (ds:=[(.int .i64 z3z.2)]) sizT_31 rfl rfl rfl rfl (oc_cons rfl oc_nil) .h4 (Nat.le_of_ble_eq_true rfl) rfl) ?_
  refine WL.nil ?_
  refine WX.a ?_
  refine WC.b ?_
  refine WC.a ?_
  refine WL.a (d:=28) rfl rfl rfl (q_m rfl) ?_
  refine WL.a (d:=29) rfl rfl rfl (q_neq rfl rfl) ?_
  refine WL.nil ?_
  refine WX.a ?_
  refine WC.cond rfl (fun zkc=>?_) (fun zkc=>?_)
  ·replace h:=ite_t h zkc
   refine WC.b ?_
   obtain ⟨zcj,zuf,h⟩:=zd h
   refine WC.a ?_
   refine WL.b (dd:=30) rfl rfl rfl (zk (l:=[]) Try.call51 .nil) (.nil : Sel [stb z4h 98 [(.int .i64 z3z.2)],stb zh1 30 [(.int .i64 z3z.1.fN),(.int .i64 z3z.1.fD)],stb zbb 30 [(.int .i64 0),(.int .i64 0)],stb zba 30 [(.int .i64 z2Z.fN),(.int .i64 z2Z.fD)],stb zb9 30 [(.int .i64 z2Y.fN),(.int .i64 z2Y.fD)]] [] [stb z4h 98 [(.int .i64 z3z.2)],stb zh1 30 [(.int .i64 z3z.1.fN),(.int .i64 z3z.1.fD)],stb zbb 30 [(.int .i64 0),(.int .i64 0)],stb zba 30 [(.int .i64 z2Z.fN),(.int .i64 z2Z.fD)],stb zb9 30 [(.int .i64 z2Y.fN),(.int .i64 z2Y.fD)]]) (fun w hw=>by have pz:=(hz.call hw (.nil : Sel [stb z4h 98 [(.int .i64 z3z.2)],stb zh1 30 [(.int .i64 z3z.1.fN),(.int .i64 z3z.1.fD)],stb zbb 30 [(.int .i64 0),(.int .i64 0)],stb zba 30 [(.int .i64 z2Z.fN),(.int .i64 z2Z.fD)],stb zb9 30 [(.int .i64 z2Y.fN),(.int .i64 z2Y.fD)]] [] [stb z4h 98 [(.int .i64 z3z.2)],stb zh1 30 [(.int .i64 z3z.1.fN),(.int .i64 z3z.1.fD)],stb zbb 30 [(.int .i64 0),(.int .i64 0)],stb zba 30 [(.int .i64 z2Z.fN),(.int .i64 z2Z.fD)],stb zb9 30 [(.int .i64 z2Y.fN),(.int .i64 z2Y.fD)]])); exact w_calculus_zero (Z:=_)   (r:=zcj) w pz  zuf) ?_
   refine WL.eff0 rfl rfl (e_store (vs:=[(.int .i64 zcj.fN),(.int .i64 zcj.fD)]) (ds:=[(.int .i64 zcj.fN),(.int .i64 zcj.fD)]) sizT_30 rfl rfl rfl rfl (oc_cons rfl (oc_cons rfl oc_nil)) .h2 (Nat.le_of_ble_eq_true rfl) rfl) ?_
   refine WL.nil ?_
   refine WX.a ?_
   refine WC.ret ?_
   refine WX.thenRet ?_
   obtain rfl:=Option.some.inj h
   refine WX.bpRet Try.results33 (.agg rfl aggT_30 rfl (rd_all .here) .nil) (fun w hw=>?_)
   exact ⟨ret1 rfl,hw.sub (.cons .h1 .nil)⟩
  ·replace h:=ite_f h zkc
   refine WC.skip ?_
   refine WX.a ?_
   refine WC.b ?_
   refine WC.a ?_
   refine WL.a (d:=31) rfl rfl rfl (q_loadA (cs:=[(.int .i64 z3z.1.fN),(.int .i64 z3z.1.fD)]) aggT_30 rfl rfl (rd_all .h1)) ?_
   refine WL.eff0 rfl rfl (e_store (vs:=[(.int .i64 z3z.1.fN),(.int .i64 z3z.1.fD)]) (ds:=[(.int .i64 z3z.1.fN),(.int .i64 z3z.1.fD)]) sizT_30 rfl rfl rfl rfl (oc_cons rfl (oc_cons rfl oc_nil)) .h2 (Nat.le_of_ble_eq_true rfl) rfl) ?_
   refine WL.nil ?_
   refine WX.a ?_
   refine WC.ret ?_
   obtain rfl:=Option.some.inj h
   refine WX.bpRet Try.results33 (.agg rfl aggT_30 rfl (rd_all .here) .nil) (fun w hw=>?_)
   exact ⟨ret1 rfl,hw.sub (.cons .h1 .nil)⟩
def m_calculus_search_check_L2 (z1R : List (List z1)) (zae : Int → Int → Int → Option Int) : Nat → Int → Int → Int → Int → Option Int
 | 0,_,_,_,_=>none
 | zkd + 1,z65,z42,z3P,z3Q=>if decide (z65 < ((z1R.length : Nat) : Int)) then chk ((0 : Int) ≤ z65 ∧ z65 < ((z1R.length : Nat) : Int)) ((m_curve_Breaks (nth z1R z65)).bind fun z4D=>if decide (z4D.2 ≠ 0) then some z4D.2 else (m_curve_Rate (nth z1R z65)).bind fun z5e=>(m_calculus_calc_do (⟨z42⟩ : z2j) (fun (y0 : z2) (y1 : z2)=>m_rat_Add y0 y1) (⟨z3P,z3Q⟩ : z2) z5e.1).bind fun z8i=>m_calculus_search_check_L2 z1R zae zkd (i64 (z65 + 1)) z8i.2.fE z8i.1.fN z8i.1.fD) else zae z42 z3P z3Q
theorem m_calculus_search_check_L2_fuel {n : Nat} {z1R : List (List z1)} {zae : Int → Int → Int → Option Int} {z65 : Int} {z42 : Int} {z3P : Int} {z3Q : Int} {r : Int} (h : m_calculus_search_check_L2 z1R zae n z65 z42 z3P z3Q = some r) : ∃ m,n = m + 1:=by
 cases n with
 | zero=>cases h
 | succ m=>exact ⟨m,rfl⟩
def m_calculus_search_check (z1R : List (List z1)) (zm : Sapi_Server) (zf9 : List (List z1)) (zck : Sapi_Server) (z2v : List z2) : Option Int :=
 (if decide (((z1R.length : Nat) : Int) > 32) then some true else (m_slices_ContainsFunc_api_Curve_api_Curve z1R (fun (y0 : List z1)=>m_calculus_search_check_1 y0)).bind fun zke=>some zke).bind fun zh2=>(if zh2 then some true else (m_calculus_Valid zm).bind fun zkf=>some (!zkf)).bind fun zkg=>if zkg then some 2 else (m_calculus_zero).bind fun z9m=>jp3 (fun (z7g : Int) (z7h : Int) (z7i : Int)=>(if decide (z7g = 0) then (m_rat_Cmp (⟨z7h,z7i⟩ : z2) zm.fRate).bind fun zkh=>some (decide (zkh > 0)) else some false).bind fun zki=>if zki then some 6 else some z7g) fun zae=>m_calculus_search_check_L2 z1R zae FUEL 0 0 z9m.fN z9m.fD
set_option maxRecDepth 20000 in
theorem w_calculus_search_check (Z : Zp)  (z2w : Option Addr) (z2x : Nat) (z2H : Addr) (zkj : Option Addr) (zkk : Nat) (z2I : Addr) (z2J : Option Addr) (z2K : Nat) (z1R : List (List z1)) (zm : Sapi_Server) (zf9 : List (List z1)) (zck : Sapi_Server) (z2v : List z2) (r : Int) (w₀ : World) (hz : PZ [] w₀ Z)
  (zoY : ZS Z 1 (p39 Z) z2w z2x z1R)
  (zA8 : ZS Z 1 (p39 Z) zkj zkk zf9)
  (zA9 : ZC Z z2H [(.slice zkj zf9.length zkk)])
  (zAa : ZC Z z2I [(.int .i64 zck.fRate.fN),(.int .i64 zck.fRate.fD),(.int .i64 zck.fLatency.fN),(.int .i64 zck.fLatency.fD)])
  (zAb : ZS Z 2 (fun r x=>r = e30 x) z2J z2K z2v)
  (h : m_calculus_search_check z1R zm zf9 zck z2v = some r) :
  Calls Try.prog 52 #[(.agg #[(.slice z2w z1R.length z2x),(.int .i64 zm.fRate.fN),(.int .i64 zm.fRate.fD),(.int .i64 zm.fLatency.fN),(.int .i64 zm.fLatency.fD),(.func (.func 32) #[] #[(.pointer (some z2H)),(.pointer (some z2I))]),(.slice z2J z2v.length z2K)])] w₀ fun e w'=>∃ Zn : Zp,e = .returned (.int .i64 r) ∧ True ∧ Hp [] w₀ w' [fz Zn]:=by
 unfold m_calculus_search_check at h
 refine Calls.ofWC (vs:=[(.agg #[(.slice z2w z1R.length z2x),(.int .i64 zm.fRate.fN),(.int .i64 zm.fRate.fD),(.int .i64 zm.fLatency.fN),(.int .i64 zm.fLatency.fD),(.func (.func 32) #[] #[(.pointer (some z2H)),(.pointer (some z2I))]),(.slice z2J z2v.length z2K)])]) (pre:=[]) (env:=[(0,(.agg #[(.slice z2w z1R.length z2x),(.int .i64 zm.fRate.fN),(.int .i64 zm.fRate.fD),(.int .i64 zm.fLatency.fN),(.int .i64 zm.fLatency.fD),(.func (.func 32) #[] #[(.pointer (some z2H)),(.pointer (some z2I))]),(.slice z2J z2v.length z2K)]))]) Try.func52 rfl Try.ntmps52 rfl (Hp.nil w₀ _) rfl ?_
 refine WC.pool ?_
 refine WC.b ?_
 refine WC.a ?_
 refine WL.new (dd:=1) rfl rfl rfl (e_box (cs:=[(.slice z2w z1R.length z2x),(.int .i64 zm.fRate.fN),(.int .i64 zm.fRate.fD),(.int .i64 zm.fLatency.fN),(.int .i64 zm.fLatency.fD),(.func (.func 32) #[] #[(.pointer (some z2H)),(.pointer (some z2I))]),(.slice z2J z2v.length z2K)]) rfl rfl) ?_
 intro z30 _
 refine WL.a (d:=2) rfl rfl rfl (q_z rfl) ?_
 refine WL.nil ?_
 refine WX.a ?_
 refine WC.b ?_
 refine WC.b ?_
 obtain ⟨zh2,zoZ,h⟩:=zd h
 obtain ⟨zkg,zp0,h⟩:=zd h
 refine WC.a ?_
 refine WL.a (d:=11) rfl rfl rfl (q_fieldAddr fo_79_0 rfl rfl) ?_
 refine WL.a (d:=12) rfl rfl rfl (q_load1 oneT_26 rfl (rd_stb .here rfl)) ?_
 refine WL.a (d:=13) rfl rfl rfl (q_len Try.underlying26 rfl) ?_
 refine WL.a (d:=14) rfl rfl rfl (q_gtr rfl rfl) ?_
 refine WL.a (d:=15) rfl rfl rfl (q_m rfl) ?_
 refine WL.cut0 True [(1,(.pointer (some ⟨z30,0,none⟩))),(19,(.bool zh2))] [stb z30 79 [(.slice z2w z1R.length z2x),(.int .i64 zm.fRate.fN),(.int .i64 zm.fRate.fD),(.int .i64 zm.fLatency.fN),(.int .i64 zm.fLatency.fD),(.func (.func 32) #[] #[(.pointer (some z2H)),(.pointer (some z2I))]),(.slice z2J z2v.length z2K)],fz []] 4 ?_ (fun _=>?_)
 ·rcases Bool.eq_false_or_eq_true (decide (((z1R.length : Nat) : Int) > 32)) with hb' | hb'
  ·have zp1:=hb'; clear hb'
   have zkl:=ite_t zoZ zp1
   replace zkl:=Option.some.inj zkl
   refine WL.pin (i:=15) rfl zp1 ?_
   refine WL.e rfl rfl rfl ?_
   refine WL.e rfl rfl rfl ?_
   refine WL.e rfl rfl rfl ?_
   refine WL.a (d:=19) rfl rfl rfl (q_pickT rfl rfl) ?_
   exact WL.cutEnd () trivial (.cons rfl (.cons (zr zkl) .nil)) (.cons .here (.cons .here .nil))
  ·have zp2:=hb'; clear hb'
   have zfa:=ite_f zoZ zp2
   obtain ⟨zke,zug,zfa⟩:=zd zfa
   replace zfa:=Option.some.inj zfa
   refine WL.pin (i:=15) rfl zp2 ?_
   refine WL.a (d:=16) rfl rfl rfl (q_fieldAddr fo_79_0 rfl rfl) ?_
   refine WL.a (d:=17) rfl rfl rfl (q_load1 oneT_26 rfl (rd_stb .here rfl)) ?_
   refine WL.b (dd:=18) rfl rfl rfl (zk (l:=[.tmp 17,.func 67]) Try.call66 (.cons rfl (.cons rfl .nil))) (.nil : Sel [stb z30 79 [(.slice z2w z1R.length z2x),(.int .i64 zm.fRate.fN),(.int .i64 zm.fRate.fD),(.int .i64 zm.fLatency.fN),(.int .i64 zm.fLatency.fD),(.func (.func 32) #[] #[(.pointer (some z2H)),(.pointer (some z2I))]),(.slice z2J z2v.length z2K)],fz []] [] [stb z30 79 [(.slice z2w z1R.length z2x),(.int .i64 zm.fRate.fN),(.int .i64 zm.fRate.fD),(.int .i64 zm.fLatency.fN),(.int .i64 zm.fLatency.fD),(.func (.func 32) #[] #[(.pointer (some z2H)),(.pointer (some z2I))]),(.slice z2J z2v.length z2K)],fz []]) (fun w hw=>by have pz:=(hz.call2 hw (.nil : Sel [stb z30 79 [(.slice z2w z1R.length z2x),(.int .i64 zm.fRate.fN),(.int .i64 zm.fRate.fD),(.int .i64 zm.fLatency.fN),(.int .i64 zm.fLatency.fD),(.func (.func 32) #[] #[(.pointer (some z2H)),(.pointer (some z2I))]),(.slice z2J z2v.length z2K)],fz []] [] [stb z30 79 [(.slice z2w z1R.length z2x),(.int .i64 zm.fRate.fN),(.int .i64 zm.fRate.fD),(.int .i64 zm.fLatency.fN),(.int .i64 zm.fLatency.fD),(.func (.func 32) #[] #[(.pointer (some z2H)),(.pointer (some z2I))]),(.slice z2J z2v.length z2K)],fz []]) .h1); exact w_slices_ContainsFunc_api_Curve_api_Curve (Z:=_) (zbU:=z2w) (zbV:=z2x) (z9R:=67) (zbW:=[]) (z9c:=z1R) (zbT:=(fun (y0 : List z1)=>m_calculus_search_check_1 y0)) (r:=zke) w pz ((zoY.mono (Zle.left _ _)).weak (fun _ _ h=>p39_mono (Zle.left _ _) h)) Try.call67 (fun w' hz' y0 ga0 gc0 r gh0 hr=>w_calculus_search_check_1 (Z:=_) (zbQ:=ga0) (zbR:=gc0) (z9b:=y0) (r:=r) w' hz' gh0 hr) zug) ?_
   refine WL.a (d:=19) rfl rfl rfl (q_pickF rfl rfl) ?_
   exact WL.cutEnd () trivial (.cons rfl (.cons (zr zfa) .nil)) (.cons .here (.cons .here .nil))
 ·skip
  refine WL.a (d:=20) rfl rfl rfl (q_m rfl) ?_
  refine WL.cut0 True [(1,(.pointer (some ⟨z30,0,none⟩))),(25,(.bool zkg))] [stb z30 79 [(.slice z2w z1R.length z2x),(.int .i64 zm.fRate.fN),(.int .i64 zm.fRate.fD),(.int .i64 zm.fLatency.fN),(.int .i64 zm.fLatency.fD),(.func (.func 32) #[] #[(.pointer (some z2H)),(.pointer (some z2I))]),(.slice z2J z2v.length z2K)],fz []] 5 ?_ (fun _=>?_)
  ·rcases Bool.eq_false_or_eq_true zh2 with hb' | hb'
   ·have zp3:=hb'; clear hb'
    have zkm:=ite_t zp0 zp3
    replace zkm:=Option.some.inj zkm
    refine WL.pin (i:=20) rfl zp3 ?_
    refine WL.e rfl rfl rfl ?_
    refine WL.e rfl rfl rfl ?_
    refine WL.e rfl rfl rfl ?_
    refine WL.e rfl rfl rfl ?_
    refine WL.a (d:=25) rfl rfl rfl (q_pickT rfl rfl) ?_
    exact WL.cutEnd () trivial (.cons rfl (.cons (zr zkm) .nil)) (.cons .here (.cons .here .nil))
   ·have zp4:=hb'; clear hb'
    have zfb:=ite_f zp0 zp4
    obtain ⟨zkf,zuh,zfb⟩:=zd zfb
    replace zfb:=Option.some.inj zfb
    refine WL.pin (i:=20) rfl zp4 ?_
    refine WL.a (d:=21) rfl rfl rfl (q_fieldAddr fo_79_1 rfl rfl) ?_
    refine WL.a (d:=22) rfl rfl rfl (q_loadA (cs:=[(.int .i64 zm.fRate.fN),(.int .i64 zm.fRate.fD),(.int .i64 zm.fLatency.fN),(.int .i64 zm.fLatency.fD)]) aggT_43 rfl rfl (rd_sub (s:=4) .here rfl)) ?_
    refine WL.b (dd:=23) rfl rfl rfl (zk (l:=[.tmp 22]) Try.call47 (.cons rfl .nil)) (.nil : Sel [stb z30 79 [(.slice z2w z1R.length z2x),(.int .i64 zm.fRate.fN),(.int .i64 zm.fRate.fD),(.int .i64 zm.fLatency.fN),(.int .i64 zm.fLatency.fD),(.func (.func 32) #[] #[(.pointer (some z2H)),(.pointer (some z2I))]),(.slice z2J z2v.length z2K)],fz []] [] [stb z30 79 [(.slice z2w z1R.length z2x),(.int .i64 zm.fRate.fN),(.int .i64 zm.fRate.fD),(.int .i64 zm.fLatency.fN),(.int .i64 zm.fLatency.fD),(.func (.func 32) #[] #[(.pointer (some z2H)),(.pointer (some z2I))]),(.slice z2J z2v.length z2K)],fz []]) (fun w hw=>by have pz:=(hz.call2 hw (.nil : Sel [stb z30 79 [(.slice z2w z1R.length z2x),(.int .i64 zm.fRate.fN),(.int .i64 zm.fRate.fD),(.int .i64 zm.fLatency.fN),(.int .i64 zm.fLatency.fD),(.func (.func 32) #[] #[(.pointer (some z2H)),(.pointer (some z2I))]),(.slice z2J z2v.length z2K)],fz []] [] [stb z30 79 [(.slice z2w z1R.length z2x),(.int .i64 zm.fRate.fN),(.int .i64 zm.fRate.fD),(.int .i64 zm.fLatency.fN),(.int .i64 zm.fLatency.fD),(.func (.func 32) #[] #[(.pointer (some z2H)),(.pointer (some z2I))]),(.slice z2J z2v.length z2K)],fz []]) .h1); exact w_calculus_Valid (Z:=_)  (z11:=zm) (r:=zkf) w pz  zuh) ?_
    refine WL.a (d:=24) rfl rfl rfl (q_not rfl) ?_
    refine WL.a (d:=25) rfl rfl rfl (q_pickF rfl rfl) ?_
    exact WL.cutEnd () trivial (.cons rfl (.cons (zr zfb) .nil)) (.cons .here (.cons .here .nil))
  ·skip
   refine WL.nil ?_
   refine WX.a ?_
   refine WC.cond rfl (fun zkn=>?_) (fun zkn=>?_)
   ·replace h:=ite_t h zkn
    refine WC.b ?_
    refine WC.a ?_
    refine WL.a (d:=2) rfl rfl rfl (q_z rfl) ?_
    refine WL.nil ?_
    refine WX.a ?_
    refine WC.ret ?_
    refine WX.thenRet ?_
    obtain rfl:=Option.some.inj h
    refine WX.bpRet Try.results52 (.tmp rfl .nil) (fun w hw=>?_)
    exact ⟨[],ret1 rfl,trivial,hw.sub (.cons .h1 .nil)⟩
   ·replace h:=ite_f h zkn
    refine WC.skip ?_
    refine WX.a ?_
    refine WC.b ?_
    refine WC.a ?_
    refine WL.new (dd:=3) rfl rfl rfl (e_alloc (cs:=[(.int .i64 0)]) zeroT_98 rfl) ?_
    intro z3K _
    refine WL.nil ?_
    refine WX.a ?_
    refine WC.b ?_
    obtain ⟨z9m,zui,h⟩:=zd h
    refine WC.a ?_
    refine WL.b (dd:=26) rfl rfl rfl (zk (l:=[]) Try.call51 .nil) (.nil : Sel [stb z3K 98 [(.int .i64 0)],stb z30 79 [(.slice z2w z1R.length z2x),(.int .i64 zm.fRate.fN),(.int .i64 zm.fRate.fD),(.int .i64 zm.fLatency.fN),(.int .i64 zm.fLatency.fD),(.func (.func 32) #[] #[(.pointer (some z2H)),(.pointer (some z2I))]),(.slice z2J z2v.length z2K)],fz []] [] [stb z3K 98 [(.int .i64 0)],stb z30 79 [(.slice z2w z1R.length z2x),(.int .i64 zm.fRate.fN),(.int .i64 zm.fRate.fD),(.int .i64 zm.fLatency.fN),(.int .i64 zm.fLatency.fD),(.func (.func 32) #[] #[(.pointer (some z2H)),(.pointer (some z2I))]),(.slice z2J z2v.length z2K)],fz []]) (fun w hw=>by have pz:=(hz.call2 hw (.nil : Sel [stb z3K 98 [(.int .i64 0)],stb z30 79 [(.slice z2w z1R.length z2x),(.int .i64 zm.fRate.fN),(.int .i64 zm.fRate.fD),(.int .i64 zm.fLatency.fN),(.int .i64 zm.fLatency.fD),(.func (.func 32) #[] #[(.pointer (some z2H)),(.pointer (some z2I))]),(.slice z2J z2v.length z2K)],fz []] [] [stb z3K 98 [(.int .i64 0)],stb z30 79 [(.slice z2w z1R.length z2x),(.int .i64 zm.fRate.fN),(.int .i64 zm.fRate.fD),(.int .i64 zm.fLatency.fN),(.int .i64 zm.fLatency.fD),(.func (.func 32) #[] #[(.pointer (some z2H)),(.pointer (some z2I))]),(.slice z2J z2v.length z2K)],fz []]) .h2); exact w_calculus_zero (Z:=_)   (r:=z9m) w pz  zui) ?_
    refine WL.new (dd:=4) rfl rfl rfl (e_alloc (cs:=[(.int .i64 0),(.int .i64 0)]) zeroT_30 rfl) ?_
    intro z4S _
    refine WL.eff0 rfl rfl (e_store (vs:=[(.int .i64 z9m.fN),(.int .i64 z9m.fD)]) (ds:=[(.int .i64 z9m.fN),(.int .i64 z9m.fD)]) sizT_30 rfl rfl rfl rfl (oc_cons rfl (oc_cons rfl oc_nil)) .here (Nat.le_of_ble_eq_true rfl) rfl) ?_
    refine WL.nil ?_
    refine WX.a ?_
    obtain ⟨zae,zuj,h⟩:=jp3_elim h
    refine WC.seqMid4 (fun (z7g : Int) (z7h : Int) (z7i : Int) (z8j : Zp)=>(zae z7g z7h z7i = some r) ∧ (Zle (Z ++ []) (Z ++ z8j))) (fun (z7g : Int) (z7h : Int) (z7i : Int) (z8j : Zp)=>[(1,(.pointer (some ⟨z30,0,none⟩))),(3,(.pointer (some ⟨z3K,0,none⟩))),(4,(.pointer (some ⟨z4S,0,none⟩)))]) (fun (z7g : Int) (z7h : Int) (z7i : Int) (z8j : Zp)=>[fz z8j,stb z30 79 [(.slice z2w z1R.length z2x),(.int .i64 zm.fRate.fN),(.int .i64 zm.fRate.fD),(.int .i64 zm.fLatency.fN),(.int .i64 zm.fLatency.fD),(.func (.func 32) #[] #[(.pointer (some z2H)),(.pointer (some z2I))]),(.slice z2J z2v.length z2K)],stb z3K 98 [(.int .i64 z7g)],stb z4S 30 [(.int .i64 z7h),(.int .i64 z7i)]]) ?_ ?_
    ·skip
     refine WC.b ?_
     refine WC.a ?_
     refine WL.a (d:=27) rfl rfl rfl (q_fieldAddr fo_79_0 rfl rfl) ?_
     refine WL.a (d:=28) rfl rfl rfl (q_load1 oneT_26 rfl (rd_stb .h2 rfl)) ?_
     refine WL.a (d:=29) rfl rfl rfl (q_len Try.underlying26 rfl) ?_
     refine WL.a (d:=30) rfl rfl rfl (q_m rfl) ?_
     refine WL.nil ?_
     refine WX.a ?_
     refine WC.block ?_
     refine WC.loop6 (fun (zdM : Nat) (z65 : Int) (z42 : Int) (z3P : Int) (z3Q : Int) (z4m : Zp)=>(m_calculus_search_check_L2 z1R zae zdM z65 z42 z3P z3Q = some r) ∧ (Zle (Z ++ []) (Z ++ z4m))) (fun (zdM : Nat) (z65 : Int) (z42 : Int) (z3P : Int) (z3Q : Int) (z4m : Zp)=>[(1,(.pointer (some ⟨z30,0,none⟩))),(3,(.pointer (some ⟨z3K,0,none⟩))),(4,(.pointer (some ⟨z4S,0,none⟩))),(28,(.slice z2w z1R.length z2x)),(29,(.int .i64 ((z1R.length : Nat) : Int))),(30,(.int .i64 z65))]) (fun (zdM : Nat) (z65 : Int) (z42 : Int) (z3P : Int) (z3Q : Int) (z4m : Zp)=>[fz z4m,stb z30 79 [(.slice z2w z1R.length z2x),(.int .i64 zm.fRate.fN),(.int .i64 zm.fRate.fD),(.int .i64 zm.fLatency.fN),(.int .i64 zm.fLatency.fD),(.func (.func 32) #[] #[(.pointer (some z2H)),(.pointer (some z2I))]),(.slice z2J z2v.length z2K)],stb z3K 98 [(.int .i64 z42)],stb z4S 30 [(.int .i64 z3P),(.int .i64 z3Q)]]) (fun (zdM : Nat) (z65 : Int) (z42 : Int) (z3P : Int) (z3Q : Int) (z4m : Zp)=>zdM) ⟨FUEL,0,0,z9m.fN,z9m.fD,[]⟩ ⟨h,(Zle.refl _)⟩ (.cons rfl (.cons rfl (.cons rfl (.cons rfl (.cons rfl (.cons rfl .nil)))))) (.cons .h3 (.cons .h2 (.cons .h1 (.cons .here .nil)))) ?_
     rintro zdM z65 z42 z3P z3Q z4m ⟨h,zh3⟩
     obtain ⟨zkd,rfl⟩:=m_calculus_search_check_L2_fuel h
     rw [m_calculus_search_check_L2] at h
     refine WC.b ?_
     refine WC.a ?_
     refine WL.a (d:=31) rfl rfl rfl (q_lss rfl rfl) ?_
     refine WL.nil ?_
     refine WX.a ?_
     refine WC.b ?_
     refine WC.cond rfl (fun zko=>?_) (fun zko=>?_)
     ·replace h:=ite_t h zko
      refine WC.skip ?_
      refine WX.a ?_
      refine WC.b ?_
      refine WC.block ?_
      refine WC.b ?_
      obtain ⟨zuk,h⟩:=chk_elim h
      refine WC.a ?_
      refine WL.znth (dd:=32) rfl rfl (Z:=(Z ++ z4m)) (Pr:=(p39 (Z ++ z4m))) elT_26 rfl rfl ((zoY.mono ((Zle.left _ _).trans zh3)).weak (fun _ _ h=>p39_mono ((Zle.left _ _).trans zh3) h)) zuk ?_
      rintro zAc zAd zul zAe ⟨zp5,zp6,rfl,zp7⟩
      refine WL.a (d:=33) rfl rfl rfl (q_load1 oneT_39 rfl (rd_z (hz.pv2 .here) zul rfl)) ?_
      refine WL.a (d:=6) rfl rfl rfl (q_z rfl) ?_
      refine WL.nil ?_
      refine WX.a ?_
      refine WC.b ?_
      refine WC.b ?_
      obtain ⟨z4D,zum,h⟩:=zd h
      refine WC.a ?_
      refine WL.a (d:=35) rfl rfl rfl (q_m rfl) ?_
      refine WL.enter3 (dd:=36) rfl rfl rfl (zk (l:=[.tmp 35]) Try.call68 (.cons rfl .nil)) (.nil : Sel [fz z4m,stb z30 79 [(.slice z2w z1R.length z2x),(.int .i64 zm.fRate.fN),(.int .i64 zm.fRate.fD),(.int .i64 zm.fLatency.fN),(.int .i64 zm.fLatency.fD),(.func (.func 32) #[] #[(.pointer (some z2H)),(.pointer (some z2I))]),(.slice z2J z2v.length z2K)],stb z3K 98 [(.int .i64 z42)],stb z4S 30 [(.int .i64 z3P),(.int .i64 z3Q)]] [] [fz z4m,stb z30 79 [(.slice z2w z1R.length z2x),(.int .i64 zm.fRate.fN),(.int .i64 zm.fRate.fD),(.int .i64 zm.fLatency.fN),(.int .i64 zm.fLatency.fD),(.func (.func 32) #[] #[(.pointer (some z2H)),(.pointer (some z2I))]),(.slice z2J z2v.length z2K)],stb z3K 98 [(.int .i64 z42)],stb z4S 30 [(.int .i64 z3P),(.int .i64 z3Q)]]) (fun w hw=>by have pz:=(hz.call2 hw (.nil : Sel [fz z4m,stb z30 79 [(.slice z2w z1R.length z2x),(.int .i64 zm.fRate.fN),(.int .i64 zm.fRate.fD),(.int .i64 zm.fLatency.fN),(.int .i64 zm.fLatency.fD),(.func (.func 32) #[] #[(.pointer (some z2H)),(.pointer (some z2I))]),(.slice z2J z2v.length z2K)],stb z3K 98 [(.int .i64 z42)],stb z4S 30 [(.int .i64 z3P),(.int .i64 z3Q)]] [] [fz z4m,stb z30 79 [(.slice z2w z1R.length z2x),(.int .i64 zm.fRate.fN),(.int .i64 zm.fRate.fD),(.int .i64 zm.fLatency.fN),(.int .i64 zm.fLatency.fD),(.func (.func 32) #[] #[(.pointer (some z2H)),(.pointer (some z2I))]),(.slice z2J z2v.length z2K)],stb z3K 98 [(.int .i64 z42)],stb z4S 30 [(.int .i64 z3P),(.int .i64 z3Q)]]) .here); exact w_curve_Breaks (Z:=_) (z9j:=zp5) (z9k:=zp6) (z7B:=(nth z1R z65)) (r:=z4D) w pz zp7 zum) ?_
      rintro z8k z9n z9o _
      refine WL.merge .here .h1 ?_
      refine WL.a (d:=34) rfl rfl rfl (q_m rfl) ?_
      refine WL.a (d:=37) rfl rfl rfl (q_extract rfl rfl) ?_
      refine WL.a (d:=38) rfl rfl rfl (q_extract rfl rfl) ?_
      refine WL.a (d:=7) rfl rfl rfl (q_z rfl) ?_
      refine WL.a (d:=8) rfl rfl rfl (q_z rfl) ?_
      refine WL.nil ?_
      refine WX.a ?_
      refine WC.b ?_
      refine WC.a ?_
      refine WL.a (d:=39) rfl rfl rfl (q_m rfl) ?_
      refine WL.a (d:=40) rfl rfl rfl (q_neq rfl rfl) ?_
      refine WL.nil ?_
      refine WX.a ?_
      refine WC.cond rfl (fun zkp=>?_) (fun zkp=>?_)
      ·replace h:=ite_t h zkp
       refine WC.b ?_
       refine WC.a ?_
       refine WL.a (d:=41) rfl rfl rfl (q_m rfl) ?_
       refine WL.a (d:=2) rfl rfl rfl (q_z rfl) ?_
       refine WL.nil ?_
       refine WX.a ?_
       refine WC.ret ?_
       refine WX.thenRet ?_
       refine WX.blockRet ?_
       refine WX.thenRet ?_
       refine WX.thenRet ?_
       refine WX.blockRet ?_
       refine WX.thenRet ?_
       obtain rfl:=Option.some.inj h
       refine WX.bpRet Try.results52 (.tmp rfl .nil) (fun w hw=>?_)
       exact ⟨(z4m ++ z8k),ret1 rfl,trivial,hw.sub (.cons .here .nil)⟩
      ·replace h:=ite_f h zkp
       refine WC.skip ?_
       refine WX.a ?_
       refine WC.b ?_
       obtain ⟨z5e,zun,h⟩:=zd h
       refine WC.a ?_
       refine WL.a (d:=43) rfl rfl rfl (q_m rfl) ?_
       refine WL.b (dd:=44) rfl rfl rfl (zk (l:=[.tmp 43]) Try.call21 (.cons rfl .nil)) (.nil : Sel [fz (z4m ++ z8k),row (.slice z9n z4D.1.length z9o) 30 2 (z4D.1.flatMap e30),stb z30 79 [(.slice z2w z1R.length z2x),(.int .i64 zm.fRate.fN),(.int .i64 zm.fRate.fD),(.int .i64 zm.fLatency.fN),(.int .i64 zm.fLatency.fD),(.func (.func 32) #[] #[(.pointer (some z2H)),(.pointer (some z2I))]),(.slice z2J z2v.length z2K)],stb z3K 98 [(.int .i64 z42)],stb z4S 30 [(.int .i64 z3P),(.int .i64 z3Q)]] [] [fz (z4m ++ z8k),row (.slice z9n z4D.1.length z9o) 30 2 (z4D.1.flatMap e30),stb z30 79 [(.slice z2w z1R.length z2x),(.int .i64 zm.fRate.fN),(.int .i64 zm.fRate.fD),(.int .i64 zm.fLatency.fN),(.int .i64 zm.fLatency.fD),(.func (.func 32) #[] #[(.pointer (some z2H)),(.pointer (some z2I))]),(.slice z2J z2v.length z2K)],stb z3K 98 [(.int .i64 z42)],stb z4S 30 [(.int .i64 z3P),(.int .i64 z3Q)]]) (fun w hw=>by have pz:=(hz.call2 hw (.nil : Sel [fz (z4m ++ z8k),row (.slice z9n z4D.1.length z9o) 30 2 (z4D.1.flatMap e30),stb z30 79 [(.slice z2w z1R.length z2x),(.int .i64 zm.fRate.fN),(.int .i64 zm.fRate.fD),(.int .i64 zm.fLatency.fN),(.int .i64 zm.fLatency.fD),(.func (.func 32) #[] #[(.pointer (some z2H)),(.pointer (some z2I))]),(.slice z2J z2v.length z2K)],stb z3K 98 [(.int .i64 z42)],stb z4S 30 [(.int .i64 z3P),(.int .i64 z3Q)]] [] [fz (z4m ++ z8k),row (.slice z9n z4D.1.length z9o) 30 2 (z4D.1.flatMap e30),stb z30 79 [(.slice z2w z1R.length z2x),(.int .i64 zm.fRate.fN),(.int .i64 zm.fRate.fD),(.int .i64 zm.fLatency.fN),(.int .i64 zm.fLatency.fD),(.func (.func 32) #[] #[(.pointer (some z2H)),(.pointer (some z2I))]),(.slice z2J z2v.length z2K)],stb z3K 98 [(.int .i64 z42)],stb z4S 30 [(.int .i64 z3P),(.int .i64 z3Q)]]) .here); exact w_curve_Rate (Z:=_) (zb2:=zp5) (zb3:=zp6) (z8h:=(nth z1R z65)) (r:=z5e) w pz (zp7.mono ((Zle.left _ _).trans (Zle.assoc _ _ _))) zun) ?_
       refine WL.a (d:=42) rfl rfl rfl (q_m rfl) ?_
       refine WL.a (d:=45) rfl rfl rfl (q_extract rfl rfl) ?_
       refine WL.a (d:=46) rfl rfl rfl (q_extract rfl rfl) ?_
       refine WL.new (dd:=9) rfl rfl rfl (e_alloc (cs:=[(.int .i64 0),(.int .i64 0)]) zeroT_30 rfl) ?_
       intro zdN _
       refine WL.eff0 rfl rfl (e_store (vs:=[(.int .i64 z5e.1.fN),(.int .i64 z5e.1.fD)]) (ds:=[(.int .i64 z5e.1.fN),(.int .i64 z5e.1.fD)]) sizT_30 rfl rfl rfl rfl (oc_cons rfl (oc_cons rfl oc_nil)) .here (Nat.le_of_ble_eq_true rfl) rfl) ?_
       refine WL.a (d:=10) rfl rfl rfl (q_z rfl) ?_
       refine WL.nil ?_
       refine WX.a ?_
       obtain ⟨z8i,zuo,h⟩:=zd h
       refine WC.a ?_
       refine WL.a (d:=47) rfl rfl rfl (q_loadA (cs:=[(.int .i64 z3P),(.int .i64 z3Q)]) aggT_30 rfl rfl (rd_all .h5)) ?_
       refine WL.a (d:=48) rfl rfl rfl (q_loadA (cs:=[(.int .i64 z5e.1.fN),(.int .i64 z5e.1.fD)]) aggT_30 rfl rfl (rd_all .here)) ?_
       refine WL.b (dd:=49) rfl rfl rfl (zk (l:=[.tmp 3,.func 19,.tmp 47,.tmp 48]) Try.call33 (.cons rfl (.cons rfl (.cons rfl (.cons rfl .nil))))) ((.cons .h4 .nil) : Sel [stb zdN 30 [(.int .i64 z5e.1.fN),(.int .i64 z5e.1.fD)],fz (z4m ++ z8k),row (.slice z9n z4D.1.length z9o) 30 2 (z4D.1.flatMap e30),stb z30 79 [(.slice z2w z1R.length z2x),(.int .i64 zm.fRate.fN),(.int .i64 zm.fRate.fD),(.int .i64 zm.fLatency.fN),(.int .i64 zm.fLatency.fD),(.func (.func 32) #[] #[(.pointer (some z2H)),(.pointer (some z2I))]),(.slice z2J z2v.length z2K)],stb z3K 98 [(.int .i64 z42)],stb z4S 30 [(.int .i64 z3P),(.int .i64 z3Q)]] [stb z3K 98 [(.int .i64 z42)]] [stb zdN 30 [(.int .i64 z5e.1.fN),(.int .i64 z5e.1.fD)],fz (z4m ++ z8k),row (.slice z9n z4D.1.length z9o) 30 2 (z4D.1.flatMap e30),stb z30 79 [(.slice z2w z1R.length z2x),(.int .i64 zm.fRate.fN),(.int .i64 zm.fRate.fD),(.int .i64 zm.fLatency.fN),(.int .i64 zm.fLatency.fD),(.func (.func 32) #[] #[(.pointer (some z2H)),(.pointer (some z2I))]),(.slice z2J z2v.length z2K)],stb z4S 30 [(.int .i64 z3P),(.int .i64 z3Q)]]) (fun w hw=>by have pz:=(hz.call2 hw ((.cons .h4 .nil) : Sel [stb zdN 30 [(.int .i64 z5e.1.fN),(.int .i64 z5e.1.fD)],fz (z4m ++ z8k),row (.slice z9n z4D.1.length z9o) 30 2 (z4D.1.flatMap e30),stb z30 79 [(.slice z2w z1R.length z2x),(.int .i64 zm.fRate.fN),(.int .i64 zm.fRate.fD),(.int .i64 zm.fLatency.fN),(.int .i64 zm.fLatency.fD),(.func (.func 32) #[] #[(.pointer (some z2H)),(.pointer (some z2I))]),(.slice z2J z2v.length z2K)],stb z3K 98 [(.int .i64 z42)],stb z4S 30 [(.int .i64 z3P),(.int .i64 z3Q)]] [stb z3K 98 [(.int .i64 z42)]] [stb zdN 30 [(.int .i64 z5e.1.fN),(.int .i64 z5e.1.fD)],fz (z4m ++ z8k),row (.slice z9n z4D.1.length z9o) 30 2 (z4D.1.flatMap e30),stb z30 79 [(.slice z2w z1R.length z2x),(.int .i64 zm.fRate.fN),(.int .i64 zm.fRate.fD),(.int .i64 zm.fLatency.fN),(.int .i64 zm.fLatency.fD),(.func (.func 32) #[] #[(.pointer (some z2H)),(.pointer (some z2I))]),(.slice z2J z2v.length z2K)],stb z4S 30 [(.int .i64 z3P),(.int .i64 z3Q)]]) .h1); exact w_calculus_calc_do (Z:=_) (z4h:=z3K) (z75:=19) (z7D:=[]) (z5d:=(⟨z42⟩ : z2j)) (z7V:=(fun (y0 : z2) (y1 : z2)=>m_rat_Add y0 y1)) (z2Y:=(⟨z3P,z3Q⟩ : z2)) (z2Z:=z5e.1) (r:=z8i) w pz Try.call19 (fun w' hz' y0 y1  r  hr=>w_rat_Add (Z:=_)  (z3I:=y0) (z3J:=y1) (r:=r) w' hz'  hr) zuo (hw.owns ((.cons .h4 .nil) : Sel [stb zdN 30 [(.int .i64 z5e.1.fN),(.int .i64 z5e.1.fD)],fz (z4m ++ z8k),row (.slice z9n z4D.1.length z9o) 30 2 (z4D.1.flatMap e30),stb z30 79 [(.slice z2w z1R.length z2x),(.int .i64 zm.fRate.fN),(.int .i64 zm.fRate.fD),(.int .i64 zm.fLatency.fN),(.int .i64 zm.fLatency.fD),(.func (.func 32) #[] #[(.pointer (some z2H)),(.pointer (some z2I))]),(.slice z2J z2v.length z2K)],stb z3K 98 [(.int .i64 z42)],stb z4S 30 [(.int .i64 z3P),(.int .i64 z3Q)]] [stb z3K 98 [(.int .i64 z42)]] [stb zdN 30 [(.int .i64 z5e.1.fN),(.int .i64 z5e.1.fD)],fz (z4m ++ z8k),row (.slice z9n z4D.1.length z9o) 30 2 (z4D.1.flatMap e30),stb z30 79 [(.slice z2w z1R.length z2x),(.int .i64 zm.fRate.fN),(.int .i64 zm.fRate.fD),(.int .i64 zm.fLatency.fN),(.int .i64 zm.fLatency.fD),(.func (.func 32) #[] #[(.pointer (some z2H)),(.pointer (some z2I))]),(.slice z2J z2v.length z2K)],stb z4S 30 [(.int .i64 z3P),(.int .i64 z3Q)]]))) ?_
       refine WL.eff0 rfl rfl (e_store (vs:=[(.int .i64 z8i.1.fN),(.int .i64 z8i.1.fD)]) (ds:=[(.int .i64 z8i.1.fN),(.int .i64 z8i.1.fD)]) sizT_30 rfl rfl rfl rfl (oc_cons rfl (oc_cons rfl oc_nil)) .h5 (Nat.le_of_ble_eq_true rfl) rfl) ?_
       refine WL.nil ?_
       refine WX.blockNormal ?_
       refine WX.a ?_
       refine WC.a ?_
       refine WL.a (d:=50) rfl rfl rfl (q_add rfl rfl rfl) ?_
       refine WL.a (d:=30) rfl rfl rfl (q_m rfl) ?_
       refine WL.nil ?_
       exact WX.round (G:=Nat × Int × Int × Int × Int × Zp) ⟨zkd,(i64 (z65 + 1)),z8i.2.fE,z8i.1.fN,z8i.1.fD,(z4m ++ z8k)⟩ ⟨h,(zh3.trans ((Zle.left _ _).trans (Zle.assoc _ _ _)))⟩ (Nat.lt_succ_self _) (.cons rfl (.cons rfl (.cons rfl (.cons rfl (.cons rfl (.cons rfl .nil)))))) (.cons .h3 (.cons .h4 (.cons .h1 (.cons .here .nil))))
     ·replace h:=ite_f h zko
      refine WC.exit ?_
      refine WX.thenExit ?_
      refine WX.thenExit ?_
      refine WX.blockHit ?_
      exact WX.mid (G:=Int × Int × Int × Zp) ⟨z42,z3P,z3Q,z4m⟩ ⟨h,zh3⟩ (.cons rfl (.cons rfl (.cons rfl .nil))) (.cons .here (.cons .here (.cons .here (.cons .here .nil))))
    ·rintro z7g z7h z7i z8j ⟨h,zAf⟩
     replace h:=(zuj z7g z7h z7i).symm.trans h
     refine WC.b ?_
     refine WC.b ?_
     obtain ⟨zki,zp8,h⟩:=zd h
     refine WC.a ?_
     refine WL.a (d:=51) rfl rfl rfl (q_fieldAddr fo_98_0 rfl rfl) ?_
     refine WL.a (d:=52) rfl rfl rfl (q_load1 oneT_31 rfl (rd_stb .h2 rfl)) ?_
     refine WL.a (d:=53) rfl rfl rfl (q_eql rfl rfl) ?_
     refine WL.a (d:=54) rfl rfl rfl (q_m rfl) ?_
     refine WL.cut0 True [(3,(.pointer (some ⟨z3K,0,none⟩))),(61,(.bool zki))] [fz z8j,stb z30 79 [(.slice z2w z1R.length z2x),(.int .i64 zm.fRate.fN),(.int .i64 zm.fRate.fD),(.int .i64 zm.fLatency.fN),(.int .i64 zm.fLatency.fD),(.func (.func 32) #[] #[(.pointer (some z2H)),(.pointer (some z2I))]),(.slice z2J z2v.length z2K)],stb z3K 98 [(.int .i64 z7g)],stb z4S 30 [(.int .i64 z7h),(.int .i64 z7i)]] 7 ?_ (fun _=>?_)
     ·rcases Bool.eq_false_or_eq_true (decide (z7g = 0)) with hb' | hb'
      ·have zp9:=hb'; clear hb'
       have zfc:=ite_t zp8 zp9
       obtain ⟨zkh,zup,zfc⟩:=zd zfc
       replace zfc:=Option.some.inj zfc
       refine WL.pin (i:=54) rfl zp9 ?_
       refine WL.a (d:=55) rfl rfl rfl (q_loadA (cs:=[(.int .i64 z7h),(.int .i64 z7i)]) aggT_30 rfl rfl (rd_all .h3)) ?_
       refine WL.a (d:=56) rfl rfl rfl (q_fieldAddr fo_79_1 rfl rfl) ?_
       refine WL.a (d:=57) rfl rfl rfl (q_fieldAddr fo_43_0 rfl rfl) ?_
       refine WL.a (d:=58) rfl rfl rfl (q_loadA (cs:=[(.int .i64 zm.fRate.fN),(.int .i64 zm.fRate.fD)]) aggT_30 rfl rfl (rd_sub (s:=2) .h1 rfl)) ?_
       refine WL.b (dd:=59) rfl rfl rfl (zk (l:=[.tmp 55,.tmp 58]) Try.call18 (.cons rfl (.cons rfl .nil))) (.nil : Sel [fz z8j,stb z30 79 [(.slice z2w z1R.length z2x),(.int .i64 zm.fRate.fN),(.int .i64 zm.fRate.fD),(.int .i64 zm.fLatency.fN),(.int .i64 zm.fLatency.fD),(.func (.func 32) #[] #[(.pointer (some z2H)),(.pointer (some z2I))]),(.slice z2J z2v.length z2K)],stb z3K 98 [(.int .i64 z7g)],stb z4S 30 [(.int .i64 z7h),(.int .i64 z7i)]] [] [fz z8j,stb z30 79 [(.slice z2w z1R.length z2x),(.int .i64 zm.fRate.fN),(.int .i64 zm.fRate.fD),(.int .i64 zm.fLatency.fN),(.int .i64 zm.fLatency.fD),(.func (.func 32) #[] #[(.pointer (some z2H)),(.pointer (some z2I))]),(.slice z2J z2v.length z2K)],stb z3K 98 [(.int .i64 z7g)],stb z4S 30 [(.int .i64 z7h),(.int .i64 z7i)]]) (fun w hw=>by have pz:=(hz.call2 hw (.nil : Sel [fz z8j,stb z30 79 [(.slice z2w z1R.length z2x),(.int .i64 zm.fRate.fN),(.int .i64 zm.fRate.fD),(.int .i64 zm.fLatency.fN),(.int .i64 zm.fLatency.fD),(.func (.func 32) #[] #[(.pointer (some z2H)),(.pointer (some z2I))]),(.slice z2J z2v.length z2K)],stb z3K 98 [(.int .i64 z7g)],stb z4S 30 [(.int .i64 z7h),(.int .i64 z7i)]] [] [fz z8j,stb z30 79 [(.slice z2w z1R.length z2x),(.int .i64 zm.fRate.fN),(.int .i64 zm.fRate.fD),(.int .i64 zm.fLatency.fN),(.int .i64 zm.fLatency.fD),(.func (.func 32) #[] #[(.pointer (some z2H)),(.pointer (some z2I))]),(.slice z2J z2v.length z2K)],stb z3K 98 [(.int .i64 z7g)],stb z4S 30 [(.int .i64 z7h),(.int .i64 z7i)]]) .here); exact w_rat_Cmp (Z:=_)  (z2d:=(⟨z7h,z7i⟩ : z2)) (z2e:=zm.fRate) (r:=zkh) w pz  zup) ?_
       refine WL.a (d:=60) rfl rfl rfl (q_gtr rfl rfl) ?_
       refine WL.a (d:=61) rfl rfl rfl (q_pickT rfl rfl) ?_
       exact WL.cutEnd () trivial (.cons rfl (.cons (zr zfc) .nil)) (.cons .here (.cons .here (.cons .here (.cons .here .nil))))
      ·have zpa:=hb'; clear hb'
       have zkq:=ite_f zp8 zpa
       replace zkq:=Option.some.inj zkq
       refine WL.pin (i:=54) rfl zpa ?_
       refine WL.e rfl rfl rfl ?_
       refine WL.e rfl rfl rfl ?_
       refine WL.e rfl rfl rfl ?_
       refine WL.e rfl rfl rfl ?_
       refine WL.e rfl rfl rfl ?_
       refine WL.e rfl rfl rfl ?_
       refine WL.a (d:=61) rfl rfl rfl (q_pickF rfl rfl) ?_
       exact WL.cutEnd () trivial (.cons rfl (.cons (zr zkq) .nil)) (.cons .here (.cons .here (.cons .here (.cons .here .nil))))
     ·skip
      refine WL.nil ?_
      refine WX.a ?_
      refine WC.cond rfl (fun zkr=>?_) (fun zkr=>?_)
      ·replace h:=ite_t h zkr
       refine WC.b ?_
       refine WC.a ?_
       refine WL.a (d:=2) rfl rfl rfl (q_z rfl) ?_
       refine WL.nil ?_
       refine WX.a ?_
       refine WC.ret ?_
       refine WX.thenRet ?_
       obtain rfl:=Option.some.inj h
       refine WX.bpRet Try.results52 (.tmp rfl .nil) (fun w hw=>?_)
       exact ⟨z8j,ret1 rfl,trivial,hw.sub (.cons .here .nil)⟩
      ·replace h:=ite_f h zkr
       refine WC.skip ?_
       refine WX.a ?_
       refine WC.b ?_
       refine WC.a ?_
       refine WL.a (d:=62) rfl rfl rfl (q_fieldAddr fo_98_0 rfl rfl) ?_
       refine WL.a (d:=63) rfl rfl rfl (q_load1 oneT_31 rfl (rd_stb .h2 rfl)) ?_
       refine WL.a (d:=2) rfl rfl rfl (q_z rfl) ?_
       refine WL.nil ?_
       refine WX.a ?_
       refine WC.ret ?_
       obtain rfl:=Option.some.inj h
       refine WX.bpRet Try.results52 (.tmp rfl .nil) (fun w hw=>?_)
       exact ⟨z8j,ret1 rfl,trivial,hw.sub (.cons .here .nil)⟩
def m_calculus_search_points (zaf : List (List z1)) (z4T : Sapi_Server) (zfd : List (List z1)) (zcl : Sapi_Server) (zag : List z2) : Option (Int × Int × Int × Int) :=
 some (z4T.fRate.fN,z4T.fRate.fD,z4T.fLatency.fN,z4T.fLatency.fD)
set_option maxRecDepth 20000 in
theorem w_calculus_search_points (Z : Zp)  (zcm : Option Addr) (zcn : Nat) (zco : Addr) (zks : Option Addr) (zkt : Nat) (zcp : Addr) (zcq : Option Addr) (zcr : Nat) (zaf : List (List z1)) (z4T : Sapi_Server) (zfd : List (List z1)) (zcl : Sapi_Server) (zag : List z2) (r : Int × Int × Int × Int) (w₀ : World) (hz : PZ [] w₀ Z)
  (zAg : ZS Z 1 (p39 Z) zcm zcn zaf)
  (zAh : ZS Z 1 (p39 Z) zks zkt zfd)
  (zAi : ZC Z zco [(.slice zks zfd.length zkt)])
  (zAj : ZC Z zcp [(.int .i64 zcl.fRate.fN),(.int .i64 zcl.fRate.fD),(.int .i64 zcl.fLatency.fN),(.int .i64 zcl.fLatency.fD)])
  (zAk : ZS Z 2 (fun r x=>r = e30 x) zcq zcr zag)
  (h : m_calculus_search_points zaf z4T zfd zcl zag = some r) :
  Calls Try.prog 53 #[(.agg #[(.slice zcm zaf.length zcn),(.int .i64 z4T.fRate.fN),(.int .i64 z4T.fRate.fD),(.int .i64 z4T.fLatency.fN),(.int .i64 z4T.fLatency.fD),(.func (.func 32) #[] #[(.pointer (some zco)),(.pointer (some zcp))]),(.slice zcq zag.length zcr)])] w₀ fun e w'=>∃ zpb : Nat,e = .returned (.func (.func 69) #[] #[(.pointer (some ⟨zpb,0,none⟩))]) ∧ True ∧ Hp [] w₀ w' [stb zpb 79 [(.slice zcm zaf.length zcn),(.int .i64 r.1),(.int .i64 r.2.1),(.int .i64 r.2.2.1),(.int .i64 r.2.2.2),(.func (.func 32) #[] #[(.pointer (some zco)),(.pointer (some zcp))]),(.slice zcq zag.length zcr)]]:=by
 unfold m_calculus_search_points at h
 refine Calls.ofWC (vs:=[(.agg #[(.slice zcm zaf.length zcn),(.int .i64 z4T.fRate.fN),(.int .i64 z4T.fRate.fD),(.int .i64 z4T.fLatency.fN),(.int .i64 z4T.fLatency.fD),(.func (.func 32) #[] #[(.pointer (some zco)),(.pointer (some zcp))]),(.slice zcq zag.length zcr)])]) (pre:=[]) (env:=[(0,(.agg #[(.slice zcm zaf.length zcn),(.int .i64 z4T.fRate.fN),(.int .i64 z4T.fRate.fD),(.int .i64 z4T.fLatency.fN),(.int .i64 z4T.fLatency.fD),(.func (.func 32) #[] #[(.pointer (some zco)),(.pointer (some zcp))]),(.slice zcq zag.length zcr)]))]) Try.func53 rfl Try.ntmps53 rfl (Hp.nil w₀ _) rfl ?_
 refine WC.b ?_
 refine WC.a ?_
 refine WL.new (dd:=1) rfl rfl rfl (e_box (cs:=[(.slice zcm zaf.length zcn),(.int .i64 z4T.fRate.fN),(.int .i64 z4T.fRate.fD),(.int .i64 z4T.fLatency.fN),(.int .i64 z4T.fLatency.fD),(.func (.func 32) #[] #[(.pointer (some zco)),(.pointer (some zcp))]),(.slice zcq zag.length zcr)]) rfl rfl) ?_
 intro zuq _
 refine WL.a (d:=2) rfl rfl rfl (q_z rfl) ?_
 refine WL.nil ?_
 refine WX.a ?_
 refine WC.b ?_
 refine WC.a ?_
 refine WL.a (d:=3) rfl rfl rfl (q_makeFunc (Eos.caps (l:=[.tmp 1]) (.cons rfl .nil))) ?_
 refine WL.a (d:=2) rfl rfl rfl (q_z rfl) ?_
 refine WL.nil ?_
 refine WX.a ?_
 refine WC.ret ?_
 obtain rfl:=Option.some.inj h
 refine WX.bpRet Try.results53 (.tmp rfl .nil) (fun w hw=>?_)
 exact ⟨zuq,ret1 rfl,trivial,hw.sub (.cons .here .nil)⟩
def m_rat_Floor (z31 : z2) : Option Int :=
 (m_rat_Valid z31).bind fun zku=>if !zku then some 0 else chk ((z31.fD : Int) ≠ 0) (jp1 (fun (zbc : Int)=>some zbc) fun zh4=>chk ((z31.fD : Int) ≠ 0) (if decide ((Int.tmod z31.fN z31.fD) < 0) then zh4 (i64 ((i64 (Int.tdiv z31.fN z31.fD)) - 1)) else zh4 (i64 (Int.tdiv z31.fN z31.fD))))
set_option maxRecDepth 20000 in
theorem w_rat_Floor (Z : Zp)   (z31 : z2) (r : Int) (w₀ : World) (hz : PZ [] w₀ Z)
  (h : m_rat_Floor z31 = some r) :
  Calls Try.prog 70 #[(.agg #[(.int .i64 z31.fN),(.int .i64 z31.fD)])] w₀ fun e w'=>e = .returned (.int .i64 r) ∧ Hp [] w₀ w' []:=by
 unfold m_rat_Floor at h
 refine Calls.ofWC (vs:=[(.agg #[(.int .i64 z31.fN),(.int .i64 z31.fD)])]) (pre:=[]) (env:=[(0,(.agg #[(.int .i64 z31.fN),(.int .i64 z31.fD)]))]) Try.func70 rfl Try.ntmps70 rfl (Hp.nil w₀ _) rfl ?_
 refine WC.b ?_
 refine WC.a ?_
 refine WL.new (dd:=1) rfl rfl rfl (e_box (cs:=[(.int .i64 z31.fN),(.int .i64 z31.fD)]) rfl rfl) ?_
 intro zh5 _
 refine WL.a (d:=2) rfl rfl rfl (q_z rfl) ?_
 refine WL.nil ?_
 refine WX.a ?_
 refine WC.b ?_
 refine WC.b ?_
 obtain ⟨zku,zur,h⟩:=zd h
 refine WC.a ?_
 refine WL.a (d:=4) rfl rfl rfl (q_loadA (cs:=[(.int .i64 z31.fN),(.int .i64 z31.fD)]) aggT_30 rfl rfl (rd_all .here)) ?_
 refine WL.b (dd:=5) rfl rfl rfl (zk (l:=[.tmp 4]) Try.call39 (.cons rfl .nil)) (.nil : Sel [stb zh5 30 [(.int .i64 z31.fN),(.int .i64 z31.fD)]] [] [stb zh5 30 [(.int .i64 z31.fN),(.int .i64 z31.fD)]]) (fun w hw=>by have pz:=(hz.call hw (.nil : Sel [stb zh5 30 [(.int .i64 z31.fN),(.int .i64 z31.fD)]] [] [stb zh5 30 [(.int .i64 z31.fN),(.int .i64 z31.fD)]])); exact w_rat_Valid (Z:=_)  (z1f:=z31) (r:=zku) w pz  zur) ?_
 refine WL.a (d:=6) rfl rfl rfl (q_not rfl) ?_
 refine WL.nil ?_
 refine WX.a ?_
 refine WC.cond rfl (fun zkv=>?_) (fun zkv=>?_)
 ·replace h:=ite_t h zkv
  refine WC.b ?_
  refine WC.a ?_
  refine WL.a (d:=2) rfl rfl rfl (q_z rfl) ?_
  refine WL.nil ?_
  refine WX.a ?_
  refine WC.ret ?_
  refine WX.thenRet ?_
  obtain rfl:=Option.some.inj h
  refine WX.bpRet Try.results70 (.tmp rfl .nil) (fun w hw=>?_)
  exact ⟨ret1 rfl,hw.sub .nil⟩
 ·replace h:=ite_f h zkv
  refine WC.skip ?_
  refine WX.a ?_
  refine WC.b ?_
  obtain ⟨zus,h⟩:=chk_elim h
  refine WC.a ?_
  refine WL.a (d:=7) rfl rfl rfl (q_fieldAddr fo_30_0 rfl rfl) ?_
  refine WL.a (d:=8) rfl rfl rfl (q_load1 oneT_3 rfl (rd_stb .here rfl)) ?_
  refine WL.a (d:=9) rfl rfl rfl (q_fieldAddr fo_30_1 rfl rfl) ?_
  refine WL.a (d:=10) rfl rfl rfl (q_load1 oneT_3 rfl (rd_stb .here rfl)) ?_
  refine WL.a (d:=11) rfl rfl rfl (q_quo rfl rfl zus rfl) ?_
  refine WL.a (d:=3) rfl rfl rfl (q_z rfl) ?_
  refine WL.nil ?_
  refine WX.a ?_
  obtain ⟨zh4,zut,h⟩:=jp1_elim h
  refine WC.seqMid1 (fun (zbc : Int)=>(zh4 zbc = some r)) (fun (zbc : Int)=>[(3,(.int .i64 zbc))]) (fun (zbc : Int)=>[]) ?_ ?_
  ·skip
   refine WC.b ?_
   obtain ⟨zuu,h⟩:=chk_elim h
   refine WC.a ?_
   refine WL.a (d:=12) rfl rfl rfl (q_fieldAddr fo_30_0 rfl rfl) ?_
   refine WL.a (d:=13) rfl rfl rfl (q_load1 oneT_3 rfl (rd_stb .here rfl)) ?_
   refine WL.a (d:=14) rfl rfl rfl (q_fieldAddr fo_30_1 rfl rfl) ?_
   refine WL.a (d:=15) rfl rfl rfl (q_load1 oneT_3 rfl (rd_stb .here rfl)) ?_
   refine WL.a (d:=16) rfl rfl rfl (q_rem rfl rfl zuu rfl) ?_
   refine WL.a (d:=17) rfl rfl rfl (q_lss rfl rfl) ?_
   refine WL.nil ?_
   refine WX.a ?_
   refine WC.cond rfl (fun zkw=>?_) (fun zkw=>?_)
   ·replace h:=ite_t h zkw
    refine WC.a ?_
    refine WL.a (d:=18) rfl rfl rfl (q_m rfl) ?_
    refine WL.a (d:=19) rfl rfl rfl (q_sub rfl rfl rfl) ?_
    refine WL.a (d:=3) rfl rfl rfl (q_z rfl) ?_
    refine WL.nil ?_
    exact WX.mid (G:=Int) (i64 ((i64 (Int.tdiv z31.fN z31.fD)) - 1)) h (.cons rfl .nil) .nil
   ·replace h:=ite_f h zkw
    refine WC.skip ?_
    exact WX.mid (G:=Int) (i64 (Int.tdiv z31.fN z31.fD)) h (.cons rfl .nil) .nil
  ·rintro zbc h
   replace h:=(zut zbc).symm.trans h
   refine WC.b ?_
   refine WC.a ?_
   refine WL.a (d:=20) rfl rfl rfl (q_m rfl) ?_
   refine WL.a (d:=2) rfl rfl rfl (q_z rfl) ?_
   refine WL.nil ?_
   refine WX.a ?_
   refine WC.ret ?_
   obtain rfl:=Option.some.inj h
   refine WX.bpRet Try.results70 (.tmp rfl .nil) (fun w hw=>?_)
   exact ⟨ret1 rfl,hw.sub .nil⟩
def m_rat_Ceil (z2Q : z2) : Option Int :=
 (m_rat_Valid z2Q).bind fun zkx=>if !zkx then some 0 else (m_rat_Floor (⟨i64 (0 - z2Q.fN),z2Q.fD⟩ : z2)).bind fun zky=>some (i64 (0 - zky))
set_option maxRecDepth 20000 in
theorem w_rat_Ceil (Z : Zp)   (z2Q : z2) (r : Int) (w₀ : World) (hz : PZ [] w₀ Z)
  (h : m_rat_Ceil z2Q = some r) :
  Calls Try.prog 71 #[(.agg #[(.int .i64 z2Q.fN),(.int .i64 z2Q.fD)])] w₀ fun e w'=>e = .returned (.int .i64 r) ∧ Hp [] w₀ w' []:=by
 unfold m_rat_Ceil at h
 refine Calls.ofWC (vs:=[(.agg #[(.int .i64 z2Q.fN),(.int .i64 z2Q.fD)])]) (pre:=[]) (env:=[(0,(.agg #[(.int .i64 z2Q.fN),(.int .i64 z2Q.fD)]))]) Try.func71 rfl Try.ntmps71 rfl (Hp.nil w₀ _) rfl ?_
 refine WC.b ?_
 refine WC.a ?_
 refine WL.new (dd:=1) rfl rfl rfl (e_box (cs:=[(.int .i64 z2Q.fN),(.int .i64 z2Q.fD)]) rfl rfl) ?_
 intro zbd _
 refine WL.a (d:=2) rfl rfl rfl (q_z rfl) ?_
 refine WL.nil ?_
 refine WX.a ?_
 refine WC.b ?_
 refine WC.b ?_
 obtain ⟨zkx,zuv,h⟩:=zd h
 refine WC.a ?_
 refine WL.a (d:=3) rfl rfl rfl (q_loadA (cs:=[(.int .i64 z2Q.fN),(.int .i64 z2Q.fD)]) aggT_30 rfl rfl (rd_all .here)) ?_
 refine WL.b (dd:=4) rfl rfl rfl (zk (l:=[.tmp 3]) Try.call39 (.cons rfl .nil)) (.nil : Sel [stb zbd 30 [(.int .i64 z2Q.fN),(.int .i64 z2Q.fD)]] [] [stb zbd 30 [(.int .i64 z2Q.fN),(.int .i64 z2Q.fD)]]) (fun w hw=>by have pz:=(hz.call hw (.nil : Sel [stb zbd 30 [(.int .i64 z2Q.fN),(.int .i64 z2Q.fD)]] [] [stb zbd 30 [(.int .i64 z2Q.fN),(.int .i64 z2Q.fD)]])); exact w_rat_Valid (Z:=_)  (z1f:=z2Q) (r:=zkx) w pz  zuv) ?_
 refine WL.a (d:=5) rfl rfl rfl (q_not rfl) ?_
 refine WL.nil ?_
 refine WX.a ?_
 refine WC.cond rfl (fun zkz=>?_) (fun zkz=>?_)
 ·replace h:=ite_t h zkz
  refine WC.b ?_
  refine WC.a ?_
  refine WL.a (d:=2) rfl rfl rfl (q_z rfl) ?_
  refine WL.nil ?_
  refine WX.a ?_
  refine WC.ret ?_
  refine WX.thenRet ?_
  obtain rfl:=Option.some.inj h
  refine WX.bpRet Try.results71 (.tmp rfl .nil) (fun w hw=>?_)
  exact ⟨ret1 rfl,hw.sub .nil⟩
 ·replace h:=ite_f h zkz
  refine WC.skip ?_
  refine WX.a ?_
  refine WC.b ?_
  obtain ⟨zky,zuw,h⟩:=zd h
  refine WC.a ?_
  refine WL.a (d:=6) rfl rfl rfl (q_fieldAddr fo_30_0 rfl rfl) ?_
  refine WL.a (d:=7) rfl rfl rfl (q_load1 oneT_3 rfl (rd_stb .here rfl)) ?_
  refine WL.a (d:=8) rfl rfl rfl (q_neg rfl rfl) ?_
  refine WL.a (d:=9) rfl rfl rfl (q_fieldAddr fo_30_1 rfl rfl) ?_
  refine WL.a (d:=10) rfl rfl rfl (q_load1 oneT_3 rfl (rd_stb .here rfl)) ?_
  refine WL.a (d:=11) rfl rfl rfl (q_build (v:=(.agg #[(.int .i64 (i64 (0 - z2Q.fN))),(.int .i64 z2Q.fD)])) (Eos.parts (l:=[.tmp 8,.tmp 10]) (.cons rfl (.cons rfl .nil)) [0,1]) (fun _=>by kernel_rfl)) ?_
  refine WL.b (dd:=12) rfl rfl rfl (zk (l:=[.tmp 11]) Try.call70 (.cons rfl .nil)) (.nil : Sel [stb zbd 30 [(.int .i64 z2Q.fN),(.int .i64 z2Q.fD)]] [] [stb zbd 30 [(.int .i64 z2Q.fN),(.int .i64 z2Q.fD)]]) (fun w hw=>by have pz:=(hz.call hw (.nil : Sel [stb zbd 30 [(.int .i64 z2Q.fN),(.int .i64 z2Q.fD)]] [] [stb zbd 30 [(.int .i64 z2Q.fN),(.int .i64 z2Q.fD)]])); exact w_rat_Floor (Z:=_)  (z31:=(⟨i64 (0 - z2Q.fN),z2Q.fD⟩ : z2)) (r:=zky) w pz  zuw) ?_
  refine WL.a (d:=13) rfl rfl rfl (q_neg rfl rfl) ?_
  refine WL.a (d:=2) rfl rfl rfl (q_z rfl) ?_
  refine WL.nil ?_
  refine WX.a ?_
  refine WC.ret ?_
  obtain rfl:=Option.some.inj h
  refine WX.bpRet Try.results71 (.tmp rfl .nil) (fun w hw=>?_)
  exact ⟨ret1 rfl,hw.sub .nil⟩
def m_calculus_search_points_1_L5 (zA : Type) (zC : List z2 × Int) (z43 : z2 → zA → Option (Bool × zA)) (zah : zA → Option zA) : Nat → Int → zA → Option zA
 | 0,_,_=>none
 | zkA + 1,z1w,z4E=>if decide (z1w < ((zC.1.length : Nat) : Int)) then chk ((0 : Int) ≤ z1w ∧ z1w < ((zC.1.length : Nat) : Int)) ((m_rat_Floor (⟨((nth zC.1 z1w).fN),((nth zC.1 z1w).fD)⟩ : z2)).bind fun zh6=>(m_calculus_whole zh6).bind fun zh7=>(z43 zh7 z4E).bind fun z67=>(if !z67.1 then some (true,z67.2) else (m_rat_Ceil (⟨((nth zC.1 z1w).fN),((nth zC.1 z1w).fD)⟩ : z2)).bind fun zh8=>(m_calculus_whole zh8).bind fun zh9=>(z43 zh9 z67.2).bind fun zfe=>some (!zfe.1,zfe.2)).bind fun zbe=>if zbe.1 then some zbe.2 else m_calculus_search_points_1_L5 zA zC z43 zah zkA (i64 (z1w + 1)) zbe.2) else zah z4E
theorem m_calculus_search_points_1_L5_fuel {n : Nat} {zA : Type} {zC : List z2 × Int} {z43 : z2 → zA → Option (Bool × zA)} {zah : zA → Option zA} {z1w : Int} {z4E : zA} {r : zA} (h : m_calculus_search_points_1_L5 zA zC z43 zah n z1w z4E = some r) : ∃ m,n = m + 1:=by
 cases n with
 | zero=>cases h
 | succ m=>exact ⟨m,rfl⟩
def m_calculus_search_points_1_L4 (zA : Type) (z4n : List (List z1)) (z43 : z2 → zA → Option (Bool × zA)) (zai : zA → Option zA) : Nat → Int → zA → Option zA
 | 0,_,_=>none
 | zkB + 1,z5w,z68=>if decide (z5w < ((z4n.length : Nat) : Int)) then jp1 (fun (z9p : zA)=>m_calculus_search_points_1_L4 zA z4n z43 zai zkB (i64 (z5w + 1)) z9p) fun zkC=>chk ((0 : Int) ≤ z5w ∧ z5w < ((z4n.length : Nat) : Int)) ((m_curve_Breaks (nth z4n z5w)).bind fun zC=>jp1 (fun (z9q : zA)=>zkC z9q) fun zah=>m_calculus_search_points_1_L5 zA zC z43 zah FUEL 0 z68) else zai z68
theorem m_calculus_search_points_1_L4_fuel {n : Nat} {zA : Type} {z4n : List (List z1)} {z43 : z2 → zA → Option (Bool × zA)} {zai : zA → Option zA} {z5w : Int} {z68 : zA} {r : zA} (h : m_calculus_search_points_1_L4 zA z4n z43 zai n z5w z68 = some r) : ∃ m,n = m + 1:=by
 cases n with
 | zero=>cases h
 | succ m=>exact ⟨m,rfl⟩
def m_calculus_search_points_1_L6 (zA : Type) (z1m : List z2) (z43 : z2 → zA → Option (Bool × zA)) (zaj : zA → Option zA) : Nat → Int → zA → Option zA
 | 0,_,_=>none
 | zkD + 1,z1x,z4F=>if decide (z1x < ((z1m.length : Nat) : Int)) then chk ((0 : Int) ≤ z1x ∧ z1x < ((z1m.length : Nat) : Int)) ((m_rat_Floor (⟨((nth z1m z1x).fN),((nth z1m z1x).fD)⟩ : z2)).bind fun zha=>(m_calculus_whole zha).bind fun zhb=>(z43 zhb z4F).bind fun z69=>(if !z69.1 then some (true,z69.2) else (m_rat_Ceil (⟨((nth z1m z1x).fN),((nth z1m z1x).fD)⟩ : z2)).bind fun zhc=>(m_calculus_whole zhc).bind fun zhd=>(z43 zhd z69.2).bind fun zff=>some (!zff.1,zff.2)).bind fun zbf=>if zbf.1 then some zbf.2 else m_calculus_search_points_1_L6 zA z1m z43 zaj zkD (i64 (z1x + 1)) zbf.2) else zaj z4F
theorem m_calculus_search_points_1_L6_fuel {n : Nat} {zA : Type} {z1m : List z2} {z43 : z2 → zA → Option (Bool × zA)} {zaj : zA → Option zA} {z1x : Int} {z4F : zA} {r : zA} (h : m_calculus_search_points_1_L6 zA z1m z43 zaj n z1x z4F = some r) : ∃ m,n = m + 1:=by
 cases n with
 | zero=>cases h
 | succ m=>exact ⟨m,rfl⟩
def m_calculus_search_points_1 (zA : Type) (z43 : z2 → zA → Option (Bool × zA)) (s0_16993 : zA) (z4n : List (List z1)) (zcs : Sapi_Server) (zfg : List (List z1)) (zct : Sapi_Server) (z1m : List z2) : Option zA :=
 (m_calculus_zero).bind fun zhe=>(z43 zhe s0_16993).bind fun zcu=>if !zcu.1 then some zcu.2 else jp1 (fun (z9r : zA)=>jp1 (fun (zak : zA)=>some zak) fun zaj=>m_calculus_search_points_1_L6 zA z1m z43 zaj FUEL 0 z9r) fun zai=>m_calculus_search_points_1_L4 zA z4n z43 zai FUEL 0 zcu.2
set_option maxRecDepth 20000 in
theorem w_calculus_search_points_1 (Z : Zp) (zA : Type) (z7W : Nat) (z2y : Type) (z1y : z2y → zA → Asrt) (z7X : z2y → zA → Prop) (z7E : z2y) (z8W : Addr) (zbg : Option Addr) (zbh : Nat) (zkE : Addr) (zkF : Option Addr) (zkG : Nat) (zkH : Addr) (zfh : Option Addr) (zfi : Nat) (z43 : z2 → zA → Option (Bool × zA)) (s0_16993 : zA) (z4n : List (List z1)) (zcs : Sapi_Server) (zfg : List (List z1)) (zct : Sapi_Server) (z1m : List z2) (r : zA) (w₀ : World) (hz : PZ (fps [z1y z7E s0_16993]) w₀ Z)
  (zfj : YieldP Try.prog Z z7W (α:=z2) (σ:=zA) (G:=z2y) (H:=Unit) (fun h x=>[(.agg #[(.int .i64 x.fN),(.int .i64 x.fD)])]) (fun h x=>[]) z43 z1y z7X)
  (zux : z7X z7E s0_16993)
  (zuy : ZS Z 1 (p39 Z) zbg zbh z4n)
  (zAl : ZS Z 1 (p39 Z) zkF zkG zfg)
  (zAm : ZC Z zkE [(.slice zkF zfg.length zkG)])
  (zAn : ZC Z zkH [(.int .i64 zct.fRate.fN),(.int .i64 zct.fRate.fD),(.int .i64 zct.fLatency.fN),(.int .i64 zct.fLatency.fD)])
  (zuz : ZS Z 2 (fun r x=>r = e30 x) zfh zfi z1m)
  (zpc : ZC Z z8W [(.slice zbg z4n.length zbh),(.int .i64 zcs.fRate.fN),(.int .i64 zcs.fRate.fD),(.int .i64 zcs.fLatency.fN),(.int .i64 zcs.fLatency.fD),(.func (.func 32) #[] #[(.pointer (some zkE)),(.pointer (some zkH))]),(.slice zfh z1m.length zfi)])
  (h : m_calculus_search_points_1 zA z43 s0_16993 z4n zcs zfg zct z1m = some r)
  (hown : Hp (fps [z1y z7E s0_16993]) w₀ w₀ [z1y z7E s0_16993]) :
  Calls Try.prog 69 #[(.func (.yield z7W) #[] #[]),(.pointer (some z8W))] w₀ fun e w'=>∃ Zn : Zp,∃ zpd : z2y,e = .returned (.tuple #[]) ∧ (z7X zpd r) ∧ Hp (fps [z1y z7E s0_16993]) w₀ w' [fz Zn,z1y zpd r]:=by
 unfold m_calculus_search_points_1 at h
 refine Calls.ofWC (vs:=[(.func (.yield z7W) #[] #[]),(.pointer (some z8W))]) (pre:=[z1y z7E s0_16993]) (env:=[(0,(.func (.yield z7W) #[] #[])),(1,(.pointer (some z8W)))]) Try.func69 rfl Try.ntmps69 rfl (hown) rfl ?_
 refine WC.pool ?_
 refine WC.b ?_
 refine WC.b ?_
 obtain ⟨zhe,zuA,h⟩:=zd h
 obtain ⟨zcu,zuB,h⟩:=zd h
 refine WC.a ?_
 refine WL.a (d:=11) rfl rfl rfl (q_m rfl) ?_
 refine WL.b (dd:=12) rfl rfl rfl (zk (l:=[]) Try.call51 .nil) (.nil : Sel [fz [],z1y z7E s0_16993] [] [fz [],z1y z7E s0_16993]) (fun w hw=>by have pz:=(hz.call2 hw (.nil : Sel [fz [],z1y z7E s0_16993] [] [fz [],z1y z7E s0_16993]) .here); exact w_calculus_zero (Z:=_)   (r:=zhe) w pz  zuA) ?_
 refine WL.yield (dd:=13) (x:=zhe) (h:=()) (g:=z7E) (s:=s0_16993) (b:=zcu.1) (s':=zcu.2) zfj rfl rfl rfl (.cons rfl .nil) ((.cons .h1 .nil) : Sel _ [z1y z7E s0_16993] _) zuB zux (fun w hw=>hz.call hw ((.cons .h1 .nil) : Sel _ [z1y z7E s0_16993] _)) ?_
 intro zpe zpf
 refine WL.a (d:=14) rfl rfl rfl (q_not rfl) ?_
 refine WL.nil ?_
 refine WX.a ?_
 refine WC.cond rfl (fun zkI=>?_) (fun zkI=>?_)
 ·replace h:=ite_t h zkI
  refine WC.ret ?_
  refine WX.thenRet ?_
  obtain rfl:=Option.some.inj h
  refine WX.bpRet Try.results69 .nil (fun w hw=>?_)
  exact ⟨[],zpe,ret0,zpf,hw.sub (.cons .h1 (.cons .here .nil))⟩
 ·replace h:=ite_f h zkI
  refine WC.skip ?_
  refine WX.a ?_
  obtain ⟨zai,zuC,h⟩:=jp1_elim h
  refine WC.seqMid3 (fun (z9r : zA) (z44 : Zp) (zdO : z2y)=>(zai z9r = some r) ∧ (Zle (Z ++ []) (Z ++ z44)) ∧ (z7X zdO z9r)) (fun (z9r : zA) (z44 : Zp) (zdO : z2y)=>[(0,(.func (.yield z7W) #[] #[])),(1,(.pointer (some z8W)))]) (fun (z9r : zA) (z44 : Zp) (zdO : z2y)=>[fz z44,z1y zdO z9r]) ?_ ?_
  ·skip
   refine WC.b ?_
   refine WC.a ?_
   refine WL.a (d:=15) rfl rfl rfl (q_fieldAddr fo_79_0 rfl rfl) ?_
   refine WL.a (d:=16) rfl rfl rfl (q_load1 oneT_26 rfl (rd_zAt (hz.pv2 .h1) (zpc.mono (Zle.left _ _)) rfl)) ?_
   refine WL.a (d:=17) rfl rfl rfl (q_len Try.underlying26 rfl) ?_
   refine WL.a (d:=18) rfl rfl rfl (q_m rfl) ?_
   refine WL.nil ?_
   refine WX.a ?_
   refine WC.block ?_
   refine WC.loop5 (fun (zdP : Nat) (z5w : Int) (z68 : zA) (z3g : Zp) (z8l : z2y)=>(m_calculus_search_points_1_L4 zA z4n z43 zai zdP z5w z68 = some r) ∧ (Zle (Z ++ []) (Z ++ z3g)) ∧ (z7X z8l z68)) (fun (zdP : Nat) (z5w : Int) (z68 : zA) (z3g : Zp) (z8l : z2y)=>[(0,(.func (.yield z7W) #[] #[])),(1,(.pointer (some z8W))),(16,(.slice zbg z4n.length zbh)),(17,(.int .i64 ((z4n.length : Nat) : Int))),(18,(.int .i64 z5w))]) (fun (zdP : Nat) (z5w : Int) (z68 : zA) (z3g : Zp) (z8l : z2y)=>[fz z3g,z1y z8l z68]) (fun (zdP : Nat) (z5w : Int) (z68 : zA) (z3g : Zp) (z8l : z2y)=>zdP) ⟨FUEL,0,zcu.2,[],zpe⟩ ⟨h,(Zle.refl _),zpf⟩ (.cons rfl (.cons rfl (.cons rfl (.cons rfl (.cons rfl .nil))))) (.cons .h1 (.cons .here .nil)) ?_
   rintro zdP z5w z68 z3g z8l ⟨h,zhf,zpg⟩
   obtain ⟨zkB,rfl⟩:=m_calculus_search_points_1_L4_fuel h
   rw [m_calculus_search_points_1_L4] at h
   refine WC.b ?_
   refine WC.a ?_
   refine WL.a (d:=19) rfl rfl rfl (q_lss rfl rfl) ?_
   refine WL.nil ?_
   refine WX.a ?_
   refine WC.b ?_
   refine WC.cond rfl (fun zkJ=>?_) (fun zkJ=>?_)
   ·replace h:=ite_t h zkJ
    refine WC.skip ?_
    refine WX.a ?_
    obtain ⟨zkC,zuD,h⟩:=jp1_elim h
    refine WC.seqMid3 (fun (z9p : zA) (zdQ : Zp) (zdR : z2y)=>(zkC z9p = some r) ∧ (Zle (Z ++ z3g) (Z ++ zdQ)) ∧ (z7X zdR z9p)) (fun (z9p : zA) (zdQ : Zp) (zdR : z2y)=>[(0,(.func (.yield z7W) #[] #[])),(1,(.pointer (some z8W))),(16,(.slice zbg z4n.length zbh)),(17,(.int .i64 ((z4n.length : Nat) : Int))),(18,(.int .i64 z5w))]) (fun (z9p : zA) (zdQ : Zp) (zdR : z2y)=>[fz zdQ,z1y zdR z9p]) ?_ ?_
    ·skip
     refine WC.block ?_
     refine WC.b ?_
     obtain ⟨zuE,h⟩:=chk_elim h
     refine WC.a ?_
     refine WL.znth (dd:=20) rfl rfl (Z:=(Z ++ z3g)) (Pr:=(p39 (Z ++ z3g))) elT_26 rfl rfl ((zuy.mono ((Zle.left _ _).trans zhf)).weak (fun _ _ h=>p39_mono ((Zle.left _ _).trans zhf) h)) zuE ?_
     rintro zAo zAp zuF zAq ⟨zuG,zuH,rfl,zuI⟩
     refine WL.a (d:=21) rfl rfl rfl (q_load1 oneT_39 rfl (rd_z (hz.pv2 .here) zuF rfl)) ?_
     refine WL.a (d:=4) rfl rfl rfl (q_z rfl) ?_
     refine WL.nil ?_
     refine WX.a ?_
     refine WC.b ?_
     obtain ⟨zC,zuJ,h⟩:=zd h
     refine WC.a ?_
     refine WL.a (d:=23) rfl rfl rfl (q_m rfl) ?_
     refine WL.enter3 (dd:=24) rfl rfl rfl (zk (l:=[.tmp 23]) Try.call68 (.cons rfl .nil)) (.nil : Sel [fz z3g,z1y z8l z68] [] [fz z3g,z1y z8l z68]) (fun w hw=>by have pz:=(hz.call2 hw (.nil : Sel [fz z3g,z1y z8l z68] [] [fz z3g,z1y z8l z68]) .here); exact w_curve_Breaks (Z:=_) (z9j:=zuG) (z9k:=zuH) (z7B:=(nth z4n z5w)) (r:=zC) w pz zuI zuJ) ?_
     rintro z5s zuK zuL _
     refine WL.merge .here .h1 ?_
     refine WL.a (d:=22) rfl rfl rfl (q_m rfl) ?_
     refine WL.a (d:=25) rfl rfl rfl (q_extract rfl rfl) ?_
     refine WL.a (d:=26) rfl rfl rfl (q_extract rfl rfl) ?_
     refine WL.a (d:=5) rfl rfl rfl (q_z rfl) ?_
     refine WL.a (d:=6) rfl rfl rfl (q_z rfl) ?_
     refine WL.nil ?_
     refine WX.a ?_
     refine WC.b ?_
     refine WC.a ?_
     refine WL.a (d:=27) rfl rfl rfl (q_m rfl) ?_
     refine WL.a (d:=28) rfl rfl rfl (q_len Try.underlying77 rfl) ?_
     refine WL.a (d:=29) rfl rfl rfl (q_m rfl) ?_
     refine WL.nil ?_
     refine WX.a ?_
     obtain ⟨zah,zuM,h⟩:=jp1_elim h
     refine WC.mid2 (fun (z9q : zA) (zdS : z2y)=>(zah z9q = some r) ∧ (z7X zdS z9q)) (fun (z9q : zA) (zdS : z2y)=>[(0,(.func (.yield z7W) #[] #[])),(1,(.pointer (some z8W))),(16,(.slice zbg z4n.length zbh)),(17,(.int .i64 ((z4n.length : Nat) : Int))),(18,(.int .i64 z5w))]) (fun (z9q : zA) (zdS : z2y)=>[fz (z3g ++ z5s),z1y zdS z9q]) ?_ ?_
     ·skip
      refine WC.block ?_
      refine WC.loop6 (fun (zdT : Nat) (z1w : Int) (z4E : zA) (zdU : Option Addr) (z4o : Nat) (z6a : z2y)=>(m_calculus_search_points_1_L5 zA zC z43 zah zdT z1w z4E = some r) ∧ (z7X z6a z4E)) (fun (zdT : Nat) (z1w : Int) (z4E : zA) (zdU : Option Addr) (z4o : Nat) (z6a : z2y)=>[(0,(.func (.yield z7W) #[] #[])),(1,(.pointer (some z8W))),(16,(.slice zbg z4n.length zbh)),(17,(.int .i64 ((z4n.length : Nat) : Int))),(18,(.int .i64 z5w)),(27,(.slice zdU zC.1.length z4o)),(28,(.int .i64 ((zC.1.length : Nat) : Int))),(29,(.int .i64 z1w))]) (fun (zdT : Nat) (z1w : Int) (z4E : zA) (zdU : Option Addr) (z4o : Nat) (z6a : z2y)=>[fz (z3g ++ z5s),row (.slice zdU zC.1.length z4o) 30 2 (zC.1.flatMap e30),z1y z6a z4E]) (fun (zdT : Nat) (z1w : Int) (z4E : zA) (zdU : Option Addr) (z4o : Nat) (z6a : z2y)=>zdT) ⟨FUEL,0,z68,zuK,zuL,z8l⟩ ⟨h,zpg⟩ (.cons rfl (.cons rfl (.cons rfl (.cons rfl (.cons rfl (.cons rfl (.cons rfl (.cons rfl .nil)))))))) (.cons .here (.cons .here (.cons .here .nil))) ?_
      rintro zdT z1w z4E zdU z4o z6a ⟨h,zph⟩
      obtain ⟨zkA,rfl⟩:=m_calculus_search_points_1_L5_fuel h
      rw [m_calculus_search_points_1_L5] at h
      refine WC.b ?_
      refine WC.a ?_
      refine WL.a (d:=30) rfl rfl rfl (q_lss rfl rfl) ?_
      refine WL.nil ?_
      refine WX.a ?_
      refine WC.b ?_
      refine WC.cond rfl (fun zkK=>?_) (fun zkK=>?_)
      ·replace h:=ite_t h zkK
       refine WC.skip ?_
       refine WX.a ?_
       refine WC.b ?_
       refine WC.block ?_
       refine WC.b ?_
       obtain ⟨zfk,h⟩:=chk_elim h
       refine WC.a ?_
       refine WL.know (fun w hw=>Hp.expose .h1 hw (by intro hz'; have:=zfk; rw [hz'] at this; omega)) ?_
       rintro ⟨z5N,rfl⟩
       refine WL.a (d:=31) rfl rfl rfl (q_indexAddr elT_77 rfl rfl zfk.1 zfk.2 rowAdd) ?_
       refine WL.a (d:=32) rfl rfl rfl (q_loadA (cs:=(e30 (nth zC.1 z1w))) aggT_30 rfl rfl (rd_rows .h1 (flat_rd (enc:=e30) (l:=zC.1) (i:=z1w) (sz:=2) (fun _=>rfl) zfk.1 zfk.2))) ?_
       refine WL.new (dd:=8) rfl rfl rfl (e_alloc (cs:=[(.int .i64 0),(.int .i64 0)]) zeroT_30 rfl) ?_
       intro z6H _
       refine WL.eff0 rfl rfl (e_store (vs:=[(.int .i64 ((nth zC.1 z1w).fN)),(.int .i64 ((nth zC.1 z1w).fD))]) (ds:=[(.int .i64 ((nth zC.1 z1w).fN)),(.int .i64 ((nth zC.1 z1w).fD))]) sizT_30 rfl rfl rfl rfl (oc_cons rfl (oc_cons rfl oc_nil)) .here (Nat.le_of_ble_eq_true rfl) rfl) ?_
       refine WL.nil ?_
       refine WX.a ?_
       refine WC.b ?_
       obtain ⟨zh6,zuN,h⟩:=zd h
       obtain ⟨zh7,zuO,h⟩:=zd h
       obtain ⟨z67,zuP,h⟩:=zd h
       obtain ⟨zbe,zpi,h⟩:=zd h
       refine WC.a ?_
       refine WL.a (d:=33) rfl rfl rfl (q_m rfl) ?_
       refine WL.a (d:=34) rfl rfl rfl (q_loadA (cs:=[(.int .i64 ((nth zC.1 z1w).fN)),(.int .i64 ((nth zC.1 z1w).fD))]) aggT_30 rfl rfl (rd_all .here)) ?_
       refine WL.b (dd:=35) rfl rfl rfl (zk (l:=[.tmp 34]) Try.call70 (.cons rfl .nil)) (.nil : Sel [stb z6H 30 [(.int .i64 ((nth zC.1 z1w).fN)),(.int .i64 ((nth zC.1 z1w).fD))],fz (z3g ++ z5s),row (.slice (some ⟨z5N,0,none⟩) zC.1.length z4o) 30 2 (zC.1.flatMap e30),z1y z6a z4E] [] [stb z6H 30 [(.int .i64 ((nth zC.1 z1w).fN)),(.int .i64 ((nth zC.1 z1w).fD))],fz (z3g ++ z5s),row (.slice (some ⟨z5N,0,none⟩) zC.1.length z4o) 30 2 (zC.1.flatMap e30),z1y z6a z4E]) (fun w hw=>by have pz:=(hz.call2 hw (.nil : Sel [stb z6H 30 [(.int .i64 ((nth zC.1 z1w).fN)),(.int .i64 ((nth zC.1 z1w).fD))],fz (z3g ++ z5s),row (.slice (some ⟨z5N,0,none⟩) zC.1.length z4o) 30 2 (zC.1.flatMap e30),z1y z6a z4E] [] [stb z6H 30 [(.int .i64 ((nth zC.1 z1w).fN)),(.int .i64 ((nth zC.1 z1w).fD))],fz (z3g ++ z5s),row (.slice (some ⟨z5N,0,none⟩) zC.1.length z4o) 30 2 (zC.1.flatMap e30),z1y z6a z4E]) .h1); exact w_rat_Floor (Z:=_)  (z31:=(⟨((nth zC.1 z1w).fN),((nth zC.1 z1w).fD)⟩ : z2)) (r:=zh6) w pz  zuN) ?_
       refine WL.b (dd:=36) rfl rfl rfl (zk (l:=[.tmp 35]) Try.call65 (.cons rfl .nil)) (.nil : Sel [stb z6H 30 [(.int .i64 ((nth zC.1 z1w).fN)),(.int .i64 ((nth zC.1 z1w).fD))],fz (z3g ++ z5s),row (.slice (some ⟨z5N,0,none⟩) zC.1.length z4o) 30 2 (zC.1.flatMap e30),z1y z6a z4E] [] [stb z6H 30 [(.int .i64 ((nth zC.1 z1w).fN)),(.int .i64 ((nth zC.1 z1w).fD))],fz (z3g ++ z5s),row (.slice (some ⟨z5N,0,none⟩) zC.1.length z4o) 30 2 (zC.1.flatMap e30),z1y z6a z4E]) (fun w hw=>by have pz:=(hz.call2 hw (.nil : Sel [stb z6H 30 [(.int .i64 ((nth zC.1 z1w).fN)),(.int .i64 ((nth zC.1 z1w).fD))],fz (z3g ++ z5s),row (.slice (some ⟨z5N,0,none⟩) zC.1.length z4o) 30 2 (zC.1.flatMap e30),z1y z6a z4E] [] [stb z6H 30 [(.int .i64 ((nth zC.1 z1w).fN)),(.int .i64 ((nth zC.1 z1w).fD))],fz (z3g ++ z5s),row (.slice (some ⟨z5N,0,none⟩) zC.1.length z4o) 30 2 (zC.1.flatMap e30),z1y z6a z4E]) .h1); exact w_calculus_whole (Z:=_)  (z63:=zh6) (r:=zh7) w pz  zuO) ?_
       refine WL.yield (dd:=37) (x:=zh7) (h:=()) (g:=z6a) (s:=z4E) (b:=z67.1) (s':=z67.2) zfj rfl rfl rfl (.cons rfl .nil) ((.cons .h3 .nil) : Sel _ [z1y z6a z4E] _) zuP zph (fun w hw=>hz.call hw ((.cons .h3 .nil) : Sel _ [z1y z6a z4E] _)) ?_
       intro z8m zpj
       refine WL.a (d:=38) rfl rfl rfl (q_not rfl) ?_
       refine WL.a (d:=39) rfl rfl rfl (q_m rfl) ?_
       refine WL.cut1 (fun (zcv : z2y)=>z7X zcv zbe.2) (fun (zcv : z2y)=>[(0,(.func (.yield z7W) #[] #[])),(1,(.pointer (some z8W))),(16,(.slice zbg z4n.length zbh)),(17,(.int .i64 ((z4n.length : Nat) : Int))),(18,(.int .i64 z5w)),(27,(.slice (some ⟨z5N,0,none⟩) zC.1.length z4o)),(28,(.int .i64 ((zC.1.length : Nat) : Int))),(29,(.int .i64 z1w)),(46,(.bool zbe.1))]) (fun (zcv : z2y)=>[z1y zcv zbe.2,stb z6H 30 [(.int .i64 ((nth zC.1 z1w).fN)),(.int .i64 ((nth zC.1 z1w).fD))],fz (z3g ++ z5s),row (.slice (some ⟨z5N,0,none⟩) zC.1.length z4o) 30 2 (zC.1.flatMap e30)]) 7 ?_ (fun zcv zpk=>?_)
       ·rcases Bool.eq_false_or_eq_true (!z67.1) with hb' | hb'
        ·have zpl:=hb'; clear hb'
         have zkL:=ite_t zpi zpl
         replace zkL:=Option.some.inj zkL
         refine WL.pin (i:=39) rfl zpl ?_
         refine WL.e rfl rfl rfl ?_
         refine WL.e rfl rfl rfl ?_
         refine WL.e rfl rfl rfl ?_
         refine WL.e rfl rfl rfl ?_
         refine WL.e rfl rfl rfl ?_
         refine WL.e rfl rfl rfl ?_
         refine WL.a (d:=46) rfl rfl rfl (q_pickT rfl rfl) ?_
         subst zkL
         exact WL.cutEnd z8m zpj (.cons rfl (.cons rfl (.cons rfl (.cons rfl (.cons rfl (.cons rfl (.cons rfl (.cons rfl (.cons rfl .nil))))))))) (.cons .here (.cons .here (.cons .here (.cons .here .nil))))
        ·have zpm:=hb'; clear hb'
         have zal:=ite_f zpi zpm
         obtain ⟨zh8,zuQ,zal⟩:=zd zal
         obtain ⟨zh9,zuR,zal⟩:=zd zal
         obtain ⟨zfe,zuS,zal⟩:=zd zal
         replace zal:=Option.some.inj zal
         refine WL.pin (i:=39) rfl zpm ?_
         refine WL.a (d:=40) rfl rfl rfl (q_m rfl) ?_
         refine WL.a (d:=41) rfl rfl rfl (q_loadA (cs:=[(.int .i64 ((nth zC.1 z1w).fN)),(.int .i64 ((nth zC.1 z1w).fD))]) aggT_30 rfl rfl (rd_all .h1)) ?_
         refine WL.b (dd:=42) rfl rfl rfl (zk (l:=[.tmp 41]) Try.call71 (.cons rfl .nil)) (.nil : Sel [z1y z8m z67.2,stb z6H 30 [(.int .i64 ((nth zC.1 z1w).fN)),(.int .i64 ((nth zC.1 z1w).fD))],fz (z3g ++ z5s),row (.slice (some ⟨z5N,0,none⟩) zC.1.length z4o) 30 2 (zC.1.flatMap e30)] [] [z1y z8m z67.2,stb z6H 30 [(.int .i64 ((nth zC.1 z1w).fN)),(.int .i64 ((nth zC.1 z1w).fD))],fz (z3g ++ z5s),row (.slice (some ⟨z5N,0,none⟩) zC.1.length z4o) 30 2 (zC.1.flatMap e30)]) (fun w hw=>by have pz:=(hz.call2 hw (.nil : Sel [z1y z8m z67.2,stb z6H 30 [(.int .i64 ((nth zC.1 z1w).fN)),(.int .i64 ((nth zC.1 z1w).fD))],fz (z3g ++ z5s),row (.slice (some ⟨z5N,0,none⟩) zC.1.length z4o) 30 2 (zC.1.flatMap e30)] [] [z1y z8m z67.2,stb z6H 30 [(.int .i64 ((nth zC.1 z1w).fN)),(.int .i64 ((nth zC.1 z1w).fD))],fz (z3g ++ z5s),row (.slice (some ⟨z5N,0,none⟩) zC.1.length z4o) 30 2 (zC.1.flatMap e30)]) .h2); exact w_rat_Ceil (Z:=_)  (z2Q:=(⟨((nth zC.1 z1w).fN),((nth zC.1 z1w).fD)⟩ : z2)) (r:=zh8) w pz  zuQ) ?_
         refine WL.b (dd:=43) rfl rfl rfl (zk (l:=[.tmp 42]) Try.call65 (.cons rfl .nil)) (.nil : Sel [z1y z8m z67.2,stb z6H 30 [(.int .i64 ((nth zC.1 z1w).fN)),(.int .i64 ((nth zC.1 z1w).fD))],fz (z3g ++ z5s),row (.slice (some ⟨z5N,0,none⟩) zC.1.length z4o) 30 2 (zC.1.flatMap e30)] [] [z1y z8m z67.2,stb z6H 30 [(.int .i64 ((nth zC.1 z1w).fN)),(.int .i64 ((nth zC.1 z1w).fD))],fz (z3g ++ z5s),row (.slice (some ⟨z5N,0,none⟩) zC.1.length z4o) 30 2 (zC.1.flatMap e30)]) (fun w hw=>by have pz:=(hz.call2 hw (.nil : Sel [z1y z8m z67.2,stb z6H 30 [(.int .i64 ((nth zC.1 z1w).fN)),(.int .i64 ((nth zC.1 z1w).fD))],fz (z3g ++ z5s),row (.slice (some ⟨z5N,0,none⟩) zC.1.length z4o) 30 2 (zC.1.flatMap e30)] [] [z1y z8m z67.2,stb z6H 30 [(.int .i64 ((nth zC.1 z1w).fN)),(.int .i64 ((nth zC.1 z1w).fD))],fz (z3g ++ z5s),row (.slice (some ⟨z5N,0,none⟩) zC.1.length z4o) 30 2 (zC.1.flatMap e30)]) .h2); exact w_calculus_whole (Z:=_)  (z63:=zh8) (r:=zh9) w pz  zuR) ?_
         refine WL.yield (dd:=44) (x:=zh9) (h:=()) (g:=z8m) (s:=z67.2) (b:=zfe.1) (s':=zfe.2) zfj rfl rfl rfl (.cons rfl .nil) ((.cons .here .nil) : Sel _ [z1y z8m z67.2] _) zuS zpj (fun w hw=>hz.call hw ((.cons .here .nil) : Sel _ [z1y z8m z67.2] _)) ?_
         intro zuT zuU
         refine WL.a (d:=45) rfl rfl rfl (q_not rfl) ?_
         refine WL.a (d:=46) rfl rfl rfl (q_pickF rfl rfl) ?_
         subst zal
         exact WL.cutEnd zuT zuU (.cons rfl (.cons rfl (.cons rfl (.cons rfl (.cons rfl (.cons rfl (.cons rfl (.cons rfl (.cons rfl .nil))))))))) (.cons .here (.cons .here (.cons .here (.cons .here .nil))))
       ·skip
        refine WL.nil ?_
        refine WX.a ?_
        refine WC.cond rfl (fun zkM=>?_) (fun zkM=>?_)
        ·replace h:=ite_t h zkM
         refine WC.ret ?_
         refine WX.blockRet ?_
         refine WX.thenRet ?_
         refine WX.thenRet ?_
         refine WX.blockRet ?_
         refine WX.thenRet ?_
         refine WX.blockRet ?_
         refine WX.thenRet ?_
         refine WX.thenRet ?_
         refine WX.blockRet ?_
         refine WX.thenRet ?_
         obtain rfl:=Option.some.inj h
         refine WX.bpRet Try.results69 .nil (fun w hw=>?_)
         exact ⟨(z3g ++ z5s),zcv,ret0,zpk,hw.sub (.cons .h2 (.cons .here .nil))⟩
        ·replace h:=ite_f h zkM
         refine WC.skip ?_
         refine WX.blockNormal ?_
         refine WX.a ?_
         refine WC.a ?_
         refine WL.a (d:=47) rfl rfl rfl (q_add rfl rfl rfl) ?_
         refine WL.a (d:=29) rfl rfl rfl (q_m rfl) ?_
         refine WL.nil ?_
         exact WX.round (G:=Nat × Int × zA × Option Addr × Nat × z2y) ⟨zkA,(i64 (z1w + 1)),zbe.2,(some ⟨z5N,0,none⟩),z4o,zcv⟩ ⟨h,zpk⟩ (Nat.lt_succ_self _) (.cons rfl (.cons rfl (.cons rfl (.cons rfl (.cons rfl (.cons rfl (.cons rfl (.cons rfl .nil)))))))) (.cons .h2 (.cons .h2 (.cons .here .nil)))
      ·replace h:=ite_f h zkK
       refine WC.exit ?_
       refine WX.thenExit ?_
       refine WX.thenExit ?_
       refine WX.blockHit ?_
       exact WX.mid (G:=zA × z2y) ⟨z4E,z6a⟩ ⟨h,zph⟩ (.cons rfl (.cons rfl (.cons rfl (.cons rfl (.cons rfl .nil))))) (.cons .here (.cons .h1 .nil))
     ·rintro z9q zdS ⟨h,zuV⟩
      replace h:=(zuM z9q).symm.trans h
      refine WX.blockNormal ?_
      exact WX.mid (G:=zA × Zp × z2y) ⟨z9q,(z3g ++ z5s),zdS⟩ ⟨h,((Zle.left _ _).trans (Zle.assoc _ _ _)),zuV⟩ (.cons rfl (.cons rfl (.cons rfl (.cons rfl (.cons rfl .nil))))) (.cons .here (.cons .here .nil))
    ·rintro z9p zdQ zdR ⟨h,zuW,zuX⟩
     replace h:=(zuD z9p).symm.trans h
     refine WC.a ?_
     refine WL.a (d:=48) rfl rfl rfl (q_add rfl rfl rfl) ?_
     refine WL.a (d:=18) rfl rfl rfl (q_m rfl) ?_
     refine WL.nil ?_
     exact WX.round (G:=Nat × Int × zA × Zp × z2y) ⟨zkB,(i64 (z5w + 1)),z9p,zdQ,zdR⟩ ⟨h,(zhf.trans zuW),zuX⟩ (Nat.lt_succ_self _) (.cons rfl (.cons rfl (.cons rfl (.cons rfl (.cons rfl .nil))))) (.cons .here (.cons .here .nil))
   ·replace h:=ite_f h zkJ
    refine WC.exit ?_
    refine WX.thenExit ?_
    refine WX.thenExit ?_
    refine WX.blockHit ?_
    exact WX.mid (G:=zA × Zp × z2y) ⟨z68,z3g,z8l⟩ ⟨h,zhf,zpg⟩ (.cons rfl (.cons rfl .nil)) (.cons .here (.cons .here .nil))
  ·rintro z9r z44 zdO ⟨h,zpn,zuY⟩
   replace h:=(zuC z9r).symm.trans h
   refine WC.b ?_
   refine WC.a ?_
   refine WL.a (d:=49) rfl rfl rfl (q_fieldAddr fo_79_3 rfl rfl) ?_
   refine WL.a (d:=50) rfl rfl rfl (q_load1 oneT_77 rfl (rd_zAt (hz.pv2 .here) (zpc.mono ((Zle.left _ _).trans zpn)) rfl)) ?_
   refine WL.a (d:=51) rfl rfl rfl (q_len Try.underlying77 rfl) ?_
   refine WL.a (d:=52) rfl rfl rfl (q_m rfl) ?_
   refine WL.nil ?_
   refine WX.a ?_
   obtain ⟨zaj,zuZ,h⟩:=jp1_elim h
   refine WC.mid2 (fun (zak : zA) (zdV : z2y)=>(zaj zak = some r) ∧ (z7X zdV zak)) (fun (zak : zA) (zdV : z2y)=>[]) (fun (zak : zA) (zdV : z2y)=>[fz z44,z1y zdV zak]) ?_ ?_
   ·skip
    refine WC.block ?_
    refine WC.loop4 (fun (zdW : Nat) (z1x : Int) (z4F : zA) (z6b : z2y)=>(m_calculus_search_points_1_L6 zA z1m z43 zaj zdW z1x z4F = some r) ∧ (z7X z6b z4F)) (fun (zdW : Nat) (z1x : Int) (z4F : zA) (z6b : z2y)=>[(0,(.func (.yield z7W) #[] #[])),(50,(.slice zfh z1m.length zfi)),(51,(.int .i64 ((z1m.length : Nat) : Int))),(52,(.int .i64 z1x))]) (fun (zdW : Nat) (z1x : Int) (z4F : zA) (z6b : z2y)=>[fz z44,z1y z6b z4F]) (fun (zdW : Nat) (z1x : Int) (z4F : zA) (z6b : z2y)=>zdW) ⟨FUEL,0,z9r,zdO⟩ ⟨h,zuY⟩ (.cons rfl (.cons rfl (.cons rfl (.cons rfl .nil)))) (.cons .here (.cons .here .nil)) ?_
    rintro zdW z1x z4F z6b ⟨h,zpo⟩
    obtain ⟨zkD,rfl⟩:=m_calculus_search_points_1_L6_fuel h
    rw [m_calculus_search_points_1_L6] at h
    refine WC.b ?_
    refine WC.a ?_
    refine WL.a (d:=53) rfl rfl rfl (q_lss rfl rfl) ?_
    refine WL.nil ?_
    refine WX.a ?_
    refine WC.b ?_
    refine WC.cond rfl (fun zkN=>?_) (fun zkN=>?_)
    ·replace h:=ite_t h zkN
     refine WC.skip ?_
     refine WX.a ?_
     refine WC.b ?_
     refine WC.block ?_
     refine WC.b ?_
     obtain ⟨zv0,h⟩:=chk_elim h
     refine WC.a ?_
     refine WL.znth (dd:=54) rfl rfl (Z:=(Z ++ z44)) (Pr:=(fun r x=>r = e30 x)) elT_77 rfl rfl (zuz.mono ((Zle.left _ _).trans zpn)) zv0 ?_
     rintro zAr zAs zv1 zAt rfl
     refine WL.a (d:=55) rfl rfl rfl (q_loadA (cs:=[(.int .i64 ((nth z1m z1x).fN)),(.int .i64 ((nth z1m z1x).fD))]) aggT_30 rfl rfl (rd_zs (hz.pv2 .here) zv1)) ?_
     refine WL.new (dd:=10) rfl rfl rfl (e_alloc (cs:=[(.int .i64 0),(.int .i64 0)]) zeroT_30 rfl) ?_
     intro z6I _
     refine WL.eff0 rfl rfl (e_store (vs:=[(.int .i64 ((nth z1m z1x).fN)),(.int .i64 ((nth z1m z1x).fD))]) (ds:=[(.int .i64 ((nth z1m z1x).fN)),(.int .i64 ((nth z1m z1x).fD))]) sizT_30 rfl rfl rfl rfl (oc_cons rfl (oc_cons rfl oc_nil)) .here (Nat.le_of_ble_eq_true rfl) rfl) ?_
     refine WL.nil ?_
     refine WX.a ?_
     refine WC.b ?_
     obtain ⟨zha,zv2,h⟩:=zd h
     obtain ⟨zhb,zv3,h⟩:=zd h
     obtain ⟨z69,zv4,h⟩:=zd h
     obtain ⟨zbf,zpp,h⟩:=zd h
     refine WC.a ?_
     refine WL.a (d:=56) rfl rfl rfl (q_m rfl) ?_
     refine WL.a (d:=57) rfl rfl rfl (q_loadA (cs:=[(.int .i64 ((nth z1m z1x).fN)),(.int .i64 ((nth z1m z1x).fD))]) aggT_30 rfl rfl (rd_all .here)) ?_
     refine WL.b (dd:=58) rfl rfl rfl (zk (l:=[.tmp 57]) Try.call70 (.cons rfl .nil)) (.nil : Sel [stb z6I 30 [(.int .i64 ((nth z1m z1x).fN)),(.int .i64 ((nth z1m z1x).fD))],fz z44,z1y z6b z4F] [] [stb z6I 30 [(.int .i64 ((nth z1m z1x).fN)),(.int .i64 ((nth z1m z1x).fD))],fz z44,z1y z6b z4F]) (fun w hw=>by have pz:=(hz.call2 hw (.nil : Sel [stb z6I 30 [(.int .i64 ((nth z1m z1x).fN)),(.int .i64 ((nth z1m z1x).fD))],fz z44,z1y z6b z4F] [] [stb z6I 30 [(.int .i64 ((nth z1m z1x).fN)),(.int .i64 ((nth z1m z1x).fD))],fz z44,z1y z6b z4F]) .h1); exact w_rat_Floor (Z:=_)  (z31:=(⟨((nth z1m z1x).fN),((nth z1m z1x).fD)⟩ : z2)) (r:=zha) w pz  zv2) ?_
     refine WL.b (dd:=59) rfl rfl rfl (zk (l:=[.tmp 58]) Try.call65 (.cons rfl .nil)) (.nil : Sel [stb z6I 30 [(.int .i64 ((nth z1m z1x).fN)),(.int .i64 ((nth z1m z1x).fD))],fz z44,z1y z6b z4F] [] [stb z6I 30 [(.int .i64 ((nth z1m z1x).fN)),(.int .i64 ((nth z1m z1x).fD))],fz z44,z1y z6b z4F]) (fun w hw=>by have pz:=(hz.call2 hw (.nil : Sel [stb z6I 30 [(.int .i64 ((nth z1m z1x).fN)),(.int .i64 ((nth z1m z1x).fD))],fz z44,z1y z6b z4F] [] [stb z6I 30 [(.int .i64 ((nth z1m z1x).fN)),(.int .i64 ((nth z1m z1x).fD))],fz z44,z1y z6b z4F]) .h1); exact w_calculus_whole (Z:=_)  (z63:=zha) (r:=zhb) w pz  zv3) ?_
     refine WL.yield (dd:=60) (x:=zhb) (h:=()) (g:=z6b) (s:=z4F) (b:=z69.1) (s':=z69.2) zfj rfl rfl rfl (.cons rfl .nil) ((.cons .h2 .nil) : Sel _ [z1y z6b z4F] _) zv4 zpo (fun w hw=>hz.call hw ((.cons .h2 .nil) : Sel _ [z1y z6b z4F] _)) ?_
     intro z8n zpq
     refine WL.a (d:=61) rfl rfl rfl (q_not rfl) ?_
     refine WL.a (d:=62) rfl rfl rfl (q_m rfl) ?_
     refine WL.cut1 (fun (zcw : z2y)=>z7X zcw zbf.2) (fun (zcw : z2y)=>[(0,(.func (.yield z7W) #[] #[])),(50,(.slice zfh z1m.length zfi)),(51,(.int .i64 ((z1m.length : Nat) : Int))),(52,(.int .i64 z1x)),(69,(.bool zbf.1))]) (fun (zcw : z2y)=>[z1y zcw zbf.2,stb z6I 30 [(.int .i64 ((nth z1m z1x).fN)),(.int .i64 ((nth z1m z1x).fD))],fz z44]) 7 ?_ (fun zcw zpr=>?_)
     ·rcases Bool.eq_false_or_eq_true (!z69.1) with hb' | hb'
      ·have zps:=hb'; clear hb'
       have zkO:=ite_t zpp zps
       replace zkO:=Option.some.inj zkO
       refine WL.pin (i:=62) rfl zps ?_
       refine WL.e rfl rfl rfl ?_
       refine WL.e rfl rfl rfl ?_
       refine WL.e rfl rfl rfl ?_
       refine WL.e rfl rfl rfl ?_
       refine WL.e rfl rfl rfl ?_
       refine WL.e rfl rfl rfl ?_
       refine WL.a (d:=69) rfl rfl rfl (q_pickT rfl rfl) ?_
       subst zkO
       exact WL.cutEnd z8n zpq (.cons rfl (.cons rfl (.cons rfl (.cons rfl (.cons rfl .nil))))) (.cons .here (.cons .here (.cons .here .nil)))
      ·have zpt:=hb'; clear hb'
       have zam:=ite_f zpp zpt
       obtain ⟨zhc,zv5,zam⟩:=zd zam
       obtain ⟨zhd,zv6,zam⟩:=zd zam
       obtain ⟨zff,zv7,zam⟩:=zd zam
       replace zam:=Option.some.inj zam
       refine WL.pin (i:=62) rfl zpt ?_
       refine WL.a (d:=63) rfl rfl rfl (q_m rfl) ?_
       refine WL.a (d:=64) rfl rfl rfl (q_loadA (cs:=[(.int .i64 ((nth z1m z1x).fN)),(.int .i64 ((nth z1m z1x).fD))]) aggT_30 rfl rfl (rd_all .h1)) ?_
       refine WL.b (dd:=65) rfl rfl rfl (zk (l:=[.tmp 64]) Try.call71 (.cons rfl .nil)) (.nil : Sel [z1y z8n z69.2,stb z6I 30 [(.int .i64 ((nth z1m z1x).fN)),(.int .i64 ((nth z1m z1x).fD))],fz z44] [] [z1y z8n z69.2,stb z6I 30 [(.int .i64 ((nth z1m z1x).fN)),(.int .i64 ((nth z1m z1x).fD))],fz z44]) (fun w hw=>by have pz:=(hz.call2 hw (.nil : Sel [z1y z8n z69.2,stb z6I 30 [(.int .i64 ((nth z1m z1x).fN)),(.int .i64 ((nth z1m z1x).fD))],fz z44] [] [z1y z8n z69.2,stb z6I 30 [(.int .i64 ((nth z1m z1x).fN)),(.int .i64 ((nth z1m z1x).fD))],fz z44]) .h2); exact w_rat_Ceil (Z:=_)  (z2Q:=(⟨((nth z1m z1x).fN),((nth z1m z1x).fD)⟩ : z2)) (r:=zhc) w pz  zv5) ?_
       refine WL.b (dd:=66) rfl rfl rfl (zk (l:=[.tmp 65]) Try.call65 (.cons rfl .nil)) (.nil : Sel [z1y z8n z69.2,stb z6I 30 [(.int .i64 ((nth z1m z1x).fN)),(.int .i64 ((nth z1m z1x).fD))],fz z44] [] [z1y z8n z69.2,stb z6I 30 [(.int .i64 ((nth z1m z1x).fN)),(.int .i64 ((nth z1m z1x).fD))],fz z44]) (fun w hw=>by have pz:=(hz.call2 hw (.nil : Sel [z1y z8n z69.2,stb z6I 30 [(.int .i64 ((nth z1m z1x).fN)),(.int .i64 ((nth z1m z1x).fD))],fz z44] [] [z1y z8n z69.2,stb z6I 30 [(.int .i64 ((nth z1m z1x).fN)),(.int .i64 ((nth z1m z1x).fD))],fz z44]) .h2); exact w_calculus_whole (Z:=_)  (z63:=zhc) (r:=zhd) w pz  zv6) ?_
       refine WL.yield (dd:=67) (x:=zhd) (h:=()) (g:=z8n) (s:=z69.2) (b:=zff.1) (s':=zff.2) zfj rfl rfl rfl (.cons rfl .nil) ((.cons .here .nil) : Sel _ [z1y z8n z69.2] _) zv7 zpq (fun w hw=>hz.call hw ((.cons .here .nil) : Sel _ [z1y z8n z69.2] _)) ?_
       intro zv8 zv9
       refine WL.a (d:=68) rfl rfl rfl (q_not rfl) ?_
       refine WL.a (d:=69) rfl rfl rfl (q_pickF rfl rfl) ?_
       subst zam
       exact WL.cutEnd zv8 zv9 (.cons rfl (.cons rfl (.cons rfl (.cons rfl (.cons rfl .nil))))) (.cons .here (.cons .here (.cons .here .nil)))
     ·skip
      refine WL.nil ?_
      refine WX.a ?_
      refine WC.cond rfl (fun zkP=>?_) (fun zkP=>?_)
      ·replace h:=ite_t h zkP
       refine WC.ret ?_
       refine WX.blockRet ?_
       refine WX.thenRet ?_
       refine WX.thenRet ?_
       refine WX.blockRet ?_
       refine WX.thenRet ?_
       obtain rfl:=Option.some.inj h
       refine WX.bpRet Try.results69 .nil (fun w hw=>?_)
       exact ⟨z44,zcw,ret0,zpr,hw.sub (.cons .h2 (.cons .here .nil))⟩
      ·replace h:=ite_f h zkP
       refine WC.skip ?_
       refine WX.blockNormal ?_
       refine WX.a ?_
       refine WC.a ?_
       refine WL.a (d:=70) rfl rfl rfl (q_add rfl rfl rfl) ?_
       refine WL.a (d:=52) rfl rfl rfl (q_m rfl) ?_
       refine WL.nil ?_
       exact WX.round (G:=Nat × Int × zA × z2y) ⟨zkD,(i64 (z1x + 1)),zbf.2,zcw⟩ ⟨h,zpr⟩ (Nat.lt_succ_self _) (.cons rfl (.cons rfl (.cons rfl (.cons rfl .nil)))) (.cons .h2 (.cons .here .nil))
    ·replace h:=ite_f h zkN
     refine WC.exit ?_
     refine WX.thenExit ?_
     refine WX.thenExit ?_
     refine WX.blockHit ?_
     exact WX.mid (G:=zA × z2y) ⟨z4F,z6b⟩ ⟨h,zpo⟩ .nil (.cons .here (.cons .here .nil))
   ·rintro zak zdV ⟨h,zva⟩
    replace h:=(zuZ zak).symm.trans h
    obtain rfl:=Option.some.inj h
    refine WX.bpNormal Try.results69 .nil (fun w hw=>?_)
    exact ⟨z44,zdV,ret0,zva,hw.sub (.cons .here (.cons .here .nil))⟩
def m_rat_do_3 (zcx : z2) (zcy : z2) : Option (Int × Int) :=
 some ((i64 (zcx.fN * zcy.fN)),(i64 (zcx.fD * zcy.fD)))
set_option maxRecDepth 20000 in
theorem w_rat_do_3 (Z : Zp)  (zfl : Addr) (zfm : Addr) (zcx : z2) (zcy : z2) (r : Int × Int) (w₀ : World) (hz : PZ [] w₀ Z)
  (zpu : ZC Z zfl [(.int .i64 zcx.fN),(.int .i64 zcx.fD)])
  (zpv : ZC Z zfm [(.int .i64 zcy.fN),(.int .i64 zcy.fD)])
  (h : m_rat_do_3 zcx zcy = some r) :
  Calls Try.prog 56 #[(.pointer (some zfl)),(.pointer (some zfm))] w₀ fun e w'=>e = .returned (.tuple #[(.int .i64 r.1),(.int .i64 r.2)]) ∧ Hp [] w₀ w' []:=by
 unfold m_rat_do_3 at h
 refine Calls.ofWC (vs:=[(.pointer (some zfl)),(.pointer (some zfm))]) (pre:=[]) (env:=[(0,(.pointer (some zfl))),(1,(.pointer (some zfm)))]) Try.func56 rfl Try.ntmps56 rfl (Hp.nil w₀ _) rfl ?_
 refine WC.b ?_
 refine WC.a ?_
 refine WL.a (d:=2) rfl rfl rfl (q_z rfl) ?_
 refine WL.a (d:=3) rfl rfl rfl (q_z rfl) ?_
 refine WL.nil ?_
 refine WX.a ?_
 refine WC.b ?_
 refine WC.draw (fun i=>[].contains i) [] rfl ?_
 refine WD.a (i:=0) (d:=4) (by kernel_rfl) rfl (z6 (by kernel_rfl)) (z7 (by kernel_rfl)) rfl rfl rfl (fun _=>q_fieldAddr fo_30_0 rfl rfl) ?_
 refine WD.e (i:=1) (d:=5) (by kernel_rfl) rfl (z6 (by kernel_rfl)) (z7 (by kernel_rfl)) rfl rfl rfl (q_load1 oneT_3 rfl (rd_zAt hz.pv zpu rfl)) ?_
 refine WD.a (i:=2) (d:=6) (by kernel_rfl) rfl (z6 (by kernel_rfl)) (z7 (by kernel_rfl)) rfl rfl rfl (fun _=>q_fieldAddr fo_30_0 rfl rfl) ?_
 refine WD.e (i:=3) (d:=7) (by kernel_rfl) rfl (z6 (by kernel_rfl)) (z7 (by kernel_rfl)) rfl rfl rfl (q_load1 oneT_3 rfl (rd_zAt hz.pv zpv rfl)) ?_
 refine WD.a (i:=4) (d:=8) (by kernel_rfl) rfl (z6 (by kernel_rfl)) (z7 (by kernel_rfl)) rfl rfl rfl (fun _=>q_mul rfl rfl rfl) ?_
 refine WD.a (i:=5) (d:=9) (by kernel_rfl) rfl (z6 (by kernel_rfl)) (z7 (by kernel_rfl)) rfl rfl rfl (fun _=>q_fieldAddr fo_30_1 rfl rfl) ?_
 refine WD.e (i:=6) (d:=10) (by kernel_rfl) rfl (z6 (by kernel_rfl)) (z7 (by kernel_rfl)) rfl rfl rfl (q_load1 oneT_3 rfl (rd_zAt hz.pv zpu rfl)) ?_
 refine WD.a (i:=7) (d:=11) (by kernel_rfl) rfl (z6 (by kernel_rfl)) (z7 (by kernel_rfl)) rfl rfl rfl (fun _=>q_fieldAddr fo_30_1 rfl rfl) ?_
 refine WD.e (i:=8) (d:=12) (by kernel_rfl) rfl (z6 (by kernel_rfl)) (z7 (by kernel_rfl)) rfl rfl rfl (q_load1 oneT_3 rfl (rd_zAt hz.pv zpv rfl)) ?_
 refine WD.a (i:=9) (d:=13) (by kernel_rfl) rfl (z6 (by kernel_rfl)) (z7 (by kernel_rfl)) rfl rfl rfl (fun _=>q_mul rfl rfl rfl) ?_
 refine WD.a (i:=10) (d:=2) (by kernel_rfl) rfl (z6 (by kernel_rfl)) (z7 (by kernel_rfl)) rfl rfl rfl (fun _=>q_z rfl) ?_
 refine WD.a (i:=11) (d:=3) (by kernel_rfl) rfl (z6 (by kernel_rfl)) (z7 (by kernel_rfl)) rfl rfl rfl (fun _=>q_z rfl) ?_
 refine WD.done (by kernel_rfl) ?_
 refine WX.a ?_
 refine WC.ret ?_
 obtain rfl:=Option.some.inj h
 refine WX.bpRet Try.results56 (.tmp rfl (.tmp rfl .nil)) (fun w hw=>?_)
 exact ⟨ret2 rfl rfl,hw.sub .nil⟩
def m_rat_dod (z1a : z2) (z1b : z2) : Option (z2 × Int) :=
 (m_rat_Valid z1a).bind fun zhg=>(if !zhg then some true else (m_rat_Valid z1b).bind fun zkQ=>some (!zkQ)).bind fun zfn=>if zfn then some ((⟨0,0⟩ : z2),2) else (m_rat_do_3 z1a z1b).bind fun zdX=>(m_rat_Make zdX.1 zdX.2).bind fun zbi=>some (zbi.1,zbi.2)
set_option maxRecDepth 20000 in
theorem w_rat_dod (Z : Zp)   (z1a : z2) (z1b : z2) (r : z2 × Int) (w₀ : World) (hz : PZ [] w₀ Z)
  (h : m_rat_dod z1a z1b = some r) :
  Calls Try.prog 40 #[(.string ⟨#[42]⟩),(.agg #[(.int .i64 z1a.fN),(.int .i64 z1a.fD)]),(.agg #[(.int .i64 z1b.fN),(.int .i64 z1b.fD)])] w₀ fun e w'=>e = .returned (.tuple #[(.agg #[(.int .i64 r.1.fN),(.int .i64 r.1.fD)]),(.int .i64 r.2)]) ∧ Hp [] w₀ w' []:=by
 unfold m_rat_dod at h
 refine Calls.ofWC (vs:=[(.string ⟨#[42]⟩),(.agg #[(.int .i64 z1a.fN),(.int .i64 z1a.fD)]),(.agg #[(.int .i64 z1b.fN),(.int .i64 z1b.fD)])]) (pre:=[]) (env:=[(0,(.string ⟨#[42]⟩)),(1,(.agg #[(.int .i64 z1a.fN),(.int .i64 z1a.fD)])),(2,(.agg #[(.int .i64 z1b.fN),(.int .i64 z1b.fD)]))]) Try.func40 rfl Try.ntmps40 rfl (Hp.nil w₀ _) rfl ?_
 refine WC.b ?_
 refine WC.a ?_
 refine WL.new (dd:=4) rfl rfl rfl (e_box (cs:=[(.int .i64 z1a.fN),(.int .i64 z1a.fD)]) rfl rfl) ?_
 intro zP _
 refine WL.new (dd:=5) rfl rfl rfl (e_box (cs:=[(.int .i64 z1b.fN),(.int .i64 z1b.fD)]) rfl rfl) ?_
 intro zQ _
 refine WL.new (dd:=6) rfl rfl rfl (e_alloc (cs:=[(.int .i64 0),(.int .i64 0)]) zeroT_30 rfl) ?_
 intro z4i _
 refine WL.a (d:=7) rfl rfl rfl (q_z rfl) ?_
 refine WL.nil ?_
 refine WX.a ?_
 refine WC.b ?_
 refine WC.b ?_
 obtain ⟨zhg,zvb,h⟩:=zd h
 obtain ⟨zfn,zpw,h⟩:=zd h
 refine WC.a ?_
 refine WL.a (d:=9) rfl rfl rfl (q_loadA (cs:=[(.int .i64 z1a.fN),(.int .i64 z1a.fD)]) aggT_30 rfl rfl (rd_all .h2)) ?_
 refine WL.b (dd:=10) rfl rfl rfl (zk (l:=[.tmp 9]) Try.call39 (.cons rfl .nil)) (.nil : Sel [stb z4i 30 [(.int .i64 0),(.int .i64 0)],stb zQ 30 [(.int .i64 z1b.fN),(.int .i64 z1b.fD)],stb zP 30 [(.int .i64 z1a.fN),(.int .i64 z1a.fD)]] [] [stb z4i 30 [(.int .i64 0),(.int .i64 0)],stb zQ 30 [(.int .i64 z1b.fN),(.int .i64 z1b.fD)],stb zP 30 [(.int .i64 z1a.fN),(.int .i64 z1a.fD)]]) (fun w hw=>by have pz:=(hz.call hw (.nil : Sel [stb z4i 30 [(.int .i64 0),(.int .i64 0)],stb zQ 30 [(.int .i64 z1b.fN),(.int .i64 z1b.fD)],stb zP 30 [(.int .i64 z1a.fN),(.int .i64 z1a.fD)]] [] [stb z4i 30 [(.int .i64 0),(.int .i64 0)],stb zQ 30 [(.int .i64 z1b.fN),(.int .i64 z1b.fD)],stb zP 30 [(.int .i64 z1a.fN),(.int .i64 z1a.fD)]])); exact w_rat_Valid (Z:=_)  (z1f:=z1a) (r:=zhg) w pz  zvb) ?_
 refine WL.a (d:=11) rfl rfl rfl (q_not rfl) ?_
 refine WL.a (d:=12) rfl rfl rfl (q_m rfl) ?_
 refine WL.cut0 True [(0,(.string ⟨#[42]⟩)),(4,(.pointer (some ⟨zP,0,none⟩))),(5,(.pointer (some ⟨zQ,0,none⟩))),(6,(.pointer (some ⟨z4i,0,none⟩))),(16,(.bool zfn))] [stb z4i 30 [(.int .i64 0),(.int .i64 0)],stb zQ 30 [(.int .i64 z1b.fN),(.int .i64 z1b.fD)],stb zP 30 [(.int .i64 z1a.fN),(.int .i64 z1a.fD)]] 4 ?_ (fun _=>?_)
 ·rcases Bool.eq_false_or_eq_true (!zhg) with hb' | hb'
  ·have zpx:=hb'; clear hb'
   have zkR:=ite_t zpw zpx
   replace zkR:=Option.some.inj zkR
   refine WL.pin (i:=12) rfl zpx ?_
   refine WL.e rfl rfl rfl ?_
   refine WL.e rfl rfl rfl ?_
   refine WL.e rfl rfl rfl ?_
   refine WL.a (d:=16) rfl rfl rfl (q_pickT rfl rfl) ?_
   exact WL.cutEnd () trivial (.cons rfl (.cons rfl (.cons rfl (.cons rfl (.cons (zr zkR) .nil))))) (.cons .here (.cons .here (.cons .here .nil)))
  ·have zpy:=hb'; clear hb'
   have zfo:=ite_f zpw zpy
   obtain ⟨zkQ,zvc,zfo⟩:=zd zfo
   replace zfo:=Option.some.inj zfo
   refine WL.pin (i:=12) rfl zpy ?_
   refine WL.a (d:=13) rfl rfl rfl (q_loadA (cs:=[(.int .i64 z1b.fN),(.int .i64 z1b.fD)]) aggT_30 rfl rfl (rd_all .h1)) ?_
   refine WL.b (dd:=14) rfl rfl rfl (zk (l:=[.tmp 13]) Try.call39 (.cons rfl .nil)) (.nil : Sel [stb z4i 30 [(.int .i64 0),(.int .i64 0)],stb zQ 30 [(.int .i64 z1b.fN),(.int .i64 z1b.fD)],stb zP 30 [(.int .i64 z1a.fN),(.int .i64 z1a.fD)]] [] [stb z4i 30 [(.int .i64 0),(.int .i64 0)],stb zQ 30 [(.int .i64 z1b.fN),(.int .i64 z1b.fD)],stb zP 30 [(.int .i64 z1a.fN),(.int .i64 z1a.fD)]]) (fun w hw=>by have pz:=(hz.call hw (.nil : Sel [stb z4i 30 [(.int .i64 0),(.int .i64 0)],stb zQ 30 [(.int .i64 z1b.fN),(.int .i64 z1b.fD)],stb zP 30 [(.int .i64 z1a.fN),(.int .i64 z1a.fD)]] [] [stb z4i 30 [(.int .i64 0),(.int .i64 0)],stb zQ 30 [(.int .i64 z1b.fN),(.int .i64 z1b.fD)],stb zP 30 [(.int .i64 z1a.fN),(.int .i64 z1a.fD)]])); exact w_rat_Valid (Z:=_)  (z1f:=z1b) (r:=zkQ) w pz  zvc) ?_
   refine WL.a (d:=15) rfl rfl rfl (q_not rfl) ?_
   refine WL.a (d:=16) rfl rfl rfl (q_pickF rfl rfl) ?_
   exact WL.cutEnd () trivial (.cons rfl (.cons rfl (.cons rfl (.cons rfl (.cons (zr zfo) .nil))))) (.cons .here (.cons .here (.cons .here .nil)))
 ·skip
  refine WL.a (d:=17) rfl rfl rfl (q_m rfl) ?_
  refine WL.cut0 True [(0,(.string ⟨#[42]⟩)),(4,(.pointer (some ⟨zP,0,none⟩))),(5,(.pointer (some ⟨zQ,0,none⟩))),(6,(.pointer (some ⟨z4i,0,none⟩))),(25,(.bool zfn))] [stb z4i 30 [(.int .i64 0),(.int .i64 0)],stb zQ 30 [(.int .i64 z1b.fN),(.int .i64 z1b.fD)],stb zP 30 [(.int .i64 z1a.fN),(.int .i64 z1a.fD)]] 8 ?_ (fun _=>?_)
  ·rcases Bool.eq_false_or_eq_true zfn with hb' | hb'
   ·have zpz:=hb'; clear hb'
    refine WL.pin (i:=17) rfl zpz ?_
    refine WL.e rfl rfl rfl ?_
    refine WL.e rfl rfl rfl ?_
    refine WL.e rfl rfl rfl ?_
    refine WL.e rfl rfl rfl ?_
    refine WL.e rfl rfl rfl ?_
    refine WL.e rfl rfl rfl ?_
    refine WL.e rfl rfl rfl ?_
    refine WL.a (d:=25) rfl rfl rfl (q_pickT rfl rfl) ?_
    exact WL.cutEnd () trivial (.cons rfl (.cons rfl (.cons rfl (.cons rfl (.cons (zr (Eq.symm zpz)) .nil))))) (.cons .here (.cons .here (.cons .here .nil)))
   ·have zpA:=hb'; clear hb'
    refine WL.pin (i:=17) rfl zpA ?_
    refine WL.a (d:=18) rfl rfl rfl (q_m rfl) ?_
    refine WL.a (d:=19) rfl rfl rfl (q_seqlC (r:=false) (by decide) rfl rfl) ?_
    refine WL.a (d:=20) rfl rfl rfl (q_m rfl) ?_
    refine WL.e rfl rfl rfl ?_
    refine WL.e rfl rfl rfl ?_
    refine WL.e rfl rfl rfl ?_
    refine WL.a (d:=24) rfl rfl rfl (q_pickF rfl rfl) ?_
    refine WL.a (d:=25) rfl rfl rfl (q_pickF rfl rfl) ?_
    exact WL.cutEnd () trivial (.cons rfl (.cons rfl (.cons rfl (.cons rfl (.cons (zr (Eq.symm zpA)) .nil))))) (.cons .here (.cons .here (.cons .here .nil)))
  ·skip
   refine WL.nil ?_
   refine WX.a ?_
   refine WC.cond rfl (fun zkS=>?_) (fun zkS=>?_)
   ·replace h:=ite_t h zkS
    refine WC.b ?_
    refine WC.a ?_
    refine WL.a (d:=26) rfl rfl rfl (q_build (v:=(.agg #[(.int .i64 0),(.int .i64 0)])) (Eos.parts (l:=[]) .nil []) (fun _=>by kernel_rfl)) ?_
    refine WL.eff0 rfl rfl (e_store (vs:=[(.int .i64 0),(.int .i64 0)]) (ds:=[(.int .i64 0),(.int .i64 0)]) sizT_30 rfl rfl rfl rfl (oc_cons rfl (oc_cons rfl oc_nil)) .here (Nat.le_of_ble_eq_true rfl) rfl) ?_
    refine WL.a (d:=7) rfl rfl rfl (q_z rfl) ?_
    refine WL.nil ?_
    refine WX.a ?_
    refine WC.ret ?_
    refine WX.thenRet ?_
    obtain rfl:=Option.some.inj h
    refine WX.bpRet Try.results40 (.agg rfl aggT_30 rfl (rd_all .here) (.tmp rfl .nil)) (fun w hw=>?_)
    exact ⟨ret2 rfl rfl,hw.sub .nil⟩
   ·replace h:=ite_f h zkS
    refine WC.skip ?_
    refine WX.a ?_
    refine WC.b ?_
    refine WC.a ?_
    refine WL.new (dd:=27) rfl rfl rfl (e_makeMap Value.string (fun x=>x)) ?_
    intro z7F _
    refine WL.a (d:=28) rfl rfl rfl (q_makeFunc (Eos.caps (l:=[.tmp 4,.tmp 5]) (.cons rfl (.cons rfl .nil)))) ?_
    refine WL.eff0 rfl rfl (e_insert (k:=⟨#[43]⟩) (v:=(.func (.func 54) #[] #[(.pointer (some ⟨zP,0,none⟩)),(.pointer (some ⟨zQ,0,none⟩))])) keyT_9 Try.underlying105 rfl rfl rfl rfl .here) ?_
    refine WL.a (d:=29) rfl rfl rfl (q_makeFunc (Eos.caps (l:=[.tmp 4,.tmp 5]) (.cons rfl (.cons rfl .nil)))) ?_
    refine WL.eff0 rfl rfl (e_insert (k:=⟨#[45]⟩) (v:=(.func (.func 55) #[] #[(.pointer (some ⟨zP,0,none⟩)),(.pointer (some ⟨zQ,0,none⟩))])) keyT_9 Try.underlying105 rfl rfl rfl rfl .here) ?_
    refine WL.a (d:=30) rfl rfl rfl (q_makeFunc (Eos.caps (l:=[.tmp 4,.tmp 5]) (.cons rfl (.cons rfl .nil)))) ?_
    refine WL.eff0 rfl rfl (e_insert (k:=⟨#[42]⟩) (v:=(.func (.func 56) #[] #[(.pointer (some ⟨zP,0,none⟩)),(.pointer (some ⟨zQ,0,none⟩))])) keyT_9 Try.underlying105 rfl rfl rfl rfl .here) ?_
    refine WL.a (d:=31) rfl rfl rfl (q_makeFunc (Eos.caps (l:=[.tmp 4,.tmp 5]) (.cons rfl (.cons rfl .nil)))) ?_
    refine WL.eff0 rfl rfl (e_insert (k:=⟨#[47]⟩) (v:=(.func (.func 57) #[] #[(.pointer (some ⟨zP,0,none⟩)),(.pointer (some ⟨zQ,0,none⟩))])) keyT_9 Try.underlying105 rfl rfl rfl rfl .here) ?_
    refine WL.a (d:=32) rfl rfl rfl (q_m rfl) ?_
    refine WL.a (d:=8) rfl rfl rfl (q_z rfl) ?_
    refine WL.nil ?_
    refine WX.a ?_
    refine WC.b ?_
    obtain ⟨zdX,zvd,h⟩:=zd h
    obtain ⟨zbi,zve,h⟩:=zd h
    refine WC.a ?_
    refine WL.a (d:=33) rfl rfl rfl (q_m rfl) ?_
    refine WL.a (d:=34) rfl rfl rfl (q_m rfl) ?_
    refine WL.a (d:=35) rfl rfl rfl (q_lookC (k:=⟨#[42]⟩) (dflt:=.nilFunc) (r:=(.func (.func 56) #[] #[(.pointer (some ⟨zP,0,none⟩)),(.pointer (some ⟨zQ,0,none⟩))])) keyT_9 Try.underlying105 zgh rfl rfl rfl .here (by rfl)) ?_
    refine WL.b (dd:=36) rfl rfl rfl (run_callv (l:=[]) Try.call56 rfl .nil) (.nil : Sel [mapA z7F Value.string (fun x=>x) [(⟨#[43]⟩,(.func (.func 54) #[] #[(.pointer (some ⟨zP,0,none⟩)),(.pointer (some ⟨zQ,0,none⟩))])),(⟨#[45]⟩,(.func (.func 55) #[] #[(.pointer (some ⟨zP,0,none⟩)),(.pointer (some ⟨zQ,0,none⟩))])),(⟨#[42]⟩,(.func (.func 56) #[] #[(.pointer (some ⟨zP,0,none⟩)),(.pointer (some ⟨zQ,0,none⟩))])),(⟨#[47]⟩,(.func (.func 57) #[] #[(.pointer (some ⟨zP,0,none⟩)),(.pointer (some ⟨zQ,0,none⟩))]))],stb z4i 30 [(.int .i64 0),(.int .i64 0)],stb zQ 30 [(.int .i64 z1b.fN),(.int .i64 z1b.fD)],stb zP 30 [(.int .i64 z1a.fN),(.int .i64 z1a.fD)]] [] [mapA z7F Value.string (fun x=>x) [(⟨#[43]⟩,(.func (.func 54) #[] #[(.pointer (some ⟨zP,0,none⟩)),(.pointer (some ⟨zQ,0,none⟩))])),(⟨#[45]⟩,(.func (.func 55) #[] #[(.pointer (some ⟨zP,0,none⟩)),(.pointer (some ⟨zQ,0,none⟩))])),(⟨#[42]⟩,(.func (.func 56) #[] #[(.pointer (some ⟨zP,0,none⟩)),(.pointer (some ⟨zQ,0,none⟩))])),(⟨#[47]⟩,(.func (.func 57) #[] #[(.pointer (some ⟨zP,0,none⟩)),(.pointer (some ⟨zQ,0,none⟩))]))],stb z4i 30 [(.int .i64 0),(.int .i64 0)],stb zQ 30 [(.int .i64 z1b.fN),(.int .i64 z1b.fD)],stb zP 30 [(.int .i64 z1a.fN),(.int .i64 z1a.fD)]]) (fun w hw=>by have pz:=(hz.call hw (.nil : Sel [mapA z7F Value.string (fun x=>x) [(⟨#[43]⟩,(.func (.func 54) #[] #[(.pointer (some ⟨zP,0,none⟩)),(.pointer (some ⟨zQ,0,none⟩))])),(⟨#[45]⟩,(.func (.func 55) #[] #[(.pointer (some ⟨zP,0,none⟩)),(.pointer (some ⟨zQ,0,none⟩))])),(⟨#[42]⟩,(.func (.func 56) #[] #[(.pointer (some ⟨zP,0,none⟩)),(.pointer (some ⟨zQ,0,none⟩))])),(⟨#[47]⟩,(.func (.func 57) #[] #[(.pointer (some ⟨zP,0,none⟩)),(.pointer (some ⟨zQ,0,none⟩))]))],stb z4i 30 [(.int .i64 0),(.int .i64 0)],stb zQ 30 [(.int .i64 z1b.fN),(.int .i64 z1b.fD)],stb zP 30 [(.int .i64 z1a.fN),(.int .i64 z1a.fD)]] [] [mapA z7F Value.string (fun x=>x) [(⟨#[43]⟩,(.func (.func 54) #[] #[(.pointer (some ⟨zP,0,none⟩)),(.pointer (some ⟨zQ,0,none⟩))])),(⟨#[45]⟩,(.func (.func 55) #[] #[(.pointer (some ⟨zP,0,none⟩)),(.pointer (some ⟨zQ,0,none⟩))])),(⟨#[42]⟩,(.func (.func 56) #[] #[(.pointer (some ⟨zP,0,none⟩)),(.pointer (some ⟨zQ,0,none⟩))])),(⟨#[47]⟩,(.func (.func 57) #[] #[(.pointer (some ⟨zP,0,none⟩)),(.pointer (some ⟨zQ,0,none⟩))]))],stb z4i 30 [(.int .i64 0),(.int .i64 0)],stb zQ 30 [(.int .i64 z1b.fN),(.int .i64 z1b.fD)],stb zP 30 [(.int .i64 z1a.fN),(.int .i64 z1a.fD)]])).lend hw (.nil : Sel [mapA z7F Value.string (fun x=>x) [(⟨#[43]⟩,(.func (.func 54) #[] #[(.pointer (some ⟨zP,0,none⟩)),(.pointer (some ⟨zQ,0,none⟩))])),(⟨#[45]⟩,(.func (.func 55) #[] #[(.pointer (some ⟨zP,0,none⟩)),(.pointer (some ⟨zQ,0,none⟩))])),(⟨#[42]⟩,(.func (.func 56) #[] #[(.pointer (some ⟨zP,0,none⟩)),(.pointer (some ⟨zQ,0,none⟩))])),(⟨#[47]⟩,(.func (.func 57) #[] #[(.pointer (some ⟨zP,0,none⟩)),(.pointer (some ⟨zQ,0,none⟩))]))],stb z4i 30 [(.int .i64 0),(.int .i64 0)],stb zQ 30 [(.int .i64 z1b.fN),(.int .i64 z1b.fD)],stb zP 30 [(.int .i64 z1a.fN),(.int .i64 z1a.fD)]] [] [mapA z7F Value.string (fun x=>x) [(⟨#[43]⟩,(.func (.func 54) #[] #[(.pointer (some ⟨zP,0,none⟩)),(.pointer (some ⟨zQ,0,none⟩))])),(⟨#[45]⟩,(.func (.func 55) #[] #[(.pointer (some ⟨zP,0,none⟩)),(.pointer (some ⟨zQ,0,none⟩))])),(⟨#[42]⟩,(.func (.func 56) #[] #[(.pointer (some ⟨zP,0,none⟩)),(.pointer (some ⟨zQ,0,none⟩))])),(⟨#[47]⟩,(.func (.func 57) #[] #[(.pointer (some ⟨zP,0,none⟩)),(.pointer (some ⟨zQ,0,none⟩))]))],stb z4i 30 [(.int .i64 0),(.int .i64 0)],stb zQ 30 [(.int .i64 z1b.fN),(.int .i64 z1b.fD)],stb zP 30 [(.int .i64 z1a.fN),(.int .i64 z1a.fD)]]) (B:=[stb zP 30 [(.int .i64 z1a.fN),(.int .i64 z1a.fD)],stb zQ 30 [(.int .i64 z1b.fN),(.int .i64 z1b.fD)]]) (fun _ hx'=>((.cons .h3 (.cons .h2 .nil)) : Sel _ [stb zP 30 [(.int .i64 z1a.fN),(.int .i64 z1a.fD)],stb zQ 30 [(.int .i64 z1b.fN),(.int .i64 z1b.fD)]] _).mem hx'); exact w_rat_do_3 (Z:=_) (zfl:=⟨zP,0,none⟩) (zfm:=⟨zQ,0,none⟩) (zcx:=z1a) (zcy:=z1b) (r:=zdX) w pz ((hw.lent (.nil : Sel [mapA z7F Value.string (fun x=>x) [(⟨#[43]⟩,(.func (.func 54) #[] #[(.pointer (some ⟨zP,0,none⟩)),(.pointer (some ⟨zQ,0,none⟩))])),(⟨#[45]⟩,(.func (.func 55) #[] #[(.pointer (some ⟨zP,0,none⟩)),(.pointer (some ⟨zQ,0,none⟩))])),(⟨#[42]⟩,(.func (.func 56) #[] #[(.pointer (some ⟨zP,0,none⟩)),(.pointer (some ⟨zQ,0,none⟩))])),(⟨#[47]⟩,(.func (.func 57) #[] #[(.pointer (some ⟨zP,0,none⟩)),(.pointer (some ⟨zQ,0,none⟩))]))],stb z4i 30 [(.int .i64 0),(.int .i64 0)],stb zQ 30 [(.int .i64 z1b.fN),(.int .i64 z1b.fD)],stb zP 30 [(.int .i64 z1a.fN),(.int .i64 z1a.fD)]] [] [mapA z7F Value.string (fun x=>x) [(⟨#[43]⟩,(.func (.func 54) #[] #[(.pointer (some ⟨zP,0,none⟩)),(.pointer (some ⟨zQ,0,none⟩))])),(⟨#[45]⟩,(.func (.func 55) #[] #[(.pointer (some ⟨zP,0,none⟩)),(.pointer (some ⟨zQ,0,none⟩))])),(⟨#[42]⟩,(.func (.func 56) #[] #[(.pointer (some ⟨zP,0,none⟩)),(.pointer (some ⟨zQ,0,none⟩))])),(⟨#[47]⟩,(.func (.func 57) #[] #[(.pointer (some ⟨zP,0,none⟩)),(.pointer (some ⟨zQ,0,none⟩))]))],stb z4i 30 [(.int .i64 0),(.int .i64 0)],stb zQ 30 [(.int .i64 z1b.fN),(.int .i64 z1b.fD)],stb zP 30 [(.int .i64 z1a.fN),(.int .i64 z1a.fD)]]) (B:=[stb zP 30 [(.int .i64 z1a.fN),(.int .i64 z1a.fD)],stb zQ 30 [(.int .i64 z1b.fN),(.int .i64 z1b.fD)]]) (fun _ hx'=>((.cons .h3 (.cons .h2 .nil)) : Sel _ [stb zP 30 [(.int .i64 z1a.fN),(.int .i64 z1a.fD)],stb zQ 30 [(.int .i64 z1b.fN),(.int .i64 z1b.fD)]] _).mem hx') (.head _) _).stb) ((hw.lent (.nil : Sel [mapA z7F Value.string (fun x=>x) [(⟨#[43]⟩,(.func (.func 54) #[] #[(.pointer (some ⟨zP,0,none⟩)),(.pointer (some ⟨zQ,0,none⟩))])),(⟨#[45]⟩,(.func (.func 55) #[] #[(.pointer (some ⟨zP,0,none⟩)),(.pointer (some ⟨zQ,0,none⟩))])),(⟨#[42]⟩,(.func (.func 56) #[] #[(.pointer (some ⟨zP,0,none⟩)),(.pointer (some ⟨zQ,0,none⟩))])),(⟨#[47]⟩,(.func (.func 57) #[] #[(.pointer (some ⟨zP,0,none⟩)),(.pointer (some ⟨zQ,0,none⟩))]))],stb z4i 30 [(.int .i64 0),(.int .i64 0)],stb zQ 30 [(.int .i64 z1b.fN),(.int .i64 z1b.fD)],stb zP 30 [(.int .i64 z1a.fN),(.int .i64 z1a.fD)]] [] [mapA z7F Value.string (fun x=>x) [(⟨#[43]⟩,(.func (.func 54) #[] #[(.pointer (some ⟨zP,0,none⟩)),(.pointer (some ⟨zQ,0,none⟩))])),(⟨#[45]⟩,(.func (.func 55) #[] #[(.pointer (some ⟨zP,0,none⟩)),(.pointer (some ⟨zQ,0,none⟩))])),(⟨#[42]⟩,(.func (.func 56) #[] #[(.pointer (some ⟨zP,0,none⟩)),(.pointer (some ⟨zQ,0,none⟩))])),(⟨#[47]⟩,(.func (.func 57) #[] #[(.pointer (some ⟨zP,0,none⟩)),(.pointer (some ⟨zQ,0,none⟩))]))],stb z4i 30 [(.int .i64 0),(.int .i64 0)],stb zQ 30 [(.int .i64 z1b.fN),(.int .i64 z1b.fD)],stb zP 30 [(.int .i64 z1a.fN),(.int .i64 z1a.fD)]]) (B:=[stb zP 30 [(.int .i64 z1a.fN),(.int .i64 z1a.fD)],stb zQ 30 [(.int .i64 z1b.fN),(.int .i64 z1b.fD)]]) (fun _ hx'=>((.cons .h3 (.cons .h2 .nil)) : Sel _ [stb zP 30 [(.int .i64 z1a.fN),(.int .i64 z1a.fD)],stb zQ 30 [(.int .i64 z1b.fN),(.int .i64 z1b.fD)]] _).mem hx') (.tail _ (.head _)) _).stb) zvd) ?_
    refine WL.a (d:=37) rfl rfl rfl (q_extract rfl rfl) ?_
    refine WL.a (d:=38) rfl rfl rfl (q_extract rfl rfl) ?_
    refine WL.b (dd:=39) rfl rfl rfl (zk (l:=[.tmp 37,.tmp 38]) Try.call9 (.cons rfl (.cons rfl .nil))) (.nil : Sel [mapA z7F Value.string (fun x=>x) [(⟨#[43]⟩,(.func (.func 54) #[] #[(.pointer (some ⟨zP,0,none⟩)),(.pointer (some ⟨zQ,0,none⟩))])),(⟨#[45]⟩,(.func (.func 55) #[] #[(.pointer (some ⟨zP,0,none⟩)),(.pointer (some ⟨zQ,0,none⟩))])),(⟨#[42]⟩,(.func (.func 56) #[] #[(.pointer (some ⟨zP,0,none⟩)),(.pointer (some ⟨zQ,0,none⟩))])),(⟨#[47]⟩,(.func (.func 57) #[] #[(.pointer (some ⟨zP,0,none⟩)),(.pointer (some ⟨zQ,0,none⟩))]))],stb z4i 30 [(.int .i64 0),(.int .i64 0)],stb zQ 30 [(.int .i64 z1b.fN),(.int .i64 z1b.fD)],stb zP 30 [(.int .i64 z1a.fN),(.int .i64 z1a.fD)]] [] [mapA z7F Value.string (fun x=>x) [(⟨#[43]⟩,(.func (.func 54) #[] #[(.pointer (some ⟨zP,0,none⟩)),(.pointer (some ⟨zQ,0,none⟩))])),(⟨#[45]⟩,(.func (.func 55) #[] #[(.pointer (some ⟨zP,0,none⟩)),(.pointer (some ⟨zQ,0,none⟩))])),(⟨#[42]⟩,(.func (.func 56) #[] #[(.pointer (some ⟨zP,0,none⟩)),(.pointer (some ⟨zQ,0,none⟩))])),(⟨#[47]⟩,(.func (.func 57) #[] #[(.pointer (some ⟨zP,0,none⟩)),(.pointer (some ⟨zQ,0,none⟩))]))],stb z4i 30 [(.int .i64 0),(.int .i64 0)],stb zQ 30 [(.int .i64 z1b.fN),(.int .i64 z1b.fD)],stb zP 30 [(.int .i64 z1a.fN),(.int .i64 z1a.fD)]]) (fun w hw=>by have pz:=(hz.call hw (.nil : Sel [mapA z7F Value.string (fun x=>x) [(⟨#[43]⟩,(.func (.func 54) #[] #[(.pointer (some ⟨zP,0,none⟩)),(.pointer (some ⟨zQ,0,none⟩))])),(⟨#[45]⟩,(.func (.func 55) #[] #[(.pointer (some ⟨zP,0,none⟩)),(.pointer (some ⟨zQ,0,none⟩))])),(⟨#[42]⟩,(.func (.func 56) #[] #[(.pointer (some ⟨zP,0,none⟩)),(.pointer (some ⟨zQ,0,none⟩))])),(⟨#[47]⟩,(.func (.func 57) #[] #[(.pointer (some ⟨zP,0,none⟩)),(.pointer (some ⟨zQ,0,none⟩))]))],stb z4i 30 [(.int .i64 0),(.int .i64 0)],stb zQ 30 [(.int .i64 z1b.fN),(.int .i64 z1b.fD)],stb zP 30 [(.int .i64 z1a.fN),(.int .i64 z1a.fD)]] [] [mapA z7F Value.string (fun x=>x) [(⟨#[43]⟩,(.func (.func 54) #[] #[(.pointer (some ⟨zP,0,none⟩)),(.pointer (some ⟨zQ,0,none⟩))])),(⟨#[45]⟩,(.func (.func 55) #[] #[(.pointer (some ⟨zP,0,none⟩)),(.pointer (some ⟨zQ,0,none⟩))])),(⟨#[42]⟩,(.func (.func 56) #[] #[(.pointer (some ⟨zP,0,none⟩)),(.pointer (some ⟨zQ,0,none⟩))])),(⟨#[47]⟩,(.func (.func 57) #[] #[(.pointer (some ⟨zP,0,none⟩)),(.pointer (some ⟨zQ,0,none⟩))]))],stb z4i 30 [(.int .i64 0),(.int .i64 0)],stb zQ 30 [(.int .i64 z1b.fN),(.int .i64 z1b.fD)],stb zP 30 [(.int .i64 z1a.fN),(.int .i64 z1a.fD)]])); exact w_rat_Make (Z:=_)  (z6C:=zdX.1) (z64:=zdX.2) (r:=zbi) w pz  zve) ?_
    refine WL.a (d:=40) rfl rfl rfl (q_extract rfl rfl) ?_
    refine WL.a (d:=41) rfl rfl rfl (q_extract rfl rfl) ?_
    refine WL.eff0 rfl rfl (e_store (vs:=[(.int .i64 zbi.1.fN),(.int .i64 zbi.1.fD)]) (ds:=[(.int .i64 zbi.1.fN),(.int .i64 zbi.1.fD)]) sizT_30 rfl rfl rfl rfl (oc_cons rfl (oc_cons rfl oc_nil)) .h1 (Nat.le_of_ble_eq_true rfl) rfl) ?_
    refine WL.a (d:=7) rfl rfl rfl (q_z rfl) ?_
    refine WL.nil ?_
    refine WX.a ?_
    refine WC.ret ?_
    obtain rfl:=Option.some.inj h
    refine WX.bpRet Try.results40 (.agg rfl aggT_30 rfl (rd_all .here) (.tmp rfl .nil)) (fun w hw=>?_)
    exact ⟨ret2 rfl rfl,hw.sub .nil⟩
def m_rat_Mul (z4G : z2) (z4H : z2) : Option (z2 × Int) :=
 (m_rat_dod z4G z4H).bind fun zbj=>some (zbj.1,zbj.2)
set_option maxRecDepth 20000 in
theorem w_rat_Mul (Z : Zp)   (z4G : z2) (z4H : z2) (r : z2 × Int) (w₀ : World) (hz : PZ [] w₀ Z)
  (h : m_rat_Mul z4G z4H = some r) :
  Calls Try.prog 25 #[(.agg #[(.int .i64 z4G.fN),(.int .i64 z4G.fD)]),(.agg #[(.int .i64 z4H.fN),(.int .i64 z4H.fD)])] w₀ fun e w'=>e = .returned (.tuple #[(.agg #[(.int .i64 r.1.fN),(.int .i64 r.1.fD)]),(.int .i64 r.2)]) ∧ Hp [] w₀ w' []:=by
 unfold m_rat_Mul at h
 refine Calls.ofWC (vs:=[(.agg #[(.int .i64 z4G.fN),(.int .i64 z4G.fD)]),(.agg #[(.int .i64 z4H.fN),(.int .i64 z4H.fD)])]) (pre:=[]) (env:=[(0,(.agg #[(.int .i64 z4G.fN),(.int .i64 z4G.fD)])),(1,(.agg #[(.int .i64 z4H.fN),(.int .i64 z4H.fD)]))]) Try.func25 rfl Try.ntmps25 rfl (Hp.nil w₀ _) rfl ?_
 refine WC.b ?_
 refine WC.a ?_
 refine WL.new (dd:=2) rfl rfl rfl (e_box (cs:=[(.int .i64 z4G.fN),(.int .i64 z4G.fD)]) rfl rfl) ?_
 intro zhh _
 refine WL.new (dd:=3) rfl rfl rfl (e_box (cs:=[(.int .i64 z4H.fN),(.int .i64 z4H.fD)]) rfl rfl) ?_
 intro zhi _
 refine WL.new (dd:=4) rfl rfl rfl (e_alloc (cs:=[(.int .i64 0),(.int .i64 0)]) zeroT_30 rfl) ?_
 intro zhj _
 refine WL.a (d:=5) rfl rfl rfl (q_z rfl) ?_
 refine WL.nil ?_
 refine WX.a ?_
 refine WC.b ?_
 obtain ⟨zbj,zvf,h⟩:=zd h
 refine WC.a ?_
 refine WL.a (d:=6) rfl rfl rfl (q_loadA (cs:=[(.int .i64 z4G.fN),(.int .i64 z4G.fD)]) aggT_30 rfl rfl (rd_all .h2)) ?_
 refine WL.a (d:=7) rfl rfl rfl (q_loadA (cs:=[(.int .i64 z4H.fN),(.int .i64 z4H.fD)]) aggT_30 rfl rfl (rd_all .h1)) ?_
 refine WL.b (dd:=8) rfl rfl rfl (zk (l:=[.const (.string ⟨#[42]⟩),.tmp 6,.tmp 7]) Try.call40 (.cons rfl (.cons rfl (.cons rfl .nil)))) (.nil : Sel [stb zhj 30 [(.int .i64 0),(.int .i64 0)],stb zhi 30 [(.int .i64 z4H.fN),(.int .i64 z4H.fD)],stb zhh 30 [(.int .i64 z4G.fN),(.int .i64 z4G.fD)]] [] [stb zhj 30 [(.int .i64 0),(.int .i64 0)],stb zhi 30 [(.int .i64 z4H.fN),(.int .i64 z4H.fD)],stb zhh 30 [(.int .i64 z4G.fN),(.int .i64 z4G.fD)]]) (fun w hw=>by have pz:=(hz.call hw (.nil : Sel [stb zhj 30 [(.int .i64 0),(.int .i64 0)],stb zhi 30 [(.int .i64 z4H.fN),(.int .i64 z4H.fD)],stb zhh 30 [(.int .i64 z4G.fN),(.int .i64 z4G.fD)]] [] [stb zhj 30 [(.int .i64 0),(.int .i64 0)],stb zhi 30 [(.int .i64 z4H.fN),(.int .i64 z4H.fD)],stb zhh 30 [(.int .i64 z4G.fN),(.int .i64 z4G.fD)]])); exact w_rat_dod (Z:=_)  (z1a:=z4G) (z1b:=z4H) (r:=zbj) w pz  zvf) ?_
 refine WL.a (d:=9) rfl rfl rfl (q_extract rfl rfl) ?_
 refine WL.a (d:=10) rfl rfl rfl (q_extract rfl rfl) ?_
 refine WL.eff0 rfl rfl (e_store (vs:=[(.int .i64 zbj.1.fN),(.int .i64 zbj.1.fD)]) (ds:=[(.int .i64 zbj.1.fN),(.int .i64 zbj.1.fD)]) sizT_30 rfl rfl rfl rfl (oc_cons rfl (oc_cons rfl oc_nil)) .here (Nat.le_of_ble_eq_true rfl) rfl) ?_
 refine WL.a (d:=5) rfl rfl rfl (q_z rfl) ?_
 refine WL.nil ?_
 refine WX.a ?_
 refine WC.ret ?_
 obtain rfl:=Option.some.inj h
 refine WX.bpRet Try.results25 (.agg rfl aggT_30 rfl (rd_all .here) (.tmp rfl .nil)) (fun w hw=>?_)
 exact ⟨ret2 rfl rfl,hw.sub .nil⟩
def m_curve_calc_value (z6J : z2j) (z10 : z1) (z2R : z2) : Option (z2 × z2j) :=
 (m_curve_calc_do z6J (fun (y0 : z2) (y1 : z2)=>m_rat_Mul y0 y1) z10.fRate z2R).bind fun z8o=>(m_curve_calc_do z8o.2 (fun (y0 : z2) (y1 : z2)=>m_rat_Add y0 y1) z10.fBurst z8o.1).bind fun zbk=>some (zbk.1,zbk.2)
set_option maxRecDepth 20000 in
theorem w_curve_calc_value (Z : Zp)  (z4p : Nat) (z6J : z2j) (z10 : z1) (z2R : z2) (r : z2 × z2j) (w₀ : World) (hz : PZ (fps [stb z4p 90 [(.int .i64 z6J.fE)]]) w₀ Z)
  (h : m_curve_calc_value z6J z10 z2R = some r)
  (hown : Hp (fps [stb z4p 90 [(.int .i64 z6J.fE)]]) w₀ w₀ [stb z4p 90 [(.int .i64 z6J.fE)]]) :
  Calls Try.prog 45 #[(.pointer (some ⟨z4p,0,none⟩)),(.agg #[(.int .i64 z10.fBurst.fN),(.int .i64 z10.fBurst.fD),(.int .i64 z10.fRate.fN),(.int .i64 z10.fRate.fD)]),(.agg #[(.int .i64 z2R.fN),(.int .i64 z2R.fD)])] w₀ fun e w'=>e = .returned (.agg #[(.int .i64 r.1.fN),(.int .i64 r.1.fD)]) ∧ Hp (fps [stb z4p 90 [(.int .i64 z6J.fE)]]) w₀ w' [stb z4p 90 [(.int .i64 r.2.fE)]]:=by
 unfold m_curve_calc_value at h
 refine Calls.ofWC (vs:=[(.pointer (some ⟨z4p,0,none⟩)),(.agg #[(.int .i64 z10.fBurst.fN),(.int .i64 z10.fBurst.fD),(.int .i64 z10.fRate.fN),(.int .i64 z10.fRate.fD)]),(.agg #[(.int .i64 z2R.fN),(.int .i64 z2R.fD)])]) (pre:=[stb z4p 90 [(.int .i64 z6J.fE)]]) (env:=[(0,(.pointer (some ⟨z4p,0,none⟩))),(1,(.agg #[(.int .i64 z10.fBurst.fN),(.int .i64 z10.fBurst.fD),(.int .i64 z10.fRate.fN),(.int .i64 z10.fRate.fD)])),(2,(.agg #[(.int .i64 z2R.fN),(.int .i64 z2R.fD)]))]) Try.func45 rfl Try.ntmps45 rfl (hown) rfl ?_
 refine WC.b ?_
 refine WC.a ?_
 refine WL.new (dd:=4) rfl rfl rfl (e_box (cs:=[(.int .i64 z10.fBurst.fN),(.int .i64 z10.fBurst.fD),(.int .i64 z10.fRate.fN),(.int .i64 z10.fRate.fD)]) rfl rfl) ?_
 intro z7Y _
 refine WL.new (dd:=5) rfl rfl rfl (e_box (cs:=[(.int .i64 z2R.fN),(.int .i64 z2R.fD)]) rfl rfl) ?_
 intro z8p _
 refine WL.new (dd:=6) rfl rfl rfl (e_alloc (cs:=[(.int .i64 0),(.int .i64 0)]) zeroT_30 rfl) ?_
 intro z8q _
 refine WL.nil ?_
 refine WX.a ?_
 refine WC.b ?_
 obtain ⟨z8o,zvg,h⟩:=zd h
 obtain ⟨zbk,zvh,h⟩:=zd h
 refine WC.draw (fun i=>[7,8,9].contains i) [stb z7Y 35 [(.int .i64 z10.fBurst.fN),(.int .i64 z10.fBurst.fD),(.int .i64 z10.fRate.fN),(.int .i64 z10.fRate.fD)]] rfl ?_
 refine WD.a (i:=0) (d:=7) (by kernel_rfl) rfl (z6 (by kernel_rfl)) (z7 (by kernel_rfl)) rfl rfl rfl (fun _=>q_m rfl) ?_
 refine WD.a (i:=1) (d:=8) (by kernel_rfl) rfl (z6 (by kernel_rfl)) (z7 (by kernel_rfl)) rfl rfl rfl (fun _=>q_fieldAddr fo_35_0 rfl rfl) ?_
 refine WD.stable (i:=2) (d:=9) (by kernel_rfl) rfl (z6 (by kernel_rfl)) (z7 (by kernel_rfl)) rfl rfl rfl (Sin.of (.cons .h2 .nil)) (q_loadA (cs:=[(.int .i64 z10.fBurst.fN),(.int .i64 z10.fBurst.fD)]) aggT_30 rfl rfl (rd_sub (s:=2) .here rfl)) ?_
 refine WD.a (i:=3) (d:=10) (by kernel_rfl) rfl (z6 (by kernel_rfl)) (z7 (by kernel_rfl)) rfl rfl rfl (fun _=>q_m rfl) ?_
 refine WD.a (i:=4) (d:=11) (by kernel_rfl) rfl (z6 (by kernel_rfl)) (z7 (by kernel_rfl)) rfl rfl rfl (fun _=>q_fieldAddr fo_35_1 rfl rfl) ?_
 refine WD.e (i:=5) (d:=12) (by kernel_rfl) rfl (z6 (by kernel_rfl)) (z7 (by kernel_rfl)) rfl rfl rfl (q_loadA (cs:=[(.int .i64 z10.fRate.fN),(.int .i64 z10.fRate.fD)]) aggT_30 rfl rfl (rd_sub (s:=2) .h2 rfl)) ?_
 refine WD.e (i:=6) (d:=13) (by kernel_rfl) rfl (z6 (by kernel_rfl)) (z7 (by kernel_rfl)) rfl rfl rfl (q_loadA (cs:=[(.int .i64 z2R.fN),(.int .i64 z2R.fD)]) aggT_30 rfl rfl (rd_all .h1)) ?_
 refine WD.call0 (i:=7) (dd:=14) rfl (by kernel_rfl) rfl rfl rfl (.inl ⟨rfl,(Sin.of (.cons .h3 .nil))⟩) (zk (l:=[.tmp 10,.func 25,.tmp 12,.tmp 13]) Try.call58 (.cons rfl (.cons rfl (.cons rfl (.cons rfl .nil))))) ((.cons .h3 .nil) : Sel [stb z8q 30 [(.int .i64 0),(.int .i64 0)],stb z8p 30 [(.int .i64 z2R.fN),(.int .i64 z2R.fD)],stb z7Y 35 [(.int .i64 z10.fBurst.fN),(.int .i64 z10.fBurst.fD),(.int .i64 z10.fRate.fN),(.int .i64 z10.fRate.fD)],stb z4p 90 [(.int .i64 z6J.fE)]] [stb z4p 90 [(.int .i64 z6J.fE)]] [stb z8q 30 [(.int .i64 0),(.int .i64 0)],stb z8p 30 [(.int .i64 z2R.fN),(.int .i64 z2R.fD)],stb z7Y 35 [(.int .i64 z10.fBurst.fN),(.int .i64 z10.fBurst.fD),(.int .i64 z10.fRate.fN),(.int .i64 z10.fRate.fD)]]) (fun w hw=>by have pz:=(hz.call hw ((.cons .h3 .nil) : Sel [stb z8q 30 [(.int .i64 0),(.int .i64 0)],stb z8p 30 [(.int .i64 z2R.fN),(.int .i64 z2R.fD)],stb z7Y 35 [(.int .i64 z10.fBurst.fN),(.int .i64 z10.fBurst.fD),(.int .i64 z10.fRate.fN),(.int .i64 z10.fRate.fD)],stb z4p 90 [(.int .i64 z6J.fE)]] [stb z4p 90 [(.int .i64 z6J.fE)]] [stb z8q 30 [(.int .i64 0),(.int .i64 0)],stb z8p 30 [(.int .i64 z2R.fN),(.int .i64 z2R.fD)],stb z7Y 35 [(.int .i64 z10.fBurst.fN),(.int .i64 z10.fBurst.fD),(.int .i64 z10.fRate.fN),(.int .i64 z10.fRate.fD)]])); exact Calls.mono (w_curve_calc_do (Z:=_) (z7y:=z4p) (z8d:=25) (z9i:=[]) (z7x:=z6J) (za4:=(fun (y0 : z2) (y1 : z2)=>m_rat_Mul y0 y1)) (z5H:=z10.fRate) (z5I:=z2R) (r:=z8o) w pz Try.call25 (fun w' hz' y0 y1  r  hr=>w_rat_Mul (Z:=_)  (z4G:=y0) (z4H:=y1) (r:=r) w' hz'  hr) zvg (hw.owns ((.cons .h3 .nil) : Sel [stb z8q 30 [(.int .i64 0),(.int .i64 0)],stb z8p 30 [(.int .i64 z2R.fN),(.int .i64 z2R.fD)],stb z7Y 35 [(.int .i64 z10.fBurst.fN),(.int .i64 z10.fBurst.fD),(.int .i64 z10.fRate.fN),(.int .i64 z10.fRate.fD)],stb z4p 90 [(.int .i64 z6J.fE)]] [stb z4p 90 [(.int .i64 z6J.fE)]] [stb z8q 30 [(.int .i64 0),(.int .i64 0)],stb z8p 30 [(.int .i64 z2R.fN),(.int .i64 z2R.fD)],stb z7Y 35 [(.int .i64 z10.fBurst.fN),(.int .i64 z10.fBurst.fD),(.int .i64 z10.fRate.fN),(.int .i64 z10.fRate.fD)]]))) (fun _ _ h'=>⟨h'.1,trivial,h'.2⟩)) ?_
 intro _
 refine WD.call0 (i:=8) (dd:=15) rfl (by kernel_rfl) rfl rfl rfl (.inl ⟨rfl,(Sin.of (.cons .h3 .nil))⟩) (zk (l:=[.tmp 7,.func 19,.tmp 9,.tmp 14]) Try.call58 (.cons rfl (.cons rfl (.cons rfl (.cons rfl .nil))))) ((.cons .here .nil) : Sel [stb z4p 90 [(.int .i64 z8o.2.fE)],stb z8q 30 [(.int .i64 0),(.int .i64 0)],stb z8p 30 [(.int .i64 z2R.fN),(.int .i64 z2R.fD)],stb z7Y 35 [(.int .i64 z10.fBurst.fN),(.int .i64 z10.fBurst.fD),(.int .i64 z10.fRate.fN),(.int .i64 z10.fRate.fD)]] [stb z4p 90 [(.int .i64 z8o.2.fE)]] [stb z8q 30 [(.int .i64 0),(.int .i64 0)],stb z8p 30 [(.int .i64 z2R.fN),(.int .i64 z2R.fD)],stb z7Y 35 [(.int .i64 z10.fBurst.fN),(.int .i64 z10.fBurst.fD),(.int .i64 z10.fRate.fN),(.int .i64 z10.fRate.fD)]]) (fun w hw=>by have pz:=(hz.call hw ((.cons .here .nil) : Sel [stb z4p 90 [(.int .i64 z8o.2.fE)],stb z8q 30 [(.int .i64 0),(.int .i64 0)],stb z8p 30 [(.int .i64 z2R.fN),(.int .i64 z2R.fD)],stb z7Y 35 [(.int .i64 z10.fBurst.fN),(.int .i64 z10.fBurst.fD),(.int .i64 z10.fRate.fN),(.int .i64 z10.fRate.fD)]] [stb z4p 90 [(.int .i64 z8o.2.fE)]] [stb z8q 30 [(.int .i64 0),(.int .i64 0)],stb z8p 30 [(.int .i64 z2R.fN),(.int .i64 z2R.fD)],stb z7Y 35 [(.int .i64 z10.fBurst.fN),(.int .i64 z10.fBurst.fD),(.int .i64 z10.fRate.fN),(.int .i64 z10.fRate.fD)]])); exact Calls.mono (w_curve_calc_do (Z:=_) (z7y:=z4p) (z8d:=19) (z9i:=[]) (z7x:=z8o.2) (za4:=(fun (y0 : z2) (y1 : z2)=>m_rat_Add y0 y1)) (z5H:=z10.fBurst) (z5I:=z8o.1) (r:=zbk) w pz Try.call19 (fun w' hz' y0 y1  r  hr=>w_rat_Add (Z:=_)  (z3I:=y0) (z3J:=y1) (r:=r) w' hz'  hr) zvh (hw.owns ((.cons .here .nil) : Sel [stb z4p 90 [(.int .i64 z8o.2.fE)],stb z8q 30 [(.int .i64 0),(.int .i64 0)],stb z8p 30 [(.int .i64 z2R.fN),(.int .i64 z2R.fD)],stb z7Y 35 [(.int .i64 z10.fBurst.fN),(.int .i64 z10.fBurst.fD),(.int .i64 z10.fRate.fN),(.int .i64 z10.fRate.fD)]] [stb z4p 90 [(.int .i64 z8o.2.fE)]] [stb z8q 30 [(.int .i64 0),(.int .i64 0)],stb z8p 30 [(.int .i64 z2R.fN),(.int .i64 z2R.fD)],stb z7Y 35 [(.int .i64 z10.fBurst.fN),(.int .i64 z10.fBurst.fD),(.int .i64 z10.fRate.fN),(.int .i64 z10.fRate.fD)]]))) (fun _ _ h'=>⟨h'.1,trivial,h'.2⟩)) ?_
 intro _
 refine WD.last0 (i:=9) rfl (by kernel_rfl) rfl rfl rfl (by kernel_rfl) (e_store (vs:=[(.int .i64 zbk.1.fN),(.int .i64 zbk.1.fD)]) (ds:=[(.int .i64 zbk.1.fN),(.int .i64 zbk.1.fD)]) sizT_30 rfl rfl rfl rfl (oc_cons rfl (oc_cons rfl oc_nil)) .h1 (Nat.le_of_ble_eq_true rfl) rfl) ?_
 refine WD.done (by kernel_rfl) ?_
 refine WX.a ?_
 refine WC.ret ?_
 obtain rfl:=Option.some.inj h
 refine WX.bpRet Try.results45 (.agg rfl aggT_30 rfl (rd_all .here) .nil) (fun w hw=>?_)
 exact ⟨ret1 rfl,hw.sub (.cons .h1 .nil)⟩
def m_slices_MinFunc_api_Rat_api_Rat_L2 (z2l : List z2) (z8r : z2 → z2 → Option Int) (zan : Int → Int → Option z2) : Nat → Int → Int → Int → Option z2
 | 0,_,_,_=>none
 | zkT + 1,z3m,z78,z79=>if decide (z3m < ((z2l.length : Nat) : Int)) then jp2 (fun (zao : Int) (zap : Int)=>m_slices_MinFunc_api_Rat_api_Rat_L2 z2l z8r zan zkT (i64 (z3m + 1)) zao zap) fun zhk=>chk ((0 : Int) ≤ z3m ∧ z3m < ((z2l.length : Nat) : Int)) ((z8r (⟨((nth z2l z3m).fN),((nth z2l z3m).fD)⟩ : z2) (⟨z78,z79⟩ : z2)).bind fun zkU=>if decide (zkU < 0) then chk ((0 : Int) ≤ z3m ∧ z3m < ((z2l.length : Nat) : Int)) (zhk ((nth z2l z3m).fN) ((nth z2l z3m).fD)) else zhk z78 z79) else zan z78 z79
theorem m_slices_MinFunc_api_Rat_api_Rat_L2_fuel {n : Nat} {z2l : List z2} {z8r : z2 → z2 → Option Int} {zan : Int → Int → Option z2} {z3m : Int} {z78 : Int} {z79 : Int} {r : z2} (h : m_slices_MinFunc_api_Rat_api_Rat_L2 z2l z8r zan n z3m z78 z79 = some r) : ∃ m,n = m + 1:=by
 cases n with
 | zero=>cases h
 | succ m=>exact ⟨m,rfl⟩
def m_slices_MinFunc_api_Rat_api_Rat (z2l : List z2) (z8r : z2 → z2 → Option Int) : Option z2 :=
 if decide (((z2l.length : Nat) : Int) < 1) then none else chk ((0 : Int) ≤ 0 ∧ 0 < ((z2l.length : Nat) : Int)) (jp2 (fun (z8X : Int) (z8Y : Int)=>some (⟨z8X,z8Y⟩ : z2)) fun zan=>m_slices_MinFunc_api_Rat_api_Rat_L2 z2l z8r zan FUEL 1 ((nth z2l 0).fN) ((nth z2l 0).fD))
set_option maxRecDepth 20000 in
theorem w_slices_MinFunc_api_Rat_api_Rat (Z : Zp)  (zbl : Option Addr) (zbm : Nat) (z8Z : FuncId) (zaq : List Value) (z2l : List z2) (z8r : z2 → z2 → Option Int) (r : z2) (w₀ : World) (hz : PZ [] w₀ Z)
  (zkV : ZS Z 2 (fun r x=>r = e30 x) zbl zbm z2l)
  (zvi : ∀ args w,(callFunc z8Z args).run Try.prog w = .ok (.enter z8Z args) w)
  (zvj : ∀ w : World,PZ [] w Z → ∀ (x0 : z2) (x1 : z2) (r : Int),z8r x0 x1 = some r → Calls Try.prog z8Z (([(.agg #[(.int .i64 x0.fN),(.int .i64 x0.fD)]),(.agg #[(.int .i64 x1.fN),(.int .i64 x1.fD)])] : List Value) ++ zaq).toArray w fun e w'=>e = .returned (.int .i64 r) ∧ Hp [] w w' [])
  (h : m_slices_MinFunc_api_Rat_api_Rat z2l z8r = some r) :
  Calls Try.prog 46 #[(.slice zbl z2l.length zbm),(.func (.func z8Z) #[] (zaq).toArray)] w₀ fun e w'=>e = .returned (.agg #[(.int .i64 r.fN),(.int .i64 r.fD)]) ∧ Hp [] w₀ w' []:=by
 unfold m_slices_MinFunc_api_Rat_api_Rat at h
 refine Calls.ofWC (vs:=[(.slice zbl z2l.length zbm),(.func (.func z8Z) #[] (zaq).toArray)]) (pre:=[]) (env:=[(0,(.slice zbl z2l.length zbm)),(1,(.func (.func z8Z) #[] (zaq).toArray))]) Try.func46 rfl Try.ntmps46 rfl (Hp.nil w₀ _) rfl ?_
 refine WC.b ?_
 refine WC.a ?_
 refine WL.new (dd:=4) rfl rfl rfl (e_alloc (cs:=[(.int .i64 0),(.int .i64 0)]) zeroT_30 rfl) ?_
 intro zdY _
 refine WL.nil ?_
 refine WX.a ?_
 refine WC.b ?_
 refine WC.b ?_
 refine WC.a ?_
 refine WL.a (d:=7) rfl rfl rfl (q_m rfl) ?_
 refine WL.a (d:=8) rfl rfl rfl (q_len Try.underlying77 rfl) ?_
 refine WL.a (d:=9) rfl rfl rfl (q_lss rfl rfl) ?_
 refine WL.nil ?_
 refine WX.a ?_
 refine WC.cond rfl (fun zkW=>?_) (fun zkW=>?_)
 ·replace h:=ite_t h zkW
  cases h
 ·replace h:=ite_f h zkW
  refine WC.skip ?_
  refine WX.a ?_
  refine WC.b ?_
  obtain ⟨zvk,h⟩:=chk_elim h
  refine WC.a ?_
  refine WL.a (d:=11) rfl rfl rfl (q_m rfl) ?_
  refine WL.znth (dd:=12) rfl rfl (Z:=Z) (Pr:=(fun r x=>r = e30 x)) elT_77 rfl rfl zkV zvk ?_
  rintro zAu zAv zvl zAw rfl
  refine WL.a (d:=13) rfl rfl rfl (q_loadA (cs:=[(.int .i64 ((nth z2l 0).fN)),(.int .i64 ((nth z2l 0).fD))]) aggT_30 rfl rfl (rd_zs hz.pv zvl)) ?_
  refine WL.new (dd:=5) rfl rfl rfl (e_alloc (cs:=[(.int .i64 0),(.int .i64 0)]) zeroT_30 rfl) ?_
  intro zdZ _
  refine WL.eff0 rfl rfl (e_store (vs:=[(.int .i64 ((nth z2l 0).fN)),(.int .i64 ((nth z2l 0).fD))]) (ds:=[(.int .i64 ((nth z2l 0).fN)),(.int .i64 ((nth z2l 0).fD))]) sizT_30 rfl rfl rfl rfl (oc_cons rfl (oc_cons rfl oc_nil)) .here (Nat.le_of_ble_eq_true rfl) rfl) ?_
  refine WL.nil ?_
  refine WX.a ?_
  obtain ⟨zan,zvm,h⟩:=jp2_elim h
  refine WC.seqMid2 (fun (z8X : Int) (z8Y : Int)=>(zan z8X z8Y = some r)) (fun (z8X : Int) (z8Y : Int)=>[(4,(.pointer (some ⟨zdY,0,none⟩))),(5,(.pointer (some ⟨zdZ,0,none⟩)))]) (fun (z8X : Int) (z8Y : Int)=>[stb zdY 30 [(.int .i64 0),(.int .i64 0)],stb zdZ 30 [(.int .i64 z8X),(.int .i64 z8Y)]]) ?_ ?_
  ·skip
   refine WC.b ?_
   refine WC.a ?_
   refine WL.a (d:=6) rfl rfl rfl (q_z rfl) ?_
   refine WL.nil ?_
   refine WX.a ?_
   refine WC.block ?_
   refine WC.loop4 (fun (ze0 : Nat) (z3m : Int) (z78 : Int) (z79 : Int)=>(m_slices_MinFunc_api_Rat_api_Rat_L2 z2l z8r zan ze0 z3m z78 z79 = some r)) (fun (ze0 : Nat) (z3m : Int) (z78 : Int) (z79 : Int)=>[(0,(.slice zbl z2l.length zbm)),(1,(.func (.func z8Z) #[] (zaq).toArray)),(4,(.pointer (some ⟨zdY,0,none⟩))),(5,(.pointer (some ⟨zdZ,0,none⟩))),(6,(.int .i64 z3m))]) (fun (ze0 : Nat) (z3m : Int) (z78 : Int) (z79 : Int)=>[stb zdY 30 [(.int .i64 0),(.int .i64 0)],stb zdZ 30 [(.int .i64 z78),(.int .i64 z79)]]) (fun (ze0 : Nat) (z3m : Int) (z78 : Int) (z79 : Int)=>ze0) ⟨FUEL,1,((nth z2l 0).fN),((nth z2l 0).fD)⟩ h (.cons rfl (.cons rfl (.cons rfl (.cons rfl (.cons rfl .nil))))) (.cons .h1 (.cons .here .nil)) ?_
   rintro ze0 z3m z78 z79 h
   obtain ⟨zkT,rfl⟩:=m_slices_MinFunc_api_Rat_api_Rat_L2_fuel h
   rw [m_slices_MinFunc_api_Rat_api_Rat_L2] at h
   refine WC.b ?_
   refine WC.b ?_
   refine WC.a ?_
   refine WL.a (d:=14) rfl rfl rfl (q_m rfl) ?_
   refine WL.a (d:=15) rfl rfl rfl (q_m rfl) ?_
   refine WL.a (d:=16) rfl rfl rfl (q_len Try.underlying77 rfl) ?_
   refine WL.a (d:=17) rfl rfl rfl (q_lss rfl rfl) ?_
   refine WL.nil ?_
   refine WX.a ?_
   refine WC.cond rfl (fun zkX=>?_) (fun zkX=>?_)
   ·replace h:=ite_t h zkX
    refine WC.skip ?_
    refine WX.a ?_
    obtain ⟨zhk,zvn,h⟩:=jp2_elim h
    refine WC.seqMid2 (fun (zao : Int) (zap : Int)=>(zhk zao zap = some r)) (fun (zao : Int) (zap : Int)=>[(0,(.slice zbl z2l.length zbm)),(1,(.func (.func z8Z) #[] (zaq).toArray)),(4,(.pointer (some ⟨zdY,0,none⟩))),(5,(.pointer (some ⟨zdZ,0,none⟩))),(6,(.int .i64 z3m))]) (fun (zao : Int) (zap : Int)=>[stb zdY 30 [(.int .i64 0),(.int .i64 0)],stb zdZ 30 [(.int .i64 zao),(.int .i64 zap)]]) ?_ ?_
    ·skip
     refine WC.block ?_
     refine WC.b ?_
     obtain ⟨zvo,h⟩:=chk_elim h
     obtain ⟨zkU,zvp,h⟩:=zd h
     refine WC.draw (fun i=>[].contains i) [] rfl ?_
     refine WD.a (i:=0) (d:=20) (by kernel_rfl) rfl (z6 (by kernel_rfl)) (z7 (by kernel_rfl)) rfl rfl rfl (fun _=>q_m rfl) ?_
     refine WD.a (i:=1) (d:=21) (by kernel_rfl) rfl (z6 (by kernel_rfl)) (z7 (by kernel_rfl)) rfl rfl rfl (fun _=>q_m rfl) ?_
     refine WD.a (i:=2) (d:=22) (by kernel_rfl) rfl (z6 (by kernel_rfl)) (z7 (by kernel_rfl)) rfl rfl rfl (fun _=>q_m rfl) ?_
     refine WD.znth (j:=3) (dd:=23) (by kernel_rfl) rfl (z6 (by kernel_rfl)) (z7 (by kernel_rfl)) rfl rfl (Z:=Z) (Pr:=(fun r x=>r = e30 x)) elT_77 rfl rfl zkV zvo ?_
     rintro zAx zAy zvq zAz rfl
     refine WD.e (i:=4) (d:=24) (by kernel_rfl) rfl (z6 (by kernel_rfl)) (z7 (by kernel_rfl)) rfl rfl rfl (q_loadA (cs:=[(.int .i64 ((nth z2l z3m).fN)),(.int .i64 ((nth z2l z3m).fD))]) aggT_30 rfl rfl (rd_zs hz.pv zvq)) ?_
     refine WD.e (i:=5) (d:=25) (by kernel_rfl) rfl (z6 (by kernel_rfl)) (z7 (by kernel_rfl)) rfl rfl rfl (q_loadA (cs:=[(.int .i64 z78),(.int .i64 z79)]) aggT_30 rfl rfl (rd_all .h1)) ?_
     refine WD.c (i:=6) (d:=26) (by kernel_rfl) rfl (z6 (by kernel_rfl)) (z7 (by kernel_rfl)) rfl rfl rfl (run_callv (l:=[.tmp 24,.tmp 25]) (f:=z8Z) (caps:=zaq) zvi rfl (.cons rfl (.cons rfl .nil))) (fun w hw=>zvj w (hz.now hw) (⟨((nth z2l z3m).fN),((nth z2l z3m).fD)⟩ : z2) (⟨z78,z79⟩ : z2) zkU  zvp) ?_
     refine WD.a (i:=7) (d:=27) (by kernel_rfl) rfl (z6 (by kernel_rfl)) (z7 (by kernel_rfl)) rfl rfl rfl (fun _=>q_lss rfl rfl) ?_
     refine WD.done (by kernel_rfl) ?_
     refine WX.a ?_
     refine WC.cond rfl (fun zkY=>?_) (fun zkY=>?_)
     ·replace h:=ite_t h zkY
      obtain ⟨zvr,h⟩:=chk_elim h
      refine WC.a ?_
      refine WL.a (d:=28) rfl rfl rfl (q_m rfl) ?_
      refine WL.a (d:=29) rfl rfl rfl (q_m rfl) ?_
      refine WL.znth (dd:=30) rfl rfl (Z:=Z) (Pr:=(fun r x=>r = e30 x)) elT_77 rfl rfl zkV zvr ?_
      rintro zAA zAB zvs zAC rfl
      refine WL.a (d:=31) rfl rfl rfl (q_loadA (cs:=[(.int .i64 ((nth z2l z3m).fN)),(.int .i64 ((nth z2l z3m).fD))]) aggT_30 rfl rfl (rd_zs hz.pv zvs)) ?_
      refine WL.eff0 rfl rfl (e_store (vs:=[(.int .i64 ((nth z2l z3m).fN)),(.int .i64 ((nth z2l z3m).fD))]) (ds:=[(.int .i64 ((nth z2l z3m).fN)),(.int .i64 ((nth z2l z3m).fD))]) sizT_30 rfl rfl rfl rfl (oc_cons rfl (oc_cons rfl oc_nil)) .h1 (Nat.le_of_ble_eq_true rfl) rfl) ?_
      refine WL.nil ?_
      refine WX.blockNormal ?_
      exact WX.mid (G:=Int × Int) ⟨((nth z2l z3m).fN),((nth z2l z3m).fD)⟩ h (.cons rfl (.cons rfl (.cons rfl (.cons rfl (.cons rfl .nil))))) (.cons .h1 (.cons .here .nil))
     ·replace h:=ite_f h zkY
      refine WC.skip ?_
      refine WX.blockNormal ?_
      exact WX.mid (G:=Int × Int) ⟨z78,z79⟩ h (.cons rfl (.cons rfl (.cons rfl (.cons rfl (.cons rfl .nil))))) (.cons .here (.cons .here .nil))
    ·rintro zao zap h
     replace h:=(zvn zao zap).symm.trans h
     refine WC.a ?_
     refine WL.a (d:=18) rfl rfl rfl (q_m rfl) ?_
     refine WL.a (d:=19) rfl rfl rfl (q_add rfl rfl rfl) ?_
     refine WL.a (d:=6) rfl rfl rfl (q_z rfl) ?_
     refine WL.nil ?_
     exact WX.round (G:=Nat × Int × Int × Int) ⟨zkT,(i64 (z3m + 1)),zao,zap⟩ h (Nat.lt_succ_self _) (.cons rfl (.cons rfl (.cons rfl (.cons rfl (.cons rfl .nil))))) (.cons .here (.cons .here .nil))
   ·replace h:=ite_f h zkX
    refine WC.exit ?_
    refine WX.thenExit ?_
    refine WX.thenExit ?_
    refine WX.blockHit ?_
    exact WX.mid (G:=Int × Int) ⟨z78,z79⟩ h (.cons rfl (.cons rfl .nil)) (.cons .here (.cons .here .nil))
  ·rintro z8X z8Y h
   replace h:=(zvm z8X z8Y).symm.trans h
   refine WC.b ?_
   refine WC.a ?_
   refine WL.a (d:=32) rfl rfl rfl (q_loadA (cs:=[(.int .i64 z8X),(.int .i64 z8Y)]) aggT_30 rfl rfl (rd_all .h1)) ?_
   refine WL.eff0 rfl rfl (e_store (vs:=[(.int .i64 z8X),(.int .i64 z8Y)]) (ds:=[(.int .i64 z8X),(.int .i64 z8Y)]) sizT_30 rfl rfl rfl rfl (oc_cons rfl (oc_cons rfl oc_nil)) .here (Nat.le_of_ble_eq_true rfl) rfl) ?_
   refine WL.nil ?_
   refine WX.a ?_
   refine WC.ret ?_
   obtain rfl:=Option.some.inj h
   refine WX.bpRet Try.results46 (.agg rfl aggT_30 rfl (rd_all .here) .nil) (fun w hw=>?_)
   exact ⟨ret1 rfl,hw.sub .nil⟩
def m_curve_At_L2 (z1n : List z1) (z23 : z2) (zar : (List z2) → Int → Option (z2 × Int)) : Nat → (List z2) → Int → Int → Option (z2 × Int)
 | 0,_,_,_=>none
 | zkZ + 1,z3A,z1Q,z5O=>if decide (z1Q < ((z1n.length : Nat) : Int)) then chk ((0 : Int) ≤ z1Q ∧ z1Q < ((z1n.length : Nat) : Int)) ((m_curve_calc_value (⟨z5O⟩ : z2j) (⟨(⟨(((nth z1n z1Q).fBurst).fN),(((nth z1n z1Q).fBurst).fD)⟩ : z2),(⟨(((nth z1n z1Q).fRate).fN),(((nth z1n z1Q).fRate).fD)⟩ : z2)⟩ : z1) z23).bind fun z9s=>chk ((((z3A ++ ([z9s.1] : List z2)).length : Nat) : Int) * 16 ≤ 140737488355328 ∧ (((z3A ++ ([z9s.1] : List z2)).length : Nat) : Int) ≤ 4611686018427387904) (m_curve_At_L2 z1n z23 zar zkZ (z3A ++ ([z9s.1] : List z2)) (i64 (z1Q + 1)) z9s.2.fE)) else zar z3A z5O
theorem m_curve_At_L2_fuel {n : Nat} {z1n : List z1} {z23 : z2} {zar : (List z2) → Int → Option (z2 × Int)} {z3A : List z2} {z1Q : Int} {z5O : Int} {r : z2 × Int} (h : m_curve_At_L2 z1n z23 zar n z3A z1Q z5O = some r) : ∃ m,n = m + 1:=by
 cases n with
 | zero=>cases h
 | succ m=>exact ⟨m,rfl⟩
def m_curve_At (z1n : List z1) (z23 : z2) : Option (z2 × Int) :=
 (m_curve_Valid z1n).bind fun zhl=>(if !zhl then some true else (m_curve_good z23).bind fun zl0=>some (!zl0)).bind fun zl1=>if zl1 then some ((⟨0,0⟩ : z2),2) else jp2 (fun (z3h : List z2) (z6c : Int)=>if decide (z6c ≠ 0) then some ((⟨0,0⟩ : z2),z6c) else (m_slices_MinFunc_api_Rat_api_Rat z3h (fun (y0 : z2) (y1 : z2)=>m_rat_Cmp y0 y1)).bind fun zcz=>some (zcz,0)) fun zar=>m_curve_At_L2 z1n z23 zar FUEL ([] : List z2) 0 0
set_option maxRecDepth 20000 in
theorem w_curve_At (Z : Zp)  (zas : Option Addr) (zat : Nat) (z1n : List z1) (z23 : z2) (r : z2 × Int) (w₀ : World) (hz : PZ [] w₀ Z)
  (zpB : ZS Z 4 (fun r x=>r = e35 x) zas zat z1n)
  (h : m_curve_At z1n z23 = some r) :
  Calls Try.prog 22 #[(.slice zas z1n.length zat),(.agg #[(.int .i64 z23.fN),(.int .i64 z23.fD)])] w₀ fun e w'=>e = .returned (.tuple #[(.agg #[(.int .i64 r.1.fN),(.int .i64 r.1.fD)]),(.int .i64 r.2)]) ∧ Hp [] w₀ w' []:=by
 unfold m_curve_At at h
 refine Calls.ofWC (vs:=[(.slice zas z1n.length zat),(.agg #[(.int .i64 z23.fN),(.int .i64 z23.fD)])]) (pre:=[]) (env:=[(0,(.slice zas z1n.length zat)),(1,(.agg #[(.int .i64 z23.fN),(.int .i64 z23.fD)]))]) Try.func22 rfl Try.ntmps22 rfl (Hp.nil w₀ _) rfl ?_
 refine WC.b ?_
 refine WC.a ?_
 refine WL.new (dd:=3) rfl rfl rfl (e_box (cs:=[(.int .i64 z23.fN),(.int .i64 z23.fD)]) rfl rfl) ?_
 intro z6d _
 refine WL.new (dd:=4) rfl rfl rfl (e_alloc (cs:=[(.int .i64 0),(.int .i64 0)]) zeroT_30 rfl) ?_
 intro z3R _
 refine WL.a (d:=5) rfl rfl rfl (q_z rfl) ?_
 refine WL.nil ?_
 refine WX.a ?_
 refine WC.b ?_
 refine WC.b ?_
 obtain ⟨zhl,zvt,h⟩:=zd h
 obtain ⟨zl1,zpC,h⟩:=zd h
 refine WC.a ?_
 refine WL.a (d:=10) rfl rfl rfl (q_m rfl) ?_
 refine WL.b (dd:=11) rfl rfl rfl (zk (l:=[.tmp 10]) Try.call30 (.cons rfl .nil)) (.nil : Sel [stb z3R 30 [(.int .i64 0),(.int .i64 0)],stb z6d 30 [(.int .i64 z23.fN),(.int .i64 z23.fD)]] [] [stb z3R 30 [(.int .i64 0),(.int .i64 0)],stb z6d 30 [(.int .i64 z23.fN),(.int .i64 z23.fD)]]) (fun w hw=>by have pz:=(hz.call hw (.nil : Sel [stb z3R 30 [(.int .i64 0),(.int .i64 0)],stb z6d 30 [(.int .i64 z23.fN),(.int .i64 z23.fD)]] [] [stb z3R 30 [(.int .i64 0),(.int .i64 0)],stb z6d 30 [(.int .i64 z23.fN),(.int .i64 z23.fD)]])); exact w_curve_Valid (Z:=_) (z8b:=zas) (z8c:=zat) (z4Z:=z1n) (r:=zhl) w pz zpB zvt) ?_
 refine WL.a (d:=12) rfl rfl rfl (q_not rfl) ?_
 refine WL.a (d:=13) rfl rfl rfl (q_m rfl) ?_
 refine WL.cut0 True [(0,(.slice zas z1n.length zat)),(3,(.pointer (some ⟨z6d,0,none⟩))),(4,(.pointer (some ⟨z3R,0,none⟩))),(17,(.bool zl1))] [stb z3R 30 [(.int .i64 0),(.int .i64 0)],stb z6d 30 [(.int .i64 z23.fN),(.int .i64 z23.fD)]] 4 ?_ (fun _=>?_)
 ·rcases Bool.eq_false_or_eq_true (!zhl) with hb' | hb'
  ·have zpD:=hb'; clear hb'
   have zl2:=ite_t zpC zpD
   replace zl2:=Option.some.inj zl2
   refine WL.pin (i:=13) rfl zpD ?_
   refine WL.e rfl rfl rfl ?_
   refine WL.e rfl rfl rfl ?_
   refine WL.e rfl rfl rfl ?_
   refine WL.a (d:=17) rfl rfl rfl (q_pickT rfl rfl) ?_
   exact WL.cutEnd () trivial (.cons rfl (.cons rfl (.cons rfl (.cons (zr zl2) .nil)))) (.cons .here (.cons .here .nil))
  ·have zpE:=hb'; clear hb'
   have zfp:=ite_f zpC zpE
   obtain ⟨zl0,zvu,zfp⟩:=zd zfp
   replace zfp:=Option.some.inj zfp
   refine WL.pin (i:=13) rfl zpE ?_
   refine WL.a (d:=14) rfl rfl rfl (q_loadA (cs:=[(.int .i64 z23.fN),(.int .i64 z23.fD)]) aggT_30 rfl rfl (rd_all .h1)) ?_
   refine WL.b (dd:=15) rfl rfl rfl (zk (l:=[.tmp 14]) Try.call44 (.cons rfl .nil)) (.nil : Sel [stb z3R 30 [(.int .i64 0),(.int .i64 0)],stb z6d 30 [(.int .i64 z23.fN),(.int .i64 z23.fD)]] [] [stb z3R 30 [(.int .i64 0),(.int .i64 0)],stb z6d 30 [(.int .i64 z23.fN),(.int .i64 z23.fD)]]) (fun w hw=>by have pz:=(hz.call hw (.nil : Sel [stb z3R 30 [(.int .i64 0),(.int .i64 0)],stb z6d 30 [(.int .i64 z23.fN),(.int .i64 z23.fD)]] [] [stb z3R 30 [(.int .i64 0),(.int .i64 0)],stb z6d 30 [(.int .i64 z23.fN),(.int .i64 z23.fD)]])); exact w_curve_good (Z:=_)  (z3y:=z23) (r:=zl0) w pz  zvu) ?_
   refine WL.a (d:=16) rfl rfl rfl (q_not rfl) ?_
   refine WL.a (d:=17) rfl rfl rfl (q_pickF rfl rfl) ?_
   exact WL.cutEnd () trivial (.cons rfl (.cons rfl (.cons rfl (.cons (zr zfp) .nil)))) (.cons .here (.cons .here .nil))
 ·skip
  refine WL.nil ?_
  refine WX.a ?_
  refine WC.cond rfl (fun zl3=>?_) (fun zl3=>?_)
  ·replace h:=ite_t h zl3
   refine WC.b ?_
   refine WC.a ?_
   refine WL.a (d:=18) rfl rfl rfl (q_build (v:=(.agg #[(.int .i64 0),(.int .i64 0)])) (Eos.parts (l:=[]) .nil []) (fun _=>by kernel_rfl)) ?_
   refine WL.eff0 rfl rfl (e_store (vs:=[(.int .i64 0),(.int .i64 0)]) (ds:=[(.int .i64 0),(.int .i64 0)]) sizT_30 rfl rfl rfl rfl (oc_cons rfl (oc_cons rfl oc_nil)) .here (Nat.le_of_ble_eq_true rfl) rfl) ?_
   refine WL.a (d:=5) rfl rfl rfl (q_z rfl) ?_
   refine WL.nil ?_
   refine WX.a ?_
   refine WC.ret ?_
   refine WX.thenRet ?_
   obtain rfl:=Option.some.inj h
   refine WX.bpRet Try.results22 (.agg rfl aggT_30 rfl (rd_all .here) (.tmp rfl .nil)) (fun w hw=>?_)
   exact ⟨ret2 rfl rfl,hw.sub .nil⟩
  ·replace h:=ite_f h zl3
   refine WC.skip ?_
   refine WX.a ?_
   refine WC.b ?_
   refine WC.a ?_
   refine WL.new (dd:=6) rfl rfl rfl (e_alloc (cs:=[(.int .i64 0)]) zeroT_90 rfl) ?_
   intro z5x _
   refine WL.nil ?_
   refine WX.a ?_
   refine WC.b ?_
   refine WC.a ?_
   refine WL.a (d:=7) rfl rfl rfl (q_z rfl) ?_
   refine WL.nil ?_
   refine WX.a ?_
   obtain ⟨zar,zvv,h⟩:=jp2_elim h
   refine WC.seqMid4 (fun (z3h : List z2) (z6c : Int) (z6e : Option Addr) (z6f : Nat)=>(zar z3h z6c = some r)) (fun (z3h : List z2) (z6c : Int) (z6e : Option Addr) (z6f : Nat)=>[(4,(.pointer (some ⟨z3R,0,none⟩))),(6,(.pointer (some ⟨z5x,0,none⟩))),(7,(.slice z6e z3h.length z6f))]) (fun (z3h : List z2) (z6c : Int) (z6e : Option Addr) (z6f : Nat)=>[row (.slice z6e z3h.length z6f) 30 2 (z3h.flatMap e30),stb z3R 30 [(.int .i64 0),(.int .i64 0)],stb z5x 90 [(.int .i64 z6c)]]) ?_ ?_
   ·skip
    refine WC.b ?_
    refine WC.a ?_
    refine WL.a (d:=19) rfl rfl rfl (q_m rfl) ?_
    refine WL.a (d:=20) rfl rfl rfl (q_len Try.underlying39 rfl) ?_
    refine WL.a (d:=21) rfl rfl rfl (q_m rfl) ?_
    refine WL.nil ?_
    refine WX.a ?_
    refine WC.block ?_
    refine WC.nilRow 30 2 ?_
    refine WC.loop6 (fun (ze1 : Nat) (z3A : List z2) (z1Q : Int) (z5O : Int) (z7Z : Option Addr) (z80 : Nat)=>(m_curve_At_L2 z1n z23 zar ze1 z3A z1Q z5O = some r)) (fun (ze1 : Nat) (z3A : List z2) (z1Q : Int) (z5O : Int) (z7Z : Option Addr) (z80 : Nat)=>[(3,(.pointer (some ⟨z6d,0,none⟩))),(4,(.pointer (some ⟨z3R,0,none⟩))),(6,(.pointer (some ⟨z5x,0,none⟩))),(7,(.slice z7Z z3A.length z80)),(19,(.slice zas z1n.length zat)),(20,(.int .i64 ((z1n.length : Nat) : Int))),(21,(.int .i64 z1Q))]) (fun (ze1 : Nat) (z3A : List z2) (z1Q : Int) (z5O : Int) (z7Z : Option Addr) (z80 : Nat)=>[row (.slice z7Z z3A.length z80) 30 2 (z3A.flatMap e30),stb z6d 30 [(.int .i64 z23.fN),(.int .i64 z23.fD)],stb z3R 30 [(.int .i64 0),(.int .i64 0)],stb z5x 90 [(.int .i64 z5O)]]) (fun (ze1 : Nat) (z3A : List z2) (z1Q : Int) (z5O : Int) (z7Z : Option Addr) (z80 : Nat)=>ze1) ⟨FUEL,([] : List z2),0,0,none,0⟩ h (.cons rfl (.cons rfl (.cons rfl (.cons rfl (.cons rfl (.cons rfl (.cons rfl .nil))))))) (.cons .here (.cons .h2 (.cons .h1 (.cons .here .nil)))) ?_
    rintro ze1 z3A z1Q z5O z7Z z80 h
    obtain ⟨zkZ,rfl⟩:=m_curve_At_L2_fuel h
    rw [m_curve_At_L2] at h
    refine WC.b ?_
    refine WC.a ?_
    refine WL.a (d:=22) rfl rfl rfl (q_lss rfl rfl) ?_
    refine WL.nil ?_
    refine WX.a ?_
    refine WC.b ?_
    refine WC.cond rfl (fun zl4=>?_) (fun zl4=>?_)
    ·replace h:=ite_t h zl4
     refine WC.skip ?_
     refine WX.a ?_
     refine WC.b ?_
     refine WC.block ?_
     refine WC.b ?_
     obtain ⟨zvw,h⟩:=chk_elim h
     refine WC.a ?_
     refine WL.znth (dd:=23) rfl rfl (Z:=Z) (Pr:=(fun r x=>r = e35 x)) elT_39 rfl rfl zpB zvw ?_
     rintro zAD zAE zvx zAF rfl
     refine WL.a (d:=24) rfl rfl rfl (q_loadA (cs:=[(.int .i64 (((nth z1n z1Q).fBurst).fN)),(.int .i64 (((nth z1n z1Q).fBurst).fD)),(.int .i64 (((nth z1n z1Q).fRate).fN)),(.int .i64 (((nth z1n z1Q).fRate).fD))]) aggT_35 rfl rfl (rd_zs hz.pv zvx)) ?_
     refine WL.new (dd:=9) rfl rfl rfl (e_alloc (cs:=[(.int .i64 0),(.int .i64 0),(.int .i64 0),(.int .i64 0)]) zeroT_35 rfl) ?_
     intro ze2 _
     refine WL.eff0 rfl rfl (e_store (vs:=[(.int .i64 (((nth z1n z1Q).fBurst).fN)),(.int .i64 (((nth z1n z1Q).fBurst).fD)),(.int .i64 (((nth z1n z1Q).fRate).fN)),(.int .i64 (((nth z1n z1Q).fRate).fD))]) (ds:=[(.int .i64 (((nth z1n z1Q).fBurst).fN)),(.int .i64 (((nth z1n z1Q).fBurst).fD)),(.int .i64 (((nth z1n z1Q).fRate).fN)),(.int .i64 (((nth z1n z1Q).fRate).fD))]) sizT_35 rfl rfl rfl rfl (oc_cons rfl (oc_cons rfl (oc_cons rfl (oc_cons rfl oc_nil)))) .here (Nat.le_of_ble_eq_true rfl) rfl) ?_
     refine WL.nil ?_
     refine WX.a ?_
     obtain ⟨z9s,zvy,h⟩:=zd h
     obtain ⟨zvz,h⟩:=chk_elim h
     refine WC.a ?_
     refine WL.a (d:=25) rfl rfl rfl (q_m rfl) ?_
     refine WL.a (d:=26) rfl rfl rfl (q_loadA (cs:=[(.int .i64 (((nth z1n z1Q).fBurst).fN)),(.int .i64 (((nth z1n z1Q).fBurst).fD)),(.int .i64 (((nth z1n z1Q).fRate).fN)),(.int .i64 (((nth z1n z1Q).fRate).fD))]) aggT_35 rfl rfl (rd_all .here)) ?_
     refine WL.a (d:=27) rfl rfl rfl (q_loadA (cs:=[(.int .i64 z23.fN),(.int .i64 z23.fD)]) aggT_30 rfl rfl (rd_all .h2)) ?_
     refine WL.b (dd:=28) rfl rfl rfl (zk (l:=[.tmp 6,.tmp 26,.tmp 27]) Try.call45 (.cons rfl (.cons rfl (.cons rfl .nil)))) ((.cons .h4 .nil) : Sel [stb ze2 35 [(.int .i64 (((nth z1n z1Q).fBurst).fN)),(.int .i64 (((nth z1n z1Q).fBurst).fD)),(.int .i64 (((nth z1n z1Q).fRate).fN)),(.int .i64 (((nth z1n z1Q).fRate).fD))],row (.slice z7Z z3A.length z80) 30 2 (z3A.flatMap e30),stb z6d 30 [(.int .i64 z23.fN),(.int .i64 z23.fD)],stb z3R 30 [(.int .i64 0),(.int .i64 0)],stb z5x 90 [(.int .i64 z5O)]] [stb z5x 90 [(.int .i64 z5O)]] [stb ze2 35 [(.int .i64 (((nth z1n z1Q).fBurst).fN)),(.int .i64 (((nth z1n z1Q).fBurst).fD)),(.int .i64 (((nth z1n z1Q).fRate).fN)),(.int .i64 (((nth z1n z1Q).fRate).fD))],row (.slice z7Z z3A.length z80) 30 2 (z3A.flatMap e30),stb z6d 30 [(.int .i64 z23.fN),(.int .i64 z23.fD)],stb z3R 30 [(.int .i64 0),(.int .i64 0)]]) (fun w hw=>by have pz:=(hz.call hw ((.cons .h4 .nil) : Sel [stb ze2 35 [(.int .i64 (((nth z1n z1Q).fBurst).fN)),(.int .i64 (((nth z1n z1Q).fBurst).fD)),(.int .i64 (((nth z1n z1Q).fRate).fN)),(.int .i64 (((nth z1n z1Q).fRate).fD))],row (.slice z7Z z3A.length z80) 30 2 (z3A.flatMap e30),stb z6d 30 [(.int .i64 z23.fN),(.int .i64 z23.fD)],stb z3R 30 [(.int .i64 0),(.int .i64 0)],stb z5x 90 [(.int .i64 z5O)]] [stb z5x 90 [(.int .i64 z5O)]] [stb ze2 35 [(.int .i64 (((nth z1n z1Q).fBurst).fN)),(.int .i64 (((nth z1n z1Q).fBurst).fD)),(.int .i64 (((nth z1n z1Q).fRate).fN)),(.int .i64 (((nth z1n z1Q).fRate).fD))],row (.slice z7Z z3A.length z80) 30 2 (z3A.flatMap e30),stb z6d 30 [(.int .i64 z23.fN),(.int .i64 z23.fD)],stb z3R 30 [(.int .i64 0),(.int .i64 0)]])); exact w_curve_calc_value (Z:=_) (z4p:=z5x) (z6J:=(⟨z5O⟩ : z2j)) (z10:=(⟨(⟨(((nth z1n z1Q).fBurst).fN),(((nth z1n z1Q).fBurst).fD)⟩ : z2),(⟨(((nth z1n z1Q).fRate).fN),(((nth z1n z1Q).fRate).fD)⟩ : z2)⟩ : z1)) (z2R:=z23) (r:=z9s) w pz  zvy (hw.owns ((.cons .h4 .nil) : Sel [stb ze2 35 [(.int .i64 (((nth z1n z1Q).fBurst).fN)),(.int .i64 (((nth z1n z1Q).fBurst).fD)),(.int .i64 (((nth z1n z1Q).fRate).fN)),(.int .i64 (((nth z1n z1Q).fRate).fD))],row (.slice z7Z z3A.length z80) 30 2 (z3A.flatMap e30),stb z6d 30 [(.int .i64 z23.fN),(.int .i64 z23.fD)],stb z3R 30 [(.int .i64 0),(.int .i64 0)],stb z5x 90 [(.int .i64 z5O)]] [stb z5x 90 [(.int .i64 z5O)]] [stb ze2 35 [(.int .i64 (((nth z1n z1Q).fBurst).fN)),(.int .i64 (((nth z1n z1Q).fBurst).fD)),(.int .i64 (((nth z1n z1Q).fRate).fN)),(.int .i64 (((nth z1n z1Q).fRate).fD))],row (.slice z7Z z3A.length z80) 30 2 (z3A.flatMap e30),stb z6d 30 [(.int .i64 z23.fN),(.int .i64 z23.fD)],stb z3R 30 [(.int .i64 0),(.int .i64 0)]]))) ?_
     refine WL.new (dd:=29) rfl rfl rfl (e_buildSlice (cs:=([z9s.1] : List z2).flatMap e30) elT_77 (Eos.parts (l:=[.tmp 28]) (.cons rfl .nil) [0]) (fun _=>by kernel_rfl) rfl (by unfold maxLen; omega)) ?_
     intro zAG _
     refine WL.eff (d:=30) rfl rfl rfl (e_appendF (enc:=e30) (l1:=z3A) (l2:=([z9s.1] : List z2)) elT_77 rfl rfl .h3 (fun _=>rfl) rfl rfl (news_row .here) (oc_flat e30_oc _) zvz) ?_
     rintro ⟨zvA,zvB⟩ _
     refine WL.a (d:=7) rfl rfl rfl (q_z rfl) ?_
     refine WL.nil ?_
     refine WX.blockNormal ?_
     refine WX.a ?_
     refine WC.a ?_
     refine WL.a (d:=31) rfl rfl rfl (q_add rfl rfl rfl) ?_
     refine WL.a (d:=21) rfl rfl rfl (q_m rfl) ?_
     refine WL.nil ?_
     exact WX.round (G:=Nat × List z2 × Int × Int × Option Addr × Nat) ⟨zkZ,(z3A ++ ([z9s.1] : List z2)),(i64 (z1Q + 1)),z9s.2.fE,zvA,zvB⟩ h (Nat.lt_succ_self _) (.cons rfl (.cons rfl (.cons rfl (.cons rfl (.cons rfl (.cons rfl (.cons rfl .nil))))))) (.cons .here (.cons .h3 (.cons .h3 (.cons .h1 .nil))))
    ·replace h:=ite_f h zl4
     refine WC.exit ?_
     refine WX.thenExit ?_
     refine WX.thenExit ?_
     refine WX.blockHit ?_
     exact WX.mid (G:=List z2 × Int × Option Addr × Nat) ⟨z3A,z5O,z7Z,z80⟩ h (.cons rfl (.cons rfl (.cons rfl .nil))) (.cons .here (.cons .h1 (.cons .h1 .nil)))
   ·rintro z3h z6c z6e z6f h
    replace h:=(zvv z3h z6c).symm.trans h
    refine WC.b ?_
    refine WC.b ?_
    refine WC.a ?_
    refine WL.a (d:=32) rfl rfl rfl (q_fieldAddr fo_90_0 rfl rfl) ?_
    refine WL.a (d:=33) rfl rfl rfl (q_load1 oneT_31 rfl (rd_stb .h2 rfl)) ?_
    refine WL.a (d:=34) rfl rfl rfl (q_neq rfl rfl) ?_
    refine WL.nil ?_
    refine WX.a ?_
    refine WC.cond rfl (fun zl5=>?_) (fun zl5=>?_)
    ·replace h:=ite_t h zl5
     refine WC.b ?_
     refine WC.draw (fun i=>[3].contains i) [stbp z5x 90 [(0,(.int .i64 z6c))]] rfl ?_
     refine WD.a (i:=0) (d:=35) (by kernel_rfl) rfl (z6 (by kernel_rfl)) (z7 (by kernel_rfl)) rfl rfl rfl (fun _=>q_build (v:=(.agg #[(.int .i64 0),(.int .i64 0)])) (Eos.parts (l:=[]) .nil []) (fun _=>by kernel_rfl)) ?_
     refine WD.a (i:=1) (d:=36) (by kernel_rfl) rfl (z6 (by kernel_rfl)) (z7 (by kernel_rfl)) rfl rfl rfl (fun _=>q_fieldAddr fo_90_0 rfl rfl) ?_
     refine WD.stable (i:=2) (d:=37) (by kernel_rfl) rfl (z6 (by kernel_rfl)) (z7 (by kernel_rfl)) rfl rfl rfl (Sin.wk (.cons .h2 .nil) (.stb (.cons rfl .nil) .nil)) (q_load1 oneT_31 rfl (rd_stbp .here (.head _))) ?_
     refine WD.forced0 (i:=3) rfl (by kernel_rfl) rfl rfl rfl (Sin.wk (.cons .h2 .nil) (.stb (.cons rfl .nil) .nil)) (e_store (vs:=[(.int .i64 0),(.int .i64 0)]) (ds:=[(.int .i64 0),(.int .i64 0)]) sizT_30 rfl rfl rfl rfl (oc_cons rfl (oc_cons rfl oc_nil)) .h1 (Nat.le_of_ble_eq_true rfl) rfl) ?_
     refine WD.a (i:=4) (d:=5) (by kernel_rfl) rfl (z6 (by kernel_rfl)) (z7 (by kernel_rfl)) rfl rfl rfl (fun _=>q_z rfl) ?_
     refine WD.done (by kernel_rfl) ?_
     refine WX.a ?_
     refine WC.ret ?_
     refine WX.thenRet ?_
     obtain rfl:=Option.some.inj h
     refine WX.bpRet Try.results22 (.agg rfl aggT_30 rfl (rd_all .here) (.tmp rfl .nil)) (fun w hw=>?_)
     exact ⟨ret2 rfl rfl,hw.sub .nil⟩
    ·replace h:=ite_f h zl5
     refine WC.skip ?_
     refine WX.a ?_
     refine WC.b ?_
     obtain ⟨zcz,zvC,h⟩:=zd h
     refine WC.a ?_
     refine WL.a (d:=38) rfl rfl rfl (q_m rfl) ?_
     refine WL.b (dd:=39) rfl rfl rfl (zk (l:=[.tmp 38,.func 18]) Try.call46 (.cons rfl (.cons rfl .nil))) (.nil : Sel [row (.slice z6e z3h.length z6f) 30 2 (z3h.flatMap e30),stb z3R 30 [(.int .i64 0),(.int .i64 0)],stb z5x 90 [(.int .i64 z6c)]] [] [row (.slice z6e z3h.length z6f) 30 2 (z3h.flatMap e30),stb z3R 30 [(.int .i64 0),(.int .i64 0)],stb z5x 90 [(.int .i64 z6c)]]) (fun w hw=>by have pz:=(hz.call hw (.nil : Sel [row (.slice z6e z3h.length z6f) 30 2 (z3h.flatMap e30),stb z3R 30 [(.int .i64 0),(.int .i64 0)],stb z5x 90 [(.int .i64 z6c)]] [] [row (.slice z6e z3h.length z6f) 30 2 (z3h.flatMap e30),stb z3R 30 [(.int .i64 0),(.int .i64 0)],stb z5x 90 [(.int .i64 z6c)]])).lend hw (.nil : Sel [row (.slice z6e z3h.length z6f) 30 2 (z3h.flatMap e30),stb z3R 30 [(.int .i64 0),(.int .i64 0)],stb z5x 90 [(.int .i64 z6c)]] [] [row (.slice z6e z3h.length z6f) 30 2 (z3h.flatMap e30),stb z3R 30 [(.int .i64 0),(.int .i64 0)],stb z5x 90 [(.int .i64 z6c)]]) (B:=[row (.slice z6e z3h.length z6f) 30 2 (z3h.flatMap e30)]) (fun _ hx'=>((.cons .here .nil) : Sel _ [row (.slice z6e z3h.length z6f) 30 2 (z3h.flatMap e30)] _).mem hx'); exact w_slices_MinFunc_api_Rat_api_Rat (Z:=_) (zbl:=z6e) (zbm:=z6f) (z8Z:=18) (zaq:=[]) (z2l:=z3h) (z8r:=(fun (y0 : z2) (y1 : z2)=>m_rat_Cmp y0 y1)) (r:=zcz) w pz (ZA.row (hw.lent (.nil : Sel [row (.slice z6e z3h.length z6f) 30 2 (z3h.flatMap e30),stb z3R 30 [(.int .i64 0),(.int .i64 0)],stb z5x 90 [(.int .i64 z6c)]] [] [row (.slice z6e z3h.length z6f) 30 2 (z3h.flatMap e30),stb z3R 30 [(.int .i64 0),(.int .i64 0)],stb z5x 90 [(.int .i64 z6c)]]) (B:=[row (.slice z6e z3h.length z6f) 30 2 (z3h.flatMap e30)]) (fun _ hx'=>((.cons .here .nil) : Sel _ [row (.slice z6e z3h.length z6f) 30 2 (z3h.flatMap e30)] _).mem hx') (.head _) _) (RR.flat (enc:=e30) (fun _=>rfl) _) ⟨w,pz.1⟩) Try.call18 (fun w' hz' y0 y1  r  hr=>w_rat_Cmp (Z:=_)  (z2d:=y0) (z2e:=y1) (r:=r) w' hz'  hr) zvC) ?_
     refine WL.eff0 rfl rfl (e_store (vs:=[(.int .i64 zcz.fN),(.int .i64 zcz.fD)]) (ds:=[(.int .i64 zcz.fN),(.int .i64 zcz.fD)]) sizT_30 rfl rfl rfl rfl (oc_cons rfl (oc_cons rfl oc_nil)) .h1 (Nat.le_of_ble_eq_true rfl) rfl) ?_
     refine WL.a (d:=5) rfl rfl rfl (q_z rfl) ?_
     refine WL.nil ?_
     refine WX.a ?_
     refine WC.ret ?_
     obtain rfl:=Option.some.inj h
     refine WX.bpRet Try.results22 (.agg rfl aggT_30 rfl (rd_all .here) (.tmp rfl .nil)) (fun w hw=>?_)
     exact ⟨ret2 rfl rfl,hw.sub .nil⟩
end Go.Proofs.Ytakfmdiiehcbdaa
