/- A part of this claim's proof: models of functions, walks, plain laws. No conditions. -/
import Derived.Test.YtbihfglmcjkdhaaW02a
namespace Go.Proofs.Ytbihfglmcjkdhaa
open Go Go.RowKit Sep
set_option linter.all false
set_option maxRecDepth 30000
set_option maxHeartbeats 4000000

/-- rat.do -/
def m_rat_doc (x_2976 : Sapi_Rat) (y_2977 : Sapi_Rat) : Option (Sapi_Rat × Int) :=
  (m_rat_Valid x_2976).bind fun x_3045 => (if !x_3045 then some true else (m_rat_Valid y_2977).bind fun x_3047 => some (!x_3047)).bind fun b_3049 => if b_3049 then some ((⟨0, 0⟩ : Sapi_Rat), 2) else (m_rat_do_2 x_2976 y_2977).bind fun x_3060 => (m_rat_Make x_3060.1 x_3060.2).bind fun x_3062 => some (x_3062.1, x_3062.2)

set_option maxRecDepth 20000 in
theorem w_rat_doc (Z : Zp)   (x_2976 : Sapi_Rat) (y_2977 : Sapi_Rat) (r : Sapi_Rat × Int) (w₀ : World) (hz : PZ [] w₀ Z)
    (h : m_rat_doc x_2976 y_2977 = some r) :
    Calls Try.prog 39 #[(.string ⟨#[45]⟩), (.agg #[(.int .i64 x_2976.fN), (.int .i64 x_2976.fD)]), (.agg #[(.int .i64 y_2977.fN), (.int .i64 y_2977.fD)])] w₀ fun e w' => e = .returned (.tuple #[(.agg #[(.int .i64 r.1.fN), (.int .i64 r.1.fD)]), (.int .i64 r.2)]) ∧ Hp [] w₀ w' [] := by
  unfold m_rat_doc at h
  refine Calls.ofWC (vs := [(.string ⟨#[45]⟩), (.agg #[(.int .i64 x_2976.fN), (.int .i64 x_2976.fD)]), (.agg #[(.int .i64 y_2977.fN), (.int .i64 y_2977.fD)])]) (pre := []) (env := [(0, (.string ⟨#[45]⟩)), (1, (.agg #[(.int .i64 x_2976.fN), (.int .i64 x_2976.fD)])), (2, (.agg #[(.int .i64 y_2977.fN), (.int .i64 y_2977.fD)]))]) Try.func39 rfl Try.ntmps39 rfl (Hp.nil w₀ _) rfl ?_
  refine WC.seq ?_
  refine WC.region ?_
  refine WL.new (dd := 4) rfl rfl rfl (e_box (cs := [(.int .i64 x_2976.fN), (.int .i64 x_2976.fD)]) rfl rfl) ?_
  intro b_3029 _
  refine WL.new (dd := 5) rfl rfl rfl (e_box (cs := [(.int .i64 y_2977.fN), (.int .i64 y_2977.fD)]) rfl rfl) ?_
  intro b_3030 _
  refine WL.new (dd := 6) rfl rfl rfl (e_alloc (cs := [(.int .i64 0), (.int .i64 0)]) zeroT_28 rfl) ?_
  intro b_3031 _
  refine WL.quiet (d := 7) rfl rfl rfl (q_assign rfl) ?_
  refine WL.nil ?_
  refine WX.then ?_
  refine WC.seq ?_
  refine WC.seq ?_
  obtain ⟨x_3045, hx_3046, h⟩ := bind_elim h
  obtain ⟨b_3049, hb_3050, h⟩ := bind_elim h
  refine WC.region ?_
  refine WL.quiet (d := 9) rfl rfl rfl (q_loadA (cs := [(.int .i64 x_2976.fN), (.int .i64 x_2976.fD)]) aggT_28 rfl rfl (rd_all (.there (.there .here)))) ?_
  refine WL.callD (dd := 10) rfl rfl rfl (run_call (l := [.tmp 9]) Try.call42 (.cons rfl .nil)) (.nil : Sel [stb b_3031 28 [(.int .i64 0), (.int .i64 0)], stb b_3030 28 [(.int .i64 y_2977.fN), (.int .i64 y_2977.fD)], stb b_3029 28 [(.int .i64 x_2976.fN), (.int .i64 x_2976.fD)]] [] [stb b_3031 28 [(.int .i64 0), (.int .i64 0)], stb b_3030 28 [(.int .i64 y_2977.fN), (.int .i64 y_2977.fD)], stb b_3029 28 [(.int .i64 x_2976.fN), (.int .i64 x_2976.fD)]]) (fun w hw => by have pz := (hz.call hw (.nil : Sel [stb b_3031 28 [(.int .i64 0), (.int .i64 0)], stb b_3030 28 [(.int .i64 y_2977.fN), (.int .i64 y_2977.fD)], stb b_3029 28 [(.int .i64 x_2976.fN), (.int .i64 x_2976.fD)]] [] [stb b_3031 28 [(.int .i64 0), (.int .i64 0)], stb b_3030 28 [(.int .i64 y_2977.fN), (.int .i64 y_2977.fD)], stb b_3029 28 [(.int .i64 x_2976.fN), (.int .i64 x_2976.fD)]])); exact w_rat_Valid (Z := _)  (x_1018 := x_2976) (r := x_3045) w pz  hx_3046) ?_
  refine WL.quiet (d := 11) rfl rfl rfl (q_not rfl) ?_
  refine WL.quiet (d := 12) rfl rfl rfl (q_move rfl) ?_
  refine WL.cut0 True [(0, (.string ⟨#[45]⟩)), (4, (.pointer (some ⟨b_3029, 0, none⟩))), (5, (.pointer (some ⟨b_3030, 0, none⟩))), (6, (.pointer (some ⟨b_3031, 0, none⟩))), (16, (.bool b_3049))] [stb b_3031 28 [(.int .i64 0), (.int .i64 0)], stb b_3030 28 [(.int .i64 y_2977.fN), (.int .i64 y_2977.fD)], stb b_3029 28 [(.int .i64 x_2976.fN), (.int .i64 x_2976.fD)]] 4 ?_ (fun _ => ?_)
  · rcases Bool.eq_false_or_eq_true (!x_3045) with hb' | hb'
    · have hg_3051 := hb'; clear hb'
      have hq_3052 := ite_t hb_3050 hg_3051
      replace hq_3052 := Option.some.inj hq_3052
      refine WL.pin (i := 12) rfl hg_3051 ?_
      refine WL.skip rfl rfl rfl ?_
      refine WL.skip rfl rfl rfl ?_
      refine WL.skip rfl rfl rfl ?_
      refine WL.quiet (d := 16) rfl rfl rfl (q_pickT rfl rfl) ?_
      exact WL.cutEnd () trivial (.cons rfl (.cons rfl (.cons rfl (.cons rfl (.cons (some_bool hq_3052) .nil))))) (.cons .here (.cons .here (.cons .here .nil)))
    · have hg_3053 := hb'; clear hb'
      have hq_3054 := ite_f hb_3050 hg_3053
      obtain ⟨x_3047, hx_3048, hq_3054⟩ := bind_elim hq_3054
      replace hq_3054 := Option.some.inj hq_3054
      refine WL.pin (i := 12) rfl hg_3053 ?_
      refine WL.quiet (d := 13) rfl rfl rfl (q_loadA (cs := [(.int .i64 y_2977.fN), (.int .i64 y_2977.fD)]) aggT_28 rfl rfl (rd_all (.there .here))) ?_
      refine WL.callD (dd := 14) rfl rfl rfl (run_call (l := [.tmp 13]) Try.call42 (.cons rfl .nil)) (.nil : Sel [stb b_3031 28 [(.int .i64 0), (.int .i64 0)], stb b_3030 28 [(.int .i64 y_2977.fN), (.int .i64 y_2977.fD)], stb b_3029 28 [(.int .i64 x_2976.fN), (.int .i64 x_2976.fD)]] [] [stb b_3031 28 [(.int .i64 0), (.int .i64 0)], stb b_3030 28 [(.int .i64 y_2977.fN), (.int .i64 y_2977.fD)], stb b_3029 28 [(.int .i64 x_2976.fN), (.int .i64 x_2976.fD)]]) (fun w hw => by have pz := (hz.call hw (.nil : Sel [stb b_3031 28 [(.int .i64 0), (.int .i64 0)], stb b_3030 28 [(.int .i64 y_2977.fN), (.int .i64 y_2977.fD)], stb b_3029 28 [(.int .i64 x_2976.fN), (.int .i64 x_2976.fD)]] [] [stb b_3031 28 [(.int .i64 0), (.int .i64 0)], stb b_3030 28 [(.int .i64 y_2977.fN), (.int .i64 y_2977.fD)], stb b_3029 28 [(.int .i64 x_2976.fN), (.int .i64 x_2976.fD)]])); exact w_rat_Valid (Z := _)  (x_1018 := y_2977) (r := x_3047) w pz  hx_3048) ?_
      refine WL.quiet (d := 15) rfl rfl rfl (q_not rfl) ?_
      refine WL.quiet (d := 16) rfl rfl rfl (q_pickF rfl rfl) ?_
      exact WL.cutEnd () trivial (.cons rfl (.cons rfl (.cons rfl (.cons rfl (.cons (some_bool hq_3054) .nil))))) (.cons .here (.cons .here (.cons .here .nil)))
  · skip
    refine WL.quiet (d := 17) rfl rfl rfl (q_move rfl) ?_
    refine WL.cut0 True [(0, (.string ⟨#[45]⟩)), (4, (.pointer (some ⟨b_3029, 0, none⟩))), (5, (.pointer (some ⟨b_3030, 0, none⟩))), (6, (.pointer (some ⟨b_3031, 0, none⟩))), (25, (.bool b_3049))] [stb b_3031 28 [(.int .i64 0), (.int .i64 0)], stb b_3030 28 [(.int .i64 y_2977.fN), (.int .i64 y_2977.fD)], stb b_3029 28 [(.int .i64 x_2976.fN), (.int .i64 x_2976.fD)]] 8 ?_ (fun _ => ?_)
    · rcases Bool.eq_false_or_eq_true b_3049 with hb' | hb'
      · have hg_3055 := hb'; clear hb'
        refine WL.pin (i := 17) rfl hg_3055 ?_
        refine WL.skip rfl rfl rfl ?_
        refine WL.skip rfl rfl rfl ?_
        refine WL.skip rfl rfl rfl ?_
        refine WL.skip rfl rfl rfl ?_
        refine WL.skip rfl rfl rfl ?_
        refine WL.skip rfl rfl rfl ?_
        refine WL.skip rfl rfl rfl ?_
        refine WL.quiet (d := 25) rfl rfl rfl (q_pickT rfl rfl) ?_
        exact WL.cutEnd () trivial (.cons rfl (.cons rfl (.cons rfl (.cons rfl (.cons (some_bool (Eq.symm hg_3055)) .nil))))) (.cons .here (.cons .here (.cons .here .nil)))
      · have hg_3056 := hb'; clear hb'
        refine WL.pin (i := 17) rfl hg_3056 ?_
        refine WL.quiet (d := 18) rfl rfl rfl (q_move rfl) ?_
        refine WL.quiet (d := 19) rfl rfl rfl (q_seqlC (r := false) (by decide) rfl rfl) ?_
        refine WL.quiet (d := 20) rfl rfl rfl (q_move rfl) ?_
        refine WL.skip rfl rfl rfl ?_
        refine WL.skip rfl rfl rfl ?_
        refine WL.skip rfl rfl rfl ?_
        refine WL.quiet (d := 24) rfl rfl rfl (q_pickF rfl rfl) ?_
        refine WL.quiet (d := 25) rfl rfl rfl (q_pickF rfl rfl) ?_
        exact WL.cutEnd () trivial (.cons rfl (.cons rfl (.cons rfl (.cons rfl (.cons (some_bool (Eq.symm hg_3056)) .nil))))) (.cons .here (.cons .here (.cons .here .nil)))
    · skip
      refine WL.nil ?_
      refine WX.then ?_
      refine WC.cond rfl (fun hb_3057 => ?_) (fun hb_3057 => ?_)
      · replace h := ite_t h hb_3057
        refine WC.seq ?_
        refine WC.region ?_
        refine WL.quiet (d := 26) rfl rfl rfl (q_build (v := (.agg #[(.int .i64 0), (.int .i64 0)])) (Eos.parts (l := []) .nil []) (fun _ => by kernel_rfl)) ?_
        refine WL.eff0 rfl rfl (e_store (vs := [(.int .i64 0), (.int .i64 0)]) (ds := [(.int .i64 0), (.int .i64 0)]) sizT_28 rfl rfl rfl rfl (oc_cons rfl (oc_cons rfl oc_nil)) .here (Nat.le_of_ble_eq_true rfl) rfl) ?_
        refine WL.quiet (d := 7) rfl rfl rfl (q_assign rfl) ?_
        refine WL.nil ?_
        refine WX.then ?_
        refine WC.ret ?_
        refine WX.thenRet ?_
        obtain rfl := Option.some.inj h
        refine WX.bpRet Try.results39 (.agg rfl aggT_28 rfl (rd_all .here) (.tmp rfl .nil)) (fun w hw => ?_)
        exact ⟨ret2 rfl rfl, hw.sub .nil⟩
      · replace h := ite_f h hb_3057
        refine WC.skip ?_
        refine WX.then ?_
        refine WC.seq ?_
        refine WC.region ?_
        refine WL.new (dd := 27) rfl rfl rfl (e_makeMap Value.string (fun x => x)) ?_
        intro b_3059 _
        refine WL.quiet (d := 28) rfl rfl rfl (q_makeFunc (Eos.caps (l := [.tmp 4, .tmp 5]) (.cons rfl (.cons rfl .nil)))) ?_
        refine WL.eff0 rfl rfl (e_insert (k := ⟨#[43]⟩) (v := (.func (.func 64) #[] #[(.pointer (some ⟨b_3029, 0, none⟩)), (.pointer (some ⟨b_3030, 0, none⟩))])) keyT_9 Try.underlying94 rfl rfl rfl rfl .here) ?_
        refine WL.quiet (d := 29) rfl rfl rfl (q_makeFunc (Eos.caps (l := [.tmp 4, .tmp 5]) (.cons rfl (.cons rfl .nil)))) ?_
        refine WL.eff0 rfl rfl (e_insert (k := ⟨#[45]⟩) (v := (.func (.func 65) #[] #[(.pointer (some ⟨b_3029, 0, none⟩)), (.pointer (some ⟨b_3030, 0, none⟩))])) keyT_9 Try.underlying94 rfl rfl rfl rfl .here) ?_
        refine WL.quiet (d := 30) rfl rfl rfl (q_makeFunc (Eos.caps (l := [.tmp 4, .tmp 5]) (.cons rfl (.cons rfl .nil)))) ?_
        refine WL.eff0 rfl rfl (e_insert (k := ⟨#[42]⟩) (v := (.func (.func 66) #[] #[(.pointer (some ⟨b_3029, 0, none⟩)), (.pointer (some ⟨b_3030, 0, none⟩))])) keyT_9 Try.underlying94 rfl rfl rfl rfl .here) ?_
        refine WL.quiet (d := 31) rfl rfl rfl (q_makeFunc (Eos.caps (l := [.tmp 4, .tmp 5]) (.cons rfl (.cons rfl .nil)))) ?_
        refine WL.eff0 rfl rfl (e_insert (k := ⟨#[47]⟩) (v := (.func (.func 67) #[] #[(.pointer (some ⟨b_3029, 0, none⟩)), (.pointer (some ⟨b_3030, 0, none⟩))])) keyT_9 Try.underlying94 rfl rfl rfl rfl .here) ?_
        refine WL.quiet (d := 32) rfl rfl rfl (q_move rfl) ?_
        refine WL.quiet (d := 8) rfl rfl rfl (q_assign rfl) ?_
        refine WL.nil ?_
        refine WX.then ?_
        refine WC.seq ?_
        obtain ⟨x_3060, hx_3061, h⟩ := bind_elim h
        obtain ⟨x_3062, hx_3063, h⟩ := bind_elim h
        refine WC.region ?_
        refine WL.quiet (d := 33) rfl rfl rfl (q_move rfl) ?_
        refine WL.quiet (d := 34) rfl rfl rfl (q_move rfl) ?_
        refine WL.quiet (d := 35) rfl rfl rfl (q_lookC (k := ⟨#[45]⟩) (dflt := .nilFunc) (r := (.func (.func 65) #[] #[(.pointer (some ⟨b_3029, 0, none⟩)), (.pointer (some ⟨b_3030, 0, none⟩))])) keyT_9 Try.underlying94 zeroT_93 rfl rfl rfl .here (by rfl)) ?_
        refine WL.callD (dd := 36) rfl rfl rfl (run_callv (l := []) Try.call65 rfl .nil) (.nil : Sel [mapA b_3059 Value.string (fun x => x) [(⟨#[43]⟩, (.func (.func 64) #[] #[(.pointer (some ⟨b_3029, 0, none⟩)), (.pointer (some ⟨b_3030, 0, none⟩))])), (⟨#[45]⟩, (.func (.func 65) #[] #[(.pointer (some ⟨b_3029, 0, none⟩)), (.pointer (some ⟨b_3030, 0, none⟩))])), (⟨#[42]⟩, (.func (.func 66) #[] #[(.pointer (some ⟨b_3029, 0, none⟩)), (.pointer (some ⟨b_3030, 0, none⟩))])), (⟨#[47]⟩, (.func (.func 67) #[] #[(.pointer (some ⟨b_3029, 0, none⟩)), (.pointer (some ⟨b_3030, 0, none⟩))]))], stb b_3031 28 [(.int .i64 0), (.int .i64 0)], stb b_3030 28 [(.int .i64 y_2977.fN), (.int .i64 y_2977.fD)], stb b_3029 28 [(.int .i64 x_2976.fN), (.int .i64 x_2976.fD)]] [] [mapA b_3059 Value.string (fun x => x) [(⟨#[43]⟩, (.func (.func 64) #[] #[(.pointer (some ⟨b_3029, 0, none⟩)), (.pointer (some ⟨b_3030, 0, none⟩))])), (⟨#[45]⟩, (.func (.func 65) #[] #[(.pointer (some ⟨b_3029, 0, none⟩)), (.pointer (some ⟨b_3030, 0, none⟩))])), (⟨#[42]⟩, (.func (.func 66) #[] #[(.pointer (some ⟨b_3029, 0, none⟩)), (.pointer (some ⟨b_3030, 0, none⟩))])), (⟨#[47]⟩, (.func (.func 67) #[] #[(.pointer (some ⟨b_3029, 0, none⟩)), (.pointer (some ⟨b_3030, 0, none⟩))]))], stb b_3031 28 [(.int .i64 0), (.int .i64 0)], stb b_3030 28 [(.int .i64 y_2977.fN), (.int .i64 y_2977.fD)], stb b_3029 28 [(.int .i64 x_2976.fN), (.int .i64 x_2976.fD)]]) (fun w hw => by have pz := (hz.call hw (.nil : Sel [mapA b_3059 Value.string (fun x => x) [(⟨#[43]⟩, (.func (.func 64) #[] #[(.pointer (some ⟨b_3029, 0, none⟩)), (.pointer (some ⟨b_3030, 0, none⟩))])), (⟨#[45]⟩, (.func (.func 65) #[] #[(.pointer (some ⟨b_3029, 0, none⟩)), (.pointer (some ⟨b_3030, 0, none⟩))])), (⟨#[42]⟩, (.func (.func 66) #[] #[(.pointer (some ⟨b_3029, 0, none⟩)), (.pointer (some ⟨b_3030, 0, none⟩))])), (⟨#[47]⟩, (.func (.func 67) #[] #[(.pointer (some ⟨b_3029, 0, none⟩)), (.pointer (some ⟨b_3030, 0, none⟩))]))], stb b_3031 28 [(.int .i64 0), (.int .i64 0)], stb b_3030 28 [(.int .i64 y_2977.fN), (.int .i64 y_2977.fD)], stb b_3029 28 [(.int .i64 x_2976.fN), (.int .i64 x_2976.fD)]] [] [mapA b_3059 Value.string (fun x => x) [(⟨#[43]⟩, (.func (.func 64) #[] #[(.pointer (some ⟨b_3029, 0, none⟩)), (.pointer (some ⟨b_3030, 0, none⟩))])), (⟨#[45]⟩, (.func (.func 65) #[] #[(.pointer (some ⟨b_3029, 0, none⟩)), (.pointer (some ⟨b_3030, 0, none⟩))])), (⟨#[42]⟩, (.func (.func 66) #[] #[(.pointer (some ⟨b_3029, 0, none⟩)), (.pointer (some ⟨b_3030, 0, none⟩))])), (⟨#[47]⟩, (.func (.func 67) #[] #[(.pointer (some ⟨b_3029, 0, none⟩)), (.pointer (some ⟨b_3030, 0, none⟩))]))], stb b_3031 28 [(.int .i64 0), (.int .i64 0)], stb b_3030 28 [(.int .i64 y_2977.fN), (.int .i64 y_2977.fD)], stb b_3029 28 [(.int .i64 x_2976.fN), (.int .i64 x_2976.fD)]])).lend hw (.nil : Sel [mapA b_3059 Value.string (fun x => x) [(⟨#[43]⟩, (.func (.func 64) #[] #[(.pointer (some ⟨b_3029, 0, none⟩)), (.pointer (some ⟨b_3030, 0, none⟩))])), (⟨#[45]⟩, (.func (.func 65) #[] #[(.pointer (some ⟨b_3029, 0, none⟩)), (.pointer (some ⟨b_3030, 0, none⟩))])), (⟨#[42]⟩, (.func (.func 66) #[] #[(.pointer (some ⟨b_3029, 0, none⟩)), (.pointer (some ⟨b_3030, 0, none⟩))])), (⟨#[47]⟩, (.func (.func 67) #[] #[(.pointer (some ⟨b_3029, 0, none⟩)), (.pointer (some ⟨b_3030, 0, none⟩))]))], stb b_3031 28 [(.int .i64 0), (.int .i64 0)], stb b_3030 28 [(.int .i64 y_2977.fN), (.int .i64 y_2977.fD)], stb b_3029 28 [(.int .i64 x_2976.fN), (.int .i64 x_2976.fD)]] [] [mapA b_3059 Value.string (fun x => x) [(⟨#[43]⟩, (.func (.func 64) #[] #[(.pointer (some ⟨b_3029, 0, none⟩)), (.pointer (some ⟨b_3030, 0, none⟩))])), (⟨#[45]⟩, (.func (.func 65) #[] #[(.pointer (some ⟨b_3029, 0, none⟩)), (.pointer (some ⟨b_3030, 0, none⟩))])), (⟨#[42]⟩, (.func (.func 66) #[] #[(.pointer (some ⟨b_3029, 0, none⟩)), (.pointer (some ⟨b_3030, 0, none⟩))])), (⟨#[47]⟩, (.func (.func 67) #[] #[(.pointer (some ⟨b_3029, 0, none⟩)), (.pointer (some ⟨b_3030, 0, none⟩))]))], stb b_3031 28 [(.int .i64 0), (.int .i64 0)], stb b_3030 28 [(.int .i64 y_2977.fN), (.int .i64 y_2977.fD)], stb b_3029 28 [(.int .i64 x_2976.fN), (.int .i64 x_2976.fD)]]) (B := [stb b_3029 28 [(.int .i64 x_2976.fN), (.int .i64 x_2976.fD)], stb b_3030 28 [(.int .i64 y_2977.fN), (.int .i64 y_2977.fD)]]) (fun _ hx' => ((.cons (.there (.there (.there .here))) (.cons (.there (.there .here)) .nil)) : Sel _ [stb b_3029 28 [(.int .i64 x_2976.fN), (.int .i64 x_2976.fD)], stb b_3030 28 [(.int .i64 y_2977.fN), (.int .i64 y_2977.fD)]] _).mem hx'); exact w_rat_do_2 (Z := _) (A_3012 := ⟨b_3029, 0, none⟩) (A_3015 := ⟨b_3030, 0, none⟩) (c_3014 := x_2976) (c_3017 := y_2977) (r := x_3060) w pz ((hw.lent (.nil : Sel [mapA b_3059 Value.string (fun x => x) [(⟨#[43]⟩, (.func (.func 64) #[] #[(.pointer (some ⟨b_3029, 0, none⟩)), (.pointer (some ⟨b_3030, 0, none⟩))])), (⟨#[45]⟩, (.func (.func 65) #[] #[(.pointer (some ⟨b_3029, 0, none⟩)), (.pointer (some ⟨b_3030, 0, none⟩))])), (⟨#[42]⟩, (.func (.func 66) #[] #[(.pointer (some ⟨b_3029, 0, none⟩)), (.pointer (some ⟨b_3030, 0, none⟩))])), (⟨#[47]⟩, (.func (.func 67) #[] #[(.pointer (some ⟨b_3029, 0, none⟩)), (.pointer (some ⟨b_3030, 0, none⟩))]))], stb b_3031 28 [(.int .i64 0), (.int .i64 0)], stb b_3030 28 [(.int .i64 y_2977.fN), (.int .i64 y_2977.fD)], stb b_3029 28 [(.int .i64 x_2976.fN), (.int .i64 x_2976.fD)]] [] [mapA b_3059 Value.string (fun x => x) [(⟨#[43]⟩, (.func (.func 64) #[] #[(.pointer (some ⟨b_3029, 0, none⟩)), (.pointer (some ⟨b_3030, 0, none⟩))])), (⟨#[45]⟩, (.func (.func 65) #[] #[(.pointer (some ⟨b_3029, 0, none⟩)), (.pointer (some ⟨b_3030, 0, none⟩))])), (⟨#[42]⟩, (.func (.func 66) #[] #[(.pointer (some ⟨b_3029, 0, none⟩)), (.pointer (some ⟨b_3030, 0, none⟩))])), (⟨#[47]⟩, (.func (.func 67) #[] #[(.pointer (some ⟨b_3029, 0, none⟩)), (.pointer (some ⟨b_3030, 0, none⟩))]))], stb b_3031 28 [(.int .i64 0), (.int .i64 0)], stb b_3030 28 [(.int .i64 y_2977.fN), (.int .i64 y_2977.fD)], stb b_3029 28 [(.int .i64 x_2976.fN), (.int .i64 x_2976.fD)]]) (B := [stb b_3029 28 [(.int .i64 x_2976.fN), (.int .i64 x_2976.fD)], stb b_3030 28 [(.int .i64 y_2977.fN), (.int .i64 y_2977.fD)]]) (fun _ hx' => ((.cons (.there (.there (.there .here))) (.cons (.there (.there .here)) .nil)) : Sel _ [stb b_3029 28 [(.int .i64 x_2976.fN), (.int .i64 x_2976.fD)], stb b_3030 28 [(.int .i64 y_2977.fN), (.int .i64 y_2977.fD)]] _).mem hx') (.head _) _).stb) ((hw.lent (.nil : Sel [mapA b_3059 Value.string (fun x => x) [(⟨#[43]⟩, (.func (.func 64) #[] #[(.pointer (some ⟨b_3029, 0, none⟩)), (.pointer (some ⟨b_3030, 0, none⟩))])), (⟨#[45]⟩, (.func (.func 65) #[] #[(.pointer (some ⟨b_3029, 0, none⟩)), (.pointer (some ⟨b_3030, 0, none⟩))])), (⟨#[42]⟩, (.func (.func 66) #[] #[(.pointer (some ⟨b_3029, 0, none⟩)), (.pointer (some ⟨b_3030, 0, none⟩))])), (⟨#[47]⟩, (.func (.func 67) #[] #[(.pointer (some ⟨b_3029, 0, none⟩)), (.pointer (some ⟨b_3030, 0, none⟩))]))], stb b_3031 28 [(.int .i64 0), (.int .i64 0)], stb b_3030 28 [(.int .i64 y_2977.fN), (.int .i64 y_2977.fD)], stb b_3029 28 [(.int .i64 x_2976.fN), (.int .i64 x_2976.fD)]] [] [mapA b_3059 Value.string (fun x => x) [(⟨#[43]⟩, (.func (.func 64) #[] #[(.pointer (some ⟨b_3029, 0, none⟩)), (.pointer (some ⟨b_3030, 0, none⟩))])), (⟨#[45]⟩, (.func (.func 65) #[] #[(.pointer (some ⟨b_3029, 0, none⟩)), (.pointer (some ⟨b_3030, 0, none⟩))])), (⟨#[42]⟩, (.func (.func 66) #[] #[(.pointer (some ⟨b_3029, 0, none⟩)), (.pointer (some ⟨b_3030, 0, none⟩))])), (⟨#[47]⟩, (.func (.func 67) #[] #[(.pointer (some ⟨b_3029, 0, none⟩)), (.pointer (some ⟨b_3030, 0, none⟩))]))], stb b_3031 28 [(.int .i64 0), (.int .i64 0)], stb b_3030 28 [(.int .i64 y_2977.fN), (.int .i64 y_2977.fD)], stb b_3029 28 [(.int .i64 x_2976.fN), (.int .i64 x_2976.fD)]]) (B := [stb b_3029 28 [(.int .i64 x_2976.fN), (.int .i64 x_2976.fD)], stb b_3030 28 [(.int .i64 y_2977.fN), (.int .i64 y_2977.fD)]]) (fun _ hx' => ((.cons (.there (.there (.there .here))) (.cons (.there (.there .here)) .nil)) : Sel _ [stb b_3029 28 [(.int .i64 x_2976.fN), (.int .i64 x_2976.fD)], stb b_3030 28 [(.int .i64 y_2977.fN), (.int .i64 y_2977.fD)]] _).mem hx') (.tail _ (.head _)) _).stb) hx_3061) ?_
        refine WL.quiet (d := 37) rfl rfl rfl (q_extract rfl rfl) ?_
        refine WL.quiet (d := 38) rfl rfl rfl (q_extract rfl rfl) ?_
        refine WL.callD (dd := 39) rfl rfl rfl (run_call (l := [.tmp 37, .tmp 38]) Try.call38 (.cons rfl (.cons rfl .nil))) (.nil : Sel [mapA b_3059 Value.string (fun x => x) [(⟨#[43]⟩, (.func (.func 64) #[] #[(.pointer (some ⟨b_3029, 0, none⟩)), (.pointer (some ⟨b_3030, 0, none⟩))])), (⟨#[45]⟩, (.func (.func 65) #[] #[(.pointer (some ⟨b_3029, 0, none⟩)), (.pointer (some ⟨b_3030, 0, none⟩))])), (⟨#[42]⟩, (.func (.func 66) #[] #[(.pointer (some ⟨b_3029, 0, none⟩)), (.pointer (some ⟨b_3030, 0, none⟩))])), (⟨#[47]⟩, (.func (.func 67) #[] #[(.pointer (some ⟨b_3029, 0, none⟩)), (.pointer (some ⟨b_3030, 0, none⟩))]))], stb b_3031 28 [(.int .i64 0), (.int .i64 0)], stb b_3030 28 [(.int .i64 y_2977.fN), (.int .i64 y_2977.fD)], stb b_3029 28 [(.int .i64 x_2976.fN), (.int .i64 x_2976.fD)]] [] [mapA b_3059 Value.string (fun x => x) [(⟨#[43]⟩, (.func (.func 64) #[] #[(.pointer (some ⟨b_3029, 0, none⟩)), (.pointer (some ⟨b_3030, 0, none⟩))])), (⟨#[45]⟩, (.func (.func 65) #[] #[(.pointer (some ⟨b_3029, 0, none⟩)), (.pointer (some ⟨b_3030, 0, none⟩))])), (⟨#[42]⟩, (.func (.func 66) #[] #[(.pointer (some ⟨b_3029, 0, none⟩)), (.pointer (some ⟨b_3030, 0, none⟩))])), (⟨#[47]⟩, (.func (.func 67) #[] #[(.pointer (some ⟨b_3029, 0, none⟩)), (.pointer (some ⟨b_3030, 0, none⟩))]))], stb b_3031 28 [(.int .i64 0), (.int .i64 0)], stb b_3030 28 [(.int .i64 y_2977.fN), (.int .i64 y_2977.fD)], stb b_3029 28 [(.int .i64 x_2976.fN), (.int .i64 x_2976.fD)]]) (fun w hw => by have pz := (hz.call hw (.nil : Sel [mapA b_3059 Value.string (fun x => x) [(⟨#[43]⟩, (.func (.func 64) #[] #[(.pointer (some ⟨b_3029, 0, none⟩)), (.pointer (some ⟨b_3030, 0, none⟩))])), (⟨#[45]⟩, (.func (.func 65) #[] #[(.pointer (some ⟨b_3029, 0, none⟩)), (.pointer (some ⟨b_3030, 0, none⟩))])), (⟨#[42]⟩, (.func (.func 66) #[] #[(.pointer (some ⟨b_3029, 0, none⟩)), (.pointer (some ⟨b_3030, 0, none⟩))])), (⟨#[47]⟩, (.func (.func 67) #[] #[(.pointer (some ⟨b_3029, 0, none⟩)), (.pointer (some ⟨b_3030, 0, none⟩))]))], stb b_3031 28 [(.int .i64 0), (.int .i64 0)], stb b_3030 28 [(.int .i64 y_2977.fN), (.int .i64 y_2977.fD)], stb b_3029 28 [(.int .i64 x_2976.fN), (.int .i64 x_2976.fD)]] [] [mapA b_3059 Value.string (fun x => x) [(⟨#[43]⟩, (.func (.func 64) #[] #[(.pointer (some ⟨b_3029, 0, none⟩)), (.pointer (some ⟨b_3030, 0, none⟩))])), (⟨#[45]⟩, (.func (.func 65) #[] #[(.pointer (some ⟨b_3029, 0, none⟩)), (.pointer (some ⟨b_3030, 0, none⟩))])), (⟨#[42]⟩, (.func (.func 66) #[] #[(.pointer (some ⟨b_3029, 0, none⟩)), (.pointer (some ⟨b_3030, 0, none⟩))])), (⟨#[47]⟩, (.func (.func 67) #[] #[(.pointer (some ⟨b_3029, 0, none⟩)), (.pointer (some ⟨b_3030, 0, none⟩))]))], stb b_3031 28 [(.int .i64 0), (.int .i64 0)], stb b_3030 28 [(.int .i64 y_2977.fN), (.int .i64 y_2977.fD)], stb b_3029 28 [(.int .i64 x_2976.fN), (.int .i64 x_2976.fD)]])); exact w_rat_Make (Z := _)  (n_22 := x_3060.1) (d_23 := x_3060.2) (r := x_3062) w pz  hx_3063) ?_
        refine WL.quiet (d := 40) rfl rfl rfl (q_extract rfl rfl) ?_
        refine WL.quiet (d := 41) rfl rfl rfl (q_extract rfl rfl) ?_
        refine WL.eff0 rfl rfl (e_store (vs := [(.int .i64 x_3062.1.fN), (.int .i64 x_3062.1.fD)]) (ds := [(.int .i64 x_3062.1.fN), (.int .i64 x_3062.1.fD)]) sizT_28 rfl rfl rfl rfl (oc_cons rfl (oc_cons rfl oc_nil)) (.there .here) (Nat.le_of_ble_eq_true rfl) rfl) ?_
        refine WL.quiet (d := 7) rfl rfl rfl (q_assign rfl) ?_
        refine WL.nil ?_
        refine WX.then ?_
        refine WC.ret ?_
        obtain rfl := Option.some.inj h
        refine WX.bpRet Try.results39 (.agg rfl aggT_28 rfl (rd_all .here) (.tmp rfl .nil)) (fun w hw => ?_)
        exact ⟨ret2 rfl rfl, hw.sub .nil⟩
/-- rat.Sub -/
def m_rat_Sub (x_2968 : Sapi_Rat) (y_2969 : Sapi_Rat) : Option (Sapi_Rat × Int) :=
  (m_rat_doc x_2968 y_2969).bind fun x_3074 => some (x_3074.1, x_3074.2)

set_option maxRecDepth 20000 in
theorem w_rat_Sub (Z : Zp)   (x_2968 : Sapi_Rat) (y_2969 : Sapi_Rat) (r : Sapi_Rat × Int) (w₀ : World) (hz : PZ [] w₀ Z)
    (h : m_rat_Sub x_2968 y_2969 = some r) :
    Calls Try.prog 14 #[(.agg #[(.int .i64 x_2968.fN), (.int .i64 x_2968.fD)]), (.agg #[(.int .i64 y_2969.fN), (.int .i64 y_2969.fD)])] w₀ fun e w' => e = .returned (.tuple #[(.agg #[(.int .i64 r.1.fN), (.int .i64 r.1.fD)]), (.int .i64 r.2)]) ∧ Hp [] w₀ w' [] := by
  unfold m_rat_Sub at h
  refine Calls.ofWC (vs := [(.agg #[(.int .i64 x_2968.fN), (.int .i64 x_2968.fD)]), (.agg #[(.int .i64 y_2969.fN), (.int .i64 y_2969.fD)])]) (pre := []) (env := [(0, (.agg #[(.int .i64 x_2968.fN), (.int .i64 x_2968.fD)])), (1, (.agg #[(.int .i64 y_2969.fN), (.int .i64 y_2969.fD)]))]) Try.func14 rfl Try.ntmps14 rfl (Hp.nil w₀ _) rfl ?_
  refine WC.seq ?_
  refine WC.region ?_
  refine WL.new (dd := 2) rfl rfl rfl (e_box (cs := [(.int .i64 x_2968.fN), (.int .i64 x_2968.fD)]) rfl rfl) ?_
  intro b_3071 _
  refine WL.new (dd := 3) rfl rfl rfl (e_box (cs := [(.int .i64 y_2969.fN), (.int .i64 y_2969.fD)]) rfl rfl) ?_
  intro b_3072 _
  refine WL.new (dd := 4) rfl rfl rfl (e_alloc (cs := [(.int .i64 0), (.int .i64 0)]) zeroT_28 rfl) ?_
  intro b_3073 _
  refine WL.quiet (d := 5) rfl rfl rfl (q_assign rfl) ?_
  refine WL.nil ?_
  refine WX.then ?_
  refine WC.seq ?_
  obtain ⟨x_3074, hx_3075, h⟩ := bind_elim h
  refine WC.region ?_
  refine WL.quiet (d := 6) rfl rfl rfl (q_loadA (cs := [(.int .i64 x_2968.fN), (.int .i64 x_2968.fD)]) aggT_28 rfl rfl (rd_all (.there (.there .here)))) ?_
  refine WL.quiet (d := 7) rfl rfl rfl (q_loadA (cs := [(.int .i64 y_2969.fN), (.int .i64 y_2969.fD)]) aggT_28 rfl rfl (rd_all (.there .here))) ?_
  refine WL.callD (dd := 8) rfl rfl rfl (run_call (l := [.const (.string ⟨#[45]⟩), .tmp 6, .tmp 7]) Try.call39 (.cons rfl (.cons rfl (.cons rfl .nil)))) (.nil : Sel [stb b_3073 28 [(.int .i64 0), (.int .i64 0)], stb b_3072 28 [(.int .i64 y_2969.fN), (.int .i64 y_2969.fD)], stb b_3071 28 [(.int .i64 x_2968.fN), (.int .i64 x_2968.fD)]] [] [stb b_3073 28 [(.int .i64 0), (.int .i64 0)], stb b_3072 28 [(.int .i64 y_2969.fN), (.int .i64 y_2969.fD)], stb b_3071 28 [(.int .i64 x_2968.fN), (.int .i64 x_2968.fD)]]) (fun w hw => by have pz := (hz.call hw (.nil : Sel [stb b_3073 28 [(.int .i64 0), (.int .i64 0)], stb b_3072 28 [(.int .i64 y_2969.fN), (.int .i64 y_2969.fD)], stb b_3071 28 [(.int .i64 x_2968.fN), (.int .i64 x_2968.fD)]] [] [stb b_3073 28 [(.int .i64 0), (.int .i64 0)], stb b_3072 28 [(.int .i64 y_2969.fN), (.int .i64 y_2969.fD)], stb b_3071 28 [(.int .i64 x_2968.fN), (.int .i64 x_2968.fD)]])); exact w_rat_doc (Z := _)  (x_2976 := x_2968) (y_2977 := y_2969) (r := x_3074) w pz  hx_3075) ?_
  refine WL.quiet (d := 9) rfl rfl rfl (q_extract rfl rfl) ?_
  refine WL.quiet (d := 10) rfl rfl rfl (q_extract rfl rfl) ?_
  refine WL.eff0 rfl rfl (e_store (vs := [(.int .i64 x_3074.1.fN), (.int .i64 x_3074.1.fD)]) (ds := [(.int .i64 x_3074.1.fN), (.int .i64 x_3074.1.fD)]) sizT_28 rfl rfl rfl rfl (oc_cons rfl (oc_cons rfl oc_nil)) .here (Nat.le_of_ble_eq_true rfl) rfl) ?_
  refine WL.quiet (d := 5) rfl rfl rfl (q_assign rfl) ?_
  refine WL.nil ?_
  refine WX.then ?_
  refine WC.ret ?_
  obtain rfl := Option.some.inj h
  refine WX.bpRet Try.results14 (.agg rfl aggT_28 rfl (rd_all .here) (.tmp rfl .nil)) (fun w hw => ?_)
  exact ⟨ret2 rfl rfl, hw.sub .nil⟩
/-- curve.Rate$1 -/
def m_curve_Rate_1 (a_3096 : Sapi_Bucket) (b_3097 : Sapi_Bucket) : Option Int :=
  (m_rat_Cmp a_3096.fRate b_3097.fRate).bind fun x_3109 => some x_3109

set_option maxRecDepth 20000 in
theorem w_curve_Rate_1 (Z : Zp)   (a_3096 : Sapi_Bucket) (b_3097 : Sapi_Bucket) (r : Int) (w₀ : World) (hz : PZ [] w₀ Z)
    (h : m_curve_Rate_1 a_3096 b_3097 = some r) :
    Calls Try.prog 41 #[(.agg #[(.int .i64 a_3096.fBurst.fN), (.int .i64 a_3096.fBurst.fD), (.int .i64 a_3096.fRate.fN), (.int .i64 a_3096.fRate.fD)]), (.agg #[(.int .i64 b_3097.fBurst.fN), (.int .i64 b_3097.fBurst.fD), (.int .i64 b_3097.fRate.fN), (.int .i64 b_3097.fRate.fD)])] w₀ fun e w' => e = .returned (.int .i64 r) ∧ Hp [] w₀ w' [] := by
  unfold m_curve_Rate_1 at h
  refine Calls.ofWC (vs := [(.agg #[(.int .i64 a_3096.fBurst.fN), (.int .i64 a_3096.fBurst.fD), (.int .i64 a_3096.fRate.fN), (.int .i64 a_3096.fRate.fD)]), (.agg #[(.int .i64 b_3097.fBurst.fN), (.int .i64 b_3097.fBurst.fD), (.int .i64 b_3097.fRate.fN), (.int .i64 b_3097.fRate.fD)])]) (pre := []) (env := [(0, (.agg #[(.int .i64 a_3096.fBurst.fN), (.int .i64 a_3096.fBurst.fD), (.int .i64 a_3096.fRate.fN), (.int .i64 a_3096.fRate.fD)])), (1, (.agg #[(.int .i64 b_3097.fBurst.fN), (.int .i64 b_3097.fBurst.fD), (.int .i64 b_3097.fRate.fN), (.int .i64 b_3097.fRate.fD)]))]) Try.func41 rfl Try.ntmps41 rfl (Hp.nil w₀ _) rfl ?_
  refine WC.seq ?_
  refine WC.region ?_
  refine WL.new (dd := 2) rfl rfl rfl (e_box (cs := [(.int .i64 a_3096.fBurst.fN), (.int .i64 a_3096.fBurst.fD), (.int .i64 a_3096.fRate.fN), (.int .i64 a_3096.fRate.fD)]) rfl rfl) ?_
  intro b_3107 _
  refine WL.new (dd := 3) rfl rfl rfl (e_box (cs := [(.int .i64 b_3097.fBurst.fN), (.int .i64 b_3097.fBurst.fD), (.int .i64 b_3097.fRate.fN), (.int .i64 b_3097.fRate.fD)]) rfl rfl) ?_
  intro b_3108 _
  refine WL.quiet (d := 4) rfl rfl rfl (q_assign rfl) ?_
  refine WL.nil ?_
  refine WX.then ?_
  refine WC.seq ?_
  obtain ⟨x_3109, hx_3110, h⟩ := bind_elim h
  refine WC.region ?_
  refine WL.quiet (d := 5) rfl rfl rfl (q_fieldAddr fo_42_1 rfl rfl) ?_
  refine WL.quiet (d := 6) rfl rfl rfl (q_loadA (cs := [(.int .i64 a_3096.fRate.fN), (.int .i64 a_3096.fRate.fD)]) aggT_28 rfl rfl (rd_sub (s := 2) (.there .here) rfl)) ?_
  refine WL.quiet (d := 7) rfl rfl rfl (q_fieldAddr fo_42_1 rfl rfl) ?_
  refine WL.quiet (d := 8) rfl rfl rfl (q_loadA (cs := [(.int .i64 b_3097.fRate.fN), (.int .i64 b_3097.fRate.fD)]) aggT_28 rfl rfl (rd_sub (s := 2) .here rfl)) ?_
  refine WL.callD (dd := 9) rfl rfl rfl (run_call (l := [.tmp 6, .tmp 8]) Try.call17 (.cons rfl (.cons rfl .nil))) (.nil : Sel [stb b_3108 42 [(.int .i64 b_3097.fBurst.fN), (.int .i64 b_3097.fBurst.fD), (.int .i64 b_3097.fRate.fN), (.int .i64 b_3097.fRate.fD)], stb b_3107 42 [(.int .i64 a_3096.fBurst.fN), (.int .i64 a_3096.fBurst.fD), (.int .i64 a_3096.fRate.fN), (.int .i64 a_3096.fRate.fD)]] [] [stb b_3108 42 [(.int .i64 b_3097.fBurst.fN), (.int .i64 b_3097.fBurst.fD), (.int .i64 b_3097.fRate.fN), (.int .i64 b_3097.fRate.fD)], stb b_3107 42 [(.int .i64 a_3096.fBurst.fN), (.int .i64 a_3096.fBurst.fD), (.int .i64 a_3096.fRate.fN), (.int .i64 a_3096.fRate.fD)]]) (fun w hw => by have pz := (hz.call hw (.nil : Sel [stb b_3108 42 [(.int .i64 b_3097.fBurst.fN), (.int .i64 b_3097.fBurst.fD), (.int .i64 b_3097.fRate.fN), (.int .i64 b_3097.fRate.fD)], stb b_3107 42 [(.int .i64 a_3096.fBurst.fN), (.int .i64 a_3096.fBurst.fD), (.int .i64 a_3096.fRate.fN), (.int .i64 a_3096.fRate.fD)]] [] [stb b_3108 42 [(.int .i64 b_3097.fBurst.fN), (.int .i64 b_3097.fBurst.fD), (.int .i64 b_3097.fRate.fN), (.int .i64 b_3097.fRate.fD)], stb b_3107 42 [(.int .i64 a_3096.fBurst.fN), (.int .i64 a_3096.fBurst.fD), (.int .i64 a_3096.fRate.fN), (.int .i64 a_3096.fRate.fD)]])); exact w_rat_Cmp (Z := _)  (x_2033 := a_3096.fRate) (y_2034 := b_3097.fRate) (r := x_3109) w pz  hx_3110) ?_
  refine WL.quiet (d := 4) rfl rfl rfl (q_assign rfl) ?_
  refine WL.nil ?_
  refine WX.then ?_
  refine WC.ret ?_
  obtain rfl := Option.some.inj h
  refine WX.bpRet Try.results41 (.tmp rfl .nil) (fun w hw => ?_)
  exact ⟨ret1 rfl, hw.sub .nil⟩
def m_slices_MinFunc_api_Curve_api_Bucket_L2 (x_3111 : List Sapi_Bucket) (f_3117 : Sapi_Bucket → Sapi_Bucket → Option Int) (k_3597 : Int → Int → Int → Int → Option Sapi_Bucket) : Nat → Int → Int → Int → Int → Int → Option Sapi_Bucket
  | 0, _, _, _, _, _ => none
  | n_3660 + 1, i_3654, c_3655, c_3656, c_3657, c_3658 => if decide (i_3654 < ((x_3111.length : Nat) : Int)) then jp4 (fun (c_3684 : Int) (c_3685 : Int) (c_3686 : Int) (c_3687 : Int) => m_slices_MinFunc_api_Curve_api_Bucket_L2 x_3111 f_3117 k_3597 n_3660 (i64 (i_3654 + 1)) c_3684 c_3685 c_3686 c_3687) fun k_3688 => chk ((0 : Int) ≤ i_3654 ∧ i_3654 < ((x_3111.length : Nat) : Int)) ((f_3117 (⟨(⟨(((nth x_3111 i_3654).fBurst).fN), (((nth x_3111 i_3654).fBurst).fD)⟩ : Sapi_Rat), (⟨(((nth x_3111 i_3654).fRate).fN), (((nth x_3111 i_3654).fRate).fD)⟩ : Sapi_Rat)⟩ : Sapi_Bucket) (⟨(⟨c_3655, c_3656⟩ : Sapi_Rat), (⟨c_3657, c_3658⟩ : Sapi_Rat)⟩ : Sapi_Bucket)).bind fun x_3695 => if decide (x_3695 < 0) then chk ((0 : Int) ≤ i_3654 ∧ i_3654 < ((x_3111.length : Nat) : Int)) (k_3688 (((nth x_3111 i_3654).fBurst).fN) (((nth x_3111 i_3654).fBurst).fD) (((nth x_3111 i_3654).fRate).fN) (((nth x_3111 i_3654).fRate).fD)) else k_3688 c_3655 c_3656 c_3657 c_3658) else k_3597 c_3655 c_3656 c_3657 c_3658
theorem m_slices_MinFunc_api_Curve_api_Bucket_L2_fuel {n : Nat} {x_3111 : List Sapi_Bucket} {f_3117 : Sapi_Bucket → Sapi_Bucket → Option Int} {k_3597 : Int → Int → Int → Int → Option Sapi_Bucket} {i_3654 : Int} {c_3655 : Int} {c_3656 : Int} {c_3657 : Int} {c_3658 : Int} {r : Sapi_Bucket} (h : m_slices_MinFunc_api_Curve_api_Bucket_L2 x_3111 f_3117 k_3597 n i_3654 c_3655 c_3656 c_3657 c_3658 = some r) : ∃ m, n = m + 1 := by
  cases n with
  | zero => cases h
  | succ m => exact ⟨m, rfl⟩

/-- slices.MinFunc[api.Curve,api.Bucket] -/
def m_slices_MinFunc_api_Curve_api_Bucket (x_3111 : List Sapi_Bucket) (f_3117 : Sapi_Bucket → Sapi_Bucket → Option Int) : Option Sapi_Bucket :=
  if decide (((x_3111.length : Nat) : Int) < 1) then none else chk ((0 : Int) ≤ 0 ∧ 0 < ((x_3111.length : Nat) : Int)) (jp4 (fun (c_3593 : Int) (c_3594 : Int) (c_3595 : Int) (c_3596 : Int) => some (⟨(⟨c_3593, c_3594⟩ : Sapi_Rat), (⟨c_3595, c_3596⟩ : Sapi_Rat)⟩ : Sapi_Bucket)) fun k_3597 => m_slices_MinFunc_api_Curve_api_Bucket_L2 x_3111 f_3117 k_3597 FUEL 1 (((nth x_3111 0).fBurst).fN) (((nth x_3111 0).fBurst).fD) (((nth x_3111 0).fRate).fN) (((nth x_3111 0).fRate).fD))

set_option maxRecDepth 20000 in
theorem w_slices_MinFunc_api_Curve_api_Bucket (Z : Zp)  (ao_3112 : Option Addr) (cap_3113 : Nat) (fid_3115 : FuncId) (fcaps_3116 : List Value) (x_3111 : List Sapi_Bucket) (f_3117 : Sapi_Bucket → Sapi_Bucket → Option Int) (r : Sapi_Bucket) (w₀ : World) (hz : PZ [] w₀ Z)
    (hs_3114 : ZS Z 4 (fun r x => r = e42 x) ao_3112 cap_3113 x_3111)
    (hcf_3118 : ∀ args w, (callFunc fid_3115 args).run Try.prog w = .ok (.enter fid_3115 args) w)
    (hfn_3119 : ∀ w : World, PZ [] w Z → ∀ (x0 : Sapi_Bucket) (x1 : Sapi_Bucket) (r : Int), f_3117 x0 x1 = some r → Calls Try.prog fid_3115 (([(.agg #[(.int .i64 x0.fBurst.fN), (.int .i64 x0.fBurst.fD), (.int .i64 x0.fRate.fN), (.int .i64 x0.fRate.fD)]), (.agg #[(.int .i64 x1.fBurst.fN), (.int .i64 x1.fBurst.fD), (.int .i64 x1.fRate.fN), (.int .i64 x1.fRate.fD)])] : List Value) ++ fcaps_3116).toArray w fun e w' => e = .returned (.int .i64 r) ∧ Hp [] w w' [])
    (h : m_slices_MinFunc_api_Curve_api_Bucket x_3111 f_3117 = some r) :
    Calls Try.prog 40 #[(.slice ao_3112 x_3111.length cap_3113), (.func (.func fid_3115) #[] (fcaps_3116).toArray)] w₀ fun e w' => e = .returned (.agg #[(.int .i64 r.fBurst.fN), (.int .i64 r.fBurst.fD), (.int .i64 r.fRate.fN), (.int .i64 r.fRate.fD)]) ∧ Hp [] w₀ w' [] := by
  unfold m_slices_MinFunc_api_Curve_api_Bucket at h
  refine Calls.ofWC (vs := [(.slice ao_3112 x_3111.length cap_3113), (.func (.func fid_3115) #[] (fcaps_3116).toArray)]) (pre := []) (env := [(0, (.slice ao_3112 x_3111.length cap_3113)), (1, (.func (.func fid_3115) #[] (fcaps_3116).toArray))]) Try.func40 rfl Try.ntmps40 rfl (Hp.nil w₀ _) rfl ?_
  refine WC.seq ?_
  refine WC.region ?_
  refine WL.new (dd := 4) rfl rfl rfl (e_alloc (cs := [(.int .i64 0), (.int .i64 0), (.int .i64 0), (.int .i64 0)]) zeroT_42 rfl) ?_
  intro b_3417 _
  refine WL.nil ?_
  refine WX.then ?_
  refine WC.seq ?_
  refine WC.seq ?_
  refine WC.region ?_
  refine WL.quiet (d := 7) rfl rfl rfl (q_move rfl) ?_
  refine WL.quiet (d := 8) rfl rfl rfl (q_len Try.underlying25 rfl) ?_
  refine WL.quiet (d := 9) rfl rfl rfl (q_lss rfl rfl) ?_
  refine WL.nil ?_
  refine WX.then ?_
  refine WC.cond rfl (fun hb_3419 => ?_) (fun hb_3419 => ?_)
  · replace h := ite_t h hb_3419
    cases h
  · replace h := ite_f h hb_3419
    refine WC.skip ?_
    refine WX.then ?_
    refine WC.seq ?_
    obtain ⟨c_3420, h⟩ := chk_elim h
    refine WC.region ?_
    refine WL.quiet (d := 11) rfl rfl rfl (q_move rfl) ?_
    refine WL.znth (dd := 12) rfl rfl (Z := Z) (Pr := (fun r x => r = e42 x)) elT_25 rfl rfl hs_3114 c_3420 ?_
    rintro A_3426 r_3427 hA_3428 hl_3429 rfl
    refine WL.quiet (d := 13) rfl rfl rfl (q_loadA (cs := [(.int .i64 (((nth x_3111 0).fBurst).fN)), (.int .i64 (((nth x_3111 0).fBurst).fD)), (.int .i64 (((nth x_3111 0).fRate).fN)), (.int .i64 (((nth x_3111 0).fRate).fD))]) aggT_42 rfl rfl (rd_zs hz.pv hA_3428)) ?_
    refine WL.new (dd := 5) rfl rfl rfl (e_alloc (cs := [(.int .i64 0), (.int .i64 0), (.int .i64 0), (.int .i64 0)]) zeroT_42 rfl) ?_
    intro b_3430 _
    refine WL.eff0 rfl rfl (e_store (vs := [(.int .i64 (((nth x_3111 0).fBurst).fN)), (.int .i64 (((nth x_3111 0).fBurst).fD)), (.int .i64 (((nth x_3111 0).fRate).fN)), (.int .i64 (((nth x_3111 0).fRate).fD))]) (ds := [(.int .i64 (((nth x_3111 0).fBurst).fN)), (.int .i64 (((nth x_3111 0).fBurst).fD)), (.int .i64 (((nth x_3111 0).fRate).fN)), (.int .i64 (((nth x_3111 0).fRate).fD))]) sizT_42 rfl rfl rfl rfl (oc_cons rfl (oc_cons rfl (oc_cons rfl (oc_cons rfl oc_nil)))) .here (Nat.le_of_ble_eq_true rfl) rfl) ?_
    refine WL.nil ?_
    refine WX.then ?_
    obtain ⟨k_3597, hk_3598, h⟩ := jp4_elim h
    refine WC.seqMid4 (fun (c_3593 : Int) (c_3594 : Int) (c_3595 : Int) (c_3596 : Int) => (k_3597 c_3593 c_3594 c_3595 c_3596 = some r)) (fun (c_3593 : Int) (c_3594 : Int) (c_3595 : Int) (c_3596 : Int) => [(4, (.pointer (some ⟨b_3417, 0, none⟩))), (5, (.pointer (some ⟨b_3430, 0, none⟩)))]) (fun (c_3593 : Int) (c_3594 : Int) (c_3595 : Int) (c_3596 : Int) => [stb b_3417 42 [(.int .i64 0), (.int .i64 0), (.int .i64 0), (.int .i64 0)], stb b_3430 42 [(.int .i64 c_3593), (.int .i64 c_3594), (.int .i64 c_3595), (.int .i64 c_3596)]]) ?_ ?_
    · skip
      refine WC.seq ?_
      refine WC.region ?_
      refine WL.quiet (d := 6) rfl rfl rfl (q_assign rfl) ?_
      refine WL.nil ?_
      refine WX.then ?_
      refine WC.block ?_
      refine WC.loop6 (fun (n_3659 : Nat) (i_3654 : Int) (c_3655 : Int) (c_3656 : Int) (c_3657 : Int) (c_3658 : Int) => (m_slices_MinFunc_api_Curve_api_Bucket_L2 x_3111 f_3117 k_3597 n_3659 i_3654 c_3655 c_3656 c_3657 c_3658 = some r)) (fun (n_3659 : Nat) (i_3654 : Int) (c_3655 : Int) (c_3656 : Int) (c_3657 : Int) (c_3658 : Int) => [(0, (.slice ao_3112 x_3111.length cap_3113)), (1, (.func (.func fid_3115) #[] (fcaps_3116).toArray)), (4, (.pointer (some ⟨b_3417, 0, none⟩))), (5, (.pointer (some ⟨b_3430, 0, none⟩))), (6, (.int .i64 i_3654))]) (fun (n_3659 : Nat) (i_3654 : Int) (c_3655 : Int) (c_3656 : Int) (c_3657 : Int) (c_3658 : Int) => [stb b_3417 42 [(.int .i64 0), (.int .i64 0), (.int .i64 0), (.int .i64 0)], stb b_3430 42 [(.int .i64 c_3655), (.int .i64 c_3656), (.int .i64 c_3657), (.int .i64 c_3658)]]) (fun (n_3659 : Nat) (i_3654 : Int) (c_3655 : Int) (c_3656 : Int) (c_3657 : Int) (c_3658 : Int) => n_3659) ⟨FUEL, 1, (((nth x_3111 0).fBurst).fN), (((nth x_3111 0).fBurst).fD), (((nth x_3111 0).fRate).fN), (((nth x_3111 0).fRate).fD)⟩ h (.cons rfl (.cons rfl (.cons rfl (.cons rfl (.cons rfl .nil))))) (.cons (.there .here) (.cons .here .nil)) ?_
      rintro n_3659 i_3654 c_3655 c_3656 c_3657 c_3658 h
      obtain ⟨n_3660, rfl⟩ := m_slices_MinFunc_api_Curve_api_Bucket_L2_fuel h
      rw [m_slices_MinFunc_api_Curve_api_Bucket_L2] at h
      refine WC.seq ?_
      refine WC.seq ?_
      refine WC.region ?_
      refine WL.quiet (d := 14) rfl rfl rfl (q_move rfl) ?_
      refine WL.quiet (d := 15) rfl rfl rfl (q_move rfl) ?_
      refine WL.quiet (d := 16) rfl rfl rfl (q_len Try.underlying25 rfl) ?_
      refine WL.quiet (d := 17) rfl rfl rfl (q_lss rfl rfl) ?_
      refine WL.nil ?_
      refine WX.then ?_
      refine WC.cond rfl (fun hb_3662 => ?_) (fun hb_3662 => ?_)
      · replace h := ite_t h hb_3662
        refine WC.skip ?_
        refine WX.then ?_
        obtain ⟨k_3688, hk_3689, h⟩ := jp4_elim h
        refine WC.seqMid4 (fun (c_3684 : Int) (c_3685 : Int) (c_3686 : Int) (c_3687 : Int) => (k_3688 c_3684 c_3685 c_3686 c_3687 = some r)) (fun (c_3684 : Int) (c_3685 : Int) (c_3686 : Int) (c_3687 : Int) => [(0, (.slice ao_3112 x_3111.length cap_3113)), (1, (.func (.func fid_3115) #[] (fcaps_3116).toArray)), (4, (.pointer (some ⟨b_3417, 0, none⟩))), (5, (.pointer (some ⟨b_3430, 0, none⟩))), (6, (.int .i64 i_3654))]) (fun (c_3684 : Int) (c_3685 : Int) (c_3686 : Int) (c_3687 : Int) => [stb b_3417 42 [(.int .i64 0), (.int .i64 0), (.int .i64 0), (.int .i64 0)], stb b_3430 42 [(.int .i64 c_3684), (.int .i64 c_3685), (.int .i64 c_3686), (.int .i64 c_3687)]]) ?_ ?_
        · skip
          refine WC.block ?_
          refine WC.seq ?_
          obtain ⟨c_3690, h⟩ := chk_elim h
          obtain ⟨x_3695, hx_3696, h⟩ := bind_elim h
          refine WC.draw (fun i => [].contains i) [] rfl ?_
          refine WD.pure (i := 0) (d := 20) (by kernel_rfl) rfl (readyF_of (by kernel_rfl)) (freeF_of (by kernel_rfl)) rfl rfl rfl (fun _ => q_move rfl) ?_
          refine WD.pure (i := 1) (d := 21) (by kernel_rfl) rfl (readyF_of (by kernel_rfl)) (freeF_of (by kernel_rfl)) rfl rfl rfl (fun _ => q_move rfl) ?_
          refine WD.pure (i := 2) (d := 22) (by kernel_rfl) rfl (readyF_of (by kernel_rfl)) (freeF_of (by kernel_rfl)) rfl rfl rfl (fun _ => q_move rfl) ?_
          refine WD.znth (j := 3) (dd := 23) (by kernel_rfl) rfl (readyF_of (by kernel_rfl)) (freeF_of (by kernel_rfl)) rfl rfl (Z := Z) (Pr := (fun r x => r = e42 x)) elT_25 rfl rfl hs_3114 c_3690 ?_
          rintro A_3697 r_3698 hA_3699 hl_3700 rfl
          refine WD.quiet (i := 4) (d := 24) (by kernel_rfl) rfl (readyF_of (by kernel_rfl)) (freeF_of (by kernel_rfl)) rfl rfl rfl (q_loadA (cs := [(.int .i64 (((nth x_3111 i_3654).fBurst).fN)), (.int .i64 (((nth x_3111 i_3654).fBurst).fD)), (.int .i64 (((nth x_3111 i_3654).fRate).fN)), (.int .i64 (((nth x_3111 i_3654).fRate).fD))]) aggT_42 rfl rfl (rd_zs hz.pv hA_3699)) ?_
          refine WD.quiet (i := 5) (d := 25) (by kernel_rfl) rfl (readyF_of (by kernel_rfl)) (freeF_of (by kernel_rfl)) rfl rfl rfl (q_loadA (cs := [(.int .i64 c_3655), (.int .i64 c_3656), (.int .i64 c_3657), (.int .i64 c_3658)]) aggT_42 rfl rfl (rd_all (.there .here))) ?_
          refine WD.enter (i := 6) (d := 26) (by kernel_rfl) rfl (readyF_of (by kernel_rfl)) (freeF_of (by kernel_rfl)) rfl rfl rfl (run_callv (l := [.tmp 24, .tmp 25]) (f := fid_3115) (caps := fcaps_3116) hcf_3118 rfl (.cons rfl (.cons rfl .nil))) (fun w hw => hfn_3119 w (hz.now hw) (⟨(⟨(((nth x_3111 i_3654).fBurst).fN), (((nth x_3111 i_3654).fBurst).fD)⟩ : Sapi_Rat), (⟨(((nth x_3111 i_3654).fRate).fN), (((nth x_3111 i_3654).fRate).fD)⟩ : Sapi_Rat)⟩ : Sapi_Bucket) (⟨(⟨c_3655, c_3656⟩ : Sapi_Rat), (⟨c_3657, c_3658⟩ : Sapi_Rat)⟩ : Sapi_Bucket) x_3695  hx_3696) ?_
          refine WD.pure (i := 7) (d := 27) (by kernel_rfl) rfl (readyF_of (by kernel_rfl)) (freeF_of (by kernel_rfl)) rfl rfl rfl (fun _ => q_lss rfl rfl) ?_
          refine WD.done (by kernel_rfl) ?_
          refine WX.then ?_
          refine WC.cond rfl (fun hb_3701 => ?_) (fun hb_3701 => ?_)
          · replace h := ite_t h hb_3701
            obtain ⟨c_3702, h⟩ := chk_elim h
            refine WC.region ?_
            refine WL.quiet (d := 28) rfl rfl rfl (q_move rfl) ?_
            refine WL.quiet (d := 29) rfl rfl rfl (q_move rfl) ?_
            refine WL.znth (dd := 30) rfl rfl (Z := Z) (Pr := (fun r x => r = e42 x)) elT_25 rfl rfl hs_3114 c_3702 ?_
            rintro A_3707 r_3708 hA_3709 hl_3710 rfl
            refine WL.quiet (d := 31) rfl rfl rfl (q_loadA (cs := [(.int .i64 (((nth x_3111 i_3654).fBurst).fN)), (.int .i64 (((nth x_3111 i_3654).fBurst).fD)), (.int .i64 (((nth x_3111 i_3654).fRate).fN)), (.int .i64 (((nth x_3111 i_3654).fRate).fD))]) aggT_42 rfl rfl (rd_zs hz.pv hA_3709)) ?_
            refine WL.eff0 rfl rfl (e_store (vs := [(.int .i64 (((nth x_3111 i_3654).fBurst).fN)), (.int .i64 (((nth x_3111 i_3654).fBurst).fD)), (.int .i64 (((nth x_3111 i_3654).fRate).fN)), (.int .i64 (((nth x_3111 i_3654).fRate).fD))]) (ds := [(.int .i64 (((nth x_3111 i_3654).fBurst).fN)), (.int .i64 (((nth x_3111 i_3654).fBurst).fD)), (.int .i64 (((nth x_3111 i_3654).fRate).fN)), (.int .i64 (((nth x_3111 i_3654).fRate).fD))]) sizT_42 rfl rfl rfl rfl (oc_cons rfl (oc_cons rfl (oc_cons rfl (oc_cons rfl oc_nil)))) (.there .here) (Nat.le_of_ble_eq_true rfl) rfl) ?_
            refine WL.nil ?_
            refine WX.blockNormal ?_
            exact WX.mid (G := Int × Int × Int × Int) ⟨(((nth x_3111 i_3654).fBurst).fN), (((nth x_3111 i_3654).fBurst).fD), (((nth x_3111 i_3654).fRate).fN), (((nth x_3111 i_3654).fRate).fD)⟩ h (.cons rfl (.cons rfl (.cons rfl (.cons rfl (.cons rfl .nil))))) (.cons (.there .here) (.cons .here .nil))
          · replace h := ite_f h hb_3701
            refine WC.skip ?_
            refine WX.blockNormal ?_
            exact WX.mid (G := Int × Int × Int × Int) ⟨c_3655, c_3656, c_3657, c_3658⟩ h (.cons rfl (.cons rfl (.cons rfl (.cons rfl (.cons rfl .nil))))) (.cons .here (.cons .here .nil))
        · rintro c_3684 c_3685 c_3686 c_3687 h
          replace h := (hk_3689 c_3684 c_3685 c_3686 c_3687).symm.trans h
          refine WC.region ?_
          refine WL.quiet (d := 18) rfl rfl rfl (q_move rfl) ?_
          refine WL.quiet (d := 19) rfl rfl rfl (q_add rfl rfl rfl) ?_
          refine WL.quiet (d := 6) rfl rfl rfl (q_assign rfl) ?_
          refine WL.nil ?_
          exact WX.round (G := Nat × Int × Int × Int × Int × Int) ⟨n_3660, (i64 (i_3654 + 1)), c_3684, c_3685, c_3686, c_3687⟩ h (Nat.lt_succ_self _) (.cons rfl (.cons rfl (.cons rfl (.cons rfl (.cons rfl .nil))))) (.cons .here (.cons .here .nil))
      · replace h := ite_f h hb_3662
        refine WC.exit ?_
        refine WX.thenExit ?_
        refine WX.thenExit ?_
        refine WX.blockHit ?_
        exact WX.mid (G := Int × Int × Int × Int) ⟨c_3655, c_3656, c_3657, c_3658⟩ h (.cons rfl (.cons rfl .nil)) (.cons .here (.cons .here .nil))
    · rintro c_3593 c_3594 c_3595 c_3596 h
      replace h := (hk_3598 c_3593 c_3594 c_3595 c_3596).symm.trans h
      refine WC.seq ?_
      refine WC.region ?_
      refine WL.quiet (d := 32) rfl rfl rfl (q_loadA (cs := [(.int .i64 c_3593), (.int .i64 c_3594), (.int .i64 c_3595), (.int .i64 c_3596)]) aggT_42 rfl rfl (rd_all (.there .here))) ?_
      refine WL.eff0 rfl rfl (e_store (vs := [(.int .i64 c_3593), (.int .i64 c_3594), (.int .i64 c_3595), (.int .i64 c_3596)]) (ds := [(.int .i64 c_3593), (.int .i64 c_3594), (.int .i64 c_3595), (.int .i64 c_3596)]) sizT_42 rfl rfl rfl rfl (oc_cons rfl (oc_cons rfl (oc_cons rfl (oc_cons rfl oc_nil)))) .here (Nat.le_of_ble_eq_true rfl) rfl) ?_
      refine WL.nil ?_
      refine WX.then ?_
      refine WC.ret ?_
      obtain rfl := Option.some.inj h
      refine WX.bpRet Try.results40 (.agg rfl aggT_42 rfl (rd_all .here) .nil) (fun w hw => ?_)
      exact ⟨ret1 rfl, hw.sub .nil⟩
/-- curve.Rate -/
def m_curve_Rate (c_3084 : List Sapi_Bucket) : Option (Sapi_Rat × Int) :=
  (m_curve_Valid c_3084).bind fun x_3720 => if !x_3720 then some ((⟨0, 0⟩ : Sapi_Rat), 2) else (m_slices_MinFunc_api_Curve_api_Bucket c_3084 (fun (y0 : Sapi_Bucket) (y1 : Sapi_Bucket) => m_curve_Rate_1 y0 y1)).bind fun x_3723 => some (x_3723.fRate, 0)

set_option maxRecDepth 20000 in
theorem w_curve_Rate (Z : Zp)  (ao_3085 : Option Addr) (cap_3086 : Nat) (c_3084 : List Sapi_Bucket) (r : Sapi_Rat × Int) (w₀ : World) (hz : PZ [] w₀ Z)
    (hs_3087 : ZS Z 4 (fun r x => r = e42 x) ao_3085 cap_3086 c_3084)
    (h : m_curve_Rate c_3084 = some r) :
    Calls Try.prog 15 #[(.slice ao_3085 c_3084.length cap_3086)] w₀ fun e w' => e = .returned (.tuple #[(.agg #[(.int .i64 r.1.fN), (.int .i64 r.1.fD)]), (.int .i64 r.2)]) ∧ Hp [] w₀ w' [] := by
  unfold m_curve_Rate at h
  refine Calls.ofWC (vs := [(.slice ao_3085 c_3084.length cap_3086)]) (pre := []) (env := [(0, (.slice ao_3085 c_3084.length cap_3086))]) Try.func15 rfl Try.ntmps15 rfl (Hp.nil w₀ _) rfl ?_
  refine WC.seq ?_
  refine WC.region ?_
  refine WL.new (dd := 2) rfl rfl rfl (e_alloc (cs := [(.int .i64 0), (.int .i64 0)]) zeroT_28 rfl) ?_
  intro b_3716 _
  refine WL.quiet (d := 3) rfl rfl rfl (q_assign rfl) ?_
  refine WL.nil ?_
  refine WX.then ?_
  refine WC.seq ?_
  refine WC.seq ?_
  obtain ⟨x_3720, hx_3721, h⟩ := bind_elim h
  refine WC.region ?_
  refine WL.quiet (d := 4) rfl rfl rfl (q_move rfl) ?_
  refine WL.callD (dd := 5) rfl rfl rfl (run_call (l := [.tmp 4]) Try.call26 (.cons rfl .nil)) (.nil : Sel [stb b_3716 28 [(.int .i64 0), (.int .i64 0)]] [] [stb b_3716 28 [(.int .i64 0), (.int .i64 0)]]) (fun w hw => by have pz := (hz.call hw (.nil : Sel [stb b_3716 28 [(.int .i64 0), (.int .i64 0)]] [] [stb b_3716 28 [(.int .i64 0), (.int .i64 0)]])); exact w_curve_Valid (Z := _) (ao_1187 := ao_3085) (cap_1188 := cap_3086) (c_1186 := c_3084) (r := x_3720) w pz hs_3087 hx_3721) ?_
  refine WL.quiet (d := 6) rfl rfl rfl (q_not rfl) ?_
  refine WL.nil ?_
  refine WX.then ?_
  refine WC.cond rfl (fun hb_3722 => ?_) (fun hb_3722 => ?_)
  · replace h := ite_t h hb_3722
    refine WC.seq ?_
    refine WC.region ?_
    refine WL.quiet (d := 7) rfl rfl rfl (q_build (v := (.agg #[(.int .i64 0), (.int .i64 0)])) (Eos.parts (l := []) .nil []) (fun _ => by kernel_rfl)) ?_
    refine WL.eff0 rfl rfl (e_store (vs := [(.int .i64 0), (.int .i64 0)]) (ds := [(.int .i64 0), (.int .i64 0)]) sizT_28 rfl rfl rfl rfl (oc_cons rfl (oc_cons rfl oc_nil)) .here (Nat.le_of_ble_eq_true rfl) rfl) ?_
    refine WL.quiet (d := 3) rfl rfl rfl (q_assign rfl) ?_
    refine WL.nil ?_
    refine WX.then ?_
    refine WC.ret ?_
    refine WX.thenRet ?_
    obtain rfl := Option.some.inj h
    refine WX.bpRet Try.results15 (.agg rfl aggT_28 rfl (rd_all .here) (.tmp rfl .nil)) (fun w hw => ?_)
    exact ⟨ret2 rfl rfl, hw.sub .nil⟩
  · replace h := ite_f h hb_3722
    refine WC.skip ?_
    refine WX.then ?_
    refine WC.seq ?_
    obtain ⟨x_3723, hx_3724, h⟩ := bind_elim h
    refine WC.region ?_
    refine WL.quiet (d := 8) rfl rfl rfl (q_move rfl) ?_
    refine WL.callD (dd := 9) rfl rfl rfl (run_call (l := [.tmp 8, .func 41]) Try.call40 (.cons rfl (.cons rfl .nil))) (.nil : Sel [stb b_3716 28 [(.int .i64 0), (.int .i64 0)]] [] [stb b_3716 28 [(.int .i64 0), (.int .i64 0)]]) (fun w hw => by have pz := (hz.call hw (.nil : Sel [stb b_3716 28 [(.int .i64 0), (.int .i64 0)]] [] [stb b_3716 28 [(.int .i64 0), (.int .i64 0)]])); exact w_slices_MinFunc_api_Curve_api_Bucket (Z := _) (ao_3112 := ao_3085) (cap_3113 := cap_3086) (fid_3115 := 41) (fcaps_3116 := []) (x_3111 := c_3084) (f_3117 := (fun (y0 : Sapi_Bucket) (y1 : Sapi_Bucket) => m_curve_Rate_1 y0 y1)) (r := x_3723) w pz hs_3087 Try.call41 (fun w' hz' y0 y1  r  hr => w_curve_Rate_1 (Z := _)  (a_3096 := y0) (b_3097 := y1) (r := r) w' hz'  hr) hx_3724) ?_
    refine WL.quiet (d := 10) rfl rfl rfl (q_fieldA (cs' := #[(.int .i64 x_3723.fRate.fN), (.int .i64 x_3723.fRate.fD)]) fldT_42_1 aggT_28 rfl rfl) ?_
    refine WL.eff0 rfl rfl (e_store (vs := [(.int .i64 x_3723.fRate.fN), (.int .i64 x_3723.fRate.fD)]) (ds := [(.int .i64 x_3723.fRate.fN), (.int .i64 x_3723.fRate.fD)]) sizT_28 rfl rfl rfl rfl (oc_cons rfl (oc_cons rfl oc_nil)) .here (Nat.le_of_ble_eq_true rfl) rfl) ?_
    refine WL.quiet (d := 3) rfl rfl rfl (q_assign rfl) ?_
    refine WL.nil ?_
    refine WX.then ?_
    refine WC.ret ?_
    obtain rfl := Option.some.inj h
    refine WX.bpRet Try.results15 (.agg rfl aggT_28 rfl (rd_all .here) (.tmp rfl .nil)) (fun w hw => ?_)
    exact ⟨ret2 rfl rfl, hw.sub .nil⟩
/-- nacellelaw02.bucket -/
def m_law02_bucket (b_3749 : Sapi_Rat) (r_3750 : Sapi_Rat) : Option Sapi_Bucket :=
  some (⟨b_3749, r_3750⟩ : Sapi_Bucket)

set_option maxRecDepth 20000 in
theorem w_law02_bucket (Z : Zp)   (b_3749 : Sapi_Rat) (r_3750 : Sapi_Rat) (r : Sapi_Bucket) (w₀ : World) (hz : PZ [] w₀ Z)
    (h : m_law02_bucket b_3749 r_3750 = some r) :
    Calls Try.prog 43 #[(.agg #[(.int .i64 b_3749.fN), (.int .i64 b_3749.fD)]), (.agg #[(.int .i64 r_3750.fN), (.int .i64 r_3750.fD)])] w₀ fun e w' => e = .returned (.agg #[(.int .i64 r.fBurst.fN), (.int .i64 r.fBurst.fD), (.int .i64 r.fRate.fN), (.int .i64 r.fRate.fD)]) ∧ Hp [] w₀ w' [] := by
  unfold m_law02_bucket at h
  refine Calls.ofWC (vs := [(.agg #[(.int .i64 b_3749.fN), (.int .i64 b_3749.fD)]), (.agg #[(.int .i64 r_3750.fN), (.int .i64 r_3750.fD)])]) (pre := []) (env := [(0, (.agg #[(.int .i64 b_3749.fN), (.int .i64 b_3749.fD)])), (1, (.agg #[(.int .i64 r_3750.fN), (.int .i64 r_3750.fD)]))]) Try.func43 rfl Try.ntmps43 rfl (Hp.nil w₀ _) rfl ?_
  refine WC.seq ?_
  refine WC.region ?_
  refine WL.new (dd := 2) rfl rfl rfl (e_box (cs := [(.int .i64 b_3749.fN), (.int .i64 b_3749.fD)]) rfl rfl) ?_
  intro b_3761 _
  refine WL.new (dd := 3) rfl rfl rfl (e_box (cs := [(.int .i64 r_3750.fN), (.int .i64 r_3750.fD)]) rfl rfl) ?_
  intro b_3762 _
  refine WL.new (dd := 4) rfl rfl rfl (e_alloc (cs := [(.int .i64 0), (.int .i64 0), (.int .i64 0), (.int .i64 0)]) zeroT_42 rfl) ?_
  intro b_3763 _
  refine WL.nil ?_
  refine WX.then ?_
  refine WC.seq ?_
  refine WC.region ?_
  refine WL.quiet (d := 5) rfl rfl rfl (q_loadA (cs := [(.int .i64 b_3749.fN), (.int .i64 b_3749.fD)]) aggT_28 rfl rfl (rd_all (.there (.there .here)))) ?_
  refine WL.quiet (d := 6) rfl rfl rfl (q_loadA (cs := [(.int .i64 r_3750.fN), (.int .i64 r_3750.fD)]) aggT_28 rfl rfl (rd_all (.there .here))) ?_
  refine WL.quiet (d := 7) rfl rfl rfl (q_build (v := (.agg #[(.int .i64 b_3749.fN), (.int .i64 b_3749.fD), (.int .i64 r_3750.fN), (.int .i64 r_3750.fD)])) (Eos.parts (l := [.tmp 5, .tmp 6]) (.cons rfl (.cons rfl .nil)) [0, 1]) (fun _ => by kernel_rfl)) ?_
  refine WL.eff0 rfl rfl (e_store (vs := [(.int .i64 b_3749.fN), (.int .i64 b_3749.fD), (.int .i64 r_3750.fN), (.int .i64 r_3750.fD)]) (ds := [(.int .i64 b_3749.fN), (.int .i64 b_3749.fD), (.int .i64 r_3750.fN), (.int .i64 r_3750.fD)]) sizT_42 rfl rfl rfl rfl (oc_cons rfl (oc_cons rfl (oc_cons rfl (oc_cons rfl oc_nil)))) .here (Nat.le_of_ble_eq_true rfl) rfl) ?_
  refine WL.nil ?_
  refine WX.then ?_
  refine WC.ret ?_
  obtain rfl := Option.some.inj h
  refine WX.bpRet Try.results43 (.agg rfl aggT_42 rfl (rd_all .here) .nil) (fun w hw => ?_)
  exact ⟨ret1 rfl, hw.sub .nil⟩
def m_slices_Index_api_Curve_api_Bucket_L2 (s_3812 : List Sapi_Bucket) (v_3816 : Sapi_Bucket) (k_4012 : Option Int) : Nat → Int → Option Int
  | 0, _ => none
  | n_4039 + 1, v_4037 => if decide (v_4037 < ((s_3812.length : Nat) : Int)) then chk ((0 : Int) ≤ v_4037 ∧ v_4037 < ((s_3812.length : Nat) : Int)) (if decide (v_3816 = (⟨(⟨(((nth s_3812 v_4037).fBurst).fN), (((nth s_3812 v_4037).fBurst).fD)⟩ : Sapi_Rat), (⟨(((nth s_3812 v_4037).fRate).fN), (((nth s_3812 v_4037).fRate).fD)⟩ : Sapi_Rat)⟩ : Sapi_Bucket)) then some v_4037 else m_slices_Index_api_Curve_api_Bucket_L2 s_3812 v_3816 k_4012 n_4039 (i64 (v_4037 + 1))) else k_4012
theorem m_slices_Index_api_Curve_api_Bucket_L2_fuel {n : Nat} {s_3812 : List Sapi_Bucket} {v_3816 : Sapi_Bucket} {k_4012 : Option Int} {v_4037 : Int} {r : Int} (h : m_slices_Index_api_Curve_api_Bucket_L2 s_3812 v_3816 k_4012 n v_4037 = some r) : ∃ m, n = m + 1 := by
  cases n with
  | zero => cases h
  | succ m => exact ⟨m, rfl⟩

/-- slices.Index[api.Curve,api.Bucket] -/
def m_slices_Index_api_Curve_api_Bucket (s_3812 : List Sapi_Bucket) (v_3816 : Sapi_Bucket) : Option Int :=
  jp0 (some (-1)) fun k_4012 => m_slices_Index_api_Curve_api_Bucket_L2 s_3812 v_3816 k_4012 FUEL 0

set_option maxRecDepth 20000 in
theorem w_slices_Index_api_Curve_api_Bucket (Z : Zp)  (ao_3813 : Option Addr) (cap_3814 : Nat) (s_3812 : List Sapi_Bucket) (v_3816 : Sapi_Bucket) (r : Int) (w₀ : World) (hz : PZ [] w₀ Z)
    (hs_3815 : ZS Z 4 (fun r x => r = e42 x) ao_3813 cap_3814 s_3812)
    (h : m_slices_Index_api_Curve_api_Bucket s_3812 v_3816 = some r) :
    Calls Try.prog 80 #[(.slice ao_3813 s_3812.length cap_3814), (.agg #[(.int .i64 v_3816.fBurst.fN), (.int .i64 v_3816.fBurst.fD), (.int .i64 v_3816.fRate.fN), (.int .i64 v_3816.fRate.fD)])] w₀ fun e w' => e = .returned (.int .i64 r) ∧ Hp [] w₀ w' [] := by
  unfold m_slices_Index_api_Curve_api_Bucket at h
  refine Calls.ofWC (vs := [(.slice ao_3813 s_3812.length cap_3814), (.agg #[(.int .i64 v_3816.fBurst.fN), (.int .i64 v_3816.fBurst.fD), (.int .i64 v_3816.fRate.fN), (.int .i64 v_3816.fRate.fD)])]) (pre := []) (env := [(0, (.slice ao_3813 s_3812.length cap_3814)), (1, (.agg #[(.int .i64 v_3816.fBurst.fN), (.int .i64 v_3816.fBurst.fD), (.int .i64 v_3816.fRate.fN), (.int .i64 v_3816.fRate.fD)]))]) Try.func80 rfl Try.ntmps80 rfl (Hp.nil w₀ _) rfl ?_
  refine WC.seq ?_
  refine WC.region ?_
  refine WL.new (dd := 3) rfl rfl rfl (e_box (cs := [(.int .i64 v_3816.fBurst.fN), (.int .i64 v_3816.fBurst.fD), (.int .i64 v_3816.fRate.fN), (.int .i64 v_3816.fRate.fD)]) rfl rfl) ?_
  intro b_3941 _
  refine WL.quiet (d := 4) rfl rfl rfl (q_assign rfl) ?_
  refine WL.nil ?_
  refine WX.then ?_
  obtain ⟨k_4012, hk_4013, h⟩ := jp0_elim h
  refine WC.seqMid0 ((k_4012 = some r)) ([]) ([]) ?_ ?_
  · skip
    refine WC.seq ?_
    refine WC.region ?_
    refine WL.quiet (d := 6) rfl rfl rfl (q_move rfl) ?_
    refine WL.quiet (d := 7) rfl rfl rfl (q_len Try.underlying25 rfl) ?_
    refine WL.quiet (d := 8) rfl rfl rfl (q_move rfl) ?_
    refine WL.nil ?_
    refine WX.then ?_
    refine WC.block ?_
    refine WC.loop2 (fun (n_4038 : Nat) (v_4037 : Int) => (m_slices_Index_api_Curve_api_Bucket_L2 s_3812 v_3816 k_4012 n_4038 v_4037 = some r)) (fun (n_4038 : Nat) (v_4037 : Int) => [(0, (.slice ao_3813 s_3812.length cap_3814)), (3, (.pointer (some ⟨b_3941, 0, none⟩))), (7, (.int .i64 ((s_3812.length : Nat) : Int))), (8, (.int .i64 v_4037))]) (fun (n_4038 : Nat) (v_4037 : Int) => [stb b_3941 42 [(.int .i64 v_3816.fBurst.fN), (.int .i64 v_3816.fBurst.fD), (.int .i64 v_3816.fRate.fN), (.int .i64 v_3816.fRate.fD)]]) (fun (n_4038 : Nat) (v_4037 : Int) => n_4038) ⟨FUEL, 0⟩ h (.cons rfl (.cons rfl (.cons rfl (.cons rfl .nil)))) (.cons .here .nil) ?_
    rintro n_4038 v_4037 h
    obtain ⟨n_4039, rfl⟩ := m_slices_Index_api_Curve_api_Bucket_L2_fuel h
    rw [m_slices_Index_api_Curve_api_Bucket_L2] at h
    refine WC.seq ?_
    refine WC.region ?_
    refine WL.quiet (d := 9) rfl rfl rfl (q_lss rfl rfl) ?_
    refine WL.nil ?_
    refine WX.then ?_
    refine WC.seq ?_
    refine WC.cond rfl (fun hb_4041 => ?_) (fun hb_4041 => ?_)
    · replace h := ite_t h hb_4041
      refine WC.skip ?_
      refine WX.then ?_
      refine WC.seq ?_
      refine WC.block ?_
      refine WC.seq ?_
      refine WC.region ?_
      refine WL.quiet (d := 10) rfl rfl rfl (q_move rfl) ?_
      refine WL.quiet (d := 5) rfl rfl rfl (q_assign rfl) ?_
      refine WL.nil ?_
      refine WX.then ?_
      refine WC.seq ?_
      obtain ⟨c_4052, h⟩ := chk_elim h
      refine WC.draw (fun i => [].contains i) [] rfl ?_
      refine WD.quiet (i := 0) (d := 11) (by kernel_rfl) rfl (readyF_of (by kernel_rfl)) (freeF_of (by kernel_rfl)) rfl rfl rfl (q_loadA (cs := [(.int .i64 v_3816.fBurst.fN), (.int .i64 v_3816.fBurst.fD), (.int .i64 v_3816.fRate.fN), (.int .i64 v_3816.fRate.fD)]) aggT_42 rfl rfl (rd_all .here)) ?_
      refine WD.pure (i := 1) (d := 12) (by kernel_rfl) rfl (readyF_of (by kernel_rfl)) (freeF_of (by kernel_rfl)) rfl rfl rfl (fun _ => q_move rfl) ?_
      refine WD.pure (i := 2) (d := 13) (by kernel_rfl) rfl (readyF_of (by kernel_rfl)) (freeF_of (by kernel_rfl)) rfl rfl rfl (fun _ => q_move rfl) ?_
      refine WD.znth (j := 3) (dd := 14) (by kernel_rfl) rfl (readyF_of (by kernel_rfl)) (freeF_of (by kernel_rfl)) rfl rfl (Z := Z) (Pr := (fun r x => r = e42 x)) elT_25 rfl rfl hs_3815 c_4052 ?_
      rintro A_4057 r_4058 hA_4059 hl_4060 rfl
      refine WD.quiet (i := 4) (d := 15) (by kernel_rfl) rfl (readyF_of (by kernel_rfl)) (freeF_of (by kernel_rfl)) rfl rfl rfl (q_loadA (cs := [(.int .i64 (((nth s_3812 v_4037).fBurst).fN)), (.int .i64 (((nth s_3812 v_4037).fBurst).fD)), (.int .i64 (((nth s_3812 v_4037).fRate).fN)), (.int .i64 (((nth s_3812 v_4037).fRate).fD))]) aggT_42 rfl rfl (rd_zs hz.pv hA_4059)) ?_
      refine WD.pure (i := 5) (d := 16) (by kernel_rfl) rfl (readyF_of (by kernel_rfl)) (freeF_of (by kernel_rfl)) rfl rfl rfl (fun _ => q_aggeql (enc := e42) (a := v_3816) (b := (⟨(⟨(((nth s_3812 v_4037).fBurst).fN), (((nth s_3812 v_4037).fBurst).fD)⟩ : Sapi_Rat), (⟨(((nth s_3812 v_4037).fRate).fN), (((nth s_3812 v_4037).fRate).fD)⟩ : Sapi_Rat)⟩ : Sapi_Bucket)) eqT_42 rfl rfl) ?_
      refine WD.done (by kernel_rfl) ?_
      refine WX.then ?_
      refine WC.cond rfl (fun hb_4061 => ?_) (fun hb_4061 => ?_)
      · replace h := ite_t h hb_4061
        refine WC.seq ?_
        refine WC.region ?_
        refine WL.quiet (d := 17) rfl rfl rfl (q_move rfl) ?_
        refine WL.quiet (d := 4) rfl rfl rfl (q_assign rfl) ?_
        refine WL.nil ?_
        refine WX.then ?_
        refine WC.ret ?_
        refine WX.blockRet ?_
        refine WX.thenRet ?_
        refine WX.thenRet ?_
        refine WX.blockRet ?_
        refine WX.thenRet ?_
        obtain rfl := Option.some.inj h
        refine WX.bpRet Try.results80 (.tmp rfl .nil) (fun w hw => ?_)
        exact ⟨ret1 rfl, hw.sub .nil⟩
      · replace h := ite_f h hb_4061
        refine WC.skip ?_
        refine WX.blockNormal ?_
        refine WX.then ?_
        refine WC.region ?_
        refine WL.quiet (d := 18) rfl rfl rfl (q_add rfl rfl rfl) ?_
        refine WL.quiet (d := 8) rfl rfl rfl (q_move rfl) ?_
        refine WL.nil ?_
        exact WX.round (G := Nat × Int) ⟨n_4039, (i64 (v_4037 + 1))⟩ h (Nat.lt_succ_self _) (.cons rfl (.cons rfl (.cons rfl (.cons rfl .nil)))) (.cons .here .nil)
    · replace h := ite_f h hb_4041
      refine WC.exit ?_
      refine WX.thenExit ?_
      refine WX.thenExit ?_
      refine WX.blockHit ?_
      exact WX.mid (G := Unit) () h .nil .nil
  · rintro  h
    replace h := hk_4013.symm.trans h
    refine WC.seq ?_
    refine WC.region ?_
    refine WL.quiet (d := 4) rfl rfl rfl (q_assign rfl) ?_
    refine WL.nil ?_
    refine WX.then ?_
    refine WC.ret ?_
    obtain rfl := Option.some.inj h
    refine WX.bpRet Try.results80 (.tmp rfl .nil) (fun w hw => ?_)
    exact ⟨ret1 rfl, hw.sub .nil⟩
/-- slices.Contains[api.Curve,api.Bucket] -/
def m_slices_Contains_api_Curve_api_Bucket (s_3805 : List Sapi_Bucket) (v_3809 : Sapi_Bucket) : Option Bool :=
  (m_slices_Index_api_Curve_api_Bucket s_3805 v_3809).bind fun x_4067 => some (decide (x_4067 ≥ 0))

set_option maxRecDepth 20000 in
theorem w_slices_Contains_api_Curve_api_Bucket (Z : Zp)  (ao_3806 : Option Addr) (cap_3807 : Nat) (s_3805 : List Sapi_Bucket) (v_3809 : Sapi_Bucket) (r : Bool) (w₀ : World) (hz : PZ [] w₀ Z)
    (hs_3808 : ZS Z 4 (fun r x => r = e42 x) ao_3806 cap_3807 s_3805)
    (h : m_slices_Contains_api_Curve_api_Bucket s_3805 v_3809 = some r) :
    Calls Try.prog 68 #[(.slice ao_3806 s_3805.length cap_3807), (.agg #[(.int .i64 v_3809.fBurst.fN), (.int .i64 v_3809.fBurst.fD), (.int .i64 v_3809.fRate.fN), (.int .i64 v_3809.fRate.fD)])] w₀ fun e w' => e = .returned (.bool r) ∧ Hp [] w₀ w' [] := by
  unfold m_slices_Contains_api_Curve_api_Bucket at h
  refine Calls.ofWC (vs := [(.slice ao_3806 s_3805.length cap_3807), (.agg #[(.int .i64 v_3809.fBurst.fN), (.int .i64 v_3809.fBurst.fD), (.int .i64 v_3809.fRate.fN), (.int .i64 v_3809.fRate.fD)])]) (pre := []) (env := [(0, (.slice ao_3806 s_3805.length cap_3807)), (1, (.agg #[(.int .i64 v_3809.fBurst.fN), (.int .i64 v_3809.fBurst.fD), (.int .i64 v_3809.fRate.fN), (.int .i64 v_3809.fRate.fD)]))]) Try.func68 rfl Try.ntmps68 rfl (Hp.nil w₀ _) rfl ?_
  refine WC.seq ?_
  refine WC.region ?_
  refine WL.new (dd := 3) rfl rfl rfl (e_box (cs := [(.int .i64 v_3809.fBurst.fN), (.int .i64 v_3809.fBurst.fD), (.int .i64 v_3809.fRate.fN), (.int .i64 v_3809.fRate.fD)]) rfl rfl) ?_
  intro b_4066 _
  refine WL.quiet (d := 4) rfl rfl rfl (q_assign rfl) ?_
  refine WL.nil ?_
  refine WX.then ?_
  refine WC.seq ?_
  obtain ⟨x_4067, hx_4068, h⟩ := bind_elim h
  refine WC.region ?_
  refine WL.quiet (d := 5) rfl rfl rfl (q_move rfl) ?_
  refine WL.quiet (d := 6) rfl rfl rfl (q_loadA (cs := [(.int .i64 v_3809.fBurst.fN), (.int .i64 v_3809.fBurst.fD), (.int .i64 v_3809.fRate.fN), (.int .i64 v_3809.fRate.fD)]) aggT_42 rfl rfl (rd_all .here)) ?_
  refine WL.callD (dd := 7) rfl rfl rfl (run_call (l := [.tmp 5, .tmp 6]) Try.call80 (.cons rfl (.cons rfl .nil))) (.nil : Sel [stb b_4066 42 [(.int .i64 v_3809.fBurst.fN), (.int .i64 v_3809.fBurst.fD), (.int .i64 v_3809.fRate.fN), (.int .i64 v_3809.fRate.fD)]] [] [stb b_4066 42 [(.int .i64 v_3809.fBurst.fN), (.int .i64 v_3809.fBurst.fD), (.int .i64 v_3809.fRate.fN), (.int .i64 v_3809.fRate.fD)]]) (fun w hw => by have pz := (hz.call hw (.nil : Sel [stb b_4066 42 [(.int .i64 v_3809.fBurst.fN), (.int .i64 v_3809.fBurst.fD), (.int .i64 v_3809.fRate.fN), (.int .i64 v_3809.fRate.fD)]] [] [stb b_4066 42 [(.int .i64 v_3809.fBurst.fN), (.int .i64 v_3809.fBurst.fD), (.int .i64 v_3809.fRate.fN), (.int .i64 v_3809.fRate.fD)]])); exact w_slices_Index_api_Curve_api_Bucket (Z := _) (ao_3813 := ao_3806) (cap_3814 := cap_3807) (s_3812 := s_3805) (v_3816 := v_3809) (r := x_4067) w pz hs_3808 hx_4068) ?_
  refine WL.quiet (d := 8) rfl rfl rfl (q_geq rfl rfl) ?_
  refine WL.quiet (d := 4) rfl rfl rfl (q_assign rfl) ?_
  refine WL.nil ?_
  refine WX.then ?_
  refine WC.ret ?_
  obtain rfl := Option.some.inj h
  refine WX.bpRet Try.results68 (.tmp rfl .nil) (fun w hw => ?_)
  exact ⟨ret1 rfl, hw.sub .nil⟩
/-- curve.dominates -/
def m_curve_dominates (a_4077 : Sapi_Bucket) (b_4078 : Sapi_Bucket) : Option Bool :=
  (if decide (a_4077 ≠ b_4078) then (m_rat_Cmp a_4077.fBurst b_4078.fBurst).bind fun x_4104 => some (decide (x_4104 ≤ 0)) else some false).bind fun b_4106 => (if b_4106 then (m_rat_Cmp a_4077.fRate b_4078.fRate).bind fun x_4108 => some (decide (x_4108 ≤ 0)) else some false).bind fun b_4110 => some b_4110

set_option maxRecDepth 20000 in
theorem w_curve_dominates (Z : Zp)   (a_4077 : Sapi_Bucket) (b_4078 : Sapi_Bucket) (r : Bool) (w₀ : World) (hz : PZ [] w₀ Z)
    (h : m_curve_dominates a_4077 b_4078 = some r) :
    Calls Try.prog 70 #[(.agg #[(.int .i64 a_4077.fBurst.fN), (.int .i64 a_4077.fBurst.fD), (.int .i64 a_4077.fRate.fN), (.int .i64 a_4077.fRate.fD)]), (.agg #[(.int .i64 b_4078.fBurst.fN), (.int .i64 b_4078.fBurst.fD), (.int .i64 b_4078.fRate.fN), (.int .i64 b_4078.fRate.fD)])] w₀ fun e w' => e = .returned (.bool r) ∧ Hp [] w₀ w' [] := by
  unfold m_curve_dominates at h
  refine Calls.ofWC (vs := [(.agg #[(.int .i64 a_4077.fBurst.fN), (.int .i64 a_4077.fBurst.fD), (.int .i64 a_4077.fRate.fN), (.int .i64 a_4077.fRate.fD)]), (.agg #[(.int .i64 b_4078.fBurst.fN), (.int .i64 b_4078.fBurst.fD), (.int .i64 b_4078.fRate.fN), (.int .i64 b_4078.fRate.fD)])]) (pre := []) (env := [(0, (.agg #[(.int .i64 a_4077.fBurst.fN), (.int .i64 a_4077.fBurst.fD), (.int .i64 a_4077.fRate.fN), (.int .i64 a_4077.fRate.fD)])), (1, (.agg #[(.int .i64 b_4078.fBurst.fN), (.int .i64 b_4078.fBurst.fD), (.int .i64 b_4078.fRate.fN), (.int .i64 b_4078.fRate.fD)]))]) Try.func70 rfl Try.ntmps70 rfl (Hp.nil w₀ _) rfl ?_
  refine WC.seq ?_
  refine WC.region ?_
  refine WL.new (dd := 2) rfl rfl rfl (e_box (cs := [(.int .i64 a_4077.fBurst.fN), (.int .i64 a_4077.fBurst.fD), (.int .i64 a_4077.fRate.fN), (.int .i64 a_4077.fRate.fD)]) rfl rfl) ?_
  intro b_4102 _
  refine WL.new (dd := 3) rfl rfl rfl (e_box (cs := [(.int .i64 b_4078.fBurst.fN), (.int .i64 b_4078.fBurst.fD), (.int .i64 b_4078.fRate.fN), (.int .i64 b_4078.fRate.fD)]) rfl rfl) ?_
  intro b_4103 _
  refine WL.quiet (d := 4) rfl rfl rfl (q_assign rfl) ?_
  refine WL.nil ?_
  refine WX.then ?_
  refine WC.seq ?_
  obtain ⟨b_4106, hb_4107, h⟩ := bind_elim h
  obtain ⟨b_4110, hb_4111, h⟩ := bind_elim h
  refine WC.region ?_
  refine WL.quiet (d := 5) rfl rfl rfl (q_loadA (cs := [(.int .i64 a_4077.fBurst.fN), (.int .i64 a_4077.fBurst.fD), (.int .i64 a_4077.fRate.fN), (.int .i64 a_4077.fRate.fD)]) aggT_42 rfl rfl (rd_all (.there .here))) ?_
  refine WL.quiet (d := 6) rfl rfl rfl (q_loadA (cs := [(.int .i64 b_4078.fBurst.fN), (.int .i64 b_4078.fBurst.fD), (.int .i64 b_4078.fRate.fN), (.int .i64 b_4078.fRate.fD)]) aggT_42 rfl rfl (rd_all .here)) ?_
  refine WL.quiet (d := 7) rfl rfl rfl (q_aggneq (enc := e42) (a := a_4077) (b := b_4078) eqT_42 rfl rfl) ?_
  refine WL.quiet (d := 8) rfl rfl rfl (q_move rfl) ?_
  refine WL.cut0 True [(2, (.pointer (some ⟨b_4102, 0, none⟩))), (3, (.pointer (some ⟨b_4103, 0, none⟩))), (4, (.bool false)), (15, (.bool b_4106))] [stb b_4103 42 [(.int .i64 b_4078.fBurst.fN), (.int .i64 b_4078.fBurst.fD), (.int .i64 b_4078.fRate.fN), (.int .i64 b_4078.fRate.fD)], stb b_4102 42 [(.int .i64 a_4077.fBurst.fN), (.int .i64 a_4077.fBurst.fD), (.int .i64 a_4077.fRate.fN), (.int .i64 a_4077.fRate.fD)]] 7 ?_ (fun _ => ?_)
  · rcases Bool.eq_false_or_eq_true (decide (a_4077 ≠ b_4078)) with hb' | hb'
    · have hg_4112 := hb'; clear hb'
      have hq_4113 := ite_t hb_4107 hg_4112
      obtain ⟨x_4104, hx_4105, hq_4113⟩ := bind_elim hq_4113
      replace hq_4113 := Option.some.inj hq_4113
      refine WL.pin (i := 8) rfl hg_4112 ?_
      refine WL.quiet (d := 9) rfl rfl rfl (q_fieldAddr fo_42_0 rfl rfl) ?_
      refine WL.quiet (d := 10) rfl rfl rfl (q_loadA (cs := [(.int .i64 a_4077.fBurst.fN), (.int .i64 a_4077.fBurst.fD)]) aggT_28 rfl rfl (rd_sub (s := 2) (.there .here) rfl)) ?_
      refine WL.quiet (d := 11) rfl rfl rfl (q_fieldAddr fo_42_0 rfl rfl) ?_
      refine WL.quiet (d := 12) rfl rfl rfl (q_loadA (cs := [(.int .i64 b_4078.fBurst.fN), (.int .i64 b_4078.fBurst.fD)]) aggT_28 rfl rfl (rd_sub (s := 2) .here rfl)) ?_
      refine WL.callD (dd := 13) rfl rfl rfl (run_call (l := [.tmp 10, .tmp 12]) Try.call17 (.cons rfl (.cons rfl .nil))) (.nil : Sel [stb b_4103 42 [(.int .i64 b_4078.fBurst.fN), (.int .i64 b_4078.fBurst.fD), (.int .i64 b_4078.fRate.fN), (.int .i64 b_4078.fRate.fD)], stb b_4102 42 [(.int .i64 a_4077.fBurst.fN), (.int .i64 a_4077.fBurst.fD), (.int .i64 a_4077.fRate.fN), (.int .i64 a_4077.fRate.fD)]] [] [stb b_4103 42 [(.int .i64 b_4078.fBurst.fN), (.int .i64 b_4078.fBurst.fD), (.int .i64 b_4078.fRate.fN), (.int .i64 b_4078.fRate.fD)], stb b_4102 42 [(.int .i64 a_4077.fBurst.fN), (.int .i64 a_4077.fBurst.fD), (.int .i64 a_4077.fRate.fN), (.int .i64 a_4077.fRate.fD)]]) (fun w hw => by have pz := (hz.call hw (.nil : Sel [stb b_4103 42 [(.int .i64 b_4078.fBurst.fN), (.int .i64 b_4078.fBurst.fD), (.int .i64 b_4078.fRate.fN), (.int .i64 b_4078.fRate.fD)], stb b_4102 42 [(.int .i64 a_4077.fBurst.fN), (.int .i64 a_4077.fBurst.fD), (.int .i64 a_4077.fRate.fN), (.int .i64 a_4077.fRate.fD)]] [] [stb b_4103 42 [(.int .i64 b_4078.fBurst.fN), (.int .i64 b_4078.fBurst.fD), (.int .i64 b_4078.fRate.fN), (.int .i64 b_4078.fRate.fD)], stb b_4102 42 [(.int .i64 a_4077.fBurst.fN), (.int .i64 a_4077.fBurst.fD), (.int .i64 a_4077.fRate.fN), (.int .i64 a_4077.fRate.fD)]])); exact w_rat_Cmp (Z := _)  (x_2033 := a_4077.fBurst) (y_2034 := b_4078.fBurst) (r := x_4104) w pz  hx_4105) ?_
      refine WL.quiet (d := 14) rfl rfl rfl (q_leq rfl rfl) ?_
      refine WL.quiet (d := 15) rfl rfl rfl (q_pickT rfl rfl) ?_
      exact WL.cutEnd () trivial (.cons rfl (.cons rfl (.cons rfl (.cons (some_bool hq_4113) .nil)))) (.cons .here (.cons .here .nil))
    · have hg_4114 := hb'; clear hb'
      have hq_4115 := ite_f hb_4107 hg_4114
      replace hq_4115 := Option.some.inj hq_4115
      refine WL.pin (i := 8) rfl hg_4114 ?_
      refine WL.skip rfl rfl rfl ?_
      refine WL.skip rfl rfl rfl ?_
      refine WL.skip rfl rfl rfl ?_
      refine WL.skip rfl rfl rfl ?_
      refine WL.skip rfl rfl rfl ?_
      refine WL.skip rfl rfl rfl ?_
      refine WL.quiet (d := 15) rfl rfl rfl (q_pickF rfl rfl) ?_
      exact WL.cutEnd () trivial (.cons rfl (.cons rfl (.cons rfl (.cons (some_bool hq_4115) .nil)))) (.cons .here (.cons .here .nil))
  · skip
    refine WL.quiet (d := 16) rfl rfl rfl (q_move rfl) ?_
    refine WL.cut0 True [(4, (.bool false)), (23, (.bool b_4110))] [stb b_4103 42 [(.int .i64 b_4078.fBurst.fN), (.int .i64 b_4078.fBurst.fD), (.int .i64 b_4078.fRate.fN), (.int .i64 b_4078.fRate.fD)], stb b_4102 42 [(.int .i64 a_4077.fBurst.fN), (.int .i64 a_4077.fBurst.fD), (.int .i64 a_4077.fRate.fN), (.int .i64 a_4077.fRate.fD)]] 7 ?_ (fun _ => ?_)
    · rcases Bool.eq_false_or_eq_true b_4106 with hb' | hb'
      · have hg_4116 := hb'; clear hb'
        have hq_4117 := ite_t hb_4111 hg_4116
        obtain ⟨x_4108, hx_4109, hq_4117⟩ := bind_elim hq_4117
        replace hq_4117 := Option.some.inj hq_4117
        refine WL.pin (i := 16) rfl hg_4116 ?_
        refine WL.quiet (d := 17) rfl rfl rfl (q_fieldAddr fo_42_1 rfl rfl) ?_
        refine WL.quiet (d := 18) rfl rfl rfl (q_loadA (cs := [(.int .i64 a_4077.fRate.fN), (.int .i64 a_4077.fRate.fD)]) aggT_28 rfl rfl (rd_sub (s := 2) (.there .here) rfl)) ?_
        refine WL.quiet (d := 19) rfl rfl rfl (q_fieldAddr fo_42_1 rfl rfl) ?_
        refine WL.quiet (d := 20) rfl rfl rfl (q_loadA (cs := [(.int .i64 b_4078.fRate.fN), (.int .i64 b_4078.fRate.fD)]) aggT_28 rfl rfl (rd_sub (s := 2) .here rfl)) ?_
        refine WL.callD (dd := 21) rfl rfl rfl (run_call (l := [.tmp 18, .tmp 20]) Try.call17 (.cons rfl (.cons rfl .nil))) (.nil : Sel [stb b_4103 42 [(.int .i64 b_4078.fBurst.fN), (.int .i64 b_4078.fBurst.fD), (.int .i64 b_4078.fRate.fN), (.int .i64 b_4078.fRate.fD)], stb b_4102 42 [(.int .i64 a_4077.fBurst.fN), (.int .i64 a_4077.fBurst.fD), (.int .i64 a_4077.fRate.fN), (.int .i64 a_4077.fRate.fD)]] [] [stb b_4103 42 [(.int .i64 b_4078.fBurst.fN), (.int .i64 b_4078.fBurst.fD), (.int .i64 b_4078.fRate.fN), (.int .i64 b_4078.fRate.fD)], stb b_4102 42 [(.int .i64 a_4077.fBurst.fN), (.int .i64 a_4077.fBurst.fD), (.int .i64 a_4077.fRate.fN), (.int .i64 a_4077.fRate.fD)]]) (fun w hw => by have pz := (hz.call hw (.nil : Sel [stb b_4103 42 [(.int .i64 b_4078.fBurst.fN), (.int .i64 b_4078.fBurst.fD), (.int .i64 b_4078.fRate.fN), (.int .i64 b_4078.fRate.fD)], stb b_4102 42 [(.int .i64 a_4077.fBurst.fN), (.int .i64 a_4077.fBurst.fD), (.int .i64 a_4077.fRate.fN), (.int .i64 a_4077.fRate.fD)]] [] [stb b_4103 42 [(.int .i64 b_4078.fBurst.fN), (.int .i64 b_4078.fBurst.fD), (.int .i64 b_4078.fRate.fN), (.int .i64 b_4078.fRate.fD)], stb b_4102 42 [(.int .i64 a_4077.fBurst.fN), (.int .i64 a_4077.fBurst.fD), (.int .i64 a_4077.fRate.fN), (.int .i64 a_4077.fRate.fD)]])); exact w_rat_Cmp (Z := _)  (x_2033 := a_4077.fRate) (y_2034 := b_4078.fRate) (r := x_4108) w pz  hx_4109) ?_
        refine WL.quiet (d := 22) rfl rfl rfl (q_leq rfl rfl) ?_
        refine WL.quiet (d := 23) rfl rfl rfl (q_pickT rfl rfl) ?_
        exact WL.cutEnd () trivial (.cons rfl (.cons (some_bool hq_4117) .nil)) (.cons .here (.cons .here .nil))
      · have hg_4118 := hb'; clear hb'
        have hq_4119 := ite_f hb_4111 hg_4118
        replace hq_4119 := Option.some.inj hq_4119
        refine WL.pin (i := 16) rfl hg_4118 ?_
        refine WL.skip rfl rfl rfl ?_
        refine WL.skip rfl rfl rfl ?_
        refine WL.skip rfl rfl rfl ?_
        refine WL.skip rfl rfl rfl ?_
        refine WL.skip rfl rfl rfl ?_
        refine WL.skip rfl rfl rfl ?_
        refine WL.quiet (d := 23) rfl rfl rfl (q_pickF rfl rfl) ?_
        exact WL.cutEnd () trivial (.cons rfl (.cons (some_bool hq_4119) .nil)) (.cons .here (.cons .here .nil))
    · skip
      refine WL.quiet (d := 4) rfl rfl rfl (q_assign rfl) ?_
      refine WL.nil ?_
      refine WX.then ?_
      refine WC.ret ?_
      obtain rfl := Option.some.inj h
      refine WX.bpRet Try.results70 (.tmp rfl .nil) (fun w hw => ?_)
      exact ⟨ret1 rfl, hw.sub .nil⟩
/-- curve.norm$1 -/
def m_curve_norm_1 (a_4071 : Sapi_Bucket) (c_4074 : Sapi_Bucket) : Option Bool :=
  (m_curve_dominates a_4071 c_4074).bind fun x_4125 => some x_4125

set_option maxRecDepth 20000 in
theorem w_curve_norm_1 (Z : Zp)  (A_4072 : Addr) (a_4071 : Sapi_Bucket) (c_4074 : Sapi_Bucket) (r : Bool) (w₀ : World) (hz : PZ [] w₀ Z)
    (hA_4073 : ZC Z A_4072 [(.int .i64 c_4074.fBurst.fN), (.int .i64 c_4074.fBurst.fD), (.int .i64 c_4074.fRate.fN), (.int .i64 c_4074.fRate.fD)])
    (h : m_curve_norm_1 a_4071 c_4074 = some r) :
    Calls Try.prog 69 #[(.agg #[(.int .i64 a_4071.fBurst.fN), (.int .i64 a_4071.fBurst.fD), (.int .i64 a_4071.fRate.fN), (.int .i64 a_4071.fRate.fD)]), (.pointer (some A_4072))] w₀ fun e w' => e = .returned (.bool r) ∧ Hp [] w₀ w' [] := by
  unfold m_curve_norm_1 at h
  refine Calls.ofWC (vs := [(.agg #[(.int .i64 a_4071.fBurst.fN), (.int .i64 a_4071.fBurst.fD), (.int .i64 a_4071.fRate.fN), (.int .i64 a_4071.fRate.fD)]), (.pointer (some A_4072))]) (pre := []) (env := [(0, (.agg #[(.int .i64 a_4071.fBurst.fN), (.int .i64 a_4071.fBurst.fD), (.int .i64 a_4071.fRate.fN), (.int .i64 a_4071.fRate.fD)])), (1, (.pointer (some A_4072)))]) Try.func69 rfl Try.ntmps69 rfl (Hp.nil w₀ _) rfl ?_
  refine WC.seq ?_
  refine WC.region ?_
  refine WL.new (dd := 2) rfl rfl rfl (e_box (cs := [(.int .i64 a_4071.fBurst.fN), (.int .i64 a_4071.fBurst.fD), (.int .i64 a_4071.fRate.fN), (.int .i64 a_4071.fRate.fD)]) rfl rfl) ?_
  intro b_4124 _
  refine WL.quiet (d := 3) rfl rfl rfl (q_assign rfl) ?_
  refine WL.nil ?_
  refine WX.then ?_
  refine WC.seq ?_
  obtain ⟨x_4125, hx_4126, h⟩ := bind_elim h
  refine WC.region ?_
  refine WL.quiet (d := 4) rfl rfl rfl (q_loadA (cs := [(.int .i64 a_4071.fBurst.fN), (.int .i64 a_4071.fBurst.fD), (.int .i64 a_4071.fRate.fN), (.int .i64 a_4071.fRate.fD)]) aggT_42 rfl rfl (rd_all .here)) ?_
  refine WL.quiet (d := 5) rfl rfl rfl (q_loadA (cs := [(.int .i64 c_4074.fBurst.fN), (.int .i64 c_4074.fBurst.fD), (.int .i64 c_4074.fRate.fN), (.int .i64 c_4074.fRate.fD)]) aggT_42 rfl rfl (rd_zs hz.pv hA_4073)) ?_
  refine WL.callD (dd := 6) rfl rfl rfl (run_call (l := [.tmp 4, .tmp 5]) Try.call70 (.cons rfl (.cons rfl .nil))) (.nil : Sel [stb b_4124 42 [(.int .i64 a_4071.fBurst.fN), (.int .i64 a_4071.fBurst.fD), (.int .i64 a_4071.fRate.fN), (.int .i64 a_4071.fRate.fD)]] [] [stb b_4124 42 [(.int .i64 a_4071.fBurst.fN), (.int .i64 a_4071.fBurst.fD), (.int .i64 a_4071.fRate.fN), (.int .i64 a_4071.fRate.fD)]]) (fun w hw => by have pz := (hz.call hw (.nil : Sel [stb b_4124 42 [(.int .i64 a_4071.fBurst.fN), (.int .i64 a_4071.fBurst.fD), (.int .i64 a_4071.fRate.fN), (.int .i64 a_4071.fRate.fD)]] [] [stb b_4124 42 [(.int .i64 a_4071.fBurst.fN), (.int .i64 a_4071.fBurst.fD), (.int .i64 a_4071.fRate.fN), (.int .i64 a_4071.fRate.fD)]])); exact w_curve_dominates (Z := _)  (a_4077 := a_4071) (b_4078 := c_4074) (r := x_4125) w pz  hx_4126) ?_
  refine WL.quiet (d := 3) rfl rfl rfl (q_assign rfl) ?_
  refine WL.nil ?_
  refine WX.then ?_
  refine WC.ret ?_
  obtain rfl := Option.some.inj h
  refine WX.bpRet Try.results69 (.tmp rfl .nil) (fun w hw => ?_)
  exact ⟨ret1 rfl, hw.sub .nil⟩
/-- curve.norm$2 -/
def m_curve_norm_2 (a_4474 : Sapi_Bucket) (b_4475 : Sapi_Bucket) : Option Int :=
  (m_rat_Cmp a_4474.fBurst b_4475.fBurst).bind fun x_4487 => some x_4487

set_option maxRecDepth 20000 in
theorem w_curve_norm_2 (Z : Zp)   (a_4474 : Sapi_Bucket) (b_4475 : Sapi_Bucket) (r : Int) (w₀ : World) (hz : PZ [] w₀ Z)
    (h : m_curve_norm_2 a_4474 b_4475 = some r) :
    Calls Try.prog 72 #[(.agg #[(.int .i64 a_4474.fBurst.fN), (.int .i64 a_4474.fBurst.fD), (.int .i64 a_4474.fRate.fN), (.int .i64 a_4474.fRate.fD)]), (.agg #[(.int .i64 b_4475.fBurst.fN), (.int .i64 b_4475.fBurst.fD), (.int .i64 b_4475.fRate.fN), (.int .i64 b_4475.fRate.fD)])] w₀ fun e w' => e = .returned (.int .i64 r) ∧ Hp [] w₀ w' [] := by
  unfold m_curve_norm_2 at h
  refine Calls.ofWC (vs := [(.agg #[(.int .i64 a_4474.fBurst.fN), (.int .i64 a_4474.fBurst.fD), (.int .i64 a_4474.fRate.fN), (.int .i64 a_4474.fRate.fD)]), (.agg #[(.int .i64 b_4475.fBurst.fN), (.int .i64 b_4475.fBurst.fD), (.int .i64 b_4475.fRate.fN), (.int .i64 b_4475.fRate.fD)])]) (pre := []) (env := [(0, (.agg #[(.int .i64 a_4474.fBurst.fN), (.int .i64 a_4474.fBurst.fD), (.int .i64 a_4474.fRate.fN), (.int .i64 a_4474.fRate.fD)])), (1, (.agg #[(.int .i64 b_4475.fBurst.fN), (.int .i64 b_4475.fBurst.fD), (.int .i64 b_4475.fRate.fN), (.int .i64 b_4475.fRate.fD)]))]) Try.func72 rfl Try.ntmps72 rfl (Hp.nil w₀ _) rfl ?_
  refine WC.seq ?_
  refine WC.region ?_
  refine WL.new (dd := 2) rfl rfl rfl (e_box (cs := [(.int .i64 a_4474.fBurst.fN), (.int .i64 a_4474.fBurst.fD), (.int .i64 a_4474.fRate.fN), (.int .i64 a_4474.fRate.fD)]) rfl rfl) ?_
  intro b_4485 _
  refine WL.new (dd := 3) rfl rfl rfl (e_box (cs := [(.int .i64 b_4475.fBurst.fN), (.int .i64 b_4475.fBurst.fD), (.int .i64 b_4475.fRate.fN), (.int .i64 b_4475.fRate.fD)]) rfl rfl) ?_
  intro b_4486 _
  refine WL.quiet (d := 4) rfl rfl rfl (q_assign rfl) ?_
  refine WL.nil ?_
  refine WX.then ?_
  refine WC.seq ?_
  obtain ⟨x_4487, hx_4488, h⟩ := bind_elim h
  refine WC.region ?_
  refine WL.quiet (d := 5) rfl rfl rfl (q_fieldAddr fo_42_0 rfl rfl) ?_
  refine WL.quiet (d := 6) rfl rfl rfl (q_loadA (cs := [(.int .i64 a_4474.fBurst.fN), (.int .i64 a_4474.fBurst.fD)]) aggT_28 rfl rfl (rd_sub (s := 2) (.there .here) rfl)) ?_
  refine WL.quiet (d := 7) rfl rfl rfl (q_fieldAddr fo_42_0 rfl rfl) ?_
  refine WL.quiet (d := 8) rfl rfl rfl (q_loadA (cs := [(.int .i64 b_4475.fBurst.fN), (.int .i64 b_4475.fBurst.fD)]) aggT_28 rfl rfl (rd_sub (s := 2) .here rfl)) ?_
  refine WL.callD (dd := 9) rfl rfl rfl (run_call (l := [.tmp 6, .tmp 8]) Try.call17 (.cons rfl (.cons rfl .nil))) (.nil : Sel [stb b_4486 42 [(.int .i64 b_4475.fBurst.fN), (.int .i64 b_4475.fBurst.fD), (.int .i64 b_4475.fRate.fN), (.int .i64 b_4475.fRate.fD)], stb b_4485 42 [(.int .i64 a_4474.fBurst.fN), (.int .i64 a_4474.fBurst.fD), (.int .i64 a_4474.fRate.fN), (.int .i64 a_4474.fRate.fD)]] [] [stb b_4486 42 [(.int .i64 b_4475.fBurst.fN), (.int .i64 b_4475.fBurst.fD), (.int .i64 b_4475.fRate.fN), (.int .i64 b_4475.fRate.fD)], stb b_4485 42 [(.int .i64 a_4474.fBurst.fN), (.int .i64 a_4474.fBurst.fD), (.int .i64 a_4474.fRate.fN), (.int .i64 a_4474.fRate.fD)]]) (fun w hw => by have pz := (hz.call hw (.nil : Sel [stb b_4486 42 [(.int .i64 b_4475.fBurst.fN), (.int .i64 b_4475.fBurst.fD), (.int .i64 b_4475.fRate.fN), (.int .i64 b_4475.fRate.fD)], stb b_4485 42 [(.int .i64 a_4474.fBurst.fN), (.int .i64 a_4474.fBurst.fD), (.int .i64 a_4474.fRate.fN), (.int .i64 a_4474.fRate.fD)]] [] [stb b_4486 42 [(.int .i64 b_4475.fBurst.fN), (.int .i64 b_4475.fBurst.fD), (.int .i64 b_4475.fRate.fN), (.int .i64 b_4475.fRate.fD)], stb b_4485 42 [(.int .i64 a_4474.fBurst.fN), (.int .i64 a_4474.fBurst.fD), (.int .i64 a_4474.fRate.fN), (.int .i64 a_4474.fRate.fD)]])); exact w_rat_Cmp (Z := _)  (x_2033 := a_4474.fBurst) (y_2034 := b_4475.fBurst) (r := x_4487) w pz  hx_4488) ?_
  refine WL.quiet (d := 4) rfl rfl rfl (q_assign rfl) ?_
  refine WL.nil ?_
  refine WX.then ?_
  refine WC.ret ?_
  obtain rfl := Option.some.inj h
  refine WX.bpRet Try.results72 (.tmp rfl .nil) (fun w hw => ?_)
  exact ⟨ret1 rfl, hw.sub .nil⟩
/-- math/bits.Len -/
def m_bits_Len (x_4498 : Int) : Option Int := chk ((0 : Int) ≤ x_4498 ∧ x_4498 ≤ 18446744073709551615) (some ((Go.Lib.bitLen (x_4498).toNat : Nat) : Int))
theorem w_bits_Len (Z : Zp) (x_4498 : Int) (r : Int) (w₀ : World) (hz : PZ [] w₀ Z) (h : m_bits_Len x_4498 = some r) : Calls Try.prog 75 #[.int .u64 x_4498] w₀ fun e w' => e = .returned (.int .i64 r) ∧ Hp [] w₀ w' [] := by
  obtain ⟨h0, h⟩ := chk_elim h
  obtain rfl := Option.some.inj h
  refine (Try.bits_Len x_4498 w₀ h0.1 h0.2).mono ?_
  rintro e w' ⟨rfl, rfl⟩
  exact ⟨rfl, Hp.nil w' []⟩

theorem srtA_81 : ∀ w, (isAgg (Try.laysSlF014_f81_ren.t 24)).run Try.prog w = .ok true w := fun _ => by kernel_rfl
theorem srtZ_81 : ∀ w, (Go.sizeOf (Try.laysSlF014_f81_ren.t 24)).run Try.prog w = .ok 4 w := fun _ => by kernel_rfl
/-- slices.pdqsortCmpFunc[api.Bucket]: the whole slice, sorted -/
def m_slices_pdqsortCmpFunc_api_Bucket (data_4501 : List Sapi_Bucket) (a_4504 : Int) (b_4505 : Int) (limit_4506 : Int) (f_4509 : Sapi_Bucket → Sapi_Bucket → Option Int) : Option (List Sapi_Bucket) := chk ((a_4504 = 0 ∧ b_4505 = ((data_4501.length : Nat) : Int)) ∧ (0 ≤ limit_4506 ∧ limit_4506 < 4611686018427387904 ∧ data_4501.length < 4611686018427387904)) (chk (ordB f_4509 (sortBy f_4509 data_4501) = true) (some (sortBy f_4509 data_4501)))
theorem w_slices_pdqsortCmpFunc_api_Bucket (Z : Zp) (ao_4502 : Option Addr) (cap_4503 : Nat) (fid_4507 : FuncId) (fcaps_4508 : List Value) (data_4501 : List Sapi_Bucket) (a_4504 : Int) (b_4505 : Int) (limit_4506 : Int) (f_4509 : Sapi_Bucket → Sapi_Bucket → Option Int) (r : List Sapi_Bucket) (w₀ : World) (hz : PZ (fps [row (.slice ao_4502 data_4501.length cap_4503) 42 4 (data_4501.flatMap e42)]) w₀ Z)
    (hcf_4510 : ∀ args w, (callFunc fid_4507 args).run Try.prog w = .ok (.enter fid_4507 args) w)
    (hfn_4511 : ∀ w : World, PZ [] w Z → ∀ (x0 : Sapi_Bucket) (x1 : Sapi_Bucket) (r : Int), f_4509 x0 x1 = some r → Calls Try.prog fid_4507 (([(.agg #[(.int .i64 x0.fBurst.fN), (.int .i64 x0.fBurst.fD), (.int .i64 x0.fRate.fN), (.int .i64 x0.fRate.fD)]), (.agg #[(.int .i64 x1.fBurst.fN), (.int .i64 x1.fBurst.fD), (.int .i64 x1.fRate.fN), (.int .i64 x1.fRate.fD)])] : List Value) ++ fcaps_4508).toArray w fun e w' => e = .returned (.int .i64 r) ∧ Hp [] w w' [])
    (h : m_slices_pdqsortCmpFunc_api_Bucket data_4501 a_4504 b_4505 limit_4506 f_4509 = some r) (hown : Hp (fps [row (.slice ao_4502 data_4501.length cap_4503) 42 4 (data_4501.flatMap e42)]) w₀ w₀ [row (.slice ao_4502 data_4501.length cap_4503) 42 4 (data_4501.flatMap e42)]) :
    Calls Try.prog 81 #[(.slice ao_4502 data_4501.length cap_4503), (.int .i64 a_4504), (.int .i64 b_4505), (.int .i64 limit_4506), (.func (.func fid_4507) #[] (fcaps_4508).toArray)] w₀ fun e w' => e = .returned (.tuple #[]) ∧ (r.length = data_4501.length) ∧ Hp (fps [row (.slice ao_4502 data_4501.length cap_4503) 42 4 (data_4501.flatMap e42)]) w₀ w' [row (.slice ao_4502 r.length cap_4503) 42 4 (r.flatMap e42)] := by
  obtain ⟨h0, h⟩ := chk_elim h
  obtain ⟨h1, h⟩ := chk_elim h
  have hr := (Option.some.inj h).symm
  exact sort_func (P := Try.prog) (f := 81) (e := 42) (k := 4) (enc := e42) (fun _ => rfl) (by decide) e42_oc (fun β _ enc cf g cb hO blk off cap d0 w0 eg hC R => Try.pdqsortCmpFunc_all_f81 4 srtA_81 srtZ_81 enc cf g cb hO blk off cap d0 w0 eg hC R) (Try.pdqsortCmpFunc_none_f81 (α := Unit)) hz hcf_4510 hfn_4511 h0 h1 hr hown

/-- slices.SortFunc[api.Curve,api.Bucket] -/
def m_slices_SortFunc_api_Curve_api_Bucket (x_4512 : List Sapi_Bucket) (f_4517 : Sapi_Bucket → Sapi_Bucket → Option Int) : Option (List Sapi_Bucket) :=
  (m_bits_Len (u64 ((x_4512.length : Nat) : Int))).bind fun x_4528 => (m_slices_pdqsortCmpFunc_api_Bucket x_4512 0 ((x_4512.length : Nat) : Int) x_4528 f_4517).bind fun x_4530 => some x_4530

set_option maxRecDepth 20000 in
theorem w_slices_SortFunc_api_Curve_api_Bucket (Z : Zp)  (ao_4513 : Option Addr) (cap_4514 : Nat) (fid_4515 : FuncId) (fcaps_4516 : List Value) (x_4512 : List Sapi_Bucket) (f_4517 : Sapi_Bucket → Sapi_Bucket → Option Int) (r : List Sapi_Bucket) (w₀ : World) (hz : PZ (fps [row (.slice ao_4513 x_4512.length cap_4514) 42 4 (x_4512.flatMap e42)]) w₀ Z)
    (hcf_4518 : ∀ args w, (callFunc fid_4515 args).run Try.prog w = .ok (.enter fid_4515 args) w)
    (hfn_4519 : ∀ w : World, PZ [] w Z → ∀ (x0 : Sapi_Bucket) (x1 : Sapi_Bucket) (r : Int), f_4517 x0 x1 = some r → Calls Try.prog fid_4515 (([(.agg #[(.int .i64 x0.fBurst.fN), (.int .i64 x0.fBurst.fD), (.int .i64 x0.fRate.fN), (.int .i64 x0.fRate.fD)]), (.agg #[(.int .i64 x1.fBurst.fN), (.int .i64 x1.fBurst.fD), (.int .i64 x1.fRate.fN), (.int .i64 x1.fRate.fD)])] : List Value) ++ fcaps_4516).toArray w fun e w' => e = .returned (.int .i64 r) ∧ Hp [] w w' [])
    (h : m_slices_SortFunc_api_Curve_api_Bucket x_4512 f_4517 = some r)
    (hown : Hp (fps [row (.slice ao_4513 x_4512.length cap_4514) 42 4 (x_4512.flatMap e42)]) w₀ w₀ [row (.slice ao_4513 x_4512.length cap_4514) 42 4 (x_4512.flatMap e42)]) :
    Calls Try.prog 71 #[(.slice ao_4513 x_4512.length cap_4514), (.func (.func fid_4515) #[] (fcaps_4516).toArray)] w₀ fun e w' => e = .returned (.tuple #[]) ∧ (r.length = x_4512.length) ∧ Hp (fps [row (.slice ao_4513 x_4512.length cap_4514) 42 4 (x_4512.flatMap e42)]) w₀ w' [row (.slice ao_4513 r.length cap_4514) 42 4 (r.flatMap e42)] := by
  unfold m_slices_SortFunc_api_Curve_api_Bucket at h
  refine Calls.ofWC (vs := [(.slice ao_4513 x_4512.length cap_4514), (.func (.func fid_4515) #[] (fcaps_4516).toArray)]) (pre := [row (.slice ao_4513 x_4512.length cap_4514) 42 4 (x_4512.flatMap e42)]) (env := [(0, (.slice ao_4513 x_4512.length cap_4514)), (1, (.func (.func fid_4515) #[] (fcaps_4516).toArray))]) Try.func71 rfl Try.ntmps71 rfl (hown) rfl ?_
  refine WC.seq ?_
  refine WC.region ?_
  refine WL.quiet (d := 5) rfl rfl rfl (q_move rfl) ?_
  refine WL.quiet (d := 6) rfl rfl rfl (q_len Try.underlying25 rfl) ?_
  refine WL.quiet (d := 4) rfl rfl rfl (q_assign rfl) ?_
  refine WL.nil ?_
  refine WX.then ?_
  obtain ⟨x_4528, hx_4529, h⟩ := bind_elim h
  obtain ⟨x_4530, hx_4531, h⟩ := bind_elim h
  refine WC.region ?_
  refine WL.quiet (d := 7) rfl rfl rfl (q_move rfl) ?_
  refine WL.quiet (d := 8) rfl rfl rfl (q_move rfl) ?_
  refine WL.quiet (d := 9) rfl rfl rfl (q_move rfl) ?_
  refine WL.quiet (d := 10) rfl rfl rfl (q_conv Try.underlying3 Try.underlying102 rfl rfl) ?_
  refine WL.callD (dd := 11) rfl rfl rfl (run_call (l := [.tmp 10]) Try.call75 (.cons rfl .nil)) (.nil : Sel [row (.slice ao_4513 x_4512.length cap_4514) 42 4 (x_4512.flatMap e42)] [] [row (.slice ao_4513 x_4512.length cap_4514) 42 4 (x_4512.flatMap e42)]) (fun w hw => by have pz := (hz.call hw (.nil : Sel [row (.slice ao_4513 x_4512.length cap_4514) 42 4 (x_4512.flatMap e42)] [] [row (.slice ao_4513 x_4512.length cap_4514) 42 4 (x_4512.flatMap e42)])); exact w_bits_Len (Z := _)  (x_4498 := (u64 ((x_4512.length : Nat) : Int))) (r := x_4528) w pz  hx_4529) ?_
  refine WL.quiet (d := 12) rfl rfl rfl (q_move rfl) ?_
  refine WL.enter0 (dd := 13) rfl rfl rfl (run_call (l := [.tmp 7, .const (.int .i64 0), .tmp 8, .tmp 11, .tmp 12]) Try.call81 (.cons rfl (.cons rfl (.cons rfl (.cons rfl (.cons rfl .nil)))))) ((.cons .here .nil) : Sel [row (.slice ao_4513 x_4512.length cap_4514) 42 4 (x_4512.flatMap e42)] [row (.slice ao_4513 x_4512.length cap_4514) 42 4 (x_4512.flatMap e42)] []) (fun w hw => by have pz := (hz.call hw ((.cons .here .nil) : Sel [row (.slice ao_4513 x_4512.length cap_4514) 42 4 (x_4512.flatMap e42)] [row (.slice ao_4513 x_4512.length cap_4514) 42 4 (x_4512.flatMap e42)] [])); exact w_slices_pdqsortCmpFunc_api_Bucket (Z := _) (ao_4502 := ao_4513) (cap_4503 := cap_4514) (fid_4507 := fid_4515) (fcaps_4508 := fcaps_4516) (data_4501 := x_4512) (a_4504 := 0) (b_4505 := ((x_4512.length : Nat) : Int)) (limit_4506 := x_4528) (f_4509 := f_4517) (r := x_4530) w pz hcf_4518 hfn_4519 hx_4531 (hw.owns ((.cons .here .nil) : Sel [row (.slice ao_4513 x_4512.length cap_4514) 42 4 (x_4512.flatMap e42)] [row (.slice ao_4513 x_4512.length cap_4514) 42 4 (x_4512.flatMap e42)] []))) ?_
  rintro  hf_4533
  refine WL.repin (i := 0) rfl (u := (.slice ao_4513 x_4530.length cap_4514)) (slen hf_4533.symm) ?_
  refine WL.nil ?_
  obtain rfl := Option.some.inj h
  refine WX.bpNormal Try.results71 .nil (fun w hw => ?_)
  exact ⟨ret0, (hf_4533.trans rfl), hw.sub (.cons .here .nil)⟩
def m_curve_norm_L2 (c_3788 : List Sapi_Bucket) (k_4758 : (List Sapi_Bucket) → Option (List Sapi_Bucket)) : Nat → (List Sapi_Bucket) → Int → Option (List Sapi_Bucket)
  | 0, _, _ => none
  | n_4837 + 1, out_4831, v_4834 => if decide (v_4834 < ((c_3788.length : Nat) : Int)) then jp1 (fun (out_4869 : List Sapi_Bucket) => m_curve_norm_L2 c_3788 k_4758 n_4837 out_4869 (i64 (v_4834 + 1))) fun k_4872 => chk ((0 : Int) ≤ v_4834 ∧ v_4834 < ((c_3788.length : Nat) : Int)) ((m_slices_Contains_api_Curve_api_Bucket out_4831 (⟨(⟨(((nth c_3788 v_4834).fBurst).fN), (((nth c_3788 v_4834).fBurst).fD)⟩ : Sapi_Rat), (⟨(((nth c_3788 v_4834).fRate).fN), (((nth c_3788 v_4834).fRate).fD)⟩ : Sapi_Rat)⟩ : Sapi_Bucket)).bind fun x_4885 => (if !x_4885 then (m_slices_ContainsFunc_api_Curve_api_Bucket c_3788 (fun (y0 : Sapi_Bucket) => m_curve_norm_1 y0 (⟨(⟨(((nth c_3788 v_4834).fBurst).fN), (((nth c_3788 v_4834).fBurst).fD)⟩ : Sapi_Rat), (⟨(((nth c_3788 v_4834).fRate).fN), (((nth c_3788 v_4834).fRate).fD)⟩ : Sapi_Rat)⟩ : Sapi_Bucket))).bind fun x_4887 => some (!x_4887) else some false).bind fun b_4889 => if b_4889 then chk ((((out_4831 ++ ([(⟨(⟨(((nth c_3788 v_4834).fBurst).fN), (((nth c_3788 v_4834).fBurst).fD)⟩ : Sapi_Rat), (⟨(((nth c_3788 v_4834).fRate).fN), (((nth c_3788 v_4834).fRate).fD)⟩ : Sapi_Rat)⟩ : Sapi_Bucket)] : List Sapi_Bucket)).length : Nat) : Int) * 32 ≤ 140737488355328 ∧ (((out_4831 ++ ([(⟨(⟨(((nth c_3788 v_4834).fBurst).fN), (((nth c_3788 v_4834).fBurst).fD)⟩ : Sapi_Rat), (⟨(((nth c_3788 v_4834).fRate).fN), (((nth c_3788 v_4834).fRate).fD)⟩ : Sapi_Rat)⟩ : Sapi_Bucket)] : List Sapi_Bucket)).length : Nat) : Int) ≤ 4611686018427387904) (k_4872 (out_4831 ++ ([(⟨(⟨(((nth c_3788 v_4834).fBurst).fN), (((nth c_3788 v_4834).fBurst).fD)⟩ : Sapi_Rat), (⟨(((nth c_3788 v_4834).fRate).fN), (((nth c_3788 v_4834).fRate).fD)⟩ : Sapi_Rat)⟩ : Sapi_Bucket)] : List Sapi_Bucket))) else k_4872 out_4831) else k_4758 out_4831
theorem m_curve_norm_L2_fuel {n : Nat} {c_3788 : List Sapi_Bucket} {k_4758 : (List Sapi_Bucket) → Option (List Sapi_Bucket)} {out_4831 : List Sapi_Bucket} {v_4834 : Int} {r : List Sapi_Bucket} (h : m_curve_norm_L2 c_3788 k_4758 n out_4831 v_4834 = some r) : ∃ m, n = m + 1 := by
  cases n with
  | zero => cases h
  | succ m => exact ⟨m, rfl⟩

/-- curve.norm -/
def m_curve_norm (c_3788 : List Sapi_Bucket) : Option (List Sapi_Bucket) :=
  jp1 (fun (out_4755 : List Sapi_Bucket) => (m_slices_SortFunc_api_Curve_api_Bucket out_4755 (fun (y0 : Sapi_Bucket) (y1 : Sapi_Bucket) => m_curve_norm_2 y0 y1)).bind fun x_4903 => some x_4903) fun k_4758 => m_curve_norm_L2 c_3788 k_4758 FUEL ([] : List Sapi_Bucket) 0

set_option maxRecDepth 20000 in
theorem w_curve_norm (Z : Zp)  (ao_3789 : Option Addr) (cap_3790 : Nat) (c_3788 : List Sapi_Bucket) (r : List Sapi_Bucket) (w₀ : World) (hz : PZ [] w₀ Z)
    (hs_3791 : ZS Z 4 (fun r x => r = e42 x) ao_3789 cap_3790 c_3788)
    (h : m_curve_norm c_3788 = some r) :
    Calls Try.prog 45 #[(.slice ao_3789 c_3788.length cap_3790)] w₀ fun e w' => ∃ ao_4539 : Option Addr, ∃ cap_4540 : Nat, e = .returned (.slice ao_4539 r.length cap_4540) ∧ True ∧ Hp [] w₀ w' [row (.slice ao_4539 r.length cap_4540) 42 4 (r.flatMap e42)] := by
  unfold m_curve_norm at h
  refine Calls.ofWC (vs := [(.slice ao_3789 c_3788.length cap_3790)]) (pre := []) (env := [(0, (.slice ao_3789 c_3788.length cap_3790))]) Try.func45 rfl Try.ntmps45 rfl (Hp.nil w₀ _) rfl ?_
  refine WC.seq ?_
  refine WC.region ?_
  refine WL.quiet (d := 2) rfl rfl rfl (q_assign rfl) ?_
  refine WL.nil ?_
  refine WX.then ?_
  refine WC.seq ?_
  refine WC.region ?_
  refine WL.quiet (d := 3) rfl rfl rfl (q_assign rfl) ?_
  refine WL.nil ?_
  refine WX.then ?_
  obtain ⟨k_4758, hk_4759, h⟩ := jp1_elim h
  refine WC.seqMid3 (fun (out_4755 : List Sapi_Bucket) (ao_4756 : Option Addr) (cap_4757 : Nat) => (k_4758 out_4755 = some r)) (fun (out_4755 : List Sapi_Bucket) (ao_4756 : Option Addr) (cap_4757 : Nat) => [(3, (.slice ao_4756 out_4755.length cap_4757))]) (fun (out_4755 : List Sapi_Bucket) (ao_4756 : Option Addr) (cap_4757 : Nat) => [row (.slice ao_4756 out_4755.length cap_4757) 42 4 (out_4755.flatMap e42)]) ?_ ?_
  · skip
    refine WC.seq ?_
    refine WC.region ?_
    refine WL.quiet (d := 6) rfl rfl rfl (q_move rfl) ?_
    refine WL.quiet (d := 7) rfl rfl rfl (q_len Try.underlying25 rfl) ?_
    refine WL.quiet (d := 8) rfl rfl rfl (q_move rfl) ?_
    refine WL.nil ?_
    refine WX.then ?_
    refine WC.block ?_
    refine WC.nilRow 42 4 ?_
    refine WC.loop5 (fun (n_4835 : Nat) (out_4831 : List Sapi_Bucket) (v_4834 : Int) (ao_4832 : Option Addr) (cap_4833 : Nat) => (m_curve_norm_L2 c_3788 k_4758 n_4835 out_4831 v_4834 = some r)) (fun (n_4835 : Nat) (out_4831 : List Sapi_Bucket) (v_4834 : Int) (ao_4832 : Option Addr) (cap_4833 : Nat) => [(0, (.slice ao_3789 c_3788.length cap_3790)), (3, (.slice ao_4832 out_4831.length cap_4833)), (6, (.slice ao_3789 c_3788.length cap_3790)), (7, (.int .i64 ((c_3788.length : Nat) : Int))), (8, (.int .i64 v_4834))]) (fun (n_4835 : Nat) (out_4831 : List Sapi_Bucket) (v_4834 : Int) (ao_4832 : Option Addr) (cap_4833 : Nat) => [row (.slice ao_4832 out_4831.length cap_4833) 42 4 (out_4831.flatMap e42)]) (fun (n_4835 : Nat) (out_4831 : List Sapi_Bucket) (v_4834 : Int) (ao_4832 : Option Addr) (cap_4833 : Nat) => n_4835) ⟨FUEL, ([] : List Sapi_Bucket), 0, none, 0⟩ h (.cons rfl (.cons rfl (.cons rfl (.cons rfl (.cons rfl .nil))))) (.cons .here .nil) ?_
    rintro n_4835 out_4831 v_4834 ao_4832 cap_4833 h
    obtain ⟨n_4837, rfl⟩ := m_curve_norm_L2_fuel h
    rw [m_curve_norm_L2] at h
    refine WC.seq ?_
    refine WC.region ?_
    refine WL.quiet (d := 9) rfl rfl rfl (q_lss rfl rfl) ?_
    refine WL.nil ?_
    refine WX.then ?_
    refine WC.seq ?_
    refine WC.cond rfl (fun hb_4839 => ?_) (fun hb_4839 => ?_)
    · replace h := ite_t h hb_4839
      refine WC.skip ?_
      refine WX.then ?_
      obtain ⟨k_4872, hk_4873, h⟩ := jp1_elim h
      refine WC.seqMid3 (fun (out_4869 : List Sapi_Bucket) (ao_4870 : Option Addr) (cap_4871 : Nat) => (k_4872 out_4869 = some r)) (fun (out_4869 : List Sapi_Bucket) (ao_4870 : Option Addr) (cap_4871 : Nat) => [(0, (.slice ao_3789 c_3788.length cap_3790)), (3, (.slice ao_4870 out_4869.length cap_4871)), (6, (.slice ao_3789 c_3788.length cap_3790)), (7, (.int .i64 ((c_3788.length : Nat) : Int))), (8, (.int .i64 v_4834))]) (fun (out_4869 : List Sapi_Bucket) (ao_4870 : Option Addr) (cap_4871 : Nat) => [row (.slice ao_4870 out_4869.length cap_4871) 42 4 (out_4869.flatMap e42)]) ?_ ?_
      · skip
        refine WC.block ?_
        refine WC.seq ?_
        obtain ⟨c_4874, h⟩ := chk_elim h
        refine WC.region ?_
        refine WL.znth (dd := 10) rfl rfl (Z := Z) (Pr := (fun r x => r = e42 x)) elT_25 rfl rfl hs_3791 c_4874 ?_
        rintro A_4880 r_4881 hA_4882 hl_4883 rfl
        refine WL.quiet (d := 11) rfl rfl rfl (q_loadA (cs := [(.int .i64 (((nth c_3788 v_4834).fBurst).fN)), (.int .i64 (((nth c_3788 v_4834).fBurst).fD)), (.int .i64 (((nth c_3788 v_4834).fRate).fN)), (.int .i64 (((nth c_3788 v_4834).fRate).fD))]) aggT_42 rfl rfl (rd_zs hz.pv hA_4882)) ?_
        refine WL.new (dd := 5) rfl rfl rfl (e_alloc (cs := [(.int .i64 0), (.int .i64 0), (.int .i64 0), (.int .i64 0)]) zeroT_42 rfl) ?_
        intro b_4884 _
        refine WL.eff0 rfl rfl (e_store (vs := [(.int .i64 (((nth c_3788 v_4834).fBurst).fN)), (.int .i64 (((nth c_3788 v_4834).fBurst).fD)), (.int .i64 (((nth c_3788 v_4834).fRate).fN)), (.int .i64 (((nth c_3788 v_4834).fRate).fD))]) (ds := [(.int .i64 (((nth c_3788 v_4834).fBurst).fN)), (.int .i64 (((nth c_3788 v_4834).fBurst).fD)), (.int .i64 (((nth c_3788 v_4834).fRate).fN)), (.int .i64 (((nth c_3788 v_4834).fRate).fD))]) sizT_42 rfl rfl rfl rfl (oc_cons rfl (oc_cons rfl (oc_cons rfl (oc_cons rfl oc_nil)))) .here (Nat.le_of_ble_eq_true rfl) rfl) ?_
        refine WL.nil ?_
        refine WX.then ?_
        refine WC.seq ?_
        obtain ⟨x_4885, hx_4886, h⟩ := bind_elim h
        obtain ⟨b_4889, hb_4890, h⟩ := bind_elim h
        refine WC.region ?_
        refine WL.quiet (d := 12) rfl rfl rfl (q_move rfl) ?_
        refine WL.quiet (d := 13) rfl rfl rfl (q_loadA (cs := [(.int .i64 (((nth c_3788 v_4834).fBurst).fN)), (.int .i64 (((nth c_3788 v_4834).fBurst).fD)), (.int .i64 (((nth c_3788 v_4834).fRate).fN)), (.int .i64 (((nth c_3788 v_4834).fRate).fD))]) aggT_42 rfl rfl (rd_all .here)) ?_
        refine WL.callD (dd := 14) rfl rfl rfl (run_call (l := [.tmp 12, .tmp 13]) Try.call68 (.cons rfl (.cons rfl .nil))) (.nil : Sel [stb b_4884 42 [(.int .i64 (((nth c_3788 v_4834).fBurst).fN)), (.int .i64 (((nth c_3788 v_4834).fBurst).fD)), (.int .i64 (((nth c_3788 v_4834).fRate).fN)), (.int .i64 (((nth c_3788 v_4834).fRate).fD))], row (.slice ao_4832 out_4831.length cap_4833) 42 4 (out_4831.flatMap e42)] [] [stb b_4884 42 [(.int .i64 (((nth c_3788 v_4834).fBurst).fN)), (.int .i64 (((nth c_3788 v_4834).fBurst).fD)), (.int .i64 (((nth c_3788 v_4834).fRate).fN)), (.int .i64 (((nth c_3788 v_4834).fRate).fD))], row (.slice ao_4832 out_4831.length cap_4833) 42 4 (out_4831.flatMap e42)]) (fun w hw => by have pz := (hz.call hw (.nil : Sel [stb b_4884 42 [(.int .i64 (((nth c_3788 v_4834).fBurst).fN)), (.int .i64 (((nth c_3788 v_4834).fBurst).fD)), (.int .i64 (((nth c_3788 v_4834).fRate).fN)), (.int .i64 (((nth c_3788 v_4834).fRate).fD))], row (.slice ao_4832 out_4831.length cap_4833) 42 4 (out_4831.flatMap e42)] [] [stb b_4884 42 [(.int .i64 (((nth c_3788 v_4834).fBurst).fN)), (.int .i64 (((nth c_3788 v_4834).fBurst).fD)), (.int .i64 (((nth c_3788 v_4834).fRate).fN)), (.int .i64 (((nth c_3788 v_4834).fRate).fD))], row (.slice ao_4832 out_4831.length cap_4833) 42 4 (out_4831.flatMap e42)])).lend hw (.nil : Sel [stb b_4884 42 [(.int .i64 (((nth c_3788 v_4834).fBurst).fN)), (.int .i64 (((nth c_3788 v_4834).fBurst).fD)), (.int .i64 (((nth c_3788 v_4834).fRate).fN)), (.int .i64 (((nth c_3788 v_4834).fRate).fD))], row (.slice ao_4832 out_4831.length cap_4833) 42 4 (out_4831.flatMap e42)] [] [stb b_4884 42 [(.int .i64 (((nth c_3788 v_4834).fBurst).fN)), (.int .i64 (((nth c_3788 v_4834).fBurst).fD)), (.int .i64 (((nth c_3788 v_4834).fRate).fN)), (.int .i64 (((nth c_3788 v_4834).fRate).fD))], row (.slice ao_4832 out_4831.length cap_4833) 42 4 (out_4831.flatMap e42)]) (B := [row (.slice ao_4832 out_4831.length cap_4833) 42 4 (out_4831.flatMap e42)]) (fun _ hx' => ((.cons (.there .here) .nil) : Sel _ [row (.slice ao_4832 out_4831.length cap_4833) 42 4 (out_4831.flatMap e42)] _).mem hx'); exact w_slices_Contains_api_Curve_api_Bucket (Z := _) (ao_3806 := ao_4832) (cap_3807 := cap_4833) (s_3805 := out_4831) (v_3809 := (⟨(⟨(((nth c_3788 v_4834).fBurst).fN), (((nth c_3788 v_4834).fBurst).fD)⟩ : Sapi_Rat), (⟨(((nth c_3788 v_4834).fRate).fN), (((nth c_3788 v_4834).fRate).fD)⟩ : Sapi_Rat)⟩ : Sapi_Bucket)) (r := x_4885) w pz (ZA.row (hw.lent (.nil : Sel [stb b_4884 42 [(.int .i64 (((nth c_3788 v_4834).fBurst).fN)), (.int .i64 (((nth c_3788 v_4834).fBurst).fD)), (.int .i64 (((nth c_3788 v_4834).fRate).fN)), (.int .i64 (((nth c_3788 v_4834).fRate).fD))], row (.slice ao_4832 out_4831.length cap_4833) 42 4 (out_4831.flatMap e42)] [] [stb b_4884 42 [(.int .i64 (((nth c_3788 v_4834).fBurst).fN)), (.int .i64 (((nth c_3788 v_4834).fBurst).fD)), (.int .i64 (((nth c_3788 v_4834).fRate).fN)), (.int .i64 (((nth c_3788 v_4834).fRate).fD))], row (.slice ao_4832 out_4831.length cap_4833) 42 4 (out_4831.flatMap e42)]) (B := [row (.slice ao_4832 out_4831.length cap_4833) 42 4 (out_4831.flatMap e42)]) (fun _ hx' => ((.cons (.there .here) .nil) : Sel _ [row (.slice ao_4832 out_4831.length cap_4833) 42 4 (out_4831.flatMap e42)] _).mem hx') (.head _) _) (RR.flat (enc := e42) (fun _ => rfl) _) ⟨w, pz.1⟩) hx_4886) ?_
        refine WL.quiet (d := 15) rfl rfl rfl (q_not rfl) ?_
        refine WL.quiet (d := 16) rfl rfl rfl (q_move rfl) ?_
        refine WL.cut0 True [(0, (.slice ao_3789 c_3788.length cap_3790)), (3, (.slice ao_4832 out_4831.length cap_4833)), (6, (.slice ao_3789 c_3788.length cap_3790)), (7, (.int .i64 ((c_3788.length : Nat) : Int))), (8, (.int .i64 v_4834)), (5, (.pointer (some ⟨b_4884, 0, none⟩))), (21, (.bool b_4889))] [stb b_4884 42 [(.int .i64 (((nth c_3788 v_4834).fBurst).fN)), (.int .i64 (((nth c_3788 v_4834).fBurst).fD)), (.int .i64 (((nth c_3788 v_4834).fRate).fN)), (.int .i64 (((nth c_3788 v_4834).fRate).fD))], row (.slice ao_4832 out_4831.length cap_4833) 42 4 (out_4831.flatMap e42)] 5 ?_ (fun _ => ?_)
        · rcases Bool.eq_false_or_eq_true (!x_4885) with hb' | hb'
          · have hg_4891 := hb'; clear hb'
            have hq_4892 := ite_t hb_4890 hg_4891
            obtain ⟨x_4887, hx_4888, hq_4892⟩ := bind_elim hq_4892
            replace hq_4892 := Option.some.inj hq_4892
            refine WL.pin (i := 16) rfl hg_4891 ?_
            refine WL.quiet (d := 17) rfl rfl rfl (q_move rfl) ?_
            refine WL.quiet (d := 18) rfl rfl rfl (q_makeFunc (Eos.caps (l := [.tmp 5]) (.cons rfl .nil))) ?_
            refine WL.callD (dd := 19) rfl rfl rfl (run_call (l := [.tmp 17, .tmp 18]) Try.call56 (.cons rfl (.cons rfl .nil))) (.nil : Sel [stb b_4884 42 [(.int .i64 (((nth c_3788 v_4834).fBurst).fN)), (.int .i64 (((nth c_3788 v_4834).fBurst).fD)), (.int .i64 (((nth c_3788 v_4834).fRate).fN)), (.int .i64 (((nth c_3788 v_4834).fRate).fD))], row (.slice ao_4832 out_4831.length cap_4833) 42 4 (out_4831.flatMap e42)] [] [stb b_4884 42 [(.int .i64 (((nth c_3788 v_4834).fBurst).fN)), (.int .i64 (((nth c_3788 v_4834).fBurst).fD)), (.int .i64 (((nth c_3788 v_4834).fRate).fN)), (.int .i64 (((nth c_3788 v_4834).fRate).fD))], row (.slice ao_4832 out_4831.length cap_4833) 42 4 (out_4831.flatMap e42)]) (fun w hw => by have pz := (hz.call hw (.nil : Sel [stb b_4884 42 [(.int .i64 (((nth c_3788 v_4834).fBurst).fN)), (.int .i64 (((nth c_3788 v_4834).fBurst).fD)), (.int .i64 (((nth c_3788 v_4834).fRate).fN)), (.int .i64 (((nth c_3788 v_4834).fRate).fD))], row (.slice ao_4832 out_4831.length cap_4833) 42 4 (out_4831.flatMap e42)] [] [stb b_4884 42 [(.int .i64 (((nth c_3788 v_4834).fBurst).fN)), (.int .i64 (((nth c_3788 v_4834).fBurst).fD)), (.int .i64 (((nth c_3788 v_4834).fRate).fN)), (.int .i64 (((nth c_3788 v_4834).fRate).fD))], row (.slice ao_4832 out_4831.length cap_4833) 42 4 (out_4831.flatMap e42)])).lend hw (.nil : Sel [stb b_4884 42 [(.int .i64 (((nth c_3788 v_4834).fBurst).fN)), (.int .i64 (((nth c_3788 v_4834).fBurst).fD)), (.int .i64 (((nth c_3788 v_4834).fRate).fN)), (.int .i64 (((nth c_3788 v_4834).fRate).fD))], row (.slice ao_4832 out_4831.length cap_4833) 42 4 (out_4831.flatMap e42)] [] [stb b_4884 42 [(.int .i64 (((nth c_3788 v_4834).fBurst).fN)), (.int .i64 (((nth c_3788 v_4834).fBurst).fD)), (.int .i64 (((nth c_3788 v_4834).fRate).fN)), (.int .i64 (((nth c_3788 v_4834).fRate).fD))], row (.slice ao_4832 out_4831.length cap_4833) 42 4 (out_4831.flatMap e42)]) (B := [stb b_4884 42 [(.int .i64 (((nth c_3788 v_4834).fBurst).fN)), (.int .i64 (((nth c_3788 v_4834).fBurst).fD)), (.int .i64 (((nth c_3788 v_4834).fRate).fN)), (.int .i64 (((nth c_3788 v_4834).fRate).fD))]]) (fun _ hx' => ((.cons .here .nil) : Sel _ [stb b_4884 42 [(.int .i64 (((nth c_3788 v_4834).fBurst).fN)), (.int .i64 (((nth c_3788 v_4834).fBurst).fD)), (.int .i64 (((nth c_3788 v_4834).fRate).fN)), (.int .i64 (((nth c_3788 v_4834).fRate).fD))]] _).mem hx'); exact w_slices_ContainsFunc_api_Curve_api_Bucket (Z := _) (ao_1231 := ao_3789) (cap_1232 := cap_3790) (fid_1234 := 69) (fcaps_1235 := [(.pointer (some ⟨b_4884, 0, none⟩))]) (s_1230 := c_3788) (f_1236 := (fun (y0 : Sapi_Bucket) => m_curve_norm_1 y0 (⟨(⟨(((nth c_3788 v_4834).fBurst).fN), (((nth c_3788 v_4834).fBurst).fD)⟩ : Sapi_Rat), (⟨(((nth c_3788 v_4834).fRate).fN), (((nth c_3788 v_4834).fRate).fD)⟩ : Sapi_Rat)⟩ : Sapi_Bucket))) (r := x_4887) w pz (hs_3791.mono (Zle.left _ _)) Try.call69 (fun w' hz' y0  r  hr => w_curve_norm_1 (Z := _) (A_4072 := ⟨b_4884, 0, none⟩) (a_4071 := y0) (c_4074 := (⟨(⟨(((nth c_3788 v_4834).fBurst).fN), (((nth c_3788 v_4834).fBurst).fD)⟩ : Sapi_Rat), (⟨(((nth c_3788 v_4834).fRate).fN), (((nth c_3788 v_4834).fRate).fD)⟩ : Sapi_Rat)⟩ : Sapi_Bucket)) (r := r) w' hz' ((hw.lent (.nil : Sel [stb b_4884 42 [(.int .i64 (((nth c_3788 v_4834).fBurst).fN)), (.int .i64 (((nth c_3788 v_4834).fBurst).fD)), (.int .i64 (((nth c_3788 v_4834).fRate).fN)), (.int .i64 (((nth c_3788 v_4834).fRate).fD))], row (.slice ao_4832 out_4831.length cap_4833) 42 4 (out_4831.flatMap e42)] [] [stb b_4884 42 [(.int .i64 (((nth c_3788 v_4834).fBurst).fN)), (.int .i64 (((nth c_3788 v_4834).fBurst).fD)), (.int .i64 (((nth c_3788 v_4834).fRate).fN)), (.int .i64 (((nth c_3788 v_4834).fRate).fD))], row (.slice ao_4832 out_4831.length cap_4833) 42 4 (out_4831.flatMap e42)]) (B := [stb b_4884 42 [(.int .i64 (((nth c_3788 v_4834).fBurst).fN)), (.int .i64 (((nth c_3788 v_4834).fBurst).fD)), (.int .i64 (((nth c_3788 v_4834).fRate).fN)), (.int .i64 (((nth c_3788 v_4834).fRate).fD))]]) (fun _ hx' => ((.cons .here .nil) : Sel _ [stb b_4884 42 [(.int .i64 (((nth c_3788 v_4834).fBurst).fN)), (.int .i64 (((nth c_3788 v_4834).fBurst).fD)), (.int .i64 (((nth c_3788 v_4834).fRate).fN)), (.int .i64 (((nth c_3788 v_4834).fRate).fD))]] _).mem hx') (.head _) _).stb) hr) hx_4888) ?_
            refine WL.quiet (d := 20) rfl rfl rfl (q_not rfl) ?_
            refine WL.quiet (d := 21) rfl rfl rfl (q_pickT rfl rfl) ?_
            exact WL.cutEnd () trivial (.cons rfl (.cons rfl (.cons rfl (.cons rfl (.cons rfl (.cons rfl (.cons (some_bool hq_4892) .nil))))))) (.cons .here (.cons .here .nil))
          · have hg_4893 := hb'; clear hb'
            have hq_4894 := ite_f hb_4890 hg_4893
            replace hq_4894 := Option.some.inj hq_4894
            refine WL.pin (i := 16) rfl hg_4893 ?_
            refine WL.skip rfl rfl rfl ?_
            refine WL.skip rfl rfl rfl ?_
            refine WL.skip rfl rfl rfl ?_
            refine WL.skip rfl rfl rfl ?_
            refine WL.quiet (d := 21) rfl rfl rfl (q_pickF rfl rfl) ?_
            exact WL.cutEnd () trivial (.cons rfl (.cons rfl (.cons rfl (.cons rfl (.cons rfl (.cons rfl (.cons (some_bool hq_4894) .nil))))))) (.cons .here (.cons .here .nil))
        · skip
          refine WL.nil ?_
          refine WX.then ?_
          refine WC.cond rfl (fun hb_4895 => ?_) (fun hb_4895 => ?_)
          · replace h := ite_t h hb_4895
            obtain ⟨c_4897, h⟩ := chk_elim h
            refine WC.region ?_
            refine WL.quiet (d := 22) rfl rfl rfl (q_move rfl) ?_
            refine WL.quiet (d := 23) rfl rfl rfl (q_loadA (cs := [(.int .i64 (((nth c_3788 v_4834).fBurst).fN)), (.int .i64 (((nth c_3788 v_4834).fBurst).fD)), (.int .i64 (((nth c_3788 v_4834).fRate).fN)), (.int .i64 (((nth c_3788 v_4834).fRate).fD))]) aggT_42 rfl rfl (rd_all .here)) ?_
            refine WL.new (dd := 24) rfl rfl rfl (e_buildSlice (cs := ([(⟨(⟨(((nth c_3788 v_4834).fBurst).fN), (((nth c_3788 v_4834).fBurst).fD)⟩ : Sapi_Rat), (⟨(((nth c_3788 v_4834).fRate).fN), (((nth c_3788 v_4834).fRate).fD)⟩ : Sapi_Rat)⟩ : Sapi_Bucket)] : List Sapi_Bucket).flatMap e42) elT_25 (Eos.parts (l := [.tmp 23]) (.cons rfl .nil) [0]) (fun _ => by kernel_rfl) rfl (by unfold maxLen; omega)) ?_
            intro b_4900 _
            refine WL.eff (d := 25) rfl rfl rfl (e_appendF (enc := e42) (l1 := out_4831) (l2 := ([(⟨(⟨(((nth c_3788 v_4834).fBurst).fN), (((nth c_3788 v_4834).fBurst).fD)⟩ : Sapi_Rat), (⟨(((nth c_3788 v_4834).fRate).fN), (((nth c_3788 v_4834).fRate).fD)⟩ : Sapi_Rat)⟩ : Sapi_Bucket)] : List Sapi_Bucket)) elT_25 rfl rfl (.there (.there .here)) (fun _ => rfl) rfl rfl (news_row .here) (oc_flat e42_oc _) c_4897) ?_
            rintro ⟨ao_4901, cap_4902⟩ _
            refine WL.quiet (d := 3) rfl rfl rfl (q_assign rfl) ?_
            refine WL.nil ?_
            refine WX.blockNormal ?_
            exact WX.mid (G := List Sapi_Bucket × Option Addr × Nat) ⟨(out_4831 ++ ([(⟨(⟨(((nth c_3788 v_4834).fBurst).fN), (((nth c_3788 v_4834).fBurst).fD)⟩ : Sapi_Rat), (⟨(((nth c_3788 v_4834).fRate).fN), (((nth c_3788 v_4834).fRate).fD)⟩ : Sapi_Rat)⟩ : Sapi_Bucket)] : List Sapi_Bucket)), ao_4901, cap_4902⟩ h (.cons rfl (.cons rfl (.cons rfl (.cons rfl (.cons rfl .nil))))) (.cons .here .nil)
          · replace h := ite_f h hb_4895
            refine WC.skip ?_
            refine WX.blockNormal ?_
            exact WX.mid (G := List Sapi_Bucket × Option Addr × Nat) ⟨out_4831, ao_4832, cap_4833⟩ h (.cons rfl (.cons rfl (.cons rfl (.cons rfl (.cons rfl .nil))))) (.cons (.there .here) .nil)
      · rintro out_4869 ao_4870 cap_4871 h
        replace h := (hk_4873 out_4869).symm.trans h
        refine WC.region ?_
        refine WL.quiet (d := 26) rfl rfl rfl (q_add rfl rfl rfl) ?_
        refine WL.quiet (d := 8) rfl rfl rfl (q_move rfl) ?_
        refine WL.nil ?_
        exact WX.round (G := Nat × List Sapi_Bucket × Int × Option Addr × Nat) ⟨n_4837, out_4869, (i64 (v_4834 + 1)), ao_4870, cap_4871⟩ h (Nat.lt_succ_self _) (.cons rfl (.cons rfl (.cons rfl (.cons rfl (.cons rfl .nil))))) (.cons .here .nil)
    · replace h := ite_f h hb_4839
      refine WC.exit ?_
      refine WX.thenExit ?_
      refine WX.thenExit ?_
      refine WX.blockHit ?_
      exact WX.mid (G := List Sapi_Bucket × Option Addr × Nat) ⟨out_4831, ao_4832, cap_4833⟩ h (.cons rfl .nil) (.cons .here .nil)
  · rintro out_4755 ao_4756 cap_4757 h
    replace h := (hk_4759 out_4755).symm.trans h
    refine WC.seq ?_
    obtain ⟨x_4903, hx_4904, h⟩ := bind_elim h
    refine WC.region ?_
    refine WL.quiet (d := 27) rfl rfl rfl (q_move rfl) ?_
    refine WL.enter0 (dd := 28) rfl rfl rfl (run_call (l := [.tmp 27, .func 72]) Try.call71 (.cons rfl (.cons rfl .nil))) ((.cons .here .nil) : Sel [row (.slice ao_4756 out_4755.length cap_4757) 42 4 (out_4755.flatMap e42)] [row (.slice ao_4756 out_4755.length cap_4757) 42 4 (out_4755.flatMap e42)] []) (fun w hw => by have pz := (hz.call hw ((.cons .here .nil) : Sel [row (.slice ao_4756 out_4755.length cap_4757) 42 4 (out_4755.flatMap e42)] [row (.slice ao_4756 out_4755.length cap_4757) 42 4 (out_4755.flatMap e42)] [])); exact w_slices_SortFunc_api_Curve_api_Bucket (Z := _) (ao_4513 := ao_4756) (cap_4514 := cap_4757) (fid_4515 := 72) (fcaps_4516 := []) (x_4512 := out_4755) (f_4517 := (fun (y0 : Sapi_Bucket) (y1 : Sapi_Bucket) => m_curve_norm_2 y0 y1)) (r := x_4903) w pz Try.call72 (fun w' hz' y0 y1  r  hr => w_curve_norm_2 (Z := _)  (a_4474 := y0) (b_4475 := y1) (r := r) w' hz'  hr) hx_4904 (hw.owns ((.cons .here .nil) : Sel [row (.slice ao_4756 out_4755.length cap_4757) 42 4 (out_4755.flatMap e42)] [row (.slice ao_4756 out_4755.length cap_4757) 42 4 (out_4755.flatMap e42)] []))) ?_
    rintro  hf_4906
    refine WL.repin (i := 3) rfl (u := (.slice ao_4756 x_4903.length cap_4757)) (slen hf_4906.symm) ?_
    refine WL.nil ?_
    refine WX.then ?_
    refine WC.seq ?_
    refine WC.region ?_
    refine WL.quiet (d := 29) rfl rfl rfl (q_move rfl) ?_
    refine WL.quiet (d := 2) rfl rfl rfl (q_assign rfl) ?_
    refine WL.nil ?_
    refine WX.then ?_
    refine WC.ret ?_
    obtain rfl := Option.some.inj h
    refine WX.bpRet Try.results45 (.tmp rfl .nil) (fun w hw => ?_)
    exact ⟨ao_4756, cap_4757, ret1 rfl, trivial, hw.sub (.cons .here .nil)⟩
/-- curve.Norm -/
def m_curve_Norm (c_3778 : List Sapi_Bucket) : Option (List Sapi_Bucket × Int) :=
  (m_curve_Valid c_3778).bind fun x_4923 => if !x_4923 then some (([] : List Sapi_Bucket), 2) else (m_curve_norm c_3778).bind fun x_4927 => some (x_4927, 0)

set_option maxRecDepth 20000 in
theorem w_curve_Norm (Z : Zp)  (ao_3779 : Option Addr) (cap_3780 : Nat) (c_3778 : List Sapi_Bucket) (r : List Sapi_Bucket × Int) (w₀ : World) (hz : PZ [] w₀ Z)
    (hs_3781 : ZS Z 4 (fun r x => r = e42 x) ao_3779 cap_3780 c_3778)
    (h : m_curve_Norm c_3778 = some r) :
    Calls Try.prog 19 #[(.slice ao_3779 c_3778.length cap_3780)] w₀ fun e w' => ∃ ao_4917 : Option Addr, ∃ cap_4918 : Nat, e = .returned (.tuple #[(.slice ao_4917 r.1.length cap_4918), (.int .i64 r.2)]) ∧ True ∧ Hp [] w₀ w' [row (.slice ao_4917 r.1.length cap_4918) 42 4 (r.1.flatMap e42)] := by
  unfold m_curve_Norm at h
  refine Calls.ofWC (vs := [(.slice ao_3779 c_3778.length cap_3780)]) (pre := []) (env := [(0, (.slice ao_3779 c_3778.length cap_3780))]) Try.func19 rfl Try.ntmps19 rfl (Hp.nil w₀ _) rfl ?_
  refine WC.seq ?_
  refine WC.region ?_
  refine WL.quiet (d := 2) rfl rfl rfl (q_assign rfl) ?_
  refine WL.quiet (d := 3) rfl rfl rfl (q_assign rfl) ?_
  refine WL.nil ?_
  refine WX.then ?_
  refine WC.seq ?_
  refine WC.seq ?_
  obtain ⟨x_4923, hx_4924, h⟩ := bind_elim h
  refine WC.region ?_
  refine WL.quiet (d := 4) rfl rfl rfl (q_move rfl) ?_
  refine WL.callD (dd := 5) rfl rfl rfl (run_call (l := [.tmp 4]) Try.call26 (.cons rfl .nil)) (.nil : Sel [] [] []) (fun w hw => by have pz := (hz.call hw (.nil : Sel [] [] [])); exact w_curve_Valid (Z := _) (ao_1187 := ao_3779) (cap_1188 := cap_3780) (c_1186 := c_3778) (r := x_4923) w pz hs_3781 hx_4924) ?_
  refine WL.quiet (d := 6) rfl rfl rfl (q_not rfl) ?_
  refine WL.nil ?_
  refine WX.then ?_
  refine WC.cond rfl (fun hb_4925 => ?_) (fun hb_4925 => ?_)
  · replace h := ite_t h hb_4925
    refine WC.seq ?_
    refine WC.region ?_
    refine WL.quiet (d := 2) rfl rfl rfl (q_assign rfl) ?_
    refine WL.quiet (d := 3) rfl rfl rfl (q_assign rfl) ?_
    refine WL.nil ?_
    refine WX.then ?_
    refine WC.ret ?_
    refine WX.thenRet ?_
    refine WX.nilRow 42 4 ?_
    obtain rfl := Option.some.inj h
    refine WX.bpRet Try.results19 (.tmp rfl (.tmp rfl .nil)) (fun w hw => ?_)
    exact ⟨none, 0, ret2 rfl rfl, trivial, hw.sub (.cons .here .nil)⟩
  · replace h := ite_f h hb_4925
    refine WC.skip ?_
    refine WX.then ?_
    refine WC.seq ?_
    obtain ⟨x_4927, hx_4928, h⟩ := bind_elim h
    refine WC.region ?_
    refine WL.quiet (d := 7) rfl rfl rfl (q_move rfl) ?_
    refine WL.enter2 (dd := 8) rfl rfl rfl (run_call (l := [.tmp 7]) Try.call45 (.cons rfl .nil)) (.nil : Sel [] [] []) (fun w hw => by have pz := (hz.call hw (.nil : Sel [] [] [])); exact w_curve_norm (Z := _) (ao_3789 := ao_3779) (cap_3790 := cap_3780) (c_3788 := c_3778) (r := x_4927) w pz hs_3781 hx_4928) ?_
    rintro ao_4932 cap_4933 _
    refine WL.quiet (d := 2) rfl rfl rfl (q_assign rfl) ?_
    refine WL.quiet (d := 3) rfl rfl rfl (q_assign rfl) ?_
    refine WL.nil ?_
    refine WX.then ?_
    refine WC.ret ?_
    obtain rfl := Option.some.inj h
    refine WX.bpRet Try.results19 (.tmp rfl (.tmp rfl .nil)) (fun w hw => ?_)
    exact ⟨ao_4932, cap_4933, ret2 rfl rfl, trivial, hw.sub (.cons .here .nil)⟩
/-- curve.pairs -/
def m_curve_pairs (a_4965 : List Sapi_Bucket) (b_4969 : List Sapi_Bucket) : Option (List Sapi_Bucket × List Sapi_Bucket) :=
  some (a_4965, b_4969)

set_option maxRecDepth 20000 in
theorem w_curve_pairs (Z : Zp)  (ao_4966 : Option Addr) (cap_4967 : Nat) (ao_4970 : Option Addr) (cap_4971 : Nat) (a_4965 : List Sapi_Bucket) (b_4969 : List Sapi_Bucket) (r : List Sapi_Bucket × List Sapi_Bucket) (w₀ : World) (hz : PZ [] w₀ Z)
    (hs_4968 : ZS Z 4 (fun r x => r = e42 x) ao_4966 cap_4967 a_4965)
    (hs_4972 : ZS Z 4 (fun r x => r = e42 x) ao_4970 cap_4971 b_4969)
    (h : m_curve_pairs a_4965 b_4969 = some r) :
    Calls Try.prog 46 #[(.slice ao_4966 a_4965.length cap_4967), (.slice ao_4970 b_4969.length cap_4971)] w₀ fun e w' => ∃ b_4977 : Nat, ∃ b_4978 : Nat, ∃ ao_4980 : Option Addr, ∃ cap_4981 : Nat, ∃ ao_4984 : Option Addr, ∃ cap_4985 : Nat, e = .returned (.func (.func 73) #[] #[(.pointer (some ⟨b_4977, 0, none⟩)), (.pointer (some ⟨b_4978, 0, none⟩))]) ∧ ((ZS Z 4 (fun r x => r = e42 x) ao_4980 cap_4981 r.1) ∧ (ZS Z 4 (fun r x => r = e42 x) ao_4984 cap_4985 r.2)) ∧ Hp [] w₀ w' [stb b_4977 25 [(.slice ao_4980 r.1.length cap_4981)], stb b_4978 25 [(.slice ao_4984 r.2.length cap_4985)]] := by
  unfold m_curve_pairs at h
  refine Calls.ofWC (vs := [(.slice ao_4966 a_4965.length cap_4967), (.slice ao_4970 b_4969.length cap_4971)]) (pre := []) (env := [(0, (.slice ao_4966 a_4965.length cap_4967)), (1, (.slice ao_4970 b_4969.length cap_4971))]) Try.func46 rfl Try.ntmps46 rfl (Hp.nil w₀ _) rfl ?_
  refine WC.seq ?_
  refine WC.region ?_
  refine WL.new (dd := 2) rfl rfl rfl (e_box (cs := [(.slice ao_4966 a_4965.length cap_4967)]) rfl rfl) ?_
  intro b_4989 _
  refine WL.new (dd := 3) rfl rfl rfl (e_box (cs := [(.slice ao_4970 b_4969.length cap_4971)]) rfl rfl) ?_
  intro b_4990 _
  refine WL.quiet (d := 4) rfl rfl rfl (q_assign rfl) ?_
  refine WL.nil ?_
  refine WX.then ?_
  refine WC.seq ?_
  refine WC.region ?_
  refine WL.quiet (d := 5) rfl rfl rfl (q_makeFunc (Eos.caps (l := [.tmp 2, .tmp 3]) (.cons rfl (.cons rfl .nil)))) ?_
  refine WL.quiet (d := 4) rfl rfl rfl (q_assign rfl) ?_
  refine WL.nil ?_
  refine WX.then ?_
  refine WC.ret ?_
  obtain rfl := Option.some.inj h
  refine WX.bpRet Try.results46 (.tmp rfl .nil) (fun w hw => ?_)
  exact ⟨b_4989, b_4990, ao_4966, cap_4967, ao_4970, cap_4971, ret1 rfl, ⟨hs_4968, hs_4972⟩, hw.sub (.cons (.there .here) (.cons .here .nil))⟩
def m_curve_pairs_1_L4 (Sg_5038 : Type) (c_5056 : List Sapi_Bucket) (yield_5039 : (Sapi_Bucket × Sapi_Bucket) → Sg_5038 → Option (Bool × Sg_5038)) (c_5050 : List Sapi_Bucket) (v_9238 : Int) (k_9615 : Sg_5038 → Option Sg_5038) : Nat → Int → Sg_5038 → Option Sg_5038
  | 0, _, _ => none
  | n_9664 + 1, v_9659, s_9660 => if decide (v_9659 < ((c_5056.length : Nat) : Int)) then chk ((0 : Int) ≤ v_9659 ∧ v_9659 < ((c_5056.length : Nat) : Int)) ((yield_5039 ((⟨(⟨(((nth c_5050 v_9238).fBurst).fN), (((nth c_5050 v_9238).fBurst).fD)⟩ : Sapi_Rat), (⟨(((nth c_5050 v_9238).fRate).fN), (((nth c_5050 v_9238).fRate).fD)⟩ : Sapi_Rat)⟩ : Sapi_Bucket), (⟨(⟨(((nth c_5056 v_9659).fBurst).fN), (((nth c_5056 v_9659).fBurst).fD)⟩ : Sapi_Rat), (⟨(((nth c_5056 v_9659).fRate).fN), (((nth c_5056 v_9659).fRate).fD)⟩ : Sapi_Rat)⟩ : Sapi_Bucket)) s_9660).bind fun x_9696 => if !x_9696.1 then some x_9696.2 else m_curve_pairs_1_L4 Sg_5038 c_5056 yield_5039 c_5050 v_9238 k_9615 n_9664 (i64 (v_9659 + 1)) x_9696.2) else k_9615 s_9660
theorem m_curve_pairs_1_L4_fuel {n : Nat} {Sg_5038 : Type} {c_5056 : List Sapi_Bucket} {yield_5039 : (Sapi_Bucket × Sapi_Bucket) → Sg_5038 → Option (Bool × Sg_5038)} {c_5050 : List Sapi_Bucket} {v_9238 : Int} {k_9615 : Sg_5038 → Option Sg_5038} {v_9659 : Int} {s_9660 : Sg_5038} {r : Sg_5038} (h : m_curve_pairs_1_L4 Sg_5038 c_5056 yield_5039 c_5050 v_9238 k_9615 n v_9659 s_9660 = some r) : ∃ m, n = m + 1 := by
  cases n with
  | zero => cases h
  | succ m => exact ⟨m, rfl⟩

def m_curve_pairs_1_L3 (Sg_5038 : Type) (c_5050 : List Sapi_Bucket) (c_5056 : List Sapi_Bucket) (yield_5039 : (Sapi_Bucket × Sapi_Bucket) → Sg_5038 → Option (Bool × Sg_5038)) (k_8773 : Sg_5038 → Option Sg_5038) : Nat → Int → Sg_5038 → Option Sg_5038
  | 0, _, _ => none
  | n_9243 + 1, v_9238, s_9239 => if decide (v_9238 < ((c_5050.length : Nat) : Int)) then jp1 (fun (s_9472 : Sg_5038) => m_curve_pairs_1_L3 Sg_5038 c_5050 c_5056 yield_5039 k_8773 n_9243 (i64 (v_9238 + 1)) s_9472) fun k_9475 => chk ((0 : Int) ≤ v_9238 ∧ v_9238 < ((c_5050.length : Nat) : Int)) (jp1 (fun (s_9612 : Sg_5038) => k_9475 s_9612) fun k_9615 => m_curve_pairs_1_L4 Sg_5038 c_5056 yield_5039 c_5050 v_9238 k_9615 FUEL 0 s_9239) else k_8773 s_9239
theorem m_curve_pairs_1_L3_fuel {n : Nat} {Sg_5038 : Type} {c_5050 : List Sapi_Bucket} {c_5056 : List Sapi_Bucket} {yield_5039 : (Sapi_Bucket × Sapi_Bucket) → Sg_5038 → Option (Bool × Sg_5038)} {k_8773 : Sg_5038 → Option Sg_5038} {v_9238 : Int} {s_9239 : Sg_5038} {r : Sg_5038} (h : m_curve_pairs_1_L3 Sg_5038 c_5050 c_5056 yield_5039 k_8773 n v_9238 s_9239 = some r) : ∃ m, n = m + 1 := by
  cases n with
  | zero => cases h
  | succ m => exact ⟨m, rfl⟩

/-- curve.pairs$1 -/
def m_curve_pairs_1 (Sg_5038 : Type) (yield_5039 : (Sapi_Bucket × Sapi_Bucket) → Sg_5038 → Option (Bool × Sg_5038)) (s0_5040 : Sg_5038) (c_5050 : List Sapi_Bucket) (c_5056 : List Sapi_Bucket) : Option Sg_5038 :=
  jp1 (fun (s_8770 : Sg_5038) => some s_8770) fun k_8773 => m_curve_pairs_1_L3 Sg_5038 c_5050 c_5056 yield_5039 k_8773 FUEL 0 s0_5040

set_option maxRecDepth 20000 in
theorem w_curve_pairs_1 (Z : Zp) (Sg_5038 : Type) (lp_5041 : Nat) (Gg_5042 : Type) (J_5043 : Gg_5042 → Sg_5038 → Asrt) (Phi_5044 : Gg_5042 → Sg_5038 → Prop) (g_5045 : Gg_5042) (A_5048 : Addr) (ao_5051 : Option Addr) (cap_5052 : Nat) (A_5054 : Addr) (ao_5057 : Option Addr) (cap_5058 : Nat) (yield_5039 : (Sapi_Bucket × Sapi_Bucket) → Sg_5038 → Option (Bool × Sg_5038)) (s0_5040 : Sg_5038) (c_5050 : List Sapi_Bucket) (c_5056 : List Sapi_Bucket) (r : Sg_5038) (w₀ : World) (hz : PZ (fps [J_5043 g_5045 s0_5040]) w₀ Z)
    (hY_5046 : YieldP Try.prog Z lp_5041 (α := Sapi_Bucket × Sapi_Bucket) (σ := Sg_5038) (G := Gg_5042) (H := Unit) (fun h x => [(.agg #[(.int .i64 x.1.fBurst.fN), (.int .i64 x.1.fBurst.fD), (.int .i64 x.1.fRate.fN), (.int .i64 x.1.fRate.fD)]), (.agg #[(.int .i64 x.2.fBurst.fN), (.int .i64 x.2.fBurst.fD), (.int .i64 x.2.fRate.fN), (.int .i64 x.2.fRate.fD)])]) (fun h x => []) yield_5039 J_5043 Phi_5044)
    (hphi_5047 : Phi_5044 g_5045 s0_5040)
    (hs_5053 : ZS Z 4 (fun r x => r = e42 x) ao_5051 cap_5052 c_5050)
    (hA_5049 : ZC Z A_5048 [(.slice ao_5051 c_5050.length cap_5052)])
    (hs_5059 : ZS Z 4 (fun r x => r = e42 x) ao_5057 cap_5058 c_5056)
    (hA_5055 : ZC Z A_5054 [(.slice ao_5057 c_5056.length cap_5058)])
    (h : m_curve_pairs_1 Sg_5038 yield_5039 s0_5040 c_5050 c_5056 = some r)
    (hown : Hp (fps [J_5043 g_5045 s0_5040]) w₀ w₀ [J_5043 g_5045 s0_5040]) :
    Calls Try.prog 73 #[(.func (.yield lp_5041) #[] #[]), (.pointer (some A_5048)), (.pointer (some A_5054))] w₀ fun e w' => ∃ g_7381 : Gg_5042, e = .returned (.tuple #[]) ∧ (Phi_5044 g_7381 r) ∧ Hp (fps [J_5043 g_5045 s0_5040]) w₀ w' [J_5043 g_7381 r] := by
  unfold m_curve_pairs_1 at h
  refine Calls.ofWC (vs := [(.func (.yield lp_5041) #[] #[]), (.pointer (some A_5048)), (.pointer (some A_5054))]) (pre := [J_5043 g_5045 s0_5040]) (env := [(0, (.func (.yield lp_5041) #[] #[])), (1, (.pointer (some A_5048))), (2, (.pointer (some A_5054)))]) Try.func73 rfl Try.ntmps73 rfl (hown) rfl ?_
  refine WC.seq ?_
  refine WC.region ?_
  refine WL.quiet (d := 8) rfl rfl rfl (q_load1 oneT_25 rfl (rd_z hz.pv hA_5049 rfl)) ?_
  refine WL.quiet (d := 9) rfl rfl rfl (q_len Try.underlying25 rfl) ?_
  refine WL.quiet (d := 10) rfl rfl rfl (q_move rfl) ?_
  refine WL.nil ?_
  refine WX.then ?_
  obtain ⟨k_8773, hk_8774, h⟩ := jp1_elim h
  refine WC.mid2 (fun (s_8770 : Sg_5038) (g_8771 : Gg_5042) => (k_8773 s_8770 = some r) ∧ (Phi_5044 g_8771 s_8770)) (fun (s_8770 : Sg_5038) (g_8771 : Gg_5042) => []) (fun (s_8770 : Sg_5038) (g_8771 : Gg_5042) => [J_5043 g_8771 s_8770]) ?_ ?_
  · skip
    refine WC.block ?_
    refine WC.loop4 (fun (n_9242 : Nat) (v_9238 : Int) (s_9239 : Sg_5038) (g_9240 : Gg_5042) => (m_curve_pairs_1_L3 Sg_5038 c_5050 c_5056 yield_5039 k_8773 n_9242 v_9238 s_9239 = some r) ∧ (Phi_5044 g_9240 s_9239)) (fun (n_9242 : Nat) (v_9238 : Int) (s_9239 : Sg_5038) (g_9240 : Gg_5042) => [(0, (.func (.yield lp_5041) #[] #[])), (2, (.pointer (some A_5054))), (8, (.slice ao_5051 c_5050.length cap_5052)), (9, (.int .i64 ((c_5050.length : Nat) : Int))), (10, (.int .i64 v_9238))]) (fun (n_9242 : Nat) (v_9238 : Int) (s_9239 : Sg_5038) (g_9240 : Gg_5042) => [J_5043 g_9240 s_9239]) (fun (n_9242 : Nat) (v_9238 : Int) (s_9239 : Sg_5038) (g_9240 : Gg_5042) => n_9242) ⟨FUEL, 0, s0_5040, g_5045⟩ ⟨h, hphi_5047⟩ (.cons rfl (.cons rfl (.cons rfl (.cons rfl (.cons rfl .nil))))) (.cons .here .nil) ?_
    rintro n_9242 v_9238 s_9239 g_9240 ⟨h, hphi_9241⟩
    obtain ⟨n_9243, rfl⟩ := m_curve_pairs_1_L3_fuel h
    rw [m_curve_pairs_1_L3] at h
    refine WC.seq ?_
    refine WC.region ?_
    refine WL.quiet (d := 11) rfl rfl rfl (q_lss rfl rfl) ?_
    refine WL.nil ?_
    refine WX.then ?_
    refine WC.seq ?_
    refine WC.cond rfl (fun hb_9245 => ?_) (fun hb_9245 => ?_)
    · replace h := ite_t h hb_9245
      refine WC.skip ?_
      refine WX.then ?_
      obtain ⟨k_9475, hk_9476, h⟩ := jp1_elim h
      refine WC.seqMid2 (fun (s_9472 : Sg_5038) (g_9473 : Gg_5042) => (k_9475 s_9472 = some r) ∧ (Phi_5044 g_9473 s_9472)) (fun (s_9472 : Sg_5038) (g_9473 : Gg_5042) => [(0, (.func (.yield lp_5041) #[] #[])), (2, (.pointer (some A_5054))), (8, (.slice ao_5051 c_5050.length cap_5052)), (9, (.int .i64 ((c_5050.length : Nat) : Int))), (10, (.int .i64 v_9238))]) (fun (s_9472 : Sg_5038) (g_9473 : Gg_5042) => [J_5043 g_9473 s_9472]) ?_ ?_
      · skip
        refine WC.block ?_
        refine WC.seq ?_
        obtain ⟨c_9477, h⟩ := chk_elim h
        refine WC.region ?_
        refine WL.znth (dd := 12) rfl rfl (Z := Z) (Pr := (fun r x => r = e42 x)) elT_25 rfl rfl hs_5053 c_9477 ?_
        rintro A_9483 r_9484 hA_9485 hl_9486 rfl
        refine WL.quiet (d := 13) rfl rfl rfl (q_loadA (cs := [(.int .i64 (((nth c_5050 v_9238).fBurst).fN)), (.int .i64 (((nth c_5050 v_9238).fBurst).fD)), (.int .i64 (((nth c_5050 v_9238).fRate).fN)), (.int .i64 (((nth c_5050 v_9238).fRate).fD))]) aggT_42 rfl rfl (rd_zs hz.pv hA_9485)) ?_
        refine WL.new (dd := 5) rfl rfl rfl (e_alloc (cs := [(.int .i64 0), (.int .i64 0), (.int .i64 0), (.int .i64 0)]) zeroT_42 rfl) ?_
        intro b_9487 _
        refine WL.eff0 rfl rfl (e_store (vs := [(.int .i64 (((nth c_5050 v_9238).fBurst).fN)), (.int .i64 (((nth c_5050 v_9238).fBurst).fD)), (.int .i64 (((nth c_5050 v_9238).fRate).fN)), (.int .i64 (((nth c_5050 v_9238).fRate).fD))]) (ds := [(.int .i64 (((nth c_5050 v_9238).fBurst).fN)), (.int .i64 (((nth c_5050 v_9238).fBurst).fD)), (.int .i64 (((nth c_5050 v_9238).fRate).fN)), (.int .i64 (((nth c_5050 v_9238).fRate).fD))]) sizT_42 rfl rfl rfl rfl (oc_cons rfl (oc_cons rfl (oc_cons rfl (oc_cons rfl oc_nil)))) .here (Nat.le_of_ble_eq_true rfl) rfl) ?_
        refine WL.nil ?_
        refine WX.then ?_
        refine WC.seq ?_
        refine WC.region ?_
        refine WL.quiet (d := 14) rfl rfl rfl (q_load1 oneT_25 rfl (rd_z hz.pv hA_5055 rfl)) ?_
        refine WL.quiet (d := 15) rfl rfl rfl (q_len Try.underlying25 rfl) ?_
        refine WL.quiet (d := 16) rfl rfl rfl (q_move rfl) ?_
        refine WL.nil ?_
        refine WX.then ?_
        obtain ⟨k_9615, hk_9616, h⟩ := jp1_elim h
        refine WC.mid2 (fun (s_9612 : Sg_5038) (g_9613 : Gg_5042) => (k_9615 s_9612 = some r) ∧ (Phi_5044 g_9613 s_9612)) (fun (s_9612 : Sg_5038) (g_9613 : Gg_5042) => [(0, (.func (.yield lp_5041) #[] #[])), (2, (.pointer (some A_5054))), (8, (.slice ao_5051 c_5050.length cap_5052)), (9, (.int .i64 ((c_5050.length : Nat) : Int))), (10, (.int .i64 v_9238))]) (fun (s_9612 : Sg_5038) (g_9613 : Gg_5042) => [J_5043 g_9613 s_9612]) ?_ ?_
        · skip
          refine WC.block ?_
          refine WC.loop4 (fun (n_9663 : Nat) (v_9659 : Int) (s_9660 : Sg_5038) (g_9661 : Gg_5042) => (m_curve_pairs_1_L4 Sg_5038 c_5056 yield_5039 c_5050 v_9238 k_9615 n_9663 v_9659 s_9660 = some r) ∧ (Phi_5044 g_9661 s_9660)) (fun (n_9663 : Nat) (v_9659 : Int) (s_9660 : Sg_5038) (g_9661 : Gg_5042) => [(0, (.func (.yield lp_5041) #[] #[])), (2, (.pointer (some A_5054))), (5, (.pointer (some ⟨b_9487, 0, none⟩))), (8, (.slice ao_5051 c_5050.length cap_5052)), (9, (.int .i64 ((c_5050.length : Nat) : Int))), (10, (.int .i64 v_9238)), (14, (.slice ao_5057 c_5056.length cap_5058)), (15, (.int .i64 ((c_5056.length : Nat) : Int))), (16, (.int .i64 v_9659))]) (fun (n_9663 : Nat) (v_9659 : Int) (s_9660 : Sg_5038) (g_9661 : Gg_5042) => [stb b_9487 42 [(.int .i64 (((nth c_5050 v_9238).fBurst).fN)), (.int .i64 (((nth c_5050 v_9238).fBurst).fD)), (.int .i64 (((nth c_5050 v_9238).fRate).fN)), (.int .i64 (((nth c_5050 v_9238).fRate).fD))], J_5043 g_9661 s_9660]) (fun (n_9663 : Nat) (v_9659 : Int) (s_9660 : Sg_5038) (g_9661 : Gg_5042) => n_9663) ⟨FUEL, 0, s_9239, g_9240⟩ ⟨h, hphi_9241⟩ (.cons rfl (.cons rfl (.cons rfl (.cons rfl (.cons rfl (.cons rfl (.cons rfl (.cons rfl (.cons rfl .nil))))))))) (.cons .here (.cons .here .nil)) ?_
          rintro n_9663 v_9659 s_9660 g_9661 ⟨h, hphi_9662⟩
          obtain ⟨n_9664, rfl⟩ := m_curve_pairs_1_L4_fuel h
          rw [m_curve_pairs_1_L4] at h
          refine WC.seq ?_
          refine WC.region ?_
          refine WL.quiet (d := 17) rfl rfl rfl (q_lss rfl rfl) ?_
          refine WL.nil ?_
          refine WX.then ?_
          refine WC.seq ?_
          refine WC.cond rfl (fun hb_9666 => ?_) (fun hb_9666 => ?_)
          · replace h := ite_t h hb_9666
            refine WC.skip ?_
            refine WX.then ?_
            refine WC.seq ?_
            refine WC.block ?_
            refine WC.seq ?_
            obtain ⟨c_9685, h⟩ := chk_elim h
            refine WC.region ?_
            refine WL.znth (dd := 18) rfl rfl (Z := Z) (Pr := (fun r x => r = e42 x)) elT_25 rfl rfl hs_5059 c_9685 ?_
            rintro A_9691 r_9692 hA_9693 hl_9694 rfl
            refine WL.quiet (d := 19) rfl rfl rfl (q_loadA (cs := [(.int .i64 (((nth c_5056 v_9659).fBurst).fN)), (.int .i64 (((nth c_5056 v_9659).fBurst).fD)), (.int .i64 (((nth c_5056 v_9659).fRate).fN)), (.int .i64 (((nth c_5056 v_9659).fRate).fD))]) aggT_42 rfl rfl (rd_zs hz.pv hA_9693)) ?_
            refine WL.new (dd := 7) rfl rfl rfl (e_alloc (cs := [(.int .i64 0), (.int .i64 0), (.int .i64 0), (.int .i64 0)]) zeroT_42 rfl) ?_
            intro b_9695 _
            refine WL.eff0 rfl rfl (e_store (vs := [(.int .i64 (((nth c_5056 v_9659).fBurst).fN)), (.int .i64 (((nth c_5056 v_9659).fBurst).fD)), (.int .i64 (((nth c_5056 v_9659).fRate).fN)), (.int .i64 (((nth c_5056 v_9659).fRate).fD))]) (ds := [(.int .i64 (((nth c_5056 v_9659).fBurst).fN)), (.int .i64 (((nth c_5056 v_9659).fBurst).fD)), (.int .i64 (((nth c_5056 v_9659).fRate).fN)), (.int .i64 (((nth c_5056 v_9659).fRate).fD))]) sizT_42 rfl rfl rfl rfl (oc_cons rfl (oc_cons rfl (oc_cons rfl (oc_cons rfl oc_nil)))) .here (Nat.le_of_ble_eq_true rfl) rfl) ?_
            refine WL.nil ?_
            refine WX.then ?_
            refine WC.seq ?_
            obtain ⟨x_9696, hx_9697, h⟩ := bind_elim h
            refine WC.region ?_
            refine WL.quiet (d := 20) rfl rfl rfl (q_move rfl) ?_
            refine WL.quiet (d := 21) rfl rfl rfl (q_loadA (cs := [(.int .i64 (((nth c_5050 v_9238).fBurst).fN)), (.int .i64 (((nth c_5050 v_9238).fBurst).fD)), (.int .i64 (((nth c_5050 v_9238).fRate).fN)), (.int .i64 (((nth c_5050 v_9238).fRate).fD))]) aggT_42 rfl rfl (rd_all (.there .here))) ?_
            refine WL.quiet (d := 22) rfl rfl rfl (q_loadA (cs := [(.int .i64 (((nth c_5056 v_9659).fBurst).fN)), (.int .i64 (((nth c_5056 v_9659).fBurst).fD)), (.int .i64 (((nth c_5056 v_9659).fRate).fN)), (.int .i64 (((nth c_5056 v_9659).fRate).fD))]) aggT_42 rfl rfl (rd_all .here)) ?_
            refine WL.yield (dd := 23) (x := ((⟨(⟨(((nth c_5050 v_9238).fBurst).fN), (((nth c_5050 v_9238).fBurst).fD)⟩ : Sapi_Rat), (⟨(((nth c_5050 v_9238).fRate).fN), (((nth c_5050 v_9238).fRate).fD)⟩ : Sapi_Rat)⟩ : Sapi_Bucket), (⟨(⟨(((nth c_5056 v_9659).fBurst).fN), (((nth c_5056 v_9659).fBurst).fD)⟩ : Sapi_Rat), (⟨(((nth c_5056 v_9659).fRate).fN), (((nth c_5056 v_9659).fRate).fD)⟩ : Sapi_Rat)⟩ : Sapi_Bucket))) (h := ()) (g := g_9661) (s := s_9660) (b := x_9696.1) (s' := x_9696.2) hY_5046 rfl rfl rfl (.cons rfl (.cons rfl .nil)) ((.cons (.there (.there .here)) .nil) : Sel _ [J_5043 g_9661 s_9660] _) hx_9697 hphi_9662 (fun w hw => hz.call hw ((.cons (.there (.there .here)) .nil) : Sel _ [J_5043 g_9661 s_9660] _)) ?_
            intro g_9700 hphi_9701
            refine WL.quiet (d := 24) rfl rfl rfl (q_not rfl) ?_
            refine WL.nil ?_
            refine WX.then ?_
            refine WC.cond rfl (fun hb_9702 => ?_) (fun hb_9702 => ?_)
            · replace h := ite_t h hb_9702
              refine WC.ret ?_
              refine WX.blockRet ?_
              refine WX.thenRet ?_
              refine WX.thenRet ?_
              refine WX.blockRet ?_
              refine WX.thenRet ?_
              refine WX.blockRet ?_
              refine WX.thenRet ?_
              refine WX.thenRet ?_
              refine WX.blockRet ?_
              refine WX.thenRet ?_
              obtain rfl := Option.some.inj h
              refine WX.bpRet Try.results73 .nil (fun w hw => ?_)
              exact ⟨g_9700, ret0, hphi_9701, hw.sub (.cons .here .nil)⟩
            · replace h := ite_f h hb_9702
              refine WC.skip ?_
              refine WX.blockNormal ?_
              refine WX.then ?_
              refine WC.region ?_
              refine WL.quiet (d := 25) rfl rfl rfl (q_add rfl rfl rfl) ?_
              refine WL.quiet (d := 16) rfl rfl rfl (q_move rfl) ?_
              refine WL.nil ?_
              exact WX.round (G := Nat × Int × Sg_5038 × Gg_5042) ⟨n_9664, (i64 (v_9659 + 1)), x_9696.2, g_9700⟩ ⟨h, hphi_9701⟩ (Nat.lt_succ_self _) (.cons rfl (.cons rfl (.cons rfl (.cons rfl (.cons rfl (.cons rfl (.cons rfl (.cons rfl (.cons rfl .nil))))))))) (.cons (.there (.there .here)) (.cons .here .nil))
          · replace h := ite_f h hb_9666
            refine WC.exit ?_
            refine WX.thenExit ?_
            refine WX.thenExit ?_
            refine WX.blockHit ?_
            exact WX.mid (G := Sg_5038 × Gg_5042) ⟨s_9660, g_9661⟩ ⟨h, hphi_9662⟩ (.cons rfl (.cons rfl (.cons rfl (.cons rfl (.cons rfl .nil))))) (.cons (.there .here) .nil)
        · rintro s_9612 g_9613 ⟨h, hphi_9614⟩
          replace h := (hk_9616 s_9612).symm.trans h
          refine WX.blockNormal ?_
          exact WX.mid (G := Sg_5038 × Gg_5042) ⟨s_9612, g_9613⟩ ⟨h, hphi_9614⟩ (.cons rfl (.cons rfl (.cons rfl (.cons rfl (.cons rfl .nil))))) (.cons .here .nil)
      · rintro s_9472 g_9473 ⟨h, hphi_9474⟩
        replace h := (hk_9476 s_9472).symm.trans h
        refine WC.region ?_
        refine WL.quiet (d := 26) rfl rfl rfl (q_add rfl rfl rfl) ?_
        refine WL.quiet (d := 10) rfl rfl rfl (q_move rfl) ?_
        refine WL.nil ?_
        exact WX.round (G := Nat × Int × Sg_5038 × Gg_5042) ⟨n_9243, (i64 (v_9238 + 1)), s_9472, g_9473⟩ ⟨h, hphi_9474⟩ (Nat.lt_succ_self _) (.cons rfl (.cons rfl (.cons rfl (.cons rfl (.cons rfl .nil))))) (.cons .here .nil)
    · replace h := ite_f h hb_9245
      refine WC.exit ?_
      refine WX.thenExit ?_
      refine WX.thenExit ?_
      refine WX.blockHit ?_
      exact WX.mid (G := Sg_5038 × Gg_5042) ⟨s_9239, g_9240⟩ ⟨h, hphi_9241⟩ .nil (.cons .here .nil)
  · rintro s_8770 g_8771 ⟨h, hphi_8772⟩
    replace h := (hk_8774 s_8770).symm.trans h
    obtain rfl := Option.some.inj h
    refine WX.bpNormal Try.results73 .nil (fun w hw => ?_)
    exact ⟨g_8771, ret0, hphi_8772, hw.sub (.cons .here .nil)⟩
/-- rat.do$4 -/
def m_rat_do_4 (c_9769 : Sapi_Rat) (c_9772 : Sapi_Rat) : Option (Int × Int) :=
  some ((i64 (c_9769.fN * c_9772.fD)), (i64 (c_9769.fD * c_9772.fN)))

set_option maxRecDepth 20000 in
theorem w_rat_do_4 (Z : Zp)  (A_9767 : Addr) (A_9770 : Addr) (c_9769 : Sapi_Rat) (c_9772 : Sapi_Rat) (r : Int × Int) (w₀ : World) (hz : PZ [] w₀ Z)
    (hA_9768 : ZC Z A_9767 [(.int .i64 c_9769.fN), (.int .i64 c_9769.fD)])
    (hA_9771 : ZC Z A_9770 [(.int .i64 c_9772.fN), (.int .i64 c_9772.fD)])
    (h : m_rat_do_4 c_9769 c_9772 = some r) :
    Calls Try.prog 67 #[(.pointer (some A_9767)), (.pointer (some A_9770))] w₀ fun e w' => e = .returned (.tuple #[(.int .i64 r.1), (.int .i64 r.2)]) ∧ Hp [] w₀ w' [] := by
  unfold m_rat_do_4 at h
  refine Calls.ofWC (vs := [(.pointer (some A_9767)), (.pointer (some A_9770))]) (pre := []) (env := [(0, (.pointer (some A_9767))), (1, (.pointer (some A_9770)))]) Try.func67 rfl Try.ntmps67 rfl (Hp.nil w₀ _) rfl ?_
  refine WC.seq ?_
  refine WC.region ?_
  refine WL.quiet (d := 2) rfl rfl rfl (q_assign rfl) ?_
  refine WL.quiet (d := 3) rfl rfl rfl (q_assign rfl) ?_
  refine WL.nil ?_
  refine WX.then ?_
  refine WC.seq ?_
  refine WC.draw (fun i => [].contains i) [] rfl ?_
  refine WD.pure (i := 0) (d := 4) (by kernel_rfl) rfl (readyF_of (by kernel_rfl)) (freeF_of (by kernel_rfl)) rfl rfl rfl (fun _ => q_fieldAddr fo_28_0 rfl rfl) ?_
  refine WD.quiet (i := 1) (d := 5) (by kernel_rfl) rfl (readyF_of (by kernel_rfl)) (freeF_of (by kernel_rfl)) rfl rfl rfl (q_load1 oneT_3 rfl (rd_zAt hz.pv hA_9768 rfl)) ?_
  refine WD.pure (i := 2) (d := 6) (by kernel_rfl) rfl (readyF_of (by kernel_rfl)) (freeF_of (by kernel_rfl)) rfl rfl rfl (fun _ => q_fieldAddr fo_28_1 rfl rfl) ?_
  refine WD.quiet (i := 3) (d := 7) (by kernel_rfl) rfl (readyF_of (by kernel_rfl)) (freeF_of (by kernel_rfl)) rfl rfl rfl (q_load1 oneT_3 rfl (rd_zAt hz.pv hA_9771 rfl)) ?_
  refine WD.pure (i := 4) (d := 8) (by kernel_rfl) rfl (readyF_of (by kernel_rfl)) (freeF_of (by kernel_rfl)) rfl rfl rfl (fun _ => q_mul rfl rfl rfl) ?_
  refine WD.pure (i := 5) (d := 9) (by kernel_rfl) rfl (readyF_of (by kernel_rfl)) (freeF_of (by kernel_rfl)) rfl rfl rfl (fun _ => q_fieldAddr fo_28_1 rfl rfl) ?_
  refine WD.quiet (i := 6) (d := 10) (by kernel_rfl) rfl (readyF_of (by kernel_rfl)) (freeF_of (by kernel_rfl)) rfl rfl rfl (q_load1 oneT_3 rfl (rd_zAt hz.pv hA_9768 rfl)) ?_
  refine WD.pure (i := 7) (d := 11) (by kernel_rfl) rfl (readyF_of (by kernel_rfl)) (freeF_of (by kernel_rfl)) rfl rfl rfl (fun _ => q_fieldAddr fo_28_0 rfl rfl) ?_
  refine WD.quiet (i := 8) (d := 12) (by kernel_rfl) rfl (readyF_of (by kernel_rfl)) (freeF_of (by kernel_rfl)) rfl rfl rfl (q_load1 oneT_3 rfl (rd_zAt hz.pv hA_9771 rfl)) ?_
  refine WD.pure (i := 9) (d := 13) (by kernel_rfl) rfl (readyF_of (by kernel_rfl)) (freeF_of (by kernel_rfl)) rfl rfl rfl (fun _ => q_mul rfl rfl rfl) ?_
  refine WD.pure (i := 10) (d := 2) (by kernel_rfl) rfl (readyF_of (by kernel_rfl)) (freeF_of (by kernel_rfl)) rfl rfl rfl (fun _ => q_assign rfl) ?_
  refine WD.pure (i := 11) (d := 3) (by kernel_rfl) rfl (readyF_of (by kernel_rfl)) (freeF_of (by kernel_rfl)) rfl rfl rfl (fun _ => q_assign rfl) ?_
  refine WD.done (by kernel_rfl) ?_
  refine WX.then ?_
  refine WC.ret ?_
  obtain rfl := Option.some.inj h
  refine WX.bpRet Try.results67 (.tmp rfl (.tmp rfl .nil)) (fun w hw => ?_)
  exact ⟨ret2 rfl rfl, hw.sub .nil⟩
/-- rat.do -/
def m_rat_dod (x_9731 : Sapi_Rat) (y_9732 : Sapi_Rat) : Option (Sapi_Rat × Int) :=
  (m_rat_Valid x_9731).bind fun x_9800 => (if !x_9800 then some true else (m_rat_Valid y_9732).bind fun x_9802 => some (!x_9802)).bind fun b_9804 => if b_9804 || (decide (y_9732.fN = 0)) then some ((⟨0, 0⟩ : Sapi_Rat), 2) else (m_rat_do_4 x_9731 y_9732).bind fun x_9815 => (m_rat_Make x_9815.1 x_9815.2).bind fun x_9817 => some (x_9817.1, x_9817.2)

set_option maxRecDepth 20000 in
theorem w_rat_dod (Z : Zp)   (x_9731 : Sapi_Rat) (y_9732 : Sapi_Rat) (r : Sapi_Rat × Int) (w₀ : World) (hz : PZ [] w₀ Z)
    (h : m_rat_dod x_9731 y_9732 = some r) :
    Calls Try.prog 39 #[(.string ⟨#[47]⟩), (.agg #[(.int .i64 x_9731.fN), (.int .i64 x_9731.fD)]), (.agg #[(.int .i64 y_9732.fN), (.int .i64 y_9732.fD)])] w₀ fun e w' => e = .returned (.tuple #[(.agg #[(.int .i64 r.1.fN), (.int .i64 r.1.fD)]), (.int .i64 r.2)]) ∧ Hp [] w₀ w' [] := by
  unfold m_rat_dod at h
  refine Calls.ofWC (vs := [(.string ⟨#[47]⟩), (.agg #[(.int .i64 x_9731.fN), (.int .i64 x_9731.fD)]), (.agg #[(.int .i64 y_9732.fN), (.int .i64 y_9732.fD)])]) (pre := []) (env := [(0, (.string ⟨#[47]⟩)), (1, (.agg #[(.int .i64 x_9731.fN), (.int .i64 x_9731.fD)])), (2, (.agg #[(.int .i64 y_9732.fN), (.int .i64 y_9732.fD)]))]) Try.func39 rfl Try.ntmps39 rfl (Hp.nil w₀ _) rfl ?_
  refine WC.seq ?_
  refine WC.region ?_
  refine WL.new (dd := 4) rfl rfl rfl (e_box (cs := [(.int .i64 x_9731.fN), (.int .i64 x_9731.fD)]) rfl rfl) ?_
  intro b_9784 _
  refine WL.new (dd := 5) rfl rfl rfl (e_box (cs := [(.int .i64 y_9732.fN), (.int .i64 y_9732.fD)]) rfl rfl) ?_
  intro b_9785 _
  refine WL.new (dd := 6) rfl rfl rfl (e_alloc (cs := [(.int .i64 0), (.int .i64 0)]) zeroT_28 rfl) ?_
  intro b_9786 _
  refine WL.quiet (d := 7) rfl rfl rfl (q_assign rfl) ?_
  refine WL.nil ?_
  refine WX.then ?_
  refine WC.seq ?_
  refine WC.seq ?_
  obtain ⟨x_9800, hx_9801, h⟩ := bind_elim h
  obtain ⟨b_9804, hb_9805, h⟩ := bind_elim h
  refine WC.region ?_
  refine WL.quiet (d := 9) rfl rfl rfl (q_loadA (cs := [(.int .i64 x_9731.fN), (.int .i64 x_9731.fD)]) aggT_28 rfl rfl (rd_all (.there (.there .here)))) ?_
  refine WL.callD (dd := 10) rfl rfl rfl (run_call (l := [.tmp 9]) Try.call42 (.cons rfl .nil)) (.nil : Sel [stb b_9786 28 [(.int .i64 0), (.int .i64 0)], stb b_9785 28 [(.int .i64 y_9732.fN), (.int .i64 y_9732.fD)], stb b_9784 28 [(.int .i64 x_9731.fN), (.int .i64 x_9731.fD)]] [] [stb b_9786 28 [(.int .i64 0), (.int .i64 0)], stb b_9785 28 [(.int .i64 y_9732.fN), (.int .i64 y_9732.fD)], stb b_9784 28 [(.int .i64 x_9731.fN), (.int .i64 x_9731.fD)]]) (fun w hw => by have pz := (hz.call hw (.nil : Sel [stb b_9786 28 [(.int .i64 0), (.int .i64 0)], stb b_9785 28 [(.int .i64 y_9732.fN), (.int .i64 y_9732.fD)], stb b_9784 28 [(.int .i64 x_9731.fN), (.int .i64 x_9731.fD)]] [] [stb b_9786 28 [(.int .i64 0), (.int .i64 0)], stb b_9785 28 [(.int .i64 y_9732.fN), (.int .i64 y_9732.fD)], stb b_9784 28 [(.int .i64 x_9731.fN), (.int .i64 x_9731.fD)]])); exact w_rat_Valid (Z := _)  (x_1018 := x_9731) (r := x_9800) w pz  hx_9801) ?_
  refine WL.quiet (d := 11) rfl rfl rfl (q_not rfl) ?_
  refine WL.quiet (d := 12) rfl rfl rfl (q_move rfl) ?_
  refine WL.cut0 True [(0, (.string ⟨#[47]⟩)), (4, (.pointer (some ⟨b_9784, 0, none⟩))), (5, (.pointer (some ⟨b_9785, 0, none⟩))), (6, (.pointer (some ⟨b_9786, 0, none⟩))), (16, (.bool b_9804))] [stb b_9786 28 [(.int .i64 0), (.int .i64 0)], stb b_9785 28 [(.int .i64 y_9732.fN), (.int .i64 y_9732.fD)], stb b_9784 28 [(.int .i64 x_9731.fN), (.int .i64 x_9731.fD)]] 4 ?_ (fun _ => ?_)
  · rcases Bool.eq_false_or_eq_true (!x_9800) with hb' | hb'
    · have hg_9806 := hb'; clear hb'
      have hq_9807 := ite_t hb_9805 hg_9806
      replace hq_9807 := Option.some.inj hq_9807
      refine WL.pin (i := 12) rfl hg_9806 ?_
      refine WL.skip rfl rfl rfl ?_
      refine WL.skip rfl rfl rfl ?_
      refine WL.skip rfl rfl rfl ?_
      refine WL.quiet (d := 16) rfl rfl rfl (q_pickT rfl rfl) ?_
      exact WL.cutEnd () trivial (.cons rfl (.cons rfl (.cons rfl (.cons rfl (.cons (some_bool hq_9807) .nil))))) (.cons .here (.cons .here (.cons .here .nil)))
    · have hg_9808 := hb'; clear hb'
      have hq_9809 := ite_f hb_9805 hg_9808
      obtain ⟨x_9802, hx_9803, hq_9809⟩ := bind_elim hq_9809
      replace hq_9809 := Option.some.inj hq_9809
      refine WL.pin (i := 12) rfl hg_9808 ?_
      refine WL.quiet (d := 13) rfl rfl rfl (q_loadA (cs := [(.int .i64 y_9732.fN), (.int .i64 y_9732.fD)]) aggT_28 rfl rfl (rd_all (.there .here))) ?_
      refine WL.callD (dd := 14) rfl rfl rfl (run_call (l := [.tmp 13]) Try.call42 (.cons rfl .nil)) (.nil : Sel [stb b_9786 28 [(.int .i64 0), (.int .i64 0)], stb b_9785 28 [(.int .i64 y_9732.fN), (.int .i64 y_9732.fD)], stb b_9784 28 [(.int .i64 x_9731.fN), (.int .i64 x_9731.fD)]] [] [stb b_9786 28 [(.int .i64 0), (.int .i64 0)], stb b_9785 28 [(.int .i64 y_9732.fN), (.int .i64 y_9732.fD)], stb b_9784 28 [(.int .i64 x_9731.fN), (.int .i64 x_9731.fD)]]) (fun w hw => by have pz := (hz.call hw (.nil : Sel [stb b_9786 28 [(.int .i64 0), (.int .i64 0)], stb b_9785 28 [(.int .i64 y_9732.fN), (.int .i64 y_9732.fD)], stb b_9784 28 [(.int .i64 x_9731.fN), (.int .i64 x_9731.fD)]] [] [stb b_9786 28 [(.int .i64 0), (.int .i64 0)], stb b_9785 28 [(.int .i64 y_9732.fN), (.int .i64 y_9732.fD)], stb b_9784 28 [(.int .i64 x_9731.fN), (.int .i64 x_9731.fD)]])); exact w_rat_Valid (Z := _)  (x_1018 := y_9732) (r := x_9802) w pz  hx_9803) ?_
      refine WL.quiet (d := 15) rfl rfl rfl (q_not rfl) ?_
      refine WL.quiet (d := 16) rfl rfl rfl (q_pickF rfl rfl) ?_
      exact WL.cutEnd () trivial (.cons rfl (.cons rfl (.cons rfl (.cons rfl (.cons (some_bool hq_9809) .nil))))) (.cons .here (.cons .here (.cons .here .nil)))
  · skip
    refine WL.quiet (d := 17) rfl rfl rfl (q_move rfl) ?_
    refine WL.cut0 True [(0, (.string ⟨#[47]⟩)), (4, (.pointer (some ⟨b_9784, 0, none⟩))), (5, (.pointer (some ⟨b_9785, 0, none⟩))), (6, (.pointer (some ⟨b_9786, 0, none⟩))), (25, (.bool (b_9804 || (decide (y_9732.fN = 0)))))] [stb b_9786 28 [(.int .i64 0), (.int .i64 0)], stb b_9785 28 [(.int .i64 y_9732.fN), (.int .i64 y_9732.fD)], stb b_9784 28 [(.int .i64 x_9731.fN), (.int .i64 x_9731.fD)]] 8 ?_ (fun _ => ?_)
    · rcases Bool.eq_false_or_eq_true b_9804 with hb' | hb'
      · have hg_9810 := hb'; clear hb'
        refine WL.pin (i := 17) rfl hg_9810 ?_
        refine WL.skip rfl rfl rfl ?_
        refine WL.skip rfl rfl rfl ?_
        refine WL.skip rfl rfl rfl ?_
        refine WL.skip rfl rfl rfl ?_
        refine WL.skip rfl rfl rfl ?_
        refine WL.skip rfl rfl rfl ?_
        refine WL.skip rfl rfl rfl ?_
        refine WL.quiet (d := 25) rfl rfl rfl (q_pickT rfl rfl) ?_
        exact WL.cutEnd () trivial (.cons rfl (.cons rfl (.cons rfl (.cons rfl (.cons (some_bool (or_l hg_9810)) .nil))))) (.cons .here (.cons .here (.cons .here .nil)))
      · have hg_9811 := hb'; clear hb'
        refine WL.pin (i := 17) rfl hg_9811 ?_
        refine WL.quiet (d := 18) rfl rfl rfl (q_move rfl) ?_
        refine WL.quiet (d := 19) rfl rfl rfl (q_seqlC (r := true) (by decide) rfl rfl) ?_
        refine WL.quiet (d := 20) rfl rfl rfl (q_move rfl) ?_
        refine WL.quiet (d := 21) rfl rfl rfl (q_fieldAddr fo_28_0 rfl rfl) ?_
        refine WL.quiet (d := 22) rfl rfl rfl (q_load1 oneT_3 rfl (rd_stb (.there .here) rfl)) ?_
        refine WL.quiet (d := 23) rfl rfl rfl (q_eql rfl rfl) ?_
        refine WL.quiet (d := 24) rfl rfl rfl (q_pickT rfl rfl) ?_
        refine WL.quiet (d := 25) rfl rfl rfl (q_pickF rfl rfl) ?_
        exact WL.cutEnd () trivial (.cons rfl (.cons rfl (.cons rfl (.cons rfl (.cons (some_bool (or_r hg_9811)) .nil))))) (.cons .here (.cons .here (.cons .here .nil)))
    · skip
      refine WL.nil ?_
      refine WX.then ?_
      refine WC.cond rfl (fun hb_9812 => ?_) (fun hb_9812 => ?_)
      · replace h := ite_t h hb_9812
        refine WC.seq ?_
        refine WC.region ?_
        refine WL.quiet (d := 26) rfl rfl rfl (q_build (v := (.agg #[(.int .i64 0), (.int .i64 0)])) (Eos.parts (l := []) .nil []) (fun _ => by kernel_rfl)) ?_
        refine WL.eff0 rfl rfl (e_store (vs := [(.int .i64 0), (.int .i64 0)]) (ds := [(.int .i64 0), (.int .i64 0)]) sizT_28 rfl rfl rfl rfl (oc_cons rfl (oc_cons rfl oc_nil)) .here (Nat.le_of_ble_eq_true rfl) rfl) ?_
        refine WL.quiet (d := 7) rfl rfl rfl (q_assign rfl) ?_
        refine WL.nil ?_
        refine WX.then ?_
        refine WC.ret ?_
        refine WX.thenRet ?_
        obtain rfl := Option.some.inj h
        refine WX.bpRet Try.results39 (.agg rfl aggT_28 rfl (rd_all .here) (.tmp rfl .nil)) (fun w hw => ?_)
        exact ⟨ret2 rfl rfl, hw.sub .nil⟩
      · replace h := ite_f h hb_9812
        refine WC.skip ?_
        refine WX.then ?_
        refine WC.seq ?_
        refine WC.region ?_
        refine WL.new (dd := 27) rfl rfl rfl (e_makeMap Value.string (fun x => x)) ?_
        intro b_9814 _
        refine WL.quiet (d := 28) rfl rfl rfl (q_makeFunc (Eos.caps (l := [.tmp 4, .tmp 5]) (.cons rfl (.cons rfl .nil)))) ?_
        refine WL.eff0 rfl rfl (e_insert (k := ⟨#[43]⟩) (v := (.func (.func 64) #[] #[(.pointer (some ⟨b_9784, 0, none⟩)), (.pointer (some ⟨b_9785, 0, none⟩))])) keyT_9 Try.underlying94 rfl rfl rfl rfl .here) ?_
        refine WL.quiet (d := 29) rfl rfl rfl (q_makeFunc (Eos.caps (l := [.tmp 4, .tmp 5]) (.cons rfl (.cons rfl .nil)))) ?_
        refine WL.eff0 rfl rfl (e_insert (k := ⟨#[45]⟩) (v := (.func (.func 65) #[] #[(.pointer (some ⟨b_9784, 0, none⟩)), (.pointer (some ⟨b_9785, 0, none⟩))])) keyT_9 Try.underlying94 rfl rfl rfl rfl .here) ?_
        refine WL.quiet (d := 30) rfl rfl rfl (q_makeFunc (Eos.caps (l := [.tmp 4, .tmp 5]) (.cons rfl (.cons rfl .nil)))) ?_
        refine WL.eff0 rfl rfl (e_insert (k := ⟨#[42]⟩) (v := (.func (.func 66) #[] #[(.pointer (some ⟨b_9784, 0, none⟩)), (.pointer (some ⟨b_9785, 0, none⟩))])) keyT_9 Try.underlying94 rfl rfl rfl rfl .here) ?_
        refine WL.quiet (d := 31) rfl rfl rfl (q_makeFunc (Eos.caps (l := [.tmp 4, .tmp 5]) (.cons rfl (.cons rfl .nil)))) ?_
        refine WL.eff0 rfl rfl (e_insert (k := ⟨#[47]⟩) (v := (.func (.func 67) #[] #[(.pointer (some ⟨b_9784, 0, none⟩)), (.pointer (some ⟨b_9785, 0, none⟩))])) keyT_9 Try.underlying94 rfl rfl rfl rfl .here) ?_
        refine WL.quiet (d := 32) rfl rfl rfl (q_move rfl) ?_
        refine WL.quiet (d := 8) rfl rfl rfl (q_assign rfl) ?_
        refine WL.nil ?_
        refine WX.then ?_
        refine WC.seq ?_
        obtain ⟨x_9815, hx_9816, h⟩ := bind_elim h
        obtain ⟨x_9817, hx_9818, h⟩ := bind_elim h
        refine WC.region ?_
        refine WL.quiet (d := 33) rfl rfl rfl (q_move rfl) ?_
        refine WL.quiet (d := 34) rfl rfl rfl (q_move rfl) ?_
        refine WL.quiet (d := 35) rfl rfl rfl (q_lookC (k := ⟨#[47]⟩) (dflt := .nilFunc) (r := (.func (.func 67) #[] #[(.pointer (some ⟨b_9784, 0, none⟩)), (.pointer (some ⟨b_9785, 0, none⟩))])) keyT_9 Try.underlying94 zeroT_93 rfl rfl rfl .here (by rfl)) ?_
        refine WL.callD (dd := 36) rfl rfl rfl (run_callv (l := []) Try.call67 rfl .nil) (.nil : Sel [mapA b_9814 Value.string (fun x => x) [(⟨#[43]⟩, (.func (.func 64) #[] #[(.pointer (some ⟨b_9784, 0, none⟩)), (.pointer (some ⟨b_9785, 0, none⟩))])), (⟨#[45]⟩, (.func (.func 65) #[] #[(.pointer (some ⟨b_9784, 0, none⟩)), (.pointer (some ⟨b_9785, 0, none⟩))])), (⟨#[42]⟩, (.func (.func 66) #[] #[(.pointer (some ⟨b_9784, 0, none⟩)), (.pointer (some ⟨b_9785, 0, none⟩))])), (⟨#[47]⟩, (.func (.func 67) #[] #[(.pointer (some ⟨b_9784, 0, none⟩)), (.pointer (some ⟨b_9785, 0, none⟩))]))], stb b_9786 28 [(.int .i64 0), (.int .i64 0)], stb b_9785 28 [(.int .i64 y_9732.fN), (.int .i64 y_9732.fD)], stb b_9784 28 [(.int .i64 x_9731.fN), (.int .i64 x_9731.fD)]] [] [mapA b_9814 Value.string (fun x => x) [(⟨#[43]⟩, (.func (.func 64) #[] #[(.pointer (some ⟨b_9784, 0, none⟩)), (.pointer (some ⟨b_9785, 0, none⟩))])), (⟨#[45]⟩, (.func (.func 65) #[] #[(.pointer (some ⟨b_9784, 0, none⟩)), (.pointer (some ⟨b_9785, 0, none⟩))])), (⟨#[42]⟩, (.func (.func 66) #[] #[(.pointer (some ⟨b_9784, 0, none⟩)), (.pointer (some ⟨b_9785, 0, none⟩))])), (⟨#[47]⟩, (.func (.func 67) #[] #[(.pointer (some ⟨b_9784, 0, none⟩)), (.pointer (some ⟨b_9785, 0, none⟩))]))], stb b_9786 28 [(.int .i64 0), (.int .i64 0)], stb b_9785 28 [(.int .i64 y_9732.fN), (.int .i64 y_9732.fD)], stb b_9784 28 [(.int .i64 x_9731.fN), (.int .i64 x_9731.fD)]]) (fun w hw => by have pz := (hz.call hw (.nil : Sel [mapA b_9814 Value.string (fun x => x) [(⟨#[43]⟩, (.func (.func 64) #[] #[(.pointer (some ⟨b_9784, 0, none⟩)), (.pointer (some ⟨b_9785, 0, none⟩))])), (⟨#[45]⟩, (.func (.func 65) #[] #[(.pointer (some ⟨b_9784, 0, none⟩)), (.pointer (some ⟨b_9785, 0, none⟩))])), (⟨#[42]⟩, (.func (.func 66) #[] #[(.pointer (some ⟨b_9784, 0, none⟩)), (.pointer (some ⟨b_9785, 0, none⟩))])), (⟨#[47]⟩, (.func (.func 67) #[] #[(.pointer (some ⟨b_9784, 0, none⟩)), (.pointer (some ⟨b_9785, 0, none⟩))]))], stb b_9786 28 [(.int .i64 0), (.int .i64 0)], stb b_9785 28 [(.int .i64 y_9732.fN), (.int .i64 y_9732.fD)], stb b_9784 28 [(.int .i64 x_9731.fN), (.int .i64 x_9731.fD)]] [] [mapA b_9814 Value.string (fun x => x) [(⟨#[43]⟩, (.func (.func 64) #[] #[(.pointer (some ⟨b_9784, 0, none⟩)), (.pointer (some ⟨b_9785, 0, none⟩))])), (⟨#[45]⟩, (.func (.func 65) #[] #[(.pointer (some ⟨b_9784, 0, none⟩)), (.pointer (some ⟨b_9785, 0, none⟩))])), (⟨#[42]⟩, (.func (.func 66) #[] #[(.pointer (some ⟨b_9784, 0, none⟩)), (.pointer (some ⟨b_9785, 0, none⟩))])), (⟨#[47]⟩, (.func (.func 67) #[] #[(.pointer (some ⟨b_9784, 0, none⟩)), (.pointer (some ⟨b_9785, 0, none⟩))]))], stb b_9786 28 [(.int .i64 0), (.int .i64 0)], stb b_9785 28 [(.int .i64 y_9732.fN), (.int .i64 y_9732.fD)], stb b_9784 28 [(.int .i64 x_9731.fN), (.int .i64 x_9731.fD)]])).lend hw (.nil : Sel [mapA b_9814 Value.string (fun x => x) [(⟨#[43]⟩, (.func (.func 64) #[] #[(.pointer (some ⟨b_9784, 0, none⟩)), (.pointer (some ⟨b_9785, 0, none⟩))])), (⟨#[45]⟩, (.func (.func 65) #[] #[(.pointer (some ⟨b_9784, 0, none⟩)), (.pointer (some ⟨b_9785, 0, none⟩))])), (⟨#[42]⟩, (.func (.func 66) #[] #[(.pointer (some ⟨b_9784, 0, none⟩)), (.pointer (some ⟨b_9785, 0, none⟩))])), (⟨#[47]⟩, (.func (.func 67) #[] #[(.pointer (some ⟨b_9784, 0, none⟩)), (.pointer (some ⟨b_9785, 0, none⟩))]))], stb b_9786 28 [(.int .i64 0), (.int .i64 0)], stb b_9785 28 [(.int .i64 y_9732.fN), (.int .i64 y_9732.fD)], stb b_9784 28 [(.int .i64 x_9731.fN), (.int .i64 x_9731.fD)]] [] [mapA b_9814 Value.string (fun x => x) [(⟨#[43]⟩, (.func (.func 64) #[] #[(.pointer (some ⟨b_9784, 0, none⟩)), (.pointer (some ⟨b_9785, 0, none⟩))])), (⟨#[45]⟩, (.func (.func 65) #[] #[(.pointer (some ⟨b_9784, 0, none⟩)), (.pointer (some ⟨b_9785, 0, none⟩))])), (⟨#[42]⟩, (.func (.func 66) #[] #[(.pointer (some ⟨b_9784, 0, none⟩)), (.pointer (some ⟨b_9785, 0, none⟩))])), (⟨#[47]⟩, (.func (.func 67) #[] #[(.pointer (some ⟨b_9784, 0, none⟩)), (.pointer (some ⟨b_9785, 0, none⟩))]))], stb b_9786 28 [(.int .i64 0), (.int .i64 0)], stb b_9785 28 [(.int .i64 y_9732.fN), (.int .i64 y_9732.fD)], stb b_9784 28 [(.int .i64 x_9731.fN), (.int .i64 x_9731.fD)]]) (B := [stb b_9784 28 [(.int .i64 x_9731.fN), (.int .i64 x_9731.fD)], stb b_9785 28 [(.int .i64 y_9732.fN), (.int .i64 y_9732.fD)]]) (fun _ hx' => ((.cons (.there (.there (.there .here))) (.cons (.there (.there .here)) .nil)) : Sel _ [stb b_9784 28 [(.int .i64 x_9731.fN), (.int .i64 x_9731.fD)], stb b_9785 28 [(.int .i64 y_9732.fN), (.int .i64 y_9732.fD)]] _).mem hx'); exact w_rat_do_4 (Z := _) (A_9767 := ⟨b_9784, 0, none⟩) (A_9770 := ⟨b_9785, 0, none⟩) (c_9769 := x_9731) (c_9772 := y_9732) (r := x_9815) w pz ((hw.lent (.nil : Sel [mapA b_9814 Value.string (fun x => x) [(⟨#[43]⟩, (.func (.func 64) #[] #[(.pointer (some ⟨b_9784, 0, none⟩)), (.pointer (some ⟨b_9785, 0, none⟩))])), (⟨#[45]⟩, (.func (.func 65) #[] #[(.pointer (some ⟨b_9784, 0, none⟩)), (.pointer (some ⟨b_9785, 0, none⟩))])), (⟨#[42]⟩, (.func (.func 66) #[] #[(.pointer (some ⟨b_9784, 0, none⟩)), (.pointer (some ⟨b_9785, 0, none⟩))])), (⟨#[47]⟩, (.func (.func 67) #[] #[(.pointer (some ⟨b_9784, 0, none⟩)), (.pointer (some ⟨b_9785, 0, none⟩))]))], stb b_9786 28 [(.int .i64 0), (.int .i64 0)], stb b_9785 28 [(.int .i64 y_9732.fN), (.int .i64 y_9732.fD)], stb b_9784 28 [(.int .i64 x_9731.fN), (.int .i64 x_9731.fD)]] [] [mapA b_9814 Value.string (fun x => x) [(⟨#[43]⟩, (.func (.func 64) #[] #[(.pointer (some ⟨b_9784, 0, none⟩)), (.pointer (some ⟨b_9785, 0, none⟩))])), (⟨#[45]⟩, (.func (.func 65) #[] #[(.pointer (some ⟨b_9784, 0, none⟩)), (.pointer (some ⟨b_9785, 0, none⟩))])), (⟨#[42]⟩, (.func (.func 66) #[] #[(.pointer (some ⟨b_9784, 0, none⟩)), (.pointer (some ⟨b_9785, 0, none⟩))])), (⟨#[47]⟩, (.func (.func 67) #[] #[(.pointer (some ⟨b_9784, 0, none⟩)), (.pointer (some ⟨b_9785, 0, none⟩))]))], stb b_9786 28 [(.int .i64 0), (.int .i64 0)], stb b_9785 28 [(.int .i64 y_9732.fN), (.int .i64 y_9732.fD)], stb b_9784 28 [(.int .i64 x_9731.fN), (.int .i64 x_9731.fD)]]) (B := [stb b_9784 28 [(.int .i64 x_9731.fN), (.int .i64 x_9731.fD)], stb b_9785 28 [(.int .i64 y_9732.fN), (.int .i64 y_9732.fD)]]) (fun _ hx' => ((.cons (.there (.there (.there .here))) (.cons (.there (.there .here)) .nil)) : Sel _ [stb b_9784 28 [(.int .i64 x_9731.fN), (.int .i64 x_9731.fD)], stb b_9785 28 [(.int .i64 y_9732.fN), (.int .i64 y_9732.fD)]] _).mem hx') (.head _) _).stb) ((hw.lent (.nil : Sel [mapA b_9814 Value.string (fun x => x) [(⟨#[43]⟩, (.func (.func 64) #[] #[(.pointer (some ⟨b_9784, 0, none⟩)), (.pointer (some ⟨b_9785, 0, none⟩))])), (⟨#[45]⟩, (.func (.func 65) #[] #[(.pointer (some ⟨b_9784, 0, none⟩)), (.pointer (some ⟨b_9785, 0, none⟩))])), (⟨#[42]⟩, (.func (.func 66) #[] #[(.pointer (some ⟨b_9784, 0, none⟩)), (.pointer (some ⟨b_9785, 0, none⟩))])), (⟨#[47]⟩, (.func (.func 67) #[] #[(.pointer (some ⟨b_9784, 0, none⟩)), (.pointer (some ⟨b_9785, 0, none⟩))]))], stb b_9786 28 [(.int .i64 0), (.int .i64 0)], stb b_9785 28 [(.int .i64 y_9732.fN), (.int .i64 y_9732.fD)], stb b_9784 28 [(.int .i64 x_9731.fN), (.int .i64 x_9731.fD)]] [] [mapA b_9814 Value.string (fun x => x) [(⟨#[43]⟩, (.func (.func 64) #[] #[(.pointer (some ⟨b_9784, 0, none⟩)), (.pointer (some ⟨b_9785, 0, none⟩))])), (⟨#[45]⟩, (.func (.func 65) #[] #[(.pointer (some ⟨b_9784, 0, none⟩)), (.pointer (some ⟨b_9785, 0, none⟩))])), (⟨#[42]⟩, (.func (.func 66) #[] #[(.pointer (some ⟨b_9784, 0, none⟩)), (.pointer (some ⟨b_9785, 0, none⟩))])), (⟨#[47]⟩, (.func (.func 67) #[] #[(.pointer (some ⟨b_9784, 0, none⟩)), (.pointer (some ⟨b_9785, 0, none⟩))]))], stb b_9786 28 [(.int .i64 0), (.int .i64 0)], stb b_9785 28 [(.int .i64 y_9732.fN), (.int .i64 y_9732.fD)], stb b_9784 28 [(.int .i64 x_9731.fN), (.int .i64 x_9731.fD)]]) (B := [stb b_9784 28 [(.int .i64 x_9731.fN), (.int .i64 x_9731.fD)], stb b_9785 28 [(.int .i64 y_9732.fN), (.int .i64 y_9732.fD)]]) (fun _ hx' => ((.cons (.there (.there (.there .here))) (.cons (.there (.there .here)) .nil)) : Sel _ [stb b_9784 28 [(.int .i64 x_9731.fN), (.int .i64 x_9731.fD)], stb b_9785 28 [(.int .i64 y_9732.fN), (.int .i64 y_9732.fD)]] _).mem hx') (.tail _ (.head _)) _).stb) hx_9816) ?_
        refine WL.quiet (d := 37) rfl rfl rfl (q_extract rfl rfl) ?_
        refine WL.quiet (d := 38) rfl rfl rfl (q_extract rfl rfl) ?_
        refine WL.callD (dd := 39) rfl rfl rfl (run_call (l := [.tmp 37, .tmp 38]) Try.call38 (.cons rfl (.cons rfl .nil))) (.nil : Sel [mapA b_9814 Value.string (fun x => x) [(⟨#[43]⟩, (.func (.func 64) #[] #[(.pointer (some ⟨b_9784, 0, none⟩)), (.pointer (some ⟨b_9785, 0, none⟩))])), (⟨#[45]⟩, (.func (.func 65) #[] #[(.pointer (some ⟨b_9784, 0, none⟩)), (.pointer (some ⟨b_9785, 0, none⟩))])), (⟨#[42]⟩, (.func (.func 66) #[] #[(.pointer (some ⟨b_9784, 0, none⟩)), (.pointer (some ⟨b_9785, 0, none⟩))])), (⟨#[47]⟩, (.func (.func 67) #[] #[(.pointer (some ⟨b_9784, 0, none⟩)), (.pointer (some ⟨b_9785, 0, none⟩))]))], stb b_9786 28 [(.int .i64 0), (.int .i64 0)], stb b_9785 28 [(.int .i64 y_9732.fN), (.int .i64 y_9732.fD)], stb b_9784 28 [(.int .i64 x_9731.fN), (.int .i64 x_9731.fD)]] [] [mapA b_9814 Value.string (fun x => x) [(⟨#[43]⟩, (.func (.func 64) #[] #[(.pointer (some ⟨b_9784, 0, none⟩)), (.pointer (some ⟨b_9785, 0, none⟩))])), (⟨#[45]⟩, (.func (.func 65) #[] #[(.pointer (some ⟨b_9784, 0, none⟩)), (.pointer (some ⟨b_9785, 0, none⟩))])), (⟨#[42]⟩, (.func (.func 66) #[] #[(.pointer (some ⟨b_9784, 0, none⟩)), (.pointer (some ⟨b_9785, 0, none⟩))])), (⟨#[47]⟩, (.func (.func 67) #[] #[(.pointer (some ⟨b_9784, 0, none⟩)), (.pointer (some ⟨b_9785, 0, none⟩))]))], stb b_9786 28 [(.int .i64 0), (.int .i64 0)], stb b_9785 28 [(.int .i64 y_9732.fN), (.int .i64 y_9732.fD)], stb b_9784 28 [(.int .i64 x_9731.fN), (.int .i64 x_9731.fD)]]) (fun w hw => by have pz := (hz.call hw (.nil : Sel [mapA b_9814 Value.string (fun x => x) [(⟨#[43]⟩, (.func (.func 64) #[] #[(.pointer (some ⟨b_9784, 0, none⟩)), (.pointer (some ⟨b_9785, 0, none⟩))])), (⟨#[45]⟩, (.func (.func 65) #[] #[(.pointer (some ⟨b_9784, 0, none⟩)), (.pointer (some ⟨b_9785, 0, none⟩))])), (⟨#[42]⟩, (.func (.func 66) #[] #[(.pointer (some ⟨b_9784, 0, none⟩)), (.pointer (some ⟨b_9785, 0, none⟩))])), (⟨#[47]⟩, (.func (.func 67) #[] #[(.pointer (some ⟨b_9784, 0, none⟩)), (.pointer (some ⟨b_9785, 0, none⟩))]))], stb b_9786 28 [(.int .i64 0), (.int .i64 0)], stb b_9785 28 [(.int .i64 y_9732.fN), (.int .i64 y_9732.fD)], stb b_9784 28 [(.int .i64 x_9731.fN), (.int .i64 x_9731.fD)]] [] [mapA b_9814 Value.string (fun x => x) [(⟨#[43]⟩, (.func (.func 64) #[] #[(.pointer (some ⟨b_9784, 0, none⟩)), (.pointer (some ⟨b_9785, 0, none⟩))])), (⟨#[45]⟩, (.func (.func 65) #[] #[(.pointer (some ⟨b_9784, 0, none⟩)), (.pointer (some ⟨b_9785, 0, none⟩))])), (⟨#[42]⟩, (.func (.func 66) #[] #[(.pointer (some ⟨b_9784, 0, none⟩)), (.pointer (some ⟨b_9785, 0, none⟩))])), (⟨#[47]⟩, (.func (.func 67) #[] #[(.pointer (some ⟨b_9784, 0, none⟩)), (.pointer (some ⟨b_9785, 0, none⟩))]))], stb b_9786 28 [(.int .i64 0), (.int .i64 0)], stb b_9785 28 [(.int .i64 y_9732.fN), (.int .i64 y_9732.fD)], stb b_9784 28 [(.int .i64 x_9731.fN), (.int .i64 x_9731.fD)]])); exact w_rat_Make (Z := _)  (n_22 := x_9815.1) (d_23 := x_9815.2) (r := x_9817) w pz  hx_9818) ?_
        refine WL.quiet (d := 40) rfl rfl rfl (q_extract rfl rfl) ?_
        refine WL.quiet (d := 41) rfl rfl rfl (q_extract rfl rfl) ?_
        refine WL.eff0 rfl rfl (e_store (vs := [(.int .i64 x_9817.1.fN), (.int .i64 x_9817.1.fD)]) (ds := [(.int .i64 x_9817.1.fN), (.int .i64 x_9817.1.fD)]) sizT_28 rfl rfl rfl rfl (oc_cons rfl (oc_cons rfl oc_nil)) (.there .here) (Nat.le_of_ble_eq_true rfl) rfl) ?_
        refine WL.quiet (d := 7) rfl rfl rfl (q_assign rfl) ?_
        refine WL.nil ?_
        refine WX.then ?_
        refine WC.ret ?_
        obtain rfl := Option.some.inj h
        refine WX.bpRet Try.results39 (.agg rfl aggT_28 rfl (rd_all .here) (.tmp rfl .nil)) (fun w hw => ?_)
        exact ⟨ret2 rfl rfl, hw.sub .nil⟩
/-- rat.Div -/
def m_rat_Div (x_9723 : Sapi_Rat) (y_9724 : Sapi_Rat) : Option (Sapi_Rat × Int) :=
  (m_rat_dod x_9723 y_9724).bind fun x_9829 => some (x_9829.1, x_9829.2)

set_option maxRecDepth 20000 in
theorem w_rat_Div (Z : Zp)   (x_9723 : Sapi_Rat) (y_9724 : Sapi_Rat) (r : Sapi_Rat × Int) (w₀ : World) (hz : PZ [] w₀ Z)
    (h : m_rat_Div x_9723 y_9724 = some r) :
    Calls Try.prog 21 #[(.agg #[(.int .i64 x_9723.fN), (.int .i64 x_9723.fD)]), (.agg #[(.int .i64 y_9724.fN), (.int .i64 y_9724.fD)])] w₀ fun e w' => e = .returned (.tuple #[(.agg #[(.int .i64 r.1.fN), (.int .i64 r.1.fD)]), (.int .i64 r.2)]) ∧ Hp [] w₀ w' [] := by
  unfold m_rat_Div at h
  refine Calls.ofWC (vs := [(.agg #[(.int .i64 x_9723.fN), (.int .i64 x_9723.fD)]), (.agg #[(.int .i64 y_9724.fN), (.int .i64 y_9724.fD)])]) (pre := []) (env := [(0, (.agg #[(.int .i64 x_9723.fN), (.int .i64 x_9723.fD)])), (1, (.agg #[(.int .i64 y_9724.fN), (.int .i64 y_9724.fD)]))]) Try.func21 rfl Try.ntmps21 rfl (Hp.nil w₀ _) rfl ?_
  refine WC.seq ?_
  refine WC.region ?_
  refine WL.new (dd := 2) rfl rfl rfl (e_box (cs := [(.int .i64 x_9723.fN), (.int .i64 x_9723.fD)]) rfl rfl) ?_
  intro b_9826 _
  refine WL.new (dd := 3) rfl rfl rfl (e_box (cs := [(.int .i64 y_9724.fN), (.int .i64 y_9724.fD)]) rfl rfl) ?_
  intro b_9827 _
  refine WL.new (dd := 4) rfl rfl rfl (e_alloc (cs := [(.int .i64 0), (.int .i64 0)]) zeroT_28 rfl) ?_
  intro b_9828 _
  refine WL.quiet (d := 5) rfl rfl rfl (q_assign rfl) ?_
  refine WL.nil ?_
  refine WX.then ?_
  refine WC.seq ?_
  obtain ⟨x_9829, hx_9830, h⟩ := bind_elim h
  refine WC.region ?_
  refine WL.quiet (d := 6) rfl rfl rfl (q_loadA (cs := [(.int .i64 x_9723.fN), (.int .i64 x_9723.fD)]) aggT_28 rfl rfl (rd_all (.there (.there .here)))) ?_
  refine WL.quiet (d := 7) rfl rfl rfl (q_loadA (cs := [(.int .i64 y_9724.fN), (.int .i64 y_9724.fD)]) aggT_28 rfl rfl (rd_all (.there .here))) ?_
  refine WL.callD (dd := 8) rfl rfl rfl (run_call (l := [.const (.string ⟨#[47]⟩), .tmp 6, .tmp 7]) Try.call39 (.cons rfl (.cons rfl (.cons rfl .nil)))) (.nil : Sel [stb b_9828 28 [(.int .i64 0), (.int .i64 0)], stb b_9827 28 [(.int .i64 y_9724.fN), (.int .i64 y_9724.fD)], stb b_9826 28 [(.int .i64 x_9723.fN), (.int .i64 x_9723.fD)]] [] [stb b_9828 28 [(.int .i64 0), (.int .i64 0)], stb b_9827 28 [(.int .i64 y_9724.fN), (.int .i64 y_9724.fD)], stb b_9826 28 [(.int .i64 x_9723.fN), (.int .i64 x_9723.fD)]]) (fun w hw => by have pz := (hz.call hw (.nil : Sel [stb b_9828 28 [(.int .i64 0), (.int .i64 0)], stb b_9827 28 [(.int .i64 y_9724.fN), (.int .i64 y_9724.fD)], stb b_9826 28 [(.int .i64 x_9723.fN), (.int .i64 x_9723.fD)]] [] [stb b_9828 28 [(.int .i64 0), (.int .i64 0)], stb b_9827 28 [(.int .i64 y_9724.fN), (.int .i64 y_9724.fD)], stb b_9826 28 [(.int .i64 x_9723.fN), (.int .i64 x_9723.fD)]])); exact w_rat_dod (Z := _)  (x_9731 := x_9723) (y_9732 := y_9724) (r := x_9829) w pz  hx_9830) ?_
  refine WL.quiet (d := 9) rfl rfl rfl (q_extract rfl rfl) ?_
  refine WL.quiet (d := 10) rfl rfl rfl (q_extract rfl rfl) ?_
  refine WL.eff0 rfl rfl (e_store (vs := [(.int .i64 x_9829.1.fN), (.int .i64 x_9829.1.fD)]) (ds := [(.int .i64 x_9829.1.fN), (.int .i64 x_9829.1.fD)]) sizT_28 rfl rfl rfl rfl (oc_cons rfl (oc_cons rfl oc_nil)) .here (Nat.le_of_ble_eq_true rfl) rfl) ?_
  refine WL.quiet (d := 5) rfl rfl rfl (q_assign rfl) ?_
  refine WL.nil ?_
  refine WX.then ?_
  refine WC.ret ?_
  obtain rfl := Option.some.inj h
  refine WX.bpRet Try.results21 (.agg rfl aggT_28 rfl (rd_all .here) (.tmp rfl .nil)) (fun w hw => ?_)
  exact ⟨ret2 rfl rfl, hw.sub .nil⟩
theorem srtA_74 : ∀ w, (isAgg (Try.laysSlF014_f74_ren.t 24)).run Try.prog w = .ok true w := fun _ => by kernel_rfl
theorem srtZ_74 : ∀ w, (Go.sizeOf (Try.laysSlF014_f74_ren.t 24)).run Try.prog w = .ok 2 w := fun _ => by kernel_rfl
/-- slices.pdqsortCmpFunc[api.Rat]: the whole slice, sorted -/
def m_slices_pdqsortCmpFunc_api_Rat (data_10064 : List Sapi_Rat) (a_10067 : Int) (b_10068 : Int) (limit_10069 : Int) (f_10072 : Sapi_Rat → Sapi_Rat → Option Int) : Option (List Sapi_Rat) := chk ((a_10067 = 0 ∧ b_10068 = ((data_10064.length : Nat) : Int)) ∧ (0 ≤ limit_10069 ∧ limit_10069 < 4611686018427387904 ∧ data_10064.length < 4611686018427387904)) (chk (ordB f_10072 (sortBy f_10072 data_10064) = true) (some (sortBy f_10072 data_10064)))
theorem w_slices_pdqsortCmpFunc_api_Rat (Z : Zp) (ao_10065 : Option Addr) (cap_10066 : Nat) (fid_10070 : FuncId) (fcaps_10071 : List Value) (data_10064 : List Sapi_Rat) (a_10067 : Int) (b_10068 : Int) (limit_10069 : Int) (f_10072 : Sapi_Rat → Sapi_Rat → Option Int) (r : List Sapi_Rat) (w₀ : World) (hz : PZ (fps [row (.slice ao_10065 data_10064.length cap_10066) 28 2 (data_10064.flatMap e28)]) w₀ Z)
    (hcf_10073 : ∀ args w, (callFunc fid_10070 args).run Try.prog w = .ok (.enter fid_10070 args) w)
    (hfn_10074 : ∀ w : World, PZ [] w Z → ∀ (x0 : Sapi_Rat) (x1 : Sapi_Rat) (r : Int), f_10072 x0 x1 = some r → Calls Try.prog fid_10070 (([(.agg #[(.int .i64 x0.fN), (.int .i64 x0.fD)]), (.agg #[(.int .i64 x1.fN), (.int .i64 x1.fD)])] : List Value) ++ fcaps_10071).toArray w fun e w' => e = .returned (.int .i64 r) ∧ Hp [] w w' [])
    (h : m_slices_pdqsortCmpFunc_api_Rat data_10064 a_10067 b_10068 limit_10069 f_10072 = some r) (hown : Hp (fps [row (.slice ao_10065 data_10064.length cap_10066) 28 2 (data_10064.flatMap e28)]) w₀ w₀ [row (.slice ao_10065 data_10064.length cap_10066) 28 2 (data_10064.flatMap e28)]) :
    Calls Try.prog 74 #[(.slice ao_10065 data_10064.length cap_10066), (.int .i64 a_10067), (.int .i64 b_10068), (.int .i64 limit_10069), (.func (.func fid_10070) #[] (fcaps_10071).toArray)] w₀ fun e w' => e = .returned (.tuple #[]) ∧ (r.length = data_10064.length) ∧ Hp (fps [row (.slice ao_10065 data_10064.length cap_10066) 28 2 (data_10064.flatMap e28)]) w₀ w' [row (.slice ao_10065 r.length cap_10066) 28 2 (r.flatMap e28)] := by
  obtain ⟨h0, h⟩ := chk_elim h
  obtain ⟨h1, h⟩ := chk_elim h
  have hr := (Option.some.inj h).symm
  exact sort_func (P := Try.prog) (f := 74) (e := 28) (k := 2) (enc := e28) (fun _ => rfl) (by decide) e28_oc (fun β _ enc cf g cb hO blk off cap d0 w0 eg hC R => Try.pdqsortCmpFunc_all_f74 2 srtA_74 srtZ_74 enc cf g cb hO blk off cap d0 w0 eg hC R) (Try.pdqsortCmpFunc_none_f74 (α := Unit)) hz hcf_10073 hfn_10074 h0 h1 hr hown

/-- slices.SortFunc[[]api.Rat,api.Rat] -/
def m_slices_SortFunc_api_Rat_api_Rat (x_10075 : List Sapi_Rat) (f_10080 : Sapi_Rat → Sapi_Rat → Option Int) : Option (List Sapi_Rat) :=
  (m_bits_Len (u64 ((x_10075.length : Nat) : Int))).bind fun x_10091 => (m_slices_pdqsortCmpFunc_api_Rat x_10075 0 ((x_10075.length : Nat) : Int) x_10091 f_10080).bind fun x_10093 => some x_10093

set_option maxRecDepth 20000 in
theorem w_slices_SortFunc_api_Rat_api_Rat (Z : Zp)  (ao_10076 : Option Addr) (cap_10077 : Nat) (fid_10078 : FuncId) (fcaps_10079 : List Value) (x_10075 : List Sapi_Rat) (f_10080 : Sapi_Rat → Sapi_Rat → Option Int) (r : List Sapi_Rat) (w₀ : World) (hz : PZ (fps [row (.slice ao_10076 x_10075.length cap_10077) 28 2 (x_10075.flatMap e28)]) w₀ Z)
    (hcf_10081 : ∀ args w, (callFunc fid_10078 args).run Try.prog w = .ok (.enter fid_10078 args) w)
    (hfn_10082 : ∀ w : World, PZ [] w Z → ∀ (x0 : Sapi_Rat) (x1 : Sapi_Rat) (r : Int), f_10080 x0 x1 = some r → Calls Try.prog fid_10078 (([(.agg #[(.int .i64 x0.fN), (.int .i64 x0.fD)]), (.agg #[(.int .i64 x1.fN), (.int .i64 x1.fD)])] : List Value) ++ fcaps_10079).toArray w fun e w' => e = .returned (.int .i64 r) ∧ Hp [] w w' [])
    (h : m_slices_SortFunc_api_Rat_api_Rat x_10075 f_10080 = some r)
    (hown : Hp (fps [row (.slice ao_10076 x_10075.length cap_10077) 28 2 (x_10075.flatMap e28)]) w₀ w₀ [row (.slice ao_10076 x_10075.length cap_10077) 28 2 (x_10075.flatMap e28)]) :
    Calls Try.prog 48 #[(.slice ao_10076 x_10075.length cap_10077), (.func (.func fid_10078) #[] (fcaps_10079).toArray)] w₀ fun e w' => e = .returned (.tuple #[]) ∧ (r.length = x_10075.length) ∧ Hp (fps [row (.slice ao_10076 x_10075.length cap_10077) 28 2 (x_10075.flatMap e28)]) w₀ w' [row (.slice ao_10076 r.length cap_10077) 28 2 (r.flatMap e28)] := by
  unfold m_slices_SortFunc_api_Rat_api_Rat at h
  refine Calls.ofWC (vs := [(.slice ao_10076 x_10075.length cap_10077), (.func (.func fid_10078) #[] (fcaps_10079).toArray)]) (pre := [row (.slice ao_10076 x_10075.length cap_10077) 28 2 (x_10075.flatMap e28)]) (env := [(0, (.slice ao_10076 x_10075.length cap_10077)), (1, (.func (.func fid_10078) #[] (fcaps_10079).toArray))]) Try.func48 rfl Try.ntmps48 rfl (hown) rfl ?_
  refine WC.seq ?_
  refine WC.region ?_
  refine WL.quiet (d := 5) rfl rfl rfl (q_move rfl) ?_
  refine WL.quiet (d := 6) rfl rfl rfl (q_len Try.underlying44 rfl) ?_
  refine WL.quiet (d := 4) rfl rfl rfl (q_assign rfl) ?_
  refine WL.nil ?_
  refine WX.then ?_
  obtain ⟨x_10091, hx_10092, h⟩ := bind_elim h
  obtain ⟨x_10093, hx_10094, h⟩ := bind_elim h
  refine WC.region ?_
  refine WL.quiet (d := 7) rfl rfl rfl (q_move rfl) ?_
  refine WL.quiet (d := 8) rfl rfl rfl (q_move rfl) ?_
  refine WL.quiet (d := 9) rfl rfl rfl (q_move rfl) ?_
  refine WL.quiet (d := 10) rfl rfl rfl (q_conv Try.underlying3 Try.underlying102 rfl rfl) ?_
  refine WL.callD (dd := 11) rfl rfl rfl (run_call (l := [.tmp 10]) Try.call75 (.cons rfl .nil)) (.nil : Sel [row (.slice ao_10076 x_10075.length cap_10077) 28 2 (x_10075.flatMap e28)] [] [row (.slice ao_10076 x_10075.length cap_10077) 28 2 (x_10075.flatMap e28)]) (fun w hw => by have pz := (hz.call hw (.nil : Sel [row (.slice ao_10076 x_10075.length cap_10077) 28 2 (x_10075.flatMap e28)] [] [row (.slice ao_10076 x_10075.length cap_10077) 28 2 (x_10075.flatMap e28)])); exact w_bits_Len (Z := _)  (x_4498 := (u64 ((x_10075.length : Nat) : Int))) (r := x_10091) w pz  hx_10092) ?_
  refine WL.quiet (d := 12) rfl rfl rfl (q_move rfl) ?_
  refine WL.enter0 (dd := 13) rfl rfl rfl (run_call (l := [.tmp 7, .const (.int .i64 0), .tmp 8, .tmp 11, .tmp 12]) Try.call74 (.cons rfl (.cons rfl (.cons rfl (.cons rfl (.cons rfl .nil)))))) ((.cons .here .nil) : Sel [row (.slice ao_10076 x_10075.length cap_10077) 28 2 (x_10075.flatMap e28)] [row (.slice ao_10076 x_10075.length cap_10077) 28 2 (x_10075.flatMap e28)] []) (fun w hw => by have pz := (hz.call hw ((.cons .here .nil) : Sel [row (.slice ao_10076 x_10075.length cap_10077) 28 2 (x_10075.flatMap e28)] [row (.slice ao_10076 x_10075.length cap_10077) 28 2 (x_10075.flatMap e28)] [])); exact w_slices_pdqsortCmpFunc_api_Rat (Z := _) (ao_10065 := ao_10076) (cap_10066 := cap_10077) (fid_10070 := fid_10078) (fcaps_10071 := fcaps_10079) (data_10064 := x_10075) (a_10067 := 0) (b_10068 := ((x_10075.length : Nat) : Int)) (limit_10069 := x_10091) (f_10072 := f_10080) (r := x_10093) w pz hcf_10081 hfn_10082 hx_10094 (hw.owns ((.cons .here .nil) : Sel [row (.slice ao_10076 x_10075.length cap_10077) 28 2 (x_10075.flatMap e28)] [row (.slice ao_10076 x_10075.length cap_10077) 28 2 (x_10075.flatMap e28)] []))) ?_
  rintro  hf_10096
  refine WL.repin (i := 0) rfl (u := (.slice ao_10076 x_10093.length cap_10077)) (slen hf_10096.symm) ?_
  refine WL.nil ?_
  obtain rfl := Option.some.inj h
  refine WX.bpNormal Try.results48 .nil (fun w hw => ?_)
  exact ⟨ret0, (hf_10096.trans rfl), hw.sub (.cons .here .nil)⟩
def m_slices_Compact_api_Rat_api_Rat_L4 (s_10166 : List Sapi_Rat) (k_13651 : Int) (k_13954 : (List Sapi_Rat) → Int → Option (List Sapi_Rat)) : Nat → (List Sapi_Rat) → Int → Int → Option (List Sapi_Rat)
  | 0, _, _, _ => none
  | n_13994 + 1, s_13989, k_13991, k2_13992 => if decide (k2_13992 < ((s_10166.length - (k_13651 : Int).toNat : Nat) : Int)) then jp2 (fun (s_14008 : List Sapi_Rat) (k_14010 : Int) => m_slices_Compact_api_Rat_api_Rat_L4 s_10166 k_13651 k_13954 n_13994 s_14008 k_14010 (i64 (k2_13992 + 1))) fun k_14011 => chk ((0 : Int) ≤ k2_13992 ∧ k2_13992 < ((s_10166.length - (k_13651 : Int).toNat : Nat) : Int)) (chk ((0 : Int) ≤ (i64 (k2_13992 - 1)) ∧ (i64 (k2_13992 - 1)) < ((s_10166.length - (k_13651 : Int).toNat : Nat) : Int)) (if decide ((⟨((nth s_13989 (k_13651 + k2_13992)).fN), ((nth s_13989 (k_13651 + k2_13992)).fD)⟩ : Sapi_Rat) ≠ (⟨((nth s_13989 (k_13651 + (i64 (k2_13992 - 1)))).fN), ((nth s_13989 (k_13651 + (i64 (k2_13992 - 1)))).fD)⟩ : Sapi_Rat)) then chk ((0 : Int) ≤ k2_13992 ∧ k2_13992 < ((s_10166.length - (k_13651 : Int).toNat : Nat) : Int)) (chk ((0 : Int) ≤ k_13991 ∧ k_13991 < ((s_13989.length : Nat) : Int)) (k_14011 (s_13989.set (k_13991 : Int).toNat (⟨((nth s_13989 (k_13651 + k2_13992)).fN), ((nth s_13989 (k_13651 + k2_13992)).fD)⟩ : Sapi_Rat)) (i64 (k_13991 + 1)))) else k_14011 s_13989 k_13991)) else k_13954 s_13989 k_13991
theorem m_slices_Compact_api_Rat_api_Rat_L4_fuel {n : Nat} {s_10166 : List Sapi_Rat} {k_13651 : Int} {k_13954 : (List Sapi_Rat) → Int → Option (List Sapi_Rat)} {s_13989 : List Sapi_Rat} {k_13991 : Int} {k2_13992 : Int} {r : List Sapi_Rat} (h : m_slices_Compact_api_Rat_api_Rat_L4 s_10166 k_13651 k_13954 n s_13989 k_13991 k2_13992 = some r) : ∃ m, n = m + 1 := by
  cases n with
  | zero => cases h
  | succ m => exact ⟨m, rfl⟩

def m_slices_Compact_api_Rat_api_Rat_L3 (s_10166 : List Sapi_Rat) (k_13262 : Option (List Sapi_Rat)) : Nat → Int → Option (List Sapi_Rat)
  | 0, _ => none
  | n_13653 + 1, k_13651 => if decide (k_13651 < ((s_10166.length : Nat) : Int)) then jp0 (m_slices_Compact_api_Rat_api_Rat_L3 s_10166 k_13262 n_13653 (i64 (k_13651 + 1))) fun k_13846 => chk ((0 : Int) ≤ k_13651 ∧ k_13651 < ((s_10166.length : Nat) : Int)) (chk ((0 : Int) ≤ (i64 (k_13651 - 1)) ∧ (i64 (k_13651 - 1)) < ((s_10166.length : Nat) : Int)) (if decide ((⟨((nth s_10166 k_13651).fN), ((nth s_10166 k_13651).fD)⟩ : Sapi_Rat) = (⟨((nth s_10166 (i64 (k_13651 - 1))).fN), ((nth s_10166 (i64 (k_13651 - 1))).fD)⟩ : Sapi_Rat)) then chk ((0 : Int) ≤ k_13651 ∧ k_13651 < ((s_10166.length : Nat) : Int)) (jp2 (fun (s_13951 : List Sapi_Rat) (k_13953 : Int) => chk ((0 : Int) ≤ k_13953 ∧ k_13953 ≤ ((s_13951.length : Nat) : Int)) (chk ((0 : Int) ≤ k_13953 ∧ k_13953 ≤ (((s_13951.take (k_13953 : Int).toNat ++ List.replicate (s_13951.length - (k_13953 : Int).toNat) ((⟨0, 0⟩ : Sapi_Rat) : Sapi_Rat)).length : Nat) : Int)) (some ((s_13951.take (k_13953 : Int).toNat ++ List.replicate (s_13951.length - (k_13953 : Int).toNat) ((⟨0, 0⟩ : Sapi_Rat) : Sapi_Rat)).take (k_13953 : Int).toNat)))) fun k_13954 => m_slices_Compact_api_Rat_api_Rat_L4 s_10166 k_13651 k_13954 FUEL s_10166 k_13651 1) else k_13846)) else k_13262
theorem m_slices_Compact_api_Rat_api_Rat_L3_fuel {n : Nat} {s_10166 : List Sapi_Rat} {k_13262 : Option (List Sapi_Rat)} {k_13651 : Int} {r : List Sapi_Rat} (h : m_slices_Compact_api_Rat_api_Rat_L3 s_10166 k_13262 n k_13651 = some r) : ∃ m, n = m + 1 := by
  cases n with
  | zero => cases h
  | succ m => exact ⟨m, rfl⟩

/-- slices.Compact[[]api.Rat,api.Rat] -/
def m_slices_Compact_api_Rat_api_Rat (s_10166 : List Sapi_Rat) : Option (List Sapi_Rat) :=
  if decide (((s_10166.length : Nat) : Int) < 2) then some s_10166 else jp0 (some s_10166) fun k_13262 => m_slices_Compact_api_Rat_api_Rat_L3 s_10166 k_13262 FUEL 1

set_option maxRecDepth 20000 in
theorem w_slices_Compact_api_Rat_api_Rat (Z : Zp)  (ao_10167 : Option Addr) (cap_10168 : Nat) (s_10166 : List Sapi_Rat) (r : List Sapi_Rat) (w₀ : World) (hz : PZ (fps [row (.slice ao_10167 s_10166.length cap_10168) 28 2 (s_10166.flatMap e28)]) w₀ Z)
    (h : m_slices_Compact_api_Rat_api_Rat s_10166 = some r)
    (hown : Hp (fps [row (.slice ao_10167 s_10166.length cap_10168) 28 2 (s_10166.flatMap e28)]) w₀ w₀ [row (.slice ao_10167 s_10166.length cap_10168) 28 2 (s_10166.flatMap e28)]) :
    Calls Try.prog 49 #[(.slice ao_10167 s_10166.length cap_10168)] w₀ fun e w' => ∃ ao_12102 : Option Addr, ∃ cap_12103 : Nat, e = .returned (.slice ao_12102 r.length cap_12103) ∧ True ∧ Hp (fps [row (.slice ao_10167 s_10166.length cap_10168) 28 2 (s_10166.flatMap e28)]) w₀ w' [row (.slice ao_12102 r.length cap_12103) 28 2 (r.flatMap e28)] := by
  unfold m_slices_Compact_api_Rat_api_Rat at h
  refine Calls.ofWC (vs := [(.slice ao_10167 s_10166.length cap_10168)]) (pre := [row (.slice ao_10167 s_10166.length cap_10168) 28 2 (s_10166.flatMap e28)]) (env := [(0, (.slice ao_10167 s_10166.length cap_10168))]) Try.func49 rfl Try.ntmps49 rfl (hown) rfl ?_
  refine WC.seq ?_
  refine WC.region ?_
  refine WL.quiet (d := 2) rfl rfl rfl (q_assign rfl) ?_
  refine WL.nil ?_
  refine WX.then ?_
  refine WC.seq ?_
  refine WC.seq ?_
  refine WC.region ?_
  refine WL.quiet (d := 6) rfl rfl rfl (q_move rfl) ?_
  refine WL.quiet (d := 7) rfl rfl rfl (q_len Try.underlying44 rfl) ?_
  refine WL.quiet (d := 8) rfl rfl rfl (q_lss rfl rfl) ?_
  refine WL.nil ?_
  refine WX.then ?_
  refine WC.cond rfl (fun hb_12105 => ?_) (fun hb_12105 => ?_)
  · replace h := ite_t h hb_12105
    refine WC.seq ?_
    refine WC.region ?_
    refine WL.quiet (d := 9) rfl rfl rfl (q_move rfl) ?_
    refine WL.quiet (d := 2) rfl rfl rfl (q_assign rfl) ?_
    refine WL.nil ?_
    refine WX.then ?_
    refine WC.ret ?_
    refine WX.thenRet ?_
    obtain rfl := Option.some.inj h
    refine WX.bpRet Try.results49 (.tmp rfl .nil) (fun w hw => ?_)
    exact ⟨ao_10167, cap_10168, ret1 rfl, trivial, hw.sub (.cons .here .nil)⟩
  · replace h := ite_f h hb_12105
    refine WC.skip ?_
    refine WX.then ?_
    obtain ⟨k_13262, hk_13263, h⟩ := jp0_elim h
    refine WC.seqMid2 (fun (ao_13260 : Option Addr) (cap_13261 : Nat) => (k_13262 = some r)) (fun (ao_13260 : Option Addr) (cap_13261 : Nat) => [(0, (.slice ao_13260 s_10166.length cap_13261))]) (fun (ao_13260 : Option Addr) (cap_13261 : Nat) => [row (.slice ao_13260 s_10166.length cap_13261) 28 2 (s_10166.flatMap e28)]) ?_ ?_
    · skip
      refine WC.seq ?_
      refine WC.region ?_
      refine WL.quiet (d := 3) rfl rfl rfl (q_assign rfl) ?_
      refine WL.nil ?_
      refine WX.then ?_
      refine WC.block ?_
      refine WC.loop4 (fun (n_13652 : Nat) (k_13651 : Int) (ao_13649 : Option Addr) (cap_13650 : Nat) => (m_slices_Compact_api_Rat_api_Rat_L3 s_10166 k_13262 n_13652 k_13651 = some r)) (fun (n_13652 : Nat) (k_13651 : Int) (ao_13649 : Option Addr) (cap_13650 : Nat) => [(0, (.slice ao_13649 s_10166.length cap_13650)), (3, (.int .i64 k_13651))]) (fun (n_13652 : Nat) (k_13651 : Int) (ao_13649 : Option Addr) (cap_13650 : Nat) => [row (.slice ao_13649 s_10166.length cap_13650) 28 2 (s_10166.flatMap e28)]) (fun (n_13652 : Nat) (k_13651 : Int) (ao_13649 : Option Addr) (cap_13650 : Nat) => n_13652) ⟨FUEL, 1, ao_10167, cap_10168⟩ h (.cons rfl (.cons rfl .nil)) (.cons .here .nil) ?_
      rintro n_13652 k_13651 ao_13649 cap_13650 h
      obtain ⟨n_13653, rfl⟩ := m_slices_Compact_api_Rat_api_Rat_L3_fuel h
      rw [m_slices_Compact_api_Rat_api_Rat_L3] at h
      refine WC.seq ?_
      refine WC.seq ?_
      refine WC.region ?_
      refine WL.quiet (d := 10) rfl rfl rfl (q_move rfl) ?_
      refine WL.quiet (d := 11) rfl rfl rfl (q_move rfl) ?_
      refine WL.quiet (d := 12) rfl rfl rfl (q_len Try.underlying44 rfl) ?_
      refine WL.quiet (d := 13) rfl rfl rfl (q_lss rfl rfl) ?_
      refine WL.nil ?_
      refine WX.then ?_
      refine WC.cond rfl (fun hb_13655 => ?_) (fun hb_13655 => ?_)
      · replace h := ite_t h hb_13655
        refine WC.skip ?_
        refine WX.then ?_
        obtain ⟨k_13846, hk_13847, h⟩ := jp0_elim h
        refine WC.seqMid2 (fun (ao_13844 : Option Addr) (cap_13845 : Nat) => (k_13846 = some r)) (fun (ao_13844 : Option Addr) (cap_13845 : Nat) => [(0, (.slice ao_13844 s_10166.length cap_13845)), (3, (.int .i64 k_13651))]) (fun (ao_13844 : Option Addr) (cap_13845 : Nat) => [row (.slice ao_13844 s_10166.length cap_13845) 28 2 (s_10166.flatMap e28)]) ?_ ?_
        · skip
          refine WC.block ?_
          refine WC.seq ?_
          obtain ⟨c_13848, h⟩ := chk_elim h
          obtain ⟨c_13850, h⟩ := chk_elim h
          refine WC.draw (fun i => [].contains i) [] rfl ?_
          refine WD.pure (i := 0) (d := 16) (by kernel_rfl) rfl (readyF_of (by kernel_rfl)) (freeF_of (by kernel_rfl)) rfl rfl rfl (fun _ => q_move rfl) ?_
          refine WD.pure (i := 1) (d := 17) (by kernel_rfl) rfl (readyF_of (by kernel_rfl)) (freeF_of (by kernel_rfl)) rfl rfl rfl (fun _ => q_move rfl) ?_
          refine WD.know (fun w hw => Hp.expose .here hw (by intro hz'; have := c_13848; rw [hz'] at this; omega)) ?_
          rintro ⟨b_13851, rfl⟩
          refine WD.pure (i := 2) (d := 18) (by kernel_rfl) rfl (readyF_of (by kernel_rfl)) (freeF_of (by kernel_rfl)) rfl rfl rfl (fun _ => q_indexAddr elT_44 rfl rfl c_13848.1 c_13848.2 rowAdd) ?_
          refine WD.quiet (i := 3) (d := 19) (by kernel_rfl) rfl (readyF_of (by kernel_rfl)) (freeF_of (by kernel_rfl)) rfl rfl rfl (q_loadA (cs := (e28 (nth s_10166 k_13651))) aggT_28 rfl rfl (rd_rows .here (flat_rd (enc := e28) (l := s_10166) (i := k_13651) (sz := 2) (fun _ => rfl) c_13848.1 c_13848.2))) ?_
          refine WD.pure (i := 4) (d := 20) (by kernel_rfl) rfl (readyF_of (by kernel_rfl)) (freeF_of (by kernel_rfl)) rfl rfl rfl (fun _ => q_move rfl) ?_
          refine WD.pure (i := 5) (d := 21) (by kernel_rfl) rfl (readyF_of (by kernel_rfl)) (freeF_of (by kernel_rfl)) rfl rfl rfl (fun _ => q_move rfl) ?_
          refine WD.pure (i := 6) (d := 22) (by kernel_rfl) rfl (readyF_of (by kernel_rfl)) (freeF_of (by kernel_rfl)) rfl rfl rfl (fun _ => q_sub rfl rfl rfl) ?_
          refine WD.pure (i := 7) (d := 23) (by kernel_rfl) rfl (readyF_of (by kernel_rfl)) (freeF_of (by kernel_rfl)) rfl rfl rfl (fun _ => q_indexAddr elT_44 rfl rfl c_13850.1 c_13850.2 rowAdd) ?_
          refine WD.quiet (i := 8) (d := 24) (by kernel_rfl) rfl (readyF_of (by kernel_rfl)) (freeF_of (by kernel_rfl)) rfl rfl rfl (q_loadA (cs := (e28 (nth s_10166 (i64 (k_13651 - 1))))) aggT_28 rfl rfl (rd_rows .here (flat_rd (enc := e28) (l := s_10166) (i := i64 (k_13651 - 1)) (sz := 2) (fun _ => rfl) c_13850.1 c_13850.2))) ?_
          refine WD.pure (i := 9) (d := 25) (by kernel_rfl) rfl (readyF_of (by kernel_rfl)) (freeF_of (by kernel_rfl)) rfl rfl rfl (fun _ => q_aggeql (enc := e28) (a := (⟨((nth s_10166 k_13651).fN), ((nth s_10166 k_13651).fD)⟩ : Sapi_Rat)) (b := (⟨((nth s_10166 (i64 (k_13651 - 1))).fN), ((nth s_10166 (i64 (k_13651 - 1))).fD)⟩ : Sapi_Rat)) eqT_28 rfl rfl) ?_
          refine WD.done (by kernel_rfl) ?_
          refine WX.then ?_
          refine WC.cond rfl (fun hb_13852 => ?_) (fun hb_13852 => ?_)
          · replace h := ite_t h hb_13852
            refine WC.seq ?_
            obtain ⟨c_13853, h⟩ := chk_elim h
            refine WC.region ?_
            refine WL.quiet (d := 26) rfl rfl rfl (q_move rfl) ?_
            refine WL.quiet (d := 27) rfl rfl rfl (q_move rfl) ?_
            refine WL.rowLoX (dd := 28) rfl rfl elT_44 rfl rfl .here c_13853 ?_
            refine WL.quiet (d := 4) rfl rfl rfl (q_assign rfl) ?_
            refine WL.nil ?_
            refine WX.then ?_
            obtain ⟨k_13954, hk_13955, h⟩ := jp2_elim h
            refine WC.seqMid2 (fun (s_13951 : List Sapi_Rat) (k_13953 : Int) => (k_13954 s_13951 k_13953 = some r) ∧ (s_13951.length = s_10166.length)) (fun (s_13951 : List Sapi_Rat) (k_13953 : Int) => [(0, (.slice (some ⟨b_13851, 0, none⟩) s_13951.length cap_13650)), (3, (.int .i64 k_13953))]) (fun (s_13951 : List Sapi_Rat) (k_13953 : Int) => [row (.slice (some ⟨b_13851, 0, none⟩) s_13951.length cap_13650) 28 2 (s_13951.flatMap e28)]) ?_ ?_
            · skip
              refine WC.seq ?_
              refine WC.region ?_
              refine WL.quiet (d := 5) rfl rfl rfl (q_assign rfl) ?_
              refine WL.nil ?_
              refine WX.then ?_
              refine WC.block ?_
              refine WC.loop4 (fun (n_13993 : Nat) (s_13989 : List Sapi_Rat) (k_13991 : Int) (k2_13992 : Int) => (m_slices_Compact_api_Rat_api_Rat_L4 s_10166 k_13651 k_13954 n_13993 s_13989 k_13991 k2_13992 = some r) ∧ (s_13989.length = s_10166.length)) (fun (n_13993 : Nat) (s_13989 : List Sapi_Rat) (k_13991 : Int) (k2_13992 : Int) => [(0, (.slice (some ⟨b_13851, 0, none⟩) s_13989.length cap_13650)), (3, (.int .i64 k_13991)), (4, (.slice (some ⟨b_13851, (k_13651 : Int).toNat * 2, none⟩) (s_10166.length - (k_13651 : Int).toNat) (cap_13650 - (k_13651 : Int).toNat))), (5, (.int .i64 k2_13992))]) (fun (n_13993 : Nat) (s_13989 : List Sapi_Rat) (k_13991 : Int) (k2_13992 : Int) => [row (.slice (some ⟨b_13851, 0, none⟩) s_13989.length cap_13650) 28 2 (s_13989.flatMap e28)]) (fun (n_13993 : Nat) (s_13989 : List Sapi_Rat) (k_13991 : Int) (k2_13992 : Int) => n_13993) ⟨FUEL, s_10166, k_13651, 1⟩ ⟨h, rfl⟩ (.cons rfl (.cons rfl (.cons rfl (.cons rfl .nil)))) (.cons .here .nil) ?_
              rintro n_13993 s_13989 k_13991 k2_13992 ⟨h, hlen_13990⟩
              obtain ⟨n_13994, rfl⟩ := m_slices_Compact_api_Rat_api_Rat_L4_fuel h
              rw [m_slices_Compact_api_Rat_api_Rat_L4] at h
              refine WC.seq ?_
              refine WC.seq ?_
              refine WC.region ?_
              refine WL.quiet (d := 29) rfl rfl rfl (q_move rfl) ?_
              refine WL.quiet (d := 30) rfl rfl rfl (q_move rfl) ?_
              refine WL.quiet (d := 31) rfl rfl rfl (q_len Try.underlying44 rfl) ?_
              refine WL.quiet (d := 32) rfl rfl rfl (q_lss rfl rfl) ?_
              refine WL.nil ?_
              refine WX.then ?_
              refine WC.cond rfl (fun hb_13996 => ?_) (fun hb_13996 => ?_)
              · replace h := ite_t h hb_13996
                refine WC.skip ?_
                refine WX.then ?_
                obtain ⟨k_14011, hk_14012, h⟩ := jp2_elim h
                refine WC.seqMid2 (fun (s_14008 : List Sapi_Rat) (k_14010 : Int) => (k_14011 s_14008 k_14010 = some r) ∧ (s_14008.length = s_10166.length)) (fun (s_14008 : List Sapi_Rat) (k_14010 : Int) => [(0, (.slice (some ⟨b_13851, 0, none⟩) s_14008.length cap_13650)), (3, (.int .i64 k_14010)), (4, (.slice (some ⟨b_13851, (k_13651 : Int).toNat * 2, none⟩) (s_10166.length - (k_13651 : Int).toNat) (cap_13650 - (k_13651 : Int).toNat))), (5, (.int .i64 k2_13992))]) (fun (s_14008 : List Sapi_Rat) (k_14010 : Int) => [row (.slice (some ⟨b_13851, 0, none⟩) s_14008.length cap_13650) 28 2 (s_14008.flatMap e28)]) ?_ ?_
                · skip
                  refine WC.block ?_
                  refine WC.seq ?_
                  obtain ⟨c_14013, h⟩ := chk_elim h
                  obtain ⟨c_14015, h⟩ := chk_elim h
                  refine WC.draw (fun i => [].contains i) [] rfl ?_
                  refine WD.pure (i := 0) (d := 35) (by kernel_rfl) rfl (readyF_of (by kernel_rfl)) (freeF_of (by kernel_rfl)) rfl rfl rfl (fun _ => q_move rfl) ?_
                  refine WD.pure (i := 1) (d := 36) (by kernel_rfl) rfl (readyF_of (by kernel_rfl)) (freeF_of (by kernel_rfl)) rfl rfl rfl (fun _ => q_move rfl) ?_
                  have hx_14017 : (0 : Int) ≤ k_13651 + k2_13992 ∧ k_13651 + k2_13992 < ((s_13989.length : Nat) : Int) := by have h1 := hlen_13990; have h2 := c_13853; have h3 := c_14013; omega
                  refine WD.pure (i := 2) (d := 37) (by kernel_rfl) rfl (readyF_of (by kernel_rfl)) (freeF_of (by kernel_rfl)) rfl rfl rfl (fun _ => q_indexAddr elT_44 rfl rfl c_14013.1 c_14013.2 (aliasAdd c_13853.1 c_14013.1)) ?_
                  refine WD.quiet (i := 3) (d := 38) (by kernel_rfl) rfl (readyF_of (by kernel_rfl)) (freeF_of (by kernel_rfl)) rfl rfl rfl (q_loadA (cs := (e28 (nth s_13989 (k_13651 + k2_13992)))) aggT_28 rfl rfl (rd_rows .here (flat_rd (enc := e28) (l := s_13989) (i := k_13651 + k2_13992) (sz := 2) (fun _ => rfl) hx_14017.1 hx_14017.2))) ?_
                  refine WD.pure (i := 4) (d := 39) (by kernel_rfl) rfl (readyF_of (by kernel_rfl)) (freeF_of (by kernel_rfl)) rfl rfl rfl (fun _ => q_move rfl) ?_
                  refine WD.pure (i := 5) (d := 40) (by kernel_rfl) rfl (readyF_of (by kernel_rfl)) (freeF_of (by kernel_rfl)) rfl rfl rfl (fun _ => q_move rfl) ?_
                  refine WD.pure (i := 6) (d := 41) (by kernel_rfl) rfl (readyF_of (by kernel_rfl)) (freeF_of (by kernel_rfl)) rfl rfl rfl (fun _ => q_sub rfl rfl rfl) ?_
                  have hx_14018 : (0 : Int) ≤ k_13651 + (i64 (k2_13992 - 1)) ∧ k_13651 + (i64 (k2_13992 - 1)) < ((s_13989.length : Nat) : Int) := by have h1 := hlen_13990; have h2 := c_13853; have h3 := c_14015; omega
                  refine WD.pure (i := 7) (d := 42) (by kernel_rfl) rfl (readyF_of (by kernel_rfl)) (freeF_of (by kernel_rfl)) rfl rfl rfl (fun _ => q_indexAddr elT_44 rfl rfl c_14015.1 c_14015.2 (aliasAdd c_13853.1 c_14015.1)) ?_
                  refine WD.quiet (i := 8) (d := 43) (by kernel_rfl) rfl (readyF_of (by kernel_rfl)) (freeF_of (by kernel_rfl)) rfl rfl rfl (q_loadA (cs := (e28 (nth s_13989 (k_13651 + (i64 (k2_13992 - 1)))))) aggT_28 rfl rfl (rd_rows .here (flat_rd (enc := e28) (l := s_13989) (i := k_13651 + (i64 (k2_13992 - 1))) (sz := 2) (fun _ => rfl) hx_14018.1 hx_14018.2))) ?_
                  refine WD.pure (i := 9) (d := 44) (by kernel_rfl) rfl (readyF_of (by kernel_rfl)) (freeF_of (by kernel_rfl)) rfl rfl rfl (fun _ => q_aggneq (enc := e28) (a := (⟨((nth s_13989 (k_13651 + k2_13992)).fN), ((nth s_13989 (k_13651 + k2_13992)).fD)⟩ : Sapi_Rat)) (b := (⟨((nth s_13989 (k_13651 + (i64 (k2_13992 - 1)))).fN), ((nth s_13989 (k_13651 + (i64 (k2_13992 - 1)))).fD)⟩ : Sapi_Rat)) eqT_28 rfl rfl) ?_
                  refine WD.done (by kernel_rfl) ?_
                  refine WX.then ?_
                  refine WC.cond rfl (fun hb_14019 => ?_) (fun hb_14019 => ?_)
                  · replace h := ite_t h hb_14019
                    refine WC.seq ?_
                    obtain ⟨c_14020, h⟩ := chk_elim h
                    obtain ⟨c_14022, h⟩ := chk_elim h
                    refine WC.region ?_
                    refine WL.quiet (d := 45) rfl rfl rfl (q_move rfl) ?_
                    refine WL.quiet (d := 46) rfl rfl rfl (q_move rfl) ?_
                    refine WL.quiet (d := 47) rfl rfl rfl (q_move rfl) ?_
                    refine WL.quiet (d := 48) rfl rfl rfl (q_move rfl) ?_
                    have hx_14023 : (0 : Int) ≤ k_13651 + k2_13992 ∧ k_13651 + k2_13992 < ((s_13989.length : Nat) : Int) := by have h1 := hlen_13990; have h2 := c_13853; have h3 := c_14020; omega
                    refine WL.quiet (d := 49) rfl rfl rfl (q_indexAddr elT_44 rfl rfl c_14020.1 c_14020.2 (aliasAdd c_13853.1 c_14020.1)) ?_
                    refine WL.quiet (d := 50) rfl rfl rfl (q_loadA (cs := (e28 (nth s_13989 (k_13651 + k2_13992)))) aggT_28 rfl rfl (rd_rows .here (flat_rd (enc := e28) (l := s_13989) (i := k_13651 + k2_13992) (sz := 2) (fun _ => rfl) hx_14023.1 hx_14023.2))) ?_
                    refine WL.quiet (d := 51) rfl rfl rfl (q_indexAddr elT_44 rfl rfl c_14022.1 c_14022.2 rowAdd) ?_
                    refine WL.eff0 rfl rfl (e_rowStore (vs := [(.int .i64 ((nth s_13989 (k_13651 + k2_13992)).fN)), (.int .i64 ((nth s_13989 (k_13651 + k2_13992)).fD))]) (ds := (s_13989.set (k_13991 : Int).toNat (⟨((nth s_13989 (k_13651 + k2_13992)).fN), ((nth s_13989 (k_13651 + k2_13992)).fD)⟩ : Sapi_Rat)).flatMap e28) sizT_28 rfl rfl rfl rfl (oc_cons rfl (oc_cons rfl oc_nil)) .here (flat_fit (enc := e28) (sz := 2) (k := 0) (fun _ => rfl) c_14022.1 c_14022.2 (by decide)) (flat_put (enc := e28) (l := s_13989) (sz := 2) (vs := [(.int .i64 ((nth s_13989 (k_13651 + k2_13992)).fN)), (.int .i64 ((nth s_13989 (k_13651 + k2_13992)).fD))]) (y := (⟨((nth s_13989 (k_13651 + k2_13992)).fN), ((nth s_13989 (k_13651 + k2_13992)).fD)⟩ : Sapi_Rat)) (k := 0) (fun _ => rfl) c_14022.1 c_14022.2 rfl (Nat.le_of_ble_eq_true rfl))) ?_
                    refine WL.relen .here (u := (.slice (some ⟨b_13851, 0, none⟩) ((s_13989.set (k_13991 : Int).toNat (⟨((nth s_13989 (k_13651 + k2_13992)).fN), ((nth s_13989 (k_13651 + k2_13992)).fD)⟩ : Sapi_Rat)).length) cap_13650)) (slen (List.length_set).symm) ?_
                    refine WL.repin (i := 0) rfl (u := (.slice (some ⟨b_13851, 0, none⟩) ((s_13989.set (k_13991 : Int).toNat (⟨((nth s_13989 (k_13651 + k2_13992)).fN), ((nth s_13989 (k_13651 + k2_13992)).fD)⟩ : Sapi_Rat)).length) cap_13650)) (slen (List.length_set).symm) ?_
                    refine WL.nil ?_
                    refine WX.then ?_
                    refine WC.region ?_
                    refine WL.quiet (d := 52) rfl rfl rfl (q_move rfl) ?_
                    refine WL.quiet (d := 53) rfl rfl rfl (q_add rfl rfl rfl) ?_
                    refine WL.quiet (d := 3) rfl rfl rfl (q_assign rfl) ?_
                    refine WL.nil ?_
                    refine WX.blockNormal ?_
                    exact WX.mid (G := List Sapi_Rat × Int) ⟨(s_13989.set (k_13991 : Int).toNat (⟨((nth s_13989 (k_13651 + k2_13992)).fN), ((nth s_13989 (k_13651 + k2_13992)).fD)⟩ : Sapi_Rat)), (i64 (k_13991 + 1))⟩ ⟨h, ((List.length_set).trans hlen_13990)⟩ (.cons rfl (.cons rfl (.cons rfl (.cons rfl .nil)))) (.cons .here .nil)
                  · replace h := ite_f h hb_14019
                    refine WC.skip ?_
                    refine WX.blockNormal ?_
                    exact WX.mid (G := List Sapi_Rat × Int) ⟨s_13989, k_13991⟩ ⟨h, hlen_13990⟩ (.cons rfl (.cons rfl (.cons rfl (.cons rfl .nil)))) (.cons .here .nil)
                · rintro s_14008 k_14010 ⟨h, hlen_14009⟩
                  replace h := (hk_14012 s_14008 k_14010).symm.trans h
                  refine WC.region ?_
                  refine WL.quiet (d := 33) rfl rfl rfl (q_move rfl) ?_
                  refine WL.quiet (d := 34) rfl rfl rfl (q_add rfl rfl rfl) ?_
                  refine WL.quiet (d := 5) rfl rfl rfl (q_assign rfl) ?_
                  refine WL.nil ?_
                  exact WX.round (G := Nat × List Sapi_Rat × Int × Int) ⟨n_13994, s_14008, k_14010, (i64 (k2_13992 + 1))⟩ ⟨h, hlen_14009⟩ (Nat.lt_succ_self _) (.cons rfl (.cons rfl (.cons rfl (.cons rfl .nil)))) (.cons .here .nil)
              · replace h := ite_f h hb_13996
                refine WC.exit ?_
                refine WX.thenExit ?_
                refine WX.thenExit ?_
                refine WX.blockHit ?_
                exact WX.mid (G := List Sapi_Rat × Int) ⟨s_13989, k_13991⟩ ⟨h, hlen_13990⟩ (.cons rfl (.cons rfl .nil)) (.cons .here .nil)
            · rintro s_13951 k_13953 ⟨h, hlen_13952⟩
              replace h := (hk_13955 s_13951 k_13953).symm.trans h
              refine WC.seq ?_
              obtain ⟨c_14024, h⟩ := chk_elim h
              refine WC.region ?_
              refine WL.quiet (d := 54) rfl rfl rfl (q_move rfl) ?_
              refine WL.quiet (d := 55) rfl rfl rfl (q_move rfl) ?_
              refine WL.rowLoD (dd := 56) rfl rfl elT_44 rfl rfl .here c_14024 ?_
              intro ao_14028 c_14029 hao_14030
              refine WL.eff0 rfl rfl (e_clearTailD (enc := e28) (z0 := ((⟨0, 0⟩ : Sapi_Rat) : Sapi_Rat)) (l := s_13951) elT_44 zeroT_28 rfl hao_14030 c_14024 (fun _ => rfl) (by decide) rfl e28_oc .here) ?_
              refine WL.relen .here (u := (.slice (some ⟨b_13851, 0, none⟩) ((s_13951.take (k_13953 : Int).toNat ++ List.replicate (s_13951.length - (k_13953 : Int).toNat) ((⟨0, 0⟩ : Sapi_Rat) : Sapi_Rat)).length) cap_13650)) (slen (take_rep_len c_14024).symm) ?_
              refine WL.repin (i := 0) rfl (u := (.slice (some ⟨b_13851, 0, none⟩) ((s_13951.take (k_13953 : Int).toNat ++ List.replicate (s_13951.length - (k_13953 : Int).toNat) ((⟨0, 0⟩ : Sapi_Rat) : Sapi_Rat)).length) cap_13650)) (slen (take_rep_len c_14024).symm) ?_
              refine WL.nil ?_
              refine WX.then ?_
              refine WC.seq ?_
              obtain ⟨c_14031, h⟩ := chk_elim h
              refine WC.region ?_
              refine WL.quiet (d := 57) rfl rfl rfl (q_move rfl) ?_
              refine WL.quiet (d := 58) rfl rfl rfl (q_move rfl) ?_
              refine WL.rowHiD (dd := 59) (enc := e28) (ls := s_13951.take (k_13953 : Int).toNat ++ List.replicate (s_13951.length - (k_13953 : Int).toNat) ((⟨0, 0⟩ : Sapi_Rat) : Sapi_Rat)) rfl rfl elT_44 rfl rfl .here (fun _ => rfl) c_14031 ?_
              intro ao_14034 cap_14035
              refine WL.quiet (d := 2) rfl rfl rfl (q_assign rfl) ?_
              refine WL.nil ?_
              refine WX.then ?_
              refine WC.ret ?_
              refine WX.blockRet ?_
              refine WX.thenRet ?_
              refine WX.thenRet ?_
              refine WX.blockRet ?_
              refine WX.thenRet ?_
              obtain rfl := Option.some.inj h
              refine WX.bpRet Try.results49 (.tmp rfl .nil) (fun w hw => ?_)
              exact ⟨ao_14034, cap_14035, ret1 rfl, trivial, hw.sub (.cons .here .nil)⟩
          · replace h := ite_f h hb_13852
            refine WC.skip ?_
            refine WX.blockNormal ?_
            exact WX.mid (G := Option Addr × Nat) ⟨(some ⟨b_13851, 0, none⟩), cap_13650⟩ h (.cons rfl (.cons rfl .nil)) (.cons .here .nil)
        · rintro ao_13844 cap_13845 h
          replace h := hk_13847.symm.trans h
          refine WC.region ?_
          refine WL.quiet (d := 14) rfl rfl rfl (q_move rfl) ?_
          refine WL.quiet (d := 15) rfl rfl rfl (q_add rfl rfl rfl) ?_
          refine WL.quiet (d := 3) rfl rfl rfl (q_assign rfl) ?_
          refine WL.nil ?_
          exact WX.round (G := Nat × Int × Option Addr × Nat) ⟨n_13653, (i64 (k_13651 + 1)), ao_13844, cap_13845⟩ h (Nat.lt_succ_self _) (.cons rfl (.cons rfl .nil)) (.cons .here .nil)
      · replace h := ite_f h hb_13655
        refine WC.exit ?_
        refine WX.thenExit ?_
        refine WX.thenExit ?_
        refine WX.blockHit ?_
        exact WX.mid (G := Option Addr × Nat) ⟨ao_13649, cap_13650⟩ h (.cons rfl .nil) (.cons .here .nil)
    · rintro ao_13260 cap_13261 h
      replace h := hk_13263.symm.trans h
      refine WC.seq ?_
      refine WC.region ?_
      refine WL.quiet (d := 60) rfl rfl rfl (q_move rfl) ?_
      refine WL.quiet (d := 2) rfl rfl rfl (q_assign rfl) ?_
      refine WL.nil ?_
      refine WX.then ?_
      refine WC.ret ?_
      obtain rfl := Option.some.inj h
      refine WX.bpRet Try.results49 (.tmp rfl .nil) (fun w hw => ?_)
      exact ⟨ao_13260, cap_13261, ret1 rfl, trivial, hw.sub (.cons .here .nil)⟩
end Go.Proofs.Ytbihfglmcjkdhaa
