/- A part of this claim's proof: models of the functions that the law reaches, with the proof that the functions compute them; plain laws about the models. No conditions beyond those in each theorem's statement. -/
import Derived.Test.YtkhiiafgikioiaaW33b
namespace Go.Proofs.Ytkhiiafgikioiaa
open Go Go.RowKit Sep
set_option linter.all false
/-- nacellelaw33.ClockTells -/
def m_law33_ClockTells (l_1 : List Int) (spans_5 : List Sapi_Span) (f_9 : Int) (width_10 : Int) : Option Bool :=
  if (decide (((l_1.length : Nat) : Int) > 40)) || (decide (((spans_5.length : Nat) : Int) > 40)) then (m_law33_awake).bind fun x_21357 => some x_21357 else (m_clock_Midpoint l_1 f_9).bind fun x_21359 => (m_ref33_Midpoint l_1 f_9).bind fun x_21361 => (m_clock_Suspects l_1 f_9 width_10).bind fun x_21363 => (m_ref33_Suspects l_1 f_9 width_10).bind fun x_21371 => (m_clock_Meet spans_5 f_9).bind fun x_21379 => (m_ref33_Meet spans_5 f_9).bind fun x_21383 => (if (decide (x_21359.1 = x_21361.1)) && (decide (x_21359.2 = x_21361.2)) then (m_law33_Ints x_21363.1 x_21371.1).bind fun x_21387 => some x_21387 else some false).bind fun b_21389 => (if ((b_21389 && (decide (x_21363.2 = x_21371.2))) && (decide (x_21379.1 = x_21383.1))) && (decide (x_21379.2 = x_21383.2)) then (m_law33_awake).bind fun x_21391 => some x_21391 else some false).bind fun b_21393 => some b_21393

set_option maxRecDepth 20000 in
theorem w_law33_ClockTells (Z : Zp) (ao_2 : Option Addr) (cap_3 : Nat) (ao_6 : Option Addr) (cap_7 : Nat) (l_1 : List Int) (spans_5 : List Sapi_Span) (f_9 : Int) (width_10 : Int) (r : Bool) (w₀ : World) (hz : PZ [] w₀ Z)
    (hs_4 : ZS Z 1 (fun r x => r = e3 x) ao_2 cap_3 l_1)
    (hs_8 : ZS Z 2 (fun r x => r = e35 x) ao_6 cap_7 spans_5)
    (h : m_law33_ClockTells l_1 spans_5 f_9 width_10 = some r) :
    Calls Try.prog 3 #[(.slice ao_2 l_1.length cap_3), (.slice ao_6 spans_5.length cap_7), (.int .i64 f_9), (.int .i64 width_10)] w₀ fun e w' => e = .returned (.bool r) ∧ Hp [] w₀ w' [] := by
  unfold m_law33_ClockTells at h
  refine Calls.ofWC (vs := [(.slice ao_2 l_1.length cap_3), (.slice ao_6 spans_5.length cap_7), (.int .i64 f_9), (.int .i64 width_10)]) (pre := []) (env := [(0, (.slice ao_2 l_1.length cap_3)), (1, (.slice ao_6 spans_5.length cap_7)), (2, (.int .i64 f_9)), (3, (.int .i64 width_10))]) Try.func3 rfl Try.ntmps3 rfl (Hp.nil w₀ _) rfl ?_
  refine WC.seq ?_
  refine WC.region ?_
  refine WL.quiet (d := 8) rfl rfl rfl (q_assign rfl) ?_
  refine WL.nil ?_
  refine WX.then ?_
  refine WC.seq ?_
  refine WC.seq ?_
  refine WC.region ?_
  refine WL.quiet (d := 21) rfl rfl rfl (q_move rfl) ?_
  refine WL.quiet (d := 22) rfl rfl rfl (q_len Try.underlying22 rfl) ?_
  refine WL.quiet (d := 23) rfl rfl rfl (q_gtr rfl rfl) ?_
  refine WL.quiet (d := 24) rfl rfl rfl (q_move rfl) ?_
  refine WL.cut0 True [(0, (.slice ao_2 l_1.length cap_3)), (1, (.slice ao_6 spans_5.length cap_7)), (2, (.int .i64 f_9)), (3, (.int .i64 width_10)), (28, (.bool ((decide (((l_1.length : Nat) : Int) > 40)) || (decide (((spans_5.length : Nat) : Int) > 40)))))] [] 4 ?_ (fun _ => ?_)
  · rcases Bool.eq_false_or_eq_true (decide (((l_1.length : Nat) : Int) > 40)) with hb' | hb'
    · have hg_21354 := hb'; clear hb'
      refine WL.pin (i := 24) rfl hg_21354 ?_
      refine WL.skip rfl rfl rfl ?_
      refine WL.skip rfl rfl rfl ?_
      refine WL.skip rfl rfl rfl ?_
      refine WL.quiet (d := 28) rfl rfl rfl (q_pickT rfl rfl) ?_
      exact WL.cutEnd () trivial (.cons rfl (.cons rfl (.cons rfl (.cons rfl (.cons (some_bool (or_l hg_21354)) .nil))))) .nil
    · have hg_21355 := hb'; clear hb'
      refine WL.pin (i := 24) rfl hg_21355 ?_
      refine WL.quiet (d := 25) rfl rfl rfl (q_move rfl) ?_
      refine WL.quiet (d := 26) rfl rfl rfl (q_len Try.underlying23 rfl) ?_
      refine WL.quiet (d := 27) rfl rfl rfl (q_gtr rfl rfl) ?_
      refine WL.quiet (d := 28) rfl rfl rfl (q_pickF rfl rfl) ?_
      exact WL.cutEnd () trivial (.cons rfl (.cons rfl (.cons rfl (.cons rfl (.cons (some_bool (or_r hg_21355)) .nil))))) .nil
  · skip
    refine WL.nil ?_
    refine WX.then ?_
    refine WC.cond rfl (fun hb_21356 => ?_) (fun hb_21356 => ?_)
    · replace h := ite_t h hb_21356
      refine WC.seq ?_
      obtain ⟨x_21357, hx_21358, h⟩ := bind_elim h
      refine WC.region ?_
      refine WL.callD (dd := 29) rfl rfl rfl (run_call (l := []) Try.call10 .nil) (.nil : Sel [] [] []) (fun w hw => by have pz := (hz.call hw (.nil : Sel [] [] [])); exact w_law33_awake (Z := _)   (r := x_21357) w pz  hx_21358) ?_
      refine WL.quiet (d := 8) rfl rfl rfl (q_assign rfl) ?_
      refine WL.nil ?_
      refine WX.then ?_
      refine WC.ret ?_
      refine WX.thenRet ?_
      obtain rfl := Option.some.inj h
      refine WX.bpRet Try.results3 (.tmp rfl .nil) (fun w hw => ?_)
      exact ⟨ret1 rfl, hw.sub .nil⟩
    · replace h := ite_f h hb_21356
      refine WC.skip ?_
      refine WX.then ?_
      refine WC.seq ?_
      obtain ⟨x_21359, hx_21360, h⟩ := bind_elim h
      refine WC.region ?_
      refine WL.quiet (d := 31) rfl rfl rfl (q_move rfl) ?_
      refine WL.quiet (d := 32) rfl rfl rfl (q_move rfl) ?_
      refine WL.callD (dd := 33) rfl rfl rfl (run_call (l := [.tmp 31, .tmp 32]) Try.call11 (.cons rfl (.cons rfl .nil))) (.nil : Sel [] [] []) (fun w hw => by have pz := (hz.call hw (.nil : Sel [] [] [])); exact w_clock_Midpoint (Z := _) (ao_17 := ao_2) (cap_18 := cap_3) (l_16 := l_1) (f_20 := f_9) (r := x_21359) w pz hs_4 hx_21360) ?_
      refine WL.quiet (d := 30) rfl rfl rfl (q_move rfl) ?_
      refine WL.quiet (d := 34) rfl rfl rfl (q_extract rfl rfl) ?_
      refine WL.quiet (d := 35) rfl rfl rfl (q_extract rfl rfl) ?_
      refine WL.quiet (d := 9) rfl rfl rfl (q_assign rfl) ?_
      refine WL.quiet (d := 10) rfl rfl rfl (q_assign rfl) ?_
      refine WL.nil ?_
      refine WX.then ?_
      refine WC.seq ?_
      obtain ⟨x_21361, hx_21362, h⟩ := bind_elim h
      refine WC.region ?_
      refine WL.quiet (d := 37) rfl rfl rfl (q_move rfl) ?_
      refine WL.quiet (d := 38) rfl rfl rfl (q_move rfl) ?_
      refine WL.callD (dd := 39) rfl rfl rfl (run_call (l := [.tmp 37, .tmp 38]) Try.call12 (.cons rfl (.cons rfl .nil))) (.nil : Sel [] [] []) (fun w hw => by have pz := (hz.call hw (.nil : Sel [] [] [])); exact w_ref33_Midpoint (Z := _) (ao_4299 := ao_2) (cap_4300 := cap_3) (l_4298 := l_1) (f_4302 := f_9) (r := x_21361) w pz hs_4 hx_21362) ?_
      refine WL.quiet (d := 36) rfl rfl rfl (q_move rfl) ?_
      refine WL.quiet (d := 40) rfl rfl rfl (q_extract rfl rfl) ?_
      refine WL.quiet (d := 41) rfl rfl rfl (q_extract rfl rfl) ?_
      refine WL.quiet (d := 11) rfl rfl rfl (q_assign rfl) ?_
      refine WL.quiet (d := 12) rfl rfl rfl (q_assign rfl) ?_
      refine WL.nil ?_
      refine WX.then ?_
      refine WC.seq ?_
      obtain ⟨x_21363, hx_21364, h⟩ := bind_elim h
      refine WC.region ?_
      refine WL.quiet (d := 43) rfl rfl rfl (q_move rfl) ?_
      refine WL.quiet (d := 44) rfl rfl rfl (q_move rfl) ?_
      refine WL.quiet (d := 45) rfl rfl rfl (q_move rfl) ?_
      refine WL.enter2 (dd := 46) rfl rfl rfl (run_call (l := [.tmp 43, .tmp 44, .tmp 45]) Try.call13 (.cons rfl (.cons rfl (.cons rfl .nil)))) (.nil : Sel [] [] []) (fun w hw => by have pz := (hz.call hw (.nil : Sel [] [] [])); exact w_clock_Suspects (Z := _) (ao_1033 := ao_2) (cap_1034 := cap_3) (l_1032 := l_1) (f_1036 := f_9) (width_1037 := width_10) (r := x_21363) w pz hs_4 hx_21364) ?_
      rintro ao_21368 cap_21369 _
      refine WL.quiet (d := 42) rfl rfl rfl (q_move rfl) ?_
      refine WL.quiet (d := 47) rfl rfl rfl (q_extract rfl rfl) ?_
      refine WL.quiet (d := 48) rfl rfl rfl (q_extract rfl rfl) ?_
      refine WL.quiet (d := 13) rfl rfl rfl (q_assign rfl) ?_
      refine WL.quiet (d := 14) rfl rfl rfl (q_assign rfl) ?_
      refine WL.nil ?_
      refine WX.then ?_
      refine WC.seq ?_
      obtain ⟨x_21371, hx_21372, h⟩ := bind_elim h
      refine WC.region ?_
      refine WL.quiet (d := 50) rfl rfl rfl (q_move rfl) ?_
      refine WL.quiet (d := 51) rfl rfl rfl (q_move rfl) ?_
      refine WL.quiet (d := 52) rfl rfl rfl (q_move rfl) ?_
      refine WL.enter2 (dd := 53) rfl rfl rfl (run_call (l := [.tmp 50, .tmp 51, .tmp 52]) Try.call14 (.cons rfl (.cons rfl (.cons rfl .nil)))) (.nil : Sel [row (.slice ao_21368 x_21363.1.length cap_21369) 3 1 (x_21363.1.flatMap e3)] [] [row (.slice ao_21368 x_21363.1.length cap_21369) 3 1 (x_21363.1.flatMap e3)]) (fun w hw => by have pz := (hz.call hw (.nil : Sel [row (.slice ao_21368 x_21363.1.length cap_21369) 3 1 (x_21363.1.flatMap e3)] [] [row (.slice ao_21368 x_21363.1.length cap_21369) 3 1 (x_21363.1.flatMap e3)])); exact w_ref33_Suspects (Z := _) (ao_15477 := ao_2) (cap_15478 := cap_3) (l_15476 := l_1) (f_15480 := f_9) (width_15481 := width_10) (r := x_21371) w pz hs_4 hx_21372) ?_
      rintro ao_21376 cap_21377 _
      refine WL.quiet (d := 49) rfl rfl rfl (q_move rfl) ?_
      refine WL.quiet (d := 54) rfl rfl rfl (q_extract rfl rfl) ?_
      refine WL.quiet (d := 55) rfl rfl rfl (q_extract rfl rfl) ?_
      refine WL.quiet (d := 15) rfl rfl rfl (q_assign rfl) ?_
      refine WL.quiet (d := 16) rfl rfl rfl (q_assign rfl) ?_
      refine WL.nil ?_
      refine WX.then ?_
      refine WC.seq ?_
      obtain ⟨x_21379, hx_21380, h⟩ := bind_elim h
      refine WC.region ?_
      refine WL.quiet (d := 57) rfl rfl rfl (q_move rfl) ?_
      refine WL.quiet (d := 58) rfl rfl rfl (q_move rfl) ?_
      refine WL.callD (dd := 59) rfl rfl rfl (run_call (l := [.tmp 57, .tmp 58]) Try.call15 (.cons rfl (.cons rfl .nil))) (.nil : Sel [row (.slice ao_21376 x_21371.1.length cap_21377) 3 1 (x_21371.1.flatMap e3), row (.slice ao_21368 x_21363.1.length cap_21369) 3 1 (x_21363.1.flatMap e3)] [] [row (.slice ao_21376 x_21371.1.length cap_21377) 3 1 (x_21371.1.flatMap e3), row (.slice ao_21368 x_21363.1.length cap_21369) 3 1 (x_21363.1.flatMap e3)]) (fun w hw => by have pz := (hz.call hw (.nil : Sel [row (.slice ao_21376 x_21371.1.length cap_21377) 3 1 (x_21371.1.flatMap e3), row (.slice ao_21368 x_21363.1.length cap_21369) 3 1 (x_21363.1.flatMap e3)] [] [row (.slice ao_21376 x_21371.1.length cap_21377) 3 1 (x_21371.1.flatMap e3), row (.slice ao_21368 x_21363.1.length cap_21369) 3 1 (x_21363.1.flatMap e3)])); exact w_clock_Meet (Z := _) (ao_1653 := ao_6) (cap_1654 := cap_7) (l_1652 := spans_5) (f_1656 := f_9) (r := x_21379) w pz hs_8 hx_21380) ?_
      refine WL.quiet (d := 56) rfl rfl rfl (q_move rfl) ?_
      refine WL.quiet (d := 60) rfl rfl rfl (q_extract rfl rfl) ?_
      refine WL.quiet (d := 61) rfl rfl rfl (q_extract rfl rfl) ?_
      refine WL.new (dd := 17) rfl rfl rfl (e_alloc (cs := [(.int .i64 0), (.int .i64 0)]) zeroT_35 rfl) ?_
      intro b_21382 _
      refine WL.eff0 rfl rfl (e_store (vs := [(.int .i64 x_21379.1.fLo), (.int .i64 x_21379.1.fHi)]) (ds := [(.int .i64 x_21379.1.fLo), (.int .i64 x_21379.1.fHi)]) sizT_35 rfl rfl rfl rfl (oc_cons rfl (oc_cons rfl oc_nil)) .here (Nat.le_of_ble_eq_true rfl) rfl) ?_
      refine WL.quiet (d := 18) rfl rfl rfl (q_assign rfl) ?_
      refine WL.nil ?_
      refine WX.then ?_
      refine WC.seq ?_
      obtain ⟨x_21383, hx_21384, h⟩ := bind_elim h
      refine WC.region ?_
      refine WL.quiet (d := 63) rfl rfl rfl (q_move rfl) ?_
      refine WL.quiet (d := 64) rfl rfl rfl (q_move rfl) ?_
      refine WL.callD (dd := 65) rfl rfl rfl (run_call (l := [.tmp 63, .tmp 64]) Try.call16 (.cons rfl (.cons rfl .nil))) (.nil : Sel [stb b_21382 35 [(.int .i64 x_21379.1.fLo), (.int .i64 x_21379.1.fHi)], row (.slice ao_21376 x_21371.1.length cap_21377) 3 1 (x_21371.1.flatMap e3), row (.slice ao_21368 x_21363.1.length cap_21369) 3 1 (x_21363.1.flatMap e3)] [] [stb b_21382 35 [(.int .i64 x_21379.1.fLo), (.int .i64 x_21379.1.fHi)], row (.slice ao_21376 x_21371.1.length cap_21377) 3 1 (x_21371.1.flatMap e3), row (.slice ao_21368 x_21363.1.length cap_21369) 3 1 (x_21363.1.flatMap e3)]) (fun w hw => by have pz := (hz.call hw (.nil : Sel [stb b_21382 35 [(.int .i64 x_21379.1.fLo), (.int .i64 x_21379.1.fHi)], row (.slice ao_21376 x_21371.1.length cap_21377) 3 1 (x_21371.1.flatMap e3), row (.slice ao_21368 x_21363.1.length cap_21369) 3 1 (x_21363.1.flatMap e3)] [] [stb b_21382 35 [(.int .i64 x_21379.1.fLo), (.int .i64 x_21379.1.fHi)], row (.slice ao_21376 x_21371.1.length cap_21377) 3 1 (x_21371.1.flatMap e3), row (.slice ao_21368 x_21363.1.length cap_21369) 3 1 (x_21363.1.flatMap e3)])); exact w_ref33_Meet (Z := _) (ao_16383 := ao_6) (cap_16384 := cap_7) (l_16382 := spans_5) (f_16386 := f_9) (r := x_21383) w pz hs_8 hx_21384) ?_
      refine WL.quiet (d := 62) rfl rfl rfl (q_move rfl) ?_
      refine WL.quiet (d := 66) rfl rfl rfl (q_extract rfl rfl) ?_
      refine WL.quiet (d := 67) rfl rfl rfl (q_extract rfl rfl) ?_
      refine WL.new (dd := 19) rfl rfl rfl (e_alloc (cs := [(.int .i64 0), (.int .i64 0)]) zeroT_35 rfl) ?_
      intro b_21386 _
      refine WL.eff0 rfl rfl (e_store (vs := [(.int .i64 x_21383.1.fLo), (.int .i64 x_21383.1.fHi)]) (ds := [(.int .i64 x_21383.1.fLo), (.int .i64 x_21383.1.fHi)]) sizT_35 rfl rfl rfl rfl (oc_cons rfl (oc_cons rfl oc_nil)) .here (Nat.le_of_ble_eq_true rfl) rfl) ?_
      refine WL.quiet (d := 20) rfl rfl rfl (q_assign rfl) ?_
      refine WL.nil ?_
      refine WX.then ?_
      refine WC.seq ?_
      obtain ⟨b_21389, hb_21390, h⟩ := bind_elim h
      obtain ⟨b_21393, hb_21394, h⟩ := bind_elim h
      refine WC.region ?_
      refine WL.quiet (d := 68) rfl rfl rfl (q_move rfl) ?_
      refine WL.quiet (d := 69) rfl rfl rfl (q_move rfl) ?_
      refine WL.quiet (d := 70) rfl rfl rfl (q_eql rfl rfl) ?_
      refine WL.quiet (d := 71) rfl rfl rfl (q_move rfl) ?_
      refine WL.cut0 True [(13, (.slice ao_21368 x_21363.1.length cap_21369)), (14, (.int .i64 x_21363.2)), (15, (.slice ao_21376 x_21371.1.length cap_21377)), (16, (.int .i64 x_21371.2)), (17, (.pointer (some ⟨b_21382, 0, none⟩))), (18, (.int .i64 x_21379.2)), (19, (.pointer (some ⟨b_21386, 0, none⟩))), (20, (.int .i64 x_21383.2)), (75, (.bool ((decide (x_21359.1 = x_21361.1)) && (decide (x_21359.2 = x_21361.2)))))] [stb b_21386 35 [(.int .i64 x_21383.1.fLo), (.int .i64 x_21383.1.fHi)], stb b_21382 35 [(.int .i64 x_21379.1.fLo), (.int .i64 x_21379.1.fHi)], row (.slice ao_21376 x_21371.1.length cap_21377) 3 1 (x_21371.1.flatMap e3), row (.slice ao_21368 x_21363.1.length cap_21369) 3 1 (x_21363.1.flatMap e3)] 4 ?_ (fun _ => ?_)
      · rcases Bool.eq_false_or_eq_true (decide (x_21359.1 = x_21361.1)) with hb' | hb'
        · have hg_21395 := hb'; clear hb'
          refine WL.pin (i := 71) rfl hg_21395 ?_
          refine WL.quiet (d := 72) rfl rfl rfl (q_move rfl) ?_
          refine WL.quiet (d := 73) rfl rfl rfl (q_move rfl) ?_
          refine WL.quiet (d := 74) rfl rfl rfl (q_eql rfl rfl) ?_
          refine WL.quiet (d := 75) rfl rfl rfl (q_pickT rfl rfl) ?_
          exact WL.cutEnd () trivial (.cons rfl (.cons rfl (.cons rfl (.cons rfl (.cons rfl (.cons rfl (.cons rfl (.cons rfl (.cons (some_bool (and_r hg_21395)) .nil))))))))) (.cons .here (.cons .here (.cons .here (.cons .here .nil))))
        · have hg_21396 := hb'; clear hb'
          refine WL.pin (i := 71) rfl hg_21396 ?_
          refine WL.skip rfl rfl rfl ?_
          refine WL.skip rfl rfl rfl ?_
          refine WL.skip rfl rfl rfl ?_
          refine WL.quiet (d := 75) rfl rfl rfl (q_pickF rfl rfl) ?_
          exact WL.cutEnd () trivial (.cons rfl (.cons rfl (.cons rfl (.cons rfl (.cons rfl (.cons rfl (.cons rfl (.cons rfl (.cons (some_bool (and_l hg_21396)) .nil))))))))) (.cons .here (.cons .here (.cons .here (.cons .here .nil))))
      · skip
        refine WL.quiet (d := 76) rfl rfl rfl (q_move rfl) ?_
        refine WL.cut0 True [(14, (.int .i64 x_21363.2)), (16, (.int .i64 x_21371.2)), (17, (.pointer (some ⟨b_21382, 0, none⟩))), (18, (.int .i64 x_21379.2)), (19, (.pointer (some ⟨b_21386, 0, none⟩))), (20, (.int .i64 x_21383.2)), (80, (.bool b_21389))] [stb b_21386 35 [(.int .i64 x_21383.1.fLo), (.int .i64 x_21383.1.fHi)], stb b_21382 35 [(.int .i64 x_21379.1.fLo), (.int .i64 x_21379.1.fHi)], row (.slice ao_21376 x_21371.1.length cap_21377) 3 1 (x_21371.1.flatMap e3), row (.slice ao_21368 x_21363.1.length cap_21369) 3 1 (x_21363.1.flatMap e3)] 4 ?_ (fun _ => ?_)
        · rcases Bool.eq_false_or_eq_true ((decide (x_21359.1 = x_21361.1)) && (decide (x_21359.2 = x_21361.2))) with hb' | hb'
          · have hg_21397 := hb'; clear hb'
            have hq_21398 := ite_t hb_21390 hg_21397
            obtain ⟨x_21387, hx_21388, hq_21398⟩ := bind_elim hq_21398
            replace hq_21398 := Option.some.inj hq_21398
            refine WL.pin (i := 76) rfl hg_21397 ?_
            refine WL.quiet (d := 77) rfl rfl rfl (q_move rfl) ?_
            refine WL.quiet (d := 78) rfl rfl rfl (q_move rfl) ?_
            refine WL.callD (dd := 79) rfl rfl rfl (run_call (l := [.tmp 77, .tmp 78]) Try.call17 (.cons rfl (.cons rfl .nil))) (.nil : Sel [stb b_21386 35 [(.int .i64 x_21383.1.fLo), (.int .i64 x_21383.1.fHi)], stb b_21382 35 [(.int .i64 x_21379.1.fLo), (.int .i64 x_21379.1.fHi)], row (.slice ao_21376 x_21371.1.length cap_21377) 3 1 (x_21371.1.flatMap e3), row (.slice ao_21368 x_21363.1.length cap_21369) 3 1 (x_21363.1.flatMap e3)] [] [stb b_21386 35 [(.int .i64 x_21383.1.fLo), (.int .i64 x_21383.1.fHi)], stb b_21382 35 [(.int .i64 x_21379.1.fLo), (.int .i64 x_21379.1.fHi)], row (.slice ao_21376 x_21371.1.length cap_21377) 3 1 (x_21371.1.flatMap e3), row (.slice ao_21368 x_21363.1.length cap_21369) 3 1 (x_21363.1.flatMap e3)]) (fun w hw => by have pz := (hz.call hw (.nil : Sel [stb b_21386 35 [(.int .i64 x_21383.1.fLo), (.int .i64 x_21383.1.fHi)], stb b_21382 35 [(.int .i64 x_21379.1.fLo), (.int .i64 x_21379.1.fHi)], row (.slice ao_21376 x_21371.1.length cap_21377) 3 1 (x_21371.1.flatMap e3), row (.slice ao_21368 x_21363.1.length cap_21369) 3 1 (x_21363.1.flatMap e3)] [] [stb b_21386 35 [(.int .i64 x_21383.1.fLo), (.int .i64 x_21383.1.fHi)], stb b_21382 35 [(.int .i64 x_21379.1.fLo), (.int .i64 x_21379.1.fHi)], row (.slice ao_21376 x_21371.1.length cap_21377) 3 1 (x_21371.1.flatMap e3), row (.slice ao_21368 x_21363.1.length cap_21369) 3 1 (x_21363.1.flatMap e3)])).lend hw (.nil : Sel [stb b_21386 35 [(.int .i64 x_21383.1.fLo), (.int .i64 x_21383.1.fHi)], stb b_21382 35 [(.int .i64 x_21379.1.fLo), (.int .i64 x_21379.1.fHi)], row (.slice ao_21376 x_21371.1.length cap_21377) 3 1 (x_21371.1.flatMap e3), row (.slice ao_21368 x_21363.1.length cap_21369) 3 1 (x_21363.1.flatMap e3)] [] [stb b_21386 35 [(.int .i64 x_21383.1.fLo), (.int .i64 x_21383.1.fHi)], stb b_21382 35 [(.int .i64 x_21379.1.fLo), (.int .i64 x_21379.1.fHi)], row (.slice ao_21376 x_21371.1.length cap_21377) 3 1 (x_21371.1.flatMap e3), row (.slice ao_21368 x_21363.1.length cap_21369) 3 1 (x_21363.1.flatMap e3)]) (B := [row (.slice ao_21368 x_21363.1.length cap_21369) 3 1 (x_21363.1.flatMap e3), row (.slice ao_21376 x_21371.1.length cap_21377) 3 1 (x_21371.1.flatMap e3)]) (fun _ hx' => ((.cons (.there (.there (.there .here))) (.cons (.there (.there .here)) .nil)) : Sel _ [row (.slice ao_21368 x_21363.1.length cap_21369) 3 1 (x_21363.1.flatMap e3), row (.slice ao_21376 x_21371.1.length cap_21377) 3 1 (x_21371.1.flatMap e3)] _).mem hx'); exact w_law33_Ints (Z := _) (ao_3704 := ao_21368) (cap_3705 := cap_21369) (ao_3708 := ao_21376) (cap_3709 := cap_21377) (a_3703 := x_21363.1) (b_3707 := x_21371.1) (r := x_21387) w pz (ZA.row (hw.lent (.nil : Sel [stb b_21386 35 [(.int .i64 x_21383.1.fLo), (.int .i64 x_21383.1.fHi)], stb b_21382 35 [(.int .i64 x_21379.1.fLo), (.int .i64 x_21379.1.fHi)], row (.slice ao_21376 x_21371.1.length cap_21377) 3 1 (x_21371.1.flatMap e3), row (.slice ao_21368 x_21363.1.length cap_21369) 3 1 (x_21363.1.flatMap e3)] [] [stb b_21386 35 [(.int .i64 x_21383.1.fLo), (.int .i64 x_21383.1.fHi)], stb b_21382 35 [(.int .i64 x_21379.1.fLo), (.int .i64 x_21379.1.fHi)], row (.slice ao_21376 x_21371.1.length cap_21377) 3 1 (x_21371.1.flatMap e3), row (.slice ao_21368 x_21363.1.length cap_21369) 3 1 (x_21363.1.flatMap e3)]) (B := [row (.slice ao_21368 x_21363.1.length cap_21369) 3 1 (x_21363.1.flatMap e3), row (.slice ao_21376 x_21371.1.length cap_21377) 3 1 (x_21371.1.flatMap e3)]) (fun _ hx' => ((.cons (.there (.there (.there .here))) (.cons (.there (.there .here)) .nil)) : Sel _ [row (.slice ao_21368 x_21363.1.length cap_21369) 3 1 (x_21363.1.flatMap e3), row (.slice ao_21376 x_21371.1.length cap_21377) 3 1 (x_21371.1.flatMap e3)] _).mem hx') (.head _) _) (RR.flat (enc := e3) (fun _ => rfl) _) ⟨w, pz.1⟩) (ZA.row (hw.lent (.nil : Sel [stb b_21386 35 [(.int .i64 x_21383.1.fLo), (.int .i64 x_21383.1.fHi)], stb b_21382 35 [(.int .i64 x_21379.1.fLo), (.int .i64 x_21379.1.fHi)], row (.slice ao_21376 x_21371.1.length cap_21377) 3 1 (x_21371.1.flatMap e3), row (.slice ao_21368 x_21363.1.length cap_21369) 3 1 (x_21363.1.flatMap e3)] [] [stb b_21386 35 [(.int .i64 x_21383.1.fLo), (.int .i64 x_21383.1.fHi)], stb b_21382 35 [(.int .i64 x_21379.1.fLo), (.int .i64 x_21379.1.fHi)], row (.slice ao_21376 x_21371.1.length cap_21377) 3 1 (x_21371.1.flatMap e3), row (.slice ao_21368 x_21363.1.length cap_21369) 3 1 (x_21363.1.flatMap e3)]) (B := [row (.slice ao_21368 x_21363.1.length cap_21369) 3 1 (x_21363.1.flatMap e3), row (.slice ao_21376 x_21371.1.length cap_21377) 3 1 (x_21371.1.flatMap e3)]) (fun _ hx' => ((.cons (.there (.there (.there .here))) (.cons (.there (.there .here)) .nil)) : Sel _ [row (.slice ao_21368 x_21363.1.length cap_21369) 3 1 (x_21363.1.flatMap e3), row (.slice ao_21376 x_21371.1.length cap_21377) 3 1 (x_21371.1.flatMap e3)] _).mem hx') (.tail _ (.head _)) _) (RR.flat (enc := e3) (fun _ => rfl) _) ⟨w, pz.1⟩) hx_21388) ?_
            refine WL.quiet (d := 80) rfl rfl rfl (q_pickT rfl rfl) ?_
            exact WL.cutEnd () trivial (.cons rfl (.cons rfl (.cons rfl (.cons rfl (.cons rfl (.cons rfl (.cons (some_bool hq_21398) .nil))))))) (.cons .here (.cons .here (.cons .here (.cons .here .nil))))
          · have hg_21399 := hb'; clear hb'
            have hq_21400 := ite_f hb_21390 hg_21399
            replace hq_21400 := Option.some.inj hq_21400
            refine WL.pin (i := 76) rfl hg_21399 ?_
            refine WL.skip rfl rfl rfl ?_
            refine WL.skip rfl rfl rfl ?_
            refine WL.skip rfl rfl rfl ?_
            refine WL.quiet (d := 80) rfl rfl rfl (q_pickF rfl rfl) ?_
            exact WL.cutEnd () trivial (.cons rfl (.cons rfl (.cons rfl (.cons rfl (.cons rfl (.cons rfl (.cons (some_bool hq_21400) .nil))))))) (.cons .here (.cons .here (.cons .here (.cons .here .nil))))
        · skip
          refine WL.quiet (d := 81) rfl rfl rfl (q_move rfl) ?_
          refine WL.cut0 True [(17, (.pointer (some ⟨b_21382, 0, none⟩))), (18, (.int .i64 x_21379.2)), (19, (.pointer (some ⟨b_21386, 0, none⟩))), (20, (.int .i64 x_21383.2)), (85, (.bool (b_21389 && (decide (x_21363.2 = x_21371.2)))))] [stb b_21386 35 [(.int .i64 x_21383.1.fLo), (.int .i64 x_21383.1.fHi)], stb b_21382 35 [(.int .i64 x_21379.1.fLo), (.int .i64 x_21379.1.fHi)], row (.slice ao_21376 x_21371.1.length cap_21377) 3 1 (x_21371.1.flatMap e3), row (.slice ao_21368 x_21363.1.length cap_21369) 3 1 (x_21363.1.flatMap e3)] 4 ?_ (fun _ => ?_)
          · rcases Bool.eq_false_or_eq_true b_21389 with hb' | hb'
            · have hg_21401 := hb'; clear hb'
              refine WL.pin (i := 81) rfl hg_21401 ?_
              refine WL.quiet (d := 82) rfl rfl rfl (q_move rfl) ?_
              refine WL.quiet (d := 83) rfl rfl rfl (q_move rfl) ?_
              refine WL.quiet (d := 84) rfl rfl rfl (q_eql rfl rfl) ?_
              refine WL.quiet (d := 85) rfl rfl rfl (q_pickT rfl rfl) ?_
              exact WL.cutEnd () trivial (.cons rfl (.cons rfl (.cons rfl (.cons rfl (.cons (some_bool (and_r hg_21401)) .nil))))) (.cons .here (.cons .here (.cons .here (.cons .here .nil))))
            · have hg_21402 := hb'; clear hb'
              refine WL.pin (i := 81) rfl hg_21402 ?_
              refine WL.skip rfl rfl rfl ?_
              refine WL.skip rfl rfl rfl ?_
              refine WL.skip rfl rfl rfl ?_
              refine WL.quiet (d := 85) rfl rfl rfl (q_pickF rfl rfl) ?_
              exact WL.cutEnd () trivial (.cons rfl (.cons rfl (.cons rfl (.cons rfl (.cons (some_bool (and_l hg_21402)) .nil))))) (.cons .here (.cons .here (.cons .here (.cons .here .nil))))
          · skip
            refine WL.quiet (d := 86) rfl rfl rfl (q_move rfl) ?_
            refine WL.cut0 True [(18, (.int .i64 x_21379.2)), (20, (.int .i64 x_21383.2)), (90, (.bool ((b_21389 && (decide (x_21363.2 = x_21371.2))) && (decide (x_21379.1 = x_21383.1)))))] [stb b_21386 35 [(.int .i64 x_21383.1.fLo), (.int .i64 x_21383.1.fHi)], stb b_21382 35 [(.int .i64 x_21379.1.fLo), (.int .i64 x_21379.1.fHi)], row (.slice ao_21376 x_21371.1.length cap_21377) 3 1 (x_21371.1.flatMap e3), row (.slice ao_21368 x_21363.1.length cap_21369) 3 1 (x_21363.1.flatMap e3)] 4 ?_ (fun _ => ?_)
            · rcases Bool.eq_false_or_eq_true (b_21389 && (decide (x_21363.2 = x_21371.2))) with hb' | hb'
              · have hg_21403 := hb'; clear hb'
                refine WL.pin (i := 86) rfl hg_21403 ?_
                refine WL.quiet (d := 87) rfl rfl rfl (q_loadA (cs := [(.int .i64 x_21379.1.fLo), (.int .i64 x_21379.1.fHi)]) aggT_35 rfl rfl (rd_all (.there .here))) ?_
                refine WL.quiet (d := 88) rfl rfl rfl (q_loadA (cs := [(.int .i64 x_21383.1.fLo), (.int .i64 x_21383.1.fHi)]) aggT_35 rfl rfl (rd_all .here)) ?_
                refine WL.quiet (d := 89) rfl rfl rfl (q_aggeql (enc := e35) (a := x_21379.1) (b := x_21383.1) eqT_35 rfl rfl) ?_
                refine WL.quiet (d := 90) rfl rfl rfl (q_pickT rfl rfl) ?_
                exact WL.cutEnd () trivial (.cons rfl (.cons rfl (.cons (some_bool (and_r hg_21403)) .nil))) (.cons .here (.cons .here (.cons .here (.cons .here .nil))))
              · have hg_21404 := hb'; clear hb'
                refine WL.pin (i := 86) rfl hg_21404 ?_
                refine WL.skip rfl rfl rfl ?_
                refine WL.skip rfl rfl rfl ?_
                refine WL.skip rfl rfl rfl ?_
                refine WL.quiet (d := 90) rfl rfl rfl (q_pickF rfl rfl) ?_
                exact WL.cutEnd () trivial (.cons rfl (.cons rfl (.cons (some_bool (and_l hg_21404)) .nil))) (.cons .here (.cons .here (.cons .here (.cons .here .nil))))
            · skip
              refine WL.quiet (d := 91) rfl rfl rfl (q_move rfl) ?_
              refine WL.cut0 True [(95, (.bool (((b_21389 && (decide (x_21363.2 = x_21371.2))) && (decide (x_21379.1 = x_21383.1))) && (decide (x_21379.2 = x_21383.2)))))] [stb b_21386 35 [(.int .i64 x_21383.1.fLo), (.int .i64 x_21383.1.fHi)], stb b_21382 35 [(.int .i64 x_21379.1.fLo), (.int .i64 x_21379.1.fHi)], row (.slice ao_21376 x_21371.1.length cap_21377) 3 1 (x_21371.1.flatMap e3), row (.slice ao_21368 x_21363.1.length cap_21369) 3 1 (x_21363.1.flatMap e3)] 4 ?_ (fun _ => ?_)
              · rcases Bool.eq_false_or_eq_true ((b_21389 && (decide (x_21363.2 = x_21371.2))) && (decide (x_21379.1 = x_21383.1))) with hb' | hb'
                · have hg_21405 := hb'; clear hb'
                  refine WL.pin (i := 91) rfl hg_21405 ?_
                  refine WL.quiet (d := 92) rfl rfl rfl (q_move rfl) ?_
                  refine WL.quiet (d := 93) rfl rfl rfl (q_move rfl) ?_
                  refine WL.quiet (d := 94) rfl rfl rfl (q_eql rfl rfl) ?_
                  refine WL.quiet (d := 95) rfl rfl rfl (q_pickT rfl rfl) ?_
                  exact WL.cutEnd () trivial (.cons (some_bool (and_r hg_21405)) .nil) (.cons .here (.cons .here (.cons .here (.cons .here .nil))))
                · have hg_21406 := hb'; clear hb'
                  refine WL.pin (i := 91) rfl hg_21406 ?_
                  refine WL.skip rfl rfl rfl ?_
                  refine WL.skip rfl rfl rfl ?_
                  refine WL.skip rfl rfl rfl ?_
                  refine WL.quiet (d := 95) rfl rfl rfl (q_pickF rfl rfl) ?_
                  exact WL.cutEnd () trivial (.cons (some_bool (and_l hg_21406)) .nil) (.cons .here (.cons .here (.cons .here (.cons .here .nil))))
              · skip
                refine WL.quiet (d := 96) rfl rfl rfl (q_move rfl) ?_
                refine WL.cut0 True [(98, (.bool b_21393))] [stb b_21386 35 [(.int .i64 x_21383.1.fLo), (.int .i64 x_21383.1.fHi)], stb b_21382 35 [(.int .i64 x_21379.1.fLo), (.int .i64 x_21379.1.fHi)], row (.slice ao_21376 x_21371.1.length cap_21377) 3 1 (x_21371.1.flatMap e3), row (.slice ao_21368 x_21363.1.length cap_21369) 3 1 (x_21363.1.flatMap e3)] 2 ?_ (fun _ => ?_)
                · rcases Bool.eq_false_or_eq_true (((b_21389 && (decide (x_21363.2 = x_21371.2))) && (decide (x_21379.1 = x_21383.1))) && (decide (x_21379.2 = x_21383.2))) with hb' | hb'
                  · have hg_21407 := hb'; clear hb'
                    have hq_21408 := ite_t hb_21394 hg_21407
                    obtain ⟨x_21391, hx_21392, hq_21408⟩ := bind_elim hq_21408
                    replace hq_21408 := Option.some.inj hq_21408
                    refine WL.pin (i := 96) rfl hg_21407 ?_
                    refine WL.callD (dd := 97) rfl rfl rfl (run_call (l := []) Try.call10 .nil) (.nil : Sel [stb b_21386 35 [(.int .i64 x_21383.1.fLo), (.int .i64 x_21383.1.fHi)], stb b_21382 35 [(.int .i64 x_21379.1.fLo), (.int .i64 x_21379.1.fHi)], row (.slice ao_21376 x_21371.1.length cap_21377) 3 1 (x_21371.1.flatMap e3), row (.slice ao_21368 x_21363.1.length cap_21369) 3 1 (x_21363.1.flatMap e3)] [] [stb b_21386 35 [(.int .i64 x_21383.1.fLo), (.int .i64 x_21383.1.fHi)], stb b_21382 35 [(.int .i64 x_21379.1.fLo), (.int .i64 x_21379.1.fHi)], row (.slice ao_21376 x_21371.1.length cap_21377) 3 1 (x_21371.1.flatMap e3), row (.slice ao_21368 x_21363.1.length cap_21369) 3 1 (x_21363.1.flatMap e3)]) (fun w hw => by have pz := (hz.call hw (.nil : Sel [stb b_21386 35 [(.int .i64 x_21383.1.fLo), (.int .i64 x_21383.1.fHi)], stb b_21382 35 [(.int .i64 x_21379.1.fLo), (.int .i64 x_21379.1.fHi)], row (.slice ao_21376 x_21371.1.length cap_21377) 3 1 (x_21371.1.flatMap e3), row (.slice ao_21368 x_21363.1.length cap_21369) 3 1 (x_21363.1.flatMap e3)] [] [stb b_21386 35 [(.int .i64 x_21383.1.fLo), (.int .i64 x_21383.1.fHi)], stb b_21382 35 [(.int .i64 x_21379.1.fLo), (.int .i64 x_21379.1.fHi)], row (.slice ao_21376 x_21371.1.length cap_21377) 3 1 (x_21371.1.flatMap e3), row (.slice ao_21368 x_21363.1.length cap_21369) 3 1 (x_21363.1.flatMap e3)])); exact w_law33_awake (Z := _)   (r := x_21391) w pz  hx_21392) ?_
                    refine WL.quiet (d := 98) rfl rfl rfl (q_pickT rfl rfl) ?_
                    exact WL.cutEnd () trivial (.cons (some_bool hq_21408) .nil) (.cons .here (.cons .here (.cons .here (.cons .here .nil))))
                  · have hg_21409 := hb'; clear hb'
                    have hq_21410 := ite_f hb_21394 hg_21409
                    replace hq_21410 := Option.some.inj hq_21410
                    refine WL.pin (i := 96) rfl hg_21409 ?_
                    refine WL.skip rfl rfl rfl ?_
                    refine WL.quiet (d := 98) rfl rfl rfl (q_pickF rfl rfl) ?_
                    exact WL.cutEnd () trivial (.cons (some_bool hq_21410) .nil) (.cons .here (.cons .here (.cons .here (.cons .here .nil))))
                · skip
                  refine WL.quiet (d := 8) rfl rfl rfl (q_assign rfl) ?_
                  refine WL.nil ?_
                  refine WX.then ?_
                  refine WC.ret ?_
                  obtain rfl := Option.some.inj h
                  refine WX.bpRet Try.results3 (.tmp rfl .nil) (fun w hw => ?_)
                  exact ⟨ret1 rfl, hw.sub .nil⟩
end Go.Proofs.Ytkhiiafgikioiaa
