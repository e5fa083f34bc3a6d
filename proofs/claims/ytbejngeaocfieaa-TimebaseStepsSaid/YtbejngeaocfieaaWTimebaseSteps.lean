/- A part of this claim's proof: models of the functions that the law reaches, with the proof that the functions compute them; plain laws about the models. No conditions beyond those in each theorem's statement. -/
import Derived.Test.YtbejngeaocfieaaW34d
namespace Go.Proofs.Ytbejngeaocfieaa
open Go Go.RowKit Sep
set_option linter.all false
set_option maxRecDepth 30000
def m_law34_TimebaseSteps_L4 (x_74639 : List (List Int) × Int) (v_77186 : Int) (s_71379 : Stimebase_Setup) (k_77626 : (List Int) → Option Bool) : Nat → (List Int) → Int → Option Bool
  | 0, _, _ => none
  | n_77673 + 1, now_77668, v_77671 => if decide (v_77671 < (((([] : List Int) ++ (nth x_74639.1 v_77186)).length : Nat) : Int)) then chk ((0 : Int) ≤ v_77671 ∧ v_77671 < ((now_77668.length : Nat) : Int)) (chk ((0 : Int) ≤ v_77671 ∧ v_77671 < ((s_71379.fDrift.length : Nat) : Int)) (m_law34_TimebaseSteps_L4 x_74639 v_77186 s_71379 k_77626 n_77673 (now_77668.set (v_77671 : Int).toNat (i64 ((nth now_77668 v_77671) + (nth s_71379.fDrift v_77671)))) (i64 (v_77671 + 1)))) else k_77626 now_77668
theorem m_law34_TimebaseSteps_L4_fuel {n : Nat} {x_74639 : List (List Int) × Int} {v_77186 : Int} {s_71379 : Stimebase_Setup} {k_77626 : (List Int) → Option Bool} {now_77668 : List Int} {v_77671 : Int} {r : Bool} (h : m_law34_TimebaseSteps_L4 x_74639 v_77186 s_71379 k_77626 n now_77668 v_77671 = some r) : ∃ m, n = m + 1 := by
  cases n with
  | zero => cases h
  | succ m => exact ⟨m, rfl⟩

def m_law34_TimebaseSteps_L3 (rounds_71395 : Int) (x_74639 : List (List Int) × Int) (s_71379 : Stimebase_Setup) (k_76597 : Option Bool) : Nat → Int → Option Bool
  | 0, _ => none
  | n_77188 + 1, v_77186 => if decide (v_77186 < (i64 ((i64 (Int.tmod rounds_71395 31)) + 1))) then jp0 (m_law34_TimebaseSteps_L3 rounds_71395 x_74639 s_71379 k_76597 n_77188 (i64 (v_77186 + 1))) fun k_77481 => chk ((0 : Int) ≤ v_77186 ∧ v_77186 < ((x_74639.1.length : Nat) : Int)) (chk ((((([] : List Int) ++ (nth x_74639.1 v_77186)).length : Nat) : Int) * 8 ≤ 140737488355328 ∧ (((([] : List Int) ++ (nth x_74639.1 v_77186)).length : Nat) : Int) ≤ 4611686018427387904) (jp1 (fun (now_77623 : List Int) => (m_timebase_Reads s_71379 now_77623 v_77186).bind fun x_77710 => (m_timebase_Round x_77710.1 s_71379.fF).bind fun x_77722 => (if (decide (x_77710.2 ≠ 0)) || (decide (x_77722.2 ≠ 0)) then some true else chk ((0 : Int) ≤ (i64 (v_77186 + 1)) ∧ (i64 (v_77186 + 1) : Int) ≤ (i64 (v_77186 + 2)) ∧ (i64 (v_77186 + 2)) ≤ ((x_74639.1.length : Nat) : Int)) ((m_law34_lists ([x_77722.1] : List (List Int)) ((x_74639.1.take ((i64 (v_77186 + 2)) : Int).toNat).drop ((i64 (v_77186 + 1)) : Int).toNat)).bind fun x_77754 => some (!x_77754))).bind fun b_77756 => if b_77756 then some false else k_77481) fun k_77626 => m_law34_TimebaseSteps_L4 x_74639 v_77186 s_71379 k_77626 FUEL (([] : List Int) ++ (nth x_74639.1 v_77186)) 0)) else k_76597
theorem m_law34_TimebaseSteps_L3_fuel {n : Nat} {rounds_71395 : Int} {x_74639 : List (List Int) × Int} {s_71379 : Stimebase_Setup} {k_76597 : Option Bool} {v_77186 : Int} {r : Bool} (h : m_law34_TimebaseSteps_L3 rounds_71395 x_74639 s_71379 k_76597 n v_77186 = some r) : ∃ m, n = m + 1 := by
  cases n with
  | zero => cases h
  | succ m => exact ⟨m, rfl⟩

/-- nacellelaw34.TimebaseSteps -/
def m_law34_TimebaseSteps (s_71379 : Stimebase_Setup) (rounds_71395 : Int) : Option Bool :=
  (m_law34_few s_71379).bind fun x_74606 => (if !x_74606 then some true else (m_timebase_Valid s_71379).bind fun x_74608 => some (!x_74608)).bind fun b_74610 => if b_74610 then (m_law34_awake).bind fun x_74617 => some x_74617 else (m_timebase_Run s_71379 (i64 (Int.tmod rounds_71395 31))).bind fun x_74623 => (m_timebase_Run s_71379 (i64 ((i64 (Int.tmod rounds_71395 31)) + 1))).bind fun x_74639 => (if ((decide (x_74623.2 ≠ 0)) || (decide (x_74639.2 ≠ 0))) || (decide (((x_74639.1.length : Nat) : Int) ≠ (i64 ((i64 (Int.tmod rounds_71395 31)) + 2)))) then some true else chk ((0 : Int) ≤ 0 ∧ (0 : Int) ≤ (i64 ((i64 (Int.tmod rounds_71395 31)) + 1)) ∧ (i64 ((i64 (Int.tmod rounds_71395 31)) + 1)) ≤ ((x_74639.1.length : Nat) : Int)) ((m_law34_lists (x_74639.1.take ((i64 ((i64 (Int.tmod rounds_71395 31)) + 1)) : Int).toNat) x_74623.1).bind fun x_74791 => some (!x_74791))).bind fun b_74793 => (if b_74793 then some true else chk ((0 : Int) ≤ 0 ∧ (0 : Int) ≤ 1 ∧ 1 ≤ ((x_74623.1.length : Nat) : Int)) ((m_law34_lists (x_74623.1.take (1 : Int).toNat) ([s_71379.fStart] : List (List Int))).bind fun x_74802 => some (!x_74802))).bind fun b_74804 => if b_74804 then some false else jp0 ((m_law34_awake).bind fun x_77771 => some x_77771) fun k_76597 => m_law34_TimebaseSteps_L3 rounds_71395 x_74639 s_71379 k_76597 FUEL 0

set_option maxRecDepth 20000 in
theorem w_law34_TimebaseSteps (Z : Zp)  (ao_71380 : Option Addr) (cap_71381 : Nat) (ao_71383 : Option Addr) (cap_71384 : Nat) (ao_71386 : Option Addr) (cap_71387 : Nat) (ao_71389 : Option Addr) (cap_71390 : Nat) (ao_71392 : Option Addr) (cap_71393 : Nat) (s_71379 : Stimebase_Setup) (rounds_71395 : Int) (r : Bool) (w₀ : World) (hz : PZ [] w₀ Z)
    (hs_71382 : ZS Z 1 (fun r x => r = e3 x) ao_71380 cap_71381 s_71379.fStart)
    (hs_71385 : ZS Z 1 (fun r x => r = e3 x) ao_71383 cap_71384 s_71379.fDrift)
    (hs_71388 : ZS Z 1 (fun r x => r = e3 x) ao_71386 cap_71387 s_71379.fFaulty)
    (hs_71391 : ZS Z 1 (fun r x => r = e3 x) ao_71389 cap_71390 s_71379.fErrs)
    (hs_71394 : ZS Z 1 (fun r x => r = e3 x) ao_71392 cap_71393 s_71379.fLies)
    (h : m_law34_TimebaseSteps s_71379 rounds_71395 = some r) :
    Calls Try.prog 8 #[(.agg #[(.slice ao_71380 s_71379.fStart.length cap_71381), (.slice ao_71383 s_71379.fDrift.length cap_71384), (.slice ao_71386 s_71379.fFaulty.length cap_71387), (.int .i64 s_71379.fF), (.int .i64 s_71379.fE), (.slice ao_71389 s_71379.fErrs.length cap_71390), (.slice ao_71392 s_71379.fLies.length cap_71393)]), (.int .u8 rounds_71395)] w₀ fun e w' => ∃ Zn : Zp, e = .returned (.bool r) ∧ True ∧ Hp [] w₀ w' [fz Zn] := by
  unfold m_law34_TimebaseSteps at h
  refine Calls.ofWC (vs := [(.agg #[(.slice ao_71380 s_71379.fStart.length cap_71381), (.slice ao_71383 s_71379.fDrift.length cap_71384), (.slice ao_71386 s_71379.fFaulty.length cap_71387), (.int .i64 s_71379.fF), (.int .i64 s_71379.fE), (.slice ao_71389 s_71379.fErrs.length cap_71390), (.slice ao_71392 s_71379.fLies.length cap_71393)]), (.int .u8 rounds_71395)]) (pre := []) (env := [(0, (.agg #[(.slice ao_71380 s_71379.fStart.length cap_71381), (.slice ao_71383 s_71379.fDrift.length cap_71384), (.slice ao_71386 s_71379.fFaulty.length cap_71387), (.int .i64 s_71379.fF), (.int .i64 s_71379.fE), (.slice ao_71389 s_71379.fErrs.length cap_71390), (.slice ao_71392 s_71379.fLies.length cap_71393)])), (1, (.int .u8 rounds_71395))]) Try.func8 rfl Try.ntmps8 rfl (Hp.nil w₀ _) rfl ?_
  refine WC.pool ?_
  refine WC.seq ?_
  refine WC.region ?_
  refine WL.new (dd := 2) rfl rfl rfl (e_box (cs := [(.slice ao_71380 s_71379.fStart.length cap_71381), (.slice ao_71383 s_71379.fDrift.length cap_71384), (.slice ao_71386 s_71379.fFaulty.length cap_71387), (.int .i64 s_71379.fF), (.int .i64 s_71379.fE), (.slice ao_71389 s_71379.fErrs.length cap_71390), (.slice ao_71392 s_71379.fLies.length cap_71393)]) rfl rfl) ?_
  intro b_74588 _
  refine WL.quiet (d := 4) rfl rfl rfl (q_assign rfl) ?_
  refine WL.nil ?_
  refine WX.then ?_
  refine WC.seq ?_
  refine WC.seq ?_
  obtain ⟨x_74606, hx_74607, h⟩ := bind_elim h
  obtain ⟨b_74610, hb_74611, h⟩ := bind_elim h
  refine WC.region ?_
  refine WL.quiet (d := 17) rfl rfl rfl (q_loadA (cs := [(.slice ao_71380 s_71379.fStart.length cap_71381), (.slice ao_71383 s_71379.fDrift.length cap_71384), (.slice ao_71386 s_71379.fFaulty.length cap_71387), (.int .i64 s_71379.fF), (.int .i64 s_71379.fE), (.slice ao_71389 s_71379.fErrs.length cap_71390), (.slice ao_71392 s_71379.fLies.length cap_71393)]) aggT_24 rfl rfl (rd_all .here)) ?_
  refine WL.callD (dd := 18) rfl rfl rfl (run_call (l := [.tmp 17]) Try.call11 (.cons rfl .nil)) (.nil : Sel [stb b_74588 24 [(.slice ao_71380 s_71379.fStart.length cap_71381), (.slice ao_71383 s_71379.fDrift.length cap_71384), (.slice ao_71386 s_71379.fFaulty.length cap_71387), (.int .i64 s_71379.fF), (.int .i64 s_71379.fE), (.slice ao_71389 s_71379.fErrs.length cap_71390), (.slice ao_71392 s_71379.fLies.length cap_71393)], fz []] [] [stb b_74588 24 [(.slice ao_71380 s_71379.fStart.length cap_71381), (.slice ao_71383 s_71379.fDrift.length cap_71384), (.slice ao_71386 s_71379.fFaulty.length cap_71387), (.int .i64 s_71379.fF), (.int .i64 s_71379.fE), (.slice ao_71389 s_71379.fErrs.length cap_71390), (.slice ao_71392 s_71379.fLies.length cap_71393)], fz []]) (fun w hw => by have pz := (hz.call2 hw (.nil : Sel [stb b_74588 24 [(.slice ao_71380 s_71379.fStart.length cap_71381), (.slice ao_71383 s_71379.fDrift.length cap_71384), (.slice ao_71386 s_71379.fFaulty.length cap_71387), (.int .i64 s_71379.fF), (.int .i64 s_71379.fE), (.slice ao_71389 s_71379.fErrs.length cap_71390), (.slice ao_71392 s_71379.fLies.length cap_71393)], fz []] [] [stb b_74588 24 [(.slice ao_71380 s_71379.fStart.length cap_71381), (.slice ao_71383 s_71379.fDrift.length cap_71384), (.slice ao_71386 s_71379.fFaulty.length cap_71387), (.int .i64 s_71379.fF), (.int .i64 s_71379.fE), (.slice ao_71389 s_71379.fErrs.length cap_71390), (.slice ao_71392 s_71379.fLies.length cap_71393)], fz []]) (.there .here)); exact w_law34_few (Z := _) (ao_26 := ao_71380) (cap_27 := cap_71381) (ao_29 := ao_71383) (cap_30 := cap_71384) (ao_32 := ao_71386) (cap_33 := cap_71387) (ao_35 := ao_71389) (cap_36 := cap_71390) (ao_38 := ao_71392) (cap_39 := cap_71393) (s_25 := s_71379) (r := x_74606) w pz (hs_71382.mono (Zle.left _ _)) (hs_71385.mono (Zle.left _ _)) (hs_71388.mono (Zle.left _ _)) (hs_71391.mono (Zle.left _ _)) (hs_71394.mono (Zle.left _ _)) hx_74607) ?_
  refine WL.quiet (d := 19) rfl rfl rfl (q_not rfl) ?_
  refine WL.quiet (d := 20) rfl rfl rfl (q_move rfl) ?_
  refine WL.cut0 True [(1, (.int .u8 rounds_71395)), (2, (.pointer (some ⟨b_74588, 0, none⟩))), (24, (.bool b_74610))] [stb b_74588 24 [(.slice ao_71380 s_71379.fStart.length cap_71381), (.slice ao_71383 s_71379.fDrift.length cap_71384), (.slice ao_71386 s_71379.fFaulty.length cap_71387), (.int .i64 s_71379.fF), (.int .i64 s_71379.fE), (.slice ao_71389 s_71379.fErrs.length cap_71390), (.slice ao_71392 s_71379.fLies.length cap_71393)], fz []] 4 ?_ (fun _ => ?_)
  · rcases Bool.eq_false_or_eq_true (!x_74606) with hb' | hb'
    · have hg_74612 := hb'; clear hb'
      have hq_74613 := ite_t hb_74611 hg_74612
      replace hq_74613 := Option.some.inj hq_74613
      refine WL.pin (i := 20) rfl hg_74612 ?_
      refine WL.skip rfl rfl rfl ?_
      refine WL.skip rfl rfl rfl ?_
      refine WL.skip rfl rfl rfl ?_
      refine WL.quiet (d := 24) rfl rfl rfl (q_pickT rfl rfl) ?_
      exact WL.cutEnd () trivial (.cons rfl (.cons rfl (.cons (some_bool hq_74613) .nil))) (.cons .here (.cons .here .nil))
    · have hg_74614 := hb'; clear hb'
      have hq_74615 := ite_f hb_74611 hg_74614
      obtain ⟨x_74608, hx_74609, hq_74615⟩ := bind_elim hq_74615
      replace hq_74615 := Option.some.inj hq_74615
      refine WL.pin (i := 20) rfl hg_74614 ?_
      refine WL.quiet (d := 21) rfl rfl rfl (q_loadA (cs := [(.slice ao_71380 s_71379.fStart.length cap_71381), (.slice ao_71383 s_71379.fDrift.length cap_71384), (.slice ao_71386 s_71379.fFaulty.length cap_71387), (.int .i64 s_71379.fF), (.int .i64 s_71379.fE), (.slice ao_71389 s_71379.fErrs.length cap_71390), (.slice ao_71392 s_71379.fLies.length cap_71393)]) aggT_24 rfl rfl (rd_all .here)) ?_
      refine WL.callD (dd := 22) rfl rfl rfl (run_call (l := [.tmp 21]) Try.call19 (.cons rfl .nil)) (.nil : Sel [stb b_74588 24 [(.slice ao_71380 s_71379.fStart.length cap_71381), (.slice ao_71383 s_71379.fDrift.length cap_71384), (.slice ao_71386 s_71379.fFaulty.length cap_71387), (.int .i64 s_71379.fF), (.int .i64 s_71379.fE), (.slice ao_71389 s_71379.fErrs.length cap_71390), (.slice ao_71392 s_71379.fLies.length cap_71393)], fz []] [] [stb b_74588 24 [(.slice ao_71380 s_71379.fStart.length cap_71381), (.slice ao_71383 s_71379.fDrift.length cap_71384), (.slice ao_71386 s_71379.fFaulty.length cap_71387), (.int .i64 s_71379.fF), (.int .i64 s_71379.fE), (.slice ao_71389 s_71379.fErrs.length cap_71390), (.slice ao_71392 s_71379.fLies.length cap_71393)], fz []]) (fun w hw => by have pz := (hz.call2 hw (.nil : Sel [stb b_74588 24 [(.slice ao_71380 s_71379.fStart.length cap_71381), (.slice ao_71383 s_71379.fDrift.length cap_71384), (.slice ao_71386 s_71379.fFaulty.length cap_71387), (.int .i64 s_71379.fF), (.int .i64 s_71379.fE), (.slice ao_71389 s_71379.fErrs.length cap_71390), (.slice ao_71392 s_71379.fLies.length cap_71393)], fz []] [] [stb b_74588 24 [(.slice ao_71380 s_71379.fStart.length cap_71381), (.slice ao_71383 s_71379.fDrift.length cap_71384), (.slice ao_71386 s_71379.fFaulty.length cap_71387), (.int .i64 s_71379.fF), (.int .i64 s_71379.fE), (.slice ao_71389 s_71379.fErrs.length cap_71390), (.slice ao_71392 s_71379.fLies.length cap_71393)], fz []]) (.there .here)); exact w_timebase_Valid (Z := _) (ao_104 := ao_71380) (cap_105 := cap_71381) (ao_107 := ao_71383) (cap_108 := cap_71384) (ao_110 := ao_71386) (cap_111 := cap_71387) (ao_113 := ao_71389) (cap_114 := cap_71390) (ao_116 := ao_71392) (cap_117 := cap_71393) (s_103 := s_71379) (r := x_74608) w pz (hs_71382.mono (Zle.left _ _)) (hs_71385.mono (Zle.left _ _)) (hs_71388.mono (Zle.left _ _)) (hs_71391.mono (Zle.left _ _)) (hs_71394.mono (Zle.left _ _)) hx_74609) ?_
      refine WL.quiet (d := 23) rfl rfl rfl (q_not rfl) ?_
      refine WL.quiet (d := 24) rfl rfl rfl (q_pickF rfl rfl) ?_
      exact WL.cutEnd () trivial (.cons rfl (.cons rfl (.cons (some_bool hq_74615) .nil))) (.cons .here (.cons .here .nil))
  · skip
    refine WL.nil ?_
    refine WX.then ?_
    refine WC.cond rfl (fun hb_74616 => ?_) (fun hb_74616 => ?_)
    · replace h := ite_t h hb_74616
      refine WC.seq ?_
      obtain ⟨x_74617, hx_74618, h⟩ := bind_elim h
      refine WC.region ?_
      refine WL.enter1 (dd := 25) rfl rfl rfl (run_call (l := []) Try.call12 .nil) (.nil : Sel [stb b_74588 24 [(.slice ao_71380 s_71379.fStart.length cap_71381), (.slice ao_71383 s_71379.fDrift.length cap_71384), (.slice ao_71386 s_71379.fFaulty.length cap_71387), (.int .i64 s_71379.fF), (.int .i64 s_71379.fE), (.slice ao_71389 s_71379.fErrs.length cap_71390), (.slice ao_71392 s_71379.fLies.length cap_71393)], fz []] [] [stb b_74588 24 [(.slice ao_71380 s_71379.fStart.length cap_71381), (.slice ao_71383 s_71379.fDrift.length cap_71384), (.slice ao_71386 s_71379.fFaulty.length cap_71387), (.int .i64 s_71379.fF), (.int .i64 s_71379.fE), (.slice ao_71389 s_71379.fErrs.length cap_71390), (.slice ao_71392 s_71379.fLies.length cap_71393)], fz []]) (fun w hw => by have pz := (hz.call2 hw (.nil : Sel [stb b_74588 24 [(.slice ao_71380 s_71379.fStart.length cap_71381), (.slice ao_71383 s_71379.fDrift.length cap_71384), (.slice ao_71386 s_71379.fFaulty.length cap_71387), (.int .i64 s_71379.fF), (.int .i64 s_71379.fE), (.slice ao_71389 s_71379.fErrs.length cap_71390), (.slice ao_71392 s_71379.fLies.length cap_71393)], fz []] [] [stb b_74588 24 [(.slice ao_71380 s_71379.fStart.length cap_71381), (.slice ao_71383 s_71379.fDrift.length cap_71384), (.slice ao_71386 s_71379.fFaulty.length cap_71387), (.int .i64 s_71379.fF), (.int .i64 s_71379.fE), (.slice ao_71389 s_71379.fErrs.length cap_71390), (.slice ao_71392 s_71379.fLies.length cap_71393)], fz []]) (.there .here)); exact w_law34_awake (Z := _)   (r := x_74617) w pz  hx_74618) ?_
      rintro Zn_74621 _
      refine WL.merge .here (.there .here) ?_
      refine WL.quiet (d := 4) rfl rfl rfl (q_assign rfl) ?_
      refine WL.nil ?_
      refine WX.then ?_
      refine WC.ret ?_
      refine WX.thenRet ?_
      obtain rfl := Option.some.inj h
      refine WX.bpRet Try.results8 (.tmp rfl .nil) (fun w hw => ?_)
      exact ⟨([] ++ Zn_74621), ret1 rfl, trivial, hw.sub (.cons .here .nil)⟩
    · replace h := ite_f h hb_74616
      refine WC.skip ?_
      refine WX.then ?_
      refine WC.seq ?_
      refine WC.region ?_
      refine WL.quiet (d := 26) rfl rfl rfl (q_move rfl) ?_
      refine WL.quiet (d := 27) rfl rfl rfl (q_rem rfl rfl (by decide) rfl) ?_
      refine WL.quiet (d := 28) rfl rfl rfl (q_conv Try.underlying5 Try.underlying3 rfl rfl) ?_
      refine WL.quiet (d := 5) rfl rfl rfl (q_assign rfl) ?_
      refine WL.nil ?_
      refine WX.then ?_
      refine WC.seq ?_
      obtain ⟨x_74623, hx_74624, h⟩ := bind_elim h
      refine WC.region ?_
      refine WL.quiet (d := 30) rfl rfl rfl (q_loadA (cs := [(.slice ao_71380 s_71379.fStart.length cap_71381), (.slice ao_71383 s_71379.fDrift.length cap_71384), (.slice ao_71386 s_71379.fFaulty.length cap_71387), (.int .i64 s_71379.fF), (.int .i64 s_71379.fE), (.slice ao_71389 s_71379.fErrs.length cap_71390), (.slice ao_71392 s_71379.fLies.length cap_71393)]) aggT_24 rfl rfl (rd_all .here)) ?_
      refine WL.quiet (d := 31) rfl rfl rfl (q_move rfl) ?_
      refine WL.enter4 (dd := 32) rfl rfl rfl (run_call (l := [.tmp 30, .tmp 31]) Try.call16 (.cons rfl (.cons rfl .nil))) (.nil : Sel [stb b_74588 24 [(.slice ao_71380 s_71379.fStart.length cap_71381), (.slice ao_71383 s_71379.fDrift.length cap_71384), (.slice ao_71386 s_71379.fFaulty.length cap_71387), (.int .i64 s_71379.fF), (.int .i64 s_71379.fE), (.slice ao_71389 s_71379.fErrs.length cap_71390), (.slice ao_71392 s_71379.fLies.length cap_71393)], fz []] [] [stb b_74588 24 [(.slice ao_71380 s_71379.fStart.length cap_71381), (.slice ao_71383 s_71379.fDrift.length cap_71384), (.slice ao_71386 s_71379.fFaulty.length cap_71387), (.int .i64 s_71379.fF), (.int .i64 s_71379.fE), (.slice ao_71389 s_71379.fErrs.length cap_71390), (.slice ao_71392 s_71379.fLies.length cap_71393)], fz []]) (fun w hw => by have pz := (hz.call2 hw (.nil : Sel [stb b_74588 24 [(.slice ao_71380 s_71379.fStart.length cap_71381), (.slice ao_71383 s_71379.fDrift.length cap_71384), (.slice ao_71386 s_71379.fFaulty.length cap_71387), (.int .i64 s_71379.fF), (.int .i64 s_71379.fE), (.slice ao_71389 s_71379.fErrs.length cap_71390), (.slice ao_71392 s_71379.fLies.length cap_71393)], fz []] [] [stb b_74588 24 [(.slice ao_71380 s_71379.fStart.length cap_71381), (.slice ao_71383 s_71379.fDrift.length cap_71384), (.slice ao_71386 s_71379.fFaulty.length cap_71387), (.int .i64 s_71379.fF), (.int .i64 s_71379.fE), (.slice ao_71389 s_71379.fErrs.length cap_71390), (.slice ao_71392 s_71379.fLies.length cap_71393)], fz []]) (.there .here)); exact w_timebase_Run (Z := _) (ao_13211 := ao_71380) (cap_13212 := cap_71381) (ao_13214 := ao_71383) (cap_13215 := cap_71384) (ao_13217 := ao_71386) (cap_13218 := cap_71387) (ao_13220 := ao_71389) (cap_13221 := cap_71390) (ao_13223 := ao_71392) (cap_13224 := cap_71393) (s_13210 := s_71379) (rounds_13226 := (i64 (Int.tmod rounds_71395 31))) (r := x_74623) w pz (hs_71382.mono (Zle.left _ _)) (hs_71385.mono (Zle.left _ _)) (hs_71388.mono (Zle.left _ _)) (hs_71391.mono (Zle.left _ _)) (hs_71394.mono (Zle.left _ _)) hx_74624) ?_
      rintro Zn_74632 ao_74633 cap_74634 cs_74635 hf_74636
      refine WL.merge .here (.there (.there .here)) ?_
      refine WL.quiet (d := 29) rfl rfl rfl (q_move rfl) ?_
      refine WL.quiet (d := 33) rfl rfl rfl (q_extract rfl rfl) ?_
      refine WL.quiet (d := 34) rfl rfl rfl (q_extract rfl rfl) ?_
      refine WL.quiet (d := 6) rfl rfl rfl (q_assign rfl) ?_
      refine WL.quiet (d := 7) rfl rfl rfl (q_assign rfl) ?_
      refine WL.nil ?_
      refine WX.then ?_
      refine WC.seq ?_
      obtain ⟨x_74639, hx_74640, h⟩ := bind_elim h
      refine WC.region ?_
      refine WL.quiet (d := 36) rfl rfl rfl (q_loadA (cs := [(.slice ao_71380 s_71379.fStart.length cap_71381), (.slice ao_71383 s_71379.fDrift.length cap_71384), (.slice ao_71386 s_71379.fFaulty.length cap_71387), (.int .i64 s_71379.fF), (.int .i64 s_71379.fE), (.slice ao_71389 s_71379.fErrs.length cap_71390), (.slice ao_71392 s_71379.fLies.length cap_71393)]) aggT_24 rfl rfl (rd_all (.there (.there .here)))) ?_
      refine WL.quiet (d := 37) rfl rfl rfl (q_move rfl) ?_
      refine WL.quiet (d := 38) rfl rfl rfl (q_add rfl rfl rfl) ?_
      refine WL.enter4 (dd := 39) rfl rfl rfl (run_call (l := [.tmp 36, .tmp 38]) Try.call16 (.cons rfl (.cons rfl .nil))) (.nil : Sel [fz ([] ++ Zn_74632), row (.slice ao_74633 x_74623.1.length cap_74634) 22 1 cs_74635, stb b_74588 24 [(.slice ao_71380 s_71379.fStart.length cap_71381), (.slice ao_71383 s_71379.fDrift.length cap_71384), (.slice ao_71386 s_71379.fFaulty.length cap_71387), (.int .i64 s_71379.fF), (.int .i64 s_71379.fE), (.slice ao_71389 s_71379.fErrs.length cap_71390), (.slice ao_71392 s_71379.fLies.length cap_71393)]] [] [fz ([] ++ Zn_74632), row (.slice ao_74633 x_74623.1.length cap_74634) 22 1 cs_74635, stb b_74588 24 [(.slice ao_71380 s_71379.fStart.length cap_71381), (.slice ao_71383 s_71379.fDrift.length cap_71384), (.slice ao_71386 s_71379.fFaulty.length cap_71387), (.int .i64 s_71379.fF), (.int .i64 s_71379.fE), (.slice ao_71389 s_71379.fErrs.length cap_71390), (.slice ao_71392 s_71379.fLies.length cap_71393)]]) (fun w hw => by have pz := (hz.call2 hw (.nil : Sel [fz ([] ++ Zn_74632), row (.slice ao_74633 x_74623.1.length cap_74634) 22 1 cs_74635, stb b_74588 24 [(.slice ao_71380 s_71379.fStart.length cap_71381), (.slice ao_71383 s_71379.fDrift.length cap_71384), (.slice ao_71386 s_71379.fFaulty.length cap_71387), (.int .i64 s_71379.fF), (.int .i64 s_71379.fE), (.slice ao_71389 s_71379.fErrs.length cap_71390), (.slice ao_71392 s_71379.fLies.length cap_71393)]] [] [fz ([] ++ Zn_74632), row (.slice ao_74633 x_74623.1.length cap_74634) 22 1 cs_74635, stb b_74588 24 [(.slice ao_71380 s_71379.fStart.length cap_71381), (.slice ao_71383 s_71379.fDrift.length cap_71384), (.slice ao_71386 s_71379.fFaulty.length cap_71387), (.int .i64 s_71379.fF), (.int .i64 s_71379.fE), (.slice ao_71389 s_71379.fErrs.length cap_71390), (.slice ao_71392 s_71379.fLies.length cap_71393)]]) .here); exact w_timebase_Run (Z := _) (ao_13211 := ao_71380) (cap_13212 := cap_71381) (ao_13214 := ao_71383) (cap_13215 := cap_71384) (ao_13217 := ao_71386) (cap_13218 := cap_71387) (ao_13220 := ao_71389) (cap_13221 := cap_71390) (ao_13223 := ao_71392) (cap_13224 := cap_71393) (s_13210 := s_71379) (rounds_13226 := (i64 ((i64 (Int.tmod rounds_71395 31)) + 1))) (r := x_74639) w pz (hs_71382.mono ((Zle.left _ _).trans ((Zle.left _ _).trans (Zle.assoc _ _ _)))) (hs_71385.mono ((Zle.left _ _).trans ((Zle.left _ _).trans (Zle.assoc _ _ _)))) (hs_71388.mono ((Zle.left _ _).trans ((Zle.left _ _).trans (Zle.assoc _ _ _)))) (hs_71391.mono ((Zle.left _ _).trans ((Zle.left _ _).trans (Zle.assoc _ _ _)))) (hs_71394.mono ((Zle.left _ _).trans ((Zle.left _ _).trans (Zle.assoc _ _ _)))) hx_74640) ?_
      rintro Zn_74648 ao_74649 cap_74650 cs_74651 hf_74652
      refine WL.merge .here (.there .here) ?_
      refine WL.quiet (d := 35) rfl rfl rfl (q_move rfl) ?_
      refine WL.quiet (d := 40) rfl rfl rfl (q_extract rfl rfl) ?_
      refine WL.quiet (d := 41) rfl rfl rfl (q_extract rfl rfl) ?_
      refine WL.quiet (d := 8) rfl rfl rfl (q_assign rfl) ?_
      refine WL.quiet (d := 9) rfl rfl rfl (q_assign rfl) ?_
      refine WL.nil ?_
      refine WX.then ?_
      refine WC.seq ?_
      refine WC.seq ?_
      refine WC.freezeS (.there .here) .here hz (hf_74652.weak (fun _ _ h => p22_mono (Zle.assoc _ _ _) h)) ?_
      intro Zn_74759 hle_74760 hf_74761
      replace hf_74761 := hf_74761.weak (fun _ _ h => p22_mono hle_74760 h)
      refine WC.freezeS (.there .here) .here hz (hf_74636.weak (fun _ _ h => p22_mono ((Zle.assoc _ _ _).trans ((Zle.left _ _).trans ((Zle.assoc _ _ _).trans hle_74760))) h)) ?_
      intro Zn_74784 hle_74785 hf_74786
      replace hf_74786 := hf_74786.weak (fun _ _ h => p22_mono hle_74785 h)
      obtain ⟨b_74793, hb_74794, h⟩ := bind_elim h
      obtain ⟨b_74804, hb_74805, h⟩ := bind_elim h
      refine WC.draw (fun i => [].contains i) [] rfl ?_
      refine WD.pure (i := 0) (d := 42) (by kernel_rfl) rfl (by kernel_rfl) (by kernel_rfl) rfl rfl rfl (fun _ => q_move rfl) ?_
      refine WD.pure (i := 1) (d := 43) (by kernel_rfl) rfl (by kernel_rfl) (by kernel_rfl) rfl rfl rfl (fun _ => q_neq rfl rfl) ?_
      refine WD.pure (i := 2) (d := 44) (by kernel_rfl) rfl (by kernel_rfl) (by kernel_rfl) rfl rfl rfl (fun _ => q_move rfl) ?_
      refine WD.mid (fuel' := 25) [(1, (.int .u8 rounds_71395)), (2, (.pointer (some ⟨b_74588, 0, none⟩))), (24, (.bool b_74610)), (26, (.int .u8 rounds_71395)), (27, (.int .u8 (Int.tmod rounds_71395 31))), (28, (.int .i64 (i64 (Int.tmod rounds_71395 31)))), (5, (.int .i64 (i64 (Int.tmod rounds_71395 31)))), (30, (.agg #[(.slice ao_71380 s_71379.fStart.length cap_71381), (.slice ao_71383 s_71379.fDrift.length cap_71384), (.slice ao_71386 s_71379.fFaulty.length cap_71387), (.int .i64 s_71379.fF), (.int .i64 s_71379.fE), (.slice ao_71389 s_71379.fErrs.length cap_71390), (.slice ao_71392 s_71379.fLies.length cap_71393)])), (31, (.int .i64 (i64 (Int.tmod rounds_71395 31)))), (32, (.tuple #[(.slice ao_74633 x_74623.1.length cap_74634), (.int .i64 x_74623.2)])), (29, (.tuple #[(.slice ao_74633 x_74623.1.length cap_74634), (.int .i64 x_74623.2)])), (33, (.slice ao_74633 x_74623.1.length cap_74634)), (34, (.int .i64 x_74623.2)), (6, (.slice ao_74633 x_74623.1.length cap_74634)), (7, (.int .i64 x_74623.2)), (36, (.agg #[(.slice ao_71380 s_71379.fStart.length cap_71381), (.slice ao_71383 s_71379.fDrift.length cap_71384), (.slice ao_71386 s_71379.fFaulty.length cap_71387), (.int .i64 s_71379.fF), (.int .i64 s_71379.fE), (.slice ao_71389 s_71379.fErrs.length cap_71390), (.slice ao_71392 s_71379.fLies.length cap_71393)])), (37, (.int .i64 (i64 (Int.tmod rounds_71395 31)))), (38, (.int .i64 (i64 ((i64 (Int.tmod rounds_71395 31)) + 1)))), (39, (.tuple #[(.slice ao_74649 x_74639.1.length cap_74650), (.int .i64 x_74639.2)])), (35, (.tuple #[(.slice ao_74649 x_74639.1.length cap_74650), (.int .i64 x_74639.2)])), (40, (.slice ao_74649 x_74639.1.length cap_74650)), (41, (.int .i64 x_74639.2)), (8, (.slice ao_74649 x_74639.1.length cap_74650)), (9, (.int .i64 x_74639.2)), (42, (.int .i64 x_74623.2)), (43, (.bool (decide (x_74623.2 ≠ 0)))), (44, (.bool (decide (x_74623.2 ≠ 0)))), (47, (.bool ((decide (x_74623.2 ≠ 0)) || (decide (x_74639.2 ≠ 0)))))] (listedA 31 [5, 4, 3, 2, 1, 0]) ?_ (fun K_74806 => ?_)
      rotate_left
      · rcases Bool.eq_false_or_eq_true (decide (x_74623.2 ≠ 0)) with hb' | hb'
        · have hg_74807 := hb'; clear hb'
          refine WD.pin (i := 44) rfl hg_74807 ?_
          refine WD.skip (i := 3) (d := 45) (by kernel_rfl) rfl (by kernel_rfl) (by kernel_rfl) rfl rfl rfl ?_
          refine WD.skip (i := 4) (d := 46) (by kernel_rfl) rfl (by kernel_rfl) (by kernel_rfl) rfl rfl rfl ?_
          refine WD.pure (i := 5) (d := 47) (by kernel_rfl) rfl (by kernel_rfl) (by kernel_rfl) rfl rfl rfl (fun _ => q_pickT rfl rfl) ?_
          refine WD.reL (.cons .here (.cons .here .nil)) ?_ K_74806
          exact (.cons rfl (.cons rfl (.cons rfl (.cons rfl (.cons rfl (.cons rfl (.cons rfl (.cons rfl (.cons rfl (.cons rfl (.cons rfl (.cons rfl (.cons rfl (.cons rfl (.cons rfl (.cons rfl (.cons rfl (.cons rfl (.cons rfl (.cons rfl (.cons rfl (.cons rfl (.cons rfl (.cons rfl (.cons rfl (.cons rfl (.cons (some_bool (Eq.symm hg_74807)) (.cons (some_bool (or_l hg_74807)) .nil))))))))))))))))))))))))))))
        · have hg_74808 := hb'; clear hb'
          refine WD.pin (i := 44) rfl hg_74808 ?_
          refine WD.pure (i := 3) (d := 45) (by kernel_rfl) rfl (by kernel_rfl) (by kernel_rfl) rfl rfl rfl (fun _ => q_move rfl) ?_
          refine WD.pure (i := 4) (d := 46) (by kernel_rfl) rfl (by kernel_rfl) (by kernel_rfl) rfl rfl rfl (fun _ => q_neq rfl rfl) ?_
          refine WD.pure (i := 5) (d := 47) (by kernel_rfl) rfl (by kernel_rfl) (by kernel_rfl) rfl rfl rfl (fun _ => q_pickF rfl rfl) ?_
          refine WD.reL (.cons .here (.cons .here .nil)) ?_ K_74806
          exact (.cons rfl (.cons rfl (.cons rfl (.cons rfl (.cons rfl (.cons rfl (.cons rfl (.cons rfl (.cons rfl (.cons rfl (.cons rfl (.cons rfl (.cons rfl (.cons rfl (.cons rfl (.cons rfl (.cons rfl (.cons rfl (.cons rfl (.cons rfl (.cons rfl (.cons rfl (.cons rfl (.cons rfl (.cons rfl (.cons rfl (.cons (some_bool (Eq.symm hg_74808)) (.cons (some_bool (or_r hg_74808)) .nil))))))))))))))))))))))))))))
      refine WD.pure (i := 6) (d := 48) (by kernel_rfl) rfl (by kernel_rfl) (by kernel_rfl) rfl rfl rfl (fun _ => q_move rfl) ?_
      refine WD.mid (fuel' := 18) [(1, (.int .u8 rounds_71395)), (2, (.pointer (some ⟨b_74588, 0, none⟩))), (24, (.bool b_74610)), (26, (.int .u8 rounds_71395)), (27, (.int .u8 (Int.tmod rounds_71395 31))), (28, (.int .i64 (i64 (Int.tmod rounds_71395 31)))), (5, (.int .i64 (i64 (Int.tmod rounds_71395 31)))), (30, (.agg #[(.slice ao_71380 s_71379.fStart.length cap_71381), (.slice ao_71383 s_71379.fDrift.length cap_71384), (.slice ao_71386 s_71379.fFaulty.length cap_71387), (.int .i64 s_71379.fF), (.int .i64 s_71379.fE), (.slice ao_71389 s_71379.fErrs.length cap_71390), (.slice ao_71392 s_71379.fLies.length cap_71393)])), (31, (.int .i64 (i64 (Int.tmod rounds_71395 31)))), (32, (.tuple #[(.slice ao_74633 x_74623.1.length cap_74634), (.int .i64 x_74623.2)])), (29, (.tuple #[(.slice ao_74633 x_74623.1.length cap_74634), (.int .i64 x_74623.2)])), (33, (.slice ao_74633 x_74623.1.length cap_74634)), (34, (.int .i64 x_74623.2)), (6, (.slice ao_74633 x_74623.1.length cap_74634)), (7, (.int .i64 x_74623.2)), (36, (.agg #[(.slice ao_71380 s_71379.fStart.length cap_71381), (.slice ao_71383 s_71379.fDrift.length cap_71384), (.slice ao_71386 s_71379.fFaulty.length cap_71387), (.int .i64 s_71379.fF), (.int .i64 s_71379.fE), (.slice ao_71389 s_71379.fErrs.length cap_71390), (.slice ao_71392 s_71379.fLies.length cap_71393)])), (37, (.int .i64 (i64 (Int.tmod rounds_71395 31)))), (38, (.int .i64 (i64 ((i64 (Int.tmod rounds_71395 31)) + 1)))), (39, (.tuple #[(.slice ao_74649 x_74639.1.length cap_74650), (.int .i64 x_74639.2)])), (35, (.tuple #[(.slice ao_74649 x_74639.1.length cap_74650), (.int .i64 x_74639.2)])), (40, (.slice ao_74649 x_74639.1.length cap_74650)), (41, (.int .i64 x_74639.2)), (8, (.slice ao_74649 x_74639.1.length cap_74650)), (9, (.int .i64 x_74639.2)), (42, (.int .i64 x_74623.2)), (43, (.bool (decide (x_74623.2 ≠ 0)))), (44, (.bool (decide (x_74623.2 ≠ 0)))), (47, (.bool ((decide (x_74623.2 ≠ 0)) || (decide (x_74639.2 ≠ 0))))), (48, (.bool ((decide (x_74623.2 ≠ 0)) || (decide (x_74639.2 ≠ 0))))), (54, (.bool (((decide (x_74623.2 ≠ 0)) || (decide (x_74639.2 ≠ 0))) || (decide (((x_74639.1.length : Nat) : Int) ≠ (i64 ((i64 (Int.tmod rounds_71395 31)) + 2)))))))] (listedA 31 [12, 11, 10, 9, 8, 7, 6, 5, 4, 3, 2, 1, 0]) ?_ (fun K_74809 => ?_)
      rotate_left
      · rcases Bool.eq_false_or_eq_true ((decide (x_74623.2 ≠ 0)) || (decide (x_74639.2 ≠ 0))) with hb' | hb'
        · have hg_74810 := hb'; clear hb'
          refine WD.pin (i := 48) rfl hg_74810 ?_
          refine WD.skip (i := 7) (d := 49) (by kernel_rfl) rfl (by kernel_rfl) (by kernel_rfl) rfl rfl rfl ?_
          refine WD.skip (i := 8) (d := 50) (by kernel_rfl) rfl (by kernel_rfl) (by kernel_rfl) rfl rfl rfl ?_
          refine WD.skip (i := 9) (d := 51) (by kernel_rfl) rfl (by kernel_rfl) (by kernel_rfl) rfl rfl rfl ?_
          refine WD.skip (i := 10) (d := 52) (by kernel_rfl) rfl (by kernel_rfl) (by kernel_rfl) rfl rfl rfl ?_
          refine WD.skip (i := 11) (d := 53) (by kernel_rfl) rfl (by kernel_rfl) (by kernel_rfl) rfl rfl rfl ?_
          refine WD.pure (i := 12) (d := 54) (by kernel_rfl) rfl (by kernel_rfl) (by kernel_rfl) rfl rfl rfl (fun _ => q_pickT rfl rfl) ?_
          refine WD.reL (.cons .here (.cons .here .nil)) ?_ K_74809
          exact (.cons rfl (.cons rfl (.cons rfl (.cons rfl (.cons rfl (.cons rfl (.cons rfl (.cons rfl (.cons rfl (.cons rfl (.cons rfl (.cons rfl (.cons rfl (.cons rfl (.cons rfl (.cons rfl (.cons rfl (.cons rfl (.cons rfl (.cons rfl (.cons rfl (.cons rfl (.cons rfl (.cons rfl (.cons rfl (.cons rfl (.cons rfl (.cons rfl (.cons (some_bool (Eq.symm hg_74810)) (.cons (some_bool (or_l hg_74810)) .nil))))))))))))))))))))))))))))))
        · have hg_74811 := hb'; clear hb'
          refine WD.pin (i := 48) rfl hg_74811 ?_
          refine WD.pure (i := 7) (d := 49) (by kernel_rfl) rfl (by kernel_rfl) (by kernel_rfl) rfl rfl rfl (fun _ => q_move rfl) ?_
          refine WD.pure (i := 8) (d := 50) (by kernel_rfl) rfl (by kernel_rfl) (by kernel_rfl) rfl rfl rfl (fun _ => q_len Try.underlying30 rfl) ?_
          refine WD.pure (i := 9) (d := 51) (by kernel_rfl) rfl (by kernel_rfl) (by kernel_rfl) rfl rfl rfl (fun _ => q_move rfl) ?_
          refine WD.pure (i := 10) (d := 52) (by kernel_rfl) rfl (by kernel_rfl) (by kernel_rfl) rfl rfl rfl (fun _ => q_add rfl rfl rfl) ?_
          refine WD.pure (i := 11) (d := 53) (by kernel_rfl) rfl (by kernel_rfl) (by kernel_rfl) rfl rfl rfl (fun _ => q_neq rfl rfl) ?_
          refine WD.pure (i := 12) (d := 54) (by kernel_rfl) rfl (by kernel_rfl) (by kernel_rfl) rfl rfl rfl (fun _ => q_pickF rfl rfl) ?_
          refine WD.reL (.cons .here (.cons .here .nil)) ?_ K_74809
          exact (.cons rfl (.cons rfl (.cons rfl (.cons rfl (.cons rfl (.cons rfl (.cons rfl (.cons rfl (.cons rfl (.cons rfl (.cons rfl (.cons rfl (.cons rfl (.cons rfl (.cons rfl (.cons rfl (.cons rfl (.cons rfl (.cons rfl (.cons rfl (.cons rfl (.cons rfl (.cons rfl (.cons rfl (.cons rfl (.cons rfl (.cons rfl (.cons rfl (.cons (some_bool (Eq.symm hg_74811)) (.cons (some_bool (or_r hg_74811)) .nil))))))))))))))))))))))))))))))
      refine WD.pure (i := 13) (d := 55) (by kernel_rfl) rfl (by kernel_rfl) (by kernel_rfl) rfl rfl rfl (fun _ => q_move rfl) ?_
      refine WD.mid (fuel' := 9) [(1, (.int .u8 rounds_71395)), (2, (.pointer (some ⟨b_74588, 0, none⟩))), (24, (.bool b_74610)), (26, (.int .u8 rounds_71395)), (27, (.int .u8 (Int.tmod rounds_71395 31))), (28, (.int .i64 (i64 (Int.tmod rounds_71395 31)))), (5, (.int .i64 (i64 (Int.tmod rounds_71395 31)))), (30, (.agg #[(.slice ao_71380 s_71379.fStart.length cap_71381), (.slice ao_71383 s_71379.fDrift.length cap_71384), (.slice ao_71386 s_71379.fFaulty.length cap_71387), (.int .i64 s_71379.fF), (.int .i64 s_71379.fE), (.slice ao_71389 s_71379.fErrs.length cap_71390), (.slice ao_71392 s_71379.fLies.length cap_71393)])), (31, (.int .i64 (i64 (Int.tmod rounds_71395 31)))), (32, (.tuple #[(.slice ao_74633 x_74623.1.length cap_74634), (.int .i64 x_74623.2)])), (29, (.tuple #[(.slice ao_74633 x_74623.1.length cap_74634), (.int .i64 x_74623.2)])), (33, (.slice ao_74633 x_74623.1.length cap_74634)), (34, (.int .i64 x_74623.2)), (6, (.slice ao_74633 x_74623.1.length cap_74634)), (7, (.int .i64 x_74623.2)), (36, (.agg #[(.slice ao_71380 s_71379.fStart.length cap_71381), (.slice ao_71383 s_71379.fDrift.length cap_71384), (.slice ao_71386 s_71379.fFaulty.length cap_71387), (.int .i64 s_71379.fF), (.int .i64 s_71379.fE), (.slice ao_71389 s_71379.fErrs.length cap_71390), (.slice ao_71392 s_71379.fLies.length cap_71393)])), (37, (.int .i64 (i64 (Int.tmod rounds_71395 31)))), (38, (.int .i64 (i64 ((i64 (Int.tmod rounds_71395 31)) + 1)))), (39, (.tuple #[(.slice ao_74649 x_74639.1.length cap_74650), (.int .i64 x_74639.2)])), (35, (.tuple #[(.slice ao_74649 x_74639.1.length cap_74650), (.int .i64 x_74639.2)])), (40, (.slice ao_74649 x_74639.1.length cap_74650)), (41, (.int .i64 x_74639.2)), (8, (.slice ao_74649 x_74639.1.length cap_74650)), (9, (.int .i64 x_74639.2)), (42, (.int .i64 x_74623.2)), (43, (.bool (decide (x_74623.2 ≠ 0)))), (44, (.bool (decide (x_74623.2 ≠ 0)))), (47, (.bool ((decide (x_74623.2 ≠ 0)) || (decide (x_74639.2 ≠ 0))))), (48, (.bool ((decide (x_74623.2 ≠ 0)) || (decide (x_74639.2 ≠ 0))))), (54, (.bool (((decide (x_74623.2 ≠ 0)) || (decide (x_74639.2 ≠ 0))) || (decide (((x_74639.1.length : Nat) : Int) ≠ (i64 ((i64 (Int.tmod rounds_71395 31)) + 2))))))), (55, (.bool (((decide (x_74623.2 ≠ 0)) || (decide (x_74639.2 ≠ 0))) || (decide (((x_74639.1.length : Nat) : Int) ≠ (i64 ((i64 (Int.tmod rounds_71395 31)) + 2))))))), (63, (.bool b_74793))] (listedA 31 [21, 20, 19, 18, 17, 16, 15, 14, 13, 12, 11, 10, 9, 8, 7, 6, 5, 4, 3, 2, 1, 0]) ?_ (fun K_74815 => ?_)
      rotate_left
      · rcases Bool.eq_false_or_eq_true (((decide (x_74623.2 ≠ 0)) || (decide (x_74639.2 ≠ 0))) || (decide (((x_74639.1.length : Nat) : Int) ≠ (i64 ((i64 (Int.tmod rounds_71395 31)) + 2))))) with hb' | hb'
        · have hg_74816 := hb'; clear hb'
          have hq_74817 := ite_t hb_74794 hg_74816
          replace hq_74817 := Option.some.inj hq_74817
          refine WD.pin (i := 55) rfl hg_74816 ?_
          refine WD.skip (i := 14) (d := 56) (by kernel_rfl) rfl (by kernel_rfl) (by kernel_rfl) rfl rfl rfl ?_
          refine WD.skip (i := 15) (d := 57) (by kernel_rfl) rfl (by kernel_rfl) (by kernel_rfl) rfl rfl rfl ?_
          refine WD.skip (i := 16) (d := 58) (by kernel_rfl) rfl (by kernel_rfl) (by kernel_rfl) rfl rfl rfl ?_
          refine WD.skip (i := 17) (d := 59) (by kernel_rfl) rfl (by kernel_rfl) (by kernel_rfl) rfl rfl rfl ?_
          refine WD.skip (i := 18) (d := 60) (by kernel_rfl) rfl (by kernel_rfl) (by kernel_rfl) rfl rfl rfl ?_
          refine WD.skip (i := 19) (d := 61) (by kernel_rfl) rfl (by kernel_rfl) (by kernel_rfl) rfl rfl rfl ?_
          refine WD.skip (i := 20) (d := 62) (by kernel_rfl) rfl (by kernel_rfl) (by kernel_rfl) rfl rfl rfl ?_
          refine WD.pure (i := 21) (d := 63) (by kernel_rfl) rfl (by kernel_rfl) (by kernel_rfl) rfl rfl rfl (fun _ => q_pickT rfl rfl) ?_
          refine WD.reL (.cons .here (.cons .here .nil)) ?_ K_74815
          exact (.cons rfl (.cons rfl (.cons rfl (.cons rfl (.cons rfl (.cons rfl (.cons rfl (.cons rfl (.cons rfl (.cons rfl (.cons rfl (.cons rfl (.cons rfl (.cons rfl (.cons rfl (.cons rfl (.cons rfl (.cons rfl (.cons rfl (.cons rfl (.cons rfl (.cons rfl (.cons rfl (.cons rfl (.cons rfl (.cons rfl (.cons rfl (.cons rfl (.cons rfl (.cons rfl (.cons (some_bool (Eq.symm hg_74816)) (.cons (some_bool hq_74817) .nil))))))))))))))))))))))))))))))))
        · have hg_74818 := hb'; clear hb'
          have hq_74819 := ite_f hb_74794 hg_74818
          obtain ⟨c_74787, hq_74819⟩ := chk_elim hq_74819
          obtain ⟨x_74791, hx_74792, hq_74819⟩ := bind_elim hq_74819
          replace hq_74819 := Option.some.inj hq_74819
          refine WD.pin (i := 55) rfl hg_74818 ?_
          refine WD.pure (i := 14) (d := 56) (by kernel_rfl) rfl (by kernel_rfl) (by kernel_rfl) rfl rfl rfl (fun _ => q_move rfl) ?_
          refine WD.pure (i := 15) (d := 57) (by kernel_rfl) rfl (by kernel_rfl) (by kernel_rfl) rfl rfl rfl (fun _ => q_move rfl) ?_
          refine WD.pure (i := 16) (d := 58) (by kernel_rfl) rfl (by kernel_rfl) (by kernel_rfl) rfl rfl rfl (fun _ => q_add rfl rfl rfl) ?_
          refine WD.zsub (j := 17) (dd := 59) (by kernel_rfl) rfl (by kernel_rfl) (by kernel_rfl) rfl rfl (Z := (Z ++ Zn_74784)) (Pr := (p22 (Z ++ Zn_74784))) elT_30 rfl ((hf_74761.mono hle_74785).weak (fun _ _ h => p22_mono hle_74785 h)) (fun _ => ixn) (fun _ => ixo rfl) rfl rfl c_74787 (List.drop_zero).symm ?_
          rintro ao_74820 cap_74821 hs_74822
          refine WD.pure (i := 18) (d := 60) (by kernel_rfl) rfl (by kernel_rfl) (by kernel_rfl) rfl rfl rfl (fun _ => q_move rfl) ?_
          refine WD.enter (i := 19) (d := 61) (by kernel_rfl) rfl (by kernel_rfl) (by kernel_rfl) rfl rfl rfl (run_call (l := [.tmp 59, .tmp 60]) Try.call20 (.cons rfl (.cons rfl .nil))) (fun w hw => by have pz := (hz.call2 hw (.nil : Sel [fz Zn_74784, stb b_74588 24 [(.slice ao_71380 s_71379.fStart.length cap_71381), (.slice ao_71383 s_71379.fDrift.length cap_71384), (.slice ao_71386 s_71379.fFaulty.length cap_71387), (.int .i64 s_71379.fF), (.int .i64 s_71379.fE), (.slice ao_71389 s_71379.fErrs.length cap_71390), (.slice ao_71392 s_71379.fLies.length cap_71393)]] [] [fz Zn_74784, stb b_74588 24 [(.slice ao_71380 s_71379.fStart.length cap_71381), (.slice ao_71383 s_71379.fDrift.length cap_71384), (.slice ao_71386 s_71379.fFaulty.length cap_71387), (.int .i64 s_71379.fF), (.int .i64 s_71379.fE), (.slice ao_71389 s_71379.fErrs.length cap_71390), (.slice ao_71392 s_71379.fLies.length cap_71393)]]) .here); exact w_law34_lists (Z := _) (ao_21383 := ao_74820) (cap_21384 := cap_74821) (ao_21387 := ao_74633) (cap_21388 := cap_74634) (a_21382 := (x_74639.1.take ((i64 ((i64 (Int.tmod rounds_71395 31)) + 1)) : Int).toNat)) (b_21386 := x_74623.1) (r := x_74791) w pz hs_74822 hf_74786 hx_74792) ?_
          refine WD.pure (i := 20) (d := 62) (by kernel_rfl) rfl (by kernel_rfl) (by kernel_rfl) rfl rfl rfl (fun _ => q_not rfl) ?_
          refine WD.pure (i := 21) (d := 63) (by kernel_rfl) rfl (by kernel_rfl) (by kernel_rfl) rfl rfl rfl (fun _ => q_pickF rfl rfl) ?_
          refine WD.reL (.cons .here (.cons .here .nil)) ?_ K_74815
          exact (.cons rfl (.cons rfl (.cons rfl (.cons rfl (.cons rfl (.cons rfl (.cons rfl (.cons rfl (.cons rfl (.cons rfl (.cons rfl (.cons rfl (.cons rfl (.cons rfl (.cons rfl (.cons rfl (.cons rfl (.cons rfl (.cons rfl (.cons rfl (.cons rfl (.cons rfl (.cons rfl (.cons rfl (.cons rfl (.cons rfl (.cons rfl (.cons rfl (.cons rfl (.cons rfl (.cons (some_bool (Eq.symm hg_74818)) (.cons (some_bool hq_74819) .nil))))))))))))))))))))))))))))))))
      refine WD.pure (i := 22) (d := 64) (by kernel_rfl) rfl (by kernel_rfl) (by kernel_rfl) rfl rfl rfl (fun _ => q_move rfl) ?_
      refine WD.mid (fuel' := 0) [(1, (.int .u8 rounds_71395)), (2, (.pointer (some ⟨b_74588, 0, none⟩))), (24, (.bool b_74610)), (26, (.int .u8 rounds_71395)), (27, (.int .u8 (Int.tmod rounds_71395 31))), (28, (.int .i64 (i64 (Int.tmod rounds_71395 31)))), (5, (.int .i64 (i64 (Int.tmod rounds_71395 31)))), (30, (.agg #[(.slice ao_71380 s_71379.fStart.length cap_71381), (.slice ao_71383 s_71379.fDrift.length cap_71384), (.slice ao_71386 s_71379.fFaulty.length cap_71387), (.int .i64 s_71379.fF), (.int .i64 s_71379.fE), (.slice ao_71389 s_71379.fErrs.length cap_71390), (.slice ao_71392 s_71379.fLies.length cap_71393)])), (31, (.int .i64 (i64 (Int.tmod rounds_71395 31)))), (32, (.tuple #[(.slice ao_74633 x_74623.1.length cap_74634), (.int .i64 x_74623.2)])), (29, (.tuple #[(.slice ao_74633 x_74623.1.length cap_74634), (.int .i64 x_74623.2)])), (33, (.slice ao_74633 x_74623.1.length cap_74634)), (34, (.int .i64 x_74623.2)), (6, (.slice ao_74633 x_74623.1.length cap_74634)), (7, (.int .i64 x_74623.2)), (36, (.agg #[(.slice ao_71380 s_71379.fStart.length cap_71381), (.slice ao_71383 s_71379.fDrift.length cap_71384), (.slice ao_71386 s_71379.fFaulty.length cap_71387), (.int .i64 s_71379.fF), (.int .i64 s_71379.fE), (.slice ao_71389 s_71379.fErrs.length cap_71390), (.slice ao_71392 s_71379.fLies.length cap_71393)])), (37, (.int .i64 (i64 (Int.tmod rounds_71395 31)))), (38, (.int .i64 (i64 ((i64 (Int.tmod rounds_71395 31)) + 1)))), (39, (.tuple #[(.slice ao_74649 x_74639.1.length cap_74650), (.int .i64 x_74639.2)])), (35, (.tuple #[(.slice ao_74649 x_74639.1.length cap_74650), (.int .i64 x_74639.2)])), (40, (.slice ao_74649 x_74639.1.length cap_74650)), (41, (.int .i64 x_74639.2)), (8, (.slice ao_74649 x_74639.1.length cap_74650)), (9, (.int .i64 x_74639.2)), (42, (.int .i64 x_74623.2)), (43, (.bool (decide (x_74623.2 ≠ 0)))), (44, (.bool (decide (x_74623.2 ≠ 0)))), (47, (.bool ((decide (x_74623.2 ≠ 0)) || (decide (x_74639.2 ≠ 0))))), (48, (.bool ((decide (x_74623.2 ≠ 0)) || (decide (x_74639.2 ≠ 0))))), (54, (.bool (((decide (x_74623.2 ≠ 0)) || (decide (x_74639.2 ≠ 0))) || (decide (((x_74639.1.length : Nat) : Int) ≠ (i64 ((i64 (Int.tmod rounds_71395 31)) + 2))))))), (55, (.bool (((decide (x_74623.2 ≠ 0)) || (decide (x_74639.2 ≠ 0))) || (decide (((x_74639.1.length : Nat) : Int) ≠ (i64 ((i64 (Int.tmod rounds_71395 31)) + 2))))))), (63, (.bool b_74793)), (64, (.bool b_74793)), (72, (.bool b_74804))] (listedA 31 [30, 29, 28, 27, 26, 25, 24, 23, 22, 21, 20, 19, 18, 17, 16, 15, 14, 13, 12, 11, 10, 9, 8, 7, 6, 5, 4, 3, 2, 1, 0]) ?_ (fun K_74829 => ?_)
      rotate_left
      · rcases Bool.eq_false_or_eq_true b_74793 with hb' | hb'
        · have hg_74830 := hb'; clear hb'
          have hq_74831 := ite_t hb_74805 hg_74830
          replace hq_74831 := Option.some.inj hq_74831
          refine WD.pin (i := 64) rfl hg_74830 ?_
          refine WD.skip (i := 23) (d := 65) (by kernel_rfl) rfl (by kernel_rfl) (by kernel_rfl) rfl rfl rfl ?_
          refine WD.skip (i := 24) (d := 66) (by kernel_rfl) rfl (by kernel_rfl) (by kernel_rfl) rfl rfl rfl ?_
          refine WD.skip (i := 25) (d := 67) (by kernel_rfl) rfl (by kernel_rfl) (by kernel_rfl) rfl rfl rfl ?_
          refine WD.skip (i := 26) (d := 68) (by kernel_rfl) rfl (by kernel_rfl) (by kernel_rfl) rfl rfl rfl ?_
          refine WD.skip (i := 27) (d := 69) (by kernel_rfl) rfl (by kernel_rfl) (by kernel_rfl) rfl rfl rfl ?_
          refine WD.skip (i := 28) (d := 70) (by kernel_rfl) rfl (by kernel_rfl) (by kernel_rfl) rfl rfl rfl ?_
          refine WD.skip (i := 29) (d := 71) (by kernel_rfl) rfl (by kernel_rfl) (by kernel_rfl) rfl rfl rfl ?_
          refine WD.pure (i := 30) (d := 72) (by kernel_rfl) rfl (by kernel_rfl) (by kernel_rfl) rfl rfl rfl (fun _ => q_pickT rfl rfl) ?_
          refine WD.reL (.cons .here (.cons .here .nil)) ?_ K_74829
          exact (.cons rfl (.cons rfl (.cons rfl (.cons rfl (.cons rfl (.cons rfl (.cons rfl (.cons rfl (.cons rfl (.cons rfl (.cons rfl (.cons rfl (.cons rfl (.cons rfl (.cons rfl (.cons rfl (.cons rfl (.cons rfl (.cons rfl (.cons rfl (.cons rfl (.cons rfl (.cons rfl (.cons rfl (.cons rfl (.cons rfl (.cons rfl (.cons rfl (.cons rfl (.cons rfl (.cons rfl (.cons rfl (.cons (some_bool (Eq.symm hg_74830)) (.cons (some_bool hq_74831) .nil))))))))))))))))))))))))))))))))))
        · have hg_74832 := hb'; clear hb'
          have hq_74833 := ite_f hb_74805 hg_74832
          obtain ⟨c_74795, hq_74833⟩ := chk_elim hq_74833
          obtain ⟨x_74802, hx_74803, hq_74833⟩ := bind_elim hq_74833
          replace hq_74833 := Option.some.inj hq_74833
          refine WD.pin (i := 64) rfl hg_74832 ?_
          refine WD.pure (i := 23) (d := 65) (by kernel_rfl) rfl (by kernel_rfl) (by kernel_rfl) rfl rfl rfl (fun _ => q_move rfl) ?_
          refine WD.zsub (j := 24) (dd := 66) (by kernel_rfl) rfl (by kernel_rfl) (by kernel_rfl) rfl rfl (Z := (Z ++ Zn_74784)) (Pr := (p22 (Z ++ Zn_74784))) elT_30 rfl hf_74786 (fun _ => ixn) (fun _ => ixo rfl) rfl rfl c_74795 (List.drop_zero).symm ?_
          rintro ao_74834 cap_74835 hs_74836
          refine WD.pure (i := 25) (d := 67) (by kernel_rfl) rfl (by kernel_rfl) (by kernel_rfl) rfl rfl rfl (fun _ => q_fieldAddr fo_24_0 rfl rfl) ?_
          refine WD.quiet (i := 26) (d := 68) (by kernel_rfl) rfl (by kernel_rfl) (by kernel_rfl) rfl rfl rfl (q_load1 oneT_22 rfl (rd_stb (.there .here) rfl)) ?_
          have rel_74838 : RR 1 (p22 (Z ++ Zn_74784)) [(.slice ao_71380 s_71379.fStart.length cap_71381)] ([s_71379.fStart] : List (List Int)) := (RR.cons (r := [(.slice ao_71380 s_71379.fStart.length cap_71381)]) rfl (show p22 _ _ _ from ⟨_, _, rfl, (hs_71382.mono ((Zle.left _ _).trans ((Zle.left _ _).trans ((Zle.assoc _ _ _).trans ((Zle.left _ _).trans ((Zle.assoc _ _ _).trans (hle_74760.trans hle_74785)))))))⟩) (RR.nil _ _))
          refine WD.new (i := 27) (dd := 69) rfl (by kernel_rfl) rfl rfl rfl (e_buildSlice (cs := [(.slice ao_71380 s_71379.fStart.length cap_71381)]) elT_30 (Eos.parts (l := [.tmp 68]) (.cons rfl .nil) [0]) (fun _ => by kernel_rfl) rfl (by unfold maxLen; omega)) (fun h' => absurd h' (by decide)) ?_
          intro b_74837 _
          refine WD.enter (i := 28) (d := 70) (by kernel_rfl) rfl (by kernel_rfl) (by kernel_rfl) rfl rfl rfl (run_call (l := [.tmp 66, .tmp 69]) Try.call20 (.cons rfl (.cons rfl .nil))) (fun w hw => by have pz := (hz.call2 hw (.nil : Sel [row (.slice (some ⟨b_74837, 0, none⟩) (([s_71379.fStart] : List (List Int)).length) 1) 22 1 [(.slice ao_71380 s_71379.fStart.length cap_71381)], fz Zn_74784, stb b_74588 24 [(.slice ao_71380 s_71379.fStart.length cap_71381), (.slice ao_71383 s_71379.fDrift.length cap_71384), (.slice ao_71386 s_71379.fFaulty.length cap_71387), (.int .i64 s_71379.fF), (.int .i64 s_71379.fE), (.slice ao_71389 s_71379.fErrs.length cap_71390), (.slice ao_71392 s_71379.fLies.length cap_71393)]] [] [row (.slice (some ⟨b_74837, 0, none⟩) (([s_71379.fStart] : List (List Int)).length) 1) 22 1 [(.slice ao_71380 s_71379.fStart.length cap_71381)], fz Zn_74784, stb b_74588 24 [(.slice ao_71380 s_71379.fStart.length cap_71381), (.slice ao_71383 s_71379.fDrift.length cap_71384), (.slice ao_71386 s_71379.fFaulty.length cap_71387), (.int .i64 s_71379.fF), (.int .i64 s_71379.fE), (.slice ao_71389 s_71379.fErrs.length cap_71390), (.slice ao_71392 s_71379.fLies.length cap_71393)]]) (.there .here)).lend hw (.nil : Sel [row (.slice (some ⟨b_74837, 0, none⟩) (([s_71379.fStart] : List (List Int)).length) 1) 22 1 [(.slice ao_71380 s_71379.fStart.length cap_71381)], fz Zn_74784, stb b_74588 24 [(.slice ao_71380 s_71379.fStart.length cap_71381), (.slice ao_71383 s_71379.fDrift.length cap_71384), (.slice ao_71386 s_71379.fFaulty.length cap_71387), (.int .i64 s_71379.fF), (.int .i64 s_71379.fE), (.slice ao_71389 s_71379.fErrs.length cap_71390), (.slice ao_71392 s_71379.fLies.length cap_71393)]] [] [row (.slice (some ⟨b_74837, 0, none⟩) (([s_71379.fStart] : List (List Int)).length) 1) 22 1 [(.slice ao_71380 s_71379.fStart.length cap_71381)], fz Zn_74784, stb b_74588 24 [(.slice ao_71380 s_71379.fStart.length cap_71381), (.slice ao_71383 s_71379.fDrift.length cap_71384), (.slice ao_71386 s_71379.fFaulty.length cap_71387), (.int .i64 s_71379.fF), (.int .i64 s_71379.fE), (.slice ao_71389 s_71379.fErrs.length cap_71390), (.slice ao_71392 s_71379.fLies.length cap_71393)]]) (B := [row (.slice (some ⟨b_74837, 0, none⟩) (([s_71379.fStart] : List (List Int)).length) 1) 22 1 [(.slice ao_71380 s_71379.fStart.length cap_71381)]]) (fun _ hx' => ((.cons .here .nil) : Sel _ [row (.slice (some ⟨b_74837, 0, none⟩) (([s_71379.fStart] : List (List Int)).length) 1) 22 1 [(.slice ao_71380 s_71379.fStart.length cap_71381)]] _).mem hx'); exact w_law34_lists (Z := _) (ao_21383 := ao_74834) (cap_21384 := cap_74835) (ao_21387 := (some ⟨b_74837, 0, none⟩)) (cap_21388 := 1) (a_21382 := (x_74623.1.take (1 : Int).toNat)) (b_21386 := ([s_71379.fStart] : List (List Int))) (r := x_74802) w pz ((hs_74836.mono (Zle.left _ _)).weak (fun _ _ h => p22_mono (Zle.left _ _) h)) (ZA.row (hw.lent (.nil : Sel [row (.slice (some ⟨b_74837, 0, none⟩) (([s_71379.fStart] : List (List Int)).length) 1) 22 1 [(.slice ao_71380 s_71379.fStart.length cap_71381)], fz Zn_74784, stb b_74588 24 [(.slice ao_71380 s_71379.fStart.length cap_71381), (.slice ao_71383 s_71379.fDrift.length cap_71384), (.slice ao_71386 s_71379.fFaulty.length cap_71387), (.int .i64 s_71379.fF), (.int .i64 s_71379.fE), (.slice ao_71389 s_71379.fErrs.length cap_71390), (.slice ao_71392 s_71379.fLies.length cap_71393)]] [] [row (.slice (some ⟨b_74837, 0, none⟩) (([s_71379.fStart] : List (List Int)).length) 1) 22 1 [(.slice ao_71380 s_71379.fStart.length cap_71381)], fz Zn_74784, stb b_74588 24 [(.slice ao_71380 s_71379.fStart.length cap_71381), (.slice ao_71383 s_71379.fDrift.length cap_71384), (.slice ao_71386 s_71379.fFaulty.length cap_71387), (.int .i64 s_71379.fF), (.int .i64 s_71379.fE), (.slice ao_71389 s_71379.fErrs.length cap_71390), (.slice ao_71392 s_71379.fLies.length cap_71393)]]) (B := [row (.slice (some ⟨b_74837, 0, none⟩) (([s_71379.fStart] : List (List Int)).length) 1) 22 1 [(.slice ao_71380 s_71379.fStart.length cap_71381)]]) (fun _ hx' => ((.cons .here .nil) : Sel _ [row (.slice (some ⟨b_74837, 0, none⟩) (([s_71379.fStart] : List (List Int)).length) 1) 22 1 [(.slice ao_71380 s_71379.fStart.length cap_71381)]] _).mem hx') (.head _) _) (rel_74838.weak (fun _ _ h => p22_mono (Zle.left _ _) h)) ⟨w, pz.1⟩) hx_74803) ?_
          refine WD.pure (i := 29) (d := 71) (by kernel_rfl) rfl (by kernel_rfl) (by kernel_rfl) rfl rfl rfl (fun _ => q_not rfl) ?_
          refine WD.pure (i := 30) (d := 72) (by kernel_rfl) rfl (by kernel_rfl) (by kernel_rfl) rfl rfl rfl (fun _ => q_pickF rfl rfl) ?_
          refine WD.reL (.cons (.there .here) (.cons (.there .here) .nil)) ?_ K_74829
          exact (.cons rfl (.cons rfl (.cons rfl (.cons rfl (.cons rfl (.cons rfl (.cons rfl (.cons rfl (.cons rfl (.cons rfl (.cons rfl (.cons rfl (.cons rfl (.cons rfl (.cons rfl (.cons rfl (.cons rfl (.cons rfl (.cons rfl (.cons rfl (.cons rfl (.cons rfl (.cons rfl (.cons rfl (.cons rfl (.cons rfl (.cons rfl (.cons rfl (.cons rfl (.cons rfl (.cons rfl (.cons rfl (.cons (some_bool (Eq.symm hg_74832)) (.cons (some_bool hq_74833) .nil))))))))))))))))))))))))))))))))))
      refine WD.done (by kernel_rfl) ?_
      refine WX.then ?_
      refine WC.cond rfl (fun hb_74840 => ?_) (fun hb_74840 => ?_)
      · replace h := ite_t h hb_74840
        refine WC.seq ?_
        refine WC.region ?_
        refine WL.quiet (d := 4) rfl rfl rfl (q_assign rfl) ?_
        refine WL.nil ?_
        refine WX.then ?_
        refine WC.ret ?_
        refine WX.thenRet ?_
        obtain rfl := Option.some.inj h
        refine WX.bpRet Try.results8 (.tmp rfl .nil) (fun w hw => ?_)
        exact ⟨Zn_74784, ret1 rfl, trivial, hw.sub (.cons .here .nil)⟩
      · replace h := ite_f h hb_74840
        refine WC.skip ?_
        refine WX.then ?_
        obtain ⟨k_76597, hk_76598, h⟩ := jp0_elim h
        refine WC.seqMid1 (fun (Zn_76595 : Zp) => (k_76597 = some r) ∧ (Zle (Z ++ Zn_74784) (Z ++ Zn_76595))) (fun (Zn_76595 : Zp) => []) (fun (Zn_76595 : Zp) => [fz Zn_76595]) ?_ ?_
        · skip
          refine WC.seq ?_
          refine WC.region ?_
          refine WL.quiet (d := 73) rfl rfl rfl (q_move rfl) ?_
          refine WL.quiet (d := 74) rfl rfl rfl (q_add rfl rfl rfl) ?_
          refine WL.quiet (d := 75) rfl rfl rfl (q_move rfl) ?_
          refine WL.nil ?_
          refine WX.then ?_
          refine WC.block ?_
          refine WC.loop3 (fun (n_77187 : Nat) (v_77186 : Int) (Zn_77184 : Zp) => (m_law34_TimebaseSteps_L3 rounds_71395 x_74639 s_71379 k_76597 n_77187 v_77186 = some r) ∧ (Zle (Z ++ Zn_74784) (Z ++ Zn_77184))) (fun (n_77187 : Nat) (v_77186 : Int) (Zn_77184 : Zp) => [(2, (.pointer (some ⟨b_74588, 0, none⟩))), (8, (.slice ao_74649 x_74639.1.length cap_74650)), (74, (.int .i64 (i64 ((i64 (Int.tmod rounds_71395 31)) + 1)))), (75, (.int .i64 v_77186))]) (fun (n_77187 : Nat) (v_77186 : Int) (Zn_77184 : Zp) => [fz Zn_77184, stb b_74588 24 [(.slice ao_71380 s_71379.fStart.length cap_71381), (.slice ao_71383 s_71379.fDrift.length cap_71384), (.slice ao_71386 s_71379.fFaulty.length cap_71387), (.int .i64 s_71379.fF), (.int .i64 s_71379.fE), (.slice ao_71389 s_71379.fErrs.length cap_71390), (.slice ao_71392 s_71379.fLies.length cap_71393)]]) (fun (n_77187 : Nat) (v_77186 : Int) (Zn_77184 : Zp) => n_77187) ⟨FUEL, 0, Zn_74784⟩ ⟨h, (Zle.refl _)⟩ (.cons rfl (.cons rfl (.cons rfl (.cons rfl .nil)))) (.cons .here (.cons .here .nil)) ?_
          rintro n_77187 v_77186 Zn_77184 ⟨h, hle_77185⟩
          obtain ⟨n_77188, rfl⟩ := m_law34_TimebaseSteps_L3_fuel h
          rw [m_law34_TimebaseSteps_L3] at h
          refine WC.seq ?_
          refine WC.region ?_
          refine WL.quiet (d := 76) rfl rfl rfl (q_lss rfl rfl) ?_
          refine WL.nil ?_
          refine WX.then ?_
          refine WC.seq ?_
          refine WC.cond rfl (fun hb_77190 => ?_) (fun hb_77190 => ?_)
          · replace h := ite_t h hb_77190
            refine WC.skip ?_
            refine WX.then ?_
            obtain ⟨k_77481, hk_77482, h⟩ := jp0_elim h
            refine WC.seqMid1 (fun (Zn_77479 : Zp) => (k_77481 = some r) ∧ (Zle (Z ++ Zn_77184) (Z ++ Zn_77479))) (fun (Zn_77479 : Zp) => [(2, (.pointer (some ⟨b_74588, 0, none⟩))), (8, (.slice ao_74649 x_74639.1.length cap_74650)), (74, (.int .i64 (i64 ((i64 (Int.tmod rounds_71395 31)) + 1)))), (75, (.int .i64 v_77186))]) (fun (Zn_77479 : Zp) => [fz Zn_77479, stb b_74588 24 [(.slice ao_71380 s_71379.fStart.length cap_71381), (.slice ao_71383 s_71379.fDrift.length cap_71384), (.slice ao_71386 s_71379.fFaulty.length cap_71387), (.int .i64 s_71379.fF), (.int .i64 s_71379.fE), (.slice ao_71389 s_71379.fErrs.length cap_71390), (.slice ao_71392 s_71379.fLies.length cap_71393)]]) ?_ ?_
            · skip
              refine WC.block ?_
              refine WC.seq ?_
              refine WC.region ?_
              refine WL.quiet (d := 77) rfl rfl rfl (q_move rfl) ?_
              refine WL.quiet (d := 10) rfl rfl rfl (q_assign rfl) ?_
              refine WL.nil ?_
              refine WX.then ?_
              refine WC.seq ?_
              obtain ⟨c_77484, h⟩ := chk_elim h
              obtain ⟨c_77492, h⟩ := chk_elim h
              refine WC.region ?_
              refine WL.new (dd := 78) rfl rfl rfl (e_buildSlice (cs := ([] : List Int).flatMap e3) elT_22 (Eos.parts (l := []) .nil []) (fun _ => by kernel_rfl) rfl (by unfold maxLen; omega)) ?_
              intro b_77495 _
              refine WL.quiet (d := 79) rfl rfl rfl (q_move rfl) ?_
              refine WL.quiet (d := 80) rfl rfl rfl (q_move rfl) ?_
              refine WL.znth (dd := 81) rfl rfl (Z := (Z ++ Zn_77184)) (Pr := (p22 (Z ++ Zn_77184))) elT_30 rfl rfl ((hf_74761.mono (hle_74785.trans hle_77185)).weak (fun _ _ h => p22_mono (hle_74785.trans hle_77185) h)) c_77484 ?_
              rintro A_77496 r_77497 hA_77498 hl_77499 ⟨ao_77500, cap_77501, rfl, hs_77502⟩
              refine WL.quiet (d := 82) rfl rfl rfl (q_load1 oneT_22 rfl (rd_z (hz.pv2 (.there .here)) hA_77498 rfl)) ?_
              refine WL.eff (d := 83) rfl rfl rfl (e_appendF (enc := e3) (l1 := ([] : List Int)) (l2 := (nth x_74639.1 v_77186)) elT_22 rfl rfl .here (fun _ => rfl) rfl rfl (news_z (hz.pv2 (.there .here)) hs_77502) (oc_flat e3_oc _) c_77492) ?_
              rintro ⟨ao_77503, cap_77504⟩ _
              refine WL.quiet (d := 11) rfl rfl rfl (q_assign rfl) ?_
              refine WL.nil ?_
              refine WX.then ?_
              obtain ⟨k_77626, hk_77627, h⟩ := jp1_elim h
              refine WC.seqMid3 (fun (now_77623 : List Int) (ao_77624 : Option Addr) (cap_77625 : Nat) => (k_77626 now_77623 = some r)) (fun (now_77623 : List Int) (ao_77624 : Option Addr) (cap_77625 : Nat) => [(2, (.pointer (some ⟨b_74588, 0, none⟩))), (8, (.slice ao_74649 x_74639.1.length cap_74650)), (10, (.int .i64 v_77186)), (11, (.slice ao_77624 now_77623.length cap_77625)), (74, (.int .i64 (i64 ((i64 (Int.tmod rounds_71395 31)) + 1)))), (75, (.int .i64 v_77186))]) (fun (now_77623 : List Int) (ao_77624 : Option Addr) (cap_77625 : Nat) => [fz Zn_77184, row (.slice ao_77624 now_77623.length cap_77625) 3 1 (now_77623.flatMap e3), stb b_74588 24 [(.slice ao_71380 s_71379.fStart.length cap_71381), (.slice ao_71383 s_71379.fDrift.length cap_71384), (.slice ao_71386 s_71379.fFaulty.length cap_71387), (.int .i64 s_71379.fF), (.int .i64 s_71379.fE), (.slice ao_71389 s_71379.fErrs.length cap_71390), (.slice ao_71392 s_71379.fLies.length cap_71393)]]) ?_ ?_
              · skip
                refine WC.seq ?_
                refine WC.region ?_
                refine WL.quiet (d := 84) rfl rfl rfl (q_move rfl) ?_
                refine WL.quiet (d := 85) rfl rfl rfl (q_len Try.underlying22 rfl) ?_
                refine WL.quiet (d := 86) rfl rfl rfl (q_move rfl) ?_
                refine WL.nil ?_
                refine WX.then ?_
                refine WC.block ?_
                refine WC.loop5 (fun (n_77672 : Nat) (now_77668 : List Int) (v_77671 : Int) (ao_77669 : Option Addr) (cap_77670 : Nat) => (m_law34_TimebaseSteps_L4 x_74639 v_77186 s_71379 k_77626 n_77672 now_77668 v_77671 = some r)) (fun (n_77672 : Nat) (now_77668 : List Int) (v_77671 : Int) (ao_77669 : Option Addr) (cap_77670 : Nat) => [(2, (.pointer (some ⟨b_74588, 0, none⟩))), (8, (.slice ao_74649 x_74639.1.length cap_74650)), (10, (.int .i64 v_77186)), (11, (.slice ao_77669 now_77668.length cap_77670)), (74, (.int .i64 (i64 ((i64 (Int.tmod rounds_71395 31)) + 1)))), (75, (.int .i64 v_77186)), (85, (.int .i64 (((([] : List Int) ++ (nth x_74639.1 v_77186)).length : Nat) : Int))), (86, (.int .i64 v_77671))]) (fun (n_77672 : Nat) (now_77668 : List Int) (v_77671 : Int) (ao_77669 : Option Addr) (cap_77670 : Nat) => [fz Zn_77184, row (.slice ao_77669 now_77668.length cap_77670) 3 1 (now_77668.flatMap e3), stb b_74588 24 [(.slice ao_71380 s_71379.fStart.length cap_71381), (.slice ao_71383 s_71379.fDrift.length cap_71384), (.slice ao_71386 s_71379.fFaulty.length cap_71387), (.int .i64 s_71379.fF), (.int .i64 s_71379.fE), (.slice ao_71389 s_71379.fErrs.length cap_71390), (.slice ao_71392 s_71379.fLies.length cap_71393)]]) (fun (n_77672 : Nat) (now_77668 : List Int) (v_77671 : Int) (ao_77669 : Option Addr) (cap_77670 : Nat) => n_77672) ⟨FUEL, (([] : List Int) ++ (nth x_74639.1 v_77186)), 0, ao_77503, cap_77504⟩ h (.cons rfl (.cons rfl (.cons rfl (.cons rfl (.cons rfl (.cons rfl (.cons rfl (.cons rfl .nil)))))))) (.cons (.there .here) (.cons .here (.cons .here .nil))) ?_
                rintro n_77672 now_77668 v_77671 ao_77669 cap_77670 h
                obtain ⟨n_77673, rfl⟩ := m_law34_TimebaseSteps_L4_fuel h
                rw [m_law34_TimebaseSteps_L4] at h
                refine WC.seq ?_
                refine WC.region ?_
                refine WL.quiet (d := 87) rfl rfl rfl (q_lss rfl rfl) ?_
                refine WL.nil ?_
                refine WX.then ?_
                refine WC.seq ?_
                refine WC.cond rfl (fun hb_77675 => ?_) (fun hb_77675 => ?_)
                · replace h := ite_t h hb_77675
                  refine WC.skip ?_
                  refine WX.then ?_
                  refine WC.seq ?_
                  refine WC.block ?_
                  refine WC.seq ?_
                  refine WC.region ?_
                  refine WL.quiet (d := 88) rfl rfl rfl (q_move rfl) ?_
                  refine WL.quiet (d := 12) rfl rfl rfl (q_assign rfl) ?_
                  refine WL.nil ?_
                  refine WX.then ?_
                  obtain ⟨c_77693, h⟩ := chk_elim h
                  obtain ⟨c_77695, h⟩ := chk_elim h
                  refine WC.draw (fun i => [11].contains i) [] rfl ?_
                  refine WD.pure (i := 0) (d := 89) (by kernel_rfl) rfl (by kernel_rfl) (by kernel_rfl) rfl rfl rfl (fun _ => q_move rfl) ?_
                  refine WD.pure (i := 1) (d := 90) (by kernel_rfl) rfl (by kernel_rfl) (by kernel_rfl) rfl rfl rfl (fun _ => q_move rfl) ?_
                  refine WD.know (fun w hw => Hp.expose (.there .here) hw (by intro hz'; have := c_77693; rw [hz'] at this; omega)) ?_
                  rintro ⟨b_77705, rfl⟩
                  refine WD.pure (i := 2) (d := 91) (by kernel_rfl) rfl (by kernel_rfl) (by kernel_rfl) rfl rfl rfl (fun _ => q_indexAddr elT_22 rfl rfl c_77693.1 c_77693.2 rowAdd) ?_
                  refine WD.quiet (i := 3) (d := 92) (by kernel_rfl) rfl (by kernel_rfl) (by kernel_rfl) rfl rfl rfl (q_load1 oneT_3 rfl (rd_row (.there .here) ((flat_rd (enc := e3) (l := now_77668) (i := v_77671) (sz := 1) (fun _ => rfl) c_77693.1 c_77693.2) 0 _ rfl))) ?_
                  refine WD.pure (i := 4) (d := 93) (by kernel_rfl) rfl (by kernel_rfl) (by kernel_rfl) rfl rfl rfl (fun _ => q_fieldAddr fo_24_1 rfl rfl) ?_
                  refine WD.quiet (i := 5) (d := 94) (by kernel_rfl) rfl (by kernel_rfl) (by kernel_rfl) rfl rfl rfl (q_load1 oneT_22 rfl (rd_stb (.there (.there .here)) rfl)) ?_
                  refine WD.pure (i := 6) (d := 95) (by kernel_rfl) rfl (by kernel_rfl) (by kernel_rfl) rfl rfl rfl (fun _ => q_move rfl) ?_
                  refine WD.znth (j := 7) (dd := 96) (by kernel_rfl) rfl (by kernel_rfl) (by kernel_rfl) rfl rfl (Z := (Z ++ Zn_77184)) (Pr := (fun r x => r = e3 x)) elT_22 rfl rfl (hs_71385.mono ((Zle.left _ _).trans ((Zle.left _ _).trans ((Zle.assoc _ _ _).trans ((Zle.left _ _).trans ((Zle.assoc _ _ _).trans (hle_74760.trans (hle_74785.trans hle_77185)))))))) c_77695 ?_
                  rintro A_77706 r_77707 hA_77708 hl_77709 rfl
                  refine WD.quiet (i := 8) (d := 97) (by kernel_rfl) rfl (by kernel_rfl) (by kernel_rfl) rfl rfl rfl (q_load1 oneT_3 rfl (rd_z (hz.pv2 .here) hA_77708 rfl)) ?_
                  refine WD.pure (i := 9) (d := 98) (by kernel_rfl) rfl (by kernel_rfl) (by kernel_rfl) rfl rfl rfl (fun _ => q_add rfl rfl rfl) ?_
                  refine WD.pure (i := 10) (d := 99) (by kernel_rfl) rfl (by kernel_rfl) (by kernel_rfl) rfl rfl rfl (fun _ => q_indexAddr elT_22 rfl rfl c_77693.1 c_77693.2 rowAdd) ?_
                  refine WD.forced0 (i := 11) rfl (by kernel_rfl) rfl rfl rfl (Sin.of .nil) (e_rowStore (vs := [(.int .i64 (i64 ((nth now_77668 v_77671) + (nth s_71379.fDrift v_77671))))]) (ds := (now_77668.set (v_77671 : Int).toNat (i64 ((nth now_77668 v_77671) + (nth s_71379.fDrift v_77671)))).flatMap e3) sizT_3 rfl rfl rfl rfl (oc_cons rfl oc_nil) (.there .here) (flat_fit (enc := e3) (sz := 1) (k := 0) (fun _ => rfl) c_77693.1 c_77693.2 (by decide)) (flat_put (enc := e3) (l := now_77668) (sz := 1) (vs := [(.int .i64 (i64 ((nth now_77668 v_77671) + (nth s_71379.fDrift v_77671))))]) (y := i64 ((nth now_77668 v_77671) + (nth s_71379.fDrift v_77671))) (k := 0) (fun _ => rfl) c_77693.1 c_77693.2 rfl (Nat.le_of_ble_eq_true rfl))) ?_
                  refine WD.relen .here (u := (.slice (some ⟨b_77705, 0, none⟩) ((now_77668.set (v_77671 : Int).toNat (i64 ((nth now_77668 v_77671) + (nth s_71379.fDrift v_77671)))).length) cap_77670)) (slen (List.length_set).symm) ?_
                  refine WD.repin (i := 11) rfl (u := (.slice (some ⟨b_77705, 0, none⟩) ((now_77668.set (v_77671 : Int).toNat (i64 ((nth now_77668 v_77671) + (nth s_71379.fDrift v_77671)))).length) cap_77670)) (slen (List.length_set).symm) ?_
                  refine WD.done (by kernel_rfl) ?_
                  refine WX.blockNormal ?_
                  refine WX.then ?_
                  refine WC.region ?_
                  refine WL.quiet (d := 100) rfl rfl rfl (q_add rfl rfl rfl) ?_
                  refine WL.quiet (d := 86) rfl rfl rfl (q_move rfl) ?_
                  refine WL.nil ?_
                  exact WX.round (G := Nat × List Int × Int × Option Addr × Nat) ⟨n_77673, (now_77668.set (v_77671 : Int).toNat (i64 ((nth now_77668 v_77671) + (nth s_71379.fDrift v_77671)))), (i64 (v_77671 + 1)), (some ⟨b_77705, 0, none⟩), cap_77670⟩ h (Nat.lt_succ_self _) (.cons rfl (.cons rfl (.cons rfl (.cons rfl (.cons rfl (.cons rfl (.cons rfl (.cons rfl .nil)))))))) (.cons (.there .here) (.cons .here (.cons .here .nil)))
                · replace h := ite_f h hb_77675
                  refine WC.exit ?_
                  refine WX.thenExit ?_
                  refine WX.thenExit ?_
                  refine WX.blockHit ?_
                  exact WX.mid (G := List Int × Option Addr × Nat) ⟨now_77668, ao_77669, cap_77670⟩ h (.cons rfl (.cons rfl (.cons rfl (.cons rfl (.cons rfl (.cons rfl .nil)))))) (.cons .here (.cons .here (.cons .here .nil)))
              · rintro now_77623 ao_77624 cap_77625 h
                replace h := (hk_77627 now_77623).symm.trans h
                refine WC.seq ?_
                obtain ⟨x_77710, hx_77711, h⟩ := bind_elim h
                refine WC.region ?_
                refine WL.quiet (d := 102) rfl rfl rfl (q_loadA (cs := [(.slice ao_71380 s_71379.fStart.length cap_71381), (.slice ao_71383 s_71379.fDrift.length cap_71384), (.slice ao_71386 s_71379.fFaulty.length cap_71387), (.int .i64 s_71379.fF), (.int .i64 s_71379.fE), (.slice ao_71389 s_71379.fErrs.length cap_71390), (.slice ao_71392 s_71379.fLies.length cap_71393)]) aggT_24 rfl rfl (rd_all (.there (.there .here)))) ?_
                refine WL.quiet (d := 103) rfl rfl rfl (q_move rfl) ?_
                refine WL.quiet (d := 104) rfl rfl rfl (q_move rfl) ?_
                refine WL.enter3 (dd := 105) rfl rfl rfl (run_call (l := [.tmp 102, .tmp 103, .tmp 104]) Try.call15 (.cons rfl (.cons rfl (.cons rfl .nil)))) (.nil : Sel [fz Zn_77184, row (.slice ao_77624 now_77623.length cap_77625) 3 1 (now_77623.flatMap e3), stb b_74588 24 [(.slice ao_71380 s_71379.fStart.length cap_71381), (.slice ao_71383 s_71379.fDrift.length cap_71384), (.slice ao_71386 s_71379.fFaulty.length cap_71387), (.int .i64 s_71379.fF), (.int .i64 s_71379.fE), (.slice ao_71389 s_71379.fErrs.length cap_71390), (.slice ao_71392 s_71379.fLies.length cap_71393)]] [] [fz Zn_77184, row (.slice ao_77624 now_77623.length cap_77625) 3 1 (now_77623.flatMap e3), stb b_74588 24 [(.slice ao_71380 s_71379.fStart.length cap_71381), (.slice ao_71383 s_71379.fDrift.length cap_71384), (.slice ao_71386 s_71379.fFaulty.length cap_71387), (.int .i64 s_71379.fF), (.int .i64 s_71379.fE), (.slice ao_71389 s_71379.fErrs.length cap_71390), (.slice ao_71392 s_71379.fLies.length cap_71393)]]) (fun w hw => by have pz := (hz.call2 hw (.nil : Sel [fz Zn_77184, row (.slice ao_77624 now_77623.length cap_77625) 3 1 (now_77623.flatMap e3), stb b_74588 24 [(.slice ao_71380 s_71379.fStart.length cap_71381), (.slice ao_71383 s_71379.fDrift.length cap_71384), (.slice ao_71386 s_71379.fFaulty.length cap_71387), (.int .i64 s_71379.fF), (.int .i64 s_71379.fE), (.slice ao_71389 s_71379.fErrs.length cap_71390), (.slice ao_71392 s_71379.fLies.length cap_71393)]] [] [fz Zn_77184, row (.slice ao_77624 now_77623.length cap_77625) 3 1 (now_77623.flatMap e3), stb b_74588 24 [(.slice ao_71380 s_71379.fStart.length cap_71381), (.slice ao_71383 s_71379.fDrift.length cap_71384), (.slice ao_71386 s_71379.fFaulty.length cap_71387), (.int .i64 s_71379.fF), (.int .i64 s_71379.fE), (.slice ao_71389 s_71379.fErrs.length cap_71390), (.slice ao_71392 s_71379.fLies.length cap_71393)]]) .here).lend hw (.nil : Sel [fz Zn_77184, row (.slice ao_77624 now_77623.length cap_77625) 3 1 (now_77623.flatMap e3), stb b_74588 24 [(.slice ao_71380 s_71379.fStart.length cap_71381), (.slice ao_71383 s_71379.fDrift.length cap_71384), (.slice ao_71386 s_71379.fFaulty.length cap_71387), (.int .i64 s_71379.fF), (.int .i64 s_71379.fE), (.slice ao_71389 s_71379.fErrs.length cap_71390), (.slice ao_71392 s_71379.fLies.length cap_71393)]] [] [fz Zn_77184, row (.slice ao_77624 now_77623.length cap_77625) 3 1 (now_77623.flatMap e3), stb b_74588 24 [(.slice ao_71380 s_71379.fStart.length cap_71381), (.slice ao_71383 s_71379.fDrift.length cap_71384), (.slice ao_71386 s_71379.fFaulty.length cap_71387), (.int .i64 s_71379.fF), (.int .i64 s_71379.fE), (.slice ao_71389 s_71379.fErrs.length cap_71390), (.slice ao_71392 s_71379.fLies.length cap_71393)]]) (B := [row (.slice ao_77624 now_77623.length cap_77625) 3 1 (now_77623.flatMap e3)]) (fun _ hx' => ((.cons (.there .here) .nil) : Sel _ [row (.slice ao_77624 now_77623.length cap_77625) 3 1 (now_77623.flatMap e3)] _).mem hx'); exact w_timebase_Reads (Z := _) (ao_79 := ao_71380) (cap_80 := cap_71381) (ao_82 := ao_71383) (cap_83 := cap_71384) (ao_85 := ao_71386) (cap_86 := cap_71387) (ao_88 := ao_71389) (cap_89 := cap_71390) (ao_91 := ao_71392) (cap_92 := cap_71393) (ao_95 := ao_77624) (cap_96 := cap_77625) (s_78 := s_71379) (clocks_94 := now_77623) (round_98 := v_77186) (r := x_77710) w pz ((hs_71382.mono ((Zle.left _ _).trans ((Zle.left _ _).trans ((Zle.assoc _ _ _).trans ((Zle.left _ _).trans ((Zle.assoc _ _ _).trans (hle_74760.trans (hle_74785.trans hle_77185)))))))).mono (Zle.left _ _)) ((hs_71385.mono ((Zle.left _ _).trans ((Zle.left _ _).trans ((Zle.assoc _ _ _).trans ((Zle.left _ _).trans ((Zle.assoc _ _ _).trans (hle_74760.trans (hle_74785.trans hle_77185)))))))).mono (Zle.left _ _)) ((hs_71388.mono ((Zle.left _ _).trans ((Zle.left _ _).trans ((Zle.assoc _ _ _).trans ((Zle.left _ _).trans ((Zle.assoc _ _ _).trans (hle_74760.trans (hle_74785.trans hle_77185)))))))).mono (Zle.left _ _)) ((hs_71391.mono ((Zle.left _ _).trans ((Zle.left _ _).trans ((Zle.assoc _ _ _).trans ((Zle.left _ _).trans ((Zle.assoc _ _ _).trans (hle_74760.trans (hle_74785.trans hle_77185)))))))).mono (Zle.left _ _)) ((hs_71394.mono ((Zle.left _ _).trans ((Zle.left _ _).trans ((Zle.assoc _ _ _).trans ((Zle.left _ _).trans ((Zle.assoc _ _ _).trans (hle_74760.trans (hle_74785.trans hle_77185)))))))).mono (Zle.left _ _)) (ZA.row (hw.lent (.nil : Sel [fz Zn_77184, row (.slice ao_77624 now_77623.length cap_77625) 3 1 (now_77623.flatMap e3), stb b_74588 24 [(.slice ao_71380 s_71379.fStart.length cap_71381), (.slice ao_71383 s_71379.fDrift.length cap_71384), (.slice ao_71386 s_71379.fFaulty.length cap_71387), (.int .i64 s_71379.fF), (.int .i64 s_71379.fE), (.slice ao_71389 s_71379.fErrs.length cap_71390), (.slice ao_71392 s_71379.fLies.length cap_71393)]] [] [fz Zn_77184, row (.slice ao_77624 now_77623.length cap_77625) 3 1 (now_77623.flatMap e3), stb b_74588 24 [(.slice ao_71380 s_71379.fStart.length cap_71381), (.slice ao_71383 s_71379.fDrift.length cap_71384), (.slice ao_71386 s_71379.fFaulty.length cap_71387), (.int .i64 s_71379.fF), (.int .i64 s_71379.fE), (.slice ao_71389 s_71379.fErrs.length cap_71390), (.slice ao_71392 s_71379.fLies.length cap_71393)]]) (B := [row (.slice ao_77624 now_77623.length cap_77625) 3 1 (now_77623.flatMap e3)]) (fun _ hx' => ((.cons (.there .here) .nil) : Sel _ [row (.slice ao_77624 now_77623.length cap_77625) 3 1 (now_77623.flatMap e3)] _).mem hx') (.head _) _) (RR.flat (enc := e3) (fun _ => rfl) _) ⟨w, pz.1⟩) hx_77711) ?_
                rintro ao_77717 cap_77718 m_77719 hf_77720
                refine WL.quiet (d := 101) rfl rfl rfl (q_move rfl) ?_
                refine WL.quiet (d := 106) rfl rfl rfl (q_extract rfl rfl) ?_
                refine WL.quiet (d := 107) rfl rfl rfl (q_extract rfl rfl) ?_
                refine WL.quiet (d := 13) rfl rfl rfl (q_assign rfl) ?_
                refine WL.quiet (d := 14) rfl rfl rfl (q_assign rfl) ?_
                refine WL.nil ?_
                refine WX.then ?_
                refine WC.seq ?_
                obtain ⟨x_77722, hx_77723, h⟩ := bind_elim h
                refine WC.region ?_
                refine WL.quiet (d := 109) rfl rfl rfl (q_move rfl) ?_
                refine WL.quiet (d := 110) rfl rfl rfl (q_fieldAddr fo_24_3 rfl rfl) ?_
                refine WL.quiet (d := 111) rfl rfl rfl (q_load1 oneT_3 rfl (rd_stb (.there (.there (.there (.there .here)))) rfl)) ?_
                refine WL.enter2 (dd := 112) rfl rfl rfl (run_call (l := [.tmp 109, .tmp 111]) Try.call24 (.cons rfl (.cons rfl .nil))) (.nil : Sel [mat 3 1 e3 m_77719, row (.slice ao_77717 x_77710.1.length cap_77718) 22 1 (m_77719.flatMap em), fz Zn_77184, row (.slice ao_77624 now_77623.length cap_77625) 3 1 (now_77623.flatMap e3), stb b_74588 24 [(.slice ao_71380 s_71379.fStart.length cap_71381), (.slice ao_71383 s_71379.fDrift.length cap_71384), (.slice ao_71386 s_71379.fFaulty.length cap_71387), (.int .i64 s_71379.fF), (.int .i64 s_71379.fE), (.slice ao_71389 s_71379.fErrs.length cap_71390), (.slice ao_71392 s_71379.fLies.length cap_71393)]] [] [mat 3 1 e3 m_77719, row (.slice ao_77717 x_77710.1.length cap_77718) 22 1 (m_77719.flatMap em), fz Zn_77184, row (.slice ao_77624 now_77623.length cap_77625) 3 1 (now_77623.flatMap e3), stb b_74588 24 [(.slice ao_71380 s_71379.fStart.length cap_71381), (.slice ao_71383 s_71379.fDrift.length cap_71384), (.slice ao_71386 s_71379.fFaulty.length cap_71387), (.int .i64 s_71379.fF), (.int .i64 s_71379.fE), (.slice ao_71389 s_71379.fErrs.length cap_71390), (.slice ao_71392 s_71379.fLies.length cap_71393)]]) (fun w hw => by have pz := (hz.call2 hw (.nil : Sel [mat 3 1 e3 m_77719, row (.slice ao_77717 x_77710.1.length cap_77718) 22 1 (m_77719.flatMap em), fz Zn_77184, row (.slice ao_77624 now_77623.length cap_77625) 3 1 (now_77623.flatMap e3), stb b_74588 24 [(.slice ao_71380 s_71379.fStart.length cap_71381), (.slice ao_71383 s_71379.fDrift.length cap_71384), (.slice ao_71386 s_71379.fFaulty.length cap_71387), (.int .i64 s_71379.fF), (.int .i64 s_71379.fE), (.slice ao_71389 s_71379.fErrs.length cap_71390), (.slice ao_71392 s_71379.fLies.length cap_71393)]] [] [mat 3 1 e3 m_77719, row (.slice ao_77717 x_77710.1.length cap_77718) 22 1 (m_77719.flatMap em), fz Zn_77184, row (.slice ao_77624 now_77623.length cap_77625) 3 1 (now_77623.flatMap e3), stb b_74588 24 [(.slice ao_71380 s_71379.fStart.length cap_71381), (.slice ao_71383 s_71379.fDrift.length cap_71384), (.slice ao_71386 s_71379.fFaulty.length cap_71387), (.int .i64 s_71379.fF), (.int .i64 s_71379.fE), (.slice ao_71389 s_71379.fErrs.length cap_71390), (.slice ao_71392 s_71379.fLies.length cap_71393)]]) (.there (.there .here))).lend hw (.nil : Sel [mat 3 1 e3 m_77719, row (.slice ao_77717 x_77710.1.length cap_77718) 22 1 (m_77719.flatMap em), fz Zn_77184, row (.slice ao_77624 now_77623.length cap_77625) 3 1 (now_77623.flatMap e3), stb b_74588 24 [(.slice ao_71380 s_71379.fStart.length cap_71381), (.slice ao_71383 s_71379.fDrift.length cap_71384), (.slice ao_71386 s_71379.fFaulty.length cap_71387), (.int .i64 s_71379.fF), (.int .i64 s_71379.fE), (.slice ao_71389 s_71379.fErrs.length cap_71390), (.slice ao_71392 s_71379.fLies.length cap_71393)]] [] [mat 3 1 e3 m_77719, row (.slice ao_77717 x_77710.1.length cap_77718) 22 1 (m_77719.flatMap em), fz Zn_77184, row (.slice ao_77624 now_77623.length cap_77625) 3 1 (now_77623.flatMap e3), stb b_74588 24 [(.slice ao_71380 s_71379.fStart.length cap_71381), (.slice ao_71383 s_71379.fDrift.length cap_71384), (.slice ao_71386 s_71379.fFaulty.length cap_71387), (.int .i64 s_71379.fF), (.int .i64 s_71379.fE), (.slice ao_71389 s_71379.fErrs.length cap_71390), (.slice ao_71392 s_71379.fLies.length cap_71393)]]) (B := [row (.slice ao_77717 x_77710.1.length cap_77718) 22 1 (m_77719.flatMap em), mat 3 1 e3 m_77719]) (fun _ hx' => ((.cons (.there .here) (.cons .here .nil)) : Sel _ [row (.slice ao_77717 x_77710.1.length cap_77718) 22 1 (m_77719.flatMap em), mat 3 1 e3 m_77719] _).mem hx'); exact w_timebase_Round (Z := _) (ao_8479 := ao_77717) (cap_8480 := cap_77718) (reads_8478 := x_77710.1) (f_8482 := s_71379.fF) (r := x_77722) w pz (ZA.row (hw.lent (.nil : Sel [mat 3 1 e3 m_77719, row (.slice ao_77717 x_77710.1.length cap_77718) 22 1 (m_77719.flatMap em), fz Zn_77184, row (.slice ao_77624 now_77623.length cap_77625) 3 1 (now_77623.flatMap e3), stb b_74588 24 [(.slice ao_71380 s_71379.fStart.length cap_71381), (.slice ao_71383 s_71379.fDrift.length cap_71384), (.slice ao_71386 s_71379.fFaulty.length cap_71387), (.int .i64 s_71379.fF), (.int .i64 s_71379.fE), (.slice ao_71389 s_71379.fErrs.length cap_71390), (.slice ao_71392 s_71379.fLies.length cap_71393)]] [] [mat 3 1 e3 m_77719, row (.slice ao_77717 x_77710.1.length cap_77718) 22 1 (m_77719.flatMap em), fz Zn_77184, row (.slice ao_77624 now_77623.length cap_77625) 3 1 (now_77623.flatMap e3), stb b_74588 24 [(.slice ao_71380 s_71379.fStart.length cap_71381), (.slice ao_71383 s_71379.fDrift.length cap_71384), (.slice ao_71386 s_71379.fFaulty.length cap_71387), (.int .i64 s_71379.fF), (.int .i64 s_71379.fE), (.slice ao_71389 s_71379.fErrs.length cap_71390), (.slice ao_71392 s_71379.fLies.length cap_71393)]]) (B := [row (.slice ao_77717 x_77710.1.length cap_77718) 22 1 (m_77719.flatMap em), mat 3 1 e3 m_77719]) (fun _ hx' => ((.cons (.there .here) (.cons .here .nil)) : Sel _ [row (.slice ao_77717 x_77710.1.length cap_77718) 22 1 (m_77719.flatMap em), mat 3 1 e3 m_77719] _).mem hx') (.head _) _) (ZA.mat (hw.lent (.nil : Sel [mat 3 1 e3 m_77719, row (.slice ao_77717 x_77710.1.length cap_77718) 22 1 (m_77719.flatMap em), fz Zn_77184, row (.slice ao_77624 now_77623.length cap_77625) 3 1 (now_77623.flatMap e3), stb b_74588 24 [(.slice ao_71380 s_71379.fStart.length cap_71381), (.slice ao_71383 s_71379.fDrift.length cap_71384), (.slice ao_71386 s_71379.fFaulty.length cap_71387), (.int .i64 s_71379.fF), (.int .i64 s_71379.fE), (.slice ao_71389 s_71379.fErrs.length cap_71390), (.slice ao_71392 s_71379.fLies.length cap_71393)]] [] [mat 3 1 e3 m_77719, row (.slice ao_77717 x_77710.1.length cap_77718) 22 1 (m_77719.flatMap em), fz Zn_77184, row (.slice ao_77624 now_77623.length cap_77625) 3 1 (now_77623.flatMap e3), stb b_74588 24 [(.slice ao_71380 s_71379.fStart.length cap_71381), (.slice ao_71383 s_71379.fDrift.length cap_71384), (.slice ao_71386 s_71379.fFaulty.length cap_71387), (.int .i64 s_71379.fF), (.int .i64 s_71379.fE), (.slice ao_71389 s_71379.fErrs.length cap_71390), (.slice ao_71392 s_71379.fLies.length cap_71393)]]) (B := [row (.slice ao_77717 x_77710.1.length cap_77718) 22 1 (m_77719.flatMap em), mat 3 1 e3 m_77719]) (fun _ hx' => ((.cons (.there .here) (.cons .here .nil)) : Sel _ [row (.slice ao_77717 x_77710.1.length cap_77718) 22 1 (m_77719.flatMap em), mat 3 1 e3 m_77719] _).mem hx') (.tail _ (.head _)) _) (fun _ => rfl) hf_77720 ⟨w, pz.1⟩) ⟨w, pz.1⟩) hx_77723) ?_
                rintro ao_77727 cap_77728 _
                refine WL.quiet (d := 108) rfl rfl rfl (q_move rfl) ?_
                refine WL.quiet (d := 113) rfl rfl rfl (q_extract rfl rfl) ?_
                refine WL.quiet (d := 114) rfl rfl rfl (q_extract rfl rfl) ?_
                refine WL.quiet (d := 15) rfl rfl rfl (q_assign rfl) ?_
                refine WL.quiet (d := 16) rfl rfl rfl (q_assign rfl) ?_
                refine WL.nil ?_
                refine WX.then ?_
                refine WC.seq ?_
                refine WC.freezeS .here (.there (.there .here)) hz (RR.flat (enc := e3) (fun _ => rfl) _) ?_
                intro Zn_77744 hle_77745 hf_77746
                obtain ⟨b_77756, hb_77757, h⟩ := bind_elim h
                refine WC.region ?_
                refine WL.quiet (d := 115) rfl rfl rfl (q_move rfl) ?_
                refine WL.quiet (d := 116) rfl rfl rfl (q_neq rfl rfl) ?_
                refine WL.quiet (d := 117) rfl rfl rfl (q_move rfl) ?_
                refine WL.cut0 True [(2, (.pointer (some ⟨b_74588, 0, none⟩))), (8, (.slice ao_74649 x_74639.1.length cap_74650)), (10, (.int .i64 v_77186)), (74, (.int .i64 (i64 ((i64 (Int.tmod rounds_71395 31)) + 1)))), (75, (.int .i64 v_77186)), (15, (.slice ao_77727 x_77722.1.length cap_77728)), (120, (.bool ((decide (x_77710.2 ≠ 0)) || (decide (x_77722.2 ≠ 0)))))] [fz Zn_77744, mat 3 1 e3 m_77719, row (.slice ao_77717 x_77710.1.length cap_77718) 22 1 (m_77719.flatMap em), row (.slice ao_77624 now_77623.length cap_77625) 3 1 (now_77623.flatMap e3), stb b_74588 24 [(.slice ao_71380 s_71379.fStart.length cap_71381), (.slice ao_71383 s_71379.fDrift.length cap_71384), (.slice ao_71386 s_71379.fFaulty.length cap_71387), (.int .i64 s_71379.fF), (.int .i64 s_71379.fE), (.slice ao_71389 s_71379.fErrs.length cap_71390), (.slice ao_71392 s_71379.fLies.length cap_71393)]] 3 ?_ (fun _ => ?_)
                · rcases Bool.eq_false_or_eq_true (decide (x_77710.2 ≠ 0)) with hb' | hb'
                  · have hg_77758 := hb'; clear hb'
                    refine WL.pin (i := 117) rfl hg_77758 ?_
                    refine WL.skip rfl rfl rfl ?_
                    refine WL.skip rfl rfl rfl ?_
                    refine WL.quiet (d := 120) rfl rfl rfl (q_pickT rfl rfl) ?_
                    exact WL.cutEnd () trivial (.cons rfl (.cons rfl (.cons rfl (.cons rfl (.cons rfl (.cons rfl (.cons (some_bool (or_l hg_77758)) .nil))))))) (.cons .here (.cons .here (.cons .here (.cons .here (.cons .here .nil)))))
                  · have hg_77759 := hb'; clear hb'
                    refine WL.pin (i := 117) rfl hg_77759 ?_
                    refine WL.quiet (d := 118) rfl rfl rfl (q_move rfl) ?_
                    refine WL.quiet (d := 119) rfl rfl rfl (q_neq rfl rfl) ?_
                    refine WL.quiet (d := 120) rfl rfl rfl (q_pickF rfl rfl) ?_
                    exact WL.cutEnd () trivial (.cons rfl (.cons rfl (.cons rfl (.cons rfl (.cons rfl (.cons rfl (.cons (some_bool (or_r hg_77759)) .nil))))))) (.cons .here (.cons .here (.cons .here (.cons .here (.cons .here .nil)))))
                · skip
                  refine WL.quiet (d := 121) rfl rfl rfl (q_move rfl) ?_
                  refine WL.cut0 True [(2, (.pointer (some ⟨b_74588, 0, none⟩))), (8, (.slice ao_74649 x_74639.1.length cap_74650)), (74, (.int .i64 (i64 ((i64 (Int.tmod rounds_71395 31)) + 1)))), (75, (.int .i64 v_77186)), (132, (.bool b_77756))] [fz Zn_77744, mat 3 1 e3 m_77719, row (.slice ao_77717 x_77710.1.length cap_77718) 22 1 (m_77719.flatMap em), row (.slice ao_77624 now_77623.length cap_77625) 3 1 (now_77623.flatMap e3), stb b_74588 24 [(.slice ao_71380 s_71379.fStart.length cap_71381), (.slice ao_71383 s_71379.fDrift.length cap_71384), (.slice ao_71386 s_71379.fFaulty.length cap_71387), (.int .i64 s_71379.fF), (.int .i64 s_71379.fE), (.slice ao_71389 s_71379.fErrs.length cap_71390), (.slice ao_71392 s_71379.fLies.length cap_71393)]] 11 ?_ (fun _ => ?_)
                  · rcases Bool.eq_false_or_eq_true ((decide (x_77710.2 ≠ 0)) || (decide (x_77722.2 ≠ 0))) with hb' | hb'
                    · have hg_77760 := hb'; clear hb'
                      have hq_77761 := ite_t hb_77757 hg_77760
                      replace hq_77761 := Option.some.inj hq_77761
                      refine WL.pin (i := 121) rfl hg_77760 ?_
                      refine WL.skip rfl rfl rfl ?_
                      refine WL.skip rfl rfl rfl ?_
                      refine WL.skip rfl rfl rfl ?_
                      refine WL.skip rfl rfl rfl ?_
                      refine WL.skip rfl rfl rfl ?_
                      refine WL.skip rfl rfl rfl ?_
                      refine WL.skip rfl rfl rfl ?_
                      refine WL.skip rfl rfl rfl ?_
                      refine WL.skip rfl rfl rfl ?_
                      refine WL.skip rfl rfl rfl ?_
                      refine WL.quiet (d := 132) rfl rfl rfl (q_pickT rfl rfl) ?_
                      exact WL.cutEnd () trivial (.cons rfl (.cons rfl (.cons rfl (.cons rfl (.cons (some_bool hq_77761) .nil))))) (.cons .here (.cons .here (.cons .here (.cons .here (.cons .here .nil)))))
                    · have hg_77762 := hb'; clear hb'
                      have hq_77763 := ite_f hb_77757 hg_77762
                      obtain ⟨c_77750, hq_77763⟩ := chk_elim hq_77763
                      obtain ⟨x_77754, hx_77755, hq_77763⟩ := bind_elim hq_77763
                      replace hq_77763 := Option.some.inj hq_77763
                      refine WL.pin (i := 121) rfl hg_77762 ?_
                      refine WL.quiet (d := 122) rfl rfl rfl (q_move rfl) ?_
                      have rel_77765 : RR 1 (p22 (Z ++ Zn_77744)) [(.slice ao_77727 x_77722.1.length cap_77728)] ([x_77722.1] : List (List Int)) := (RR.cons (r := [(.slice ao_77727 x_77722.1.length cap_77728)]) rfl (show p22 _ _ _ from ⟨_, _, rfl, hf_77746⟩) (RR.nil _ _))
                      refine WL.new (dd := 123) rfl rfl rfl (e_buildSlice (cs := [(.slice ao_77727 x_77722.1.length cap_77728)]) elT_30 (Eos.parts (l := [.tmp 122]) (.cons rfl .nil) [0]) (fun _ => by kernel_rfl) rfl (by unfold maxLen; omega)) ?_
                      intro b_77764 _
                      refine WL.quiet (d := 124) rfl rfl rfl (q_move rfl) ?_
                      refine WL.quiet (d := 125) rfl rfl rfl (q_move rfl) ?_
                      refine WL.quiet (d := 126) rfl rfl rfl (q_add rfl rfl rfl) ?_
                      refine WL.quiet (d := 127) rfl rfl rfl (q_move rfl) ?_
                      refine WL.quiet (d := 128) rfl rfl rfl (q_add rfl rfl rfl) ?_
                      refine WL.zsub (dd := 129) rfl rfl (Z := (Z ++ Zn_77744)) (Pr := (p22 (Z ++ Zn_77744))) elT_30 rfl ((hf_74761.mono (hle_74785.trans (hle_77185.trans hle_77745))).weak (fun _ _ h => p22_mono (hle_74785.trans (hle_77185.trans hle_77745)) h)) (ixo rfl) (ixo rfl) rfl rfl c_77750 rfl ?_
                      rintro ao_77767 cap_77768 hs_77769
                      refine WL.callD (dd := 130) rfl rfl rfl (run_call (l := [.tmp 123, .tmp 129]) Try.call20 (.cons rfl (.cons rfl .nil))) (.nil : Sel [row (.slice (some ⟨b_77764, 0, none⟩) (([x_77722.1] : List (List Int)).length) 1) 22 1 [(.slice ao_77727 x_77722.1.length cap_77728)], fz Zn_77744, mat 3 1 e3 m_77719, row (.slice ao_77717 x_77710.1.length cap_77718) 22 1 (m_77719.flatMap em), row (.slice ao_77624 now_77623.length cap_77625) 3 1 (now_77623.flatMap e3), stb b_74588 24 [(.slice ao_71380 s_71379.fStart.length cap_71381), (.slice ao_71383 s_71379.fDrift.length cap_71384), (.slice ao_71386 s_71379.fFaulty.length cap_71387), (.int .i64 s_71379.fF), (.int .i64 s_71379.fE), (.slice ao_71389 s_71379.fErrs.length cap_71390), (.slice ao_71392 s_71379.fLies.length cap_71393)]] [] [row (.slice (some ⟨b_77764, 0, none⟩) (([x_77722.1] : List (List Int)).length) 1) 22 1 [(.slice ao_77727 x_77722.1.length cap_77728)], fz Zn_77744, mat 3 1 e3 m_77719, row (.slice ao_77717 x_77710.1.length cap_77718) 22 1 (m_77719.flatMap em), row (.slice ao_77624 now_77623.length cap_77625) 3 1 (now_77623.flatMap e3), stb b_74588 24 [(.slice ao_71380 s_71379.fStart.length cap_71381), (.slice ao_71383 s_71379.fDrift.length cap_71384), (.slice ao_71386 s_71379.fFaulty.length cap_71387), (.int .i64 s_71379.fF), (.int .i64 s_71379.fE), (.slice ao_71389 s_71379.fErrs.length cap_71390), (.slice ao_71392 s_71379.fLies.length cap_71393)]]) (fun w hw => by have pz := (hz.call2 hw (.nil : Sel [row (.slice (some ⟨b_77764, 0, none⟩) (([x_77722.1] : List (List Int)).length) 1) 22 1 [(.slice ao_77727 x_77722.1.length cap_77728)], fz Zn_77744, mat 3 1 e3 m_77719, row (.slice ao_77717 x_77710.1.length cap_77718) 22 1 (m_77719.flatMap em), row (.slice ao_77624 now_77623.length cap_77625) 3 1 (now_77623.flatMap e3), stb b_74588 24 [(.slice ao_71380 s_71379.fStart.length cap_71381), (.slice ao_71383 s_71379.fDrift.length cap_71384), (.slice ao_71386 s_71379.fFaulty.length cap_71387), (.int .i64 s_71379.fF), (.int .i64 s_71379.fE), (.slice ao_71389 s_71379.fErrs.length cap_71390), (.slice ao_71392 s_71379.fLies.length cap_71393)]] [] [row (.slice (some ⟨b_77764, 0, none⟩) (([x_77722.1] : List (List Int)).length) 1) 22 1 [(.slice ao_77727 x_77722.1.length cap_77728)], fz Zn_77744, mat 3 1 e3 m_77719, row (.slice ao_77717 x_77710.1.length cap_77718) 22 1 (m_77719.flatMap em), row (.slice ao_77624 now_77623.length cap_77625) 3 1 (now_77623.flatMap e3), stb b_74588 24 [(.slice ao_71380 s_71379.fStart.length cap_71381), (.slice ao_71383 s_71379.fDrift.length cap_71384), (.slice ao_71386 s_71379.fFaulty.length cap_71387), (.int .i64 s_71379.fF), (.int .i64 s_71379.fE), (.slice ao_71389 s_71379.fErrs.length cap_71390), (.slice ao_71392 s_71379.fLies.length cap_71393)]]) (.there .here)).lend hw (.nil : Sel [row (.slice (some ⟨b_77764, 0, none⟩) (([x_77722.1] : List (List Int)).length) 1) 22 1 [(.slice ao_77727 x_77722.1.length cap_77728)], fz Zn_77744, mat 3 1 e3 m_77719, row (.slice ao_77717 x_77710.1.length cap_77718) 22 1 (m_77719.flatMap em), row (.slice ao_77624 now_77623.length cap_77625) 3 1 (now_77623.flatMap e3), stb b_74588 24 [(.slice ao_71380 s_71379.fStart.length cap_71381), (.slice ao_71383 s_71379.fDrift.length cap_71384), (.slice ao_71386 s_71379.fFaulty.length cap_71387), (.int .i64 s_71379.fF), (.int .i64 s_71379.fE), (.slice ao_71389 s_71379.fErrs.length cap_71390), (.slice ao_71392 s_71379.fLies.length cap_71393)]] [] [row (.slice (some ⟨b_77764, 0, none⟩) (([x_77722.1] : List (List Int)).length) 1) 22 1 [(.slice ao_77727 x_77722.1.length cap_77728)], fz Zn_77744, mat 3 1 e3 m_77719, row (.slice ao_77717 x_77710.1.length cap_77718) 22 1 (m_77719.flatMap em), row (.slice ao_77624 now_77623.length cap_77625) 3 1 (now_77623.flatMap e3), stb b_74588 24 [(.slice ao_71380 s_71379.fStart.length cap_71381), (.slice ao_71383 s_71379.fDrift.length cap_71384), (.slice ao_71386 s_71379.fFaulty.length cap_71387), (.int .i64 s_71379.fF), (.int .i64 s_71379.fE), (.slice ao_71389 s_71379.fErrs.length cap_71390), (.slice ao_71392 s_71379.fLies.length cap_71393)]]) (B := [row (.slice (some ⟨b_77764, 0, none⟩) (([x_77722.1] : List (List Int)).length) 1) 22 1 [(.slice ao_77727 x_77722.1.length cap_77728)]]) (fun _ hx' => ((.cons .here .nil) : Sel _ [row (.slice (some ⟨b_77764, 0, none⟩) (([x_77722.1] : List (List Int)).length) 1) 22 1 [(.slice ao_77727 x_77722.1.length cap_77728)]] _).mem hx'); exact w_law34_lists (Z := _) (ao_21383 := (some ⟨b_77764, 0, none⟩)) (cap_21384 := 1) (ao_21387 := ao_77767) (cap_21388 := cap_77768) (a_21382 := ([x_77722.1] : List (List Int))) (b_21386 := ((x_74639.1.take ((i64 (v_77186 + 2)) : Int).toNat).drop ((i64 (v_77186 + 1)) : Int).toNat)) (r := x_77754) w pz (ZA.row (hw.lent (.nil : Sel [row (.slice (some ⟨b_77764, 0, none⟩) (([x_77722.1] : List (List Int)).length) 1) 22 1 [(.slice ao_77727 x_77722.1.length cap_77728)], fz Zn_77744, mat 3 1 e3 m_77719, row (.slice ao_77717 x_77710.1.length cap_77718) 22 1 (m_77719.flatMap em), row (.slice ao_77624 now_77623.length cap_77625) 3 1 (now_77623.flatMap e3), stb b_74588 24 [(.slice ao_71380 s_71379.fStart.length cap_71381), (.slice ao_71383 s_71379.fDrift.length cap_71384), (.slice ao_71386 s_71379.fFaulty.length cap_71387), (.int .i64 s_71379.fF), (.int .i64 s_71379.fE), (.slice ao_71389 s_71379.fErrs.length cap_71390), (.slice ao_71392 s_71379.fLies.length cap_71393)]] [] [row (.slice (some ⟨b_77764, 0, none⟩) (([x_77722.1] : List (List Int)).length) 1) 22 1 [(.slice ao_77727 x_77722.1.length cap_77728)], fz Zn_77744, mat 3 1 e3 m_77719, row (.slice ao_77717 x_77710.1.length cap_77718) 22 1 (m_77719.flatMap em), row (.slice ao_77624 now_77623.length cap_77625) 3 1 (now_77623.flatMap e3), stb b_74588 24 [(.slice ao_71380 s_71379.fStart.length cap_71381), (.slice ao_71383 s_71379.fDrift.length cap_71384), (.slice ao_71386 s_71379.fFaulty.length cap_71387), (.int .i64 s_71379.fF), (.int .i64 s_71379.fE), (.slice ao_71389 s_71379.fErrs.length cap_71390), (.slice ao_71392 s_71379.fLies.length cap_71393)]]) (B := [row (.slice (some ⟨b_77764, 0, none⟩) (([x_77722.1] : List (List Int)).length) 1) 22 1 [(.slice ao_77727 x_77722.1.length cap_77728)]]) (fun _ hx' => ((.cons .here .nil) : Sel _ [row (.slice (some ⟨b_77764, 0, none⟩) (([x_77722.1] : List (List Int)).length) 1) 22 1 [(.slice ao_77727 x_77722.1.length cap_77728)]] _).mem hx') (.head _) _) (rel_77765.weak (fun _ _ h => p22_mono (Zle.left _ _) h)) ⟨w, pz.1⟩) ((hs_77769.mono (Zle.left _ _)).weak (fun _ _ h => p22_mono (Zle.left _ _) h)) hx_77755) ?_
                      refine WL.quiet (d := 131) rfl rfl rfl (q_not rfl) ?_
                      refine WL.quiet (d := 132) rfl rfl rfl (q_pickF rfl rfl) ?_
                      exact WL.cutEnd () trivial (.cons rfl (.cons rfl (.cons rfl (.cons rfl (.cons (some_bool hq_77763) .nil))))) (.cons (.there .here) (.cons (.there .here) (.cons (.there .here) (.cons (.there .here) (.cons (.there .here) .nil)))))
                  · skip
                    refine WL.nil ?_
                    refine WX.then ?_
                    refine WC.cond rfl (fun hb_77770 => ?_) (fun hb_77770 => ?_)
                    · replace h := ite_t h hb_77770
                      refine WC.seq ?_
                      refine WC.region ?_
                      refine WL.quiet (d := 4) rfl rfl rfl (q_assign rfl) ?_
                      refine WL.nil ?_
                      refine WX.then ?_
                      refine WC.ret ?_
                      refine WX.blockRet ?_
                      refine WX.thenRet ?_
                      refine WX.thenRet ?_
                      refine WX.blockRet ?_
                      refine WX.thenRet ?_
                      obtain rfl := Option.some.inj h
                      refine WX.bpRet Try.results8 (.tmp rfl .nil) (fun w hw => ?_)
                      exact ⟨Zn_77744, ret1 rfl, trivial, hw.sub (.cons .here .nil)⟩
                    · replace h := ite_f h hb_77770
                      refine WC.skip ?_
                      refine WX.blockNormal ?_
                      exact WX.mid (G := Zp) Zn_77744 ⟨h, hle_77745⟩ (.cons rfl (.cons rfl (.cons rfl (.cons rfl .nil)))) (.cons .here (.cons (.there (.there (.there .here))) .nil))
            · rintro Zn_77479 ⟨h, hle_77480⟩
              replace h := hk_77482.symm.trans h
              refine WC.region ?_
              refine WL.quiet (d := 133) rfl rfl rfl (q_add rfl rfl rfl) ?_
              refine WL.quiet (d := 75) rfl rfl rfl (q_move rfl) ?_
              refine WL.nil ?_
              exact WX.round (G := Nat × Int × Zp) ⟨n_77188, (i64 (v_77186 + 1)), Zn_77479⟩ ⟨h, (hle_77185.trans hle_77480)⟩ (Nat.lt_succ_self _) (.cons rfl (.cons rfl (.cons rfl (.cons rfl .nil)))) (.cons .here (.cons .here .nil))
          · replace h := ite_f h hb_77190
            refine WC.exit ?_
            refine WX.thenExit ?_
            refine WX.thenExit ?_
            refine WX.blockHit ?_
            exact WX.mid (G := Zp) Zn_77184 ⟨h, hle_77185⟩ .nil (.cons .here .nil)
        · rintro Zn_76595 ⟨h, hle_76596⟩
          replace h := hk_76598.symm.trans h
          refine WC.seq ?_
          obtain ⟨x_77771, hx_77772, h⟩ := bind_elim h
          refine WC.region ?_
          refine WL.enter1 (dd := 134) rfl rfl rfl (run_call (l := []) Try.call12 .nil) (.nil : Sel [fz Zn_76595] [] [fz Zn_76595]) (fun w hw => by have pz := (hz.call2 hw (.nil : Sel [fz Zn_76595] [] [fz Zn_76595]) .here); exact w_law34_awake (Z := _)   (r := x_77771) w pz  hx_77772) ?_
          rintro Zn_77775 _
          refine WL.merge .here .here ?_
          refine WL.quiet (d := 4) rfl rfl rfl (q_assign rfl) ?_
          refine WL.nil ?_
          refine WX.then ?_
          refine WC.ret ?_
          obtain rfl := Option.some.inj h
          refine WX.bpRet Try.results8 (.tmp rfl .nil) (fun w hw => ?_)
          exact ⟨(Zn_76595 ++ Zn_77775), ret1 rfl, trivial, hw.sub (.cons .here .nil)⟩
end Go.Proofs.Ytbejngeaocfieaa
