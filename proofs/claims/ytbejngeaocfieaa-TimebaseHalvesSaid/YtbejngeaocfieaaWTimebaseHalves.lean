/- A part of this claim's proof: models of the functions that the law reaches, with the proof that the functions compute them; plain laws about the models. No conditions beyond those in each theorem's statement. -/
import Derived.Test.YtbejngeaocfieaaW34d
namespace Go.Proofs.Ytbejngeaocfieaa
open Go Go.RowKit Sep
set_option linter.all false
set_option maxRecDepth 30000
def m_law34_TimebaseHalves_L2 (x_57275 : List (List Int) × Int) (s_56721 : Stimebase_Setup) (x_57291 : Int × Int) (k_57547 : Option Bool) : Nat → Int → (List (List Int)) → Int → Option Bool
  | 0, _, _, _ => none
  | n_57648 + 1, last_57640, v_57641, v_57646 => if decide (v_57646 < ((x_57275.1.length : Nat) : Int)) then chk ((0 : Int) ≤ v_57646 ∧ v_57646 < ((v_57641.length : Nat) : Int)) ((m_timebase_Skew s_56721 (nth v_57641 v_57646)).bind fun x_57709 => if ((decide (x_57709.2 ≠ 0)) || ((decide (v_57646 > 0)) && (decide (x_57709.1 > (i64 (Int.tdiv (i64 (last_57640 + x_57291.1)) 2)))))) || (((decide (v_57646 > 0)) && (decide (last_57640 ≤ x_57291.1))) && (decide (x_57709.1 > x_57291.1))) then some false else m_law34_TimebaseHalves_L2 x_57275 s_56721 x_57291 k_57547 n_57648 x_57709.1 v_57641 (i64 (v_57646 + 1))) else k_57547
theorem m_law34_TimebaseHalves_L2_fuel {n : Nat} {x_57275 : List (List Int) × Int} {s_56721 : Stimebase_Setup} {x_57291 : Int × Int} {k_57547 : Option Bool} {last_57640 : Int} {v_57641 : List (List Int)} {v_57646 : Int} {r : Bool} (h : m_law34_TimebaseHalves_L2 x_57275 s_56721 x_57291 k_57547 n last_57640 v_57641 v_57646 = some r) : ∃ m, n = m + 1 := by
  cases n with
  | zero => cases h
  | succ m => exact ⟨m, rfl⟩

/-- nacellelaw34.TimebaseHalves -/
def m_law34_TimebaseHalves (s_56721 : Stimebase_Setup) (rounds_56737 : Int) : Option Bool :=
  (m_law34_few s_56721).bind fun x_57258 => (if !x_57258 then some true else (m_timebase_Valid s_56721).bind fun x_57260 => some (!x_57260)).bind fun b_57262 => if b_57262 then (m_law34_awake).bind fun x_57269 => some x_57269 else (m_timebase_Run s_56721 (i64 (Int.tmod rounds_56737 31))).bind fun x_57275 => (m_timebase_Bound s_56721).bind fun x_57291 => if ((decide (x_57275.2 ≠ 0)) || (decide (x_57291.2 ≠ 0))) || (decide (((x_57275.1.length : Nat) : Int) ≠ (i64 ((i64 (Int.tmod rounds_56737 31)) + 1)))) then some false else jp0 ((m_law34_awake).bind fun x_57733 => some x_57733) fun k_57547 => m_law34_TimebaseHalves_L2 x_57275 s_56721 x_57291 k_57547 FUEL 0 x_57275.1 0

set_option maxRecDepth 20000 in
theorem w_law34_TimebaseHalves (Z : Zp)  (ao_56722 : Option Addr) (cap_56723 : Nat) (ao_56725 : Option Addr) (cap_56726 : Nat) (ao_56728 : Option Addr) (cap_56729 : Nat) (ao_56731 : Option Addr) (cap_56732 : Nat) (ao_56734 : Option Addr) (cap_56735 : Nat) (s_56721 : Stimebase_Setup) (rounds_56737 : Int) (r : Bool) (w₀ : World) (hz : PZ [] w₀ Z)
    (hs_56724 : ZS Z 1 (fun r x => r = e3 x) ao_56722 cap_56723 s_56721.fStart)
    (hs_56727 : ZS Z 1 (fun r x => r = e3 x) ao_56725 cap_56726 s_56721.fDrift)
    (hs_56730 : ZS Z 1 (fun r x => r = e3 x) ao_56728 cap_56729 s_56721.fFaulty)
    (hs_56733 : ZS Z 1 (fun r x => r = e3 x) ao_56731 cap_56732 s_56721.fErrs)
    (hs_56736 : ZS Z 1 (fun r x => r = e3 x) ao_56734 cap_56735 s_56721.fLies)
    (h : m_law34_TimebaseHalves s_56721 rounds_56737 = some r) :
    Calls Try.prog 5 #[(.agg #[(.slice ao_56722 s_56721.fStart.length cap_56723), (.slice ao_56725 s_56721.fDrift.length cap_56726), (.slice ao_56728 s_56721.fFaulty.length cap_56729), (.int .i64 s_56721.fF), (.int .i64 s_56721.fE), (.slice ao_56731 s_56721.fErrs.length cap_56732), (.slice ao_56734 s_56721.fLies.length cap_56735)]), (.int .u8 rounds_56737)] w₀ fun e w' => ∃ Zn : Zp, e = .returned (.bool r) ∧ True ∧ Hp [] w₀ w' [fz Zn] := by
  unfold m_law34_TimebaseHalves at h
  refine Calls.ofWC (vs := [(.agg #[(.slice ao_56722 s_56721.fStart.length cap_56723), (.slice ao_56725 s_56721.fDrift.length cap_56726), (.slice ao_56728 s_56721.fFaulty.length cap_56729), (.int .i64 s_56721.fF), (.int .i64 s_56721.fE), (.slice ao_56731 s_56721.fErrs.length cap_56732), (.slice ao_56734 s_56721.fLies.length cap_56735)]), (.int .u8 rounds_56737)]) (pre := []) (env := [(0, (.agg #[(.slice ao_56722 s_56721.fStart.length cap_56723), (.slice ao_56725 s_56721.fDrift.length cap_56726), (.slice ao_56728 s_56721.fFaulty.length cap_56729), (.int .i64 s_56721.fF), (.int .i64 s_56721.fE), (.slice ao_56731 s_56721.fErrs.length cap_56732), (.slice ao_56734 s_56721.fLies.length cap_56735)])), (1, (.int .u8 rounds_56737))]) Try.func5 rfl Try.ntmps5 rfl (Hp.nil w₀ _) rfl ?_
  refine WC.pool ?_
  refine WC.seq ?_
  refine WC.region ?_
  refine WL.new (dd := 2) rfl rfl rfl (e_box (cs := [(.slice ao_56722 s_56721.fStart.length cap_56723), (.slice ao_56725 s_56721.fDrift.length cap_56726), (.slice ao_56728 s_56721.fFaulty.length cap_56729), (.int .i64 s_56721.fF), (.int .i64 s_56721.fE), (.slice ao_56731 s_56721.fErrs.length cap_56732), (.slice ao_56734 s_56721.fLies.length cap_56735)]) rfl rfl) ?_
  intro b_57240 _
  refine WL.quiet (d := 4) rfl rfl rfl (q_assign rfl) ?_
  refine WL.nil ?_
  refine WX.then ?_
  refine WC.seq ?_
  refine WC.seq ?_
  obtain ⟨x_57258, hx_57259, h⟩ := bind_elim h
  obtain ⟨b_57262, hb_57263, h⟩ := bind_elim h
  refine WC.region ?_
  refine WL.quiet (d := 14) rfl rfl rfl (q_loadA (cs := [(.slice ao_56722 s_56721.fStart.length cap_56723), (.slice ao_56725 s_56721.fDrift.length cap_56726), (.slice ao_56728 s_56721.fFaulty.length cap_56729), (.int .i64 s_56721.fF), (.int .i64 s_56721.fE), (.slice ao_56731 s_56721.fErrs.length cap_56732), (.slice ao_56734 s_56721.fLies.length cap_56735)]) aggT_24 rfl rfl (rd_all .here)) ?_
  refine WL.callD (dd := 15) rfl rfl rfl (run_call (l := [.tmp 14]) Try.call11 (.cons rfl .nil)) (.nil : Sel [stb b_57240 24 [(.slice ao_56722 s_56721.fStart.length cap_56723), (.slice ao_56725 s_56721.fDrift.length cap_56726), (.slice ao_56728 s_56721.fFaulty.length cap_56729), (.int .i64 s_56721.fF), (.int .i64 s_56721.fE), (.slice ao_56731 s_56721.fErrs.length cap_56732), (.slice ao_56734 s_56721.fLies.length cap_56735)], fz []] [] [stb b_57240 24 [(.slice ao_56722 s_56721.fStart.length cap_56723), (.slice ao_56725 s_56721.fDrift.length cap_56726), (.slice ao_56728 s_56721.fFaulty.length cap_56729), (.int .i64 s_56721.fF), (.int .i64 s_56721.fE), (.slice ao_56731 s_56721.fErrs.length cap_56732), (.slice ao_56734 s_56721.fLies.length cap_56735)], fz []]) (fun w hw => by have pz := (hz.call2 hw (.nil : Sel [stb b_57240 24 [(.slice ao_56722 s_56721.fStart.length cap_56723), (.slice ao_56725 s_56721.fDrift.length cap_56726), (.slice ao_56728 s_56721.fFaulty.length cap_56729), (.int .i64 s_56721.fF), (.int .i64 s_56721.fE), (.slice ao_56731 s_56721.fErrs.length cap_56732), (.slice ao_56734 s_56721.fLies.length cap_56735)], fz []] [] [stb b_57240 24 [(.slice ao_56722 s_56721.fStart.length cap_56723), (.slice ao_56725 s_56721.fDrift.length cap_56726), (.slice ao_56728 s_56721.fFaulty.length cap_56729), (.int .i64 s_56721.fF), (.int .i64 s_56721.fE), (.slice ao_56731 s_56721.fErrs.length cap_56732), (.slice ao_56734 s_56721.fLies.length cap_56735)], fz []]) (.there .here)); exact w_law34_few (Z := _) (ao_26 := ao_56722) (cap_27 := cap_56723) (ao_29 := ao_56725) (cap_30 := cap_56726) (ao_32 := ao_56728) (cap_33 := cap_56729) (ao_35 := ao_56731) (cap_36 := cap_56732) (ao_38 := ao_56734) (cap_39 := cap_56735) (s_25 := s_56721) (r := x_57258) w pz (hs_56724.mono (Zle.left _ _)) (hs_56727.mono (Zle.left _ _)) (hs_56730.mono (Zle.left _ _)) (hs_56733.mono (Zle.left _ _)) (hs_56736.mono (Zle.left _ _)) hx_57259) ?_
  refine WL.quiet (d := 16) rfl rfl rfl (q_not rfl) ?_
  refine WL.quiet (d := 17) rfl rfl rfl (q_move rfl) ?_
  refine WL.cut0 True [(1, (.int .u8 rounds_56737)), (2, (.pointer (some ⟨b_57240, 0, none⟩))), (21, (.bool b_57262))] [stb b_57240 24 [(.slice ao_56722 s_56721.fStart.length cap_56723), (.slice ao_56725 s_56721.fDrift.length cap_56726), (.slice ao_56728 s_56721.fFaulty.length cap_56729), (.int .i64 s_56721.fF), (.int .i64 s_56721.fE), (.slice ao_56731 s_56721.fErrs.length cap_56732), (.slice ao_56734 s_56721.fLies.length cap_56735)], fz []] 4 ?_ (fun _ => ?_)
  · rcases Bool.eq_false_or_eq_true (!x_57258) with hb' | hb'
    · have hg_57264 := hb'; clear hb'
      have hq_57265 := ite_t hb_57263 hg_57264
      replace hq_57265 := Option.some.inj hq_57265
      refine WL.pin (i := 17) rfl hg_57264 ?_
      refine WL.skip rfl rfl rfl ?_
      refine WL.skip rfl rfl rfl ?_
      refine WL.skip rfl rfl rfl ?_
      refine WL.quiet (d := 21) rfl rfl rfl (q_pickT rfl rfl) ?_
      exact WL.cutEnd () trivial (.cons rfl (.cons rfl (.cons (some_bool hq_57265) .nil))) (.cons .here (.cons .here .nil))
    · have hg_57266 := hb'; clear hb'
      have hq_57267 := ite_f hb_57263 hg_57266
      obtain ⟨x_57260, hx_57261, hq_57267⟩ := bind_elim hq_57267
      replace hq_57267 := Option.some.inj hq_57267
      refine WL.pin (i := 17) rfl hg_57266 ?_
      refine WL.quiet (d := 18) rfl rfl rfl (q_loadA (cs := [(.slice ao_56722 s_56721.fStart.length cap_56723), (.slice ao_56725 s_56721.fDrift.length cap_56726), (.slice ao_56728 s_56721.fFaulty.length cap_56729), (.int .i64 s_56721.fF), (.int .i64 s_56721.fE), (.slice ao_56731 s_56721.fErrs.length cap_56732), (.slice ao_56734 s_56721.fLies.length cap_56735)]) aggT_24 rfl rfl (rd_all .here)) ?_
      refine WL.callD (dd := 19) rfl rfl rfl (run_call (l := [.tmp 18]) Try.call19 (.cons rfl .nil)) (.nil : Sel [stb b_57240 24 [(.slice ao_56722 s_56721.fStart.length cap_56723), (.slice ao_56725 s_56721.fDrift.length cap_56726), (.slice ao_56728 s_56721.fFaulty.length cap_56729), (.int .i64 s_56721.fF), (.int .i64 s_56721.fE), (.slice ao_56731 s_56721.fErrs.length cap_56732), (.slice ao_56734 s_56721.fLies.length cap_56735)], fz []] [] [stb b_57240 24 [(.slice ao_56722 s_56721.fStart.length cap_56723), (.slice ao_56725 s_56721.fDrift.length cap_56726), (.slice ao_56728 s_56721.fFaulty.length cap_56729), (.int .i64 s_56721.fF), (.int .i64 s_56721.fE), (.slice ao_56731 s_56721.fErrs.length cap_56732), (.slice ao_56734 s_56721.fLies.length cap_56735)], fz []]) (fun w hw => by have pz := (hz.call2 hw (.nil : Sel [stb b_57240 24 [(.slice ao_56722 s_56721.fStart.length cap_56723), (.slice ao_56725 s_56721.fDrift.length cap_56726), (.slice ao_56728 s_56721.fFaulty.length cap_56729), (.int .i64 s_56721.fF), (.int .i64 s_56721.fE), (.slice ao_56731 s_56721.fErrs.length cap_56732), (.slice ao_56734 s_56721.fLies.length cap_56735)], fz []] [] [stb b_57240 24 [(.slice ao_56722 s_56721.fStart.length cap_56723), (.slice ao_56725 s_56721.fDrift.length cap_56726), (.slice ao_56728 s_56721.fFaulty.length cap_56729), (.int .i64 s_56721.fF), (.int .i64 s_56721.fE), (.slice ao_56731 s_56721.fErrs.length cap_56732), (.slice ao_56734 s_56721.fLies.length cap_56735)], fz []]) (.there .here)); exact w_timebase_Valid (Z := _) (ao_104 := ao_56722) (cap_105 := cap_56723) (ao_107 := ao_56725) (cap_108 := cap_56726) (ao_110 := ao_56728) (cap_111 := cap_56729) (ao_113 := ao_56731) (cap_114 := cap_56732) (ao_116 := ao_56734) (cap_117 := cap_56735) (s_103 := s_56721) (r := x_57260) w pz (hs_56724.mono (Zle.left _ _)) (hs_56727.mono (Zle.left _ _)) (hs_56730.mono (Zle.left _ _)) (hs_56733.mono (Zle.left _ _)) (hs_56736.mono (Zle.left _ _)) hx_57261) ?_
      refine WL.quiet (d := 20) rfl rfl rfl (q_not rfl) ?_
      refine WL.quiet (d := 21) rfl rfl rfl (q_pickF rfl rfl) ?_
      exact WL.cutEnd () trivial (.cons rfl (.cons rfl (.cons (some_bool hq_57267) .nil))) (.cons .here (.cons .here .nil))
  · skip
    refine WL.nil ?_
    refine WX.then ?_
    refine WC.cond rfl (fun hb_57268 => ?_) (fun hb_57268 => ?_)
    · replace h := ite_t h hb_57268
      refine WC.seq ?_
      obtain ⟨x_57269, hx_57270, h⟩ := bind_elim h
      refine WC.region ?_
      refine WL.enter1 (dd := 22) rfl rfl rfl (run_call (l := []) Try.call12 .nil) (.nil : Sel [stb b_57240 24 [(.slice ao_56722 s_56721.fStart.length cap_56723), (.slice ao_56725 s_56721.fDrift.length cap_56726), (.slice ao_56728 s_56721.fFaulty.length cap_56729), (.int .i64 s_56721.fF), (.int .i64 s_56721.fE), (.slice ao_56731 s_56721.fErrs.length cap_56732), (.slice ao_56734 s_56721.fLies.length cap_56735)], fz []] [] [stb b_57240 24 [(.slice ao_56722 s_56721.fStart.length cap_56723), (.slice ao_56725 s_56721.fDrift.length cap_56726), (.slice ao_56728 s_56721.fFaulty.length cap_56729), (.int .i64 s_56721.fF), (.int .i64 s_56721.fE), (.slice ao_56731 s_56721.fErrs.length cap_56732), (.slice ao_56734 s_56721.fLies.length cap_56735)], fz []]) (fun w hw => by have pz := (hz.call2 hw (.nil : Sel [stb b_57240 24 [(.slice ao_56722 s_56721.fStart.length cap_56723), (.slice ao_56725 s_56721.fDrift.length cap_56726), (.slice ao_56728 s_56721.fFaulty.length cap_56729), (.int .i64 s_56721.fF), (.int .i64 s_56721.fE), (.slice ao_56731 s_56721.fErrs.length cap_56732), (.slice ao_56734 s_56721.fLies.length cap_56735)], fz []] [] [stb b_57240 24 [(.slice ao_56722 s_56721.fStart.length cap_56723), (.slice ao_56725 s_56721.fDrift.length cap_56726), (.slice ao_56728 s_56721.fFaulty.length cap_56729), (.int .i64 s_56721.fF), (.int .i64 s_56721.fE), (.slice ao_56731 s_56721.fErrs.length cap_56732), (.slice ao_56734 s_56721.fLies.length cap_56735)], fz []]) (.there .here)); exact w_law34_awake (Z := _)   (r := x_57269) w pz  hx_57270) ?_
      rintro Zn_57273 _
      refine WL.merge .here (.there .here) ?_
      refine WL.quiet (d := 4) rfl rfl rfl (q_assign rfl) ?_
      refine WL.nil ?_
      refine WX.then ?_
      refine WC.ret ?_
      refine WX.thenRet ?_
      obtain rfl := Option.some.inj h
      refine WX.bpRet Try.results5 (.tmp rfl .nil) (fun w hw => ?_)
      exact ⟨([] ++ Zn_57273), ret1 rfl, trivial, hw.sub (.cons .here .nil)⟩
    · replace h := ite_f h hb_57268
      refine WC.skip ?_
      refine WX.then ?_
      refine WC.seq ?_
      obtain ⟨x_57275, hx_57276, h⟩ := bind_elim h
      refine WC.region ?_
      refine WL.quiet (d := 24) rfl rfl rfl (q_loadA (cs := [(.slice ao_56722 s_56721.fStart.length cap_56723), (.slice ao_56725 s_56721.fDrift.length cap_56726), (.slice ao_56728 s_56721.fFaulty.length cap_56729), (.int .i64 s_56721.fF), (.int .i64 s_56721.fE), (.slice ao_56731 s_56721.fErrs.length cap_56732), (.slice ao_56734 s_56721.fLies.length cap_56735)]) aggT_24 rfl rfl (rd_all .here)) ?_
      refine WL.quiet (d := 25) rfl rfl rfl (q_move rfl) ?_
      refine WL.quiet (d := 26) rfl rfl rfl (q_rem rfl rfl (by decide) rfl) ?_
      refine WL.quiet (d := 27) rfl rfl rfl (q_conv Try.underlying5 Try.underlying3 rfl rfl) ?_
      refine WL.enter4 (dd := 28) rfl rfl rfl (run_call (l := [.tmp 24, .tmp 27]) Try.call16 (.cons rfl (.cons rfl .nil))) (.nil : Sel [stb b_57240 24 [(.slice ao_56722 s_56721.fStart.length cap_56723), (.slice ao_56725 s_56721.fDrift.length cap_56726), (.slice ao_56728 s_56721.fFaulty.length cap_56729), (.int .i64 s_56721.fF), (.int .i64 s_56721.fE), (.slice ao_56731 s_56721.fErrs.length cap_56732), (.slice ao_56734 s_56721.fLies.length cap_56735)], fz []] [] [stb b_57240 24 [(.slice ao_56722 s_56721.fStart.length cap_56723), (.slice ao_56725 s_56721.fDrift.length cap_56726), (.slice ao_56728 s_56721.fFaulty.length cap_56729), (.int .i64 s_56721.fF), (.int .i64 s_56721.fE), (.slice ao_56731 s_56721.fErrs.length cap_56732), (.slice ao_56734 s_56721.fLies.length cap_56735)], fz []]) (fun w hw => by have pz := (hz.call2 hw (.nil : Sel [stb b_57240 24 [(.slice ao_56722 s_56721.fStart.length cap_56723), (.slice ao_56725 s_56721.fDrift.length cap_56726), (.slice ao_56728 s_56721.fFaulty.length cap_56729), (.int .i64 s_56721.fF), (.int .i64 s_56721.fE), (.slice ao_56731 s_56721.fErrs.length cap_56732), (.slice ao_56734 s_56721.fLies.length cap_56735)], fz []] [] [stb b_57240 24 [(.slice ao_56722 s_56721.fStart.length cap_56723), (.slice ao_56725 s_56721.fDrift.length cap_56726), (.slice ao_56728 s_56721.fFaulty.length cap_56729), (.int .i64 s_56721.fF), (.int .i64 s_56721.fE), (.slice ao_56731 s_56721.fErrs.length cap_56732), (.slice ao_56734 s_56721.fLies.length cap_56735)], fz []]) (.there .here)); exact w_timebase_Run (Z := _) (ao_13211 := ao_56722) (cap_13212 := cap_56723) (ao_13214 := ao_56725) (cap_13215 := cap_56726) (ao_13217 := ao_56728) (cap_13218 := cap_56729) (ao_13220 := ao_56731) (cap_13221 := cap_56732) (ao_13223 := ao_56734) (cap_13224 := cap_56735) (s_13210 := s_56721) (rounds_13226 := (i64 (Int.tmod rounds_56737 31))) (r := x_57275) w pz (hs_56724.mono (Zle.left _ _)) (hs_56727.mono (Zle.left _ _)) (hs_56730.mono (Zle.left _ _)) (hs_56733.mono (Zle.left _ _)) (hs_56736.mono (Zle.left _ _)) hx_57276) ?_
      rintro Zn_57284 ao_57285 cap_57286 cs_57287 hf_57288
      refine WL.merge .here (.there (.there .here)) ?_
      refine WL.quiet (d := 23) rfl rfl rfl (q_move rfl) ?_
      refine WL.quiet (d := 29) rfl rfl rfl (q_extract rfl rfl) ?_
      refine WL.quiet (d := 30) rfl rfl rfl (q_extract rfl rfl) ?_
      refine WL.quiet (d := 5) rfl rfl rfl (q_assign rfl) ?_
      refine WL.quiet (d := 6) rfl rfl rfl (q_assign rfl) ?_
      refine WL.nil ?_
      refine WX.then ?_
      refine WC.seq ?_
      obtain ⟨x_57291, hx_57292, h⟩ := bind_elim h
      refine WC.region ?_
      refine WL.quiet (d := 32) rfl rfl rfl (q_loadA (cs := [(.slice ao_56722 s_56721.fStart.length cap_56723), (.slice ao_56725 s_56721.fDrift.length cap_56726), (.slice ao_56728 s_56721.fFaulty.length cap_56729), (.int .i64 s_56721.fF), (.int .i64 s_56721.fE), (.slice ao_56731 s_56721.fErrs.length cap_56732), (.slice ao_56734 s_56721.fLies.length cap_56735)]) aggT_24 rfl rfl (rd_all (.there (.there .here)))) ?_
      refine WL.callD (dd := 33) rfl rfl rfl (run_call (l := [.tmp 32]) Try.call18 (.cons rfl .nil)) (.nil : Sel [fz ([] ++ Zn_57284), row (.slice ao_57285 x_57275.1.length cap_57286) 22 1 cs_57287, stb b_57240 24 [(.slice ao_56722 s_56721.fStart.length cap_56723), (.slice ao_56725 s_56721.fDrift.length cap_56726), (.slice ao_56728 s_56721.fFaulty.length cap_56729), (.int .i64 s_56721.fF), (.int .i64 s_56721.fE), (.slice ao_56731 s_56721.fErrs.length cap_56732), (.slice ao_56734 s_56721.fLies.length cap_56735)]] [] [fz ([] ++ Zn_57284), row (.slice ao_57285 x_57275.1.length cap_57286) 22 1 cs_57287, stb b_57240 24 [(.slice ao_56722 s_56721.fStart.length cap_56723), (.slice ao_56725 s_56721.fDrift.length cap_56726), (.slice ao_56728 s_56721.fFaulty.length cap_56729), (.int .i64 s_56721.fF), (.int .i64 s_56721.fE), (.slice ao_56731 s_56721.fErrs.length cap_56732), (.slice ao_56734 s_56721.fLies.length cap_56735)]]) (fun w hw => by have pz := (hz.call2 hw (.nil : Sel [fz ([] ++ Zn_57284), row (.slice ao_57285 x_57275.1.length cap_57286) 22 1 cs_57287, stb b_57240 24 [(.slice ao_56722 s_56721.fStart.length cap_56723), (.slice ao_56725 s_56721.fDrift.length cap_56726), (.slice ao_56728 s_56721.fFaulty.length cap_56729), (.int .i64 s_56721.fF), (.int .i64 s_56721.fE), (.slice ao_56731 s_56721.fErrs.length cap_56732), (.slice ao_56734 s_56721.fLies.length cap_56735)]] [] [fz ([] ++ Zn_57284), row (.slice ao_57285 x_57275.1.length cap_57286) 22 1 cs_57287, stb b_57240 24 [(.slice ao_56722 s_56721.fStart.length cap_56723), (.slice ao_56725 s_56721.fDrift.length cap_56726), (.slice ao_56728 s_56721.fFaulty.length cap_56729), (.int .i64 s_56721.fF), (.int .i64 s_56721.fE), (.slice ao_56731 s_56721.fErrs.length cap_56732), (.slice ao_56734 s_56721.fLies.length cap_56735)]]) .here); exact w_timebase_Bound (Z := _) (ao_15082 := ao_56722) (cap_15083 := cap_56723) (ao_15085 := ao_56725) (cap_15086 := cap_56726) (ao_15088 := ao_56728) (cap_15089 := cap_56729) (ao_15091 := ao_56731) (cap_15092 := cap_56732) (ao_15094 := ao_56734) (cap_15095 := cap_56735) (s_15081 := s_56721) (r := x_57291) w pz (hs_56724.mono ((Zle.left _ _).trans ((Zle.left _ _).trans (Zle.assoc _ _ _)))) (hs_56727.mono ((Zle.left _ _).trans ((Zle.left _ _).trans (Zle.assoc _ _ _)))) (hs_56730.mono ((Zle.left _ _).trans ((Zle.left _ _).trans (Zle.assoc _ _ _)))) (hs_56733.mono ((Zle.left _ _).trans ((Zle.left _ _).trans (Zle.assoc _ _ _)))) (hs_56736.mono ((Zle.left _ _).trans ((Zle.left _ _).trans (Zle.assoc _ _ _)))) hx_57292) ?_
      refine WL.quiet (d := 31) rfl rfl rfl (q_move rfl) ?_
      refine WL.quiet (d := 34) rfl rfl rfl (q_extract rfl rfl) ?_
      refine WL.quiet (d := 35) rfl rfl rfl (q_extract rfl rfl) ?_
      refine WL.quiet (d := 7) rfl rfl rfl (q_assign rfl) ?_
      refine WL.quiet (d := 8) rfl rfl rfl (q_assign rfl) ?_
      refine WL.nil ?_
      refine WX.then ?_
      refine WC.seq ?_
      refine WC.seq ?_
      refine WC.region ?_
      refine WL.quiet (d := 36) rfl rfl rfl (q_move rfl) ?_
      refine WL.quiet (d := 37) rfl rfl rfl (q_neq rfl rfl) ?_
      refine WL.quiet (d := 38) rfl rfl rfl (q_move rfl) ?_
      refine WL.cut0 True [(1, (.int .u8 rounds_56737)), (2, (.pointer (some ⟨b_57240, 0, none⟩))), (5, (.slice ao_57285 x_57275.1.length cap_57286)), (7, (.int .i64 x_57291.1)), (41, (.bool ((decide (x_57275.2 ≠ 0)) || (decide (x_57291.2 ≠ 0)))))] [fz ([] ++ Zn_57284), row (.slice ao_57285 x_57275.1.length cap_57286) 22 1 cs_57287, stb b_57240 24 [(.slice ao_56722 s_56721.fStart.length cap_56723), (.slice ao_56725 s_56721.fDrift.length cap_56726), (.slice ao_56728 s_56721.fFaulty.length cap_56729), (.int .i64 s_56721.fF), (.int .i64 s_56721.fE), (.slice ao_56731 s_56721.fErrs.length cap_56732), (.slice ao_56734 s_56721.fLies.length cap_56735)]] 3 ?_ (fun _ => ?_)
      · rcases Bool.eq_false_or_eq_true (decide (x_57275.2 ≠ 0)) with hb' | hb'
        · have hg_57298 := hb'; clear hb'
          refine WL.pin (i := 38) rfl hg_57298 ?_
          refine WL.skip rfl rfl rfl ?_
          refine WL.skip rfl rfl rfl ?_
          refine WL.quiet (d := 41) rfl rfl rfl (q_pickT rfl rfl) ?_
          exact WL.cutEnd () trivial (.cons rfl (.cons rfl (.cons rfl (.cons rfl (.cons (some_bool (or_l hg_57298)) .nil))))) (.cons .here (.cons .here (.cons .here .nil)))
        · have hg_57299 := hb'; clear hb'
          refine WL.pin (i := 38) rfl hg_57299 ?_
          refine WL.quiet (d := 39) rfl rfl rfl (q_move rfl) ?_
          refine WL.quiet (d := 40) rfl rfl rfl (q_neq rfl rfl) ?_
          refine WL.quiet (d := 41) rfl rfl rfl (q_pickF rfl rfl) ?_
          exact WL.cutEnd () trivial (.cons rfl (.cons rfl (.cons rfl (.cons rfl (.cons (some_bool (or_r hg_57299)) .nil))))) (.cons .here (.cons .here (.cons .here .nil)))
      · skip
        refine WL.quiet (d := 42) rfl rfl rfl (q_move rfl) ?_
        refine WL.cut0 True [(2, (.pointer (some ⟨b_57240, 0, none⟩))), (5, (.slice ao_57285 x_57275.1.length cap_57286)), (7, (.int .i64 x_57291.1)), (50, (.bool (((decide (x_57275.2 ≠ 0)) || (decide (x_57291.2 ≠ 0))) || (decide (((x_57275.1.length : Nat) : Int) ≠ (i64 ((i64 (Int.tmod rounds_56737 31)) + 1)))))))] [fz ([] ++ Zn_57284), row (.slice ao_57285 x_57275.1.length cap_57286) 22 1 cs_57287, stb b_57240 24 [(.slice ao_56722 s_56721.fStart.length cap_56723), (.slice ao_56725 s_56721.fDrift.length cap_56726), (.slice ao_56728 s_56721.fFaulty.length cap_56729), (.int .i64 s_56721.fF), (.int .i64 s_56721.fE), (.slice ao_56731 s_56721.fErrs.length cap_56732), (.slice ao_56734 s_56721.fLies.length cap_56735)]] 8 ?_ (fun _ => ?_)
        · rcases Bool.eq_false_or_eq_true ((decide (x_57275.2 ≠ 0)) || (decide (x_57291.2 ≠ 0))) with hb' | hb'
          · have hg_57300 := hb'; clear hb'
            refine WL.pin (i := 42) rfl hg_57300 ?_
            refine WL.skip rfl rfl rfl ?_
            refine WL.skip rfl rfl rfl ?_
            refine WL.skip rfl rfl rfl ?_
            refine WL.skip rfl rfl rfl ?_
            refine WL.skip rfl rfl rfl ?_
            refine WL.skip rfl rfl rfl ?_
            refine WL.skip rfl rfl rfl ?_
            refine WL.quiet (d := 50) rfl rfl rfl (q_pickT rfl rfl) ?_
            exact WL.cutEnd () trivial (.cons rfl (.cons rfl (.cons rfl (.cons (some_bool (or_l hg_57300)) .nil)))) (.cons .here (.cons .here (.cons .here .nil)))
          · have hg_57301 := hb'; clear hb'
            refine WL.pin (i := 42) rfl hg_57301 ?_
            refine WL.quiet (d := 43) rfl rfl rfl (q_move rfl) ?_
            refine WL.quiet (d := 44) rfl rfl rfl (q_len Try.underlying30 rfl) ?_
            refine WL.quiet (d := 45) rfl rfl rfl (q_move rfl) ?_
            refine WL.quiet (d := 46) rfl rfl rfl (q_rem rfl rfl (by decide) rfl) ?_
            refine WL.quiet (d := 47) rfl rfl rfl (q_conv Try.underlying5 Try.underlying3 rfl rfl) ?_
            refine WL.quiet (d := 48) rfl rfl rfl (q_add rfl rfl rfl) ?_
            refine WL.quiet (d := 49) rfl rfl rfl (q_neq rfl rfl) ?_
            refine WL.quiet (d := 50) rfl rfl rfl (q_pickF rfl rfl) ?_
            exact WL.cutEnd () trivial (.cons rfl (.cons rfl (.cons rfl (.cons (some_bool (or_r hg_57301)) .nil)))) (.cons .here (.cons .here (.cons .here .nil)))
        · skip
          refine WL.nil ?_
          refine WX.then ?_
          refine WC.cond rfl (fun hb_57302 => ?_) (fun hb_57302 => ?_)
          · replace h := ite_t h hb_57302
            refine WC.seq ?_
            refine WC.region ?_
            refine WL.quiet (d := 4) rfl rfl rfl (q_assign rfl) ?_
            refine WL.nil ?_
            refine WX.then ?_
            refine WC.ret ?_
            refine WX.thenRet ?_
            obtain rfl := Option.some.inj h
            refine WX.bpRet Try.results5 (.tmp rfl .nil) (fun w hw => ?_)
            exact ⟨([] ++ Zn_57284), ret1 rfl, trivial, hw.sub (.cons .here .nil)⟩
          · replace h := ite_f h hb_57302
            refine WC.skip ?_
            refine WX.then ?_
            refine WC.seq ?_
            refine WC.region ?_
            refine WL.quiet (d := 9) rfl rfl rfl (q_assign rfl) ?_
            refine WL.nil ?_
            refine WX.then ?_
            obtain ⟨k_57547, hk_57548, h⟩ := jp0_elim h
            refine WC.seqMid0 ((k_57547 = some r)) ([]) ([fz ([] ++ Zn_57284)]) ?_ ?_
            · skip
              refine WC.seq ?_
              refine WC.region ?_
              refine WL.quiet (d := 51) rfl rfl rfl (q_move rfl) ?_
              refine WL.quiet (d := 52) rfl rfl rfl (q_len Try.underlying30 rfl) ?_
              refine WL.quiet (d := 53) rfl rfl rfl (q_move rfl) ?_
              refine WL.nil ?_
              refine WX.then ?_
              refine WC.block ?_
              refine WC.loop7 (fun (n_57647 : Nat) (last_57640 : Int) (v_57641 : List (List Int)) (v_57646 : Int) (ao_57642 : Option Addr) (cap_57643 : Nat) (cs_57644 : List Value) => (m_law34_TimebaseHalves_L2 x_57275 s_56721 x_57291 k_57547 n_57647 last_57640 v_57641 v_57646 = some r) ∧ (RR 1 (p22 (Z ++ ([] ++ Zn_57284))) cs_57644 v_57641)) (fun (n_57647 : Nat) (last_57640 : Int) (v_57641 : List (List Int)) (v_57646 : Int) (ao_57642 : Option Addr) (cap_57643 : Nat) (cs_57644 : List Value) => [(2, (.pointer (some ⟨b_57240, 0, none⟩))), (7, (.int .i64 x_57291.1)), (9, (.int .i64 last_57640)), (51, (.slice ao_57642 v_57641.length cap_57643)), (52, (.int .i64 ((x_57275.1.length : Nat) : Int))), (53, (.int .i64 v_57646))]) (fun (n_57647 : Nat) (last_57640 : Int) (v_57641 : List (List Int)) (v_57646 : Int) (ao_57642 : Option Addr) (cap_57643 : Nat) (cs_57644 : List Value) => [fz ([] ++ Zn_57284), row (.slice ao_57642 v_57641.length cap_57643) 22 1 cs_57644, stb b_57240 24 [(.slice ao_56722 s_56721.fStart.length cap_56723), (.slice ao_56725 s_56721.fDrift.length cap_56726), (.slice ao_56728 s_56721.fFaulty.length cap_56729), (.int .i64 s_56721.fF), (.int .i64 s_56721.fE), (.slice ao_56731 s_56721.fErrs.length cap_56732), (.slice ao_56734 s_56721.fLies.length cap_56735)]]) (fun (n_57647 : Nat) (last_57640 : Int) (v_57641 : List (List Int)) (v_57646 : Int) (ao_57642 : Option Addr) (cap_57643 : Nat) (cs_57644 : List Value) => n_57647) ⟨FUEL, 0, x_57275.1, 0, ao_57285, cap_57286, cs_57287⟩ ⟨h, (hf_57288.weak (fun _ _ h => p22_mono (Zle.assoc _ _ _) h))⟩ (.cons rfl (.cons rfl (.cons rfl (.cons rfl (.cons rfl (.cons rfl .nil)))))) (.cons .here (.cons .here (.cons .here .nil))) ?_
              rintro n_57647 last_57640 v_57641 v_57646 ao_57642 cap_57643 cs_57644 ⟨h, rel_57645⟩
              obtain ⟨n_57648, rfl⟩ := m_law34_TimebaseHalves_L2_fuel h
              rw [m_law34_TimebaseHalves_L2] at h
              refine WC.seq ?_
              refine WC.region ?_
              refine WL.quiet (d := 54) rfl rfl rfl (q_lss rfl rfl) ?_
              refine WL.nil ?_
              refine WX.then ?_
              refine WC.seq ?_
              refine WC.cond rfl (fun hb_57650 => ?_) (fun hb_57650 => ?_)
              · replace h := ite_t h hb_57650
                refine WC.skip ?_
                refine WX.then ?_
                refine WC.seq ?_
                refine WC.block ?_
                refine WC.seq ?_
                obtain ⟨c_57692, h⟩ := chk_elim h
                refine WC.region ?_
                refine WL.quiet (d := 55) rfl rfl rfl (q_move rfl) ?_
                refine WL.know (fun w hw => Hp.expose (.there .here) hw (by intro hz'; have := c_57692; rw [hz'] at this; omega)) ?_
                rintro ⟨b_57701, rfl⟩
                obtain ⟨r_57705, tl_57706, hl_57707, hd_57708, ⟨ao_57702, cap_57703, rfl, hs_57704⟩⟩ := RR.elem rel_57645 c_57692.1 c_57692.2
                refine WL.quiet (d := 56) rfl rfl rfl (q_indexAddr elT_30 rfl rfl c_57692.1 c_57692.2 rowAdd) ?_
                refine WL.quiet (d := 57) rfl rfl rfl (q_load1 oneT_22 rfl (rd_row (.there .here) (drop_rd hd_57708 0 _ rfl))) ?_
                refine WL.quiet (d := 10) rfl rfl rfl (q_assign rfl) ?_
                refine WL.quiet (d := 11) rfl rfl rfl (q_assign rfl) ?_
                refine WL.nil ?_
                refine WX.then ?_
                refine WC.seq ?_
                obtain ⟨x_57709, hx_57710, h⟩ := bind_elim h
                refine WC.region ?_
                refine WL.quiet (d := 59) rfl rfl rfl (q_loadA (cs := [(.slice ao_56722 s_56721.fStart.length cap_56723), (.slice ao_56725 s_56721.fDrift.length cap_56726), (.slice ao_56728 s_56721.fFaulty.length cap_56729), (.int .i64 s_56721.fF), (.int .i64 s_56721.fE), (.slice ao_56731 s_56721.fErrs.length cap_56732), (.slice ao_56734 s_56721.fLies.length cap_56735)]) aggT_24 rfl rfl (rd_all (.there (.there .here)))) ?_
                refine WL.quiet (d := 60) rfl rfl rfl (q_move rfl) ?_
                refine WL.callD (dd := 61) rfl rfl rfl (run_call (l := [.tmp 59, .tmp 60]) Try.call17 (.cons rfl (.cons rfl .nil))) (.nil : Sel [fz ([] ++ Zn_57284), row (.slice (some ⟨b_57701, 0, none⟩) v_57641.length cap_57643) 22 1 cs_57644, stb b_57240 24 [(.slice ao_56722 s_56721.fStart.length cap_56723), (.slice ao_56725 s_56721.fDrift.length cap_56726), (.slice ao_56728 s_56721.fFaulty.length cap_56729), (.int .i64 s_56721.fF), (.int .i64 s_56721.fE), (.slice ao_56731 s_56721.fErrs.length cap_56732), (.slice ao_56734 s_56721.fLies.length cap_56735)]] [] [fz ([] ++ Zn_57284), row (.slice (some ⟨b_57701, 0, none⟩) v_57641.length cap_57643) 22 1 cs_57644, stb b_57240 24 [(.slice ao_56722 s_56721.fStart.length cap_56723), (.slice ao_56725 s_56721.fDrift.length cap_56726), (.slice ao_56728 s_56721.fFaulty.length cap_56729), (.int .i64 s_56721.fF), (.int .i64 s_56721.fE), (.slice ao_56731 s_56721.fErrs.length cap_56732), (.slice ao_56734 s_56721.fLies.length cap_56735)]]) (fun w hw => by have pz := (hz.call2 hw (.nil : Sel [fz ([] ++ Zn_57284), row (.slice (some ⟨b_57701, 0, none⟩) v_57641.length cap_57643) 22 1 cs_57644, stb b_57240 24 [(.slice ao_56722 s_56721.fStart.length cap_56723), (.slice ao_56725 s_56721.fDrift.length cap_56726), (.slice ao_56728 s_56721.fFaulty.length cap_56729), (.int .i64 s_56721.fF), (.int .i64 s_56721.fE), (.slice ao_56731 s_56721.fErrs.length cap_56732), (.slice ao_56734 s_56721.fLies.length cap_56735)]] [] [fz ([] ++ Zn_57284), row (.slice (some ⟨b_57701, 0, none⟩) v_57641.length cap_57643) 22 1 cs_57644, stb b_57240 24 [(.slice ao_56722 s_56721.fStart.length cap_56723), (.slice ao_56725 s_56721.fDrift.length cap_56726), (.slice ao_56728 s_56721.fFaulty.length cap_56729), (.int .i64 s_56721.fF), (.int .i64 s_56721.fE), (.slice ao_56731 s_56721.fErrs.length cap_56732), (.slice ao_56734 s_56721.fLies.length cap_56735)]]) .here); exact w_timebase_Skew (Z := _) (ao_13931 := ao_56722) (cap_13932 := cap_56723) (ao_13934 := ao_56725) (cap_13935 := cap_56726) (ao_13937 := ao_56728) (cap_13938 := cap_56729) (ao_13940 := ao_56731) (cap_13941 := cap_56732) (ao_13943 := ao_56734) (cap_13944 := cap_56735) (ao_13947 := ao_57702) (cap_13948 := cap_57703) (s_13930 := s_56721) (clocks_13946 := (nth v_57641 v_57646)) (r := x_57709) w pz (hs_56724.mono ((Zle.left _ _).trans ((Zle.left _ _).trans (Zle.assoc _ _ _)))) (hs_56727.mono ((Zle.left _ _).trans ((Zle.left _ _).trans (Zle.assoc _ _ _)))) (hs_56730.mono ((Zle.left _ _).trans ((Zle.left _ _).trans (Zle.assoc _ _ _)))) (hs_56733.mono ((Zle.left _ _).trans ((Zle.left _ _).trans (Zle.assoc _ _ _)))) (hs_56736.mono ((Zle.left _ _).trans ((Zle.left _ _).trans (Zle.assoc _ _ _)))) hs_57704 hx_57710) ?_
                refine WL.quiet (d := 58) rfl rfl rfl (q_move rfl) ?_
                refine WL.quiet (d := 62) rfl rfl rfl (q_extract rfl rfl) ?_
                refine WL.quiet (d := 63) rfl rfl rfl (q_extract rfl rfl) ?_
                refine WL.quiet (d := 12) rfl rfl rfl (q_assign rfl) ?_
                refine WL.quiet (d := 13) rfl rfl rfl (q_assign rfl) ?_
                refine WL.nil ?_
                refine WX.then ?_
                refine WC.seq ?_
                refine WC.seq ?_
                refine WC.region ?_
                refine WL.quiet (d := 64) rfl rfl rfl (q_move rfl) ?_
                refine WL.quiet (d := 65) rfl rfl rfl (q_neq rfl rfl) ?_
                refine WL.quiet (d := 66) rfl rfl rfl (q_move rfl) ?_
                refine WL.cut0 True [(2, (.pointer (some ⟨b_57240, 0, none⟩))), (7, (.int .i64 x_57291.1)), (9, (.int .i64 last_57640)), (51, (.slice (some ⟨b_57701, 0, none⟩) v_57641.length cap_57643)), (52, (.int .i64 ((x_57275.1.length : Nat) : Int))), (53, (.int .i64 v_57646)), (10, (.int .i64 v_57646)), (12, (.int .i64 x_57709.1)), (77, (.bool ((decide (x_57709.2 ≠ 0)) || ((decide (v_57646 > 0)) && (decide (x_57709.1 > (i64 (Int.tdiv (i64 (last_57640 + x_57291.1)) 2))))))))] [fz ([] ++ Zn_57284), row (.slice (some ⟨b_57701, 0, none⟩) v_57641.length cap_57643) 22 1 cs_57644, stb b_57240 24 [(.slice ao_56722 s_56721.fStart.length cap_56723), (.slice ao_56725 s_56721.fDrift.length cap_56726), (.slice ao_56728 s_56721.fFaulty.length cap_56729), (.int .i64 s_56721.fF), (.int .i64 s_56721.fE), (.slice ao_56731 s_56721.fErrs.length cap_56732), (.slice ao_56734 s_56721.fLies.length cap_56735)]] 11 ?_ (fun _ => ?_)
                · rcases Bool.eq_false_or_eq_true (decide (x_57709.2 ≠ 0)) with hb' | hb'
                  · have hg_57722 := hb'; clear hb'
                    refine WL.pin (i := 66) rfl hg_57722 ?_
                    refine WL.skip rfl rfl rfl ?_
                    refine WL.skip rfl rfl rfl ?_
                    refine WL.skip rfl rfl rfl ?_
                    refine WL.skip rfl rfl rfl ?_
                    refine WL.skip rfl rfl rfl ?_
                    refine WL.skip rfl rfl rfl ?_
                    refine WL.skip rfl rfl rfl ?_
                    refine WL.skip rfl rfl rfl ?_
                    refine WL.skip rfl rfl rfl ?_
                    refine WL.skip rfl rfl rfl ?_
                    refine WL.quiet (d := 77) rfl rfl rfl (q_pickT rfl rfl) ?_
                    exact WL.cutEnd () trivial (.cons rfl (.cons rfl (.cons rfl (.cons rfl (.cons rfl (.cons rfl (.cons rfl (.cons rfl (.cons (some_bool (or_l hg_57722)) .nil))))))))) (.cons .here (.cons .here (.cons .here .nil)))
                  · have hg_57723 := hb'; clear hb'
                    refine WL.pin (i := 66) rfl hg_57723 ?_
                    refine WL.quiet (d := 67) rfl rfl rfl (q_move rfl) ?_
                    refine WL.quiet (d := 68) rfl rfl rfl (q_gtr rfl rfl) ?_
                    refine WL.quiet (d := 69) rfl rfl rfl (q_move rfl) ?_
                    refine WL.cut0 True [(2, (.pointer (some ⟨b_57240, 0, none⟩))), (7, (.int .i64 x_57291.1)), (9, (.int .i64 last_57640)), (51, (.slice (some ⟨b_57701, 0, none⟩) v_57641.length cap_57643)), (52, (.int .i64 ((x_57275.1.length : Nat) : Int))), (53, (.int .i64 v_57646)), (10, (.int .i64 v_57646)), (12, (.int .i64 x_57709.1)), (66, (.bool false)), (76, (.bool ((decide (v_57646 > 0)) && (decide (x_57709.1 > (i64 (Int.tdiv (i64 (last_57640 + x_57291.1)) 2)))))))] [fz ([] ++ Zn_57284), row (.slice (some ⟨b_57701, 0, none⟩) v_57641.length cap_57643) 22 1 cs_57644, stb b_57240 24 [(.slice ao_56722 s_56721.fStart.length cap_56723), (.slice ao_56725 s_56721.fDrift.length cap_56726), (.slice ao_56728 s_56721.fFaulty.length cap_56729), (.int .i64 s_56721.fF), (.int .i64 s_56721.fE), (.slice ao_56731 s_56721.fErrs.length cap_56732), (.slice ao_56734 s_56721.fLies.length cap_56735)]] 7 ?_ (fun _ => ?_)
                    · rcases Bool.eq_false_or_eq_true (decide (v_57646 > 0)) with hb' | hb'
                      · have hg_57724 := hb'; clear hb'
                        refine WL.pin (i := 69) rfl hg_57724 ?_
                        refine WL.quiet (d := 70) rfl rfl rfl (q_move rfl) ?_
                        refine WL.quiet (d := 71) rfl rfl rfl (q_move rfl) ?_
                        refine WL.quiet (d := 72) rfl rfl rfl (q_move rfl) ?_
                        refine WL.quiet (d := 73) rfl rfl rfl (q_add rfl rfl rfl) ?_
                        refine WL.quiet (d := 74) rfl rfl rfl (q_quo rfl rfl (by decide) rfl) ?_
                        refine WL.quiet (d := 75) rfl rfl rfl (q_gtr rfl rfl) ?_
                        refine WL.quiet (d := 76) rfl rfl rfl (q_pickT rfl rfl) ?_
                        exact WL.cutEnd () trivial (.cons rfl (.cons rfl (.cons rfl (.cons rfl (.cons rfl (.cons rfl (.cons rfl (.cons rfl (.cons rfl (.cons (some_bool (and_r hg_57724)) .nil)))))))))) (.cons .here (.cons .here (.cons .here .nil)))
                      · have hg_57725 := hb'; clear hb'
                        refine WL.pin (i := 69) rfl hg_57725 ?_
                        refine WL.skip rfl rfl rfl ?_
                        refine WL.skip rfl rfl rfl ?_
                        refine WL.skip rfl rfl rfl ?_
                        refine WL.skip rfl rfl rfl ?_
                        refine WL.skip rfl rfl rfl ?_
                        refine WL.skip rfl rfl rfl ?_
                        refine WL.quiet (d := 76) rfl rfl rfl (q_pickF rfl rfl) ?_
                        exact WL.cutEnd () trivial (.cons rfl (.cons rfl (.cons rfl (.cons rfl (.cons rfl (.cons rfl (.cons rfl (.cons rfl (.cons rfl (.cons (some_bool (and_l hg_57725)) .nil)))))))))) (.cons .here (.cons .here (.cons .here .nil)))
                    · skip
                      refine WL.quiet (d := 77) rfl rfl rfl (q_pickF rfl rfl) ?_
                      exact WL.cutEnd () trivial (.cons rfl (.cons rfl (.cons rfl (.cons rfl (.cons rfl (.cons rfl (.cons rfl (.cons rfl (.cons (some_bool (or_r hg_57723)) .nil))))))))) (.cons .here (.cons .here (.cons .here .nil)))
                · skip
                  refine WL.quiet (d := 78) rfl rfl rfl (q_move rfl) ?_
                  refine WL.cut0 True [(2, (.pointer (some ⟨b_57240, 0, none⟩))), (7, (.int .i64 x_57291.1)), (51, (.slice (some ⟨b_57701, 0, none⟩) v_57641.length cap_57643)), (52, (.int .i64 ((x_57275.1.length : Nat) : Int))), (53, (.int .i64 v_57646)), (12, (.int .i64 x_57709.1)), (91, (.bool (((decide (x_57709.2 ≠ 0)) || ((decide (v_57646 > 0)) && (decide (x_57709.1 > (i64 (Int.tdiv (i64 (last_57640 + x_57291.1)) 2)))))) || (((decide (v_57646 > 0)) && (decide (last_57640 ≤ x_57291.1))) && (decide (x_57709.1 > x_57291.1))))))] [fz ([] ++ Zn_57284), row (.slice (some ⟨b_57701, 0, none⟩) v_57641.length cap_57643) 22 1 cs_57644, stb b_57240 24 [(.slice ao_56722 s_56721.fStart.length cap_56723), (.slice ao_56725 s_56721.fDrift.length cap_56726), (.slice ao_56728 s_56721.fFaulty.length cap_56729), (.int .i64 s_56721.fF), (.int .i64 s_56721.fE), (.slice ao_56731 s_56721.fErrs.length cap_56732), (.slice ao_56734 s_56721.fLies.length cap_56735)]] 13 ?_ (fun _ => ?_)
                  · rcases Bool.eq_false_or_eq_true ((decide (x_57709.2 ≠ 0)) || ((decide (v_57646 > 0)) && (decide (x_57709.1 > (i64 (Int.tdiv (i64 (last_57640 + x_57291.1)) 2)))))) with hb' | hb'
                    · have hg_57726 := hb'; clear hb'
                      refine WL.pin (i := 78) rfl hg_57726 ?_
                      refine WL.skip rfl rfl rfl ?_
                      refine WL.skip rfl rfl rfl ?_
                      refine WL.skip rfl rfl rfl ?_
                      refine WL.skip rfl rfl rfl ?_
                      refine WL.skip rfl rfl rfl ?_
                      refine WL.skip rfl rfl rfl ?_
                      refine WL.skip rfl rfl rfl ?_
                      refine WL.skip rfl rfl rfl ?_
                      refine WL.skip rfl rfl rfl ?_
                      refine WL.skip rfl rfl rfl ?_
                      refine WL.skip rfl rfl rfl ?_
                      refine WL.skip rfl rfl rfl ?_
                      refine WL.quiet (d := 91) rfl rfl rfl (q_pickT rfl rfl) ?_
                      exact WL.cutEnd () trivial (.cons rfl (.cons rfl (.cons rfl (.cons rfl (.cons rfl (.cons rfl (.cons (some_bool (or_l hg_57726)) .nil))))))) (.cons .here (.cons .here (.cons .here .nil)))
                    · have hg_57727 := hb'; clear hb'
                      refine WL.pin (i := 78) rfl hg_57727 ?_
                      refine WL.quiet (d := 79) rfl rfl rfl (q_move rfl) ?_
                      refine WL.quiet (d := 80) rfl rfl rfl (q_gtr rfl rfl) ?_
                      refine WL.quiet (d := 81) rfl rfl rfl (q_move rfl) ?_
                      refine WL.cut0 True [(2, (.pointer (some ⟨b_57240, 0, none⟩))), (7, (.int .i64 x_57291.1)), (51, (.slice (some ⟨b_57701, 0, none⟩) v_57641.length cap_57643)), (52, (.int .i64 ((x_57275.1.length : Nat) : Int))), (53, (.int .i64 v_57646)), (12, (.int .i64 x_57709.1)), (78, (.bool false)), (85, (.bool ((decide (v_57646 > 0)) && (decide (last_57640 ≤ x_57291.1)))))] [fz ([] ++ Zn_57284), row (.slice (some ⟨b_57701, 0, none⟩) v_57641.length cap_57643) 22 1 cs_57644, stb b_57240 24 [(.slice ao_56722 s_56721.fStart.length cap_56723), (.slice ao_56725 s_56721.fDrift.length cap_56726), (.slice ao_56728 s_56721.fFaulty.length cap_56729), (.int .i64 s_56721.fF), (.int .i64 s_56721.fE), (.slice ao_56731 s_56721.fErrs.length cap_56732), (.slice ao_56734 s_56721.fLies.length cap_56735)]] 4 ?_ (fun _ => ?_)
                      · rcases Bool.eq_false_or_eq_true (decide (v_57646 > 0)) with hb' | hb'
                        · have hg_57728 := hb'; clear hb'
                          refine WL.pin (i := 81) rfl hg_57728 ?_
                          refine WL.quiet (d := 82) rfl rfl rfl (q_move rfl) ?_
                          refine WL.quiet (d := 83) rfl rfl rfl (q_move rfl) ?_
                          refine WL.quiet (d := 84) rfl rfl rfl (q_leq rfl rfl) ?_
                          refine WL.quiet (d := 85) rfl rfl rfl (q_pickT rfl rfl) ?_
                          exact WL.cutEnd () trivial (.cons rfl (.cons rfl (.cons rfl (.cons rfl (.cons rfl (.cons rfl (.cons rfl (.cons (some_bool (and_r hg_57728)) .nil)))))))) (.cons .here (.cons .here (.cons .here .nil)))
                        · have hg_57729 := hb'; clear hb'
                          refine WL.pin (i := 81) rfl hg_57729 ?_
                          refine WL.skip rfl rfl rfl ?_
                          refine WL.skip rfl rfl rfl ?_
                          refine WL.skip rfl rfl rfl ?_
                          refine WL.quiet (d := 85) rfl rfl rfl (q_pickF rfl rfl) ?_
                          exact WL.cutEnd () trivial (.cons rfl (.cons rfl (.cons rfl (.cons rfl (.cons rfl (.cons rfl (.cons rfl (.cons (some_bool (and_l hg_57729)) .nil)))))))) (.cons .here (.cons .here (.cons .here .nil)))
                      · skip
                        refine WL.quiet (d := 86) rfl rfl rfl (q_move rfl) ?_
                        refine WL.cut0 True [(2, (.pointer (some ⟨b_57240, 0, none⟩))), (7, (.int .i64 x_57291.1)), (51, (.slice (some ⟨b_57701, 0, none⟩) v_57641.length cap_57643)), (52, (.int .i64 ((x_57275.1.length : Nat) : Int))), (53, (.int .i64 v_57646)), (12, (.int .i64 x_57709.1)), (78, (.bool false)), (90, (.bool (((decide (v_57646 > 0)) && (decide (last_57640 ≤ x_57291.1))) && (decide (x_57709.1 > x_57291.1)))))] [fz ([] ++ Zn_57284), row (.slice (some ⟨b_57701, 0, none⟩) v_57641.length cap_57643) 22 1 cs_57644, stb b_57240 24 [(.slice ao_56722 s_56721.fStart.length cap_56723), (.slice ao_56725 s_56721.fDrift.length cap_56726), (.slice ao_56728 s_56721.fFaulty.length cap_56729), (.int .i64 s_56721.fF), (.int .i64 s_56721.fE), (.slice ao_56731 s_56721.fErrs.length cap_56732), (.slice ao_56734 s_56721.fLies.length cap_56735)]] 4 ?_ (fun _ => ?_)
                        · rcases Bool.eq_false_or_eq_true ((decide (v_57646 > 0)) && (decide (last_57640 ≤ x_57291.1))) with hb' | hb'
                          · have hg_57730 := hb'; clear hb'
                            refine WL.pin (i := 86) rfl hg_57730 ?_
                            refine WL.quiet (d := 87) rfl rfl rfl (q_move rfl) ?_
                            refine WL.quiet (d := 88) rfl rfl rfl (q_move rfl) ?_
                            refine WL.quiet (d := 89) rfl rfl rfl (q_gtr rfl rfl) ?_
                            refine WL.quiet (d := 90) rfl rfl rfl (q_pickT rfl rfl) ?_
                            exact WL.cutEnd () trivial (.cons rfl (.cons rfl (.cons rfl (.cons rfl (.cons rfl (.cons rfl (.cons rfl (.cons (some_bool (and_r hg_57730)) .nil)))))))) (.cons .here (.cons .here (.cons .here .nil)))
                          · have hg_57731 := hb'; clear hb'
                            refine WL.pin (i := 86) rfl hg_57731 ?_
                            refine WL.skip rfl rfl rfl ?_
                            refine WL.skip rfl rfl rfl ?_
                            refine WL.skip rfl rfl rfl ?_
                            refine WL.quiet (d := 90) rfl rfl rfl (q_pickF rfl rfl) ?_
                            exact WL.cutEnd () trivial (.cons rfl (.cons rfl (.cons rfl (.cons rfl (.cons rfl (.cons rfl (.cons rfl (.cons (some_bool (and_l hg_57731)) .nil)))))))) (.cons .here (.cons .here (.cons .here .nil)))
                        · skip
                          refine WL.quiet (d := 91) rfl rfl rfl (q_pickF rfl rfl) ?_
                          exact WL.cutEnd () trivial (.cons rfl (.cons rfl (.cons rfl (.cons rfl (.cons rfl (.cons rfl (.cons (some_bool (or_r hg_57727)) .nil))))))) (.cons .here (.cons .here (.cons .here .nil)))
                  · skip
                    refine WL.nil ?_
                    refine WX.then ?_
                    refine WC.cond rfl (fun hb_57732 => ?_) (fun hb_57732 => ?_)
                    · replace h := ite_t h hb_57732
                      refine WC.seq ?_
                      refine WC.region ?_
                      refine WL.quiet (d := 4) rfl rfl rfl (q_assign rfl) ?_
                      refine WL.nil ?_
                      refine WX.then ?_
                      refine WC.ret ?_
                      refine WX.thenRet ?_
                      refine WX.blockRet ?_
                      refine WX.thenRet ?_
                      refine WX.thenRet ?_
                      refine WX.blockRet ?_
                      refine WX.thenRet ?_
                      obtain rfl := Option.some.inj h
                      refine WX.bpRet Try.results5 (.tmp rfl .nil) (fun w hw => ?_)
                      exact ⟨([] ++ Zn_57284), ret1 rfl, trivial, hw.sub (.cons .here .nil)⟩
                    · replace h := ite_f h hb_57732
                      refine WC.skip ?_
                      refine WX.then ?_
                      refine WC.region ?_
                      refine WL.quiet (d := 92) rfl rfl rfl (q_move rfl) ?_
                      refine WL.quiet (d := 9) rfl rfl rfl (q_assign rfl) ?_
                      refine WL.nil ?_
                      refine WX.blockNormal ?_
                      refine WX.then ?_
                      refine WC.region ?_
                      refine WL.quiet (d := 93) rfl rfl rfl (q_add rfl rfl rfl) ?_
                      refine WL.quiet (d := 53) rfl rfl rfl (q_move rfl) ?_
                      refine WL.nil ?_
                      exact WX.round (G := Nat × Int × List (List Int) × Int × Option Addr × Nat × List Value) ⟨n_57648, x_57709.1, v_57641, (i64 (v_57646 + 1)), (some ⟨b_57701, 0, none⟩), cap_57643, cs_57644⟩ ⟨h, rel_57645⟩ (Nat.lt_succ_self _) (.cons rfl (.cons rfl (.cons rfl (.cons rfl (.cons rfl (.cons rfl .nil)))))) (.cons .here (.cons .here (.cons .here .nil)))
              · replace h := ite_f h hb_57650
                refine WC.exit ?_
                refine WX.thenExit ?_
                refine WX.thenExit ?_
                refine WX.blockHit ?_
                exact WX.mid (G := Unit) () h .nil (.cons .here .nil)
            · rintro  h
              replace h := hk_57548.symm.trans h
              refine WC.seq ?_
              obtain ⟨x_57733, hx_57734, h⟩ := bind_elim h
              refine WC.region ?_
              refine WL.enter1 (dd := 94) rfl rfl rfl (run_call (l := []) Try.call12 .nil) (.nil : Sel [fz ([] ++ Zn_57284)] [] [fz ([] ++ Zn_57284)]) (fun w hw => by have pz := (hz.call2 hw (.nil : Sel [fz ([] ++ Zn_57284)] [] [fz ([] ++ Zn_57284)]) .here); exact w_law34_awake (Z := _)   (r := x_57733) w pz  hx_57734) ?_
              rintro Zn_57737 _
              refine WL.merge .here .here ?_
              refine WL.quiet (d := 4) rfl rfl rfl (q_assign rfl) ?_
              refine WL.nil ?_
              refine WX.then ?_
              refine WC.ret ?_
              obtain rfl := Option.some.inj h
              refine WX.bpRet Try.results5 (.tmp rfl .nil) (fun w hw => ?_)
              exact ⟨(([] ++ Zn_57284) ++ Zn_57737), ret1 rfl, trivial, hw.sub (.cons .here .nil)⟩
end Go.Proofs.Ytbejngeaocfieaa
