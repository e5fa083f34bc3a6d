/- A part of this claim's proof: models of the functions that the law reaches, with the proof that the functions compute them; plain laws about the models. No conditions beyond those in each theorem's statement. -/
import Derived.Test.YtbejngeaocfieaaW34d
namespace Go.Proofs.Ytbejngeaocfieaa
open Go Go.RowKit Sep
set_option linter.all false
set_option maxRecDepth 30000
/-- nacellelaw34.TimebaseWrong -/
def m_law34_TimebaseWrong (s_92519 : Stimebase_Setup) (way_92535 : Int) : Option Bool :=
  (m_law34_few s_92519).bind fun x_92780 => (if !x_92780 then some true else (m_timebase_Valid s_92519).bind fun x_92782 => some (!x_92782)).bind fun b_92784 => if b_92784 then (m_law34_awake).bind fun x_92791 => some x_92791 else jp7 (fun (c_92844 : List Int) (c_92848 : List Int) (c_92852 : List Int) (c_92856 : Int) (c_92857 : Int) (c_92858 : List Int) (c_92862 : List Int) => (m_timebase_Run (⟨c_92844, c_92848, c_92852, c_92856, c_92857, c_92858, c_92862⟩ : Stimebase_Setup) 1).bind fun x_92925 => (m_timebase_Reads (⟨c_92844, c_92848, c_92852, c_92856, c_92857, c_92858, c_92862⟩ : Stimebase_Setup) c_92844 0).bind fun x_92941 => (m_timebase_Skew (⟨c_92844, c_92848, c_92852, c_92856, c_92857, c_92858, c_92862⟩ : Stimebase_Setup) c_92844).bind fun x_92953 => (m_timebase_Bound (⟨c_92844, c_92848, c_92852, c_92856, c_92857, c_92858, c_92862⟩ : Stimebase_Setup)).bind fun x_92955 => (m_timebase_Valid (⟨c_92844, c_92848, c_92852, c_92856, c_92857, c_92858, c_92862⟩ : Stimebase_Setup)).bind fun x_92957 => (if ((((((!x_92957) && (decide (x_92925.2 = 2))) && (decide (x_92941.2 = x_92925.2))) && (decide (x_92953.2 = x_92925.2))) && (decide (x_92955.2 = x_92925.2))) && (decide ((i64 (((x_92925.1.length : Nat) : Int) + ((x_92941.1.length : Nat) : Int))) = 0))) && (decide ((i64 (x_92953.1 + x_92955.1)) = 0)) then (m_law34_awake).bind fun x_92959 => some x_92959 else some false).bind fun b_92963 => some b_92963) fun k_92866 => if decide ((Int.tmod way_92535 8) = 0) then k_92866 s_92519.fStart s_92519.fDrift s_92519.fFaulty (i64 (Int.tdiv (i64 (((s_92519.fStart.length : Nat) : Int) + 2)) 3)) s_92519.fE s_92519.fErrs s_92519.fLies else if decide ((Int.tmod way_92535 8) = 1) then chk ((0 : Int) ≤ 1 ∧ (1 : Int) ≤ (s_92519.fDrift.length : Int) ∧ (s_92519.fDrift.length : Int) ≤ ((s_92519.fDrift.length : Nat) : Int)) (k_92866 s_92519.fStart (s_92519.fDrift.drop (1 : Int).toNat) s_92519.fFaulty s_92519.fF s_92519.fE s_92519.fErrs s_92519.fLies) else if decide ((Int.tmod way_92535 8) = 2) then chk ((((([] : List Int) ++ s_92519.fFaulty).length : Nat) : Int) * 8 ≤ 140737488355328 ∧ (((([] : List Int) ++ s_92519.fFaulty).length : Nat) : Int) ≤ 4611686018427387904) (chk (((((([] : List Int) ++ s_92519.fFaulty) ++ ([((s_92519.fStart.length : Nat) : Int)] : List Int)).length : Nat) : Int) * 8 ≤ 140737488355328 ∧ ((((([] : List Int) ++ s_92519.fFaulty) ++ ([((s_92519.fStart.length : Nat) : Int)] : List Int)).length : Nat) : Int) ≤ 4611686018427387904) (k_92866 s_92519.fStart s_92519.fDrift ((([] : List Int) ++ s_92519.fFaulty) ++ ([((s_92519.fStart.length : Nat) : Int)] : List Int)) (max s_92519.fF ((((([] : List Int) ++ s_92519.fFaulty) ++ ([((s_92519.fStart.length : Nat) : Int)] : List Int)).length : Nat) : Int)) s_92519.fE s_92519.fErrs s_92519.fLies)) else if decide ((Int.tmod way_92535 8) = 3) then k_92866 s_92519.fStart s_92519.fDrift s_92519.fFaulty s_92519.fF (-1) s_92519.fErrs s_92519.fLies else if decide ((Int.tmod way_92535 8) = 4) then chk ((((([i64 (s_92519.fE + 1)] : List Int) ++ s_92519.fErrs).length : Nat) : Int) * 8 ≤ 140737488355328 ∧ (((([i64 (s_92519.fE + 1)] : List Int) ++ s_92519.fErrs).length : Nat) : Int) ≤ 4611686018427387904) (k_92866 s_92519.fStart s_92519.fDrift s_92519.fFaulty s_92519.fF s_92519.fE (([i64 (s_92519.fE + 1)] : List Int) ++ s_92519.fErrs) s_92519.fLies) else if decide ((Int.tmod way_92535 8) = 5) then chk ((0 : Int) ≤ 1001 ∧ (1001 : Int) ≤ 1001 ∧ (1001 : Int) * 8 ≤ 140737488355328 ∧ (1001 : Int) ≤ 4611686018427387904) (k_92866 s_92519.fStart s_92519.fDrift s_92519.fFaulty s_92519.fF s_92519.fE s_92519.fErrs (List.replicate (1001 : Int).toNat (0 : Int))) else if decide ((Int.tmod way_92535 8) = 6) then chk ((((([] : List Int) ++ s_92519.fStart).length : Nat) : Int) * 8 ≤ 140737488355328 ∧ (((([] : List Int) ++ s_92519.fStart).length : Nat) : Int) ≤ 4611686018427387904) (chk ((0 : Int) ≤ 0 ∧ 0 < (((([] : List Int) ++ s_92519.fStart).length : Nat) : Int)) (k_92866 ((([] : List Int) ++ s_92519.fStart).set (0 : Int).toNat 1048577) s_92519.fDrift s_92519.fFaulty s_92519.fF s_92519.fE s_92519.fErrs s_92519.fLies)) else if decide ((Int.tmod way_92535 8) = 7) then k_92866 [] [] [] 0 s_92519.fE s_92519.fErrs s_92519.fLies else k_92866 s_92519.fStart s_92519.fDrift s_92519.fFaulty s_92519.fF s_92519.fE s_92519.fErrs s_92519.fLies

set_option maxRecDepth 20000 in
theorem w_law34_TimebaseWrong (Z : Zp)  (ao_92520 : Option Addr) (cap_92521 : Nat) (ao_92523 : Option Addr) (cap_92524 : Nat) (ao_92526 : Option Addr) (cap_92527 : Nat) (ao_92529 : Option Addr) (cap_92530 : Nat) (ao_92532 : Option Addr) (cap_92533 : Nat) (s_92519 : Stimebase_Setup) (way_92535 : Int) (r : Bool) (w₀ : World) (hz : PZ [] w₀ Z)
    (hs_92522 : ZS Z 1 (fun r x => r = e3 x) ao_92520 cap_92521 s_92519.fStart)
    (hs_92525 : ZS Z 1 (fun r x => r = e3 x) ao_92523 cap_92524 s_92519.fDrift)
    (hs_92528 : ZS Z 1 (fun r x => r = e3 x) ao_92526 cap_92527 s_92519.fFaulty)
    (hs_92531 : ZS Z 1 (fun r x => r = e3 x) ao_92529 cap_92530 s_92519.fErrs)
    (hs_92534 : ZS Z 1 (fun r x => r = e3 x) ao_92532 cap_92533 s_92519.fLies)
    (h : m_law34_TimebaseWrong s_92519 way_92535 = some r) :
    Calls Try.prog 10 #[(.agg #[(.slice ao_92520 s_92519.fStart.length cap_92521), (.slice ao_92523 s_92519.fDrift.length cap_92524), (.slice ao_92526 s_92519.fFaulty.length cap_92527), (.int .i64 s_92519.fF), (.int .i64 s_92519.fE), (.slice ao_92529 s_92519.fErrs.length cap_92530), (.slice ao_92532 s_92519.fLies.length cap_92533)]), (.int .u8 way_92535)] w₀ fun e w' => ∃ Zn : Zp, e = .returned (.bool r) ∧ True ∧ Hp [] w₀ w' [fz Zn] := by
  unfold m_law34_TimebaseWrong at h
  refine Calls.ofWC (vs := [(.agg #[(.slice ao_92520 s_92519.fStart.length cap_92521), (.slice ao_92523 s_92519.fDrift.length cap_92524), (.slice ao_92526 s_92519.fFaulty.length cap_92527), (.int .i64 s_92519.fF), (.int .i64 s_92519.fE), (.slice ao_92529 s_92519.fErrs.length cap_92530), (.slice ao_92532 s_92519.fLies.length cap_92533)]), (.int .u8 way_92535)]) (pre := []) (env := [(0, (.agg #[(.slice ao_92520 s_92519.fStart.length cap_92521), (.slice ao_92523 s_92519.fDrift.length cap_92524), (.slice ao_92526 s_92519.fFaulty.length cap_92527), (.int .i64 s_92519.fF), (.int .i64 s_92519.fE), (.slice ao_92529 s_92519.fErrs.length cap_92530), (.slice ao_92532 s_92519.fLies.length cap_92533)])), (1, (.int .u8 way_92535))]) Try.func10 rfl Try.ntmps10 rfl (Hp.nil w₀ _) rfl ?_
  refine WC.pool ?_
  refine WC.seq ?_
  refine WC.region ?_
  refine WL.new (dd := 2) rfl rfl rfl (e_box (cs := [(.slice ao_92520 s_92519.fStart.length cap_92521), (.slice ao_92523 s_92519.fDrift.length cap_92524), (.slice ao_92526 s_92519.fFaulty.length cap_92527), (.int .i64 s_92519.fF), (.int .i64 s_92519.fE), (.slice ao_92529 s_92519.fErrs.length cap_92530), (.slice ao_92532 s_92519.fLies.length cap_92533)]) rfl rfl) ?_
  intro b_92762 _
  refine WL.quiet (d := 4) rfl rfl rfl (q_assign rfl) ?_
  refine WL.nil ?_
  refine WX.then ?_
  refine WC.seq ?_
  refine WC.seq ?_
  obtain ⟨x_92780, hx_92781, h⟩ := bind_elim h
  obtain ⟨b_92784, hb_92785, h⟩ := bind_elim h
  refine WC.region ?_
  refine WL.quiet (d := 13) rfl rfl rfl (q_loadA (cs := [(.slice ao_92520 s_92519.fStart.length cap_92521), (.slice ao_92523 s_92519.fDrift.length cap_92524), (.slice ao_92526 s_92519.fFaulty.length cap_92527), (.int .i64 s_92519.fF), (.int .i64 s_92519.fE), (.slice ao_92529 s_92519.fErrs.length cap_92530), (.slice ao_92532 s_92519.fLies.length cap_92533)]) aggT_24 rfl rfl (rd_all .here)) ?_
  refine WL.callD (dd := 14) rfl rfl rfl (run_call (l := [.tmp 13]) Try.call11 (.cons rfl .nil)) (.nil : Sel [stb b_92762 24 [(.slice ao_92520 s_92519.fStart.length cap_92521), (.slice ao_92523 s_92519.fDrift.length cap_92524), (.slice ao_92526 s_92519.fFaulty.length cap_92527), (.int .i64 s_92519.fF), (.int .i64 s_92519.fE), (.slice ao_92529 s_92519.fErrs.length cap_92530), (.slice ao_92532 s_92519.fLies.length cap_92533)], fz []] [] [stb b_92762 24 [(.slice ao_92520 s_92519.fStart.length cap_92521), (.slice ao_92523 s_92519.fDrift.length cap_92524), (.slice ao_92526 s_92519.fFaulty.length cap_92527), (.int .i64 s_92519.fF), (.int .i64 s_92519.fE), (.slice ao_92529 s_92519.fErrs.length cap_92530), (.slice ao_92532 s_92519.fLies.length cap_92533)], fz []]) (fun w hw => by have pz := (hz.call2 hw (.nil : Sel [stb b_92762 24 [(.slice ao_92520 s_92519.fStart.length cap_92521), (.slice ao_92523 s_92519.fDrift.length cap_92524), (.slice ao_92526 s_92519.fFaulty.length cap_92527), (.int .i64 s_92519.fF), (.int .i64 s_92519.fE), (.slice ao_92529 s_92519.fErrs.length cap_92530), (.slice ao_92532 s_92519.fLies.length cap_92533)], fz []] [] [stb b_92762 24 [(.slice ao_92520 s_92519.fStart.length cap_92521), (.slice ao_92523 s_92519.fDrift.length cap_92524), (.slice ao_92526 s_92519.fFaulty.length cap_92527), (.int .i64 s_92519.fF), (.int .i64 s_92519.fE), (.slice ao_92529 s_92519.fErrs.length cap_92530), (.slice ao_92532 s_92519.fLies.length cap_92533)], fz []]) (.there .here)); exact w_law34_few (Z := _) (ao_26 := ao_92520) (cap_27 := cap_92521) (ao_29 := ao_92523) (cap_30 := cap_92524) (ao_32 := ao_92526) (cap_33 := cap_92527) (ao_35 := ao_92529) (cap_36 := cap_92530) (ao_38 := ao_92532) (cap_39 := cap_92533) (s_25 := s_92519) (r := x_92780) w pz (hs_92522.mono (Zle.left _ _)) (hs_92525.mono (Zle.left _ _)) (hs_92528.mono (Zle.left _ _)) (hs_92531.mono (Zle.left _ _)) (hs_92534.mono (Zle.left _ _)) hx_92781) ?_
  refine WL.quiet (d := 15) rfl rfl rfl (q_not rfl) ?_
  refine WL.quiet (d := 16) rfl rfl rfl (q_move rfl) ?_
  refine WL.cut0 True [(1, (.int .u8 way_92535)), (2, (.pointer (some ⟨b_92762, 0, none⟩))), (20, (.bool b_92784))] [stb b_92762 24 [(.slice ao_92520 s_92519.fStart.length cap_92521), (.slice ao_92523 s_92519.fDrift.length cap_92524), (.slice ao_92526 s_92519.fFaulty.length cap_92527), (.int .i64 s_92519.fF), (.int .i64 s_92519.fE), (.slice ao_92529 s_92519.fErrs.length cap_92530), (.slice ao_92532 s_92519.fLies.length cap_92533)], fz []] 4 ?_ (fun _ => ?_)
  · rcases Bool.eq_false_or_eq_true (!x_92780) with hb' | hb'
    · have hg_92786 := hb'; clear hb'
      have hq_92787 := ite_t hb_92785 hg_92786
      replace hq_92787 := Option.some.inj hq_92787
      refine WL.pin (i := 16) rfl hg_92786 ?_
      refine WL.skip rfl rfl rfl ?_
      refine WL.skip rfl rfl rfl ?_
      refine WL.skip rfl rfl rfl ?_
      refine WL.quiet (d := 20) rfl rfl rfl (q_pickT rfl rfl) ?_
      exact WL.cutEnd () trivial (.cons rfl (.cons rfl (.cons (some_bool hq_92787) .nil))) (.cons .here (.cons .here .nil))
    · have hg_92788 := hb'; clear hb'
      have hq_92789 := ite_f hb_92785 hg_92788
      obtain ⟨x_92782, hx_92783, hq_92789⟩ := bind_elim hq_92789
      replace hq_92789 := Option.some.inj hq_92789
      refine WL.pin (i := 16) rfl hg_92788 ?_
      refine WL.quiet (d := 17) rfl rfl rfl (q_loadA (cs := [(.slice ao_92520 s_92519.fStart.length cap_92521), (.slice ao_92523 s_92519.fDrift.length cap_92524), (.slice ao_92526 s_92519.fFaulty.length cap_92527), (.int .i64 s_92519.fF), (.int .i64 s_92519.fE), (.slice ao_92529 s_92519.fErrs.length cap_92530), (.slice ao_92532 s_92519.fLies.length cap_92533)]) aggT_24 rfl rfl (rd_all .here)) ?_
      refine WL.callD (dd := 18) rfl rfl rfl (run_call (l := [.tmp 17]) Try.call19 (.cons rfl .nil)) (.nil : Sel [stb b_92762 24 [(.slice ao_92520 s_92519.fStart.length cap_92521), (.slice ao_92523 s_92519.fDrift.length cap_92524), (.slice ao_92526 s_92519.fFaulty.length cap_92527), (.int .i64 s_92519.fF), (.int .i64 s_92519.fE), (.slice ao_92529 s_92519.fErrs.length cap_92530), (.slice ao_92532 s_92519.fLies.length cap_92533)], fz []] [] [stb b_92762 24 [(.slice ao_92520 s_92519.fStart.length cap_92521), (.slice ao_92523 s_92519.fDrift.length cap_92524), (.slice ao_92526 s_92519.fFaulty.length cap_92527), (.int .i64 s_92519.fF), (.int .i64 s_92519.fE), (.slice ao_92529 s_92519.fErrs.length cap_92530), (.slice ao_92532 s_92519.fLies.length cap_92533)], fz []]) (fun w hw => by have pz := (hz.call2 hw (.nil : Sel [stb b_92762 24 [(.slice ao_92520 s_92519.fStart.length cap_92521), (.slice ao_92523 s_92519.fDrift.length cap_92524), (.slice ao_92526 s_92519.fFaulty.length cap_92527), (.int .i64 s_92519.fF), (.int .i64 s_92519.fE), (.slice ao_92529 s_92519.fErrs.length cap_92530), (.slice ao_92532 s_92519.fLies.length cap_92533)], fz []] [] [stb b_92762 24 [(.slice ao_92520 s_92519.fStart.length cap_92521), (.slice ao_92523 s_92519.fDrift.length cap_92524), (.slice ao_92526 s_92519.fFaulty.length cap_92527), (.int .i64 s_92519.fF), (.int .i64 s_92519.fE), (.slice ao_92529 s_92519.fErrs.length cap_92530), (.slice ao_92532 s_92519.fLies.length cap_92533)], fz []]) (.there .here)); exact w_timebase_Valid (Z := _) (ao_104 := ao_92520) (cap_105 := cap_92521) (ao_107 := ao_92523) (cap_108 := cap_92524) (ao_110 := ao_92526) (cap_111 := cap_92527) (ao_113 := ao_92529) (cap_114 := cap_92530) (ao_116 := ao_92532) (cap_117 := cap_92533) (s_103 := s_92519) (r := x_92782) w pz (hs_92522.mono (Zle.left _ _)) (hs_92525.mono (Zle.left _ _)) (hs_92528.mono (Zle.left _ _)) (hs_92531.mono (Zle.left _ _)) (hs_92534.mono (Zle.left _ _)) hx_92783) ?_
      refine WL.quiet (d := 19) rfl rfl rfl (q_not rfl) ?_
      refine WL.quiet (d := 20) rfl rfl rfl (q_pickF rfl rfl) ?_
      exact WL.cutEnd () trivial (.cons rfl (.cons rfl (.cons (some_bool hq_92789) .nil))) (.cons .here (.cons .here .nil))
  · skip
    refine WL.nil ?_
    refine WX.then ?_
    refine WC.cond rfl (fun hb_92790 => ?_) (fun hb_92790 => ?_)
    · replace h := ite_t h hb_92790
      refine WC.seq ?_
      obtain ⟨x_92791, hx_92792, h⟩ := bind_elim h
      refine WC.region ?_
      refine WL.enter1 (dd := 21) rfl rfl rfl (run_call (l := []) Try.call12 .nil) (.nil : Sel [stb b_92762 24 [(.slice ao_92520 s_92519.fStart.length cap_92521), (.slice ao_92523 s_92519.fDrift.length cap_92524), (.slice ao_92526 s_92519.fFaulty.length cap_92527), (.int .i64 s_92519.fF), (.int .i64 s_92519.fE), (.slice ao_92529 s_92519.fErrs.length cap_92530), (.slice ao_92532 s_92519.fLies.length cap_92533)], fz []] [] [stb b_92762 24 [(.slice ao_92520 s_92519.fStart.length cap_92521), (.slice ao_92523 s_92519.fDrift.length cap_92524), (.slice ao_92526 s_92519.fFaulty.length cap_92527), (.int .i64 s_92519.fF), (.int .i64 s_92519.fE), (.slice ao_92529 s_92519.fErrs.length cap_92530), (.slice ao_92532 s_92519.fLies.length cap_92533)], fz []]) (fun w hw => by have pz := (hz.call2 hw (.nil : Sel [stb b_92762 24 [(.slice ao_92520 s_92519.fStart.length cap_92521), (.slice ao_92523 s_92519.fDrift.length cap_92524), (.slice ao_92526 s_92519.fFaulty.length cap_92527), (.int .i64 s_92519.fF), (.int .i64 s_92519.fE), (.slice ao_92529 s_92519.fErrs.length cap_92530), (.slice ao_92532 s_92519.fLies.length cap_92533)], fz []] [] [stb b_92762 24 [(.slice ao_92520 s_92519.fStart.length cap_92521), (.slice ao_92523 s_92519.fDrift.length cap_92524), (.slice ao_92526 s_92519.fFaulty.length cap_92527), (.int .i64 s_92519.fF), (.int .i64 s_92519.fE), (.slice ao_92529 s_92519.fErrs.length cap_92530), (.slice ao_92532 s_92519.fLies.length cap_92533)], fz []]) (.there .here)); exact w_law34_awake (Z := _)   (r := x_92791) w pz  hx_92792) ?_
      rintro Zn_92795 _
      refine WL.merge .here (.there .here) ?_
      refine WL.quiet (d := 4) rfl rfl rfl (q_assign rfl) ?_
      refine WL.nil ?_
      refine WX.then ?_
      refine WC.ret ?_
      refine WX.thenRet ?_
      obtain rfl := Option.some.inj h
      refine WX.bpRet Try.results10 (.tmp rfl .nil) (fun w hw => ?_)
      exact ⟨([] ++ Zn_92795), ret1 rfl, trivial, hw.sub (.cons .here .nil)⟩
    · replace h := ite_f h hb_92790
      refine WC.skip ?_
      refine WX.then ?_
      obtain ⟨k_92866, hk_92867, h⟩ := jp7_elim h
      refine WC.seqMid18 (fun (c_92844 : List Int) (c_92848 : List Int) (c_92852 : List Int) (c_92856 : Int) (c_92857 : Int) (c_92858 : List Int) (c_92862 : List Int) (Zn_92842 : Zp) (ao_92845 : Option Addr) (cap_92846 : Nat) (ao_92849 : Option Addr) (cap_92850 : Nat) (ao_92853 : Option Addr) (cap_92854 : Nat) (ao_92859 : Option Addr) (cap_92860 : Nat) (ao_92863 : Option Addr) (cap_92864 : Nat) => (k_92866 c_92844 c_92848 c_92852 c_92856 c_92857 c_92858 c_92862 = some r) ∧ (Zle (Z ++ []) (Z ++ Zn_92842)) ∧ (ZS (Z ++ Zn_92842) 1 (fun r x => r = e3 x) ao_92845 cap_92846 c_92844) ∧ (ZS (Z ++ Zn_92842) 1 (fun r x => r = e3 x) ao_92849 cap_92850 c_92848) ∧ (ZS (Z ++ Zn_92842) 1 (fun r x => r = e3 x) ao_92853 cap_92854 c_92852) ∧ (ZS (Z ++ Zn_92842) 1 (fun r x => r = e3 x) ao_92859 cap_92860 c_92858) ∧ (ZS (Z ++ Zn_92842) 1 (fun r x => r = e3 x) ao_92863 cap_92864 c_92862)) (fun (c_92844 : List Int) (c_92848 : List Int) (c_92852 : List Int) (c_92856 : Int) (c_92857 : Int) (c_92858 : List Int) (c_92862 : List Int) (Zn_92842 : Zp) (ao_92845 : Option Addr) (cap_92846 : Nat) (ao_92849 : Option Addr) (cap_92850 : Nat) (ao_92853 : Option Addr) (cap_92854 : Nat) (ao_92859 : Option Addr) (cap_92860 : Nat) (ao_92863 : Option Addr) (cap_92864 : Nat) => [(2, (.pointer (some ⟨b_92762, 0, none⟩)))]) (fun (c_92844 : List Int) (c_92848 : List Int) (c_92852 : List Int) (c_92856 : Int) (c_92857 : Int) (c_92858 : List Int) (c_92862 : List Int) (Zn_92842 : Zp) (ao_92845 : Option Addr) (cap_92846 : Nat) (ao_92849 : Option Addr) (cap_92850 : Nat) (ao_92853 : Option Addr) (cap_92854 : Nat) (ao_92859 : Option Addr) (cap_92860 : Nat) (ao_92863 : Option Addr) (cap_92864 : Nat) => [fz Zn_92842, stb b_92762 24 [(.slice ao_92845 c_92844.length cap_92846), (.slice ao_92849 c_92848.length cap_92850), (.slice ao_92853 c_92852.length cap_92854), (.int .i64 c_92856), (.int .i64 c_92857), (.slice ao_92859 c_92858.length cap_92860), (.slice ao_92863 c_92862.length cap_92864)]]) ?_ ?_
      · skip
        refine WC.seq ?_
        refine WC.region ?_
        refine WL.quiet (d := 22) rfl rfl rfl (q_move rfl) ?_
        refine WL.quiet (d := 23) rfl rfl rfl (q_rem rfl rfl (by decide) rfl) ?_
        refine WL.nil ?_
        refine WX.then ?_
        refine WC.block ?_
        refine WC.seq ?_
        refine WC.region ?_
        refine WL.quiet (d := 25) rfl rfl rfl (q_eql rfl rfl) ?_
        refine WL.quiet (d := 24) rfl rfl rfl (q_assign rfl) ?_
        refine WL.nil ?_
        refine WX.then ?_
        refine WC.cond rfl (fun hb_92868 => ?_) (fun hb_92868 => ?_)
        · replace h := ite_t h hb_92868
          refine WC.region ?_
          refine WL.quiet (d := 26) rfl rfl rfl (q_fieldAddr fo_24_0 rfl rfl) ?_
          refine WL.quiet (d := 27) rfl rfl rfl (q_load1 oneT_22 rfl (rd_stb .here rfl)) ?_
          refine WL.quiet (d := 28) rfl rfl rfl (q_len Try.underlying22 rfl) ?_
          refine WL.quiet (d := 29) rfl rfl rfl (q_add rfl rfl rfl) ?_
          refine WL.quiet (d := 30) rfl rfl rfl (q_quo rfl rfl (by decide) rfl) ?_
          refine WL.quiet (d := 31) rfl rfl rfl (q_fieldAddr fo_24_3 rfl rfl) ?_
          refine WL.eff0 rfl rfl (e_store (vs := [(.int .i64 (i64 (Int.tdiv (i64 (((s_92519.fStart.length : Nat) : Int) + 2)) 3)))]) (ds := [(.slice ao_92520 s_92519.fStart.length cap_92521), (.slice ao_92523 s_92519.fDrift.length cap_92524), (.slice ao_92526 s_92519.fFaulty.length cap_92527), (.int .i64 (i64 (Int.tdiv (i64 (((s_92519.fStart.length : Nat) : Int) + 2)) 3))), (.int .i64 s_92519.fE), (.slice ao_92529 s_92519.fErrs.length cap_92530), (.slice ao_92532 s_92519.fLies.length cap_92533)]) sizT_3 rfl rfl rfl rfl (oc_cons rfl oc_nil) .here (Nat.le_of_ble_eq_true rfl) rfl) ?_
          refine WL.nil ?_
          refine WX.blockNormal ?_
          exact WX.mid (G := List Int × List Int × List Int × Int × Int × List Int × List Int × Zp × Option Addr × Nat × Option Addr × Nat × Option Addr × Nat × Option Addr × Nat × Option Addr × Nat) ⟨s_92519.fStart, s_92519.fDrift, s_92519.fFaulty, (i64 (Int.tdiv (i64 (((s_92519.fStart.length : Nat) : Int) + 2)) 3)), s_92519.fE, s_92519.fErrs, s_92519.fLies, [], ao_92520, cap_92521, ao_92523, cap_92524, ao_92526, cap_92527, ao_92529, cap_92530, ao_92532, cap_92533⟩ ⟨h, (Zle.refl _), (hs_92522.mono (Zle.left _ _)), (hs_92525.mono (Zle.left _ _)), (hs_92528.mono (Zle.left _ _)), (hs_92531.mono (Zle.left _ _)), (hs_92534.mono (Zle.left _ _))⟩ (.cons rfl .nil) (.cons (.there .here) (.cons .here .nil))
        · replace h := ite_f h hb_92868
          refine WC.seq ?_
          refine WC.region ?_
          refine WL.quiet (d := 33) rfl rfl rfl (q_eql rfl rfl) ?_
          refine WL.quiet (d := 32) rfl rfl rfl (q_assign rfl) ?_
          refine WL.nil ?_
          refine WX.then ?_
          refine WC.cond rfl (fun hb_92869 => ?_) (fun hb_92869 => ?_)
          · replace h := ite_t h hb_92869
            obtain ⟨c_92870, h⟩ := chk_elim h
            refine WC.region ?_
            refine WL.quiet (d := 34) rfl rfl rfl (q_fieldAddr fo_24_1 rfl rfl) ?_
            refine WL.quiet (d := 35) rfl rfl rfl (q_load1 oneT_22 rfl (rd_stb .here rfl)) ?_
            refine WL.zsub (dd := 36) rfl rfl (Z := (Z ++ [])) (Pr := (fun r x => r = e3 x)) elT_22 rfl (hs_92525.mono (Zle.left _ _)) (ixo rfl) ixn rfl rfl c_92870 (by rw [Int.toNat_natCast, List.take_length]) ?_
            rintro ao_92874 cap_92875 hs_92876
            refine WL.quiet (d := 37) rfl rfl rfl (q_fieldAddr fo_24_1 rfl rfl) ?_
            refine WL.eff0 rfl rfl (e_store (vs := [(.slice ao_92874 ((s_92519.fDrift.drop (1 : Int).toNat).length) cap_92875)]) (ds := [(.slice ao_92520 s_92519.fStart.length cap_92521), (.slice ao_92874 ((s_92519.fDrift.drop (1 : Int).toNat).length) cap_92875), (.slice ao_92526 s_92519.fFaulty.length cap_92527), (.int .i64 s_92519.fF), (.int .i64 s_92519.fE), (.slice ao_92529 s_92519.fErrs.length cap_92530), (.slice ao_92532 s_92519.fLies.length cap_92533)]) sizT_22 rfl rfl rfl rfl (oc_cons rfl oc_nil) .here (Nat.le_of_ble_eq_true rfl) rfl) ?_
            refine WL.nil ?_
            refine WX.blockNormal ?_
            exact WX.mid (G := List Int × List Int × List Int × Int × Int × List Int × List Int × Zp × Option Addr × Nat × Option Addr × Nat × Option Addr × Nat × Option Addr × Nat × Option Addr × Nat) ⟨s_92519.fStart, (s_92519.fDrift.drop (1 : Int).toNat), s_92519.fFaulty, s_92519.fF, s_92519.fE, s_92519.fErrs, s_92519.fLies, [], ao_92520, cap_92521, ao_92874, cap_92875, ao_92526, cap_92527, ao_92529, cap_92530, ao_92532, cap_92533⟩ ⟨h, (Zle.refl _), (hs_92522.mono (Zle.left _ _)), hs_92876, (hs_92528.mono (Zle.left _ _)), (hs_92531.mono (Zle.left _ _)), (hs_92534.mono (Zle.left _ _))⟩ (.cons rfl .nil) (.cons (.there .here) (.cons .here .nil))
          · replace h := ite_f h hb_92869
            refine WC.seq ?_
            refine WC.region ?_
            refine WL.quiet (d := 39) rfl rfl rfl (q_eql rfl rfl) ?_
            refine WL.quiet (d := 38) rfl rfl rfl (q_assign rfl) ?_
            refine WL.nil ?_
            refine WX.then ?_
            refine WC.cond rfl (fun hb_92877 => ?_) (fun hb_92877 => ?_)
            · replace h := ite_t h hb_92877
              refine WC.seq ?_
              obtain ⟨c_92879, h⟩ := chk_elim h
              obtain ⟨c_92883, h⟩ := chk_elim h
              refine WC.draw (fun i => [3, 8, 10].contains i) [stbp b_92762 24 [(0, (.slice ao_92520 s_92519.fStart.length cap_92521))]] rfl ?_
              refine WD.pure (i := 1) (d := 41) (by kernel_rfl) rfl (by kernel_rfl) (by kernel_rfl) rfl rfl rfl (fun _ => q_fieldAddr fo_24_2 rfl rfl) ?_
              refine WD.quiet (i := 2) (d := 42) (by kernel_rfl) rfl (by kernel_rfl) (by kernel_rfl) rfl rfl rfl (q_load1 oneT_22 rfl (rd_stb .here rfl)) ?_
              refine WD.pure (i := 4) (d := 44) (by kernel_rfl) rfl (by kernel_rfl) (by kernel_rfl) rfl rfl rfl (fun _ => q_fieldAddr fo_24_0 rfl rfl) ?_
              refine WD.stable (i := 5) (d := 45) (by kernel_rfl) rfl (by kernel_rfl) (by kernel_rfl) rfl rfl rfl (Sin.wk (.cons .here .nil) (.stb (.cons rfl .nil) .nil)) (q_load1 oneT_22 rfl (rd_stbp .here (.head _))) ?_
              refine WD.pure (i := 6) (d := 46) (by kernel_rfl) rfl (by kernel_rfl) (by kernel_rfl) rfl rfl rfl (fun _ => q_len Try.underlying22 rfl) ?_
              refine WD.mids6 (fuel' := 0) (fun (b0o1_92887 : Nat) (ao3o1_92887 : Option Addr) (cap3o2_92887 : Nat) (b7o1_92887 : Nat) (ao8o1_92887 : Option Addr) (cap8o2_92887 : Nat) => [(2, (.pointer (some ⟨b_92762, 0, none⟩)))]) (fun (b0o1_92887 : Nat) (ao3o1_92887 : Option Addr) (cap3o2_92887 : Nat) (b7o1_92887 : Nat) (ao8o1_92887 : Option Addr) (cap8o2_92887 : Nat) => [stb b_92762 24 [(.slice ao_92520 s_92519.fStart.length cap_92521), (.slice ao_92523 s_92519.fDrift.length cap_92524), (.slice ao8o1_92887 (((([] : List Int) ++ s_92519.fFaulty) ++ ([((s_92519.fStart.length : Nat) : Int)] : List Int)).length) cap8o2_92887), (.int .i64 s_92519.fF), (.int .i64 s_92519.fE), (.slice ao_92529 s_92519.fErrs.length cap_92530), (.slice ao_92532 s_92519.fLies.length cap_92533)], row (.slice ao8o1_92887 (((([] : List Int) ++ s_92519.fFaulty) ++ ([((s_92519.fStart.length : Nat) : Int)] : List Int)).length) cap8o2_92887) 3 1 (((([] : List Int) ++ s_92519.fFaulty) ++ ([((s_92519.fStart.length : Nat) : Int)] : List Int)).flatMap e3), row (.slice (some ⟨b7o1_92887, 0, none⟩) (([((s_92519.fStart.length : Nat) : Int)] : List Int).length) 1) 3 1 (([((s_92519.fStart.length : Nat) : Int)] : List Int).flatMap e3), fz []]) (fun (b0o1_92887 : Nat) (ao3o1_92887 : Option Addr) (cap3o2_92887 : Nat) (b7o1_92887 : Nat) (ao8o1_92887 : Option Addr) (cap8o2_92887 : Nat) => True) (listedA 11 [10, 9, 8, 7, 3, 0, 6, 5, 4, 2, 1]) ?_ (fun K0o3o7o8o9o10_92887 => ?_)
              · skip
                rintro b0o1_92887 ao3o1_92887 cap3o2_92887 b7o1_92887 ao8o1_92887 cap8o2_92887 _
                refine WD.done (by kernel_rfl) ?_
                refine WX.then ?_
                refine WC.region ?_
                refine WL.quiet (d := 50) rfl rfl rfl (q_fieldAddr fo_24_3 rfl rfl) ?_
                refine WL.quiet (d := 51) rfl rfl rfl (q_load1 oneT_3 rfl (rd_stb .here rfl)) ?_
                refine WL.quiet (d := 52) rfl rfl rfl (q_fieldAddr fo_24_2 rfl rfl) ?_
                refine WL.quiet (d := 53) rfl rfl rfl (q_load1 oneT_22 rfl (rd_stb .here rfl)) ?_
                refine WL.quiet (d := 54) rfl rfl rfl (q_len Try.underlying22 rfl) ?_
                refine WL.quiet (d := 55) rfl rfl rfl (q_max rfl rfl rfl) ?_
                refine WL.quiet (d := 56) rfl rfl rfl (q_fieldAddr fo_24_3 rfl rfl) ?_
                refine WL.eff0 rfl rfl (e_store (vs := [(.int .i64 (max s_92519.fF ((((([] : List Int) ++ s_92519.fFaulty) ++ ([((s_92519.fStart.length : Nat) : Int)] : List Int)).length : Nat) : Int)))]) (ds := [(.slice ao_92520 s_92519.fStart.length cap_92521), (.slice ao_92523 s_92519.fDrift.length cap_92524), (.slice ao8o1_92887 (((([] : List Int) ++ s_92519.fFaulty) ++ ([((s_92519.fStart.length : Nat) : Int)] : List Int)).length) cap8o2_92887), (.int .i64 (max s_92519.fF ((((([] : List Int) ++ s_92519.fFaulty) ++ ([((s_92519.fStart.length : Nat) : Int)] : List Int)).length : Nat) : Int))), (.int .i64 s_92519.fE), (.slice ao_92529 s_92519.fErrs.length cap_92530), (.slice ao_92532 s_92519.fLies.length cap_92533)]) sizT_3 rfl rfl rfl rfl (oc_cons rfl oc_nil) .here (Nat.le_of_ble_eq_true rfl) rfl) ?_
                refine WL.nil ?_
                refine WX.blockNormal ?_
                refine WX.freezeS (.there .here) (.there (.there .here)) hz (RR.flat (enc := e3) (fun _ => rfl) _) ?_
                intro Zn_92888 hle_92889 hf_92890
                exact WX.mid (G := List Int × List Int × List Int × Int × Int × List Int × List Int × Zp × Option Addr × Nat × Option Addr × Nat × Option Addr × Nat × Option Addr × Nat × Option Addr × Nat) ⟨s_92519.fStart, s_92519.fDrift, ((([] : List Int) ++ s_92519.fFaulty) ++ ([((s_92519.fStart.length : Nat) : Int)] : List Int)), (max s_92519.fF ((((([] : List Int) ++ s_92519.fFaulty) ++ ([((s_92519.fStart.length : Nat) : Int)] : List Int)).length : Nat) : Int)), s_92519.fE, s_92519.fErrs, s_92519.fLies, Zn_92888, ao_92520, cap_92521, ao_92523, cap_92524, ao8o1_92887, cap8o2_92887, ao_92529, cap_92530, ao_92532, cap_92533⟩ ⟨h, hle_92889, (hs_92522.mono ((Zle.left _ _).trans hle_92889)), (hs_92525.mono ((Zle.left _ _).trans hle_92889)), hf_92890, (hs_92531.mono ((Zle.left _ _).trans hle_92889)), (hs_92534.mono ((Zle.left _ _).trans hle_92889))⟩ (.cons rfl .nil) (.cons .here (.cons .here .nil))
              refine WD.mids6 (fuel' := 1) (fun (b0o1_92887 : Nat) (ao3o1_92887 : Option Addr) (cap3o2_92887 : Nat) (b7o1_92887 : Nat) (ao8o1_92887 : Option Addr) (cap8o2_92887 : Nat) => [(2, (.pointer (some ⟨b_92762, 0, none⟩))), (48, (.slice ao8o1_92887 (((([] : List Int) ++ s_92519.fFaulty) ++ ([((s_92519.fStart.length : Nat) : Int)] : List Int)).length) cap8o2_92887)), (49, (.pointer (some ⟨b_92762, 2, none⟩)))]) (fun (b0o1_92887 : Nat) (ao3o1_92887 : Option Addr) (cap3o2_92887 : Nat) (b7o1_92887 : Nat) (ao8o1_92887 : Option Addr) (cap8o2_92887 : Nat) => [row (.slice ao8o1_92887 (((([] : List Int) ++ s_92519.fFaulty) ++ ([((s_92519.fStart.length : Nat) : Int)] : List Int)).length) cap8o2_92887) 3 1 (((([] : List Int) ++ s_92519.fFaulty) ++ ([((s_92519.fStart.length : Nat) : Int)] : List Int)).flatMap e3), row (.slice (some ⟨b7o1_92887, 0, none⟩) (([((s_92519.fStart.length : Nat) : Int)] : List Int).length) 1) 3 1 (([((s_92519.fStart.length : Nat) : Int)] : List Int).flatMap e3), stb b_92762 24 [(.slice ao_92520 s_92519.fStart.length cap_92521), (.slice ao_92523 s_92519.fDrift.length cap_92524), (.slice ao_92526 s_92519.fFaulty.length cap_92527), (.int .i64 s_92519.fF), (.int .i64 s_92519.fE), (.slice ao_92529 s_92519.fErrs.length cap_92530), (.slice ao_92532 s_92519.fLies.length cap_92533)], fz []]) (fun (b0o1_92887 : Nat) (ao3o1_92887 : Option Addr) (cap3o2_92887 : Nat) (b7o1_92887 : Nat) (ao8o1_92887 : Option Addr) (cap8o2_92887 : Nat) => True) (listedA 11 [9, 8, 7, 3, 0, 6, 5, 4, 2, 1]) ?_ (fun K0o3o7o8o9_92887 => ?_)
              · skip
                rintro b0o1_92887 ao3o1_92887 cap3o2_92887 b7o1_92887 ao8o1_92887 cap8o2_92887 _
                refine WD.forced0 (i := 10) rfl (by kernel_rfl) rfl rfl rfl (Sin.wk (.cons .here .nil) (.stb (.cons rfl .nil) .nil)) (e_store (vs := [(.slice ao8o1_92887 (((([] : List Int) ++ s_92519.fFaulty) ++ ([((s_92519.fStart.length : Nat) : Int)] : List Int)).length) cap8o2_92887)]) (ds := [(.slice ao_92520 s_92519.fStart.length cap_92521), (.slice ao_92523 s_92519.fDrift.length cap_92524), (.slice ao8o1_92887 (((([] : List Int) ++ s_92519.fFaulty) ++ ([((s_92519.fStart.length : Nat) : Int)] : List Int)).length) cap8o2_92887), (.int .i64 s_92519.fF), (.int .i64 s_92519.fE), (.slice ao_92529 s_92519.fErrs.length cap_92530), (.slice ao_92532 s_92519.fLies.length cap_92533)]) sizT_22 rfl rfl rfl rfl (oc_cons rfl oc_nil) (.there (.there .here)) (Nat.le_of_ble_eq_true rfl) rfl) ?_
                exact WD.reL (.cons .here (.cons .here (.cons .here (.cons .here .nil)))) (.cons rfl .nil) (K0o3o7o8o9o10_92887 b0o1_92887 ao3o1_92887 cap3o2_92887 b7o1_92887 ao8o1_92887 cap8o2_92887 trivial)
              refine WD.mids4 (fuel' := 3) (fun (b0o1_92887 : Nat) (ao3o1_92887 : Option Addr) (cap3o2_92887 : Nat) (b7o1_92887 : Nat) => [(2, (.pointer (some ⟨b_92762, 0, none⟩))), (43, (.slice ao3o1_92887 ((([] : List Int) ++ s_92519.fFaulty).length) cap3o2_92887)), (47, (.slice (some ⟨b7o1_92887, 0, none⟩) (([((s_92519.fStart.length : Nat) : Int)] : List Int).length) 1))]) (fun (b0o1_92887 : Nat) (ao3o1_92887 : Option Addr) (cap3o2_92887 : Nat) (b7o1_92887 : Nat) => [row (.slice (some ⟨b7o1_92887, 0, none⟩) (([((s_92519.fStart.length : Nat) : Int)] : List Int).length) 1) 3 1 (([((s_92519.fStart.length : Nat) : Int)] : List Int).flatMap e3), row (.slice ao3o1_92887 ((([] : List Int) ++ s_92519.fFaulty).length) cap3o2_92887) 3 1 ((([] : List Int) ++ s_92519.fFaulty).flatMap e3), stb b_92762 24 [(.slice ao_92520 s_92519.fStart.length cap_92521), (.slice ao_92523 s_92519.fDrift.length cap_92524), (.slice ao_92526 s_92519.fFaulty.length cap_92527), (.int .i64 s_92519.fF), (.int .i64 s_92519.fE), (.slice ao_92529 s_92519.fErrs.length cap_92530), (.slice ao_92532 s_92519.fLies.length cap_92533)], fz []]) (fun (b0o1_92887 : Nat) (ao3o1_92887 : Option Addr) (cap3o2_92887 : Nat) (b7o1_92887 : Nat) => True) (listedA 11 [7, 3, 0, 6, 5, 4, 2, 1]) ?_ (fun K0o3o7_92887 => ?_)
              · skip
                rintro b0o1_92887 ao3o1_92887 cap3o2_92887 b7o1_92887 _
                refine WD.old (i := 8) (dd := 48) rfl (by kernel_rfl) rfl rfl rfl rfl (fun _ => (Sin.wk (.cons (.there (.there .here)) .nil) (.stb (.cons rfl .nil) .nil))) (e_appendF (enc := e3) (l1 := ([] : List Int) ++ s_92519.fFaulty) (l2 := ([((s_92519.fStart.length : Nat) : Int)] : List Int)) elT_22 rfl rfl (.there .here) (fun _ => rfl) rfl rfl (news_row .here) (oc_flat e3_oc _) c_92883) ?_
                rintro ⟨ao8o1_92887, cap8o2_92887⟩ _
                refine WD.pure (i := 9) (d := 49) (by kernel_rfl) rfl (by kernel_rfl) (by kernel_rfl) rfl rfl rfl (fun _ => q_fieldAddr fo_24_2 rfl rfl) ?_
                exact WD.reL (.cons .here (.cons .here (.cons .here (.cons .here .nil)))) (.cons rfl (.cons rfl (.cons rfl .nil))) (K0o3o7o8o9_92887 b0o1_92887 ao3o1_92887 cap3o2_92887 b7o1_92887 ao8o1_92887 cap8o2_92887 trivial)
              refine WD.mids3 (fuel' := 4) (fun (b0o1_92887 : Nat) (ao3o1_92887 : Option Addr) (cap3o2_92887 : Nat) => [(2, (.pointer (some ⟨b_92762, 0, none⟩))), (46, (.int .i64 ((s_92519.fStart.length : Nat) : Int))), (43, (.slice ao3o1_92887 ((([] : List Int) ++ s_92519.fFaulty).length) cap3o2_92887))]) (fun (b0o1_92887 : Nat) (ao3o1_92887 : Option Addr) (cap3o2_92887 : Nat) => [row (.slice ao3o1_92887 ((([] : List Int) ++ s_92519.fFaulty).length) cap3o2_92887) 3 1 ((([] : List Int) ++ s_92519.fFaulty).flatMap e3), stb b_92762 24 [(.slice ao_92520 s_92519.fStart.length cap_92521), (.slice ao_92523 s_92519.fDrift.length cap_92524), (.slice ao_92526 s_92519.fFaulty.length cap_92527), (.int .i64 s_92519.fF), (.int .i64 s_92519.fE), (.slice ao_92529 s_92519.fErrs.length cap_92530), (.slice ao_92532 s_92519.fLies.length cap_92533)], fz []]) (fun (b0o1_92887 : Nat) (ao3o1_92887 : Option Addr) (cap3o2_92887 : Nat) => True) (listedA 11 [3, 0, 6, 5, 4, 2, 1]) ?_ (fun K0o3_92887 => ?_)
              · skip
                rintro b0o1_92887 ao3o1_92887 cap3o2_92887 _
                refine WD.new (i := 7) (dd := 47) rfl (by kernel_rfl) rfl rfl rfl (e_buildSlice (cs := ([((s_92519.fStart.length : Nat) : Int)] : List Int).flatMap e3) elT_22 (Eos.parts (l := [.tmp 46]) (.cons rfl .nil) [0]) (fun _ => by kernel_rfl) rfl (by unfold maxLen; omega)) (fun h' => absurd h' (by decide)) ?_
                intro b7o1_92887 _
                exact WD.reL (.cons .here (.cons .here (.cons .here (.cons .here .nil)))) (.cons rfl (.cons rfl (.cons rfl .nil))) (K0o3o7_92887 b0o1_92887 ao3o1_92887 cap3o2_92887 b7o1_92887 trivial)
              refine WD.mids2 (fuel' := 4) (fun (b0o1_92887 : Nat) (b7o1_92887 : Nat) => [(2, (.pointer (some ⟨b_92762, 0, none⟩))), (42, (.slice ao_92526 s_92519.fFaulty.length cap_92527)), (40, (.slice (some ⟨b0o1_92887, 0, none⟩) (([] : List Int).length) 0)), (47, (.slice (some ⟨b7o1_92887, 0, none⟩) (([((s_92519.fStart.length : Nat) : Int)] : List Int).length) 1))]) (fun (b0o1_92887 : Nat) (b7o1_92887 : Nat) => [row (.slice (some ⟨b7o1_92887, 0, none⟩) (([((s_92519.fStart.length : Nat) : Int)] : List Int).length) 1) 3 1 (([((s_92519.fStart.length : Nat) : Int)] : List Int).flatMap e3), row (.slice (some ⟨b0o1_92887, 0, none⟩) (([] : List Int).length) 0) 3 1 (([] : List Int).flatMap e3), stb b_92762 24 [(.slice ao_92520 s_92519.fStart.length cap_92521), (.slice ao_92523 s_92519.fDrift.length cap_92524), (.slice ao_92526 s_92519.fFaulty.length cap_92527), (.int .i64 s_92519.fF), (.int .i64 s_92519.fE), (.slice ao_92529 s_92519.fErrs.length cap_92530), (.slice ao_92532 s_92519.fLies.length cap_92533)], fz []]) (fun (b0o1_92887 : Nat) (b7o1_92887 : Nat) => True) (listedA 11 [7, 0, 6, 5, 4, 2, 1]) ?_ (fun K0o7_92887 => ?_)
              · skip
                rintro b0o1_92887 b7o1_92887 _
                refine WD.old (i := 3) (dd := 43) rfl (by kernel_rfl) rfl rfl rfl rfl (fun _ => (Sin.wk (.cons (.there (.there .here)) .nil) (.stb (.cons rfl .nil) .nil))) (e_appendF (enc := e3) (l1 := ([] : List Int)) (l2 := s_92519.fFaulty) elT_22 rfl rfl (.there .here) (fun _ => rfl) rfl rfl (news_z (hz.pv2 (.there (.there (.there .here)))) (hs_92528.mono (Zle.left _ _))) (oc_flat e3_oc _) c_92879) ?_
                rintro ⟨ao3o1_92887, cap3o2_92887⟩ _
                exact WD.reL (.cons (.there .here) (.cons .here (.cons .here (.cons .here .nil)))) (.cons rfl (.cons rfl (.cons rfl .nil))) (K0o3o7_92887 b0o1_92887 ao3o1_92887 cap3o2_92887 b7o1_92887 trivial)
              refine WD.mids1 (fuel' := 5) (fun (b0o1_92887 : Nat) => [(2, (.pointer (some ⟨b_92762, 0, none⟩))), (42, (.slice ao_92526 s_92519.fFaulty.length cap_92527)), (46, (.int .i64 ((s_92519.fStart.length : Nat) : Int))), (40, (.slice (some ⟨b0o1_92887, 0, none⟩) (([] : List Int).length) 0))]) (fun (b0o1_92887 : Nat) => [row (.slice (some ⟨b0o1_92887, 0, none⟩) (([] : List Int).length) 0) 3 1 (([] : List Int).flatMap e3), stb b_92762 24 [(.slice ao_92520 s_92519.fStart.length cap_92521), (.slice ao_92523 s_92519.fDrift.length cap_92524), (.slice ao_92526 s_92519.fFaulty.length cap_92527), (.int .i64 s_92519.fF), (.int .i64 s_92519.fE), (.slice ao_92529 s_92519.fErrs.length cap_92530), (.slice ao_92532 s_92519.fLies.length cap_92533)], fz []]) (fun (b0o1_92887 : Nat) => True) (listedA 11 [0, 6, 5, 4, 2, 1]) ?_ (fun K0_92887 => ?_)
              · skip
                rintro b0o1_92887 _
                refine WD.choose [3, 7] (by kernel_rfl) rfl ?_
                refine WDo.cons ?_ (WDo.cons ?_ (WDo.nil))
                · refine WDo.old (i := 3) (dd := 43) rfl rfl rfl rfl rfl (fun _ => (Sin.wk (.cons (.there .here) .nil) (.stb (.cons rfl .nil) .nil))) (e_appendF (enc := e3) (l1 := ([] : List Int)) (l2 := s_92519.fFaulty) elT_22 rfl rfl .here (fun _ => rfl) rfl rfl (news_z (hz.pv2 (.there (.there .here))) (hs_92528.mono (Zle.left _ _))) (oc_flat e3_oc _) c_92879) ?_
                  rintro ⟨ao3o1_92887, cap3o2_92887⟩ _
                  exact WD.reL (.cons .here (.cons .here (.cons .here .nil))) (.cons rfl (.cons rfl (.cons rfl .nil))) (K0o3_92887 b0o1_92887 ao3o1_92887 cap3o2_92887 trivial)
                · refine WDo.new (i := 7) (dd := 47) rfl rfl rfl rfl (e_buildSlice (cs := ([((s_92519.fStart.length : Nat) : Int)] : List Int).flatMap e3) elT_22 (Eos.parts (l := [.tmp 46]) (.cons rfl .nil) [0]) (fun _ => by kernel_rfl) rfl (by unfold maxLen; omega)) (fun h' => absurd h' (by decide)) ?_
                  intro b7o1_92887 _
                  exact WD.reL (.cons .here (.cons .here (.cons .here (.cons .here .nil)))) (.cons rfl (.cons rfl (.cons rfl (.cons rfl .nil)))) (K0o7_92887 b0o1_92887 b7o1_92887 trivial)
              refine WD.mids1 (fuel' := 5) (fun (b7o1_92887 : Nat) => [(2, (.pointer (some ⟨b_92762, 0, none⟩))), (42, (.slice ao_92526 s_92519.fFaulty.length cap_92527)), (47, (.slice (some ⟨b7o1_92887, 0, none⟩) (([((s_92519.fStart.length : Nat) : Int)] : List Int).length) 1))]) (fun (b7o1_92887 : Nat) => [row (.slice (some ⟨b7o1_92887, 0, none⟩) (([((s_92519.fStart.length : Nat) : Int)] : List Int).length) 1) 3 1 (([((s_92519.fStart.length : Nat) : Int)] : List Int).flatMap e3), stb b_92762 24 [(.slice ao_92520 s_92519.fStart.length cap_92521), (.slice ao_92523 s_92519.fDrift.length cap_92524), (.slice ao_92526 s_92519.fFaulty.length cap_92527), (.int .i64 s_92519.fF), (.int .i64 s_92519.fE), (.slice ao_92529 s_92519.fErrs.length cap_92530), (.slice ao_92532 s_92519.fLies.length cap_92533)], fz []]) (fun (b7o1_92887 : Nat) => True) (listedA 11 [7, 6, 5, 4, 2, 1]) ?_ (fun K7_92887 => ?_)
              · skip
                rintro b7o1_92887 _
                refine WD.new (i := 0) (dd := 40) rfl (by kernel_rfl) rfl rfl rfl (e_buildSlice (cs := ([] : List Int).flatMap e3) elT_22 (Eos.parts (l := []) .nil []) (fun _ => by kernel_rfl) rfl (by unfold maxLen; omega)) (fun h' => absurd h' (by decide)) ?_
                intro b0o1_92887 _
                exact WD.reL (.cons (.there .here) (.cons .here (.cons .here (.cons .here .nil)))) (.cons rfl (.cons rfl (.cons rfl (.cons rfl .nil)))) (K0o7_92887 b0o1_92887 b7o1_92887 trivial)
              refine WD.choose [0, 7] (by kernel_rfl) rfl ?_
              refine WDo.cons ?_ (WDo.cons ?_ (WDo.nil))
              · refine WDo.new (i := 0) (dd := 40) rfl rfl rfl rfl (e_buildSlice (cs := ([] : List Int).flatMap e3) elT_22 (Eos.parts (l := []) .nil []) (fun _ => by kernel_rfl) rfl (by unfold maxLen; omega)) (fun h' => absurd h' (by decide)) ?_
                intro b0o1_92887 _
                exact WD.reL (.cons .here (.cons .here (.cons .here .nil))) (.cons rfl (.cons rfl (.cons rfl (.cons rfl .nil)))) (K0_92887 b0o1_92887 trivial)
              · refine WDo.new (i := 7) (dd := 47) rfl rfl rfl rfl (e_buildSlice (cs := ([((s_92519.fStart.length : Nat) : Int)] : List Int).flatMap e3) elT_22 (Eos.parts (l := [.tmp 46]) (.cons rfl .nil) [0]) (fun _ => by kernel_rfl) rfl (by unfold maxLen; omega)) (fun h' => absurd h' (by decide)) ?_
                intro b7o1_92887 _
                exact WD.reL (.cons .here (.cons .here (.cons .here .nil))) (.cons rfl (.cons rfl (.cons rfl .nil))) (K7_92887 b7o1_92887 trivial)
            · replace h := ite_f h hb_92877
              refine WC.seq ?_
              refine WC.region ?_
              refine WL.quiet (d := 58) rfl rfl rfl (q_eql rfl rfl) ?_
              refine WL.quiet (d := 57) rfl rfl rfl (q_assign rfl) ?_
              refine WL.nil ?_
              refine WX.then ?_
              refine WC.cond rfl (fun hb_92891 => ?_) (fun hb_92891 => ?_)
              · replace h := ite_t h hb_92891
                refine WC.region ?_
                refine WL.quiet (d := 59) rfl rfl rfl (q_fieldAddr fo_24_4 rfl rfl) ?_
                refine WL.eff0 rfl rfl (e_store (vs := [(.int .i64 (-1))]) (ds := [(.slice ao_92520 s_92519.fStart.length cap_92521), (.slice ao_92523 s_92519.fDrift.length cap_92524), (.slice ao_92526 s_92519.fFaulty.length cap_92527), (.int .i64 s_92519.fF), (.int .i64 (-1)), (.slice ao_92529 s_92519.fErrs.length cap_92530), (.slice ao_92532 s_92519.fLies.length cap_92533)]) sizT_3 rfl rfl rfl rfl (oc_cons rfl oc_nil) .here (Nat.le_of_ble_eq_true rfl) rfl) ?_
                refine WL.nil ?_
                refine WX.blockNormal ?_
                exact WX.mid (G := List Int × List Int × List Int × Int × Int × List Int × List Int × Zp × Option Addr × Nat × Option Addr × Nat × Option Addr × Nat × Option Addr × Nat × Option Addr × Nat) ⟨s_92519.fStart, s_92519.fDrift, s_92519.fFaulty, s_92519.fF, (-1), s_92519.fErrs, s_92519.fLies, [], ao_92520, cap_92521, ao_92523, cap_92524, ao_92526, cap_92527, ao_92529, cap_92530, ao_92532, cap_92533⟩ ⟨h, (Zle.refl _), (hs_92522.mono (Zle.left _ _)), (hs_92525.mono (Zle.left _ _)), (hs_92528.mono (Zle.left _ _)), (hs_92531.mono (Zle.left _ _)), (hs_92534.mono (Zle.left _ _))⟩ (.cons rfl .nil) (.cons (.there .here) (.cons .here .nil))
              · replace h := ite_f h hb_92891
                refine WC.seq ?_
                refine WC.region ?_
                refine WL.quiet (d := 61) rfl rfl rfl (q_eql rfl rfl) ?_
                refine WL.quiet (d := 60) rfl rfl rfl (q_assign rfl) ?_
                refine WL.nil ?_
                refine WX.then ?_
                refine WC.cond rfl (fun hb_92892 => ?_) (fun hb_92892 => ?_)
                · replace h := ite_t h hb_92892
                  obtain ⟨c_92894, h⟩ := chk_elim h
                  refine WC.region ?_
                  refine WL.quiet (d := 62) rfl rfl rfl (q_fieldAddr fo_24_4 rfl rfl) ?_
                  refine WL.quiet (d := 63) rfl rfl rfl (q_load1 oneT_3 rfl (rd_stb .here rfl)) ?_
                  refine WL.quiet (d := 64) rfl rfl rfl (q_add rfl rfl rfl) ?_
                  refine WL.new (dd := 65) rfl rfl rfl (e_buildSlice (cs := ([i64 (s_92519.fE + 1)] : List Int).flatMap e3) elT_22 (Eos.parts (l := [.tmp 64]) (.cons rfl .nil) [0]) (fun _ => by kernel_rfl) rfl (by unfold maxLen; omega)) ?_
                  intro b_92897 _
                  refine WL.quiet (d := 66) rfl rfl rfl (q_fieldAddr fo_24_5 rfl rfl) ?_
                  refine WL.quiet (d := 67) rfl rfl rfl (q_load1 oneT_22 rfl (rd_stb (.there .here) rfl)) ?_
                  refine WL.eff (d := 68) rfl rfl rfl (e_appendF (enc := e3) (l1 := ([i64 (s_92519.fE + 1)] : List Int)) (l2 := s_92519.fErrs) elT_22 rfl rfl .here (fun _ => rfl) rfl rfl (news_z (hz.pv2 (.there (.there .here))) (hs_92531.mono (Zle.left _ _))) (oc_flat e3_oc _) c_92894) ?_
                  rintro ⟨ao_92898, cap_92899⟩ _
                  refine WL.quiet (d := 69) rfl rfl rfl (q_fieldAddr fo_24_5 rfl rfl) ?_
                  refine WL.eff0 rfl rfl (e_store (vs := [(.slice ao_92898 ((([i64 (s_92519.fE + 1)] : List Int) ++ s_92519.fErrs).length) cap_92899)]) (ds := [(.slice ao_92520 s_92519.fStart.length cap_92521), (.slice ao_92523 s_92519.fDrift.length cap_92524), (.slice ao_92526 s_92519.fFaulty.length cap_92527), (.int .i64 s_92519.fF), (.int .i64 s_92519.fE), (.slice ao_92898 ((([i64 (s_92519.fE + 1)] : List Int) ++ s_92519.fErrs).length) cap_92899), (.slice ao_92532 s_92519.fLies.length cap_92533)]) sizT_22 rfl rfl rfl rfl (oc_cons rfl oc_nil) (.there .here) (Nat.le_of_ble_eq_true rfl) rfl) ?_
                  refine WL.nil ?_
                  refine WX.blockNormal ?_
                  refine WX.freezeS (.there .here) (.there .here) hz (RR.flat (enc := e3) (fun _ => rfl) _) ?_
                  intro Zn_92900 hle_92901 hf_92902
                  exact WX.mid (G := List Int × List Int × List Int × Int × Int × List Int × List Int × Zp × Option Addr × Nat × Option Addr × Nat × Option Addr × Nat × Option Addr × Nat × Option Addr × Nat) ⟨s_92519.fStart, s_92519.fDrift, s_92519.fFaulty, s_92519.fF, s_92519.fE, (([i64 (s_92519.fE + 1)] : List Int) ++ s_92519.fErrs), s_92519.fLies, Zn_92900, ao_92520, cap_92521, ao_92523, cap_92524, ao_92526, cap_92527, ao_92898, cap_92899, ao_92532, cap_92533⟩ ⟨h, hle_92901, (hs_92522.mono ((Zle.left _ _).trans hle_92901)), (hs_92525.mono ((Zle.left _ _).trans hle_92901)), (hs_92528.mono ((Zle.left _ _).trans hle_92901)), hf_92902, (hs_92534.mono ((Zle.left _ _).trans hle_92901))⟩ (.cons rfl .nil) (.cons .here (.cons .here .nil))
                · replace h := ite_f h hb_92892
                  refine WC.seq ?_
                  refine WC.region ?_
                  refine WL.quiet (d := 71) rfl rfl rfl (q_eql rfl rfl) ?_
                  refine WL.quiet (d := 70) rfl rfl rfl (q_assign rfl) ?_
                  refine WL.nil ?_
                  refine WX.then ?_
                  refine WC.cond rfl (fun hb_92903 => ?_) (fun hb_92903 => ?_)
                  · replace h := ite_t h hb_92903
                    obtain ⟨c_92904, h⟩ := chk_elim h
                    refine WC.region ?_
                    refine WL.new (dd := 72) rfl rfl rfl (e_makeSlice (r := [(.int .i64 0)]) (z0 := (0 : Int)) elT_22 zeroT_3 rfl rfl rfl rfl c_92904) ?_
                    intro b_92906 _
                    refine WL.rowEqD .here (cs' := (List.replicate (1001 : Int).toNat (0 : Int)).flatMap e3) (rep_flat (enc := e3) (0 : Int) _) ?_
                    refine WL.quiet (d := 73) rfl rfl rfl (q_fieldAddr fo_24_6 rfl rfl) ?_
                    refine WL.eff0 rfl rfl (e_store (vs := [(.slice (some ⟨b_92906, 0, none⟩) ((List.replicate (1001 : Int).toNat (0 : Int)).length) ((1001 : Int).toNat))]) (ds := [(.slice ao_92520 s_92519.fStart.length cap_92521), (.slice ao_92523 s_92519.fDrift.length cap_92524), (.slice ao_92526 s_92519.fFaulty.length cap_92527), (.int .i64 s_92519.fF), (.int .i64 s_92519.fE), (.slice ao_92529 s_92519.fErrs.length cap_92530), (.slice (some ⟨b_92906, 0, none⟩) ((List.replicate (1001 : Int).toNat (0 : Int)).length) ((1001 : Int).toNat))]) sizT_22 rfl rfl rfl rfl (oc_cons rfl oc_nil) (.there .here) (Nat.le_of_ble_eq_true rfl) rfl) ?_
                    refine WL.nil ?_
                    refine WX.blockNormal ?_
                    refine WX.freezeS (.there .here) (.there .here) hz (RR.flat (enc := e3) (fun _ => rfl) _) ?_
                    intro Zn_92907 hle_92908 hf_92909
                    exact WX.mid (G := List Int × List Int × List Int × Int × Int × List Int × List Int × Zp × Option Addr × Nat × Option Addr × Nat × Option Addr × Nat × Option Addr × Nat × Option Addr × Nat) ⟨s_92519.fStart, s_92519.fDrift, s_92519.fFaulty, s_92519.fF, s_92519.fE, s_92519.fErrs, (List.replicate (1001 : Int).toNat (0 : Int)), Zn_92907, ao_92520, cap_92521, ao_92523, cap_92524, ao_92526, cap_92527, ao_92529, cap_92530, (some ⟨b_92906, 0, none⟩), ((1001 : Int).toNat)⟩ ⟨h, hle_92908, (hs_92522.mono ((Zle.left _ _).trans hle_92908)), (hs_92525.mono ((Zle.left _ _).trans hle_92908)), (hs_92528.mono ((Zle.left _ _).trans hle_92908)), (hs_92531.mono ((Zle.left _ _).trans hle_92908)), hf_92909⟩ (.cons rfl .nil) (.cons .here (.cons .here .nil))
                  · replace h := ite_f h hb_92903
                    refine WC.seq ?_
                    refine WC.region ?_
                    refine WL.quiet (d := 75) rfl rfl rfl (q_eql rfl rfl) ?_
                    refine WL.quiet (d := 74) rfl rfl rfl (q_assign rfl) ?_
                    refine WL.nil ?_
                    refine WX.then ?_
                    refine WC.cond rfl (fun hb_92910 => ?_) (fun hb_92910 => ?_)
                    · replace h := ite_t h hb_92910
                      refine WC.seq ?_
                      obtain ⟨c_92912, h⟩ := chk_elim h
                      refine WC.region ?_
                      refine WL.new (dd := 76) rfl rfl rfl (e_buildSlice (cs := ([] : List Int).flatMap e3) elT_22 (Eos.parts (l := []) .nil []) (fun _ => by kernel_rfl) rfl (by unfold maxLen; omega)) ?_
                      intro b_92915 _
                      refine WL.quiet (d := 77) rfl rfl rfl (q_fieldAddr fo_24_0 rfl rfl) ?_
                      refine WL.quiet (d := 78) rfl rfl rfl (q_load1 oneT_22 rfl (rd_stb (.there .here) rfl)) ?_
                      refine WL.eff (d := 79) rfl rfl rfl (e_appendF (enc := e3) (l1 := ([] : List Int)) (l2 := s_92519.fStart) elT_22 rfl rfl .here (fun _ => rfl) rfl rfl (news_z (hz.pv2 (.there (.there .here))) (hs_92522.mono (Zle.left _ _))) (oc_flat e3_oc _) c_92912) ?_
                      rintro ⟨ao_92916, cap_92917⟩ _
                      refine WL.quiet (d := 80) rfl rfl rfl (q_fieldAddr fo_24_0 rfl rfl) ?_
                      refine WL.eff0 rfl rfl (e_store (vs := [(.slice ao_92916 ((([] : List Int) ++ s_92519.fStart).length) cap_92917)]) (ds := [(.slice ao_92916 ((([] : List Int) ++ s_92519.fStart).length) cap_92917), (.slice ao_92523 s_92519.fDrift.length cap_92524), (.slice ao_92526 s_92519.fFaulty.length cap_92527), (.int .i64 s_92519.fF), (.int .i64 s_92519.fE), (.slice ao_92529 s_92519.fErrs.length cap_92530), (.slice ao_92532 s_92519.fLies.length cap_92533)]) sizT_22 rfl rfl rfl rfl (oc_cons rfl oc_nil) (.there .here) (Nat.le_of_ble_eq_true rfl) rfl) ?_
                      refine WL.nil ?_
                      refine WX.then ?_
                      obtain ⟨c_92918, h⟩ := chk_elim h
                      refine WC.region ?_
                      refine WL.quiet (d := 81) rfl rfl rfl (q_fieldAddr fo_24_0 rfl rfl) ?_
                      refine WL.quiet (d := 82) rfl rfl rfl (q_load1 oneT_22 rfl (rd_stb .here rfl)) ?_
                      refine WL.know (fun w hw => Hp.expose (.there .here) hw (by intro hz'; have := c_92918; rw [hz'] at this; omega)) ?_
                      rintro ⟨b_92920, rfl⟩
                      refine WL.quiet (d := 83) rfl rfl rfl (q_indexAddr elT_22 rfl rfl c_92918.1 c_92918.2 rowAdd) ?_
                      refine WL.eff0 rfl rfl (e_rowStore (vs := [(.int .i64 1048577)]) (ds := ((([] : List Int) ++ s_92519.fStart).set (0 : Int).toNat 1048577).flatMap e3) sizT_3 rfl rfl rfl rfl (oc_cons rfl oc_nil) (.there .here) (flat_fit (enc := e3) (sz := 1) (k := 0) (fun _ => rfl) c_92918.1 c_92918.2 (by decide)) (flat_put (enc := e3) (l := ([] : List Int) ++ s_92519.fStart) (sz := 1) (vs := [(.int .i64 1048577)]) (y := 1048577) (k := 0) (fun _ => rfl) c_92918.1 c_92918.2 rfl (Nat.le_of_ble_eq_true rfl))) ?_
                      refine WL.relen .here (u := (.slice (some ⟨b_92920, 0, none⟩) (((([] : List Int) ++ s_92519.fStart).set (0 : Int).toNat 1048577).length) cap_92917)) (slen (List.length_set).symm) ?_
                      refine WL.restb (cs' := [(.slice (some ⟨b_92920, 0, none⟩) (((([] : List Int) ++ s_92519.fStart).set (0 : Int).toNat 1048577).length) cap_92917), (.slice ao_92523 s_92519.fDrift.length cap_92524), (.slice ao_92526 s_92519.fFaulty.length cap_92527), (.int .i64 s_92519.fF), (.int .i64 s_92519.fE), (.slice ao_92529 s_92519.fErrs.length cap_92530), (.slice ao_92532 s_92519.fLies.length cap_92533)]) (.there .here) (by rw [List.length_set]) ?_
                      refine WL.nil ?_
                      refine WX.blockNormal ?_
                      refine WX.freezeS (.there .here) (.there .here) hz (RR.flat (enc := e3) (fun _ => rfl) _) ?_
                      intro Zn_92921 hle_92922 hf_92923
                      exact WX.mid (G := List Int × List Int × List Int × Int × Int × List Int × List Int × Zp × Option Addr × Nat × Option Addr × Nat × Option Addr × Nat × Option Addr × Nat × Option Addr × Nat) ⟨((([] : List Int) ++ s_92519.fStart).set (0 : Int).toNat 1048577), s_92519.fDrift, s_92519.fFaulty, s_92519.fF, s_92519.fE, s_92519.fErrs, s_92519.fLies, Zn_92921, (some ⟨b_92920, 0, none⟩), cap_92917, ao_92523, cap_92524, ao_92526, cap_92527, ao_92529, cap_92530, ao_92532, cap_92533⟩ ⟨h, hle_92922, hf_92923, (hs_92525.mono ((Zle.left _ _).trans hle_92922)), (hs_92528.mono ((Zle.left _ _).trans hle_92922)), (hs_92531.mono ((Zle.left _ _).trans hle_92922)), (hs_92534.mono ((Zle.left _ _).trans hle_92922))⟩ (.cons rfl .nil) (.cons .here (.cons .here .nil))
                    · replace h := ite_f h hb_92910
                      refine WC.seq ?_
                      refine WC.region ?_
                      refine WL.quiet (d := 85) rfl rfl rfl (q_eql rfl rfl) ?_
                      refine WL.quiet (d := 84) rfl rfl rfl (q_assign rfl) ?_
                      refine WL.nil ?_
                      refine WX.then ?_
                      refine WC.cond rfl (fun hb_92924 => ?_) (fun hb_92924 => ?_)
                      · replace h := ite_t h hb_92924
                        refine WC.region ?_
                        refine WL.quiet (d := 86) rfl rfl rfl (q_fieldAddr fo_24_0 rfl rfl) ?_
                        refine WL.eff0 rfl rfl (e_store (vs := [(.slice none 0 0)]) (ds := [(.slice none 0 0), (.slice ao_92523 s_92519.fDrift.length cap_92524), (.slice ao_92526 s_92519.fFaulty.length cap_92527), (.int .i64 s_92519.fF), (.int .i64 s_92519.fE), (.slice ao_92529 s_92519.fErrs.length cap_92530), (.slice ao_92532 s_92519.fLies.length cap_92533)]) sizT_22 rfl rfl rfl rfl (oc_cons rfl oc_nil) .here (Nat.le_of_ble_eq_true rfl) rfl) ?_
                        refine WL.quiet (d := 87) rfl rfl rfl (q_fieldAddr fo_24_1 rfl rfl) ?_
                        refine WL.eff0 rfl rfl (e_store (vs := [(.slice none 0 0)]) (ds := [(.slice none 0 0), (.slice none 0 0), (.slice ao_92526 s_92519.fFaulty.length cap_92527), (.int .i64 s_92519.fF), (.int .i64 s_92519.fE), (.slice ao_92529 s_92519.fErrs.length cap_92530), (.slice ao_92532 s_92519.fLies.length cap_92533)]) sizT_22 rfl rfl rfl rfl (oc_cons rfl oc_nil) .here (Nat.le_of_ble_eq_true rfl) rfl) ?_
                        refine WL.quiet (d := 88) rfl rfl rfl (q_fieldAddr fo_24_2 rfl rfl) ?_
                        refine WL.eff0 rfl rfl (e_store (vs := [(.slice none 0 0)]) (ds := [(.slice none 0 0), (.slice none 0 0), (.slice none 0 0), (.int .i64 s_92519.fF), (.int .i64 s_92519.fE), (.slice ao_92529 s_92519.fErrs.length cap_92530), (.slice ao_92532 s_92519.fLies.length cap_92533)]) sizT_22 rfl rfl rfl rfl (oc_cons rfl oc_nil) .here (Nat.le_of_ble_eq_true rfl) rfl) ?_
                        refine WL.quiet (d := 89) rfl rfl rfl (q_fieldAddr fo_24_3 rfl rfl) ?_
                        refine WL.eff0 rfl rfl (e_store (vs := [(.int .i64 0)]) (ds := [(.slice none 0 0), (.slice none 0 0), (.slice none 0 0), (.int .i64 0), (.int .i64 s_92519.fE), (.slice ao_92529 s_92519.fErrs.length cap_92530), (.slice ao_92532 s_92519.fLies.length cap_92533)]) sizT_3 rfl rfl rfl rfl (oc_cons rfl oc_nil) .here (Nat.le_of_ble_eq_true rfl) rfl) ?_
                        refine WL.nil ?_
                        refine WX.blockNormal ?_
                        exact WX.mid (G := List Int × List Int × List Int × Int × Int × List Int × List Int × Zp × Option Addr × Nat × Option Addr × Nat × Option Addr × Nat × Option Addr × Nat × Option Addr × Nat) ⟨[], [], [], 0, s_92519.fE, s_92519.fErrs, s_92519.fLies, [], none, 0, none, 0, none, 0, ao_92529, cap_92530, ao_92532, cap_92533⟩ ⟨h, (Zle.refl _), (ZS.nil _ _ _), (ZS.nil _ _ _), (ZS.nil _ _ _), (hs_92531.mono (Zle.left _ _)), (hs_92534.mono (Zle.left _ _))⟩ (.cons rfl .nil) (.cons (.there .here) (.cons .here .nil))
                      · replace h := ite_f h hb_92924
                        refine WC.skip ?_
                        refine WX.blockNormal ?_
                        exact WX.mid (G := List Int × List Int × List Int × Int × Int × List Int × List Int × Zp × Option Addr × Nat × Option Addr × Nat × Option Addr × Nat × Option Addr × Nat × Option Addr × Nat) ⟨s_92519.fStart, s_92519.fDrift, s_92519.fFaulty, s_92519.fF, s_92519.fE, s_92519.fErrs, s_92519.fLies, [], ao_92520, cap_92521, ao_92523, cap_92524, ao_92526, cap_92527, ao_92529, cap_92530, ao_92532, cap_92533⟩ ⟨h, (Zle.refl _), (hs_92522.mono (Zle.left _ _)), (hs_92525.mono (Zle.left _ _)), (hs_92528.mono (Zle.left _ _)), (hs_92531.mono (Zle.left _ _)), (hs_92534.mono (Zle.left _ _))⟩ (.cons rfl .nil) (.cons (.there .here) (.cons .here .nil))
      · rintro c_92844 c_92848 c_92852 c_92856 c_92857 c_92858 c_92862 Zn_92842 ao_92845 cap_92846 ao_92849 cap_92850 ao_92853 cap_92854 ao_92859 cap_92860 ao_92863 cap_92864 ⟨h, hle_92843, hs_92847, hs_92851, hs_92855, hs_92861, hs_92865⟩
        replace h := (hk_92867 c_92844 c_92848 c_92852 c_92856 c_92857 c_92858 c_92862).symm.trans h
        refine WC.seq ?_
        obtain ⟨x_92925, hx_92926, h⟩ := bind_elim h
        refine WC.region ?_
        refine WL.quiet (d := 91) rfl rfl rfl (q_loadA (cs := [(.slice ao_92845 c_92844.length cap_92846), (.slice ao_92849 c_92848.length cap_92850), (.slice ao_92853 c_92852.length cap_92854), (.int .i64 c_92856), (.int .i64 c_92857), (.slice ao_92859 c_92858.length cap_92860), (.slice ao_92863 c_92862.length cap_92864)]) aggT_24 rfl rfl (rd_all (.there .here))) ?_
        refine WL.enter4 (dd := 92) rfl rfl rfl (run_call (l := [.tmp 91, .const (.int .i64 1)]) Try.call16 (.cons rfl (.cons rfl .nil))) (.nil : Sel [fz Zn_92842, stb b_92762 24 [(.slice ao_92845 c_92844.length cap_92846), (.slice ao_92849 c_92848.length cap_92850), (.slice ao_92853 c_92852.length cap_92854), (.int .i64 c_92856), (.int .i64 c_92857), (.slice ao_92859 c_92858.length cap_92860), (.slice ao_92863 c_92862.length cap_92864)]] [] [fz Zn_92842, stb b_92762 24 [(.slice ao_92845 c_92844.length cap_92846), (.slice ao_92849 c_92848.length cap_92850), (.slice ao_92853 c_92852.length cap_92854), (.int .i64 c_92856), (.int .i64 c_92857), (.slice ao_92859 c_92858.length cap_92860), (.slice ao_92863 c_92862.length cap_92864)]]) (fun w hw => by have pz := (hz.call2 hw (.nil : Sel [fz Zn_92842, stb b_92762 24 [(.slice ao_92845 c_92844.length cap_92846), (.slice ao_92849 c_92848.length cap_92850), (.slice ao_92853 c_92852.length cap_92854), (.int .i64 c_92856), (.int .i64 c_92857), (.slice ao_92859 c_92858.length cap_92860), (.slice ao_92863 c_92862.length cap_92864)]] [] [fz Zn_92842, stb b_92762 24 [(.slice ao_92845 c_92844.length cap_92846), (.slice ao_92849 c_92848.length cap_92850), (.slice ao_92853 c_92852.length cap_92854), (.int .i64 c_92856), (.int .i64 c_92857), (.slice ao_92859 c_92858.length cap_92860), (.slice ao_92863 c_92862.length cap_92864)]]) .here); exact w_timebase_Run (Z := _) (ao_13211 := ao_92845) (cap_13212 := cap_92846) (ao_13214 := ao_92849) (cap_13215 := cap_92850) (ao_13217 := ao_92853) (cap_13218 := cap_92854) (ao_13220 := ao_92859) (cap_13221 := cap_92860) (ao_13223 := ao_92863) (cap_13224 := cap_92864) (s_13210 := (⟨c_92844, c_92848, c_92852, c_92856, c_92857, c_92858, c_92862⟩ : Stimebase_Setup)) (rounds_13226 := 1) (r := x_92925) w pz hs_92847 hs_92851 hs_92855 hs_92861 hs_92865 hx_92926) ?_
        rintro Zn_92934 ao_92935 cap_92936 cs_92937 hf_92938
        refine WL.merge .here (.there .here) ?_
        refine WL.quiet (d := 90) rfl rfl rfl (q_move rfl) ?_
        refine WL.quiet (d := 93) rfl rfl rfl (q_extract rfl rfl) ?_
        refine WL.quiet (d := 94) rfl rfl rfl (q_extract rfl rfl) ?_
        refine WL.quiet (d := 5) rfl rfl rfl (q_assign rfl) ?_
        refine WL.quiet (d := 6) rfl rfl rfl (q_assign rfl) ?_
        refine WL.nil ?_
        refine WX.then ?_
        refine WC.seq ?_
        obtain ⟨x_92941, hx_92942, h⟩ := bind_elim h
        refine WC.region ?_
        refine WL.quiet (d := 96) rfl rfl rfl (q_loadA (cs := [(.slice ao_92845 c_92844.length cap_92846), (.slice ao_92849 c_92848.length cap_92850), (.slice ao_92853 c_92852.length cap_92854), (.int .i64 c_92856), (.int .i64 c_92857), (.slice ao_92859 c_92858.length cap_92860), (.slice ao_92863 c_92862.length cap_92864)]) aggT_24 rfl rfl (rd_all (.there (.there .here)))) ?_
        refine WL.quiet (d := 97) rfl rfl rfl (q_fieldAddr fo_24_0 rfl rfl) ?_
        refine WL.quiet (d := 98) rfl rfl rfl (q_load1 oneT_22 rfl (rd_stb (.there (.there .here)) rfl)) ?_
        refine WL.enter3 (dd := 99) rfl rfl rfl (run_call (l := [.tmp 96, .tmp 98, .const (.int .i64 0)]) Try.call15 (.cons rfl (.cons rfl (.cons rfl .nil)))) (.nil : Sel [fz (Zn_92842 ++ Zn_92934), row (.slice ao_92935 x_92925.1.length cap_92936) 22 1 cs_92937, stb b_92762 24 [(.slice ao_92845 c_92844.length cap_92846), (.slice ao_92849 c_92848.length cap_92850), (.slice ao_92853 c_92852.length cap_92854), (.int .i64 c_92856), (.int .i64 c_92857), (.slice ao_92859 c_92858.length cap_92860), (.slice ao_92863 c_92862.length cap_92864)]] [] [fz (Zn_92842 ++ Zn_92934), row (.slice ao_92935 x_92925.1.length cap_92936) 22 1 cs_92937, stb b_92762 24 [(.slice ao_92845 c_92844.length cap_92846), (.slice ao_92849 c_92848.length cap_92850), (.slice ao_92853 c_92852.length cap_92854), (.int .i64 c_92856), (.int .i64 c_92857), (.slice ao_92859 c_92858.length cap_92860), (.slice ao_92863 c_92862.length cap_92864)]]) (fun w hw => by have pz := (hz.call2 hw (.nil : Sel [fz (Zn_92842 ++ Zn_92934), row (.slice ao_92935 x_92925.1.length cap_92936) 22 1 cs_92937, stb b_92762 24 [(.slice ao_92845 c_92844.length cap_92846), (.slice ao_92849 c_92848.length cap_92850), (.slice ao_92853 c_92852.length cap_92854), (.int .i64 c_92856), (.int .i64 c_92857), (.slice ao_92859 c_92858.length cap_92860), (.slice ao_92863 c_92862.length cap_92864)]] [] [fz (Zn_92842 ++ Zn_92934), row (.slice ao_92935 x_92925.1.length cap_92936) 22 1 cs_92937, stb b_92762 24 [(.slice ao_92845 c_92844.length cap_92846), (.slice ao_92849 c_92848.length cap_92850), (.slice ao_92853 c_92852.length cap_92854), (.int .i64 c_92856), (.int .i64 c_92857), (.slice ao_92859 c_92858.length cap_92860), (.slice ao_92863 c_92862.length cap_92864)]]) .here); exact w_timebase_Reads (Z := _) (ao_79 := ao_92845) (cap_80 := cap_92846) (ao_82 := ao_92849) (cap_83 := cap_92850) (ao_85 := ao_92853) (cap_86 := cap_92854) (ao_88 := ao_92859) (cap_89 := cap_92860) (ao_91 := ao_92863) (cap_92 := cap_92864) (ao_95 := ao_92845) (cap_96 := cap_92846) (s_78 := (⟨c_92844, c_92848, c_92852, c_92856, c_92857, c_92858, c_92862⟩ : Stimebase_Setup)) (clocks_94 := c_92844) (round_98 := 0) (r := x_92941) w pz (hs_92847.mono ((Zle.left _ _).trans (Zle.assoc _ _ _))) (hs_92851.mono ((Zle.left _ _).trans (Zle.assoc _ _ _))) (hs_92855.mono ((Zle.left _ _).trans (Zle.assoc _ _ _))) (hs_92861.mono ((Zle.left _ _).trans (Zle.assoc _ _ _))) (hs_92865.mono ((Zle.left _ _).trans (Zle.assoc _ _ _))) (hs_92847.mono ((Zle.left _ _).trans (Zle.assoc _ _ _))) hx_92942) ?_
        rintro ao_92948 cap_92949 m_92950 hf_92951
        refine WL.quiet (d := 95) rfl rfl rfl (q_move rfl) ?_
        refine WL.quiet (d := 100) rfl rfl rfl (q_extract rfl rfl) ?_
        refine WL.quiet (d := 101) rfl rfl rfl (q_extract rfl rfl) ?_
        refine WL.quiet (d := 7) rfl rfl rfl (q_assign rfl) ?_
        refine WL.quiet (d := 8) rfl rfl rfl (q_assign rfl) ?_
        refine WL.nil ?_
        refine WX.then ?_
        refine WC.seq ?_
        obtain ⟨x_92953, hx_92954, h⟩ := bind_elim h
        refine WC.region ?_
        refine WL.quiet (d := 103) rfl rfl rfl (q_loadA (cs := [(.slice ao_92845 c_92844.length cap_92846), (.slice ao_92849 c_92848.length cap_92850), (.slice ao_92853 c_92852.length cap_92854), (.int .i64 c_92856), (.int .i64 c_92857), (.slice ao_92859 c_92858.length cap_92860), (.slice ao_92863 c_92862.length cap_92864)]) aggT_24 rfl rfl (rd_all (.there (.there (.there (.there .here)))))) ?_
        refine WL.quiet (d := 104) rfl rfl rfl (q_fieldAddr fo_24_0 rfl rfl) ?_
        refine WL.quiet (d := 105) rfl rfl rfl (q_load1 oneT_22 rfl (rd_stb (.there (.there (.there (.there .here)))) rfl)) ?_
        refine WL.callD (dd := 106) rfl rfl rfl (run_call (l := [.tmp 103, .tmp 105]) Try.call17 (.cons rfl (.cons rfl .nil))) (.nil : Sel [mat 3 1 e3 m_92950, row (.slice ao_92948 x_92941.1.length cap_92949) 22 1 (m_92950.flatMap em), fz (Zn_92842 ++ Zn_92934), row (.slice ao_92935 x_92925.1.length cap_92936) 22 1 cs_92937, stb b_92762 24 [(.slice ao_92845 c_92844.length cap_92846), (.slice ao_92849 c_92848.length cap_92850), (.slice ao_92853 c_92852.length cap_92854), (.int .i64 c_92856), (.int .i64 c_92857), (.slice ao_92859 c_92858.length cap_92860), (.slice ao_92863 c_92862.length cap_92864)]] [] [mat 3 1 e3 m_92950, row (.slice ao_92948 x_92941.1.length cap_92949) 22 1 (m_92950.flatMap em), fz (Zn_92842 ++ Zn_92934), row (.slice ao_92935 x_92925.1.length cap_92936) 22 1 cs_92937, stb b_92762 24 [(.slice ao_92845 c_92844.length cap_92846), (.slice ao_92849 c_92848.length cap_92850), (.slice ao_92853 c_92852.length cap_92854), (.int .i64 c_92856), (.int .i64 c_92857), (.slice ao_92859 c_92858.length cap_92860), (.slice ao_92863 c_92862.length cap_92864)]]) (fun w hw => by have pz := (hz.call2 hw (.nil : Sel [mat 3 1 e3 m_92950, row (.slice ao_92948 x_92941.1.length cap_92949) 22 1 (m_92950.flatMap em), fz (Zn_92842 ++ Zn_92934), row (.slice ao_92935 x_92925.1.length cap_92936) 22 1 cs_92937, stb b_92762 24 [(.slice ao_92845 c_92844.length cap_92846), (.slice ao_92849 c_92848.length cap_92850), (.slice ao_92853 c_92852.length cap_92854), (.int .i64 c_92856), (.int .i64 c_92857), (.slice ao_92859 c_92858.length cap_92860), (.slice ao_92863 c_92862.length cap_92864)]] [] [mat 3 1 e3 m_92950, row (.slice ao_92948 x_92941.1.length cap_92949) 22 1 (m_92950.flatMap em), fz (Zn_92842 ++ Zn_92934), row (.slice ao_92935 x_92925.1.length cap_92936) 22 1 cs_92937, stb b_92762 24 [(.slice ao_92845 c_92844.length cap_92846), (.slice ao_92849 c_92848.length cap_92850), (.slice ao_92853 c_92852.length cap_92854), (.int .i64 c_92856), (.int .i64 c_92857), (.slice ao_92859 c_92858.length cap_92860), (.slice ao_92863 c_92862.length cap_92864)]]) (.there (.there .here))); exact w_timebase_Skew (Z := _) (ao_13931 := ao_92845) (cap_13932 := cap_92846) (ao_13934 := ao_92849) (cap_13935 := cap_92850) (ao_13937 := ao_92853) (cap_13938 := cap_92854) (ao_13940 := ao_92859) (cap_13941 := cap_92860) (ao_13943 := ao_92863) (cap_13944 := cap_92864) (ao_13947 := ao_92845) (cap_13948 := cap_92846) (s_13930 := (⟨c_92844, c_92848, c_92852, c_92856, c_92857, c_92858, c_92862⟩ : Stimebase_Setup)) (clocks_13946 := c_92844) (r := x_92953) w pz (hs_92847.mono ((Zle.left _ _).trans (Zle.assoc _ _ _))) (hs_92851.mono ((Zle.left _ _).trans (Zle.assoc _ _ _))) (hs_92855.mono ((Zle.left _ _).trans (Zle.assoc _ _ _))) (hs_92861.mono ((Zle.left _ _).trans (Zle.assoc _ _ _))) (hs_92865.mono ((Zle.left _ _).trans (Zle.assoc _ _ _))) (hs_92847.mono ((Zle.left _ _).trans (Zle.assoc _ _ _))) hx_92954) ?_
        refine WL.quiet (d := 102) rfl rfl rfl (q_move rfl) ?_
        refine WL.quiet (d := 107) rfl rfl rfl (q_extract rfl rfl) ?_
        refine WL.quiet (d := 108) rfl rfl rfl (q_extract rfl rfl) ?_
        refine WL.quiet (d := 9) rfl rfl rfl (q_assign rfl) ?_
        refine WL.quiet (d := 10) rfl rfl rfl (q_assign rfl) ?_
        refine WL.nil ?_
        refine WX.then ?_
        refine WC.seq ?_
        obtain ⟨x_92955, hx_92956, h⟩ := bind_elim h
        refine WC.region ?_
        refine WL.quiet (d := 110) rfl rfl rfl (q_loadA (cs := [(.slice ao_92845 c_92844.length cap_92846), (.slice ao_92849 c_92848.length cap_92850), (.slice ao_92853 c_92852.length cap_92854), (.int .i64 c_92856), (.int .i64 c_92857), (.slice ao_92859 c_92858.length cap_92860), (.slice ao_92863 c_92862.length cap_92864)]) aggT_24 rfl rfl (rd_all (.there (.there (.there (.there .here)))))) ?_
        refine WL.callD (dd := 111) rfl rfl rfl (run_call (l := [.tmp 110]) Try.call18 (.cons rfl .nil)) (.nil : Sel [mat 3 1 e3 m_92950, row (.slice ao_92948 x_92941.1.length cap_92949) 22 1 (m_92950.flatMap em), fz (Zn_92842 ++ Zn_92934), row (.slice ao_92935 x_92925.1.length cap_92936) 22 1 cs_92937, stb b_92762 24 [(.slice ao_92845 c_92844.length cap_92846), (.slice ao_92849 c_92848.length cap_92850), (.slice ao_92853 c_92852.length cap_92854), (.int .i64 c_92856), (.int .i64 c_92857), (.slice ao_92859 c_92858.length cap_92860), (.slice ao_92863 c_92862.length cap_92864)]] [] [mat 3 1 e3 m_92950, row (.slice ao_92948 x_92941.1.length cap_92949) 22 1 (m_92950.flatMap em), fz (Zn_92842 ++ Zn_92934), row (.slice ao_92935 x_92925.1.length cap_92936) 22 1 cs_92937, stb b_92762 24 [(.slice ao_92845 c_92844.length cap_92846), (.slice ao_92849 c_92848.length cap_92850), (.slice ao_92853 c_92852.length cap_92854), (.int .i64 c_92856), (.int .i64 c_92857), (.slice ao_92859 c_92858.length cap_92860), (.slice ao_92863 c_92862.length cap_92864)]]) (fun w hw => by have pz := (hz.call2 hw (.nil : Sel [mat 3 1 e3 m_92950, row (.slice ao_92948 x_92941.1.length cap_92949) 22 1 (m_92950.flatMap em), fz (Zn_92842 ++ Zn_92934), row (.slice ao_92935 x_92925.1.length cap_92936) 22 1 cs_92937, stb b_92762 24 [(.slice ao_92845 c_92844.length cap_92846), (.slice ao_92849 c_92848.length cap_92850), (.slice ao_92853 c_92852.length cap_92854), (.int .i64 c_92856), (.int .i64 c_92857), (.slice ao_92859 c_92858.length cap_92860), (.slice ao_92863 c_92862.length cap_92864)]] [] [mat 3 1 e3 m_92950, row (.slice ao_92948 x_92941.1.length cap_92949) 22 1 (m_92950.flatMap em), fz (Zn_92842 ++ Zn_92934), row (.slice ao_92935 x_92925.1.length cap_92936) 22 1 cs_92937, stb b_92762 24 [(.slice ao_92845 c_92844.length cap_92846), (.slice ao_92849 c_92848.length cap_92850), (.slice ao_92853 c_92852.length cap_92854), (.int .i64 c_92856), (.int .i64 c_92857), (.slice ao_92859 c_92858.length cap_92860), (.slice ao_92863 c_92862.length cap_92864)]]) (.there (.there .here))); exact w_timebase_Bound (Z := _) (ao_15082 := ao_92845) (cap_15083 := cap_92846) (ao_15085 := ao_92849) (cap_15086 := cap_92850) (ao_15088 := ao_92853) (cap_15089 := cap_92854) (ao_15091 := ao_92859) (cap_15092 := cap_92860) (ao_15094 := ao_92863) (cap_15095 := cap_92864) (s_15081 := (⟨c_92844, c_92848, c_92852, c_92856, c_92857, c_92858, c_92862⟩ : Stimebase_Setup)) (r := x_92955) w pz (hs_92847.mono ((Zle.left _ _).trans (Zle.assoc _ _ _))) (hs_92851.mono ((Zle.left _ _).trans (Zle.assoc _ _ _))) (hs_92855.mono ((Zle.left _ _).trans (Zle.assoc _ _ _))) (hs_92861.mono ((Zle.left _ _).trans (Zle.assoc _ _ _))) (hs_92865.mono ((Zle.left _ _).trans (Zle.assoc _ _ _))) hx_92956) ?_
        refine WL.quiet (d := 109) rfl rfl rfl (q_move rfl) ?_
        refine WL.quiet (d := 112) rfl rfl rfl (q_extract rfl rfl) ?_
        refine WL.quiet (d := 113) rfl rfl rfl (q_extract rfl rfl) ?_
        refine WL.quiet (d := 11) rfl rfl rfl (q_assign rfl) ?_
        refine WL.quiet (d := 12) rfl rfl rfl (q_assign rfl) ?_
        refine WL.nil ?_
        refine WX.then ?_
        refine WC.seq ?_
        obtain ⟨x_92957, hx_92958, h⟩ := bind_elim h
        obtain ⟨b_92963, hb_92964, h⟩ := bind_elim h
        refine WC.region ?_
        refine WL.quiet (d := 114) rfl rfl rfl (q_loadA (cs := [(.slice ao_92845 c_92844.length cap_92846), (.slice ao_92849 c_92848.length cap_92850), (.slice ao_92853 c_92852.length cap_92854), (.int .i64 c_92856), (.int .i64 c_92857), (.slice ao_92859 c_92858.length cap_92860), (.slice ao_92863 c_92862.length cap_92864)]) aggT_24 rfl rfl (rd_all (.there (.there (.there (.there .here)))))) ?_
        refine WL.callD (dd := 115) rfl rfl rfl (run_call (l := [.tmp 114]) Try.call19 (.cons rfl .nil)) (.nil : Sel [mat 3 1 e3 m_92950, row (.slice ao_92948 x_92941.1.length cap_92949) 22 1 (m_92950.flatMap em), fz (Zn_92842 ++ Zn_92934), row (.slice ao_92935 x_92925.1.length cap_92936) 22 1 cs_92937, stb b_92762 24 [(.slice ao_92845 c_92844.length cap_92846), (.slice ao_92849 c_92848.length cap_92850), (.slice ao_92853 c_92852.length cap_92854), (.int .i64 c_92856), (.int .i64 c_92857), (.slice ao_92859 c_92858.length cap_92860), (.slice ao_92863 c_92862.length cap_92864)]] [] [mat 3 1 e3 m_92950, row (.slice ao_92948 x_92941.1.length cap_92949) 22 1 (m_92950.flatMap em), fz (Zn_92842 ++ Zn_92934), row (.slice ao_92935 x_92925.1.length cap_92936) 22 1 cs_92937, stb b_92762 24 [(.slice ao_92845 c_92844.length cap_92846), (.slice ao_92849 c_92848.length cap_92850), (.slice ao_92853 c_92852.length cap_92854), (.int .i64 c_92856), (.int .i64 c_92857), (.slice ao_92859 c_92858.length cap_92860), (.slice ao_92863 c_92862.length cap_92864)]]) (fun w hw => by have pz := (hz.call2 hw (.nil : Sel [mat 3 1 e3 m_92950, row (.slice ao_92948 x_92941.1.length cap_92949) 22 1 (m_92950.flatMap em), fz (Zn_92842 ++ Zn_92934), row (.slice ao_92935 x_92925.1.length cap_92936) 22 1 cs_92937, stb b_92762 24 [(.slice ao_92845 c_92844.length cap_92846), (.slice ao_92849 c_92848.length cap_92850), (.slice ao_92853 c_92852.length cap_92854), (.int .i64 c_92856), (.int .i64 c_92857), (.slice ao_92859 c_92858.length cap_92860), (.slice ao_92863 c_92862.length cap_92864)]] [] [mat 3 1 e3 m_92950, row (.slice ao_92948 x_92941.1.length cap_92949) 22 1 (m_92950.flatMap em), fz (Zn_92842 ++ Zn_92934), row (.slice ao_92935 x_92925.1.length cap_92936) 22 1 cs_92937, stb b_92762 24 [(.slice ao_92845 c_92844.length cap_92846), (.slice ao_92849 c_92848.length cap_92850), (.slice ao_92853 c_92852.length cap_92854), (.int .i64 c_92856), (.int .i64 c_92857), (.slice ao_92859 c_92858.length cap_92860), (.slice ao_92863 c_92862.length cap_92864)]]) (.there (.there .here))); exact w_timebase_Valid (Z := _) (ao_104 := ao_92845) (cap_105 := cap_92846) (ao_107 := ao_92849) (cap_108 := cap_92850) (ao_110 := ao_92853) (cap_111 := cap_92854) (ao_113 := ao_92859) (cap_114 := cap_92860) (ao_116 := ao_92863) (cap_117 := cap_92864) (s_103 := (⟨c_92844, c_92848, c_92852, c_92856, c_92857, c_92858, c_92862⟩ : Stimebase_Setup)) (r := x_92957) w pz (hs_92847.mono ((Zle.left _ _).trans (Zle.assoc _ _ _))) (hs_92851.mono ((Zle.left _ _).trans (Zle.assoc _ _ _))) (hs_92855.mono ((Zle.left _ _).trans (Zle.assoc _ _ _))) (hs_92861.mono ((Zle.left _ _).trans (Zle.assoc _ _ _))) (hs_92865.mono ((Zle.left _ _).trans (Zle.assoc _ _ _))) hx_92958) ?_
        refine WL.quiet (d := 116) rfl rfl rfl (q_not rfl) ?_
        refine WL.quiet (d := 117) rfl rfl rfl (q_move rfl) ?_
        refine WL.cut0 True [(5, (.slice ao_92935 x_92925.1.length cap_92936)), (6, (.int .i64 x_92925.2)), (7, (.slice ao_92948 x_92941.1.length cap_92949)), (8, (.int .i64 x_92941.2)), (9, (.int .i64 x_92953.1)), (10, (.int .i64 x_92953.2)), (11, (.int .i64 x_92955.1)), (12, (.int .i64 x_92955.2)), (120, (.bool ((!x_92957) && (decide (x_92925.2 = 2)))))] [mat 3 1 e3 m_92950, row (.slice ao_92948 x_92941.1.length cap_92949) 22 1 (m_92950.flatMap em), fz (Zn_92842 ++ Zn_92934), row (.slice ao_92935 x_92925.1.length cap_92936) 22 1 cs_92937, stb b_92762 24 [(.slice ao_92845 c_92844.length cap_92846), (.slice ao_92849 c_92848.length cap_92850), (.slice ao_92853 c_92852.length cap_92854), (.int .i64 c_92856), (.int .i64 c_92857), (.slice ao_92859 c_92858.length cap_92860), (.slice ao_92863 c_92862.length cap_92864)]] 3 ?_ (fun _ => ?_)
        · rcases Bool.eq_false_or_eq_true (!x_92957) with hb' | hb'
          · have hg_92967 := hb'; clear hb'
            refine WL.pin (i := 117) rfl hg_92967 ?_
            refine WL.quiet (d := 118) rfl rfl rfl (q_move rfl) ?_
            refine WL.quiet (d := 119) rfl rfl rfl (q_eql rfl rfl) ?_
            refine WL.quiet (d := 120) rfl rfl rfl (q_pickT rfl rfl) ?_
            exact WL.cutEnd () trivial (.cons rfl (.cons rfl (.cons rfl (.cons rfl (.cons rfl (.cons rfl (.cons rfl (.cons rfl (.cons (some_bool (and_r hg_92967)) .nil))))))))) (.cons .here (.cons .here (.cons .here (.cons .here (.cons .here .nil)))))
          · have hg_92968 := hb'; clear hb'
            refine WL.pin (i := 117) rfl hg_92968 ?_
            refine WL.skip rfl rfl rfl ?_
            refine WL.skip rfl rfl rfl ?_
            refine WL.quiet (d := 120) rfl rfl rfl (q_pickF rfl rfl) ?_
            exact WL.cutEnd () trivial (.cons rfl (.cons rfl (.cons rfl (.cons rfl (.cons rfl (.cons rfl (.cons rfl (.cons rfl (.cons (some_bool (and_l hg_92968)) .nil))))))))) (.cons .here (.cons .here (.cons .here (.cons .here (.cons .here .nil)))))
        · skip
          refine WL.quiet (d := 121) rfl rfl rfl (q_move rfl) ?_
          refine WL.cut0 True [(5, (.slice ao_92935 x_92925.1.length cap_92936)), (6, (.int .i64 x_92925.2)), (7, (.slice ao_92948 x_92941.1.length cap_92949)), (9, (.int .i64 x_92953.1)), (10, (.int .i64 x_92953.2)), (11, (.int .i64 x_92955.1)), (12, (.int .i64 x_92955.2)), (125, (.bool (((!x_92957) && (decide (x_92925.2 = 2))) && (decide (x_92941.2 = x_92925.2)))))] [mat 3 1 e3 m_92950, row (.slice ao_92948 x_92941.1.length cap_92949) 22 1 (m_92950.flatMap em), fz (Zn_92842 ++ Zn_92934), row (.slice ao_92935 x_92925.1.length cap_92936) 22 1 cs_92937, stb b_92762 24 [(.slice ao_92845 c_92844.length cap_92846), (.slice ao_92849 c_92848.length cap_92850), (.slice ao_92853 c_92852.length cap_92854), (.int .i64 c_92856), (.int .i64 c_92857), (.slice ao_92859 c_92858.length cap_92860), (.slice ao_92863 c_92862.length cap_92864)]] 4 ?_ (fun _ => ?_)
          · rcases Bool.eq_false_or_eq_true ((!x_92957) && (decide (x_92925.2 = 2))) with hb' | hb'
            · have hg_92969 := hb'; clear hb'
              refine WL.pin (i := 121) rfl hg_92969 ?_
              refine WL.quiet (d := 122) rfl rfl rfl (q_move rfl) ?_
              refine WL.quiet (d := 123) rfl rfl rfl (q_move rfl) ?_
              refine WL.quiet (d := 124) rfl rfl rfl (q_eql rfl rfl) ?_
              refine WL.quiet (d := 125) rfl rfl rfl (q_pickT rfl rfl) ?_
              exact WL.cutEnd () trivial (.cons rfl (.cons rfl (.cons rfl (.cons rfl (.cons rfl (.cons rfl (.cons rfl (.cons (some_bool (and_r hg_92969)) .nil)))))))) (.cons .here (.cons .here (.cons .here (.cons .here (.cons .here .nil)))))
            · have hg_92970 := hb'; clear hb'
              refine WL.pin (i := 121) rfl hg_92970 ?_
              refine WL.skip rfl rfl rfl ?_
              refine WL.skip rfl rfl rfl ?_
              refine WL.skip rfl rfl rfl ?_
              refine WL.quiet (d := 125) rfl rfl rfl (q_pickF rfl rfl) ?_
              exact WL.cutEnd () trivial (.cons rfl (.cons rfl (.cons rfl (.cons rfl (.cons rfl (.cons rfl (.cons rfl (.cons (some_bool (and_l hg_92970)) .nil)))))))) (.cons .here (.cons .here (.cons .here (.cons .here (.cons .here .nil)))))
          · skip
            refine WL.quiet (d := 126) rfl rfl rfl (q_move rfl) ?_
            refine WL.cut0 True [(5, (.slice ao_92935 x_92925.1.length cap_92936)), (6, (.int .i64 x_92925.2)), (7, (.slice ao_92948 x_92941.1.length cap_92949)), (9, (.int .i64 x_92953.1)), (11, (.int .i64 x_92955.1)), (12, (.int .i64 x_92955.2)), (130, (.bool ((((!x_92957) && (decide (x_92925.2 = 2))) && (decide (x_92941.2 = x_92925.2))) && (decide (x_92953.2 = x_92925.2)))))] [mat 3 1 e3 m_92950, row (.slice ao_92948 x_92941.1.length cap_92949) 22 1 (m_92950.flatMap em), fz (Zn_92842 ++ Zn_92934), row (.slice ao_92935 x_92925.1.length cap_92936) 22 1 cs_92937, stb b_92762 24 [(.slice ao_92845 c_92844.length cap_92846), (.slice ao_92849 c_92848.length cap_92850), (.slice ao_92853 c_92852.length cap_92854), (.int .i64 c_92856), (.int .i64 c_92857), (.slice ao_92859 c_92858.length cap_92860), (.slice ao_92863 c_92862.length cap_92864)]] 4 ?_ (fun _ => ?_)
            · rcases Bool.eq_false_or_eq_true (((!x_92957) && (decide (x_92925.2 = 2))) && (decide (x_92941.2 = x_92925.2))) with hb' | hb'
              · have hg_92971 := hb'; clear hb'
                refine WL.pin (i := 126) rfl hg_92971 ?_
                refine WL.quiet (d := 127) rfl rfl rfl (q_move rfl) ?_
                refine WL.quiet (d := 128) rfl rfl rfl (q_move rfl) ?_
                refine WL.quiet (d := 129) rfl rfl rfl (q_eql rfl rfl) ?_
                refine WL.quiet (d := 130) rfl rfl rfl (q_pickT rfl rfl) ?_
                exact WL.cutEnd () trivial (.cons rfl (.cons rfl (.cons rfl (.cons rfl (.cons rfl (.cons rfl (.cons (some_bool (and_r hg_92971)) .nil))))))) (.cons .here (.cons .here (.cons .here (.cons .here (.cons .here .nil)))))
              · have hg_92972 := hb'; clear hb'
                refine WL.pin (i := 126) rfl hg_92972 ?_
                refine WL.skip rfl rfl rfl ?_
                refine WL.skip rfl rfl rfl ?_
                refine WL.skip rfl rfl rfl ?_
                refine WL.quiet (d := 130) rfl rfl rfl (q_pickF rfl rfl) ?_
                exact WL.cutEnd () trivial (.cons rfl (.cons rfl (.cons rfl (.cons rfl (.cons rfl (.cons rfl (.cons (some_bool (and_l hg_92972)) .nil))))))) (.cons .here (.cons .here (.cons .here (.cons .here (.cons .here .nil)))))
            · skip
              refine WL.quiet (d := 131) rfl rfl rfl (q_move rfl) ?_
              refine WL.cut0 True [(5, (.slice ao_92935 x_92925.1.length cap_92936)), (7, (.slice ao_92948 x_92941.1.length cap_92949)), (9, (.int .i64 x_92953.1)), (11, (.int .i64 x_92955.1)), (135, (.bool (((((!x_92957) && (decide (x_92925.2 = 2))) && (decide (x_92941.2 = x_92925.2))) && (decide (x_92953.2 = x_92925.2))) && (decide (x_92955.2 = x_92925.2)))))] [mat 3 1 e3 m_92950, row (.slice ao_92948 x_92941.1.length cap_92949) 22 1 (m_92950.flatMap em), fz (Zn_92842 ++ Zn_92934), row (.slice ao_92935 x_92925.1.length cap_92936) 22 1 cs_92937, stb b_92762 24 [(.slice ao_92845 c_92844.length cap_92846), (.slice ao_92849 c_92848.length cap_92850), (.slice ao_92853 c_92852.length cap_92854), (.int .i64 c_92856), (.int .i64 c_92857), (.slice ao_92859 c_92858.length cap_92860), (.slice ao_92863 c_92862.length cap_92864)]] 4 ?_ (fun _ => ?_)
              · rcases Bool.eq_false_or_eq_true ((((!x_92957) && (decide (x_92925.2 = 2))) && (decide (x_92941.2 = x_92925.2))) && (decide (x_92953.2 = x_92925.2))) with hb' | hb'
                · have hg_92973 := hb'; clear hb'
                  refine WL.pin (i := 131) rfl hg_92973 ?_
                  refine WL.quiet (d := 132) rfl rfl rfl (q_move rfl) ?_
                  refine WL.quiet (d := 133) rfl rfl rfl (q_move rfl) ?_
                  refine WL.quiet (d := 134) rfl rfl rfl (q_eql rfl rfl) ?_
                  refine WL.quiet (d := 135) rfl rfl rfl (q_pickT rfl rfl) ?_
                  exact WL.cutEnd () trivial (.cons rfl (.cons rfl (.cons rfl (.cons rfl (.cons (some_bool (and_r hg_92973)) .nil))))) (.cons .here (.cons .here (.cons .here (.cons .here (.cons .here .nil)))))
                · have hg_92974 := hb'; clear hb'
                  refine WL.pin (i := 131) rfl hg_92974 ?_
                  refine WL.skip rfl rfl rfl ?_
                  refine WL.skip rfl rfl rfl ?_
                  refine WL.skip rfl rfl rfl ?_
                  refine WL.quiet (d := 135) rfl rfl rfl (q_pickF rfl rfl) ?_
                  exact WL.cutEnd () trivial (.cons rfl (.cons rfl (.cons rfl (.cons rfl (.cons (some_bool (and_l hg_92974)) .nil))))) (.cons .here (.cons .here (.cons .here (.cons .here (.cons .here .nil)))))
              · skip
                refine WL.quiet (d := 136) rfl rfl rfl (q_move rfl) ?_
                refine WL.cut0 True [(9, (.int .i64 x_92953.1)), (11, (.int .i64 x_92955.1)), (143, (.bool ((((((!x_92957) && (decide (x_92925.2 = 2))) && (decide (x_92941.2 = x_92925.2))) && (decide (x_92953.2 = x_92925.2))) && (decide (x_92955.2 = x_92925.2))) && (decide ((i64 (((x_92925.1.length : Nat) : Int) + ((x_92941.1.length : Nat) : Int))) = 0)))))] [mat 3 1 e3 m_92950, row (.slice ao_92948 x_92941.1.length cap_92949) 22 1 (m_92950.flatMap em), fz (Zn_92842 ++ Zn_92934), row (.slice ao_92935 x_92925.1.length cap_92936) 22 1 cs_92937, stb b_92762 24 [(.slice ao_92845 c_92844.length cap_92846), (.slice ao_92849 c_92848.length cap_92850), (.slice ao_92853 c_92852.length cap_92854), (.int .i64 c_92856), (.int .i64 c_92857), (.slice ao_92859 c_92858.length cap_92860), (.slice ao_92863 c_92862.length cap_92864)]] 7 ?_ (fun _ => ?_)
                · rcases Bool.eq_false_or_eq_true (((((!x_92957) && (decide (x_92925.2 = 2))) && (decide (x_92941.2 = x_92925.2))) && (decide (x_92953.2 = x_92925.2))) && (decide (x_92955.2 = x_92925.2))) with hb' | hb'
                  · have hg_92975 := hb'; clear hb'
                    refine WL.pin (i := 136) rfl hg_92975 ?_
                    refine WL.quiet (d := 137) rfl rfl rfl (q_move rfl) ?_
                    refine WL.quiet (d := 138) rfl rfl rfl (q_len Try.underlying30 rfl) ?_
                    refine WL.quiet (d := 139) rfl rfl rfl (q_move rfl) ?_
                    refine WL.quiet (d := 140) rfl rfl rfl (q_len Try.underlying30 rfl) ?_
                    refine WL.quiet (d := 141) rfl rfl rfl (q_add rfl rfl rfl) ?_
                    refine WL.quiet (d := 142) rfl rfl rfl (q_eql rfl rfl) ?_
                    refine WL.quiet (d := 143) rfl rfl rfl (q_pickT rfl rfl) ?_
                    exact WL.cutEnd () trivial (.cons rfl (.cons rfl (.cons (some_bool (and_r hg_92975)) .nil))) (.cons .here (.cons .here (.cons .here (.cons .here (.cons .here .nil)))))
                  · have hg_92976 := hb'; clear hb'
                    refine WL.pin (i := 136) rfl hg_92976 ?_
                    refine WL.skip rfl rfl rfl ?_
                    refine WL.skip rfl rfl rfl ?_
                    refine WL.skip rfl rfl rfl ?_
                    refine WL.skip rfl rfl rfl ?_
                    refine WL.skip rfl rfl rfl ?_
                    refine WL.skip rfl rfl rfl ?_
                    refine WL.quiet (d := 143) rfl rfl rfl (q_pickF rfl rfl) ?_
                    exact WL.cutEnd () trivial (.cons rfl (.cons rfl (.cons (some_bool (and_l hg_92976)) .nil))) (.cons .here (.cons .here (.cons .here (.cons .here (.cons .here .nil)))))
                · skip
                  refine WL.quiet (d := 144) rfl rfl rfl (q_move rfl) ?_
                  refine WL.cut0 True [(149, (.bool (((((((!x_92957) && (decide (x_92925.2 = 2))) && (decide (x_92941.2 = x_92925.2))) && (decide (x_92953.2 = x_92925.2))) && (decide (x_92955.2 = x_92925.2))) && (decide ((i64 (((x_92925.1.length : Nat) : Int) + ((x_92941.1.length : Nat) : Int))) = 0))) && (decide ((i64 (x_92953.1 + x_92955.1)) = 0)))))] [mat 3 1 e3 m_92950, row (.slice ao_92948 x_92941.1.length cap_92949) 22 1 (m_92950.flatMap em), fz (Zn_92842 ++ Zn_92934), row (.slice ao_92935 x_92925.1.length cap_92936) 22 1 cs_92937, stb b_92762 24 [(.slice ao_92845 c_92844.length cap_92846), (.slice ao_92849 c_92848.length cap_92850), (.slice ao_92853 c_92852.length cap_92854), (.int .i64 c_92856), (.int .i64 c_92857), (.slice ao_92859 c_92858.length cap_92860), (.slice ao_92863 c_92862.length cap_92864)]] 5 ?_ (fun _ => ?_)
                  · rcases Bool.eq_false_or_eq_true ((((((!x_92957) && (decide (x_92925.2 = 2))) && (decide (x_92941.2 = x_92925.2))) && (decide (x_92953.2 = x_92925.2))) && (decide (x_92955.2 = x_92925.2))) && (decide ((i64 (((x_92925.1.length : Nat) : Int) + ((x_92941.1.length : Nat) : Int))) = 0))) with hb' | hb'
                    · have hg_92977 := hb'; clear hb'
                      refine WL.pin (i := 144) rfl hg_92977 ?_
                      refine WL.quiet (d := 145) rfl rfl rfl (q_move rfl) ?_
                      refine WL.quiet (d := 146) rfl rfl rfl (q_move rfl) ?_
                      refine WL.quiet (d := 147) rfl rfl rfl (q_add rfl rfl rfl) ?_
                      refine WL.quiet (d := 148) rfl rfl rfl (q_eql rfl rfl) ?_
                      refine WL.quiet (d := 149) rfl rfl rfl (q_pickT rfl rfl) ?_
                      exact WL.cutEnd () trivial (.cons (some_bool (and_r hg_92977)) .nil) (.cons .here (.cons .here (.cons .here (.cons .here (.cons .here .nil)))))
                    · have hg_92978 := hb'; clear hb'
                      refine WL.pin (i := 144) rfl hg_92978 ?_
                      refine WL.skip rfl rfl rfl ?_
                      refine WL.skip rfl rfl rfl ?_
                      refine WL.skip rfl rfl rfl ?_
                      refine WL.skip rfl rfl rfl ?_
                      refine WL.quiet (d := 149) rfl rfl rfl (q_pickF rfl rfl) ?_
                      exact WL.cutEnd () trivial (.cons (some_bool (and_l hg_92978)) .nil) (.cons .here (.cons .here (.cons .here (.cons .here (.cons .here .nil)))))
                  · skip
                    refine WL.quiet (d := 150) rfl rfl rfl (q_move rfl) ?_
                    refine WL.cut1 (fun (Zn_92965 : Zp) => Zle (Z ++ (Zn_92842 ++ Zn_92934)) (Z ++ Zn_92965)) (fun (Zn_92965 : Zp) => [(152, (.bool b_92963))]) (fun (Zn_92965 : Zp) => [mat 3 1 e3 m_92950, row (.slice ao_92948 x_92941.1.length cap_92949) 22 1 (m_92950.flatMap em), fz Zn_92965, row (.slice ao_92935 x_92925.1.length cap_92936) 22 1 cs_92937, stb b_92762 24 [(.slice ao_92845 c_92844.length cap_92846), (.slice ao_92849 c_92848.length cap_92850), (.slice ao_92853 c_92852.length cap_92854), (.int .i64 c_92856), (.int .i64 c_92857), (.slice ao_92859 c_92858.length cap_92860), (.slice ao_92863 c_92862.length cap_92864)]]) 2 ?_ (fun Zn_92965 hle_92966 => ?_)
                    · rcases Bool.eq_false_or_eq_true (((((((!x_92957) && (decide (x_92925.2 = 2))) && (decide (x_92941.2 = x_92925.2))) && (decide (x_92953.2 = x_92925.2))) && (decide (x_92955.2 = x_92925.2))) && (decide ((i64 (((x_92925.1.length : Nat) : Int) + ((x_92941.1.length : Nat) : Int))) = 0))) && (decide ((i64 (x_92953.1 + x_92955.1)) = 0))) with hb' | hb'
                      · have hg_92979 := hb'; clear hb'
                        have hq_92980 := ite_t hb_92964 hg_92979
                        obtain ⟨x_92959, hx_92960, hq_92980⟩ := bind_elim hq_92980
                        replace hq_92980 := Option.some.inj hq_92980
                        refine WL.pin (i := 150) rfl hg_92979 ?_
                        refine WL.enter1 (dd := 151) rfl rfl rfl (run_call (l := []) Try.call12 .nil) (.nil : Sel [mat 3 1 e3 m_92950, row (.slice ao_92948 x_92941.1.length cap_92949) 22 1 (m_92950.flatMap em), fz (Zn_92842 ++ Zn_92934), row (.slice ao_92935 x_92925.1.length cap_92936) 22 1 cs_92937, stb b_92762 24 [(.slice ao_92845 c_92844.length cap_92846), (.slice ao_92849 c_92848.length cap_92850), (.slice ao_92853 c_92852.length cap_92854), (.int .i64 c_92856), (.int .i64 c_92857), (.slice ao_92859 c_92858.length cap_92860), (.slice ao_92863 c_92862.length cap_92864)]] [] [mat 3 1 e3 m_92950, row (.slice ao_92948 x_92941.1.length cap_92949) 22 1 (m_92950.flatMap em), fz (Zn_92842 ++ Zn_92934), row (.slice ao_92935 x_92925.1.length cap_92936) 22 1 cs_92937, stb b_92762 24 [(.slice ao_92845 c_92844.length cap_92846), (.slice ao_92849 c_92848.length cap_92850), (.slice ao_92853 c_92852.length cap_92854), (.int .i64 c_92856), (.int .i64 c_92857), (.slice ao_92859 c_92858.length cap_92860), (.slice ao_92863 c_92862.length cap_92864)]]) (fun w hw => by have pz := (hz.call2 hw (.nil : Sel [mat 3 1 e3 m_92950, row (.slice ao_92948 x_92941.1.length cap_92949) 22 1 (m_92950.flatMap em), fz (Zn_92842 ++ Zn_92934), row (.slice ao_92935 x_92925.1.length cap_92936) 22 1 cs_92937, stb b_92762 24 [(.slice ao_92845 c_92844.length cap_92846), (.slice ao_92849 c_92848.length cap_92850), (.slice ao_92853 c_92852.length cap_92854), (.int .i64 c_92856), (.int .i64 c_92857), (.slice ao_92859 c_92858.length cap_92860), (.slice ao_92863 c_92862.length cap_92864)]] [] [mat 3 1 e3 m_92950, row (.slice ao_92948 x_92941.1.length cap_92949) 22 1 (m_92950.flatMap em), fz (Zn_92842 ++ Zn_92934), row (.slice ao_92935 x_92925.1.length cap_92936) 22 1 cs_92937, stb b_92762 24 [(.slice ao_92845 c_92844.length cap_92846), (.slice ao_92849 c_92848.length cap_92850), (.slice ao_92853 c_92852.length cap_92854), (.int .i64 c_92856), (.int .i64 c_92857), (.slice ao_92859 c_92858.length cap_92860), (.slice ao_92863 c_92862.length cap_92864)]]) (.there (.there .here))); exact w_law34_awake (Z := _)   (r := x_92959) w pz  hx_92960) ?_
                        rintro Zn_92981 _
                        refine WL.merge .here (.there (.there .here)) ?_
                        refine WL.quiet (d := 152) rfl rfl rfl (q_pickT rfl rfl) ?_
                        exact WL.cutEnd (G := Zp) ((Zn_92842 ++ Zn_92934) ++ Zn_92981) ((Zle.left _ _).trans (Zle.assoc _ _ _)) (.cons (some_bool hq_92980) .nil) (.cons (.there .here) (.cons (.there .here) (.cons .here (.cons .here (.cons .here .nil)))))
                      · have hg_92983 := hb'; clear hb'
                        have hq_92984 := ite_f hb_92964 hg_92983
                        replace hq_92984 := Option.some.inj hq_92984
                        refine WL.pin (i := 150) rfl hg_92983 ?_
                        refine WL.skip rfl rfl rfl ?_
                        refine WL.quiet (d := 152) rfl rfl rfl (q_pickF rfl rfl) ?_
                        exact WL.cutEnd (G := Zp) (Zn_92842 ++ Zn_92934) (Zle.refl _) (.cons (some_bool hq_92984) .nil) (.cons .here (.cons .here (.cons .here (.cons .here (.cons .here .nil)))))
                    · skip
                      refine WL.quiet (d := 4) rfl rfl rfl (q_assign rfl) ?_
                      refine WL.nil ?_
                      refine WX.then ?_
                      refine WC.ret ?_
                      obtain rfl := Option.some.inj h
                      refine WX.bpRet Try.results10 (.tmp rfl .nil) (fun w hw => ?_)
                      exact ⟨Zn_92965, ret1 rfl, trivial, hw.sub (.cons (.there (.there .here)) .nil)⟩
end Go.Proofs.Ytbejngeaocfieaa
