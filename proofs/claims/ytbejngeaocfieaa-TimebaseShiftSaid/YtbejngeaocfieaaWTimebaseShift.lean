/- A part of this claim's proof: models of the functions that the law reaches, with the proof that the functions compute them; plain laws about the models. No conditions beyond those in each theorem's statement. -/
import Derived.Test.YtbejngeaocfieaaW34d
namespace Go.Proofs.Ytbejngeaocfieaa
open Go Go.RowKit Sep
set_option linter.all false
set_option maxRecDepth 30000
def m_law34_TimebaseShift_L4 (s_77808 : Stimebase_Setup) (by_77824 : Int) (k_85318 : (List Int) → Option Bool) : Nat → Int → (List Int) → Option Bool
  | 0, _, _ => none
  | n_85366 + 1, v_85359, c_85361 => if decide (v_85359 < ((s_77808.fStart.length : Nat) : Int)) then chk ((0 : Int) ≤ v_85359 ∧ v_85359 < ((s_77808.fStart.length : Nat) : Int)) (chk ((((c_85361 ++ ([i64 ((nth s_77808.fStart v_85359) + (i64 by_77824))] : List Int)).length : Nat) : Int) * 8 ≤ 140737488355328 ∧ (((c_85361 ++ ([i64 ((nth s_77808.fStart v_85359) + (i64 by_77824))] : List Int)).length : Nat) : Int) ≤ 4611686018427387904) (m_law34_TimebaseShift_L4 s_77808 by_77824 k_85318 n_85366 (i64 (v_85359 + 1)) (c_85361 ++ ([i64 ((nth s_77808.fStart v_85359) + (i64 by_77824))] : List Int)))) else k_85318 c_85361
theorem m_law34_TimebaseShift_L4_fuel {n : Nat} {s_77808 : Stimebase_Setup} {by_77824 : Int} {k_85318 : (List Int) → Option Bool} {v_85359 : Int} {c_85361 : List Int} {r : Bool} (h : m_law34_TimebaseShift_L4 s_77808 by_77824 k_85318 n v_85359 c_85361 = some r) : ∃ m, n = m + 1 := by
  cases n with
  | zero => cases h
  | succ m => exact ⟨m, rfl⟩

def m_law34_TimebaseShift_L6 (a_91310 : List (List Int)) (v_91320 : Int) (b_91315 : List (List Int)) (by_77824 : Int) (k_92277 : Option Bool) : Nat → Int → Option Bool
  | 0, _ => none
  | n_92382 + 1, v_92380 => if decide (v_92380 < (((nth a_91310 v_91320).length : Nat) : Int)) then chk ((0 : Int) ≤ v_91320 ∧ v_91320 < ((b_91315.length : Nat) : Int)) (chk ((0 : Int) ≤ v_92380 ∧ v_92380 < (((nth b_91315 v_91320).length : Nat) : Int)) (chk ((0 : Int) ≤ v_91320 ∧ v_91320 < ((a_91310.length : Nat) : Int)) (chk ((0 : Int) ≤ v_92380 ∧ v_92380 < (((nth a_91310 v_91320).length : Nat) : Int)) (if decide ((nth (nth b_91315 v_91320) v_92380) ≠ (i64 ((nth (nth a_91310 v_91320) v_92380) + (i64 by_77824)))) then some false else m_law34_TimebaseShift_L6 a_91310 v_91320 b_91315 by_77824 k_92277 n_92382 (i64 (v_92380 + 1)))))) else k_92277
theorem m_law34_TimebaseShift_L6_fuel {n : Nat} {a_91310 : List (List Int)} {v_91320 : Int} {b_91315 : List (List Int)} {by_77824 : Int} {k_92277 : Option Bool} {v_92380 : Int} {r : Bool} (h : m_law34_TimebaseShift_L6 a_91310 v_91320 b_91315 by_77824 k_92277 n v_92380 = some r) : ∃ m, n = m + 1 := by
  cases n with
  | zero => cases h
  | succ m => exact ⟨m, rfl⟩

def m_law34_TimebaseShift_L5 (x_85419 : List (List Int) × Int) (s_77808 : Stimebase_Setup) (c_85315 : List Int) (by_77824 : Int) (k_88974 : Option Bool) : Nat → (List (List Int)) → (List (List Int)) → Int → Option Bool
  | 0, _, _, _ => none
  | n_91322 + 1, a_91310, b_91315, v_91320 => if decide (v_91320 < ((x_85419.1.length : Nat) : Int)) then jp2 (fun (a_91898 : List (List Int)) (b_91903 : List (List Int)) => m_law34_TimebaseShift_L5 x_85419 s_77808 c_85315 by_77824 k_88974 n_91322 a_91898 b_91903 (i64 (v_91320 + 1))) fun k_91908 => chk ((0 : Int) ≤ v_91320 ∧ v_91320 < ((a_91310.length : Nat) : Int)) ((m_timebase_Skew s_77808 (nth a_91310 v_91320)).bind fun x_91919 => chk ((0 : Int) ≤ v_91320 ∧ v_91320 < ((b_91315.length : Nat) : Int)) ((m_timebase_Skew (⟨c_85315, s_77808.fDrift, s_77808.fFaulty, s_77808.fF, s_77808.fE, s_77808.fErrs, s_77808.fLies⟩ : Stimebase_Setup) (nth b_91315 v_91320)).bind fun x_91938 => if ((decide (x_91919.2 ≠ 0)) || (decide (x_91938.2 ≠ 0))) || (decide (x_91919.1 ≠ x_91938.1)) then some false else chk ((0 : Int) ≤ v_91320 ∧ v_91320 < ((a_91310.length : Nat) : Int)) (jp0 (k_91908 a_91310 b_91315) fun k_92277 => m_law34_TimebaseShift_L6 a_91310 v_91320 b_91315 by_77824 k_92277 FUEL 0))) else k_88974
theorem m_law34_TimebaseShift_L5_fuel {n : Nat} {x_85419 : List (List Int) × Int} {s_77808 : Stimebase_Setup} {c_85315 : List Int} {by_77824 : Int} {k_88974 : Option Bool} {a_91310 : List (List Int)} {b_91315 : List (List Int)} {v_91320 : Int} {r : Bool} (h : m_law34_TimebaseShift_L5 x_85419 s_77808 c_85315 by_77824 k_88974 n a_91310 b_91315 v_91320 = some r) : ∃ m, n = m + 1 := by
  cases n with
  | zero => cases h
  | succ m => exact ⟨m, rfl⟩

/-- nacellelaw34.TimebaseShift -/
def m_law34_TimebaseShift (s_77808 : Stimebase_Setup) (by_77824 : Int) (rounds_77825 : Int) : Option Bool :=
  (m_law34_few s_77808).bind fun x_85177 => (if !x_85177 then some true else (m_timebase_Valid s_77808).bind fun x_85179 => some (!x_85179)).bind fun b_85181 => if b_85181 then (m_law34_awake).bind fun x_85188 => some x_85188 else jp1 (fun (c_85315 : List Int) => (m_timebase_Valid (⟨c_85315, s_77808.fDrift, s_77808.fFaulty, s_77808.fF, s_77808.fE, s_77808.fErrs, s_77808.fLies⟩ : Stimebase_Setup)).bind fun x_85410 => if !x_85410 then (m_law34_awake).bind fun x_85413 => some x_85413 else (m_timebase_Run s_77808 (i64 (Int.tmod rounds_77825 31))).bind fun x_85419 => (m_timebase_Run (⟨c_85315, s_77808.fDrift, s_77808.fFaulty, s_77808.fF, s_77808.fE, s_77808.fErrs, s_77808.fLies⟩ : Stimebase_Setup) (i64 (Int.tmod rounds_77825 31))).bind fun x_85438 => if ((decide (x_85419.2 ≠ 0)) || (decide (x_85438.2 ≠ 0))) || (decide (((x_85419.1.length : Nat) : Int) ≠ ((x_85438.1.length : Nat) : Int))) then some false else jp0 ((m_law34_awake).bind fun x_92483 => some x_92483) fun k_88974 => m_law34_TimebaseShift_L5 x_85419 s_77808 c_85315 by_77824 k_88974 FUEL x_85419.1 x_85438.1 0) fun k_85318 => m_law34_TimebaseShift_L4 s_77808 by_77824 k_85318 FUEL 0 ([] : List Int)

set_option maxRecDepth 20000 in
theorem w_law34_TimebaseShift (Z : Zp)  (ao_77809 : Option Addr) (cap_77810 : Nat) (ao_77812 : Option Addr) (cap_77813 : Nat) (ao_77815 : Option Addr) (cap_77816 : Nat) (ao_77818 : Option Addr) (cap_77819 : Nat) (ao_77821 : Option Addr) (cap_77822 : Nat) (s_77808 : Stimebase_Setup) (by_77824 : Int) (rounds_77825 : Int) (r : Bool) (w₀ : World) (hz : PZ [] w₀ Z)
    (hs_77811 : ZS Z 1 (fun r x => r = e3 x) ao_77809 cap_77810 s_77808.fStart)
    (hs_77814 : ZS Z 1 (fun r x => r = e3 x) ao_77812 cap_77813 s_77808.fDrift)
    (hs_77817 : ZS Z 1 (fun r x => r = e3 x) ao_77815 cap_77816 s_77808.fFaulty)
    (hs_77820 : ZS Z 1 (fun r x => r = e3 x) ao_77818 cap_77819 s_77808.fErrs)
    (hs_77823 : ZS Z 1 (fun r x => r = e3 x) ao_77821 cap_77822 s_77808.fLies)
    (h : m_law34_TimebaseShift s_77808 by_77824 rounds_77825 = some r) :
    Calls Try.prog 9 #[(.agg #[(.slice ao_77809 s_77808.fStart.length cap_77810), (.slice ao_77812 s_77808.fDrift.length cap_77813), (.slice ao_77815 s_77808.fFaulty.length cap_77816), (.int .i64 s_77808.fF), (.int .i64 s_77808.fE), (.slice ao_77818 s_77808.fErrs.length cap_77819), (.slice ao_77821 s_77808.fLies.length cap_77822)]), (.int .i16 by_77824), (.int .u8 rounds_77825)] w₀ fun e w' => ∃ Zn : Zp, e = .returned (.bool r) ∧ True ∧ Hp [] w₀ w' [fz Zn] := by
  unfold m_law34_TimebaseShift at h
  refine Calls.ofWC (vs := [(.agg #[(.slice ao_77809 s_77808.fStart.length cap_77810), (.slice ao_77812 s_77808.fDrift.length cap_77813), (.slice ao_77815 s_77808.fFaulty.length cap_77816), (.int .i64 s_77808.fF), (.int .i64 s_77808.fE), (.slice ao_77818 s_77808.fErrs.length cap_77819), (.slice ao_77821 s_77808.fLies.length cap_77822)]), (.int .i16 by_77824), (.int .u8 rounds_77825)]) (pre := []) (env := [(0, (.agg #[(.slice ao_77809 s_77808.fStart.length cap_77810), (.slice ao_77812 s_77808.fDrift.length cap_77813), (.slice ao_77815 s_77808.fFaulty.length cap_77816), (.int .i64 s_77808.fF), (.int .i64 s_77808.fE), (.slice ao_77818 s_77808.fErrs.length cap_77819), (.slice ao_77821 s_77808.fLies.length cap_77822)])), (1, (.int .i16 by_77824)), (2, (.int .u8 rounds_77825))]) Try.func9 rfl Try.ntmps9 rfl (Hp.nil w₀ _) rfl ?_
  refine WC.pool ?_
  refine WC.seq ?_
  refine WC.region ?_
  refine WL.new (dd := 3) rfl rfl rfl (e_box (cs := [(.slice ao_77809 s_77808.fStart.length cap_77810), (.slice ao_77812 s_77808.fDrift.length cap_77813), (.slice ao_77815 s_77808.fFaulty.length cap_77816), (.int .i64 s_77808.fF), (.int .i64 s_77808.fE), (.slice ao_77818 s_77808.fErrs.length cap_77819), (.slice ao_77821 s_77808.fLies.length cap_77822)]) rfl rfl) ?_
  intro b_85159 _
  refine WL.quiet (d := 6) rfl rfl rfl (q_assign rfl) ?_
  refine WL.nil ?_
  refine WX.then ?_
  refine WC.seq ?_
  refine WC.seq ?_
  obtain ⟨x_85177, hx_85178, h⟩ := bind_elim h
  obtain ⟨b_85181, hb_85182, h⟩ := bind_elim h
  refine WC.region ?_
  refine WL.quiet (d := 20) rfl rfl rfl (q_loadA (cs := [(.slice ao_77809 s_77808.fStart.length cap_77810), (.slice ao_77812 s_77808.fDrift.length cap_77813), (.slice ao_77815 s_77808.fFaulty.length cap_77816), (.int .i64 s_77808.fF), (.int .i64 s_77808.fE), (.slice ao_77818 s_77808.fErrs.length cap_77819), (.slice ao_77821 s_77808.fLies.length cap_77822)]) aggT_24 rfl rfl (rd_all .here)) ?_
  refine WL.callD (dd := 21) rfl rfl rfl (run_call (l := [.tmp 20]) Try.call11 (.cons rfl .nil)) (.nil : Sel [stb b_85159 24 [(.slice ao_77809 s_77808.fStart.length cap_77810), (.slice ao_77812 s_77808.fDrift.length cap_77813), (.slice ao_77815 s_77808.fFaulty.length cap_77816), (.int .i64 s_77808.fF), (.int .i64 s_77808.fE), (.slice ao_77818 s_77808.fErrs.length cap_77819), (.slice ao_77821 s_77808.fLies.length cap_77822)], fz []] [] [stb b_85159 24 [(.slice ao_77809 s_77808.fStart.length cap_77810), (.slice ao_77812 s_77808.fDrift.length cap_77813), (.slice ao_77815 s_77808.fFaulty.length cap_77816), (.int .i64 s_77808.fF), (.int .i64 s_77808.fE), (.slice ao_77818 s_77808.fErrs.length cap_77819), (.slice ao_77821 s_77808.fLies.length cap_77822)], fz []]) (fun w hw => by have pz := (hz.call2 hw (.nil : Sel [stb b_85159 24 [(.slice ao_77809 s_77808.fStart.length cap_77810), (.slice ao_77812 s_77808.fDrift.length cap_77813), (.slice ao_77815 s_77808.fFaulty.length cap_77816), (.int .i64 s_77808.fF), (.int .i64 s_77808.fE), (.slice ao_77818 s_77808.fErrs.length cap_77819), (.slice ao_77821 s_77808.fLies.length cap_77822)], fz []] [] [stb b_85159 24 [(.slice ao_77809 s_77808.fStart.length cap_77810), (.slice ao_77812 s_77808.fDrift.length cap_77813), (.slice ao_77815 s_77808.fFaulty.length cap_77816), (.int .i64 s_77808.fF), (.int .i64 s_77808.fE), (.slice ao_77818 s_77808.fErrs.length cap_77819), (.slice ao_77821 s_77808.fLies.length cap_77822)], fz []]) (.there .here)); exact w_law34_few (Z := _) (ao_26 := ao_77809) (cap_27 := cap_77810) (ao_29 := ao_77812) (cap_30 := cap_77813) (ao_32 := ao_77815) (cap_33 := cap_77816) (ao_35 := ao_77818) (cap_36 := cap_77819) (ao_38 := ao_77821) (cap_39 := cap_77822) (s_25 := s_77808) (r := x_85177) w pz (hs_77811.mono (Zle.left _ _)) (hs_77814.mono (Zle.left _ _)) (hs_77817.mono (Zle.left _ _)) (hs_77820.mono (Zle.left _ _)) (hs_77823.mono (Zle.left _ _)) hx_85178) ?_
  refine WL.quiet (d := 22) rfl rfl rfl (q_not rfl) ?_
  refine WL.quiet (d := 23) rfl rfl rfl (q_move rfl) ?_
  refine WL.cut0 True [(1, (.int .i16 by_77824)), (2, (.int .u8 rounds_77825)), (3, (.pointer (some ⟨b_85159, 0, none⟩))), (27, (.bool b_85181))] [stb b_85159 24 [(.slice ao_77809 s_77808.fStart.length cap_77810), (.slice ao_77812 s_77808.fDrift.length cap_77813), (.slice ao_77815 s_77808.fFaulty.length cap_77816), (.int .i64 s_77808.fF), (.int .i64 s_77808.fE), (.slice ao_77818 s_77808.fErrs.length cap_77819), (.slice ao_77821 s_77808.fLies.length cap_77822)], fz []] 4 ?_ (fun _ => ?_)
  · rcases Bool.eq_false_or_eq_true (!x_85177) with hb' | hb'
    · have hg_85183 := hb'; clear hb'
      have hq_85184 := ite_t hb_85182 hg_85183
      replace hq_85184 := Option.some.inj hq_85184
      refine WL.pin (i := 23) rfl hg_85183 ?_
      refine WL.skip rfl rfl rfl ?_
      refine WL.skip rfl rfl rfl ?_
      refine WL.skip rfl rfl rfl ?_
      refine WL.quiet (d := 27) rfl rfl rfl (q_pickT rfl rfl) ?_
      exact WL.cutEnd () trivial (.cons rfl (.cons rfl (.cons rfl (.cons (some_bool hq_85184) .nil)))) (.cons .here (.cons .here .nil))
    · have hg_85185 := hb'; clear hb'
      have hq_85186 := ite_f hb_85182 hg_85185
      obtain ⟨x_85179, hx_85180, hq_85186⟩ := bind_elim hq_85186
      replace hq_85186 := Option.some.inj hq_85186
      refine WL.pin (i := 23) rfl hg_85185 ?_
      refine WL.quiet (d := 24) rfl rfl rfl (q_loadA (cs := [(.slice ao_77809 s_77808.fStart.length cap_77810), (.slice ao_77812 s_77808.fDrift.length cap_77813), (.slice ao_77815 s_77808.fFaulty.length cap_77816), (.int .i64 s_77808.fF), (.int .i64 s_77808.fE), (.slice ao_77818 s_77808.fErrs.length cap_77819), (.slice ao_77821 s_77808.fLies.length cap_77822)]) aggT_24 rfl rfl (rd_all .here)) ?_
      refine WL.callD (dd := 25) rfl rfl rfl (run_call (l := [.tmp 24]) Try.call19 (.cons rfl .nil)) (.nil : Sel [stb b_85159 24 [(.slice ao_77809 s_77808.fStart.length cap_77810), (.slice ao_77812 s_77808.fDrift.length cap_77813), (.slice ao_77815 s_77808.fFaulty.length cap_77816), (.int .i64 s_77808.fF), (.int .i64 s_77808.fE), (.slice ao_77818 s_77808.fErrs.length cap_77819), (.slice ao_77821 s_77808.fLies.length cap_77822)], fz []] [] [stb b_85159 24 [(.slice ao_77809 s_77808.fStart.length cap_77810), (.slice ao_77812 s_77808.fDrift.length cap_77813), (.slice ao_77815 s_77808.fFaulty.length cap_77816), (.int .i64 s_77808.fF), (.int .i64 s_77808.fE), (.slice ao_77818 s_77808.fErrs.length cap_77819), (.slice ao_77821 s_77808.fLies.length cap_77822)], fz []]) (fun w hw => by have pz := (hz.call2 hw (.nil : Sel [stb b_85159 24 [(.slice ao_77809 s_77808.fStart.length cap_77810), (.slice ao_77812 s_77808.fDrift.length cap_77813), (.slice ao_77815 s_77808.fFaulty.length cap_77816), (.int .i64 s_77808.fF), (.int .i64 s_77808.fE), (.slice ao_77818 s_77808.fErrs.length cap_77819), (.slice ao_77821 s_77808.fLies.length cap_77822)], fz []] [] [stb b_85159 24 [(.slice ao_77809 s_77808.fStart.length cap_77810), (.slice ao_77812 s_77808.fDrift.length cap_77813), (.slice ao_77815 s_77808.fFaulty.length cap_77816), (.int .i64 s_77808.fF), (.int .i64 s_77808.fE), (.slice ao_77818 s_77808.fErrs.length cap_77819), (.slice ao_77821 s_77808.fLies.length cap_77822)], fz []]) (.there .here)); exact w_timebase_Valid (Z := _) (ao_104 := ao_77809) (cap_105 := cap_77810) (ao_107 := ao_77812) (cap_108 := cap_77813) (ao_110 := ao_77815) (cap_111 := cap_77816) (ao_113 := ao_77818) (cap_114 := cap_77819) (ao_116 := ao_77821) (cap_117 := cap_77822) (s_103 := s_77808) (r := x_85179) w pz (hs_77811.mono (Zle.left _ _)) (hs_77814.mono (Zle.left _ _)) (hs_77817.mono (Zle.left _ _)) (hs_77820.mono (Zle.left _ _)) (hs_77823.mono (Zle.left _ _)) hx_85180) ?_
      refine WL.quiet (d := 26) rfl rfl rfl (q_not rfl) ?_
      refine WL.quiet (d := 27) rfl rfl rfl (q_pickF rfl rfl) ?_
      exact WL.cutEnd () trivial (.cons rfl (.cons rfl (.cons rfl (.cons (some_bool hq_85186) .nil)))) (.cons .here (.cons .here .nil))
  · skip
    refine WL.nil ?_
    refine WX.then ?_
    refine WC.cond rfl (fun hb_85187 => ?_) (fun hb_85187 => ?_)
    · replace h := ite_t h hb_85187
      refine WC.seq ?_
      obtain ⟨x_85188, hx_85189, h⟩ := bind_elim h
      refine WC.region ?_
      refine WL.enter1 (dd := 28) rfl rfl rfl (run_call (l := []) Try.call12 .nil) (.nil : Sel [stb b_85159 24 [(.slice ao_77809 s_77808.fStart.length cap_77810), (.slice ao_77812 s_77808.fDrift.length cap_77813), (.slice ao_77815 s_77808.fFaulty.length cap_77816), (.int .i64 s_77808.fF), (.int .i64 s_77808.fE), (.slice ao_77818 s_77808.fErrs.length cap_77819), (.slice ao_77821 s_77808.fLies.length cap_77822)], fz []] [] [stb b_85159 24 [(.slice ao_77809 s_77808.fStart.length cap_77810), (.slice ao_77812 s_77808.fDrift.length cap_77813), (.slice ao_77815 s_77808.fFaulty.length cap_77816), (.int .i64 s_77808.fF), (.int .i64 s_77808.fE), (.slice ao_77818 s_77808.fErrs.length cap_77819), (.slice ao_77821 s_77808.fLies.length cap_77822)], fz []]) (fun w hw => by have pz := (hz.call2 hw (.nil : Sel [stb b_85159 24 [(.slice ao_77809 s_77808.fStart.length cap_77810), (.slice ao_77812 s_77808.fDrift.length cap_77813), (.slice ao_77815 s_77808.fFaulty.length cap_77816), (.int .i64 s_77808.fF), (.int .i64 s_77808.fE), (.slice ao_77818 s_77808.fErrs.length cap_77819), (.slice ao_77821 s_77808.fLies.length cap_77822)], fz []] [] [stb b_85159 24 [(.slice ao_77809 s_77808.fStart.length cap_77810), (.slice ao_77812 s_77808.fDrift.length cap_77813), (.slice ao_77815 s_77808.fFaulty.length cap_77816), (.int .i64 s_77808.fF), (.int .i64 s_77808.fE), (.slice ao_77818 s_77808.fErrs.length cap_77819), (.slice ao_77821 s_77808.fLies.length cap_77822)], fz []]) (.there .here)); exact w_law34_awake (Z := _)   (r := x_85188) w pz  hx_85189) ?_
      rintro Zn_85192 _
      refine WL.merge .here (.there .here) ?_
      refine WL.quiet (d := 6) rfl rfl rfl (q_assign rfl) ?_
      refine WL.nil ?_
      refine WX.then ?_
      refine WC.ret ?_
      refine WX.thenRet ?_
      obtain rfl := Option.some.inj h
      refine WX.bpRet Try.results9 (.tmp rfl .nil) (fun w hw => ?_)
      exact ⟨([] ++ Zn_85192), ret1 rfl, trivial, hw.sub (.cons .here .nil)⟩
    · replace h := ite_f h hb_85187
      refine WC.skip ?_
      refine WX.then ?_
      refine WC.seq ?_
      refine WC.region ?_
      refine WL.quiet (d := 29) rfl rfl rfl (q_loadA (cs := [(.slice ao_77809 s_77808.fStart.length cap_77810), (.slice ao_77812 s_77808.fDrift.length cap_77813), (.slice ao_77815 s_77808.fFaulty.length cap_77816), (.int .i64 s_77808.fF), (.int .i64 s_77808.fE), (.slice ao_77818 s_77808.fErrs.length cap_77819), (.slice ao_77821 s_77808.fLies.length cap_77822)]) aggT_24 rfl rfl (rd_all .here)) ?_
      refine WL.new (dd := 7) rfl rfl rfl (e_alloc (cs := [(.slice none 0 0), (.slice none 0 0), (.slice none 0 0), (.int .i64 0), (.int .i64 0), (.slice none 0 0), (.slice none 0 0)]) zeroT_24 rfl) ?_
      intro b_85195 _
      refine WL.eff0 rfl rfl (e_store (vs := [(.slice ao_77809 s_77808.fStart.length cap_77810), (.slice ao_77812 s_77808.fDrift.length cap_77813), (.slice ao_77815 s_77808.fFaulty.length cap_77816), (.int .i64 s_77808.fF), (.int .i64 s_77808.fE), (.slice ao_77818 s_77808.fErrs.length cap_77819), (.slice ao_77821 s_77808.fLies.length cap_77822)]) (ds := [(.slice ao_77809 s_77808.fStart.length cap_77810), (.slice ao_77812 s_77808.fDrift.length cap_77813), (.slice ao_77815 s_77808.fFaulty.length cap_77816), (.int .i64 s_77808.fF), (.int .i64 s_77808.fE), (.slice ao_77818 s_77808.fErrs.length cap_77819), (.slice ao_77821 s_77808.fLies.length cap_77822)]) sizT_24 rfl rfl rfl rfl (oc_cons rfl (oc_cons rfl (oc_cons rfl (oc_cons rfl (oc_cons rfl (oc_cons rfl (oc_cons rfl oc_nil))))))) .here (Nat.le_of_ble_eq_true rfl) rfl) ?_
      refine WL.nil ?_
      refine WX.then ?_
      refine WC.seq ?_
      refine WC.region ?_
      refine WL.quiet (d := 30) rfl rfl rfl (q_fieldAddr fo_24_0 rfl rfl) ?_
      refine WL.eff0 rfl rfl (e_store (vs := [(.slice none 0 0)]) (ds := [(.slice none 0 0), (.slice ao_77812 s_77808.fDrift.length cap_77813), (.slice ao_77815 s_77808.fFaulty.length cap_77816), (.int .i64 s_77808.fF), (.int .i64 s_77808.fE), (.slice ao_77818 s_77808.fErrs.length cap_77819), (.slice ao_77821 s_77808.fLies.length cap_77822)]) sizT_22 rfl rfl rfl rfl (oc_cons rfl oc_nil) .here (Nat.le_of_ble_eq_true rfl) rfl) ?_
      refine WL.nil ?_
      refine WX.then ?_
      obtain ⟨k_85318, hk_85319, h⟩ := jp1_elim h
      refine WC.seqMid3 (fun (c_85315 : List Int) (ao_85316 : Option Addr) (cap_85317 : Nat) => (k_85318 c_85315 = some r)) (fun (c_85315 : List Int) (ao_85316 : Option Addr) (cap_85317 : Nat) => [(1, (.int .i16 by_77824)), (2, (.int .u8 rounds_77825)), (3, (.pointer (some ⟨b_85159, 0, none⟩))), (7, (.pointer (some ⟨b_85195, 0, none⟩)))]) (fun (c_85315 : List Int) (ao_85316 : Option Addr) (cap_85317 : Nat) => [fz [], stb b_85159 24 [(.slice ao_77809 s_77808.fStart.length cap_77810), (.slice ao_77812 s_77808.fDrift.length cap_77813), (.slice ao_77815 s_77808.fFaulty.length cap_77816), (.int .i64 s_77808.fF), (.int .i64 s_77808.fE), (.slice ao_77818 s_77808.fErrs.length cap_77819), (.slice ao_77821 s_77808.fLies.length cap_77822)], stb b_85195 24 [(.slice ao_85316 c_85315.length cap_85317), (.slice ao_77812 s_77808.fDrift.length cap_77813), (.slice ao_77815 s_77808.fFaulty.length cap_77816), (.int .i64 s_77808.fF), (.int .i64 s_77808.fE), (.slice ao_77818 s_77808.fErrs.length cap_77819), (.slice ao_77821 s_77808.fLies.length cap_77822)], row (.slice ao_85316 c_85315.length cap_85317) 3 1 (c_85315.flatMap e3)]) ?_ ?_
      · skip
        refine WC.seq ?_
        refine WC.region ?_
        refine WL.quiet (d := 31) rfl rfl rfl (q_fieldAddr fo_24_0 rfl rfl) ?_
        refine WL.quiet (d := 32) rfl rfl rfl (q_load1 oneT_22 rfl (rd_stb (.there .here) rfl)) ?_
        refine WL.quiet (d := 33) rfl rfl rfl (q_len Try.underlying22 rfl) ?_
        refine WL.quiet (d := 34) rfl rfl rfl (q_move rfl) ?_
        refine WL.nil ?_
        refine WX.then ?_
        refine WC.block ?_
        refine WC.nilRow 3 1 ?_
        refine WC.loop5 (fun (n_85364 : Nat) (v_85359 : Int) (c_85361 : List Int) (ao_85362 : Option Addr) (cap_85363 : Nat) => (m_law34_TimebaseShift_L4 s_77808 by_77824 k_85318 n_85364 v_85359 c_85361 = some r)) (fun (n_85364 : Nat) (v_85359 : Int) (c_85361 : List Int) (ao_85362 : Option Addr) (cap_85363 : Nat) => [(1, (.int .i16 by_77824)), (2, (.int .u8 rounds_77825)), (3, (.pointer (some ⟨b_85159, 0, none⟩))), (7, (.pointer (some ⟨b_85195, 0, none⟩))), (32, (.slice ao_77809 s_77808.fStart.length cap_77810)), (33, (.int .i64 ((s_77808.fStart.length : Nat) : Int))), (34, (.int .i64 v_85359))]) (fun (n_85364 : Nat) (v_85359 : Int) (c_85361 : List Int) (ao_85362 : Option Addr) (cap_85363 : Nat) => [fz [], stb b_85159 24 [(.slice ao_77809 s_77808.fStart.length cap_77810), (.slice ao_77812 s_77808.fDrift.length cap_77813), (.slice ao_77815 s_77808.fFaulty.length cap_77816), (.int .i64 s_77808.fF), (.int .i64 s_77808.fE), (.slice ao_77818 s_77808.fErrs.length cap_77819), (.slice ao_77821 s_77808.fLies.length cap_77822)], stb b_85195 24 [(.slice ao_85362 c_85361.length cap_85363), (.slice ao_77812 s_77808.fDrift.length cap_77813), (.slice ao_77815 s_77808.fFaulty.length cap_77816), (.int .i64 s_77808.fF), (.int .i64 s_77808.fE), (.slice ao_77818 s_77808.fErrs.length cap_77819), (.slice ao_77821 s_77808.fLies.length cap_77822)], row (.slice ao_85362 c_85361.length cap_85363) 3 1 (c_85361.flatMap e3)]) (fun (n_85364 : Nat) (v_85359 : Int) (c_85361 : List Int) (ao_85362 : Option Addr) (cap_85363 : Nat) => n_85364) ⟨FUEL, 0, ([] : List Int), none, 0⟩ h (.cons rfl (.cons rfl (.cons rfl (.cons rfl (.cons rfl (.cons rfl (.cons rfl .nil))))))) (.cons (.there (.there (.there .here))) (.cons (.there (.there .here)) (.cons (.there .here) (.cons .here .nil)))) ?_
        rintro n_85364 v_85359 c_85361 ao_85362 cap_85363 h
        obtain ⟨n_85366, rfl⟩ := m_law34_TimebaseShift_L4_fuel h
        rw [m_law34_TimebaseShift_L4] at h
        refine WC.seq ?_
        refine WC.region ?_
        refine WL.quiet (d := 35) rfl rfl rfl (q_lss rfl rfl) ?_
        refine WL.nil ?_
        refine WX.then ?_
        refine WC.seq ?_
        refine WC.cond rfl (fun hb_85368 => ?_) (fun hb_85368 => ?_)
        · replace h := ite_t h hb_85368
          refine WC.skip ?_
          refine WX.then ?_
          refine WC.seq ?_
          refine WC.block ?_
          refine WC.seq ?_
          obtain ⟨c_85385, h⟩ := chk_elim h
          refine WC.region ?_
          refine WL.znth (dd := 36) rfl rfl (Z := (Z ++ [])) (Pr := (fun r x => r = e3 x)) elT_22 rfl rfl (hs_77811.mono (Zle.left _ _)) c_85385 ?_
          rintro A_85390 r_85391 hA_85392 hl_85393 rfl
          refine WL.quiet (d := 37) rfl rfl rfl (q_load1 oneT_3 rfl (rd_z (hz.pv2 .here) hA_85392 rfl)) ?_
          refine WL.quiet (d := 9) rfl rfl rfl (q_assign rfl) ?_
          refine WL.nil ?_
          refine WX.then ?_
          obtain ⟨c_85395, h⟩ := chk_elim h
          refine WC.region ?_
          refine WL.quiet (d := 38) rfl rfl rfl (q_fieldAddr fo_24_0 rfl rfl) ?_
          refine WL.quiet (d := 39) rfl rfl rfl (q_load1 oneT_22 rfl (rd_stb (.there (.there .here)) rfl)) ?_
          refine WL.quiet (d := 40) rfl rfl rfl (q_move rfl) ?_
          refine WL.quiet (d := 41) rfl rfl rfl (q_move rfl) ?_
          refine WL.quiet (d := 42) rfl rfl rfl (q_conv Try.underlying51 Try.underlying3 rfl rfl) ?_
          refine WL.quiet (d := 43) rfl rfl rfl (q_add rfl rfl rfl) ?_
          refine WL.new (dd := 44) rfl rfl rfl (e_buildSlice (cs := ([i64 ((nth s_77808.fStart v_85359) + (i64 by_77824))] : List Int).flatMap e3) elT_22 (Eos.parts (l := [.tmp 43]) (.cons rfl .nil) [0]) (fun _ => by kernel_rfl) rfl (by unfold maxLen; omega)) ?_
          intro b_85398 _
          refine WL.eff (d := 45) rfl rfl rfl (e_appendF (enc := e3) (l1 := c_85361) (l2 := ([i64 ((nth s_77808.fStart v_85359) + (i64 by_77824))] : List Int)) elT_22 rfl rfl (.there (.there (.there (.there .here)))) (fun _ => rfl) rfl rfl (news_row .here) (oc_flat e3_oc _) c_85395) ?_
          rintro ⟨ao_85399, cap_85400⟩ _
          refine WL.quiet (d := 46) rfl rfl rfl (q_fieldAddr fo_24_0 rfl rfl) ?_
          refine WL.eff0 rfl rfl (e_store (vs := [(.slice ao_85399 ((c_85361 ++ ([i64 ((nth s_77808.fStart v_85359) + (i64 by_77824))] : List Int)).length) cap_85400)]) (ds := [(.slice ao_85399 ((c_85361 ++ ([i64 ((nth s_77808.fStart v_85359) + (i64 by_77824))] : List Int)).length) cap_85400), (.slice ao_77812 s_77808.fDrift.length cap_77813), (.slice ao_77815 s_77808.fFaulty.length cap_77816), (.int .i64 s_77808.fF), (.int .i64 s_77808.fE), (.slice ao_77818 s_77808.fErrs.length cap_77819), (.slice ao_77821 s_77808.fLies.length cap_77822)]) sizT_22 rfl rfl rfl rfl (oc_cons rfl oc_nil) (.there (.there (.there (.there .here)))) (Nat.le_of_ble_eq_true rfl) rfl) ?_
          refine WL.nil ?_
          refine WX.blockNormal ?_
          refine WX.then ?_
          refine WC.region ?_
          refine WL.quiet (d := 47) rfl rfl rfl (q_add rfl rfl rfl) ?_
          refine WL.quiet (d := 34) rfl rfl rfl (q_move rfl) ?_
          refine WL.nil ?_
          exact WX.round (G := Nat × Int × List Int × Option Addr × Nat) ⟨n_85366, (i64 (v_85359 + 1)), (c_85361 ++ ([i64 ((nth s_77808.fStart v_85359) + (i64 by_77824))] : List Int)), ao_85399, cap_85400⟩ h (Nat.lt_succ_self _) (.cons rfl (.cons rfl (.cons rfl (.cons rfl (.cons rfl (.cons rfl (.cons rfl .nil))))))) (.cons (.there (.there (.there .here))) (.cons (.there (.there (.there .here))) (.cons .here (.cons .here .nil))))
        · replace h := ite_f h hb_85368
          refine WC.exit ?_
          refine WX.thenExit ?_
          refine WX.thenExit ?_
          refine WX.blockHit ?_
          exact WX.mid (G := List Int × Option Addr × Nat) ⟨c_85361, ao_85362, cap_85363⟩ h (.cons rfl (.cons rfl (.cons rfl (.cons rfl .nil)))) (.cons .here (.cons .here (.cons .here (.cons .here .nil))))
      · rintro c_85315 ao_85316 cap_85317 h
        replace h := (hk_85319 c_85315).symm.trans h
        refine WC.seq ?_
        refine WC.seq ?_
        obtain ⟨x_85410, hx_85411, h⟩ := bind_elim h
        refine WC.region ?_
        refine WL.quiet (d := 48) rfl rfl rfl (q_loadA (cs := [(.slice ao_85316 c_85315.length cap_85317), (.slice ao_77812 s_77808.fDrift.length cap_77813), (.slice ao_77815 s_77808.fFaulty.length cap_77816), (.int .i64 s_77808.fF), (.int .i64 s_77808.fE), (.slice ao_77818 s_77808.fErrs.length cap_77819), (.slice ao_77821 s_77808.fLies.length cap_77822)]) aggT_24 rfl rfl (rd_all (.there (.there .here)))) ?_
        refine WL.callD (dd := 49) rfl rfl rfl (run_call (l := [.tmp 48]) Try.call19 (.cons rfl .nil)) (.nil : Sel [fz [], stb b_85159 24 [(.slice ao_77809 s_77808.fStart.length cap_77810), (.slice ao_77812 s_77808.fDrift.length cap_77813), (.slice ao_77815 s_77808.fFaulty.length cap_77816), (.int .i64 s_77808.fF), (.int .i64 s_77808.fE), (.slice ao_77818 s_77808.fErrs.length cap_77819), (.slice ao_77821 s_77808.fLies.length cap_77822)], stb b_85195 24 [(.slice ao_85316 c_85315.length cap_85317), (.slice ao_77812 s_77808.fDrift.length cap_77813), (.slice ao_77815 s_77808.fFaulty.length cap_77816), (.int .i64 s_77808.fF), (.int .i64 s_77808.fE), (.slice ao_77818 s_77808.fErrs.length cap_77819), (.slice ao_77821 s_77808.fLies.length cap_77822)], row (.slice ao_85316 c_85315.length cap_85317) 3 1 (c_85315.flatMap e3)] [] [fz [], stb b_85159 24 [(.slice ao_77809 s_77808.fStart.length cap_77810), (.slice ao_77812 s_77808.fDrift.length cap_77813), (.slice ao_77815 s_77808.fFaulty.length cap_77816), (.int .i64 s_77808.fF), (.int .i64 s_77808.fE), (.slice ao_77818 s_77808.fErrs.length cap_77819), (.slice ao_77821 s_77808.fLies.length cap_77822)], stb b_85195 24 [(.slice ao_85316 c_85315.length cap_85317), (.slice ao_77812 s_77808.fDrift.length cap_77813), (.slice ao_77815 s_77808.fFaulty.length cap_77816), (.int .i64 s_77808.fF), (.int .i64 s_77808.fE), (.slice ao_77818 s_77808.fErrs.length cap_77819), (.slice ao_77821 s_77808.fLies.length cap_77822)], row (.slice ao_85316 c_85315.length cap_85317) 3 1 (c_85315.flatMap e3)]) (fun w hw => by have pz := (hz.call2 hw (.nil : Sel [fz [], stb b_85159 24 [(.slice ao_77809 s_77808.fStart.length cap_77810), (.slice ao_77812 s_77808.fDrift.length cap_77813), (.slice ao_77815 s_77808.fFaulty.length cap_77816), (.int .i64 s_77808.fF), (.int .i64 s_77808.fE), (.slice ao_77818 s_77808.fErrs.length cap_77819), (.slice ao_77821 s_77808.fLies.length cap_77822)], stb b_85195 24 [(.slice ao_85316 c_85315.length cap_85317), (.slice ao_77812 s_77808.fDrift.length cap_77813), (.slice ao_77815 s_77808.fFaulty.length cap_77816), (.int .i64 s_77808.fF), (.int .i64 s_77808.fE), (.slice ao_77818 s_77808.fErrs.length cap_77819), (.slice ao_77821 s_77808.fLies.length cap_77822)], row (.slice ao_85316 c_85315.length cap_85317) 3 1 (c_85315.flatMap e3)] [] [fz [], stb b_85159 24 [(.slice ao_77809 s_77808.fStart.length cap_77810), (.slice ao_77812 s_77808.fDrift.length cap_77813), (.slice ao_77815 s_77808.fFaulty.length cap_77816), (.int .i64 s_77808.fF), (.int .i64 s_77808.fE), (.slice ao_77818 s_77808.fErrs.length cap_77819), (.slice ao_77821 s_77808.fLies.length cap_77822)], stb b_85195 24 [(.slice ao_85316 c_85315.length cap_85317), (.slice ao_77812 s_77808.fDrift.length cap_77813), (.slice ao_77815 s_77808.fFaulty.length cap_77816), (.int .i64 s_77808.fF), (.int .i64 s_77808.fE), (.slice ao_77818 s_77808.fErrs.length cap_77819), (.slice ao_77821 s_77808.fLies.length cap_77822)], row (.slice ao_85316 c_85315.length cap_85317) 3 1 (c_85315.flatMap e3)]) .here).lend hw (.nil : Sel [fz [], stb b_85159 24 [(.slice ao_77809 s_77808.fStart.length cap_77810), (.slice ao_77812 s_77808.fDrift.length cap_77813), (.slice ao_77815 s_77808.fFaulty.length cap_77816), (.int .i64 s_77808.fF), (.int .i64 s_77808.fE), (.slice ao_77818 s_77808.fErrs.length cap_77819), (.slice ao_77821 s_77808.fLies.length cap_77822)], stb b_85195 24 [(.slice ao_85316 c_85315.length cap_85317), (.slice ao_77812 s_77808.fDrift.length cap_77813), (.slice ao_77815 s_77808.fFaulty.length cap_77816), (.int .i64 s_77808.fF), (.int .i64 s_77808.fE), (.slice ao_77818 s_77808.fErrs.length cap_77819), (.slice ao_77821 s_77808.fLies.length cap_77822)], row (.slice ao_85316 c_85315.length cap_85317) 3 1 (c_85315.flatMap e3)] [] [fz [], stb b_85159 24 [(.slice ao_77809 s_77808.fStart.length cap_77810), (.slice ao_77812 s_77808.fDrift.length cap_77813), (.slice ao_77815 s_77808.fFaulty.length cap_77816), (.int .i64 s_77808.fF), (.int .i64 s_77808.fE), (.slice ao_77818 s_77808.fErrs.length cap_77819), (.slice ao_77821 s_77808.fLies.length cap_77822)], stb b_85195 24 [(.slice ao_85316 c_85315.length cap_85317), (.slice ao_77812 s_77808.fDrift.length cap_77813), (.slice ao_77815 s_77808.fFaulty.length cap_77816), (.int .i64 s_77808.fF), (.int .i64 s_77808.fE), (.slice ao_77818 s_77808.fErrs.length cap_77819), (.slice ao_77821 s_77808.fLies.length cap_77822)], row (.slice ao_85316 c_85315.length cap_85317) 3 1 (c_85315.flatMap e3)]) (B := [row (.slice ao_85316 c_85315.length cap_85317) 3 1 (c_85315.flatMap e3)]) (fun _ hx' => ((.cons (.there (.there (.there .here))) .nil) : Sel _ [row (.slice ao_85316 c_85315.length cap_85317) 3 1 (c_85315.flatMap e3)] _).mem hx'); exact w_timebase_Valid (Z := _) (ao_104 := ao_85316) (cap_105 := cap_85317) (ao_107 := ao_77812) (cap_108 := cap_77813) (ao_110 := ao_77815) (cap_111 := cap_77816) (ao_113 := ao_77818) (cap_114 := cap_77819) (ao_116 := ao_77821) (cap_117 := cap_77822) (s_103 := (⟨c_85315, s_77808.fDrift, s_77808.fFaulty, s_77808.fF, s_77808.fE, s_77808.fErrs, s_77808.fLies⟩ : Stimebase_Setup)) (r := x_85410) w pz (ZA.row (hw.lent (.nil : Sel [fz [], stb b_85159 24 [(.slice ao_77809 s_77808.fStart.length cap_77810), (.slice ao_77812 s_77808.fDrift.length cap_77813), (.slice ao_77815 s_77808.fFaulty.length cap_77816), (.int .i64 s_77808.fF), (.int .i64 s_77808.fE), (.slice ao_77818 s_77808.fErrs.length cap_77819), (.slice ao_77821 s_77808.fLies.length cap_77822)], stb b_85195 24 [(.slice ao_85316 c_85315.length cap_85317), (.slice ao_77812 s_77808.fDrift.length cap_77813), (.slice ao_77815 s_77808.fFaulty.length cap_77816), (.int .i64 s_77808.fF), (.int .i64 s_77808.fE), (.slice ao_77818 s_77808.fErrs.length cap_77819), (.slice ao_77821 s_77808.fLies.length cap_77822)], row (.slice ao_85316 c_85315.length cap_85317) 3 1 (c_85315.flatMap e3)] [] [fz [], stb b_85159 24 [(.slice ao_77809 s_77808.fStart.length cap_77810), (.slice ao_77812 s_77808.fDrift.length cap_77813), (.slice ao_77815 s_77808.fFaulty.length cap_77816), (.int .i64 s_77808.fF), (.int .i64 s_77808.fE), (.slice ao_77818 s_77808.fErrs.length cap_77819), (.slice ao_77821 s_77808.fLies.length cap_77822)], stb b_85195 24 [(.slice ao_85316 c_85315.length cap_85317), (.slice ao_77812 s_77808.fDrift.length cap_77813), (.slice ao_77815 s_77808.fFaulty.length cap_77816), (.int .i64 s_77808.fF), (.int .i64 s_77808.fE), (.slice ao_77818 s_77808.fErrs.length cap_77819), (.slice ao_77821 s_77808.fLies.length cap_77822)], row (.slice ao_85316 c_85315.length cap_85317) 3 1 (c_85315.flatMap e3)]) (B := [row (.slice ao_85316 c_85315.length cap_85317) 3 1 (c_85315.flatMap e3)]) (fun _ hx' => ((.cons (.there (.there (.there .here))) .nil) : Sel _ [row (.slice ao_85316 c_85315.length cap_85317) 3 1 (c_85315.flatMap e3)] _).mem hx') (.head _) _) (RR.flat (enc := e3) (fun _ => rfl) _) ⟨w, pz.1⟩) ((hs_77814.mono (Zle.left _ _)).mono (Zle.left _ _)) ((hs_77817.mono (Zle.left _ _)).mono (Zle.left _ _)) ((hs_77820.mono (Zle.left _ _)).mono (Zle.left _ _)) ((hs_77823.mono (Zle.left _ _)).mono (Zle.left _ _)) hx_85411) ?_
        refine WL.quiet (d := 50) rfl rfl rfl (q_not rfl) ?_
        refine WL.nil ?_
        refine WX.then ?_
        refine WC.cond rfl (fun hb_85412 => ?_) (fun hb_85412 => ?_)
        · replace h := ite_t h hb_85412
          refine WC.seq ?_
          obtain ⟨x_85413, hx_85414, h⟩ := bind_elim h
          refine WC.region ?_
          refine WL.enter1 (dd := 51) rfl rfl rfl (run_call (l := []) Try.call12 .nil) (.nil : Sel [fz [], stb b_85159 24 [(.slice ao_77809 s_77808.fStart.length cap_77810), (.slice ao_77812 s_77808.fDrift.length cap_77813), (.slice ao_77815 s_77808.fFaulty.length cap_77816), (.int .i64 s_77808.fF), (.int .i64 s_77808.fE), (.slice ao_77818 s_77808.fErrs.length cap_77819), (.slice ao_77821 s_77808.fLies.length cap_77822)], stb b_85195 24 [(.slice ao_85316 c_85315.length cap_85317), (.slice ao_77812 s_77808.fDrift.length cap_77813), (.slice ao_77815 s_77808.fFaulty.length cap_77816), (.int .i64 s_77808.fF), (.int .i64 s_77808.fE), (.slice ao_77818 s_77808.fErrs.length cap_77819), (.slice ao_77821 s_77808.fLies.length cap_77822)], row (.slice ao_85316 c_85315.length cap_85317) 3 1 (c_85315.flatMap e3)] [] [fz [], stb b_85159 24 [(.slice ao_77809 s_77808.fStart.length cap_77810), (.slice ao_77812 s_77808.fDrift.length cap_77813), (.slice ao_77815 s_77808.fFaulty.length cap_77816), (.int .i64 s_77808.fF), (.int .i64 s_77808.fE), (.slice ao_77818 s_77808.fErrs.length cap_77819), (.slice ao_77821 s_77808.fLies.length cap_77822)], stb b_85195 24 [(.slice ao_85316 c_85315.length cap_85317), (.slice ao_77812 s_77808.fDrift.length cap_77813), (.slice ao_77815 s_77808.fFaulty.length cap_77816), (.int .i64 s_77808.fF), (.int .i64 s_77808.fE), (.slice ao_77818 s_77808.fErrs.length cap_77819), (.slice ao_77821 s_77808.fLies.length cap_77822)], row (.slice ao_85316 c_85315.length cap_85317) 3 1 (c_85315.flatMap e3)]) (fun w hw => by have pz := (hz.call2 hw (.nil : Sel [fz [], stb b_85159 24 [(.slice ao_77809 s_77808.fStart.length cap_77810), (.slice ao_77812 s_77808.fDrift.length cap_77813), (.slice ao_77815 s_77808.fFaulty.length cap_77816), (.int .i64 s_77808.fF), (.int .i64 s_77808.fE), (.slice ao_77818 s_77808.fErrs.length cap_77819), (.slice ao_77821 s_77808.fLies.length cap_77822)], stb b_85195 24 [(.slice ao_85316 c_85315.length cap_85317), (.slice ao_77812 s_77808.fDrift.length cap_77813), (.slice ao_77815 s_77808.fFaulty.length cap_77816), (.int .i64 s_77808.fF), (.int .i64 s_77808.fE), (.slice ao_77818 s_77808.fErrs.length cap_77819), (.slice ao_77821 s_77808.fLies.length cap_77822)], row (.slice ao_85316 c_85315.length cap_85317) 3 1 (c_85315.flatMap e3)] [] [fz [], stb b_85159 24 [(.slice ao_77809 s_77808.fStart.length cap_77810), (.slice ao_77812 s_77808.fDrift.length cap_77813), (.slice ao_77815 s_77808.fFaulty.length cap_77816), (.int .i64 s_77808.fF), (.int .i64 s_77808.fE), (.slice ao_77818 s_77808.fErrs.length cap_77819), (.slice ao_77821 s_77808.fLies.length cap_77822)], stb b_85195 24 [(.slice ao_85316 c_85315.length cap_85317), (.slice ao_77812 s_77808.fDrift.length cap_77813), (.slice ao_77815 s_77808.fFaulty.length cap_77816), (.int .i64 s_77808.fF), (.int .i64 s_77808.fE), (.slice ao_77818 s_77808.fErrs.length cap_77819), (.slice ao_77821 s_77808.fLies.length cap_77822)], row (.slice ao_85316 c_85315.length cap_85317) 3 1 (c_85315.flatMap e3)]) .here); exact w_law34_awake (Z := _)   (r := x_85413) w pz  hx_85414) ?_
          rintro Zn_85417 _
          refine WL.merge .here .here ?_
          refine WL.quiet (d := 6) rfl rfl rfl (q_assign rfl) ?_
          refine WL.nil ?_
          refine WX.then ?_
          refine WC.ret ?_
          refine WX.thenRet ?_
          obtain rfl := Option.some.inj h
          refine WX.bpRet Try.results9 (.tmp rfl .nil) (fun w hw => ?_)
          exact ⟨([] ++ Zn_85417), ret1 rfl, trivial, hw.sub (.cons .here .nil)⟩
        · replace h := ite_f h hb_85412
          refine WC.skip ?_
          refine WX.then ?_
          refine WC.seq ?_
          obtain ⟨x_85419, hx_85420, h⟩ := bind_elim h
          refine WC.region ?_
          refine WL.quiet (d := 53) rfl rfl rfl (q_loadA (cs := [(.slice ao_77809 s_77808.fStart.length cap_77810), (.slice ao_77812 s_77808.fDrift.length cap_77813), (.slice ao_77815 s_77808.fFaulty.length cap_77816), (.int .i64 s_77808.fF), (.int .i64 s_77808.fE), (.slice ao_77818 s_77808.fErrs.length cap_77819), (.slice ao_77821 s_77808.fLies.length cap_77822)]) aggT_24 rfl rfl (rd_all (.there .here))) ?_
          refine WL.quiet (d := 54) rfl rfl rfl (q_move rfl) ?_
          refine WL.quiet (d := 55) rfl rfl rfl (q_rem rfl rfl (by decide) rfl) ?_
          refine WL.quiet (d := 56) rfl rfl rfl (q_conv Try.underlying5 Try.underlying3 rfl rfl) ?_
          refine WL.enter4 (dd := 57) rfl rfl rfl (run_call (l := [.tmp 53, .tmp 56]) Try.call16 (.cons rfl (.cons rfl .nil))) (.nil : Sel [fz [], stb b_85159 24 [(.slice ao_77809 s_77808.fStart.length cap_77810), (.slice ao_77812 s_77808.fDrift.length cap_77813), (.slice ao_77815 s_77808.fFaulty.length cap_77816), (.int .i64 s_77808.fF), (.int .i64 s_77808.fE), (.slice ao_77818 s_77808.fErrs.length cap_77819), (.slice ao_77821 s_77808.fLies.length cap_77822)], stb b_85195 24 [(.slice ao_85316 c_85315.length cap_85317), (.slice ao_77812 s_77808.fDrift.length cap_77813), (.slice ao_77815 s_77808.fFaulty.length cap_77816), (.int .i64 s_77808.fF), (.int .i64 s_77808.fE), (.slice ao_77818 s_77808.fErrs.length cap_77819), (.slice ao_77821 s_77808.fLies.length cap_77822)], row (.slice ao_85316 c_85315.length cap_85317) 3 1 (c_85315.flatMap e3)] [] [fz [], stb b_85159 24 [(.slice ao_77809 s_77808.fStart.length cap_77810), (.slice ao_77812 s_77808.fDrift.length cap_77813), (.slice ao_77815 s_77808.fFaulty.length cap_77816), (.int .i64 s_77808.fF), (.int .i64 s_77808.fE), (.slice ao_77818 s_77808.fErrs.length cap_77819), (.slice ao_77821 s_77808.fLies.length cap_77822)], stb b_85195 24 [(.slice ao_85316 c_85315.length cap_85317), (.slice ao_77812 s_77808.fDrift.length cap_77813), (.slice ao_77815 s_77808.fFaulty.length cap_77816), (.int .i64 s_77808.fF), (.int .i64 s_77808.fE), (.slice ao_77818 s_77808.fErrs.length cap_77819), (.slice ao_77821 s_77808.fLies.length cap_77822)], row (.slice ao_85316 c_85315.length cap_85317) 3 1 (c_85315.flatMap e3)]) (fun w hw => by have pz := (hz.call2 hw (.nil : Sel [fz [], stb b_85159 24 [(.slice ao_77809 s_77808.fStart.length cap_77810), (.slice ao_77812 s_77808.fDrift.length cap_77813), (.slice ao_77815 s_77808.fFaulty.length cap_77816), (.int .i64 s_77808.fF), (.int .i64 s_77808.fE), (.slice ao_77818 s_77808.fErrs.length cap_77819), (.slice ao_77821 s_77808.fLies.length cap_77822)], stb b_85195 24 [(.slice ao_85316 c_85315.length cap_85317), (.slice ao_77812 s_77808.fDrift.length cap_77813), (.slice ao_77815 s_77808.fFaulty.length cap_77816), (.int .i64 s_77808.fF), (.int .i64 s_77808.fE), (.slice ao_77818 s_77808.fErrs.length cap_77819), (.slice ao_77821 s_77808.fLies.length cap_77822)], row (.slice ao_85316 c_85315.length cap_85317) 3 1 (c_85315.flatMap e3)] [] [fz [], stb b_85159 24 [(.slice ao_77809 s_77808.fStart.length cap_77810), (.slice ao_77812 s_77808.fDrift.length cap_77813), (.slice ao_77815 s_77808.fFaulty.length cap_77816), (.int .i64 s_77808.fF), (.int .i64 s_77808.fE), (.slice ao_77818 s_77808.fErrs.length cap_77819), (.slice ao_77821 s_77808.fLies.length cap_77822)], stb b_85195 24 [(.slice ao_85316 c_85315.length cap_85317), (.slice ao_77812 s_77808.fDrift.length cap_77813), (.slice ao_77815 s_77808.fFaulty.length cap_77816), (.int .i64 s_77808.fF), (.int .i64 s_77808.fE), (.slice ao_77818 s_77808.fErrs.length cap_77819), (.slice ao_77821 s_77808.fLies.length cap_77822)], row (.slice ao_85316 c_85315.length cap_85317) 3 1 (c_85315.flatMap e3)]) .here); exact w_timebase_Run (Z := _) (ao_13211 := ao_77809) (cap_13212 := cap_77810) (ao_13214 := ao_77812) (cap_13215 := cap_77813) (ao_13217 := ao_77815) (cap_13218 := cap_77816) (ao_13220 := ao_77818) (cap_13221 := cap_77819) (ao_13223 := ao_77821) (cap_13224 := cap_77822) (s_13210 := s_77808) (rounds_13226 := (i64 (Int.tmod rounds_77825 31))) (r := x_85419) w pz (hs_77811.mono (Zle.left _ _)) (hs_77814.mono (Zle.left _ _)) (hs_77817.mono (Zle.left _ _)) (hs_77820.mono (Zle.left _ _)) (hs_77823.mono (Zle.left _ _)) hx_85420) ?_
          rintro Zn_85428 ao_85429 cap_85430 cs_85431 hf_85432
          refine WL.merge .here (.there .here) ?_
          refine WL.quiet (d := 52) rfl rfl rfl (q_move rfl) ?_
          refine WL.quiet (d := 58) rfl rfl rfl (q_extract rfl rfl) ?_
          refine WL.quiet (d := 59) rfl rfl rfl (q_extract rfl rfl) ?_
          refine WL.quiet (d := 10) rfl rfl rfl (q_assign rfl) ?_
          refine WL.quiet (d := 11) rfl rfl rfl (q_assign rfl) ?_
          refine WL.nil ?_
          refine WX.then ?_
          refine WC.seq ?_
          obtain ⟨x_85438, hx_85439, h⟩ := bind_elim h
          refine WC.region ?_
          refine WL.quiet (d := 61) rfl rfl rfl (q_loadA (cs := [(.slice ao_85316 c_85315.length cap_85317), (.slice ao_77812 s_77808.fDrift.length cap_77813), (.slice ao_77815 s_77808.fFaulty.length cap_77816), (.int .i64 s_77808.fF), (.int .i64 s_77808.fE), (.slice ao_77818 s_77808.fErrs.length cap_77819), (.slice ao_77821 s_77808.fLies.length cap_77822)]) aggT_24 rfl rfl (rd_all (.there (.there (.there .here))))) ?_
          refine WL.quiet (d := 62) rfl rfl rfl (q_move rfl) ?_
          refine WL.quiet (d := 63) rfl rfl rfl (q_rem rfl rfl (by decide) rfl) ?_
          refine WL.quiet (d := 64) rfl rfl rfl (q_conv Try.underlying5 Try.underlying3 rfl rfl) ?_
          refine WL.freezeS (.there (.there (.there (.there .here)))) .here hz (RR.flat (enc := e3) (fun _ => rfl) _) ?_
          intro Zn_85447 hle_85448 hf_85449
          refine WL.enter4 (dd := 65) rfl rfl rfl (run_call (l := [.tmp 61, .tmp 64]) Try.call16 (.cons rfl (.cons rfl .nil))) (.nil : Sel [fz Zn_85447, row (.slice ao_85429 x_85419.1.length cap_85430) 22 1 cs_85431, stb b_85159 24 [(.slice ao_77809 s_77808.fStart.length cap_77810), (.slice ao_77812 s_77808.fDrift.length cap_77813), (.slice ao_77815 s_77808.fFaulty.length cap_77816), (.int .i64 s_77808.fF), (.int .i64 s_77808.fE), (.slice ao_77818 s_77808.fErrs.length cap_77819), (.slice ao_77821 s_77808.fLies.length cap_77822)], stb b_85195 24 [(.slice ao_85316 c_85315.length cap_85317), (.slice ao_77812 s_77808.fDrift.length cap_77813), (.slice ao_77815 s_77808.fFaulty.length cap_77816), (.int .i64 s_77808.fF), (.int .i64 s_77808.fE), (.slice ao_77818 s_77808.fErrs.length cap_77819), (.slice ao_77821 s_77808.fLies.length cap_77822)]] [] [fz Zn_85447, row (.slice ao_85429 x_85419.1.length cap_85430) 22 1 cs_85431, stb b_85159 24 [(.slice ao_77809 s_77808.fStart.length cap_77810), (.slice ao_77812 s_77808.fDrift.length cap_77813), (.slice ao_77815 s_77808.fFaulty.length cap_77816), (.int .i64 s_77808.fF), (.int .i64 s_77808.fE), (.slice ao_77818 s_77808.fErrs.length cap_77819), (.slice ao_77821 s_77808.fLies.length cap_77822)], stb b_85195 24 [(.slice ao_85316 c_85315.length cap_85317), (.slice ao_77812 s_77808.fDrift.length cap_77813), (.slice ao_77815 s_77808.fFaulty.length cap_77816), (.int .i64 s_77808.fF), (.int .i64 s_77808.fE), (.slice ao_77818 s_77808.fErrs.length cap_77819), (.slice ao_77821 s_77808.fLies.length cap_77822)]]) (fun w hw => by have pz := (hz.call2 hw (.nil : Sel [fz Zn_85447, row (.slice ao_85429 x_85419.1.length cap_85430) 22 1 cs_85431, stb b_85159 24 [(.slice ao_77809 s_77808.fStart.length cap_77810), (.slice ao_77812 s_77808.fDrift.length cap_77813), (.slice ao_77815 s_77808.fFaulty.length cap_77816), (.int .i64 s_77808.fF), (.int .i64 s_77808.fE), (.slice ao_77818 s_77808.fErrs.length cap_77819), (.slice ao_77821 s_77808.fLies.length cap_77822)], stb b_85195 24 [(.slice ao_85316 c_85315.length cap_85317), (.slice ao_77812 s_77808.fDrift.length cap_77813), (.slice ao_77815 s_77808.fFaulty.length cap_77816), (.int .i64 s_77808.fF), (.int .i64 s_77808.fE), (.slice ao_77818 s_77808.fErrs.length cap_77819), (.slice ao_77821 s_77808.fLies.length cap_77822)]] [] [fz Zn_85447, row (.slice ao_85429 x_85419.1.length cap_85430) 22 1 cs_85431, stb b_85159 24 [(.slice ao_77809 s_77808.fStart.length cap_77810), (.slice ao_77812 s_77808.fDrift.length cap_77813), (.slice ao_77815 s_77808.fFaulty.length cap_77816), (.int .i64 s_77808.fF), (.int .i64 s_77808.fE), (.slice ao_77818 s_77808.fErrs.length cap_77819), (.slice ao_77821 s_77808.fLies.length cap_77822)], stb b_85195 24 [(.slice ao_85316 c_85315.length cap_85317), (.slice ao_77812 s_77808.fDrift.length cap_77813), (.slice ao_77815 s_77808.fFaulty.length cap_77816), (.int .i64 s_77808.fF), (.int .i64 s_77808.fE), (.slice ao_77818 s_77808.fErrs.length cap_77819), (.slice ao_77821 s_77808.fLies.length cap_77822)]]) .here); exact w_timebase_Run (Z := _) (ao_13211 := ao_85316) (cap_13212 := cap_85317) (ao_13214 := ao_77812) (cap_13215 := cap_77813) (ao_13217 := ao_77815) (cap_13218 := cap_77816) (ao_13220 := ao_77818) (cap_13221 := cap_77819) (ao_13223 := ao_77821) (cap_13224 := cap_77822) (s_13210 := (⟨c_85315, s_77808.fDrift, s_77808.fFaulty, s_77808.fF, s_77808.fE, s_77808.fErrs, s_77808.fLies⟩ : Stimebase_Setup)) (rounds_13226 := (i64 (Int.tmod rounds_77825 31))) (r := x_85438) w pz hf_85449 (hs_77814.mono ((Zle.left _ _).trans ((Zle.left _ _).trans ((Zle.assoc _ _ _).trans hle_85448)))) (hs_77817.mono ((Zle.left _ _).trans ((Zle.left _ _).trans ((Zle.assoc _ _ _).trans hle_85448)))) (hs_77820.mono ((Zle.left _ _).trans ((Zle.left _ _).trans ((Zle.assoc _ _ _).trans hle_85448)))) (hs_77823.mono ((Zle.left _ _).trans ((Zle.left _ _).trans ((Zle.assoc _ _ _).trans hle_85448)))) hx_85439) ?_
          rintro Zn_85450 ao_85451 cap_85452 cs_85453 hf_85454
          refine WL.merge .here (.there .here) ?_
          refine WL.quiet (d := 60) rfl rfl rfl (q_move rfl) ?_
          refine WL.quiet (d := 66) rfl rfl rfl (q_extract rfl rfl) ?_
          refine WL.quiet (d := 67) rfl rfl rfl (q_extract rfl rfl) ?_
          refine WL.quiet (d := 12) rfl rfl rfl (q_assign rfl) ?_
          refine WL.quiet (d := 13) rfl rfl rfl (q_assign rfl) ?_
          refine WL.nil ?_
          refine WX.then ?_
          refine WC.seq ?_
          refine WC.seq ?_
          refine WC.region ?_
          refine WL.quiet (d := 68) rfl rfl rfl (q_move rfl) ?_
          refine WL.quiet (d := 69) rfl rfl rfl (q_neq rfl rfl) ?_
          refine WL.quiet (d := 70) rfl rfl rfl (q_move rfl) ?_
          refine WL.cut0 True [(1, (.int .i16 by_77824)), (3, (.pointer (some ⟨b_85159, 0, none⟩))), (7, (.pointer (some ⟨b_85195, 0, none⟩))), (10, (.slice ao_85429 x_85419.1.length cap_85430)), (12, (.slice ao_85451 x_85438.1.length cap_85452)), (73, (.bool ((decide (x_85419.2 ≠ 0)) || (decide (x_85438.2 ≠ 0)))))] [fz (Zn_85447 ++ Zn_85450), row (.slice ao_85451 x_85438.1.length cap_85452) 22 1 cs_85453, row (.slice ao_85429 x_85419.1.length cap_85430) 22 1 cs_85431, stb b_85159 24 [(.slice ao_77809 s_77808.fStart.length cap_77810), (.slice ao_77812 s_77808.fDrift.length cap_77813), (.slice ao_77815 s_77808.fFaulty.length cap_77816), (.int .i64 s_77808.fF), (.int .i64 s_77808.fE), (.slice ao_77818 s_77808.fErrs.length cap_77819), (.slice ao_77821 s_77808.fLies.length cap_77822)], stb b_85195 24 [(.slice ao_85316 c_85315.length cap_85317), (.slice ao_77812 s_77808.fDrift.length cap_77813), (.slice ao_77815 s_77808.fFaulty.length cap_77816), (.int .i64 s_77808.fF), (.int .i64 s_77808.fE), (.slice ao_77818 s_77808.fErrs.length cap_77819), (.slice ao_77821 s_77808.fLies.length cap_77822)]] 3 ?_ (fun _ => ?_)
          · rcases Bool.eq_false_or_eq_true (decide (x_85419.2 ≠ 0)) with hb' | hb'
            · have hg_85462 := hb'; clear hb'
              refine WL.pin (i := 70) rfl hg_85462 ?_
              refine WL.skip rfl rfl rfl ?_
              refine WL.skip rfl rfl rfl ?_
              refine WL.quiet (d := 73) rfl rfl rfl (q_pickT rfl rfl) ?_
              exact WL.cutEnd () trivial (.cons rfl (.cons rfl (.cons rfl (.cons rfl (.cons rfl (.cons (some_bool (or_l hg_85462)) .nil)))))) (.cons .here (.cons .here (.cons .here (.cons .here (.cons .here .nil)))))
            · have hg_85463 := hb'; clear hb'
              refine WL.pin (i := 70) rfl hg_85463 ?_
              refine WL.quiet (d := 71) rfl rfl rfl (q_move rfl) ?_
              refine WL.quiet (d := 72) rfl rfl rfl (q_neq rfl rfl) ?_
              refine WL.quiet (d := 73) rfl rfl rfl (q_pickF rfl rfl) ?_
              exact WL.cutEnd () trivial (.cons rfl (.cons rfl (.cons rfl (.cons rfl (.cons rfl (.cons (some_bool (or_r hg_85463)) .nil)))))) (.cons .here (.cons .here (.cons .here (.cons .here (.cons .here .nil)))))
          · skip
            refine WL.quiet (d := 74) rfl rfl rfl (q_move rfl) ?_
            refine WL.cut0 True [(1, (.int .i16 by_77824)), (3, (.pointer (some ⟨b_85159, 0, none⟩))), (7, (.pointer (some ⟨b_85195, 0, none⟩))), (10, (.slice ao_85429 x_85419.1.length cap_85430)), (12, (.slice ao_85451 x_85438.1.length cap_85452)), (80, (.bool (((decide (x_85419.2 ≠ 0)) || (decide (x_85438.2 ≠ 0))) || (decide (((x_85419.1.length : Nat) : Int) ≠ ((x_85438.1.length : Nat) : Int))))))] [fz (Zn_85447 ++ Zn_85450), row (.slice ao_85451 x_85438.1.length cap_85452) 22 1 cs_85453, row (.slice ao_85429 x_85419.1.length cap_85430) 22 1 cs_85431, stb b_85159 24 [(.slice ao_77809 s_77808.fStart.length cap_77810), (.slice ao_77812 s_77808.fDrift.length cap_77813), (.slice ao_77815 s_77808.fFaulty.length cap_77816), (.int .i64 s_77808.fF), (.int .i64 s_77808.fE), (.slice ao_77818 s_77808.fErrs.length cap_77819), (.slice ao_77821 s_77808.fLies.length cap_77822)], stb b_85195 24 [(.slice ao_85316 c_85315.length cap_85317), (.slice ao_77812 s_77808.fDrift.length cap_77813), (.slice ao_77815 s_77808.fFaulty.length cap_77816), (.int .i64 s_77808.fF), (.int .i64 s_77808.fE), (.slice ao_77818 s_77808.fErrs.length cap_77819), (.slice ao_77821 s_77808.fLies.length cap_77822)]] 6 ?_ (fun _ => ?_)
            · rcases Bool.eq_false_or_eq_true ((decide (x_85419.2 ≠ 0)) || (decide (x_85438.2 ≠ 0))) with hb' | hb'
              · have hg_85464 := hb'; clear hb'
                refine WL.pin (i := 74) rfl hg_85464 ?_
                refine WL.skip rfl rfl rfl ?_
                refine WL.skip rfl rfl rfl ?_
                refine WL.skip rfl rfl rfl ?_
                refine WL.skip rfl rfl rfl ?_
                refine WL.skip rfl rfl rfl ?_
                refine WL.quiet (d := 80) rfl rfl rfl (q_pickT rfl rfl) ?_
                exact WL.cutEnd () trivial (.cons rfl (.cons rfl (.cons rfl (.cons rfl (.cons rfl (.cons (some_bool (or_l hg_85464)) .nil)))))) (.cons .here (.cons .here (.cons .here (.cons .here (.cons .here .nil)))))
              · have hg_85465 := hb'; clear hb'
                refine WL.pin (i := 74) rfl hg_85465 ?_
                refine WL.quiet (d := 75) rfl rfl rfl (q_move rfl) ?_
                refine WL.quiet (d := 76) rfl rfl rfl (q_len Try.underlying30 rfl) ?_
                refine WL.quiet (d := 77) rfl rfl rfl (q_move rfl) ?_
                refine WL.quiet (d := 78) rfl rfl rfl (q_len Try.underlying30 rfl) ?_
                refine WL.quiet (d := 79) rfl rfl rfl (q_neq rfl rfl) ?_
                refine WL.quiet (d := 80) rfl rfl rfl (q_pickF rfl rfl) ?_
                exact WL.cutEnd () trivial (.cons rfl (.cons rfl (.cons rfl (.cons rfl (.cons rfl (.cons (some_bool (or_r hg_85465)) .nil)))))) (.cons .here (.cons .here (.cons .here (.cons .here (.cons .here .nil)))))
            · skip
              refine WL.nil ?_
              refine WX.then ?_
              refine WC.cond rfl (fun hb_85466 => ?_) (fun hb_85466 => ?_)
              · replace h := ite_t h hb_85466
                refine WC.seq ?_
                refine WC.region ?_
                refine WL.quiet (d := 6) rfl rfl rfl (q_assign rfl) ?_
                refine WL.nil ?_
                refine WX.then ?_
                refine WC.ret ?_
                refine WX.thenRet ?_
                obtain rfl := Option.some.inj h
                refine WX.bpRet Try.results9 (.tmp rfl .nil) (fun w hw => ?_)
                exact ⟨(Zn_85447 ++ Zn_85450), ret1 rfl, trivial, hw.sub (.cons .here .nil)⟩
              · replace h := ite_f h hb_85466
                refine WC.skip ?_
                refine WX.then ?_
                obtain ⟨k_88974, hk_88975, h⟩ := jp0_elim h
                refine WC.seqMid0 ((k_88974 = some r)) ([]) ([fz (Zn_85447 ++ Zn_85450)]) ?_ ?_
                · skip
                  refine WC.seq ?_
                  refine WC.region ?_
                  refine WL.quiet (d := 81) rfl rfl rfl (q_move rfl) ?_
                  refine WL.quiet (d := 82) rfl rfl rfl (q_len Try.underlying30 rfl) ?_
                  refine WL.quiet (d := 83) rfl rfl rfl (q_move rfl) ?_
                  refine WL.nil ?_
                  refine WX.then ?_
                  refine WC.block ?_
                  refine WC.loop10 (fun (n_91321 : Nat) (a_91310 : List (List Int)) (b_91315 : List (List Int)) (v_91320 : Int) (ao_91311 : Option Addr) (cap_91312 : Nat) (cs_91313 : List Value) (ao_91316 : Option Addr) (cap_91317 : Nat) (cs_91318 : List Value) => (m_law34_TimebaseShift_L5 x_85419 s_77808 c_85315 by_77824 k_88974 n_91321 a_91310 b_91315 v_91320 = some r) ∧ (RR 1 (p22 (Z ++ (Zn_85447 ++ Zn_85450))) cs_91313 a_91310) ∧ (RR 1 (p22 (Z ++ (Zn_85447 ++ Zn_85450))) cs_91318 b_91315)) (fun (n_91321 : Nat) (a_91310 : List (List Int)) (b_91315 : List (List Int)) (v_91320 : Int) (ao_91311 : Option Addr) (cap_91312 : Nat) (cs_91313 : List Value) (ao_91316 : Option Addr) (cap_91317 : Nat) (cs_91318 : List Value) => [(1, (.int .i16 by_77824)), (3, (.pointer (some ⟨b_85159, 0, none⟩))), (7, (.pointer (some ⟨b_85195, 0, none⟩))), (10, (.slice ao_91311 a_91310.length cap_91312)), (12, (.slice ao_91316 b_91315.length cap_91317)), (82, (.int .i64 ((x_85419.1.length : Nat) : Int))), (83, (.int .i64 v_91320))]) (fun (n_91321 : Nat) (a_91310 : List (List Int)) (b_91315 : List (List Int)) (v_91320 : Int) (ao_91311 : Option Addr) (cap_91312 : Nat) (cs_91313 : List Value) (ao_91316 : Option Addr) (cap_91317 : Nat) (cs_91318 : List Value) => [fz (Zn_85447 ++ Zn_85450), row (.slice ao_91311 a_91310.length cap_91312) 22 1 cs_91313, row (.slice ao_91316 b_91315.length cap_91317) 22 1 cs_91318, stb b_85159 24 [(.slice ao_77809 s_77808.fStart.length cap_77810), (.slice ao_77812 s_77808.fDrift.length cap_77813), (.slice ao_77815 s_77808.fFaulty.length cap_77816), (.int .i64 s_77808.fF), (.int .i64 s_77808.fE), (.slice ao_77818 s_77808.fErrs.length cap_77819), (.slice ao_77821 s_77808.fLies.length cap_77822)], stb b_85195 24 [(.slice ao_85316 c_85315.length cap_85317), (.slice ao_77812 s_77808.fDrift.length cap_77813), (.slice ao_77815 s_77808.fFaulty.length cap_77816), (.int .i64 s_77808.fF), (.int .i64 s_77808.fE), (.slice ao_77818 s_77808.fErrs.length cap_77819), (.slice ao_77821 s_77808.fLies.length cap_77822)]]) (fun (n_91321 : Nat) (a_91310 : List (List Int)) (b_91315 : List (List Int)) (v_91320 : Int) (ao_91311 : Option Addr) (cap_91312 : Nat) (cs_91313 : List Value) (ao_91316 : Option Addr) (cap_91317 : Nat) (cs_91318 : List Value) => n_91321) ⟨FUEL, x_85419.1, x_85438.1, 0, ao_85429, cap_85430, cs_85431, ao_85451, cap_85452, cs_85453⟩ ⟨h, (hf_85432.weak (fun _ _ h => p22_mono ((Zle.assoc _ _ _).trans (hle_85448.trans ((Zle.left _ _).trans (Zle.assoc _ _ _)))) h)), (hf_85454.weak (fun _ _ h => p22_mono (Zle.assoc _ _ _) h))⟩ (.cons rfl (.cons rfl (.cons rfl (.cons rfl (.cons rfl (.cons rfl (.cons rfl .nil))))))) (.cons .here (.cons (.there .here) (.cons .here (.cons .here (.cons .here .nil))))) ?_
                  rintro n_91321 a_91310 b_91315 v_91320 ao_91311 cap_91312 cs_91313 ao_91316 cap_91317 cs_91318 ⟨h, rel_91314, rel_91319⟩
                  obtain ⟨n_91322, rfl⟩ := m_law34_TimebaseShift_L5_fuel h
                  rw [m_law34_TimebaseShift_L5] at h
                  refine WC.seq ?_
                  refine WC.region ?_
                  refine WL.quiet (d := 84) rfl rfl rfl (q_lss rfl rfl) ?_
                  refine WL.nil ?_
                  refine WX.then ?_
                  refine WC.seq ?_
                  refine WC.cond rfl (fun hb_91324 => ?_) (fun hb_91324 => ?_)
                  · replace h := ite_t h hb_91324
                    refine WC.skip ?_
                    refine WX.then ?_
                    obtain ⟨k_91908, hk_91909, h⟩ := jp2_elim h
                    refine WC.seqMid8 (fun (a_91898 : List (List Int)) (b_91903 : List (List Int)) (ao_91899 : Option Addr) (cap_91900 : Nat) (cs_91901 : List Value) (ao_91904 : Option Addr) (cap_91905 : Nat) (cs_91906 : List Value) => (k_91908 a_91898 b_91903 = some r) ∧ (RR 1 (p22 (Z ++ (Zn_85447 ++ Zn_85450))) cs_91901 a_91898) ∧ (RR 1 (p22 (Z ++ (Zn_85447 ++ Zn_85450))) cs_91906 b_91903)) (fun (a_91898 : List (List Int)) (b_91903 : List (List Int)) (ao_91899 : Option Addr) (cap_91900 : Nat) (cs_91901 : List Value) (ao_91904 : Option Addr) (cap_91905 : Nat) (cs_91906 : List Value) => [(1, (.int .i16 by_77824)), (3, (.pointer (some ⟨b_85159, 0, none⟩))), (7, (.pointer (some ⟨b_85195, 0, none⟩))), (10, (.slice ao_91899 a_91898.length cap_91900)), (12, (.slice ao_91904 b_91903.length cap_91905)), (82, (.int .i64 ((x_85419.1.length : Nat) : Int))), (83, (.int .i64 v_91320))]) (fun (a_91898 : List (List Int)) (b_91903 : List (List Int)) (ao_91899 : Option Addr) (cap_91900 : Nat) (cs_91901 : List Value) (ao_91904 : Option Addr) (cap_91905 : Nat) (cs_91906 : List Value) => [fz (Zn_85447 ++ Zn_85450), row (.slice ao_91899 a_91898.length cap_91900) 22 1 cs_91901, row (.slice ao_91904 b_91903.length cap_91905) 22 1 cs_91906, stb b_85159 24 [(.slice ao_77809 s_77808.fStart.length cap_77810), (.slice ao_77812 s_77808.fDrift.length cap_77813), (.slice ao_77815 s_77808.fFaulty.length cap_77816), (.int .i64 s_77808.fF), (.int .i64 s_77808.fE), (.slice ao_77818 s_77808.fErrs.length cap_77819), (.slice ao_77821 s_77808.fLies.length cap_77822)], stb b_85195 24 [(.slice ao_85316 c_85315.length cap_85317), (.slice ao_77812 s_77808.fDrift.length cap_77813), (.slice ao_77815 s_77808.fFaulty.length cap_77816), (.int .i64 s_77808.fF), (.int .i64 s_77808.fE), (.slice ao_77818 s_77808.fErrs.length cap_77819), (.slice ao_77821 s_77808.fLies.length cap_77822)]]) ?_ ?_
                    · skip
                      refine WC.block ?_
                      refine WC.seq ?_
                      refine WC.region ?_
                      refine WL.quiet (d := 85) rfl rfl rfl (q_move rfl) ?_
                      refine WL.quiet (d := 14) rfl rfl rfl (q_assign rfl) ?_
                      refine WL.nil ?_
                      refine WX.then ?_
                      refine WC.seq ?_
                      obtain ⟨c_91910, h⟩ := chk_elim h
                      obtain ⟨x_91919, hx_91920, h⟩ := bind_elim h
                      refine WC.draw (fun i => [].contains i) [] rfl ?_
                      refine WD.quiet (i := 0) (d := 87) (by kernel_rfl) rfl (by kernel_rfl) (by kernel_rfl) rfl rfl rfl (q_loadA (cs := [(.slice ao_77809 s_77808.fStart.length cap_77810), (.slice ao_77812 s_77808.fDrift.length cap_77813), (.slice ao_77815 s_77808.fFaulty.length cap_77816), (.int .i64 s_77808.fF), (.int .i64 s_77808.fE), (.slice ao_77818 s_77808.fErrs.length cap_77819), (.slice ao_77821 s_77808.fLies.length cap_77822)]) aggT_24 rfl rfl (rd_all (.there (.there (.there .here))))) ?_
                      refine WD.pure (i := 1) (d := 88) (by kernel_rfl) rfl (by kernel_rfl) (by kernel_rfl) rfl rfl rfl (fun _ => q_move rfl) ?_
                      refine WD.pure (i := 2) (d := 89) (by kernel_rfl) rfl (by kernel_rfl) (by kernel_rfl) rfl rfl rfl (fun _ => q_move rfl) ?_
                      refine WD.know (fun w hw => Hp.expose (.there .here) hw (by intro hz'; have := c_91910; rw [hz'] at this; omega)) ?_
                      rintro ⟨b_91921, rfl⟩
                      obtain ⟨r_91925, tl_91926, hl_91927, hd_91928, ⟨ao_91922, cap_91923, rfl, hs_91924⟩⟩ := RR.elem rel_91314 c_91910.1 c_91910.2
                      refine WD.pure (i := 3) (d := 90) (by kernel_rfl) rfl (by kernel_rfl) (by kernel_rfl) rfl rfl rfl (fun _ => q_indexAddr elT_30 rfl rfl c_91910.1 c_91910.2 rowAdd) ?_
                      refine WD.quiet (i := 4) (d := 91) (by kernel_rfl) rfl (by kernel_rfl) (by kernel_rfl) rfl rfl rfl (q_load1 oneT_22 rfl (rd_row (.there .here) (drop_rd hd_91928 0 _ rfl))) ?_
                      refine WD.enter (i := 5) (d := 92) (by kernel_rfl) rfl (by kernel_rfl) (by kernel_rfl) rfl rfl rfl (run_call (l := [.tmp 87, .tmp 91]) Try.call17 (.cons rfl (.cons rfl .nil))) (fun w hw => by have pz := (hz.call2 hw (.nil : Sel [fz (Zn_85447 ++ Zn_85450), row (.slice (some ⟨b_91921, 0, none⟩) a_91310.length cap_91312) 22 1 cs_91313, row (.slice ao_91316 b_91315.length cap_91317) 22 1 cs_91318, stb b_85159 24 [(.slice ao_77809 s_77808.fStart.length cap_77810), (.slice ao_77812 s_77808.fDrift.length cap_77813), (.slice ao_77815 s_77808.fFaulty.length cap_77816), (.int .i64 s_77808.fF), (.int .i64 s_77808.fE), (.slice ao_77818 s_77808.fErrs.length cap_77819), (.slice ao_77821 s_77808.fLies.length cap_77822)], stb b_85195 24 [(.slice ao_85316 c_85315.length cap_85317), (.slice ao_77812 s_77808.fDrift.length cap_77813), (.slice ao_77815 s_77808.fFaulty.length cap_77816), (.int .i64 s_77808.fF), (.int .i64 s_77808.fE), (.slice ao_77818 s_77808.fErrs.length cap_77819), (.slice ao_77821 s_77808.fLies.length cap_77822)]] [] [fz (Zn_85447 ++ Zn_85450), row (.slice (some ⟨b_91921, 0, none⟩) a_91310.length cap_91312) 22 1 cs_91313, row (.slice ao_91316 b_91315.length cap_91317) 22 1 cs_91318, stb b_85159 24 [(.slice ao_77809 s_77808.fStart.length cap_77810), (.slice ao_77812 s_77808.fDrift.length cap_77813), (.slice ao_77815 s_77808.fFaulty.length cap_77816), (.int .i64 s_77808.fF), (.int .i64 s_77808.fE), (.slice ao_77818 s_77808.fErrs.length cap_77819), (.slice ao_77821 s_77808.fLies.length cap_77822)], stb b_85195 24 [(.slice ao_85316 c_85315.length cap_85317), (.slice ao_77812 s_77808.fDrift.length cap_77813), (.slice ao_77815 s_77808.fFaulty.length cap_77816), (.int .i64 s_77808.fF), (.int .i64 s_77808.fE), (.slice ao_77818 s_77808.fErrs.length cap_77819), (.slice ao_77821 s_77808.fLies.length cap_77822)]]) .here); exact w_timebase_Skew (Z := _) (ao_13931 := ao_77809) (cap_13932 := cap_77810) (ao_13934 := ao_77812) (cap_13935 := cap_77813) (ao_13937 := ao_77815) (cap_13938 := cap_77816) (ao_13940 := ao_77818) (cap_13941 := cap_77819) (ao_13943 := ao_77821) (cap_13944 := cap_77822) (ao_13947 := ao_91922) (cap_13948 := cap_91923) (s_13930 := s_77808) (clocks_13946 := (nth a_91310 v_91320)) (r := x_91919) w pz (hs_77811.mono ((Zle.left _ _).trans ((Zle.left _ _).trans ((Zle.assoc _ _ _).trans (hle_85448.trans ((Zle.left _ _).trans (Zle.assoc _ _ _))))))) (hs_77814.mono ((Zle.left _ _).trans ((Zle.left _ _).trans ((Zle.assoc _ _ _).trans (hle_85448.trans ((Zle.left _ _).trans (Zle.assoc _ _ _))))))) (hs_77817.mono ((Zle.left _ _).trans ((Zle.left _ _).trans ((Zle.assoc _ _ _).trans (hle_85448.trans ((Zle.left _ _).trans (Zle.assoc _ _ _))))))) (hs_77820.mono ((Zle.left _ _).trans ((Zle.left _ _).trans ((Zle.assoc _ _ _).trans (hle_85448.trans ((Zle.left _ _).trans (Zle.assoc _ _ _))))))) (hs_77823.mono ((Zle.left _ _).trans ((Zle.left _ _).trans ((Zle.assoc _ _ _).trans (hle_85448.trans ((Zle.left _ _).trans (Zle.assoc _ _ _))))))) hs_91924 hx_91920) ?_
                      refine WD.pure (i := 6) (d := 86) (by kernel_rfl) rfl (by kernel_rfl) (by kernel_rfl) rfl rfl rfl (fun _ => q_move rfl) ?_
                      refine WD.pure (i := 7) (d := 93) (by kernel_rfl) rfl (by kernel_rfl) (by kernel_rfl) rfl rfl rfl (fun _ => q_extract rfl rfl) ?_
                      refine WD.pure (i := 8) (d := 94) (by kernel_rfl) rfl (by kernel_rfl) (by kernel_rfl) rfl rfl rfl (fun _ => q_extract rfl rfl) ?_
                      refine WD.pure (i := 9) (d := 15) (by kernel_rfl) rfl (by kernel_rfl) (by kernel_rfl) rfl rfl rfl (fun _ => q_assign rfl) ?_
                      refine WD.pure (i := 10) (d := 16) (by kernel_rfl) rfl (by kernel_rfl) (by kernel_rfl) rfl rfl rfl (fun _ => q_assign rfl) ?_
                      refine WD.done (by kernel_rfl) ?_
                      refine WX.then ?_
                      refine WC.seq ?_
                      obtain ⟨c_91929, h⟩ := chk_elim h
                      obtain ⟨x_91938, hx_91939, h⟩ := bind_elim h
                      refine WC.draw (fun i => [].contains i) [] rfl ?_
                      refine WD.quiet (i := 0) (d := 96) (by kernel_rfl) rfl (by kernel_rfl) (by kernel_rfl) rfl rfl rfl (q_loadA (cs := [(.slice ao_85316 c_85315.length cap_85317), (.slice ao_77812 s_77808.fDrift.length cap_77813), (.slice ao_77815 s_77808.fFaulty.length cap_77816), (.int .i64 s_77808.fF), (.int .i64 s_77808.fE), (.slice ao_77818 s_77808.fErrs.length cap_77819), (.slice ao_77821 s_77808.fLies.length cap_77822)]) aggT_24 rfl rfl (rd_all (.there (.there (.there (.there .here)))))) ?_
                      refine WD.pure (i := 1) (d := 97) (by kernel_rfl) rfl (by kernel_rfl) (by kernel_rfl) rfl rfl rfl (fun _ => q_move rfl) ?_
                      refine WD.pure (i := 2) (d := 98) (by kernel_rfl) rfl (by kernel_rfl) (by kernel_rfl) rfl rfl rfl (fun _ => q_move rfl) ?_
                      refine WD.know (fun w hw => Hp.expose (.there (.there .here)) hw (by intro hz'; have := c_91929; rw [hz'] at this; omega)) ?_
                      rintro ⟨b_91940, rfl⟩
                      obtain ⟨r_91944, tl_91945, hl_91946, hd_91947, ⟨ao_91941, cap_91942, rfl, hs_91943⟩⟩ := RR.elem rel_91319 c_91929.1 c_91929.2
                      refine WD.pure (i := 3) (d := 99) (by kernel_rfl) rfl (by kernel_rfl) (by kernel_rfl) rfl rfl rfl (fun _ => q_indexAddr elT_30 rfl rfl c_91929.1 c_91929.2 rowAdd) ?_
                      refine WD.quiet (i := 4) (d := 100) (by kernel_rfl) rfl (by kernel_rfl) (by kernel_rfl) rfl rfl rfl (q_load1 oneT_22 rfl (rd_row (.there (.there .here)) (drop_rd hd_91947 0 _ rfl))) ?_
                      refine WD.enter (i := 5) (d := 101) (by kernel_rfl) rfl (by kernel_rfl) (by kernel_rfl) rfl rfl rfl (run_call (l := [.tmp 96, .tmp 100]) Try.call17 (.cons rfl (.cons rfl .nil))) (fun w hw => by have pz := (hz.call2 hw (.nil : Sel [fz (Zn_85447 ++ Zn_85450), row (.slice (some ⟨b_91921, 0, none⟩) a_91310.length cap_91312) 22 1 cs_91313, row (.slice (some ⟨b_91940, 0, none⟩) b_91315.length cap_91317) 22 1 cs_91318, stb b_85159 24 [(.slice ao_77809 s_77808.fStart.length cap_77810), (.slice ao_77812 s_77808.fDrift.length cap_77813), (.slice ao_77815 s_77808.fFaulty.length cap_77816), (.int .i64 s_77808.fF), (.int .i64 s_77808.fE), (.slice ao_77818 s_77808.fErrs.length cap_77819), (.slice ao_77821 s_77808.fLies.length cap_77822)], stb b_85195 24 [(.slice ao_85316 c_85315.length cap_85317), (.slice ao_77812 s_77808.fDrift.length cap_77813), (.slice ao_77815 s_77808.fFaulty.length cap_77816), (.int .i64 s_77808.fF), (.int .i64 s_77808.fE), (.slice ao_77818 s_77808.fErrs.length cap_77819), (.slice ao_77821 s_77808.fLies.length cap_77822)]] [] [fz (Zn_85447 ++ Zn_85450), row (.slice (some ⟨b_91921, 0, none⟩) a_91310.length cap_91312) 22 1 cs_91313, row (.slice (some ⟨b_91940, 0, none⟩) b_91315.length cap_91317) 22 1 cs_91318, stb b_85159 24 [(.slice ao_77809 s_77808.fStart.length cap_77810), (.slice ao_77812 s_77808.fDrift.length cap_77813), (.slice ao_77815 s_77808.fFaulty.length cap_77816), (.int .i64 s_77808.fF), (.int .i64 s_77808.fE), (.slice ao_77818 s_77808.fErrs.length cap_77819), (.slice ao_77821 s_77808.fLies.length cap_77822)], stb b_85195 24 [(.slice ao_85316 c_85315.length cap_85317), (.slice ao_77812 s_77808.fDrift.length cap_77813), (.slice ao_77815 s_77808.fFaulty.length cap_77816), (.int .i64 s_77808.fF), (.int .i64 s_77808.fE), (.slice ao_77818 s_77808.fErrs.length cap_77819), (.slice ao_77821 s_77808.fLies.length cap_77822)]]) .here); exact w_timebase_Skew (Z := _) (ao_13931 := ao_85316) (cap_13932 := cap_85317) (ao_13934 := ao_77812) (cap_13935 := cap_77813) (ao_13937 := ao_77815) (cap_13938 := cap_77816) (ao_13940 := ao_77818) (cap_13941 := cap_77819) (ao_13943 := ao_77821) (cap_13944 := cap_77822) (ao_13947 := ao_91941) (cap_13948 := cap_91942) (s_13930 := (⟨c_85315, s_77808.fDrift, s_77808.fFaulty, s_77808.fF, s_77808.fE, s_77808.fErrs, s_77808.fLies⟩ : Stimebase_Setup)) (clocks_13946 := (nth b_91315 v_91320)) (r := x_91938) w pz (hf_85449.mono ((Zle.left _ _).trans (Zle.assoc _ _ _))) (hs_77814.mono ((Zle.left _ _).trans ((Zle.left _ _).trans ((Zle.assoc _ _ _).trans (hle_85448.trans ((Zle.left _ _).trans (Zle.assoc _ _ _))))))) (hs_77817.mono ((Zle.left _ _).trans ((Zle.left _ _).trans ((Zle.assoc _ _ _).trans (hle_85448.trans ((Zle.left _ _).trans (Zle.assoc _ _ _))))))) (hs_77820.mono ((Zle.left _ _).trans ((Zle.left _ _).trans ((Zle.assoc _ _ _).trans (hle_85448.trans ((Zle.left _ _).trans (Zle.assoc _ _ _))))))) (hs_77823.mono ((Zle.left _ _).trans ((Zle.left _ _).trans ((Zle.assoc _ _ _).trans (hle_85448.trans ((Zle.left _ _).trans (Zle.assoc _ _ _))))))) hs_91943 hx_91939) ?_
                      refine WD.pure (i := 6) (d := 95) (by kernel_rfl) rfl (by kernel_rfl) (by kernel_rfl) rfl rfl rfl (fun _ => q_move rfl) ?_
                      refine WD.pure (i := 7) (d := 102) (by kernel_rfl) rfl (by kernel_rfl) (by kernel_rfl) rfl rfl rfl (fun _ => q_extract rfl rfl) ?_
                      refine WD.pure (i := 8) (d := 103) (by kernel_rfl) rfl (by kernel_rfl) (by kernel_rfl) rfl rfl rfl (fun _ => q_extract rfl rfl) ?_
                      refine WD.pure (i := 9) (d := 17) (by kernel_rfl) rfl (by kernel_rfl) (by kernel_rfl) rfl rfl rfl (fun _ => q_assign rfl) ?_
                      refine WD.pure (i := 10) (d := 18) (by kernel_rfl) rfl (by kernel_rfl) (by kernel_rfl) rfl rfl rfl (fun _ => q_assign rfl) ?_
                      refine WD.done (by kernel_rfl) ?_
                      refine WX.then ?_
                      refine WC.seq ?_
                      refine WC.seq ?_
                      refine WC.region ?_
                      refine WL.quiet (d := 104) rfl rfl rfl (q_move rfl) ?_
                      refine WL.quiet (d := 105) rfl rfl rfl (q_neq rfl rfl) ?_
                      refine WL.quiet (d := 106) rfl rfl rfl (q_move rfl) ?_
                      refine WL.cut0 True [(1, (.int .i16 by_77824)), (3, (.pointer (some ⟨b_85159, 0, none⟩))), (7, (.pointer (some ⟨b_85195, 0, none⟩))), (10, (.slice (some ⟨b_91921, 0, none⟩) a_91310.length cap_91312)), (12, (.slice (some ⟨b_91940, 0, none⟩) b_91315.length cap_91317)), (82, (.int .i64 ((x_85419.1.length : Nat) : Int))), (83, (.int .i64 v_91320)), (14, (.int .i64 v_91320)), (15, (.int .i64 x_91919.1)), (17, (.int .i64 x_91938.1)), (109, (.bool ((decide (x_91919.2 ≠ 0)) || (decide (x_91938.2 ≠ 0)))))] [fz (Zn_85447 ++ Zn_85450), row (.slice (some ⟨b_91921, 0, none⟩) a_91310.length cap_91312) 22 1 cs_91313, row (.slice (some ⟨b_91940, 0, none⟩) b_91315.length cap_91317) 22 1 cs_91318, stb b_85159 24 [(.slice ao_77809 s_77808.fStart.length cap_77810), (.slice ao_77812 s_77808.fDrift.length cap_77813), (.slice ao_77815 s_77808.fFaulty.length cap_77816), (.int .i64 s_77808.fF), (.int .i64 s_77808.fE), (.slice ao_77818 s_77808.fErrs.length cap_77819), (.slice ao_77821 s_77808.fLies.length cap_77822)], stb b_85195 24 [(.slice ao_85316 c_85315.length cap_85317), (.slice ao_77812 s_77808.fDrift.length cap_77813), (.slice ao_77815 s_77808.fFaulty.length cap_77816), (.int .i64 s_77808.fF), (.int .i64 s_77808.fE), (.slice ao_77818 s_77808.fErrs.length cap_77819), (.slice ao_77821 s_77808.fLies.length cap_77822)]] 3 ?_ (fun _ => ?_)
                      · rcases Bool.eq_false_or_eq_true (decide (x_91919.2 ≠ 0)) with hb' | hb'
                        · have hg_91953 := hb'; clear hb'
                          refine WL.pin (i := 106) rfl hg_91953 ?_
                          refine WL.skip rfl rfl rfl ?_
                          refine WL.skip rfl rfl rfl ?_
                          refine WL.quiet (d := 109) rfl rfl rfl (q_pickT rfl rfl) ?_
                          exact WL.cutEnd () trivial (.cons rfl (.cons rfl (.cons rfl (.cons rfl (.cons rfl (.cons rfl (.cons rfl (.cons rfl (.cons rfl (.cons rfl (.cons (some_bool (or_l hg_91953)) .nil))))))))))) (.cons .here (.cons .here (.cons .here (.cons .here (.cons .here .nil)))))
                        · have hg_91954 := hb'; clear hb'
                          refine WL.pin (i := 106) rfl hg_91954 ?_
                          refine WL.quiet (d := 107) rfl rfl rfl (q_move rfl) ?_
                          refine WL.quiet (d := 108) rfl rfl rfl (q_neq rfl rfl) ?_
                          refine WL.quiet (d := 109) rfl rfl rfl (q_pickF rfl rfl) ?_
                          exact WL.cutEnd () trivial (.cons rfl (.cons rfl (.cons rfl (.cons rfl (.cons rfl (.cons rfl (.cons rfl (.cons rfl (.cons rfl (.cons rfl (.cons (some_bool (or_r hg_91954)) .nil))))))))))) (.cons .here (.cons .here (.cons .here (.cons .here (.cons .here .nil)))))
                      · skip
                        refine WL.quiet (d := 110) rfl rfl rfl (q_move rfl) ?_
                        refine WL.cut0 True [(1, (.int .i16 by_77824)), (3, (.pointer (some ⟨b_85159, 0, none⟩))), (7, (.pointer (some ⟨b_85195, 0, none⟩))), (10, (.slice (some ⟨b_91921, 0, none⟩) a_91310.length cap_91312)), (12, (.slice (some ⟨b_91940, 0, none⟩) b_91315.length cap_91317)), (82, (.int .i64 ((x_85419.1.length : Nat) : Int))), (83, (.int .i64 v_91320)), (14, (.int .i64 v_91320)), (114, (.bool (((decide (x_91919.2 ≠ 0)) || (decide (x_91938.2 ≠ 0))) || (decide (x_91919.1 ≠ x_91938.1)))))] [fz (Zn_85447 ++ Zn_85450), row (.slice (some ⟨b_91921, 0, none⟩) a_91310.length cap_91312) 22 1 cs_91313, row (.slice (some ⟨b_91940, 0, none⟩) b_91315.length cap_91317) 22 1 cs_91318, stb b_85159 24 [(.slice ao_77809 s_77808.fStart.length cap_77810), (.slice ao_77812 s_77808.fDrift.length cap_77813), (.slice ao_77815 s_77808.fFaulty.length cap_77816), (.int .i64 s_77808.fF), (.int .i64 s_77808.fE), (.slice ao_77818 s_77808.fErrs.length cap_77819), (.slice ao_77821 s_77808.fLies.length cap_77822)], stb b_85195 24 [(.slice ao_85316 c_85315.length cap_85317), (.slice ao_77812 s_77808.fDrift.length cap_77813), (.slice ao_77815 s_77808.fFaulty.length cap_77816), (.int .i64 s_77808.fF), (.int .i64 s_77808.fE), (.slice ao_77818 s_77808.fErrs.length cap_77819), (.slice ao_77821 s_77808.fLies.length cap_77822)]] 4 ?_ (fun _ => ?_)
                        · rcases Bool.eq_false_or_eq_true ((decide (x_91919.2 ≠ 0)) || (decide (x_91938.2 ≠ 0))) with hb' | hb'
                          · have hg_91955 := hb'; clear hb'
                            refine WL.pin (i := 110) rfl hg_91955 ?_
                            refine WL.skip rfl rfl rfl ?_
                            refine WL.skip rfl rfl rfl ?_
                            refine WL.skip rfl rfl rfl ?_
                            refine WL.quiet (d := 114) rfl rfl rfl (q_pickT rfl rfl) ?_
                            exact WL.cutEnd () trivial (.cons rfl (.cons rfl (.cons rfl (.cons rfl (.cons rfl (.cons rfl (.cons rfl (.cons rfl (.cons (some_bool (or_l hg_91955)) .nil))))))))) (.cons .here (.cons .here (.cons .here (.cons .here (.cons .here .nil)))))
                          · have hg_91956 := hb'; clear hb'
                            refine WL.pin (i := 110) rfl hg_91956 ?_
                            refine WL.quiet (d := 111) rfl rfl rfl (q_move rfl) ?_
                            refine WL.quiet (d := 112) rfl rfl rfl (q_move rfl) ?_
                            refine WL.quiet (d := 113) rfl rfl rfl (q_neq rfl rfl) ?_
                            refine WL.quiet (d := 114) rfl rfl rfl (q_pickF rfl rfl) ?_
                            exact WL.cutEnd () trivial (.cons rfl (.cons rfl (.cons rfl (.cons rfl (.cons rfl (.cons rfl (.cons rfl (.cons rfl (.cons (some_bool (or_r hg_91956)) .nil))))))))) (.cons .here (.cons .here (.cons .here (.cons .here (.cons .here .nil)))))
                        · skip
                          refine WL.nil ?_
                          refine WX.then ?_
                          refine WC.cond rfl (fun hb_91957 => ?_) (fun hb_91957 => ?_)
                          · replace h := ite_t h hb_91957
                            refine WC.seq ?_
                            refine WC.region ?_
                            refine WL.quiet (d := 6) rfl rfl rfl (q_assign rfl) ?_
                            refine WL.nil ?_
                            refine WX.then ?_
                            refine WC.ret ?_
                            refine WX.thenRet ?_
                            refine WX.blockRet ?_
                            refine WX.thenRet ?_
                            refine WX.thenRet ?_
                            refine WX.blockRet ?_
                            refine WX.thenRet ?_
                            obtain rfl := Option.some.inj h
                            refine WX.bpRet Try.results9 (.tmp rfl .nil) (fun w hw => ?_)
                            exact ⟨(Zn_85447 ++ Zn_85450), ret1 rfl, trivial, hw.sub (.cons .here .nil)⟩
                          · replace h := ite_f h hb_91957
                            refine WC.skip ?_
                            refine WX.then ?_
                            refine WC.seq ?_
                            obtain ⟨c_91958, h⟩ := chk_elim h
                            refine WC.region ?_
                            refine WL.quiet (d := 115) rfl rfl rfl (q_move rfl) ?_
                            refine WL.quiet (d := 116) rfl rfl rfl (q_move rfl) ?_
                            obtain ⟨r_91969, tl_91970, hl_91971, hd_91972, ⟨ao_91966, cap_91967, rfl, hs_91968⟩⟩ := RR.elem rel_91314 c_91958.1 c_91958.2
                            refine WL.quiet (d := 117) rfl rfl rfl (q_indexAddr elT_30 rfl rfl c_91958.1 c_91958.2 rowAdd) ?_
                            refine WL.quiet (d := 118) rfl rfl rfl (q_load1 oneT_22 rfl (rd_row (.there .here) (drop_rd hd_91972 0 _ rfl))) ?_
                            refine WL.quiet (d := 119) rfl rfl rfl (q_len Try.underlying22 rfl) ?_
                            refine WL.quiet (d := 120) rfl rfl rfl (q_move rfl) ?_
                            refine WL.nil ?_
                            refine WX.then ?_
                            obtain ⟨k_92277, hk_92278, h⟩ := jp0_elim h
                            refine WC.mid0 ((k_92277 = some r)) ([(1, (.int .i16 by_77824)), (3, (.pointer (some ⟨b_85159, 0, none⟩))), (7, (.pointer (some ⟨b_85195, 0, none⟩))), (10, (.slice (some ⟨b_91921, 0, none⟩) a_91310.length cap_91312)), (12, (.slice (some ⟨b_91940, 0, none⟩) b_91315.length cap_91317)), (82, (.int .i64 ((x_85419.1.length : Nat) : Int))), (83, (.int .i64 v_91320))]) ([fz (Zn_85447 ++ Zn_85450), row (.slice (some ⟨b_91921, 0, none⟩) a_91310.length cap_91312) 22 1 cs_91313, row (.slice (some ⟨b_91940, 0, none⟩) b_91315.length cap_91317) 22 1 cs_91318, stb b_85159 24 [(.slice ao_77809 s_77808.fStart.length cap_77810), (.slice ao_77812 s_77808.fDrift.length cap_77813), (.slice ao_77815 s_77808.fFaulty.length cap_77816), (.int .i64 s_77808.fF), (.int .i64 s_77808.fE), (.slice ao_77818 s_77808.fErrs.length cap_77819), (.slice ao_77821 s_77808.fLies.length cap_77822)], stb b_85195 24 [(.slice ao_85316 c_85315.length cap_85317), (.slice ao_77812 s_77808.fDrift.length cap_77813), (.slice ao_77815 s_77808.fFaulty.length cap_77816), (.int .i64 s_77808.fF), (.int .i64 s_77808.fE), (.slice ao_77818 s_77808.fErrs.length cap_77819), (.slice ao_77821 s_77808.fLies.length cap_77822)]]) ?_ ?_
                            · skip
                              refine WC.block ?_
                              refine WC.loop2 (fun (n_92381 : Nat) (v_92380 : Int) => (m_law34_TimebaseShift_L6 a_91310 v_91320 b_91315 by_77824 k_92277 n_92381 v_92380 = some r)) (fun (n_92381 : Nat) (v_92380 : Int) => [(1, (.int .i16 by_77824)), (3, (.pointer (some ⟨b_85159, 0, none⟩))), (7, (.pointer (some ⟨b_85195, 0, none⟩))), (10, (.slice (some ⟨b_91921, 0, none⟩) a_91310.length cap_91312)), (12, (.slice (some ⟨b_91940, 0, none⟩) b_91315.length cap_91317)), (14, (.int .i64 v_91320)), (82, (.int .i64 ((x_85419.1.length : Nat) : Int))), (83, (.int .i64 v_91320)), (119, (.int .i64 (((nth a_91310 v_91320).length : Nat) : Int))), (120, (.int .i64 v_92380))]) (fun (n_92381 : Nat) (v_92380 : Int) => [fz (Zn_85447 ++ Zn_85450), row (.slice (some ⟨b_91921, 0, none⟩) a_91310.length cap_91312) 22 1 cs_91313, row (.slice (some ⟨b_91940, 0, none⟩) b_91315.length cap_91317) 22 1 cs_91318, stb b_85159 24 [(.slice ao_77809 s_77808.fStart.length cap_77810), (.slice ao_77812 s_77808.fDrift.length cap_77813), (.slice ao_77815 s_77808.fFaulty.length cap_77816), (.int .i64 s_77808.fF), (.int .i64 s_77808.fE), (.slice ao_77818 s_77808.fErrs.length cap_77819), (.slice ao_77821 s_77808.fLies.length cap_77822)], stb b_85195 24 [(.slice ao_85316 c_85315.length cap_85317), (.slice ao_77812 s_77808.fDrift.length cap_77813), (.slice ao_77815 s_77808.fFaulty.length cap_77816), (.int .i64 s_77808.fF), (.int .i64 s_77808.fE), (.slice ao_77818 s_77808.fErrs.length cap_77819), (.slice ao_77821 s_77808.fLies.length cap_77822)]]) (fun (n_92381 : Nat) (v_92380 : Int) => n_92381) ⟨FUEL, 0⟩ h (.cons rfl (.cons rfl (.cons rfl (.cons rfl (.cons rfl (.cons rfl (.cons rfl (.cons rfl (.cons rfl (.cons rfl .nil)))))))))) (.cons .here (.cons .here (.cons .here (.cons .here (.cons .here .nil))))) ?_
                              rintro n_92381 v_92380 h
                              obtain ⟨n_92382, rfl⟩ := m_law34_TimebaseShift_L6_fuel h
                              rw [m_law34_TimebaseShift_L6] at h
                              refine WC.seq ?_
                              refine WC.region ?_
                              refine WL.quiet (d := 121) rfl rfl rfl (q_lss rfl rfl) ?_
                              refine WL.nil ?_
                              refine WX.then ?_
                              refine WC.seq ?_
                              refine WC.cond rfl (fun hb_92384 => ?_) (fun hb_92384 => ?_)
                              · replace h := ite_t h hb_92384
                                refine WC.skip ?_
                                refine WX.then ?_
                                refine WC.seq ?_
                                refine WC.block ?_
                                refine WC.seq ?_
                                refine WC.region ?_
                                refine WL.quiet (d := 122) rfl rfl rfl (q_move rfl) ?_
                                refine WL.quiet (d := 19) rfl rfl rfl (q_assign rfl) ?_
                                refine WL.nil ?_
                                refine WX.then ?_
                                refine WC.seq ?_
                                obtain ⟨c_92434, h⟩ := chk_elim h
                                obtain ⟨c_92442, h⟩ := chk_elim h
                                obtain ⟨c_92447, h⟩ := chk_elim h
                                obtain ⟨c_92455, h⟩ := chk_elim h
                                refine WC.draw (fun i => [].contains i) [] rfl ?_
                                refine WD.pure (i := 0) (d := 123) (by kernel_rfl) rfl (by kernel_rfl) (by kernel_rfl) rfl rfl rfl (fun _ => q_move rfl) ?_
                                refine WD.pure (i := 1) (d := 124) (by kernel_rfl) rfl (by kernel_rfl) (by kernel_rfl) rfl rfl rfl (fun _ => q_move rfl) ?_
                                obtain ⟨r_92463, tl_92464, hl_92465, hd_92466, ⟨ao_92460, cap_92461, rfl, hs_92462⟩⟩ := RR.elem rel_91319 c_92434.1 c_92434.2
                                refine WD.pure (i := 2) (d := 125) (by kernel_rfl) rfl (by kernel_rfl) (by kernel_rfl) rfl rfl rfl (fun _ => q_indexAddr elT_30 rfl rfl c_92434.1 c_92434.2 rowAdd) ?_
                                refine WD.quiet (i := 3) (d := 126) (by kernel_rfl) rfl (by kernel_rfl) (by kernel_rfl) rfl rfl rfl (q_load1 oneT_22 rfl (rd_row (.there (.there .here)) (drop_rd hd_92466 0 _ rfl))) ?_
                                refine WD.pure (i := 4) (d := 127) (by kernel_rfl) rfl (by kernel_rfl) (by kernel_rfl) rfl rfl rfl (fun _ => q_move rfl) ?_
                                refine WD.znth (j := 5) (dd := 128) (by kernel_rfl) rfl (by kernel_rfl) (by kernel_rfl) rfl rfl (Z := (Z ++ (Zn_85447 ++ Zn_85450))) (Pr := (fun r x => r = e3 x)) elT_22 rfl rfl hs_92462 c_92442 ?_
                                rintro A_92467 r_92468 hA_92469 hl_92470 rfl
                                refine WD.quiet (i := 6) (d := 129) (by kernel_rfl) rfl (by kernel_rfl) (by kernel_rfl) rfl rfl rfl (q_load1 oneT_3 rfl (rd_z (hz.pv2 .here) hA_92469 rfl)) ?_
                                refine WD.pure (i := 7) (d := 130) (by kernel_rfl) rfl (by kernel_rfl) (by kernel_rfl) rfl rfl rfl (fun _ => q_move rfl) ?_
                                refine WD.pure (i := 8) (d := 131) (by kernel_rfl) rfl (by kernel_rfl) (by kernel_rfl) rfl rfl rfl (fun _ => q_move rfl) ?_
                                obtain ⟨r_92474, tl_92475, hl_92476, hd_92477, ⟨ao_92471, cap_92472, rfl, hs_92473⟩⟩ := RR.elem rel_91314 c_92447.1 c_92447.2
                                refine WD.pure (i := 9) (d := 132) (by kernel_rfl) rfl (by kernel_rfl) (by kernel_rfl) rfl rfl rfl (fun _ => q_indexAddr elT_30 rfl rfl c_92447.1 c_92447.2 rowAdd) ?_
                                refine WD.quiet (i := 10) (d := 133) (by kernel_rfl) rfl (by kernel_rfl) (by kernel_rfl) rfl rfl rfl (q_load1 oneT_22 rfl (rd_row (.there .here) (drop_rd hd_92477 0 _ rfl))) ?_
                                refine WD.pure (i := 11) (d := 134) (by kernel_rfl) rfl (by kernel_rfl) (by kernel_rfl) rfl rfl rfl (fun _ => q_move rfl) ?_
                                refine WD.znth (j := 12) (dd := 135) (by kernel_rfl) rfl (by kernel_rfl) (by kernel_rfl) rfl rfl (Z := (Z ++ (Zn_85447 ++ Zn_85450))) (Pr := (fun r x => r = e3 x)) elT_22 rfl rfl hs_92473 c_92455 ?_
                                rintro A_92478 r_92479 hA_92480 hl_92481 rfl
                                refine WD.quiet (i := 13) (d := 136) (by kernel_rfl) rfl (by kernel_rfl) (by kernel_rfl) rfl rfl rfl (q_load1 oneT_3 rfl (rd_z (hz.pv2 .here) hA_92480 rfl)) ?_
                                refine WD.pure (i := 14) (d := 137) (by kernel_rfl) rfl (by kernel_rfl) (by kernel_rfl) rfl rfl rfl (fun _ => q_move rfl) ?_
                                refine WD.pure (i := 15) (d := 138) (by kernel_rfl) rfl (by kernel_rfl) (by kernel_rfl) rfl rfl rfl (fun _ => q_conv Try.underlying51 Try.underlying3 rfl rfl) ?_
                                refine WD.pure (i := 16) (d := 139) (by kernel_rfl) rfl (by kernel_rfl) (by kernel_rfl) rfl rfl rfl (fun _ => q_add rfl rfl rfl) ?_
                                refine WD.pure (i := 17) (d := 140) (by kernel_rfl) rfl (by kernel_rfl) (by kernel_rfl) rfl rfl rfl (fun _ => q_neq rfl rfl) ?_
                                refine WD.done (by kernel_rfl) ?_
                                refine WX.then ?_
                                refine WC.cond rfl (fun hb_92482 => ?_) (fun hb_92482 => ?_)
                                · replace h := ite_t h hb_92482
                                  refine WC.seq ?_
                                  refine WC.region ?_
                                  refine WL.quiet (d := 6) rfl rfl rfl (q_assign rfl) ?_
                                  refine WL.nil ?_
                                  refine WX.then ?_
                                  refine WC.ret ?_
                                  refine WX.blockRet ?_
                                  refine WX.thenRet ?_
                                  refine WX.thenRet ?_
                                  refine WX.blockRet ?_
                                  refine WX.thenRet ?_
                                  refine WX.blockRet ?_
                                  refine WX.thenRet ?_
                                  refine WX.thenRet ?_
                                  refine WX.blockRet ?_
                                  refine WX.thenRet ?_
                                  obtain rfl := Option.some.inj h
                                  refine WX.bpRet Try.results9 (.tmp rfl .nil) (fun w hw => ?_)
                                  exact ⟨(Zn_85447 ++ Zn_85450), ret1 rfl, trivial, hw.sub (.cons .here .nil)⟩
                                · replace h := ite_f h hb_92482
                                  refine WC.skip ?_
                                  refine WX.blockNormal ?_
                                  refine WX.then ?_
                                  refine WC.region ?_
                                  refine WL.quiet (d := 141) rfl rfl rfl (q_add rfl rfl rfl) ?_
                                  refine WL.quiet (d := 120) rfl rfl rfl (q_move rfl) ?_
                                  refine WL.nil ?_
                                  exact WX.round (G := Nat × Int) ⟨n_92382, (i64 (v_92380 + 1))⟩ h (Nat.lt_succ_self _) (.cons rfl (.cons rfl (.cons rfl (.cons rfl (.cons rfl (.cons rfl (.cons rfl (.cons rfl (.cons rfl (.cons rfl .nil)))))))))) (.cons .here (.cons .here (.cons .here (.cons .here (.cons .here .nil)))))
                              · replace h := ite_f h hb_92384
                                refine WC.exit ?_
                                refine WX.thenExit ?_
                                refine WX.thenExit ?_
                                refine WX.blockHit ?_
                                exact WX.mid (G := Unit) () h (.cons rfl (.cons rfl (.cons rfl (.cons rfl (.cons rfl (.cons rfl (.cons rfl .nil))))))) (.cons .here (.cons .here (.cons .here (.cons .here (.cons .here .nil)))))
                            · rintro  h
                              replace h := hk_92278.symm.trans h
                              refine WX.blockNormal ?_
                              exact WX.mid (G := List (List Int) × List (List Int) × Option Addr × Nat × List Value × Option Addr × Nat × List Value) ⟨a_91310, b_91315, (some ⟨b_91921, 0, none⟩), cap_91312, cs_91313, (some ⟨b_91940, 0, none⟩), cap_91317, cs_91318⟩ ⟨h, rel_91314, rel_91319⟩ (.cons rfl (.cons rfl (.cons rfl (.cons rfl (.cons rfl (.cons rfl (.cons rfl .nil))))))) (.cons .here (.cons .here (.cons .here (.cons .here (.cons .here .nil)))))
                    · rintro a_91898 b_91903 ao_91899 cap_91900 cs_91901 ao_91904 cap_91905 cs_91906 ⟨h, rel_91902, rel_91907⟩
                      replace h := (hk_91909 a_91898 b_91903).symm.trans h
                      refine WC.region ?_
                      refine WL.quiet (d := 142) rfl rfl rfl (q_add rfl rfl rfl) ?_
                      refine WL.quiet (d := 83) rfl rfl rfl (q_move rfl) ?_
                      refine WL.nil ?_
                      exact WX.round (G := Nat × List (List Int) × List (List Int) × Int × Option Addr × Nat × List Value × Option Addr × Nat × List Value) ⟨n_91322, a_91898, b_91903, (i64 (v_91320 + 1)), ao_91899, cap_91900, cs_91901, ao_91904, cap_91905, cs_91906⟩ ⟨h, rel_91902, rel_91907⟩ (Nat.lt_succ_self _) (.cons rfl (.cons rfl (.cons rfl (.cons rfl (.cons rfl (.cons rfl (.cons rfl .nil))))))) (.cons .here (.cons .here (.cons .here (.cons .here (.cons .here .nil)))))
                  · replace h := ite_f h hb_91324
                    refine WC.exit ?_
                    refine WX.thenExit ?_
                    refine WX.thenExit ?_
                    refine WX.blockHit ?_
                    exact WX.mid (G := Unit) () h .nil (.cons .here .nil)
                · rintro  h
                  replace h := hk_88975.symm.trans h
                  refine WC.seq ?_
                  obtain ⟨x_92483, hx_92484, h⟩ := bind_elim h
                  refine WC.region ?_
                  refine WL.enter1 (dd := 143) rfl rfl rfl (run_call (l := []) Try.call12 .nil) (.nil : Sel [fz (Zn_85447 ++ Zn_85450)] [] [fz (Zn_85447 ++ Zn_85450)]) (fun w hw => by have pz := (hz.call2 hw (.nil : Sel [fz (Zn_85447 ++ Zn_85450)] [] [fz (Zn_85447 ++ Zn_85450)]) .here); exact w_law34_awake (Z := _)   (r := x_92483) w pz  hx_92484) ?_
                  rintro Zn_92487 _
                  refine WL.merge .here .here ?_
                  refine WL.quiet (d := 6) rfl rfl rfl (q_assign rfl) ?_
                  refine WL.nil ?_
                  refine WX.then ?_
                  refine WC.ret ?_
                  obtain rfl := Option.some.inj h
                  refine WX.bpRet Try.results9 (.tmp rfl .nil) (fun w hw => ?_)
                  exact ⟨((Zn_85447 ++ Zn_85450) ++ Zn_92487), ret1 rfl, trivial, hw.sub (.cons .here .nil)⟩
end Go.Proofs.Ytbejngeaocfieaa
