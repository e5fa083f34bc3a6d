/- A part of this claim's proof: models of the functions that the law reaches, with the proof that the functions compute them; plain laws about the models. No conditions beyond those in each theorem's statement. -/
import Derived.Test.YtbejngeaocfieaaW34d
namespace Go.Proofs.Ytbejngeaocfieaa
open Go Go.RowKit Sep
set_option linter.all false
set_option maxRecDepth 30000
def m_law34_TimebaseRange_L5 (l_70263 : List (List Int)) (r_70268 : Int) (s_58013 : Stimebase_Setup) (k_70927 : (List (List Int)) → Int → Int → Option Bool) : Nat → Int → Int → Int → Option Bool
  | 0, _, _, _ => none
  | n_71081 + 1, lo_71077, hi_71078, v_71079 => if decide (v_71079 < (((nth l_70263 (i64 (r_70268 - 1))).length : Nat) : Int)) then jp2 (fun (lo_71113 : Int) (hi_71114 : Int) => m_law34_TimebaseRange_L5 l_70263 r_70268 s_58013 k_70927 n_71081 lo_71113 hi_71114 (i64 (v_71079 + 1))) fun k_71115 => chk ((0 : Int) ≤ v_71079 ∧ v_71079 < (((nth l_70263 (i64 (r_70268 - 1))).length : Nat) : Int)) ((m_law34_correct s_58013 v_71079).bind fun x_71126 => if x_71126 then chk ((0 : Int) ≤ v_71079 ∧ v_71079 < ((s_58013.fDrift.length : Nat) : Int)) (k_71115 (min lo_71077 (i64 ((nth (nth l_70263 (i64 (r_70268 - 1))) v_71079) + (nth s_58013.fDrift v_71079)))) (max hi_71078 (i64 ((nth (nth l_70263 (i64 (r_70268 - 1))) v_71079) + (nth s_58013.fDrift v_71079))))) else k_71115 lo_71077 hi_71078) else k_70927 l_70263 lo_71077 hi_71078
theorem m_law34_TimebaseRange_L5_fuel {n : Nat} {l_70263 : List (List Int)} {r_70268 : Int} {s_58013 : Stimebase_Setup} {k_70927 : (List (List Int)) → Int → Int → Option Bool} {lo_71077 : Int} {hi_71078 : Int} {v_71079 : Int} {r : Bool} (h : m_law34_TimebaseRange_L5 l_70263 r_70268 s_58013 k_70927 n lo_71077 hi_71078 v_71079 = some r) : ∃ m, n = m + 1 := by
  cases n with
  | zero => cases h
  | succ m => exact ⟨m, rfl⟩

def m_law34_TimebaseRange_L6 (l_70920 : List (List Int)) (r_70268 : Int) (s_58013 : Stimebase_Setup) (lo_70925 : Int) (hi_70926 : Int) (k_71269 : Option Bool) : Nat → Int → Option Bool
  | 0, _ => none
  | n_71308 + 1, v_71306 => if decide (v_71306 < (((nth l_70920 r_70268).length : Nat) : Int)) then chk ((0 : Int) ≤ v_71306 ∧ v_71306 < (((nth l_70920 r_70268).length : Nat) : Int)) ((m_law34_correct s_58013 v_71306).bind fun x_71336 => if x_71336 && ((decide ((nth (nth l_70920 r_70268) v_71306) < (i64 (lo_70925 - s_58013.fE)))) || (decide ((nth (nth l_70920 r_70268) v_71306) > (i64 (hi_70926 + s_58013.fE))))) then some false else m_law34_TimebaseRange_L6 l_70920 r_70268 s_58013 lo_70925 hi_70926 k_71269 n_71308 (i64 (v_71306 + 1))) else k_71269
theorem m_law34_TimebaseRange_L6_fuel {n : Nat} {l_70920 : List (List Int)} {r_70268 : Int} {s_58013 : Stimebase_Setup} {lo_70925 : Int} {hi_70926 : Int} {k_71269 : Option Bool} {v_71306 : Int} {r : Bool} (h : m_law34_TimebaseRange_L6 l_70920 r_70268 s_58013 lo_70925 hi_70926 k_71269 n v_71306 = some r) : ∃ m, n = m + 1 := by
  cases n with
  | zero => cases h
  | succ m => exact ⟨m, rfl⟩

def m_law34_TimebaseRange_L4 (s_58013 : Stimebase_Setup) (k_68108 : Option Bool) : Nat → (List (List Int)) → Int → Option Bool
  | 0, _, _ => none
  | n_70270 + 1, l_70263, r_70268 => if decide (r_70268 < ((l_70263.length : Nat) : Int)) then jp1 (fun (l_70913 : List (List Int)) => m_law34_TimebaseRange_L4 s_58013 k_68108 n_70270 l_70913 (i64 (r_70268 + 1))) fun k_70918 => jp3 (fun (l_70920 : List (List Int)) (lo_70925 : Int) (hi_70926 : Int) => chk ((0 : Int) ≤ r_70268 ∧ r_70268 < ((l_70920.length : Nat) : Int)) (jp0 (k_70918 l_70920) fun k_71269 => m_law34_TimebaseRange_L6 l_70920 r_70268 s_58013 lo_70925 hi_70926 k_71269 FUEL 0)) fun k_70927 => chk ((0 : Int) ≤ (i64 (r_70268 - 1)) ∧ (i64 (r_70268 - 1)) < ((l_70263.length : Nat) : Int)) (m_law34_TimebaseRange_L5 l_70263 r_70268 s_58013 k_70927 FUEL 1099511627776 (-1099511627776) 0) else k_68108
theorem m_law34_TimebaseRange_L4_fuel {n : Nat} {s_58013 : Stimebase_Setup} {k_68108 : Option Bool} {l_70263 : List (List Int)} {r_70268 : Int} {r : Bool} (h : m_law34_TimebaseRange_L4 s_58013 k_68108 n l_70263 r_70268 = some r) : ∃ m, n = m + 1 := by
  cases n with
  | zero => cases h
  | succ m => exact ⟨m, rfl⟩

/-- nacellelaw34.TimebaseRange -/
def m_law34_TimebaseRange (s_58013 : Stimebase_Setup) (rounds_58029 : Int) : Option Bool :=
  (m_law34_few s_58013).bind fun x_64840 => (if !x_64840 then some true else (m_timebase_Valid s_58013).bind fun x_64842 => some (!x_64842)).bind fun b_64844 => if b_64844 then (m_law34_awake).bind fun x_64851 => some x_64851 else (m_timebase_Run s_58013 (i64 (Int.tmod rounds_58029 31))).bind fun x_64857 => if decide (x_64857.2 ≠ 0) then some false else jp0 ((m_law34_awake).bind fun x_71343 => some x_71343) fun k_68108 => m_law34_TimebaseRange_L4 s_58013 k_68108 FUEL x_64857.1 1

set_option maxRecDepth 20000 in
theorem w_law34_TimebaseRange (Z : Zp)  (ao_58014 : Option Addr) (cap_58015 : Nat) (ao_58017 : Option Addr) (cap_58018 : Nat) (ao_58020 : Option Addr) (cap_58021 : Nat) (ao_58023 : Option Addr) (cap_58024 : Nat) (ao_58026 : Option Addr) (cap_58027 : Nat) (s_58013 : Stimebase_Setup) (rounds_58029 : Int) (r : Bool) (w₀ : World) (hz : PZ [] w₀ Z)
    (hs_58016 : ZS Z 1 (fun r x => r = e3 x) ao_58014 cap_58015 s_58013.fStart)
    (hs_58019 : ZS Z 1 (fun r x => r = e3 x) ao_58017 cap_58018 s_58013.fDrift)
    (hs_58022 : ZS Z 1 (fun r x => r = e3 x) ao_58020 cap_58021 s_58013.fFaulty)
    (hs_58025 : ZS Z 1 (fun r x => r = e3 x) ao_58023 cap_58024 s_58013.fErrs)
    (hs_58028 : ZS Z 1 (fun r x => r = e3 x) ao_58026 cap_58027 s_58013.fLies)
    (h : m_law34_TimebaseRange s_58013 rounds_58029 = some r) :
    Calls Try.prog 7 #[(.agg #[(.slice ao_58014 s_58013.fStart.length cap_58015), (.slice ao_58017 s_58013.fDrift.length cap_58018), (.slice ao_58020 s_58013.fFaulty.length cap_58021), (.int .i64 s_58013.fF), (.int .i64 s_58013.fE), (.slice ao_58023 s_58013.fErrs.length cap_58024), (.slice ao_58026 s_58013.fLies.length cap_58027)]), (.int .u8 rounds_58029)] w₀ fun e w' => ∃ Zn : Zp, e = .returned (.bool r) ∧ True ∧ Hp [] w₀ w' [fz Zn] := by
  unfold m_law34_TimebaseRange at h
  refine Calls.ofWC (vs := [(.agg #[(.slice ao_58014 s_58013.fStart.length cap_58015), (.slice ao_58017 s_58013.fDrift.length cap_58018), (.slice ao_58020 s_58013.fFaulty.length cap_58021), (.int .i64 s_58013.fF), (.int .i64 s_58013.fE), (.slice ao_58023 s_58013.fErrs.length cap_58024), (.slice ao_58026 s_58013.fLies.length cap_58027)]), (.int .u8 rounds_58029)]) (pre := []) (env := [(0, (.agg #[(.slice ao_58014 s_58013.fStart.length cap_58015), (.slice ao_58017 s_58013.fDrift.length cap_58018), (.slice ao_58020 s_58013.fFaulty.length cap_58021), (.int .i64 s_58013.fF), (.int .i64 s_58013.fE), (.slice ao_58023 s_58013.fErrs.length cap_58024), (.slice ao_58026 s_58013.fLies.length cap_58027)])), (1, (.int .u8 rounds_58029))]) Try.func7 rfl Try.ntmps7 rfl (Hp.nil w₀ _) rfl ?_
  refine WC.pool ?_
  refine WC.seq ?_
  refine WC.region ?_
  refine WL.new (dd := 2) rfl rfl rfl (e_box (cs := [(.slice ao_58014 s_58013.fStart.length cap_58015), (.slice ao_58017 s_58013.fDrift.length cap_58018), (.slice ao_58020 s_58013.fFaulty.length cap_58021), (.int .i64 s_58013.fF), (.int .i64 s_58013.fE), (.slice ao_58023 s_58013.fErrs.length cap_58024), (.slice ao_58026 s_58013.fLies.length cap_58027)]) rfl rfl) ?_
  intro b_64822 _
  refine WL.quiet (d := 4) rfl rfl rfl (q_assign rfl) ?_
  refine WL.nil ?_
  refine WX.then ?_
  refine WC.seq ?_
  refine WC.seq ?_
  obtain ⟨x_64840, hx_64841, h⟩ := bind_elim h
  obtain ⟨b_64844, hb_64845, h⟩ := bind_elim h
  refine WC.region ?_
  refine WL.quiet (d := 14) rfl rfl rfl (q_loadA (cs := [(.slice ao_58014 s_58013.fStart.length cap_58015), (.slice ao_58017 s_58013.fDrift.length cap_58018), (.slice ao_58020 s_58013.fFaulty.length cap_58021), (.int .i64 s_58013.fF), (.int .i64 s_58013.fE), (.slice ao_58023 s_58013.fErrs.length cap_58024), (.slice ao_58026 s_58013.fLies.length cap_58027)]) aggT_24 rfl rfl (rd_all .here)) ?_
  refine WL.callD (dd := 15) rfl rfl rfl (run_call (l := [.tmp 14]) Try.call11 (.cons rfl .nil)) (.nil : Sel [stb b_64822 24 [(.slice ao_58014 s_58013.fStart.length cap_58015), (.slice ao_58017 s_58013.fDrift.length cap_58018), (.slice ao_58020 s_58013.fFaulty.length cap_58021), (.int .i64 s_58013.fF), (.int .i64 s_58013.fE), (.slice ao_58023 s_58013.fErrs.length cap_58024), (.slice ao_58026 s_58013.fLies.length cap_58027)], fz []] [] [stb b_64822 24 [(.slice ao_58014 s_58013.fStart.length cap_58015), (.slice ao_58017 s_58013.fDrift.length cap_58018), (.slice ao_58020 s_58013.fFaulty.length cap_58021), (.int .i64 s_58013.fF), (.int .i64 s_58013.fE), (.slice ao_58023 s_58013.fErrs.length cap_58024), (.slice ao_58026 s_58013.fLies.length cap_58027)], fz []]) (fun w hw => by have pz := (hz.call2 hw (.nil : Sel [stb b_64822 24 [(.slice ao_58014 s_58013.fStart.length cap_58015), (.slice ao_58017 s_58013.fDrift.length cap_58018), (.slice ao_58020 s_58013.fFaulty.length cap_58021), (.int .i64 s_58013.fF), (.int .i64 s_58013.fE), (.slice ao_58023 s_58013.fErrs.length cap_58024), (.slice ao_58026 s_58013.fLies.length cap_58027)], fz []] [] [stb b_64822 24 [(.slice ao_58014 s_58013.fStart.length cap_58015), (.slice ao_58017 s_58013.fDrift.length cap_58018), (.slice ao_58020 s_58013.fFaulty.length cap_58021), (.int .i64 s_58013.fF), (.int .i64 s_58013.fE), (.slice ao_58023 s_58013.fErrs.length cap_58024), (.slice ao_58026 s_58013.fLies.length cap_58027)], fz []]) (.there .here)); exact w_law34_few (Z := _) (ao_26 := ao_58014) (cap_27 := cap_58015) (ao_29 := ao_58017) (cap_30 := cap_58018) (ao_32 := ao_58020) (cap_33 := cap_58021) (ao_35 := ao_58023) (cap_36 := cap_58024) (ao_38 := ao_58026) (cap_39 := cap_58027) (s_25 := s_58013) (r := x_64840) w pz (hs_58016.mono (Zle.left _ _)) (hs_58019.mono (Zle.left _ _)) (hs_58022.mono (Zle.left _ _)) (hs_58025.mono (Zle.left _ _)) (hs_58028.mono (Zle.left _ _)) hx_64841) ?_
  refine WL.quiet (d := 16) rfl rfl rfl (q_not rfl) ?_
  refine WL.quiet (d := 17) rfl rfl rfl (q_move rfl) ?_
  refine WL.cut0 True [(1, (.int .u8 rounds_58029)), (2, (.pointer (some ⟨b_64822, 0, none⟩))), (21, (.bool b_64844))] [stb b_64822 24 [(.slice ao_58014 s_58013.fStart.length cap_58015), (.slice ao_58017 s_58013.fDrift.length cap_58018), (.slice ao_58020 s_58013.fFaulty.length cap_58021), (.int .i64 s_58013.fF), (.int .i64 s_58013.fE), (.slice ao_58023 s_58013.fErrs.length cap_58024), (.slice ao_58026 s_58013.fLies.length cap_58027)], fz []] 4 ?_ (fun _ => ?_)
  · rcases Bool.eq_false_or_eq_true (!x_64840) with hb' | hb'
    · have hg_64846 := hb'; clear hb'
      have hq_64847 := ite_t hb_64845 hg_64846
      replace hq_64847 := Option.some.inj hq_64847
      refine WL.pin (i := 17) rfl hg_64846 ?_
      refine WL.skip rfl rfl rfl ?_
      refine WL.skip rfl rfl rfl ?_
      refine WL.skip rfl rfl rfl ?_
      refine WL.quiet (d := 21) rfl rfl rfl (q_pickT rfl rfl) ?_
      exact WL.cutEnd () trivial (.cons rfl (.cons rfl (.cons (some_bool hq_64847) .nil))) (.cons .here (.cons .here .nil))
    · have hg_64848 := hb'; clear hb'
      have hq_64849 := ite_f hb_64845 hg_64848
      obtain ⟨x_64842, hx_64843, hq_64849⟩ := bind_elim hq_64849
      replace hq_64849 := Option.some.inj hq_64849
      refine WL.pin (i := 17) rfl hg_64848 ?_
      refine WL.quiet (d := 18) rfl rfl rfl (q_loadA (cs := [(.slice ao_58014 s_58013.fStart.length cap_58015), (.slice ao_58017 s_58013.fDrift.length cap_58018), (.slice ao_58020 s_58013.fFaulty.length cap_58021), (.int .i64 s_58013.fF), (.int .i64 s_58013.fE), (.slice ao_58023 s_58013.fErrs.length cap_58024), (.slice ao_58026 s_58013.fLies.length cap_58027)]) aggT_24 rfl rfl (rd_all .here)) ?_
      refine WL.callD (dd := 19) rfl rfl rfl (run_call (l := [.tmp 18]) Try.call19 (.cons rfl .nil)) (.nil : Sel [stb b_64822 24 [(.slice ao_58014 s_58013.fStart.length cap_58015), (.slice ao_58017 s_58013.fDrift.length cap_58018), (.slice ao_58020 s_58013.fFaulty.length cap_58021), (.int .i64 s_58013.fF), (.int .i64 s_58013.fE), (.slice ao_58023 s_58013.fErrs.length cap_58024), (.slice ao_58026 s_58013.fLies.length cap_58027)], fz []] [] [stb b_64822 24 [(.slice ao_58014 s_58013.fStart.length cap_58015), (.slice ao_58017 s_58013.fDrift.length cap_58018), (.slice ao_58020 s_58013.fFaulty.length cap_58021), (.int .i64 s_58013.fF), (.int .i64 s_58013.fE), (.slice ao_58023 s_58013.fErrs.length cap_58024), (.slice ao_58026 s_58013.fLies.length cap_58027)], fz []]) (fun w hw => by have pz := (hz.call2 hw (.nil : Sel [stb b_64822 24 [(.slice ao_58014 s_58013.fStart.length cap_58015), (.slice ao_58017 s_58013.fDrift.length cap_58018), (.slice ao_58020 s_58013.fFaulty.length cap_58021), (.int .i64 s_58013.fF), (.int .i64 s_58013.fE), (.slice ao_58023 s_58013.fErrs.length cap_58024), (.slice ao_58026 s_58013.fLies.length cap_58027)], fz []] [] [stb b_64822 24 [(.slice ao_58014 s_58013.fStart.length cap_58015), (.slice ao_58017 s_58013.fDrift.length cap_58018), (.slice ao_58020 s_58013.fFaulty.length cap_58021), (.int .i64 s_58013.fF), (.int .i64 s_58013.fE), (.slice ao_58023 s_58013.fErrs.length cap_58024), (.slice ao_58026 s_58013.fLies.length cap_58027)], fz []]) (.there .here)); exact w_timebase_Valid (Z := _) (ao_104 := ao_58014) (cap_105 := cap_58015) (ao_107 := ao_58017) (cap_108 := cap_58018) (ao_110 := ao_58020) (cap_111 := cap_58021) (ao_113 := ao_58023) (cap_114 := cap_58024) (ao_116 := ao_58026) (cap_117 := cap_58027) (s_103 := s_58013) (r := x_64842) w pz (hs_58016.mono (Zle.left _ _)) (hs_58019.mono (Zle.left _ _)) (hs_58022.mono (Zle.left _ _)) (hs_58025.mono (Zle.left _ _)) (hs_58028.mono (Zle.left _ _)) hx_64843) ?_
      refine WL.quiet (d := 20) rfl rfl rfl (q_not rfl) ?_
      refine WL.quiet (d := 21) rfl rfl rfl (q_pickF rfl rfl) ?_
      exact WL.cutEnd () trivial (.cons rfl (.cons rfl (.cons (some_bool hq_64849) .nil))) (.cons .here (.cons .here .nil))
  · skip
    refine WL.nil ?_
    refine WX.then ?_
    refine WC.cond rfl (fun hb_64850 => ?_) (fun hb_64850 => ?_)
    · replace h := ite_t h hb_64850
      refine WC.seq ?_
      obtain ⟨x_64851, hx_64852, h⟩ := bind_elim h
      refine WC.region ?_
      refine WL.enter1 (dd := 22) rfl rfl rfl (run_call (l := []) Try.call12 .nil) (.nil : Sel [stb b_64822 24 [(.slice ao_58014 s_58013.fStart.length cap_58015), (.slice ao_58017 s_58013.fDrift.length cap_58018), (.slice ao_58020 s_58013.fFaulty.length cap_58021), (.int .i64 s_58013.fF), (.int .i64 s_58013.fE), (.slice ao_58023 s_58013.fErrs.length cap_58024), (.slice ao_58026 s_58013.fLies.length cap_58027)], fz []] [] [stb b_64822 24 [(.slice ao_58014 s_58013.fStart.length cap_58015), (.slice ao_58017 s_58013.fDrift.length cap_58018), (.slice ao_58020 s_58013.fFaulty.length cap_58021), (.int .i64 s_58013.fF), (.int .i64 s_58013.fE), (.slice ao_58023 s_58013.fErrs.length cap_58024), (.slice ao_58026 s_58013.fLies.length cap_58027)], fz []]) (fun w hw => by have pz := (hz.call2 hw (.nil : Sel [stb b_64822 24 [(.slice ao_58014 s_58013.fStart.length cap_58015), (.slice ao_58017 s_58013.fDrift.length cap_58018), (.slice ao_58020 s_58013.fFaulty.length cap_58021), (.int .i64 s_58013.fF), (.int .i64 s_58013.fE), (.slice ao_58023 s_58013.fErrs.length cap_58024), (.slice ao_58026 s_58013.fLies.length cap_58027)], fz []] [] [stb b_64822 24 [(.slice ao_58014 s_58013.fStart.length cap_58015), (.slice ao_58017 s_58013.fDrift.length cap_58018), (.slice ao_58020 s_58013.fFaulty.length cap_58021), (.int .i64 s_58013.fF), (.int .i64 s_58013.fE), (.slice ao_58023 s_58013.fErrs.length cap_58024), (.slice ao_58026 s_58013.fLies.length cap_58027)], fz []]) (.there .here)); exact w_law34_awake (Z := _)   (r := x_64851) w pz  hx_64852) ?_
      rintro Zn_64855 _
      refine WL.merge .here (.there .here) ?_
      refine WL.quiet (d := 4) rfl rfl rfl (q_assign rfl) ?_
      refine WL.nil ?_
      refine WX.then ?_
      refine WC.ret ?_
      refine WX.thenRet ?_
      obtain rfl := Option.some.inj h
      refine WX.bpRet Try.results7 (.tmp rfl .nil) (fun w hw => ?_)
      exact ⟨([] ++ Zn_64855), ret1 rfl, trivial, hw.sub (.cons .here .nil)⟩
    · replace h := ite_f h hb_64850
      refine WC.skip ?_
      refine WX.then ?_
      refine WC.seq ?_
      obtain ⟨x_64857, hx_64858, h⟩ := bind_elim h
      refine WC.region ?_
      refine WL.quiet (d := 24) rfl rfl rfl (q_loadA (cs := [(.slice ao_58014 s_58013.fStart.length cap_58015), (.slice ao_58017 s_58013.fDrift.length cap_58018), (.slice ao_58020 s_58013.fFaulty.length cap_58021), (.int .i64 s_58013.fF), (.int .i64 s_58013.fE), (.slice ao_58023 s_58013.fErrs.length cap_58024), (.slice ao_58026 s_58013.fLies.length cap_58027)]) aggT_24 rfl rfl (rd_all .here)) ?_
      refine WL.quiet (d := 25) rfl rfl rfl (q_move rfl) ?_
      refine WL.quiet (d := 26) rfl rfl rfl (q_rem rfl rfl (by decide) rfl) ?_
      refine WL.quiet (d := 27) rfl rfl rfl (q_conv Try.underlying5 Try.underlying3 rfl rfl) ?_
      refine WL.enter4 (dd := 28) rfl rfl rfl (run_call (l := [.tmp 24, .tmp 27]) Try.call16 (.cons rfl (.cons rfl .nil))) (.nil : Sel [stb b_64822 24 [(.slice ao_58014 s_58013.fStart.length cap_58015), (.slice ao_58017 s_58013.fDrift.length cap_58018), (.slice ao_58020 s_58013.fFaulty.length cap_58021), (.int .i64 s_58013.fF), (.int .i64 s_58013.fE), (.slice ao_58023 s_58013.fErrs.length cap_58024), (.slice ao_58026 s_58013.fLies.length cap_58027)], fz []] [] [stb b_64822 24 [(.slice ao_58014 s_58013.fStart.length cap_58015), (.slice ao_58017 s_58013.fDrift.length cap_58018), (.slice ao_58020 s_58013.fFaulty.length cap_58021), (.int .i64 s_58013.fF), (.int .i64 s_58013.fE), (.slice ao_58023 s_58013.fErrs.length cap_58024), (.slice ao_58026 s_58013.fLies.length cap_58027)], fz []]) (fun w hw => by have pz := (hz.call2 hw (.nil : Sel [stb b_64822 24 [(.slice ao_58014 s_58013.fStart.length cap_58015), (.slice ao_58017 s_58013.fDrift.length cap_58018), (.slice ao_58020 s_58013.fFaulty.length cap_58021), (.int .i64 s_58013.fF), (.int .i64 s_58013.fE), (.slice ao_58023 s_58013.fErrs.length cap_58024), (.slice ao_58026 s_58013.fLies.length cap_58027)], fz []] [] [stb b_64822 24 [(.slice ao_58014 s_58013.fStart.length cap_58015), (.slice ao_58017 s_58013.fDrift.length cap_58018), (.slice ao_58020 s_58013.fFaulty.length cap_58021), (.int .i64 s_58013.fF), (.int .i64 s_58013.fE), (.slice ao_58023 s_58013.fErrs.length cap_58024), (.slice ao_58026 s_58013.fLies.length cap_58027)], fz []]) (.there .here)); exact w_timebase_Run (Z := _) (ao_13211 := ao_58014) (cap_13212 := cap_58015) (ao_13214 := ao_58017) (cap_13215 := cap_58018) (ao_13217 := ao_58020) (cap_13218 := cap_58021) (ao_13220 := ao_58023) (cap_13221 := cap_58024) (ao_13223 := ao_58026) (cap_13224 := cap_58027) (s_13210 := s_58013) (rounds_13226 := (i64 (Int.tmod rounds_58029 31))) (r := x_64857) w pz (hs_58016.mono (Zle.left _ _)) (hs_58019.mono (Zle.left _ _)) (hs_58022.mono (Zle.left _ _)) (hs_58025.mono (Zle.left _ _)) (hs_58028.mono (Zle.left _ _)) hx_64858) ?_
      rintro Zn_64866 ao_64867 cap_64868 cs_64869 hf_64870
      refine WL.merge .here (.there (.there .here)) ?_
      refine WL.quiet (d := 23) rfl rfl rfl (q_move rfl) ?_
      refine WL.quiet (d := 29) rfl rfl rfl (q_extract rfl rfl) ?_
      refine WL.quiet (d := 30) rfl rfl rfl (q_extract rfl rfl) ?_
      refine WL.quiet (d := 5) rfl rfl rfl (q_assign rfl) ?_
      refine WL.quiet (d := 6) rfl rfl rfl (q_assign rfl) ?_
      refine WL.nil ?_
      refine WX.then ?_
      refine WC.seq ?_
      refine WC.seq ?_
      refine WC.region ?_
      refine WL.quiet (d := 31) rfl rfl rfl (q_move rfl) ?_
      refine WL.quiet (d := 32) rfl rfl rfl (q_neq rfl rfl) ?_
      refine WL.nil ?_
      refine WX.then ?_
      refine WC.cond rfl (fun hb_64874 => ?_) (fun hb_64874 => ?_)
      · replace h := ite_t h hb_64874
        refine WC.seq ?_
        refine WC.region ?_
        refine WL.quiet (d := 4) rfl rfl rfl (q_assign rfl) ?_
        refine WL.nil ?_
        refine WX.then ?_
        refine WC.ret ?_
        refine WX.thenRet ?_
        obtain rfl := Option.some.inj h
        refine WX.bpRet Try.results7 (.tmp rfl .nil) (fun w hw => ?_)
        exact ⟨([] ++ Zn_64866), ret1 rfl, trivial, hw.sub (.cons .here .nil)⟩
      · replace h := ite_f h hb_64874
        refine WC.skip ?_
        refine WX.then ?_
        obtain ⟨k_68108, hk_68109, h⟩ := jp0_elim h
        refine WC.seqMid0 ((k_68108 = some r)) ([]) ([fz ([] ++ Zn_64866)]) ?_ ?_
        · skip
          refine WC.seq ?_
          refine WC.region ?_
          refine WL.quiet (d := 7) rfl rfl rfl (q_assign rfl) ?_
          refine WL.nil ?_
          refine WX.then ?_
          refine WC.block ?_
          refine WC.loop6 (fun (n_70269 : Nat) (l_70263 : List (List Int)) (r_70268 : Int) (ao_70264 : Option Addr) (cap_70265 : Nat) (cs_70266 : List Value) => (m_law34_TimebaseRange_L4 s_58013 k_68108 n_70269 l_70263 r_70268 = some r) ∧ (RR 1 (p22 (Z ++ ([] ++ Zn_64866))) cs_70266 l_70263)) (fun (n_70269 : Nat) (l_70263 : List (List Int)) (r_70268 : Int) (ao_70264 : Option Addr) (cap_70265 : Nat) (cs_70266 : List Value) => [(2, (.pointer (some ⟨b_64822, 0, none⟩))), (5, (.slice ao_70264 l_70263.length cap_70265)), (7, (.int .i64 r_70268))]) (fun (n_70269 : Nat) (l_70263 : List (List Int)) (r_70268 : Int) (ao_70264 : Option Addr) (cap_70265 : Nat) (cs_70266 : List Value) => [fz ([] ++ Zn_64866), row (.slice ao_70264 l_70263.length cap_70265) 22 1 cs_70266, stb b_64822 24 [(.slice ao_58014 s_58013.fStart.length cap_58015), (.slice ao_58017 s_58013.fDrift.length cap_58018), (.slice ao_58020 s_58013.fFaulty.length cap_58021), (.int .i64 s_58013.fF), (.int .i64 s_58013.fE), (.slice ao_58023 s_58013.fErrs.length cap_58024), (.slice ao_58026 s_58013.fLies.length cap_58027)]]) (fun (n_70269 : Nat) (l_70263 : List (List Int)) (r_70268 : Int) (ao_70264 : Option Addr) (cap_70265 : Nat) (cs_70266 : List Value) => n_70269) ⟨FUEL, x_64857.1, 1, ao_64867, cap_64868, cs_64869⟩ ⟨h, (hf_64870.weak (fun _ _ h => p22_mono (Zle.assoc _ _ _) h))⟩ (.cons rfl (.cons rfl (.cons rfl .nil))) (.cons .here (.cons .here (.cons .here .nil))) ?_
          rintro n_70269 l_70263 r_70268 ao_70264 cap_70265 cs_70266 ⟨h, rel_70267⟩
          obtain ⟨n_70270, rfl⟩ := m_law34_TimebaseRange_L4_fuel h
          rw [m_law34_TimebaseRange_L4] at h
          refine WC.seq ?_
          refine WC.seq ?_
          refine WC.region ?_
          refine WL.quiet (d := 33) rfl rfl rfl (q_move rfl) ?_
          refine WL.quiet (d := 34) rfl rfl rfl (q_move rfl) ?_
          refine WL.quiet (d := 35) rfl rfl rfl (q_len Try.underlying30 rfl) ?_
          refine WL.quiet (d := 36) rfl rfl rfl (q_lss rfl rfl) ?_
          refine WL.nil ?_
          refine WX.then ?_
          refine WC.cond rfl (fun hb_70272 => ?_) (fun hb_70272 => ?_)
          · replace h := ite_t h hb_70272
            refine WC.skip ?_
            refine WX.then ?_
            obtain ⟨k_70918, hk_70919, h⟩ := jp1_elim h
            refine WC.seqMid4 (fun (l_70913 : List (List Int)) (ao_70914 : Option Addr) (cap_70915 : Nat) (cs_70916 : List Value) => (k_70918 l_70913 = some r) ∧ (RR 1 (p22 (Z ++ ([] ++ Zn_64866))) cs_70916 l_70913)) (fun (l_70913 : List (List Int)) (ao_70914 : Option Addr) (cap_70915 : Nat) (cs_70916 : List Value) => [(2, (.pointer (some ⟨b_64822, 0, none⟩))), (5, (.slice ao_70914 l_70913.length cap_70915)), (7, (.int .i64 r_70268))]) (fun (l_70913 : List (List Int)) (ao_70914 : Option Addr) (cap_70915 : Nat) (cs_70916 : List Value) => [fz ([] ++ Zn_64866), row (.slice ao_70914 l_70913.length cap_70915) 22 1 cs_70916, stb b_64822 24 [(.slice ao_58014 s_58013.fStart.length cap_58015), (.slice ao_58017 s_58013.fDrift.length cap_58018), (.slice ao_58020 s_58013.fFaulty.length cap_58021), (.int .i64 s_58013.fF), (.int .i64 s_58013.fE), (.slice ao_58023 s_58013.fErrs.length cap_58024), (.slice ao_58026 s_58013.fLies.length cap_58027)]]) ?_ ?_
            · skip
              refine WC.block ?_
              refine WC.seq ?_
              refine WC.region ?_
              refine WL.quiet (d := 8) rfl rfl rfl (q_assign rfl) ?_
              refine WL.quiet (d := 9) rfl rfl rfl (q_assign rfl) ?_
              refine WL.nil ?_
              refine WX.then ?_
              obtain ⟨k_70927, hk_70928, h⟩ := jp3_elim h
              refine WC.seqMid6 (fun (l_70920 : List (List Int)) (lo_70925 : Int) (hi_70926 : Int) (ao_70921 : Option Addr) (cap_70922 : Nat) (cs_70923 : List Value) => (k_70927 l_70920 lo_70925 hi_70926 = some r) ∧ (RR 1 (p22 (Z ++ ([] ++ Zn_64866))) cs_70923 l_70920)) (fun (l_70920 : List (List Int)) (lo_70925 : Int) (hi_70926 : Int) (ao_70921 : Option Addr) (cap_70922 : Nat) (cs_70923 : List Value) => [(2, (.pointer (some ⟨b_64822, 0, none⟩))), (5, (.slice ao_70921 l_70920.length cap_70922)), (7, (.int .i64 r_70268)), (8, (.int .i64 lo_70925)), (9, (.int .i64 hi_70926))]) (fun (l_70920 : List (List Int)) (lo_70925 : Int) (hi_70926 : Int) (ao_70921 : Option Addr) (cap_70922 : Nat) (cs_70923 : List Value) => [fz ([] ++ Zn_64866), row (.slice ao_70921 l_70920.length cap_70922) 22 1 cs_70923, stb b_64822 24 [(.slice ao_58014 s_58013.fStart.length cap_58015), (.slice ao_58017 s_58013.fDrift.length cap_58018), (.slice ao_58020 s_58013.fFaulty.length cap_58021), (.int .i64 s_58013.fF), (.int .i64 s_58013.fE), (.slice ao_58023 s_58013.fErrs.length cap_58024), (.slice ao_58026 s_58013.fLies.length cap_58027)]]) ?_ ?_
              · skip
                refine WC.seq ?_
                obtain ⟨c_70929, h⟩ := chk_elim h
                refine WC.region ?_
                refine WL.quiet (d := 39) rfl rfl rfl (q_move rfl) ?_
                refine WL.quiet (d := 40) rfl rfl rfl (q_move rfl) ?_
                refine WL.quiet (d := 41) rfl rfl rfl (q_sub rfl rfl rfl) ?_
                refine WL.know (fun w hw => Hp.expose (.there .here) hw (by intro hz'; have := c_70929; rw [hz'] at this; omega)) ?_
                rintro ⟨b_70938, rfl⟩
                obtain ⟨r_70942, tl_70943, hl_70944, hd_70945, ⟨ao_70939, cap_70940, rfl, hs_70941⟩⟩ := RR.elem rel_70267 c_70929.1 c_70929.2
                refine WL.quiet (d := 42) rfl rfl rfl (q_indexAddr elT_30 rfl rfl c_70929.1 c_70929.2 rowAdd) ?_
                refine WL.quiet (d := 43) rfl rfl rfl (q_load1 oneT_22 rfl (rd_row (.there .here) (drop_rd hd_70945 0 _ rfl))) ?_
                refine WL.quiet (d := 44) rfl rfl rfl (q_len Try.underlying22 rfl) ?_
                refine WL.quiet (d := 45) rfl rfl rfl (q_move rfl) ?_
                refine WL.nil ?_
                refine WX.then ?_
                refine WC.block ?_
                refine WC.loop4 (fun (n_71080 : Nat) (lo_71077 : Int) (hi_71078 : Int) (v_71079 : Int) => (m_law34_TimebaseRange_L5 l_70263 r_70268 s_58013 k_70927 n_71080 lo_71077 hi_71078 v_71079 = some r)) (fun (n_71080 : Nat) (lo_71077 : Int) (hi_71078 : Int) (v_71079 : Int) => [(2, (.pointer (some ⟨b_64822, 0, none⟩))), (5, (.slice (some ⟨b_70938, 0, none⟩) l_70263.length cap_70265)), (7, (.int .i64 r_70268)), (8, (.int .i64 lo_71077)), (9, (.int .i64 hi_71078)), (43, (.slice ao_70939 ((nth l_70263 (i64 (r_70268 - 1))).length) cap_70940)), (44, (.int .i64 (((nth l_70263 (i64 (r_70268 - 1))).length : Nat) : Int))), (45, (.int .i64 v_71079))]) (fun (n_71080 : Nat) (lo_71077 : Int) (hi_71078 : Int) (v_71079 : Int) => [fz ([] ++ Zn_64866), row (.slice (some ⟨b_70938, 0, none⟩) l_70263.length cap_70265) 22 1 cs_70266, stb b_64822 24 [(.slice ao_58014 s_58013.fStart.length cap_58015), (.slice ao_58017 s_58013.fDrift.length cap_58018), (.slice ao_58020 s_58013.fFaulty.length cap_58021), (.int .i64 s_58013.fF), (.int .i64 s_58013.fE), (.slice ao_58023 s_58013.fErrs.length cap_58024), (.slice ao_58026 s_58013.fLies.length cap_58027)]]) (fun (n_71080 : Nat) (lo_71077 : Int) (hi_71078 : Int) (v_71079 : Int) => n_71080) ⟨FUEL, 1099511627776, (-1099511627776), 0⟩ h (.cons rfl (.cons rfl (.cons rfl (.cons rfl (.cons rfl (.cons rfl (.cons rfl (.cons rfl .nil)))))))) (.cons .here (.cons .here (.cons .here .nil))) ?_
                rintro n_71080 lo_71077 hi_71078 v_71079 h
                obtain ⟨n_71081, rfl⟩ := m_law34_TimebaseRange_L5_fuel h
                rw [m_law34_TimebaseRange_L5] at h
                refine WC.seq ?_
                refine WC.region ?_
                refine WL.quiet (d := 46) rfl rfl rfl (q_lss rfl rfl) ?_
                refine WL.nil ?_
                refine WX.then ?_
                refine WC.seq ?_
                refine WC.cond rfl (fun hb_71083 => ?_) (fun hb_71083 => ?_)
                · replace h := ite_t h hb_71083
                  refine WC.skip ?_
                  refine WX.then ?_
                  obtain ⟨k_71115, hk_71116, h⟩ := jp2_elim h
                  refine WC.seqMid2 (fun (lo_71113 : Int) (hi_71114 : Int) => (k_71115 lo_71113 hi_71114 = some r)) (fun (lo_71113 : Int) (hi_71114 : Int) => [(2, (.pointer (some ⟨b_64822, 0, none⟩))), (5, (.slice (some ⟨b_70938, 0, none⟩) l_70263.length cap_70265)), (7, (.int .i64 r_70268)), (8, (.int .i64 lo_71113)), (9, (.int .i64 hi_71114)), (43, (.slice ao_70939 ((nth l_70263 (i64 (r_70268 - 1))).length) cap_70940)), (44, (.int .i64 (((nth l_70263 (i64 (r_70268 - 1))).length : Nat) : Int))), (45, (.int .i64 v_71079))]) (fun (lo_71113 : Int) (hi_71114 : Int) => [fz ([] ++ Zn_64866), row (.slice (some ⟨b_70938, 0, none⟩) l_70263.length cap_70265) 22 1 cs_70266, stb b_64822 24 [(.slice ao_58014 s_58013.fStart.length cap_58015), (.slice ao_58017 s_58013.fDrift.length cap_58018), (.slice ao_58020 s_58013.fFaulty.length cap_58021), (.int .i64 s_58013.fF), (.int .i64 s_58013.fE), (.slice ao_58023 s_58013.fErrs.length cap_58024), (.slice ao_58026 s_58013.fLies.length cap_58027)]]) ?_ ?_
                  · skip
                    refine WC.block ?_
                    refine WC.seq ?_
                    obtain ⟨c_71117, h⟩ := chk_elim h
                    refine WC.region ?_
                    refine WL.quiet (d := 47) rfl rfl rfl (q_move rfl) ?_
                    refine WL.znth (dd := 48) rfl rfl (Z := (Z ++ ([] ++ Zn_64866))) (Pr := (fun r x => r = e3 x)) elT_22 rfl rfl hs_70941 c_71117 ?_
                    rintro A_71122 r_71123 hA_71124 hl_71125 rfl
                    refine WL.quiet (d := 49) rfl rfl rfl (q_load1 oneT_3 rfl (rd_z (hz.pv2 .here) hA_71124 rfl)) ?_
                    refine WL.quiet (d := 10) rfl rfl rfl (q_assign rfl) ?_
                    refine WL.quiet (d := 11) rfl rfl rfl (q_assign rfl) ?_
                    refine WL.nil ?_
                    refine WX.then ?_
                    refine WC.seq ?_
                    obtain ⟨x_71126, hx_71127, h⟩ := bind_elim h
                    refine WC.region ?_
                    refine WL.quiet (d := 50) rfl rfl rfl (q_loadA (cs := [(.slice ao_58014 s_58013.fStart.length cap_58015), (.slice ao_58017 s_58013.fDrift.length cap_58018), (.slice ao_58020 s_58013.fFaulty.length cap_58021), (.int .i64 s_58013.fF), (.int .i64 s_58013.fE), (.slice ao_58023 s_58013.fErrs.length cap_58024), (.slice ao_58026 s_58013.fLies.length cap_58027)]) aggT_24 rfl rfl (rd_all (.there (.there .here)))) ?_
                    refine WL.quiet (d := 51) rfl rfl rfl (q_move rfl) ?_
                    refine WL.callD (dd := 52) rfl rfl rfl (run_call (l := [.tmp 50, .tmp 51]) Try.call27 (.cons rfl (.cons rfl .nil))) (.nil : Sel [fz ([] ++ Zn_64866), row (.slice (some ⟨b_70938, 0, none⟩) l_70263.length cap_70265) 22 1 cs_70266, stb b_64822 24 [(.slice ao_58014 s_58013.fStart.length cap_58015), (.slice ao_58017 s_58013.fDrift.length cap_58018), (.slice ao_58020 s_58013.fFaulty.length cap_58021), (.int .i64 s_58013.fF), (.int .i64 s_58013.fE), (.slice ao_58023 s_58013.fErrs.length cap_58024), (.slice ao_58026 s_58013.fLies.length cap_58027)]] [] [fz ([] ++ Zn_64866), row (.slice (some ⟨b_70938, 0, none⟩) l_70263.length cap_70265) 22 1 cs_70266, stb b_64822 24 [(.slice ao_58014 s_58013.fStart.length cap_58015), (.slice ao_58017 s_58013.fDrift.length cap_58018), (.slice ao_58020 s_58013.fFaulty.length cap_58021), (.int .i64 s_58013.fF), (.int .i64 s_58013.fE), (.slice ao_58023 s_58013.fErrs.length cap_58024), (.slice ao_58026 s_58013.fLies.length cap_58027)]]) (fun w hw => by have pz := (hz.call2 hw (.nil : Sel [fz ([] ++ Zn_64866), row (.slice (some ⟨b_70938, 0, none⟩) l_70263.length cap_70265) 22 1 cs_70266, stb b_64822 24 [(.slice ao_58014 s_58013.fStart.length cap_58015), (.slice ao_58017 s_58013.fDrift.length cap_58018), (.slice ao_58020 s_58013.fFaulty.length cap_58021), (.int .i64 s_58013.fF), (.int .i64 s_58013.fE), (.slice ao_58023 s_58013.fErrs.length cap_58024), (.slice ao_58026 s_58013.fLies.length cap_58027)]] [] [fz ([] ++ Zn_64866), row (.slice (some ⟨b_70938, 0, none⟩) l_70263.length cap_70265) 22 1 cs_70266, stb b_64822 24 [(.slice ao_58014 s_58013.fStart.length cap_58015), (.slice ao_58017 s_58013.fDrift.length cap_58018), (.slice ao_58020 s_58013.fFaulty.length cap_58021), (.int .i64 s_58013.fF), (.int .i64 s_58013.fE), (.slice ao_58023 s_58013.fErrs.length cap_58024), (.slice ao_58026 s_58013.fLies.length cap_58027)]]) .here); exact w_law34_correct (Z := _) (ao_58118 := ao_58014) (cap_58119 := cap_58015) (ao_58121 := ao_58017) (cap_58122 := cap_58018) (ao_58124 := ao_58020) (cap_58125 := cap_58021) (ao_58127 := ao_58023) (cap_58128 := cap_58024) (ao_58130 := ao_58026) (cap_58131 := cap_58027) (s_58117 := s_58013) (i_58133 := v_71079) (r := x_71126) w pz (hs_58016.mono ((Zle.left _ _).trans ((Zle.left _ _).trans (Zle.assoc _ _ _)))) (hs_58019.mono ((Zle.left _ _).trans ((Zle.left _ _).trans (Zle.assoc _ _ _)))) (hs_58022.mono ((Zle.left _ _).trans ((Zle.left _ _).trans (Zle.assoc _ _ _)))) (hs_58025.mono ((Zle.left _ _).trans ((Zle.left _ _).trans (Zle.assoc _ _ _)))) (hs_58028.mono ((Zle.left _ _).trans ((Zle.left _ _).trans (Zle.assoc _ _ _)))) hx_71127) ?_
                    refine WL.nil ?_
                    refine WX.then ?_
                    refine WC.cond rfl (fun hb_71128 => ?_) (fun hb_71128 => ?_)
                    · replace h := ite_t h hb_71128
                      obtain ⟨c_71129, h⟩ := chk_elim h
                      refine WC.draw (fun i => [].contains i) [] rfl ?_
                      refine WD.pure (i := 0) (d := 53) (by kernel_rfl) rfl (by kernel_rfl) (by kernel_rfl) rfl rfl rfl (fun _ => q_move rfl) ?_
                      refine WD.pure (i := 1) (d := 54) (by kernel_rfl) rfl (by kernel_rfl) (by kernel_rfl) rfl rfl rfl (fun _ => q_move rfl) ?_
                      refine WD.pure (i := 2) (d := 55) (by kernel_rfl) rfl (by kernel_rfl) (by kernel_rfl) rfl rfl rfl (fun _ => q_fieldAddr fo_24_1 rfl rfl) ?_
                      refine WD.quiet (i := 3) (d := 56) (by kernel_rfl) rfl (by kernel_rfl) (by kernel_rfl) rfl rfl rfl (q_load1 oneT_22 rfl (rd_stb (.there (.there .here)) rfl)) ?_
                      refine WD.pure (i := 4) (d := 57) (by kernel_rfl) rfl (by kernel_rfl) (by kernel_rfl) rfl rfl rfl (fun _ => q_move rfl) ?_
                      refine WD.znth (j := 5) (dd := 58) (by kernel_rfl) rfl (by kernel_rfl) (by kernel_rfl) rfl rfl (Z := (Z ++ ([] ++ Zn_64866))) (Pr := (fun r x => r = e3 x)) elT_22 rfl rfl (hs_58019.mono ((Zle.left _ _).trans ((Zle.left _ _).trans (Zle.assoc _ _ _)))) c_71129 ?_
                      rintro A_71138 r_71139 hA_71140 hl_71141 rfl
                      refine WD.quiet (i := 6) (d := 59) (by kernel_rfl) rfl (by kernel_rfl) (by kernel_rfl) rfl rfl rfl (q_load1 oneT_3 rfl (rd_z (hz.pv2 .here) hA_71140 rfl)) ?_
                      refine WD.pure (i := 7) (d := 60) (by kernel_rfl) rfl (by kernel_rfl) (by kernel_rfl) rfl rfl rfl (fun _ => q_add rfl rfl rfl) ?_
                      refine WD.pure (i := 8) (d := 61) (by kernel_rfl) rfl (by kernel_rfl) (by kernel_rfl) rfl rfl rfl (fun _ => q_min rfl rfl rfl) ?_
                      refine WD.pure (i := 9) (d := 62) (by kernel_rfl) rfl (by kernel_rfl) (by kernel_rfl) rfl rfl rfl (fun _ => q_move rfl) ?_
                      refine WD.pure (i := 10) (d := 63) (by kernel_rfl) rfl (by kernel_rfl) (by kernel_rfl) rfl rfl rfl (fun _ => q_move rfl) ?_
                      refine WD.pure (i := 11) (d := 64) (by kernel_rfl) rfl (by kernel_rfl) (by kernel_rfl) rfl rfl rfl (fun _ => q_fieldAddr fo_24_1 rfl rfl) ?_
                      refine WD.quiet (i := 12) (d := 65) (by kernel_rfl) rfl (by kernel_rfl) (by kernel_rfl) rfl rfl rfl (q_load1 oneT_22 rfl (rd_stb (.there (.there .here)) rfl)) ?_
                      refine WD.pure (i := 13) (d := 66) (by kernel_rfl) rfl (by kernel_rfl) (by kernel_rfl) rfl rfl rfl (fun _ => q_move rfl) ?_
                      refine WD.znth (j := 14) (dd := 67) (by kernel_rfl) rfl (by kernel_rfl) (by kernel_rfl) rfl rfl (Z := (Z ++ ([] ++ Zn_64866))) (Pr := (fun r x => r = e3 x)) elT_22 rfl rfl (hs_58019.mono ((Zle.left _ _).trans ((Zle.left _ _).trans (Zle.assoc _ _ _)))) c_71129 ?_
                      rintro A_71142 r_71143 hA_71144 hl_71145 rfl
                      refine WD.quiet (i := 15) (d := 68) (by kernel_rfl) rfl (by kernel_rfl) (by kernel_rfl) rfl rfl rfl (q_load1 oneT_3 rfl (rd_z (hz.pv2 .here) hA_71144 rfl)) ?_
                      refine WD.pure (i := 16) (d := 69) (by kernel_rfl) rfl (by kernel_rfl) (by kernel_rfl) rfl rfl rfl (fun _ => q_add rfl rfl rfl) ?_
                      refine WD.pure (i := 17) (d := 70) (by kernel_rfl) rfl (by kernel_rfl) (by kernel_rfl) rfl rfl rfl (fun _ => q_max rfl rfl rfl) ?_
                      refine WD.pure (i := 18) (d := 8) (by kernel_rfl) rfl (by kernel_rfl) (by kernel_rfl) rfl rfl rfl (fun _ => q_assign rfl) ?_
                      refine WD.pure (i := 19) (d := 9) (by kernel_rfl) rfl (by kernel_rfl) (by kernel_rfl) rfl rfl rfl (fun _ => q_assign rfl) ?_
                      refine WD.done (by kernel_rfl) ?_
                      refine WX.blockNormal ?_
                      exact WX.mid (G := Int × Int) ⟨(min lo_71077 (i64 ((nth (nth l_70263 (i64 (r_70268 - 1))) v_71079) + (nth s_58013.fDrift v_71079)))), (max hi_71078 (i64 ((nth (nth l_70263 (i64 (r_70268 - 1))) v_71079) + (nth s_58013.fDrift v_71079))))⟩ h (.cons rfl (.cons rfl (.cons rfl (.cons rfl (.cons rfl (.cons rfl (.cons rfl (.cons rfl .nil)))))))) (.cons .here (.cons .here (.cons .here .nil)))
                    · replace h := ite_f h hb_71128
                      refine WC.skip ?_
                      refine WX.blockNormal ?_
                      exact WX.mid (G := Int × Int) ⟨lo_71077, hi_71078⟩ h (.cons rfl (.cons rfl (.cons rfl (.cons rfl (.cons rfl (.cons rfl (.cons rfl (.cons rfl .nil)))))))) (.cons .here (.cons .here (.cons .here .nil)))
                  · rintro lo_71113 hi_71114 h
                    replace h := (hk_71116 lo_71113 hi_71114).symm.trans h
                    refine WC.region ?_
                    refine WL.quiet (d := 71) rfl rfl rfl (q_add rfl rfl rfl) ?_
                    refine WL.quiet (d := 45) rfl rfl rfl (q_move rfl) ?_
                    refine WL.nil ?_
                    exact WX.round (G := Nat × Int × Int × Int) ⟨n_71081, lo_71113, hi_71114, (i64 (v_71079 + 1))⟩ h (Nat.lt_succ_self _) (.cons rfl (.cons rfl (.cons rfl (.cons rfl (.cons rfl (.cons rfl (.cons rfl (.cons rfl .nil)))))))) (.cons .here (.cons .here (.cons .here .nil)))
                · replace h := ite_f h hb_71083
                  refine WC.exit ?_
                  refine WX.thenExit ?_
                  refine WX.thenExit ?_
                  refine WX.blockHit ?_
                  exact WX.mid (G := List (List Int) × Int × Int × Option Addr × Nat × List Value) ⟨l_70263, lo_71077, hi_71078, (some ⟨b_70938, 0, none⟩), cap_70265, cs_70266⟩ ⟨h, rel_70267⟩ (.cons rfl (.cons rfl (.cons rfl (.cons rfl (.cons rfl .nil))))) (.cons .here (.cons .here (.cons .here .nil)))
              · rintro l_70920 lo_70925 hi_70926 ao_70921 cap_70922 cs_70923 ⟨h, rel_70924⟩
                replace h := (hk_70928 l_70920 lo_70925 hi_70926).symm.trans h
                refine WC.seq ?_
                obtain ⟨c_71146, h⟩ := chk_elim h
                refine WC.region ?_
                refine WL.quiet (d := 72) rfl rfl rfl (q_move rfl) ?_
                refine WL.quiet (d := 73) rfl rfl rfl (q_move rfl) ?_
                refine WL.know (fun w hw => Hp.expose (.there .here) hw (by intro hz'; have := c_71146; rw [hz'] at this; omega)) ?_
                rintro ⟨b_71155, rfl⟩
                obtain ⟨r_71159, tl_71160, hl_71161, hd_71162, ⟨ao_71156, cap_71157, rfl, hs_71158⟩⟩ := RR.elem rel_70924 c_71146.1 c_71146.2
                refine WL.quiet (d := 74) rfl rfl rfl (q_indexAddr elT_30 rfl rfl c_71146.1 c_71146.2 rowAdd) ?_
                refine WL.quiet (d := 75) rfl rfl rfl (q_load1 oneT_22 rfl (rd_row (.there .here) (drop_rd hd_71162 0 _ rfl))) ?_
                refine WL.quiet (d := 76) rfl rfl rfl (q_len Try.underlying22 rfl) ?_
                refine WL.quiet (d := 77) rfl rfl rfl (q_move rfl) ?_
                refine WL.nil ?_
                refine WX.then ?_
                obtain ⟨k_71269, hk_71270, h⟩ := jp0_elim h
                refine WC.mid0 ((k_71269 = some r)) ([(2, (.pointer (some ⟨b_64822, 0, none⟩))), (5, (.slice (some ⟨b_71155, 0, none⟩) l_70920.length cap_70922)), (7, (.int .i64 r_70268))]) ([fz ([] ++ Zn_64866), row (.slice (some ⟨b_71155, 0, none⟩) l_70920.length cap_70922) 22 1 cs_70923, stb b_64822 24 [(.slice ao_58014 s_58013.fStart.length cap_58015), (.slice ao_58017 s_58013.fDrift.length cap_58018), (.slice ao_58020 s_58013.fFaulty.length cap_58021), (.int .i64 s_58013.fF), (.int .i64 s_58013.fE), (.slice ao_58023 s_58013.fErrs.length cap_58024), (.slice ao_58026 s_58013.fLies.length cap_58027)]]) ?_ ?_
                · skip
                  refine WC.block ?_
                  refine WC.loop2 (fun (n_71307 : Nat) (v_71306 : Int) => (m_law34_TimebaseRange_L6 l_70920 r_70268 s_58013 lo_70925 hi_70926 k_71269 n_71307 v_71306 = some r)) (fun (n_71307 : Nat) (v_71306 : Int) => [(2, (.pointer (some ⟨b_64822, 0, none⟩))), (5, (.slice (some ⟨b_71155, 0, none⟩) l_70920.length cap_70922)), (7, (.int .i64 r_70268)), (8, (.int .i64 lo_70925)), (9, (.int .i64 hi_70926)), (75, (.slice ao_71156 ((nth l_70920 r_70268).length) cap_71157)), (76, (.int .i64 (((nth l_70920 r_70268).length : Nat) : Int))), (77, (.int .i64 v_71306))]) (fun (n_71307 : Nat) (v_71306 : Int) => [fz ([] ++ Zn_64866), row (.slice (some ⟨b_71155, 0, none⟩) l_70920.length cap_70922) 22 1 cs_70923, stb b_64822 24 [(.slice ao_58014 s_58013.fStart.length cap_58015), (.slice ao_58017 s_58013.fDrift.length cap_58018), (.slice ao_58020 s_58013.fFaulty.length cap_58021), (.int .i64 s_58013.fF), (.int .i64 s_58013.fE), (.slice ao_58023 s_58013.fErrs.length cap_58024), (.slice ao_58026 s_58013.fLies.length cap_58027)]]) (fun (n_71307 : Nat) (v_71306 : Int) => n_71307) ⟨FUEL, 0⟩ h (.cons rfl (.cons rfl (.cons rfl (.cons rfl (.cons rfl (.cons rfl (.cons rfl (.cons rfl .nil)))))))) (.cons .here (.cons .here (.cons .here .nil))) ?_
                  rintro n_71307 v_71306 h
                  obtain ⟨n_71308, rfl⟩ := m_law34_TimebaseRange_L6_fuel h
                  rw [m_law34_TimebaseRange_L6] at h
                  refine WC.seq ?_
                  refine WC.region ?_
                  refine WL.quiet (d := 78) rfl rfl rfl (q_lss rfl rfl) ?_
                  refine WL.nil ?_
                  refine WX.then ?_
                  refine WC.seq ?_
                  refine WC.cond rfl (fun hb_71310 => ?_) (fun hb_71310 => ?_)
                  · replace h := ite_t h hb_71310
                    refine WC.skip ?_
                    refine WX.then ?_
                    refine WC.seq ?_
                    refine WC.block ?_
                    refine WC.seq ?_
                    obtain ⟨c_71327, h⟩ := chk_elim h
                    refine WC.region ?_
                    refine WL.quiet (d := 79) rfl rfl rfl (q_move rfl) ?_
                    refine WL.znth (dd := 80) rfl rfl (Z := (Z ++ ([] ++ Zn_64866))) (Pr := (fun r x => r = e3 x)) elT_22 rfl rfl hs_71158 c_71327 ?_
                    rintro A_71332 r_71333 hA_71334 hl_71335 rfl
                    refine WL.quiet (d := 81) rfl rfl rfl (q_load1 oneT_3 rfl (rd_z (hz.pv2 .here) hA_71334 rfl)) ?_
                    refine WL.quiet (d := 12) rfl rfl rfl (q_assign rfl) ?_
                    refine WL.quiet (d := 13) rfl rfl rfl (q_assign rfl) ?_
                    refine WL.nil ?_
                    refine WX.then ?_
                    refine WC.seq ?_
                    obtain ⟨x_71336, hx_71337, h⟩ := bind_elim h
                    refine WC.region ?_
                    refine WL.quiet (d := 82) rfl rfl rfl (q_loadA (cs := [(.slice ao_58014 s_58013.fStart.length cap_58015), (.slice ao_58017 s_58013.fDrift.length cap_58018), (.slice ao_58020 s_58013.fFaulty.length cap_58021), (.int .i64 s_58013.fF), (.int .i64 s_58013.fE), (.slice ao_58023 s_58013.fErrs.length cap_58024), (.slice ao_58026 s_58013.fLies.length cap_58027)]) aggT_24 rfl rfl (rd_all (.there (.there .here)))) ?_
                    refine WL.quiet (d := 83) rfl rfl rfl (q_move rfl) ?_
                    refine WL.callD (dd := 84) rfl rfl rfl (run_call (l := [.tmp 82, .tmp 83]) Try.call27 (.cons rfl (.cons rfl .nil))) (.nil : Sel [fz ([] ++ Zn_64866), row (.slice (some ⟨b_71155, 0, none⟩) l_70920.length cap_70922) 22 1 cs_70923, stb b_64822 24 [(.slice ao_58014 s_58013.fStart.length cap_58015), (.slice ao_58017 s_58013.fDrift.length cap_58018), (.slice ao_58020 s_58013.fFaulty.length cap_58021), (.int .i64 s_58013.fF), (.int .i64 s_58013.fE), (.slice ao_58023 s_58013.fErrs.length cap_58024), (.slice ao_58026 s_58013.fLies.length cap_58027)]] [] [fz ([] ++ Zn_64866), row (.slice (some ⟨b_71155, 0, none⟩) l_70920.length cap_70922) 22 1 cs_70923, stb b_64822 24 [(.slice ao_58014 s_58013.fStart.length cap_58015), (.slice ao_58017 s_58013.fDrift.length cap_58018), (.slice ao_58020 s_58013.fFaulty.length cap_58021), (.int .i64 s_58013.fF), (.int .i64 s_58013.fE), (.slice ao_58023 s_58013.fErrs.length cap_58024), (.slice ao_58026 s_58013.fLies.length cap_58027)]]) (fun w hw => by have pz := (hz.call2 hw (.nil : Sel [fz ([] ++ Zn_64866), row (.slice (some ⟨b_71155, 0, none⟩) l_70920.length cap_70922) 22 1 cs_70923, stb b_64822 24 [(.slice ao_58014 s_58013.fStart.length cap_58015), (.slice ao_58017 s_58013.fDrift.length cap_58018), (.slice ao_58020 s_58013.fFaulty.length cap_58021), (.int .i64 s_58013.fF), (.int .i64 s_58013.fE), (.slice ao_58023 s_58013.fErrs.length cap_58024), (.slice ao_58026 s_58013.fLies.length cap_58027)]] [] [fz ([] ++ Zn_64866), row (.slice (some ⟨b_71155, 0, none⟩) l_70920.length cap_70922) 22 1 cs_70923, stb b_64822 24 [(.slice ao_58014 s_58013.fStart.length cap_58015), (.slice ao_58017 s_58013.fDrift.length cap_58018), (.slice ao_58020 s_58013.fFaulty.length cap_58021), (.int .i64 s_58013.fF), (.int .i64 s_58013.fE), (.slice ao_58023 s_58013.fErrs.length cap_58024), (.slice ao_58026 s_58013.fLies.length cap_58027)]]) .here); exact w_law34_correct (Z := _) (ao_58118 := ao_58014) (cap_58119 := cap_58015) (ao_58121 := ao_58017) (cap_58122 := cap_58018) (ao_58124 := ao_58020) (cap_58125 := cap_58021) (ao_58127 := ao_58023) (cap_58128 := cap_58024) (ao_58130 := ao_58026) (cap_58131 := cap_58027) (s_58117 := s_58013) (i_58133 := v_71306) (r := x_71336) w pz (hs_58016.mono ((Zle.left _ _).trans ((Zle.left _ _).trans (Zle.assoc _ _ _)))) (hs_58019.mono ((Zle.left _ _).trans ((Zle.left _ _).trans (Zle.assoc _ _ _)))) (hs_58022.mono ((Zle.left _ _).trans ((Zle.left _ _).trans (Zle.assoc _ _ _)))) (hs_58025.mono ((Zle.left _ _).trans ((Zle.left _ _).trans (Zle.assoc _ _ _)))) (hs_58028.mono ((Zle.left _ _).trans ((Zle.left _ _).trans (Zle.assoc _ _ _)))) hx_71337) ?_
                    refine WL.quiet (d := 85) rfl rfl rfl (q_move rfl) ?_
                    refine WL.cut0 True [(2, (.pointer (some ⟨b_64822, 0, none⟩))), (5, (.slice (some ⟨b_71155, 0, none⟩) l_70920.length cap_70922)), (7, (.int .i64 r_70268)), (8, (.int .i64 lo_70925)), (9, (.int .i64 hi_70926)), (75, (.slice ao_71156 ((nth l_70920 r_70268).length) cap_71157)), (76, (.int .i64 (((nth l_70920 r_70268).length : Nat) : Int))), (77, (.int .i64 v_71306)), (100, (.bool (x_71336 && ((decide ((nth (nth l_70920 r_70268) v_71306) < (i64 (lo_70925 - s_58013.fE)))) || (decide ((nth (nth l_70920 r_70268) v_71306) > (i64 (hi_70926 + s_58013.fE))))))))] [fz ([] ++ Zn_64866), row (.slice (some ⟨b_71155, 0, none⟩) l_70920.length cap_70922) 22 1 cs_70923, stb b_64822 24 [(.slice ao_58014 s_58013.fStart.length cap_58015), (.slice ao_58017 s_58013.fDrift.length cap_58018), (.slice ao_58020 s_58013.fFaulty.length cap_58021), (.int .i64 s_58013.fF), (.int .i64 s_58013.fE), (.slice ao_58023 s_58013.fErrs.length cap_58024), (.slice ao_58026 s_58013.fLies.length cap_58027)]] 15 ?_ (fun _ => ?_)
                    · rcases Bool.eq_false_or_eq_true x_71336 with hb' | hb'
                      · have hg_71338 := hb'; clear hb'
                        refine WL.pin (i := 85) rfl hg_71338 ?_
                        refine WL.quiet (d := 86) rfl rfl rfl (q_move rfl) ?_
                        refine WL.quiet (d := 87) rfl rfl rfl (q_move rfl) ?_
                        refine WL.quiet (d := 88) rfl rfl rfl (q_fieldAddr fo_24_4 rfl rfl) ?_
                        refine WL.quiet (d := 89) rfl rfl rfl (q_load1 oneT_3 rfl (rd_stb (.there (.there .here)) rfl)) ?_
                        refine WL.quiet (d := 90) rfl rfl rfl (q_sub rfl rfl rfl) ?_
                        refine WL.quiet (d := 91) rfl rfl rfl (q_lss rfl rfl) ?_
                        refine WL.quiet (d := 92) rfl rfl rfl (q_move rfl) ?_
                        refine WL.cut0 True [(2, (.pointer (some ⟨b_64822, 0, none⟩))), (5, (.slice (some ⟨b_71155, 0, none⟩) l_70920.length cap_70922)), (7, (.int .i64 r_70268)), (8, (.int .i64 lo_70925)), (9, (.int .i64 hi_70926)), (75, (.slice ao_71156 ((nth l_70920 r_70268).length) cap_71157)), (76, (.int .i64 (((nth l_70920 r_70268).length : Nat) : Int))), (77, (.int .i64 v_71306)), (85, (.bool true)), (99, (.bool ((decide ((nth (nth l_70920 r_70268) v_71306) < (i64 (lo_70925 - s_58013.fE)))) || (decide ((nth (nth l_70920 r_70268) v_71306) > (i64 (hi_70926 + s_58013.fE)))))))] [fz ([] ++ Zn_64866), row (.slice (some ⟨b_71155, 0, none⟩) l_70920.length cap_70922) 22 1 cs_70923, stb b_64822 24 [(.slice ao_58014 s_58013.fStart.length cap_58015), (.slice ao_58017 s_58013.fDrift.length cap_58018), (.slice ao_58020 s_58013.fFaulty.length cap_58021), (.int .i64 s_58013.fF), (.int .i64 s_58013.fE), (.slice ao_58023 s_58013.fErrs.length cap_58024), (.slice ao_58026 s_58013.fLies.length cap_58027)]] 7 ?_ (fun _ => ?_)
                        · rcases Bool.eq_false_or_eq_true (decide ((nth (nth l_70920 r_70268) v_71306) < (i64 (lo_70925 - s_58013.fE)))) with hb' | hb'
                          · have hg_71339 := hb'; clear hb'
                            refine WL.pin (i := 92) rfl hg_71339 ?_
                            refine WL.skip rfl rfl rfl ?_
                            refine WL.skip rfl rfl rfl ?_
                            refine WL.skip rfl rfl rfl ?_
                            refine WL.skip rfl rfl rfl ?_
                            refine WL.skip rfl rfl rfl ?_
                            refine WL.skip rfl rfl rfl ?_
                            refine WL.quiet (d := 99) rfl rfl rfl (q_pickT rfl rfl) ?_
                            exact WL.cutEnd () trivial (.cons rfl (.cons rfl (.cons rfl (.cons rfl (.cons rfl (.cons rfl (.cons rfl (.cons rfl (.cons rfl (.cons (some_bool (or_l hg_71339)) .nil)))))))))) (.cons .here (.cons .here (.cons .here .nil)))
                          · have hg_71340 := hb'; clear hb'
                            refine WL.pin (i := 92) rfl hg_71340 ?_
                            refine WL.quiet (d := 93) rfl rfl rfl (q_move rfl) ?_
                            refine WL.quiet (d := 94) rfl rfl rfl (q_move rfl) ?_
                            refine WL.quiet (d := 95) rfl rfl rfl (q_fieldAddr fo_24_4 rfl rfl) ?_
                            refine WL.quiet (d := 96) rfl rfl rfl (q_load1 oneT_3 rfl (rd_stb (.there (.there .here)) rfl)) ?_
                            refine WL.quiet (d := 97) rfl rfl rfl (q_add rfl rfl rfl) ?_
                            refine WL.quiet (d := 98) rfl rfl rfl (q_gtr rfl rfl) ?_
                            refine WL.quiet (d := 99) rfl rfl rfl (q_pickF rfl rfl) ?_
                            exact WL.cutEnd () trivial (.cons rfl (.cons rfl (.cons rfl (.cons rfl (.cons rfl (.cons rfl (.cons rfl (.cons rfl (.cons rfl (.cons (some_bool (or_r hg_71340)) .nil)))))))))) (.cons .here (.cons .here (.cons .here .nil)))
                        · skip
                          refine WL.quiet (d := 100) rfl rfl rfl (q_pickT rfl rfl) ?_
                          exact WL.cutEnd () trivial (.cons rfl (.cons rfl (.cons rfl (.cons rfl (.cons rfl (.cons rfl (.cons rfl (.cons rfl (.cons (some_bool (and_r hg_71338)) .nil))))))))) (.cons .here (.cons .here (.cons .here .nil)))
                      · have hg_71341 := hb'; clear hb'
                        refine WL.pin (i := 85) rfl hg_71341 ?_
                        refine WL.skip rfl rfl rfl ?_
                        refine WL.skip rfl rfl rfl ?_
                        refine WL.skip rfl rfl rfl ?_
                        refine WL.skip rfl rfl rfl ?_
                        refine WL.skip rfl rfl rfl ?_
                        refine WL.skip rfl rfl rfl ?_
                        refine WL.skip rfl rfl rfl ?_
                        refine WL.skip rfl rfl rfl ?_
                        refine WL.skip rfl rfl rfl ?_
                        refine WL.skip rfl rfl rfl ?_
                        refine WL.skip rfl rfl rfl ?_
                        refine WL.skip rfl rfl rfl ?_
                        refine WL.skip rfl rfl rfl ?_
                        refine WL.skip rfl rfl rfl ?_
                        refine WL.quiet (d := 100) rfl rfl rfl (q_pickF rfl rfl) ?_
                        exact WL.cutEnd () trivial (.cons rfl (.cons rfl (.cons rfl (.cons rfl (.cons rfl (.cons rfl (.cons rfl (.cons rfl (.cons (some_bool (and_l hg_71341)) .nil))))))))) (.cons .here (.cons .here (.cons .here .nil)))
                    · skip
                      refine WL.nil ?_
                      refine WX.then ?_
                      refine WC.cond rfl (fun hb_71342 => ?_) (fun hb_71342 => ?_)
                      · replace h := ite_t h hb_71342
                        refine WC.seq ?_
                        refine WC.region ?_
                        refine WL.quiet (d := 4) rfl rfl rfl (q_assign rfl) ?_
                        refine WL.nil ?_
                        refine WX.then ?_
                        refine WC.ret ?_
                        refine WX.blockRet ?_
                        refine WX.thenRet ?_
                        refine WX.thenRet ?_
                        refine WX.blockRet ?_
                        refine WX.thenRet ?_
                        refine WX.blockRet ?_
                        refine WX.thenRet ?_
                        refine WX.thenRet ?_
                        refine WX.blockRet ?_
                        refine WX.thenRet ?_
                        obtain rfl := Option.some.inj h
                        refine WX.bpRet Try.results7 (.tmp rfl .nil) (fun w hw => ?_)
                        exact ⟨([] ++ Zn_64866), ret1 rfl, trivial, hw.sub (.cons .here .nil)⟩
                      · replace h := ite_f h hb_71342
                        refine WC.skip ?_
                        refine WX.blockNormal ?_
                        refine WX.then ?_
                        refine WC.region ?_
                        refine WL.quiet (d := 101) rfl rfl rfl (q_add rfl rfl rfl) ?_
                        refine WL.quiet (d := 77) rfl rfl rfl (q_move rfl) ?_
                        refine WL.nil ?_
                        exact WX.round (G := Nat × Int) ⟨n_71308, (i64 (v_71306 + 1))⟩ h (Nat.lt_succ_self _) (.cons rfl (.cons rfl (.cons rfl (.cons rfl (.cons rfl (.cons rfl (.cons rfl (.cons rfl .nil)))))))) (.cons .here (.cons .here (.cons .here .nil)))
                  · replace h := ite_f h hb_71310
                    refine WC.exit ?_
                    refine WX.thenExit ?_
                    refine WX.thenExit ?_
                    refine WX.blockHit ?_
                    exact WX.mid (G := Unit) () h (.cons rfl (.cons rfl (.cons rfl .nil))) (.cons .here (.cons .here (.cons .here .nil)))
                · rintro  h
                  replace h := hk_71270.symm.trans h
                  refine WX.blockNormal ?_
                  exact WX.mid (G := List (List Int) × Option Addr × Nat × List Value) ⟨l_70920, (some ⟨b_71155, 0, none⟩), cap_70922, cs_70923⟩ ⟨h, rel_70924⟩ (.cons rfl (.cons rfl (.cons rfl .nil))) (.cons .here (.cons .here (.cons .here .nil)))
            · rintro l_70913 ao_70914 cap_70915 cs_70916 ⟨h, rel_70917⟩
              replace h := (hk_70919 l_70913).symm.trans h
              refine WC.region ?_
              refine WL.quiet (d := 37) rfl rfl rfl (q_move rfl) ?_
              refine WL.quiet (d := 38) rfl rfl rfl (q_add rfl rfl rfl) ?_
              refine WL.quiet (d := 7) rfl rfl rfl (q_assign rfl) ?_
              refine WL.nil ?_
              exact WX.round (G := Nat × List (List Int) × Int × Option Addr × Nat × List Value) ⟨n_70270, l_70913, (i64 (r_70268 + 1)), ao_70914, cap_70915, cs_70916⟩ ⟨h, rel_70917⟩ (Nat.lt_succ_self _) (.cons rfl (.cons rfl (.cons rfl .nil))) (.cons .here (.cons .here (.cons .here .nil)))
          · replace h := ite_f h hb_70272
            refine WC.exit ?_
            refine WX.thenExit ?_
            refine WX.thenExit ?_
            refine WX.blockHit ?_
            exact WX.mid (G := Unit) () h .nil (.cons .here .nil)
        · rintro  h
          replace h := hk_68109.symm.trans h
          refine WC.seq ?_
          obtain ⟨x_71343, hx_71344, h⟩ := bind_elim h
          refine WC.region ?_
          refine WL.enter1 (dd := 102) rfl rfl rfl (run_call (l := []) Try.call12 .nil) (.nil : Sel [fz ([] ++ Zn_64866)] [] [fz ([] ++ Zn_64866)]) (fun w hw => by have pz := (hz.call2 hw (.nil : Sel [fz ([] ++ Zn_64866)] [] [fz ([] ++ Zn_64866)]) .here); exact w_law34_awake (Z := _)   (r := x_71343) w pz  hx_71344) ?_
          rintro Zn_71347 _
          refine WL.merge .here .here ?_
          refine WL.quiet (d := 4) rfl rfl rfl (q_assign rfl) ?_
          refine WL.nil ?_
          refine WX.then ?_
          refine WC.ret ?_
          obtain rfl := Option.some.inj h
          refine WX.bpRet Try.results7 (.tmp rfl .nil) (fun w hw => ?_)
          exact ⟨(([] ++ Zn_64866) ++ Zn_71347), ret1 rfl, trivial, hw.sub (.cons .here .nil)⟩
end Go.Proofs.Ytbejngeaocfieaa
