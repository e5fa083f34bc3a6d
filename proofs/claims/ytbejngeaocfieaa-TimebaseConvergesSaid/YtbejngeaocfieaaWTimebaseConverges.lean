/- A part of this claim's proof: models of the functions that the law reaches, with the proof that the functions compute them; plain laws about the models. No conditions beyond those in each theorem's statement. -/
import Derived.Test.YtbejngeaocfieaaW34d
namespace Go.Proofs.Ytbejngeaocfieaa
open Go Go.RowKit Sep
set_option linter.all false
set_option maxRecDepth 30000
/-- nacellelaw34.TimebaseConverges -/
def m_law34_TimebaseConverges (s_57768 : Stimebase_Setup) : Option Bool :=
  (m_law34_few s_57768).bind fun x_57903 => (if !x_57903 then some true else (m_timebase_Valid s_57768).bind fun x_57905 => some (!x_57905)).bind fun b_57907 => if b_57907 then (m_law34_awake).bind fun x_57914 => some x_57914 else (m_timebase_Run s_57768 22).bind fun x_57920 => (m_timebase_Bound s_57768).bind fun x_57936 => if ((decide (x_57920.2 ≠ 0)) || (decide (x_57936.2 ≠ 0))) || (decide (((x_57920.1.length : Nat) : Int) ≠ 23)) then some false else chk ((0 : Int) ≤ 22 ∧ 22 < ((x_57920.1.length : Nat) : Int)) ((m_timebase_Skew s_57768 (nth x_57920.1 22)).bind fun x_57957 => (if (decide (x_57957.2 = 0)) && (decide (x_57957.1 ≤ x_57936.1)) then (m_law34_awake).bind fun x_57967 => some x_57967 else some false).bind fun b_57971 => some b_57971)

set_option maxRecDepth 20000 in
theorem w_law34_TimebaseConverges (Z : Zp)  (ao_57769 : Option Addr) (cap_57770 : Nat) (ao_57772 : Option Addr) (cap_57773 : Nat) (ao_57775 : Option Addr) (cap_57776 : Nat) (ao_57778 : Option Addr) (cap_57779 : Nat) (ao_57781 : Option Addr) (cap_57782 : Nat) (s_57768 : Stimebase_Setup) (r : Bool) (w₀ : World) (hz : PZ [] w₀ Z)
    (hs_57771 : ZS Z 1 (fun r x => r = e3 x) ao_57769 cap_57770 s_57768.fStart)
    (hs_57774 : ZS Z 1 (fun r x => r = e3 x) ao_57772 cap_57773 s_57768.fDrift)
    (hs_57777 : ZS Z 1 (fun r x => r = e3 x) ao_57775 cap_57776 s_57768.fFaulty)
    (hs_57780 : ZS Z 1 (fun r x => r = e3 x) ao_57778 cap_57779 s_57768.fErrs)
    (hs_57783 : ZS Z 1 (fun r x => r = e3 x) ao_57781 cap_57782 s_57768.fLies)
    (h : m_law34_TimebaseConverges s_57768 = some r) :
    Calls Try.prog 6 #[(.agg #[(.slice ao_57769 s_57768.fStart.length cap_57770), (.slice ao_57772 s_57768.fDrift.length cap_57773), (.slice ao_57775 s_57768.fFaulty.length cap_57776), (.int .i64 s_57768.fF), (.int .i64 s_57768.fE), (.slice ao_57778 s_57768.fErrs.length cap_57779), (.slice ao_57781 s_57768.fLies.length cap_57782)])] w₀ fun e w' => ∃ Zn : Zp, e = .returned (.bool r) ∧ True ∧ Hp [] w₀ w' [fz Zn] := by
  unfold m_law34_TimebaseConverges at h
  refine Calls.ofWC (vs := [(.agg #[(.slice ao_57769 s_57768.fStart.length cap_57770), (.slice ao_57772 s_57768.fDrift.length cap_57773), (.slice ao_57775 s_57768.fFaulty.length cap_57776), (.int .i64 s_57768.fF), (.int .i64 s_57768.fE), (.slice ao_57778 s_57768.fErrs.length cap_57779), (.slice ao_57781 s_57768.fLies.length cap_57782)])]) (pre := []) (env := [(0, (.agg #[(.slice ao_57769 s_57768.fStart.length cap_57770), (.slice ao_57772 s_57768.fDrift.length cap_57773), (.slice ao_57775 s_57768.fFaulty.length cap_57776), (.int .i64 s_57768.fF), (.int .i64 s_57768.fE), (.slice ao_57778 s_57768.fErrs.length cap_57779), (.slice ao_57781 s_57768.fLies.length cap_57782)]))]) Try.func6 rfl Try.ntmps6 rfl (Hp.nil w₀ _) rfl ?_
  refine WC.pool ?_
  refine WC.seq ?_
  refine WC.region ?_
  refine WL.new (dd := 1) rfl rfl rfl (e_box (cs := [(.slice ao_57769 s_57768.fStart.length cap_57770), (.slice ao_57772 s_57768.fDrift.length cap_57773), (.slice ao_57775 s_57768.fFaulty.length cap_57776), (.int .i64 s_57768.fF), (.int .i64 s_57768.fE), (.slice ao_57778 s_57768.fErrs.length cap_57779), (.slice ao_57781 s_57768.fLies.length cap_57782)]) rfl rfl) ?_
  intro b_57885 _
  refine WL.quiet (d := 2) rfl rfl rfl (q_assign rfl) ?_
  refine WL.nil ?_
  refine WX.then ?_
  refine WC.seq ?_
  refine WC.seq ?_
  obtain ⟨x_57903, hx_57904, h⟩ := bind_elim h
  obtain ⟨b_57907, hb_57908, h⟩ := bind_elim h
  refine WC.region ?_
  refine WL.quiet (d := 9) rfl rfl rfl (q_loadA (cs := [(.slice ao_57769 s_57768.fStart.length cap_57770), (.slice ao_57772 s_57768.fDrift.length cap_57773), (.slice ao_57775 s_57768.fFaulty.length cap_57776), (.int .i64 s_57768.fF), (.int .i64 s_57768.fE), (.slice ao_57778 s_57768.fErrs.length cap_57779), (.slice ao_57781 s_57768.fLies.length cap_57782)]) aggT_24 rfl rfl (rd_all .here)) ?_
  refine WL.callD (dd := 10) rfl rfl rfl (run_call (l := [.tmp 9]) Try.call11 (.cons rfl .nil)) (.nil : Sel [stb b_57885 24 [(.slice ao_57769 s_57768.fStart.length cap_57770), (.slice ao_57772 s_57768.fDrift.length cap_57773), (.slice ao_57775 s_57768.fFaulty.length cap_57776), (.int .i64 s_57768.fF), (.int .i64 s_57768.fE), (.slice ao_57778 s_57768.fErrs.length cap_57779), (.slice ao_57781 s_57768.fLies.length cap_57782)], fz []] [] [stb b_57885 24 [(.slice ao_57769 s_57768.fStart.length cap_57770), (.slice ao_57772 s_57768.fDrift.length cap_57773), (.slice ao_57775 s_57768.fFaulty.length cap_57776), (.int .i64 s_57768.fF), (.int .i64 s_57768.fE), (.slice ao_57778 s_57768.fErrs.length cap_57779), (.slice ao_57781 s_57768.fLies.length cap_57782)], fz []]) (fun w hw => by have pz := (hz.call2 hw (.nil : Sel [stb b_57885 24 [(.slice ao_57769 s_57768.fStart.length cap_57770), (.slice ao_57772 s_57768.fDrift.length cap_57773), (.slice ao_57775 s_57768.fFaulty.length cap_57776), (.int .i64 s_57768.fF), (.int .i64 s_57768.fE), (.slice ao_57778 s_57768.fErrs.length cap_57779), (.slice ao_57781 s_57768.fLies.length cap_57782)], fz []] [] [stb b_57885 24 [(.slice ao_57769 s_57768.fStart.length cap_57770), (.slice ao_57772 s_57768.fDrift.length cap_57773), (.slice ao_57775 s_57768.fFaulty.length cap_57776), (.int .i64 s_57768.fF), (.int .i64 s_57768.fE), (.slice ao_57778 s_57768.fErrs.length cap_57779), (.slice ao_57781 s_57768.fLies.length cap_57782)], fz []]) (.there .here)); exact w_law34_few (Z := _) (ao_26 := ao_57769) (cap_27 := cap_57770) (ao_29 := ao_57772) (cap_30 := cap_57773) (ao_32 := ao_57775) (cap_33 := cap_57776) (ao_35 := ao_57778) (cap_36 := cap_57779) (ao_38 := ao_57781) (cap_39 := cap_57782) (s_25 := s_57768) (r := x_57903) w pz (hs_57771.mono (Zle.left _ _)) (hs_57774.mono (Zle.left _ _)) (hs_57777.mono (Zle.left _ _)) (hs_57780.mono (Zle.left _ _)) (hs_57783.mono (Zle.left _ _)) hx_57904) ?_
  refine WL.quiet (d := 11) rfl rfl rfl (q_not rfl) ?_
  refine WL.quiet (d := 12) rfl rfl rfl (q_move rfl) ?_
  refine WL.cut0 True [(1, (.pointer (some ⟨b_57885, 0, none⟩))), (16, (.bool b_57907))] [stb b_57885 24 [(.slice ao_57769 s_57768.fStart.length cap_57770), (.slice ao_57772 s_57768.fDrift.length cap_57773), (.slice ao_57775 s_57768.fFaulty.length cap_57776), (.int .i64 s_57768.fF), (.int .i64 s_57768.fE), (.slice ao_57778 s_57768.fErrs.length cap_57779), (.slice ao_57781 s_57768.fLies.length cap_57782)], fz []] 4 ?_ (fun _ => ?_)
  · rcases Bool.eq_false_or_eq_true (!x_57903) with hb' | hb'
    · have hg_57909 := hb'; clear hb'
      have hq_57910 := ite_t hb_57908 hg_57909
      replace hq_57910 := Option.some.inj hq_57910
      refine WL.pin (i := 12) rfl hg_57909 ?_
      refine WL.skip rfl rfl rfl ?_
      refine WL.skip rfl rfl rfl ?_
      refine WL.skip rfl rfl rfl ?_
      refine WL.quiet (d := 16) rfl rfl rfl (q_pickT rfl rfl) ?_
      exact WL.cutEnd () trivial (.cons rfl (.cons (some_bool hq_57910) .nil)) (.cons .here (.cons .here .nil))
    · have hg_57911 := hb'; clear hb'
      have hq_57912 := ite_f hb_57908 hg_57911
      obtain ⟨x_57905, hx_57906, hq_57912⟩ := bind_elim hq_57912
      replace hq_57912 := Option.some.inj hq_57912
      refine WL.pin (i := 12) rfl hg_57911 ?_
      refine WL.quiet (d := 13) rfl rfl rfl (q_loadA (cs := [(.slice ao_57769 s_57768.fStart.length cap_57770), (.slice ao_57772 s_57768.fDrift.length cap_57773), (.slice ao_57775 s_57768.fFaulty.length cap_57776), (.int .i64 s_57768.fF), (.int .i64 s_57768.fE), (.slice ao_57778 s_57768.fErrs.length cap_57779), (.slice ao_57781 s_57768.fLies.length cap_57782)]) aggT_24 rfl rfl (rd_all .here)) ?_
      refine WL.callD (dd := 14) rfl rfl rfl (run_call (l := [.tmp 13]) Try.call19 (.cons rfl .nil)) (.nil : Sel [stb b_57885 24 [(.slice ao_57769 s_57768.fStart.length cap_57770), (.slice ao_57772 s_57768.fDrift.length cap_57773), (.slice ao_57775 s_57768.fFaulty.length cap_57776), (.int .i64 s_57768.fF), (.int .i64 s_57768.fE), (.slice ao_57778 s_57768.fErrs.length cap_57779), (.slice ao_57781 s_57768.fLies.length cap_57782)], fz []] [] [stb b_57885 24 [(.slice ao_57769 s_57768.fStart.length cap_57770), (.slice ao_57772 s_57768.fDrift.length cap_57773), (.slice ao_57775 s_57768.fFaulty.length cap_57776), (.int .i64 s_57768.fF), (.int .i64 s_57768.fE), (.slice ao_57778 s_57768.fErrs.length cap_57779), (.slice ao_57781 s_57768.fLies.length cap_57782)], fz []]) (fun w hw => by have pz := (hz.call2 hw (.nil : Sel [stb b_57885 24 [(.slice ao_57769 s_57768.fStart.length cap_57770), (.slice ao_57772 s_57768.fDrift.length cap_57773), (.slice ao_57775 s_57768.fFaulty.length cap_57776), (.int .i64 s_57768.fF), (.int .i64 s_57768.fE), (.slice ao_57778 s_57768.fErrs.length cap_57779), (.slice ao_57781 s_57768.fLies.length cap_57782)], fz []] [] [stb b_57885 24 [(.slice ao_57769 s_57768.fStart.length cap_57770), (.slice ao_57772 s_57768.fDrift.length cap_57773), (.slice ao_57775 s_57768.fFaulty.length cap_57776), (.int .i64 s_57768.fF), (.int .i64 s_57768.fE), (.slice ao_57778 s_57768.fErrs.length cap_57779), (.slice ao_57781 s_57768.fLies.length cap_57782)], fz []]) (.there .here)); exact w_timebase_Valid (Z := _) (ao_104 := ao_57769) (cap_105 := cap_57770) (ao_107 := ao_57772) (cap_108 := cap_57773) (ao_110 := ao_57775) (cap_111 := cap_57776) (ao_113 := ao_57778) (cap_114 := cap_57779) (ao_116 := ao_57781) (cap_117 := cap_57782) (s_103 := s_57768) (r := x_57905) w pz (hs_57771.mono (Zle.left _ _)) (hs_57774.mono (Zle.left _ _)) (hs_57777.mono (Zle.left _ _)) (hs_57780.mono (Zle.left _ _)) (hs_57783.mono (Zle.left _ _)) hx_57906) ?_
      refine WL.quiet (d := 15) rfl rfl rfl (q_not rfl) ?_
      refine WL.quiet (d := 16) rfl rfl rfl (q_pickF rfl rfl) ?_
      exact WL.cutEnd () trivial (.cons rfl (.cons (some_bool hq_57912) .nil)) (.cons .here (.cons .here .nil))
  · skip
    refine WL.nil ?_
    refine WX.then ?_
    refine WC.cond rfl (fun hb_57913 => ?_) (fun hb_57913 => ?_)
    · replace h := ite_t h hb_57913
      refine WC.seq ?_
      obtain ⟨x_57914, hx_57915, h⟩ := bind_elim h
      refine WC.region ?_
      refine WL.enter1 (dd := 17) rfl rfl rfl (run_call (l := []) Try.call12 .nil) (.nil : Sel [stb b_57885 24 [(.slice ao_57769 s_57768.fStart.length cap_57770), (.slice ao_57772 s_57768.fDrift.length cap_57773), (.slice ao_57775 s_57768.fFaulty.length cap_57776), (.int .i64 s_57768.fF), (.int .i64 s_57768.fE), (.slice ao_57778 s_57768.fErrs.length cap_57779), (.slice ao_57781 s_57768.fLies.length cap_57782)], fz []] [] [stb b_57885 24 [(.slice ao_57769 s_57768.fStart.length cap_57770), (.slice ao_57772 s_57768.fDrift.length cap_57773), (.slice ao_57775 s_57768.fFaulty.length cap_57776), (.int .i64 s_57768.fF), (.int .i64 s_57768.fE), (.slice ao_57778 s_57768.fErrs.length cap_57779), (.slice ao_57781 s_57768.fLies.length cap_57782)], fz []]) (fun w hw => by have pz := (hz.call2 hw (.nil : Sel [stb b_57885 24 [(.slice ao_57769 s_57768.fStart.length cap_57770), (.slice ao_57772 s_57768.fDrift.length cap_57773), (.slice ao_57775 s_57768.fFaulty.length cap_57776), (.int .i64 s_57768.fF), (.int .i64 s_57768.fE), (.slice ao_57778 s_57768.fErrs.length cap_57779), (.slice ao_57781 s_57768.fLies.length cap_57782)], fz []] [] [stb b_57885 24 [(.slice ao_57769 s_57768.fStart.length cap_57770), (.slice ao_57772 s_57768.fDrift.length cap_57773), (.slice ao_57775 s_57768.fFaulty.length cap_57776), (.int .i64 s_57768.fF), (.int .i64 s_57768.fE), (.slice ao_57778 s_57768.fErrs.length cap_57779), (.slice ao_57781 s_57768.fLies.length cap_57782)], fz []]) (.there .here)); exact w_law34_awake (Z := _)   (r := x_57914) w pz  hx_57915) ?_
      rintro Zn_57918 _
      refine WL.merge .here (.there .here) ?_
      refine WL.quiet (d := 2) rfl rfl rfl (q_assign rfl) ?_
      refine WL.nil ?_
      refine WX.then ?_
      refine WC.ret ?_
      refine WX.thenRet ?_
      obtain rfl := Option.some.inj h
      refine WX.bpRet Try.results6 (.tmp rfl .nil) (fun w hw => ?_)
      exact ⟨([] ++ Zn_57918), ret1 rfl, trivial, hw.sub (.cons .here .nil)⟩
    · replace h := ite_f h hb_57913
      refine WC.skip ?_
      refine WX.then ?_
      refine WC.seq ?_
      obtain ⟨x_57920, hx_57921, h⟩ := bind_elim h
      refine WC.region ?_
      refine WL.quiet (d := 19) rfl rfl rfl (q_loadA (cs := [(.slice ao_57769 s_57768.fStart.length cap_57770), (.slice ao_57772 s_57768.fDrift.length cap_57773), (.slice ao_57775 s_57768.fFaulty.length cap_57776), (.int .i64 s_57768.fF), (.int .i64 s_57768.fE), (.slice ao_57778 s_57768.fErrs.length cap_57779), (.slice ao_57781 s_57768.fLies.length cap_57782)]) aggT_24 rfl rfl (rd_all .here)) ?_
      refine WL.enter4 (dd := 20) rfl rfl rfl (run_call (l := [.tmp 19, .const (.int .i64 22)]) Try.call16 (.cons rfl (.cons rfl .nil))) (.nil : Sel [stb b_57885 24 [(.slice ao_57769 s_57768.fStart.length cap_57770), (.slice ao_57772 s_57768.fDrift.length cap_57773), (.slice ao_57775 s_57768.fFaulty.length cap_57776), (.int .i64 s_57768.fF), (.int .i64 s_57768.fE), (.slice ao_57778 s_57768.fErrs.length cap_57779), (.slice ao_57781 s_57768.fLies.length cap_57782)], fz []] [] [stb b_57885 24 [(.slice ao_57769 s_57768.fStart.length cap_57770), (.slice ao_57772 s_57768.fDrift.length cap_57773), (.slice ao_57775 s_57768.fFaulty.length cap_57776), (.int .i64 s_57768.fF), (.int .i64 s_57768.fE), (.slice ao_57778 s_57768.fErrs.length cap_57779), (.slice ao_57781 s_57768.fLies.length cap_57782)], fz []]) (fun w hw => by have pz := (hz.call2 hw (.nil : Sel [stb b_57885 24 [(.slice ao_57769 s_57768.fStart.length cap_57770), (.slice ao_57772 s_57768.fDrift.length cap_57773), (.slice ao_57775 s_57768.fFaulty.length cap_57776), (.int .i64 s_57768.fF), (.int .i64 s_57768.fE), (.slice ao_57778 s_57768.fErrs.length cap_57779), (.slice ao_57781 s_57768.fLies.length cap_57782)], fz []] [] [stb b_57885 24 [(.slice ao_57769 s_57768.fStart.length cap_57770), (.slice ao_57772 s_57768.fDrift.length cap_57773), (.slice ao_57775 s_57768.fFaulty.length cap_57776), (.int .i64 s_57768.fF), (.int .i64 s_57768.fE), (.slice ao_57778 s_57768.fErrs.length cap_57779), (.slice ao_57781 s_57768.fLies.length cap_57782)], fz []]) (.there .here)); exact w_timebase_Run (Z := _) (ao_13211 := ao_57769) (cap_13212 := cap_57770) (ao_13214 := ao_57772) (cap_13215 := cap_57773) (ao_13217 := ao_57775) (cap_13218 := cap_57776) (ao_13220 := ao_57778) (cap_13221 := cap_57779) (ao_13223 := ao_57781) (cap_13224 := cap_57782) (s_13210 := s_57768) (rounds_13226 := 22) (r := x_57920) w pz (hs_57771.mono (Zle.left _ _)) (hs_57774.mono (Zle.left _ _)) (hs_57777.mono (Zle.left _ _)) (hs_57780.mono (Zle.left _ _)) (hs_57783.mono (Zle.left _ _)) hx_57921) ?_
      rintro Zn_57929 ao_57930 cap_57931 cs_57932 hf_57933
      refine WL.merge .here (.there (.there .here)) ?_
      refine WL.quiet (d := 18) rfl rfl rfl (q_move rfl) ?_
      refine WL.quiet (d := 21) rfl rfl rfl (q_extract rfl rfl) ?_
      refine WL.quiet (d := 22) rfl rfl rfl (q_extract rfl rfl) ?_
      refine WL.quiet (d := 3) rfl rfl rfl (q_assign rfl) ?_
      refine WL.quiet (d := 4) rfl rfl rfl (q_assign rfl) ?_
      refine WL.nil ?_
      refine WX.then ?_
      refine WC.seq ?_
      obtain ⟨x_57936, hx_57937, h⟩ := bind_elim h
      refine WC.region ?_
      refine WL.quiet (d := 24) rfl rfl rfl (q_loadA (cs := [(.slice ao_57769 s_57768.fStart.length cap_57770), (.slice ao_57772 s_57768.fDrift.length cap_57773), (.slice ao_57775 s_57768.fFaulty.length cap_57776), (.int .i64 s_57768.fF), (.int .i64 s_57768.fE), (.slice ao_57778 s_57768.fErrs.length cap_57779), (.slice ao_57781 s_57768.fLies.length cap_57782)]) aggT_24 rfl rfl (rd_all (.there (.there .here)))) ?_
      refine WL.callD (dd := 25) rfl rfl rfl (run_call (l := [.tmp 24]) Try.call18 (.cons rfl .nil)) (.nil : Sel [fz ([] ++ Zn_57929), row (.slice ao_57930 x_57920.1.length cap_57931) 22 1 cs_57932, stb b_57885 24 [(.slice ao_57769 s_57768.fStart.length cap_57770), (.slice ao_57772 s_57768.fDrift.length cap_57773), (.slice ao_57775 s_57768.fFaulty.length cap_57776), (.int .i64 s_57768.fF), (.int .i64 s_57768.fE), (.slice ao_57778 s_57768.fErrs.length cap_57779), (.slice ao_57781 s_57768.fLies.length cap_57782)]] [] [fz ([] ++ Zn_57929), row (.slice ao_57930 x_57920.1.length cap_57931) 22 1 cs_57932, stb b_57885 24 [(.slice ao_57769 s_57768.fStart.length cap_57770), (.slice ao_57772 s_57768.fDrift.length cap_57773), (.slice ao_57775 s_57768.fFaulty.length cap_57776), (.int .i64 s_57768.fF), (.int .i64 s_57768.fE), (.slice ao_57778 s_57768.fErrs.length cap_57779), (.slice ao_57781 s_57768.fLies.length cap_57782)]]) (fun w hw => by have pz := (hz.call2 hw (.nil : Sel [fz ([] ++ Zn_57929), row (.slice ao_57930 x_57920.1.length cap_57931) 22 1 cs_57932, stb b_57885 24 [(.slice ao_57769 s_57768.fStart.length cap_57770), (.slice ao_57772 s_57768.fDrift.length cap_57773), (.slice ao_57775 s_57768.fFaulty.length cap_57776), (.int .i64 s_57768.fF), (.int .i64 s_57768.fE), (.slice ao_57778 s_57768.fErrs.length cap_57779), (.slice ao_57781 s_57768.fLies.length cap_57782)]] [] [fz ([] ++ Zn_57929), row (.slice ao_57930 x_57920.1.length cap_57931) 22 1 cs_57932, stb b_57885 24 [(.slice ao_57769 s_57768.fStart.length cap_57770), (.slice ao_57772 s_57768.fDrift.length cap_57773), (.slice ao_57775 s_57768.fFaulty.length cap_57776), (.int .i64 s_57768.fF), (.int .i64 s_57768.fE), (.slice ao_57778 s_57768.fErrs.length cap_57779), (.slice ao_57781 s_57768.fLies.length cap_57782)]]) .here); exact w_timebase_Bound (Z := _) (ao_15082 := ao_57769) (cap_15083 := cap_57770) (ao_15085 := ao_57772) (cap_15086 := cap_57773) (ao_15088 := ao_57775) (cap_15089 := cap_57776) (ao_15091 := ao_57778) (cap_15092 := cap_57779) (ao_15094 := ao_57781) (cap_15095 := cap_57782) (s_15081 := s_57768) (r := x_57936) w pz (hs_57771.mono ((Zle.left _ _).trans ((Zle.left _ _).trans (Zle.assoc _ _ _)))) (hs_57774.mono ((Zle.left _ _).trans ((Zle.left _ _).trans (Zle.assoc _ _ _)))) (hs_57777.mono ((Zle.left _ _).trans ((Zle.left _ _).trans (Zle.assoc _ _ _)))) (hs_57780.mono ((Zle.left _ _).trans ((Zle.left _ _).trans (Zle.assoc _ _ _)))) (hs_57783.mono ((Zle.left _ _).trans ((Zle.left _ _).trans (Zle.assoc _ _ _)))) hx_57937) ?_
      refine WL.quiet (d := 23) rfl rfl rfl (q_move rfl) ?_
      refine WL.quiet (d := 26) rfl rfl rfl (q_extract rfl rfl) ?_
      refine WL.quiet (d := 27) rfl rfl rfl (q_extract rfl rfl) ?_
      refine WL.quiet (d := 5) rfl rfl rfl (q_assign rfl) ?_
      refine WL.quiet (d := 6) rfl rfl rfl (q_assign rfl) ?_
      refine WL.nil ?_
      refine WX.then ?_
      refine WC.seq ?_
      refine WC.seq ?_
      refine WC.region ?_
      refine WL.quiet (d := 28) rfl rfl rfl (q_move rfl) ?_
      refine WL.quiet (d := 29) rfl rfl rfl (q_neq rfl rfl) ?_
      refine WL.quiet (d := 30) rfl rfl rfl (q_move rfl) ?_
      refine WL.cut0 True [(1, (.pointer (some ⟨b_57885, 0, none⟩))), (3, (.slice ao_57930 x_57920.1.length cap_57931)), (5, (.int .i64 x_57936.1)), (33, (.bool ((decide (x_57920.2 ≠ 0)) || (decide (x_57936.2 ≠ 0)))))] [fz ([] ++ Zn_57929), row (.slice ao_57930 x_57920.1.length cap_57931) 22 1 cs_57932, stb b_57885 24 [(.slice ao_57769 s_57768.fStart.length cap_57770), (.slice ao_57772 s_57768.fDrift.length cap_57773), (.slice ao_57775 s_57768.fFaulty.length cap_57776), (.int .i64 s_57768.fF), (.int .i64 s_57768.fE), (.slice ao_57778 s_57768.fErrs.length cap_57779), (.slice ao_57781 s_57768.fLies.length cap_57782)]] 3 ?_ (fun _ => ?_)
      · rcases Bool.eq_false_or_eq_true (decide (x_57920.2 ≠ 0)) with hb' | hb'
        · have hg_57943 := hb'; clear hb'
          refine WL.pin (i := 30) rfl hg_57943 ?_
          refine WL.skip rfl rfl rfl ?_
          refine WL.skip rfl rfl rfl ?_
          refine WL.quiet (d := 33) rfl rfl rfl (q_pickT rfl rfl) ?_
          exact WL.cutEnd () trivial (.cons rfl (.cons rfl (.cons rfl (.cons (some_bool (or_l hg_57943)) .nil)))) (.cons .here (.cons .here (.cons .here .nil)))
        · have hg_57944 := hb'; clear hb'
          refine WL.pin (i := 30) rfl hg_57944 ?_
          refine WL.quiet (d := 31) rfl rfl rfl (q_move rfl) ?_
          refine WL.quiet (d := 32) rfl rfl rfl (q_neq rfl rfl) ?_
          refine WL.quiet (d := 33) rfl rfl rfl (q_pickF rfl rfl) ?_
          exact WL.cutEnd () trivial (.cons rfl (.cons rfl (.cons rfl (.cons (some_bool (or_r hg_57944)) .nil)))) (.cons .here (.cons .here (.cons .here .nil)))
      · skip
        refine WL.quiet (d := 34) rfl rfl rfl (q_move rfl) ?_
        refine WL.cut0 True [(1, (.pointer (some ⟨b_57885, 0, none⟩))), (3, (.slice ao_57930 x_57920.1.length cap_57931)), (5, (.int .i64 x_57936.1)), (38, (.bool (((decide (x_57920.2 ≠ 0)) || (decide (x_57936.2 ≠ 0))) || (decide (((x_57920.1.length : Nat) : Int) ≠ 23)))))] [fz ([] ++ Zn_57929), row (.slice ao_57930 x_57920.1.length cap_57931) 22 1 cs_57932, stb b_57885 24 [(.slice ao_57769 s_57768.fStart.length cap_57770), (.slice ao_57772 s_57768.fDrift.length cap_57773), (.slice ao_57775 s_57768.fFaulty.length cap_57776), (.int .i64 s_57768.fF), (.int .i64 s_57768.fE), (.slice ao_57778 s_57768.fErrs.length cap_57779), (.slice ao_57781 s_57768.fLies.length cap_57782)]] 4 ?_ (fun _ => ?_)
        · rcases Bool.eq_false_or_eq_true ((decide (x_57920.2 ≠ 0)) || (decide (x_57936.2 ≠ 0))) with hb' | hb'
          · have hg_57945 := hb'; clear hb'
            refine WL.pin (i := 34) rfl hg_57945 ?_
            refine WL.skip rfl rfl rfl ?_
            refine WL.skip rfl rfl rfl ?_
            refine WL.skip rfl rfl rfl ?_
            refine WL.quiet (d := 38) rfl rfl rfl (q_pickT rfl rfl) ?_
            exact WL.cutEnd () trivial (.cons rfl (.cons rfl (.cons rfl (.cons (some_bool (or_l hg_57945)) .nil)))) (.cons .here (.cons .here (.cons .here .nil)))
          · have hg_57946 := hb'; clear hb'
            refine WL.pin (i := 34) rfl hg_57946 ?_
            refine WL.quiet (d := 35) rfl rfl rfl (q_move rfl) ?_
            refine WL.quiet (d := 36) rfl rfl rfl (q_len Try.underlying30 rfl) ?_
            refine WL.quiet (d := 37) rfl rfl rfl (q_neq rfl rfl) ?_
            refine WL.quiet (d := 38) rfl rfl rfl (q_pickF rfl rfl) ?_
            exact WL.cutEnd () trivial (.cons rfl (.cons rfl (.cons rfl (.cons (some_bool (or_r hg_57946)) .nil)))) (.cons .here (.cons .here (.cons .here .nil)))
        · skip
          refine WL.nil ?_
          refine WX.then ?_
          refine WC.cond rfl (fun hb_57947 => ?_) (fun hb_57947 => ?_)
          · replace h := ite_t h hb_57947
            refine WC.seq ?_
            refine WC.region ?_
            refine WL.quiet (d := 2) rfl rfl rfl (q_assign rfl) ?_
            refine WL.nil ?_
            refine WX.then ?_
            refine WC.ret ?_
            refine WX.thenRet ?_
            obtain rfl := Option.some.inj h
            refine WX.bpRet Try.results6 (.tmp rfl .nil) (fun w hw => ?_)
            exact ⟨([] ++ Zn_57929), ret1 rfl, trivial, hw.sub (.cons .here .nil)⟩
          · replace h := ite_f h hb_57947
            refine WC.skip ?_
            refine WX.then ?_
            refine WC.seq ?_
            obtain ⟨c_57948, h⟩ := chk_elim h
            obtain ⟨x_57957, hx_57958, h⟩ := bind_elim h
            refine WC.draw (fun i => [].contains i) [] rfl ?_
            refine WD.quiet (i := 0) (d := 40) (by kernel_rfl) rfl (by kernel_rfl) (by kernel_rfl) rfl rfl rfl (q_loadA (cs := [(.slice ao_57769 s_57768.fStart.length cap_57770), (.slice ao_57772 s_57768.fDrift.length cap_57773), (.slice ao_57775 s_57768.fFaulty.length cap_57776), (.int .i64 s_57768.fF), (.int .i64 s_57768.fE), (.slice ao_57778 s_57768.fErrs.length cap_57779), (.slice ao_57781 s_57768.fLies.length cap_57782)]) aggT_24 rfl rfl (rd_all (.there (.there .here)))) ?_
            refine WD.pure (i := 1) (d := 41) (by kernel_rfl) rfl (by kernel_rfl) (by kernel_rfl) rfl rfl rfl (fun _ => q_move rfl) ?_
            refine WD.know (fun w hw => Hp.expose (.there .here) hw (by intro hz'; have := c_57948; rw [hz'] at this; omega)) ?_
            rintro ⟨b_57959, rfl⟩
            obtain ⟨r_57963, tl_57964, hl_57965, hd_57966, ⟨ao_57960, cap_57961, rfl, hs_57962⟩⟩ := RR.elem (hf_57933.weak (fun _ _ h => p22_mono (Zle.assoc _ _ _) h)) c_57948.1 c_57948.2
            refine WD.pure (i := 2) (d := 42) (by kernel_rfl) rfl (by kernel_rfl) (by kernel_rfl) rfl rfl rfl (fun _ => q_indexAddr elT_30 rfl rfl c_57948.1 c_57948.2 rowAdd) ?_
            refine WD.quiet (i := 3) (d := 43) (by kernel_rfl) rfl (by kernel_rfl) (by kernel_rfl) rfl rfl rfl (q_load1 oneT_22 rfl (rd_row (.there .here) (drop_rd hd_57966 0 _ rfl))) ?_
            refine WD.enter (i := 4) (d := 44) (by kernel_rfl) rfl (by kernel_rfl) (by kernel_rfl) rfl rfl rfl (run_call (l := [.tmp 40, .tmp 43]) Try.call17 (.cons rfl (.cons rfl .nil))) (fun w hw => by have pz := (hz.call2 hw (.nil : Sel [fz ([] ++ Zn_57929), row (.slice (some ⟨b_57959, 0, none⟩) x_57920.1.length cap_57931) 22 1 cs_57932, stb b_57885 24 [(.slice ao_57769 s_57768.fStart.length cap_57770), (.slice ao_57772 s_57768.fDrift.length cap_57773), (.slice ao_57775 s_57768.fFaulty.length cap_57776), (.int .i64 s_57768.fF), (.int .i64 s_57768.fE), (.slice ao_57778 s_57768.fErrs.length cap_57779), (.slice ao_57781 s_57768.fLies.length cap_57782)]] [] [fz ([] ++ Zn_57929), row (.slice (some ⟨b_57959, 0, none⟩) x_57920.1.length cap_57931) 22 1 cs_57932, stb b_57885 24 [(.slice ao_57769 s_57768.fStart.length cap_57770), (.slice ao_57772 s_57768.fDrift.length cap_57773), (.slice ao_57775 s_57768.fFaulty.length cap_57776), (.int .i64 s_57768.fF), (.int .i64 s_57768.fE), (.slice ao_57778 s_57768.fErrs.length cap_57779), (.slice ao_57781 s_57768.fLies.length cap_57782)]]) .here); exact w_timebase_Skew (Z := _) (ao_13931 := ao_57769) (cap_13932 := cap_57770) (ao_13934 := ao_57772) (cap_13935 := cap_57773) (ao_13937 := ao_57775) (cap_13938 := cap_57776) (ao_13940 := ao_57778) (cap_13941 := cap_57779) (ao_13943 := ao_57781) (cap_13944 := cap_57782) (ao_13947 := ao_57960) (cap_13948 := cap_57961) (s_13930 := s_57768) (clocks_13946 := (nth x_57920.1 22)) (r := x_57957) w pz (hs_57771.mono ((Zle.left _ _).trans ((Zle.left _ _).trans (Zle.assoc _ _ _)))) (hs_57774.mono ((Zle.left _ _).trans ((Zle.left _ _).trans (Zle.assoc _ _ _)))) (hs_57777.mono ((Zle.left _ _).trans ((Zle.left _ _).trans (Zle.assoc _ _ _)))) (hs_57780.mono ((Zle.left _ _).trans ((Zle.left _ _).trans (Zle.assoc _ _ _)))) (hs_57783.mono ((Zle.left _ _).trans ((Zle.left _ _).trans (Zle.assoc _ _ _)))) hs_57962 hx_57958) ?_
            refine WD.pure (i := 5) (d := 39) (by kernel_rfl) rfl (by kernel_rfl) (by kernel_rfl) rfl rfl rfl (fun _ => q_move rfl) ?_
            refine WD.pure (i := 6) (d := 45) (by kernel_rfl) rfl (by kernel_rfl) (by kernel_rfl) rfl rfl rfl (fun _ => q_extract rfl rfl) ?_
            refine WD.pure (i := 7) (d := 46) (by kernel_rfl) rfl (by kernel_rfl) (by kernel_rfl) rfl rfl rfl (fun _ => q_extract rfl rfl) ?_
            refine WD.pure (i := 8) (d := 7) (by kernel_rfl) rfl (by kernel_rfl) (by kernel_rfl) rfl rfl rfl (fun _ => q_assign rfl) ?_
            refine WD.pure (i := 9) (d := 8) (by kernel_rfl) rfl (by kernel_rfl) (by kernel_rfl) rfl rfl rfl (fun _ => q_assign rfl) ?_
            refine WD.done (by kernel_rfl) ?_
            refine WX.then ?_
            refine WC.seq ?_
            obtain ⟨b_57971, hb_57972, h⟩ := bind_elim h
            refine WC.region ?_
            refine WL.quiet (d := 47) rfl rfl rfl (q_move rfl) ?_
            refine WL.quiet (d := 48) rfl rfl rfl (q_eql rfl rfl) ?_
            refine WL.quiet (d := 49) rfl rfl rfl (q_move rfl) ?_
            refine WL.cut0 True [(53, (.bool ((decide (x_57957.2 = 0)) && (decide (x_57957.1 ≤ x_57936.1)))))] [fz ([] ++ Zn_57929), row (.slice (some ⟨b_57959, 0, none⟩) x_57920.1.length cap_57931) 22 1 cs_57932, stb b_57885 24 [(.slice ao_57769 s_57768.fStart.length cap_57770), (.slice ao_57772 s_57768.fDrift.length cap_57773), (.slice ao_57775 s_57768.fFaulty.length cap_57776), (.int .i64 s_57768.fF), (.int .i64 s_57768.fE), (.slice ao_57778 s_57768.fErrs.length cap_57779), (.slice ao_57781 s_57768.fLies.length cap_57782)]] 4 ?_ (fun _ => ?_)
            · rcases Bool.eq_false_or_eq_true (decide (x_57957.2 = 0)) with hb' | hb'
              · have hg_57975 := hb'; clear hb'
                refine WL.pin (i := 49) rfl hg_57975 ?_
                refine WL.quiet (d := 50) rfl rfl rfl (q_move rfl) ?_
                refine WL.quiet (d := 51) rfl rfl rfl (q_move rfl) ?_
                refine WL.quiet (d := 52) rfl rfl rfl (q_leq rfl rfl) ?_
                refine WL.quiet (d := 53) rfl rfl rfl (q_pickT rfl rfl) ?_
                exact WL.cutEnd () trivial (.cons (some_bool (and_r hg_57975)) .nil) (.cons .here (.cons .here (.cons .here .nil)))
              · have hg_57976 := hb'; clear hb'
                refine WL.pin (i := 49) rfl hg_57976 ?_
                refine WL.skip rfl rfl rfl ?_
                refine WL.skip rfl rfl rfl ?_
                refine WL.skip rfl rfl rfl ?_
                refine WL.quiet (d := 53) rfl rfl rfl (q_pickF rfl rfl) ?_
                exact WL.cutEnd () trivial (.cons (some_bool (and_l hg_57976)) .nil) (.cons .here (.cons .here (.cons .here .nil)))
            · skip
              refine WL.quiet (d := 54) rfl rfl rfl (q_move rfl) ?_
              refine WL.cut1 (fun (Zn_57973 : Zp) => Zle (Z ++ ([] ++ Zn_57929)) (Z ++ Zn_57973)) (fun (Zn_57973 : Zp) => [(56, (.bool b_57971))]) (fun (Zn_57973 : Zp) => [fz Zn_57973, row (.slice (some ⟨b_57959, 0, none⟩) x_57920.1.length cap_57931) 22 1 cs_57932, stb b_57885 24 [(.slice ao_57769 s_57768.fStart.length cap_57770), (.slice ao_57772 s_57768.fDrift.length cap_57773), (.slice ao_57775 s_57768.fFaulty.length cap_57776), (.int .i64 s_57768.fF), (.int .i64 s_57768.fE), (.slice ao_57778 s_57768.fErrs.length cap_57779), (.slice ao_57781 s_57768.fLies.length cap_57782)]]) 2 ?_ (fun Zn_57973 hle_57974 => ?_)
              · rcases Bool.eq_false_or_eq_true ((decide (x_57957.2 = 0)) && (decide (x_57957.1 ≤ x_57936.1))) with hb' | hb'
                · have hg_57977 := hb'; clear hb'
                  have hq_57978 := ite_t hb_57972 hg_57977
                  obtain ⟨x_57967, hx_57968, hq_57978⟩ := bind_elim hq_57978
                  replace hq_57978 := Option.some.inj hq_57978
                  refine WL.pin (i := 54) rfl hg_57977 ?_
                  refine WL.enter1 (dd := 55) rfl rfl rfl (run_call (l := []) Try.call12 .nil) (.nil : Sel [fz ([] ++ Zn_57929), row (.slice (some ⟨b_57959, 0, none⟩) x_57920.1.length cap_57931) 22 1 cs_57932, stb b_57885 24 [(.slice ao_57769 s_57768.fStart.length cap_57770), (.slice ao_57772 s_57768.fDrift.length cap_57773), (.slice ao_57775 s_57768.fFaulty.length cap_57776), (.int .i64 s_57768.fF), (.int .i64 s_57768.fE), (.slice ao_57778 s_57768.fErrs.length cap_57779), (.slice ao_57781 s_57768.fLies.length cap_57782)]] [] [fz ([] ++ Zn_57929), row (.slice (some ⟨b_57959, 0, none⟩) x_57920.1.length cap_57931) 22 1 cs_57932, stb b_57885 24 [(.slice ao_57769 s_57768.fStart.length cap_57770), (.slice ao_57772 s_57768.fDrift.length cap_57773), (.slice ao_57775 s_57768.fFaulty.length cap_57776), (.int .i64 s_57768.fF), (.int .i64 s_57768.fE), (.slice ao_57778 s_57768.fErrs.length cap_57779), (.slice ao_57781 s_57768.fLies.length cap_57782)]]) (fun w hw => by have pz := (hz.call2 hw (.nil : Sel [fz ([] ++ Zn_57929), row (.slice (some ⟨b_57959, 0, none⟩) x_57920.1.length cap_57931) 22 1 cs_57932, stb b_57885 24 [(.slice ao_57769 s_57768.fStart.length cap_57770), (.slice ao_57772 s_57768.fDrift.length cap_57773), (.slice ao_57775 s_57768.fFaulty.length cap_57776), (.int .i64 s_57768.fF), (.int .i64 s_57768.fE), (.slice ao_57778 s_57768.fErrs.length cap_57779), (.slice ao_57781 s_57768.fLies.length cap_57782)]] [] [fz ([] ++ Zn_57929), row (.slice (some ⟨b_57959, 0, none⟩) x_57920.1.length cap_57931) 22 1 cs_57932, stb b_57885 24 [(.slice ao_57769 s_57768.fStart.length cap_57770), (.slice ao_57772 s_57768.fDrift.length cap_57773), (.slice ao_57775 s_57768.fFaulty.length cap_57776), (.int .i64 s_57768.fF), (.int .i64 s_57768.fE), (.slice ao_57778 s_57768.fErrs.length cap_57779), (.slice ao_57781 s_57768.fLies.length cap_57782)]]) .here); exact w_law34_awake (Z := _)   (r := x_57967) w pz  hx_57968) ?_
                  rintro Zn_57979 _
                  refine WL.merge .here .here ?_
                  refine WL.quiet (d := 56) rfl rfl rfl (q_pickT rfl rfl) ?_
                  exact WL.cutEnd (G := Zp) (([] ++ Zn_57929) ++ Zn_57979) ((Zle.left _ _).trans (Zle.assoc _ _ _)) (.cons (some_bool hq_57978) .nil) (.cons .here (.cons .here (.cons .here .nil)))
                · have hg_57981 := hb'; clear hb'
                  have hq_57982 := ite_f hb_57972 hg_57981
                  replace hq_57982 := Option.some.inj hq_57982
                  refine WL.pin (i := 54) rfl hg_57981 ?_
                  refine WL.skip rfl rfl rfl ?_
                  refine WL.quiet (d := 56) rfl rfl rfl (q_pickF rfl rfl) ?_
                  exact WL.cutEnd (G := Zp) ([] ++ Zn_57929) (Zle.refl _) (.cons (some_bool hq_57982) .nil) (.cons .here (.cons .here (.cons .here .nil)))
              · skip
                refine WL.quiet (d := 2) rfl rfl rfl (q_assign rfl) ?_
                refine WL.nil ?_
                refine WX.then ?_
                refine WC.ret ?_
                obtain rfl := Option.some.inj h
                refine WX.bpRet Try.results6 (.tmp rfl .nil) (fun w hw => ?_)
                exact ⟨Zn_57973, ret1 rfl, trivial, hw.sub (.cons .here .nil)⟩
end Go.Proofs.Ytbejngeaocfieaa
