/- A part of this claim's proof: models of the functions that the law reaches, with the proof that the functions compute them; plain laws about the models. No conditions beyond those in each theorem's statement. -/
import Derived.Test.YtbejngeaocfieaaW34d
namespace Go.Proofs.Ytbejngeaocfieaa
open Go Go.RowKit Sep
set_option linter.all false
set_option maxRecDepth 30000
def m_law34_TimebaseVotes_L2 (reads_56109 : List (List Int)) (k_56559 : Option Bool) : Nat → Int → Option Bool
  | 0, _ => none
  | n_56610 + 1, v_56608 => if decide (v_56608 < ((reads_56109.length : Nat) : Int)) then chk ((0 : Int) ≤ v_56608 ∧ v_56608 < ((reads_56109.length : Nat) : Int)) (if decide ((((nth reads_56109 v_56608).length : Nat) : Int) > 20) then (m_law34_awake).bind fun x_56651 => some x_56651 else m_law34_TimebaseVotes_L2 reads_56109 k_56559 n_56610 (i64 (v_56608 + 1))) else k_56559
theorem m_law34_TimebaseVotes_L2_fuel {n : Nat} {reads_56109 : List (List Int)} {k_56559 : Option Bool} {v_56608 : Int} {r : Bool} (h : m_law34_TimebaseVotes_L2 reads_56109 k_56559 n v_56608 = some r) : ∃ m, n = m + 1 := by
  cases n with
  | zero => cases h
  | succ m => exact ⟨m, rfl⟩

/-- nacellelaw34.TimebaseVotes -/
def m_law34_TimebaseVotes (reads_56109 : List (List Int)) (f_56113 : Int) : Option Bool :=
  if decide (((reads_56109.length : Nat) : Int) > 20) then (m_law34_awake).bind fun x_56411 => some x_56411 else jp0 ((m_timebase_Round reads_56109 f_56113).bind fun x_56657 => (m_ref34_Round reads_56109 f_56113).bind fun x_56665 => (m_law33_Ints x_56657.1 x_56665.1).bind fun x_56673 => (if x_56673 && (decide (x_56657.2 = x_56665.2)) then (m_law34_awake).bind fun x_56675 => some x_56675 else some false).bind fun b_56679 => some b_56679) fun k_56559 => m_law34_TimebaseVotes_L2 reads_56109 k_56559 FUEL 0

set_option maxRecDepth 20000 in
theorem w_law34_TimebaseVotes (Z : Zp)  (ao_56110 : Option Addr) (cap_56111 : Nat) (reads_56109 : List (List Int)) (f_56113 : Int) (r : Bool) (w₀ : World) (hz : PZ [] w₀ Z)
    (hs_56112 : ZS Z 1 (p22 Z) ao_56110 cap_56111 reads_56109)
    (h : m_law34_TimebaseVotes reads_56109 f_56113 = some r) :
    Calls Try.prog 4 #[(.slice ao_56110 reads_56109.length cap_56111), (.int .i64 f_56113)] w₀ fun e w' => ∃ Zn : Zp, e = .returned (.bool r) ∧ True ∧ Hp [] w₀ w' [fz Zn] := by
  unfold m_law34_TimebaseVotes at h
  refine Calls.ofWC (vs := [(.slice ao_56110 reads_56109.length cap_56111), (.int .i64 f_56113)]) (pre := []) (env := [(0, (.slice ao_56110 reads_56109.length cap_56111)), (1, (.int .i64 f_56113))]) Try.func4 rfl Try.ntmps4 rfl (Hp.nil w₀ _) rfl ?_
  refine WC.pool ?_
  refine WC.seq ?_
  refine WC.region ?_
  refine WL.quiet (d := 4) rfl rfl rfl (q_assign rfl) ?_
  refine WL.nil ?_
  refine WX.then ?_
  refine WC.seq ?_
  refine WC.seq ?_
  refine WC.region ?_
  refine WL.quiet (d := 11) rfl rfl rfl (q_move rfl) ?_
  refine WL.quiet (d := 12) rfl rfl rfl (q_len Try.underlying30 rfl) ?_
  refine WL.quiet (d := 13) rfl rfl rfl (q_gtr rfl rfl) ?_
  refine WL.nil ?_
  refine WX.then ?_
  refine WC.cond rfl (fun hb_56410 => ?_) (fun hb_56410 => ?_)
  · replace h := ite_t h hb_56410
    refine WC.seq ?_
    obtain ⟨x_56411, hx_56412, h⟩ := bind_elim h
    refine WC.region ?_
    refine WL.enter1 (dd := 14) rfl rfl rfl (run_call (l := []) Try.call12 .nil) (.nil : Sel [fz []] [] [fz []]) (fun w hw => by have pz := (hz.call2 hw (.nil : Sel [fz []] [] [fz []]) .here); exact w_law34_awake (Z := _)   (r := x_56411) w pz  hx_56412) ?_
    rintro Zn_56415 _
    refine WL.merge .here .here ?_
    refine WL.quiet (d := 4) rfl rfl rfl (q_assign rfl) ?_
    refine WL.nil ?_
    refine WX.then ?_
    refine WC.ret ?_
    refine WX.thenRet ?_
    obtain rfl := Option.some.inj h
    refine WX.bpRet Try.results4 (.tmp rfl .nil) (fun w hw => ?_)
    exact ⟨([] ++ Zn_56415), ret1 rfl, trivial, hw.sub (.cons .here .nil)⟩
  · replace h := ite_f h hb_56410
    refine WC.skip ?_
    refine WX.then ?_
    obtain ⟨k_56559, hk_56560, h⟩ := jp0_elim h
    refine WC.seqMid0 ((k_56559 = some r)) ([(0, (.slice ao_56110 reads_56109.length cap_56111)), (1, (.int .i64 f_56113))]) ([fz []]) ?_ ?_
    · skip
      refine WC.seq ?_
      refine WC.region ?_
      refine WL.quiet (d := 15) rfl rfl rfl (q_move rfl) ?_
      refine WL.quiet (d := 16) rfl rfl rfl (q_len Try.underlying30 rfl) ?_
      refine WL.quiet (d := 17) rfl rfl rfl (q_move rfl) ?_
      refine WL.nil ?_
      refine WX.then ?_
      refine WC.block ?_
      refine WC.loop2 (fun (n_56609 : Nat) (v_56608 : Int) => (m_law34_TimebaseVotes_L2 reads_56109 k_56559 n_56609 v_56608 = some r)) (fun (n_56609 : Nat) (v_56608 : Int) => [(0, (.slice ao_56110 reads_56109.length cap_56111)), (1, (.int .i64 f_56113)), (15, (.slice ao_56110 reads_56109.length cap_56111)), (16, (.int .i64 ((reads_56109.length : Nat) : Int))), (17, (.int .i64 v_56608))]) (fun (n_56609 : Nat) (v_56608 : Int) => [fz []]) (fun (n_56609 : Nat) (v_56608 : Int) => n_56609) ⟨FUEL, 0⟩ h (.cons rfl (.cons rfl (.cons rfl (.cons rfl (.cons rfl .nil))))) (.cons .here .nil) ?_
      rintro n_56609 v_56608 h
      obtain ⟨n_56610, rfl⟩ := m_law34_TimebaseVotes_L2_fuel h
      rw [m_law34_TimebaseVotes_L2] at h
      refine WC.seq ?_
      refine WC.region ?_
      refine WL.quiet (d := 18) rfl rfl rfl (q_lss rfl rfl) ?_
      refine WL.nil ?_
      refine WX.then ?_
      refine WC.seq ?_
      refine WC.cond rfl (fun hb_56612 => ?_) (fun hb_56612 => ?_)
      · replace h := ite_t h hb_56612
        refine WC.skip ?_
        refine WX.then ?_
        refine WC.seq ?_
        refine WC.block ?_
        refine WC.seq ?_
        obtain ⟨c_56635, h⟩ := chk_elim h
        refine WC.region ?_
        refine WL.znth (dd := 19) rfl rfl (Z := (Z ++ [])) (Pr := (p22 (Z ++ []))) elT_30 rfl rfl ((hs_56112.mono (Zle.left _ _)).weak (fun _ _ h => p22_mono (Zle.left _ _) h)) c_56635 ?_
        rintro A_56643 r_56644 hA_56645 hl_56646 ⟨ao_56647, cap_56648, rfl, hs_56649⟩
        refine WL.quiet (d := 20) rfl rfl rfl (q_load1 oneT_22 rfl (rd_z (hz.pv2 .here) hA_56645 rfl)) ?_
        refine WL.quiet (d := 6) rfl rfl rfl (q_assign rfl) ?_
        refine WL.nil ?_
        refine WX.then ?_
        refine WC.seq ?_
        refine WC.region ?_
        refine WL.quiet (d := 21) rfl rfl rfl (q_move rfl) ?_
        refine WL.quiet (d := 22) rfl rfl rfl (q_len Try.underlying22 rfl) ?_
        refine WL.quiet (d := 23) rfl rfl rfl (q_gtr rfl rfl) ?_
        refine WL.nil ?_
        refine WX.then ?_
        refine WC.cond rfl (fun hb_56650 => ?_) (fun hb_56650 => ?_)
        · replace h := ite_t h hb_56650
          refine WC.seq ?_
          obtain ⟨x_56651, hx_56652, h⟩ := bind_elim h
          refine WC.region ?_
          refine WL.enter1 (dd := 24) rfl rfl rfl (run_call (l := []) Try.call12 .nil) (.nil : Sel [fz []] [] [fz []]) (fun w hw => by have pz := (hz.call2 hw (.nil : Sel [fz []] [] [fz []]) .here); exact w_law34_awake (Z := _)   (r := x_56651) w pz  hx_56652) ?_
          rintro Zn_56655 _
          refine WL.merge .here .here ?_
          refine WL.quiet (d := 4) rfl rfl rfl (q_assign rfl) ?_
          refine WL.nil ?_
          refine WX.then ?_
          refine WC.ret ?_
          refine WX.blockRet ?_
          refine WX.thenRet ?_
          refine WX.thenRet ?_
          refine WX.blockRet ?_
          refine WX.thenRet ?_
          obtain rfl := Option.some.inj h
          refine WX.bpRet Try.results4 (.tmp rfl .nil) (fun w hw => ?_)
          exact ⟨([] ++ Zn_56655), ret1 rfl, trivial, hw.sub (.cons .here .nil)⟩
        · replace h := ite_f h hb_56650
          refine WC.skip ?_
          refine WX.blockNormal ?_
          refine WX.then ?_
          refine WC.region ?_
          refine WL.quiet (d := 25) rfl rfl rfl (q_add rfl rfl rfl) ?_
          refine WL.quiet (d := 17) rfl rfl rfl (q_move rfl) ?_
          refine WL.nil ?_
          exact WX.round (G := Nat × Int) ⟨n_56610, (i64 (v_56608 + 1))⟩ h (Nat.lt_succ_self _) (.cons rfl (.cons rfl (.cons rfl (.cons rfl (.cons rfl .nil))))) (.cons .here .nil)
      · replace h := ite_f h hb_56612
        refine WC.exit ?_
        refine WX.thenExit ?_
        refine WX.thenExit ?_
        refine WX.blockHit ?_
        exact WX.mid (G := Unit) () h (.cons rfl (.cons rfl .nil)) (.cons .here .nil)
    · rintro  h
      replace h := hk_56560.symm.trans h
      refine WC.seq ?_
      obtain ⟨x_56657, hx_56658, h⟩ := bind_elim h
      refine WC.region ?_
      refine WL.quiet (d := 27) rfl rfl rfl (q_move rfl) ?_
      refine WL.quiet (d := 28) rfl rfl rfl (q_move rfl) ?_
      refine WL.enter2 (dd := 29) rfl rfl rfl (run_call (l := [.tmp 27, .tmp 28]) Try.call24 (.cons rfl (.cons rfl .nil))) (.nil : Sel [fz []] [] [fz []]) (fun w hw => by have pz := (hz.call2 hw (.nil : Sel [fz []] [] [fz []]) .here); exact w_timebase_Round (Z := _) (ao_8479 := ao_56110) (cap_8480 := cap_56111) (reads_8478 := reads_56109) (f_8482 := f_56113) (r := x_56657) w pz ((hs_56112.mono (Zle.left _ _)).weak (fun _ _ h => p22_mono (Zle.left _ _) h)) hx_56658) ?_
      rintro ao_56662 cap_56663 _
      refine WL.quiet (d := 26) rfl rfl rfl (q_move rfl) ?_
      refine WL.quiet (d := 30) rfl rfl rfl (q_extract rfl rfl) ?_
      refine WL.quiet (d := 31) rfl rfl rfl (q_extract rfl rfl) ?_
      refine WL.quiet (d := 7) rfl rfl rfl (q_assign rfl) ?_
      refine WL.quiet (d := 8) rfl rfl rfl (q_assign rfl) ?_
      refine WL.nil ?_
      refine WX.then ?_
      refine WC.seq ?_
      obtain ⟨x_56665, hx_56666, h⟩ := bind_elim h
      refine WC.region ?_
      refine WL.quiet (d := 33) rfl rfl rfl (q_move rfl) ?_
      refine WL.quiet (d := 34) rfl rfl rfl (q_move rfl) ?_
      refine WL.enter2 (dd := 35) rfl rfl rfl (run_call (l := [.tmp 33, .tmp 34]) Try.call25 (.cons rfl (.cons rfl .nil))) (.nil : Sel [row (.slice ao_56662 x_56657.1.length cap_56663) 3 1 (x_56657.1.flatMap e3), fz []] [] [row (.slice ao_56662 x_56657.1.length cap_56663) 3 1 (x_56657.1.flatMap e3), fz []]) (fun w hw => by have pz := (hz.call2 hw (.nil : Sel [row (.slice ao_56662 x_56657.1.length cap_56663) 3 1 (x_56657.1.flatMap e3), fz []] [] [row (.slice ao_56662 x_56657.1.length cap_56663) 3 1 (x_56657.1.flatMap e3), fz []]) (.there .here)); exact w_ref34_Round (Z := _) (ao_23777 := ao_56110) (cap_23778 := cap_56111) (reads_23776 := reads_56109) (f_23780 := f_56113) (r := x_56665) w pz ((hs_56112.mono (Zle.left _ _)).weak (fun _ _ h => p22_mono (Zle.left _ _) h)) hx_56666) ?_
      rintro ao_56670 cap_56671 _
      refine WL.quiet (d := 32) rfl rfl rfl (q_move rfl) ?_
      refine WL.quiet (d := 36) rfl rfl rfl (q_extract rfl rfl) ?_
      refine WL.quiet (d := 37) rfl rfl rfl (q_extract rfl rfl) ?_
      refine WL.quiet (d := 9) rfl rfl rfl (q_assign rfl) ?_
      refine WL.quiet (d := 10) rfl rfl rfl (q_assign rfl) ?_
      refine WL.nil ?_
      refine WX.then ?_
      refine WC.seq ?_
      obtain ⟨x_56673, hx_56674, h⟩ := bind_elim h
      obtain ⟨b_56679, hb_56680, h⟩ := bind_elim h
      refine WC.region ?_
      refine WL.quiet (d := 38) rfl rfl rfl (q_move rfl) ?_
      refine WL.quiet (d := 39) rfl rfl rfl (q_move rfl) ?_
      refine WL.callD (dd := 40) rfl rfl rfl (run_call (l := [.tmp 38, .tmp 39]) Try.call26 (.cons rfl (.cons rfl .nil))) (.nil : Sel [row (.slice ao_56670 x_56665.1.length cap_56671) 3 1 (x_56665.1.flatMap e3), row (.slice ao_56662 x_56657.1.length cap_56663) 3 1 (x_56657.1.flatMap e3), fz []] [] [row (.slice ao_56670 x_56665.1.length cap_56671) 3 1 (x_56665.1.flatMap e3), row (.slice ao_56662 x_56657.1.length cap_56663) 3 1 (x_56657.1.flatMap e3), fz []]) (fun w hw => by have pz := (hz.call2 hw (.nil : Sel [row (.slice ao_56670 x_56665.1.length cap_56671) 3 1 (x_56665.1.flatMap e3), row (.slice ao_56662 x_56657.1.length cap_56663) 3 1 (x_56657.1.flatMap e3), fz []] [] [row (.slice ao_56670 x_56665.1.length cap_56671) 3 1 (x_56665.1.flatMap e3), row (.slice ao_56662 x_56657.1.length cap_56663) 3 1 (x_56657.1.flatMap e3), fz []]) (.there (.there .here))).lend hw (.nil : Sel [row (.slice ao_56670 x_56665.1.length cap_56671) 3 1 (x_56665.1.flatMap e3), row (.slice ao_56662 x_56657.1.length cap_56663) 3 1 (x_56657.1.flatMap e3), fz []] [] [row (.slice ao_56670 x_56665.1.length cap_56671) 3 1 (x_56665.1.flatMap e3), row (.slice ao_56662 x_56657.1.length cap_56663) 3 1 (x_56657.1.flatMap e3), fz []]) (B := [row (.slice ao_56662 x_56657.1.length cap_56663) 3 1 (x_56657.1.flatMap e3), row (.slice ao_56670 x_56665.1.length cap_56671) 3 1 (x_56665.1.flatMap e3)]) (fun _ hx' => ((.cons (.there .here) (.cons .here .nil)) : Sel _ [row (.slice ao_56662 x_56657.1.length cap_56663) 3 1 (x_56657.1.flatMap e3), row (.slice ao_56670 x_56665.1.length cap_56671) 3 1 (x_56665.1.flatMap e3)] _).mem hx'); exact w_law33_Ints (Z := _) (ao_15127 := ao_56662) (cap_15128 := cap_56663) (ao_15131 := ao_56670) (cap_15132 := cap_56671) (a_15126 := x_56657.1) (b_15130 := x_56665.1) (r := x_56673) w pz (ZA.row (hw.lent (.nil : Sel [row (.slice ao_56670 x_56665.1.length cap_56671) 3 1 (x_56665.1.flatMap e3), row (.slice ao_56662 x_56657.1.length cap_56663) 3 1 (x_56657.1.flatMap e3), fz []] [] [row (.slice ao_56670 x_56665.1.length cap_56671) 3 1 (x_56665.1.flatMap e3), row (.slice ao_56662 x_56657.1.length cap_56663) 3 1 (x_56657.1.flatMap e3), fz []]) (B := [row (.slice ao_56662 x_56657.1.length cap_56663) 3 1 (x_56657.1.flatMap e3), row (.slice ao_56670 x_56665.1.length cap_56671) 3 1 (x_56665.1.flatMap e3)]) (fun _ hx' => ((.cons (.there .here) (.cons .here .nil)) : Sel _ [row (.slice ao_56662 x_56657.1.length cap_56663) 3 1 (x_56657.1.flatMap e3), row (.slice ao_56670 x_56665.1.length cap_56671) 3 1 (x_56665.1.flatMap e3)] _).mem hx') (.head _) _) (RR.flat (enc := e3) (fun _ => rfl) _) ⟨w, pz.1⟩) (ZA.row (hw.lent (.nil : Sel [row (.slice ao_56670 x_56665.1.length cap_56671) 3 1 (x_56665.1.flatMap e3), row (.slice ao_56662 x_56657.1.length cap_56663) 3 1 (x_56657.1.flatMap e3), fz []] [] [row (.slice ao_56670 x_56665.1.length cap_56671) 3 1 (x_56665.1.flatMap e3), row (.slice ao_56662 x_56657.1.length cap_56663) 3 1 (x_56657.1.flatMap e3), fz []]) (B := [row (.slice ao_56662 x_56657.1.length cap_56663) 3 1 (x_56657.1.flatMap e3), row (.slice ao_56670 x_56665.1.length cap_56671) 3 1 (x_56665.1.flatMap e3)]) (fun _ hx' => ((.cons (.there .here) (.cons .here .nil)) : Sel _ [row (.slice ao_56662 x_56657.1.length cap_56663) 3 1 (x_56657.1.flatMap e3), row (.slice ao_56670 x_56665.1.length cap_56671) 3 1 (x_56665.1.flatMap e3)] _).mem hx') (.tail _ (.head _)) _) (RR.flat (enc := e3) (fun _ => rfl) _) ⟨w, pz.1⟩) hx_56674) ?_
      refine WL.quiet (d := 41) rfl rfl rfl (q_move rfl) ?_
      refine WL.cut0 True [(45, (.bool (x_56673 && (decide (x_56657.2 = x_56665.2)))))] [row (.slice ao_56670 x_56665.1.length cap_56671) 3 1 (x_56665.1.flatMap e3), row (.slice ao_56662 x_56657.1.length cap_56663) 3 1 (x_56657.1.flatMap e3), fz []] 4 ?_ (fun _ => ?_)
      · rcases Bool.eq_false_or_eq_true x_56673 with hb' | hb'
        · have hg_56683 := hb'; clear hb'
          refine WL.pin (i := 41) rfl hg_56683 ?_
          refine WL.quiet (d := 42) rfl rfl rfl (q_move rfl) ?_
          refine WL.quiet (d := 43) rfl rfl rfl (q_move rfl) ?_
          refine WL.quiet (d := 44) rfl rfl rfl (q_eql rfl rfl) ?_
          refine WL.quiet (d := 45) rfl rfl rfl (q_pickT rfl rfl) ?_
          exact WL.cutEnd () trivial (.cons (some_bool (and_r hg_56683)) .nil) (.cons .here (.cons .here (.cons .here .nil)))
        · have hg_56684 := hb'; clear hb'
          refine WL.pin (i := 41) rfl hg_56684 ?_
          refine WL.skip rfl rfl rfl ?_
          refine WL.skip rfl rfl rfl ?_
          refine WL.skip rfl rfl rfl ?_
          refine WL.quiet (d := 45) rfl rfl rfl (q_pickF rfl rfl) ?_
          exact WL.cutEnd () trivial (.cons (some_bool (and_l hg_56684)) .nil) (.cons .here (.cons .here (.cons .here .nil)))
      · skip
        refine WL.quiet (d := 46) rfl rfl rfl (q_move rfl) ?_
        refine WL.cut1 (fun (Zn_56681 : Zp) => Zle (Z ++ []) (Z ++ Zn_56681)) (fun (Zn_56681 : Zp) => [(48, (.bool b_56679))]) (fun (Zn_56681 : Zp) => [row (.slice ao_56670 x_56665.1.length cap_56671) 3 1 (x_56665.1.flatMap e3), row (.slice ao_56662 x_56657.1.length cap_56663) 3 1 (x_56657.1.flatMap e3), fz Zn_56681]) 2 ?_ (fun Zn_56681 hle_56682 => ?_)
        · rcases Bool.eq_false_or_eq_true (x_56673 && (decide (x_56657.2 = x_56665.2))) with hb' | hb'
          · have hg_56685 := hb'; clear hb'
            have hq_56686 := ite_t hb_56680 hg_56685
            obtain ⟨x_56675, hx_56676, hq_56686⟩ := bind_elim hq_56686
            replace hq_56686 := Option.some.inj hq_56686
            refine WL.pin (i := 46) rfl hg_56685 ?_
            refine WL.enter1 (dd := 47) rfl rfl rfl (run_call (l := []) Try.call12 .nil) (.nil : Sel [row (.slice ao_56670 x_56665.1.length cap_56671) 3 1 (x_56665.1.flatMap e3), row (.slice ao_56662 x_56657.1.length cap_56663) 3 1 (x_56657.1.flatMap e3), fz []] [] [row (.slice ao_56670 x_56665.1.length cap_56671) 3 1 (x_56665.1.flatMap e3), row (.slice ao_56662 x_56657.1.length cap_56663) 3 1 (x_56657.1.flatMap e3), fz []]) (fun w hw => by have pz := (hz.call2 hw (.nil : Sel [row (.slice ao_56670 x_56665.1.length cap_56671) 3 1 (x_56665.1.flatMap e3), row (.slice ao_56662 x_56657.1.length cap_56663) 3 1 (x_56657.1.flatMap e3), fz []] [] [row (.slice ao_56670 x_56665.1.length cap_56671) 3 1 (x_56665.1.flatMap e3), row (.slice ao_56662 x_56657.1.length cap_56663) 3 1 (x_56657.1.flatMap e3), fz []]) (.there (.there .here))); exact w_law34_awake (Z := _)   (r := x_56675) w pz  hx_56676) ?_
            rintro Zn_56687 _
            refine WL.merge .here (.there (.there .here)) ?_
            refine WL.quiet (d := 48) rfl rfl rfl (q_pickT rfl rfl) ?_
            exact WL.cutEnd (G := Zp) ([] ++ Zn_56687) ((Zle.left _ _).trans (Zle.assoc _ _ _)) (.cons (some_bool hq_56686) .nil) (.cons (.there .here) (.cons (.there .here) (.cons .here .nil)))
          · have hg_56689 := hb'; clear hb'
            have hq_56690 := ite_f hb_56680 hg_56689
            replace hq_56690 := Option.some.inj hq_56690
            refine WL.pin (i := 46) rfl hg_56689 ?_
            refine WL.skip rfl rfl rfl ?_
            refine WL.quiet (d := 48) rfl rfl rfl (q_pickF rfl rfl) ?_
            exact WL.cutEnd (G := Zp) [] (Zle.refl _) (.cons (some_bool hq_56690) .nil) (.cons .here (.cons .here (.cons .here .nil)))
        · skip
          refine WL.quiet (d := 4) rfl rfl rfl (q_assign rfl) ?_
          refine WL.nil ?_
          refine WX.then ?_
          refine WC.ret ?_
          obtain rfl := Option.some.inj h
          refine WX.bpRet Try.results4 (.tmp rfl .nil) (fun w hw => ?_)
          exact ⟨Zn_56681, ret1 rfl, trivial, hw.sub (.cons (.there (.there .here)) .nil)⟩
end Go.Proofs.Ytbejngeaocfieaa
