/- A part of this claim's proof: models of functions, walks, plain laws. No conditions. -/
import Derived.Test.YtbihfglmcjkdhaaW02f
namespace Go.Proofs.Ytbihfglmcjkdhaa
open Go Go.RowKit Sep
set_option linter.all false
set_option maxRecDepth 30000
set_option maxHeartbeats 4000000
def m_law02_CurveBreaks_L2 (x_30961 : List Sapi_Rat × Int) (c_30989 : Int) (c_30990 : Int) (c_30991 : Int) (c_30992 : Int) (k_31344 : Option Bool) : Nat → Int → Option Bool
  | 0, _ => none
  | n_31491 + 1, v_31489 => if decide (v_31489 < ((x_30961.1.length : Nat) : Int)) then chk ((0 : Int) ≤ v_31489 ∧ v_31489 < ((x_30961.1.length : Nat) : Int)) ((if decide (((nth x_30961.1 v_31489).fN) ≤ 0) then some true else (if decide (v_31489 > 0) then chk ((0 : Int) ≤ (i64 (v_31489 - 1)) ∧ (i64 (v_31489 - 1)) < ((x_30961.1.length : Nat) : Int)) ((m_rat_Cmp (⟨((nth x_30961.1 (i64 (v_31489 - 1))).fN), ((nth x_30961.1 (i64 (v_31489 - 1))).fD)⟩ : Sapi_Rat) (⟨((nth x_30961.1 v_31489).fN), ((nth x_30961.1 v_31489).fD)⟩ : Sapi_Rat)).bind fun x_31591 => some (decide (x_31591 ≥ 0))) else some false).bind fun b_31593 => some b_31593).bind fun b_31595 => if b_31595 then some false else (m_rat_Cmp (⟨((nth x_30961.1 v_31489).fN), ((nth x_30961.1 v_31489).fD)⟩ : Sapi_Rat) (⟨c_30989, c_30990⟩ : Sapi_Rat)).bind fun x_31613 => (if decide (x_31613 > 0) then (m_rat_Cmp (⟨((nth x_30961.1 v_31489).fN), ((nth x_30961.1 v_31489).fD)⟩ : Sapi_Rat) (⟨c_30991, c_30992⟩ : Sapi_Rat)).bind fun x_31615 => some (decide (x_31615 < 0)) else some false).bind fun b_31617 => if b_31617 then (m_law02_awake).bind fun x_31624 => some x_31624 else m_law02_CurveBreaks_L2 x_30961 c_30989 c_30990 c_30991 c_30992 k_31344 n_31491 (i64 (v_31489 + 1))) else k_31344
theorem m_law02_CurveBreaks_L2_fuel {n : Nat} {x_30961 : List Sapi_Rat × Int} {c_30989 : Int} {c_30990 : Int} {c_30991 : Int} {c_30992 : Int} {k_31344 : Option Bool} {v_31489 : Int} {r : Bool} (h : m_law02_CurveBreaks_L2 x_30961 c_30989 c_30990 c_30991 c_30992 k_31344 n v_31489 = some r) : ∃ m, n = m + 1 := by
  cases n with
  | zero => cases h
  | succ m => exact ⟨m, rfl⟩

/-- nacellelaw02.CurveBreaks -/
def m_law02_CurveBreaks (m_30210 : List Int) (t_30214 : Int) (u_30215 : Int) : Option Bool :=
  (m_law02_Small m_30210).bind fun x_30950 => (m_curve_Breaks x_30950).bind fun x_30961 => if decide (x_30961.2 ≠ 0) then some false else (m_law02_point t_30214).bind fun x_30978 => (m_law02_point u_30215).bind fun x_30980 => jp4 (fun (c_30989 : Int) (c_30990 : Int) (c_30991 : Int) (c_30992 : Int) => jp0 ((m_rat_Add (⟨c_30989, c_30990⟩ : Sapi_Rat) (⟨c_30991, c_30992⟩ : Sapi_Rat)).bind fun x_31630 => (m_law02_num 2 1).bind fun x_31634 => (m_rat_Div x_31630.1 x_31634).bind fun x_31636 => (m_law02_at x_30950 (⟨c_30989, c_30990⟩ : Sapi_Rat)).bind fun x_31641 => (m_law02_at x_30950 (⟨c_30991, c_30992⟩ : Sapi_Rat)).bind fun x_31645 => (m_law02_at x_30950 x_31636.1).bind fun x_31649 => (m_rat_Add x_31641.1 x_31645.1).bind fun x_31653 => (m_rat_Add x_31649.1 x_31649.1).bind fun x_31657 => (if (((x_31641.2 && x_31645.2) && x_31649.2) && (decide ((i64 ((i64 ((i64 (x_31630.2 + x_31636.2)) + x_31653.2)) + x_31657.2)) = 0))) && (decide (x_31657.1 = x_31653.1)) then (m_law02_awake).bind fun x_31661 => some x_31661 else some false).bind fun b_31665 => some b_31665) fun k_31344 => m_law02_CurveBreaks_L2 x_30961 c_30989 c_30990 c_30991 c_30992 k_31344 FUEL 0) fun k_30993 => (m_rat_Cmp x_30980 x_30978).bind fun x_30995 => if decide (x_30995 < 0) then k_30993 x_30980.fN x_30980.fD x_30978.fN x_30978.fD else k_30993 x_30978.fN x_30978.fD x_30980.fN x_30980.fD

set_option maxRecDepth 20000 in
theorem w_law02_CurveBreaks (Z : Zp)  (ao_30211 : Option Addr) (cap_30212 : Nat) (m_30210 : List Int) (t_30214 : Int) (u_30215 : Int) (r : Bool) (w₀ : World) (hz : PZ [] w₀ Z)
    (hs_30213 : ZS Z 1 (fun r x => r = e5 x) ao_30211 cap_30212 m_30210)
    (h : m_law02_CurveBreaks m_30210 t_30214 u_30215 = some r) :
    Calls Try.prog 5 #[(.slice ao_30211 m_30210.length cap_30212), (.int .u16 t_30214), (.int .u16 u_30215)] w₀ fun e w' => ∃ Zn : Zp, e = .returned (.bool r) ∧ True ∧ Hp [] w₀ w' [fz Zn] := by
  unfold m_law02_CurveBreaks at h
  refine Calls.ofWC (vs := [(.slice ao_30211 m_30210.length cap_30212), (.int .u16 t_30214), (.int .u16 u_30215)]) (pre := []) (env := [(0, (.slice ao_30211 m_30210.length cap_30212)), (1, (.int .u16 t_30214)), (2, (.int .u16 u_30215))]) Try.func5 rfl Try.ntmps5 rfl (Hp.nil w₀ _) rfl ?_
  refine WC.pool ?_
  refine WC.seq ?_
  refine WC.region ?_
  refine WL.quiet (d := 6) rfl rfl rfl (q_assign rfl) ?_
  refine WL.nil ?_
  refine WX.then ?_
  refine WC.seq ?_
  obtain ⟨x_30950, hx_30951, h⟩ := bind_elim h
  refine WC.region ?_
  refine WL.quiet (d := 28) rfl rfl rfl (q_move rfl) ?_
  refine WL.enter2 (dd := 29) rfl rfl rfl (run_call (l := [.tmp 28]) Try.call10 (.cons rfl .nil)) (.nil : Sel [fz []] [] [fz []]) (fun w hw => by have pz := (hz.call2 hw (.nil : Sel [fz []] [] [fz []]) .here); exact w_law02_Small (Z := _) (ao_8 := ao_30211) (cap_9 := cap_30212) (nums_7 := m_30210) (r := x_30950) w pz (hs_30213.mono (Zle.left _ _)) hx_30951) ?_
  rintro ao_30955 cap_30956 _
  refine WL.quiet (d := 7) rfl rfl rfl (q_assign rfl) ?_
  refine WL.nil ?_
  refine WX.then ?_
  refine WC.seq ?_
  obtain ⟨x_30961, hx_30962, h⟩ := bind_elim h
  refine WC.region ?_
  refine WL.quiet (d := 31) rfl rfl rfl (q_move rfl) ?_
  refine WL.freezeS (ls := x_30950) .here .here hz (RR.flat (enc := e42) (fun _ => rfl) _) ?_
  intro Zn_30968 hle_30969 hf_30970
  refine WL.enter3 (dd := 32) rfl rfl rfl (run_call (l := [.tmp 31]) Try.call20 (.cons rfl .nil)) (.nil : Sel [fz Zn_30968] [] [fz Zn_30968]) (fun w hw => by have pz := (hz.call2 hw (.nil : Sel [fz Zn_30968] [] [fz Zn_30968]) .here); exact w_curve_Breaks (Z := _) (ao_4992 := ao_30955) (cap_4993 := cap_30956) (c_4991 := x_30950) (r := x_30961) w pz hf_30970 hx_30962) ?_
  rintro Zn_30971 ao_30972 cap_30973 _
  refine WL.merge .here (.there .here) ?_
  refine WL.quiet (d := 30) rfl rfl rfl (q_move rfl) ?_
  refine WL.quiet (d := 33) rfl rfl rfl (q_extract rfl rfl) ?_
  refine WL.quiet (d := 34) rfl rfl rfl (q_extract rfl rfl) ?_
  refine WL.quiet (d := 8) rfl rfl rfl (q_assign rfl) ?_
  refine WL.quiet (d := 9) rfl rfl rfl (q_assign rfl) ?_
  refine WL.nil ?_
  refine WX.then ?_
  refine WC.seq ?_
  refine WC.seq ?_
  refine WC.region ?_
  refine WL.quiet (d := 35) rfl rfl rfl (q_move rfl) ?_
  refine WL.quiet (d := 36) rfl rfl rfl (q_neq rfl rfl) ?_
  refine WL.nil ?_
  refine WX.then ?_
  refine WC.cond rfl (fun hb_30977 => ?_) (fun hb_30977 => ?_)
  · replace h := ite_t h hb_30977
    refine WC.seq ?_
    refine WC.region ?_
    refine WL.quiet (d := 6) rfl rfl rfl (q_assign rfl) ?_
    refine WL.nil ?_
    refine WX.then ?_
    refine WC.ret ?_
    refine WX.thenRet ?_
    obtain rfl := Option.some.inj h
    refine WX.bpRet Try.results5 (.tmp rfl .nil) (fun w hw => ?_)
    exact ⟨(Zn_30968 ++ Zn_30971), ret1 rfl, trivial, hw.sub (.cons .here .nil)⟩
  · replace h := ite_f h hb_30977
    refine WC.skip ?_
    refine WX.then ?_
    refine WC.seq ?_
    obtain ⟨x_30978, hx_30979, h⟩ := bind_elim h
    obtain ⟨x_30980, hx_30981, h⟩ := bind_elim h
    refine WC.region ?_
    refine WL.quiet (d := 37) rfl rfl rfl (q_move rfl) ?_
    refine WL.callD (dd := 38) rfl rfl rfl (run_call (l := [.tmp 37]) Try.call11 (.cons rfl .nil)) (.nil : Sel [fz (Zn_30968 ++ Zn_30971), row (.slice ao_30972 x_30961.1.length cap_30973) 28 2 (x_30961.1.flatMap e28)] [] [fz (Zn_30968 ++ Zn_30971), row (.slice ao_30972 x_30961.1.length cap_30973) 28 2 (x_30961.1.flatMap e28)]) (fun w hw => by have pz := (hz.call2 hw (.nil : Sel [fz (Zn_30968 ++ Zn_30971), row (.slice ao_30972 x_30961.1.length cap_30973) 28 2 (x_30961.1.flatMap e28)] [] [fz (Zn_30968 ++ Zn_30971), row (.slice ao_30972 x_30961.1.length cap_30973) 28 2 (x_30961.1.flatMap e28)]) .here); exact w_law02_point (Z := _)  (n_980 := t_30214) (r := x_30978) w pz  hx_30979) ?_
    refine WL.quiet (d := 39) rfl rfl rfl (q_move rfl) ?_
    refine WL.callD (dd := 40) rfl rfl rfl (run_call (l := [.tmp 39]) Try.call11 (.cons rfl .nil)) (.nil : Sel [fz (Zn_30968 ++ Zn_30971), row (.slice ao_30972 x_30961.1.length cap_30973) 28 2 (x_30961.1.flatMap e28)] [] [fz (Zn_30968 ++ Zn_30971), row (.slice ao_30972 x_30961.1.length cap_30973) 28 2 (x_30961.1.flatMap e28)]) (fun w hw => by have pz := (hz.call2 hw (.nil : Sel [fz (Zn_30968 ++ Zn_30971), row (.slice ao_30972 x_30961.1.length cap_30973) 28 2 (x_30961.1.flatMap e28)] [] [fz (Zn_30968 ++ Zn_30971), row (.slice ao_30972 x_30961.1.length cap_30973) 28 2 (x_30961.1.flatMap e28)]) .here); exact w_law02_point (Z := _)  (n_980 := u_30215) (r := x_30980) w pz  hx_30981) ?_
    refine WL.new (dd := 10) rfl rfl rfl (e_alloc (cs := [(.int .i64 0), (.int .i64 0)]) zeroT_28 rfl) ?_
    intro b_30984 _
    refine WL.new (dd := 11) rfl rfl rfl (e_alloc (cs := [(.int .i64 0), (.int .i64 0)]) zeroT_28 rfl) ?_
    intro b_30985 _
    refine WL.eff0 rfl rfl (e_store (vs := [(.int .i64 x_30978.fN), (.int .i64 x_30978.fD)]) (ds := [(.int .i64 x_30978.fN), (.int .i64 x_30978.fD)]) sizT_28 rfl rfl rfl rfl (oc_cons rfl (oc_cons rfl oc_nil)) (.there .here) (Nat.le_of_ble_eq_true rfl) rfl) ?_
    refine WL.eff0 rfl rfl (e_store (vs := [(.int .i64 x_30980.fN), (.int .i64 x_30980.fD)]) (ds := [(.int .i64 x_30980.fN), (.int .i64 x_30980.fD)]) sizT_28 rfl rfl rfl rfl (oc_cons rfl (oc_cons rfl oc_nil)) (.there .here) (Nat.le_of_ble_eq_true rfl) rfl) ?_
    refine WL.nil ?_
    refine WX.then ?_
    obtain ⟨k_30993, hk_30994, h⟩ := jp4_elim h
    refine WC.seqMid4 (fun (c_30989 : Int) (c_30990 : Int) (c_30991 : Int) (c_30992 : Int) => (k_30993 c_30989 c_30990 c_30991 c_30992 = some r)) (fun (c_30989 : Int) (c_30990 : Int) (c_30991 : Int) (c_30992 : Int) => [(7, (.slice ao_30955 x_30950.length cap_30956)), (8, (.slice ao_30972 x_30961.1.length cap_30973)), (10, (.pointer (some ⟨b_30984, 0, none⟩))), (11, (.pointer (some ⟨b_30985, 0, none⟩)))]) (fun (c_30989 : Int) (c_30990 : Int) (c_30991 : Int) (c_30992 : Int) => [fz (Zn_30968 ++ Zn_30971), row (.slice ao_30972 x_30961.1.length cap_30973) 28 2 (x_30961.1.flatMap e28), stb b_30984 28 [(.int .i64 c_30989), (.int .i64 c_30990)], stb b_30985 28 [(.int .i64 c_30991), (.int .i64 c_30992)]]) ?_ ?_
    · skip
      refine WC.seq ?_
      obtain ⟨x_30995, hx_30996, h⟩ := bind_elim h
      refine WC.region ?_
      refine WL.quiet (d := 41) rfl rfl rfl (q_loadA (cs := [(.int .i64 x_30980.fN), (.int .i64 x_30980.fD)]) aggT_28 rfl rfl (rd_all .here)) ?_
      refine WL.quiet (d := 42) rfl rfl rfl (q_loadA (cs := [(.int .i64 x_30978.fN), (.int .i64 x_30978.fD)]) aggT_28 rfl rfl (rd_all (.there .here))) ?_
      refine WL.callD (dd := 43) rfl rfl rfl (run_call (l := [.tmp 41, .tmp 42]) Try.call17 (.cons rfl (.cons rfl .nil))) (.nil : Sel [stb b_30985 28 [(.int .i64 x_30980.fN), (.int .i64 x_30980.fD)], stb b_30984 28 [(.int .i64 x_30978.fN), (.int .i64 x_30978.fD)], fz (Zn_30968 ++ Zn_30971), row (.slice ao_30972 x_30961.1.length cap_30973) 28 2 (x_30961.1.flatMap e28)] [] [stb b_30985 28 [(.int .i64 x_30980.fN), (.int .i64 x_30980.fD)], stb b_30984 28 [(.int .i64 x_30978.fN), (.int .i64 x_30978.fD)], fz (Zn_30968 ++ Zn_30971), row (.slice ao_30972 x_30961.1.length cap_30973) 28 2 (x_30961.1.flatMap e28)]) (fun w hw => by have pz := (hz.call2 hw (.nil : Sel [stb b_30985 28 [(.int .i64 x_30980.fN), (.int .i64 x_30980.fD)], stb b_30984 28 [(.int .i64 x_30978.fN), (.int .i64 x_30978.fD)], fz (Zn_30968 ++ Zn_30971), row (.slice ao_30972 x_30961.1.length cap_30973) 28 2 (x_30961.1.flatMap e28)] [] [stb b_30985 28 [(.int .i64 x_30980.fN), (.int .i64 x_30980.fD)], stb b_30984 28 [(.int .i64 x_30978.fN), (.int .i64 x_30978.fD)], fz (Zn_30968 ++ Zn_30971), row (.slice ao_30972 x_30961.1.length cap_30973) 28 2 (x_30961.1.flatMap e28)]) (.there (.there .here))); exact w_rat_Cmp (Z := _)  (x_2033 := x_30980) (y_2034 := x_30978) (r := x_30995) w pz  hx_30996) ?_
      refine WL.quiet (d := 44) rfl rfl rfl (q_lss rfl rfl) ?_
      refine WL.nil ?_
      refine WX.then ?_
      refine WC.cond rfl (fun hb_30997 => ?_) (fun hb_30997 => ?_)
      · replace h := ite_t h hb_30997
        refine WC.region ?_
        refine WL.quiet (d := 45) rfl rfl rfl (q_loadA (cs := [(.int .i64 x_30980.fN), (.int .i64 x_30980.fD)]) aggT_28 rfl rfl (rd_all .here)) ?_
        refine WL.quiet (d := 46) rfl rfl rfl (q_loadA (cs := [(.int .i64 x_30978.fN), (.int .i64 x_30978.fD)]) aggT_28 rfl rfl (rd_all (.there .here))) ?_
        refine WL.eff0 rfl rfl (e_store (vs := [(.int .i64 x_30980.fN), (.int .i64 x_30980.fD)]) (ds := [(.int .i64 x_30980.fN), (.int .i64 x_30980.fD)]) sizT_28 rfl rfl rfl rfl (oc_cons rfl (oc_cons rfl oc_nil)) (.there .here) (Nat.le_of_ble_eq_true rfl) rfl) ?_
        refine WL.eff0 rfl rfl (e_store (vs := [(.int .i64 x_30978.fN), (.int .i64 x_30978.fD)]) (ds := [(.int .i64 x_30978.fN), (.int .i64 x_30978.fD)]) sizT_28 rfl rfl rfl rfl (oc_cons rfl (oc_cons rfl oc_nil)) (.there .here) (Nat.le_of_ble_eq_true rfl) rfl) ?_
        refine WL.nil ?_
        exact WX.mid (G := Int × Int × Int × Int) ⟨x_30980.fN, x_30980.fD, x_30978.fN, x_30978.fD⟩ h (.cons rfl (.cons rfl (.cons rfl (.cons rfl .nil)))) (.cons (.there (.there .here)) (.cons (.there (.there .here)) (.cons (.there .here) (.cons .here .nil))))
      · replace h := ite_f h hb_30997
        refine WC.skip ?_
        exact WX.mid (G := Int × Int × Int × Int) ⟨x_30978.fN, x_30978.fD, x_30980.fN, x_30980.fD⟩ h (.cons rfl (.cons rfl (.cons rfl (.cons rfl .nil)))) (.cons (.there (.there .here)) (.cons (.there (.there .here)) (.cons (.there .here) (.cons .here .nil))))
    · rintro c_30989 c_30990 c_30991 c_30992 h
      replace h := (hk_30994 c_30989 c_30990 c_30991 c_30992).symm.trans h
      obtain ⟨k_31344, hk_31345, h⟩ := jp0_elim h
      refine WC.seqMid0 ((k_31344 = some r)) ([(7, (.slice ao_30955 x_30950.length cap_30956)), (10, (.pointer (some ⟨b_30984, 0, none⟩))), (11, (.pointer (some ⟨b_30985, 0, none⟩)))]) ([fz (Zn_30968 ++ Zn_30971), stb b_30984 28 [(.int .i64 c_30989), (.int .i64 c_30990)], stb b_30985 28 [(.int .i64 c_30991), (.int .i64 c_30992)]]) ?_ ?_
      · skip
        refine WC.seq ?_
        refine WC.region ?_
        refine WL.quiet (d := 47) rfl rfl rfl (q_move rfl) ?_
        refine WL.quiet (d := 48) rfl rfl rfl (q_len Try.underlying44 rfl) ?_
        refine WL.quiet (d := 49) rfl rfl rfl (q_move rfl) ?_
        refine WL.nil ?_
        refine WX.then ?_
        refine WC.block ?_
        refine WC.loop4 (fun (n_31490 : Nat) (v_31489 : Int) (ao_31487 : Option Addr) (cap_31488 : Nat) => (m_law02_CurveBreaks_L2 x_30961 c_30989 c_30990 c_30991 c_30992 k_31344 n_31490 v_31489 = some r)) (fun (n_31490 : Nat) (v_31489 : Int) (ao_31487 : Option Addr) (cap_31488 : Nat) => [(7, (.slice ao_30955 x_30950.length cap_30956)), (8, (.slice ao_31487 x_30961.1.length cap_31488)), (10, (.pointer (some ⟨b_30984, 0, none⟩))), (11, (.pointer (some ⟨b_30985, 0, none⟩))), (47, (.slice ao_31487 x_30961.1.length cap_31488)), (48, (.int .i64 ((x_30961.1.length : Nat) : Int))), (49, (.int .i64 v_31489))]) (fun (n_31490 : Nat) (v_31489 : Int) (ao_31487 : Option Addr) (cap_31488 : Nat) => [fz (Zn_30968 ++ Zn_30971), row (.slice ao_31487 x_30961.1.length cap_31488) 28 2 (x_30961.1.flatMap e28), stb b_30984 28 [(.int .i64 c_30989), (.int .i64 c_30990)], stb b_30985 28 [(.int .i64 c_30991), (.int .i64 c_30992)]]) (fun (n_31490 : Nat) (v_31489 : Int) (ao_31487 : Option Addr) (cap_31488 : Nat) => n_31490) ⟨FUEL, 0, ao_30972, cap_30973⟩ h (.cons rfl (.cons rfl (.cons rfl (.cons rfl (.cons rfl (.cons rfl (.cons rfl .nil))))))) (.cons .here (.cons .here (.cons .here (.cons .here .nil)))) ?_
        rintro n_31490 v_31489 ao_31487 cap_31488 h
        obtain ⟨n_31491, rfl⟩ := m_law02_CurveBreaks_L2_fuel h
        rw [m_law02_CurveBreaks_L2] at h
        refine WC.seq ?_
        refine WC.region ?_
        refine WL.quiet (d := 50) rfl rfl rfl (q_lss rfl rfl) ?_
        refine WL.nil ?_
        refine WX.then ?_
        refine WC.seq ?_
        refine WC.cond rfl (fun hb_31493 => ?_) (fun hb_31493 => ?_)
        · replace h := ite_t h hb_31493
          refine WC.skip ?_
          refine WX.then ?_
          refine WC.seq ?_
          refine WC.block ?_
          refine WC.seq ?_
          obtain ⟨c_31562, h⟩ := chk_elim h
          refine WC.region ?_
          refine WL.quiet (d := 51) rfl rfl rfl (q_move rfl) ?_
          refine WL.know (fun w hw => Hp.expose (.there .here) hw (by intro hz'; have := c_31562; rw [hz'] at this; omega)) ?_
          rintro ⟨b_31565, rfl⟩
          refine WL.quiet (d := 52) rfl rfl rfl (q_indexAddr elT_44 rfl rfl c_31562.1 c_31562.2 rowAdd) ?_
          refine WL.quiet (d := 53) rfl rfl rfl (q_loadA (cs := (e28 (nth x_30961.1 v_31489))) aggT_28 rfl rfl (rd_rows (.there .here) (flat_rd (enc := e28) (l := x_30961.1) (i := v_31489) (sz := 2) (fun _ => rfl) c_31562.1 c_31562.2))) ?_
          refine WL.new (dd := 13) rfl rfl rfl (e_alloc (cs := [(.int .i64 0), (.int .i64 0)]) zeroT_28 rfl) ?_
          intro b_31566 _
          refine WL.quiet (d := 12) rfl rfl rfl (q_assign rfl) ?_
          refine WL.eff0 rfl rfl (e_store (vs := [(.int .i64 ((nth x_30961.1 v_31489).fN)), (.int .i64 ((nth x_30961.1 v_31489).fD))]) (ds := [(.int .i64 ((nth x_30961.1 v_31489).fN)), (.int .i64 ((nth x_30961.1 v_31489).fD))]) sizT_28 rfl rfl rfl rfl (oc_cons rfl (oc_cons rfl oc_nil)) .here (Nat.le_of_ble_eq_true rfl) rfl) ?_
          refine WL.nil ?_
          refine WX.then ?_
          refine WC.seq ?_
          refine WC.seq ?_
          obtain ⟨b_31595, hb_31596, h⟩ := bind_elim h
          refine WC.draw (fun i => [].contains i) [] rfl ?_
          refine WD.pure (i := 0) (d := 54) (by kernel_rfl) rfl (readyF_of (by kernel_rfl)) (freeF_of (by kernel_rfl)) rfl rfl rfl (fun _ => q_fieldAddr fo_28_0 rfl rfl) ?_
          refine WD.quiet (i := 1) (d := 55) (by kernel_rfl) rfl (readyF_of (by kernel_rfl)) (freeF_of (by kernel_rfl)) rfl rfl rfl (q_load1 oneT_3 rfl (rd_stb .here rfl)) ?_
          refine WD.pure (i := 2) (d := 56) (by kernel_rfl) rfl (readyF_of (by kernel_rfl)) (freeF_of (by kernel_rfl)) rfl rfl rfl (fun _ => q_leq rfl rfl) ?_
          refine WD.pure (i := 3) (d := 57) (by kernel_rfl) rfl (readyF_of (by kernel_rfl)) (freeF_of (by kernel_rfl)) rfl rfl rfl (fun _ => q_move rfl) ?_
          refine WD.mid (fuel' := 0) [(7, (.slice ao_30955 x_30950.length cap_30956)), (8, (.slice (some ⟨b_31565, 0, none⟩) x_30961.1.length cap_31488)), (10, (.pointer (some ⟨b_30984, 0, none⟩))), (11, (.pointer (some ⟨b_30985, 0, none⟩))), (47, (.slice (some ⟨b_31565, 0, none⟩) x_30961.1.length cap_31488)), (48, (.int .i64 ((x_30961.1.length : Nat) : Int))), (49, (.int .i64 v_31489)), (50, (.bool (decide (v_31489 < ((x_30961.1.length : Nat) : Int))))), (51, (.int .i64 v_31489)), (52, (.pointer (some ⟨b_31565, (v_31489 : Int).toNat * 2, none⟩))), (53, (.agg #[(.int .i64 ((nth x_30961.1 v_31489).fN)), (.int .i64 ((nth x_30961.1 v_31489).fD))])), (13, (.pointer (some ⟨b_31566, 0, none⟩))), (12, (.int .i64 v_31489)), (54, (.pointer (some ⟨b_31566, 0, none⟩))), (55, (.int .i64 ((nth x_30961.1 v_31489).fN))), (56, (.bool (decide (((nth x_30961.1 v_31489).fN) ≤ 0)))), (57, (.bool (decide (((nth x_30961.1 v_31489).fN) ≤ 0)))), (70, (.bool b_31595))] (listedA 17 [16, 15, 14, 13, 12, 11, 10, 9, 8, 7, 6, 5, 4, 3, 2, 1, 0]) ?_ (fun K_31602 => ?_)
          rotate_left
          · rcases Bool.eq_false_or_eq_true (decide (((nth x_30961.1 v_31489).fN) ≤ 0)) with hb' | hb'
            · have hg_31603 := hb'; clear hb'
              have hq_31604 := ite_t hb_31596 hg_31603
              replace hq_31604 := Option.some.inj hq_31604
              refine WD.pin (i := 57) rfl hg_31603 ?_
              refine WD.skip (i := 4) (d := 58) (by kernel_rfl) rfl (readyF_of (by kernel_rfl)) (freeF_of (by kernel_rfl)) rfl rfl rfl ?_
              refine WD.skip (i := 5) (d := 59) (by kernel_rfl) rfl (readyF_of (by kernel_rfl)) (freeF_of (by kernel_rfl)) rfl rfl rfl ?_
              refine WD.skip (i := 6) (d := 60) (by kernel_rfl) rfl (readyF_of (by kernel_rfl)) (freeF_of (by kernel_rfl)) rfl rfl rfl ?_
              refine WD.skip (i := 7) (d := 61) (by kernel_rfl) rfl (readyF_of (by kernel_rfl)) (freeF_of (by kernel_rfl)) rfl rfl rfl ?_
              refine WD.skip (i := 8) (d := 62) (by kernel_rfl) rfl (readyF_of (by kernel_rfl)) (freeF_of (by kernel_rfl)) rfl rfl rfl ?_
              refine WD.skip (i := 9) (d := 63) (by kernel_rfl) rfl (readyF_of (by kernel_rfl)) (freeF_of (by kernel_rfl)) rfl rfl rfl ?_
              refine WD.skip (i := 10) (d := 64) (by kernel_rfl) rfl (readyF_of (by kernel_rfl)) (freeF_of (by kernel_rfl)) rfl rfl rfl ?_
              refine WD.skip (i := 11) (d := 65) (by kernel_rfl) rfl (readyF_of (by kernel_rfl)) (freeF_of (by kernel_rfl)) rfl rfl rfl ?_
              refine WD.skip (i := 12) (d := 66) (by kernel_rfl) rfl (readyF_of (by kernel_rfl)) (freeF_of (by kernel_rfl)) rfl rfl rfl ?_
              refine WD.skip (i := 13) (d := 67) (by kernel_rfl) rfl (readyF_of (by kernel_rfl)) (freeF_of (by kernel_rfl)) rfl rfl rfl ?_
              refine WD.skip (i := 14) (d := 68) (by kernel_rfl) rfl (readyF_of (by kernel_rfl)) (freeF_of (by kernel_rfl)) rfl rfl rfl ?_
              refine WD.skip (i := 15) (d := 69) (by kernel_rfl) rfl (readyF_of (by kernel_rfl)) (freeF_of (by kernel_rfl)) rfl rfl rfl ?_
              refine WD.pure (i := 16) (d := 70) (by kernel_rfl) rfl (readyF_of (by kernel_rfl)) (freeF_of (by kernel_rfl)) rfl rfl rfl (fun _ => q_pickT rfl rfl) ?_
              refine WD.reL (.cons .here (.cons .here (.cons .here (.cons .here (.cons .here .nil))))) ?_ K_31602
              exact (.cons rfl (.cons rfl (.cons rfl (.cons rfl (.cons rfl (.cons rfl (.cons rfl (.cons rfl (.cons rfl (.cons rfl (.cons rfl (.cons rfl (.cons rfl (.cons rfl (.cons rfl (.cons rfl (.cons (some_bool (Eq.symm hg_31603)) (.cons (some_bool hq_31604) .nil))))))))))))))))))
            · have hg_31605 := hb'; clear hb'
              have hq_31606 := ite_f hb_31596 hg_31605
              obtain ⟨b_31593, hb_31594, hq_31606⟩ := bind_elim hq_31606
              replace hq_31606 := Option.some.inj hq_31606
              refine WD.pin (i := 57) rfl hg_31605 ?_
              refine WD.pure (i := 4) (d := 58) (by kernel_rfl) rfl (readyF_of (by kernel_rfl)) (freeF_of (by kernel_rfl)) rfl rfl rfl (fun _ => q_move rfl) ?_
              refine WD.pure (i := 5) (d := 59) (by kernel_rfl) rfl (readyF_of (by kernel_rfl)) (freeF_of (by kernel_rfl)) rfl rfl rfl (fun _ => q_gtr rfl rfl) ?_
              refine WD.pure (i := 6) (d := 60) (by kernel_rfl) rfl (readyF_of (by kernel_rfl)) (freeF_of (by kernel_rfl)) rfl rfl rfl (fun _ => q_move rfl) ?_
              refine WD.mid (fuel' := 1) [(7, (.slice ao_30955 x_30950.length cap_30956)), (8, (.slice (some ⟨b_31565, 0, none⟩) x_30961.1.length cap_31488)), (10, (.pointer (some ⟨b_30984, 0, none⟩))), (11, (.pointer (some ⟨b_30985, 0, none⟩))), (47, (.slice (some ⟨b_31565, 0, none⟩) x_30961.1.length cap_31488)), (48, (.int .i64 ((x_30961.1.length : Nat) : Int))), (49, (.int .i64 v_31489)), (50, (.bool (decide (v_31489 < ((x_30961.1.length : Nat) : Int))))), (51, (.int .i64 v_31489)), (52, (.pointer (some ⟨b_31565, (v_31489 : Int).toNat * 2, none⟩))), (53, (.agg #[(.int .i64 ((nth x_30961.1 v_31489).fN)), (.int .i64 ((nth x_30961.1 v_31489).fD))])), (13, (.pointer (some ⟨b_31566, 0, none⟩))), (12, (.int .i64 v_31489)), (54, (.pointer (some ⟨b_31566, 0, none⟩))), (55, (.int .i64 ((nth x_30961.1 v_31489).fN))), (56, (.bool (decide (((nth x_30961.1 v_31489).fN) ≤ 0)))), (57, (.bool false)), (58, (.int .i64 v_31489)), (59, (.bool (decide (v_31489 > 0)))), (60, (.bool (decide (v_31489 > 0)))), (69, (.bool b_31593))] (listedA 17 [15, 14, 13, 12, 11, 10, 9, 8, 7, 6, 5, 4, 3, 2, 1, 0]) ?_ (fun K_31607 => ?_)
              rotate_left
              · rcases Bool.eq_false_or_eq_true (decide (v_31489 > 0)) with hb' | hb'
                · have hg_31608 := hb'; clear hb'
                  have hq_31609 := ite_t hb_31594 hg_31608
                  obtain ⟨c_31590, hq_31609⟩ := chk_elim hq_31609
                  obtain ⟨x_31591, hx_31592, hq_31609⟩ := bind_elim hq_31609
                  replace hq_31609 := Option.some.inj hq_31609
                  refine WD.pin (i := 60) rfl hg_31608 ?_
                  refine WD.pure (i := 7) (d := 61) (by kernel_rfl) rfl (readyF_of (by kernel_rfl)) (freeF_of (by kernel_rfl)) rfl rfl rfl (fun _ => q_move rfl) ?_
                  refine WD.pure (i := 8) (d := 62) (by kernel_rfl) rfl (readyF_of (by kernel_rfl)) (freeF_of (by kernel_rfl)) rfl rfl rfl (fun _ => q_move rfl) ?_
                  refine WD.pure (i := 9) (d := 63) (by kernel_rfl) rfl (readyF_of (by kernel_rfl)) (freeF_of (by kernel_rfl)) rfl rfl rfl (fun _ => q_sub rfl rfl rfl) ?_
                  refine WD.pure (i := 10) (d := 64) (by kernel_rfl) rfl (readyF_of (by kernel_rfl)) (freeF_of (by kernel_rfl)) rfl rfl rfl (fun _ => q_indexAddr elT_44 rfl rfl c_31590.1 c_31590.2 rowAdd) ?_
                  refine WD.quiet (i := 11) (d := 65) (by kernel_rfl) rfl (readyF_of (by kernel_rfl)) (freeF_of (by kernel_rfl)) rfl rfl rfl (q_loadA (cs := (e28 (nth x_30961.1 (i64 (v_31489 - 1))))) aggT_28 rfl rfl (rd_rows (.there (.there .here)) (flat_rd (enc := e28) (l := x_30961.1) (i := i64 (v_31489 - 1)) (sz := 2) (fun _ => rfl) c_31590.1 c_31590.2))) ?_
                  refine WD.quiet (i := 12) (d := 66) (by kernel_rfl) rfl (readyF_of (by kernel_rfl)) (freeF_of (by kernel_rfl)) rfl rfl rfl (q_loadA (cs := [(.int .i64 ((nth x_30961.1 v_31489).fN)), (.int .i64 ((nth x_30961.1 v_31489).fD))]) aggT_28 rfl rfl (rd_all .here)) ?_
                  refine WD.enter (i := 13) (d := 67) (by kernel_rfl) rfl (readyF_of (by kernel_rfl)) (freeF_of (by kernel_rfl)) rfl rfl rfl (run_call (l := [.tmp 65, .tmp 66]) Try.call17 (.cons rfl (.cons rfl .nil))) (fun w hw => by have pz := (hz.call2 hw (.nil : Sel [stb b_31566 28 [(.int .i64 ((nth x_30961.1 v_31489).fN)), (.int .i64 ((nth x_30961.1 v_31489).fD))], fz (Zn_30968 ++ Zn_30971), row (.slice (some ⟨b_31565, 0, none⟩) x_30961.1.length cap_31488) 28 2 (x_30961.1.flatMap e28), stb b_30984 28 [(.int .i64 c_30989), (.int .i64 c_30990)], stb b_30985 28 [(.int .i64 c_30991), (.int .i64 c_30992)]] [] [stb b_31566 28 [(.int .i64 ((nth x_30961.1 v_31489).fN)), (.int .i64 ((nth x_30961.1 v_31489).fD))], fz (Zn_30968 ++ Zn_30971), row (.slice (some ⟨b_31565, 0, none⟩) x_30961.1.length cap_31488) 28 2 (x_30961.1.flatMap e28), stb b_30984 28 [(.int .i64 c_30989), (.int .i64 c_30990)], stb b_30985 28 [(.int .i64 c_30991), (.int .i64 c_30992)]]) (.there .here)); exact w_rat_Cmp (Z := _)  (x_2033 := (⟨((nth x_30961.1 (i64 (v_31489 - 1))).fN), ((nth x_30961.1 (i64 (v_31489 - 1))).fD)⟩ : Sapi_Rat)) (y_2034 := (⟨((nth x_30961.1 v_31489).fN), ((nth x_30961.1 v_31489).fD)⟩ : Sapi_Rat)) (r := x_31591) w pz  hx_31592) ?_
                  refine WD.pure (i := 14) (d := 68) (by kernel_rfl) rfl (readyF_of (by kernel_rfl)) (freeF_of (by kernel_rfl)) rfl rfl rfl (fun _ => q_geq rfl rfl) ?_
                  refine WD.pure (i := 15) (d := 69) (by kernel_rfl) rfl (readyF_of (by kernel_rfl)) (freeF_of (by kernel_rfl)) rfl rfl rfl (fun _ => q_pickT rfl rfl) ?_
                  refine WD.reL (.cons .here (.cons .here (.cons .here (.cons .here (.cons .here .nil))))) ?_ K_31607
                  exact (.cons rfl (.cons rfl (.cons rfl (.cons rfl (.cons rfl (.cons rfl (.cons rfl (.cons rfl (.cons rfl (.cons rfl (.cons rfl (.cons rfl (.cons rfl (.cons rfl (.cons rfl (.cons rfl (.cons rfl (.cons rfl (.cons rfl (.cons (some_bool (Eq.symm hg_31608)) (.cons (some_bool hq_31609) .nil)))))))))))))))))))))
                · have hg_31610 := hb'; clear hb'
                  have hq_31611 := ite_f hb_31594 hg_31610
                  replace hq_31611 := Option.some.inj hq_31611
                  refine WD.pin (i := 60) rfl hg_31610 ?_
                  refine WD.skip (i := 7) (d := 61) (by kernel_rfl) rfl (readyF_of (by kernel_rfl)) (freeF_of (by kernel_rfl)) rfl rfl rfl ?_
                  refine WD.skip (i := 8) (d := 62) (by kernel_rfl) rfl (readyF_of (by kernel_rfl)) (freeF_of (by kernel_rfl)) rfl rfl rfl ?_
                  refine WD.skip (i := 9) (d := 63) (by kernel_rfl) rfl (readyF_of (by kernel_rfl)) (freeF_of (by kernel_rfl)) rfl rfl rfl ?_
                  refine WD.skip (i := 10) (d := 64) (by kernel_rfl) rfl (readyF_of (by kernel_rfl)) (freeF_of (by kernel_rfl)) rfl rfl rfl ?_
                  refine WD.skip (i := 11) (d := 65) (by kernel_rfl) rfl (readyF_of (by kernel_rfl)) (freeF_of (by kernel_rfl)) rfl rfl rfl ?_
                  refine WD.skip (i := 12) (d := 66) (by kernel_rfl) rfl (readyF_of (by kernel_rfl)) (freeF_of (by kernel_rfl)) rfl rfl rfl ?_
                  refine WD.skip (i := 13) (d := 67) (by kernel_rfl) rfl (readyF_of (by kernel_rfl)) (freeF_of (by kernel_rfl)) rfl rfl rfl ?_
                  refine WD.skip (i := 14) (d := 68) (by kernel_rfl) rfl (readyF_of (by kernel_rfl)) (freeF_of (by kernel_rfl)) rfl rfl rfl ?_
                  refine WD.pure (i := 15) (d := 69) (by kernel_rfl) rfl (readyF_of (by kernel_rfl)) (freeF_of (by kernel_rfl)) rfl rfl rfl (fun _ => q_pickF rfl rfl) ?_
                  refine WD.reL (.cons .here (.cons .here (.cons .here (.cons .here (.cons .here .nil))))) ?_ K_31607
                  exact (.cons rfl (.cons rfl (.cons rfl (.cons rfl (.cons rfl (.cons rfl (.cons rfl (.cons rfl (.cons rfl (.cons rfl (.cons rfl (.cons rfl (.cons rfl (.cons rfl (.cons rfl (.cons rfl (.cons rfl (.cons rfl (.cons rfl (.cons (some_bool (Eq.symm hg_31610)) (.cons (some_bool hq_31611) .nil)))))))))))))))))))))
              refine WD.pure (i := 16) (d := 70) (by kernel_rfl) rfl (readyF_of (by kernel_rfl)) (freeF_of (by kernel_rfl)) rfl rfl rfl (fun _ => q_pickF rfl rfl) ?_
              refine WD.reL (.cons .here (.cons .here (.cons .here (.cons .here (.cons .here .nil))))) ?_ K_31602
              exact (.cons rfl (.cons rfl (.cons rfl (.cons rfl (.cons rfl (.cons rfl (.cons rfl (.cons rfl (.cons rfl (.cons rfl (.cons rfl (.cons rfl (.cons rfl (.cons rfl (.cons rfl (.cons rfl (.cons (some_bool (Eq.symm hg_31605)) (.cons (some_bool hq_31606) .nil))))))))))))))))))
          refine WD.done (by kernel_rfl) ?_
          refine WX.then ?_
          refine WC.cond rfl (fun hb_31612 => ?_) (fun hb_31612 => ?_)
          · replace h := ite_t h hb_31612
            refine WC.seq ?_
            refine WC.region ?_
            refine WL.quiet (d := 6) rfl rfl rfl (q_assign rfl) ?_
            refine WL.nil ?_
            refine WX.then ?_
            refine WC.ret ?_
            refine WX.thenRet ?_
            refine WX.blockRet ?_
            refine WX.thenRet ?_
            refine WX.thenRet ?_
            refine WX.blockRet ?_
            refine WX.thenRet ?_
            obtain rfl := Option.some.inj h
            refine WX.bpRet Try.results5 (.tmp rfl .nil) (fun w hw => ?_)
            exact ⟨(Zn_30968 ++ Zn_30971), ret1 rfl, trivial, hw.sub (.cons (.there .here) .nil)⟩
          · replace h := ite_f h hb_31612
            refine WC.skip ?_
            refine WX.then ?_
            refine WC.seq ?_
            obtain ⟨x_31613, hx_31614, h⟩ := bind_elim h
            obtain ⟨b_31617, hb_31618, h⟩ := bind_elim h
            refine WC.region ?_
            refine WL.quiet (d := 71) rfl rfl rfl (q_loadA (cs := [(.int .i64 ((nth x_30961.1 v_31489).fN)), (.int .i64 ((nth x_30961.1 v_31489).fD))]) aggT_28 rfl rfl (rd_all .here)) ?_
            refine WL.quiet (d := 72) rfl rfl rfl (q_loadA (cs := [(.int .i64 c_30989), (.int .i64 c_30990)]) aggT_28 rfl rfl (rd_all (.there (.there (.there .here))))) ?_
            refine WL.callD (dd := 73) rfl rfl rfl (run_call (l := [.tmp 71, .tmp 72]) Try.call17 (.cons rfl (.cons rfl .nil))) (.nil : Sel [stb b_31566 28 [(.int .i64 ((nth x_30961.1 v_31489).fN)), (.int .i64 ((nth x_30961.1 v_31489).fD))], fz (Zn_30968 ++ Zn_30971), row (.slice (some ⟨b_31565, 0, none⟩) x_30961.1.length cap_31488) 28 2 (x_30961.1.flatMap e28), stb b_30984 28 [(.int .i64 c_30989), (.int .i64 c_30990)], stb b_30985 28 [(.int .i64 c_30991), (.int .i64 c_30992)]] [] [stb b_31566 28 [(.int .i64 ((nth x_30961.1 v_31489).fN)), (.int .i64 ((nth x_30961.1 v_31489).fD))], fz (Zn_30968 ++ Zn_30971), row (.slice (some ⟨b_31565, 0, none⟩) x_30961.1.length cap_31488) 28 2 (x_30961.1.flatMap e28), stb b_30984 28 [(.int .i64 c_30989), (.int .i64 c_30990)], stb b_30985 28 [(.int .i64 c_30991), (.int .i64 c_30992)]]) (fun w hw => by have pz := (hz.call2 hw (.nil : Sel [stb b_31566 28 [(.int .i64 ((nth x_30961.1 v_31489).fN)), (.int .i64 ((nth x_30961.1 v_31489).fD))], fz (Zn_30968 ++ Zn_30971), row (.slice (some ⟨b_31565, 0, none⟩) x_30961.1.length cap_31488) 28 2 (x_30961.1.flatMap e28), stb b_30984 28 [(.int .i64 c_30989), (.int .i64 c_30990)], stb b_30985 28 [(.int .i64 c_30991), (.int .i64 c_30992)]] [] [stb b_31566 28 [(.int .i64 ((nth x_30961.1 v_31489).fN)), (.int .i64 ((nth x_30961.1 v_31489).fD))], fz (Zn_30968 ++ Zn_30971), row (.slice (some ⟨b_31565, 0, none⟩) x_30961.1.length cap_31488) 28 2 (x_30961.1.flatMap e28), stb b_30984 28 [(.int .i64 c_30989), (.int .i64 c_30990)], stb b_30985 28 [(.int .i64 c_30991), (.int .i64 c_30992)]]) (.there .here)); exact w_rat_Cmp (Z := _)  (x_2033 := (⟨((nth x_30961.1 v_31489).fN), ((nth x_30961.1 v_31489).fD)⟩ : Sapi_Rat)) (y_2034 := (⟨c_30989, c_30990⟩ : Sapi_Rat)) (r := x_31613) w pz  hx_31614) ?_
            refine WL.quiet (d := 74) rfl rfl rfl (q_gtr rfl rfl) ?_
            refine WL.quiet (d := 75) rfl rfl rfl (q_move rfl) ?_
            refine WL.cut0 True [(7, (.slice ao_30955 x_30950.length cap_30956)), (8, (.slice (some ⟨b_31565, 0, none⟩) x_30961.1.length cap_31488)), (10, (.pointer (some ⟨b_30984, 0, none⟩))), (11, (.pointer (some ⟨b_30985, 0, none⟩))), (47, (.slice (some ⟨b_31565, 0, none⟩) x_30961.1.length cap_31488)), (48, (.int .i64 ((x_30961.1.length : Nat) : Int))), (49, (.int .i64 v_31489)), (80, (.bool b_31617))] [stb b_31566 28 [(.int .i64 ((nth x_30961.1 v_31489).fN)), (.int .i64 ((nth x_30961.1 v_31489).fD))], fz (Zn_30968 ++ Zn_30971), row (.slice (some ⟨b_31565, 0, none⟩) x_30961.1.length cap_31488) 28 2 (x_30961.1.flatMap e28), stb b_30984 28 [(.int .i64 c_30989), (.int .i64 c_30990)], stb b_30985 28 [(.int .i64 c_30991), (.int .i64 c_30992)]] 5 ?_ (fun _ => ?_)
            · rcases Bool.eq_false_or_eq_true (decide (x_31613 > 0)) with hb' | hb'
              · have hg_31619 := hb'; clear hb'
                have hq_31620 := ite_t hb_31618 hg_31619
                obtain ⟨x_31615, hx_31616, hq_31620⟩ := bind_elim hq_31620
                replace hq_31620 := Option.some.inj hq_31620
                refine WL.pin (i := 75) rfl hg_31619 ?_
                refine WL.quiet (d := 76) rfl rfl rfl (q_loadA (cs := [(.int .i64 ((nth x_30961.1 v_31489).fN)), (.int .i64 ((nth x_30961.1 v_31489).fD))]) aggT_28 rfl rfl (rd_all .here)) ?_
                refine WL.quiet (d := 77) rfl rfl rfl (q_loadA (cs := [(.int .i64 c_30991), (.int .i64 c_30992)]) aggT_28 rfl rfl (rd_all (.there (.there (.there (.there .here)))))) ?_
                refine WL.callD (dd := 78) rfl rfl rfl (run_call (l := [.tmp 76, .tmp 77]) Try.call17 (.cons rfl (.cons rfl .nil))) (.nil : Sel [stb b_31566 28 [(.int .i64 ((nth x_30961.1 v_31489).fN)), (.int .i64 ((nth x_30961.1 v_31489).fD))], fz (Zn_30968 ++ Zn_30971), row (.slice (some ⟨b_31565, 0, none⟩) x_30961.1.length cap_31488) 28 2 (x_30961.1.flatMap e28), stb b_30984 28 [(.int .i64 c_30989), (.int .i64 c_30990)], stb b_30985 28 [(.int .i64 c_30991), (.int .i64 c_30992)]] [] [stb b_31566 28 [(.int .i64 ((nth x_30961.1 v_31489).fN)), (.int .i64 ((nth x_30961.1 v_31489).fD))], fz (Zn_30968 ++ Zn_30971), row (.slice (some ⟨b_31565, 0, none⟩) x_30961.1.length cap_31488) 28 2 (x_30961.1.flatMap e28), stb b_30984 28 [(.int .i64 c_30989), (.int .i64 c_30990)], stb b_30985 28 [(.int .i64 c_30991), (.int .i64 c_30992)]]) (fun w hw => by have pz := (hz.call2 hw (.nil : Sel [stb b_31566 28 [(.int .i64 ((nth x_30961.1 v_31489).fN)), (.int .i64 ((nth x_30961.1 v_31489).fD))], fz (Zn_30968 ++ Zn_30971), row (.slice (some ⟨b_31565, 0, none⟩) x_30961.1.length cap_31488) 28 2 (x_30961.1.flatMap e28), stb b_30984 28 [(.int .i64 c_30989), (.int .i64 c_30990)], stb b_30985 28 [(.int .i64 c_30991), (.int .i64 c_30992)]] [] [stb b_31566 28 [(.int .i64 ((nth x_30961.1 v_31489).fN)), (.int .i64 ((nth x_30961.1 v_31489).fD))], fz (Zn_30968 ++ Zn_30971), row (.slice (some ⟨b_31565, 0, none⟩) x_30961.1.length cap_31488) 28 2 (x_30961.1.flatMap e28), stb b_30984 28 [(.int .i64 c_30989), (.int .i64 c_30990)], stb b_30985 28 [(.int .i64 c_30991), (.int .i64 c_30992)]]) (.there .here)); exact w_rat_Cmp (Z := _)  (x_2033 := (⟨((nth x_30961.1 v_31489).fN), ((nth x_30961.1 v_31489).fD)⟩ : Sapi_Rat)) (y_2034 := (⟨c_30991, c_30992⟩ : Sapi_Rat)) (r := x_31615) w pz  hx_31616) ?_
                refine WL.quiet (d := 79) rfl rfl rfl (q_lss rfl rfl) ?_
                refine WL.quiet (d := 80) rfl rfl rfl (q_pickT rfl rfl) ?_
                exact WL.cutEnd () trivial (.cons rfl (.cons rfl (.cons rfl (.cons rfl (.cons rfl (.cons rfl (.cons rfl (.cons (some_bool hq_31620) .nil)))))))) (.cons .here (.cons .here (.cons .here (.cons .here (.cons .here .nil)))))
              · have hg_31621 := hb'; clear hb'
                have hq_31622 := ite_f hb_31618 hg_31621
                replace hq_31622 := Option.some.inj hq_31622
                refine WL.pin (i := 75) rfl hg_31621 ?_
                refine WL.skip rfl rfl rfl ?_
                refine WL.skip rfl rfl rfl ?_
                refine WL.skip rfl rfl rfl ?_
                refine WL.skip rfl rfl rfl ?_
                refine WL.quiet (d := 80) rfl rfl rfl (q_pickF rfl rfl) ?_
                exact WL.cutEnd () trivial (.cons rfl (.cons rfl (.cons rfl (.cons rfl (.cons rfl (.cons rfl (.cons rfl (.cons (some_bool hq_31622) .nil)))))))) (.cons .here (.cons .here (.cons .here (.cons .here (.cons .here .nil)))))
            · skip
              refine WL.nil ?_
              refine WX.then ?_
              refine WC.cond rfl (fun hb_31623 => ?_) (fun hb_31623 => ?_)
              · replace h := ite_t h hb_31623
                refine WC.seq ?_
                obtain ⟨x_31624, hx_31625, h⟩ := bind_elim h
                refine WC.region ?_
                refine WL.enter1 (dd := 81) rfl rfl rfl (run_call (l := []) Try.call18 .nil) (.nil : Sel [stb b_31566 28 [(.int .i64 ((nth x_30961.1 v_31489).fN)), (.int .i64 ((nth x_30961.1 v_31489).fD))], fz (Zn_30968 ++ Zn_30971), row (.slice (some ⟨b_31565, 0, none⟩) x_30961.1.length cap_31488) 28 2 (x_30961.1.flatMap e28), stb b_30984 28 [(.int .i64 c_30989), (.int .i64 c_30990)], stb b_30985 28 [(.int .i64 c_30991), (.int .i64 c_30992)]] [] [stb b_31566 28 [(.int .i64 ((nth x_30961.1 v_31489).fN)), (.int .i64 ((nth x_30961.1 v_31489).fD))], fz (Zn_30968 ++ Zn_30971), row (.slice (some ⟨b_31565, 0, none⟩) x_30961.1.length cap_31488) 28 2 (x_30961.1.flatMap e28), stb b_30984 28 [(.int .i64 c_30989), (.int .i64 c_30990)], stb b_30985 28 [(.int .i64 c_30991), (.int .i64 c_30992)]]) (fun w hw => by have pz := (hz.call2 hw (.nil : Sel [stb b_31566 28 [(.int .i64 ((nth x_30961.1 v_31489).fN)), (.int .i64 ((nth x_30961.1 v_31489).fD))], fz (Zn_30968 ++ Zn_30971), row (.slice (some ⟨b_31565, 0, none⟩) x_30961.1.length cap_31488) 28 2 (x_30961.1.flatMap e28), stb b_30984 28 [(.int .i64 c_30989), (.int .i64 c_30990)], stb b_30985 28 [(.int .i64 c_30991), (.int .i64 c_30992)]] [] [stb b_31566 28 [(.int .i64 ((nth x_30961.1 v_31489).fN)), (.int .i64 ((nth x_30961.1 v_31489).fD))], fz (Zn_30968 ++ Zn_30971), row (.slice (some ⟨b_31565, 0, none⟩) x_30961.1.length cap_31488) 28 2 (x_30961.1.flatMap e28), stb b_30984 28 [(.int .i64 c_30989), (.int .i64 c_30990)], stb b_30985 28 [(.int .i64 c_30991), (.int .i64 c_30992)]]) (.there .here)); exact w_law02_awake (Z := _)   (r := x_31624) w pz  hx_31625) ?_
                rintro Zn_31628 _
                refine WL.merge .here (.there .here) ?_
                refine WL.quiet (d := 6) rfl rfl rfl (q_assign rfl) ?_
                refine WL.nil ?_
                refine WX.then ?_
                refine WC.ret ?_
                refine WX.blockRet ?_
                refine WX.thenRet ?_
                refine WX.thenRet ?_
                refine WX.blockRet ?_
                refine WX.thenRet ?_
                obtain rfl := Option.some.inj h
                refine WX.bpRet Try.results5 (.tmp rfl .nil) (fun w hw => ?_)
                exact ⟨((Zn_30968 ++ Zn_30971) ++ Zn_31628), ret1 rfl, trivial, hw.sub (.cons .here .nil)⟩
              · replace h := ite_f h hb_31623
                refine WC.skip ?_
                refine WX.blockNormal ?_
                refine WX.then ?_
                refine WC.region ?_
                refine WL.quiet (d := 82) rfl rfl rfl (q_add rfl rfl rfl) ?_
                refine WL.quiet (d := 49) rfl rfl rfl (q_move rfl) ?_
                refine WL.nil ?_
                exact WX.round (G := Nat × Int × Option Addr × Nat) ⟨n_31491, (i64 (v_31489 + 1)), (some ⟨b_31565, 0, none⟩), cap_31488⟩ h (Nat.lt_succ_self _) (.cons rfl (.cons rfl (.cons rfl (.cons rfl (.cons rfl (.cons rfl (.cons rfl .nil))))))) (.cons (.there .here) (.cons (.there .here) (.cons (.there .here) (.cons (.there .here) .nil))))
        · replace h := ite_f h hb_31493
          refine WC.exit ?_
          refine WX.thenExit ?_
          refine WX.thenExit ?_
          refine WX.blockHit ?_
          exact WX.mid (G := Unit) () h (.cons rfl (.cons rfl (.cons rfl .nil))) (.cons .here (.cons (.there .here) (.cons (.there .here) .nil)))
      · rintro  h
        replace h := hk_31345.symm.trans h
        refine WC.seq ?_
        obtain ⟨x_31630, hx_31631, h⟩ := bind_elim h
        refine WC.region ?_
        refine WL.quiet (d := 84) rfl rfl rfl (q_loadA (cs := [(.int .i64 c_30989), (.int .i64 c_30990)]) aggT_28 rfl rfl (rd_all (.there .here))) ?_
        refine WL.quiet (d := 85) rfl rfl rfl (q_loadA (cs := [(.int .i64 c_30991), (.int .i64 c_30992)]) aggT_28 rfl rfl (rd_all (.there (.there .here)))) ?_
        refine WL.callD (dd := 86) rfl rfl rfl (run_call (l := [.tmp 84, .tmp 85]) Try.call12 (.cons rfl (.cons rfl .nil))) (.nil : Sel [fz (Zn_30968 ++ Zn_30971), stb b_30984 28 [(.int .i64 c_30989), (.int .i64 c_30990)], stb b_30985 28 [(.int .i64 c_30991), (.int .i64 c_30992)]] [] [fz (Zn_30968 ++ Zn_30971), stb b_30984 28 [(.int .i64 c_30989), (.int .i64 c_30990)], stb b_30985 28 [(.int .i64 c_30991), (.int .i64 c_30992)]]) (fun w hw => by have pz := (hz.call2 hw (.nil : Sel [fz (Zn_30968 ++ Zn_30971), stb b_30984 28 [(.int .i64 c_30989), (.int .i64 c_30990)], stb b_30985 28 [(.int .i64 c_30991), (.int .i64 c_30992)]] [] [fz (Zn_30968 ++ Zn_30971), stb b_30984 28 [(.int .i64 c_30989), (.int .i64 c_30990)], stb b_30985 28 [(.int .i64 c_30991), (.int .i64 c_30992)]]) .here); exact w_rat_Add (Z := _)  (x_1002 := (⟨c_30989, c_30990⟩ : Sapi_Rat)) (y_1003 := (⟨c_30991, c_30992⟩ : Sapi_Rat)) (r := x_31630) w pz  hx_31631) ?_
        refine WL.quiet (d := 83) rfl rfl rfl (q_move rfl) ?_
        refine WL.quiet (d := 87) rfl rfl rfl (q_extract rfl rfl) ?_
        refine WL.quiet (d := 88) rfl rfl rfl (q_extract rfl rfl) ?_
        refine WL.new (dd := 14) rfl rfl rfl (e_alloc (cs := [(.int .i64 0), (.int .i64 0)]) zeroT_28 rfl) ?_
        intro b_31633 _
        refine WL.eff0 rfl rfl (e_store (vs := [(.int .i64 x_31630.1.fN), (.int .i64 x_31630.1.fD)]) (ds := [(.int .i64 x_31630.1.fN), (.int .i64 x_31630.1.fD)]) sizT_28 rfl rfl rfl rfl (oc_cons rfl (oc_cons rfl oc_nil)) .here (Nat.le_of_ble_eq_true rfl) rfl) ?_
        refine WL.quiet (d := 15) rfl rfl rfl (q_assign rfl) ?_
        refine WL.nil ?_
        refine WX.then ?_
        refine WC.seq ?_
        obtain ⟨x_31634, hx_31635, h⟩ := bind_elim h
        obtain ⟨x_31636, hx_31637, h⟩ := bind_elim h
        refine WC.draw (fun i => [7].contains i) [] rfl ?_
        refine WD.quiet (i := 0) (d := 90) (by kernel_rfl) rfl (readyF_of (by kernel_rfl)) (freeF_of (by kernel_rfl)) rfl rfl rfl (q_loadA (cs := [(.int .i64 x_31630.1.fN), (.int .i64 x_31630.1.fD)]) aggT_28 rfl rfl (rd_all .here)) ?_
        refine WD.enter (i := 1) (d := 91) (by kernel_rfl) rfl (readyF_of (by kernel_rfl)) (freeF_of (by kernel_rfl)) rfl rfl rfl (run_call (l := [.const (.int .i64 2), .const (.int .i64 1)]) Try.call22 (.cons rfl (.cons rfl .nil))) (fun w hw => by have pz := (hz.call2 hw (.nil : Sel [stb b_31633 28 [(.int .i64 x_31630.1.fN), (.int .i64 x_31630.1.fD)], fz (Zn_30968 ++ Zn_30971), stb b_30984 28 [(.int .i64 c_30989), (.int .i64 c_30990)], stb b_30985 28 [(.int .i64 c_30991), (.int .i64 c_30992)]] [] [stb b_31633 28 [(.int .i64 x_31630.1.fN), (.int .i64 x_31630.1.fD)], fz (Zn_30968 ++ Zn_30971), stb b_30984 28 [(.int .i64 c_30989), (.int .i64 c_30990)], stb b_30985 28 [(.int .i64 c_30991), (.int .i64 c_30992)]]) (.there .here)); exact w_law02_num (Z := _)  (n_528 := 2) (d_529 := 1) (r := x_31634) w pz  hx_31635) ?_
        refine WD.enter (i := 2) (d := 92) (by kernel_rfl) rfl (readyF_of (by kernel_rfl)) (freeF_of (by kernel_rfl)) rfl rfl rfl (run_call (l := [.tmp 90, .tmp 91]) Try.call21 (.cons rfl (.cons rfl .nil))) (fun w hw => by have pz := (hz.call2 hw (.nil : Sel [stb b_31633 28 [(.int .i64 x_31630.1.fN), (.int .i64 x_31630.1.fD)], fz (Zn_30968 ++ Zn_30971), stb b_30984 28 [(.int .i64 c_30989), (.int .i64 c_30990)], stb b_30985 28 [(.int .i64 c_30991), (.int .i64 c_30992)]] [] [stb b_31633 28 [(.int .i64 x_31630.1.fN), (.int .i64 x_31630.1.fD)], fz (Zn_30968 ++ Zn_30971), stb b_30984 28 [(.int .i64 c_30989), (.int .i64 c_30990)], stb b_30985 28 [(.int .i64 c_30991), (.int .i64 c_30992)]]) (.there .here)); exact w_rat_Div (Z := _)  (x_9723 := x_31630.1) (y_9724 := x_31634) (r := x_31636) w pz  hx_31637) ?_
        refine WD.pure (i := 3) (d := 89) (by kernel_rfl) rfl (readyF_of (by kernel_rfl)) (freeF_of (by kernel_rfl)) rfl rfl rfl (fun _ => q_move rfl) ?_
        refine WD.pure (i := 4) (d := 93) (by kernel_rfl) rfl (readyF_of (by kernel_rfl)) (freeF_of (by kernel_rfl)) rfl rfl rfl (fun _ => q_extract rfl rfl) ?_
        refine WD.pure (i := 5) (d := 94) (by kernel_rfl) rfl (readyF_of (by kernel_rfl)) (freeF_of (by kernel_rfl)) rfl rfl rfl (fun _ => q_extract rfl rfl) ?_
        refine WD.new (i := 6) (dd := 16) rfl (by kernel_rfl) rfl rfl rfl (e_alloc (cs := [(.int .i64 0), (.int .i64 0)]) zeroT_28 rfl) (fun h' => absurd h' (by decide)) ?_
        intro b_31640 _
        refine WD.forced0 (i := 7) rfl (by kernel_rfl) rfl rfl rfl (Sin.of .nil) (e_store (vs := [(.int .i64 x_31636.1.fN), (.int .i64 x_31636.1.fD)]) (ds := [(.int .i64 x_31636.1.fN), (.int .i64 x_31636.1.fD)]) sizT_28 rfl rfl rfl rfl (oc_cons rfl (oc_cons rfl oc_nil)) .here (Nat.le_of_ble_eq_true rfl) rfl) ?_
        refine WD.pure (i := 8) (d := 17) (by kernel_rfl) rfl (readyF_of (by kernel_rfl)) (freeF_of (by kernel_rfl)) rfl rfl rfl (fun _ => q_assign rfl) ?_
        refine WD.done (by kernel_rfl) ?_
        refine WX.then ?_
        refine WC.seq ?_
        obtain ⟨x_31641, hx_31642, h⟩ := bind_elim h
        refine WC.region ?_
        refine WL.quiet (d := 96) rfl rfl rfl (q_move rfl) ?_
        refine WL.quiet (d := 97) rfl rfl rfl (q_loadA (cs := [(.int .i64 c_30989), (.int .i64 c_30990)]) aggT_28 rfl rfl (rd_all (.there (.there (.there .here))))) ?_
        refine WL.callD (dd := 98) rfl rfl rfl (run_call (l := [.tmp 96, .tmp 97]) Try.call13 (.cons rfl (.cons rfl .nil))) (.nil : Sel [stb b_31640 28 [(.int .i64 x_31636.1.fN), (.int .i64 x_31636.1.fD)], stb b_31633 28 [(.int .i64 x_31630.1.fN), (.int .i64 x_31630.1.fD)], fz (Zn_30968 ++ Zn_30971), stb b_30984 28 [(.int .i64 c_30989), (.int .i64 c_30990)], stb b_30985 28 [(.int .i64 c_30991), (.int .i64 c_30992)]] [] [stb b_31640 28 [(.int .i64 x_31636.1.fN), (.int .i64 x_31636.1.fD)], stb b_31633 28 [(.int .i64 x_31630.1.fN), (.int .i64 x_31630.1.fD)], fz (Zn_30968 ++ Zn_30971), stb b_30984 28 [(.int .i64 c_30989), (.int .i64 c_30990)], stb b_30985 28 [(.int .i64 c_30991), (.int .i64 c_30992)]]) (fun w hw => by have pz := (hz.call2 hw (.nil : Sel [stb b_31640 28 [(.int .i64 x_31636.1.fN), (.int .i64 x_31636.1.fD)], stb b_31633 28 [(.int .i64 x_31630.1.fN), (.int .i64 x_31630.1.fD)], fz (Zn_30968 ++ Zn_30971), stb b_30984 28 [(.int .i64 c_30989), (.int .i64 c_30990)], stb b_30985 28 [(.int .i64 c_30991), (.int .i64 c_30992)]] [] [stb b_31640 28 [(.int .i64 x_31636.1.fN), (.int .i64 x_31636.1.fD)], stb b_31633 28 [(.int .i64 x_31630.1.fN), (.int .i64 x_31630.1.fD)], fz (Zn_30968 ++ Zn_30971), stb b_30984 28 [(.int .i64 c_30989), (.int .i64 c_30990)], stb b_30985 28 [(.int .i64 c_30991), (.int .i64 c_30992)]]) (.there (.there .here))); exact w_law02_at (Z := _) (ao_1169 := ao_30955) (cap_1170 := cap_30956) (c_1168 := x_30950) (t_1172 := (⟨c_30989, c_30990⟩ : Sapi_Rat)) (r := x_31641) w pz (hf_30970.mono ((Zle.left _ _).trans (Zle.assoc _ _ _))) hx_31642) ?_
        refine WL.quiet (d := 95) rfl rfl rfl (q_move rfl) ?_
        refine WL.quiet (d := 99) rfl rfl rfl (q_extract rfl rfl) ?_
        refine WL.quiet (d := 100) rfl rfl rfl (q_extract rfl rfl) ?_
        refine WL.new (dd := 18) rfl rfl rfl (e_alloc (cs := [(.int .i64 0), (.int .i64 0)]) zeroT_28 rfl) ?_
        intro b_31644 _
        refine WL.eff0 rfl rfl (e_store (vs := [(.int .i64 x_31641.1.fN), (.int .i64 x_31641.1.fD)]) (ds := [(.int .i64 x_31641.1.fN), (.int .i64 x_31641.1.fD)]) sizT_28 rfl rfl rfl rfl (oc_cons rfl (oc_cons rfl oc_nil)) .here (Nat.le_of_ble_eq_true rfl) rfl) ?_
        refine WL.quiet (d := 19) rfl rfl rfl (q_assign rfl) ?_
        refine WL.nil ?_
        refine WX.then ?_
        refine WC.seq ?_
        obtain ⟨x_31645, hx_31646, h⟩ := bind_elim h
        refine WC.region ?_
        refine WL.quiet (d := 102) rfl rfl rfl (q_move rfl) ?_
        refine WL.quiet (d := 103) rfl rfl rfl (q_loadA (cs := [(.int .i64 c_30991), (.int .i64 c_30992)]) aggT_28 rfl rfl (rd_all (.there (.there (.there (.there (.there .here))))))) ?_
        refine WL.callD (dd := 104) rfl rfl rfl (run_call (l := [.tmp 102, .tmp 103]) Try.call13 (.cons rfl (.cons rfl .nil))) (.nil : Sel [stb b_31644 28 [(.int .i64 x_31641.1.fN), (.int .i64 x_31641.1.fD)], stb b_31640 28 [(.int .i64 x_31636.1.fN), (.int .i64 x_31636.1.fD)], stb b_31633 28 [(.int .i64 x_31630.1.fN), (.int .i64 x_31630.1.fD)], fz (Zn_30968 ++ Zn_30971), stb b_30984 28 [(.int .i64 c_30989), (.int .i64 c_30990)], stb b_30985 28 [(.int .i64 c_30991), (.int .i64 c_30992)]] [] [stb b_31644 28 [(.int .i64 x_31641.1.fN), (.int .i64 x_31641.1.fD)], stb b_31640 28 [(.int .i64 x_31636.1.fN), (.int .i64 x_31636.1.fD)], stb b_31633 28 [(.int .i64 x_31630.1.fN), (.int .i64 x_31630.1.fD)], fz (Zn_30968 ++ Zn_30971), stb b_30984 28 [(.int .i64 c_30989), (.int .i64 c_30990)], stb b_30985 28 [(.int .i64 c_30991), (.int .i64 c_30992)]]) (fun w hw => by have pz := (hz.call2 hw (.nil : Sel [stb b_31644 28 [(.int .i64 x_31641.1.fN), (.int .i64 x_31641.1.fD)], stb b_31640 28 [(.int .i64 x_31636.1.fN), (.int .i64 x_31636.1.fD)], stb b_31633 28 [(.int .i64 x_31630.1.fN), (.int .i64 x_31630.1.fD)], fz (Zn_30968 ++ Zn_30971), stb b_30984 28 [(.int .i64 c_30989), (.int .i64 c_30990)], stb b_30985 28 [(.int .i64 c_30991), (.int .i64 c_30992)]] [] [stb b_31644 28 [(.int .i64 x_31641.1.fN), (.int .i64 x_31641.1.fD)], stb b_31640 28 [(.int .i64 x_31636.1.fN), (.int .i64 x_31636.1.fD)], stb b_31633 28 [(.int .i64 x_31630.1.fN), (.int .i64 x_31630.1.fD)], fz (Zn_30968 ++ Zn_30971), stb b_30984 28 [(.int .i64 c_30989), (.int .i64 c_30990)], stb b_30985 28 [(.int .i64 c_30991), (.int .i64 c_30992)]]) (.there (.there (.there .here)))); exact w_law02_at (Z := _) (ao_1169 := ao_30955) (cap_1170 := cap_30956) (c_1168 := x_30950) (t_1172 := (⟨c_30991, c_30992⟩ : Sapi_Rat)) (r := x_31645) w pz (hf_30970.mono ((Zle.left _ _).trans (Zle.assoc _ _ _))) hx_31646) ?_
        refine WL.quiet (d := 101) rfl rfl rfl (q_move rfl) ?_
        refine WL.quiet (d := 105) rfl rfl rfl (q_extract rfl rfl) ?_
        refine WL.quiet (d := 106) rfl rfl rfl (q_extract rfl rfl) ?_
        refine WL.new (dd := 20) rfl rfl rfl (e_alloc (cs := [(.int .i64 0), (.int .i64 0)]) zeroT_28 rfl) ?_
        intro b_31648 _
        refine WL.eff0 rfl rfl (e_store (vs := [(.int .i64 x_31645.1.fN), (.int .i64 x_31645.1.fD)]) (ds := [(.int .i64 x_31645.1.fN), (.int .i64 x_31645.1.fD)]) sizT_28 rfl rfl rfl rfl (oc_cons rfl (oc_cons rfl oc_nil)) .here (Nat.le_of_ble_eq_true rfl) rfl) ?_
        refine WL.quiet (d := 21) rfl rfl rfl (q_assign rfl) ?_
        refine WL.nil ?_
        refine WX.then ?_
        refine WC.seq ?_
        obtain ⟨x_31649, hx_31650, h⟩ := bind_elim h
        refine WC.region ?_
        refine WL.quiet (d := 108) rfl rfl rfl (q_move rfl) ?_
        refine WL.quiet (d := 109) rfl rfl rfl (q_loadA (cs := [(.int .i64 x_31636.1.fN), (.int .i64 x_31636.1.fD)]) aggT_28 rfl rfl (rd_all (.there (.there .here)))) ?_
        refine WL.callD (dd := 110) rfl rfl rfl (run_call (l := [.tmp 108, .tmp 109]) Try.call13 (.cons rfl (.cons rfl .nil))) (.nil : Sel [stb b_31648 28 [(.int .i64 x_31645.1.fN), (.int .i64 x_31645.1.fD)], stb b_31644 28 [(.int .i64 x_31641.1.fN), (.int .i64 x_31641.1.fD)], stb b_31640 28 [(.int .i64 x_31636.1.fN), (.int .i64 x_31636.1.fD)], stb b_31633 28 [(.int .i64 x_31630.1.fN), (.int .i64 x_31630.1.fD)], fz (Zn_30968 ++ Zn_30971), stb b_30984 28 [(.int .i64 c_30989), (.int .i64 c_30990)], stb b_30985 28 [(.int .i64 c_30991), (.int .i64 c_30992)]] [] [stb b_31648 28 [(.int .i64 x_31645.1.fN), (.int .i64 x_31645.1.fD)], stb b_31644 28 [(.int .i64 x_31641.1.fN), (.int .i64 x_31641.1.fD)], stb b_31640 28 [(.int .i64 x_31636.1.fN), (.int .i64 x_31636.1.fD)], stb b_31633 28 [(.int .i64 x_31630.1.fN), (.int .i64 x_31630.1.fD)], fz (Zn_30968 ++ Zn_30971), stb b_30984 28 [(.int .i64 c_30989), (.int .i64 c_30990)], stb b_30985 28 [(.int .i64 c_30991), (.int .i64 c_30992)]]) (fun w hw => by have pz := (hz.call2 hw (.nil : Sel [stb b_31648 28 [(.int .i64 x_31645.1.fN), (.int .i64 x_31645.1.fD)], stb b_31644 28 [(.int .i64 x_31641.1.fN), (.int .i64 x_31641.1.fD)], stb b_31640 28 [(.int .i64 x_31636.1.fN), (.int .i64 x_31636.1.fD)], stb b_31633 28 [(.int .i64 x_31630.1.fN), (.int .i64 x_31630.1.fD)], fz (Zn_30968 ++ Zn_30971), stb b_30984 28 [(.int .i64 c_30989), (.int .i64 c_30990)], stb b_30985 28 [(.int .i64 c_30991), (.int .i64 c_30992)]] [] [stb b_31648 28 [(.int .i64 x_31645.1.fN), (.int .i64 x_31645.1.fD)], stb b_31644 28 [(.int .i64 x_31641.1.fN), (.int .i64 x_31641.1.fD)], stb b_31640 28 [(.int .i64 x_31636.1.fN), (.int .i64 x_31636.1.fD)], stb b_31633 28 [(.int .i64 x_31630.1.fN), (.int .i64 x_31630.1.fD)], fz (Zn_30968 ++ Zn_30971), stb b_30984 28 [(.int .i64 c_30989), (.int .i64 c_30990)], stb b_30985 28 [(.int .i64 c_30991), (.int .i64 c_30992)]]) (.there (.there (.there (.there .here))))); exact w_law02_at (Z := _) (ao_1169 := ao_30955) (cap_1170 := cap_30956) (c_1168 := x_30950) (t_1172 := x_31636.1) (r := x_31649) w pz (hf_30970.mono ((Zle.left _ _).trans (Zle.assoc _ _ _))) hx_31650) ?_
        refine WL.quiet (d := 107) rfl rfl rfl (q_move rfl) ?_
        refine WL.quiet (d := 111) rfl rfl rfl (q_extract rfl rfl) ?_
        refine WL.quiet (d := 112) rfl rfl rfl (q_extract rfl rfl) ?_
        refine WL.new (dd := 22) rfl rfl rfl (e_alloc (cs := [(.int .i64 0), (.int .i64 0)]) zeroT_28 rfl) ?_
        intro b_31652 _
        refine WL.eff0 rfl rfl (e_store (vs := [(.int .i64 x_31649.1.fN), (.int .i64 x_31649.1.fD)]) (ds := [(.int .i64 x_31649.1.fN), (.int .i64 x_31649.1.fD)]) sizT_28 rfl rfl rfl rfl (oc_cons rfl (oc_cons rfl oc_nil)) .here (Nat.le_of_ble_eq_true rfl) rfl) ?_
        refine WL.quiet (d := 23) rfl rfl rfl (q_assign rfl) ?_
        refine WL.nil ?_
        refine WX.then ?_
        refine WC.seq ?_
        obtain ⟨x_31653, hx_31654, h⟩ := bind_elim h
        refine WC.region ?_
        refine WL.quiet (d := 114) rfl rfl rfl (q_loadA (cs := [(.int .i64 x_31641.1.fN), (.int .i64 x_31641.1.fD)]) aggT_28 rfl rfl (rd_all (.there (.there .here)))) ?_
        refine WL.quiet (d := 115) rfl rfl rfl (q_loadA (cs := [(.int .i64 x_31645.1.fN), (.int .i64 x_31645.1.fD)]) aggT_28 rfl rfl (rd_all (.there .here))) ?_
        refine WL.callD (dd := 116) rfl rfl rfl (run_call (l := [.tmp 114, .tmp 115]) Try.call12 (.cons rfl (.cons rfl .nil))) (.nil : Sel [stb b_31652 28 [(.int .i64 x_31649.1.fN), (.int .i64 x_31649.1.fD)], stb b_31648 28 [(.int .i64 x_31645.1.fN), (.int .i64 x_31645.1.fD)], stb b_31644 28 [(.int .i64 x_31641.1.fN), (.int .i64 x_31641.1.fD)], stb b_31640 28 [(.int .i64 x_31636.1.fN), (.int .i64 x_31636.1.fD)], stb b_31633 28 [(.int .i64 x_31630.1.fN), (.int .i64 x_31630.1.fD)], fz (Zn_30968 ++ Zn_30971), stb b_30984 28 [(.int .i64 c_30989), (.int .i64 c_30990)], stb b_30985 28 [(.int .i64 c_30991), (.int .i64 c_30992)]] [] [stb b_31652 28 [(.int .i64 x_31649.1.fN), (.int .i64 x_31649.1.fD)], stb b_31648 28 [(.int .i64 x_31645.1.fN), (.int .i64 x_31645.1.fD)], stb b_31644 28 [(.int .i64 x_31641.1.fN), (.int .i64 x_31641.1.fD)], stb b_31640 28 [(.int .i64 x_31636.1.fN), (.int .i64 x_31636.1.fD)], stb b_31633 28 [(.int .i64 x_31630.1.fN), (.int .i64 x_31630.1.fD)], fz (Zn_30968 ++ Zn_30971), stb b_30984 28 [(.int .i64 c_30989), (.int .i64 c_30990)], stb b_30985 28 [(.int .i64 c_30991), (.int .i64 c_30992)]]) (fun w hw => by have pz := (hz.call2 hw (.nil : Sel [stb b_31652 28 [(.int .i64 x_31649.1.fN), (.int .i64 x_31649.1.fD)], stb b_31648 28 [(.int .i64 x_31645.1.fN), (.int .i64 x_31645.1.fD)], stb b_31644 28 [(.int .i64 x_31641.1.fN), (.int .i64 x_31641.1.fD)], stb b_31640 28 [(.int .i64 x_31636.1.fN), (.int .i64 x_31636.1.fD)], stb b_31633 28 [(.int .i64 x_31630.1.fN), (.int .i64 x_31630.1.fD)], fz (Zn_30968 ++ Zn_30971), stb b_30984 28 [(.int .i64 c_30989), (.int .i64 c_30990)], stb b_30985 28 [(.int .i64 c_30991), (.int .i64 c_30992)]] [] [stb b_31652 28 [(.int .i64 x_31649.1.fN), (.int .i64 x_31649.1.fD)], stb b_31648 28 [(.int .i64 x_31645.1.fN), (.int .i64 x_31645.1.fD)], stb b_31644 28 [(.int .i64 x_31641.1.fN), (.int .i64 x_31641.1.fD)], stb b_31640 28 [(.int .i64 x_31636.1.fN), (.int .i64 x_31636.1.fD)], stb b_31633 28 [(.int .i64 x_31630.1.fN), (.int .i64 x_31630.1.fD)], fz (Zn_30968 ++ Zn_30971), stb b_30984 28 [(.int .i64 c_30989), (.int .i64 c_30990)], stb b_30985 28 [(.int .i64 c_30991), (.int .i64 c_30992)]]) (.there (.there (.there (.there (.there .here)))))); exact w_rat_Add (Z := _)  (x_1002 := x_31641.1) (y_1003 := x_31645.1) (r := x_31653) w pz  hx_31654) ?_
        refine WL.quiet (d := 113) rfl rfl rfl (q_move rfl) ?_
        refine WL.quiet (d := 117) rfl rfl rfl (q_extract rfl rfl) ?_
        refine WL.quiet (d := 118) rfl rfl rfl (q_extract rfl rfl) ?_
        refine WL.new (dd := 24) rfl rfl rfl (e_alloc (cs := [(.int .i64 0), (.int .i64 0)]) zeroT_28 rfl) ?_
        intro b_31656 _
        refine WL.eff0 rfl rfl (e_store (vs := [(.int .i64 x_31653.1.fN), (.int .i64 x_31653.1.fD)]) (ds := [(.int .i64 x_31653.1.fN), (.int .i64 x_31653.1.fD)]) sizT_28 rfl rfl rfl rfl (oc_cons rfl (oc_cons rfl oc_nil)) .here (Nat.le_of_ble_eq_true rfl) rfl) ?_
        refine WL.quiet (d := 25) rfl rfl rfl (q_assign rfl) ?_
        refine WL.nil ?_
        refine WX.then ?_
        refine WC.seq ?_
        obtain ⟨x_31657, hx_31658, h⟩ := bind_elim h
        refine WC.region ?_
        refine WL.quiet (d := 120) rfl rfl rfl (q_loadA (cs := [(.int .i64 x_31649.1.fN), (.int .i64 x_31649.1.fD)]) aggT_28 rfl rfl (rd_all (.there .here))) ?_
        refine WL.quiet (d := 121) rfl rfl rfl (q_loadA (cs := [(.int .i64 x_31649.1.fN), (.int .i64 x_31649.1.fD)]) aggT_28 rfl rfl (rd_all (.there .here))) ?_
        refine WL.callD (dd := 122) rfl rfl rfl (run_call (l := [.tmp 120, .tmp 121]) Try.call12 (.cons rfl (.cons rfl .nil))) (.nil : Sel [stb b_31656 28 [(.int .i64 x_31653.1.fN), (.int .i64 x_31653.1.fD)], stb b_31652 28 [(.int .i64 x_31649.1.fN), (.int .i64 x_31649.1.fD)], stb b_31648 28 [(.int .i64 x_31645.1.fN), (.int .i64 x_31645.1.fD)], stb b_31644 28 [(.int .i64 x_31641.1.fN), (.int .i64 x_31641.1.fD)], stb b_31640 28 [(.int .i64 x_31636.1.fN), (.int .i64 x_31636.1.fD)], stb b_31633 28 [(.int .i64 x_31630.1.fN), (.int .i64 x_31630.1.fD)], fz (Zn_30968 ++ Zn_30971), stb b_30984 28 [(.int .i64 c_30989), (.int .i64 c_30990)], stb b_30985 28 [(.int .i64 c_30991), (.int .i64 c_30992)]] [] [stb b_31656 28 [(.int .i64 x_31653.1.fN), (.int .i64 x_31653.1.fD)], stb b_31652 28 [(.int .i64 x_31649.1.fN), (.int .i64 x_31649.1.fD)], stb b_31648 28 [(.int .i64 x_31645.1.fN), (.int .i64 x_31645.1.fD)], stb b_31644 28 [(.int .i64 x_31641.1.fN), (.int .i64 x_31641.1.fD)], stb b_31640 28 [(.int .i64 x_31636.1.fN), (.int .i64 x_31636.1.fD)], stb b_31633 28 [(.int .i64 x_31630.1.fN), (.int .i64 x_31630.1.fD)], fz (Zn_30968 ++ Zn_30971), stb b_30984 28 [(.int .i64 c_30989), (.int .i64 c_30990)], stb b_30985 28 [(.int .i64 c_30991), (.int .i64 c_30992)]]) (fun w hw => by have pz := (hz.call2 hw (.nil : Sel [stb b_31656 28 [(.int .i64 x_31653.1.fN), (.int .i64 x_31653.1.fD)], stb b_31652 28 [(.int .i64 x_31649.1.fN), (.int .i64 x_31649.1.fD)], stb b_31648 28 [(.int .i64 x_31645.1.fN), (.int .i64 x_31645.1.fD)], stb b_31644 28 [(.int .i64 x_31641.1.fN), (.int .i64 x_31641.1.fD)], stb b_31640 28 [(.int .i64 x_31636.1.fN), (.int .i64 x_31636.1.fD)], stb b_31633 28 [(.int .i64 x_31630.1.fN), (.int .i64 x_31630.1.fD)], fz (Zn_30968 ++ Zn_30971), stb b_30984 28 [(.int .i64 c_30989), (.int .i64 c_30990)], stb b_30985 28 [(.int .i64 c_30991), (.int .i64 c_30992)]] [] [stb b_31656 28 [(.int .i64 x_31653.1.fN), (.int .i64 x_31653.1.fD)], stb b_31652 28 [(.int .i64 x_31649.1.fN), (.int .i64 x_31649.1.fD)], stb b_31648 28 [(.int .i64 x_31645.1.fN), (.int .i64 x_31645.1.fD)], stb b_31644 28 [(.int .i64 x_31641.1.fN), (.int .i64 x_31641.1.fD)], stb b_31640 28 [(.int .i64 x_31636.1.fN), (.int .i64 x_31636.1.fD)], stb b_31633 28 [(.int .i64 x_31630.1.fN), (.int .i64 x_31630.1.fD)], fz (Zn_30968 ++ Zn_30971), stb b_30984 28 [(.int .i64 c_30989), (.int .i64 c_30990)], stb b_30985 28 [(.int .i64 c_30991), (.int .i64 c_30992)]]) (.there (.there (.there (.there (.there (.there .here))))))); exact w_rat_Add (Z := _)  (x_1002 := x_31649.1) (y_1003 := x_31649.1) (r := x_31657) w pz  hx_31658) ?_
        refine WL.quiet (d := 119) rfl rfl rfl (q_move rfl) ?_
        refine WL.quiet (d := 123) rfl rfl rfl (q_extract rfl rfl) ?_
        refine WL.quiet (d := 124) rfl rfl rfl (q_extract rfl rfl) ?_
        refine WL.new (dd := 26) rfl rfl rfl (e_alloc (cs := [(.int .i64 0), (.int .i64 0)]) zeroT_28 rfl) ?_
        intro b_31660 _
        refine WL.eff0 rfl rfl (e_store (vs := [(.int .i64 x_31657.1.fN), (.int .i64 x_31657.1.fD)]) (ds := [(.int .i64 x_31657.1.fN), (.int .i64 x_31657.1.fD)]) sizT_28 rfl rfl rfl rfl (oc_cons rfl (oc_cons rfl oc_nil)) .here (Nat.le_of_ble_eq_true rfl) rfl) ?_
        refine WL.quiet (d := 27) rfl rfl rfl (q_assign rfl) ?_
        refine WL.nil ?_
        refine WX.then ?_
        refine WC.seq ?_
        obtain ⟨b_31665, hb_31666, h⟩ := bind_elim h
        refine WC.region ?_
        refine WL.quiet (d := 125) rfl rfl rfl (q_move rfl) ?_
        refine WL.quiet (d := 126) rfl rfl rfl (q_move rfl) ?_
        refine WL.cut0 True [(15, (.int .i64 x_31630.2)), (17, (.int .i64 x_31636.2)), (23, (.bool x_31649.2)), (24, (.pointer (some ⟨b_31656, 0, none⟩))), (25, (.int .i64 x_31653.2)), (26, (.pointer (some ⟨b_31660, 0, none⟩))), (27, (.int .i64 x_31657.2)), (128, (.bool (x_31641.2 && x_31645.2)))] [stb b_31660 28 [(.int .i64 x_31657.1.fN), (.int .i64 x_31657.1.fD)], stb b_31656 28 [(.int .i64 x_31653.1.fN), (.int .i64 x_31653.1.fD)], stb b_31652 28 [(.int .i64 x_31649.1.fN), (.int .i64 x_31649.1.fD)], stb b_31648 28 [(.int .i64 x_31645.1.fN), (.int .i64 x_31645.1.fD)], stb b_31644 28 [(.int .i64 x_31641.1.fN), (.int .i64 x_31641.1.fD)], stb b_31640 28 [(.int .i64 x_31636.1.fN), (.int .i64 x_31636.1.fD)], stb b_31633 28 [(.int .i64 x_31630.1.fN), (.int .i64 x_31630.1.fD)], fz (Zn_30968 ++ Zn_30971), stb b_30984 28 [(.int .i64 c_30989), (.int .i64 c_30990)], stb b_30985 28 [(.int .i64 c_30991), (.int .i64 c_30992)]] 2 ?_ (fun _ => ?_)
        · rcases Bool.eq_false_or_eq_true x_31641.2 with hb' | hb'
          · have hg_31669 := hb'; clear hb'
            refine WL.pin (i := 126) rfl hg_31669 ?_
            refine WL.quiet (d := 127) rfl rfl rfl (q_move rfl) ?_
            refine WL.quiet (d := 128) rfl rfl rfl (q_pickT rfl rfl) ?_
            exact WL.cutEnd () trivial (.cons rfl (.cons rfl (.cons rfl (.cons rfl (.cons rfl (.cons rfl (.cons rfl (.cons (some_bool (and_r hg_31669)) .nil)))))))) (.cons .here (.cons .here (.cons .here (.cons .here (.cons .here (.cons .here (.cons .here (.cons .here (.cons .here (.cons .here .nil))))))))))
          · have hg_31670 := hb'; clear hb'
            refine WL.pin (i := 126) rfl hg_31670 ?_
            refine WL.skip rfl rfl rfl ?_
            refine WL.quiet (d := 128) rfl rfl rfl (q_pickF rfl rfl) ?_
            exact WL.cutEnd () trivial (.cons rfl (.cons rfl (.cons rfl (.cons rfl (.cons rfl (.cons rfl (.cons rfl (.cons (some_bool (and_l hg_31670)) .nil)))))))) (.cons .here (.cons .here (.cons .here (.cons .here (.cons .here (.cons .here (.cons .here (.cons .here (.cons .here (.cons .here .nil))))))))))
        · skip
          refine WL.quiet (d := 129) rfl rfl rfl (q_move rfl) ?_
          refine WL.cut0 True [(15, (.int .i64 x_31630.2)), (17, (.int .i64 x_31636.2)), (24, (.pointer (some ⟨b_31656, 0, none⟩))), (25, (.int .i64 x_31653.2)), (26, (.pointer (some ⟨b_31660, 0, none⟩))), (27, (.int .i64 x_31657.2)), (131, (.bool ((x_31641.2 && x_31645.2) && x_31649.2)))] [stb b_31660 28 [(.int .i64 x_31657.1.fN), (.int .i64 x_31657.1.fD)], stb b_31656 28 [(.int .i64 x_31653.1.fN), (.int .i64 x_31653.1.fD)], stb b_31652 28 [(.int .i64 x_31649.1.fN), (.int .i64 x_31649.1.fD)], stb b_31648 28 [(.int .i64 x_31645.1.fN), (.int .i64 x_31645.1.fD)], stb b_31644 28 [(.int .i64 x_31641.1.fN), (.int .i64 x_31641.1.fD)], stb b_31640 28 [(.int .i64 x_31636.1.fN), (.int .i64 x_31636.1.fD)], stb b_31633 28 [(.int .i64 x_31630.1.fN), (.int .i64 x_31630.1.fD)], fz (Zn_30968 ++ Zn_30971), stb b_30984 28 [(.int .i64 c_30989), (.int .i64 c_30990)], stb b_30985 28 [(.int .i64 c_30991), (.int .i64 c_30992)]] 2 ?_ (fun _ => ?_)
          · rcases Bool.eq_false_or_eq_true (x_31641.2 && x_31645.2) with hb' | hb'
            · have hg_31671 := hb'; clear hb'
              refine WL.pin (i := 129) rfl hg_31671 ?_
              refine WL.quiet (d := 130) rfl rfl rfl (q_move rfl) ?_
              refine WL.quiet (d := 131) rfl rfl rfl (q_pickT rfl rfl) ?_
              exact WL.cutEnd () trivial (.cons rfl (.cons rfl (.cons rfl (.cons rfl (.cons rfl (.cons rfl (.cons (some_bool (and_r hg_31671)) .nil))))))) (.cons .here (.cons .here (.cons .here (.cons .here (.cons .here (.cons .here (.cons .here (.cons .here (.cons .here (.cons .here .nil))))))))))
            · have hg_31672 := hb'; clear hb'
              refine WL.pin (i := 129) rfl hg_31672 ?_
              refine WL.skip rfl rfl rfl ?_
              refine WL.quiet (d := 131) rfl rfl rfl (q_pickF rfl rfl) ?_
              exact WL.cutEnd () trivial (.cons rfl (.cons rfl (.cons rfl (.cons rfl (.cons rfl (.cons rfl (.cons (some_bool (and_l hg_31672)) .nil))))))) (.cons .here (.cons .here (.cons .here (.cons .here (.cons .here (.cons .here (.cons .here (.cons .here (.cons .here (.cons .here .nil))))))))))
          · skip
            refine WL.quiet (d := 132) rfl rfl rfl (q_move rfl) ?_
            refine WL.cut0 True [(24, (.pointer (some ⟨b_31656, 0, none⟩))), (26, (.pointer (some ⟨b_31660, 0, none⟩))), (141, (.bool (((x_31641.2 && x_31645.2) && x_31649.2) && (decide ((i64 ((i64 ((i64 (x_31630.2 + x_31636.2)) + x_31653.2)) + x_31657.2)) = 0)))))] [stb b_31660 28 [(.int .i64 x_31657.1.fN), (.int .i64 x_31657.1.fD)], stb b_31656 28 [(.int .i64 x_31653.1.fN), (.int .i64 x_31653.1.fD)], stb b_31652 28 [(.int .i64 x_31649.1.fN), (.int .i64 x_31649.1.fD)], stb b_31648 28 [(.int .i64 x_31645.1.fN), (.int .i64 x_31645.1.fD)], stb b_31644 28 [(.int .i64 x_31641.1.fN), (.int .i64 x_31641.1.fD)], stb b_31640 28 [(.int .i64 x_31636.1.fN), (.int .i64 x_31636.1.fD)], stb b_31633 28 [(.int .i64 x_31630.1.fN), (.int .i64 x_31630.1.fD)], fz (Zn_30968 ++ Zn_30971), stb b_30984 28 [(.int .i64 c_30989), (.int .i64 c_30990)], stb b_30985 28 [(.int .i64 c_30991), (.int .i64 c_30992)]] 9 ?_ (fun _ => ?_)
            · rcases Bool.eq_false_or_eq_true ((x_31641.2 && x_31645.2) && x_31649.2) with hb' | hb'
              · have hg_31673 := hb'; clear hb'
                refine WL.pin (i := 132) rfl hg_31673 ?_
                refine WL.quiet (d := 133) rfl rfl rfl (q_move rfl) ?_
                refine WL.quiet (d := 134) rfl rfl rfl (q_move rfl) ?_
                refine WL.quiet (d := 135) rfl rfl rfl (q_add rfl rfl rfl) ?_
                refine WL.quiet (d := 136) rfl rfl rfl (q_move rfl) ?_
                refine WL.quiet (d := 137) rfl rfl rfl (q_add rfl rfl rfl) ?_
                refine WL.quiet (d := 138) rfl rfl rfl (q_move rfl) ?_
                refine WL.quiet (d := 139) rfl rfl rfl (q_add rfl rfl rfl) ?_
                refine WL.quiet (d := 140) rfl rfl rfl (q_eql rfl rfl) ?_
                refine WL.quiet (d := 141) rfl rfl rfl (q_pickT rfl rfl) ?_
                exact WL.cutEnd () trivial (.cons rfl (.cons rfl (.cons (some_bool (and_r hg_31673)) .nil))) (.cons .here (.cons .here (.cons .here (.cons .here (.cons .here (.cons .here (.cons .here (.cons .here (.cons .here (.cons .here .nil))))))))))
              · have hg_31674 := hb'; clear hb'
                refine WL.pin (i := 132) rfl hg_31674 ?_
                refine WL.skip rfl rfl rfl ?_
                refine WL.skip rfl rfl rfl ?_
                refine WL.skip rfl rfl rfl ?_
                refine WL.skip rfl rfl rfl ?_
                refine WL.skip rfl rfl rfl ?_
                refine WL.skip rfl rfl rfl ?_
                refine WL.skip rfl rfl rfl ?_
                refine WL.skip rfl rfl rfl ?_
                refine WL.quiet (d := 141) rfl rfl rfl (q_pickF rfl rfl) ?_
                exact WL.cutEnd () trivial (.cons rfl (.cons rfl (.cons (some_bool (and_l hg_31674)) .nil))) (.cons .here (.cons .here (.cons .here (.cons .here (.cons .here (.cons .here (.cons .here (.cons .here (.cons .here (.cons .here .nil))))))))))
            · skip
              refine WL.quiet (d := 142) rfl rfl rfl (q_move rfl) ?_
              refine WL.cut0 True [(146, (.bool ((((x_31641.2 && x_31645.2) && x_31649.2) && (decide ((i64 ((i64 ((i64 (x_31630.2 + x_31636.2)) + x_31653.2)) + x_31657.2)) = 0))) && (decide (x_31657.1 = x_31653.1)))))] [stb b_31660 28 [(.int .i64 x_31657.1.fN), (.int .i64 x_31657.1.fD)], stb b_31656 28 [(.int .i64 x_31653.1.fN), (.int .i64 x_31653.1.fD)], stb b_31652 28 [(.int .i64 x_31649.1.fN), (.int .i64 x_31649.1.fD)], stb b_31648 28 [(.int .i64 x_31645.1.fN), (.int .i64 x_31645.1.fD)], stb b_31644 28 [(.int .i64 x_31641.1.fN), (.int .i64 x_31641.1.fD)], stb b_31640 28 [(.int .i64 x_31636.1.fN), (.int .i64 x_31636.1.fD)], stb b_31633 28 [(.int .i64 x_31630.1.fN), (.int .i64 x_31630.1.fD)], fz (Zn_30968 ++ Zn_30971), stb b_30984 28 [(.int .i64 c_30989), (.int .i64 c_30990)], stb b_30985 28 [(.int .i64 c_30991), (.int .i64 c_30992)]] 4 ?_ (fun _ => ?_)
              · rcases Bool.eq_false_or_eq_true (((x_31641.2 && x_31645.2) && x_31649.2) && (decide ((i64 ((i64 ((i64 (x_31630.2 + x_31636.2)) + x_31653.2)) + x_31657.2)) = 0))) with hb' | hb'
                · have hg_31675 := hb'; clear hb'
                  refine WL.pin (i := 142) rfl hg_31675 ?_
                  refine WL.quiet (d := 143) rfl rfl rfl (q_loadA (cs := [(.int .i64 x_31657.1.fN), (.int .i64 x_31657.1.fD)]) aggT_28 rfl rfl (rd_all .here)) ?_
                  refine WL.quiet (d := 144) rfl rfl rfl (q_loadA (cs := [(.int .i64 x_31653.1.fN), (.int .i64 x_31653.1.fD)]) aggT_28 rfl rfl (rd_all (.there .here))) ?_
                  refine WL.quiet (d := 145) rfl rfl rfl (q_aggeql (enc := e28) (a := x_31657.1) (b := x_31653.1) eqT_28 rfl rfl) ?_
                  refine WL.quiet (d := 146) rfl rfl rfl (q_pickT rfl rfl) ?_
                  exact WL.cutEnd () trivial (.cons (some_bool (and_r hg_31675)) .nil) (.cons .here (.cons .here (.cons .here (.cons .here (.cons .here (.cons .here (.cons .here (.cons .here (.cons .here (.cons .here .nil))))))))))
                · have hg_31676 := hb'; clear hb'
                  refine WL.pin (i := 142) rfl hg_31676 ?_
                  refine WL.skip rfl rfl rfl ?_
                  refine WL.skip rfl rfl rfl ?_
                  refine WL.skip rfl rfl rfl ?_
                  refine WL.quiet (d := 146) rfl rfl rfl (q_pickF rfl rfl) ?_
                  exact WL.cutEnd () trivial (.cons (some_bool (and_l hg_31676)) .nil) (.cons .here (.cons .here (.cons .here (.cons .here (.cons .here (.cons .here (.cons .here (.cons .here (.cons .here (.cons .here .nil))))))))))
              · skip
                refine WL.quiet (d := 147) rfl rfl rfl (q_move rfl) ?_
                refine WL.cut1 (fun (Zn_31667 : Zp) => Zle (Z ++ (Zn_30968 ++ Zn_30971)) (Z ++ Zn_31667)) (fun (Zn_31667 : Zp) => [(149, (.bool b_31665))]) (fun (Zn_31667 : Zp) => [stb b_31660 28 [(.int .i64 x_31657.1.fN), (.int .i64 x_31657.1.fD)], stb b_31656 28 [(.int .i64 x_31653.1.fN), (.int .i64 x_31653.1.fD)], stb b_31652 28 [(.int .i64 x_31649.1.fN), (.int .i64 x_31649.1.fD)], stb b_31648 28 [(.int .i64 x_31645.1.fN), (.int .i64 x_31645.1.fD)], stb b_31644 28 [(.int .i64 x_31641.1.fN), (.int .i64 x_31641.1.fD)], stb b_31640 28 [(.int .i64 x_31636.1.fN), (.int .i64 x_31636.1.fD)], stb b_31633 28 [(.int .i64 x_31630.1.fN), (.int .i64 x_31630.1.fD)], fz Zn_31667, stb b_30984 28 [(.int .i64 c_30989), (.int .i64 c_30990)], stb b_30985 28 [(.int .i64 c_30991), (.int .i64 c_30992)]]) 2 ?_ (fun Zn_31667 hle_31668 => ?_)
                · rcases Bool.eq_false_or_eq_true ((((x_31641.2 && x_31645.2) && x_31649.2) && (decide ((i64 ((i64 ((i64 (x_31630.2 + x_31636.2)) + x_31653.2)) + x_31657.2)) = 0))) && (decide (x_31657.1 = x_31653.1))) with hb' | hb'
                  · have hg_31677 := hb'; clear hb'
                    have hq_31678 := ite_t hb_31666 hg_31677
                    obtain ⟨x_31661, hx_31662, hq_31678⟩ := bind_elim hq_31678
                    replace hq_31678 := Option.some.inj hq_31678
                    refine WL.pin (i := 147) rfl hg_31677 ?_
                    refine WL.enter1 (dd := 148) rfl rfl rfl (run_call (l := []) Try.call18 .nil) (.nil : Sel [stb b_31660 28 [(.int .i64 x_31657.1.fN), (.int .i64 x_31657.1.fD)], stb b_31656 28 [(.int .i64 x_31653.1.fN), (.int .i64 x_31653.1.fD)], stb b_31652 28 [(.int .i64 x_31649.1.fN), (.int .i64 x_31649.1.fD)], stb b_31648 28 [(.int .i64 x_31645.1.fN), (.int .i64 x_31645.1.fD)], stb b_31644 28 [(.int .i64 x_31641.1.fN), (.int .i64 x_31641.1.fD)], stb b_31640 28 [(.int .i64 x_31636.1.fN), (.int .i64 x_31636.1.fD)], stb b_31633 28 [(.int .i64 x_31630.1.fN), (.int .i64 x_31630.1.fD)], fz (Zn_30968 ++ Zn_30971), stb b_30984 28 [(.int .i64 c_30989), (.int .i64 c_30990)], stb b_30985 28 [(.int .i64 c_30991), (.int .i64 c_30992)]] [] [stb b_31660 28 [(.int .i64 x_31657.1.fN), (.int .i64 x_31657.1.fD)], stb b_31656 28 [(.int .i64 x_31653.1.fN), (.int .i64 x_31653.1.fD)], stb b_31652 28 [(.int .i64 x_31649.1.fN), (.int .i64 x_31649.1.fD)], stb b_31648 28 [(.int .i64 x_31645.1.fN), (.int .i64 x_31645.1.fD)], stb b_31644 28 [(.int .i64 x_31641.1.fN), (.int .i64 x_31641.1.fD)], stb b_31640 28 [(.int .i64 x_31636.1.fN), (.int .i64 x_31636.1.fD)], stb b_31633 28 [(.int .i64 x_31630.1.fN), (.int .i64 x_31630.1.fD)], fz (Zn_30968 ++ Zn_30971), stb b_30984 28 [(.int .i64 c_30989), (.int .i64 c_30990)], stb b_30985 28 [(.int .i64 c_30991), (.int .i64 c_30992)]]) (fun w hw => by have pz := (hz.call2 hw (.nil : Sel [stb b_31660 28 [(.int .i64 x_31657.1.fN), (.int .i64 x_31657.1.fD)], stb b_31656 28 [(.int .i64 x_31653.1.fN), (.int .i64 x_31653.1.fD)], stb b_31652 28 [(.int .i64 x_31649.1.fN), (.int .i64 x_31649.1.fD)], stb b_31648 28 [(.int .i64 x_31645.1.fN), (.int .i64 x_31645.1.fD)], stb b_31644 28 [(.int .i64 x_31641.1.fN), (.int .i64 x_31641.1.fD)], stb b_31640 28 [(.int .i64 x_31636.1.fN), (.int .i64 x_31636.1.fD)], stb b_31633 28 [(.int .i64 x_31630.1.fN), (.int .i64 x_31630.1.fD)], fz (Zn_30968 ++ Zn_30971), stb b_30984 28 [(.int .i64 c_30989), (.int .i64 c_30990)], stb b_30985 28 [(.int .i64 c_30991), (.int .i64 c_30992)]] [] [stb b_31660 28 [(.int .i64 x_31657.1.fN), (.int .i64 x_31657.1.fD)], stb b_31656 28 [(.int .i64 x_31653.1.fN), (.int .i64 x_31653.1.fD)], stb b_31652 28 [(.int .i64 x_31649.1.fN), (.int .i64 x_31649.1.fD)], stb b_31648 28 [(.int .i64 x_31645.1.fN), (.int .i64 x_31645.1.fD)], stb b_31644 28 [(.int .i64 x_31641.1.fN), (.int .i64 x_31641.1.fD)], stb b_31640 28 [(.int .i64 x_31636.1.fN), (.int .i64 x_31636.1.fD)], stb b_31633 28 [(.int .i64 x_31630.1.fN), (.int .i64 x_31630.1.fD)], fz (Zn_30968 ++ Zn_30971), stb b_30984 28 [(.int .i64 c_30989), (.int .i64 c_30990)], stb b_30985 28 [(.int .i64 c_30991), (.int .i64 c_30992)]]) (.there (.there (.there (.there (.there (.there (.there .here)))))))); exact w_law02_awake (Z := _)   (r := x_31661) w pz  hx_31662) ?_
                    rintro Zn_31679 _
                    refine WL.merge .here (.there (.there (.there (.there (.there (.there (.there .here))))))) ?_
                    refine WL.quiet (d := 149) rfl rfl rfl (q_pickT rfl rfl) ?_
                    exact WL.cutEnd (G := Zp) ((Zn_30968 ++ Zn_30971) ++ Zn_31679) ((Zle.left _ _).trans (Zle.assoc _ _ _)) (.cons (some_bool hq_31678) .nil) (.cons (.there .here) (.cons (.there .here) (.cons (.there .here) (.cons (.there .here) (.cons (.there .here) (.cons (.there .here) (.cons (.there .here) (.cons .here (.cons .here (.cons .here .nil))))))))))
                  · have hg_31681 := hb'; clear hb'
                    have hq_31682 := ite_f hb_31666 hg_31681
                    replace hq_31682 := Option.some.inj hq_31682
                    refine WL.pin (i := 147) rfl hg_31681 ?_
                    refine WL.skip rfl rfl rfl ?_
                    refine WL.quiet (d := 149) rfl rfl rfl (q_pickF rfl rfl) ?_
                    exact WL.cutEnd (G := Zp) (Zn_30968 ++ Zn_30971) (Zle.refl _) (.cons (some_bool hq_31682) .nil) (.cons .here (.cons .here (.cons .here (.cons .here (.cons .here (.cons .here (.cons .here (.cons .here (.cons .here (.cons .here .nil))))))))))
                · skip
                  refine WL.quiet (d := 6) rfl rfl rfl (q_assign rfl) ?_
                  refine WL.nil ?_
                  refine WX.then ?_
                  refine WC.ret ?_
                  obtain rfl := Option.some.inj h
                  refine WX.bpRet Try.results5 (.tmp rfl .nil) (fun w hw => ?_)
                  exact ⟨Zn_31667, ret1 rfl, trivial, hw.sub (.cons (.there (.there (.there (.there (.there (.there (.there .here))))))) .nil)⟩
end Go.Proofs.Ytbihfglmcjkdhaa
