/- A part of this claim's proof: models of functions, walks, plain laws. No conditions. -/
import Derived.Test.YtbihfglmcjkdhaaW02b
namespace Go.Proofs.Ytbihfglmcjkdhaa
open Go Go.RowKit Sep
set_option linter.all false
set_option maxRecDepth 30000
set_option maxHeartbeats 4000000

def m_curve_Breaks_R4  (x_14236 : Sapi_Bucket × Sapi_Bucket) (c_14292 : List Sapi_Rat) (c_14295 : Int) : Option (Bool × (Nat × List Sapi_Rat × Int)) :=
  (m_rat_Cmp x_14236.1.fBurst x_14236.2.fBurst).bind fun x_14308 => if decide (x_14308 < 0) then (m_curve_calc_do (⟨c_14295⟩ : Scurve_calc) (fun (y0 : Sapi_Rat) (y1 : Sapi_Rat) => m_rat_Sub y0 y1) x_14236.2.fBurst x_14236.1.fBurst).bind fun x_14311 => (m_curve_calc_do x_14311.2 (fun (y0 : Sapi_Rat) (y1 : Sapi_Rat) => m_rat_Sub y0 y1) x_14236.1.fRate x_14236.2.fRate).bind fun x_14313 => (m_curve_calc_do x_14313.2 (fun (y0 : Sapi_Rat) (y1 : Sapi_Rat) => m_rat_Div y0 y1) x_14311.1 x_14313.1).bind fun x_14315 => chk ((((c_14292 ++ ([x_14315.1] : List Sapi_Rat)).length : Nat) : Int) * 16 ≤ 140737488355328 ∧ (((c_14292 ++ ([x_14315.1] : List Sapi_Rat)).length : Nat) : Int) ≤ 4611686018427387904) (some (true, (0, (c_14292 ++ ([x_14315.1] : List Sapi_Rat)), x_14315.2.fE))) else some (true, (0, c_14292, c_14295))

/-- curve.Breaks -/
def m_curve_Breaks (c_4991 : List Sapi_Bucket) : Option (List Sapi_Rat × Int) :=
  (m_curve_Valid c_4991).bind fun x_14050 => if !x_14050 then some (([] : List Sapi_Rat), 2) else (m_curve_norm c_4991).bind fun x_14058 => jp2 (fun (c_14196 : Int) (c_14197 : List Sapi_Rat) => if decide (c_14196 ≠ 0) then some (([] : List Sapi_Rat), c_14196) else (m_slices_SortFunc_api_Rat_api_Rat c_14197 (fun (y0 : Sapi_Rat) (y1 : Sapi_Rat) => m_rat_Cmp y0 y1)).bind fun x_14334 => (m_slices_Compact_api_Rat_api_Rat x_14334).bind fun x_14338 => some (x_14338, 0)) fun k_14201 => (m_curve_pairs x_14058 x_14058).bind fun x_14206 => (m_curve_pairs_1 (Nat × List Sapi_Rat × Int) (fun (x : Sapi_Bucket × Sapi_Bucket) (s : Nat × List Sapi_Rat × Int) => chk (s.1 = 0) (m_curve_Breaks_R4 x s.2.1 s.2.2)) (0, ([] : List Sapi_Rat), 0) x_14206.1 x_14206.2).bind fun y_14297 => k_14201 y_14297.2.2 y_14297.2.1

set_option maxRecDepth 20000 in
theorem w_curve_Breaks (Z : Zp)  (ao_4992 : Option Addr) (cap_4993 : Nat) (c_4991 : List Sapi_Bucket) (r : List Sapi_Rat × Int) (w₀ : World) (hz : PZ [] w₀ Z)
    (hs_4994 : ZS Z 4 (fun r x => r = e42 x) ao_4992 cap_4993 c_4991)
    (h : m_curve_Breaks c_4991 = some r) :
    Calls Try.prog 20 #[(.slice ao_4992 c_4991.length cap_4993)] w₀ fun e w' => ∃ Zn : Zp, ∃ ao_14044 : Option Addr, ∃ cap_14045 : Nat, e = .returned (.tuple #[(.slice ao_14044 r.1.length cap_14045), (.int .i64 r.2)]) ∧ True ∧ Hp [] w₀ w' [fz Zn, row (.slice ao_14044 r.1.length cap_14045) 28 2 (r.1.flatMap e28)] := by
  unfold m_curve_Breaks at h
  refine Calls.ofWCM (vs := [(.slice ao_4992 c_4991.length cap_4993)]) (pre := []) (env := [(0, (.slice ao_4992 c_4991.length cap_4993))]) Try.func20 rfl Try.ntmps20 rfl (Hp.nil w₀ _) rfl ?_
  refine WC.pool ?_
  refine WC.seq ?_
  refine WC.region ?_
  refine WL.quiet (d := 2) rfl rfl rfl (q_assign rfl) ?_
  refine WL.quiet (d := 3) rfl rfl rfl (q_assign rfl) ?_
  refine WL.nil ?_
  refine WX.then ?_
  refine WC.seq ?_
  refine WC.seq ?_
  obtain ⟨x_14050, hx_14051, h⟩ := bind_elim h
  refine WC.region ?_
  refine WL.quiet (d := 9) rfl rfl rfl (q_move rfl) ?_
  refine WL.callD (dd := 10) rfl rfl rfl (run_call (l := [.tmp 9]) Try.call26 (.cons rfl .nil)) (.nil : Sel [fz []] [] [fz []]) (fun w hw => by have pz := (hz.call2 hw (.nil : Sel [fz []] [] [fz []]) .here); exact w_curve_Valid (Z := _) (ao_1187 := ao_4992) (cap_1188 := cap_4993) (c_1186 := c_4991) (r := x_14050) w pz (hs_4994.mono (Zle.left _ _)) hx_14051) ?_
  refine WL.quiet (d := 11) rfl rfl rfl (q_not rfl) ?_
  refine WL.nil ?_
  refine WX.then ?_
  refine WC.cond rfl (fun hb_14052 => ?_) (fun hb_14052 => ?_)
  · replace h := ite_t h hb_14052
    refine WC.seq ?_
    refine WC.region ?_
    refine WL.quiet (d := 2) rfl rfl rfl (q_assign rfl) ?_
    refine WL.quiet (d := 3) rfl rfl rfl (q_assign rfl) ?_
    refine WL.nil ?_
    refine WX.then ?_
    refine WC.ret ?_
    refine WX.thenRet ?_
    refine WX.nilRow 28 2 ?_
    obtain rfl := Option.some.inj h
    refine WX.bpRetM Try.results20 (.tmp rfl (.tmp rfl .nil)) (fun w hw => ?_)
    exact ⟨[], none, 0, ret2 rfl rfl, trivial, hw.sub (.cons (.there .here) (.cons .here .nil))⟩
  · replace h := ite_f h hb_14052
    refine WC.skip ?_
    refine WX.then ?_
    refine WC.seq ?_
    refine WC.region ?_
    refine WL.new (dd := 4) rfl rfl rfl (e_alloc (cs := [(.int .i64 0)]) zeroT_74 rfl) ?_
    intro b_14055 _
    refine WL.nil ?_
    refine WX.then ?_
    refine WC.seq ?_
    refine WC.region ?_
    refine WL.new (dd := 5) rfl rfl rfl (e_alloc (cs := [(.slice none 0 0)]) zeroT_44 rfl) ?_
    intro b_14057 _
    refine WL.nil ?_
    refine WX.then ?_
    refine WC.seq ?_
    obtain ⟨x_14058, hx_14059, h⟩ := bind_elim h
    refine WC.region ?_
    refine WL.quiet (d := 12) rfl rfl rfl (q_move rfl) ?_
    refine WL.enter2 (dd := 13) rfl rfl rfl (run_call (l := [.tmp 12]) Try.call45 (.cons rfl .nil)) (.nil : Sel [stb b_14057 44 [(.slice none 0 0)], stb b_14055 74 [(.int .i64 0)], fz []] [] [stb b_14057 44 [(.slice none 0 0)], stb b_14055 74 [(.int .i64 0)], fz []]) (fun w hw => by have pz := (hz.call2 hw (.nil : Sel [stb b_14057 44 [(.slice none 0 0)], stb b_14055 74 [(.int .i64 0)], fz []] [] [stb b_14057 44 [(.slice none 0 0)], stb b_14055 74 [(.int .i64 0)], fz []]) (.there (.there .here))); exact w_curve_norm (Z := _) (ao_3789 := ao_4992) (cap_3790 := cap_4993) (c_3788 := c_4991) (r := x_14058) w pz (hs_4994.mono (Zle.left _ _)) hx_14059) ?_
    rintro ao_14063 cap_14064 _
    refine WL.quiet (d := 6) rfl rfl rfl (q_assign rfl) ?_
    refine WL.nil ?_
    refine WX.then ?_
    obtain ⟨k_14201, hk_14202, h⟩ := jp2_elim h
    refine WC.seqMidR6 (fun (D_14200 : Nat) (c_14196 : Int) (c_14197 : List Sapi_Rat) (Zn_14194 : Zp) (ao_14198 : Option Addr) (cap_14199 : Nat) => (k_14201 c_14196 c_14197 = some r) ∧ (Zle (Z ++ []) (Z ++ Zn_14194))) (fun (D_14200 : Nat) (c_14196 : Int) (c_14197 : List Sapi_Rat) (Zn_14194 : Zp) (ao_14198 : Option Addr) (cap_14199 : Nat) => [(4, (.pointer (some ⟨b_14055, 0, none⟩))), (5, (.pointer (some ⟨b_14057, 0, none⟩)))]) (fun (D_14200 : Nat) (c_14196 : Int) (c_14197 : List Sapi_Rat) (Zn_14194 : Zp) (ao_14198 : Option Addr) (cap_14199 : Nat) => [fz Zn_14194, stb b_14055 74 [(.int .i64 c_14196)], stb b_14057 44 [(.slice ao_14198 c_14197.length cap_14199)], row (.slice ao_14198 c_14197.length cap_14199) 28 2 (c_14197.flatMap e28), dfr D_14200]) ?_ ?_
    · skip
      refine WC.seq ?_
      refine WC.freezeS (ls := x_14058) .here (.there (.there .here)) hz (RR.flat (enc := e42) (fun _ => rfl) _) ?_
      intro Zn_14203 hle_14204 hf_14205
      obtain ⟨x_14206, hx_14207, h⟩ := bind_elim h
      refine WC.region ?_
      refine WL.quiet (d := 14) rfl rfl rfl (q_move rfl) ?_
      refine WL.quiet (d := 15) rfl rfl rfl (q_move rfl) ?_
      refine WL.enter6 (dd := 16) rfl rfl rfl (run_call (l := [.tmp 14, .tmp 15]) Try.call46 (.cons rfl (.cons rfl .nil))) (.nil : Sel [fz Zn_14203, stb b_14057 44 [(.slice none 0 0)], stb b_14055 74 [(.int .i64 0)]] [] [fz Zn_14203, stb b_14057 44 [(.slice none 0 0)], stb b_14055 74 [(.int .i64 0)]]) (fun w hw => by have pz := (hz.call2 hw (.nil : Sel [fz Zn_14203, stb b_14057 44 [(.slice none 0 0)], stb b_14055 74 [(.int .i64 0)]] [] [fz Zn_14203, stb b_14057 44 [(.slice none 0 0)], stb b_14055 74 [(.int .i64 0)]]) .here); exact w_curve_pairs (Z := _) (ao_4966 := ao_14063) (cap_4967 := cap_14064) (ao_4970 := ao_14063) (cap_4971 := cap_14064) (a_4965 := x_14058) (b_4969 := x_14058) (r := x_14206) w pz hf_14205 hf_14205 hx_14207) ?_
      rintro b_14218 b_14219 ao_14220 cap_14221 ao_14222 cap_14223 ⟨hf_14224, hf_14225⟩
      refine WL.nil ?_
      refine WX.then ?_
      refine WC.block ?_
      refine WC.pool ?_
      refine WC.drop (.cons .here (.cons (.there (.there (.there .here))) (.cons (.there (.there (.there .here))) (.cons .here (.cons .here (.cons .here .nil)))))) ?_
      refine WC.nilRow 28 2 ?_
      refine WC.rangeFunc (f := 73) (caps := [(.pointer (some ⟨b_14218, 0, none⟩)), (.pointer (some ⟨b_14219, 0, none⟩))]) rfl Try.call73 ?_
      intro fn_14231 tm_14232 lp_14228 D_14229 rc_14230 hrc_14233 hev_14234 hsz_14235 w hw
      have hw1 := hw.selAll ((.cons (.there (.there (.there .here))) (.cons (.there (.there (.there .here))) (.cons (.there (.there .here)) (.cons (.there (.there .here)) (.cons .here .nil))))) : Sel _ [fz [], stb b_14057 44 [(.slice none (([] : List Sapi_Rat).length) 0)], row (.slice none (([] : List Sapi_Rat).length) 0) 28 2 (([] : List Sapi_Rat).flatMap e28), stb b_14055 74 [(.int .i64 0)], blk lp_14228 (rc_14230 .ready none)] _)
      have pz := (hz.call2 hw1 ((.cons .here .nil) : Sel [allA [fz [], stb b_14057 44 [(.slice none (([] : List Sapi_Rat).length) 0)], row (.slice none (([] : List Sapi_Rat).length) 0) 28 2 (([] : List Sapi_Rat).flatMap e28), stb b_14055 74 [(.int .i64 0)], blk lp_14228 (rc_14230 .ready none)], dfr D_14229, stb b_14218 25 [(.slice ao_14220 x_14206.1.length cap_14221)], stb b_14219 25 [(.slice ao_14222 x_14206.2.length cap_14223)], fz Zn_14203] [allA [fz [], stb b_14057 44 [(.slice none (([] : List Sapi_Rat).length) 0)], row (.slice none (([] : List Sapi_Rat).length) 0) 28 2 (([] : List Sapi_Rat).flatMap e28), stb b_14055 74 [(.int .i64 0)], blk lp_14228 (rc_14230 .ready none)]] [dfr D_14229, stb b_14218 25 [(.slice ao_14220 x_14206.1.length cap_14221)], stb b_14219 25 [(.slice ao_14222 x_14206.2.length cap_14223)], fz Zn_14203]) (.there (.there (.there .here)))).lend hw1 ((.cons .here .nil) : Sel [allA [fz [], stb b_14057 44 [(.slice none (([] : List Sapi_Rat).length) 0)], row (.slice none (([] : List Sapi_Rat).length) 0) 28 2 (([] : List Sapi_Rat).flatMap e28), stb b_14055 74 [(.int .i64 0)], blk lp_14228 (rc_14230 .ready none)], dfr D_14229, stb b_14218 25 [(.slice ao_14220 x_14206.1.length cap_14221)], stb b_14219 25 [(.slice ao_14222 x_14206.2.length cap_14223)], fz Zn_14203] [allA [fz [], stb b_14057 44 [(.slice none (([] : List Sapi_Rat).length) 0)], row (.slice none (([] : List Sapi_Rat).length) 0) 28 2 (([] : List Sapi_Rat).flatMap e28), stb b_14055 74 [(.int .i64 0)], blk lp_14228 (rc_14230 .ready none)]] [dfr D_14229, stb b_14218 25 [(.slice ao_14220 x_14206.1.length cap_14221)], stb b_14219 25 [(.slice ao_14222 x_14206.2.length cap_14223)], fz Zn_14203]) (B := [stb b_14218 25 [(.slice ao_14220 x_14206.1.length cap_14221)], stb b_14219 25 [(.slice ao_14222 x_14206.2.length cap_14223)]]) (fun _ hx' => ((.cons (.there .here) (.cons (.there .here) .nil)) : Sel _ [stb b_14218 25 [(.slice ao_14220 x_14206.1.length cap_14221)], stb b_14219 25 [(.slice ao_14222 x_14206.2.length cap_14223)]] _).mem hx')
      obtain ⟨y_14297, hy_14298, h⟩ := bind_elim h
      refine Calls.mono (w_curve_pairs_1 (Z := _) (lp_5041 := lp_14228) (Gg_5042 := (Option Addr × Nat)) (J_5043 := (fun (g : Option Addr × Nat) (s : Nat × List Sapi_Rat × Int) => allA ([fz [], stb b_14057 44 [(.slice g.1 s.2.1.length g.2)], row (.slice g.1 s.2.1.length g.2) 28 2 (s.2.1.flatMap e28), stb b_14055 74 [(.int .i64 s.2.2)]] ++ [blk lp_14228 (rc_14230 (rdy (pcs [] s.1)) (pcs [] s.1))]))) (Phi_5044 := (fun (g : Option Addr × Nat) (s : Nat × List Sapi_Rat × Int) => True)) (g_5045 := (none, 0)) (A_5048 := ⟨b_14218, 0, none⟩) (ao_5051 := ao_14220) (cap_5052 := cap_14221) (A_5054 := ⟨b_14219, 0, none⟩) (ao_5057 := ao_14222) (cap_5058 := cap_14223) (Sg_5038 := (Nat × List Sapi_Rat × Int)) (yield_5039 := (fun (x : Sapi_Bucket × Sapi_Bucket) (s : Nat × List Sapi_Rat × Int) => chk (s.1 = 0) (m_curve_Breaks_R4 x s.2.1 s.2.2))) (s0_5040 := (0, ([] : List Sapi_Rat), 0)) (c_5050 := x_14206.1) (c_5056 := x_14206.2) (r := y_14297) w pz ?_ trivial (hf_14224.mono (Zle.left _ _)) ((hw1.lent ((.cons .here .nil) : Sel [allA [fz [], stb b_14057 44 [(.slice none (([] : List Sapi_Rat).length) 0)], row (.slice none (([] : List Sapi_Rat).length) 0) 28 2 (([] : List Sapi_Rat).flatMap e28), stb b_14055 74 [(.int .i64 0)], blk lp_14228 (rc_14230 .ready none)], dfr D_14229, stb b_14218 25 [(.slice ao_14220 x_14206.1.length cap_14221)], stb b_14219 25 [(.slice ao_14222 x_14206.2.length cap_14223)], fz Zn_14203] [allA [fz [], stb b_14057 44 [(.slice none (([] : List Sapi_Rat).length) 0)], row (.slice none (([] : List Sapi_Rat).length) 0) 28 2 (([] : List Sapi_Rat).flatMap e28), stb b_14055 74 [(.int .i64 0)], blk lp_14228 (rc_14230 .ready none)]] [dfr D_14229, stb b_14218 25 [(.slice ao_14220 x_14206.1.length cap_14221)], stb b_14219 25 [(.slice ao_14222 x_14206.2.length cap_14223)], fz Zn_14203]) (B := [stb b_14218 25 [(.slice ao_14220 x_14206.1.length cap_14221)], stb b_14219 25 [(.slice ao_14222 x_14206.2.length cap_14223)]]) (fun _ hx' => ((.cons (.there .here) (.cons (.there .here) .nil)) : Sel _ [stb b_14218 25 [(.slice ao_14220 x_14206.1.length cap_14221)], stb b_14219 25 [(.slice ao_14222 x_14206.2.length cap_14223)]] _).mem hx') (.head _) _).stb) (hf_14225.mono (Zle.left _ _)) ((hw1.lent ((.cons .here .nil) : Sel [allA [fz [], stb b_14057 44 [(.slice none (([] : List Sapi_Rat).length) 0)], row (.slice none (([] : List Sapi_Rat).length) 0) 28 2 (([] : List Sapi_Rat).flatMap e28), stb b_14055 74 [(.int .i64 0)], blk lp_14228 (rc_14230 .ready none)], dfr D_14229, stb b_14218 25 [(.slice ao_14220 x_14206.1.length cap_14221)], stb b_14219 25 [(.slice ao_14222 x_14206.2.length cap_14223)], fz Zn_14203] [allA [fz [], stb b_14057 44 [(.slice none (([] : List Sapi_Rat).length) 0)], row (.slice none (([] : List Sapi_Rat).length) 0) 28 2 (([] : List Sapi_Rat).flatMap e28), stb b_14055 74 [(.int .i64 0)], blk lp_14228 (rc_14230 .ready none)]] [dfr D_14229, stb b_14218 25 [(.slice ao_14220 x_14206.1.length cap_14221)], stb b_14219 25 [(.slice ao_14222 x_14206.2.length cap_14223)], fz Zn_14203]) (B := [stb b_14218 25 [(.slice ao_14220 x_14206.1.length cap_14221)], stb b_14219 25 [(.slice ao_14222 x_14206.2.length cap_14223)]]) (fun _ hx' => ((.cons (.there .here) (.cons (.there .here) .nil)) : Sel _ [stb b_14218 25 [(.slice ao_14220 x_14206.1.length cap_14221)], stb b_14219 25 [(.slice ao_14222 x_14206.2.length cap_14223)]] _).mem hx') (.tail _ (.head _)) _).stb) hy_14298 (hw1.owns ((.cons .here .nil) : Sel [allA [fz [], stb b_14057 44 [(.slice none (([] : List Sapi_Rat).length) 0)], row (.slice none (([] : List Sapi_Rat).length) 0) 28 2 (([] : List Sapi_Rat).flatMap e28), stb b_14055 74 [(.int .i64 0)], blk lp_14228 (rc_14230 .ready none)], dfr D_14229, stb b_14218 25 [(.slice ao_14220 x_14206.1.length cap_14221)], stb b_14219 25 [(.slice ao_14222 x_14206.2.length cap_14223)], fz Zn_14203] [allA [fz [], stb b_14057 44 [(.slice none (([] : List Sapi_Rat).length) 0)], row (.slice none (([] : List Sapi_Rat).length) 0) 28 2 (([] : List Sapi_Rat).flatMap e28), stb b_14055 74 [(.int .i64 0)], blk lp_14228 (rc_14230 .ready none)]] [dfr D_14229, stb b_14218 25 [(.slice ao_14220 x_14206.1.length cap_14221)], stb b_14219 25 [(.slice ao_14222 x_14206.2.length cap_14223)], fz Zn_14203]))) ?_
      · skip
        refine yieldP_of (LI := (fun (g : Option Addr × Nat) (s : Nat × List Sapi_Rat × Int) => [fz [], stb b_14057 44 [(.slice g.1 s.2.1.length g.2)], row (.slice g.1 s.2.1.length g.2) 28 2 (s.2.1.flatMap e28), stb b_14055 74 [(.int .i64 s.2.2)]])) (pc := (fun (s : Nat × List Sapi_Rat × Int) => pcs [] s.1)) hrc_14233 hev_14234 hsz_14235 (fun _ _ => rfl) (by decide) ?_
        rintro x_14236 _ ⟨ao_14293, cap_14294⟩ ⟨p_14299, c_14292, c_14295⟩ b_14300 s_14301 Fb wb hq_14303 _ hz
        replace hz := hz.left
        letI : Rnd := inR lp_14228
        obtain ⟨hp0, h_14302⟩ := chk_elim hq_14303
        replace hp0 : p_14299 = 0 := hp0; subst hp0; clear hq_14303
        replace h_14302 : m_curve_Breaks_R4 x_14236 c_14292 c_14295 = some (b_14300, s_14301) := h_14302
        unfold m_curve_Breaks_R4 at h_14302
        refine WC.restr (env' := [(11, (.bool (!x_14050))), (4, (.pointer (some ⟨b_14055, 0, none⟩))), (5, (.pointer (some ⟨b_14057, 0, none⟩))), (17, (.agg #[(.int .i64 x_14236.1.fBurst.fN), (.int .i64 x_14236.1.fBurst.fD), (.int .i64 x_14236.1.fRate.fN), (.int .i64 x_14236.1.fRate.fD)])), (18, (.agg #[(.int .i64 x_14236.2.fBurst.fN), (.int .i64 x_14236.2.fBurst.fD), (.int .i64 x_14236.2.fRate.fN), (.int .i64 x_14236.2.fRate.fD)]))]) (.cons rfl (.cons rfl (.cons rfl (.cons rfl (.cons rfl .nil))))) ?_
        refine WC.eqL (L' := [fz [], stb b_14057 44 [(.slice ao_14293 c_14292.length cap_14294)], row (.slice ao_14293 c_14292.length cap_14294) 28 2 (c_14292.flatMap e28), stb b_14055 74 [(.int .i64 c_14295)], blk lp_14228 (rc_14230 .ready none)]) rfl ?_
        refine WC.seq ?_
        refine WC.region ?_
        refine WL.new (dd := 7) rfl rfl rfl (e_alloc (cs := [(.int .i64 0), (.int .i64 0), (.int .i64 0), (.int .i64 0)]) zeroT_42 rfl) ?_
        intro b_14305 _
        refine WL.eff0 rfl rfl (e_store (vs := [(.int .i64 x_14236.1.fBurst.fN), (.int .i64 x_14236.1.fBurst.fD), (.int .i64 x_14236.1.fRate.fN), (.int .i64 x_14236.1.fRate.fD)]) (ds := [(.int .i64 x_14236.1.fBurst.fN), (.int .i64 x_14236.1.fBurst.fD), (.int .i64 x_14236.1.fRate.fN), (.int .i64 x_14236.1.fRate.fD)]) sizT_42 rfl rfl rfl rfl (oc_cons rfl (oc_cons rfl (oc_cons rfl (oc_cons rfl oc_nil)))) .here (Nat.le_of_ble_eq_true rfl) rfl) ?_
        refine WL.nil ?_
        refine WX.then ?_
        refine WC.region ?_
        refine WL.new (dd := 8) rfl rfl rfl (e_alloc (cs := [(.int .i64 0), (.int .i64 0), (.int .i64 0), (.int .i64 0)]) zeroT_42 rfl) ?_
        intro b_14307 _
        refine WL.eff0 rfl rfl (e_store (vs := [(.int .i64 x_14236.2.fBurst.fN), (.int .i64 x_14236.2.fBurst.fD), (.int .i64 x_14236.2.fRate.fN), (.int .i64 x_14236.2.fRate.fD)]) (ds := [(.int .i64 x_14236.2.fBurst.fN), (.int .i64 x_14236.2.fBurst.fD), (.int .i64 x_14236.2.fRate.fN), (.int .i64 x_14236.2.fRate.fD)]) sizT_42 rfl rfl rfl rfl (oc_cons rfl (oc_cons rfl (oc_cons rfl (oc_cons rfl oc_nil)))) .here (Nat.le_of_ble_eq_true rfl) rfl) ?_
        refine WL.nil ?_
        refine WX.begin hrc_14233 (.there (.there (.there (.there (.there (.there .here)))))) ?_
        refine WC.block ?_
        refine WC.seq ?_
        obtain ⟨x_14308, hx_14309, h_14302⟩ := bind_elim h_14302
        refine WC.region ?_
        refine WL.quiet (d := 19) rfl rfl rfl (q_fieldAddr fo_42_0 rfl rfl) ?_
        refine WL.quiet (d := 20) rfl rfl rfl (q_loadA (cs := [(.int .i64 x_14236.1.fBurst.fN), (.int .i64 x_14236.1.fBurst.fD)]) aggT_28 rfl rfl (rd_sub (s := 2) (.there (.there .here)) rfl)) ?_
        refine WL.quiet (d := 21) rfl rfl rfl (q_fieldAddr fo_42_0 rfl rfl) ?_
        refine WL.quiet (d := 22) rfl rfl rfl (q_loadA (cs := [(.int .i64 x_14236.2.fBurst.fN), (.int .i64 x_14236.2.fBurst.fD)]) aggT_28 rfl rfl (rd_sub (s := 2) (.there .here) rfl)) ?_
        refine WL.callD (dd := 23) rfl rfl rfl (run_call (l := [.tmp 20, .tmp 22]) Try.call17 (.cons rfl (.cons rfl .nil))) (.nil : Sel [blk lp_14228 (rc_14230 .busy none), stb b_14307 42 [(.int .i64 x_14236.2.fBurst.fN), (.int .i64 x_14236.2.fBurst.fD), (.int .i64 x_14236.2.fRate.fN), (.int .i64 x_14236.2.fRate.fD)], stb b_14305 42 [(.int .i64 x_14236.1.fBurst.fN), (.int .i64 x_14236.1.fBurst.fD), (.int .i64 x_14236.1.fRate.fN), (.int .i64 x_14236.1.fRate.fD)], fz [], stb b_14057 44 [(.slice ao_14293 c_14292.length cap_14294)], row (.slice ao_14293 c_14292.length cap_14294) 28 2 (c_14292.flatMap e28), stb b_14055 74 [(.int .i64 c_14295)]] [] [blk lp_14228 (rc_14230 .busy none), stb b_14307 42 [(.int .i64 x_14236.2.fBurst.fN), (.int .i64 x_14236.2.fBurst.fD), (.int .i64 x_14236.2.fRate.fN), (.int .i64 x_14236.2.fRate.fD)], stb b_14305 42 [(.int .i64 x_14236.1.fBurst.fN), (.int .i64 x_14236.1.fBurst.fD), (.int .i64 x_14236.1.fRate.fN), (.int .i64 x_14236.1.fRate.fD)], fz [], stb b_14057 44 [(.slice ao_14293 c_14292.length cap_14294)], row (.slice ao_14293 c_14292.length cap_14294) 28 2 (c_14292.flatMap e28), stb b_14055 74 [(.int .i64 c_14295)]]) (fun w hw => by have pz := (hz.call2 hw (.nil : Sel [blk lp_14228 (rc_14230 .busy none), stb b_14307 42 [(.int .i64 x_14236.2.fBurst.fN), (.int .i64 x_14236.2.fBurst.fD), (.int .i64 x_14236.2.fRate.fN), (.int .i64 x_14236.2.fRate.fD)], stb b_14305 42 [(.int .i64 x_14236.1.fBurst.fN), (.int .i64 x_14236.1.fBurst.fD), (.int .i64 x_14236.1.fRate.fN), (.int .i64 x_14236.1.fRate.fD)], fz [], stb b_14057 44 [(.slice ao_14293 c_14292.length cap_14294)], row (.slice ao_14293 c_14292.length cap_14294) 28 2 (c_14292.flatMap e28), stb b_14055 74 [(.int .i64 c_14295)]] [] [blk lp_14228 (rc_14230 .busy none), stb b_14307 42 [(.int .i64 x_14236.2.fBurst.fN), (.int .i64 x_14236.2.fBurst.fD), (.int .i64 x_14236.2.fRate.fN), (.int .i64 x_14236.2.fRate.fD)], stb b_14305 42 [(.int .i64 x_14236.1.fBurst.fN), (.int .i64 x_14236.1.fBurst.fD), (.int .i64 x_14236.1.fRate.fN), (.int .i64 x_14236.1.fRate.fD)], fz [], stb b_14057 44 [(.slice ao_14293 c_14292.length cap_14294)], row (.slice ao_14293 c_14292.length cap_14294) 28 2 (c_14292.flatMap e28), stb b_14055 74 [(.int .i64 c_14295)]]) (.there (.there (.there .here)))); exact w_rat_Cmp (Z := _)  (x_2033 := x_14236.1.fBurst) (y_2034 := x_14236.2.fBurst) (r := x_14308) w pz  hx_14309) ?_
        refine WL.quiet (d := 24) rfl rfl rfl (q_lss rfl rfl) ?_
        refine WL.nil ?_
        refine WX.then ?_
        refine WC.cond rfl (fun hb_14310 => ?_) (fun hb_14310 => ?_)
        · replace h_14302 := ite_t h_14302 hb_14310
          obtain ⟨x_14311, hx_14312, h_14302⟩ := bind_elim h_14302
          obtain ⟨x_14313, hx_14314, h_14302⟩ := bind_elim h_14302
          obtain ⟨x_14315, hx_14316, h_14302⟩ := bind_elim h_14302
          obtain ⟨c_14318, h_14302⟩ := chk_elim h_14302
          refine WC.draw (fun i => [5, 10, 11, 13, 14].contains i) [stbp b_14057 44 [(0, (.slice ao_14293 c_14292.length cap_14294))], stb b_14305 42 [(.int .i64 x_14236.1.fBurst.fN), (.int .i64 x_14236.1.fBurst.fD), (.int .i64 x_14236.1.fRate.fN), (.int .i64 x_14236.1.fRate.fD)], stb b_14307 42 [(.int .i64 x_14236.2.fBurst.fN), (.int .i64 x_14236.2.fBurst.fD), (.int .i64 x_14236.2.fRate.fN), (.int .i64 x_14236.2.fRate.fD)]] rfl ?_
          refine WD.stable (i := 0) (d := 25) (by kernel_rfl) rfl (readyF_of (by kernel_rfl)) (freeF_of (by kernel_rfl)) rfl rfl rfl (Sin.wk (.cons (.there (.there (.there (.there .here)))) (.cons (.there (.there .here)) (.cons (.there .here) .nil))) (.stb (.cons rfl .nil) (.same (.same .nil)))) (q_load1 oneT_44 rfl (rd_stbp .here (.head _))) ?_
          refine WD.pure (i := 1) (d := 26) (by kernel_rfl) rfl (readyF_of (by kernel_rfl)) (freeF_of (by kernel_rfl)) rfl rfl rfl (fun _ => q_fieldAddr fo_42_0 rfl rfl) ?_
          refine WD.quiet (i := 2) (d := 27) (by kernel_rfl) rfl (readyF_of (by kernel_rfl)) (freeF_of (by kernel_rfl)) rfl rfl rfl (q_loadA (cs := [(.int .i64 x_14236.2.fBurst.fN), (.int .i64 x_14236.2.fBurst.fD)]) aggT_28 rfl rfl (rd_sub (s := 2) (.there .here) rfl)) ?_
          refine WD.pure (i := 3) (d := 28) (by kernel_rfl) rfl (readyF_of (by kernel_rfl)) (freeF_of (by kernel_rfl)) rfl rfl rfl (fun _ => q_fieldAddr fo_42_0 rfl rfl) ?_
          refine WD.quiet (i := 4) (d := 29) (by kernel_rfl) rfl (readyF_of (by kernel_rfl)) (freeF_of (by kernel_rfl)) rfl rfl rfl (q_loadA (cs := [(.int .i64 x_14236.1.fBurst.fN), (.int .i64 x_14236.1.fBurst.fD)]) aggT_28 rfl rfl (rd_sub (s := 2) (.there (.there .here)) rfl)) ?_
          refine WD.pure (i := 6) (d := 31) (by kernel_rfl) rfl (readyF_of (by kernel_rfl)) (freeF_of (by kernel_rfl)) rfl rfl rfl (fun _ => q_fieldAddr fo_42_1 rfl rfl) ?_
          refine WD.stable (i := 7) (d := 32) (by kernel_rfl) rfl (readyF_of (by kernel_rfl)) (freeF_of (by kernel_rfl)) rfl rfl rfl (Sin.wk (.cons (.there (.there (.there (.there .here)))) (.cons (.there (.there .here)) (.cons (.there .here) .nil))) (.stb (.cons rfl .nil) (.same (.same .nil)))) (q_loadA (cs := [(.int .i64 x_14236.1.fRate.fN), (.int .i64 x_14236.1.fRate.fD)]) aggT_28 rfl rfl (rd_sub (s := 2) (.there .here) rfl)) ?_
          refine WD.pure (i := 8) (d := 33) (by kernel_rfl) rfl (readyF_of (by kernel_rfl)) (freeF_of (by kernel_rfl)) rfl rfl rfl (fun _ => q_fieldAddr fo_42_1 rfl rfl) ?_
          refine WD.stable (i := 9) (d := 34) (by kernel_rfl) rfl (readyF_of (by kernel_rfl)) (freeF_of (by kernel_rfl)) rfl rfl rfl (Sin.wk (.cons (.there (.there (.there (.there .here)))) (.cons (.there (.there .here)) (.cons (.there .here) .nil))) (.stb (.cons rfl .nil) (.same (.same .nil)))) (q_loadA (cs := [(.int .i64 x_14236.2.fRate.fN), (.int .i64 x_14236.2.fRate.fD)]) aggT_28 rfl rfl (rd_sub (s := 2) (.there (.there .here)) rfl)) ?_
          refine WD.call0 (i := 5) (dd := 30) rfl (by kernel_rfl) rfl rfl rfl (.inl ⟨rfl, (Sin.wk (.cons (.there (.there (.there (.there (.there .here))))) (.cons (.there (.there (.there .here))) (.cons (.there (.there .here)) .nil))) (.stb (.cons rfl .nil) (.same (.same .nil))))⟩) (run_call (l := [.tmp 4, .func 14, .tmp 27, .tmp 29]) Try.call47 (.cons rfl (.cons rfl (.cons rfl (.cons rfl .nil))))) ((.cons (.there (.there (.there (.there (.there (.there .here)))))) .nil) : Sel [blk lp_14228 (rc_14230 .busy none), stb b_14307 42 [(.int .i64 x_14236.2.fBurst.fN), (.int .i64 x_14236.2.fBurst.fD), (.int .i64 x_14236.2.fRate.fN), (.int .i64 x_14236.2.fRate.fD)], stb b_14305 42 [(.int .i64 x_14236.1.fBurst.fN), (.int .i64 x_14236.1.fBurst.fD), (.int .i64 x_14236.1.fRate.fN), (.int .i64 x_14236.1.fRate.fD)], fz [], stb b_14057 44 [(.slice ao_14293 c_14292.length cap_14294)], row (.slice ao_14293 c_14292.length cap_14294) 28 2 (c_14292.flatMap e28), stb b_14055 74 [(.int .i64 c_14295)]] [stb b_14055 74 [(.int .i64 c_14295)]] [blk lp_14228 (rc_14230 .busy none), stb b_14307 42 [(.int .i64 x_14236.2.fBurst.fN), (.int .i64 x_14236.2.fBurst.fD), (.int .i64 x_14236.2.fRate.fN), (.int .i64 x_14236.2.fRate.fD)], stb b_14305 42 [(.int .i64 x_14236.1.fBurst.fN), (.int .i64 x_14236.1.fBurst.fD), (.int .i64 x_14236.1.fRate.fN), (.int .i64 x_14236.1.fRate.fD)], fz [], stb b_14057 44 [(.slice ao_14293 c_14292.length cap_14294)], row (.slice ao_14293 c_14292.length cap_14294) 28 2 (c_14292.flatMap e28)]) (fun w hw => by have pz := (hz.call2 hw ((.cons (.there (.there (.there (.there (.there (.there .here)))))) .nil) : Sel [blk lp_14228 (rc_14230 .busy none), stb b_14307 42 [(.int .i64 x_14236.2.fBurst.fN), (.int .i64 x_14236.2.fBurst.fD), (.int .i64 x_14236.2.fRate.fN), (.int .i64 x_14236.2.fRate.fD)], stb b_14305 42 [(.int .i64 x_14236.1.fBurst.fN), (.int .i64 x_14236.1.fBurst.fD), (.int .i64 x_14236.1.fRate.fN), (.int .i64 x_14236.1.fRate.fD)], fz [], stb b_14057 44 [(.slice ao_14293 c_14292.length cap_14294)], row (.slice ao_14293 c_14292.length cap_14294) 28 2 (c_14292.flatMap e28), stb b_14055 74 [(.int .i64 c_14295)]] [stb b_14055 74 [(.int .i64 c_14295)]] [blk lp_14228 (rc_14230 .busy none), stb b_14307 42 [(.int .i64 x_14236.2.fBurst.fN), (.int .i64 x_14236.2.fBurst.fD), (.int .i64 x_14236.2.fRate.fN), (.int .i64 x_14236.2.fRate.fD)], stb b_14305 42 [(.int .i64 x_14236.1.fBurst.fN), (.int .i64 x_14236.1.fBurst.fD), (.int .i64 x_14236.1.fRate.fN), (.int .i64 x_14236.1.fRate.fD)], fz [], stb b_14057 44 [(.slice ao_14293 c_14292.length cap_14294)], row (.slice ao_14293 c_14292.length cap_14294) 28 2 (c_14292.flatMap e28)]) (.there (.there (.there .here)))); exact Calls.mono (w_curve_calc_do (Z := _) (b_1733 := b_14055) (fid_1735 := 14) (fcaps_1736 := []) (k_1734 := (⟨c_14295⟩ : Scurve_calc)) (f_1737 := (fun (y0 : Sapi_Rat) (y1 : Sapi_Rat) => m_rat_Sub y0 y1)) (x_1740 := x_14236.2.fBurst) (y_1741 := x_14236.1.fBurst) (r := x_14311) w pz Try.call14 (fun w' hz' y0 y1  r  hr => w_rat_Sub (Z := _)  (x_2968 := y0) (y_2969 := y1) (r := r) w' hz'  hr) hx_14312 (hw.owns ((.cons (.there (.there (.there (.there (.there (.there .here)))))) .nil) : Sel [blk lp_14228 (rc_14230 .busy none), stb b_14307 42 [(.int .i64 x_14236.2.fBurst.fN), (.int .i64 x_14236.2.fBurst.fD), (.int .i64 x_14236.2.fRate.fN), (.int .i64 x_14236.2.fRate.fD)], stb b_14305 42 [(.int .i64 x_14236.1.fBurst.fN), (.int .i64 x_14236.1.fBurst.fD), (.int .i64 x_14236.1.fRate.fN), (.int .i64 x_14236.1.fRate.fD)], fz [], stb b_14057 44 [(.slice ao_14293 c_14292.length cap_14294)], row (.slice ao_14293 c_14292.length cap_14294) 28 2 (c_14292.flatMap e28), stb b_14055 74 [(.int .i64 c_14295)]] [stb b_14055 74 [(.int .i64 c_14295)]] [blk lp_14228 (rc_14230 .busy none), stb b_14307 42 [(.int .i64 x_14236.2.fBurst.fN), (.int .i64 x_14236.2.fBurst.fD), (.int .i64 x_14236.2.fRate.fN), (.int .i64 x_14236.2.fRate.fD)], stb b_14305 42 [(.int .i64 x_14236.1.fBurst.fN), (.int .i64 x_14236.1.fBurst.fD), (.int .i64 x_14236.1.fRate.fN), (.int .i64 x_14236.1.fRate.fD)], fz [], stb b_14057 44 [(.slice ao_14293 c_14292.length cap_14294)], row (.slice ao_14293 c_14292.length cap_14294) 28 2 (c_14292.flatMap e28)]))) (fun _ _ h' => ⟨h'.1, trivial, h'.2⟩)) ?_
          intro _
          refine WD.call0 (i := 10) (dd := 35) rfl (by kernel_rfl) rfl rfl rfl (.inl ⟨rfl, (Sin.wk (.cons (.there (.there (.there (.there (.there .here))))) (.cons (.there (.there (.there .here))) (.cons (.there (.there .here)) .nil))) (.stb (.cons rfl .nil) (.same (.same .nil))))⟩) (run_call (l := [.tmp 4, .func 14, .tmp 32, .tmp 34]) Try.call47 (.cons rfl (.cons rfl (.cons rfl (.cons rfl .nil))))) ((.cons .here .nil) : Sel [stb b_14055 74 [(.int .i64 x_14311.2.fE)], blk lp_14228 (rc_14230 .busy none), stb b_14307 42 [(.int .i64 x_14236.2.fBurst.fN), (.int .i64 x_14236.2.fBurst.fD), (.int .i64 x_14236.2.fRate.fN), (.int .i64 x_14236.2.fRate.fD)], stb b_14305 42 [(.int .i64 x_14236.1.fBurst.fN), (.int .i64 x_14236.1.fBurst.fD), (.int .i64 x_14236.1.fRate.fN), (.int .i64 x_14236.1.fRate.fD)], fz [], stb b_14057 44 [(.slice ao_14293 c_14292.length cap_14294)], row (.slice ao_14293 c_14292.length cap_14294) 28 2 (c_14292.flatMap e28)] [stb b_14055 74 [(.int .i64 x_14311.2.fE)]] [blk lp_14228 (rc_14230 .busy none), stb b_14307 42 [(.int .i64 x_14236.2.fBurst.fN), (.int .i64 x_14236.2.fBurst.fD), (.int .i64 x_14236.2.fRate.fN), (.int .i64 x_14236.2.fRate.fD)], stb b_14305 42 [(.int .i64 x_14236.1.fBurst.fN), (.int .i64 x_14236.1.fBurst.fD), (.int .i64 x_14236.1.fRate.fN), (.int .i64 x_14236.1.fRate.fD)], fz [], stb b_14057 44 [(.slice ao_14293 c_14292.length cap_14294)], row (.slice ao_14293 c_14292.length cap_14294) 28 2 (c_14292.flatMap e28)]) (fun w hw => by have pz := (hz.call2 hw ((.cons .here .nil) : Sel [stb b_14055 74 [(.int .i64 x_14311.2.fE)], blk lp_14228 (rc_14230 .busy none), stb b_14307 42 [(.int .i64 x_14236.2.fBurst.fN), (.int .i64 x_14236.2.fBurst.fD), (.int .i64 x_14236.2.fRate.fN), (.int .i64 x_14236.2.fRate.fD)], stb b_14305 42 [(.int .i64 x_14236.1.fBurst.fN), (.int .i64 x_14236.1.fBurst.fD), (.int .i64 x_14236.1.fRate.fN), (.int .i64 x_14236.1.fRate.fD)], fz [], stb b_14057 44 [(.slice ao_14293 c_14292.length cap_14294)], row (.slice ao_14293 c_14292.length cap_14294) 28 2 (c_14292.flatMap e28)] [stb b_14055 74 [(.int .i64 x_14311.2.fE)]] [blk lp_14228 (rc_14230 .busy none), stb b_14307 42 [(.int .i64 x_14236.2.fBurst.fN), (.int .i64 x_14236.2.fBurst.fD), (.int .i64 x_14236.2.fRate.fN), (.int .i64 x_14236.2.fRate.fD)], stb b_14305 42 [(.int .i64 x_14236.1.fBurst.fN), (.int .i64 x_14236.1.fBurst.fD), (.int .i64 x_14236.1.fRate.fN), (.int .i64 x_14236.1.fRate.fD)], fz [], stb b_14057 44 [(.slice ao_14293 c_14292.length cap_14294)], row (.slice ao_14293 c_14292.length cap_14294) 28 2 (c_14292.flatMap e28)]) (.there (.there (.there .here)))); exact Calls.mono (w_curve_calc_do (Z := _) (b_1733 := b_14055) (fid_1735 := 14) (fcaps_1736 := []) (k_1734 := x_14311.2) (f_1737 := (fun (y0 : Sapi_Rat) (y1 : Sapi_Rat) => m_rat_Sub y0 y1)) (x_1740 := x_14236.1.fRate) (y_1741 := x_14236.2.fRate) (r := x_14313) w pz Try.call14 (fun w' hz' y0 y1  r  hr => w_rat_Sub (Z := _)  (x_2968 := y0) (y_2969 := y1) (r := r) w' hz'  hr) hx_14314 (hw.owns ((.cons .here .nil) : Sel [stb b_14055 74 [(.int .i64 x_14311.2.fE)], blk lp_14228 (rc_14230 .busy none), stb b_14307 42 [(.int .i64 x_14236.2.fBurst.fN), (.int .i64 x_14236.2.fBurst.fD), (.int .i64 x_14236.2.fRate.fN), (.int .i64 x_14236.2.fRate.fD)], stb b_14305 42 [(.int .i64 x_14236.1.fBurst.fN), (.int .i64 x_14236.1.fBurst.fD), (.int .i64 x_14236.1.fRate.fN), (.int .i64 x_14236.1.fRate.fD)], fz [], stb b_14057 44 [(.slice ao_14293 c_14292.length cap_14294)], row (.slice ao_14293 c_14292.length cap_14294) 28 2 (c_14292.flatMap e28)] [stb b_14055 74 [(.int .i64 x_14311.2.fE)]] [blk lp_14228 (rc_14230 .busy none), stb b_14307 42 [(.int .i64 x_14236.2.fBurst.fN), (.int .i64 x_14236.2.fBurst.fD), (.int .i64 x_14236.2.fRate.fN), (.int .i64 x_14236.2.fRate.fD)], stb b_14305 42 [(.int .i64 x_14236.1.fBurst.fN), (.int .i64 x_14236.1.fBurst.fD), (.int .i64 x_14236.1.fRate.fN), (.int .i64 x_14236.1.fRate.fD)], fz [], stb b_14057 44 [(.slice ao_14293 c_14292.length cap_14294)], row (.slice ao_14293 c_14292.length cap_14294) 28 2 (c_14292.flatMap e28)]))) (fun _ _ h' => ⟨h'.1, trivial, h'.2⟩)) ?_
          intro _
          refine WD.call0 (i := 11) (dd := 36) rfl (by kernel_rfl) rfl rfl rfl (.inl ⟨rfl, (Sin.wk (.cons (.there (.there (.there (.there (.there .here))))) (.cons (.there (.there (.there .here))) (.cons (.there (.there .here)) .nil))) (.stb (.cons rfl .nil) (.same (.same .nil))))⟩) (run_call (l := [.tmp 4, .func 21, .tmp 30, .tmp 35]) Try.call47 (.cons rfl (.cons rfl (.cons rfl (.cons rfl .nil))))) ((.cons .here .nil) : Sel [stb b_14055 74 [(.int .i64 x_14313.2.fE)], blk lp_14228 (rc_14230 .busy none), stb b_14307 42 [(.int .i64 x_14236.2.fBurst.fN), (.int .i64 x_14236.2.fBurst.fD), (.int .i64 x_14236.2.fRate.fN), (.int .i64 x_14236.2.fRate.fD)], stb b_14305 42 [(.int .i64 x_14236.1.fBurst.fN), (.int .i64 x_14236.1.fBurst.fD), (.int .i64 x_14236.1.fRate.fN), (.int .i64 x_14236.1.fRate.fD)], fz [], stb b_14057 44 [(.slice ao_14293 c_14292.length cap_14294)], row (.slice ao_14293 c_14292.length cap_14294) 28 2 (c_14292.flatMap e28)] [stb b_14055 74 [(.int .i64 x_14313.2.fE)]] [blk lp_14228 (rc_14230 .busy none), stb b_14307 42 [(.int .i64 x_14236.2.fBurst.fN), (.int .i64 x_14236.2.fBurst.fD), (.int .i64 x_14236.2.fRate.fN), (.int .i64 x_14236.2.fRate.fD)], stb b_14305 42 [(.int .i64 x_14236.1.fBurst.fN), (.int .i64 x_14236.1.fBurst.fD), (.int .i64 x_14236.1.fRate.fN), (.int .i64 x_14236.1.fRate.fD)], fz [], stb b_14057 44 [(.slice ao_14293 c_14292.length cap_14294)], row (.slice ao_14293 c_14292.length cap_14294) 28 2 (c_14292.flatMap e28)]) (fun w hw => by have pz := (hz.call2 hw ((.cons .here .nil) : Sel [stb b_14055 74 [(.int .i64 x_14313.2.fE)], blk lp_14228 (rc_14230 .busy none), stb b_14307 42 [(.int .i64 x_14236.2.fBurst.fN), (.int .i64 x_14236.2.fBurst.fD), (.int .i64 x_14236.2.fRate.fN), (.int .i64 x_14236.2.fRate.fD)], stb b_14305 42 [(.int .i64 x_14236.1.fBurst.fN), (.int .i64 x_14236.1.fBurst.fD), (.int .i64 x_14236.1.fRate.fN), (.int .i64 x_14236.1.fRate.fD)], fz [], stb b_14057 44 [(.slice ao_14293 c_14292.length cap_14294)], row (.slice ao_14293 c_14292.length cap_14294) 28 2 (c_14292.flatMap e28)] [stb b_14055 74 [(.int .i64 x_14313.2.fE)]] [blk lp_14228 (rc_14230 .busy none), stb b_14307 42 [(.int .i64 x_14236.2.fBurst.fN), (.int .i64 x_14236.2.fBurst.fD), (.int .i64 x_14236.2.fRate.fN), (.int .i64 x_14236.2.fRate.fD)], stb b_14305 42 [(.int .i64 x_14236.1.fBurst.fN), (.int .i64 x_14236.1.fBurst.fD), (.int .i64 x_14236.1.fRate.fN), (.int .i64 x_14236.1.fRate.fD)], fz [], stb b_14057 44 [(.slice ao_14293 c_14292.length cap_14294)], row (.slice ao_14293 c_14292.length cap_14294) 28 2 (c_14292.flatMap e28)]) (.there (.there (.there .here)))); exact Calls.mono (w_curve_calc_do (Z := _) (b_1733 := b_14055) (fid_1735 := 21) (fcaps_1736 := []) (k_1734 := x_14313.2) (f_1737 := (fun (y0 : Sapi_Rat) (y1 : Sapi_Rat) => m_rat_Div y0 y1)) (x_1740 := x_14311.1) (y_1741 := x_14313.1) (r := x_14315) w pz Try.call21 (fun w' hz' y0 y1  r  hr => w_rat_Div (Z := _)  (x_9723 := y0) (y_9724 := y1) (r := r) w' hz'  hr) hx_14316 (hw.owns ((.cons .here .nil) : Sel [stb b_14055 74 [(.int .i64 x_14313.2.fE)], blk lp_14228 (rc_14230 .busy none), stb b_14307 42 [(.int .i64 x_14236.2.fBurst.fN), (.int .i64 x_14236.2.fBurst.fD), (.int .i64 x_14236.2.fRate.fN), (.int .i64 x_14236.2.fRate.fD)], stb b_14305 42 [(.int .i64 x_14236.1.fBurst.fN), (.int .i64 x_14236.1.fBurst.fD), (.int .i64 x_14236.1.fRate.fN), (.int .i64 x_14236.1.fRate.fD)], fz [], stb b_14057 44 [(.slice ao_14293 c_14292.length cap_14294)], row (.slice ao_14293 c_14292.length cap_14294) 28 2 (c_14292.flatMap e28)] [stb b_14055 74 [(.int .i64 x_14313.2.fE)]] [blk lp_14228 (rc_14230 .busy none), stb b_14307 42 [(.int .i64 x_14236.2.fBurst.fN), (.int .i64 x_14236.2.fBurst.fD), (.int .i64 x_14236.2.fRate.fN), (.int .i64 x_14236.2.fRate.fD)], stb b_14305 42 [(.int .i64 x_14236.1.fBurst.fN), (.int .i64 x_14236.1.fBurst.fD), (.int .i64 x_14236.1.fRate.fN), (.int .i64 x_14236.1.fRate.fD)], fz [], stb b_14057 44 [(.slice ao_14293 c_14292.length cap_14294)], row (.slice ao_14293 c_14292.length cap_14294) 28 2 (c_14292.flatMap e28)]))) (fun _ _ h' => ⟨h'.1, trivial, h'.2⟩)) ?_
          intro _
          refine WD.new (i := 12) (dd := 37) rfl (by kernel_rfl) rfl rfl rfl (e_buildSlice (cs := ([x_14315.1] : List Sapi_Rat).flatMap e28) elT_44 (Eos.parts (l := [.tmp 36]) (.cons rfl .nil) [0]) (fun _ => by kernel_rfl) rfl (by unfold maxLen; omega)) (fun h' => absurd h' (by decide)) ?_
          intro b_14324 _
          refine WD.old (i := 13) (dd := 38) rfl (by kernel_rfl) rfl rfl rfl rfl (fun _ => (Sin.wk (.cons (.there (.there (.there (.there (.there (.there (.there .here))))))) (.cons (.there (.there (.there (.there (.there .here))))) (.cons (.there (.there (.there (.there .here)))) .nil))) (.stb (.cons rfl .nil) (.same (.same .nil))))) (e_appendF (enc := e28) (l1 := c_14292) (l2 := ([x_14315.1] : List Sapi_Rat)) elT_44 rfl rfl (.there (.there (.there (.there (.there (.there (.there .here))))))) (fun _ => rfl) rfl rfl (news_row .here) (oc_flat e28_oc _) c_14318) ?_
          rintro ⟨ao_14325, cap_14326⟩ _
          refine WD.last0 (i := 14) rfl (by kernel_rfl) rfl rfl rfl (by kernel_rfl) (e_store (vs := [(.slice ao_14325 ((c_14292 ++ ([x_14315.1] : List Sapi_Rat)).length) cap_14326)]) (ds := [(.slice ao_14325 ((c_14292 ++ ([x_14315.1] : List Sapi_Rat)).length) cap_14326)]) sizT_44 rfl rfl rfl rfl (oc_cons rfl oc_nil) (.there (.there (.there (.there (.there (.there (.there .here))))))) (Nat.le_of_ble_eq_true rfl) rfl) ?_
          refine WD.done (by kernel_rfl) ?_
          refine WX.blockNormal ?_
          obtain ⟨rfl, rfl⟩ := rf_inj h_14302
          exact WX.rNormal hrc_14233 (.there (.there (.there (.there .here)))) (fun w' hw' => ⟨(ao_14325, cap_14326), rfl, trivial, (hw'.selAll ((.cons (.there (.there (.there (.there (.there (.there (.there .here))))))) (.cons (.there .here) (.cons (.there .here) (.cons (.there (.there .here)) (.cons .here .nil))))) : Sel _ [fz [], stb b_14057 44 [(.slice ao_14325 ((c_14292 ++ ([x_14315.1] : List Sapi_Rat)).length) cap_14326)], row (.slice ao_14325 ((c_14292 ++ ([x_14315.1] : List Sapi_Rat)).length) cap_14326) 28 2 ((c_14292 ++ ([x_14315.1] : List Sapi_Rat)).flatMap e28), stb b_14055 74 [(.int .i64 x_14315.2.fE)], blk lp_14228 (rc_14230 .ready none)] _)).sub (.cons .here .nil)⟩)
        · replace h_14302 := ite_f h_14302 hb_14310
          refine WC.skip ?_
          refine WX.blockNormal ?_
          obtain ⟨rfl, rfl⟩ := rf_inj h_14302
          exact WX.rNormal hrc_14233 .here (fun w' hw' => ⟨(ao_14293, cap_14294), rfl, trivial, (hw'.selAll ((.cons (.there (.there (.there .here))) (.cons (.there (.there (.there .here))) (.cons (.there (.there (.there .here))) (.cons (.there (.there (.there .here))) (.cons .here .nil))))) : Sel _ [fz [], stb b_14057 44 [(.slice ao_14293 c_14292.length cap_14294)], row (.slice ao_14293 c_14292.length cap_14294) 28 2 (c_14292.flatMap e28), stb b_14055 74 [(.int .i64 c_14295)], blk lp_14228 (rc_14230 .ready none)] _)).sub (.cons .here .nil)⟩)
      · skip
        rintro _ w' ⟨⟨ao_14329, cap_14330⟩, rfl, _, hp⟩
        have hp1 := hw1.call ((.cons .here .nil) : Sel [allA [fz [], stb b_14057 44 [(.slice none (([] : List Sapi_Rat).length) 0)], row (.slice none (([] : List Sapi_Rat).length) 0) 28 2 (([] : List Sapi_Rat).flatMap e28), stb b_14055 74 [(.int .i64 0)], blk lp_14228 (rc_14230 .ready none)], dfr D_14229, stb b_14218 25 [(.slice ao_14220 x_14206.1.length cap_14221)], stb b_14219 25 [(.slice ao_14222 x_14206.2.length cap_14223)], fz Zn_14203] [allA [fz [], stb b_14057 44 [(.slice none (([] : List Sapi_Rat).length) 0)], row (.slice none (([] : List Sapi_Rat).length) 0) 28 2 (([] : List Sapi_Rat).flatMap e28), stb b_14055 74 [(.int .i64 0)], blk lp_14228 (rc_14230 .ready none)]] [dfr D_14229, stb b_14218 25 [(.slice ao_14220 x_14206.1.length cap_14221)], stb b_14219 25 [(.slice ao_14222 x_14206.2.length cap_14223)], fz Zn_14203]) hp
        have hp2 : Hp _ _ w' [fz [], stb b_14057 44 [(.slice ao_14329 y_14297.2.1.length cap_14330)], row (.slice ao_14329 y_14297.2.1.length cap_14330) 28 2 (y_14297.2.1.flatMap e28), stb b_14055 74 [(.int .i64 y_14297.2.2)], blk lp_14228 (rc_14230 (rdy (pcs [] y_14297.1)) (pcs [] y_14297.1)), dfr D_14229, stb b_14218 25 [(.slice ao_14220 x_14206.1.length cap_14221)], stb b_14219 25 [(.slice ao_14222 x_14206.2.length cap_14223)], fz Zn_14203] := hp1.pickAll .here
        refine ⟨_, pcs [] y_14297.1, _, rfl, (hp2.sub ((.cons (.there (.there (.there (.there .here)))) (.cons .here (.cons .here (.cons .here (.cons .here (.cons .here (.cons .here (.cons .here (.cons .here .nil))))))))) : Sel _ [blk lp_14228 (rc_14230 (rdy (pcs [] y_14297.1)) (pcs [] y_14297.1)), fz [], stb b_14057 44 [(.slice ao_14329 y_14297.2.1.length cap_14330)], row (.slice ao_14329 y_14297.2.1.length cap_14330) 28 2 (y_14297.2.1.flatMap e28), stb b_14055 74 [(.int .i64 y_14297.2.2)], dfr D_14229, stb b_14218 25 [(.slice ao_14220 x_14206.1.length cap_14221)], stb b_14219 25 [(.slice ao_14222 x_14206.2.length cap_14223)], fz Zn_14203] _)), ?_⟩
        clear hp hp1 hp2 pz hw hw1
        refine wjN ?_
        letI : Rnd := aft D_14229
        refine WX.merge .here (.there (.there (.there (.there (.there (.there .here)))))) ?_
        refine WX.blockNormal ?_
        exact WX.midR (D := fun (g : Nat × Int × List Sapi_Rat × Zp × Option Addr × Nat) => g.1) (G := Nat × Int × List Sapi_Rat × Zp × Option Addr × Nat) ⟨D_14229, y_14297.2.2, y_14297.2.1, (Zn_14203 ++ []), ao_14329, cap_14330⟩ ⟨h, (hle_14204.trans ((Zle.left _ _).trans (Zle.assoc _ _ _)))⟩ (.cons rfl (.cons rfl .nil)) (.cons .here (.cons (.there (.there .here)) (.cons .here (.cons .here (.cons .here .nil)))))
    · rintro D_14200 c_14196 c_14197 Zn_14194 ao_14198 cap_14199 ⟨h, hle_14195⟩
      replace h := (hk_14202 c_14196 c_14197).symm.trans h
      letI : Rnd := aft D_14200
      refine WC.seq ?_
      refine WC.seq ?_
      refine WC.region ?_
      refine WL.quiet (d := 39) rfl rfl rfl (q_fieldAddr fo_74_0 rfl rfl) ?_
      refine WL.quiet (d := 40) rfl rfl rfl (q_load1 oneT_30 rfl (rd_stb (.there .here) rfl)) ?_
      refine WL.quiet (d := 41) rfl rfl rfl (q_neq rfl rfl) ?_
      refine WL.nil ?_
      refine WX.then ?_
      refine WC.cond rfl (fun hb_14332 => ?_) (fun hb_14332 => ?_)
      · replace h := ite_t h hb_14332
        refine WC.seq ?_
        refine WC.draw (fun i => [].contains i) [] rfl ?_
        refine WD.pure (i := 0) (d := 42) (by kernel_rfl) rfl (readyF_of (by kernel_rfl)) (freeF_of (by kernel_rfl)) rfl rfl rfl (fun _ => q_fieldAddr fo_74_0 rfl rfl) ?_
        refine WD.quiet (i := 1) (d := 43) (by kernel_rfl) rfl (readyF_of (by kernel_rfl)) (freeF_of (by kernel_rfl)) rfl rfl rfl (q_load1 oneT_30 rfl (rd_stb (.there .here) rfl)) ?_
        refine WD.pure (i := 2) (d := 2) (by kernel_rfl) rfl (readyF_of (by kernel_rfl)) (freeF_of (by kernel_rfl)) rfl rfl rfl (fun _ => q_assign rfl) ?_
        refine WD.pure (i := 3) (d := 3) (by kernel_rfl) rfl (readyF_of (by kernel_rfl)) (freeF_of (by kernel_rfl)) rfl rfl rfl (fun _ => q_assign rfl) ?_
        refine WD.done (by kernel_rfl) ?_
        refine WX.then ?_
        refine WC.ret ?_
        refine WX.thenRet ?_
        refine WX.nilRow 28 2 ?_
        obtain rfl := Option.some.inj h
        refine WX.bpRetD (.there (.there (.there (.there (.there .here))))) Try.results20 (.tmp rfl (.tmp rfl .nil)) (fun w hw => ?_)
        exact ⟨Zn_14194, none, 0, ret2 rfl rfl, trivial, hw.sub (.cons (.there (.there .here)) (.cons (.there .here) .nil))⟩
      · replace h := ite_f h hb_14332
        refine WC.skip ?_
        refine WX.then ?_
        refine WC.seq ?_
        obtain ⟨x_14334, hx_14335, h⟩ := bind_elim h
        refine WC.region ?_
        refine WL.quiet (d := 44) rfl rfl rfl (q_load1 oneT_44 rfl (rd_stb (.there (.there .here)) rfl)) ?_
        refine WL.enter0 (dd := 45) rfl rfl rfl (run_call (l := [.tmp 44, .func 17]) Try.call48 (.cons rfl (.cons rfl .nil))) ((.cons (.there (.there (.there .here))) .nil) : Sel [fz Zn_14194, stb b_14055 74 [(.int .i64 c_14196)], stb b_14057 44 [(.slice ao_14198 c_14197.length cap_14199)], row (.slice ao_14198 c_14197.length cap_14199) 28 2 (c_14197.flatMap e28), dfr D_14200] [row (.slice ao_14198 c_14197.length cap_14199) 28 2 (c_14197.flatMap e28)] [fz Zn_14194, stb b_14055 74 [(.int .i64 c_14196)], stb b_14057 44 [(.slice ao_14198 c_14197.length cap_14199)], dfr D_14200]) (fun w hw => by have pz := (hz.call2 hw ((.cons (.there (.there (.there .here))) .nil) : Sel [fz Zn_14194, stb b_14055 74 [(.int .i64 c_14196)], stb b_14057 44 [(.slice ao_14198 c_14197.length cap_14199)], row (.slice ao_14198 c_14197.length cap_14199) 28 2 (c_14197.flatMap e28), dfr D_14200] [row (.slice ao_14198 c_14197.length cap_14199) 28 2 (c_14197.flatMap e28)] [fz Zn_14194, stb b_14055 74 [(.int .i64 c_14196)], stb b_14057 44 [(.slice ao_14198 c_14197.length cap_14199)], dfr D_14200]) .here); exact w_slices_SortFunc_api_Rat_api_Rat (Z := _) (ao_10076 := ao_14198) (cap_10077 := cap_14199) (fid_10078 := 17) (fcaps_10079 := []) (x_10075 := c_14197) (f_10080 := (fun (y0 : Sapi_Rat) (y1 : Sapi_Rat) => m_rat_Cmp y0 y1)) (r := x_14334) w pz Try.call17 (fun w' hz' y0 y1  r  hr => w_rat_Cmp (Z := _)  (x_2033 := y0) (y_2034 := y1) (r := r) w' hz'  hr) hx_14335 (hw.owns ((.cons (.there (.there (.there .here))) .nil) : Sel [fz Zn_14194, stb b_14055 74 [(.int .i64 c_14196)], stb b_14057 44 [(.slice ao_14198 c_14197.length cap_14199)], row (.slice ao_14198 c_14197.length cap_14199) 28 2 (c_14197.flatMap e28), dfr D_14200] [row (.slice ao_14198 c_14197.length cap_14199) 28 2 (c_14197.flatMap e28)] [fz Zn_14194, stb b_14055 74 [(.int .i64 c_14196)], stb b_14057 44 [(.slice ao_14198 c_14197.length cap_14199)], dfr D_14200]))) ?_
        rintro  hf_14337
        refine WL.restb (cs' := [(.slice ao_14198 x_14334.length cap_14199)]) (.there (.there (.there .here))) (by rw [hf_14337]) ?_
        refine WL.nil ?_
        refine WX.then ?_
        refine WC.seq ?_
        obtain ⟨x_14338, hx_14339, h⟩ := bind_elim h
        refine WC.region ?_
        refine WL.quiet (d := 46) rfl rfl rfl (q_load1 oneT_44 rfl (rd_stb .here rfl)) ?_
        refine WL.enter2 (dd := 47) rfl rfl rfl (run_call (l := [.tmp 46]) Try.call49 (.cons rfl .nil)) ((.cons (.there .here) .nil) : Sel [stb b_14057 44 [(.slice ao_14198 x_14334.length cap_14199)], row (.slice ao_14198 x_14334.length cap_14199) 28 2 (x_14334.flatMap e28), fz Zn_14194, stb b_14055 74 [(.int .i64 c_14196)], dfr D_14200] [row (.slice ao_14198 x_14334.length cap_14199) 28 2 (x_14334.flatMap e28)] [stb b_14057 44 [(.slice ao_14198 x_14334.length cap_14199)], fz Zn_14194, stb b_14055 74 [(.int .i64 c_14196)], dfr D_14200]) (fun w hw => by have pz := (hz.call2 hw ((.cons (.there .here) .nil) : Sel [stb b_14057 44 [(.slice ao_14198 x_14334.length cap_14199)], row (.slice ao_14198 x_14334.length cap_14199) 28 2 (x_14334.flatMap e28), fz Zn_14194, stb b_14055 74 [(.int .i64 c_14196)], dfr D_14200] [row (.slice ao_14198 x_14334.length cap_14199) 28 2 (x_14334.flatMap e28)] [stb b_14057 44 [(.slice ao_14198 x_14334.length cap_14199)], fz Zn_14194, stb b_14055 74 [(.int .i64 c_14196)], dfr D_14200]) (.there .here)); exact w_slices_Compact_api_Rat_api_Rat (Z := _) (ao_10167 := ao_14198) (cap_10168 := cap_14199) (s_10166 := x_14334) (r := x_14338) w pz  hx_14339 (hw.owns ((.cons (.there .here) .nil) : Sel [stb b_14057 44 [(.slice ao_14198 x_14334.length cap_14199)], row (.slice ao_14198 x_14334.length cap_14199) 28 2 (x_14334.flatMap e28), fz Zn_14194, stb b_14055 74 [(.int .i64 c_14196)], dfr D_14200] [row (.slice ao_14198 x_14334.length cap_14199) 28 2 (x_14334.flatMap e28)] [stb b_14057 44 [(.slice ao_14198 x_14334.length cap_14199)], fz Zn_14194, stb b_14055 74 [(.int .i64 c_14196)], dfr D_14200]))) ?_
        rintro ao_14342 cap_14343 _
        refine WL.quiet (d := 2) rfl rfl rfl (q_assign rfl) ?_
        refine WL.quiet (d := 3) rfl rfl rfl (q_assign rfl) ?_
        refine WL.nil ?_
        refine WX.then ?_
        refine WC.ret ?_
        obtain rfl := Option.some.inj h
        refine WX.bpRetD (.there (.there (.there (.there .here)))) Try.results20 (.tmp rfl (.tmp rfl .nil)) (fun w hw => ?_)
        exact ⟨Zn_14194, ao_14342, cap_14343, ret2 rfl rfl, trivial, hw.sub (.cons (.there (.there (.there .here))) (.cons (.there .here) .nil))⟩
def m_curve_Shift_L2 (c_14406 : List Sapi_Bucket) (t_14410 : Sapi_Rat) (k_14930 : (List Sapi_Bucket) → Int → Option (List Sapi_Bucket × Int)) : Nat → (List Sapi_Bucket) → Int → Int → Option (List Sapi_Bucket × Int)
  | 0, _, _, _ => none
  | n_14994 + 1, out_14987, v_14990, c_14991 => if decide (v_14990 < ((c_14406.length : Nat) : Int)) then chk ((0 : Int) ≤ v_14990 ∧ v_14990 < ((c_14406.length : Nat) : Int)) ((m_curve_calc_value (⟨c_14991⟩ : Scurve_calc) (⟨(⟨(((nth c_14406 v_14990).fBurst).fN), (((nth c_14406 v_14990).fBurst).fD)⟩ : Sapi_Rat), (⟨(((nth c_14406 v_14990).fRate).fN), (((nth c_14406 v_14990).fRate).fD)⟩ : Sapi_Rat)⟩ : Sapi_Bucket) t_14410).bind fun x_15031 => chk ((((out_14987 ++ ([(⟨x_15031.1, (⟨(((nth c_14406 v_14990).fRate).fN), (((nth c_14406 v_14990).fRate).fD)⟩ : Sapi_Rat)⟩ : Sapi_Bucket)] : List Sapi_Bucket)).length : Nat) : Int) * 32 ≤ 140737488355328 ∧ (((out_14987 ++ ([(⟨x_15031.1, (⟨(((nth c_14406 v_14990).fRate).fN), (((nth c_14406 v_14990).fRate).fD)⟩ : Sapi_Rat)⟩ : Sapi_Bucket)] : List Sapi_Bucket)).length : Nat) : Int) ≤ 4611686018427387904) (m_curve_Shift_L2 c_14406 t_14410 k_14930 n_14994 (out_14987 ++ ([(⟨x_15031.1, (⟨(((nth c_14406 v_14990).fRate).fN), (((nth c_14406 v_14990).fRate).fD)⟩ : Sapi_Rat)⟩ : Sapi_Bucket)] : List Sapi_Bucket)) (i64 (v_14990 + 1)) x_15031.2.fE)) else k_14930 out_14987 c_14991
theorem m_curve_Shift_L2_fuel {n : Nat} {c_14406 : List Sapi_Bucket} {t_14410 : Sapi_Rat} {k_14930 : (List Sapi_Bucket) → Int → Option (List Sapi_Bucket × Int)} {out_14987 : List Sapi_Bucket} {v_14990 : Int} {c_14991 : Int} {r : List Sapi_Bucket × Int} (h : m_curve_Shift_L2 c_14406 t_14410 k_14930 n out_14987 v_14990 c_14991 = some r) : ∃ m, n = m + 1 := by
  cases n with
  | zero => cases h
  | succ m => exact ⟨m, rfl⟩

/-- curve.Shift -/
def m_curve_Shift (c_14406 : List Sapi_Bucket) (t_14410 : Sapi_Rat) : Option (List Sapi_Bucket × Int) :=
  (m_curve_Valid c_14406).bind fun x_14747 => (if !x_14747 then some true else (m_curve_good t_14410).bind fun x_14749 => some (!x_14749)).bind fun b_14751 => if b_14751 then some (([] : List Sapi_Bucket), 2) else jp2 (fun (out_14926 : List Sapi_Bucket) (c_14929 : Int) => if decide (c_14929 ≠ 0) then some (([] : List Sapi_Bucket), c_14929) else (m_curve_norm out_14926).bind fun x_15046 => some (x_15046, 0)) fun k_14930 => m_curve_Shift_L2 c_14406 t_14410 k_14930 FUEL ([] : List Sapi_Bucket) 0 0

set_option maxRecDepth 20000 in
theorem w_curve_Shift (Z : Zp)  (ao_14407 : Option Addr) (cap_14408 : Nat) (c_14406 : List Sapi_Bucket) (t_14410 : Sapi_Rat) (r : List Sapi_Bucket × Int) (w₀ : World) (hz : PZ [] w₀ Z)
    (hs_14409 : ZS Z 4 (fun r x => r = e42 x) ao_14407 cap_14408 c_14406)
    (h : m_curve_Shift c_14406 t_14410 = some r) :
    Calls Try.prog 34 #[(.slice ao_14407 c_14406.length cap_14408), (.agg #[(.int .i64 t_14410.fN), (.int .i64 t_14410.fD)])] w₀ fun e w' => ∃ ao_14731 : Option Addr, ∃ cap_14732 : Nat, e = .returned (.tuple #[(.slice ao_14731 r.1.length cap_14732), (.int .i64 r.2)]) ∧ True ∧ Hp [] w₀ w' [row (.slice ao_14731 r.1.length cap_14732) 42 4 (r.1.flatMap e42)] := by
  unfold m_curve_Shift at h
  refine Calls.ofWC (vs := [(.slice ao_14407 c_14406.length cap_14408), (.agg #[(.int .i64 t_14410.fN), (.int .i64 t_14410.fD)])]) (pre := []) (env := [(0, (.slice ao_14407 c_14406.length cap_14408)), (1, (.agg #[(.int .i64 t_14410.fN), (.int .i64 t_14410.fD)]))]) Try.func34 rfl Try.ntmps34 rfl (Hp.nil w₀ _) rfl ?_
  refine WC.seq ?_
  refine WC.region ?_
  refine WL.new (dd := 3) rfl rfl rfl (e_box (cs := [(.int .i64 t_14410.fN), (.int .i64 t_14410.fD)]) rfl rfl) ?_
  intro b_14735 _
  refine WL.quiet (d := 4) rfl rfl rfl (q_assign rfl) ?_
  refine WL.quiet (d := 5) rfl rfl rfl (q_assign rfl) ?_
  refine WL.nil ?_
  refine WX.then ?_
  refine WC.seq ?_
  refine WC.seq ?_
  obtain ⟨x_14747, hx_14748, h⟩ := bind_elim h
  obtain ⟨b_14751, hb_14752, h⟩ := bind_elim h
  refine WC.region ?_
  refine WL.quiet (d := 10) rfl rfl rfl (q_move rfl) ?_
  refine WL.callD (dd := 11) rfl rfl rfl (run_call (l := [.tmp 10]) Try.call26 (.cons rfl .nil)) (.nil : Sel [stb b_14735 28 [(.int .i64 t_14410.fN), (.int .i64 t_14410.fD)]] [] [stb b_14735 28 [(.int .i64 t_14410.fN), (.int .i64 t_14410.fD)]]) (fun w hw => by have pz := (hz.call hw (.nil : Sel [stb b_14735 28 [(.int .i64 t_14410.fN), (.int .i64 t_14410.fD)]] [] [stb b_14735 28 [(.int .i64 t_14410.fN), (.int .i64 t_14410.fD)]])); exact w_curve_Valid (Z := _) (ao_1187 := ao_14407) (cap_1188 := cap_14408) (c_1186 := c_14406) (r := x_14747) w pz hs_14409 hx_14748) ?_
  refine WL.quiet (d := 12) rfl rfl rfl (q_not rfl) ?_
  refine WL.quiet (d := 13) rfl rfl rfl (q_move rfl) ?_
  refine WL.cut0 True [(0, (.slice ao_14407 c_14406.length cap_14408)), (3, (.pointer (some ⟨b_14735, 0, none⟩))), (17, (.bool b_14751))] [stb b_14735 28 [(.int .i64 t_14410.fN), (.int .i64 t_14410.fD)]] 4 ?_ (fun _ => ?_)
  · rcases Bool.eq_false_or_eq_true (!x_14747) with hb' | hb'
    · have hg_14753 := hb'; clear hb'
      have hq_14754 := ite_t hb_14752 hg_14753
      replace hq_14754 := Option.some.inj hq_14754
      refine WL.pin (i := 13) rfl hg_14753 ?_
      refine WL.skip rfl rfl rfl ?_
      refine WL.skip rfl rfl rfl ?_
      refine WL.skip rfl rfl rfl ?_
      refine WL.quiet (d := 17) rfl rfl rfl (q_pickT rfl rfl) ?_
      exact WL.cutEnd () trivial (.cons rfl (.cons rfl (.cons (some_bool hq_14754) .nil))) (.cons .here .nil)
    · have hg_14755 := hb'; clear hb'
      have hq_14756 := ite_f hb_14752 hg_14755
      obtain ⟨x_14749, hx_14750, hq_14756⟩ := bind_elim hq_14756
      replace hq_14756 := Option.some.inj hq_14756
      refine WL.pin (i := 13) rfl hg_14755 ?_
      refine WL.quiet (d := 14) rfl rfl rfl (q_loadA (cs := [(.int .i64 t_14410.fN), (.int .i64 t_14410.fD)]) aggT_28 rfl rfl (rd_all .here)) ?_
      refine WL.callD (dd := 15) rfl rfl rfl (run_call (l := [.tmp 14]) Try.call50 (.cons rfl .nil)) (.nil : Sel [stb b_14735 28 [(.int .i64 t_14410.fN), (.int .i64 t_14410.fD)]] [] [stb b_14735 28 [(.int .i64 t_14410.fN), (.int .i64 t_14410.fD)]]) (fun w hw => by have pz := (hz.call hw (.nil : Sel [stb b_14735 28 [(.int .i64 t_14410.fN), (.int .i64 t_14410.fD)]] [] [stb b_14735 28 [(.int .i64 t_14410.fN), (.int .i64 t_14410.fD)]])); exact w_curve_good (Z := _)  (x_1193 := t_14410) (r := x_14749) w pz  hx_14750) ?_
      refine WL.quiet (d := 16) rfl rfl rfl (q_not rfl) ?_
      refine WL.quiet (d := 17) rfl rfl rfl (q_pickF rfl rfl) ?_
      exact WL.cutEnd () trivial (.cons rfl (.cons rfl (.cons (some_bool hq_14756) .nil))) (.cons .here .nil)
  · skip
    refine WL.nil ?_
    refine WX.then ?_
    refine WC.cond rfl (fun hb_14757 => ?_) (fun hb_14757 => ?_)
    · replace h := ite_t h hb_14757
      refine WC.seq ?_
      refine WC.region ?_
      refine WL.quiet (d := 4) rfl rfl rfl (q_assign rfl) ?_
      refine WL.quiet (d := 5) rfl rfl rfl (q_assign rfl) ?_
      refine WL.nil ?_
      refine WX.then ?_
      refine WC.ret ?_
      refine WX.thenRet ?_
      refine WX.nilRow 42 4 ?_
      obtain rfl := Option.some.inj h
      refine WX.bpRet Try.results34 (.tmp rfl (.tmp rfl .nil)) (fun w hw => ?_)
      exact ⟨none, 0, ret2 rfl rfl, trivial, hw.sub (.cons .here .nil)⟩
    · replace h := ite_f h hb_14757
      refine WC.skip ?_
      refine WX.then ?_
      refine WC.seq ?_
      refine WC.region ?_
      refine WL.new (dd := 6) rfl rfl rfl (e_alloc (cs := [(.int .i64 0)]) zeroT_74 rfl) ?_
      intro b_14760 _
      refine WL.nil ?_
      refine WX.then ?_
      refine WC.seq ?_
      refine WC.region ?_
      refine WL.quiet (d := 7) rfl rfl rfl (q_assign rfl) ?_
      refine WL.nil ?_
      refine WX.then ?_
      obtain ⟨k_14930, hk_14931, h⟩ := jp2_elim h
      refine WC.seqMid4 (fun (out_14926 : List Sapi_Bucket) (c_14929 : Int) (ao_14927 : Option Addr) (cap_14928 : Nat) => (k_14930 out_14926 c_14929 = some r)) (fun (out_14926 : List Sapi_Bucket) (c_14929 : Int) (ao_14927 : Option Addr) (cap_14928 : Nat) => [(6, (.pointer (some ⟨b_14760, 0, none⟩))), (7, (.slice ao_14927 out_14926.length cap_14928))]) (fun (out_14926 : List Sapi_Bucket) (c_14929 : Int) (ao_14927 : Option Addr) (cap_14928 : Nat) => [row (.slice ao_14927 out_14926.length cap_14928) 42 4 (out_14926.flatMap e42), stb b_14760 74 [(.int .i64 c_14929)]]) ?_ ?_
      · skip
        refine WC.seq ?_
        refine WC.region ?_
        refine WL.quiet (d := 18) rfl rfl rfl (q_move rfl) ?_
        refine WL.quiet (d := 19) rfl rfl rfl (q_len Try.underlying25 rfl) ?_
        refine WL.quiet (d := 20) rfl rfl rfl (q_move rfl) ?_
        refine WL.nil ?_
        refine WX.then ?_
        refine WC.block ?_
        refine WC.nilRow 42 4 ?_
        refine WC.loop6 (fun (n_14992 : Nat) (out_14987 : List Sapi_Bucket) (v_14990 : Int) (c_14991 : Int) (ao_14988 : Option Addr) (cap_14989 : Nat) => (m_curve_Shift_L2 c_14406 t_14410 k_14930 n_14992 out_14987 v_14990 c_14991 = some r)) (fun (n_14992 : Nat) (out_14987 : List Sapi_Bucket) (v_14990 : Int) (c_14991 : Int) (ao_14988 : Option Addr) (cap_14989 : Nat) => [(3, (.pointer (some ⟨b_14735, 0, none⟩))), (6, (.pointer (some ⟨b_14760, 0, none⟩))), (7, (.slice ao_14988 out_14987.length cap_14989)), (18, (.slice ao_14407 c_14406.length cap_14408)), (19, (.int .i64 ((c_14406.length : Nat) : Int))), (20, (.int .i64 v_14990))]) (fun (n_14992 : Nat) (out_14987 : List Sapi_Bucket) (v_14990 : Int) (c_14991 : Int) (ao_14988 : Option Addr) (cap_14989 : Nat) => [row (.slice ao_14988 out_14987.length cap_14989) 42 4 (out_14987.flatMap e42), stb b_14735 28 [(.int .i64 t_14410.fN), (.int .i64 t_14410.fD)], stb b_14760 74 [(.int .i64 c_14991)]]) (fun (n_14992 : Nat) (out_14987 : List Sapi_Bucket) (v_14990 : Int) (c_14991 : Int) (ao_14988 : Option Addr) (cap_14989 : Nat) => n_14992) ⟨FUEL, ([] : List Sapi_Bucket), 0, 0, none, 0⟩ h (.cons rfl (.cons rfl (.cons rfl (.cons rfl (.cons rfl (.cons rfl .nil)))))) (.cons .here (.cons (.there .here) (.cons .here .nil))) ?_
        rintro n_14992 out_14987 v_14990 c_14991 ao_14988 cap_14989 h
        obtain ⟨n_14994, rfl⟩ := m_curve_Shift_L2_fuel h
        rw [m_curve_Shift_L2] at h
        refine WC.seq ?_
        refine WC.region ?_
        refine WL.quiet (d := 21) rfl rfl rfl (q_lss rfl rfl) ?_
        refine WL.nil ?_
        refine WX.then ?_
        refine WC.seq ?_
        refine WC.cond rfl (fun hb_14996 => ?_) (fun hb_14996 => ?_)
        · replace h := ite_t h hb_14996
          refine WC.skip ?_
          refine WX.then ?_
          refine WC.seq ?_
          refine WC.block ?_
          refine WC.seq ?_
          obtain ⟨c_15020, h⟩ := chk_elim h
          refine WC.region ?_
          refine WL.znth (dd := 22) rfl rfl (Z := Z) (Pr := (fun r x => r = e42 x)) elT_25 rfl rfl hs_14409 c_15020 ?_
          rintro A_15026 r_15027 hA_15028 hl_15029 rfl
          refine WL.quiet (d := 23) rfl rfl rfl (q_loadA (cs := [(.int .i64 (((nth c_14406 v_14990).fBurst).fN)), (.int .i64 (((nth c_14406 v_14990).fBurst).fD)), (.int .i64 (((nth c_14406 v_14990).fRate).fN)), (.int .i64 (((nth c_14406 v_14990).fRate).fD))]) aggT_42 rfl rfl (rd_zs hz.pv hA_15028)) ?_
          refine WL.new (dd := 9) rfl rfl rfl (e_alloc (cs := [(.int .i64 0), (.int .i64 0), (.int .i64 0), (.int .i64 0)]) zeroT_42 rfl) ?_
          intro b_15030 _
          refine WL.eff0 rfl rfl (e_store (vs := [(.int .i64 (((nth c_14406 v_14990).fBurst).fN)), (.int .i64 (((nth c_14406 v_14990).fBurst).fD)), (.int .i64 (((nth c_14406 v_14990).fRate).fN)), (.int .i64 (((nth c_14406 v_14990).fRate).fD))]) (ds := [(.int .i64 (((nth c_14406 v_14990).fBurst).fN)), (.int .i64 (((nth c_14406 v_14990).fBurst).fD)), (.int .i64 (((nth c_14406 v_14990).fRate).fN)), (.int .i64 (((nth c_14406 v_14990).fRate).fD))]) sizT_42 rfl rfl rfl rfl (oc_cons rfl (oc_cons rfl (oc_cons rfl (oc_cons rfl oc_nil)))) .here (Nat.le_of_ble_eq_true rfl) rfl) ?_
          refine WL.nil ?_
          refine WX.then ?_
          obtain ⟨x_15031, hx_15032, h⟩ := bind_elim h
          obtain ⟨c_15034, h⟩ := chk_elim h
          refine WC.draw (fun i => [3, 8].contains i) [stb b_15030 42 [(.int .i64 (((nth c_14406 v_14990).fBurst).fN)), (.int .i64 (((nth c_14406 v_14990).fBurst).fD)), (.int .i64 (((nth c_14406 v_14990).fRate).fN)), (.int .i64 (((nth c_14406 v_14990).fRate).fD))]] rfl ?_
          refine WD.pure (i := 0) (d := 24) (by kernel_rfl) rfl (readyF_of (by kernel_rfl)) (freeF_of (by kernel_rfl)) rfl rfl rfl (fun _ => q_move rfl) ?_
          refine WD.quiet (i := 1) (d := 25) (by kernel_rfl) rfl (readyF_of (by kernel_rfl)) (freeF_of (by kernel_rfl)) rfl rfl rfl (q_loadA (cs := [(.int .i64 (((nth c_14406 v_14990).fBurst).fN)), (.int .i64 (((nth c_14406 v_14990).fBurst).fD)), (.int .i64 (((nth c_14406 v_14990).fRate).fN)), (.int .i64 (((nth c_14406 v_14990).fRate).fD))]) aggT_42 rfl rfl (rd_all .here)) ?_
          refine WD.quiet (i := 2) (d := 26) (by kernel_rfl) rfl (readyF_of (by kernel_rfl)) (freeF_of (by kernel_rfl)) rfl rfl rfl (q_loadA (cs := [(.int .i64 t_14410.fN), (.int .i64 t_14410.fD)]) aggT_28 rfl rfl (rd_all (.there (.there .here)))) ?_
          refine WD.pure (i := 4) (d := 28) (by kernel_rfl) rfl (readyF_of (by kernel_rfl)) (freeF_of (by kernel_rfl)) rfl rfl rfl (fun _ => q_fieldAddr fo_42_1 rfl rfl) ?_
          refine WD.stable (i := 5) (d := 29) (by kernel_rfl) rfl (readyF_of (by kernel_rfl)) (freeF_of (by kernel_rfl)) rfl rfl rfl (Sin.of (.cons .here .nil)) (q_loadA (cs := [(.int .i64 (((nth c_14406 v_14990).fRate).fN)), (.int .i64 (((nth c_14406 v_14990).fRate).fD))]) aggT_28 rfl rfl (rd_sub (s := 2) .here rfl)) ?_
          refine WD.call0 (i := 3) (dd := 27) rfl (by kernel_rfl) rfl rfl rfl (.inl ⟨rfl, (Sin.of (.cons (.there .here) .nil))⟩) (run_call (l := [.tmp 6, .tmp 25, .tmp 26]) Try.call51 (.cons rfl (.cons rfl (.cons rfl .nil)))) ((.cons (.there (.there (.there .here))) .nil) : Sel [stb b_15030 42 [(.int .i64 (((nth c_14406 v_14990).fBurst).fN)), (.int .i64 (((nth c_14406 v_14990).fBurst).fD)), (.int .i64 (((nth c_14406 v_14990).fRate).fN)), (.int .i64 (((nth c_14406 v_14990).fRate).fD))], row (.slice ao_14988 out_14987.length cap_14989) 42 4 (out_14987.flatMap e42), stb b_14735 28 [(.int .i64 t_14410.fN), (.int .i64 t_14410.fD)], stb b_14760 74 [(.int .i64 c_14991)]] [stb b_14760 74 [(.int .i64 c_14991)]] [stb b_15030 42 [(.int .i64 (((nth c_14406 v_14990).fBurst).fN)), (.int .i64 (((nth c_14406 v_14990).fBurst).fD)), (.int .i64 (((nth c_14406 v_14990).fRate).fN)), (.int .i64 (((nth c_14406 v_14990).fRate).fD))], row (.slice ao_14988 out_14987.length cap_14989) 42 4 (out_14987.flatMap e42), stb b_14735 28 [(.int .i64 t_14410.fN), (.int .i64 t_14410.fD)]]) (fun w hw => by have pz := (hz.call hw ((.cons (.there (.there (.there .here))) .nil) : Sel [stb b_15030 42 [(.int .i64 (((nth c_14406 v_14990).fBurst).fN)), (.int .i64 (((nth c_14406 v_14990).fBurst).fD)), (.int .i64 (((nth c_14406 v_14990).fRate).fN)), (.int .i64 (((nth c_14406 v_14990).fRate).fD))], row (.slice ao_14988 out_14987.length cap_14989) 42 4 (out_14987.flatMap e42), stb b_14735 28 [(.int .i64 t_14410.fN), (.int .i64 t_14410.fD)], stb b_14760 74 [(.int .i64 c_14991)]] [stb b_14760 74 [(.int .i64 c_14991)]] [stb b_15030 42 [(.int .i64 (((nth c_14406 v_14990).fBurst).fN)), (.int .i64 (((nth c_14406 v_14990).fBurst).fD)), (.int .i64 (((nth c_14406 v_14990).fRate).fN)), (.int .i64 (((nth c_14406 v_14990).fRate).fD))], row (.slice ao_14988 out_14987.length cap_14989) 42 4 (out_14987.flatMap e42), stb b_14735 28 [(.int .i64 t_14410.fN), (.int .i64 t_14410.fD)]])); exact Calls.mono (w_curve_calc_value (Z := _) (b_1768 := b_14760) (k_1769 := (⟨c_14991⟩ : Scurve_calc)) (b_1770 := (⟨(⟨(((nth c_14406 v_14990).fBurst).fN), (((nth c_14406 v_14990).fBurst).fD)⟩ : Sapi_Rat), (⟨(((nth c_14406 v_14990).fRate).fN), (((nth c_14406 v_14990).fRate).fD)⟩ : Sapi_Rat)⟩ : Sapi_Bucket)) (t_1771 := t_14410) (r := x_15031) w pz  hx_15032 (hw.owns ((.cons (.there (.there (.there .here))) .nil) : Sel [stb b_15030 42 [(.int .i64 (((nth c_14406 v_14990).fBurst).fN)), (.int .i64 (((nth c_14406 v_14990).fBurst).fD)), (.int .i64 (((nth c_14406 v_14990).fRate).fN)), (.int .i64 (((nth c_14406 v_14990).fRate).fD))], row (.slice ao_14988 out_14987.length cap_14989) 42 4 (out_14987.flatMap e42), stb b_14735 28 [(.int .i64 t_14410.fN), (.int .i64 t_14410.fD)], stb b_14760 74 [(.int .i64 c_14991)]] [stb b_14760 74 [(.int .i64 c_14991)]] [stb b_15030 42 [(.int .i64 (((nth c_14406 v_14990).fBurst).fN)), (.int .i64 (((nth c_14406 v_14990).fBurst).fD)), (.int .i64 (((nth c_14406 v_14990).fRate).fN)), (.int .i64 (((nth c_14406 v_14990).fRate).fD))], row (.slice ao_14988 out_14987.length cap_14989) 42 4 (out_14987.flatMap e42), stb b_14735 28 [(.int .i64 t_14410.fN), (.int .i64 t_14410.fD)]]))) (fun _ _ h' => ⟨h'.1, trivial, h'.2⟩)) ?_
          intro _
          refine WD.quiet (i := 6) (d := 30) (by kernel_rfl) rfl (readyF_of (by kernel_rfl)) (freeF_of (by kernel_rfl)) rfl rfl rfl (q_build (v := (.agg #[(.int .i64 x_15031.1.fN), (.int .i64 x_15031.1.fD), (.int .i64 (((nth c_14406 v_14990).fRate).fN)), (.int .i64 (((nth c_14406 v_14990).fRate).fD))])) (Eos.parts (l := [.tmp 27, .tmp 29]) (.cons rfl (.cons rfl .nil)) [0, 1]) (fun _ => by kernel_rfl)) ?_
          refine WD.new (i := 7) (dd := 31) rfl (by kernel_rfl) rfl rfl rfl (e_buildSlice (cs := ([(⟨x_15031.1, (⟨(((nth c_14406 v_14990).fRate).fN), (((nth c_14406 v_14990).fRate).fD)⟩ : Sapi_Rat)⟩ : Sapi_Bucket)] : List Sapi_Bucket).flatMap e42) elT_25 (Eos.parts (l := [.tmp 30]) (.cons rfl .nil) [0]) (fun _ => by kernel_rfl) rfl (by unfold maxLen; omega)) (fun h' => absurd h' (by decide)) ?_
          intro b_15040 _
          refine WD.old (i := 8) (dd := 32) rfl (by kernel_rfl) rfl rfl rfl rfl (fun _ => (Sin.of (.cons (.there (.there (.there .here))) .nil))) (e_appendF (enc := e42) (l1 := out_14987) (l2 := ([(⟨x_15031.1, (⟨(((nth c_14406 v_14990).fRate).fN), (((nth c_14406 v_14990).fRate).fD)⟩ : Sapi_Rat)⟩ : Sapi_Bucket)] : List Sapi_Bucket)) elT_25 rfl rfl (.there (.there (.there .here))) (fun _ => rfl) rfl rfl (news_row .here) (oc_flat e42_oc _) c_15034) ?_
          rintro ⟨ao_15041, cap_15042⟩ _
          refine WD.pure (i := 9) (d := 7) (by kernel_rfl) rfl (readyF_of (by kernel_rfl)) (freeF_of (by kernel_rfl)) rfl rfl rfl (fun _ => q_assign rfl) ?_
          refine WD.done (by kernel_rfl) ?_
          refine WX.blockNormal ?_
          refine WX.then ?_
          refine WC.region ?_
          refine WL.quiet (d := 33) rfl rfl rfl (q_add rfl rfl rfl) ?_
          refine WL.quiet (d := 20) rfl rfl rfl (q_move rfl) ?_
          refine WL.nil ?_
          exact WX.round (G := Nat × List Sapi_Bucket × Int × Int × Option Addr × Nat) ⟨n_14994, (out_14987 ++ ([(⟨x_15031.1, (⟨(((nth c_14406 v_14990).fRate).fN), (((nth c_14406 v_14990).fRate).fD)⟩ : Sapi_Rat)⟩ : Sapi_Bucket)] : List Sapi_Bucket)), (i64 (v_14990 + 1)), x_15031.2.fE, ao_15041, cap_15042⟩ h (Nat.lt_succ_self _) (.cons rfl (.cons rfl (.cons rfl (.cons rfl (.cons rfl (.cons rfl .nil)))))) (.cons .here (.cons (.there (.there (.there .here))) (.cons (.there .here) .nil)))
        · replace h := ite_f h hb_14996
          refine WC.exit ?_
          refine WX.thenExit ?_
          refine WX.thenExit ?_
          refine WX.blockHit ?_
          exact WX.mid (G := List Sapi_Bucket × Int × Option Addr × Nat) ⟨out_14987, c_14991, ao_14988, cap_14989⟩ h (.cons rfl (.cons rfl .nil)) (.cons .here (.cons (.there .here) .nil))
      · rintro out_14926 c_14929 ao_14927 cap_14928 h
        replace h := (hk_14931 out_14926 c_14929).symm.trans h
        refine WC.seq ?_
        refine WC.seq ?_
        refine WC.region ?_
        refine WL.quiet (d := 34) rfl rfl rfl (q_fieldAddr fo_74_0 rfl rfl) ?_
        refine WL.quiet (d := 35) rfl rfl rfl (q_load1 oneT_30 rfl (rd_stb (.there .here) rfl)) ?_
        refine WL.quiet (d := 36) rfl rfl rfl (q_neq rfl rfl) ?_
        refine WL.nil ?_
        refine WX.then ?_
        refine WC.cond rfl (fun hb_15044 => ?_) (fun hb_15044 => ?_)
        · replace h := ite_t h hb_15044
          refine WC.seq ?_
          refine WC.draw (fun i => [].contains i) [] rfl ?_
          refine WD.pure (i := 0) (d := 37) (by kernel_rfl) rfl (readyF_of (by kernel_rfl)) (freeF_of (by kernel_rfl)) rfl rfl rfl (fun _ => q_fieldAddr fo_74_0 rfl rfl) ?_
          refine WD.quiet (i := 1) (d := 38) (by kernel_rfl) rfl (readyF_of (by kernel_rfl)) (freeF_of (by kernel_rfl)) rfl rfl rfl (q_load1 oneT_30 rfl (rd_stb (.there .here) rfl)) ?_
          refine WD.pure (i := 2) (d := 4) (by kernel_rfl) rfl (readyF_of (by kernel_rfl)) (freeF_of (by kernel_rfl)) rfl rfl rfl (fun _ => q_assign rfl) ?_
          refine WD.pure (i := 3) (d := 5) (by kernel_rfl) rfl (readyF_of (by kernel_rfl)) (freeF_of (by kernel_rfl)) rfl rfl rfl (fun _ => q_assign rfl) ?_
          refine WD.done (by kernel_rfl) ?_
          refine WX.then ?_
          refine WC.ret ?_
          refine WX.thenRet ?_
          refine WX.nilRow 42 4 ?_
          obtain rfl := Option.some.inj h
          refine WX.bpRet Try.results34 (.tmp rfl (.tmp rfl .nil)) (fun w hw => ?_)
          exact ⟨none, 0, ret2 rfl rfl, trivial, hw.sub (.cons .here .nil)⟩
        · replace h := ite_f h hb_15044
          refine WC.skip ?_
          refine WX.then ?_
          refine WC.seq ?_
          obtain ⟨x_15046, hx_15047, h⟩ := bind_elim h
          refine WC.region ?_
          refine WL.quiet (d := 39) rfl rfl rfl (q_move rfl) ?_
          refine WL.enter2 (dd := 40) rfl rfl rfl (run_call (l := [.tmp 39]) Try.call45 (.cons rfl .nil)) (.nil : Sel [row (.slice ao_14927 out_14926.length cap_14928) 42 4 (out_14926.flatMap e42), stb b_14760 74 [(.int .i64 c_14929)]] [] [row (.slice ao_14927 out_14926.length cap_14928) 42 4 (out_14926.flatMap e42), stb b_14760 74 [(.int .i64 c_14929)]]) (fun w hw => by have pz := (hz.call hw (.nil : Sel [row (.slice ao_14927 out_14926.length cap_14928) 42 4 (out_14926.flatMap e42), stb b_14760 74 [(.int .i64 c_14929)]] [] [row (.slice ao_14927 out_14926.length cap_14928) 42 4 (out_14926.flatMap e42), stb b_14760 74 [(.int .i64 c_14929)]])).lend hw (.nil : Sel [row (.slice ao_14927 out_14926.length cap_14928) 42 4 (out_14926.flatMap e42), stb b_14760 74 [(.int .i64 c_14929)]] [] [row (.slice ao_14927 out_14926.length cap_14928) 42 4 (out_14926.flatMap e42), stb b_14760 74 [(.int .i64 c_14929)]]) (B := [row (.slice ao_14927 out_14926.length cap_14928) 42 4 (out_14926.flatMap e42)]) (fun _ hx' => ((.cons .here .nil) : Sel _ [row (.slice ao_14927 out_14926.length cap_14928) 42 4 (out_14926.flatMap e42)] _).mem hx'); exact w_curve_norm (Z := _) (ao_3789 := ao_14927) (cap_3790 := cap_14928) (c_3788 := out_14926) (r := x_15046) w pz (ZA.row (hw.lent (.nil : Sel [row (.slice ao_14927 out_14926.length cap_14928) 42 4 (out_14926.flatMap e42), stb b_14760 74 [(.int .i64 c_14929)]] [] [row (.slice ao_14927 out_14926.length cap_14928) 42 4 (out_14926.flatMap e42), stb b_14760 74 [(.int .i64 c_14929)]]) (B := [row (.slice ao_14927 out_14926.length cap_14928) 42 4 (out_14926.flatMap e42)]) (fun _ hx' => ((.cons .here .nil) : Sel _ [row (.slice ao_14927 out_14926.length cap_14928) 42 4 (out_14926.flatMap e42)] _).mem hx') (.head _) _) (RR.flat (enc := e42) (fun _ => rfl) _) ⟨w, pz.1⟩) hx_15047) ?_
          rintro ao_15051 cap_15052 _
          refine WL.quiet (d := 4) rfl rfl rfl (q_assign rfl) ?_
          refine WL.quiet (d := 5) rfl rfl rfl (q_assign rfl) ?_
          refine WL.nil ?_
          refine WX.then ?_
          refine WC.ret ?_
          obtain rfl := Option.some.inj h
          refine WX.bpRet Try.results34 (.tmp rfl (.tmp rfl .nil)) (fun w hw => ?_)
          exact ⟨ao_15051, cap_15052, ret2 rfl rfl, trivial, hw.sub (.cons .here .nil)⟩
def m_curve_Sum_R4  (x_15634 : Sapi_Bucket × Sapi_Bucket) (c_15680 : List Sapi_Bucket) (c_15683 : Int) : Option (Bool × (Nat × List Sapi_Bucket × Int)) :=
  (m_curve_calc_do (⟨c_15683⟩ : Scurve_calc) (fun (y0 : Sapi_Rat) (y1 : Sapi_Rat) => m_rat_Add y0 y1) x_15634.1.fBurst x_15634.2.fBurst).bind fun x_15696 => (m_curve_calc_do x_15696.2 (fun (y0 : Sapi_Rat) (y1 : Sapi_Rat) => m_rat_Add y0 y1) x_15634.1.fRate x_15634.2.fRate).bind fun x_15698 => chk ((((c_15680 ++ ([(⟨x_15696.1, x_15698.1⟩ : Sapi_Bucket)] : List Sapi_Bucket)).length : Nat) : Int) * 32 ≤ 140737488355328 ∧ (((c_15680 ++ ([(⟨x_15696.1, x_15698.1⟩ : Sapi_Bucket)] : List Sapi_Bucket)).length : Nat) : Int) ≤ 4611686018427387904) (some (true, (0, (c_15680 ++ ([(⟨x_15696.1, x_15698.1⟩ : Sapi_Bucket)] : List Sapi_Bucket)), x_15698.2.fE)))

/-- curve.Sum -/
def m_curve_Sum (a_15119 : List Sapi_Bucket) (b_15123 : List Sapi_Bucket) : Option (List Sapi_Bucket × Int) :=
  (m_curve_Valid a_15119).bind fun x_15438 => (if !x_15438 then some true else (m_curve_Valid b_15123).bind fun x_15440 => some (!x_15440)).bind fun b_15442 => if b_15442 then some (([] : List Sapi_Bucket), 2) else (m_curve_norm a_15119).bind fun x_15450 => (m_curve_norm b_15123).bind fun x_15455 => if decide ((i64 (((x_15450.length : Nat) : Int) * ((x_15455.length : Nat) : Int))) > 32) then some (([] : List Sapi_Bucket), 5) else jp2 (fun (c_15591 : Int) (c_15592 : List Sapi_Bucket) => if decide (c_15591 ≠ 0) then some (([] : List Sapi_Bucket), c_15591) else (m_curve_norm c_15592).bind fun x_15717 => some (x_15717, 0)) fun k_15596 => (m_curve_pairs x_15450 x_15455).bind fun x_15604 => (m_curve_pairs_1 (Nat × List Sapi_Bucket × Int) (fun (x : Sapi_Bucket × Sapi_Bucket) (s : Nat × List Sapi_Bucket × Int) => chk (s.1 = 0) (m_curve_Sum_R4 x s.2.1 s.2.2)) (0, ([] : List Sapi_Bucket), 0) x_15604.1 x_15604.2).bind fun y_15685 => k_15596 y_15685.2.2 y_15685.2.1

set_option maxRecDepth 20000 in
theorem w_curve_Sum (Z : Zp)  (ao_15120 : Option Addr) (cap_15121 : Nat) (ao_15124 : Option Addr) (cap_15125 : Nat) (a_15119 : List Sapi_Bucket) (b_15123 : List Sapi_Bucket) (r : List Sapi_Bucket × Int) (w₀ : World) (hz : PZ [] w₀ Z)
    (hs_15122 : ZS Z 4 (fun r x => r = e42 x) ao_15120 cap_15121 a_15119)
    (hs_15126 : ZS Z 4 (fun r x => r = e42 x) ao_15124 cap_15125 b_15123)
    (h : m_curve_Sum a_15119 b_15123 = some r) :
    Calls Try.prog 30 #[(.slice ao_15120 a_15119.length cap_15121), (.slice ao_15124 b_15123.length cap_15125)] w₀ fun e w' => ∃ Zn : Zp, ∃ ao_15424 : Option Addr, ∃ cap_15425 : Nat, e = .returned (.tuple #[(.slice ao_15424 r.1.length cap_15425), (.int .i64 r.2)]) ∧ True ∧ Hp [] w₀ w' [fz Zn, row (.slice ao_15424 r.1.length cap_15425) 42 4 (r.1.flatMap e42)] := by
  unfold m_curve_Sum at h
  refine Calls.ofWCM (vs := [(.slice ao_15120 a_15119.length cap_15121), (.slice ao_15124 b_15123.length cap_15125)]) (pre := []) (env := [(0, (.slice ao_15120 a_15119.length cap_15121)), (1, (.slice ao_15124 b_15123.length cap_15125))]) Try.func30 rfl Try.ntmps30 rfl (Hp.nil w₀ _) rfl ?_
  refine WC.pool ?_
  refine WC.seq ?_
  refine WC.region ?_
  refine WL.quiet (d := 4) rfl rfl rfl (q_assign rfl) ?_
  refine WL.quiet (d := 5) rfl rfl rfl (q_assign rfl) ?_
  refine WL.nil ?_
  refine WX.then ?_
  refine WC.seq ?_
  refine WC.seq ?_
  obtain ⟨x_15438, hx_15439, h⟩ := bind_elim h
  obtain ⟨b_15442, hb_15443, h⟩ := bind_elim h
  refine WC.region ?_
  refine WL.quiet (d := 10) rfl rfl rfl (q_move rfl) ?_
  refine WL.callD (dd := 11) rfl rfl rfl (run_call (l := [.tmp 10]) Try.call26 (.cons rfl .nil)) (.nil : Sel [fz []] [] [fz []]) (fun w hw => by have pz := (hz.call2 hw (.nil : Sel [fz []] [] [fz []]) .here); exact w_curve_Valid (Z := _) (ao_1187 := ao_15120) (cap_1188 := cap_15121) (c_1186 := a_15119) (r := x_15438) w pz (hs_15122.mono (Zle.left _ _)) hx_15439) ?_
  refine WL.quiet (d := 12) rfl rfl rfl (q_not rfl) ?_
  refine WL.quiet (d := 13) rfl rfl rfl (q_move rfl) ?_
  refine WL.cut0 True [(0, (.slice ao_15120 a_15119.length cap_15121)), (1, (.slice ao_15124 b_15123.length cap_15125)), (17, (.bool b_15442))] [fz []] 4 ?_ (fun _ => ?_)
  · rcases Bool.eq_false_or_eq_true (!x_15438) with hb' | hb'
    · have hg_15444 := hb'; clear hb'
      have hq_15445 := ite_t hb_15443 hg_15444
      replace hq_15445 := Option.some.inj hq_15445
      refine WL.pin (i := 13) rfl hg_15444 ?_
      refine WL.skip rfl rfl rfl ?_
      refine WL.skip rfl rfl rfl ?_
      refine WL.skip rfl rfl rfl ?_
      refine WL.quiet (d := 17) rfl rfl rfl (q_pickT rfl rfl) ?_
      exact WL.cutEnd () trivial (.cons rfl (.cons rfl (.cons (some_bool hq_15445) .nil))) (.cons .here .nil)
    · have hg_15446 := hb'; clear hb'
      have hq_15447 := ite_f hb_15443 hg_15446
      obtain ⟨x_15440, hx_15441, hq_15447⟩ := bind_elim hq_15447
      replace hq_15447 := Option.some.inj hq_15447
      refine WL.pin (i := 13) rfl hg_15446 ?_
      refine WL.quiet (d := 14) rfl rfl rfl (q_move rfl) ?_
      refine WL.callD (dd := 15) rfl rfl rfl (run_call (l := [.tmp 14]) Try.call26 (.cons rfl .nil)) (.nil : Sel [fz []] [] [fz []]) (fun w hw => by have pz := (hz.call2 hw (.nil : Sel [fz []] [] [fz []]) .here); exact w_curve_Valid (Z := _) (ao_1187 := ao_15124) (cap_1188 := cap_15125) (c_1186 := b_15123) (r := x_15440) w pz (hs_15126.mono (Zle.left _ _)) hx_15441) ?_
      refine WL.quiet (d := 16) rfl rfl rfl (q_not rfl) ?_
      refine WL.quiet (d := 17) rfl rfl rfl (q_pickF rfl rfl) ?_
      exact WL.cutEnd () trivial (.cons rfl (.cons rfl (.cons (some_bool hq_15447) .nil))) (.cons .here .nil)
  · skip
    refine WL.nil ?_
    refine WX.then ?_
    refine WC.cond rfl (fun hb_15448 => ?_) (fun hb_15448 => ?_)
    · replace h := ite_t h hb_15448
      refine WC.seq ?_
      refine WC.region ?_
      refine WL.quiet (d := 4) rfl rfl rfl (q_assign rfl) ?_
      refine WL.quiet (d := 5) rfl rfl rfl (q_assign rfl) ?_
      refine WL.nil ?_
      refine WX.then ?_
      refine WC.ret ?_
      refine WX.thenRet ?_
      refine WX.nilRow 42 4 ?_
      obtain rfl := Option.some.inj h
      refine WX.bpRetM Try.results30 (.tmp rfl (.tmp rfl .nil)) (fun w hw => ?_)
      exact ⟨[], none, 0, ret2 rfl rfl, trivial, hw.sub (.cons (.there .here) (.cons .here .nil))⟩
    · replace h := ite_f h hb_15448
      refine WC.skip ?_
      refine WX.then ?_
      refine WC.seq ?_
      obtain ⟨x_15450, hx_15451, h⟩ := bind_elim h
      obtain ⟨x_15455, hx_15456, h⟩ := bind_elim h
      refine WC.region ?_
      refine WL.quiet (d := 18) rfl rfl rfl (q_move rfl) ?_
      refine WL.enter2 (dd := 19) rfl rfl rfl (run_call (l := [.tmp 18]) Try.call45 (.cons rfl .nil)) (.nil : Sel [fz []] [] [fz []]) (fun w hw => by have pz := (hz.call2 hw (.nil : Sel [fz []] [] [fz []]) .here); exact w_curve_norm (Z := _) (ao_3789 := ao_15120) (cap_3790 := cap_15121) (c_3788 := a_15119) (r := x_15450) w pz (hs_15122.mono (Zle.left _ _)) hx_15451) ?_
      rintro ao_15460 cap_15461 _
      refine WL.quiet (d := 20) rfl rfl rfl (q_move rfl) ?_
      refine WL.enter2 (dd := 21) rfl rfl rfl (run_call (l := [.tmp 20]) Try.call45 (.cons rfl .nil)) (.nil : Sel [row (.slice ao_15460 x_15450.length cap_15461) 42 4 (x_15450.flatMap e42), fz []] [] [row (.slice ao_15460 x_15450.length cap_15461) 42 4 (x_15450.flatMap e42), fz []]) (fun w hw => by have pz := (hz.call2 hw (.nil : Sel [row (.slice ao_15460 x_15450.length cap_15461) 42 4 (x_15450.flatMap e42), fz []] [] [row (.slice ao_15460 x_15450.length cap_15461) 42 4 (x_15450.flatMap e42), fz []]) (.there .here)); exact w_curve_norm (Z := _) (ao_3789 := ao_15124) (cap_3790 := cap_15125) (c_3788 := b_15123) (r := x_15455) w pz (hs_15126.mono (Zle.left _ _)) hx_15456) ?_
      rintro ao_15463 cap_15464 _
      refine WL.quiet (d := 0) rfl rfl rfl (q_assign rfl) ?_
      refine WL.quiet (d := 1) rfl rfl rfl (q_assign rfl) ?_
      refine WL.nil ?_
      refine WX.then ?_
      refine WC.seq ?_
      refine WC.seq ?_
      refine WC.region ?_
      refine WL.quiet (d := 22) rfl rfl rfl (q_move rfl) ?_
      refine WL.quiet (d := 23) rfl rfl rfl (q_len Try.underlying25 rfl) ?_
      refine WL.quiet (d := 24) rfl rfl rfl (q_move rfl) ?_
      refine WL.quiet (d := 25) rfl rfl rfl (q_len Try.underlying25 rfl) ?_
      refine WL.quiet (d := 26) rfl rfl rfl (q_mul rfl rfl rfl) ?_
      refine WL.quiet (d := 27) rfl rfl rfl (q_gtr rfl rfl) ?_
      refine WL.nil ?_
      refine WX.then ?_
      refine WC.cond rfl (fun hb_15467 => ?_) (fun hb_15467 => ?_)
      · replace h := ite_t h hb_15467
        refine WC.seq ?_
        refine WC.region ?_
        refine WL.quiet (d := 4) rfl rfl rfl (q_assign rfl) ?_
        refine WL.quiet (d := 5) rfl rfl rfl (q_assign rfl) ?_
        refine WL.nil ?_
        refine WX.then ?_
        refine WC.ret ?_
        refine WX.thenRet ?_
        refine WX.nilRow 42 4 ?_
        obtain rfl := Option.some.inj h
        refine WX.bpRetM Try.results30 (.tmp rfl (.tmp rfl .nil)) (fun w hw => ?_)
        exact ⟨[], none, 0, ret2 rfl rfl, trivial, hw.sub (.cons (.there (.there (.there .here))) (.cons .here .nil))⟩
      · replace h := ite_f h hb_15467
        refine WC.skip ?_
        refine WX.then ?_
        refine WC.seq ?_
        refine WC.region ?_
        refine WL.new (dd := 6) rfl rfl rfl (e_alloc (cs := [(.int .i64 0)]) zeroT_74 rfl) ?_
        intro b_15470 _
        refine WL.nil ?_
        refine WX.then ?_
        refine WC.seq ?_
        refine WC.region ?_
        refine WL.new (dd := 7) rfl rfl rfl (e_alloc (cs := [(.slice none 0 0)]) zeroT_25 rfl) ?_
        intro b_15472 _
        refine WL.nil ?_
        refine WX.then ?_
        obtain ⟨k_15596, hk_15597, h⟩ := jp2_elim h
        refine WC.seqMidR6 (fun (D_15595 : Nat) (c_15591 : Int) (c_15592 : List Sapi_Bucket) (Zn_15589 : Zp) (ao_15593 : Option Addr) (cap_15594 : Nat) => (k_15596 c_15591 c_15592 = some r) ∧ (Zle (Z ++ []) (Z ++ Zn_15589))) (fun (D_15595 : Nat) (c_15591 : Int) (c_15592 : List Sapi_Bucket) (Zn_15589 : Zp) (ao_15593 : Option Addr) (cap_15594 : Nat) => [(6, (.pointer (some ⟨b_15470, 0, none⟩))), (7, (.pointer (some ⟨b_15472, 0, none⟩)))]) (fun (D_15595 : Nat) (c_15591 : Int) (c_15592 : List Sapi_Bucket) (Zn_15589 : Zp) (ao_15593 : Option Addr) (cap_15594 : Nat) => [fz Zn_15589, stb b_15470 74 [(.int .i64 c_15591)], stb b_15472 25 [(.slice ao_15593 c_15592.length cap_15594)], row (.slice ao_15593 c_15592.length cap_15594) 42 4 (c_15592.flatMap e42), dfr D_15595]) ?_ ?_
        · skip
          refine WC.seq ?_
          refine WC.freezeS (ls := x_15450) (.there (.there (.there .here))) (.there (.there (.there .here))) hz (RR.flat (enc := e42) (fun _ => rfl) _) ?_
          intro Zn_15598 hle_15599 hf_15600
          refine WC.freezeS (ls := x_15455) (.there (.there (.there .here))) .here hz (RR.flat (enc := e42) (fun _ => rfl) _) ?_
          intro Zn_15601 hle_15602 hf_15603
          obtain ⟨x_15604, hx_15605, h⟩ := bind_elim h
          refine WC.region ?_
          refine WL.quiet (d := 28) rfl rfl rfl (q_move rfl) ?_
          refine WL.quiet (d := 29) rfl rfl rfl (q_move rfl) ?_
          refine WL.enter6 (dd := 30) rfl rfl rfl (run_call (l := [.tmp 28, .tmp 29]) Try.call46 (.cons rfl (.cons rfl .nil))) (.nil : Sel [fz Zn_15601, stb b_15472 25 [(.slice none 0 0)], stb b_15470 74 [(.int .i64 0)]] [] [fz Zn_15601, stb b_15472 25 [(.slice none 0 0)], stb b_15470 74 [(.int .i64 0)]]) (fun w hw => by have pz := (hz.call2 hw (.nil : Sel [fz Zn_15601, stb b_15472 25 [(.slice none 0 0)], stb b_15470 74 [(.int .i64 0)]] [] [fz Zn_15601, stb b_15472 25 [(.slice none 0 0)], stb b_15470 74 [(.int .i64 0)]]) .here); exact w_curve_pairs (Z := _) (ao_4966 := ao_15460) (cap_4967 := cap_15461) (ao_4970 := ao_15463) (cap_4971 := cap_15464) (a_4965 := x_15450) (b_4969 := x_15455) (r := x_15604) w pz (hf_15600.mono hle_15602) hf_15603 hx_15605) ?_
          rintro b_15616 b_15617 ao_15618 cap_15619 ao_15620 cap_15621 ⟨hf_15622, hf_15623⟩
          refine WL.nil ?_
          refine WX.then ?_
          refine WC.block ?_
          refine WC.pool ?_
          refine WC.drop (.cons .here (.cons (.there (.there (.there .here))) (.cons (.there (.there (.there .here))) (.cons .here (.cons .here (.cons .here .nil)))))) ?_
          refine WC.nilRow 42 4 ?_
          refine WC.rangeFunc (f := 73) (caps := [(.pointer (some ⟨b_15616, 0, none⟩)), (.pointer (some ⟨b_15617, 0, none⟩))]) rfl Try.call73 ?_
          intro fn_15629 tm_15630 lp_15626 D_15627 rc_15628 hrc_15631 hev_15632 hsz_15633 w hw
          have hw1 := hw.selAll ((.cons (.there (.there (.there .here))) (.cons (.there (.there (.there .here))) (.cons (.there (.there .here)) (.cons (.there (.there .here)) (.cons .here .nil))))) : Sel _ [fz [], stb b_15472 25 [(.slice none (([] : List Sapi_Bucket).length) 0)], row (.slice none (([] : List Sapi_Bucket).length) 0) 42 4 (([] : List Sapi_Bucket).flatMap e42), stb b_15470 74 [(.int .i64 0)], blk lp_15626 (rc_15628 .ready none)] _)
          have pz := (hz.call2 hw1 ((.cons .here .nil) : Sel [allA [fz [], stb b_15472 25 [(.slice none (([] : List Sapi_Bucket).length) 0)], row (.slice none (([] : List Sapi_Bucket).length) 0) 42 4 (([] : List Sapi_Bucket).flatMap e42), stb b_15470 74 [(.int .i64 0)], blk lp_15626 (rc_15628 .ready none)], dfr D_15627, stb b_15616 25 [(.slice ao_15618 x_15604.1.length cap_15619)], stb b_15617 25 [(.slice ao_15620 x_15604.2.length cap_15621)], fz Zn_15601] [allA [fz [], stb b_15472 25 [(.slice none (([] : List Sapi_Bucket).length) 0)], row (.slice none (([] : List Sapi_Bucket).length) 0) 42 4 (([] : List Sapi_Bucket).flatMap e42), stb b_15470 74 [(.int .i64 0)], blk lp_15626 (rc_15628 .ready none)]] [dfr D_15627, stb b_15616 25 [(.slice ao_15618 x_15604.1.length cap_15619)], stb b_15617 25 [(.slice ao_15620 x_15604.2.length cap_15621)], fz Zn_15601]) (.there (.there (.there .here)))).lend hw1 ((.cons .here .nil) : Sel [allA [fz [], stb b_15472 25 [(.slice none (([] : List Sapi_Bucket).length) 0)], row (.slice none (([] : List Sapi_Bucket).length) 0) 42 4 (([] : List Sapi_Bucket).flatMap e42), stb b_15470 74 [(.int .i64 0)], blk lp_15626 (rc_15628 .ready none)], dfr D_15627, stb b_15616 25 [(.slice ao_15618 x_15604.1.length cap_15619)], stb b_15617 25 [(.slice ao_15620 x_15604.2.length cap_15621)], fz Zn_15601] [allA [fz [], stb b_15472 25 [(.slice none (([] : List Sapi_Bucket).length) 0)], row (.slice none (([] : List Sapi_Bucket).length) 0) 42 4 (([] : List Sapi_Bucket).flatMap e42), stb b_15470 74 [(.int .i64 0)], blk lp_15626 (rc_15628 .ready none)]] [dfr D_15627, stb b_15616 25 [(.slice ao_15618 x_15604.1.length cap_15619)], stb b_15617 25 [(.slice ao_15620 x_15604.2.length cap_15621)], fz Zn_15601]) (B := [stb b_15616 25 [(.slice ao_15618 x_15604.1.length cap_15619)], stb b_15617 25 [(.slice ao_15620 x_15604.2.length cap_15621)]]) (fun _ hx' => ((.cons (.there .here) (.cons (.there .here) .nil)) : Sel _ [stb b_15616 25 [(.slice ao_15618 x_15604.1.length cap_15619)], stb b_15617 25 [(.slice ao_15620 x_15604.2.length cap_15621)]] _).mem hx')
          obtain ⟨y_15685, hy_15686, h⟩ := bind_elim h
          refine Calls.mono (w_curve_pairs_1 (Z := _) (lp_5041 := lp_15626) (Gg_5042 := (Option Addr × Nat)) (J_5043 := (fun (g : Option Addr × Nat) (s : Nat × List Sapi_Bucket × Int) => allA ([fz [], stb b_15472 25 [(.slice g.1 s.2.1.length g.2)], row (.slice g.1 s.2.1.length g.2) 42 4 (s.2.1.flatMap e42), stb b_15470 74 [(.int .i64 s.2.2)]] ++ [blk lp_15626 (rc_15628 (rdy (pcs [] s.1)) (pcs [] s.1))]))) (Phi_5044 := (fun (g : Option Addr × Nat) (s : Nat × List Sapi_Bucket × Int) => True)) (g_5045 := (none, 0)) (A_5048 := ⟨b_15616, 0, none⟩) (ao_5051 := ao_15618) (cap_5052 := cap_15619) (A_5054 := ⟨b_15617, 0, none⟩) (ao_5057 := ao_15620) (cap_5058 := cap_15621) (Sg_5038 := (Nat × List Sapi_Bucket × Int)) (yield_5039 := (fun (x : Sapi_Bucket × Sapi_Bucket) (s : Nat × List Sapi_Bucket × Int) => chk (s.1 = 0) (m_curve_Sum_R4 x s.2.1 s.2.2))) (s0_5040 := (0, ([] : List Sapi_Bucket), 0)) (c_5050 := x_15604.1) (c_5056 := x_15604.2) (r := y_15685) w pz ?_ trivial (hf_15622.mono (Zle.left _ _)) ((hw1.lent ((.cons .here .nil) : Sel [allA [fz [], stb b_15472 25 [(.slice none (([] : List Sapi_Bucket).length) 0)], row (.slice none (([] : List Sapi_Bucket).length) 0) 42 4 (([] : List Sapi_Bucket).flatMap e42), stb b_15470 74 [(.int .i64 0)], blk lp_15626 (rc_15628 .ready none)], dfr D_15627, stb b_15616 25 [(.slice ao_15618 x_15604.1.length cap_15619)], stb b_15617 25 [(.slice ao_15620 x_15604.2.length cap_15621)], fz Zn_15601] [allA [fz [], stb b_15472 25 [(.slice none (([] : List Sapi_Bucket).length) 0)], row (.slice none (([] : List Sapi_Bucket).length) 0) 42 4 (([] : List Sapi_Bucket).flatMap e42), stb b_15470 74 [(.int .i64 0)], blk lp_15626 (rc_15628 .ready none)]] [dfr D_15627, stb b_15616 25 [(.slice ao_15618 x_15604.1.length cap_15619)], stb b_15617 25 [(.slice ao_15620 x_15604.2.length cap_15621)], fz Zn_15601]) (B := [stb b_15616 25 [(.slice ao_15618 x_15604.1.length cap_15619)], stb b_15617 25 [(.slice ao_15620 x_15604.2.length cap_15621)]]) (fun _ hx' => ((.cons (.there .here) (.cons (.there .here) .nil)) : Sel _ [stb b_15616 25 [(.slice ao_15618 x_15604.1.length cap_15619)], stb b_15617 25 [(.slice ao_15620 x_15604.2.length cap_15621)]] _).mem hx') (.head _) _).stb) (hf_15623.mono (Zle.left _ _)) ((hw1.lent ((.cons .here .nil) : Sel [allA [fz [], stb b_15472 25 [(.slice none (([] : List Sapi_Bucket).length) 0)], row (.slice none (([] : List Sapi_Bucket).length) 0) 42 4 (([] : List Sapi_Bucket).flatMap e42), stb b_15470 74 [(.int .i64 0)], blk lp_15626 (rc_15628 .ready none)], dfr D_15627, stb b_15616 25 [(.slice ao_15618 x_15604.1.length cap_15619)], stb b_15617 25 [(.slice ao_15620 x_15604.2.length cap_15621)], fz Zn_15601] [allA [fz [], stb b_15472 25 [(.slice none (([] : List Sapi_Bucket).length) 0)], row (.slice none (([] : List Sapi_Bucket).length) 0) 42 4 (([] : List Sapi_Bucket).flatMap e42), stb b_15470 74 [(.int .i64 0)], blk lp_15626 (rc_15628 .ready none)]] [dfr D_15627, stb b_15616 25 [(.slice ao_15618 x_15604.1.length cap_15619)], stb b_15617 25 [(.slice ao_15620 x_15604.2.length cap_15621)], fz Zn_15601]) (B := [stb b_15616 25 [(.slice ao_15618 x_15604.1.length cap_15619)], stb b_15617 25 [(.slice ao_15620 x_15604.2.length cap_15621)]]) (fun _ hx' => ((.cons (.there .here) (.cons (.there .here) .nil)) : Sel _ [stb b_15616 25 [(.slice ao_15618 x_15604.1.length cap_15619)], stb b_15617 25 [(.slice ao_15620 x_15604.2.length cap_15621)]] _).mem hx') (.tail _ (.head _)) _).stb) hy_15686 (hw1.owns ((.cons .here .nil) : Sel [allA [fz [], stb b_15472 25 [(.slice none (([] : List Sapi_Bucket).length) 0)], row (.slice none (([] : List Sapi_Bucket).length) 0) 42 4 (([] : List Sapi_Bucket).flatMap e42), stb b_15470 74 [(.int .i64 0)], blk lp_15626 (rc_15628 .ready none)], dfr D_15627, stb b_15616 25 [(.slice ao_15618 x_15604.1.length cap_15619)], stb b_15617 25 [(.slice ao_15620 x_15604.2.length cap_15621)], fz Zn_15601] [allA [fz [], stb b_15472 25 [(.slice none (([] : List Sapi_Bucket).length) 0)], row (.slice none (([] : List Sapi_Bucket).length) 0) 42 4 (([] : List Sapi_Bucket).flatMap e42), stb b_15470 74 [(.int .i64 0)], blk lp_15626 (rc_15628 .ready none)]] [dfr D_15627, stb b_15616 25 [(.slice ao_15618 x_15604.1.length cap_15619)], stb b_15617 25 [(.slice ao_15620 x_15604.2.length cap_15621)], fz Zn_15601]))) ?_
          · skip
            refine yieldP_of (LI := (fun (g : Option Addr × Nat) (s : Nat × List Sapi_Bucket × Int) => [fz [], stb b_15472 25 [(.slice g.1 s.2.1.length g.2)], row (.slice g.1 s.2.1.length g.2) 42 4 (s.2.1.flatMap e42), stb b_15470 74 [(.int .i64 s.2.2)]])) (pc := (fun (s : Nat × List Sapi_Bucket × Int) => pcs [] s.1)) hrc_15631 hev_15632 hsz_15633 (fun _ _ => rfl) (by decide) ?_
            rintro x_15634 _ ⟨ao_15681, cap_15682⟩ ⟨p_15687, c_15680, c_15683⟩ b_15688 s_15689 Fb wb hq_15691 _ hz
            replace hz := hz.left
            letI : Rnd := inR lp_15626
            obtain ⟨hp0, h_15690⟩ := chk_elim hq_15691
            replace hp0 : p_15687 = 0 := hp0; subst hp0; clear hq_15691
            replace h_15690 : m_curve_Sum_R4 x_15634 c_15680 c_15683 = some (b_15688, s_15689) := h_15690
            unfold m_curve_Sum_R4 at h_15690
            refine WC.restr (env' := [(17, (.bool b_15442)), (27, (.bool (decide ((i64 (((x_15450.length : Nat) : Int) * ((x_15455.length : Nat) : Int))) > 32)))), (6, (.pointer (some ⟨b_15470, 0, none⟩))), (7, (.pointer (some ⟨b_15472, 0, none⟩))), (31, (.agg #[(.int .i64 x_15634.1.fBurst.fN), (.int .i64 x_15634.1.fBurst.fD), (.int .i64 x_15634.1.fRate.fN), (.int .i64 x_15634.1.fRate.fD)])), (32, (.agg #[(.int .i64 x_15634.2.fBurst.fN), (.int .i64 x_15634.2.fBurst.fD), (.int .i64 x_15634.2.fRate.fN), (.int .i64 x_15634.2.fRate.fD)]))]) (.cons rfl (.cons rfl (.cons rfl (.cons rfl (.cons rfl (.cons rfl .nil)))))) ?_
            refine WC.eqL (L' := [fz [], stb b_15472 25 [(.slice ao_15681 c_15680.length cap_15682)], row (.slice ao_15681 c_15680.length cap_15682) 42 4 (c_15680.flatMap e42), stb b_15470 74 [(.int .i64 c_15683)], blk lp_15626 (rc_15628 .ready none)]) rfl ?_
            refine WC.seq ?_
            refine WC.region ?_
            refine WL.new (dd := 8) rfl rfl rfl (e_alloc (cs := [(.int .i64 0), (.int .i64 0), (.int .i64 0), (.int .i64 0)]) zeroT_42 rfl) ?_
            intro b_15693 _
            refine WL.eff0 rfl rfl (e_store (vs := [(.int .i64 x_15634.1.fBurst.fN), (.int .i64 x_15634.1.fBurst.fD), (.int .i64 x_15634.1.fRate.fN), (.int .i64 x_15634.1.fRate.fD)]) (ds := [(.int .i64 x_15634.1.fBurst.fN), (.int .i64 x_15634.1.fBurst.fD), (.int .i64 x_15634.1.fRate.fN), (.int .i64 x_15634.1.fRate.fD)]) sizT_42 rfl rfl rfl rfl (oc_cons rfl (oc_cons rfl (oc_cons rfl (oc_cons rfl oc_nil)))) .here (Nat.le_of_ble_eq_true rfl) rfl) ?_
            refine WL.nil ?_
            refine WX.then ?_
            refine WC.region ?_
            refine WL.new (dd := 9) rfl rfl rfl (e_alloc (cs := [(.int .i64 0), (.int .i64 0), (.int .i64 0), (.int .i64 0)]) zeroT_42 rfl) ?_
            intro b_15695 _
            refine WL.eff0 rfl rfl (e_store (vs := [(.int .i64 x_15634.2.fBurst.fN), (.int .i64 x_15634.2.fBurst.fD), (.int .i64 x_15634.2.fRate.fN), (.int .i64 x_15634.2.fRate.fD)]) (ds := [(.int .i64 x_15634.2.fBurst.fN), (.int .i64 x_15634.2.fBurst.fD), (.int .i64 x_15634.2.fRate.fN), (.int .i64 x_15634.2.fRate.fD)]) sizT_42 rfl rfl rfl rfl (oc_cons rfl (oc_cons rfl (oc_cons rfl (oc_cons rfl oc_nil)))) .here (Nat.le_of_ble_eq_true rfl) rfl) ?_
            refine WL.nil ?_
            refine WX.begin hrc_15631 (.there (.there (.there (.there (.there (.there .here)))))) ?_
            refine WC.block ?_
            obtain ⟨x_15696, hx_15697, h_15690⟩ := bind_elim h_15690
            obtain ⟨x_15698, hx_15699, h_15690⟩ := bind_elim h_15690
            obtain ⟨c_15701, h_15690⟩ := chk_elim h_15690
            refine WC.draw (fun i => [5, 10, 13, 14].contains i) [stbp b_15472 25 [(0, (.slice ao_15681 c_15680.length cap_15682))], stb b_15693 42 [(.int .i64 x_15634.1.fBurst.fN), (.int .i64 x_15634.1.fBurst.fD), (.int .i64 x_15634.1.fRate.fN), (.int .i64 x_15634.1.fRate.fD)], stb b_15695 42 [(.int .i64 x_15634.2.fBurst.fN), (.int .i64 x_15634.2.fBurst.fD), (.int .i64 x_15634.2.fRate.fN), (.int .i64 x_15634.2.fRate.fD)]] rfl ?_
            refine WD.stable (i := 0) (d := 33) (by kernel_rfl) rfl (readyF_of (by kernel_rfl)) (freeF_of (by kernel_rfl)) rfl rfl rfl (Sin.wk (.cons (.there (.there (.there (.there .here)))) (.cons (.there (.there .here)) (.cons (.there .here) .nil))) (.stb (.cons rfl .nil) (.same (.same .nil)))) (q_load1 oneT_25 rfl (rd_stbp .here (.head _))) ?_
            refine WD.pure (i := 1) (d := 34) (by kernel_rfl) rfl (readyF_of (by kernel_rfl)) (freeF_of (by kernel_rfl)) rfl rfl rfl (fun _ => q_fieldAddr fo_42_0 rfl rfl) ?_
            refine WD.quiet (i := 2) (d := 35) (by kernel_rfl) rfl (readyF_of (by kernel_rfl)) (freeF_of (by kernel_rfl)) rfl rfl rfl (q_loadA (cs := [(.int .i64 x_15634.1.fBurst.fN), (.int .i64 x_15634.1.fBurst.fD)]) aggT_28 rfl rfl (rd_sub (s := 2) (.there (.there .here)) rfl)) ?_
            refine WD.pure (i := 3) (d := 36) (by kernel_rfl) rfl (readyF_of (by kernel_rfl)) (freeF_of (by kernel_rfl)) rfl rfl rfl (fun _ => q_fieldAddr fo_42_0 rfl rfl) ?_
            refine WD.quiet (i := 4) (d := 37) (by kernel_rfl) rfl (readyF_of (by kernel_rfl)) (freeF_of (by kernel_rfl)) rfl rfl rfl (q_loadA (cs := [(.int .i64 x_15634.2.fBurst.fN), (.int .i64 x_15634.2.fBurst.fD)]) aggT_28 rfl rfl (rd_sub (s := 2) (.there .here) rfl)) ?_
            refine WD.pure (i := 6) (d := 39) (by kernel_rfl) rfl (readyF_of (by kernel_rfl)) (freeF_of (by kernel_rfl)) rfl rfl rfl (fun _ => q_fieldAddr fo_42_1 rfl rfl) ?_
            refine WD.stable (i := 7) (d := 40) (by kernel_rfl) rfl (readyF_of (by kernel_rfl)) (freeF_of (by kernel_rfl)) rfl rfl rfl (Sin.wk (.cons (.there (.there (.there (.there .here)))) (.cons (.there (.there .here)) (.cons (.there .here) .nil))) (.stb (.cons rfl .nil) (.same (.same .nil)))) (q_loadA (cs := [(.int .i64 x_15634.1.fRate.fN), (.int .i64 x_15634.1.fRate.fD)]) aggT_28 rfl rfl (rd_sub (s := 2) (.there .here) rfl)) ?_
            refine WD.pure (i := 8) (d := 41) (by kernel_rfl) rfl (readyF_of (by kernel_rfl)) (freeF_of (by kernel_rfl)) rfl rfl rfl (fun _ => q_fieldAddr fo_42_1 rfl rfl) ?_
            refine WD.stable (i := 9) (d := 42) (by kernel_rfl) rfl (readyF_of (by kernel_rfl)) (freeF_of (by kernel_rfl)) rfl rfl rfl (Sin.wk (.cons (.there (.there (.there (.there .here)))) (.cons (.there (.there .here)) (.cons (.there .here) .nil))) (.stb (.cons rfl .nil) (.same (.same .nil)))) (q_loadA (cs := [(.int .i64 x_15634.2.fRate.fN), (.int .i64 x_15634.2.fRate.fD)]) aggT_28 rfl rfl (rd_sub (s := 2) (.there (.there .here)) rfl)) ?_
            refine WD.call0 (i := 5) (dd := 38) rfl (by kernel_rfl) rfl rfl rfl (.inl ⟨rfl, (Sin.wk (.cons (.there (.there (.there (.there (.there .here))))) (.cons (.there (.there (.there .here))) (.cons (.there (.there .here)) .nil))) (.stb (.cons rfl .nil) (.same (.same .nil))))⟩) (run_call (l := [.tmp 6, .func 12, .tmp 35, .tmp 37]) Try.call47 (.cons rfl (.cons rfl (.cons rfl (.cons rfl .nil))))) ((.cons (.there (.there (.there (.there (.there (.there .here)))))) .nil) : Sel [blk lp_15626 (rc_15628 .busy none), stb b_15695 42 [(.int .i64 x_15634.2.fBurst.fN), (.int .i64 x_15634.2.fBurst.fD), (.int .i64 x_15634.2.fRate.fN), (.int .i64 x_15634.2.fRate.fD)], stb b_15693 42 [(.int .i64 x_15634.1.fBurst.fN), (.int .i64 x_15634.1.fBurst.fD), (.int .i64 x_15634.1.fRate.fN), (.int .i64 x_15634.1.fRate.fD)], fz [], stb b_15472 25 [(.slice ao_15681 c_15680.length cap_15682)], row (.slice ao_15681 c_15680.length cap_15682) 42 4 (c_15680.flatMap e42), stb b_15470 74 [(.int .i64 c_15683)]] [stb b_15470 74 [(.int .i64 c_15683)]] [blk lp_15626 (rc_15628 .busy none), stb b_15695 42 [(.int .i64 x_15634.2.fBurst.fN), (.int .i64 x_15634.2.fBurst.fD), (.int .i64 x_15634.2.fRate.fN), (.int .i64 x_15634.2.fRate.fD)], stb b_15693 42 [(.int .i64 x_15634.1.fBurst.fN), (.int .i64 x_15634.1.fBurst.fD), (.int .i64 x_15634.1.fRate.fN), (.int .i64 x_15634.1.fRate.fD)], fz [], stb b_15472 25 [(.slice ao_15681 c_15680.length cap_15682)], row (.slice ao_15681 c_15680.length cap_15682) 42 4 (c_15680.flatMap e42)]) (fun w hw => by have pz := (hz.call2 hw ((.cons (.there (.there (.there (.there (.there (.there .here)))))) .nil) : Sel [blk lp_15626 (rc_15628 .busy none), stb b_15695 42 [(.int .i64 x_15634.2.fBurst.fN), (.int .i64 x_15634.2.fBurst.fD), (.int .i64 x_15634.2.fRate.fN), (.int .i64 x_15634.2.fRate.fD)], stb b_15693 42 [(.int .i64 x_15634.1.fBurst.fN), (.int .i64 x_15634.1.fBurst.fD), (.int .i64 x_15634.1.fRate.fN), (.int .i64 x_15634.1.fRate.fD)], fz [], stb b_15472 25 [(.slice ao_15681 c_15680.length cap_15682)], row (.slice ao_15681 c_15680.length cap_15682) 42 4 (c_15680.flatMap e42), stb b_15470 74 [(.int .i64 c_15683)]] [stb b_15470 74 [(.int .i64 c_15683)]] [blk lp_15626 (rc_15628 .busy none), stb b_15695 42 [(.int .i64 x_15634.2.fBurst.fN), (.int .i64 x_15634.2.fBurst.fD), (.int .i64 x_15634.2.fRate.fN), (.int .i64 x_15634.2.fRate.fD)], stb b_15693 42 [(.int .i64 x_15634.1.fBurst.fN), (.int .i64 x_15634.1.fBurst.fD), (.int .i64 x_15634.1.fRate.fN), (.int .i64 x_15634.1.fRate.fD)], fz [], stb b_15472 25 [(.slice ao_15681 c_15680.length cap_15682)], row (.slice ao_15681 c_15680.length cap_15682) 42 4 (c_15680.flatMap e42)]) (.there (.there (.there .here)))); exact Calls.mono (w_curve_calc_do (Z := _) (b_1733 := b_15470) (fid_1735 := 12) (fcaps_1736 := []) (k_1734 := (⟨c_15683⟩ : Scurve_calc)) (f_1737 := (fun (y0 : Sapi_Rat) (y1 : Sapi_Rat) => m_rat_Add y0 y1)) (x_1740 := x_15634.1.fBurst) (y_1741 := x_15634.2.fBurst) (r := x_15696) w pz Try.call12 (fun w' hz' y0 y1  r  hr => w_rat_Add (Z := _)  (x_1002 := y0) (y_1003 := y1) (r := r) w' hz'  hr) hx_15697 (hw.owns ((.cons (.there (.there (.there (.there (.there (.there .here)))))) .nil) : Sel [blk lp_15626 (rc_15628 .busy none), stb b_15695 42 [(.int .i64 x_15634.2.fBurst.fN), (.int .i64 x_15634.2.fBurst.fD), (.int .i64 x_15634.2.fRate.fN), (.int .i64 x_15634.2.fRate.fD)], stb b_15693 42 [(.int .i64 x_15634.1.fBurst.fN), (.int .i64 x_15634.1.fBurst.fD), (.int .i64 x_15634.1.fRate.fN), (.int .i64 x_15634.1.fRate.fD)], fz [], stb b_15472 25 [(.slice ao_15681 c_15680.length cap_15682)], row (.slice ao_15681 c_15680.length cap_15682) 42 4 (c_15680.flatMap e42), stb b_15470 74 [(.int .i64 c_15683)]] [stb b_15470 74 [(.int .i64 c_15683)]] [blk lp_15626 (rc_15628 .busy none), stb b_15695 42 [(.int .i64 x_15634.2.fBurst.fN), (.int .i64 x_15634.2.fBurst.fD), (.int .i64 x_15634.2.fRate.fN), (.int .i64 x_15634.2.fRate.fD)], stb b_15693 42 [(.int .i64 x_15634.1.fBurst.fN), (.int .i64 x_15634.1.fBurst.fD), (.int .i64 x_15634.1.fRate.fN), (.int .i64 x_15634.1.fRate.fD)], fz [], stb b_15472 25 [(.slice ao_15681 c_15680.length cap_15682)], row (.slice ao_15681 c_15680.length cap_15682) 42 4 (c_15680.flatMap e42)]))) (fun _ _ h' => ⟨h'.1, trivial, h'.2⟩)) ?_
            intro _
            refine WD.call0 (i := 10) (dd := 43) rfl (by kernel_rfl) rfl rfl rfl (.inl ⟨rfl, (Sin.wk (.cons (.there (.there (.there (.there (.there .here))))) (.cons (.there (.there (.there .here))) (.cons (.there (.there .here)) .nil))) (.stb (.cons rfl .nil) (.same (.same .nil))))⟩) (run_call (l := [.tmp 6, .func 12, .tmp 40, .tmp 42]) Try.call47 (.cons rfl (.cons rfl (.cons rfl (.cons rfl .nil))))) ((.cons .here .nil) : Sel [stb b_15470 74 [(.int .i64 x_15696.2.fE)], blk lp_15626 (rc_15628 .busy none), stb b_15695 42 [(.int .i64 x_15634.2.fBurst.fN), (.int .i64 x_15634.2.fBurst.fD), (.int .i64 x_15634.2.fRate.fN), (.int .i64 x_15634.2.fRate.fD)], stb b_15693 42 [(.int .i64 x_15634.1.fBurst.fN), (.int .i64 x_15634.1.fBurst.fD), (.int .i64 x_15634.1.fRate.fN), (.int .i64 x_15634.1.fRate.fD)], fz [], stb b_15472 25 [(.slice ao_15681 c_15680.length cap_15682)], row (.slice ao_15681 c_15680.length cap_15682) 42 4 (c_15680.flatMap e42)] [stb b_15470 74 [(.int .i64 x_15696.2.fE)]] [blk lp_15626 (rc_15628 .busy none), stb b_15695 42 [(.int .i64 x_15634.2.fBurst.fN), (.int .i64 x_15634.2.fBurst.fD), (.int .i64 x_15634.2.fRate.fN), (.int .i64 x_15634.2.fRate.fD)], stb b_15693 42 [(.int .i64 x_15634.1.fBurst.fN), (.int .i64 x_15634.1.fBurst.fD), (.int .i64 x_15634.1.fRate.fN), (.int .i64 x_15634.1.fRate.fD)], fz [], stb b_15472 25 [(.slice ao_15681 c_15680.length cap_15682)], row (.slice ao_15681 c_15680.length cap_15682) 42 4 (c_15680.flatMap e42)]) (fun w hw => by have pz := (hz.call2 hw ((.cons .here .nil) : Sel [stb b_15470 74 [(.int .i64 x_15696.2.fE)], blk lp_15626 (rc_15628 .busy none), stb b_15695 42 [(.int .i64 x_15634.2.fBurst.fN), (.int .i64 x_15634.2.fBurst.fD), (.int .i64 x_15634.2.fRate.fN), (.int .i64 x_15634.2.fRate.fD)], stb b_15693 42 [(.int .i64 x_15634.1.fBurst.fN), (.int .i64 x_15634.1.fBurst.fD), (.int .i64 x_15634.1.fRate.fN), (.int .i64 x_15634.1.fRate.fD)], fz [], stb b_15472 25 [(.slice ao_15681 c_15680.length cap_15682)], row (.slice ao_15681 c_15680.length cap_15682) 42 4 (c_15680.flatMap e42)] [stb b_15470 74 [(.int .i64 x_15696.2.fE)]] [blk lp_15626 (rc_15628 .busy none), stb b_15695 42 [(.int .i64 x_15634.2.fBurst.fN), (.int .i64 x_15634.2.fBurst.fD), (.int .i64 x_15634.2.fRate.fN), (.int .i64 x_15634.2.fRate.fD)], stb b_15693 42 [(.int .i64 x_15634.1.fBurst.fN), (.int .i64 x_15634.1.fBurst.fD), (.int .i64 x_15634.1.fRate.fN), (.int .i64 x_15634.1.fRate.fD)], fz [], stb b_15472 25 [(.slice ao_15681 c_15680.length cap_15682)], row (.slice ao_15681 c_15680.length cap_15682) 42 4 (c_15680.flatMap e42)]) (.there (.there (.there .here)))); exact Calls.mono (w_curve_calc_do (Z := _) (b_1733 := b_15470) (fid_1735 := 12) (fcaps_1736 := []) (k_1734 := x_15696.2) (f_1737 := (fun (y0 : Sapi_Rat) (y1 : Sapi_Rat) => m_rat_Add y0 y1)) (x_1740 := x_15634.1.fRate) (y_1741 := x_15634.2.fRate) (r := x_15698) w pz Try.call12 (fun w' hz' y0 y1  r  hr => w_rat_Add (Z := _)  (x_1002 := y0) (y_1003 := y1) (r := r) w' hz'  hr) hx_15699 (hw.owns ((.cons .here .nil) : Sel [stb b_15470 74 [(.int .i64 x_15696.2.fE)], blk lp_15626 (rc_15628 .busy none), stb b_15695 42 [(.int .i64 x_15634.2.fBurst.fN), (.int .i64 x_15634.2.fBurst.fD), (.int .i64 x_15634.2.fRate.fN), (.int .i64 x_15634.2.fRate.fD)], stb b_15693 42 [(.int .i64 x_15634.1.fBurst.fN), (.int .i64 x_15634.1.fBurst.fD), (.int .i64 x_15634.1.fRate.fN), (.int .i64 x_15634.1.fRate.fD)], fz [], stb b_15472 25 [(.slice ao_15681 c_15680.length cap_15682)], row (.slice ao_15681 c_15680.length cap_15682) 42 4 (c_15680.flatMap e42)] [stb b_15470 74 [(.int .i64 x_15696.2.fE)]] [blk lp_15626 (rc_15628 .busy none), stb b_15695 42 [(.int .i64 x_15634.2.fBurst.fN), (.int .i64 x_15634.2.fBurst.fD), (.int .i64 x_15634.2.fRate.fN), (.int .i64 x_15634.2.fRate.fD)], stb b_15693 42 [(.int .i64 x_15634.1.fBurst.fN), (.int .i64 x_15634.1.fBurst.fD), (.int .i64 x_15634.1.fRate.fN), (.int .i64 x_15634.1.fRate.fD)], fz [], stb b_15472 25 [(.slice ao_15681 c_15680.length cap_15682)], row (.slice ao_15681 c_15680.length cap_15682) 42 4 (c_15680.flatMap e42)]))) (fun _ _ h' => ⟨h'.1, trivial, h'.2⟩)) ?_
            intro _
            refine WD.quiet (i := 11) (d := 44) (by kernel_rfl) rfl (readyF_of (by kernel_rfl)) (freeF_of (by kernel_rfl)) rfl rfl rfl (q_build (v := (.agg #[(.int .i64 x_15696.1.fN), (.int .i64 x_15696.1.fD), (.int .i64 x_15698.1.fN), (.int .i64 x_15698.1.fD)])) (Eos.parts (l := [.tmp 38, .tmp 43]) (.cons rfl (.cons rfl .nil)) [0, 1]) (fun _ => by kernel_rfl)) ?_
            refine WD.new (i := 12) (dd := 45) rfl (by kernel_rfl) rfl rfl rfl (e_buildSlice (cs := ([(⟨x_15696.1, x_15698.1⟩ : Sapi_Bucket)] : List Sapi_Bucket).flatMap e42) elT_25 (Eos.parts (l := [.tmp 44]) (.cons rfl .nil) [0]) (fun _ => by kernel_rfl) rfl (by unfold maxLen; omega)) (fun h' => absurd h' (by decide)) ?_
            intro b_15707 _
            refine WD.old (i := 13) (dd := 46) rfl (by kernel_rfl) rfl rfl rfl rfl (fun _ => (Sin.wk (.cons (.there (.there (.there (.there (.there (.there (.there .here))))))) (.cons (.there (.there (.there (.there (.there .here))))) (.cons (.there (.there (.there (.there .here)))) .nil))) (.stb (.cons rfl .nil) (.same (.same .nil))))) (e_appendF (enc := e42) (l1 := c_15680) (l2 := ([(⟨x_15696.1, x_15698.1⟩ : Sapi_Bucket)] : List Sapi_Bucket)) elT_25 rfl rfl (.there (.there (.there (.there (.there (.there (.there .here))))))) (fun _ => rfl) rfl rfl (news_row .here) (oc_flat e42_oc _) c_15701) ?_
            rintro ⟨ao_15708, cap_15709⟩ _
            refine WD.last0 (i := 14) rfl (by kernel_rfl) rfl rfl rfl (by kernel_rfl) (e_store (vs := [(.slice ao_15708 ((c_15680 ++ ([(⟨x_15696.1, x_15698.1⟩ : Sapi_Bucket)] : List Sapi_Bucket)).length) cap_15709)]) (ds := [(.slice ao_15708 ((c_15680 ++ ([(⟨x_15696.1, x_15698.1⟩ : Sapi_Bucket)] : List Sapi_Bucket)).length) cap_15709)]) sizT_25 rfl rfl rfl rfl (oc_cons rfl oc_nil) (.there (.there (.there (.there (.there (.there (.there .here))))))) (Nat.le_of_ble_eq_true rfl) rfl) ?_
            refine WD.done (by kernel_rfl) ?_
            refine WX.blockNormal ?_
            obtain ⟨rfl, rfl⟩ := rf_inj h_15690
            exact WX.rNormal hrc_15631 (.there (.there (.there (.there .here)))) (fun w' hw' => ⟨(ao_15708, cap_15709), rfl, trivial, (hw'.selAll ((.cons (.there (.there (.there (.there (.there (.there (.there .here))))))) (.cons (.there .here) (.cons (.there .here) (.cons (.there (.there .here)) (.cons .here .nil))))) : Sel _ [fz [], stb b_15472 25 [(.slice ao_15708 ((c_15680 ++ ([(⟨x_15696.1, x_15698.1⟩ : Sapi_Bucket)] : List Sapi_Bucket)).length) cap_15709)], row (.slice ao_15708 ((c_15680 ++ ([(⟨x_15696.1, x_15698.1⟩ : Sapi_Bucket)] : List Sapi_Bucket)).length) cap_15709) 42 4 ((c_15680 ++ ([(⟨x_15696.1, x_15698.1⟩ : Sapi_Bucket)] : List Sapi_Bucket)).flatMap e42), stb b_15470 74 [(.int .i64 x_15698.2.fE)], blk lp_15626 (rc_15628 .ready none)] _)).sub (.cons .here .nil)⟩)
          · skip
            rintro _ w' ⟨⟨ao_15712, cap_15713⟩, rfl, _, hp⟩
            have hp1 := hw1.call ((.cons .here .nil) : Sel [allA [fz [], stb b_15472 25 [(.slice none (([] : List Sapi_Bucket).length) 0)], row (.slice none (([] : List Sapi_Bucket).length) 0) 42 4 (([] : List Sapi_Bucket).flatMap e42), stb b_15470 74 [(.int .i64 0)], blk lp_15626 (rc_15628 .ready none)], dfr D_15627, stb b_15616 25 [(.slice ao_15618 x_15604.1.length cap_15619)], stb b_15617 25 [(.slice ao_15620 x_15604.2.length cap_15621)], fz Zn_15601] [allA [fz [], stb b_15472 25 [(.slice none (([] : List Sapi_Bucket).length) 0)], row (.slice none (([] : List Sapi_Bucket).length) 0) 42 4 (([] : List Sapi_Bucket).flatMap e42), stb b_15470 74 [(.int .i64 0)], blk lp_15626 (rc_15628 .ready none)]] [dfr D_15627, stb b_15616 25 [(.slice ao_15618 x_15604.1.length cap_15619)], stb b_15617 25 [(.slice ao_15620 x_15604.2.length cap_15621)], fz Zn_15601]) hp
            have hp2 : Hp _ _ w' [fz [], stb b_15472 25 [(.slice ao_15712 y_15685.2.1.length cap_15713)], row (.slice ao_15712 y_15685.2.1.length cap_15713) 42 4 (y_15685.2.1.flatMap e42), stb b_15470 74 [(.int .i64 y_15685.2.2)], blk lp_15626 (rc_15628 (rdy (pcs [] y_15685.1)) (pcs [] y_15685.1)), dfr D_15627, stb b_15616 25 [(.slice ao_15618 x_15604.1.length cap_15619)], stb b_15617 25 [(.slice ao_15620 x_15604.2.length cap_15621)], fz Zn_15601] := hp1.pickAll .here
            refine ⟨_, pcs [] y_15685.1, _, rfl, (hp2.sub ((.cons (.there (.there (.there (.there .here)))) (.cons .here (.cons .here (.cons .here (.cons .here (.cons .here (.cons .here (.cons .here (.cons .here .nil))))))))) : Sel _ [blk lp_15626 (rc_15628 (rdy (pcs [] y_15685.1)) (pcs [] y_15685.1)), fz [], stb b_15472 25 [(.slice ao_15712 y_15685.2.1.length cap_15713)], row (.slice ao_15712 y_15685.2.1.length cap_15713) 42 4 (y_15685.2.1.flatMap e42), stb b_15470 74 [(.int .i64 y_15685.2.2)], dfr D_15627, stb b_15616 25 [(.slice ao_15618 x_15604.1.length cap_15619)], stb b_15617 25 [(.slice ao_15620 x_15604.2.length cap_15621)], fz Zn_15601] _)), ?_⟩
            clear hp hp1 hp2 pz hw hw1
            refine wjN ?_
            letI : Rnd := aft D_15627
            refine WX.merge .here (.there (.there (.there (.there (.there (.there .here)))))) ?_
            refine WX.blockNormal ?_
            exact WX.midR (D := fun (g : Nat × Int × List Sapi_Bucket × Zp × Option Addr × Nat) => g.1) (G := Nat × Int × List Sapi_Bucket × Zp × Option Addr × Nat) ⟨D_15627, y_15685.2.2, y_15685.2.1, (Zn_15601 ++ []), ao_15712, cap_15713⟩ ⟨h, (hle_15599.trans (hle_15602.trans ((Zle.left _ _).trans (Zle.assoc _ _ _))))⟩ (.cons rfl (.cons rfl .nil)) (.cons .here (.cons (.there (.there .here)) (.cons .here (.cons .here (.cons .here .nil)))))
        · rintro D_15595 c_15591 c_15592 Zn_15589 ao_15593 cap_15594 ⟨h, hle_15590⟩
          replace h := (hk_15597 c_15591 c_15592).symm.trans h
          letI : Rnd := aft D_15595
          refine WC.seq ?_
          refine WC.seq ?_
          refine WC.region ?_
          refine WL.quiet (d := 47) rfl rfl rfl (q_fieldAddr fo_74_0 rfl rfl) ?_
          refine WL.quiet (d := 48) rfl rfl rfl (q_load1 oneT_30 rfl (rd_stb (.there .here) rfl)) ?_
          refine WL.quiet (d := 49) rfl rfl rfl (q_neq rfl rfl) ?_
          refine WL.nil ?_
          refine WX.then ?_
          refine WC.cond rfl (fun hb_15715 => ?_) (fun hb_15715 => ?_)
          · replace h := ite_t h hb_15715
            refine WC.seq ?_
            refine WC.draw (fun i => [].contains i) [] rfl ?_
            refine WD.pure (i := 0) (d := 50) (by kernel_rfl) rfl (readyF_of (by kernel_rfl)) (freeF_of (by kernel_rfl)) rfl rfl rfl (fun _ => q_fieldAddr fo_74_0 rfl rfl) ?_
            refine WD.quiet (i := 1) (d := 51) (by kernel_rfl) rfl (readyF_of (by kernel_rfl)) (freeF_of (by kernel_rfl)) rfl rfl rfl (q_load1 oneT_30 rfl (rd_stb (.there .here) rfl)) ?_
            refine WD.pure (i := 2) (d := 4) (by kernel_rfl) rfl (readyF_of (by kernel_rfl)) (freeF_of (by kernel_rfl)) rfl rfl rfl (fun _ => q_assign rfl) ?_
            refine WD.pure (i := 3) (d := 5) (by kernel_rfl) rfl (readyF_of (by kernel_rfl)) (freeF_of (by kernel_rfl)) rfl rfl rfl (fun _ => q_assign rfl) ?_
            refine WD.done (by kernel_rfl) ?_
            refine WX.then ?_
            refine WC.ret ?_
            refine WX.thenRet ?_
            refine WX.nilRow 42 4 ?_
            obtain rfl := Option.some.inj h
            refine WX.bpRetD (.there (.there (.there (.there (.there .here))))) Try.results30 (.tmp rfl (.tmp rfl .nil)) (fun w hw => ?_)
            exact ⟨Zn_15589, none, 0, ret2 rfl rfl, trivial, hw.sub (.cons (.there (.there .here)) (.cons (.there .here) .nil))⟩
          · replace h := ite_f h hb_15715
            refine WC.skip ?_
            refine WX.then ?_
            refine WC.seq ?_
            obtain ⟨x_15717, hx_15718, h⟩ := bind_elim h
            refine WC.region ?_
            refine WL.quiet (d := 52) rfl rfl rfl (q_load1 oneT_25 rfl (rd_stb (.there (.there .here)) rfl)) ?_
            refine WL.enter2 (dd := 53) rfl rfl rfl (run_call (l := [.tmp 52]) Try.call45 (.cons rfl .nil)) (.nil : Sel [fz Zn_15589, stb b_15470 74 [(.int .i64 c_15591)], stb b_15472 25 [(.slice ao_15593 c_15592.length cap_15594)], row (.slice ao_15593 c_15592.length cap_15594) 42 4 (c_15592.flatMap e42), dfr D_15595] [] [fz Zn_15589, stb b_15470 74 [(.int .i64 c_15591)], stb b_15472 25 [(.slice ao_15593 c_15592.length cap_15594)], row (.slice ao_15593 c_15592.length cap_15594) 42 4 (c_15592.flatMap e42), dfr D_15595]) (fun w hw => by have pz := (hz.call2 hw (.nil : Sel [fz Zn_15589, stb b_15470 74 [(.int .i64 c_15591)], stb b_15472 25 [(.slice ao_15593 c_15592.length cap_15594)], row (.slice ao_15593 c_15592.length cap_15594) 42 4 (c_15592.flatMap e42), dfr D_15595] [] [fz Zn_15589, stb b_15470 74 [(.int .i64 c_15591)], stb b_15472 25 [(.slice ao_15593 c_15592.length cap_15594)], row (.slice ao_15593 c_15592.length cap_15594) 42 4 (c_15592.flatMap e42), dfr D_15595]) .here).lend hw (.nil : Sel [fz Zn_15589, stb b_15470 74 [(.int .i64 c_15591)], stb b_15472 25 [(.slice ao_15593 c_15592.length cap_15594)], row (.slice ao_15593 c_15592.length cap_15594) 42 4 (c_15592.flatMap e42), dfr D_15595] [] [fz Zn_15589, stb b_15470 74 [(.int .i64 c_15591)], stb b_15472 25 [(.slice ao_15593 c_15592.length cap_15594)], row (.slice ao_15593 c_15592.length cap_15594) 42 4 (c_15592.flatMap e42), dfr D_15595]) (B := [row (.slice ao_15593 c_15592.length cap_15594) 42 4 (c_15592.flatMap e42)]) (fun _ hx' => ((.cons (.there (.there (.there .here))) .nil) : Sel _ [row (.slice ao_15593 c_15592.length cap_15594) 42 4 (c_15592.flatMap e42)] _).mem hx'); exact w_curve_norm (Z := _) (ao_3789 := ao_15593) (cap_3790 := cap_15594) (c_3788 := c_15592) (r := x_15717) w pz (ZA.row (hw.lent (.nil : Sel [fz Zn_15589, stb b_15470 74 [(.int .i64 c_15591)], stb b_15472 25 [(.slice ao_15593 c_15592.length cap_15594)], row (.slice ao_15593 c_15592.length cap_15594) 42 4 (c_15592.flatMap e42), dfr D_15595] [] [fz Zn_15589, stb b_15470 74 [(.int .i64 c_15591)], stb b_15472 25 [(.slice ao_15593 c_15592.length cap_15594)], row (.slice ao_15593 c_15592.length cap_15594) 42 4 (c_15592.flatMap e42), dfr D_15595]) (B := [row (.slice ao_15593 c_15592.length cap_15594) 42 4 (c_15592.flatMap e42)]) (fun _ hx' => ((.cons (.there (.there (.there .here))) .nil) : Sel _ [row (.slice ao_15593 c_15592.length cap_15594) 42 4 (c_15592.flatMap e42)] _).mem hx') (.head _) _) (RR.flat (enc := e42) (fun _ => rfl) _) ⟨w, pz.1⟩) hx_15718) ?_
            rintro ao_15722 cap_15723 _
            refine WL.quiet (d := 4) rfl rfl rfl (q_assign rfl) ?_
            refine WL.quiet (d := 5) rfl rfl rfl (q_assign rfl) ?_
            refine WL.nil ?_
            refine WX.then ?_
            refine WC.ret ?_
            obtain rfl := Option.some.inj h
            refine WX.bpRetD (.there (.there (.there (.there (.there .here))))) Try.results30 (.tmp rfl (.tmp rfl .nil)) (fun w hw => ?_)
            exact ⟨Zn_15589, ao_15722, cap_15723, ret2 rfl rfl, trivial, hw.sub (.cons (.there (.there .here)) (.cons (.there .here) .nil))⟩
def m_ref02_Same_L2 (a_15752 : List Sapi_Bucket) (b_15756 : List Sapi_Bucket) (k_16099 : Option Bool) : Nat → Int → Option Bool
  | 0, _ => none
  | n_16144 + 1, i_16142 => if decide (i_16142 < ((a_15752.length : Nat) : Int)) then chk ((0 : Int) ≤ i_16142 ∧ i_16142 < ((a_15752.length : Nat) : Int)) (chk ((0 : Int) ≤ i_16142 ∧ i_16142 < ((b_15756.length : Nat) : Int)) (if decide ((⟨(⟨(((nth a_15752 i_16142).fBurst).fN), (((nth a_15752 i_16142).fBurst).fD)⟩ : Sapi_Rat), (⟨(((nth a_15752 i_16142).fRate).fN), (((nth a_15752 i_16142).fRate).fD)⟩ : Sapi_Rat)⟩ : Sapi_Bucket) ≠ (⟨(⟨(((nth b_15756 i_16142).fBurst).fN), (((nth b_15756 i_16142).fBurst).fD)⟩ : Sapi_Rat), (⟨(((nth b_15756 i_16142).fRate).fN), (((nth b_15756 i_16142).fRate).fD)⟩ : Sapi_Rat)⟩ : Sapi_Bucket)) then some false else m_ref02_Same_L2 a_15752 b_15756 k_16099 n_16144 (i64 (i_16142 + 1)))) else k_16099
theorem m_ref02_Same_L2_fuel {n : Nat} {a_15752 : List Sapi_Bucket} {b_15756 : List Sapi_Bucket} {k_16099 : Option Bool} {i_16142 : Int} {r : Bool} (h : m_ref02_Same_L2 a_15752 b_15756 k_16099 n i_16142 = some r) : ∃ m, n = m + 1 := by
  cases n with
  | zero => cases h
  | succ m => exact ⟨m, rfl⟩

/-- nacelleref02.Same -/
def m_ref02_Same (a_15752 : List Sapi_Bucket) (b_15756 : List Sapi_Bucket) : Option Bool :=
  if decide (((a_15752.length : Nat) : Int) ≠ ((b_15756.length : Nat) : Int)) then some false else jp0 (some true) fun k_16099 => m_ref02_Same_L2 a_15752 b_15756 k_16099 FUEL 0

set_option maxRecDepth 20000 in
theorem w_ref02_Same (Z : Zp)  (ao_15753 : Option Addr) (cap_15754 : Nat) (ao_15757 : Option Addr) (cap_15758 : Nat) (a_15752 : List Sapi_Bucket) (b_15756 : List Sapi_Bucket) (r : Bool) (w₀ : World) (hz : PZ [] w₀ Z)
    (hs_15755 : ZS Z 4 (fun r x => r = e42 x) ao_15753 cap_15754 a_15752)
    (hs_15759 : ZS Z 4 (fun r x => r = e42 x) ao_15757 cap_15758 b_15756)
    (h : m_ref02_Same a_15752 b_15756 = some r) :
    Calls Try.prog 44 #[(.slice ao_15753 a_15752.length cap_15754), (.slice ao_15757 b_15756.length cap_15758)] w₀ fun e w' => e = .returned (.bool r) ∧ Hp [] w₀ w' [] := by
  unfold m_ref02_Same at h
  refine Calls.ofWC (vs := [(.slice ao_15753 a_15752.length cap_15754), (.slice ao_15757 b_15756.length cap_15758)]) (pre := []) (env := [(0, (.slice ao_15753 a_15752.length cap_15754)), (1, (.slice ao_15757 b_15756.length cap_15758))]) Try.func44 rfl Try.ntmps44 rfl (Hp.nil w₀ _) rfl ?_
  refine WC.seq ?_
  refine WC.region ?_
  refine WL.quiet (d := 4) rfl rfl rfl (q_assign rfl) ?_
  refine WL.nil ?_
  refine WX.then ?_
  refine WC.seq ?_
  refine WC.seq ?_
  refine WC.region ?_
  refine WL.quiet (d := 6) rfl rfl rfl (q_move rfl) ?_
  refine WL.quiet (d := 7) rfl rfl rfl (q_len Try.underlying25 rfl) ?_
  refine WL.quiet (d := 8) rfl rfl rfl (q_move rfl) ?_
  refine WL.quiet (d := 9) rfl rfl rfl (q_len Try.underlying25 rfl) ?_
  refine WL.quiet (d := 10) rfl rfl rfl (q_neq rfl rfl) ?_
  refine WL.nil ?_
  refine WX.then ?_
  refine WC.cond rfl (fun hb_15974 => ?_) (fun hb_15974 => ?_)
  · replace h := ite_t h hb_15974
    refine WC.seq ?_
    refine WC.region ?_
    refine WL.quiet (d := 4) rfl rfl rfl (q_assign rfl) ?_
    refine WL.nil ?_
    refine WX.then ?_
    refine WC.ret ?_
    refine WX.thenRet ?_
    obtain rfl := Option.some.inj h
    refine WX.bpRet Try.results44 (.tmp rfl .nil) (fun w hw => ?_)
    exact ⟨ret1 rfl, hw.sub .nil⟩
  · replace h := ite_f h hb_15974
    refine WC.skip ?_
    refine WX.then ?_
    obtain ⟨k_16099, hk_16100, h⟩ := jp0_elim h
    refine WC.seqMid0 ((k_16099 = some r)) ([]) ([]) ?_ ?_
    · skip
      refine WC.seq ?_
      refine WC.region ?_
      refine WL.quiet (d := 5) rfl rfl rfl (q_assign rfl) ?_
      refine WL.nil ?_
      refine WX.then ?_
      refine WC.block ?_
      refine WC.loop2 (fun (n_16143 : Nat) (i_16142 : Int) => (m_ref02_Same_L2 a_15752 b_15756 k_16099 n_16143 i_16142 = some r)) (fun (n_16143 : Nat) (i_16142 : Int) => [(0, (.slice ao_15753 a_15752.length cap_15754)), (1, (.slice ao_15757 b_15756.length cap_15758)), (5, (.int .i64 i_16142))]) (fun (n_16143 : Nat) (i_16142 : Int) => []) (fun (n_16143 : Nat) (i_16142 : Int) => n_16143) ⟨FUEL, 0⟩ h (.cons rfl (.cons rfl (.cons rfl .nil))) .nil ?_
      rintro n_16143 i_16142 h
      obtain ⟨n_16144, rfl⟩ := m_ref02_Same_L2_fuel h
      rw [m_ref02_Same_L2] at h
      refine WC.seq ?_
      refine WC.seq ?_
      refine WC.region ?_
      refine WL.quiet (d := 11) rfl rfl rfl (q_move rfl) ?_
      refine WL.quiet (d := 12) rfl rfl rfl (q_move rfl) ?_
      refine WL.quiet (d := 13) rfl rfl rfl (q_len Try.underlying25 rfl) ?_
      refine WL.quiet (d := 14) rfl rfl rfl (q_lss rfl rfl) ?_
      refine WL.nil ?_
      refine WX.then ?_
      refine WC.cond rfl (fun hb_16146 => ?_) (fun hb_16146 => ?_)
      · replace h := ite_t h hb_16146
        refine WC.skip ?_
        refine WX.then ?_
        refine WC.seq ?_
        refine WC.block ?_
        refine WC.seq ?_
        obtain ⟨c_16166, h⟩ := chk_elim h
        obtain ⟨c_16171, h⟩ := chk_elim h
        refine WC.draw (fun i => [].contains i) [] rfl ?_
        refine WD.pure (i := 0) (d := 17) (by kernel_rfl) rfl (readyF_of (by kernel_rfl)) (freeF_of (by kernel_rfl)) rfl rfl rfl (fun _ => q_move rfl) ?_
        refine WD.pure (i := 1) (d := 18) (by kernel_rfl) rfl (readyF_of (by kernel_rfl)) (freeF_of (by kernel_rfl)) rfl rfl rfl (fun _ => q_move rfl) ?_
        refine WD.znth (j := 2) (dd := 19) (by kernel_rfl) rfl (readyF_of (by kernel_rfl)) (freeF_of (by kernel_rfl)) rfl rfl (Z := Z) (Pr := (fun r x => r = e42 x)) elT_25 rfl rfl hs_15755 c_16166 ?_
        rintro A_16176 r_16177 hA_16178 hl_16179 rfl
        refine WD.quiet (i := 3) (d := 20) (by kernel_rfl) rfl (readyF_of (by kernel_rfl)) (freeF_of (by kernel_rfl)) rfl rfl rfl (q_loadA (cs := [(.int .i64 (((nth a_15752 i_16142).fBurst).fN)), (.int .i64 (((nth a_15752 i_16142).fBurst).fD)), (.int .i64 (((nth a_15752 i_16142).fRate).fN)), (.int .i64 (((nth a_15752 i_16142).fRate).fD))]) aggT_42 rfl rfl (rd_zs hz.pv hA_16178)) ?_
        refine WD.pure (i := 4) (d := 21) (by kernel_rfl) rfl (readyF_of (by kernel_rfl)) (freeF_of (by kernel_rfl)) rfl rfl rfl (fun _ => q_move rfl) ?_
        refine WD.pure (i := 5) (d := 22) (by kernel_rfl) rfl (readyF_of (by kernel_rfl)) (freeF_of (by kernel_rfl)) rfl rfl rfl (fun _ => q_move rfl) ?_
        refine WD.znth (j := 6) (dd := 23) (by kernel_rfl) rfl (readyF_of (by kernel_rfl)) (freeF_of (by kernel_rfl)) rfl rfl (Z := Z) (Pr := (fun r x => r = e42 x)) elT_25 rfl rfl hs_15759 c_16171 ?_
        rintro A_16180 r_16181 hA_16182 hl_16183 rfl
        refine WD.quiet (i := 7) (d := 24) (by kernel_rfl) rfl (readyF_of (by kernel_rfl)) (freeF_of (by kernel_rfl)) rfl rfl rfl (q_loadA (cs := [(.int .i64 (((nth b_15756 i_16142).fBurst).fN)), (.int .i64 (((nth b_15756 i_16142).fBurst).fD)), (.int .i64 (((nth b_15756 i_16142).fRate).fN)), (.int .i64 (((nth b_15756 i_16142).fRate).fD))]) aggT_42 rfl rfl (rd_zs hz.pv hA_16182)) ?_
        refine WD.pure (i := 8) (d := 25) (by kernel_rfl) rfl (readyF_of (by kernel_rfl)) (freeF_of (by kernel_rfl)) rfl rfl rfl (fun _ => q_aggneq (enc := e42) (a := (⟨(⟨(((nth a_15752 i_16142).fBurst).fN), (((nth a_15752 i_16142).fBurst).fD)⟩ : Sapi_Rat), (⟨(((nth a_15752 i_16142).fRate).fN), (((nth a_15752 i_16142).fRate).fD)⟩ : Sapi_Rat)⟩ : Sapi_Bucket)) (b := (⟨(⟨(((nth b_15756 i_16142).fBurst).fN), (((nth b_15756 i_16142).fBurst).fD)⟩ : Sapi_Rat), (⟨(((nth b_15756 i_16142).fRate).fN), (((nth b_15756 i_16142).fRate).fD)⟩ : Sapi_Rat)⟩ : Sapi_Bucket)) eqT_42 rfl rfl) ?_
        refine WD.done (by kernel_rfl) ?_
        refine WX.then ?_
        refine WC.cond rfl (fun hb_16184 => ?_) (fun hb_16184 => ?_)
        · replace h := ite_t h hb_16184
          refine WC.seq ?_
          refine WC.region ?_
          refine WL.quiet (d := 4) rfl rfl rfl (q_assign rfl) ?_
          refine WL.nil ?_
          refine WX.then ?_
          refine WC.ret ?_
          refine WX.blockRet ?_
          refine WX.thenRet ?_
          refine WX.thenRet ?_
          refine WX.blockRet ?_
          refine WX.thenRet ?_
          obtain rfl := Option.some.inj h
          refine WX.bpRet Try.results44 (.tmp rfl .nil) (fun w hw => ?_)
          exact ⟨ret1 rfl, hw.sub .nil⟩
        · replace h := ite_f h hb_16184
          refine WC.skip ?_
          refine WX.blockNormal ?_
          refine WX.then ?_
          refine WC.region ?_
          refine WL.quiet (d := 15) rfl rfl rfl (q_move rfl) ?_
          refine WL.quiet (d := 16) rfl rfl rfl (q_add rfl rfl rfl) ?_
          refine WL.quiet (d := 5) rfl rfl rfl (q_assign rfl) ?_
          refine WL.nil ?_
          exact WX.round (G := Nat × Int) ⟨n_16144, (i64 (i_16142 + 1))⟩ h (Nat.lt_succ_self _) (.cons rfl (.cons rfl (.cons rfl .nil))) .nil
      · replace h := ite_f h hb_16146
        refine WC.exit ?_
        refine WX.thenExit ?_
        refine WX.thenExit ?_
        refine WX.blockHit ?_
        exact WX.mid (G := Unit) () h .nil .nil
    · rintro  h
      replace h := hk_16100.symm.trans h
      refine WC.seq ?_
      refine WC.region ?_
      refine WL.quiet (d := 4) rfl rfl rfl (q_assign rfl) ?_
      refine WL.nil ?_
      refine WX.then ?_
      refine WC.ret ?_
      obtain rfl := Option.some.inj h
      refine WX.bpRet Try.results44 (.tmp rfl .nil) (fun w hw => ?_)
      exact ⟨ret1 rfl, hw.sub .nil⟩
end Go.Proofs.Ytbihfglmcjkdhaa
