/- A part of this claim's proof: models of the functions that the law reaches, with the proof that the functions compute them; plain laws about the models. No conditions beyond those in each theorem's statement. -/
import Derived.Test.YtbejngeaocfieaaW34a
namespace Go.Proofs.Ytbejngeaocfieaa
open Go Go.RowKit Sep
set_option linter.all false
set_option maxRecDepth 30000

def m_timebase_plan_history_1_L4 (Sg_8178 : Type) (now_12823 : List Int) (c_8190 : Stimebase_plan) (k_13095 : (List Int) → Option Sg_8178) : Nat → (List Int) → Int → Option Sg_8178
  | 0, _, _ => none
  | n_13142 + 1, now_13137, v_13140 => if decide (v_13140 < ((now_12823.length : Nat) : Int)) then chk ((0 : Int) ≤ v_13140 ∧ v_13140 < ((now_13137.length : Nat) : Int)) (chk ((0 : Int) ≤ v_13140 ∧ v_13140 < ((c_8190.fSetup.fDrift.length : Nat) : Int)) (m_timebase_plan_history_1_L4 Sg_8178 now_12823 c_8190 k_13095 n_13142 (now_13137.set (v_13140 : Int).toNat (i64 ((nth now_13137 v_13140) + (nth c_8190.fSetup.fDrift v_13140)))) (i64 (v_13140 + 1)))) else k_13095 now_13137
theorem m_timebase_plan_history_1_L4_fuel {n : Nat} {Sg_8178 : Type} {now_12823 : List Int} {c_8190 : Stimebase_plan} {k_13095 : (List Int) → Option Sg_8178} {now_13137 : List Int} {v_13140 : Int} {r : Sg_8178} (h : m_timebase_plan_history_1_L4 Sg_8178 now_12823 c_8190 k_13095 n now_13137 v_13140 = some r) : ∃ m, n = m + 1 := by
  cases n with
  | zero => cases h
  | succ m => exact ⟨m, rfl⟩

def m_timebase_plan_history_1_L3 (Sg_8178 : Type) (yield_8179 : (List Int) → Sg_8178 → Option (Bool × Sg_8178)) (c_8190 : Stimebase_plan) (k_12445 : Sg_8178 → Option Sg_8178) : Nat → (List Int) → Int → Sg_8178 → Option Sg_8178
  | 0, _, _, _ => none
  | n_12831 + 1, now_12823, round_12826, s_12827 => (m_slices_Clone_int_intV now_12823).bind fun x_12847 => (yield_8179 x_12847 s_12827).bind fun x_12852 => if x_12852.1 then jp1 (fun (now_13087 : List Int) => m_timebase_plan_history_1_L3 Sg_8178 yield_8179 c_8190 k_12445 n_12831 now_13087 (i64 (round_12826 + 1)) x_12852.2) fun k_13090 => jp1 (fun (now_13092 : List Int) => (m_timebase_plan_reads c_8190 now_13092 round_12826).bind fun x_13179 => (m_timebase_Round x_13179 c_8190.fSetup.fF).bind fun x_13186 => k_13090 x_13186.1) fun k_13095 => m_timebase_plan_history_1_L4 Sg_8178 now_12823 c_8190 k_13095 FUEL now_12823 0 else k_12445 x_12852.2
theorem m_timebase_plan_history_1_L3_fuel {n : Nat} {Sg_8178 : Type} {yield_8179 : (List Int) → Sg_8178 → Option (Bool × Sg_8178)} {c_8190 : Stimebase_plan} {k_12445 : Sg_8178 → Option Sg_8178} {now_12823 : List Int} {round_12826 : Int} {s_12827 : Sg_8178} {r : Sg_8178} (h : m_timebase_plan_history_1_L3 Sg_8178 yield_8179 c_8190 k_12445 n now_12823 round_12826 s_12827 = some r) : ∃ m, n = m + 1 := by
  cases n with
  | zero => cases h
  | succ m => exact ⟨m, rfl⟩

/-- (timebase.plan).history$1 -/
def m_timebase_plan_history_1 (Sg_8178 : Type) (yield_8179 : (List Int) → Sg_8178 → Option (Bool × Sg_8178)) (s0_8180 : Sg_8178) (c_8190 : Stimebase_plan) : Option Sg_8178 :=
  (m_slices_Clone_int_intV c_8190.fSetup.fStart).bind fun x_11315 => jp1 (fun (s_12442 : Sg_8178) => some s_12442) fun k_12445 => m_timebase_plan_history_1_L3 Sg_8178 yield_8179 c_8190 k_12445 FUEL x_11315 0 s0_8180

set_option maxRecDepth 20000 in
theorem w_timebase_plan_history_1 (Z : Zp) (Sg_8178 : Type) (lp_8181 : Nat) (Gg_8182 : Type) (J_8183 : Gg_8182 → Sg_8178 → Asrt) (Phi_8184 : Gg_8182 → Sg_8178 → Prop) (g_8185 : Gg_8182) (A_8188 : Addr) (ao_8191 : Option Addr) (cap_8192 : Nat) (ao_8194 : Option Addr) (cap_8195 : Nat) (ao_8197 : Option Addr) (cap_8198 : Nat) (ao_8200 : Option Addr) (cap_8201 : Nat) (ao_8203 : Option Addr) (cap_8204 : Nat) (yield_8179 : (List Int) → Sg_8178 → Option (Bool × Sg_8178)) (s0_8180 : Sg_8178) (c_8190 : Stimebase_plan) (r : Sg_8178) (w₀ : World) (hz : PZ (fps [J_8183 g_8185 s0_8180]) w₀ Z)
    (hY_8186 : YieldP Try.prog Z lp_8181 (α := List Int) (σ := Sg_8178) (G := Gg_8182) (H := Option Addr × Nat) (fun h x => [(.slice h.1 x.length h.2)]) (fun h x => [row (.slice h.1 x.length h.2) 3 1 (x.flatMap e3)]) yield_8179 J_8183 Phi_8184)
    (hphi_8187 : Phi_8184 g_8185 s0_8180)
    (hs_8193 : ZS Z 1 (fun r x => r = e3 x) ao_8191 cap_8192 c_8190.fSetup.fStart)
    (hs_8196 : ZS Z 1 (fun r x => r = e3 x) ao_8194 cap_8195 c_8190.fSetup.fDrift)
    (hs_8199 : ZS Z 1 (fun r x => r = e3 x) ao_8197 cap_8198 c_8190.fSetup.fFaulty)
    (hs_8202 : ZS Z 1 (fun r x => r = e3 x) ao_8200 cap_8201 c_8190.fSetup.fErrs)
    (hs_8205 : ZS Z 1 (fun r x => r = e3 x) ao_8203 cap_8204 c_8190.fSetup.fLies)
    (hA_8189 : ZC Z A_8188 [(.slice ao_8191 c_8190.fSetup.fStart.length cap_8192), (.slice ao_8194 c_8190.fSetup.fDrift.length cap_8195), (.slice ao_8197 c_8190.fSetup.fFaulty.length cap_8198), (.int .i64 c_8190.fSetup.fF), (.int .i64 c_8190.fSetup.fE), (.slice ao_8200 c_8190.fSetup.fErrs.length cap_8201), (.slice ao_8203 c_8190.fSetup.fLies.length cap_8204)])
    (h : m_timebase_plan_history_1 Sg_8178 yield_8179 s0_8180 c_8190 = some r)
    (hown : Hp (fps [J_8183 g_8185 s0_8180]) w₀ w₀ [J_8183 g_8185 s0_8180]) :
    Calls Try.prog 40 #[(.func (.yield lp_8181) #[] #[]), (.pointer (some A_8188))] w₀ fun e w' => ∃ g_11313 : Gg_8182, e = .returned (.tuple #[]) ∧ (Phi_8184 g_11313 r) ∧ Hp (fps [J_8183 g_8185 s0_8180]) w₀ w' [J_8183 g_11313 r] := by
  unfold m_timebase_plan_history_1 at h
  refine Calls.ofWC (vs := [(.func (.yield lp_8181) #[] #[]), (.pointer (some A_8188))]) (pre := [J_8183 g_8185 s0_8180]) (env := [(0, (.func (.yield lp_8181) #[] #[])), (1, (.pointer (some A_8188)))]) Try.func40 rfl Try.ntmps40 rfl (hown) rfl ?_
  refine WC.seq ?_
  obtain ⟨x_11315, hx_11316, h⟩ := bind_elim h
  refine WC.region ?_
  refine WL.quiet (d := 6) rfl rfl rfl (q_fieldAddr fo_55_0 rfl rfl) ?_
  refine WL.quiet (d := 7) rfl rfl rfl (q_fieldAddr fo_24_0 rfl rfl) ?_
  refine WL.quiet (d := 8) rfl rfl rfl (q_load1 oneT_22 rfl (rd_zAt hz.pv hA_8189 rfl)) ?_
  refine WL.enter2 (dd := 9) rfl rfl rfl (run_call (l := [.tmp 8]) Try.call41 (.cons rfl .nil)) (.nil : Sel [J_8183 g_8185 s0_8180] [] [J_8183 g_8185 s0_8180]) (fun w hw => by have pz := (hz.call hw (.nil : Sel [J_8183 g_8185 s0_8180] [] [J_8183 g_8185 s0_8180])); exact w_slices_Clone_int_intV (Z := _) (ao := ao_8191) (cap := cap_8192) (l := c_8190.fSetup.fStart) (r := x_11315) w pz hs_8193 hx_11316) ?_
  rintro aor_11320 capr_11321 _
  refine WL.quiet (d := 3) rfl rfl rfl (q_assign rfl) ?_
  refine WL.nil ?_
  refine WX.then ?_
  refine WC.seq ?_
  refine WC.region ?_
  refine WL.quiet (d := 4) rfl rfl rfl (q_assign rfl) ?_
  refine WL.nil ?_
  refine WX.then ?_
  obtain ⟨k_12445, hk_12446, h⟩ := jp1_elim h
  refine WC.mid2 (fun (s_12442 : Sg_8178) (g_12443 : Gg_8182) => (k_12445 s_12442 = some r) ∧ (Phi_8184 g_12443 s_12442)) (fun (s_12442 : Sg_8178) (g_12443 : Gg_8182) => []) (fun (s_12442 : Sg_8178) (g_12443 : Gg_8182) => [J_8183 g_12443 s_12442]) ?_ ?_
  · skip
    refine WC.block ?_
    refine WC.loop7 (fun (n_12830 : Nat) (now_12823 : List Int) (round_12826 : Int) (s_12827 : Sg_8178) (ao_12824 : Option Addr) (cap_12825 : Nat) (g_12828 : Gg_8182) => (m_timebase_plan_history_1_L3 Sg_8178 yield_8179 c_8190 k_12445 n_12830 now_12823 round_12826 s_12827 = some r) ∧ (Phi_8184 g_12828 s_12827)) (fun (n_12830 : Nat) (now_12823 : List Int) (round_12826 : Int) (s_12827 : Sg_8178) (ao_12824 : Option Addr) (cap_12825 : Nat) (g_12828 : Gg_8182) => [(0, (.func (.yield lp_8181) #[] #[])), (1, (.pointer (some A_8188))), (3, (.slice ao_12824 now_12823.length cap_12825)), (4, (.int .i64 round_12826))]) (fun (n_12830 : Nat) (now_12823 : List Int) (round_12826 : Int) (s_12827 : Sg_8178) (ao_12824 : Option Addr) (cap_12825 : Nat) (g_12828 : Gg_8182) => [row (.slice ao_12824 now_12823.length cap_12825) 3 1 (now_12823.flatMap e3), J_8183 g_12828 s_12827]) (fun (n_12830 : Nat) (now_12823 : List Int) (round_12826 : Int) (s_12827 : Sg_8178) (ao_12824 : Option Addr) (cap_12825 : Nat) (g_12828 : Gg_8182) => n_12830) ⟨FUEL, x_11315, 0, s0_8180, aor_11320, capr_11321, g_8185⟩ ⟨h, hphi_8187⟩ (.cons rfl (.cons rfl (.cons rfl (.cons rfl .nil)))) (.cons .here (.cons .here .nil)) ?_
    rintro n_12830 now_12823 round_12826 s_12827 ao_12824 cap_12825 g_12828 ⟨h, hphi_12829⟩
    obtain ⟨n_12831, rfl⟩ := m_timebase_plan_history_1_L3_fuel h
    rw [m_timebase_plan_history_1_L3] at h
    refine WC.seq ?_
    refine WC.seq ?_
    obtain ⟨x_12847, hx_12848, h⟩ := bind_elim h
    obtain ⟨x_12852, hx_12853, h⟩ := bind_elim h
    refine WC.region ?_
    refine WL.quiet (d := 10) rfl rfl rfl (q_move rfl) ?_
    refine WL.quiet (d := 11) rfl rfl rfl (q_move rfl) ?_
    refine WL.enter2 (dd := 12) rfl rfl rfl (run_call (l := [.tmp 11]) Try.call41 (.cons rfl .nil)) (.nil : Sel [row (.slice ao_12824 now_12823.length cap_12825) 3 1 (now_12823.flatMap e3), J_8183 g_12828 s_12827] [] [row (.slice ao_12824 now_12823.length cap_12825) 3 1 (now_12823.flatMap e3), J_8183 g_12828 s_12827]) (fun w hw => by have pz := (hz.call hw (.nil : Sel [row (.slice ao_12824 now_12823.length cap_12825) 3 1 (now_12823.flatMap e3), J_8183 g_12828 s_12827] [] [row (.slice ao_12824 now_12823.length cap_12825) 3 1 (now_12823.flatMap e3), J_8183 g_12828 s_12827])).lend hw (.nil : Sel [row (.slice ao_12824 now_12823.length cap_12825) 3 1 (now_12823.flatMap e3), J_8183 g_12828 s_12827] [] [row (.slice ao_12824 now_12823.length cap_12825) 3 1 (now_12823.flatMap e3), J_8183 g_12828 s_12827]) (B := [row (.slice ao_12824 now_12823.length cap_12825) 3 1 (now_12823.flatMap e3)]) (fun _ hx' => ((.cons .here .nil) : Sel _ [row (.slice ao_12824 now_12823.length cap_12825) 3 1 (now_12823.flatMap e3)] _).mem hx'); exact w_slices_Clone_int_intV (Z := _) (ao := ao_12824) (cap := cap_12825) (l := now_12823) (r := x_12847) w pz (ZA.row (hw.lent (.nil : Sel [row (.slice ao_12824 now_12823.length cap_12825) 3 1 (now_12823.flatMap e3), J_8183 g_12828 s_12827] [] [row (.slice ao_12824 now_12823.length cap_12825) 3 1 (now_12823.flatMap e3), J_8183 g_12828 s_12827]) (B := [row (.slice ao_12824 now_12823.length cap_12825) 3 1 (now_12823.flatMap e3)]) (fun _ hx' => ((.cons .here .nil) : Sel _ [row (.slice ao_12824 now_12823.length cap_12825) 3 1 (now_12823.flatMap e3)] _).mem hx') (.head _) _) (RR.flat (enc := e3) (fun _ => rfl) _) ⟨w, pz.1⟩) hx_12848) ?_
    rintro aor_12856 capr_12857 _
    refine WL.yield (dd := 13) (x := x_12847) (h := (aor_12856, capr_12857)) (g := g_12828) (s := s_12827) (b := x_12852.1) (s' := x_12852.2) hY_8186 rfl rfl rfl (.cons rfl .nil) ((.cons .here (.cons (.there .here) .nil)) : Sel _ [row (.slice aor_12856 x_12847.length capr_12857) 3 1 (x_12847.flatMap e3), J_8183 g_12828 s_12827] _) hx_12853 hphi_12829 (fun w hw => hz.call hw ((.cons .here (.cons (.there .here) .nil)) : Sel _ [row (.slice aor_12856 x_12847.length capr_12857) 3 1 (x_12847.flatMap e3), J_8183 g_12828 s_12827] _)) ?_
    intro g_12859 hphi_12860
    refine WL.nil ?_
    refine WX.then ?_
    refine WC.cond rfl (fun hb_12861 => ?_) (fun hb_12861 => ?_)
    · replace h := ite_t h hb_12861
      refine WC.skip ?_
      refine WX.then ?_
      obtain ⟨k_13090, hk_13091, h⟩ := jp1_elim h
      refine WC.seqMid3 (fun (now_13087 : List Int) (ao_13088 : Option Addr) (cap_13089 : Nat) => (k_13090 now_13087 = some r)) (fun (now_13087 : List Int) (ao_13088 : Option Addr) (cap_13089 : Nat) => [(0, (.func (.yield lp_8181) #[] #[])), (1, (.pointer (some A_8188))), (3, (.slice ao_13088 now_13087.length cap_13089)), (4, (.int .i64 round_12826))]) (fun (now_13087 : List Int) (ao_13088 : Option Addr) (cap_13089 : Nat) => [row (.slice ao_13088 now_13087.length cap_13089) 3 1 (now_13087.flatMap e3), J_8183 g_12859 x_12852.2]) ?_ ?_
      · skip
        refine WC.block ?_
        obtain ⟨k_13095, hk_13096, h⟩ := jp1_elim h
        refine WC.seqMid3 (fun (now_13092 : List Int) (ao_13093 : Option Addr) (cap_13094 : Nat) => (k_13095 now_13092 = some r)) (fun (now_13092 : List Int) (ao_13093 : Option Addr) (cap_13094 : Nat) => [(0, (.func (.yield lp_8181) #[] #[])), (1, (.pointer (some A_8188))), (3, (.slice ao_13093 now_13092.length cap_13094)), (4, (.int .i64 round_12826))]) (fun (now_13092 : List Int) (ao_13093 : Option Addr) (cap_13094 : Nat) => [row (.slice ao_13093 now_13092.length cap_13094) 3 1 (now_13092.flatMap e3), J_8183 g_12859 x_12852.2]) ?_ ?_
        · skip
          refine WC.seq ?_
          refine WC.region ?_
          refine WL.quiet (d := 16) rfl rfl rfl (q_move rfl) ?_
          refine WL.quiet (d := 17) rfl rfl rfl (q_len Try.underlying22 rfl) ?_
          refine WL.quiet (d := 18) rfl rfl rfl (q_move rfl) ?_
          refine WL.nil ?_
          refine WX.then ?_
          refine WC.block ?_
          refine WC.loop5 (fun (n_13141 : Nat) (now_13137 : List Int) (v_13140 : Int) (ao_13138 : Option Addr) (cap_13139 : Nat) => (m_timebase_plan_history_1_L4 Sg_8178 now_12823 c_8190 k_13095 n_13141 now_13137 v_13140 = some r)) (fun (n_13141 : Nat) (now_13137 : List Int) (v_13140 : Int) (ao_13138 : Option Addr) (cap_13139 : Nat) => [(0, (.func (.yield lp_8181) #[] #[])), (1, (.pointer (some A_8188))), (3, (.slice ao_13138 now_13137.length cap_13139)), (4, (.int .i64 round_12826)), (17, (.int .i64 ((now_12823.length : Nat) : Int))), (18, (.int .i64 v_13140))]) (fun (n_13141 : Nat) (now_13137 : List Int) (v_13140 : Int) (ao_13138 : Option Addr) (cap_13139 : Nat) => [row (.slice ao_13138 now_13137.length cap_13139) 3 1 (now_13137.flatMap e3), J_8183 g_12859 x_12852.2]) (fun (n_13141 : Nat) (now_13137 : List Int) (v_13140 : Int) (ao_13138 : Option Addr) (cap_13139 : Nat) => n_13141) ⟨FUEL, now_12823, 0, ao_12824, cap_12825⟩ h (.cons rfl (.cons rfl (.cons rfl (.cons rfl (.cons rfl (.cons rfl .nil)))))) (.cons (.there .here) (.cons .here .nil)) ?_
          rintro n_13141 now_13137 v_13140 ao_13138 cap_13139 h
          obtain ⟨n_13142, rfl⟩ := m_timebase_plan_history_1_L4_fuel h
          rw [m_timebase_plan_history_1_L4] at h
          refine WC.seq ?_
          refine WC.region ?_
          refine WL.quiet (d := 19) rfl rfl rfl (q_lss rfl rfl) ?_
          refine WL.nil ?_
          refine WX.then ?_
          refine WC.seq ?_
          refine WC.cond rfl (fun hb_13144 => ?_) (fun hb_13144 => ?_)
          · replace h := ite_t h hb_13144
            refine WC.skip ?_
            refine WX.then ?_
            refine WC.seq ?_
            refine WC.block ?_
            refine WC.seq ?_
            refine WC.region ?_
            refine WL.quiet (d := 20) rfl rfl rfl (q_move rfl) ?_
            refine WL.quiet (d := 5) rfl rfl rfl (q_assign rfl) ?_
            refine WL.nil ?_
            refine WX.then ?_
            obtain ⟨c_13162, h⟩ := chk_elim h
            obtain ⟨c_13164, h⟩ := chk_elim h
            refine WC.draw (fun i => [12].contains i) [] rfl ?_
            refine WD.pure (i := 0) (d := 21) (by kernel_rfl) rfl (by kernel_rfl) (by kernel_rfl) rfl rfl rfl (fun _ => q_move rfl) ?_
            refine WD.pure (i := 1) (d := 22) (by kernel_rfl) rfl (by kernel_rfl) (by kernel_rfl) rfl rfl rfl (fun _ => q_move rfl) ?_
            refine WD.know (fun w hw => Hp.expose .here hw (by intro hz'; have := c_13162; rw [hz'] at this; omega)) ?_
            rintro ⟨b_13174, rfl⟩
            refine WD.pure (i := 2) (d := 23) (by kernel_rfl) rfl (by kernel_rfl) (by kernel_rfl) rfl rfl rfl (fun _ => q_indexAddr elT_22 rfl rfl c_13162.1 c_13162.2 rowAdd) ?_
            refine WD.quiet (i := 3) (d := 24) (by kernel_rfl) rfl (by kernel_rfl) (by kernel_rfl) rfl rfl rfl (q_load1 oneT_3 rfl (rd_row .here ((flat_rd (enc := e3) (l := now_13137) (i := v_13140) (sz := 1) (fun _ => rfl) c_13162.1 c_13162.2) 0 _ rfl))) ?_
            refine WD.pure (i := 4) (d := 25) (by kernel_rfl) rfl (by kernel_rfl) (by kernel_rfl) rfl rfl rfl (fun _ => q_fieldAddr fo_55_0 rfl rfl) ?_
            refine WD.pure (i := 5) (d := 26) (by kernel_rfl) rfl (by kernel_rfl) (by kernel_rfl) rfl rfl rfl (fun _ => q_fieldAddr fo_24_1 rfl rfl) ?_
            refine WD.quiet (i := 6) (d := 27) (by kernel_rfl) rfl (by kernel_rfl) (by kernel_rfl) rfl rfl rfl (q_load1 oneT_22 rfl (rd_zAt hz.pv hA_8189 rfl)) ?_
            refine WD.pure (i := 7) (d := 28) (by kernel_rfl) rfl (by kernel_rfl) (by kernel_rfl) rfl rfl rfl (fun _ => q_move rfl) ?_
            refine WD.znth (j := 8) (dd := 29) (by kernel_rfl) rfl (by kernel_rfl) (by kernel_rfl) rfl rfl (Z := Z) (Pr := (fun r x => r = e3 x)) elT_22 rfl rfl hs_8196 c_13164 ?_
            rintro A_13175 r_13176 hA_13177 hl_13178 rfl
            refine WD.quiet (i := 9) (d := 30) (by kernel_rfl) rfl (by kernel_rfl) (by kernel_rfl) rfl rfl rfl (q_load1 oneT_3 rfl (rd_z hz.pv hA_13177 rfl)) ?_
            refine WD.pure (i := 10) (d := 31) (by kernel_rfl) rfl (by kernel_rfl) (by kernel_rfl) rfl rfl rfl (fun _ => q_add rfl rfl rfl) ?_
            refine WD.pure (i := 11) (d := 32) (by kernel_rfl) rfl (by kernel_rfl) (by kernel_rfl) rfl rfl rfl (fun _ => q_indexAddr elT_22 rfl rfl c_13162.1 c_13162.2 rowAdd) ?_
            refine WD.forced0 (i := 12) rfl (by kernel_rfl) rfl rfl rfl (Sin.of .nil) (e_rowStore (vs := [(.int .i64 (i64 ((nth now_13137 v_13140) + (nth c_8190.fSetup.fDrift v_13140))))]) (ds := (now_13137.set (v_13140 : Int).toNat (i64 ((nth now_13137 v_13140) + (nth c_8190.fSetup.fDrift v_13140)))).flatMap e3) sizT_3 rfl rfl rfl rfl (oc_cons rfl oc_nil) .here (flat_fit (enc := e3) (sz := 1) (k := 0) (fun _ => rfl) c_13162.1 c_13162.2 (by decide)) (flat_put (enc := e3) (l := now_13137) (sz := 1) (vs := [(.int .i64 (i64 ((nth now_13137 v_13140) + (nth c_8190.fSetup.fDrift v_13140))))]) (y := i64 ((nth now_13137 v_13140) + (nth c_8190.fSetup.fDrift v_13140))) (k := 0) (fun _ => rfl) c_13162.1 c_13162.2 rfl (Nat.le_of_ble_eq_true rfl))) ?_
            refine WD.relen .here (u := (.slice (some ⟨b_13174, 0, none⟩) ((now_13137.set (v_13140 : Int).toNat (i64 ((nth now_13137 v_13140) + (nth c_8190.fSetup.fDrift v_13140)))).length) cap_13139)) (slen (List.length_set).symm) ?_
            refine WD.repin (i := 3) rfl (u := (.slice (some ⟨b_13174, 0, none⟩) ((now_13137.set (v_13140 : Int).toNat (i64 ((nth now_13137 v_13140) + (nth c_8190.fSetup.fDrift v_13140)))).length) cap_13139)) (slen (List.length_set).symm) ?_
            refine WD.done (by kernel_rfl) ?_
            refine WX.blockNormal ?_
            refine WX.then ?_
            refine WC.region ?_
            refine WL.quiet (d := 33) rfl rfl rfl (q_add rfl rfl rfl) ?_
            refine WL.quiet (d := 18) rfl rfl rfl (q_move rfl) ?_
            refine WL.nil ?_
            exact WX.round (G := Nat × List Int × Int × Option Addr × Nat) ⟨n_13142, (now_13137.set (v_13140 : Int).toNat (i64 ((nth now_13137 v_13140) + (nth c_8190.fSetup.fDrift v_13140)))), (i64 (v_13140 + 1)), (some ⟨b_13174, 0, none⟩), cap_13139⟩ h (Nat.lt_succ_self _) (.cons rfl (.cons rfl (.cons rfl (.cons rfl (.cons rfl (.cons rfl .nil)))))) (.cons .here (.cons .here .nil))
          · replace h := ite_f h hb_13144
            refine WC.exit ?_
            refine WX.thenExit ?_
            refine WX.thenExit ?_
            refine WX.blockHit ?_
            exact WX.mid (G := List Int × Option Addr × Nat) ⟨now_13137, ao_13138, cap_13139⟩ h (.cons rfl (.cons rfl (.cons rfl (.cons rfl .nil)))) (.cons .here (.cons .here .nil))
        · rintro now_13092 ao_13093 cap_13094 h
          replace h := (hk_13096 now_13092).symm.trans h
          obtain ⟨x_13179, hx_13180, h⟩ := bind_elim h
          obtain ⟨x_13186, hx_13187, h⟩ := bind_elim h
          refine WC.draw (fun i => [].contains i) [] rfl ?_
          refine WD.quiet (i := 0) (d := 35) (by kernel_rfl) rfl (by kernel_rfl) (by kernel_rfl) rfl rfl rfl (q_loadA (cs := [(.slice ao_8191 c_8190.fSetup.fStart.length cap_8192), (.slice ao_8194 c_8190.fSetup.fDrift.length cap_8195), (.slice ao_8197 c_8190.fSetup.fFaulty.length cap_8198), (.int .i64 c_8190.fSetup.fF), (.int .i64 c_8190.fSetup.fE), (.slice ao_8200 c_8190.fSetup.fErrs.length cap_8201), (.slice ao_8203 c_8190.fSetup.fLies.length cap_8204)]) aggT_55 rfl rfl (rd_zs hz.pv hA_8189)) ?_
          refine WD.pure (i := 1) (d := 36) (by kernel_rfl) rfl (by kernel_rfl) (by kernel_rfl) rfl rfl rfl (fun _ => q_move rfl) ?_
          refine WD.pure (i := 2) (d := 37) (by kernel_rfl) rfl (by kernel_rfl) (by kernel_rfl) rfl rfl rfl (fun _ => q_move rfl) ?_
          refine WD.pure (i := 4) (d := 39) (by kernel_rfl) rfl (by kernel_rfl) (by kernel_rfl) rfl rfl rfl (fun _ => q_fieldAddr fo_55_0 rfl rfl) ?_
          refine WD.pure (i := 5) (d := 40) (by kernel_rfl) rfl (by kernel_rfl) (by kernel_rfl) rfl rfl rfl (fun _ => q_fieldAddr fo_24_3 rfl rfl) ?_
          refine WD.quiet (i := 6) (d := 41) (by kernel_rfl) rfl (by kernel_rfl) (by kernel_rfl) rfl rfl rfl (q_load1 oneT_3 rfl (rd_zAt hz.pv hA_8189 rfl)) ?_
          refine WD.call3 (i := 3) (dd := 38) rfl (by kernel_rfl) rfl rfl rfl (.inr rfl) (run_call (l := [.tmp 35, .tmp 36, .tmp 37]) Try.call30 (.cons rfl (.cons rfl (.cons rfl .nil)))) (.nil : Sel [row (.slice ao_13093 now_13092.length cap_13094) 3 1 (now_13092.flatMap e3), J_8183 g_12859 x_12852.2] [] [row (.slice ao_13093 now_13092.length cap_13094) 3 1 (now_13092.flatMap e3), J_8183 g_12859 x_12852.2]) (fun w hw => by have pz := (hz.call hw (.nil : Sel [row (.slice ao_13093 now_13092.length cap_13094) 3 1 (now_13092.flatMap e3), J_8183 g_12859 x_12852.2] [] [row (.slice ao_13093 now_13092.length cap_13094) 3 1 (now_13092.flatMap e3), J_8183 g_12859 x_12852.2])).lend hw (.nil : Sel [row (.slice ao_13093 now_13092.length cap_13094) 3 1 (now_13092.flatMap e3), J_8183 g_12859 x_12852.2] [] [row (.slice ao_13093 now_13092.length cap_13094) 3 1 (now_13092.flatMap e3), J_8183 g_12859 x_12852.2]) (B := [row (.slice ao_13093 now_13092.length cap_13094) 3 1 (now_13092.flatMap e3)]) (fun _ hx' => ((.cons .here .nil) : Sel _ [row (.slice ao_13093 now_13092.length cap_13094) 3 1 (now_13092.flatMap e3)] _).mem hx'); exact w_timebase_plan_reads (Z := _) (ao_1179 := ao_8191) (cap_1180 := cap_8192) (ao_1182 := ao_8194) (cap_1183 := cap_8195) (ao_1185 := ao_8197) (cap_1186 := cap_8198) (ao_1188 := ao_8200) (cap_1189 := cap_8201) (ao_1191 := ao_8203) (cap_1192 := cap_8204) (ao_1195 := ao_13093) (cap_1196 := cap_13094) (p_1178 := c_8190) (clocks_1194 := now_13092) (round_1198 := round_12826) (r := x_13179) w pz (hs_8193.mono (Zle.left _ _)) (hs_8196.mono (Zle.left _ _)) (hs_8199.mono (Zle.left _ _)) (hs_8202.mono (Zle.left _ _)) (hs_8205.mono (Zle.left _ _)) (ZA.row (hw.lent (.nil : Sel [row (.slice ao_13093 now_13092.length cap_13094) 3 1 (now_13092.flatMap e3), J_8183 g_12859 x_12852.2] [] [row (.slice ao_13093 now_13092.length cap_13094) 3 1 (now_13092.flatMap e3), J_8183 g_12859 x_12852.2]) (B := [row (.slice ao_13093 now_13092.length cap_13094) 3 1 (now_13092.flatMap e3)]) (fun _ hx' => ((.cons .here .nil) : Sel _ [row (.slice ao_13093 now_13092.length cap_13094) 3 1 (now_13092.flatMap e3)] _).mem hx') (.head _) _) (RR.flat (enc := e3) (fun _ => rfl) _) ⟨w, pz.1⟩) hx_13180) ?_
          rintro ao_13191 cap_13192 m_13193 hf_13194
          refine WD.call2 (i := 7) (dd := 42) rfl (by kernel_rfl) rfl rfl rfl (.inr rfl) (run_call (l := [.tmp 38, .tmp 41]) Try.call24 (.cons rfl (.cons rfl .nil))) (.nil : Sel [mat 3 1 e3 m_13193, row (.slice ao_13191 x_13179.length cap_13192) 22 1 (m_13193.flatMap em), row (.slice ao_13093 now_13092.length cap_13094) 3 1 (now_13092.flatMap e3), J_8183 g_12859 x_12852.2] [] [mat 3 1 e3 m_13193, row (.slice ao_13191 x_13179.length cap_13192) 22 1 (m_13193.flatMap em), row (.slice ao_13093 now_13092.length cap_13094) 3 1 (now_13092.flatMap e3), J_8183 g_12859 x_12852.2]) (fun w hw => by have pz := (hz.call hw (.nil : Sel [mat 3 1 e3 m_13193, row (.slice ao_13191 x_13179.length cap_13192) 22 1 (m_13193.flatMap em), row (.slice ao_13093 now_13092.length cap_13094) 3 1 (now_13092.flatMap e3), J_8183 g_12859 x_12852.2] [] [mat 3 1 e3 m_13193, row (.slice ao_13191 x_13179.length cap_13192) 22 1 (m_13193.flatMap em), row (.slice ao_13093 now_13092.length cap_13094) 3 1 (now_13092.flatMap e3), J_8183 g_12859 x_12852.2])).lend hw (.nil : Sel [mat 3 1 e3 m_13193, row (.slice ao_13191 x_13179.length cap_13192) 22 1 (m_13193.flatMap em), row (.slice ao_13093 now_13092.length cap_13094) 3 1 (now_13092.flatMap e3), J_8183 g_12859 x_12852.2] [] [mat 3 1 e3 m_13193, row (.slice ao_13191 x_13179.length cap_13192) 22 1 (m_13193.flatMap em), row (.slice ao_13093 now_13092.length cap_13094) 3 1 (now_13092.flatMap e3), J_8183 g_12859 x_12852.2]) (B := [row (.slice ao_13191 x_13179.length cap_13192) 22 1 (m_13193.flatMap em), mat 3 1 e3 m_13193]) (fun _ hx' => ((.cons (.there .here) (.cons .here .nil)) : Sel _ [row (.slice ao_13191 x_13179.length cap_13192) 22 1 (m_13193.flatMap em), mat 3 1 e3 m_13193] _).mem hx'); exact w_timebase_Round (Z := _) (ao_8479 := ao_13191) (cap_8480 := cap_13192) (reads_8478 := x_13179) (f_8482 := c_8190.fSetup.fF) (r := x_13186) w pz (ZA.row (hw.lent (.nil : Sel [mat 3 1 e3 m_13193, row (.slice ao_13191 x_13179.length cap_13192) 22 1 (m_13193.flatMap em), row (.slice ao_13093 now_13092.length cap_13094) 3 1 (now_13092.flatMap e3), J_8183 g_12859 x_12852.2] [] [mat 3 1 e3 m_13193, row (.slice ao_13191 x_13179.length cap_13192) 22 1 (m_13193.flatMap em), row (.slice ao_13093 now_13092.length cap_13094) 3 1 (now_13092.flatMap e3), J_8183 g_12859 x_12852.2]) (B := [row (.slice ao_13191 x_13179.length cap_13192) 22 1 (m_13193.flatMap em), mat 3 1 e3 m_13193]) (fun _ hx' => ((.cons (.there .here) (.cons .here .nil)) : Sel _ [row (.slice ao_13191 x_13179.length cap_13192) 22 1 (m_13193.flatMap em), mat 3 1 e3 m_13193] _).mem hx') (.head _) _) (ZA.mat (hw.lent (.nil : Sel [mat 3 1 e3 m_13193, row (.slice ao_13191 x_13179.length cap_13192) 22 1 (m_13193.flatMap em), row (.slice ao_13093 now_13092.length cap_13094) 3 1 (now_13092.flatMap e3), J_8183 g_12859 x_12852.2] [] [mat 3 1 e3 m_13193, row (.slice ao_13191 x_13179.length cap_13192) 22 1 (m_13193.flatMap em), row (.slice ao_13093 now_13092.length cap_13094) 3 1 (now_13092.flatMap e3), J_8183 g_12859 x_12852.2]) (B := [row (.slice ao_13191 x_13179.length cap_13192) 22 1 (m_13193.flatMap em), mat 3 1 e3 m_13193]) (fun _ hx' => ((.cons (.there .here) (.cons .here .nil)) : Sel _ [row (.slice ao_13191 x_13179.length cap_13192) 22 1 (m_13193.flatMap em), mat 3 1 e3 m_13193] _).mem hx') (.tail _ (.head _)) _) (fun _ => rfl) hf_13194 ⟨w, pz.1⟩) ⟨w, pz.1⟩) hx_13187) ?_
          rintro ao_13196 cap_13197 _
          refine WD.pure (i := 8) (d := 34) (by kernel_rfl) rfl (by kernel_rfl) (by kernel_rfl) rfl rfl rfl (fun _ => q_move rfl) ?_
          refine WD.pure (i := 9) (d := 43) (by kernel_rfl) rfl (by kernel_rfl) (by kernel_rfl) rfl rfl rfl (fun _ => q_extract rfl rfl) ?_
          refine WD.pure (i := 10) (d := 44) (by kernel_rfl) rfl (by kernel_rfl) (by kernel_rfl) rfl rfl rfl (fun _ => q_extract rfl rfl) ?_
          refine WD.pure (i := 11) (d := 3) (by kernel_rfl) rfl (by kernel_rfl) (by kernel_rfl) rfl rfl rfl (fun _ => q_assign rfl) ?_
          refine WD.done (by kernel_rfl) ?_
          refine WX.blockNormal ?_
          exact WX.mid (G := List Int × Option Addr × Nat) ⟨x_13186.1, ao_13196, cap_13197⟩ h (.cons rfl (.cons rfl (.cons rfl (.cons rfl .nil)))) (.cons .here (.cons (.there (.there (.there .here))) .nil))
      · rintro now_13087 ao_13088 cap_13089 h
        replace h := (hk_13091 now_13087).symm.trans h
        refine WC.region ?_
        refine WL.quiet (d := 14) rfl rfl rfl (q_move rfl) ?_
        refine WL.quiet (d := 15) rfl rfl rfl (q_add rfl rfl rfl) ?_
        refine WL.quiet (d := 4) rfl rfl rfl (q_assign rfl) ?_
        refine WL.nil ?_
        exact WX.round (G := Nat × List Int × Int × Sg_8178 × Option Addr × Nat × Gg_8182) ⟨n_12831, now_13087, (i64 (round_12826 + 1)), x_12852.2, ao_13088, cap_13089, g_12859⟩ ⟨h, hphi_12860⟩ (Nat.lt_succ_self _) (.cons rfl (.cons rfl (.cons rfl (.cons rfl .nil)))) (.cons .here (.cons .here .nil))
    · replace h := ite_f h hb_12861
      refine WC.exit ?_
      refine WX.thenExit ?_
      refine WX.thenExit ?_
      refine WX.blockHit ?_
      exact WX.mid (G := Sg_8178 × Gg_8182) ⟨x_12852.2, g_12859⟩ ⟨h, hphi_12860⟩ .nil (.cons .here .nil)
  · rintro s_12442 g_12443 ⟨h, hphi_12444⟩
    replace h := (hk_12446 s_12442).symm.trans h
    obtain rfl := Option.some.inj h
    refine WX.bpNormal Try.results40 .nil (fun w hw => ?_)
    exact ⟨g_12443, ret0, hphi_12444, hw.sub (.cons .here .nil)⟩
def m_timebase_Run_R4 (rounds_13226 : Int) (x_13768 : List Int) (c_13824 : List (List Int)) : Option (Bool × (Nat × List (List Int))) :=
  chk ((((c_13824 ++ ([x_13768] : List (List Int))).length : Nat) : Int) * 24 ≤ 140737488355328 ∧ (((c_13824 ++ ([x_13768] : List (List Int))).length : Nat) : Int) ≤ 4611686018427387904) (if decide ((((c_13824 ++ ([x_13768] : List (List Int))).length : Nat) : Int) > rounds_13226) then some (false, (1, (c_13824 ++ ([x_13768] : List (List Int))))) else some (true, (0, (c_13824 ++ ([x_13768] : List (List Int))))))

/-- timebase.Run -/
def m_timebase_Run (s_13210 : Stimebase_Setup) (rounds_13226 : Int) : Option (List (List Int) × Int) :=
  (m_timebase_Valid s_13210).bind fun x_13561 => if ((!x_13561) || (decide (rounds_13226 < 0))) || (decide (rounds_13226 > 100)) then some (([] : List (List Int)), 2) else jp1 (fun (c_13716 : List (List Int)) => some (c_13716, 0)) fun k_13722 => (m_timebase_plan_history (⟨s_13210⟩ : Stimebase_plan)).bind fun x_13724 => (m_timebase_plan_history_1 (Nat × List (List Int)) (fun (x : List Int) (s : Nat × List (List Int)) => chk (s.1 = 0) (m_timebase_Run_R4 rounds_13226 x s.2)) (0, ([] : List (List Int))) x_13724).bind fun y_13830 => if y_13830.1 = 0 then k_13722 y_13830.2 else if y_13830.1 = 1 then k_13722 y_13830.2 else none

set_option maxRecDepth 20000 in
theorem w_timebase_Run (Z : Zp)  (ao_13211 : Option Addr) (cap_13212 : Nat) (ao_13214 : Option Addr) (cap_13215 : Nat) (ao_13217 : Option Addr) (cap_13218 : Nat) (ao_13220 : Option Addr) (cap_13221 : Nat) (ao_13223 : Option Addr) (cap_13224 : Nat) (s_13210 : Stimebase_Setup) (rounds_13226 : Int) (r : List (List Int) × Int) (w₀ : World) (hz : PZ [] w₀ Z)
    (hs_13213 : ZS Z 1 (fun r x => r = e3 x) ao_13211 cap_13212 s_13210.fStart)
    (hs_13216 : ZS Z 1 (fun r x => r = e3 x) ao_13214 cap_13215 s_13210.fDrift)
    (hs_13219 : ZS Z 1 (fun r x => r = e3 x) ao_13217 cap_13218 s_13210.fFaulty)
    (hs_13222 : ZS Z 1 (fun r x => r = e3 x) ao_13220 cap_13221 s_13210.fErrs)
    (hs_13225 : ZS Z 1 (fun r x => r = e3 x) ao_13223 cap_13224 s_13210.fLies)
    (h : m_timebase_Run s_13210 rounds_13226 = some r) :
    Calls Try.prog 16 #[(.agg #[(.slice ao_13211 s_13210.fStart.length cap_13212), (.slice ao_13214 s_13210.fDrift.length cap_13215), (.slice ao_13217 s_13210.fFaulty.length cap_13218), (.int .i64 s_13210.fF), (.int .i64 s_13210.fE), (.slice ao_13220 s_13210.fErrs.length cap_13221), (.slice ao_13223 s_13210.fLies.length cap_13224)]), (.int .i64 rounds_13226)] w₀ fun e w' => ∃ Zn : Zp, ∃ ao_13545 : Option Addr, ∃ cap_13546 : Nat, ∃ cs_13547 : List Value, e = .returned (.tuple #[(.slice ao_13545 r.1.length cap_13546), (.int .i64 r.2)]) ∧ (RR 1 (p22 (Z ++ Zn)) cs_13547 r.1) ∧ Hp [] w₀ w' [fz Zn, row (.slice ao_13545 r.1.length cap_13546) 22 1 cs_13547] := by
  unfold m_timebase_Run at h
  refine Calls.ofWCM (vs := [(.agg #[(.slice ao_13211 s_13210.fStart.length cap_13212), (.slice ao_13214 s_13210.fDrift.length cap_13215), (.slice ao_13217 s_13210.fFaulty.length cap_13218), (.int .i64 s_13210.fF), (.int .i64 s_13210.fE), (.slice ao_13220 s_13210.fErrs.length cap_13221), (.slice ao_13223 s_13210.fLies.length cap_13224)]), (.int .i64 rounds_13226)]) (pre := []) (env := [(0, (.agg #[(.slice ao_13211 s_13210.fStart.length cap_13212), (.slice ao_13214 s_13210.fDrift.length cap_13215), (.slice ao_13217 s_13210.fFaulty.length cap_13218), (.int .i64 s_13210.fF), (.int .i64 s_13210.fE), (.slice ao_13220 s_13210.fErrs.length cap_13221), (.slice ao_13223 s_13210.fLies.length cap_13224)])), (1, (.int .i64 rounds_13226))]) Try.func16 rfl Try.ntmps16 rfl (Hp.nil w₀ _) rfl ?_
  refine WC.pool ?_
  refine WC.seq ?_
  refine WC.region ?_
  refine WL.new (dd := 2) rfl rfl rfl (e_box (cs := [(.slice ao_13211 s_13210.fStart.length cap_13212), (.slice ao_13214 s_13210.fDrift.length cap_13215), (.slice ao_13217 s_13210.fFaulty.length cap_13218), (.int .i64 s_13210.fF), (.int .i64 s_13210.fE), (.slice ao_13220 s_13210.fErrs.length cap_13221), (.slice ao_13223 s_13210.fLies.length cap_13224)]) rfl rfl) ?_
  intro b_13552 _
  refine WL.new (dd := 3) rfl rfl rfl (e_box (cs := [(.int .i64 rounds_13226)]) rfl rfl) ?_
  intro b_13553 _
  refine WL.quiet (d := 4) rfl rfl rfl (q_assign rfl) ?_
  refine WL.quiet (d := 5) rfl rfl rfl (q_assign rfl) ?_
  refine WL.nil ?_
  refine WX.then ?_
  refine WC.seq ?_
  refine WC.seq ?_
  obtain ⟨x_13561, hx_13562, h⟩ := bind_elim h
  refine WC.region ?_
  refine WL.quiet (d := 8) rfl rfl rfl (q_loadA (cs := [(.slice ao_13211 s_13210.fStart.length cap_13212), (.slice ao_13214 s_13210.fDrift.length cap_13215), (.slice ao_13217 s_13210.fFaulty.length cap_13218), (.int .i64 s_13210.fF), (.int .i64 s_13210.fE), (.slice ao_13220 s_13210.fErrs.length cap_13221), (.slice ao_13223 s_13210.fLies.length cap_13224)]) aggT_24 rfl rfl (rd_all (.there .here))) ?_
  refine WL.callD (dd := 9) rfl rfl rfl (run_call (l := [.tmp 8]) Try.call19 (.cons rfl .nil)) (.nil : Sel [stb b_13553 3 [(.int .i64 rounds_13226)], stb b_13552 24 [(.slice ao_13211 s_13210.fStart.length cap_13212), (.slice ao_13214 s_13210.fDrift.length cap_13215), (.slice ao_13217 s_13210.fFaulty.length cap_13218), (.int .i64 s_13210.fF), (.int .i64 s_13210.fE), (.slice ao_13220 s_13210.fErrs.length cap_13221), (.slice ao_13223 s_13210.fLies.length cap_13224)], fz []] [] [stb b_13553 3 [(.int .i64 rounds_13226)], stb b_13552 24 [(.slice ao_13211 s_13210.fStart.length cap_13212), (.slice ao_13214 s_13210.fDrift.length cap_13215), (.slice ao_13217 s_13210.fFaulty.length cap_13218), (.int .i64 s_13210.fF), (.int .i64 s_13210.fE), (.slice ao_13220 s_13210.fErrs.length cap_13221), (.slice ao_13223 s_13210.fLies.length cap_13224)], fz []]) (fun w hw => by have pz := (hz.call2 hw (.nil : Sel [stb b_13553 3 [(.int .i64 rounds_13226)], stb b_13552 24 [(.slice ao_13211 s_13210.fStart.length cap_13212), (.slice ao_13214 s_13210.fDrift.length cap_13215), (.slice ao_13217 s_13210.fFaulty.length cap_13218), (.int .i64 s_13210.fF), (.int .i64 s_13210.fE), (.slice ao_13220 s_13210.fErrs.length cap_13221), (.slice ao_13223 s_13210.fLies.length cap_13224)], fz []] [] [stb b_13553 3 [(.int .i64 rounds_13226)], stb b_13552 24 [(.slice ao_13211 s_13210.fStart.length cap_13212), (.slice ao_13214 s_13210.fDrift.length cap_13215), (.slice ao_13217 s_13210.fFaulty.length cap_13218), (.int .i64 s_13210.fF), (.int .i64 s_13210.fE), (.slice ao_13220 s_13210.fErrs.length cap_13221), (.slice ao_13223 s_13210.fLies.length cap_13224)], fz []]) (.there (.there .here))); exact w_timebase_Valid (Z := _) (ao_104 := ao_13211) (cap_105 := cap_13212) (ao_107 := ao_13214) (cap_108 := cap_13215) (ao_110 := ao_13217) (cap_111 := cap_13218) (ao_113 := ao_13220) (cap_114 := cap_13221) (ao_116 := ao_13223) (cap_117 := cap_13224) (s_103 := s_13210) (r := x_13561) w pz (hs_13213.mono (Zle.left _ _)) (hs_13216.mono (Zle.left _ _)) (hs_13219.mono (Zle.left _ _)) (hs_13222.mono (Zle.left _ _)) (hs_13225.mono (Zle.left _ _)) hx_13562) ?_
  refine WL.quiet (d := 10) rfl rfl rfl (q_not rfl) ?_
  refine WL.quiet (d := 11) rfl rfl rfl (q_move rfl) ?_
  refine WL.cut0 True [(2, (.pointer (some ⟨b_13552, 0, none⟩))), (3, (.pointer (some ⟨b_13553, 0, none⟩))), (14, (.bool ((!x_13561) || (decide (rounds_13226 < 0)))))] [stb b_13553 3 [(.int .i64 rounds_13226)], stb b_13552 24 [(.slice ao_13211 s_13210.fStart.length cap_13212), (.slice ao_13214 s_13210.fDrift.length cap_13215), (.slice ao_13217 s_13210.fFaulty.length cap_13218), (.int .i64 s_13210.fF), (.int .i64 s_13210.fE), (.slice ao_13220 s_13210.fErrs.length cap_13221), (.slice ao_13223 s_13210.fLies.length cap_13224)], fz []] 3 ?_ (fun _ => ?_)
  · rcases Bool.eq_false_or_eq_true (!x_13561) with hb' | hb'
    · have hg_13563 := hb'; clear hb'
      refine WL.pin (i := 11) rfl hg_13563 ?_
      refine WL.skip rfl rfl rfl ?_
      refine WL.skip rfl rfl rfl ?_
      refine WL.quiet (d := 14) rfl rfl rfl (q_pickT rfl rfl) ?_
      exact WL.cutEnd () trivial (.cons rfl (.cons rfl (.cons (some_bool (or_l hg_13563)) .nil))) (.cons .here (.cons .here (.cons .here .nil)))
    · have hg_13564 := hb'; clear hb'
      refine WL.pin (i := 11) rfl hg_13564 ?_
      refine WL.quiet (d := 12) rfl rfl rfl (q_load1 oneT_3 rfl (rd_stb .here rfl)) ?_
      refine WL.quiet (d := 13) rfl rfl rfl (q_lss rfl rfl) ?_
      refine WL.quiet (d := 14) rfl rfl rfl (q_pickF rfl rfl) ?_
      exact WL.cutEnd () trivial (.cons rfl (.cons rfl (.cons (some_bool (or_r hg_13564)) .nil))) (.cons .here (.cons .here (.cons .here .nil)))
  · skip
    refine WL.quiet (d := 15) rfl rfl rfl (q_move rfl) ?_
    refine WL.cut0 True [(2, (.pointer (some ⟨b_13552, 0, none⟩))), (3, (.pointer (some ⟨b_13553, 0, none⟩))), (18, (.bool (((!x_13561) || (decide (rounds_13226 < 0))) || (decide (rounds_13226 > 100)))))] [stb b_13553 3 [(.int .i64 rounds_13226)], stb b_13552 24 [(.slice ao_13211 s_13210.fStart.length cap_13212), (.slice ao_13214 s_13210.fDrift.length cap_13215), (.slice ao_13217 s_13210.fFaulty.length cap_13218), (.int .i64 s_13210.fF), (.int .i64 s_13210.fE), (.slice ao_13220 s_13210.fErrs.length cap_13221), (.slice ao_13223 s_13210.fLies.length cap_13224)], fz []] 3 ?_ (fun _ => ?_)
    · rcases Bool.eq_false_or_eq_true ((!x_13561) || (decide (rounds_13226 < 0))) with hb' | hb'
      · have hg_13565 := hb'; clear hb'
        refine WL.pin (i := 15) rfl hg_13565 ?_
        refine WL.skip rfl rfl rfl ?_
        refine WL.skip rfl rfl rfl ?_
        refine WL.quiet (d := 18) rfl rfl rfl (q_pickT rfl rfl) ?_
        exact WL.cutEnd () trivial (.cons rfl (.cons rfl (.cons (some_bool (or_l hg_13565)) .nil))) (.cons .here (.cons .here (.cons .here .nil)))
      · have hg_13566 := hb'; clear hb'
        refine WL.pin (i := 15) rfl hg_13566 ?_
        refine WL.quiet (d := 16) rfl rfl rfl (q_load1 oneT_3 rfl (rd_stb .here rfl)) ?_
        refine WL.quiet (d := 17) rfl rfl rfl (q_gtr rfl rfl) ?_
        refine WL.quiet (d := 18) rfl rfl rfl (q_pickF rfl rfl) ?_
        exact WL.cutEnd () trivial (.cons rfl (.cons rfl (.cons (some_bool (or_r hg_13566)) .nil))) (.cons .here (.cons .here (.cons .here .nil)))
    · skip
      refine WL.nil ?_
      refine WX.then ?_
      refine WC.cond rfl (fun hb_13567 => ?_) (fun hb_13567 => ?_)
      · replace h := ite_t h hb_13567
        refine WC.seq ?_
        refine WC.region ?_
        refine WL.quiet (d := 4) rfl rfl rfl (q_assign rfl) ?_
        refine WL.quiet (d := 5) rfl rfl rfl (q_assign rfl) ?_
        refine WL.nil ?_
        refine WX.then ?_
        refine WC.ret ?_
        refine WX.thenRet ?_
        refine WX.nilRow 22 1 ?_
        obtain rfl := Option.some.inj h
        refine WX.bpRetM Try.results16 (.tmp rfl (.tmp rfl .nil)) (fun w hw => ?_)
        exact ⟨[], none, 0, [], ret2 rfl rfl, (RR.nil _ _), hw.sub (.cons (.there (.there (.there .here))) (.cons .here .nil))⟩
      · replace h := ite_f h hb_13567
        refine WC.skip ?_
        refine WX.then ?_
        refine WC.seq ?_
        refine WC.region ?_
        refine WL.new (dd := 6) rfl rfl rfl (e_alloc (cs := [(.slice none 0 0)]) zeroT_30 rfl) ?_
        intro b_13570 _
        refine WL.nil ?_
        refine WX.then ?_
        obtain ⟨k_13722, hk_13723, h⟩ := jp1_elim h
        refine WC.seqMidR6 (fun (D_13721 : Nat) (c_13716 : List (List Int)) (Zn_13714 : Zp) (ao_13717 : Option Addr) (cap_13718 : Nat) (cs_13719 : List Value) => (k_13722 c_13716 = some r) ∧ (Zle (Z ++ []) (Z ++ Zn_13714)) ∧ (RR 1 (p22 (Z ++ Zn_13714)) cs_13719 c_13716)) (fun (D_13721 : Nat) (c_13716 : List (List Int)) (Zn_13714 : Zp) (ao_13717 : Option Addr) (cap_13718 : Nat) (cs_13719 : List Value) => [(6, (.pointer (some ⟨b_13570, 0, none⟩)))]) (fun (D_13721 : Nat) (c_13716 : List (List Int)) (Zn_13714 : Zp) (ao_13717 : Option Addr) (cap_13718 : Nat) (cs_13719 : List Value) => [fz Zn_13714, stb b_13570 30 [(.slice ao_13717 c_13716.length cap_13718)], row (.slice ao_13717 c_13716.length cap_13718) 22 1 cs_13719, dfr D_13721]) ?_ ?_
        · skip
          refine WC.seq ?_
          obtain ⟨x_13724, hx_13725, h⟩ := bind_elim h
          refine WC.region ?_
          refine WL.quiet (d := 19) rfl rfl rfl (q_loadA (cs := [(.slice ao_13211 s_13210.fStart.length cap_13212), (.slice ao_13214 s_13210.fDrift.length cap_13215), (.slice ao_13217 s_13210.fFaulty.length cap_13218), (.int .i64 s_13210.fF), (.int .i64 s_13210.fE), (.slice ao_13220 s_13210.fErrs.length cap_13221), (.slice ao_13223 s_13210.fLies.length cap_13224)]) aggT_24 rfl rfl (rd_all (.there (.there .here)))) ?_
          refine WL.quiet (d := 20) rfl rfl rfl (q_build (v := (.agg #[(.slice ao_13211 s_13210.fStart.length cap_13212), (.slice ao_13214 s_13210.fDrift.length cap_13215), (.slice ao_13217 s_13210.fFaulty.length cap_13218), (.int .i64 s_13210.fF), (.int .i64 s_13210.fE), (.slice ao_13220 s_13210.fErrs.length cap_13221), (.slice ao_13223 s_13210.fLies.length cap_13224)])) (Eos.parts (l := [.tmp 19]) (.cons rfl .nil) [0]) (fun _ => by kernel_rfl)) ?_
          refine WL.enter11 (dd := 21) rfl rfl rfl (run_call (l := [.tmp 20]) Try.call31 (.cons rfl .nil)) (.nil : Sel [stb b_13570 30 [(.slice none 0 0)], stb b_13553 3 [(.int .i64 rounds_13226)], stb b_13552 24 [(.slice ao_13211 s_13210.fStart.length cap_13212), (.slice ao_13214 s_13210.fDrift.length cap_13215), (.slice ao_13217 s_13210.fFaulty.length cap_13218), (.int .i64 s_13210.fF), (.int .i64 s_13210.fE), (.slice ao_13220 s_13210.fErrs.length cap_13221), (.slice ao_13223 s_13210.fLies.length cap_13224)], fz []] [] [stb b_13570 30 [(.slice none 0 0)], stb b_13553 3 [(.int .i64 rounds_13226)], stb b_13552 24 [(.slice ao_13211 s_13210.fStart.length cap_13212), (.slice ao_13214 s_13210.fDrift.length cap_13215), (.slice ao_13217 s_13210.fFaulty.length cap_13218), (.int .i64 s_13210.fF), (.int .i64 s_13210.fE), (.slice ao_13220 s_13210.fErrs.length cap_13221), (.slice ao_13223 s_13210.fLies.length cap_13224)], fz []]) (fun w hw => by have pz := (hz.call2 hw (.nil : Sel [stb b_13570 30 [(.slice none 0 0)], stb b_13553 3 [(.int .i64 rounds_13226)], stb b_13552 24 [(.slice ao_13211 s_13210.fStart.length cap_13212), (.slice ao_13214 s_13210.fDrift.length cap_13215), (.slice ao_13217 s_13210.fFaulty.length cap_13218), (.int .i64 s_13210.fF), (.int .i64 s_13210.fE), (.slice ao_13220 s_13210.fErrs.length cap_13221), (.slice ao_13223 s_13210.fLies.length cap_13224)], fz []] [] [stb b_13570 30 [(.slice none 0 0)], stb b_13553 3 [(.int .i64 rounds_13226)], stb b_13552 24 [(.slice ao_13211 s_13210.fStart.length cap_13212), (.slice ao_13214 s_13210.fDrift.length cap_13215), (.slice ao_13217 s_13210.fFaulty.length cap_13218), (.int .i64 s_13210.fF), (.int .i64 s_13210.fE), (.slice ao_13220 s_13210.fErrs.length cap_13221), (.slice ao_13223 s_13210.fLies.length cap_13224)], fz []]) (.there (.there (.there .here)))); exact w_timebase_plan_history (Z := _) (ao_8106 := ao_13211) (cap_8107 := cap_13212) (ao_8109 := ao_13214) (cap_8110 := cap_13215) (ao_8112 := ao_13217) (cap_8113 := cap_13218) (ao_8115 := ao_13220) (cap_8116 := cap_13221) (ao_8118 := ao_13223) (cap_8119 := cap_13224) (p_8105 := (⟨s_13210⟩ : Stimebase_plan)) (r := x_13724) w pz (hs_13213.mono (Zle.left _ _)) (hs_13216.mono (Zle.left _ _)) (hs_13219.mono (Zle.left _ _)) (hs_13222.mono (Zle.left _ _)) (hs_13225.mono (Zle.left _ _)) hx_13725) ?_
          rintro b_13743 ao_13744 cap_13745 ao_13746 cap_13747 ao_13748 cap_13749 ao_13750 cap_13751 ao_13752 cap_13753 ⟨hf_13754, hf_13755, hf_13756, hf_13757, hf_13758⟩
          refine WL.nil ?_
          refine WX.then ?_
          refine WC.block ?_
          refine WC.pool ?_
          refine WC.drop (.cons .here (.cons (.there .here) (.cons (.there .here) (.cons (.there .here) (.cons .here (.cons .here .nil)))))) ?_
          refine WC.nilRow 22 1 ?_
          refine WC.rangeFunc (f := 40) (caps := [(.pointer (some ⟨b_13743, 0, none⟩))]) rfl Try.call40 ?_
          intro fn_13763 tm_13764 lp_13760 D_13761 rc_13762 hrc_13765 hev_13766 hsz_13767 w hw
          have hw1 := hw.selAll ((.cons (.there (.there (.there .here))) (.cons (.there (.there (.there .here))) (.cons (.there (.there .here)) (.cons (.there (.there .here)) (.cons (.there (.there .here)) (.cons .here .nil)))))) : Sel _ [fz [], stb b_13570 30 [(.slice none (([] : List (List Int)).length) 0)], row (.slice none (([] : List (List Int)).length) 0) 22 1 [], stb b_13553 3 [(.int .i64 rounds_13226)], stb b_13552 24 [(.slice ao_13211 s_13210.fStart.length cap_13212), (.slice ao_13214 s_13210.fDrift.length cap_13215), (.slice ao_13217 s_13210.fFaulty.length cap_13218), (.int .i64 s_13210.fF), (.int .i64 s_13210.fE), (.slice ao_13220 s_13210.fErrs.length cap_13221), (.slice ao_13223 s_13210.fLies.length cap_13224)], blk lp_13760 (rc_13762 .ready none)] _)
          have pz := (hz.call2 hw1 ((.cons .here .nil) : Sel [allA [fz [], stb b_13570 30 [(.slice none (([] : List (List Int)).length) 0)], row (.slice none (([] : List (List Int)).length) 0) 22 1 [], stb b_13553 3 [(.int .i64 rounds_13226)], stb b_13552 24 [(.slice ao_13211 s_13210.fStart.length cap_13212), (.slice ao_13214 s_13210.fDrift.length cap_13215), (.slice ao_13217 s_13210.fFaulty.length cap_13218), (.int .i64 s_13210.fF), (.int .i64 s_13210.fE), (.slice ao_13220 s_13210.fErrs.length cap_13221), (.slice ao_13223 s_13210.fLies.length cap_13224)], blk lp_13760 (rc_13762 .ready none)], dfr D_13761, stb b_13743 55 [(.slice ao_13744 x_13724.fSetup.fStart.length cap_13745), (.slice ao_13746 x_13724.fSetup.fDrift.length cap_13747), (.slice ao_13748 x_13724.fSetup.fFaulty.length cap_13749), (.int .i64 x_13724.fSetup.fF), (.int .i64 x_13724.fSetup.fE), (.slice ao_13750 x_13724.fSetup.fErrs.length cap_13751), (.slice ao_13752 x_13724.fSetup.fLies.length cap_13753)], fz []] [allA [fz [], stb b_13570 30 [(.slice none (([] : List (List Int)).length) 0)], row (.slice none (([] : List (List Int)).length) 0) 22 1 [], stb b_13553 3 [(.int .i64 rounds_13226)], stb b_13552 24 [(.slice ao_13211 s_13210.fStart.length cap_13212), (.slice ao_13214 s_13210.fDrift.length cap_13215), (.slice ao_13217 s_13210.fFaulty.length cap_13218), (.int .i64 s_13210.fF), (.int .i64 s_13210.fE), (.slice ao_13220 s_13210.fErrs.length cap_13221), (.slice ao_13223 s_13210.fLies.length cap_13224)], blk lp_13760 (rc_13762 .ready none)]] [dfr D_13761, stb b_13743 55 [(.slice ao_13744 x_13724.fSetup.fStart.length cap_13745), (.slice ao_13746 x_13724.fSetup.fDrift.length cap_13747), (.slice ao_13748 x_13724.fSetup.fFaulty.length cap_13749), (.int .i64 x_13724.fSetup.fF), (.int .i64 x_13724.fSetup.fE), (.slice ao_13750 x_13724.fSetup.fErrs.length cap_13751), (.slice ao_13752 x_13724.fSetup.fLies.length cap_13753)], fz []]) (.there (.there .here))).lend hw1 ((.cons .here .nil) : Sel [allA [fz [], stb b_13570 30 [(.slice none (([] : List (List Int)).length) 0)], row (.slice none (([] : List (List Int)).length) 0) 22 1 [], stb b_13553 3 [(.int .i64 rounds_13226)], stb b_13552 24 [(.slice ao_13211 s_13210.fStart.length cap_13212), (.slice ao_13214 s_13210.fDrift.length cap_13215), (.slice ao_13217 s_13210.fFaulty.length cap_13218), (.int .i64 s_13210.fF), (.int .i64 s_13210.fE), (.slice ao_13220 s_13210.fErrs.length cap_13221), (.slice ao_13223 s_13210.fLies.length cap_13224)], blk lp_13760 (rc_13762 .ready none)], dfr D_13761, stb b_13743 55 [(.slice ao_13744 x_13724.fSetup.fStart.length cap_13745), (.slice ao_13746 x_13724.fSetup.fDrift.length cap_13747), (.slice ao_13748 x_13724.fSetup.fFaulty.length cap_13749), (.int .i64 x_13724.fSetup.fF), (.int .i64 x_13724.fSetup.fE), (.slice ao_13750 x_13724.fSetup.fErrs.length cap_13751), (.slice ao_13752 x_13724.fSetup.fLies.length cap_13753)], fz []] [allA [fz [], stb b_13570 30 [(.slice none (([] : List (List Int)).length) 0)], row (.slice none (([] : List (List Int)).length) 0) 22 1 [], stb b_13553 3 [(.int .i64 rounds_13226)], stb b_13552 24 [(.slice ao_13211 s_13210.fStart.length cap_13212), (.slice ao_13214 s_13210.fDrift.length cap_13215), (.slice ao_13217 s_13210.fFaulty.length cap_13218), (.int .i64 s_13210.fF), (.int .i64 s_13210.fE), (.slice ao_13220 s_13210.fErrs.length cap_13221), (.slice ao_13223 s_13210.fLies.length cap_13224)], blk lp_13760 (rc_13762 .ready none)]] [dfr D_13761, stb b_13743 55 [(.slice ao_13744 x_13724.fSetup.fStart.length cap_13745), (.slice ao_13746 x_13724.fSetup.fDrift.length cap_13747), (.slice ao_13748 x_13724.fSetup.fFaulty.length cap_13749), (.int .i64 x_13724.fSetup.fF), (.int .i64 x_13724.fSetup.fE), (.slice ao_13750 x_13724.fSetup.fErrs.length cap_13751), (.slice ao_13752 x_13724.fSetup.fLies.length cap_13753)], fz []]) (B := [stb b_13743 55 [(.slice ao_13744 x_13724.fSetup.fStart.length cap_13745), (.slice ao_13746 x_13724.fSetup.fDrift.length cap_13747), (.slice ao_13748 x_13724.fSetup.fFaulty.length cap_13749), (.int .i64 x_13724.fSetup.fF), (.int .i64 x_13724.fSetup.fE), (.slice ao_13750 x_13724.fSetup.fErrs.length cap_13751), (.slice ao_13752 x_13724.fSetup.fLies.length cap_13753)]]) (fun _ hx' => ((.cons (.there .here) .nil) : Sel _ [stb b_13743 55 [(.slice ao_13744 x_13724.fSetup.fStart.length cap_13745), (.slice ao_13746 x_13724.fSetup.fDrift.length cap_13747), (.slice ao_13748 x_13724.fSetup.fFaulty.length cap_13749), (.int .i64 x_13724.fSetup.fF), (.int .i64 x_13724.fSetup.fE), (.slice ao_13750 x_13724.fSetup.fErrs.length cap_13751), (.slice ao_13752 x_13724.fSetup.fLies.length cap_13753)]] _).mem hx')
          obtain ⟨y_13830, hy_13831, h⟩ := bind_elim h
          refine Calls.mono (w_timebase_plan_history_1 (Z := _) (lp_8181 := lp_13760) (Gg_8182 := (Zp × Option Addr × Nat × List Value)) (J_8183 := (fun (g : Zp × Option Addr × Nat × List Value) (s : Nat × List (List Int)) => allA ([fz g.1, stb b_13570 30 [(.slice g.2.1 s.2.length g.2.2.1)], row (.slice g.2.1 s.2.length g.2.2.1) 22 1 g.2.2.2, stb b_13553 3 [(.int .i64 rounds_13226)], stb b_13552 24 [(.slice ao_13211 s_13210.fStart.length cap_13212), (.slice ao_13214 s_13210.fDrift.length cap_13215), (.slice ao_13217 s_13210.fFaulty.length cap_13218), (.int .i64 s_13210.fF), (.int .i64 s_13210.fE), (.slice ao_13220 s_13210.fErrs.length cap_13221), (.slice ao_13223 s_13210.fLies.length cap_13224)]] ++ [blk lp_13760 (rc_13762 (rdy (pcs [.exit 0] s.1)) (pcs [.exit 0] s.1))]))) (Phi_8184 := (fun (g : Zp × Option Addr × Nat × List Value) (s : Nat × List (List Int)) => (Zle ((Z ++ []) ++ []) ((Z ++ []) ++ g.1)) ∧ (RR 1 (p22 ((Z ++ []) ++ g.1)) g.2.2.2 s.2))) (g_8185 := ([], none, 0, [])) (A_8188 := ⟨b_13743, 0, none⟩) (ao_8191 := ao_13744) (cap_8192 := cap_13745) (ao_8194 := ao_13746) (cap_8195 := cap_13747) (ao_8197 := ao_13748) (cap_8198 := cap_13749) (ao_8200 := ao_13750) (cap_8201 := cap_13751) (ao_8203 := ao_13752) (cap_8204 := cap_13753) (Sg_8178 := (Nat × List (List Int))) (yield_8179 := (fun (x : List Int) (s : Nat × List (List Int)) => chk (s.1 = 0) (m_timebase_Run_R4 rounds_13226 x s.2))) (s0_8180 := (0, ([] : List (List Int)))) (c_8190 := x_13724) (r := y_13830) w pz ?_ ⟨(Zle.refl _), (RR.nil _ _)⟩ (hf_13754.mono (Zle.left _ _)) (hf_13755.mono (Zle.left _ _)) (hf_13756.mono (Zle.left _ _)) (hf_13757.mono (Zle.left _ _)) (hf_13758.mono (Zle.left _ _)) ((hw1.lent ((.cons .here .nil) : Sel [allA [fz [], stb b_13570 30 [(.slice none (([] : List (List Int)).length) 0)], row (.slice none (([] : List (List Int)).length) 0) 22 1 [], stb b_13553 3 [(.int .i64 rounds_13226)], stb b_13552 24 [(.slice ao_13211 s_13210.fStart.length cap_13212), (.slice ao_13214 s_13210.fDrift.length cap_13215), (.slice ao_13217 s_13210.fFaulty.length cap_13218), (.int .i64 s_13210.fF), (.int .i64 s_13210.fE), (.slice ao_13220 s_13210.fErrs.length cap_13221), (.slice ao_13223 s_13210.fLies.length cap_13224)], blk lp_13760 (rc_13762 .ready none)], dfr D_13761, stb b_13743 55 [(.slice ao_13744 x_13724.fSetup.fStart.length cap_13745), (.slice ao_13746 x_13724.fSetup.fDrift.length cap_13747), (.slice ao_13748 x_13724.fSetup.fFaulty.length cap_13749), (.int .i64 x_13724.fSetup.fF), (.int .i64 x_13724.fSetup.fE), (.slice ao_13750 x_13724.fSetup.fErrs.length cap_13751), (.slice ao_13752 x_13724.fSetup.fLies.length cap_13753)], fz []] [allA [fz [], stb b_13570 30 [(.slice none (([] : List (List Int)).length) 0)], row (.slice none (([] : List (List Int)).length) 0) 22 1 [], stb b_13553 3 [(.int .i64 rounds_13226)], stb b_13552 24 [(.slice ao_13211 s_13210.fStart.length cap_13212), (.slice ao_13214 s_13210.fDrift.length cap_13215), (.slice ao_13217 s_13210.fFaulty.length cap_13218), (.int .i64 s_13210.fF), (.int .i64 s_13210.fE), (.slice ao_13220 s_13210.fErrs.length cap_13221), (.slice ao_13223 s_13210.fLies.length cap_13224)], blk lp_13760 (rc_13762 .ready none)]] [dfr D_13761, stb b_13743 55 [(.slice ao_13744 x_13724.fSetup.fStart.length cap_13745), (.slice ao_13746 x_13724.fSetup.fDrift.length cap_13747), (.slice ao_13748 x_13724.fSetup.fFaulty.length cap_13749), (.int .i64 x_13724.fSetup.fF), (.int .i64 x_13724.fSetup.fE), (.slice ao_13750 x_13724.fSetup.fErrs.length cap_13751), (.slice ao_13752 x_13724.fSetup.fLies.length cap_13753)], fz []]) (B := [stb b_13743 55 [(.slice ao_13744 x_13724.fSetup.fStart.length cap_13745), (.slice ao_13746 x_13724.fSetup.fDrift.length cap_13747), (.slice ao_13748 x_13724.fSetup.fFaulty.length cap_13749), (.int .i64 x_13724.fSetup.fF), (.int .i64 x_13724.fSetup.fE), (.slice ao_13750 x_13724.fSetup.fErrs.length cap_13751), (.slice ao_13752 x_13724.fSetup.fLies.length cap_13753)]]) (fun _ hx' => ((.cons (.there .here) .nil) : Sel _ [stb b_13743 55 [(.slice ao_13744 x_13724.fSetup.fStart.length cap_13745), (.slice ao_13746 x_13724.fSetup.fDrift.length cap_13747), (.slice ao_13748 x_13724.fSetup.fFaulty.length cap_13749), (.int .i64 x_13724.fSetup.fF), (.int .i64 x_13724.fSetup.fE), (.slice ao_13750 x_13724.fSetup.fErrs.length cap_13751), (.slice ao_13752 x_13724.fSetup.fLies.length cap_13753)]] _).mem hx') (.head _) _).stb) hy_13831 (hw1.owns ((.cons .here .nil) : Sel [allA [fz [], stb b_13570 30 [(.slice none (([] : List (List Int)).length) 0)], row (.slice none (([] : List (List Int)).length) 0) 22 1 [], stb b_13553 3 [(.int .i64 rounds_13226)], stb b_13552 24 [(.slice ao_13211 s_13210.fStart.length cap_13212), (.slice ao_13214 s_13210.fDrift.length cap_13215), (.slice ao_13217 s_13210.fFaulty.length cap_13218), (.int .i64 s_13210.fF), (.int .i64 s_13210.fE), (.slice ao_13220 s_13210.fErrs.length cap_13221), (.slice ao_13223 s_13210.fLies.length cap_13224)], blk lp_13760 (rc_13762 .ready none)], dfr D_13761, stb b_13743 55 [(.slice ao_13744 x_13724.fSetup.fStart.length cap_13745), (.slice ao_13746 x_13724.fSetup.fDrift.length cap_13747), (.slice ao_13748 x_13724.fSetup.fFaulty.length cap_13749), (.int .i64 x_13724.fSetup.fF), (.int .i64 x_13724.fSetup.fE), (.slice ao_13750 x_13724.fSetup.fErrs.length cap_13751), (.slice ao_13752 x_13724.fSetup.fLies.length cap_13753)], fz []] [allA [fz [], stb b_13570 30 [(.slice none (([] : List (List Int)).length) 0)], row (.slice none (([] : List (List Int)).length) 0) 22 1 [], stb b_13553 3 [(.int .i64 rounds_13226)], stb b_13552 24 [(.slice ao_13211 s_13210.fStart.length cap_13212), (.slice ao_13214 s_13210.fDrift.length cap_13215), (.slice ao_13217 s_13210.fFaulty.length cap_13218), (.int .i64 s_13210.fF), (.int .i64 s_13210.fE), (.slice ao_13220 s_13210.fErrs.length cap_13221), (.slice ao_13223 s_13210.fLies.length cap_13224)], blk lp_13760 (rc_13762 .ready none)]] [dfr D_13761, stb b_13743 55 [(.slice ao_13744 x_13724.fSetup.fStart.length cap_13745), (.slice ao_13746 x_13724.fSetup.fDrift.length cap_13747), (.slice ao_13748 x_13724.fSetup.fFaulty.length cap_13749), (.int .i64 x_13724.fSetup.fF), (.int .i64 x_13724.fSetup.fE), (.slice ao_13750 x_13724.fSetup.fErrs.length cap_13751), (.slice ao_13752 x_13724.fSetup.fLies.length cap_13753)], fz []]))) ?_
          · skip
            refine yieldP_of (LI := (fun (g : Zp × Option Addr × Nat × List Value) (s : Nat × List (List Int)) => [fz g.1, stb b_13570 30 [(.slice g.2.1 s.2.length g.2.2.1)], row (.slice g.2.1 s.2.length g.2.2.1) 22 1 g.2.2.2, stb b_13553 3 [(.int .i64 rounds_13226)], stb b_13552 24 [(.slice ao_13211 s_13210.fStart.length cap_13212), (.slice ao_13214 s_13210.fDrift.length cap_13215), (.slice ao_13217 s_13210.fFaulty.length cap_13218), (.int .i64 s_13210.fF), (.int .i64 s_13210.fE), (.slice ao_13220 s_13210.fErrs.length cap_13221), (.slice ao_13223 s_13210.fLies.length cap_13224)]])) (pc := (fun (s : Nat × List (List Int)) => pcs [.exit 0] s.1)) hrc_13765 hev_13766 hsz_13767 (fun _ _ => rfl) (by decide) ?_
            rintro x_13768 ⟨ao_13769, cap_13770⟩ ⟨Zn_13821, ao_13825, cap_13826, cs_13827⟩ ⟨p_13832, c_13824⟩ b_13833 s_13834 Fb wb hq_13836 ⟨hle_13822, rel_13828⟩ hz
            replace hz := hz.left
            letI : Rnd := inR lp_13760
            obtain ⟨hp0, h_13835⟩ := chk_elim hq_13836
            replace hp0 : p_13832 = 0 := hp0; subst hp0; clear hq_13836
            replace h_13835 : m_timebase_Run_R4 rounds_13226 x_13768 c_13824 = some (b_13833, s_13834) := h_13835
            unfold m_timebase_Run_R4 at h_13835
            refine WC.restr (env' := [(3, (.pointer (some ⟨b_13553, 0, none⟩))), (18, (.bool (((!x_13561) || (decide (rounds_13226 < 0))) || (decide (rounds_13226 > 100))))), (6, (.pointer (some ⟨b_13570, 0, none⟩))), (22, (.slice ao_13769 x_13768.length cap_13770))]) (.cons rfl (.cons rfl (.cons rfl (.cons rfl .nil)))) ?_
            refine WC.eqL (L' := [row (.slice ao_13769 x_13768.length cap_13770) 3 1 (x_13768.flatMap e3), fz Zn_13821, stb b_13570 30 [(.slice ao_13825 c_13824.length cap_13826)], row (.slice ao_13825 c_13824.length cap_13826) 22 1 cs_13827, stb b_13553 3 [(.int .i64 rounds_13226)], stb b_13552 24 [(.slice ao_13211 s_13210.fStart.length cap_13212), (.slice ao_13214 s_13210.fDrift.length cap_13215), (.slice ao_13217 s_13210.fFaulty.length cap_13218), (.int .i64 s_13210.fF), (.int .i64 s_13210.fE), (.slice ao_13220 s_13210.fErrs.length cap_13221), (.slice ao_13223 s_13210.fLies.length cap_13224)], blk lp_13760 (rc_13762 .ready none)]) rfl ?_
            refine WC.region ?_
            refine WL.quiet (d := 7) rfl rfl rfl (q_assign rfl) ?_
            refine WL.nil ?_
            refine WX.begin hrc_13765 (.there (.there (.there (.there (.there (.there .here)))))) ?_
            refine WC.block ?_
            refine WC.seq ?_
            obtain ⟨c_13843, h_13835⟩ := chk_elim h_13835
            refine WC.region ?_
            refine WL.quiet (d := 23) rfl rfl rfl (q_load1 oneT_30 rfl (rd_stb (.there (.there (.there .here))) rfl)) ?_
            refine WL.quiet (d := 24) rfl rfl rfl (q_move rfl) ?_
            refine WL.freezeS (.there .here) (.there .here) hz (RR.flat (enc := e3) (fun _ => rfl) _) ?_
            intro Zn_13847 hle_13848 hf_13849
            have rel_13851 : RR 1 (p22 ((Z ++ []) ++ Zn_13847)) [(.slice ao_13769 x_13768.length cap_13770)] ([x_13768] : List (List Int)) := (RR.cons (r := [(.slice ao_13769 x_13768.length cap_13770)]) rfl (show p22 _ _ _ from ⟨_, _, rfl, hf_13849⟩) (RR.nil _ _))
            refine WL.new (dd := 25) rfl rfl rfl (e_buildSlice (cs := [(.slice ao_13769 x_13768.length cap_13770)]) elT_30 (Eos.parts (l := [.tmp 24]) (.cons rfl .nil) [0]) (fun _ => by kernel_rfl) rfl (by unfold maxLen; omega)) ?_
            intro b_13850 _
            have rel_13855 : RR 1 (p22 ((Z ++ []) ++ Zn_13847)) (cs_13827 ++ [(.slice ao_13769 x_13768.length cap_13770)]) (c_13824 ++ ([x_13768] : List (List Int))) := RR.app (rel_13828.weak (fun _ _ h => p22_mono hle_13848 h)) rel_13851
            refine WL.eff (d := 26) rfl rfl rfl (e_appendR (l1 := c_13824) (l2 := ([x_13768] : List (List Int))) (news := [(.slice ao_13769 x_13768.length cap_13770)]) (Pr := (p22 ((Z ++ []) ++ Zn_13847))) elT_30 rfl rfl (.there (.there (.there (.there .here)))) rel_13851 (news_row .here) (oc_cons rfl oc_nil) c_13843) ?_
            rintro ⟨ao_13853, cap_13854⟩ _
            refine WL.eff0 rfl rfl (e_store (vs := [(.slice ao_13853 ((c_13824 ++ ([x_13768] : List (List Int))).length) cap_13854)]) (ds := [(.slice ao_13853 ((c_13824 ++ ([x_13768] : List (List Int))).length) cap_13854)]) sizT_30 rfl rfl rfl rfl (oc_cons rfl oc_nil) (.there (.there (.there (.there .here)))) (Nat.le_of_ble_eq_true rfl) rfl) ?_
            refine WL.nil ?_
            refine WX.then ?_
            refine WC.seq ?_
            refine WC.region ?_
            refine WL.quiet (d := 27) rfl rfl rfl (q_load1 oneT_30 rfl (rd_stb .here rfl)) ?_
            refine WL.quiet (d := 28) rfl rfl rfl (q_len Try.underlying30 rfl) ?_
            refine WL.quiet (d := 29) rfl rfl rfl (q_load1 oneT_3 rfl (rd_stb (.there (.there (.there (.there (.there .here))))) rfl)) ?_
            refine WL.quiet (d := 30) rfl rfl rfl (q_gtr rfl rfl) ?_
            refine WL.nil ?_
            refine WX.then ?_
            refine WC.cond rfl (fun hb_13856 => ?_) (fun hb_13856 => ?_)
            · replace h_13835 := ite_t h_13835 hb_13856
              refine WC.exit ?_
              refine WX.blockMiss rfl ?_
              obtain ⟨rfl, rfl⟩ := rf_inj h_13835
              exact WX.rExit hrc_13765 (.there (.there (.there (.there .here)))) (fun w' hw' => ⟨(Zn_13847, ao_13853, cap_13854, (cs_13827 ++ [(.slice ao_13769 x_13768.length cap_13770)])), rfl, ⟨(hle_13822.trans hle_13848), rel_13855⟩, (hw'.selAll ((.cons (.there (.there (.there (.there .here)))) (.cons (.there .here) (.cons (.there .here) (.cons (.there (.there .here)) (.cons (.there (.there .here)) (.cons .here .nil)))))) : Sel _ [fz Zn_13847, stb b_13570 30 [(.slice ao_13853 ((c_13824 ++ ([x_13768] : List (List Int))).length) cap_13854)], row (.slice ao_13853 ((c_13824 ++ ([x_13768] : List (List Int))).length) cap_13854) 22 1 (cs_13827 ++ [(.slice ao_13769 x_13768.length cap_13770)]), stb b_13553 3 [(.int .i64 rounds_13226)], stb b_13552 24 [(.slice ao_13211 s_13210.fStart.length cap_13212), (.slice ao_13214 s_13210.fDrift.length cap_13215), (.slice ao_13217 s_13210.fFaulty.length cap_13218), (.int .i64 s_13210.fF), (.int .i64 s_13210.fE), (.slice ao_13220 s_13210.fErrs.length cap_13221), (.slice ao_13223 s_13210.fLies.length cap_13224)], blk lp_13760 (rc_13762 .done (some (.exit 0)))] _)).sub (.cons .here .nil)⟩)
            · replace h_13835 := ite_f h_13835 hb_13856
              refine WC.skip ?_
              refine WX.blockNormal ?_
              obtain ⟨rfl, rfl⟩ := rf_inj h_13835
              exact WX.rNormal hrc_13765 (.there (.there (.there (.there .here)))) (fun w' hw' => ⟨(Zn_13847, ao_13853, cap_13854, (cs_13827 ++ [(.slice ao_13769 x_13768.length cap_13770)])), rfl, ⟨(hle_13822.trans hle_13848), rel_13855⟩, (hw'.selAll ((.cons (.there (.there (.there (.there .here)))) (.cons (.there .here) (.cons (.there .here) (.cons (.there (.there .here)) (.cons (.there (.there .here)) (.cons .here .nil)))))) : Sel _ [fz Zn_13847, stb b_13570 30 [(.slice ao_13853 ((c_13824 ++ ([x_13768] : List (List Int))).length) cap_13854)], row (.slice ao_13853 ((c_13824 ++ ([x_13768] : List (List Int))).length) cap_13854) 22 1 (cs_13827 ++ [(.slice ao_13769 x_13768.length cap_13770)]), stb b_13553 3 [(.int .i64 rounds_13226)], stb b_13552 24 [(.slice ao_13211 s_13210.fStart.length cap_13212), (.slice ao_13214 s_13210.fDrift.length cap_13215), (.slice ao_13217 s_13210.fFaulty.length cap_13218), (.int .i64 s_13210.fF), (.int .i64 s_13210.fE), (.slice ao_13220 s_13210.fErrs.length cap_13221), (.slice ao_13223 s_13210.fLies.length cap_13224)], blk lp_13760 (rc_13762 .ready none)] _)).sub (.cons .here .nil)⟩)
          · skip
            rintro _ w' ⟨⟨Zn_13859, ao_13860, cap_13861, cs_13862⟩, rfl, ⟨hle_13863, rel_13864⟩, hp⟩
            have hp1 := hw1.call ((.cons .here .nil) : Sel [allA [fz [], stb b_13570 30 [(.slice none (([] : List (List Int)).length) 0)], row (.slice none (([] : List (List Int)).length) 0) 22 1 [], stb b_13553 3 [(.int .i64 rounds_13226)], stb b_13552 24 [(.slice ao_13211 s_13210.fStart.length cap_13212), (.slice ao_13214 s_13210.fDrift.length cap_13215), (.slice ao_13217 s_13210.fFaulty.length cap_13218), (.int .i64 s_13210.fF), (.int .i64 s_13210.fE), (.slice ao_13220 s_13210.fErrs.length cap_13221), (.slice ao_13223 s_13210.fLies.length cap_13224)], blk lp_13760 (rc_13762 .ready none)], dfr D_13761, stb b_13743 55 [(.slice ao_13744 x_13724.fSetup.fStart.length cap_13745), (.slice ao_13746 x_13724.fSetup.fDrift.length cap_13747), (.slice ao_13748 x_13724.fSetup.fFaulty.length cap_13749), (.int .i64 x_13724.fSetup.fF), (.int .i64 x_13724.fSetup.fE), (.slice ao_13750 x_13724.fSetup.fErrs.length cap_13751), (.slice ao_13752 x_13724.fSetup.fLies.length cap_13753)], fz []] [allA [fz [], stb b_13570 30 [(.slice none (([] : List (List Int)).length) 0)], row (.slice none (([] : List (List Int)).length) 0) 22 1 [], stb b_13553 3 [(.int .i64 rounds_13226)], stb b_13552 24 [(.slice ao_13211 s_13210.fStart.length cap_13212), (.slice ao_13214 s_13210.fDrift.length cap_13215), (.slice ao_13217 s_13210.fFaulty.length cap_13218), (.int .i64 s_13210.fF), (.int .i64 s_13210.fE), (.slice ao_13220 s_13210.fErrs.length cap_13221), (.slice ao_13223 s_13210.fLies.length cap_13224)], blk lp_13760 (rc_13762 .ready none)]] [dfr D_13761, stb b_13743 55 [(.slice ao_13744 x_13724.fSetup.fStart.length cap_13745), (.slice ao_13746 x_13724.fSetup.fDrift.length cap_13747), (.slice ao_13748 x_13724.fSetup.fFaulty.length cap_13749), (.int .i64 x_13724.fSetup.fF), (.int .i64 x_13724.fSetup.fE), (.slice ao_13750 x_13724.fSetup.fErrs.length cap_13751), (.slice ao_13752 x_13724.fSetup.fLies.length cap_13753)], fz []]) hp
            have hp2 : Hp _ _ w' [fz Zn_13859, stb b_13570 30 [(.slice ao_13860 y_13830.2.length cap_13861)], row (.slice ao_13860 y_13830.2.length cap_13861) 22 1 cs_13862, stb b_13553 3 [(.int .i64 rounds_13226)], stb b_13552 24 [(.slice ao_13211 s_13210.fStart.length cap_13212), (.slice ao_13214 s_13210.fDrift.length cap_13215), (.slice ao_13217 s_13210.fFaulty.length cap_13218), (.int .i64 s_13210.fF), (.int .i64 s_13210.fE), (.slice ao_13220 s_13210.fErrs.length cap_13221), (.slice ao_13223 s_13210.fLies.length cap_13224)], blk lp_13760 (rc_13762 (rdy (pcs [.exit 0] y_13830.1)) (pcs [.exit 0] y_13830.1)), dfr D_13761, stb b_13743 55 [(.slice ao_13744 x_13724.fSetup.fStart.length cap_13745), (.slice ao_13746 x_13724.fSetup.fDrift.length cap_13747), (.slice ao_13748 x_13724.fSetup.fFaulty.length cap_13749), (.int .i64 x_13724.fSetup.fF), (.int .i64 x_13724.fSetup.fE), (.slice ao_13750 x_13724.fSetup.fErrs.length cap_13751), (.slice ao_13752 x_13724.fSetup.fLies.length cap_13753)], fz []] := hp1.pickAll .here
            refine ⟨_, pcs [.exit 0] y_13830.1, _, rfl, (hp2.sub ((.cons (.there (.there (.there (.there (.there .here))))) (.cons .here (.cons .here (.cons .here (.cons .here (.cons .here (.cons .here (.cons .here (.cons .here .nil))))))))) : Sel _ [blk lp_13760 (rc_13762 (rdy (pcs [.exit 0] y_13830.1)) (pcs [.exit 0] y_13830.1)), fz Zn_13859, stb b_13570 30 [(.slice ao_13860 y_13830.2.length cap_13861)], row (.slice ao_13860 y_13830.2.length cap_13861) 22 1 cs_13862, stb b_13553 3 [(.int .i64 rounds_13226)], stb b_13552 24 [(.slice ao_13211 s_13210.fStart.length cap_13212), (.slice ao_13214 s_13210.fDrift.length cap_13215), (.slice ao_13217 s_13210.fFaulty.length cap_13218), (.int .i64 s_13210.fF), (.int .i64 s_13210.fE), (.slice ao_13220 s_13210.fErrs.length cap_13221), (.slice ao_13223 s_13210.fLies.length cap_13224)], dfr D_13761, stb b_13743 55 [(.slice ao_13744 x_13724.fSetup.fStart.length cap_13745), (.slice ao_13746 x_13724.fSetup.fDrift.length cap_13747), (.slice ao_13748 x_13724.fSetup.fFaulty.length cap_13749), (.int .i64 x_13724.fSetup.fF), (.int .i64 x_13724.fSetup.fE), (.slice ao_13750 x_13724.fSetup.fErrs.length cap_13751), (.slice ao_13752 x_13724.fSetup.fLies.length cap_13753)], fz []] _)), ?_⟩
            clear hp hp1 hp2 pz hw hw1
            by_cases hc_13865 : y_13830.1 = 0
            · replace h := itp_t h hc_13865
              refine wj0 hc_13865 ?_
              letI : Rnd := aft D_13761
              refine WX.merge .here (.there (.there (.there (.there (.there (.there .here)))))) ?_
              refine WX.blockNormal ?_
              exact WX.midR (D := fun (g : Nat × List (List Int) × Zp × Option Addr × Nat × List Value) => g.1) (G := Nat × List (List Int) × Zp × Option Addr × Nat × List Value) ⟨D_13761, y_13830.2, ([] ++ Zn_13859), ao_13860, cap_13861, cs_13862⟩ ⟨h, ((Zle.left _ _).trans (hle_13863.trans (Zle.assoc _ _ _))), (rel_13864.weak (fun _ _ h => p22_mono (Zle.assoc _ _ _) h))⟩ (.cons rfl .nil) (.cons .here (.cons .here (.cons .here (.cons (.there (.there .here)) .nil))))
            · replace h := itp_f h hc_13865
              by_cases hc_13866 : y_13830.1 = 1
              · replace h := itp_t h hc_13866
                refine wjS (i := 0) hc_13866 rfl ?_
                letI : Rnd := aft D_13761
                refine WC.merge .here (.there (.there (.there (.there (.there (.there .here)))))) ?_
                refine WC.exit ?_
                refine WX.blockHit ?_
                exact WX.midR (D := fun (g : Nat × List (List Int) × Zp × Option Addr × Nat × List Value) => g.1) (G := Nat × List (List Int) × Zp × Option Addr × Nat × List Value) ⟨D_13761, y_13830.2, ([] ++ Zn_13859), ao_13860, cap_13861, cs_13862⟩ ⟨h, ((Zle.left _ _).trans (hle_13863.trans (Zle.assoc _ _ _))), (rel_13864.weak (fun _ _ h => p22_mono (Zle.assoc _ _ _) h))⟩ (.cons rfl .nil) (.cons .here (.cons .here (.cons .here (.cons (.there (.there .here)) .nil))))
              · replace h := itp_f h hc_13866
                cases h
        · rintro D_13721 c_13716 Zn_13714 ao_13717 cap_13718 cs_13719 ⟨h, hle_13715, rel_13720⟩
          replace h := (hk_13723 c_13716).symm.trans h
          letI : Rnd := aft D_13721
          refine WC.seq ?_
          refine WC.region ?_
          refine WL.quiet (d := 31) rfl rfl rfl (q_load1 oneT_30 rfl (rd_stb (.there .here) rfl)) ?_
          refine WL.quiet (d := 4) rfl rfl rfl (q_assign rfl) ?_
          refine WL.quiet (d := 5) rfl rfl rfl (q_assign rfl) ?_
          refine WL.nil ?_
          refine WX.then ?_
          refine WC.ret ?_
          obtain rfl := Option.some.inj h
          refine WX.bpRetD (.there (.there (.there .here))) Try.results16 (.tmp rfl (.tmp rfl .nil)) (fun w hw => ?_)
          exact ⟨Zn_13714, ao_13717, cap_13718, cs_13719, ret2 rfl rfl, rel_13720, hw.sub (.cons (.there .here) (.cons (.there (.there .here)) .nil))⟩
def m_slices_Max_int_int_L2 (x_14260 : List Int) (k_14469 : Int → Option Int) : Nat → Int → Int → Option Int
  | 0, _, _ => none
  | n_14496 + 1, m_14493, i_14494 => if decide (i_14494 < ((x_14260.length : Nat) : Int)) then chk ((0 : Int) ≤ i_14494 ∧ i_14494 < ((x_14260.length : Nat) : Int)) (m_slices_Max_int_int_L2 x_14260 k_14469 n_14496 (max m_14493 (nth x_14260 i_14494)) (i64 (i_14494 + 1))) else k_14469 m_14493
theorem m_slices_Max_int_int_L2_fuel {n : Nat} {x_14260 : List Int} {k_14469 : Int → Option Int} {m_14493 : Int} {i_14494 : Int} {r : Int} (h : m_slices_Max_int_int_L2 x_14260 k_14469 n m_14493 i_14494 = some r) : ∃ m, n = m + 1 := by
  cases n with
  | zero => cases h
  | succ m => exact ⟨m, rfl⟩

/-- slices.Max[[]int,int] -/
def m_slices_Max_int_int (x_14260 : List Int) : Option Int :=
  if decide (((x_14260.length : Nat) : Int) < 1) then none else chk ((0 : Int) ≤ 0 ∧ 0 < ((x_14260.length : Nat) : Int)) (jp1 (fun (m_14468 : Int) => some m_14468) fun k_14469 => m_slices_Max_int_int_L2 x_14260 k_14469 FUEL (nth x_14260 0) 1)

set_option maxRecDepth 20000 in
theorem w_slices_Max_int_int (Z : Zp)  (ao_14261 : Option Addr) (cap_14262 : Nat) (x_14260 : List Int) (r : Int) (w₀ : World) (hz : PZ [] w₀ Z)
    (hs_14263 : ZS Z 1 (fun r x => r = e3 x) ao_14261 cap_14262 x_14260)
    (h : m_slices_Max_int_int x_14260 = some r) :
    Calls Try.prog 42 #[(.slice ao_14261 x_14260.length cap_14262)] w₀ fun e w' => e = .returned (.int .i64 r) ∧ Hp [] w₀ w' [] := by
  unfold m_slices_Max_int_int at h
  refine Calls.ofWC (vs := [(.slice ao_14261 x_14260.length cap_14262)]) (pre := []) (env := [(0, (.slice ao_14261 x_14260.length cap_14262))]) Try.func42 rfl Try.ntmps42 rfl (Hp.nil w₀ _) rfl ?_
  refine WC.seq ?_
  refine WC.region ?_
  refine WL.quiet (d := 2) rfl rfl rfl (q_assign rfl) ?_
  refine WL.nil ?_
  refine WX.then ?_
  refine WC.seq ?_
  refine WC.seq ?_
  refine WC.region ?_
  refine WL.quiet (d := 5) rfl rfl rfl (q_move rfl) ?_
  refine WL.quiet (d := 6) rfl rfl rfl (q_len Try.underlying22 rfl) ?_
  refine WL.quiet (d := 7) rfl rfl rfl (q_lss rfl rfl) ?_
  refine WL.nil ?_
  refine WX.then ?_
  refine WC.cond rfl (fun hb_14392 => ?_) (fun hb_14392 => ?_)
  · replace h := ite_t h hb_14392
    cases h
  · replace h := ite_f h hb_14392
    refine WC.skip ?_
    refine WX.then ?_
    refine WC.seq ?_
    obtain ⟨c_14393, h⟩ := chk_elim h
    refine WC.region ?_
    refine WL.quiet (d := 9) rfl rfl rfl (q_move rfl) ?_
    refine WL.znth (dd := 10) rfl rfl (Z := Z) (Pr := (fun r x => r = e3 x)) elT_22 rfl rfl hs_14263 c_14393 ?_
    rintro A_14398 r_14399 hA_14400 hl_14401 rfl
    refine WL.quiet (d := 11) rfl rfl rfl (q_load1 oneT_3 rfl (rd_z hz.pv hA_14400 rfl)) ?_
    refine WL.quiet (d := 3) rfl rfl rfl (q_assign rfl) ?_
    refine WL.nil ?_
    refine WX.then ?_
    obtain ⟨k_14469, hk_14470, h⟩ := jp1_elim h
    refine WC.seqMid1 (fun (m_14468 : Int) => (k_14469 m_14468 = some r)) (fun (m_14468 : Int) => [(3, (.int .i64 m_14468))]) (fun (m_14468 : Int) => []) ?_ ?_
    · skip
      refine WC.seq ?_
      refine WC.region ?_
      refine WL.quiet (d := 4) rfl rfl rfl (q_assign rfl) ?_
      refine WL.nil ?_
      refine WX.then ?_
      refine WC.block ?_
      refine WC.loop3 (fun (n_14495 : Nat) (m_14493 : Int) (i_14494 : Int) => (m_slices_Max_int_int_L2 x_14260 k_14469 n_14495 m_14493 i_14494 = some r)) (fun (n_14495 : Nat) (m_14493 : Int) (i_14494 : Int) => [(0, (.slice ao_14261 x_14260.length cap_14262)), (3, (.int .i64 m_14493)), (4, (.int .i64 i_14494))]) (fun (n_14495 : Nat) (m_14493 : Int) (i_14494 : Int) => []) (fun (n_14495 : Nat) (m_14493 : Int) (i_14494 : Int) => n_14495) ⟨FUEL, (nth x_14260 0), 1⟩ h (.cons rfl (.cons rfl (.cons rfl .nil))) .nil ?_
      rintro n_14495 m_14493 i_14494 h
      obtain ⟨n_14496, rfl⟩ := m_slices_Max_int_int_L2_fuel h
      rw [m_slices_Max_int_int_L2] at h
      refine WC.seq ?_
      refine WC.seq ?_
      refine WC.region ?_
      refine WL.quiet (d := 12) rfl rfl rfl (q_move rfl) ?_
      refine WL.quiet (d := 13) rfl rfl rfl (q_move rfl) ?_
      refine WL.quiet (d := 14) rfl rfl rfl (q_len Try.underlying22 rfl) ?_
      refine WL.quiet (d := 15) rfl rfl rfl (q_lss rfl rfl) ?_
      refine WL.nil ?_
      refine WX.then ?_
      refine WC.cond rfl (fun hb_14498 => ?_) (fun hb_14498 => ?_)
      · replace h := ite_t h hb_14498
        refine WC.skip ?_
        refine WX.then ?_
        refine WC.seq ?_
        refine WC.block ?_
        obtain ⟨c_14508, h⟩ := chk_elim h
        refine WC.region ?_
        refine WL.quiet (d := 18) rfl rfl rfl (q_move rfl) ?_
        refine WL.quiet (d := 19) rfl rfl rfl (q_move rfl) ?_
        refine WL.quiet (d := 20) rfl rfl rfl (q_move rfl) ?_
        refine WL.znth (dd := 21) rfl rfl (Z := Z) (Pr := (fun r x => r = e3 x)) elT_22 rfl rfl hs_14263 c_14508 ?_
        rintro A_14513 r_14514 hA_14515 hl_14516 rfl
        refine WL.quiet (d := 22) rfl rfl rfl (q_load1 oneT_3 rfl (rd_z hz.pv hA_14515 rfl)) ?_
        refine WL.quiet (d := 23) rfl rfl rfl (q_max rfl rfl rfl) ?_
        refine WL.quiet (d := 3) rfl rfl rfl (q_assign rfl) ?_
        refine WL.nil ?_
        refine WX.blockNormal ?_
        refine WX.then ?_
        refine WC.region ?_
        refine WL.quiet (d := 16) rfl rfl rfl (q_move rfl) ?_
        refine WL.quiet (d := 17) rfl rfl rfl (q_add rfl rfl rfl) ?_
        refine WL.quiet (d := 4) rfl rfl rfl (q_assign rfl) ?_
        refine WL.nil ?_
        exact WX.round (G := Nat × Int × Int) ⟨n_14496, (max m_14493 (nth x_14260 i_14494)), (i64 (i_14494 + 1))⟩ h (Nat.lt_succ_self _) (.cons rfl (.cons rfl (.cons rfl .nil))) .nil
      · replace h := ite_f h hb_14498
        refine WC.exit ?_
        refine WX.thenExit ?_
        refine WX.thenExit ?_
        refine WX.blockHit ?_
        exact WX.mid (G := Int) m_14493 h (.cons rfl .nil) .nil
    · rintro m_14468 h
      replace h := (hk_14470 m_14468).symm.trans h
      refine WC.seq ?_
      refine WC.region ?_
      refine WL.quiet (d := 24) rfl rfl rfl (q_move rfl) ?_
      refine WL.quiet (d := 2) rfl rfl rfl (q_assign rfl) ?_
      refine WL.nil ?_
      refine WX.then ?_
      refine WC.ret ?_
      obtain rfl := Option.some.inj h
      refine WX.bpRet Try.results42 (.tmp rfl .nil) (fun w hw => ?_)
      exact ⟨ret1 rfl, hw.sub .nil⟩
def m_slices_Min_int_int_L2 (x_14519 : List Int) (k_14728 : Int → Option Int) : Nat → Int → Int → Option Int
  | 0, _, _ => none
  | n_14755 + 1, m_14752, i_14753 => if decide (i_14753 < ((x_14519.length : Nat) : Int)) then chk ((0 : Int) ≤ i_14753 ∧ i_14753 < ((x_14519.length : Nat) : Int)) (m_slices_Min_int_int_L2 x_14519 k_14728 n_14755 (min m_14752 (nth x_14519 i_14753)) (i64 (i_14753 + 1))) else k_14728 m_14752
theorem m_slices_Min_int_int_L2_fuel {n : Nat} {x_14519 : List Int} {k_14728 : Int → Option Int} {m_14752 : Int} {i_14753 : Int} {r : Int} (h : m_slices_Min_int_int_L2 x_14519 k_14728 n m_14752 i_14753 = some r) : ∃ m, n = m + 1 := by
  cases n with
  | zero => cases h
  | succ m => exact ⟨m, rfl⟩

/-- slices.Min[[]int,int] -/
def m_slices_Min_int_int (x_14519 : List Int) : Option Int :=
  if decide (((x_14519.length : Nat) : Int) < 1) then none else chk ((0 : Int) ≤ 0 ∧ 0 < ((x_14519.length : Nat) : Int)) (jp1 (fun (m_14727 : Int) => some m_14727) fun k_14728 => m_slices_Min_int_int_L2 x_14519 k_14728 FUEL (nth x_14519 0) 1)

set_option maxRecDepth 20000 in
theorem w_slices_Min_int_int (Z : Zp)  (ao_14520 : Option Addr) (cap_14521 : Nat) (x_14519 : List Int) (r : Int) (w₀ : World) (hz : PZ [] w₀ Z)
    (hs_14522 : ZS Z 1 (fun r x => r = e3 x) ao_14520 cap_14521 x_14519)
    (h : m_slices_Min_int_int x_14519 = some r) :
    Calls Try.prog 43 #[(.slice ao_14520 x_14519.length cap_14521)] w₀ fun e w' => e = .returned (.int .i64 r) ∧ Hp [] w₀ w' [] := by
  unfold m_slices_Min_int_int at h
  refine Calls.ofWC (vs := [(.slice ao_14520 x_14519.length cap_14521)]) (pre := []) (env := [(0, (.slice ao_14520 x_14519.length cap_14521))]) Try.func43 rfl Try.ntmps43 rfl (Hp.nil w₀ _) rfl ?_
  refine WC.seq ?_
  refine WC.region ?_
  refine WL.quiet (d := 2) rfl rfl rfl (q_assign rfl) ?_
  refine WL.nil ?_
  refine WX.then ?_
  refine WC.seq ?_
  refine WC.seq ?_
  refine WC.region ?_
  refine WL.quiet (d := 5) rfl rfl rfl (q_move rfl) ?_
  refine WL.quiet (d := 6) rfl rfl rfl (q_len Try.underlying22 rfl) ?_
  refine WL.quiet (d := 7) rfl rfl rfl (q_lss rfl rfl) ?_
  refine WL.nil ?_
  refine WX.then ?_
  refine WC.cond rfl (fun hb_14651 => ?_) (fun hb_14651 => ?_)
  · replace h := ite_t h hb_14651
    cases h
  · replace h := ite_f h hb_14651
    refine WC.skip ?_
    refine WX.then ?_
    refine WC.seq ?_
    obtain ⟨c_14652, h⟩ := chk_elim h
    refine WC.region ?_
    refine WL.quiet (d := 9) rfl rfl rfl (q_move rfl) ?_
    refine WL.znth (dd := 10) rfl rfl (Z := Z) (Pr := (fun r x => r = e3 x)) elT_22 rfl rfl hs_14522 c_14652 ?_
    rintro A_14657 r_14658 hA_14659 hl_14660 rfl
    refine WL.quiet (d := 11) rfl rfl rfl (q_load1 oneT_3 rfl (rd_z hz.pv hA_14659 rfl)) ?_
    refine WL.quiet (d := 3) rfl rfl rfl (q_assign rfl) ?_
    refine WL.nil ?_
    refine WX.then ?_
    obtain ⟨k_14728, hk_14729, h⟩ := jp1_elim h
    refine WC.seqMid1 (fun (m_14727 : Int) => (k_14728 m_14727 = some r)) (fun (m_14727 : Int) => [(3, (.int .i64 m_14727))]) (fun (m_14727 : Int) => []) ?_ ?_
    · skip
      refine WC.seq ?_
      refine WC.region ?_
      refine WL.quiet (d := 4) rfl rfl rfl (q_assign rfl) ?_
      refine WL.nil ?_
      refine WX.then ?_
      refine WC.block ?_
      refine WC.loop3 (fun (n_14754 : Nat) (m_14752 : Int) (i_14753 : Int) => (m_slices_Min_int_int_L2 x_14519 k_14728 n_14754 m_14752 i_14753 = some r)) (fun (n_14754 : Nat) (m_14752 : Int) (i_14753 : Int) => [(0, (.slice ao_14520 x_14519.length cap_14521)), (3, (.int .i64 m_14752)), (4, (.int .i64 i_14753))]) (fun (n_14754 : Nat) (m_14752 : Int) (i_14753 : Int) => []) (fun (n_14754 : Nat) (m_14752 : Int) (i_14753 : Int) => n_14754) ⟨FUEL, (nth x_14519 0), 1⟩ h (.cons rfl (.cons rfl (.cons rfl .nil))) .nil ?_
      rintro n_14754 m_14752 i_14753 h
      obtain ⟨n_14755, rfl⟩ := m_slices_Min_int_int_L2_fuel h
      rw [m_slices_Min_int_int_L2] at h
      refine WC.seq ?_
      refine WC.seq ?_
      refine WC.region ?_
      refine WL.quiet (d := 12) rfl rfl rfl (q_move rfl) ?_
      refine WL.quiet (d := 13) rfl rfl rfl (q_move rfl) ?_
      refine WL.quiet (d := 14) rfl rfl rfl (q_len Try.underlying22 rfl) ?_
      refine WL.quiet (d := 15) rfl rfl rfl (q_lss rfl rfl) ?_
      refine WL.nil ?_
      refine WX.then ?_
      refine WC.cond rfl (fun hb_14757 => ?_) (fun hb_14757 => ?_)
      · replace h := ite_t h hb_14757
        refine WC.skip ?_
        refine WX.then ?_
        refine WC.seq ?_
        refine WC.block ?_
        obtain ⟨c_14767, h⟩ := chk_elim h
        refine WC.region ?_
        refine WL.quiet (d := 18) rfl rfl rfl (q_move rfl) ?_
        refine WL.quiet (d := 19) rfl rfl rfl (q_move rfl) ?_
        refine WL.quiet (d := 20) rfl rfl rfl (q_move rfl) ?_
        refine WL.znth (dd := 21) rfl rfl (Z := Z) (Pr := (fun r x => r = e3 x)) elT_22 rfl rfl hs_14522 c_14767 ?_
        rintro A_14772 r_14773 hA_14774 hl_14775 rfl
        refine WL.quiet (d := 22) rfl rfl rfl (q_load1 oneT_3 rfl (rd_z hz.pv hA_14774 rfl)) ?_
        refine WL.quiet (d := 23) rfl rfl rfl (q_min rfl rfl rfl) ?_
        refine WL.quiet (d := 3) rfl rfl rfl (q_assign rfl) ?_
        refine WL.nil ?_
        refine WX.blockNormal ?_
        refine WX.then ?_
        refine WC.region ?_
        refine WL.quiet (d := 16) rfl rfl rfl (q_move rfl) ?_
        refine WL.quiet (d := 17) rfl rfl rfl (q_add rfl rfl rfl) ?_
        refine WL.quiet (d := 4) rfl rfl rfl (q_assign rfl) ?_
        refine WL.nil ?_
        exact WX.round (G := Nat × Int × Int) ⟨n_14755, (min m_14752 (nth x_14519 i_14753)), (i64 (i_14753 + 1))⟩ h (Nat.lt_succ_self _) (.cons rfl (.cons rfl (.cons rfl .nil))) .nil
      · replace h := ite_f h hb_14757
        refine WC.exit ?_
        refine WX.thenExit ?_
        refine WX.thenExit ?_
        refine WX.blockHit ?_
        exact WX.mid (G := Int) m_14752 h (.cons rfl .nil) .nil
    · rintro m_14727 h
      replace h := (hk_14729 m_14727).symm.trans h
      refine WC.seq ?_
      refine WC.region ?_
      refine WL.quiet (d := 24) rfl rfl rfl (q_move rfl) ?_
      refine WL.quiet (d := 2) rfl rfl rfl (q_assign rfl) ?_
      refine WL.nil ?_
      refine WX.then ?_
      refine WC.ret ?_
      obtain rfl := Option.some.inj h
      refine WX.bpRet Try.results43 (.tmp rfl .nil) (fun w hw => ?_)
      exact ⟨ret1 rfl, hw.sub .nil⟩
def m_timebase_plan_spread_L2 (l_13992 : List Int) (p_13976 : Stimebase_plan) (k_14938 : (List Int) → Option Int) : Nat → (List Int) → Int → Option Int
  | 0, _, _ => none
  | n_14997 + 1, own_14991, v_14994 => if decide (v_14994 < ((l_13992.length : Nat) : Int)) then jp1 (fun (own_15019 : List Int) => m_timebase_plan_spread_L2 l_13992 p_13976 k_14938 n_14997 own_15019 (i64 (v_14994 + 1))) fun k_15022 => chk ((0 : Int) ≤ v_14994 ∧ v_14994 < ((l_13992.length : Nat) : Int)) ((m_timebase_plan_correct p_13976 v_14994).bind fun x_15033 => if x_15033 then chk ((((own_14991 ++ ([(nth l_13992 v_14994)] : List Int)).length : Nat) : Int) * 8 ≤ 140737488355328 ∧ (((own_14991 ++ ([(nth l_13992 v_14994)] : List Int)).length : Nat) : Int) ≤ 4611686018427387904) (k_15022 (own_14991 ++ ([(nth l_13992 v_14994)] : List Int))) else k_15022 own_14991) else k_14938 own_14991
theorem m_timebase_plan_spread_L2_fuel {n : Nat} {l_13992 : List Int} {p_13976 : Stimebase_plan} {k_14938 : (List Int) → Option Int} {own_14991 : List Int} {v_14994 : Int} {r : Int} (h : m_timebase_plan_spread_L2 l_13992 p_13976 k_14938 n own_14991 v_14994 = some r) : ∃ m, n = m + 1 := by
  cases n with
  | zero => cases h
  | succ m => exact ⟨m, rfl⟩

/-- (timebase.plan).spread -/
def m_timebase_plan_spread (p_13976 : Stimebase_plan) (l_13992 : List Int) : Option Int :=
  jp1 (fun (own_14935 : List Int) => (m_slices_Max_int_int own_14935).bind fun x_15043 => (m_slices_Min_int_int own_14935).bind fun x_15045 => some (i64 (x_15043 - x_15045))) fun k_14938 => m_timebase_plan_spread_L2 l_13992 p_13976 k_14938 FUEL ([] : List Int) 0

set_option maxRecDepth 20000 in
theorem w_timebase_plan_spread (Z : Zp)  (ao_13977 : Option Addr) (cap_13978 : Nat) (ao_13980 : Option Addr) (cap_13981 : Nat) (ao_13983 : Option Addr) (cap_13984 : Nat) (ao_13986 : Option Addr) (cap_13987 : Nat) (ao_13989 : Option Addr) (cap_13990 : Nat) (ao_13993 : Option Addr) (cap_13994 : Nat) (p_13976 : Stimebase_plan) (l_13992 : List Int) (r : Int) (w₀ : World) (hz : PZ [] w₀ Z)
    (hs_13979 : ZS Z 1 (fun r x => r = e3 x) ao_13977 cap_13978 p_13976.fSetup.fStart)
    (hs_13982 : ZS Z 1 (fun r x => r = e3 x) ao_13980 cap_13981 p_13976.fSetup.fDrift)
    (hs_13985 : ZS Z 1 (fun r x => r = e3 x) ao_13983 cap_13984 p_13976.fSetup.fFaulty)
    (hs_13988 : ZS Z 1 (fun r x => r = e3 x) ao_13986 cap_13987 p_13976.fSetup.fErrs)
    (hs_13991 : ZS Z 1 (fun r x => r = e3 x) ao_13989 cap_13990 p_13976.fSetup.fLies)
    (hs_13995 : ZS Z 1 (fun r x => r = e3 x) ao_13993 cap_13994 l_13992)
    (h : m_timebase_plan_spread p_13976 l_13992 = some r) :
    Calls Try.prog 32 #[(.agg #[(.slice ao_13977 p_13976.fSetup.fStart.length cap_13978), (.slice ao_13980 p_13976.fSetup.fDrift.length cap_13981), (.slice ao_13983 p_13976.fSetup.fFaulty.length cap_13984), (.int .i64 p_13976.fSetup.fF), (.int .i64 p_13976.fSetup.fE), (.slice ao_13986 p_13976.fSetup.fErrs.length cap_13987), (.slice ao_13989 p_13976.fSetup.fLies.length cap_13990)]), (.slice ao_13993 l_13992.length cap_13994)] w₀ fun e w' => e = .returned (.int .i64 r) ∧ Hp [] w₀ w' [] := by
  unfold m_timebase_plan_spread at h
  refine Calls.ofWC (vs := [(.agg #[(.slice ao_13977 p_13976.fSetup.fStart.length cap_13978), (.slice ao_13980 p_13976.fSetup.fDrift.length cap_13981), (.slice ao_13983 p_13976.fSetup.fFaulty.length cap_13984), (.int .i64 p_13976.fSetup.fF), (.int .i64 p_13976.fSetup.fE), (.slice ao_13986 p_13976.fSetup.fErrs.length cap_13987), (.slice ao_13989 p_13976.fSetup.fLies.length cap_13990)]), (.slice ao_13993 l_13992.length cap_13994)]) (pre := []) (env := [(0, (.agg #[(.slice ao_13977 p_13976.fSetup.fStart.length cap_13978), (.slice ao_13980 p_13976.fSetup.fDrift.length cap_13981), (.slice ao_13983 p_13976.fSetup.fFaulty.length cap_13984), (.int .i64 p_13976.fSetup.fF), (.int .i64 p_13976.fSetup.fE), (.slice ao_13986 p_13976.fSetup.fErrs.length cap_13987), (.slice ao_13989 p_13976.fSetup.fLies.length cap_13990)])), (1, (.slice ao_13993 l_13992.length cap_13994))]) Try.func32 rfl Try.ntmps32 rfl (Hp.nil w₀ _) rfl ?_
  refine WC.seq ?_
  refine WC.region ?_
  refine WL.new (dd := 2) rfl rfl rfl (e_box (cs := [(.slice ao_13977 p_13976.fSetup.fStart.length cap_13978), (.slice ao_13980 p_13976.fSetup.fDrift.length cap_13981), (.slice ao_13983 p_13976.fSetup.fFaulty.length cap_13984), (.int .i64 p_13976.fSetup.fF), (.int .i64 p_13976.fSetup.fE), (.slice ao_13986 p_13976.fSetup.fErrs.length cap_13987), (.slice ao_13989 p_13976.fSetup.fLies.length cap_13990)]) rfl rfl) ?_
  intro b_14780 _
  refine WL.quiet (d := 4) rfl rfl rfl (q_assign rfl) ?_
  refine WL.nil ?_
  refine WX.then ?_
  refine WC.seq ?_
  refine WC.region ?_
  refine WL.quiet (d := 5) rfl rfl rfl (q_assign rfl) ?_
  refine WL.nil ?_
  refine WX.then ?_
  obtain ⟨k_14938, hk_14939, h⟩ := jp1_elim h
  refine WC.seqMid3 (fun (own_14935 : List Int) (ao_14936 : Option Addr) (cap_14937 : Nat) => (k_14938 own_14935 = some r)) (fun (own_14935 : List Int) (ao_14936 : Option Addr) (cap_14937 : Nat) => [(5, (.slice ao_14936 own_14935.length cap_14937))]) (fun (own_14935 : List Int) (ao_14936 : Option Addr) (cap_14937 : Nat) => [row (.slice ao_14936 own_14935.length cap_14937) 3 1 (own_14935.flatMap e3)]) ?_ ?_
  · skip
    refine WC.seq ?_
    refine WC.region ?_
    refine WL.quiet (d := 8) rfl rfl rfl (q_move rfl) ?_
    refine WL.quiet (d := 9) rfl rfl rfl (q_len Try.underlying22 rfl) ?_
    refine WL.quiet (d := 10) rfl rfl rfl (q_move rfl) ?_
    refine WL.nil ?_
    refine WX.then ?_
    refine WC.block ?_
    refine WC.nilRow 3 1 ?_
    refine WC.loop5 (fun (n_14995 : Nat) (own_14991 : List Int) (v_14994 : Int) (ao_14992 : Option Addr) (cap_14993 : Nat) => (m_timebase_plan_spread_L2 l_13992 p_13976 k_14938 n_14995 own_14991 v_14994 = some r)) (fun (n_14995 : Nat) (own_14991 : List Int) (v_14994 : Int) (ao_14992 : Option Addr) (cap_14993 : Nat) => [(2, (.pointer (some ⟨b_14780, 0, none⟩))), (5, (.slice ao_14992 own_14991.length cap_14993)), (8, (.slice ao_13993 l_13992.length cap_13994)), (9, (.int .i64 ((l_13992.length : Nat) : Int))), (10, (.int .i64 v_14994))]) (fun (n_14995 : Nat) (own_14991 : List Int) (v_14994 : Int) (ao_14992 : Option Addr) (cap_14993 : Nat) => [row (.slice ao_14992 own_14991.length cap_14993) 3 1 (own_14991.flatMap e3), stb b_14780 55 [(.slice ao_13977 p_13976.fSetup.fStart.length cap_13978), (.slice ao_13980 p_13976.fSetup.fDrift.length cap_13981), (.slice ao_13983 p_13976.fSetup.fFaulty.length cap_13984), (.int .i64 p_13976.fSetup.fF), (.int .i64 p_13976.fSetup.fE), (.slice ao_13986 p_13976.fSetup.fErrs.length cap_13987), (.slice ao_13989 p_13976.fSetup.fLies.length cap_13990)]]) (fun (n_14995 : Nat) (own_14991 : List Int) (v_14994 : Int) (ao_14992 : Option Addr) (cap_14993 : Nat) => n_14995) ⟨FUEL, ([] : List Int), 0, none, 0⟩ h (.cons rfl (.cons rfl (.cons rfl (.cons rfl (.cons rfl .nil))))) (.cons .here (.cons .here .nil)) ?_
    rintro n_14995 own_14991 v_14994 ao_14992 cap_14993 h
    obtain ⟨n_14997, rfl⟩ := m_timebase_plan_spread_L2_fuel h
    rw [m_timebase_plan_spread_L2] at h
    refine WC.seq ?_
    refine WC.region ?_
    refine WL.quiet (d := 11) rfl rfl rfl (q_lss rfl rfl) ?_
    refine WL.nil ?_
    refine WX.then ?_
    refine WC.seq ?_
    refine WC.cond rfl (fun hb_14999 => ?_) (fun hb_14999 => ?_)
    · replace h := ite_t h hb_14999
      refine WC.skip ?_
      refine WX.then ?_
      obtain ⟨k_15022, hk_15023, h⟩ := jp1_elim h
      refine WC.seqMid3 (fun (own_15019 : List Int) (ao_15020 : Option Addr) (cap_15021 : Nat) => (k_15022 own_15019 = some r)) (fun (own_15019 : List Int) (ao_15020 : Option Addr) (cap_15021 : Nat) => [(2, (.pointer (some ⟨b_14780, 0, none⟩))), (5, (.slice ao_15020 own_15019.length cap_15021)), (8, (.slice ao_13993 l_13992.length cap_13994)), (9, (.int .i64 ((l_13992.length : Nat) : Int))), (10, (.int .i64 v_14994))]) (fun (own_15019 : List Int) (ao_15020 : Option Addr) (cap_15021 : Nat) => [row (.slice ao_15020 own_15019.length cap_15021) 3 1 (own_15019.flatMap e3), stb b_14780 55 [(.slice ao_13977 p_13976.fSetup.fStart.length cap_13978), (.slice ao_13980 p_13976.fSetup.fDrift.length cap_13981), (.slice ao_13983 p_13976.fSetup.fFaulty.length cap_13984), (.int .i64 p_13976.fSetup.fF), (.int .i64 p_13976.fSetup.fE), (.slice ao_13986 p_13976.fSetup.fErrs.length cap_13987), (.slice ao_13989 p_13976.fSetup.fLies.length cap_13990)]]) ?_ ?_
      · skip
        refine WC.block ?_
        refine WC.seq ?_
        obtain ⟨c_15024, h⟩ := chk_elim h
        refine WC.region ?_
        refine WL.quiet (d := 12) rfl rfl rfl (q_move rfl) ?_
        refine WL.znth (dd := 13) rfl rfl (Z := Z) (Pr := (fun r x => r = e3 x)) elT_22 rfl rfl hs_13995 c_15024 ?_
        rintro A_15029 r_15030 hA_15031 hl_15032 rfl
        refine WL.quiet (d := 14) rfl rfl rfl (q_load1 oneT_3 rfl (rd_z hz.pv hA_15031 rfl)) ?_
        refine WL.quiet (d := 6) rfl rfl rfl (q_assign rfl) ?_
        refine WL.quiet (d := 7) rfl rfl rfl (q_assign rfl) ?_
        refine WL.nil ?_
        refine WX.then ?_
        refine WC.seq ?_
        obtain ⟨x_15033, hx_15034, h⟩ := bind_elim h
        refine WC.region ?_
        refine WL.quiet (d := 15) rfl rfl rfl (q_loadA (cs := [(.slice ao_13977 p_13976.fSetup.fStart.length cap_13978), (.slice ao_13980 p_13976.fSetup.fDrift.length cap_13981), (.slice ao_13983 p_13976.fSetup.fFaulty.length cap_13984), (.int .i64 p_13976.fSetup.fF), (.int .i64 p_13976.fSetup.fE), (.slice ao_13986 p_13976.fSetup.fErrs.length cap_13987), (.slice ao_13989 p_13976.fSetup.fLies.length cap_13990)]) aggT_55 rfl rfl (rd_all (.there .here))) ?_
        refine WL.quiet (d := 16) rfl rfl rfl (q_move rfl) ?_
        refine WL.callD (dd := 17) rfl rfl rfl (run_call (l := [.tmp 15, .tmp 16]) Try.call38 (.cons rfl (.cons rfl .nil))) (.nil : Sel [row (.slice ao_14992 own_14991.length cap_14993) 3 1 (own_14991.flatMap e3), stb b_14780 55 [(.slice ao_13977 p_13976.fSetup.fStart.length cap_13978), (.slice ao_13980 p_13976.fSetup.fDrift.length cap_13981), (.slice ao_13983 p_13976.fSetup.fFaulty.length cap_13984), (.int .i64 p_13976.fSetup.fF), (.int .i64 p_13976.fSetup.fE), (.slice ao_13986 p_13976.fSetup.fErrs.length cap_13987), (.slice ao_13989 p_13976.fSetup.fLies.length cap_13990)]] [] [row (.slice ao_14992 own_14991.length cap_14993) 3 1 (own_14991.flatMap e3), stb b_14780 55 [(.slice ao_13977 p_13976.fSetup.fStart.length cap_13978), (.slice ao_13980 p_13976.fSetup.fDrift.length cap_13981), (.slice ao_13983 p_13976.fSetup.fFaulty.length cap_13984), (.int .i64 p_13976.fSetup.fF), (.int .i64 p_13976.fSetup.fE), (.slice ao_13986 p_13976.fSetup.fErrs.length cap_13987), (.slice ao_13989 p_13976.fSetup.fLies.length cap_13990)]]) (fun w hw => by have pz := (hz.call hw (.nil : Sel [row (.slice ao_14992 own_14991.length cap_14993) 3 1 (own_14991.flatMap e3), stb b_14780 55 [(.slice ao_13977 p_13976.fSetup.fStart.length cap_13978), (.slice ao_13980 p_13976.fSetup.fDrift.length cap_13981), (.slice ao_13983 p_13976.fSetup.fFaulty.length cap_13984), (.int .i64 p_13976.fSetup.fF), (.int .i64 p_13976.fSetup.fE), (.slice ao_13986 p_13976.fSetup.fErrs.length cap_13987), (.slice ao_13989 p_13976.fSetup.fLies.length cap_13990)]] [] [row (.slice ao_14992 own_14991.length cap_14993) 3 1 (own_14991.flatMap e3), stb b_14780 55 [(.slice ao_13977 p_13976.fSetup.fStart.length cap_13978), (.slice ao_13980 p_13976.fSetup.fDrift.length cap_13981), (.slice ao_13983 p_13976.fSetup.fFaulty.length cap_13984), (.int .i64 p_13976.fSetup.fF), (.int .i64 p_13976.fSetup.fE), (.slice ao_13986 p_13976.fSetup.fErrs.length cap_13987), (.slice ao_13989 p_13976.fSetup.fLies.length cap_13990)]])); exact w_timebase_plan_correct (Z := _) (ao_1271 := ao_13977) (cap_1272 := cap_13978) (ao_1274 := ao_13980) (cap_1275 := cap_13981) (ao_1277 := ao_13983) (cap_1278 := cap_13984) (ao_1280 := ao_13986) (cap_1281 := cap_13987) (ao_1283 := ao_13989) (cap_1284 := cap_13990) (p_1270 := p_13976) (i_1286 := v_14994) (r := x_15033) w pz hs_13979 hs_13982 hs_13985 hs_13988 hs_13991 hx_15034) ?_
        refine WL.nil ?_
        refine WX.then ?_
        refine WC.cond rfl (fun hb_15035 => ?_) (fun hb_15035 => ?_)
        · replace h := ite_t h hb_15035
          obtain ⟨c_15037, h⟩ := chk_elim h
          refine WC.region ?_
          refine WL.quiet (d := 18) rfl rfl rfl (q_move rfl) ?_
          refine WL.quiet (d := 19) rfl rfl rfl (q_move rfl) ?_
          refine WL.new (dd := 20) rfl rfl rfl (e_buildSlice (cs := ([(nth l_13992 v_14994)] : List Int).flatMap e3) elT_22 (Eos.parts (l := [.tmp 19]) (.cons rfl .nil) [0]) (fun _ => by kernel_rfl) rfl (by unfold maxLen; omega)) ?_
          intro b_15040 _
          refine WL.eff (d := 21) rfl rfl rfl (e_appendF (enc := e3) (l1 := own_14991) (l2 := ([(nth l_13992 v_14994)] : List Int)) elT_22 rfl rfl (.there .here) (fun _ => rfl) rfl rfl (news_row .here) (oc_flat e3_oc _) c_15037) ?_
          rintro ⟨ao_15041, cap_15042⟩ _
          refine WL.quiet (d := 5) rfl rfl rfl (q_assign rfl) ?_
          refine WL.nil ?_
          refine WX.blockNormal ?_
          exact WX.mid (G := List Int × Option Addr × Nat) ⟨(own_14991 ++ ([(nth l_13992 v_14994)] : List Int)), ao_15041, cap_15042⟩ h (.cons rfl (.cons rfl (.cons rfl (.cons rfl (.cons rfl .nil))))) (.cons .here (.cons (.there .here) .nil))
        · replace h := ite_f h hb_15035
          refine WC.skip ?_
          refine WX.blockNormal ?_
          exact WX.mid (G := List Int × Option Addr × Nat) ⟨own_14991, ao_14992, cap_14993⟩ h (.cons rfl (.cons rfl (.cons rfl (.cons rfl (.cons rfl .nil))))) (.cons .here (.cons .here .nil))
      · rintro own_15019 ao_15020 cap_15021 h
        replace h := (hk_15023 own_15019).symm.trans h
        refine WC.region ?_
        refine WL.quiet (d := 22) rfl rfl rfl (q_add rfl rfl rfl) ?_
        refine WL.quiet (d := 10) rfl rfl rfl (q_move rfl) ?_
        refine WL.nil ?_
        exact WX.round (G := Nat × List Int × Int × Option Addr × Nat) ⟨n_14997, own_15019, (i64 (v_14994 + 1)), ao_15020, cap_15021⟩ h (Nat.lt_succ_self _) (.cons rfl (.cons rfl (.cons rfl (.cons rfl (.cons rfl .nil))))) (.cons .here (.cons .here .nil))
    · replace h := ite_f h hb_14999
      refine WC.exit ?_
      refine WX.thenExit ?_
      refine WX.thenExit ?_
      refine WX.blockHit ?_
      exact WX.mid (G := List Int × Option Addr × Nat) ⟨own_14991, ao_14992, cap_14993⟩ h (.cons rfl .nil) (.cons .here .nil)
  · rintro own_14935 ao_14936 cap_14937 h
    replace h := (hk_14939 own_14935).symm.trans h
    refine WC.seq ?_
    obtain ⟨x_15043, hx_15044, h⟩ := bind_elim h
    obtain ⟨x_15045, hx_15046, h⟩ := bind_elim h
    refine WC.region ?_
    refine WL.quiet (d := 23) rfl rfl rfl (q_move rfl) ?_
    refine WL.callD (dd := 24) rfl rfl rfl (run_call (l := [.tmp 23]) Try.call42 (.cons rfl .nil)) (.nil : Sel [row (.slice ao_14936 own_14935.length cap_14937) 3 1 (own_14935.flatMap e3)] [] [row (.slice ao_14936 own_14935.length cap_14937) 3 1 (own_14935.flatMap e3)]) (fun w hw => by have pz := (hz.call hw (.nil : Sel [row (.slice ao_14936 own_14935.length cap_14937) 3 1 (own_14935.flatMap e3)] [] [row (.slice ao_14936 own_14935.length cap_14937) 3 1 (own_14935.flatMap e3)])).lend hw (.nil : Sel [row (.slice ao_14936 own_14935.length cap_14937) 3 1 (own_14935.flatMap e3)] [] [row (.slice ao_14936 own_14935.length cap_14937) 3 1 (own_14935.flatMap e3)]) (B := [row (.slice ao_14936 own_14935.length cap_14937) 3 1 (own_14935.flatMap e3)]) (fun _ hx' => ((.cons .here .nil) : Sel _ [row (.slice ao_14936 own_14935.length cap_14937) 3 1 (own_14935.flatMap e3)] _).mem hx'); exact w_slices_Max_int_int (Z := _) (ao_14261 := ao_14936) (cap_14262 := cap_14937) (x_14260 := own_14935) (r := x_15043) w pz (ZA.row (hw.lent (.nil : Sel [row (.slice ao_14936 own_14935.length cap_14937) 3 1 (own_14935.flatMap e3)] [] [row (.slice ao_14936 own_14935.length cap_14937) 3 1 (own_14935.flatMap e3)]) (B := [row (.slice ao_14936 own_14935.length cap_14937) 3 1 (own_14935.flatMap e3)]) (fun _ hx' => ((.cons .here .nil) : Sel _ [row (.slice ao_14936 own_14935.length cap_14937) 3 1 (own_14935.flatMap e3)] _).mem hx') (.head _) _) (RR.flat (enc := e3) (fun _ => rfl) _) ⟨w, pz.1⟩) hx_15044) ?_
    refine WL.quiet (d := 25) rfl rfl rfl (q_move rfl) ?_
    refine WL.callD (dd := 26) rfl rfl rfl (run_call (l := [.tmp 25]) Try.call43 (.cons rfl .nil)) (.nil : Sel [row (.slice ao_14936 own_14935.length cap_14937) 3 1 (own_14935.flatMap e3)] [] [row (.slice ao_14936 own_14935.length cap_14937) 3 1 (own_14935.flatMap e3)]) (fun w hw => by have pz := (hz.call hw (.nil : Sel [row (.slice ao_14936 own_14935.length cap_14937) 3 1 (own_14935.flatMap e3)] [] [row (.slice ao_14936 own_14935.length cap_14937) 3 1 (own_14935.flatMap e3)])).lend hw (.nil : Sel [row (.slice ao_14936 own_14935.length cap_14937) 3 1 (own_14935.flatMap e3)] [] [row (.slice ao_14936 own_14935.length cap_14937) 3 1 (own_14935.flatMap e3)]) (B := [row (.slice ao_14936 own_14935.length cap_14937) 3 1 (own_14935.flatMap e3)]) (fun _ hx' => ((.cons .here .nil) : Sel _ [row (.slice ao_14936 own_14935.length cap_14937) 3 1 (own_14935.flatMap e3)] _).mem hx'); exact w_slices_Min_int_int (Z := _) (ao_14520 := ao_14936) (cap_14521 := cap_14937) (x_14519 := own_14935) (r := x_15045) w pz (ZA.row (hw.lent (.nil : Sel [row (.slice ao_14936 own_14935.length cap_14937) 3 1 (own_14935.flatMap e3)] [] [row (.slice ao_14936 own_14935.length cap_14937) 3 1 (own_14935.flatMap e3)]) (B := [row (.slice ao_14936 own_14935.length cap_14937) 3 1 (own_14935.flatMap e3)]) (fun _ hx' => ((.cons .here .nil) : Sel _ [row (.slice ao_14936 own_14935.length cap_14937) 3 1 (own_14935.flatMap e3)] _).mem hx') (.head _) _) (RR.flat (enc := e3) (fun _ => rfl) _) ⟨w, pz.1⟩) hx_15046) ?_
    refine WL.quiet (d := 27) rfl rfl rfl (q_sub rfl rfl rfl) ?_
    refine WL.quiet (d := 4) rfl rfl rfl (q_assign rfl) ?_
    refine WL.nil ?_
    refine WX.then ?_
    refine WC.ret ?_
    obtain rfl := Option.some.inj h
    refine WX.bpRet Try.results32 (.tmp rfl .nil) (fun w hw => ?_)
    exact ⟨ret1 rfl, hw.sub .nil⟩
/-- timebase.Skew -/
def m_timebase_Skew (s_13930 : Stimebase_Setup) (clocks_13946 : List Int) : Option (Int × Int) :=
  (m_timebase_Valid s_13930).bind fun x_15066 => (if !x_15066 then some true else (m_timebase_plan_fits (⟨s_13930⟩ : Stimebase_plan) clocks_13946).bind fun x_15068 => some (!x_15068)).bind fun b_15070 => if b_15070 then some (0, 2) else (m_timebase_plan_spread (⟨s_13930⟩ : Stimebase_plan) clocks_13946).bind fun x_15077 => some (x_15077, 0)

set_option maxRecDepth 20000 in
theorem w_timebase_Skew (Z : Zp)  (ao_13931 : Option Addr) (cap_13932 : Nat) (ao_13934 : Option Addr) (cap_13935 : Nat) (ao_13937 : Option Addr) (cap_13938 : Nat) (ao_13940 : Option Addr) (cap_13941 : Nat) (ao_13943 : Option Addr) (cap_13944 : Nat) (ao_13947 : Option Addr) (cap_13948 : Nat) (s_13930 : Stimebase_Setup) (clocks_13946 : List Int) (r : Int × Int) (w₀ : World) (hz : PZ [] w₀ Z)
    (hs_13933 : ZS Z 1 (fun r x => r = e3 x) ao_13931 cap_13932 s_13930.fStart)
    (hs_13936 : ZS Z 1 (fun r x => r = e3 x) ao_13934 cap_13935 s_13930.fDrift)
    (hs_13939 : ZS Z 1 (fun r x => r = e3 x) ao_13937 cap_13938 s_13930.fFaulty)
    (hs_13942 : ZS Z 1 (fun r x => r = e3 x) ao_13940 cap_13941 s_13930.fErrs)
    (hs_13945 : ZS Z 1 (fun r x => r = e3 x) ao_13943 cap_13944 s_13930.fLies)
    (hs_13949 : ZS Z 1 (fun r x => r = e3 x) ao_13947 cap_13948 clocks_13946)
    (h : m_timebase_Skew s_13930 clocks_13946 = some r) :
    Calls Try.prog 17 #[(.agg #[(.slice ao_13931 s_13930.fStart.length cap_13932), (.slice ao_13934 s_13930.fDrift.length cap_13935), (.slice ao_13937 s_13930.fFaulty.length cap_13938), (.int .i64 s_13930.fF), (.int .i64 s_13930.fE), (.slice ao_13940 s_13930.fErrs.length cap_13941), (.slice ao_13943 s_13930.fLies.length cap_13944)]), (.slice ao_13947 clocks_13946.length cap_13948)] w₀ fun e w' => e = .returned (.tuple #[(.int .i64 r.1), (.int .i64 r.2)]) ∧ Hp [] w₀ w' [] := by
  unfold m_timebase_Skew at h
  refine Calls.ofWC (vs := [(.agg #[(.slice ao_13931 s_13930.fStart.length cap_13932), (.slice ao_13934 s_13930.fDrift.length cap_13935), (.slice ao_13937 s_13930.fFaulty.length cap_13938), (.int .i64 s_13930.fF), (.int .i64 s_13930.fE), (.slice ao_13940 s_13930.fErrs.length cap_13941), (.slice ao_13943 s_13930.fLies.length cap_13944)]), (.slice ao_13947 clocks_13946.length cap_13948)]) (pre := []) (env := [(0, (.agg #[(.slice ao_13931 s_13930.fStart.length cap_13932), (.slice ao_13934 s_13930.fDrift.length cap_13935), (.slice ao_13937 s_13930.fFaulty.length cap_13938), (.int .i64 s_13930.fF), (.int .i64 s_13930.fE), (.slice ao_13940 s_13930.fErrs.length cap_13941), (.slice ao_13943 s_13930.fLies.length cap_13944)])), (1, (.slice ao_13947 clocks_13946.length cap_13948))]) Try.func17 rfl Try.ntmps17 rfl (Hp.nil w₀ _) rfl ?_
  refine WC.seq ?_
  refine WC.region ?_
  refine WL.new (dd := 2) rfl rfl rfl (e_box (cs := [(.slice ao_13931 s_13930.fStart.length cap_13932), (.slice ao_13934 s_13930.fDrift.length cap_13935), (.slice ao_13937 s_13930.fFaulty.length cap_13938), (.int .i64 s_13930.fF), (.int .i64 s_13930.fE), (.slice ao_13940 s_13930.fErrs.length cap_13941), (.slice ao_13943 s_13930.fLies.length cap_13944)]) rfl rfl) ?_
  intro b_15052 _
  refine WL.quiet (d := 4) rfl rfl rfl (q_assign rfl) ?_
  refine WL.quiet (d := 5) rfl rfl rfl (q_assign rfl) ?_
  refine WL.nil ?_
  refine WX.then ?_
  refine WC.seq ?_
  refine WC.region ?_
  refine WL.quiet (d := 7) rfl rfl rfl (q_loadA (cs := [(.slice ao_13931 s_13930.fStart.length cap_13932), (.slice ao_13934 s_13930.fDrift.length cap_13935), (.slice ao_13937 s_13930.fFaulty.length cap_13938), (.int .i64 s_13930.fF), (.int .i64 s_13930.fE), (.slice ao_13940 s_13930.fErrs.length cap_13941), (.slice ao_13943 s_13930.fLies.length cap_13944)]) aggT_24 rfl rfl (rd_all .here)) ?_
  refine WL.quiet (d := 8) rfl rfl rfl (q_build (v := (.agg #[(.slice ao_13931 s_13930.fStart.length cap_13932), (.slice ao_13934 s_13930.fDrift.length cap_13935), (.slice ao_13937 s_13930.fFaulty.length cap_13938), (.int .i64 s_13930.fF), (.int .i64 s_13930.fE), (.slice ao_13940 s_13930.fErrs.length cap_13941), (.slice ao_13943 s_13930.fLies.length cap_13944)])) (Eos.parts (l := [.tmp 7]) (.cons rfl .nil) [0]) (fun _ => by kernel_rfl)) ?_
  refine WL.new (dd := 6) rfl rfl rfl (e_alloc (cs := [(.slice none 0 0), (.slice none 0 0), (.slice none 0 0), (.int .i64 0), (.int .i64 0), (.slice none 0 0), (.slice none 0 0)]) zeroT_55 rfl) ?_
  intro b_15054 _
  refine WL.eff0 rfl rfl (e_store (vs := [(.slice ao_13931 s_13930.fStart.length cap_13932), (.slice ao_13934 s_13930.fDrift.length cap_13935), (.slice ao_13937 s_13930.fFaulty.length cap_13938), (.int .i64 s_13930.fF), (.int .i64 s_13930.fE), (.slice ao_13940 s_13930.fErrs.length cap_13941), (.slice ao_13943 s_13930.fLies.length cap_13944)]) (ds := [(.slice ao_13931 s_13930.fStart.length cap_13932), (.slice ao_13934 s_13930.fDrift.length cap_13935), (.slice ao_13937 s_13930.fFaulty.length cap_13938), (.int .i64 s_13930.fF), (.int .i64 s_13930.fE), (.slice ao_13940 s_13930.fErrs.length cap_13941), (.slice ao_13943 s_13930.fLies.length cap_13944)]) sizT_55 rfl rfl rfl rfl (oc_cons rfl (oc_cons rfl (oc_cons rfl (oc_cons rfl (oc_cons rfl (oc_cons rfl (oc_cons rfl oc_nil))))))) .here (Nat.le_of_ble_eq_true rfl) rfl) ?_
  refine WL.nil ?_
  refine WX.then ?_
  refine WC.seq ?_
  refine WC.seq ?_
  obtain ⟨x_15066, hx_15067, h⟩ := bind_elim h
  obtain ⟨b_15070, hb_15071, h⟩ := bind_elim h
  refine WC.region ?_
  refine WL.quiet (d := 9) rfl rfl rfl (q_loadA (cs := [(.slice ao_13931 s_13930.fStart.length cap_13932), (.slice ao_13934 s_13930.fDrift.length cap_13935), (.slice ao_13937 s_13930.fFaulty.length cap_13938), (.int .i64 s_13930.fF), (.int .i64 s_13930.fE), (.slice ao_13940 s_13930.fErrs.length cap_13941), (.slice ao_13943 s_13930.fLies.length cap_13944)]) aggT_24 rfl rfl (rd_all (.there .here))) ?_
  refine WL.callD (dd := 10) rfl rfl rfl (run_call (l := [.tmp 9]) Try.call19 (.cons rfl .nil)) (.nil : Sel [stb b_15054 55 [(.slice ao_13931 s_13930.fStart.length cap_13932), (.slice ao_13934 s_13930.fDrift.length cap_13935), (.slice ao_13937 s_13930.fFaulty.length cap_13938), (.int .i64 s_13930.fF), (.int .i64 s_13930.fE), (.slice ao_13940 s_13930.fErrs.length cap_13941), (.slice ao_13943 s_13930.fLies.length cap_13944)], stb b_15052 24 [(.slice ao_13931 s_13930.fStart.length cap_13932), (.slice ao_13934 s_13930.fDrift.length cap_13935), (.slice ao_13937 s_13930.fFaulty.length cap_13938), (.int .i64 s_13930.fF), (.int .i64 s_13930.fE), (.slice ao_13940 s_13930.fErrs.length cap_13941), (.slice ao_13943 s_13930.fLies.length cap_13944)]] [] [stb b_15054 55 [(.slice ao_13931 s_13930.fStart.length cap_13932), (.slice ao_13934 s_13930.fDrift.length cap_13935), (.slice ao_13937 s_13930.fFaulty.length cap_13938), (.int .i64 s_13930.fF), (.int .i64 s_13930.fE), (.slice ao_13940 s_13930.fErrs.length cap_13941), (.slice ao_13943 s_13930.fLies.length cap_13944)], stb b_15052 24 [(.slice ao_13931 s_13930.fStart.length cap_13932), (.slice ao_13934 s_13930.fDrift.length cap_13935), (.slice ao_13937 s_13930.fFaulty.length cap_13938), (.int .i64 s_13930.fF), (.int .i64 s_13930.fE), (.slice ao_13940 s_13930.fErrs.length cap_13941), (.slice ao_13943 s_13930.fLies.length cap_13944)]]) (fun w hw => by have pz := (hz.call hw (.nil : Sel [stb b_15054 55 [(.slice ao_13931 s_13930.fStart.length cap_13932), (.slice ao_13934 s_13930.fDrift.length cap_13935), (.slice ao_13937 s_13930.fFaulty.length cap_13938), (.int .i64 s_13930.fF), (.int .i64 s_13930.fE), (.slice ao_13940 s_13930.fErrs.length cap_13941), (.slice ao_13943 s_13930.fLies.length cap_13944)], stb b_15052 24 [(.slice ao_13931 s_13930.fStart.length cap_13932), (.slice ao_13934 s_13930.fDrift.length cap_13935), (.slice ao_13937 s_13930.fFaulty.length cap_13938), (.int .i64 s_13930.fF), (.int .i64 s_13930.fE), (.slice ao_13940 s_13930.fErrs.length cap_13941), (.slice ao_13943 s_13930.fLies.length cap_13944)]] [] [stb b_15054 55 [(.slice ao_13931 s_13930.fStart.length cap_13932), (.slice ao_13934 s_13930.fDrift.length cap_13935), (.slice ao_13937 s_13930.fFaulty.length cap_13938), (.int .i64 s_13930.fF), (.int .i64 s_13930.fE), (.slice ao_13940 s_13930.fErrs.length cap_13941), (.slice ao_13943 s_13930.fLies.length cap_13944)], stb b_15052 24 [(.slice ao_13931 s_13930.fStart.length cap_13932), (.slice ao_13934 s_13930.fDrift.length cap_13935), (.slice ao_13937 s_13930.fFaulty.length cap_13938), (.int .i64 s_13930.fF), (.int .i64 s_13930.fE), (.slice ao_13940 s_13930.fErrs.length cap_13941), (.slice ao_13943 s_13930.fLies.length cap_13944)]])); exact w_timebase_Valid (Z := _) (ao_104 := ao_13931) (cap_105 := cap_13932) (ao_107 := ao_13934) (cap_108 := cap_13935) (ao_110 := ao_13937) (cap_111 := cap_13938) (ao_113 := ao_13940) (cap_114 := cap_13941) (ao_116 := ao_13943) (cap_117 := cap_13944) (s_103 := s_13930) (r := x_15066) w pz hs_13933 hs_13936 hs_13939 hs_13942 hs_13945 hx_15067) ?_
  refine WL.quiet (d := 11) rfl rfl rfl (q_not rfl) ?_
  refine WL.quiet (d := 12) rfl rfl rfl (q_move rfl) ?_
  refine WL.cut0 True [(1, (.slice ao_13947 clocks_13946.length cap_13948)), (6, (.pointer (some ⟨b_15054, 0, none⟩))), (17, (.bool b_15070))] [stb b_15054 55 [(.slice ao_13931 s_13930.fStart.length cap_13932), (.slice ao_13934 s_13930.fDrift.length cap_13935), (.slice ao_13937 s_13930.fFaulty.length cap_13938), (.int .i64 s_13930.fF), (.int .i64 s_13930.fE), (.slice ao_13940 s_13930.fErrs.length cap_13941), (.slice ao_13943 s_13930.fLies.length cap_13944)], stb b_15052 24 [(.slice ao_13931 s_13930.fStart.length cap_13932), (.slice ao_13934 s_13930.fDrift.length cap_13935), (.slice ao_13937 s_13930.fFaulty.length cap_13938), (.int .i64 s_13930.fF), (.int .i64 s_13930.fE), (.slice ao_13940 s_13930.fErrs.length cap_13941), (.slice ao_13943 s_13930.fLies.length cap_13944)]] 5 ?_ (fun _ => ?_)
  · rcases Bool.eq_false_or_eq_true (!x_15066) with hb' | hb'
    · have hg_15072 := hb'; clear hb'
      have hq_15073 := ite_t hb_15071 hg_15072
      replace hq_15073 := Option.some.inj hq_15073
      refine WL.pin (i := 12) rfl hg_15072 ?_
      refine WL.skip rfl rfl rfl ?_
      refine WL.skip rfl rfl rfl ?_
      refine WL.skip rfl rfl rfl ?_
      refine WL.skip rfl rfl rfl ?_
      refine WL.quiet (d := 17) rfl rfl rfl (q_pickT rfl rfl) ?_
      exact WL.cutEnd () trivial (.cons rfl (.cons rfl (.cons (some_bool hq_15073) .nil))) (.cons .here (.cons .here .nil))
    · have hg_15074 := hb'; clear hb'
      have hq_15075 := ite_f hb_15071 hg_15074
      obtain ⟨x_15068, hx_15069, hq_15075⟩ := bind_elim hq_15075
      replace hq_15075 := Option.some.inj hq_15075
      refine WL.pin (i := 12) rfl hg_15074 ?_
      refine WL.quiet (d := 13) rfl rfl rfl (q_loadA (cs := [(.slice ao_13931 s_13930.fStart.length cap_13932), (.slice ao_13934 s_13930.fDrift.length cap_13935), (.slice ao_13937 s_13930.fFaulty.length cap_13938), (.int .i64 s_13930.fF), (.int .i64 s_13930.fE), (.slice ao_13940 s_13930.fErrs.length cap_13941), (.slice ao_13943 s_13930.fLies.length cap_13944)]) aggT_55 rfl rfl (rd_all .here)) ?_
      refine WL.quiet (d := 14) rfl rfl rfl (q_move rfl) ?_
      refine WL.callD (dd := 15) rfl rfl rfl (run_call (l := [.tmp 13, .tmp 14]) Try.call29 (.cons rfl (.cons rfl .nil))) (.nil : Sel [stb b_15054 55 [(.slice ao_13931 s_13930.fStart.length cap_13932), (.slice ao_13934 s_13930.fDrift.length cap_13935), (.slice ao_13937 s_13930.fFaulty.length cap_13938), (.int .i64 s_13930.fF), (.int .i64 s_13930.fE), (.slice ao_13940 s_13930.fErrs.length cap_13941), (.slice ao_13943 s_13930.fLies.length cap_13944)], stb b_15052 24 [(.slice ao_13931 s_13930.fStart.length cap_13932), (.slice ao_13934 s_13930.fDrift.length cap_13935), (.slice ao_13937 s_13930.fFaulty.length cap_13938), (.int .i64 s_13930.fF), (.int .i64 s_13930.fE), (.slice ao_13940 s_13930.fErrs.length cap_13941), (.slice ao_13943 s_13930.fLies.length cap_13944)]] [] [stb b_15054 55 [(.slice ao_13931 s_13930.fStart.length cap_13932), (.slice ao_13934 s_13930.fDrift.length cap_13935), (.slice ao_13937 s_13930.fFaulty.length cap_13938), (.int .i64 s_13930.fF), (.int .i64 s_13930.fE), (.slice ao_13940 s_13930.fErrs.length cap_13941), (.slice ao_13943 s_13930.fLies.length cap_13944)], stb b_15052 24 [(.slice ao_13931 s_13930.fStart.length cap_13932), (.slice ao_13934 s_13930.fDrift.length cap_13935), (.slice ao_13937 s_13930.fFaulty.length cap_13938), (.int .i64 s_13930.fF), (.int .i64 s_13930.fE), (.slice ao_13940 s_13930.fErrs.length cap_13941), (.slice ao_13943 s_13930.fLies.length cap_13944)]]) (fun w hw => by have pz := (hz.call hw (.nil : Sel [stb b_15054 55 [(.slice ao_13931 s_13930.fStart.length cap_13932), (.slice ao_13934 s_13930.fDrift.length cap_13935), (.slice ao_13937 s_13930.fFaulty.length cap_13938), (.int .i64 s_13930.fF), (.int .i64 s_13930.fE), (.slice ao_13940 s_13930.fErrs.length cap_13941), (.slice ao_13943 s_13930.fLies.length cap_13944)], stb b_15052 24 [(.slice ao_13931 s_13930.fStart.length cap_13932), (.slice ao_13934 s_13930.fDrift.length cap_13935), (.slice ao_13937 s_13930.fFaulty.length cap_13938), (.int .i64 s_13930.fF), (.int .i64 s_13930.fE), (.slice ao_13940 s_13930.fErrs.length cap_13941), (.slice ao_13943 s_13930.fLies.length cap_13944)]] [] [stb b_15054 55 [(.slice ao_13931 s_13930.fStart.length cap_13932), (.slice ao_13934 s_13930.fDrift.length cap_13935), (.slice ao_13937 s_13930.fFaulty.length cap_13938), (.int .i64 s_13930.fF), (.int .i64 s_13930.fE), (.slice ao_13940 s_13930.fErrs.length cap_13941), (.slice ao_13943 s_13930.fLies.length cap_13944)], stb b_15052 24 [(.slice ao_13931 s_13930.fStart.length cap_13932), (.slice ao_13934 s_13930.fDrift.length cap_13935), (.slice ao_13937 s_13930.fFaulty.length cap_13938), (.int .i64 s_13930.fF), (.int .i64 s_13930.fE), (.slice ao_13940 s_13930.fErrs.length cap_13941), (.slice ao_13943 s_13930.fLies.length cap_13944)]])); exact w_timebase_plan_fits (Z := _) (ao_1110 := ao_13931) (cap_1111 := cap_13932) (ao_1113 := ao_13934) (cap_1114 := cap_13935) (ao_1116 := ao_13937) (cap_1117 := cap_13938) (ao_1119 := ao_13940) (cap_1120 := cap_13941) (ao_1122 := ao_13943) (cap_1123 := cap_13944) (ao_1126 := ao_13947) (cap_1127 := cap_13948) (p_1109 := (⟨s_13930⟩ : Stimebase_plan)) (clocks_1125 := clocks_13946) (r := x_15068) w pz hs_13933 hs_13936 hs_13939 hs_13942 hs_13945 hs_13949 hx_15069) ?_
      refine WL.quiet (d := 16) rfl rfl rfl (q_not rfl) ?_
      refine WL.quiet (d := 17) rfl rfl rfl (q_pickF rfl rfl) ?_
      exact WL.cutEnd () trivial (.cons rfl (.cons rfl (.cons (some_bool hq_15075) .nil))) (.cons .here (.cons .here .nil))
  · skip
    refine WL.nil ?_
    refine WX.then ?_
    refine WC.cond rfl (fun hb_15076 => ?_) (fun hb_15076 => ?_)
    · replace h := ite_t h hb_15076
      refine WC.seq ?_
      refine WC.region ?_
      refine WL.quiet (d := 4) rfl rfl rfl (q_assign rfl) ?_
      refine WL.quiet (d := 5) rfl rfl rfl (q_assign rfl) ?_
      refine WL.nil ?_
      refine WX.then ?_
      refine WC.ret ?_
      refine WX.thenRet ?_
      obtain rfl := Option.some.inj h
      refine WX.bpRet Try.results17 (.tmp rfl (.tmp rfl .nil)) (fun w hw => ?_)
      exact ⟨ret2 rfl rfl, hw.sub .nil⟩
    · replace h := ite_f h hb_15076
      refine WC.skip ?_
      refine WX.then ?_
      refine WC.seq ?_
      obtain ⟨x_15077, hx_15078, h⟩ := bind_elim h
      refine WC.region ?_
      refine WL.quiet (d := 18) rfl rfl rfl (q_loadA (cs := [(.slice ao_13931 s_13930.fStart.length cap_13932), (.slice ao_13934 s_13930.fDrift.length cap_13935), (.slice ao_13937 s_13930.fFaulty.length cap_13938), (.int .i64 s_13930.fF), (.int .i64 s_13930.fE), (.slice ao_13940 s_13930.fErrs.length cap_13941), (.slice ao_13943 s_13930.fLies.length cap_13944)]) aggT_55 rfl rfl (rd_all .here)) ?_
      refine WL.quiet (d := 19) rfl rfl rfl (q_move rfl) ?_
      refine WL.callD (dd := 20) rfl rfl rfl (run_call (l := [.tmp 18, .tmp 19]) Try.call32 (.cons rfl (.cons rfl .nil))) (.nil : Sel [stb b_15054 55 [(.slice ao_13931 s_13930.fStart.length cap_13932), (.slice ao_13934 s_13930.fDrift.length cap_13935), (.slice ao_13937 s_13930.fFaulty.length cap_13938), (.int .i64 s_13930.fF), (.int .i64 s_13930.fE), (.slice ao_13940 s_13930.fErrs.length cap_13941), (.slice ao_13943 s_13930.fLies.length cap_13944)], stb b_15052 24 [(.slice ao_13931 s_13930.fStart.length cap_13932), (.slice ao_13934 s_13930.fDrift.length cap_13935), (.slice ao_13937 s_13930.fFaulty.length cap_13938), (.int .i64 s_13930.fF), (.int .i64 s_13930.fE), (.slice ao_13940 s_13930.fErrs.length cap_13941), (.slice ao_13943 s_13930.fLies.length cap_13944)]] [] [stb b_15054 55 [(.slice ao_13931 s_13930.fStart.length cap_13932), (.slice ao_13934 s_13930.fDrift.length cap_13935), (.slice ao_13937 s_13930.fFaulty.length cap_13938), (.int .i64 s_13930.fF), (.int .i64 s_13930.fE), (.slice ao_13940 s_13930.fErrs.length cap_13941), (.slice ao_13943 s_13930.fLies.length cap_13944)], stb b_15052 24 [(.slice ao_13931 s_13930.fStart.length cap_13932), (.slice ao_13934 s_13930.fDrift.length cap_13935), (.slice ao_13937 s_13930.fFaulty.length cap_13938), (.int .i64 s_13930.fF), (.int .i64 s_13930.fE), (.slice ao_13940 s_13930.fErrs.length cap_13941), (.slice ao_13943 s_13930.fLies.length cap_13944)]]) (fun w hw => by have pz := (hz.call hw (.nil : Sel [stb b_15054 55 [(.slice ao_13931 s_13930.fStart.length cap_13932), (.slice ao_13934 s_13930.fDrift.length cap_13935), (.slice ao_13937 s_13930.fFaulty.length cap_13938), (.int .i64 s_13930.fF), (.int .i64 s_13930.fE), (.slice ao_13940 s_13930.fErrs.length cap_13941), (.slice ao_13943 s_13930.fLies.length cap_13944)], stb b_15052 24 [(.slice ao_13931 s_13930.fStart.length cap_13932), (.slice ao_13934 s_13930.fDrift.length cap_13935), (.slice ao_13937 s_13930.fFaulty.length cap_13938), (.int .i64 s_13930.fF), (.int .i64 s_13930.fE), (.slice ao_13940 s_13930.fErrs.length cap_13941), (.slice ao_13943 s_13930.fLies.length cap_13944)]] [] [stb b_15054 55 [(.slice ao_13931 s_13930.fStart.length cap_13932), (.slice ao_13934 s_13930.fDrift.length cap_13935), (.slice ao_13937 s_13930.fFaulty.length cap_13938), (.int .i64 s_13930.fF), (.int .i64 s_13930.fE), (.slice ao_13940 s_13930.fErrs.length cap_13941), (.slice ao_13943 s_13930.fLies.length cap_13944)], stb b_15052 24 [(.slice ao_13931 s_13930.fStart.length cap_13932), (.slice ao_13934 s_13930.fDrift.length cap_13935), (.slice ao_13937 s_13930.fFaulty.length cap_13938), (.int .i64 s_13930.fF), (.int .i64 s_13930.fE), (.slice ao_13940 s_13930.fErrs.length cap_13941), (.slice ao_13943 s_13930.fLies.length cap_13944)]])); exact w_timebase_plan_spread (Z := _) (ao_13977 := ao_13931) (cap_13978 := cap_13932) (ao_13980 := ao_13934) (cap_13981 := cap_13935) (ao_13983 := ao_13937) (cap_13984 := cap_13938) (ao_13986 := ao_13940) (cap_13987 := cap_13941) (ao_13989 := ao_13943) (cap_13990 := cap_13944) (ao_13993 := ao_13947) (cap_13994 := cap_13948) (p_13976 := (⟨s_13930⟩ : Stimebase_plan)) (l_13992 := clocks_13946) (r := x_15077) w pz hs_13933 hs_13936 hs_13939 hs_13942 hs_13945 hs_13949 hx_15078) ?_
      refine WL.quiet (d := 4) rfl rfl rfl (q_assign rfl) ?_
      refine WL.quiet (d := 5) rfl rfl rfl (q_assign rfl) ?_
      refine WL.nil ?_
      refine WX.then ?_
      refine WC.ret ?_
      obtain rfl := Option.some.inj h
      refine WX.bpRet Try.results17 (.tmp rfl (.tmp rfl .nil)) (fun w hw => ?_)
      exact ⟨ret2 rfl rfl, hw.sub .nil⟩
/-- timebase.Bound -/
def m_timebase_Bound (s_15081 : Stimebase_Setup) : Option (Int × Int) :=
  (m_timebase_Valid s_15081).bind fun x_15114 => if !x_15114 then some (0, 2) else (m_timebase_plan_spread (⟨s_15081⟩ : Stimebase_plan) s_15081.fDrift).bind fun x_15117 => some ((i64 ((i64 (x_15117 + (i64 (4 * s_15081.fE)))) + 1)), 0)

set_option maxRecDepth 20000 in
theorem w_timebase_Bound (Z : Zp)  (ao_15082 : Option Addr) (cap_15083 : Nat) (ao_15085 : Option Addr) (cap_15086 : Nat) (ao_15088 : Option Addr) (cap_15089 : Nat) (ao_15091 : Option Addr) (cap_15092 : Nat) (ao_15094 : Option Addr) (cap_15095 : Nat) (s_15081 : Stimebase_Setup) (r : Int × Int) (w₀ : World) (hz : PZ [] w₀ Z)
    (hs_15084 : ZS Z 1 (fun r x => r = e3 x) ao_15082 cap_15083 s_15081.fStart)
    (hs_15087 : ZS Z 1 (fun r x => r = e3 x) ao_15085 cap_15086 s_15081.fDrift)
    (hs_15090 : ZS Z 1 (fun r x => r = e3 x) ao_15088 cap_15089 s_15081.fFaulty)
    (hs_15093 : ZS Z 1 (fun r x => r = e3 x) ao_15091 cap_15092 s_15081.fErrs)
    (hs_15096 : ZS Z 1 (fun r x => r = e3 x) ao_15094 cap_15095 s_15081.fLies)
    (h : m_timebase_Bound s_15081 = some r) :
    Calls Try.prog 18 #[(.agg #[(.slice ao_15082 s_15081.fStart.length cap_15083), (.slice ao_15085 s_15081.fDrift.length cap_15086), (.slice ao_15088 s_15081.fFaulty.length cap_15089), (.int .i64 s_15081.fF), (.int .i64 s_15081.fE), (.slice ao_15091 s_15081.fErrs.length cap_15092), (.slice ao_15094 s_15081.fLies.length cap_15095)])] w₀ fun e w' => e = .returned (.tuple #[(.int .i64 r.1), (.int .i64 r.2)]) ∧ Hp [] w₀ w' [] := by
  unfold m_timebase_Bound at h
  refine Calls.ofWC (vs := [(.agg #[(.slice ao_15082 s_15081.fStart.length cap_15083), (.slice ao_15085 s_15081.fDrift.length cap_15086), (.slice ao_15088 s_15081.fFaulty.length cap_15089), (.int .i64 s_15081.fF), (.int .i64 s_15081.fE), (.slice ao_15091 s_15081.fErrs.length cap_15092), (.slice ao_15094 s_15081.fLies.length cap_15095)])]) (pre := []) (env := [(0, (.agg #[(.slice ao_15082 s_15081.fStart.length cap_15083), (.slice ao_15085 s_15081.fDrift.length cap_15086), (.slice ao_15088 s_15081.fFaulty.length cap_15089), (.int .i64 s_15081.fF), (.int .i64 s_15081.fE), (.slice ao_15091 s_15081.fErrs.length cap_15092), (.slice ao_15094 s_15081.fLies.length cap_15095)]))]) Try.func18 rfl Try.ntmps18 rfl (Hp.nil w₀ _) rfl ?_
  refine WC.seq ?_
  refine WC.region ?_
  refine WL.new (dd := 1) rfl rfl rfl (e_box (cs := [(.slice ao_15082 s_15081.fStart.length cap_15083), (.slice ao_15085 s_15081.fDrift.length cap_15086), (.slice ao_15088 s_15081.fFaulty.length cap_15089), (.int .i64 s_15081.fF), (.int .i64 s_15081.fE), (.slice ao_15091 s_15081.fErrs.length cap_15092), (.slice ao_15094 s_15081.fLies.length cap_15095)]) rfl rfl) ?_
  intro b_15110 _
  refine WL.quiet (d := 2) rfl rfl rfl (q_assign rfl) ?_
  refine WL.quiet (d := 3) rfl rfl rfl (q_assign rfl) ?_
  refine WL.nil ?_
  refine WX.then ?_
  refine WC.seq ?_
  refine WC.seq ?_
  obtain ⟨x_15114, hx_15115, h⟩ := bind_elim h
  refine WC.region ?_
  refine WL.quiet (d := 4) rfl rfl rfl (q_loadA (cs := [(.slice ao_15082 s_15081.fStart.length cap_15083), (.slice ao_15085 s_15081.fDrift.length cap_15086), (.slice ao_15088 s_15081.fFaulty.length cap_15089), (.int .i64 s_15081.fF), (.int .i64 s_15081.fE), (.slice ao_15091 s_15081.fErrs.length cap_15092), (.slice ao_15094 s_15081.fLies.length cap_15095)]) aggT_24 rfl rfl (rd_all .here)) ?_
  refine WL.callD (dd := 5) rfl rfl rfl (run_call (l := [.tmp 4]) Try.call19 (.cons rfl .nil)) (.nil : Sel [stb b_15110 24 [(.slice ao_15082 s_15081.fStart.length cap_15083), (.slice ao_15085 s_15081.fDrift.length cap_15086), (.slice ao_15088 s_15081.fFaulty.length cap_15089), (.int .i64 s_15081.fF), (.int .i64 s_15081.fE), (.slice ao_15091 s_15081.fErrs.length cap_15092), (.slice ao_15094 s_15081.fLies.length cap_15095)]] [] [stb b_15110 24 [(.slice ao_15082 s_15081.fStart.length cap_15083), (.slice ao_15085 s_15081.fDrift.length cap_15086), (.slice ao_15088 s_15081.fFaulty.length cap_15089), (.int .i64 s_15081.fF), (.int .i64 s_15081.fE), (.slice ao_15091 s_15081.fErrs.length cap_15092), (.slice ao_15094 s_15081.fLies.length cap_15095)]]) (fun w hw => by have pz := (hz.call hw (.nil : Sel [stb b_15110 24 [(.slice ao_15082 s_15081.fStart.length cap_15083), (.slice ao_15085 s_15081.fDrift.length cap_15086), (.slice ao_15088 s_15081.fFaulty.length cap_15089), (.int .i64 s_15081.fF), (.int .i64 s_15081.fE), (.slice ao_15091 s_15081.fErrs.length cap_15092), (.slice ao_15094 s_15081.fLies.length cap_15095)]] [] [stb b_15110 24 [(.slice ao_15082 s_15081.fStart.length cap_15083), (.slice ao_15085 s_15081.fDrift.length cap_15086), (.slice ao_15088 s_15081.fFaulty.length cap_15089), (.int .i64 s_15081.fF), (.int .i64 s_15081.fE), (.slice ao_15091 s_15081.fErrs.length cap_15092), (.slice ao_15094 s_15081.fLies.length cap_15095)]])); exact w_timebase_Valid (Z := _) (ao_104 := ao_15082) (cap_105 := cap_15083) (ao_107 := ao_15085) (cap_108 := cap_15086) (ao_110 := ao_15088) (cap_111 := cap_15089) (ao_113 := ao_15091) (cap_114 := cap_15092) (ao_116 := ao_15094) (cap_117 := cap_15095) (s_103 := s_15081) (r := x_15114) w pz hs_15084 hs_15087 hs_15090 hs_15093 hs_15096 hx_15115) ?_
  refine WL.quiet (d := 6) rfl rfl rfl (q_not rfl) ?_
  refine WL.nil ?_
  refine WX.then ?_
  refine WC.cond rfl (fun hb_15116 => ?_) (fun hb_15116 => ?_)
  · replace h := ite_t h hb_15116
    refine WC.seq ?_
    refine WC.region ?_
    refine WL.quiet (d := 2) rfl rfl rfl (q_assign rfl) ?_
    refine WL.quiet (d := 3) rfl rfl rfl (q_assign rfl) ?_
    refine WL.nil ?_
    refine WX.then ?_
    refine WC.ret ?_
    refine WX.thenRet ?_
    obtain rfl := Option.some.inj h
    refine WX.bpRet Try.results18 (.tmp rfl (.tmp rfl .nil)) (fun w hw => ?_)
    exact ⟨ret2 rfl rfl, hw.sub .nil⟩
  · replace h := ite_f h hb_15116
    refine WC.skip ?_
    refine WX.then ?_
    refine WC.seq ?_
    obtain ⟨x_15117, hx_15118, h⟩ := bind_elim h
    refine WC.draw (fun i => [].contains i) [] rfl ?_
    refine WD.quiet (i := 0) (d := 7) (by kernel_rfl) rfl (by kernel_rfl) (by kernel_rfl) rfl rfl rfl (q_loadA (cs := [(.slice ao_15082 s_15081.fStart.length cap_15083), (.slice ao_15085 s_15081.fDrift.length cap_15086), (.slice ao_15088 s_15081.fFaulty.length cap_15089), (.int .i64 s_15081.fF), (.int .i64 s_15081.fE), (.slice ao_15091 s_15081.fErrs.length cap_15092), (.slice ao_15094 s_15081.fLies.length cap_15095)]) aggT_24 rfl rfl (rd_all .here)) ?_
    refine WD.quiet (i := 1) (d := 8) (by kernel_rfl) rfl (by kernel_rfl) (by kernel_rfl) rfl rfl rfl (q_build (v := (.agg #[(.slice ao_15082 s_15081.fStart.length cap_15083), (.slice ao_15085 s_15081.fDrift.length cap_15086), (.slice ao_15088 s_15081.fFaulty.length cap_15089), (.int .i64 s_15081.fF), (.int .i64 s_15081.fE), (.slice ao_15091 s_15081.fErrs.length cap_15092), (.slice ao_15094 s_15081.fLies.length cap_15095)])) (Eos.parts (l := [.tmp 7]) (.cons rfl .nil) [0]) (fun _ => by kernel_rfl)) ?_
    refine WD.pure (i := 2) (d := 9) (by kernel_rfl) rfl (by kernel_rfl) (by kernel_rfl) rfl rfl rfl (fun _ => q_fieldAddr fo_24_1 rfl rfl) ?_
    refine WD.quiet (i := 3) (d := 10) (by kernel_rfl) rfl (by kernel_rfl) (by kernel_rfl) rfl rfl rfl (q_load1 oneT_22 rfl (rd_stb .here rfl)) ?_
    refine WD.enter (i := 4) (d := 11) (by kernel_rfl) rfl (by kernel_rfl) (by kernel_rfl) rfl rfl rfl (run_call (l := [.tmp 8, .tmp 10]) Try.call32 (.cons rfl (.cons rfl .nil))) (fun w hw => by have pz := (hz.call hw (.nil : Sel [stb b_15110 24 [(.slice ao_15082 s_15081.fStart.length cap_15083), (.slice ao_15085 s_15081.fDrift.length cap_15086), (.slice ao_15088 s_15081.fFaulty.length cap_15089), (.int .i64 s_15081.fF), (.int .i64 s_15081.fE), (.slice ao_15091 s_15081.fErrs.length cap_15092), (.slice ao_15094 s_15081.fLies.length cap_15095)]] [] [stb b_15110 24 [(.slice ao_15082 s_15081.fStart.length cap_15083), (.slice ao_15085 s_15081.fDrift.length cap_15086), (.slice ao_15088 s_15081.fFaulty.length cap_15089), (.int .i64 s_15081.fF), (.int .i64 s_15081.fE), (.slice ao_15091 s_15081.fErrs.length cap_15092), (.slice ao_15094 s_15081.fLies.length cap_15095)]])); exact w_timebase_plan_spread (Z := _) (ao_13977 := ao_15082) (cap_13978 := cap_15083) (ao_13980 := ao_15085) (cap_13981 := cap_15086) (ao_13983 := ao_15088) (cap_13984 := cap_15089) (ao_13986 := ao_15091) (cap_13987 := cap_15092) (ao_13989 := ao_15094) (cap_13990 := cap_15095) (ao_13993 := ao_15085) (cap_13994 := cap_15086) (p_13976 := (⟨s_15081⟩ : Stimebase_plan)) (l_13992 := s_15081.fDrift) (r := x_15117) w pz hs_15084 hs_15087 hs_15090 hs_15093 hs_15096 hs_15087 hx_15118) ?_
    refine WD.pure (i := 5) (d := 12) (by kernel_rfl) rfl (by kernel_rfl) (by kernel_rfl) rfl rfl rfl (fun _ => q_fieldAddr fo_24_4 rfl rfl) ?_
    refine WD.quiet (i := 6) (d := 13) (by kernel_rfl) rfl (by kernel_rfl) (by kernel_rfl) rfl rfl rfl (q_load1 oneT_3 rfl (rd_stb .here rfl)) ?_
    refine WD.pure (i := 7) (d := 14) (by kernel_rfl) rfl (by kernel_rfl) (by kernel_rfl) rfl rfl rfl (fun _ => q_mul rfl rfl rfl) ?_
    refine WD.pure (i := 8) (d := 15) (by kernel_rfl) rfl (by kernel_rfl) (by kernel_rfl) rfl rfl rfl (fun _ => q_add rfl rfl rfl) ?_
    refine WD.pure (i := 9) (d := 16) (by kernel_rfl) rfl (by kernel_rfl) (by kernel_rfl) rfl rfl rfl (fun _ => q_add rfl rfl rfl) ?_
    refine WD.pure (i := 10) (d := 2) (by kernel_rfl) rfl (by kernel_rfl) (by kernel_rfl) rfl rfl rfl (fun _ => q_assign rfl) ?_
    refine WD.pure (i := 11) (d := 3) (by kernel_rfl) rfl (by kernel_rfl) (by kernel_rfl) rfl rfl rfl (fun _ => q_assign rfl) ?_
    refine WD.done (by kernel_rfl) ?_
    refine WX.then ?_
    refine WC.ret ?_
    obtain rfl := Option.some.inj h
    refine WX.bpRet Try.results18 (.tmp rfl (.tmp rfl .nil)) (fun w hw => ?_)
    exact ⟨ret2 rfl rfl, hw.sub .nil⟩
def m_law33_Ints_L2 (a_15126 : List Int) (b_15130 : List Int) (k_15473 : Option Bool) : Nat → Int → Option Bool
  | 0, _ => none
  | n_15518 + 1, v_15516 => if decide (v_15516 < ((a_15126.length : Nat) : Int)) then chk ((0 : Int) ≤ v_15516 ∧ v_15516 < ((a_15126.length : Nat) : Int)) (chk ((0 : Int) ≤ v_15516 ∧ v_15516 < ((b_15130.length : Nat) : Int)) (if decide ((nth a_15126 v_15516) ≠ (nth b_15130 v_15516)) then some false else m_law33_Ints_L2 a_15126 b_15130 k_15473 n_15518 (i64 (v_15516 + 1)))) else k_15473
theorem m_law33_Ints_L2_fuel {n : Nat} {a_15126 : List Int} {b_15130 : List Int} {k_15473 : Option Bool} {v_15516 : Int} {r : Bool} (h : m_law33_Ints_L2 a_15126 b_15130 k_15473 n v_15516 = some r) : ∃ m, n = m + 1 := by
  cases n with
  | zero => cases h
  | succ m => exact ⟨m, rfl⟩

/-- nacellelaw33.Ints -/
def m_law33_Ints (a_15126 : List Int) (b_15130 : List Int) : Option Bool :=
  if decide (((a_15126.length : Nat) : Int) ≠ ((b_15130.length : Nat) : Int)) then some false else jp0 (some true) fun k_15473 => m_law33_Ints_L2 a_15126 b_15130 k_15473 FUEL 0

set_option maxRecDepth 20000 in
theorem w_law33_Ints (Z : Zp)  (ao_15127 : Option Addr) (cap_15128 : Nat) (ao_15131 : Option Addr) (cap_15132 : Nat) (a_15126 : List Int) (b_15130 : List Int) (r : Bool) (w₀ : World) (hz : PZ [] w₀ Z)
    (hs_15129 : ZS Z 1 (fun r x => r = e3 x) ao_15127 cap_15128 a_15126)
    (hs_15133 : ZS Z 1 (fun r x => r = e3 x) ao_15131 cap_15132 b_15130)
    (h : m_law33_Ints a_15126 b_15130 = some r) :
    Calls Try.prog 26 #[(.slice ao_15127 a_15126.length cap_15128), (.slice ao_15131 b_15130.length cap_15132)] w₀ fun e w' => e = .returned (.bool r) ∧ Hp [] w₀ w' [] := by
  unfold m_law33_Ints at h
  refine Calls.ofWC (vs := [(.slice ao_15127 a_15126.length cap_15128), (.slice ao_15131 b_15130.length cap_15132)]) (pre := []) (env := [(0, (.slice ao_15127 a_15126.length cap_15128)), (1, (.slice ao_15131 b_15130.length cap_15132))]) Try.func26 rfl Try.ntmps26 rfl (Hp.nil w₀ _) rfl ?_
  refine WC.seq ?_
  refine WC.region ?_
  refine WL.quiet (d := 4) rfl rfl rfl (q_assign rfl) ?_
  refine WL.nil ?_
  refine WX.then ?_
  refine WC.seq ?_
  refine WC.seq ?_
  refine WC.region ?_
  refine WL.quiet (d := 6) rfl rfl rfl (q_move rfl) ?_
  refine WL.quiet (d := 7) rfl rfl rfl (q_len Try.underlying22 rfl) ?_
  refine WL.quiet (d := 8) rfl rfl rfl (q_move rfl) ?_
  refine WL.quiet (d := 9) rfl rfl rfl (q_len Try.underlying22 rfl) ?_
  refine WL.quiet (d := 10) rfl rfl rfl (q_neq rfl rfl) ?_
  refine WL.nil ?_
  refine WX.then ?_
  refine WC.cond rfl (fun hb_15348 => ?_) (fun hb_15348 => ?_)
  · replace h := ite_t h hb_15348
    refine WC.seq ?_
    refine WC.region ?_
    refine WL.quiet (d := 4) rfl rfl rfl (q_assign rfl) ?_
    refine WL.nil ?_
    refine WX.then ?_
    refine WC.ret ?_
    refine WX.thenRet ?_
    obtain rfl := Option.some.inj h
    refine WX.bpRet Try.results26 (.tmp rfl .nil) (fun w hw => ?_)
    exact ⟨ret1 rfl, hw.sub .nil⟩
  · replace h := ite_f h hb_15348
    refine WC.skip ?_
    refine WX.then ?_
    obtain ⟨k_15473, hk_15474, h⟩ := jp0_elim h
    refine WC.seqMid0 ((k_15473 = some r)) ([]) ([]) ?_ ?_
    · skip
      refine WC.seq ?_
      refine WC.region ?_
      refine WL.quiet (d := 11) rfl rfl rfl (q_move rfl) ?_
      refine WL.quiet (d := 12) rfl rfl rfl (q_len Try.underlying22 rfl) ?_
      refine WL.quiet (d := 13) rfl rfl rfl (q_move rfl) ?_
      refine WL.nil ?_
      refine WX.then ?_
      refine WC.block ?_
      refine WC.loop2 (fun (n_15517 : Nat) (v_15516 : Int) => (m_law33_Ints_L2 a_15126 b_15130 k_15473 n_15517 v_15516 = some r)) (fun (n_15517 : Nat) (v_15516 : Int) => [(0, (.slice ao_15127 a_15126.length cap_15128)), (1, (.slice ao_15131 b_15130.length cap_15132)), (12, (.int .i64 ((a_15126.length : Nat) : Int))), (13, (.int .i64 v_15516))]) (fun (n_15517 : Nat) (v_15516 : Int) => []) (fun (n_15517 : Nat) (v_15516 : Int) => n_15517) ⟨FUEL, 0⟩ h (.cons rfl (.cons rfl (.cons rfl (.cons rfl .nil)))) .nil ?_
      rintro n_15517 v_15516 h
      obtain ⟨n_15518, rfl⟩ := m_law33_Ints_L2_fuel h
      rw [m_law33_Ints_L2] at h
      refine WC.seq ?_
      refine WC.region ?_
      refine WL.quiet (d := 14) rfl rfl rfl (q_lss rfl rfl) ?_
      refine WL.nil ?_
      refine WX.then ?_
      refine WC.seq ?_
      refine WC.cond rfl (fun hb_15520 => ?_) (fun hb_15520 => ?_)
      · replace h := ite_t h hb_15520
        refine WC.skip ?_
        refine WX.then ?_
        refine WC.seq ?_
        refine WC.block ?_
        refine WC.seq ?_
        refine WC.region ?_
        refine WL.quiet (d := 15) rfl rfl rfl (q_move rfl) ?_
        refine WL.quiet (d := 5) rfl rfl rfl (q_assign rfl) ?_
        refine WL.nil ?_
        refine WX.then ?_
        refine WC.seq ?_
        obtain ⟨c_15540, h⟩ := chk_elim h
        obtain ⟨c_15545, h⟩ := chk_elim h
        refine WC.draw (fun i => [].contains i) [] rfl ?_
        refine WD.pure (i := 0) (d := 16) (by kernel_rfl) rfl (by kernel_rfl) (by kernel_rfl) rfl rfl rfl (fun _ => q_move rfl) ?_
        refine WD.pure (i := 1) (d := 17) (by kernel_rfl) rfl (by kernel_rfl) (by kernel_rfl) rfl rfl rfl (fun _ => q_move rfl) ?_
        refine WD.znth (j := 2) (dd := 18) (by kernel_rfl) rfl (by kernel_rfl) (by kernel_rfl) rfl rfl (Z := Z) (Pr := (fun r x => r = e3 x)) elT_22 rfl rfl hs_15129 c_15540 ?_
        rintro A_15550 r_15551 hA_15552 hl_15553 rfl
        refine WD.quiet (i := 3) (d := 19) (by kernel_rfl) rfl (by kernel_rfl) (by kernel_rfl) rfl rfl rfl (q_load1 oneT_3 rfl (rd_z hz.pv hA_15552 rfl)) ?_
        refine WD.pure (i := 4) (d := 20) (by kernel_rfl) rfl (by kernel_rfl) (by kernel_rfl) rfl rfl rfl (fun _ => q_move rfl) ?_
        refine WD.pure (i := 5) (d := 21) (by kernel_rfl) rfl (by kernel_rfl) (by kernel_rfl) rfl rfl rfl (fun _ => q_move rfl) ?_
        refine WD.znth (j := 6) (dd := 22) (by kernel_rfl) rfl (by kernel_rfl) (by kernel_rfl) rfl rfl (Z := Z) (Pr := (fun r x => r = e3 x)) elT_22 rfl rfl hs_15133 c_15545 ?_
        rintro A_15554 r_15555 hA_15556 hl_15557 rfl
        refine WD.quiet (i := 7) (d := 23) (by kernel_rfl) rfl (by kernel_rfl) (by kernel_rfl) rfl rfl rfl (q_load1 oneT_3 rfl (rd_z hz.pv hA_15556 rfl)) ?_
        refine WD.pure (i := 8) (d := 24) (by kernel_rfl) rfl (by kernel_rfl) (by kernel_rfl) rfl rfl rfl (fun _ => q_neq rfl rfl) ?_
        refine WD.done (by kernel_rfl) ?_
        refine WX.then ?_
        refine WC.cond rfl (fun hb_15558 => ?_) (fun hb_15558 => ?_)
        · replace h := ite_t h hb_15558
          refine WC.seq ?_
          refine WC.region ?_
          refine WL.quiet (d := 4) rfl rfl rfl (q_assign rfl) ?_
          refine WL.nil ?_
          refine WX.then ?_
          refine WC.ret ?_
          refine WX.blockRet ?_
          refine WX.thenRet ?_
          refine WX.thenRet ?_
          refine WX.blockRet ?_
          refine WX.thenRet ?_
          obtain rfl := Option.some.inj h
          refine WX.bpRet Try.results26 (.tmp rfl .nil) (fun w hw => ?_)
          exact ⟨ret1 rfl, hw.sub .nil⟩
        · replace h := ite_f h hb_15558
          refine WC.skip ?_
          refine WX.blockNormal ?_
          refine WX.then ?_
          refine WC.region ?_
          refine WL.quiet (d := 25) rfl rfl rfl (q_add rfl rfl rfl) ?_
          refine WL.quiet (d := 13) rfl rfl rfl (q_move rfl) ?_
          refine WL.nil ?_
          exact WX.round (G := Nat × Int) ⟨n_15518, (i64 (v_15516 + 1))⟩ h (Nat.lt_succ_self _) (.cons rfl (.cons rfl (.cons rfl (.cons rfl .nil)))) .nil
      · replace h := ite_f h hb_15520
        refine WC.exit ?_
        refine WX.thenExit ?_
        refine WX.thenExit ?_
        refine WX.blockHit ?_
        exact WX.mid (G := Unit) () h .nil .nil
    · rintro  h
      replace h := hk_15474.symm.trans h
      refine WC.seq ?_
      refine WC.region ?_
      refine WL.quiet (d := 4) rfl rfl rfl (q_assign rfl) ?_
      refine WL.nil ?_
      refine WX.then ?_
      refine WC.ret ?_
      obtain rfl := Option.some.inj h
      refine WX.bpRet Try.results26 (.tmp rfl .nil) (fun w hw => ?_)
      exact ⟨ret1 rfl, hw.sub .nil⟩
end Go.Proofs.Ytbejngeaocfieaa
