/- A part of this claim's proof: models of the functions that the law reaches, with the proof that the functions compute them; plain laws about the models. No conditions beyond those in each theorem's statement. -/
import Derived.Test.YtbejngeaocfieaaW34c
namespace Go.Proofs.Ytbejngeaocfieaa
open Go Go.RowKit Sep
set_option linter.all false
set_option maxRecDepth 30000

def m_ref34_Reads_L4 (clocks_18829 : List Int) (s_18813 : Stimebase_Setup) (round_18833 : Int) (i_21127 : Int) (k_21299 : (List Int) → Option (List (List Int))) : Nat → (List Int) → Int → Option (List (List Int))
  | 0, _, _ => none
  | n_21333 + 1, row_21327, j_21330 => if decide (j_21330 < ((clocks_18829.length : Nat) : Int)) then (m_ref34_read s_18813 clocks_18829 round_18833 i_21127 j_21330).bind fun x_21345 => chk ((((row_21327 ++ ([x_21345] : List Int)).length : Nat) : Int) * 8 ≤ 140737488355328 ∧ (((row_21327 ++ ([x_21345] : List Int)).length : Nat) : Int) ≤ 4611686018427387904) (m_ref34_Reads_L4 clocks_18829 s_18813 round_18833 i_21127 k_21299 n_21333 (row_21327 ++ ([x_21345] : List Int)) (i64 (j_21330 + 1))) else k_21299 row_21327
theorem m_ref34_Reads_L4_fuel {n : Nat} {clocks_18829 : List Int} {s_18813 : Stimebase_Setup} {round_18833 : Int} {i_21127 : Int} {k_21299 : (List Int) → Option (List (List Int))} {row_21327 : List Int} {j_21330 : Int} {r : List (List Int)} (h : m_ref34_Reads_L4 clocks_18829 s_18813 round_18833 i_21127 k_21299 n row_21327 j_21330 = some r) : ∃ m, n = m + 1 := by
  cases n with
  | zero => cases h
  | succ m => exact ⟨m, rfl⟩

def m_ref34_Reads_L3 (clocks_18829 : List Int) (s_18813 : Stimebase_Setup) (round_18833 : Int) (k_20866 : (List (List Int)) → Option (List (List Int))) : Nat → (List (List Int)) → Int → Option (List (List Int))
  | 0, _, _ => none
  | n_21130 + 1, out_21122, i_21127 => if decide (i_21127 < ((clocks_18829.length : Nat) : Int)) then jp1 (fun (out_21289 : List (List Int)) => m_ref34_Reads_L3 clocks_18829 s_18813 round_18833 k_20866 n_21130 out_21289 (i64 (i_21127 + 1))) fun k_21294 => jp1 (fun (row_21296 : List Int) => chk ((((out_21122 ++ ([row_21296] : List (List Int))).length : Nat) : Int) * 24 ≤ 140737488355328 ∧ (((out_21122 ++ ([row_21296] : List (List Int))).length : Nat) : Int) ≤ 4611686018427387904) (k_21294 (out_21122 ++ ([row_21296] : List (List Int))))) fun k_21299 => m_ref34_Reads_L4 clocks_18829 s_18813 round_18833 i_21127 k_21299 FUEL ([] : List Int) 0 else k_20866 out_21122
theorem m_ref34_Reads_L3_fuel {n : Nat} {clocks_18829 : List Int} {s_18813 : Stimebase_Setup} {round_18833 : Int} {k_20866 : (List (List Int)) → Option (List (List Int))} {out_21122 : List (List Int)} {i_21127 : Int} {r : List (List Int)} (h : m_ref34_Reads_L3 clocks_18829 s_18813 round_18833 k_20866 n out_21122 i_21127 = some r) : ∃ m, n = m + 1 := by
  cases n with
  | zero => cases h
  | succ m => exact ⟨m, rfl⟩

/-- nacelleref34.Reads -/
def m_ref34_Reads (s_18813 : Stimebase_Setup) (clocks_18829 : List Int) (round_18833 : Int) : Option (List (List Int)) :=
  jp1 (fun (out_20861 : List (List Int)) => some out_20861) fun k_20866 => m_ref34_Reads_L3 clocks_18829 s_18813 round_18833 k_20866 FUEL ([] : List (List Int)) 0

set_option maxRecDepth 20000 in
theorem w_ref34_Reads (Z : Zp)  (ao_18814 : Option Addr) (cap_18815 : Nat) (ao_18817 : Option Addr) (cap_18818 : Nat) (ao_18820 : Option Addr) (cap_18821 : Nat) (ao_18823 : Option Addr) (cap_18824 : Nat) (ao_18826 : Option Addr) (cap_18827 : Nat) (ao_18830 : Option Addr) (cap_18831 : Nat) (s_18813 : Stimebase_Setup) (clocks_18829 : List Int) (round_18833 : Int) (r : List (List Int)) (w₀ : World) (hz : PZ [] w₀ Z)
    (hs_18816 : ZS Z 1 (fun r x => r = e3 x) ao_18814 cap_18815 s_18813.fStart)
    (hs_18819 : ZS Z 1 (fun r x => r = e3 x) ao_18817 cap_18818 s_18813.fDrift)
    (hs_18822 : ZS Z 1 (fun r x => r = e3 x) ao_18820 cap_18821 s_18813.fFaulty)
    (hs_18825 : ZS Z 1 (fun r x => r = e3 x) ao_18823 cap_18824 s_18813.fErrs)
    (hs_18828 : ZS Z 1 (fun r x => r = e3 x) ao_18826 cap_18827 s_18813.fLies)
    (hs_18832 : ZS Z 1 (fun r x => r = e3 x) ao_18830 cap_18831 clocks_18829)
    (h : m_ref34_Reads s_18813 clocks_18829 round_18833 = some r) :
    Calls Try.prog 21 #[(.agg #[(.slice ao_18814 s_18813.fStart.length cap_18815), (.slice ao_18817 s_18813.fDrift.length cap_18818), (.slice ao_18820 s_18813.fFaulty.length cap_18821), (.int .i64 s_18813.fF), (.int .i64 s_18813.fE), (.slice ao_18823 s_18813.fErrs.length cap_18824), (.slice ao_18826 s_18813.fLies.length cap_18827)]), (.slice ao_18830 clocks_18829.length cap_18831), (.int .i64 round_18833)] w₀ fun e w' => ∃ Zn : Zp, ∃ ao_20102 : Option Addr, ∃ cap_20103 : Nat, ∃ cs_20104 : List Value, e = .returned (.slice ao_20102 r.length cap_20103) ∧ (RR 1 (p22 (Z ++ Zn)) cs_20104 r) ∧ Hp [] w₀ w' [fz Zn, row (.slice ao_20102 r.length cap_20103) 22 1 cs_20104] := by
  unfold m_ref34_Reads at h
  refine Calls.ofWC (vs := [(.agg #[(.slice ao_18814 s_18813.fStart.length cap_18815), (.slice ao_18817 s_18813.fDrift.length cap_18818), (.slice ao_18820 s_18813.fFaulty.length cap_18821), (.int .i64 s_18813.fF), (.int .i64 s_18813.fE), (.slice ao_18823 s_18813.fErrs.length cap_18824), (.slice ao_18826 s_18813.fLies.length cap_18827)]), (.slice ao_18830 clocks_18829.length cap_18831), (.int .i64 round_18833)]) (pre := []) (env := [(0, (.agg #[(.slice ao_18814 s_18813.fStart.length cap_18815), (.slice ao_18817 s_18813.fDrift.length cap_18818), (.slice ao_18820 s_18813.fFaulty.length cap_18821), (.int .i64 s_18813.fF), (.int .i64 s_18813.fE), (.slice ao_18823 s_18813.fErrs.length cap_18824), (.slice ao_18826 s_18813.fLies.length cap_18827)])), (1, (.slice ao_18830 clocks_18829.length cap_18831)), (2, (.int .i64 round_18833))]) Try.func21 rfl Try.ntmps21 rfl (Hp.nil w₀ _) rfl ?_
  refine WC.pool ?_
  refine WC.seq ?_
  refine WC.region ?_
  refine WL.new (dd := 3) rfl rfl rfl (e_box (cs := [(.slice ao_18814 s_18813.fStart.length cap_18815), (.slice ao_18817 s_18813.fDrift.length cap_18818), (.slice ao_18820 s_18813.fFaulty.length cap_18821), (.int .i64 s_18813.fF), (.int .i64 s_18813.fE), (.slice ao_18823 s_18813.fErrs.length cap_18824), (.slice ao_18826 s_18813.fLies.length cap_18827)]) rfl rfl) ?_
  intro b_20107 _
  refine WL.quiet (d := 6) rfl rfl rfl (q_assign rfl) ?_
  refine WL.nil ?_
  refine WX.then ?_
  refine WC.seq ?_
  refine WC.region ?_
  refine WL.quiet (d := 7) rfl rfl rfl (q_assign rfl) ?_
  refine WL.nil ?_
  refine WX.then ?_
  obtain ⟨k_20866, hk_20867, h⟩ := jp1_elim h
  refine WC.seqMid5 (fun (out_20861 : List (List Int)) (Zn_20859 : Zp) (ao_20862 : Option Addr) (cap_20863 : Nat) (cs_20864 : List Value) => (k_20866 out_20861 = some r) ∧ (Zle (Z ++ []) (Z ++ Zn_20859)) ∧ (RR 1 (p22 (Z ++ Zn_20859)) cs_20864 out_20861)) (fun (out_20861 : List (List Int)) (Zn_20859 : Zp) (ao_20862 : Option Addr) (cap_20863 : Nat) (cs_20864 : List Value) => [(7, (.slice ao_20862 out_20861.length cap_20863))]) (fun (out_20861 : List (List Int)) (Zn_20859 : Zp) (ao_20862 : Option Addr) (cap_20863 : Nat) (cs_20864 : List Value) => [fz Zn_20859, row (.slice ao_20862 out_20861.length cap_20863) 22 1 cs_20864]) ?_ ?_
  · skip
    refine WC.seq ?_
    refine WC.region ?_
    refine WL.quiet (d := 8) rfl rfl rfl (q_assign rfl) ?_
    refine WL.nil ?_
    refine WX.then ?_
    refine WC.block ?_
    refine WC.nilRow 22 1 ?_
    refine WC.loop7 (fun (n_21128 : Nat) (out_21122 : List (List Int)) (i_21127 : Int) (Zn_21119 : Zp) (ao_21123 : Option Addr) (cap_21124 : Nat) (cs_21125 : List Value) => (m_ref34_Reads_L3 clocks_18829 s_18813 round_18833 k_20866 n_21128 out_21122 i_21127 = some r) ∧ (Zle (Z ++ []) (Z ++ Zn_21119)) ∧ (RR 1 (p22 (Z ++ Zn_21119)) cs_21125 out_21122)) (fun (n_21128 : Nat) (out_21122 : List (List Int)) (i_21127 : Int) (Zn_21119 : Zp) (ao_21123 : Option Addr) (cap_21124 : Nat) (cs_21125 : List Value) => [(1, (.slice ao_18830 clocks_18829.length cap_18831)), (2, (.int .i64 round_18833)), (3, (.pointer (some ⟨b_20107, 0, none⟩))), (7, (.slice ao_21123 out_21122.length cap_21124)), (8, (.int .i64 i_21127))]) (fun (n_21128 : Nat) (out_21122 : List (List Int)) (i_21127 : Int) (Zn_21119 : Zp) (ao_21123 : Option Addr) (cap_21124 : Nat) (cs_21125 : List Value) => [fz Zn_21119, row (.slice ao_21123 out_21122.length cap_21124) 22 1 cs_21125, stb b_20107 27 [(.slice ao_18814 s_18813.fStart.length cap_18815), (.slice ao_18817 s_18813.fDrift.length cap_18818), (.slice ao_18820 s_18813.fFaulty.length cap_18821), (.int .i64 s_18813.fF), (.int .i64 s_18813.fE), (.slice ao_18823 s_18813.fErrs.length cap_18824), (.slice ao_18826 s_18813.fLies.length cap_18827)]]) (fun (n_21128 : Nat) (out_21122 : List (List Int)) (i_21127 : Int) (Zn_21119 : Zp) (ao_21123 : Option Addr) (cap_21124 : Nat) (cs_21125 : List Value) => n_21128) ⟨FUEL, ([] : List (List Int)), 0, [], none, 0, []⟩ ⟨h, (Zle.refl _), (RR.nil _ _)⟩ (.cons rfl (.cons rfl (.cons rfl (.cons rfl (.cons rfl .nil))))) (.cons (.there (.there .here)) (.cons .here (.cons .here .nil))) ?_
    rintro n_21128 out_21122 i_21127 Zn_21119 ao_21123 cap_21124 cs_21125 ⟨h, hle_21120, rel_21126⟩
    obtain ⟨n_21130, rfl⟩ := m_ref34_Reads_L3_fuel h
    rw [m_ref34_Reads_L3] at h
    refine WC.seq ?_
    refine WC.seq ?_
    refine WC.region ?_
    refine WL.quiet (d := 11) rfl rfl rfl (q_move rfl) ?_
    refine WL.quiet (d := 12) rfl rfl rfl (q_move rfl) ?_
    refine WL.quiet (d := 13) rfl rfl rfl (q_len Try.underlying22 rfl) ?_
    refine WL.quiet (d := 14) rfl rfl rfl (q_lss rfl rfl) ?_
    refine WL.nil ?_
    refine WX.then ?_
    refine WC.cond rfl (fun hb_21132 => ?_) (fun hb_21132 => ?_)
    · replace h := ite_t h hb_21132
      refine WC.skip ?_
      refine WX.then ?_
      obtain ⟨k_21294, hk_21295, h⟩ := jp1_elim h
      refine WC.seqMid5 (fun (out_21289 : List (List Int)) (Zn_21287 : Zp) (ao_21290 : Option Addr) (cap_21291 : Nat) (cs_21292 : List Value) => (k_21294 out_21289 = some r) ∧ (Zle (Z ++ Zn_21119) (Z ++ Zn_21287)) ∧ (RR 1 (p22 (Z ++ Zn_21287)) cs_21292 out_21289)) (fun (out_21289 : List (List Int)) (Zn_21287 : Zp) (ao_21290 : Option Addr) (cap_21291 : Nat) (cs_21292 : List Value) => [(1, (.slice ao_18830 clocks_18829.length cap_18831)), (2, (.int .i64 round_18833)), (3, (.pointer (some ⟨b_20107, 0, none⟩))), (7, (.slice ao_21290 out_21289.length cap_21291)), (8, (.int .i64 i_21127))]) (fun (out_21289 : List (List Int)) (Zn_21287 : Zp) (ao_21290 : Option Addr) (cap_21291 : Nat) (cs_21292 : List Value) => [fz Zn_21287, row (.slice ao_21290 out_21289.length cap_21291) 22 1 cs_21292, stb b_20107 27 [(.slice ao_18814 s_18813.fStart.length cap_18815), (.slice ao_18817 s_18813.fDrift.length cap_18818), (.slice ao_18820 s_18813.fFaulty.length cap_18821), (.int .i64 s_18813.fF), (.int .i64 s_18813.fE), (.slice ao_18823 s_18813.fErrs.length cap_18824), (.slice ao_18826 s_18813.fLies.length cap_18827)]]) ?_ ?_
      · skip
        refine WC.block ?_
        refine WC.seq ?_
        refine WC.region ?_
        refine WL.quiet (d := 9) rfl rfl rfl (q_assign rfl) ?_
        refine WL.nil ?_
        refine WX.then ?_
        obtain ⟨k_21299, hk_21300, h⟩ := jp1_elim h
        refine WC.seqMid3 (fun (row_21296 : List Int) (ao_21297 : Option Addr) (cap_21298 : Nat) => (k_21299 row_21296 = some r)) (fun (row_21296 : List Int) (ao_21297 : Option Addr) (cap_21298 : Nat) => [(1, (.slice ao_18830 clocks_18829.length cap_18831)), (2, (.int .i64 round_18833)), (3, (.pointer (some ⟨b_20107, 0, none⟩))), (7, (.slice ao_21123 out_21122.length cap_21124)), (8, (.int .i64 i_21127)), (9, (.slice ao_21297 row_21296.length cap_21298))]) (fun (row_21296 : List Int) (ao_21297 : Option Addr) (cap_21298 : Nat) => [fz Zn_21119, row (.slice ao_21123 out_21122.length cap_21124) 22 1 cs_21125, row (.slice ao_21297 row_21296.length cap_21298) 3 1 (row_21296.flatMap e3), stb b_20107 27 [(.slice ao_18814 s_18813.fStart.length cap_18815), (.slice ao_18817 s_18813.fDrift.length cap_18818), (.slice ao_18820 s_18813.fFaulty.length cap_18821), (.int .i64 s_18813.fF), (.int .i64 s_18813.fE), (.slice ao_18823 s_18813.fErrs.length cap_18824), (.slice ao_18826 s_18813.fLies.length cap_18827)]]) ?_ ?_
        · skip
          refine WC.seq ?_
          refine WC.region ?_
          refine WL.quiet (d := 10) rfl rfl rfl (q_assign rfl) ?_
          refine WL.nil ?_
          refine WX.then ?_
          refine WC.block ?_
          refine WC.nilRow 3 1 ?_
          refine WC.loop5 (fun (n_21331 : Nat) (row_21327 : List Int) (j_21330 : Int) (ao_21328 : Option Addr) (cap_21329 : Nat) => (m_ref34_Reads_L4 clocks_18829 s_18813 round_18833 i_21127 k_21299 n_21331 row_21327 j_21330 = some r)) (fun (n_21331 : Nat) (row_21327 : List Int) (j_21330 : Int) (ao_21328 : Option Addr) (cap_21329 : Nat) => [(1, (.slice ao_18830 clocks_18829.length cap_18831)), (2, (.int .i64 round_18833)), (3, (.pointer (some ⟨b_20107, 0, none⟩))), (7, (.slice ao_21123 out_21122.length cap_21124)), (8, (.int .i64 i_21127)), (9, (.slice ao_21328 row_21327.length cap_21329)), (10, (.int .i64 j_21330))]) (fun (n_21331 : Nat) (row_21327 : List Int) (j_21330 : Int) (ao_21328 : Option Addr) (cap_21329 : Nat) => [fz Zn_21119, row (.slice ao_21123 out_21122.length cap_21124) 22 1 cs_21125, row (.slice ao_21328 row_21327.length cap_21329) 3 1 (row_21327.flatMap e3), stb b_20107 27 [(.slice ao_18814 s_18813.fStart.length cap_18815), (.slice ao_18817 s_18813.fDrift.length cap_18818), (.slice ao_18820 s_18813.fFaulty.length cap_18821), (.int .i64 s_18813.fF), (.int .i64 s_18813.fE), (.slice ao_18823 s_18813.fErrs.length cap_18824), (.slice ao_18826 s_18813.fLies.length cap_18827)]]) (fun (n_21331 : Nat) (row_21327 : List Int) (j_21330 : Int) (ao_21328 : Option Addr) (cap_21329 : Nat) => n_21331) ⟨FUEL, ([] : List Int), 0, none, 0⟩ h (.cons rfl (.cons rfl (.cons rfl (.cons rfl (.cons rfl (.cons rfl (.cons rfl .nil))))))) (.cons (.there .here) (.cons (.there .here) (.cons .here (.cons .here .nil)))) ?_
          rintro n_21331 row_21327 j_21330 ao_21328 cap_21329 h
          obtain ⟨n_21333, rfl⟩ := m_ref34_Reads_L4_fuel h
          rw [m_ref34_Reads_L4] at h
          refine WC.seq ?_
          refine WC.seq ?_
          refine WC.region ?_
          refine WL.quiet (d := 17) rfl rfl rfl (q_move rfl) ?_
          refine WL.quiet (d := 18) rfl rfl rfl (q_move rfl) ?_
          refine WL.quiet (d := 19) rfl rfl rfl (q_len Try.underlying22 rfl) ?_
          refine WL.quiet (d := 20) rfl rfl rfl (q_lss rfl rfl) ?_
          refine WL.nil ?_
          refine WX.then ?_
          refine WC.cond rfl (fun hb_21335 => ?_) (fun hb_21335 => ?_)
          · replace h := ite_t h hb_21335
            refine WC.skip ?_
            refine WX.then ?_
            refine WC.seq ?_
            refine WC.block ?_
            obtain ⟨x_21345, hx_21346, h⟩ := bind_elim h
            obtain ⟨c_21348, h⟩ := chk_elim h
            refine WC.region ?_
            refine WL.quiet (d := 23) rfl rfl rfl (q_move rfl) ?_
            refine WL.quiet (d := 24) rfl rfl rfl (q_loadA (cs := [(.slice ao_18814 s_18813.fStart.length cap_18815), (.slice ao_18817 s_18813.fDrift.length cap_18818), (.slice ao_18820 s_18813.fFaulty.length cap_18821), (.int .i64 s_18813.fF), (.int .i64 s_18813.fE), (.slice ao_18823 s_18813.fErrs.length cap_18824), (.slice ao_18826 s_18813.fLies.length cap_18827)]) aggT_27 rfl rfl (rd_all (.there (.there (.there .here))))) ?_
            refine WL.quiet (d := 25) rfl rfl rfl (q_move rfl) ?_
            refine WL.quiet (d := 26) rfl rfl rfl (q_move rfl) ?_
            refine WL.quiet (d := 27) rfl rfl rfl (q_move rfl) ?_
            refine WL.quiet (d := 28) rfl rfl rfl (q_move rfl) ?_
            refine WL.callD (dd := 29) rfl rfl rfl (run_call (l := [.tmp 24, .tmp 25, .tmp 26, .tmp 27, .tmp 28]) Try.call34 (.cons rfl (.cons rfl (.cons rfl (.cons rfl (.cons rfl .nil)))))) (.nil : Sel [fz Zn_21119, row (.slice ao_21123 out_21122.length cap_21124) 22 1 cs_21125, row (.slice ao_21328 row_21327.length cap_21329) 3 1 (row_21327.flatMap e3), stb b_20107 27 [(.slice ao_18814 s_18813.fStart.length cap_18815), (.slice ao_18817 s_18813.fDrift.length cap_18818), (.slice ao_18820 s_18813.fFaulty.length cap_18821), (.int .i64 s_18813.fF), (.int .i64 s_18813.fE), (.slice ao_18823 s_18813.fErrs.length cap_18824), (.slice ao_18826 s_18813.fLies.length cap_18827)]] [] [fz Zn_21119, row (.slice ao_21123 out_21122.length cap_21124) 22 1 cs_21125, row (.slice ao_21328 row_21327.length cap_21329) 3 1 (row_21327.flatMap e3), stb b_20107 27 [(.slice ao_18814 s_18813.fStart.length cap_18815), (.slice ao_18817 s_18813.fDrift.length cap_18818), (.slice ao_18820 s_18813.fFaulty.length cap_18821), (.int .i64 s_18813.fF), (.int .i64 s_18813.fE), (.slice ao_18823 s_18813.fErrs.length cap_18824), (.slice ao_18826 s_18813.fLies.length cap_18827)]]) (fun w hw => by have pz := (hz.call2 hw (.nil : Sel [fz Zn_21119, row (.slice ao_21123 out_21122.length cap_21124) 22 1 cs_21125, row (.slice ao_21328 row_21327.length cap_21329) 3 1 (row_21327.flatMap e3), stb b_20107 27 [(.slice ao_18814 s_18813.fStart.length cap_18815), (.slice ao_18817 s_18813.fDrift.length cap_18818), (.slice ao_18820 s_18813.fFaulty.length cap_18821), (.int .i64 s_18813.fF), (.int .i64 s_18813.fE), (.slice ao_18823 s_18813.fErrs.length cap_18824), (.slice ao_18826 s_18813.fLies.length cap_18827)]] [] [fz Zn_21119, row (.slice ao_21123 out_21122.length cap_21124) 22 1 cs_21125, row (.slice ao_21328 row_21327.length cap_21329) 3 1 (row_21327.flatMap e3), stb b_20107 27 [(.slice ao_18814 s_18813.fStart.length cap_18815), (.slice ao_18817 s_18813.fDrift.length cap_18818), (.slice ao_18820 s_18813.fFaulty.length cap_18821), (.int .i64 s_18813.fF), (.int .i64 s_18813.fE), (.slice ao_18823 s_18813.fErrs.length cap_18824), (.slice ao_18826 s_18813.fLies.length cap_18827)]]) .here); exact w_ref34_read (Z := _) (ao_18105 := ao_18814) (cap_18106 := cap_18815) (ao_18108 := ao_18817) (cap_18109 := cap_18818) (ao_18111 := ao_18820) (cap_18112 := cap_18821) (ao_18114 := ao_18823) (cap_18115 := cap_18824) (ao_18117 := ao_18826) (cap_18118 := cap_18827) (ao_18121 := ao_18830) (cap_18122 := cap_18831) (s_18104 := s_18813) (clocks_18120 := clocks_18829) (round_18124 := round_18833) (i_18125 := i_21127) (j_18126 := j_21330) (r := x_21345) w pz (hs_18816.mono ((Zle.left _ _).trans hle_21120)) (hs_18819.mono ((Zle.left _ _).trans hle_21120)) (hs_18822.mono ((Zle.left _ _).trans hle_21120)) (hs_18825.mono ((Zle.left _ _).trans hle_21120)) (hs_18828.mono ((Zle.left _ _).trans hle_21120)) (hs_18832.mono ((Zle.left _ _).trans hle_21120)) hx_21346) ?_
            refine WL.new (dd := 30) rfl rfl rfl (e_buildSlice (cs := ([x_21345] : List Int).flatMap e3) elT_22 (Eos.parts (l := [.tmp 29]) (.cons rfl .nil) [0]) (fun _ => by kernel_rfl) rfl (by unfold maxLen; omega)) ?_
            intro b_21351 _
            refine WL.eff (d := 31) rfl rfl rfl (e_appendF (enc := e3) (l1 := row_21327) (l2 := ([x_21345] : List Int)) elT_22 rfl rfl (.there (.there (.there .here))) (fun _ => rfl) rfl rfl (news_row .here) (oc_flat e3_oc _) c_21348) ?_
            rintro ⟨ao_21352, cap_21353⟩ _
            refine WL.quiet (d := 9) rfl rfl rfl (q_assign rfl) ?_
            refine WL.nil ?_
            refine WX.blockNormal ?_
            refine WX.then ?_
            refine WC.region ?_
            refine WL.quiet (d := 21) rfl rfl rfl (q_move rfl) ?_
            refine WL.quiet (d := 22) rfl rfl rfl (q_add rfl rfl rfl) ?_
            refine WL.quiet (d := 10) rfl rfl rfl (q_assign rfl) ?_
            refine WL.nil ?_
            exact WX.round (G := Nat × List Int × Int × Option Addr × Nat) ⟨n_21333, (row_21327 ++ ([x_21345] : List Int)), (i64 (j_21330 + 1)), ao_21352, cap_21353⟩ h (Nat.lt_succ_self _) (.cons rfl (.cons rfl (.cons rfl (.cons rfl (.cons rfl (.cons rfl (.cons rfl .nil))))))) (.cons (.there (.there .here)) (.cons (.there (.there .here)) (.cons .here (.cons (.there .here) .nil))))
          · replace h := ite_f h hb_21335
            refine WC.exit ?_
            refine WX.thenExit ?_
            refine WX.thenExit ?_
            refine WX.blockHit ?_
            exact WX.mid (G := List Int × Option Addr × Nat) ⟨row_21327, ao_21328, cap_21329⟩ h (.cons rfl (.cons rfl (.cons rfl (.cons rfl (.cons rfl (.cons rfl .nil)))))) (.cons .here (.cons .here (.cons .here (.cons .here .nil))))
        · rintro row_21296 ao_21297 cap_21298 h
          replace h := (hk_21300 row_21296).symm.trans h
          obtain ⟨c_21360, h⟩ := chk_elim h
          refine WC.region ?_
          refine WL.quiet (d := 32) rfl rfl rfl (q_move rfl) ?_
          refine WL.quiet (d := 33) rfl rfl rfl (q_move rfl) ?_
          refine WL.freezeS (.there (.there .here)) .here hz (RR.flat (enc := e3) (fun _ => rfl) _) ?_
          intro Zn_21364 hle_21365 hf_21366
          have rel_21368 : RR 1 (p22 (Z ++ Zn_21364)) [(.slice ao_21297 row_21296.length cap_21298)] ([row_21296] : List (List Int)) := (RR.cons (r := [(.slice ao_21297 row_21296.length cap_21298)]) rfl (show p22 _ _ _ from ⟨_, _, rfl, hf_21366⟩) (RR.nil _ _))
          refine WL.new (dd := 34) rfl rfl rfl (e_buildSlice (cs := [(.slice ao_21297 row_21296.length cap_21298)]) elT_30 (Eos.parts (l := [.tmp 33]) (.cons rfl .nil) [0]) (fun _ => by kernel_rfl) rfl (by unfold maxLen; omega)) ?_
          intro b_21367 _
          have rel_21372 : RR 1 (p22 (Z ++ Zn_21364)) (cs_21125 ++ [(.slice ao_21297 row_21296.length cap_21298)]) (out_21122 ++ ([row_21296] : List (List Int))) := RR.app (rel_21126.weak (fun _ _ h => p22_mono hle_21365 h)) rel_21368
          refine WL.eff (d := 35) rfl rfl rfl (e_appendR (l1 := out_21122) (l2 := ([row_21296] : List (List Int))) (news := [(.slice ao_21297 row_21296.length cap_21298)]) (Pr := (p22 (Z ++ Zn_21364))) elT_30 rfl rfl (.there (.there .here)) rel_21368 (news_row .here) (oc_cons rfl oc_nil) c_21360) ?_
          rintro ⟨ao_21370, cap_21371⟩ _
          refine WL.quiet (d := 7) rfl rfl rfl (q_assign rfl) ?_
          refine WL.nil ?_
          refine WX.blockNormal ?_
          exact WX.mid (G := List (List Int) × Zp × Option Addr × Nat × List Value) ⟨(out_21122 ++ ([row_21296] : List (List Int))), Zn_21364, ao_21370, cap_21371, (cs_21125 ++ [(.slice ao_21297 row_21296.length cap_21298)])⟩ ⟨h, hle_21365, rel_21372⟩ (.cons rfl (.cons rfl (.cons rfl (.cons rfl (.cons rfl .nil))))) (.cons (.there (.there .here)) (.cons .here (.cons (.there .here) .nil)))
      · rintro out_21289 Zn_21287 ao_21290 cap_21291 cs_21292 ⟨h, hle_21288, rel_21293⟩
        replace h := (hk_21295 out_21289).symm.trans h
        refine WC.region ?_
        refine WL.quiet (d := 15) rfl rfl rfl (q_move rfl) ?_
        refine WL.quiet (d := 16) rfl rfl rfl (q_add rfl rfl rfl) ?_
        refine WL.quiet (d := 8) rfl rfl rfl (q_assign rfl) ?_
        refine WL.nil ?_
        exact WX.round (G := Nat × List (List Int) × Int × Zp × Option Addr × Nat × List Value) ⟨n_21130, out_21289, (i64 (i_21127 + 1)), Zn_21287, ao_21290, cap_21291, cs_21292⟩ ⟨h, (hle_21120.trans hle_21288), rel_21293⟩ (Nat.lt_succ_self _) (.cons rfl (.cons rfl (.cons rfl (.cons rfl (.cons rfl .nil))))) (.cons .here (.cons .here (.cons .here .nil)))
    · replace h := ite_f h hb_21132
      refine WC.exit ?_
      refine WX.thenExit ?_
      refine WX.thenExit ?_
      refine WX.blockHit ?_
      exact WX.mid (G := List (List Int) × Zp × Option Addr × Nat × List Value) ⟨out_21122, Zn_21119, ao_21123, cap_21124, cs_21125⟩ ⟨h, hle_21120, rel_21126⟩ (.cons rfl .nil) (.cons .here (.cons .here .nil))
  · rintro out_20861 Zn_20859 ao_20862 cap_20863 cs_20864 ⟨h, hle_20860, rel_20865⟩
    replace h := (hk_20867 out_20861).symm.trans h
    refine WC.seq ?_
    refine WC.region ?_
    refine WL.quiet (d := 36) rfl rfl rfl (q_move rfl) ?_
    refine WL.quiet (d := 6) rfl rfl rfl (q_assign rfl) ?_
    refine WL.nil ?_
    refine WX.then ?_
    refine WC.ret ?_
    obtain rfl := Option.some.inj h
    refine WX.bpRet Try.results21 (.tmp rfl .nil) (fun w hw => ?_)
    exact ⟨Zn_20859, ao_20862, cap_20863, cs_20864, ret1 rfl, rel_20865, hw.sub (.cons .here (.cons .here .nil))⟩
def m_law34_lists_L2 (a_21382 : List (List Int)) (b_21386 : List (List Int)) (k_21953 : Option Bool) : Nat → Int → Option Bool
  | 0, _ => none
  | n_22026 + 1, v_22024 => if decide (v_22024 < ((a_21382.length : Nat) : Int)) then chk ((0 : Int) ≤ v_22024 ∧ v_22024 < ((a_21382.length : Nat) : Int)) (chk ((0 : Int) ≤ v_22024 ∧ v_22024 < ((b_21386.length : Nat) : Int)) ((m_law33_Ints (nth a_21382 v_22024) (nth b_21386 v_22024)).bind fun x_22078 => if !x_22078 then some false else m_law34_lists_L2 a_21382 b_21386 k_21953 n_22026 (i64 (v_22024 + 1)))) else k_21953
theorem m_law34_lists_L2_fuel {n : Nat} {a_21382 : List (List Int)} {b_21386 : List (List Int)} {k_21953 : Option Bool} {v_22024 : Int} {r : Bool} (h : m_law34_lists_L2 a_21382 b_21386 k_21953 n v_22024 = some r) : ∃ m, n = m + 1 := by
  cases n with
  | zero => cases h
  | succ m => exact ⟨m, rfl⟩

/-- nacellelaw34.lists -/
def m_law34_lists (a_21382 : List (List Int)) (b_21386 : List (List Int)) : Option Bool :=
  if decide (((a_21382.length : Nat) : Int) ≠ ((b_21386.length : Nat) : Int)) then some false else jp0 (some true) fun k_21953 => m_law34_lists_L2 a_21382 b_21386 k_21953 FUEL 0

set_option maxRecDepth 20000 in
theorem w_law34_lists (Z : Zp)  (ao_21383 : Option Addr) (cap_21384 : Nat) (ao_21387 : Option Addr) (cap_21388 : Nat) (a_21382 : List (List Int)) (b_21386 : List (List Int)) (r : Bool) (w₀ : World) (hz : PZ [] w₀ Z)
    (hs_21385 : ZS Z 1 (p22 Z) ao_21383 cap_21384 a_21382)
    (hs_21389 : ZS Z 1 (p22 Z) ao_21387 cap_21388 b_21386)
    (h : m_law34_lists a_21382 b_21386 = some r) :
    Calls Try.prog 20 #[(.slice ao_21383 a_21382.length cap_21384), (.slice ao_21387 b_21386.length cap_21388)] w₀ fun e w' => e = .returned (.bool r) ∧ Hp [] w₀ w' [] := by
  unfold m_law34_lists at h
  refine Calls.ofWC (vs := [(.slice ao_21383 a_21382.length cap_21384), (.slice ao_21387 b_21386.length cap_21388)]) (pre := []) (env := [(0, (.slice ao_21383 a_21382.length cap_21384)), (1, (.slice ao_21387 b_21386.length cap_21388))]) Try.func20 rfl Try.ntmps20 rfl (Hp.nil w₀ _) rfl ?_
  refine WC.seq ?_
  refine WC.region ?_
  refine WL.quiet (d := 4) rfl rfl rfl (q_assign rfl) ?_
  refine WL.nil ?_
  refine WX.then ?_
  refine WC.seq ?_
  refine WC.seq ?_
  refine WC.region ?_
  refine WL.quiet (d := 6) rfl rfl rfl (q_move rfl) ?_
  refine WL.quiet (d := 7) rfl rfl rfl (q_len Try.underlying30 rfl) ?_
  refine WL.quiet (d := 8) rfl rfl rfl (q_move rfl) ?_
  refine WL.quiet (d := 9) rfl rfl rfl (q_len Try.underlying30 rfl) ?_
  refine WL.quiet (d := 10) rfl rfl rfl (q_neq rfl rfl) ?_
  refine WL.nil ?_
  refine WX.then ?_
  refine WC.cond rfl (fun hb_21744 => ?_) (fun hb_21744 => ?_)
  · replace h := ite_t h hb_21744
    refine WC.seq ?_
    refine WC.region ?_
    refine WL.quiet (d := 4) rfl rfl rfl (q_assign rfl) ?_
    refine WL.nil ?_
    refine WX.then ?_
    refine WC.ret ?_
    refine WX.thenRet ?_
    obtain rfl := Option.some.inj h
    refine WX.bpRet Try.results20 (.tmp rfl .nil) (fun w hw => ?_)
    exact ⟨ret1 rfl, hw.sub .nil⟩
  · replace h := ite_f h hb_21744
    refine WC.skip ?_
    refine WX.then ?_
    obtain ⟨k_21953, hk_21954, h⟩ := jp0_elim h
    refine WC.seqMid0 ((k_21953 = some r)) ([]) ([]) ?_ ?_
    · skip
      refine WC.seq ?_
      refine WC.region ?_
      refine WL.quiet (d := 11) rfl rfl rfl (q_move rfl) ?_
      refine WL.quiet (d := 12) rfl rfl rfl (q_len Try.underlying30 rfl) ?_
      refine WL.quiet (d := 13) rfl rfl rfl (q_move rfl) ?_
      refine WL.nil ?_
      refine WX.then ?_
      refine WC.block ?_
      refine WC.loop2 (fun (n_22025 : Nat) (v_22024 : Int) => (m_law34_lists_L2 a_21382 b_21386 k_21953 n_22025 v_22024 = some r)) (fun (n_22025 : Nat) (v_22024 : Int) => [(0, (.slice ao_21383 a_21382.length cap_21384)), (1, (.slice ao_21387 b_21386.length cap_21388)), (12, (.int .i64 ((a_21382.length : Nat) : Int))), (13, (.int .i64 v_22024))]) (fun (n_22025 : Nat) (v_22024 : Int) => []) (fun (n_22025 : Nat) (v_22024 : Int) => n_22025) ⟨FUEL, 0⟩ h (.cons rfl (.cons rfl (.cons rfl (.cons rfl .nil)))) .nil ?_
      rintro n_22025 v_22024 h
      obtain ⟨n_22026, rfl⟩ := m_law34_lists_L2_fuel h
      rw [m_law34_lists_L2] at h
      refine WC.seq ?_
      refine WC.region ?_
      refine WL.quiet (d := 14) rfl rfl rfl (q_lss rfl rfl) ?_
      refine WL.nil ?_
      refine WX.then ?_
      refine WC.seq ?_
      refine WC.cond rfl (fun hb_22028 => ?_) (fun hb_22028 => ?_)
      · replace h := ite_t h hb_22028
        refine WC.skip ?_
        refine WX.then ?_
        refine WC.seq ?_
        refine WC.block ?_
        refine WC.seq ?_
        refine WC.region ?_
        refine WL.quiet (d := 15) rfl rfl rfl (q_move rfl) ?_
        refine WL.quiet (d := 5) rfl rfl rfl (q_assign rfl) ?_
        refine WL.nil ?_
        refine WX.then ?_
        refine WC.seq ?_
        obtain ⟨c_22062, h⟩ := chk_elim h
        obtain ⟨c_22070, h⟩ := chk_elim h
        obtain ⟨x_22078, hx_22079, h⟩ := bind_elim h
        refine WC.draw (fun i => [].contains i) [] rfl ?_
        refine WD.pure (i := 0) (d := 16) (by kernel_rfl) rfl (by kernel_rfl) (by kernel_rfl) rfl rfl rfl (fun _ => q_move rfl) ?_
        refine WD.pure (i := 1) (d := 17) (by kernel_rfl) rfl (by kernel_rfl) (by kernel_rfl) rfl rfl rfl (fun _ => q_move rfl) ?_
        refine WD.znth (j := 2) (dd := 18) (by kernel_rfl) rfl (by kernel_rfl) (by kernel_rfl) rfl rfl (Z := Z) (Pr := (p22 Z)) elT_30 rfl rfl hs_21385 c_22062 ?_
        rintro A_22080 r_22081 hA_22082 hl_22083 ⟨ao_22084, cap_22085, rfl, hs_22086⟩
        refine WD.quiet (i := 3) (d := 19) (by kernel_rfl) rfl (by kernel_rfl) (by kernel_rfl) rfl rfl rfl (q_load1 oneT_22 rfl (rd_z hz.pv hA_22082 rfl)) ?_
        refine WD.pure (i := 4) (d := 20) (by kernel_rfl) rfl (by kernel_rfl) (by kernel_rfl) rfl rfl rfl (fun _ => q_move rfl) ?_
        refine WD.pure (i := 5) (d := 21) (by kernel_rfl) rfl (by kernel_rfl) (by kernel_rfl) rfl rfl rfl (fun _ => q_move rfl) ?_
        refine WD.znth (j := 6) (dd := 22) (by kernel_rfl) rfl (by kernel_rfl) (by kernel_rfl) rfl rfl (Z := Z) (Pr := (p22 Z)) elT_30 rfl rfl hs_21389 c_22070 ?_
        rintro A_22087 r_22088 hA_22089 hl_22090 ⟨ao_22091, cap_22092, rfl, hs_22093⟩
        refine WD.quiet (i := 7) (d := 23) (by kernel_rfl) rfl (by kernel_rfl) (by kernel_rfl) rfl rfl rfl (q_load1 oneT_22 rfl (rd_z hz.pv hA_22089 rfl)) ?_
        refine WD.enter (i := 8) (d := 24) (by kernel_rfl) rfl (by kernel_rfl) (by kernel_rfl) rfl rfl rfl (run_call (l := [.tmp 19, .tmp 23]) Try.call26 (.cons rfl (.cons rfl .nil))) (fun w hw => by have pz := (hz.call hw (.nil : Sel [] [] [])); exact w_law33_Ints (Z := _) (ao_15127 := ao_22084) (cap_15128 := cap_22085) (ao_15131 := ao_22091) (cap_15132 := cap_22092) (a_15126 := (nth a_21382 v_22024)) (b_15130 := (nth b_21386 v_22024)) (r := x_22078) w pz hs_22086 hs_22093 hx_22079) ?_
        refine WD.pure (i := 9) (d := 25) (by kernel_rfl) rfl (by kernel_rfl) (by kernel_rfl) rfl rfl rfl (fun _ => q_not rfl) ?_
        refine WD.done (by kernel_rfl) ?_
        refine WX.then ?_
        refine WC.cond rfl (fun hb_22094 => ?_) (fun hb_22094 => ?_)
        · replace h := ite_t h hb_22094
          refine WC.seq ?_
          refine WC.region ?_
          refine WL.quiet (d := 4) rfl rfl rfl (q_assign rfl) ?_
          refine WL.nil ?_
          refine WX.then ?_
          refine WC.ret ?_
          refine WX.blockRet ?_
          refine WX.thenRet ?_
          refine WX.thenRet ?_
          refine WX.blockRet ?_
          refine WX.thenRet ?_
          obtain rfl := Option.some.inj h
          refine WX.bpRet Try.results20 (.tmp rfl .nil) (fun w hw => ?_)
          exact ⟨ret1 rfl, hw.sub .nil⟩
        · replace h := ite_f h hb_22094
          refine WC.skip ?_
          refine WX.blockNormal ?_
          refine WX.then ?_
          refine WC.region ?_
          refine WL.quiet (d := 26) rfl rfl rfl (q_add rfl rfl rfl) ?_
          refine WL.quiet (d := 13) rfl rfl rfl (q_move rfl) ?_
          refine WL.nil ?_
          exact WX.round (G := Nat × Int) ⟨n_22026, (i64 (v_22024 + 1))⟩ h (Nat.lt_succ_self _) (.cons rfl (.cons rfl (.cons rfl (.cons rfl .nil)))) .nil
      · replace h := ite_f h hb_22028
        refine WC.exit ?_
        refine WX.thenExit ?_
        refine WX.thenExit ?_
        refine WX.blockHit ?_
        exact WX.mid (G := Unit) () h .nil .nil
    · rintro  h
      replace h := hk_21954.symm.trans h
      refine WC.seq ?_
      refine WC.region ?_
      refine WL.quiet (d := 4) rfl rfl rfl (q_assign rfl) ?_
      refine WL.nil ?_
      refine WX.then ?_
      refine WC.ret ?_
      obtain rfl := Option.some.inj h
      refine WX.bpRet Try.results20 (.tmp rfl .nil) (fun w hw => ?_)
      exact ⟨ret1 rfl, hw.sub .nil⟩
/-- nacelleref33.Fits -/
def m_ref33_Fits (n_23796 : Int) (f_23797 : Int) : Option Bool :=
  some (((((decide (n_23796 ≥ 1)) && (decide (n_23796 ≤ 16))) && (decide (f_23797 ≥ 0))) && (decide (f_23797 ≤ 16))) && (decide (n_23796 ≥ (i64 ((i64 (2 * f_23797)) + 1)))))

set_option maxRecDepth 20000 in
theorem w_ref33_Fits (Z : Zp)   (n_23796 : Int) (f_23797 : Int) (r : Bool) (w₀ : World) (hz : PZ [] w₀ Z)
    (h : m_ref33_Fits n_23796 f_23797 = some r) :
    Calls Try.prog 51 #[(.int .i64 n_23796), (.int .i64 f_23797)] w₀ fun e w' => e = .returned (.bool r) ∧ Hp [] w₀ w' [] := by
  unfold m_ref33_Fits at h
  refine Calls.ofWC (vs := [(.int .i64 n_23796), (.int .i64 f_23797)]) (pre := []) (env := [(0, (.int .i64 n_23796)), (1, (.int .i64 f_23797))]) Try.func51 rfl Try.ntmps51 rfl (Hp.nil w₀ _) rfl ?_
  refine WC.seq ?_
  refine WC.region ?_
  refine WL.quiet (d := 4) rfl rfl rfl (q_assign rfl) ?_
  refine WL.nil ?_
  refine WX.then ?_
  refine WC.seq ?_
  refine WC.region ?_
  refine WL.quiet (d := 5) rfl rfl rfl (q_move rfl) ?_
  refine WL.quiet (d := 6) rfl rfl rfl (q_geq rfl rfl) ?_
  refine WL.quiet (d := 7) rfl rfl rfl (q_move rfl) ?_
  refine WL.cut0 True [(0, (.int .i64 n_23796)), (1, (.int .i64 f_23797)), (4, (.bool false)), (10, (.bool ((decide (n_23796 ≥ 1)) && (decide (n_23796 ≤ 16)))))] [] 3 ?_ (fun _ => ?_)
  · rcases Bool.eq_false_or_eq_true (decide (n_23796 ≥ 1)) with hb' | hb'
    · have hg_23807 := hb'; clear hb'
      refine WL.pin (i := 7) rfl hg_23807 ?_
      refine WL.quiet (d := 8) rfl rfl rfl (q_move rfl) ?_
      refine WL.quiet (d := 9) rfl rfl rfl (q_leq rfl rfl) ?_
      refine WL.quiet (d := 10) rfl rfl rfl (q_pickT rfl rfl) ?_
      exact WL.cutEnd () trivial (.cons rfl (.cons rfl (.cons rfl (.cons (some_bool (and_r hg_23807)) .nil)))) .nil
    · have hg_23808 := hb'; clear hb'
      refine WL.pin (i := 7) rfl hg_23808 ?_
      refine WL.skip rfl rfl rfl ?_
      refine WL.skip rfl rfl rfl ?_
      refine WL.quiet (d := 10) rfl rfl rfl (q_pickF rfl rfl) ?_
      exact WL.cutEnd () trivial (.cons rfl (.cons rfl (.cons rfl (.cons (some_bool (and_l hg_23808)) .nil)))) .nil
  · skip
    refine WL.quiet (d := 11) rfl rfl rfl (q_move rfl) ?_
    refine WL.cut0 True [(0, (.int .i64 n_23796)), (1, (.int .i64 f_23797)), (4, (.bool false)), (14, (.bool (((decide (n_23796 ≥ 1)) && (decide (n_23796 ≤ 16))) && (decide (f_23797 ≥ 0)))))] [] 3 ?_ (fun _ => ?_)
    · rcases Bool.eq_false_or_eq_true ((decide (n_23796 ≥ 1)) && (decide (n_23796 ≤ 16))) with hb' | hb'
      · have hg_23809 := hb'; clear hb'
        refine WL.pin (i := 11) rfl hg_23809 ?_
        refine WL.quiet (d := 12) rfl rfl rfl (q_move rfl) ?_
        refine WL.quiet (d := 13) rfl rfl rfl (q_geq rfl rfl) ?_
        refine WL.quiet (d := 14) rfl rfl rfl (q_pickT rfl rfl) ?_
        exact WL.cutEnd () trivial (.cons rfl (.cons rfl (.cons rfl (.cons (some_bool (and_r hg_23809)) .nil)))) .nil
      · have hg_23810 := hb'; clear hb'
        refine WL.pin (i := 11) rfl hg_23810 ?_
        refine WL.skip rfl rfl rfl ?_
        refine WL.skip rfl rfl rfl ?_
        refine WL.quiet (d := 14) rfl rfl rfl (q_pickF rfl rfl) ?_
        exact WL.cutEnd () trivial (.cons rfl (.cons rfl (.cons rfl (.cons (some_bool (and_l hg_23810)) .nil)))) .nil
    · skip
      refine WL.quiet (d := 15) rfl rfl rfl (q_move rfl) ?_
      refine WL.cut0 True [(0, (.int .i64 n_23796)), (1, (.int .i64 f_23797)), (4, (.bool false)), (18, (.bool ((((decide (n_23796 ≥ 1)) && (decide (n_23796 ≤ 16))) && (decide (f_23797 ≥ 0))) && (decide (f_23797 ≤ 16)))))] [] 3 ?_ (fun _ => ?_)
      · rcases Bool.eq_false_or_eq_true (((decide (n_23796 ≥ 1)) && (decide (n_23796 ≤ 16))) && (decide (f_23797 ≥ 0))) with hb' | hb'
        · have hg_23811 := hb'; clear hb'
          refine WL.pin (i := 15) rfl hg_23811 ?_
          refine WL.quiet (d := 16) rfl rfl rfl (q_move rfl) ?_
          refine WL.quiet (d := 17) rfl rfl rfl (q_leq rfl rfl) ?_
          refine WL.quiet (d := 18) rfl rfl rfl (q_pickT rfl rfl) ?_
          exact WL.cutEnd () trivial (.cons rfl (.cons rfl (.cons rfl (.cons (some_bool (and_r hg_23811)) .nil)))) .nil
        · have hg_23812 := hb'; clear hb'
          refine WL.pin (i := 15) rfl hg_23812 ?_
          refine WL.skip rfl rfl rfl ?_
          refine WL.skip rfl rfl rfl ?_
          refine WL.quiet (d := 18) rfl rfl rfl (q_pickF rfl rfl) ?_
          exact WL.cutEnd () trivial (.cons rfl (.cons rfl (.cons rfl (.cons (some_bool (and_l hg_23812)) .nil)))) .nil
      · skip
        refine WL.quiet (d := 19) rfl rfl rfl (q_move rfl) ?_
        refine WL.cut0 True [(4, (.bool false)), (25, (.bool (((((decide (n_23796 ≥ 1)) && (decide (n_23796 ≤ 16))) && (decide (f_23797 ≥ 0))) && (decide (f_23797 ≤ 16))) && (decide (n_23796 ≥ (i64 ((i64 (2 * f_23797)) + 1)))))))] [] 6 ?_ (fun _ => ?_)
        · rcases Bool.eq_false_or_eq_true ((((decide (n_23796 ≥ 1)) && (decide (n_23796 ≤ 16))) && (decide (f_23797 ≥ 0))) && (decide (f_23797 ≤ 16))) with hb' | hb'
          · have hg_23813 := hb'; clear hb'
            refine WL.pin (i := 19) rfl hg_23813 ?_
            refine WL.quiet (d := 20) rfl rfl rfl (q_move rfl) ?_
            refine WL.quiet (d := 21) rfl rfl rfl (q_move rfl) ?_
            refine WL.quiet (d := 22) rfl rfl rfl (q_mul rfl rfl rfl) ?_
            refine WL.quiet (d := 23) rfl rfl rfl (q_add rfl rfl rfl) ?_
            refine WL.quiet (d := 24) rfl rfl rfl (q_geq rfl rfl) ?_
            refine WL.quiet (d := 25) rfl rfl rfl (q_pickT rfl rfl) ?_
            exact WL.cutEnd () trivial (.cons rfl (.cons (some_bool (and_r hg_23813)) .nil)) .nil
          · have hg_23814 := hb'; clear hb'
            refine WL.pin (i := 19) rfl hg_23814 ?_
            refine WL.skip rfl rfl rfl ?_
            refine WL.skip rfl rfl rfl ?_
            refine WL.skip rfl rfl rfl ?_
            refine WL.skip rfl rfl rfl ?_
            refine WL.skip rfl rfl rfl ?_
            refine WL.quiet (d := 25) rfl rfl rfl (q_pickF rfl rfl) ?_
            exact WL.cutEnd () trivial (.cons rfl (.cons (some_bool (and_l hg_23814)) .nil)) .nil
        · skip
          refine WL.quiet (d := 4) rfl rfl rfl (q_assign rfl) ?_
          refine WL.nil ?_
          refine WX.then ?_
          refine WC.ret ?_
          obtain rfl := Option.some.inj h
          refine WX.bpRet Try.results51 (.tmp rfl .nil) (fun w hw => ?_)
          exact ⟨ret1 rfl, hw.sub .nil⟩
/-- nacelleref33.In -/
def m_ref33_In (t_23828 : Int) : Option Bool :=
  some ((decide (t_23828 ≥ (-1073741824))) && (decide (t_23828 ≤ 1073741824)))

set_option maxRecDepth 20000 in
theorem w_ref33_In (Z : Zp)   (t_23828 : Int) (r : Bool) (w₀ : World) (hz : PZ [] w₀ Z)
    (h : m_ref33_In t_23828 = some r) :
    Calls Try.prog 52 #[(.int .i64 t_23828)] w₀ fun e w' => e = .returned (.bool r) ∧ Hp [] w₀ w' [] := by
  unfold m_ref33_In at h
  refine Calls.ofWC (vs := [(.int .i64 t_23828)]) (pre := []) (env := [(0, (.int .i64 t_23828))]) Try.func52 rfl Try.ntmps52 rfl (Hp.nil w₀ _) rfl ?_
  refine WC.seq ?_
  refine WC.region ?_
  refine WL.quiet (d := 2) rfl rfl rfl (q_assign rfl) ?_
  refine WL.nil ?_
  refine WX.then ?_
  refine WC.seq ?_
  refine WC.region ?_
  refine WL.quiet (d := 3) rfl rfl rfl (q_move rfl) ?_
  refine WL.quiet (d := 4) rfl rfl rfl (q_geq rfl rfl) ?_
  refine WL.quiet (d := 5) rfl rfl rfl (q_move rfl) ?_
  refine WL.cut0 True [(2, (.bool false)), (8, (.bool ((decide (t_23828 ≥ (-1073741824))) && (decide (t_23828 ≤ 1073741824)))))] [] 3 ?_ (fun _ => ?_)
  · rcases Bool.eq_false_or_eq_true (decide (t_23828 ≥ (-1073741824))) with hb' | hb'
    · have hg_23832 := hb'; clear hb'
      refine WL.pin (i := 5) rfl hg_23832 ?_
      refine WL.quiet (d := 6) rfl rfl rfl (q_move rfl) ?_
      refine WL.quiet (d := 7) rfl rfl rfl (q_leq rfl rfl) ?_
      refine WL.quiet (d := 8) rfl rfl rfl (q_pickT rfl rfl) ?_
      exact WL.cutEnd () trivial (.cons rfl (.cons (some_bool (and_r hg_23832)) .nil)) .nil
    · have hg_23833 := hb'; clear hb'
      refine WL.pin (i := 5) rfl hg_23833 ?_
      refine WL.skip rfl rfl rfl ?_
      refine WL.skip rfl rfl rfl ?_
      refine WL.quiet (d := 8) rfl rfl rfl (q_pickF rfl rfl) ?_
      exact WL.cutEnd () trivial (.cons rfl (.cons (some_bool (and_l hg_23833)) .nil)) .nil
  · skip
    refine WL.quiet (d := 2) rfl rfl rfl (q_assign rfl) ?_
    refine WL.nil ?_
    refine WX.then ?_
    refine WC.ret ?_
    obtain rfl := Option.some.inj h
    refine WX.bpRet Try.results52 (.tmp rfl .nil) (fun w hw => ?_)
    exact ⟨ret1 rfl, hw.sub .nil⟩
def m_ref33_rank_L4 (l_23967 : List Int) (i_31781 : Int) (k_32399 : Int → Option Int) : Nat → Int → Int → Option Int
  | 0, _, _ => none
  | n_32523 + 1, n_32520, j_32521 => if decide (j_32521 < ((l_23967.length : Nat) : Int)) then jp1 (fun (n_32582 : Int) => m_ref33_rank_L4 l_23967 i_31781 k_32399 n_32523 n_32582 (i64 (j_32521 + 1))) fun k_32583 => chk ((0 : Int) ≤ j_32521 ∧ j_32521 < ((l_23967.length : Nat) : Int)) (chk ((0 : Int) ≤ i_31781 ∧ i_31781 < ((l_23967.length : Nat) : Int)) (chk ((decide ((nth l_23967 j_32521) < (nth l_23967 i_31781))) = false → ((0 : Int) ≤ j_32521 ∧ j_32521 < ((l_23967.length : Nat) : Int))) (chk ((decide ((nth l_23967 j_32521) < (nth l_23967 i_31781))) = false → ((0 : Int) ≤ i_31781 ∧ i_31781 < ((l_23967.length : Nat) : Int))) (if (decide ((nth l_23967 j_32521) < (nth l_23967 i_31781))) || ((decide ((nth l_23967 j_32521) = (nth l_23967 i_31781))) && (decide (j_32521 < i_31781))) then k_32583 (i64 (n_32520 + 1)) else k_32583 n_32520)))) else k_32399 n_32520
theorem m_ref33_rank_L4_fuel {n : Nat} {l_23967 : List Int} {i_31781 : Int} {k_32399 : Int → Option Int} {n_32520 : Int} {j_32521 : Int} {r : Int} (h : m_ref33_rank_L4 l_23967 i_31781 k_32399 n n_32520 j_32521 = some r) : ∃ m, n = m + 1 := by
  cases n with
  | zero => cases h
  | succ m => exact ⟨m, rfl⟩

def m_ref33_rank_L3 (l_23967 : List Int) (k_23971 : Int) (k_30911 : Option Int) : Nat → Int → Option Int
  | 0, _ => none
  | n_31783 + 1, i_31781 => if decide (i_31781 < ((l_23967.length : Nat) : Int)) then jp0 (m_ref33_rank_L3 l_23967 k_23971 k_30911 n_31783 (i64 (i_31781 + 1))) fun k_32396 => jp1 (fun (n_32398 : Int) => if decide (n_32398 = k_23971) then chk ((0 : Int) ≤ i_31781 ∧ i_31781 < ((l_23967.length : Nat) : Int)) (some (nth l_23967 i_31781)) else k_32396) fun k_32399 => m_ref33_rank_L4 l_23967 i_31781 k_32399 FUEL 0 0 else k_30911
theorem m_ref33_rank_L3_fuel {n : Nat} {l_23967 : List Int} {k_23971 : Int} {k_30911 : Option Int} {i_31781 : Int} {r : Int} (h : m_ref33_rank_L3 l_23967 k_23971 k_30911 n i_31781 = some r) : ∃ m, n = m + 1 := by
  cases n with
  | zero => cases h
  | succ m => exact ⟨m, rfl⟩

/-- nacelleref33.rank -/
def m_ref33_rank (l_23967 : List Int) (k_23971 : Int) : Option Int :=
  jp0 (some 0) fun k_30911 => m_ref33_rank_L3 l_23967 k_23971 k_30911 FUEL 0

set_option maxRecDepth 20000 in
theorem w_ref33_rank (Z : Zp)  (ao_23968 : Option Addr) (cap_23969 : Nat) (l_23967 : List Int) (k_23971 : Int) (r : Int) (w₀ : World) (hz : PZ [] w₀ Z)
    (hs_23970 : ZS Z 1 (fun r x => r = e3 x) ao_23968 cap_23969 l_23967)
    (h : m_ref33_rank l_23967 k_23971 = some r) :
    Calls Try.prog 53 #[(.slice ao_23968 l_23967.length cap_23969), (.int .i64 k_23971)] w₀ fun e w' => e = .returned (.int .i64 r) ∧ Hp [] w₀ w' [] := by
  unfold m_ref33_rank at h
  refine Calls.ofWC (vs := [(.slice ao_23968 l_23967.length cap_23969), (.int .i64 k_23971)]) (pre := []) (env := [(0, (.slice ao_23968 l_23967.length cap_23969)), (1, (.int .i64 k_23971))]) Try.func53 rfl Try.ntmps53 rfl (Hp.nil w₀ _) rfl ?_
  refine WC.seq ?_
  refine WC.region ?_
  refine WL.quiet (d := 4) rfl rfl rfl (q_assign rfl) ?_
  refine WL.nil ?_
  refine WX.then ?_
  obtain ⟨k_30911, hk_30912, h⟩ := jp0_elim h
  refine WC.seqMid0 ((k_30911 = some r)) ([]) ([]) ?_ ?_
  · skip
    refine WC.seq ?_
    refine WC.region ?_
    refine WL.quiet (d := 5) rfl rfl rfl (q_assign rfl) ?_
    refine WL.nil ?_
    refine WX.then ?_
    refine WC.block ?_
    refine WC.loop2 (fun (n_31782 : Nat) (i_31781 : Int) => (m_ref33_rank_L3 l_23967 k_23971 k_30911 n_31782 i_31781 = some r)) (fun (n_31782 : Nat) (i_31781 : Int) => [(0, (.slice ao_23968 l_23967.length cap_23969)), (1, (.int .i64 k_23971)), (5, (.int .i64 i_31781))]) (fun (n_31782 : Nat) (i_31781 : Int) => []) (fun (n_31782 : Nat) (i_31781 : Int) => n_31782) ⟨FUEL, 0⟩ h (.cons rfl (.cons rfl (.cons rfl .nil))) .nil ?_
    rintro n_31782 i_31781 h
    obtain ⟨n_31783, rfl⟩ := m_ref33_rank_L3_fuel h
    rw [m_ref33_rank_L3] at h
    refine WC.seq ?_
    refine WC.seq ?_
    refine WC.region ?_
    refine WL.quiet (d := 8) rfl rfl rfl (q_move rfl) ?_
    refine WL.quiet (d := 9) rfl rfl rfl (q_move rfl) ?_
    refine WL.quiet (d := 10) rfl rfl rfl (q_len Try.underlying22 rfl) ?_
    refine WL.quiet (d := 11) rfl rfl rfl (q_lss rfl rfl) ?_
    refine WL.nil ?_
    refine WX.then ?_
    refine WC.cond rfl (fun hb_31785 => ?_) (fun hb_31785 => ?_)
    · replace h := ite_t h hb_31785
      refine WC.skip ?_
      refine WX.then ?_
      obtain ⟨k_32396, hk_32397, h⟩ := jp0_elim h
      refine WC.seqMid0 ((k_32396 = some r)) ([(0, (.slice ao_23968 l_23967.length cap_23969)), (1, (.int .i64 k_23971)), (5, (.int .i64 i_31781))]) ([]) ?_ ?_
      · skip
        refine WC.block ?_
        refine WC.seq ?_
        refine WC.region ?_
        refine WL.quiet (d := 6) rfl rfl rfl (q_assign rfl) ?_
        refine WL.nil ?_
        refine WX.then ?_
        obtain ⟨k_32399, hk_32400, h⟩ := jp1_elim h
        refine WC.seqMid1 (fun (n_32398 : Int) => (k_32399 n_32398 = some r)) (fun (n_32398 : Int) => [(0, (.slice ao_23968 l_23967.length cap_23969)), (1, (.int .i64 k_23971)), (5, (.int .i64 i_31781)), (6, (.int .i64 n_32398))]) (fun (n_32398 : Int) => []) ?_ ?_
        · skip
          refine WC.seq ?_
          refine WC.region ?_
          refine WL.quiet (d := 7) rfl rfl rfl (q_assign rfl) ?_
          refine WL.nil ?_
          refine WX.then ?_
          refine WC.block ?_
          refine WC.loop3 (fun (n_32522 : Nat) (n_32520 : Int) (j_32521 : Int) => (m_ref33_rank_L4 l_23967 i_31781 k_32399 n_32522 n_32520 j_32521 = some r)) (fun (n_32522 : Nat) (n_32520 : Int) (j_32521 : Int) => [(0, (.slice ao_23968 l_23967.length cap_23969)), (1, (.int .i64 k_23971)), (5, (.int .i64 i_31781)), (6, (.int .i64 n_32520)), (7, (.int .i64 j_32521))]) (fun (n_32522 : Nat) (n_32520 : Int) (j_32521 : Int) => []) (fun (n_32522 : Nat) (n_32520 : Int) (j_32521 : Int) => n_32522) ⟨FUEL, 0, 0⟩ h (.cons rfl (.cons rfl (.cons rfl (.cons rfl (.cons rfl .nil))))) .nil ?_
          rintro n_32522 n_32520 j_32521 h
          obtain ⟨n_32523, rfl⟩ := m_ref33_rank_L4_fuel h
          rw [m_ref33_rank_L4] at h
          refine WC.seq ?_
          refine WC.seq ?_
          refine WC.region ?_
          refine WL.quiet (d := 14) rfl rfl rfl (q_move rfl) ?_
          refine WL.quiet (d := 15) rfl rfl rfl (q_move rfl) ?_
          refine WL.quiet (d := 16) rfl rfl rfl (q_len Try.underlying22 rfl) ?_
          refine WL.quiet (d := 17) rfl rfl rfl (q_lss rfl rfl) ?_
          refine WL.nil ?_
          refine WX.then ?_
          refine WC.cond rfl (fun hb_32525 => ?_) (fun hb_32525 => ?_)
          · replace h := ite_t h hb_32525
            refine WC.skip ?_
            refine WX.then ?_
            obtain ⟨k_32583, hk_32584, h⟩ := jp1_elim h
            refine WC.seqMid1 (fun (n_32582 : Int) => (k_32583 n_32582 = some r)) (fun (n_32582 : Int) => [(0, (.slice ao_23968 l_23967.length cap_23969)), (1, (.int .i64 k_23971)), (5, (.int .i64 i_31781)), (6, (.int .i64 n_32582)), (7, (.int .i64 j_32521))]) (fun (n_32582 : Int) => []) ?_ ?_
            · skip
              refine WC.block ?_
              refine WC.seq ?_
              obtain ⟨c_32585, h⟩ := chk_elim h
              obtain ⟨c_32590, h⟩ := chk_elim h
              obtain ⟨c_32605, h⟩ := chk_elim h
              obtain ⟨c_32606, h⟩ := chk_elim h
              refine WC.draw (fun i => [].contains i) [] rfl ?_
              refine WD.pure (i := 0) (d := 20) (by kernel_rfl) rfl (by kernel_rfl) (by kernel_rfl) rfl rfl rfl (fun _ => q_move rfl) ?_
              refine WD.pure (i := 1) (d := 21) (by kernel_rfl) rfl (by kernel_rfl) (by kernel_rfl) rfl rfl rfl (fun _ => q_move rfl) ?_
              refine WD.znth (j := 2) (dd := 22) (by kernel_rfl) rfl (by kernel_rfl) (by kernel_rfl) rfl rfl (Z := Z) (Pr := (fun r x => r = e3 x)) elT_22 rfl rfl hs_23970 c_32585 ?_
              rintro A_32607 r_32608 hA_32609 hl_32610 rfl
              refine WD.quiet (i := 3) (d := 23) (by kernel_rfl) rfl (by kernel_rfl) (by kernel_rfl) rfl rfl rfl (q_load1 oneT_3 rfl (rd_z hz.pv hA_32609 rfl)) ?_
              refine WD.pure (i := 4) (d := 24) (by kernel_rfl) rfl (by kernel_rfl) (by kernel_rfl) rfl rfl rfl (fun _ => q_move rfl) ?_
              refine WD.pure (i := 5) (d := 25) (by kernel_rfl) rfl (by kernel_rfl) (by kernel_rfl) rfl rfl rfl (fun _ => q_move rfl) ?_
              refine WD.znth (j := 6) (dd := 26) (by kernel_rfl) rfl (by kernel_rfl) (by kernel_rfl) rfl rfl (Z := Z) (Pr := (fun r x => r = e3 x)) elT_22 rfl rfl hs_23970 c_32590 ?_
              rintro A_32611 r_32612 hA_32613 hl_32614 rfl
              refine WD.quiet (i := 7) (d := 27) (by kernel_rfl) rfl (by kernel_rfl) (by kernel_rfl) rfl rfl rfl (q_load1 oneT_3 rfl (rd_z hz.pv hA_32613 rfl)) ?_
              refine WD.pure (i := 8) (d := 28) (by kernel_rfl) rfl (by kernel_rfl) (by kernel_rfl) rfl rfl rfl (fun _ => q_lss rfl rfl) ?_
              refine WD.pure (i := 9) (d := 29) (by kernel_rfl) rfl (by kernel_rfl) (by kernel_rfl) rfl rfl rfl (fun _ => q_move rfl) ?_
              refine WD.mid (fuel' := 0) [(0, (.slice ao_23968 l_23967.length cap_23969)), (1, (.int .i64 k_23971)), (5, (.int .i64 i_31781)), (6, (.int .i64 n_32520)), (7, (.int .i64 j_32521)), (14, (.int .i64 j_32521)), (15, (.slice ao_23968 l_23967.length cap_23969)), (16, (.int .i64 ((l_23967.length : Nat) : Int))), (17, (.bool (decide (j_32521 < ((l_23967.length : Nat) : Int))))), (20, (.slice ao_23968 l_23967.length cap_23969)), (21, (.int .i64 j_32521)), (22, (.pointer (some A_32607))), (23, (.int .i64 (nth l_23967 j_32521))), (24, (.slice ao_23968 l_23967.length cap_23969)), (25, (.int .i64 i_31781)), (26, (.pointer (some A_32611))), (27, (.int .i64 (nth l_23967 i_31781))), (28, (.bool (decide ((nth l_23967 j_32521) < (nth l_23967 i_31781))))), (29, (.bool (decide ((nth l_23967 j_32521) < (nth l_23967 i_31781))))), (44, (.bool ((decide ((nth l_23967 j_32521) < (nth l_23967 i_31781))) || ((decide ((nth l_23967 j_32521) = (nth l_23967 i_31781))) && (decide (j_32521 < i_31781))))))] (listedA 25 [24, 23, 22, 21, 20, 19, 18, 17, 16, 15, 14, 13, 12, 11, 10, 9, 8, 7, 6, 5, 4, 3, 2, 1, 0]) ?_ (fun K_32626 => ?_)
              rotate_left
              · rcases Bool.eq_false_or_eq_true (decide ((nth l_23967 j_32521) < (nth l_23967 i_31781))) with hb' | hb'
                · have hg_32627 := hb'; clear hb'
                  refine WD.pin (i := 29) rfl hg_32627 ?_
                  refine WD.skip (i := 10) (d := 30) (by kernel_rfl) rfl (by kernel_rfl) (by kernel_rfl) rfl rfl rfl ?_
                  refine WD.skip (i := 11) (d := 31) (by kernel_rfl) rfl (by kernel_rfl) (by kernel_rfl) rfl rfl rfl ?_
                  refine WD.skip (i := 12) (d := 32) (by kernel_rfl) rfl (by kernel_rfl) (by kernel_rfl) rfl rfl rfl ?_
                  refine WD.skip (i := 13) (d := 33) (by kernel_rfl) rfl (by kernel_rfl) (by kernel_rfl) rfl rfl rfl ?_
                  refine WD.skip (i := 14) (d := 34) (by kernel_rfl) rfl (by kernel_rfl) (by kernel_rfl) rfl rfl rfl ?_
                  refine WD.skip (i := 15) (d := 35) (by kernel_rfl) rfl (by kernel_rfl) (by kernel_rfl) rfl rfl rfl ?_
                  refine WD.skip (i := 16) (d := 36) (by kernel_rfl) rfl (by kernel_rfl) (by kernel_rfl) rfl rfl rfl ?_
                  refine WD.skip (i := 17) (d := 37) (by kernel_rfl) rfl (by kernel_rfl) (by kernel_rfl) rfl rfl rfl ?_
                  refine WD.skip (i := 18) (d := 38) (by kernel_rfl) rfl (by kernel_rfl) (by kernel_rfl) rfl rfl rfl ?_
                  refine WD.skip (i := 19) (d := 39) (by kernel_rfl) rfl (by kernel_rfl) (by kernel_rfl) rfl rfl rfl ?_
                  refine WD.skip (i := 20) (d := 40) (by kernel_rfl) rfl (by kernel_rfl) (by kernel_rfl) rfl rfl rfl ?_
                  refine WD.skip (i := 21) (d := 41) (by kernel_rfl) rfl (by kernel_rfl) (by kernel_rfl) rfl rfl rfl ?_
                  refine WD.skip (i := 22) (d := 42) (by kernel_rfl) rfl (by kernel_rfl) (by kernel_rfl) rfl rfl rfl ?_
                  refine WD.skip (i := 23) (d := 43) (by kernel_rfl) rfl (by kernel_rfl) (by kernel_rfl) rfl rfl rfl ?_
                  refine WD.pure (i := 24) (d := 44) (by kernel_rfl) rfl (by kernel_rfl) (by kernel_rfl) rfl rfl rfl (fun _ => q_pickT rfl rfl) ?_
                  refine WD.reL .nil ?_ K_32626
                  exact (.cons rfl (.cons rfl (.cons rfl (.cons rfl (.cons rfl (.cons rfl (.cons rfl (.cons rfl (.cons rfl (.cons rfl (.cons rfl (.cons rfl (.cons rfl (.cons rfl (.cons rfl (.cons rfl (.cons rfl (.cons rfl (.cons (some_bool (Eq.symm hg_32627)) (.cons (some_bool (or_l hg_32627)) .nil))))))))))))))))))))
                · have hg_32628 := hb'; clear hb'
                  have c_32595 := c_32605 hg_32628
                  have c_32600 := c_32606 hg_32628
                  refine WD.pin (i := 29) rfl hg_32628 ?_
                  refine WD.pure (i := 10) (d := 30) (by kernel_rfl) rfl (by kernel_rfl) (by kernel_rfl) rfl rfl rfl (fun _ => q_move rfl) ?_
                  refine WD.pure (i := 11) (d := 31) (by kernel_rfl) rfl (by kernel_rfl) (by kernel_rfl) rfl rfl rfl (fun _ => q_move rfl) ?_
                  refine WD.znth (j := 12) (dd := 32) (by kernel_rfl) rfl (by kernel_rfl) (by kernel_rfl) rfl rfl (Z := Z) (Pr := (fun r x => r = e3 x)) elT_22 rfl rfl hs_23970 c_32595 ?_
                  rintro A_32629 r_32630 hA_32631 hl_32632 rfl
                  refine WD.quiet (i := 13) (d := 33) (by kernel_rfl) rfl (by kernel_rfl) (by kernel_rfl) rfl rfl rfl (q_load1 oneT_3 rfl (rd_z hz.pv hA_32631 rfl)) ?_
                  refine WD.pure (i := 14) (d := 34) (by kernel_rfl) rfl (by kernel_rfl) (by kernel_rfl) rfl rfl rfl (fun _ => q_move rfl) ?_
                  refine WD.pure (i := 15) (d := 35) (by kernel_rfl) rfl (by kernel_rfl) (by kernel_rfl) rfl rfl rfl (fun _ => q_move rfl) ?_
                  refine WD.znth (j := 16) (dd := 36) (by kernel_rfl) rfl (by kernel_rfl) (by kernel_rfl) rfl rfl (Z := Z) (Pr := (fun r x => r = e3 x)) elT_22 rfl rfl hs_23970 c_32600 ?_
                  rintro A_32633 r_32634 hA_32635 hl_32636 rfl
                  refine WD.quiet (i := 17) (d := 37) (by kernel_rfl) rfl (by kernel_rfl) (by kernel_rfl) rfl rfl rfl (q_load1 oneT_3 rfl (rd_z hz.pv hA_32635 rfl)) ?_
                  refine WD.pure (i := 18) (d := 38) (by kernel_rfl) rfl (by kernel_rfl) (by kernel_rfl) rfl rfl rfl (fun _ => q_eql rfl rfl) ?_
                  refine WD.pure (i := 19) (d := 39) (by kernel_rfl) rfl (by kernel_rfl) (by kernel_rfl) rfl rfl rfl (fun _ => q_move rfl) ?_
                  refine WD.mid (fuel' := 1) [(0, (.slice ao_23968 l_23967.length cap_23969)), (1, (.int .i64 k_23971)), (5, (.int .i64 i_31781)), (6, (.int .i64 n_32520)), (7, (.int .i64 j_32521)), (14, (.int .i64 j_32521)), (15, (.slice ao_23968 l_23967.length cap_23969)), (16, (.int .i64 ((l_23967.length : Nat) : Int))), (17, (.bool (decide (j_32521 < ((l_23967.length : Nat) : Int))))), (20, (.slice ao_23968 l_23967.length cap_23969)), (21, (.int .i64 j_32521)), (22, (.pointer (some A_32607))), (23, (.int .i64 (nth l_23967 j_32521))), (24, (.slice ao_23968 l_23967.length cap_23969)), (25, (.int .i64 i_31781)), (26, (.pointer (some A_32611))), (27, (.int .i64 (nth l_23967 i_31781))), (28, (.bool (decide ((nth l_23967 j_32521) < (nth l_23967 i_31781))))), (29, (.bool false)), (30, (.slice ao_23968 l_23967.length cap_23969)), (31, (.int .i64 j_32521)), (32, (.pointer (some A_32629))), (33, (.int .i64 (nth l_23967 j_32521))), (34, (.slice ao_23968 l_23967.length cap_23969)), (35, (.int .i64 i_31781)), (36, (.pointer (some A_32633))), (37, (.int .i64 (nth l_23967 i_31781))), (38, (.bool (decide ((nth l_23967 j_32521) = (nth l_23967 i_31781))))), (39, (.bool (decide ((nth l_23967 j_32521) = (nth l_23967 i_31781))))), (43, (.bool ((decide ((nth l_23967 j_32521) = (nth l_23967 i_31781))) && (decide (j_32521 < i_31781)))))] (listedA 25 [23, 22, 21, 20, 19, 18, 17, 16, 15, 14, 13, 12, 11, 10, 9, 8, 7, 6, 5, 4, 3, 2, 1, 0]) ?_ (fun K_32637 => ?_)
                  rotate_left
                  · rcases Bool.eq_false_or_eq_true (decide ((nth l_23967 j_32521) = (nth l_23967 i_31781))) with hb' | hb'
                    · have hg_32638 := hb'; clear hb'
                      refine WD.pin (i := 39) rfl hg_32638 ?_
                      refine WD.pure (i := 20) (d := 40) (by kernel_rfl) rfl (by kernel_rfl) (by kernel_rfl) rfl rfl rfl (fun _ => q_move rfl) ?_
                      refine WD.pure (i := 21) (d := 41) (by kernel_rfl) rfl (by kernel_rfl) (by kernel_rfl) rfl rfl rfl (fun _ => q_move rfl) ?_
                      refine WD.pure (i := 22) (d := 42) (by kernel_rfl) rfl (by kernel_rfl) (by kernel_rfl) rfl rfl rfl (fun _ => q_lss rfl rfl) ?_
                      refine WD.pure (i := 23) (d := 43) (by kernel_rfl) rfl (by kernel_rfl) (by kernel_rfl) rfl rfl rfl (fun _ => q_pickT rfl rfl) ?_
                      refine WD.reL .nil ?_ K_32637
                      exact (.cons rfl (.cons rfl (.cons rfl (.cons rfl (.cons rfl (.cons rfl (.cons rfl (.cons rfl (.cons rfl (.cons rfl (.cons rfl (.cons rfl (.cons rfl (.cons rfl (.cons rfl (.cons rfl (.cons rfl (.cons rfl (.cons rfl (.cons rfl (.cons rfl (.cons rfl (.cons rfl (.cons rfl (.cons rfl (.cons rfl (.cons rfl (.cons rfl (.cons (some_bool (Eq.symm hg_32638)) (.cons (some_bool (and_r hg_32638)) .nil))))))))))))))))))))))))))))))
                    · have hg_32639 := hb'; clear hb'
                      refine WD.pin (i := 39) rfl hg_32639 ?_
                      refine WD.skip (i := 20) (d := 40) (by kernel_rfl) rfl (by kernel_rfl) (by kernel_rfl) rfl rfl rfl ?_
                      refine WD.skip (i := 21) (d := 41) (by kernel_rfl) rfl (by kernel_rfl) (by kernel_rfl) rfl rfl rfl ?_
                      refine WD.skip (i := 22) (d := 42) (by kernel_rfl) rfl (by kernel_rfl) (by kernel_rfl) rfl rfl rfl ?_
                      refine WD.pure (i := 23) (d := 43) (by kernel_rfl) rfl (by kernel_rfl) (by kernel_rfl) rfl rfl rfl (fun _ => q_pickF rfl rfl) ?_
                      refine WD.reL .nil ?_ K_32637
                      exact (.cons rfl (.cons rfl (.cons rfl (.cons rfl (.cons rfl (.cons rfl (.cons rfl (.cons rfl (.cons rfl (.cons rfl (.cons rfl (.cons rfl (.cons rfl (.cons rfl (.cons rfl (.cons rfl (.cons rfl (.cons rfl (.cons rfl (.cons rfl (.cons rfl (.cons rfl (.cons rfl (.cons rfl (.cons rfl (.cons rfl (.cons rfl (.cons rfl (.cons (some_bool (Eq.symm hg_32639)) (.cons (some_bool (and_l hg_32639)) .nil))))))))))))))))))))))))))))))
                  refine WD.pure (i := 24) (d := 44) (by kernel_rfl) rfl (by kernel_rfl) (by kernel_rfl) rfl rfl rfl (fun _ => q_pickF rfl rfl) ?_
                  refine WD.reL .nil ?_ K_32626
                  exact (.cons rfl (.cons rfl (.cons rfl (.cons rfl (.cons rfl (.cons rfl (.cons rfl (.cons rfl (.cons rfl (.cons rfl (.cons rfl (.cons rfl (.cons rfl (.cons rfl (.cons rfl (.cons rfl (.cons rfl (.cons rfl (.cons (some_bool (Eq.symm hg_32628)) (.cons (some_bool (or_r hg_32628)) .nil))))))))))))))))))))
              refine WD.done (by kernel_rfl) ?_
              refine WX.then ?_
              refine WC.cond rfl (fun hb_32640 => ?_) (fun hb_32640 => ?_)
              · replace h := ite_t h hb_32640
                refine WC.region ?_
                refine WL.quiet (d := 45) rfl rfl rfl (q_move rfl) ?_
                refine WL.quiet (d := 46) rfl rfl rfl (q_add rfl rfl rfl) ?_
                refine WL.quiet (d := 6) rfl rfl rfl (q_assign rfl) ?_
                refine WL.nil ?_
                refine WX.blockNormal ?_
                exact WX.mid (G := Int) (i64 (n_32520 + 1)) h (.cons rfl (.cons rfl (.cons rfl (.cons rfl (.cons rfl .nil))))) .nil
              · replace h := ite_f h hb_32640
                refine WC.skip ?_
                refine WX.blockNormal ?_
                exact WX.mid (G := Int) n_32520 h (.cons rfl (.cons rfl (.cons rfl (.cons rfl (.cons rfl .nil))))) .nil
            · rintro n_32582 h
              replace h := (hk_32584 n_32582).symm.trans h
              refine WC.region ?_
              refine WL.quiet (d := 18) rfl rfl rfl (q_move rfl) ?_
              refine WL.quiet (d := 19) rfl rfl rfl (q_add rfl rfl rfl) ?_
              refine WL.quiet (d := 7) rfl rfl rfl (q_assign rfl) ?_
              refine WL.nil ?_
              exact WX.round (G := Nat × Int × Int) ⟨n_32523, n_32582, (i64 (j_32521 + 1))⟩ h (Nat.lt_succ_self _) (.cons rfl (.cons rfl (.cons rfl (.cons rfl (.cons rfl .nil))))) .nil
          · replace h := ite_f h hb_32525
            refine WC.exit ?_
            refine WX.thenExit ?_
            refine WX.thenExit ?_
            refine WX.blockHit ?_
            exact WX.mid (G := Int) n_32520 h (.cons rfl (.cons rfl (.cons rfl (.cons rfl .nil)))) .nil
        · rintro n_32398 h
          replace h := (hk_32400 n_32398).symm.trans h
          refine WC.seq ?_
          refine WC.region ?_
          refine WL.quiet (d := 47) rfl rfl rfl (q_move rfl) ?_
          refine WL.quiet (d := 48) rfl rfl rfl (q_move rfl) ?_
          refine WL.quiet (d := 49) rfl rfl rfl (q_eql rfl rfl) ?_
          refine WL.nil ?_
          refine WX.then ?_
          refine WC.cond rfl (fun hb_32641 => ?_) (fun hb_32641 => ?_)
          · replace h := ite_t h hb_32641
            refine WC.seq ?_
            obtain ⟨c_32642, h⟩ := chk_elim h
            refine WC.region ?_
            refine WL.quiet (d := 50) rfl rfl rfl (q_move rfl) ?_
            refine WL.quiet (d := 51) rfl rfl rfl (q_move rfl) ?_
            refine WL.znth (dd := 52) rfl rfl (Z := Z) (Pr := (fun r x => r = e3 x)) elT_22 rfl rfl hs_23970 c_32642 ?_
            rintro A_32647 r_32648 hA_32649 hl_32650 rfl
            refine WL.quiet (d := 53) rfl rfl rfl (q_load1 oneT_3 rfl (rd_z hz.pv hA_32649 rfl)) ?_
            refine WL.quiet (d := 4) rfl rfl rfl (q_assign rfl) ?_
            refine WL.nil ?_
            refine WX.then ?_
            refine WC.ret ?_
            refine WX.blockRet ?_
            refine WX.thenRet ?_
            refine WX.thenRet ?_
            refine WX.blockRet ?_
            refine WX.thenRet ?_
            obtain rfl := Option.some.inj h
            refine WX.bpRet Try.results53 (.tmp rfl .nil) (fun w hw => ?_)
            exact ⟨ret1 rfl, hw.sub .nil⟩
          · replace h := ite_f h hb_32641
            refine WC.skip ?_
            refine WX.blockNormal ?_
            exact WX.mid (G := Unit) () h (.cons rfl (.cons rfl (.cons rfl .nil))) .nil
      · rintro  h
        replace h := hk_32397.symm.trans h
        refine WC.region ?_
        refine WL.quiet (d := 12) rfl rfl rfl (q_move rfl) ?_
        refine WL.quiet (d := 13) rfl rfl rfl (q_add rfl rfl rfl) ?_
        refine WL.quiet (d := 5) rfl rfl rfl (q_assign rfl) ?_
        refine WL.nil ?_
        exact WX.round (G := Nat × Int) ⟨n_31783, (i64 (i_31781 + 1))⟩ h (Nat.lt_succ_self _) (.cons rfl (.cons rfl (.cons rfl .nil))) .nil
    · replace h := ite_f h hb_31785
      refine WC.exit ?_
      refine WX.thenExit ?_
      refine WX.thenExit ?_
      refine WX.blockHit ?_
      exact WX.mid (G := Unit) () h .nil .nil
  · rintro  h
    replace h := hk_30912.symm.trans h
    refine WC.seq ?_
    refine WC.region ?_
    refine WL.quiet (d := 4) rfl rfl rfl (q_assign rfl) ?_
    refine WL.nil ?_
    refine WX.then ?_
    refine WC.ret ?_
    obtain rfl := Option.some.inj h
    refine WX.bpRet Try.results53 (.tmp rfl .nil) (fun w hw => ?_)
    exact ⟨ret1 rfl, hw.sub .nil⟩
def m_ref33_Midpoint_L2 (l_23791 : List Int) (k_32754 : Option (Int × Int)) : Nat → Int → Option (Int × Int)
  | 0, _ => none
  | n_32785 + 1, i_32783 => if decide (i_32783 < ((l_23791.length : Nat) : Int)) then chk ((0 : Int) ≤ i_32783 ∧ i_32783 < ((l_23791.length : Nat) : Int)) ((m_ref33_In (nth l_23791 i_32783)).bind fun x_32805 => if !x_32805 then some (0, 2) else m_ref33_Midpoint_L2 l_23791 k_32754 n_32785 (i64 (i_32783 + 1))) else k_32754
theorem m_ref33_Midpoint_L2_fuel {n : Nat} {l_23791 : List Int} {k_32754 : Option (Int × Int)} {i_32783 : Int} {r : Int × Int} (h : m_ref33_Midpoint_L2 l_23791 k_32754 n i_32783 = some r) : ∃ m, n = m + 1 := by
  cases n with
  | zero => cases h
  | succ m => exact ⟨m, rfl⟩

/-- nacelleref33.Midpoint -/
def m_ref33_Midpoint (l_23791 : List Int) (f_23795 : Int) : Option (Int × Int) :=
  (m_ref33_Fits ((l_23791.length : Nat) : Int) f_23795).bind fun x_32669 => if !x_32669 then some (0, 2) else jp0 ((m_ref33_rank l_23791 f_23795).bind fun x_32812 => (m_ref33_rank l_23791 (i64 ((i64 (((l_23791.length : Nat) : Int) - 1)) - f_23795))).bind fun x_32814 => jp1 (fun (half_32819 : Int) => some (half_32819, 0)) fun k_32820 => if (decide ((i64 (x_32812 + x_32814)) < 0)) && (decide ((Int.tmod (i64 (x_32812 + x_32814)) 2) ≠ 0)) then k_32820 (i64 ((i64 (Int.tdiv (i64 (x_32812 + x_32814)) 2)) - 1)) else k_32820 (i64 (Int.tdiv (i64 (x_32812 + x_32814)) 2))) fun k_32754 => m_ref33_Midpoint_L2 l_23791 k_32754 FUEL 0

set_option maxRecDepth 20000 in
theorem w_ref33_Midpoint (Z : Zp)  (ao_23792 : Option Addr) (cap_23793 : Nat) (l_23791 : List Int) (f_23795 : Int) (r : Int × Int) (w₀ : World) (hz : PZ [] w₀ Z)
    (hs_23794 : ZS Z 1 (fun r x => r = e3 x) ao_23792 cap_23793 l_23791)
    (h : m_ref33_Midpoint l_23791 f_23795 = some r) :
    Calls Try.prog 37 #[(.slice ao_23792 l_23791.length cap_23793), (.int .i64 f_23795)] w₀ fun e w' => e = .returned (.tuple #[(.int .i64 r.1), (.int .i64 r.2)]) ∧ Hp [] w₀ w' [] := by
  unfold m_ref33_Midpoint at h
  refine Calls.ofWC (vs := [(.slice ao_23792 l_23791.length cap_23793), (.int .i64 f_23795)]) (pre := []) (env := [(0, (.slice ao_23792 l_23791.length cap_23793)), (1, (.int .i64 f_23795))]) Try.func37 rfl Try.ntmps37 rfl (Hp.nil w₀ _) rfl ?_
  refine WC.seq ?_
  refine WC.region ?_
  refine WL.quiet (d := 4) rfl rfl rfl (q_assign rfl) ?_
  refine WL.quiet (d := 5) rfl rfl rfl (q_assign rfl) ?_
  refine WL.nil ?_
  refine WX.then ?_
  refine WC.seq ?_
  refine WC.seq ?_
  obtain ⟨x_32669, hx_32670, h⟩ := bind_elim h
  refine WC.region ?_
  refine WL.quiet (d := 9) rfl rfl rfl (q_move rfl) ?_
  refine WL.quiet (d := 10) rfl rfl rfl (q_len Try.underlying22 rfl) ?_
  refine WL.quiet (d := 11) rfl rfl rfl (q_move rfl) ?_
  refine WL.callD (dd := 12) rfl rfl rfl (run_call (l := [.tmp 10, .tmp 11]) Try.call51 (.cons rfl (.cons rfl .nil))) (.nil : Sel [] [] []) (fun w hw => by have pz := (hz.call hw (.nil : Sel [] [] [])); exact w_ref33_Fits (Z := _)  (n_23796 := ((l_23791.length : Nat) : Int)) (f_23797 := f_23795) (r := x_32669) w pz  hx_32670) ?_
  refine WL.quiet (d := 13) rfl rfl rfl (q_not rfl) ?_
  refine WL.nil ?_
  refine WX.then ?_
  refine WC.cond rfl (fun hb_32671 => ?_) (fun hb_32671 => ?_)
  · replace h := ite_t h hb_32671
    refine WC.seq ?_
    refine WC.region ?_
    refine WL.quiet (d := 4) rfl rfl rfl (q_assign rfl) ?_
    refine WL.quiet (d := 5) rfl rfl rfl (q_assign rfl) ?_
    refine WL.nil ?_
    refine WX.then ?_
    refine WC.ret ?_
    refine WX.thenRet ?_
    obtain rfl := Option.some.inj h
    refine WX.bpRet Try.results37 (.tmp rfl (.tmp rfl .nil)) (fun w hw => ?_)
    exact ⟨ret2 rfl rfl, hw.sub .nil⟩
  · replace h := ite_f h hb_32671
    refine WC.skip ?_
    refine WX.then ?_
    obtain ⟨k_32754, hk_32755, h⟩ := jp0_elim h
    refine WC.seqMid0 ((k_32754 = some r)) ([(0, (.slice ao_23792 l_23791.length cap_23793)), (1, (.int .i64 f_23795))]) ([]) ?_ ?_
    · skip
      refine WC.seq ?_
      refine WC.region ?_
      refine WL.quiet (d := 6) rfl rfl rfl (q_assign rfl) ?_
      refine WL.nil ?_
      refine WX.then ?_
      refine WC.block ?_
      refine WC.loop2 (fun (n_32784 : Nat) (i_32783 : Int) => (m_ref33_Midpoint_L2 l_23791 k_32754 n_32784 i_32783 = some r)) (fun (n_32784 : Nat) (i_32783 : Int) => [(0, (.slice ao_23792 l_23791.length cap_23793)), (1, (.int .i64 f_23795)), (6, (.int .i64 i_32783))]) (fun (n_32784 : Nat) (i_32783 : Int) => []) (fun (n_32784 : Nat) (i_32783 : Int) => n_32784) ⟨FUEL, 0⟩ h (.cons rfl (.cons rfl (.cons rfl .nil))) .nil ?_
      rintro n_32784 i_32783 h
      obtain ⟨n_32785, rfl⟩ := m_ref33_Midpoint_L2_fuel h
      rw [m_ref33_Midpoint_L2] at h
      refine WC.seq ?_
      refine WC.seq ?_
      refine WC.region ?_
      refine WL.quiet (d := 14) rfl rfl rfl (q_move rfl) ?_
      refine WL.quiet (d := 15) rfl rfl rfl (q_move rfl) ?_
      refine WL.quiet (d := 16) rfl rfl rfl (q_len Try.underlying22 rfl) ?_
      refine WL.quiet (d := 17) rfl rfl rfl (q_lss rfl rfl) ?_
      refine WL.nil ?_
      refine WX.then ?_
      refine WC.cond rfl (fun hb_32787 => ?_) (fun hb_32787 => ?_)
      · replace h := ite_t h hb_32787
        refine WC.skip ?_
        refine WX.then ?_
        refine WC.seq ?_
        refine WC.block ?_
        refine WC.seq ?_
        obtain ⟨c_32800, h⟩ := chk_elim h
        obtain ⟨x_32805, hx_32806, h⟩ := bind_elim h
        refine WC.region ?_
        refine WL.quiet (d := 20) rfl rfl rfl (q_move rfl) ?_
        refine WL.quiet (d := 21) rfl rfl rfl (q_move rfl) ?_
        refine WL.znth (dd := 22) rfl rfl (Z := Z) (Pr := (fun r x => r = e3 x)) elT_22 rfl rfl hs_23794 c_32800 ?_
        rintro A_32807 r_32808 hA_32809 hl_32810 rfl
        refine WL.quiet (d := 23) rfl rfl rfl (q_load1 oneT_3 rfl (rd_z hz.pv hA_32809 rfl)) ?_
        refine WL.callD (dd := 24) rfl rfl rfl (run_call (l := [.tmp 23]) Try.call52 (.cons rfl .nil)) (.nil : Sel [] [] []) (fun w hw => by have pz := (hz.call hw (.nil : Sel [] [] [])); exact w_ref33_In (Z := _)  (t_23828 := (nth l_23791 i_32783)) (r := x_32805) w pz  hx_32806) ?_
        refine WL.quiet (d := 25) rfl rfl rfl (q_not rfl) ?_
        refine WL.nil ?_
        refine WX.then ?_
        refine WC.cond rfl (fun hb_32811 => ?_) (fun hb_32811 => ?_)
        · replace h := ite_t h hb_32811
          refine WC.seq ?_
          refine WC.region ?_
          refine WL.quiet (d := 4) rfl rfl rfl (q_assign rfl) ?_
          refine WL.quiet (d := 5) rfl rfl rfl (q_assign rfl) ?_
          refine WL.nil ?_
          refine WX.then ?_
          refine WC.ret ?_
          refine WX.blockRet ?_
          refine WX.thenRet ?_
          refine WX.thenRet ?_
          refine WX.blockRet ?_
          refine WX.thenRet ?_
          obtain rfl := Option.some.inj h
          refine WX.bpRet Try.results37 (.tmp rfl (.tmp rfl .nil)) (fun w hw => ?_)
          exact ⟨ret2 rfl rfl, hw.sub .nil⟩
        · replace h := ite_f h hb_32811
          refine WC.skip ?_
          refine WX.blockNormal ?_
          refine WX.then ?_
          refine WC.region ?_
          refine WL.quiet (d := 18) rfl rfl rfl (q_move rfl) ?_
          refine WL.quiet (d := 19) rfl rfl rfl (q_add rfl rfl rfl) ?_
          refine WL.quiet (d := 6) rfl rfl rfl (q_assign rfl) ?_
          refine WL.nil ?_
          exact WX.round (G := Nat × Int) ⟨n_32785, (i64 (i_32783 + 1))⟩ h (Nat.lt_succ_self _) (.cons rfl (.cons rfl (.cons rfl .nil))) .nil
      · replace h := ite_f h hb_32787
        refine WC.exit ?_
        refine WX.thenExit ?_
        refine WX.thenExit ?_
        refine WX.blockHit ?_
        exact WX.mid (G := Unit) () h (.cons rfl (.cons rfl .nil)) .nil
    · rintro  h
      replace h := hk_32755.symm.trans h
      refine WC.seq ?_
      obtain ⟨x_32812, hx_32813, h⟩ := bind_elim h
      obtain ⟨x_32814, hx_32815, h⟩ := bind_elim h
      refine WC.region ?_
      refine WL.quiet (d := 26) rfl rfl rfl (q_move rfl) ?_
      refine WL.quiet (d := 27) rfl rfl rfl (q_move rfl) ?_
      refine WL.callD (dd := 28) rfl rfl rfl (run_call (l := [.tmp 26, .tmp 27]) Try.call53 (.cons rfl (.cons rfl .nil))) (.nil : Sel [] [] []) (fun w hw => by have pz := (hz.call hw (.nil : Sel [] [] [])); exact w_ref33_rank (Z := _) (ao_23968 := ao_23792) (cap_23969 := cap_23793) (l_23967 := l_23791) (k_23971 := f_23795) (r := x_32812) w pz hs_23794 hx_32813) ?_
      refine WL.quiet (d := 29) rfl rfl rfl (q_move rfl) ?_
      refine WL.quiet (d := 30) rfl rfl rfl (q_move rfl) ?_
      refine WL.quiet (d := 31) rfl rfl rfl (q_len Try.underlying22 rfl) ?_
      refine WL.quiet (d := 32) rfl rfl rfl (q_sub rfl rfl rfl) ?_
      refine WL.quiet (d := 33) rfl rfl rfl (q_move rfl) ?_
      refine WL.quiet (d := 34) rfl rfl rfl (q_sub rfl rfl rfl) ?_
      refine WL.callD (dd := 35) rfl rfl rfl (run_call (l := [.tmp 29, .tmp 34]) Try.call53 (.cons rfl (.cons rfl .nil))) (.nil : Sel [] [] []) (fun w hw => by have pz := (hz.call hw (.nil : Sel [] [] [])); exact w_ref33_rank (Z := _) (ao_23968 := ao_23792) (cap_23969 := cap_23793) (l_23967 := l_23791) (k_23971 := (i64 ((i64 (((l_23791.length : Nat) : Int) - 1)) - f_23795))) (r := x_32814) w pz hs_23794 hx_32815) ?_
      refine WL.quiet (d := 36) rfl rfl rfl (q_add rfl rfl rfl) ?_
      refine WL.quiet (d := 7) rfl rfl rfl (q_assign rfl) ?_
      refine WL.nil ?_
      refine WX.then ?_
      refine WC.seq ?_
      refine WC.region ?_
      refine WL.quiet (d := 37) rfl rfl rfl (q_move rfl) ?_
      refine WL.quiet (d := 38) rfl rfl rfl (q_quo rfl rfl (by decide) rfl) ?_
      refine WL.quiet (d := 8) rfl rfl rfl (q_assign rfl) ?_
      refine WL.nil ?_
      refine WX.then ?_
      obtain ⟨k_32820, hk_32821, h⟩ := jp1_elim h
      refine WC.seqMid1 (fun (half_32819 : Int) => (k_32820 half_32819 = some r)) (fun (half_32819 : Int) => [(8, (.int .i64 half_32819))]) (fun (half_32819 : Int) => []) ?_ ?_
      · skip
        refine WC.seq ?_
        refine WC.region ?_
        refine WL.quiet (d := 39) rfl rfl rfl (q_move rfl) ?_
        refine WL.quiet (d := 40) rfl rfl rfl (q_lss rfl rfl) ?_
        refine WL.quiet (d := 41) rfl rfl rfl (q_move rfl) ?_
        refine WL.cut0 True [(8, (.int .i64 (i64 (Int.tdiv (i64 (x_32812 + x_32814)) 2)))), (45, (.bool ((decide ((i64 (x_32812 + x_32814)) < 0)) && (decide ((Int.tmod (i64 (x_32812 + x_32814)) 2) ≠ 0)))))] [] 4 ?_ (fun _ => ?_)
        · rcases Bool.eq_false_or_eq_true (decide ((i64 (x_32812 + x_32814)) < 0)) with hb' | hb'
          · have hg_32822 := hb'; clear hb'
            refine WL.pin (i := 41) rfl hg_32822 ?_
            refine WL.quiet (d := 42) rfl rfl rfl (q_move rfl) ?_
            refine WL.quiet (d := 43) rfl rfl rfl (q_rem rfl rfl (by decide) rfl) ?_
            refine WL.quiet (d := 44) rfl rfl rfl (q_neq rfl rfl) ?_
            refine WL.quiet (d := 45) rfl rfl rfl (q_pickT rfl rfl) ?_
            exact WL.cutEnd () trivial (.cons rfl (.cons (some_bool (and_r hg_32822)) .nil)) .nil
          · have hg_32823 := hb'; clear hb'
            refine WL.pin (i := 41) rfl hg_32823 ?_
            refine WL.skip rfl rfl rfl ?_
            refine WL.skip rfl rfl rfl ?_
            refine WL.skip rfl rfl rfl ?_
            refine WL.quiet (d := 45) rfl rfl rfl (q_pickF rfl rfl) ?_
            exact WL.cutEnd () trivial (.cons rfl (.cons (some_bool (and_l hg_32823)) .nil)) .nil
        · skip
          refine WL.nil ?_
          refine WX.then ?_
          refine WC.cond rfl (fun hb_32824 => ?_) (fun hb_32824 => ?_)
          · replace h := ite_t h hb_32824
            refine WC.region ?_
            refine WL.quiet (d := 46) rfl rfl rfl (q_move rfl) ?_
            refine WL.quiet (d := 47) rfl rfl rfl (q_sub rfl rfl rfl) ?_
            refine WL.quiet (d := 8) rfl rfl rfl (q_assign rfl) ?_
            refine WL.nil ?_
            exact WX.mid (G := Int) (i64 ((i64 (Int.tdiv (i64 (x_32812 + x_32814)) 2)) - 1)) h (.cons rfl .nil) .nil
          · replace h := ite_f h hb_32824
            refine WC.skip ?_
            exact WX.mid (G := Int) (i64 (Int.tdiv (i64 (x_32812 + x_32814)) 2)) h (.cons rfl .nil) .nil
      · rintro half_32819 h
        replace h := (hk_32821 half_32819).symm.trans h
        refine WC.seq ?_
        refine WC.region ?_
        refine WL.quiet (d := 48) rfl rfl rfl (q_move rfl) ?_
        refine WL.quiet (d := 4) rfl rfl rfl (q_assign rfl) ?_
        refine WL.quiet (d := 5) rfl rfl rfl (q_assign rfl) ?_
        refine WL.nil ?_
        refine WX.then ?_
        refine WC.ret ?_
        obtain rfl := Option.some.inj h
        refine WX.bpRet Try.results37 (.tmp rfl (.tmp rfl .nil)) (fun w hw => ?_)
        exact ⟨ret2 rfl rfl, hw.sub .nil⟩
def m_ref34_Round_L2 (reads_23776 : List (List Int)) (f_23780 : Int) (k_33309 : (List Int) → Option (List Int × Int)) : Nat → (List Int) → Int → Option (List Int × Int)
  | 0, _, _ => none
  | n_33377 + 1, out_33371, i_33374 => if decide (i_33374 < ((reads_23776.length : Nat) : Int)) then chk ((0 : Int) ≤ i_33374 ∧ i_33374 < ((reads_23776.length : Nat) : Int)) ((m_ref33_Midpoint (nth reads_23776 i_33374) f_23780).bind fun x_33414 => if decide (x_33414.2 ≠ 0) then some (([] : List Int), 2) else chk ((((out_33371 ++ ([x_33414.1] : List Int)).length : Nat) : Int) * 8 ≤ 140737488355328 ∧ (((out_33371 ++ ([x_33414.1] : List Int)).length : Nat) : Int) ≤ 4611686018427387904) (m_ref34_Round_L2 reads_23776 f_23780 k_33309 n_33377 (out_33371 ++ ([x_33414.1] : List Int)) (i64 (i_33374 + 1)))) else k_33309 out_33371
theorem m_ref34_Round_L2_fuel {n : Nat} {reads_23776 : List (List Int)} {f_23780 : Int} {k_33309 : (List Int) → Option (List Int × Int)} {out_33371 : List Int} {i_33374 : Int} {r : List Int × Int} (h : m_ref34_Round_L2 reads_23776 f_23780 k_33309 n out_33371 i_33374 = some r) : ∃ m, n = m + 1 := by
  cases n with
  | zero => cases h
  | succ m => exact ⟨m, rfl⟩

/-- nacelleref34.Round -/
def m_ref34_Round (reads_23776 : List (List Int)) (f_23780 : Int) : Option (List Int × Int) :=
  jp1 (fun (out_33306 : List Int) => if decide (((out_33306.length : Nat) : Int) = 0) then some (([] : List Int), 2) else some (out_33306, 0)) fun k_33309 => m_ref34_Round_L2 reads_23776 f_23780 k_33309 FUEL ([] : List Int) 0

set_option maxRecDepth 20000 in
theorem w_ref34_Round (Z : Zp)  (ao_23777 : Option Addr) (cap_23778 : Nat) (reads_23776 : List (List Int)) (f_23780 : Int) (r : List Int × Int) (w₀ : World) (hz : PZ [] w₀ Z)
    (hs_23779 : ZS Z 1 (p22 Z) ao_23777 cap_23778 reads_23776)
    (h : m_ref34_Round reads_23776 f_23780 = some r) :
    Calls Try.prog 25 #[(.slice ao_23777 reads_23776.length cap_23778), (.int .i64 f_23780)] w₀ fun e w' => ∃ ao_33124 : Option Addr, ∃ cap_33125 : Nat, e = .returned (.tuple #[(.slice ao_33124 r.1.length cap_33125), (.int .i64 r.2)]) ∧ True ∧ Hp [] w₀ w' [row (.slice ao_33124 r.1.length cap_33125) 3 1 (r.1.flatMap e3)] := by
  unfold m_ref34_Round at h
  refine Calls.ofWC (vs := [(.slice ao_23777 reads_23776.length cap_23778), (.int .i64 f_23780)]) (pre := []) (env := [(0, (.slice ao_23777 reads_23776.length cap_23778)), (1, (.int .i64 f_23780))]) Try.func25 rfl Try.ntmps25 rfl (Hp.nil w₀ _) rfl ?_
  refine WC.seq ?_
  refine WC.region ?_
  refine WL.quiet (d := 4) rfl rfl rfl (q_assign rfl) ?_
  refine WL.quiet (d := 5) rfl rfl rfl (q_assign rfl) ?_
  refine WL.nil ?_
  refine WX.then ?_
  refine WC.seq ?_
  refine WC.region ?_
  refine WL.quiet (d := 6) rfl rfl rfl (q_assign rfl) ?_
  refine WL.nil ?_
  refine WX.then ?_
  obtain ⟨k_33309, hk_33310, h⟩ := jp1_elim h
  refine WC.seqMid3 (fun (out_33306 : List Int) (ao_33307 : Option Addr) (cap_33308 : Nat) => (k_33309 out_33306 = some r)) (fun (out_33306 : List Int) (ao_33307 : Option Addr) (cap_33308 : Nat) => [(6, (.slice ao_33307 out_33306.length cap_33308))]) (fun (out_33306 : List Int) (ao_33307 : Option Addr) (cap_33308 : Nat) => [row (.slice ao_33307 out_33306.length cap_33308) 3 1 (out_33306.flatMap e3)]) ?_ ?_
  · skip
    refine WC.seq ?_
    refine WC.region ?_
    refine WL.quiet (d := 7) rfl rfl rfl (q_assign rfl) ?_
    refine WL.nil ?_
    refine WX.then ?_
    refine WC.block ?_
    refine WC.nilRow 3 1 ?_
    refine WC.loop5 (fun (n_33375 : Nat) (out_33371 : List Int) (i_33374 : Int) (ao_33372 : Option Addr) (cap_33373 : Nat) => (m_ref34_Round_L2 reads_23776 f_23780 k_33309 n_33375 out_33371 i_33374 = some r)) (fun (n_33375 : Nat) (out_33371 : List Int) (i_33374 : Int) (ao_33372 : Option Addr) (cap_33373 : Nat) => [(0, (.slice ao_23777 reads_23776.length cap_23778)), (1, (.int .i64 f_23780)), (6, (.slice ao_33372 out_33371.length cap_33373)), (7, (.int .i64 i_33374))]) (fun (n_33375 : Nat) (out_33371 : List Int) (i_33374 : Int) (ao_33372 : Option Addr) (cap_33373 : Nat) => [row (.slice ao_33372 out_33371.length cap_33373) 3 1 (out_33371.flatMap e3)]) (fun (n_33375 : Nat) (out_33371 : List Int) (i_33374 : Int) (ao_33372 : Option Addr) (cap_33373 : Nat) => n_33375) ⟨FUEL, ([] : List Int), 0, none, 0⟩ h (.cons rfl (.cons rfl (.cons rfl (.cons rfl .nil)))) (.cons .here .nil) ?_
    rintro n_33375 out_33371 i_33374 ao_33372 cap_33373 h
    obtain ⟨n_33377, rfl⟩ := m_ref34_Round_L2_fuel h
    rw [m_ref34_Round_L2] at h
    refine WC.seq ?_
    refine WC.seq ?_
    refine WC.region ?_
    refine WL.quiet (d := 10) rfl rfl rfl (q_move rfl) ?_
    refine WL.quiet (d := 11) rfl rfl rfl (q_move rfl) ?_
    refine WL.quiet (d := 12) rfl rfl rfl (q_len Try.underlying30 rfl) ?_
    refine WL.quiet (d := 13) rfl rfl rfl (q_lss rfl rfl) ?_
    refine WL.nil ?_
    refine WX.then ?_
    refine WC.cond rfl (fun hb_33379 => ?_) (fun hb_33379 => ?_)
    · replace h := ite_t h hb_33379
      refine WC.skip ?_
      refine WX.then ?_
      refine WC.seq ?_
      refine WC.block ?_
      refine WC.seq ?_
      obtain ⟨c_33406, h⟩ := chk_elim h
      obtain ⟨x_33414, hx_33415, h⟩ := bind_elim h
      refine WC.region ?_
      refine WL.quiet (d := 17) rfl rfl rfl (q_move rfl) ?_
      refine WL.quiet (d := 18) rfl rfl rfl (q_move rfl) ?_
      refine WL.znth (dd := 19) rfl rfl (Z := Z) (Pr := (p22 Z)) elT_30 rfl rfl hs_23779 c_33406 ?_
      rintro A_33416 r_33417 hA_33418 hl_33419 ⟨ao_33420, cap_33421, rfl, hs_33422⟩
      refine WL.quiet (d := 20) rfl rfl rfl (q_load1 oneT_22 rfl (rd_z hz.pv hA_33418 rfl)) ?_
      refine WL.quiet (d := 21) rfl rfl rfl (q_move rfl) ?_
      refine WL.callD (dd := 22) rfl rfl rfl (run_call (l := [.tmp 20, .tmp 21]) Try.call37 (.cons rfl (.cons rfl .nil))) (.nil : Sel [row (.slice ao_33372 out_33371.length cap_33373) 3 1 (out_33371.flatMap e3)] [] [row (.slice ao_33372 out_33371.length cap_33373) 3 1 (out_33371.flatMap e3)]) (fun w hw => by have pz := (hz.call hw (.nil : Sel [row (.slice ao_33372 out_33371.length cap_33373) 3 1 (out_33371.flatMap e3)] [] [row (.slice ao_33372 out_33371.length cap_33373) 3 1 (out_33371.flatMap e3)])); exact w_ref33_Midpoint (Z := _) (ao_23792 := ao_33420) (cap_23793 := cap_33421) (l_23791 := (nth reads_23776 i_33374)) (f_23795 := f_23780) (r := x_33414) w pz hs_33422 hx_33415) ?_
      refine WL.quiet (d := 16) rfl rfl rfl (q_move rfl) ?_
      refine WL.quiet (d := 23) rfl rfl rfl (q_extract rfl rfl) ?_
      refine WL.quiet (d := 24) rfl rfl rfl (q_extract rfl rfl) ?_
      refine WL.quiet (d := 8) rfl rfl rfl (q_assign rfl) ?_
      refine WL.quiet (d := 9) rfl rfl rfl (q_assign rfl) ?_
      refine WL.nil ?_
      refine WX.then ?_
      refine WC.seq ?_
      refine WC.seq ?_
      refine WC.region ?_
      refine WL.quiet (d := 25) rfl rfl rfl (q_move rfl) ?_
      refine WL.quiet (d := 26) rfl rfl rfl (q_neq rfl rfl) ?_
      refine WL.nil ?_
      refine WX.then ?_
      refine WC.cond rfl (fun hb_33424 => ?_) (fun hb_33424 => ?_)
      · replace h := ite_t h hb_33424
        refine WC.seq ?_
        refine WC.region ?_
        refine WL.quiet (d := 4) rfl rfl rfl (q_assign rfl) ?_
        refine WL.quiet (d := 5) rfl rfl rfl (q_assign rfl) ?_
        refine WL.nil ?_
        refine WX.then ?_
        refine WC.ret ?_
        refine WX.thenRet ?_
        refine WX.blockRet ?_
        refine WX.thenRet ?_
        refine WX.thenRet ?_
        refine WX.blockRet ?_
        refine WX.thenRet ?_
        refine WX.nilRow 3 1 ?_
        obtain rfl := Option.some.inj h
        refine WX.bpRet Try.results25 (.tmp rfl (.tmp rfl .nil)) (fun w hw => ?_)
        exact ⟨none, 0, ret2 rfl rfl, trivial, hw.sub (.cons .here .nil)⟩
      · replace h := ite_f h hb_33424
        refine WC.skip ?_
        refine WX.then ?_
        obtain ⟨c_33427, h⟩ := chk_elim h
        refine WC.region ?_
        refine WL.quiet (d := 27) rfl rfl rfl (q_move rfl) ?_
        refine WL.quiet (d := 28) rfl rfl rfl (q_move rfl) ?_
        refine WL.new (dd := 29) rfl rfl rfl (e_buildSlice (cs := ([x_33414.1] : List Int).flatMap e3) elT_22 (Eos.parts (l := [.tmp 28]) (.cons rfl .nil) [0]) (fun _ => by kernel_rfl) rfl (by unfold maxLen; omega)) ?_
        intro b_33430 _
        refine WL.eff (d := 30) rfl rfl rfl (e_appendF (enc := e3) (l1 := out_33371) (l2 := ([x_33414.1] : List Int)) elT_22 rfl rfl (.there .here) (fun _ => rfl) rfl rfl (news_row .here) (oc_flat e3_oc _) c_33427) ?_
        rintro ⟨ao_33431, cap_33432⟩ _
        refine WL.quiet (d := 6) rfl rfl rfl (q_assign rfl) ?_
        refine WL.nil ?_
        refine WX.blockNormal ?_
        refine WX.then ?_
        refine WC.region ?_
        refine WL.quiet (d := 14) rfl rfl rfl (q_move rfl) ?_
        refine WL.quiet (d := 15) rfl rfl rfl (q_add rfl rfl rfl) ?_
        refine WL.quiet (d := 7) rfl rfl rfl (q_assign rfl) ?_
        refine WL.nil ?_
        exact WX.round (G := Nat × List Int × Int × Option Addr × Nat) ⟨n_33377, (out_33371 ++ ([x_33414.1] : List Int)), (i64 (i_33374 + 1)), ao_33431, cap_33432⟩ h (Nat.lt_succ_self _) (.cons rfl (.cons rfl (.cons rfl (.cons rfl .nil)))) (.cons .here .nil)
    · replace h := ite_f h hb_33379
      refine WC.exit ?_
      refine WX.thenExit ?_
      refine WX.thenExit ?_
      refine WX.blockHit ?_
      exact WX.mid (G := List Int × Option Addr × Nat) ⟨out_33371, ao_33372, cap_33373⟩ h (.cons rfl .nil) (.cons .here .nil)
  · rintro out_33306 ao_33307 cap_33308 h
    replace h := (hk_33310 out_33306).symm.trans h
    refine WC.seq ?_
    refine WC.seq ?_
    refine WC.region ?_
    refine WL.quiet (d := 31) rfl rfl rfl (q_move rfl) ?_
    refine WL.quiet (d := 32) rfl rfl rfl (q_len Try.underlying22 rfl) ?_
    refine WL.quiet (d := 33) rfl rfl rfl (q_eql rfl rfl) ?_
    refine WL.nil ?_
    refine WX.then ?_
    refine WC.cond rfl (fun hb_33434 => ?_) (fun hb_33434 => ?_)
    · replace h := ite_t h hb_33434
      refine WC.seq ?_
      refine WC.region ?_
      refine WL.quiet (d := 4) rfl rfl rfl (q_assign rfl) ?_
      refine WL.quiet (d := 5) rfl rfl rfl (q_assign rfl) ?_
      refine WL.nil ?_
      refine WX.then ?_
      refine WC.ret ?_
      refine WX.thenRet ?_
      refine WX.nilRow 3 1 ?_
      obtain rfl := Option.some.inj h
      refine WX.bpRet Try.results25 (.tmp rfl (.tmp rfl .nil)) (fun w hw => ?_)
      exact ⟨none, 0, ret2 rfl rfl, trivial, hw.sub (.cons .here .nil)⟩
    · replace h := ite_f h hb_33434
      refine WC.skip ?_
      refine WX.then ?_
      refine WC.seq ?_
      refine WC.region ?_
      refine WL.quiet (d := 34) rfl rfl rfl (q_move rfl) ?_
      refine WL.quiet (d := 4) rfl rfl rfl (q_assign rfl) ?_
      refine WL.quiet (d := 5) rfl rfl rfl (q_assign rfl) ?_
      refine WL.nil ?_
      refine WX.then ?_
      refine WC.ret ?_
      obtain rfl := Option.some.inj h
      refine WX.bpRet Try.results25 (.tmp rfl (.tmp rfl .nil)) (fun w hw => ?_)
      exact ⟨ao_33307, cap_33308, ret2 rfl rfl, trivial, hw.sub (.cons .here .nil)⟩
def m_ref34_Run_L4 (s_22962 : Stimebase_Setup) (r_45347 : Int) (k_46100 : (List (List Int)) → (List Int) → Option (List (List Int))) : Nat → (List (List Int)) → (List Int) → Int → Option (List (List Int))
  | 0, _, _, _ => none
  | n_46248 + 1, out_46236, now_46242, i_46245 => if decide (i_46245 < ((s_22962.fStart.length : Nat) : Int)) then chk ((0 : Int) ≤ r_45347 ∧ r_45347 < ((out_46236.length : Nat) : Int)) (chk ((0 : Int) ≤ i_46245 ∧ i_46245 < (((nth out_46236 r_45347).length : Nat) : Int)) (chk ((0 : Int) ≤ i_46245 ∧ i_46245 < ((s_22962.fDrift.length : Nat) : Int)) (chk ((((now_46242 ++ ([i64 ((nth (nth out_46236 r_45347) i_46245) + (nth s_22962.fDrift i_46245))] : List Int)).length : Nat) : Int) * 8 ≤ 140737488355328 ∧ (((now_46242 ++ ([i64 ((nth (nth out_46236 r_45347) i_46245) + (nth s_22962.fDrift i_46245))] : List Int)).length : Nat) : Int) ≤ 4611686018427387904) (m_ref34_Run_L4 s_22962 r_45347 k_46100 n_46248 out_46236 (now_46242 ++ ([i64 ((nth (nth out_46236 r_45347) i_46245) + (nth s_22962.fDrift i_46245))] : List Int)) (i64 (i_46245 + 1)))))) else k_46100 out_46236 now_46242
theorem m_ref34_Run_L4_fuel {n : Nat} {s_22962 : Stimebase_Setup} {r_45347 : Int} {k_46100 : (List (List Int)) → (List Int) → Option (List (List Int))} {out_46236 : List (List Int)} {now_46242 : List Int} {i_46245 : Int} {r : List (List Int)} (h : m_ref34_Run_L4 s_22962 r_45347 k_46100 n out_46236 now_46242 i_46245 = some r) : ∃ m, n = m + 1 := by
  cases n with
  | zero => cases h
  | succ m => exact ⟨m, rfl⟩

def m_ref34_Run_L3 (rounds_22978 : Int) (s_22962 : Stimebase_Setup) (k_42984 : (List (List Int)) → Option (List (List Int))) : Nat → (List (List Int)) → Int → Option (List (List Int))
  | 0, _, _ => none
  | n_45349 + 1, out_45342, r_45347 => if decide (r_45347 < rounds_22978) then jp1 (fun (out_46085 : List (List Int)) => m_ref34_Run_L3 rounds_22978 s_22962 k_42984 n_45349 out_46085 (i64 (r_45347 + 1))) fun k_46090 => jp2 (fun (out_46092 : List (List Int)) (now_46097 : List Int) => (m_ref34_Reads s_22962 now_46097 r_45347).bind fun x_46376 => (m_ref34_Round x_46376 s_22962.fF).bind fun x_46385 => chk ((((out_46092 ++ ([x_46385.1] : List (List Int))).length : Nat) : Int) * 24 ≤ 140737488355328 ∧ (((out_46092 ++ ([x_46385.1] : List (List Int))).length : Nat) : Int) ≤ 4611686018427387904) (k_46090 (out_46092 ++ ([x_46385.1] : List (List Int))))) fun k_46100 => m_ref34_Run_L4 s_22962 r_45347 k_46100 FUEL out_45342 ([] : List Int) 0 else k_42984 out_45342
theorem m_ref34_Run_L3_fuel {n : Nat} {rounds_22978 : Int} {s_22962 : Stimebase_Setup} {k_42984 : (List (List Int)) → Option (List (List Int))} {out_45342 : List (List Int)} {r_45347 : Int} {r : List (List Int)} (h : m_ref34_Run_L3 rounds_22978 s_22962 k_42984 n out_45342 r_45347 = some r) : ∃ m, n = m + 1 := by
  cases n with
  | zero => cases h
  | succ m => exact ⟨m, rfl⟩

/-- nacelleref34.Run -/
def m_ref34_Run (s_22962 : Stimebase_Setup) (rounds_22978 : Int) : Option (List (List Int)) :=
  jp1 (fun (out_42979 : List (List Int)) => some out_42979) fun k_42984 => m_ref34_Run_L3 rounds_22978 s_22962 k_42984 FUEL ([s_22962.fStart] : List (List Int)) 0

set_option maxRecDepth 20000 in
theorem w_ref34_Run (Z : Zp)  (ao_22963 : Option Addr) (cap_22964 : Nat) (ao_22966 : Option Addr) (cap_22967 : Nat) (ao_22969 : Option Addr) (cap_22970 : Nat) (ao_22972 : Option Addr) (cap_22973 : Nat) (ao_22975 : Option Addr) (cap_22976 : Nat) (s_22962 : Stimebase_Setup) (rounds_22978 : Int) (r : List (List Int)) (w₀ : World) (hz : PZ [] w₀ Z)
    (hs_22965 : ZS Z 1 (fun r x => r = e3 x) ao_22963 cap_22964 s_22962.fStart)
    (hs_22968 : ZS Z 1 (fun r x => r = e3 x) ao_22966 cap_22967 s_22962.fDrift)
    (hs_22971 : ZS Z 1 (fun r x => r = e3 x) ao_22969 cap_22970 s_22962.fFaulty)
    (hs_22974 : ZS Z 1 (fun r x => r = e3 x) ao_22972 cap_22973 s_22962.fErrs)
    (hs_22977 : ZS Z 1 (fun r x => r = e3 x) ao_22975 cap_22976 s_22962.fLies)
    (h : m_ref34_Run s_22962 rounds_22978 = some r) :
    Calls Try.prog 22 #[(.agg #[(.slice ao_22963 s_22962.fStart.length cap_22964), (.slice ao_22966 s_22962.fDrift.length cap_22967), (.slice ao_22969 s_22962.fFaulty.length cap_22970), (.int .i64 s_22962.fF), (.int .i64 s_22962.fE), (.slice ao_22972 s_22962.fErrs.length cap_22973), (.slice ao_22975 s_22962.fLies.length cap_22976)]), (.int .i64 rounds_22978)] w₀ fun e w' => ∃ Zn : Zp, ∃ ao_39529 : Option Addr, ∃ cap_39530 : Nat, ∃ cs_39531 : List Value, e = .returned (.slice ao_39529 r.length cap_39530) ∧ (RR 1 (p22 (Z ++ Zn)) cs_39531 r) ∧ Hp [] w₀ w' [fz Zn, row (.slice ao_39529 r.length cap_39530) 22 1 cs_39531] := by
  unfold m_ref34_Run at h
  refine Calls.ofWC (vs := [(.agg #[(.slice ao_22963 s_22962.fStart.length cap_22964), (.slice ao_22966 s_22962.fDrift.length cap_22967), (.slice ao_22969 s_22962.fFaulty.length cap_22970), (.int .i64 s_22962.fF), (.int .i64 s_22962.fE), (.slice ao_22972 s_22962.fErrs.length cap_22973), (.slice ao_22975 s_22962.fLies.length cap_22976)]), (.int .i64 rounds_22978)]) (pre := []) (env := [(0, (.agg #[(.slice ao_22963 s_22962.fStart.length cap_22964), (.slice ao_22966 s_22962.fDrift.length cap_22967), (.slice ao_22969 s_22962.fFaulty.length cap_22970), (.int .i64 s_22962.fF), (.int .i64 s_22962.fE), (.slice ao_22972 s_22962.fErrs.length cap_22973), (.slice ao_22975 s_22962.fLies.length cap_22976)])), (1, (.int .i64 rounds_22978))]) Try.func22 rfl Try.ntmps22 rfl (Hp.nil w₀ _) rfl ?_
  refine WC.pool ?_
  refine WC.seq ?_
  refine WC.region ?_
  refine WL.new (dd := 2) rfl rfl rfl (e_box (cs := [(.slice ao_22963 s_22962.fStart.length cap_22964), (.slice ao_22966 s_22962.fDrift.length cap_22967), (.slice ao_22969 s_22962.fFaulty.length cap_22970), (.int .i64 s_22962.fF), (.int .i64 s_22962.fE), (.slice ao_22972 s_22962.fErrs.length cap_22973), (.slice ao_22975 s_22962.fLies.length cap_22976)]) rfl rfl) ?_
  intro b_39534 _
  refine WL.quiet (d := 4) rfl rfl rfl (q_assign rfl) ?_
  refine WL.nil ?_
  refine WX.then ?_
  refine WC.seq ?_
  refine WC.region ?_
  refine WL.quiet (d := 11) rfl rfl rfl (q_fieldAddr fo_27_0 rfl rfl) ?_
  refine WL.quiet (d := 12) rfl rfl rfl (q_load1 oneT_22 rfl (rd_stb .here rfl)) ?_
  have rel_39539 : RR 1 (p22 (Z ++ [])) [(.slice ao_22963 s_22962.fStart.length cap_22964)] ([s_22962.fStart] : List (List Int)) := (RR.cons (r := [(.slice ao_22963 s_22962.fStart.length cap_22964)]) rfl (show p22 _ _ _ from ⟨_, _, rfl, (hs_22965.mono (Zle.left _ _))⟩) (RR.nil _ _))
  refine WL.new (dd := 13) rfl rfl rfl (e_buildSlice (cs := [(.slice ao_22963 s_22962.fStart.length cap_22964)]) elT_30 (Eos.parts (l := [.tmp 12]) (.cons rfl .nil) [0]) (fun _ => by kernel_rfl) rfl (by unfold maxLen; omega)) ?_
  intro b_39538 _
  refine WL.quiet (d := 5) rfl rfl rfl (q_assign rfl) ?_
  refine WL.nil ?_
  refine WX.then ?_
  obtain ⟨k_42984, hk_42985, h⟩ := jp1_elim h
  refine WC.seqMid5 (fun (out_42979 : List (List Int)) (Zn_42977 : Zp) (ao_42980 : Option Addr) (cap_42981 : Nat) (cs_42982 : List Value) => (k_42984 out_42979 = some r) ∧ (Zle (Z ++ []) (Z ++ Zn_42977)) ∧ (RR 1 (p22 (Z ++ Zn_42977)) cs_42982 out_42979)) (fun (out_42979 : List (List Int)) (Zn_42977 : Zp) (ao_42980 : Option Addr) (cap_42981 : Nat) (cs_42982 : List Value) => [(5, (.slice ao_42980 out_42979.length cap_42981))]) (fun (out_42979 : List (List Int)) (Zn_42977 : Zp) (ao_42980 : Option Addr) (cap_42981 : Nat) (cs_42982 : List Value) => [fz Zn_42977, row (.slice ao_42980 out_42979.length cap_42981) 22 1 cs_42982]) ?_ ?_
  · skip
    refine WC.seq ?_
    refine WC.region ?_
    refine WL.quiet (d := 6) rfl rfl rfl (q_assign rfl) ?_
    refine WL.nil ?_
    refine WX.then ?_
    refine WC.block ?_
    refine WC.loop7 (fun (n_45348 : Nat) (out_45342 : List (List Int)) (r_45347 : Int) (Zn_45340 : Zp) (ao_45343 : Option Addr) (cap_45344 : Nat) (cs_45345 : List Value) => (m_ref34_Run_L3 rounds_22978 s_22962 k_42984 n_45348 out_45342 r_45347 = some r) ∧ (Zle (Z ++ []) (Z ++ Zn_45340)) ∧ (RR 1 (p22 (Z ++ Zn_45340)) cs_45345 out_45342)) (fun (n_45348 : Nat) (out_45342 : List (List Int)) (r_45347 : Int) (Zn_45340 : Zp) (ao_45343 : Option Addr) (cap_45344 : Nat) (cs_45345 : List Value) => [(1, (.int .i64 rounds_22978)), (2, (.pointer (some ⟨b_39534, 0, none⟩))), (5, (.slice ao_45343 out_45342.length cap_45344)), (6, (.int .i64 r_45347))]) (fun (n_45348 : Nat) (out_45342 : List (List Int)) (r_45347 : Int) (Zn_45340 : Zp) (ao_45343 : Option Addr) (cap_45344 : Nat) (cs_45345 : List Value) => [fz Zn_45340, row (.slice ao_45343 out_45342.length cap_45344) 22 1 cs_45345, stb b_39534 27 [(.slice ao_22963 s_22962.fStart.length cap_22964), (.slice ao_22966 s_22962.fDrift.length cap_22967), (.slice ao_22969 s_22962.fFaulty.length cap_22970), (.int .i64 s_22962.fF), (.int .i64 s_22962.fE), (.slice ao_22972 s_22962.fErrs.length cap_22973), (.slice ao_22975 s_22962.fLies.length cap_22976)]]) (fun (n_45348 : Nat) (out_45342 : List (List Int)) (r_45347 : Int) (Zn_45340 : Zp) (ao_45343 : Option Addr) (cap_45344 : Nat) (cs_45345 : List Value) => n_45348) ⟨FUEL, ([s_22962.fStart] : List (List Int)), 0, [], (some ⟨b_39538, 0, none⟩), 1, [(.slice ao_22963 s_22962.fStart.length cap_22964)]⟩ ⟨h, (Zle.refl _), rel_39539⟩ (.cons rfl (.cons rfl (.cons rfl (.cons rfl .nil)))) (.cons (.there (.there .here)) (.cons .here (.cons .here .nil))) ?_
    rintro n_45348 out_45342 r_45347 Zn_45340 ao_45343 cap_45344 cs_45345 ⟨h, hle_45341, rel_45346⟩
    obtain ⟨n_45349, rfl⟩ := m_ref34_Run_L3_fuel h
    rw [m_ref34_Run_L3] at h
    refine WC.seq ?_
    refine WC.seq ?_
    refine WC.region ?_
    refine WL.quiet (d := 14) rfl rfl rfl (q_move rfl) ?_
    refine WL.quiet (d := 15) rfl rfl rfl (q_move rfl) ?_
    refine WL.quiet (d := 16) rfl rfl rfl (q_lss rfl rfl) ?_
    refine WL.nil ?_
    refine WX.then ?_
    refine WC.cond rfl (fun hb_45351 => ?_) (fun hb_45351 => ?_)
    · replace h := ite_t h hb_45351
      refine WC.skip ?_
      refine WX.then ?_
      obtain ⟨k_46090, hk_46091, h⟩ := jp1_elim h
      refine WC.seqMid5 (fun (out_46085 : List (List Int)) (Zn_46083 : Zp) (ao_46086 : Option Addr) (cap_46087 : Nat) (cs_46088 : List Value) => (k_46090 out_46085 = some r) ∧ (Zle (Z ++ Zn_45340) (Z ++ Zn_46083)) ∧ (RR 1 (p22 (Z ++ Zn_46083)) cs_46088 out_46085)) (fun (out_46085 : List (List Int)) (Zn_46083 : Zp) (ao_46086 : Option Addr) (cap_46087 : Nat) (cs_46088 : List Value) => [(1, (.int .i64 rounds_22978)), (2, (.pointer (some ⟨b_39534, 0, none⟩))), (5, (.slice ao_46086 out_46085.length cap_46087)), (6, (.int .i64 r_45347))]) (fun (out_46085 : List (List Int)) (Zn_46083 : Zp) (ao_46086 : Option Addr) (cap_46087 : Nat) (cs_46088 : List Value) => [fz Zn_46083, row (.slice ao_46086 out_46085.length cap_46087) 22 1 cs_46088, stb b_39534 27 [(.slice ao_22963 s_22962.fStart.length cap_22964), (.slice ao_22966 s_22962.fDrift.length cap_22967), (.slice ao_22969 s_22962.fFaulty.length cap_22970), (.int .i64 s_22962.fF), (.int .i64 s_22962.fE), (.slice ao_22972 s_22962.fErrs.length cap_22973), (.slice ao_22975 s_22962.fLies.length cap_22976)]]) ?_ ?_
      · skip
        refine WC.block ?_
        refine WC.seq ?_
        refine WC.region ?_
        refine WL.quiet (d := 7) rfl rfl rfl (q_assign rfl) ?_
        refine WL.nil ?_
        refine WX.then ?_
        obtain ⟨k_46100, hk_46101, h⟩ := jp2_elim h
        refine WC.seqMid7 (fun (out_46092 : List (List Int)) (now_46097 : List Int) (ao_46093 : Option Addr) (cap_46094 : Nat) (cs_46095 : List Value) (ao_46098 : Option Addr) (cap_46099 : Nat) => (k_46100 out_46092 now_46097 = some r) ∧ (RR 1 (p22 (Z ++ Zn_45340)) cs_46095 out_46092)) (fun (out_46092 : List (List Int)) (now_46097 : List Int) (ao_46093 : Option Addr) (cap_46094 : Nat) (cs_46095 : List Value) (ao_46098 : Option Addr) (cap_46099 : Nat) => [(1, (.int .i64 rounds_22978)), (2, (.pointer (some ⟨b_39534, 0, none⟩))), (5, (.slice ao_46093 out_46092.length cap_46094)), (6, (.int .i64 r_45347)), (7, (.slice ao_46098 now_46097.length cap_46099))]) (fun (out_46092 : List (List Int)) (now_46097 : List Int) (ao_46093 : Option Addr) (cap_46094 : Nat) (cs_46095 : List Value) (ao_46098 : Option Addr) (cap_46099 : Nat) => [fz Zn_45340, row (.slice ao_46093 out_46092.length cap_46094) 22 1 cs_46095, row (.slice ao_46098 now_46097.length cap_46099) 3 1 (now_46097.flatMap e3), stb b_39534 27 [(.slice ao_22963 s_22962.fStart.length cap_22964), (.slice ao_22966 s_22962.fDrift.length cap_22967), (.slice ao_22969 s_22962.fFaulty.length cap_22970), (.int .i64 s_22962.fF), (.int .i64 s_22962.fE), (.slice ao_22972 s_22962.fErrs.length cap_22973), (.slice ao_22975 s_22962.fLies.length cap_22976)]]) ?_ ?_
        · skip
          refine WC.seq ?_
          refine WC.region ?_
          refine WL.quiet (d := 8) rfl rfl rfl (q_assign rfl) ?_
          refine WL.nil ?_
          refine WX.then ?_
          refine WC.block ?_
          refine WC.nilRow 3 1 ?_
          refine WC.loop9 (fun (n_46246 : Nat) (out_46236 : List (List Int)) (now_46242 : List Int) (i_46245 : Int) (ao_46237 : Option Addr) (cap_46238 : Nat) (cs_46239 : List Value) (ao_46243 : Option Addr) (cap_46244 : Nat) => (m_ref34_Run_L4 s_22962 r_45347 k_46100 n_46246 out_46236 now_46242 i_46245 = some r) ∧ (RR 1 (p22 (Z ++ Zn_45340)) cs_46239 out_46236)) (fun (n_46246 : Nat) (out_46236 : List (List Int)) (now_46242 : List Int) (i_46245 : Int) (ao_46237 : Option Addr) (cap_46238 : Nat) (cs_46239 : List Value) (ao_46243 : Option Addr) (cap_46244 : Nat) => [(1, (.int .i64 rounds_22978)), (2, (.pointer (some ⟨b_39534, 0, none⟩))), (5, (.slice ao_46237 out_46236.length cap_46238)), (6, (.int .i64 r_45347)), (7, (.slice ao_46243 now_46242.length cap_46244)), (8, (.int .i64 i_46245))]) (fun (n_46246 : Nat) (out_46236 : List (List Int)) (now_46242 : List Int) (i_46245 : Int) (ao_46237 : Option Addr) (cap_46238 : Nat) (cs_46239 : List Value) (ao_46243 : Option Addr) (cap_46244 : Nat) => [fz Zn_45340, row (.slice ao_46237 out_46236.length cap_46238) 22 1 cs_46239, row (.slice ao_46243 now_46242.length cap_46244) 3 1 (now_46242.flatMap e3), stb b_39534 27 [(.slice ao_22963 s_22962.fStart.length cap_22964), (.slice ao_22966 s_22962.fDrift.length cap_22967), (.slice ao_22969 s_22962.fFaulty.length cap_22970), (.int .i64 s_22962.fF), (.int .i64 s_22962.fE), (.slice ao_22972 s_22962.fErrs.length cap_22973), (.slice ao_22975 s_22962.fLies.length cap_22976)]]) (fun (n_46246 : Nat) (out_46236 : List (List Int)) (now_46242 : List Int) (i_46245 : Int) (ao_46237 : Option Addr) (cap_46238 : Nat) (cs_46239 : List Value) (ao_46243 : Option Addr) (cap_46244 : Nat) => n_46246) ⟨FUEL, out_45342, ([] : List Int), 0, ao_45343, cap_45344, cs_45345, none, 0⟩ ⟨h, rel_45346⟩ (.cons rfl (.cons rfl (.cons rfl (.cons rfl (.cons rfl (.cons rfl .nil)))))) (.cons (.there .here) (.cons (.there .here) (.cons .here (.cons .here .nil)))) ?_
          rintro n_46246 out_46236 now_46242 i_46245 ao_46237 cap_46238 cs_46239 ao_46243 cap_46244 ⟨h, rel_46240⟩
          obtain ⟨n_46248, rfl⟩ := m_ref34_Run_L4_fuel h
          rw [m_ref34_Run_L4] at h
          refine WC.seq ?_
          refine WC.seq ?_
          refine WC.region ?_
          refine WL.quiet (d := 19) rfl rfl rfl (q_move rfl) ?_
          refine WL.quiet (d := 20) rfl rfl rfl (q_fieldAddr fo_27_0 rfl rfl) ?_
          refine WL.quiet (d := 21) rfl rfl rfl (q_load1 oneT_22 rfl (rd_stb (.there (.there (.there .here))) rfl)) ?_
          refine WL.quiet (d := 22) rfl rfl rfl (q_len Try.underlying22 rfl) ?_
          refine WL.quiet (d := 23) rfl rfl rfl (q_lss rfl rfl) ?_
          refine WL.nil ?_
          refine WX.then ?_
          refine WC.cond rfl (fun hb_46250 => ?_) (fun hb_46250 => ?_)
          · replace h := ite_t h hb_46250
            refine WC.skip ?_
            refine WX.then ?_
            refine WC.seq ?_
            refine WC.block ?_
            obtain ⟨c_46312, h⟩ := chk_elim h
            obtain ⟨c_46321, h⟩ := chk_elim h
            obtain ⟨c_46326, h⟩ := chk_elim h
            obtain ⟨c_46332, h⟩ := chk_elim h
            refine WC.draw (fun i => [15].contains i) [] rfl ?_
            refine WD.pure (i := 0) (d := 26) (by kernel_rfl) rfl (by kernel_rfl) (by kernel_rfl) rfl rfl rfl (fun _ => q_move rfl) ?_
            refine WD.pure (i := 1) (d := 27) (by kernel_rfl) rfl (by kernel_rfl) (by kernel_rfl) rfl rfl rfl (fun _ => q_move rfl) ?_
            refine WD.pure (i := 2) (d := 28) (by kernel_rfl) rfl (by kernel_rfl) (by kernel_rfl) rfl rfl rfl (fun _ => q_move rfl) ?_
            refine WD.know (fun w hw => Hp.expose (.there .here) hw (by intro hz'; have := c_46312; rw [hz'] at this; omega)) ?_
            rintro ⟨b_46354, rfl⟩
            obtain ⟨r_46358, tl_46359, hl_46360, hd_46361, ⟨ao_46355, cap_46356, rfl, hs_46357⟩⟩ := RR.elem rel_46240 c_46312.1 c_46312.2
            refine WD.pure (i := 3) (d := 29) (by kernel_rfl) rfl (by kernel_rfl) (by kernel_rfl) rfl rfl rfl (fun _ => q_indexAddr elT_30 rfl rfl c_46312.1 c_46312.2 rowAdd) ?_
            refine WD.quiet (i := 4) (d := 30) (by kernel_rfl) rfl (by kernel_rfl) (by kernel_rfl) rfl rfl rfl (q_load1 oneT_22 rfl (rd_row (.there .here) (drop_rd hd_46361 0 _ rfl))) ?_
            refine WD.pure (i := 5) (d := 31) (by kernel_rfl) rfl (by kernel_rfl) (by kernel_rfl) rfl rfl rfl (fun _ => q_move rfl) ?_
            refine WD.znth (j := 6) (dd := 32) (by kernel_rfl) rfl (by kernel_rfl) (by kernel_rfl) rfl rfl (Z := (Z ++ Zn_45340)) (Pr := (fun r x => r = e3 x)) elT_22 rfl rfl hs_46357 c_46321 ?_
            rintro A_46362 r_46363 hA_46364 hl_46365 rfl
            refine WD.quiet (i := 7) (d := 33) (by kernel_rfl) rfl (by kernel_rfl) (by kernel_rfl) rfl rfl rfl (q_load1 oneT_3 rfl (rd_z (hz.pv2 .here) hA_46364 rfl)) ?_
            refine WD.pure (i := 8) (d := 34) (by kernel_rfl) rfl (by kernel_rfl) (by kernel_rfl) rfl rfl rfl (fun _ => q_fieldAddr fo_27_1 rfl rfl) ?_
            refine WD.quiet (i := 9) (d := 35) (by kernel_rfl) rfl (by kernel_rfl) (by kernel_rfl) rfl rfl rfl (q_load1 oneT_22 rfl (rd_stb (.there (.there (.there .here))) rfl)) ?_
            refine WD.pure (i := 10) (d := 36) (by kernel_rfl) rfl (by kernel_rfl) (by kernel_rfl) rfl rfl rfl (fun _ => q_move rfl) ?_
            refine WD.znth (j := 11) (dd := 37) (by kernel_rfl) rfl (by kernel_rfl) (by kernel_rfl) rfl rfl (Z := (Z ++ Zn_45340)) (Pr := (fun r x => r = e3 x)) elT_22 rfl rfl (hs_22968.mono ((Zle.left _ _).trans hle_45341)) c_46326 ?_
            rintro A_46366 r_46367 hA_46368 hl_46369 rfl
            refine WD.quiet (i := 12) (d := 38) (by kernel_rfl) rfl (by kernel_rfl) (by kernel_rfl) rfl rfl rfl (q_load1 oneT_3 rfl (rd_z (hz.pv2 .here) hA_46368 rfl)) ?_
            refine WD.pure (i := 13) (d := 39) (by kernel_rfl) rfl (by kernel_rfl) (by kernel_rfl) rfl rfl rfl (fun _ => q_add rfl rfl rfl) ?_
            refine WD.new (i := 14) (dd := 40) rfl (by kernel_rfl) rfl rfl rfl (e_buildSlice (cs := ([i64 ((nth (nth out_46236 r_45347) i_46245) + (nth s_22962.fDrift i_46245))] : List Int).flatMap e3) elT_22 (Eos.parts (l := [.tmp 39]) (.cons rfl .nil) [0]) (fun _ => by kernel_rfl) rfl (by unfold maxLen; omega)) (fun h' => absurd h' (by decide)) ?_
            intro b_46370 _
            refine WD.old (i := 15) (dd := 41) rfl (by kernel_rfl) rfl rfl rfl rfl (fun _ => (Sin.of .nil)) (e_appendF (enc := e3) (l1 := now_46242) (l2 := ([i64 ((nth (nth out_46236 r_45347) i_46245) + (nth s_22962.fDrift i_46245))] : List Int)) elT_22 rfl rfl (.there (.there (.there .here))) (fun _ => rfl) rfl rfl (news_row .here) (oc_flat e3_oc _) c_46332) ?_
            rintro ⟨ao_46371, cap_46372⟩ _
            refine WD.pure (i := 16) (d := 7) (by kernel_rfl) rfl (by kernel_rfl) (by kernel_rfl) rfl rfl rfl (fun _ => q_assign rfl) ?_
            refine WD.done (by kernel_rfl) ?_
            refine WX.blockNormal ?_
            refine WX.then ?_
            refine WC.region ?_
            refine WL.quiet (d := 24) rfl rfl rfl (q_move rfl) ?_
            refine WL.quiet (d := 25) rfl rfl rfl (q_add rfl rfl rfl) ?_
            refine WL.quiet (d := 8) rfl rfl rfl (q_assign rfl) ?_
            refine WL.nil ?_
            exact WX.round (G := Nat × List (List Int) × List Int × Int × Option Addr × Nat × List Value × Option Addr × Nat) ⟨n_46248, out_46236, (now_46242 ++ ([i64 ((nth (nth out_46236 r_45347) i_46245) + (nth s_22962.fDrift i_46245))] : List Int)), (i64 (i_46245 + 1)), (some ⟨b_46354, 0, none⟩), cap_46238, cs_46239, ao_46371, cap_46372⟩ ⟨h, rel_46240⟩ (Nat.lt_succ_self _) (.cons rfl (.cons rfl (.cons rfl (.cons rfl (.cons rfl (.cons rfl .nil)))))) (.cons (.there (.there .here)) (.cons (.there (.there .here)) (.cons .here (.cons (.there .here) .nil))))
          · replace h := ite_f h hb_46250
            refine WC.exit ?_
            refine WX.thenExit ?_
            refine WX.thenExit ?_
            refine WX.blockHit ?_
            exact WX.mid (G := List (List Int) × List Int × Option Addr × Nat × List Value × Option Addr × Nat) ⟨out_46236, now_46242, ao_46237, cap_46238, cs_46239, ao_46243, cap_46244⟩ ⟨h, rel_46240⟩ (.cons rfl (.cons rfl (.cons rfl (.cons rfl (.cons rfl .nil))))) (.cons .here (.cons .here (.cons .here (.cons .here .nil))))
        · rintro out_46092 now_46097 ao_46093 cap_46094 cs_46095 ao_46098 cap_46099 ⟨h, rel_46096⟩
          replace h := (hk_46101 out_46092 now_46097).symm.trans h
          refine WC.seq ?_
          obtain ⟨x_46376, hx_46377, h⟩ := bind_elim h
          obtain ⟨x_46385, hx_46386, h⟩ := bind_elim h
          refine WC.draw (fun i => [].contains i) [] rfl ?_
          refine WD.quiet (i := 0) (d := 43) (by kernel_rfl) rfl (by kernel_rfl) (by kernel_rfl) rfl rfl rfl (q_loadA (cs := [(.slice ao_22963 s_22962.fStart.length cap_22964), (.slice ao_22966 s_22962.fDrift.length cap_22967), (.slice ao_22969 s_22962.fFaulty.length cap_22970), (.int .i64 s_22962.fF), (.int .i64 s_22962.fE), (.slice ao_22972 s_22962.fErrs.length cap_22973), (.slice ao_22975 s_22962.fLies.length cap_22976)]) aggT_27 rfl rfl (rd_all (.there (.there (.there .here))))) ?_
          refine WD.pure (i := 1) (d := 44) (by kernel_rfl) rfl (by kernel_rfl) (by kernel_rfl) rfl rfl rfl (fun _ => q_move rfl) ?_
          refine WD.pure (i := 2) (d := 45) (by kernel_rfl) rfl (by kernel_rfl) (by kernel_rfl) rfl rfl rfl (fun _ => q_move rfl) ?_
          refine WD.pure (i := 4) (d := 47) (by kernel_rfl) rfl (by kernel_rfl) (by kernel_rfl) rfl rfl rfl (fun _ => q_fieldAddr fo_27_3 rfl rfl) ?_
          refine WD.quiet (i := 5) (d := 48) (by kernel_rfl) rfl (by kernel_rfl) (by kernel_rfl) rfl rfl rfl (q_load1 oneT_3 rfl (rd_stb (.there (.there (.there .here))) rfl)) ?_
          refine WD.freezeS (.there (.there .here)) .here hz (RR.flat (enc := e3) (fun _ => rfl) _) ?_
          intro Zn_46390 hle_46391 hf_46392
          refine WD.call4 (i := 3) (dd := 46) rfl (by kernel_rfl) rfl rfl rfl (.inr rfl) (run_call (l := [.tmp 43, .tmp 44, .tmp 45]) Try.call21 (.cons rfl (.cons rfl (.cons rfl .nil)))) (.nil : Sel [fz Zn_46390, row (.slice ao_46093 out_46092.length cap_46094) 22 1 cs_46095, stb b_39534 27 [(.slice ao_22963 s_22962.fStart.length cap_22964), (.slice ao_22966 s_22962.fDrift.length cap_22967), (.slice ao_22969 s_22962.fFaulty.length cap_22970), (.int .i64 s_22962.fF), (.int .i64 s_22962.fE), (.slice ao_22972 s_22962.fErrs.length cap_22973), (.slice ao_22975 s_22962.fLies.length cap_22976)]] [] [fz Zn_46390, row (.slice ao_46093 out_46092.length cap_46094) 22 1 cs_46095, stb b_39534 27 [(.slice ao_22963 s_22962.fStart.length cap_22964), (.slice ao_22966 s_22962.fDrift.length cap_22967), (.slice ao_22969 s_22962.fFaulty.length cap_22970), (.int .i64 s_22962.fF), (.int .i64 s_22962.fE), (.slice ao_22972 s_22962.fErrs.length cap_22973), (.slice ao_22975 s_22962.fLies.length cap_22976)]]) (fun w hw => by have pz := (hz.call2 hw (.nil : Sel [fz Zn_46390, row (.slice ao_46093 out_46092.length cap_46094) 22 1 cs_46095, stb b_39534 27 [(.slice ao_22963 s_22962.fStart.length cap_22964), (.slice ao_22966 s_22962.fDrift.length cap_22967), (.slice ao_22969 s_22962.fFaulty.length cap_22970), (.int .i64 s_22962.fF), (.int .i64 s_22962.fE), (.slice ao_22972 s_22962.fErrs.length cap_22973), (.slice ao_22975 s_22962.fLies.length cap_22976)]] [] [fz Zn_46390, row (.slice ao_46093 out_46092.length cap_46094) 22 1 cs_46095, stb b_39534 27 [(.slice ao_22963 s_22962.fStart.length cap_22964), (.slice ao_22966 s_22962.fDrift.length cap_22967), (.slice ao_22969 s_22962.fFaulty.length cap_22970), (.int .i64 s_22962.fF), (.int .i64 s_22962.fE), (.slice ao_22972 s_22962.fErrs.length cap_22973), (.slice ao_22975 s_22962.fLies.length cap_22976)]]) .here); exact w_ref34_Reads (Z := _) (ao_18814 := ao_22963) (cap_18815 := cap_22964) (ao_18817 := ao_22966) (cap_18818 := cap_22967) (ao_18820 := ao_22969) (cap_18821 := cap_22970) (ao_18823 := ao_22972) (cap_18824 := cap_22973) (ao_18826 := ao_22975) (cap_18827 := cap_22976) (ao_18830 := ao_46098) (cap_18831 := cap_46099) (s_18813 := s_22962) (clocks_18829 := now_46097) (round_18833 := r_45347) (r := x_46376) w pz (hs_22965.mono ((Zle.left _ _).trans (hle_45341.trans hle_46391))) (hs_22968.mono ((Zle.left _ _).trans (hle_45341.trans hle_46391))) (hs_22971.mono ((Zle.left _ _).trans (hle_45341.trans hle_46391))) (hs_22974.mono ((Zle.left _ _).trans (hle_45341.trans hle_46391))) (hs_22977.mono ((Zle.left _ _).trans (hle_45341.trans hle_46391))) hf_46392 hx_46377) ?_
          rintro Zn_46393 ao_46394 cap_46395 cs_46396 hf_46397
          refine WD.merge .here (.there .here) ?_
          refine WD.call2 (i := 6) (dd := 49) rfl (by kernel_rfl) rfl rfl rfl (.inr rfl) (run_call (l := [.tmp 46, .tmp 48]) Try.call25 (.cons rfl (.cons rfl .nil))) (.nil : Sel [fz (Zn_46390 ++ Zn_46393), row (.slice ao_46394 x_46376.length cap_46395) 22 1 cs_46396, row (.slice ao_46093 out_46092.length cap_46094) 22 1 cs_46095, stb b_39534 27 [(.slice ao_22963 s_22962.fStart.length cap_22964), (.slice ao_22966 s_22962.fDrift.length cap_22967), (.slice ao_22969 s_22962.fFaulty.length cap_22970), (.int .i64 s_22962.fF), (.int .i64 s_22962.fE), (.slice ao_22972 s_22962.fErrs.length cap_22973), (.slice ao_22975 s_22962.fLies.length cap_22976)]] [] [fz (Zn_46390 ++ Zn_46393), row (.slice ao_46394 x_46376.length cap_46395) 22 1 cs_46396, row (.slice ao_46093 out_46092.length cap_46094) 22 1 cs_46095, stb b_39534 27 [(.slice ao_22963 s_22962.fStart.length cap_22964), (.slice ao_22966 s_22962.fDrift.length cap_22967), (.slice ao_22969 s_22962.fFaulty.length cap_22970), (.int .i64 s_22962.fF), (.int .i64 s_22962.fE), (.slice ao_22972 s_22962.fErrs.length cap_22973), (.slice ao_22975 s_22962.fLies.length cap_22976)]]) (fun w hw => by have pz := (hz.call2 hw (.nil : Sel [fz (Zn_46390 ++ Zn_46393), row (.slice ao_46394 x_46376.length cap_46395) 22 1 cs_46396, row (.slice ao_46093 out_46092.length cap_46094) 22 1 cs_46095, stb b_39534 27 [(.slice ao_22963 s_22962.fStart.length cap_22964), (.slice ao_22966 s_22962.fDrift.length cap_22967), (.slice ao_22969 s_22962.fFaulty.length cap_22970), (.int .i64 s_22962.fF), (.int .i64 s_22962.fE), (.slice ao_22972 s_22962.fErrs.length cap_22973), (.slice ao_22975 s_22962.fLies.length cap_22976)]] [] [fz (Zn_46390 ++ Zn_46393), row (.slice ao_46394 x_46376.length cap_46395) 22 1 cs_46396, row (.slice ao_46093 out_46092.length cap_46094) 22 1 cs_46095, stb b_39534 27 [(.slice ao_22963 s_22962.fStart.length cap_22964), (.slice ao_22966 s_22962.fDrift.length cap_22967), (.slice ao_22969 s_22962.fFaulty.length cap_22970), (.int .i64 s_22962.fF), (.int .i64 s_22962.fE), (.slice ao_22972 s_22962.fErrs.length cap_22973), (.slice ao_22975 s_22962.fLies.length cap_22976)]]) .here).lend hw (.nil : Sel [fz (Zn_46390 ++ Zn_46393), row (.slice ao_46394 x_46376.length cap_46395) 22 1 cs_46396, row (.slice ao_46093 out_46092.length cap_46094) 22 1 cs_46095, stb b_39534 27 [(.slice ao_22963 s_22962.fStart.length cap_22964), (.slice ao_22966 s_22962.fDrift.length cap_22967), (.slice ao_22969 s_22962.fFaulty.length cap_22970), (.int .i64 s_22962.fF), (.int .i64 s_22962.fE), (.slice ao_22972 s_22962.fErrs.length cap_22973), (.slice ao_22975 s_22962.fLies.length cap_22976)]] [] [fz (Zn_46390 ++ Zn_46393), row (.slice ao_46394 x_46376.length cap_46395) 22 1 cs_46396, row (.slice ao_46093 out_46092.length cap_46094) 22 1 cs_46095, stb b_39534 27 [(.slice ao_22963 s_22962.fStart.length cap_22964), (.slice ao_22966 s_22962.fDrift.length cap_22967), (.slice ao_22969 s_22962.fFaulty.length cap_22970), (.int .i64 s_22962.fF), (.int .i64 s_22962.fE), (.slice ao_22972 s_22962.fErrs.length cap_22973), (.slice ao_22975 s_22962.fLies.length cap_22976)]]) (B := [row (.slice ao_46394 x_46376.length cap_46395) 22 1 cs_46396]) (fun _ hx' => ((.cons (.there .here) .nil) : Sel _ [row (.slice ao_46394 x_46376.length cap_46395) 22 1 cs_46396] _).mem hx'); exact w_ref34_Round (Z := _) (ao_23777 := ao_46394) (cap_23778 := cap_46395) (reads_23776 := x_46376) (f_23780 := s_22962.fF) (r := x_46385) w pz (ZA.row (hw.lent (.nil : Sel [fz (Zn_46390 ++ Zn_46393), row (.slice ao_46394 x_46376.length cap_46395) 22 1 cs_46396, row (.slice ao_46093 out_46092.length cap_46094) 22 1 cs_46095, stb b_39534 27 [(.slice ao_22963 s_22962.fStart.length cap_22964), (.slice ao_22966 s_22962.fDrift.length cap_22967), (.slice ao_22969 s_22962.fFaulty.length cap_22970), (.int .i64 s_22962.fF), (.int .i64 s_22962.fE), (.slice ao_22972 s_22962.fErrs.length cap_22973), (.slice ao_22975 s_22962.fLies.length cap_22976)]] [] [fz (Zn_46390 ++ Zn_46393), row (.slice ao_46394 x_46376.length cap_46395) 22 1 cs_46396, row (.slice ao_46093 out_46092.length cap_46094) 22 1 cs_46095, stb b_39534 27 [(.slice ao_22963 s_22962.fStart.length cap_22964), (.slice ao_22966 s_22962.fDrift.length cap_22967), (.slice ao_22969 s_22962.fFaulty.length cap_22970), (.int .i64 s_22962.fF), (.int .i64 s_22962.fE), (.slice ao_22972 s_22962.fErrs.length cap_22973), (.slice ao_22975 s_22962.fLies.length cap_22976)]]) (B := [row (.slice ao_46394 x_46376.length cap_46395) 22 1 cs_46396]) (fun _ hx' => ((.cons (.there .here) .nil) : Sel _ [row (.slice ao_46394 x_46376.length cap_46395) 22 1 cs_46396] _).mem hx') (.head _) _) ((hf_46397.weak (fun _ _ h => p22_mono (Zle.assoc _ _ _) h)).weak (fun _ _ h => p22_mono (Zle.left _ _) h)) ⟨w, pz.1⟩) hx_46386) ?_
          rintro ao_46400 cap_46401 _
          refine WD.pure (i := 7) (d := 42) (by kernel_rfl) rfl (by kernel_rfl) (by kernel_rfl) rfl rfl rfl (fun _ => q_move rfl) ?_
          refine WD.pure (i := 8) (d := 50) (by kernel_rfl) rfl (by kernel_rfl) (by kernel_rfl) rfl rfl rfl (fun _ => q_extract rfl rfl) ?_
          refine WD.pure (i := 9) (d := 51) (by kernel_rfl) rfl (by kernel_rfl) (by kernel_rfl) rfl rfl rfl (fun _ => q_extract rfl rfl) ?_
          refine WD.pure (i := 10) (d := 9) (by kernel_rfl) rfl (by kernel_rfl) (by kernel_rfl) rfl rfl rfl (fun _ => q_assign rfl) ?_
          refine WD.pure (i := 11) (d := 10) (by kernel_rfl) rfl (by kernel_rfl) (by kernel_rfl) rfl rfl rfl (fun _ => q_assign rfl) ?_
          refine WD.done (by kernel_rfl) ?_
          refine WX.then ?_
          obtain ⟨c_46409, h⟩ := chk_elim h
          refine WC.region ?_
          refine WL.quiet (d := 52) rfl rfl rfl (q_move rfl) ?_
          refine WL.quiet (d := 53) rfl rfl rfl (q_move rfl) ?_
          refine WL.freezeS .here .here hz (RR.flat (enc := e3) (fun _ => rfl) _) ?_
          intro Zn_46413 hle_46414 hf_46415
          have rel_46417 : RR 1 (p22 (Z ++ Zn_46413)) [(.slice ao_46400 x_46385.1.length cap_46401)] ([x_46385.1] : List (List Int)) := (RR.cons (r := [(.slice ao_46400 x_46385.1.length cap_46401)]) rfl (show p22 _ _ _ from ⟨_, _, rfl, hf_46415⟩) (RR.nil _ _))
          refine WL.new (dd := 54) rfl rfl rfl (e_buildSlice (cs := [(.slice ao_46400 x_46385.1.length cap_46401)]) elT_30 (Eos.parts (l := [.tmp 53]) (.cons rfl .nil) [0]) (fun _ => by kernel_rfl) rfl (by unfold maxLen; omega)) ?_
          intro b_46416 _
          have rel_46421 : RR 1 (p22 (Z ++ Zn_46413)) (cs_46095 ++ [(.slice ao_46400 x_46385.1.length cap_46401)]) (out_46092 ++ ([x_46385.1] : List (List Int))) := RR.app (rel_46096.weak (fun _ _ h => p22_mono (hle_46391.trans ((Zle.left _ _).trans ((Zle.assoc _ _ _).trans hle_46414))) h)) rel_46417
          refine WL.eff (d := 55) rfl rfl rfl (e_appendR (l1 := out_46092) (l2 := ([x_46385.1] : List (List Int))) (news := [(.slice ao_46400 x_46385.1.length cap_46401)]) (Pr := (p22 (Z ++ Zn_46413))) elT_30 rfl rfl (.there (.there (.there .here))) rel_46417 (news_row .here) (oc_cons rfl oc_nil) c_46409) ?_
          rintro ⟨ao_46419, cap_46420⟩ _
          refine WL.quiet (d := 5) rfl rfl rfl (q_assign rfl) ?_
          refine WL.nil ?_
          refine WX.blockNormal ?_
          exact WX.mid (G := List (List Int) × Zp × Option Addr × Nat × List Value) ⟨(out_46092 ++ ([x_46385.1] : List (List Int))), Zn_46413, ao_46419, cap_46420, (cs_46095 ++ [(.slice ao_46400 x_46385.1.length cap_46401)])⟩ ⟨h, (hle_46391.trans ((Zle.left _ _).trans ((Zle.assoc _ _ _).trans hle_46414))), rel_46421⟩ (.cons rfl (.cons rfl (.cons rfl (.cons rfl .nil)))) (.cons (.there (.there .here)) (.cons .here (.cons (.there (.there .here)) .nil)))
      · rintro out_46085 Zn_46083 ao_46086 cap_46087 cs_46088 ⟨h, hle_46084, rel_46089⟩
        replace h := (hk_46091 out_46085).symm.trans h
        refine WC.region ?_
        refine WL.quiet (d := 17) rfl rfl rfl (q_move rfl) ?_
        refine WL.quiet (d := 18) rfl rfl rfl (q_add rfl rfl rfl) ?_
        refine WL.quiet (d := 6) rfl rfl rfl (q_assign rfl) ?_
        refine WL.nil ?_
        exact WX.round (G := Nat × List (List Int) × Int × Zp × Option Addr × Nat × List Value) ⟨n_45349, out_46085, (i64 (r_45347 + 1)), Zn_46083, ao_46086, cap_46087, cs_46088⟩ ⟨h, (hle_45341.trans hle_46084), rel_46089⟩ (Nat.lt_succ_self _) (.cons rfl (.cons rfl (.cons rfl (.cons rfl .nil)))) (.cons .here (.cons .here (.cons .here .nil)))
    · replace h := ite_f h hb_45351
      refine WC.exit ?_
      refine WX.thenExit ?_
      refine WX.thenExit ?_
      refine WX.blockHit ?_
      exact WX.mid (G := List (List Int) × Zp × Option Addr × Nat × List Value) ⟨out_45342, Zn_45340, ao_45343, cap_45344, cs_45345⟩ ⟨h, hle_45341, rel_45346⟩ (.cons rfl .nil) (.cons .here (.cons .here .nil))
  · rintro out_42979 Zn_42977 ao_42980 cap_42981 cs_42982 ⟨h, hle_42978, rel_42983⟩
    replace h := (hk_42985 out_42979).symm.trans h
    refine WC.seq ?_
    refine WC.region ?_
    refine WL.quiet (d := 56) rfl rfl rfl (q_move rfl) ?_
    refine WL.quiet (d := 4) rfl rfl rfl (q_assign rfl) ?_
    refine WL.nil ?_
    refine WX.then ?_
    refine WC.ret ?_
    obtain rfl := Option.some.inj h
    refine WX.bpRet Try.results22 (.tmp rfl .nil) (fun w hw => ?_)
    exact ⟨Zn_42977, ao_42980, cap_42981, cs_42982, ret1 rfl, rel_42983, hw.sub (.cons .here (.cons .here .nil))⟩
def m_ref34_Spread_L4 (l_46507 : List Int) (s_46491 : Stimebase_Setup) (i_54793 : Int) (k_55452 : Int → Option Int) : Nat → Int → Int → Option Int
  | 0, _, _ => none
  | n_55586 + 1, best_55583, k_55584 => if decide (k_55584 < ((l_46507.length : Nat) : Int)) then jp1 (fun (best_55650 : Int) => m_ref34_Spread_L4 l_46507 s_46491 i_54793 k_55452 n_55586 best_55650 (i64 (k_55584 + 1))) fun k_55651 => (m_ref34_Faulty s_46491 i_54793).bind fun x_55653 => (if !x_55653 then (m_ref34_Faulty s_46491 k_55584).bind fun x_55655 => some (!x_55655) else some false).bind fun b_55657 => chk (b_55657 = true → ((0 : Int) ≤ i_54793 ∧ i_54793 < ((l_46507.length : Nat) : Int))) (chk (b_55657 = true → ((0 : Int) ≤ k_55584 ∧ k_55584 < ((l_46507.length : Nat) : Int))) (if b_55657 && (decide ((i64 ((nth l_46507 i_54793) - (nth l_46507 k_55584))) > best_55583)) then chk ((0 : Int) ≤ i_54793 ∧ i_54793 < ((l_46507.length : Nat) : Int)) (chk ((0 : Int) ≤ k_55584 ∧ k_55584 < ((l_46507.length : Nat) : Int)) (k_55651 (i64 ((nth l_46507 i_54793) - (nth l_46507 k_55584))))) else k_55651 best_55583)) else k_55452 best_55583
theorem m_ref34_Spread_L4_fuel {n : Nat} {l_46507 : List Int} {s_46491 : Stimebase_Setup} {i_54793 : Int} {k_55452 : Int → Option Int} {best_55583 : Int} {k_55584 : Int} {r : Int} (h : m_ref34_Spread_L4 l_46507 s_46491 i_54793 k_55452 n best_55583 k_55584 = some r) : ∃ m, n = m + 1 := by
  cases n with
  | zero => cases h
  | succ m => exact ⟨m, rfl⟩

def m_ref34_Spread_L3 (l_46507 : List Int) (s_46491 : Stimebase_Setup) (k_53870 : Int → Option Int) : Nat → Int → Int → Option Int
  | 0, _, _ => none
  | n_54795 + 1, best_54792, i_54793 => if decide (i_54793 < ((l_46507.length : Nat) : Int)) then jp1 (fun (best_55448 : Int) => m_ref34_Spread_L3 l_46507 s_46491 k_53870 n_54795 best_55448 (i64 (i_54793 + 1))) fun k_55449 => jp1 (fun (best_55451 : Int) => k_55449 best_55451) fun k_55452 => m_ref34_Spread_L4 l_46507 s_46491 i_54793 k_55452 FUEL best_54792 0 else k_53870 best_54792
theorem m_ref34_Spread_L3_fuel {n : Nat} {l_46507 : List Int} {s_46491 : Stimebase_Setup} {k_53870 : Int → Option Int} {best_54792 : Int} {i_54793 : Int} {r : Int} (h : m_ref34_Spread_L3 l_46507 s_46491 k_53870 n best_54792 i_54793 = some r) : ∃ m, n = m + 1 := by
  cases n with
  | zero => cases h
  | succ m => exact ⟨m, rfl⟩

/-- nacelleref34.Spread -/
def m_ref34_Spread (s_46491 : Stimebase_Setup) (l_46507 : List Int) : Option Int :=
  jp1 (fun (best_53869 : Int) => some best_53869) fun k_53870 => m_ref34_Spread_L3 l_46507 s_46491 k_53870 FUEL 0 0

set_option maxRecDepth 20000 in
theorem w_ref34_Spread (Z : Zp)  (ao_46492 : Option Addr) (cap_46493 : Nat) (ao_46495 : Option Addr) (cap_46496 : Nat) (ao_46498 : Option Addr) (cap_46499 : Nat) (ao_46501 : Option Addr) (cap_46502 : Nat) (ao_46504 : Option Addr) (cap_46505 : Nat) (ao_46508 : Option Addr) (cap_46509 : Nat) (s_46491 : Stimebase_Setup) (l_46507 : List Int) (r : Int) (w₀ : World) (hz : PZ [] w₀ Z)
    (hs_46494 : ZS Z 1 (fun r x => r = e3 x) ao_46492 cap_46493 s_46491.fStart)
    (hs_46497 : ZS Z 1 (fun r x => r = e3 x) ao_46495 cap_46496 s_46491.fDrift)
    (hs_46500 : ZS Z 1 (fun r x => r = e3 x) ao_46498 cap_46499 s_46491.fFaulty)
    (hs_46503 : ZS Z 1 (fun r x => r = e3 x) ao_46501 cap_46502 s_46491.fErrs)
    (hs_46506 : ZS Z 1 (fun r x => r = e3 x) ao_46504 cap_46505 s_46491.fLies)
    (hs_46510 : ZS Z 1 (fun r x => r = e3 x) ao_46508 cap_46509 l_46507)
    (h : m_ref34_Spread s_46491 l_46507 = some r) :
    Calls Try.prog 23 #[(.agg #[(.slice ao_46492 s_46491.fStart.length cap_46493), (.slice ao_46495 s_46491.fDrift.length cap_46496), (.slice ao_46498 s_46491.fFaulty.length cap_46499), (.int .i64 s_46491.fF), (.int .i64 s_46491.fE), (.slice ao_46501 s_46491.fErrs.length cap_46502), (.slice ao_46504 s_46491.fLies.length cap_46505)]), (.slice ao_46508 l_46507.length cap_46509)] w₀ fun e w' => e = .returned (.int .i64 r) ∧ Hp [] w₀ w' [] := by
  unfold m_ref34_Spread at h
  refine Calls.ofWC (vs := [(.agg #[(.slice ao_46492 s_46491.fStart.length cap_46493), (.slice ao_46495 s_46491.fDrift.length cap_46496), (.slice ao_46498 s_46491.fFaulty.length cap_46499), (.int .i64 s_46491.fF), (.int .i64 s_46491.fE), (.slice ao_46501 s_46491.fErrs.length cap_46502), (.slice ao_46504 s_46491.fLies.length cap_46505)]), (.slice ao_46508 l_46507.length cap_46509)]) (pre := []) (env := [(0, (.agg #[(.slice ao_46492 s_46491.fStart.length cap_46493), (.slice ao_46495 s_46491.fDrift.length cap_46496), (.slice ao_46498 s_46491.fFaulty.length cap_46499), (.int .i64 s_46491.fF), (.int .i64 s_46491.fE), (.slice ao_46501 s_46491.fErrs.length cap_46502), (.slice ao_46504 s_46491.fLies.length cap_46505)])), (1, (.slice ao_46508 l_46507.length cap_46509))]) Try.func23 rfl Try.ntmps23 rfl (Hp.nil w₀ _) rfl ?_
  refine WC.seq ?_
  refine WC.region ?_
  refine WL.new (dd := 2) rfl rfl rfl (e_box (cs := [(.slice ao_46492 s_46491.fStart.length cap_46493), (.slice ao_46495 s_46491.fDrift.length cap_46496), (.slice ao_46498 s_46491.fFaulty.length cap_46499), (.int .i64 s_46491.fF), (.int .i64 s_46491.fE), (.slice ao_46501 s_46491.fErrs.length cap_46502), (.slice ao_46504 s_46491.fLies.length cap_46505)]) rfl rfl) ?_
  intro b_51114 _
  refine WL.quiet (d := 4) rfl rfl rfl (q_assign rfl) ?_
  refine WL.nil ?_
  refine WX.then ?_
  refine WC.seq ?_
  refine WC.region ?_
  refine WL.quiet (d := 5) rfl rfl rfl (q_assign rfl) ?_
  refine WL.nil ?_
  refine WX.then ?_
  obtain ⟨k_53870, hk_53871, h⟩ := jp1_elim h
  refine WC.seqMid1 (fun (best_53869 : Int) => (k_53870 best_53869 = some r)) (fun (best_53869 : Int) => [(5, (.int .i64 best_53869))]) (fun (best_53869 : Int) => []) ?_ ?_
  · skip
    refine WC.seq ?_
    refine WC.region ?_
    refine WL.quiet (d := 6) rfl rfl rfl (q_assign rfl) ?_
    refine WL.nil ?_
    refine WX.then ?_
    refine WC.block ?_
    refine WC.loop3 (fun (n_54794 : Nat) (best_54792 : Int) (i_54793 : Int) => (m_ref34_Spread_L3 l_46507 s_46491 k_53870 n_54794 best_54792 i_54793 = some r)) (fun (n_54794 : Nat) (best_54792 : Int) (i_54793 : Int) => [(1, (.slice ao_46508 l_46507.length cap_46509)), (2, (.pointer (some ⟨b_51114, 0, none⟩))), (5, (.int .i64 best_54792)), (6, (.int .i64 i_54793))]) (fun (n_54794 : Nat) (best_54792 : Int) (i_54793 : Int) => [stb b_51114 27 [(.slice ao_46492 s_46491.fStart.length cap_46493), (.slice ao_46495 s_46491.fDrift.length cap_46496), (.slice ao_46498 s_46491.fFaulty.length cap_46499), (.int .i64 s_46491.fF), (.int .i64 s_46491.fE), (.slice ao_46501 s_46491.fErrs.length cap_46502), (.slice ao_46504 s_46491.fLies.length cap_46505)]]) (fun (n_54794 : Nat) (best_54792 : Int) (i_54793 : Int) => n_54794) ⟨FUEL, 0, 0⟩ h (.cons rfl (.cons rfl (.cons rfl (.cons rfl .nil)))) (.cons .here .nil) ?_
    rintro n_54794 best_54792 i_54793 h
    obtain ⟨n_54795, rfl⟩ := m_ref34_Spread_L3_fuel h
    rw [m_ref34_Spread_L3] at h
    refine WC.seq ?_
    refine WC.seq ?_
    refine WC.region ?_
    refine WL.quiet (d := 8) rfl rfl rfl (q_move rfl) ?_
    refine WL.quiet (d := 9) rfl rfl rfl (q_move rfl) ?_
    refine WL.quiet (d := 10) rfl rfl rfl (q_len Try.underlying22 rfl) ?_
    refine WL.quiet (d := 11) rfl rfl rfl (q_lss rfl rfl) ?_
    refine WL.nil ?_
    refine WX.then ?_
    refine WC.cond rfl (fun hb_54797 => ?_) (fun hb_54797 => ?_)
    · replace h := ite_t h hb_54797
      refine WC.skip ?_
      refine WX.then ?_
      obtain ⟨k_55449, hk_55450, h⟩ := jp1_elim h
      refine WC.seqMid1 (fun (best_55448 : Int) => (k_55449 best_55448 = some r)) (fun (best_55448 : Int) => [(1, (.slice ao_46508 l_46507.length cap_46509)), (2, (.pointer (some ⟨b_51114, 0, none⟩))), (5, (.int .i64 best_55448)), (6, (.int .i64 i_54793))]) (fun (best_55448 : Int) => [stb b_51114 27 [(.slice ao_46492 s_46491.fStart.length cap_46493), (.slice ao_46495 s_46491.fDrift.length cap_46496), (.slice ao_46498 s_46491.fFaulty.length cap_46499), (.int .i64 s_46491.fF), (.int .i64 s_46491.fE), (.slice ao_46501 s_46491.fErrs.length cap_46502), (.slice ao_46504 s_46491.fLies.length cap_46505)]]) ?_ ?_
      · skip
        refine WC.block ?_
        refine WC.seq ?_
        refine WC.region ?_
        refine WL.quiet (d := 7) rfl rfl rfl (q_assign rfl) ?_
        refine WL.nil ?_
        refine WX.then ?_
        obtain ⟨k_55452, hk_55453, h⟩ := jp1_elim h
        refine WC.mid1 (fun (best_55451 : Int) => (k_55452 best_55451 = some r)) (fun (best_55451 : Int) => [(1, (.slice ao_46508 l_46507.length cap_46509)), (2, (.pointer (some ⟨b_51114, 0, none⟩))), (5, (.int .i64 best_55451)), (6, (.int .i64 i_54793))]) (fun (best_55451 : Int) => [stb b_51114 27 [(.slice ao_46492 s_46491.fStart.length cap_46493), (.slice ao_46495 s_46491.fDrift.length cap_46496), (.slice ao_46498 s_46491.fFaulty.length cap_46499), (.int .i64 s_46491.fF), (.int .i64 s_46491.fE), (.slice ao_46501 s_46491.fErrs.length cap_46502), (.slice ao_46504 s_46491.fLies.length cap_46505)]]) ?_ ?_
        · skip
          refine WC.block ?_
          refine WC.loop3 (fun (n_55585 : Nat) (best_55583 : Int) (k_55584 : Int) => (m_ref34_Spread_L4 l_46507 s_46491 i_54793 k_55452 n_55585 best_55583 k_55584 = some r)) (fun (n_55585 : Nat) (best_55583 : Int) (k_55584 : Int) => [(1, (.slice ao_46508 l_46507.length cap_46509)), (2, (.pointer (some ⟨b_51114, 0, none⟩))), (5, (.int .i64 best_55583)), (6, (.int .i64 i_54793)), (7, (.int .i64 k_55584))]) (fun (n_55585 : Nat) (best_55583 : Int) (k_55584 : Int) => [stb b_51114 27 [(.slice ao_46492 s_46491.fStart.length cap_46493), (.slice ao_46495 s_46491.fDrift.length cap_46496), (.slice ao_46498 s_46491.fFaulty.length cap_46499), (.int .i64 s_46491.fF), (.int .i64 s_46491.fE), (.slice ao_46501 s_46491.fErrs.length cap_46502), (.slice ao_46504 s_46491.fLies.length cap_46505)]]) (fun (n_55585 : Nat) (best_55583 : Int) (k_55584 : Int) => n_55585) ⟨FUEL, best_54792, 0⟩ h (.cons rfl (.cons rfl (.cons rfl (.cons rfl (.cons rfl .nil))))) (.cons .here .nil) ?_
          rintro n_55585 best_55583 k_55584 h
          obtain ⟨n_55586, rfl⟩ := m_ref34_Spread_L4_fuel h
          rw [m_ref34_Spread_L4] at h
          refine WC.seq ?_
          refine WC.seq ?_
          refine WC.region ?_
          refine WL.quiet (d := 14) rfl rfl rfl (q_move rfl) ?_
          refine WL.quiet (d := 15) rfl rfl rfl (q_move rfl) ?_
          refine WL.quiet (d := 16) rfl rfl rfl (q_len Try.underlying22 rfl) ?_
          refine WL.quiet (d := 17) rfl rfl rfl (q_lss rfl rfl) ?_
          refine WL.nil ?_
          refine WX.then ?_
          refine WC.cond rfl (fun hb_55588 => ?_) (fun hb_55588 => ?_)
          · replace h := ite_t h hb_55588
            refine WC.skip ?_
            refine WX.then ?_
            obtain ⟨k_55651, hk_55652, h⟩ := jp1_elim h
            refine WC.seqMid1 (fun (best_55650 : Int) => (k_55651 best_55650 = some r)) (fun (best_55650 : Int) => [(1, (.slice ao_46508 l_46507.length cap_46509)), (2, (.pointer (some ⟨b_51114, 0, none⟩))), (5, (.int .i64 best_55650)), (6, (.int .i64 i_54793)), (7, (.int .i64 k_55584))]) (fun (best_55650 : Int) => [stb b_51114 27 [(.slice ao_46492 s_46491.fStart.length cap_46493), (.slice ao_46495 s_46491.fDrift.length cap_46496), (.slice ao_46498 s_46491.fFaulty.length cap_46499), (.int .i64 s_46491.fF), (.int .i64 s_46491.fE), (.slice ao_46501 s_46491.fErrs.length cap_46502), (.slice ao_46504 s_46491.fLies.length cap_46505)]]) ?_ ?_
            · skip
              refine WC.block ?_
              refine WC.seq ?_
              obtain ⟨x_55653, hx_55654, h⟩ := bind_elim h
              obtain ⟨b_55657, hb_55658, h⟩ := bind_elim h
              obtain ⟨c_55669, h⟩ := chk_elim h
              obtain ⟨c_55670, h⟩ := chk_elim h
              refine WC.draw (fun i => [].contains i) [] rfl ?_
              refine WD.quiet (i := 0) (d := 20) (by kernel_rfl) rfl (by kernel_rfl) (by kernel_rfl) rfl rfl rfl (q_loadA (cs := [(.slice ao_46492 s_46491.fStart.length cap_46493), (.slice ao_46495 s_46491.fDrift.length cap_46496), (.slice ao_46498 s_46491.fFaulty.length cap_46499), (.int .i64 s_46491.fF), (.int .i64 s_46491.fE), (.slice ao_46501 s_46491.fErrs.length cap_46502), (.slice ao_46504 s_46491.fLies.length cap_46505)]) aggT_27 rfl rfl (rd_all .here)) ?_
              refine WD.pure (i := 1) (d := 21) (by kernel_rfl) rfl (by kernel_rfl) (by kernel_rfl) rfl rfl rfl (fun _ => q_move rfl) ?_
              refine WD.enter (i := 2) (d := 22) (by kernel_rfl) rfl (by kernel_rfl) (by kernel_rfl) rfl rfl rfl (run_call (l := [.tmp 20, .tmp 21]) Try.call35 (.cons rfl (.cons rfl .nil))) (fun w hw => by have pz := (hz.call hw (.nil : Sel [stb b_51114 27 [(.slice ao_46492 s_46491.fStart.length cap_46493), (.slice ao_46495 s_46491.fDrift.length cap_46496), (.slice ao_46498 s_46491.fFaulty.length cap_46499), (.int .i64 s_46491.fF), (.int .i64 s_46491.fE), (.slice ao_46501 s_46491.fErrs.length cap_46502), (.slice ao_46504 s_46491.fLies.length cap_46505)]] [] [stb b_51114 27 [(.slice ao_46492 s_46491.fStart.length cap_46493), (.slice ao_46495 s_46491.fDrift.length cap_46496), (.slice ao_46498 s_46491.fFaulty.length cap_46499), (.int .i64 s_46491.fF), (.int .i64 s_46491.fE), (.slice ao_46501 s_46491.fErrs.length cap_46502), (.slice ao_46504 s_46491.fLies.length cap_46505)]])); exact w_ref34_Faulty (Z := _) (ao_18150 := ao_46492) (cap_18151 := cap_46493) (ao_18153 := ao_46495) (cap_18154 := cap_46496) (ao_18156 := ao_46498) (cap_18157 := cap_46499) (ao_18159 := ao_46501) (cap_18160 := cap_46502) (ao_18162 := ao_46504) (cap_18163 := cap_46505) (s_18149 := s_46491) (i_18165 := i_54793) (r := x_55653) w pz hs_46494 hs_46497 hs_46500 hs_46503 hs_46506 hx_55654) ?_
              refine WD.pure (i := 3) (d := 23) (by kernel_rfl) rfl (by kernel_rfl) (by kernel_rfl) rfl rfl rfl (fun _ => q_not rfl) ?_
              refine WD.pure (i := 4) (d := 24) (by kernel_rfl) rfl (by kernel_rfl) (by kernel_rfl) rfl rfl rfl (fun _ => q_move rfl) ?_
              refine WD.mid (fuel' := 13) [(1, (.slice ao_46508 l_46507.length cap_46509)), (2, (.pointer (some ⟨b_51114, 0, none⟩))), (5, (.int .i64 best_55583)), (6, (.int .i64 i_54793)), (7, (.int .i64 k_55584)), (14, (.int .i64 k_55584)), (15, (.slice ao_46508 l_46507.length cap_46509)), (16, (.int .i64 ((l_46507.length : Nat) : Int))), (17, (.bool (decide (k_55584 < ((l_46507.length : Nat) : Int))))), (20, (.agg #[(.slice ao_46492 s_46491.fStart.length cap_46493), (.slice ao_46495 s_46491.fDrift.length cap_46496), (.slice ao_46498 s_46491.fFaulty.length cap_46499), (.int .i64 s_46491.fF), (.int .i64 s_46491.fE), (.slice ao_46501 s_46491.fErrs.length cap_46502), (.slice ao_46504 s_46491.fLies.length cap_46505)])), (21, (.int .i64 i_54793)), (22, (.bool x_55653)), (23, (.bool (!x_55653))), (24, (.bool (!x_55653))), (29, (.bool b_55657))] (listedA 23 [9, 8, 7, 6, 5, 4, 3, 2, 1, 0]) ?_ (fun K_55671 => ?_)
              rotate_left
              · rcases Bool.eq_false_or_eq_true (!x_55653) with hb' | hb'
                · have hg_55672 := hb'; clear hb'
                  have hq_55673 := ite_t hb_55658 hg_55672
                  obtain ⟨x_55655, hx_55656, hq_55673⟩ := bind_elim hq_55673
                  replace hq_55673 := Option.some.inj hq_55673
                  refine WD.pin (i := 24) rfl hg_55672 ?_
                  refine WD.quiet (i := 5) (d := 25) (by kernel_rfl) rfl (by kernel_rfl) (by kernel_rfl) rfl rfl rfl (q_loadA (cs := [(.slice ao_46492 s_46491.fStart.length cap_46493), (.slice ao_46495 s_46491.fDrift.length cap_46496), (.slice ao_46498 s_46491.fFaulty.length cap_46499), (.int .i64 s_46491.fF), (.int .i64 s_46491.fE), (.slice ao_46501 s_46491.fErrs.length cap_46502), (.slice ao_46504 s_46491.fLies.length cap_46505)]) aggT_27 rfl rfl (rd_all .here)) ?_
                  refine WD.pure (i := 6) (d := 26) (by kernel_rfl) rfl (by kernel_rfl) (by kernel_rfl) rfl rfl rfl (fun _ => q_move rfl) ?_
                  refine WD.enter (i := 7) (d := 27) (by kernel_rfl) rfl (by kernel_rfl) (by kernel_rfl) rfl rfl rfl (run_call (l := [.tmp 25, .tmp 26]) Try.call35 (.cons rfl (.cons rfl .nil))) (fun w hw => by have pz := (hz.call hw (.nil : Sel [stb b_51114 27 [(.slice ao_46492 s_46491.fStart.length cap_46493), (.slice ao_46495 s_46491.fDrift.length cap_46496), (.slice ao_46498 s_46491.fFaulty.length cap_46499), (.int .i64 s_46491.fF), (.int .i64 s_46491.fE), (.slice ao_46501 s_46491.fErrs.length cap_46502), (.slice ao_46504 s_46491.fLies.length cap_46505)]] [] [stb b_51114 27 [(.slice ao_46492 s_46491.fStart.length cap_46493), (.slice ao_46495 s_46491.fDrift.length cap_46496), (.slice ao_46498 s_46491.fFaulty.length cap_46499), (.int .i64 s_46491.fF), (.int .i64 s_46491.fE), (.slice ao_46501 s_46491.fErrs.length cap_46502), (.slice ao_46504 s_46491.fLies.length cap_46505)]])); exact w_ref34_Faulty (Z := _) (ao_18150 := ao_46492) (cap_18151 := cap_46493) (ao_18153 := ao_46495) (cap_18154 := cap_46496) (ao_18156 := ao_46498) (cap_18157 := cap_46499) (ao_18159 := ao_46501) (cap_18160 := cap_46502) (ao_18162 := ao_46504) (cap_18163 := cap_46505) (s_18149 := s_46491) (i_18165 := k_55584) (r := x_55655) w pz hs_46494 hs_46497 hs_46500 hs_46503 hs_46506 hx_55656) ?_
                  refine WD.pure (i := 8) (d := 28) (by kernel_rfl) rfl (by kernel_rfl) (by kernel_rfl) rfl rfl rfl (fun _ => q_not rfl) ?_
                  refine WD.pure (i := 9) (d := 29) (by kernel_rfl) rfl (by kernel_rfl) (by kernel_rfl) rfl rfl rfl (fun _ => q_pickT rfl rfl) ?_
                  refine WD.reL (.cons .here .nil) ?_ K_55671
                  exact (.cons rfl (.cons rfl (.cons rfl (.cons rfl (.cons rfl (.cons rfl (.cons rfl (.cons rfl (.cons rfl (.cons rfl (.cons rfl (.cons rfl (.cons rfl (.cons (some_bool (Eq.symm hg_55672)) (.cons (some_bool hq_55673) .nil)))))))))))))))
                · have hg_55674 := hb'; clear hb'
                  have hq_55675 := ite_f hb_55658 hg_55674
                  replace hq_55675 := Option.some.inj hq_55675
                  refine WD.pin (i := 24) rfl hg_55674 ?_
                  refine WD.skip (i := 5) (d := 25) (by kernel_rfl) rfl (by kernel_rfl) (by kernel_rfl) rfl rfl rfl ?_
                  refine WD.skip (i := 6) (d := 26) (by kernel_rfl) rfl (by kernel_rfl) (by kernel_rfl) rfl rfl rfl ?_
                  refine WD.skip (i := 7) (d := 27) (by kernel_rfl) rfl (by kernel_rfl) (by kernel_rfl) rfl rfl rfl ?_
                  refine WD.skip (i := 8) (d := 28) (by kernel_rfl) rfl (by kernel_rfl) (by kernel_rfl) rfl rfl rfl ?_
                  refine WD.pure (i := 9) (d := 29) (by kernel_rfl) rfl (by kernel_rfl) (by kernel_rfl) rfl rfl rfl (fun _ => q_pickF rfl rfl) ?_
                  refine WD.reL (.cons .here .nil) ?_ K_55671
                  exact (.cons rfl (.cons rfl (.cons rfl (.cons rfl (.cons rfl (.cons rfl (.cons rfl (.cons rfl (.cons rfl (.cons rfl (.cons rfl (.cons rfl (.cons rfl (.cons (some_bool (Eq.symm hg_55674)) (.cons (some_bool hq_55675) .nil)))))))))))))))
              refine WD.pure (i := 10) (d := 30) (by kernel_rfl) rfl (by kernel_rfl) (by kernel_rfl) rfl rfl rfl (fun _ => q_move rfl) ?_
              refine WD.mid (fuel' := 0) [(1, (.slice ao_46508 l_46507.length cap_46509)), (2, (.pointer (some ⟨b_51114, 0, none⟩))), (5, (.int .i64 best_55583)), (6, (.int .i64 i_54793)), (7, (.int .i64 k_55584)), (14, (.int .i64 k_55584)), (15, (.slice ao_46508 l_46507.length cap_46509)), (16, (.int .i64 ((l_46507.length : Nat) : Int))), (17, (.bool (decide (k_55584 < ((l_46507.length : Nat) : Int))))), (20, (.agg #[(.slice ao_46492 s_46491.fStart.length cap_46493), (.slice ao_46495 s_46491.fDrift.length cap_46496), (.slice ao_46498 s_46491.fFaulty.length cap_46499), (.int .i64 s_46491.fF), (.int .i64 s_46491.fE), (.slice ao_46501 s_46491.fErrs.length cap_46502), (.slice ao_46504 s_46491.fLies.length cap_46505)])), (21, (.int .i64 i_54793)), (22, (.bool x_55653)), (23, (.bool (!x_55653))), (24, (.bool (!x_55653))), (29, (.bool b_55657)), (30, (.bool b_55657)), (42, (.bool (b_55657 && (decide ((i64 ((nth l_46507 i_54793) - (nth l_46507 k_55584))) > best_55583)))))] (listedA 23 [22, 21, 20, 19, 18, 17, 16, 15, 14, 13, 12, 11, 10, 9, 8, 7, 6, 5, 4, 3, 2, 1, 0]) ?_ (fun K_55684 => ?_)
              rotate_left
              · rcases Bool.eq_false_or_eq_true b_55657 with hb' | hb'
                · have hg_55685 := hb'; clear hb'
                  have c_55659 := c_55669 hg_55685
                  have c_55664 := c_55670 hg_55685
                  refine WD.pin (i := 30) rfl hg_55685 ?_
                  refine WD.pure (i := 11) (d := 31) (by kernel_rfl) rfl (by kernel_rfl) (by kernel_rfl) rfl rfl rfl (fun _ => q_move rfl) ?_
                  refine WD.pure (i := 12) (d := 32) (by kernel_rfl) rfl (by kernel_rfl) (by kernel_rfl) rfl rfl rfl (fun _ => q_move rfl) ?_
                  refine WD.znth (j := 13) (dd := 33) (by kernel_rfl) rfl (by kernel_rfl) (by kernel_rfl) rfl rfl (Z := Z) (Pr := (fun r x => r = e3 x)) elT_22 rfl rfl hs_46510 c_55659 ?_
                  rintro A_55686 r_55687 hA_55688 hl_55689 rfl
                  refine WD.quiet (i := 14) (d := 34) (by kernel_rfl) rfl (by kernel_rfl) (by kernel_rfl) rfl rfl rfl (q_load1 oneT_3 rfl (rd_z hz.pv hA_55688 rfl)) ?_
                  refine WD.pure (i := 15) (d := 35) (by kernel_rfl) rfl (by kernel_rfl) (by kernel_rfl) rfl rfl rfl (fun _ => q_move rfl) ?_
                  refine WD.pure (i := 16) (d := 36) (by kernel_rfl) rfl (by kernel_rfl) (by kernel_rfl) rfl rfl rfl (fun _ => q_move rfl) ?_
                  refine WD.znth (j := 17) (dd := 37) (by kernel_rfl) rfl (by kernel_rfl) (by kernel_rfl) rfl rfl (Z := Z) (Pr := (fun r x => r = e3 x)) elT_22 rfl rfl hs_46510 c_55664 ?_
                  rintro A_55690 r_55691 hA_55692 hl_55693 rfl
                  refine WD.quiet (i := 18) (d := 38) (by kernel_rfl) rfl (by kernel_rfl) (by kernel_rfl) rfl rfl rfl (q_load1 oneT_3 rfl (rd_z hz.pv hA_55692 rfl)) ?_
                  refine WD.pure (i := 19) (d := 39) (by kernel_rfl) rfl (by kernel_rfl) (by kernel_rfl) rfl rfl rfl (fun _ => q_sub rfl rfl rfl) ?_
                  refine WD.pure (i := 20) (d := 40) (by kernel_rfl) rfl (by kernel_rfl) (by kernel_rfl) rfl rfl rfl (fun _ => q_move rfl) ?_
                  refine WD.pure (i := 21) (d := 41) (by kernel_rfl) rfl (by kernel_rfl) (by kernel_rfl) rfl rfl rfl (fun _ => q_gtr rfl rfl) ?_
                  refine WD.pure (i := 22) (d := 42) (by kernel_rfl) rfl (by kernel_rfl) (by kernel_rfl) rfl rfl rfl (fun _ => q_pickT rfl rfl) ?_
                  refine WD.reL (.cons .here .nil) ?_ K_55684
                  exact (.cons rfl (.cons rfl (.cons rfl (.cons rfl (.cons rfl (.cons rfl (.cons rfl (.cons rfl (.cons rfl (.cons rfl (.cons rfl (.cons rfl (.cons rfl (.cons rfl (.cons rfl (.cons (some_bool (Eq.symm hg_55685)) (.cons (some_bool (and_r hg_55685)) .nil)))))))))))))))))
                · have hg_55694 := hb'; clear hb'
                  refine WD.pin (i := 30) rfl hg_55694 ?_
                  refine WD.skip (i := 11) (d := 31) (by kernel_rfl) rfl (by kernel_rfl) (by kernel_rfl) rfl rfl rfl ?_
                  refine WD.skip (i := 12) (d := 32) (by kernel_rfl) rfl (by kernel_rfl) (by kernel_rfl) rfl rfl rfl ?_
                  refine WD.skip (i := 13) (d := 33) (by kernel_rfl) rfl (by kernel_rfl) (by kernel_rfl) rfl rfl rfl ?_
                  refine WD.skip (i := 14) (d := 34) (by kernel_rfl) rfl (by kernel_rfl) (by kernel_rfl) rfl rfl rfl ?_
                  refine WD.skip (i := 15) (d := 35) (by kernel_rfl) rfl (by kernel_rfl) (by kernel_rfl) rfl rfl rfl ?_
                  refine WD.skip (i := 16) (d := 36) (by kernel_rfl) rfl (by kernel_rfl) (by kernel_rfl) rfl rfl rfl ?_
                  refine WD.skip (i := 17) (d := 37) (by kernel_rfl) rfl (by kernel_rfl) (by kernel_rfl) rfl rfl rfl ?_
                  refine WD.skip (i := 18) (d := 38) (by kernel_rfl) rfl (by kernel_rfl) (by kernel_rfl) rfl rfl rfl ?_
                  refine WD.skip (i := 19) (d := 39) (by kernel_rfl) rfl (by kernel_rfl) (by kernel_rfl) rfl rfl rfl ?_
                  refine WD.skip (i := 20) (d := 40) (by kernel_rfl) rfl (by kernel_rfl) (by kernel_rfl) rfl rfl rfl ?_
                  refine WD.skip (i := 21) (d := 41) (by kernel_rfl) rfl (by kernel_rfl) (by kernel_rfl) rfl rfl rfl ?_
                  refine WD.pure (i := 22) (d := 42) (by kernel_rfl) rfl (by kernel_rfl) (by kernel_rfl) rfl rfl rfl (fun _ => q_pickF rfl rfl) ?_
                  refine WD.reL (.cons .here .nil) ?_ K_55684
                  exact (.cons rfl (.cons rfl (.cons rfl (.cons rfl (.cons rfl (.cons rfl (.cons rfl (.cons rfl (.cons rfl (.cons rfl (.cons rfl (.cons rfl (.cons rfl (.cons rfl (.cons rfl (.cons (some_bool (Eq.symm hg_55694)) (.cons (some_bool (and_l hg_55694)) .nil)))))))))))))))))
              refine WD.done (by kernel_rfl) ?_
              refine WX.then ?_
              refine WC.cond rfl (fun hb_55695 => ?_) (fun hb_55695 => ?_)
              · replace h := ite_t h hb_55695
                obtain ⟨c_55696, h⟩ := chk_elim h
                obtain ⟨c_55701, h⟩ := chk_elim h
                refine WC.draw (fun i => [].contains i) [] rfl ?_
                refine WD.pure (i := 0) (d := 43) (by kernel_rfl) rfl (by kernel_rfl) (by kernel_rfl) rfl rfl rfl (fun _ => q_move rfl) ?_
                refine WD.pure (i := 1) (d := 44) (by kernel_rfl) rfl (by kernel_rfl) (by kernel_rfl) rfl rfl rfl (fun _ => q_move rfl) ?_
                refine WD.znth (j := 2) (dd := 45) (by kernel_rfl) rfl (by kernel_rfl) (by kernel_rfl) rfl rfl (Z := Z) (Pr := (fun r x => r = e3 x)) elT_22 rfl rfl hs_46510 c_55696 ?_
                rintro A_55706 r_55707 hA_55708 hl_55709 rfl
                refine WD.quiet (i := 3) (d := 46) (by kernel_rfl) rfl (by kernel_rfl) (by kernel_rfl) rfl rfl rfl (q_load1 oneT_3 rfl (rd_z hz.pv hA_55708 rfl)) ?_
                refine WD.pure (i := 4) (d := 47) (by kernel_rfl) rfl (by kernel_rfl) (by kernel_rfl) rfl rfl rfl (fun _ => q_move rfl) ?_
                refine WD.pure (i := 5) (d := 48) (by kernel_rfl) rfl (by kernel_rfl) (by kernel_rfl) rfl rfl rfl (fun _ => q_move rfl) ?_
                refine WD.znth (j := 6) (dd := 49) (by kernel_rfl) rfl (by kernel_rfl) (by kernel_rfl) rfl rfl (Z := Z) (Pr := (fun r x => r = e3 x)) elT_22 rfl rfl hs_46510 c_55701 ?_
                rintro A_55710 r_55711 hA_55712 hl_55713 rfl
                refine WD.quiet (i := 7) (d := 50) (by kernel_rfl) rfl (by kernel_rfl) (by kernel_rfl) rfl rfl rfl (q_load1 oneT_3 rfl (rd_z hz.pv hA_55712 rfl)) ?_
                refine WD.pure (i := 8) (d := 51) (by kernel_rfl) rfl (by kernel_rfl) (by kernel_rfl) rfl rfl rfl (fun _ => q_sub rfl rfl rfl) ?_
                refine WD.pure (i := 9) (d := 5) (by kernel_rfl) rfl (by kernel_rfl) (by kernel_rfl) rfl rfl rfl (fun _ => q_assign rfl) ?_
                refine WD.done (by kernel_rfl) ?_
                refine WX.blockNormal ?_
                exact WX.mid (G := Int) (i64 ((nth l_46507 i_54793) - (nth l_46507 k_55584))) h (.cons rfl (.cons rfl (.cons rfl (.cons rfl (.cons rfl .nil))))) (.cons .here .nil)
              · replace h := ite_f h hb_55695
                refine WC.skip ?_
                refine WX.blockNormal ?_
                exact WX.mid (G := Int) best_55583 h (.cons rfl (.cons rfl (.cons rfl (.cons rfl (.cons rfl .nil))))) (.cons .here .nil)
            · rintro best_55650 h
              replace h := (hk_55652 best_55650).symm.trans h
              refine WC.region ?_
              refine WL.quiet (d := 18) rfl rfl rfl (q_move rfl) ?_
              refine WL.quiet (d := 19) rfl rfl rfl (q_add rfl rfl rfl) ?_
              refine WL.quiet (d := 7) rfl rfl rfl (q_assign rfl) ?_
              refine WL.nil ?_
              exact WX.round (G := Nat × Int × Int) ⟨n_55586, best_55650, (i64 (k_55584 + 1))⟩ h (Nat.lt_succ_self _) (.cons rfl (.cons rfl (.cons rfl (.cons rfl (.cons rfl .nil))))) (.cons .here .nil)
          · replace h := ite_f h hb_55588
            refine WC.exit ?_
            refine WX.thenExit ?_
            refine WX.thenExit ?_
            refine WX.blockHit ?_
            exact WX.mid (G := Int) best_55583 h (.cons rfl (.cons rfl (.cons rfl (.cons rfl .nil)))) (.cons .here .nil)
        · rintro best_55451 h
          replace h := (hk_55453 best_55451).symm.trans h
          refine WX.blockNormal ?_
          exact WX.mid (G := Int) best_55451 h (.cons rfl (.cons rfl (.cons rfl (.cons rfl .nil)))) (.cons .here .nil)
      · rintro best_55448 h
        replace h := (hk_55450 best_55448).symm.trans h
        refine WC.region ?_
        refine WL.quiet (d := 12) rfl rfl rfl (q_move rfl) ?_
        refine WL.quiet (d := 13) rfl rfl rfl (q_add rfl rfl rfl) ?_
        refine WL.quiet (d := 6) rfl rfl rfl (q_assign rfl) ?_
        refine WL.nil ?_
        exact WX.round (G := Nat × Int × Int) ⟨n_54795, best_55448, (i64 (i_54793 + 1))⟩ h (Nat.lt_succ_self _) (.cons rfl (.cons rfl (.cons rfl (.cons rfl .nil)))) (.cons .here .nil)
    · replace h := ite_f h hb_54797
      refine WC.exit ?_
      refine WX.thenExit ?_
      refine WX.thenExit ?_
      refine WX.blockHit ?_
      exact WX.mid (G := Int) best_54792 h (.cons rfl .nil) .nil
  · rintro best_53869 h
    replace h := (hk_53871 best_53869).symm.trans h
    refine WC.seq ?_
    refine WC.region ?_
    refine WL.quiet (d := 52) rfl rfl rfl (q_move rfl) ?_
    refine WL.quiet (d := 4) rfl rfl rfl (q_assign rfl) ?_
    refine WL.nil ?_
    refine WX.then ?_
    refine WC.ret ?_
    obtain rfl := Option.some.inj h
    refine WX.bpRet Try.results23 (.tmp rfl .nil) (fun w hw => ?_)
    exact ⟨ret1 rfl, hw.sub .nil⟩
def m_law34_correct_L2 (s_58117 : Stimebase_Setup) (i_58133 : Int) (k_58329 : Option Bool) : Nat → Int → Option Bool
  | 0, _ => none
  | n_58356 + 1, v_58354 => if decide (v_58354 < ((s_58117.fFaulty.length : Nat) : Int)) then chk ((0 : Int) ≤ v_58354 ∧ v_58354 < ((s_58117.fFaulty.length : Nat) : Int)) (if decide ((nth s_58117.fFaulty v_58354) = i_58133) then some false else m_law34_correct_L2 s_58117 i_58133 k_58329 n_58356 (i64 (v_58354 + 1))) else k_58329
theorem m_law34_correct_L2_fuel {n : Nat} {s_58117 : Stimebase_Setup} {i_58133 : Int} {k_58329 : Option Bool} {v_58354 : Int} {r : Bool} (h : m_law34_correct_L2 s_58117 i_58133 k_58329 n v_58354 = some r) : ∃ m, n = m + 1 := by
  cases n with
  | zero => cases h
  | succ m => exact ⟨m, rfl⟩

/-- nacellelaw34.correct -/
def m_law34_correct (s_58117 : Stimebase_Setup) (i_58133 : Int) : Option Bool :=
  jp0 (some true) fun k_58329 => m_law34_correct_L2 s_58117 i_58133 k_58329 FUEL 0

set_option maxRecDepth 20000 in
theorem w_law34_correct (Z : Zp)  (ao_58118 : Option Addr) (cap_58119 : Nat) (ao_58121 : Option Addr) (cap_58122 : Nat) (ao_58124 : Option Addr) (cap_58125 : Nat) (ao_58127 : Option Addr) (cap_58128 : Nat) (ao_58130 : Option Addr) (cap_58131 : Nat) (s_58117 : Stimebase_Setup) (i_58133 : Int) (r : Bool) (w₀ : World) (hz : PZ [] w₀ Z)
    (hs_58120 : ZS Z 1 (fun r x => r = e3 x) ao_58118 cap_58119 s_58117.fStart)
    (hs_58123 : ZS Z 1 (fun r x => r = e3 x) ao_58121 cap_58122 s_58117.fDrift)
    (hs_58126 : ZS Z 1 (fun r x => r = e3 x) ao_58124 cap_58125 s_58117.fFaulty)
    (hs_58129 : ZS Z 1 (fun r x => r = e3 x) ao_58127 cap_58128 s_58117.fErrs)
    (hs_58132 : ZS Z 1 (fun r x => r = e3 x) ao_58130 cap_58131 s_58117.fLies)
    (h : m_law34_correct s_58117 i_58133 = some r) :
    Calls Try.prog 27 #[(.agg #[(.slice ao_58118 s_58117.fStart.length cap_58119), (.slice ao_58121 s_58117.fDrift.length cap_58122), (.slice ao_58124 s_58117.fFaulty.length cap_58125), (.int .i64 s_58117.fF), (.int .i64 s_58117.fE), (.slice ao_58127 s_58117.fErrs.length cap_58128), (.slice ao_58130 s_58117.fLies.length cap_58131)]), (.int .i64 i_58133)] w₀ fun e w' => e = .returned (.bool r) ∧ Hp [] w₀ w' [] := by
  unfold m_law34_correct at h
  refine Calls.ofWC (vs := [(.agg #[(.slice ao_58118 s_58117.fStart.length cap_58119), (.slice ao_58121 s_58117.fDrift.length cap_58122), (.slice ao_58124 s_58117.fFaulty.length cap_58125), (.int .i64 s_58117.fF), (.int .i64 s_58117.fE), (.slice ao_58127 s_58117.fErrs.length cap_58128), (.slice ao_58130 s_58117.fLies.length cap_58131)]), (.int .i64 i_58133)]) (pre := []) (env := [(0, (.agg #[(.slice ao_58118 s_58117.fStart.length cap_58119), (.slice ao_58121 s_58117.fDrift.length cap_58122), (.slice ao_58124 s_58117.fFaulty.length cap_58125), (.int .i64 s_58117.fF), (.int .i64 s_58117.fE), (.slice ao_58127 s_58117.fErrs.length cap_58128), (.slice ao_58130 s_58117.fLies.length cap_58131)])), (1, (.int .i64 i_58133))]) Try.func27 rfl Try.ntmps27 rfl (Hp.nil w₀ _) rfl ?_
  refine WC.seq ?_
  refine WC.region ?_
  refine WL.new (dd := 2) rfl rfl rfl (e_box (cs := [(.slice ao_58118 s_58117.fStart.length cap_58119), (.slice ao_58121 s_58117.fDrift.length cap_58122), (.slice ao_58124 s_58117.fFaulty.length cap_58125), (.int .i64 s_58117.fF), (.int .i64 s_58117.fE), (.slice ao_58127 s_58117.fErrs.length cap_58128), (.slice ao_58130 s_58117.fLies.length cap_58131)]) rfl rfl) ?_
  intro b_58258 _
  refine WL.quiet (d := 4) rfl rfl rfl (q_assign rfl) ?_
  refine WL.nil ?_
  refine WX.then ?_
  obtain ⟨k_58329, hk_58330, h⟩ := jp0_elim h
  refine WC.seqMid0 ((k_58329 = some r)) ([]) ([]) ?_ ?_
  · skip
    refine WC.seq ?_
    refine WC.region ?_
    refine WL.quiet (d := 7) rfl rfl rfl (q_fieldAddr fo_24_2 rfl rfl) ?_
    refine WL.quiet (d := 8) rfl rfl rfl (q_load1 oneT_22 rfl (rd_stb .here rfl)) ?_
    refine WL.quiet (d := 9) rfl rfl rfl (q_len Try.underlying22 rfl) ?_
    refine WL.quiet (d := 10) rfl rfl rfl (q_move rfl) ?_
    refine WL.nil ?_
    refine WX.then ?_
    refine WC.block ?_
    refine WC.loop2 (fun (n_58355 : Nat) (v_58354 : Int) => (m_law34_correct_L2 s_58117 i_58133 k_58329 n_58355 v_58354 = some r)) (fun (n_58355 : Nat) (v_58354 : Int) => [(1, (.int .i64 i_58133)), (8, (.slice ao_58124 s_58117.fFaulty.length cap_58125)), (9, (.int .i64 ((s_58117.fFaulty.length : Nat) : Int))), (10, (.int .i64 v_58354))]) (fun (n_58355 : Nat) (v_58354 : Int) => []) (fun (n_58355 : Nat) (v_58354 : Int) => n_58355) ⟨FUEL, 0⟩ h (.cons rfl (.cons rfl (.cons rfl (.cons rfl .nil)))) .nil ?_
    rintro n_58355 v_58354 h
    obtain ⟨n_58356, rfl⟩ := m_law34_correct_L2_fuel h
    rw [m_law34_correct_L2] at h
    refine WC.seq ?_
    refine WC.region ?_
    refine WL.quiet (d := 11) rfl rfl rfl (q_lss rfl rfl) ?_
    refine WL.nil ?_
    refine WX.then ?_
    refine WC.seq ?_
    refine WC.cond rfl (fun hb_58358 => ?_) (fun hb_58358 => ?_)
    · replace h := ite_t h hb_58358
      refine WC.skip ?_
      refine WX.then ?_
      refine WC.seq ?_
      refine WC.block ?_
      refine WC.seq ?_
      obtain ⟨c_58369, h⟩ := chk_elim h
      refine WC.region ?_
      refine WL.znth (dd := 12) rfl rfl (Z := Z) (Pr := (fun r x => r = e3 x)) elT_22 rfl rfl hs_58126 c_58369 ?_
      rintro A_58374 r_58375 hA_58376 hl_58377 rfl
      refine WL.quiet (d := 13) rfl rfl rfl (q_load1 oneT_3 rfl (rd_z hz.pv hA_58376 rfl)) ?_
      refine WL.quiet (d := 6) rfl rfl rfl (q_assign rfl) ?_
      refine WL.nil ?_
      refine WX.then ?_
      refine WC.seq ?_
      refine WC.region ?_
      refine WL.quiet (d := 14) rfl rfl rfl (q_move rfl) ?_
      refine WL.quiet (d := 15) rfl rfl rfl (q_move rfl) ?_
      refine WL.quiet (d := 16) rfl rfl rfl (q_eql rfl rfl) ?_
      refine WL.nil ?_
      refine WX.then ?_
      refine WC.cond rfl (fun hb_58378 => ?_) (fun hb_58378 => ?_)
      · replace h := ite_t h hb_58378
        refine WC.seq ?_
        refine WC.region ?_
        refine WL.quiet (d := 4) rfl rfl rfl (q_assign rfl) ?_
        refine WL.nil ?_
        refine WX.then ?_
        refine WC.ret ?_
        refine WX.blockRet ?_
        refine WX.thenRet ?_
        refine WX.thenRet ?_
        refine WX.blockRet ?_
        refine WX.thenRet ?_
        obtain rfl := Option.some.inj h
        refine WX.bpRet Try.results27 (.tmp rfl .nil) (fun w hw => ?_)
        exact ⟨ret1 rfl, hw.sub .nil⟩
      · replace h := ite_f h hb_58378
        refine WC.skip ?_
        refine WX.blockNormal ?_
        refine WX.then ?_
        refine WC.region ?_
        refine WL.quiet (d := 17) rfl rfl rfl (q_add rfl rfl rfl) ?_
        refine WL.quiet (d := 10) rfl rfl rfl (q_move rfl) ?_
        refine WL.nil ?_
        exact WX.round (G := Nat × Int) ⟨n_58356, (i64 (v_58354 + 1))⟩ h (Nat.lt_succ_self _) (.cons rfl (.cons rfl (.cons rfl (.cons rfl .nil)))) .nil
    · replace h := ite_f h hb_58358
      refine WC.exit ?_
      refine WX.thenExit ?_
      refine WX.thenExit ?_
      refine WX.blockHit ?_
      exact WX.mid (G := Unit) () h .nil .nil
  · rintro  h
    replace h := hk_58330.symm.trans h
    refine WC.seq ?_
    refine WC.region ?_
    refine WL.quiet (d := 4) rfl rfl rfl (q_assign rfl) ?_
    refine WL.nil ?_
    refine WX.then ?_
    refine WC.ret ?_
    obtain rfl := Option.some.inj h
    refine WX.bpRet Try.results27 (.tmp rfl .nil) (fun w hw => ?_)
    exact ⟨ret1 rfl, hw.sub .nil⟩
end Go.Proofs.Ytbejngeaocfieaa
