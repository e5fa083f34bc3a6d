/- A part of this claim's proof: models of the functions that the law reaches, with the proof that the functions compute them; plain laws about the models. No conditions beyond those in each theorem's statement. -/
import Derived.Test.YtkhiiafgikioiaaW33a
namespace Go.Proofs.Ytkhiiafgikioiaa
open Go Go.RowKit Sep
set_option linter.all false

def m_ref33_rank_L4 (l_4500 : List Int) (i_14276 : Int) (k_14897 : Int → Option Int) : Nat → Int → Int → Option Int
  | 0, _, _ => none
  | n_15138 + 1, n_15135, j_15136 => if decide (j_15136 < ((l_4500.length : Nat) : Int)) then jp1 (fun (n_15197 : Int) => m_ref33_rank_L4 l_4500 i_14276 k_14897 n_15138 n_15197 (i64 (j_15136 + 1))) fun k_15198 => chk ((0 : Int) ≤ j_15136 ∧ j_15136 < ((l_4500.length : Nat) : Int)) (chk ((0 : Int) ≤ i_14276 ∧ i_14276 < ((l_4500.length : Nat) : Int)) (chk ((decide ((nth l_4500 j_15136) < (nth l_4500 i_14276))) = false → ((0 : Int) ≤ j_15136 ∧ j_15136 < ((l_4500.length : Nat) : Int))) (chk ((decide ((nth l_4500 j_15136) < (nth l_4500 i_14276))) = false → ((0 : Int) ≤ i_14276 ∧ i_14276 < ((l_4500.length : Nat) : Int))) (if (decide ((nth l_4500 j_15136) < (nth l_4500 i_14276))) || ((decide ((nth l_4500 j_15136) = (nth l_4500 i_14276))) && (decide (j_15136 < i_14276))) then k_15198 (i64 (n_15135 + 1)) else k_15198 n_15135)))) else k_14897 n_15135
theorem m_ref33_rank_L4_fuel {n : Nat} {l_4500 : List Int} {i_14276 : Int} {k_14897 : Int → Option Int} {n_15135 : Int} {j_15136 : Int} {r : Int} (h : m_ref33_rank_L4 l_4500 i_14276 k_14897 n n_15135 j_15136 = some r) : ∃ m, n = m + 1 := by
  cases n with
  | zero => cases h
  | succ m => exact ⟨m, rfl⟩

def m_ref33_rank_L3 (l_4500 : List Int) (k_4504 : Int) (k_12521 : Option Int) : Nat → Int → Option Int
  | 0, _ => none
  | n_14278 + 1, i_14276 => if decide (i_14276 < ((l_4500.length : Nat) : Int)) then jp0 (m_ref33_rank_L3 l_4500 k_4504 k_12521 n_14278 (i64 (i_14276 + 1))) fun k_14894 => jp1 (fun (n_14896 : Int) => if decide (n_14896 = k_4504) then chk ((0 : Int) ≤ i_14276 ∧ i_14276 < ((l_4500.length : Nat) : Int)) (some (nth l_4500 i_14276)) else k_14894) fun k_14897 => m_ref33_rank_L4 l_4500 i_14276 k_14897 FUEL 0 0 else k_12521
theorem m_ref33_rank_L3_fuel {n : Nat} {l_4500 : List Int} {k_4504 : Int} {k_12521 : Option Int} {i_14276 : Int} {r : Int} (h : m_ref33_rank_L3 l_4500 k_4504 k_12521 n i_14276 = some r) : ∃ m, n = m + 1 := by
  cases n with
  | zero => cases h
  | succ m => exact ⟨m, rfl⟩

/-- nacelleref33.rank -/
def m_ref33_rank (l_4500 : List Int) (k_4504 : Int) : Option Int :=
  jp0 (some 0) fun k_12521 => m_ref33_rank_L3 l_4500 k_4504 k_12521 FUEL 0

set_option maxRecDepth 20000 in
theorem w_ref33_rank (Z : Zp) (ao_4501 : Option Addr) (cap_4502 : Nat) (l_4500 : List Int) (k_4504 : Int) (r : Int) (w₀ : World) (hz : PZ [] w₀ Z)
    (hs_4503 : ZS Z 1 (fun r x => r = e3 x) ao_4501 cap_4502 l_4500)
    (h : m_ref33_rank l_4500 k_4504 = some r) :
    Calls Try.prog 28 #[(.slice ao_4501 l_4500.length cap_4502), (.int .i64 k_4504)] w₀ fun e w' => e = .returned (.int .i64 r) ∧ Hp [] w₀ w' [] := by
  unfold m_ref33_rank at h
  refine Calls.ofWC (vs := [(.slice ao_4501 l_4500.length cap_4502), (.int .i64 k_4504)]) (pre := []) (env := [(0, (.slice ao_4501 l_4500.length cap_4502)), (1, (.int .i64 k_4504))]) Try.func28 rfl Try.ntmps28 rfl (Hp.nil w₀ _) rfl ?_
  refine WC.seq ?_
  refine WC.region ?_
  refine WL.quiet (d := 4) rfl rfl rfl (q_assign rfl) ?_
  refine WL.nil ?_
  refine WX.then ?_
  obtain ⟨k_12521, hk_12522, h⟩ := jp0_elim h
  refine WC.seqMid0 ((k_12521 = some r)) ([]) ([]) ?_ ?_
  · skip
    refine WC.seq ?_
    refine WC.region ?_
    refine WL.quiet (d := 5) rfl rfl rfl (q_assign rfl) ?_
    refine WL.nil ?_
    refine WX.then ?_
    refine WC.block ?_
    refine WC.loop2 (fun (n_14277 : Nat) (i_14276 : Int) => (m_ref33_rank_L3 l_4500 k_4504 k_12521 n_14277 i_14276 = some r)) (fun (n_14277 : Nat) (i_14276 : Int) => [(0, (.slice ao_4501 l_4500.length cap_4502)), (1, (.int .i64 k_4504)), (5, (.int .i64 i_14276))]) (fun (n_14277 : Nat) (i_14276 : Int) => []) (fun (n_14277 : Nat) (i_14276 : Int) => n_14277) ⟨FUEL, 0⟩ h (.cons rfl (.cons rfl (.cons rfl .nil))) .nil ?_
    rintro n_14277 i_14276 h
    obtain ⟨n_14278, rfl⟩ := m_ref33_rank_L3_fuel h
    rw [m_ref33_rank_L3] at h
    refine WC.seq ?_
    refine WC.seq ?_
    refine WC.region ?_
    refine WL.quiet (d := 8) rfl rfl rfl (q_move rfl) ?_
    refine WL.quiet (d := 9) rfl rfl rfl (q_move rfl) ?_
    refine WL.quiet (d := 10) rfl rfl rfl (q_len Try.underlying22 rfl) ?_
    refine WL.quiet (d := 11) rfl rfl rfl (q_lss rfl rfl) ?_
    refine WL.nil ?_
    refine WX.then ?_
    refine WC.cond rfl (fun hb_14280 => ?_) (fun hb_14280 => ?_)
    · replace h := ite_t h hb_14280
      refine WC.skip ?_
      refine WX.then ?_
      obtain ⟨k_14894, hk_14895, h⟩ := jp0_elim h
      refine WC.seqMid0 ((k_14894 = some r)) ([(0, (.slice ao_4501 l_4500.length cap_4502)), (1, (.int .i64 k_4504)), (5, (.int .i64 i_14276))]) ([]) ?_ ?_
      · skip
        refine WC.block ?_
        refine WC.seq ?_
        refine WC.region ?_
        refine WL.quiet (d := 6) rfl rfl rfl (q_assign rfl) ?_
        refine WL.nil ?_
        refine WX.then ?_
        obtain ⟨k_14897, hk_14898, h⟩ := jp1_elim h
        refine WC.seqMid1 (fun (n_14896 : Int) => (k_14897 n_14896 = some r)) (fun (n_14896 : Int) => [(0, (.slice ao_4501 l_4500.length cap_4502)), (1, (.int .i64 k_4504)), (5, (.int .i64 i_14276)), (6, (.int .i64 n_14896))]) (fun (n_14896 : Int) => []) ?_ ?_
        · skip
          refine WC.seq ?_
          refine WC.region ?_
          refine WL.quiet (d := 7) rfl rfl rfl (q_assign rfl) ?_
          refine WL.nil ?_
          refine WX.then ?_
          refine WC.block ?_
          refine WC.loop3 (fun (n_15137 : Nat) (n_15135 : Int) (j_15136 : Int) => (m_ref33_rank_L4 l_4500 i_14276 k_14897 n_15137 n_15135 j_15136 = some r)) (fun (n_15137 : Nat) (n_15135 : Int) (j_15136 : Int) => [(0, (.slice ao_4501 l_4500.length cap_4502)), (1, (.int .i64 k_4504)), (5, (.int .i64 i_14276)), (6, (.int .i64 n_15135)), (7, (.int .i64 j_15136))]) (fun (n_15137 : Nat) (n_15135 : Int) (j_15136 : Int) => []) (fun (n_15137 : Nat) (n_15135 : Int) (j_15136 : Int) => n_15137) ⟨FUEL, 0, 0⟩ h (.cons rfl (.cons rfl (.cons rfl (.cons rfl (.cons rfl .nil))))) .nil ?_
          rintro n_15137 n_15135 j_15136 h
          obtain ⟨n_15138, rfl⟩ := m_ref33_rank_L4_fuel h
          rw [m_ref33_rank_L4] at h
          refine WC.seq ?_
          refine WC.seq ?_
          refine WC.region ?_
          refine WL.quiet (d := 14) rfl rfl rfl (q_move rfl) ?_
          refine WL.quiet (d := 15) rfl rfl rfl (q_move rfl) ?_
          refine WL.quiet (d := 16) rfl rfl rfl (q_len Try.underlying22 rfl) ?_
          refine WL.quiet (d := 17) rfl rfl rfl (q_lss rfl rfl) ?_
          refine WL.nil ?_
          refine WX.then ?_
          refine WC.cond rfl (fun hb_15140 => ?_) (fun hb_15140 => ?_)
          · replace h := ite_t h hb_15140
            refine WC.skip ?_
            refine WX.then ?_
            obtain ⟨k_15198, hk_15199, h⟩ := jp1_elim h
            refine WC.seqMid1 (fun (n_15197 : Int) => (k_15198 n_15197 = some r)) (fun (n_15197 : Int) => [(0, (.slice ao_4501 l_4500.length cap_4502)), (1, (.int .i64 k_4504)), (5, (.int .i64 i_14276)), (6, (.int .i64 n_15197)), (7, (.int .i64 j_15136))]) (fun (n_15197 : Int) => []) ?_ ?_
            · skip
              refine WC.block ?_
              refine WC.seq ?_
              obtain ⟨c_15200, h⟩ := chk_elim h
              obtain ⟨c_15205, h⟩ := chk_elim h
              obtain ⟨c_15220, h⟩ := chk_elim h
              obtain ⟨c_15221, h⟩ := chk_elim h
              refine WC.draw (fun i => [].contains i) [] rfl ?_
              refine WD.pure (i := 0) (d := 20) (by kernel_rfl) rfl (by kernel_rfl) (by kernel_rfl) rfl rfl rfl (fun _ => q_move rfl) ?_
              refine WD.pure (i := 1) (d := 21) (by kernel_rfl) rfl (by kernel_rfl) (by kernel_rfl) rfl rfl rfl (fun _ => q_move rfl) ?_
              refine WD.znth (j := 2) (dd := 22) (by kernel_rfl) rfl (by kernel_rfl) (by kernel_rfl) rfl rfl elT_22 rfl rfl hs_4503 c_15200 ?_
              rintro A_15222 r_15223 hA_15224 hl_15225 rfl
              refine WD.quiet (i := 3) (d := 23) (by kernel_rfl) rfl (by kernel_rfl) (by kernel_rfl) rfl rfl rfl (q_load1 oneT_3 rfl (rd_z hz.pv hA_15224 rfl)) ?_
              refine WD.pure (i := 4) (d := 24) (by kernel_rfl) rfl (by kernel_rfl) (by kernel_rfl) rfl rfl rfl (fun _ => q_move rfl) ?_
              refine WD.pure (i := 5) (d := 25) (by kernel_rfl) rfl (by kernel_rfl) (by kernel_rfl) rfl rfl rfl (fun _ => q_move rfl) ?_
              refine WD.znth (j := 6) (dd := 26) (by kernel_rfl) rfl (by kernel_rfl) (by kernel_rfl) rfl rfl elT_22 rfl rfl hs_4503 c_15205 ?_
              rintro A_15226 r_15227 hA_15228 hl_15229 rfl
              refine WD.quiet (i := 7) (d := 27) (by kernel_rfl) rfl (by kernel_rfl) (by kernel_rfl) rfl rfl rfl (q_load1 oneT_3 rfl (rd_z hz.pv hA_15228 rfl)) ?_
              refine WD.pure (i := 8) (d := 28) (by kernel_rfl) rfl (by kernel_rfl) (by kernel_rfl) rfl rfl rfl (fun _ => q_lss rfl rfl) ?_
              refine WD.pure (i := 9) (d := 29) (by kernel_rfl) rfl (by kernel_rfl) (by kernel_rfl) rfl rfl rfl (fun _ => q_move rfl) ?_
              refine WD.mid (fuel' := 0) [(0, (.slice ao_4501 l_4500.length cap_4502)), (1, (.int .i64 k_4504)), (5, (.int .i64 i_14276)), (6, (.int .i64 n_15135)), (7, (.int .i64 j_15136)), (14, (.int .i64 j_15136)), (15, (.slice ao_4501 l_4500.length cap_4502)), (16, (.int .i64 ((l_4500.length : Nat) : Int))), (17, (.bool (decide (j_15136 < ((l_4500.length : Nat) : Int))))), (20, (.slice ao_4501 l_4500.length cap_4502)), (21, (.int .i64 j_15136)), (22, (.pointer (some A_15222))), (23, (.int .i64 (nth l_4500 j_15136))), (24, (.slice ao_4501 l_4500.length cap_4502)), (25, (.int .i64 i_14276)), (26, (.pointer (some A_15226))), (27, (.int .i64 (nth l_4500 i_14276))), (28, (.bool (decide ((nth l_4500 j_15136) < (nth l_4500 i_14276))))), (29, (.bool (decide ((nth l_4500 j_15136) < (nth l_4500 i_14276))))), (44, (.bool ((decide ((nth l_4500 j_15136) < (nth l_4500 i_14276))) || ((decide ((nth l_4500 j_15136) = (nth l_4500 i_14276))) && (decide (j_15136 < i_14276))))))] (listedA 25 [24, 23, 22, 21, 20, 19, 18, 17, 16, 15, 14, 13, 12, 11, 10, 9, 8, 7, 6, 5, 4, 3, 2, 1, 0]) ?_ (fun K_15241 => ?_)
              rotate_left
              · rcases Bool.eq_false_or_eq_true (decide ((nth l_4500 j_15136) < (nth l_4500 i_14276))) with hb' | hb'
                · have hg_15242 := hb'; clear hb'
                  refine WD.pin (i := 29) rfl hg_15242 ?_
                  refine WD.skip (i := 10) (d := 30) (by kernel_rfl) rfl (by kernel_rfl) (by kernel_rfl) rfl rfl rfl ?_
                  refine WD.skip (i := 11) (d := 31) (by kernel_rfl) rfl (by kernel_rfl) (by kernel_rfl) rfl rfl rfl ?_
                  refine WD.skip (i := 12) (d := 32) (by kernel_rfl) rfl (by kernel_rfl) (by kernel_rfl) rfl rfl rfl ?_
                  refine WD.skip (i := 13) (d := 33) (by kernel_rfl) rfl (by kernel_rfl) (by kernel_rfl) rfl rfl rfl ?_
                  refine WD.skip (i := 14) (d := 34) (by kernel_rfl) rfl (by kernel_rfl) (by kernel_rfl) rfl rfl rfl ?_
                  refine WD.skip (i := 15) (d := 35) (by kernel_rfl) rfl (by kernel_rfl) (by kernel_rfl) rfl rfl rfl ?_
                  refine WD.skip (i := 16) (d := 36) (by kernel_rfl) rfl (by kernel_rfl) (by kernel_rfl) rfl rfl rfl ?_
                  refine WD.skip (i := 17) (d := 37) (by kernel_rfl) rfl (by kernel_rfl) (by kernel_rfl) rfl rfl rfl ?_
                  refine WD.skip (i := 18) (d := 38) (by kernel_rfl) rfl (by kernel_rfl) (by kernel_rfl) rfl rfl rfl ?_
                  refine WD.skip (i := 19) (d := 39) (by kernel_rfl) rfl (by kernel_rfl) (by kernel_rfl) rfl rfl rfl ?_
                  refine WD.skip (i := 20) (d := 40) (by kernel_rfl) rfl (by kernel_rfl) (by kernel_rfl) rfl rfl rfl ?_
                  refine WD.skip (i := 21) (d := 41) (by kernel_rfl) rfl (by kernel_rfl) (by kernel_rfl) rfl rfl rfl ?_
                  refine WD.skip (i := 22) (d := 42) (by kernel_rfl) rfl (by kernel_rfl) (by kernel_rfl) rfl rfl rfl ?_
                  refine WD.skip (i := 23) (d := 43) (by kernel_rfl) rfl (by kernel_rfl) (by kernel_rfl) rfl rfl rfl ?_
                  refine WD.pure (i := 24) (d := 44) (by kernel_rfl) rfl (by kernel_rfl) (by kernel_rfl) rfl rfl rfl (fun _ => q_pickT rfl rfl) ?_
                  refine WD.restr ?_ K_15241
                  exact (.cons rfl (.cons rfl (.cons rfl (.cons rfl (.cons rfl (.cons rfl (.cons rfl (.cons rfl (.cons rfl (.cons rfl (.cons rfl (.cons rfl (.cons rfl (.cons rfl (.cons rfl (.cons rfl (.cons rfl (.cons rfl (.cons (some_bool (Eq.symm hg_15242)) (.cons (some_bool (or_l hg_15242)) .nil))))))))))))))))))))
                · have hg_15243 := hb'; clear hb'
                  have c_15210 := c_15220 hg_15243
                  have c_15215 := c_15221 hg_15243
                  refine WD.pin (i := 29) rfl hg_15243 ?_
                  refine WD.pure (i := 10) (d := 30) (by kernel_rfl) rfl (by kernel_rfl) (by kernel_rfl) rfl rfl rfl (fun _ => q_move rfl) ?_
                  refine WD.pure (i := 11) (d := 31) (by kernel_rfl) rfl (by kernel_rfl) (by kernel_rfl) rfl rfl rfl (fun _ => q_move rfl) ?_
                  refine WD.znth (j := 12) (dd := 32) (by kernel_rfl) rfl (by kernel_rfl) (by kernel_rfl) rfl rfl elT_22 rfl rfl hs_4503 c_15210 ?_
                  rintro A_15244 r_15245 hA_15246 hl_15247 rfl
                  refine WD.quiet (i := 13) (d := 33) (by kernel_rfl) rfl (by kernel_rfl) (by kernel_rfl) rfl rfl rfl (q_load1 oneT_3 rfl (rd_z hz.pv hA_15246 rfl)) ?_
                  refine WD.pure (i := 14) (d := 34) (by kernel_rfl) rfl (by kernel_rfl) (by kernel_rfl) rfl rfl rfl (fun _ => q_move rfl) ?_
                  refine WD.pure (i := 15) (d := 35) (by kernel_rfl) rfl (by kernel_rfl) (by kernel_rfl) rfl rfl rfl (fun _ => q_move rfl) ?_
                  refine WD.znth (j := 16) (dd := 36) (by kernel_rfl) rfl (by kernel_rfl) (by kernel_rfl) rfl rfl elT_22 rfl rfl hs_4503 c_15215 ?_
                  rintro A_15248 r_15249 hA_15250 hl_15251 rfl
                  refine WD.quiet (i := 17) (d := 37) (by kernel_rfl) rfl (by kernel_rfl) (by kernel_rfl) rfl rfl rfl (q_load1 oneT_3 rfl (rd_z hz.pv hA_15250 rfl)) ?_
                  refine WD.pure (i := 18) (d := 38) (by kernel_rfl) rfl (by kernel_rfl) (by kernel_rfl) rfl rfl rfl (fun _ => q_eql rfl rfl) ?_
                  refine WD.pure (i := 19) (d := 39) (by kernel_rfl) rfl (by kernel_rfl) (by kernel_rfl) rfl rfl rfl (fun _ => q_move rfl) ?_
                  refine WD.mid (fuel' := 1) [(0, (.slice ao_4501 l_4500.length cap_4502)), (1, (.int .i64 k_4504)), (5, (.int .i64 i_14276)), (6, (.int .i64 n_15135)), (7, (.int .i64 j_15136)), (14, (.int .i64 j_15136)), (15, (.slice ao_4501 l_4500.length cap_4502)), (16, (.int .i64 ((l_4500.length : Nat) : Int))), (17, (.bool (decide (j_15136 < ((l_4500.length : Nat) : Int))))), (20, (.slice ao_4501 l_4500.length cap_4502)), (21, (.int .i64 j_15136)), (22, (.pointer (some A_15222))), (23, (.int .i64 (nth l_4500 j_15136))), (24, (.slice ao_4501 l_4500.length cap_4502)), (25, (.int .i64 i_14276)), (26, (.pointer (some A_15226))), (27, (.int .i64 (nth l_4500 i_14276))), (28, (.bool (decide ((nth l_4500 j_15136) < (nth l_4500 i_14276))))), (29, (.bool false)), (30, (.slice ao_4501 l_4500.length cap_4502)), (31, (.int .i64 j_15136)), (32, (.pointer (some A_15244))), (33, (.int .i64 (nth l_4500 j_15136))), (34, (.slice ao_4501 l_4500.length cap_4502)), (35, (.int .i64 i_14276)), (36, (.pointer (some A_15248))), (37, (.int .i64 (nth l_4500 i_14276))), (38, (.bool (decide ((nth l_4500 j_15136) = (nth l_4500 i_14276))))), (39, (.bool (decide ((nth l_4500 j_15136) = (nth l_4500 i_14276))))), (43, (.bool ((decide ((nth l_4500 j_15136) = (nth l_4500 i_14276))) && (decide (j_15136 < i_14276)))))] (listedA 25 [23, 22, 21, 20, 19, 18, 17, 16, 15, 14, 13, 12, 11, 10, 9, 8, 7, 6, 5, 4, 3, 2, 1, 0]) ?_ (fun K_15252 => ?_)
                  rotate_left
                  · rcases Bool.eq_false_or_eq_true (decide ((nth l_4500 j_15136) = (nth l_4500 i_14276))) with hb' | hb'
                    · have hg_15253 := hb'; clear hb'
                      refine WD.pin (i := 39) rfl hg_15253 ?_
                      refine WD.pure (i := 20) (d := 40) (by kernel_rfl) rfl (by kernel_rfl) (by kernel_rfl) rfl rfl rfl (fun _ => q_move rfl) ?_
                      refine WD.pure (i := 21) (d := 41) (by kernel_rfl) rfl (by kernel_rfl) (by kernel_rfl) rfl rfl rfl (fun _ => q_move rfl) ?_
                      refine WD.pure (i := 22) (d := 42) (by kernel_rfl) rfl (by kernel_rfl) (by kernel_rfl) rfl rfl rfl (fun _ => q_lss rfl rfl) ?_
                      refine WD.pure (i := 23) (d := 43) (by kernel_rfl) rfl (by kernel_rfl) (by kernel_rfl) rfl rfl rfl (fun _ => q_pickT rfl rfl) ?_
                      refine WD.restr ?_ K_15252
                      exact (.cons rfl (.cons rfl (.cons rfl (.cons rfl (.cons rfl (.cons rfl (.cons rfl (.cons rfl (.cons rfl (.cons rfl (.cons rfl (.cons rfl (.cons rfl (.cons rfl (.cons rfl (.cons rfl (.cons rfl (.cons rfl (.cons rfl (.cons rfl (.cons rfl (.cons rfl (.cons rfl (.cons rfl (.cons rfl (.cons rfl (.cons rfl (.cons rfl (.cons (some_bool (Eq.symm hg_15253)) (.cons (some_bool (and_r hg_15253)) .nil))))))))))))))))))))))))))))))
                    · have hg_15254 := hb'; clear hb'
                      refine WD.pin (i := 39) rfl hg_15254 ?_
                      refine WD.skip (i := 20) (d := 40) (by kernel_rfl) rfl (by kernel_rfl) (by kernel_rfl) rfl rfl rfl ?_
                      refine WD.skip (i := 21) (d := 41) (by kernel_rfl) rfl (by kernel_rfl) (by kernel_rfl) rfl rfl rfl ?_
                      refine WD.skip (i := 22) (d := 42) (by kernel_rfl) rfl (by kernel_rfl) (by kernel_rfl) rfl rfl rfl ?_
                      refine WD.pure (i := 23) (d := 43) (by kernel_rfl) rfl (by kernel_rfl) (by kernel_rfl) rfl rfl rfl (fun _ => q_pickF rfl rfl) ?_
                      refine WD.restr ?_ K_15252
                      exact (.cons rfl (.cons rfl (.cons rfl (.cons rfl (.cons rfl (.cons rfl (.cons rfl (.cons rfl (.cons rfl (.cons rfl (.cons rfl (.cons rfl (.cons rfl (.cons rfl (.cons rfl (.cons rfl (.cons rfl (.cons rfl (.cons rfl (.cons rfl (.cons rfl (.cons rfl (.cons rfl (.cons rfl (.cons rfl (.cons rfl (.cons rfl (.cons rfl (.cons (some_bool (Eq.symm hg_15254)) (.cons (some_bool (and_l hg_15254)) .nil))))))))))))))))))))))))))))))
                  refine WD.pure (i := 24) (d := 44) (by kernel_rfl) rfl (by kernel_rfl) (by kernel_rfl) rfl rfl rfl (fun _ => q_pickF rfl rfl) ?_
                  refine WD.restr ?_ K_15241
                  exact (.cons rfl (.cons rfl (.cons rfl (.cons rfl (.cons rfl (.cons rfl (.cons rfl (.cons rfl (.cons rfl (.cons rfl (.cons rfl (.cons rfl (.cons rfl (.cons rfl (.cons rfl (.cons rfl (.cons rfl (.cons rfl (.cons (some_bool (Eq.symm hg_15243)) (.cons (some_bool (or_r hg_15243)) .nil))))))))))))))))))))
              refine WD.done (by kernel_rfl) ?_
              refine WX.then ?_
              refine WC.cond rfl (fun hb_15255 => ?_) (fun hb_15255 => ?_)
              · replace h := ite_t h hb_15255
                refine WC.region ?_
                refine WL.quiet (d := 45) rfl rfl rfl (q_move rfl) ?_
                refine WL.quiet (d := 46) rfl rfl rfl (q_add rfl rfl rfl) ?_
                refine WL.quiet (d := 6) rfl rfl rfl (q_assign rfl) ?_
                refine WL.nil ?_
                refine WX.blockNormal ?_
                exact WX.mid (G := Int) (i64 (n_15135 + 1)) h (.cons rfl (.cons rfl (.cons rfl (.cons rfl (.cons rfl .nil))))) .nil
              · replace h := ite_f h hb_15255
                refine WC.skip ?_
                refine WX.blockNormal ?_
                exact WX.mid (G := Int) n_15135 h (.cons rfl (.cons rfl (.cons rfl (.cons rfl (.cons rfl .nil))))) .nil
            · rintro n_15197 h
              replace h := (hk_15199 n_15197).symm.trans h
              refine WC.region ?_
              refine WL.quiet (d := 18) rfl rfl rfl (q_move rfl) ?_
              refine WL.quiet (d := 19) rfl rfl rfl (q_add rfl rfl rfl) ?_
              refine WL.quiet (d := 7) rfl rfl rfl (q_assign rfl) ?_
              refine WL.nil ?_
              exact WX.round (G := Nat × Int × Int) ⟨n_15138, n_15197, (i64 (j_15136 + 1))⟩ h (Nat.lt_succ_self _) (.cons rfl (.cons rfl (.cons rfl (.cons rfl (.cons rfl .nil))))) .nil
          · replace h := ite_f h hb_15140
            refine WC.exit ?_
            refine WX.thenExit ?_
            refine WX.thenExit ?_
            refine WX.blockHit ?_
            exact WX.mid (G := Int) n_15135 h (.cons rfl (.cons rfl (.cons rfl (.cons rfl .nil)))) .nil
        · rintro n_14896 h
          replace h := (hk_14898 n_14896).symm.trans h
          refine WC.seq ?_
          refine WC.region ?_
          refine WL.quiet (d := 47) rfl rfl rfl (q_move rfl) ?_
          refine WL.quiet (d := 48) rfl rfl rfl (q_move rfl) ?_
          refine WL.quiet (d := 49) rfl rfl rfl (q_eql rfl rfl) ?_
          refine WL.nil ?_
          refine WX.then ?_
          refine WC.cond rfl (fun hb_15256 => ?_) (fun hb_15256 => ?_)
          · replace h := ite_t h hb_15256
            refine WC.seq ?_
            obtain ⟨c_15257, h⟩ := chk_elim h
            refine WC.region ?_
            refine WL.quiet (d := 50) rfl rfl rfl (q_move rfl) ?_
            refine WL.quiet (d := 51) rfl rfl rfl (q_move rfl) ?_
            refine WL.znth (dd := 52) rfl rfl elT_22 rfl rfl hs_4503 c_15257 ?_
            rintro A_15262 r_15263 hA_15264 hl_15265 rfl
            refine WL.quiet (d := 53) rfl rfl rfl (q_load1 oneT_3 rfl (rd_z hz.pv hA_15264 rfl)) ?_
            refine WL.quiet (d := 4) rfl rfl rfl (q_assign rfl) ?_
            refine WL.nil ?_
            refine WX.then ?_
            refine WC.ret ?_
            refine WX.blockRet ?_
            refine WX.thenRet ?_
            refine WX.thenRet ?_
            refine WX.blockRet ?_
            refine WX.thenRet ?_
            obtain rfl := Option.some.inj h
            refine WX.bpRet Try.results28 (.tmp rfl .nil) (fun w hw => ?_)
            exact ⟨ret1 rfl, hw.sub .nil⟩
          · replace h := ite_f h hb_15256
            refine WC.skip ?_
            refine WX.blockNormal ?_
            exact WX.mid (G := Unit) () h (.cons rfl (.cons rfl (.cons rfl .nil))) .nil
      · rintro  h
        replace h := hk_14895.symm.trans h
        refine WC.region ?_
        refine WL.quiet (d := 12) rfl rfl rfl (q_move rfl) ?_
        refine WL.quiet (d := 13) rfl rfl rfl (q_add rfl rfl rfl) ?_
        refine WL.quiet (d := 5) rfl rfl rfl (q_assign rfl) ?_
        refine WL.nil ?_
        exact WX.round (G := Nat × Int) ⟨n_14278, (i64 (i_14276 + 1))⟩ h (Nat.lt_succ_self _) (.cons rfl (.cons rfl (.cons rfl .nil))) .nil
    · replace h := ite_f h hb_14280
      refine WC.exit ?_
      refine WX.thenExit ?_
      refine WX.thenExit ?_
      refine WX.blockHit ?_
      exact WX.mid (G := Unit) () h .nil .nil
  · rintro  h
    replace h := hk_12522.symm.trans h
    refine WC.seq ?_
    refine WC.region ?_
    refine WL.quiet (d := 4) rfl rfl rfl (q_assign rfl) ?_
    refine WL.nil ?_
    refine WX.then ?_
    refine WC.ret ?_
    obtain rfl := Option.some.inj h
    refine WX.bpRet Try.results28 (.tmp rfl .nil) (fun w hw => ?_)
    exact ⟨ret1 rfl, hw.sub .nil⟩
def m_ref33_Midpoint_L2 (l_4298 : List Int) (k_15369 : Option (Int × Int)) : Nat → Int → Option (Int × Int)
  | 0, _ => none
  | n_15426 + 1, i_15424 => if decide (i_15424 < ((l_4298.length : Nat) : Int)) then chk ((0 : Int) ≤ i_15424 ∧ i_15424 < ((l_4298.length : Nat) : Int)) ((m_ref33_In (nth l_4298 i_15424)).bind fun x_15446 => if !x_15446 then some (0, 2) else m_ref33_Midpoint_L2 l_4298 k_15369 n_15426 (i64 (i_15424 + 1))) else k_15369
theorem m_ref33_Midpoint_L2_fuel {n : Nat} {l_4298 : List Int} {k_15369 : Option (Int × Int)} {i_15424 : Int} {r : Int × Int} (h : m_ref33_Midpoint_L2 l_4298 k_15369 n i_15424 = some r) : ∃ m, n = m + 1 := by
  cases n with
  | zero => cases h
  | succ m => exact ⟨m, rfl⟩

/-- nacelleref33.Midpoint -/
def m_ref33_Midpoint (l_4298 : List Int) (f_4302 : Int) : Option (Int × Int) :=
  (m_ref33_Fits ((l_4298.length : Nat) : Int) f_4302).bind fun x_15284 => if !x_15284 then some (0, 2) else jp0 ((m_ref33_rank l_4298 f_4302).bind fun x_15453 => (m_ref33_rank l_4298 (i64 ((i64 (((l_4298.length : Nat) : Int) - 1)) - f_4302))).bind fun x_15455 => jp1 (fun (half_15460 : Int) => some (half_15460, 0)) fun k_15461 => if (decide ((i64 (x_15453 + x_15455)) < 0)) && (decide ((Int.tmod (i64 (x_15453 + x_15455)) 2) ≠ 0)) then k_15461 (i64 ((i64 (Int.tdiv (i64 (x_15453 + x_15455)) 2)) - 1)) else k_15461 (i64 (Int.tdiv (i64 (x_15453 + x_15455)) 2))) fun k_15369 => m_ref33_Midpoint_L2 l_4298 k_15369 FUEL 0

set_option maxRecDepth 20000 in
theorem w_ref33_Midpoint (Z : Zp) (ao_4299 : Option Addr) (cap_4300 : Nat) (l_4298 : List Int) (f_4302 : Int) (r : Int × Int) (w₀ : World) (hz : PZ [] w₀ Z)
    (hs_4301 : ZS Z 1 (fun r x => r = e3 x) ao_4299 cap_4300 l_4298)
    (h : m_ref33_Midpoint l_4298 f_4302 = some r) :
    Calls Try.prog 12 #[(.slice ao_4299 l_4298.length cap_4300), (.int .i64 f_4302)] w₀ fun e w' => e = .returned (.tuple #[(.int .i64 r.1), (.int .i64 r.2)]) ∧ Hp [] w₀ w' [] := by
  unfold m_ref33_Midpoint at h
  refine Calls.ofWC (vs := [(.slice ao_4299 l_4298.length cap_4300), (.int .i64 f_4302)]) (pre := []) (env := [(0, (.slice ao_4299 l_4298.length cap_4300)), (1, (.int .i64 f_4302))]) Try.func12 rfl Try.ntmps12 rfl (Hp.nil w₀ _) rfl ?_
  refine WC.seq ?_
  refine WC.region ?_
  refine WL.quiet (d := 4) rfl rfl rfl (q_assign rfl) ?_
  refine WL.quiet (d := 5) rfl rfl rfl (q_assign rfl) ?_
  refine WL.nil ?_
  refine WX.then ?_
  refine WC.seq ?_
  refine WC.seq ?_
  obtain ⟨x_15284, hx_15285, h⟩ := bind_elim h
  refine WC.region ?_
  refine WL.quiet (d := 9) rfl rfl rfl (q_move rfl) ?_
  refine WL.quiet (d := 10) rfl rfl rfl (q_len Try.underlying22 rfl) ?_
  refine WL.quiet (d := 11) rfl rfl rfl (q_move rfl) ?_
  refine WL.callD (dd := 12) rfl rfl rfl (run_call (l := [.tmp 10, .tmp 11]) Try.call26 (.cons rfl (.cons rfl .nil))) (.nil : Sel [] [] []) (fun w hw => by have pz := (hz.call hw (.nil : Sel [] [] [])); exact w_ref33_Fits (Z := _)  (n_4303 := ((l_4298.length : Nat) : Int)) (f_4304 := f_4302) (r := x_15284) w pz  hx_15285) ?_
  refine WL.quiet (d := 13) rfl rfl rfl (q_not rfl) ?_
  refine WL.nil ?_
  refine WX.then ?_
  refine WC.cond rfl (fun hb_15286 => ?_) (fun hb_15286 => ?_)
  · replace h := ite_t h hb_15286
    refine WC.seq ?_
    refine WC.region ?_
    refine WL.quiet (d := 4) rfl rfl rfl (q_assign rfl) ?_
    refine WL.quiet (d := 5) rfl rfl rfl (q_assign rfl) ?_
    refine WL.nil ?_
    refine WX.then ?_
    refine WC.ret ?_
    refine WX.thenRet ?_
    obtain rfl := Option.some.inj h
    refine WX.bpRet Try.results12 (.tmp rfl (.tmp rfl .nil)) (fun w hw => ?_)
    exact ⟨ret2 rfl rfl, hw.sub .nil⟩
  · replace h := ite_f h hb_15286
    refine WC.skip ?_
    refine WX.then ?_
    obtain ⟨k_15369, hk_15370, h⟩ := jp0_elim h
    refine WC.seqMid0 ((k_15369 = some r)) ([(0, (.slice ao_4299 l_4298.length cap_4300)), (1, (.int .i64 f_4302))]) ([]) ?_ ?_
    · skip
      refine WC.seq ?_
      refine WC.region ?_
      refine WL.quiet (d := 6) rfl rfl rfl (q_assign rfl) ?_
      refine WL.nil ?_
      refine WX.then ?_
      refine WC.block ?_
      refine WC.loop2 (fun (n_15425 : Nat) (i_15424 : Int) => (m_ref33_Midpoint_L2 l_4298 k_15369 n_15425 i_15424 = some r)) (fun (n_15425 : Nat) (i_15424 : Int) => [(0, (.slice ao_4299 l_4298.length cap_4300)), (1, (.int .i64 f_4302)), (6, (.int .i64 i_15424))]) (fun (n_15425 : Nat) (i_15424 : Int) => []) (fun (n_15425 : Nat) (i_15424 : Int) => n_15425) ⟨FUEL, 0⟩ h (.cons rfl (.cons rfl (.cons rfl .nil))) .nil ?_
      rintro n_15425 i_15424 h
      obtain ⟨n_15426, rfl⟩ := m_ref33_Midpoint_L2_fuel h
      rw [m_ref33_Midpoint_L2] at h
      refine WC.seq ?_
      refine WC.seq ?_
      refine WC.region ?_
      refine WL.quiet (d := 14) rfl rfl rfl (q_move rfl) ?_
      refine WL.quiet (d := 15) rfl rfl rfl (q_move rfl) ?_
      refine WL.quiet (d := 16) rfl rfl rfl (q_len Try.underlying22 rfl) ?_
      refine WL.quiet (d := 17) rfl rfl rfl (q_lss rfl rfl) ?_
      refine WL.nil ?_
      refine WX.then ?_
      refine WC.cond rfl (fun hb_15428 => ?_) (fun hb_15428 => ?_)
      · replace h := ite_t h hb_15428
        refine WC.skip ?_
        refine WX.then ?_
        refine WC.seq ?_
        refine WC.block ?_
        refine WC.seq ?_
        obtain ⟨c_15441, h⟩ := chk_elim h
        obtain ⟨x_15446, hx_15447, h⟩ := bind_elim h
        refine WC.region ?_
        refine WL.quiet (d := 20) rfl rfl rfl (q_move rfl) ?_
        refine WL.quiet (d := 21) rfl rfl rfl (q_move rfl) ?_
        refine WL.znth (dd := 22) rfl rfl elT_22 rfl rfl hs_4301 c_15441 ?_
        rintro A_15448 r_15449 hA_15450 hl_15451 rfl
        refine WL.quiet (d := 23) rfl rfl rfl (q_load1 oneT_3 rfl (rd_z hz.pv hA_15450 rfl)) ?_
        refine WL.callD (dd := 24) rfl rfl rfl (run_call (l := [.tmp 23]) Try.call27 (.cons rfl .nil)) (.nil : Sel [] [] []) (fun w hw => by have pz := (hz.call hw (.nil : Sel [] [] [])); exact w_ref33_In (Z := _)  (t_4335 := (nth l_4298 i_15424)) (r := x_15446) w pz  hx_15447) ?_
        refine WL.quiet (d := 25) rfl rfl rfl (q_not rfl) ?_
        refine WL.nil ?_
        refine WX.then ?_
        refine WC.cond rfl (fun hb_15452 => ?_) (fun hb_15452 => ?_)
        · replace h := ite_t h hb_15452
          refine WC.seq ?_
          refine WC.region ?_
          refine WL.quiet (d := 4) rfl rfl rfl (q_assign rfl) ?_
          refine WL.quiet (d := 5) rfl rfl rfl (q_assign rfl) ?_
          refine WL.nil ?_
          refine WX.then ?_
          refine WC.ret ?_
          refine WX.blockRet ?_
          refine WX.thenRet ?_
          refine WX.thenRet ?_
          refine WX.blockRet ?_
          refine WX.thenRet ?_
          obtain rfl := Option.some.inj h
          refine WX.bpRet Try.results12 (.tmp rfl (.tmp rfl .nil)) (fun w hw => ?_)
          exact ⟨ret2 rfl rfl, hw.sub .nil⟩
        · replace h := ite_f h hb_15452
          refine WC.skip ?_
          refine WX.blockNormal ?_
          refine WX.then ?_
          refine WC.region ?_
          refine WL.quiet (d := 18) rfl rfl rfl (q_move rfl) ?_
          refine WL.quiet (d := 19) rfl rfl rfl (q_add rfl rfl rfl) ?_
          refine WL.quiet (d := 6) rfl rfl rfl (q_assign rfl) ?_
          refine WL.nil ?_
          exact WX.round (G := Nat × Int) ⟨n_15426, (i64 (i_15424 + 1))⟩ h (Nat.lt_succ_self _) (.cons rfl (.cons rfl (.cons rfl .nil))) .nil
      · replace h := ite_f h hb_15428
        refine WC.exit ?_
        refine WX.thenExit ?_
        refine WX.thenExit ?_
        refine WX.blockHit ?_
        exact WX.mid (G := Unit) () h (.cons rfl (.cons rfl .nil)) .nil
    · rintro  h
      replace h := hk_15370.symm.trans h
      refine WC.seq ?_
      obtain ⟨x_15453, hx_15454, h⟩ := bind_elim h
      obtain ⟨x_15455, hx_15456, h⟩ := bind_elim h
      refine WC.region ?_
      refine WL.quiet (d := 26) rfl rfl rfl (q_move rfl) ?_
      refine WL.quiet (d := 27) rfl rfl rfl (q_move rfl) ?_
      refine WL.callD (dd := 28) rfl rfl rfl (run_call (l := [.tmp 26, .tmp 27]) Try.call28 (.cons rfl (.cons rfl .nil))) (.nil : Sel [] [] []) (fun w hw => by have pz := (hz.call hw (.nil : Sel [] [] [])); exact w_ref33_rank (Z := _) (ao_4501 := ao_4299) (cap_4502 := cap_4300) (l_4500 := l_4298) (k_4504 := f_4302) (r := x_15453) w pz hs_4301 hx_15454) ?_
      refine WL.quiet (d := 29) rfl rfl rfl (q_move rfl) ?_
      refine WL.quiet (d := 30) rfl rfl rfl (q_move rfl) ?_
      refine WL.quiet (d := 31) rfl rfl rfl (q_len Try.underlying22 rfl) ?_
      refine WL.quiet (d := 32) rfl rfl rfl (q_sub rfl rfl rfl) ?_
      refine WL.quiet (d := 33) rfl rfl rfl (q_move rfl) ?_
      refine WL.quiet (d := 34) rfl rfl rfl (q_sub rfl rfl rfl) ?_
      refine WL.callD (dd := 35) rfl rfl rfl (run_call (l := [.tmp 29, .tmp 34]) Try.call28 (.cons rfl (.cons rfl .nil))) (.nil : Sel [] [] []) (fun w hw => by have pz := (hz.call hw (.nil : Sel [] [] [])); exact w_ref33_rank (Z := _) (ao_4501 := ao_4299) (cap_4502 := cap_4300) (l_4500 := l_4298) (k_4504 := (i64 ((i64 (((l_4298.length : Nat) : Int) - 1)) - f_4302))) (r := x_15455) w pz hs_4301 hx_15456) ?_
      refine WL.quiet (d := 36) rfl rfl rfl (q_add rfl rfl rfl) ?_
      refine WL.quiet (d := 7) rfl rfl rfl (q_assign rfl) ?_
      refine WL.nil ?_
      refine WX.then ?_
      refine WC.seq ?_
      refine WC.region ?_
      refine WL.quiet (d := 37) rfl rfl rfl (q_move rfl) ?_
      refine WL.quiet (d := 38) rfl rfl rfl (q_quo rfl rfl (by decide) rfl) ?_
      refine WL.quiet (d := 8) rfl rfl rfl (q_assign rfl) ?_
      refine WL.nil ?_
      refine WX.then ?_
      obtain ⟨k_15461, hk_15462, h⟩ := jp1_elim h
      refine WC.seqMid1 (fun (half_15460 : Int) => (k_15461 half_15460 = some r)) (fun (half_15460 : Int) => [(8, (.int .i64 half_15460))]) (fun (half_15460 : Int) => []) ?_ ?_
      · skip
        refine WC.seq ?_
        refine WC.region ?_
        refine WL.quiet (d := 39) rfl rfl rfl (q_move rfl) ?_
        refine WL.quiet (d := 40) rfl rfl rfl (q_lss rfl rfl) ?_
        refine WL.quiet (d := 41) rfl rfl rfl (q_move rfl) ?_
        refine WL.cut0 True [(8, (.int .i64 (i64 (Int.tdiv (i64 (x_15453 + x_15455)) 2)))), (45, (.bool ((decide ((i64 (x_15453 + x_15455)) < 0)) && (decide ((Int.tmod (i64 (x_15453 + x_15455)) 2) ≠ 0)))))] [] 4 ?_ (fun _ => ?_)
        · rcases Bool.eq_false_or_eq_true (decide ((i64 (x_15453 + x_15455)) < 0)) with hb' | hb'
          · have hg_15463 := hb'; clear hb'
            refine WL.pin (i := 41) rfl hg_15463 ?_
            refine WL.quiet (d := 42) rfl rfl rfl (q_move rfl) ?_
            refine WL.quiet (d := 43) rfl rfl rfl (q_rem rfl rfl (by decide) rfl) ?_
            refine WL.quiet (d := 44) rfl rfl rfl (q_neq rfl rfl) ?_
            refine WL.quiet (d := 45) rfl rfl rfl (q_pickT rfl rfl) ?_
            exact WL.cutEnd () trivial (.cons rfl (.cons (some_bool (and_r hg_15463)) .nil)) .nil
          · have hg_15464 := hb'; clear hb'
            refine WL.pin (i := 41) rfl hg_15464 ?_
            refine WL.skip rfl rfl rfl ?_
            refine WL.skip rfl rfl rfl ?_
            refine WL.skip rfl rfl rfl ?_
            refine WL.quiet (d := 45) rfl rfl rfl (q_pickF rfl rfl) ?_
            exact WL.cutEnd () trivial (.cons rfl (.cons (some_bool (and_l hg_15464)) .nil)) .nil
        · skip
          refine WL.nil ?_
          refine WX.then ?_
          refine WC.cond rfl (fun hb_15465 => ?_) (fun hb_15465 => ?_)
          · replace h := ite_t h hb_15465
            refine WC.region ?_
            refine WL.quiet (d := 46) rfl rfl rfl (q_move rfl) ?_
            refine WL.quiet (d := 47) rfl rfl rfl (q_sub rfl rfl rfl) ?_
            refine WL.quiet (d := 8) rfl rfl rfl (q_assign rfl) ?_
            refine WL.nil ?_
            exact WX.mid (G := Int) (i64 ((i64 (Int.tdiv (i64 (x_15453 + x_15455)) 2)) - 1)) h (.cons rfl .nil) .nil
          · replace h := ite_f h hb_15465
            refine WC.skip ?_
            exact WX.mid (G := Int) (i64 (Int.tdiv (i64 (x_15453 + x_15455)) 2)) h (.cons rfl .nil) .nil
      · rintro half_15460 h
        replace h := (hk_15462 half_15460).symm.trans h
        refine WC.seq ?_
        refine WC.region ?_
        refine WL.quiet (d := 48) rfl rfl rfl (q_move rfl) ?_
        refine WL.quiet (d := 4) rfl rfl rfl (q_assign rfl) ?_
        refine WL.quiet (d := 5) rfl rfl rfl (q_assign rfl) ?_
        refine WL.nil ?_
        refine WX.then ?_
        refine WC.ret ?_
        obtain rfl := Option.some.inj h
        refine WX.bpRet Try.results12 (.tmp rfl (.tmp rfl .nil)) (fun w hw => ?_)
        exact ⟨ret2 rfl rfl, hw.sub .nil⟩
def m_ref33_Suspects_L2 (l_15476 : List Int) (x_15928 : Int × Int) (width_15481 : Int) (k_16154 : (List Int) → Option (List Int × Int)) : Nat → (List Int) → Int → Option (List Int × Int)
  | 0, _, _ => none
  | n_16304 + 1, out_16298, i_16301 => if decide (i_16301 < ((l_15476.length : Nat) : Int)) then jp1 (fun (out_16336 : List Int) => m_ref33_Suspects_L2 l_15476 x_15928 width_15481 k_16154 n_16304 out_16336 (i64 (i_16301 + 1))) fun k_16339 => chk ((0 : Int) ≤ i_16301 ∧ i_16301 < ((l_15476.length : Nat) : Int)) (chk ((decide ((i64 ((nth l_15476 i_16301) - x_15928.1)) > width_15481)) = false → ((0 : Int) ≤ i_16301 ∧ i_16301 < ((l_15476.length : Nat) : Int))) (if (decide ((i64 ((nth l_15476 i_16301) - x_15928.1)) > width_15481)) || (decide ((i64 (x_15928.1 - (nth l_15476 i_16301))) > width_15481)) then chk ((((out_16298 ++ [i_16301]).length : Nat) : Int) * 8 ≤ 140737488355328 ∧ (((out_16298 ++ [i_16301]).length : Nat) : Int) ≤ 4611686018427387904) (k_16339 (out_16298 ++ [i_16301])) else k_16339 out_16298)) else k_16154 out_16298
theorem m_ref33_Suspects_L2_fuel {n : Nat} {l_15476 : List Int} {x_15928 : Int × Int} {width_15481 : Int} {k_16154 : (List Int) → Option (List Int × Int)} {out_16298 : List Int} {i_16301 : Int} {r : List Int × Int} (h : m_ref33_Suspects_L2 l_15476 x_15928 width_15481 k_16154 n out_16298 i_16301 = some r) : ∃ m, n = m + 1 := by
  cases n with
  | zero => cases h
  | succ m => exact ⟨m, rfl⟩

/-- nacelleref33.Suspects -/
def m_ref33_Suspects (l_15476 : List Int) (f_15480 : Int) (width_15481 : Int) : Option (List Int × Int) :=
  (m_ref33_Midpoint l_15476 f_15480).bind fun x_15928 => if (decide (x_15928.2 ≠ 0)) || (decide (width_15481 < 0)) then some (([] : List Int), 2) else jp1 (fun (out_16151 : List Int) => some (out_16151, 0)) fun k_16154 => m_ref33_Suspects_L2 l_15476 x_15928 width_15481 k_16154 FUEL ([] : List Int) 0

set_option maxRecDepth 20000 in
theorem w_ref33_Suspects (Z : Zp) (ao_15477 : Option Addr) (cap_15478 : Nat) (l_15476 : List Int) (f_15480 : Int) (width_15481 : Int) (r : List Int × Int) (w₀ : World) (hz : PZ [] w₀ Z)
    (hs_15479 : ZS Z 1 (fun r x => r = e3 x) ao_15477 cap_15478 l_15476)
    (h : m_ref33_Suspects l_15476 f_15480 width_15481 = some r) :
    Calls Try.prog 14 #[(.slice ao_15477 l_15476.length cap_15478), (.int .i64 f_15480), (.int .i64 width_15481)] w₀ fun e w' => ∃ ao_15925 : Option Addr, ∃ cap_15926 : Nat, e = .returned (.tuple #[(.slice ao_15925 r.1.length cap_15926), (.int .i64 r.2)]) ∧ True ∧ Hp [] w₀ w' [row (.slice ao_15925 r.1.length cap_15926) 3 1 (r.1.flatMap e3)] := by
  unfold m_ref33_Suspects at h
  refine Calls.ofWC (vs := [(.slice ao_15477 l_15476.length cap_15478), (.int .i64 f_15480), (.int .i64 width_15481)]) (pre := []) (env := [(0, (.slice ao_15477 l_15476.length cap_15478)), (1, (.int .i64 f_15480)), (2, (.int .i64 width_15481))]) Try.func14 rfl Try.ntmps14 rfl (Hp.nil w₀ _) rfl ?_
  refine WC.seq ?_
  refine WC.region ?_
  refine WL.quiet (d := 6) rfl rfl rfl (q_assign rfl) ?_
  refine WL.quiet (d := 7) rfl rfl rfl (q_assign rfl) ?_
  refine WL.nil ?_
  refine WX.then ?_
  refine WC.seq ?_
  obtain ⟨x_15928, hx_15929, h⟩ := bind_elim h
  refine WC.region ?_
  refine WL.quiet (d := 13) rfl rfl rfl (q_move rfl) ?_
  refine WL.quiet (d := 14) rfl rfl rfl (q_move rfl) ?_
  refine WL.callD (dd := 15) rfl rfl rfl (run_call (l := [.tmp 13, .tmp 14]) Try.call12 (.cons rfl (.cons rfl .nil))) (.nil : Sel [] [] []) (fun w hw => by have pz := (hz.call hw (.nil : Sel [] [] [])); exact w_ref33_Midpoint (Z := _) (ao_4299 := ao_15477) (cap_4300 := cap_15478) (l_4298 := l_15476) (f_4302 := f_15480) (r := x_15928) w pz hs_15479 hx_15929) ?_
  refine WL.quiet (d := 12) rfl rfl rfl (q_move rfl) ?_
  refine WL.quiet (d := 16) rfl rfl rfl (q_extract rfl rfl) ?_
  refine WL.quiet (d := 17) rfl rfl rfl (q_extract rfl rfl) ?_
  refine WL.quiet (d := 8) rfl rfl rfl (q_assign rfl) ?_
  refine WL.quiet (d := 9) rfl rfl rfl (q_assign rfl) ?_
  refine WL.nil ?_
  refine WX.then ?_
  refine WC.seq ?_
  refine WC.seq ?_
  refine WC.region ?_
  refine WL.quiet (d := 18) rfl rfl rfl (q_move rfl) ?_
  refine WL.quiet (d := 19) rfl rfl rfl (q_neq rfl rfl) ?_
  refine WL.quiet (d := 20) rfl rfl rfl (q_move rfl) ?_
  refine WL.cut0 True [(0, (.slice ao_15477 l_15476.length cap_15478)), (2, (.int .i64 width_15481)), (8, (.int .i64 x_15928.1)), (23, (.bool ((decide (x_15928.2 ≠ 0)) || (decide (width_15481 < 0)))))] [] 3 ?_ (fun _ => ?_)
  · rcases Bool.eq_false_or_eq_true (decide (x_15928.2 ≠ 0)) with hb' | hb'
    · have hg_15933 := hb'; clear hb'
      refine WL.pin (i := 20) rfl hg_15933 ?_
      refine WL.skip rfl rfl rfl ?_
      refine WL.skip rfl rfl rfl ?_
      refine WL.quiet (d := 23) rfl rfl rfl (q_pickT rfl rfl) ?_
      exact WL.cutEnd () trivial (.cons rfl (.cons rfl (.cons rfl (.cons (some_bool (or_l hg_15933)) .nil)))) .nil
    · have hg_15934 := hb'; clear hb'
      refine WL.pin (i := 20) rfl hg_15934 ?_
      refine WL.quiet (d := 21) rfl rfl rfl (q_move rfl) ?_
      refine WL.quiet (d := 22) rfl rfl rfl (q_lss rfl rfl) ?_
      refine WL.quiet (d := 23) rfl rfl rfl (q_pickF rfl rfl) ?_
      exact WL.cutEnd () trivial (.cons rfl (.cons rfl (.cons rfl (.cons (some_bool (or_r hg_15934)) .nil)))) .nil
  · skip
    refine WL.nil ?_
    refine WX.then ?_
    refine WC.cond rfl (fun hb_15935 => ?_) (fun hb_15935 => ?_)
    · replace h := ite_t h hb_15935
      refine WC.seq ?_
      refine WC.region ?_
      refine WL.quiet (d := 6) rfl rfl rfl (q_assign rfl) ?_
      refine WL.quiet (d := 7) rfl rfl rfl (q_assign rfl) ?_
      refine WL.nil ?_
      refine WX.then ?_
      refine WC.ret ?_
      refine WX.thenRet ?_
      refine WX.nilRow 3 1 ?_
      obtain rfl := Option.some.inj h
      refine WX.bpRet Try.results14 (.tmp rfl (.tmp rfl .nil)) (fun w hw => ?_)
      exact ⟨none, 0, ret2 rfl rfl, trivial, hw.sub (.cons .here .nil)⟩
    · replace h := ite_f h hb_15935
      refine WC.skip ?_
      refine WX.then ?_
      refine WC.seq ?_
      refine WC.region ?_
      refine WL.quiet (d := 10) rfl rfl rfl (q_assign rfl) ?_
      refine WL.nil ?_
      refine WX.then ?_
      obtain ⟨k_16154, hk_16155, h⟩ := jp1_elim h
      refine WC.seqMid3 (fun (out_16151 : List Int) (ao_16152 : Option Addr) (cap_16153 : Nat) => (k_16154 out_16151 = some r)) (fun (out_16151 : List Int) (ao_16152 : Option Addr) (cap_16153 : Nat) => [(10, (.slice ao_16152 out_16151.length cap_16153))]) (fun (out_16151 : List Int) (ao_16152 : Option Addr) (cap_16153 : Nat) => [row (.slice ao_16152 out_16151.length cap_16153) 3 1 (out_16151.flatMap e3)]) ?_ ?_
      · skip
        refine WC.seq ?_
        refine WC.region ?_
        refine WL.quiet (d := 11) rfl rfl rfl (q_assign rfl) ?_
        refine WL.nil ?_
        refine WX.then ?_
        refine WC.block ?_
        refine WC.nilRow 3 1 ?_
        refine WC.loop5 (fun (n_16302 : Nat) (out_16298 : List Int) (i_16301 : Int) (ao_16299 : Option Addr) (cap_16300 : Nat) => (m_ref33_Suspects_L2 l_15476 x_15928 width_15481 k_16154 n_16302 out_16298 i_16301 = some r)) (fun (n_16302 : Nat) (out_16298 : List Int) (i_16301 : Int) (ao_16299 : Option Addr) (cap_16300 : Nat) => [(0, (.slice ao_15477 l_15476.length cap_15478)), (2, (.int .i64 width_15481)), (8, (.int .i64 x_15928.1)), (10, (.slice ao_16299 out_16298.length cap_16300)), (11, (.int .i64 i_16301))]) (fun (n_16302 : Nat) (out_16298 : List Int) (i_16301 : Int) (ao_16299 : Option Addr) (cap_16300 : Nat) => [row (.slice ao_16299 out_16298.length cap_16300) 3 1 (out_16298.flatMap e3)]) (fun (n_16302 : Nat) (out_16298 : List Int) (i_16301 : Int) (ao_16299 : Option Addr) (cap_16300 : Nat) => n_16302) ⟨FUEL, ([] : List Int), 0, none, 0⟩ h (.cons rfl (.cons rfl (.cons rfl (.cons rfl (.cons rfl .nil))))) (.cons .here .nil) ?_
        rintro n_16302 out_16298 i_16301 ao_16299 cap_16300 h
        obtain ⟨n_16304, rfl⟩ := m_ref33_Suspects_L2_fuel h
        rw [m_ref33_Suspects_L2] at h
        refine WC.seq ?_
        refine WC.seq ?_
        refine WC.region ?_
        refine WL.quiet (d := 24) rfl rfl rfl (q_move rfl) ?_
        refine WL.quiet (d := 25) rfl rfl rfl (q_move rfl) ?_
        refine WL.quiet (d := 26) rfl rfl rfl (q_len Try.underlying22 rfl) ?_
        refine WL.quiet (d := 27) rfl rfl rfl (q_lss rfl rfl) ?_
        refine WL.nil ?_
        refine WX.then ?_
        refine WC.cond rfl (fun hb_16306 => ?_) (fun hb_16306 => ?_)
        · replace h := ite_t h hb_16306
          refine WC.skip ?_
          refine WX.then ?_
          obtain ⟨k_16339, hk_16340, h⟩ := jp1_elim h
          refine WC.seqMid3 (fun (out_16336 : List Int) (ao_16337 : Option Addr) (cap_16338 : Nat) => (k_16339 out_16336 = some r)) (fun (out_16336 : List Int) (ao_16337 : Option Addr) (cap_16338 : Nat) => [(0, (.slice ao_15477 l_15476.length cap_15478)), (2, (.int .i64 width_15481)), (8, (.int .i64 x_15928.1)), (10, (.slice ao_16337 out_16336.length cap_16338)), (11, (.int .i64 i_16301))]) (fun (out_16336 : List Int) (ao_16337 : Option Addr) (cap_16338 : Nat) => [row (.slice ao_16337 out_16336.length cap_16338) 3 1 (out_16336.flatMap e3)]) ?_ ?_
          · skip
            refine WC.block ?_
            refine WC.seq ?_
            obtain ⟨c_16341, h⟩ := chk_elim h
            obtain ⟨c_16351, h⟩ := chk_elim h
            refine WC.region ?_
            refine WL.quiet (d := 30) rfl rfl rfl (q_move rfl) ?_
            refine WL.quiet (d := 31) rfl rfl rfl (q_move rfl) ?_
            refine WL.znth (dd := 32) rfl rfl elT_22 rfl rfl hs_15479 c_16341 ?_
            rintro A_16352 r_16353 hA_16354 hl_16355 rfl
            refine WL.quiet (d := 33) rfl rfl rfl (q_load1 oneT_3 rfl (rd_z hz.pv hA_16354 rfl)) ?_
            refine WL.quiet (d := 34) rfl rfl rfl (q_move rfl) ?_
            refine WL.quiet (d := 35) rfl rfl rfl (q_sub rfl rfl rfl) ?_
            refine WL.quiet (d := 36) rfl rfl rfl (q_move rfl) ?_
            refine WL.quiet (d := 37) rfl rfl rfl (q_gtr rfl rfl) ?_
            refine WL.quiet (d := 38) rfl rfl rfl (q_move rfl) ?_
            refine WL.cut0 True [(0, (.slice ao_15477 l_15476.length cap_15478)), (2, (.int .i64 width_15481)), (8, (.int .i64 x_15928.1)), (10, (.slice ao_16299 out_16298.length cap_16300)), (11, (.int .i64 i_16301)), (47, (.bool ((decide ((i64 ((nth l_15476 i_16301) - x_15928.1)) > width_15481)) || (decide ((i64 (x_15928.1 - (nth l_15476 i_16301))) > width_15481)))))] [row (.slice ao_16299 out_16298.length cap_16300) 3 1 (out_16298.flatMap e3)] 9 ?_ (fun _ => ?_)
            · rcases Bool.eq_false_or_eq_true (decide ((i64 ((nth l_15476 i_16301) - x_15928.1)) > width_15481)) with hb' | hb'
              · have hg_16356 := hb'; clear hb'
                refine WL.pin (i := 38) rfl hg_16356 ?_
                refine WL.skip rfl rfl rfl ?_
                refine WL.skip rfl rfl rfl ?_
                refine WL.skip rfl rfl rfl ?_
                refine WL.skip rfl rfl rfl ?_
                refine WL.skip rfl rfl rfl ?_
                refine WL.skip rfl rfl rfl ?_
                refine WL.skip rfl rfl rfl ?_
                refine WL.skip rfl rfl rfl ?_
                refine WL.quiet (d := 47) rfl rfl rfl (q_pickT rfl rfl) ?_
                exact WL.cutEnd () trivial (.cons rfl (.cons rfl (.cons rfl (.cons rfl (.cons rfl (.cons (some_bool (or_l hg_16356)) .nil)))))) (.cons .here .nil)
              · have hg_16357 := hb'; clear hb'
                have c_16346 := c_16351 hg_16357
                refine WL.pin (i := 38) rfl hg_16357 ?_
                refine WL.quiet (d := 39) rfl rfl rfl (q_move rfl) ?_
                refine WL.quiet (d := 40) rfl rfl rfl (q_move rfl) ?_
                refine WL.quiet (d := 41) rfl rfl rfl (q_move rfl) ?_
                refine WL.znth (dd := 42) rfl rfl elT_22 rfl rfl hs_15479 c_16346 ?_
                rintro A_16358 r_16359 hA_16360 hl_16361 rfl
                refine WL.quiet (d := 43) rfl rfl rfl (q_load1 oneT_3 rfl (rd_z hz.pv hA_16360 rfl)) ?_
                refine WL.quiet (d := 44) rfl rfl rfl (q_sub rfl rfl rfl) ?_
                refine WL.quiet (d := 45) rfl rfl rfl (q_move rfl) ?_
                refine WL.quiet (d := 46) rfl rfl rfl (q_gtr rfl rfl) ?_
                refine WL.quiet (d := 47) rfl rfl rfl (q_pickF rfl rfl) ?_
                exact WL.cutEnd () trivial (.cons rfl (.cons rfl (.cons rfl (.cons rfl (.cons rfl (.cons (some_bool (or_r hg_16357)) .nil)))))) (.cons .here .nil)
            · skip
              refine WL.nil ?_
              refine WX.then ?_
              refine WC.cond rfl (fun hb_16362 => ?_) (fun hb_16362 => ?_)
              · replace h := ite_t h hb_16362
                obtain ⟨c_16364, h⟩ := chk_elim h
                refine WC.region ?_
                refine WL.quiet (d := 48) rfl rfl rfl (q_move rfl) ?_
                refine WL.quiet (d := 49) rfl rfl rfl (q_move rfl) ?_
                refine WL.new (dd := 50) rfl rfl rfl (e_buildSlice (cs := [i_16301].flatMap e3) elT_22 (Eos.parts (l := [.tmp 49]) (.cons rfl .nil) [0]) (fun _ => by kernel_rfl) rfl (by unfold maxLen; omega)) ?_
                intro b_16367 _
                refine WL.eff (d := 51) rfl rfl rfl (e_appendF (enc := e3) (l1 := out_16298) (l2 := [i_16301]) elT_22 rfl rfl (.there .here) (fun _ => rfl) rfl rfl (news_row .here) (oc_flat e3_oc _) c_16364) ?_
                rintro ⟨ao_16368, cap_16369⟩ _
                refine WL.quiet (d := 10) rfl rfl rfl (q_assign rfl) ?_
                refine WL.nil ?_
                refine WX.blockNormal ?_
                exact WX.mid (G := List Int × Option Addr × Nat) ⟨(out_16298 ++ [i_16301]), ao_16368, cap_16369⟩ h (.cons rfl (.cons rfl (.cons rfl (.cons rfl (.cons rfl .nil))))) (.cons .here .nil)
              · replace h := ite_f h hb_16362
                refine WC.skip ?_
                refine WX.blockNormal ?_
                exact WX.mid (G := List Int × Option Addr × Nat) ⟨out_16298, ao_16299, cap_16300⟩ h (.cons rfl (.cons rfl (.cons rfl (.cons rfl (.cons rfl .nil))))) (.cons .here .nil)
          · rintro out_16336 ao_16337 cap_16338 h
            replace h := (hk_16340 out_16336).symm.trans h
            refine WC.region ?_
            refine WL.quiet (d := 28) rfl rfl rfl (q_move rfl) ?_
            refine WL.quiet (d := 29) rfl rfl rfl (q_add rfl rfl rfl) ?_
            refine WL.quiet (d := 11) rfl rfl rfl (q_assign rfl) ?_
            refine WL.nil ?_
            exact WX.round (G := Nat × List Int × Int × Option Addr × Nat) ⟨n_16304, out_16336, (i64 (i_16301 + 1)), ao_16337, cap_16338⟩ h (Nat.lt_succ_self _) (.cons rfl (.cons rfl (.cons rfl (.cons rfl (.cons rfl .nil))))) (.cons .here .nil)
        · replace h := ite_f h hb_16306
          refine WC.exit ?_
          refine WX.thenExit ?_
          refine WX.thenExit ?_
          refine WX.blockHit ?_
          exact WX.mid (G := List Int × Option Addr × Nat) ⟨out_16298, ao_16299, cap_16300⟩ h (.cons rfl .nil) (.cons .here .nil)
      · rintro out_16151 ao_16152 cap_16153 h
        replace h := (hk_16155 out_16151).symm.trans h
        refine WC.seq ?_
        refine WC.region ?_
        refine WL.quiet (d := 52) rfl rfl rfl (q_move rfl) ?_
        refine WL.quiet (d := 6) rfl rfl rfl (q_assign rfl) ?_
        refine WL.quiet (d := 7) rfl rfl rfl (q_assign rfl) ?_
        refine WL.nil ?_
        refine WX.then ?_
        refine WC.ret ?_
        obtain rfl := Option.some.inj h
        refine WX.bpRet Try.results14 (.tmp rfl (.tmp rfl .nil)) (fun w hw => ?_)
        exact ⟨ao_16152, cap_16153, ret2 rfl rfl, trivial, hw.sub (.cons .here .nil)⟩
def m_ref33_Allowed_L2 (l_17182 : List Sapi_Span) (t_17187 : Int) (k_17652 : Int → Option Bool) : Nat → Int → Int → Option Bool
  | 0, _, _ => none
  | n_17757 + 1, n_17754, i_17755 => if decide (i_17755 < ((l_17182.length : Nat) : Int)) then jp1 (fun (n_17782 : Int) => m_ref33_Allowed_L2 l_17182 t_17187 k_17652 n_17757 n_17782 (i64 (i_17755 + 1))) fun k_17783 => chk ((0 : Int) ≤ i_17755 ∧ i_17755 < ((l_17182.length : Nat) : Int)) (chk ((decide (((nth l_17182 i_17755).fLo) ≤ t_17187)) = true → ((0 : Int) ≤ i_17755 ∧ i_17755 < ((l_17182.length : Nat) : Int))) (if (decide (((nth l_17182 i_17755).fLo) ≤ t_17187)) && (decide (t_17187 ≤ ((nth l_17182 i_17755).fHi))) then k_17783 (i64 (n_17754 + 1)) else k_17783 n_17754)) else k_17652 n_17754
theorem m_ref33_Allowed_L2_fuel {n : Nat} {l_17182 : List Sapi_Span} {t_17187 : Int} {k_17652 : Int → Option Bool} {n_17754 : Int} {i_17755 : Int} {r : Bool} (h : m_ref33_Allowed_L2 l_17182 t_17187 k_17652 n n_17754 i_17755 = some r) : ∃ m, n = m + 1 := by
  cases n with
  | zero => cases h
  | succ m => exact ⟨m, rfl⟩

/-- nacelleref33.Allowed -/
def m_ref33_Allowed (l_17182 : List Sapi_Span) (f_17186 : Int) (t_17187 : Int) : Option Bool :=
  jp1 (fun (n_17651 : Int) => some (decide ((i64 (n_17651 + f_17186)) ≥ ((l_17182.length : Nat) : Int)))) fun k_17652 => m_ref33_Allowed_L2 l_17182 t_17187 k_17652 FUEL 0 0

set_option maxRecDepth 20000 in
theorem w_ref33_Allowed (Z : Zp) (ao_17183 : Option Addr) (cap_17184 : Nat) (l_17182 : List Sapi_Span) (f_17186 : Int) (t_17187 : Int) (r : Bool) (w₀ : World) (hz : PZ [] w₀ Z)
    (hs_17185 : ZS Z 2 (fun r x => r = e35 x) ao_17183 cap_17184 l_17182)
    (h : m_ref33_Allowed l_17182 f_17186 t_17187 = some r) :
    Calls Try.prog 38 #[(.slice ao_17183 l_17182.length cap_17184), (.int .i64 f_17186), (.int .i64 t_17187)] w₀ fun e w' => e = .returned (.bool r) ∧ Hp [] w₀ w' [] := by
  unfold m_ref33_Allowed at h
  refine Calls.ofWC (vs := [(.slice ao_17183 l_17182.length cap_17184), (.int .i64 f_17186), (.int .i64 t_17187)]) (pre := []) (env := [(0, (.slice ao_17183 l_17182.length cap_17184)), (1, (.int .i64 f_17186)), (2, (.int .i64 t_17187))]) Try.func38 rfl Try.ntmps38 rfl (Hp.nil w₀ _) rfl ?_
  refine WC.seq ?_
  refine WC.region ?_
  refine WL.quiet (d := 6) rfl rfl rfl (q_assign rfl) ?_
  refine WL.nil ?_
  refine WX.then ?_
  refine WC.seq ?_
  refine WC.region ?_
  refine WL.quiet (d := 7) rfl rfl rfl (q_assign rfl) ?_
  refine WL.nil ?_
  refine WX.then ?_
  obtain ⟨k_17652, hk_17653, h⟩ := jp1_elim h
  refine WC.seqMid1 (fun (n_17651 : Int) => (k_17652 n_17651 = some r)) (fun (n_17651 : Int) => [(0, (.slice ao_17183 l_17182.length cap_17184)), (1, (.int .i64 f_17186)), (7, (.int .i64 n_17651))]) (fun (n_17651 : Int) => []) ?_ ?_
  · skip
    refine WC.seq ?_
    refine WC.region ?_
    refine WL.quiet (d := 8) rfl rfl rfl (q_assign rfl) ?_
    refine WL.nil ?_
    refine WX.then ?_
    refine WC.block ?_
    refine WC.loop3 (fun (n_17756 : Nat) (n_17754 : Int) (i_17755 : Int) => (m_ref33_Allowed_L2 l_17182 t_17187 k_17652 n_17756 n_17754 i_17755 = some r)) (fun (n_17756 : Nat) (n_17754 : Int) (i_17755 : Int) => [(0, (.slice ao_17183 l_17182.length cap_17184)), (1, (.int .i64 f_17186)), (2, (.int .i64 t_17187)), (7, (.int .i64 n_17754)), (8, (.int .i64 i_17755))]) (fun (n_17756 : Nat) (n_17754 : Int) (i_17755 : Int) => []) (fun (n_17756 : Nat) (n_17754 : Int) (i_17755 : Int) => n_17756) ⟨FUEL, 0, 0⟩ h (.cons rfl (.cons rfl (.cons rfl (.cons rfl (.cons rfl .nil))))) .nil ?_
    rintro n_17756 n_17754 i_17755 h
    obtain ⟨n_17757, rfl⟩ := m_ref33_Allowed_L2_fuel h
    rw [m_ref33_Allowed_L2] at h
    refine WC.seq ?_
    refine WC.seq ?_
    refine WC.region ?_
    refine WL.quiet (d := 9) rfl rfl rfl (q_move rfl) ?_
    refine WL.quiet (d := 10) rfl rfl rfl (q_move rfl) ?_
    refine WL.quiet (d := 11) rfl rfl rfl (q_len Try.underlying23 rfl) ?_
    refine WL.quiet (d := 12) rfl rfl rfl (q_lss rfl rfl) ?_
    refine WL.nil ?_
    refine WX.then ?_
    refine WC.cond rfl (fun hb_17759 => ?_) (fun hb_17759 => ?_)
    · replace h := ite_t h hb_17759
      refine WC.skip ?_
      refine WX.then ?_
      obtain ⟨k_17783, hk_17784, h⟩ := jp1_elim h
      refine WC.seqMid1 (fun (n_17782 : Int) => (k_17783 n_17782 = some r)) (fun (n_17782 : Int) => [(0, (.slice ao_17183 l_17182.length cap_17184)), (1, (.int .i64 f_17186)), (2, (.int .i64 t_17187)), (7, (.int .i64 n_17782)), (8, (.int .i64 i_17755))]) (fun (n_17782 : Int) => []) ?_ ?_
      · skip
        refine WC.block ?_
        refine WC.seq ?_
        obtain ⟨c_17785, h⟩ := chk_elim h
        obtain ⟨c_17795, h⟩ := chk_elim h
        refine WC.region ?_
        refine WL.quiet (d := 15) rfl rfl rfl (q_move rfl) ?_
        refine WL.quiet (d := 16) rfl rfl rfl (q_move rfl) ?_
        refine WL.znth (dd := 17) rfl rfl elT_23 rfl rfl hs_17185 c_17785 ?_
        rintro A_17796 r_17797 hA_17798 hl_17799 rfl
        refine WL.quiet (d := 18) rfl rfl rfl (q_fieldAddr fo_35_0 rfl rfl) ?_
        refine WL.quiet (d := 19) rfl rfl rfl (q_load1 oneT_3 rfl (rd_zAt hz.pv hA_17798 rfl)) ?_
        refine WL.quiet (d := 20) rfl rfl rfl (q_move rfl) ?_
        refine WL.quiet (d := 21) rfl rfl rfl (q_leq rfl rfl) ?_
        refine WL.quiet (d := 22) rfl rfl rfl (q_move rfl) ?_
        refine WL.cut0 True [(0, (.slice ao_17183 l_17182.length cap_17184)), (1, (.int .i64 f_17186)), (2, (.int .i64 t_17187)), (7, (.int .i64 n_17754)), (8, (.int .i64 i_17755)), (30, (.bool ((decide (((nth l_17182 i_17755).fLo) ≤ t_17187)) && (decide (t_17187 ≤ ((nth l_17182 i_17755).fHi))))))] [] 8 ?_ (fun _ => ?_)
        · rcases Bool.eq_false_or_eq_true (decide (((nth l_17182 i_17755).fLo) ≤ t_17187)) with hb' | hb'
          · have hg_17800 := hb'; clear hb'
            have c_17790 := c_17795 hg_17800
            refine WL.pin (i := 22) rfl hg_17800 ?_
            refine WL.quiet (d := 23) rfl rfl rfl (q_move rfl) ?_
            refine WL.quiet (d := 24) rfl rfl rfl (q_move rfl) ?_
            refine WL.quiet (d := 25) rfl rfl rfl (q_move rfl) ?_
            refine WL.znth (dd := 26) rfl rfl elT_23 rfl rfl hs_17185 c_17790 ?_
            rintro A_17801 r_17802 hA_17803 hl_17804 rfl
            refine WL.quiet (d := 27) rfl rfl rfl (q_fieldAddr fo_35_1 rfl rfl) ?_
            refine WL.quiet (d := 28) rfl rfl rfl (q_load1 oneT_3 rfl (rd_zAt hz.pv hA_17803 rfl)) ?_
            refine WL.quiet (d := 29) rfl rfl rfl (q_leq rfl rfl) ?_
            refine WL.quiet (d := 30) rfl rfl rfl (q_pickT rfl rfl) ?_
            exact WL.cutEnd () trivial (.cons rfl (.cons rfl (.cons rfl (.cons rfl (.cons rfl (.cons (some_bool (and_r hg_17800)) .nil)))))) .nil
          · have hg_17805 := hb'; clear hb'
            refine WL.pin (i := 22) rfl hg_17805 ?_
            refine WL.skip rfl rfl rfl ?_
            refine WL.skip rfl rfl rfl ?_
            refine WL.skip rfl rfl rfl ?_
            refine WL.skip rfl rfl rfl ?_
            refine WL.skip rfl rfl rfl ?_
            refine WL.skip rfl rfl rfl ?_
            refine WL.skip rfl rfl rfl ?_
            refine WL.quiet (d := 30) rfl rfl rfl (q_pickF rfl rfl) ?_
            exact WL.cutEnd () trivial (.cons rfl (.cons rfl (.cons rfl (.cons rfl (.cons rfl (.cons (some_bool (and_l hg_17805)) .nil)))))) .nil
        · skip
          refine WL.nil ?_
          refine WX.then ?_
          refine WC.cond rfl (fun hb_17806 => ?_) (fun hb_17806 => ?_)
          · replace h := ite_t h hb_17806
            refine WC.region ?_
            refine WL.quiet (d := 31) rfl rfl rfl (q_move rfl) ?_
            refine WL.quiet (d := 32) rfl rfl rfl (q_add rfl rfl rfl) ?_
            refine WL.quiet (d := 7) rfl rfl rfl (q_assign rfl) ?_
            refine WL.nil ?_
            refine WX.blockNormal ?_
            exact WX.mid (G := Int) (i64 (n_17754 + 1)) h (.cons rfl (.cons rfl (.cons rfl (.cons rfl (.cons rfl .nil))))) .nil
          · replace h := ite_f h hb_17806
            refine WC.skip ?_
            refine WX.blockNormal ?_
            exact WX.mid (G := Int) n_17754 h (.cons rfl (.cons rfl (.cons rfl (.cons rfl (.cons rfl .nil))))) .nil
      · rintro n_17782 h
        replace h := (hk_17784 n_17782).symm.trans h
        refine WC.region ?_
        refine WL.quiet (d := 13) rfl rfl rfl (q_move rfl) ?_
        refine WL.quiet (d := 14) rfl rfl rfl (q_add rfl rfl rfl) ?_
        refine WL.quiet (d := 8) rfl rfl rfl (q_assign rfl) ?_
        refine WL.nil ?_
        exact WX.round (G := Nat × Int × Int) ⟨n_17757, n_17782, (i64 (i_17755 + 1))⟩ h (Nat.lt_succ_self _) (.cons rfl (.cons rfl (.cons rfl (.cons rfl (.cons rfl .nil))))) .nil
    · replace h := ite_f h hb_17759
      refine WC.exit ?_
      refine WX.thenExit ?_
      refine WX.thenExit ?_
      refine WX.blockHit ?_
      exact WX.mid (G := Int) n_17754 h (.cons rfl (.cons rfl (.cons rfl .nil))) .nil
  · rintro n_17651 h
    replace h := (hk_17653 n_17651).symm.trans h
    refine WC.seq ?_
    refine WC.region ?_
    refine WL.quiet (d := 33) rfl rfl rfl (q_move rfl) ?_
    refine WL.quiet (d := 34) rfl rfl rfl (q_move rfl) ?_
    refine WL.quiet (d := 35) rfl rfl rfl (q_add rfl rfl rfl) ?_
    refine WL.quiet (d := 36) rfl rfl rfl (q_move rfl) ?_
    refine WL.quiet (d := 37) rfl rfl rfl (q_len Try.underlying23 rfl) ?_
    refine WL.quiet (d := 38) rfl rfl rfl (q_geq rfl rfl) ?_
    refine WL.quiet (d := 6) rfl rfl rfl (q_assign rfl) ?_
    refine WL.nil ?_
    refine WX.then ?_
    refine WC.ret ?_
    obtain rfl := Option.some.inj h
    refine WX.bpRet Try.results38 (.tmp rfl .nil) (fun w hw => ?_)
    exact ⟨ret1 rfl, hw.sub .nil⟩
def m_ref33_Meet_L4 (l_16382 : List Sapi_Span) (k_19563 : Option (Sapi_Span × Int)) : Nat → Int → Option (Sapi_Span × Int)
  | 0, _ => none
  | n_19824 + 1, i_19822 => if decide (i_19822 < ((l_16382.length : Nat) : Int)) then chk ((0 : Int) ≤ i_19822 ∧ i_19822 < ((l_16382.length : Nat) : Int)) ((m_ref33_In ((nth l_16382 i_19822).fLo)).bind fun x_19895 => (if !x_19895 then some true else chk ((0 : Int) ≤ i_19822 ∧ i_19822 < ((l_16382.length : Nat) : Int)) ((m_ref33_In ((nth l_16382 i_19822).fHi)).bind fun x_19902 => some (!x_19902))).bind fun b_19904 => chk (b_19904 = false → ((0 : Int) ≤ i_19822 ∧ i_19822 < ((l_16382.length : Nat) : Int))) (if b_19904 || (decide (((nth l_16382 i_19822).fLo) > ((nth l_16382 i_19822).fHi))) then some ((⟨0, 0⟩ : Sapi_Span), 2) else m_ref33_Meet_L4 l_16382 k_19563 n_19824 (i64 (i_19822 + 1)))) else k_19563
theorem m_ref33_Meet_L4_fuel {n : Nat} {l_16382 : List Sapi_Span} {k_19563 : Option (Sapi_Span × Int)} {i_19822 : Int} {r : Sapi_Span × Int} (h : m_ref33_Meet_L4 l_16382 k_19563 n i_19822 = some r) : ∃ m, n = m + 1 := by
  cases n with
  | zero => cases h
  | succ m => exact ⟨m, rfl⟩

def m_ref33_Meet_L5 (l_16382 : List Sapi_Span) (f_16386 : Int) (k_20380 : Int → Int → Option (Sapi_Span × Int)) : Nat → Int → Int → Int → Option (Sapi_Span × Int)
  | 0, _, _, _ => none
  | n_20643 + 1, i_20639, c_20640, c_20641 => if decide (i_20639 < ((l_16382.length : Nat) : Int)) then jp2 (fun (c_20722 : Int) (c_20723 : Int) => m_ref33_Meet_L5 l_16382 f_16386 k_20380 n_20643 (i64 (i_20639 + 1)) c_20722 c_20723) fun k_20724 => chk ((0 : Int) ≤ i_20639 ∧ i_20639 < ((l_16382.length : Nat) : Int)) ((m_ref33_Allowed l_16382 f_16386 ((nth l_16382 i_20639).fLo)).bind fun x_20731 => chk (x_20731 = true → ((decide (c_20640 > c_20641)) = false → ((0 : Int) ≤ i_20639 ∧ i_20639 < ((l_16382.length : Nat) : Int)))) (if x_20731 && ((decide (c_20640 > c_20641)) || (decide (((nth l_16382 i_20639).fLo) < c_20640))) then jp1 (fun (c_20780 : Int) => chk ((0 : Int) ≤ i_20639 ∧ i_20639 < ((l_16382.length : Nat) : Int)) (k_20724 ((nth l_16382 i_20639).fLo) c_20780)) fun k_20781 => if decide (c_20640 > c_20641) then chk ((0 : Int) ≤ i_20639 ∧ i_20639 < ((l_16382.length : Nat) : Int)) (k_20781 ((nth l_16382 i_20639).fLo)) else k_20781 c_20641 else k_20724 c_20640 c_20641)) else k_20380 c_20640 c_20641
theorem m_ref33_Meet_L5_fuel {n : Nat} {l_16382 : List Sapi_Span} {f_16386 : Int} {k_20380 : Int → Int → Option (Sapi_Span × Int)} {i_20639 : Int} {c_20640 : Int} {c_20641 : Int} {r : Sapi_Span × Int} (h : m_ref33_Meet_L5 l_16382 f_16386 k_20380 n i_20639 c_20640 c_20641 = some r) : ∃ m, n = m + 1 := by
  cases n with
  | zero => cases h
  | succ m => exact ⟨m, rfl⟩

def m_ref33_Meet_L6 (l_16382 : List Sapi_Span) (f_16386 : Int) (k_21063 : Int → Option (Sapi_Span × Int)) : Nat → Int → Int → Option (Sapi_Span × Int)
  | 0, _, _ => none
  | n_21238 + 1, i_21235, c_21236 => if decide (i_21235 < ((l_16382.length : Nat) : Int)) then jp1 (fun (c_21279 : Int) => m_ref33_Meet_L6 l_16382 f_16386 k_21063 n_21238 (i64 (i_21235 + 1)) c_21279) fun k_21280 => chk ((0 : Int) ≤ i_21235 ∧ i_21235 < ((l_16382.length : Nat) : Int)) ((m_ref33_Allowed l_16382 f_16386 ((nth l_16382 i_21235).fHi)).bind fun x_21287 => chk (x_21287 = true → ((0 : Int) ≤ i_21235 ∧ i_21235 < ((l_16382.length : Nat) : Int))) (if x_21287 && (decide (((nth l_16382 i_21235).fHi) > c_21236)) then chk ((0 : Int) ≤ i_21235 ∧ i_21235 < ((l_16382.length : Nat) : Int)) (k_21280 ((nth l_16382 i_21235).fHi)) else k_21280 c_21236)) else k_21063 c_21236
theorem m_ref33_Meet_L6_fuel {n : Nat} {l_16382 : List Sapi_Span} {f_16386 : Int} {k_21063 : Int → Option (Sapi_Span × Int)} {i_21235 : Int} {c_21236 : Int} {r : Sapi_Span × Int} (h : m_ref33_Meet_L6 l_16382 f_16386 k_21063 n i_21235 c_21236 = some r) : ∃ m, n = m + 1 := by
  cases n with
  | zero => cases h
  | succ m => exact ⟨m, rfl⟩

/-- nacelleref33.Meet -/
def m_ref33_Meet (l_16382 : List Sapi_Span) (f_16386 : Int) : Option (Sapi_Span × Int) :=
  (m_ref33_Fits ((l_16382.length : Nat) : Int) f_16386).bind fun x_19172 => if !x_19172 then some ((⟨0, 0⟩ : Sapi_Span), 2) else jp0 (jp2 (fun (c_20378 : Int) (c_20379 : Int) => if decide (c_20378 > c_20379) then some ((⟨0, 0⟩ : Sapi_Span), 6) else jp1 (fun (c_21062 : Int) => some ((⟨c_20378, c_21062⟩ : Sapi_Span), 0)) fun k_21063 => m_ref33_Meet_L6 l_16382 f_16386 k_21063 FUEL 0 c_20379) fun k_20380 => m_ref33_Meet_L5 l_16382 f_16386 k_20380 FUEL 0 1 0) fun k_19563 => m_ref33_Meet_L4 l_16382 k_19563 FUEL 0

set_option maxRecDepth 20000 in
theorem w_ref33_Meet (Z : Zp) (ao_16383 : Option Addr) (cap_16384 : Nat) (l_16382 : List Sapi_Span) (f_16386 : Int) (r : Sapi_Span × Int) (w₀ : World) (hz : PZ [] w₀ Z)
    (hs_16385 : ZS Z 2 (fun r x => r = e35 x) ao_16383 cap_16384 l_16382)
    (h : m_ref33_Meet l_16382 f_16386 = some r) :
    Calls Try.prog 16 #[(.slice ao_16383 l_16382.length cap_16384), (.int .i64 f_16386)] w₀ fun e w' => e = .returned (.tuple #[(.agg #[(.int .i64 r.1.fLo), (.int .i64 r.1.fHi)]), (.int .i64 r.2)]) ∧ Hp [] w₀ w' [] := by
  unfold m_ref33_Meet at h
  refine Calls.ofWC (vs := [(.slice ao_16383 l_16382.length cap_16384), (.int .i64 f_16386)]) (pre := []) (env := [(0, (.slice ao_16383 l_16382.length cap_16384)), (1, (.int .i64 f_16386))]) Try.func16 rfl Try.ntmps16 rfl (Hp.nil w₀ _) rfl ?_
  refine WC.seq ?_
  refine WC.region ?_
  refine WL.new (dd := 4) rfl rfl rfl (e_alloc (cs := [(.int .i64 0), (.int .i64 0)]) zeroT_35 rfl) ?_
  intro b_19168 _
  refine WL.quiet (d := 5) rfl rfl rfl (q_assign rfl) ?_
  refine WL.nil ?_
  refine WX.then ?_
  refine WC.seq ?_
  refine WC.seq ?_
  obtain ⟨x_19172, hx_19173, h⟩ := bind_elim h
  refine WC.region ?_
  refine WL.quiet (d := 10) rfl rfl rfl (q_move rfl) ?_
  refine WL.quiet (d := 11) rfl rfl rfl (q_len Try.underlying23 rfl) ?_
  refine WL.quiet (d := 12) rfl rfl rfl (q_move rfl) ?_
  refine WL.callD (dd := 13) rfl rfl rfl (run_call (l := [.tmp 11, .tmp 12]) Try.call26 (.cons rfl (.cons rfl .nil))) (.nil : Sel [stb b_19168 35 [(.int .i64 0), (.int .i64 0)]] [] [stb b_19168 35 [(.int .i64 0), (.int .i64 0)]]) (fun w hw => by have pz := (hz.call hw (.nil : Sel [stb b_19168 35 [(.int .i64 0), (.int .i64 0)]] [] [stb b_19168 35 [(.int .i64 0), (.int .i64 0)]])); exact w_ref33_Fits (Z := _)  (n_4303 := ((l_16382.length : Nat) : Int)) (f_4304 := f_16386) (r := x_19172) w pz  hx_19173) ?_
  refine WL.quiet (d := 14) rfl rfl rfl (q_not rfl) ?_
  refine WL.nil ?_
  refine WX.then ?_
  refine WC.cond rfl (fun hb_19174 => ?_) (fun hb_19174 => ?_)
  · replace h := ite_t h hb_19174
    refine WC.seq ?_
    refine WC.region ?_
    refine WL.quiet (d := 15) rfl rfl rfl (q_build (v := (.agg #[(.int .i64 0), (.int .i64 0)])) (Eos.parts (l := []) .nil []) (fun _ => by kernel_rfl)) ?_
    refine WL.eff0 rfl rfl (e_store (vs := [(.int .i64 0), (.int .i64 0)]) (ds := [(.int .i64 0), (.int .i64 0)]) sizT_35 rfl rfl rfl rfl (oc_cons rfl (oc_cons rfl oc_nil)) .here (Nat.le_of_ble_eq_true rfl) rfl) ?_
    refine WL.quiet (d := 5) rfl rfl rfl (q_assign rfl) ?_
    refine WL.nil ?_
    refine WX.then ?_
    refine WC.ret ?_
    refine WX.thenRet ?_
    obtain rfl := Option.some.inj h
    refine WX.bpRet Try.results16 (.agg rfl aggT_35 rfl (rd_all .here) (.tmp rfl .nil)) (fun w hw => ?_)
    exact ⟨ret2 rfl rfl, hw.sub .nil⟩
  · replace h := ite_f h hb_19174
    refine WC.skip ?_
    refine WX.then ?_
    obtain ⟨k_19563, hk_19564, h⟩ := jp0_elim h
    refine WC.seqMid0 ((k_19563 = some r)) ([(0, (.slice ao_16383 l_16382.length cap_16384)), (1, (.int .i64 f_16386)), (4, (.pointer (some ⟨b_19168, 0, none⟩)))]) ([stb b_19168 35 [(.int .i64 0), (.int .i64 0)]]) ?_ ?_
    · skip
      refine WC.seq ?_
      refine WC.region ?_
      refine WL.quiet (d := 6) rfl rfl rfl (q_assign rfl) ?_
      refine WL.nil ?_
      refine WX.then ?_
      refine WC.block ?_
      refine WC.loop2 (fun (n_19823 : Nat) (i_19822 : Int) => (m_ref33_Meet_L4 l_16382 k_19563 n_19823 i_19822 = some r)) (fun (n_19823 : Nat) (i_19822 : Int) => [(0, (.slice ao_16383 l_16382.length cap_16384)), (1, (.int .i64 f_16386)), (4, (.pointer (some ⟨b_19168, 0, none⟩))), (6, (.int .i64 i_19822))]) (fun (n_19823 : Nat) (i_19822 : Int) => [stb b_19168 35 [(.int .i64 0), (.int .i64 0)]]) (fun (n_19823 : Nat) (i_19822 : Int) => n_19823) ⟨FUEL, 0⟩ h (.cons rfl (.cons rfl (.cons rfl (.cons rfl .nil)))) (.cons .here .nil) ?_
      rintro n_19823 i_19822 h
      obtain ⟨n_19824, rfl⟩ := m_ref33_Meet_L4_fuel h
      rw [m_ref33_Meet_L4] at h
      refine WC.seq ?_
      refine WC.seq ?_
      refine WC.region ?_
      refine WL.quiet (d := 16) rfl rfl rfl (q_move rfl) ?_
      refine WL.quiet (d := 17) rfl rfl rfl (q_move rfl) ?_
      refine WL.quiet (d := 18) rfl rfl rfl (q_len Try.underlying23 rfl) ?_
      refine WL.quiet (d := 19) rfl rfl rfl (q_lss rfl rfl) ?_
      refine WL.nil ?_
      refine WX.then ?_
      refine WC.cond rfl (fun hb_19826 => ?_) (fun hb_19826 => ?_)
      · replace h := ite_t h hb_19826
        refine WC.skip ?_
        refine WX.then ?_
        refine WC.seq ?_
        refine WC.block ?_
        refine WC.seq ?_
        obtain ⟨c_19890, h⟩ := chk_elim h
        obtain ⟨x_19895, hx_19896, h⟩ := bind_elim h
        obtain ⟨b_19904, hb_19905, h⟩ := bind_elim h
        obtain ⟨c_19915, h⟩ := chk_elim h
        refine WC.draw (fun i => [].contains i) [] rfl ?_
        refine WD.pure (i := 0) (d := 22) (by kernel_rfl) rfl (by kernel_rfl) (by kernel_rfl) rfl rfl rfl (fun _ => q_move rfl) ?_
        refine WD.pure (i := 1) (d := 23) (by kernel_rfl) rfl (by kernel_rfl) (by kernel_rfl) rfl rfl rfl (fun _ => q_move rfl) ?_
        refine WD.znth (j := 2) (dd := 24) (by kernel_rfl) rfl (by kernel_rfl) (by kernel_rfl) rfl rfl elT_23 rfl rfl hs_16385 c_19890 ?_
        rintro A_19916 r_19917 hA_19918 hl_19919 rfl
        refine WD.pure (i := 3) (d := 25) (by kernel_rfl) rfl (by kernel_rfl) (by kernel_rfl) rfl rfl rfl (fun _ => q_fieldAddr fo_35_0 rfl rfl) ?_
        refine WD.quiet (i := 4) (d := 26) (by kernel_rfl) rfl (by kernel_rfl) (by kernel_rfl) rfl rfl rfl (q_load1 oneT_3 rfl (rd_zAt hz.pv hA_19918 rfl)) ?_
        refine WD.enter (i := 5) (d := 27) (by kernel_rfl) rfl (by kernel_rfl) (by kernel_rfl) rfl rfl rfl (run_call (l := [.tmp 26]) Try.call27 (.cons rfl .nil)) (fun w hw => by have pz := (hz.call hw (.nil : Sel [stb b_19168 35 [(.int .i64 0), (.int .i64 0)]] [] [stb b_19168 35 [(.int .i64 0), (.int .i64 0)]])); exact w_ref33_In (Z := _)  (t_4335 := ((nth l_16382 i_19822).fLo)) (r := x_19895) w pz  hx_19896) ?_
        refine WD.pure (i := 6) (d := 28) (by kernel_rfl) rfl (by kernel_rfl) (by kernel_rfl) rfl rfl rfl (fun _ => q_not rfl) ?_
        refine WD.pure (i := 7) (d := 29) (by kernel_rfl) rfl (by kernel_rfl) (by kernel_rfl) rfl rfl rfl (fun _ => q_move rfl) ?_
        refine WD.mid (fuel' := 13) [(0, (.slice ao_16383 l_16382.length cap_16384)), (1, (.int .i64 f_16386)), (4, (.pointer (some ⟨b_19168, 0, none⟩))), (6, (.int .i64 i_19822)), (16, (.int .i64 i_19822)), (17, (.slice ao_16383 l_16382.length cap_16384)), (18, (.int .i64 ((l_16382.length : Nat) : Int))), (19, (.bool (decide (i_19822 < ((l_16382.length : Nat) : Int))))), (22, (.slice ao_16383 l_16382.length cap_16384)), (23, (.int .i64 i_19822)), (24, (.pointer (some A_19916))), (25, (.pointer (some (A_19916.add 0)))), (26, (.int .i64 ((nth l_16382 i_19822).fLo))), (27, (.bool x_19895)), (28, (.bool (!x_19895))), (29, (.bool (!x_19895))), (37, (.bool b_19904))] (listedA 29 [15, 14, 13, 12, 11, 10, 9, 8, 7, 6, 5, 4, 3, 2, 1, 0]) ?_ (fun K_19924 => ?_)
        rotate_left
        · rcases Bool.eq_false_or_eq_true (!x_19895) with hb' | hb'
          · have hg_19925 := hb'; clear hb'
            have hq_19926 := ite_t hb_19905 hg_19925
            replace hq_19926 := Option.some.inj hq_19926
            refine WD.pin (i := 29) rfl hg_19925 ?_
            refine WD.skip (i := 8) (d := 30) (by kernel_rfl) rfl (by kernel_rfl) (by kernel_rfl) rfl rfl rfl ?_
            refine WD.skip (i := 9) (d := 31) (by kernel_rfl) rfl (by kernel_rfl) (by kernel_rfl) rfl rfl rfl ?_
            refine WD.skip (i := 10) (d := 32) (by kernel_rfl) rfl (by kernel_rfl) (by kernel_rfl) rfl rfl rfl ?_
            refine WD.skip (i := 11) (d := 33) (by kernel_rfl) rfl (by kernel_rfl) (by kernel_rfl) rfl rfl rfl ?_
            refine WD.skip (i := 12) (d := 34) (by kernel_rfl) rfl (by kernel_rfl) (by kernel_rfl) rfl rfl rfl ?_
            refine WD.skip (i := 13) (d := 35) (by kernel_rfl) rfl (by kernel_rfl) (by kernel_rfl) rfl rfl rfl ?_
            refine WD.skip (i := 14) (d := 36) (by kernel_rfl) rfl (by kernel_rfl) (by kernel_rfl) rfl rfl rfl ?_
            refine WD.pure (i := 15) (d := 37) (by kernel_rfl) rfl (by kernel_rfl) (by kernel_rfl) rfl rfl rfl (fun _ => q_pickT rfl rfl) ?_
            refine WD.restr ?_ K_19924
            exact (.cons rfl (.cons rfl (.cons rfl (.cons rfl (.cons rfl (.cons rfl (.cons rfl (.cons rfl (.cons rfl (.cons rfl (.cons rfl (.cons rfl (.cons rfl (.cons rfl (.cons rfl (.cons (some_bool (Eq.symm hg_19925)) (.cons (some_bool hq_19926) .nil)))))))))))))))))
          · have hg_19927 := hb'; clear hb'
            have hq_19928 := ite_f hb_19905 hg_19927
            obtain ⟨c_19897, hq_19928⟩ := chk_elim hq_19928
            obtain ⟨x_19902, hx_19903, hq_19928⟩ := bind_elim hq_19928
            replace hq_19928 := Option.some.inj hq_19928
            refine WD.pin (i := 29) rfl hg_19927 ?_
            refine WD.pure (i := 8) (d := 30) (by kernel_rfl) rfl (by kernel_rfl) (by kernel_rfl) rfl rfl rfl (fun _ => q_move rfl) ?_
            refine WD.pure (i := 9) (d := 31) (by kernel_rfl) rfl (by kernel_rfl) (by kernel_rfl) rfl rfl rfl (fun _ => q_move rfl) ?_
            refine WD.znth (j := 10) (dd := 32) (by kernel_rfl) rfl (by kernel_rfl) (by kernel_rfl) rfl rfl elT_23 rfl rfl hs_16385 c_19897 ?_
            rintro A_19929 r_19930 hA_19931 hl_19932 rfl
            refine WD.pure (i := 11) (d := 33) (by kernel_rfl) rfl (by kernel_rfl) (by kernel_rfl) rfl rfl rfl (fun _ => q_fieldAddr fo_35_1 rfl rfl) ?_
            refine WD.quiet (i := 12) (d := 34) (by kernel_rfl) rfl (by kernel_rfl) (by kernel_rfl) rfl rfl rfl (q_load1 oneT_3 rfl (rd_zAt hz.pv hA_19931 rfl)) ?_
            refine WD.enter (i := 13) (d := 35) (by kernel_rfl) rfl (by kernel_rfl) (by kernel_rfl) rfl rfl rfl (run_call (l := [.tmp 34]) Try.call27 (.cons rfl .nil)) (fun w hw => by have pz := (hz.call hw (.nil : Sel [stb b_19168 35 [(.int .i64 0), (.int .i64 0)]] [] [stb b_19168 35 [(.int .i64 0), (.int .i64 0)]])); exact w_ref33_In (Z := _)  (t_4335 := ((nth l_16382 i_19822).fHi)) (r := x_19902) w pz  hx_19903) ?_
            refine WD.pure (i := 14) (d := 36) (by kernel_rfl) rfl (by kernel_rfl) (by kernel_rfl) rfl rfl rfl (fun _ => q_not rfl) ?_
            refine WD.pure (i := 15) (d := 37) (by kernel_rfl) rfl (by kernel_rfl) (by kernel_rfl) rfl rfl rfl (fun _ => q_pickF rfl rfl) ?_
            refine WD.restr ?_ K_19924
            exact (.cons rfl (.cons rfl (.cons rfl (.cons rfl (.cons rfl (.cons rfl (.cons rfl (.cons rfl (.cons rfl (.cons rfl (.cons rfl (.cons rfl (.cons rfl (.cons rfl (.cons rfl (.cons (some_bool (Eq.symm hg_19927)) (.cons (some_bool hq_19928) .nil)))))))))))))))))
        refine WD.pure (i := 16) (d := 38) (by kernel_rfl) rfl (by kernel_rfl) (by kernel_rfl) rfl rfl rfl (fun _ => q_move rfl) ?_
        refine WD.mid (fuel' := 0) [(0, (.slice ao_16383 l_16382.length cap_16384)), (1, (.int .i64 f_16386)), (4, (.pointer (some ⟨b_19168, 0, none⟩))), (6, (.int .i64 i_19822)), (16, (.int .i64 i_19822)), (17, (.slice ao_16383 l_16382.length cap_16384)), (18, (.int .i64 ((l_16382.length : Nat) : Int))), (19, (.bool (decide (i_19822 < ((l_16382.length : Nat) : Int))))), (22, (.slice ao_16383 l_16382.length cap_16384)), (23, (.int .i64 i_19822)), (24, (.pointer (some A_19916))), (25, (.pointer (some (A_19916.add 0)))), (26, (.int .i64 ((nth l_16382 i_19822).fLo))), (27, (.bool x_19895)), (28, (.bool (!x_19895))), (29, (.bool (!x_19895))), (37, (.bool b_19904)), (38, (.bool b_19904)), (50, (.bool (b_19904 || (decide (((nth l_16382 i_19822).fLo) > ((nth l_16382 i_19822).fHi))))))] (listedA 29 [28, 27, 26, 25, 24, 23, 22, 21, 20, 19, 18, 17, 16, 15, 14, 13, 12, 11, 10, 9, 8, 7, 6, 5, 4, 3, 2, 1, 0]) ?_ (fun K_19941 => ?_)
        rotate_left
        · rcases Bool.eq_false_or_eq_true b_19904 with hb' | hb'
          · have hg_19942 := hb'; clear hb'
            refine WD.pin (i := 38) rfl hg_19942 ?_
            refine WD.skip (i := 17) (d := 39) (by kernel_rfl) rfl (by kernel_rfl) (by kernel_rfl) rfl rfl rfl ?_
            refine WD.skip (i := 18) (d := 40) (by kernel_rfl) rfl (by kernel_rfl) (by kernel_rfl) rfl rfl rfl ?_
            refine WD.skip (i := 19) (d := 41) (by kernel_rfl) rfl (by kernel_rfl) (by kernel_rfl) rfl rfl rfl ?_
            refine WD.skip (i := 20) (d := 42) (by kernel_rfl) rfl (by kernel_rfl) (by kernel_rfl) rfl rfl rfl ?_
            refine WD.skip (i := 21) (d := 43) (by kernel_rfl) rfl (by kernel_rfl) (by kernel_rfl) rfl rfl rfl ?_
            refine WD.skip (i := 22) (d := 44) (by kernel_rfl) rfl (by kernel_rfl) (by kernel_rfl) rfl rfl rfl ?_
            refine WD.skip (i := 23) (d := 45) (by kernel_rfl) rfl (by kernel_rfl) (by kernel_rfl) rfl rfl rfl ?_
            refine WD.skip (i := 24) (d := 46) (by kernel_rfl) rfl (by kernel_rfl) (by kernel_rfl) rfl rfl rfl ?_
            refine WD.skip (i := 25) (d := 47) (by kernel_rfl) rfl (by kernel_rfl) (by kernel_rfl) rfl rfl rfl ?_
            refine WD.skip (i := 26) (d := 48) (by kernel_rfl) rfl (by kernel_rfl) (by kernel_rfl) rfl rfl rfl ?_
            refine WD.skip (i := 27) (d := 49) (by kernel_rfl) rfl (by kernel_rfl) (by kernel_rfl) rfl rfl rfl ?_
            refine WD.pure (i := 28) (d := 50) (by kernel_rfl) rfl (by kernel_rfl) (by kernel_rfl) rfl rfl rfl (fun _ => q_pickT rfl rfl) ?_
            refine WD.restr ?_ K_19941
            exact (.cons rfl (.cons rfl (.cons rfl (.cons rfl (.cons rfl (.cons rfl (.cons rfl (.cons rfl (.cons rfl (.cons rfl (.cons rfl (.cons rfl (.cons rfl (.cons rfl (.cons rfl (.cons rfl (.cons rfl (.cons (some_bool (Eq.symm hg_19942)) (.cons (some_bool (or_l hg_19942)) .nil)))))))))))))))))))
          · have hg_19943 := hb'; clear hb'
            have c_19906 := c_19915 hg_19943
            refine WD.pin (i := 38) rfl hg_19943 ?_
            refine WD.pure (i := 17) (d := 39) (by kernel_rfl) rfl (by kernel_rfl) (by kernel_rfl) rfl rfl rfl (fun _ => q_move rfl) ?_
            refine WD.pure (i := 18) (d := 40) (by kernel_rfl) rfl (by kernel_rfl) (by kernel_rfl) rfl rfl rfl (fun _ => q_move rfl) ?_
            refine WD.znth (j := 19) (dd := 41) (by kernel_rfl) rfl (by kernel_rfl) (by kernel_rfl) rfl rfl elT_23 rfl rfl hs_16385 c_19906 ?_
            rintro A_19944 r_19945 hA_19946 hl_19947 rfl
            refine WD.pure (i := 20) (d := 42) (by kernel_rfl) rfl (by kernel_rfl) (by kernel_rfl) rfl rfl rfl (fun _ => q_fieldAddr fo_35_0 rfl rfl) ?_
            refine WD.quiet (i := 21) (d := 43) (by kernel_rfl) rfl (by kernel_rfl) (by kernel_rfl) rfl rfl rfl (q_load1 oneT_3 rfl (rd_zAt hz.pv hA_19946 rfl)) ?_
            refine WD.pure (i := 22) (d := 44) (by kernel_rfl) rfl (by kernel_rfl) (by kernel_rfl) rfl rfl rfl (fun _ => q_move rfl) ?_
            refine WD.pure (i := 23) (d := 45) (by kernel_rfl) rfl (by kernel_rfl) (by kernel_rfl) rfl rfl rfl (fun _ => q_move rfl) ?_
            refine WD.znth (j := 24) (dd := 46) (by kernel_rfl) rfl (by kernel_rfl) (by kernel_rfl) rfl rfl elT_23 rfl rfl hs_16385 c_19906 ?_
            rintro A_19948 r_19949 hA_19950 hl_19951 rfl
            refine WD.pure (i := 25) (d := 47) (by kernel_rfl) rfl (by kernel_rfl) (by kernel_rfl) rfl rfl rfl (fun _ => q_fieldAddr fo_35_1 rfl rfl) ?_
            refine WD.quiet (i := 26) (d := 48) (by kernel_rfl) rfl (by kernel_rfl) (by kernel_rfl) rfl rfl rfl (q_load1 oneT_3 rfl (rd_zAt hz.pv hA_19950 rfl)) ?_
            refine WD.pure (i := 27) (d := 49) (by kernel_rfl) rfl (by kernel_rfl) (by kernel_rfl) rfl rfl rfl (fun _ => q_gtr rfl rfl) ?_
            refine WD.pure (i := 28) (d := 50) (by kernel_rfl) rfl (by kernel_rfl) (by kernel_rfl) rfl rfl rfl (fun _ => q_pickF rfl rfl) ?_
            refine WD.restr ?_ K_19941
            exact (.cons rfl (.cons rfl (.cons rfl (.cons rfl (.cons rfl (.cons rfl (.cons rfl (.cons rfl (.cons rfl (.cons rfl (.cons rfl (.cons rfl (.cons rfl (.cons rfl (.cons rfl (.cons rfl (.cons rfl (.cons (some_bool (Eq.symm hg_19943)) (.cons (some_bool (or_r hg_19943)) .nil)))))))))))))))))))
        refine WD.done (by kernel_rfl) ?_
        refine WX.then ?_
        refine WC.cond rfl (fun hb_19952 => ?_) (fun hb_19952 => ?_)
        · replace h := ite_t h hb_19952
          refine WC.seq ?_
          refine WC.region ?_
          refine WL.quiet (d := 51) rfl rfl rfl (q_build (v := (.agg #[(.int .i64 0), (.int .i64 0)])) (Eos.parts (l := []) .nil []) (fun _ => by kernel_rfl)) ?_
          refine WL.eff0 rfl rfl (e_store (vs := [(.int .i64 0), (.int .i64 0)]) (ds := [(.int .i64 0), (.int .i64 0)]) sizT_35 rfl rfl rfl rfl (oc_cons rfl (oc_cons rfl oc_nil)) .here (Nat.le_of_ble_eq_true rfl) rfl) ?_
          refine WL.quiet (d := 5) rfl rfl rfl (q_assign rfl) ?_
          refine WL.nil ?_
          refine WX.then ?_
          refine WC.ret ?_
          refine WX.blockRet ?_
          refine WX.thenRet ?_
          refine WX.thenRet ?_
          refine WX.blockRet ?_
          refine WX.thenRet ?_
          obtain rfl := Option.some.inj h
          refine WX.bpRet Try.results16 (.agg rfl aggT_35 rfl (rd_all .here) (.tmp rfl .nil)) (fun w hw => ?_)
          exact ⟨ret2 rfl rfl, hw.sub .nil⟩
        · replace h := ite_f h hb_19952
          refine WC.skip ?_
          refine WX.blockNormal ?_
          refine WX.then ?_
          refine WC.region ?_
          refine WL.quiet (d := 20) rfl rfl rfl (q_move rfl) ?_
          refine WL.quiet (d := 21) rfl rfl rfl (q_add rfl rfl rfl) ?_
          refine WL.quiet (d := 6) rfl rfl rfl (q_assign rfl) ?_
          refine WL.nil ?_
          exact WX.round (G := Nat × Int) ⟨n_19824, (i64 (i_19822 + 1))⟩ h (Nat.lt_succ_self _) (.cons rfl (.cons rfl (.cons rfl (.cons rfl .nil)))) (.cons .here .nil)
      · replace h := ite_f h hb_19826
        refine WC.exit ?_
        refine WX.thenExit ?_
        refine WX.thenExit ?_
        refine WX.blockHit ?_
        exact WX.mid (G := Unit) () h (.cons rfl (.cons rfl (.cons rfl .nil))) (.cons .here .nil)
    · rintro  h
      replace h := hk_19564.symm.trans h
      refine WC.seq ?_
      refine WC.region ?_
      refine WL.quiet (d := 52) rfl rfl rfl (q_build (v := (.agg #[(.int .i64 1), (.int .i64 0)])) (Eos.parts (l := [.const (.int .i64 1), .const (.int .i64 0)]) (.cons rfl (.cons rfl .nil)) [0, 1]) (fun _ => by kernel_rfl)) ?_
      refine WL.new (dd := 7) rfl rfl rfl (e_alloc (cs := [(.int .i64 0), (.int .i64 0)]) zeroT_35 rfl) ?_
      intro b_19954 _
      refine WL.eff0 rfl rfl (e_store (vs := [(.int .i64 1), (.int .i64 0)]) (ds := [(.int .i64 1), (.int .i64 0)]) sizT_35 rfl rfl rfl rfl (oc_cons rfl (oc_cons rfl oc_nil)) .here (Nat.le_of_ble_eq_true rfl) rfl) ?_
      refine WL.nil ?_
      refine WX.then ?_
      obtain ⟨k_20380, hk_20381, h⟩ := jp2_elim h
      refine WC.seqMid2 (fun (c_20378 : Int) (c_20379 : Int) => (k_20380 c_20378 c_20379 = some r)) (fun (c_20378 : Int) (c_20379 : Int) => [(0, (.slice ao_16383 l_16382.length cap_16384)), (1, (.int .i64 f_16386)), (4, (.pointer (some ⟨b_19168, 0, none⟩))), (7, (.pointer (some ⟨b_19954, 0, none⟩)))]) (fun (c_20378 : Int) (c_20379 : Int) => [stb b_19168 35 [(.int .i64 0), (.int .i64 0)], stb b_19954 35 [(.int .i64 c_20378), (.int .i64 c_20379)]]) ?_ ?_
      · skip
        refine WC.seq ?_
        refine WC.region ?_
        refine WL.quiet (d := 8) rfl rfl rfl (q_assign rfl) ?_
        refine WL.nil ?_
        refine WX.then ?_
        refine WC.block ?_
        refine WC.loop4 (fun (n_20642 : Nat) (i_20639 : Int) (c_20640 : Int) (c_20641 : Int) => (m_ref33_Meet_L5 l_16382 f_16386 k_20380 n_20642 i_20639 c_20640 c_20641 = some r)) (fun (n_20642 : Nat) (i_20639 : Int) (c_20640 : Int) (c_20641 : Int) => [(0, (.slice ao_16383 l_16382.length cap_16384)), (1, (.int .i64 f_16386)), (4, (.pointer (some ⟨b_19168, 0, none⟩))), (7, (.pointer (some ⟨b_19954, 0, none⟩))), (8, (.int .i64 i_20639))]) (fun (n_20642 : Nat) (i_20639 : Int) (c_20640 : Int) (c_20641 : Int) => [stb b_19168 35 [(.int .i64 0), (.int .i64 0)], stb b_19954 35 [(.int .i64 c_20640), (.int .i64 c_20641)]]) (fun (n_20642 : Nat) (i_20639 : Int) (c_20640 : Int) (c_20641 : Int) => n_20642) ⟨FUEL, 0, 1, 0⟩ h (.cons rfl (.cons rfl (.cons rfl (.cons rfl (.cons rfl .nil))))) (.cons (.there .here) (.cons .here .nil)) ?_
        rintro n_20642 i_20639 c_20640 c_20641 h
        obtain ⟨n_20643, rfl⟩ := m_ref33_Meet_L5_fuel h
        rw [m_ref33_Meet_L5] at h
        refine WC.seq ?_
        refine WC.seq ?_
        refine WC.region ?_
        refine WL.quiet (d := 53) rfl rfl rfl (q_move rfl) ?_
        refine WL.quiet (d := 54) rfl rfl rfl (q_move rfl) ?_
        refine WL.quiet (d := 55) rfl rfl rfl (q_len Try.underlying23 rfl) ?_
        refine WL.quiet (d := 56) rfl rfl rfl (q_lss rfl rfl) ?_
        refine WL.nil ?_
        refine WX.then ?_
        refine WC.cond rfl (fun hb_20645 => ?_) (fun hb_20645 => ?_)
        · replace h := ite_t h hb_20645
          refine WC.skip ?_
          refine WX.then ?_
          obtain ⟨k_20724, hk_20725, h⟩ := jp2_elim h
          refine WC.seqMid2 (fun (c_20722 : Int) (c_20723 : Int) => (k_20724 c_20722 c_20723 = some r)) (fun (c_20722 : Int) (c_20723 : Int) => [(0, (.slice ao_16383 l_16382.length cap_16384)), (1, (.int .i64 f_16386)), (4, (.pointer (some ⟨b_19168, 0, none⟩))), (7, (.pointer (some ⟨b_19954, 0, none⟩))), (8, (.int .i64 i_20639))]) (fun (c_20722 : Int) (c_20723 : Int) => [stb b_19168 35 [(.int .i64 0), (.int .i64 0)], stb b_19954 35 [(.int .i64 c_20722), (.int .i64 c_20723)]]) ?_ ?_
          · skip
            refine WC.block ?_
            refine WC.seq ?_
            obtain ⟨c_20726, h⟩ := chk_elim h
            obtain ⟨x_20731, hx_20732, h⟩ := bind_elim h
            obtain ⟨c_20739, h⟩ := chk_elim h
            refine WC.draw (fun i => [].contains i) [] rfl ?_
            refine WD.pure (i := 0) (d := 59) (by kernel_rfl) rfl (by kernel_rfl) (by kernel_rfl) rfl rfl rfl (fun _ => q_move rfl) ?_
            refine WD.pure (i := 1) (d := 60) (by kernel_rfl) rfl (by kernel_rfl) (by kernel_rfl) rfl rfl rfl (fun _ => q_move rfl) ?_
            refine WD.pure (i := 2) (d := 61) (by kernel_rfl) rfl (by kernel_rfl) (by kernel_rfl) rfl rfl rfl (fun _ => q_move rfl) ?_
            refine WD.pure (i := 3) (d := 62) (by kernel_rfl) rfl (by kernel_rfl) (by kernel_rfl) rfl rfl rfl (fun _ => q_move rfl) ?_
            refine WD.znth (j := 4) (dd := 63) (by kernel_rfl) rfl (by kernel_rfl) (by kernel_rfl) rfl rfl elT_23 rfl rfl hs_16385 c_20726 ?_
            rintro A_20740 r_20741 hA_20742 hl_20743 rfl
            refine WD.pure (i := 5) (d := 64) (by kernel_rfl) rfl (by kernel_rfl) (by kernel_rfl) rfl rfl rfl (fun _ => q_fieldAddr fo_35_0 rfl rfl) ?_
            refine WD.quiet (i := 6) (d := 65) (by kernel_rfl) rfl (by kernel_rfl) (by kernel_rfl) rfl rfl rfl (q_load1 oneT_3 rfl (rd_zAt hz.pv hA_20742 rfl)) ?_
            refine WD.enter (i := 7) (d := 66) (by kernel_rfl) rfl (by kernel_rfl) (by kernel_rfl) rfl rfl rfl (run_call (l := [.tmp 59, .tmp 60, .tmp 65]) Try.call38 (.cons rfl (.cons rfl (.cons rfl .nil)))) (fun w hw => by have pz := (hz.call hw (.nil : Sel [stb b_19168 35 [(.int .i64 0), (.int .i64 0)], stb b_19954 35 [(.int .i64 c_20640), (.int .i64 c_20641)]] [] [stb b_19168 35 [(.int .i64 0), (.int .i64 0)], stb b_19954 35 [(.int .i64 c_20640), (.int .i64 c_20641)]])); exact w_ref33_Allowed (Z := _) (ao_17183 := ao_16383) (cap_17184 := cap_16384) (l_17182 := l_16382) (f_17186 := f_16386) (t_17187 := ((nth l_16382 i_20639).fLo)) (r := x_20731) w pz hs_16385 hx_20732) ?_
            refine WD.pure (i := 8) (d := 67) (by kernel_rfl) rfl (by kernel_rfl) (by kernel_rfl) rfl rfl rfl (fun _ => q_move rfl) ?_
            refine WD.mid (fuel' := 0) [(0, (.slice ao_16383 l_16382.length cap_16384)), (1, (.int .i64 f_16386)), (4, (.pointer (some ⟨b_19168, 0, none⟩))), (7, (.pointer (some ⟨b_19954, 0, none⟩))), (8, (.int .i64 i_20639)), (53, (.int .i64 i_20639)), (54, (.slice ao_16383 l_16382.length cap_16384)), (55, (.int .i64 ((l_16382.length : Nat) : Int))), (56, (.bool (decide (i_20639 < ((l_16382.length : Nat) : Int))))), (59, (.slice ao_16383 l_16382.length cap_16384)), (60, (.int .i64 f_16386)), (61, (.slice ao_16383 l_16382.length cap_16384)), (62, (.int .i64 i_20639)), (63, (.pointer (some A_20740))), (64, (.pointer (some (A_20740.add 0)))), (65, (.int .i64 ((nth l_16382 i_20639).fLo))), (66, (.bool x_20731)), (67, (.bool x_20731)), (83, (.bool (x_20731 && ((decide (c_20640 > c_20641)) || (decide (((nth l_16382 i_20639).fLo) < c_20640))))))] (listedA 25 [24, 23, 22, 21, 20, 19, 18, 17, 16, 15, 14, 13, 12, 11, 10, 9, 8, 7, 6, 5, 4, 3, 2, 1, 0]) ?_ (fun K_20755 => ?_)
            rotate_left
            · rcases Bool.eq_false_or_eq_true x_20731 with hb' | hb'
              · have hg_20756 := hb'; clear hb'
                have c_20738 := c_20739 hg_20756
                refine WD.pin (i := 67) rfl hg_20756 ?_
                refine WD.pure (i := 9) (d := 68) (by kernel_rfl) rfl (by kernel_rfl) (by kernel_rfl) rfl rfl rfl (fun _ => q_fieldAddr fo_35_0 rfl rfl) ?_
                refine WD.quiet (i := 10) (d := 69) (by kernel_rfl) rfl (by kernel_rfl) (by kernel_rfl) rfl rfl rfl (q_load1 oneT_3 rfl (rd_stb (.there .here) rfl)) ?_
                refine WD.pure (i := 11) (d := 70) (by kernel_rfl) rfl (by kernel_rfl) (by kernel_rfl) rfl rfl rfl (fun _ => q_fieldAddr fo_35_1 rfl rfl) ?_
                refine WD.quiet (i := 12) (d := 71) (by kernel_rfl) rfl (by kernel_rfl) (by kernel_rfl) rfl rfl rfl (q_load1 oneT_3 rfl (rd_stb (.there .here) rfl)) ?_
                refine WD.pure (i := 13) (d := 72) (by kernel_rfl) rfl (by kernel_rfl) (by kernel_rfl) rfl rfl rfl (fun _ => q_gtr rfl rfl) ?_
                refine WD.pure (i := 14) (d := 73) (by kernel_rfl) rfl (by kernel_rfl) (by kernel_rfl) rfl rfl rfl (fun _ => q_move rfl) ?_
                refine WD.mid (fuel' := 1) [(0, (.slice ao_16383 l_16382.length cap_16384)), (1, (.int .i64 f_16386)), (4, (.pointer (some ⟨b_19168, 0, none⟩))), (7, (.pointer (some ⟨b_19954, 0, none⟩))), (8, (.int .i64 i_20639)), (53, (.int .i64 i_20639)), (54, (.slice ao_16383 l_16382.length cap_16384)), (55, (.int .i64 ((l_16382.length : Nat) : Int))), (56, (.bool (decide (i_20639 < ((l_16382.length : Nat) : Int))))), (59, (.slice ao_16383 l_16382.length cap_16384)), (60, (.int .i64 f_16386)), (61, (.slice ao_16383 l_16382.length cap_16384)), (62, (.int .i64 i_20639)), (63, (.pointer (some A_20740))), (64, (.pointer (some (A_20740.add 0)))), (65, (.int .i64 ((nth l_16382 i_20639).fLo))), (66, (.bool x_20731)), (67, (.bool true)), (68, (.pointer (some ⟨b_19954, 0, none⟩))), (69, (.int .i64 c_20640)), (70, (.pointer (some ⟨b_19954, 1, none⟩))), (71, (.int .i64 c_20641)), (72, (.bool (decide (c_20640 > c_20641)))), (73, (.bool (decide (c_20640 > c_20641)))), (82, (.bool ((decide (c_20640 > c_20641)) || (decide (((nth l_16382 i_20639).fLo) < c_20640)))))] (listedA 25 [23, 22, 21, 20, 19, 18, 17, 16, 15, 14, 13, 12, 11, 10, 9, 8, 7, 6, 5, 4, 3, 2, 1, 0]) ?_ (fun K_20761 => ?_)
                rotate_left
                · rcases Bool.eq_false_or_eq_true (decide (c_20640 > c_20641)) with hb' | hb'
                  · have hg_20762 := hb'; clear hb'
                    refine WD.pin (i := 73) rfl hg_20762 ?_
                    refine WD.skip (i := 15) (d := 74) (by kernel_rfl) rfl (by kernel_rfl) (by kernel_rfl) rfl rfl rfl ?_
                    refine WD.skip (i := 16) (d := 75) (by kernel_rfl) rfl (by kernel_rfl) (by kernel_rfl) rfl rfl rfl ?_
                    refine WD.skip (i := 17) (d := 76) (by kernel_rfl) rfl (by kernel_rfl) (by kernel_rfl) rfl rfl rfl ?_
                    refine WD.skip (i := 18) (d := 77) (by kernel_rfl) rfl (by kernel_rfl) (by kernel_rfl) rfl rfl rfl ?_
                    refine WD.skip (i := 19) (d := 78) (by kernel_rfl) rfl (by kernel_rfl) (by kernel_rfl) rfl rfl rfl ?_
                    refine WD.skip (i := 20) (d := 79) (by kernel_rfl) rfl (by kernel_rfl) (by kernel_rfl) rfl rfl rfl ?_
                    refine WD.skip (i := 21) (d := 80) (by kernel_rfl) rfl (by kernel_rfl) (by kernel_rfl) rfl rfl rfl ?_
                    refine WD.skip (i := 22) (d := 81) (by kernel_rfl) rfl (by kernel_rfl) (by kernel_rfl) rfl rfl rfl ?_
                    refine WD.pure (i := 23) (d := 82) (by kernel_rfl) rfl (by kernel_rfl) (by kernel_rfl) rfl rfl rfl (fun _ => q_pickT rfl rfl) ?_
                    refine WD.restr ?_ K_20761
                    exact (.cons rfl (.cons rfl (.cons rfl (.cons rfl (.cons rfl (.cons rfl (.cons rfl (.cons rfl (.cons rfl (.cons rfl (.cons rfl (.cons rfl (.cons rfl (.cons rfl (.cons rfl (.cons rfl (.cons rfl (.cons rfl (.cons rfl (.cons rfl (.cons rfl (.cons rfl (.cons rfl (.cons (some_bool (Eq.symm hg_20762)) (.cons (some_bool (or_l hg_20762)) .nil)))))))))))))))))))))))))
                  · have hg_20763 := hb'; clear hb'
                    have c_20733 := c_20738 hg_20763
                    refine WD.pin (i := 73) rfl hg_20763 ?_
                    refine WD.pure (i := 15) (d := 74) (by kernel_rfl) rfl (by kernel_rfl) (by kernel_rfl) rfl rfl rfl (fun _ => q_move rfl) ?_
                    refine WD.pure (i := 16) (d := 75) (by kernel_rfl) rfl (by kernel_rfl) (by kernel_rfl) rfl rfl rfl (fun _ => q_move rfl) ?_
                    refine WD.znth (j := 17) (dd := 76) (by kernel_rfl) rfl (by kernel_rfl) (by kernel_rfl) rfl rfl elT_23 rfl rfl hs_16385 c_20733 ?_
                    rintro A_20764 r_20765 hA_20766 hl_20767 rfl
                    refine WD.pure (i := 18) (d := 77) (by kernel_rfl) rfl (by kernel_rfl) (by kernel_rfl) rfl rfl rfl (fun _ => q_fieldAddr fo_35_0 rfl rfl) ?_
                    refine WD.quiet (i := 19) (d := 78) (by kernel_rfl) rfl (by kernel_rfl) (by kernel_rfl) rfl rfl rfl (q_load1 oneT_3 rfl (rd_zAt hz.pv hA_20766 rfl)) ?_
                    refine WD.pure (i := 20) (d := 79) (by kernel_rfl) rfl (by kernel_rfl) (by kernel_rfl) rfl rfl rfl (fun _ => q_fieldAddr fo_35_0 rfl rfl) ?_
                    refine WD.quiet (i := 21) (d := 80) (by kernel_rfl) rfl (by kernel_rfl) (by kernel_rfl) rfl rfl rfl (q_load1 oneT_3 rfl (rd_stb (.there .here) rfl)) ?_
                    refine WD.pure (i := 22) (d := 81) (by kernel_rfl) rfl (by kernel_rfl) (by kernel_rfl) rfl rfl rfl (fun _ => q_lss rfl rfl) ?_
                    refine WD.pure (i := 23) (d := 82) (by kernel_rfl) rfl (by kernel_rfl) (by kernel_rfl) rfl rfl rfl (fun _ => q_pickF rfl rfl) ?_
                    refine WD.restr ?_ K_20761
                    exact (.cons rfl (.cons rfl (.cons rfl (.cons rfl (.cons rfl (.cons rfl (.cons rfl (.cons rfl (.cons rfl (.cons rfl (.cons rfl (.cons rfl (.cons rfl (.cons rfl (.cons rfl (.cons rfl (.cons rfl (.cons rfl (.cons rfl (.cons rfl (.cons rfl (.cons rfl (.cons rfl (.cons (some_bool (Eq.symm hg_20763)) (.cons (some_bool (or_r hg_20763)) .nil)))))))))))))))))))))))))
                refine WD.pure (i := 24) (d := 83) (by kernel_rfl) rfl (by kernel_rfl) (by kernel_rfl) rfl rfl rfl (fun _ => q_pickT rfl rfl) ?_
                refine WD.restr ?_ K_20755
                exact (.cons rfl (.cons rfl (.cons rfl (.cons rfl (.cons rfl (.cons rfl (.cons rfl (.cons rfl (.cons rfl (.cons rfl (.cons rfl (.cons rfl (.cons rfl (.cons rfl (.cons rfl (.cons rfl (.cons rfl (.cons (some_bool (Eq.symm hg_20756)) (.cons (some_bool (and_r hg_20756)) .nil)))))))))))))))))))
              · have hg_20768 := hb'; clear hb'
                refine WD.pin (i := 67) rfl hg_20768 ?_
                refine WD.skip (i := 9) (d := 68) (by kernel_rfl) rfl (by kernel_rfl) (by kernel_rfl) rfl rfl rfl ?_
                refine WD.skip (i := 10) (d := 69) (by kernel_rfl) rfl (by kernel_rfl) (by kernel_rfl) rfl rfl rfl ?_
                refine WD.skip (i := 11) (d := 70) (by kernel_rfl) rfl (by kernel_rfl) (by kernel_rfl) rfl rfl rfl ?_
                refine WD.skip (i := 12) (d := 71) (by kernel_rfl) rfl (by kernel_rfl) (by kernel_rfl) rfl rfl rfl ?_
                refine WD.skip (i := 13) (d := 72) (by kernel_rfl) rfl (by kernel_rfl) (by kernel_rfl) rfl rfl rfl ?_
                refine WD.skip (i := 14) (d := 73) (by kernel_rfl) rfl (by kernel_rfl) (by kernel_rfl) rfl rfl rfl ?_
                refine WD.skip (i := 15) (d := 74) (by kernel_rfl) rfl (by kernel_rfl) (by kernel_rfl) rfl rfl rfl ?_
                refine WD.skip (i := 16) (d := 75) (by kernel_rfl) rfl (by kernel_rfl) (by kernel_rfl) rfl rfl rfl ?_
                refine WD.skip (i := 17) (d := 76) (by kernel_rfl) rfl (by kernel_rfl) (by kernel_rfl) rfl rfl rfl ?_
                refine WD.skip (i := 18) (d := 77) (by kernel_rfl) rfl (by kernel_rfl) (by kernel_rfl) rfl rfl rfl ?_
                refine WD.skip (i := 19) (d := 78) (by kernel_rfl) rfl (by kernel_rfl) (by kernel_rfl) rfl rfl rfl ?_
                refine WD.skip (i := 20) (d := 79) (by kernel_rfl) rfl (by kernel_rfl) (by kernel_rfl) rfl rfl rfl ?_
                refine WD.skip (i := 21) (d := 80) (by kernel_rfl) rfl (by kernel_rfl) (by kernel_rfl) rfl rfl rfl ?_
                refine WD.skip (i := 22) (d := 81) (by kernel_rfl) rfl (by kernel_rfl) (by kernel_rfl) rfl rfl rfl ?_
                refine WD.skip (i := 23) (d := 82) (by kernel_rfl) rfl (by kernel_rfl) (by kernel_rfl) rfl rfl rfl ?_
                refine WD.pure (i := 24) (d := 83) (by kernel_rfl) rfl (by kernel_rfl) (by kernel_rfl) rfl rfl rfl (fun _ => q_pickF rfl rfl) ?_
                refine WD.restr ?_ K_20755
                exact (.cons rfl (.cons rfl (.cons rfl (.cons rfl (.cons rfl (.cons rfl (.cons rfl (.cons rfl (.cons rfl (.cons rfl (.cons rfl (.cons rfl (.cons rfl (.cons rfl (.cons rfl (.cons rfl (.cons rfl (.cons (some_bool (Eq.symm hg_20768)) (.cons (some_bool (and_l hg_20768)) .nil)))))))))))))))))))
            refine WD.done (by kernel_rfl) ?_
            refine WX.then ?_
            refine WC.cond rfl (fun hb_20769 => ?_) (fun hb_20769 => ?_)
            · replace h := ite_t h hb_20769
              obtain ⟨k_20781, hk_20782, h⟩ := jp1_elim h
              refine WC.seqMid1 (fun (c_20780 : Int) => (k_20781 c_20780 = some r)) (fun (c_20780 : Int) => [(0, (.slice ao_16383 l_16382.length cap_16384)), (1, (.int .i64 f_16386)), (4, (.pointer (some ⟨b_19168, 0, none⟩))), (7, (.pointer (some ⟨b_19954, 0, none⟩))), (8, (.int .i64 i_20639))]) (fun (c_20780 : Int) => [stb b_19168 35 [(.int .i64 0), (.int .i64 0)], stb b_19954 35 [(.int .i64 c_20640), (.int .i64 c_20780)]]) ?_ ?_
              · skip
                refine WC.seq ?_
                refine WC.region ?_
                refine WL.quiet (d := 84) rfl rfl rfl (q_fieldAddr fo_35_0 rfl rfl) ?_
                refine WL.quiet (d := 85) rfl rfl rfl (q_load1 oneT_3 rfl (rd_stb (.there .here) rfl)) ?_
                refine WL.quiet (d := 86) rfl rfl rfl (q_fieldAddr fo_35_1 rfl rfl) ?_
                refine WL.quiet (d := 87) rfl rfl rfl (q_load1 oneT_3 rfl (rd_stb (.there .here) rfl)) ?_
                refine WL.quiet (d := 88) rfl rfl rfl (q_gtr rfl rfl) ?_
                refine WL.nil ?_
                refine WX.then ?_
                refine WC.cond rfl (fun hb_20783 => ?_) (fun hb_20783 => ?_)
                · replace h := ite_t h hb_20783
                  obtain ⟨c_20784, h⟩ := chk_elim h
                  refine WC.region ?_
                  refine WL.quiet (d := 89) rfl rfl rfl (q_move rfl) ?_
                  refine WL.quiet (d := 90) rfl rfl rfl (q_move rfl) ?_
                  refine WL.znth (dd := 91) rfl rfl elT_23 rfl rfl hs_16385 c_20784 ?_
                  rintro A_20789 r_20790 hA_20791 hl_20792 rfl
                  refine WL.quiet (d := 92) rfl rfl rfl (q_fieldAddr fo_35_0 rfl rfl) ?_
                  refine WL.quiet (d := 93) rfl rfl rfl (q_load1 oneT_3 rfl (rd_zAt hz.pv hA_20791 rfl)) ?_
                  refine WL.quiet (d := 94) rfl rfl rfl (q_fieldAddr fo_35_1 rfl rfl) ?_
                  refine WL.eff0 rfl rfl (e_store (vs := [(.int .i64 ((nth l_16382 i_20639).fLo))]) (ds := [(.int .i64 c_20640), (.int .i64 ((nth l_16382 i_20639).fLo))]) sizT_3 rfl rfl rfl rfl (oc_cons rfl oc_nil) (.there .here) (Nat.le_of_ble_eq_true rfl) rfl) ?_
                  refine WL.nil ?_
                  exact WX.mid (G := Int) ((nth l_16382 i_20639).fLo) h (.cons rfl (.cons rfl (.cons rfl (.cons rfl (.cons rfl .nil))))) (.cons (.there .here) (.cons .here .nil))
                · replace h := ite_f h hb_20783
                  refine WC.skip ?_
                  exact WX.mid (G := Int) c_20641 h (.cons rfl (.cons rfl (.cons rfl (.cons rfl (.cons rfl .nil))))) (.cons .here (.cons .here .nil))
              · rintro c_20780 h
                replace h := (hk_20782 c_20780).symm.trans h
                obtain ⟨c_20793, h⟩ := chk_elim h
                refine WC.region ?_
                refine WL.quiet (d := 95) rfl rfl rfl (q_move rfl) ?_
                refine WL.quiet (d := 96) rfl rfl rfl (q_move rfl) ?_
                refine WL.znth (dd := 97) rfl rfl elT_23 rfl rfl hs_16385 c_20793 ?_
                rintro A_20798 r_20799 hA_20800 hl_20801 rfl
                refine WL.quiet (d := 98) rfl rfl rfl (q_fieldAddr fo_35_0 rfl rfl) ?_
                refine WL.quiet (d := 99) rfl rfl rfl (q_load1 oneT_3 rfl (rd_zAt hz.pv hA_20800 rfl)) ?_
                refine WL.quiet (d := 100) rfl rfl rfl (q_fieldAddr fo_35_0 rfl rfl) ?_
                refine WL.eff0 rfl rfl (e_store (vs := [(.int .i64 ((nth l_16382 i_20639).fLo))]) (ds := [(.int .i64 ((nth l_16382 i_20639).fLo)), (.int .i64 c_20780)]) sizT_3 rfl rfl rfl rfl (oc_cons rfl oc_nil) (.there .here) (Nat.le_of_ble_eq_true rfl) rfl) ?_
                refine WL.nil ?_
                refine WX.blockNormal ?_
                exact WX.mid (G := Int × Int) ⟨((nth l_16382 i_20639).fLo), c_20780⟩ h (.cons rfl (.cons rfl (.cons rfl (.cons rfl (.cons rfl .nil))))) (.cons (.there .here) (.cons .here .nil))
            · replace h := ite_f h hb_20769
              refine WC.skip ?_
              refine WX.blockNormal ?_
              exact WX.mid (G := Int × Int) ⟨c_20640, c_20641⟩ h (.cons rfl (.cons rfl (.cons rfl (.cons rfl (.cons rfl .nil))))) (.cons .here (.cons .here .nil))
          · rintro c_20722 c_20723 h
            replace h := (hk_20725 c_20722 c_20723).symm.trans h
            refine WC.region ?_
            refine WL.quiet (d := 57) rfl rfl rfl (q_move rfl) ?_
            refine WL.quiet (d := 58) rfl rfl rfl (q_add rfl rfl rfl) ?_
            refine WL.quiet (d := 8) rfl rfl rfl (q_assign rfl) ?_
            refine WL.nil ?_
            exact WX.round (G := Nat × Int × Int × Int) ⟨n_20643, (i64 (i_20639 + 1)), c_20722, c_20723⟩ h (Nat.lt_succ_self _) (.cons rfl (.cons rfl (.cons rfl (.cons rfl (.cons rfl .nil))))) (.cons .here (.cons .here .nil))
        · replace h := ite_f h hb_20645
          refine WC.exit ?_
          refine WX.thenExit ?_
          refine WX.thenExit ?_
          refine WX.blockHit ?_
          exact WX.mid (G := Int × Int) ⟨c_20640, c_20641⟩ h (.cons rfl (.cons rfl (.cons rfl (.cons rfl .nil)))) (.cons .here (.cons .here .nil))
      · rintro c_20378 c_20379 h
        replace h := (hk_20381 c_20378 c_20379).symm.trans h
        refine WC.seq ?_
        refine WC.seq ?_
        refine WC.region ?_
        refine WL.quiet (d := 101) rfl rfl rfl (q_fieldAddr fo_35_0 rfl rfl) ?_
        refine WL.quiet (d := 102) rfl rfl rfl (q_load1 oneT_3 rfl (rd_stb (.there .here) rfl)) ?_
        refine WL.quiet (d := 103) rfl rfl rfl (q_fieldAddr fo_35_1 rfl rfl) ?_
        refine WL.quiet (d := 104) rfl rfl rfl (q_load1 oneT_3 rfl (rd_stb (.there .here) rfl)) ?_
        refine WL.quiet (d := 105) rfl rfl rfl (q_gtr rfl rfl) ?_
        refine WL.nil ?_
        refine WX.then ?_
        refine WC.cond rfl (fun hb_20803 => ?_) (fun hb_20803 => ?_)
        · replace h := ite_t h hb_20803
          refine WC.seq ?_
          refine WC.region ?_
          refine WL.quiet (d := 106) rfl rfl rfl (q_build (v := (.agg #[(.int .i64 0), (.int .i64 0)])) (Eos.parts (l := []) .nil []) (fun _ => by kernel_rfl)) ?_
          refine WL.eff0 rfl rfl (e_store (vs := [(.int .i64 0), (.int .i64 0)]) (ds := [(.int .i64 0), (.int .i64 0)]) sizT_35 rfl rfl rfl rfl (oc_cons rfl (oc_cons rfl oc_nil)) .here (Nat.le_of_ble_eq_true rfl) rfl) ?_
          refine WL.quiet (d := 5) rfl rfl rfl (q_assign rfl) ?_
          refine WL.nil ?_
          refine WX.then ?_
          refine WC.ret ?_
          refine WX.thenRet ?_
          obtain rfl := Option.some.inj h
          refine WX.bpRet Try.results16 (.agg rfl aggT_35 rfl (rd_all .here) (.tmp rfl .nil)) (fun w hw => ?_)
          exact ⟨ret2 rfl rfl, hw.sub .nil⟩
        · replace h := ite_f h hb_20803
          refine WC.skip ?_
          refine WX.then ?_
          obtain ⟨k_21063, hk_21064, h⟩ := jp1_elim h
          refine WC.seqMid1 (fun (c_21062 : Int) => (k_21063 c_21062 = some r)) (fun (c_21062 : Int) => [(4, (.pointer (some ⟨b_19168, 0, none⟩))), (7, (.pointer (some ⟨b_19954, 0, none⟩)))]) (fun (c_21062 : Int) => [stb b_19168 35 [(.int .i64 0), (.int .i64 0)], stb b_19954 35 [(.int .i64 c_20378), (.int .i64 c_21062)]]) ?_ ?_
          · skip
            refine WC.seq ?_
            refine WC.region ?_
            refine WL.quiet (d := 9) rfl rfl rfl (q_assign rfl) ?_
            refine WL.nil ?_
            refine WX.then ?_
            refine WC.block ?_
            refine WC.loop3 (fun (n_21237 : Nat) (i_21235 : Int) (c_21236 : Int) => (m_ref33_Meet_L6 l_16382 f_16386 k_21063 n_21237 i_21235 c_21236 = some r)) (fun (n_21237 : Nat) (i_21235 : Int) (c_21236 : Int) => [(0, (.slice ao_16383 l_16382.length cap_16384)), (1, (.int .i64 f_16386)), (4, (.pointer (some ⟨b_19168, 0, none⟩))), (7, (.pointer (some ⟨b_19954, 0, none⟩))), (9, (.int .i64 i_21235))]) (fun (n_21237 : Nat) (i_21235 : Int) (c_21236 : Int) => [stb b_19168 35 [(.int .i64 0), (.int .i64 0)], stb b_19954 35 [(.int .i64 c_20378), (.int .i64 c_21236)]]) (fun (n_21237 : Nat) (i_21235 : Int) (c_21236 : Int) => n_21237) ⟨FUEL, 0, c_20379⟩ h (.cons rfl (.cons rfl (.cons rfl (.cons rfl (.cons rfl .nil))))) (.cons .here (.cons .here .nil)) ?_
            rintro n_21237 i_21235 c_21236 h
            obtain ⟨n_21238, rfl⟩ := m_ref33_Meet_L6_fuel h
            rw [m_ref33_Meet_L6] at h
            refine WC.seq ?_
            refine WC.seq ?_
            refine WC.region ?_
            refine WL.quiet (d := 107) rfl rfl rfl (q_move rfl) ?_
            refine WL.quiet (d := 108) rfl rfl rfl (q_move rfl) ?_
            refine WL.quiet (d := 109) rfl rfl rfl (q_len Try.underlying23 rfl) ?_
            refine WL.quiet (d := 110) rfl rfl rfl (q_lss rfl rfl) ?_
            refine WL.nil ?_
            refine WX.then ?_
            refine WC.cond rfl (fun hb_21240 => ?_) (fun hb_21240 => ?_)
            · replace h := ite_t h hb_21240
              refine WC.skip ?_
              refine WX.then ?_
              obtain ⟨k_21280, hk_21281, h⟩ := jp1_elim h
              refine WC.seqMid1 (fun (c_21279 : Int) => (k_21280 c_21279 = some r)) (fun (c_21279 : Int) => [(0, (.slice ao_16383 l_16382.length cap_16384)), (1, (.int .i64 f_16386)), (4, (.pointer (some ⟨b_19168, 0, none⟩))), (7, (.pointer (some ⟨b_19954, 0, none⟩))), (9, (.int .i64 i_21235))]) (fun (c_21279 : Int) => [stb b_19168 35 [(.int .i64 0), (.int .i64 0)], stb b_19954 35 [(.int .i64 c_20378), (.int .i64 c_21279)]]) ?_ ?_
              · skip
                refine WC.block ?_
                refine WC.seq ?_
                obtain ⟨c_21282, h⟩ := chk_elim h
                obtain ⟨x_21287, hx_21288, h⟩ := bind_elim h
                obtain ⟨c_21294, h⟩ := chk_elim h
                refine WC.draw (fun i => [].contains i) [] rfl ?_
                refine WD.pure (i := 0) (d := 113) (by kernel_rfl) rfl (by kernel_rfl) (by kernel_rfl) rfl rfl rfl (fun _ => q_move rfl) ?_
                refine WD.pure (i := 1) (d := 114) (by kernel_rfl) rfl (by kernel_rfl) (by kernel_rfl) rfl rfl rfl (fun _ => q_move rfl) ?_
                refine WD.pure (i := 2) (d := 115) (by kernel_rfl) rfl (by kernel_rfl) (by kernel_rfl) rfl rfl rfl (fun _ => q_move rfl) ?_
                refine WD.pure (i := 3) (d := 116) (by kernel_rfl) rfl (by kernel_rfl) (by kernel_rfl) rfl rfl rfl (fun _ => q_move rfl) ?_
                refine WD.znth (j := 4) (dd := 117) (by kernel_rfl) rfl (by kernel_rfl) (by kernel_rfl) rfl rfl elT_23 rfl rfl hs_16385 c_21282 ?_
                rintro A_21295 r_21296 hA_21297 hl_21298 rfl
                refine WD.pure (i := 5) (d := 118) (by kernel_rfl) rfl (by kernel_rfl) (by kernel_rfl) rfl rfl rfl (fun _ => q_fieldAddr fo_35_1 rfl rfl) ?_
                refine WD.quiet (i := 6) (d := 119) (by kernel_rfl) rfl (by kernel_rfl) (by kernel_rfl) rfl rfl rfl (q_load1 oneT_3 rfl (rd_zAt hz.pv hA_21297 rfl)) ?_
                refine WD.enter (i := 7) (d := 120) (by kernel_rfl) rfl (by kernel_rfl) (by kernel_rfl) rfl rfl rfl (run_call (l := [.tmp 113, .tmp 114, .tmp 119]) Try.call38 (.cons rfl (.cons rfl (.cons rfl .nil)))) (fun w hw => by have pz := (hz.call hw (.nil : Sel [stb b_19168 35 [(.int .i64 0), (.int .i64 0)], stb b_19954 35 [(.int .i64 c_20378), (.int .i64 c_21236)]] [] [stb b_19168 35 [(.int .i64 0), (.int .i64 0)], stb b_19954 35 [(.int .i64 c_20378), (.int .i64 c_21236)]])); exact w_ref33_Allowed (Z := _) (ao_17183 := ao_16383) (cap_17184 := cap_16384) (l_17182 := l_16382) (f_17186 := f_16386) (t_17187 := ((nth l_16382 i_21235).fHi)) (r := x_21287) w pz hs_16385 hx_21288) ?_
                refine WD.pure (i := 8) (d := 121) (by kernel_rfl) rfl (by kernel_rfl) (by kernel_rfl) rfl rfl rfl (fun _ => q_move rfl) ?_
                refine WD.mid (fuel' := 0) [(0, (.slice ao_16383 l_16382.length cap_16384)), (1, (.int .i64 f_16386)), (4, (.pointer (some ⟨b_19168, 0, none⟩))), (7, (.pointer (some ⟨b_19954, 0, none⟩))), (9, (.int .i64 i_21235)), (107, (.int .i64 i_21235)), (108, (.slice ao_16383 l_16382.length cap_16384)), (109, (.int .i64 ((l_16382.length : Nat) : Int))), (110, (.bool (decide (i_21235 < ((l_16382.length : Nat) : Int))))), (113, (.slice ao_16383 l_16382.length cap_16384)), (114, (.int .i64 f_16386)), (115, (.slice ao_16383 l_16382.length cap_16384)), (116, (.int .i64 i_21235)), (117, (.pointer (some A_21295))), (118, (.pointer (some (A_21295.add 1)))), (119, (.int .i64 ((nth l_16382 i_21235).fHi))), (120, (.bool x_21287)), (121, (.bool x_21287)), (130, (.bool (x_21287 && (decide (((nth l_16382 i_21235).fHi) > c_21236)))))] (listedA 18 [17, 16, 15, 14, 13, 12, 11, 10, 9, 8, 7, 6, 5, 4, 3, 2, 1, 0]) ?_ (fun K_21303 => ?_)
                rotate_left
                · rcases Bool.eq_false_or_eq_true x_21287 with hb' | hb'
                  · have hg_21304 := hb'; clear hb'
                    have c_21289 := c_21294 hg_21304
                    refine WD.pin (i := 121) rfl hg_21304 ?_
                    refine WD.pure (i := 9) (d := 122) (by kernel_rfl) rfl (by kernel_rfl) (by kernel_rfl) rfl rfl rfl (fun _ => q_move rfl) ?_
                    refine WD.pure (i := 10) (d := 123) (by kernel_rfl) rfl (by kernel_rfl) (by kernel_rfl) rfl rfl rfl (fun _ => q_move rfl) ?_
                    refine WD.znth (j := 11) (dd := 124) (by kernel_rfl) rfl (by kernel_rfl) (by kernel_rfl) rfl rfl elT_23 rfl rfl hs_16385 c_21289 ?_
                    rintro A_21305 r_21306 hA_21307 hl_21308 rfl
                    refine WD.pure (i := 12) (d := 125) (by kernel_rfl) rfl (by kernel_rfl) (by kernel_rfl) rfl rfl rfl (fun _ => q_fieldAddr fo_35_1 rfl rfl) ?_
                    refine WD.quiet (i := 13) (d := 126) (by kernel_rfl) rfl (by kernel_rfl) (by kernel_rfl) rfl rfl rfl (q_load1 oneT_3 rfl (rd_zAt hz.pv hA_21307 rfl)) ?_
                    refine WD.pure (i := 14) (d := 127) (by kernel_rfl) rfl (by kernel_rfl) (by kernel_rfl) rfl rfl rfl (fun _ => q_fieldAddr fo_35_1 rfl rfl) ?_
                    refine WD.quiet (i := 15) (d := 128) (by kernel_rfl) rfl (by kernel_rfl) (by kernel_rfl) rfl rfl rfl (q_load1 oneT_3 rfl (rd_stb (.there .here) rfl)) ?_
                    refine WD.pure (i := 16) (d := 129) (by kernel_rfl) rfl (by kernel_rfl) (by kernel_rfl) rfl rfl rfl (fun _ => q_gtr rfl rfl) ?_
                    refine WD.pure (i := 17) (d := 130) (by kernel_rfl) rfl (by kernel_rfl) (by kernel_rfl) rfl rfl rfl (fun _ => q_pickT rfl rfl) ?_
                    refine WD.restr ?_ K_21303
                    exact (.cons rfl (.cons rfl (.cons rfl (.cons rfl (.cons rfl (.cons rfl (.cons rfl (.cons rfl (.cons rfl (.cons rfl (.cons rfl (.cons rfl (.cons rfl (.cons rfl (.cons rfl (.cons rfl (.cons rfl (.cons (some_bool (Eq.symm hg_21304)) (.cons (some_bool (and_r hg_21304)) .nil)))))))))))))))))))
                  · have hg_21309 := hb'; clear hb'
                    refine WD.pin (i := 121) rfl hg_21309 ?_
                    refine WD.skip (i := 9) (d := 122) (by kernel_rfl) rfl (by kernel_rfl) (by kernel_rfl) rfl rfl rfl ?_
                    refine WD.skip (i := 10) (d := 123) (by kernel_rfl) rfl (by kernel_rfl) (by kernel_rfl) rfl rfl rfl ?_
                    refine WD.skip (i := 11) (d := 124) (by kernel_rfl) rfl (by kernel_rfl) (by kernel_rfl) rfl rfl rfl ?_
                    refine WD.skip (i := 12) (d := 125) (by kernel_rfl) rfl (by kernel_rfl) (by kernel_rfl) rfl rfl rfl ?_
                    refine WD.skip (i := 13) (d := 126) (by kernel_rfl) rfl (by kernel_rfl) (by kernel_rfl) rfl rfl rfl ?_
                    refine WD.skip (i := 14) (d := 127) (by kernel_rfl) rfl (by kernel_rfl) (by kernel_rfl) rfl rfl rfl ?_
                    refine WD.skip (i := 15) (d := 128) (by kernel_rfl) rfl (by kernel_rfl) (by kernel_rfl) rfl rfl rfl ?_
                    refine WD.skip (i := 16) (d := 129) (by kernel_rfl) rfl (by kernel_rfl) (by kernel_rfl) rfl rfl rfl ?_
                    refine WD.pure (i := 17) (d := 130) (by kernel_rfl) rfl (by kernel_rfl) (by kernel_rfl) rfl rfl rfl (fun _ => q_pickF rfl rfl) ?_
                    refine WD.restr ?_ K_21303
                    exact (.cons rfl (.cons rfl (.cons rfl (.cons rfl (.cons rfl (.cons rfl (.cons rfl (.cons rfl (.cons rfl (.cons rfl (.cons rfl (.cons rfl (.cons rfl (.cons rfl (.cons rfl (.cons rfl (.cons rfl (.cons (some_bool (Eq.symm hg_21309)) (.cons (some_bool (and_l hg_21309)) .nil)))))))))))))))))))
                refine WD.done (by kernel_rfl) ?_
                refine WX.then ?_
                refine WC.cond rfl (fun hb_21310 => ?_) (fun hb_21310 => ?_)
                · replace h := ite_t h hb_21310
                  obtain ⟨c_21311, h⟩ := chk_elim h
                  refine WC.region ?_
                  refine WL.quiet (d := 131) rfl rfl rfl (q_move rfl) ?_
                  refine WL.quiet (d := 132) rfl rfl rfl (q_move rfl) ?_
                  refine WL.znth (dd := 133) rfl rfl elT_23 rfl rfl hs_16385 c_21311 ?_
                  rintro A_21316 r_21317 hA_21318 hl_21319 rfl
                  refine WL.quiet (d := 134) rfl rfl rfl (q_fieldAddr fo_35_1 rfl rfl) ?_
                  refine WL.quiet (d := 135) rfl rfl rfl (q_load1 oneT_3 rfl (rd_zAt hz.pv hA_21318 rfl)) ?_
                  refine WL.quiet (d := 136) rfl rfl rfl (q_fieldAddr fo_35_1 rfl rfl) ?_
                  refine WL.eff0 rfl rfl (e_store (vs := [(.int .i64 ((nth l_16382 i_21235).fHi))]) (ds := [(.int .i64 c_20378), (.int .i64 ((nth l_16382 i_21235).fHi))]) sizT_3 rfl rfl rfl rfl (oc_cons rfl oc_nil) (.there .here) (Nat.le_of_ble_eq_true rfl) rfl) ?_
                  refine WL.nil ?_
                  refine WX.blockNormal ?_
                  exact WX.mid (G := Int) ((nth l_16382 i_21235).fHi) h (.cons rfl (.cons rfl (.cons rfl (.cons rfl (.cons rfl .nil))))) (.cons (.there .here) (.cons .here .nil))
                · replace h := ite_f h hb_21310
                  refine WC.skip ?_
                  refine WX.blockNormal ?_
                  exact WX.mid (G := Int) c_21236 h (.cons rfl (.cons rfl (.cons rfl (.cons rfl (.cons rfl .nil))))) (.cons .here (.cons .here .nil))
              · rintro c_21279 h
                replace h := (hk_21281 c_21279).symm.trans h
                refine WC.region ?_
                refine WL.quiet (d := 111) rfl rfl rfl (q_move rfl) ?_
                refine WL.quiet (d := 112) rfl rfl rfl (q_add rfl rfl rfl) ?_
                refine WL.quiet (d := 9) rfl rfl rfl (q_assign rfl) ?_
                refine WL.nil ?_
                exact WX.round (G := Nat × Int × Int) ⟨n_21238, (i64 (i_21235 + 1)), c_21279⟩ h (Nat.lt_succ_self _) (.cons rfl (.cons rfl (.cons rfl (.cons rfl (.cons rfl .nil))))) (.cons .here (.cons .here .nil))
            · replace h := ite_f h hb_21240
              refine WC.exit ?_
              refine WX.thenExit ?_
              refine WX.thenExit ?_
              refine WX.blockHit ?_
              exact WX.mid (G := Int) c_21236 h (.cons rfl (.cons rfl .nil)) (.cons .here (.cons .here .nil))
          · rintro c_21062 h
            replace h := (hk_21064 c_21062).symm.trans h
            refine WC.seq ?_
            refine WC.region ?_
            refine WL.quiet (d := 137) rfl rfl rfl (q_loadA (cs := [(.int .i64 c_20378), (.int .i64 c_21062)]) aggT_35 rfl rfl (rd_all (.there .here))) ?_
            refine WL.eff0 rfl rfl (e_store (vs := [(.int .i64 c_20378), (.int .i64 c_21062)]) (ds := [(.int .i64 c_20378), (.int .i64 c_21062)]) sizT_35 rfl rfl rfl rfl (oc_cons rfl (oc_cons rfl oc_nil)) .here (Nat.le_of_ble_eq_true rfl) rfl) ?_
            refine WL.quiet (d := 5) rfl rfl rfl (q_assign rfl) ?_
            refine WL.nil ?_
            refine WX.then ?_
            refine WC.ret ?_
            obtain rfl := Option.some.inj h
            refine WX.bpRet Try.results16 (.agg rfl aggT_35 rfl (rd_all .here) (.tmp rfl .nil)) (fun w hw => ?_)
            exact ⟨ret2 rfl rfl, hw.sub .nil⟩
def m_law33_times_L2 (l_21421 : List Int) (f_21425 : Int) (k_22028 : (List Int) → Option (List Int)) : Nat → (List Int) → Int → Option (List Int)
  | 0, _, _ => none
  | n_22162 + 1, out_22156, i_22159 => if (decide (i_22159 < 16)) && ((decide (i_22159 < ((l_21421.length : Nat) : Int))) || (decide (((out_22156.length : Nat) : Int) < (i64 ((i64 (2 * f_21425)) + 1))))) then jp1 (fun (t_22203 : Int) => chk ((((out_22156 ++ [t_22203]).length : Nat) : Int) * 8 ≤ 140737488355328 ∧ (((out_22156 ++ [t_22203]).length : Nat) : Int) ≤ 4611686018427387904) (m_law33_times_L2 l_21421 f_21425 k_22028 n_22162 (out_22156 ++ [t_22203]) (i64 (i_22159 + 1)))) fun k_22204 => if decide (i_22159 < ((l_21421.length : Nat) : Int)) then chk ((0 : Int) ≤ i_22159 ∧ i_22159 < ((l_21421.length : Nat) : Int)) (k_22204 (Int.tmod (i64 (nth l_21421 i_22159)) 1001)) else k_22204 0 else k_22028 out_22156
theorem m_law33_times_L2_fuel {n : Nat} {l_21421 : List Int} {f_21425 : Int} {k_22028 : (List Int) → Option (List Int)} {out_22156 : List Int} {i_22159 : Int} {r : List Int} (h : m_law33_times_L2 l_21421 f_21425 k_22028 n out_22156 i_22159 = some r) : ∃ m, n = m + 1 := by
  cases n with
  | zero => cases h
  | succ m => exact ⟨m, rfl⟩

/-- nacellelaw33.times -/
def m_law33_times (l_21421 : List Int) (f_21425 : Int) : Option (List Int) :=
  jp1 (fun (out_22025 : List Int) => jp1 (fun (out_22227 : List Int) => some out_22227) fun k_22230 => if decide (((out_22025.length : Nat) : Int) = 0) then k_22230 [0] else k_22230 out_22025) fun k_22028 => m_law33_times_L2 l_21421 f_21425 k_22028 FUEL ([] : List Int) 0

set_option maxRecDepth 20000 in
theorem w_law33_times (Z : Zp) (ao_21422 : Option Addr) (cap_21423 : Nat) (l_21421 : List Int) (f_21425 : Int) (r : List Int) (w₀ : World) (hz : PZ [] w₀ Z)
    (hs_21424 : ZS Z 1 (fun r x => r = e45 x) ao_21422 cap_21423 l_21421)
    (h : m_law33_times l_21421 f_21425 = some r) :
    Calls Try.prog 18 #[(.slice ao_21422 l_21421.length cap_21423), (.int .i64 f_21425)] w₀ fun e w' => ∃ ao_21830 : Option Addr, ∃ cap_21831 : Nat, e = .returned (.slice ao_21830 r.length cap_21831) ∧ True ∧ Hp [] w₀ w' [row (.slice ao_21830 r.length cap_21831) 3 1 (r.flatMap e3)] := by
  unfold m_law33_times at h
  refine Calls.ofWC (vs := [(.slice ao_21422 l_21421.length cap_21423), (.int .i64 f_21425)]) (pre := []) (env := [(0, (.slice ao_21422 l_21421.length cap_21423)), (1, (.int .i64 f_21425))]) Try.func18 rfl Try.ntmps18 rfl (Hp.nil w₀ _) rfl ?_
  refine WC.seq ?_
  refine WC.region ?_
  refine WL.quiet (d := 4) rfl rfl rfl (q_assign rfl) ?_
  refine WL.nil ?_
  refine WX.then ?_
  refine WC.seq ?_
  refine WC.region ?_
  refine WL.quiet (d := 5) rfl rfl rfl (q_assign rfl) ?_
  refine WL.nil ?_
  refine WX.then ?_
  obtain ⟨k_22028, hk_22029, h⟩ := jp1_elim h
  refine WC.seqMid3 (fun (out_22025 : List Int) (ao_22026 : Option Addr) (cap_22027 : Nat) => (k_22028 out_22025 = some r)) (fun (out_22025 : List Int) (ao_22026 : Option Addr) (cap_22027 : Nat) => [(5, (.slice ao_22026 out_22025.length cap_22027))]) (fun (out_22025 : List Int) (ao_22026 : Option Addr) (cap_22027 : Nat) => [row (.slice ao_22026 out_22025.length cap_22027) 3 1 (out_22025.flatMap e3)]) ?_ ?_
  · skip
    refine WC.seq ?_
    refine WC.region ?_
    refine WL.quiet (d := 6) rfl rfl rfl (q_assign rfl) ?_
    refine WL.nil ?_
    refine WX.then ?_
    refine WC.block ?_
    refine WC.nilRow 3 1 ?_
    refine WC.loop5 (fun (n_22160 : Nat) (out_22156 : List Int) (i_22159 : Int) (ao_22157 : Option Addr) (cap_22158 : Nat) => (m_law33_times_L2 l_21421 f_21425 k_22028 n_22160 out_22156 i_22159 = some r)) (fun (n_22160 : Nat) (out_22156 : List Int) (i_22159 : Int) (ao_22157 : Option Addr) (cap_22158 : Nat) => [(0, (.slice ao_21422 l_21421.length cap_21423)), (1, (.int .i64 f_21425)), (5, (.slice ao_22157 out_22156.length cap_22158)), (6, (.int .i64 i_22159))]) (fun (n_22160 : Nat) (out_22156 : List Int) (i_22159 : Int) (ao_22157 : Option Addr) (cap_22158 : Nat) => [row (.slice ao_22157 out_22156.length cap_22158) 3 1 (out_22156.flatMap e3)]) (fun (n_22160 : Nat) (out_22156 : List Int) (i_22159 : Int) (ao_22157 : Option Addr) (cap_22158 : Nat) => n_22160) ⟨FUEL, ([] : List Int), 0, none, 0⟩ h (.cons rfl (.cons rfl (.cons rfl (.cons rfl .nil)))) (.cons .here .nil) ?_
    rintro n_22160 out_22156 i_22159 ao_22157 cap_22158 h
    obtain ⟨n_22162, rfl⟩ := m_law33_times_L2_fuel h
    rw [m_law33_times_L2] at h
    refine WC.seq ?_
    refine WC.seq ?_
    refine WC.region ?_
    refine WL.quiet (d := 8) rfl rfl rfl (q_move rfl) ?_
    refine WL.quiet (d := 9) rfl rfl rfl (q_lss rfl rfl) ?_
    refine WL.quiet (d := 10) rfl rfl rfl (q_move rfl) ?_
    refine WL.cut0 True [(0, (.slice ao_21422 l_21421.length cap_21423)), (1, (.int .i64 f_21425)), (5, (.slice ao_22157 out_22156.length cap_22158)), (6, (.int .i64 i_22159)), (23, (.bool ((decide (i_22159 < 16)) && ((decide (i_22159 < ((l_21421.length : Nat) : Int))) || (decide (((out_22156.length : Nat) : Int) < (i64 ((i64 (2 * f_21425)) + 1))))))))] [row (.slice ao_22157 out_22156.length cap_22158) 3 1 (out_22156.flatMap e3)] 13 ?_ (fun _ => ?_)
    · rcases Bool.eq_false_or_eq_true (decide (i_22159 < 16)) with hb' | hb'
      · have hg_22168 := hb'; clear hb'
        refine WL.pin (i := 10) rfl hg_22168 ?_
        refine WL.quiet (d := 11) rfl rfl rfl (q_move rfl) ?_
        refine WL.quiet (d := 12) rfl rfl rfl (q_move rfl) ?_
        refine WL.quiet (d := 13) rfl rfl rfl (q_len Try.underlying42 rfl) ?_
        refine WL.quiet (d := 14) rfl rfl rfl (q_lss rfl rfl) ?_
        refine WL.quiet (d := 15) rfl rfl rfl (q_move rfl) ?_
        refine WL.cut0 True [(0, (.slice ao_21422 l_21421.length cap_21423)), (1, (.int .i64 f_21425)), (5, (.slice ao_22157 out_22156.length cap_22158)), (6, (.int .i64 i_22159)), (10, (.bool true)), (22, (.bool ((decide (i_22159 < ((l_21421.length : Nat) : Int))) || (decide (((out_22156.length : Nat) : Int) < (i64 ((i64 (2 * f_21425)) + 1)))))))] [row (.slice ao_22157 out_22156.length cap_22158) 3 1 (out_22156.flatMap e3)] 7 ?_ (fun _ => ?_)
        · rcases Bool.eq_false_or_eq_true (decide (i_22159 < ((l_21421.length : Nat) : Int))) with hb' | hb'
          · have hg_22169 := hb'; clear hb'
            refine WL.pin (i := 15) rfl hg_22169 ?_
            refine WL.skip rfl rfl rfl ?_
            refine WL.skip rfl rfl rfl ?_
            refine WL.skip rfl rfl rfl ?_
            refine WL.skip rfl rfl rfl ?_
            refine WL.skip rfl rfl rfl ?_
            refine WL.skip rfl rfl rfl ?_
            refine WL.quiet (d := 22) rfl rfl rfl (q_pickT rfl rfl) ?_
            exact WL.cutEnd () trivial (.cons rfl (.cons rfl (.cons rfl (.cons rfl (.cons rfl (.cons (some_bool (or_l hg_22169)) .nil)))))) (.cons .here .nil)
          · have hg_22170 := hb'; clear hb'
            refine WL.pin (i := 15) rfl hg_22170 ?_
            refine WL.quiet (d := 16) rfl rfl rfl (q_move rfl) ?_
            refine WL.quiet (d := 17) rfl rfl rfl (q_len Try.underlying22 rfl) ?_
            refine WL.quiet (d := 18) rfl rfl rfl (q_move rfl) ?_
            refine WL.quiet (d := 19) rfl rfl rfl (q_mul rfl rfl rfl) ?_
            refine WL.quiet (d := 20) rfl rfl rfl (q_add rfl rfl rfl) ?_
            refine WL.quiet (d := 21) rfl rfl rfl (q_lss rfl rfl) ?_
            refine WL.quiet (d := 22) rfl rfl rfl (q_pickF rfl rfl) ?_
            exact WL.cutEnd () trivial (.cons rfl (.cons rfl (.cons rfl (.cons rfl (.cons rfl (.cons (some_bool (or_r hg_22170)) .nil)))))) (.cons .here .nil)
        · skip
          refine WL.quiet (d := 23) rfl rfl rfl (q_pickT rfl rfl) ?_
          exact WL.cutEnd () trivial (.cons rfl (.cons rfl (.cons rfl (.cons rfl (.cons (some_bool (and_r hg_22168)) .nil))))) (.cons .here .nil)
      · have hg_22171 := hb'; clear hb'
        refine WL.pin (i := 10) rfl hg_22171 ?_
        refine WL.skip rfl rfl rfl ?_
        refine WL.skip rfl rfl rfl ?_
        refine WL.skip rfl rfl rfl ?_
        refine WL.skip rfl rfl rfl ?_
        refine WL.skip rfl rfl rfl ?_
        refine WL.skip rfl rfl rfl ?_
        refine WL.skip rfl rfl rfl ?_
        refine WL.skip rfl rfl rfl ?_
        refine WL.skip rfl rfl rfl ?_
        refine WL.skip rfl rfl rfl ?_
        refine WL.skip rfl rfl rfl ?_
        refine WL.skip rfl rfl rfl ?_
        refine WL.quiet (d := 23) rfl rfl rfl (q_pickF rfl rfl) ?_
        exact WL.cutEnd () trivial (.cons rfl (.cons rfl (.cons rfl (.cons rfl (.cons (some_bool (and_l hg_22171)) .nil))))) (.cons .here .nil)
    · skip
      refine WL.nil ?_
      refine WX.then ?_
      refine WC.cond rfl (fun hb_22172 => ?_) (fun hb_22172 => ?_)
      · replace h := ite_t h hb_22172
        refine WC.skip ?_
        refine WX.then ?_
        refine WC.seq ?_
        refine WC.block ?_
        refine WC.seq ?_
        refine WC.region ?_
        refine WL.quiet (d := 7) rfl rfl rfl (q_assign rfl) ?_
        refine WL.nil ?_
        refine WX.then ?_
        obtain ⟨k_22204, hk_22205, h⟩ := jp1_elim h
        refine WC.seqMid1 (fun (t_22203 : Int) => (k_22204 t_22203 = some r)) (fun (t_22203 : Int) => [(0, (.slice ao_21422 l_21421.length cap_21423)), (1, (.int .i64 f_21425)), (5, (.slice ao_22157 out_22156.length cap_22158)), (6, (.int .i64 i_22159)), (7, (.int .i64 t_22203))]) (fun (t_22203 : Int) => [row (.slice ao_22157 out_22156.length cap_22158) 3 1 (out_22156.flatMap e3)]) ?_ ?_
        · skip
          refine WC.seq ?_
          refine WC.region ?_
          refine WL.quiet (d := 26) rfl rfl rfl (q_move rfl) ?_
          refine WL.quiet (d := 27) rfl rfl rfl (q_move rfl) ?_
          refine WL.quiet (d := 28) rfl rfl rfl (q_len Try.underlying42 rfl) ?_
          refine WL.quiet (d := 29) rfl rfl rfl (q_lss rfl rfl) ?_
          refine WL.nil ?_
          refine WX.then ?_
          refine WC.cond rfl (fun hb_22206 => ?_) (fun hb_22206 => ?_)
          · replace h := ite_t h hb_22206
            obtain ⟨c_22207, h⟩ := chk_elim h
            refine WC.region ?_
            refine WL.quiet (d := 30) rfl rfl rfl (q_move rfl) ?_
            refine WL.quiet (d := 31) rfl rfl rfl (q_move rfl) ?_
            refine WL.znth (dd := 32) rfl rfl elT_42 rfl rfl hs_21424 c_22207 ?_
            rintro A_22212 r_22213 hA_22214 hl_22215 rfl
            refine WL.quiet (d := 33) rfl rfl rfl (q_load1 oneT_45 rfl (rd_z hz.pv hA_22214 rfl)) ?_
            refine WL.quiet (d := 34) rfl rfl rfl (q_conv Try.underlying45 Try.underlying3 rfl rfl) ?_
            refine WL.quiet (d := 35) rfl rfl rfl (q_rem rfl rfl (by decide) rfl) ?_
            refine WL.quiet (d := 7) rfl rfl rfl (q_assign rfl) ?_
            refine WL.nil ?_
            exact WX.mid (G := Int) (Int.tmod (i64 (nth l_21421 i_22159)) 1001) h (.cons rfl (.cons rfl (.cons rfl (.cons rfl (.cons rfl .nil))))) (.cons .here .nil)
          · replace h := ite_f h hb_22206
            refine WC.skip ?_
            exact WX.mid (G := Int) 0 h (.cons rfl (.cons rfl (.cons rfl (.cons rfl (.cons rfl .nil))))) (.cons .here .nil)
        · rintro t_22203 h
          replace h := (hk_22205 t_22203).symm.trans h
          obtain ⟨c_22217, h⟩ := chk_elim h
          refine WC.region ?_
          refine WL.quiet (d := 36) rfl rfl rfl (q_move rfl) ?_
          refine WL.quiet (d := 37) rfl rfl rfl (q_move rfl) ?_
          refine WL.new (dd := 38) rfl rfl rfl (e_buildSlice (cs := [t_22203].flatMap e3) elT_22 (Eos.parts (l := [.tmp 37]) (.cons rfl .nil) [0]) (fun _ => by kernel_rfl) rfl (by unfold maxLen; omega)) ?_
          intro b_22220 _
          refine WL.eff (d := 39) rfl rfl rfl (e_appendF (enc := e3) (l1 := out_22156) (l2 := [t_22203]) elT_22 rfl rfl (.there .here) (fun _ => rfl) rfl rfl (news_row .here) (oc_flat e3_oc _) c_22217) ?_
          rintro ⟨ao_22221, cap_22222⟩ _
          refine WL.quiet (d := 5) rfl rfl rfl (q_assign rfl) ?_
          refine WL.nil ?_
          refine WX.blockNormal ?_
          refine WX.then ?_
          refine WC.region ?_
          refine WL.quiet (d := 24) rfl rfl rfl (q_move rfl) ?_
          refine WL.quiet (d := 25) rfl rfl rfl (q_add rfl rfl rfl) ?_
          refine WL.quiet (d := 6) rfl rfl rfl (q_assign rfl) ?_
          refine WL.nil ?_
          exact WX.round (G := Nat × List Int × Int × Option Addr × Nat) ⟨n_22162, (out_22156 ++ [t_22203]), (i64 (i_22159 + 1)), ao_22221, cap_22222⟩ h (Nat.lt_succ_self _) (.cons rfl (.cons rfl (.cons rfl (.cons rfl .nil)))) (.cons .here .nil)
      · replace h := ite_f h hb_22172
        refine WC.exit ?_
        refine WX.thenExit ?_
        refine WX.thenExit ?_
        refine WX.blockHit ?_
        exact WX.mid (G := List Int × Option Addr × Nat) ⟨out_22156, ao_22157, cap_22158⟩ h (.cons rfl .nil) (.cons .here .nil)
  · rintro out_22025 ao_22026 cap_22027 h
    replace h := (hk_22029 out_22025).symm.trans h
    obtain ⟨k_22230, hk_22231, h⟩ := jp1_elim h
    refine WC.seqMid3 (fun (out_22227 : List Int) (ao_22228 : Option Addr) (cap_22229 : Nat) => (k_22230 out_22227 = some r)) (fun (out_22227 : List Int) (ao_22228 : Option Addr) (cap_22229 : Nat) => [(5, (.slice ao_22228 out_22227.length cap_22229))]) (fun (out_22227 : List Int) (ao_22228 : Option Addr) (cap_22229 : Nat) => [row (.slice ao_22228 out_22227.length cap_22229) 3 1 (out_22227.flatMap e3)]) ?_ ?_
    · skip
      refine WC.seq ?_
      refine WC.region ?_
      refine WL.quiet (d := 40) rfl rfl rfl (q_move rfl) ?_
      refine WL.quiet (d := 41) rfl rfl rfl (q_len Try.underlying22 rfl) ?_
      refine WL.quiet (d := 42) rfl rfl rfl (q_eql rfl rfl) ?_
      refine WL.nil ?_
      refine WX.then ?_
      refine WC.cond rfl (fun hb_22232 => ?_) (fun hb_22232 => ?_)
      · replace h := ite_t h hb_22232
        refine WC.region ?_
        refine WL.new (dd := 43) rfl rfl rfl (e_buildSlice (cs := [0].flatMap e3) elT_22 (Eos.parts (l := [.const (.int .i64 0)]) (.cons rfl .nil) [0]) (fun _ => by kernel_rfl) rfl (by unfold maxLen; omega)) ?_
        intro b_22234 _
        refine WL.quiet (d := 5) rfl rfl rfl (q_assign rfl) ?_
        refine WL.nil ?_
        exact WX.mid (G := List Int × Option Addr × Nat) ⟨[0], (some ⟨b_22234, 0, none⟩), 1⟩ h (.cons rfl .nil) (.cons .here .nil)
      · replace h := ite_f h hb_22232
        refine WC.skip ?_
        exact WX.mid (G := List Int × Option Addr × Nat) ⟨out_22025, ao_22026, cap_22027⟩ h (.cons rfl .nil) (.cons .here .nil)
    · rintro out_22227 ao_22228 cap_22229 h
      replace h := (hk_22231 out_22227).symm.trans h
      refine WC.seq ?_
      refine WC.region ?_
      refine WL.quiet (d := 44) rfl rfl rfl (q_move rfl) ?_
      refine WL.quiet (d := 4) rfl rfl rfl (q_assign rfl) ?_
      refine WL.nil ?_
      refine WX.then ?_
      refine WC.ret ?_
      obtain rfl := Option.some.inj h
      refine WX.bpRet Try.results18 (.tmp rfl .nil) (fun w hw => ?_)
      exact ⟨ao_22228, cap_22229, ret1 rfl, trivial, hw.sub (.cons .here .nil)⟩
def m_law33_ClockMeets_1_L2 (c_24023 : List Sapi_Span) (t_24020 : Int) (k_24355 : Int → Option Int) : Nat → Int → Int → Option Int
  | 0, _, _ => none
  | n_24430 + 1, k_24427, v_24428 => if decide (v_24428 < ((c_24023.length : Nat) : Int)) then jp1 (fun (k_24447 : Int) => m_law33_ClockMeets_1_L2 c_24023 t_24020 k_24355 n_24430 k_24447 (i64 (v_24428 + 1))) fun k_24448 => chk ((0 : Int) ≤ v_24428 ∧ v_24428 < ((c_24023.length : Nat) : Int)) (if (decide (((nth c_24023 v_24428).fLo) ≤ t_24020)) && (decide (t_24020 ≤ ((nth c_24023 v_24428).fHi))) then k_24448 (i64 (k_24427 + 1)) else k_24448 k_24427) else k_24355 k_24427
theorem m_law33_ClockMeets_1_L2_fuel {n : Nat} {c_24023 : List Sapi_Span} {t_24020 : Int} {k_24355 : Int → Option Int} {k_24427 : Int} {v_24428 : Int} {r : Int} (h : m_law33_ClockMeets_1_L2 c_24023 t_24020 k_24355 n k_24427 v_24428 = some r) : ∃ m, n = m + 1 := by
  cases n with
  | zero => cases h
  | succ m => exact ⟨m, rfl⟩

/-- nacellelaw33.ClockMeets$1 -/
def m_law33_ClockMeets_1 (t_24020 : Int) (c_24023 : List Sapi_Span) : Option Int :=
  jp1 (fun (k_24354 : Int) => some k_24354) fun k_24355 => m_law33_ClockMeets_1_L2 c_24023 t_24020 k_24355 FUEL 0 0

set_option maxRecDepth 20000 in
theorem w_law33_ClockMeets_1 (Z : Zp) (A_24021 : Addr) (ao_24024 : Option Addr) (cap_24025 : Nat) (t_24020 : Int) (c_24023 : List Sapi_Span) (r : Int) (w₀ : World) (hz : PZ [] w₀ Z)
    (hs_24026 : ZS Z 2 (fun r x => r = e35 x) ao_24024 cap_24025 c_24023)
    (hA_24022 : ZC Z A_24021 [(.slice ao_24024 c_24023.length cap_24025)])
    (h : m_law33_ClockMeets_1 t_24020 c_24023 = some r) :
    Calls Try.prog 19 #[(.int .i64 t_24020), (.pointer (some A_24021))] w₀ fun e w' => e = .returned (.int .i64 r) ∧ Hp [] w₀ w' [] := by
  unfold m_law33_ClockMeets_1 at h
  refine Calls.ofWC (vs := [(.int .i64 t_24020), (.pointer (some A_24021))]) (pre := []) (env := [(0, (.int .i64 t_24020)), (1, (.pointer (some A_24021)))]) Try.func19 rfl Try.ntmps19 rfl (Hp.nil w₀ _) rfl ?_
  refine WC.seq ?_
  refine WC.region ?_
  refine WL.quiet (d := 3) rfl rfl rfl (q_assign rfl) ?_
  refine WL.nil ?_
  refine WX.then ?_
  refine WC.seq ?_
  refine WC.region ?_
  refine WL.quiet (d := 4) rfl rfl rfl (q_assign rfl) ?_
  refine WL.nil ?_
  refine WX.then ?_
  obtain ⟨k_24355, hk_24356, h⟩ := jp1_elim h
  refine WC.seqMid1 (fun (k_24354 : Int) => (k_24355 k_24354 = some r)) (fun (k_24354 : Int) => [(4, (.int .i64 k_24354))]) (fun (k_24354 : Int) => []) ?_ ?_
  · skip
    refine WC.seq ?_
    refine WC.region ?_
    refine WL.quiet (d := 7) rfl rfl rfl (q_load1 oneT_23 rfl (rd_z hz.pv hA_24022 rfl)) ?_
    refine WL.quiet (d := 8) rfl rfl rfl (q_len Try.underlying23 rfl) ?_
    refine WL.quiet (d := 9) rfl rfl rfl (q_move rfl) ?_
    refine WL.nil ?_
    refine WX.then ?_
    refine WC.block ?_
    refine WC.loop3 (fun (n_24429 : Nat) (k_24427 : Int) (v_24428 : Int) => (m_law33_ClockMeets_1_L2 c_24023 t_24020 k_24355 n_24429 k_24427 v_24428 = some r)) (fun (n_24429 : Nat) (k_24427 : Int) (v_24428 : Int) => [(0, (.int .i64 t_24020)), (4, (.int .i64 k_24427)), (7, (.slice ao_24024 c_24023.length cap_24025)), (8, (.int .i64 ((c_24023.length : Nat) : Int))), (9, (.int .i64 v_24428))]) (fun (n_24429 : Nat) (k_24427 : Int) (v_24428 : Int) => []) (fun (n_24429 : Nat) (k_24427 : Int) (v_24428 : Int) => n_24429) ⟨FUEL, 0, 0⟩ h (.cons rfl (.cons rfl (.cons rfl (.cons rfl (.cons rfl .nil))))) .nil ?_
    rintro n_24429 k_24427 v_24428 h
    obtain ⟨n_24430, rfl⟩ := m_law33_ClockMeets_1_L2_fuel h
    rw [m_law33_ClockMeets_1_L2] at h
    refine WC.seq ?_
    refine WC.region ?_
    refine WL.quiet (d := 10) rfl rfl rfl (q_lss rfl rfl) ?_
    refine WL.nil ?_
    refine WX.then ?_
    refine WC.seq ?_
    refine WC.cond rfl (fun hb_24432 => ?_) (fun hb_24432 => ?_)
    · replace h := ite_t h hb_24432
      refine WC.skip ?_
      refine WX.then ?_
      obtain ⟨k_24448, hk_24449, h⟩ := jp1_elim h
      refine WC.seqMid1 (fun (k_24447 : Int) => (k_24448 k_24447 = some r)) (fun (k_24447 : Int) => [(0, (.int .i64 t_24020)), (4, (.int .i64 k_24447)), (7, (.slice ao_24024 c_24023.length cap_24025)), (8, (.int .i64 ((c_24023.length : Nat) : Int))), (9, (.int .i64 v_24428))]) (fun (k_24447 : Int) => []) ?_ ?_
      · skip
        refine WC.block ?_
        refine WC.seq ?_
        obtain ⟨c_24450, h⟩ := chk_elim h
        refine WC.region ?_
        refine WL.znth (dd := 11) rfl rfl elT_23 rfl rfl hs_24026 c_24450 ?_
        rintro A_24456 r_24457 hA_24458 hl_24459 rfl
        refine WL.quiet (d := 12) rfl rfl rfl (q_loadA (cs := [(.int .i64 ((nth c_24023 v_24428).fLo)), (.int .i64 ((nth c_24023 v_24428).fHi))]) aggT_35 rfl rfl (rd_zs hz.pv hA_24458)) ?_
        refine WL.new (dd := 6) rfl rfl rfl (e_alloc (cs := [(.int .i64 0), (.int .i64 0)]) zeroT_35 rfl) ?_
        intro b_24460 _
        refine WL.eff0 rfl rfl (e_store (vs := [(.int .i64 ((nth c_24023 v_24428).fLo)), (.int .i64 ((nth c_24023 v_24428).fHi))]) (ds := [(.int .i64 ((nth c_24023 v_24428).fLo)), (.int .i64 ((nth c_24023 v_24428).fHi))]) sizT_35 rfl rfl rfl rfl (oc_cons rfl (oc_cons rfl oc_nil)) .here (Nat.le_of_ble_eq_true rfl) rfl) ?_
        refine WL.nil ?_
        refine WX.then ?_
        refine WC.seq ?_
        refine WC.region ?_
        refine WL.quiet (d := 13) rfl rfl rfl (q_fieldAddr fo_35_0 rfl rfl) ?_
        refine WL.quiet (d := 14) rfl rfl rfl (q_load1 oneT_3 rfl (rd_stb .here rfl)) ?_
        refine WL.quiet (d := 15) rfl rfl rfl (q_move rfl) ?_
        refine WL.quiet (d := 16) rfl rfl rfl (q_leq rfl rfl) ?_
        refine WL.quiet (d := 17) rfl rfl rfl (q_move rfl) ?_
        refine WL.cut0 True [(0, (.int .i64 t_24020)), (4, (.int .i64 k_24427)), (7, (.slice ao_24024 c_24023.length cap_24025)), (8, (.int .i64 ((c_24023.length : Nat) : Int))), (9, (.int .i64 v_24428)), (22, (.bool ((decide (((nth c_24023 v_24428).fLo) ≤ t_24020)) && (decide (t_24020 ≤ ((nth c_24023 v_24428).fHi))))))] [stb b_24460 35 [(.int .i64 ((nth c_24023 v_24428).fLo)), (.int .i64 ((nth c_24023 v_24428).fHi))]] 5 ?_ (fun _ => ?_)
        · rcases Bool.eq_false_or_eq_true (decide (((nth c_24023 v_24428).fLo) ≤ t_24020)) with hb' | hb'
          · have hg_24461 := hb'; clear hb'
            refine WL.pin (i := 17) rfl hg_24461 ?_
            refine WL.quiet (d := 18) rfl rfl rfl (q_move rfl) ?_
            refine WL.quiet (d := 19) rfl rfl rfl (q_fieldAddr fo_35_1 rfl rfl) ?_
            refine WL.quiet (d := 20) rfl rfl rfl (q_load1 oneT_3 rfl (rd_stb .here rfl)) ?_
            refine WL.quiet (d := 21) rfl rfl rfl (q_leq rfl rfl) ?_
            refine WL.quiet (d := 22) rfl rfl rfl (q_pickT rfl rfl) ?_
            exact WL.cutEnd () trivial (.cons rfl (.cons rfl (.cons rfl (.cons rfl (.cons rfl (.cons (some_bool (and_r hg_24461)) .nil)))))) (.cons .here .nil)
          · have hg_24462 := hb'; clear hb'
            refine WL.pin (i := 17) rfl hg_24462 ?_
            refine WL.skip rfl rfl rfl ?_
            refine WL.skip rfl rfl rfl ?_
            refine WL.skip rfl rfl rfl ?_
            refine WL.skip rfl rfl rfl ?_
            refine WL.quiet (d := 22) rfl rfl rfl (q_pickF rfl rfl) ?_
            exact WL.cutEnd () trivial (.cons rfl (.cons rfl (.cons rfl (.cons rfl (.cons rfl (.cons (some_bool (and_l hg_24462)) .nil)))))) (.cons .here .nil)
        · skip
          refine WL.nil ?_
          refine WX.then ?_
          refine WC.cond rfl (fun hb_24463 => ?_) (fun hb_24463 => ?_)
          · replace h := ite_t h hb_24463
            refine WC.region ?_
            refine WL.quiet (d := 23) rfl rfl rfl (q_move rfl) ?_
            refine WL.quiet (d := 24) rfl rfl rfl (q_add rfl rfl rfl) ?_
            refine WL.quiet (d := 4) rfl rfl rfl (q_assign rfl) ?_
            refine WL.nil ?_
            refine WX.blockNormal ?_
            exact WX.mid (G := Int) (i64 (k_24427 + 1)) h (.cons rfl (.cons rfl (.cons rfl (.cons rfl (.cons rfl .nil))))) .nil
          · replace h := ite_f h hb_24463
            refine WC.skip ?_
            refine WX.blockNormal ?_
            exact WX.mid (G := Int) k_24427 h (.cons rfl (.cons rfl (.cons rfl (.cons rfl (.cons rfl .nil))))) .nil
      · rintro k_24447 h
        replace h := (hk_24449 k_24447).symm.trans h
        refine WC.region ?_
        refine WL.quiet (d := 25) rfl rfl rfl (q_add rfl rfl rfl) ?_
        refine WL.quiet (d := 9) rfl rfl rfl (q_move rfl) ?_
        refine WL.nil ?_
        exact WX.round (G := Nat × Int × Int) ⟨n_24430, k_24447, (i64 (v_24428 + 1))⟩ h (Nat.lt_succ_self _) (.cons rfl (.cons rfl (.cons rfl (.cons rfl (.cons rfl .nil))))) .nil
    · replace h := ite_f h hb_24432
      refine WC.exit ?_
      refine WX.thenExit ?_
      refine WX.thenExit ?_
      refine WX.blockHit ?_
      exact WX.mid (G := Int) k_24427 h (.cons rfl .nil) .nil
  · rintro k_24354 h
    replace h := (hk_24356 k_24354).symm.trans h
    refine WC.seq ?_
    refine WC.region ?_
    refine WL.quiet (d := 26) rfl rfl rfl (q_move rfl) ?_
    refine WL.quiet (d := 3) rfl rfl rfl (q_assign rfl) ?_
    refine WL.nil ?_
    refine WX.then ?_
    refine WC.ret ?_
    obtain rfl := Option.some.inj h
    refine WX.bpRet Try.results19 (.tmp rfl .nil) (fun w hw => ?_)
    exact ⟨ret1 rfl, hw.sub .nil⟩
end Go.Proofs.Ytkhiiafgikioiaa
