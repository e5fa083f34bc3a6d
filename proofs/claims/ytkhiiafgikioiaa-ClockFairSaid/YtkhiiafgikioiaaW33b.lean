/- A part of this claim's proof: models of the functions that the law reaches, with the proof that the functions compute them; plain laws about the models. No conditions beyond those in each theorem's statement. -/
import Derived.Test.YtkhiiafgikioiaaW33a
namespace Go.Proofs.Ytkhiiafgikioiaa
open Go Go.RowKit Sep
set_option linter.all false
set_option maxRecDepth 30000

/-- nacelleref33.Fits -/
def m_ref33_Fits (n_3709 : Int) (f_3710 : Int) : Option Bool :=
  some (((((decide (n_3709 ≥ 1)) && (decide (n_3709 ≤ 16))) && (decide (f_3710 ≥ 0))) && (decide (f_3710 ≤ 16))) && (decide (n_3709 ≥ (i64 ((i64 (2 * f_3710)) + 1)))))

set_option maxRecDepth 20000 in
theorem w_ref33_Fits (Z : Zp)   (n_3709 : Int) (f_3710 : Int) (r : Bool) (w₀ : World) (hz : PZ [] w₀ Z)
    (h : m_ref33_Fits n_3709 f_3710 = some r) :
    Calls Try.prog 26 #[(.int .i64 n_3709), (.int .i64 f_3710)] w₀ fun e w' => e = .returned (.bool r) ∧ Hp [] w₀ w' [] := by
  unfold m_ref33_Fits at h
  refine Calls.ofWC (vs := [(.int .i64 n_3709), (.int .i64 f_3710)]) (pre := []) (env := [(0, (.int .i64 n_3709)), (1, (.int .i64 f_3710))]) Try.func26 rfl Try.ntmps26 rfl (Hp.nil w₀ _) rfl ?_
  refine WC.seq ?_
  refine WC.region ?_
  refine WL.quiet (d := 4) rfl rfl rfl (q_assign rfl) ?_
  refine WL.nil ?_
  refine WX.then ?_
  refine WC.seq ?_
  refine WC.region ?_
  refine WL.quiet (d := 5) rfl rfl rfl (q_move rfl) ?_
  refine WL.quiet (d := 6) rfl rfl rfl (q_geq rfl rfl) ?_
  refine WL.quiet (d := 7) rfl rfl rfl (q_move rfl) ?_
  refine WL.cut0 True [(0, (.int .i64 n_3709)), (1, (.int .i64 f_3710)), (4, (.bool false)), (10, (.bool ((decide (n_3709 ≥ 1)) && (decide (n_3709 ≤ 16)))))] [] 3 ?_ (fun _ => ?_)
  · rcases Bool.eq_false_or_eq_true (decide (n_3709 ≥ 1)) with hb' | hb'
    · have hg_3720 := hb'; clear hb'
      refine WL.pin (i := 7) rfl hg_3720 ?_
      refine WL.quiet (d := 8) rfl rfl rfl (q_move rfl) ?_
      refine WL.quiet (d := 9) rfl rfl rfl (q_leq rfl rfl) ?_
      refine WL.quiet (d := 10) rfl rfl rfl (q_pickT rfl rfl) ?_
      exact WL.cutEnd () trivial (.cons rfl (.cons rfl (.cons rfl (.cons (some_bool (and_r hg_3720)) .nil)))) .nil
    · have hg_3721 := hb'; clear hb'
      refine WL.pin (i := 7) rfl hg_3721 ?_
      refine WL.skip rfl rfl rfl ?_
      refine WL.skip rfl rfl rfl ?_
      refine WL.quiet (d := 10) rfl rfl rfl (q_pickF rfl rfl) ?_
      exact WL.cutEnd () trivial (.cons rfl (.cons rfl (.cons rfl (.cons (some_bool (and_l hg_3721)) .nil)))) .nil
  · skip
    refine WL.quiet (d := 11) rfl rfl rfl (q_move rfl) ?_
    refine WL.cut0 True [(0, (.int .i64 n_3709)), (1, (.int .i64 f_3710)), (4, (.bool false)), (14, (.bool (((decide (n_3709 ≥ 1)) && (decide (n_3709 ≤ 16))) && (decide (f_3710 ≥ 0)))))] [] 3 ?_ (fun _ => ?_)
    · rcases Bool.eq_false_or_eq_true ((decide (n_3709 ≥ 1)) && (decide (n_3709 ≤ 16))) with hb' | hb'
      · have hg_3722 := hb'; clear hb'
        refine WL.pin (i := 11) rfl hg_3722 ?_
        refine WL.quiet (d := 12) rfl rfl rfl (q_move rfl) ?_
        refine WL.quiet (d := 13) rfl rfl rfl (q_geq rfl rfl) ?_
        refine WL.quiet (d := 14) rfl rfl rfl (q_pickT rfl rfl) ?_
        exact WL.cutEnd () trivial (.cons rfl (.cons rfl (.cons rfl (.cons (some_bool (and_r hg_3722)) .nil)))) .nil
      · have hg_3723 := hb'; clear hb'
        refine WL.pin (i := 11) rfl hg_3723 ?_
        refine WL.skip rfl rfl rfl ?_
        refine WL.skip rfl rfl rfl ?_
        refine WL.quiet (d := 14) rfl rfl rfl (q_pickF rfl rfl) ?_
        exact WL.cutEnd () trivial (.cons rfl (.cons rfl (.cons rfl (.cons (some_bool (and_l hg_3723)) .nil)))) .nil
    · skip
      refine WL.quiet (d := 15) rfl rfl rfl (q_move rfl) ?_
      refine WL.cut0 True [(0, (.int .i64 n_3709)), (1, (.int .i64 f_3710)), (4, (.bool false)), (18, (.bool ((((decide (n_3709 ≥ 1)) && (decide (n_3709 ≤ 16))) && (decide (f_3710 ≥ 0))) && (decide (f_3710 ≤ 16)))))] [] 3 ?_ (fun _ => ?_)
      · rcases Bool.eq_false_or_eq_true (((decide (n_3709 ≥ 1)) && (decide (n_3709 ≤ 16))) && (decide (f_3710 ≥ 0))) with hb' | hb'
        · have hg_3724 := hb'; clear hb'
          refine WL.pin (i := 15) rfl hg_3724 ?_
          refine WL.quiet (d := 16) rfl rfl rfl (q_move rfl) ?_
          refine WL.quiet (d := 17) rfl rfl rfl (q_leq rfl rfl) ?_
          refine WL.quiet (d := 18) rfl rfl rfl (q_pickT rfl rfl) ?_
          exact WL.cutEnd () trivial (.cons rfl (.cons rfl (.cons rfl (.cons (some_bool (and_r hg_3724)) .nil)))) .nil
        · have hg_3725 := hb'; clear hb'
          refine WL.pin (i := 15) rfl hg_3725 ?_
          refine WL.skip rfl rfl rfl ?_
          refine WL.skip rfl rfl rfl ?_
          refine WL.quiet (d := 18) rfl rfl rfl (q_pickF rfl rfl) ?_
          exact WL.cutEnd () trivial (.cons rfl (.cons rfl (.cons rfl (.cons (some_bool (and_l hg_3725)) .nil)))) .nil
      · skip
        refine WL.quiet (d := 19) rfl rfl rfl (q_move rfl) ?_
        refine WL.cut0 True [(4, (.bool false)), (25, (.bool (((((decide (n_3709 ≥ 1)) && (decide (n_3709 ≤ 16))) && (decide (f_3710 ≥ 0))) && (decide (f_3710 ≤ 16))) && (decide (n_3709 ≥ (i64 ((i64 (2 * f_3710)) + 1)))))))] [] 6 ?_ (fun _ => ?_)
        · rcases Bool.eq_false_or_eq_true ((((decide (n_3709 ≥ 1)) && (decide (n_3709 ≤ 16))) && (decide (f_3710 ≥ 0))) && (decide (f_3710 ≤ 16))) with hb' | hb'
          · have hg_3726 := hb'; clear hb'
            refine WL.pin (i := 19) rfl hg_3726 ?_
            refine WL.quiet (d := 20) rfl rfl rfl (q_move rfl) ?_
            refine WL.quiet (d := 21) rfl rfl rfl (q_move rfl) ?_
            refine WL.quiet (d := 22) rfl rfl rfl (q_mul rfl rfl rfl) ?_
            refine WL.quiet (d := 23) rfl rfl rfl (q_add rfl rfl rfl) ?_
            refine WL.quiet (d := 24) rfl rfl rfl (q_geq rfl rfl) ?_
            refine WL.quiet (d := 25) rfl rfl rfl (q_pickT rfl rfl) ?_
            exact WL.cutEnd () trivial (.cons rfl (.cons (some_bool (and_r hg_3726)) .nil)) .nil
          · have hg_3727 := hb'; clear hb'
            refine WL.pin (i := 19) rfl hg_3727 ?_
            refine WL.skip rfl rfl rfl ?_
            refine WL.skip rfl rfl rfl ?_
            refine WL.skip rfl rfl rfl ?_
            refine WL.skip rfl rfl rfl ?_
            refine WL.skip rfl rfl rfl ?_
            refine WL.quiet (d := 25) rfl rfl rfl (q_pickF rfl rfl) ?_
            exact WL.cutEnd () trivial (.cons rfl (.cons (some_bool (and_l hg_3727)) .nil)) .nil
        · skip
          refine WL.quiet (d := 4) rfl rfl rfl (q_assign rfl) ?_
          refine WL.nil ?_
          refine WX.then ?_
          refine WC.ret ?_
          obtain rfl := Option.some.inj h
          refine WX.bpRet Try.results26 (.tmp rfl .nil) (fun w hw => ?_)
          exact ⟨ret1 rfl, hw.sub .nil⟩
/-- nacelleref33.In -/
def m_ref33_In (t_3741 : Int) : Option Bool :=
  some ((decide (t_3741 ≥ (-1073741824))) && (decide (t_3741 ≤ 1073741824)))

set_option maxRecDepth 20000 in
theorem w_ref33_In (Z : Zp)   (t_3741 : Int) (r : Bool) (w₀ : World) (hz : PZ [] w₀ Z)
    (h : m_ref33_In t_3741 = some r) :
    Calls Try.prog 27 #[(.int .i64 t_3741)] w₀ fun e w' => e = .returned (.bool r) ∧ Hp [] w₀ w' [] := by
  unfold m_ref33_In at h
  refine Calls.ofWC (vs := [(.int .i64 t_3741)]) (pre := []) (env := [(0, (.int .i64 t_3741))]) Try.func27 rfl Try.ntmps27 rfl (Hp.nil w₀ _) rfl ?_
  refine WC.seq ?_
  refine WC.region ?_
  refine WL.quiet (d := 2) rfl rfl rfl (q_assign rfl) ?_
  refine WL.nil ?_
  refine WX.then ?_
  refine WC.seq ?_
  refine WC.region ?_
  refine WL.quiet (d := 3) rfl rfl rfl (q_move rfl) ?_
  refine WL.quiet (d := 4) rfl rfl rfl (q_geq rfl rfl) ?_
  refine WL.quiet (d := 5) rfl rfl rfl (q_move rfl) ?_
  refine WL.cut0 True [(2, (.bool false)), (8, (.bool ((decide (t_3741 ≥ (-1073741824))) && (decide (t_3741 ≤ 1073741824)))))] [] 3 ?_ (fun _ => ?_)
  · rcases Bool.eq_false_or_eq_true (decide (t_3741 ≥ (-1073741824))) with hb' | hb'
    · have hg_3745 := hb'; clear hb'
      refine WL.pin (i := 5) rfl hg_3745 ?_
      refine WL.quiet (d := 6) rfl rfl rfl (q_move rfl) ?_
      refine WL.quiet (d := 7) rfl rfl rfl (q_leq rfl rfl) ?_
      refine WL.quiet (d := 8) rfl rfl rfl (q_pickT rfl rfl) ?_
      exact WL.cutEnd () trivial (.cons rfl (.cons (some_bool (and_r hg_3745)) .nil)) .nil
    · have hg_3746 := hb'; clear hb'
      refine WL.pin (i := 5) rfl hg_3746 ?_
      refine WL.skip rfl rfl rfl ?_
      refine WL.skip rfl rfl rfl ?_
      refine WL.quiet (d := 8) rfl rfl rfl (q_pickF rfl rfl) ?_
      exact WL.cutEnd () trivial (.cons rfl (.cons (some_bool (and_l hg_3746)) .nil)) .nil
  · skip
    refine WL.quiet (d := 2) rfl rfl rfl (q_assign rfl) ?_
    refine WL.nil ?_
    refine WX.then ?_
    refine WC.ret ?_
    obtain rfl := Option.some.inj h
    refine WX.bpRet Try.results27 (.tmp rfl .nil) (fun w hw => ?_)
    exact ⟨ret1 rfl, hw.sub .nil⟩
def m_ref33_rank_L4 (l_3880 : List Int) (i_11694 : Int) (k_12312 : Int → Option Int) : Nat → Int → Int → Option Int
  | 0, _, _ => none
  | n_12436 + 1, n_12433, j_12434 => if decide (j_12434 < ((l_3880.length : Nat) : Int)) then jp1 (fun (n_12495 : Int) => m_ref33_rank_L4 l_3880 i_11694 k_12312 n_12436 n_12495 (i64 (j_12434 + 1))) fun k_12496 => chk ((0 : Int) ≤ j_12434 ∧ j_12434 < ((l_3880.length : Nat) : Int)) (chk ((0 : Int) ≤ i_11694 ∧ i_11694 < ((l_3880.length : Nat) : Int)) (chk ((decide ((nth l_3880 j_12434) < (nth l_3880 i_11694))) = false → ((0 : Int) ≤ j_12434 ∧ j_12434 < ((l_3880.length : Nat) : Int))) (chk ((decide ((nth l_3880 j_12434) < (nth l_3880 i_11694))) = false → ((0 : Int) ≤ i_11694 ∧ i_11694 < ((l_3880.length : Nat) : Int))) (if (decide ((nth l_3880 j_12434) < (nth l_3880 i_11694))) || ((decide ((nth l_3880 j_12434) = (nth l_3880 i_11694))) && (decide (j_12434 < i_11694))) then k_12496 (i64 (n_12433 + 1)) else k_12496 n_12433)))) else k_12312 n_12433
theorem m_ref33_rank_L4_fuel {n : Nat} {l_3880 : List Int} {i_11694 : Int} {k_12312 : Int → Option Int} {n_12433 : Int} {j_12434 : Int} {r : Int} (h : m_ref33_rank_L4 l_3880 i_11694 k_12312 n n_12433 j_12434 = some r) : ∃ m, n = m + 1 := by
  cases n with
  | zero => cases h
  | succ m => exact ⟨m, rfl⟩

def m_ref33_rank_L3 (l_3880 : List Int) (k_3884 : Int) (k_10824 : Option Int) : Nat → Int → Option Int
  | 0, _ => none
  | n_11696 + 1, i_11694 => if decide (i_11694 < ((l_3880.length : Nat) : Int)) then jp0 (m_ref33_rank_L3 l_3880 k_3884 k_10824 n_11696 (i64 (i_11694 + 1))) fun k_12309 => jp1 (fun (n_12311 : Int) => if decide (n_12311 = k_3884) then chk ((0 : Int) ≤ i_11694 ∧ i_11694 < ((l_3880.length : Nat) : Int)) (some (nth l_3880 i_11694)) else k_12309) fun k_12312 => m_ref33_rank_L4 l_3880 i_11694 k_12312 FUEL 0 0 else k_10824
theorem m_ref33_rank_L3_fuel {n : Nat} {l_3880 : List Int} {k_3884 : Int} {k_10824 : Option Int} {i_11694 : Int} {r : Int} (h : m_ref33_rank_L3 l_3880 k_3884 k_10824 n i_11694 = some r) : ∃ m, n = m + 1 := by
  cases n with
  | zero => cases h
  | succ m => exact ⟨m, rfl⟩

/-- nacelleref33.rank -/
def m_ref33_rank (l_3880 : List Int) (k_3884 : Int) : Option Int :=
  jp0 (some 0) fun k_10824 => m_ref33_rank_L3 l_3880 k_3884 k_10824 FUEL 0

set_option maxRecDepth 20000 in
theorem w_ref33_rank (Z : Zp)  (ao_3881 : Option Addr) (cap_3882 : Nat) (l_3880 : List Int) (k_3884 : Int) (r : Int) (w₀ : World) (hz : PZ [] w₀ Z)
    (hs_3883 : ZS Z 1 (fun r x => r = e3 x) ao_3881 cap_3882 l_3880)
    (h : m_ref33_rank l_3880 k_3884 = some r) :
    Calls Try.prog 28 #[(.slice ao_3881 l_3880.length cap_3882), (.int .i64 k_3884)] w₀ fun e w' => e = .returned (.int .i64 r) ∧ Hp [] w₀ w' [] := by
  unfold m_ref33_rank at h
  refine Calls.ofWC (vs := [(.slice ao_3881 l_3880.length cap_3882), (.int .i64 k_3884)]) (pre := []) (env := [(0, (.slice ao_3881 l_3880.length cap_3882)), (1, (.int .i64 k_3884))]) Try.func28 rfl Try.ntmps28 rfl (Hp.nil w₀ _) rfl ?_
  refine WC.seq ?_
  refine WC.region ?_
  refine WL.quiet (d := 4) rfl rfl rfl (q_assign rfl) ?_
  refine WL.nil ?_
  refine WX.then ?_
  obtain ⟨k_10824, hk_10825, h⟩ := jp0_elim h
  refine WC.seqMid0 ((k_10824 = some r)) ([]) ([]) ?_ ?_
  · skip
    refine WC.seq ?_
    refine WC.region ?_
    refine WL.quiet (d := 5) rfl rfl rfl (q_assign rfl) ?_
    refine WL.nil ?_
    refine WX.then ?_
    refine WC.block ?_
    refine WC.loop2 (fun (n_11695 : Nat) (i_11694 : Int) => (m_ref33_rank_L3 l_3880 k_3884 k_10824 n_11695 i_11694 = some r)) (fun (n_11695 : Nat) (i_11694 : Int) => [(0, (.slice ao_3881 l_3880.length cap_3882)), (1, (.int .i64 k_3884)), (5, (.int .i64 i_11694))]) (fun (n_11695 : Nat) (i_11694 : Int) => []) (fun (n_11695 : Nat) (i_11694 : Int) => n_11695) ⟨FUEL, 0⟩ h (.cons rfl (.cons rfl (.cons rfl .nil))) .nil ?_
    rintro n_11695 i_11694 h
    obtain ⟨n_11696, rfl⟩ := m_ref33_rank_L3_fuel h
    rw [m_ref33_rank_L3] at h
    refine WC.seq ?_
    refine WC.seq ?_
    refine WC.region ?_
    refine WL.quiet (d := 8) rfl rfl rfl (q_move rfl) ?_
    refine WL.quiet (d := 9) rfl rfl rfl (q_move rfl) ?_
    refine WL.quiet (d := 10) rfl rfl rfl (q_len Try.underlying22 rfl) ?_
    refine WL.quiet (d := 11) rfl rfl rfl (q_lss rfl rfl) ?_
    refine WL.nil ?_
    refine WX.then ?_
    refine WC.cond rfl (fun hb_11698 => ?_) (fun hb_11698 => ?_)
    · replace h := ite_t h hb_11698
      refine WC.skip ?_
      refine WX.then ?_
      obtain ⟨k_12309, hk_12310, h⟩ := jp0_elim h
      refine WC.seqMid0 ((k_12309 = some r)) ([(0, (.slice ao_3881 l_3880.length cap_3882)), (1, (.int .i64 k_3884)), (5, (.int .i64 i_11694))]) ([]) ?_ ?_
      · skip
        refine WC.block ?_
        refine WC.seq ?_
        refine WC.region ?_
        refine WL.quiet (d := 6) rfl rfl rfl (q_assign rfl) ?_
        refine WL.nil ?_
        refine WX.then ?_
        obtain ⟨k_12312, hk_12313, h⟩ := jp1_elim h
        refine WC.seqMid1 (fun (n_12311 : Int) => (k_12312 n_12311 = some r)) (fun (n_12311 : Int) => [(0, (.slice ao_3881 l_3880.length cap_3882)), (1, (.int .i64 k_3884)), (5, (.int .i64 i_11694)), (6, (.int .i64 n_12311))]) (fun (n_12311 : Int) => []) ?_ ?_
        · skip
          refine WC.seq ?_
          refine WC.region ?_
          refine WL.quiet (d := 7) rfl rfl rfl (q_assign rfl) ?_
          refine WL.nil ?_
          refine WX.then ?_
          refine WC.block ?_
          refine WC.loop3 (fun (n_12435 : Nat) (n_12433 : Int) (j_12434 : Int) => (m_ref33_rank_L4 l_3880 i_11694 k_12312 n_12435 n_12433 j_12434 = some r)) (fun (n_12435 : Nat) (n_12433 : Int) (j_12434 : Int) => [(0, (.slice ao_3881 l_3880.length cap_3882)), (1, (.int .i64 k_3884)), (5, (.int .i64 i_11694)), (6, (.int .i64 n_12433)), (7, (.int .i64 j_12434))]) (fun (n_12435 : Nat) (n_12433 : Int) (j_12434 : Int) => []) (fun (n_12435 : Nat) (n_12433 : Int) (j_12434 : Int) => n_12435) ⟨FUEL, 0, 0⟩ h (.cons rfl (.cons rfl (.cons rfl (.cons rfl (.cons rfl .nil))))) .nil ?_
          rintro n_12435 n_12433 j_12434 h
          obtain ⟨n_12436, rfl⟩ := m_ref33_rank_L4_fuel h
          rw [m_ref33_rank_L4] at h
          refine WC.seq ?_
          refine WC.seq ?_
          refine WC.region ?_
          refine WL.quiet (d := 14) rfl rfl rfl (q_move rfl) ?_
          refine WL.quiet (d := 15) rfl rfl rfl (q_move rfl) ?_
          refine WL.quiet (d := 16) rfl rfl rfl (q_len Try.underlying22 rfl) ?_
          refine WL.quiet (d := 17) rfl rfl rfl (q_lss rfl rfl) ?_
          refine WL.nil ?_
          refine WX.then ?_
          refine WC.cond rfl (fun hb_12438 => ?_) (fun hb_12438 => ?_)
          · replace h := ite_t h hb_12438
            refine WC.skip ?_
            refine WX.then ?_
            obtain ⟨k_12496, hk_12497, h⟩ := jp1_elim h
            refine WC.seqMid1 (fun (n_12495 : Int) => (k_12496 n_12495 = some r)) (fun (n_12495 : Int) => [(0, (.slice ao_3881 l_3880.length cap_3882)), (1, (.int .i64 k_3884)), (5, (.int .i64 i_11694)), (6, (.int .i64 n_12495)), (7, (.int .i64 j_12434))]) (fun (n_12495 : Int) => []) ?_ ?_
            · skip
              refine WC.block ?_
              refine WC.seq ?_
              obtain ⟨c_12498, h⟩ := chk_elim h
              obtain ⟨c_12503, h⟩ := chk_elim h
              obtain ⟨c_12518, h⟩ := chk_elim h
              obtain ⟨c_12519, h⟩ := chk_elim h
              refine WC.draw (fun i => [].contains i) [] rfl ?_
              refine WD.pure (i := 0) (d := 20) (by kernel_rfl) rfl (by kernel_rfl) (by kernel_rfl) rfl rfl rfl (fun _ => q_move rfl) ?_
              refine WD.pure (i := 1) (d := 21) (by kernel_rfl) rfl (by kernel_rfl) (by kernel_rfl) rfl rfl rfl (fun _ => q_move rfl) ?_
              refine WD.znth (j := 2) (dd := 22) (by kernel_rfl) rfl (by kernel_rfl) (by kernel_rfl) rfl rfl (Z := Z) (Pr := (fun r x => r = e3 x)) elT_22 rfl rfl hs_3883 c_12498 ?_
              rintro A_12520 r_12521 hA_12522 hl_12523 rfl
              refine WD.quiet (i := 3) (d := 23) (by kernel_rfl) rfl (by kernel_rfl) (by kernel_rfl) rfl rfl rfl (q_load1 oneT_3 rfl (rd_z hz.pv hA_12522 rfl)) ?_
              refine WD.pure (i := 4) (d := 24) (by kernel_rfl) rfl (by kernel_rfl) (by kernel_rfl) rfl rfl rfl (fun _ => q_move rfl) ?_
              refine WD.pure (i := 5) (d := 25) (by kernel_rfl) rfl (by kernel_rfl) (by kernel_rfl) rfl rfl rfl (fun _ => q_move rfl) ?_
              refine WD.znth (j := 6) (dd := 26) (by kernel_rfl) rfl (by kernel_rfl) (by kernel_rfl) rfl rfl (Z := Z) (Pr := (fun r x => r = e3 x)) elT_22 rfl rfl hs_3883 c_12503 ?_
              rintro A_12524 r_12525 hA_12526 hl_12527 rfl
              refine WD.quiet (i := 7) (d := 27) (by kernel_rfl) rfl (by kernel_rfl) (by kernel_rfl) rfl rfl rfl (q_load1 oneT_3 rfl (rd_z hz.pv hA_12526 rfl)) ?_
              refine WD.pure (i := 8) (d := 28) (by kernel_rfl) rfl (by kernel_rfl) (by kernel_rfl) rfl rfl rfl (fun _ => q_lss rfl rfl) ?_
              refine WD.pure (i := 9) (d := 29) (by kernel_rfl) rfl (by kernel_rfl) (by kernel_rfl) rfl rfl rfl (fun _ => q_move rfl) ?_
              refine WD.mid (fuel' := 0) [(0, (.slice ao_3881 l_3880.length cap_3882)), (1, (.int .i64 k_3884)), (5, (.int .i64 i_11694)), (6, (.int .i64 n_12433)), (7, (.int .i64 j_12434)), (14, (.int .i64 j_12434)), (15, (.slice ao_3881 l_3880.length cap_3882)), (16, (.int .i64 ((l_3880.length : Nat) : Int))), (17, (.bool (decide (j_12434 < ((l_3880.length : Nat) : Int))))), (20, (.slice ao_3881 l_3880.length cap_3882)), (21, (.int .i64 j_12434)), (22, (.pointer (some A_12520))), (23, (.int .i64 (nth l_3880 j_12434))), (24, (.slice ao_3881 l_3880.length cap_3882)), (25, (.int .i64 i_11694)), (26, (.pointer (some A_12524))), (27, (.int .i64 (nth l_3880 i_11694))), (28, (.bool (decide ((nth l_3880 j_12434) < (nth l_3880 i_11694))))), (29, (.bool (decide ((nth l_3880 j_12434) < (nth l_3880 i_11694))))), (44, (.bool ((decide ((nth l_3880 j_12434) < (nth l_3880 i_11694))) || ((decide ((nth l_3880 j_12434) = (nth l_3880 i_11694))) && (decide (j_12434 < i_11694))))))] (listedA 25 [24, 23, 22, 21, 20, 19, 18, 17, 16, 15, 14, 13, 12, 11, 10, 9, 8, 7, 6, 5, 4, 3, 2, 1, 0]) ?_ (fun K_12539 => ?_)
              rotate_left
              · rcases Bool.eq_false_or_eq_true (decide ((nth l_3880 j_12434) < (nth l_3880 i_11694))) with hb' | hb'
                · have hg_12540 := hb'; clear hb'
                  refine WD.pin (i := 29) rfl hg_12540 ?_
                  refine WD.skip (i := 10) (d := 30) (by kernel_rfl) rfl (by kernel_rfl) (by kernel_rfl) rfl rfl rfl ?_
                  refine WD.skip (i := 11) (d := 31) (by kernel_rfl) rfl (by kernel_rfl) (by kernel_rfl) rfl rfl rfl ?_
                  refine WD.skip (i := 12) (d := 32) (by kernel_rfl) rfl (by kernel_rfl) (by kernel_rfl) rfl rfl rfl ?_
                  refine WD.skip (i := 13) (d := 33) (by kernel_rfl) rfl (by kernel_rfl) (by kernel_rfl) rfl rfl rfl ?_
                  refine WD.skip (i := 14) (d := 34) (by kernel_rfl) rfl (by kernel_rfl) (by kernel_rfl) rfl rfl rfl ?_
                  refine WD.skip (i := 15) (d := 35) (by kernel_rfl) rfl (by kernel_rfl) (by kernel_rfl) rfl rfl rfl ?_
                  refine WD.skip (i := 16) (d := 36) (by kernel_rfl) rfl (by kernel_rfl) (by kernel_rfl) rfl rfl rfl ?_
                  refine WD.skip (i := 17) (d := 37) (by kernel_rfl) rfl (by kernel_rfl) (by kernel_rfl) rfl rfl rfl ?_
                  refine WD.skip (i := 18) (d := 38) (by kernel_rfl) rfl (by kernel_rfl) (by kernel_rfl) rfl rfl rfl ?_
                  refine WD.skip (i := 19) (d := 39) (by kernel_rfl) rfl (by kernel_rfl) (by kernel_rfl) rfl rfl rfl ?_
                  refine WD.skip (i := 20) (d := 40) (by kernel_rfl) rfl (by kernel_rfl) (by kernel_rfl) rfl rfl rfl ?_
                  refine WD.skip (i := 21) (d := 41) (by kernel_rfl) rfl (by kernel_rfl) (by kernel_rfl) rfl rfl rfl ?_
                  refine WD.skip (i := 22) (d := 42) (by kernel_rfl) rfl (by kernel_rfl) (by kernel_rfl) rfl rfl rfl ?_
                  refine WD.skip (i := 23) (d := 43) (by kernel_rfl) rfl (by kernel_rfl) (by kernel_rfl) rfl rfl rfl ?_
                  refine WD.pure (i := 24) (d := 44) (by kernel_rfl) rfl (by kernel_rfl) (by kernel_rfl) rfl rfl rfl (fun _ => q_pickT rfl rfl) ?_
                  refine WD.reL .nil ?_ K_12539
                  exact (.cons rfl (.cons rfl (.cons rfl (.cons rfl (.cons rfl (.cons rfl (.cons rfl (.cons rfl (.cons rfl (.cons rfl (.cons rfl (.cons rfl (.cons rfl (.cons rfl (.cons rfl (.cons rfl (.cons rfl (.cons rfl (.cons (some_bool (Eq.symm hg_12540)) (.cons (some_bool (or_l hg_12540)) .nil))))))))))))))))))))
                · have hg_12541 := hb'; clear hb'
                  have c_12508 := c_12518 hg_12541
                  have c_12513 := c_12519 hg_12541
                  refine WD.pin (i := 29) rfl hg_12541 ?_
                  refine WD.pure (i := 10) (d := 30) (by kernel_rfl) rfl (by kernel_rfl) (by kernel_rfl) rfl rfl rfl (fun _ => q_move rfl) ?_
                  refine WD.pure (i := 11) (d := 31) (by kernel_rfl) rfl (by kernel_rfl) (by kernel_rfl) rfl rfl rfl (fun _ => q_move rfl) ?_
                  refine WD.znth (j := 12) (dd := 32) (by kernel_rfl) rfl (by kernel_rfl) (by kernel_rfl) rfl rfl (Z := Z) (Pr := (fun r x => r = e3 x)) elT_22 rfl rfl hs_3883 c_12508 ?_
                  rintro A_12542 r_12543 hA_12544 hl_12545 rfl
                  refine WD.quiet (i := 13) (d := 33) (by kernel_rfl) rfl (by kernel_rfl) (by kernel_rfl) rfl rfl rfl (q_load1 oneT_3 rfl (rd_z hz.pv hA_12544 rfl)) ?_
                  refine WD.pure (i := 14) (d := 34) (by kernel_rfl) rfl (by kernel_rfl) (by kernel_rfl) rfl rfl rfl (fun _ => q_move rfl) ?_
                  refine WD.pure (i := 15) (d := 35) (by kernel_rfl) rfl (by kernel_rfl) (by kernel_rfl) rfl rfl rfl (fun _ => q_move rfl) ?_
                  refine WD.znth (j := 16) (dd := 36) (by kernel_rfl) rfl (by kernel_rfl) (by kernel_rfl) rfl rfl (Z := Z) (Pr := (fun r x => r = e3 x)) elT_22 rfl rfl hs_3883 c_12513 ?_
                  rintro A_12546 r_12547 hA_12548 hl_12549 rfl
                  refine WD.quiet (i := 17) (d := 37) (by kernel_rfl) rfl (by kernel_rfl) (by kernel_rfl) rfl rfl rfl (q_load1 oneT_3 rfl (rd_z hz.pv hA_12548 rfl)) ?_
                  refine WD.pure (i := 18) (d := 38) (by kernel_rfl) rfl (by kernel_rfl) (by kernel_rfl) rfl rfl rfl (fun _ => q_eql rfl rfl) ?_
                  refine WD.pure (i := 19) (d := 39) (by kernel_rfl) rfl (by kernel_rfl) (by kernel_rfl) rfl rfl rfl (fun _ => q_move rfl) ?_
                  refine WD.mid (fuel' := 1) [(0, (.slice ao_3881 l_3880.length cap_3882)), (1, (.int .i64 k_3884)), (5, (.int .i64 i_11694)), (6, (.int .i64 n_12433)), (7, (.int .i64 j_12434)), (14, (.int .i64 j_12434)), (15, (.slice ao_3881 l_3880.length cap_3882)), (16, (.int .i64 ((l_3880.length : Nat) : Int))), (17, (.bool (decide (j_12434 < ((l_3880.length : Nat) : Int))))), (20, (.slice ao_3881 l_3880.length cap_3882)), (21, (.int .i64 j_12434)), (22, (.pointer (some A_12520))), (23, (.int .i64 (nth l_3880 j_12434))), (24, (.slice ao_3881 l_3880.length cap_3882)), (25, (.int .i64 i_11694)), (26, (.pointer (some A_12524))), (27, (.int .i64 (nth l_3880 i_11694))), (28, (.bool (decide ((nth l_3880 j_12434) < (nth l_3880 i_11694))))), (29, (.bool false)), (30, (.slice ao_3881 l_3880.length cap_3882)), (31, (.int .i64 j_12434)), (32, (.pointer (some A_12542))), (33, (.int .i64 (nth l_3880 j_12434))), (34, (.slice ao_3881 l_3880.length cap_3882)), (35, (.int .i64 i_11694)), (36, (.pointer (some A_12546))), (37, (.int .i64 (nth l_3880 i_11694))), (38, (.bool (decide ((nth l_3880 j_12434) = (nth l_3880 i_11694))))), (39, (.bool (decide ((nth l_3880 j_12434) = (nth l_3880 i_11694))))), (43, (.bool ((decide ((nth l_3880 j_12434) = (nth l_3880 i_11694))) && (decide (j_12434 < i_11694)))))] (listedA 25 [23, 22, 21, 20, 19, 18, 17, 16, 15, 14, 13, 12, 11, 10, 9, 8, 7, 6, 5, 4, 3, 2, 1, 0]) ?_ (fun K_12550 => ?_)
                  rotate_left
                  · rcases Bool.eq_false_or_eq_true (decide ((nth l_3880 j_12434) = (nth l_3880 i_11694))) with hb' | hb'
                    · have hg_12551 := hb'; clear hb'
                      refine WD.pin (i := 39) rfl hg_12551 ?_
                      refine WD.pure (i := 20) (d := 40) (by kernel_rfl) rfl (by kernel_rfl) (by kernel_rfl) rfl rfl rfl (fun _ => q_move rfl) ?_
                      refine WD.pure (i := 21) (d := 41) (by kernel_rfl) rfl (by kernel_rfl) (by kernel_rfl) rfl rfl rfl (fun _ => q_move rfl) ?_
                      refine WD.pure (i := 22) (d := 42) (by kernel_rfl) rfl (by kernel_rfl) (by kernel_rfl) rfl rfl rfl (fun _ => q_lss rfl rfl) ?_
                      refine WD.pure (i := 23) (d := 43) (by kernel_rfl) rfl (by kernel_rfl) (by kernel_rfl) rfl rfl rfl (fun _ => q_pickT rfl rfl) ?_
                      refine WD.reL .nil ?_ K_12550
                      exact (.cons rfl (.cons rfl (.cons rfl (.cons rfl (.cons rfl (.cons rfl (.cons rfl (.cons rfl (.cons rfl (.cons rfl (.cons rfl (.cons rfl (.cons rfl (.cons rfl (.cons rfl (.cons rfl (.cons rfl (.cons rfl (.cons rfl (.cons rfl (.cons rfl (.cons rfl (.cons rfl (.cons rfl (.cons rfl (.cons rfl (.cons rfl (.cons rfl (.cons (some_bool (Eq.symm hg_12551)) (.cons (some_bool (and_r hg_12551)) .nil))))))))))))))))))))))))))))))
                    · have hg_12552 := hb'; clear hb'
                      refine WD.pin (i := 39) rfl hg_12552 ?_
                      refine WD.skip (i := 20) (d := 40) (by kernel_rfl) rfl (by kernel_rfl) (by kernel_rfl) rfl rfl rfl ?_
                      refine WD.skip (i := 21) (d := 41) (by kernel_rfl) rfl (by kernel_rfl) (by kernel_rfl) rfl rfl rfl ?_
                      refine WD.skip (i := 22) (d := 42) (by kernel_rfl) rfl (by kernel_rfl) (by kernel_rfl) rfl rfl rfl ?_
                      refine WD.pure (i := 23) (d := 43) (by kernel_rfl) rfl (by kernel_rfl) (by kernel_rfl) rfl rfl rfl (fun _ => q_pickF rfl rfl) ?_
                      refine WD.reL .nil ?_ K_12550
                      exact (.cons rfl (.cons rfl (.cons rfl (.cons rfl (.cons rfl (.cons rfl (.cons rfl (.cons rfl (.cons rfl (.cons rfl (.cons rfl (.cons rfl (.cons rfl (.cons rfl (.cons rfl (.cons rfl (.cons rfl (.cons rfl (.cons rfl (.cons rfl (.cons rfl (.cons rfl (.cons rfl (.cons rfl (.cons rfl (.cons rfl (.cons rfl (.cons rfl (.cons (some_bool (Eq.symm hg_12552)) (.cons (some_bool (and_l hg_12552)) .nil))))))))))))))))))))))))))))))
                  refine WD.pure (i := 24) (d := 44) (by kernel_rfl) rfl (by kernel_rfl) (by kernel_rfl) rfl rfl rfl (fun _ => q_pickF rfl rfl) ?_
                  refine WD.reL .nil ?_ K_12539
                  exact (.cons rfl (.cons rfl (.cons rfl (.cons rfl (.cons rfl (.cons rfl (.cons rfl (.cons rfl (.cons rfl (.cons rfl (.cons rfl (.cons rfl (.cons rfl (.cons rfl (.cons rfl (.cons rfl (.cons rfl (.cons rfl (.cons (some_bool (Eq.symm hg_12541)) (.cons (some_bool (or_r hg_12541)) .nil))))))))))))))))))))
              refine WD.done (by kernel_rfl) ?_
              refine WX.then ?_
              refine WC.cond rfl (fun hb_12553 => ?_) (fun hb_12553 => ?_)
              · replace h := ite_t h hb_12553
                refine WC.region ?_
                refine WL.quiet (d := 45) rfl rfl rfl (q_move rfl) ?_
                refine WL.quiet (d := 46) rfl rfl rfl (q_add rfl rfl rfl) ?_
                refine WL.quiet (d := 6) rfl rfl rfl (q_assign rfl) ?_
                refine WL.nil ?_
                refine WX.blockNormal ?_
                exact WX.mid (G := Int) (i64 (n_12433 + 1)) h (.cons rfl (.cons rfl (.cons rfl (.cons rfl (.cons rfl .nil))))) .nil
              · replace h := ite_f h hb_12553
                refine WC.skip ?_
                refine WX.blockNormal ?_
                exact WX.mid (G := Int) n_12433 h (.cons rfl (.cons rfl (.cons rfl (.cons rfl (.cons rfl .nil))))) .nil
            · rintro n_12495 h
              replace h := (hk_12497 n_12495).symm.trans h
              refine WC.region ?_
              refine WL.quiet (d := 18) rfl rfl rfl (q_move rfl) ?_
              refine WL.quiet (d := 19) rfl rfl rfl (q_add rfl rfl rfl) ?_
              refine WL.quiet (d := 7) rfl rfl rfl (q_assign rfl) ?_
              refine WL.nil ?_
              exact WX.round (G := Nat × Int × Int) ⟨n_12436, n_12495, (i64 (j_12434 + 1))⟩ h (Nat.lt_succ_self _) (.cons rfl (.cons rfl (.cons rfl (.cons rfl (.cons rfl .nil))))) .nil
          · replace h := ite_f h hb_12438
            refine WC.exit ?_
            refine WX.thenExit ?_
            refine WX.thenExit ?_
            refine WX.blockHit ?_
            exact WX.mid (G := Int) n_12433 h (.cons rfl (.cons rfl (.cons rfl (.cons rfl .nil)))) .nil
        · rintro n_12311 h
          replace h := (hk_12313 n_12311).symm.trans h
          refine WC.seq ?_
          refine WC.region ?_
          refine WL.quiet (d := 47) rfl rfl rfl (q_move rfl) ?_
          refine WL.quiet (d := 48) rfl rfl rfl (q_move rfl) ?_
          refine WL.quiet (d := 49) rfl rfl rfl (q_eql rfl rfl) ?_
          refine WL.nil ?_
          refine WX.then ?_
          refine WC.cond rfl (fun hb_12554 => ?_) (fun hb_12554 => ?_)
          · replace h := ite_t h hb_12554
            refine WC.seq ?_
            obtain ⟨c_12555, h⟩ := chk_elim h
            refine WC.region ?_
            refine WL.quiet (d := 50) rfl rfl rfl (q_move rfl) ?_
            refine WL.quiet (d := 51) rfl rfl rfl (q_move rfl) ?_
            refine WL.znth (dd := 52) rfl rfl (Z := Z) (Pr := (fun r x => r = e3 x)) elT_22 rfl rfl hs_3883 c_12555 ?_
            rintro A_12560 r_12561 hA_12562 hl_12563 rfl
            refine WL.quiet (d := 53) rfl rfl rfl (q_load1 oneT_3 rfl (rd_z hz.pv hA_12562 rfl)) ?_
            refine WL.quiet (d := 4) rfl rfl rfl (q_assign rfl) ?_
            refine WL.nil ?_
            refine WX.then ?_
            refine WC.ret ?_
            refine WX.blockRet ?_
            refine WX.thenRet ?_
            refine WX.thenRet ?_
            refine WX.blockRet ?_
            refine WX.thenRet ?_
            obtain rfl := Option.some.inj h
            refine WX.bpRet Try.results28 (.tmp rfl .nil) (fun w hw => ?_)
            exact ⟨ret1 rfl, hw.sub .nil⟩
          · replace h := ite_f h hb_12554
            refine WC.skip ?_
            refine WX.blockNormal ?_
            exact WX.mid (G := Unit) () h (.cons rfl (.cons rfl (.cons rfl .nil))) .nil
      · rintro  h
        replace h := hk_12310.symm.trans h
        refine WC.region ?_
        refine WL.quiet (d := 12) rfl rfl rfl (q_move rfl) ?_
        refine WL.quiet (d := 13) rfl rfl rfl (q_add rfl rfl rfl) ?_
        refine WL.quiet (d := 5) rfl rfl rfl (q_assign rfl) ?_
        refine WL.nil ?_
        exact WX.round (G := Nat × Int) ⟨n_11696, (i64 (i_11694 + 1))⟩ h (Nat.lt_succ_self _) (.cons rfl (.cons rfl (.cons rfl .nil))) .nil
    · replace h := ite_f h hb_11698
      refine WC.exit ?_
      refine WX.thenExit ?_
      refine WX.thenExit ?_
      refine WX.blockHit ?_
      exact WX.mid (G := Unit) () h .nil .nil
  · rintro  h
    replace h := hk_10825.symm.trans h
    refine WC.seq ?_
    refine WC.region ?_
    refine WL.quiet (d := 4) rfl rfl rfl (q_assign rfl) ?_
    refine WL.nil ?_
    refine WX.then ?_
    refine WC.ret ?_
    obtain rfl := Option.some.inj h
    refine WX.bpRet Try.results28 (.tmp rfl .nil) (fun w hw => ?_)
    exact ⟨ret1 rfl, hw.sub .nil⟩
def m_ref33_Midpoint_L2 (l_3704 : List Int) (k_12667 : Option (Int × Int)) : Nat → Int → Option (Int × Int)
  | 0, _ => none
  | n_12698 + 1, i_12696 => if decide (i_12696 < ((l_3704.length : Nat) : Int)) then chk ((0 : Int) ≤ i_12696 ∧ i_12696 < ((l_3704.length : Nat) : Int)) ((m_ref33_In (nth l_3704 i_12696)).bind fun x_12718 => if !x_12718 then some (0, 2) else m_ref33_Midpoint_L2 l_3704 k_12667 n_12698 (i64 (i_12696 + 1))) else k_12667
theorem m_ref33_Midpoint_L2_fuel {n : Nat} {l_3704 : List Int} {k_12667 : Option (Int × Int)} {i_12696 : Int} {r : Int × Int} (h : m_ref33_Midpoint_L2 l_3704 k_12667 n i_12696 = some r) : ∃ m, n = m + 1 := by
  cases n with
  | zero => cases h
  | succ m => exact ⟨m, rfl⟩

/-- nacelleref33.Midpoint -/
def m_ref33_Midpoint (l_3704 : List Int) (f_3708 : Int) : Option (Int × Int) :=
  (m_ref33_Fits ((l_3704.length : Nat) : Int) f_3708).bind fun x_12582 => if !x_12582 then some (0, 2) else jp0 ((m_ref33_rank l_3704 f_3708).bind fun x_12725 => (m_ref33_rank l_3704 (i64 ((i64 (((l_3704.length : Nat) : Int) - 1)) - f_3708))).bind fun x_12727 => jp1 (fun (half_12732 : Int) => some (half_12732, 0)) fun k_12733 => if (decide ((i64 (x_12725 + x_12727)) < 0)) && (decide ((Int.tmod (i64 (x_12725 + x_12727)) 2) ≠ 0)) then k_12733 (i64 ((i64 (Int.tdiv (i64 (x_12725 + x_12727)) 2)) - 1)) else k_12733 (i64 (Int.tdiv (i64 (x_12725 + x_12727)) 2))) fun k_12667 => m_ref33_Midpoint_L2 l_3704 k_12667 FUEL 0

set_option maxRecDepth 20000 in
theorem w_ref33_Midpoint (Z : Zp)  (ao_3705 : Option Addr) (cap_3706 : Nat) (l_3704 : List Int) (f_3708 : Int) (r : Int × Int) (w₀ : World) (hz : PZ [] w₀ Z)
    (hs_3707 : ZS Z 1 (fun r x => r = e3 x) ao_3705 cap_3706 l_3704)
    (h : m_ref33_Midpoint l_3704 f_3708 = some r) :
    Calls Try.prog 12 #[(.slice ao_3705 l_3704.length cap_3706), (.int .i64 f_3708)] w₀ fun e w' => e = .returned (.tuple #[(.int .i64 r.1), (.int .i64 r.2)]) ∧ Hp [] w₀ w' [] := by
  unfold m_ref33_Midpoint at h
  refine Calls.ofWC (vs := [(.slice ao_3705 l_3704.length cap_3706), (.int .i64 f_3708)]) (pre := []) (env := [(0, (.slice ao_3705 l_3704.length cap_3706)), (1, (.int .i64 f_3708))]) Try.func12 rfl Try.ntmps12 rfl (Hp.nil w₀ _) rfl ?_
  refine WC.seq ?_
  refine WC.region ?_
  refine WL.quiet (d := 4) rfl rfl rfl (q_assign rfl) ?_
  refine WL.quiet (d := 5) rfl rfl rfl (q_assign rfl) ?_
  refine WL.nil ?_
  refine WX.then ?_
  refine WC.seq ?_
  refine WC.seq ?_
  obtain ⟨x_12582, hx_12583, h⟩ := bind_elim h
  refine WC.region ?_
  refine WL.quiet (d := 9) rfl rfl rfl (q_move rfl) ?_
  refine WL.quiet (d := 10) rfl rfl rfl (q_len Try.underlying22 rfl) ?_
  refine WL.quiet (d := 11) rfl rfl rfl (q_move rfl) ?_
  refine WL.callD (dd := 12) rfl rfl rfl (run_call (l := [.tmp 10, .tmp 11]) Try.call26 (.cons rfl (.cons rfl .nil))) (.nil : Sel [] [] []) (fun w hw => by have pz := (hz.call hw (.nil : Sel [] [] [])); exact w_ref33_Fits (Z := _)  (n_3709 := ((l_3704.length : Nat) : Int)) (f_3710 := f_3708) (r := x_12582) w pz  hx_12583) ?_
  refine WL.quiet (d := 13) rfl rfl rfl (q_not rfl) ?_
  refine WL.nil ?_
  refine WX.then ?_
  refine WC.cond rfl (fun hb_12584 => ?_) (fun hb_12584 => ?_)
  · replace h := ite_t h hb_12584
    refine WC.seq ?_
    refine WC.region ?_
    refine WL.quiet (d := 4) rfl rfl rfl (q_assign rfl) ?_
    refine WL.quiet (d := 5) rfl rfl rfl (q_assign rfl) ?_
    refine WL.nil ?_
    refine WX.then ?_
    refine WC.ret ?_
    refine WX.thenRet ?_
    obtain rfl := Option.some.inj h
    refine WX.bpRet Try.results12 (.tmp rfl (.tmp rfl .nil)) (fun w hw => ?_)
    exact ⟨ret2 rfl rfl, hw.sub .nil⟩
  · replace h := ite_f h hb_12584
    refine WC.skip ?_
    refine WX.then ?_
    obtain ⟨k_12667, hk_12668, h⟩ := jp0_elim h
    refine WC.seqMid0 ((k_12667 = some r)) ([(0, (.slice ao_3705 l_3704.length cap_3706)), (1, (.int .i64 f_3708))]) ([]) ?_ ?_
    · skip
      refine WC.seq ?_
      refine WC.region ?_
      refine WL.quiet (d := 6) rfl rfl rfl (q_assign rfl) ?_
      refine WL.nil ?_
      refine WX.then ?_
      refine WC.block ?_
      refine WC.loop2 (fun (n_12697 : Nat) (i_12696 : Int) => (m_ref33_Midpoint_L2 l_3704 k_12667 n_12697 i_12696 = some r)) (fun (n_12697 : Nat) (i_12696 : Int) => [(0, (.slice ao_3705 l_3704.length cap_3706)), (1, (.int .i64 f_3708)), (6, (.int .i64 i_12696))]) (fun (n_12697 : Nat) (i_12696 : Int) => []) (fun (n_12697 : Nat) (i_12696 : Int) => n_12697) ⟨FUEL, 0⟩ h (.cons rfl (.cons rfl (.cons rfl .nil))) .nil ?_
      rintro n_12697 i_12696 h
      obtain ⟨n_12698, rfl⟩ := m_ref33_Midpoint_L2_fuel h
      rw [m_ref33_Midpoint_L2] at h
      refine WC.seq ?_
      refine WC.seq ?_
      refine WC.region ?_
      refine WL.quiet (d := 14) rfl rfl rfl (q_move rfl) ?_
      refine WL.quiet (d := 15) rfl rfl rfl (q_move rfl) ?_
      refine WL.quiet (d := 16) rfl rfl rfl (q_len Try.underlying22 rfl) ?_
      refine WL.quiet (d := 17) rfl rfl rfl (q_lss rfl rfl) ?_
      refine WL.nil ?_
      refine WX.then ?_
      refine WC.cond rfl (fun hb_12700 => ?_) (fun hb_12700 => ?_)
      · replace h := ite_t h hb_12700
        refine WC.skip ?_
        refine WX.then ?_
        refine WC.seq ?_
        refine WC.block ?_
        refine WC.seq ?_
        obtain ⟨c_12713, h⟩ := chk_elim h
        obtain ⟨x_12718, hx_12719, h⟩ := bind_elim h
        refine WC.region ?_
        refine WL.quiet (d := 20) rfl rfl rfl (q_move rfl) ?_
        refine WL.quiet (d := 21) rfl rfl rfl (q_move rfl) ?_
        refine WL.znth (dd := 22) rfl rfl (Z := Z) (Pr := (fun r x => r = e3 x)) elT_22 rfl rfl hs_3707 c_12713 ?_
        rintro A_12720 r_12721 hA_12722 hl_12723 rfl
        refine WL.quiet (d := 23) rfl rfl rfl (q_load1 oneT_3 rfl (rd_z hz.pv hA_12722 rfl)) ?_
        refine WL.callD (dd := 24) rfl rfl rfl (run_call (l := [.tmp 23]) Try.call27 (.cons rfl .nil)) (.nil : Sel [] [] []) (fun w hw => by have pz := (hz.call hw (.nil : Sel [] [] [])); exact w_ref33_In (Z := _)  (t_3741 := (nth l_3704 i_12696)) (r := x_12718) w pz  hx_12719) ?_
        refine WL.quiet (d := 25) rfl rfl rfl (q_not rfl) ?_
        refine WL.nil ?_
        refine WX.then ?_
        refine WC.cond rfl (fun hb_12724 => ?_) (fun hb_12724 => ?_)
        · replace h := ite_t h hb_12724
          refine WC.seq ?_
          refine WC.region ?_
          refine WL.quiet (d := 4) rfl rfl rfl (q_assign rfl) ?_
          refine WL.quiet (d := 5) rfl rfl rfl (q_assign rfl) ?_
          refine WL.nil ?_
          refine WX.then ?_
          refine WC.ret ?_
          refine WX.blockRet ?_
          refine WX.thenRet ?_
          refine WX.thenRet ?_
          refine WX.blockRet ?_
          refine WX.thenRet ?_
          obtain rfl := Option.some.inj h
          refine WX.bpRet Try.results12 (.tmp rfl (.tmp rfl .nil)) (fun w hw => ?_)
          exact ⟨ret2 rfl rfl, hw.sub .nil⟩
        · replace h := ite_f h hb_12724
          refine WC.skip ?_
          refine WX.blockNormal ?_
          refine WX.then ?_
          refine WC.region ?_
          refine WL.quiet (d := 18) rfl rfl rfl (q_move rfl) ?_
          refine WL.quiet (d := 19) rfl rfl rfl (q_add rfl rfl rfl) ?_
          refine WL.quiet (d := 6) rfl rfl rfl (q_assign rfl) ?_
          refine WL.nil ?_
          exact WX.round (G := Nat × Int) ⟨n_12698, (i64 (i_12696 + 1))⟩ h (Nat.lt_succ_self _) (.cons rfl (.cons rfl (.cons rfl .nil))) .nil
      · replace h := ite_f h hb_12700
        refine WC.exit ?_
        refine WX.thenExit ?_
        refine WX.thenExit ?_
        refine WX.blockHit ?_
        exact WX.mid (G := Unit) () h (.cons rfl (.cons rfl .nil)) .nil
    · rintro  h
      replace h := hk_12668.symm.trans h
      refine WC.seq ?_
      obtain ⟨x_12725, hx_12726, h⟩ := bind_elim h
      obtain ⟨x_12727, hx_12728, h⟩ := bind_elim h
      refine WC.region ?_
      refine WL.quiet (d := 26) rfl rfl rfl (q_move rfl) ?_
      refine WL.quiet (d := 27) rfl rfl rfl (q_move rfl) ?_
      refine WL.callD (dd := 28) rfl rfl rfl (run_call (l := [.tmp 26, .tmp 27]) Try.call28 (.cons rfl (.cons rfl .nil))) (.nil : Sel [] [] []) (fun w hw => by have pz := (hz.call hw (.nil : Sel [] [] [])); exact w_ref33_rank (Z := _) (ao_3881 := ao_3705) (cap_3882 := cap_3706) (l_3880 := l_3704) (k_3884 := f_3708) (r := x_12725) w pz hs_3707 hx_12726) ?_
      refine WL.quiet (d := 29) rfl rfl rfl (q_move rfl) ?_
      refine WL.quiet (d := 30) rfl rfl rfl (q_move rfl) ?_
      refine WL.quiet (d := 31) rfl rfl rfl (q_len Try.underlying22 rfl) ?_
      refine WL.quiet (d := 32) rfl rfl rfl (q_sub rfl rfl rfl) ?_
      refine WL.quiet (d := 33) rfl rfl rfl (q_move rfl) ?_
      refine WL.quiet (d := 34) rfl rfl rfl (q_sub rfl rfl rfl) ?_
      refine WL.callD (dd := 35) rfl rfl rfl (run_call (l := [.tmp 29, .tmp 34]) Try.call28 (.cons rfl (.cons rfl .nil))) (.nil : Sel [] [] []) (fun w hw => by have pz := (hz.call hw (.nil : Sel [] [] [])); exact w_ref33_rank (Z := _) (ao_3881 := ao_3705) (cap_3882 := cap_3706) (l_3880 := l_3704) (k_3884 := (i64 ((i64 (((l_3704.length : Nat) : Int) - 1)) - f_3708))) (r := x_12727) w pz hs_3707 hx_12728) ?_
      refine WL.quiet (d := 36) rfl rfl rfl (q_add rfl rfl rfl) ?_
      refine WL.quiet (d := 7) rfl rfl rfl (q_assign rfl) ?_
      refine WL.nil ?_
      refine WX.then ?_
      refine WC.seq ?_
      refine WC.region ?_
      refine WL.quiet (d := 37) rfl rfl rfl (q_move rfl) ?_
      refine WL.quiet (d := 38) rfl rfl rfl (q_quo rfl rfl (by decide) rfl) ?_
      refine WL.quiet (d := 8) rfl rfl rfl (q_assign rfl) ?_
      refine WL.nil ?_
      refine WX.then ?_
      obtain ⟨k_12733, hk_12734, h⟩ := jp1_elim h
      refine WC.seqMid1 (fun (half_12732 : Int) => (k_12733 half_12732 = some r)) (fun (half_12732 : Int) => [(8, (.int .i64 half_12732))]) (fun (half_12732 : Int) => []) ?_ ?_
      · skip
        refine WC.seq ?_
        refine WC.region ?_
        refine WL.quiet (d := 39) rfl rfl rfl (q_move rfl) ?_
        refine WL.quiet (d := 40) rfl rfl rfl (q_lss rfl rfl) ?_
        refine WL.quiet (d := 41) rfl rfl rfl (q_move rfl) ?_
        refine WL.cut0 True [(8, (.int .i64 (i64 (Int.tdiv (i64 (x_12725 + x_12727)) 2)))), (45, (.bool ((decide ((i64 (x_12725 + x_12727)) < 0)) && (decide ((Int.tmod (i64 (x_12725 + x_12727)) 2) ≠ 0)))))] [] 4 ?_ (fun _ => ?_)
        · rcases Bool.eq_false_or_eq_true (decide ((i64 (x_12725 + x_12727)) < 0)) with hb' | hb'
          · have hg_12735 := hb'; clear hb'
            refine WL.pin (i := 41) rfl hg_12735 ?_
            refine WL.quiet (d := 42) rfl rfl rfl (q_move rfl) ?_
            refine WL.quiet (d := 43) rfl rfl rfl (q_rem rfl rfl (by decide) rfl) ?_
            refine WL.quiet (d := 44) rfl rfl rfl (q_neq rfl rfl) ?_
            refine WL.quiet (d := 45) rfl rfl rfl (q_pickT rfl rfl) ?_
            exact WL.cutEnd () trivial (.cons rfl (.cons (some_bool (and_r hg_12735)) .nil)) .nil
          · have hg_12736 := hb'; clear hb'
            refine WL.pin (i := 41) rfl hg_12736 ?_
            refine WL.skip rfl rfl rfl ?_
            refine WL.skip rfl rfl rfl ?_
            refine WL.skip rfl rfl rfl ?_
            refine WL.quiet (d := 45) rfl rfl rfl (q_pickF rfl rfl) ?_
            exact WL.cutEnd () trivial (.cons rfl (.cons (some_bool (and_l hg_12736)) .nil)) .nil
        · skip
          refine WL.nil ?_
          refine WX.then ?_
          refine WC.cond rfl (fun hb_12737 => ?_) (fun hb_12737 => ?_)
          · replace h := ite_t h hb_12737
            refine WC.region ?_
            refine WL.quiet (d := 46) rfl rfl rfl (q_move rfl) ?_
            refine WL.quiet (d := 47) rfl rfl rfl (q_sub rfl rfl rfl) ?_
            refine WL.quiet (d := 8) rfl rfl rfl (q_assign rfl) ?_
            refine WL.nil ?_
            exact WX.mid (G := Int) (i64 ((i64 (Int.tdiv (i64 (x_12725 + x_12727)) 2)) - 1)) h (.cons rfl .nil) .nil
          · replace h := ite_f h hb_12737
            refine WC.skip ?_
            exact WX.mid (G := Int) (i64 (Int.tdiv (i64 (x_12725 + x_12727)) 2)) h (.cons rfl .nil) .nil
      · rintro half_12732 h
        replace h := (hk_12734 half_12732).symm.trans h
        refine WC.seq ?_
        refine WC.region ?_
        refine WL.quiet (d := 48) rfl rfl rfl (q_move rfl) ?_
        refine WL.quiet (d := 4) rfl rfl rfl (q_assign rfl) ?_
        refine WL.quiet (d := 5) rfl rfl rfl (q_assign rfl) ?_
        refine WL.nil ?_
        refine WX.then ?_
        refine WC.ret ?_
        obtain rfl := Option.some.inj h
        refine WX.bpRet Try.results12 (.tmp rfl (.tmp rfl .nil)) (fun w hw => ?_)
        exact ⟨ret2 rfl rfl, hw.sub .nil⟩
def m_ref33_Suspects_L2 (l_12748 : List Int) (x_13129 : Int × Int) (width_12753 : Int) (k_13355 : (List Int) → Option (List Int × Int)) : Nat → (List Int) → Int → Option (List Int × Int)
  | 0, _, _ => none
  | n_13434 + 1, out_13428, i_13431 => if decide (i_13431 < ((l_12748.length : Nat) : Int)) then jp1 (fun (out_13466 : List Int) => m_ref33_Suspects_L2 l_12748 x_13129 width_12753 k_13355 n_13434 out_13466 (i64 (i_13431 + 1))) fun k_13469 => chk ((0 : Int) ≤ i_13431 ∧ i_13431 < ((l_12748.length : Nat) : Int)) (chk ((decide ((i64 ((nth l_12748 i_13431) - x_13129.1)) > width_12753)) = false → ((0 : Int) ≤ i_13431 ∧ i_13431 < ((l_12748.length : Nat) : Int))) (if (decide ((i64 ((nth l_12748 i_13431) - x_13129.1)) > width_12753)) || (decide ((i64 (x_13129.1 - (nth l_12748 i_13431))) > width_12753)) then chk ((((out_13428 ++ ([i_13431] : List Int)).length : Nat) : Int) * 8 ≤ 140737488355328 ∧ (((out_13428 ++ ([i_13431] : List Int)).length : Nat) : Int) ≤ 4611686018427387904) (k_13469 (out_13428 ++ ([i_13431] : List Int))) else k_13469 out_13428)) else k_13355 out_13428
theorem m_ref33_Suspects_L2_fuel {n : Nat} {l_12748 : List Int} {x_13129 : Int × Int} {width_12753 : Int} {k_13355 : (List Int) → Option (List Int × Int)} {out_13428 : List Int} {i_13431 : Int} {r : List Int × Int} (h : m_ref33_Suspects_L2 l_12748 x_13129 width_12753 k_13355 n out_13428 i_13431 = some r) : ∃ m, n = m + 1 := by
  cases n with
  | zero => cases h
  | succ m => exact ⟨m, rfl⟩

/-- nacelleref33.Suspects -/
def m_ref33_Suspects (l_12748 : List Int) (f_12752 : Int) (width_12753 : Int) : Option (List Int × Int) :=
  (m_ref33_Midpoint l_12748 f_12752).bind fun x_13129 => if (decide (x_13129.2 ≠ 0)) || (decide (width_12753 < 0)) then some (([] : List Int), 2) else jp1 (fun (out_13352 : List Int) => some (out_13352, 0)) fun k_13355 => m_ref33_Suspects_L2 l_12748 x_13129 width_12753 k_13355 FUEL ([] : List Int) 0

set_option maxRecDepth 20000 in
theorem w_ref33_Suspects (Z : Zp)  (ao_12749 : Option Addr) (cap_12750 : Nat) (l_12748 : List Int) (f_12752 : Int) (width_12753 : Int) (r : List Int × Int) (w₀ : World) (hz : PZ [] w₀ Z)
    (hs_12751 : ZS Z 1 (fun r x => r = e3 x) ao_12749 cap_12750 l_12748)
    (h : m_ref33_Suspects l_12748 f_12752 width_12753 = some r) :
    Calls Try.prog 14 #[(.slice ao_12749 l_12748.length cap_12750), (.int .i64 f_12752), (.int .i64 width_12753)] w₀ fun e w' => ∃ ao_13126 : Option Addr, ∃ cap_13127 : Nat, e = .returned (.tuple #[(.slice ao_13126 r.1.length cap_13127), (.int .i64 r.2)]) ∧ True ∧ Hp [] w₀ w' [row (.slice ao_13126 r.1.length cap_13127) 3 1 (r.1.flatMap e3)] := by
  unfold m_ref33_Suspects at h
  refine Calls.ofWC (vs := [(.slice ao_12749 l_12748.length cap_12750), (.int .i64 f_12752), (.int .i64 width_12753)]) (pre := []) (env := [(0, (.slice ao_12749 l_12748.length cap_12750)), (1, (.int .i64 f_12752)), (2, (.int .i64 width_12753))]) Try.func14 rfl Try.ntmps14 rfl (Hp.nil w₀ _) rfl ?_
  refine WC.seq ?_
  refine WC.region ?_
  refine WL.quiet (d := 6) rfl rfl rfl (q_assign rfl) ?_
  refine WL.quiet (d := 7) rfl rfl rfl (q_assign rfl) ?_
  refine WL.nil ?_
  refine WX.then ?_
  refine WC.seq ?_
  obtain ⟨x_13129, hx_13130, h⟩ := bind_elim h
  refine WC.region ?_
  refine WL.quiet (d := 13) rfl rfl rfl (q_move rfl) ?_
  refine WL.quiet (d := 14) rfl rfl rfl (q_move rfl) ?_
  refine WL.callD (dd := 15) rfl rfl rfl (run_call (l := [.tmp 13, .tmp 14]) Try.call12 (.cons rfl (.cons rfl .nil))) (.nil : Sel [] [] []) (fun w hw => by have pz := (hz.call hw (.nil : Sel [] [] [])); exact w_ref33_Midpoint (Z := _) (ao_3705 := ao_12749) (cap_3706 := cap_12750) (l_3704 := l_12748) (f_3708 := f_12752) (r := x_13129) w pz hs_12751 hx_13130) ?_
  refine WL.quiet (d := 12) rfl rfl rfl (q_move rfl) ?_
  refine WL.quiet (d := 16) rfl rfl rfl (q_extract rfl rfl) ?_
  refine WL.quiet (d := 17) rfl rfl rfl (q_extract rfl rfl) ?_
  refine WL.quiet (d := 8) rfl rfl rfl (q_assign rfl) ?_
  refine WL.quiet (d := 9) rfl rfl rfl (q_assign rfl) ?_
  refine WL.nil ?_
  refine WX.then ?_
  refine WC.seq ?_
  refine WC.seq ?_
  refine WC.region ?_
  refine WL.quiet (d := 18) rfl rfl rfl (q_move rfl) ?_
  refine WL.quiet (d := 19) rfl rfl rfl (q_neq rfl rfl) ?_
  refine WL.quiet (d := 20) rfl rfl rfl (q_move rfl) ?_
  refine WL.cut0 True [(0, (.slice ao_12749 l_12748.length cap_12750)), (2, (.int .i64 width_12753)), (8, (.int .i64 x_13129.1)), (23, (.bool ((decide (x_13129.2 ≠ 0)) || (decide (width_12753 < 0)))))] [] 3 ?_ (fun _ => ?_)
  · rcases Bool.eq_false_or_eq_true (decide (x_13129.2 ≠ 0)) with hb' | hb'
    · have hg_13134 := hb'; clear hb'
      refine WL.pin (i := 20) rfl hg_13134 ?_
      refine WL.skip rfl rfl rfl ?_
      refine WL.skip rfl rfl rfl ?_
      refine WL.quiet (d := 23) rfl rfl rfl (q_pickT rfl rfl) ?_
      exact WL.cutEnd () trivial (.cons rfl (.cons rfl (.cons rfl (.cons (some_bool (or_l hg_13134)) .nil)))) .nil
    · have hg_13135 := hb'; clear hb'
      refine WL.pin (i := 20) rfl hg_13135 ?_
      refine WL.quiet (d := 21) rfl rfl rfl (q_move rfl) ?_
      refine WL.quiet (d := 22) rfl rfl rfl (q_lss rfl rfl) ?_
      refine WL.quiet (d := 23) rfl rfl rfl (q_pickF rfl rfl) ?_
      exact WL.cutEnd () trivial (.cons rfl (.cons rfl (.cons rfl (.cons (some_bool (or_r hg_13135)) .nil)))) .nil
  · skip
    refine WL.nil ?_
    refine WX.then ?_
    refine WC.cond rfl (fun hb_13136 => ?_) (fun hb_13136 => ?_)
    · replace h := ite_t h hb_13136
      refine WC.seq ?_
      refine WC.region ?_
      refine WL.quiet (d := 6) rfl rfl rfl (q_assign rfl) ?_
      refine WL.quiet (d := 7) rfl rfl rfl (q_assign rfl) ?_
      refine WL.nil ?_
      refine WX.then ?_
      refine WC.ret ?_
      refine WX.thenRet ?_
      refine WX.nilRow 3 1 ?_
      obtain rfl := Option.some.inj h
      refine WX.bpRet Try.results14 (.tmp rfl (.tmp rfl .nil)) (fun w hw => ?_)
      exact ⟨none, 0, ret2 rfl rfl, trivial, hw.sub (.cons .here .nil)⟩
    · replace h := ite_f h hb_13136
      refine WC.skip ?_
      refine WX.then ?_
      refine WC.seq ?_
      refine WC.region ?_
      refine WL.quiet (d := 10) rfl rfl rfl (q_assign rfl) ?_
      refine WL.nil ?_
      refine WX.then ?_
      obtain ⟨k_13355, hk_13356, h⟩ := jp1_elim h
      refine WC.seqMid3 (fun (out_13352 : List Int) (ao_13353 : Option Addr) (cap_13354 : Nat) => (k_13355 out_13352 = some r)) (fun (out_13352 : List Int) (ao_13353 : Option Addr) (cap_13354 : Nat) => [(10, (.slice ao_13353 out_13352.length cap_13354))]) (fun (out_13352 : List Int) (ao_13353 : Option Addr) (cap_13354 : Nat) => [row (.slice ao_13353 out_13352.length cap_13354) 3 1 (out_13352.flatMap e3)]) ?_ ?_
      · skip
        refine WC.seq ?_
        refine WC.region ?_
        refine WL.quiet (d := 11) rfl rfl rfl (q_assign rfl) ?_
        refine WL.nil ?_
        refine WX.then ?_
        refine WC.block ?_
        refine WC.nilRow 3 1 ?_
        refine WC.loop5 (fun (n_13432 : Nat) (out_13428 : List Int) (i_13431 : Int) (ao_13429 : Option Addr) (cap_13430 : Nat) => (m_ref33_Suspects_L2 l_12748 x_13129 width_12753 k_13355 n_13432 out_13428 i_13431 = some r)) (fun (n_13432 : Nat) (out_13428 : List Int) (i_13431 : Int) (ao_13429 : Option Addr) (cap_13430 : Nat) => [(0, (.slice ao_12749 l_12748.length cap_12750)), (2, (.int .i64 width_12753)), (8, (.int .i64 x_13129.1)), (10, (.slice ao_13429 out_13428.length cap_13430)), (11, (.int .i64 i_13431))]) (fun (n_13432 : Nat) (out_13428 : List Int) (i_13431 : Int) (ao_13429 : Option Addr) (cap_13430 : Nat) => [row (.slice ao_13429 out_13428.length cap_13430) 3 1 (out_13428.flatMap e3)]) (fun (n_13432 : Nat) (out_13428 : List Int) (i_13431 : Int) (ao_13429 : Option Addr) (cap_13430 : Nat) => n_13432) ⟨FUEL, ([] : List Int), 0, none, 0⟩ h (.cons rfl (.cons rfl (.cons rfl (.cons rfl (.cons rfl .nil))))) (.cons .here .nil) ?_
        rintro n_13432 out_13428 i_13431 ao_13429 cap_13430 h
        obtain ⟨n_13434, rfl⟩ := m_ref33_Suspects_L2_fuel h
        rw [m_ref33_Suspects_L2] at h
        refine WC.seq ?_
        refine WC.seq ?_
        refine WC.region ?_
        refine WL.quiet (d := 24) rfl rfl rfl (q_move rfl) ?_
        refine WL.quiet (d := 25) rfl rfl rfl (q_move rfl) ?_
        refine WL.quiet (d := 26) rfl rfl rfl (q_len Try.underlying22 rfl) ?_
        refine WL.quiet (d := 27) rfl rfl rfl (q_lss rfl rfl) ?_
        refine WL.nil ?_
        refine WX.then ?_
        refine WC.cond rfl (fun hb_13436 => ?_) (fun hb_13436 => ?_)
        · replace h := ite_t h hb_13436
          refine WC.skip ?_
          refine WX.then ?_
          obtain ⟨k_13469, hk_13470, h⟩ := jp1_elim h
          refine WC.seqMid3 (fun (out_13466 : List Int) (ao_13467 : Option Addr) (cap_13468 : Nat) => (k_13469 out_13466 = some r)) (fun (out_13466 : List Int) (ao_13467 : Option Addr) (cap_13468 : Nat) => [(0, (.slice ao_12749 l_12748.length cap_12750)), (2, (.int .i64 width_12753)), (8, (.int .i64 x_13129.1)), (10, (.slice ao_13467 out_13466.length cap_13468)), (11, (.int .i64 i_13431))]) (fun (out_13466 : List Int) (ao_13467 : Option Addr) (cap_13468 : Nat) => [row (.slice ao_13467 out_13466.length cap_13468) 3 1 (out_13466.flatMap e3)]) ?_ ?_
          · skip
            refine WC.block ?_
            refine WC.seq ?_
            obtain ⟨c_13471, h⟩ := chk_elim h
            obtain ⟨c_13481, h⟩ := chk_elim h
            refine WC.region ?_
            refine WL.quiet (d := 30) rfl rfl rfl (q_move rfl) ?_
            refine WL.quiet (d := 31) rfl rfl rfl (q_move rfl) ?_
            refine WL.znth (dd := 32) rfl rfl (Z := Z) (Pr := (fun r x => r = e3 x)) elT_22 rfl rfl hs_12751 c_13471 ?_
            rintro A_13482 r_13483 hA_13484 hl_13485 rfl
            refine WL.quiet (d := 33) rfl rfl rfl (q_load1 oneT_3 rfl (rd_z hz.pv hA_13484 rfl)) ?_
            refine WL.quiet (d := 34) rfl rfl rfl (q_move rfl) ?_
            refine WL.quiet (d := 35) rfl rfl rfl (q_sub rfl rfl rfl) ?_
            refine WL.quiet (d := 36) rfl rfl rfl (q_move rfl) ?_
            refine WL.quiet (d := 37) rfl rfl rfl (q_gtr rfl rfl) ?_
            refine WL.quiet (d := 38) rfl rfl rfl (q_move rfl) ?_
            refine WL.cut0 True [(0, (.slice ao_12749 l_12748.length cap_12750)), (2, (.int .i64 width_12753)), (8, (.int .i64 x_13129.1)), (10, (.slice ao_13429 out_13428.length cap_13430)), (11, (.int .i64 i_13431)), (47, (.bool ((decide ((i64 ((nth l_12748 i_13431) - x_13129.1)) > width_12753)) || (decide ((i64 (x_13129.1 - (nth l_12748 i_13431))) > width_12753)))))] [row (.slice ao_13429 out_13428.length cap_13430) 3 1 (out_13428.flatMap e3)] 9 ?_ (fun _ => ?_)
            · rcases Bool.eq_false_or_eq_true (decide ((i64 ((nth l_12748 i_13431) - x_13129.1)) > width_12753)) with hb' | hb'
              · have hg_13486 := hb'; clear hb'
                refine WL.pin (i := 38) rfl hg_13486 ?_
                refine WL.skip rfl rfl rfl ?_
                refine WL.skip rfl rfl rfl ?_
                refine WL.skip rfl rfl rfl ?_
                refine WL.skip rfl rfl rfl ?_
                refine WL.skip rfl rfl rfl ?_
                refine WL.skip rfl rfl rfl ?_
                refine WL.skip rfl rfl rfl ?_
                refine WL.skip rfl rfl rfl ?_
                refine WL.quiet (d := 47) rfl rfl rfl (q_pickT rfl rfl) ?_
                exact WL.cutEnd () trivial (.cons rfl (.cons rfl (.cons rfl (.cons rfl (.cons rfl (.cons (some_bool (or_l hg_13486)) .nil)))))) (.cons .here .nil)
              · have hg_13487 := hb'; clear hb'
                have c_13476 := c_13481 hg_13487
                refine WL.pin (i := 38) rfl hg_13487 ?_
                refine WL.quiet (d := 39) rfl rfl rfl (q_move rfl) ?_
                refine WL.quiet (d := 40) rfl rfl rfl (q_move rfl) ?_
                refine WL.quiet (d := 41) rfl rfl rfl (q_move rfl) ?_
                refine WL.znth (dd := 42) rfl rfl (Z := Z) (Pr := (fun r x => r = e3 x)) elT_22 rfl rfl hs_12751 c_13476 ?_
                rintro A_13488 r_13489 hA_13490 hl_13491 rfl
                refine WL.quiet (d := 43) rfl rfl rfl (q_load1 oneT_3 rfl (rd_z hz.pv hA_13490 rfl)) ?_
                refine WL.quiet (d := 44) rfl rfl rfl (q_sub rfl rfl rfl) ?_
                refine WL.quiet (d := 45) rfl rfl rfl (q_move rfl) ?_
                refine WL.quiet (d := 46) rfl rfl rfl (q_gtr rfl rfl) ?_
                refine WL.quiet (d := 47) rfl rfl rfl (q_pickF rfl rfl) ?_
                exact WL.cutEnd () trivial (.cons rfl (.cons rfl (.cons rfl (.cons rfl (.cons rfl (.cons (some_bool (or_r hg_13487)) .nil)))))) (.cons .here .nil)
            · skip
              refine WL.nil ?_
              refine WX.then ?_
              refine WC.cond rfl (fun hb_13492 => ?_) (fun hb_13492 => ?_)
              · replace h := ite_t h hb_13492
                obtain ⟨c_13494, h⟩ := chk_elim h
                refine WC.region ?_
                refine WL.quiet (d := 48) rfl rfl rfl (q_move rfl) ?_
                refine WL.quiet (d := 49) rfl rfl rfl (q_move rfl) ?_
                refine WL.new (dd := 50) rfl rfl rfl (e_buildSlice (cs := ([i_13431] : List Int).flatMap e3) elT_22 (Eos.parts (l := [.tmp 49]) (.cons rfl .nil) [0]) (fun _ => by kernel_rfl) rfl (by unfold maxLen; omega)) ?_
                intro b_13497 _
                refine WL.eff (d := 51) rfl rfl rfl (e_appendF (enc := e3) (l1 := out_13428) (l2 := ([i_13431] : List Int)) elT_22 rfl rfl (.there .here) (fun _ => rfl) rfl rfl (news_row .here) (oc_flat e3_oc _) c_13494) ?_
                rintro ⟨ao_13498, cap_13499⟩ _
                refine WL.quiet (d := 10) rfl rfl rfl (q_assign rfl) ?_
                refine WL.nil ?_
                refine WX.blockNormal ?_
                exact WX.mid (G := List Int × Option Addr × Nat) ⟨(out_13428 ++ ([i_13431] : List Int)), ao_13498, cap_13499⟩ h (.cons rfl (.cons rfl (.cons rfl (.cons rfl (.cons rfl .nil))))) (.cons .here .nil)
              · replace h := ite_f h hb_13492
                refine WC.skip ?_
                refine WX.blockNormal ?_
                exact WX.mid (G := List Int × Option Addr × Nat) ⟨out_13428, ao_13429, cap_13430⟩ h (.cons rfl (.cons rfl (.cons rfl (.cons rfl (.cons rfl .nil))))) (.cons .here .nil)
          · rintro out_13466 ao_13467 cap_13468 h
            replace h := (hk_13470 out_13466).symm.trans h
            refine WC.region ?_
            refine WL.quiet (d := 28) rfl rfl rfl (q_move rfl) ?_
            refine WL.quiet (d := 29) rfl rfl rfl (q_add rfl rfl rfl) ?_
            refine WL.quiet (d := 11) rfl rfl rfl (q_assign rfl) ?_
            refine WL.nil ?_
            exact WX.round (G := Nat × List Int × Int × Option Addr × Nat) ⟨n_13434, out_13466, (i64 (i_13431 + 1)), ao_13467, cap_13468⟩ h (Nat.lt_succ_self _) (.cons rfl (.cons rfl (.cons rfl (.cons rfl (.cons rfl .nil))))) (.cons .here .nil)
        · replace h := ite_f h hb_13436
          refine WC.exit ?_
          refine WX.thenExit ?_
          refine WX.thenExit ?_
          refine WX.blockHit ?_
          exact WX.mid (G := List Int × Option Addr × Nat) ⟨out_13428, ao_13429, cap_13430⟩ h (.cons rfl .nil) (.cons .here .nil)
      · rintro out_13352 ao_13353 cap_13354 h
        replace h := (hk_13356 out_13352).symm.trans h
        refine WC.seq ?_
        refine WC.region ?_
        refine WL.quiet (d := 52) rfl rfl rfl (q_move rfl) ?_
        refine WL.quiet (d := 6) rfl rfl rfl (q_assign rfl) ?_
        refine WL.quiet (d := 7) rfl rfl rfl (q_assign rfl) ?_
        refine WL.nil ?_
        refine WX.then ?_
        refine WC.ret ?_
        obtain rfl := Option.some.inj h
        refine WX.bpRet Try.results14 (.tmp rfl (.tmp rfl .nil)) (fun w hw => ?_)
        exact ⟨ao_13353, cap_13354, ret2 rfl rfl, trivial, hw.sub (.cons .here .nil)⟩
def m_ref33_Allowed_L2 (l_14184 : List Sapi_Span) (t_14189 : Int) (k_14605 : Int → Option Bool) : Nat → Int → Int → Option Bool
  | 0, _, _ => none
  | n_14661 + 1, n_14658, i_14659 => if decide (i_14659 < ((l_14184.length : Nat) : Int)) then jp1 (fun (n_14686 : Int) => m_ref33_Allowed_L2 l_14184 t_14189 k_14605 n_14661 n_14686 (i64 (i_14659 + 1))) fun k_14687 => chk ((0 : Int) ≤ i_14659 ∧ i_14659 < ((l_14184.length : Nat) : Int)) (chk ((decide (((nth l_14184 i_14659).fLo) ≤ t_14189)) = true → ((0 : Int) ≤ i_14659 ∧ i_14659 < ((l_14184.length : Nat) : Int))) (if (decide (((nth l_14184 i_14659).fLo) ≤ t_14189)) && (decide (t_14189 ≤ ((nth l_14184 i_14659).fHi))) then k_14687 (i64 (n_14658 + 1)) else k_14687 n_14658)) else k_14605 n_14658
theorem m_ref33_Allowed_L2_fuel {n : Nat} {l_14184 : List Sapi_Span} {t_14189 : Int} {k_14605 : Int → Option Bool} {n_14658 : Int} {i_14659 : Int} {r : Bool} (h : m_ref33_Allowed_L2 l_14184 t_14189 k_14605 n n_14658 i_14659 = some r) : ∃ m, n = m + 1 := by
  cases n with
  | zero => cases h
  | succ m => exact ⟨m, rfl⟩

/-- nacelleref33.Allowed -/
def m_ref33_Allowed (l_14184 : List Sapi_Span) (f_14188 : Int) (t_14189 : Int) : Option Bool :=
  jp1 (fun (n_14604 : Int) => some (decide ((i64 (n_14604 + f_14188)) ≥ ((l_14184.length : Nat) : Int)))) fun k_14605 => m_ref33_Allowed_L2 l_14184 t_14189 k_14605 FUEL 0 0

set_option maxRecDepth 20000 in
theorem w_ref33_Allowed (Z : Zp)  (ao_14185 : Option Addr) (cap_14186 : Nat) (l_14184 : List Sapi_Span) (f_14188 : Int) (t_14189 : Int) (r : Bool) (w₀ : World) (hz : PZ [] w₀ Z)
    (hs_14187 : ZS Z 2 (fun r x => r = e35 x) ao_14185 cap_14186 l_14184)
    (h : m_ref33_Allowed l_14184 f_14188 t_14189 = some r) :
    Calls Try.prog 38 #[(.slice ao_14185 l_14184.length cap_14186), (.int .i64 f_14188), (.int .i64 t_14189)] w₀ fun e w' => e = .returned (.bool r) ∧ Hp [] w₀ w' [] := by
  unfold m_ref33_Allowed at h
  refine Calls.ofWC (vs := [(.slice ao_14185 l_14184.length cap_14186), (.int .i64 f_14188), (.int .i64 t_14189)]) (pre := []) (env := [(0, (.slice ao_14185 l_14184.length cap_14186)), (1, (.int .i64 f_14188)), (2, (.int .i64 t_14189))]) Try.func38 rfl Try.ntmps38 rfl (Hp.nil w₀ _) rfl ?_
  refine WC.seq ?_
  refine WC.region ?_
  refine WL.quiet (d := 6) rfl rfl rfl (q_assign rfl) ?_
  refine WL.nil ?_
  refine WX.then ?_
  refine WC.seq ?_
  refine WC.region ?_
  refine WL.quiet (d := 7) rfl rfl rfl (q_assign rfl) ?_
  refine WL.nil ?_
  refine WX.then ?_
  obtain ⟨k_14605, hk_14606, h⟩ := jp1_elim h
  refine WC.seqMid1 (fun (n_14604 : Int) => (k_14605 n_14604 = some r)) (fun (n_14604 : Int) => [(0, (.slice ao_14185 l_14184.length cap_14186)), (1, (.int .i64 f_14188)), (7, (.int .i64 n_14604))]) (fun (n_14604 : Int) => []) ?_ ?_
  · skip
    refine WC.seq ?_
    refine WC.region ?_
    refine WL.quiet (d := 8) rfl rfl rfl (q_assign rfl) ?_
    refine WL.nil ?_
    refine WX.then ?_
    refine WC.block ?_
    refine WC.loop3 (fun (n_14660 : Nat) (n_14658 : Int) (i_14659 : Int) => (m_ref33_Allowed_L2 l_14184 t_14189 k_14605 n_14660 n_14658 i_14659 = some r)) (fun (n_14660 : Nat) (n_14658 : Int) (i_14659 : Int) => [(0, (.slice ao_14185 l_14184.length cap_14186)), (1, (.int .i64 f_14188)), (2, (.int .i64 t_14189)), (7, (.int .i64 n_14658)), (8, (.int .i64 i_14659))]) (fun (n_14660 : Nat) (n_14658 : Int) (i_14659 : Int) => []) (fun (n_14660 : Nat) (n_14658 : Int) (i_14659 : Int) => n_14660) ⟨FUEL, 0, 0⟩ h (.cons rfl (.cons rfl (.cons rfl (.cons rfl (.cons rfl .nil))))) .nil ?_
    rintro n_14660 n_14658 i_14659 h
    obtain ⟨n_14661, rfl⟩ := m_ref33_Allowed_L2_fuel h
    rw [m_ref33_Allowed_L2] at h
    refine WC.seq ?_
    refine WC.seq ?_
    refine WC.region ?_
    refine WL.quiet (d := 9) rfl rfl rfl (q_move rfl) ?_
    refine WL.quiet (d := 10) rfl rfl rfl (q_move rfl) ?_
    refine WL.quiet (d := 11) rfl rfl rfl (q_len Try.underlying23 rfl) ?_
    refine WL.quiet (d := 12) rfl rfl rfl (q_lss rfl rfl) ?_
    refine WL.nil ?_
    refine WX.then ?_
    refine WC.cond rfl (fun hb_14663 => ?_) (fun hb_14663 => ?_)
    · replace h := ite_t h hb_14663
      refine WC.skip ?_
      refine WX.then ?_
      obtain ⟨k_14687, hk_14688, h⟩ := jp1_elim h
      refine WC.seqMid1 (fun (n_14686 : Int) => (k_14687 n_14686 = some r)) (fun (n_14686 : Int) => [(0, (.slice ao_14185 l_14184.length cap_14186)), (1, (.int .i64 f_14188)), (2, (.int .i64 t_14189)), (7, (.int .i64 n_14686)), (8, (.int .i64 i_14659))]) (fun (n_14686 : Int) => []) ?_ ?_
      · skip
        refine WC.block ?_
        refine WC.seq ?_
        obtain ⟨c_14689, h⟩ := chk_elim h
        obtain ⟨c_14699, h⟩ := chk_elim h
        refine WC.region ?_
        refine WL.quiet (d := 15) rfl rfl rfl (q_move rfl) ?_
        refine WL.quiet (d := 16) rfl rfl rfl (q_move rfl) ?_
        refine WL.znth (dd := 17) rfl rfl (Z := Z) (Pr := (fun r x => r = e35 x)) elT_23 rfl rfl hs_14187 c_14689 ?_
        rintro A_14700 r_14701 hA_14702 hl_14703 rfl
        refine WL.quiet (d := 18) rfl rfl rfl (q_fieldAddr fo_35_0 rfl rfl) ?_
        refine WL.quiet (d := 19) rfl rfl rfl (q_load1 oneT_3 rfl (rd_zAt hz.pv hA_14702 rfl)) ?_
        refine WL.quiet (d := 20) rfl rfl rfl (q_move rfl) ?_
        refine WL.quiet (d := 21) rfl rfl rfl (q_leq rfl rfl) ?_
        refine WL.quiet (d := 22) rfl rfl rfl (q_move rfl) ?_
        refine WL.cut0 True [(0, (.slice ao_14185 l_14184.length cap_14186)), (1, (.int .i64 f_14188)), (2, (.int .i64 t_14189)), (7, (.int .i64 n_14658)), (8, (.int .i64 i_14659)), (30, (.bool ((decide (((nth l_14184 i_14659).fLo) ≤ t_14189)) && (decide (t_14189 ≤ ((nth l_14184 i_14659).fHi))))))] [] 8 ?_ (fun _ => ?_)
        · rcases Bool.eq_false_or_eq_true (decide (((nth l_14184 i_14659).fLo) ≤ t_14189)) with hb' | hb'
          · have hg_14704 := hb'; clear hb'
            have c_14694 := c_14699 hg_14704
            refine WL.pin (i := 22) rfl hg_14704 ?_
            refine WL.quiet (d := 23) rfl rfl rfl (q_move rfl) ?_
            refine WL.quiet (d := 24) rfl rfl rfl (q_move rfl) ?_
            refine WL.quiet (d := 25) rfl rfl rfl (q_move rfl) ?_
            refine WL.znth (dd := 26) rfl rfl (Z := Z) (Pr := (fun r x => r = e35 x)) elT_23 rfl rfl hs_14187 c_14694 ?_
            rintro A_14705 r_14706 hA_14707 hl_14708 rfl
            refine WL.quiet (d := 27) rfl rfl rfl (q_fieldAddr fo_35_1 rfl rfl) ?_
            refine WL.quiet (d := 28) rfl rfl rfl (q_load1 oneT_3 rfl (rd_zAt hz.pv hA_14707 rfl)) ?_
            refine WL.quiet (d := 29) rfl rfl rfl (q_leq rfl rfl) ?_
            refine WL.quiet (d := 30) rfl rfl rfl (q_pickT rfl rfl) ?_
            exact WL.cutEnd () trivial (.cons rfl (.cons rfl (.cons rfl (.cons rfl (.cons rfl (.cons (some_bool (and_r hg_14704)) .nil)))))) .nil
          · have hg_14709 := hb'; clear hb'
            refine WL.pin (i := 22) rfl hg_14709 ?_
            refine WL.skip rfl rfl rfl ?_
            refine WL.skip rfl rfl rfl ?_
            refine WL.skip rfl rfl rfl ?_
            refine WL.skip rfl rfl rfl ?_
            refine WL.skip rfl rfl rfl ?_
            refine WL.skip rfl rfl rfl ?_
            refine WL.skip rfl rfl rfl ?_
            refine WL.quiet (d := 30) rfl rfl rfl (q_pickF rfl rfl) ?_
            exact WL.cutEnd () trivial (.cons rfl (.cons rfl (.cons rfl (.cons rfl (.cons rfl (.cons (some_bool (and_l hg_14709)) .nil)))))) .nil
        · skip
          refine WL.nil ?_
          refine WX.then ?_
          refine WC.cond rfl (fun hb_14710 => ?_) (fun hb_14710 => ?_)
          · replace h := ite_t h hb_14710
            refine WC.region ?_
            refine WL.quiet (d := 31) rfl rfl rfl (q_move rfl) ?_
            refine WL.quiet (d := 32) rfl rfl rfl (q_add rfl rfl rfl) ?_
            refine WL.quiet (d := 7) rfl rfl rfl (q_assign rfl) ?_
            refine WL.nil ?_
            refine WX.blockNormal ?_
            exact WX.mid (G := Int) (i64 (n_14658 + 1)) h (.cons rfl (.cons rfl (.cons rfl (.cons rfl (.cons rfl .nil))))) .nil
          · replace h := ite_f h hb_14710
            refine WC.skip ?_
            refine WX.blockNormal ?_
            exact WX.mid (G := Int) n_14658 h (.cons rfl (.cons rfl (.cons rfl (.cons rfl (.cons rfl .nil))))) .nil
      · rintro n_14686 h
        replace h := (hk_14688 n_14686).symm.trans h
        refine WC.region ?_
        refine WL.quiet (d := 13) rfl rfl rfl (q_move rfl) ?_
        refine WL.quiet (d := 14) rfl rfl rfl (q_add rfl rfl rfl) ?_
        refine WL.quiet (d := 8) rfl rfl rfl (q_assign rfl) ?_
        refine WL.nil ?_
        exact WX.round (G := Nat × Int × Int) ⟨n_14661, n_14686, (i64 (i_14659 + 1))⟩ h (Nat.lt_succ_self _) (.cons rfl (.cons rfl (.cons rfl (.cons rfl (.cons rfl .nil))))) .nil
    · replace h := ite_f h hb_14663
      refine WC.exit ?_
      refine WX.thenExit ?_
      refine WX.thenExit ?_
      refine WX.blockHit ?_
      exact WX.mid (G := Int) n_14658 h (.cons rfl (.cons rfl (.cons rfl .nil))) .nil
  · rintro n_14604 h
    replace h := (hk_14606 n_14604).symm.trans h
    refine WC.seq ?_
    refine WC.region ?_
    refine WL.quiet (d := 33) rfl rfl rfl (q_move rfl) ?_
    refine WL.quiet (d := 34) rfl rfl rfl (q_move rfl) ?_
    refine WL.quiet (d := 35) rfl rfl rfl (q_add rfl rfl rfl) ?_
    refine WL.quiet (d := 36) rfl rfl rfl (q_move rfl) ?_
    refine WL.quiet (d := 37) rfl rfl rfl (q_len Try.underlying23 rfl) ?_
    refine WL.quiet (d := 38) rfl rfl rfl (q_geq rfl rfl) ?_
    refine WL.quiet (d := 6) rfl rfl rfl (q_assign rfl) ?_
    refine WL.nil ?_
    refine WX.then ?_
    refine WC.ret ?_
    obtain rfl := Option.some.inj h
    refine WX.bpRet Try.results38 (.tmp rfl .nil) (fun w hw => ?_)
    exact ⟨ret1 rfl, hw.sub .nil⟩
def m_ref33_Meet_L4 (l_13512 : List Sapi_Span) (k_16266 : Option (Sapi_Span × Int)) : Nat → Int → Option (Sapi_Span × Int)
  | 0, _ => none
  | n_16399 + 1, i_16397 => if decide (i_16397 < ((l_13512.length : Nat) : Int)) then chk ((0 : Int) ≤ i_16397 ∧ i_16397 < ((l_13512.length : Nat) : Int)) ((m_ref33_In ((nth l_13512 i_16397).fLo)).bind fun x_16470 => (if !x_16470 then some true else chk ((0 : Int) ≤ i_16397 ∧ i_16397 < ((l_13512.length : Nat) : Int)) ((m_ref33_In ((nth l_13512 i_16397).fHi)).bind fun x_16477 => some (!x_16477))).bind fun b_16479 => chk (b_16479 = false → ((0 : Int) ≤ i_16397 ∧ i_16397 < ((l_13512.length : Nat) : Int))) (if b_16479 || (decide (((nth l_13512 i_16397).fLo) > ((nth l_13512 i_16397).fHi))) then some ((⟨0, 0⟩ : Sapi_Span), 2) else m_ref33_Meet_L4 l_13512 k_16266 n_16399 (i64 (i_16397 + 1)))) else k_16266
theorem m_ref33_Meet_L4_fuel {n : Nat} {l_13512 : List Sapi_Span} {k_16266 : Option (Sapi_Span × Int)} {i_16397 : Int} {r : Sapi_Span × Int} (h : m_ref33_Meet_L4 l_13512 k_16266 n i_16397 = some r) : ∃ m, n = m + 1 := by
  cases n with
  | zero => cases h
  | succ m => exact ⟨m, rfl⟩

def m_ref33_Meet_L5 (l_13512 : List Sapi_Span) (f_13516 : Int) (k_16946 : Int → Int → Option (Sapi_Span × Int)) : Nat → Int → Int → Int → Option (Sapi_Span × Int)
  | 0, _, _, _ => none
  | n_17113 + 1, i_17109, c_17110, c_17111 => if decide (i_17109 < ((l_13512.length : Nat) : Int)) then jp2 (fun (c_17192 : Int) (c_17193 : Int) => m_ref33_Meet_L5 l_13512 f_13516 k_16946 n_17113 (i64 (i_17109 + 1)) c_17192 c_17193) fun k_17194 => chk ((0 : Int) ≤ i_17109 ∧ i_17109 < ((l_13512.length : Nat) : Int)) ((m_ref33_Allowed l_13512 f_13516 ((nth l_13512 i_17109).fLo)).bind fun x_17201 => chk (x_17201 = true → ((decide (c_17110 > c_17111)) = false → ((0 : Int) ≤ i_17109 ∧ i_17109 < ((l_13512.length : Nat) : Int)))) (if x_17201 && ((decide (c_17110 > c_17111)) || (decide (((nth l_13512 i_17109).fLo) < c_17110))) then jp1 (fun (c_17250 : Int) => chk ((0 : Int) ≤ i_17109 ∧ i_17109 < ((l_13512.length : Nat) : Int)) (k_17194 ((nth l_13512 i_17109).fLo) c_17250)) fun k_17251 => if decide (c_17110 > c_17111) then chk ((0 : Int) ≤ i_17109 ∧ i_17109 < ((l_13512.length : Nat) : Int)) (k_17251 ((nth l_13512 i_17109).fLo)) else k_17251 c_17111 else k_17194 c_17110 c_17111)) else k_16946 c_17110 c_17111
theorem m_ref33_Meet_L5_fuel {n : Nat} {l_13512 : List Sapi_Span} {f_13516 : Int} {k_16946 : Int → Int → Option (Sapi_Span × Int)} {i_17109 : Int} {c_17110 : Int} {c_17111 : Int} {r : Sapi_Span × Int} (h : m_ref33_Meet_L5 l_13512 f_13516 k_16946 n i_17109 c_17110 c_17111 = some r) : ∃ m, n = m + 1 := by
  cases n with
  | zero => cases h
  | succ m => exact ⟨m, rfl⟩

def m_ref33_Meet_L6 (l_13512 : List Sapi_Span) (f_13516 : Int) (k_17524 : Int → Option (Sapi_Span × Int)) : Nat → Int → Int → Option (Sapi_Span × Int)
  | 0, _, _ => none
  | n_17612 + 1, i_17609, c_17610 => if decide (i_17609 < ((l_13512.length : Nat) : Int)) then jp1 (fun (c_17653 : Int) => m_ref33_Meet_L6 l_13512 f_13516 k_17524 n_17612 (i64 (i_17609 + 1)) c_17653) fun k_17654 => chk ((0 : Int) ≤ i_17609 ∧ i_17609 < ((l_13512.length : Nat) : Int)) ((m_ref33_Allowed l_13512 f_13516 ((nth l_13512 i_17609).fHi)).bind fun x_17661 => chk (x_17661 = true → ((0 : Int) ≤ i_17609 ∧ i_17609 < ((l_13512.length : Nat) : Int))) (if x_17661 && (decide (((nth l_13512 i_17609).fHi) > c_17610)) then chk ((0 : Int) ≤ i_17609 ∧ i_17609 < ((l_13512.length : Nat) : Int)) (k_17654 ((nth l_13512 i_17609).fHi)) else k_17654 c_17610)) else k_17524 c_17610
theorem m_ref33_Meet_L6_fuel {n : Nat} {l_13512 : List Sapi_Span} {f_13516 : Int} {k_17524 : Int → Option (Sapi_Span × Int)} {i_17609 : Int} {c_17610 : Int} {r : Sapi_Span × Int} (h : m_ref33_Meet_L6 l_13512 f_13516 k_17524 n i_17609 c_17610 = some r) : ∃ m, n = m + 1 := by
  cases n with
  | zero => cases h
  | succ m => exact ⟨m, rfl⟩

/-- nacelleref33.Meet -/
def m_ref33_Meet (l_13512 : List Sapi_Span) (f_13516 : Int) : Option (Sapi_Span × Int) :=
  (m_ref33_Fits ((l_13512.length : Nat) : Int) f_13516).bind fun x_15875 => if !x_15875 then some ((⟨0, 0⟩ : Sapi_Span), 2) else jp0 (jp2 (fun (c_16944 : Int) (c_16945 : Int) => if decide (c_16944 > c_16945) then some ((⟨0, 0⟩ : Sapi_Span), 6) else jp1 (fun (c_17523 : Int) => some ((⟨c_16944, c_17523⟩ : Sapi_Span), 0)) fun k_17524 => m_ref33_Meet_L6 l_13512 f_13516 k_17524 FUEL 0 c_16945) fun k_16946 => m_ref33_Meet_L5 l_13512 f_13516 k_16946 FUEL 0 1 0) fun k_16266 => m_ref33_Meet_L4 l_13512 k_16266 FUEL 0

set_option maxRecDepth 20000 in
theorem w_ref33_Meet (Z : Zp)  (ao_13513 : Option Addr) (cap_13514 : Nat) (l_13512 : List Sapi_Span) (f_13516 : Int) (r : Sapi_Span × Int) (w₀ : World) (hz : PZ [] w₀ Z)
    (hs_13515 : ZS Z 2 (fun r x => r = e35 x) ao_13513 cap_13514 l_13512)
    (h : m_ref33_Meet l_13512 f_13516 = some r) :
    Calls Try.prog 16 #[(.slice ao_13513 l_13512.length cap_13514), (.int .i64 f_13516)] w₀ fun e w' => e = .returned (.tuple #[(.agg #[(.int .i64 r.1.fLo), (.int .i64 r.1.fHi)]), (.int .i64 r.2)]) ∧ Hp [] w₀ w' [] := by
  unfold m_ref33_Meet at h
  refine Calls.ofWC (vs := [(.slice ao_13513 l_13512.length cap_13514), (.int .i64 f_13516)]) (pre := []) (env := [(0, (.slice ao_13513 l_13512.length cap_13514)), (1, (.int .i64 f_13516))]) Try.func16 rfl Try.ntmps16 rfl (Hp.nil w₀ _) rfl ?_
  refine WC.seq ?_
  refine WC.region ?_
  refine WL.new (dd := 4) rfl rfl rfl (e_alloc (cs := [(.int .i64 0), (.int .i64 0)]) zeroT_35 rfl) ?_
  intro b_15871 _
  refine WL.quiet (d := 5) rfl rfl rfl (q_assign rfl) ?_
  refine WL.nil ?_
  refine WX.then ?_
  refine WC.seq ?_
  refine WC.seq ?_
  obtain ⟨x_15875, hx_15876, h⟩ := bind_elim h
  refine WC.region ?_
  refine WL.quiet (d := 10) rfl rfl rfl (q_move rfl) ?_
  refine WL.quiet (d := 11) rfl rfl rfl (q_len Try.underlying23 rfl) ?_
  refine WL.quiet (d := 12) rfl rfl rfl (q_move rfl) ?_
  refine WL.callD (dd := 13) rfl rfl rfl (run_call (l := [.tmp 11, .tmp 12]) Try.call26 (.cons rfl (.cons rfl .nil))) (.nil : Sel [stb b_15871 35 [(.int .i64 0), (.int .i64 0)]] [] [stb b_15871 35 [(.int .i64 0), (.int .i64 0)]]) (fun w hw => by have pz := (hz.call hw (.nil : Sel [stb b_15871 35 [(.int .i64 0), (.int .i64 0)]] [] [stb b_15871 35 [(.int .i64 0), (.int .i64 0)]])); exact w_ref33_Fits (Z := _)  (n_3709 := ((l_13512.length : Nat) : Int)) (f_3710 := f_13516) (r := x_15875) w pz  hx_15876) ?_
  refine WL.quiet (d := 14) rfl rfl rfl (q_not rfl) ?_
  refine WL.nil ?_
  refine WX.then ?_
  refine WC.cond rfl (fun hb_15877 => ?_) (fun hb_15877 => ?_)
  · replace h := ite_t h hb_15877
    refine WC.seq ?_
    refine WC.region ?_
    refine WL.quiet (d := 15) rfl rfl rfl (q_build (v := (.agg #[(.int .i64 0), (.int .i64 0)])) (Eos.parts (l := []) .nil []) (fun _ => by kernel_rfl)) ?_
    refine WL.eff0 rfl rfl (e_store (vs := [(.int .i64 0), (.int .i64 0)]) (ds := [(.int .i64 0), (.int .i64 0)]) sizT_35 rfl rfl rfl rfl (oc_cons rfl (oc_cons rfl oc_nil)) .here (Nat.le_of_ble_eq_true rfl) rfl) ?_
    refine WL.quiet (d := 5) rfl rfl rfl (q_assign rfl) ?_
    refine WL.nil ?_
    refine WX.then ?_
    refine WC.ret ?_
    refine WX.thenRet ?_
    obtain rfl := Option.some.inj h
    refine WX.bpRet Try.results16 (.agg rfl aggT_35 rfl (rd_all .here) (.tmp rfl .nil)) (fun w hw => ?_)
    exact ⟨ret2 rfl rfl, hw.sub .nil⟩
  · replace h := ite_f h hb_15877
    refine WC.skip ?_
    refine WX.then ?_
    obtain ⟨k_16266, hk_16267, h⟩ := jp0_elim h
    refine WC.seqMid0 ((k_16266 = some r)) ([(0, (.slice ao_13513 l_13512.length cap_13514)), (1, (.int .i64 f_13516)), (4, (.pointer (some ⟨b_15871, 0, none⟩)))]) ([stb b_15871 35 [(.int .i64 0), (.int .i64 0)]]) ?_ ?_
    · skip
      refine WC.seq ?_
      refine WC.region ?_
      refine WL.quiet (d := 6) rfl rfl rfl (q_assign rfl) ?_
      refine WL.nil ?_
      refine WX.then ?_
      refine WC.block ?_
      refine WC.loop2 (fun (n_16398 : Nat) (i_16397 : Int) => (m_ref33_Meet_L4 l_13512 k_16266 n_16398 i_16397 = some r)) (fun (n_16398 : Nat) (i_16397 : Int) => [(0, (.slice ao_13513 l_13512.length cap_13514)), (1, (.int .i64 f_13516)), (4, (.pointer (some ⟨b_15871, 0, none⟩))), (6, (.int .i64 i_16397))]) (fun (n_16398 : Nat) (i_16397 : Int) => [stb b_15871 35 [(.int .i64 0), (.int .i64 0)]]) (fun (n_16398 : Nat) (i_16397 : Int) => n_16398) ⟨FUEL, 0⟩ h (.cons rfl (.cons rfl (.cons rfl (.cons rfl .nil)))) (.cons .here .nil) ?_
      rintro n_16398 i_16397 h
      obtain ⟨n_16399, rfl⟩ := m_ref33_Meet_L4_fuel h
      rw [m_ref33_Meet_L4] at h
      refine WC.seq ?_
      refine WC.seq ?_
      refine WC.region ?_
      refine WL.quiet (d := 16) rfl rfl rfl (q_move rfl) ?_
      refine WL.quiet (d := 17) rfl rfl rfl (q_move rfl) ?_
      refine WL.quiet (d := 18) rfl rfl rfl (q_len Try.underlying23 rfl) ?_
      refine WL.quiet (d := 19) rfl rfl rfl (q_lss rfl rfl) ?_
      refine WL.nil ?_
      refine WX.then ?_
      refine WC.cond rfl (fun hb_16401 => ?_) (fun hb_16401 => ?_)
      · replace h := ite_t h hb_16401
        refine WC.skip ?_
        refine WX.then ?_
        refine WC.seq ?_
        refine WC.block ?_
        refine WC.seq ?_
        obtain ⟨c_16465, h⟩ := chk_elim h
        obtain ⟨x_16470, hx_16471, h⟩ := bind_elim h
        obtain ⟨b_16479, hb_16480, h⟩ := bind_elim h
        obtain ⟨c_16490, h⟩ := chk_elim h
        refine WC.draw (fun i => [].contains i) [] rfl ?_
        refine WD.pure (i := 0) (d := 22) (by kernel_rfl) rfl (by kernel_rfl) (by kernel_rfl) rfl rfl rfl (fun _ => q_move rfl) ?_
        refine WD.pure (i := 1) (d := 23) (by kernel_rfl) rfl (by kernel_rfl) (by kernel_rfl) rfl rfl rfl (fun _ => q_move rfl) ?_
        refine WD.znth (j := 2) (dd := 24) (by kernel_rfl) rfl (by kernel_rfl) (by kernel_rfl) rfl rfl (Z := Z) (Pr := (fun r x => r = e35 x)) elT_23 rfl rfl hs_13515 c_16465 ?_
        rintro A_16491 r_16492 hA_16493 hl_16494 rfl
        refine WD.pure (i := 3) (d := 25) (by kernel_rfl) rfl (by kernel_rfl) (by kernel_rfl) rfl rfl rfl (fun _ => q_fieldAddr fo_35_0 rfl rfl) ?_
        refine WD.quiet (i := 4) (d := 26) (by kernel_rfl) rfl (by kernel_rfl) (by kernel_rfl) rfl rfl rfl (q_load1 oneT_3 rfl (rd_zAt hz.pv hA_16493 rfl)) ?_
        refine WD.enter (i := 5) (d := 27) (by kernel_rfl) rfl (by kernel_rfl) (by kernel_rfl) rfl rfl rfl (run_call (l := [.tmp 26]) Try.call27 (.cons rfl .nil)) (fun w hw => by have pz := (hz.call hw (.nil : Sel [stb b_15871 35 [(.int .i64 0), (.int .i64 0)]] [] [stb b_15871 35 [(.int .i64 0), (.int .i64 0)]])); exact w_ref33_In (Z := _)  (t_3741 := ((nth l_13512 i_16397).fLo)) (r := x_16470) w pz  hx_16471) ?_
        refine WD.pure (i := 6) (d := 28) (by kernel_rfl) rfl (by kernel_rfl) (by kernel_rfl) rfl rfl rfl (fun _ => q_not rfl) ?_
        refine WD.pure (i := 7) (d := 29) (by kernel_rfl) rfl (by kernel_rfl) (by kernel_rfl) rfl rfl rfl (fun _ => q_move rfl) ?_
        refine WD.mid (fuel' := 13) [(0, (.slice ao_13513 l_13512.length cap_13514)), (1, (.int .i64 f_13516)), (4, (.pointer (some ⟨b_15871, 0, none⟩))), (6, (.int .i64 i_16397)), (16, (.int .i64 i_16397)), (17, (.slice ao_13513 l_13512.length cap_13514)), (18, (.int .i64 ((l_13512.length : Nat) : Int))), (19, (.bool (decide (i_16397 < ((l_13512.length : Nat) : Int))))), (22, (.slice ao_13513 l_13512.length cap_13514)), (23, (.int .i64 i_16397)), (24, (.pointer (some A_16491))), (25, (.pointer (some (A_16491.add 0)))), (26, (.int .i64 ((nth l_13512 i_16397).fLo))), (27, (.bool x_16470)), (28, (.bool (!x_16470))), (29, (.bool (!x_16470))), (37, (.bool b_16479))] (listedA 29 [15, 14, 13, 12, 11, 10, 9, 8, 7, 6, 5, 4, 3, 2, 1, 0]) ?_ (fun K_16499 => ?_)
        rotate_left
        · rcases Bool.eq_false_or_eq_true (!x_16470) with hb' | hb'
          · have hg_16500 := hb'; clear hb'
            have hq_16501 := ite_t hb_16480 hg_16500
            replace hq_16501 := Option.some.inj hq_16501
            refine WD.pin (i := 29) rfl hg_16500 ?_
            refine WD.skip (i := 8) (d := 30) (by kernel_rfl) rfl (by kernel_rfl) (by kernel_rfl) rfl rfl rfl ?_
            refine WD.skip (i := 9) (d := 31) (by kernel_rfl) rfl (by kernel_rfl) (by kernel_rfl) rfl rfl rfl ?_
            refine WD.skip (i := 10) (d := 32) (by kernel_rfl) rfl (by kernel_rfl) (by kernel_rfl) rfl rfl rfl ?_
            refine WD.skip (i := 11) (d := 33) (by kernel_rfl) rfl (by kernel_rfl) (by kernel_rfl) rfl rfl rfl ?_
            refine WD.skip (i := 12) (d := 34) (by kernel_rfl) rfl (by kernel_rfl) (by kernel_rfl) rfl rfl rfl ?_
            refine WD.skip (i := 13) (d := 35) (by kernel_rfl) rfl (by kernel_rfl) (by kernel_rfl) rfl rfl rfl ?_
            refine WD.skip (i := 14) (d := 36) (by kernel_rfl) rfl (by kernel_rfl) (by kernel_rfl) rfl rfl rfl ?_
            refine WD.pure (i := 15) (d := 37) (by kernel_rfl) rfl (by kernel_rfl) (by kernel_rfl) rfl rfl rfl (fun _ => q_pickT rfl rfl) ?_
            refine WD.reL (.cons .here .nil) ?_ K_16499
            exact (.cons rfl (.cons rfl (.cons rfl (.cons rfl (.cons rfl (.cons rfl (.cons rfl (.cons rfl (.cons rfl (.cons rfl (.cons rfl (.cons rfl (.cons rfl (.cons rfl (.cons rfl (.cons (some_bool (Eq.symm hg_16500)) (.cons (some_bool hq_16501) .nil)))))))))))))))))
          · have hg_16502 := hb'; clear hb'
            have hq_16503 := ite_f hb_16480 hg_16502
            obtain ⟨c_16472, hq_16503⟩ := chk_elim hq_16503
            obtain ⟨x_16477, hx_16478, hq_16503⟩ := bind_elim hq_16503
            replace hq_16503 := Option.some.inj hq_16503
            refine WD.pin (i := 29) rfl hg_16502 ?_
            refine WD.pure (i := 8) (d := 30) (by kernel_rfl) rfl (by kernel_rfl) (by kernel_rfl) rfl rfl rfl (fun _ => q_move rfl) ?_
            refine WD.pure (i := 9) (d := 31) (by kernel_rfl) rfl (by kernel_rfl) (by kernel_rfl) rfl rfl rfl (fun _ => q_move rfl) ?_
            refine WD.znth (j := 10) (dd := 32) (by kernel_rfl) rfl (by kernel_rfl) (by kernel_rfl) rfl rfl (Z := Z) (Pr := (fun r x => r = e35 x)) elT_23 rfl rfl hs_13515 c_16472 ?_
            rintro A_16504 r_16505 hA_16506 hl_16507 rfl
            refine WD.pure (i := 11) (d := 33) (by kernel_rfl) rfl (by kernel_rfl) (by kernel_rfl) rfl rfl rfl (fun _ => q_fieldAddr fo_35_1 rfl rfl) ?_
            refine WD.quiet (i := 12) (d := 34) (by kernel_rfl) rfl (by kernel_rfl) (by kernel_rfl) rfl rfl rfl (q_load1 oneT_3 rfl (rd_zAt hz.pv hA_16506 rfl)) ?_
            refine WD.enter (i := 13) (d := 35) (by kernel_rfl) rfl (by kernel_rfl) (by kernel_rfl) rfl rfl rfl (run_call (l := [.tmp 34]) Try.call27 (.cons rfl .nil)) (fun w hw => by have pz := (hz.call hw (.nil : Sel [stb b_15871 35 [(.int .i64 0), (.int .i64 0)]] [] [stb b_15871 35 [(.int .i64 0), (.int .i64 0)]])); exact w_ref33_In (Z := _)  (t_3741 := ((nth l_13512 i_16397).fHi)) (r := x_16477) w pz  hx_16478) ?_
            refine WD.pure (i := 14) (d := 36) (by kernel_rfl) rfl (by kernel_rfl) (by kernel_rfl) rfl rfl rfl (fun _ => q_not rfl) ?_
            refine WD.pure (i := 15) (d := 37) (by kernel_rfl) rfl (by kernel_rfl) (by kernel_rfl) rfl rfl rfl (fun _ => q_pickF rfl rfl) ?_
            refine WD.reL (.cons .here .nil) ?_ K_16499
            exact (.cons rfl (.cons rfl (.cons rfl (.cons rfl (.cons rfl (.cons rfl (.cons rfl (.cons rfl (.cons rfl (.cons rfl (.cons rfl (.cons rfl (.cons rfl (.cons rfl (.cons rfl (.cons (some_bool (Eq.symm hg_16502)) (.cons (some_bool hq_16503) .nil)))))))))))))))))
        refine WD.pure (i := 16) (d := 38) (by kernel_rfl) rfl (by kernel_rfl) (by kernel_rfl) rfl rfl rfl (fun _ => q_move rfl) ?_
        refine WD.mid (fuel' := 0) [(0, (.slice ao_13513 l_13512.length cap_13514)), (1, (.int .i64 f_13516)), (4, (.pointer (some ⟨b_15871, 0, none⟩))), (6, (.int .i64 i_16397)), (16, (.int .i64 i_16397)), (17, (.slice ao_13513 l_13512.length cap_13514)), (18, (.int .i64 ((l_13512.length : Nat) : Int))), (19, (.bool (decide (i_16397 < ((l_13512.length : Nat) : Int))))), (22, (.slice ao_13513 l_13512.length cap_13514)), (23, (.int .i64 i_16397)), (24, (.pointer (some A_16491))), (25, (.pointer (some (A_16491.add 0)))), (26, (.int .i64 ((nth l_13512 i_16397).fLo))), (27, (.bool x_16470)), (28, (.bool (!x_16470))), (29, (.bool (!x_16470))), (37, (.bool b_16479)), (38, (.bool b_16479)), (50, (.bool (b_16479 || (decide (((nth l_13512 i_16397).fLo) > ((nth l_13512 i_16397).fHi))))))] (listedA 29 [28, 27, 26, 25, 24, 23, 22, 21, 20, 19, 18, 17, 16, 15, 14, 13, 12, 11, 10, 9, 8, 7, 6, 5, 4, 3, 2, 1, 0]) ?_ (fun K_16516 => ?_)
        rotate_left
        · rcases Bool.eq_false_or_eq_true b_16479 with hb' | hb'
          · have hg_16517 := hb'; clear hb'
            refine WD.pin (i := 38) rfl hg_16517 ?_
            refine WD.skip (i := 17) (d := 39) (by kernel_rfl) rfl (by kernel_rfl) (by kernel_rfl) rfl rfl rfl ?_
            refine WD.skip (i := 18) (d := 40) (by kernel_rfl) rfl (by kernel_rfl) (by kernel_rfl) rfl rfl rfl ?_
            refine WD.skip (i := 19) (d := 41) (by kernel_rfl) rfl (by kernel_rfl) (by kernel_rfl) rfl rfl rfl ?_
            refine WD.skip (i := 20) (d := 42) (by kernel_rfl) rfl (by kernel_rfl) (by kernel_rfl) rfl rfl rfl ?_
            refine WD.skip (i := 21) (d := 43) (by kernel_rfl) rfl (by kernel_rfl) (by kernel_rfl) rfl rfl rfl ?_
            refine WD.skip (i := 22) (d := 44) (by kernel_rfl) rfl (by kernel_rfl) (by kernel_rfl) rfl rfl rfl ?_
            refine WD.skip (i := 23) (d := 45) (by kernel_rfl) rfl (by kernel_rfl) (by kernel_rfl) rfl rfl rfl ?_
            refine WD.skip (i := 24) (d := 46) (by kernel_rfl) rfl (by kernel_rfl) (by kernel_rfl) rfl rfl rfl ?_
            refine WD.skip (i := 25) (d := 47) (by kernel_rfl) rfl (by kernel_rfl) (by kernel_rfl) rfl rfl rfl ?_
            refine WD.skip (i := 26) (d := 48) (by kernel_rfl) rfl (by kernel_rfl) (by kernel_rfl) rfl rfl rfl ?_
            refine WD.skip (i := 27) (d := 49) (by kernel_rfl) rfl (by kernel_rfl) (by kernel_rfl) rfl rfl rfl ?_
            refine WD.pure (i := 28) (d := 50) (by kernel_rfl) rfl (by kernel_rfl) (by kernel_rfl) rfl rfl rfl (fun _ => q_pickT rfl rfl) ?_
            refine WD.reL (.cons .here .nil) ?_ K_16516
            exact (.cons rfl (.cons rfl (.cons rfl (.cons rfl (.cons rfl (.cons rfl (.cons rfl (.cons rfl (.cons rfl (.cons rfl (.cons rfl (.cons rfl (.cons rfl (.cons rfl (.cons rfl (.cons rfl (.cons rfl (.cons (some_bool (Eq.symm hg_16517)) (.cons (some_bool (or_l hg_16517)) .nil)))))))))))))))))))
          · have hg_16518 := hb'; clear hb'
            have c_16481 := c_16490 hg_16518
            refine WD.pin (i := 38) rfl hg_16518 ?_
            refine WD.pure (i := 17) (d := 39) (by kernel_rfl) rfl (by kernel_rfl) (by kernel_rfl) rfl rfl rfl (fun _ => q_move rfl) ?_
            refine WD.pure (i := 18) (d := 40) (by kernel_rfl) rfl (by kernel_rfl) (by kernel_rfl) rfl rfl rfl (fun _ => q_move rfl) ?_
            refine WD.znth (j := 19) (dd := 41) (by kernel_rfl) rfl (by kernel_rfl) (by kernel_rfl) rfl rfl (Z := Z) (Pr := (fun r x => r = e35 x)) elT_23 rfl rfl hs_13515 c_16481 ?_
            rintro A_16519 r_16520 hA_16521 hl_16522 rfl
            refine WD.pure (i := 20) (d := 42) (by kernel_rfl) rfl (by kernel_rfl) (by kernel_rfl) rfl rfl rfl (fun _ => q_fieldAddr fo_35_0 rfl rfl) ?_
            refine WD.quiet (i := 21) (d := 43) (by kernel_rfl) rfl (by kernel_rfl) (by kernel_rfl) rfl rfl rfl (q_load1 oneT_3 rfl (rd_zAt hz.pv hA_16521 rfl)) ?_
            refine WD.pure (i := 22) (d := 44) (by kernel_rfl) rfl (by kernel_rfl) (by kernel_rfl) rfl rfl rfl (fun _ => q_move rfl) ?_
            refine WD.pure (i := 23) (d := 45) (by kernel_rfl) rfl (by kernel_rfl) (by kernel_rfl) rfl rfl rfl (fun _ => q_move rfl) ?_
            refine WD.znth (j := 24) (dd := 46) (by kernel_rfl) rfl (by kernel_rfl) (by kernel_rfl) rfl rfl (Z := Z) (Pr := (fun r x => r = e35 x)) elT_23 rfl rfl hs_13515 c_16481 ?_
            rintro A_16523 r_16524 hA_16525 hl_16526 rfl
            refine WD.pure (i := 25) (d := 47) (by kernel_rfl) rfl (by kernel_rfl) (by kernel_rfl) rfl rfl rfl (fun _ => q_fieldAddr fo_35_1 rfl rfl) ?_
            refine WD.quiet (i := 26) (d := 48) (by kernel_rfl) rfl (by kernel_rfl) (by kernel_rfl) rfl rfl rfl (q_load1 oneT_3 rfl (rd_zAt hz.pv hA_16525 rfl)) ?_
            refine WD.pure (i := 27) (d := 49) (by kernel_rfl) rfl (by kernel_rfl) (by kernel_rfl) rfl rfl rfl (fun _ => q_gtr rfl rfl) ?_
            refine WD.pure (i := 28) (d := 50) (by kernel_rfl) rfl (by kernel_rfl) (by kernel_rfl) rfl rfl rfl (fun _ => q_pickF rfl rfl) ?_
            refine WD.reL (.cons .here .nil) ?_ K_16516
            exact (.cons rfl (.cons rfl (.cons rfl (.cons rfl (.cons rfl (.cons rfl (.cons rfl (.cons rfl (.cons rfl (.cons rfl (.cons rfl (.cons rfl (.cons rfl (.cons rfl (.cons rfl (.cons rfl (.cons rfl (.cons (some_bool (Eq.symm hg_16518)) (.cons (some_bool (or_r hg_16518)) .nil)))))))))))))))))))
        refine WD.done (by kernel_rfl) ?_
        refine WX.then ?_
        refine WC.cond rfl (fun hb_16527 => ?_) (fun hb_16527 => ?_)
        · replace h := ite_t h hb_16527
          refine WC.seq ?_
          refine WC.region ?_
          refine WL.quiet (d := 51) rfl rfl rfl (q_build (v := (.agg #[(.int .i64 0), (.int .i64 0)])) (Eos.parts (l := []) .nil []) (fun _ => by kernel_rfl)) ?_
          refine WL.eff0 rfl rfl (e_store (vs := [(.int .i64 0), (.int .i64 0)]) (ds := [(.int .i64 0), (.int .i64 0)]) sizT_35 rfl rfl rfl rfl (oc_cons rfl (oc_cons rfl oc_nil)) .here (Nat.le_of_ble_eq_true rfl) rfl) ?_
          refine WL.quiet (d := 5) rfl rfl rfl (q_assign rfl) ?_
          refine WL.nil ?_
          refine WX.then ?_
          refine WC.ret ?_
          refine WX.blockRet ?_
          refine WX.thenRet ?_
          refine WX.thenRet ?_
          refine WX.blockRet ?_
          refine WX.thenRet ?_
          obtain rfl := Option.some.inj h
          refine WX.bpRet Try.results16 (.agg rfl aggT_35 rfl (rd_all .here) (.tmp rfl .nil)) (fun w hw => ?_)
          exact ⟨ret2 rfl rfl, hw.sub .nil⟩
        · replace h := ite_f h hb_16527
          refine WC.skip ?_
          refine WX.blockNormal ?_
          refine WX.then ?_
          refine WC.region ?_
          refine WL.quiet (d := 20) rfl rfl rfl (q_move rfl) ?_
          refine WL.quiet (d := 21) rfl rfl rfl (q_add rfl rfl rfl) ?_
          refine WL.quiet (d := 6) rfl rfl rfl (q_assign rfl) ?_
          refine WL.nil ?_
          exact WX.round (G := Nat × Int) ⟨n_16399, (i64 (i_16397 + 1))⟩ h (Nat.lt_succ_self _) (.cons rfl (.cons rfl (.cons rfl (.cons rfl .nil)))) (.cons .here .nil)
      · replace h := ite_f h hb_16401
        refine WC.exit ?_
        refine WX.thenExit ?_
        refine WX.thenExit ?_
        refine WX.blockHit ?_
        exact WX.mid (G := Unit) () h (.cons rfl (.cons rfl (.cons rfl .nil))) (.cons .here .nil)
    · rintro  h
      replace h := hk_16267.symm.trans h
      refine WC.seq ?_
      refine WC.region ?_
      refine WL.quiet (d := 52) rfl rfl rfl (q_build (v := (.agg #[(.int .i64 1), (.int .i64 0)])) (Eos.parts (l := [.const (.int .i64 1), .const (.int .i64 0)]) (.cons rfl (.cons rfl .nil)) [0, 1]) (fun _ => by kernel_rfl)) ?_
      refine WL.new (dd := 7) rfl rfl rfl (e_alloc (cs := [(.int .i64 0), (.int .i64 0)]) zeroT_35 rfl) ?_
      intro b_16529 _
      refine WL.eff0 rfl rfl (e_store (vs := [(.int .i64 1), (.int .i64 0)]) (ds := [(.int .i64 1), (.int .i64 0)]) sizT_35 rfl rfl rfl rfl (oc_cons rfl (oc_cons rfl oc_nil)) .here (Nat.le_of_ble_eq_true rfl) rfl) ?_
      refine WL.nil ?_
      refine WX.then ?_
      obtain ⟨k_16946, hk_16947, h⟩ := jp2_elim h
      refine WC.seqMid2 (fun (c_16944 : Int) (c_16945 : Int) => (k_16946 c_16944 c_16945 = some r)) (fun (c_16944 : Int) (c_16945 : Int) => [(0, (.slice ao_13513 l_13512.length cap_13514)), (1, (.int .i64 f_13516)), (4, (.pointer (some ⟨b_15871, 0, none⟩))), (7, (.pointer (some ⟨b_16529, 0, none⟩)))]) (fun (c_16944 : Int) (c_16945 : Int) => [stb b_15871 35 [(.int .i64 0), (.int .i64 0)], stb b_16529 35 [(.int .i64 c_16944), (.int .i64 c_16945)]]) ?_ ?_
      · skip
        refine WC.seq ?_
        refine WC.region ?_
        refine WL.quiet (d := 8) rfl rfl rfl (q_assign rfl) ?_
        refine WL.nil ?_
        refine WX.then ?_
        refine WC.block ?_
        refine WC.loop4 (fun (n_17112 : Nat) (i_17109 : Int) (c_17110 : Int) (c_17111 : Int) => (m_ref33_Meet_L5 l_13512 f_13516 k_16946 n_17112 i_17109 c_17110 c_17111 = some r)) (fun (n_17112 : Nat) (i_17109 : Int) (c_17110 : Int) (c_17111 : Int) => [(0, (.slice ao_13513 l_13512.length cap_13514)), (1, (.int .i64 f_13516)), (4, (.pointer (some ⟨b_15871, 0, none⟩))), (7, (.pointer (some ⟨b_16529, 0, none⟩))), (8, (.int .i64 i_17109))]) (fun (n_17112 : Nat) (i_17109 : Int) (c_17110 : Int) (c_17111 : Int) => [stb b_15871 35 [(.int .i64 0), (.int .i64 0)], stb b_16529 35 [(.int .i64 c_17110), (.int .i64 c_17111)]]) (fun (n_17112 : Nat) (i_17109 : Int) (c_17110 : Int) (c_17111 : Int) => n_17112) ⟨FUEL, 0, 1, 0⟩ h (.cons rfl (.cons rfl (.cons rfl (.cons rfl (.cons rfl .nil))))) (.cons (.there .here) (.cons .here .nil)) ?_
        rintro n_17112 i_17109 c_17110 c_17111 h
        obtain ⟨n_17113, rfl⟩ := m_ref33_Meet_L5_fuel h
        rw [m_ref33_Meet_L5] at h
        refine WC.seq ?_
        refine WC.seq ?_
        refine WC.region ?_
        refine WL.quiet (d := 53) rfl rfl rfl (q_move rfl) ?_
        refine WL.quiet (d := 54) rfl rfl rfl (q_move rfl) ?_
        refine WL.quiet (d := 55) rfl rfl rfl (q_len Try.underlying23 rfl) ?_
        refine WL.quiet (d := 56) rfl rfl rfl (q_lss rfl rfl) ?_
        refine WL.nil ?_
        refine WX.then ?_
        refine WC.cond rfl (fun hb_17115 => ?_) (fun hb_17115 => ?_)
        · replace h := ite_t h hb_17115
          refine WC.skip ?_
          refine WX.then ?_
          obtain ⟨k_17194, hk_17195, h⟩ := jp2_elim h
          refine WC.seqMid2 (fun (c_17192 : Int) (c_17193 : Int) => (k_17194 c_17192 c_17193 = some r)) (fun (c_17192 : Int) (c_17193 : Int) => [(0, (.slice ao_13513 l_13512.length cap_13514)), (1, (.int .i64 f_13516)), (4, (.pointer (some ⟨b_15871, 0, none⟩))), (7, (.pointer (some ⟨b_16529, 0, none⟩))), (8, (.int .i64 i_17109))]) (fun (c_17192 : Int) (c_17193 : Int) => [stb b_15871 35 [(.int .i64 0), (.int .i64 0)], stb b_16529 35 [(.int .i64 c_17192), (.int .i64 c_17193)]]) ?_ ?_
          · skip
            refine WC.block ?_
            refine WC.seq ?_
            obtain ⟨c_17196, h⟩ := chk_elim h
            obtain ⟨x_17201, hx_17202, h⟩ := bind_elim h
            obtain ⟨c_17209, h⟩ := chk_elim h
            refine WC.draw (fun i => [].contains i) [] rfl ?_
            refine WD.pure (i := 0) (d := 59) (by kernel_rfl) rfl (by kernel_rfl) (by kernel_rfl) rfl rfl rfl (fun _ => q_move rfl) ?_
            refine WD.pure (i := 1) (d := 60) (by kernel_rfl) rfl (by kernel_rfl) (by kernel_rfl) rfl rfl rfl (fun _ => q_move rfl) ?_
            refine WD.pure (i := 2) (d := 61) (by kernel_rfl) rfl (by kernel_rfl) (by kernel_rfl) rfl rfl rfl (fun _ => q_move rfl) ?_
            refine WD.pure (i := 3) (d := 62) (by kernel_rfl) rfl (by kernel_rfl) (by kernel_rfl) rfl rfl rfl (fun _ => q_move rfl) ?_
            refine WD.znth (j := 4) (dd := 63) (by kernel_rfl) rfl (by kernel_rfl) (by kernel_rfl) rfl rfl (Z := Z) (Pr := (fun r x => r = e35 x)) elT_23 rfl rfl hs_13515 c_17196 ?_
            rintro A_17210 r_17211 hA_17212 hl_17213 rfl
            refine WD.pure (i := 5) (d := 64) (by kernel_rfl) rfl (by kernel_rfl) (by kernel_rfl) rfl rfl rfl (fun _ => q_fieldAddr fo_35_0 rfl rfl) ?_
            refine WD.quiet (i := 6) (d := 65) (by kernel_rfl) rfl (by kernel_rfl) (by kernel_rfl) rfl rfl rfl (q_load1 oneT_3 rfl (rd_zAt hz.pv hA_17212 rfl)) ?_
            refine WD.enter (i := 7) (d := 66) (by kernel_rfl) rfl (by kernel_rfl) (by kernel_rfl) rfl rfl rfl (run_call (l := [.tmp 59, .tmp 60, .tmp 65]) Try.call38 (.cons rfl (.cons rfl (.cons rfl .nil)))) (fun w hw => by have pz := (hz.call hw (.nil : Sel [stb b_15871 35 [(.int .i64 0), (.int .i64 0)], stb b_16529 35 [(.int .i64 c_17110), (.int .i64 c_17111)]] [] [stb b_15871 35 [(.int .i64 0), (.int .i64 0)], stb b_16529 35 [(.int .i64 c_17110), (.int .i64 c_17111)]])); exact w_ref33_Allowed (Z := _) (ao_14185 := ao_13513) (cap_14186 := cap_13514) (l_14184 := l_13512) (f_14188 := f_13516) (t_14189 := ((nth l_13512 i_17109).fLo)) (r := x_17201) w pz hs_13515 hx_17202) ?_
            refine WD.pure (i := 8) (d := 67) (by kernel_rfl) rfl (by kernel_rfl) (by kernel_rfl) rfl rfl rfl (fun _ => q_move rfl) ?_
            refine WD.mid (fuel' := 0) [(0, (.slice ao_13513 l_13512.length cap_13514)), (1, (.int .i64 f_13516)), (4, (.pointer (some ⟨b_15871, 0, none⟩))), (7, (.pointer (some ⟨b_16529, 0, none⟩))), (8, (.int .i64 i_17109)), (53, (.int .i64 i_17109)), (54, (.slice ao_13513 l_13512.length cap_13514)), (55, (.int .i64 ((l_13512.length : Nat) : Int))), (56, (.bool (decide (i_17109 < ((l_13512.length : Nat) : Int))))), (59, (.slice ao_13513 l_13512.length cap_13514)), (60, (.int .i64 f_13516)), (61, (.slice ao_13513 l_13512.length cap_13514)), (62, (.int .i64 i_17109)), (63, (.pointer (some A_17210))), (64, (.pointer (some (A_17210.add 0)))), (65, (.int .i64 ((nth l_13512 i_17109).fLo))), (66, (.bool x_17201)), (67, (.bool x_17201)), (83, (.bool (x_17201 && ((decide (c_17110 > c_17111)) || (decide (((nth l_13512 i_17109).fLo) < c_17110))))))] (listedA 25 [24, 23, 22, 21, 20, 19, 18, 17, 16, 15, 14, 13, 12, 11, 10, 9, 8, 7, 6, 5, 4, 3, 2, 1, 0]) ?_ (fun K_17225 => ?_)
            rotate_left
            · rcases Bool.eq_false_or_eq_true x_17201 with hb' | hb'
              · have hg_17226 := hb'; clear hb'
                have c_17208 := c_17209 hg_17226
                refine WD.pin (i := 67) rfl hg_17226 ?_
                refine WD.pure (i := 9) (d := 68) (by kernel_rfl) rfl (by kernel_rfl) (by kernel_rfl) rfl rfl rfl (fun _ => q_fieldAddr fo_35_0 rfl rfl) ?_
                refine WD.quiet (i := 10) (d := 69) (by kernel_rfl) rfl (by kernel_rfl) (by kernel_rfl) rfl rfl rfl (q_load1 oneT_3 rfl (rd_stb (.there .here) rfl)) ?_
                refine WD.pure (i := 11) (d := 70) (by kernel_rfl) rfl (by kernel_rfl) (by kernel_rfl) rfl rfl rfl (fun _ => q_fieldAddr fo_35_1 rfl rfl) ?_
                refine WD.quiet (i := 12) (d := 71) (by kernel_rfl) rfl (by kernel_rfl) (by kernel_rfl) rfl rfl rfl (q_load1 oneT_3 rfl (rd_stb (.there .here) rfl)) ?_
                refine WD.pure (i := 13) (d := 72) (by kernel_rfl) rfl (by kernel_rfl) (by kernel_rfl) rfl rfl rfl (fun _ => q_gtr rfl rfl) ?_
                refine WD.pure (i := 14) (d := 73) (by kernel_rfl) rfl (by kernel_rfl) (by kernel_rfl) rfl rfl rfl (fun _ => q_move rfl) ?_
                refine WD.mid (fuel' := 1) [(0, (.slice ao_13513 l_13512.length cap_13514)), (1, (.int .i64 f_13516)), (4, (.pointer (some ⟨b_15871, 0, none⟩))), (7, (.pointer (some ⟨b_16529, 0, none⟩))), (8, (.int .i64 i_17109)), (53, (.int .i64 i_17109)), (54, (.slice ao_13513 l_13512.length cap_13514)), (55, (.int .i64 ((l_13512.length : Nat) : Int))), (56, (.bool (decide (i_17109 < ((l_13512.length : Nat) : Int))))), (59, (.slice ao_13513 l_13512.length cap_13514)), (60, (.int .i64 f_13516)), (61, (.slice ao_13513 l_13512.length cap_13514)), (62, (.int .i64 i_17109)), (63, (.pointer (some A_17210))), (64, (.pointer (some (A_17210.add 0)))), (65, (.int .i64 ((nth l_13512 i_17109).fLo))), (66, (.bool x_17201)), (67, (.bool true)), (68, (.pointer (some ⟨b_16529, 0, none⟩))), (69, (.int .i64 c_17110)), (70, (.pointer (some ⟨b_16529, 1, none⟩))), (71, (.int .i64 c_17111)), (72, (.bool (decide (c_17110 > c_17111)))), (73, (.bool (decide (c_17110 > c_17111)))), (82, (.bool ((decide (c_17110 > c_17111)) || (decide (((nth l_13512 i_17109).fLo) < c_17110)))))] (listedA 25 [23, 22, 21, 20, 19, 18, 17, 16, 15, 14, 13, 12, 11, 10, 9, 8, 7, 6, 5, 4, 3, 2, 1, 0]) ?_ (fun K_17231 => ?_)
                rotate_left
                · rcases Bool.eq_false_or_eq_true (decide (c_17110 > c_17111)) with hb' | hb'
                  · have hg_17232 := hb'; clear hb'
                    refine WD.pin (i := 73) rfl hg_17232 ?_
                    refine WD.skip (i := 15) (d := 74) (by kernel_rfl) rfl (by kernel_rfl) (by kernel_rfl) rfl rfl rfl ?_
                    refine WD.skip (i := 16) (d := 75) (by kernel_rfl) rfl (by kernel_rfl) (by kernel_rfl) rfl rfl rfl ?_
                    refine WD.skip (i := 17) (d := 76) (by kernel_rfl) rfl (by kernel_rfl) (by kernel_rfl) rfl rfl rfl ?_
                    refine WD.skip (i := 18) (d := 77) (by kernel_rfl) rfl (by kernel_rfl) (by kernel_rfl) rfl rfl rfl ?_
                    refine WD.skip (i := 19) (d := 78) (by kernel_rfl) rfl (by kernel_rfl) (by kernel_rfl) rfl rfl rfl ?_
                    refine WD.skip (i := 20) (d := 79) (by kernel_rfl) rfl (by kernel_rfl) (by kernel_rfl) rfl rfl rfl ?_
                    refine WD.skip (i := 21) (d := 80) (by kernel_rfl) rfl (by kernel_rfl) (by kernel_rfl) rfl rfl rfl ?_
                    refine WD.skip (i := 22) (d := 81) (by kernel_rfl) rfl (by kernel_rfl) (by kernel_rfl) rfl rfl rfl ?_
                    refine WD.pure (i := 23) (d := 82) (by kernel_rfl) rfl (by kernel_rfl) (by kernel_rfl) rfl rfl rfl (fun _ => q_pickT rfl rfl) ?_
                    refine WD.reL (.cons .here (.cons .here .nil)) ?_ K_17231
                    exact (.cons rfl (.cons rfl (.cons rfl (.cons rfl (.cons rfl (.cons rfl (.cons rfl (.cons rfl (.cons rfl (.cons rfl (.cons rfl (.cons rfl (.cons rfl (.cons rfl (.cons rfl (.cons rfl (.cons rfl (.cons rfl (.cons rfl (.cons rfl (.cons rfl (.cons rfl (.cons rfl (.cons (some_bool (Eq.symm hg_17232)) (.cons (some_bool (or_l hg_17232)) .nil)))))))))))))))))))))))))
                  · have hg_17233 := hb'; clear hb'
                    have c_17203 := c_17208 hg_17233
                    refine WD.pin (i := 73) rfl hg_17233 ?_
                    refine WD.pure (i := 15) (d := 74) (by kernel_rfl) rfl (by kernel_rfl) (by kernel_rfl) rfl rfl rfl (fun _ => q_move rfl) ?_
                    refine WD.pure (i := 16) (d := 75) (by kernel_rfl) rfl (by kernel_rfl) (by kernel_rfl) rfl rfl rfl (fun _ => q_move rfl) ?_
                    refine WD.znth (j := 17) (dd := 76) (by kernel_rfl) rfl (by kernel_rfl) (by kernel_rfl) rfl rfl (Z := Z) (Pr := (fun r x => r = e35 x)) elT_23 rfl rfl hs_13515 c_17203 ?_
                    rintro A_17234 r_17235 hA_17236 hl_17237 rfl
                    refine WD.pure (i := 18) (d := 77) (by kernel_rfl) rfl (by kernel_rfl) (by kernel_rfl) rfl rfl rfl (fun _ => q_fieldAddr fo_35_0 rfl rfl) ?_
                    refine WD.quiet (i := 19) (d := 78) (by kernel_rfl) rfl (by kernel_rfl) (by kernel_rfl) rfl rfl rfl (q_load1 oneT_3 rfl (rd_zAt hz.pv hA_17236 rfl)) ?_
                    refine WD.pure (i := 20) (d := 79) (by kernel_rfl) rfl (by kernel_rfl) (by kernel_rfl) rfl rfl rfl (fun _ => q_fieldAddr fo_35_0 rfl rfl) ?_
                    refine WD.quiet (i := 21) (d := 80) (by kernel_rfl) rfl (by kernel_rfl) (by kernel_rfl) rfl rfl rfl (q_load1 oneT_3 rfl (rd_stb (.there .here) rfl)) ?_
                    refine WD.pure (i := 22) (d := 81) (by kernel_rfl) rfl (by kernel_rfl) (by kernel_rfl) rfl rfl rfl (fun _ => q_lss rfl rfl) ?_
                    refine WD.pure (i := 23) (d := 82) (by kernel_rfl) rfl (by kernel_rfl) (by kernel_rfl) rfl rfl rfl (fun _ => q_pickF rfl rfl) ?_
                    refine WD.reL (.cons .here (.cons .here .nil)) ?_ K_17231
                    exact (.cons rfl (.cons rfl (.cons rfl (.cons rfl (.cons rfl (.cons rfl (.cons rfl (.cons rfl (.cons rfl (.cons rfl (.cons rfl (.cons rfl (.cons rfl (.cons rfl (.cons rfl (.cons rfl (.cons rfl (.cons rfl (.cons rfl (.cons rfl (.cons rfl (.cons rfl (.cons rfl (.cons (some_bool (Eq.symm hg_17233)) (.cons (some_bool (or_r hg_17233)) .nil)))))))))))))))))))))))))
                refine WD.pure (i := 24) (d := 83) (by kernel_rfl) rfl (by kernel_rfl) (by kernel_rfl) rfl rfl rfl (fun _ => q_pickT rfl rfl) ?_
                refine WD.reL (.cons .here (.cons .here .nil)) ?_ K_17225
                exact (.cons rfl (.cons rfl (.cons rfl (.cons rfl (.cons rfl (.cons rfl (.cons rfl (.cons rfl (.cons rfl (.cons rfl (.cons rfl (.cons rfl (.cons rfl (.cons rfl (.cons rfl (.cons rfl (.cons rfl (.cons (some_bool (Eq.symm hg_17226)) (.cons (some_bool (and_r hg_17226)) .nil)))))))))))))))))))
              · have hg_17238 := hb'; clear hb'
                refine WD.pin (i := 67) rfl hg_17238 ?_
                refine WD.skip (i := 9) (d := 68) (by kernel_rfl) rfl (by kernel_rfl) (by kernel_rfl) rfl rfl rfl ?_
                refine WD.skip (i := 10) (d := 69) (by kernel_rfl) rfl (by kernel_rfl) (by kernel_rfl) rfl rfl rfl ?_
                refine WD.skip (i := 11) (d := 70) (by kernel_rfl) rfl (by kernel_rfl) (by kernel_rfl) rfl rfl rfl ?_
                refine WD.skip (i := 12) (d := 71) (by kernel_rfl) rfl (by kernel_rfl) (by kernel_rfl) rfl rfl rfl ?_
                refine WD.skip (i := 13) (d := 72) (by kernel_rfl) rfl (by kernel_rfl) (by kernel_rfl) rfl rfl rfl ?_
                refine WD.skip (i := 14) (d := 73) (by kernel_rfl) rfl (by kernel_rfl) (by kernel_rfl) rfl rfl rfl ?_
                refine WD.skip (i := 15) (d := 74) (by kernel_rfl) rfl (by kernel_rfl) (by kernel_rfl) rfl rfl rfl ?_
                refine WD.skip (i := 16) (d := 75) (by kernel_rfl) rfl (by kernel_rfl) (by kernel_rfl) rfl rfl rfl ?_
                refine WD.skip (i := 17) (d := 76) (by kernel_rfl) rfl (by kernel_rfl) (by kernel_rfl) rfl rfl rfl ?_
                refine WD.skip (i := 18) (d := 77) (by kernel_rfl) rfl (by kernel_rfl) (by kernel_rfl) rfl rfl rfl ?_
                refine WD.skip (i := 19) (d := 78) (by kernel_rfl) rfl (by kernel_rfl) (by kernel_rfl) rfl rfl rfl ?_
                refine WD.skip (i := 20) (d := 79) (by kernel_rfl) rfl (by kernel_rfl) (by kernel_rfl) rfl rfl rfl ?_
                refine WD.skip (i := 21) (d := 80) (by kernel_rfl) rfl (by kernel_rfl) (by kernel_rfl) rfl rfl rfl ?_
                refine WD.skip (i := 22) (d := 81) (by kernel_rfl) rfl (by kernel_rfl) (by kernel_rfl) rfl rfl rfl ?_
                refine WD.skip (i := 23) (d := 82) (by kernel_rfl) rfl (by kernel_rfl) (by kernel_rfl) rfl rfl rfl ?_
                refine WD.pure (i := 24) (d := 83) (by kernel_rfl) rfl (by kernel_rfl) (by kernel_rfl) rfl rfl rfl (fun _ => q_pickF rfl rfl) ?_
                refine WD.reL (.cons .here (.cons .here .nil)) ?_ K_17225
                exact (.cons rfl (.cons rfl (.cons rfl (.cons rfl (.cons rfl (.cons rfl (.cons rfl (.cons rfl (.cons rfl (.cons rfl (.cons rfl (.cons rfl (.cons rfl (.cons rfl (.cons rfl (.cons rfl (.cons rfl (.cons (some_bool (Eq.symm hg_17238)) (.cons (some_bool (and_l hg_17238)) .nil)))))))))))))))))))
            refine WD.done (by kernel_rfl) ?_
            refine WX.then ?_
            refine WC.cond rfl (fun hb_17239 => ?_) (fun hb_17239 => ?_)
            · replace h := ite_t h hb_17239
              obtain ⟨k_17251, hk_17252, h⟩ := jp1_elim h
              refine WC.seqMid1 (fun (c_17250 : Int) => (k_17251 c_17250 = some r)) (fun (c_17250 : Int) => [(0, (.slice ao_13513 l_13512.length cap_13514)), (1, (.int .i64 f_13516)), (4, (.pointer (some ⟨b_15871, 0, none⟩))), (7, (.pointer (some ⟨b_16529, 0, none⟩))), (8, (.int .i64 i_17109))]) (fun (c_17250 : Int) => [stb b_15871 35 [(.int .i64 0), (.int .i64 0)], stb b_16529 35 [(.int .i64 c_17110), (.int .i64 c_17250)]]) ?_ ?_
              · skip
                refine WC.seq ?_
                refine WC.region ?_
                refine WL.quiet (d := 84) rfl rfl rfl (q_fieldAddr fo_35_0 rfl rfl) ?_
                refine WL.quiet (d := 85) rfl rfl rfl (q_load1 oneT_3 rfl (rd_stb (.there .here) rfl)) ?_
                refine WL.quiet (d := 86) rfl rfl rfl (q_fieldAddr fo_35_1 rfl rfl) ?_
                refine WL.quiet (d := 87) rfl rfl rfl (q_load1 oneT_3 rfl (rd_stb (.there .here) rfl)) ?_
                refine WL.quiet (d := 88) rfl rfl rfl (q_gtr rfl rfl) ?_
                refine WL.nil ?_
                refine WX.then ?_
                refine WC.cond rfl (fun hb_17253 => ?_) (fun hb_17253 => ?_)
                · replace h := ite_t h hb_17253
                  obtain ⟨c_17254, h⟩ := chk_elim h
                  refine WC.region ?_
                  refine WL.quiet (d := 89) rfl rfl rfl (q_move rfl) ?_
                  refine WL.quiet (d := 90) rfl rfl rfl (q_move rfl) ?_
                  refine WL.znth (dd := 91) rfl rfl (Z := Z) (Pr := (fun r x => r = e35 x)) elT_23 rfl rfl hs_13515 c_17254 ?_
                  rintro A_17259 r_17260 hA_17261 hl_17262 rfl
                  refine WL.quiet (d := 92) rfl rfl rfl (q_fieldAddr fo_35_0 rfl rfl) ?_
                  refine WL.quiet (d := 93) rfl rfl rfl (q_load1 oneT_3 rfl (rd_zAt hz.pv hA_17261 rfl)) ?_
                  refine WL.quiet (d := 94) rfl rfl rfl (q_fieldAddr fo_35_1 rfl rfl) ?_
                  refine WL.eff0 rfl rfl (e_store (vs := [(.int .i64 ((nth l_13512 i_17109).fLo))]) (ds := [(.int .i64 c_17110), (.int .i64 ((nth l_13512 i_17109).fLo))]) sizT_3 rfl rfl rfl rfl (oc_cons rfl oc_nil) (.there .here) (Nat.le_of_ble_eq_true rfl) rfl) ?_
                  refine WL.nil ?_
                  exact WX.mid (G := Int) ((nth l_13512 i_17109).fLo) h (.cons rfl (.cons rfl (.cons rfl (.cons rfl (.cons rfl .nil))))) (.cons (.there .here) (.cons .here .nil))
                · replace h := ite_f h hb_17253
                  refine WC.skip ?_
                  exact WX.mid (G := Int) c_17111 h (.cons rfl (.cons rfl (.cons rfl (.cons rfl (.cons rfl .nil))))) (.cons .here (.cons .here .nil))
              · rintro c_17250 h
                replace h := (hk_17252 c_17250).symm.trans h
                obtain ⟨c_17263, h⟩ := chk_elim h
                refine WC.region ?_
                refine WL.quiet (d := 95) rfl rfl rfl (q_move rfl) ?_
                refine WL.quiet (d := 96) rfl rfl rfl (q_move rfl) ?_
                refine WL.znth (dd := 97) rfl rfl (Z := Z) (Pr := (fun r x => r = e35 x)) elT_23 rfl rfl hs_13515 c_17263 ?_
                rintro A_17268 r_17269 hA_17270 hl_17271 rfl
                refine WL.quiet (d := 98) rfl rfl rfl (q_fieldAddr fo_35_0 rfl rfl) ?_
                refine WL.quiet (d := 99) rfl rfl rfl (q_load1 oneT_3 rfl (rd_zAt hz.pv hA_17270 rfl)) ?_
                refine WL.quiet (d := 100) rfl rfl rfl (q_fieldAddr fo_35_0 rfl rfl) ?_
                refine WL.eff0 rfl rfl (e_store (vs := [(.int .i64 ((nth l_13512 i_17109).fLo))]) (ds := [(.int .i64 ((nth l_13512 i_17109).fLo)), (.int .i64 c_17250)]) sizT_3 rfl rfl rfl rfl (oc_cons rfl oc_nil) (.there .here) (Nat.le_of_ble_eq_true rfl) rfl) ?_
                refine WL.nil ?_
                refine WX.blockNormal ?_
                exact WX.mid (G := Int × Int) ⟨((nth l_13512 i_17109).fLo), c_17250⟩ h (.cons rfl (.cons rfl (.cons rfl (.cons rfl (.cons rfl .nil))))) (.cons (.there .here) (.cons .here .nil))
            · replace h := ite_f h hb_17239
              refine WC.skip ?_
              refine WX.blockNormal ?_
              exact WX.mid (G := Int × Int) ⟨c_17110, c_17111⟩ h (.cons rfl (.cons rfl (.cons rfl (.cons rfl (.cons rfl .nil))))) (.cons .here (.cons .here .nil))
          · rintro c_17192 c_17193 h
            replace h := (hk_17195 c_17192 c_17193).symm.trans h
            refine WC.region ?_
            refine WL.quiet (d := 57) rfl rfl rfl (q_move rfl) ?_
            refine WL.quiet (d := 58) rfl rfl rfl (q_add rfl rfl rfl) ?_
            refine WL.quiet (d := 8) rfl rfl rfl (q_assign rfl) ?_
            refine WL.nil ?_
            exact WX.round (G := Nat × Int × Int × Int) ⟨n_17113, (i64 (i_17109 + 1)), c_17192, c_17193⟩ h (Nat.lt_succ_self _) (.cons rfl (.cons rfl (.cons rfl (.cons rfl (.cons rfl .nil))))) (.cons .here (.cons .here .nil))
        · replace h := ite_f h hb_17115
          refine WC.exit ?_
          refine WX.thenExit ?_
          refine WX.thenExit ?_
          refine WX.blockHit ?_
          exact WX.mid (G := Int × Int) ⟨c_17110, c_17111⟩ h (.cons rfl (.cons rfl (.cons rfl (.cons rfl .nil)))) (.cons .here (.cons .here .nil))
      · rintro c_16944 c_16945 h
        replace h := (hk_16947 c_16944 c_16945).symm.trans h
        refine WC.seq ?_
        refine WC.seq ?_
        refine WC.region ?_
        refine WL.quiet (d := 101) rfl rfl rfl (q_fieldAddr fo_35_0 rfl rfl) ?_
        refine WL.quiet (d := 102) rfl rfl rfl (q_load1 oneT_3 rfl (rd_stb (.there .here) rfl)) ?_
        refine WL.quiet (d := 103) rfl rfl rfl (q_fieldAddr fo_35_1 rfl rfl) ?_
        refine WL.quiet (d := 104) rfl rfl rfl (q_load1 oneT_3 rfl (rd_stb (.there .here) rfl)) ?_
        refine WL.quiet (d := 105) rfl rfl rfl (q_gtr rfl rfl) ?_
        refine WL.nil ?_
        refine WX.then ?_
        refine WC.cond rfl (fun hb_17273 => ?_) (fun hb_17273 => ?_)
        · replace h := ite_t h hb_17273
          refine WC.seq ?_
          refine WC.region ?_
          refine WL.quiet (d := 106) rfl rfl rfl (q_build (v := (.agg #[(.int .i64 0), (.int .i64 0)])) (Eos.parts (l := []) .nil []) (fun _ => by kernel_rfl)) ?_
          refine WL.eff0 rfl rfl (e_store (vs := [(.int .i64 0), (.int .i64 0)]) (ds := [(.int .i64 0), (.int .i64 0)]) sizT_35 rfl rfl rfl rfl (oc_cons rfl (oc_cons rfl oc_nil)) .here (Nat.le_of_ble_eq_true rfl) rfl) ?_
          refine WL.quiet (d := 5) rfl rfl rfl (q_assign rfl) ?_
          refine WL.nil ?_
          refine WX.then ?_
          refine WC.ret ?_
          refine WX.thenRet ?_
          obtain rfl := Option.some.inj h
          refine WX.bpRet Try.results16 (.agg rfl aggT_35 rfl (rd_all .here) (.tmp rfl .nil)) (fun w hw => ?_)
          exact ⟨ret2 rfl rfl, hw.sub .nil⟩
        · replace h := ite_f h hb_17273
          refine WC.skip ?_
          refine WX.then ?_
          obtain ⟨k_17524, hk_17525, h⟩ := jp1_elim h
          refine WC.seqMid1 (fun (c_17523 : Int) => (k_17524 c_17523 = some r)) (fun (c_17523 : Int) => [(4, (.pointer (some ⟨b_15871, 0, none⟩))), (7, (.pointer (some ⟨b_16529, 0, none⟩)))]) (fun (c_17523 : Int) => [stb b_15871 35 [(.int .i64 0), (.int .i64 0)], stb b_16529 35 [(.int .i64 c_16944), (.int .i64 c_17523)]]) ?_ ?_
          · skip
            refine WC.seq ?_
            refine WC.region ?_
            refine WL.quiet (d := 9) rfl rfl rfl (q_assign rfl) ?_
            refine WL.nil ?_
            refine WX.then ?_
            refine WC.block ?_
            refine WC.loop3 (fun (n_17611 : Nat) (i_17609 : Int) (c_17610 : Int) => (m_ref33_Meet_L6 l_13512 f_13516 k_17524 n_17611 i_17609 c_17610 = some r)) (fun (n_17611 : Nat) (i_17609 : Int) (c_17610 : Int) => [(0, (.slice ao_13513 l_13512.length cap_13514)), (1, (.int .i64 f_13516)), (4, (.pointer (some ⟨b_15871, 0, none⟩))), (7, (.pointer (some ⟨b_16529, 0, none⟩))), (9, (.int .i64 i_17609))]) (fun (n_17611 : Nat) (i_17609 : Int) (c_17610 : Int) => [stb b_15871 35 [(.int .i64 0), (.int .i64 0)], stb b_16529 35 [(.int .i64 c_16944), (.int .i64 c_17610)]]) (fun (n_17611 : Nat) (i_17609 : Int) (c_17610 : Int) => n_17611) ⟨FUEL, 0, c_16945⟩ h (.cons rfl (.cons rfl (.cons rfl (.cons rfl (.cons rfl .nil))))) (.cons .here (.cons .here .nil)) ?_
            rintro n_17611 i_17609 c_17610 h
            obtain ⟨n_17612, rfl⟩ := m_ref33_Meet_L6_fuel h
            rw [m_ref33_Meet_L6] at h
            refine WC.seq ?_
            refine WC.seq ?_
            refine WC.region ?_
            refine WL.quiet (d := 107) rfl rfl rfl (q_move rfl) ?_
            refine WL.quiet (d := 108) rfl rfl rfl (q_move rfl) ?_
            refine WL.quiet (d := 109) rfl rfl rfl (q_len Try.underlying23 rfl) ?_
            refine WL.quiet (d := 110) rfl rfl rfl (q_lss rfl rfl) ?_
            refine WL.nil ?_
            refine WX.then ?_
            refine WC.cond rfl (fun hb_17614 => ?_) (fun hb_17614 => ?_)
            · replace h := ite_t h hb_17614
              refine WC.skip ?_
              refine WX.then ?_
              obtain ⟨k_17654, hk_17655, h⟩ := jp1_elim h
              refine WC.seqMid1 (fun (c_17653 : Int) => (k_17654 c_17653 = some r)) (fun (c_17653 : Int) => [(0, (.slice ao_13513 l_13512.length cap_13514)), (1, (.int .i64 f_13516)), (4, (.pointer (some ⟨b_15871, 0, none⟩))), (7, (.pointer (some ⟨b_16529, 0, none⟩))), (9, (.int .i64 i_17609))]) (fun (c_17653 : Int) => [stb b_15871 35 [(.int .i64 0), (.int .i64 0)], stb b_16529 35 [(.int .i64 c_16944), (.int .i64 c_17653)]]) ?_ ?_
              · skip
                refine WC.block ?_
                refine WC.seq ?_
                obtain ⟨c_17656, h⟩ := chk_elim h
                obtain ⟨x_17661, hx_17662, h⟩ := bind_elim h
                obtain ⟨c_17668, h⟩ := chk_elim h
                refine WC.draw (fun i => [].contains i) [] rfl ?_
                refine WD.pure (i := 0) (d := 113) (by kernel_rfl) rfl (by kernel_rfl) (by kernel_rfl) rfl rfl rfl (fun _ => q_move rfl) ?_
                refine WD.pure (i := 1) (d := 114) (by kernel_rfl) rfl (by kernel_rfl) (by kernel_rfl) rfl rfl rfl (fun _ => q_move rfl) ?_
                refine WD.pure (i := 2) (d := 115) (by kernel_rfl) rfl (by kernel_rfl) (by kernel_rfl) rfl rfl rfl (fun _ => q_move rfl) ?_
                refine WD.pure (i := 3) (d := 116) (by kernel_rfl) rfl (by kernel_rfl) (by kernel_rfl) rfl rfl rfl (fun _ => q_move rfl) ?_
                refine WD.znth (j := 4) (dd := 117) (by kernel_rfl) rfl (by kernel_rfl) (by kernel_rfl) rfl rfl (Z := Z) (Pr := (fun r x => r = e35 x)) elT_23 rfl rfl hs_13515 c_17656 ?_
                rintro A_17669 r_17670 hA_17671 hl_17672 rfl
                refine WD.pure (i := 5) (d := 118) (by kernel_rfl) rfl (by kernel_rfl) (by kernel_rfl) rfl rfl rfl (fun _ => q_fieldAddr fo_35_1 rfl rfl) ?_
                refine WD.quiet (i := 6) (d := 119) (by kernel_rfl) rfl (by kernel_rfl) (by kernel_rfl) rfl rfl rfl (q_load1 oneT_3 rfl (rd_zAt hz.pv hA_17671 rfl)) ?_
                refine WD.enter (i := 7) (d := 120) (by kernel_rfl) rfl (by kernel_rfl) (by kernel_rfl) rfl rfl rfl (run_call (l := [.tmp 113, .tmp 114, .tmp 119]) Try.call38 (.cons rfl (.cons rfl (.cons rfl .nil)))) (fun w hw => by have pz := (hz.call hw (.nil : Sel [stb b_15871 35 [(.int .i64 0), (.int .i64 0)], stb b_16529 35 [(.int .i64 c_16944), (.int .i64 c_17610)]] [] [stb b_15871 35 [(.int .i64 0), (.int .i64 0)], stb b_16529 35 [(.int .i64 c_16944), (.int .i64 c_17610)]])); exact w_ref33_Allowed (Z := _) (ao_14185 := ao_13513) (cap_14186 := cap_13514) (l_14184 := l_13512) (f_14188 := f_13516) (t_14189 := ((nth l_13512 i_17609).fHi)) (r := x_17661) w pz hs_13515 hx_17662) ?_
                refine WD.pure (i := 8) (d := 121) (by kernel_rfl) rfl (by kernel_rfl) (by kernel_rfl) rfl rfl rfl (fun _ => q_move rfl) ?_
                refine WD.mid (fuel' := 0) [(0, (.slice ao_13513 l_13512.length cap_13514)), (1, (.int .i64 f_13516)), (4, (.pointer (some ⟨b_15871, 0, none⟩))), (7, (.pointer (some ⟨b_16529, 0, none⟩))), (9, (.int .i64 i_17609)), (107, (.int .i64 i_17609)), (108, (.slice ao_13513 l_13512.length cap_13514)), (109, (.int .i64 ((l_13512.length : Nat) : Int))), (110, (.bool (decide (i_17609 < ((l_13512.length : Nat) : Int))))), (113, (.slice ao_13513 l_13512.length cap_13514)), (114, (.int .i64 f_13516)), (115, (.slice ao_13513 l_13512.length cap_13514)), (116, (.int .i64 i_17609)), (117, (.pointer (some A_17669))), (118, (.pointer (some (A_17669.add 1)))), (119, (.int .i64 ((nth l_13512 i_17609).fHi))), (120, (.bool x_17661)), (121, (.bool x_17661)), (130, (.bool (x_17661 && (decide (((nth l_13512 i_17609).fHi) > c_17610)))))] (listedA 18 [17, 16, 15, 14, 13, 12, 11, 10, 9, 8, 7, 6, 5, 4, 3, 2, 1, 0]) ?_ (fun K_17677 => ?_)
                rotate_left
                · rcases Bool.eq_false_or_eq_true x_17661 with hb' | hb'
                  · have hg_17678 := hb'; clear hb'
                    have c_17663 := c_17668 hg_17678
                    refine WD.pin (i := 121) rfl hg_17678 ?_
                    refine WD.pure (i := 9) (d := 122) (by kernel_rfl) rfl (by kernel_rfl) (by kernel_rfl) rfl rfl rfl (fun _ => q_move rfl) ?_
                    refine WD.pure (i := 10) (d := 123) (by kernel_rfl) rfl (by kernel_rfl) (by kernel_rfl) rfl rfl rfl (fun _ => q_move rfl) ?_
                    refine WD.znth (j := 11) (dd := 124) (by kernel_rfl) rfl (by kernel_rfl) (by kernel_rfl) rfl rfl (Z := Z) (Pr := (fun r x => r = e35 x)) elT_23 rfl rfl hs_13515 c_17663 ?_
                    rintro A_17679 r_17680 hA_17681 hl_17682 rfl
                    refine WD.pure (i := 12) (d := 125) (by kernel_rfl) rfl (by kernel_rfl) (by kernel_rfl) rfl rfl rfl (fun _ => q_fieldAddr fo_35_1 rfl rfl) ?_
                    refine WD.quiet (i := 13) (d := 126) (by kernel_rfl) rfl (by kernel_rfl) (by kernel_rfl) rfl rfl rfl (q_load1 oneT_3 rfl (rd_zAt hz.pv hA_17681 rfl)) ?_
                    refine WD.pure (i := 14) (d := 127) (by kernel_rfl) rfl (by kernel_rfl) (by kernel_rfl) rfl rfl rfl (fun _ => q_fieldAddr fo_35_1 rfl rfl) ?_
                    refine WD.quiet (i := 15) (d := 128) (by kernel_rfl) rfl (by kernel_rfl) (by kernel_rfl) rfl rfl rfl (q_load1 oneT_3 rfl (rd_stb (.there .here) rfl)) ?_
                    refine WD.pure (i := 16) (d := 129) (by kernel_rfl) rfl (by kernel_rfl) (by kernel_rfl) rfl rfl rfl (fun _ => q_gtr rfl rfl) ?_
                    refine WD.pure (i := 17) (d := 130) (by kernel_rfl) rfl (by kernel_rfl) (by kernel_rfl) rfl rfl rfl (fun _ => q_pickT rfl rfl) ?_
                    refine WD.reL (.cons .here (.cons .here .nil)) ?_ K_17677
                    exact (.cons rfl (.cons rfl (.cons rfl (.cons rfl (.cons rfl (.cons rfl (.cons rfl (.cons rfl (.cons rfl (.cons rfl (.cons rfl (.cons rfl (.cons rfl (.cons rfl (.cons rfl (.cons rfl (.cons rfl (.cons (some_bool (Eq.symm hg_17678)) (.cons (some_bool (and_r hg_17678)) .nil)))))))))))))))))))
                  · have hg_17683 := hb'; clear hb'
                    refine WD.pin (i := 121) rfl hg_17683 ?_
                    refine WD.skip (i := 9) (d := 122) (by kernel_rfl) rfl (by kernel_rfl) (by kernel_rfl) rfl rfl rfl ?_
                    refine WD.skip (i := 10) (d := 123) (by kernel_rfl) rfl (by kernel_rfl) (by kernel_rfl) rfl rfl rfl ?_
                    refine WD.skip (i := 11) (d := 124) (by kernel_rfl) rfl (by kernel_rfl) (by kernel_rfl) rfl rfl rfl ?_
                    refine WD.skip (i := 12) (d := 125) (by kernel_rfl) rfl (by kernel_rfl) (by kernel_rfl) rfl rfl rfl ?_
                    refine WD.skip (i := 13) (d := 126) (by kernel_rfl) rfl (by kernel_rfl) (by kernel_rfl) rfl rfl rfl ?_
                    refine WD.skip (i := 14) (d := 127) (by kernel_rfl) rfl (by kernel_rfl) (by kernel_rfl) rfl rfl rfl ?_
                    refine WD.skip (i := 15) (d := 128) (by kernel_rfl) rfl (by kernel_rfl) (by kernel_rfl) rfl rfl rfl ?_
                    refine WD.skip (i := 16) (d := 129) (by kernel_rfl) rfl (by kernel_rfl) (by kernel_rfl) rfl rfl rfl ?_
                    refine WD.pure (i := 17) (d := 130) (by kernel_rfl) rfl (by kernel_rfl) (by kernel_rfl) rfl rfl rfl (fun _ => q_pickF rfl rfl) ?_
                    refine WD.reL (.cons .here (.cons .here .nil)) ?_ K_17677
                    exact (.cons rfl (.cons rfl (.cons rfl (.cons rfl (.cons rfl (.cons rfl (.cons rfl (.cons rfl (.cons rfl (.cons rfl (.cons rfl (.cons rfl (.cons rfl (.cons rfl (.cons rfl (.cons rfl (.cons rfl (.cons (some_bool (Eq.symm hg_17683)) (.cons (some_bool (and_l hg_17683)) .nil)))))))))))))))))))
                refine WD.done (by kernel_rfl) ?_
                refine WX.then ?_
                refine WC.cond rfl (fun hb_17684 => ?_) (fun hb_17684 => ?_)
                · replace h := ite_t h hb_17684
                  obtain ⟨c_17685, h⟩ := chk_elim h
                  refine WC.region ?_
                  refine WL.quiet (d := 131) rfl rfl rfl (q_move rfl) ?_
                  refine WL.quiet (d := 132) rfl rfl rfl (q_move rfl) ?_
                  refine WL.znth (dd := 133) rfl rfl (Z := Z) (Pr := (fun r x => r = e35 x)) elT_23 rfl rfl hs_13515 c_17685 ?_
                  rintro A_17690 r_17691 hA_17692 hl_17693 rfl
                  refine WL.quiet (d := 134) rfl rfl rfl (q_fieldAddr fo_35_1 rfl rfl) ?_
                  refine WL.quiet (d := 135) rfl rfl rfl (q_load1 oneT_3 rfl (rd_zAt hz.pv hA_17692 rfl)) ?_
                  refine WL.quiet (d := 136) rfl rfl rfl (q_fieldAddr fo_35_1 rfl rfl) ?_
                  refine WL.eff0 rfl rfl (e_store (vs := [(.int .i64 ((nth l_13512 i_17609).fHi))]) (ds := [(.int .i64 c_16944), (.int .i64 ((nth l_13512 i_17609).fHi))]) sizT_3 rfl rfl rfl rfl (oc_cons rfl oc_nil) (.there .here) (Nat.le_of_ble_eq_true rfl) rfl) ?_
                  refine WL.nil ?_
                  refine WX.blockNormal ?_
                  exact WX.mid (G := Int) ((nth l_13512 i_17609).fHi) h (.cons rfl (.cons rfl (.cons rfl (.cons rfl (.cons rfl .nil))))) (.cons (.there .here) (.cons .here .nil))
                · replace h := ite_f h hb_17684
                  refine WC.skip ?_
                  refine WX.blockNormal ?_
                  exact WX.mid (G := Int) c_17610 h (.cons rfl (.cons rfl (.cons rfl (.cons rfl (.cons rfl .nil))))) (.cons .here (.cons .here .nil))
              · rintro c_17653 h
                replace h := (hk_17655 c_17653).symm.trans h
                refine WC.region ?_
                refine WL.quiet (d := 111) rfl rfl rfl (q_move rfl) ?_
                refine WL.quiet (d := 112) rfl rfl rfl (q_add rfl rfl rfl) ?_
                refine WL.quiet (d := 9) rfl rfl rfl (q_assign rfl) ?_
                refine WL.nil ?_
                exact WX.round (G := Nat × Int × Int) ⟨n_17612, (i64 (i_17609 + 1)), c_17653⟩ h (Nat.lt_succ_self _) (.cons rfl (.cons rfl (.cons rfl (.cons rfl (.cons rfl .nil))))) (.cons .here (.cons .here .nil))
            · replace h := ite_f h hb_17614
              refine WC.exit ?_
              refine WX.thenExit ?_
              refine WX.thenExit ?_
              refine WX.blockHit ?_
              exact WX.mid (G := Int) c_17610 h (.cons rfl (.cons rfl .nil)) (.cons .here (.cons .here .nil))
          · rintro c_17523 h
            replace h := (hk_17525 c_17523).symm.trans h
            refine WC.seq ?_
            refine WC.region ?_
            refine WL.quiet (d := 137) rfl rfl rfl (q_loadA (cs := [(.int .i64 c_16944), (.int .i64 c_17523)]) aggT_35 rfl rfl (rd_all (.there .here))) ?_
            refine WL.eff0 rfl rfl (e_store (vs := [(.int .i64 c_16944), (.int .i64 c_17523)]) (ds := [(.int .i64 c_16944), (.int .i64 c_17523)]) sizT_35 rfl rfl rfl rfl (oc_cons rfl (oc_cons rfl oc_nil)) .here (Nat.le_of_ble_eq_true rfl) rfl) ?_
            refine WL.quiet (d := 5) rfl rfl rfl (q_assign rfl) ?_
            refine WL.nil ?_
            refine WX.then ?_
            refine WC.ret ?_
            obtain rfl := Option.some.inj h
            refine WX.bpRet Try.results16 (.agg rfl aggT_35 rfl (rd_all .here) (.tmp rfl .nil)) (fun w hw => ?_)
            exact ⟨ret2 rfl rfl, hw.sub .nil⟩
def m_law33_times_L2 (l_17795 : List Int) (f_17799 : Int) (k_18342 : (List Int) → Option (List Int)) : Nat → (List Int) → Int → Option (List Int)
  | 0, _, _ => none
  | n_18416 + 1, out_18410, i_18413 => if (decide (i_18413 < 16)) && ((decide (i_18413 < ((l_17795.length : Nat) : Int))) || (decide (((out_18410.length : Nat) : Int) < (i64 ((i64 (2 * f_17799)) + 1))))) then jp1 (fun (t_18457 : Int) => chk ((((out_18410 ++ ([t_18457] : List Int)).length : Nat) : Int) * 8 ≤ 140737488355328 ∧ (((out_18410 ++ ([t_18457] : List Int)).length : Nat) : Int) ≤ 4611686018427387904) (m_law33_times_L2 l_17795 f_17799 k_18342 n_18416 (out_18410 ++ ([t_18457] : List Int)) (i64 (i_18413 + 1)))) fun k_18458 => if decide (i_18413 < ((l_17795.length : Nat) : Int)) then chk ((0 : Int) ≤ i_18413 ∧ i_18413 < ((l_17795.length : Nat) : Int)) (k_18458 (Int.tmod (i64 (nth l_17795 i_18413)) 1001)) else k_18458 0 else k_18342 out_18410
theorem m_law33_times_L2_fuel {n : Nat} {l_17795 : List Int} {f_17799 : Int} {k_18342 : (List Int) → Option (List Int)} {out_18410 : List Int} {i_18413 : Int} {r : List Int} (h : m_law33_times_L2 l_17795 f_17799 k_18342 n out_18410 i_18413 = some r) : ∃ m, n = m + 1 := by
  cases n with
  | zero => cases h
  | succ m => exact ⟨m, rfl⟩

/-- nacellelaw33.times -/
def m_law33_times (l_17795 : List Int) (f_17799 : Int) : Option (List Int) :=
  jp1 (fun (out_18339 : List Int) => jp1 (fun (out_18481 : List Int) => some out_18481) fun k_18484 => if decide (((out_18339.length : Nat) : Int) = 0) then k_18484 ([0] : List Int) else k_18484 out_18339) fun k_18342 => m_law33_times_L2 l_17795 f_17799 k_18342 FUEL ([] : List Int) 0

set_option maxRecDepth 20000 in
theorem w_law33_times (Z : Zp)  (ao_17796 : Option Addr) (cap_17797 : Nat) (l_17795 : List Int) (f_17799 : Int) (r : List Int) (w₀ : World) (hz : PZ [] w₀ Z)
    (hs_17798 : ZS Z 1 (fun r x => r = e45 x) ao_17796 cap_17797 l_17795)
    (h : m_law33_times l_17795 f_17799 = some r) :
    Calls Try.prog 18 #[(.slice ao_17796 l_17795.length cap_17797), (.int .i64 f_17799)] w₀ fun e w' => ∃ ao_18144 : Option Addr, ∃ cap_18145 : Nat, e = .returned (.slice ao_18144 r.length cap_18145) ∧ True ∧ Hp [] w₀ w' [row (.slice ao_18144 r.length cap_18145) 3 1 (r.flatMap e3)] := by
  unfold m_law33_times at h
  refine Calls.ofWC (vs := [(.slice ao_17796 l_17795.length cap_17797), (.int .i64 f_17799)]) (pre := []) (env := [(0, (.slice ao_17796 l_17795.length cap_17797)), (1, (.int .i64 f_17799))]) Try.func18 rfl Try.ntmps18 rfl (Hp.nil w₀ _) rfl ?_
  refine WC.seq ?_
  refine WC.region ?_
  refine WL.quiet (d := 4) rfl rfl rfl (q_assign rfl) ?_
  refine WL.nil ?_
  refine WX.then ?_
  refine WC.seq ?_
  refine WC.region ?_
  refine WL.quiet (d := 5) rfl rfl rfl (q_assign rfl) ?_
  refine WL.nil ?_
  refine WX.then ?_
  obtain ⟨k_18342, hk_18343, h⟩ := jp1_elim h
  refine WC.seqMid3 (fun (out_18339 : List Int) (ao_18340 : Option Addr) (cap_18341 : Nat) => (k_18342 out_18339 = some r)) (fun (out_18339 : List Int) (ao_18340 : Option Addr) (cap_18341 : Nat) => [(5, (.slice ao_18340 out_18339.length cap_18341))]) (fun (out_18339 : List Int) (ao_18340 : Option Addr) (cap_18341 : Nat) => [row (.slice ao_18340 out_18339.length cap_18341) 3 1 (out_18339.flatMap e3)]) ?_ ?_
  · skip
    refine WC.seq ?_
    refine WC.region ?_
    refine WL.quiet (d := 6) rfl rfl rfl (q_assign rfl) ?_
    refine WL.nil ?_
    refine WX.then ?_
    refine WC.block ?_
    refine WC.nilRow 3 1 ?_
    refine WC.loop5 (fun (n_18414 : Nat) (out_18410 : List Int) (i_18413 : Int) (ao_18411 : Option Addr) (cap_18412 : Nat) => (m_law33_times_L2 l_17795 f_17799 k_18342 n_18414 out_18410 i_18413 = some r)) (fun (n_18414 : Nat) (out_18410 : List Int) (i_18413 : Int) (ao_18411 : Option Addr) (cap_18412 : Nat) => [(0, (.slice ao_17796 l_17795.length cap_17797)), (1, (.int .i64 f_17799)), (5, (.slice ao_18411 out_18410.length cap_18412)), (6, (.int .i64 i_18413))]) (fun (n_18414 : Nat) (out_18410 : List Int) (i_18413 : Int) (ao_18411 : Option Addr) (cap_18412 : Nat) => [row (.slice ao_18411 out_18410.length cap_18412) 3 1 (out_18410.flatMap e3)]) (fun (n_18414 : Nat) (out_18410 : List Int) (i_18413 : Int) (ao_18411 : Option Addr) (cap_18412 : Nat) => n_18414) ⟨FUEL, ([] : List Int), 0, none, 0⟩ h (.cons rfl (.cons rfl (.cons rfl (.cons rfl .nil)))) (.cons .here .nil) ?_
    rintro n_18414 out_18410 i_18413 ao_18411 cap_18412 h
    obtain ⟨n_18416, rfl⟩ := m_law33_times_L2_fuel h
    rw [m_law33_times_L2] at h
    refine WC.seq ?_
    refine WC.seq ?_
    refine WC.region ?_
    refine WL.quiet (d := 8) rfl rfl rfl (q_move rfl) ?_
    refine WL.quiet (d := 9) rfl rfl rfl (q_lss rfl rfl) ?_
    refine WL.quiet (d := 10) rfl rfl rfl (q_move rfl) ?_
    refine WL.cut0 True [(0, (.slice ao_17796 l_17795.length cap_17797)), (1, (.int .i64 f_17799)), (5, (.slice ao_18411 out_18410.length cap_18412)), (6, (.int .i64 i_18413)), (23, (.bool ((decide (i_18413 < 16)) && ((decide (i_18413 < ((l_17795.length : Nat) : Int))) || (decide (((out_18410.length : Nat) : Int) < (i64 ((i64 (2 * f_17799)) + 1))))))))] [row (.slice ao_18411 out_18410.length cap_18412) 3 1 (out_18410.flatMap e3)] 13 ?_ (fun _ => ?_)
    · rcases Bool.eq_false_or_eq_true (decide (i_18413 < 16)) with hb' | hb'
      · have hg_18422 := hb'; clear hb'
        refine WL.pin (i := 10) rfl hg_18422 ?_
        refine WL.quiet (d := 11) rfl rfl rfl (q_move rfl) ?_
        refine WL.quiet (d := 12) rfl rfl rfl (q_move rfl) ?_
        refine WL.quiet (d := 13) rfl rfl rfl (q_len Try.underlying42 rfl) ?_
        refine WL.quiet (d := 14) rfl rfl rfl (q_lss rfl rfl) ?_
        refine WL.quiet (d := 15) rfl rfl rfl (q_move rfl) ?_
        refine WL.cut0 True [(0, (.slice ao_17796 l_17795.length cap_17797)), (1, (.int .i64 f_17799)), (5, (.slice ao_18411 out_18410.length cap_18412)), (6, (.int .i64 i_18413)), (10, (.bool true)), (22, (.bool ((decide (i_18413 < ((l_17795.length : Nat) : Int))) || (decide (((out_18410.length : Nat) : Int) < (i64 ((i64 (2 * f_17799)) + 1)))))))] [row (.slice ao_18411 out_18410.length cap_18412) 3 1 (out_18410.flatMap e3)] 7 ?_ (fun _ => ?_)
        · rcases Bool.eq_false_or_eq_true (decide (i_18413 < ((l_17795.length : Nat) : Int))) with hb' | hb'
          · have hg_18423 := hb'; clear hb'
            refine WL.pin (i := 15) rfl hg_18423 ?_
            refine WL.skip rfl rfl rfl ?_
            refine WL.skip rfl rfl rfl ?_
            refine WL.skip rfl rfl rfl ?_
            refine WL.skip rfl rfl rfl ?_
            refine WL.skip rfl rfl rfl ?_
            refine WL.skip rfl rfl rfl ?_
            refine WL.quiet (d := 22) rfl rfl rfl (q_pickT rfl rfl) ?_
            exact WL.cutEnd () trivial (.cons rfl (.cons rfl (.cons rfl (.cons rfl (.cons rfl (.cons (some_bool (or_l hg_18423)) .nil)))))) (.cons .here .nil)
          · have hg_18424 := hb'; clear hb'
            refine WL.pin (i := 15) rfl hg_18424 ?_
            refine WL.quiet (d := 16) rfl rfl rfl (q_move rfl) ?_
            refine WL.quiet (d := 17) rfl rfl rfl (q_len Try.underlying22 rfl) ?_
            refine WL.quiet (d := 18) rfl rfl rfl (q_move rfl) ?_
            refine WL.quiet (d := 19) rfl rfl rfl (q_mul rfl rfl rfl) ?_
            refine WL.quiet (d := 20) rfl rfl rfl (q_add rfl rfl rfl) ?_
            refine WL.quiet (d := 21) rfl rfl rfl (q_lss rfl rfl) ?_
            refine WL.quiet (d := 22) rfl rfl rfl (q_pickF rfl rfl) ?_
            exact WL.cutEnd () trivial (.cons rfl (.cons rfl (.cons rfl (.cons rfl (.cons rfl (.cons (some_bool (or_r hg_18424)) .nil)))))) (.cons .here .nil)
        · skip
          refine WL.quiet (d := 23) rfl rfl rfl (q_pickT rfl rfl) ?_
          exact WL.cutEnd () trivial (.cons rfl (.cons rfl (.cons rfl (.cons rfl (.cons (some_bool (and_r hg_18422)) .nil))))) (.cons .here .nil)
      · have hg_18425 := hb'; clear hb'
        refine WL.pin (i := 10) rfl hg_18425 ?_
        refine WL.skip rfl rfl rfl ?_
        refine WL.skip rfl rfl rfl ?_
        refine WL.skip rfl rfl rfl ?_
        refine WL.skip rfl rfl rfl ?_
        refine WL.skip rfl rfl rfl ?_
        refine WL.skip rfl rfl rfl ?_
        refine WL.skip rfl rfl rfl ?_
        refine WL.skip rfl rfl rfl ?_
        refine WL.skip rfl rfl rfl ?_
        refine WL.skip rfl rfl rfl ?_
        refine WL.skip rfl rfl rfl ?_
        refine WL.skip rfl rfl rfl ?_
        refine WL.quiet (d := 23) rfl rfl rfl (q_pickF rfl rfl) ?_
        exact WL.cutEnd () trivial (.cons rfl (.cons rfl (.cons rfl (.cons rfl (.cons (some_bool (and_l hg_18425)) .nil))))) (.cons .here .nil)
    · skip
      refine WL.nil ?_
      refine WX.then ?_
      refine WC.cond rfl (fun hb_18426 => ?_) (fun hb_18426 => ?_)
      · replace h := ite_t h hb_18426
        refine WC.skip ?_
        refine WX.then ?_
        refine WC.seq ?_
        refine WC.block ?_
        refine WC.seq ?_
        refine WC.region ?_
        refine WL.quiet (d := 7) rfl rfl rfl (q_assign rfl) ?_
        refine WL.nil ?_
        refine WX.then ?_
        obtain ⟨k_18458, hk_18459, h⟩ := jp1_elim h
        refine WC.seqMid1 (fun (t_18457 : Int) => (k_18458 t_18457 = some r)) (fun (t_18457 : Int) => [(0, (.slice ao_17796 l_17795.length cap_17797)), (1, (.int .i64 f_17799)), (5, (.slice ao_18411 out_18410.length cap_18412)), (6, (.int .i64 i_18413)), (7, (.int .i64 t_18457))]) (fun (t_18457 : Int) => [row (.slice ao_18411 out_18410.length cap_18412) 3 1 (out_18410.flatMap e3)]) ?_ ?_
        · skip
          refine WC.seq ?_
          refine WC.region ?_
          refine WL.quiet (d := 26) rfl rfl rfl (q_move rfl) ?_
          refine WL.quiet (d := 27) rfl rfl rfl (q_move rfl) ?_
          refine WL.quiet (d := 28) rfl rfl rfl (q_len Try.underlying42 rfl) ?_
          refine WL.quiet (d := 29) rfl rfl rfl (q_lss rfl rfl) ?_
          refine WL.nil ?_
          refine WX.then ?_
          refine WC.cond rfl (fun hb_18460 => ?_) (fun hb_18460 => ?_)
          · replace h := ite_t h hb_18460
            obtain ⟨c_18461, h⟩ := chk_elim h
            refine WC.region ?_
            refine WL.quiet (d := 30) rfl rfl rfl (q_move rfl) ?_
            refine WL.quiet (d := 31) rfl rfl rfl (q_move rfl) ?_
            refine WL.znth (dd := 32) rfl rfl (Z := Z) (Pr := (fun r x => r = e45 x)) elT_42 rfl rfl hs_17798 c_18461 ?_
            rintro A_18466 r_18467 hA_18468 hl_18469 rfl
            refine WL.quiet (d := 33) rfl rfl rfl (q_load1 oneT_45 rfl (rd_z hz.pv hA_18468 rfl)) ?_
            refine WL.quiet (d := 34) rfl rfl rfl (q_conv Try.underlying45 Try.underlying3 rfl rfl) ?_
            refine WL.quiet (d := 35) rfl rfl rfl (q_rem rfl rfl (by decide) rfl) ?_
            refine WL.quiet (d := 7) rfl rfl rfl (q_assign rfl) ?_
            refine WL.nil ?_
            exact WX.mid (G := Int) (Int.tmod (i64 (nth l_17795 i_18413)) 1001) h (.cons rfl (.cons rfl (.cons rfl (.cons rfl (.cons rfl .nil))))) (.cons .here .nil)
          · replace h := ite_f h hb_18460
            refine WC.skip ?_
            exact WX.mid (G := Int) 0 h (.cons rfl (.cons rfl (.cons rfl (.cons rfl (.cons rfl .nil))))) (.cons .here .nil)
        · rintro t_18457 h
          replace h := (hk_18459 t_18457).symm.trans h
          obtain ⟨c_18471, h⟩ := chk_elim h
          refine WC.region ?_
          refine WL.quiet (d := 36) rfl rfl rfl (q_move rfl) ?_
          refine WL.quiet (d := 37) rfl rfl rfl (q_move rfl) ?_
          refine WL.new (dd := 38) rfl rfl rfl (e_buildSlice (cs := ([t_18457] : List Int).flatMap e3) elT_22 (Eos.parts (l := [.tmp 37]) (.cons rfl .nil) [0]) (fun _ => by kernel_rfl) rfl (by unfold maxLen; omega)) ?_
          intro b_18474 _
          refine WL.eff (d := 39) rfl rfl rfl (e_appendF (enc := e3) (l1 := out_18410) (l2 := ([t_18457] : List Int)) elT_22 rfl rfl (.there .here) (fun _ => rfl) rfl rfl (news_row .here) (oc_flat e3_oc _) c_18471) ?_
          rintro ⟨ao_18475, cap_18476⟩ _
          refine WL.quiet (d := 5) rfl rfl rfl (q_assign rfl) ?_
          refine WL.nil ?_
          refine WX.blockNormal ?_
          refine WX.then ?_
          refine WC.region ?_
          refine WL.quiet (d := 24) rfl rfl rfl (q_move rfl) ?_
          refine WL.quiet (d := 25) rfl rfl rfl (q_add rfl rfl rfl) ?_
          refine WL.quiet (d := 6) rfl rfl rfl (q_assign rfl) ?_
          refine WL.nil ?_
          exact WX.round (G := Nat × List Int × Int × Option Addr × Nat) ⟨n_18416, (out_18410 ++ ([t_18457] : List Int)), (i64 (i_18413 + 1)), ao_18475, cap_18476⟩ h (Nat.lt_succ_self _) (.cons rfl (.cons rfl (.cons rfl (.cons rfl .nil)))) (.cons .here .nil)
      · replace h := ite_f h hb_18426
        refine WC.exit ?_
        refine WX.thenExit ?_
        refine WX.thenExit ?_
        refine WX.blockHit ?_
        exact WX.mid (G := List Int × Option Addr × Nat) ⟨out_18410, ao_18411, cap_18412⟩ h (.cons rfl .nil) (.cons .here .nil)
  · rintro out_18339 ao_18340 cap_18341 h
    replace h := (hk_18343 out_18339).symm.trans h
    obtain ⟨k_18484, hk_18485, h⟩ := jp1_elim h
    refine WC.seqMid3 (fun (out_18481 : List Int) (ao_18482 : Option Addr) (cap_18483 : Nat) => (k_18484 out_18481 = some r)) (fun (out_18481 : List Int) (ao_18482 : Option Addr) (cap_18483 : Nat) => [(5, (.slice ao_18482 out_18481.length cap_18483))]) (fun (out_18481 : List Int) (ao_18482 : Option Addr) (cap_18483 : Nat) => [row (.slice ao_18482 out_18481.length cap_18483) 3 1 (out_18481.flatMap e3)]) ?_ ?_
    · skip
      refine WC.seq ?_
      refine WC.region ?_
      refine WL.quiet (d := 40) rfl rfl rfl (q_move rfl) ?_
      refine WL.quiet (d := 41) rfl rfl rfl (q_len Try.underlying22 rfl) ?_
      refine WL.quiet (d := 42) rfl rfl rfl (q_eql rfl rfl) ?_
      refine WL.nil ?_
      refine WX.then ?_
      refine WC.cond rfl (fun hb_18486 => ?_) (fun hb_18486 => ?_)
      · replace h := ite_t h hb_18486
        refine WC.region ?_
        refine WL.new (dd := 43) rfl rfl rfl (e_buildSlice (cs := ([0] : List Int).flatMap e3) elT_22 (Eos.parts (l := [.const (.int .i64 0)]) (.cons rfl .nil) [0]) (fun _ => by kernel_rfl) rfl (by unfold maxLen; omega)) ?_
        intro b_18488 _
        refine WL.quiet (d := 5) rfl rfl rfl (q_assign rfl) ?_
        refine WL.nil ?_
        exact WX.mid (G := List Int × Option Addr × Nat) ⟨([0] : List Int), (some ⟨b_18488, 0, none⟩), 1⟩ h (.cons rfl .nil) (.cons .here .nil)
      · replace h := ite_f h hb_18486
        refine WC.skip ?_
        exact WX.mid (G := List Int × Option Addr × Nat) ⟨out_18339, ao_18340, cap_18341⟩ h (.cons rfl .nil) (.cons .here .nil)
    · rintro out_18481 ao_18482 cap_18483 h
      replace h := (hk_18485 out_18481).symm.trans h
      refine WC.seq ?_
      refine WC.region ?_
      refine WL.quiet (d := 44) rfl rfl rfl (q_move rfl) ?_
      refine WL.quiet (d := 4) rfl rfl rfl (q_assign rfl) ?_
      refine WL.nil ?_
      refine WX.then ?_
      refine WC.ret ?_
      obtain rfl := Option.some.inj h
      refine WX.bpRet Try.results18 (.tmp rfl .nil) (fun w hw => ?_)
      exact ⟨ao_18482, cap_18483, ret1 rfl, trivial, hw.sub (.cons .here .nil)⟩
def m_law33_ClockMeets_1_L2 (c_21898 : List Sapi_Span) (t_21895 : Int) (k_22189 : Int → Option Int) : Nat → Int → Int → Option Int
  | 0, _, _ => none
  | n_22229 + 1, k_22226, v_22227 => if decide (v_22227 < ((c_21898.length : Nat) : Int)) then jp1 (fun (k_22246 : Int) => m_law33_ClockMeets_1_L2 c_21898 t_21895 k_22189 n_22229 k_22246 (i64 (v_22227 + 1))) fun k_22247 => chk ((0 : Int) ≤ v_22227 ∧ v_22227 < ((c_21898.length : Nat) : Int)) (if (decide (((nth c_21898 v_22227).fLo) ≤ t_21895)) && (decide (t_21895 ≤ ((nth c_21898 v_22227).fHi))) then k_22247 (i64 (k_22226 + 1)) else k_22247 k_22226) else k_22189 k_22226
theorem m_law33_ClockMeets_1_L2_fuel {n : Nat} {c_21898 : List Sapi_Span} {t_21895 : Int} {k_22189 : Int → Option Int} {k_22226 : Int} {v_22227 : Int} {r : Int} (h : m_law33_ClockMeets_1_L2 c_21898 t_21895 k_22189 n k_22226 v_22227 = some r) : ∃ m, n = m + 1 := by
  cases n with
  | zero => cases h
  | succ m => exact ⟨m, rfl⟩

/-- nacellelaw33.ClockMeets$1 -/
def m_law33_ClockMeets_1 (t_21895 : Int) (c_21898 : List Sapi_Span) : Option Int :=
  jp1 (fun (k_22188 : Int) => some k_22188) fun k_22189 => m_law33_ClockMeets_1_L2 c_21898 t_21895 k_22189 FUEL 0 0

set_option maxRecDepth 20000 in
theorem w_law33_ClockMeets_1 (Z : Zp)  (A_21896 : Addr) (ao_21899 : Option Addr) (cap_21900 : Nat) (t_21895 : Int) (c_21898 : List Sapi_Span) (r : Int) (w₀ : World) (hz : PZ [] w₀ Z)
    (hs_21901 : ZS Z 2 (fun r x => r = e35 x) ao_21899 cap_21900 c_21898)
    (hA_21897 : ZC Z A_21896 [(.slice ao_21899 c_21898.length cap_21900)])
    (h : m_law33_ClockMeets_1 t_21895 c_21898 = some r) :
    Calls Try.prog 19 #[(.int .i64 t_21895), (.pointer (some A_21896))] w₀ fun e w' => e = .returned (.int .i64 r) ∧ Hp [] w₀ w' [] := by
  unfold m_law33_ClockMeets_1 at h
  refine Calls.ofWC (vs := [(.int .i64 t_21895), (.pointer (some A_21896))]) (pre := []) (env := [(0, (.int .i64 t_21895)), (1, (.pointer (some A_21896)))]) Try.func19 rfl Try.ntmps19 rfl (Hp.nil w₀ _) rfl ?_
  refine WC.seq ?_
  refine WC.region ?_
  refine WL.quiet (d := 3) rfl rfl rfl (q_assign rfl) ?_
  refine WL.nil ?_
  refine WX.then ?_
  refine WC.seq ?_
  refine WC.region ?_
  refine WL.quiet (d := 4) rfl rfl rfl (q_assign rfl) ?_
  refine WL.nil ?_
  refine WX.then ?_
  obtain ⟨k_22189, hk_22190, h⟩ := jp1_elim h
  refine WC.seqMid1 (fun (k_22188 : Int) => (k_22189 k_22188 = some r)) (fun (k_22188 : Int) => [(4, (.int .i64 k_22188))]) (fun (k_22188 : Int) => []) ?_ ?_
  · skip
    refine WC.seq ?_
    refine WC.region ?_
    refine WL.quiet (d := 7) rfl rfl rfl (q_load1 oneT_23 rfl (rd_z hz.pv hA_21897 rfl)) ?_
    refine WL.quiet (d := 8) rfl rfl rfl (q_len Try.underlying23 rfl) ?_
    refine WL.quiet (d := 9) rfl rfl rfl (q_move rfl) ?_
    refine WL.nil ?_
    refine WX.then ?_
    refine WC.block ?_
    refine WC.loop3 (fun (n_22228 : Nat) (k_22226 : Int) (v_22227 : Int) => (m_law33_ClockMeets_1_L2 c_21898 t_21895 k_22189 n_22228 k_22226 v_22227 = some r)) (fun (n_22228 : Nat) (k_22226 : Int) (v_22227 : Int) => [(0, (.int .i64 t_21895)), (4, (.int .i64 k_22226)), (7, (.slice ao_21899 c_21898.length cap_21900)), (8, (.int .i64 ((c_21898.length : Nat) : Int))), (9, (.int .i64 v_22227))]) (fun (n_22228 : Nat) (k_22226 : Int) (v_22227 : Int) => []) (fun (n_22228 : Nat) (k_22226 : Int) (v_22227 : Int) => n_22228) ⟨FUEL, 0, 0⟩ h (.cons rfl (.cons rfl (.cons rfl (.cons rfl (.cons rfl .nil))))) .nil ?_
    rintro n_22228 k_22226 v_22227 h
    obtain ⟨n_22229, rfl⟩ := m_law33_ClockMeets_1_L2_fuel h
    rw [m_law33_ClockMeets_1_L2] at h
    refine WC.seq ?_
    refine WC.region ?_
    refine WL.quiet (d := 10) rfl rfl rfl (q_lss rfl rfl) ?_
    refine WL.nil ?_
    refine WX.then ?_
    refine WC.seq ?_
    refine WC.cond rfl (fun hb_22231 => ?_) (fun hb_22231 => ?_)
    · replace h := ite_t h hb_22231
      refine WC.skip ?_
      refine WX.then ?_
      obtain ⟨k_22247, hk_22248, h⟩ := jp1_elim h
      refine WC.seqMid1 (fun (k_22246 : Int) => (k_22247 k_22246 = some r)) (fun (k_22246 : Int) => [(0, (.int .i64 t_21895)), (4, (.int .i64 k_22246)), (7, (.slice ao_21899 c_21898.length cap_21900)), (8, (.int .i64 ((c_21898.length : Nat) : Int))), (9, (.int .i64 v_22227))]) (fun (k_22246 : Int) => []) ?_ ?_
      · skip
        refine WC.block ?_
        refine WC.seq ?_
        obtain ⟨c_22249, h⟩ := chk_elim h
        refine WC.region ?_
        refine WL.znth (dd := 11) rfl rfl (Z := Z) (Pr := (fun r x => r = e35 x)) elT_23 rfl rfl hs_21901 c_22249 ?_
        rintro A_22255 r_22256 hA_22257 hl_22258 rfl
        refine WL.quiet (d := 12) rfl rfl rfl (q_loadA (cs := [(.int .i64 ((nth c_21898 v_22227).fLo)), (.int .i64 ((nth c_21898 v_22227).fHi))]) aggT_35 rfl rfl (rd_zs hz.pv hA_22257)) ?_
        refine WL.new (dd := 6) rfl rfl rfl (e_alloc (cs := [(.int .i64 0), (.int .i64 0)]) zeroT_35 rfl) ?_
        intro b_22259 _
        refine WL.eff0 rfl rfl (e_store (vs := [(.int .i64 ((nth c_21898 v_22227).fLo)), (.int .i64 ((nth c_21898 v_22227).fHi))]) (ds := [(.int .i64 ((nth c_21898 v_22227).fLo)), (.int .i64 ((nth c_21898 v_22227).fHi))]) sizT_35 rfl rfl rfl rfl (oc_cons rfl (oc_cons rfl oc_nil)) .here (Nat.le_of_ble_eq_true rfl) rfl) ?_
        refine WL.nil ?_
        refine WX.then ?_
        refine WC.seq ?_
        refine WC.region ?_
        refine WL.quiet (d := 13) rfl rfl rfl (q_fieldAddr fo_35_0 rfl rfl) ?_
        refine WL.quiet (d := 14) rfl rfl rfl (q_load1 oneT_3 rfl (rd_stb .here rfl)) ?_
        refine WL.quiet (d := 15) rfl rfl rfl (q_move rfl) ?_
        refine WL.quiet (d := 16) rfl rfl rfl (q_leq rfl rfl) ?_
        refine WL.quiet (d := 17) rfl rfl rfl (q_move rfl) ?_
        refine WL.cut0 True [(0, (.int .i64 t_21895)), (4, (.int .i64 k_22226)), (7, (.slice ao_21899 c_21898.length cap_21900)), (8, (.int .i64 ((c_21898.length : Nat) : Int))), (9, (.int .i64 v_22227)), (22, (.bool ((decide (((nth c_21898 v_22227).fLo) ≤ t_21895)) && (decide (t_21895 ≤ ((nth c_21898 v_22227).fHi))))))] [stb b_22259 35 [(.int .i64 ((nth c_21898 v_22227).fLo)), (.int .i64 ((nth c_21898 v_22227).fHi))]] 5 ?_ (fun _ => ?_)
        · rcases Bool.eq_false_or_eq_true (decide (((nth c_21898 v_22227).fLo) ≤ t_21895)) with hb' | hb'
          · have hg_22260 := hb'; clear hb'
            refine WL.pin (i := 17) rfl hg_22260 ?_
            refine WL.quiet (d := 18) rfl rfl rfl (q_move rfl) ?_
            refine WL.quiet (d := 19) rfl rfl rfl (q_fieldAddr fo_35_1 rfl rfl) ?_
            refine WL.quiet (d := 20) rfl rfl rfl (q_load1 oneT_3 rfl (rd_stb .here rfl)) ?_
            refine WL.quiet (d := 21) rfl rfl rfl (q_leq rfl rfl) ?_
            refine WL.quiet (d := 22) rfl rfl rfl (q_pickT rfl rfl) ?_
            exact WL.cutEnd () trivial (.cons rfl (.cons rfl (.cons rfl (.cons rfl (.cons rfl (.cons (some_bool (and_r hg_22260)) .nil)))))) (.cons .here .nil)
          · have hg_22261 := hb'; clear hb'
            refine WL.pin (i := 17) rfl hg_22261 ?_
            refine WL.skip rfl rfl rfl ?_
            refine WL.skip rfl rfl rfl ?_
            refine WL.skip rfl rfl rfl ?_
            refine WL.skip rfl rfl rfl ?_
            refine WL.quiet (d := 22) rfl rfl rfl (q_pickF rfl rfl) ?_
            exact WL.cutEnd () trivial (.cons rfl (.cons rfl (.cons rfl (.cons rfl (.cons rfl (.cons (some_bool (and_l hg_22261)) .nil)))))) (.cons .here .nil)
        · skip
          refine WL.nil ?_
          refine WX.then ?_
          refine WC.cond rfl (fun hb_22262 => ?_) (fun hb_22262 => ?_)
          · replace h := ite_t h hb_22262
            refine WC.region ?_
            refine WL.quiet (d := 23) rfl rfl rfl (q_move rfl) ?_
            refine WL.quiet (d := 24) rfl rfl rfl (q_add rfl rfl rfl) ?_
            refine WL.quiet (d := 4) rfl rfl rfl (q_assign rfl) ?_
            refine WL.nil ?_
            refine WX.blockNormal ?_
            exact WX.mid (G := Int) (i64 (k_22226 + 1)) h (.cons rfl (.cons rfl (.cons rfl (.cons rfl (.cons rfl .nil))))) .nil
          · replace h := ite_f h hb_22262
            refine WC.skip ?_
            refine WX.blockNormal ?_
            exact WX.mid (G := Int) k_22226 h (.cons rfl (.cons rfl (.cons rfl (.cons rfl (.cons rfl .nil))))) .nil
      · rintro k_22246 h
        replace h := (hk_22248 k_22246).symm.trans h
        refine WC.region ?_
        refine WL.quiet (d := 25) rfl rfl rfl (q_add rfl rfl rfl) ?_
        refine WL.quiet (d := 9) rfl rfl rfl (q_move rfl) ?_
        refine WL.nil ?_
        exact WX.round (G := Nat × Int × Int) ⟨n_22229, k_22246, (i64 (v_22227 + 1))⟩ h (Nat.lt_succ_self _) (.cons rfl (.cons rfl (.cons rfl (.cons rfl (.cons rfl .nil))))) .nil
    · replace h := ite_f h hb_22231
      refine WC.exit ?_
      refine WX.thenExit ?_
      refine WX.thenExit ?_
      refine WX.blockHit ?_
      exact WX.mid (G := Int) k_22226 h (.cons rfl .nil) .nil
  · rintro k_22188 h
    replace h := (hk_22190 k_22188).symm.trans h
    refine WC.seq ?_
    refine WC.region ?_
    refine WL.quiet (d := 26) rfl rfl rfl (q_move rfl) ?_
    refine WL.quiet (d := 3) rfl rfl rfl (q_assign rfl) ?_
    refine WL.nil ?_
    refine WX.then ?_
    refine WC.ret ?_
    obtain rfl := Option.some.inj h
    refine WX.bpRet Try.results19 (.tmp rfl .nil) (fun w hw => ?_)
    exact ⟨ret1 rfl, hw.sub .nil⟩
end Go.Proofs.Ytkhiiafgikioiaa
