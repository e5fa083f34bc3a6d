/- A part of this claim's proof: models of functions, walks, plain laws. No conditions. -/
import Derived.Test.YtbihfglmcjkdhaaW02e
namespace Go.Proofs.Ytbihfglmcjkdhaa
open Go Go.RowKit Sep
set_option linter.all false
set_option maxRecDepth 30000
set_option maxHeartbeats 4000000

def m_law02_equal_L2 (a_62092 : List Sapi_Bucket) (b_62096 : List Sapi_Bucket) (k_62439 : Option Bool) : Nat → Int → Option Bool
  | 0, _ => none
  | n_62484 + 1, v_62482 => if decide (v_62482 < ((a_62092.length : Nat) : Int)) then chk ((0 : Int) ≤ v_62482 ∧ v_62482 < ((a_62092.length : Nat) : Int)) (chk ((0 : Int) ≤ v_62482 ∧ v_62482 < ((b_62096.length : Nat) : Int)) (if decide ((⟨(⟨(((nth a_62092 v_62482).fBurst).fN), (((nth a_62092 v_62482).fBurst).fD)⟩ : Sapi_Rat), (⟨(((nth a_62092 v_62482).fRate).fN), (((nth a_62092 v_62482).fRate).fD)⟩ : Sapi_Rat)⟩ : Sapi_Bucket) ≠ (⟨(⟨(((nth b_62096 v_62482).fBurst).fN), (((nth b_62096 v_62482).fBurst).fD)⟩ : Sapi_Rat), (⟨(((nth b_62096 v_62482).fRate).fN), (((nth b_62096 v_62482).fRate).fD)⟩ : Sapi_Rat)⟩ : Sapi_Bucket)) then some false else m_law02_equal_L2 a_62092 b_62096 k_62439 n_62484 (i64 (v_62482 + 1)))) else k_62439
theorem m_law02_equal_L2_fuel {n : Nat} {a_62092 : List Sapi_Bucket} {b_62096 : List Sapi_Bucket} {k_62439 : Option Bool} {v_62482 : Int} {r : Bool} (h : m_law02_equal_L2 a_62092 b_62096 k_62439 n v_62482 = some r) : ∃ m, n = m + 1 := by
  cases n with
  | zero => cases h
  | succ m => exact ⟨m, rfl⟩

/-- nacellelaw02.equal -/
def m_law02_equal (a_62092 : List Sapi_Bucket) (b_62096 : List Sapi_Bucket) : Option Bool :=
  if decide (((a_62092.length : Nat) : Int) ≠ ((b_62096.length : Nat) : Int)) then some false else jp0 (some true) fun k_62439 => m_law02_equal_L2 a_62092 b_62096 k_62439 FUEL 0

set_option maxRecDepth 20000 in
theorem w_law02_equal (Z : Zp)  (ao_62093 : Option Addr) (cap_62094 : Nat) (ao_62097 : Option Addr) (cap_62098 : Nat) (a_62092 : List Sapi_Bucket) (b_62096 : List Sapi_Bucket) (r : Bool) (w₀ : World) (hz : PZ [] w₀ Z)
    (hs_62095 : ZS Z 4 (fun r x => r = e42 x) ao_62093 cap_62094 a_62092)
    (hs_62099 : ZS Z 4 (fun r x => r = e42 x) ao_62097 cap_62098 b_62096)
    (h : m_law02_equal a_62092 b_62096 = some r) :
    Calls Try.prog 37 #[(.slice ao_62093 a_62092.length cap_62094), (.slice ao_62097 b_62096.length cap_62098)] w₀ fun e w' => e = .returned (.bool r) ∧ Hp [] w₀ w' [] := by
  unfold m_law02_equal at h
  refine Calls.ofWC (vs := [(.slice ao_62093 a_62092.length cap_62094), (.slice ao_62097 b_62096.length cap_62098)]) (pre := []) (env := [(0, (.slice ao_62093 a_62092.length cap_62094)), (1, (.slice ao_62097 b_62096.length cap_62098))]) Try.func37 rfl Try.ntmps37 rfl (Hp.nil w₀ _) rfl ?_
  refine WC.seq ?_
  refine WC.region ?_
  refine WL.quiet (d := 4) rfl rfl rfl (q_assign rfl) ?_
  refine WL.nil ?_
  refine WX.then ?_
  refine WC.seq ?_
  refine WC.seq ?_
  refine WC.region ?_
  refine WL.quiet (d := 6) rfl rfl rfl (q_move rfl) ?_
  refine WL.quiet (d := 7) rfl rfl rfl (q_len Try.underlying25 rfl) ?_
  refine WL.quiet (d := 8) rfl rfl rfl (q_move rfl) ?_
  refine WL.quiet (d := 9) rfl rfl rfl (q_len Try.underlying25 rfl) ?_
  refine WL.quiet (d := 10) rfl rfl rfl (q_neq rfl rfl) ?_
  refine WL.nil ?_
  refine WX.then ?_
  refine WC.cond rfl (fun hb_62314 => ?_) (fun hb_62314 => ?_)
  · replace h := ite_t h hb_62314
    refine WC.seq ?_
    refine WC.region ?_
    refine WL.quiet (d := 4) rfl rfl rfl (q_assign rfl) ?_
    refine WL.nil ?_
    refine WX.then ?_
    refine WC.ret ?_
    refine WX.thenRet ?_
    obtain rfl := Option.some.inj h
    refine WX.bpRet Try.results37 (.tmp rfl .nil) (fun w hw => ?_)
    exact ⟨ret1 rfl, hw.sub .nil⟩
  · replace h := ite_f h hb_62314
    refine WC.skip ?_
    refine WX.then ?_
    obtain ⟨k_62439, hk_62440, h⟩ := jp0_elim h
    refine WC.seqMid0 ((k_62439 = some r)) ([]) ([]) ?_ ?_
    · skip
      refine WC.seq ?_
      refine WC.region ?_
      refine WL.quiet (d := 11) rfl rfl rfl (q_move rfl) ?_
      refine WL.quiet (d := 12) rfl rfl rfl (q_len Try.underlying25 rfl) ?_
      refine WL.quiet (d := 13) rfl rfl rfl (q_move rfl) ?_
      refine WL.nil ?_
      refine WX.then ?_
      refine WC.block ?_
      refine WC.loop2 (fun (n_62483 : Nat) (v_62482 : Int) => (m_law02_equal_L2 a_62092 b_62096 k_62439 n_62483 v_62482 = some r)) (fun (n_62483 : Nat) (v_62482 : Int) => [(0, (.slice ao_62093 a_62092.length cap_62094)), (1, (.slice ao_62097 b_62096.length cap_62098)), (12, (.int .i64 ((a_62092.length : Nat) : Int))), (13, (.int .i64 v_62482))]) (fun (n_62483 : Nat) (v_62482 : Int) => []) (fun (n_62483 : Nat) (v_62482 : Int) => n_62483) ⟨FUEL, 0⟩ h (.cons rfl (.cons rfl (.cons rfl (.cons rfl .nil)))) .nil ?_
      rintro n_62483 v_62482 h
      obtain ⟨n_62484, rfl⟩ := m_law02_equal_L2_fuel h
      rw [m_law02_equal_L2] at h
      refine WC.seq ?_
      refine WC.region ?_
      refine WL.quiet (d := 14) rfl rfl rfl (q_lss rfl rfl) ?_
      refine WL.nil ?_
      refine WX.then ?_
      refine WC.seq ?_
      refine WC.cond rfl (fun hb_62486 => ?_) (fun hb_62486 => ?_)
      · replace h := ite_t h hb_62486
        refine WC.skip ?_
        refine WX.then ?_
        refine WC.seq ?_
        refine WC.block ?_
        refine WC.seq ?_
        refine WC.region ?_
        refine WL.quiet (d := 15) rfl rfl rfl (q_move rfl) ?_
        refine WL.quiet (d := 5) rfl rfl rfl (q_assign rfl) ?_
        refine WL.nil ?_
        refine WX.then ?_
        refine WC.seq ?_
        obtain ⟨c_62506, h⟩ := chk_elim h
        obtain ⟨c_62511, h⟩ := chk_elim h
        refine WC.draw (fun i => [].contains i) [] rfl ?_
        refine WD.pure (i := 0) (d := 16) (by kernel_rfl) rfl (readyF_of (by kernel_rfl)) (freeF_of (by kernel_rfl)) rfl rfl rfl (fun _ => q_move rfl) ?_
        refine WD.pure (i := 1) (d := 17) (by kernel_rfl) rfl (readyF_of (by kernel_rfl)) (freeF_of (by kernel_rfl)) rfl rfl rfl (fun _ => q_move rfl) ?_
        refine WD.znth (j := 2) (dd := 18) (by kernel_rfl) rfl (readyF_of (by kernel_rfl)) (freeF_of (by kernel_rfl)) rfl rfl (Z := Z) (Pr := (fun r x => r = e42 x)) elT_25 rfl rfl hs_62095 c_62506 ?_
        rintro A_62516 r_62517 hA_62518 hl_62519 rfl
        refine WD.quiet (i := 3) (d := 19) (by kernel_rfl) rfl (readyF_of (by kernel_rfl)) (freeF_of (by kernel_rfl)) rfl rfl rfl (q_loadA (cs := [(.int .i64 (((nth a_62092 v_62482).fBurst).fN)), (.int .i64 (((nth a_62092 v_62482).fBurst).fD)), (.int .i64 (((nth a_62092 v_62482).fRate).fN)), (.int .i64 (((nth a_62092 v_62482).fRate).fD))]) aggT_42 rfl rfl (rd_zs hz.pv hA_62518)) ?_
        refine WD.pure (i := 4) (d := 20) (by kernel_rfl) rfl (readyF_of (by kernel_rfl)) (freeF_of (by kernel_rfl)) rfl rfl rfl (fun _ => q_move rfl) ?_
        refine WD.pure (i := 5) (d := 21) (by kernel_rfl) rfl (readyF_of (by kernel_rfl)) (freeF_of (by kernel_rfl)) rfl rfl rfl (fun _ => q_move rfl) ?_
        refine WD.znth (j := 6) (dd := 22) (by kernel_rfl) rfl (readyF_of (by kernel_rfl)) (freeF_of (by kernel_rfl)) rfl rfl (Z := Z) (Pr := (fun r x => r = e42 x)) elT_25 rfl rfl hs_62099 c_62511 ?_
        rintro A_62520 r_62521 hA_62522 hl_62523 rfl
        refine WD.quiet (i := 7) (d := 23) (by kernel_rfl) rfl (readyF_of (by kernel_rfl)) (freeF_of (by kernel_rfl)) rfl rfl rfl (q_loadA (cs := [(.int .i64 (((nth b_62096 v_62482).fBurst).fN)), (.int .i64 (((nth b_62096 v_62482).fBurst).fD)), (.int .i64 (((nth b_62096 v_62482).fRate).fN)), (.int .i64 (((nth b_62096 v_62482).fRate).fD))]) aggT_42 rfl rfl (rd_zs hz.pv hA_62522)) ?_
        refine WD.pure (i := 8) (d := 24) (by kernel_rfl) rfl (readyF_of (by kernel_rfl)) (freeF_of (by kernel_rfl)) rfl rfl rfl (fun _ => q_aggneq (enc := e42) (a := (⟨(⟨(((nth a_62092 v_62482).fBurst).fN), (((nth a_62092 v_62482).fBurst).fD)⟩ : Sapi_Rat), (⟨(((nth a_62092 v_62482).fRate).fN), (((nth a_62092 v_62482).fRate).fD)⟩ : Sapi_Rat)⟩ : Sapi_Bucket)) (b := (⟨(⟨(((nth b_62096 v_62482).fBurst).fN), (((nth b_62096 v_62482).fBurst).fD)⟩ : Sapi_Rat), (⟨(((nth b_62096 v_62482).fRate).fN), (((nth b_62096 v_62482).fRate).fD)⟩ : Sapi_Rat)⟩ : Sapi_Bucket)) eqT_42 rfl rfl) ?_
        refine WD.done (by kernel_rfl) ?_
        refine WX.then ?_
        refine WC.cond rfl (fun hb_62524 => ?_) (fun hb_62524 => ?_)
        · replace h := ite_t h hb_62524
          refine WC.seq ?_
          refine WC.region ?_
          refine WL.quiet (d := 4) rfl rfl rfl (q_assign rfl) ?_
          refine WL.nil ?_
          refine WX.then ?_
          refine WC.ret ?_
          refine WX.blockRet ?_
          refine WX.thenRet ?_
          refine WX.thenRet ?_
          refine WX.blockRet ?_
          refine WX.thenRet ?_
          obtain rfl := Option.some.inj h
          refine WX.bpRet Try.results37 (.tmp rfl .nil) (fun w hw => ?_)
          exact ⟨ret1 rfl, hw.sub .nil⟩
        · replace h := ite_f h hb_62524
          refine WC.skip ?_
          refine WX.blockNormal ?_
          refine WX.then ?_
          refine WC.region ?_
          refine WL.quiet (d := 25) rfl rfl rfl (q_add rfl rfl rfl) ?_
          refine WL.quiet (d := 13) rfl rfl rfl (q_move rfl) ?_
          refine WL.nil ?_
          exact WX.round (G := Nat × Int) ⟨n_62484, (i64 (v_62482 + 1))⟩ h (Nat.lt_succ_self _) (.cons rfl (.cons rfl (.cons rfl (.cons rfl .nil)))) .nil
      · replace h := ite_f h hb_62486
        refine WC.exit ?_
        refine WX.thenExit ?_
        refine WX.thenExit ?_
        refine WX.blockHit ?_
        exact WX.mid (G := Unit) () h .nil .nil
    · rintro  h
      replace h := hk_62440.symm.trans h
      refine WC.seq ?_
      refine WC.region ?_
      refine WL.quiet (d := 4) rfl rfl rfl (q_assign rfl) ?_
      refine WL.nil ?_
      refine WX.then ?_
      refine WC.ret ?_
      obtain rfl := Option.some.inj h
      refine WX.bpRet Try.results37 (.tmp rfl .nil) (fun w hw => ?_)
      exact ⟨ret1 rfl, hw.sub .nil⟩
end Go.Proofs.Ytbihfglmcjkdhaa
