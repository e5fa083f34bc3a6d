/- A part of this claim's proof: models of functions, walks, plain laws. No conditions. -/
import Derived.Test.YtbihfglmcjkdhaaW02d
namespace Go.Proofs.Ytbihfglmcjkdhaa
open Go Go.RowKit Sep
set_option linter.all false
set_option maxRecDepth 30000
set_option maxHeartbeats 4000000

/-- slices.Grow[api.Curve,api.Bucket] -/
def m_slices_Grow_api_Curve_api_Bucket (n_50263 : Int) : Option (List Sapi_Bucket) :=
  if decide (n_50263 < 0) then none else jp1 (fun (s_50321 : List Sapi_Bucket) => some s_50321) fun k_50324 => if decide ((i64 (n_50263 - 0)) > 0) then chk ((0 : Int) ≤ 0 ∧ (0 : Int) ≤ 0 ∧ 0 ≤ (0 : Int)) (chk ((0 : Int) < (i64 (n_50263 - 0)) ∧ (i64 (n_50263 - 0)) * 32 ≤ 140737488355328 ∧ (i64 (n_50263 - 0)) ≤ 4611686018427387904) (chk ((0 : Int) ≤ 0 ∧ 0 ≤ (((List.replicate ((i64 (n_50263 - 0)) : Int).toNat ((⟨(⟨0, 0⟩ : Sapi_Rat), (⟨0, 0⟩ : Sapi_Rat)⟩ : Sapi_Bucket) : Sapi_Bucket)).length : Nat) : Int)) (k_50324 ((List.replicate ((i64 (n_50263 - 0)) : Int).toNat ((⟨(⟨0, 0⟩ : Sapi_Rat), (⟨0, 0⟩ : Sapi_Rat)⟩ : Sapi_Bucket) : Sapi_Bucket)).take (0 : Int).toNat)))) else k_50324 ([] : List Sapi_Bucket)

set_option maxRecDepth 20000 in
theorem w_slices_Grow_api_Curve_api_Bucket (Z : Zp)   (n_50263 : Int) (r : List Sapi_Bucket) (w₀ : World) (hz : PZ [] w₀ Z)
    (h : m_slices_Grow_api_Curve_api_Bucket n_50263 = some r) :
    Calls Try.prog 79 #[(.slice none 0 0), (.int .i64 n_50263)] w₀ fun e w' => ∃ ao_50302 : Option Addr, ∃ cap_50303 : Nat, e = .returned (.slice ao_50302 r.length cap_50303) ∧ True ∧ Hp [] w₀ w' [row (.slice ao_50302 r.length cap_50303) 42 4 (r.flatMap e42)] := by
  unfold m_slices_Grow_api_Curve_api_Bucket at h
  refine Calls.ofWC (vs := [(.slice none 0 0), (.int .i64 n_50263)]) (pre := []) (env := [(0, (.slice none 0 0)), (1, (.int .i64 n_50263))]) Try.func79 rfl Try.ntmps79 rfl (Hp.nil w₀ _) rfl ?_
  refine WC.seq ?_
  refine WC.region ?_
  refine WL.quiet (d := 4) rfl rfl rfl (q_assign rfl) ?_
  refine WL.nil ?_
  refine WX.then ?_
  refine WC.seq ?_
  refine WC.seq ?_
  refine WC.region ?_
  refine WL.quiet (d := 5) rfl rfl rfl (q_move rfl) ?_
  refine WL.quiet (d := 6) rfl rfl rfl (q_lss rfl rfl) ?_
  refine WL.nil ?_
  refine WX.then ?_
  refine WC.cond rfl (fun hb_50305 => ?_) (fun hb_50305 => ?_)
  · replace h := ite_t h hb_50305
    cases h
  · replace h := ite_f h hb_50305
    refine WC.skip ?_
    refine WX.then ?_
    obtain ⟨k_50324, hk_50325, h⟩ := jp1_elim h
    refine WC.seqMid3 (fun (s_50321 : List Sapi_Bucket) (ao_50322 : Option Addr) (cap_50323 : Nat) => (k_50324 s_50321 = some r)) (fun (s_50321 : List Sapi_Bucket) (ao_50322 : Option Addr) (cap_50323 : Nat) => [(0, (.slice ao_50322 s_50321.length cap_50323))]) (fun (s_50321 : List Sapi_Bucket) (ao_50322 : Option Addr) (cap_50323 : Nat) => [row (.slice ao_50322 s_50321.length cap_50323) 42 4 (s_50321.flatMap e42)]) ?_ ?_
    · skip
      refine WC.seq ?_
      refine WC.region ?_
      refine WL.quiet (d := 8) rfl rfl rfl (q_move rfl) ?_
      refine WL.quiet (d := 9) rfl rfl rfl (q_move rfl) ?_
      refine WL.quiet (d := 10) rfl rfl rfl (q_cap Try.underlying25 rfl) ?_
      refine WL.quiet (d := 11) rfl rfl rfl (q_move rfl) ?_
      refine WL.quiet (d := 12) rfl rfl rfl (q_len Try.underlying25 rfl) ?_
      refine WL.quiet (d := 13) rfl rfl rfl (q_sub rfl rfl rfl) ?_
      refine WL.quiet (d := 14) rfl rfl rfl (q_sub rfl rfl rfl) ?_
      refine WL.quiet (d := 1) rfl rfl rfl (q_assign rfl) ?_
      refine WL.nil ?_
      refine WX.then ?_
      refine WC.seq ?_
      refine WC.region ?_
      refine WL.quiet (d := 15) rfl rfl rfl (q_move rfl) ?_
      refine WL.quiet (d := 16) rfl rfl rfl (q_gtr rfl rfl) ?_
      refine WL.nil ?_
      refine WX.then ?_
      refine WC.cond rfl (fun hb_50326 => ?_) (fun hb_50326 => ?_)
      · replace h := ite_t h hb_50326
        obtain ⟨c_50327, h⟩ := chk_elim h
        obtain ⟨c_50328, h⟩ := chk_elim h
        obtain ⟨c_50332, h⟩ := chk_elim h
        refine WC.region ?_
        refine WL.quiet (d := 17) rfl rfl rfl (q_move rfl) ?_
        refine WL.quiet (d := 18) rfl rfl rfl (q_move rfl) ?_
        refine WL.quiet (d := 19) rfl rfl rfl (q_cap Try.underlying25 rfl) ?_
        refine WL.quiet (d := 20) rfl rfl rfl (q_sliceNil elT_25 rfl ixn (ixo rfl) c_50327 rfl rfl) ?_
        refine WL.quiet (d := 21) rfl rfl rfl (q_move rfl) ?_
        refine WL.eff (d := 22) rfl rfl rfl (e_appendNilZ (enc := e42) (z0 := ((⟨(⟨0, 0⟩ : Sapi_Rat), (⟨0, 0⟩ : Sapi_Rat)⟩ : Sapi_Bucket) : Sapi_Bucket)) (c := i64 (n_50263 - 0)) elT_25 zeroT_42 Try.underlying3 rfl rfl rfl rfl rfl c_50328) ?_
        rintro ⟨ao_50335, cap_50336⟩ _
        refine WL.quiet (d := 23) rfl rfl rfl (q_move rfl) ?_
        refine WL.quiet (d := 24) rfl rfl rfl (q_len Try.underlying25 rfl) ?_
        refine WL.rowHiD (dd := 25) (enc := e42) (ls := List.replicate ((i64 (n_50263 - 0)) : Int).toNat ((⟨(⟨0, 0⟩ : Sapi_Rat), (⟨0, 0⟩ : Sapi_Rat)⟩ : Sapi_Bucket) : Sapi_Bucket)) rfl rfl elT_25 rfl rfl .here (fun _ => rfl) c_50332 ?_
        intro ao_50338 cap_50339
        refine WL.quiet (d := 0) rfl rfl rfl (q_assign rfl) ?_
        refine WL.nil ?_
        exact WX.mid (G := List Sapi_Bucket × Option Addr × Nat) ⟨((List.replicate ((i64 (n_50263 - 0)) : Int).toNat ((⟨(⟨0, 0⟩ : Sapi_Rat), (⟨0, 0⟩ : Sapi_Rat)⟩ : Sapi_Bucket) : Sapi_Bucket)).take (0 : Int).toNat), ao_50338, cap_50339⟩ h (.cons rfl .nil) (.cons .here .nil)
      · replace h := ite_f h hb_50326
        refine WC.skip ?_
        refine WX.nilRow 42 4 ?_
        exact WX.mid (G := List Sapi_Bucket × Option Addr × Nat) ⟨([] : List Sapi_Bucket), none, 0⟩ h (.cons rfl .nil) (.cons .here .nil)
    · rintro s_50321 ao_50322 cap_50323 h
      replace h := (hk_50325 s_50321).symm.trans h
      refine WC.seq ?_
      refine WC.region ?_
      refine WL.quiet (d := 26) rfl rfl rfl (q_move rfl) ?_
      refine WL.quiet (d := 4) rfl rfl rfl (q_assign rfl) ?_
      refine WL.nil ?_
      refine WX.then ?_
      refine WC.ret ?_
      obtain rfl := Option.some.inj h
      refine WX.bpRet Try.results79 (.tmp rfl .nil) (fun w hw => ?_)
      exact ⟨ao_50322, cap_50323, ret1 rfl, trivial, hw.sub (.cons .here .nil)⟩
def m_slices_Concat_api_Curve_api_Bucket_L3 (slices_50074 : List (List Sapi_Bucket)) (k_50696 : Int → Option (List Sapi_Bucket)) : Nat → Int → Int → Option (List Sapi_Bucket)
  | 0, _, _ => none
  | n_50737 + 1, size_50734, v_50735 => if decide (v_50735 < ((slices_50074.length : Nat) : Int)) then chk ((0 : Int) ≤ v_50735 ∧ v_50735 < ((slices_50074.length : Nat) : Int)) (if decide ((i64 (size_50734 + (((nth slices_50074 v_50735).length : Nat) : Int))) < 0) then none else m_slices_Concat_api_Curve_api_Bucket_L3 slices_50074 k_50696 n_50737 (i64 (size_50734 + (((nth slices_50074 v_50735).length : Nat) : Int))) (i64 (v_50735 + 1))) else k_50696 size_50734
theorem m_slices_Concat_api_Curve_api_Bucket_L3_fuel {n : Nat} {slices_50074 : List (List Sapi_Bucket)} {k_50696 : Int → Option (List Sapi_Bucket)} {size_50734 : Int} {v_50735 : Int} {r : List Sapi_Bucket} (h : m_slices_Concat_api_Curve_api_Bucket_L3 slices_50074 k_50696 n size_50734 v_50735 = some r) : ∃ m, n = m + 1 := by
  cases n with
  | zero => cases h
  | succ m => exact ⟨m, rfl⟩

def m_slices_Concat_api_Curve_api_Bucket_L4 (slices_50074 : List (List Sapi_Bucket)) (k_50919 : (List Sapi_Bucket) → Option (List Sapi_Bucket)) : Nat → (List Sapi_Bucket) → Int → Option (List Sapi_Bucket)
  | 0, _, _ => none
  | n_50972 + 1, newslice_50967, v_50970 => if decide (v_50970 < ((slices_50074.length : Nat) : Int)) then chk ((0 : Int) ≤ v_50970 ∧ v_50970 < ((slices_50074.length : Nat) : Int)) (chk ((((newslice_50967 ++ (nth slices_50074 v_50970)).length : Nat) : Int) * 32 ≤ 140737488355328 ∧ (((newslice_50967 ++ (nth slices_50074 v_50970)).length : Nat) : Int) ≤ 4611686018427387904) (m_slices_Concat_api_Curve_api_Bucket_L4 slices_50074 k_50919 n_50972 (newslice_50967 ++ (nth slices_50074 v_50970)) (i64 (v_50970 + 1)))) else k_50919 newslice_50967
theorem m_slices_Concat_api_Curve_api_Bucket_L4_fuel {n : Nat} {slices_50074 : List (List Sapi_Bucket)} {k_50919 : (List Sapi_Bucket) → Option (List Sapi_Bucket)} {newslice_50967 : List Sapi_Bucket} {v_50970 : Int} {r : List Sapi_Bucket} (h : m_slices_Concat_api_Curve_api_Bucket_L4 slices_50074 k_50919 n newslice_50967 v_50970 = some r) : ∃ m, n = m + 1 := by
  cases n with
  | zero => cases h
  | succ m => exact ⟨m, rfl⟩

/-- slices.Concat[api.Curve,api.Bucket] -/
def m_slices_Concat_api_Curve_api_Bucket (slices_50074 : List (List Sapi_Bucket)) : Option (List Sapi_Bucket) :=
  jp1 (fun (size_50695 : Int) => (m_slices_Grow_api_Curve_api_Bucket size_50695).bind fun x_50772 => jp1 (fun (newslice_50916 : List Sapi_Bucket) => some newslice_50916) fun k_50919 => m_slices_Concat_api_Curve_api_Bucket_L4 slices_50074 k_50919 FUEL x_50772 0) fun k_50696 => m_slices_Concat_api_Curve_api_Bucket_L3 slices_50074 k_50696 FUEL 0 0

set_option maxRecDepth 20000 in
theorem w_slices_Concat_api_Curve_api_Bucket (Z : Zp)  (ao_50075 : Option Addr) (cap_50076 : Nat) (slices_50074 : List (List Sapi_Bucket)) (r : List Sapi_Bucket) (w₀ : World) (hz : PZ [] w₀ Z)
    (hs_50077 : ZS Z 1 (p25 Z) ao_50075 cap_50076 slices_50074)
    (h : m_slices_Concat_api_Curve_api_Bucket slices_50074 = some r) :
    Calls Try.prog 60 #[(.slice ao_50075 slices_50074.length cap_50076)] w₀ fun e w' => ∃ ao_50585 : Option Addr, ∃ cap_50586 : Nat, e = .returned (.slice ao_50585 r.length cap_50586) ∧ True ∧ Hp [] w₀ w' [row (.slice ao_50585 r.length cap_50586) 42 4 (r.flatMap e42)] := by
  unfold m_slices_Concat_api_Curve_api_Bucket at h
  refine Calls.ofWC (vs := [(.slice ao_50075 slices_50074.length cap_50076)]) (pre := []) (env := [(0, (.slice ao_50075 slices_50074.length cap_50076))]) Try.func60 rfl Try.ntmps60 rfl (Hp.nil w₀ _) rfl ?_
  refine WC.seq ?_
  refine WC.region ?_
  refine WL.quiet (d := 2) rfl rfl rfl (q_assign rfl) ?_
  refine WL.nil ?_
  refine WX.then ?_
  refine WC.seq ?_
  refine WC.region ?_
  refine WL.quiet (d := 3) rfl rfl rfl (q_assign rfl) ?_
  refine WL.nil ?_
  refine WX.then ?_
  obtain ⟨k_50696, hk_50697, h⟩ := jp1_elim h
  refine WC.seqMid1 (fun (size_50695 : Int) => (k_50696 size_50695 = some r)) (fun (size_50695 : Int) => [(0, (.slice ao_50075 slices_50074.length cap_50076)), (3, (.int .i64 size_50695))]) (fun (size_50695 : Int) => []) ?_ ?_
  · skip
    refine WC.seq ?_
    refine WC.region ?_
    refine WL.quiet (d := 9) rfl rfl rfl (q_move rfl) ?_
    refine WL.quiet (d := 10) rfl rfl rfl (q_len Try.underlying105 rfl) ?_
    refine WL.quiet (d := 11) rfl rfl rfl (q_move rfl) ?_
    refine WL.nil ?_
    refine WX.then ?_
    refine WC.block ?_
    refine WC.loop3 (fun (n_50736 : Nat) (size_50734 : Int) (v_50735 : Int) => (m_slices_Concat_api_Curve_api_Bucket_L3 slices_50074 k_50696 n_50736 size_50734 v_50735 = some r)) (fun (n_50736 : Nat) (size_50734 : Int) (v_50735 : Int) => [(0, (.slice ao_50075 slices_50074.length cap_50076)), (3, (.int .i64 size_50734)), (9, (.slice ao_50075 slices_50074.length cap_50076)), (10, (.int .i64 ((slices_50074.length : Nat) : Int))), (11, (.int .i64 v_50735))]) (fun (n_50736 : Nat) (size_50734 : Int) (v_50735 : Int) => []) (fun (n_50736 : Nat) (size_50734 : Int) (v_50735 : Int) => n_50736) ⟨FUEL, 0, 0⟩ h (.cons rfl (.cons rfl (.cons rfl (.cons rfl (.cons rfl .nil))))) .nil ?_
    rintro n_50736 size_50734 v_50735 h
    obtain ⟨n_50737, rfl⟩ := m_slices_Concat_api_Curve_api_Bucket_L3_fuel h
    rw [m_slices_Concat_api_Curve_api_Bucket_L3] at h
    refine WC.seq ?_
    refine WC.region ?_
    refine WL.quiet (d := 12) rfl rfl rfl (q_lss rfl rfl) ?_
    refine WL.nil ?_
    refine WX.then ?_
    refine WC.seq ?_
    refine WC.cond rfl (fun hb_50739 => ?_) (fun hb_50739 => ?_)
    · replace h := ite_t h hb_50739
      refine WC.skip ?_
      refine WX.then ?_
      refine WC.seq ?_
      refine WC.block ?_
      refine WC.seq ?_
      obtain ⟨c_50756, h⟩ := chk_elim h
      refine WC.region ?_
      refine WL.znth (dd := 13) rfl rfl (Z := Z) (Pr := (p25 Z)) elT_105 rfl rfl hs_50077 c_50756 ?_
      rintro A_50764 r_50765 hA_50766 hl_50767 ⟨ao_50768, cap_50769, rfl, hs_50770⟩
      refine WL.quiet (d := 14) rfl rfl rfl (q_load1 oneT_25 rfl (rd_z hz.pv hA_50766 rfl)) ?_
      refine WL.quiet (d := 5) rfl rfl rfl (q_assign rfl) ?_
      refine WL.nil ?_
      refine WX.then ?_
      refine WC.seq ?_
      refine WC.region ?_
      refine WL.quiet (d := 15) rfl rfl rfl (q_move rfl) ?_
      refine WL.quiet (d := 16) rfl rfl rfl (q_move rfl) ?_
      refine WL.quiet (d := 17) rfl rfl rfl (q_len Try.underlying25 rfl) ?_
      refine WL.quiet (d := 18) rfl rfl rfl (q_add rfl rfl rfl) ?_
      refine WL.quiet (d := 3) rfl rfl rfl (q_assign rfl) ?_
      refine WL.nil ?_
      refine WX.then ?_
      refine WC.seq ?_
      refine WC.region ?_
      refine WL.quiet (d := 19) rfl rfl rfl (q_move rfl) ?_
      refine WL.quiet (d := 20) rfl rfl rfl (q_lss rfl rfl) ?_
      refine WL.nil ?_
      refine WX.then ?_
      refine WC.cond rfl (fun hb_50771 => ?_) (fun hb_50771 => ?_)
      · replace h := ite_t h hb_50771
        cases h
      · replace h := ite_f h hb_50771
        refine WC.skip ?_
        refine WX.blockNormal ?_
        refine WX.then ?_
        refine WC.region ?_
        refine WL.quiet (d := 22) rfl rfl rfl (q_add rfl rfl rfl) ?_
        refine WL.quiet (d := 11) rfl rfl rfl (q_move rfl) ?_
        refine WL.nil ?_
        exact WX.round (G := Nat × Int × Int) ⟨n_50737, (i64 (size_50734 + (((nth slices_50074 v_50735).length : Nat) : Int))), (i64 (v_50735 + 1))⟩ h (Nat.lt_succ_self _) (.cons rfl (.cons rfl (.cons rfl (.cons rfl (.cons rfl .nil))))) .nil
    · replace h := ite_f h hb_50739
      refine WC.exit ?_
      refine WX.thenExit ?_
      refine WX.thenExit ?_
      refine WX.blockHit ?_
      exact WX.mid (G := Int) size_50734 h (.cons rfl (.cons rfl .nil)) .nil
  · rintro size_50695 h
    replace h := (hk_50697 size_50695).symm.trans h
    refine WC.seq ?_
    obtain ⟨x_50772, hx_50773, h⟩ := bind_elim h
    refine WC.region ?_
    refine WL.quiet (d := 23) rfl rfl rfl (q_move rfl) ?_
    refine WL.enter2 (dd := 24) rfl rfl rfl (run_call (l := [.const (.slice none 0 0), .tmp 23]) Try.call79 (.cons rfl (.cons rfl .nil))) (.nil : Sel [] [] []) (fun w hw => by have pz := (hz.call hw (.nil : Sel [] [] [])); exact w_slices_Grow_api_Curve_api_Bucket (Z := _)  (n_50263 := size_50695) (r := x_50772) w pz  hx_50773) ?_
    rintro ao_50777 cap_50778 _
    refine WL.quiet (d := 6) rfl rfl rfl (q_assign rfl) ?_
    refine WL.nil ?_
    refine WX.then ?_
    obtain ⟨k_50919, hk_50920, h⟩ := jp1_elim h
    refine WC.seqMid3 (fun (newslice_50916 : List Sapi_Bucket) (ao_50917 : Option Addr) (cap_50918 : Nat) => (k_50919 newslice_50916 = some r)) (fun (newslice_50916 : List Sapi_Bucket) (ao_50917 : Option Addr) (cap_50918 : Nat) => [(6, (.slice ao_50917 newslice_50916.length cap_50918))]) (fun (newslice_50916 : List Sapi_Bucket) (ao_50917 : Option Addr) (cap_50918 : Nat) => [row (.slice ao_50917 newslice_50916.length cap_50918) 42 4 (newslice_50916.flatMap e42)]) ?_ ?_
    · skip
      refine WC.seq ?_
      refine WC.region ?_
      refine WL.quiet (d := 25) rfl rfl rfl (q_move rfl) ?_
      refine WL.quiet (d := 26) rfl rfl rfl (q_len Try.underlying105 rfl) ?_
      refine WL.quiet (d := 27) rfl rfl rfl (q_move rfl) ?_
      refine WL.nil ?_
      refine WX.then ?_
      refine WC.block ?_
      refine WC.loop5 (fun (n_50971 : Nat) (newslice_50967 : List Sapi_Bucket) (v_50970 : Int) (ao_50968 : Option Addr) (cap_50969 : Nat) => (m_slices_Concat_api_Curve_api_Bucket_L4 slices_50074 k_50919 n_50971 newslice_50967 v_50970 = some r)) (fun (n_50971 : Nat) (newslice_50967 : List Sapi_Bucket) (v_50970 : Int) (ao_50968 : Option Addr) (cap_50969 : Nat) => [(6, (.slice ao_50968 newslice_50967.length cap_50969)), (25, (.slice ao_50075 slices_50074.length cap_50076)), (26, (.int .i64 ((slices_50074.length : Nat) : Int))), (27, (.int .i64 v_50970))]) (fun (n_50971 : Nat) (newslice_50967 : List Sapi_Bucket) (v_50970 : Int) (ao_50968 : Option Addr) (cap_50969 : Nat) => [row (.slice ao_50968 newslice_50967.length cap_50969) 42 4 (newslice_50967.flatMap e42)]) (fun (n_50971 : Nat) (newslice_50967 : List Sapi_Bucket) (v_50970 : Int) (ao_50968 : Option Addr) (cap_50969 : Nat) => n_50971) ⟨FUEL, x_50772, 0, ao_50777, cap_50778⟩ h (.cons rfl (.cons rfl (.cons rfl (.cons rfl .nil)))) (.cons .here .nil) ?_
      rintro n_50971 newslice_50967 v_50970 ao_50968 cap_50969 h
      obtain ⟨n_50972, rfl⟩ := m_slices_Concat_api_Curve_api_Bucket_L4_fuel h
      rw [m_slices_Concat_api_Curve_api_Bucket_L4] at h
      refine WC.seq ?_
      refine WC.region ?_
      refine WL.quiet (d := 28) rfl rfl rfl (q_lss rfl rfl) ?_
      refine WL.nil ?_
      refine WX.then ?_
      refine WC.seq ?_
      refine WC.cond rfl (fun hb_50974 => ?_) (fun hb_50974 => ?_)
      · replace h := ite_t h hb_50974
        refine WC.skip ?_
        refine WX.then ?_
        refine WC.seq ?_
        refine WC.block ?_
        refine WC.seq ?_
        obtain ⟨c_50995, h⟩ := chk_elim h
        refine WC.region ?_
        refine WL.znth (dd := 29) rfl rfl (Z := Z) (Pr := (p25 Z)) elT_105 rfl rfl hs_50077 c_50995 ?_
        rintro A_51003 r_51004 hA_51005 hl_51006 ⟨ao_51007, cap_51008, rfl, hs_51009⟩
        refine WL.quiet (d := 30) rfl rfl rfl (q_load1 oneT_25 rfl (rd_z hz.pv hA_51005 rfl)) ?_
        refine WL.quiet (d := 8) rfl rfl rfl (q_assign rfl) ?_
        refine WL.nil ?_
        refine WX.then ?_
        obtain ⟨c_51010, h⟩ := chk_elim h
        refine WC.region ?_
        refine WL.quiet (d := 31) rfl rfl rfl (q_move rfl) ?_
        refine WL.quiet (d := 32) rfl rfl rfl (q_move rfl) ?_
        refine WL.eff (d := 33) rfl rfl rfl (e_appendF (enc := e42) (l1 := newslice_50967) (l2 := (nth slices_50074 v_50970)) elT_25 rfl rfl .here (fun _ => rfl) rfl rfl (news_z hz.pv hs_51009) (oc_flat e42_oc _) c_51010) ?_
        rintro ⟨ao_51013, cap_51014⟩ _
        refine WL.quiet (d := 6) rfl rfl rfl (q_assign rfl) ?_
        refine WL.nil ?_
        refine WX.blockNormal ?_
        refine WX.then ?_
        refine WC.region ?_
        refine WL.quiet (d := 34) rfl rfl rfl (q_add rfl rfl rfl) ?_
        refine WL.quiet (d := 27) rfl rfl rfl (q_move rfl) ?_
        refine WL.nil ?_
        exact WX.round (G := Nat × List Sapi_Bucket × Int × Option Addr × Nat) ⟨n_50972, (newslice_50967 ++ (nth slices_50074 v_50970)), (i64 (v_50970 + 1)), ao_51013, cap_51014⟩ h (Nat.lt_succ_self _) (.cons rfl (.cons rfl (.cons rfl (.cons rfl .nil)))) (.cons .here .nil)
      · replace h := ite_f h hb_50974
        refine WC.exit ?_
        refine WX.thenExit ?_
        refine WX.thenExit ?_
        refine WX.blockHit ?_
        exact WX.mid (G := List Sapi_Bucket × Option Addr × Nat) ⟨newslice_50967, ao_50968, cap_50969⟩ h (.cons rfl .nil) (.cons .here .nil)
    · rintro newslice_50916 ao_50917 cap_50918 h
      replace h := (hk_50920 newslice_50916).symm.trans h
      refine WC.seq ?_
      refine WC.region ?_
      refine WL.quiet (d := 35) rfl rfl rfl (q_move rfl) ?_
      refine WL.quiet (d := 2) rfl rfl rfl (q_assign rfl) ?_
      refine WL.nil ?_
      refine WX.then ?_
      refine WC.ret ?_
      obtain rfl := Option.some.inj h
      refine WX.bpRet Try.results60 (.tmp rfl .nil) (fun w hw => ?_)
      exact ⟨ao_50917, cap_50918, ret1 rfl, trivial, hw.sub (.cons .here .nil)⟩
/-- curve.Min -/
def m_curve_Min (a_50041 : List Sapi_Bucket) (b_50045 : List Sapi_Bucket) : Option (List Sapi_Bucket × Int) :=
  (m_curve_Valid a_50041).bind fun x_51052 => (if !x_51052 then some true else (m_curve_Valid b_50045).bind fun x_51054 => some (!x_51054)).bind fun b_51056 => if b_51056 then some (([] : List Sapi_Bucket), 2) else (m_slices_Concat_api_Curve_api_Bucket ([a_50041, b_50045] : List (List Sapi_Bucket))).bind fun x_51067 => (m_curve_norm x_51067).bind fun x_51072 => if decide (((x_51072.length : Nat) : Int) > 32) then some (([] : List Sapi_Bucket), 5) else some (x_51072, 0)

set_option maxRecDepth 20000 in
theorem w_curve_Min (Z : Zp)  (ao_50042 : Option Addr) (cap_50043 : Nat) (ao_50046 : Option Addr) (cap_50047 : Nat) (a_50041 : List Sapi_Bucket) (b_50045 : List Sapi_Bucket) (r : List Sapi_Bucket × Int) (w₀ : World) (hz : PZ [] w₀ Z)
    (hs_50044 : ZS Z 4 (fun r x => r = e42 x) ao_50042 cap_50043 a_50041)
    (hs_50048 : ZS Z 4 (fun r x => r = e42 x) ao_50046 cap_50047 b_50045)
    (h : m_curve_Min a_50041 b_50045 = some r) :
    Calls Try.prog 32 #[(.slice ao_50042 a_50041.length cap_50043), (.slice ao_50046 b_50045.length cap_50047)] w₀ fun e w' => ∃ ao_51038 : Option Addr, ∃ cap_51039 : Nat, e = .returned (.tuple #[(.slice ao_51038 r.1.length cap_51039), (.int .i64 r.2)]) ∧ True ∧ Hp [] w₀ w' [row (.slice ao_51038 r.1.length cap_51039) 42 4 (r.1.flatMap e42)] := by
  unfold m_curve_Min at h
  refine Calls.ofWC (vs := [(.slice ao_50042 a_50041.length cap_50043), (.slice ao_50046 b_50045.length cap_50047)]) (pre := []) (env := [(0, (.slice ao_50042 a_50041.length cap_50043)), (1, (.slice ao_50046 b_50045.length cap_50047))]) Try.func32 rfl Try.ntmps32 rfl (Hp.nil w₀ _) rfl ?_
  refine WC.seq ?_
  refine WC.region ?_
  refine WL.quiet (d := 4) rfl rfl rfl (q_assign rfl) ?_
  refine WL.quiet (d := 5) rfl rfl rfl (q_assign rfl) ?_
  refine WL.nil ?_
  refine WX.then ?_
  refine WC.seq ?_
  refine WC.seq ?_
  obtain ⟨x_51052, hx_51053, h⟩ := bind_elim h
  obtain ⟨b_51056, hb_51057, h⟩ := bind_elim h
  refine WC.region ?_
  refine WL.quiet (d := 7) rfl rfl rfl (q_move rfl) ?_
  refine WL.callD (dd := 8) rfl rfl rfl (run_call (l := [.tmp 7]) Try.call26 (.cons rfl .nil)) (.nil : Sel [] [] []) (fun w hw => by have pz := (hz.call hw (.nil : Sel [] [] [])); exact w_curve_Valid (Z := _) (ao_1187 := ao_50042) (cap_1188 := cap_50043) (c_1186 := a_50041) (r := x_51052) w pz hs_50044 hx_51053) ?_
  refine WL.quiet (d := 9) rfl rfl rfl (q_not rfl) ?_
  refine WL.quiet (d := 10) rfl rfl rfl (q_move rfl) ?_
  refine WL.cut0 True [(0, (.slice ao_50042 a_50041.length cap_50043)), (1, (.slice ao_50046 b_50045.length cap_50047)), (14, (.bool b_51056))] [] 4 ?_ (fun _ => ?_)
  · rcases Bool.eq_false_or_eq_true (!x_51052) with hb' | hb'
    · have hg_51058 := hb'; clear hb'
      have hq_51059 := ite_t hb_51057 hg_51058
      replace hq_51059 := Option.some.inj hq_51059
      refine WL.pin (i := 10) rfl hg_51058 ?_
      refine WL.skip rfl rfl rfl ?_
      refine WL.skip rfl rfl rfl ?_
      refine WL.skip rfl rfl rfl ?_
      refine WL.quiet (d := 14) rfl rfl rfl (q_pickT rfl rfl) ?_
      exact WL.cutEnd () trivial (.cons rfl (.cons rfl (.cons (some_bool hq_51059) .nil))) .nil
    · have hg_51060 := hb'; clear hb'
      have hq_51061 := ite_f hb_51057 hg_51060
      obtain ⟨x_51054, hx_51055, hq_51061⟩ := bind_elim hq_51061
      replace hq_51061 := Option.some.inj hq_51061
      refine WL.pin (i := 10) rfl hg_51060 ?_
      refine WL.quiet (d := 11) rfl rfl rfl (q_move rfl) ?_
      refine WL.callD (dd := 12) rfl rfl rfl (run_call (l := [.tmp 11]) Try.call26 (.cons rfl .nil)) (.nil : Sel [] [] []) (fun w hw => by have pz := (hz.call hw (.nil : Sel [] [] [])); exact w_curve_Valid (Z := _) (ao_1187 := ao_50046) (cap_1188 := cap_50047) (c_1186 := b_50045) (r := x_51054) w pz hs_50048 hx_51055) ?_
      refine WL.quiet (d := 13) rfl rfl rfl (q_not rfl) ?_
      refine WL.quiet (d := 14) rfl rfl rfl (q_pickF rfl rfl) ?_
      exact WL.cutEnd () trivial (.cons rfl (.cons rfl (.cons (some_bool hq_51061) .nil))) .nil
  · skip
    refine WL.nil ?_
    refine WX.then ?_
    refine WC.cond rfl (fun hb_51062 => ?_) (fun hb_51062 => ?_)
    · replace h := ite_t h hb_51062
      refine WC.seq ?_
      refine WC.region ?_
      refine WL.quiet (d := 4) rfl rfl rfl (q_assign rfl) ?_
      refine WL.quiet (d := 5) rfl rfl rfl (q_assign rfl) ?_
      refine WL.nil ?_
      refine WX.then ?_
      refine WC.ret ?_
      refine WX.thenRet ?_
      refine WX.nilRow 42 4 ?_
      obtain rfl := Option.some.inj h
      refine WX.bpRet Try.results32 (.tmp rfl (.tmp rfl .nil)) (fun w hw => ?_)
      exact ⟨none, 0, ret2 rfl rfl, trivial, hw.sub (.cons .here .nil)⟩
    · replace h := ite_f h hb_51062
      refine WC.skip ?_
      refine WX.then ?_
      refine WC.seq ?_
      obtain ⟨x_51067, hx_51068, h⟩ := bind_elim h
      obtain ⟨x_51072, hx_51073, h⟩ := bind_elim h
      refine WC.region ?_
      refine WL.quiet (d := 15) rfl rfl rfl (q_move rfl) ?_
      refine WL.quiet (d := 16) rfl rfl rfl (q_move rfl) ?_
      have rel_51078 : RR 1 (p25 Z) [(.slice ao_50042 a_50041.length cap_50043), (.slice ao_50046 b_50045.length cap_50047)] ([a_50041, b_50045] : List (List Sapi_Bucket)) := (RR.cons (r := [(.slice ao_50042 a_50041.length cap_50043)]) rfl (show p25 _ _ _ from ⟨_, _, rfl, hs_50044⟩) (RR.cons (r := [(.slice ao_50046 b_50045.length cap_50047)]) rfl (show p25 _ _ _ from ⟨_, _, rfl, hs_50048⟩) (RR.nil _ _)))
      refine WL.new (dd := 17) rfl rfl rfl (e_buildSlice (cs := [(.slice ao_50042 a_50041.length cap_50043), (.slice ao_50046 b_50045.length cap_50047)]) elT_105 (Eos.parts (l := [.tmp 15, .tmp 16]) (.cons rfl (.cons rfl .nil)) [0, 1]) (fun _ => by kernel_rfl) rfl (by unfold maxLen; omega)) ?_
      intro b_51077 _
      refine WL.enter2 (dd := 18) rfl rfl rfl (run_call (l := [.tmp 17]) Try.call60 (.cons rfl .nil)) (.nil : Sel [row (.slice (some ⟨b_51077, 0, none⟩) (([a_50041, b_50045] : List (List Sapi_Bucket)).length) 2) 25 1 [(.slice ao_50042 a_50041.length cap_50043), (.slice ao_50046 b_50045.length cap_50047)]] [] [row (.slice (some ⟨b_51077, 0, none⟩) (([a_50041, b_50045] : List (List Sapi_Bucket)).length) 2) 25 1 [(.slice ao_50042 a_50041.length cap_50043), (.slice ao_50046 b_50045.length cap_50047)]]) (fun w hw => by have pz := (hz.call hw (.nil : Sel [row (.slice (some ⟨b_51077, 0, none⟩) (([a_50041, b_50045] : List (List Sapi_Bucket)).length) 2) 25 1 [(.slice ao_50042 a_50041.length cap_50043), (.slice ao_50046 b_50045.length cap_50047)]] [] [row (.slice (some ⟨b_51077, 0, none⟩) (([a_50041, b_50045] : List (List Sapi_Bucket)).length) 2) 25 1 [(.slice ao_50042 a_50041.length cap_50043), (.slice ao_50046 b_50045.length cap_50047)]])).lend hw (.nil : Sel [row (.slice (some ⟨b_51077, 0, none⟩) (([a_50041, b_50045] : List (List Sapi_Bucket)).length) 2) 25 1 [(.slice ao_50042 a_50041.length cap_50043), (.slice ao_50046 b_50045.length cap_50047)]] [] [row (.slice (some ⟨b_51077, 0, none⟩) (([a_50041, b_50045] : List (List Sapi_Bucket)).length) 2) 25 1 [(.slice ao_50042 a_50041.length cap_50043), (.slice ao_50046 b_50045.length cap_50047)]]) (B := [row (.slice (some ⟨b_51077, 0, none⟩) (([a_50041, b_50045] : List (List Sapi_Bucket)).length) 2) 25 1 [(.slice ao_50042 a_50041.length cap_50043), (.slice ao_50046 b_50045.length cap_50047)]]) (fun _ hx' => ((.cons .here .nil) : Sel _ [row (.slice (some ⟨b_51077, 0, none⟩) (([a_50041, b_50045] : List (List Sapi_Bucket)).length) 2) 25 1 [(.slice ao_50042 a_50041.length cap_50043), (.slice ao_50046 b_50045.length cap_50047)]] _).mem hx'); exact w_slices_Concat_api_Curve_api_Bucket (Z := _) (ao_50075 := (some ⟨b_51077, 0, none⟩)) (cap_50076 := 2) (slices_50074 := ([a_50041, b_50045] : List (List Sapi_Bucket))) (r := x_51067) w pz (ZA.row (hw.lent (.nil : Sel [row (.slice (some ⟨b_51077, 0, none⟩) (([a_50041, b_50045] : List (List Sapi_Bucket)).length) 2) 25 1 [(.slice ao_50042 a_50041.length cap_50043), (.slice ao_50046 b_50045.length cap_50047)]] [] [row (.slice (some ⟨b_51077, 0, none⟩) (([a_50041, b_50045] : List (List Sapi_Bucket)).length) 2) 25 1 [(.slice ao_50042 a_50041.length cap_50043), (.slice ao_50046 b_50045.length cap_50047)]]) (B := [row (.slice (some ⟨b_51077, 0, none⟩) (([a_50041, b_50045] : List (List Sapi_Bucket)).length) 2) 25 1 [(.slice ao_50042 a_50041.length cap_50043), (.slice ao_50046 b_50045.length cap_50047)]]) (fun _ hx' => ((.cons .here .nil) : Sel _ [row (.slice (some ⟨b_51077, 0, none⟩) (([a_50041, b_50045] : List (List Sapi_Bucket)).length) 2) 25 1 [(.slice ao_50042 a_50041.length cap_50043), (.slice ao_50046 b_50045.length cap_50047)]] _).mem hx') (.head _) _) (rel_51078.weak (fun _ _ h => p25_mono (Zle.left _ _) h)) ⟨w, pz.1⟩) hx_51068) ?_
      rintro ao_51080 cap_51081 _
      refine WL.enter2 (dd := 19) rfl rfl rfl (run_call (l := [.tmp 18]) Try.call45 (.cons rfl .nil)) (.nil : Sel [row (.slice ao_51080 x_51067.length cap_51081) 42 4 (x_51067.flatMap e42), row (.slice (some ⟨b_51077, 0, none⟩) (([a_50041, b_50045] : List (List Sapi_Bucket)).length) 2) 25 1 [(.slice ao_50042 a_50041.length cap_50043), (.slice ao_50046 b_50045.length cap_50047)]] [] [row (.slice ao_51080 x_51067.length cap_51081) 42 4 (x_51067.flatMap e42), row (.slice (some ⟨b_51077, 0, none⟩) (([a_50041, b_50045] : List (List Sapi_Bucket)).length) 2) 25 1 [(.slice ao_50042 a_50041.length cap_50043), (.slice ao_50046 b_50045.length cap_50047)]]) (fun w hw => by have pz := (hz.call hw (.nil : Sel [row (.slice ao_51080 x_51067.length cap_51081) 42 4 (x_51067.flatMap e42), row (.slice (some ⟨b_51077, 0, none⟩) (([a_50041, b_50045] : List (List Sapi_Bucket)).length) 2) 25 1 [(.slice ao_50042 a_50041.length cap_50043), (.slice ao_50046 b_50045.length cap_50047)]] [] [row (.slice ao_51080 x_51067.length cap_51081) 42 4 (x_51067.flatMap e42), row (.slice (some ⟨b_51077, 0, none⟩) (([a_50041, b_50045] : List (List Sapi_Bucket)).length) 2) 25 1 [(.slice ao_50042 a_50041.length cap_50043), (.slice ao_50046 b_50045.length cap_50047)]])).lend hw (.nil : Sel [row (.slice ao_51080 x_51067.length cap_51081) 42 4 (x_51067.flatMap e42), row (.slice (some ⟨b_51077, 0, none⟩) (([a_50041, b_50045] : List (List Sapi_Bucket)).length) 2) 25 1 [(.slice ao_50042 a_50041.length cap_50043), (.slice ao_50046 b_50045.length cap_50047)]] [] [row (.slice ao_51080 x_51067.length cap_51081) 42 4 (x_51067.flatMap e42), row (.slice (some ⟨b_51077, 0, none⟩) (([a_50041, b_50045] : List (List Sapi_Bucket)).length) 2) 25 1 [(.slice ao_50042 a_50041.length cap_50043), (.slice ao_50046 b_50045.length cap_50047)]]) (B := [row (.slice ao_51080 x_51067.length cap_51081) 42 4 (x_51067.flatMap e42)]) (fun _ hx' => ((.cons .here .nil) : Sel _ [row (.slice ao_51080 x_51067.length cap_51081) 42 4 (x_51067.flatMap e42)] _).mem hx'); exact w_curve_norm (Z := _) (ao_3789 := ao_51080) (cap_3790 := cap_51081) (c_3788 := x_51067) (r := x_51072) w pz (ZA.row (hw.lent (.nil : Sel [row (.slice ao_51080 x_51067.length cap_51081) 42 4 (x_51067.flatMap e42), row (.slice (some ⟨b_51077, 0, none⟩) (([a_50041, b_50045] : List (List Sapi_Bucket)).length) 2) 25 1 [(.slice ao_50042 a_50041.length cap_50043), (.slice ao_50046 b_50045.length cap_50047)]] [] [row (.slice ao_51080 x_51067.length cap_51081) 42 4 (x_51067.flatMap e42), row (.slice (some ⟨b_51077, 0, none⟩) (([a_50041, b_50045] : List (List Sapi_Bucket)).length) 2) 25 1 [(.slice ao_50042 a_50041.length cap_50043), (.slice ao_50046 b_50045.length cap_50047)]]) (B := [row (.slice ao_51080 x_51067.length cap_51081) 42 4 (x_51067.flatMap e42)]) (fun _ hx' => ((.cons .here .nil) : Sel _ [row (.slice ao_51080 x_51067.length cap_51081) 42 4 (x_51067.flatMap e42)] _).mem hx') (.head _) _) (RR.flat (enc := e42) (fun _ => rfl) _) ⟨w, pz.1⟩) hx_51073) ?_
      rintro ao_51083 cap_51084 _
      refine WL.quiet (d := 6) rfl rfl rfl (q_assign rfl) ?_
      refine WL.nil ?_
      refine WX.then ?_
      refine WC.seq ?_
      refine WC.seq ?_
      refine WC.region ?_
      refine WL.quiet (d := 20) rfl rfl rfl (q_move rfl) ?_
      refine WL.quiet (d := 21) rfl rfl rfl (q_len Try.underlying25 rfl) ?_
      refine WL.quiet (d := 22) rfl rfl rfl (q_gtr rfl rfl) ?_
      refine WL.nil ?_
      refine WX.then ?_
      refine WC.cond rfl (fun hb_51087 => ?_) (fun hb_51087 => ?_)
      · replace h := ite_t h hb_51087
        refine WC.seq ?_
        refine WC.region ?_
        refine WL.quiet (d := 4) rfl rfl rfl (q_assign rfl) ?_
        refine WL.quiet (d := 5) rfl rfl rfl (q_assign rfl) ?_
        refine WL.nil ?_
        refine WX.then ?_
        refine WC.ret ?_
        refine WX.thenRet ?_
        refine WX.nilRow 42 4 ?_
        obtain rfl := Option.some.inj h
        refine WX.bpRet Try.results32 (.tmp rfl (.tmp rfl .nil)) (fun w hw => ?_)
        exact ⟨none, 0, ret2 rfl rfl, trivial, hw.sub (.cons .here .nil)⟩
      · replace h := ite_f h hb_51087
        refine WC.skip ?_
        refine WX.then ?_
        refine WC.seq ?_
        refine WC.region ?_
        refine WL.quiet (d := 23) rfl rfl rfl (q_move rfl) ?_
        refine WL.quiet (d := 4) rfl rfl rfl (q_assign rfl) ?_
        refine WL.quiet (d := 5) rfl rfl rfl (q_assign rfl) ?_
        refine WL.nil ?_
        refine WX.then ?_
        refine WC.ret ?_
        obtain rfl := Option.some.inj h
        refine WX.bpRet Try.results32 (.tmp rfl (.tmp rfl .nil)) (fun w hw => ?_)
        exact ⟨ao_51083, cap_51084, ret2 rfl rfl, trivial, hw.sub (.cons .here .nil)⟩
end Go.Proofs.Ytbihfglmcjkdhaa
