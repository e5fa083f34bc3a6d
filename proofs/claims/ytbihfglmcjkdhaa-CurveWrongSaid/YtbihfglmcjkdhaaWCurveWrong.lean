/- A part of this claim's proof: models of functions, walks, plain laws. No conditions. -/
import Derived.Test.YtbihfglmcjkdhaaW02f
namespace Go.Proofs.Ytbihfglmcjkdhaa
open Go Go.RowKit Sep
set_option linter.all false
set_option maxRecDepth 30000
set_option maxHeartbeats 4000000
def m_law02_CurveWrong_L5 (x_63794 : List Sapi_Bucket) (k_63979 : (List Sapi_Bucket) → Option Bool) : Nat → (List Sapi_Bucket) → Int → Option Bool
  | 0, _, _ => none
  | n_64000 + 1, bad_63997, v_63998 => if decide (v_63998 < (((List.replicate (33 : Int).toNat ((⟨(⟨0, 0⟩ : Sapi_Rat), (⟨0, 0⟩ : Sapi_Rat)⟩ : Sapi_Bucket) : Sapi_Bucket)).length : Nat) : Int)) then chk ((0 : Int) ≤ 0 ∧ 0 < ((x_63794.length : Nat) : Int)) (chk ((0 : Int) ≤ v_63998 ∧ v_63998 < ((bad_63997.length : Nat) : Int)) (m_law02_CurveWrong_L5 x_63794 k_63979 n_64000 (bad_63997.set (v_63998 : Int).toNat (⟨(⟨(((nth x_63794 0).fBurst).fN), (((nth x_63794 0).fBurst).fD)⟩ : Sapi_Rat), (⟨(((nth x_63794 0).fRate).fN), (((nth x_63794 0).fRate).fD)⟩ : Sapi_Rat)⟩ : Sapi_Bucket)) (i64 (v_63998 + 1)))) else k_63979 bad_63997
theorem m_law02_CurveWrong_L5_fuel {n : Nat} {x_63794 : List Sapi_Bucket} {k_63979 : (List Sapi_Bucket) → Option Bool} {bad_63997 : List Sapi_Bucket} {v_63998 : Int} {r : Bool} (h : m_law02_CurveWrong_L5 x_63794 k_63979 n bad_63997 v_63998 = some r) : ∃ m, n = m + 1 := by
  cases n with
  | zero => cases h
  | succ m => exact ⟨m, rfl⟩

def m_law02_CurveWrong_L6 (x_64013 : Sapi_Rat × Int) (x_64017 : List Sapi_Bucket × Int) (x_64028 : List Sapi_Rat × Int) (x_64046 : List Sapi_Bucket × Int) (x_64061 : List Sapi_Bucket × Int) (x_64071 : List Sapi_Bucket × Int) (x_64079 : Sapi_Rat × Int) (x_64085 : Sapi_Rat × Int) (x_64091 : List Sapi_Bucket × Int) (k_64123 : Option Bool) : Nat → Int → Option Bool
  | 0, _ => none
  | n_64142 + 1, v_64140 => if decide (v_64140 < ((([x_64013.2, x_64017.2, x_64028.2, x_64046.2, x_64061.2, x_64071.2, x_64079.2, x_64085.2, x_64091.2] : List Int).length : Nat) : Int)) then chk ((0 : Int) ≤ v_64140 ∧ v_64140 < ((([x_64013.2, x_64017.2, x_64028.2, x_64046.2, x_64061.2, x_64071.2, x_64079.2, x_64085.2, x_64091.2] : List Int).length : Nat) : Int)) (if decide ((nth ([x_64013.2, x_64017.2, x_64028.2, x_64046.2, x_64061.2, x_64071.2, x_64079.2, x_64085.2, x_64091.2] : List Int) v_64140) ≠ 2) then some false else m_law02_CurveWrong_L6 x_64013 x_64017 x_64028 x_64046 x_64061 x_64071 x_64079 x_64085 x_64091 k_64123 n_64142 (i64 (v_64140 + 1))) else k_64123
theorem m_law02_CurveWrong_L6_fuel {n : Nat} {x_64013 : Sapi_Rat × Int} {x_64017 : List Sapi_Bucket × Int} {x_64028 : List Sapi_Rat × Int} {x_64046 : List Sapi_Bucket × Int} {x_64061 : List Sapi_Bucket × Int} {x_64071 : List Sapi_Bucket × Int} {x_64079 : Sapi_Rat × Int} {x_64085 : Sapi_Rat × Int} {x_64091 : List Sapi_Bucket × Int} {k_64123 : Option Bool} {v_64140 : Int} {r : Bool} (h : m_law02_CurveWrong_L6 x_64013 x_64017 x_64028 x_64046 x_64061 x_64071 x_64079 x_64085 x_64091 k_64123 n v_64140 = some r) : ∃ m, n = m + 1 := by
  cases n with
  | zero => cases h
  | succ m => exact ⟨m, rfl⟩

def m_law02_CurveWrong_L7 (k_64239 : (List Sapi_Bucket) → Option Bool) : Nat → (List Sapi_Bucket) → Int → Option Bool
  | 0, _, _ => none
  | n_64277 + 1, wide_64271, v_64274 => if decide (v_64274 < 17) then (m_law02_num v_64274 1).bind fun x_64291 => (m_law02_num (i64 (20 - v_64274)) 1).bind fun x_64293 => chk ((((wide_64271 ++ ([(⟨x_64291, x_64293⟩ : Sapi_Bucket)] : List Sapi_Bucket)).length : Nat) : Int) * 32 ≤ 140737488355328 ∧ (((wide_64271 ++ ([(⟨x_64291, x_64293⟩ : Sapi_Bucket)] : List Sapi_Bucket)).length : Nat) : Int) ≤ 4611686018427387904) (m_law02_CurveWrong_L7 k_64239 n_64277 (wide_64271 ++ ([(⟨x_64291, x_64293⟩ : Sapi_Bucket)] : List Sapi_Bucket)) (i64 (v_64274 + 1))) else k_64239 wide_64271
theorem m_law02_CurveWrong_L7_fuel {n : Nat} {k_64239 : (List Sapi_Bucket) → Option Bool} {wide_64271 : List Sapi_Bucket} {v_64274 : Int} {r : Bool} (h : m_law02_CurveWrong_L7 k_64239 n wide_64271 v_64274 = some r) : ∃ m, n = m + 1 := by
  cases n with
  | zero => cases h
  | succ m => exact ⟨m, rfl⟩

/-- nacellelaw02.CurveWrong -/
def m_law02_CurveWrong (m_63206 : List Int) (at_63210 : Int) (way_63211 : Int) : Option Bool :=
  (m_law02_Small m_63206).bind fun x_63794 => chk ((((([] : List Sapi_Bucket) ++ x_63794).length : Nat) : Int) * 32 ≤ 140737488355328 ∧ (((([] : List Sapi_Bucket) ++ x_63794).length : Nat) : Int) ≤ 4611686018427387904) (chk (((((([] : List Sapi_Bucket) ++ x_63794).length : Nat) : Int) : Int) ≠ 0) (jp1 (fun (bad_63909 : List Sapi_Bucket) => (m_law02_num 1 1).bind fun x_64011 => (m_curve_At bad_63909 x_64011).bind fun x_64013 => (m_curve_Norm bad_63909).bind fun x_64017 => (m_curve_Breaks bad_63909).bind fun x_64028 => (m_curve_Sum x_63794 bad_63909).bind fun x_64046 => (m_curve_Min bad_63909 x_63794).bind fun x_64061 => (m_law02_num 1 1).bind fun x_64069 => (m_curve_Shift bad_63909 x_64069).bind fun x_64071 => (m_curve_Rate bad_63909).bind fun x_64079 => (m_law02_num (-1) 1).bind fun x_64083 => (m_curve_At x_63794 x_64083).bind fun x_64085 => (m_law02_num 1 0).bind fun x_64089 => (m_curve_Shift x_63794 x_64089).bind fun x_64091 => jp0 (jp1 (fun (wide_64236 : List Sapi_Bucket) => (m_law02_num 50 1).bind fun x_64302 => (m_law02_num 1 1).bind fun x_64304 => (m_law02_num 51 1).bind fun x_64306 => (m_law02_num 0 1).bind fun x_64308 => (m_curve_Sum wide_64236 ([(⟨x_64302, x_64304⟩ : Sapi_Bucket), (⟨x_64306, x_64308⟩ : Sapi_Bucket)] : List Sapi_Bucket)).bind fun x_64318 => chk ((0 : Int) ≤ 0 ∧ (0 : Int) ≤ 16 ∧ 16 ≤ ((wide_64236.length : Nat) : Int)) ((m_curve_Sum (wide_64236.take (16 : Int).toNat) ([(⟨x_64302, x_64304⟩ : Sapi_Bucket), (⟨x_64306, x_64308⟩ : Sapi_Bucket)] : List Sapi_Bucket)).bind fun x_64340 => (m_curve_Valid bad_63909).bind fun x_64355 => (if ((!x_64355) && (decide (x_64318.2 = 5))) && (decide (x_64340.2 = 0)) then (m_law02_awake).bind fun x_64357 => some x_64357 else some false).bind fun b_64361 => some b_64361)) fun k_64239 => m_law02_CurveWrong_L7 k_64239 FUEL ([] : List Sapi_Bucket) 0) fun k_64123 => m_law02_CurveWrong_L6 x_64013 x_64017 x_64028 x_64046 x_64061 x_64071 x_64079 x_64085 x_64091 k_64123 FUEL 0) fun k_63912 => if decide ((Int.tmod way_63211 5) = 0) then (m_law02_num 2 4).bind fun x_63915 => chk ((0 : Int) ≤ (Int.tmod (i64 at_63210) (((([] : List Sapi_Bucket) ++ x_63794).length : Nat) : Int)) ∧ (Int.tmod (i64 at_63210) (((([] : List Sapi_Bucket) ++ x_63794).length : Nat) : Int)) < (((([] : List Sapi_Bucket) ++ x_63794).length : Nat) : Int)) (k_63912 ((([] : List Sapi_Bucket) ++ x_63794).set ((Int.tmod (i64 at_63210) (((([] : List Sapi_Bucket) ++ x_63794).length : Nat) : Int)) : Int).toNat (⟨x_63915, (⟨(((nth (([] : List Sapi_Bucket) ++ x_63794) (Int.tmod (i64 at_63210) (((([] : List Sapi_Bucket) ++ x_63794).length : Nat) : Int))).fRate).fN), (((nth (([] : List Sapi_Bucket) ++ x_63794) (Int.tmod (i64 at_63210) (((([] : List Sapi_Bucket) ++ x_63794).length : Nat) : Int))).fRate).fD)⟩ : Sapi_Rat)⟩ : Sapi_Bucket))) else if decide ((Int.tmod way_63211 5) = 1) then (m_law02_num (-1) 2).bind fun x_63921 => chk ((0 : Int) ≤ (Int.tmod (i64 at_63210) (((([] : List Sapi_Bucket) ++ x_63794).length : Nat) : Int)) ∧ (Int.tmod (i64 at_63210) (((([] : List Sapi_Bucket) ++ x_63794).length : Nat) : Int)) < (((([] : List Sapi_Bucket) ++ x_63794).length : Nat) : Int)) (k_63912 ((([] : List Sapi_Bucket) ++ x_63794).set ((Int.tmod (i64 at_63210) (((([] : List Sapi_Bucket) ++ x_63794).length : Nat) : Int)) : Int).toNat (⟨(⟨(((nth (([] : List Sapi_Bucket) ++ x_63794) (Int.tmod (i64 at_63210) (((([] : List Sapi_Bucket) ++ x_63794).length : Nat) : Int))).fBurst).fN), (((nth (([] : List Sapi_Bucket) ++ x_63794) (Int.tmod (i64 at_63210) (((([] : List Sapi_Bucket) ++ x_63794).length : Nat) : Int))).fBurst).fD)⟩ : Sapi_Rat), x_63921⟩ : Sapi_Bucket))) else if decide ((Int.tmod way_63211 5) = 2) then chk ((0 : Int) ≤ (Int.tmod (i64 at_63210) (((([] : List Sapi_Bucket) ++ x_63794).length : Nat) : Int)) ∧ (Int.tmod (i64 at_63210) (((([] : List Sapi_Bucket) ++ x_63794).length : Nat) : Int)) < (((([] : List Sapi_Bucket) ++ x_63794).length : Nat) : Int)) (k_63912 ((([] : List Sapi_Bucket) ++ x_63794).set ((Int.tmod (i64 at_63210) (((([] : List Sapi_Bucket) ++ x_63794).length : Nat) : Int)) : Int).toNat (⟨(⟨0, 0⟩ : Sapi_Rat), (⟨(((nth (([] : List Sapi_Bucket) ++ x_63794) (Int.tmod (i64 at_63210) (((([] : List Sapi_Bucket) ++ x_63794).length : Nat) : Int))).fRate).fN), (((nth (([] : List Sapi_Bucket) ++ x_63794) (Int.tmod (i64 at_63210) (((([] : List Sapi_Bucket) ++ x_63794).length : Nat) : Int))).fRate).fD)⟩ : Sapi_Rat)⟩ : Sapi_Bucket))) else if decide ((Int.tmod way_63211 5) = 3) then k_63912 ([] : List Sapi_Bucket) else if decide ((Int.tmod way_63211 5) = 4) then chk ((0 : Int) ≤ 33 ∧ (33 : Int) ≤ 33 ∧ (33 : Int) * 32 ≤ 140737488355328 ∧ (33 : Int) ≤ 4611686018427387904) (jp1 (fun (bad_63978 : List Sapi_Bucket) => k_63912 bad_63978) fun k_63979 => m_law02_CurveWrong_L5 x_63794 k_63979 FUEL (List.replicate (33 : Int).toNat ((⟨(⟨0, 0⟩ : Sapi_Rat), (⟨0, 0⟩ : Sapi_Rat)⟩ : Sapi_Bucket) : Sapi_Bucket)) 0) else k_63912 (([] : List Sapi_Bucket) ++ x_63794)))

set_option maxRecDepth 20000 in
theorem w_law02_CurveWrong (Z : Zp)  (ao_63207 : Option Addr) (cap_63208 : Nat) (m_63206 : List Int) (at_63210 : Int) (way_63211 : Int) (r : Bool) (w₀ : World) (hz : PZ [] w₀ Z)
    (hs_63209 : ZS Z 1 (fun r x => r = e5 x) ao_63207 cap_63208 m_63206)
    (h : m_law02_CurveWrong m_63206 at_63210 way_63211 = some r) :
    Calls Try.prog 9 #[(.slice ao_63207 m_63206.length cap_63208), (.int .u8 at_63210), (.int .u8 way_63211)] w₀ fun e w' => ∃ Zn : Zp, e = .returned (.bool r) ∧ True ∧ Hp [] w₀ w' [fz Zn] := by
  unfold m_law02_CurveWrong at h
  refine Calls.ofWC (vs := [(.slice ao_63207 m_63206.length cap_63208), (.int .u8 at_63210), (.int .u8 way_63211)]) (pre := []) (env := [(0, (.slice ao_63207 m_63206.length cap_63208)), (1, (.int .u8 at_63210)), (2, (.int .u8 way_63211))]) Try.func9 rfl Try.ntmps9 rfl (Hp.nil w₀ _) rfl ?_
  refine WC.pool ?_
  refine WC.seq ?_
  refine WC.region ?_
  refine WL.quiet (d := 6) rfl rfl rfl (q_assign rfl) ?_
  refine WL.nil ?_
  refine WX.then ?_
  refine WC.seq ?_
  obtain ⟨x_63794, hx_63795, h⟩ := bind_elim h
  refine WC.region ?_
  refine WL.quiet (d := 38) rfl rfl rfl (q_move rfl) ?_
  refine WL.enter2 (dd := 39) rfl rfl rfl (run_call (l := [.tmp 38]) Try.call10 (.cons rfl .nil)) (.nil : Sel [fz []] [] [fz []]) (fun w hw => by have pz := (hz.call2 hw (.nil : Sel [fz []] [] [fz []]) .here); exact w_law02_Small (Z := _) (ao_8 := ao_63207) (cap_9 := cap_63208) (nums_7 := m_63206) (r := x_63794) w pz (hs_63209.mono (Zle.left _ _)) hx_63795) ?_
  rintro ao_63799 cap_63800 _
  refine WL.quiet (d := 7) rfl rfl rfl (q_assign rfl) ?_
  refine WL.nil ?_
  refine WX.then ?_
  refine WC.seq ?_
  obtain ⟨c_63803, h⟩ := chk_elim h
  refine WC.region ?_
  refine WL.new (dd := 40) rfl rfl rfl (e_buildSlice (cs := ([] : List Sapi_Bucket).flatMap e42) elT_25 (Eos.parts (l := []) .nil []) (fun _ => by kernel_rfl) rfl (by unfold maxLen; omega)) ?_
  intro b_63806 _
  refine WL.quiet (d := 41) rfl rfl rfl (q_move rfl) ?_
  refine WL.eff (d := 42) rfl rfl rfl (e_appendF (enc := e42) (l1 := ([] : List Sapi_Bucket)) (l2 := x_63794) elT_25 rfl rfl .here (fun _ => rfl) rfl rfl (news_row (.there .here)) (oc_flat e42_oc _) c_63803) ?_
  rintro ⟨ao_63807, cap_63808⟩ _
  refine WL.quiet (d := 8) rfl rfl rfl (q_assign rfl) ?_
  refine WL.nil ?_
  refine WX.then ?_
  refine WC.seq ?_
  obtain ⟨c_63809, h⟩ := chk_elim h
  refine WC.region ?_
  refine WL.quiet (d := 43) rfl rfl rfl (q_move rfl) ?_
  refine WL.quiet (d := 44) rfl rfl rfl (q_conv Try.underlying5 Try.underlying3 rfl rfl) ?_
  refine WL.quiet (d := 45) rfl rfl rfl (q_move rfl) ?_
  refine WL.quiet (d := 46) rfl rfl rfl (q_len Try.underlying25 rfl) ?_
  refine WL.quiet (d := 47) rfl rfl rfl (q_rem rfl rfl c_63809 rfl) ?_
  refine WL.quiet (d := 9) rfl rfl rfl (q_assign rfl) ?_
  refine WL.nil ?_
  refine WX.then ?_
  obtain ⟨k_63912, hk_63913, h⟩ := jp1_elim h
  refine WC.seqMid5 (fun (bad_63909 : List Sapi_Bucket) (ao_63906 : Option Addr) (cap_63907 : Nat) (ao_63910 : Option Addr) (cap_63911 : Nat) => (k_63912 bad_63909 = some r)) (fun (bad_63909 : List Sapi_Bucket) (ao_63906 : Option Addr) (cap_63907 : Nat) (ao_63910 : Option Addr) (cap_63911 : Nat) => [(7, (.slice ao_63906 x_63794.length cap_63907)), (8, (.slice ao_63910 bad_63909.length cap_63911))]) (fun (bad_63909 : List Sapi_Bucket) (ao_63906 : Option Addr) (cap_63907 : Nat) (ao_63910 : Option Addr) (cap_63911 : Nat) => [fz [], row (.slice ao_63906 x_63794.length cap_63907) 42 4 (x_63794.flatMap e42), row (.slice ao_63910 bad_63909.length cap_63911) 42 4 (bad_63909.flatMap e42)]) ?_ ?_
  · skip
    refine WC.seq ?_
    refine WC.region ?_
    refine WL.quiet (d := 48) rfl rfl rfl (q_move rfl) ?_
    refine WL.quiet (d := 49) rfl rfl rfl (q_rem rfl rfl (by decide) rfl) ?_
    refine WL.nil ?_
    refine WX.then ?_
    refine WC.block ?_
    refine WC.seq ?_
    refine WC.region ?_
    refine WL.quiet (d := 51) rfl rfl rfl (q_eql rfl rfl) ?_
    refine WL.quiet (d := 50) rfl rfl rfl (q_assign rfl) ?_
    refine WL.nil ?_
    refine WX.then ?_
    refine WC.cond rfl (fun hb_63914 => ?_) (fun hb_63914 => ?_)
    · replace h := ite_t h hb_63914
      obtain ⟨x_63915, hx_63916, h⟩ := bind_elim h
      obtain ⟨c_63917, h⟩ := chk_elim h
      refine WC.region ?_
      refine WL.quiet (d := 52) rfl rfl rfl (q_move rfl) ?_
      refine WL.quiet (d := 53) rfl rfl rfl (q_move rfl) ?_
      refine WL.callD (dd := 54) rfl rfl rfl (run_call (l := [.const (.int .i64 2), .const (.int .i64 4)]) Try.call22 (.cons rfl (.cons rfl .nil))) (.nil : Sel [row (.slice ao_63807 ((([] : List Sapi_Bucket) ++ x_63794).length) cap_63808) 42 4 ((([] : List Sapi_Bucket) ++ x_63794).flatMap e42), row (.slice ao_63799 x_63794.length cap_63800) 42 4 (x_63794.flatMap e42), fz []] [] [row (.slice ao_63807 ((([] : List Sapi_Bucket) ++ x_63794).length) cap_63808) 42 4 ((([] : List Sapi_Bucket) ++ x_63794).flatMap e42), row (.slice ao_63799 x_63794.length cap_63800) 42 4 (x_63794.flatMap e42), fz []]) (fun w hw => by have pz := (hz.call2 hw (.nil : Sel [row (.slice ao_63807 ((([] : List Sapi_Bucket) ++ x_63794).length) cap_63808) 42 4 ((([] : List Sapi_Bucket) ++ x_63794).flatMap e42), row (.slice ao_63799 x_63794.length cap_63800) 42 4 (x_63794.flatMap e42), fz []] [] [row (.slice ao_63807 ((([] : List Sapi_Bucket) ++ x_63794).length) cap_63808) 42 4 ((([] : List Sapi_Bucket) ++ x_63794).flatMap e42), row (.slice ao_63799 x_63794.length cap_63800) 42 4 (x_63794.flatMap e42), fz []]) (.there (.there .here))); exact w_law02_num (Z := _)  (n_528 := 2) (d_529 := 4) (r := x_63915) w pz  hx_63916) ?_
      refine WL.know (fun w hw => Hp.expose .here hw (by intro hz'; have := c_63917; rw [hz'] at this; omega)) ?_
      rintro ⟨b_63919, rfl⟩
      refine WL.quiet (d := 55) rfl rfl rfl (q_indexAddr elT_25 rfl rfl c_63917.1 c_63917.2 rowAdd) ?_
      refine WL.quiet (d := 56) rfl rfl rfl (q_fieldAddr fo_42_0 rfl (Addr.add_lit _ _ _)) ?_
      refine WL.eff0 rfl rfl (e_rowStore (vs := [(.int .i64 x_63915.fN), (.int .i64 x_63915.fD)]) (ds := ((([] : List Sapi_Bucket) ++ x_63794).set ((Int.tmod (i64 at_63210) (((([] : List Sapi_Bucket) ++ x_63794).length : Nat) : Int)) : Int).toNat (⟨x_63915, (⟨(((nth (([] : List Sapi_Bucket) ++ x_63794) (Int.tmod (i64 at_63210) (((([] : List Sapi_Bucket) ++ x_63794).length : Nat) : Int))).fRate).fN), (((nth (([] : List Sapi_Bucket) ++ x_63794) (Int.tmod (i64 at_63210) (((([] : List Sapi_Bucket) ++ x_63794).length : Nat) : Int))).fRate).fD)⟩ : Sapi_Rat)⟩ : Sapi_Bucket)).flatMap e42) sizT_28 rfl rfl rfl rfl (oc_cons rfl (oc_cons rfl oc_nil)) .here (flat_fit (enc := e42) (sz := 4) (k := 0) (fun _ => rfl) c_63917.1 c_63917.2 (by decide)) (flat_put (enc := e42) (l := ([] : List Sapi_Bucket) ++ x_63794) (sz := 4) (vs := [(.int .i64 x_63915.fN), (.int .i64 x_63915.fD)]) (y := (⟨x_63915, (⟨(((nth (([] : List Sapi_Bucket) ++ x_63794) (Int.tmod (i64 at_63210) (((([] : List Sapi_Bucket) ++ x_63794).length : Nat) : Int))).fRate).fN), (((nth (([] : List Sapi_Bucket) ++ x_63794) (Int.tmod (i64 at_63210) (((([] : List Sapi_Bucket) ++ x_63794).length : Nat) : Int))).fRate).fD)⟩ : Sapi_Rat)⟩ : Sapi_Bucket)) (k := 0) (fun _ => rfl) c_63917.1 c_63917.2 rfl (Nat.le_of_ble_eq_true rfl))) ?_
      refine WL.relen .here (u := (.slice (some ⟨b_63919, 0, none⟩) (((([] : List Sapi_Bucket) ++ x_63794).set ((Int.tmod (i64 at_63210) (((([] : List Sapi_Bucket) ++ x_63794).length : Nat) : Int)) : Int).toNat (⟨x_63915, (⟨(((nth (([] : List Sapi_Bucket) ++ x_63794) (Int.tmod (i64 at_63210) (((([] : List Sapi_Bucket) ++ x_63794).length : Nat) : Int))).fRate).fN), (((nth (([] : List Sapi_Bucket) ++ x_63794) (Int.tmod (i64 at_63210) (((([] : List Sapi_Bucket) ++ x_63794).length : Nat) : Int))).fRate).fD)⟩ : Sapi_Rat)⟩ : Sapi_Bucket)).length) cap_63808)) (slen (List.length_set).symm) ?_
      refine WL.repin (i := 8) rfl (u := (.slice (some ⟨b_63919, 0, none⟩) (((([] : List Sapi_Bucket) ++ x_63794).set ((Int.tmod (i64 at_63210) (((([] : List Sapi_Bucket) ++ x_63794).length : Nat) : Int)) : Int).toNat (⟨x_63915, (⟨(((nth (([] : List Sapi_Bucket) ++ x_63794) (Int.tmod (i64 at_63210) (((([] : List Sapi_Bucket) ++ x_63794).length : Nat) : Int))).fRate).fN), (((nth (([] : List Sapi_Bucket) ++ x_63794) (Int.tmod (i64 at_63210) (((([] : List Sapi_Bucket) ++ x_63794).length : Nat) : Int))).fRate).fD)⟩ : Sapi_Rat)⟩ : Sapi_Bucket)).length) cap_63808)) (slen (List.length_set).symm) ?_
      refine WL.nil ?_
      refine WX.blockNormal ?_
      exact WX.mid (G := List Sapi_Bucket × Option Addr × Nat × Option Addr × Nat) ⟨((([] : List Sapi_Bucket) ++ x_63794).set ((Int.tmod (i64 at_63210) (((([] : List Sapi_Bucket) ++ x_63794).length : Nat) : Int)) : Int).toNat (⟨x_63915, (⟨(((nth (([] : List Sapi_Bucket) ++ x_63794) (Int.tmod (i64 at_63210) (((([] : List Sapi_Bucket) ++ x_63794).length : Nat) : Int))).fRate).fN), (((nth (([] : List Sapi_Bucket) ++ x_63794) (Int.tmod (i64 at_63210) (((([] : List Sapi_Bucket) ++ x_63794).length : Nat) : Int))).fRate).fD)⟩ : Sapi_Rat)⟩ : Sapi_Bucket)), ao_63799, cap_63800, (some ⟨b_63919, 0, none⟩), cap_63808⟩ h (.cons rfl (.cons rfl .nil)) (.cons (.there (.there .here)) (.cons (.there .here) (.cons .here .nil)))
    · replace h := ite_f h hb_63914
      refine WC.seq ?_
      refine WC.region ?_
      refine WL.quiet (d := 58) rfl rfl rfl (q_eql rfl rfl) ?_
      refine WL.quiet (d := 57) rfl rfl rfl (q_assign rfl) ?_
      refine WL.nil ?_
      refine WX.then ?_
      refine WC.cond rfl (fun hb_63920 => ?_) (fun hb_63920 => ?_)
      · replace h := ite_t h hb_63920
        obtain ⟨x_63921, hx_63922, h⟩ := bind_elim h
        obtain ⟨c_63923, h⟩ := chk_elim h
        refine WC.region ?_
        refine WL.quiet (d := 59) rfl rfl rfl (q_move rfl) ?_
        refine WL.quiet (d := 60) rfl rfl rfl (q_move rfl) ?_
        refine WL.callD (dd := 61) rfl rfl rfl (run_call (l := [.const (.int .i64 (-1)), .const (.int .i64 2)]) Try.call22 (.cons rfl (.cons rfl .nil))) (.nil : Sel [row (.slice ao_63807 ((([] : List Sapi_Bucket) ++ x_63794).length) cap_63808) 42 4 ((([] : List Sapi_Bucket) ++ x_63794).flatMap e42), row (.slice ao_63799 x_63794.length cap_63800) 42 4 (x_63794.flatMap e42), fz []] [] [row (.slice ao_63807 ((([] : List Sapi_Bucket) ++ x_63794).length) cap_63808) 42 4 ((([] : List Sapi_Bucket) ++ x_63794).flatMap e42), row (.slice ao_63799 x_63794.length cap_63800) 42 4 (x_63794.flatMap e42), fz []]) (fun w hw => by have pz := (hz.call2 hw (.nil : Sel [row (.slice ao_63807 ((([] : List Sapi_Bucket) ++ x_63794).length) cap_63808) 42 4 ((([] : List Sapi_Bucket) ++ x_63794).flatMap e42), row (.slice ao_63799 x_63794.length cap_63800) 42 4 (x_63794.flatMap e42), fz []] [] [row (.slice ao_63807 ((([] : List Sapi_Bucket) ++ x_63794).length) cap_63808) 42 4 ((([] : List Sapi_Bucket) ++ x_63794).flatMap e42), row (.slice ao_63799 x_63794.length cap_63800) 42 4 (x_63794.flatMap e42), fz []]) (.there (.there .here))); exact w_law02_num (Z := _)  (n_528 := (-1)) (d_529 := 2) (r := x_63921) w pz  hx_63922) ?_
        refine WL.know (fun w hw => Hp.expose .here hw (by intro hz'; have := c_63923; rw [hz'] at this; omega)) ?_
        rintro ⟨b_63925, rfl⟩
        refine WL.quiet (d := 62) rfl rfl rfl (q_indexAddr elT_25 rfl rfl c_63923.1 c_63923.2 rowAdd) ?_
        refine WL.quiet (d := 63) rfl rfl rfl (q_fieldAddr fo_42_1 rfl (Addr.add_lit _ _ _)) ?_
        refine WL.eff0 rfl rfl (e_rowStore (vs := [(.int .i64 x_63921.fN), (.int .i64 x_63921.fD)]) (ds := ((([] : List Sapi_Bucket) ++ x_63794).set ((Int.tmod (i64 at_63210) (((([] : List Sapi_Bucket) ++ x_63794).length : Nat) : Int)) : Int).toNat (⟨(⟨(((nth (([] : List Sapi_Bucket) ++ x_63794) (Int.tmod (i64 at_63210) (((([] : List Sapi_Bucket) ++ x_63794).length : Nat) : Int))).fBurst).fN), (((nth (([] : List Sapi_Bucket) ++ x_63794) (Int.tmod (i64 at_63210) (((([] : List Sapi_Bucket) ++ x_63794).length : Nat) : Int))).fBurst).fD)⟩ : Sapi_Rat), x_63921⟩ : Sapi_Bucket)).flatMap e42) sizT_28 rfl rfl rfl rfl (oc_cons rfl (oc_cons rfl oc_nil)) .here (flat_fit (enc := e42) (sz := 4) (k := 2) (fun _ => rfl) c_63923.1 c_63923.2 (by decide)) (flat_put (enc := e42) (l := ([] : List Sapi_Bucket) ++ x_63794) (sz := 4) (vs := [(.int .i64 x_63921.fN), (.int .i64 x_63921.fD)]) (y := (⟨(⟨(((nth (([] : List Sapi_Bucket) ++ x_63794) (Int.tmod (i64 at_63210) (((([] : List Sapi_Bucket) ++ x_63794).length : Nat) : Int))).fBurst).fN), (((nth (([] : List Sapi_Bucket) ++ x_63794) (Int.tmod (i64 at_63210) (((([] : List Sapi_Bucket) ++ x_63794).length : Nat) : Int))).fBurst).fD)⟩ : Sapi_Rat), x_63921⟩ : Sapi_Bucket)) (k := 2) (fun _ => rfl) c_63923.1 c_63923.2 rfl (Nat.le_of_ble_eq_true rfl))) ?_
        refine WL.relen .here (u := (.slice (some ⟨b_63925, 0, none⟩) (((([] : List Sapi_Bucket) ++ x_63794).set ((Int.tmod (i64 at_63210) (((([] : List Sapi_Bucket) ++ x_63794).length : Nat) : Int)) : Int).toNat (⟨(⟨(((nth (([] : List Sapi_Bucket) ++ x_63794) (Int.tmod (i64 at_63210) (((([] : List Sapi_Bucket) ++ x_63794).length : Nat) : Int))).fBurst).fN), (((nth (([] : List Sapi_Bucket) ++ x_63794) (Int.tmod (i64 at_63210) (((([] : List Sapi_Bucket) ++ x_63794).length : Nat) : Int))).fBurst).fD)⟩ : Sapi_Rat), x_63921⟩ : Sapi_Bucket)).length) cap_63808)) (slen (List.length_set).symm) ?_
        refine WL.repin (i := 8) rfl (u := (.slice (some ⟨b_63925, 0, none⟩) (((([] : List Sapi_Bucket) ++ x_63794).set ((Int.tmod (i64 at_63210) (((([] : List Sapi_Bucket) ++ x_63794).length : Nat) : Int)) : Int).toNat (⟨(⟨(((nth (([] : List Sapi_Bucket) ++ x_63794) (Int.tmod (i64 at_63210) (((([] : List Sapi_Bucket) ++ x_63794).length : Nat) : Int))).fBurst).fN), (((nth (([] : List Sapi_Bucket) ++ x_63794) (Int.tmod (i64 at_63210) (((([] : List Sapi_Bucket) ++ x_63794).length : Nat) : Int))).fBurst).fD)⟩ : Sapi_Rat), x_63921⟩ : Sapi_Bucket)).length) cap_63808)) (slen (List.length_set).symm) ?_
        refine WL.nil ?_
        refine WX.blockNormal ?_
        exact WX.mid (G := List Sapi_Bucket × Option Addr × Nat × Option Addr × Nat) ⟨((([] : List Sapi_Bucket) ++ x_63794).set ((Int.tmod (i64 at_63210) (((([] : List Sapi_Bucket) ++ x_63794).length : Nat) : Int)) : Int).toNat (⟨(⟨(((nth (([] : List Sapi_Bucket) ++ x_63794) (Int.tmod (i64 at_63210) (((([] : List Sapi_Bucket) ++ x_63794).length : Nat) : Int))).fBurst).fN), (((nth (([] : List Sapi_Bucket) ++ x_63794) (Int.tmod (i64 at_63210) (((([] : List Sapi_Bucket) ++ x_63794).length : Nat) : Int))).fBurst).fD)⟩ : Sapi_Rat), x_63921⟩ : Sapi_Bucket)), ao_63799, cap_63800, (some ⟨b_63925, 0, none⟩), cap_63808⟩ h (.cons rfl (.cons rfl .nil)) (.cons (.there (.there .here)) (.cons (.there .here) (.cons .here .nil)))
      · replace h := ite_f h hb_63920
        refine WC.seq ?_
        refine WC.region ?_
        refine WL.quiet (d := 65) rfl rfl rfl (q_eql rfl rfl) ?_
        refine WL.quiet (d := 64) rfl rfl rfl (q_assign rfl) ?_
        refine WL.nil ?_
        refine WX.then ?_
        refine WC.cond rfl (fun hb_63926 => ?_) (fun hb_63926 => ?_)
        · replace h := ite_t h hb_63926
          obtain ⟨c_63927, h⟩ := chk_elim h
          refine WC.region ?_
          refine WL.quiet (d := 66) rfl rfl rfl (q_move rfl) ?_
          refine WL.quiet (d := 67) rfl rfl rfl (q_move rfl) ?_
          refine WL.quiet (d := 68) rfl rfl rfl (q_build (v := (.agg #[(.int .i64 0), (.int .i64 0)])) (Eos.parts (l := []) .nil []) (fun _ => by kernel_rfl)) ?_
          refine WL.know (fun w hw => Hp.expose .here hw (by intro hz'; have := c_63927; rw [hz'] at this; omega)) ?_
          rintro ⟨b_63929, rfl⟩
          refine WL.quiet (d := 69) rfl rfl rfl (q_indexAddr elT_25 rfl rfl c_63927.1 c_63927.2 rowAdd) ?_
          refine WL.quiet (d := 70) rfl rfl rfl (q_fieldAddr fo_42_0 rfl (Addr.add_lit _ _ _)) ?_
          refine WL.eff0 rfl rfl (e_rowStore (vs := [(.int .i64 0), (.int .i64 0)]) (ds := ((([] : List Sapi_Bucket) ++ x_63794).set ((Int.tmod (i64 at_63210) (((([] : List Sapi_Bucket) ++ x_63794).length : Nat) : Int)) : Int).toNat (⟨(⟨0, 0⟩ : Sapi_Rat), (⟨(((nth (([] : List Sapi_Bucket) ++ x_63794) (Int.tmod (i64 at_63210) (((([] : List Sapi_Bucket) ++ x_63794).length : Nat) : Int))).fRate).fN), (((nth (([] : List Sapi_Bucket) ++ x_63794) (Int.tmod (i64 at_63210) (((([] : List Sapi_Bucket) ++ x_63794).length : Nat) : Int))).fRate).fD)⟩ : Sapi_Rat)⟩ : Sapi_Bucket)).flatMap e42) sizT_28 rfl rfl rfl rfl (oc_cons rfl (oc_cons rfl oc_nil)) .here (flat_fit (enc := e42) (sz := 4) (k := 0) (fun _ => rfl) c_63927.1 c_63927.2 (by decide)) (flat_put (enc := e42) (l := ([] : List Sapi_Bucket) ++ x_63794) (sz := 4) (vs := [(.int .i64 0), (.int .i64 0)]) (y := (⟨(⟨0, 0⟩ : Sapi_Rat), (⟨(((nth (([] : List Sapi_Bucket) ++ x_63794) (Int.tmod (i64 at_63210) (((([] : List Sapi_Bucket) ++ x_63794).length : Nat) : Int))).fRate).fN), (((nth (([] : List Sapi_Bucket) ++ x_63794) (Int.tmod (i64 at_63210) (((([] : List Sapi_Bucket) ++ x_63794).length : Nat) : Int))).fRate).fD)⟩ : Sapi_Rat)⟩ : Sapi_Bucket)) (k := 0) (fun _ => rfl) c_63927.1 c_63927.2 rfl (Nat.le_of_ble_eq_true rfl))) ?_
          refine WL.relen .here (u := (.slice (some ⟨b_63929, 0, none⟩) (((([] : List Sapi_Bucket) ++ x_63794).set ((Int.tmod (i64 at_63210) (((([] : List Sapi_Bucket) ++ x_63794).length : Nat) : Int)) : Int).toNat (⟨(⟨0, 0⟩ : Sapi_Rat), (⟨(((nth (([] : List Sapi_Bucket) ++ x_63794) (Int.tmod (i64 at_63210) (((([] : List Sapi_Bucket) ++ x_63794).length : Nat) : Int))).fRate).fN), (((nth (([] : List Sapi_Bucket) ++ x_63794) (Int.tmod (i64 at_63210) (((([] : List Sapi_Bucket) ++ x_63794).length : Nat) : Int))).fRate).fD)⟩ : Sapi_Rat)⟩ : Sapi_Bucket)).length) cap_63808)) (slen (List.length_set).symm) ?_
          refine WL.repin (i := 8) rfl (u := (.slice (some ⟨b_63929, 0, none⟩) (((([] : List Sapi_Bucket) ++ x_63794).set ((Int.tmod (i64 at_63210) (((([] : List Sapi_Bucket) ++ x_63794).length : Nat) : Int)) : Int).toNat (⟨(⟨0, 0⟩ : Sapi_Rat), (⟨(((nth (([] : List Sapi_Bucket) ++ x_63794) (Int.tmod (i64 at_63210) (((([] : List Sapi_Bucket) ++ x_63794).length : Nat) : Int))).fRate).fN), (((nth (([] : List Sapi_Bucket) ++ x_63794) (Int.tmod (i64 at_63210) (((([] : List Sapi_Bucket) ++ x_63794).length : Nat) : Int))).fRate).fD)⟩ : Sapi_Rat)⟩ : Sapi_Bucket)).length) cap_63808)) (slen (List.length_set).symm) ?_
          refine WL.nil ?_
          refine WX.blockNormal ?_
          exact WX.mid (G := List Sapi_Bucket × Option Addr × Nat × Option Addr × Nat) ⟨((([] : List Sapi_Bucket) ++ x_63794).set ((Int.tmod (i64 at_63210) (((([] : List Sapi_Bucket) ++ x_63794).length : Nat) : Int)) : Int).toNat (⟨(⟨0, 0⟩ : Sapi_Rat), (⟨(((nth (([] : List Sapi_Bucket) ++ x_63794) (Int.tmod (i64 at_63210) (((([] : List Sapi_Bucket) ++ x_63794).length : Nat) : Int))).fRate).fN), (((nth (([] : List Sapi_Bucket) ++ x_63794) (Int.tmod (i64 at_63210) (((([] : List Sapi_Bucket) ++ x_63794).length : Nat) : Int))).fRate).fD)⟩ : Sapi_Rat)⟩ : Sapi_Bucket)), ao_63799, cap_63800, (some ⟨b_63929, 0, none⟩), cap_63808⟩ h (.cons rfl (.cons rfl .nil)) (.cons (.there (.there .here)) (.cons (.there .here) (.cons .here .nil)))
        · replace h := ite_f h hb_63926
          refine WC.seq ?_
          refine WC.region ?_
          refine WL.quiet (d := 72) rfl rfl rfl (q_eql rfl rfl) ?_
          refine WL.quiet (d := 71) rfl rfl rfl (q_assign rfl) ?_
          refine WL.nil ?_
          refine WX.then ?_
          refine WC.cond rfl (fun hb_63930 => ?_) (fun hb_63930 => ?_)
          · replace h := ite_t h hb_63930
            refine WC.region ?_
            refine WL.quiet (d := 8) rfl rfl rfl (q_assign rfl) ?_
            refine WL.nil ?_
            refine WX.blockNormal ?_
            refine WX.nilRow 42 4 ?_
            exact WX.mid (G := List Sapi_Bucket × Option Addr × Nat × Option Addr × Nat) ⟨([] : List Sapi_Bucket), ao_63799, cap_63800, none, 0⟩ h (.cons rfl (.cons rfl .nil)) (.cons (.there (.there (.there .here))) (.cons (.there (.there .here)) (.cons .here .nil)))
          · replace h := ite_f h hb_63930
            refine WC.seq ?_
            refine WC.region ?_
            refine WL.quiet (d := 74) rfl rfl rfl (q_eql rfl rfl) ?_
            refine WL.quiet (d := 73) rfl rfl rfl (q_assign rfl) ?_
            refine WL.nil ?_
            refine WX.then ?_
            refine WC.cond rfl (fun hb_63932 => ?_) (fun hb_63932 => ?_)
            · replace h := ite_t h hb_63932
              refine WC.seq ?_
              obtain ⟨c_63933, h⟩ := chk_elim h
              refine WC.region ?_
              refine WL.new (dd := 75) rfl rfl rfl (e_makeSlice (r := [(.int .i64 0), (.int .i64 0), (.int .i64 0), (.int .i64 0)]) (z0 := ((⟨(⟨0, 0⟩ : Sapi_Rat), (⟨0, 0⟩ : Sapi_Rat)⟩ : Sapi_Bucket) : Sapi_Bucket)) elT_25 zeroT_42 rfl rfl rfl rfl c_63933) ?_
              intro b_63935 _
              refine WL.rowEqD .here (cs' := (List.replicate (33 : Int).toNat ((⟨(⟨0, 0⟩ : Sapi_Rat), (⟨0, 0⟩ : Sapi_Rat)⟩ : Sapi_Bucket) : Sapi_Bucket)).flatMap e42) (rep_flat (enc := e42) ((⟨(⟨0, 0⟩ : Sapi_Rat), (⟨0, 0⟩ : Sapi_Rat)⟩ : Sapi_Bucket) : Sapi_Bucket) _) ?_
              refine WL.quiet (d := 8) rfl rfl rfl (q_assign rfl) ?_
              refine WL.nil ?_
              refine WX.then ?_
              refine WC.seq ?_
              refine WC.region ?_
              refine WL.quiet (d := 76) rfl rfl rfl (q_move rfl) ?_
              refine WL.quiet (d := 77) rfl rfl rfl (q_len Try.underlying25 rfl) ?_
              refine WL.quiet (d := 78) rfl rfl rfl (q_move rfl) ?_
              refine WL.nil ?_
              refine WX.then ?_
              obtain ⟨k_63979, hk_63980, h⟩ := jp1_elim h
              refine WC.mid3 (fun (bad_63978 : List Sapi_Bucket) (ao_63976 : Option Addr) (cap_63977 : Nat) => (k_63979 bad_63978 = some r)) (fun (bad_63978 : List Sapi_Bucket) (ao_63976 : Option Addr) (cap_63977 : Nat) => [(7, (.slice ao_63976 x_63794.length cap_63977)), (8, (.slice (some ⟨b_63935, 0, none⟩) bad_63978.length ((33 : Int).toNat)))]) (fun (bad_63978 : List Sapi_Bucket) (ao_63976 : Option Addr) (cap_63977 : Nat) => [fz [], row (.slice ao_63976 x_63794.length cap_63977) 42 4 (x_63794.flatMap e42), row (.slice (some ⟨b_63935, 0, none⟩) bad_63978.length ((33 : Int).toNat)) 42 4 (bad_63978.flatMap e42)]) ?_ ?_
              · skip
                refine WC.block ?_
                refine WC.loop5 (fun (n_63999 : Nat) (bad_63997 : List Sapi_Bucket) (v_63998 : Int) (ao_63995 : Option Addr) (cap_63996 : Nat) => (m_law02_CurveWrong_L5 x_63794 k_63979 n_63999 bad_63997 v_63998 = some r)) (fun (n_63999 : Nat) (bad_63997 : List Sapi_Bucket) (v_63998 : Int) (ao_63995 : Option Addr) (cap_63996 : Nat) => [(7, (.slice ao_63995 x_63794.length cap_63996)), (8, (.slice (some ⟨b_63935, 0, none⟩) bad_63997.length ((33 : Int).toNat))), (77, (.int .i64 (((List.replicate (33 : Int).toNat ((⟨(⟨0, 0⟩ : Sapi_Rat), (⟨0, 0⟩ : Sapi_Rat)⟩ : Sapi_Bucket) : Sapi_Bucket)).length : Nat) : Int))), (78, (.int .i64 v_63998))]) (fun (n_63999 : Nat) (bad_63997 : List Sapi_Bucket) (v_63998 : Int) (ao_63995 : Option Addr) (cap_63996 : Nat) => [fz [], row (.slice ao_63995 x_63794.length cap_63996) 42 4 (x_63794.flatMap e42), row (.slice (some ⟨b_63935, 0, none⟩) bad_63997.length ((33 : Int).toNat)) 42 4 (bad_63997.flatMap e42)]) (fun (n_63999 : Nat) (bad_63997 : List Sapi_Bucket) (v_63998 : Int) (ao_63995 : Option Addr) (cap_63996 : Nat) => n_63999) ⟨FUEL, (List.replicate (33 : Int).toNat ((⟨(⟨0, 0⟩ : Sapi_Rat), (⟨0, 0⟩ : Sapi_Rat)⟩ : Sapi_Bucket) : Sapi_Bucket)), 0, ao_63799, cap_63800⟩ h (.cons rfl (.cons rfl (.cons rfl (.cons rfl .nil)))) (.cons (.there (.there (.there .here))) (.cons (.there (.there .here)) (.cons .here .nil))) ?_
                rintro n_63999 bad_63997 v_63998 ao_63995 cap_63996 h
                obtain ⟨n_64000, rfl⟩ := m_law02_CurveWrong_L5_fuel h
                rw [m_law02_CurveWrong_L5] at h
                refine WC.seq ?_
                refine WC.region ?_
                refine WL.quiet (d := 79) rfl rfl rfl (q_lss rfl rfl) ?_
                refine WL.nil ?_
                refine WX.then ?_
                refine WC.seq ?_
                refine WC.cond rfl (fun hb_64002 => ?_) (fun hb_64002 => ?_)
                · replace h := ite_t h hb_64002
                  refine WC.skip ?_
                  refine WX.then ?_
                  refine WC.seq ?_
                  refine WC.block ?_
                  refine WC.seq ?_
                  refine WC.region ?_
                  refine WL.quiet (d := 80) rfl rfl rfl (q_move rfl) ?_
                  refine WL.quiet (d := 10) rfl rfl rfl (q_assign rfl) ?_
                  refine WL.nil ?_
                  refine WX.then ?_
                  obtain ⟨c_64007, h⟩ := chk_elim h
                  obtain ⟨c_64009, h⟩ := chk_elim h
                  refine WC.region ?_
                  refine WL.quiet (d := 81) rfl rfl rfl (q_move rfl) ?_
                  refine WL.quiet (d := 82) rfl rfl rfl (q_move rfl) ?_
                  refine WL.quiet (d := 83) rfl rfl rfl (q_move rfl) ?_
                  refine WL.know (fun w hw => Hp.expose (.there .here) hw (by intro hz'; have := c_64007; rw [hz'] at this; omega)) ?_
                  rintro ⟨b_64010, rfl⟩
                  refine WL.quiet (d := 84) rfl rfl rfl (q_indexAddr elT_25 rfl rfl c_64007.1 c_64007.2 rowAdd) ?_
                  refine WL.quiet (d := 85) rfl rfl rfl (q_loadA (cs := (e42 (nth x_63794 0))) aggT_42 rfl rfl (rd_rows (.there .here) (flat_rd (enc := e42) (l := x_63794) (i := 0) (sz := 4) (fun _ => rfl) c_64007.1 c_64007.2))) ?_
                  refine WL.quiet (d := 86) rfl rfl rfl (q_indexAddr elT_25 rfl rfl c_64009.1 c_64009.2 rowAdd) ?_
                  refine WL.eff0 rfl rfl (e_rowStore (vs := [(.int .i64 (((nth x_63794 0).fBurst).fN)), (.int .i64 (((nth x_63794 0).fBurst).fD)), (.int .i64 (((nth x_63794 0).fRate).fN)), (.int .i64 (((nth x_63794 0).fRate).fD))]) (ds := (bad_63997.set (v_63998 : Int).toNat (⟨(⟨(((nth x_63794 0).fBurst).fN), (((nth x_63794 0).fBurst).fD)⟩ : Sapi_Rat), (⟨(((nth x_63794 0).fRate).fN), (((nth x_63794 0).fRate).fD)⟩ : Sapi_Rat)⟩ : Sapi_Bucket)).flatMap e42) sizT_42 rfl rfl rfl rfl (oc_cons rfl (oc_cons rfl (oc_cons rfl (oc_cons rfl oc_nil)))) (.there (.there .here)) (flat_fit (enc := e42) (sz := 4) (k := 0) (fun _ => rfl) c_64009.1 c_64009.2 (by decide)) (flat_put (enc := e42) (l := bad_63997) (sz := 4) (vs := [(.int .i64 (((nth x_63794 0).fBurst).fN)), (.int .i64 (((nth x_63794 0).fBurst).fD)), (.int .i64 (((nth x_63794 0).fRate).fN)), (.int .i64 (((nth x_63794 0).fRate).fD))]) (y := (⟨(⟨(((nth x_63794 0).fBurst).fN), (((nth x_63794 0).fBurst).fD)⟩ : Sapi_Rat), (⟨(((nth x_63794 0).fRate).fN), (((nth x_63794 0).fRate).fD)⟩ : Sapi_Rat)⟩ : Sapi_Bucket)) (k := 0) (fun _ => rfl) c_64009.1 c_64009.2 rfl (Nat.le_of_ble_eq_true rfl))) ?_
                  refine WL.relen .here (u := (.slice (some ⟨b_63935, 0, none⟩) ((bad_63997.set (v_63998 : Int).toNat (⟨(⟨(((nth x_63794 0).fBurst).fN), (((nth x_63794 0).fBurst).fD)⟩ : Sapi_Rat), (⟨(((nth x_63794 0).fRate).fN), (((nth x_63794 0).fRate).fD)⟩ : Sapi_Rat)⟩ : Sapi_Bucket)).length) ((33 : Int).toNat))) (slen (List.length_set).symm) ?_
                  refine WL.repin (i := 8) rfl (u := (.slice (some ⟨b_63935, 0, none⟩) ((bad_63997.set (v_63998 : Int).toNat (⟨(⟨(((nth x_63794 0).fBurst).fN), (((nth x_63794 0).fBurst).fD)⟩ : Sapi_Rat), (⟨(((nth x_63794 0).fRate).fN), (((nth x_63794 0).fRate).fD)⟩ : Sapi_Rat)⟩ : Sapi_Bucket)).length) ((33 : Int).toNat))) (slen (List.length_set).symm) ?_
                  refine WL.nil ?_
                  refine WX.blockNormal ?_
                  refine WX.then ?_
                  refine WC.region ?_
                  refine WL.quiet (d := 87) rfl rfl rfl (q_add rfl rfl rfl) ?_
                  refine WL.quiet (d := 78) rfl rfl rfl (q_move rfl) ?_
                  refine WL.nil ?_
                  exact WX.round (G := Nat × List Sapi_Bucket × Int × Option Addr × Nat) ⟨n_64000, (bad_63997.set (v_63998 : Int).toNat (⟨(⟨(((nth x_63794 0).fBurst).fN), (((nth x_63794 0).fBurst).fD)⟩ : Sapi_Rat), (⟨(((nth x_63794 0).fRate).fN), (((nth x_63794 0).fRate).fD)⟩ : Sapi_Rat)⟩ : Sapi_Bucket)), (i64 (v_63998 + 1)), (some ⟨b_64010, 0, none⟩), cap_63996⟩ h (Nat.lt_succ_self _) (.cons rfl (.cons rfl (.cons rfl (.cons rfl .nil)))) (.cons (.there .here) (.cons (.there .here) (.cons .here .nil)))
                · replace h := ite_f h hb_64002
                  refine WC.exit ?_
                  refine WX.thenExit ?_
                  refine WX.thenExit ?_
                  refine WX.blockHit ?_
                  exact WX.mid (G := List Sapi_Bucket × Option Addr × Nat) ⟨bad_63997, ao_63995, cap_63996⟩ h (.cons rfl (.cons rfl .nil)) (.cons .here (.cons .here (.cons .here .nil)))
              · rintro bad_63978 ao_63976 cap_63977 h
                replace h := (hk_63980 bad_63978).symm.trans h
                refine WX.blockNormal ?_
                exact WX.mid (G := List Sapi_Bucket × Option Addr × Nat × Option Addr × Nat) ⟨bad_63978, ao_63976, cap_63977, (some ⟨b_63935, 0, none⟩), ((33 : Int).toNat)⟩ h (.cons rfl (.cons rfl .nil)) (.cons .here (.cons .here (.cons .here .nil)))
            · replace h := ite_f h hb_63932
              refine WC.skip ?_
              refine WX.blockNormal ?_
              exact WX.mid (G := List Sapi_Bucket × Option Addr × Nat × Option Addr × Nat) ⟨(([] : List Sapi_Bucket) ++ x_63794), ao_63799, cap_63800, ao_63807, cap_63808⟩ h (.cons rfl (.cons rfl .nil)) (.cons (.there (.there .here)) (.cons (.there .here) (.cons .here .nil)))
  · rintro bad_63909 ao_63906 cap_63907 ao_63910 cap_63911 h
    replace h := (hk_63913 bad_63909).symm.trans h
    refine WC.seq ?_
    obtain ⟨x_64011, hx_64012, h⟩ := bind_elim h
    obtain ⟨x_64013, hx_64014, h⟩ := bind_elim h
    refine WC.region ?_
    refine WL.quiet (d := 89) rfl rfl rfl (q_move rfl) ?_
    refine WL.callD (dd := 90) rfl rfl rfl (run_call (l := [.const (.int .i64 1), .const (.int .i64 1)]) Try.call22 (.cons rfl (.cons rfl .nil))) (.nil : Sel [fz [], row (.slice ao_63906 x_63794.length cap_63907) 42 4 (x_63794.flatMap e42), row (.slice ao_63910 bad_63909.length cap_63911) 42 4 (bad_63909.flatMap e42)] [] [fz [], row (.slice ao_63906 x_63794.length cap_63907) 42 4 (x_63794.flatMap e42), row (.slice ao_63910 bad_63909.length cap_63911) 42 4 (bad_63909.flatMap e42)]) (fun w hw => by have pz := (hz.call2 hw (.nil : Sel [fz [], row (.slice ao_63906 x_63794.length cap_63907) 42 4 (x_63794.flatMap e42), row (.slice ao_63910 bad_63909.length cap_63911) 42 4 (bad_63909.flatMap e42)] [] [fz [], row (.slice ao_63906 x_63794.length cap_63907) 42 4 (x_63794.flatMap e42), row (.slice ao_63910 bad_63909.length cap_63911) 42 4 (bad_63909.flatMap e42)]) .here); exact w_law02_num (Z := _)  (n_528 := 1) (d_529 := 1) (r := x_64011) w pz  hx_64012) ?_
    refine WL.callD (dd := 91) rfl rfl rfl (run_call (l := [.tmp 89, .tmp 90]) Try.call23 (.cons rfl (.cons rfl .nil))) (.nil : Sel [fz [], row (.slice ao_63906 x_63794.length cap_63907) 42 4 (x_63794.flatMap e42), row (.slice ao_63910 bad_63909.length cap_63911) 42 4 (bad_63909.flatMap e42)] [] [fz [], row (.slice ao_63906 x_63794.length cap_63907) 42 4 (x_63794.flatMap e42), row (.slice ao_63910 bad_63909.length cap_63911) 42 4 (bad_63909.flatMap e42)]) (fun w hw => by have pz := (hz.call2 hw (.nil : Sel [fz [], row (.slice ao_63906 x_63794.length cap_63907) 42 4 (x_63794.flatMap e42), row (.slice ao_63910 bad_63909.length cap_63911) 42 4 (bad_63909.flatMap e42)] [] [fz [], row (.slice ao_63906 x_63794.length cap_63907) 42 4 (x_63794.flatMap e42), row (.slice ao_63910 bad_63909.length cap_63911) 42 4 (bad_63909.flatMap e42)]) .here).lend hw (.nil : Sel [fz [], row (.slice ao_63906 x_63794.length cap_63907) 42 4 (x_63794.flatMap e42), row (.slice ao_63910 bad_63909.length cap_63911) 42 4 (bad_63909.flatMap e42)] [] [fz [], row (.slice ao_63906 x_63794.length cap_63907) 42 4 (x_63794.flatMap e42), row (.slice ao_63910 bad_63909.length cap_63911) 42 4 (bad_63909.flatMap e42)]) (B := [row (.slice ao_63910 bad_63909.length cap_63911) 42 4 (bad_63909.flatMap e42)]) (fun _ hx' => ((.cons (.there (.there .here)) .nil) : Sel _ [row (.slice ao_63910 bad_63909.length cap_63911) 42 4 (bad_63909.flatMap e42)] _).mem hx'); exact w_curve_At (Z := _) (ao_1178 := ao_63910) (cap_1179 := cap_63911) (c_1177 := bad_63909) (t_1181 := x_64011) (r := x_64013) w pz (ZA.row (hw.lent (.nil : Sel [fz [], row (.slice ao_63906 x_63794.length cap_63907) 42 4 (x_63794.flatMap e42), row (.slice ao_63910 bad_63909.length cap_63911) 42 4 (bad_63909.flatMap e42)] [] [fz [], row (.slice ao_63906 x_63794.length cap_63907) 42 4 (x_63794.flatMap e42), row (.slice ao_63910 bad_63909.length cap_63911) 42 4 (bad_63909.flatMap e42)]) (B := [row (.slice ao_63910 bad_63909.length cap_63911) 42 4 (bad_63909.flatMap e42)]) (fun _ hx' => ((.cons (.there (.there .here)) .nil) : Sel _ [row (.slice ao_63910 bad_63909.length cap_63911) 42 4 (bad_63909.flatMap e42)] _).mem hx') (.head _) _) (RR.flat (enc := e42) (fun _ => rfl) _) ⟨w, pz.1⟩) hx_64014) ?_
    refine WL.quiet (d := 88) rfl rfl rfl (q_move rfl) ?_
    refine WL.quiet (d := 92) rfl rfl rfl (q_extract rfl rfl) ?_
    refine WL.quiet (d := 93) rfl rfl rfl (q_extract rfl rfl) ?_
    refine WL.new (dd := 11) rfl rfl rfl (e_alloc (cs := [(.int .i64 0), (.int .i64 0)]) zeroT_28 rfl) ?_
    intro b_64016 _
    refine WL.eff0 rfl rfl (e_store (vs := [(.int .i64 x_64013.1.fN), (.int .i64 x_64013.1.fD)]) (ds := [(.int .i64 x_64013.1.fN), (.int .i64 x_64013.1.fD)]) sizT_28 rfl rfl rfl rfl (oc_cons rfl (oc_cons rfl oc_nil)) .here (Nat.le_of_ble_eq_true rfl) rfl) ?_
    refine WL.quiet (d := 12) rfl rfl rfl (q_assign rfl) ?_
    refine WL.nil ?_
    refine WX.then ?_
    refine WC.seq ?_
    obtain ⟨x_64017, hx_64018, h⟩ := bind_elim h
    refine WC.region ?_
    refine WL.quiet (d := 95) rfl rfl rfl (q_move rfl) ?_
    refine WL.enter2 (dd := 96) rfl rfl rfl (run_call (l := [.tmp 95]) Try.call19 (.cons rfl .nil)) (.nil : Sel [stb b_64016 28 [(.int .i64 x_64013.1.fN), (.int .i64 x_64013.1.fD)], fz [], row (.slice ao_63906 x_63794.length cap_63907) 42 4 (x_63794.flatMap e42), row (.slice ao_63910 bad_63909.length cap_63911) 42 4 (bad_63909.flatMap e42)] [] [stb b_64016 28 [(.int .i64 x_64013.1.fN), (.int .i64 x_64013.1.fD)], fz [], row (.slice ao_63906 x_63794.length cap_63907) 42 4 (x_63794.flatMap e42), row (.slice ao_63910 bad_63909.length cap_63911) 42 4 (bad_63909.flatMap e42)]) (fun w hw => by have pz := (hz.call2 hw (.nil : Sel [stb b_64016 28 [(.int .i64 x_64013.1.fN), (.int .i64 x_64013.1.fD)], fz [], row (.slice ao_63906 x_63794.length cap_63907) 42 4 (x_63794.flatMap e42), row (.slice ao_63910 bad_63909.length cap_63911) 42 4 (bad_63909.flatMap e42)] [] [stb b_64016 28 [(.int .i64 x_64013.1.fN), (.int .i64 x_64013.1.fD)], fz [], row (.slice ao_63906 x_63794.length cap_63907) 42 4 (x_63794.flatMap e42), row (.slice ao_63910 bad_63909.length cap_63911) 42 4 (bad_63909.flatMap e42)]) (.there .here)).lend hw (.nil : Sel [stb b_64016 28 [(.int .i64 x_64013.1.fN), (.int .i64 x_64013.1.fD)], fz [], row (.slice ao_63906 x_63794.length cap_63907) 42 4 (x_63794.flatMap e42), row (.slice ao_63910 bad_63909.length cap_63911) 42 4 (bad_63909.flatMap e42)] [] [stb b_64016 28 [(.int .i64 x_64013.1.fN), (.int .i64 x_64013.1.fD)], fz [], row (.slice ao_63906 x_63794.length cap_63907) 42 4 (x_63794.flatMap e42), row (.slice ao_63910 bad_63909.length cap_63911) 42 4 (bad_63909.flatMap e42)]) (B := [row (.slice ao_63910 bad_63909.length cap_63911) 42 4 (bad_63909.flatMap e42)]) (fun _ hx' => ((.cons (.there (.there (.there .here))) .nil) : Sel _ [row (.slice ao_63910 bad_63909.length cap_63911) 42 4 (bad_63909.flatMap e42)] _).mem hx'); exact w_curve_Norm (Z := _) (ao_3779 := ao_63910) (cap_3780 := cap_63911) (c_3778 := bad_63909) (r := x_64017) w pz (ZA.row (hw.lent (.nil : Sel [stb b_64016 28 [(.int .i64 x_64013.1.fN), (.int .i64 x_64013.1.fD)], fz [], row (.slice ao_63906 x_63794.length cap_63907) 42 4 (x_63794.flatMap e42), row (.slice ao_63910 bad_63909.length cap_63911) 42 4 (bad_63909.flatMap e42)] [] [stb b_64016 28 [(.int .i64 x_64013.1.fN), (.int .i64 x_64013.1.fD)], fz [], row (.slice ao_63906 x_63794.length cap_63907) 42 4 (x_63794.flatMap e42), row (.slice ao_63910 bad_63909.length cap_63911) 42 4 (bad_63909.flatMap e42)]) (B := [row (.slice ao_63910 bad_63909.length cap_63911) 42 4 (bad_63909.flatMap e42)]) (fun _ hx' => ((.cons (.there (.there (.there .here))) .nil) : Sel _ [row (.slice ao_63910 bad_63909.length cap_63911) 42 4 (bad_63909.flatMap e42)] _).mem hx') (.head _) _) (RR.flat (enc := e42) (fun _ => rfl) _) ⟨w, pz.1⟩) hx_64018) ?_
    rintro ao_64022 cap_64023 _
    refine WL.quiet (d := 94) rfl rfl rfl (q_move rfl) ?_
    refine WL.quiet (d := 97) rfl rfl rfl (q_extract rfl rfl) ?_
    refine WL.quiet (d := 98) rfl rfl rfl (q_extract rfl rfl) ?_
    refine WL.quiet (d := 13) rfl rfl rfl (q_assign rfl) ?_
    refine WL.quiet (d := 14) rfl rfl rfl (q_assign rfl) ?_
    refine WL.nil ?_
    refine WX.then ?_
    refine WC.seq ?_
    obtain ⟨x_64028, hx_64029, h⟩ := bind_elim h
    refine WC.region ?_
    refine WL.quiet (d := 100) rfl rfl rfl (q_move rfl) ?_
    refine WL.freezeS (ls := bad_63909) (.there (.there (.there (.there .here)))) (.there (.there .here)) hz (RR.flat (enc := e42) (fun _ => rfl) _) ?_
    intro Zn_64035 hle_64036 hf_64037
    refine WL.enter3 (dd := 101) rfl rfl rfl (run_call (l := [.tmp 100]) Try.call20 (.cons rfl .nil)) (.nil : Sel [fz Zn_64035, row (.slice ao_64022 x_64017.1.length cap_64023) 42 4 (x_64017.1.flatMap e42), stb b_64016 28 [(.int .i64 x_64013.1.fN), (.int .i64 x_64013.1.fD)], row (.slice ao_63906 x_63794.length cap_63907) 42 4 (x_63794.flatMap e42)] [] [fz Zn_64035, row (.slice ao_64022 x_64017.1.length cap_64023) 42 4 (x_64017.1.flatMap e42), stb b_64016 28 [(.int .i64 x_64013.1.fN), (.int .i64 x_64013.1.fD)], row (.slice ao_63906 x_63794.length cap_63907) 42 4 (x_63794.flatMap e42)]) (fun w hw => by have pz := (hz.call2 hw (.nil : Sel [fz Zn_64035, row (.slice ao_64022 x_64017.1.length cap_64023) 42 4 (x_64017.1.flatMap e42), stb b_64016 28 [(.int .i64 x_64013.1.fN), (.int .i64 x_64013.1.fD)], row (.slice ao_63906 x_63794.length cap_63907) 42 4 (x_63794.flatMap e42)] [] [fz Zn_64035, row (.slice ao_64022 x_64017.1.length cap_64023) 42 4 (x_64017.1.flatMap e42), stb b_64016 28 [(.int .i64 x_64013.1.fN), (.int .i64 x_64013.1.fD)], row (.slice ao_63906 x_63794.length cap_63907) 42 4 (x_63794.flatMap e42)]) .here); exact w_curve_Breaks (Z := _) (ao_4992 := ao_63910) (cap_4993 := cap_63911) (c_4991 := bad_63909) (r := x_64028) w pz hf_64037 hx_64029) ?_
    rintro Zn_64038 ao_64039 cap_64040 _
    refine WL.merge .here (.there .here) ?_
    refine WL.quiet (d := 99) rfl rfl rfl (q_move rfl) ?_
    refine WL.quiet (d := 102) rfl rfl rfl (q_extract rfl rfl) ?_
    refine WL.quiet (d := 103) rfl rfl rfl (q_extract rfl rfl) ?_
    refine WL.quiet (d := 15) rfl rfl rfl (q_assign rfl) ?_
    refine WL.quiet (d := 16) rfl rfl rfl (q_assign rfl) ?_
    refine WL.nil ?_
    refine WX.then ?_
    refine WC.seq ?_
    obtain ⟨x_64046, hx_64047, h⟩ := bind_elim h
    refine WC.region ?_
    refine WL.quiet (d := 105) rfl rfl rfl (q_move rfl) ?_
    refine WL.quiet (d := 106) rfl rfl rfl (q_move rfl) ?_
    refine WL.freezeS (ls := x_63794) (.there (.there (.there (.there .here)))) .here hz (RR.flat (enc := e42) (fun _ => rfl) _) ?_
    intro Zn_64053 hle_64054 hf_64055
    refine WL.enter3 (dd := 107) rfl rfl rfl (run_call (l := [.tmp 105, .tmp 106]) Try.call30 (.cons rfl (.cons rfl .nil))) (.nil : Sel [fz Zn_64053, row (.slice ao_64039 x_64028.1.length cap_64040) 28 2 (x_64028.1.flatMap e28), row (.slice ao_64022 x_64017.1.length cap_64023) 42 4 (x_64017.1.flatMap e42), stb b_64016 28 [(.int .i64 x_64013.1.fN), (.int .i64 x_64013.1.fD)]] [] [fz Zn_64053, row (.slice ao_64039 x_64028.1.length cap_64040) 28 2 (x_64028.1.flatMap e28), row (.slice ao_64022 x_64017.1.length cap_64023) 42 4 (x_64017.1.flatMap e42), stb b_64016 28 [(.int .i64 x_64013.1.fN), (.int .i64 x_64013.1.fD)]]) (fun w hw => by have pz := (hz.call2 hw (.nil : Sel [fz Zn_64053, row (.slice ao_64039 x_64028.1.length cap_64040) 28 2 (x_64028.1.flatMap e28), row (.slice ao_64022 x_64017.1.length cap_64023) 42 4 (x_64017.1.flatMap e42), stb b_64016 28 [(.int .i64 x_64013.1.fN), (.int .i64 x_64013.1.fD)]] [] [fz Zn_64053, row (.slice ao_64039 x_64028.1.length cap_64040) 28 2 (x_64028.1.flatMap e28), row (.slice ao_64022 x_64017.1.length cap_64023) 42 4 (x_64017.1.flatMap e42), stb b_64016 28 [(.int .i64 x_64013.1.fN), (.int .i64 x_64013.1.fD)]]) .here); exact w_curve_Sum (Z := _) (ao_15120 := ao_63906) (cap_15121 := cap_63907) (ao_15124 := ao_63910) (cap_15125 := cap_63911) (a_15119 := x_63794) (b_15123 := bad_63909) (r := x_64046) w pz hf_64055 (hf_64037.mono ((Zle.left _ _).trans ((Zle.assoc _ _ _).trans hle_64054))) hx_64047) ?_
    rintro Zn_64056 ao_64057 cap_64058 _
    refine WL.merge .here (.there .here) ?_
    refine WL.quiet (d := 104) rfl rfl rfl (q_move rfl) ?_
    refine WL.quiet (d := 108) rfl rfl rfl (q_extract rfl rfl) ?_
    refine WL.quiet (d := 109) rfl rfl rfl (q_extract rfl rfl) ?_
    refine WL.quiet (d := 17) rfl rfl rfl (q_assign rfl) ?_
    refine WL.quiet (d := 18) rfl rfl rfl (q_assign rfl) ?_
    refine WL.nil ?_
    refine WX.then ?_
    refine WC.seq ?_
    obtain ⟨x_64061, hx_64062, h⟩ := bind_elim h
    refine WC.region ?_
    refine WL.quiet (d := 111) rfl rfl rfl (q_move rfl) ?_
    refine WL.quiet (d := 112) rfl rfl rfl (q_move rfl) ?_
    refine WL.enter2 (dd := 113) rfl rfl rfl (run_call (l := [.tmp 111, .tmp 112]) Try.call32 (.cons rfl (.cons rfl .nil))) (.nil : Sel [fz (Zn_64053 ++ Zn_64056), row (.slice ao_64057 x_64046.1.length cap_64058) 42 4 (x_64046.1.flatMap e42), row (.slice ao_64039 x_64028.1.length cap_64040) 28 2 (x_64028.1.flatMap e28), row (.slice ao_64022 x_64017.1.length cap_64023) 42 4 (x_64017.1.flatMap e42), stb b_64016 28 [(.int .i64 x_64013.1.fN), (.int .i64 x_64013.1.fD)]] [] [fz (Zn_64053 ++ Zn_64056), row (.slice ao_64057 x_64046.1.length cap_64058) 42 4 (x_64046.1.flatMap e42), row (.slice ao_64039 x_64028.1.length cap_64040) 28 2 (x_64028.1.flatMap e28), row (.slice ao_64022 x_64017.1.length cap_64023) 42 4 (x_64017.1.flatMap e42), stb b_64016 28 [(.int .i64 x_64013.1.fN), (.int .i64 x_64013.1.fD)]]) (fun w hw => by have pz := (hz.call2 hw (.nil : Sel [fz (Zn_64053 ++ Zn_64056), row (.slice ao_64057 x_64046.1.length cap_64058) 42 4 (x_64046.1.flatMap e42), row (.slice ao_64039 x_64028.1.length cap_64040) 28 2 (x_64028.1.flatMap e28), row (.slice ao_64022 x_64017.1.length cap_64023) 42 4 (x_64017.1.flatMap e42), stb b_64016 28 [(.int .i64 x_64013.1.fN), (.int .i64 x_64013.1.fD)]] [] [fz (Zn_64053 ++ Zn_64056), row (.slice ao_64057 x_64046.1.length cap_64058) 42 4 (x_64046.1.flatMap e42), row (.slice ao_64039 x_64028.1.length cap_64040) 28 2 (x_64028.1.flatMap e28), row (.slice ao_64022 x_64017.1.length cap_64023) 42 4 (x_64017.1.flatMap e42), stb b_64016 28 [(.int .i64 x_64013.1.fN), (.int .i64 x_64013.1.fD)]]) .here); exact w_curve_Min (Z := _) (ao_50042 := ao_63910) (cap_50043 := cap_63911) (ao_50046 := ao_63906) (cap_50047 := cap_63907) (a_50041 := bad_63909) (b_50045 := x_63794) (r := x_64061) w pz (hf_64037.mono ((Zle.left _ _).trans ((Zle.assoc _ _ _).trans (hle_64054.trans ((Zle.left _ _).trans (Zle.assoc _ _ _)))))) (hf_64055.mono ((Zle.left _ _).trans (Zle.assoc _ _ _))) hx_64062) ?_
    rintro ao_64066 cap_64067 _
    refine WL.quiet (d := 110) rfl rfl rfl (q_move rfl) ?_
    refine WL.quiet (d := 114) rfl rfl rfl (q_extract rfl rfl) ?_
    refine WL.quiet (d := 115) rfl rfl rfl (q_extract rfl rfl) ?_
    refine WL.quiet (d := 19) rfl rfl rfl (q_assign rfl) ?_
    refine WL.quiet (d := 20) rfl rfl rfl (q_assign rfl) ?_
    refine WL.nil ?_
    refine WX.then ?_
    refine WC.seq ?_
    obtain ⟨x_64069, hx_64070, h⟩ := bind_elim h
    obtain ⟨x_64071, hx_64072, h⟩ := bind_elim h
    refine WC.region ?_
    refine WL.quiet (d := 117) rfl rfl rfl (q_move rfl) ?_
    refine WL.callD (dd := 118) rfl rfl rfl (run_call (l := [.const (.int .i64 1), .const (.int .i64 1)]) Try.call22 (.cons rfl (.cons rfl .nil))) (.nil : Sel [row (.slice ao_64066 x_64061.1.length cap_64067) 42 4 (x_64061.1.flatMap e42), fz (Zn_64053 ++ Zn_64056), row (.slice ao_64057 x_64046.1.length cap_64058) 42 4 (x_64046.1.flatMap e42), row (.slice ao_64039 x_64028.1.length cap_64040) 28 2 (x_64028.1.flatMap e28), row (.slice ao_64022 x_64017.1.length cap_64023) 42 4 (x_64017.1.flatMap e42), stb b_64016 28 [(.int .i64 x_64013.1.fN), (.int .i64 x_64013.1.fD)]] [] [row (.slice ao_64066 x_64061.1.length cap_64067) 42 4 (x_64061.1.flatMap e42), fz (Zn_64053 ++ Zn_64056), row (.slice ao_64057 x_64046.1.length cap_64058) 42 4 (x_64046.1.flatMap e42), row (.slice ao_64039 x_64028.1.length cap_64040) 28 2 (x_64028.1.flatMap e28), row (.slice ao_64022 x_64017.1.length cap_64023) 42 4 (x_64017.1.flatMap e42), stb b_64016 28 [(.int .i64 x_64013.1.fN), (.int .i64 x_64013.1.fD)]]) (fun w hw => by have pz := (hz.call2 hw (.nil : Sel [row (.slice ao_64066 x_64061.1.length cap_64067) 42 4 (x_64061.1.flatMap e42), fz (Zn_64053 ++ Zn_64056), row (.slice ao_64057 x_64046.1.length cap_64058) 42 4 (x_64046.1.flatMap e42), row (.slice ao_64039 x_64028.1.length cap_64040) 28 2 (x_64028.1.flatMap e28), row (.slice ao_64022 x_64017.1.length cap_64023) 42 4 (x_64017.1.flatMap e42), stb b_64016 28 [(.int .i64 x_64013.1.fN), (.int .i64 x_64013.1.fD)]] [] [row (.slice ao_64066 x_64061.1.length cap_64067) 42 4 (x_64061.1.flatMap e42), fz (Zn_64053 ++ Zn_64056), row (.slice ao_64057 x_64046.1.length cap_64058) 42 4 (x_64046.1.flatMap e42), row (.slice ao_64039 x_64028.1.length cap_64040) 28 2 (x_64028.1.flatMap e28), row (.slice ao_64022 x_64017.1.length cap_64023) 42 4 (x_64017.1.flatMap e42), stb b_64016 28 [(.int .i64 x_64013.1.fN), (.int .i64 x_64013.1.fD)]]) (.there .here)); exact w_law02_num (Z := _)  (n_528 := 1) (d_529 := 1) (r := x_64069) w pz  hx_64070) ?_
    refine WL.enter2 (dd := 119) rfl rfl rfl (run_call (l := [.tmp 117, .tmp 118]) Try.call34 (.cons rfl (.cons rfl .nil))) (.nil : Sel [row (.slice ao_64066 x_64061.1.length cap_64067) 42 4 (x_64061.1.flatMap e42), fz (Zn_64053 ++ Zn_64056), row (.slice ao_64057 x_64046.1.length cap_64058) 42 4 (x_64046.1.flatMap e42), row (.slice ao_64039 x_64028.1.length cap_64040) 28 2 (x_64028.1.flatMap e28), row (.slice ao_64022 x_64017.1.length cap_64023) 42 4 (x_64017.1.flatMap e42), stb b_64016 28 [(.int .i64 x_64013.1.fN), (.int .i64 x_64013.1.fD)]] [] [row (.slice ao_64066 x_64061.1.length cap_64067) 42 4 (x_64061.1.flatMap e42), fz (Zn_64053 ++ Zn_64056), row (.slice ao_64057 x_64046.1.length cap_64058) 42 4 (x_64046.1.flatMap e42), row (.slice ao_64039 x_64028.1.length cap_64040) 28 2 (x_64028.1.flatMap e28), row (.slice ao_64022 x_64017.1.length cap_64023) 42 4 (x_64017.1.flatMap e42), stb b_64016 28 [(.int .i64 x_64013.1.fN), (.int .i64 x_64013.1.fD)]]) (fun w hw => by have pz := (hz.call2 hw (.nil : Sel [row (.slice ao_64066 x_64061.1.length cap_64067) 42 4 (x_64061.1.flatMap e42), fz (Zn_64053 ++ Zn_64056), row (.slice ao_64057 x_64046.1.length cap_64058) 42 4 (x_64046.1.flatMap e42), row (.slice ao_64039 x_64028.1.length cap_64040) 28 2 (x_64028.1.flatMap e28), row (.slice ao_64022 x_64017.1.length cap_64023) 42 4 (x_64017.1.flatMap e42), stb b_64016 28 [(.int .i64 x_64013.1.fN), (.int .i64 x_64013.1.fD)]] [] [row (.slice ao_64066 x_64061.1.length cap_64067) 42 4 (x_64061.1.flatMap e42), fz (Zn_64053 ++ Zn_64056), row (.slice ao_64057 x_64046.1.length cap_64058) 42 4 (x_64046.1.flatMap e42), row (.slice ao_64039 x_64028.1.length cap_64040) 28 2 (x_64028.1.flatMap e28), row (.slice ao_64022 x_64017.1.length cap_64023) 42 4 (x_64017.1.flatMap e42), stb b_64016 28 [(.int .i64 x_64013.1.fN), (.int .i64 x_64013.1.fD)]]) (.there .here)); exact w_curve_Shift (Z := _) (ao_14407 := ao_63910) (cap_14408 := cap_63911) (c_14406 := bad_63909) (t_14410 := x_64069) (r := x_64071) w pz (hf_64037.mono ((Zle.left _ _).trans ((Zle.assoc _ _ _).trans (hle_64054.trans ((Zle.left _ _).trans (Zle.assoc _ _ _)))))) hx_64072) ?_
    rintro ao_64076 cap_64077 _
    refine WL.quiet (d := 116) rfl rfl rfl (q_move rfl) ?_
    refine WL.quiet (d := 120) rfl rfl rfl (q_extract rfl rfl) ?_
    refine WL.quiet (d := 121) rfl rfl rfl (q_extract rfl rfl) ?_
    refine WL.quiet (d := 21) rfl rfl rfl (q_assign rfl) ?_
    refine WL.quiet (d := 22) rfl rfl rfl (q_assign rfl) ?_
    refine WL.nil ?_
    refine WX.then ?_
    refine WC.seq ?_
    obtain ⟨x_64079, hx_64080, h⟩ := bind_elim h
    refine WC.region ?_
    refine WL.quiet (d := 123) rfl rfl rfl (q_move rfl) ?_
    refine WL.callD (dd := 124) rfl rfl rfl (run_call (l := [.tmp 123]) Try.call15 (.cons rfl .nil)) (.nil : Sel [row (.slice ao_64076 x_64071.1.length cap_64077) 42 4 (x_64071.1.flatMap e42), row (.slice ao_64066 x_64061.1.length cap_64067) 42 4 (x_64061.1.flatMap e42), fz (Zn_64053 ++ Zn_64056), row (.slice ao_64057 x_64046.1.length cap_64058) 42 4 (x_64046.1.flatMap e42), row (.slice ao_64039 x_64028.1.length cap_64040) 28 2 (x_64028.1.flatMap e28), row (.slice ao_64022 x_64017.1.length cap_64023) 42 4 (x_64017.1.flatMap e42), stb b_64016 28 [(.int .i64 x_64013.1.fN), (.int .i64 x_64013.1.fD)]] [] [row (.slice ao_64076 x_64071.1.length cap_64077) 42 4 (x_64071.1.flatMap e42), row (.slice ao_64066 x_64061.1.length cap_64067) 42 4 (x_64061.1.flatMap e42), fz (Zn_64053 ++ Zn_64056), row (.slice ao_64057 x_64046.1.length cap_64058) 42 4 (x_64046.1.flatMap e42), row (.slice ao_64039 x_64028.1.length cap_64040) 28 2 (x_64028.1.flatMap e28), row (.slice ao_64022 x_64017.1.length cap_64023) 42 4 (x_64017.1.flatMap e42), stb b_64016 28 [(.int .i64 x_64013.1.fN), (.int .i64 x_64013.1.fD)]]) (fun w hw => by have pz := (hz.call2 hw (.nil : Sel [row (.slice ao_64076 x_64071.1.length cap_64077) 42 4 (x_64071.1.flatMap e42), row (.slice ao_64066 x_64061.1.length cap_64067) 42 4 (x_64061.1.flatMap e42), fz (Zn_64053 ++ Zn_64056), row (.slice ao_64057 x_64046.1.length cap_64058) 42 4 (x_64046.1.flatMap e42), row (.slice ao_64039 x_64028.1.length cap_64040) 28 2 (x_64028.1.flatMap e28), row (.slice ao_64022 x_64017.1.length cap_64023) 42 4 (x_64017.1.flatMap e42), stb b_64016 28 [(.int .i64 x_64013.1.fN), (.int .i64 x_64013.1.fD)]] [] [row (.slice ao_64076 x_64071.1.length cap_64077) 42 4 (x_64071.1.flatMap e42), row (.slice ao_64066 x_64061.1.length cap_64067) 42 4 (x_64061.1.flatMap e42), fz (Zn_64053 ++ Zn_64056), row (.slice ao_64057 x_64046.1.length cap_64058) 42 4 (x_64046.1.flatMap e42), row (.slice ao_64039 x_64028.1.length cap_64040) 28 2 (x_64028.1.flatMap e28), row (.slice ao_64022 x_64017.1.length cap_64023) 42 4 (x_64017.1.flatMap e42), stb b_64016 28 [(.int .i64 x_64013.1.fN), (.int .i64 x_64013.1.fD)]]) (.there (.there .here))); exact w_curve_Rate (Z := _) (ao_3085 := ao_63910) (cap_3086 := cap_63911) (c_3084 := bad_63909) (r := x_64079) w pz (hf_64037.mono ((Zle.left _ _).trans ((Zle.assoc _ _ _).trans (hle_64054.trans ((Zle.left _ _).trans (Zle.assoc _ _ _)))))) hx_64080) ?_
    refine WL.quiet (d := 122) rfl rfl rfl (q_move rfl) ?_
    refine WL.quiet (d := 125) rfl rfl rfl (q_extract rfl rfl) ?_
    refine WL.quiet (d := 126) rfl rfl rfl (q_extract rfl rfl) ?_
    refine WL.new (dd := 23) rfl rfl rfl (e_alloc (cs := [(.int .i64 0), (.int .i64 0)]) zeroT_28 rfl) ?_
    intro b_64082 _
    refine WL.eff0 rfl rfl (e_store (vs := [(.int .i64 x_64079.1.fN), (.int .i64 x_64079.1.fD)]) (ds := [(.int .i64 x_64079.1.fN), (.int .i64 x_64079.1.fD)]) sizT_28 rfl rfl rfl rfl (oc_cons rfl (oc_cons rfl oc_nil)) .here (Nat.le_of_ble_eq_true rfl) rfl) ?_
    refine WL.quiet (d := 24) rfl rfl rfl (q_assign rfl) ?_
    refine WL.nil ?_
    refine WX.then ?_
    refine WC.seq ?_
    obtain ⟨x_64083, hx_64084, h⟩ := bind_elim h
    obtain ⟨x_64085, hx_64086, h⟩ := bind_elim h
    refine WC.region ?_
    refine WL.quiet (d := 128) rfl rfl rfl (q_move rfl) ?_
    refine WL.callD (dd := 129) rfl rfl rfl (run_call (l := [.const (.int .i64 (-1)), .const (.int .i64 1)]) Try.call22 (.cons rfl (.cons rfl .nil))) (.nil : Sel [stb b_64082 28 [(.int .i64 x_64079.1.fN), (.int .i64 x_64079.1.fD)], row (.slice ao_64076 x_64071.1.length cap_64077) 42 4 (x_64071.1.flatMap e42), row (.slice ao_64066 x_64061.1.length cap_64067) 42 4 (x_64061.1.flatMap e42), fz (Zn_64053 ++ Zn_64056), row (.slice ao_64057 x_64046.1.length cap_64058) 42 4 (x_64046.1.flatMap e42), row (.slice ao_64039 x_64028.1.length cap_64040) 28 2 (x_64028.1.flatMap e28), row (.slice ao_64022 x_64017.1.length cap_64023) 42 4 (x_64017.1.flatMap e42), stb b_64016 28 [(.int .i64 x_64013.1.fN), (.int .i64 x_64013.1.fD)]] [] [stb b_64082 28 [(.int .i64 x_64079.1.fN), (.int .i64 x_64079.1.fD)], row (.slice ao_64076 x_64071.1.length cap_64077) 42 4 (x_64071.1.flatMap e42), row (.slice ao_64066 x_64061.1.length cap_64067) 42 4 (x_64061.1.flatMap e42), fz (Zn_64053 ++ Zn_64056), row (.slice ao_64057 x_64046.1.length cap_64058) 42 4 (x_64046.1.flatMap e42), row (.slice ao_64039 x_64028.1.length cap_64040) 28 2 (x_64028.1.flatMap e28), row (.slice ao_64022 x_64017.1.length cap_64023) 42 4 (x_64017.1.flatMap e42), stb b_64016 28 [(.int .i64 x_64013.1.fN), (.int .i64 x_64013.1.fD)]]) (fun w hw => by have pz := (hz.call2 hw (.nil : Sel [stb b_64082 28 [(.int .i64 x_64079.1.fN), (.int .i64 x_64079.1.fD)], row (.slice ao_64076 x_64071.1.length cap_64077) 42 4 (x_64071.1.flatMap e42), row (.slice ao_64066 x_64061.1.length cap_64067) 42 4 (x_64061.1.flatMap e42), fz (Zn_64053 ++ Zn_64056), row (.slice ao_64057 x_64046.1.length cap_64058) 42 4 (x_64046.1.flatMap e42), row (.slice ao_64039 x_64028.1.length cap_64040) 28 2 (x_64028.1.flatMap e28), row (.slice ao_64022 x_64017.1.length cap_64023) 42 4 (x_64017.1.flatMap e42), stb b_64016 28 [(.int .i64 x_64013.1.fN), (.int .i64 x_64013.1.fD)]] [] [stb b_64082 28 [(.int .i64 x_64079.1.fN), (.int .i64 x_64079.1.fD)], row (.slice ao_64076 x_64071.1.length cap_64077) 42 4 (x_64071.1.flatMap e42), row (.slice ao_64066 x_64061.1.length cap_64067) 42 4 (x_64061.1.flatMap e42), fz (Zn_64053 ++ Zn_64056), row (.slice ao_64057 x_64046.1.length cap_64058) 42 4 (x_64046.1.flatMap e42), row (.slice ao_64039 x_64028.1.length cap_64040) 28 2 (x_64028.1.flatMap e28), row (.slice ao_64022 x_64017.1.length cap_64023) 42 4 (x_64017.1.flatMap e42), stb b_64016 28 [(.int .i64 x_64013.1.fN), (.int .i64 x_64013.1.fD)]]) (.there (.there (.there .here)))); exact w_law02_num (Z := _)  (n_528 := (-1)) (d_529 := 1) (r := x_64083) w pz  hx_64084) ?_
    refine WL.callD (dd := 130) rfl rfl rfl (run_call (l := [.tmp 128, .tmp 129]) Try.call23 (.cons rfl (.cons rfl .nil))) (.nil : Sel [stb b_64082 28 [(.int .i64 x_64079.1.fN), (.int .i64 x_64079.1.fD)], row (.slice ao_64076 x_64071.1.length cap_64077) 42 4 (x_64071.1.flatMap e42), row (.slice ao_64066 x_64061.1.length cap_64067) 42 4 (x_64061.1.flatMap e42), fz (Zn_64053 ++ Zn_64056), row (.slice ao_64057 x_64046.1.length cap_64058) 42 4 (x_64046.1.flatMap e42), row (.slice ao_64039 x_64028.1.length cap_64040) 28 2 (x_64028.1.flatMap e28), row (.slice ao_64022 x_64017.1.length cap_64023) 42 4 (x_64017.1.flatMap e42), stb b_64016 28 [(.int .i64 x_64013.1.fN), (.int .i64 x_64013.1.fD)]] [] [stb b_64082 28 [(.int .i64 x_64079.1.fN), (.int .i64 x_64079.1.fD)], row (.slice ao_64076 x_64071.1.length cap_64077) 42 4 (x_64071.1.flatMap e42), row (.slice ao_64066 x_64061.1.length cap_64067) 42 4 (x_64061.1.flatMap e42), fz (Zn_64053 ++ Zn_64056), row (.slice ao_64057 x_64046.1.length cap_64058) 42 4 (x_64046.1.flatMap e42), row (.slice ao_64039 x_64028.1.length cap_64040) 28 2 (x_64028.1.flatMap e28), row (.slice ao_64022 x_64017.1.length cap_64023) 42 4 (x_64017.1.flatMap e42), stb b_64016 28 [(.int .i64 x_64013.1.fN), (.int .i64 x_64013.1.fD)]]) (fun w hw => by have pz := (hz.call2 hw (.nil : Sel [stb b_64082 28 [(.int .i64 x_64079.1.fN), (.int .i64 x_64079.1.fD)], row (.slice ao_64076 x_64071.1.length cap_64077) 42 4 (x_64071.1.flatMap e42), row (.slice ao_64066 x_64061.1.length cap_64067) 42 4 (x_64061.1.flatMap e42), fz (Zn_64053 ++ Zn_64056), row (.slice ao_64057 x_64046.1.length cap_64058) 42 4 (x_64046.1.flatMap e42), row (.slice ao_64039 x_64028.1.length cap_64040) 28 2 (x_64028.1.flatMap e28), row (.slice ao_64022 x_64017.1.length cap_64023) 42 4 (x_64017.1.flatMap e42), stb b_64016 28 [(.int .i64 x_64013.1.fN), (.int .i64 x_64013.1.fD)]] [] [stb b_64082 28 [(.int .i64 x_64079.1.fN), (.int .i64 x_64079.1.fD)], row (.slice ao_64076 x_64071.1.length cap_64077) 42 4 (x_64071.1.flatMap e42), row (.slice ao_64066 x_64061.1.length cap_64067) 42 4 (x_64061.1.flatMap e42), fz (Zn_64053 ++ Zn_64056), row (.slice ao_64057 x_64046.1.length cap_64058) 42 4 (x_64046.1.flatMap e42), row (.slice ao_64039 x_64028.1.length cap_64040) 28 2 (x_64028.1.flatMap e28), row (.slice ao_64022 x_64017.1.length cap_64023) 42 4 (x_64017.1.flatMap e42), stb b_64016 28 [(.int .i64 x_64013.1.fN), (.int .i64 x_64013.1.fD)]]) (.there (.there (.there .here)))); exact w_curve_At (Z := _) (ao_1178 := ao_63906) (cap_1179 := cap_63907) (c_1177 := x_63794) (t_1181 := x_64083) (r := x_64085) w pz (hf_64055.mono ((Zle.left _ _).trans (Zle.assoc _ _ _))) hx_64086) ?_
    refine WL.quiet (d := 127) rfl rfl rfl (q_move rfl) ?_
    refine WL.quiet (d := 131) rfl rfl rfl (q_extract rfl rfl) ?_
    refine WL.quiet (d := 132) rfl rfl rfl (q_extract rfl rfl) ?_
    refine WL.new (dd := 25) rfl rfl rfl (e_alloc (cs := [(.int .i64 0), (.int .i64 0)]) zeroT_28 rfl) ?_
    intro b_64088 _
    refine WL.eff0 rfl rfl (e_store (vs := [(.int .i64 x_64085.1.fN), (.int .i64 x_64085.1.fD)]) (ds := [(.int .i64 x_64085.1.fN), (.int .i64 x_64085.1.fD)]) sizT_28 rfl rfl rfl rfl (oc_cons rfl (oc_cons rfl oc_nil)) .here (Nat.le_of_ble_eq_true rfl) rfl) ?_
    refine WL.quiet (d := 26) rfl rfl rfl (q_assign rfl) ?_
    refine WL.nil ?_
    refine WX.then ?_
    refine WC.seq ?_
    obtain ⟨x_64089, hx_64090, h⟩ := bind_elim h
    obtain ⟨x_64091, hx_64092, h⟩ := bind_elim h
    refine WC.region ?_
    refine WL.quiet (d := 134) rfl rfl rfl (q_move rfl) ?_
    refine WL.callD (dd := 135) rfl rfl rfl (run_call (l := [.const (.int .i64 1), .const (.int .i64 0)]) Try.call22 (.cons rfl (.cons rfl .nil))) (.nil : Sel [stb b_64088 28 [(.int .i64 x_64085.1.fN), (.int .i64 x_64085.1.fD)], stb b_64082 28 [(.int .i64 x_64079.1.fN), (.int .i64 x_64079.1.fD)], row (.slice ao_64076 x_64071.1.length cap_64077) 42 4 (x_64071.1.flatMap e42), row (.slice ao_64066 x_64061.1.length cap_64067) 42 4 (x_64061.1.flatMap e42), fz (Zn_64053 ++ Zn_64056), row (.slice ao_64057 x_64046.1.length cap_64058) 42 4 (x_64046.1.flatMap e42), row (.slice ao_64039 x_64028.1.length cap_64040) 28 2 (x_64028.1.flatMap e28), row (.slice ao_64022 x_64017.1.length cap_64023) 42 4 (x_64017.1.flatMap e42), stb b_64016 28 [(.int .i64 x_64013.1.fN), (.int .i64 x_64013.1.fD)]] [] [stb b_64088 28 [(.int .i64 x_64085.1.fN), (.int .i64 x_64085.1.fD)], stb b_64082 28 [(.int .i64 x_64079.1.fN), (.int .i64 x_64079.1.fD)], row (.slice ao_64076 x_64071.1.length cap_64077) 42 4 (x_64071.1.flatMap e42), row (.slice ao_64066 x_64061.1.length cap_64067) 42 4 (x_64061.1.flatMap e42), fz (Zn_64053 ++ Zn_64056), row (.slice ao_64057 x_64046.1.length cap_64058) 42 4 (x_64046.1.flatMap e42), row (.slice ao_64039 x_64028.1.length cap_64040) 28 2 (x_64028.1.flatMap e28), row (.slice ao_64022 x_64017.1.length cap_64023) 42 4 (x_64017.1.flatMap e42), stb b_64016 28 [(.int .i64 x_64013.1.fN), (.int .i64 x_64013.1.fD)]]) (fun w hw => by have pz := (hz.call2 hw (.nil : Sel [stb b_64088 28 [(.int .i64 x_64085.1.fN), (.int .i64 x_64085.1.fD)], stb b_64082 28 [(.int .i64 x_64079.1.fN), (.int .i64 x_64079.1.fD)], row (.slice ao_64076 x_64071.1.length cap_64077) 42 4 (x_64071.1.flatMap e42), row (.slice ao_64066 x_64061.1.length cap_64067) 42 4 (x_64061.1.flatMap e42), fz (Zn_64053 ++ Zn_64056), row (.slice ao_64057 x_64046.1.length cap_64058) 42 4 (x_64046.1.flatMap e42), row (.slice ao_64039 x_64028.1.length cap_64040) 28 2 (x_64028.1.flatMap e28), row (.slice ao_64022 x_64017.1.length cap_64023) 42 4 (x_64017.1.flatMap e42), stb b_64016 28 [(.int .i64 x_64013.1.fN), (.int .i64 x_64013.1.fD)]] [] [stb b_64088 28 [(.int .i64 x_64085.1.fN), (.int .i64 x_64085.1.fD)], stb b_64082 28 [(.int .i64 x_64079.1.fN), (.int .i64 x_64079.1.fD)], row (.slice ao_64076 x_64071.1.length cap_64077) 42 4 (x_64071.1.flatMap e42), row (.slice ao_64066 x_64061.1.length cap_64067) 42 4 (x_64061.1.flatMap e42), fz (Zn_64053 ++ Zn_64056), row (.slice ao_64057 x_64046.1.length cap_64058) 42 4 (x_64046.1.flatMap e42), row (.slice ao_64039 x_64028.1.length cap_64040) 28 2 (x_64028.1.flatMap e28), row (.slice ao_64022 x_64017.1.length cap_64023) 42 4 (x_64017.1.flatMap e42), stb b_64016 28 [(.int .i64 x_64013.1.fN), (.int .i64 x_64013.1.fD)]]) (.there (.there (.there (.there .here))))); exact w_law02_num (Z := _)  (n_528 := 1) (d_529 := 0) (r := x_64089) w pz  hx_64090) ?_
    refine WL.enter2 (dd := 136) rfl rfl rfl (run_call (l := [.tmp 134, .tmp 135]) Try.call34 (.cons rfl (.cons rfl .nil))) (.nil : Sel [stb b_64088 28 [(.int .i64 x_64085.1.fN), (.int .i64 x_64085.1.fD)], stb b_64082 28 [(.int .i64 x_64079.1.fN), (.int .i64 x_64079.1.fD)], row (.slice ao_64076 x_64071.1.length cap_64077) 42 4 (x_64071.1.flatMap e42), row (.slice ao_64066 x_64061.1.length cap_64067) 42 4 (x_64061.1.flatMap e42), fz (Zn_64053 ++ Zn_64056), row (.slice ao_64057 x_64046.1.length cap_64058) 42 4 (x_64046.1.flatMap e42), row (.slice ao_64039 x_64028.1.length cap_64040) 28 2 (x_64028.1.flatMap e28), row (.slice ao_64022 x_64017.1.length cap_64023) 42 4 (x_64017.1.flatMap e42), stb b_64016 28 [(.int .i64 x_64013.1.fN), (.int .i64 x_64013.1.fD)]] [] [stb b_64088 28 [(.int .i64 x_64085.1.fN), (.int .i64 x_64085.1.fD)], stb b_64082 28 [(.int .i64 x_64079.1.fN), (.int .i64 x_64079.1.fD)], row (.slice ao_64076 x_64071.1.length cap_64077) 42 4 (x_64071.1.flatMap e42), row (.slice ao_64066 x_64061.1.length cap_64067) 42 4 (x_64061.1.flatMap e42), fz (Zn_64053 ++ Zn_64056), row (.slice ao_64057 x_64046.1.length cap_64058) 42 4 (x_64046.1.flatMap e42), row (.slice ao_64039 x_64028.1.length cap_64040) 28 2 (x_64028.1.flatMap e28), row (.slice ao_64022 x_64017.1.length cap_64023) 42 4 (x_64017.1.flatMap e42), stb b_64016 28 [(.int .i64 x_64013.1.fN), (.int .i64 x_64013.1.fD)]]) (fun w hw => by have pz := (hz.call2 hw (.nil : Sel [stb b_64088 28 [(.int .i64 x_64085.1.fN), (.int .i64 x_64085.1.fD)], stb b_64082 28 [(.int .i64 x_64079.1.fN), (.int .i64 x_64079.1.fD)], row (.slice ao_64076 x_64071.1.length cap_64077) 42 4 (x_64071.1.flatMap e42), row (.slice ao_64066 x_64061.1.length cap_64067) 42 4 (x_64061.1.flatMap e42), fz (Zn_64053 ++ Zn_64056), row (.slice ao_64057 x_64046.1.length cap_64058) 42 4 (x_64046.1.flatMap e42), row (.slice ao_64039 x_64028.1.length cap_64040) 28 2 (x_64028.1.flatMap e28), row (.slice ao_64022 x_64017.1.length cap_64023) 42 4 (x_64017.1.flatMap e42), stb b_64016 28 [(.int .i64 x_64013.1.fN), (.int .i64 x_64013.1.fD)]] [] [stb b_64088 28 [(.int .i64 x_64085.1.fN), (.int .i64 x_64085.1.fD)], stb b_64082 28 [(.int .i64 x_64079.1.fN), (.int .i64 x_64079.1.fD)], row (.slice ao_64076 x_64071.1.length cap_64077) 42 4 (x_64071.1.flatMap e42), row (.slice ao_64066 x_64061.1.length cap_64067) 42 4 (x_64061.1.flatMap e42), fz (Zn_64053 ++ Zn_64056), row (.slice ao_64057 x_64046.1.length cap_64058) 42 4 (x_64046.1.flatMap e42), row (.slice ao_64039 x_64028.1.length cap_64040) 28 2 (x_64028.1.flatMap e28), row (.slice ao_64022 x_64017.1.length cap_64023) 42 4 (x_64017.1.flatMap e42), stb b_64016 28 [(.int .i64 x_64013.1.fN), (.int .i64 x_64013.1.fD)]]) (.there (.there (.there (.there .here))))); exact w_curve_Shift (Z := _) (ao_14407 := ao_63906) (cap_14408 := cap_63907) (c_14406 := x_63794) (t_14410 := x_64089) (r := x_64091) w pz (hf_64055.mono ((Zle.left _ _).trans (Zle.assoc _ _ _))) hx_64092) ?_
    rintro ao_64096 cap_64097 _
    refine WL.quiet (d := 133) rfl rfl rfl (q_move rfl) ?_
    refine WL.quiet (d := 137) rfl rfl rfl (q_extract rfl rfl) ?_
    refine WL.quiet (d := 138) rfl rfl rfl (q_extract rfl rfl) ?_
    refine WL.quiet (d := 27) rfl rfl rfl (q_assign rfl) ?_
    refine WL.quiet (d := 28) rfl rfl rfl (q_assign rfl) ?_
    refine WL.nil ?_
    refine WX.then ?_
    obtain ⟨k_64123, hk_64124, h⟩ := jp0_elim h
    refine WC.seqMid0 ((k_64123 = some r)) ([(8, (.slice ao_63910 bad_63909.length cap_63911))]) ([fz (Zn_64053 ++ Zn_64056)]) ?_ ?_
    · skip
      refine WC.seq ?_
      refine WC.region ?_
      refine WL.quiet (d := 139) rfl rfl rfl (q_move rfl) ?_
      refine WL.quiet (d := 140) rfl rfl rfl (q_move rfl) ?_
      refine WL.quiet (d := 141) rfl rfl rfl (q_move rfl) ?_
      refine WL.quiet (d := 142) rfl rfl rfl (q_move rfl) ?_
      refine WL.quiet (d := 143) rfl rfl rfl (q_move rfl) ?_
      refine WL.quiet (d := 144) rfl rfl rfl (q_move rfl) ?_
      refine WL.quiet (d := 145) rfl rfl rfl (q_move rfl) ?_
      refine WL.quiet (d := 146) rfl rfl rfl (q_move rfl) ?_
      refine WL.quiet (d := 147) rfl rfl rfl (q_move rfl) ?_
      refine WL.new (dd := 148) rfl rfl rfl (e_buildSlice (cs := ([x_64013.2, x_64017.2, x_64028.2, x_64046.2, x_64061.2, x_64071.2, x_64079.2, x_64085.2, x_64091.2] : List Int).flatMap e30) elT_65 (Eos.parts (l := [.tmp 139, .tmp 140, .tmp 141, .tmp 142, .tmp 143, .tmp 144, .tmp 145, .tmp 146, .tmp 147]) (.cons rfl (.cons rfl (.cons rfl (.cons rfl (.cons rfl (.cons rfl (.cons rfl (.cons rfl (.cons rfl .nil))))))))) [0, 1, 2, 3, 4, 5, 6, 7, 8]) (fun _ => by kernel_rfl) rfl (by unfold maxLen; omega)) ?_
      intro b_64126 _
      refine WL.quiet (d := 149) rfl rfl rfl (q_len Try.underlying65 rfl) ?_
      refine WL.quiet (d := 150) rfl rfl rfl (q_move rfl) ?_
      refine WL.nil ?_
      refine WX.then ?_
      refine WC.block ?_
      refine WC.loop2 (fun (n_64141 : Nat) (v_64140 : Int) => (m_law02_CurveWrong_L6 x_64013 x_64017 x_64028 x_64046 x_64061 x_64071 x_64079 x_64085 x_64091 k_64123 n_64141 v_64140 = some r)) (fun (n_64141 : Nat) (v_64140 : Int) => [(8, (.slice ao_63910 bad_63909.length cap_63911)), (148, (.slice (some ⟨b_64126, 0, none⟩) (([x_64013.2, x_64017.2, x_64028.2, x_64046.2, x_64061.2, x_64071.2, x_64079.2, x_64085.2, x_64091.2] : List Int).length) 9)), (149, (.int .i64 ((([x_64013.2, x_64017.2, x_64028.2, x_64046.2, x_64061.2, x_64071.2, x_64079.2, x_64085.2, x_64091.2] : List Int).length : Nat) : Int))), (150, (.int .i64 v_64140))]) (fun (n_64141 : Nat) (v_64140 : Int) => [fz (Zn_64053 ++ Zn_64056), row (.slice (some ⟨b_64126, 0, none⟩) (([x_64013.2, x_64017.2, x_64028.2, x_64046.2, x_64061.2, x_64071.2, x_64079.2, x_64085.2, x_64091.2] : List Int).length) 9) 30 1 (([x_64013.2, x_64017.2, x_64028.2, x_64046.2, x_64061.2, x_64071.2, x_64079.2, x_64085.2, x_64091.2] : List Int).flatMap e30)]) (fun (n_64141 : Nat) (v_64140 : Int) => n_64141) ⟨FUEL, 0⟩ h (.cons rfl (.cons rfl (.cons rfl (.cons rfl .nil)))) (.cons (.there (.there (.there (.there (.there (.there .here)))))) (.cons .here .nil)) ?_
      rintro n_64141 v_64140 h
      obtain ⟨n_64142, rfl⟩ := m_law02_CurveWrong_L6_fuel h
      rw [m_law02_CurveWrong_L6] at h
      refine WC.seq ?_
      refine WC.region ?_
      refine WL.quiet (d := 151) rfl rfl rfl (q_lss rfl rfl) ?_
      refine WL.nil ?_
      refine WX.then ?_
      refine WC.seq ?_
      refine WC.cond rfl (fun hb_64144 => ?_) (fun hb_64144 => ?_)
      · replace h := ite_t h hb_64144
        refine WC.skip ?_
        refine WX.then ?_
        refine WC.seq ?_
        refine WC.block ?_
        refine WC.seq ?_
        obtain ⟨c_64147, h⟩ := chk_elim h
        refine WC.region ?_
        refine WL.quiet (d := 152) rfl rfl rfl (q_indexAddr elT_65 rfl rfl c_64147.1 c_64147.2 rowAdd) ?_
        refine WL.quiet (d := 153) rfl rfl rfl (q_load1 oneT_30 rfl (rd_row (.there .here) ((flat_rd (enc := e30) (l := ([x_64013.2, x_64017.2, x_64028.2, x_64046.2, x_64061.2, x_64071.2, x_64079.2, x_64085.2, x_64091.2] : List Int)) (i := v_64140) (sz := 1) (fun _ => rfl) c_64147.1 c_64147.2) 0 _ rfl))) ?_
        refine WL.quiet (d := 30) rfl rfl rfl (q_assign rfl) ?_
        refine WL.nil ?_
        refine WX.then ?_
        refine WC.seq ?_
        refine WC.region ?_
        refine WL.quiet (d := 154) rfl rfl rfl (q_move rfl) ?_
        refine WL.quiet (d := 155) rfl rfl rfl (q_neq rfl rfl) ?_
        refine WL.nil ?_
        refine WX.then ?_
        refine WC.cond rfl (fun hb_64148 => ?_) (fun hb_64148 => ?_)
        · replace h := ite_t h hb_64148
          refine WC.seq ?_
          refine WC.region ?_
          refine WL.quiet (d := 6) rfl rfl rfl (q_assign rfl) ?_
          refine WL.nil ?_
          refine WX.then ?_
          refine WC.ret ?_
          refine WX.blockRet ?_
          refine WX.thenRet ?_
          refine WX.thenRet ?_
          refine WX.blockRet ?_
          refine WX.thenRet ?_
          obtain rfl := Option.some.inj h
          refine WX.bpRet Try.results9 (.tmp rfl .nil) (fun w hw => ?_)
          exact ⟨(Zn_64053 ++ Zn_64056), ret1 rfl, trivial, hw.sub (.cons .here .nil)⟩
        · replace h := ite_f h hb_64148
          refine WC.skip ?_
          refine WX.blockNormal ?_
          refine WX.then ?_
          refine WC.region ?_
          refine WL.quiet (d := 156) rfl rfl rfl (q_add rfl rfl rfl) ?_
          refine WL.quiet (d := 150) rfl rfl rfl (q_move rfl) ?_
          refine WL.nil ?_
          exact WX.round (G := Nat × Int) ⟨n_64142, (i64 (v_64140 + 1))⟩ h (Nat.lt_succ_self _) (.cons rfl (.cons rfl (.cons rfl (.cons rfl .nil)))) (.cons .here (.cons .here .nil))
      · replace h := ite_f h hb_64144
        refine WC.exit ?_
        refine WX.thenExit ?_
        refine WX.thenExit ?_
        refine WX.blockHit ?_
        exact WX.mid (G := Unit) () h (.cons rfl .nil) (.cons .here .nil)
    · rintro  h
      replace h := hk_64124.symm.trans h
      refine WC.seq ?_
      refine WC.region ?_
      refine WL.quiet (d := 31) rfl rfl rfl (q_assign rfl) ?_
      refine WL.nil ?_
      refine WX.then ?_
      obtain ⟨k_64239, hk_64240, h⟩ := jp1_elim h
      refine WC.seqMid3 (fun (wide_64236 : List Sapi_Bucket) (ao_64237 : Option Addr) (cap_64238 : Nat) => (k_64239 wide_64236 = some r)) (fun (wide_64236 : List Sapi_Bucket) (ao_64237 : Option Addr) (cap_64238 : Nat) => [(8, (.slice ao_63910 bad_63909.length cap_63911)), (31, (.slice ao_64237 wide_64236.length cap_64238))]) (fun (wide_64236 : List Sapi_Bucket) (ao_64237 : Option Addr) (cap_64238 : Nat) => [fz (Zn_64053 ++ Zn_64056), row (.slice ao_64237 wide_64236.length cap_64238) 42 4 (wide_64236.flatMap e42)]) ?_ ?_
      · skip
        refine WC.seq ?_
        refine WC.region ?_
        refine WL.quiet (d := 157) rfl rfl rfl (q_move rfl) ?_
        refine WL.nil ?_
        refine WX.then ?_
        refine WC.block ?_
        refine WC.nilRow 42 4 ?_
        refine WC.loop5 (fun (n_64275 : Nat) (wide_64271 : List Sapi_Bucket) (v_64274 : Int) (ao_64272 : Option Addr) (cap_64273 : Nat) => (m_law02_CurveWrong_L7 k_64239 n_64275 wide_64271 v_64274 = some r)) (fun (n_64275 : Nat) (wide_64271 : List Sapi_Bucket) (v_64274 : Int) (ao_64272 : Option Addr) (cap_64273 : Nat) => [(8, (.slice ao_63910 bad_63909.length cap_63911)), (31, (.slice ao_64272 wide_64271.length cap_64273)), (157, (.int .i64 v_64274))]) (fun (n_64275 : Nat) (wide_64271 : List Sapi_Bucket) (v_64274 : Int) (ao_64272 : Option Addr) (cap_64273 : Nat) => [fz (Zn_64053 ++ Zn_64056), row (.slice ao_64272 wide_64271.length cap_64273) 42 4 (wide_64271.flatMap e42)]) (fun (n_64275 : Nat) (wide_64271 : List Sapi_Bucket) (v_64274 : Int) (ao_64272 : Option Addr) (cap_64273 : Nat) => n_64275) ⟨FUEL, ([] : List Sapi_Bucket), 0, none, 0⟩ h (.cons rfl (.cons rfl (.cons rfl .nil))) (.cons (.there .here) (.cons .here .nil)) ?_
        rintro n_64275 wide_64271 v_64274 ao_64272 cap_64273 h
        obtain ⟨n_64277, rfl⟩ := m_law02_CurveWrong_L7_fuel h
        rw [m_law02_CurveWrong_L7] at h
        refine WC.seq ?_
        refine WC.region ?_
        refine WL.quiet (d := 158) rfl rfl rfl (q_lss rfl rfl) ?_
        refine WL.nil ?_
        refine WX.then ?_
        refine WC.seq ?_
        refine WC.cond rfl (fun hb_64279 => ?_) (fun hb_64279 => ?_)
        · replace h := ite_t h hb_64279
          refine WC.skip ?_
          refine WX.then ?_
          refine WC.seq ?_
          refine WC.block ?_
          refine WC.seq ?_
          refine WC.region ?_
          refine WL.quiet (d := 159) rfl rfl rfl (q_move rfl) ?_
          refine WL.quiet (d := 32) rfl rfl rfl (q_assign rfl) ?_
          refine WL.nil ?_
          refine WX.then ?_
          obtain ⟨x_64291, hx_64292, h⟩ := bind_elim h
          obtain ⟨x_64293, hx_64294, h⟩ := bind_elim h
          obtain ⟨c_64296, h⟩ := chk_elim h
          refine WC.region ?_
          refine WL.quiet (d := 160) rfl rfl rfl (q_move rfl) ?_
          refine WL.quiet (d := 161) rfl rfl rfl (q_move rfl) ?_
          refine WL.callD (dd := 162) rfl rfl rfl (run_call (l := [.tmp 161, .const (.int .i64 1)]) Try.call22 (.cons rfl (.cons rfl .nil))) (.nil : Sel [fz (Zn_64053 ++ Zn_64056), row (.slice ao_64272 wide_64271.length cap_64273) 42 4 (wide_64271.flatMap e42)] [] [fz (Zn_64053 ++ Zn_64056), row (.slice ao_64272 wide_64271.length cap_64273) 42 4 (wide_64271.flatMap e42)]) (fun w hw => by have pz := (hz.call2 hw (.nil : Sel [fz (Zn_64053 ++ Zn_64056), row (.slice ao_64272 wide_64271.length cap_64273) 42 4 (wide_64271.flatMap e42)] [] [fz (Zn_64053 ++ Zn_64056), row (.slice ao_64272 wide_64271.length cap_64273) 42 4 (wide_64271.flatMap e42)]) .here); exact w_law02_num (Z := _)  (n_528 := v_64274) (d_529 := 1) (r := x_64291) w pz  hx_64292) ?_
          refine WL.quiet (d := 163) rfl rfl rfl (q_move rfl) ?_
          refine WL.quiet (d := 164) rfl rfl rfl (q_sub rfl rfl rfl) ?_
          refine WL.callD (dd := 165) rfl rfl rfl (run_call (l := [.tmp 164, .const (.int .i64 1)]) Try.call22 (.cons rfl (.cons rfl .nil))) (.nil : Sel [fz (Zn_64053 ++ Zn_64056), row (.slice ao_64272 wide_64271.length cap_64273) 42 4 (wide_64271.flatMap e42)] [] [fz (Zn_64053 ++ Zn_64056), row (.slice ao_64272 wide_64271.length cap_64273) 42 4 (wide_64271.flatMap e42)]) (fun w hw => by have pz := (hz.call2 hw (.nil : Sel [fz (Zn_64053 ++ Zn_64056), row (.slice ao_64272 wide_64271.length cap_64273) 42 4 (wide_64271.flatMap e42)] [] [fz (Zn_64053 ++ Zn_64056), row (.slice ao_64272 wide_64271.length cap_64273) 42 4 (wide_64271.flatMap e42)]) .here); exact w_law02_num (Z := _)  (n_528 := (i64 (20 - v_64274))) (d_529 := 1) (r := x_64293) w pz  hx_64294) ?_
          refine WL.quiet (d := 166) rfl rfl rfl (q_build (v := (.agg #[(.int .i64 x_64291.fN), (.int .i64 x_64291.fD), (.int .i64 x_64293.fN), (.int .i64 x_64293.fD)])) (Eos.parts (l := [.tmp 162, .tmp 165]) (.cons rfl (.cons rfl .nil)) [0, 1]) (fun _ => by kernel_rfl)) ?_
          refine WL.new (dd := 167) rfl rfl rfl (e_buildSlice (cs := ([(⟨x_64291, x_64293⟩ : Sapi_Bucket)] : List Sapi_Bucket).flatMap e42) elT_25 (Eos.parts (l := [.tmp 166]) (.cons rfl .nil) [0]) (fun _ => by kernel_rfl) rfl (by unfold maxLen; omega)) ?_
          intro b_64299 _
          refine WL.eff (d := 168) rfl rfl rfl (e_appendF (enc := e42) (l1 := wide_64271) (l2 := ([(⟨x_64291, x_64293⟩ : Sapi_Bucket)] : List Sapi_Bucket)) elT_25 rfl rfl (.there (.there .here)) (fun _ => rfl) rfl rfl (news_row .here) (oc_flat e42_oc _) c_64296) ?_
          rintro ⟨ao_64300, cap_64301⟩ _
          refine WL.quiet (d := 31) rfl rfl rfl (q_assign rfl) ?_
          refine WL.nil ?_
          refine WX.blockNormal ?_
          refine WX.then ?_
          refine WC.region ?_
          refine WL.quiet (d := 169) rfl rfl rfl (q_add rfl rfl rfl) ?_
          refine WL.quiet (d := 157) rfl rfl rfl (q_move rfl) ?_
          refine WL.nil ?_
          exact WX.round (G := Nat × List Sapi_Bucket × Int × Option Addr × Nat) ⟨n_64277, (wide_64271 ++ ([(⟨x_64291, x_64293⟩ : Sapi_Bucket)] : List Sapi_Bucket)), (i64 (v_64274 + 1)), ao_64300, cap_64301⟩ h (Nat.lt_succ_self _) (.cons rfl (.cons rfl (.cons rfl .nil))) (.cons (.there (.there .here)) (.cons .here .nil))
        · replace h := ite_f h hb_64279
          refine WC.exit ?_
          refine WX.thenExit ?_
          refine WX.thenExit ?_
          refine WX.blockHit ?_
          exact WX.mid (G := List Sapi_Bucket × Option Addr × Nat) ⟨wide_64271, ao_64272, cap_64273⟩ h (.cons rfl (.cons rfl .nil)) (.cons .here (.cons .here .nil))
      · rintro wide_64236 ao_64237 cap_64238 h
        replace h := (hk_64240 wide_64236).symm.trans h
        refine WC.seq ?_
        obtain ⟨x_64302, hx_64303, h⟩ := bind_elim h
        obtain ⟨x_64304, hx_64305, h⟩ := bind_elim h
        obtain ⟨x_64306, hx_64307, h⟩ := bind_elim h
        obtain ⟨x_64308, hx_64309, h⟩ := bind_elim h
        refine WC.region ?_
        refine WL.callD (dd := 170) rfl rfl rfl (run_call (l := [.const (.int .i64 50), .const (.int .i64 1)]) Try.call22 (.cons rfl (.cons rfl .nil))) (.nil : Sel [fz (Zn_64053 ++ Zn_64056), row (.slice ao_64237 wide_64236.length cap_64238) 42 4 (wide_64236.flatMap e42)] [] [fz (Zn_64053 ++ Zn_64056), row (.slice ao_64237 wide_64236.length cap_64238) 42 4 (wide_64236.flatMap e42)]) (fun w hw => by have pz := (hz.call2 hw (.nil : Sel [fz (Zn_64053 ++ Zn_64056), row (.slice ao_64237 wide_64236.length cap_64238) 42 4 (wide_64236.flatMap e42)] [] [fz (Zn_64053 ++ Zn_64056), row (.slice ao_64237 wide_64236.length cap_64238) 42 4 (wide_64236.flatMap e42)]) .here); exact w_law02_num (Z := _)  (n_528 := 50) (d_529 := 1) (r := x_64302) w pz  hx_64303) ?_
        refine WL.callD (dd := 171) rfl rfl rfl (run_call (l := [.const (.int .i64 1), .const (.int .i64 1)]) Try.call22 (.cons rfl (.cons rfl .nil))) (.nil : Sel [fz (Zn_64053 ++ Zn_64056), row (.slice ao_64237 wide_64236.length cap_64238) 42 4 (wide_64236.flatMap e42)] [] [fz (Zn_64053 ++ Zn_64056), row (.slice ao_64237 wide_64236.length cap_64238) 42 4 (wide_64236.flatMap e42)]) (fun w hw => by have pz := (hz.call2 hw (.nil : Sel [fz (Zn_64053 ++ Zn_64056), row (.slice ao_64237 wide_64236.length cap_64238) 42 4 (wide_64236.flatMap e42)] [] [fz (Zn_64053 ++ Zn_64056), row (.slice ao_64237 wide_64236.length cap_64238) 42 4 (wide_64236.flatMap e42)]) .here); exact w_law02_num (Z := _)  (n_528 := 1) (d_529 := 1) (r := x_64304) w pz  hx_64305) ?_
        refine WL.quiet (d := 172) rfl rfl rfl (q_build (v := (.agg #[(.int .i64 x_64302.fN), (.int .i64 x_64302.fD), (.int .i64 x_64304.fN), (.int .i64 x_64304.fD)])) (Eos.parts (l := [.tmp 170, .tmp 171]) (.cons rfl (.cons rfl .nil)) [0, 1]) (fun _ => by kernel_rfl)) ?_
        refine WL.callD (dd := 173) rfl rfl rfl (run_call (l := [.const (.int .i64 51), .const (.int .i64 1)]) Try.call22 (.cons rfl (.cons rfl .nil))) (.nil : Sel [fz (Zn_64053 ++ Zn_64056), row (.slice ao_64237 wide_64236.length cap_64238) 42 4 (wide_64236.flatMap e42)] [] [fz (Zn_64053 ++ Zn_64056), row (.slice ao_64237 wide_64236.length cap_64238) 42 4 (wide_64236.flatMap e42)]) (fun w hw => by have pz := (hz.call2 hw (.nil : Sel [fz (Zn_64053 ++ Zn_64056), row (.slice ao_64237 wide_64236.length cap_64238) 42 4 (wide_64236.flatMap e42)] [] [fz (Zn_64053 ++ Zn_64056), row (.slice ao_64237 wide_64236.length cap_64238) 42 4 (wide_64236.flatMap e42)]) .here); exact w_law02_num (Z := _)  (n_528 := 51) (d_529 := 1) (r := x_64306) w pz  hx_64307) ?_
        refine WL.callD (dd := 174) rfl rfl rfl (run_call (l := [.const (.int .i64 0), .const (.int .i64 1)]) Try.call22 (.cons rfl (.cons rfl .nil))) (.nil : Sel [fz (Zn_64053 ++ Zn_64056), row (.slice ao_64237 wide_64236.length cap_64238) 42 4 (wide_64236.flatMap e42)] [] [fz (Zn_64053 ++ Zn_64056), row (.slice ao_64237 wide_64236.length cap_64238) 42 4 (wide_64236.flatMap e42)]) (fun w hw => by have pz := (hz.call2 hw (.nil : Sel [fz (Zn_64053 ++ Zn_64056), row (.slice ao_64237 wide_64236.length cap_64238) 42 4 (wide_64236.flatMap e42)] [] [fz (Zn_64053 ++ Zn_64056), row (.slice ao_64237 wide_64236.length cap_64238) 42 4 (wide_64236.flatMap e42)]) .here); exact w_law02_num (Z := _)  (n_528 := 0) (d_529 := 1) (r := x_64308) w pz  hx_64309) ?_
        refine WL.quiet (d := 175) rfl rfl rfl (q_build (v := (.agg #[(.int .i64 x_64306.fN), (.int .i64 x_64306.fD), (.int .i64 x_64308.fN), (.int .i64 x_64308.fD)])) (Eos.parts (l := [.tmp 173, .tmp 174]) (.cons rfl (.cons rfl .nil)) [0, 1]) (fun _ => by kernel_rfl)) ?_
        refine WL.new (dd := 176) rfl rfl rfl (e_buildSlice (cs := ([(⟨x_64302, x_64304⟩ : Sapi_Bucket), (⟨x_64306, x_64308⟩ : Sapi_Bucket)] : List Sapi_Bucket).flatMap e42) elT_25 (Eos.parts (l := [.tmp 172, .tmp 175]) (.cons rfl (.cons rfl .nil)) [0, 1]) (fun _ => by kernel_rfl) rfl (by unfold maxLen; omega)) ?_
        intro b_64311 _
        refine WL.quiet (d := 33) rfl rfl rfl (q_assign rfl) ?_
        refine WL.nil ?_
        refine WX.then ?_
        refine WC.seq ?_
        obtain ⟨x_64318, hx_64319, h⟩ := bind_elim h
        refine WC.region ?_
        refine WL.quiet (d := 178) rfl rfl rfl (q_move rfl) ?_
        refine WL.quiet (d := 179) rfl rfl rfl (q_move rfl) ?_
        refine WL.freezeS (ls := wide_64236) (.there (.there .here)) (.there .here) hz (RR.flat (enc := e42) (fun _ => rfl) _) ?_
        intro Zn_64325 hle_64326 hf_64327
        refine WL.freezeS (ls := ([(⟨x_64302, x_64304⟩ : Sapi_Bucket), (⟨x_64306, x_64308⟩ : Sapi_Bucket)] : List Sapi_Bucket)) (.there .here) .here hz (RR.flat (enc := e42) (fun _ => rfl) _) ?_
        intro Zn_64328 hle_64329 hf_64330
        refine WL.enter3 (dd := 180) rfl rfl rfl (run_call (l := [.tmp 178, .tmp 179]) Try.call30 (.cons rfl (.cons rfl .nil))) (.nil : Sel [fz Zn_64328] [] [fz Zn_64328]) (fun w hw => by have pz := (hz.call2 hw (.nil : Sel [fz Zn_64328] [] [fz Zn_64328]) .here); exact w_curve_Sum (Z := _) (ao_15120 := ao_64237) (cap_15121 := cap_64238) (ao_15124 := (some ⟨b_64311, 0, none⟩)) (cap_15125 := 2) (a_15119 := wide_64236) (b_15123 := ([(⟨x_64302, x_64304⟩ : Sapi_Bucket), (⟨x_64306, x_64308⟩ : Sapi_Bucket)] : List Sapi_Bucket)) (r := x_64318) w pz (hf_64327.mono hle_64329) hf_64330 hx_64319) ?_
        rintro Zn_64331 ao_64332 cap_64333 _
        refine WL.merge .here (.there .here) ?_
        refine WL.quiet (d := 177) rfl rfl rfl (q_move rfl) ?_
        refine WL.quiet (d := 181) rfl rfl rfl (q_extract rfl rfl) ?_
        refine WL.quiet (d := 182) rfl rfl rfl (q_extract rfl rfl) ?_
        refine WL.quiet (d := 34) rfl rfl rfl (q_assign rfl) ?_
        refine WL.quiet (d := 35) rfl rfl rfl (q_assign rfl) ?_
        refine WL.nil ?_
        refine WX.then ?_
        refine WC.seq ?_
        obtain ⟨c_64336, h⟩ := chk_elim h
        obtain ⟨x_64340, hx_64341, h⟩ := bind_elim h
        refine WC.region ?_
        refine WL.quiet (d := 184) rfl rfl rfl (q_move rfl) ?_
        refine WL.zsub (dd := 185) rfl rfl (Z := (Z ++ (Zn_64328 ++ Zn_64331))) (Pr := (fun r x => r = e42 x)) elT_25 rfl (hf_64327.mono (hle_64329.trans ((Zle.left _ _).trans (Zle.assoc _ _ _)))) ixn (ixo rfl) rfl rfl c_64336 (List.drop_zero).symm ?_
        rintro ao_64347 cap_64348 hs_64349
        refine WL.quiet (d := 186) rfl rfl rfl (q_move rfl) ?_
        refine WL.enter3 (dd := 187) rfl rfl rfl (run_call (l := [.tmp 185, .tmp 186]) Try.call30 (.cons rfl (.cons rfl .nil))) (.nil : Sel [fz (Zn_64328 ++ Zn_64331), row (.slice ao_64332 x_64318.1.length cap_64333) 42 4 (x_64318.1.flatMap e42)] [] [fz (Zn_64328 ++ Zn_64331), row (.slice ao_64332 x_64318.1.length cap_64333) 42 4 (x_64318.1.flatMap e42)]) (fun w hw => by have pz := (hz.call2 hw (.nil : Sel [fz (Zn_64328 ++ Zn_64331), row (.slice ao_64332 x_64318.1.length cap_64333) 42 4 (x_64318.1.flatMap e42)] [] [fz (Zn_64328 ++ Zn_64331), row (.slice ao_64332 x_64318.1.length cap_64333) 42 4 (x_64318.1.flatMap e42)]) .here); exact w_curve_Sum (Z := _) (ao_15120 := ao_64347) (cap_15121 := cap_64348) (ao_15124 := (some ⟨b_64311, 0, none⟩)) (cap_15125 := 2) (a_15119 := (wide_64236.take (16 : Int).toNat)) (b_15123 := ([(⟨x_64302, x_64304⟩ : Sapi_Bucket), (⟨x_64306, x_64308⟩ : Sapi_Bucket)] : List Sapi_Bucket)) (r := x_64340) w pz hs_64349 (hf_64330.mono ((Zle.left _ _).trans (Zle.assoc _ _ _))) hx_64341) ?_
        rintro Zn_64350 ao_64351 cap_64352 _
        refine WL.merge .here (.there .here) ?_
        refine WL.quiet (d := 183) rfl rfl rfl (q_move rfl) ?_
        refine WL.quiet (d := 188) rfl rfl rfl (q_extract rfl rfl) ?_
        refine WL.quiet (d := 189) rfl rfl rfl (q_extract rfl rfl) ?_
        refine WL.quiet (d := 36) rfl rfl rfl (q_assign rfl) ?_
        refine WL.quiet (d := 37) rfl rfl rfl (q_assign rfl) ?_
        refine WL.nil ?_
        refine WX.then ?_
        refine WC.seq ?_
        obtain ⟨x_64355, hx_64356, h⟩ := bind_elim h
        obtain ⟨b_64361, hb_64362, h⟩ := bind_elim h
        refine WC.region ?_
        refine WL.quiet (d := 190) rfl rfl rfl (q_move rfl) ?_
        refine WL.callD (dd := 191) rfl rfl rfl (run_call (l := [.tmp 190]) Try.call26 (.cons rfl .nil)) (.nil : Sel [fz ((Zn_64328 ++ Zn_64331) ++ Zn_64350), row (.slice ao_64351 x_64340.1.length cap_64352) 42 4 (x_64340.1.flatMap e42), row (.slice ao_64332 x_64318.1.length cap_64333) 42 4 (x_64318.1.flatMap e42)] [] [fz ((Zn_64328 ++ Zn_64331) ++ Zn_64350), row (.slice ao_64351 x_64340.1.length cap_64352) 42 4 (x_64340.1.flatMap e42), row (.slice ao_64332 x_64318.1.length cap_64333) 42 4 (x_64318.1.flatMap e42)]) (fun w hw => by have pz := (hz.call2 hw (.nil : Sel [fz ((Zn_64328 ++ Zn_64331) ++ Zn_64350), row (.slice ao_64351 x_64340.1.length cap_64352) 42 4 (x_64340.1.flatMap e42), row (.slice ao_64332 x_64318.1.length cap_64333) 42 4 (x_64318.1.flatMap e42)] [] [fz ((Zn_64328 ++ Zn_64331) ++ Zn_64350), row (.slice ao_64351 x_64340.1.length cap_64352) 42 4 (x_64340.1.flatMap e42), row (.slice ao_64332 x_64318.1.length cap_64333) 42 4 (x_64318.1.flatMap e42)]) .here); exact w_curve_Valid (Z := _) (ao_1187 := ao_63910) (cap_1188 := cap_63911) (c_1186 := bad_63909) (r := x_64355) w pz (hf_64037.mono ((Zle.left _ _).trans ((Zle.assoc _ _ _).trans (hle_64054.trans ((Zle.left _ _).trans ((Zle.assoc _ _ _).trans (hle_64326.trans (hle_64329.trans ((Zle.left _ _).trans ((Zle.assoc _ _ _).trans ((Zle.left _ _).trans (Zle.assoc _ _ _)))))))))))) hx_64356) ?_
        refine WL.quiet (d := 192) rfl rfl rfl (q_not rfl) ?_
        refine WL.quiet (d := 193) rfl rfl rfl (q_move rfl) ?_
        refine WL.cut0 True [(37, (.int .i64 x_64340.2)), (196, (.bool ((!x_64355) && (decide (x_64318.2 = 5)))))] [fz ((Zn_64328 ++ Zn_64331) ++ Zn_64350), row (.slice ao_64351 x_64340.1.length cap_64352) 42 4 (x_64340.1.flatMap e42), row (.slice ao_64332 x_64318.1.length cap_64333) 42 4 (x_64318.1.flatMap e42)] 3 ?_ (fun _ => ?_)
        · rcases Bool.eq_false_or_eq_true (!x_64355) with hb' | hb'
          · have hg_64365 := hb'; clear hb'
            refine WL.pin (i := 193) rfl hg_64365 ?_
            refine WL.quiet (d := 194) rfl rfl rfl (q_move rfl) ?_
            refine WL.quiet (d := 195) rfl rfl rfl (q_eql rfl rfl) ?_
            refine WL.quiet (d := 196) rfl rfl rfl (q_pickT rfl rfl) ?_
            exact WL.cutEnd () trivial (.cons rfl (.cons (some_bool (and_r hg_64365)) .nil)) (.cons .here (.cons .here (.cons .here .nil)))
          · have hg_64366 := hb'; clear hb'
            refine WL.pin (i := 193) rfl hg_64366 ?_
            refine WL.skip rfl rfl rfl ?_
            refine WL.skip rfl rfl rfl ?_
            refine WL.quiet (d := 196) rfl rfl rfl (q_pickF rfl rfl) ?_
            exact WL.cutEnd () trivial (.cons rfl (.cons (some_bool (and_l hg_64366)) .nil)) (.cons .here (.cons .here (.cons .here .nil)))
        · skip
          refine WL.quiet (d := 197) rfl rfl rfl (q_move rfl) ?_
          refine WL.cut0 True [(200, (.bool (((!x_64355) && (decide (x_64318.2 = 5))) && (decide (x_64340.2 = 0)))))] [fz ((Zn_64328 ++ Zn_64331) ++ Zn_64350), row (.slice ao_64351 x_64340.1.length cap_64352) 42 4 (x_64340.1.flatMap e42), row (.slice ao_64332 x_64318.1.length cap_64333) 42 4 (x_64318.1.flatMap e42)] 3 ?_ (fun _ => ?_)
          · rcases Bool.eq_false_or_eq_true ((!x_64355) && (decide (x_64318.2 = 5))) with hb' | hb'
            · have hg_64367 := hb'; clear hb'
              refine WL.pin (i := 197) rfl hg_64367 ?_
              refine WL.quiet (d := 198) rfl rfl rfl (q_move rfl) ?_
              refine WL.quiet (d := 199) rfl rfl rfl (q_eql rfl rfl) ?_
              refine WL.quiet (d := 200) rfl rfl rfl (q_pickT rfl rfl) ?_
              exact WL.cutEnd () trivial (.cons (some_bool (and_r hg_64367)) .nil) (.cons .here (.cons .here (.cons .here .nil)))
            · have hg_64368 := hb'; clear hb'
              refine WL.pin (i := 197) rfl hg_64368 ?_
              refine WL.skip rfl rfl rfl ?_
              refine WL.skip rfl rfl rfl ?_
              refine WL.quiet (d := 200) rfl rfl rfl (q_pickF rfl rfl) ?_
              exact WL.cutEnd () trivial (.cons (some_bool (and_l hg_64368)) .nil) (.cons .here (.cons .here (.cons .here .nil)))
          · skip
            refine WL.quiet (d := 201) rfl rfl rfl (q_move rfl) ?_
            refine WL.cut1 (fun (Zn_64363 : Zp) => Zle (Z ++ ((Zn_64328 ++ Zn_64331) ++ Zn_64350)) (Z ++ Zn_64363)) (fun (Zn_64363 : Zp) => [(203, (.bool b_64361))]) (fun (Zn_64363 : Zp) => [fz Zn_64363, row (.slice ao_64351 x_64340.1.length cap_64352) 42 4 (x_64340.1.flatMap e42), row (.slice ao_64332 x_64318.1.length cap_64333) 42 4 (x_64318.1.flatMap e42)]) 2 ?_ (fun Zn_64363 hle_64364 => ?_)
            · rcases Bool.eq_false_or_eq_true (((!x_64355) && (decide (x_64318.2 = 5))) && (decide (x_64340.2 = 0))) with hb' | hb'
              · have hg_64369 := hb'; clear hb'
                have hq_64370 := ite_t hb_64362 hg_64369
                obtain ⟨x_64357, hx_64358, hq_64370⟩ := bind_elim hq_64370
                replace hq_64370 := Option.some.inj hq_64370
                refine WL.pin (i := 201) rfl hg_64369 ?_
                refine WL.enter1 (dd := 202) rfl rfl rfl (run_call (l := []) Try.call18 .nil) (.nil : Sel [fz ((Zn_64328 ++ Zn_64331) ++ Zn_64350), row (.slice ao_64351 x_64340.1.length cap_64352) 42 4 (x_64340.1.flatMap e42), row (.slice ao_64332 x_64318.1.length cap_64333) 42 4 (x_64318.1.flatMap e42)] [] [fz ((Zn_64328 ++ Zn_64331) ++ Zn_64350), row (.slice ao_64351 x_64340.1.length cap_64352) 42 4 (x_64340.1.flatMap e42), row (.slice ao_64332 x_64318.1.length cap_64333) 42 4 (x_64318.1.flatMap e42)]) (fun w hw => by have pz := (hz.call2 hw (.nil : Sel [fz ((Zn_64328 ++ Zn_64331) ++ Zn_64350), row (.slice ao_64351 x_64340.1.length cap_64352) 42 4 (x_64340.1.flatMap e42), row (.slice ao_64332 x_64318.1.length cap_64333) 42 4 (x_64318.1.flatMap e42)] [] [fz ((Zn_64328 ++ Zn_64331) ++ Zn_64350), row (.slice ao_64351 x_64340.1.length cap_64352) 42 4 (x_64340.1.flatMap e42), row (.slice ao_64332 x_64318.1.length cap_64333) 42 4 (x_64318.1.flatMap e42)]) .here); exact w_law02_awake (Z := _)   (r := x_64357) w pz  hx_64358) ?_
                rintro Zn_64371 _
                refine WL.merge .here .here ?_
                refine WL.quiet (d := 203) rfl rfl rfl (q_pickT rfl rfl) ?_
                exact WL.cutEnd (G := Zp) (((Zn_64328 ++ Zn_64331) ++ Zn_64350) ++ Zn_64371) ((Zle.left _ _).trans (Zle.assoc _ _ _)) (.cons (some_bool hq_64370) .nil) (.cons .here (.cons .here (.cons .here .nil)))
              · have hg_64373 := hb'; clear hb'
                have hq_64374 := ite_f hb_64362 hg_64373
                replace hq_64374 := Option.some.inj hq_64374
                refine WL.pin (i := 201) rfl hg_64373 ?_
                refine WL.skip rfl rfl rfl ?_
                refine WL.quiet (d := 203) rfl rfl rfl (q_pickF rfl rfl) ?_
                exact WL.cutEnd (G := Zp) ((Zn_64328 ++ Zn_64331) ++ Zn_64350) (Zle.refl _) (.cons (some_bool hq_64374) .nil) (.cons .here (.cons .here (.cons .here .nil)))
            · skip
              refine WL.quiet (d := 6) rfl rfl rfl (q_assign rfl) ?_
              refine WL.nil ?_
              refine WX.then ?_
              refine WC.ret ?_
              obtain rfl := Option.some.inj h
              refine WX.bpRet Try.results9 (.tmp rfl .nil) (fun w hw => ?_)
              exact ⟨Zn_64363, ret1 rfl, trivial, hw.sub (.cons .here .nil)⟩
end Go.Proofs.Ytbihfglmcjkdhaa
