/- A part of this claim's proof: models of the functions that the law reaches, with the proof that the functions compute them; plain laws about the models. No conditions beyond those in each theorem's statement. -/
import Derived.Test.YtbihfglmcjkdhaaW02f
namespace Go.Proofs.Ytbihfglmcjkdhaa
open Go Go.RowKit Sep
set_option linter.all false
set_option maxRecDepth 30000
set_option maxHeartbeats 4000000
def m_law02_CurveNorm_L10 (x_25694 : List Sapi_Bucket) (x_25702 : List Sapi_Bucket × Int) (v_27303 : Int) (k_27689 : Bool → Option Bool) : Nat → Bool → Int → Option Bool
  | 0, _, _ => none
  | n_27716 + 1, found_27713, v_27714 => if decide (v_27714 < ((x_25694.length : Nat) : Int)) then chk ((0 : Int) ≤ v_27714 ∧ v_27714 < ((x_25694.length : Nat) : Int)) (m_law02_CurveNorm_L10 x_25694 x_25702 v_27303 k_27689 n_27716 (found_27713 || (decide ((⟨(⟨(((nth x_25694 v_27714).fBurst).fN), (((nth x_25694 v_27714).fBurst).fD)⟩ : Sapi_Rat), (⟨(((nth x_25694 v_27714).fRate).fN), (((nth x_25694 v_27714).fRate).fD)⟩ : Sapi_Rat)⟩ : Sapi_Bucket) = (⟨(⟨(((nth x_25702.1 v_27303).fBurst).fN), (((nth x_25702.1 v_27303).fBurst).fD)⟩ : Sapi_Rat), (⟨(((nth x_25702.1 v_27303).fRate).fN), (((nth x_25702.1 v_27303).fRate).fD)⟩ : Sapi_Rat)⟩ : Sapi_Bucket)))) (i64 (v_27714 + 1))) else k_27689 found_27713
theorem m_law02_CurveNorm_L10_fuel {n : Nat} {x_25694 : List Sapi_Bucket} {x_25702 : List Sapi_Bucket × Int} {v_27303 : Int} {k_27689 : Bool → Option Bool} {found_27713 : Bool} {v_27714 : Int} {r : Bool} (h : m_law02_CurveNorm_L10 x_25694 x_25702 v_27303 k_27689 n found_27713 v_27714 = some r) : ∃ m, n = m + 1 := by
  cases n with
  | zero => cases h
  | succ m => exact ⟨m, rfl⟩

def m_law02_CurveNorm_L9 (x_25702 : List Sapi_Bucket × Int) (x_25710 : List Sapi_Bucket × Int) (x_25694 : List Sapi_Bucket) (k_26860 : Option Bool) : Nat → Int → Option Bool
  | 0, _ => none
  | n_27305 + 1, v_27303 => if decide (v_27303 < ((x_25702.1.length : Nat) : Int)) then jp0 (m_law02_CurveNorm_L9 x_25702 x_25710 x_25694 k_26860 n_27305 (i64 (v_27303 + 1))) fun k_27523 => chk ((0 : Int) ≤ v_27303 ∧ v_27303 < ((x_25702.1.length : Nat) : Int)) (chk ((0 : Int) ≤ v_27303 ∧ v_27303 < ((x_25710.1.length : Nat) : Int)) ((if decide ((⟨(⟨(((nth x_25710.1 v_27303).fBurst).fN), (((nth x_25710.1 v_27303).fBurst).fD)⟩ : Sapi_Rat), (⟨(((nth x_25710.1 v_27303).fRate).fN), (((nth x_25710.1 v_27303).fRate).fD)⟩ : Sapi_Rat)⟩ : Sapi_Bucket) ≠ (⟨(⟨(((nth x_25702.1 v_27303).fBurst).fN), (((nth x_25702.1 v_27303).fBurst).fD)⟩ : Sapi_Rat), (⟨(((nth x_25702.1 v_27303).fRate).fN), (((nth x_25702.1 v_27303).fRate).fD)⟩ : Sapi_Rat)⟩ : Sapi_Bucket)) then some true else (if decide (v_27303 > 0) then chk ((0 : Int) ≤ (i64 (v_27303 - 1)) ∧ (i64 (v_27303 - 1)) < ((x_25702.1.length : Nat) : Int)) ((m_rat_Cmp (⟨(((nth x_25702.1 (i64 (v_27303 - 1))).fBurst).fN), (((nth x_25702.1 (i64 (v_27303 - 1))).fBurst).fD)⟩ : Sapi_Rat) (⟨(((nth x_25702.1 v_27303).fBurst).fN), (((nth x_25702.1 v_27303).fBurst).fD)⟩ : Sapi_Rat)).bind fun x_27584 => (if decide (x_27584 ≥ 0) then some true else chk ((0 : Int) ≤ (i64 (v_27303 - 1)) ∧ (i64 (v_27303 - 1)) < ((x_25702.1.length : Nat) : Int)) ((m_rat_Cmp (⟨(((nth x_25702.1 (i64 (v_27303 - 1))).fRate).fN), (((nth x_25702.1 (i64 (v_27303 - 1))).fRate).fD)⟩ : Sapi_Rat) (⟨(((nth x_25702.1 v_27303).fRate).fN), (((nth x_25702.1 v_27303).fRate).fD)⟩ : Sapi_Rat)).bind fun x_27587 => some (decide (x_27587 ≤ 0)))).bind fun b_27589 => some b_27589) else some false).bind fun b_27591 => some b_27591).bind fun b_27593 => if b_27593 then some false else jp1 (fun (found_27688 : Bool) => if !found_27688 then some false else k_27523) fun k_27689 => m_law02_CurveNorm_L10 x_25694 x_25702 v_27303 k_27689 FUEL false 0)) else k_26860
theorem m_law02_CurveNorm_L9_fuel {n : Nat} {x_25702 : List Sapi_Bucket × Int} {x_25710 : List Sapi_Bucket × Int} {x_25694 : List Sapi_Bucket} {k_26860 : Option Bool} {v_27303 : Int} {r : Bool} (h : m_law02_CurveNorm_L9 x_25702 x_25710 x_25694 k_26860 n v_27303 = some r) : ∃ m, n = m + 1 := by
  cases n with
  | zero => cases h
  | succ m => exact ⟨m, rfl⟩

def m_law02_CurveNorm_L12 (x_25702 : List Sapi_Bucket × Int) (x_25694 : List Sapi_Bucket) (v_29701 : Int) (k_30089 : Bool → Option Bool) : Nat → Bool → Int → Option Bool
  | 0, _, _ => none
  | n_30144 + 1, covered_30141, v_30142 => if decide (v_30142 < ((x_25702.1.length : Nat) : Int)) then chk ((0 : Int) ≤ v_30142 ∧ v_30142 < ((x_25702.1.length : Nat) : Int)) ((if covered_30141 then some true else (m_rat_Cmp (⟨(((nth x_25702.1 v_30142).fBurst).fN), (((nth x_25702.1 v_30142).fBurst).fD)⟩ : Sapi_Rat) (⟨(((nth x_25694 v_29701).fBurst).fN), (((nth x_25694 v_29701).fBurst).fD)⟩ : Sapi_Rat)).bind fun x_30173 => (if decide (x_30173 ≤ 0) then (m_rat_Cmp (⟨(((nth x_25702.1 v_30142).fRate).fN), (((nth x_25702.1 v_30142).fRate).fD)⟩ : Sapi_Rat) (⟨(((nth x_25694 v_29701).fRate).fN), (((nth x_25694 v_29701).fRate).fD)⟩ : Sapi_Rat)).bind fun x_30175 => some (decide (x_30175 ≤ 0)) else some false).bind fun b_30177 => some b_30177).bind fun b_30179 => m_law02_CurveNorm_L12 x_25702 x_25694 v_29701 k_30089 n_30144 b_30179 (i64 (v_30142 + 1))) else k_30089 covered_30141
theorem m_law02_CurveNorm_L12_fuel {n : Nat} {x_25702 : List Sapi_Bucket × Int} {x_25694 : List Sapi_Bucket} {v_29701 : Int} {k_30089 : Bool → Option Bool} {covered_30141 : Bool} {v_30142 : Int} {r : Bool} (h : m_law02_CurveNorm_L12 x_25702 x_25694 v_29701 k_30089 n covered_30141 v_30142 = some r) : ∃ m, n = m + 1 := by
  cases n with
  | zero => cases h
  | succ m => exact ⟨m, rfl⟩

def m_law02_CurveNorm_L11 (x_25694 : List Sapi_Bucket) (x_25702 : List Sapi_Bucket × Int) (k_29204 : Option Bool) : Nat → Int → Option Bool
  | 0, _ => none
  | n_29703 + 1, v_29701 => if decide (v_29701 < ((x_25694.length : Nat) : Int)) then jp0 (m_law02_CurveNorm_L11 x_25694 x_25702 k_29204 n_29703 (i64 (v_29701 + 1))) fun k_29949 => chk ((0 : Int) ≤ v_29701 ∧ v_29701 < ((x_25694.length : Nat) : Int)) (jp1 (fun (covered_30088 : Bool) => if !covered_30088 then some false else k_29949) fun k_30089 => m_law02_CurveNorm_L12 x_25702 x_25694 v_29701 k_30089 FUEL false 0) else k_29204
theorem m_law02_CurveNorm_L11_fuel {n : Nat} {x_25694 : List Sapi_Bucket} {x_25702 : List Sapi_Bucket × Int} {k_29204 : Option Bool} {v_29701 : Int} {r : Bool} (h : m_law02_CurveNorm_L11 x_25694 x_25702 k_29204 n v_29701 = some r) : ∃ m, n = m + 1 := by
  cases n with
  | zero => cases h
  | succ m => exact ⟨m, rfl⟩

/-- nacellelaw02.CurveNorm -/
def m_law02_CurveNorm (m_21187 : List Int) : Option Bool :=
  (m_law02_Small m_21187).bind fun x_25694 => (m_curve_Norm x_25694).bind fun x_25702 => (m_curve_Norm x_25702.1).bind fun x_25710 => if (((decide (x_25702.2 ≠ 0)) || (decide (x_25710.2 ≠ 0))) || (decide (((x_25710.1.length : Nat) : Int) ≠ ((x_25702.1.length : Nat) : Int)))) || (decide (((x_25702.1.length : Nat) : Int) = 0)) then some false else jp0 (jp0 ((m_law02_awake).bind fun x_30190 => some x_30190) fun k_29204 => m_law02_CurveNorm_L11 x_25694 x_25702 k_29204 FUEL 0) fun k_26860 => m_law02_CurveNorm_L9 x_25702 x_25710 x_25694 k_26860 FUEL 0

set_option maxRecDepth 20000 in
theorem w_law02_CurveNorm (Z : Zp)  (ao_21188 : Option Addr) (cap_21189 : Nat) (m_21187 : List Int) (r : Bool) (w₀ : World) (hz : PZ [] w₀ Z)
    (hs_21190 : ZS Z 1 (fun r x => r = e5 x) ao_21188 cap_21189 m_21187)
    (h : m_law02_CurveNorm m_21187 = some r) :
    Calls Try.prog 4 #[(.slice ao_21188 m_21187.length cap_21189)] w₀ fun e w' => ∃ Zn : Zp, e = .returned (.bool r) ∧ True ∧ Hp [] w₀ w' [fz Zn] := by
  unfold m_law02_CurveNorm at h
  refine Calls.ofWC (vs := [(.slice ao_21188 m_21187.length cap_21189)]) (pre := []) (env := [(0, (.slice ao_21188 m_21187.length cap_21189))]) Try.func4 rfl Try.ntmps4 rfl (Hp.nil w₀ _) rfl ?_
  refine WC.pool ?_
  refine WC.seq ?_
  refine WC.region ?_
  refine WL.quiet (d := 2) rfl rfl rfl (q_assign rfl) ?_
  refine WL.nil ?_
  refine WX.then ?_
  refine WC.seq ?_
  obtain ⟨x_25694, hx_25695, h⟩ := bind_elim h
  refine WC.region ?_
  refine WL.quiet (d := 18) rfl rfl rfl (q_move rfl) ?_
  refine WL.enter2 (dd := 19) rfl rfl rfl (run_call (l := [.tmp 18]) Try.call10 (.cons rfl .nil)) (.nil : Sel [fz []] [] [fz []]) (fun w hw => by have pz := (hz.call2 hw (.nil : Sel [fz []] [] [fz []]) .here); exact w_law02_Small (Z := _) (ao_8 := ao_21188) (cap_9 := cap_21189) (nums_7 := m_21187) (r := x_25694) w pz (hs_21190.mono (Zle.left _ _)) hx_25695) ?_
  rintro ao_25699 cap_25700 _
  refine WL.quiet (d := 3) rfl rfl rfl (q_assign rfl) ?_
  refine WL.nil ?_
  refine WX.then ?_
  refine WC.seq ?_
  obtain ⟨x_25702, hx_25703, h⟩ := bind_elim h
  refine WC.region ?_
  refine WL.quiet (d := 21) rfl rfl rfl (q_move rfl) ?_
  refine WL.enter2 (dd := 22) rfl rfl rfl (run_call (l := [.tmp 21]) Try.call19 (.cons rfl .nil)) (.nil : Sel [row (.slice ao_25699 x_25694.length cap_25700) 42 4 (x_25694.flatMap e42), fz []] [] [row (.slice ao_25699 x_25694.length cap_25700) 42 4 (x_25694.flatMap e42), fz []]) (fun w hw => by have pz := (hz.call2 hw (.nil : Sel [row (.slice ao_25699 x_25694.length cap_25700) 42 4 (x_25694.flatMap e42), fz []] [] [row (.slice ao_25699 x_25694.length cap_25700) 42 4 (x_25694.flatMap e42), fz []]) (.there .here)).lend hw (.nil : Sel [row (.slice ao_25699 x_25694.length cap_25700) 42 4 (x_25694.flatMap e42), fz []] [] [row (.slice ao_25699 x_25694.length cap_25700) 42 4 (x_25694.flatMap e42), fz []]) (B := [row (.slice ao_25699 x_25694.length cap_25700) 42 4 (x_25694.flatMap e42)]) (fun _ hx' => ((.cons .here .nil) : Sel _ [row (.slice ao_25699 x_25694.length cap_25700) 42 4 (x_25694.flatMap e42)] _).mem hx'); exact w_curve_Norm (Z := _) (ao_3779 := ao_25699) (cap_3780 := cap_25700) (c_3778 := x_25694) (r := x_25702) w pz (ZA.row (hw.lent (.nil : Sel [row (.slice ao_25699 x_25694.length cap_25700) 42 4 (x_25694.flatMap e42), fz []] [] [row (.slice ao_25699 x_25694.length cap_25700) 42 4 (x_25694.flatMap e42), fz []]) (B := [row (.slice ao_25699 x_25694.length cap_25700) 42 4 (x_25694.flatMap e42)]) (fun _ hx' => ((.cons .here .nil) : Sel _ [row (.slice ao_25699 x_25694.length cap_25700) 42 4 (x_25694.flatMap e42)] _).mem hx') (.head _) _) (RR.flat (enc := e42) (fun _ => rfl) _) ⟨w, pz.1⟩) hx_25703) ?_
  rintro ao_25707 cap_25708 _
  refine WL.quiet (d := 20) rfl rfl rfl (q_move rfl) ?_
  refine WL.quiet (d := 23) rfl rfl rfl (q_extract rfl rfl) ?_
  refine WL.quiet (d := 24) rfl rfl rfl (q_extract rfl rfl) ?_
  refine WL.quiet (d := 4) rfl rfl rfl (q_assign rfl) ?_
  refine WL.quiet (d := 5) rfl rfl rfl (q_assign rfl) ?_
  refine WL.nil ?_
  refine WX.then ?_
  refine WC.seq ?_
  obtain ⟨x_25710, hx_25711, h⟩ := bind_elim h
  refine WC.region ?_
  refine WL.quiet (d := 26) rfl rfl rfl (q_move rfl) ?_
  refine WL.enter2 (dd := 27) rfl rfl rfl (run_call (l := [.tmp 26]) Try.call19 (.cons rfl .nil)) (.nil : Sel [row (.slice ao_25707 x_25702.1.length cap_25708) 42 4 (x_25702.1.flatMap e42), row (.slice ao_25699 x_25694.length cap_25700) 42 4 (x_25694.flatMap e42), fz []] [] [row (.slice ao_25707 x_25702.1.length cap_25708) 42 4 (x_25702.1.flatMap e42), row (.slice ao_25699 x_25694.length cap_25700) 42 4 (x_25694.flatMap e42), fz []]) (fun w hw => by have pz := (hz.call2 hw (.nil : Sel [row (.slice ao_25707 x_25702.1.length cap_25708) 42 4 (x_25702.1.flatMap e42), row (.slice ao_25699 x_25694.length cap_25700) 42 4 (x_25694.flatMap e42), fz []] [] [row (.slice ao_25707 x_25702.1.length cap_25708) 42 4 (x_25702.1.flatMap e42), row (.slice ao_25699 x_25694.length cap_25700) 42 4 (x_25694.flatMap e42), fz []]) (.there (.there .here))).lend hw (.nil : Sel [row (.slice ao_25707 x_25702.1.length cap_25708) 42 4 (x_25702.1.flatMap e42), row (.slice ao_25699 x_25694.length cap_25700) 42 4 (x_25694.flatMap e42), fz []] [] [row (.slice ao_25707 x_25702.1.length cap_25708) 42 4 (x_25702.1.flatMap e42), row (.slice ao_25699 x_25694.length cap_25700) 42 4 (x_25694.flatMap e42), fz []]) (B := [row (.slice ao_25707 x_25702.1.length cap_25708) 42 4 (x_25702.1.flatMap e42)]) (fun _ hx' => ((.cons .here .nil) : Sel _ [row (.slice ao_25707 x_25702.1.length cap_25708) 42 4 (x_25702.1.flatMap e42)] _).mem hx'); exact w_curve_Norm (Z := _) (ao_3779 := ao_25707) (cap_3780 := cap_25708) (c_3778 := x_25702.1) (r := x_25710) w pz (ZA.row (hw.lent (.nil : Sel [row (.slice ao_25707 x_25702.1.length cap_25708) 42 4 (x_25702.1.flatMap e42), row (.slice ao_25699 x_25694.length cap_25700) 42 4 (x_25694.flatMap e42), fz []] [] [row (.slice ao_25707 x_25702.1.length cap_25708) 42 4 (x_25702.1.flatMap e42), row (.slice ao_25699 x_25694.length cap_25700) 42 4 (x_25694.flatMap e42), fz []]) (B := [row (.slice ao_25707 x_25702.1.length cap_25708) 42 4 (x_25702.1.flatMap e42)]) (fun _ hx' => ((.cons .here .nil) : Sel _ [row (.slice ao_25707 x_25702.1.length cap_25708) 42 4 (x_25702.1.flatMap e42)] _).mem hx') (.head _) _) (RR.flat (enc := e42) (fun _ => rfl) _) ⟨w, pz.1⟩) hx_25711) ?_
  rintro ao_25715 cap_25716 _
  refine WL.quiet (d := 25) rfl rfl rfl (q_move rfl) ?_
  refine WL.quiet (d := 28) rfl rfl rfl (q_extract rfl rfl) ?_
  refine WL.quiet (d := 29) rfl rfl rfl (q_extract rfl rfl) ?_
  refine WL.quiet (d := 6) rfl rfl rfl (q_assign rfl) ?_
  refine WL.quiet (d := 7) rfl rfl rfl (q_assign rfl) ?_
  refine WL.nil ?_
  refine WX.then ?_
  refine WC.seq ?_
  refine WC.seq ?_
  refine WC.region ?_
  refine WL.quiet (d := 30) rfl rfl rfl (q_move rfl) ?_
  refine WL.quiet (d := 31) rfl rfl rfl (q_neq rfl rfl) ?_
  refine WL.quiet (d := 32) rfl rfl rfl (q_move rfl) ?_
  refine WL.cut0 True [(3, (.slice ao_25699 x_25694.length cap_25700)), (4, (.slice ao_25707 x_25702.1.length cap_25708)), (6, (.slice ao_25715 x_25710.1.length cap_25716)), (35, (.bool ((decide (x_25702.2 ≠ 0)) || (decide (x_25710.2 ≠ 0)))))] [row (.slice ao_25715 x_25710.1.length cap_25716) 42 4 (x_25710.1.flatMap e42), row (.slice ao_25707 x_25702.1.length cap_25708) 42 4 (x_25702.1.flatMap e42), row (.slice ao_25699 x_25694.length cap_25700) 42 4 (x_25694.flatMap e42), fz []] 3 ?_ (fun _ => ?_)
  · rcases Bool.eq_false_or_eq_true (decide (x_25702.2 ≠ 0)) with hb' | hb'
    · have hg_25725 := hb'; clear hb'
      refine WL.pin (i := 32) rfl hg_25725 ?_
      refine WL.skip rfl rfl rfl ?_
      refine WL.skip rfl rfl rfl ?_
      refine WL.quiet (d := 35) rfl rfl rfl (q_pickT rfl rfl) ?_
      exact WL.cutEnd () trivial (.cons rfl (.cons rfl (.cons rfl (.cons (some_bool (or_l hg_25725)) .nil)))) (.cons .here (.cons .here (.cons .here (.cons .here .nil))))
    · have hg_25726 := hb'; clear hb'
      refine WL.pin (i := 32) rfl hg_25726 ?_
      refine WL.quiet (d := 33) rfl rfl rfl (q_move rfl) ?_
      refine WL.quiet (d := 34) rfl rfl rfl (q_neq rfl rfl) ?_
      refine WL.quiet (d := 35) rfl rfl rfl (q_pickF rfl rfl) ?_
      exact WL.cutEnd () trivial (.cons rfl (.cons rfl (.cons rfl (.cons (some_bool (or_r hg_25726)) .nil)))) (.cons .here (.cons .here (.cons .here (.cons .here .nil))))
  · skip
    refine WL.quiet (d := 36) rfl rfl rfl (q_move rfl) ?_
    refine WL.cut0 True [(3, (.slice ao_25699 x_25694.length cap_25700)), (4, (.slice ao_25707 x_25702.1.length cap_25708)), (6, (.slice ao_25715 x_25710.1.length cap_25716)), (42, (.bool (((decide (x_25702.2 ≠ 0)) || (decide (x_25710.2 ≠ 0))) || (decide (((x_25710.1.length : Nat) : Int) ≠ ((x_25702.1.length : Nat) : Int))))))] [row (.slice ao_25715 x_25710.1.length cap_25716) 42 4 (x_25710.1.flatMap e42), row (.slice ao_25707 x_25702.1.length cap_25708) 42 4 (x_25702.1.flatMap e42), row (.slice ao_25699 x_25694.length cap_25700) 42 4 (x_25694.flatMap e42), fz []] 6 ?_ (fun _ => ?_)
    · rcases Bool.eq_false_or_eq_true ((decide (x_25702.2 ≠ 0)) || (decide (x_25710.2 ≠ 0))) with hb' | hb'
      · have hg_25727 := hb'; clear hb'
        refine WL.pin (i := 36) rfl hg_25727 ?_
        refine WL.skip rfl rfl rfl ?_
        refine WL.skip rfl rfl rfl ?_
        refine WL.skip rfl rfl rfl ?_
        refine WL.skip rfl rfl rfl ?_
        refine WL.skip rfl rfl rfl ?_
        refine WL.quiet (d := 42) rfl rfl rfl (q_pickT rfl rfl) ?_
        exact WL.cutEnd () trivial (.cons rfl (.cons rfl (.cons rfl (.cons (some_bool (or_l hg_25727)) .nil)))) (.cons .here (.cons .here (.cons .here (.cons .here .nil))))
      · have hg_25728 := hb'; clear hb'
        refine WL.pin (i := 36) rfl hg_25728 ?_
        refine WL.quiet (d := 37) rfl rfl rfl (q_move rfl) ?_
        refine WL.quiet (d := 38) rfl rfl rfl (q_len Try.underlying25 rfl) ?_
        refine WL.quiet (d := 39) rfl rfl rfl (q_move rfl) ?_
        refine WL.quiet (d := 40) rfl rfl rfl (q_len Try.underlying25 rfl) ?_
        refine WL.quiet (d := 41) rfl rfl rfl (q_neq rfl rfl) ?_
        refine WL.quiet (d := 42) rfl rfl rfl (q_pickF rfl rfl) ?_
        exact WL.cutEnd () trivial (.cons rfl (.cons rfl (.cons rfl (.cons (some_bool (or_r hg_25728)) .nil)))) (.cons .here (.cons .here (.cons .here (.cons .here .nil))))
    · skip
      refine WL.quiet (d := 43) rfl rfl rfl (q_move rfl) ?_
      refine WL.cut0 True [(3, (.slice ao_25699 x_25694.length cap_25700)), (4, (.slice ao_25707 x_25702.1.length cap_25708)), (6, (.slice ao_25715 x_25710.1.length cap_25716)), (47, (.bool ((((decide (x_25702.2 ≠ 0)) || (decide (x_25710.2 ≠ 0))) || (decide (((x_25710.1.length : Nat) : Int) ≠ ((x_25702.1.length : Nat) : Int)))) || (decide (((x_25702.1.length : Nat) : Int) = 0)))))] [row (.slice ao_25715 x_25710.1.length cap_25716) 42 4 (x_25710.1.flatMap e42), row (.slice ao_25707 x_25702.1.length cap_25708) 42 4 (x_25702.1.flatMap e42), row (.slice ao_25699 x_25694.length cap_25700) 42 4 (x_25694.flatMap e42), fz []] 4 ?_ (fun _ => ?_)
      · rcases Bool.eq_false_or_eq_true (((decide (x_25702.2 ≠ 0)) || (decide (x_25710.2 ≠ 0))) || (decide (((x_25710.1.length : Nat) : Int) ≠ ((x_25702.1.length : Nat) : Int)))) with hb' | hb'
        · have hg_25729 := hb'; clear hb'
          refine WL.pin (i := 43) rfl hg_25729 ?_
          refine WL.skip rfl rfl rfl ?_
          refine WL.skip rfl rfl rfl ?_
          refine WL.skip rfl rfl rfl ?_
          refine WL.quiet (d := 47) rfl rfl rfl (q_pickT rfl rfl) ?_
          exact WL.cutEnd () trivial (.cons rfl (.cons rfl (.cons rfl (.cons (some_bool (or_l hg_25729)) .nil)))) (.cons .here (.cons .here (.cons .here (.cons .here .nil))))
        · have hg_25730 := hb'; clear hb'
          refine WL.pin (i := 43) rfl hg_25730 ?_
          refine WL.quiet (d := 44) rfl rfl rfl (q_move rfl) ?_
          refine WL.quiet (d := 45) rfl rfl rfl (q_len Try.underlying25 rfl) ?_
          refine WL.quiet (d := 46) rfl rfl rfl (q_eql rfl rfl) ?_
          refine WL.quiet (d := 47) rfl rfl rfl (q_pickF rfl rfl) ?_
          exact WL.cutEnd () trivial (.cons rfl (.cons rfl (.cons rfl (.cons (some_bool (or_r hg_25730)) .nil)))) (.cons .here (.cons .here (.cons .here (.cons .here .nil))))
      · skip
        refine WL.nil ?_
        refine WX.then ?_
        refine WC.cond rfl (fun hb_25731 => ?_) (fun hb_25731 => ?_)
        · replace h := ite_t h hb_25731
          refine WC.seq ?_
          refine WC.region ?_
          refine WL.quiet (d := 2) rfl rfl rfl (q_assign rfl) ?_
          refine WL.nil ?_
          refine WX.then ?_
          refine WC.ret ?_
          refine WX.thenRet ?_
          obtain rfl := Option.some.inj h
          refine WX.bpRet Try.results4 (.tmp rfl .nil) (fun w hw => ?_)
          exact ⟨[], ret1 rfl, trivial, hw.sub (.cons (.there (.there (.there .here))) .nil)⟩
        · replace h := ite_f h hb_25731
          refine WC.skip ?_
          refine WX.then ?_
          obtain ⟨k_26860, hk_26861, h⟩ := jp0_elim h
          refine WC.seqMid4 (fun (ao_26856 : Option Addr) (cap_26857 : Nat) (ao_26858 : Option Addr) (cap_26859 : Nat) => (k_26860 = some r)) (fun (ao_26856 : Option Addr) (cap_26857 : Nat) (ao_26858 : Option Addr) (cap_26859 : Nat) => [(3, (.slice ao_26856 x_25694.length cap_26857)), (4, (.slice ao_26858 x_25702.1.length cap_26859))]) (fun (ao_26856 : Option Addr) (cap_26857 : Nat) (ao_26858 : Option Addr) (cap_26859 : Nat) => [fz [], row (.slice ao_26856 x_25694.length cap_26857) 42 4 (x_25694.flatMap e42), row (.slice ao_26858 x_25702.1.length cap_26859) 42 4 (x_25702.1.flatMap e42)]) ?_ ?_
          · skip
            refine WC.seq ?_
            refine WC.region ?_
            refine WL.quiet (d := 48) rfl rfl rfl (q_move rfl) ?_
            refine WL.quiet (d := 49) rfl rfl rfl (q_len Try.underlying25 rfl) ?_
            refine WL.quiet (d := 50) rfl rfl rfl (q_move rfl) ?_
            refine WL.nil ?_
            refine WX.then ?_
            refine WC.block ?_
            refine WC.loop8 (fun (n_27304 : Nat) (v_27303 : Int) (ao_27297 : Option Addr) (cap_27298 : Nat) (ao_27299 : Option Addr) (cap_27300 : Nat) (ao_27301 : Option Addr) (cap_27302 : Nat) => (m_law02_CurveNorm_L9 x_25702 x_25710 x_25694 k_26860 n_27304 v_27303 = some r)) (fun (n_27304 : Nat) (v_27303 : Int) (ao_27297 : Option Addr) (cap_27298 : Nat) (ao_27299 : Option Addr) (cap_27300 : Nat) (ao_27301 : Option Addr) (cap_27302 : Nat) => [(3, (.slice ao_27297 x_25694.length cap_27298)), (4, (.slice ao_27299 x_25702.1.length cap_27300)), (6, (.slice ao_27301 x_25710.1.length cap_27302)), (48, (.slice ao_27299 x_25702.1.length cap_27300)), (49, (.int .i64 ((x_25702.1.length : Nat) : Int))), (50, (.int .i64 v_27303))]) (fun (n_27304 : Nat) (v_27303 : Int) (ao_27297 : Option Addr) (cap_27298 : Nat) (ao_27299 : Option Addr) (cap_27300 : Nat) (ao_27301 : Option Addr) (cap_27302 : Nat) => [fz [], row (.slice ao_27297 x_25694.length cap_27298) 42 4 (x_25694.flatMap e42), row (.slice ao_27299 x_25702.1.length cap_27300) 42 4 (x_25702.1.flatMap e42), row (.slice ao_27301 x_25710.1.length cap_27302) 42 4 (x_25710.1.flatMap e42)]) (fun (n_27304 : Nat) (v_27303 : Int) (ao_27297 : Option Addr) (cap_27298 : Nat) (ao_27299 : Option Addr) (cap_27300 : Nat) (ao_27301 : Option Addr) (cap_27302 : Nat) => n_27304) ⟨FUEL, 0, ao_25699, cap_25700, ao_25707, cap_25708, ao_25715, cap_25716⟩ h (.cons rfl (.cons rfl (.cons rfl (.cons rfl (.cons rfl (.cons rfl .nil)))))) (.cons (.there (.there (.there .here))) (.cons (.there (.there .here)) (.cons (.there .here) (.cons .here .nil)))) ?_
            rintro n_27304 v_27303 ao_27297 cap_27298 ao_27299 cap_27300 ao_27301 cap_27302 h
            obtain ⟨n_27305, rfl⟩ := m_law02_CurveNorm_L9_fuel h
            rw [m_law02_CurveNorm_L9] at h
            refine WC.seq ?_
            refine WC.region ?_
            refine WL.quiet (d := 51) rfl rfl rfl (q_lss rfl rfl) ?_
            refine WL.nil ?_
            refine WX.then ?_
            refine WC.seq ?_
            refine WC.cond rfl (fun hb_27307 => ?_) (fun hb_27307 => ?_)
            · replace h := ite_t h hb_27307
              refine WC.skip ?_
              refine WX.then ?_
              obtain ⟨k_27523, hk_27524, h⟩ := jp0_elim h
              refine WC.seqMid6 (fun (ao_27517 : Option Addr) (cap_27518 : Nat) (ao_27519 : Option Addr) (cap_27520 : Nat) (ao_27521 : Option Addr) (cap_27522 : Nat) => (k_27523 = some r)) (fun (ao_27517 : Option Addr) (cap_27518 : Nat) (ao_27519 : Option Addr) (cap_27520 : Nat) (ao_27521 : Option Addr) (cap_27522 : Nat) => [(3, (.slice ao_27517 x_25694.length cap_27518)), (4, (.slice ao_27519 x_25702.1.length cap_27520)), (6, (.slice ao_27521 x_25710.1.length cap_27522)), (48, (.slice ao_27519 x_25702.1.length cap_27520)), (49, (.int .i64 ((x_25702.1.length : Nat) : Int))), (50, (.int .i64 v_27303))]) (fun (ao_27517 : Option Addr) (cap_27518 : Nat) (ao_27519 : Option Addr) (cap_27520 : Nat) (ao_27521 : Option Addr) (cap_27522 : Nat) => [fz [], row (.slice ao_27517 x_25694.length cap_27518) 42 4 (x_25694.flatMap e42), row (.slice ao_27519 x_25702.1.length cap_27520) 42 4 (x_25702.1.flatMap e42), row (.slice ao_27521 x_25710.1.length cap_27522) 42 4 (x_25710.1.flatMap e42)]) ?_ ?_
              · skip
                refine WC.block ?_
                refine WC.seq ?_
                obtain ⟨c_27525, h⟩ := chk_elim h
                refine WC.region ?_
                refine WL.quiet (d := 52) rfl rfl rfl (q_move rfl) ?_
                refine WL.know (fun w hw => Hp.expose (.there (.there .here)) hw (by intro hz'; have := c_27525; rw [hz'] at this; omega)) ?_
                rintro ⟨b_27528, rfl⟩
                refine WL.quiet (d := 53) rfl rfl rfl (q_indexAddr elT_25 rfl rfl c_27525.1 c_27525.2 rowAdd) ?_
                refine WL.quiet (d := 54) rfl rfl rfl (q_loadA (cs := (e42 (nth x_25702.1 v_27303))) aggT_42 rfl rfl (rd_rows (.there (.there .here)) (flat_rd (enc := e42) (l := x_25702.1) (i := v_27303) (sz := 4) (fun _ => rfl) c_27525.1 c_27525.2))) ?_
                refine WL.new (dd := 9) rfl rfl rfl (e_alloc (cs := [(.int .i64 0), (.int .i64 0), (.int .i64 0), (.int .i64 0)]) zeroT_42 rfl) ?_
                intro b_27529 _
                refine WL.quiet (d := 8) rfl rfl rfl (q_assign rfl) ?_
                refine WL.eff0 rfl rfl (e_store (vs := [(.int .i64 (((nth x_25702.1 v_27303).fBurst).fN)), (.int .i64 (((nth x_25702.1 v_27303).fBurst).fD)), (.int .i64 (((nth x_25702.1 v_27303).fRate).fN)), (.int .i64 (((nth x_25702.1 v_27303).fRate).fD))]) (ds := [(.int .i64 (((nth x_25702.1 v_27303).fBurst).fN)), (.int .i64 (((nth x_25702.1 v_27303).fBurst).fD)), (.int .i64 (((nth x_25702.1 v_27303).fRate).fN)), (.int .i64 (((nth x_25702.1 v_27303).fRate).fD))]) sizT_42 rfl rfl rfl rfl (oc_cons rfl (oc_cons rfl (oc_cons rfl (oc_cons rfl oc_nil)))) .here (Nat.le_of_ble_eq_true rfl) rfl) ?_
                refine WL.nil ?_
                refine WX.then ?_
                refine WC.seq ?_
                refine WC.seq ?_
                obtain ⟨c_27581, h⟩ := chk_elim h
                obtain ⟨b_27593, hb_27594, h⟩ := bind_elim h
                refine WC.draw (fun i => [].contains i) [] rfl ?_
                refine WD.pure (i := 0) (d := 55) (by kernel_rfl) rfl (readyF_of (by kernel_rfl)) (freeF_of (by kernel_rfl)) rfl rfl rfl (fun _ => q_move rfl) ?_
                refine WD.pure (i := 1) (d := 56) (by kernel_rfl) rfl (readyF_of (by kernel_rfl)) (freeF_of (by kernel_rfl)) rfl rfl rfl (fun _ => q_move rfl) ?_
                refine WD.know (fun w hw => Hp.expose (.there (.there (.there (.there .here)))) hw (by intro hz'; have := c_27581; rw [hz'] at this; omega)) ?_
                rintro ⟨b_27595, rfl⟩
                refine WD.pure (i := 2) (d := 57) (by kernel_rfl) rfl (readyF_of (by kernel_rfl)) (freeF_of (by kernel_rfl)) rfl rfl rfl (fun _ => q_indexAddr elT_25 rfl rfl c_27581.1 c_27581.2 rowAdd) ?_
                refine WD.quiet (i := 3) (d := 58) (by kernel_rfl) rfl (readyF_of (by kernel_rfl)) (freeF_of (by kernel_rfl)) rfl rfl rfl (q_loadA (cs := (e42 (nth x_25710.1 v_27303))) aggT_42 rfl rfl (rd_rows (.there (.there (.there (.there .here)))) (flat_rd (enc := e42) (l := x_25710.1) (i := v_27303) (sz := 4) (fun _ => rfl) c_27581.1 c_27581.2))) ?_
                refine WD.quiet (i := 4) (d := 59) (by kernel_rfl) rfl (readyF_of (by kernel_rfl)) (freeF_of (by kernel_rfl)) rfl rfl rfl (q_loadA (cs := [(.int .i64 (((nth x_25702.1 v_27303).fBurst).fN)), (.int .i64 (((nth x_25702.1 v_27303).fBurst).fD)), (.int .i64 (((nth x_25702.1 v_27303).fRate).fN)), (.int .i64 (((nth x_25702.1 v_27303).fRate).fD))]) aggT_42 rfl rfl (rd_all .here)) ?_
                refine WD.pure (i := 5) (d := 60) (by kernel_rfl) rfl (readyF_of (by kernel_rfl)) (freeF_of (by kernel_rfl)) rfl rfl rfl (fun _ => q_aggneq (enc := e42) (a := (⟨(⟨(((nth x_25710.1 v_27303).fBurst).fN), (((nth x_25710.1 v_27303).fBurst).fD)⟩ : Sapi_Rat), (⟨(((nth x_25710.1 v_27303).fRate).fN), (((nth x_25710.1 v_27303).fRate).fD)⟩ : Sapi_Rat)⟩ : Sapi_Bucket)) (b := (⟨(⟨(((nth x_25702.1 v_27303).fBurst).fN), (((nth x_25702.1 v_27303).fBurst).fD)⟩ : Sapi_Rat), (⟨(((nth x_25702.1 v_27303).fRate).fN), (((nth x_25702.1 v_27303).fRate).fD)⟩ : Sapi_Rat)⟩ : Sapi_Bucket)) eqT_42 rfl rfl) ?_
                refine WD.pure (i := 6) (d := 61) (by kernel_rfl) rfl (readyF_of (by kernel_rfl)) (freeF_of (by kernel_rfl)) rfl rfl rfl (fun _ => q_move rfl) ?_
                refine WD.mid (fuel' := 0) [(3, (.slice ao_27297 x_25694.length cap_27298)), (4, (.slice (some ⟨b_27528, 0, none⟩) x_25702.1.length cap_27300)), (6, (.slice (some ⟨b_27595, 0, none⟩) x_25710.1.length cap_27302)), (48, (.slice (some ⟨b_27528, 0, none⟩) x_25702.1.length cap_27300)), (49, (.int .i64 ((x_25702.1.length : Nat) : Int))), (50, (.int .i64 v_27303)), (9, (.pointer (some ⟨b_27529, 0, none⟩))), (61, (.bool (decide ((⟨(⟨(((nth x_25710.1 v_27303).fBurst).fN), (((nth x_25710.1 v_27303).fBurst).fD)⟩ : Sapi_Rat), (⟨(((nth x_25710.1 v_27303).fRate).fN), (((nth x_25710.1 v_27303).fRate).fD)⟩ : Sapi_Rat)⟩ : Sapi_Bucket) ≠ (⟨(⟨(((nth x_25702.1 v_27303).fBurst).fN), (((nth x_25702.1 v_27303).fBurst).fD)⟩ : Sapi_Rat), (⟨(((nth x_25702.1 v_27303).fRate).fN), (((nth x_25702.1 v_27303).fRate).fD)⟩ : Sapi_Rat)⟩ : Sapi_Bucket))))), (88, (.bool b_27593))] (listedA 34 [33, 32, 31, 30, 29, 28, 27, 26, 25, 24, 23, 22, 21, 20, 19, 18, 17, 16, 15, 14, 13, 12, 11, 10, 9, 8, 7, 6, 5, 4, 3, 2, 1, 0]) ?_ (fun K_27611 => ?_)
                rotate_left
                · rcases Bool.eq_false_or_eq_true (decide ((⟨(⟨(((nth x_25710.1 v_27303).fBurst).fN), (((nth x_25710.1 v_27303).fBurst).fD)⟩ : Sapi_Rat), (⟨(((nth x_25710.1 v_27303).fRate).fN), (((nth x_25710.1 v_27303).fRate).fD)⟩ : Sapi_Rat)⟩ : Sapi_Bucket) ≠ (⟨(⟨(((nth x_25702.1 v_27303).fBurst).fN), (((nth x_25702.1 v_27303).fBurst).fD)⟩ : Sapi_Rat), (⟨(((nth x_25702.1 v_27303).fRate).fN), (((nth x_25702.1 v_27303).fRate).fD)⟩ : Sapi_Rat)⟩ : Sapi_Bucket))) with hb' | hb'
                  · have hg_27612 := hb'; clear hb'
                    have hq_27613 := ite_t hb_27594 hg_27612
                    replace hq_27613 := Option.some.inj hq_27613
                    refine WD.pin (i := 61) rfl hg_27612 ?_
                    refine WD.skip (i := 7) (d := 62) (by kernel_rfl) rfl (readyF_of (by kernel_rfl)) (freeF_of (by kernel_rfl)) rfl rfl rfl ?_
                    refine WD.skip (i := 8) (d := 63) (by kernel_rfl) rfl (readyF_of (by kernel_rfl)) (freeF_of (by kernel_rfl)) rfl rfl rfl ?_
                    refine WD.skip (i := 9) (d := 64) (by kernel_rfl) rfl (readyF_of (by kernel_rfl)) (freeF_of (by kernel_rfl)) rfl rfl rfl ?_
                    refine WD.skip (i := 10) (d := 65) (by kernel_rfl) rfl (readyF_of (by kernel_rfl)) (freeF_of (by kernel_rfl)) rfl rfl rfl ?_
                    refine WD.skip (i := 11) (d := 66) (by kernel_rfl) rfl (readyF_of (by kernel_rfl)) (freeF_of (by kernel_rfl)) rfl rfl rfl ?_
                    refine WD.skip (i := 12) (d := 67) (by kernel_rfl) rfl (readyF_of (by kernel_rfl)) (freeF_of (by kernel_rfl)) rfl rfl rfl ?_
                    refine WD.skip (i := 13) (d := 68) (by kernel_rfl) rfl (readyF_of (by kernel_rfl)) (freeF_of (by kernel_rfl)) rfl rfl rfl ?_
                    refine WD.skip (i := 14) (d := 69) (by kernel_rfl) rfl (readyF_of (by kernel_rfl)) (freeF_of (by kernel_rfl)) rfl rfl rfl ?_
                    refine WD.skip (i := 15) (d := 70) (by kernel_rfl) rfl (readyF_of (by kernel_rfl)) (freeF_of (by kernel_rfl)) rfl rfl rfl ?_
                    refine WD.skip (i := 16) (d := 71) (by kernel_rfl) rfl (readyF_of (by kernel_rfl)) (freeF_of (by kernel_rfl)) rfl rfl rfl ?_
                    refine WD.skip (i := 17) (d := 72) (by kernel_rfl) rfl (readyF_of (by kernel_rfl)) (freeF_of (by kernel_rfl)) rfl rfl rfl ?_
                    refine WD.skip (i := 18) (d := 73) (by kernel_rfl) rfl (readyF_of (by kernel_rfl)) (freeF_of (by kernel_rfl)) rfl rfl rfl ?_
                    refine WD.skip (i := 19) (d := 74) (by kernel_rfl) rfl (readyF_of (by kernel_rfl)) (freeF_of (by kernel_rfl)) rfl rfl rfl ?_
                    refine WD.skip (i := 20) (d := 75) (by kernel_rfl) rfl (readyF_of (by kernel_rfl)) (freeF_of (by kernel_rfl)) rfl rfl rfl ?_
                    refine WD.skip (i := 21) (d := 76) (by kernel_rfl) rfl (readyF_of (by kernel_rfl)) (freeF_of (by kernel_rfl)) rfl rfl rfl ?_
                    refine WD.skip (i := 22) (d := 77) (by kernel_rfl) rfl (readyF_of (by kernel_rfl)) (freeF_of (by kernel_rfl)) rfl rfl rfl ?_
                    refine WD.skip (i := 23) (d := 78) (by kernel_rfl) rfl (readyF_of (by kernel_rfl)) (freeF_of (by kernel_rfl)) rfl rfl rfl ?_
                    refine WD.skip (i := 24) (d := 79) (by kernel_rfl) rfl (readyF_of (by kernel_rfl)) (freeF_of (by kernel_rfl)) rfl rfl rfl ?_
                    refine WD.skip (i := 25) (d := 80) (by kernel_rfl) rfl (readyF_of (by kernel_rfl)) (freeF_of (by kernel_rfl)) rfl rfl rfl ?_
                    refine WD.skip (i := 26) (d := 81) (by kernel_rfl) rfl (readyF_of (by kernel_rfl)) (freeF_of (by kernel_rfl)) rfl rfl rfl ?_
                    refine WD.skip (i := 27) (d := 82) (by kernel_rfl) rfl (readyF_of (by kernel_rfl)) (freeF_of (by kernel_rfl)) rfl rfl rfl ?_
                    refine WD.skip (i := 28) (d := 83) (by kernel_rfl) rfl (readyF_of (by kernel_rfl)) (freeF_of (by kernel_rfl)) rfl rfl rfl ?_
                    refine WD.skip (i := 29) (d := 84) (by kernel_rfl) rfl (readyF_of (by kernel_rfl)) (freeF_of (by kernel_rfl)) rfl rfl rfl ?_
                    refine WD.skip (i := 30) (d := 85) (by kernel_rfl) rfl (readyF_of (by kernel_rfl)) (freeF_of (by kernel_rfl)) rfl rfl rfl ?_
                    refine WD.skip (i := 31) (d := 86) (by kernel_rfl) rfl (readyF_of (by kernel_rfl)) (freeF_of (by kernel_rfl)) rfl rfl rfl ?_
                    refine WD.skip (i := 32) (d := 87) (by kernel_rfl) rfl (readyF_of (by kernel_rfl)) (freeF_of (by kernel_rfl)) rfl rfl rfl ?_
                    refine WD.pure (i := 33) (d := 88) (by kernel_rfl) rfl (readyF_of (by kernel_rfl)) (freeF_of (by kernel_rfl)) rfl rfl rfl (fun _ => q_pickT rfl rfl) ?_
                    refine WD.reL (.cons .here (.cons .here (.cons .here (.cons .here (.cons .here .nil))))) ?_ K_27611
                    exact (.cons rfl (.cons rfl (.cons rfl (.cons rfl (.cons rfl (.cons rfl (.cons rfl (.cons (some_bool (Eq.symm hg_27612)) (.cons (some_bool hq_27613) .nil)))))))))
                  · have hg_27614 := hb'; clear hb'
                    have hq_27615 := ite_f hb_27594 hg_27614
                    obtain ⟨b_27591, hb_27592, hq_27615⟩ := bind_elim hq_27615
                    replace hq_27615 := Option.some.inj hq_27615
                    refine WD.pin (i := 61) rfl hg_27614 ?_
                    refine WD.pure (i := 7) (d := 62) (by kernel_rfl) rfl (readyF_of (by kernel_rfl)) (freeF_of (by kernel_rfl)) rfl rfl rfl (fun _ => q_move rfl) ?_
                    refine WD.pure (i := 8) (d := 63) (by kernel_rfl) rfl (readyF_of (by kernel_rfl)) (freeF_of (by kernel_rfl)) rfl rfl rfl (fun _ => q_gtr rfl rfl) ?_
                    refine WD.pure (i := 9) (d := 64) (by kernel_rfl) rfl (readyF_of (by kernel_rfl)) (freeF_of (by kernel_rfl)) rfl rfl rfl (fun _ => q_move rfl) ?_
                    refine WD.mid (fuel' := 1) [(3, (.slice ao_27297 x_25694.length cap_27298)), (4, (.slice (some ⟨b_27528, 0, none⟩) x_25702.1.length cap_27300)), (6, (.slice (some ⟨b_27595, 0, none⟩) x_25710.1.length cap_27302)), (48, (.slice (some ⟨b_27528, 0, none⟩) x_25702.1.length cap_27300)), (49, (.int .i64 ((x_25702.1.length : Nat) : Int))), (50, (.int .i64 v_27303)), (9, (.pointer (some ⟨b_27529, 0, none⟩))), (61, (.bool false)), (64, (.bool (decide (v_27303 > 0)))), (87, (.bool b_27591))] (listedA 34 [32, 31, 30, 29, 28, 27, 26, 25, 24, 23, 22, 21, 20, 19, 18, 17, 16, 15, 14, 13, 12, 11, 10, 9, 8, 7, 6, 5, 4, 3, 2, 1, 0]) ?_ (fun K_27621 => ?_)
                    rotate_left
                    · rcases Bool.eq_false_or_eq_true (decide (v_27303 > 0)) with hb' | hb'
                      · have hg_27622 := hb'; clear hb'
                        have hq_27623 := ite_t hb_27592 hg_27622
                        obtain ⟨c_27583, hq_27623⟩ := chk_elim hq_27623
                        obtain ⟨x_27584, hx_27585, hq_27623⟩ := bind_elim hq_27623
                        obtain ⟨b_27589, hb_27590, hq_27623⟩ := bind_elim hq_27623
                        replace hq_27623 := Option.some.inj hq_27623
                        refine WD.pin (i := 64) rfl hg_27622 ?_
                        refine WD.pure (i := 10) (d := 65) (by kernel_rfl) rfl (readyF_of (by kernel_rfl)) (freeF_of (by kernel_rfl)) rfl rfl rfl (fun _ => q_move rfl) ?_
                        refine WD.pure (i := 11) (d := 66) (by kernel_rfl) rfl (readyF_of (by kernel_rfl)) (freeF_of (by kernel_rfl)) rfl rfl rfl (fun _ => q_move rfl) ?_
                        refine WD.pure (i := 12) (d := 67) (by kernel_rfl) rfl (readyF_of (by kernel_rfl)) (freeF_of (by kernel_rfl)) rfl rfl rfl (fun _ => q_sub rfl rfl rfl) ?_
                        refine WD.pure (i := 13) (d := 68) (by kernel_rfl) rfl (readyF_of (by kernel_rfl)) (freeF_of (by kernel_rfl)) rfl rfl rfl (fun _ => q_indexAddr elT_25 rfl rfl c_27583.1 c_27583.2 rowAdd) ?_
                        refine WD.pure (i := 14) (d := 69) (by kernel_rfl) rfl (readyF_of (by kernel_rfl)) (freeF_of (by kernel_rfl)) rfl rfl rfl (fun _ => q_fieldAddr fo_42_0 rfl (Addr.add_lit _ _ _)) ?_
                        refine WD.quiet (i := 15) (d := 70) (by kernel_rfl) rfl (readyF_of (by kernel_rfl)) (freeF_of (by kernel_rfl)) rfl rfl rfl (q_loadA (cs := [(.int .i64 (((nth x_25702.1 (i64 (v_27303 - 1))).fBurst).fN)), (.int .i64 (((nth x_25702.1 (i64 (v_27303 - 1))).fBurst).fD))]) aggT_28 rfl rfl (rd_rowp (k := 0) (.there (.there (.there .here))) (flat_rd (enc := e42) (l := x_25702.1) (i := i64 (v_27303 - 1)) (sz := 4) (fun _ => rfl) c_27583.1 c_27583.2) (s := 2) rfl)) ?_
                        refine WD.pure (i := 16) (d := 71) (by kernel_rfl) rfl (readyF_of (by kernel_rfl)) (freeF_of (by kernel_rfl)) rfl rfl rfl (fun _ => q_fieldAddr fo_42_0 rfl rfl) ?_
                        refine WD.quiet (i := 17) (d := 72) (by kernel_rfl) rfl (readyF_of (by kernel_rfl)) (freeF_of (by kernel_rfl)) rfl rfl rfl (q_loadA (cs := [(.int .i64 (((nth x_25702.1 v_27303).fBurst).fN)), (.int .i64 (((nth x_25702.1 v_27303).fBurst).fD))]) aggT_28 rfl rfl (rd_sub (s := 2) .here rfl)) ?_
                        refine WD.enter (i := 18) (d := 73) (by kernel_rfl) rfl (readyF_of (by kernel_rfl)) (freeF_of (by kernel_rfl)) rfl rfl rfl (run_call (l := [.tmp 70, .tmp 72]) Try.call17 (.cons rfl (.cons rfl .nil))) (fun w hw => by have pz := (hz.call2 hw (.nil : Sel [stb b_27529 42 [(.int .i64 (((nth x_25702.1 v_27303).fBurst).fN)), (.int .i64 (((nth x_25702.1 v_27303).fBurst).fD)), (.int .i64 (((nth x_25702.1 v_27303).fRate).fN)), (.int .i64 (((nth x_25702.1 v_27303).fRate).fD))], fz [], row (.slice ao_27297 x_25694.length cap_27298) 42 4 (x_25694.flatMap e42), row (.slice (some ⟨b_27528, 0, none⟩) x_25702.1.length cap_27300) 42 4 (x_25702.1.flatMap e42), row (.slice (some ⟨b_27595, 0, none⟩) x_25710.1.length cap_27302) 42 4 (x_25710.1.flatMap e42)] [] [stb b_27529 42 [(.int .i64 (((nth x_25702.1 v_27303).fBurst).fN)), (.int .i64 (((nth x_25702.1 v_27303).fBurst).fD)), (.int .i64 (((nth x_25702.1 v_27303).fRate).fN)), (.int .i64 (((nth x_25702.1 v_27303).fRate).fD))], fz [], row (.slice ao_27297 x_25694.length cap_27298) 42 4 (x_25694.flatMap e42), row (.slice (some ⟨b_27528, 0, none⟩) x_25702.1.length cap_27300) 42 4 (x_25702.1.flatMap e42), row (.slice (some ⟨b_27595, 0, none⟩) x_25710.1.length cap_27302) 42 4 (x_25710.1.flatMap e42)]) (.there .here)); exact w_rat_Cmp (Z := _)  (x_2033 := (⟨(((nth x_25702.1 (i64 (v_27303 - 1))).fBurst).fN), (((nth x_25702.1 (i64 (v_27303 - 1))).fBurst).fD)⟩ : Sapi_Rat)) (y_2034 := (⟨(((nth x_25702.1 v_27303).fBurst).fN), (((nth x_25702.1 v_27303).fBurst).fD)⟩ : Sapi_Rat)) (r := x_27584) w pz  hx_27585) ?_
                        refine WD.pure (i := 19) (d := 74) (by kernel_rfl) rfl (readyF_of (by kernel_rfl)) (freeF_of (by kernel_rfl)) rfl rfl rfl (fun _ => q_geq rfl rfl) ?_
                        refine WD.pure (i := 20) (d := 75) (by kernel_rfl) rfl (readyF_of (by kernel_rfl)) (freeF_of (by kernel_rfl)) rfl rfl rfl (fun _ => q_move rfl) ?_
                        refine WD.mid (fuel' := 2) [(3, (.slice ao_27297 x_25694.length cap_27298)), (4, (.slice (some ⟨b_27528, 0, none⟩) x_25702.1.length cap_27300)), (6, (.slice (some ⟨b_27595, 0, none⟩) x_25710.1.length cap_27302)), (48, (.slice (some ⟨b_27528, 0, none⟩) x_25702.1.length cap_27300)), (49, (.int .i64 ((x_25702.1.length : Nat) : Int))), (50, (.int .i64 v_27303)), (9, (.pointer (some ⟨b_27529, 0, none⟩))), (61, (.bool false)), (64, (.bool true)), (75, (.bool (decide (x_27584 ≥ 0)))), (86, (.bool b_27589))] (listedA 34 [31, 30, 29, 28, 27, 26, 25, 24, 23, 22, 21, 20, 19, 18, 17, 16, 15, 14, 13, 12, 11, 10, 9, 8, 7, 6, 5, 4, 3, 2, 1, 0]) ?_ (fun K_27624 => ?_)
                        rotate_left
                        · rcases Bool.eq_false_or_eq_true (decide (x_27584 ≥ 0)) with hb' | hb'
                          · have hg_27625 := hb'; clear hb'
                            have hq_27626 := ite_t hb_27590 hg_27625
                            replace hq_27626 := Option.some.inj hq_27626
                            refine WD.pin (i := 75) rfl hg_27625 ?_
                            refine WD.skip (i := 21) (d := 76) (by kernel_rfl) rfl (readyF_of (by kernel_rfl)) (freeF_of (by kernel_rfl)) rfl rfl rfl ?_
                            refine WD.skip (i := 22) (d := 77) (by kernel_rfl) rfl (readyF_of (by kernel_rfl)) (freeF_of (by kernel_rfl)) rfl rfl rfl ?_
                            refine WD.skip (i := 23) (d := 78) (by kernel_rfl) rfl (readyF_of (by kernel_rfl)) (freeF_of (by kernel_rfl)) rfl rfl rfl ?_
                            refine WD.skip (i := 24) (d := 79) (by kernel_rfl) rfl (readyF_of (by kernel_rfl)) (freeF_of (by kernel_rfl)) rfl rfl rfl ?_
                            refine WD.skip (i := 25) (d := 80) (by kernel_rfl) rfl (readyF_of (by kernel_rfl)) (freeF_of (by kernel_rfl)) rfl rfl rfl ?_
                            refine WD.skip (i := 26) (d := 81) (by kernel_rfl) rfl (readyF_of (by kernel_rfl)) (freeF_of (by kernel_rfl)) rfl rfl rfl ?_
                            refine WD.skip (i := 27) (d := 82) (by kernel_rfl) rfl (readyF_of (by kernel_rfl)) (freeF_of (by kernel_rfl)) rfl rfl rfl ?_
                            refine WD.skip (i := 28) (d := 83) (by kernel_rfl) rfl (readyF_of (by kernel_rfl)) (freeF_of (by kernel_rfl)) rfl rfl rfl ?_
                            refine WD.skip (i := 29) (d := 84) (by kernel_rfl) rfl (readyF_of (by kernel_rfl)) (freeF_of (by kernel_rfl)) rfl rfl rfl ?_
                            refine WD.skip (i := 30) (d := 85) (by kernel_rfl) rfl (readyF_of (by kernel_rfl)) (freeF_of (by kernel_rfl)) rfl rfl rfl ?_
                            refine WD.pure (i := 31) (d := 86) (by kernel_rfl) rfl (readyF_of (by kernel_rfl)) (freeF_of (by kernel_rfl)) rfl rfl rfl (fun _ => q_pickT rfl rfl) ?_
                            refine WD.reL (.cons .here (.cons .here (.cons .here (.cons .here (.cons .here .nil))))) ?_ K_27624
                            exact (.cons rfl (.cons rfl (.cons rfl (.cons rfl (.cons rfl (.cons rfl (.cons rfl (.cons rfl (.cons rfl (.cons (some_bool (Eq.symm hg_27625)) (.cons (some_bool hq_27626) .nil)))))))))))
                          · have hg_27627 := hb'; clear hb'
                            have hq_27628 := ite_f hb_27590 hg_27627
                            obtain ⟨c_27586, hq_27628⟩ := chk_elim hq_27628
                            obtain ⟨x_27587, hx_27588, hq_27628⟩ := bind_elim hq_27628
                            replace hq_27628 := Option.some.inj hq_27628
                            refine WD.pin (i := 75) rfl hg_27627 ?_
                            refine WD.pure (i := 21) (d := 76) (by kernel_rfl) rfl (readyF_of (by kernel_rfl)) (freeF_of (by kernel_rfl)) rfl rfl rfl (fun _ => q_move rfl) ?_
                            refine WD.pure (i := 22) (d := 77) (by kernel_rfl) rfl (readyF_of (by kernel_rfl)) (freeF_of (by kernel_rfl)) rfl rfl rfl (fun _ => q_move rfl) ?_
                            refine WD.pure (i := 23) (d := 78) (by kernel_rfl) rfl (readyF_of (by kernel_rfl)) (freeF_of (by kernel_rfl)) rfl rfl rfl (fun _ => q_sub rfl rfl rfl) ?_
                            refine WD.pure (i := 24) (d := 79) (by kernel_rfl) rfl (readyF_of (by kernel_rfl)) (freeF_of (by kernel_rfl)) rfl rfl rfl (fun _ => q_indexAddr elT_25 rfl rfl c_27586.1 c_27586.2 rowAdd) ?_
                            refine WD.pure (i := 25) (d := 80) (by kernel_rfl) rfl (readyF_of (by kernel_rfl)) (freeF_of (by kernel_rfl)) rfl rfl rfl (fun _ => q_fieldAddr fo_42_1 rfl (Addr.add_lit _ _ _)) ?_
                            refine WD.quiet (i := 26) (d := 81) (by kernel_rfl) rfl (readyF_of (by kernel_rfl)) (freeF_of (by kernel_rfl)) rfl rfl rfl (q_loadA (cs := [(.int .i64 (((nth x_25702.1 (i64 (v_27303 - 1))).fRate).fN)), (.int .i64 (((nth x_25702.1 (i64 (v_27303 - 1))).fRate).fD))]) aggT_28 rfl rfl (rd_rowp (k := 2) (.there (.there (.there .here))) (flat_rd (enc := e42) (l := x_25702.1) (i := i64 (v_27303 - 1)) (sz := 4) (fun _ => rfl) c_27586.1 c_27586.2) (s := 2) rfl)) ?_
                            refine WD.pure (i := 27) (d := 82) (by kernel_rfl) rfl (readyF_of (by kernel_rfl)) (freeF_of (by kernel_rfl)) rfl rfl rfl (fun _ => q_fieldAddr fo_42_1 rfl rfl) ?_
                            refine WD.quiet (i := 28) (d := 83) (by kernel_rfl) rfl (readyF_of (by kernel_rfl)) (freeF_of (by kernel_rfl)) rfl rfl rfl (q_loadA (cs := [(.int .i64 (((nth x_25702.1 v_27303).fRate).fN)), (.int .i64 (((nth x_25702.1 v_27303).fRate).fD))]) aggT_28 rfl rfl (rd_sub (s := 2) .here rfl)) ?_
                            refine WD.enter (i := 29) (d := 84) (by kernel_rfl) rfl (readyF_of (by kernel_rfl)) (freeF_of (by kernel_rfl)) rfl rfl rfl (run_call (l := [.tmp 81, .tmp 83]) Try.call17 (.cons rfl (.cons rfl .nil))) (fun w hw => by have pz := (hz.call2 hw (.nil : Sel [stb b_27529 42 [(.int .i64 (((nth x_25702.1 v_27303).fBurst).fN)), (.int .i64 (((nth x_25702.1 v_27303).fBurst).fD)), (.int .i64 (((nth x_25702.1 v_27303).fRate).fN)), (.int .i64 (((nth x_25702.1 v_27303).fRate).fD))], fz [], row (.slice ao_27297 x_25694.length cap_27298) 42 4 (x_25694.flatMap e42), row (.slice (some ⟨b_27528, 0, none⟩) x_25702.1.length cap_27300) 42 4 (x_25702.1.flatMap e42), row (.slice (some ⟨b_27595, 0, none⟩) x_25710.1.length cap_27302) 42 4 (x_25710.1.flatMap e42)] [] [stb b_27529 42 [(.int .i64 (((nth x_25702.1 v_27303).fBurst).fN)), (.int .i64 (((nth x_25702.1 v_27303).fBurst).fD)), (.int .i64 (((nth x_25702.1 v_27303).fRate).fN)), (.int .i64 (((nth x_25702.1 v_27303).fRate).fD))], fz [], row (.slice ao_27297 x_25694.length cap_27298) 42 4 (x_25694.flatMap e42), row (.slice (some ⟨b_27528, 0, none⟩) x_25702.1.length cap_27300) 42 4 (x_25702.1.flatMap e42), row (.slice (some ⟨b_27595, 0, none⟩) x_25710.1.length cap_27302) 42 4 (x_25710.1.flatMap e42)]) (.there .here)); exact w_rat_Cmp (Z := _)  (x_2033 := (⟨(((nth x_25702.1 (i64 (v_27303 - 1))).fRate).fN), (((nth x_25702.1 (i64 (v_27303 - 1))).fRate).fD)⟩ : Sapi_Rat)) (y_2034 := (⟨(((nth x_25702.1 v_27303).fRate).fN), (((nth x_25702.1 v_27303).fRate).fD)⟩ : Sapi_Rat)) (r := x_27587) w pz  hx_27588) ?_
                            refine WD.pure (i := 30) (d := 85) (by kernel_rfl) rfl (readyF_of (by kernel_rfl)) (freeF_of (by kernel_rfl)) rfl rfl rfl (fun _ => q_leq rfl rfl) ?_
                            refine WD.pure (i := 31) (d := 86) (by kernel_rfl) rfl (readyF_of (by kernel_rfl)) (freeF_of (by kernel_rfl)) rfl rfl rfl (fun _ => q_pickF rfl rfl) ?_
                            refine WD.reL (.cons .here (.cons .here (.cons .here (.cons .here (.cons .here .nil))))) ?_ K_27624
                            exact (.cons rfl (.cons rfl (.cons rfl (.cons rfl (.cons rfl (.cons rfl (.cons rfl (.cons rfl (.cons rfl (.cons (some_bool (Eq.symm hg_27627)) (.cons (some_bool hq_27628) .nil)))))))))))
                        refine WD.relist #[true, true, true, true, true, true, true, true, true, true, true, true, true, true, true, true, true, true, true, true, true, true, true, true, true, true, true, true, true, true, true, true, false, false] (by kernel_rfl) ?_
                        refine WD.pure (i := 32) (d := 87) (by kernel_rfl) rfl (readyF_of (by kernel_rfl)) (freeF_of (by kernel_rfl)) rfl rfl rfl (fun _ => q_pickT rfl rfl) ?_
                        refine WD.reL (.cons .here (.cons .here (.cons .here (.cons .here (.cons .here .nil))))) ?_ K_27621
                        exact (.cons rfl (.cons rfl (.cons rfl (.cons rfl (.cons rfl (.cons rfl (.cons rfl (.cons rfl (.cons (some_bool (Eq.symm hg_27622)) (.cons (some_bool hq_27623) .nil))))))))))
                      · have hg_27629 := hb'; clear hb'
                        have hq_27630 := ite_f hb_27592 hg_27629
                        replace hq_27630 := Option.some.inj hq_27630
                        refine WD.pin (i := 64) rfl hg_27629 ?_
                        refine WD.skip (i := 10) (d := 65) (by kernel_rfl) rfl (readyF_of (by kernel_rfl)) (freeF_of (by kernel_rfl)) rfl rfl rfl ?_
                        refine WD.skip (i := 11) (d := 66) (by kernel_rfl) rfl (readyF_of (by kernel_rfl)) (freeF_of (by kernel_rfl)) rfl rfl rfl ?_
                        refine WD.skip (i := 12) (d := 67) (by kernel_rfl) rfl (readyF_of (by kernel_rfl)) (freeF_of (by kernel_rfl)) rfl rfl rfl ?_
                        refine WD.skip (i := 13) (d := 68) (by kernel_rfl) rfl (readyF_of (by kernel_rfl)) (freeF_of (by kernel_rfl)) rfl rfl rfl ?_
                        refine WD.skip (i := 14) (d := 69) (by kernel_rfl) rfl (readyF_of (by kernel_rfl)) (freeF_of (by kernel_rfl)) rfl rfl rfl ?_
                        refine WD.skip (i := 15) (d := 70) (by kernel_rfl) rfl (readyF_of (by kernel_rfl)) (freeF_of (by kernel_rfl)) rfl rfl rfl ?_
                        refine WD.skip (i := 16) (d := 71) (by kernel_rfl) rfl (readyF_of (by kernel_rfl)) (freeF_of (by kernel_rfl)) rfl rfl rfl ?_
                        refine WD.skip (i := 17) (d := 72) (by kernel_rfl) rfl (readyF_of (by kernel_rfl)) (freeF_of (by kernel_rfl)) rfl rfl rfl ?_
                        refine WD.skip (i := 18) (d := 73) (by kernel_rfl) rfl (readyF_of (by kernel_rfl)) (freeF_of (by kernel_rfl)) rfl rfl rfl ?_
                        refine WD.skip (i := 19) (d := 74) (by kernel_rfl) rfl (readyF_of (by kernel_rfl)) (freeF_of (by kernel_rfl)) rfl rfl rfl ?_
                        refine WD.skip (i := 20) (d := 75) (by kernel_rfl) rfl (readyF_of (by kernel_rfl)) (freeF_of (by kernel_rfl)) rfl rfl rfl ?_
                        refine WD.skip (i := 21) (d := 76) (by kernel_rfl) rfl (readyF_of (by kernel_rfl)) (freeF_of (by kernel_rfl)) rfl rfl rfl ?_
                        refine WD.skip (i := 22) (d := 77) (by kernel_rfl) rfl (readyF_of (by kernel_rfl)) (freeF_of (by kernel_rfl)) rfl rfl rfl ?_
                        refine WD.skip (i := 23) (d := 78) (by kernel_rfl) rfl (readyF_of (by kernel_rfl)) (freeF_of (by kernel_rfl)) rfl rfl rfl ?_
                        refine WD.skip (i := 24) (d := 79) (by kernel_rfl) rfl (readyF_of (by kernel_rfl)) (freeF_of (by kernel_rfl)) rfl rfl rfl ?_
                        refine WD.skip (i := 25) (d := 80) (by kernel_rfl) rfl (readyF_of (by kernel_rfl)) (freeF_of (by kernel_rfl)) rfl rfl rfl ?_
                        refine WD.skip (i := 26) (d := 81) (by kernel_rfl) rfl (readyF_of (by kernel_rfl)) (freeF_of (by kernel_rfl)) rfl rfl rfl ?_
                        refine WD.skip (i := 27) (d := 82) (by kernel_rfl) rfl (readyF_of (by kernel_rfl)) (freeF_of (by kernel_rfl)) rfl rfl rfl ?_
                        refine WD.skip (i := 28) (d := 83) (by kernel_rfl) rfl (readyF_of (by kernel_rfl)) (freeF_of (by kernel_rfl)) rfl rfl rfl ?_
                        refine WD.skip (i := 29) (d := 84) (by kernel_rfl) rfl (readyF_of (by kernel_rfl)) (freeF_of (by kernel_rfl)) rfl rfl rfl ?_
                        refine WD.skip (i := 30) (d := 85) (by kernel_rfl) rfl (readyF_of (by kernel_rfl)) (freeF_of (by kernel_rfl)) rfl rfl rfl ?_
                        refine WD.skip (i := 31) (d := 86) (by kernel_rfl) rfl (readyF_of (by kernel_rfl)) (freeF_of (by kernel_rfl)) rfl rfl rfl ?_
                        refine WD.pure (i := 32) (d := 87) (by kernel_rfl) rfl (readyF_of (by kernel_rfl)) (freeF_of (by kernel_rfl)) rfl rfl rfl (fun _ => q_pickF rfl rfl) ?_
                        refine WD.reL (.cons .here (.cons .here (.cons .here (.cons .here (.cons .here .nil))))) ?_ K_27621
                        exact (.cons rfl (.cons rfl (.cons rfl (.cons rfl (.cons rfl (.cons rfl (.cons rfl (.cons rfl (.cons (some_bool (Eq.symm hg_27629)) (.cons (some_bool hq_27630) .nil))))))))))
                    refine WD.relist #[true, true, true, true, true, true, true, true, true, true, true, true, true, true, true, true, true, true, true, true, true, true, true, true, true, true, true, true, true, true, true, true, true, false] (by kernel_rfl) ?_
                    refine WD.pure (i := 33) (d := 88) (by kernel_rfl) rfl (readyF_of (by kernel_rfl)) (freeF_of (by kernel_rfl)) rfl rfl rfl (fun _ => q_pickF rfl rfl) ?_
                    refine WD.reL (.cons .here (.cons .here (.cons .here (.cons .here (.cons .here .nil))))) ?_ K_27611
                    exact (.cons rfl (.cons rfl (.cons rfl (.cons rfl (.cons rfl (.cons rfl (.cons rfl (.cons (some_bool (Eq.symm hg_27614)) (.cons (some_bool hq_27615) .nil)))))))))
                refine WD.relist #[true, true, true, true, true, true, true, true, true, true, true, true, true, true, true, true, true, true, true, true, true, true, true, true, true, true, true, true, true, true, true, true, true, true] (by kernel_rfl) ?_
                refine WD.done (by kernel_rfl) ?_
                refine WX.then ?_
                refine WC.cond rfl (fun hb_27631 => ?_) (fun hb_27631 => ?_)
                · replace h := ite_t h hb_27631
                  refine WC.seq ?_
                  refine WC.region ?_
                  refine WL.quiet (d := 2) rfl rfl rfl (q_assign rfl) ?_
                  refine WL.nil ?_
                  refine WX.then ?_
                  refine WC.ret ?_
                  refine WX.thenRet ?_
                  refine WX.blockRet ?_
                  refine WX.thenRet ?_
                  refine WX.thenRet ?_
                  refine WX.blockRet ?_
                  refine WX.thenRet ?_
                  obtain rfl := Option.some.inj h
                  refine WX.bpRet Try.results4 (.tmp rfl .nil) (fun w hw => ?_)
                  exact ⟨[], ret1 rfl, trivial, hw.sub (.cons (.there .here) .nil)⟩
                · replace h := ite_f h hb_27631
                  refine WC.skip ?_
                  refine WX.then ?_
                  refine WC.seq ?_
                  refine WC.region ?_
                  refine WL.quiet (d := 10) rfl rfl rfl (q_assign rfl) ?_
                  refine WL.nil ?_
                  refine WX.then ?_
                  obtain ⟨k_27689, hk_27690, h⟩ := jp1_elim h
                  refine WC.seqMid3 (fun (found_27688 : Bool) (ao_27686 : Option Addr) (cap_27687 : Nat) => (k_27689 found_27688 = some r)) (fun (found_27688 : Bool) (ao_27686 : Option Addr) (cap_27687 : Nat) => [(3, (.slice ao_27686 x_25694.length cap_27687)), (4, (.slice (some ⟨b_27528, 0, none⟩) x_25702.1.length cap_27300)), (6, (.slice (some ⟨b_27595, 0, none⟩) x_25710.1.length cap_27302)), (10, (.bool found_27688)), (48, (.slice (some ⟨b_27528, 0, none⟩) x_25702.1.length cap_27300)), (49, (.int .i64 ((x_25702.1.length : Nat) : Int))), (50, (.int .i64 v_27303))]) (fun (found_27688 : Bool) (ao_27686 : Option Addr) (cap_27687 : Nat) => [fz [], row (.slice ao_27686 x_25694.length cap_27687) 42 4 (x_25694.flatMap e42), row (.slice (some ⟨b_27528, 0, none⟩) x_25702.1.length cap_27300) 42 4 (x_25702.1.flatMap e42), row (.slice (some ⟨b_27595, 0, none⟩) x_25710.1.length cap_27302) 42 4 (x_25710.1.flatMap e42)]) ?_ ?_
                  · skip
                    refine WC.seq ?_
                    refine WC.region ?_
                    refine WL.quiet (d := 89) rfl rfl rfl (q_move rfl) ?_
                    refine WL.quiet (d := 90) rfl rfl rfl (q_len Try.underlying25 rfl) ?_
                    refine WL.quiet (d := 91) rfl rfl rfl (q_move rfl) ?_
                    refine WL.nil ?_
                    refine WX.then ?_
                    refine WC.block ?_
                    refine WC.loop5 (fun (n_27715 : Nat) (found_27713 : Bool) (v_27714 : Int) (ao_27711 : Option Addr) (cap_27712 : Nat) => (m_law02_CurveNorm_L10 x_25694 x_25702 v_27303 k_27689 n_27715 found_27713 v_27714 = some r)) (fun (n_27715 : Nat) (found_27713 : Bool) (v_27714 : Int) (ao_27711 : Option Addr) (cap_27712 : Nat) => [(3, (.slice ao_27711 x_25694.length cap_27712)), (4, (.slice (some ⟨b_27528, 0, none⟩) x_25702.1.length cap_27300)), (6, (.slice (some ⟨b_27595, 0, none⟩) x_25710.1.length cap_27302)), (9, (.pointer (some ⟨b_27529, 0, none⟩))), (10, (.bool found_27713)), (48, (.slice (some ⟨b_27528, 0, none⟩) x_25702.1.length cap_27300)), (49, (.int .i64 ((x_25702.1.length : Nat) : Int))), (50, (.int .i64 v_27303)), (89, (.slice ao_27711 x_25694.length cap_27712)), (90, (.int .i64 ((x_25694.length : Nat) : Int))), (91, (.int .i64 v_27714))]) (fun (n_27715 : Nat) (found_27713 : Bool) (v_27714 : Int) (ao_27711 : Option Addr) (cap_27712 : Nat) => [fz [], row (.slice ao_27711 x_25694.length cap_27712) 42 4 (x_25694.flatMap e42), row (.slice (some ⟨b_27528, 0, none⟩) x_25702.1.length cap_27300) 42 4 (x_25702.1.flatMap e42), row (.slice (some ⟨b_27595, 0, none⟩) x_25710.1.length cap_27302) 42 4 (x_25710.1.flatMap e42), stb b_27529 42 [(.int .i64 (((nth x_25702.1 v_27303).fBurst).fN)), (.int .i64 (((nth x_25702.1 v_27303).fBurst).fD)), (.int .i64 (((nth x_25702.1 v_27303).fRate).fN)), (.int .i64 (((nth x_25702.1 v_27303).fRate).fD))]]) (fun (n_27715 : Nat) (found_27713 : Bool) (v_27714 : Int) (ao_27711 : Option Addr) (cap_27712 : Nat) => n_27715) ⟨FUEL, false, 0, ao_27297, cap_27298⟩ h (.cons rfl (.cons rfl (.cons rfl (.cons rfl (.cons rfl (.cons rfl (.cons rfl (.cons rfl (.cons rfl (.cons rfl (.cons rfl .nil))))))))))) (.cons (.there .here) (.cons (.there .here) (.cons (.there .here) (.cons (.there .here) (.cons .here .nil))))) ?_
                    rintro n_27715 found_27713 v_27714 ao_27711 cap_27712 h
                    obtain ⟨n_27716, rfl⟩ := m_law02_CurveNorm_L10_fuel h
                    rw [m_law02_CurveNorm_L10] at h
                    refine WC.seq ?_
                    refine WC.region ?_
                    refine WL.quiet (d := 92) rfl rfl rfl (q_lss rfl rfl) ?_
                    refine WL.nil ?_
                    refine WX.then ?_
                    refine WC.seq ?_
                    refine WC.cond rfl (fun hb_27718 => ?_) (fun hb_27718 => ?_)
                    · replace h := ite_t h hb_27718
                      refine WC.skip ?_
                      refine WX.then ?_
                      refine WC.seq ?_
                      refine WC.block ?_
                      refine WC.seq ?_
                      obtain ⟨c_27726, h⟩ := chk_elim h
                      refine WC.region ?_
                      refine WL.know (fun w hw => Hp.expose (.there .here) hw (by intro hz'; have := c_27726; rw [hz'] at this; omega)) ?_
                      rintro ⟨b_27729, rfl⟩
                      refine WL.quiet (d := 93) rfl rfl rfl (q_indexAddr elT_25 rfl rfl c_27726.1 c_27726.2 rowAdd) ?_
                      refine WL.quiet (d := 94) rfl rfl rfl (q_loadA (cs := (e42 (nth x_25694 v_27714))) aggT_42 rfl rfl (rd_rows (.there .here) (flat_rd (enc := e42) (l := x_25694) (i := v_27714) (sz := 4) (fun _ => rfl) c_27726.1 c_27726.2))) ?_
                      refine WL.new (dd := 12) rfl rfl rfl (e_alloc (cs := [(.int .i64 0), (.int .i64 0), (.int .i64 0), (.int .i64 0)]) zeroT_42 rfl) ?_
                      intro b_27730 _
                      refine WL.eff0 rfl rfl (e_store (vs := [(.int .i64 (((nth x_25694 v_27714).fBurst).fN)), (.int .i64 (((nth x_25694 v_27714).fBurst).fD)), (.int .i64 (((nth x_25694 v_27714).fRate).fN)), (.int .i64 (((nth x_25694 v_27714).fRate).fD))]) (ds := [(.int .i64 (((nth x_25694 v_27714).fBurst).fN)), (.int .i64 (((nth x_25694 v_27714).fBurst).fD)), (.int .i64 (((nth x_25694 v_27714).fRate).fN)), (.int .i64 (((nth x_25694 v_27714).fRate).fD))]) sizT_42 rfl rfl rfl rfl (oc_cons rfl (oc_cons rfl (oc_cons rfl (oc_cons rfl oc_nil)))) .here (Nat.le_of_ble_eq_true rfl) rfl) ?_
                      refine WL.nil ?_
                      refine WX.then ?_
                      refine WC.region ?_
                      refine WL.quiet (d := 95) rfl rfl rfl (q_move rfl) ?_
                      refine WL.quiet (d := 96) rfl rfl rfl (q_move rfl) ?_
                      refine WL.cut0 True [(3, (.slice (some ⟨b_27729, 0, none⟩) x_25694.length cap_27712)), (4, (.slice (some ⟨b_27528, 0, none⟩) x_25702.1.length cap_27300)), (6, (.slice (some ⟨b_27595, 0, none⟩) x_25710.1.length cap_27302)), (9, (.pointer (some ⟨b_27529, 0, none⟩))), (10, (.bool found_27713)), (48, (.slice (some ⟨b_27528, 0, none⟩) x_25702.1.length cap_27300)), (49, (.int .i64 ((x_25702.1.length : Nat) : Int))), (50, (.int .i64 v_27303)), (89, (.slice (some ⟨b_27729, 0, none⟩) x_25694.length cap_27712)), (90, (.int .i64 ((x_25694.length : Nat) : Int))), (91, (.int .i64 v_27714)), (100, (.bool (found_27713 || (decide ((⟨(⟨(((nth x_25694 v_27714).fBurst).fN), (((nth x_25694 v_27714).fBurst).fD)⟩ : Sapi_Rat), (⟨(((nth x_25694 v_27714).fRate).fN), (((nth x_25694 v_27714).fRate).fD)⟩ : Sapi_Rat)⟩ : Sapi_Bucket) = (⟨(⟨(((nth x_25702.1 v_27303).fBurst).fN), (((nth x_25702.1 v_27303).fBurst).fD)⟩ : Sapi_Rat), (⟨(((nth x_25702.1 v_27303).fRate).fN), (((nth x_25702.1 v_27303).fRate).fD)⟩ : Sapi_Rat)⟩ : Sapi_Bucket))))))] [stb b_27730 42 [(.int .i64 (((nth x_25694 v_27714).fBurst).fN)), (.int .i64 (((nth x_25694 v_27714).fBurst).fD)), (.int .i64 (((nth x_25694 v_27714).fRate).fN)), (.int .i64 (((nth x_25694 v_27714).fRate).fD))], fz [], row (.slice (some ⟨b_27729, 0, none⟩) x_25694.length cap_27712) 42 4 (x_25694.flatMap e42), row (.slice (some ⟨b_27528, 0, none⟩) x_25702.1.length cap_27300) 42 4 (x_25702.1.flatMap e42), row (.slice (some ⟨b_27595, 0, none⟩) x_25710.1.length cap_27302) 42 4 (x_25710.1.flatMap e42), stb b_27529 42 [(.int .i64 (((nth x_25702.1 v_27303).fBurst).fN)), (.int .i64 (((nth x_25702.1 v_27303).fBurst).fD)), (.int .i64 (((nth x_25702.1 v_27303).fRate).fN)), (.int .i64 (((nth x_25702.1 v_27303).fRate).fD))]] 4 ?_ (fun _ => ?_)
                      · rcases Bool.eq_false_or_eq_true found_27713 with hb' | hb'
                        · have hg_27731 := hb'; clear hb'
                          refine WL.pin (i := 96) rfl hg_27731 ?_
                          refine WL.skip rfl rfl rfl ?_
                          refine WL.skip rfl rfl rfl ?_
                          refine WL.skip rfl rfl rfl ?_
                          refine WL.quiet (d := 100) rfl rfl rfl (q_pickT rfl rfl) ?_
                          exact WL.cutEnd () trivial (.cons rfl (.cons rfl (.cons rfl (.cons rfl (.cons rfl (.cons rfl (.cons rfl (.cons rfl (.cons rfl (.cons rfl (.cons rfl (.cons (some_bool (or_l hg_27731)) .nil)))))))))))) (.cons .here (.cons .here (.cons .here (.cons .here (.cons .here (.cons .here .nil))))))
                        · have hg_27732 := hb'; clear hb'
                          refine WL.pin (i := 96) rfl hg_27732 ?_
                          refine WL.quiet (d := 97) rfl rfl rfl (q_loadA (cs := [(.int .i64 (((nth x_25694 v_27714).fBurst).fN)), (.int .i64 (((nth x_25694 v_27714).fBurst).fD)), (.int .i64 (((nth x_25694 v_27714).fRate).fN)), (.int .i64 (((nth x_25694 v_27714).fRate).fD))]) aggT_42 rfl rfl (rd_all .here)) ?_
                          refine WL.quiet (d := 98) rfl rfl rfl (q_loadA (cs := [(.int .i64 (((nth x_25702.1 v_27303).fBurst).fN)), (.int .i64 (((nth x_25702.1 v_27303).fBurst).fD)), (.int .i64 (((nth x_25702.1 v_27303).fRate).fN)), (.int .i64 (((nth x_25702.1 v_27303).fRate).fD))]) aggT_42 rfl rfl (rd_all (.there (.there (.there (.there (.there .here))))))) ?_
                          refine WL.quiet (d := 99) rfl rfl rfl (q_aggeql (enc := e42) (a := (⟨(⟨(((nth x_25694 v_27714).fBurst).fN), (((nth x_25694 v_27714).fBurst).fD)⟩ : Sapi_Rat), (⟨(((nth x_25694 v_27714).fRate).fN), (((nth x_25694 v_27714).fRate).fD)⟩ : Sapi_Rat)⟩ : Sapi_Bucket)) (b := (⟨(⟨(((nth x_25702.1 v_27303).fBurst).fN), (((nth x_25702.1 v_27303).fBurst).fD)⟩ : Sapi_Rat), (⟨(((nth x_25702.1 v_27303).fRate).fN), (((nth x_25702.1 v_27303).fRate).fD)⟩ : Sapi_Rat)⟩ : Sapi_Bucket)) eqT_42 rfl rfl) ?_
                          refine WL.quiet (d := 100) rfl rfl rfl (q_pickF rfl rfl) ?_
                          exact WL.cutEnd () trivial (.cons rfl (.cons rfl (.cons rfl (.cons rfl (.cons rfl (.cons rfl (.cons rfl (.cons rfl (.cons rfl (.cons rfl (.cons rfl (.cons (some_bool (or_r hg_27732)) .nil)))))))))))) (.cons .here (.cons .here (.cons .here (.cons .here (.cons .here (.cons .here .nil))))))
                      · skip
                        refine WL.quiet (d := 10) rfl rfl rfl (q_assign rfl) ?_
                        refine WL.nil ?_
                        refine WX.blockNormal ?_
                        refine WX.then ?_
                        refine WC.region ?_
                        refine WL.quiet (d := 101) rfl rfl rfl (q_add rfl rfl rfl) ?_
                        refine WL.quiet (d := 91) rfl rfl rfl (q_move rfl) ?_
                        refine WL.nil ?_
                        exact WX.round (G := Nat × Bool × Int × Option Addr × Nat) ⟨n_27716, (found_27713 || (decide ((⟨(⟨(((nth x_25694 v_27714).fBurst).fN), (((nth x_25694 v_27714).fBurst).fD)⟩ : Sapi_Rat), (⟨(((nth x_25694 v_27714).fRate).fN), (((nth x_25694 v_27714).fRate).fD)⟩ : Sapi_Rat)⟩ : Sapi_Bucket) = (⟨(⟨(((nth x_25702.1 v_27303).fBurst).fN), (((nth x_25702.1 v_27303).fBurst).fD)⟩ : Sapi_Rat), (⟨(((nth x_25702.1 v_27303).fRate).fN), (((nth x_25702.1 v_27303).fRate).fD)⟩ : Sapi_Rat)⟩ : Sapi_Bucket)))), (i64 (v_27714 + 1)), (some ⟨b_27729, 0, none⟩), cap_27712⟩ h (Nat.lt_succ_self _) (.cons rfl (.cons rfl (.cons rfl (.cons rfl (.cons rfl (.cons rfl (.cons rfl (.cons rfl (.cons rfl (.cons rfl (.cons rfl .nil))))))))))) (.cons (.there .here) (.cons (.there .here) (.cons (.there .here) (.cons (.there .here) (.cons (.there .here) .nil)))))
                    · replace h := ite_f h hb_27718
                      refine WC.exit ?_
                      refine WX.thenExit ?_
                      refine WX.thenExit ?_
                      refine WX.blockHit ?_
                      exact WX.mid (G := Bool × Option Addr × Nat) ⟨found_27713, ao_27711, cap_27712⟩ h (.cons rfl (.cons rfl (.cons rfl (.cons rfl (.cons rfl (.cons rfl (.cons rfl .nil))))))) (.cons .here (.cons .here (.cons .here (.cons .here .nil))))
                  · rintro found_27688 ao_27686 cap_27687 h
                    replace h := (hk_27690 found_27688).symm.trans h
                    refine WC.seq ?_
                    refine WC.region ?_
                    refine WL.quiet (d := 102) rfl rfl rfl (q_move rfl) ?_
                    refine WL.quiet (d := 103) rfl rfl rfl (q_not rfl) ?_
                    refine WL.nil ?_
                    refine WX.then ?_
                    refine WC.cond rfl (fun hb_27733 => ?_) (fun hb_27733 => ?_)
                    · replace h := ite_t h hb_27733
                      refine WC.seq ?_
                      refine WC.region ?_
                      refine WL.quiet (d := 2) rfl rfl rfl (q_assign rfl) ?_
                      refine WL.nil ?_
                      refine WX.then ?_
                      refine WC.ret ?_
                      refine WX.blockRet ?_
                      refine WX.thenRet ?_
                      refine WX.thenRet ?_
                      refine WX.blockRet ?_
                      refine WX.thenRet ?_
                      obtain rfl := Option.some.inj h
                      refine WX.bpRet Try.results4 (.tmp rfl .nil) (fun w hw => ?_)
                      exact ⟨[], ret1 rfl, trivial, hw.sub (.cons .here .nil)⟩
                    · replace h := ite_f h hb_27733
                      refine WC.skip ?_
                      refine WX.blockNormal ?_
                      exact WX.mid (G := Option Addr × Nat × Option Addr × Nat × Option Addr × Nat) ⟨ao_27686, cap_27687, (some ⟨b_27528, 0, none⟩), cap_27300, (some ⟨b_27595, 0, none⟩), cap_27302⟩ h (.cons rfl (.cons rfl (.cons rfl (.cons rfl (.cons rfl (.cons rfl .nil)))))) (.cons .here (.cons .here (.cons .here (.cons .here .nil))))
              · rintro ao_27517 cap_27518 ao_27519 cap_27520 ao_27521 cap_27522 h
                replace h := hk_27524.symm.trans h
                refine WC.region ?_
                refine WL.quiet (d := 104) rfl rfl rfl (q_add rfl rfl rfl) ?_
                refine WL.quiet (d := 50) rfl rfl rfl (q_move rfl) ?_
                refine WL.nil ?_
                exact WX.round (G := Nat × Int × Option Addr × Nat × Option Addr × Nat × Option Addr × Nat) ⟨n_27305, (i64 (v_27303 + 1)), ao_27517, cap_27518, ao_27519, cap_27520, ao_27521, cap_27522⟩ h (Nat.lt_succ_self _) (.cons rfl (.cons rfl (.cons rfl (.cons rfl (.cons rfl (.cons rfl .nil)))))) (.cons .here (.cons .here (.cons .here (.cons .here .nil))))
            · replace h := ite_f h hb_27307
              refine WC.exit ?_
              refine WX.thenExit ?_
              refine WX.thenExit ?_
              refine WX.blockHit ?_
              exact WX.mid (G := Option Addr × Nat × Option Addr × Nat) ⟨ao_27297, cap_27298, ao_27299, cap_27300⟩ h (.cons rfl (.cons rfl .nil)) (.cons .here (.cons .here (.cons .here .nil)))
          · rintro ao_26856 cap_26857 ao_26858 cap_26859 h
            replace h := hk_26861.symm.trans h
            obtain ⟨k_29204, hk_29205, h⟩ := jp0_elim h
            refine WC.seqMid0 ((k_29204 = some r)) ([]) ([fz []]) ?_ ?_
            · skip
              refine WC.seq ?_
              refine WC.region ?_
              refine WL.quiet (d := 105) rfl rfl rfl (q_move rfl) ?_
              refine WL.quiet (d := 106) rfl rfl rfl (q_len Try.underlying25 rfl) ?_
              refine WL.quiet (d := 107) rfl rfl rfl (q_move rfl) ?_
              refine WL.nil ?_
              refine WX.then ?_
              refine WC.block ?_
              refine WC.loop6 (fun (n_29702 : Nat) (v_29701 : Int) (ao_29697 : Option Addr) (cap_29698 : Nat) (ao_29699 : Option Addr) (cap_29700 : Nat) => (m_law02_CurveNorm_L11 x_25694 x_25702 k_29204 n_29702 v_29701 = some r)) (fun (n_29702 : Nat) (v_29701 : Int) (ao_29697 : Option Addr) (cap_29698 : Nat) (ao_29699 : Option Addr) (cap_29700 : Nat) => [(4, (.slice ao_29697 x_25702.1.length cap_29698)), (105, (.slice ao_29699 x_25694.length cap_29700)), (106, (.int .i64 ((x_25694.length : Nat) : Int))), (107, (.int .i64 v_29701))]) (fun (n_29702 : Nat) (v_29701 : Int) (ao_29697 : Option Addr) (cap_29698 : Nat) (ao_29699 : Option Addr) (cap_29700 : Nat) => [fz [], row (.slice ao_29697 x_25702.1.length cap_29698) 42 4 (x_25702.1.flatMap e42), row (.slice ao_29699 x_25694.length cap_29700) 42 4 (x_25694.flatMap e42)]) (fun (n_29702 : Nat) (v_29701 : Int) (ao_29697 : Option Addr) (cap_29698 : Nat) (ao_29699 : Option Addr) (cap_29700 : Nat) => n_29702) ⟨FUEL, 0, ao_26858, cap_26859, ao_26856, cap_26857⟩ h (.cons rfl (.cons rfl (.cons rfl (.cons rfl .nil)))) (.cons .here (.cons (.there .here) (.cons .here .nil))) ?_
              rintro n_29702 v_29701 ao_29697 cap_29698 ao_29699 cap_29700 h
              obtain ⟨n_29703, rfl⟩ := m_law02_CurveNorm_L11_fuel h
              rw [m_law02_CurveNorm_L11] at h
              refine WC.seq ?_
              refine WC.region ?_
              refine WL.quiet (d := 108) rfl rfl rfl (q_lss rfl rfl) ?_
              refine WL.nil ?_
              refine WX.then ?_
              refine WC.seq ?_
              refine WC.cond rfl (fun hb_29705 => ?_) (fun hb_29705 => ?_)
              · replace h := ite_t h hb_29705
                refine WC.skip ?_
                refine WX.then ?_
                obtain ⟨k_29949, hk_29950, h⟩ := jp0_elim h
                refine WC.seqMid4 (fun (ao_29945 : Option Addr) (cap_29946 : Nat) (ao_29947 : Option Addr) (cap_29948 : Nat) => (k_29949 = some r)) (fun (ao_29945 : Option Addr) (cap_29946 : Nat) (ao_29947 : Option Addr) (cap_29948 : Nat) => [(4, (.slice ao_29945 x_25702.1.length cap_29946)), (105, (.slice ao_29947 x_25694.length cap_29948)), (106, (.int .i64 ((x_25694.length : Nat) : Int))), (107, (.int .i64 v_29701))]) (fun (ao_29945 : Option Addr) (cap_29946 : Nat) (ao_29947 : Option Addr) (cap_29948 : Nat) => [fz [], row (.slice ao_29945 x_25702.1.length cap_29946) 42 4 (x_25702.1.flatMap e42), row (.slice ao_29947 x_25694.length cap_29948) 42 4 (x_25694.flatMap e42)]) ?_ ?_
                · skip
                  refine WC.block ?_
                  refine WC.seq ?_
                  obtain ⟨c_29951, h⟩ := chk_elim h
                  refine WC.region ?_
                  refine WL.know (fun w hw => Hp.expose (.there (.there .here)) hw (by intro hz'; have := c_29951; rw [hz'] at this; omega)) ?_
                  rintro ⟨b_29954, rfl⟩
                  refine WL.quiet (d := 109) rfl rfl rfl (q_indexAddr elT_25 rfl rfl c_29951.1 c_29951.2 rowAdd) ?_
                  refine WL.quiet (d := 110) rfl rfl rfl (q_loadA (cs := (e42 (nth x_25694 v_29701))) aggT_42 rfl rfl (rd_rows (.there (.there .here)) (flat_rd (enc := e42) (l := x_25694) (i := v_29701) (sz := 4) (fun _ => rfl) c_29951.1 c_29951.2))) ?_
                  refine WL.new (dd := 14) rfl rfl rfl (e_alloc (cs := [(.int .i64 0), (.int .i64 0), (.int .i64 0), (.int .i64 0)]) zeroT_42 rfl) ?_
                  intro b_29955 _
                  refine WL.eff0 rfl rfl (e_store (vs := [(.int .i64 (((nth x_25694 v_29701).fBurst).fN)), (.int .i64 (((nth x_25694 v_29701).fBurst).fD)), (.int .i64 (((nth x_25694 v_29701).fRate).fN)), (.int .i64 (((nth x_25694 v_29701).fRate).fD))]) (ds := [(.int .i64 (((nth x_25694 v_29701).fBurst).fN)), (.int .i64 (((nth x_25694 v_29701).fBurst).fD)), (.int .i64 (((nth x_25694 v_29701).fRate).fN)), (.int .i64 (((nth x_25694 v_29701).fRate).fD))]) sizT_42 rfl rfl rfl rfl (oc_cons rfl (oc_cons rfl (oc_cons rfl (oc_cons rfl oc_nil)))) .here (Nat.le_of_ble_eq_true rfl) rfl) ?_
                  refine WL.nil ?_
                  refine WX.then ?_
                  refine WC.seq ?_
                  refine WC.region ?_
                  refine WL.quiet (d := 15) rfl rfl rfl (q_assign rfl) ?_
                  refine WL.nil ?_
                  refine WX.then ?_
                  obtain ⟨k_30089, hk_30090, h⟩ := jp1_elim h
                  refine WC.seqMid3 (fun (covered_30088 : Bool) (ao_30086 : Option Addr) (cap_30087 : Nat) => (k_30089 covered_30088 = some r)) (fun (covered_30088 : Bool) (ao_30086 : Option Addr) (cap_30087 : Nat) => [(4, (.slice ao_30086 x_25702.1.length cap_30087)), (15, (.bool covered_30088)), (105, (.slice (some ⟨b_29954, 0, none⟩) x_25694.length cap_29700)), (106, (.int .i64 ((x_25694.length : Nat) : Int))), (107, (.int .i64 v_29701))]) (fun (covered_30088 : Bool) (ao_30086 : Option Addr) (cap_30087 : Nat) => [fz [], row (.slice ao_30086 x_25702.1.length cap_30087) 42 4 (x_25702.1.flatMap e42), row (.slice (some ⟨b_29954, 0, none⟩) x_25694.length cap_29700) 42 4 (x_25694.flatMap e42)]) ?_ ?_
                  · skip
                    refine WC.seq ?_
                    refine WC.region ?_
                    refine WL.quiet (d := 111) rfl rfl rfl (q_move rfl) ?_
                    refine WL.quiet (d := 112) rfl rfl rfl (q_len Try.underlying25 rfl) ?_
                    refine WL.quiet (d := 113) rfl rfl rfl (q_move rfl) ?_
                    refine WL.nil ?_
                    refine WX.then ?_
                    refine WC.block ?_
                    refine WC.loop5 (fun (n_30143 : Nat) (covered_30141 : Bool) (v_30142 : Int) (ao_30139 : Option Addr) (cap_30140 : Nat) => (m_law02_CurveNorm_L12 x_25702 x_25694 v_29701 k_30089 n_30143 covered_30141 v_30142 = some r)) (fun (n_30143 : Nat) (covered_30141 : Bool) (v_30142 : Int) (ao_30139 : Option Addr) (cap_30140 : Nat) => [(4, (.slice ao_30139 x_25702.1.length cap_30140)), (14, (.pointer (some ⟨b_29955, 0, none⟩))), (15, (.bool covered_30141)), (105, (.slice (some ⟨b_29954, 0, none⟩) x_25694.length cap_29700)), (106, (.int .i64 ((x_25694.length : Nat) : Int))), (107, (.int .i64 v_29701)), (111, (.slice ao_30139 x_25702.1.length cap_30140)), (112, (.int .i64 ((x_25702.1.length : Nat) : Int))), (113, (.int .i64 v_30142))]) (fun (n_30143 : Nat) (covered_30141 : Bool) (v_30142 : Int) (ao_30139 : Option Addr) (cap_30140 : Nat) => [fz [], row (.slice ao_30139 x_25702.1.length cap_30140) 42 4 (x_25702.1.flatMap e42), row (.slice (some ⟨b_29954, 0, none⟩) x_25694.length cap_29700) 42 4 (x_25694.flatMap e42), stb b_29955 42 [(.int .i64 (((nth x_25694 v_29701).fBurst).fN)), (.int .i64 (((nth x_25694 v_29701).fBurst).fD)), (.int .i64 (((nth x_25694 v_29701).fRate).fN)), (.int .i64 (((nth x_25694 v_29701).fRate).fD))]]) (fun (n_30143 : Nat) (covered_30141 : Bool) (v_30142 : Int) (ao_30139 : Option Addr) (cap_30140 : Nat) => n_30143) ⟨FUEL, false, 0, ao_29697, cap_29698⟩ h (.cons rfl (.cons rfl (.cons rfl (.cons rfl (.cons rfl (.cons rfl (.cons rfl (.cons rfl (.cons rfl .nil))))))))) (.cons (.there .here) (.cons (.there .here) (.cons (.there .here) (.cons .here .nil)))) ?_
                    rintro n_30143 covered_30141 v_30142 ao_30139 cap_30140 h
                    obtain ⟨n_30144, rfl⟩ := m_law02_CurveNorm_L12_fuel h
                    rw [m_law02_CurveNorm_L12] at h
                    refine WC.seq ?_
                    refine WC.region ?_
                    refine WL.quiet (d := 114) rfl rfl rfl (q_lss rfl rfl) ?_
                    refine WL.nil ?_
                    refine WX.then ?_
                    refine WC.seq ?_
                    refine WC.cond rfl (fun hb_30146 => ?_) (fun hb_30146 => ?_)
                    · replace h := ite_t h hb_30146
                      refine WC.skip ?_
                      refine WX.then ?_
                      refine WC.seq ?_
                      refine WC.block ?_
                      refine WC.seq ?_
                      obtain ⟨c_30168, h⟩ := chk_elim h
                      refine WC.region ?_
                      refine WL.know (fun w hw => Hp.expose (.there .here) hw (by intro hz'; have := c_30168; rw [hz'] at this; omega)) ?_
                      rintro ⟨b_30171, rfl⟩
                      refine WL.quiet (d := 115) rfl rfl rfl (q_indexAddr elT_25 rfl rfl c_30168.1 c_30168.2 rowAdd) ?_
                      refine WL.quiet (d := 116) rfl rfl rfl (q_loadA (cs := (e42 (nth x_25702.1 v_30142))) aggT_42 rfl rfl (rd_rows (.there .here) (flat_rd (enc := e42) (l := x_25702.1) (i := v_30142) (sz := 4) (fun _ => rfl) c_30168.1 c_30168.2))) ?_
                      refine WL.new (dd := 17) rfl rfl rfl (e_alloc (cs := [(.int .i64 0), (.int .i64 0), (.int .i64 0), (.int .i64 0)]) zeroT_42 rfl) ?_
                      intro b_30172 _
                      refine WL.eff0 rfl rfl (e_store (vs := [(.int .i64 (((nth x_25702.1 v_30142).fBurst).fN)), (.int .i64 (((nth x_25702.1 v_30142).fBurst).fD)), (.int .i64 (((nth x_25702.1 v_30142).fRate).fN)), (.int .i64 (((nth x_25702.1 v_30142).fRate).fD))]) (ds := [(.int .i64 (((nth x_25702.1 v_30142).fBurst).fN)), (.int .i64 (((nth x_25702.1 v_30142).fBurst).fD)), (.int .i64 (((nth x_25702.1 v_30142).fRate).fN)), (.int .i64 (((nth x_25702.1 v_30142).fRate).fD))]) sizT_42 rfl rfl rfl rfl (oc_cons rfl (oc_cons rfl (oc_cons rfl (oc_cons rfl oc_nil)))) .here (Nat.le_of_ble_eq_true rfl) rfl) ?_
                      refine WL.nil ?_
                      refine WX.then ?_
                      obtain ⟨b_30179, hb_30180, h⟩ := bind_elim h
                      refine WC.region ?_
                      refine WL.quiet (d := 117) rfl rfl rfl (q_move rfl) ?_
                      refine WL.quiet (d := 118) rfl rfl rfl (q_move rfl) ?_
                      refine WL.cut0 True [(4, (.slice (some ⟨b_30171, 0, none⟩) x_25702.1.length cap_30140)), (14, (.pointer (some ⟨b_29955, 0, none⟩))), (15, (.bool covered_30141)), (105, (.slice (some ⟨b_29954, 0, none⟩) x_25694.length cap_29700)), (106, (.int .i64 ((x_25694.length : Nat) : Int))), (107, (.int .i64 v_29701)), (111, (.slice (some ⟨b_30171, 0, none⟩) x_25702.1.length cap_30140)), (112, (.int .i64 ((x_25702.1.length : Nat) : Int))), (113, (.int .i64 v_30142)), (133, (.bool b_30179))] [stb b_30172 42 [(.int .i64 (((nth x_25702.1 v_30142).fBurst).fN)), (.int .i64 (((nth x_25702.1 v_30142).fBurst).fD)), (.int .i64 (((nth x_25702.1 v_30142).fRate).fN)), (.int .i64 (((nth x_25702.1 v_30142).fRate).fD))], fz [], row (.slice (some ⟨b_30171, 0, none⟩) x_25702.1.length cap_30140) 42 4 (x_25702.1.flatMap e42), row (.slice (some ⟨b_29954, 0, none⟩) x_25694.length cap_29700) 42 4 (x_25694.flatMap e42), stb b_29955 42 [(.int .i64 (((nth x_25694 v_29701).fBurst).fN)), (.int .i64 (((nth x_25694 v_29701).fBurst).fD)), (.int .i64 (((nth x_25694 v_29701).fRate).fN)), (.int .i64 (((nth x_25694 v_29701).fRate).fD))]] 15 ?_ (fun _ => ?_)
                      · rcases Bool.eq_false_or_eq_true covered_30141 with hb' | hb'
                        · have hg_30181 := hb'; clear hb'
                          have hq_30182 := ite_t hb_30180 hg_30181
                          replace hq_30182 := Option.some.inj hq_30182
                          refine WL.pin (i := 118) rfl hg_30181 ?_
                          refine WL.skip rfl rfl rfl ?_
                          refine WL.skip rfl rfl rfl ?_
                          refine WL.skip rfl rfl rfl ?_
                          refine WL.skip rfl rfl rfl ?_
                          refine WL.skip rfl rfl rfl ?_
                          refine WL.skip rfl rfl rfl ?_
                          refine WL.skip rfl rfl rfl ?_
                          refine WL.skip rfl rfl rfl ?_
                          refine WL.skip rfl rfl rfl ?_
                          refine WL.skip rfl rfl rfl ?_
                          refine WL.skip rfl rfl rfl ?_
                          refine WL.skip rfl rfl rfl ?_
                          refine WL.skip rfl rfl rfl ?_
                          refine WL.skip rfl rfl rfl ?_
                          refine WL.quiet (d := 133) rfl rfl rfl (q_pickT rfl rfl) ?_
                          exact WL.cutEnd () trivial (.cons rfl (.cons rfl (.cons rfl (.cons rfl (.cons rfl (.cons rfl (.cons rfl (.cons rfl (.cons rfl (.cons (some_bool hq_30182) .nil)))))))))) (.cons .here (.cons .here (.cons .here (.cons .here (.cons .here .nil)))))
                        · have hg_30183 := hb'; clear hb'
                          have hq_30184 := ite_f hb_30180 hg_30183
                          obtain ⟨x_30173, hx_30174, hq_30184⟩ := bind_elim hq_30184
                          obtain ⟨b_30177, hb_30178, hq_30184⟩ := bind_elim hq_30184
                          replace hq_30184 := Option.some.inj hq_30184
                          refine WL.pin (i := 118) rfl hg_30183 ?_
                          refine WL.quiet (d := 119) rfl rfl rfl (q_fieldAddr fo_42_0 rfl rfl) ?_
                          refine WL.quiet (d := 120) rfl rfl rfl (q_loadA (cs := [(.int .i64 (((nth x_25702.1 v_30142).fBurst).fN)), (.int .i64 (((nth x_25702.1 v_30142).fBurst).fD))]) aggT_28 rfl rfl (rd_sub (s := 2) .here rfl)) ?_
                          refine WL.quiet (d := 121) rfl rfl rfl (q_fieldAddr fo_42_0 rfl rfl) ?_
                          refine WL.quiet (d := 122) rfl rfl rfl (q_loadA (cs := [(.int .i64 (((nth x_25694 v_29701).fBurst).fN)), (.int .i64 (((nth x_25694 v_29701).fBurst).fD))]) aggT_28 rfl rfl (rd_sub (s := 2) (.there (.there (.there (.there .here)))) rfl)) ?_
                          refine WL.callD (dd := 123) rfl rfl rfl (run_call (l := [.tmp 120, .tmp 122]) Try.call17 (.cons rfl (.cons rfl .nil))) (.nil : Sel [stb b_30172 42 [(.int .i64 (((nth x_25702.1 v_30142).fBurst).fN)), (.int .i64 (((nth x_25702.1 v_30142).fBurst).fD)), (.int .i64 (((nth x_25702.1 v_30142).fRate).fN)), (.int .i64 (((nth x_25702.1 v_30142).fRate).fD))], fz [], row (.slice (some ⟨b_30171, 0, none⟩) x_25702.1.length cap_30140) 42 4 (x_25702.1.flatMap e42), row (.slice (some ⟨b_29954, 0, none⟩) x_25694.length cap_29700) 42 4 (x_25694.flatMap e42), stb b_29955 42 [(.int .i64 (((nth x_25694 v_29701).fBurst).fN)), (.int .i64 (((nth x_25694 v_29701).fBurst).fD)), (.int .i64 (((nth x_25694 v_29701).fRate).fN)), (.int .i64 (((nth x_25694 v_29701).fRate).fD))]] [] [stb b_30172 42 [(.int .i64 (((nth x_25702.1 v_30142).fBurst).fN)), (.int .i64 (((nth x_25702.1 v_30142).fBurst).fD)), (.int .i64 (((nth x_25702.1 v_30142).fRate).fN)), (.int .i64 (((nth x_25702.1 v_30142).fRate).fD))], fz [], row (.slice (some ⟨b_30171, 0, none⟩) x_25702.1.length cap_30140) 42 4 (x_25702.1.flatMap e42), row (.slice (some ⟨b_29954, 0, none⟩) x_25694.length cap_29700) 42 4 (x_25694.flatMap e42), stb b_29955 42 [(.int .i64 (((nth x_25694 v_29701).fBurst).fN)), (.int .i64 (((nth x_25694 v_29701).fBurst).fD)), (.int .i64 (((nth x_25694 v_29701).fRate).fN)), (.int .i64 (((nth x_25694 v_29701).fRate).fD))]]) (fun w hw => by have pz := (hz.call2 hw (.nil : Sel [stb b_30172 42 [(.int .i64 (((nth x_25702.1 v_30142).fBurst).fN)), (.int .i64 (((nth x_25702.1 v_30142).fBurst).fD)), (.int .i64 (((nth x_25702.1 v_30142).fRate).fN)), (.int .i64 (((nth x_25702.1 v_30142).fRate).fD))], fz [], row (.slice (some ⟨b_30171, 0, none⟩) x_25702.1.length cap_30140) 42 4 (x_25702.1.flatMap e42), row (.slice (some ⟨b_29954, 0, none⟩) x_25694.length cap_29700) 42 4 (x_25694.flatMap e42), stb b_29955 42 [(.int .i64 (((nth x_25694 v_29701).fBurst).fN)), (.int .i64 (((nth x_25694 v_29701).fBurst).fD)), (.int .i64 (((nth x_25694 v_29701).fRate).fN)), (.int .i64 (((nth x_25694 v_29701).fRate).fD))]] [] [stb b_30172 42 [(.int .i64 (((nth x_25702.1 v_30142).fBurst).fN)), (.int .i64 (((nth x_25702.1 v_30142).fBurst).fD)), (.int .i64 (((nth x_25702.1 v_30142).fRate).fN)), (.int .i64 (((nth x_25702.1 v_30142).fRate).fD))], fz [], row (.slice (some ⟨b_30171, 0, none⟩) x_25702.1.length cap_30140) 42 4 (x_25702.1.flatMap e42), row (.slice (some ⟨b_29954, 0, none⟩) x_25694.length cap_29700) 42 4 (x_25694.flatMap e42), stb b_29955 42 [(.int .i64 (((nth x_25694 v_29701).fBurst).fN)), (.int .i64 (((nth x_25694 v_29701).fBurst).fD)), (.int .i64 (((nth x_25694 v_29701).fRate).fN)), (.int .i64 (((nth x_25694 v_29701).fRate).fD))]]) (.there .here)); exact w_rat_Cmp (Z := _)  (x_2033 := (⟨(((nth x_25702.1 v_30142).fBurst).fN), (((nth x_25702.1 v_30142).fBurst).fD)⟩ : Sapi_Rat)) (y_2034 := (⟨(((nth x_25694 v_29701).fBurst).fN), (((nth x_25694 v_29701).fBurst).fD)⟩ : Sapi_Rat)) (r := x_30173) w pz  hx_30174) ?_
                          refine WL.quiet (d := 124) rfl rfl rfl (q_leq rfl rfl) ?_
                          refine WL.quiet (d := 125) rfl rfl rfl (q_move rfl) ?_
                          refine WL.cut0 True [(4, (.slice (some ⟨b_30171, 0, none⟩) x_25702.1.length cap_30140)), (14, (.pointer (some ⟨b_29955, 0, none⟩))), (15, (.bool covered_30141)), (105, (.slice (some ⟨b_29954, 0, none⟩) x_25694.length cap_29700)), (106, (.int .i64 ((x_25694.length : Nat) : Int))), (107, (.int .i64 v_29701)), (111, (.slice (some ⟨b_30171, 0, none⟩) x_25702.1.length cap_30140)), (112, (.int .i64 ((x_25702.1.length : Nat) : Int))), (113, (.int .i64 v_30142)), (118, (.bool false)), (132, (.bool b_30177))] [stb b_30172 42 [(.int .i64 (((nth x_25702.1 v_30142).fBurst).fN)), (.int .i64 (((nth x_25702.1 v_30142).fBurst).fD)), (.int .i64 (((nth x_25702.1 v_30142).fRate).fN)), (.int .i64 (((nth x_25702.1 v_30142).fRate).fD))], fz [], row (.slice (some ⟨b_30171, 0, none⟩) x_25702.1.length cap_30140) 42 4 (x_25702.1.flatMap e42), row (.slice (some ⟨b_29954, 0, none⟩) x_25694.length cap_29700) 42 4 (x_25694.flatMap e42), stb b_29955 42 [(.int .i64 (((nth x_25694 v_29701).fBurst).fN)), (.int .i64 (((nth x_25694 v_29701).fBurst).fD)), (.int .i64 (((nth x_25694 v_29701).fRate).fN)), (.int .i64 (((nth x_25694 v_29701).fRate).fD))]] 7 ?_ (fun _ => ?_)
                          · rcases Bool.eq_false_or_eq_true (decide (x_30173 ≤ 0)) with hb' | hb'
                            · have hg_30185 := hb'; clear hb'
                              have hq_30186 := ite_t hb_30178 hg_30185
                              obtain ⟨x_30175, hx_30176, hq_30186⟩ := bind_elim hq_30186
                              replace hq_30186 := Option.some.inj hq_30186
                              refine WL.pin (i := 125) rfl hg_30185 ?_
                              refine WL.quiet (d := 126) rfl rfl rfl (q_fieldAddr fo_42_1 rfl rfl) ?_
                              refine WL.quiet (d := 127) rfl rfl rfl (q_loadA (cs := [(.int .i64 (((nth x_25702.1 v_30142).fRate).fN)), (.int .i64 (((nth x_25702.1 v_30142).fRate).fD))]) aggT_28 rfl rfl (rd_sub (s := 2) .here rfl)) ?_
                              refine WL.quiet (d := 128) rfl rfl rfl (q_fieldAddr fo_42_1 rfl rfl) ?_
                              refine WL.quiet (d := 129) rfl rfl rfl (q_loadA (cs := [(.int .i64 (((nth x_25694 v_29701).fRate).fN)), (.int .i64 (((nth x_25694 v_29701).fRate).fD))]) aggT_28 rfl rfl (rd_sub (s := 2) (.there (.there (.there (.there .here)))) rfl)) ?_
                              refine WL.callD (dd := 130) rfl rfl rfl (run_call (l := [.tmp 127, .tmp 129]) Try.call17 (.cons rfl (.cons rfl .nil))) (.nil : Sel [stb b_30172 42 [(.int .i64 (((nth x_25702.1 v_30142).fBurst).fN)), (.int .i64 (((nth x_25702.1 v_30142).fBurst).fD)), (.int .i64 (((nth x_25702.1 v_30142).fRate).fN)), (.int .i64 (((nth x_25702.1 v_30142).fRate).fD))], fz [], row (.slice (some ⟨b_30171, 0, none⟩) x_25702.1.length cap_30140) 42 4 (x_25702.1.flatMap e42), row (.slice (some ⟨b_29954, 0, none⟩) x_25694.length cap_29700) 42 4 (x_25694.flatMap e42), stb b_29955 42 [(.int .i64 (((nth x_25694 v_29701).fBurst).fN)), (.int .i64 (((nth x_25694 v_29701).fBurst).fD)), (.int .i64 (((nth x_25694 v_29701).fRate).fN)), (.int .i64 (((nth x_25694 v_29701).fRate).fD))]] [] [stb b_30172 42 [(.int .i64 (((nth x_25702.1 v_30142).fBurst).fN)), (.int .i64 (((nth x_25702.1 v_30142).fBurst).fD)), (.int .i64 (((nth x_25702.1 v_30142).fRate).fN)), (.int .i64 (((nth x_25702.1 v_30142).fRate).fD))], fz [], row (.slice (some ⟨b_30171, 0, none⟩) x_25702.1.length cap_30140) 42 4 (x_25702.1.flatMap e42), row (.slice (some ⟨b_29954, 0, none⟩) x_25694.length cap_29700) 42 4 (x_25694.flatMap e42), stb b_29955 42 [(.int .i64 (((nth x_25694 v_29701).fBurst).fN)), (.int .i64 (((nth x_25694 v_29701).fBurst).fD)), (.int .i64 (((nth x_25694 v_29701).fRate).fN)), (.int .i64 (((nth x_25694 v_29701).fRate).fD))]]) (fun w hw => by have pz := (hz.call2 hw (.nil : Sel [stb b_30172 42 [(.int .i64 (((nth x_25702.1 v_30142).fBurst).fN)), (.int .i64 (((nth x_25702.1 v_30142).fBurst).fD)), (.int .i64 (((nth x_25702.1 v_30142).fRate).fN)), (.int .i64 (((nth x_25702.1 v_30142).fRate).fD))], fz [], row (.slice (some ⟨b_30171, 0, none⟩) x_25702.1.length cap_30140) 42 4 (x_25702.1.flatMap e42), row (.slice (some ⟨b_29954, 0, none⟩) x_25694.length cap_29700) 42 4 (x_25694.flatMap e42), stb b_29955 42 [(.int .i64 (((nth x_25694 v_29701).fBurst).fN)), (.int .i64 (((nth x_25694 v_29701).fBurst).fD)), (.int .i64 (((nth x_25694 v_29701).fRate).fN)), (.int .i64 (((nth x_25694 v_29701).fRate).fD))]] [] [stb b_30172 42 [(.int .i64 (((nth x_25702.1 v_30142).fBurst).fN)), (.int .i64 (((nth x_25702.1 v_30142).fBurst).fD)), (.int .i64 (((nth x_25702.1 v_30142).fRate).fN)), (.int .i64 (((nth x_25702.1 v_30142).fRate).fD))], fz [], row (.slice (some ⟨b_30171, 0, none⟩) x_25702.1.length cap_30140) 42 4 (x_25702.1.flatMap e42), row (.slice (some ⟨b_29954, 0, none⟩) x_25694.length cap_29700) 42 4 (x_25694.flatMap e42), stb b_29955 42 [(.int .i64 (((nth x_25694 v_29701).fBurst).fN)), (.int .i64 (((nth x_25694 v_29701).fBurst).fD)), (.int .i64 (((nth x_25694 v_29701).fRate).fN)), (.int .i64 (((nth x_25694 v_29701).fRate).fD))]]) (.there .here)); exact w_rat_Cmp (Z := _)  (x_2033 := (⟨(((nth x_25702.1 v_30142).fRate).fN), (((nth x_25702.1 v_30142).fRate).fD)⟩ : Sapi_Rat)) (y_2034 := (⟨(((nth x_25694 v_29701).fRate).fN), (((nth x_25694 v_29701).fRate).fD)⟩ : Sapi_Rat)) (r := x_30175) w pz  hx_30176) ?_
                              refine WL.quiet (d := 131) rfl rfl rfl (q_leq rfl rfl) ?_
                              refine WL.quiet (d := 132) rfl rfl rfl (q_pickT rfl rfl) ?_
                              exact WL.cutEnd () trivial (.cons rfl (.cons rfl (.cons rfl (.cons rfl (.cons rfl (.cons rfl (.cons rfl (.cons rfl (.cons rfl (.cons rfl (.cons (some_bool hq_30186) .nil))))))))))) (.cons .here (.cons .here (.cons .here (.cons .here (.cons .here .nil)))))
                            · have hg_30187 := hb'; clear hb'
                              have hq_30188 := ite_f hb_30178 hg_30187
                              replace hq_30188 := Option.some.inj hq_30188
                              refine WL.pin (i := 125) rfl hg_30187 ?_
                              refine WL.skip rfl rfl rfl ?_
                              refine WL.skip rfl rfl rfl ?_
                              refine WL.skip rfl rfl rfl ?_
                              refine WL.skip rfl rfl rfl ?_
                              refine WL.skip rfl rfl rfl ?_
                              refine WL.skip rfl rfl rfl ?_
                              refine WL.quiet (d := 132) rfl rfl rfl (q_pickF rfl rfl) ?_
                              exact WL.cutEnd () trivial (.cons rfl (.cons rfl (.cons rfl (.cons rfl (.cons rfl (.cons rfl (.cons rfl (.cons rfl (.cons rfl (.cons rfl (.cons (some_bool hq_30188) .nil))))))))))) (.cons .here (.cons .here (.cons .here (.cons .here (.cons .here .nil)))))
                          · skip
                            refine WL.quiet (d := 133) rfl rfl rfl (q_pickF rfl rfl) ?_
                            exact WL.cutEnd () trivial (.cons rfl (.cons rfl (.cons rfl (.cons rfl (.cons rfl (.cons rfl (.cons rfl (.cons rfl (.cons rfl (.cons (some_bool hq_30184) .nil)))))))))) (.cons .here (.cons .here (.cons .here (.cons .here (.cons .here .nil)))))
                      · skip
                        refine WL.quiet (d := 15) rfl rfl rfl (q_assign rfl) ?_
                        refine WL.nil ?_
                        refine WX.blockNormal ?_
                        refine WX.then ?_
                        refine WC.region ?_
                        refine WL.quiet (d := 134) rfl rfl rfl (q_add rfl rfl rfl) ?_
                        refine WL.quiet (d := 113) rfl rfl rfl (q_move rfl) ?_
                        refine WL.nil ?_
                        exact WX.round (G := Nat × Bool × Int × Option Addr × Nat) ⟨n_30144, b_30179, (i64 (v_30142 + 1)), (some ⟨b_30171, 0, none⟩), cap_30140⟩ h (Nat.lt_succ_self _) (.cons rfl (.cons rfl (.cons rfl (.cons rfl (.cons rfl (.cons rfl (.cons rfl (.cons rfl (.cons rfl .nil))))))))) (.cons (.there .here) (.cons (.there .here) (.cons (.there .here) (.cons (.there .here) .nil))))
                    · replace h := ite_f h hb_30146
                      refine WC.exit ?_
                      refine WX.thenExit ?_
                      refine WX.thenExit ?_
                      refine WX.blockHit ?_
                      exact WX.mid (G := Bool × Option Addr × Nat) ⟨covered_30141, ao_30139, cap_30140⟩ h (.cons rfl (.cons rfl (.cons rfl (.cons rfl (.cons rfl .nil))))) (.cons .here (.cons .here (.cons .here .nil)))
                  · rintro covered_30088 ao_30086 cap_30087 h
                    replace h := (hk_30090 covered_30088).symm.trans h
                    refine WC.seq ?_
                    refine WC.region ?_
                    refine WL.quiet (d := 135) rfl rfl rfl (q_move rfl) ?_
                    refine WL.quiet (d := 136) rfl rfl rfl (q_not rfl) ?_
                    refine WL.nil ?_
                    refine WX.then ?_
                    refine WC.cond rfl (fun hb_30189 => ?_) (fun hb_30189 => ?_)
                    · replace h := ite_t h hb_30189
                      refine WC.seq ?_
                      refine WC.region ?_
                      refine WL.quiet (d := 2) rfl rfl rfl (q_assign rfl) ?_
                      refine WL.nil ?_
                      refine WX.then ?_
                      refine WC.ret ?_
                      refine WX.blockRet ?_
                      refine WX.thenRet ?_
                      refine WX.thenRet ?_
                      refine WX.blockRet ?_
                      refine WX.thenRet ?_
                      obtain rfl := Option.some.inj h
                      refine WX.bpRet Try.results4 (.tmp rfl .nil) (fun w hw => ?_)
                      exact ⟨[], ret1 rfl, trivial, hw.sub (.cons .here .nil)⟩
                    · replace h := ite_f h hb_30189
                      refine WC.skip ?_
                      refine WX.blockNormal ?_
                      exact WX.mid (G := Option Addr × Nat × Option Addr × Nat) ⟨ao_30086, cap_30087, (some ⟨b_29954, 0, none⟩), cap_29700⟩ h (.cons rfl (.cons rfl (.cons rfl (.cons rfl .nil)))) (.cons .here (.cons .here (.cons .here .nil)))
                · rintro ao_29945 cap_29946 ao_29947 cap_29948 h
                  replace h := hk_29950.symm.trans h
                  refine WC.region ?_
                  refine WL.quiet (d := 137) rfl rfl rfl (q_add rfl rfl rfl) ?_
                  refine WL.quiet (d := 107) rfl rfl rfl (q_move rfl) ?_
                  refine WL.nil ?_
                  exact WX.round (G := Nat × Int × Option Addr × Nat × Option Addr × Nat) ⟨n_29703, (i64 (v_29701 + 1)), ao_29945, cap_29946, ao_29947, cap_29948⟩ h (Nat.lt_succ_self _) (.cons rfl (.cons rfl (.cons rfl (.cons rfl .nil)))) (.cons .here (.cons .here (.cons .here .nil)))
              · replace h := ite_f h hb_29705
                refine WC.exit ?_
                refine WX.thenExit ?_
                refine WX.thenExit ?_
                refine WX.blockHit ?_
                exact WX.mid (G := Unit) () h .nil (.cons .here .nil)
            · rintro  h
              replace h := hk_29205.symm.trans h
              refine WC.seq ?_
              obtain ⟨x_30190, hx_30191, h⟩ := bind_elim h
              refine WC.region ?_
              refine WL.enter1 (dd := 138) rfl rfl rfl (run_call (l := []) Try.call18 .nil) (.nil : Sel [fz []] [] [fz []]) (fun w hw => by have pz := (hz.call2 hw (.nil : Sel [fz []] [] [fz []]) .here); exact w_law02_awake (Z := _)   (r := x_30190) w pz  hx_30191) ?_
              rintro Zn_30194 _
              refine WL.merge .here .here ?_
              refine WL.quiet (d := 2) rfl rfl rfl (q_assign rfl) ?_
              refine WL.nil ?_
              refine WX.then ?_
              refine WC.ret ?_
              obtain rfl := Option.some.inj h
              refine WX.bpRet Try.results4 (.tmp rfl .nil) (fun w hw => ?_)
              exact ⟨([] ++ Zn_30194), ret1 rfl, trivial, hw.sub (.cons .here .nil)⟩
end Go.Proofs.Ytbihfglmcjkdhaa
