/- A part of this claim's proof: models of the functions that the law reaches, with the proof that the functions compute them; plain laws about the models. No conditions beyond those in each theorem's statement. -/
import Derived.Test.YtkhiiafgikioiaaW33b
namespace Go.Proofs.Ytkhiiafgikioiaa
open Go Go.RowKit Sep
set_option linter.all false
set_option maxRecDepth 30000
def m_law33_ClockFair_L4 (x_20522 : List Int) (faulty_19561 : Int) (n_19560 : Int) (lies_19562 : List Int) (k_20836 : (List Int) → Int → Int → (List (Int × Int)) → Option Bool) : Nat → (List Int) → Int → Int → Int → (List (Int × Int)) → Option Bool
  | 0, _, _, _, _, _ => none
  | n_20948 + 1, t_20940, lo_20943, hi_20944, v_20945, mp_20946 => if decide (v_20945 < ((x_20522.length : Nat) : Int)) then jp4 (fun (t_21011 : List Int) (lo_21014 : Int) (hi_21015 : Int) (mp_21016 : List (Int × Int)) => m_law33_ClockFair_L4 x_20522 faulty_19561 n_19560 lies_19562 k_20836 n_20948 t_21011 lo_21014 hi_21015 (i64 (v_20945 + 1)) mp_21016) fun k_21017 => chk ((0 : Int) ≤ v_20945) (if (decide ((bits .and .u16 (faulty_19561 / 2 ^ min (v_20945 : Int).toNat 16) 1) = 1)) && (decide (((mp_20946.length : Nat) : Int) < (Int.tmod (i64 n_19560) 8))) then jp1 (fun (t_21023 : List Int) => k_21017 t_21023 lo_20943 hi_20944 (mput mp_20946 v_20945 (i64 ((mget mp_20946 v_20945 0) + 1)))) fun k_21026 => if decide (((mp_20946.length : Nat) : Int) < ((lies_19562.length : Nat) : Int)) then chk ((0 : Int) ≤ ((mp_20946.length : Nat) : Int) ∧ ((mp_20946.length : Nat) : Int) < ((lies_19562.length : Nat) : Int)) (chk ((0 : Int) ≤ v_20945 ∧ v_20945 < ((t_20940.length : Nat) : Int)) (k_21026 (t_20940.set (v_20945 : Int).toNat (i64 (nth lies_19562 ((mp_20946.length : Nat) : Int)))))) else k_21026 t_20940 else chk ((0 : Int) ≤ v_20945 ∧ v_20945 < ((t_20940.length : Nat) : Int)) (k_21017 t_20940 (min lo_20943 (nth t_20940 v_20945)) (max hi_20944 (nth t_20940 v_20945)) mp_20946)) else k_20836 t_20940 lo_20943 hi_20944 mp_20946
theorem m_law33_ClockFair_L4_fuel {n : Nat} {x_20522 : List Int} {faulty_19561 : Int} {n_19560 : Int} {lies_19562 : List Int} {k_20836 : (List Int) → Int → Int → (List (Int × Int)) → Option Bool} {t_20940 : List Int} {lo_20943 : Int} {hi_20944 : Int} {v_20945 : Int} {mp_20946 : List (Int × Int)} {r : Bool} (h : m_law33_ClockFair_L4 x_20522 faulty_19561 n_19560 lies_19562 k_20836 n t_20940 lo_20943 hi_20944 v_20945 mp_20946 = some r) : ∃ m, n = m + 1 := by
  cases n with
  | zero => cases h
  | succ m => exact ⟨m, rfl⟩

def m_law33_ClockFair_L5 (x_21044 : List Int × Int) (t_20830 : List Int) (mp_20835 : List (Int × Int)) (k_21217 : (List (Int × Int)) → Option Bool) : Nat → (List Int) → Int → (List (Int × Int)) → Option Bool
  | 0, _, _, _ => none
  | n_21286 + 1, s_21280, v_21283, mp_21284 => if decide (v_21283 < ((x_21044.1.length : Nat) : Int)) then chk ((0 : Int) ≤ v_21283 ∧ v_21283 < ((s_21280.length : Nat) : Int)) (chk ((((decide ((nth s_21280 v_21283) < 0)) || (decide ((nth s_21280 v_21283) ≥ ((t_20830.length : Nat) : Int)))) || (decide ((mget mp_20835 (nth s_21280 v_21283) 0) = 0))) = false → ((decide (v_21283 > 0)) = true → ((0 : Int) ≤ (i64 (v_21283 - 1)) ∧ (i64 (v_21283 - 1)) < ((s_21280.length : Nat) : Int)))) (if (((decide ((nth s_21280 v_21283) < 0)) || (decide ((nth s_21280 v_21283) ≥ ((t_20830.length : Nat) : Int)))) || (decide ((mget mp_20835 (nth s_21280 v_21283) 0) = 0))) || ((decide (v_21283 > 0)) && (decide ((nth s_21280 (i64 (v_21283 - 1))) ≥ (nth s_21280 v_21283)))) then some false else m_law33_ClockFair_L5 x_21044 t_20830 mp_20835 k_21217 n_21286 s_21280 (i64 (v_21283 + 1)) (mput mp_21284 (nth s_21280 v_21283) (i64 ((mget mp_21284 (nth s_21280 v_21283) 0) + 1))))) else k_21217 mp_21284
theorem m_law33_ClockFair_L5_fuel {n : Nat} {x_21044 : List Int × Int} {t_20830 : List Int} {mp_20835 : List (Int × Int)} {k_21217 : (List (Int × Int)) → Option Bool} {s_21280 : List Int} {v_21283 : Int} {mp_21284 : List (Int × Int)} {r : Bool} (h : m_law33_ClockFair_L5 x_21044 t_20830 mp_20835 k_21217 n s_21280 v_21283 mp_21284 = some r) : ∃ m, n = m + 1 := by
  cases n with
  | zero => cases h
  | succ m => exact ⟨m, rfl⟩

def m_law33_ClockFair_L6 (t_20830 : List Int) (lo_20833 : Int) (hi_20834 : Int) (mp_21216 : List (Int × Int)) (k_21419 : Option Bool) : Nat → (List Int) → Int → Option Bool
  | 0, _, _ => none
  | n_21452 + 1, t_21447, v_21450 => if decide (v_21450 < ((t_20830.length : Nat) : Int)) then chk ((0 : Int) ≤ v_21450 ∧ v_21450 < ((t_21447.length : Nat) : Int)) (chk ((decide ((nth t_21447 v_21450) < (i64 (lo_20833 - (i64 (2 * (i64 (hi_20834 - lo_20833)))))))) = false → ((0 : Int) ≤ v_21450 ∧ v_21450 < ((t_21447.length : Nat) : Int))) (if ((decide ((nth t_21447 v_21450) < (i64 (lo_20833 - (i64 (2 * (i64 (hi_20834 - lo_20833)))))))) || (decide ((nth t_21447 v_21450) > (i64 (hi_20834 + (i64 (2 * (i64 (hi_20834 - lo_20833))))))))) && (decide ((mget mp_21216 v_21450 0) = 0)) then some false else m_law33_ClockFair_L6 t_20830 lo_20833 hi_20834 mp_21216 k_21419 n_21452 t_21447 (i64 (v_21450 + 1)))) else k_21419
theorem m_law33_ClockFair_L6_fuel {n : Nat} {t_20830 : List Int} {lo_20833 : Int} {hi_20834 : Int} {mp_21216 : List (Int × Int)} {k_21419 : Option Bool} {t_21447 : List Int} {v_21450 : Int} {r : Bool} (h : m_law33_ClockFair_L6 t_20830 lo_20833 hi_20834 mp_21216 k_21419 n t_21447 v_21450 = some r) : ∃ m, n = m + 1 := by
  cases n with
  | zero => cases h
  | succ m => exact ⟨m, rfl⟩

/-- nacellelaw33.ClockFair -/
def m_law33_ClockFair (l_19556 : List Int) (n_19560 : Int) (faulty_19561 : Int) (lies_19562 : List Int) : Option Bool :=
  (m_law33_times l_19556 (Int.tmod (i64 n_19560) 8)).bind fun x_20522 => jp4 (fun (t_20830 : List Int) (lo_20833 : Int) (hi_20834 : Int) (mp_20835 : List (Int × Int)) => (m_clock_Suspects t_20830 (Int.tmod (i64 n_19560) 8) (i64 (hi_20834 - lo_20833))).bind fun x_21044 => if decide (x_21044.2 ≠ 0) then some false else jp1 (fun (mp_21216 : List (Int × Int)) => jp0 ((m_law33_awake).bind fun x_21475 => some x_21475) fun k_21419 => m_law33_ClockFair_L6 t_20830 lo_20833 hi_20834 mp_21216 k_21419 FUEL t_20830 0) fun k_21217 => m_law33_ClockFair_L5 x_21044 t_20830 mp_20835 k_21217 FUEL x_21044.1 0 ([] : List (Int × Int))) fun k_20836 => m_law33_ClockFair_L4 x_20522 faulty_19561 n_19560 lies_19562 k_20836 FUEL x_20522 1073741824 (-1073741824) 0 ([] : List (Int × Int))

set_option maxRecDepth 20000 in
theorem w_law33_ClockFair (Z : Zp)  (ao_19557 : Option Addr) (cap_19558 : Nat) (ao_19563 : Option Addr) (cap_19564 : Nat) (l_19556 : List Int) (n_19560 : Int) (faulty_19561 : Int) (lies_19562 : List Int) (r : Bool) (w₀ : World) (hz : PZ [] w₀ Z)
    (hs_19559 : ZS Z 1 (fun r x => r = e45 x) ao_19557 cap_19558 l_19556)
    (hs_19565 : ZS Z 1 (fun r x => r = e45 x) ao_19563 cap_19564 lies_19562)
    (h : m_law33_ClockFair l_19556 n_19560 faulty_19561 lies_19562 = some r) :
    Calls Try.prog 5 #[(.slice ao_19557 l_19556.length cap_19558), (.int .u8 n_19560), (.int .u16 faulty_19561), (.slice ao_19563 lies_19562.length cap_19564)] w₀ fun e w' => e = .returned (.bool r) ∧ Hp [] w₀ w' [] := by
  unfold m_law33_ClockFair at h
  refine Calls.ofWC (vs := [(.slice ao_19557 l_19556.length cap_19558), (.int .u8 n_19560), (.int .u16 faulty_19561), (.slice ao_19563 lies_19562.length cap_19564)]) (pre := []) (env := [(0, (.slice ao_19557 l_19556.length cap_19558)), (1, (.int .u8 n_19560)), (2, (.int .u16 faulty_19561)), (3, (.slice ao_19563 lies_19562.length cap_19564))]) Try.func5 rfl Try.ntmps5 rfl (Hp.nil w₀ _) rfl ?_
  refine WC.seq ?_
  refine WC.region ?_
  refine WL.quiet (d := 8) rfl rfl rfl (q_assign rfl) ?_
  refine WL.nil ?_
  refine WX.then ?_
  refine WC.seq ?_
  refine WC.region ?_
  refine WL.quiet (d := 22) rfl rfl rfl (q_move rfl) ?_
  refine WL.quiet (d := 23) rfl rfl rfl (q_conv Try.underlying5 Try.underlying3 rfl rfl) ?_
  refine WL.quiet (d := 24) rfl rfl rfl (q_rem rfl rfl (by decide) rfl) ?_
  refine WL.quiet (d := 9) rfl rfl rfl (q_assign rfl) ?_
  refine WL.nil ?_
  refine WX.then ?_
  refine WC.seq ?_
  obtain ⟨x_20522, hx_20523, h⟩ := bind_elim h
  refine WC.region ?_
  refine WL.quiet (d := 25) rfl rfl rfl (q_move rfl) ?_
  refine WL.quiet (d := 26) rfl rfl rfl (q_move rfl) ?_
  refine WL.enter2 (dd := 27) rfl rfl rfl (run_call (l := [.tmp 25, .tmp 26]) Try.call18 (.cons rfl (.cons rfl .nil))) (.nil : Sel [] [] []) (fun w hw => by have pz := (hz.call hw (.nil : Sel [] [] [])); exact w_law33_times (Z := _) (ao_17796 := ao_19557) (cap_17797 := cap_19558) (l_17795 := l_19556) (f_17799 := (Int.tmod (i64 n_19560) 8)) (r := x_20522) w pz hs_19559 hx_20523) ?_
  rintro ao_20527 cap_20528 _
  refine WL.quiet (d := 10) rfl rfl rfl (q_assign rfl) ?_
  refine WL.nil ?_
  refine WX.then ?_
  refine WC.seq ?_
  refine WC.region ?_
  refine WL.quiet (d := 11) rfl rfl rfl (q_assign rfl) ?_
  refine WL.quiet (d := 12) rfl rfl rfl (q_assign rfl) ?_
  refine WL.nil ?_
  refine WX.then ?_
  refine WC.seq ?_
  refine WC.region ?_
  refine WL.new (dd := 28) rfl rfl rfl (e_makeMap (Value.int .i64) (Value.int .i64)) ?_
  intro b_20531 _
  refine WL.quiet (d := 13) rfl rfl rfl (q_assign rfl) ?_
  refine WL.nil ?_
  refine WX.then ?_
  obtain ⟨k_20836, hk_20837, h⟩ := jp4_elim h
  refine WC.seqMid6 (fun (t_20830 : List Int) (lo_20833 : Int) (hi_20834 : Int) (mp_20835 : List (Int × Int)) (ao_20831 : Option Addr) (cap_20832 : Nat) => (k_20836 t_20830 lo_20833 hi_20834 mp_20835 = some r)) (fun (t_20830 : List Int) (lo_20833 : Int) (hi_20834 : Int) (mp_20835 : List (Int × Int)) (ao_20831 : Option Addr) (cap_20832 : Nat) => [(9, (.int .i64 (Int.tmod (i64 n_19560) 8))), (10, (.slice ao_20831 t_20830.length cap_20832)), (11, (.int .i64 lo_20833)), (12, (.int .i64 hi_20834)), (13, (.map (some b_20531)))]) (fun (t_20830 : List Int) (lo_20833 : Int) (hi_20834 : Int) (mp_20835 : List (Int × Int)) (ao_20831 : Option Addr) (cap_20832 : Nat) => [row (.slice ao_20831 t_20830.length cap_20832) 3 1 (t_20830.flatMap e3), mapA b_20531 (Value.int .i64) (Value.int .i64) mp_20835]) ?_ ?_
  · skip
    refine WC.seq ?_
    refine WC.region ?_
    refine WL.quiet (d := 29) rfl rfl rfl (q_move rfl) ?_
    refine WL.quiet (d := 30) rfl rfl rfl (q_len Try.underlying22 rfl) ?_
    refine WL.quiet (d := 31) rfl rfl rfl (q_move rfl) ?_
    refine WL.nil ?_
    refine WX.then ?_
    refine WC.block ?_
    refine WC.loop8 (fun (n_20947 : Nat) (t_20940 : List Int) (lo_20943 : Int) (hi_20944 : Int) (v_20945 : Int) (mp_20946 : List (Int × Int)) (ao_20941 : Option Addr) (cap_20942 : Nat) => (m_law33_ClockFair_L4 x_20522 faulty_19561 n_19560 lies_19562 k_20836 n_20947 t_20940 lo_20943 hi_20944 v_20945 mp_20946 = some r)) (fun (n_20947 : Nat) (t_20940 : List Int) (lo_20943 : Int) (hi_20944 : Int) (v_20945 : Int) (mp_20946 : List (Int × Int)) (ao_20941 : Option Addr) (cap_20942 : Nat) => [(2, (.int .u16 faulty_19561)), (3, (.slice ao_19563 lies_19562.length cap_19564)), (9, (.int .i64 (Int.tmod (i64 n_19560) 8))), (10, (.slice ao_20941 t_20940.length cap_20942)), (11, (.int .i64 lo_20943)), (12, (.int .i64 hi_20944)), (13, (.map (some b_20531))), (30, (.int .i64 ((x_20522.length : Nat) : Int))), (31, (.int .i64 v_20945))]) (fun (n_20947 : Nat) (t_20940 : List Int) (lo_20943 : Int) (hi_20944 : Int) (v_20945 : Int) (mp_20946 : List (Int × Int)) (ao_20941 : Option Addr) (cap_20942 : Nat) => [row (.slice ao_20941 t_20940.length cap_20942) 3 1 (t_20940.flatMap e3), mapA b_20531 (Value.int .i64) (Value.int .i64) mp_20946]) (fun (n_20947 : Nat) (t_20940 : List Int) (lo_20943 : Int) (hi_20944 : Int) (v_20945 : Int) (mp_20946 : List (Int × Int)) (ao_20941 : Option Addr) (cap_20942 : Nat) => n_20947) ⟨FUEL, x_20522, 1073741824, (-1073741824), 0, ([] : List (Int × Int)), ao_20527, cap_20528⟩ h (.cons rfl (.cons rfl (.cons rfl (.cons rfl (.cons rfl (.cons rfl (.cons rfl (.cons rfl (.cons rfl .nil))))))))) (.cons (.there .here) (.cons .here .nil)) ?_
    rintro n_20947 t_20940 lo_20943 hi_20944 v_20945 mp_20946 ao_20941 cap_20942 h
    obtain ⟨n_20948, rfl⟩ := m_law33_ClockFair_L4_fuel h
    rw [m_law33_ClockFair_L4] at h
    refine WC.seq ?_
    refine WC.region ?_
    refine WL.quiet (d := 32) rfl rfl rfl (q_lss rfl rfl) ?_
    refine WL.nil ?_
    refine WX.then ?_
    refine WC.seq ?_
    refine WC.cond rfl (fun hb_20950 => ?_) (fun hb_20950 => ?_)
    · replace h := ite_t h hb_20950
      refine WC.skip ?_
      refine WX.then ?_
      obtain ⟨k_21017, hk_21018, h⟩ := jp4_elim h
      refine WC.seqMid6 (fun (t_21011 : List Int) (lo_21014 : Int) (hi_21015 : Int) (mp_21016 : List (Int × Int)) (ao_21012 : Option Addr) (cap_21013 : Nat) => (k_21017 t_21011 lo_21014 hi_21015 mp_21016 = some r)) (fun (t_21011 : List Int) (lo_21014 : Int) (hi_21015 : Int) (mp_21016 : List (Int × Int)) (ao_21012 : Option Addr) (cap_21013 : Nat) => [(2, (.int .u16 faulty_19561)), (3, (.slice ao_19563 lies_19562.length cap_19564)), (9, (.int .i64 (Int.tmod (i64 n_19560) 8))), (10, (.slice ao_21012 t_21011.length cap_21013)), (11, (.int .i64 lo_21014)), (12, (.int .i64 hi_21015)), (13, (.map (some b_20531))), (30, (.int .i64 ((x_20522.length : Nat) : Int))), (31, (.int .i64 v_20945))]) (fun (t_21011 : List Int) (lo_21014 : Int) (hi_21015 : Int) (mp_21016 : List (Int × Int)) (ao_21012 : Option Addr) (cap_21013 : Nat) => [row (.slice ao_21012 t_21011.length cap_21013) 3 1 (t_21011.flatMap e3), mapA b_20531 (Value.int .i64) (Value.int .i64) mp_21016]) ?_ ?_
      · skip
        refine WC.block ?_
        refine WC.seq ?_
        refine WC.region ?_
        refine WL.quiet (d := 33) rfl rfl rfl (q_move rfl) ?_
        refine WL.quiet (d := 14) rfl rfl rfl (q_assign rfl) ?_
        refine WL.nil ?_
        refine WX.then ?_
        refine WC.seq ?_
        refine WC.seq ?_
        obtain ⟨c_21019, h⟩ := chk_elim h
        refine WC.region ?_
        refine WL.quiet (d := 34) rfl rfl rfl (q_move rfl) ?_
        refine WL.quiet (d := 35) rfl rfl rfl (q_move rfl) ?_
        refine WL.quiet (d := 36) rfl rfl rfl (q_shr rfl rfl c_21019 rfl) ?_
        refine WL.quiet (d := 37) rfl rfl rfl (q_and rfl rfl rfl) ?_
        refine WL.quiet (d := 38) rfl rfl rfl (q_eql rfl rfl) ?_
        refine WL.quiet (d := 39) rfl rfl rfl (q_move rfl) ?_
        refine WL.cut0 True [(2, (.int .u16 faulty_19561)), (3, (.slice ao_19563 lies_19562.length cap_19564)), (9, (.int .i64 (Int.tmod (i64 n_19560) 8))), (10, (.slice ao_20941 t_20940.length cap_20942)), (11, (.int .i64 lo_20943)), (12, (.int .i64 hi_20944)), (13, (.map (some b_20531))), (30, (.int .i64 ((x_20522.length : Nat) : Int))), (31, (.int .i64 v_20945)), (14, (.int .i64 v_20945)), (44, (.bool ((decide ((bits .and .u16 (faulty_19561 / 2 ^ min (v_20945 : Int).toNat 16) 1) = 1)) && (decide (((mp_20946.length : Nat) : Int) < (Int.tmod (i64 n_19560) 8))))))] [row (.slice ao_20941 t_20940.length cap_20942) 3 1 (t_20940.flatMap e3), mapA b_20531 (Value.int .i64) (Value.int .i64) mp_20946] 5 ?_ (fun _ => ?_)
        · rcases Bool.eq_false_or_eq_true (decide ((bits .and .u16 (faulty_19561 / 2 ^ min (v_20945 : Int).toNat 16) 1) = 1)) with hb' | hb'
          · have hg_21020 := hb'; clear hb'
            refine WL.pin (i := 39) rfl hg_21020 ?_
            refine WL.quiet (d := 40) rfl rfl rfl (q_move rfl) ?_
            refine WL.quiet (d := 41) rfl rfl rfl (q_lenM Try.underlying47 rfl (.there .here)) ?_
            refine WL.quiet (d := 42) rfl rfl rfl (q_move rfl) ?_
            refine WL.quiet (d := 43) rfl rfl rfl (q_lss rfl rfl) ?_
            refine WL.quiet (d := 44) rfl rfl rfl (q_pickT rfl rfl) ?_
            exact WL.cutEnd () trivial (.cons rfl (.cons rfl (.cons rfl (.cons rfl (.cons rfl (.cons rfl (.cons rfl (.cons rfl (.cons rfl (.cons rfl (.cons (some_bool (and_r hg_21020)) .nil))))))))))) (.cons .here (.cons .here .nil))
          · have hg_21021 := hb'; clear hb'
            refine WL.pin (i := 39) rfl hg_21021 ?_
            refine WL.skip rfl rfl rfl ?_
            refine WL.skip rfl rfl rfl ?_
            refine WL.skip rfl rfl rfl ?_
            refine WL.skip rfl rfl rfl ?_
            refine WL.quiet (d := 44) rfl rfl rfl (q_pickF rfl rfl) ?_
            exact WL.cutEnd () trivial (.cons rfl (.cons rfl (.cons rfl (.cons rfl (.cons rfl (.cons rfl (.cons rfl (.cons rfl (.cons rfl (.cons rfl (.cons (some_bool (and_l hg_21021)) .nil))))))))))) (.cons .here (.cons .here .nil))
        · skip
          refine WL.nil ?_
          refine WX.then ?_
          refine WC.cond rfl (fun hb_21022 => ?_) (fun hb_21022 => ?_)
          · replace h := ite_t h hb_21022
            obtain ⟨k_21026, hk_21027, h⟩ := jp1_elim h
            refine WC.seqMid3 (fun (t_21023 : List Int) (ao_21024 : Option Addr) (cap_21025 : Nat) => (k_21026 t_21023 = some r)) (fun (t_21023 : List Int) (ao_21024 : Option Addr) (cap_21025 : Nat) => [(2, (.int .u16 faulty_19561)), (3, (.slice ao_19563 lies_19562.length cap_19564)), (9, (.int .i64 (Int.tmod (i64 n_19560) 8))), (10, (.slice ao_21024 t_21023.length cap_21025)), (11, (.int .i64 lo_20943)), (12, (.int .i64 hi_20944)), (13, (.map (some b_20531))), (14, (.int .i64 v_20945)), (30, (.int .i64 ((x_20522.length : Nat) : Int))), (31, (.int .i64 v_20945))]) (fun (t_21023 : List Int) (ao_21024 : Option Addr) (cap_21025 : Nat) => [row (.slice ao_21024 t_21023.length cap_21025) 3 1 (t_21023.flatMap e3), mapA b_20531 (Value.int .i64) (Value.int .i64) mp_20946]) ?_ ?_
            · skip
              refine WC.seq ?_
              refine WC.region ?_
              refine WL.quiet (d := 45) rfl rfl rfl (q_move rfl) ?_
              refine WL.quiet (d := 46) rfl rfl rfl (q_lenM Try.underlying47 rfl (.there .here)) ?_
              refine WL.quiet (d := 47) rfl rfl rfl (q_move rfl) ?_
              refine WL.quiet (d := 48) rfl rfl rfl (q_len Try.underlying42 rfl) ?_
              refine WL.quiet (d := 49) rfl rfl rfl (q_lss rfl rfl) ?_
              refine WL.nil ?_
              refine WX.then ?_
              refine WC.cond rfl (fun hb_21028 => ?_) (fun hb_21028 => ?_)
              · replace h := ite_t h hb_21028
                obtain ⟨c_21029, h⟩ := chk_elim h
                obtain ⟨c_21034, h⟩ := chk_elim h
                refine WC.region ?_
                refine WL.quiet (d := 50) rfl rfl rfl (q_move rfl) ?_
                refine WL.quiet (d := 51) rfl rfl rfl (q_move rfl) ?_
                refine WL.quiet (d := 52) rfl rfl rfl (q_move rfl) ?_
                refine WL.quiet (d := 53) rfl rfl rfl (q_move rfl) ?_
                refine WL.quiet (d := 54) rfl rfl rfl (q_lenM Try.underlying47 rfl (.there .here)) ?_
                refine WL.znth (dd := 55) rfl rfl (Z := Z) (Pr := (fun r x => r = e45 x)) elT_42 rfl rfl hs_19565 c_21029 ?_
                rintro A_21036 r_21037 hA_21038 hl_21039 rfl
                refine WL.quiet (d := 56) rfl rfl rfl (q_load1 oneT_45 rfl (rd_z hz.pv hA_21038 rfl)) ?_
                refine WL.quiet (d := 57) rfl rfl rfl (q_conv Try.underlying45 Try.underlying3 rfl rfl) ?_
                refine WL.know (fun w hw => Hp.expose .here hw (by intro hz'; have := c_21034; rw [hz'] at this; omega)) ?_
                rintro ⟨b_21040, rfl⟩
                refine WL.quiet (d := 58) rfl rfl rfl (q_indexAddr elT_22 rfl rfl c_21034.1 c_21034.2 rowAdd) ?_
                refine WL.eff0 rfl rfl (e_rowStore (vs := [(.int .i64 (i64 (nth lies_19562 ((mp_20946.length : Nat) : Int))))]) (ds := (t_20940.set (v_20945 : Int).toNat (i64 (nth lies_19562 ((mp_20946.length : Nat) : Int)))).flatMap e3) sizT_3 rfl rfl rfl rfl (oc_cons rfl oc_nil) .here (flat_fit (enc := e3) (sz := 1) (k := 0) (fun _ => rfl) c_21034.1 c_21034.2 (by decide)) (flat_put (enc := e3) (l := t_20940) (sz := 1) (vs := [(.int .i64 (i64 (nth lies_19562 ((mp_20946.length : Nat) : Int))))]) (y := i64 (nth lies_19562 ((mp_20946.length : Nat) : Int))) (k := 0) (fun _ => rfl) c_21034.1 c_21034.2 rfl (Nat.le_of_ble_eq_true rfl))) ?_
                refine WL.relen .here (u := (.slice (some ⟨b_21040, 0, none⟩) ((t_20940.set (v_20945 : Int).toNat (i64 (nth lies_19562 ((mp_20946.length : Nat) : Int)))).length) cap_20942)) (slen (List.length_set).symm) ?_
                refine WL.repin (i := 10) rfl (u := (.slice (some ⟨b_21040, 0, none⟩) ((t_20940.set (v_20945 : Int).toNat (i64 (nth lies_19562 ((mp_20946.length : Nat) : Int)))).length) cap_20942)) (slen (List.length_set).symm) ?_
                refine WL.nil ?_
                exact WX.mid (G := List Int × Option Addr × Nat) ⟨(t_20940.set (v_20945 : Int).toNat (i64 (nth lies_19562 ((mp_20946.length : Nat) : Int)))), (some ⟨b_21040, 0, none⟩), cap_20942⟩ h (.cons rfl (.cons rfl (.cons rfl (.cons rfl (.cons rfl (.cons rfl (.cons rfl (.cons rfl (.cons rfl (.cons rfl .nil)))))))))) (.cons .here (.cons .here .nil))
              · replace h := ite_f h hb_21028
                refine WC.skip ?_
                exact WX.mid (G := List Int × Option Addr × Nat) ⟨t_20940, ao_20941, cap_20942⟩ h (.cons rfl (.cons rfl (.cons rfl (.cons rfl (.cons rfl (.cons rfl (.cons rfl (.cons rfl (.cons rfl (.cons rfl .nil)))))))))) (.cons .here (.cons .here .nil))
            · rintro t_21023 ao_21024 cap_21025 h
              replace h := (hk_21027 t_21023).symm.trans h
              refine WC.seq ?_
              refine WC.region ?_
              refine WL.quiet (d := 59) rfl rfl rfl (q_move rfl) ?_
              refine WL.quiet (d := 60) rfl rfl rfl (q_move rfl) ?_
              refine WL.quiet (d := 61) rfl rfl rfl (q_lookup (k := v_20945) (dflt := (0 : Int)) keyT_3 Try.underlying47 zeroT_3 rfl rfl rfl (.there .here)) ?_
              refine WL.quiet (d := 62) rfl rfl rfl (q_add rfl rfl rfl) ?_
              refine WL.eff0 rfl rfl (e_mapUpdate (k := v_20945) (v := i64 ((mget mp_20946 v_20945 0) + 1)) keyT_3 Try.underlying47 rfl rfl rfl rfl (.there .here)) ?_
              refine WL.nil ?_
              refine WX.then ?_
              refine WC.exit ?_
              refine WX.thenExit ?_
              refine WX.blockHit ?_
              exact WX.mid (G := List Int × Int × Int × (List (Int × Int)) × Option Addr × Nat) ⟨t_21023, lo_20943, hi_20944, (mput mp_20946 v_20945 (i64 ((mget mp_20946 v_20945 0) + 1))), ao_21024, cap_21025⟩ h (.cons rfl (.cons rfl (.cons rfl (.cons rfl (.cons rfl (.cons rfl (.cons rfl (.cons rfl (.cons rfl .nil))))))))) (.cons (.there .here) (.cons .here .nil))
          · replace h := ite_f h hb_21022
            refine WC.skip ?_
            refine WX.then ?_
            obtain ⟨c_21041, h⟩ := chk_elim h
            refine WC.draw (fun i => [].contains i) [] rfl ?_
            refine WD.pure (i := 0) (d := 63) (by kernel_rfl) rfl (by kernel_rfl) (by kernel_rfl) rfl rfl rfl (fun _ => q_move rfl) ?_
            refine WD.pure (i := 1) (d := 64) (by kernel_rfl) rfl (by kernel_rfl) (by kernel_rfl) rfl rfl rfl (fun _ => q_move rfl) ?_
            refine WD.pure (i := 2) (d := 65) (by kernel_rfl) rfl (by kernel_rfl) (by kernel_rfl) rfl rfl rfl (fun _ => q_move rfl) ?_
            refine WD.know (fun w hw => Hp.expose .here hw (by intro hz'; have := c_21041; rw [hz'] at this; omega)) ?_
            rintro ⟨b_21043, rfl⟩
            refine WD.pure (i := 3) (d := 66) (by kernel_rfl) rfl (by kernel_rfl) (by kernel_rfl) rfl rfl rfl (fun _ => q_indexAddr elT_22 rfl rfl c_21041.1 c_21041.2 rowAdd) ?_
            refine WD.quiet (i := 4) (d := 67) (by kernel_rfl) rfl (by kernel_rfl) (by kernel_rfl) rfl rfl rfl (q_load1 oneT_3 rfl (rd_row .here ((flat_rd (enc := e3) (l := t_20940) (i := v_20945) (sz := 1) (fun _ => rfl) c_21041.1 c_21041.2) 0 _ rfl))) ?_
            refine WD.pure (i := 5) (d := 68) (by kernel_rfl) rfl (by kernel_rfl) (by kernel_rfl) rfl rfl rfl (fun _ => q_min rfl rfl rfl) ?_
            refine WD.pure (i := 6) (d := 69) (by kernel_rfl) rfl (by kernel_rfl) (by kernel_rfl) rfl rfl rfl (fun _ => q_move rfl) ?_
            refine WD.pure (i := 7) (d := 70) (by kernel_rfl) rfl (by kernel_rfl) (by kernel_rfl) rfl rfl rfl (fun _ => q_move rfl) ?_
            refine WD.pure (i := 8) (d := 71) (by kernel_rfl) rfl (by kernel_rfl) (by kernel_rfl) rfl rfl rfl (fun _ => q_move rfl) ?_
            refine WD.pure (i := 9) (d := 72) (by kernel_rfl) rfl (by kernel_rfl) (by kernel_rfl) rfl rfl rfl (fun _ => q_indexAddr elT_22 rfl rfl c_21041.1 c_21041.2 rowAdd) ?_
            refine WD.quiet (i := 10) (d := 73) (by kernel_rfl) rfl (by kernel_rfl) (by kernel_rfl) rfl rfl rfl (q_load1 oneT_3 rfl (rd_row .here ((flat_rd (enc := e3) (l := t_20940) (i := v_20945) (sz := 1) (fun _ => rfl) c_21041.1 c_21041.2) 0 _ rfl))) ?_
            refine WD.pure (i := 11) (d := 74) (by kernel_rfl) rfl (by kernel_rfl) (by kernel_rfl) rfl rfl rfl (fun _ => q_max rfl rfl rfl) ?_
            refine WD.pure (i := 12) (d := 11) (by kernel_rfl) rfl (by kernel_rfl) (by kernel_rfl) rfl rfl rfl (fun _ => q_assign rfl) ?_
            refine WD.pure (i := 13) (d := 12) (by kernel_rfl) rfl (by kernel_rfl) (by kernel_rfl) rfl rfl rfl (fun _ => q_assign rfl) ?_
            refine WD.done (by kernel_rfl) ?_
            refine WX.blockNormal ?_
            exact WX.mid (G := List Int × Int × Int × (List (Int × Int)) × Option Addr × Nat) ⟨t_20940, (min lo_20943 (nth t_20940 v_20945)), (max hi_20944 (nth t_20940 v_20945)), mp_20946, (some ⟨b_21043, 0, none⟩), cap_20942⟩ h (.cons rfl (.cons rfl (.cons rfl (.cons rfl (.cons rfl (.cons rfl (.cons rfl (.cons rfl (.cons rfl .nil))))))))) (.cons .here (.cons .here .nil))
      · rintro t_21011 lo_21014 hi_21015 mp_21016 ao_21012 cap_21013 h
        replace h := (hk_21018 t_21011 lo_21014 hi_21015 mp_21016).symm.trans h
        refine WC.region ?_
        refine WL.quiet (d := 75) rfl rfl rfl (q_add rfl rfl rfl) ?_
        refine WL.quiet (d := 31) rfl rfl rfl (q_move rfl) ?_
        refine WL.nil ?_
        exact WX.round (G := Nat × List Int × Int × Int × Int × (List (Int × Int)) × Option Addr × Nat) ⟨n_20948, t_21011, lo_21014, hi_21015, (i64 (v_20945 + 1)), mp_21016, ao_21012, cap_21013⟩ h (Nat.lt_succ_self _) (.cons rfl (.cons rfl (.cons rfl (.cons rfl (.cons rfl (.cons rfl (.cons rfl (.cons rfl (.cons rfl .nil))))))))) (.cons .here (.cons .here .nil))
    · replace h := ite_f h hb_20950
      refine WC.exit ?_
      refine WX.thenExit ?_
      refine WX.thenExit ?_
      refine WX.blockHit ?_
      exact WX.mid (G := List Int × Int × Int × (List (Int × Int)) × Option Addr × Nat) ⟨t_20940, lo_20943, hi_20944, mp_20946, ao_20941, cap_20942⟩ h (.cons rfl (.cons rfl (.cons rfl (.cons rfl (.cons rfl .nil))))) (.cons .here (.cons .here .nil))
  · rintro t_20830 lo_20833 hi_20834 mp_20835 ao_20831 cap_20832 h
    replace h := (hk_20837 t_20830 lo_20833 hi_20834 mp_20835).symm.trans h
    refine WC.seq ?_
    refine WC.region ?_
    refine WL.quiet (d := 76) rfl rfl rfl (q_move rfl) ?_
    refine WL.quiet (d := 77) rfl rfl rfl (q_move rfl) ?_
    refine WL.quiet (d := 78) rfl rfl rfl (q_sub rfl rfl rfl) ?_
    refine WL.quiet (d := 15) rfl rfl rfl (q_assign rfl) ?_
    refine WL.nil ?_
    refine WX.then ?_
    refine WC.seq ?_
    obtain ⟨x_21044, hx_21045, h⟩ := bind_elim h
    refine WC.region ?_
    refine WL.quiet (d := 80) rfl rfl rfl (q_move rfl) ?_
    refine WL.quiet (d := 81) rfl rfl rfl (q_move rfl) ?_
    refine WL.quiet (d := 82) rfl rfl rfl (q_move rfl) ?_
    refine WL.enter2 (dd := 83) rfl rfl rfl (run_call (l := [.tmp 80, .tmp 81, .tmp 82]) Try.call13 (.cons rfl (.cons rfl (.cons rfl .nil)))) (.nil : Sel [row (.slice ao_20831 t_20830.length cap_20832) 3 1 (t_20830.flatMap e3), mapA b_20531 (Value.int .i64) (Value.int .i64) mp_20835] [] [row (.slice ao_20831 t_20830.length cap_20832) 3 1 (t_20830.flatMap e3), mapA b_20531 (Value.int .i64) (Value.int .i64) mp_20835]) (fun w hw => by have pz := (hz.call hw (.nil : Sel [row (.slice ao_20831 t_20830.length cap_20832) 3 1 (t_20830.flatMap e3), mapA b_20531 (Value.int .i64) (Value.int .i64) mp_20835] [] [row (.slice ao_20831 t_20830.length cap_20832) 3 1 (t_20830.flatMap e3), mapA b_20531 (Value.int .i64) (Value.int .i64) mp_20835])).lend hw (.nil : Sel [row (.slice ao_20831 t_20830.length cap_20832) 3 1 (t_20830.flatMap e3), mapA b_20531 (Value.int .i64) (Value.int .i64) mp_20835] [] [row (.slice ao_20831 t_20830.length cap_20832) 3 1 (t_20830.flatMap e3), mapA b_20531 (Value.int .i64) (Value.int .i64) mp_20835]) (B := [row (.slice ao_20831 t_20830.length cap_20832) 3 1 (t_20830.flatMap e3)]) (fun _ hx' => ((.cons .here .nil) : Sel _ [row (.slice ao_20831 t_20830.length cap_20832) 3 1 (t_20830.flatMap e3)] _).mem hx'); exact w_clock_Suspects (Z := _) (ao_897 := ao_20831) (cap_898 := cap_20832) (l_896 := t_20830) (f_900 := (Int.tmod (i64 n_19560) 8)) (width_901 := (i64 (hi_20834 - lo_20833))) (r := x_21044) w pz (ZA.row (hw.lent (.nil : Sel [row (.slice ao_20831 t_20830.length cap_20832) 3 1 (t_20830.flatMap e3), mapA b_20531 (Value.int .i64) (Value.int .i64) mp_20835] [] [row (.slice ao_20831 t_20830.length cap_20832) 3 1 (t_20830.flatMap e3), mapA b_20531 (Value.int .i64) (Value.int .i64) mp_20835]) (B := [row (.slice ao_20831 t_20830.length cap_20832) 3 1 (t_20830.flatMap e3)]) (fun _ hx' => ((.cons .here .nil) : Sel _ [row (.slice ao_20831 t_20830.length cap_20832) 3 1 (t_20830.flatMap e3)] _).mem hx') (.head _) _) (RR.flat (enc := e3) (fun _ => rfl) _) ⟨w, pz.1⟩) hx_21045) ?_
    rintro ao_21049 cap_21050 _
    refine WL.quiet (d := 79) rfl rfl rfl (q_move rfl) ?_
    refine WL.quiet (d := 84) rfl rfl rfl (q_extract rfl rfl) ?_
    refine WL.quiet (d := 85) rfl rfl rfl (q_extract rfl rfl) ?_
    refine WL.quiet (d := 16) rfl rfl rfl (q_assign rfl) ?_
    refine WL.quiet (d := 17) rfl rfl rfl (q_assign rfl) ?_
    refine WL.nil ?_
    refine WX.then ?_
    refine WC.seq ?_
    refine WC.seq ?_
    refine WC.region ?_
    refine WL.quiet (d := 86) rfl rfl rfl (q_move rfl) ?_
    refine WL.quiet (d := 87) rfl rfl rfl (q_neq rfl rfl) ?_
    refine WL.nil ?_
    refine WX.then ?_
    refine WC.cond rfl (fun hb_21053 => ?_) (fun hb_21053 => ?_)
    · replace h := ite_t h hb_21053
      refine WC.seq ?_
      refine WC.region ?_
      refine WL.quiet (d := 8) rfl rfl rfl (q_assign rfl) ?_
      refine WL.nil ?_
      refine WX.then ?_
      refine WC.ret ?_
      refine WX.thenRet ?_
      obtain rfl := Option.some.inj h
      refine WX.bpRet Try.results5 (.tmp rfl .nil) (fun w hw => ?_)
      exact ⟨ret1 rfl, hw.sub .nil⟩
    · replace h := ite_f h hb_21053
      refine WC.skip ?_
      refine WX.then ?_
      refine WC.seq ?_
      refine WC.region ?_
      refine WL.new (dd := 88) rfl rfl rfl (e_makeMap (Value.int .i64) (Value.int .i64)) ?_
      intro b_21055 _
      refine WL.quiet (d := 18) rfl rfl rfl (q_assign rfl) ?_
      refine WL.nil ?_
      refine WX.then ?_
      obtain ⟨k_21217, hk_21218, h⟩ := jp1_elim h
      refine WC.seqMid1 (fun (mp_21216 : List (Int × Int)) => (k_21217 mp_21216 = some r)) (fun (mp_21216 : List (Int × Int)) => [(10, (.slice ao_20831 t_20830.length cap_20832)), (11, (.int .i64 lo_20833)), (12, (.int .i64 hi_20834)), (15, (.int .i64 (i64 (hi_20834 - lo_20833)))), (18, (.map (some b_21055)))]) (fun (mp_21216 : List (Int × Int)) => [row (.slice ao_20831 t_20830.length cap_20832) 3 1 (t_20830.flatMap e3), mapA b_21055 (Value.int .i64) (Value.int .i64) mp_21216]) ?_ ?_
      · skip
        refine WC.seq ?_
        refine WC.region ?_
        refine WL.quiet (d := 89) rfl rfl rfl (q_move rfl) ?_
        refine WL.quiet (d := 90) rfl rfl rfl (q_len Try.underlying22 rfl) ?_
        refine WL.quiet (d := 91) rfl rfl rfl (q_move rfl) ?_
        refine WL.nil ?_
        refine WX.then ?_
        refine WC.block ?_
        refine WC.loop6 (fun (n_21285 : Nat) (s_21280 : List Int) (v_21283 : Int) (mp_21284 : List (Int × Int)) (ao_21281 : Option Addr) (cap_21282 : Nat) => (m_law33_ClockFair_L5 x_21044 t_20830 mp_20835 k_21217 n_21285 s_21280 v_21283 mp_21284 = some r)) (fun (n_21285 : Nat) (s_21280 : List Int) (v_21283 : Int) (mp_21284 : List (Int × Int)) (ao_21281 : Option Addr) (cap_21282 : Nat) => [(10, (.slice ao_20831 t_20830.length cap_20832)), (11, (.int .i64 lo_20833)), (12, (.int .i64 hi_20834)), (13, (.map (some b_20531))), (15, (.int .i64 (i64 (hi_20834 - lo_20833)))), (16, (.slice ao_21281 s_21280.length cap_21282)), (18, (.map (some b_21055))), (89, (.slice ao_21281 s_21280.length cap_21282)), (90, (.int .i64 ((x_21044.1.length : Nat) : Int))), (91, (.int .i64 v_21283))]) (fun (n_21285 : Nat) (s_21280 : List Int) (v_21283 : Int) (mp_21284 : List (Int × Int)) (ao_21281 : Option Addr) (cap_21282 : Nat) => [row (.slice ao_20831 t_20830.length cap_20832) 3 1 (t_20830.flatMap e3), row (.slice ao_21281 s_21280.length cap_21282) 3 1 (s_21280.flatMap e3), mapA b_20531 (Value.int .i64) (Value.int .i64) mp_20835, mapA b_21055 (Value.int .i64) (Value.int .i64) mp_21284]) (fun (n_21285 : Nat) (s_21280 : List Int) (v_21283 : Int) (mp_21284 : List (Int × Int)) (ao_21281 : Option Addr) (cap_21282 : Nat) => n_21285) ⟨FUEL, x_21044.1, 0, ([] : List (Int × Int)), ao_21049, cap_21050⟩ h (.cons rfl (.cons rfl (.cons rfl (.cons rfl (.cons rfl (.cons rfl (.cons rfl (.cons rfl (.cons rfl (.cons rfl .nil)))))))))) (.cons (.there (.there .here)) (.cons (.there .here) (.cons (.there .here) (.cons .here .nil)))) ?_
        rintro n_21285 s_21280 v_21283 mp_21284 ao_21281 cap_21282 h
        obtain ⟨n_21286, rfl⟩ := m_law33_ClockFair_L5_fuel h
        rw [m_law33_ClockFair_L5] at h
        refine WC.seq ?_
        refine WC.region ?_
        refine WL.quiet (d := 92) rfl rfl rfl (q_lss rfl rfl) ?_
        refine WL.nil ?_
        refine WX.then ?_
        refine WC.seq ?_
        refine WC.cond rfl (fun hb_21288 => ?_) (fun hb_21288 => ?_)
        · replace h := ite_t h hb_21288
          refine WC.skip ?_
          refine WX.then ?_
          refine WC.seq ?_
          refine WC.block ?_
          refine WC.seq ?_
          obtain ⟨c_21316, h⟩ := chk_elim h
          refine WC.region ?_
          refine WL.quiet (d := 93) rfl rfl rfl (q_move rfl) ?_
          refine WL.know (fun w hw => Hp.expose (.there .here) hw (by intro hz'; have := c_21316; rw [hz'] at this; omega)) ?_
          rintro ⟨b_21318, rfl⟩
          refine WL.quiet (d := 94) rfl rfl rfl (q_indexAddr elT_22 rfl rfl c_21316.1 c_21316.2 rowAdd) ?_
          refine WL.quiet (d := 95) rfl rfl rfl (q_load1 oneT_3 rfl (rd_row (.there .here) ((flat_rd (enc := e3) (l := s_21280) (i := v_21283) (sz := 1) (fun _ => rfl) c_21316.1 c_21316.2) 0 _ rfl))) ?_
          refine WL.quiet (d := 19) rfl rfl rfl (q_assign rfl) ?_
          refine WL.quiet (d := 20) rfl rfl rfl (q_assign rfl) ?_
          refine WL.nil ?_
          refine WX.then ?_
          refine WC.seq ?_
          refine WC.seq ?_
          obtain ⟨c_21333, h⟩ := chk_elim h
          refine WC.region ?_
          refine WL.quiet (d := 96) rfl rfl rfl (q_move rfl) ?_
          refine WL.quiet (d := 97) rfl rfl rfl (q_lss rfl rfl) ?_
          refine WL.quiet (d := 98) rfl rfl rfl (q_move rfl) ?_
          refine WL.cut0 True [(10, (.slice ao_20831 t_20830.length cap_20832)), (11, (.int .i64 lo_20833)), (12, (.int .i64 hi_20834)), (13, (.map (some b_20531))), (15, (.int .i64 (i64 (hi_20834 - lo_20833)))), (16, (.slice (some ⟨b_21318, 0, none⟩) s_21280.length cap_21282)), (18, (.map (some b_21055))), (89, (.slice (some ⟨b_21318, 0, none⟩) s_21280.length cap_21282)), (90, (.int .i64 ((x_21044.1.length : Nat) : Int))), (91, (.int .i64 v_21283)), (19, (.int .i64 v_21283)), (20, (.int .i64 (nth s_21280 v_21283))), (103, (.bool ((decide ((nth s_21280 v_21283) < 0)) || (decide ((nth s_21280 v_21283) ≥ ((t_20830.length : Nat) : Int))))))] [row (.slice ao_20831 t_20830.length cap_20832) 3 1 (t_20830.flatMap e3), row (.slice (some ⟨b_21318, 0, none⟩) s_21280.length cap_21282) 3 1 (s_21280.flatMap e3), mapA b_20531 (Value.int .i64) (Value.int .i64) mp_20835, mapA b_21055 (Value.int .i64) (Value.int .i64) mp_21284] 5 ?_ (fun _ => ?_)
          · rcases Bool.eq_false_or_eq_true (decide ((nth s_21280 v_21283) < 0)) with hb' | hb'
            · have hg_21334 := hb'; clear hb'
              refine WL.pin (i := 98) rfl hg_21334 ?_
              refine WL.skip rfl rfl rfl ?_
              refine WL.skip rfl rfl rfl ?_
              refine WL.skip rfl rfl rfl ?_
              refine WL.skip rfl rfl rfl ?_
              refine WL.quiet (d := 103) rfl rfl rfl (q_pickT rfl rfl) ?_
              exact WL.cutEnd () trivial (.cons rfl (.cons rfl (.cons rfl (.cons rfl (.cons rfl (.cons rfl (.cons rfl (.cons rfl (.cons rfl (.cons rfl (.cons rfl (.cons rfl (.cons (some_bool (or_l hg_21334)) .nil))))))))))))) (.cons .here (.cons .here (.cons .here (.cons .here .nil))))
            · have hg_21335 := hb'; clear hb'
              refine WL.pin (i := 98) rfl hg_21335 ?_
              refine WL.quiet (d := 99) rfl rfl rfl (q_move rfl) ?_
              refine WL.quiet (d := 100) rfl rfl rfl (q_move rfl) ?_
              refine WL.quiet (d := 101) rfl rfl rfl (q_len Try.underlying22 rfl) ?_
              refine WL.quiet (d := 102) rfl rfl rfl (q_geq rfl rfl) ?_
              refine WL.quiet (d := 103) rfl rfl rfl (q_pickF rfl rfl) ?_
              exact WL.cutEnd () trivial (.cons rfl (.cons rfl (.cons rfl (.cons rfl (.cons rfl (.cons rfl (.cons rfl (.cons rfl (.cons rfl (.cons rfl (.cons rfl (.cons rfl (.cons (some_bool (or_r hg_21335)) .nil))))))))))))) (.cons .here (.cons .here (.cons .here (.cons .here .nil))))
          · skip
            refine WL.quiet (d := 104) rfl rfl rfl (q_move rfl) ?_
            refine WL.cut0 True [(10, (.slice ao_20831 t_20830.length cap_20832)), (11, (.int .i64 lo_20833)), (12, (.int .i64 hi_20834)), (13, (.map (some b_20531))), (15, (.int .i64 (i64 (hi_20834 - lo_20833)))), (16, (.slice (some ⟨b_21318, 0, none⟩) s_21280.length cap_21282)), (18, (.map (some b_21055))), (89, (.slice (some ⟨b_21318, 0, none⟩) s_21280.length cap_21282)), (90, (.int .i64 ((x_21044.1.length : Nat) : Int))), (91, (.int .i64 v_21283)), (19, (.int .i64 v_21283)), (20, (.int .i64 (nth s_21280 v_21283))), (109, (.bool (((decide ((nth s_21280 v_21283) < 0)) || (decide ((nth s_21280 v_21283) ≥ ((t_20830.length : Nat) : Int)))) || (decide ((mget mp_20835 (nth s_21280 v_21283) 0) = 0)))))] [row (.slice ao_20831 t_20830.length cap_20832) 3 1 (t_20830.flatMap e3), row (.slice (some ⟨b_21318, 0, none⟩) s_21280.length cap_21282) 3 1 (s_21280.flatMap e3), mapA b_20531 (Value.int .i64) (Value.int .i64) mp_20835, mapA b_21055 (Value.int .i64) (Value.int .i64) mp_21284] 5 ?_ (fun _ => ?_)
            · rcases Bool.eq_false_or_eq_true ((decide ((nth s_21280 v_21283) < 0)) || (decide ((nth s_21280 v_21283) ≥ ((t_20830.length : Nat) : Int)))) with hb' | hb'
              · have hg_21336 := hb'; clear hb'
                refine WL.pin (i := 104) rfl hg_21336 ?_
                refine WL.skip rfl rfl rfl ?_
                refine WL.skip rfl rfl rfl ?_
                refine WL.skip rfl rfl rfl ?_
                refine WL.skip rfl rfl rfl ?_
                refine WL.quiet (d := 109) rfl rfl rfl (q_pickT rfl rfl) ?_
                exact WL.cutEnd () trivial (.cons rfl (.cons rfl (.cons rfl (.cons rfl (.cons rfl (.cons rfl (.cons rfl (.cons rfl (.cons rfl (.cons rfl (.cons rfl (.cons rfl (.cons (some_bool (or_l hg_21336)) .nil))))))))))))) (.cons .here (.cons .here (.cons .here (.cons .here .nil))))
              · have hg_21337 := hb'; clear hb'
                refine WL.pin (i := 104) rfl hg_21337 ?_
                refine WL.quiet (d := 105) rfl rfl rfl (q_move rfl) ?_
                refine WL.quiet (d := 106) rfl rfl rfl (q_move rfl) ?_
                refine WL.quiet (d := 107) rfl rfl rfl (q_lookup (k := (nth s_21280 v_21283)) (dflt := (0 : Int)) keyT_3 Try.underlying47 zeroT_3 rfl rfl rfl (.there (.there .here))) ?_
                refine WL.quiet (d := 108) rfl rfl rfl (q_eql rfl rfl) ?_
                refine WL.quiet (d := 109) rfl rfl rfl (q_pickF rfl rfl) ?_
                exact WL.cutEnd () trivial (.cons rfl (.cons rfl (.cons rfl (.cons rfl (.cons rfl (.cons rfl (.cons rfl (.cons rfl (.cons rfl (.cons rfl (.cons rfl (.cons rfl (.cons (some_bool (or_r hg_21337)) .nil))))))))))))) (.cons .here (.cons .here (.cons .here (.cons .here .nil))))
            · skip
              refine WL.quiet (d := 110) rfl rfl rfl (q_move rfl) ?_
              refine WL.cut0 True [(10, (.slice ao_20831 t_20830.length cap_20832)), (11, (.int .i64 lo_20833)), (12, (.int .i64 hi_20834)), (13, (.map (some b_20531))), (15, (.int .i64 (i64 (hi_20834 - lo_20833)))), (16, (.slice (some ⟨b_21318, 0, none⟩) s_21280.length cap_21282)), (18, (.map (some b_21055))), (89, (.slice (some ⟨b_21318, 0, none⟩) s_21280.length cap_21282)), (90, (.int .i64 ((x_21044.1.length : Nat) : Int))), (91, (.int .i64 v_21283)), (20, (.int .i64 (nth s_21280 v_21283))), (122, (.bool ((((decide ((nth s_21280 v_21283) < 0)) || (decide ((nth s_21280 v_21283) ≥ ((t_20830.length : Nat) : Int)))) || (decide ((mget mp_20835 (nth s_21280 v_21283) 0) = 0))) || ((decide (v_21283 > 0)) && (decide ((nth s_21280 (i64 (v_21283 - 1))) ≥ (nth s_21280 v_21283)))))))] [row (.slice ao_20831 t_20830.length cap_20832) 3 1 (t_20830.flatMap e3), row (.slice (some ⟨b_21318, 0, none⟩) s_21280.length cap_21282) 3 1 (s_21280.flatMap e3), mapA b_20531 (Value.int .i64) (Value.int .i64) mp_20835, mapA b_21055 (Value.int .i64) (Value.int .i64) mp_21284] 12 ?_ (fun _ => ?_)
              · rcases Bool.eq_false_or_eq_true (((decide ((nth s_21280 v_21283) < 0)) || (decide ((nth s_21280 v_21283) ≥ ((t_20830.length : Nat) : Int)))) || (decide ((mget mp_20835 (nth s_21280 v_21283) 0) = 0))) with hb' | hb'
                · have hg_21338 := hb'; clear hb'
                  refine WL.pin (i := 110) rfl hg_21338 ?_
                  refine WL.skip rfl rfl rfl ?_
                  refine WL.skip rfl rfl rfl ?_
                  refine WL.skip rfl rfl rfl ?_
                  refine WL.skip rfl rfl rfl ?_
                  refine WL.skip rfl rfl rfl ?_
                  refine WL.skip rfl rfl rfl ?_
                  refine WL.skip rfl rfl rfl ?_
                  refine WL.skip rfl rfl rfl ?_
                  refine WL.skip rfl rfl rfl ?_
                  refine WL.skip rfl rfl rfl ?_
                  refine WL.skip rfl rfl rfl ?_
                  refine WL.quiet (d := 122) rfl rfl rfl (q_pickT rfl rfl) ?_
                  exact WL.cutEnd () trivial (.cons rfl (.cons rfl (.cons rfl (.cons rfl (.cons rfl (.cons rfl (.cons rfl (.cons rfl (.cons rfl (.cons rfl (.cons rfl (.cons (some_bool (or_l hg_21338)) .nil)))))))))))) (.cons .here (.cons .here (.cons .here (.cons .here .nil))))
                · have hg_21339 := hb'; clear hb'
                  have c_21332 := c_21333 hg_21339
                  refine WL.pin (i := 110) rfl hg_21339 ?_
                  refine WL.quiet (d := 111) rfl rfl rfl (q_move rfl) ?_
                  refine WL.quiet (d := 112) rfl rfl rfl (q_gtr rfl rfl) ?_
                  refine WL.quiet (d := 113) rfl rfl rfl (q_move rfl) ?_
                  refine WL.cut0 True [(10, (.slice ao_20831 t_20830.length cap_20832)), (11, (.int .i64 lo_20833)), (12, (.int .i64 hi_20834)), (13, (.map (some b_20531))), (15, (.int .i64 (i64 (hi_20834 - lo_20833)))), (16, (.slice (some ⟨b_21318, 0, none⟩) s_21280.length cap_21282)), (18, (.map (some b_21055))), (89, (.slice (some ⟨b_21318, 0, none⟩) s_21280.length cap_21282)), (90, (.int .i64 ((x_21044.1.length : Nat) : Int))), (91, (.int .i64 v_21283)), (20, (.int .i64 (nth s_21280 v_21283))), (110, (.bool false)), (121, (.bool ((decide (v_21283 > 0)) && (decide ((nth s_21280 (i64 (v_21283 - 1))) ≥ (nth s_21280 v_21283))))))] [row (.slice ao_20831 t_20830.length cap_20832) 3 1 (t_20830.flatMap e3), row (.slice (some ⟨b_21318, 0, none⟩) s_21280.length cap_21282) 3 1 (s_21280.flatMap e3), mapA b_20531 (Value.int .i64) (Value.int .i64) mp_20835, mapA b_21055 (Value.int .i64) (Value.int .i64) mp_21284] 8 ?_ (fun _ => ?_)
                  · rcases Bool.eq_false_or_eq_true (decide (v_21283 > 0)) with hb' | hb'
                    · have hg_21340 := hb'; clear hb'
                      have c_21331 := c_21332 hg_21340
                      refine WL.pin (i := 113) rfl hg_21340 ?_
                      refine WL.quiet (d := 114) rfl rfl rfl (q_move rfl) ?_
                      refine WL.quiet (d := 115) rfl rfl rfl (q_move rfl) ?_
                      refine WL.quiet (d := 116) rfl rfl rfl (q_sub rfl rfl rfl) ?_
                      refine WL.quiet (d := 117) rfl rfl rfl (q_indexAddr elT_22 rfl rfl c_21331.1 c_21331.2 rowAdd) ?_
                      refine WL.quiet (d := 118) rfl rfl rfl (q_load1 oneT_3 rfl (rd_row (.there .here) ((flat_rd (enc := e3) (l := s_21280) (i := i64 (v_21283 - 1)) (sz := 1) (fun _ => rfl) c_21331.1 c_21331.2) 0 _ rfl))) ?_
                      refine WL.quiet (d := 119) rfl rfl rfl (q_move rfl) ?_
                      refine WL.quiet (d := 120) rfl rfl rfl (q_geq rfl rfl) ?_
                      refine WL.quiet (d := 121) rfl rfl rfl (q_pickT rfl rfl) ?_
                      exact WL.cutEnd () trivial (.cons rfl (.cons rfl (.cons rfl (.cons rfl (.cons rfl (.cons rfl (.cons rfl (.cons rfl (.cons rfl (.cons rfl (.cons rfl (.cons rfl (.cons (some_bool (and_r hg_21340)) .nil))))))))))))) (.cons .here (.cons .here (.cons .here (.cons .here .nil))))
                    · have hg_21341 := hb'; clear hb'
                      refine WL.pin (i := 113) rfl hg_21341 ?_
                      refine WL.skip rfl rfl rfl ?_
                      refine WL.skip rfl rfl rfl ?_
                      refine WL.skip rfl rfl rfl ?_
                      refine WL.skip rfl rfl rfl ?_
                      refine WL.skip rfl rfl rfl ?_
                      refine WL.skip rfl rfl rfl ?_
                      refine WL.skip rfl rfl rfl ?_
                      refine WL.quiet (d := 121) rfl rfl rfl (q_pickF rfl rfl) ?_
                      exact WL.cutEnd () trivial (.cons rfl (.cons rfl (.cons rfl (.cons rfl (.cons rfl (.cons rfl (.cons rfl (.cons rfl (.cons rfl (.cons rfl (.cons rfl (.cons rfl (.cons (some_bool (and_l hg_21341)) .nil))))))))))))) (.cons .here (.cons .here (.cons .here (.cons .here .nil))))
                  · skip
                    refine WL.quiet (d := 122) rfl rfl rfl (q_pickF rfl rfl) ?_
                    exact WL.cutEnd () trivial (.cons rfl (.cons rfl (.cons rfl (.cons rfl (.cons rfl (.cons rfl (.cons rfl (.cons rfl (.cons rfl (.cons rfl (.cons rfl (.cons (some_bool (or_r hg_21339)) .nil)))))))))))) (.cons .here (.cons .here (.cons .here (.cons .here .nil))))
              · skip
                refine WL.nil ?_
                refine WX.then ?_
                refine WC.cond rfl (fun hb_21342 => ?_) (fun hb_21342 => ?_)
                · replace h := ite_t h hb_21342
                  refine WC.seq ?_
                  refine WC.region ?_
                  refine WL.quiet (d := 8) rfl rfl rfl (q_assign rfl) ?_
                  refine WL.nil ?_
                  refine WX.then ?_
                  refine WC.ret ?_
                  refine WX.thenRet ?_
                  refine WX.blockRet ?_
                  refine WX.thenRet ?_
                  refine WX.thenRet ?_
                  refine WX.blockRet ?_
                  refine WX.thenRet ?_
                  obtain rfl := Option.some.inj h
                  refine WX.bpRet Try.results5 (.tmp rfl .nil) (fun w hw => ?_)
                  exact ⟨ret1 rfl, hw.sub .nil⟩
                · replace h := ite_f h hb_21342
                  refine WC.skip ?_
                  refine WX.then ?_
                  refine WC.region ?_
                  refine WL.quiet (d := 123) rfl rfl rfl (q_move rfl) ?_
                  refine WL.quiet (d := 124) rfl rfl rfl (q_move rfl) ?_
                  refine WL.quiet (d := 125) rfl rfl rfl (q_lookup (k := (nth s_21280 v_21283)) (dflt := (0 : Int)) keyT_3 Try.underlying47 zeroT_3 rfl rfl rfl (.there (.there (.there .here)))) ?_
                  refine WL.quiet (d := 126) rfl rfl rfl (q_add rfl rfl rfl) ?_
                  refine WL.eff0 rfl rfl (e_mapUpdate (k := (nth s_21280 v_21283)) (v := i64 ((mget mp_21284 (nth s_21280 v_21283) 0) + 1)) keyT_3 Try.underlying47 rfl rfl rfl rfl (.there (.there (.there .here)))) ?_
                  refine WL.nil ?_
                  refine WX.blockNormal ?_
                  refine WX.then ?_
                  refine WC.region ?_
                  refine WL.quiet (d := 127) rfl rfl rfl (q_add rfl rfl rfl) ?_
                  refine WL.quiet (d := 91) rfl rfl rfl (q_move rfl) ?_
                  refine WL.nil ?_
                  exact WX.round (G := Nat × List Int × Int × (List (Int × Int)) × Option Addr × Nat) ⟨n_21286, s_21280, (i64 (v_21283 + 1)), (mput mp_21284 (nth s_21280 v_21283) (i64 ((mget mp_21284 (nth s_21280 v_21283) 0) + 1))), (some ⟨b_21318, 0, none⟩), cap_21282⟩ h (Nat.lt_succ_self _) (.cons rfl (.cons rfl (.cons rfl (.cons rfl (.cons rfl (.cons rfl (.cons rfl (.cons rfl (.cons rfl (.cons rfl .nil)))))))))) (.cons (.there .here) (.cons (.there .here) (.cons (.there .here) (.cons .here .nil))))
        · replace h := ite_f h hb_21288
          refine WC.exit ?_
          refine WX.thenExit ?_
          refine WX.thenExit ?_
          refine WX.blockHit ?_
          exact WX.mid (G := (List (Int × Int))) mp_21284 h (.cons rfl (.cons rfl (.cons rfl (.cons rfl (.cons rfl .nil))))) (.cons .here (.cons (.there (.there .here)) .nil))
      · rintro mp_21216 h
        replace h := (hk_21218 mp_21216).symm.trans h
        obtain ⟨k_21419, hk_21420, h⟩ := jp0_elim h
        refine WC.seqMid0 ((k_21419 = some r)) ([]) ([]) ?_ ?_
        · skip
          refine WC.seq ?_
          refine WC.region ?_
          refine WL.quiet (d := 128) rfl rfl rfl (q_move rfl) ?_
          refine WL.quiet (d := 129) rfl rfl rfl (q_len Try.underlying22 rfl) ?_
          refine WL.quiet (d := 130) rfl rfl rfl (q_move rfl) ?_
          refine WL.nil ?_
          refine WX.then ?_
          refine WC.block ?_
          refine WC.loop5 (fun (n_21451 : Nat) (t_21447 : List Int) (v_21450 : Int) (ao_21448 : Option Addr) (cap_21449 : Nat) => (m_law33_ClockFair_L6 t_20830 lo_20833 hi_20834 mp_21216 k_21419 n_21451 t_21447 v_21450 = some r)) (fun (n_21451 : Nat) (t_21447 : List Int) (v_21450 : Int) (ao_21448 : Option Addr) (cap_21449 : Nat) => [(10, (.slice ao_21448 t_21447.length cap_21449)), (11, (.int .i64 lo_20833)), (12, (.int .i64 hi_20834)), (15, (.int .i64 (i64 (hi_20834 - lo_20833)))), (18, (.map (some b_21055))), (129, (.int .i64 ((t_20830.length : Nat) : Int))), (130, (.int .i64 v_21450))]) (fun (n_21451 : Nat) (t_21447 : List Int) (v_21450 : Int) (ao_21448 : Option Addr) (cap_21449 : Nat) => [row (.slice ao_21448 t_21447.length cap_21449) 3 1 (t_21447.flatMap e3), mapA b_21055 (Value.int .i64) (Value.int .i64) mp_21216]) (fun (n_21451 : Nat) (t_21447 : List Int) (v_21450 : Int) (ao_21448 : Option Addr) (cap_21449 : Nat) => n_21451) ⟨FUEL, t_20830, 0, ao_20831, cap_20832⟩ h (.cons rfl (.cons rfl (.cons rfl (.cons rfl (.cons rfl (.cons rfl (.cons rfl .nil))))))) (.cons .here (.cons .here .nil)) ?_
          rintro n_21451 t_21447 v_21450 ao_21448 cap_21449 h
          obtain ⟨n_21452, rfl⟩ := m_law33_ClockFair_L6_fuel h
          rw [m_law33_ClockFair_L6] at h
          refine WC.seq ?_
          refine WC.region ?_
          refine WL.quiet (d := 131) rfl rfl rfl (q_lss rfl rfl) ?_
          refine WL.nil ?_
          refine WX.then ?_
          refine WC.seq ?_
          refine WC.cond rfl (fun hb_21454 => ?_) (fun hb_21454 => ?_)
          · replace h := ite_t h hb_21454
            refine WC.skip ?_
            refine WX.then ?_
            refine WC.seq ?_
            refine WC.block ?_
            refine WC.seq ?_
            refine WC.region ?_
            refine WL.quiet (d := 132) rfl rfl rfl (q_move rfl) ?_
            refine WL.quiet (d := 21) rfl rfl rfl (q_assign rfl) ?_
            refine WL.nil ?_
            refine WX.then ?_
            refine WC.seq ?_
            obtain ⟨c_21465, h⟩ := chk_elim h
            obtain ⟨c_21468, h⟩ := chk_elim h
            refine WC.region ?_
            refine WL.quiet (d := 133) rfl rfl rfl (q_move rfl) ?_
            refine WL.quiet (d := 134) rfl rfl rfl (q_move rfl) ?_
            refine WL.know (fun w hw => Hp.expose .here hw (by intro hz'; have := c_21465; rw [hz'] at this; omega)) ?_
            rintro ⟨b_21469, rfl⟩
            refine WL.quiet (d := 135) rfl rfl rfl (q_indexAddr elT_22 rfl rfl c_21465.1 c_21465.2 rowAdd) ?_
            refine WL.quiet (d := 136) rfl rfl rfl (q_load1 oneT_3 rfl (rd_row .here ((flat_rd (enc := e3) (l := t_21447) (i := v_21450) (sz := 1) (fun _ => rfl) c_21465.1 c_21465.2) 0 _ rfl))) ?_
            refine WL.quiet (d := 137) rfl rfl rfl (q_move rfl) ?_
            refine WL.quiet (d := 138) rfl rfl rfl (q_move rfl) ?_
            refine WL.quiet (d := 139) rfl rfl rfl (q_mul rfl rfl rfl) ?_
            refine WL.quiet (d := 140) rfl rfl rfl (q_sub rfl rfl rfl) ?_
            refine WL.quiet (d := 141) rfl rfl rfl (q_lss rfl rfl) ?_
            refine WL.quiet (d := 142) rfl rfl rfl (q_move rfl) ?_
            refine WL.cut0 True [(10, (.slice (some ⟨b_21469, 0, none⟩) t_21447.length cap_21449)), (11, (.int .i64 lo_20833)), (12, (.int .i64 hi_20834)), (15, (.int .i64 (i64 (hi_20834 - lo_20833)))), (18, (.map (some b_21055))), (129, (.int .i64 ((t_20830.length : Nat) : Int))), (130, (.int .i64 v_21450)), (21, (.int .i64 v_21450)), (152, (.bool ((decide ((nth t_21447 v_21450) < (i64 (lo_20833 - (i64 (2 * (i64 (hi_20834 - lo_20833)))))))) || (decide ((nth t_21447 v_21450) > (i64 (hi_20834 + (i64 (2 * (i64 (hi_20834 - lo_20833)))))))))))] [row (.slice (some ⟨b_21469, 0, none⟩) t_21447.length cap_21449) 3 1 (t_21447.flatMap e3), mapA b_21055 (Value.int .i64) (Value.int .i64) mp_21216] 10 ?_ (fun _ => ?_)
            · rcases Bool.eq_false_or_eq_true (decide ((nth t_21447 v_21450) < (i64 (lo_20833 - (i64 (2 * (i64 (hi_20834 - lo_20833)))))))) with hb' | hb'
              · have hg_21470 := hb'; clear hb'
                refine WL.pin (i := 142) rfl hg_21470 ?_
                refine WL.skip rfl rfl rfl ?_
                refine WL.skip rfl rfl rfl ?_
                refine WL.skip rfl rfl rfl ?_
                refine WL.skip rfl rfl rfl ?_
                refine WL.skip rfl rfl rfl ?_
                refine WL.skip rfl rfl rfl ?_
                refine WL.skip rfl rfl rfl ?_
                refine WL.skip rfl rfl rfl ?_
                refine WL.skip rfl rfl rfl ?_
                refine WL.quiet (d := 152) rfl rfl rfl (q_pickT rfl rfl) ?_
                exact WL.cutEnd () trivial (.cons rfl (.cons rfl (.cons rfl (.cons rfl (.cons rfl (.cons rfl (.cons rfl (.cons rfl (.cons (some_bool (or_l hg_21470)) .nil))))))))) (.cons .here (.cons .here .nil))
              · have hg_21471 := hb'; clear hb'
                have c_21467 := c_21468 hg_21471
                refine WL.pin (i := 142) rfl hg_21471 ?_
                refine WL.quiet (d := 143) rfl rfl rfl (q_move rfl) ?_
                refine WL.quiet (d := 144) rfl rfl rfl (q_move rfl) ?_
                refine WL.quiet (d := 145) rfl rfl rfl (q_indexAddr elT_22 rfl rfl c_21467.1 c_21467.2 rowAdd) ?_
                refine WL.quiet (d := 146) rfl rfl rfl (q_load1 oneT_3 rfl (rd_row .here ((flat_rd (enc := e3) (l := t_21447) (i := v_21450) (sz := 1) (fun _ => rfl) c_21467.1 c_21467.2) 0 _ rfl))) ?_
                refine WL.quiet (d := 147) rfl rfl rfl (q_move rfl) ?_
                refine WL.quiet (d := 148) rfl rfl rfl (q_move rfl) ?_
                refine WL.quiet (d := 149) rfl rfl rfl (q_mul rfl rfl rfl) ?_
                refine WL.quiet (d := 150) rfl rfl rfl (q_add rfl rfl rfl) ?_
                refine WL.quiet (d := 151) rfl rfl rfl (q_gtr rfl rfl) ?_
                refine WL.quiet (d := 152) rfl rfl rfl (q_pickF rfl rfl) ?_
                exact WL.cutEnd () trivial (.cons rfl (.cons rfl (.cons rfl (.cons rfl (.cons rfl (.cons rfl (.cons rfl (.cons rfl (.cons (some_bool (or_r hg_21471)) .nil))))))))) (.cons .here (.cons .here .nil))
            · skip
              refine WL.quiet (d := 153) rfl rfl rfl (q_move rfl) ?_
              refine WL.cut0 True [(10, (.slice (some ⟨b_21469, 0, none⟩) t_21447.length cap_21449)), (11, (.int .i64 lo_20833)), (12, (.int .i64 hi_20834)), (15, (.int .i64 (i64 (hi_20834 - lo_20833)))), (18, (.map (some b_21055))), (129, (.int .i64 ((t_20830.length : Nat) : Int))), (130, (.int .i64 v_21450)), (158, (.bool (((decide ((nth t_21447 v_21450) < (i64 (lo_20833 - (i64 (2 * (i64 (hi_20834 - lo_20833)))))))) || (decide ((nth t_21447 v_21450) > (i64 (hi_20834 + (i64 (2 * (i64 (hi_20834 - lo_20833))))))))) && (decide ((mget mp_21216 v_21450 0) = 0)))))] [row (.slice (some ⟨b_21469, 0, none⟩) t_21447.length cap_21449) 3 1 (t_21447.flatMap e3), mapA b_21055 (Value.int .i64) (Value.int .i64) mp_21216] 5 ?_ (fun _ => ?_)
              · rcases Bool.eq_false_or_eq_true ((decide ((nth t_21447 v_21450) < (i64 (lo_20833 - (i64 (2 * (i64 (hi_20834 - lo_20833)))))))) || (decide ((nth t_21447 v_21450) > (i64 (hi_20834 + (i64 (2 * (i64 (hi_20834 - lo_20833))))))))) with hb' | hb'
                · have hg_21472 := hb'; clear hb'
                  refine WL.pin (i := 153) rfl hg_21472 ?_
                  refine WL.quiet (d := 154) rfl rfl rfl (q_move rfl) ?_
                  refine WL.quiet (d := 155) rfl rfl rfl (q_move rfl) ?_
                  refine WL.quiet (d := 156) rfl rfl rfl (q_lookup (k := v_21450) (dflt := (0 : Int)) keyT_3 Try.underlying47 zeroT_3 rfl rfl rfl (.there .here)) ?_
                  refine WL.quiet (d := 157) rfl rfl rfl (q_eql rfl rfl) ?_
                  refine WL.quiet (d := 158) rfl rfl rfl (q_pickT rfl rfl) ?_
                  exact WL.cutEnd () trivial (.cons rfl (.cons rfl (.cons rfl (.cons rfl (.cons rfl (.cons rfl (.cons rfl (.cons (some_bool (and_r hg_21472)) .nil)))))))) (.cons .here (.cons .here .nil))
                · have hg_21473 := hb'; clear hb'
                  refine WL.pin (i := 153) rfl hg_21473 ?_
                  refine WL.skip rfl rfl rfl ?_
                  refine WL.skip rfl rfl rfl ?_
                  refine WL.skip rfl rfl rfl ?_
                  refine WL.skip rfl rfl rfl ?_
                  refine WL.quiet (d := 158) rfl rfl rfl (q_pickF rfl rfl) ?_
                  exact WL.cutEnd () trivial (.cons rfl (.cons rfl (.cons rfl (.cons rfl (.cons rfl (.cons rfl (.cons rfl (.cons (some_bool (and_l hg_21473)) .nil)))))))) (.cons .here (.cons .here .nil))
              · skip
                refine WL.nil ?_
                refine WX.then ?_
                refine WC.cond rfl (fun hb_21474 => ?_) (fun hb_21474 => ?_)
                · replace h := ite_t h hb_21474
                  refine WC.seq ?_
                  refine WC.region ?_
                  refine WL.quiet (d := 8) rfl rfl rfl (q_assign rfl) ?_
                  refine WL.nil ?_
                  refine WX.then ?_
                  refine WC.ret ?_
                  refine WX.blockRet ?_
                  refine WX.thenRet ?_
                  refine WX.thenRet ?_
                  refine WX.blockRet ?_
                  refine WX.thenRet ?_
                  obtain rfl := Option.some.inj h
                  refine WX.bpRet Try.results5 (.tmp rfl .nil) (fun w hw => ?_)
                  exact ⟨ret1 rfl, hw.sub .nil⟩
                · replace h := ite_f h hb_21474
                  refine WC.skip ?_
                  refine WX.blockNormal ?_
                  refine WX.then ?_
                  refine WC.region ?_
                  refine WL.quiet (d := 159) rfl rfl rfl (q_add rfl rfl rfl) ?_
                  refine WL.quiet (d := 130) rfl rfl rfl (q_move rfl) ?_
                  refine WL.nil ?_
                  exact WX.round (G := Nat × List Int × Int × Option Addr × Nat) ⟨n_21452, t_21447, (i64 (v_21450 + 1)), (some ⟨b_21469, 0, none⟩), cap_21449⟩ h (Nat.lt_succ_self _) (.cons rfl (.cons rfl (.cons rfl (.cons rfl (.cons rfl (.cons rfl (.cons rfl .nil))))))) (.cons .here (.cons .here .nil))
          · replace h := ite_f h hb_21454
            refine WC.exit ?_
            refine WX.thenExit ?_
            refine WX.thenExit ?_
            refine WX.blockHit ?_
            exact WX.mid (G := Unit) () h .nil .nil
        · rintro  h
          replace h := hk_21420.symm.trans h
          refine WC.seq ?_
          obtain ⟨x_21475, hx_21476, h⟩ := bind_elim h
          refine WC.region ?_
          refine WL.callD (dd := 160) rfl rfl rfl (run_call (l := []) Try.call10 .nil) (.nil : Sel [] [] []) (fun w hw => by have pz := (hz.call hw (.nil : Sel [] [] [])); exact w_law33_awake (Z := _)   (r := x_21475) w pz  hx_21476) ?_
          refine WL.quiet (d := 8) rfl rfl rfl (q_assign rfl) ?_
          refine WL.nil ?_
          refine WX.then ?_
          refine WC.ret ?_
          obtain rfl := Option.some.inj h
          refine WX.bpRet Try.results5 (.tmp rfl .nil) (fun w hw => ?_)
          exact ⟨ret1 rfl, hw.sub .nil⟩
end Go.Proofs.Ytkhiiafgikioiaa
