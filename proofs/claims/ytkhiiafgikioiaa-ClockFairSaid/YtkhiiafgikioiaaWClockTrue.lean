/- A part of this claim's proof: models of the functions that the law reaches, with the proof that the functions compute them; plain laws about the models. No conditions beyond those in each theorem's statement. -/
import Derived.Test.YtkhiiafgikioiaaW33b
namespace Go.Proofs.Ytkhiiafgikioiaa
open Go Go.RowKit Sep
set_option linter.all false
set_option maxRecDepth 30000
def m_law33_ClockTrue_L2 (x_19023 : List Int) (faulty_17790 : Int) (n_17789 : Int) (lies_17791 : List Int) (k_19334 : (List Int) → Int → Int → Option Bool) : Nat → (List Int) → Int → Int → Int → Int → Option Bool
  | 0, _, _, _, _, _ => none
  | n_19446 + 1, t_19438, lo_19441, hi_19442, used_19443, v_19444 => if decide (v_19444 < ((x_19023.length : Nat) : Int)) then jp4 (fun (t_19509 : List Int) (lo_19512 : Int) (hi_19513 : Int) (used_19514 : Int) => m_law33_ClockTrue_L2 x_19023 faulty_17790 n_17789 lies_17791 k_19334 n_19446 t_19509 lo_19512 hi_19513 used_19514 (i64 (v_19444 + 1))) fun k_19515 => chk ((0 : Int) ≤ v_19444) (if (decide ((bits .and .u16 (faulty_17790 / 2 ^ min (v_19444 : Int).toNat 16) 1) = 1)) && (decide (used_19443 < (Int.tmod (i64 n_17789) 8))) then jp1 (fun (t_19521 : List Int) => k_19515 t_19521 lo_19441 hi_19442 (i64 (used_19443 + 1))) fun k_19524 => if decide (used_19443 < ((lies_17791.length : Nat) : Int)) then chk ((0 : Int) ≤ used_19443 ∧ used_19443 < ((lies_17791.length : Nat) : Int)) (chk ((0 : Int) ≤ v_19444 ∧ v_19444 < ((t_19438.length : Nat) : Int)) (k_19524 (t_19438.set (v_19444 : Int).toNat (i64 ((i64 (nth lies_17791 used_19443)) * 30000))))) else k_19524 t_19438 else chk ((0 : Int) ≤ v_19444 ∧ v_19444 < ((t_19438.length : Nat) : Int)) (k_19515 t_19438 (min lo_19441 (nth t_19438 v_19444)) (max hi_19442 (nth t_19438 v_19444)) used_19443)) else k_19334 t_19438 lo_19441 hi_19442
theorem m_law33_ClockTrue_L2_fuel {n : Nat} {x_19023 : List Int} {faulty_17790 : Int} {n_17789 : Int} {lies_17791 : List Int} {k_19334 : (List Int) → Int → Int → Option Bool} {t_19438 : List Int} {lo_19441 : Int} {hi_19442 : Int} {used_19443 : Int} {v_19444 : Int} {r : Bool} (h : m_law33_ClockTrue_L2 x_19023 faulty_17790 n_17789 lies_17791 k_19334 n t_19438 lo_19441 hi_19442 used_19443 v_19444 = some r) : ∃ m, n = m + 1 := by
  cases n with
  | zero => cases h
  | succ m => exact ⟨m, rfl⟩

/-- nacellelaw33.ClockTrue -/
def m_law33_ClockTrue (l_17785 : List Int) (n_17789 : Int) (faulty_17790 : Int) (lies_17791 : List Int) : Option Bool :=
  (m_law33_times l_17785 (Int.tmod (i64 n_17789) 8)).bind fun x_19023 => jp3 (fun (t_19329 : List Int) (lo_19332 : Int) (hi_19333 : Int) => (m_clock_Midpoint t_19329 (Int.tmod (i64 n_17789) 8)).bind fun x_19542 => (if ((decide (x_19542.2 = 0)) && (decide (lo_19332 ≤ x_19542.1))) && (decide (x_19542.1 ≤ hi_19333)) then (m_law33_awake).bind fun x_19544 => some x_19544 else some false).bind fun b_19546 => some b_19546) fun k_19334 => m_law33_ClockTrue_L2 x_19023 faulty_17790 n_17789 lies_17791 k_19334 FUEL x_19023 1073741824 (-1073741824) 0 0

set_option maxRecDepth 20000 in
theorem w_law33_ClockTrue (Z : Zp)  (ao_17786 : Option Addr) (cap_17787 : Nat) (ao_17792 : Option Addr) (cap_17793 : Nat) (l_17785 : List Int) (n_17789 : Int) (faulty_17790 : Int) (lies_17791 : List Int) (r : Bool) (w₀ : World) (hz : PZ [] w₀ Z)
    (hs_17788 : ZS Z 1 (fun r x => r = e45 x) ao_17786 cap_17787 l_17785)
    (hs_17794 : ZS Z 1 (fun r x => r = e45 x) ao_17792 cap_17793 lies_17791)
    (h : m_law33_ClockTrue l_17785 n_17789 faulty_17790 lies_17791 = some r) :
    Calls Try.prog 4 #[(.slice ao_17786 l_17785.length cap_17787), (.int .u8 n_17789), (.int .u16 faulty_17790), (.slice ao_17792 lies_17791.length cap_17793)] w₀ fun e w' => e = .returned (.bool r) ∧ Hp [] w₀ w' [] := by
  unfold m_law33_ClockTrue at h
  refine Calls.ofWC (vs := [(.slice ao_17786 l_17785.length cap_17787), (.int .u8 n_17789), (.int .u16 faulty_17790), (.slice ao_17792 lies_17791.length cap_17793)]) (pre := []) (env := [(0, (.slice ao_17786 l_17785.length cap_17787)), (1, (.int .u8 n_17789)), (2, (.int .u16 faulty_17790)), (3, (.slice ao_17792 lies_17791.length cap_17793))]) Try.func4 rfl Try.ntmps4 rfl (Hp.nil w₀ _) rfl ?_
  refine WC.seq ?_
  refine WC.region ?_
  refine WL.quiet (d := 8) rfl rfl rfl (q_assign rfl) ?_
  refine WL.nil ?_
  refine WX.then ?_
  refine WC.seq ?_
  refine WC.region ?_
  refine WL.quiet (d := 17) rfl rfl rfl (q_move rfl) ?_
  refine WL.quiet (d := 18) rfl rfl rfl (q_conv Try.underlying5 Try.underlying3 rfl rfl) ?_
  refine WL.quiet (d := 19) rfl rfl rfl (q_rem rfl rfl (by decide) rfl) ?_
  refine WL.quiet (d := 9) rfl rfl rfl (q_assign rfl) ?_
  refine WL.nil ?_
  refine WX.then ?_
  refine WC.seq ?_
  obtain ⟨x_19023, hx_19024, h⟩ := bind_elim h
  refine WC.region ?_
  refine WL.quiet (d := 20) rfl rfl rfl (q_move rfl) ?_
  refine WL.quiet (d := 21) rfl rfl rfl (q_move rfl) ?_
  refine WL.enter2 (dd := 22) rfl rfl rfl (run_call (l := [.tmp 20, .tmp 21]) Try.call18 (.cons rfl (.cons rfl .nil))) (.nil : Sel [] [] []) (fun w hw => by have pz := (hz.call hw (.nil : Sel [] [] [])); exact w_law33_times (Z := _) (ao_17796 := ao_17786) (cap_17797 := cap_17787) (l_17795 := l_17785) (f_17799 := (Int.tmod (i64 n_17789) 8)) (r := x_19023) w pz hs_17788 hx_19024) ?_
  rintro ao_19028 cap_19029 _
  refine WL.quiet (d := 10) rfl rfl rfl (q_assign rfl) ?_
  refine WL.nil ?_
  refine WX.then ?_
  refine WC.seq ?_
  refine WC.region ?_
  refine WL.quiet (d := 11) rfl rfl rfl (q_assign rfl) ?_
  refine WL.quiet (d := 12) rfl rfl rfl (q_assign rfl) ?_
  refine WL.nil ?_
  refine WX.then ?_
  refine WC.seq ?_
  refine WC.region ?_
  refine WL.quiet (d := 13) rfl rfl rfl (q_assign rfl) ?_
  refine WL.nil ?_
  refine WX.then ?_
  obtain ⟨k_19334, hk_19335, h⟩ := jp3_elim h
  refine WC.seqMid5 (fun (t_19329 : List Int) (lo_19332 : Int) (hi_19333 : Int) (ao_19330 : Option Addr) (cap_19331 : Nat) => (k_19334 t_19329 lo_19332 hi_19333 = some r)) (fun (t_19329 : List Int) (lo_19332 : Int) (hi_19333 : Int) (ao_19330 : Option Addr) (cap_19331 : Nat) => [(9, (.int .i64 (Int.tmod (i64 n_17789) 8))), (10, (.slice ao_19330 t_19329.length cap_19331)), (11, (.int .i64 lo_19332)), (12, (.int .i64 hi_19333))]) (fun (t_19329 : List Int) (lo_19332 : Int) (hi_19333 : Int) (ao_19330 : Option Addr) (cap_19331 : Nat) => [row (.slice ao_19330 t_19329.length cap_19331) 3 1 (t_19329.flatMap e3)]) ?_ ?_
  · skip
    refine WC.seq ?_
    refine WC.region ?_
    refine WL.quiet (d := 23) rfl rfl rfl (q_move rfl) ?_
    refine WL.quiet (d := 24) rfl rfl rfl (q_len Try.underlying22 rfl) ?_
    refine WL.quiet (d := 25) rfl rfl rfl (q_move rfl) ?_
    refine WL.nil ?_
    refine WX.then ?_
    refine WC.block ?_
    refine WC.loop8 (fun (n_19445 : Nat) (t_19438 : List Int) (lo_19441 : Int) (hi_19442 : Int) (used_19443 : Int) (v_19444 : Int) (ao_19439 : Option Addr) (cap_19440 : Nat) => (m_law33_ClockTrue_L2 x_19023 faulty_17790 n_17789 lies_17791 k_19334 n_19445 t_19438 lo_19441 hi_19442 used_19443 v_19444 = some r)) (fun (n_19445 : Nat) (t_19438 : List Int) (lo_19441 : Int) (hi_19442 : Int) (used_19443 : Int) (v_19444 : Int) (ao_19439 : Option Addr) (cap_19440 : Nat) => [(2, (.int .u16 faulty_17790)), (3, (.slice ao_17792 lies_17791.length cap_17793)), (9, (.int .i64 (Int.tmod (i64 n_17789) 8))), (10, (.slice ao_19439 t_19438.length cap_19440)), (11, (.int .i64 lo_19441)), (12, (.int .i64 hi_19442)), (13, (.int .i64 used_19443)), (24, (.int .i64 ((x_19023.length : Nat) : Int))), (25, (.int .i64 v_19444))]) (fun (n_19445 : Nat) (t_19438 : List Int) (lo_19441 : Int) (hi_19442 : Int) (used_19443 : Int) (v_19444 : Int) (ao_19439 : Option Addr) (cap_19440 : Nat) => [row (.slice ao_19439 t_19438.length cap_19440) 3 1 (t_19438.flatMap e3)]) (fun (n_19445 : Nat) (t_19438 : List Int) (lo_19441 : Int) (hi_19442 : Int) (used_19443 : Int) (v_19444 : Int) (ao_19439 : Option Addr) (cap_19440 : Nat) => n_19445) ⟨FUEL, x_19023, 1073741824, (-1073741824), 0, 0, ao_19028, cap_19029⟩ h (.cons rfl (.cons rfl (.cons rfl (.cons rfl (.cons rfl (.cons rfl (.cons rfl (.cons rfl (.cons rfl .nil))))))))) (.cons .here .nil) ?_
    rintro n_19445 t_19438 lo_19441 hi_19442 used_19443 v_19444 ao_19439 cap_19440 h
    obtain ⟨n_19446, rfl⟩ := m_law33_ClockTrue_L2_fuel h
    rw [m_law33_ClockTrue_L2] at h
    refine WC.seq ?_
    refine WC.region ?_
    refine WL.quiet (d := 26) rfl rfl rfl (q_lss rfl rfl) ?_
    refine WL.nil ?_
    refine WX.then ?_
    refine WC.seq ?_
    refine WC.cond rfl (fun hb_19448 => ?_) (fun hb_19448 => ?_)
    · replace h := ite_t h hb_19448
      refine WC.skip ?_
      refine WX.then ?_
      obtain ⟨k_19515, hk_19516, h⟩ := jp4_elim h
      refine WC.seqMid6 (fun (t_19509 : List Int) (lo_19512 : Int) (hi_19513 : Int) (used_19514 : Int) (ao_19510 : Option Addr) (cap_19511 : Nat) => (k_19515 t_19509 lo_19512 hi_19513 used_19514 = some r)) (fun (t_19509 : List Int) (lo_19512 : Int) (hi_19513 : Int) (used_19514 : Int) (ao_19510 : Option Addr) (cap_19511 : Nat) => [(2, (.int .u16 faulty_17790)), (3, (.slice ao_17792 lies_17791.length cap_17793)), (9, (.int .i64 (Int.tmod (i64 n_17789) 8))), (10, (.slice ao_19510 t_19509.length cap_19511)), (11, (.int .i64 lo_19512)), (12, (.int .i64 hi_19513)), (13, (.int .i64 used_19514)), (24, (.int .i64 ((x_19023.length : Nat) : Int))), (25, (.int .i64 v_19444))]) (fun (t_19509 : List Int) (lo_19512 : Int) (hi_19513 : Int) (used_19514 : Int) (ao_19510 : Option Addr) (cap_19511 : Nat) => [row (.slice ao_19510 t_19509.length cap_19511) 3 1 (t_19509.flatMap e3)]) ?_ ?_
      · skip
        refine WC.block ?_
        refine WC.seq ?_
        refine WC.region ?_
        refine WL.quiet (d := 27) rfl rfl rfl (q_move rfl) ?_
        refine WL.quiet (d := 14) rfl rfl rfl (q_assign rfl) ?_
        refine WL.nil ?_
        refine WX.then ?_
        refine WC.seq ?_
        refine WC.seq ?_
        obtain ⟨c_19517, h⟩ := chk_elim h
        refine WC.region ?_
        refine WL.quiet (d := 28) rfl rfl rfl (q_move rfl) ?_
        refine WL.quiet (d := 29) rfl rfl rfl (q_move rfl) ?_
        refine WL.quiet (d := 30) rfl rfl rfl (q_shr rfl rfl c_19517 rfl) ?_
        refine WL.quiet (d := 31) rfl rfl rfl (q_and rfl rfl rfl) ?_
        refine WL.quiet (d := 32) rfl rfl rfl (q_eql rfl rfl) ?_
        refine WL.quiet (d := 33) rfl rfl rfl (q_move rfl) ?_
        refine WL.cut0 True [(2, (.int .u16 faulty_17790)), (3, (.slice ao_17792 lies_17791.length cap_17793)), (9, (.int .i64 (Int.tmod (i64 n_17789) 8))), (10, (.slice ao_19439 t_19438.length cap_19440)), (11, (.int .i64 lo_19441)), (12, (.int .i64 hi_19442)), (13, (.int .i64 used_19443)), (24, (.int .i64 ((x_19023.length : Nat) : Int))), (25, (.int .i64 v_19444)), (14, (.int .i64 v_19444)), (37, (.bool ((decide ((bits .and .u16 (faulty_17790 / 2 ^ min (v_19444 : Int).toNat 16) 1) = 1)) && (decide (used_19443 < (Int.tmod (i64 n_17789) 8))))))] [row (.slice ao_19439 t_19438.length cap_19440) 3 1 (t_19438.flatMap e3)] 4 ?_ (fun _ => ?_)
        · rcases Bool.eq_false_or_eq_true (decide ((bits .and .u16 (faulty_17790 / 2 ^ min (v_19444 : Int).toNat 16) 1) = 1)) with hb' | hb'
          · have hg_19518 := hb'; clear hb'
            refine WL.pin (i := 33) rfl hg_19518 ?_
            refine WL.quiet (d := 34) rfl rfl rfl (q_move rfl) ?_
            refine WL.quiet (d := 35) rfl rfl rfl (q_move rfl) ?_
            refine WL.quiet (d := 36) rfl rfl rfl (q_lss rfl rfl) ?_
            refine WL.quiet (d := 37) rfl rfl rfl (q_pickT rfl rfl) ?_
            exact WL.cutEnd () trivial (.cons rfl (.cons rfl (.cons rfl (.cons rfl (.cons rfl (.cons rfl (.cons rfl (.cons rfl (.cons rfl (.cons rfl (.cons (some_bool (and_r hg_19518)) .nil))))))))))) (.cons .here .nil)
          · have hg_19519 := hb'; clear hb'
            refine WL.pin (i := 33) rfl hg_19519 ?_
            refine WL.skip rfl rfl rfl ?_
            refine WL.skip rfl rfl rfl ?_
            refine WL.skip rfl rfl rfl ?_
            refine WL.quiet (d := 37) rfl rfl rfl (q_pickF rfl rfl) ?_
            exact WL.cutEnd () trivial (.cons rfl (.cons rfl (.cons rfl (.cons rfl (.cons rfl (.cons rfl (.cons rfl (.cons rfl (.cons rfl (.cons rfl (.cons (some_bool (and_l hg_19519)) .nil))))))))))) (.cons .here .nil)
        · skip
          refine WL.nil ?_
          refine WX.then ?_
          refine WC.cond rfl (fun hb_19520 => ?_) (fun hb_19520 => ?_)
          · replace h := ite_t h hb_19520
            obtain ⟨k_19524, hk_19525, h⟩ := jp1_elim h
            refine WC.seqMid3 (fun (t_19521 : List Int) (ao_19522 : Option Addr) (cap_19523 : Nat) => (k_19524 t_19521 = some r)) (fun (t_19521 : List Int) (ao_19522 : Option Addr) (cap_19523 : Nat) => [(2, (.int .u16 faulty_17790)), (3, (.slice ao_17792 lies_17791.length cap_17793)), (9, (.int .i64 (Int.tmod (i64 n_17789) 8))), (10, (.slice ao_19522 t_19521.length cap_19523)), (11, (.int .i64 lo_19441)), (12, (.int .i64 hi_19442)), (13, (.int .i64 used_19443)), (24, (.int .i64 ((x_19023.length : Nat) : Int))), (25, (.int .i64 v_19444))]) (fun (t_19521 : List Int) (ao_19522 : Option Addr) (cap_19523 : Nat) => [row (.slice ao_19522 t_19521.length cap_19523) 3 1 (t_19521.flatMap e3)]) ?_ ?_
            · skip
              refine WC.seq ?_
              refine WC.region ?_
              refine WL.quiet (d := 38) rfl rfl rfl (q_move rfl) ?_
              refine WL.quiet (d := 39) rfl rfl rfl (q_move rfl) ?_
              refine WL.quiet (d := 40) rfl rfl rfl (q_len Try.underlying42 rfl) ?_
              refine WL.quiet (d := 41) rfl rfl rfl (q_lss rfl rfl) ?_
              refine WL.nil ?_
              refine WX.then ?_
              refine WC.cond rfl (fun hb_19526 => ?_) (fun hb_19526 => ?_)
              · replace h := ite_t h hb_19526
                obtain ⟨c_19527, h⟩ := chk_elim h
                obtain ⟨c_19532, h⟩ := chk_elim h
                refine WC.region ?_
                refine WL.quiet (d := 42) rfl rfl rfl (q_move rfl) ?_
                refine WL.quiet (d := 43) rfl rfl rfl (q_move rfl) ?_
                refine WL.quiet (d := 44) rfl rfl rfl (q_move rfl) ?_
                refine WL.quiet (d := 45) rfl rfl rfl (q_move rfl) ?_
                refine WL.znth (dd := 46) rfl rfl (Z := Z) (Pr := (fun r x => r = e45 x)) elT_42 rfl rfl hs_17794 c_19527 ?_
                rintro A_19534 r_19535 hA_19536 hl_19537 rfl
                refine WL.quiet (d := 47) rfl rfl rfl (q_load1 oneT_45 rfl (rd_z hz.pv hA_19536 rfl)) ?_
                refine WL.quiet (d := 48) rfl rfl rfl (q_conv Try.underlying45 Try.underlying3 rfl rfl) ?_
                refine WL.quiet (d := 49) rfl rfl rfl (q_mul rfl rfl rfl) ?_
                refine WL.know (fun w hw => Hp.expose .here hw (by intro hz'; have := c_19532; rw [hz'] at this; omega)) ?_
                rintro ⟨b_19538, rfl⟩
                refine WL.quiet (d := 50) rfl rfl rfl (q_indexAddr elT_22 rfl rfl c_19532.1 c_19532.2 rowAdd) ?_
                refine WL.eff0 rfl rfl (e_rowStore (vs := [(.int .i64 (i64 ((i64 (nth lies_17791 used_19443)) * 30000)))]) (ds := (t_19438.set (v_19444 : Int).toNat (i64 ((i64 (nth lies_17791 used_19443)) * 30000))).flatMap e3) sizT_3 rfl rfl rfl rfl (oc_cons rfl oc_nil) .here (flat_fit (enc := e3) (sz := 1) (k := 0) (fun _ => rfl) c_19532.1 c_19532.2 (by decide)) (flat_put (enc := e3) (l := t_19438) (sz := 1) (vs := [(.int .i64 (i64 ((i64 (nth lies_17791 used_19443)) * 30000)))]) (y := i64 ((i64 (nth lies_17791 used_19443)) * 30000)) (k := 0) (fun _ => rfl) c_19532.1 c_19532.2 rfl (Nat.le_of_ble_eq_true rfl))) ?_
                refine WL.relen .here (u := (.slice (some ⟨b_19538, 0, none⟩) ((t_19438.set (v_19444 : Int).toNat (i64 ((i64 (nth lies_17791 used_19443)) * 30000))).length) cap_19440)) (slen (List.length_set).symm) ?_
                refine WL.repin (i := 10) rfl (u := (.slice (some ⟨b_19538, 0, none⟩) ((t_19438.set (v_19444 : Int).toNat (i64 ((i64 (nth lies_17791 used_19443)) * 30000))).length) cap_19440)) (slen (List.length_set).symm) ?_
                refine WL.nil ?_
                exact WX.mid (G := List Int × Option Addr × Nat) ⟨(t_19438.set (v_19444 : Int).toNat (i64 ((i64 (nth lies_17791 used_19443)) * 30000))), (some ⟨b_19538, 0, none⟩), cap_19440⟩ h (.cons rfl (.cons rfl (.cons rfl (.cons rfl (.cons rfl (.cons rfl (.cons rfl (.cons rfl (.cons rfl .nil))))))))) (.cons .here .nil)
              · replace h := ite_f h hb_19526
                refine WC.skip ?_
                exact WX.mid (G := List Int × Option Addr × Nat) ⟨t_19438, ao_19439, cap_19440⟩ h (.cons rfl (.cons rfl (.cons rfl (.cons rfl (.cons rfl (.cons rfl (.cons rfl (.cons rfl (.cons rfl .nil))))))))) (.cons .here .nil)
            · rintro t_19521 ao_19522 cap_19523 h
              replace h := (hk_19525 t_19521).symm.trans h
              refine WC.seq ?_
              refine WC.region ?_
              refine WL.quiet (d := 51) rfl rfl rfl (q_move rfl) ?_
              refine WL.quiet (d := 52) rfl rfl rfl (q_add rfl rfl rfl) ?_
              refine WL.quiet (d := 13) rfl rfl rfl (q_assign rfl) ?_
              refine WL.nil ?_
              refine WX.then ?_
              refine WC.exit ?_
              refine WX.thenExit ?_
              refine WX.blockHit ?_
              exact WX.mid (G := List Int × Int × Int × Int × Option Addr × Nat) ⟨t_19521, lo_19441, hi_19442, (i64 (used_19443 + 1)), ao_19522, cap_19523⟩ h (.cons rfl (.cons rfl (.cons rfl (.cons rfl (.cons rfl (.cons rfl (.cons rfl (.cons rfl (.cons rfl .nil))))))))) (.cons .here .nil)
          · replace h := ite_f h hb_19520
            refine WC.skip ?_
            refine WX.then ?_
            obtain ⟨c_19539, h⟩ := chk_elim h
            refine WC.draw (fun i => [].contains i) [] rfl ?_
            refine WD.pure (i := 0) (d := 53) (by kernel_rfl) rfl (by kernel_rfl) (by kernel_rfl) rfl rfl rfl (fun _ => q_move rfl) ?_
            refine WD.pure (i := 1) (d := 54) (by kernel_rfl) rfl (by kernel_rfl) (by kernel_rfl) rfl rfl rfl (fun _ => q_move rfl) ?_
            refine WD.pure (i := 2) (d := 55) (by kernel_rfl) rfl (by kernel_rfl) (by kernel_rfl) rfl rfl rfl (fun _ => q_move rfl) ?_
            refine WD.know (fun w hw => Hp.expose .here hw (by intro hz'; have := c_19539; rw [hz'] at this; omega)) ?_
            rintro ⟨b_19541, rfl⟩
            refine WD.pure (i := 3) (d := 56) (by kernel_rfl) rfl (by kernel_rfl) (by kernel_rfl) rfl rfl rfl (fun _ => q_indexAddr elT_22 rfl rfl c_19539.1 c_19539.2 rowAdd) ?_
            refine WD.quiet (i := 4) (d := 57) (by kernel_rfl) rfl (by kernel_rfl) (by kernel_rfl) rfl rfl rfl (q_load1 oneT_3 rfl (rd_row .here ((flat_rd (enc := e3) (l := t_19438) (i := v_19444) (sz := 1) (fun _ => rfl) c_19539.1 c_19539.2) 0 _ rfl))) ?_
            refine WD.pure (i := 5) (d := 58) (by kernel_rfl) rfl (by kernel_rfl) (by kernel_rfl) rfl rfl rfl (fun _ => q_min rfl rfl rfl) ?_
            refine WD.pure (i := 6) (d := 59) (by kernel_rfl) rfl (by kernel_rfl) (by kernel_rfl) rfl rfl rfl (fun _ => q_move rfl) ?_
            refine WD.pure (i := 7) (d := 60) (by kernel_rfl) rfl (by kernel_rfl) (by kernel_rfl) rfl rfl rfl (fun _ => q_move rfl) ?_
            refine WD.pure (i := 8) (d := 61) (by kernel_rfl) rfl (by kernel_rfl) (by kernel_rfl) rfl rfl rfl (fun _ => q_move rfl) ?_
            refine WD.pure (i := 9) (d := 62) (by kernel_rfl) rfl (by kernel_rfl) (by kernel_rfl) rfl rfl rfl (fun _ => q_indexAddr elT_22 rfl rfl c_19539.1 c_19539.2 rowAdd) ?_
            refine WD.quiet (i := 10) (d := 63) (by kernel_rfl) rfl (by kernel_rfl) (by kernel_rfl) rfl rfl rfl (q_load1 oneT_3 rfl (rd_row .here ((flat_rd (enc := e3) (l := t_19438) (i := v_19444) (sz := 1) (fun _ => rfl) c_19539.1 c_19539.2) 0 _ rfl))) ?_
            refine WD.pure (i := 11) (d := 64) (by kernel_rfl) rfl (by kernel_rfl) (by kernel_rfl) rfl rfl rfl (fun _ => q_max rfl rfl rfl) ?_
            refine WD.pure (i := 12) (d := 11) (by kernel_rfl) rfl (by kernel_rfl) (by kernel_rfl) rfl rfl rfl (fun _ => q_assign rfl) ?_
            refine WD.pure (i := 13) (d := 12) (by kernel_rfl) rfl (by kernel_rfl) (by kernel_rfl) rfl rfl rfl (fun _ => q_assign rfl) ?_
            refine WD.done (by kernel_rfl) ?_
            refine WX.blockNormal ?_
            exact WX.mid (G := List Int × Int × Int × Int × Option Addr × Nat) ⟨t_19438, (min lo_19441 (nth t_19438 v_19444)), (max hi_19442 (nth t_19438 v_19444)), used_19443, (some ⟨b_19541, 0, none⟩), cap_19440⟩ h (.cons rfl (.cons rfl (.cons rfl (.cons rfl (.cons rfl (.cons rfl (.cons rfl (.cons rfl (.cons rfl .nil))))))))) (.cons .here .nil)
      · rintro t_19509 lo_19512 hi_19513 used_19514 ao_19510 cap_19511 h
        replace h := (hk_19516 t_19509 lo_19512 hi_19513 used_19514).symm.trans h
        refine WC.region ?_
        refine WL.quiet (d := 65) rfl rfl rfl (q_add rfl rfl rfl) ?_
        refine WL.quiet (d := 25) rfl rfl rfl (q_move rfl) ?_
        refine WL.nil ?_
        exact WX.round (G := Nat × List Int × Int × Int × Int × Int × Option Addr × Nat) ⟨n_19446, t_19509, lo_19512, hi_19513, used_19514, (i64 (v_19444 + 1)), ao_19510, cap_19511⟩ h (Nat.lt_succ_self _) (.cons rfl (.cons rfl (.cons rfl (.cons rfl (.cons rfl (.cons rfl (.cons rfl (.cons rfl (.cons rfl .nil))))))))) (.cons .here .nil)
    · replace h := ite_f h hb_19448
      refine WC.exit ?_
      refine WX.thenExit ?_
      refine WX.thenExit ?_
      refine WX.blockHit ?_
      exact WX.mid (G := List Int × Int × Int × Option Addr × Nat) ⟨t_19438, lo_19441, hi_19442, ao_19439, cap_19440⟩ h (.cons rfl (.cons rfl (.cons rfl (.cons rfl .nil)))) (.cons .here .nil)
  · rintro t_19329 lo_19332 hi_19333 ao_19330 cap_19331 h
    replace h := (hk_19335 t_19329 lo_19332 hi_19333).symm.trans h
    refine WC.seq ?_
    obtain ⟨x_19542, hx_19543, h⟩ := bind_elim h
    refine WC.region ?_
    refine WL.quiet (d := 67) rfl rfl rfl (q_move rfl) ?_
    refine WL.quiet (d := 68) rfl rfl rfl (q_move rfl) ?_
    refine WL.callD (dd := 69) rfl rfl rfl (run_call (l := [.tmp 67, .tmp 68]) Try.call11 (.cons rfl (.cons rfl .nil))) (.nil : Sel [row (.slice ao_19330 t_19329.length cap_19331) 3 1 (t_19329.flatMap e3)] [] [row (.slice ao_19330 t_19329.length cap_19331) 3 1 (t_19329.flatMap e3)]) (fun w hw => by have pz := (hz.call hw (.nil : Sel [row (.slice ao_19330 t_19329.length cap_19331) 3 1 (t_19329.flatMap e3)] [] [row (.slice ao_19330 t_19329.length cap_19331) 3 1 (t_19329.flatMap e3)])).lend hw (.nil : Sel [row (.slice ao_19330 t_19329.length cap_19331) 3 1 (t_19329.flatMap e3)] [] [row (.slice ao_19330 t_19329.length cap_19331) 3 1 (t_19329.flatMap e3)]) (B := [row (.slice ao_19330 t_19329.length cap_19331) 3 1 (t_19329.flatMap e3)]) (fun _ hx' => ((.cons .here .nil) : Sel _ [row (.slice ao_19330 t_19329.length cap_19331) 3 1 (t_19329.flatMap e3)] _).mem hx'); exact w_clock_Midpoint (Z := _) (ao_17 := ao_19330) (cap_18 := cap_19331) (l_16 := t_19329) (f_20 := (Int.tmod (i64 n_17789) 8)) (r := x_19542) w pz (ZA.row (hw.lent (.nil : Sel [row (.slice ao_19330 t_19329.length cap_19331) 3 1 (t_19329.flatMap e3)] [] [row (.slice ao_19330 t_19329.length cap_19331) 3 1 (t_19329.flatMap e3)]) (B := [row (.slice ao_19330 t_19329.length cap_19331) 3 1 (t_19329.flatMap e3)]) (fun _ hx' => ((.cons .here .nil) : Sel _ [row (.slice ao_19330 t_19329.length cap_19331) 3 1 (t_19329.flatMap e3)] _).mem hx') (.head _) _) (RR.flat (enc := e3) (fun _ => rfl) _) ⟨w, pz.1⟩) hx_19543) ?_
    refine WL.quiet (d := 66) rfl rfl rfl (q_move rfl) ?_
    refine WL.quiet (d := 70) rfl rfl rfl (q_extract rfl rfl) ?_
    refine WL.quiet (d := 71) rfl rfl rfl (q_extract rfl rfl) ?_
    refine WL.quiet (d := 15) rfl rfl rfl (q_assign rfl) ?_
    refine WL.quiet (d := 16) rfl rfl rfl (q_assign rfl) ?_
    refine WL.nil ?_
    refine WX.then ?_
    refine WC.seq ?_
    obtain ⟨b_19546, hb_19547, h⟩ := bind_elim h
    refine WC.region ?_
    refine WL.quiet (d := 72) rfl rfl rfl (q_move rfl) ?_
    refine WL.quiet (d := 73) rfl rfl rfl (q_eql rfl rfl) ?_
    refine WL.quiet (d := 74) rfl rfl rfl (q_move rfl) ?_
    refine WL.cut0 True [(12, (.int .i64 hi_19333)), (15, (.int .i64 x_19542.1)), (78, (.bool ((decide (x_19542.2 = 0)) && (decide (lo_19332 ≤ x_19542.1)))))] [row (.slice ao_19330 t_19329.length cap_19331) 3 1 (t_19329.flatMap e3)] 4 ?_ (fun _ => ?_)
    · rcases Bool.eq_false_or_eq_true (decide (x_19542.2 = 0)) with hb' | hb'
      · have hg_19548 := hb'; clear hb'
        refine WL.pin (i := 74) rfl hg_19548 ?_
        refine WL.quiet (d := 75) rfl rfl rfl (q_move rfl) ?_
        refine WL.quiet (d := 76) rfl rfl rfl (q_move rfl) ?_
        refine WL.quiet (d := 77) rfl rfl rfl (q_leq rfl rfl) ?_
        refine WL.quiet (d := 78) rfl rfl rfl (q_pickT rfl rfl) ?_
        exact WL.cutEnd () trivial (.cons rfl (.cons rfl (.cons (some_bool (and_r hg_19548)) .nil))) (.cons .here .nil)
      · have hg_19549 := hb'; clear hb'
        refine WL.pin (i := 74) rfl hg_19549 ?_
        refine WL.skip rfl rfl rfl ?_
        refine WL.skip rfl rfl rfl ?_
        refine WL.skip rfl rfl rfl ?_
        refine WL.quiet (d := 78) rfl rfl rfl (q_pickF rfl rfl) ?_
        exact WL.cutEnd () trivial (.cons rfl (.cons rfl (.cons (some_bool (and_l hg_19549)) .nil))) (.cons .here .nil)
    · skip
      refine WL.quiet (d := 79) rfl rfl rfl (q_move rfl) ?_
      refine WL.cut0 True [(83, (.bool (((decide (x_19542.2 = 0)) && (decide (lo_19332 ≤ x_19542.1))) && (decide (x_19542.1 ≤ hi_19333)))))] [row (.slice ao_19330 t_19329.length cap_19331) 3 1 (t_19329.flatMap e3)] 4 ?_ (fun _ => ?_)
      · rcases Bool.eq_false_or_eq_true ((decide (x_19542.2 = 0)) && (decide (lo_19332 ≤ x_19542.1))) with hb' | hb'
        · have hg_19550 := hb'; clear hb'
          refine WL.pin (i := 79) rfl hg_19550 ?_
          refine WL.quiet (d := 80) rfl rfl rfl (q_move rfl) ?_
          refine WL.quiet (d := 81) rfl rfl rfl (q_move rfl) ?_
          refine WL.quiet (d := 82) rfl rfl rfl (q_leq rfl rfl) ?_
          refine WL.quiet (d := 83) rfl rfl rfl (q_pickT rfl rfl) ?_
          exact WL.cutEnd () trivial (.cons (some_bool (and_r hg_19550)) .nil) (.cons .here .nil)
        · have hg_19551 := hb'; clear hb'
          refine WL.pin (i := 79) rfl hg_19551 ?_
          refine WL.skip rfl rfl rfl ?_
          refine WL.skip rfl rfl rfl ?_
          refine WL.skip rfl rfl rfl ?_
          refine WL.quiet (d := 83) rfl rfl rfl (q_pickF rfl rfl) ?_
          exact WL.cutEnd () trivial (.cons (some_bool (and_l hg_19551)) .nil) (.cons .here .nil)
      · skip
        refine WL.quiet (d := 84) rfl rfl rfl (q_move rfl) ?_
        refine WL.cut0 True [(86, (.bool b_19546))] [row (.slice ao_19330 t_19329.length cap_19331) 3 1 (t_19329.flatMap e3)] 2 ?_ (fun _ => ?_)
        · rcases Bool.eq_false_or_eq_true (((decide (x_19542.2 = 0)) && (decide (lo_19332 ≤ x_19542.1))) && (decide (x_19542.1 ≤ hi_19333))) with hb' | hb'
          · have hg_19552 := hb'; clear hb'
            have hq_19553 := ite_t hb_19547 hg_19552
            obtain ⟨x_19544, hx_19545, hq_19553⟩ := bind_elim hq_19553
            replace hq_19553 := Option.some.inj hq_19553
            refine WL.pin (i := 84) rfl hg_19552 ?_
            refine WL.callD (dd := 85) rfl rfl rfl (run_call (l := []) Try.call10 .nil) (.nil : Sel [row (.slice ao_19330 t_19329.length cap_19331) 3 1 (t_19329.flatMap e3)] [] [row (.slice ao_19330 t_19329.length cap_19331) 3 1 (t_19329.flatMap e3)]) (fun w hw => by have pz := (hz.call hw (.nil : Sel [row (.slice ao_19330 t_19329.length cap_19331) 3 1 (t_19329.flatMap e3)] [] [row (.slice ao_19330 t_19329.length cap_19331) 3 1 (t_19329.flatMap e3)])); exact w_law33_awake (Z := _)   (r := x_19544) w pz  hx_19545) ?_
            refine WL.quiet (d := 86) rfl rfl rfl (q_pickT rfl rfl) ?_
            exact WL.cutEnd () trivial (.cons (some_bool hq_19553) .nil) (.cons .here .nil)
          · have hg_19554 := hb'; clear hb'
            have hq_19555 := ite_f hb_19547 hg_19554
            replace hq_19555 := Option.some.inj hq_19555
            refine WL.pin (i := 84) rfl hg_19554 ?_
            refine WL.skip rfl rfl rfl ?_
            refine WL.quiet (d := 86) rfl rfl rfl (q_pickF rfl rfl) ?_
            exact WL.cutEnd () trivial (.cons (some_bool hq_19555) .nil) (.cons .here .nil)
        · skip
          refine WL.quiet (d := 8) rfl rfl rfl (q_assign rfl) ?_
          refine WL.nil ?_
          refine WX.then ?_
          refine WC.ret ?_
          obtain rfl := Option.some.inj h
          refine WX.bpRet Try.results4 (.tmp rfl .nil) (fun w hw => ?_)
          exact ⟨ret1 rfl, hw.sub .nil⟩
end Go.Proofs.Ytkhiiafgikioiaa
