/- A part of this claim's proof: models of the functions that the law reaches, with the proof that the functions compute them; plain laws about the models. No conditions beyond those in each theorem's statement. -/
import Derived.Test.YtkhiiafgikioiaaW33b
namespace Go.Proofs.Ytkhiiafgikioiaa
open Go Go.RowKit Sep
set_option linter.all false
def m_law33_ClockMore_L3 (x_27297 : List Int) (m_26584 : List Int) (k_27541 : (List Sapi_Span) → Int → Int → Option Bool) : Nat → (List Sapi_Span) → Int → Int → (List Int) → Int → Option Bool
  | 0, _, _, _, _, _ => none
  | n_27705 + 1, spans_27694, lo_27697, hi_27698, v_27699, v_27702 => if decide (v_27702 < ((x_27297.length : Nat) : Int)) then chk ((0 : Int) ≤ v_27702 ∧ v_27702 < ((v_27699.length : Nat) : Int)) (jp1 (fun (w_27754 : Int) => chk ((((spans_27694 ++ [(⟨(nth v_27699 v_27702), i64 ((nth v_27699 v_27702) + w_27754)⟩ : Sapi_Span)]).length : Nat) : Int) * 16 ≤ 140737488355328 ∧ (((spans_27694 ++ [(⟨(nth v_27699 v_27702), i64 ((nth v_27699 v_27702) + w_27754)⟩ : Sapi_Span)]).length : Nat) : Int) ≤ 4611686018427387904) (m_law33_ClockMore_L3 x_27297 m_26584 k_27541 n_27705 (spans_27694 ++ [(⟨(nth v_27699 v_27702), i64 ((nth v_27699 v_27702) + w_27754)⟩ : Sapi_Span)]) (max lo_27697 (nth v_27699 v_27702)) (min hi_27698 (i64 ((nth v_27699 v_27702) + w_27754))) v_27699 (i64 (v_27702 + 1)))) fun k_27755 => if decide (v_27702 < ((m_26584.length : Nat) : Int)) then chk ((0 : Int) ≤ v_27702 ∧ v_27702 < ((m_26584.length : Nat) : Int)) (k_27755 (bits .and .i64 (i64 (nth m_26584 v_27702)) 1023)) else k_27755 500) else k_27541 spans_27694 lo_27697 hi_27698
theorem m_law33_ClockMore_L3_fuel {n : Nat} {x_27297 : List Int} {m_26584 : List Int} {k_27541 : (List Sapi_Span) → Int → Int → Option Bool} {spans_27694 : List Sapi_Span} {lo_27697 : Int} {hi_27698 : Int} {v_27699 : List Int} {v_27702 : Int} {r : Bool} (h : m_law33_ClockMore_L3 x_27297 m_26584 k_27541 n spans_27694 lo_27697 hi_27698 v_27699 v_27702 = some r) : ∃ m, n = m + 1 := by
  cases n with
  | zero => cases h
  | succ m => exact ⟨m, rfl⟩

def m_law33_ClockMore_L4 (n_26588 : Int) (spans_27536 : List Sapi_Span) (k_27900 : Option Bool) : Nat → Int → Option Bool
  | 0, _ => none
  | n_27969 + 1, k_27967 => if decide (k_27967 ≤ (Int.tmod (i64 n_26588) 8)) then (m_clock_Meet spans_27536 (i64 (k_27967 - 1))).bind fun x_27987 => (m_clock_Meet spans_27536 k_27967).bind fun x_27991 => if (decide (x_27987.2 = 0)) && (((decide (x_27991.2 ≠ 0)) || (decide (x_27991.1.fLo > x_27987.1.fLo))) || (decide (x_27991.1.fHi < x_27987.1.fHi))) then some false else m_law33_ClockMore_L4 n_26588 spans_27536 k_27900 n_27969 (i64 (k_27967 + 1)) else k_27900
theorem m_law33_ClockMore_L4_fuel {n : Nat} {n_26588 : Int} {spans_27536 : List Sapi_Span} {k_27900 : Option Bool} {k_27967 : Int} {r : Bool} (h : m_law33_ClockMore_L4 n_26588 spans_27536 k_27900 n k_27967 = some r) : ∃ m, n = m + 1 := by
  cases n with
  | zero => cases h
  | succ m => exact ⟨m, rfl⟩

/-- nacellelaw33.ClockMore -/
def m_law33_ClockMore (l_26580 : List Int) (m_26584 : List Int) (n_26588 : Int) : Option Bool :=
  (m_law33_times l_26580 (Int.tmod (i64 n_26588) 8)).bind fun x_27297 => jp3 (fun (spans_27536 : List Sapi_Span) (lo_27539 : Int) (hi_27540 : Int) => (m_clock_Meet spans_27536 0).bind fun x_27774 => if ((decide (lo_27539 ≤ hi_27540)) && (((decide (x_27774.2 ≠ 0)) || (decide (x_27774.1.fLo ≠ lo_27539))) || (decide (x_27774.1.fHi ≠ hi_27540)))) || ((decide (lo_27539 > hi_27540)) && (decide (x_27774.2 ≠ 6))) then some false else jp0 ((m_law33_awake).bind fun x_28002 => some x_28002) fun k_27900 => m_law33_ClockMore_L4 n_26588 spans_27536 k_27900 FUEL 1) fun k_27541 => m_law33_ClockMore_L3 x_27297 m_26584 k_27541 FUEL ([] : List Sapi_Span) (-1073741824) 1073741824 x_27297 0

set_option maxRecDepth 20000 in
theorem w_law33_ClockMore (Z : Zp) (ao_26581 : Option Addr) (cap_26582 : Nat) (ao_26585 : Option Addr) (cap_26586 : Nat) (l_26580 : List Int) (m_26584 : List Int) (n_26588 : Int) (r : Bool) (w₀ : World) (hz : PZ [] w₀ Z)
    (hs_26583 : ZS Z 1 (fun r x => r = e45 x) ao_26581 cap_26582 l_26580)
    (hs_26587 : ZS Z 1 (fun r x => r = e45 x) ao_26585 cap_26586 m_26584)
    (h : m_law33_ClockMore l_26580 m_26584 n_26588 = some r) :
    Calls Try.prog 8 #[(.slice ao_26581 l_26580.length cap_26582), (.slice ao_26585 m_26584.length cap_26586), (.int .u8 n_26588)] w₀ fun e w' => e = .returned (.bool r) ∧ Hp [] w₀ w' [] := by
  unfold m_law33_ClockMore at h
  refine Calls.ofWC (vs := [(.slice ao_26581 l_26580.length cap_26582), (.slice ao_26585 m_26584.length cap_26586), (.int .u8 n_26588)]) (pre := []) (env := [(0, (.slice ao_26581 l_26580.length cap_26582)), (1, (.slice ao_26585 m_26584.length cap_26586)), (2, (.int .u8 n_26588))]) Try.func8 rfl Try.ntmps8 rfl (Hp.nil w₀ _) rfl ?_
  refine WC.seq ?_
  refine WC.region ?_
  refine WL.quiet (d := 6) rfl rfl rfl (q_assign rfl) ?_
  refine WL.nil ?_
  refine WX.then ?_
  refine WC.seq ?_
  refine WC.region ?_
  refine WL.quiet (d := 22) rfl rfl rfl (q_move rfl) ?_
  refine WL.quiet (d := 23) rfl rfl rfl (q_conv Try.underlying5 Try.underlying3 rfl rfl) ?_
  refine WL.quiet (d := 24) rfl rfl rfl (q_rem rfl rfl (by decide) rfl) ?_
  refine WL.quiet (d := 7) rfl rfl rfl (q_assign rfl) ?_
  refine WL.nil ?_
  refine WX.then ?_
  refine WC.seq ?_
  obtain ⟨x_27297, hx_27298, h⟩ := bind_elim h
  refine WC.region ?_
  refine WL.quiet (d := 25) rfl rfl rfl (q_move rfl) ?_
  refine WL.quiet (d := 26) rfl rfl rfl (q_move rfl) ?_
  refine WL.enter2 (dd := 27) rfl rfl rfl (run_call (l := [.tmp 25, .tmp 26]) Try.call18 (.cons rfl (.cons rfl .nil))) (.nil : Sel [] [] []) (fun w hw => by have pz := (hz.call hw (.nil : Sel [] [] [])); exact w_law33_times (Z := _) (ao_21422 := ao_26581) (cap_21423 := cap_26582) (l_21421 := l_26580) (f_21425 := (Int.tmod (i64 n_26588) 8)) (r := x_27297) w pz hs_26583 hx_27298) ?_
  rintro ao_27302 cap_27303 _
  refine WL.quiet (d := 8) rfl rfl rfl (q_assign rfl) ?_
  refine WL.nil ?_
  refine WX.then ?_
  refine WC.seq ?_
  refine WC.region ?_
  refine WL.quiet (d := 9) rfl rfl rfl (q_assign rfl) ?_
  refine WL.nil ?_
  refine WX.then ?_
  refine WC.seq ?_
  refine WC.region ?_
  refine WL.quiet (d := 10) rfl rfl rfl (q_assign rfl) ?_
  refine WL.quiet (d := 11) rfl rfl rfl (q_assign rfl) ?_
  refine WL.nil ?_
  refine WX.then ?_
  obtain ⟨k_27541, hk_27542, h⟩ := jp3_elim h
  refine WC.seqMid5 (fun (spans_27536 : List Sapi_Span) (lo_27539 : Int) (hi_27540 : Int) (ao_27537 : Option Addr) (cap_27538 : Nat) => (k_27541 spans_27536 lo_27539 hi_27540 = some r)) (fun (spans_27536 : List Sapi_Span) (lo_27539 : Int) (hi_27540 : Int) (ao_27537 : Option Addr) (cap_27538 : Nat) => [(7, (.int .i64 (Int.tmod (i64 n_26588) 8))), (9, (.slice ao_27537 spans_27536.length cap_27538)), (10, (.int .i64 lo_27539)), (11, (.int .i64 hi_27540))]) (fun (spans_27536 : List Sapi_Span) (lo_27539 : Int) (hi_27540 : Int) (ao_27537 : Option Addr) (cap_27538 : Nat) => [row (.slice ao_27537 spans_27536.length cap_27538) 35 2 (spans_27536.flatMap e35)]) ?_ ?_
  · skip
    refine WC.seq ?_
    refine WC.region ?_
    refine WL.quiet (d := 28) rfl rfl rfl (q_move rfl) ?_
    refine WL.quiet (d := 29) rfl rfl rfl (q_len Try.underlying22 rfl) ?_
    refine WL.quiet (d := 30) rfl rfl rfl (q_move rfl) ?_
    refine WL.nil ?_
    refine WX.then ?_
    refine WC.block ?_
    refine WC.nilRow 35 2 ?_
    refine WC.loop10 (fun (n_27703 : Nat) (spans_27694 : List Sapi_Span) (lo_27697 : Int) (hi_27698 : Int) (v_27699 : List Int) (v_27702 : Int) (ao_27695 : Option Addr) (cap_27696 : Nat) (ao_27700 : Option Addr) (cap_27701 : Nat) => (m_law33_ClockMore_L3 x_27297 m_26584 k_27541 n_27703 spans_27694 lo_27697 hi_27698 v_27699 v_27702 = some r)) (fun (n_27703 : Nat) (spans_27694 : List Sapi_Span) (lo_27697 : Int) (hi_27698 : Int) (v_27699 : List Int) (v_27702 : Int) (ao_27695 : Option Addr) (cap_27696 : Nat) (ao_27700 : Option Addr) (cap_27701 : Nat) => [(1, (.slice ao_26585 m_26584.length cap_26586)), (7, (.int .i64 (Int.tmod (i64 n_26588) 8))), (9, (.slice ao_27695 spans_27694.length cap_27696)), (10, (.int .i64 lo_27697)), (11, (.int .i64 hi_27698)), (28, (.slice ao_27700 v_27699.length cap_27701)), (29, (.int .i64 ((x_27297.length : Nat) : Int))), (30, (.int .i64 v_27702))]) (fun (n_27703 : Nat) (spans_27694 : List Sapi_Span) (lo_27697 : Int) (hi_27698 : Int) (v_27699 : List Int) (v_27702 : Int) (ao_27695 : Option Addr) (cap_27696 : Nat) (ao_27700 : Option Addr) (cap_27701 : Nat) => [row (.slice ao_27695 spans_27694.length cap_27696) 35 2 (spans_27694.flatMap e35), row (.slice ao_27700 v_27699.length cap_27701) 3 1 (v_27699.flatMap e3)]) (fun (n_27703 : Nat) (spans_27694 : List Sapi_Span) (lo_27697 : Int) (hi_27698 : Int) (v_27699 : List Int) (v_27702 : Int) (ao_27695 : Option Addr) (cap_27696 : Nat) (ao_27700 : Option Addr) (cap_27701 : Nat) => n_27703) ⟨FUEL, ([] : List Sapi_Span), (-1073741824), 1073741824, x_27297, 0, none, 0, ao_27302, cap_27303⟩ h (.cons rfl (.cons rfl (.cons rfl (.cons rfl (.cons rfl (.cons rfl (.cons rfl (.cons rfl .nil)))))))) (.cons .here (.cons .here .nil)) ?_
    rintro n_27703 spans_27694 lo_27697 hi_27698 v_27699 v_27702 ao_27695 cap_27696 ao_27700 cap_27701 h
    obtain ⟨n_27705, rfl⟩ := m_law33_ClockMore_L3_fuel h
    rw [m_law33_ClockMore_L3] at h
    refine WC.seq ?_
    refine WC.region ?_
    refine WL.quiet (d := 31) rfl rfl rfl (q_lss rfl rfl) ?_
    refine WL.nil ?_
    refine WX.then ?_
    refine WC.seq ?_
    refine WC.cond rfl (fun hb_27707 => ?_) (fun hb_27707 => ?_)
    · replace h := ite_t h hb_27707
      refine WC.skip ?_
      refine WX.then ?_
      refine WC.seq ?_
      refine WC.block ?_
      refine WC.seq ?_
      obtain ⟨c_27741, h⟩ := chk_elim h
      refine WC.region ?_
      refine WL.quiet (d := 32) rfl rfl rfl (q_move rfl) ?_
      refine WL.know (fun w hw => Hp.expose (.there .here) hw (by intro hz'; have := c_27741; rw [hz'] at this; omega)) ?_
      rintro ⟨b_27743, rfl⟩
      refine WL.quiet (d := 33) rfl rfl rfl (q_indexAddr elT_22 rfl rfl c_27741.1 c_27741.2 rowAdd) ?_
      refine WL.quiet (d := 34) rfl rfl rfl (q_load1 oneT_3 rfl (rd_row (.there .here) ((flat_rd (enc := e3) (l := v_27699) (i := v_27702) (sz := 1) (fun _ => rfl) c_27741.1 c_27741.2) 0 _ rfl))) ?_
      refine WL.quiet (d := 12) rfl rfl rfl (q_assign rfl) ?_
      refine WL.quiet (d := 13) rfl rfl rfl (q_assign rfl) ?_
      refine WL.nil ?_
      refine WX.then ?_
      refine WC.seq ?_
      refine WC.region ?_
      refine WL.quiet (d := 14) rfl rfl rfl (q_assign rfl) ?_
      refine WL.nil ?_
      refine WX.then ?_
      obtain ⟨k_27755, hk_27756, h⟩ := jp1_elim h
      refine WC.seqMid1 (fun (w_27754 : Int) => (k_27755 w_27754 = some r)) (fun (w_27754 : Int) => [(1, (.slice ao_26585 m_26584.length cap_26586)), (7, (.int .i64 (Int.tmod (i64 n_26588) 8))), (9, (.slice ao_27695 spans_27694.length cap_27696)), (10, (.int .i64 lo_27697)), (11, (.int .i64 hi_27698)), (13, (.int .i64 (nth v_27699 v_27702))), (14, (.int .i64 w_27754)), (28, (.slice (some ⟨b_27743, 0, none⟩) v_27699.length cap_27701)), (29, (.int .i64 ((x_27297.length : Nat) : Int))), (30, (.int .i64 v_27702))]) (fun (w_27754 : Int) => [row (.slice ao_27695 spans_27694.length cap_27696) 35 2 (spans_27694.flatMap e35), row (.slice (some ⟨b_27743, 0, none⟩) v_27699.length cap_27701) 3 1 (v_27699.flatMap e3)]) ?_ ?_
      · skip
        refine WC.seq ?_
        refine WC.region ?_
        refine WL.quiet (d := 35) rfl rfl rfl (q_move rfl) ?_
        refine WL.quiet (d := 36) rfl rfl rfl (q_move rfl) ?_
        refine WL.quiet (d := 37) rfl rfl rfl (q_len Try.underlying42 rfl) ?_
        refine WL.quiet (d := 38) rfl rfl rfl (q_lss rfl rfl) ?_
        refine WL.nil ?_
        refine WX.then ?_
        refine WC.cond rfl (fun hb_27757 => ?_) (fun hb_27757 => ?_)
        · replace h := ite_t h hb_27757
          obtain ⟨c_27758, h⟩ := chk_elim h
          refine WC.region ?_
          refine WL.quiet (d := 39) rfl rfl rfl (q_move rfl) ?_
          refine WL.quiet (d := 40) rfl rfl rfl (q_move rfl) ?_
          refine WL.znth (dd := 41) rfl rfl elT_42 rfl rfl hs_26587 c_27758 ?_
          rintro A_27763 r_27764 hA_27765 hl_27766 rfl
          refine WL.quiet (d := 42) rfl rfl rfl (q_load1 oneT_45 rfl (rd_z hz.pv hA_27765 rfl)) ?_
          refine WL.quiet (d := 43) rfl rfl rfl (q_conv Try.underlying45 Try.underlying3 rfl rfl) ?_
          refine WL.quiet (d := 44) rfl rfl rfl (q_and rfl rfl rfl) ?_
          refine WL.quiet (d := 14) rfl rfl rfl (q_assign rfl) ?_
          refine WL.nil ?_
          exact WX.mid (G := Int) (bits .and .i64 (i64 (nth m_26584 v_27702)) 1023) h (.cons rfl (.cons rfl (.cons rfl (.cons rfl (.cons rfl (.cons rfl (.cons rfl (.cons rfl (.cons rfl (.cons rfl .nil)))))))))) (.cons .here (.cons .here .nil))
        · replace h := ite_f h hb_27757
          refine WC.skip ?_
          exact WX.mid (G := Int) 500 h (.cons rfl (.cons rfl (.cons rfl (.cons rfl (.cons rfl (.cons rfl (.cons rfl (.cons rfl (.cons rfl (.cons rfl .nil)))))))))) (.cons .here (.cons .here .nil))
      · rintro w_27754 h
        replace h := (hk_27756 w_27754).symm.trans h
        refine WC.seq ?_
        obtain ⟨c_27768, h⟩ := chk_elim h
        refine WC.region ?_
        refine WL.quiet (d := 45) rfl rfl rfl (q_move rfl) ?_
        refine WL.quiet (d := 46) rfl rfl rfl (q_move rfl) ?_
        refine WL.quiet (d := 47) rfl rfl rfl (q_move rfl) ?_
        refine WL.quiet (d := 48) rfl rfl rfl (q_move rfl) ?_
        refine WL.quiet (d := 49) rfl rfl rfl (q_add rfl rfl rfl) ?_
        refine WL.quiet (d := 50) rfl rfl rfl (q_build (v := (.agg #[(.int .i64 (nth v_27699 v_27702)), (.int .i64 (i64 ((nth v_27699 v_27702) + w_27754)))])) (Eos.parts (l := [.tmp 46, .tmp 49]) (.cons rfl (.cons rfl .nil)) [0, 1]) (fun _ => by kernel_rfl)) ?_
        refine WL.new (dd := 51) rfl rfl rfl (e_buildSlice (cs := [(⟨(nth v_27699 v_27702), i64 ((nth v_27699 v_27702) + w_27754)⟩ : Sapi_Span)].flatMap e35) elT_23 (Eos.parts (l := [.tmp 50]) (.cons rfl .nil) [0]) (fun _ => by kernel_rfl) rfl (by unfold maxLen; omega)) ?_
        intro b_27771 _
        refine WL.eff (d := 52) rfl rfl rfl (e_appendF (enc := e35) (l1 := spans_27694) (l2 := [(⟨(nth v_27699 v_27702), i64 ((nth v_27699 v_27702) + w_27754)⟩ : Sapi_Span)]) elT_23 rfl rfl (.there .here) (fun _ => rfl) rfl rfl (news_row .here) (oc_flat e35_oc _) c_27768) ?_
        rintro ⟨ao_27772, cap_27773⟩ _
        refine WL.quiet (d := 9) rfl rfl rfl (q_assign rfl) ?_
        refine WL.nil ?_
        refine WX.then ?_
        refine WC.region ?_
        refine WL.quiet (d := 53) rfl rfl rfl (q_move rfl) ?_
        refine WL.quiet (d := 54) rfl rfl rfl (q_move rfl) ?_
        refine WL.quiet (d := 55) rfl rfl rfl (q_max rfl rfl rfl) ?_
        refine WL.quiet (d := 56) rfl rfl rfl (q_move rfl) ?_
        refine WL.quiet (d := 57) rfl rfl rfl (q_move rfl) ?_
        refine WL.quiet (d := 58) rfl rfl rfl (q_move rfl) ?_
        refine WL.quiet (d := 59) rfl rfl rfl (q_add rfl rfl rfl) ?_
        refine WL.quiet (d := 60) rfl rfl rfl (q_min rfl rfl rfl) ?_
        refine WL.quiet (d := 10) rfl rfl rfl (q_assign rfl) ?_
        refine WL.quiet (d := 11) rfl rfl rfl (q_assign rfl) ?_
        refine WL.nil ?_
        refine WX.blockNormal ?_
        refine WX.then ?_
        refine WC.region ?_
        refine WL.quiet (d := 61) rfl rfl rfl (q_add rfl rfl rfl) ?_
        refine WL.quiet (d := 30) rfl rfl rfl (q_move rfl) ?_
        refine WL.nil ?_
        exact WX.round (G := Nat × List Sapi_Span × Int × Int × List Int × Int × Option Addr × Nat × Option Addr × Nat) ⟨n_27705, (spans_27694 ++ [(⟨(nth v_27699 v_27702), i64 ((nth v_27699 v_27702) + w_27754)⟩ : Sapi_Span)]), (max lo_27697 (nth v_27699 v_27702)), (min hi_27698 (i64 ((nth v_27699 v_27702) + w_27754))), v_27699, (i64 (v_27702 + 1)), ao_27772, cap_27773, (some ⟨b_27743, 0, none⟩), cap_27701⟩ h (Nat.lt_succ_self _) (.cons rfl (.cons rfl (.cons rfl (.cons rfl (.cons rfl (.cons rfl (.cons rfl (.cons rfl .nil)))))))) (.cons .here (.cons (.there .here) .nil))
    · replace h := ite_f h hb_27707
      refine WC.exit ?_
      refine WX.thenExit ?_
      refine WX.thenExit ?_
      refine WX.blockHit ?_
      exact WX.mid (G := List Sapi_Span × Int × Int × Option Addr × Nat) ⟨spans_27694, lo_27697, hi_27698, ao_27695, cap_27696⟩ h (.cons rfl (.cons rfl (.cons rfl (.cons rfl .nil)))) (.cons .here .nil)
  · rintro spans_27536 lo_27539 hi_27540 ao_27537 cap_27538 h
    replace h := (hk_27542 spans_27536 lo_27539 hi_27540).symm.trans h
    refine WC.seq ?_
    obtain ⟨x_27774, hx_27775, h⟩ := bind_elim h
    refine WC.region ?_
    refine WL.quiet (d := 63) rfl rfl rfl (q_move rfl) ?_
    refine WL.callD (dd := 64) rfl rfl rfl (run_call (l := [.tmp 63, .const (.int .i64 0)]) Try.call15 (.cons rfl (.cons rfl .nil))) (.nil : Sel [row (.slice ao_27537 spans_27536.length cap_27538) 35 2 (spans_27536.flatMap e35)] [] [row (.slice ao_27537 spans_27536.length cap_27538) 35 2 (spans_27536.flatMap e35)]) (fun w hw => by have pz := (hz.call hw (.nil : Sel [row (.slice ao_27537 spans_27536.length cap_27538) 35 2 (spans_27536.flatMap e35)] [] [row (.slice ao_27537 spans_27536.length cap_27538) 35 2 (spans_27536.flatMap e35)])).lend hw (.nil : Sel [row (.slice ao_27537 spans_27536.length cap_27538) 35 2 (spans_27536.flatMap e35)] [] [row (.slice ao_27537 spans_27536.length cap_27538) 35 2 (spans_27536.flatMap e35)]) (B := [row (.slice ao_27537 spans_27536.length cap_27538) 35 2 (spans_27536.flatMap e35)]) (fun _ hx' => ((.cons .here .nil) : Sel _ [row (.slice ao_27537 spans_27536.length cap_27538) 35 2 (spans_27536.flatMap e35)] _).mem hx'); exact w_clock_Meet (Z := _) (ao_1653 := ao_27537) (cap_1654 := cap_27538) (l_1652 := spans_27536) (f_1656 := 0) (r := x_27774) w pz (ZA.row (hw.lent (.nil : Sel [row (.slice ao_27537 spans_27536.length cap_27538) 35 2 (spans_27536.flatMap e35)] [] [row (.slice ao_27537 spans_27536.length cap_27538) 35 2 (spans_27536.flatMap e35)]) (B := [row (.slice ao_27537 spans_27536.length cap_27538) 35 2 (spans_27536.flatMap e35)]) (fun _ hx' => ((.cons .here .nil) : Sel _ [row (.slice ao_27537 spans_27536.length cap_27538) 35 2 (spans_27536.flatMap e35)] _).mem hx') (.head _) _) (RR.flat (enc := e35) (fun _ => rfl) _) ⟨w, pz.1⟩) hx_27775) ?_
    refine WL.quiet (d := 62) rfl rfl rfl (q_move rfl) ?_
    refine WL.quiet (d := 65) rfl rfl rfl (q_extract rfl rfl) ?_
    refine WL.quiet (d := 66) rfl rfl rfl (q_extract rfl rfl) ?_
    refine WL.new (dd := 15) rfl rfl rfl (e_alloc (cs := [(.int .i64 0), (.int .i64 0)]) zeroT_35 rfl) ?_
    intro b_27777 _
    refine WL.eff0 rfl rfl (e_store (vs := [(.int .i64 x_27774.1.fLo), (.int .i64 x_27774.1.fHi)]) (ds := [(.int .i64 x_27774.1.fLo), (.int .i64 x_27774.1.fHi)]) sizT_35 rfl rfl rfl rfl (oc_cons rfl (oc_cons rfl oc_nil)) .here (Nat.le_of_ble_eq_true rfl) rfl) ?_
    refine WL.quiet (d := 16) rfl rfl rfl (q_assign rfl) ?_
    refine WL.nil ?_
    refine WX.then ?_
    refine WC.seq ?_
    refine WC.seq ?_
    refine WC.region ?_
    refine WL.quiet (d := 67) rfl rfl rfl (q_move rfl) ?_
    refine WL.quiet (d := 68) rfl rfl rfl (q_move rfl) ?_
    refine WL.quiet (d := 69) rfl rfl rfl (q_leq rfl rfl) ?_
    refine WL.quiet (d := 70) rfl rfl rfl (q_move rfl) ?_
    refine WL.cut0 True [(7, (.int .i64 (Int.tmod (i64 n_26588) 8))), (9, (.slice ao_27537 spans_27536.length cap_27538)), (10, (.int .i64 lo_27539)), (11, (.int .i64 hi_27540)), (16, (.int .i64 x_27774.2)), (85, (.bool ((decide (lo_27539 ≤ hi_27540)) && (((decide (x_27774.2 ≠ 0)) || (decide (x_27774.1.fLo ≠ lo_27539))) || (decide (x_27774.1.fHi ≠ hi_27540))))))] [stb b_27777 35 [(.int .i64 x_27774.1.fLo), (.int .i64 x_27774.1.fHi)], row (.slice ao_27537 spans_27536.length cap_27538) 35 2 (spans_27536.flatMap e35)] 15 ?_ (fun _ => ?_)
    · rcases Bool.eq_false_or_eq_true (decide (lo_27539 ≤ hi_27540)) with hb' | hb'
      · have hg_27789 := hb'; clear hb'
        refine WL.pin (i := 70) rfl hg_27789 ?_
        refine WL.quiet (d := 71) rfl rfl rfl (q_move rfl) ?_
        refine WL.quiet (d := 72) rfl rfl rfl (q_neq rfl rfl) ?_
        refine WL.quiet (d := 73) rfl rfl rfl (q_move rfl) ?_
        refine WL.cut0 True [(7, (.int .i64 (Int.tmod (i64 n_26588) 8))), (9, (.slice ao_27537 spans_27536.length cap_27538)), (10, (.int .i64 lo_27539)), (11, (.int .i64 hi_27540)), (15, (.pointer (some ⟨b_27777, 0, none⟩))), (16, (.int .i64 x_27774.2)), (70, (.bool true)), (78, (.bool ((decide (x_27774.2 ≠ 0)) || (decide (x_27774.1.fLo ≠ lo_27539)))))] [stb b_27777 35 [(.int .i64 x_27774.1.fLo), (.int .i64 x_27774.1.fHi)], row (.slice ao_27537 spans_27536.length cap_27538) 35 2 (spans_27536.flatMap e35)] 5 ?_ (fun _ => ?_)
        · rcases Bool.eq_false_or_eq_true (decide (x_27774.2 ≠ 0)) with hb' | hb'
          · have hg_27790 := hb'; clear hb'
            refine WL.pin (i := 73) rfl hg_27790 ?_
            refine WL.skip rfl rfl rfl ?_
            refine WL.skip rfl rfl rfl ?_
            refine WL.skip rfl rfl rfl ?_
            refine WL.skip rfl rfl rfl ?_
            refine WL.quiet (d := 78) rfl rfl rfl (q_pickT rfl rfl) ?_
            exact WL.cutEnd () trivial (.cons rfl (.cons rfl (.cons rfl (.cons rfl (.cons rfl (.cons rfl (.cons rfl (.cons (some_bool (or_l hg_27790)) .nil)))))))) (.cons .here (.cons .here .nil))
          · have hg_27791 := hb'; clear hb'
            refine WL.pin (i := 73) rfl hg_27791 ?_
            refine WL.quiet (d := 74) rfl rfl rfl (q_fieldAddr fo_35_0 rfl rfl) ?_
            refine WL.quiet (d := 75) rfl rfl rfl (q_load1 oneT_3 rfl (rd_stb .here rfl)) ?_
            refine WL.quiet (d := 76) rfl rfl rfl (q_move rfl) ?_
            refine WL.quiet (d := 77) rfl rfl rfl (q_neq rfl rfl) ?_
            refine WL.quiet (d := 78) rfl rfl rfl (q_pickF rfl rfl) ?_
            exact WL.cutEnd () trivial (.cons rfl (.cons rfl (.cons rfl (.cons rfl (.cons rfl (.cons rfl (.cons rfl (.cons (some_bool (or_r hg_27791)) .nil)))))))) (.cons .here (.cons .here .nil))
        · skip
          refine WL.quiet (d := 79) rfl rfl rfl (q_move rfl) ?_
          refine WL.cut0 True [(7, (.int .i64 (Int.tmod (i64 n_26588) 8))), (9, (.slice ao_27537 spans_27536.length cap_27538)), (10, (.int .i64 lo_27539)), (11, (.int .i64 hi_27540)), (16, (.int .i64 x_27774.2)), (70, (.bool true)), (84, (.bool (((decide (x_27774.2 ≠ 0)) || (decide (x_27774.1.fLo ≠ lo_27539))) || (decide (x_27774.1.fHi ≠ hi_27540)))))] [stb b_27777 35 [(.int .i64 x_27774.1.fLo), (.int .i64 x_27774.1.fHi)], row (.slice ao_27537 spans_27536.length cap_27538) 35 2 (spans_27536.flatMap e35)] 5 ?_ (fun _ => ?_)
          · rcases Bool.eq_false_or_eq_true ((decide (x_27774.2 ≠ 0)) || (decide (x_27774.1.fLo ≠ lo_27539))) with hb' | hb'
            · have hg_27792 := hb'; clear hb'
              refine WL.pin (i := 79) rfl hg_27792 ?_
              refine WL.skip rfl rfl rfl ?_
              refine WL.skip rfl rfl rfl ?_
              refine WL.skip rfl rfl rfl ?_
              refine WL.skip rfl rfl rfl ?_
              refine WL.quiet (d := 84) rfl rfl rfl (q_pickT rfl rfl) ?_
              exact WL.cutEnd () trivial (.cons rfl (.cons rfl (.cons rfl (.cons rfl (.cons rfl (.cons rfl (.cons (some_bool (or_l hg_27792)) .nil))))))) (.cons .here (.cons .here .nil))
            · have hg_27793 := hb'; clear hb'
              refine WL.pin (i := 79) rfl hg_27793 ?_
              refine WL.quiet (d := 80) rfl rfl rfl (q_fieldAddr fo_35_1 rfl rfl) ?_
              refine WL.quiet (d := 81) rfl rfl rfl (q_load1 oneT_3 rfl (rd_stb .here rfl)) ?_
              refine WL.quiet (d := 82) rfl rfl rfl (q_move rfl) ?_
              refine WL.quiet (d := 83) rfl rfl rfl (q_neq rfl rfl) ?_
              refine WL.quiet (d := 84) rfl rfl rfl (q_pickF rfl rfl) ?_
              exact WL.cutEnd () trivial (.cons rfl (.cons rfl (.cons rfl (.cons rfl (.cons rfl (.cons rfl (.cons (some_bool (or_r hg_27793)) .nil))))))) (.cons .here (.cons .here .nil))
          · skip
            refine WL.quiet (d := 85) rfl rfl rfl (q_pickT rfl rfl) ?_
            exact WL.cutEnd () trivial (.cons rfl (.cons rfl (.cons rfl (.cons rfl (.cons rfl (.cons (some_bool (and_r hg_27789)) .nil)))))) (.cons .here (.cons .here .nil))
      · have hg_27794 := hb'; clear hb'
        refine WL.pin (i := 70) rfl hg_27794 ?_
        refine WL.skip rfl rfl rfl ?_
        refine WL.skip rfl rfl rfl ?_
        refine WL.skip rfl rfl rfl ?_
        refine WL.skip rfl rfl rfl ?_
        refine WL.skip rfl rfl rfl ?_
        refine WL.skip rfl rfl rfl ?_
        refine WL.skip rfl rfl rfl ?_
        refine WL.skip rfl rfl rfl ?_
        refine WL.skip rfl rfl rfl ?_
        refine WL.skip rfl rfl rfl ?_
        refine WL.skip rfl rfl rfl ?_
        refine WL.skip rfl rfl rfl ?_
        refine WL.skip rfl rfl rfl ?_
        refine WL.skip rfl rfl rfl ?_
        refine WL.quiet (d := 85) rfl rfl rfl (q_pickF rfl rfl) ?_
        exact WL.cutEnd () trivial (.cons rfl (.cons rfl (.cons rfl (.cons rfl (.cons rfl (.cons (some_bool (and_l hg_27794)) .nil)))))) (.cons .here (.cons .here .nil))
    · skip
      refine WL.quiet (d := 86) rfl rfl rfl (q_move rfl) ?_
      refine WL.cut0 True [(7, (.int .i64 (Int.tmod (i64 n_26588) 8))), (9, (.slice ao_27537 spans_27536.length cap_27538)), (94, (.bool (((decide (lo_27539 ≤ hi_27540)) && (((decide (x_27774.2 ≠ 0)) || (decide (x_27774.1.fLo ≠ lo_27539))) || (decide (x_27774.1.fHi ≠ hi_27540)))) || ((decide (lo_27539 > hi_27540)) && (decide (x_27774.2 ≠ 6))))))] [stb b_27777 35 [(.int .i64 x_27774.1.fLo), (.int .i64 x_27774.1.fHi)], row (.slice ao_27537 spans_27536.length cap_27538) 35 2 (spans_27536.flatMap e35)] 8 ?_ (fun _ => ?_)
      · rcases Bool.eq_false_or_eq_true ((decide (lo_27539 ≤ hi_27540)) && (((decide (x_27774.2 ≠ 0)) || (decide (x_27774.1.fLo ≠ lo_27539))) || (decide (x_27774.1.fHi ≠ hi_27540)))) with hb' | hb'
        · have hg_27795 := hb'; clear hb'
          refine WL.pin (i := 86) rfl hg_27795 ?_
          refine WL.skip rfl rfl rfl ?_
          refine WL.skip rfl rfl rfl ?_
          refine WL.skip rfl rfl rfl ?_
          refine WL.skip rfl rfl rfl ?_
          refine WL.skip rfl rfl rfl ?_
          refine WL.skip rfl rfl rfl ?_
          refine WL.skip rfl rfl rfl ?_
          refine WL.quiet (d := 94) rfl rfl rfl (q_pickT rfl rfl) ?_
          exact WL.cutEnd () trivial (.cons rfl (.cons rfl (.cons (some_bool (or_l hg_27795)) .nil))) (.cons .here (.cons .here .nil))
        · have hg_27796 := hb'; clear hb'
          refine WL.pin (i := 86) rfl hg_27796 ?_
          refine WL.quiet (d := 87) rfl rfl rfl (q_move rfl) ?_
          refine WL.quiet (d := 88) rfl rfl rfl (q_move rfl) ?_
          refine WL.quiet (d := 89) rfl rfl rfl (q_gtr rfl rfl) ?_
          refine WL.quiet (d := 90) rfl rfl rfl (q_move rfl) ?_
          refine WL.cut0 True [(7, (.int .i64 (Int.tmod (i64 n_26588) 8))), (9, (.slice ao_27537 spans_27536.length cap_27538)), (86, (.bool false)), (93, (.bool ((decide (lo_27539 > hi_27540)) && (decide (x_27774.2 ≠ 6)))))] [stb b_27777 35 [(.int .i64 x_27774.1.fLo), (.int .i64 x_27774.1.fHi)], row (.slice ao_27537 spans_27536.length cap_27538) 35 2 (spans_27536.flatMap e35)] 3 ?_ (fun _ => ?_)
          · rcases Bool.eq_false_or_eq_true (decide (lo_27539 > hi_27540)) with hb' | hb'
            · have hg_27797 := hb'; clear hb'
              refine WL.pin (i := 90) rfl hg_27797 ?_
              refine WL.quiet (d := 91) rfl rfl rfl (q_move rfl) ?_
              refine WL.quiet (d := 92) rfl rfl rfl (q_neq rfl rfl) ?_
              refine WL.quiet (d := 93) rfl rfl rfl (q_pickT rfl rfl) ?_
              exact WL.cutEnd () trivial (.cons rfl (.cons rfl (.cons rfl (.cons (some_bool (and_r hg_27797)) .nil)))) (.cons .here (.cons .here .nil))
            · have hg_27798 := hb'; clear hb'
              refine WL.pin (i := 90) rfl hg_27798 ?_
              refine WL.skip rfl rfl rfl ?_
              refine WL.skip rfl rfl rfl ?_
              refine WL.quiet (d := 93) rfl rfl rfl (q_pickF rfl rfl) ?_
              exact WL.cutEnd () trivial (.cons rfl (.cons rfl (.cons rfl (.cons (some_bool (and_l hg_27798)) .nil)))) (.cons .here (.cons .here .nil))
          · skip
            refine WL.quiet (d := 94) rfl rfl rfl (q_pickF rfl rfl) ?_
            exact WL.cutEnd () trivial (.cons rfl (.cons rfl (.cons (some_bool (or_r hg_27796)) .nil))) (.cons .here (.cons .here .nil))
      · skip
        refine WL.nil ?_
        refine WX.then ?_
        refine WC.cond rfl (fun hb_27799 => ?_) (fun hb_27799 => ?_)
        · replace h := ite_t h hb_27799
          refine WC.seq ?_
          refine WC.region ?_
          refine WL.quiet (d := 6) rfl rfl rfl (q_assign rfl) ?_
          refine WL.nil ?_
          refine WX.then ?_
          refine WC.ret ?_
          refine WX.thenRet ?_
          obtain rfl := Option.some.inj h
          refine WX.bpRet Try.results8 (.tmp rfl .nil) (fun w hw => ?_)
          exact ⟨ret1 rfl, hw.sub .nil⟩
        · replace h := ite_f h hb_27799
          refine WC.skip ?_
          refine WX.then ?_
          obtain ⟨k_27900, hk_27901, h⟩ := jp0_elim h
          refine WC.seqMid0 ((k_27900 = some r)) ([]) ([]) ?_ ?_
          · skip
            refine WC.seq ?_
            refine WC.region ?_
            refine WL.quiet (d := 17) rfl rfl rfl (q_assign rfl) ?_
            refine WL.nil ?_
            refine WX.then ?_
            refine WC.block ?_
            refine WC.loop2 (fun (n_27968 : Nat) (k_27967 : Int) => (m_law33_ClockMore_L4 n_26588 spans_27536 k_27900 n_27968 k_27967 = some r)) (fun (n_27968 : Nat) (k_27967 : Int) => [(7, (.int .i64 (Int.tmod (i64 n_26588) 8))), (9, (.slice ao_27537 spans_27536.length cap_27538)), (17, (.int .i64 k_27967))]) (fun (n_27968 : Nat) (k_27967 : Int) => [row (.slice ao_27537 spans_27536.length cap_27538) 35 2 (spans_27536.flatMap e35)]) (fun (n_27968 : Nat) (k_27967 : Int) => n_27968) ⟨FUEL, 1⟩ h (.cons rfl (.cons rfl (.cons rfl .nil))) (.cons (.there .here) .nil) ?_
            rintro n_27968 k_27967 h
            obtain ⟨n_27969, rfl⟩ := m_law33_ClockMore_L4_fuel h
            rw [m_law33_ClockMore_L4] at h
            refine WC.seq ?_
            refine WC.seq ?_
            refine WC.region ?_
            refine WL.quiet (d := 95) rfl rfl rfl (q_move rfl) ?_
            refine WL.quiet (d := 96) rfl rfl rfl (q_move rfl) ?_
            refine WL.quiet (d := 97) rfl rfl rfl (q_leq rfl rfl) ?_
            refine WL.nil ?_
            refine WX.then ?_
            refine WC.cond rfl (fun hb_27971 => ?_) (fun hb_27971 => ?_)
            · replace h := ite_t h hb_27971
              refine WC.skip ?_
              refine WX.then ?_
              refine WC.seq ?_
              refine WC.block ?_
              refine WC.seq ?_
              obtain ⟨x_27987, hx_27988, h⟩ := bind_elim h
              refine WC.region ?_
              refine WL.quiet (d := 101) rfl rfl rfl (q_move rfl) ?_
              refine WL.quiet (d := 102) rfl rfl rfl (q_move rfl) ?_
              refine WL.quiet (d := 103) rfl rfl rfl (q_sub rfl rfl rfl) ?_
              refine WL.callD (dd := 104) rfl rfl rfl (run_call (l := [.tmp 101, .tmp 103]) Try.call15 (.cons rfl (.cons rfl .nil))) (.nil : Sel [row (.slice ao_27537 spans_27536.length cap_27538) 35 2 (spans_27536.flatMap e35)] [] [row (.slice ao_27537 spans_27536.length cap_27538) 35 2 (spans_27536.flatMap e35)]) (fun w hw => by have pz := (hz.call hw (.nil : Sel [row (.slice ao_27537 spans_27536.length cap_27538) 35 2 (spans_27536.flatMap e35)] [] [row (.slice ao_27537 spans_27536.length cap_27538) 35 2 (spans_27536.flatMap e35)])).lend hw (.nil : Sel [row (.slice ao_27537 spans_27536.length cap_27538) 35 2 (spans_27536.flatMap e35)] [] [row (.slice ao_27537 spans_27536.length cap_27538) 35 2 (spans_27536.flatMap e35)]) (B := [row (.slice ao_27537 spans_27536.length cap_27538) 35 2 (spans_27536.flatMap e35)]) (fun _ hx' => ((.cons .here .nil) : Sel _ [row (.slice ao_27537 spans_27536.length cap_27538) 35 2 (spans_27536.flatMap e35)] _).mem hx'); exact w_clock_Meet (Z := _) (ao_1653 := ao_27537) (cap_1654 := cap_27538) (l_1652 := spans_27536) (f_1656 := (i64 (k_27967 - 1))) (r := x_27987) w pz (ZA.row (hw.lent (.nil : Sel [row (.slice ao_27537 spans_27536.length cap_27538) 35 2 (spans_27536.flatMap e35)] [] [row (.slice ao_27537 spans_27536.length cap_27538) 35 2 (spans_27536.flatMap e35)]) (B := [row (.slice ao_27537 spans_27536.length cap_27538) 35 2 (spans_27536.flatMap e35)]) (fun _ hx' => ((.cons .here .nil) : Sel _ [row (.slice ao_27537 spans_27536.length cap_27538) 35 2 (spans_27536.flatMap e35)] _).mem hx') (.head _) _) (RR.flat (enc := e35) (fun _ => rfl) _) ⟨w, pz.1⟩) hx_27988) ?_
              refine WL.quiet (d := 100) rfl rfl rfl (q_move rfl) ?_
              refine WL.quiet (d := 105) rfl rfl rfl (q_extract rfl rfl) ?_
              refine WL.quiet (d := 106) rfl rfl rfl (q_extract rfl rfl) ?_
              refine WL.new (dd := 18) rfl rfl rfl (e_alloc (cs := [(.int .i64 0), (.int .i64 0)]) zeroT_35 rfl) ?_
              intro b_27990 _
              refine WL.eff0 rfl rfl (e_store (vs := [(.int .i64 x_27987.1.fLo), (.int .i64 x_27987.1.fHi)]) (ds := [(.int .i64 x_27987.1.fLo), (.int .i64 x_27987.1.fHi)]) sizT_35 rfl rfl rfl rfl (oc_cons rfl (oc_cons rfl oc_nil)) .here (Nat.le_of_ble_eq_true rfl) rfl) ?_
              refine WL.quiet (d := 19) rfl rfl rfl (q_assign rfl) ?_
              refine WL.nil ?_
              refine WX.then ?_
              refine WC.seq ?_
              obtain ⟨x_27991, hx_27992, h⟩ := bind_elim h
              refine WC.region ?_
              refine WL.quiet (d := 108) rfl rfl rfl (q_move rfl) ?_
              refine WL.quiet (d := 109) rfl rfl rfl (q_move rfl) ?_
              refine WL.callD (dd := 110) rfl rfl rfl (run_call (l := [.tmp 108, .tmp 109]) Try.call15 (.cons rfl (.cons rfl .nil))) (.nil : Sel [stb b_27990 35 [(.int .i64 x_27987.1.fLo), (.int .i64 x_27987.1.fHi)], row (.slice ao_27537 spans_27536.length cap_27538) 35 2 (spans_27536.flatMap e35)] [] [stb b_27990 35 [(.int .i64 x_27987.1.fLo), (.int .i64 x_27987.1.fHi)], row (.slice ao_27537 spans_27536.length cap_27538) 35 2 (spans_27536.flatMap e35)]) (fun w hw => by have pz := (hz.call hw (.nil : Sel [stb b_27990 35 [(.int .i64 x_27987.1.fLo), (.int .i64 x_27987.1.fHi)], row (.slice ao_27537 spans_27536.length cap_27538) 35 2 (spans_27536.flatMap e35)] [] [stb b_27990 35 [(.int .i64 x_27987.1.fLo), (.int .i64 x_27987.1.fHi)], row (.slice ao_27537 spans_27536.length cap_27538) 35 2 (spans_27536.flatMap e35)])).lend hw (.nil : Sel [stb b_27990 35 [(.int .i64 x_27987.1.fLo), (.int .i64 x_27987.1.fHi)], row (.slice ao_27537 spans_27536.length cap_27538) 35 2 (spans_27536.flatMap e35)] [] [stb b_27990 35 [(.int .i64 x_27987.1.fLo), (.int .i64 x_27987.1.fHi)], row (.slice ao_27537 spans_27536.length cap_27538) 35 2 (spans_27536.flatMap e35)]) (B := [row (.slice ao_27537 spans_27536.length cap_27538) 35 2 (spans_27536.flatMap e35)]) (fun _ hx' => ((.cons (.there .here) .nil) : Sel _ [row (.slice ao_27537 spans_27536.length cap_27538) 35 2 (spans_27536.flatMap e35)] _).mem hx'); exact w_clock_Meet (Z := _) (ao_1653 := ao_27537) (cap_1654 := cap_27538) (l_1652 := spans_27536) (f_1656 := k_27967) (r := x_27991) w pz (ZA.row (hw.lent (.nil : Sel [stb b_27990 35 [(.int .i64 x_27987.1.fLo), (.int .i64 x_27987.1.fHi)], row (.slice ao_27537 spans_27536.length cap_27538) 35 2 (spans_27536.flatMap e35)] [] [stb b_27990 35 [(.int .i64 x_27987.1.fLo), (.int .i64 x_27987.1.fHi)], row (.slice ao_27537 spans_27536.length cap_27538) 35 2 (spans_27536.flatMap e35)]) (B := [row (.slice ao_27537 spans_27536.length cap_27538) 35 2 (spans_27536.flatMap e35)]) (fun _ hx' => ((.cons (.there .here) .nil) : Sel _ [row (.slice ao_27537 spans_27536.length cap_27538) 35 2 (spans_27536.flatMap e35)] _).mem hx') (.head _) _) (RR.flat (enc := e35) (fun _ => rfl) _) ⟨w, pz.1⟩) hx_27992) ?_
              refine WL.quiet (d := 107) rfl rfl rfl (q_move rfl) ?_
              refine WL.quiet (d := 111) rfl rfl rfl (q_extract rfl rfl) ?_
              refine WL.quiet (d := 112) rfl rfl rfl (q_extract rfl rfl) ?_
              refine WL.new (dd := 20) rfl rfl rfl (e_alloc (cs := [(.int .i64 0), (.int .i64 0)]) zeroT_35 rfl) ?_
              intro b_27994 _
              refine WL.eff0 rfl rfl (e_store (vs := [(.int .i64 x_27991.1.fLo), (.int .i64 x_27991.1.fHi)]) (ds := [(.int .i64 x_27991.1.fLo), (.int .i64 x_27991.1.fHi)]) sizT_35 rfl rfl rfl rfl (oc_cons rfl (oc_cons rfl oc_nil)) .here (Nat.le_of_ble_eq_true rfl) rfl) ?_
              refine WL.quiet (d := 21) rfl rfl rfl (q_assign rfl) ?_
              refine WL.nil ?_
              refine WX.then ?_
              refine WC.seq ?_
              refine WC.region ?_
              refine WL.quiet (d := 113) rfl rfl rfl (q_move rfl) ?_
              refine WL.quiet (d := 114) rfl rfl rfl (q_eql rfl rfl) ?_
              refine WL.quiet (d := 115) rfl rfl rfl (q_move rfl) ?_
              refine WL.cut0 True [(7, (.int .i64 (Int.tmod (i64 n_26588) 8))), (9, (.slice ao_27537 spans_27536.length cap_27538)), (17, (.int .i64 k_27967)), (132, (.bool ((decide (x_27987.2 = 0)) && (((decide (x_27991.2 ≠ 0)) || (decide (x_27991.1.fLo > x_27987.1.fLo))) || (decide (x_27991.1.fHi < x_27987.1.fHi))))))] [stb b_27994 35 [(.int .i64 x_27991.1.fLo), (.int .i64 x_27991.1.fHi)], stb b_27990 35 [(.int .i64 x_27987.1.fLo), (.int .i64 x_27987.1.fHi)], row (.slice ao_27537 spans_27536.length cap_27538) 35 2 (spans_27536.flatMap e35)] 17 ?_ (fun _ => ?_)
              · rcases Bool.eq_false_or_eq_true (decide (x_27987.2 = 0)) with hb' | hb'
                · have hg_27995 := hb'; clear hb'
                  refine WL.pin (i := 115) rfl hg_27995 ?_
                  refine WL.quiet (d := 116) rfl rfl rfl (q_move rfl) ?_
                  refine WL.quiet (d := 117) rfl rfl rfl (q_neq rfl rfl) ?_
                  refine WL.quiet (d := 118) rfl rfl rfl (q_move rfl) ?_
                  refine WL.cut0 True [(7, (.int .i64 (Int.tmod (i64 n_26588) 8))), (9, (.slice ao_27537 spans_27536.length cap_27538)), (17, (.int .i64 k_27967)), (18, (.pointer (some ⟨b_27990, 0, none⟩))), (20, (.pointer (some ⟨b_27994, 0, none⟩))), (115, (.bool true)), (124, (.bool ((decide (x_27991.2 ≠ 0)) || (decide (x_27991.1.fLo > x_27987.1.fLo)))))] [stb b_27994 35 [(.int .i64 x_27991.1.fLo), (.int .i64 x_27991.1.fHi)], stb b_27990 35 [(.int .i64 x_27987.1.fLo), (.int .i64 x_27987.1.fHi)], row (.slice ao_27537 spans_27536.length cap_27538) 35 2 (spans_27536.flatMap e35)] 6 ?_ (fun _ => ?_)
                  · rcases Bool.eq_false_or_eq_true (decide (x_27991.2 ≠ 0)) with hb' | hb'
                    · have hg_27996 := hb'; clear hb'
                      refine WL.pin (i := 118) rfl hg_27996 ?_
                      refine WL.skip rfl rfl rfl ?_
                      refine WL.skip rfl rfl rfl ?_
                      refine WL.skip rfl rfl rfl ?_
                      refine WL.skip rfl rfl rfl ?_
                      refine WL.skip rfl rfl rfl ?_
                      refine WL.quiet (d := 124) rfl rfl rfl (q_pickT rfl rfl) ?_
                      exact WL.cutEnd () trivial (.cons rfl (.cons rfl (.cons rfl (.cons rfl (.cons rfl (.cons rfl (.cons (some_bool (or_l hg_27996)) .nil))))))) (.cons .here (.cons .here (.cons .here .nil)))
                    · have hg_27997 := hb'; clear hb'
                      refine WL.pin (i := 118) rfl hg_27997 ?_
                      refine WL.quiet (d := 119) rfl rfl rfl (q_fieldAddr fo_35_0 rfl rfl) ?_
                      refine WL.quiet (d := 120) rfl rfl rfl (q_load1 oneT_3 rfl (rd_stb .here rfl)) ?_
                      refine WL.quiet (d := 121) rfl rfl rfl (q_fieldAddr fo_35_0 rfl rfl) ?_
                      refine WL.quiet (d := 122) rfl rfl rfl (q_load1 oneT_3 rfl (rd_stb (.there .here) rfl)) ?_
                      refine WL.quiet (d := 123) rfl rfl rfl (q_gtr rfl rfl) ?_
                      refine WL.quiet (d := 124) rfl rfl rfl (q_pickF rfl rfl) ?_
                      exact WL.cutEnd () trivial (.cons rfl (.cons rfl (.cons rfl (.cons rfl (.cons rfl (.cons rfl (.cons (some_bool (or_r hg_27997)) .nil))))))) (.cons .here (.cons .here (.cons .here .nil)))
                  · skip
                    refine WL.quiet (d := 125) rfl rfl rfl (q_move rfl) ?_
                    refine WL.cut0 True [(7, (.int .i64 (Int.tmod (i64 n_26588) 8))), (9, (.slice ao_27537 spans_27536.length cap_27538)), (17, (.int .i64 k_27967)), (115, (.bool true)), (131, (.bool (((decide (x_27991.2 ≠ 0)) || (decide (x_27991.1.fLo > x_27987.1.fLo))) || (decide (x_27991.1.fHi < x_27987.1.fHi)))))] [stb b_27994 35 [(.int .i64 x_27991.1.fLo), (.int .i64 x_27991.1.fHi)], stb b_27990 35 [(.int .i64 x_27987.1.fLo), (.int .i64 x_27987.1.fHi)], row (.slice ao_27537 spans_27536.length cap_27538) 35 2 (spans_27536.flatMap e35)] 6 ?_ (fun _ => ?_)
                    · rcases Bool.eq_false_or_eq_true ((decide (x_27991.2 ≠ 0)) || (decide (x_27991.1.fLo > x_27987.1.fLo))) with hb' | hb'
                      · have hg_27998 := hb'; clear hb'
                        refine WL.pin (i := 125) rfl hg_27998 ?_
                        refine WL.skip rfl rfl rfl ?_
                        refine WL.skip rfl rfl rfl ?_
                        refine WL.skip rfl rfl rfl ?_
                        refine WL.skip rfl rfl rfl ?_
                        refine WL.skip rfl rfl rfl ?_
                        refine WL.quiet (d := 131) rfl rfl rfl (q_pickT rfl rfl) ?_
                        exact WL.cutEnd () trivial (.cons rfl (.cons rfl (.cons rfl (.cons rfl (.cons (some_bool (or_l hg_27998)) .nil))))) (.cons .here (.cons .here (.cons .here .nil)))
                      · have hg_27999 := hb'; clear hb'
                        refine WL.pin (i := 125) rfl hg_27999 ?_
                        refine WL.quiet (d := 126) rfl rfl rfl (q_fieldAddr fo_35_1 rfl rfl) ?_
                        refine WL.quiet (d := 127) rfl rfl rfl (q_load1 oneT_3 rfl (rd_stb .here rfl)) ?_
                        refine WL.quiet (d := 128) rfl rfl rfl (q_fieldAddr fo_35_1 rfl rfl) ?_
                        refine WL.quiet (d := 129) rfl rfl rfl (q_load1 oneT_3 rfl (rd_stb (.there .here) rfl)) ?_
                        refine WL.quiet (d := 130) rfl rfl rfl (q_lss rfl rfl) ?_
                        refine WL.quiet (d := 131) rfl rfl rfl (q_pickF rfl rfl) ?_
                        exact WL.cutEnd () trivial (.cons rfl (.cons rfl (.cons rfl (.cons rfl (.cons (some_bool (or_r hg_27999)) .nil))))) (.cons .here (.cons .here (.cons .here .nil)))
                    · skip
                      refine WL.quiet (d := 132) rfl rfl rfl (q_pickT rfl rfl) ?_
                      exact WL.cutEnd () trivial (.cons rfl (.cons rfl (.cons rfl (.cons (some_bool (and_r hg_27995)) .nil)))) (.cons .here (.cons .here (.cons .here .nil)))
                · have hg_28000 := hb'; clear hb'
                  refine WL.pin (i := 115) rfl hg_28000 ?_
                  refine WL.skip rfl rfl rfl ?_
                  refine WL.skip rfl rfl rfl ?_
                  refine WL.skip rfl rfl rfl ?_
                  refine WL.skip rfl rfl rfl ?_
                  refine WL.skip rfl rfl rfl ?_
                  refine WL.skip rfl rfl rfl ?_
                  refine WL.skip rfl rfl rfl ?_
                  refine WL.skip rfl rfl rfl ?_
                  refine WL.skip rfl rfl rfl ?_
                  refine WL.skip rfl rfl rfl ?_
                  refine WL.skip rfl rfl rfl ?_
                  refine WL.skip rfl rfl rfl ?_
                  refine WL.skip rfl rfl rfl ?_
                  refine WL.skip rfl rfl rfl ?_
                  refine WL.skip rfl rfl rfl ?_
                  refine WL.skip rfl rfl rfl ?_
                  refine WL.quiet (d := 132) rfl rfl rfl (q_pickF rfl rfl) ?_
                  exact WL.cutEnd () trivial (.cons rfl (.cons rfl (.cons rfl (.cons (some_bool (and_l hg_28000)) .nil)))) (.cons .here (.cons .here (.cons .here .nil)))
              · skip
                refine WL.nil ?_
                refine WX.then ?_
                refine WC.cond rfl (fun hb_28001 => ?_) (fun hb_28001 => ?_)
                · replace h := ite_t h hb_28001
                  refine WC.seq ?_
                  refine WC.region ?_
                  refine WL.quiet (d := 6) rfl rfl rfl (q_assign rfl) ?_
                  refine WL.nil ?_
                  refine WX.then ?_
                  refine WC.ret ?_
                  refine WX.blockRet ?_
                  refine WX.thenRet ?_
                  refine WX.thenRet ?_
                  refine WX.blockRet ?_
                  refine WX.thenRet ?_
                  obtain rfl := Option.some.inj h
                  refine WX.bpRet Try.results8 (.tmp rfl .nil) (fun w hw => ?_)
                  exact ⟨ret1 rfl, hw.sub .nil⟩
                · replace h := ite_f h hb_28001
                  refine WC.skip ?_
                  refine WX.blockNormal ?_
                  refine WX.then ?_
                  refine WC.region ?_
                  refine WL.quiet (d := 98) rfl rfl rfl (q_move rfl) ?_
                  refine WL.quiet (d := 99) rfl rfl rfl (q_add rfl rfl rfl) ?_
                  refine WL.quiet (d := 17) rfl rfl rfl (q_assign rfl) ?_
                  refine WL.nil ?_
                  exact WX.round (G := Nat × Int) ⟨n_27969, (i64 (k_27967 + 1))⟩ h (Nat.lt_succ_self _) (.cons rfl (.cons rfl (.cons rfl .nil))) (.cons (.there (.there .here)) .nil)
            · replace h := ite_f h hb_27971
              refine WC.exit ?_
              refine WX.thenExit ?_
              refine WX.thenExit ?_
              refine WX.blockHit ?_
              exact WX.mid (G := Unit) () h .nil .nil
          · rintro  h
            replace h := hk_27901.symm.trans h
            refine WC.seq ?_
            obtain ⟨x_28002, hx_28003, h⟩ := bind_elim h
            refine WC.region ?_
            refine WL.callD (dd := 133) rfl rfl rfl (run_call (l := []) Try.call10 .nil) (.nil : Sel [] [] []) (fun w hw => by have pz := (hz.call hw (.nil : Sel [] [] [])); exact w_law33_awake (Z := _)   (r := x_28002) w pz  hx_28003) ?_
            refine WL.quiet (d := 6) rfl rfl rfl (q_assign rfl) ?_
            refine WL.nil ?_
            refine WX.then ?_
            refine WC.ret ?_
            obtain rfl := Option.some.inj h
            refine WX.bpRet Try.results8 (.tmp rfl .nil) (fun w hw => ?_)
            exact ⟨ret1 rfl, hw.sub .nil⟩
end Go.Proofs.Ytkhiiafgikioiaa
