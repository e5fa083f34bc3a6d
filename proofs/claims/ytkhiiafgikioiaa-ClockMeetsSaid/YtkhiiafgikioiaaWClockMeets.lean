/- A part of this claim's proof: models of the functions that the law reaches, with the proof that the functions compute them; plain laws about the models. No conditions beyond those in each theorem's statement. -/
import Derived.Test.YtkhiiafgikioiaaW33b
namespace Go.Proofs.Ytkhiiafgikioiaa
open Go Go.RowKit Sep
set_option linter.all false
def m_law33_ClockMeets_L3 (x_24926 : List Int) (m_23534 : List Int) (k_25166 : (List Sapi_Span) → Option Bool) : Nat → (List Int) → Int → (List Sapi_Span) → Option Bool
  | 0, _, _, _ => none
  | n_25326 + 1, v_25316, v_25319, c_25321 => if decide (v_25319 < ((x_24926.length : Nat) : Int)) then chk ((0 : Int) ≤ v_25319 ∧ v_25319 < ((v_25316.length : Nat) : Int)) (jp1 (fun (w_25375 : Int) => chk ((((c_25321 ++ [(⟨(nth v_25316 v_25319), i64 ((nth v_25316 v_25319) + w_25375)⟩ : Sapi_Span)]).length : Nat) : Int) * 16 ≤ 140737488355328 ∧ (((c_25321 ++ [(⟨(nth v_25316 v_25319), i64 ((nth v_25316 v_25319) + w_25375)⟩ : Sapi_Span)]).length : Nat) : Int) ≤ 4611686018427387904) (m_law33_ClockMeets_L3 x_24926 m_23534 k_25166 n_25326 v_25316 (i64 (v_25319 + 1)) (c_25321 ++ [(⟨(nth v_25316 v_25319), i64 ((nth v_25316 v_25319) + w_25375)⟩ : Sapi_Span)]))) fun k_25376 => if decide (v_25319 < ((m_23534.length : Nat) : Int)) then chk ((0 : Int) ≤ v_25319 ∧ v_25319 < ((m_23534.length : Nat) : Int)) (k_25376 (bits .and .i64 (i64 (nth m_23534 v_25319)) 255)) else k_25376 0) else k_25166 c_25321
theorem m_law33_ClockMeets_L3_fuel {n : Nat} {x_24926 : List Int} {m_23534 : List Int} {k_25166 : (List Sapi_Span) → Option Bool} {v_25316 : List Int} {v_25319 : Int} {c_25321 : List Sapi_Span} {r : Bool} (h : m_law33_ClockMeets_L3 x_24926 m_23534 k_25166 n v_25316 v_25319 c_25321 = some r) : ∃ m, n = m + 1 := by
  cases n with
  | zero => cases h
  | succ m => exact ⟨m, rfl⟩

def m_law33_ClockMeets_L4 (c_25163 : List Sapi_Span) (n_23538 : Int) (x_25395 : Sapi_Span × Int) (k_25575 : Bool → Bool → Bool → (List Sapi_Span) → Option Bool) : Nat → Bool → Bool → Bool → (List Sapi_Span) → Int → Option Bool
  | 0, _, _, _, _, _ => none
  | n_25686 + 1, some_25678, lo_25679, hi_25680, v_25681, v_25684 => if decide (v_25684 < ((c_25163.length : Nat) : Int)) then chk ((0 : Int) ≤ v_25684 ∧ v_25684 < ((v_25681.length : Nat) : Int)) ((if some_25678 then some true else (m_law33_ClockMeets_1 ((nth v_25681 v_25684).fLo) v_25681).bind fun x_25723 => some (decide (x_25723 ≥ (i64 (((v_25681.length : Nat) : Int) - (Int.tmod (i64 n_23538) 8)))))).bind fun b_25725 => (if b_25725 then some true else (m_law33_ClockMeets_1 ((nth v_25681 v_25684).fHi) v_25681).bind fun x_25727 => some (decide (x_25727 ≥ (i64 (((v_25681.length : Nat) : Int) - (Int.tmod (i64 n_23538) 8)))))).bind fun b_25729 => m_law33_ClockMeets_L4 c_25163 n_23538 x_25395 k_25575 n_25686 b_25729 (lo_25679 || (decide (((nth v_25681 v_25684).fLo) = x_25395.1.fLo))) (hi_25680 || (decide (((nth v_25681 v_25684).fHi) = x_25395.1.fHi))) v_25681 (i64 (v_25684 + 1))) else k_25575 some_25678 lo_25679 hi_25680 v_25681
theorem m_law33_ClockMeets_L4_fuel {n : Nat} {c_25163 : List Sapi_Span} {n_23538 : Int} {x_25395 : Sapi_Span × Int} {k_25575 : Bool → Bool → Bool → (List Sapi_Span) → Option Bool} {some_25678 : Bool} {lo_25679 : Bool} {hi_25680 : Bool} {v_25681 : List Sapi_Span} {v_25684 : Int} {r : Bool} (h : m_law33_ClockMeets_L4 c_25163 n_23538 x_25395 k_25575 n some_25678 lo_25679 hi_25680 v_25681 v_25684 = some r) : ∃ m, n = m + 1 := by
  cases n with
  | zero => cases h
  | succ m => exact ⟨m, rfl⟩

/-- nacellelaw33.ClockMeets -/
def m_law33_ClockMeets (l_23530 : List Int) (m_23534 : List Int) (n_23538 : Int) (at_23539 : Int) : Option Bool :=
  (m_law33_times l_23530 (Int.tmod (i64 n_23538) 8)).bind fun x_24926 => jp1 (fun (c_25163 : List Sapi_Span) => (m_clock_Meet c_25163 (Int.tmod (i64 n_23538) 8)).bind fun x_25395 => jp4 (fun (some_25569 : Bool) (lo_25570 : Bool) (hi_25571 : Bool) (c_25572 : List Sapi_Span) => if !some_25569 then (if (decide (x_25395.2 = 6)) && (decide (x_25395.1 = (⟨0, 0⟩ : Sapi_Span))) then (m_law33_ClockMeets_1 (Int.tmod (i64 at_23539) 1300) c_25572).bind fun x_25770 => some (decide (x_25770 < (i64 (((c_25572.length : Nat) : Int) - (Int.tmod (i64 n_23538) 8))))) else some false).bind fun b_25772 => (if b_25772 then (m_law33_awake).bind fun x_25774 => some x_25774 else some false).bind fun b_25776 => some b_25776 else (if (((decide (x_25395.2 ≠ 0)) || (!lo_25570)) || (!hi_25571)) || (decide (x_25395.1.fLo > x_25395.1.fHi)) then some true else (m_law33_ClockMeets_1 x_25395.1.fLo c_25572).bind fun x_25819 => some (decide (x_25819 < (i64 (((c_25572.length : Nat) : Int) - (Int.tmod (i64 n_23538) 8)))))).bind fun b_25821 => (if b_25821 then some true else (m_law33_ClockMeets_1 x_25395.1.fHi c_25572).bind fun x_25823 => some (decide (x_25823 < (i64 (((c_25572.length : Nat) : Int) - (Int.tmod (i64 n_23538) 8)))))).bind fun b_25825 => if b_25825 then some false else (m_law33_ClockMeets_1 (Int.tmod (i64 at_23539) 1300) c_25572).bind fun x_25847 => (if (decide (x_25847 < (i64 (((c_25572.length : Nat) : Int) - (Int.tmod (i64 n_23538) 8))))) || ((decide (x_25395.1.fLo ≤ (Int.tmod (i64 at_23539) 1300))) && (decide ((Int.tmod (i64 at_23539) 1300) ≤ x_25395.1.fHi))) then (m_law33_awake).bind fun x_25849 => some x_25849 else some false).bind fun b_25851 => some b_25851) fun k_25575 => m_law33_ClockMeets_L4 c_25163 n_23538 x_25395 k_25575 FUEL false false false c_25163 0) fun k_25166 => m_law33_ClockMeets_L3 x_24926 m_23534 k_25166 FUEL x_24926 0 ([] : List Sapi_Span)

set_option maxRecDepth 20000 in
theorem w_law33_ClockMeets (Z : Zp) (ao_23531 : Option Addr) (cap_23532 : Nat) (ao_23535 : Option Addr) (cap_23536 : Nat) (l_23530 : List Int) (m_23534 : List Int) (n_23538 : Int) (at_23539 : Int) (r : Bool) (w₀ : World) (hz : PZ [] w₀ Z)
    (hs_23533 : ZS Z 1 (fun r x => r = e45 x) ao_23531 cap_23532 l_23530)
    (hs_23537 : ZS Z 1 (fun r x => r = e45 x) ao_23535 cap_23536 m_23534)
    (h : m_law33_ClockMeets l_23530 m_23534 n_23538 at_23539 = some r) :
    Calls Try.prog 6 #[(.slice ao_23531 l_23530.length cap_23532), (.slice ao_23535 m_23534.length cap_23536), (.int .u8 n_23538), (.int .i16 at_23539)] w₀ fun e w' => e = .returned (.bool r) ∧ Hp [] w₀ w' [] := by
  unfold m_law33_ClockMeets at h
  refine Calls.ofWC (vs := [(.slice ao_23531 l_23530.length cap_23532), (.slice ao_23535 m_23534.length cap_23536), (.int .u8 n_23538), (.int .i16 at_23539)]) (pre := []) (env := [(0, (.slice ao_23531 l_23530.length cap_23532)), (1, (.slice ao_23535 m_23534.length cap_23536)), (2, (.int .u8 n_23538)), (3, (.int .i16 at_23539))]) Try.func6 rfl Try.ntmps6 rfl (Hp.nil w₀ _) rfl ?_
  refine WC.seq ?_
  refine WC.region ?_
  refine WL.quiet (d := 8) rfl rfl rfl (q_assign rfl) ?_
  refine WL.nil ?_
  refine WX.then ?_
  refine WC.seq ?_
  refine WC.region ?_
  refine WL.quiet (d := 24) rfl rfl rfl (q_move rfl) ?_
  refine WL.quiet (d := 25) rfl rfl rfl (q_conv Try.underlying5 Try.underlying3 rfl rfl) ?_
  refine WL.quiet (d := 26) rfl rfl rfl (q_rem rfl rfl (by decide) rfl) ?_
  refine WL.quiet (d := 9) rfl rfl rfl (q_assign rfl) ?_
  refine WL.nil ?_
  refine WX.then ?_
  refine WC.seq ?_
  obtain ⟨x_24926, hx_24927, h⟩ := bind_elim h
  refine WC.region ?_
  refine WL.quiet (d := 27) rfl rfl rfl (q_move rfl) ?_
  refine WL.quiet (d := 28) rfl rfl rfl (q_move rfl) ?_
  refine WL.enter2 (dd := 29) rfl rfl rfl (run_call (l := [.tmp 27, .tmp 28]) Try.call18 (.cons rfl (.cons rfl .nil))) (.nil : Sel [] [] []) (fun w hw => by have pz := (hz.call hw (.nil : Sel [] [] [])); exact w_law33_times (Z := _) (ao_21422 := ao_23531) (cap_21423 := cap_23532) (l_21421 := l_23530) (f_21425 := (Int.tmod (i64 n_23538) 8)) (r := x_24926) w pz hs_23533 hx_24927) ?_
  rintro ao_24931 cap_24932 _
  refine WL.quiet (d := 10) rfl rfl rfl (q_assign rfl) ?_
  refine WL.nil ?_
  refine WX.then ?_
  refine WC.seq ?_
  refine WC.region ?_
  refine WL.new (dd := 11) rfl rfl rfl (e_alloc (cs := [(.slice none 0 0)]) zeroT_23 rfl) ?_
  intro b_24935 _
  refine WL.nil ?_
  refine WX.then ?_
  obtain ⟨k_25166, hk_25167, h⟩ := jp1_elim h
  refine WC.seqMid3 (fun (c_25163 : List Sapi_Span) (ao_25164 : Option Addr) (cap_25165 : Nat) => (k_25166 c_25163 = some r)) (fun (c_25163 : List Sapi_Span) (ao_25164 : Option Addr) (cap_25165 : Nat) => [(3, (.int .i16 at_23539)), (9, (.int .i64 (Int.tmod (i64 n_23538) 8))), (11, (.pointer (some ⟨b_24935, 0, none⟩)))]) (fun (c_25163 : List Sapi_Span) (ao_25164 : Option Addr) (cap_25165 : Nat) => [stb b_24935 23 [(.slice ao_25164 c_25163.length cap_25165)], row (.slice ao_25164 c_25163.length cap_25165) 35 2 (c_25163.flatMap e35)]) ?_ ?_
  · skip
    refine WC.seq ?_
    refine WC.region ?_
    refine WL.quiet (d := 30) rfl rfl rfl (q_move rfl) ?_
    refine WL.quiet (d := 31) rfl rfl rfl (q_len Try.underlying22 rfl) ?_
    refine WL.quiet (d := 32) rfl rfl rfl (q_move rfl) ?_
    refine WL.nil ?_
    refine WX.then ?_
    refine WC.block ?_
    refine WC.nilRow 35 2 ?_
    refine WC.loop8 (fun (n_25324 : Nat) (v_25316 : List Int) (v_25319 : Int) (c_25321 : List Sapi_Span) (ao_25317 : Option Addr) (cap_25318 : Nat) (ao_25322 : Option Addr) (cap_25323 : Nat) => (m_law33_ClockMeets_L3 x_24926 m_23534 k_25166 n_25324 v_25316 v_25319 c_25321 = some r)) (fun (n_25324 : Nat) (v_25316 : List Int) (v_25319 : Int) (c_25321 : List Sapi_Span) (ao_25317 : Option Addr) (cap_25318 : Nat) (ao_25322 : Option Addr) (cap_25323 : Nat) => [(1, (.slice ao_23535 m_23534.length cap_23536)), (3, (.int .i16 at_23539)), (9, (.int .i64 (Int.tmod (i64 n_23538) 8))), (11, (.pointer (some ⟨b_24935, 0, none⟩))), (30, (.slice ao_25317 v_25316.length cap_25318)), (31, (.int .i64 ((x_24926.length : Nat) : Int))), (32, (.int .i64 v_25319))]) (fun (n_25324 : Nat) (v_25316 : List Int) (v_25319 : Int) (c_25321 : List Sapi_Span) (ao_25317 : Option Addr) (cap_25318 : Nat) (ao_25322 : Option Addr) (cap_25323 : Nat) => [row (.slice ao_25317 v_25316.length cap_25318) 3 1 (v_25316.flatMap e3), stb b_24935 23 [(.slice ao_25322 c_25321.length cap_25323)], row (.slice ao_25322 c_25321.length cap_25323) 35 2 (c_25321.flatMap e35)]) (fun (n_25324 : Nat) (v_25316 : List Int) (v_25319 : Int) (c_25321 : List Sapi_Span) (ao_25317 : Option Addr) (cap_25318 : Nat) (ao_25322 : Option Addr) (cap_25323 : Nat) => n_25324) ⟨FUEL, x_24926, 0, ([] : List Sapi_Span), ao_24931, cap_24932, none, 0⟩ h (.cons rfl (.cons rfl (.cons rfl (.cons rfl (.cons rfl (.cons rfl (.cons rfl .nil))))))) (.cons (.there (.there .here)) (.cons (.there .here) (.cons .here .nil))) ?_
    rintro n_25324 v_25316 v_25319 c_25321 ao_25317 cap_25318 ao_25322 cap_25323 h
    obtain ⟨n_25326, rfl⟩ := m_law33_ClockMeets_L3_fuel h
    rw [m_law33_ClockMeets_L3] at h
    refine WC.seq ?_
    refine WC.region ?_
    refine WL.quiet (d := 33) rfl rfl rfl (q_lss rfl rfl) ?_
    refine WL.nil ?_
    refine WX.then ?_
    refine WC.seq ?_
    refine WC.cond rfl (fun hb_25328 => ?_) (fun hb_25328 => ?_)
    · replace h := ite_t h hb_25328
      refine WC.skip ?_
      refine WX.then ?_
      refine WC.seq ?_
      refine WC.block ?_
      refine WC.seq ?_
      obtain ⟨c_25362, h⟩ := chk_elim h
      refine WC.region ?_
      refine WL.quiet (d := 34) rfl rfl rfl (q_move rfl) ?_
      refine WL.know (fun w hw => Hp.expose .here hw (by intro hz'; have := c_25362; rw [hz'] at this; omega)) ?_
      rintro ⟨b_25364, rfl⟩
      refine WL.quiet (d := 35) rfl rfl rfl (q_indexAddr elT_22 rfl rfl c_25362.1 c_25362.2 rowAdd) ?_
      refine WL.quiet (d := 36) rfl rfl rfl (q_load1 oneT_3 rfl (rd_row .here ((flat_rd (enc := e3) (l := v_25316) (i := v_25319) (sz := 1) (fun _ => rfl) c_25362.1 c_25362.2) 0 _ rfl))) ?_
      refine WL.quiet (d := 12) rfl rfl rfl (q_assign rfl) ?_
      refine WL.quiet (d := 13) rfl rfl rfl (q_assign rfl) ?_
      refine WL.nil ?_
      refine WX.then ?_
      refine WC.seq ?_
      refine WC.region ?_
      refine WL.quiet (d := 14) rfl rfl rfl (q_assign rfl) ?_
      refine WL.nil ?_
      refine WX.then ?_
      obtain ⟨k_25376, hk_25377, h⟩ := jp1_elim h
      refine WC.seqMid1 (fun (w_25375 : Int) => (k_25376 w_25375 = some r)) (fun (w_25375 : Int) => [(1, (.slice ao_23535 m_23534.length cap_23536)), (3, (.int .i16 at_23539)), (9, (.int .i64 (Int.tmod (i64 n_23538) 8))), (11, (.pointer (some ⟨b_24935, 0, none⟩))), (13, (.int .i64 (nth v_25316 v_25319))), (14, (.int .i64 w_25375)), (30, (.slice (some ⟨b_25364, 0, none⟩) v_25316.length cap_25318)), (31, (.int .i64 ((x_24926.length : Nat) : Int))), (32, (.int .i64 v_25319))]) (fun (w_25375 : Int) => [row (.slice (some ⟨b_25364, 0, none⟩) v_25316.length cap_25318) 3 1 (v_25316.flatMap e3), stb b_24935 23 [(.slice ao_25322 c_25321.length cap_25323)], row (.slice ao_25322 c_25321.length cap_25323) 35 2 (c_25321.flatMap e35)]) ?_ ?_
      · skip
        refine WC.seq ?_
        refine WC.region ?_
        refine WL.quiet (d := 37) rfl rfl rfl (q_move rfl) ?_
        refine WL.quiet (d := 38) rfl rfl rfl (q_move rfl) ?_
        refine WL.quiet (d := 39) rfl rfl rfl (q_len Try.underlying42 rfl) ?_
        refine WL.quiet (d := 40) rfl rfl rfl (q_lss rfl rfl) ?_
        refine WL.nil ?_
        refine WX.then ?_
        refine WC.cond rfl (fun hb_25378 => ?_) (fun hb_25378 => ?_)
        · replace h := ite_t h hb_25378
          obtain ⟨c_25379, h⟩ := chk_elim h
          refine WC.region ?_
          refine WL.quiet (d := 41) rfl rfl rfl (q_move rfl) ?_
          refine WL.quiet (d := 42) rfl rfl rfl (q_move rfl) ?_
          refine WL.znth (dd := 43) rfl rfl elT_42 rfl rfl hs_23537 c_25379 ?_
          rintro A_25384 r_25385 hA_25386 hl_25387 rfl
          refine WL.quiet (d := 44) rfl rfl rfl (q_load1 oneT_45 rfl (rd_z hz.pv hA_25386 rfl)) ?_
          refine WL.quiet (d := 45) rfl rfl rfl (q_conv Try.underlying45 Try.underlying3 rfl rfl) ?_
          refine WL.quiet (d := 46) rfl rfl rfl (q_and rfl rfl rfl) ?_
          refine WL.quiet (d := 14) rfl rfl rfl (q_assign rfl) ?_
          refine WL.nil ?_
          exact WX.mid (G := Int) (bits .and .i64 (i64 (nth m_23534 v_25319)) 255) h (.cons rfl (.cons rfl (.cons rfl (.cons rfl (.cons rfl (.cons rfl (.cons rfl (.cons rfl (.cons rfl .nil))))))))) (.cons .here (.cons .here (.cons .here .nil)))
        · replace h := ite_f h hb_25378
          refine WC.skip ?_
          exact WX.mid (G := Int) 0 h (.cons rfl (.cons rfl (.cons rfl (.cons rfl (.cons rfl (.cons rfl (.cons rfl (.cons rfl (.cons rfl .nil))))))))) (.cons .here (.cons .here (.cons .here .nil)))
      · rintro w_25375 h
        replace h := (hk_25377 w_25375).symm.trans h
        obtain ⟨c_25389, h⟩ := chk_elim h
        refine WC.region ?_
        refine WL.quiet (d := 47) rfl rfl rfl (q_load1 oneT_23 rfl (rd_stb (.there .here) rfl)) ?_
        refine WL.quiet (d := 48) rfl rfl rfl (q_move rfl) ?_
        refine WL.quiet (d := 49) rfl rfl rfl (q_move rfl) ?_
        refine WL.quiet (d := 50) rfl rfl rfl (q_move rfl) ?_
        refine WL.quiet (d := 51) rfl rfl rfl (q_add rfl rfl rfl) ?_
        refine WL.quiet (d := 52) rfl rfl rfl (q_build (v := (.agg #[(.int .i64 (nth v_25316 v_25319)), (.int .i64 (i64 ((nth v_25316 v_25319) + w_25375)))])) (Eos.parts (l := [.tmp 48, .tmp 51]) (.cons rfl (.cons rfl .nil)) [0, 1]) (fun _ => by kernel_rfl)) ?_
        refine WL.new (dd := 53) rfl rfl rfl (e_buildSlice (cs := [(⟨(nth v_25316 v_25319), i64 ((nth v_25316 v_25319) + w_25375)⟩ : Sapi_Span)].flatMap e35) elT_23 (Eos.parts (l := [.tmp 52]) (.cons rfl .nil) [0]) (fun _ => by kernel_rfl) rfl (by unfold maxLen; omega)) ?_
        intro b_25392 _
        refine WL.eff (d := 54) rfl rfl rfl (e_appendF (enc := e35) (l1 := c_25321) (l2 := [(⟨(nth v_25316 v_25319), i64 ((nth v_25316 v_25319) + w_25375)⟩ : Sapi_Span)]) elT_23 rfl rfl (.there (.there (.there .here))) (fun _ => rfl) rfl rfl (news_row .here) (oc_flat e35_oc _) c_25389) ?_
        rintro ⟨ao_25393, cap_25394⟩ _
        refine WL.eff0 rfl rfl (e_store (vs := [(.slice ao_25393 ((c_25321 ++ [(⟨(nth v_25316 v_25319), i64 ((nth v_25316 v_25319) + w_25375)⟩ : Sapi_Span)]).length) cap_25394)]) (ds := [(.slice ao_25393 ((c_25321 ++ [(⟨(nth v_25316 v_25319), i64 ((nth v_25316 v_25319) + w_25375)⟩ : Sapi_Span)]).length) cap_25394)]) sizT_23 rfl rfl rfl rfl (oc_cons rfl oc_nil) (.there (.there (.there .here))) (Nat.le_of_ble_eq_true rfl) rfl) ?_
        refine WL.nil ?_
        refine WX.blockNormal ?_
        refine WX.then ?_
        refine WC.region ?_
        refine WL.quiet (d := 55) rfl rfl rfl (q_add rfl rfl rfl) ?_
        refine WL.quiet (d := 32) rfl rfl rfl (q_move rfl) ?_
        refine WL.nil ?_
        exact WX.round (G := Nat × List Int × Int × List Sapi_Span × Option Addr × Nat × Option Addr × Nat) ⟨n_25326, v_25316, (i64 (v_25319 + 1)), (c_25321 ++ [(⟨(nth v_25316 v_25319), i64 ((nth v_25316 v_25319) + w_25375)⟩ : Sapi_Span)]), (some ⟨b_25364, 0, none⟩), cap_25318, ao_25393, cap_25394⟩ h (Nat.lt_succ_self _) (.cons rfl (.cons rfl (.cons rfl (.cons rfl (.cons rfl (.cons rfl (.cons rfl .nil))))))) (.cons (.there (.there (.there .here))) (.cons .here (.cons .here .nil)))
    · replace h := ite_f h hb_25328
      refine WC.exit ?_
      refine WX.thenExit ?_
      refine WX.thenExit ?_
      refine WX.blockHit ?_
      exact WX.mid (G := List Sapi_Span × Option Addr × Nat) ⟨c_25321, ao_25322, cap_25323⟩ h (.cons rfl (.cons rfl (.cons rfl .nil))) (.cons (.there .here) (.cons (.there .here) .nil))
  · rintro c_25163 ao_25164 cap_25165 h
    replace h := (hk_25167 c_25163).symm.trans h
    refine WC.seq ?_
    refine WC.region ?_
    refine WL.quiet (d := 56) rfl rfl rfl (q_makeFunc (Eos.caps (l := [.tmp 11]) (.cons rfl .nil))) ?_
    refine WL.quiet (d := 15) rfl rfl rfl (q_assign rfl) ?_
    refine WL.nil ?_
    refine WX.then ?_
    refine WC.seq ?_
    obtain ⟨x_25395, hx_25396, h⟩ := bind_elim h
    refine WC.region ?_
    refine WL.quiet (d := 58) rfl rfl rfl (q_load1 oneT_23 rfl (rd_stb .here rfl)) ?_
    refine WL.quiet (d := 59) rfl rfl rfl (q_move rfl) ?_
    refine WL.callD (dd := 60) rfl rfl rfl (run_call (l := [.tmp 58, .tmp 59]) Try.call15 (.cons rfl (.cons rfl .nil))) (.nil : Sel [stb b_24935 23 [(.slice ao_25164 c_25163.length cap_25165)], row (.slice ao_25164 c_25163.length cap_25165) 35 2 (c_25163.flatMap e35)] [] [stb b_24935 23 [(.slice ao_25164 c_25163.length cap_25165)], row (.slice ao_25164 c_25163.length cap_25165) 35 2 (c_25163.flatMap e35)]) (fun w hw => by have pz := (hz.call hw (.nil : Sel [stb b_24935 23 [(.slice ao_25164 c_25163.length cap_25165)], row (.slice ao_25164 c_25163.length cap_25165) 35 2 (c_25163.flatMap e35)] [] [stb b_24935 23 [(.slice ao_25164 c_25163.length cap_25165)], row (.slice ao_25164 c_25163.length cap_25165) 35 2 (c_25163.flatMap e35)])).lend hw (.nil : Sel [stb b_24935 23 [(.slice ao_25164 c_25163.length cap_25165)], row (.slice ao_25164 c_25163.length cap_25165) 35 2 (c_25163.flatMap e35)] [] [stb b_24935 23 [(.slice ao_25164 c_25163.length cap_25165)], row (.slice ao_25164 c_25163.length cap_25165) 35 2 (c_25163.flatMap e35)]) (B := [row (.slice ao_25164 c_25163.length cap_25165) 35 2 (c_25163.flatMap e35)]) (fun _ hx' => ((.cons (.there .here) .nil) : Sel _ [row (.slice ao_25164 c_25163.length cap_25165) 35 2 (c_25163.flatMap e35)] _).mem hx'); exact w_clock_Meet (Z := _) (ao_1653 := ao_25164) (cap_1654 := cap_25165) (l_1652 := c_25163) (f_1656 := (Int.tmod (i64 n_23538) 8)) (r := x_25395) w pz (ZA.row (hw.lent (.nil : Sel [stb b_24935 23 [(.slice ao_25164 c_25163.length cap_25165)], row (.slice ao_25164 c_25163.length cap_25165) 35 2 (c_25163.flatMap e35)] [] [stb b_24935 23 [(.slice ao_25164 c_25163.length cap_25165)], row (.slice ao_25164 c_25163.length cap_25165) 35 2 (c_25163.flatMap e35)]) (B := [row (.slice ao_25164 c_25163.length cap_25165) 35 2 (c_25163.flatMap e35)]) (fun _ hx' => ((.cons (.there .here) .nil) : Sel _ [row (.slice ao_25164 c_25163.length cap_25165) 35 2 (c_25163.flatMap e35)] _).mem hx') (.head _) _) (RR.flat (enc := e35) (fun _ => rfl) _) ⟨w, pz.1⟩) hx_25396) ?_
    refine WL.quiet (d := 57) rfl rfl rfl (q_move rfl) ?_
    refine WL.quiet (d := 61) rfl rfl rfl (q_extract rfl rfl) ?_
    refine WL.quiet (d := 62) rfl rfl rfl (q_extract rfl rfl) ?_
    refine WL.new (dd := 16) rfl rfl rfl (e_alloc (cs := [(.int .i64 0), (.int .i64 0)]) zeroT_35 rfl) ?_
    intro b_25398 _
    refine WL.eff0 rfl rfl (e_store (vs := [(.int .i64 x_25395.1.fLo), (.int .i64 x_25395.1.fHi)]) (ds := [(.int .i64 x_25395.1.fLo), (.int .i64 x_25395.1.fHi)]) sizT_35 rfl rfl rfl rfl (oc_cons rfl (oc_cons rfl oc_nil)) .here (Nat.le_of_ble_eq_true rfl) rfl) ?_
    refine WL.quiet (d := 17) rfl rfl rfl (q_assign rfl) ?_
    refine WL.nil ?_
    refine WX.then ?_
    refine WC.seq ?_
    refine WC.region ?_
    refine WL.quiet (d := 63) rfl rfl rfl (q_move rfl) ?_
    refine WL.quiet (d := 64) rfl rfl rfl (q_conv Try.underlying45 Try.underlying3 rfl rfl) ?_
    refine WL.quiet (d := 65) rfl rfl rfl (q_rem rfl rfl (by decide) rfl) ?_
    refine WL.quiet (d := 18) rfl rfl rfl (q_assign rfl) ?_
    refine WL.nil ?_
    refine WX.then ?_
    refine WC.seq ?_
    refine WC.region ?_
    refine WL.quiet (d := 19) rfl rfl rfl (q_assign rfl) ?_
    refine WL.quiet (d := 20) rfl rfl rfl (q_assign rfl) ?_
    refine WL.quiet (d := 21) rfl rfl rfl (q_assign rfl) ?_
    refine WL.nil ?_
    refine WX.then ?_
    obtain ⟨k_25575, hk_25576, h⟩ := jp4_elim h
    refine WC.seqMid6 (fun (some_25569 : Bool) (lo_25570 : Bool) (hi_25571 : Bool) (c_25572 : List Sapi_Span) (ao_25573 : Option Addr) (cap_25574 : Nat) => (k_25575 some_25569 lo_25570 hi_25571 c_25572 = some r)) (fun (some_25569 : Bool) (lo_25570 : Bool) (hi_25571 : Bool) (c_25572 : List Sapi_Span) (ao_25573 : Option Addr) (cap_25574 : Nat) => [(9, (.int .i64 (Int.tmod (i64 n_23538) 8))), (11, (.pointer (some ⟨b_24935, 0, none⟩))), (15, (.func (.func 19) #[] #[(.pointer (some ⟨b_24935, 0, none⟩))])), (16, (.pointer (some ⟨b_25398, 0, none⟩))), (17, (.int .i64 x_25395.2)), (18, (.int .i64 (Int.tmod (i64 at_23539) 1300))), (19, (.bool some_25569)), (20, (.bool lo_25570)), (21, (.bool hi_25571))]) (fun (some_25569 : Bool) (lo_25570 : Bool) (hi_25571 : Bool) (c_25572 : List Sapi_Span) (ao_25573 : Option Addr) (cap_25574 : Nat) => [stb b_24935 23 [(.slice ao_25573 c_25572.length cap_25574)], row (.slice ao_25573 c_25572.length cap_25574) 35 2 (c_25572.flatMap e35), stb b_25398 35 [(.int .i64 x_25395.1.fLo), (.int .i64 x_25395.1.fHi)]]) ?_ ?_
    · skip
      refine WC.seq ?_
      refine WC.region ?_
      refine WL.quiet (d := 66) rfl rfl rfl (q_load1 oneT_23 rfl (rd_stb (.there .here) rfl)) ?_
      refine WL.quiet (d := 67) rfl rfl rfl (q_len Try.underlying23 rfl) ?_
      refine WL.quiet (d := 68) rfl rfl rfl (q_move rfl) ?_
      refine WL.nil ?_
      refine WX.then ?_
      refine WC.block ?_
      refine WC.loop8 (fun (n_25685 : Nat) (some_25678 : Bool) (lo_25679 : Bool) (hi_25680 : Bool) (v_25681 : List Sapi_Span) (v_25684 : Int) (ao_25682 : Option Addr) (cap_25683 : Nat) => (m_law33_ClockMeets_L4 c_25163 n_23538 x_25395 k_25575 n_25685 some_25678 lo_25679 hi_25680 v_25681 v_25684 = some r)) (fun (n_25685 : Nat) (some_25678 : Bool) (lo_25679 : Bool) (hi_25680 : Bool) (v_25681 : List Sapi_Span) (v_25684 : Int) (ao_25682 : Option Addr) (cap_25683 : Nat) => [(9, (.int .i64 (Int.tmod (i64 n_23538) 8))), (11, (.pointer (some ⟨b_24935, 0, none⟩))), (15, (.func (.func 19) #[] #[(.pointer (some ⟨b_24935, 0, none⟩))])), (16, (.pointer (some ⟨b_25398, 0, none⟩))), (17, (.int .i64 x_25395.2)), (18, (.int .i64 (Int.tmod (i64 at_23539) 1300))), (19, (.bool some_25678)), (20, (.bool lo_25679)), (21, (.bool hi_25680)), (66, (.slice ao_25682 v_25681.length cap_25683)), (67, (.int .i64 ((c_25163.length : Nat) : Int))), (68, (.int .i64 v_25684))]) (fun (n_25685 : Nat) (some_25678 : Bool) (lo_25679 : Bool) (hi_25680 : Bool) (v_25681 : List Sapi_Span) (v_25684 : Int) (ao_25682 : Option Addr) (cap_25683 : Nat) => [row (.slice ao_25682 v_25681.length cap_25683) 35 2 (v_25681.flatMap e35), stb b_24935 23 [(.slice ao_25682 v_25681.length cap_25683)], stb b_25398 35 [(.int .i64 x_25395.1.fLo), (.int .i64 x_25395.1.fHi)]]) (fun (n_25685 : Nat) (some_25678 : Bool) (lo_25679 : Bool) (hi_25680 : Bool) (v_25681 : List Sapi_Span) (v_25684 : Int) (ao_25682 : Option Addr) (cap_25683 : Nat) => n_25685) ⟨FUEL, false, false, false, c_25163, 0, ao_25164, cap_25165⟩ h (.cons rfl (.cons rfl (.cons rfl (.cons rfl (.cons rfl (.cons rfl (.cons rfl (.cons rfl (.cons rfl (.cons rfl (.cons rfl (.cons rfl .nil)))))))))))) (.cons (.there (.there .here)) (.cons (.there .here) (.cons .here .nil))) ?_
      rintro n_25685 some_25678 lo_25679 hi_25680 v_25681 v_25684 ao_25682 cap_25683 h
      obtain ⟨n_25686, rfl⟩ := m_law33_ClockMeets_L4_fuel h
      rw [m_law33_ClockMeets_L4] at h
      refine WC.seq ?_
      refine WC.region ?_
      refine WL.quiet (d := 69) rfl rfl rfl (q_lss rfl rfl) ?_
      refine WL.nil ?_
      refine WX.then ?_
      refine WC.seq ?_
      refine WC.cond rfl (fun hb_25688 => ?_) (fun hb_25688 => ?_)
      · replace h := ite_t h hb_25688
        refine WC.skip ?_
        refine WX.then ?_
        refine WC.seq ?_
        refine WC.block ?_
        refine WC.seq ?_
        obtain ⟨c_25718, h⟩ := chk_elim h
        refine WC.region ?_
        refine WL.know (fun w hw => Hp.expose .here hw (by intro hz'; have := c_25718; rw [hz'] at this; omega)) ?_
        rintro ⟨b_25721, rfl⟩
        refine WL.quiet (d := 70) rfl rfl rfl (q_indexAddr elT_23 rfl rfl c_25718.1 c_25718.2 rowAdd) ?_
        refine WL.quiet (d := 71) rfl rfl rfl (q_loadA (cs := (e35 (nth v_25681 v_25684))) aggT_35 rfl rfl (rd_rows .here (flat_rd (enc := e35) (l := v_25681) (i := v_25684) (sz := 2) (fun _ => rfl) c_25718.1 c_25718.2))) ?_
        refine WL.new (dd := 23) rfl rfl rfl (e_alloc (cs := [(.int .i64 0), (.int .i64 0)]) zeroT_35 rfl) ?_
        intro b_25722 _
        refine WL.eff0 rfl rfl (e_store (vs := [(.int .i64 ((nth v_25681 v_25684).fLo)), (.int .i64 ((nth v_25681 v_25684).fHi))]) (ds := [(.int .i64 ((nth v_25681 v_25684).fLo)), (.int .i64 ((nth v_25681 v_25684).fHi))]) sizT_35 rfl rfl rfl rfl (oc_cons rfl (oc_cons rfl oc_nil)) .here (Nat.le_of_ble_eq_true rfl) rfl) ?_
        refine WL.nil ?_
        refine WX.then ?_
        refine WC.seq ?_
        obtain ⟨b_25725, hb_25726, h⟩ := bind_elim h
        obtain ⟨b_25729, hb_25730, h⟩ := bind_elim h
        refine WC.draw (fun i => [].contains i) [] rfl ?_
        refine WD.pure (i := 0) (d := 72) (by kernel_rfl) rfl (by kernel_rfl) (by kernel_rfl) rfl rfl rfl (fun _ => q_move rfl) ?_
        refine WD.pure (i := 1) (d := 73) (by kernel_rfl) rfl (by kernel_rfl) (by kernel_rfl) rfl rfl rfl (fun _ => q_move rfl) ?_
        refine WD.mid (fuel' := 12) [(9, (.int .i64 (Int.tmod (i64 n_23538) 8))), (11, (.pointer (some ⟨b_24935, 0, none⟩))), (15, (.func (.func 19) #[] #[(.pointer (some ⟨b_24935, 0, none⟩))])), (16, (.pointer (some ⟨b_25398, 0, none⟩))), (17, (.int .i64 x_25395.2)), (18, (.int .i64 (Int.tmod (i64 at_23539) 1300))), (19, (.bool some_25678)), (20, (.bool lo_25679)), (21, (.bool hi_25680)), (66, (.slice (some ⟨b_25721, 0, none⟩) v_25681.length cap_25683)), (67, (.int .i64 ((c_25163.length : Nat) : Int))), (68, (.int .i64 v_25684)), (69, (.bool (decide (v_25684 < ((c_25163.length : Nat) : Int))))), (70, (.pointer (some ⟨b_25721, (v_25684 : Int).toNat * 2, none⟩))), (71, (.agg #[(.int .i64 ((nth v_25681 v_25684).fLo)), (.int .i64 ((nth v_25681 v_25684).fHi))])), (23, (.pointer (some ⟨b_25722, 0, none⟩))), (72, (.bool some_25678)), (73, (.bool some_25678)), (83, (.bool b_25725))] (listedA 24 [11, 10, 9, 8, 7, 6, 5, 4, 3, 2, 1, 0]) ?_ (fun K_25731 => ?_)
        rotate_left
        · rcases Bool.eq_false_or_eq_true some_25678 with hb' | hb'
          · have hg_25732 := hb'; clear hb'
            have hq_25733 := ite_t hb_25726 hg_25732
            replace hq_25733 := Option.some.inj hq_25733
            refine WD.pin (i := 73) rfl hg_25732 ?_
            refine WD.skip (i := 2) (d := 74) (by kernel_rfl) rfl (by kernel_rfl) (by kernel_rfl) rfl rfl rfl ?_
            refine WD.skip (i := 3) (d := 75) (by kernel_rfl) rfl (by kernel_rfl) (by kernel_rfl) rfl rfl rfl ?_
            refine WD.skip (i := 4) (d := 76) (by kernel_rfl) rfl (by kernel_rfl) (by kernel_rfl) rfl rfl rfl ?_
            refine WD.skip (i := 5) (d := 77) (by kernel_rfl) rfl (by kernel_rfl) (by kernel_rfl) rfl rfl rfl ?_
            refine WD.skip (i := 6) (d := 78) (by kernel_rfl) rfl (by kernel_rfl) (by kernel_rfl) rfl rfl rfl ?_
            refine WD.skip (i := 7) (d := 79) (by kernel_rfl) rfl (by kernel_rfl) (by kernel_rfl) rfl rfl rfl ?_
            refine WD.skip (i := 8) (d := 80) (by kernel_rfl) rfl (by kernel_rfl) (by kernel_rfl) rfl rfl rfl ?_
            refine WD.skip (i := 9) (d := 81) (by kernel_rfl) rfl (by kernel_rfl) (by kernel_rfl) rfl rfl rfl ?_
            refine WD.skip (i := 10) (d := 82) (by kernel_rfl) rfl (by kernel_rfl) (by kernel_rfl) rfl rfl rfl ?_
            refine WD.pure (i := 11) (d := 83) (by kernel_rfl) rfl (by kernel_rfl) (by kernel_rfl) rfl rfl rfl (fun _ => q_pickT rfl rfl) ?_
            refine WD.restr ?_ K_25731
            exact (.cons rfl (.cons rfl (.cons rfl (.cons rfl (.cons rfl (.cons rfl (.cons rfl (.cons rfl (.cons rfl (.cons rfl (.cons rfl (.cons rfl (.cons rfl (.cons rfl (.cons rfl (.cons rfl (.cons rfl (.cons (some_bool (Eq.symm hg_25732)) (.cons (some_bool hq_25733) .nil)))))))))))))))))))
          · have hg_25734 := hb'; clear hb'
            have hq_25735 := ite_f hb_25726 hg_25734
            obtain ⟨x_25723, hx_25724, hq_25735⟩ := bind_elim hq_25735
            replace hq_25735 := Option.some.inj hq_25735
            refine WD.pin (i := 73) rfl hg_25734 ?_
            refine WD.pure (i := 2) (d := 74) (by kernel_rfl) rfl (by kernel_rfl) (by kernel_rfl) rfl rfl rfl (fun _ => q_move rfl) ?_
            refine WD.pure (i := 3) (d := 75) (by kernel_rfl) rfl (by kernel_rfl) (by kernel_rfl) rfl rfl rfl (fun _ => q_fieldAddr fo_35_0 rfl rfl) ?_
            refine WD.quiet (i := 4) (d := 76) (by kernel_rfl) rfl (by kernel_rfl) (by kernel_rfl) rfl rfl rfl (q_load1 oneT_3 rfl (rd_stb .here rfl)) ?_
            refine WD.enter (i := 5) (d := 77) (by kernel_rfl) rfl (by kernel_rfl) (by kernel_rfl) rfl rfl rfl (run_callv (l := [.tmp 76]) Try.call19 rfl (.cons rfl .nil)) (fun w hw => by have pz := (hz.call hw (.nil : Sel [stb b_25722 35 [(.int .i64 ((nth v_25681 v_25684).fLo)), (.int .i64 ((nth v_25681 v_25684).fHi))], row (.slice (some ⟨b_25721, 0, none⟩) v_25681.length cap_25683) 35 2 (v_25681.flatMap e35), stb b_24935 23 [(.slice (some ⟨b_25721, 0, none⟩) v_25681.length cap_25683)], stb b_25398 35 [(.int .i64 x_25395.1.fLo), (.int .i64 x_25395.1.fHi)]] [] [stb b_25722 35 [(.int .i64 ((nth v_25681 v_25684).fLo)), (.int .i64 ((nth v_25681 v_25684).fHi))], row (.slice (some ⟨b_25721, 0, none⟩) v_25681.length cap_25683) 35 2 (v_25681.flatMap e35), stb b_24935 23 [(.slice (some ⟨b_25721, 0, none⟩) v_25681.length cap_25683)], stb b_25398 35 [(.int .i64 x_25395.1.fLo), (.int .i64 x_25395.1.fHi)]])).lend hw (.nil : Sel [stb b_25722 35 [(.int .i64 ((nth v_25681 v_25684).fLo)), (.int .i64 ((nth v_25681 v_25684).fHi))], row (.slice (some ⟨b_25721, 0, none⟩) v_25681.length cap_25683) 35 2 (v_25681.flatMap e35), stb b_24935 23 [(.slice (some ⟨b_25721, 0, none⟩) v_25681.length cap_25683)], stb b_25398 35 [(.int .i64 x_25395.1.fLo), (.int .i64 x_25395.1.fHi)]] [] [stb b_25722 35 [(.int .i64 ((nth v_25681 v_25684).fLo)), (.int .i64 ((nth v_25681 v_25684).fHi))], row (.slice (some ⟨b_25721, 0, none⟩) v_25681.length cap_25683) 35 2 (v_25681.flatMap e35), stb b_24935 23 [(.slice (some ⟨b_25721, 0, none⟩) v_25681.length cap_25683)], stb b_25398 35 [(.int .i64 x_25395.1.fLo), (.int .i64 x_25395.1.fHi)]]) (B := [stb b_24935 23 [(.slice (some ⟨b_25721, 0, none⟩) v_25681.length cap_25683)], row (.slice (some ⟨b_25721, 0, none⟩) v_25681.length cap_25683) 35 2 (v_25681.flatMap e35)]) (fun _ hx' => ((.cons (.there (.there .here)) (.cons (.there .here) .nil)) : Sel _ [stb b_24935 23 [(.slice (some ⟨b_25721, 0, none⟩) v_25681.length cap_25683)], row (.slice (some ⟨b_25721, 0, none⟩) v_25681.length cap_25683) 35 2 (v_25681.flatMap e35)] _).mem hx'); exact w_law33_ClockMeets_1 (Z := _) (A_24021 := ⟨b_24935, 0, none⟩) (ao_24024 := (some ⟨b_25721, 0, none⟩)) (cap_24025 := cap_25683) (t_24020 := ((nth v_25681 v_25684).fLo)) (c_24023 := v_25681) (r := x_25723) w pz (ZA.row (hw.lent (.nil : Sel [stb b_25722 35 [(.int .i64 ((nth v_25681 v_25684).fLo)), (.int .i64 ((nth v_25681 v_25684).fHi))], row (.slice (some ⟨b_25721, 0, none⟩) v_25681.length cap_25683) 35 2 (v_25681.flatMap e35), stb b_24935 23 [(.slice (some ⟨b_25721, 0, none⟩) v_25681.length cap_25683)], stb b_25398 35 [(.int .i64 x_25395.1.fLo), (.int .i64 x_25395.1.fHi)]] [] [stb b_25722 35 [(.int .i64 ((nth v_25681 v_25684).fLo)), (.int .i64 ((nth v_25681 v_25684).fHi))], row (.slice (some ⟨b_25721, 0, none⟩) v_25681.length cap_25683) 35 2 (v_25681.flatMap e35), stb b_24935 23 [(.slice (some ⟨b_25721, 0, none⟩) v_25681.length cap_25683)], stb b_25398 35 [(.int .i64 x_25395.1.fLo), (.int .i64 x_25395.1.fHi)]]) (B := [stb b_24935 23 [(.slice (some ⟨b_25721, 0, none⟩) v_25681.length cap_25683)], row (.slice (some ⟨b_25721, 0, none⟩) v_25681.length cap_25683) 35 2 (v_25681.flatMap e35)]) (fun _ hx' => ((.cons (.there (.there .here)) (.cons (.there .here) .nil)) : Sel _ [stb b_24935 23 [(.slice (some ⟨b_25721, 0, none⟩) v_25681.length cap_25683)], row (.slice (some ⟨b_25721, 0, none⟩) v_25681.length cap_25683) 35 2 (v_25681.flatMap e35)] _).mem hx') (.tail _ (.head _)) _) (RR.flat (enc := e35) (fun _ => rfl) _) ⟨w, pz.1⟩) ((hw.lent (.nil : Sel [stb b_25722 35 [(.int .i64 ((nth v_25681 v_25684).fLo)), (.int .i64 ((nth v_25681 v_25684).fHi))], row (.slice (some ⟨b_25721, 0, none⟩) v_25681.length cap_25683) 35 2 (v_25681.flatMap e35), stb b_24935 23 [(.slice (some ⟨b_25721, 0, none⟩) v_25681.length cap_25683)], stb b_25398 35 [(.int .i64 x_25395.1.fLo), (.int .i64 x_25395.1.fHi)]] [] [stb b_25722 35 [(.int .i64 ((nth v_25681 v_25684).fLo)), (.int .i64 ((nth v_25681 v_25684).fHi))], row (.slice (some ⟨b_25721, 0, none⟩) v_25681.length cap_25683) 35 2 (v_25681.flatMap e35), stb b_24935 23 [(.slice (some ⟨b_25721, 0, none⟩) v_25681.length cap_25683)], stb b_25398 35 [(.int .i64 x_25395.1.fLo), (.int .i64 x_25395.1.fHi)]]) (B := [stb b_24935 23 [(.slice (some ⟨b_25721, 0, none⟩) v_25681.length cap_25683)], row (.slice (some ⟨b_25721, 0, none⟩) v_25681.length cap_25683) 35 2 (v_25681.flatMap e35)]) (fun _ hx' => ((.cons (.there (.there .here)) (.cons (.there .here) .nil)) : Sel _ [stb b_24935 23 [(.slice (some ⟨b_25721, 0, none⟩) v_25681.length cap_25683)], row (.slice (some ⟨b_25721, 0, none⟩) v_25681.length cap_25683) 35 2 (v_25681.flatMap e35)] _).mem hx') (.head _) _).stb) hx_25724) ?_
            refine WD.quiet (i := 6) (d := 78) (by kernel_rfl) rfl (by kernel_rfl) (by kernel_rfl) rfl rfl rfl (q_load1 oneT_23 rfl (rd_stb (.there (.there .here)) rfl)) ?_
            refine WD.pure (i := 7) (d := 79) (by kernel_rfl) rfl (by kernel_rfl) (by kernel_rfl) rfl rfl rfl (fun _ => q_len Try.underlying23 rfl) ?_
            refine WD.pure (i := 8) (d := 80) (by kernel_rfl) rfl (by kernel_rfl) (by kernel_rfl) rfl rfl rfl (fun _ => q_move rfl) ?_
            refine WD.pure (i := 9) (d := 81) (by kernel_rfl) rfl (by kernel_rfl) (by kernel_rfl) rfl rfl rfl (fun _ => q_sub rfl rfl rfl) ?_
            refine WD.pure (i := 10) (d := 82) (by kernel_rfl) rfl (by kernel_rfl) (by kernel_rfl) rfl rfl rfl (fun _ => q_geq rfl rfl) ?_
            refine WD.pure (i := 11) (d := 83) (by kernel_rfl) rfl (by kernel_rfl) (by kernel_rfl) rfl rfl rfl (fun _ => q_pickF rfl rfl) ?_
            refine WD.restr ?_ K_25731
            exact (.cons rfl (.cons rfl (.cons rfl (.cons rfl (.cons rfl (.cons rfl (.cons rfl (.cons rfl (.cons rfl (.cons rfl (.cons rfl (.cons rfl (.cons rfl (.cons rfl (.cons rfl (.cons rfl (.cons rfl (.cons (some_bool (Eq.symm hg_25734)) (.cons (some_bool hq_25735) .nil)))))))))))))))))))
        refine WD.pure (i := 12) (d := 84) (by kernel_rfl) rfl (by kernel_rfl) (by kernel_rfl) rfl rfl rfl (fun _ => q_move rfl) ?_
        refine WD.mid (fuel' := 1) [(9, (.int .i64 (Int.tmod (i64 n_23538) 8))), (11, (.pointer (some ⟨b_24935, 0, none⟩))), (15, (.func (.func 19) #[] #[(.pointer (some ⟨b_24935, 0, none⟩))])), (16, (.pointer (some ⟨b_25398, 0, none⟩))), (17, (.int .i64 x_25395.2)), (18, (.int .i64 (Int.tmod (i64 at_23539) 1300))), (19, (.bool some_25678)), (20, (.bool lo_25679)), (21, (.bool hi_25680)), (66, (.slice (some ⟨b_25721, 0, none⟩) v_25681.length cap_25683)), (67, (.int .i64 ((c_25163.length : Nat) : Int))), (68, (.int .i64 v_25684)), (69, (.bool (decide (v_25684 < ((c_25163.length : Nat) : Int))))), (70, (.pointer (some ⟨b_25721, (v_25684 : Int).toNat * 2, none⟩))), (71, (.agg #[(.int .i64 ((nth v_25681 v_25684).fLo)), (.int .i64 ((nth v_25681 v_25684).fHi))])), (23, (.pointer (some ⟨b_25722, 0, none⟩))), (72, (.bool some_25678)), (73, (.bool some_25678)), (83, (.bool b_25725)), (84, (.bool b_25725)), (94, (.bool b_25729))] (listedA 24 [22, 21, 20, 19, 18, 17, 16, 15, 14, 13, 12, 11, 10, 9, 8, 7, 6, 5, 4, 3, 2, 1, 0]) ?_ (fun K_25736 => ?_)
        rotate_left
        · rcases Bool.eq_false_or_eq_true b_25725 with hb' | hb'
          · have hg_25737 := hb'; clear hb'
            have hq_25738 := ite_t hb_25730 hg_25737
            replace hq_25738 := Option.some.inj hq_25738
            refine WD.pin (i := 84) rfl hg_25737 ?_
            refine WD.skip (i := 13) (d := 85) (by kernel_rfl) rfl (by kernel_rfl) (by kernel_rfl) rfl rfl rfl ?_
            refine WD.skip (i := 14) (d := 86) (by kernel_rfl) rfl (by kernel_rfl) (by kernel_rfl) rfl rfl rfl ?_
            refine WD.skip (i := 15) (d := 87) (by kernel_rfl) rfl (by kernel_rfl) (by kernel_rfl) rfl rfl rfl ?_
            refine WD.skip (i := 16) (d := 88) (by kernel_rfl) rfl (by kernel_rfl) (by kernel_rfl) rfl rfl rfl ?_
            refine WD.skip (i := 17) (d := 89) (by kernel_rfl) rfl (by kernel_rfl) (by kernel_rfl) rfl rfl rfl ?_
            refine WD.skip (i := 18) (d := 90) (by kernel_rfl) rfl (by kernel_rfl) (by kernel_rfl) rfl rfl rfl ?_
            refine WD.skip (i := 19) (d := 91) (by kernel_rfl) rfl (by kernel_rfl) (by kernel_rfl) rfl rfl rfl ?_
            refine WD.skip (i := 20) (d := 92) (by kernel_rfl) rfl (by kernel_rfl) (by kernel_rfl) rfl rfl rfl ?_
            refine WD.skip (i := 21) (d := 93) (by kernel_rfl) rfl (by kernel_rfl) (by kernel_rfl) rfl rfl rfl ?_
            refine WD.pure (i := 22) (d := 94) (by kernel_rfl) rfl (by kernel_rfl) (by kernel_rfl) rfl rfl rfl (fun _ => q_pickT rfl rfl) ?_
            refine WD.restr ?_ K_25736
            exact (.cons rfl (.cons rfl (.cons rfl (.cons rfl (.cons rfl (.cons rfl (.cons rfl (.cons rfl (.cons rfl (.cons rfl (.cons rfl (.cons rfl (.cons rfl (.cons rfl (.cons rfl (.cons rfl (.cons rfl (.cons rfl (.cons rfl (.cons (some_bool (Eq.symm hg_25737)) (.cons (some_bool hq_25738) .nil)))))))))))))))))))))
          · have hg_25739 := hb'; clear hb'
            have hq_25740 := ite_f hb_25730 hg_25739
            obtain ⟨x_25727, hx_25728, hq_25740⟩ := bind_elim hq_25740
            replace hq_25740 := Option.some.inj hq_25740
            refine WD.pin (i := 84) rfl hg_25739 ?_
            refine WD.pure (i := 13) (d := 85) (by kernel_rfl) rfl (by kernel_rfl) (by kernel_rfl) rfl rfl rfl (fun _ => q_move rfl) ?_
            refine WD.pure (i := 14) (d := 86) (by kernel_rfl) rfl (by kernel_rfl) (by kernel_rfl) rfl rfl rfl (fun _ => q_fieldAddr fo_35_1 rfl rfl) ?_
            refine WD.quiet (i := 15) (d := 87) (by kernel_rfl) rfl (by kernel_rfl) (by kernel_rfl) rfl rfl rfl (q_load1 oneT_3 rfl (rd_stb .here rfl)) ?_
            refine WD.enter (i := 16) (d := 88) (by kernel_rfl) rfl (by kernel_rfl) (by kernel_rfl) rfl rfl rfl (run_callv (l := [.tmp 87]) Try.call19 rfl (.cons rfl .nil)) (fun w hw => by have pz := (hz.call hw (.nil : Sel [stb b_25722 35 [(.int .i64 ((nth v_25681 v_25684).fLo)), (.int .i64 ((nth v_25681 v_25684).fHi))], row (.slice (some ⟨b_25721, 0, none⟩) v_25681.length cap_25683) 35 2 (v_25681.flatMap e35), stb b_24935 23 [(.slice (some ⟨b_25721, 0, none⟩) v_25681.length cap_25683)], stb b_25398 35 [(.int .i64 x_25395.1.fLo), (.int .i64 x_25395.1.fHi)]] [] [stb b_25722 35 [(.int .i64 ((nth v_25681 v_25684).fLo)), (.int .i64 ((nth v_25681 v_25684).fHi))], row (.slice (some ⟨b_25721, 0, none⟩) v_25681.length cap_25683) 35 2 (v_25681.flatMap e35), stb b_24935 23 [(.slice (some ⟨b_25721, 0, none⟩) v_25681.length cap_25683)], stb b_25398 35 [(.int .i64 x_25395.1.fLo), (.int .i64 x_25395.1.fHi)]])).lend hw (.nil : Sel [stb b_25722 35 [(.int .i64 ((nth v_25681 v_25684).fLo)), (.int .i64 ((nth v_25681 v_25684).fHi))], row (.slice (some ⟨b_25721, 0, none⟩) v_25681.length cap_25683) 35 2 (v_25681.flatMap e35), stb b_24935 23 [(.slice (some ⟨b_25721, 0, none⟩) v_25681.length cap_25683)], stb b_25398 35 [(.int .i64 x_25395.1.fLo), (.int .i64 x_25395.1.fHi)]] [] [stb b_25722 35 [(.int .i64 ((nth v_25681 v_25684).fLo)), (.int .i64 ((nth v_25681 v_25684).fHi))], row (.slice (some ⟨b_25721, 0, none⟩) v_25681.length cap_25683) 35 2 (v_25681.flatMap e35), stb b_24935 23 [(.slice (some ⟨b_25721, 0, none⟩) v_25681.length cap_25683)], stb b_25398 35 [(.int .i64 x_25395.1.fLo), (.int .i64 x_25395.1.fHi)]]) (B := [stb b_24935 23 [(.slice (some ⟨b_25721, 0, none⟩) v_25681.length cap_25683)], row (.slice (some ⟨b_25721, 0, none⟩) v_25681.length cap_25683) 35 2 (v_25681.flatMap e35)]) (fun _ hx' => ((.cons (.there (.there .here)) (.cons (.there .here) .nil)) : Sel _ [stb b_24935 23 [(.slice (some ⟨b_25721, 0, none⟩) v_25681.length cap_25683)], row (.slice (some ⟨b_25721, 0, none⟩) v_25681.length cap_25683) 35 2 (v_25681.flatMap e35)] _).mem hx'); exact w_law33_ClockMeets_1 (Z := _) (A_24021 := ⟨b_24935, 0, none⟩) (ao_24024 := (some ⟨b_25721, 0, none⟩)) (cap_24025 := cap_25683) (t_24020 := ((nth v_25681 v_25684).fHi)) (c_24023 := v_25681) (r := x_25727) w pz (ZA.row (hw.lent (.nil : Sel [stb b_25722 35 [(.int .i64 ((nth v_25681 v_25684).fLo)), (.int .i64 ((nth v_25681 v_25684).fHi))], row (.slice (some ⟨b_25721, 0, none⟩) v_25681.length cap_25683) 35 2 (v_25681.flatMap e35), stb b_24935 23 [(.slice (some ⟨b_25721, 0, none⟩) v_25681.length cap_25683)], stb b_25398 35 [(.int .i64 x_25395.1.fLo), (.int .i64 x_25395.1.fHi)]] [] [stb b_25722 35 [(.int .i64 ((nth v_25681 v_25684).fLo)), (.int .i64 ((nth v_25681 v_25684).fHi))], row (.slice (some ⟨b_25721, 0, none⟩) v_25681.length cap_25683) 35 2 (v_25681.flatMap e35), stb b_24935 23 [(.slice (some ⟨b_25721, 0, none⟩) v_25681.length cap_25683)], stb b_25398 35 [(.int .i64 x_25395.1.fLo), (.int .i64 x_25395.1.fHi)]]) (B := [stb b_24935 23 [(.slice (some ⟨b_25721, 0, none⟩) v_25681.length cap_25683)], row (.slice (some ⟨b_25721, 0, none⟩) v_25681.length cap_25683) 35 2 (v_25681.flatMap e35)]) (fun _ hx' => ((.cons (.there (.there .here)) (.cons (.there .here) .nil)) : Sel _ [stb b_24935 23 [(.slice (some ⟨b_25721, 0, none⟩) v_25681.length cap_25683)], row (.slice (some ⟨b_25721, 0, none⟩) v_25681.length cap_25683) 35 2 (v_25681.flatMap e35)] _).mem hx') (.tail _ (.head _)) _) (RR.flat (enc := e35) (fun _ => rfl) _) ⟨w, pz.1⟩) ((hw.lent (.nil : Sel [stb b_25722 35 [(.int .i64 ((nth v_25681 v_25684).fLo)), (.int .i64 ((nth v_25681 v_25684).fHi))], row (.slice (some ⟨b_25721, 0, none⟩) v_25681.length cap_25683) 35 2 (v_25681.flatMap e35), stb b_24935 23 [(.slice (some ⟨b_25721, 0, none⟩) v_25681.length cap_25683)], stb b_25398 35 [(.int .i64 x_25395.1.fLo), (.int .i64 x_25395.1.fHi)]] [] [stb b_25722 35 [(.int .i64 ((nth v_25681 v_25684).fLo)), (.int .i64 ((nth v_25681 v_25684).fHi))], row (.slice (some ⟨b_25721, 0, none⟩) v_25681.length cap_25683) 35 2 (v_25681.flatMap e35), stb b_24935 23 [(.slice (some ⟨b_25721, 0, none⟩) v_25681.length cap_25683)], stb b_25398 35 [(.int .i64 x_25395.1.fLo), (.int .i64 x_25395.1.fHi)]]) (B := [stb b_24935 23 [(.slice (some ⟨b_25721, 0, none⟩) v_25681.length cap_25683)], row (.slice (some ⟨b_25721, 0, none⟩) v_25681.length cap_25683) 35 2 (v_25681.flatMap e35)]) (fun _ hx' => ((.cons (.there (.there .here)) (.cons (.there .here) .nil)) : Sel _ [stb b_24935 23 [(.slice (some ⟨b_25721, 0, none⟩) v_25681.length cap_25683)], row (.slice (some ⟨b_25721, 0, none⟩) v_25681.length cap_25683) 35 2 (v_25681.flatMap e35)] _).mem hx') (.head _) _).stb) hx_25728) ?_
            refine WD.quiet (i := 17) (d := 89) (by kernel_rfl) rfl (by kernel_rfl) (by kernel_rfl) rfl rfl rfl (q_load1 oneT_23 rfl (rd_stb (.there (.there .here)) rfl)) ?_
            refine WD.pure (i := 18) (d := 90) (by kernel_rfl) rfl (by kernel_rfl) (by kernel_rfl) rfl rfl rfl (fun _ => q_len Try.underlying23 rfl) ?_
            refine WD.pure (i := 19) (d := 91) (by kernel_rfl) rfl (by kernel_rfl) (by kernel_rfl) rfl rfl rfl (fun _ => q_move rfl) ?_
            refine WD.pure (i := 20) (d := 92) (by kernel_rfl) rfl (by kernel_rfl) (by kernel_rfl) rfl rfl rfl (fun _ => q_sub rfl rfl rfl) ?_
            refine WD.pure (i := 21) (d := 93) (by kernel_rfl) rfl (by kernel_rfl) (by kernel_rfl) rfl rfl rfl (fun _ => q_geq rfl rfl) ?_
            refine WD.pure (i := 22) (d := 94) (by kernel_rfl) rfl (by kernel_rfl) (by kernel_rfl) rfl rfl rfl (fun _ => q_pickF rfl rfl) ?_
            refine WD.restr ?_ K_25736
            exact (.cons rfl (.cons rfl (.cons rfl (.cons rfl (.cons rfl (.cons rfl (.cons rfl (.cons rfl (.cons rfl (.cons rfl (.cons rfl (.cons rfl (.cons rfl (.cons rfl (.cons rfl (.cons rfl (.cons rfl (.cons rfl (.cons rfl (.cons (some_bool (Eq.symm hg_25739)) (.cons (some_bool hq_25740) .nil)))))))))))))))))))))
        refine WD.pure (i := 23) (d := 19) (by kernel_rfl) rfl (by kernel_rfl) (by kernel_rfl) rfl rfl rfl (fun _ => q_assign rfl) ?_
        refine WD.done (by kernel_rfl) ?_
        refine WX.then ?_
        refine WC.draw (fun i => [].contains i) [] rfl ?_
        refine WD.pure (i := 0) (d := 95) (by kernel_rfl) rfl (by kernel_rfl) (by kernel_rfl) rfl rfl rfl (fun _ => q_move rfl) ?_
        refine WD.pure (i := 1) (d := 96) (by kernel_rfl) rfl (by kernel_rfl) (by kernel_rfl) rfl rfl rfl (fun _ => q_move rfl) ?_
        refine WD.pure (i := 8) (d := 103) (by kernel_rfl) rfl (by kernel_rfl) (by kernel_rfl) rfl rfl rfl (fun _ => q_move rfl) ?_
        refine WD.pure (i := 9) (d := 104) (by kernel_rfl) rfl (by kernel_rfl) (by kernel_rfl) rfl rfl rfl (fun _ => q_move rfl) ?_
        refine WD.mid (fuel' := 8) [(9, (.int .i64 (Int.tmod (i64 n_23538) 8))), (11, (.pointer (some ⟨b_24935, 0, none⟩))), (15, (.func (.func 19) #[] #[(.pointer (some ⟨b_24935, 0, none⟩))])), (16, (.pointer (some ⟨b_25398, 0, none⟩))), (17, (.int .i64 x_25395.2)), (18, (.int .i64 (Int.tmod (i64 at_23539) 1300))), (19, (.bool b_25729)), (20, (.bool lo_25679)), (21, (.bool hi_25680)), (66, (.slice (some ⟨b_25721, 0, none⟩) v_25681.length cap_25683)), (67, (.int .i64 ((c_25163.length : Nat) : Int))), (68, (.int .i64 v_25684)), (69, (.bool (decide (v_25684 < ((c_25163.length : Nat) : Int))))), (70, (.pointer (some ⟨b_25721, (v_25684 : Int).toNat * 2, none⟩))), (71, (.agg #[(.int .i64 ((nth v_25681 v_25684).fLo)), (.int .i64 ((nth v_25681 v_25684).fHi))])), (23, (.pointer (some ⟨b_25722, 0, none⟩))), (72, (.bool some_25678)), (73, (.bool some_25678)), (83, (.bool b_25725)), (84, (.bool b_25725)), (94, (.bool b_25729)), (95, (.bool lo_25679)), (96, (.bool lo_25679)), (103, (.bool hi_25680)), (104, (.bool hi_25680)), (102, (.bool (lo_25679 || (decide (((nth v_25681 v_25684).fLo) = x_25395.1.fLo)))))] (listedA 18 [7, 6, 5, 4, 3, 2, 9, 8, 1, 0]) ?_ (fun K_25741 => ?_)
        rotate_left
        · rcases Bool.eq_false_or_eq_true lo_25679 with hb' | hb'
          · have hg_25742 := hb'; clear hb'
            refine WD.pin (i := 96) rfl hg_25742 ?_
            refine WD.skip (i := 2) (d := 97) (by kernel_rfl) rfl (by kernel_rfl) (by kernel_rfl) rfl rfl rfl ?_
            refine WD.skip (i := 3) (d := 98) (by kernel_rfl) rfl (by kernel_rfl) (by kernel_rfl) rfl rfl rfl ?_
            refine WD.skip (i := 4) (d := 99) (by kernel_rfl) rfl (by kernel_rfl) (by kernel_rfl) rfl rfl rfl ?_
            refine WD.skip (i := 5) (d := 100) (by kernel_rfl) rfl (by kernel_rfl) (by kernel_rfl) rfl rfl rfl ?_
            refine WD.skip (i := 6) (d := 101) (by kernel_rfl) rfl (by kernel_rfl) (by kernel_rfl) rfl rfl rfl ?_
            refine WD.pure (i := 7) (d := 102) (by kernel_rfl) rfl (by kernel_rfl) (by kernel_rfl) rfl rfl rfl (fun _ => q_pickT rfl rfl) ?_
            refine WD.restr ?_ K_25741
            exact (.cons rfl (.cons rfl (.cons rfl (.cons rfl (.cons rfl (.cons rfl (.cons rfl (.cons rfl (.cons rfl (.cons rfl (.cons rfl (.cons rfl (.cons rfl (.cons rfl (.cons rfl (.cons rfl (.cons rfl (.cons rfl (.cons rfl (.cons rfl (.cons rfl (.cons rfl (.cons (some_bool (Eq.symm hg_25742)) (.cons rfl (.cons rfl (.cons (some_bool (or_l hg_25742)) .nil))))))))))))))))))))))))))
          · have hg_25743 := hb'; clear hb'
            refine WD.pin (i := 96) rfl hg_25743 ?_
            refine WD.pure (i := 2) (d := 97) (by kernel_rfl) rfl (by kernel_rfl) (by kernel_rfl) rfl rfl rfl (fun _ => q_fieldAddr fo_35_0 rfl rfl) ?_
            refine WD.quiet (i := 3) (d := 98) (by kernel_rfl) rfl (by kernel_rfl) (by kernel_rfl) rfl rfl rfl (q_load1 oneT_3 rfl (rd_stb .here rfl)) ?_
            refine WD.pure (i := 4) (d := 99) (by kernel_rfl) rfl (by kernel_rfl) (by kernel_rfl) rfl rfl rfl (fun _ => q_fieldAddr fo_35_0 rfl rfl) ?_
            refine WD.quiet (i := 5) (d := 100) (by kernel_rfl) rfl (by kernel_rfl) (by kernel_rfl) rfl rfl rfl (q_load1 oneT_3 rfl (rd_stb (.there (.there (.there .here))) rfl)) ?_
            refine WD.pure (i := 6) (d := 101) (by kernel_rfl) rfl (by kernel_rfl) (by kernel_rfl) rfl rfl rfl (fun _ => q_eql rfl rfl) ?_
            refine WD.pure (i := 7) (d := 102) (by kernel_rfl) rfl (by kernel_rfl) (by kernel_rfl) rfl rfl rfl (fun _ => q_pickF rfl rfl) ?_
            refine WD.restr ?_ K_25741
            exact (.cons rfl (.cons rfl (.cons rfl (.cons rfl (.cons rfl (.cons rfl (.cons rfl (.cons rfl (.cons rfl (.cons rfl (.cons rfl (.cons rfl (.cons rfl (.cons rfl (.cons rfl (.cons rfl (.cons rfl (.cons rfl (.cons rfl (.cons rfl (.cons rfl (.cons rfl (.cons (some_bool (Eq.symm hg_25743)) (.cons rfl (.cons rfl (.cons (some_bool (or_r hg_25743)) .nil))))))))))))))))))))))))))
        refine WD.pure (i := 16) (d := 20) (by kernel_rfl) rfl (by kernel_rfl) (by kernel_rfl) rfl rfl rfl (fun _ => q_assign rfl) ?_
        refine WD.mid (fuel' := 1) [(9, (.int .i64 (Int.tmod (i64 n_23538) 8))), (11, (.pointer (some ⟨b_24935, 0, none⟩))), (15, (.func (.func 19) #[] #[(.pointer (some ⟨b_24935, 0, none⟩))])), (16, (.pointer (some ⟨b_25398, 0, none⟩))), (17, (.int .i64 x_25395.2)), (18, (.int .i64 (Int.tmod (i64 at_23539) 1300))), (19, (.bool b_25729)), (20, (.bool (lo_25679 || (decide (((nth v_25681 v_25684).fLo) = x_25395.1.fLo))))), (21, (.bool hi_25680)), (66, (.slice (some ⟨b_25721, 0, none⟩) v_25681.length cap_25683)), (67, (.int .i64 ((c_25163.length : Nat) : Int))), (68, (.int .i64 v_25684)), (69, (.bool (decide (v_25684 < ((c_25163.length : Nat) : Int))))), (70, (.pointer (some ⟨b_25721, (v_25684 : Int).toNat * 2, none⟩))), (71, (.agg #[(.int .i64 ((nth v_25681 v_25684).fLo)), (.int .i64 ((nth v_25681 v_25684).fHi))])), (23, (.pointer (some ⟨b_25722, 0, none⟩))), (72, (.bool some_25678)), (73, (.bool some_25678)), (83, (.bool b_25725)), (84, (.bool b_25725)), (94, (.bool b_25729)), (95, (.bool lo_25679)), (96, (.bool lo_25679)), (103, (.bool hi_25680)), (104, (.bool hi_25680)), (102, (.bool (lo_25679 || (decide (((nth v_25681 v_25684).fLo) = x_25395.1.fLo))))), (110, (.bool (hi_25680 || (decide (((nth v_25681 v_25684).fHi) = x_25395.1.fHi)))))] (listedA 18 [15, 14, 13, 12, 11, 10, 16, 7, 6, 5, 4, 3, 2, 9, 8, 1, 0]) ?_ (fun K_25744 => ?_)
        rotate_left
        · rcases Bool.eq_false_or_eq_true hi_25680 with hb' | hb'
          · have hg_25745 := hb'; clear hb'
            refine WD.pin (i := 104) rfl hg_25745 ?_
            refine WD.skip (i := 10) (d := 105) (by kernel_rfl) rfl (by kernel_rfl) (by kernel_rfl) rfl rfl rfl ?_
            refine WD.skip (i := 11) (d := 106) (by kernel_rfl) rfl (by kernel_rfl) (by kernel_rfl) rfl rfl rfl ?_
            refine WD.skip (i := 12) (d := 107) (by kernel_rfl) rfl (by kernel_rfl) (by kernel_rfl) rfl rfl rfl ?_
            refine WD.skip (i := 13) (d := 108) (by kernel_rfl) rfl (by kernel_rfl) (by kernel_rfl) rfl rfl rfl ?_
            refine WD.skip (i := 14) (d := 109) (by kernel_rfl) rfl (by kernel_rfl) (by kernel_rfl) rfl rfl rfl ?_
            refine WD.pure (i := 15) (d := 110) (by kernel_rfl) rfl (by kernel_rfl) (by kernel_rfl) rfl rfl rfl (fun _ => q_pickT rfl rfl) ?_
            refine WD.restr ?_ K_25744
            exact (.cons rfl (.cons rfl (.cons rfl (.cons rfl (.cons rfl (.cons rfl (.cons rfl (.cons rfl (.cons rfl (.cons rfl (.cons rfl (.cons rfl (.cons rfl (.cons rfl (.cons rfl (.cons rfl (.cons rfl (.cons rfl (.cons rfl (.cons rfl (.cons rfl (.cons rfl (.cons rfl (.cons rfl (.cons (some_bool (Eq.symm hg_25745)) (.cons rfl (.cons (some_bool (or_l hg_25745)) .nil)))))))))))))))))))))))))))
          · have hg_25746 := hb'; clear hb'
            refine WD.pin (i := 104) rfl hg_25746 ?_
            refine WD.pure (i := 10) (d := 105) (by kernel_rfl) rfl (by kernel_rfl) (by kernel_rfl) rfl rfl rfl (fun _ => q_fieldAddr fo_35_1 rfl rfl) ?_
            refine WD.quiet (i := 11) (d := 106) (by kernel_rfl) rfl (by kernel_rfl) (by kernel_rfl) rfl rfl rfl (q_load1 oneT_3 rfl (rd_stb .here rfl)) ?_
            refine WD.pure (i := 12) (d := 107) (by kernel_rfl) rfl (by kernel_rfl) (by kernel_rfl) rfl rfl rfl (fun _ => q_fieldAddr fo_35_1 rfl rfl) ?_
            refine WD.quiet (i := 13) (d := 108) (by kernel_rfl) rfl (by kernel_rfl) (by kernel_rfl) rfl rfl rfl (q_load1 oneT_3 rfl (rd_stb (.there (.there (.there .here))) rfl)) ?_
            refine WD.pure (i := 14) (d := 109) (by kernel_rfl) rfl (by kernel_rfl) (by kernel_rfl) rfl rfl rfl (fun _ => q_eql rfl rfl) ?_
            refine WD.pure (i := 15) (d := 110) (by kernel_rfl) rfl (by kernel_rfl) (by kernel_rfl) rfl rfl rfl (fun _ => q_pickF rfl rfl) ?_
            refine WD.restr ?_ K_25744
            exact (.cons rfl (.cons rfl (.cons rfl (.cons rfl (.cons rfl (.cons rfl (.cons rfl (.cons rfl (.cons rfl (.cons rfl (.cons rfl (.cons rfl (.cons rfl (.cons rfl (.cons rfl (.cons rfl (.cons rfl (.cons rfl (.cons rfl (.cons rfl (.cons rfl (.cons rfl (.cons rfl (.cons rfl (.cons (some_bool (Eq.symm hg_25746)) (.cons rfl (.cons (some_bool (or_r hg_25746)) .nil)))))))))))))))))))))))))))
        refine WD.pure (i := 17) (d := 21) (by kernel_rfl) rfl (by kernel_rfl) (by kernel_rfl) rfl rfl rfl (fun _ => q_assign rfl) ?_
        refine WD.done (by kernel_rfl) ?_
        refine WX.blockNormal ?_
        refine WX.then ?_
        refine WC.region ?_
        refine WL.quiet (d := 111) rfl rfl rfl (q_add rfl rfl rfl) ?_
        refine WL.quiet (d := 68) rfl rfl rfl (q_move rfl) ?_
        refine WL.nil ?_
        exact WX.round (G := Nat × Bool × Bool × Bool × List Sapi_Span × Int × Option Addr × Nat) ⟨n_25686, b_25729, (lo_25679 || (decide (((nth v_25681 v_25684).fLo) = x_25395.1.fLo))), (hi_25680 || (decide (((nth v_25681 v_25684).fHi) = x_25395.1.fHi))), v_25681, (i64 (v_25684 + 1)), (some ⟨b_25721, 0, none⟩), cap_25683⟩ h (Nat.lt_succ_self _) (.cons rfl (.cons rfl (.cons rfl (.cons rfl (.cons rfl (.cons rfl (.cons rfl (.cons rfl (.cons rfl (.cons rfl (.cons rfl (.cons rfl .nil)))))))))))) (.cons (.there .here) (.cons (.there .here) (.cons (.there .here) .nil)))
      · replace h := ite_f h hb_25688
        refine WC.exit ?_
        refine WX.thenExit ?_
        refine WX.thenExit ?_
        refine WX.blockHit ?_
        exact WX.mid (G := Bool × Bool × Bool × List Sapi_Span × Option Addr × Nat) ⟨some_25678, lo_25679, hi_25680, v_25681, ao_25682, cap_25683⟩ h (.cons rfl (.cons rfl (.cons rfl (.cons rfl (.cons rfl (.cons rfl (.cons rfl (.cons rfl (.cons rfl .nil))))))))) (.cons (.there .here) (.cons .here (.cons .here .nil)))
    · rintro some_25569 lo_25570 hi_25571 c_25572 ao_25573 cap_25574 h
      replace h := (hk_25576 some_25569 lo_25570 hi_25571 c_25572).symm.trans h
      refine WC.seq ?_
      refine WC.seq ?_
      refine WC.region ?_
      refine WL.quiet (d := 112) rfl rfl rfl (q_move rfl) ?_
      refine WL.quiet (d := 113) rfl rfl rfl (q_not rfl) ?_
      refine WL.nil ?_
      refine WX.then ?_
      refine WC.cond rfl (fun hb_25769 => ?_) (fun hb_25769 => ?_)
      · replace h := ite_t h hb_25769
        refine WC.seq ?_
        obtain ⟨b_25772, hb_25773, h⟩ := bind_elim h
        obtain ⟨b_25776, hb_25777, h⟩ := bind_elim h
        refine WC.draw (fun i => [].contains i) [] rfl ?_
        refine WD.pure (i := 0) (d := 114) (by kernel_rfl) rfl (by kernel_rfl) (by kernel_rfl) rfl rfl rfl (fun _ => q_move rfl) ?_
        refine WD.pure (i := 1) (d := 115) (by kernel_rfl) rfl (by kernel_rfl) (by kernel_rfl) rfl rfl rfl (fun _ => q_eql rfl rfl) ?_
        refine WD.pure (i := 2) (d := 116) (by kernel_rfl) rfl (by kernel_rfl) (by kernel_rfl) rfl rfl rfl (fun _ => q_move rfl) ?_
        refine WD.mid (fuel' := 14) [(9, (.int .i64 (Int.tmod (i64 n_23538) 8))), (11, (.pointer (some ⟨b_24935, 0, none⟩))), (15, (.func (.func 19) #[] #[(.pointer (some ⟨b_24935, 0, none⟩))])), (16, (.pointer (some ⟨b_25398, 0, none⟩))), (17, (.int .i64 x_25395.2)), (18, (.int .i64 (Int.tmod (i64 at_23539) 1300))), (19, (.bool some_25569)), (20, (.bool lo_25570)), (21, (.bool hi_25571)), (112, (.bool some_25569)), (113, (.bool (!some_25569))), (114, (.int .i64 x_25395.2)), (115, (.bool (decide (x_25395.2 = 6)))), (116, (.bool (decide (x_25395.2 = 6)))), (120, (.bool ((decide (x_25395.2 = 6)) && (decide (x_25395.1 = (⟨0, 0⟩ : Sapi_Span))))))] (listedA 21 [6, 5, 4, 3, 2, 1, 0]) ?_ (fun K_25778 => ?_)
        rotate_left
        · rcases Bool.eq_false_or_eq_true (decide (x_25395.2 = 6)) with hb' | hb'
          · have hg_25779 := hb'; clear hb'
            refine WD.pin (i := 116) rfl hg_25779 ?_
            refine WD.quiet (i := 3) (d := 117) (by kernel_rfl) rfl (by kernel_rfl) (by kernel_rfl) rfl rfl rfl (q_loadA (cs := [(.int .i64 x_25395.1.fLo), (.int .i64 x_25395.1.fHi)]) aggT_35 rfl rfl (rd_all (.there (.there .here)))) ?_
            refine WD.quiet (i := 4) (d := 118) (by kernel_rfl) rfl (by kernel_rfl) (by kernel_rfl) rfl rfl rfl (q_build (v := (.agg #[(.int .i64 0), (.int .i64 0)])) (Eos.parts (l := []) .nil []) (fun _ => by kernel_rfl)) ?_
            refine WD.pure (i := 5) (d := 119) (by kernel_rfl) rfl (by kernel_rfl) (by kernel_rfl) rfl rfl rfl (fun _ => q_aggeql (enc := e35) (a := x_25395.1) (b := (⟨0, 0⟩ : Sapi_Span)) eqT_35 rfl rfl) ?_
            refine WD.pure (i := 6) (d := 120) (by kernel_rfl) rfl (by kernel_rfl) (by kernel_rfl) rfl rfl rfl (fun _ => q_pickT rfl rfl) ?_
            refine WD.restr ?_ K_25778
            exact (.cons rfl (.cons rfl (.cons rfl (.cons rfl (.cons rfl (.cons rfl (.cons rfl (.cons rfl (.cons rfl (.cons rfl (.cons rfl (.cons rfl (.cons rfl (.cons (some_bool (Eq.symm hg_25779)) (.cons (some_bool (and_r hg_25779)) .nil)))))))))))))))
          · have hg_25780 := hb'; clear hb'
            refine WD.pin (i := 116) rfl hg_25780 ?_
            refine WD.skip (i := 3) (d := 117) (by kernel_rfl) rfl (by kernel_rfl) (by kernel_rfl) rfl rfl rfl ?_
            refine WD.skip (i := 4) (d := 118) (by kernel_rfl) rfl (by kernel_rfl) (by kernel_rfl) rfl rfl rfl ?_
            refine WD.skip (i := 5) (d := 119) (by kernel_rfl) rfl (by kernel_rfl) (by kernel_rfl) rfl rfl rfl ?_
            refine WD.pure (i := 6) (d := 120) (by kernel_rfl) rfl (by kernel_rfl) (by kernel_rfl) rfl rfl rfl (fun _ => q_pickF rfl rfl) ?_
            refine WD.restr ?_ K_25778
            exact (.cons rfl (.cons rfl (.cons rfl (.cons rfl (.cons rfl (.cons rfl (.cons rfl (.cons rfl (.cons rfl (.cons rfl (.cons rfl (.cons rfl (.cons rfl (.cons (some_bool (Eq.symm hg_25780)) (.cons (some_bool (and_l hg_25780)) .nil)))))))))))))))
        refine WD.pure (i := 7) (d := 121) (by kernel_rfl) rfl (by kernel_rfl) (by kernel_rfl) rfl rfl rfl (fun _ => q_move rfl) ?_
        refine WD.mid (fuel' := 4) [(9, (.int .i64 (Int.tmod (i64 n_23538) 8))), (11, (.pointer (some ⟨b_24935, 0, none⟩))), (15, (.func (.func 19) #[] #[(.pointer (some ⟨b_24935, 0, none⟩))])), (16, (.pointer (some ⟨b_25398, 0, none⟩))), (17, (.int .i64 x_25395.2)), (18, (.int .i64 (Int.tmod (i64 at_23539) 1300))), (19, (.bool some_25569)), (20, (.bool lo_25570)), (21, (.bool hi_25571)), (112, (.bool some_25569)), (113, (.bool (!some_25569))), (114, (.int .i64 x_25395.2)), (115, (.bool (decide (x_25395.2 = 6)))), (116, (.bool (decide (x_25395.2 = 6)))), (120, (.bool ((decide (x_25395.2 = 6)) && (decide (x_25395.1 = (⟨0, 0⟩ : Sapi_Span)))))), (121, (.bool ((decide (x_25395.2 = 6)) && (decide (x_25395.1 = (⟨0, 0⟩ : Sapi_Span)))))), (130, (.bool b_25772))] (listedA 21 [16, 15, 14, 13, 12, 11, 10, 9, 8, 7, 6, 5, 4, 3, 2, 1, 0]) ?_ (fun K_25781 => ?_)
        rotate_left
        · rcases Bool.eq_false_or_eq_true ((decide (x_25395.2 = 6)) && (decide (x_25395.1 = (⟨0, 0⟩ : Sapi_Span)))) with hb' | hb'
          · have hg_25782 := hb'; clear hb'
            have hq_25783 := ite_t hb_25773 hg_25782
            obtain ⟨x_25770, hx_25771, hq_25783⟩ := bind_elim hq_25783
            replace hq_25783 := Option.some.inj hq_25783
            refine WD.pin (i := 121) rfl hg_25782 ?_
            refine WD.pure (i := 8) (d := 122) (by kernel_rfl) rfl (by kernel_rfl) (by kernel_rfl) rfl rfl rfl (fun _ => q_move rfl) ?_
            refine WD.pure (i := 9) (d := 123) (by kernel_rfl) rfl (by kernel_rfl) (by kernel_rfl) rfl rfl rfl (fun _ => q_move rfl) ?_
            refine WD.enter (i := 10) (d := 124) (by kernel_rfl) rfl (by kernel_rfl) (by kernel_rfl) rfl rfl rfl (run_callv (l := [.tmp 123]) Try.call19 rfl (.cons rfl .nil)) (fun w hw => by have pz := (hz.call hw (.nil : Sel [stb b_24935 23 [(.slice ao_25573 c_25572.length cap_25574)], row (.slice ao_25573 c_25572.length cap_25574) 35 2 (c_25572.flatMap e35), stb b_25398 35 [(.int .i64 x_25395.1.fLo), (.int .i64 x_25395.1.fHi)]] [] [stb b_24935 23 [(.slice ao_25573 c_25572.length cap_25574)], row (.slice ao_25573 c_25572.length cap_25574) 35 2 (c_25572.flatMap e35), stb b_25398 35 [(.int .i64 x_25395.1.fLo), (.int .i64 x_25395.1.fHi)]])).lend hw (.nil : Sel [stb b_24935 23 [(.slice ao_25573 c_25572.length cap_25574)], row (.slice ao_25573 c_25572.length cap_25574) 35 2 (c_25572.flatMap e35), stb b_25398 35 [(.int .i64 x_25395.1.fLo), (.int .i64 x_25395.1.fHi)]] [] [stb b_24935 23 [(.slice ao_25573 c_25572.length cap_25574)], row (.slice ao_25573 c_25572.length cap_25574) 35 2 (c_25572.flatMap e35), stb b_25398 35 [(.int .i64 x_25395.1.fLo), (.int .i64 x_25395.1.fHi)]]) (B := [stb b_24935 23 [(.slice ao_25573 c_25572.length cap_25574)], row (.slice ao_25573 c_25572.length cap_25574) 35 2 (c_25572.flatMap e35)]) (fun _ hx' => ((.cons .here (.cons .here .nil)) : Sel _ [stb b_24935 23 [(.slice ao_25573 c_25572.length cap_25574)], row (.slice ao_25573 c_25572.length cap_25574) 35 2 (c_25572.flatMap e35)] _).mem hx'); exact w_law33_ClockMeets_1 (Z := _) (A_24021 := ⟨b_24935, 0, none⟩) (ao_24024 := ao_25573) (cap_24025 := cap_25574) (t_24020 := (Int.tmod (i64 at_23539) 1300)) (c_24023 := c_25572) (r := x_25770) w pz (ZA.row (hw.lent (.nil : Sel [stb b_24935 23 [(.slice ao_25573 c_25572.length cap_25574)], row (.slice ao_25573 c_25572.length cap_25574) 35 2 (c_25572.flatMap e35), stb b_25398 35 [(.int .i64 x_25395.1.fLo), (.int .i64 x_25395.1.fHi)]] [] [stb b_24935 23 [(.slice ao_25573 c_25572.length cap_25574)], row (.slice ao_25573 c_25572.length cap_25574) 35 2 (c_25572.flatMap e35), stb b_25398 35 [(.int .i64 x_25395.1.fLo), (.int .i64 x_25395.1.fHi)]]) (B := [stb b_24935 23 [(.slice ao_25573 c_25572.length cap_25574)], row (.slice ao_25573 c_25572.length cap_25574) 35 2 (c_25572.flatMap e35)]) (fun _ hx' => ((.cons .here (.cons .here .nil)) : Sel _ [stb b_24935 23 [(.slice ao_25573 c_25572.length cap_25574)], row (.slice ao_25573 c_25572.length cap_25574) 35 2 (c_25572.flatMap e35)] _).mem hx') (.tail _ (.head _)) _) (RR.flat (enc := e35) (fun _ => rfl) _) ⟨w, pz.1⟩) ((hw.lent (.nil : Sel [stb b_24935 23 [(.slice ao_25573 c_25572.length cap_25574)], row (.slice ao_25573 c_25572.length cap_25574) 35 2 (c_25572.flatMap e35), stb b_25398 35 [(.int .i64 x_25395.1.fLo), (.int .i64 x_25395.1.fHi)]] [] [stb b_24935 23 [(.slice ao_25573 c_25572.length cap_25574)], row (.slice ao_25573 c_25572.length cap_25574) 35 2 (c_25572.flatMap e35), stb b_25398 35 [(.int .i64 x_25395.1.fLo), (.int .i64 x_25395.1.fHi)]]) (B := [stb b_24935 23 [(.slice ao_25573 c_25572.length cap_25574)], row (.slice ao_25573 c_25572.length cap_25574) 35 2 (c_25572.flatMap e35)]) (fun _ hx' => ((.cons .here (.cons .here .nil)) : Sel _ [stb b_24935 23 [(.slice ao_25573 c_25572.length cap_25574)], row (.slice ao_25573 c_25572.length cap_25574) 35 2 (c_25572.flatMap e35)] _).mem hx') (.head _) _).stb) hx_25771) ?_
            refine WD.quiet (i := 11) (d := 125) (by kernel_rfl) rfl (by kernel_rfl) (by kernel_rfl) rfl rfl rfl (q_load1 oneT_23 rfl (rd_stb .here rfl)) ?_
            refine WD.pure (i := 12) (d := 126) (by kernel_rfl) rfl (by kernel_rfl) (by kernel_rfl) rfl rfl rfl (fun _ => q_len Try.underlying23 rfl) ?_
            refine WD.pure (i := 13) (d := 127) (by kernel_rfl) rfl (by kernel_rfl) (by kernel_rfl) rfl rfl rfl (fun _ => q_move rfl) ?_
            refine WD.pure (i := 14) (d := 128) (by kernel_rfl) rfl (by kernel_rfl) (by kernel_rfl) rfl rfl rfl (fun _ => q_sub rfl rfl rfl) ?_
            refine WD.pure (i := 15) (d := 129) (by kernel_rfl) rfl (by kernel_rfl) (by kernel_rfl) rfl rfl rfl (fun _ => q_lss rfl rfl) ?_
            refine WD.pure (i := 16) (d := 130) (by kernel_rfl) rfl (by kernel_rfl) (by kernel_rfl) rfl rfl rfl (fun _ => q_pickT rfl rfl) ?_
            refine WD.restr ?_ K_25781
            exact (.cons rfl (.cons rfl (.cons rfl (.cons rfl (.cons rfl (.cons rfl (.cons rfl (.cons rfl (.cons rfl (.cons rfl (.cons rfl (.cons rfl (.cons rfl (.cons rfl (.cons rfl (.cons (some_bool (Eq.symm hg_25782)) (.cons (some_bool hq_25783) .nil)))))))))))))))))
          · have hg_25784 := hb'; clear hb'
            have hq_25785 := ite_f hb_25773 hg_25784
            replace hq_25785 := Option.some.inj hq_25785
            refine WD.pin (i := 121) rfl hg_25784 ?_
            refine WD.skip (i := 8) (d := 122) (by kernel_rfl) rfl (by kernel_rfl) (by kernel_rfl) rfl rfl rfl ?_
            refine WD.skip (i := 9) (d := 123) (by kernel_rfl) rfl (by kernel_rfl) (by kernel_rfl) rfl rfl rfl ?_
            refine WD.skip (i := 10) (d := 124) (by kernel_rfl) rfl (by kernel_rfl) (by kernel_rfl) rfl rfl rfl ?_
            refine WD.skip (i := 11) (d := 125) (by kernel_rfl) rfl (by kernel_rfl) (by kernel_rfl) rfl rfl rfl ?_
            refine WD.skip (i := 12) (d := 126) (by kernel_rfl) rfl (by kernel_rfl) (by kernel_rfl) rfl rfl rfl ?_
            refine WD.skip (i := 13) (d := 127) (by kernel_rfl) rfl (by kernel_rfl) (by kernel_rfl) rfl rfl rfl ?_
            refine WD.skip (i := 14) (d := 128) (by kernel_rfl) rfl (by kernel_rfl) (by kernel_rfl) rfl rfl rfl ?_
            refine WD.skip (i := 15) (d := 129) (by kernel_rfl) rfl (by kernel_rfl) (by kernel_rfl) rfl rfl rfl ?_
            refine WD.pure (i := 16) (d := 130) (by kernel_rfl) rfl (by kernel_rfl) (by kernel_rfl) rfl rfl rfl (fun _ => q_pickF rfl rfl) ?_
            refine WD.restr ?_ K_25781
            exact (.cons rfl (.cons rfl (.cons rfl (.cons rfl (.cons rfl (.cons rfl (.cons rfl (.cons rfl (.cons rfl (.cons rfl (.cons rfl (.cons rfl (.cons rfl (.cons rfl (.cons rfl (.cons (some_bool (Eq.symm hg_25784)) (.cons (some_bool hq_25785) .nil)))))))))))))))))
        refine WD.pure (i := 17) (d := 131) (by kernel_rfl) rfl (by kernel_rfl) (by kernel_rfl) rfl rfl rfl (fun _ => q_move rfl) ?_
        refine WD.mid (fuel' := 1) [(9, (.int .i64 (Int.tmod (i64 n_23538) 8))), (11, (.pointer (some ⟨b_24935, 0, none⟩))), (15, (.func (.func 19) #[] #[(.pointer (some ⟨b_24935, 0, none⟩))])), (16, (.pointer (some ⟨b_25398, 0, none⟩))), (17, (.int .i64 x_25395.2)), (18, (.int .i64 (Int.tmod (i64 at_23539) 1300))), (19, (.bool some_25569)), (20, (.bool lo_25570)), (21, (.bool hi_25571)), (112, (.bool some_25569)), (113, (.bool (!some_25569))), (114, (.int .i64 x_25395.2)), (115, (.bool (decide (x_25395.2 = 6)))), (116, (.bool (decide (x_25395.2 = 6)))), (120, (.bool ((decide (x_25395.2 = 6)) && (decide (x_25395.1 = (⟨0, 0⟩ : Sapi_Span)))))), (121, (.bool ((decide (x_25395.2 = 6)) && (decide (x_25395.1 = (⟨0, 0⟩ : Sapi_Span)))))), (130, (.bool b_25772)), (131, (.bool b_25772)), (133, (.bool b_25776))] (listedA 21 [19, 18, 17, 16, 15, 14, 13, 12, 11, 10, 9, 8, 7, 6, 5, 4, 3, 2, 1, 0]) ?_ (fun K_25786 => ?_)
        rotate_left
        · rcases Bool.eq_false_or_eq_true b_25772 with hb' | hb'
          · have hg_25787 := hb'; clear hb'
            have hq_25788 := ite_t hb_25777 hg_25787
            obtain ⟨x_25774, hx_25775, hq_25788⟩ := bind_elim hq_25788
            replace hq_25788 := Option.some.inj hq_25788
            refine WD.pin (i := 131) rfl hg_25787 ?_
            refine WD.enter (i := 18) (d := 132) (by kernel_rfl) rfl (by kernel_rfl) (by kernel_rfl) rfl rfl rfl (run_call (l := []) Try.call10 .nil) (fun w hw => by have pz := (hz.call hw (.nil : Sel [stb b_24935 23 [(.slice ao_25573 c_25572.length cap_25574)], row (.slice ao_25573 c_25572.length cap_25574) 35 2 (c_25572.flatMap e35), stb b_25398 35 [(.int .i64 x_25395.1.fLo), (.int .i64 x_25395.1.fHi)]] [] [stb b_24935 23 [(.slice ao_25573 c_25572.length cap_25574)], row (.slice ao_25573 c_25572.length cap_25574) 35 2 (c_25572.flatMap e35), stb b_25398 35 [(.int .i64 x_25395.1.fLo), (.int .i64 x_25395.1.fHi)]])); exact w_law33_awake (Z := _)   (r := x_25774) w pz  hx_25775) ?_
            refine WD.pure (i := 19) (d := 133) (by kernel_rfl) rfl (by kernel_rfl) (by kernel_rfl) rfl rfl rfl (fun _ => q_pickT rfl rfl) ?_
            refine WD.restr ?_ K_25786
            exact (.cons rfl (.cons rfl (.cons rfl (.cons rfl (.cons rfl (.cons rfl (.cons rfl (.cons rfl (.cons rfl (.cons rfl (.cons rfl (.cons rfl (.cons rfl (.cons rfl (.cons rfl (.cons rfl (.cons rfl (.cons (some_bool (Eq.symm hg_25787)) (.cons (some_bool hq_25788) .nil)))))))))))))))))))
          · have hg_25789 := hb'; clear hb'
            have hq_25790 := ite_f hb_25777 hg_25789
            replace hq_25790 := Option.some.inj hq_25790
            refine WD.pin (i := 131) rfl hg_25789 ?_
            refine WD.skip (i := 18) (d := 132) (by kernel_rfl) rfl (by kernel_rfl) (by kernel_rfl) rfl rfl rfl ?_
            refine WD.pure (i := 19) (d := 133) (by kernel_rfl) rfl (by kernel_rfl) (by kernel_rfl) rfl rfl rfl (fun _ => q_pickF rfl rfl) ?_
            refine WD.restr ?_ K_25786
            exact (.cons rfl (.cons rfl (.cons rfl (.cons rfl (.cons rfl (.cons rfl (.cons rfl (.cons rfl (.cons rfl (.cons rfl (.cons rfl (.cons rfl (.cons rfl (.cons rfl (.cons rfl (.cons rfl (.cons rfl (.cons (some_bool (Eq.symm hg_25789)) (.cons (some_bool hq_25790) .nil)))))))))))))))))))
        refine WD.pure (i := 20) (d := 8) (by kernel_rfl) rfl (by kernel_rfl) (by kernel_rfl) rfl rfl rfl (fun _ => q_assign rfl) ?_
        refine WD.done (by kernel_rfl) ?_
        refine WX.then ?_
        refine WC.ret ?_
        refine WX.thenRet ?_
        obtain rfl := Option.some.inj h
        refine WX.bpRet Try.results6 (.tmp rfl .nil) (fun w hw => ?_)
        exact ⟨ret1 rfl, hw.sub .nil⟩
      · replace h := ite_f h hb_25769
        refine WC.skip ?_
        refine WX.then ?_
        refine WC.seq ?_
        refine WC.seq ?_
        obtain ⟨b_25821, hb_25822, h⟩ := bind_elim h
        obtain ⟨b_25825, hb_25826, h⟩ := bind_elim h
        refine WC.draw (fun i => [].contains i) [] rfl ?_
        refine WD.pure (i := 0) (d := 134) (by kernel_rfl) rfl (by kernel_rfl) (by kernel_rfl) rfl rfl rfl (fun _ => q_move rfl) ?_
        refine WD.pure (i := 1) (d := 135) (by kernel_rfl) rfl (by kernel_rfl) (by kernel_rfl) rfl rfl rfl (fun _ => q_neq rfl rfl) ?_
        refine WD.pure (i := 2) (d := 136) (by kernel_rfl) rfl (by kernel_rfl) (by kernel_rfl) rfl rfl rfl (fun _ => q_move rfl) ?_
        refine WD.mid (fuel' := 33) [(9, (.int .i64 (Int.tmod (i64 n_23538) 8))), (11, (.pointer (some ⟨b_24935, 0, none⟩))), (15, (.func (.func 19) #[] #[(.pointer (some ⟨b_24935, 0, none⟩))])), (16, (.pointer (some ⟨b_25398, 0, none⟩))), (17, (.int .i64 x_25395.2)), (18, (.int .i64 (Int.tmod (i64 at_23539) 1300))), (19, (.bool some_25569)), (20, (.bool lo_25570)), (21, (.bool hi_25571)), (112, (.bool some_25569)), (113, (.bool (!some_25569))), (134, (.int .i64 x_25395.2)), (135, (.bool (decide (x_25395.2 ≠ 0)))), (136, (.bool (decide (x_25395.2 ≠ 0)))), (139, (.bool ((decide (x_25395.2 ≠ 0)) || (!lo_25570))))] (listedA 39 [5, 4, 3, 2, 1, 0]) ?_ (fun K_25827 => ?_)
        rotate_left
        · rcases Bool.eq_false_or_eq_true (decide (x_25395.2 ≠ 0)) with hb' | hb'
          · have hg_25828 := hb'; clear hb'
            refine WD.pin (i := 136) rfl hg_25828 ?_
            refine WD.skip (i := 3) (d := 137) (by kernel_rfl) rfl (by kernel_rfl) (by kernel_rfl) rfl rfl rfl ?_
            refine WD.skip (i := 4) (d := 138) (by kernel_rfl) rfl (by kernel_rfl) (by kernel_rfl) rfl rfl rfl ?_
            refine WD.pure (i := 5) (d := 139) (by kernel_rfl) rfl (by kernel_rfl) (by kernel_rfl) rfl rfl rfl (fun _ => q_pickT rfl rfl) ?_
            refine WD.restr ?_ K_25827
            exact (.cons rfl (.cons rfl (.cons rfl (.cons rfl (.cons rfl (.cons rfl (.cons rfl (.cons rfl (.cons rfl (.cons rfl (.cons rfl (.cons rfl (.cons rfl (.cons (some_bool (Eq.symm hg_25828)) (.cons (some_bool (or_l hg_25828)) .nil)))))))))))))))
          · have hg_25829 := hb'; clear hb'
            refine WD.pin (i := 136) rfl hg_25829 ?_
            refine WD.pure (i := 3) (d := 137) (by kernel_rfl) rfl (by kernel_rfl) (by kernel_rfl) rfl rfl rfl (fun _ => q_move rfl) ?_
            refine WD.pure (i := 4) (d := 138) (by kernel_rfl) rfl (by kernel_rfl) (by kernel_rfl) rfl rfl rfl (fun _ => q_not rfl) ?_
            refine WD.pure (i := 5) (d := 139) (by kernel_rfl) rfl (by kernel_rfl) (by kernel_rfl) rfl rfl rfl (fun _ => q_pickF rfl rfl) ?_
            refine WD.restr ?_ K_25827
            exact (.cons rfl (.cons rfl (.cons rfl (.cons rfl (.cons rfl (.cons rfl (.cons rfl (.cons rfl (.cons rfl (.cons rfl (.cons rfl (.cons rfl (.cons rfl (.cons (some_bool (Eq.symm hg_25829)) (.cons (some_bool (or_r hg_25829)) .nil)))))))))))))))
        refine WD.pure (i := 6) (d := 140) (by kernel_rfl) rfl (by kernel_rfl) (by kernel_rfl) rfl rfl rfl (fun _ => q_move rfl) ?_
        refine WD.mid (fuel' := 29) [(9, (.int .i64 (Int.tmod (i64 n_23538) 8))), (11, (.pointer (some ⟨b_24935, 0, none⟩))), (15, (.func (.func 19) #[] #[(.pointer (some ⟨b_24935, 0, none⟩))])), (16, (.pointer (some ⟨b_25398, 0, none⟩))), (17, (.int .i64 x_25395.2)), (18, (.int .i64 (Int.tmod (i64 at_23539) 1300))), (19, (.bool some_25569)), (20, (.bool lo_25570)), (21, (.bool hi_25571)), (112, (.bool some_25569)), (113, (.bool (!some_25569))), (134, (.int .i64 x_25395.2)), (135, (.bool (decide (x_25395.2 ≠ 0)))), (136, (.bool (decide (x_25395.2 ≠ 0)))), (139, (.bool ((decide (x_25395.2 ≠ 0)) || (!lo_25570)))), (140, (.bool ((decide (x_25395.2 ≠ 0)) || (!lo_25570)))), (143, (.bool (((decide (x_25395.2 ≠ 0)) || (!lo_25570)) || (!hi_25571))))] (listedA 39 [9, 8, 7, 6, 5, 4, 3, 2, 1, 0]) ?_ (fun K_25830 => ?_)
        rotate_left
        · rcases Bool.eq_false_or_eq_true ((decide (x_25395.2 ≠ 0)) || (!lo_25570)) with hb' | hb'
          · have hg_25831 := hb'; clear hb'
            refine WD.pin (i := 140) rfl hg_25831 ?_
            refine WD.skip (i := 7) (d := 141) (by kernel_rfl) rfl (by kernel_rfl) (by kernel_rfl) rfl rfl rfl ?_
            refine WD.skip (i := 8) (d := 142) (by kernel_rfl) rfl (by kernel_rfl) (by kernel_rfl) rfl rfl rfl ?_
            refine WD.pure (i := 9) (d := 143) (by kernel_rfl) rfl (by kernel_rfl) (by kernel_rfl) rfl rfl rfl (fun _ => q_pickT rfl rfl) ?_
            refine WD.restr ?_ K_25830
            exact (.cons rfl (.cons rfl (.cons rfl (.cons rfl (.cons rfl (.cons rfl (.cons rfl (.cons rfl (.cons rfl (.cons rfl (.cons rfl (.cons rfl (.cons rfl (.cons rfl (.cons rfl (.cons (some_bool (Eq.symm hg_25831)) (.cons (some_bool (or_l hg_25831)) .nil)))))))))))))))))
          · have hg_25832 := hb'; clear hb'
            refine WD.pin (i := 140) rfl hg_25832 ?_
            refine WD.pure (i := 7) (d := 141) (by kernel_rfl) rfl (by kernel_rfl) (by kernel_rfl) rfl rfl rfl (fun _ => q_move rfl) ?_
            refine WD.pure (i := 8) (d := 142) (by kernel_rfl) rfl (by kernel_rfl) (by kernel_rfl) rfl rfl rfl (fun _ => q_not rfl) ?_
            refine WD.pure (i := 9) (d := 143) (by kernel_rfl) rfl (by kernel_rfl) (by kernel_rfl) rfl rfl rfl (fun _ => q_pickF rfl rfl) ?_
            refine WD.restr ?_ K_25830
            exact (.cons rfl (.cons rfl (.cons rfl (.cons rfl (.cons rfl (.cons rfl (.cons rfl (.cons rfl (.cons rfl (.cons rfl (.cons rfl (.cons rfl (.cons rfl (.cons rfl (.cons rfl (.cons (some_bool (Eq.symm hg_25832)) (.cons (some_bool (or_r hg_25832)) .nil)))))))))))))))))
        refine WD.pure (i := 10) (d := 144) (by kernel_rfl) rfl (by kernel_rfl) (by kernel_rfl) rfl rfl rfl (fun _ => q_move rfl) ?_
        refine WD.mid (fuel' := 22) [(9, (.int .i64 (Int.tmod (i64 n_23538) 8))), (11, (.pointer (some ⟨b_24935, 0, none⟩))), (15, (.func (.func 19) #[] #[(.pointer (some ⟨b_24935, 0, none⟩))])), (16, (.pointer (some ⟨b_25398, 0, none⟩))), (17, (.int .i64 x_25395.2)), (18, (.int .i64 (Int.tmod (i64 at_23539) 1300))), (19, (.bool some_25569)), (20, (.bool lo_25570)), (21, (.bool hi_25571)), (112, (.bool some_25569)), (113, (.bool (!some_25569))), (134, (.int .i64 x_25395.2)), (135, (.bool (decide (x_25395.2 ≠ 0)))), (136, (.bool (decide (x_25395.2 ≠ 0)))), (139, (.bool ((decide (x_25395.2 ≠ 0)) || (!lo_25570)))), (140, (.bool ((decide (x_25395.2 ≠ 0)) || (!lo_25570)))), (143, (.bool (((decide (x_25395.2 ≠ 0)) || (!lo_25570)) || (!hi_25571)))), (144, (.bool (((decide (x_25395.2 ≠ 0)) || (!lo_25570)) || (!hi_25571)))), (150, (.bool ((((decide (x_25395.2 ≠ 0)) || (!lo_25570)) || (!hi_25571)) || (decide (x_25395.1.fLo > x_25395.1.fHi)))))] (listedA 39 [16, 15, 14, 13, 12, 11, 10, 9, 8, 7, 6, 5, 4, 3, 2, 1, 0]) ?_ (fun K_25833 => ?_)
        rotate_left
        · rcases Bool.eq_false_or_eq_true (((decide (x_25395.2 ≠ 0)) || (!lo_25570)) || (!hi_25571)) with hb' | hb'
          · have hg_25834 := hb'; clear hb'
            refine WD.pin (i := 144) rfl hg_25834 ?_
            refine WD.skip (i := 11) (d := 145) (by kernel_rfl) rfl (by kernel_rfl) (by kernel_rfl) rfl rfl rfl ?_
            refine WD.skip (i := 12) (d := 146) (by kernel_rfl) rfl (by kernel_rfl) (by kernel_rfl) rfl rfl rfl ?_
            refine WD.skip (i := 13) (d := 147) (by kernel_rfl) rfl (by kernel_rfl) (by kernel_rfl) rfl rfl rfl ?_
            refine WD.skip (i := 14) (d := 148) (by kernel_rfl) rfl (by kernel_rfl) (by kernel_rfl) rfl rfl rfl ?_
            refine WD.skip (i := 15) (d := 149) (by kernel_rfl) rfl (by kernel_rfl) (by kernel_rfl) rfl rfl rfl ?_
            refine WD.pure (i := 16) (d := 150) (by kernel_rfl) rfl (by kernel_rfl) (by kernel_rfl) rfl rfl rfl (fun _ => q_pickT rfl rfl) ?_
            refine WD.restr ?_ K_25833
            exact (.cons rfl (.cons rfl (.cons rfl (.cons rfl (.cons rfl (.cons rfl (.cons rfl (.cons rfl (.cons rfl (.cons rfl (.cons rfl (.cons rfl (.cons rfl (.cons rfl (.cons rfl (.cons rfl (.cons rfl (.cons (some_bool (Eq.symm hg_25834)) (.cons (some_bool (or_l hg_25834)) .nil)))))))))))))))))))
          · have hg_25835 := hb'; clear hb'
            refine WD.pin (i := 144) rfl hg_25835 ?_
            refine WD.pure (i := 11) (d := 145) (by kernel_rfl) rfl (by kernel_rfl) (by kernel_rfl) rfl rfl rfl (fun _ => q_fieldAddr fo_35_0 rfl rfl) ?_
            refine WD.quiet (i := 12) (d := 146) (by kernel_rfl) rfl (by kernel_rfl) (by kernel_rfl) rfl rfl rfl (q_load1 oneT_3 rfl (rd_stb (.there (.there .here)) rfl)) ?_
            refine WD.pure (i := 13) (d := 147) (by kernel_rfl) rfl (by kernel_rfl) (by kernel_rfl) rfl rfl rfl (fun _ => q_fieldAddr fo_35_1 rfl rfl) ?_
            refine WD.quiet (i := 14) (d := 148) (by kernel_rfl) rfl (by kernel_rfl) (by kernel_rfl) rfl rfl rfl (q_load1 oneT_3 rfl (rd_stb (.there (.there .here)) rfl)) ?_
            refine WD.pure (i := 15) (d := 149) (by kernel_rfl) rfl (by kernel_rfl) (by kernel_rfl) rfl rfl rfl (fun _ => q_gtr rfl rfl) ?_
            refine WD.pure (i := 16) (d := 150) (by kernel_rfl) rfl (by kernel_rfl) (by kernel_rfl) rfl rfl rfl (fun _ => q_pickF rfl rfl) ?_
            refine WD.restr ?_ K_25833
            exact (.cons rfl (.cons rfl (.cons rfl (.cons rfl (.cons rfl (.cons rfl (.cons rfl (.cons rfl (.cons rfl (.cons rfl (.cons rfl (.cons rfl (.cons rfl (.cons rfl (.cons rfl (.cons rfl (.cons rfl (.cons (some_bool (Eq.symm hg_25835)) (.cons (some_bool (or_r hg_25835)) .nil)))))))))))))))))))
        refine WD.pure (i := 17) (d := 151) (by kernel_rfl) rfl (by kernel_rfl) (by kernel_rfl) rfl rfl rfl (fun _ => q_move rfl) ?_
        refine WD.mid (fuel' := 11) [(9, (.int .i64 (Int.tmod (i64 n_23538) 8))), (11, (.pointer (some ⟨b_24935, 0, none⟩))), (15, (.func (.func 19) #[] #[(.pointer (some ⟨b_24935, 0, none⟩))])), (16, (.pointer (some ⟨b_25398, 0, none⟩))), (17, (.int .i64 x_25395.2)), (18, (.int .i64 (Int.tmod (i64 at_23539) 1300))), (19, (.bool some_25569)), (20, (.bool lo_25570)), (21, (.bool hi_25571)), (112, (.bool some_25569)), (113, (.bool (!some_25569))), (134, (.int .i64 x_25395.2)), (135, (.bool (decide (x_25395.2 ≠ 0)))), (136, (.bool (decide (x_25395.2 ≠ 0)))), (139, (.bool ((decide (x_25395.2 ≠ 0)) || (!lo_25570)))), (140, (.bool ((decide (x_25395.2 ≠ 0)) || (!lo_25570)))), (143, (.bool (((decide (x_25395.2 ≠ 0)) || (!lo_25570)) || (!hi_25571)))), (144, (.bool (((decide (x_25395.2 ≠ 0)) || (!lo_25570)) || (!hi_25571)))), (150, (.bool ((((decide (x_25395.2 ≠ 0)) || (!lo_25570)) || (!hi_25571)) || (decide (x_25395.1.fLo > x_25395.1.fHi))))), (151, (.bool ((((decide (x_25395.2 ≠ 0)) || (!lo_25570)) || (!hi_25571)) || (decide (x_25395.1.fLo > x_25395.1.fHi))))), (161, (.bool b_25821))] (listedA 39 [27, 26, 25, 24, 23, 22, 21, 20, 19, 18, 17, 16, 15, 14, 13, 12, 11, 10, 9, 8, 7, 6, 5, 4, 3, 2, 1, 0]) ?_ (fun K_25836 => ?_)
        rotate_left
        · rcases Bool.eq_false_or_eq_true ((((decide (x_25395.2 ≠ 0)) || (!lo_25570)) || (!hi_25571)) || (decide (x_25395.1.fLo > x_25395.1.fHi))) with hb' | hb'
          · have hg_25837 := hb'; clear hb'
            have hq_25838 := ite_t hb_25822 hg_25837
            replace hq_25838 := Option.some.inj hq_25838
            refine WD.pin (i := 151) rfl hg_25837 ?_
            refine WD.skip (i := 18) (d := 152) (by kernel_rfl) rfl (by kernel_rfl) (by kernel_rfl) rfl rfl rfl ?_
            refine WD.skip (i := 19) (d := 153) (by kernel_rfl) rfl (by kernel_rfl) (by kernel_rfl) rfl rfl rfl ?_
            refine WD.skip (i := 20) (d := 154) (by kernel_rfl) rfl (by kernel_rfl) (by kernel_rfl) rfl rfl rfl ?_
            refine WD.skip (i := 21) (d := 155) (by kernel_rfl) rfl (by kernel_rfl) (by kernel_rfl) rfl rfl rfl ?_
            refine WD.skip (i := 22) (d := 156) (by kernel_rfl) rfl (by kernel_rfl) (by kernel_rfl) rfl rfl rfl ?_
            refine WD.skip (i := 23) (d := 157) (by kernel_rfl) rfl (by kernel_rfl) (by kernel_rfl) rfl rfl rfl ?_
            refine WD.skip (i := 24) (d := 158) (by kernel_rfl) rfl (by kernel_rfl) (by kernel_rfl) rfl rfl rfl ?_
            refine WD.skip (i := 25) (d := 159) (by kernel_rfl) rfl (by kernel_rfl) (by kernel_rfl) rfl rfl rfl ?_
            refine WD.skip (i := 26) (d := 160) (by kernel_rfl) rfl (by kernel_rfl) (by kernel_rfl) rfl rfl rfl ?_
            refine WD.pure (i := 27) (d := 161) (by kernel_rfl) rfl (by kernel_rfl) (by kernel_rfl) rfl rfl rfl (fun _ => q_pickT rfl rfl) ?_
            refine WD.restr ?_ K_25836
            exact (.cons rfl (.cons rfl (.cons rfl (.cons rfl (.cons rfl (.cons rfl (.cons rfl (.cons rfl (.cons rfl (.cons rfl (.cons rfl (.cons rfl (.cons rfl (.cons rfl (.cons rfl (.cons rfl (.cons rfl (.cons rfl (.cons rfl (.cons (some_bool (Eq.symm hg_25837)) (.cons (some_bool hq_25838) .nil)))))))))))))))))))))
          · have hg_25839 := hb'; clear hb'
            have hq_25840 := ite_f hb_25822 hg_25839
            obtain ⟨x_25819, hx_25820, hq_25840⟩ := bind_elim hq_25840
            replace hq_25840 := Option.some.inj hq_25840
            refine WD.pin (i := 151) rfl hg_25839 ?_
            refine WD.pure (i := 18) (d := 152) (by kernel_rfl) rfl (by kernel_rfl) (by kernel_rfl) rfl rfl rfl (fun _ => q_move rfl) ?_
            refine WD.pure (i := 19) (d := 153) (by kernel_rfl) rfl (by kernel_rfl) (by kernel_rfl) rfl rfl rfl (fun _ => q_fieldAddr fo_35_0 rfl rfl) ?_
            refine WD.quiet (i := 20) (d := 154) (by kernel_rfl) rfl (by kernel_rfl) (by kernel_rfl) rfl rfl rfl (q_load1 oneT_3 rfl (rd_stb (.there (.there .here)) rfl)) ?_
            refine WD.enter (i := 21) (d := 155) (by kernel_rfl) rfl (by kernel_rfl) (by kernel_rfl) rfl rfl rfl (run_callv (l := [.tmp 154]) Try.call19 rfl (.cons rfl .nil)) (fun w hw => by have pz := (hz.call hw (.nil : Sel [stb b_24935 23 [(.slice ao_25573 c_25572.length cap_25574)], row (.slice ao_25573 c_25572.length cap_25574) 35 2 (c_25572.flatMap e35), stb b_25398 35 [(.int .i64 x_25395.1.fLo), (.int .i64 x_25395.1.fHi)]] [] [stb b_24935 23 [(.slice ao_25573 c_25572.length cap_25574)], row (.slice ao_25573 c_25572.length cap_25574) 35 2 (c_25572.flatMap e35), stb b_25398 35 [(.int .i64 x_25395.1.fLo), (.int .i64 x_25395.1.fHi)]])).lend hw (.nil : Sel [stb b_24935 23 [(.slice ao_25573 c_25572.length cap_25574)], row (.slice ao_25573 c_25572.length cap_25574) 35 2 (c_25572.flatMap e35), stb b_25398 35 [(.int .i64 x_25395.1.fLo), (.int .i64 x_25395.1.fHi)]] [] [stb b_24935 23 [(.slice ao_25573 c_25572.length cap_25574)], row (.slice ao_25573 c_25572.length cap_25574) 35 2 (c_25572.flatMap e35), stb b_25398 35 [(.int .i64 x_25395.1.fLo), (.int .i64 x_25395.1.fHi)]]) (B := [stb b_24935 23 [(.slice ao_25573 c_25572.length cap_25574)], row (.slice ao_25573 c_25572.length cap_25574) 35 2 (c_25572.flatMap e35)]) (fun _ hx' => ((.cons .here (.cons .here .nil)) : Sel _ [stb b_24935 23 [(.slice ao_25573 c_25572.length cap_25574)], row (.slice ao_25573 c_25572.length cap_25574) 35 2 (c_25572.flatMap e35)] _).mem hx'); exact w_law33_ClockMeets_1 (Z := _) (A_24021 := ⟨b_24935, 0, none⟩) (ao_24024 := ao_25573) (cap_24025 := cap_25574) (t_24020 := x_25395.1.fLo) (c_24023 := c_25572) (r := x_25819) w pz (ZA.row (hw.lent (.nil : Sel [stb b_24935 23 [(.slice ao_25573 c_25572.length cap_25574)], row (.slice ao_25573 c_25572.length cap_25574) 35 2 (c_25572.flatMap e35), stb b_25398 35 [(.int .i64 x_25395.1.fLo), (.int .i64 x_25395.1.fHi)]] [] [stb b_24935 23 [(.slice ao_25573 c_25572.length cap_25574)], row (.slice ao_25573 c_25572.length cap_25574) 35 2 (c_25572.flatMap e35), stb b_25398 35 [(.int .i64 x_25395.1.fLo), (.int .i64 x_25395.1.fHi)]]) (B := [stb b_24935 23 [(.slice ao_25573 c_25572.length cap_25574)], row (.slice ao_25573 c_25572.length cap_25574) 35 2 (c_25572.flatMap e35)]) (fun _ hx' => ((.cons .here (.cons .here .nil)) : Sel _ [stb b_24935 23 [(.slice ao_25573 c_25572.length cap_25574)], row (.slice ao_25573 c_25572.length cap_25574) 35 2 (c_25572.flatMap e35)] _).mem hx') (.tail _ (.head _)) _) (RR.flat (enc := e35) (fun _ => rfl) _) ⟨w, pz.1⟩) ((hw.lent (.nil : Sel [stb b_24935 23 [(.slice ao_25573 c_25572.length cap_25574)], row (.slice ao_25573 c_25572.length cap_25574) 35 2 (c_25572.flatMap e35), stb b_25398 35 [(.int .i64 x_25395.1.fLo), (.int .i64 x_25395.1.fHi)]] [] [stb b_24935 23 [(.slice ao_25573 c_25572.length cap_25574)], row (.slice ao_25573 c_25572.length cap_25574) 35 2 (c_25572.flatMap e35), stb b_25398 35 [(.int .i64 x_25395.1.fLo), (.int .i64 x_25395.1.fHi)]]) (B := [stb b_24935 23 [(.slice ao_25573 c_25572.length cap_25574)], row (.slice ao_25573 c_25572.length cap_25574) 35 2 (c_25572.flatMap e35)]) (fun _ hx' => ((.cons .here (.cons .here .nil)) : Sel _ [stb b_24935 23 [(.slice ao_25573 c_25572.length cap_25574)], row (.slice ao_25573 c_25572.length cap_25574) 35 2 (c_25572.flatMap e35)] _).mem hx') (.head _) _).stb) hx_25820) ?_
            refine WD.quiet (i := 22) (d := 156) (by kernel_rfl) rfl (by kernel_rfl) (by kernel_rfl) rfl rfl rfl (q_load1 oneT_23 rfl (rd_stb .here rfl)) ?_
            refine WD.pure (i := 23) (d := 157) (by kernel_rfl) rfl (by kernel_rfl) (by kernel_rfl) rfl rfl rfl (fun _ => q_len Try.underlying23 rfl) ?_
            refine WD.pure (i := 24) (d := 158) (by kernel_rfl) rfl (by kernel_rfl) (by kernel_rfl) rfl rfl rfl (fun _ => q_move rfl) ?_
            refine WD.pure (i := 25) (d := 159) (by kernel_rfl) rfl (by kernel_rfl) (by kernel_rfl) rfl rfl rfl (fun _ => q_sub rfl rfl rfl) ?_
            refine WD.pure (i := 26) (d := 160) (by kernel_rfl) rfl (by kernel_rfl) (by kernel_rfl) rfl rfl rfl (fun _ => q_lss rfl rfl) ?_
            refine WD.pure (i := 27) (d := 161) (by kernel_rfl) rfl (by kernel_rfl) (by kernel_rfl) rfl rfl rfl (fun _ => q_pickF rfl rfl) ?_
            refine WD.restr ?_ K_25836
            exact (.cons rfl (.cons rfl (.cons rfl (.cons rfl (.cons rfl (.cons rfl (.cons rfl (.cons rfl (.cons rfl (.cons rfl (.cons rfl (.cons rfl (.cons rfl (.cons rfl (.cons rfl (.cons rfl (.cons rfl (.cons rfl (.cons rfl (.cons (some_bool (Eq.symm hg_25839)) (.cons (some_bool hq_25840) .nil)))))))))))))))))))))
        refine WD.pure (i := 28) (d := 162) (by kernel_rfl) rfl (by kernel_rfl) (by kernel_rfl) rfl rfl rfl (fun _ => q_move rfl) ?_
        refine WD.mid (fuel' := 0) [(9, (.int .i64 (Int.tmod (i64 n_23538) 8))), (11, (.pointer (some ⟨b_24935, 0, none⟩))), (15, (.func (.func 19) #[] #[(.pointer (some ⟨b_24935, 0, none⟩))])), (16, (.pointer (some ⟨b_25398, 0, none⟩))), (17, (.int .i64 x_25395.2)), (18, (.int .i64 (Int.tmod (i64 at_23539) 1300))), (19, (.bool some_25569)), (20, (.bool lo_25570)), (21, (.bool hi_25571)), (112, (.bool some_25569)), (113, (.bool (!some_25569))), (134, (.int .i64 x_25395.2)), (135, (.bool (decide (x_25395.2 ≠ 0)))), (136, (.bool (decide (x_25395.2 ≠ 0)))), (139, (.bool ((decide (x_25395.2 ≠ 0)) || (!lo_25570)))), (140, (.bool ((decide (x_25395.2 ≠ 0)) || (!lo_25570)))), (143, (.bool (((decide (x_25395.2 ≠ 0)) || (!lo_25570)) || (!hi_25571)))), (144, (.bool (((decide (x_25395.2 ≠ 0)) || (!lo_25570)) || (!hi_25571)))), (150, (.bool ((((decide (x_25395.2 ≠ 0)) || (!lo_25570)) || (!hi_25571)) || (decide (x_25395.1.fLo > x_25395.1.fHi))))), (151, (.bool ((((decide (x_25395.2 ≠ 0)) || (!lo_25570)) || (!hi_25571)) || (decide (x_25395.1.fLo > x_25395.1.fHi))))), (161, (.bool b_25821)), (162, (.bool b_25821)), (172, (.bool b_25825))] (listedA 39 [38, 37, 36, 35, 34, 33, 32, 31, 30, 29, 28, 27, 26, 25, 24, 23, 22, 21, 20, 19, 18, 17, 16, 15, 14, 13, 12, 11, 10, 9, 8, 7, 6, 5, 4, 3, 2, 1, 0]) ?_ (fun K_25841 => ?_)
        rotate_left
        · rcases Bool.eq_false_or_eq_true b_25821 with hb' | hb'
          · have hg_25842 := hb'; clear hb'
            have hq_25843 := ite_t hb_25826 hg_25842
            replace hq_25843 := Option.some.inj hq_25843
            refine WD.pin (i := 162) rfl hg_25842 ?_
            refine WD.skip (i := 29) (d := 163) (by kernel_rfl) rfl (by kernel_rfl) (by kernel_rfl) rfl rfl rfl ?_
            refine WD.skip (i := 30) (d := 164) (by kernel_rfl) rfl (by kernel_rfl) (by kernel_rfl) rfl rfl rfl ?_
            refine WD.skip (i := 31) (d := 165) (by kernel_rfl) rfl (by kernel_rfl) (by kernel_rfl) rfl rfl rfl ?_
            refine WD.skip (i := 32) (d := 166) (by kernel_rfl) rfl (by kernel_rfl) (by kernel_rfl) rfl rfl rfl ?_
            refine WD.skip (i := 33) (d := 167) (by kernel_rfl) rfl (by kernel_rfl) (by kernel_rfl) rfl rfl rfl ?_
            refine WD.skip (i := 34) (d := 168) (by kernel_rfl) rfl (by kernel_rfl) (by kernel_rfl) rfl rfl rfl ?_
            refine WD.skip (i := 35) (d := 169) (by kernel_rfl) rfl (by kernel_rfl) (by kernel_rfl) rfl rfl rfl ?_
            refine WD.skip (i := 36) (d := 170) (by kernel_rfl) rfl (by kernel_rfl) (by kernel_rfl) rfl rfl rfl ?_
            refine WD.skip (i := 37) (d := 171) (by kernel_rfl) rfl (by kernel_rfl) (by kernel_rfl) rfl rfl rfl ?_
            refine WD.pure (i := 38) (d := 172) (by kernel_rfl) rfl (by kernel_rfl) (by kernel_rfl) rfl rfl rfl (fun _ => q_pickT rfl rfl) ?_
            refine WD.restr ?_ K_25841
            exact (.cons rfl (.cons rfl (.cons rfl (.cons rfl (.cons rfl (.cons rfl (.cons rfl (.cons rfl (.cons rfl (.cons rfl (.cons rfl (.cons rfl (.cons rfl (.cons rfl (.cons rfl (.cons rfl (.cons rfl (.cons rfl (.cons rfl (.cons rfl (.cons rfl (.cons (some_bool (Eq.symm hg_25842)) (.cons (some_bool hq_25843) .nil)))))))))))))))))))))))
          · have hg_25844 := hb'; clear hb'
            have hq_25845 := ite_f hb_25826 hg_25844
            obtain ⟨x_25823, hx_25824, hq_25845⟩ := bind_elim hq_25845
            replace hq_25845 := Option.some.inj hq_25845
            refine WD.pin (i := 162) rfl hg_25844 ?_
            refine WD.pure (i := 29) (d := 163) (by kernel_rfl) rfl (by kernel_rfl) (by kernel_rfl) rfl rfl rfl (fun _ => q_move rfl) ?_
            refine WD.pure (i := 30) (d := 164) (by kernel_rfl) rfl (by kernel_rfl) (by kernel_rfl) rfl rfl rfl (fun _ => q_fieldAddr fo_35_1 rfl rfl) ?_
            refine WD.quiet (i := 31) (d := 165) (by kernel_rfl) rfl (by kernel_rfl) (by kernel_rfl) rfl rfl rfl (q_load1 oneT_3 rfl (rd_stb (.there (.there .here)) rfl)) ?_
            refine WD.enter (i := 32) (d := 166) (by kernel_rfl) rfl (by kernel_rfl) (by kernel_rfl) rfl rfl rfl (run_callv (l := [.tmp 165]) Try.call19 rfl (.cons rfl .nil)) (fun w hw => by have pz := (hz.call hw (.nil : Sel [stb b_24935 23 [(.slice ao_25573 c_25572.length cap_25574)], row (.slice ao_25573 c_25572.length cap_25574) 35 2 (c_25572.flatMap e35), stb b_25398 35 [(.int .i64 x_25395.1.fLo), (.int .i64 x_25395.1.fHi)]] [] [stb b_24935 23 [(.slice ao_25573 c_25572.length cap_25574)], row (.slice ao_25573 c_25572.length cap_25574) 35 2 (c_25572.flatMap e35), stb b_25398 35 [(.int .i64 x_25395.1.fLo), (.int .i64 x_25395.1.fHi)]])).lend hw (.nil : Sel [stb b_24935 23 [(.slice ao_25573 c_25572.length cap_25574)], row (.slice ao_25573 c_25572.length cap_25574) 35 2 (c_25572.flatMap e35), stb b_25398 35 [(.int .i64 x_25395.1.fLo), (.int .i64 x_25395.1.fHi)]] [] [stb b_24935 23 [(.slice ao_25573 c_25572.length cap_25574)], row (.slice ao_25573 c_25572.length cap_25574) 35 2 (c_25572.flatMap e35), stb b_25398 35 [(.int .i64 x_25395.1.fLo), (.int .i64 x_25395.1.fHi)]]) (B := [stb b_24935 23 [(.slice ao_25573 c_25572.length cap_25574)], row (.slice ao_25573 c_25572.length cap_25574) 35 2 (c_25572.flatMap e35)]) (fun _ hx' => ((.cons .here (.cons .here .nil)) : Sel _ [stb b_24935 23 [(.slice ao_25573 c_25572.length cap_25574)], row (.slice ao_25573 c_25572.length cap_25574) 35 2 (c_25572.flatMap e35)] _).mem hx'); exact w_law33_ClockMeets_1 (Z := _) (A_24021 := ⟨b_24935, 0, none⟩) (ao_24024 := ao_25573) (cap_24025 := cap_25574) (t_24020 := x_25395.1.fHi) (c_24023 := c_25572) (r := x_25823) w pz (ZA.row (hw.lent (.nil : Sel [stb b_24935 23 [(.slice ao_25573 c_25572.length cap_25574)], row (.slice ao_25573 c_25572.length cap_25574) 35 2 (c_25572.flatMap e35), stb b_25398 35 [(.int .i64 x_25395.1.fLo), (.int .i64 x_25395.1.fHi)]] [] [stb b_24935 23 [(.slice ao_25573 c_25572.length cap_25574)], row (.slice ao_25573 c_25572.length cap_25574) 35 2 (c_25572.flatMap e35), stb b_25398 35 [(.int .i64 x_25395.1.fLo), (.int .i64 x_25395.1.fHi)]]) (B := [stb b_24935 23 [(.slice ao_25573 c_25572.length cap_25574)], row (.slice ao_25573 c_25572.length cap_25574) 35 2 (c_25572.flatMap e35)]) (fun _ hx' => ((.cons .here (.cons .here .nil)) : Sel _ [stb b_24935 23 [(.slice ao_25573 c_25572.length cap_25574)], row (.slice ao_25573 c_25572.length cap_25574) 35 2 (c_25572.flatMap e35)] _).mem hx') (.tail _ (.head _)) _) (RR.flat (enc := e35) (fun _ => rfl) _) ⟨w, pz.1⟩) ((hw.lent (.nil : Sel [stb b_24935 23 [(.slice ao_25573 c_25572.length cap_25574)], row (.slice ao_25573 c_25572.length cap_25574) 35 2 (c_25572.flatMap e35), stb b_25398 35 [(.int .i64 x_25395.1.fLo), (.int .i64 x_25395.1.fHi)]] [] [stb b_24935 23 [(.slice ao_25573 c_25572.length cap_25574)], row (.slice ao_25573 c_25572.length cap_25574) 35 2 (c_25572.flatMap e35), stb b_25398 35 [(.int .i64 x_25395.1.fLo), (.int .i64 x_25395.1.fHi)]]) (B := [stb b_24935 23 [(.slice ao_25573 c_25572.length cap_25574)], row (.slice ao_25573 c_25572.length cap_25574) 35 2 (c_25572.flatMap e35)]) (fun _ hx' => ((.cons .here (.cons .here .nil)) : Sel _ [stb b_24935 23 [(.slice ao_25573 c_25572.length cap_25574)], row (.slice ao_25573 c_25572.length cap_25574) 35 2 (c_25572.flatMap e35)] _).mem hx') (.head _) _).stb) hx_25824) ?_
            refine WD.quiet (i := 33) (d := 167) (by kernel_rfl) rfl (by kernel_rfl) (by kernel_rfl) rfl rfl rfl (q_load1 oneT_23 rfl (rd_stb .here rfl)) ?_
            refine WD.pure (i := 34) (d := 168) (by kernel_rfl) rfl (by kernel_rfl) (by kernel_rfl) rfl rfl rfl (fun _ => q_len Try.underlying23 rfl) ?_
            refine WD.pure (i := 35) (d := 169) (by kernel_rfl) rfl (by kernel_rfl) (by kernel_rfl) rfl rfl rfl (fun _ => q_move rfl) ?_
            refine WD.pure (i := 36) (d := 170) (by kernel_rfl) rfl (by kernel_rfl) (by kernel_rfl) rfl rfl rfl (fun _ => q_sub rfl rfl rfl) ?_
            refine WD.pure (i := 37) (d := 171) (by kernel_rfl) rfl (by kernel_rfl) (by kernel_rfl) rfl rfl rfl (fun _ => q_lss rfl rfl) ?_
            refine WD.pure (i := 38) (d := 172) (by kernel_rfl) rfl (by kernel_rfl) (by kernel_rfl) rfl rfl rfl (fun _ => q_pickF rfl rfl) ?_
            refine WD.restr ?_ K_25841
            exact (.cons rfl (.cons rfl (.cons rfl (.cons rfl (.cons rfl (.cons rfl (.cons rfl (.cons rfl (.cons rfl (.cons rfl (.cons rfl (.cons rfl (.cons rfl (.cons rfl (.cons rfl (.cons rfl (.cons rfl (.cons rfl (.cons rfl (.cons rfl (.cons rfl (.cons (some_bool (Eq.symm hg_25844)) (.cons (some_bool hq_25845) .nil)))))))))))))))))))))))
        refine WD.done (by kernel_rfl) ?_
        refine WX.then ?_
        refine WC.cond rfl (fun hb_25846 => ?_) (fun hb_25846 => ?_)
        · replace h := ite_t h hb_25846
          refine WC.seq ?_
          refine WC.region ?_
          refine WL.quiet (d := 8) rfl rfl rfl (q_assign rfl) ?_
          refine WL.nil ?_
          refine WX.then ?_
          refine WC.ret ?_
          refine WX.thenRet ?_
          obtain rfl := Option.some.inj h
          refine WX.bpRet Try.results6 (.tmp rfl .nil) (fun w hw => ?_)
          exact ⟨ret1 rfl, hw.sub .nil⟩
        · replace h := ite_f h hb_25846
          refine WC.skip ?_
          refine WX.then ?_
          refine WC.seq ?_
          obtain ⟨x_25847, hx_25848, h⟩ := bind_elim h
          obtain ⟨b_25851, hb_25852, h⟩ := bind_elim h
          refine WC.draw (fun i => [].contains i) [] rfl ?_
          refine WD.pure (i := 0) (d := 173) (by kernel_rfl) rfl (by kernel_rfl) (by kernel_rfl) rfl rfl rfl (fun _ => q_move rfl) ?_
          refine WD.pure (i := 1) (d := 174) (by kernel_rfl) rfl (by kernel_rfl) (by kernel_rfl) rfl rfl rfl (fun _ => q_move rfl) ?_
          refine WD.enter (i := 2) (d := 175) (by kernel_rfl) rfl (by kernel_rfl) (by kernel_rfl) rfl rfl rfl (run_callv (l := [.tmp 174]) Try.call19 rfl (.cons rfl .nil)) (fun w hw => by have pz := (hz.call hw (.nil : Sel [stb b_24935 23 [(.slice ao_25573 c_25572.length cap_25574)], row (.slice ao_25573 c_25572.length cap_25574) 35 2 (c_25572.flatMap e35), stb b_25398 35 [(.int .i64 x_25395.1.fLo), (.int .i64 x_25395.1.fHi)]] [] [stb b_24935 23 [(.slice ao_25573 c_25572.length cap_25574)], row (.slice ao_25573 c_25572.length cap_25574) 35 2 (c_25572.flatMap e35), stb b_25398 35 [(.int .i64 x_25395.1.fLo), (.int .i64 x_25395.1.fHi)]])).lend hw (.nil : Sel [stb b_24935 23 [(.slice ao_25573 c_25572.length cap_25574)], row (.slice ao_25573 c_25572.length cap_25574) 35 2 (c_25572.flatMap e35), stb b_25398 35 [(.int .i64 x_25395.1.fLo), (.int .i64 x_25395.1.fHi)]] [] [stb b_24935 23 [(.slice ao_25573 c_25572.length cap_25574)], row (.slice ao_25573 c_25572.length cap_25574) 35 2 (c_25572.flatMap e35), stb b_25398 35 [(.int .i64 x_25395.1.fLo), (.int .i64 x_25395.1.fHi)]]) (B := [stb b_24935 23 [(.slice ao_25573 c_25572.length cap_25574)], row (.slice ao_25573 c_25572.length cap_25574) 35 2 (c_25572.flatMap e35)]) (fun _ hx' => ((.cons .here (.cons .here .nil)) : Sel _ [stb b_24935 23 [(.slice ao_25573 c_25572.length cap_25574)], row (.slice ao_25573 c_25572.length cap_25574) 35 2 (c_25572.flatMap e35)] _).mem hx'); exact w_law33_ClockMeets_1 (Z := _) (A_24021 := ⟨b_24935, 0, none⟩) (ao_24024 := ao_25573) (cap_24025 := cap_25574) (t_24020 := (Int.tmod (i64 at_23539) 1300)) (c_24023 := c_25572) (r := x_25847) w pz (ZA.row (hw.lent (.nil : Sel [stb b_24935 23 [(.slice ao_25573 c_25572.length cap_25574)], row (.slice ao_25573 c_25572.length cap_25574) 35 2 (c_25572.flatMap e35), stb b_25398 35 [(.int .i64 x_25395.1.fLo), (.int .i64 x_25395.1.fHi)]] [] [stb b_24935 23 [(.slice ao_25573 c_25572.length cap_25574)], row (.slice ao_25573 c_25572.length cap_25574) 35 2 (c_25572.flatMap e35), stb b_25398 35 [(.int .i64 x_25395.1.fLo), (.int .i64 x_25395.1.fHi)]]) (B := [stb b_24935 23 [(.slice ao_25573 c_25572.length cap_25574)], row (.slice ao_25573 c_25572.length cap_25574) 35 2 (c_25572.flatMap e35)]) (fun _ hx' => ((.cons .here (.cons .here .nil)) : Sel _ [stb b_24935 23 [(.slice ao_25573 c_25572.length cap_25574)], row (.slice ao_25573 c_25572.length cap_25574) 35 2 (c_25572.flatMap e35)] _).mem hx') (.tail _ (.head _)) _) (RR.flat (enc := e35) (fun _ => rfl) _) ⟨w, pz.1⟩) ((hw.lent (.nil : Sel [stb b_24935 23 [(.slice ao_25573 c_25572.length cap_25574)], row (.slice ao_25573 c_25572.length cap_25574) 35 2 (c_25572.flatMap e35), stb b_25398 35 [(.int .i64 x_25395.1.fLo), (.int .i64 x_25395.1.fHi)]] [] [stb b_24935 23 [(.slice ao_25573 c_25572.length cap_25574)], row (.slice ao_25573 c_25572.length cap_25574) 35 2 (c_25572.flatMap e35), stb b_25398 35 [(.int .i64 x_25395.1.fLo), (.int .i64 x_25395.1.fHi)]]) (B := [stb b_24935 23 [(.slice ao_25573 c_25572.length cap_25574)], row (.slice ao_25573 c_25572.length cap_25574) 35 2 (c_25572.flatMap e35)]) (fun _ hx' => ((.cons .here (.cons .here .nil)) : Sel _ [stb b_24935 23 [(.slice ao_25573 c_25572.length cap_25574)], row (.slice ao_25573 c_25572.length cap_25574) 35 2 (c_25572.flatMap e35)] _).mem hx') (.head _) _).stb) hx_25848) ?_
          refine WD.quiet (i := 3) (d := 176) (by kernel_rfl) rfl (by kernel_rfl) (by kernel_rfl) rfl rfl rfl (q_load1 oneT_23 rfl (rd_stb .here rfl)) ?_
          refine WD.pure (i := 4) (d := 177) (by kernel_rfl) rfl (by kernel_rfl) (by kernel_rfl) rfl rfl rfl (fun _ => q_len Try.underlying23 rfl) ?_
          refine WD.pure (i := 5) (d := 178) (by kernel_rfl) rfl (by kernel_rfl) (by kernel_rfl) rfl rfl rfl (fun _ => q_move rfl) ?_
          refine WD.pure (i := 6) (d := 179) (by kernel_rfl) rfl (by kernel_rfl) (by kernel_rfl) rfl rfl rfl (fun _ => q_sub rfl rfl rfl) ?_
          refine WD.pure (i := 7) (d := 180) (by kernel_rfl) rfl (by kernel_rfl) (by kernel_rfl) rfl rfl rfl (fun _ => q_lss rfl rfl) ?_
          refine WD.pure (i := 8) (d := 181) (by kernel_rfl) rfl (by kernel_rfl) (by kernel_rfl) rfl rfl rfl (fun _ => q_move rfl) ?_
          refine WD.mid (fuel' := 4) [(9, (.int .i64 (Int.tmod (i64 n_23538) 8))), (11, (.pointer (some ⟨b_24935, 0, none⟩))), (15, (.func (.func 19) #[] #[(.pointer (some ⟨b_24935, 0, none⟩))])), (16, (.pointer (some ⟨b_25398, 0, none⟩))), (17, (.int .i64 x_25395.2)), (18, (.int .i64 (Int.tmod (i64 at_23539) 1300))), (19, (.bool some_25569)), (20, (.bool lo_25570)), (21, (.bool hi_25571)), (112, (.bool some_25569)), (113, (.bool (!some_25569))), (134, (.int .i64 x_25395.2)), (135, (.bool (decide (x_25395.2 ≠ 0)))), (136, (.bool (decide (x_25395.2 ≠ 0)))), (139, (.bool ((decide (x_25395.2 ≠ 0)) || (!lo_25570)))), (140, (.bool ((decide (x_25395.2 ≠ 0)) || (!lo_25570)))), (143, (.bool (((decide (x_25395.2 ≠ 0)) || (!lo_25570)) || (!hi_25571)))), (144, (.bool (((decide (x_25395.2 ≠ 0)) || (!lo_25570)) || (!hi_25571)))), (150, (.bool ((((decide (x_25395.2 ≠ 0)) || (!lo_25570)) || (!hi_25571)) || (decide (x_25395.1.fLo > x_25395.1.fHi))))), (151, (.bool ((((decide (x_25395.2 ≠ 0)) || (!lo_25570)) || (!hi_25571)) || (decide (x_25395.1.fLo > x_25395.1.fHi))))), (161, (.bool b_25821)), (162, (.bool b_25821)), (172, (.bool b_25825)), (173, (.func (.func 19) #[] #[(.pointer (some ⟨b_24935, 0, none⟩))])), (174, (.int .i64 (Int.tmod (i64 at_23539) 1300))), (175, (.int .i64 x_25847)), (176, (.slice ao_25573 c_25572.length cap_25574)), (177, (.int .i64 ((c_25572.length : Nat) : Int))), (178, (.int .i64 (Int.tmod (i64 n_23538) 8))), (179, (.int .i64 (i64 (((c_25572.length : Nat) : Int) - (Int.tmod (i64 n_23538) 8))))), (180, (.bool (decide (x_25847 < (i64 (((c_25572.length : Nat) : Int) - (Int.tmod (i64 n_23538) 8))))))), (181, (.bool (decide (x_25847 < (i64 (((c_25572.length : Nat) : Int) - (Int.tmod (i64 n_23538) 8))))))), (192, (.bool ((decide (x_25847 < (i64 (((c_25572.length : Nat) : Int) - (Int.tmod (i64 n_23538) 8))))) || ((decide (x_25395.1.fLo ≤ (Int.tmod (i64 at_23539) 1300))) && (decide ((Int.tmod (i64 at_23539) 1300) ≤ x_25395.1.fHi))))))] (listedA 24 [19, 18, 17, 16, 15, 14, 13, 12, 11, 10, 9, 8, 7, 6, 5, 4, 3, 2, 1, 0]) ?_ (fun K_25856 => ?_)
          rotate_left
          · rcases Bool.eq_false_or_eq_true (decide (x_25847 < (i64 (((c_25572.length : Nat) : Int) - (Int.tmod (i64 n_23538) 8))))) with hb' | hb'
            · have hg_25857 := hb'; clear hb'
              refine WD.pin (i := 181) rfl hg_25857 ?_
              refine WD.skip (i := 9) (d := 182) (by kernel_rfl) rfl (by kernel_rfl) (by kernel_rfl) rfl rfl rfl ?_
              refine WD.skip (i := 10) (d := 183) (by kernel_rfl) rfl (by kernel_rfl) (by kernel_rfl) rfl rfl rfl ?_
              refine WD.skip (i := 11) (d := 184) (by kernel_rfl) rfl (by kernel_rfl) (by kernel_rfl) rfl rfl rfl ?_
              refine WD.skip (i := 12) (d := 185) (by kernel_rfl) rfl (by kernel_rfl) (by kernel_rfl) rfl rfl rfl ?_
              refine WD.skip (i := 13) (d := 186) (by kernel_rfl) rfl (by kernel_rfl) (by kernel_rfl) rfl rfl rfl ?_
              refine WD.skip (i := 14) (d := 187) (by kernel_rfl) rfl (by kernel_rfl) (by kernel_rfl) rfl rfl rfl ?_
              refine WD.skip (i := 15) (d := 188) (by kernel_rfl) rfl (by kernel_rfl) (by kernel_rfl) rfl rfl rfl ?_
              refine WD.skip (i := 16) (d := 189) (by kernel_rfl) rfl (by kernel_rfl) (by kernel_rfl) rfl rfl rfl ?_
              refine WD.skip (i := 17) (d := 190) (by kernel_rfl) rfl (by kernel_rfl) (by kernel_rfl) rfl rfl rfl ?_
              refine WD.skip (i := 18) (d := 191) (by kernel_rfl) rfl (by kernel_rfl) (by kernel_rfl) rfl rfl rfl ?_
              refine WD.pure (i := 19) (d := 192) (by kernel_rfl) rfl (by kernel_rfl) (by kernel_rfl) rfl rfl rfl (fun _ => q_pickT rfl rfl) ?_
              refine WD.restr ?_ K_25856
              exact (.cons rfl (.cons rfl (.cons rfl (.cons rfl (.cons rfl (.cons rfl (.cons rfl (.cons rfl (.cons rfl (.cons rfl (.cons rfl (.cons rfl (.cons rfl (.cons rfl (.cons rfl (.cons rfl (.cons rfl (.cons rfl (.cons rfl (.cons rfl (.cons rfl (.cons rfl (.cons rfl (.cons rfl (.cons rfl (.cons rfl (.cons rfl (.cons rfl (.cons rfl (.cons rfl (.cons rfl (.cons (some_bool (Eq.symm hg_25857)) (.cons (some_bool (or_l hg_25857)) .nil)))))))))))))))))))))))))))))))))
            · have hg_25858 := hb'; clear hb'
              refine WD.pin (i := 181) rfl hg_25858 ?_
              refine WD.pure (i := 9) (d := 182) (by kernel_rfl) rfl (by kernel_rfl) (by kernel_rfl) rfl rfl rfl (fun _ => q_fieldAddr fo_35_0 rfl rfl) ?_
              refine WD.quiet (i := 10) (d := 183) (by kernel_rfl) rfl (by kernel_rfl) (by kernel_rfl) rfl rfl rfl (q_load1 oneT_3 rfl (rd_stb (.there (.there .here)) rfl)) ?_
              refine WD.pure (i := 11) (d := 184) (by kernel_rfl) rfl (by kernel_rfl) (by kernel_rfl) rfl rfl rfl (fun _ => q_move rfl) ?_
              refine WD.pure (i := 12) (d := 185) (by kernel_rfl) rfl (by kernel_rfl) (by kernel_rfl) rfl rfl rfl (fun _ => q_leq rfl rfl) ?_
              refine WD.pure (i := 13) (d := 186) (by kernel_rfl) rfl (by kernel_rfl) (by kernel_rfl) rfl rfl rfl (fun _ => q_move rfl) ?_
              refine WD.mid (fuel' := 5) [(9, (.int .i64 (Int.tmod (i64 n_23538) 8))), (11, (.pointer (some ⟨b_24935, 0, none⟩))), (15, (.func (.func 19) #[] #[(.pointer (some ⟨b_24935, 0, none⟩))])), (16, (.pointer (some ⟨b_25398, 0, none⟩))), (17, (.int .i64 x_25395.2)), (18, (.int .i64 (Int.tmod (i64 at_23539) 1300))), (19, (.bool some_25569)), (20, (.bool lo_25570)), (21, (.bool hi_25571)), (112, (.bool some_25569)), (113, (.bool (!some_25569))), (134, (.int .i64 x_25395.2)), (135, (.bool (decide (x_25395.2 ≠ 0)))), (136, (.bool (decide (x_25395.2 ≠ 0)))), (139, (.bool ((decide (x_25395.2 ≠ 0)) || (!lo_25570)))), (140, (.bool ((decide (x_25395.2 ≠ 0)) || (!lo_25570)))), (143, (.bool (((decide (x_25395.2 ≠ 0)) || (!lo_25570)) || (!hi_25571)))), (144, (.bool (((decide (x_25395.2 ≠ 0)) || (!lo_25570)) || (!hi_25571)))), (150, (.bool ((((decide (x_25395.2 ≠ 0)) || (!lo_25570)) || (!hi_25571)) || (decide (x_25395.1.fLo > x_25395.1.fHi))))), (151, (.bool ((((decide (x_25395.2 ≠ 0)) || (!lo_25570)) || (!hi_25571)) || (decide (x_25395.1.fLo > x_25395.1.fHi))))), (161, (.bool b_25821)), (162, (.bool b_25821)), (172, (.bool b_25825)), (173, (.func (.func 19) #[] #[(.pointer (some ⟨b_24935, 0, none⟩))])), (174, (.int .i64 (Int.tmod (i64 at_23539) 1300))), (175, (.int .i64 x_25847)), (176, (.slice ao_25573 c_25572.length cap_25574)), (177, (.int .i64 ((c_25572.length : Nat) : Int))), (178, (.int .i64 (Int.tmod (i64 n_23538) 8))), (179, (.int .i64 (i64 (((c_25572.length : Nat) : Int) - (Int.tmod (i64 n_23538) 8))))), (180, (.bool (decide (x_25847 < (i64 (((c_25572.length : Nat) : Int) - (Int.tmod (i64 n_23538) 8))))))), (181, (.bool false)), (182, (.pointer (some ⟨b_25398, 0, none⟩))), (183, (.int .i64 x_25395.1.fLo)), (184, (.int .i64 (Int.tmod (i64 at_23539) 1300))), (185, (.bool (decide (x_25395.1.fLo ≤ (Int.tmod (i64 at_23539) 1300))))), (186, (.bool (decide (x_25395.1.fLo ≤ (Int.tmod (i64 at_23539) 1300))))), (191, (.bool ((decide (x_25395.1.fLo ≤ (Int.tmod (i64 at_23539) 1300))) && (decide ((Int.tmod (i64 at_23539) 1300) ≤ x_25395.1.fHi)))))] (listedA 24 [18, 17, 16, 15, 14, 13, 12, 11, 10, 9, 8, 7, 6, 5, 4, 3, 2, 1, 0]) ?_ (fun K_25859 => ?_)
              rotate_left
              · rcases Bool.eq_false_or_eq_true (decide (x_25395.1.fLo ≤ (Int.tmod (i64 at_23539) 1300))) with hb' | hb'
                · have hg_25860 := hb'; clear hb'
                  refine WD.pin (i := 186) rfl hg_25860 ?_
                  refine WD.pure (i := 14) (d := 187) (by kernel_rfl) rfl (by kernel_rfl) (by kernel_rfl) rfl rfl rfl (fun _ => q_move rfl) ?_
                  refine WD.pure (i := 15) (d := 188) (by kernel_rfl) rfl (by kernel_rfl) (by kernel_rfl) rfl rfl rfl (fun _ => q_fieldAddr fo_35_1 rfl rfl) ?_
                  refine WD.quiet (i := 16) (d := 189) (by kernel_rfl) rfl (by kernel_rfl) (by kernel_rfl) rfl rfl rfl (q_load1 oneT_3 rfl (rd_stb (.there (.there .here)) rfl)) ?_
                  refine WD.pure (i := 17) (d := 190) (by kernel_rfl) rfl (by kernel_rfl) (by kernel_rfl) rfl rfl rfl (fun _ => q_leq rfl rfl) ?_
                  refine WD.pure (i := 18) (d := 191) (by kernel_rfl) rfl (by kernel_rfl) (by kernel_rfl) rfl rfl rfl (fun _ => q_pickT rfl rfl) ?_
                  refine WD.restr ?_ K_25859
                  exact (.cons rfl (.cons rfl (.cons rfl (.cons rfl (.cons rfl (.cons rfl (.cons rfl (.cons rfl (.cons rfl (.cons rfl (.cons rfl (.cons rfl (.cons rfl (.cons rfl (.cons rfl (.cons rfl (.cons rfl (.cons rfl (.cons rfl (.cons rfl (.cons rfl (.cons rfl (.cons rfl (.cons rfl (.cons rfl (.cons rfl (.cons rfl (.cons rfl (.cons rfl (.cons rfl (.cons rfl (.cons rfl (.cons rfl (.cons rfl (.cons rfl (.cons rfl (.cons (some_bool (Eq.symm hg_25860)) (.cons (some_bool (and_r hg_25860)) .nil))))))))))))))))))))))))))))))))))))))
                · have hg_25861 := hb'; clear hb'
                  refine WD.pin (i := 186) rfl hg_25861 ?_
                  refine WD.skip (i := 14) (d := 187) (by kernel_rfl) rfl (by kernel_rfl) (by kernel_rfl) rfl rfl rfl ?_
                  refine WD.skip (i := 15) (d := 188) (by kernel_rfl) rfl (by kernel_rfl) (by kernel_rfl) rfl rfl rfl ?_
                  refine WD.skip (i := 16) (d := 189) (by kernel_rfl) rfl (by kernel_rfl) (by kernel_rfl) rfl rfl rfl ?_
                  refine WD.skip (i := 17) (d := 190) (by kernel_rfl) rfl (by kernel_rfl) (by kernel_rfl) rfl rfl rfl ?_
                  refine WD.pure (i := 18) (d := 191) (by kernel_rfl) rfl (by kernel_rfl) (by kernel_rfl) rfl rfl rfl (fun _ => q_pickF rfl rfl) ?_
                  refine WD.restr ?_ K_25859
                  exact (.cons rfl (.cons rfl (.cons rfl (.cons rfl (.cons rfl (.cons rfl (.cons rfl (.cons rfl (.cons rfl (.cons rfl (.cons rfl (.cons rfl (.cons rfl (.cons rfl (.cons rfl (.cons rfl (.cons rfl (.cons rfl (.cons rfl (.cons rfl (.cons rfl (.cons rfl (.cons rfl (.cons rfl (.cons rfl (.cons rfl (.cons rfl (.cons rfl (.cons rfl (.cons rfl (.cons rfl (.cons rfl (.cons rfl (.cons rfl (.cons rfl (.cons rfl (.cons (some_bool (Eq.symm hg_25861)) (.cons (some_bool (and_l hg_25861)) .nil))))))))))))))))))))))))))))))))))))))
              refine WD.pure (i := 19) (d := 192) (by kernel_rfl) rfl (by kernel_rfl) (by kernel_rfl) rfl rfl rfl (fun _ => q_pickF rfl rfl) ?_
              refine WD.restr ?_ K_25856
              exact (.cons rfl (.cons rfl (.cons rfl (.cons rfl (.cons rfl (.cons rfl (.cons rfl (.cons rfl (.cons rfl (.cons rfl (.cons rfl (.cons rfl (.cons rfl (.cons rfl (.cons rfl (.cons rfl (.cons rfl (.cons rfl (.cons rfl (.cons rfl (.cons rfl (.cons rfl (.cons rfl (.cons rfl (.cons rfl (.cons rfl (.cons rfl (.cons rfl (.cons rfl (.cons rfl (.cons rfl (.cons (some_bool (Eq.symm hg_25858)) (.cons (some_bool (or_r hg_25858)) .nil)))))))))))))))))))))))))))))))))
          refine WD.pure (i := 20) (d := 193) (by kernel_rfl) rfl (by kernel_rfl) (by kernel_rfl) rfl rfl rfl (fun _ => q_move rfl) ?_
          refine WD.mid (fuel' := 1) [(9, (.int .i64 (Int.tmod (i64 n_23538) 8))), (11, (.pointer (some ⟨b_24935, 0, none⟩))), (15, (.func (.func 19) #[] #[(.pointer (some ⟨b_24935, 0, none⟩))])), (16, (.pointer (some ⟨b_25398, 0, none⟩))), (17, (.int .i64 x_25395.2)), (18, (.int .i64 (Int.tmod (i64 at_23539) 1300))), (19, (.bool some_25569)), (20, (.bool lo_25570)), (21, (.bool hi_25571)), (112, (.bool some_25569)), (113, (.bool (!some_25569))), (134, (.int .i64 x_25395.2)), (135, (.bool (decide (x_25395.2 ≠ 0)))), (136, (.bool (decide (x_25395.2 ≠ 0)))), (139, (.bool ((decide (x_25395.2 ≠ 0)) || (!lo_25570)))), (140, (.bool ((decide (x_25395.2 ≠ 0)) || (!lo_25570)))), (143, (.bool (((decide (x_25395.2 ≠ 0)) || (!lo_25570)) || (!hi_25571)))), (144, (.bool (((decide (x_25395.2 ≠ 0)) || (!lo_25570)) || (!hi_25571)))), (150, (.bool ((((decide (x_25395.2 ≠ 0)) || (!lo_25570)) || (!hi_25571)) || (decide (x_25395.1.fLo > x_25395.1.fHi))))), (151, (.bool ((((decide (x_25395.2 ≠ 0)) || (!lo_25570)) || (!hi_25571)) || (decide (x_25395.1.fLo > x_25395.1.fHi))))), (161, (.bool b_25821)), (162, (.bool b_25821)), (172, (.bool b_25825)), (173, (.func (.func 19) #[] #[(.pointer (some ⟨b_24935, 0, none⟩))])), (174, (.int .i64 (Int.tmod (i64 at_23539) 1300))), (175, (.int .i64 x_25847)), (176, (.slice ao_25573 c_25572.length cap_25574)), (177, (.int .i64 ((c_25572.length : Nat) : Int))), (178, (.int .i64 (Int.tmod (i64 n_23538) 8))), (179, (.int .i64 (i64 (((c_25572.length : Nat) : Int) - (Int.tmod (i64 n_23538) 8))))), (180, (.bool (decide (x_25847 < (i64 (((c_25572.length : Nat) : Int) - (Int.tmod (i64 n_23538) 8))))))), (181, (.bool (decide (x_25847 < (i64 (((c_25572.length : Nat) : Int) - (Int.tmod (i64 n_23538) 8))))))), (192, (.bool ((decide (x_25847 < (i64 (((c_25572.length : Nat) : Int) - (Int.tmod (i64 n_23538) 8))))) || ((decide (x_25395.1.fLo ≤ (Int.tmod (i64 at_23539) 1300))) && (decide ((Int.tmod (i64 at_23539) 1300) ≤ x_25395.1.fHi)))))), (193, (.bool ((decide (x_25847 < (i64 (((c_25572.length : Nat) : Int) - (Int.tmod (i64 n_23538) 8))))) || ((decide (x_25395.1.fLo ≤ (Int.tmod (i64 at_23539) 1300))) && (decide ((Int.tmod (i64 at_23539) 1300) ≤ x_25395.1.fHi)))))), (195, (.bool b_25851))] (listedA 24 [22, 21, 20, 19, 18, 17, 16, 15, 14, 13, 12, 11, 10, 9, 8, 7, 6, 5, 4, 3, 2, 1, 0]) ?_ (fun K_25862 => ?_)
          rotate_left
          · rcases Bool.eq_false_or_eq_true ((decide (x_25847 < (i64 (((c_25572.length : Nat) : Int) - (Int.tmod (i64 n_23538) 8))))) || ((decide (x_25395.1.fLo ≤ (Int.tmod (i64 at_23539) 1300))) && (decide ((Int.tmod (i64 at_23539) 1300) ≤ x_25395.1.fHi)))) with hb' | hb'
            · have hg_25863 := hb'; clear hb'
              have hq_25864 := ite_t hb_25852 hg_25863
              obtain ⟨x_25849, hx_25850, hq_25864⟩ := bind_elim hq_25864
              replace hq_25864 := Option.some.inj hq_25864
              refine WD.pin (i := 193) rfl hg_25863 ?_
              refine WD.enter (i := 21) (d := 194) (by kernel_rfl) rfl (by kernel_rfl) (by kernel_rfl) rfl rfl rfl (run_call (l := []) Try.call10 .nil) (fun w hw => by have pz := (hz.call hw (.nil : Sel [stb b_24935 23 [(.slice ao_25573 c_25572.length cap_25574)], row (.slice ao_25573 c_25572.length cap_25574) 35 2 (c_25572.flatMap e35), stb b_25398 35 [(.int .i64 x_25395.1.fLo), (.int .i64 x_25395.1.fHi)]] [] [stb b_24935 23 [(.slice ao_25573 c_25572.length cap_25574)], row (.slice ao_25573 c_25572.length cap_25574) 35 2 (c_25572.flatMap e35), stb b_25398 35 [(.int .i64 x_25395.1.fLo), (.int .i64 x_25395.1.fHi)]])); exact w_law33_awake (Z := _)   (r := x_25849) w pz  hx_25850) ?_
              refine WD.pure (i := 22) (d := 195) (by kernel_rfl) rfl (by kernel_rfl) (by kernel_rfl) rfl rfl rfl (fun _ => q_pickT rfl rfl) ?_
              refine WD.restr ?_ K_25862
              exact (.cons rfl (.cons rfl (.cons rfl (.cons rfl (.cons rfl (.cons rfl (.cons rfl (.cons rfl (.cons rfl (.cons rfl (.cons rfl (.cons rfl (.cons rfl (.cons rfl (.cons rfl (.cons rfl (.cons rfl (.cons rfl (.cons rfl (.cons rfl (.cons rfl (.cons rfl (.cons rfl (.cons rfl (.cons rfl (.cons rfl (.cons rfl (.cons rfl (.cons rfl (.cons rfl (.cons rfl (.cons rfl (.cons rfl (.cons (some_bool (Eq.symm hg_25863)) (.cons (some_bool hq_25864) .nil)))))))))))))))))))))))))))))))))))
            · have hg_25865 := hb'; clear hb'
              have hq_25866 := ite_f hb_25852 hg_25865
              replace hq_25866 := Option.some.inj hq_25866
              refine WD.pin (i := 193) rfl hg_25865 ?_
              refine WD.skip (i := 21) (d := 194) (by kernel_rfl) rfl (by kernel_rfl) (by kernel_rfl) rfl rfl rfl ?_
              refine WD.pure (i := 22) (d := 195) (by kernel_rfl) rfl (by kernel_rfl) (by kernel_rfl) rfl rfl rfl (fun _ => q_pickF rfl rfl) ?_
              refine WD.restr ?_ K_25862
              exact (.cons rfl (.cons rfl (.cons rfl (.cons rfl (.cons rfl (.cons rfl (.cons rfl (.cons rfl (.cons rfl (.cons rfl (.cons rfl (.cons rfl (.cons rfl (.cons rfl (.cons rfl (.cons rfl (.cons rfl (.cons rfl (.cons rfl (.cons rfl (.cons rfl (.cons rfl (.cons rfl (.cons rfl (.cons rfl (.cons rfl (.cons rfl (.cons rfl (.cons rfl (.cons rfl (.cons rfl (.cons rfl (.cons rfl (.cons (some_bool (Eq.symm hg_25865)) (.cons (some_bool hq_25866) .nil)))))))))))))))))))))))))))))))))))
          refine WD.pure (i := 23) (d := 8) (by kernel_rfl) rfl (by kernel_rfl) (by kernel_rfl) rfl rfl rfl (fun _ => q_assign rfl) ?_
          refine WD.done (by kernel_rfl) ?_
          refine WX.then ?_
          refine WC.ret ?_
          obtain rfl := Option.some.inj h
          refine WX.bpRet Try.results6 (.tmp rfl .nil) (fun w hw => ?_)
          exact ⟨ret1 rfl, hw.sub .nil⟩
end Go.Proofs.Ytkhiiafgikioiaa
