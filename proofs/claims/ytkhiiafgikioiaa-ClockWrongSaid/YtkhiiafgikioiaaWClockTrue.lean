/- A part of this claim's proof: models of the functions that the law reaches, with the proof that the functions compute them; plain laws about the models. No conditions beyond those in each theorem's statement. -/
import Derived.Test.YtkhiiafgikioiaaW33b
namespace Go.Proofs.Ytkhiiafgikioiaa
open Go Go.RowKit Sep
set_option linter.all false
def m_law33_ClockTrue_L2 (x_22874 : List Int) (faulty_21416 : Int) (n_21415 : Int) (lies_21417 : List Int) (k_23185 : (List Int) → Int → Int → Option Bool) : Nat → (List Int) → Int → Int → Int → Int → Option Bool
  | 0, _, _, _, _, _ => none
  | n_23389 + 1, t_23381, lo_23384, hi_23385, used_23386, v_23387 => if decide (v_23387 < ((x_22874.length : Nat) : Int)) then jp4 (fun (t_23452 : List Int) (lo_23455 : Int) (hi_23456 : Int) (used_23457 : Int) => m_law33_ClockTrue_L2 x_22874 faulty_21416 n_21415 lies_21417 k_23185 n_23389 t_23452 lo_23455 hi_23456 used_23457 (i64 (v_23387 + 1))) fun k_23458 => chk ((0 : Int) ≤ v_23387) (if (decide ((bits .and .u16 (faulty_21416 / 2 ^ min (v_23387 : Int).toNat 16) 1) = 1)) && (decide (used_23386 < (Int.tmod (i64 n_21415) 8))) then jp1 (fun (t_23477 : List Int) => k_23458 t_23477 lo_23384 hi_23385 (i64 (used_23386 + 1))) fun k_23480 => if decide (used_23386 < ((lies_21417.length : Nat) : Int)) then chk ((0 : Int) ≤ used_23386 ∧ used_23386 < ((lies_21417.length : Nat) : Int)) (chk ((0 : Int) ≤ v_23387 ∧ v_23387 < ((t_23381.length : Nat) : Int)) (k_23480 (t_23381.set (v_23387 : Int).toNat (i64 ((i64 (nth lies_21417 used_23386)) * 30000))))) else k_23480 t_23381 else chk ((0 : Int) ≤ v_23387 ∧ v_23387 < ((t_23381.length : Nat) : Int)) (k_23458 t_23381 (min lo_23384 (nth t_23381 v_23387)) (max hi_23385 (nth t_23381 v_23387)) used_23386)) else k_23185 t_23381 lo_23384 hi_23385
theorem m_law33_ClockTrue_L2_fuel {n : Nat} {x_22874 : List Int} {faulty_21416 : Int} {n_21415 : Int} {lies_21417 : List Int} {k_23185 : (List Int) → Int → Int → Option Bool} {t_23381 : List Int} {lo_23384 : Int} {hi_23385 : Int} {used_23386 : Int} {v_23387 : Int} {r : Bool} (h : m_law33_ClockTrue_L2 x_22874 faulty_21416 n_21415 lies_21417 k_23185 n t_23381 lo_23384 hi_23385 used_23386 v_23387 = some r) : ∃ m, n = m + 1 := by
  cases n with
  | zero => cases h
  | succ m => exact ⟨m, rfl⟩

/-- nacellelaw33.ClockTrue -/
def m_law33_ClockTrue (l_21411 : List Int) (n_21415 : Int) (faulty_21416 : Int) (lies_21417 : List Int) : Option Bool :=
  (m_law33_times l_21411 (Int.tmod (i64 n_21415) 8)).bind fun x_22874 => jp3 (fun (t_23180 : List Int) (lo_23183 : Int) (hi_23184 : Int) => (m_clock_Midpoint t_23180 (Int.tmod (i64 n_21415) 8)).bind fun x_23498 => (if ((decide (x_23498.2 = 0)) && (decide (lo_23183 ≤ x_23498.1))) && (decide (x_23498.1 ≤ hi_23184)) then (m_law33_awake).bind fun x_23500 => some x_23500 else some false).bind fun b_23502 => some b_23502) fun k_23185 => m_law33_ClockTrue_L2 x_22874 faulty_21416 n_21415 lies_21417 k_23185 FUEL x_22874 1073741824 (-1073741824) 0 0

set_option maxRecDepth 20000 in
theorem w_law33_ClockTrue (Z : Zp) (ao_21412 : Option Addr) (cap_21413 : Nat) (ao_21418 : Option Addr) (cap_21419 : Nat) (l_21411 : List Int) (n_21415 : Int) (faulty_21416 : Int) (lies_21417 : List Int) (r : Bool) (w₀ : World) (hz : PZ [] w₀ Z)
    (hs_21414 : ZS Z 1 (fun r x => r = e45 x) ao_21412 cap_21413 l_21411)
    (hs_21420 : ZS Z 1 (fun r x => r = e45 x) ao_21418 cap_21419 lies_21417)
    (h : m_law33_ClockTrue l_21411 n_21415 faulty_21416 lies_21417 = some r) :
    Calls Try.prog 4 #[(.slice ao_21412 l_21411.length cap_21413), (.int .u8 n_21415), (.int .u16 faulty_21416), (.slice ao_21418 lies_21417.length cap_21419)] w₀ fun e w' => e = .returned (.bool r) ∧ Hp [] w₀ w' [] := by
  unfold m_law33_ClockTrue at h
  refine Calls.ofWC (vs := [(.slice ao_21412 l_21411.length cap_21413), (.int .u8 n_21415), (.int .u16 faulty_21416), (.slice ao_21418 lies_21417.length cap_21419)]) (pre := []) (env := [(0, (.slice ao_21412 l_21411.length cap_21413)), (1, (.int .u8 n_21415)), (2, (.int .u16 faulty_21416)), (3, (.slice ao_21418 lies_21417.length cap_21419))]) Try.func4 rfl Try.ntmps4 rfl (Hp.nil w₀ _) rfl ?_
  refine WC.seq ?_
  refine WC.region ?_
  refine WL.quiet (d := 8) rfl rfl rfl (q_assign rfl) ?_
  refine WL.nil ?_
  refine WX.then ?_
  refine WC.seq ?_
  refine WC.region ?_
  refine WL.quiet (d := 17) rfl rfl rfl (q_move rfl) ?_
  refine WL.quiet (d := 18) rfl rfl rfl (q_conv Try.underlying5 Try.underlying3 rfl rfl) ?_
  refine WL.quiet (d := 19) rfl rfl rfl (q_rem rfl rfl (by decide) rfl) ?_
  refine WL.quiet (d := 9) rfl rfl rfl (q_assign rfl) ?_
  refine WL.nil ?_
  refine WX.then ?_
  refine WC.seq ?_
  obtain ⟨x_22874, hx_22875, h⟩ := bind_elim h
  refine WC.region ?_
  refine WL.quiet (d := 20) rfl rfl rfl (q_move rfl) ?_
  refine WL.quiet (d := 21) rfl rfl rfl (q_move rfl) ?_
  refine WL.enter2 (dd := 22) rfl rfl rfl (run_call (l := [.tmp 20, .tmp 21]) Try.call18 (.cons rfl (.cons rfl .nil))) (.nil : Sel [] [] []) (fun w hw => by have pz := (hz.call hw (.nil : Sel [] [] [])); exact w_law33_times (Z := _) (ao_21422 := ao_21412) (cap_21423 := cap_21413) (l_21421 := l_21411) (f_21425 := (Int.tmod (i64 n_21415) 8)) (r := x_22874) w pz hs_21414 hx_22875) ?_
  rintro ao_22879 cap_22880 _
  refine WL.quiet (d := 10) rfl rfl rfl (q_assign rfl) ?_
  refine WL.nil ?_
  refine WX.then ?_
  refine WC.seq ?_
  refine WC.region ?_
  refine WL.quiet (d := 11) rfl rfl rfl (q_assign rfl) ?_
  refine WL.quiet (d := 12) rfl rfl rfl (q_assign rfl) ?_
  refine WL.nil ?_
  refine WX.then ?_
  refine WC.seq ?_
  refine WC.region ?_
  refine WL.quiet (d := 13) rfl rfl rfl (q_assign rfl) ?_
  refine WL.nil ?_
  refine WX.then ?_
  obtain ⟨k_23185, hk_23186, h⟩ := jp3_elim h
  refine WC.seqMid5 (fun (t_23180 : List Int) (lo_23183 : Int) (hi_23184 : Int) (ao_23181 : Option Addr) (cap_23182 : Nat) => (k_23185 t_23180 lo_23183 hi_23184 = some r)) (fun (t_23180 : List Int) (lo_23183 : Int) (hi_23184 : Int) (ao_23181 : Option Addr) (cap_23182 : Nat) => [(9, (.int .i64 (Int.tmod (i64 n_21415) 8))), (10, (.slice ao_23181 t_23180.length cap_23182)), (11, (.int .i64 lo_23183)), (12, (.int .i64 hi_23184))]) (fun (t_23180 : List Int) (lo_23183 : Int) (hi_23184 : Int) (ao_23181 : Option Addr) (cap_23182 : Nat) => [row (.slice ao_23181 t_23180.length cap_23182) 3 1 (t_23180.flatMap e3)]) ?_ ?_
  · skip
    refine WC.seq ?_
    refine WC.region ?_
    refine WL.quiet (d := 23) rfl rfl rfl (q_move rfl) ?_
    refine WL.quiet (d := 24) rfl rfl rfl (q_len Try.underlying22 rfl) ?_
    refine WL.quiet (d := 25) rfl rfl rfl (q_move rfl) ?_
    refine WL.nil ?_
    refine WX.then ?_
    refine WC.block ?_
    refine WC.loop8 (fun (n_23388 : Nat) (t_23381 : List Int) (lo_23384 : Int) (hi_23385 : Int) (used_23386 : Int) (v_23387 : Int) (ao_23382 : Option Addr) (cap_23383 : Nat) => (m_law33_ClockTrue_L2 x_22874 faulty_21416 n_21415 lies_21417 k_23185 n_23388 t_23381 lo_23384 hi_23385 used_23386 v_23387 = some r)) (fun (n_23388 : Nat) (t_23381 : List Int) (lo_23384 : Int) (hi_23385 : Int) (used_23386 : Int) (v_23387 : Int) (ao_23382 : Option Addr) (cap_23383 : Nat) => [(2, (.int .u16 faulty_21416)), (3, (.slice ao_21418 lies_21417.length cap_21419)), (9, (.int .i64 (Int.tmod (i64 n_21415) 8))), (10, (.slice ao_23382 t_23381.length cap_23383)), (11, (.int .i64 lo_23384)), (12, (.int .i64 hi_23385)), (13, (.int .i64 used_23386)), (24, (.int .i64 ((x_22874.length : Nat) : Int))), (25, (.int .i64 v_23387))]) (fun (n_23388 : Nat) (t_23381 : List Int) (lo_23384 : Int) (hi_23385 : Int) (used_23386 : Int) (v_23387 : Int) (ao_23382 : Option Addr) (cap_23383 : Nat) => [row (.slice ao_23382 t_23381.length cap_23383) 3 1 (t_23381.flatMap e3)]) (fun (n_23388 : Nat) (t_23381 : List Int) (lo_23384 : Int) (hi_23385 : Int) (used_23386 : Int) (v_23387 : Int) (ao_23382 : Option Addr) (cap_23383 : Nat) => n_23388) ⟨FUEL, x_22874, 1073741824, (-1073741824), 0, 0, ao_22879, cap_22880⟩ h (.cons rfl (.cons rfl (.cons rfl (.cons rfl (.cons rfl (.cons rfl (.cons rfl (.cons rfl (.cons rfl .nil))))))))) (.cons .here .nil) ?_
    rintro n_23388 t_23381 lo_23384 hi_23385 used_23386 v_23387 ao_23382 cap_23383 h
    obtain ⟨n_23389, rfl⟩ := m_law33_ClockTrue_L2_fuel h
    rw [m_law33_ClockTrue_L2] at h
    refine WC.seq ?_
    refine WC.region ?_
    refine WL.quiet (d := 26) rfl rfl rfl (q_lss rfl rfl) ?_
    refine WL.nil ?_
    refine WX.then ?_
    refine WC.seq ?_
    refine WC.cond rfl (fun hb_23391 => ?_) (fun hb_23391 => ?_)
    · replace h := ite_t h hb_23391
      refine WC.skip ?_
      refine WX.then ?_
      obtain ⟨k_23458, hk_23459, h⟩ := jp4_elim h
      refine WC.seqMid6 (fun (t_23452 : List Int) (lo_23455 : Int) (hi_23456 : Int) (used_23457 : Int) (ao_23453 : Option Addr) (cap_23454 : Nat) => (k_23458 t_23452 lo_23455 hi_23456 used_23457 = some r)) (fun (t_23452 : List Int) (lo_23455 : Int) (hi_23456 : Int) (used_23457 : Int) (ao_23453 : Option Addr) (cap_23454 : Nat) => [(2, (.int .u16 faulty_21416)), (3, (.slice ao_21418 lies_21417.length cap_21419)), (9, (.int .i64 (Int.tmod (i64 n_21415) 8))), (10, (.slice ao_23453 t_23452.length cap_23454)), (11, (.int .i64 lo_23455)), (12, (.int .i64 hi_23456)), (13, (.int .i64 used_23457)), (24, (.int .i64 ((x_22874.length : Nat) : Int))), (25, (.int .i64 v_23387))]) (fun (t_23452 : List Int) (lo_23455 : Int) (hi_23456 : Int) (used_23457 : Int) (ao_23453 : Option Addr) (cap_23454 : Nat) => [row (.slice ao_23453 t_23452.length cap_23454) 3 1 (t_23452.flatMap e3)]) ?_ ?_
      · skip
        refine WC.block ?_
        refine WC.seq ?_
        refine WC.region ?_
        refine WL.quiet (d := 27) rfl rfl rfl (q_move rfl) ?_
        refine WL.quiet (d := 14) rfl rfl rfl (q_assign rfl) ?_
        refine WL.nil ?_
        refine WX.then ?_
        refine WC.seq ?_
        refine WC.seq ?_
        obtain ⟨c_23460, h⟩ := chk_elim h
        refine WC.region ?_
        refine WL.quiet (d := 28) rfl rfl rfl (q_move rfl) ?_
        refine WL.quiet (d := 29) rfl rfl rfl (q_move rfl) ?_
        refine WL.quiet (d := 30) rfl rfl rfl (q_shr rfl rfl c_23460 rfl) ?_
        refine WL.quiet (d := 31) rfl rfl rfl (q_and rfl rfl rfl) ?_
        refine WL.quiet (d := 32) rfl rfl rfl (q_eql rfl rfl) ?_
        refine WL.quiet (d := 33) rfl rfl rfl (q_move rfl) ?_
        refine WL.cut0 True [(2, (.int .u16 faulty_21416)), (3, (.slice ao_21418 lies_21417.length cap_21419)), (9, (.int .i64 (Int.tmod (i64 n_21415) 8))), (10, (.slice ao_23382 t_23381.length cap_23383)), (11, (.int .i64 lo_23384)), (12, (.int .i64 hi_23385)), (13, (.int .i64 used_23386)), (24, (.int .i64 ((x_22874.length : Nat) : Int))), (25, (.int .i64 v_23387)), (14, (.int .i64 v_23387)), (37, (.bool ((decide ((bits .and .u16 (faulty_21416 / 2 ^ min (v_23387 : Int).toNat 16) 1) = 1)) && (decide (used_23386 < (Int.tmod (i64 n_21415) 8))))))] [row (.slice ao_23382 t_23381.length cap_23383) 3 1 (t_23381.flatMap e3)] 4 ?_ (fun _ => ?_)
        · rcases Bool.eq_false_or_eq_true (decide ((bits .and .u16 (faulty_21416 / 2 ^ min (v_23387 : Int).toNat 16) 1) = 1)) with hb' | hb'
          · have hg_23461 := hb'; clear hb'
            refine WL.pin (i := 33) rfl hg_23461 ?_
            refine WL.quiet (d := 34) rfl rfl rfl (q_move rfl) ?_
            refine WL.quiet (d := 35) rfl rfl rfl (q_move rfl) ?_
            refine WL.quiet (d := 36) rfl rfl rfl (q_lss rfl rfl) ?_
            refine WL.quiet (d := 37) rfl rfl rfl (q_pickT rfl rfl) ?_
            exact WL.cutEnd () trivial (.cons rfl (.cons rfl (.cons rfl (.cons rfl (.cons rfl (.cons rfl (.cons rfl (.cons rfl (.cons rfl (.cons rfl (.cons (some_bool (and_r hg_23461)) .nil))))))))))) (.cons .here .nil)
          · have hg_23462 := hb'; clear hb'
            refine WL.pin (i := 33) rfl hg_23462 ?_
            refine WL.skip rfl rfl rfl ?_
            refine WL.skip rfl rfl rfl ?_
            refine WL.skip rfl rfl rfl ?_
            refine WL.quiet (d := 37) rfl rfl rfl (q_pickF rfl rfl) ?_
            exact WL.cutEnd () trivial (.cons rfl (.cons rfl (.cons rfl (.cons rfl (.cons rfl (.cons rfl (.cons rfl (.cons rfl (.cons rfl (.cons rfl (.cons (some_bool (and_l hg_23462)) .nil))))))))))) (.cons .here .nil)
        · skip
          refine WL.nil ?_
          refine WX.then ?_
          refine WC.cond rfl (fun hb_23463 => ?_) (fun hb_23463 => ?_)
          · replace h := ite_t h hb_23463
            obtain ⟨k_23480, hk_23481, h⟩ := jp1_elim h
            refine WC.seqMid3 (fun (t_23477 : List Int) (ao_23478 : Option Addr) (cap_23479 : Nat) => (k_23480 t_23477 = some r)) (fun (t_23477 : List Int) (ao_23478 : Option Addr) (cap_23479 : Nat) => [(2, (.int .u16 faulty_21416)), (3, (.slice ao_21418 lies_21417.length cap_21419)), (9, (.int .i64 (Int.tmod (i64 n_21415) 8))), (10, (.slice ao_23478 t_23477.length cap_23479)), (11, (.int .i64 lo_23384)), (12, (.int .i64 hi_23385)), (13, (.int .i64 used_23386)), (24, (.int .i64 ((x_22874.length : Nat) : Int))), (25, (.int .i64 v_23387))]) (fun (t_23477 : List Int) (ao_23478 : Option Addr) (cap_23479 : Nat) => [row (.slice ao_23478 t_23477.length cap_23479) 3 1 (t_23477.flatMap e3)]) ?_ ?_
            · skip
              refine WC.seq ?_
              refine WC.region ?_
              refine WL.quiet (d := 38) rfl rfl rfl (q_move rfl) ?_
              refine WL.quiet (d := 39) rfl rfl rfl (q_move rfl) ?_
              refine WL.quiet (d := 40) rfl rfl rfl (q_len Try.underlying42 rfl) ?_
              refine WL.quiet (d := 41) rfl rfl rfl (q_lss rfl rfl) ?_
              refine WL.nil ?_
              refine WX.then ?_
              refine WC.cond rfl (fun hb_23482 => ?_) (fun hb_23482 => ?_)
              · replace h := ite_t h hb_23482
                obtain ⟨c_23483, h⟩ := chk_elim h
                obtain ⟨c_23488, h⟩ := chk_elim h
                refine WC.region ?_
                refine WL.quiet (d := 42) rfl rfl rfl (q_move rfl) ?_
                refine WL.quiet (d := 43) rfl rfl rfl (q_move rfl) ?_
                refine WL.quiet (d := 44) rfl rfl rfl (q_move rfl) ?_
                refine WL.quiet (d := 45) rfl rfl rfl (q_move rfl) ?_
                refine WL.znth (dd := 46) rfl rfl elT_42 rfl rfl hs_21420 c_23483 ?_
                rintro A_23490 r_23491 hA_23492 hl_23493 rfl
                refine WL.quiet (d := 47) rfl rfl rfl (q_load1 oneT_45 rfl (rd_z hz.pv hA_23492 rfl)) ?_
                refine WL.quiet (d := 48) rfl rfl rfl (q_conv Try.underlying45 Try.underlying3 rfl rfl) ?_
                refine WL.quiet (d := 49) rfl rfl rfl (q_mul rfl rfl rfl) ?_
                refine WL.know (fun w hw => Hp.expose .here hw (by intro hz'; have := c_23488; rw [hz'] at this; omega)) ?_
                rintro ⟨b_23494, rfl⟩
                refine WL.quiet (d := 50) rfl rfl rfl (q_indexAddr elT_22 rfl rfl c_23488.1 c_23488.2 rowAdd) ?_
                refine WL.eff0 rfl rfl (e_rowStore (vs := [(.int .i64 (i64 ((i64 (nth lies_21417 used_23386)) * 30000)))]) (ds := (t_23381.set (v_23387 : Int).toNat (i64 ((i64 (nth lies_21417 used_23386)) * 30000))).flatMap e3) sizT_3 rfl rfl rfl rfl (oc_cons rfl oc_nil) .here (flat_fit (enc := e3) (sz := 1) (k := 0) (fun _ => rfl) c_23488.1 c_23488.2 (by decide)) (flat_put (enc := e3) (l := t_23381) (sz := 1) (vs := [(.int .i64 (i64 ((i64 (nth lies_21417 used_23386)) * 30000)))]) (y := i64 ((i64 (nth lies_21417 used_23386)) * 30000)) (k := 0) (fun _ => rfl) c_23488.1 c_23488.2 rfl (Nat.le_of_ble_eq_true rfl))) ?_
                refine WL.relen .here (u := (.slice (some ⟨b_23494, 0, none⟩) ((t_23381.set (v_23387 : Int).toNat (i64 ((i64 (nth lies_21417 used_23386)) * 30000))).length) cap_23383)) (slen (List.length_set).symm) ?_
                refine WL.repin (i := 10) rfl (u := (.slice (some ⟨b_23494, 0, none⟩) ((t_23381.set (v_23387 : Int).toNat (i64 ((i64 (nth lies_21417 used_23386)) * 30000))).length) cap_23383)) (slen (List.length_set).symm) ?_
                refine WL.nil ?_
                exact WX.mid (G := List Int × Option Addr × Nat) ⟨(t_23381.set (v_23387 : Int).toNat (i64 ((i64 (nth lies_21417 used_23386)) * 30000))), (some ⟨b_23494, 0, none⟩), cap_23383⟩ h (.cons rfl (.cons rfl (.cons rfl (.cons rfl (.cons rfl (.cons rfl (.cons rfl (.cons rfl (.cons rfl .nil))))))))) (.cons .here .nil)
              · replace h := ite_f h hb_23482
                refine WC.skip ?_
                exact WX.mid (G := List Int × Option Addr × Nat) ⟨t_23381, ao_23382, cap_23383⟩ h (.cons rfl (.cons rfl (.cons rfl (.cons rfl (.cons rfl (.cons rfl (.cons rfl (.cons rfl (.cons rfl .nil))))))))) (.cons .here .nil)
            · rintro t_23477 ao_23478 cap_23479 h
              replace h := (hk_23481 t_23477).symm.trans h
              refine WC.seq ?_
              refine WC.region ?_
              refine WL.quiet (d := 51) rfl rfl rfl (q_move rfl) ?_
              refine WL.quiet (d := 52) rfl rfl rfl (q_add rfl rfl rfl) ?_
              refine WL.quiet (d := 13) rfl rfl rfl (q_assign rfl) ?_
              refine WL.nil ?_
              refine WX.then ?_
              refine WC.exit ?_
              refine WX.thenExit ?_
              refine WX.blockHit ?_
              exact WX.mid (G := List Int × Int × Int × Int × Option Addr × Nat) ⟨t_23477, lo_23384, hi_23385, (i64 (used_23386 + 1)), ao_23478, cap_23479⟩ h (.cons rfl (.cons rfl (.cons rfl (.cons rfl (.cons rfl (.cons rfl (.cons rfl (.cons rfl (.cons rfl .nil))))))))) (.cons .here .nil)
          · replace h := ite_f h hb_23463
            refine WC.skip ?_
            refine WX.then ?_
            obtain ⟨c_23495, h⟩ := chk_elim h
            refine WC.draw (fun i => [].contains i) [] rfl ?_
            refine WD.pure (i := 0) (d := 53) (by kernel_rfl) rfl (by kernel_rfl) (by kernel_rfl) rfl rfl rfl (fun _ => q_move rfl) ?_
            refine WD.pure (i := 1) (d := 54) (by kernel_rfl) rfl (by kernel_rfl) (by kernel_rfl) rfl rfl rfl (fun _ => q_move rfl) ?_
            refine WD.pure (i := 2) (d := 55) (by kernel_rfl) rfl (by kernel_rfl) (by kernel_rfl) rfl rfl rfl (fun _ => q_move rfl) ?_
            refine WD.know (fun w hw => Hp.expose .here hw (by intro hz'; have := c_23495; rw [hz'] at this; omega)) ?_
            rintro ⟨b_23497, rfl⟩
            refine WD.pure (i := 3) (d := 56) (by kernel_rfl) rfl (by kernel_rfl) (by kernel_rfl) rfl rfl rfl (fun _ => q_indexAddr elT_22 rfl rfl c_23495.1 c_23495.2 rowAdd) ?_
            refine WD.quiet (i := 4) (d := 57) (by kernel_rfl) rfl (by kernel_rfl) (by kernel_rfl) rfl rfl rfl (q_load1 oneT_3 rfl (rd_row .here ((flat_rd (enc := e3) (l := t_23381) (i := v_23387) (sz := 1) (fun _ => rfl) c_23495.1 c_23495.2) 0 _ rfl))) ?_
            refine WD.pure (i := 5) (d := 58) (by kernel_rfl) rfl (by kernel_rfl) (by kernel_rfl) rfl rfl rfl (fun _ => q_min rfl rfl rfl) ?_
            refine WD.pure (i := 6) (d := 59) (by kernel_rfl) rfl (by kernel_rfl) (by kernel_rfl) rfl rfl rfl (fun _ => q_move rfl) ?_
            refine WD.pure (i := 7) (d := 60) (by kernel_rfl) rfl (by kernel_rfl) (by kernel_rfl) rfl rfl rfl (fun _ => q_move rfl) ?_
            refine WD.pure (i := 8) (d := 61) (by kernel_rfl) rfl (by kernel_rfl) (by kernel_rfl) rfl rfl rfl (fun _ => q_move rfl) ?_
            refine WD.pure (i := 9) (d := 62) (by kernel_rfl) rfl (by kernel_rfl) (by kernel_rfl) rfl rfl rfl (fun _ => q_indexAddr elT_22 rfl rfl c_23495.1 c_23495.2 rowAdd) ?_
            refine WD.quiet (i := 10) (d := 63) (by kernel_rfl) rfl (by kernel_rfl) (by kernel_rfl) rfl rfl rfl (q_load1 oneT_3 rfl (rd_row .here ((flat_rd (enc := e3) (l := t_23381) (i := v_23387) (sz := 1) (fun _ => rfl) c_23495.1 c_23495.2) 0 _ rfl))) ?_
            refine WD.pure (i := 11) (d := 64) (by kernel_rfl) rfl (by kernel_rfl) (by kernel_rfl) rfl rfl rfl (fun _ => q_max rfl rfl rfl) ?_
            refine WD.pure (i := 12) (d := 11) (by kernel_rfl) rfl (by kernel_rfl) (by kernel_rfl) rfl rfl rfl (fun _ => q_assign rfl) ?_
            refine WD.pure (i := 13) (d := 12) (by kernel_rfl) rfl (by kernel_rfl) (by kernel_rfl) rfl rfl rfl (fun _ => q_assign rfl) ?_
            refine WD.done (by kernel_rfl) ?_
            refine WX.blockNormal ?_
            exact WX.mid (G := List Int × Int × Int × Int × Option Addr × Nat) ⟨t_23381, (min lo_23384 (nth t_23381 v_23387)), (max hi_23385 (nth t_23381 v_23387)), used_23386, (some ⟨b_23497, 0, none⟩), cap_23383⟩ h (.cons rfl (.cons rfl (.cons rfl (.cons rfl (.cons rfl (.cons rfl (.cons rfl (.cons rfl (.cons rfl .nil))))))))) (.cons .here .nil)
      · rintro t_23452 lo_23455 hi_23456 used_23457 ao_23453 cap_23454 h
        replace h := (hk_23459 t_23452 lo_23455 hi_23456 used_23457).symm.trans h
        refine WC.region ?_
        refine WL.quiet (d := 65) rfl rfl rfl (q_add rfl rfl rfl) ?_
        refine WL.quiet (d := 25) rfl rfl rfl (q_move rfl) ?_
        refine WL.nil ?_
        exact WX.round (G := Nat × List Int × Int × Int × Int × Int × Option Addr × Nat) ⟨n_23389, t_23452, lo_23455, hi_23456, used_23457, (i64 (v_23387 + 1)), ao_23453, cap_23454⟩ h (Nat.lt_succ_self _) (.cons rfl (.cons rfl (.cons rfl (.cons rfl (.cons rfl (.cons rfl (.cons rfl (.cons rfl (.cons rfl .nil))))))))) (.cons .here .nil)
    · replace h := ite_f h hb_23391
      refine WC.exit ?_
      refine WX.thenExit ?_
      refine WX.thenExit ?_
      refine WX.blockHit ?_
      exact WX.mid (G := List Int × Int × Int × Option Addr × Nat) ⟨t_23381, lo_23384, hi_23385, ao_23382, cap_23383⟩ h (.cons rfl (.cons rfl (.cons rfl (.cons rfl .nil)))) (.cons .here .nil)
  · rintro t_23180 lo_23183 hi_23184 ao_23181 cap_23182 h
    replace h := (hk_23186 t_23180 lo_23183 hi_23184).symm.trans h
    refine WC.seq ?_
    obtain ⟨x_23498, hx_23499, h⟩ := bind_elim h
    refine WC.region ?_
    refine WL.quiet (d := 67) rfl rfl rfl (q_move rfl) ?_
    refine WL.quiet (d := 68) rfl rfl rfl (q_move rfl) ?_
    refine WL.callD (dd := 69) rfl rfl rfl (run_call (l := [.tmp 67, .tmp 68]) Try.call11 (.cons rfl (.cons rfl .nil))) (.nil : Sel [row (.slice ao_23181 t_23180.length cap_23182) 3 1 (t_23180.flatMap e3)] [] [row (.slice ao_23181 t_23180.length cap_23182) 3 1 (t_23180.flatMap e3)]) (fun w hw => by have pz := (hz.call hw (.nil : Sel [row (.slice ao_23181 t_23180.length cap_23182) 3 1 (t_23180.flatMap e3)] [] [row (.slice ao_23181 t_23180.length cap_23182) 3 1 (t_23180.flatMap e3)])).lend hw (.nil : Sel [row (.slice ao_23181 t_23180.length cap_23182) 3 1 (t_23180.flatMap e3)] [] [row (.slice ao_23181 t_23180.length cap_23182) 3 1 (t_23180.flatMap e3)]) (B := [row (.slice ao_23181 t_23180.length cap_23182) 3 1 (t_23180.flatMap e3)]) (fun _ hx' => ((.cons .here .nil) : Sel _ [row (.slice ao_23181 t_23180.length cap_23182) 3 1 (t_23180.flatMap e3)] _).mem hx'); exact w_clock_Midpoint (Z := _) (ao_17 := ao_23181) (cap_18 := cap_23182) (l_16 := t_23180) (f_20 := (Int.tmod (i64 n_21415) 8)) (r := x_23498) w pz (ZA.row (hw.lent (.nil : Sel [row (.slice ao_23181 t_23180.length cap_23182) 3 1 (t_23180.flatMap e3)] [] [row (.slice ao_23181 t_23180.length cap_23182) 3 1 (t_23180.flatMap e3)]) (B := [row (.slice ao_23181 t_23180.length cap_23182) 3 1 (t_23180.flatMap e3)]) (fun _ hx' => ((.cons .here .nil) : Sel _ [row (.slice ao_23181 t_23180.length cap_23182) 3 1 (t_23180.flatMap e3)] _).mem hx') (.head _) _) (RR.flat (enc := e3) (fun _ => rfl) _) ⟨w, pz.1⟩) hx_23499) ?_
    refine WL.quiet (d := 66) rfl rfl rfl (q_move rfl) ?_
    refine WL.quiet (d := 70) rfl rfl rfl (q_extract rfl rfl) ?_
    refine WL.quiet (d := 71) rfl rfl rfl (q_extract rfl rfl) ?_
    refine WL.quiet (d := 15) rfl rfl rfl (q_assign rfl) ?_
    refine WL.quiet (d := 16) rfl rfl rfl (q_assign rfl) ?_
    refine WL.nil ?_
    refine WX.then ?_
    refine WC.seq ?_
    obtain ⟨b_23502, hb_23503, h⟩ := bind_elim h
    refine WC.region ?_
    refine WL.quiet (d := 72) rfl rfl rfl (q_move rfl) ?_
    refine WL.quiet (d := 73) rfl rfl rfl (q_eql rfl rfl) ?_
    refine WL.quiet (d := 74) rfl rfl rfl (q_move rfl) ?_
    refine WL.cut0 True [(12, (.int .i64 hi_23184)), (15, (.int .i64 x_23498.1)), (78, (.bool ((decide (x_23498.2 = 0)) && (decide (lo_23183 ≤ x_23498.1)))))] [row (.slice ao_23181 t_23180.length cap_23182) 3 1 (t_23180.flatMap e3)] 4 ?_ (fun _ => ?_)
    · rcases Bool.eq_false_or_eq_true (decide (x_23498.2 = 0)) with hb' | hb'
      · have hg_23504 := hb'; clear hb'
        refine WL.pin (i := 74) rfl hg_23504 ?_
        refine WL.quiet (d := 75) rfl rfl rfl (q_move rfl) ?_
        refine WL.quiet (d := 76) rfl rfl rfl (q_move rfl) ?_
        refine WL.quiet (d := 77) rfl rfl rfl (q_leq rfl rfl) ?_
        refine WL.quiet (d := 78) rfl rfl rfl (q_pickT rfl rfl) ?_
        exact WL.cutEnd () trivial (.cons rfl (.cons rfl (.cons (some_bool (and_r hg_23504)) .nil))) (.cons .here .nil)
      · have hg_23505 := hb'; clear hb'
        refine WL.pin (i := 74) rfl hg_23505 ?_
        refine WL.skip rfl rfl rfl ?_
        refine WL.skip rfl rfl rfl ?_
        refine WL.skip rfl rfl rfl ?_
        refine WL.quiet (d := 78) rfl rfl rfl (q_pickF rfl rfl) ?_
        exact WL.cutEnd () trivial (.cons rfl (.cons rfl (.cons (some_bool (and_l hg_23505)) .nil))) (.cons .here .nil)
    · skip
      refine WL.quiet (d := 79) rfl rfl rfl (q_move rfl) ?_
      refine WL.cut0 True [(83, (.bool (((decide (x_23498.2 = 0)) && (decide (lo_23183 ≤ x_23498.1))) && (decide (x_23498.1 ≤ hi_23184)))))] [row (.slice ao_23181 t_23180.length cap_23182) 3 1 (t_23180.flatMap e3)] 4 ?_ (fun _ => ?_)
      · rcases Bool.eq_false_or_eq_true ((decide (x_23498.2 = 0)) && (decide (lo_23183 ≤ x_23498.1))) with hb' | hb'
        · have hg_23506 := hb'; clear hb'
          refine WL.pin (i := 79) rfl hg_23506 ?_
          refine WL.quiet (d := 80) rfl rfl rfl (q_move rfl) ?_
          refine WL.quiet (d := 81) rfl rfl rfl (q_move rfl) ?_
          refine WL.quiet (d := 82) rfl rfl rfl (q_leq rfl rfl) ?_
          refine WL.quiet (d := 83) rfl rfl rfl (q_pickT rfl rfl) ?_
          exact WL.cutEnd () trivial (.cons (some_bool (and_r hg_23506)) .nil) (.cons .here .nil)
        · have hg_23507 := hb'; clear hb'
          refine WL.pin (i := 79) rfl hg_23507 ?_
          refine WL.skip rfl rfl rfl ?_
          refine WL.skip rfl rfl rfl ?_
          refine WL.skip rfl rfl rfl ?_
          refine WL.quiet (d := 83) rfl rfl rfl (q_pickF rfl rfl) ?_
          exact WL.cutEnd () trivial (.cons (some_bool (and_l hg_23507)) .nil) (.cons .here .nil)
      · skip
        refine WL.quiet (d := 84) rfl rfl rfl (q_move rfl) ?_
        refine WL.cut0 True [(86, (.bool b_23502))] [row (.slice ao_23181 t_23180.length cap_23182) 3 1 (t_23180.flatMap e3)] 2 ?_ (fun _ => ?_)
        · rcases Bool.eq_false_or_eq_true (((decide (x_23498.2 = 0)) && (decide (lo_23183 ≤ x_23498.1))) && (decide (x_23498.1 ≤ hi_23184))) with hb' | hb'
          · have hg_23508 := hb'; clear hb'
            have hq_23509 := ite_t hb_23503 hg_23508
            obtain ⟨x_23500, hx_23501, hq_23509⟩ := bind_elim hq_23509
            replace hq_23509 := Option.some.inj hq_23509
            refine WL.pin (i := 84) rfl hg_23508 ?_
            refine WL.callD (dd := 85) rfl rfl rfl (run_call (l := []) Try.call10 .nil) (.nil : Sel [row (.slice ao_23181 t_23180.length cap_23182) 3 1 (t_23180.flatMap e3)] [] [row (.slice ao_23181 t_23180.length cap_23182) 3 1 (t_23180.flatMap e3)]) (fun w hw => by have pz := (hz.call hw (.nil : Sel [row (.slice ao_23181 t_23180.length cap_23182) 3 1 (t_23180.flatMap e3)] [] [row (.slice ao_23181 t_23180.length cap_23182) 3 1 (t_23180.flatMap e3)])); exact w_law33_awake (Z := _)   (r := x_23500) w pz  hx_23501) ?_
            refine WL.quiet (d := 86) rfl rfl rfl (q_pickT rfl rfl) ?_
            exact WL.cutEnd () trivial (.cons (some_bool hq_23509) .nil) (.cons .here .nil)
          · have hg_23510 := hb'; clear hb'
            have hq_23511 := ite_f hb_23503 hg_23510
            replace hq_23511 := Option.some.inj hq_23511
            refine WL.pin (i := 84) rfl hg_23510 ?_
            refine WL.skip rfl rfl rfl ?_
            refine WL.quiet (d := 86) rfl rfl rfl (q_pickF rfl rfl) ?_
            exact WL.cutEnd () trivial (.cons (some_bool hq_23511) .nil) (.cons .here .nil)
        · skip
          refine WL.quiet (d := 8) rfl rfl rfl (q_assign rfl) ?_
          refine WL.nil ?_
          refine WX.then ?_
          refine WC.ret ?_
          obtain rfl := Option.some.inj h
          refine WX.bpRet Try.results4 (.tmp rfl .nil) (fun w hw => ?_)
          exact ⟨ret1 rfl, hw.sub .nil⟩
end Go.Proofs.Ytkhiiafgikioiaa
