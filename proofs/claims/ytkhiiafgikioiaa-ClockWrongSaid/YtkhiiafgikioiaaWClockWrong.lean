/- A part of this claim's proof: models of the functions that the law reaches, with the proof that the functions compute them; plain laws about the models. No conditions beyond those in each theorem's statement. -/
import Derived.Test.YtkhiiafgikioiaaW33b
namespace Go.Proofs.Ytkhiiafgikioiaa
open Go Go.RowKit Sep
set_option linter.all false
def m_law33_ClockWrong_L2 (n_28044 : Int) (x_28633 : List Int) (x_28045 : Int) (k_28923 : (List Int) → Option Bool) : Nat → (List S52) → Int → Option Bool
  | 0, _, _ => none
  | n_29110 + 1, v_29105, v_29108 => if decide (v_29108 < (([(⟨[], 0⟩ : S52), (⟨List.replicate (17 : Int).toNat (0 : Int), Int.tmod (i64 n_28044) 8⟩ : S52), (⟨x_28633, (-1)⟩ : S52), (⟨x_28633, i64 (Int.tdiv (i64 (((x_28633.length : Nat) : Int) + 1)) 2)⟩ : S52), (⟨(([] : List Int) ++ x_28633).set (0 : Int).toNat (max x_28045 1073741825), Int.tmod (i64 n_28044) 8⟩ : S52), (⟨(([] : List Int) ++ x_28633).set ((i64 (((x_28633.length : Nat) : Int) - 1)) : Int).toNat (min x_28045 (-1073741825)), Int.tmod (i64 n_28044) 8⟩ : S52)].length : Nat) : Int)) then chk ((0 : Int) ≤ v_29108 ∧ v_29108 < ((v_29105.length : Nat) : Int)) ((m_clock_Midpoint ((nth v_29105 v_29108).fL) ((nth v_29105 v_29108).fF)).bind fun x_29164 => (m_clock_Suspects ((nth v_29105 v_29108).fL) ((nth v_29105 v_29108).fF) 5).bind fun x_29166 => if (((decide (x_29164.1 ≠ 0)) || (decide (x_29164.2 ≠ 2))) || (decide (((x_29166.1.length : Nat) : Int) ≠ 0))) || (decide (x_29166.2 ≠ 2)) then some false else m_law33_ClockWrong_L2 n_28044 x_28633 x_28045 k_28923 n_29110 v_29105 (i64 (v_29108 + 1))) else k_28923 x_28633
theorem m_law33_ClockWrong_L2_fuel {n : Nat} {n_28044 : Int} {x_28633 : List Int} {x_28045 : Int} {k_28923 : (List Int) → Option Bool} {v_29105 : List S52} {v_29108 : Int} {r : Bool} (h : m_law33_ClockWrong_L2 n_28044 x_28633 x_28045 k_28923 n v_29105 v_29108 = some r) : ∃ m, n = m + 1 := by
  cases n with
  | zero => cases h
  | succ m => exact ⟨m, rfl⟩

/-- nacellelaw33.ClockWrong -/
def m_law33_ClockWrong (l_28040 : List Int) (n_28044 : Int) (x_28045 : Int) : Option Bool :=
  (m_law33_times l_28040 (Int.tmod (i64 n_28044) 8)).bind fun x_28633 => chk ((((([] : List Int) ++ x_28633).length : Nat) : Int) * 8 ≤ 140737488355328 ∧ (((([] : List Int) ++ x_28633).length : Nat) : Int) ≤ 4611686018427387904) (chk ((0 : Int) ≤ 0 ∧ 0 < (((([] : List Int) ++ x_28633).length : Nat) : Int)) (chk ((((([] : List Int) ++ x_28633).length : Nat) : Int) * 8 ≤ 140737488355328 ∧ (((([] : List Int) ++ x_28633).length : Nat) : Int) ≤ 4611686018427387904) (chk ((0 : Int) ≤ (i64 (((x_28633.length : Nat) : Int) - 1)) ∧ (i64 (((x_28633.length : Nat) : Int) - 1)) < (((([] : List Int) ++ x_28633).length : Nat) : Int)) (jp1 (fun (t_28919 : List Int) => (m_clock_Suspects t_28919 (Int.tmod (i64 n_28044) 8) (-1)).bind fun x_29181 => (m_clock_Meet [(⟨1, 0⟩ : Sapi_Span)] 0).bind fun x_29190 => (m_clock_Meet [(⟨0, max x_28045 1073741825⟩ : Sapi_Span)] 0).bind fun x_29196 => (m_clock_Meet [] 0).bind fun x_29201 => (if (((decide (x_29181.2 = 2)) && (decide (x_29190.2 = 2))) && (decide (x_29196.2 = 2))) && (decide (x_29201.2 = 2)) then (m_law33_awake).bind fun x_29205 => some x_29205 else some false).bind fun b_29207 => some b_29207) fun k_28923 => chk ((0 : Int) ≤ 17 ∧ (17 : Int) ≤ 17 ∧ (17 : Int) * 8 ≤ 140737488355328 ∧ (17 : Int) ≤ 4611686018427387904) (m_law33_ClockWrong_L2 n_28044 x_28633 x_28045 k_28923 FUEL [(⟨[], 0⟩ : S52), (⟨List.replicate (17 : Int).toNat (0 : Int), Int.tmod (i64 n_28044) 8⟩ : S52), (⟨x_28633, (-1)⟩ : S52), (⟨x_28633, i64 (Int.tdiv (i64 (((x_28633.length : Nat) : Int) + 1)) 2)⟩ : S52), (⟨(([] : List Int) ++ x_28633).set (0 : Int).toNat (max x_28045 1073741825), Int.tmod (i64 n_28044) 8⟩ : S52), (⟨(([] : List Int) ++ x_28633).set ((i64 (((x_28633.length : Nat) : Int) - 1)) : Int).toNat (min x_28045 (-1073741825)), Int.tmod (i64 n_28044) 8⟩ : S52)] 0)))))

set_option maxRecDepth 20000 in
theorem w_law33_ClockWrong (Z : Zp) (ao_28041 : Option Addr) (cap_28042 : Nat) (l_28040 : List Int) (n_28044 : Int) (x_28045 : Int) (r : Bool) (w₀ : World) (hz : PZ [] w₀ Z)
    (hs_28043 : ZS Z 1 (fun r x => r = e45 x) ao_28041 cap_28042 l_28040)
    (h : m_law33_ClockWrong l_28040 n_28044 x_28045 = some r) :
    Calls Try.prog 9 #[(.slice ao_28041 l_28040.length cap_28042), (.int .u8 n_28044), (.int .i64 x_28045)] w₀ fun e w' => ∃ Zn : Zp, e = .returned (.bool r) ∧ True ∧ Hp [] w₀ w' [fz Zn] := by
  unfold m_law33_ClockWrong at h
  refine Calls.ofWC (vs := [(.slice ao_28041 l_28040.length cap_28042), (.int .u8 n_28044), (.int .i64 x_28045)]) (pre := []) (env := [(0, (.slice ao_28041 l_28040.length cap_28042)), (1, (.int .u8 n_28044)), (2, (.int .i64 x_28045))]) Try.func9 rfl Try.ntmps9 rfl (Hp.nil w₀ _) rfl ?_
  refine WC.pool ?_
  refine WC.seq ?_
  refine WC.region ?_
  refine WL.quiet (d := 6) rfl rfl rfl (q_assign rfl) ?_
  refine WL.nil ?_
  refine WX.then ?_
  refine WC.seq ?_
  refine WC.region ?_
  refine WL.quiet (d := 25) rfl rfl rfl (q_move rfl) ?_
  refine WL.quiet (d := 26) rfl rfl rfl (q_conv Try.underlying5 Try.underlying3 rfl rfl) ?_
  refine WL.quiet (d := 27) rfl rfl rfl (q_rem rfl rfl (by decide) rfl) ?_
  refine WL.quiet (d := 7) rfl rfl rfl (q_assign rfl) ?_
  refine WL.nil ?_
  refine WX.then ?_
  refine WC.seq ?_
  obtain ⟨x_28633, hx_28634, h⟩ := bind_elim h
  refine WC.region ?_
  refine WL.quiet (d := 28) rfl rfl rfl (q_move rfl) ?_
  refine WL.quiet (d := 29) rfl rfl rfl (q_move rfl) ?_
  refine WL.enter2 (dd := 30) rfl rfl rfl (run_call (l := [.tmp 28, .tmp 29]) Try.call18 (.cons rfl (.cons rfl .nil))) (.nil : Sel [fz []] [] [fz []]) (fun w hw => by have pz := (hz.call2 hw (.nil : Sel [fz []] [] [fz []]) .here); exact w_law33_times (Z := _) (ao_21422 := ao_28041) (cap_21423 := cap_28042) (l_21421 := l_28040) (f_21425 := (Int.tmod (i64 n_28044) 8)) (r := x_28633) w pz (hs_28043.mono (Zle.left _ _)) hx_28634) ?_
  rintro ao_28638 cap_28639 _
  refine WL.quiet (d := 8) rfl rfl rfl (q_assign rfl) ?_
  refine WL.nil ?_
  refine WX.then ?_
  refine WC.seq ?_
  obtain ⟨c_28642, h⟩ := chk_elim h
  refine WC.region ?_
  refine WL.new (dd := 31) rfl rfl rfl (e_buildSlice (cs := ([] : List Int).flatMap e3) elT_22 (Eos.parts (l := []) .nil []) (fun _ => by kernel_rfl) rfl (by unfold maxLen; omega)) ?_
  intro b_28645 _
  refine WL.quiet (d := 32) rfl rfl rfl (q_move rfl) ?_
  refine WL.eff (d := 33) rfl rfl rfl (e_appendF (enc := e3) (l1 := ([] : List Int)) (l2 := x_28633) elT_22 rfl rfl .here (fun _ => rfl) rfl rfl (news_row (.there .here)) (oc_flat e3_oc _) c_28642) ?_
  rintro ⟨ao_28646, cap_28647⟩ _
  refine WL.quiet (d := 9) rfl rfl rfl (q_assign rfl) ?_
  refine WL.nil ?_
  refine WX.then ?_
  refine WC.seq ?_
  obtain ⟨c_28648, h⟩ := chk_elim h
  refine WC.region ?_
  refine WL.quiet (d := 34) rfl rfl rfl (q_move rfl) ?_
  refine WL.quiet (d := 35) rfl rfl rfl (q_move rfl) ?_
  refine WL.quiet (d := 36) rfl rfl rfl (q_max rfl rfl rfl) ?_
  refine WL.know (fun w hw => Hp.expose .here hw (by intro hz'; have := c_28648; rw [hz'] at this; omega)) ?_
  rintro ⟨b_28650, rfl⟩
  refine WL.quiet (d := 37) rfl rfl rfl (q_indexAddr elT_22 rfl rfl c_28648.1 c_28648.2 rowAdd) ?_
  refine WL.eff0 rfl rfl (e_rowStore (vs := [(.int .i64 (max x_28045 1073741825))]) (ds := ((([] : List Int) ++ x_28633).set (0 : Int).toNat (max x_28045 1073741825)).flatMap e3) sizT_3 rfl rfl rfl rfl (oc_cons rfl oc_nil) .here (flat_fit (enc := e3) (sz := 1) (k := 0) (fun _ => rfl) c_28648.1 c_28648.2 (by decide)) (flat_put (enc := e3) (l := ([] : List Int) ++ x_28633) (sz := 1) (vs := [(.int .i64 (max x_28045 1073741825))]) (y := max x_28045 1073741825) (k := 0) (fun _ => rfl) c_28648.1 c_28648.2 rfl (Nat.le_of_ble_eq_true rfl))) ?_
  refine WL.relen .here (u := (.slice (some ⟨b_28650, 0, none⟩) (((([] : List Int) ++ x_28633).set (0 : Int).toNat (max x_28045 1073741825)).length) cap_28647)) (slen (List.length_set).symm) ?_
  refine WL.repin (i := 9) rfl (u := (.slice (some ⟨b_28650, 0, none⟩) (((([] : List Int) ++ x_28633).set (0 : Int).toNat (max x_28045 1073741825)).length) cap_28647)) (slen (List.length_set).symm) ?_
  refine WL.nil ?_
  refine WX.then ?_
  refine WC.seq ?_
  obtain ⟨c_28652, h⟩ := chk_elim h
  refine WC.region ?_
  refine WL.new (dd := 38) rfl rfl rfl (e_buildSlice (cs := ([] : List Int).flatMap e3) elT_22 (Eos.parts (l := []) .nil []) (fun _ => by kernel_rfl) rfl (by unfold maxLen; omega)) ?_
  intro b_28655 _
  refine WL.quiet (d := 39) rfl rfl rfl (q_move rfl) ?_
  refine WL.eff (d := 40) rfl rfl rfl (e_appendF (enc := e3) (l1 := ([] : List Int)) (l2 := x_28633) elT_22 rfl rfl .here (fun _ => rfl) rfl rfl (news_row (.there (.there .here))) (oc_flat e3_oc _) c_28652) ?_
  rintro ⟨ao_28656, cap_28657⟩ _
  refine WL.quiet (d := 10) rfl rfl rfl (q_assign rfl) ?_
  refine WL.nil ?_
  refine WX.then ?_
  refine WC.seq ?_
  obtain ⟨c_28658, h⟩ := chk_elim h
  refine WC.region ?_
  refine WL.quiet (d := 41) rfl rfl rfl (q_move rfl) ?_
  refine WL.quiet (d := 42) rfl rfl rfl (q_move rfl) ?_
  refine WL.quiet (d := 43) rfl rfl rfl (q_len Try.underlying22 rfl) ?_
  refine WL.quiet (d := 44) rfl rfl rfl (q_sub rfl rfl rfl) ?_
  refine WL.quiet (d := 45) rfl rfl rfl (q_move rfl) ?_
  refine WL.quiet (d := 46) rfl rfl rfl (q_min rfl rfl rfl) ?_
  refine WL.know (fun w hw => Hp.expose .here hw (by intro hz'; have := c_28658; rw [hz'] at this; omega)) ?_
  rintro ⟨b_28660, rfl⟩
  refine WL.quiet (d := 47) rfl rfl rfl (q_indexAddr elT_22 rfl rfl c_28658.1 c_28658.2 rowAdd) ?_
  refine WL.eff0 rfl rfl (e_rowStore (vs := [(.int .i64 (min x_28045 (-1073741825)))]) (ds := ((([] : List Int) ++ x_28633).set ((i64 (((x_28633.length : Nat) : Int) - 1)) : Int).toNat (min x_28045 (-1073741825))).flatMap e3) sizT_3 rfl rfl rfl rfl (oc_cons rfl oc_nil) .here (flat_fit (enc := e3) (sz := 1) (k := 0) (fun _ => rfl) c_28658.1 c_28658.2 (by decide)) (flat_put (enc := e3) (l := ([] : List Int) ++ x_28633) (sz := 1) (vs := [(.int .i64 (min x_28045 (-1073741825)))]) (y := min x_28045 (-1073741825)) (k := 0) (fun _ => rfl) c_28658.1 c_28658.2 rfl (Nat.le_of_ble_eq_true rfl))) ?_
  refine WL.relen .here (u := (.slice (some ⟨b_28660, 0, none⟩) (((([] : List Int) ++ x_28633).set ((i64 (((x_28633.length : Nat) : Int) - 1)) : Int).toNat (min x_28045 (-1073741825))).length) cap_28657)) (slen (List.length_set).symm) ?_
  refine WL.repin (i := 10) rfl (u := (.slice (some ⟨b_28660, 0, none⟩) (((([] : List Int) ++ x_28633).set ((i64 (((x_28633.length : Nat) : Int) - 1)) : Int).toNat (min x_28045 (-1073741825))).length) cap_28657)) (slen (List.length_set).symm) ?_
  refine WL.nil ?_
  refine WX.then ?_
  obtain ⟨k_28923, hk_28924, h⟩ := jp1_elim h
  refine WC.seqMid4 (fun (t_28919 : List Int) (Zn_28917 : Zp) (ao_28920 : Option Addr) (cap_28921 : Nat) => (k_28923 t_28919 = some r) ∧ (Zle (Z ++ []) (Z ++ Zn_28917)) ∧ (ZS (Z ++ Zn_28917) 1 (fun r x => r = e3 x) ao_28920 cap_28921 t_28919)) (fun (t_28919 : List Int) (Zn_28917 : Zp) (ao_28920 : Option Addr) (cap_28921 : Nat) => [(2, (.int .i64 x_28045)), (7, (.int .i64 (Int.tmod (i64 n_28044) 8))), (8, (.slice ao_28920 t_28919.length cap_28921))]) (fun (t_28919 : List Int) (Zn_28917 : Zp) (ao_28920 : Option Addr) (cap_28921 : Nat) => [fz Zn_28917]) ?_ ?_
  · skip
    refine WC.seq ?_
    obtain ⟨c_28925, h⟩ := chk_elim h
    refine WC.region ?_
    refine WL.quiet (d := 48) rfl rfl rfl (q_build (v := (.agg #[(.slice none 0 0), (.int .i64 0)])) (Eos.parts (l := [.const (.slice none 0 0), .const (.int .i64 0)]) (.cons rfl (.cons rfl .nil)) [0, 1]) (fun _ => by kernel_rfl)) ?_
    refine WL.new (dd := 49) rfl rfl rfl (e_makeSlice (r := [(.int .i64 0)]) (z0 := (0 : Int)) elT_22 zeroT_3 rfl rfl rfl rfl c_28925) ?_
    intro b_28942 _
    refine WL.rowEqD .here (cs' := (List.replicate (17 : Int).toNat (0 : Int)).flatMap e3) (rep_flat (enc := e3) (0 : Int) _) ?_
    refine WL.quiet (d := 50) rfl rfl rfl (q_move rfl) ?_
    refine WL.quiet (d := 51) rfl rfl rfl (q_build (v := (.agg #[(.slice (some ⟨b_28942, 0, none⟩) ((List.replicate (17 : Int).toNat (0 : Int)).length) ((17 : Int).toNat)), (.int .i64 (Int.tmod (i64 n_28044) 8))])) (Eos.parts (l := [.tmp 49, .tmp 50]) (.cons rfl (.cons rfl .nil)) [0, 1]) (fun _ => by kernel_rfl)) ?_
    refine WL.quiet (d := 52) rfl rfl rfl (q_move rfl) ?_
    refine WL.quiet (d := 53) rfl rfl rfl (q_build (v := (.agg #[(.slice ao_28638 x_28633.length cap_28639), (.int .i64 (-1))])) (Eos.parts (l := [.tmp 52, .const (.int .i64 (-1))]) (.cons rfl (.cons rfl .nil)) [0, 1]) (fun _ => by kernel_rfl)) ?_
    refine WL.quiet (d := 54) rfl rfl rfl (q_move rfl) ?_
    refine WL.quiet (d := 55) rfl rfl rfl (q_move rfl) ?_
    refine WL.quiet (d := 56) rfl rfl rfl (q_len Try.underlying22 rfl) ?_
    refine WL.quiet (d := 57) rfl rfl rfl (q_add rfl rfl rfl) ?_
    refine WL.quiet (d := 58) rfl rfl rfl (q_quo rfl rfl (by decide) rfl) ?_
    refine WL.quiet (d := 59) rfl rfl rfl (q_build (v := (.agg #[(.slice ao_28638 x_28633.length cap_28639), (.int .i64 (i64 (Int.tdiv (i64 (((x_28633.length : Nat) : Int) + 1)) 2)))])) (Eos.parts (l := [.tmp 54, .tmp 58]) (.cons rfl (.cons rfl .nil)) [0, 1]) (fun _ => by kernel_rfl)) ?_
    refine WL.quiet (d := 60) rfl rfl rfl (q_move rfl) ?_
    refine WL.quiet (d := 61) rfl rfl rfl (q_move rfl) ?_
    refine WL.quiet (d := 62) rfl rfl rfl (q_build (v := (.agg #[(.slice (some ⟨b_28650, 0, none⟩) (((([] : List Int) ++ x_28633).set (0 : Int).toNat (max x_28045 1073741825)).length) cap_28647), (.int .i64 (Int.tmod (i64 n_28044) 8))])) (Eos.parts (l := [.tmp 60, .tmp 61]) (.cons rfl (.cons rfl .nil)) [0, 1]) (fun _ => by kernel_rfl)) ?_
    refine WL.quiet (d := 63) rfl rfl rfl (q_move rfl) ?_
    refine WL.quiet (d := 64) rfl rfl rfl (q_move rfl) ?_
    refine WL.quiet (d := 65) rfl rfl rfl (q_build (v := (.agg #[(.slice (some ⟨b_28660, 0, none⟩) (((([] : List Int) ++ x_28633).set ((i64 (((x_28633.length : Nat) : Int) - 1)) : Int).toNat (min x_28045 (-1073741825))).length) cap_28657), (.int .i64 (Int.tmod (i64 n_28044) 8))])) (Eos.parts (l := [.tmp 63, .tmp 64]) (.cons rfl (.cons rfl .nil)) [0, 1]) (fun _ => by kernel_rfl)) ?_
    refine WL.freezeS .here (.there (.there (.there .here))) hz (RR.flat (enc := e3) (fun _ => rfl) _) ?_
    intro Zn_28943 hle_28944 hf_28945
    refine WL.freezeS (.there (.there (.there .here))) .here hz (RR.flat (enc := e3) (fun _ => rfl) _) ?_
    intro Zn_28946 hle_28947 hf_28948
    refine WL.freezeS (.there (.there .here)) .here hz (RR.flat (enc := e3) (fun _ => rfl) _) ?_
    intro Zn_28949 hle_28950 hf_28951
    refine WL.freezeS (.there .here) .here hz (RR.flat (enc := e3) (fun _ => rfl) _) ?_
    intro Zn_28952 hle_28953 hf_28954
    have rel_28956 : RR 2 (p52 (Z ++ Zn_28952)) [(.slice none 0 0), (.int .i64 0), (.slice (some ⟨b_28942, 0, none⟩) ((List.replicate (17 : Int).toNat (0 : Int)).length) ((17 : Int).toNat)), (.int .i64 (Int.tmod (i64 n_28044) 8)), (.slice ao_28638 x_28633.length cap_28639), (.int .i64 (-1)), (.slice ao_28638 x_28633.length cap_28639), (.int .i64 (i64 (Int.tdiv (i64 (((x_28633.length : Nat) : Int) + 1)) 2))), (.slice (some ⟨b_28650, 0, none⟩) (((([] : List Int) ++ x_28633).set (0 : Int).toNat (max x_28045 1073741825)).length) cap_28647), (.int .i64 (Int.tmod (i64 n_28044) 8)), (.slice (some ⟨b_28660, 0, none⟩) (((([] : List Int) ++ x_28633).set ((i64 (((x_28633.length : Nat) : Int) - 1)) : Int).toNat (min x_28045 (-1073741825))).length) cap_28657), (.int .i64 (Int.tmod (i64 n_28044) 8))] [(⟨[], 0⟩ : S52), (⟨List.replicate (17 : Int).toNat (0 : Int), Int.tmod (i64 n_28044) 8⟩ : S52), (⟨x_28633, (-1)⟩ : S52), (⟨x_28633, i64 (Int.tdiv (i64 (((x_28633.length : Nat) : Int) + 1)) 2)⟩ : S52), (⟨(([] : List Int) ++ x_28633).set (0 : Int).toNat (max x_28045 1073741825), Int.tmod (i64 n_28044) 8⟩ : S52), (⟨(([] : List Int) ++ x_28633).set ((i64 (((x_28633.length : Nat) : Int) - 1)) : Int).toNat (min x_28045 (-1073741825)), Int.tmod (i64 n_28044) 8⟩ : S52)] := (RR.cons (r := [(.slice none 0 0), (.int .i64 0)]) rfl (show p52 _ _ _ from ⟨_, _, rfl, (ZS.nil _ _ _)⟩) (RR.cons (r := [(.slice (some ⟨b_28942, 0, none⟩) ((List.replicate (17 : Int).toNat (0 : Int)).length) ((17 : Int).toNat)), (.int .i64 (Int.tmod (i64 n_28044) 8))]) rfl (show p52 _ _ _ from ⟨_, _, rfl, (hf_28945.mono (hle_28947.trans (hle_28950.trans hle_28953)))⟩) (RR.cons (r := [(.slice ao_28638 x_28633.length cap_28639), (.int .i64 (-1))]) rfl (show p52 _ _ _ from ⟨_, _, rfl, (hf_28948.mono (hle_28950.trans hle_28953))⟩) (RR.cons (r := [(.slice ao_28638 x_28633.length cap_28639), (.int .i64 (i64 (Int.tdiv (i64 (((x_28633.length : Nat) : Int) + 1)) 2)))]) rfl (show p52 _ _ _ from ⟨_, _, rfl, (hf_28948.mono (hle_28950.trans hle_28953))⟩) (RR.cons (r := [(.slice (some ⟨b_28650, 0, none⟩) (((([] : List Int) ++ x_28633).set (0 : Int).toNat (max x_28045 1073741825)).length) cap_28647), (.int .i64 (Int.tmod (i64 n_28044) 8))]) rfl (show p52 _ _ _ from ⟨_, _, rfl, (hf_28951.mono hle_28953)⟩) (RR.cons (r := [(.slice (some ⟨b_28660, 0, none⟩) (((([] : List Int) ++ x_28633).set ((i64 (((x_28633.length : Nat) : Int) - 1)) : Int).toNat (min x_28045 (-1073741825))).length) cap_28657), (.int .i64 (Int.tmod (i64 n_28044) 8))]) rfl (show p52 _ _ _ from ⟨_, _, rfl, hf_28954⟩) (RR.nil _ _)))))))
    refine WL.new (dd := 66) rfl rfl rfl (e_buildSlice (cs := [(.slice none 0 0), (.int .i64 0), (.slice (some ⟨b_28942, 0, none⟩) ((List.replicate (17 : Int).toNat (0 : Int)).length) ((17 : Int).toNat)), (.int .i64 (Int.tmod (i64 n_28044) 8)), (.slice ao_28638 x_28633.length cap_28639), (.int .i64 (-1)), (.slice ao_28638 x_28633.length cap_28639), (.int .i64 (i64 (Int.tdiv (i64 (((x_28633.length : Nat) : Int) + 1)) 2))), (.slice (some ⟨b_28650, 0, none⟩) (((([] : List Int) ++ x_28633).set (0 : Int).toNat (max x_28045 1073741825)).length) cap_28647), (.int .i64 (Int.tmod (i64 n_28044) 8)), (.slice (some ⟨b_28660, 0, none⟩) (((([] : List Int) ++ x_28633).set ((i64 (((x_28633.length : Nat) : Int) - 1)) : Int).toNat (min x_28045 (-1073741825))).length) cap_28657), (.int .i64 (Int.tmod (i64 n_28044) 8))]) elT_53 (Eos.parts (l := [.tmp 48, .tmp 51, .tmp 53, .tmp 59, .tmp 62, .tmp 65]) (.cons rfl (.cons rfl (.cons rfl (.cons rfl (.cons rfl (.cons rfl .nil)))))) [0, 1, 2, 3, 4, 5]) (fun _ => by kernel_rfl) rfl (by unfold maxLen; omega)) ?_
    intro b_28955 _
    refine WL.quiet (d := 67) rfl rfl rfl (q_len Try.underlying53 rfl) ?_
    refine WL.quiet (d := 68) rfl rfl rfl (q_move rfl) ?_
    refine WL.nil ?_
    refine WX.then ?_
    refine WC.block ?_
    refine WC.loop4 (fun (n_29109 : Nat) (v_29105 : List S52) (v_29108 : Int) (cs_29106 : List Value) => (m_law33_ClockWrong_L2 n_28044 x_28633 x_28045 k_28923 n_29109 v_29105 v_29108 = some r) ∧ (RR 2 (p52 (Z ++ Zn_28952)) cs_29106 v_29105)) (fun (n_29109 : Nat) (v_29105 : List S52) (v_29108 : Int) (cs_29106 : List Value) => [(2, (.int .i64 x_28045)), (7, (.int .i64 (Int.tmod (i64 n_28044) 8))), (8, (.slice ao_28638 x_28633.length cap_28639)), (66, (.slice (some ⟨b_28955, 0, none⟩) v_29105.length 6)), (67, (.int .i64 (([(⟨[], 0⟩ : S52), (⟨List.replicate (17 : Int).toNat (0 : Int), Int.tmod (i64 n_28044) 8⟩ : S52), (⟨x_28633, (-1)⟩ : S52), (⟨x_28633, i64 (Int.tdiv (i64 (((x_28633.length : Nat) : Int) + 1)) 2)⟩ : S52), (⟨(([] : List Int) ++ x_28633).set (0 : Int).toNat (max x_28045 1073741825), Int.tmod (i64 n_28044) 8⟩ : S52), (⟨(([] : List Int) ++ x_28633).set ((i64 (((x_28633.length : Nat) : Int) - 1)) : Int).toNat (min x_28045 (-1073741825)), Int.tmod (i64 n_28044) 8⟩ : S52)].length : Nat) : Int))), (68, (.int .i64 v_29108))]) (fun (n_29109 : Nat) (v_29105 : List S52) (v_29108 : Int) (cs_29106 : List Value) => [fz Zn_28952, row (.slice (some ⟨b_28955, 0, none⟩) v_29105.length 6) 52 2 cs_29106]) (fun (n_29109 : Nat) (v_29105 : List S52) (v_29108 : Int) (cs_29106 : List Value) => n_29109) ⟨FUEL, [(⟨[], 0⟩ : S52), (⟨List.replicate (17 : Int).toNat (0 : Int), Int.tmod (i64 n_28044) 8⟩ : S52), (⟨x_28633, (-1)⟩ : S52), (⟨x_28633, i64 (Int.tdiv (i64 (((x_28633.length : Nat) : Int) + 1)) 2)⟩ : S52), (⟨(([] : List Int) ++ x_28633).set (0 : Int).toNat (max x_28045 1073741825), Int.tmod (i64 n_28044) 8⟩ : S52), (⟨(([] : List Int) ++ x_28633).set ((i64 (((x_28633.length : Nat) : Int) - 1)) : Int).toNat (min x_28045 (-1073741825)), Int.tmod (i64 n_28044) 8⟩ : S52)], 0, [(.slice none 0 0), (.int .i64 0), (.slice (some ⟨b_28942, 0, none⟩) ((List.replicate (17 : Int).toNat (0 : Int)).length) ((17 : Int).toNat)), (.int .i64 (Int.tmod (i64 n_28044) 8)), (.slice ao_28638 x_28633.length cap_28639), (.int .i64 (-1)), (.slice ao_28638 x_28633.length cap_28639), (.int .i64 (i64 (Int.tdiv (i64 (((x_28633.length : Nat) : Int) + 1)) 2))), (.slice (some ⟨b_28650, 0, none⟩) (((([] : List Int) ++ x_28633).set (0 : Int).toNat (max x_28045 1073741825)).length) cap_28647), (.int .i64 (Int.tmod (i64 n_28044) 8)), (.slice (some ⟨b_28660, 0, none⟩) (((([] : List Int) ++ x_28633).set ((i64 (((x_28633.length : Nat) : Int) - 1)) : Int).toNat (min x_28045 (-1073741825))).length) cap_28657), (.int .i64 (Int.tmod (i64 n_28044) 8))]⟩ ⟨h, rel_28956⟩ (.cons rfl (.cons rfl (.cons rfl (.cons rfl (.cons rfl (.cons rfl .nil)))))) (.cons (.there .here) (.cons .here .nil)) ?_
    rintro n_29109 v_29105 v_29108 cs_29106 ⟨h, rel_29107⟩
    obtain ⟨n_29110, rfl⟩ := m_law33_ClockWrong_L2_fuel h
    rw [m_law33_ClockWrong_L2] at h
    refine WC.seq ?_
    refine WC.region ?_
    refine WL.quiet (d := 69) rfl rfl rfl (q_lss rfl rfl) ?_
    refine WL.nil ?_
    refine WX.then ?_
    refine WC.seq ?_
    refine WC.cond rfl (fun hb_29112 => ?_) (fun hb_29112 => ?_)
    · replace h := ite_t h hb_29112
      refine WC.skip ?_
      refine WX.then ?_
      refine WC.seq ?_
      refine WC.block ?_
      refine WC.seq ?_
      obtain ⟨c_29147, h⟩ := chk_elim h
      refine WC.region ?_
      obtain ⟨r_29159, tl_29160, hl_29161, hd_29162, ⟨ao_29156, cap_29157, rfl, hs_29158⟩⟩ := RR.elem rel_29107 c_29147.1 c_29147.2
      refine WL.quiet (d := 70) rfl rfl rfl (q_indexAddr elT_53 rfl rfl c_29147.1 c_29147.2 rowAdd) ?_
      refine WL.quiet (d := 71) rfl rfl rfl (q_loadA (cs := [(.slice ao_29156 (((nth v_29105 v_29108).fL).length) cap_29157), (.int .i64 ((nth v_29105 v_29108).fF))]) aggT_52 rfl rfl (rd_rows (.there .here) (drop_rd hd_29162))) ?_
      refine WL.new (dd := 12) rfl rfl rfl (e_alloc (cs := [(.slice none 0 0), (.int .i64 0)]) zeroT_52 rfl) ?_
      intro b_29163 _
      refine WL.eff0 rfl rfl (e_store (vs := [(.slice ao_29156 (((nth v_29105 v_29108).fL).length) cap_29157), (.int .i64 ((nth v_29105 v_29108).fF))]) (ds := [(.slice ao_29156 (((nth v_29105 v_29108).fL).length) cap_29157), (.int .i64 ((nth v_29105 v_29108).fF))]) sizT_52 rfl rfl rfl rfl (oc_cons rfl (oc_cons rfl oc_nil)) .here (Nat.le_of_ble_eq_true rfl) rfl) ?_
      refine WL.nil ?_
      refine WX.then ?_
      refine WC.seq ?_
      obtain ⟨x_29164, hx_29165, h⟩ := bind_elim h
      refine WC.region ?_
      refine WL.quiet (d := 73) rfl rfl rfl (q_fieldAddr fo_52_0 rfl rfl) ?_
      refine WL.quiet (d := 74) rfl rfl rfl (q_load1 oneT_22 rfl (rd_stb .here rfl)) ?_
      refine WL.quiet (d := 75) rfl rfl rfl (q_fieldAddr fo_52_1 rfl rfl) ?_
      refine WL.quiet (d := 76) rfl rfl rfl (q_load1 oneT_3 rfl (rd_stb .here rfl)) ?_
      refine WL.callD (dd := 77) rfl rfl rfl (run_call (l := [.tmp 74, .tmp 76]) Try.call11 (.cons rfl (.cons rfl .nil))) (.nil : Sel [stb b_29163 52 [(.slice ao_29156 (((nth v_29105 v_29108).fL).length) cap_29157), (.int .i64 ((nth v_29105 v_29108).fF))], fz Zn_28952, row (.slice (some ⟨b_28955, 0, none⟩) v_29105.length 6) 52 2 cs_29106] [] [stb b_29163 52 [(.slice ao_29156 (((nth v_29105 v_29108).fL).length) cap_29157), (.int .i64 ((nth v_29105 v_29108).fF))], fz Zn_28952, row (.slice (some ⟨b_28955, 0, none⟩) v_29105.length 6) 52 2 cs_29106]) (fun w hw => by have pz := (hz.call2 hw (.nil : Sel [stb b_29163 52 [(.slice ao_29156 (((nth v_29105 v_29108).fL).length) cap_29157), (.int .i64 ((nth v_29105 v_29108).fF))], fz Zn_28952, row (.slice (some ⟨b_28955, 0, none⟩) v_29105.length 6) 52 2 cs_29106] [] [stb b_29163 52 [(.slice ao_29156 (((nth v_29105 v_29108).fL).length) cap_29157), (.int .i64 ((nth v_29105 v_29108).fF))], fz Zn_28952, row (.slice (some ⟨b_28955, 0, none⟩) v_29105.length 6) 52 2 cs_29106]) (.there .here)); exact w_clock_Midpoint (Z := _) (ao_17 := ao_29156) (cap_18 := cap_29157) (l_16 := ((nth v_29105 v_29108).fL)) (f_20 := ((nth v_29105 v_29108).fF)) (r := x_29164) w pz hs_29158 hx_29165) ?_
      refine WL.quiet (d := 72) rfl rfl rfl (q_move rfl) ?_
      refine WL.quiet (d := 78) rfl rfl rfl (q_extract rfl rfl) ?_
      refine WL.quiet (d := 79) rfl rfl rfl (q_extract rfl rfl) ?_
      refine WL.quiet (d := 13) rfl rfl rfl (q_assign rfl) ?_
      refine WL.quiet (d := 14) rfl rfl rfl (q_assign rfl) ?_
      refine WL.nil ?_
      refine WX.then ?_
      refine WC.seq ?_
      obtain ⟨x_29166, hx_29167, h⟩ := bind_elim h
      refine WC.region ?_
      refine WL.quiet (d := 81) rfl rfl rfl (q_fieldAddr fo_52_0 rfl rfl) ?_
      refine WL.quiet (d := 82) rfl rfl rfl (q_load1 oneT_22 rfl (rd_stb .here rfl)) ?_
      refine WL.quiet (d := 83) rfl rfl rfl (q_fieldAddr fo_52_1 rfl rfl) ?_
      refine WL.quiet (d := 84) rfl rfl rfl (q_load1 oneT_3 rfl (rd_stb .here rfl)) ?_
      refine WL.enter2 (dd := 85) rfl rfl rfl (run_call (l := [.tmp 82, .tmp 84, .const (.int .i64 5)]) Try.call13 (.cons rfl (.cons rfl (.cons rfl .nil)))) (.nil : Sel [stb b_29163 52 [(.slice ao_29156 (((nth v_29105 v_29108).fL).length) cap_29157), (.int .i64 ((nth v_29105 v_29108).fF))], fz Zn_28952, row (.slice (some ⟨b_28955, 0, none⟩) v_29105.length 6) 52 2 cs_29106] [] [stb b_29163 52 [(.slice ao_29156 (((nth v_29105 v_29108).fL).length) cap_29157), (.int .i64 ((nth v_29105 v_29108).fF))], fz Zn_28952, row (.slice (some ⟨b_28955, 0, none⟩) v_29105.length 6) 52 2 cs_29106]) (fun w hw => by have pz := (hz.call2 hw (.nil : Sel [stb b_29163 52 [(.slice ao_29156 (((nth v_29105 v_29108).fL).length) cap_29157), (.int .i64 ((nth v_29105 v_29108).fF))], fz Zn_28952, row (.slice (some ⟨b_28955, 0, none⟩) v_29105.length 6) 52 2 cs_29106] [] [stb b_29163 52 [(.slice ao_29156 (((nth v_29105 v_29108).fL).length) cap_29157), (.int .i64 ((nth v_29105 v_29108).fF))], fz Zn_28952, row (.slice (some ⟨b_28955, 0, none⟩) v_29105.length 6) 52 2 cs_29106]) (.there .here)); exact w_clock_Suspects (Z := _) (ao_1033 := ao_29156) (cap_1034 := cap_29157) (l_1032 := ((nth v_29105 v_29108).fL)) (f_1036 := ((nth v_29105 v_29108).fF)) (width_1037 := 5) (r := x_29166) w pz hs_29158 hx_29167) ?_
      rintro ao_29171 cap_29172 _
      refine WL.quiet (d := 80) rfl rfl rfl (q_move rfl) ?_
      refine WL.quiet (d := 86) rfl rfl rfl (q_extract rfl rfl) ?_
      refine WL.quiet (d := 87) rfl rfl rfl (q_extract rfl rfl) ?_
      refine WL.quiet (d := 15) rfl rfl rfl (q_assign rfl) ?_
      refine WL.quiet (d := 16) rfl rfl rfl (q_assign rfl) ?_
      refine WL.nil ?_
      refine WX.then ?_
      refine WC.seq ?_
      refine WC.region ?_
      refine WL.quiet (d := 88) rfl rfl rfl (q_move rfl) ?_
      refine WL.quiet (d := 89) rfl rfl rfl (q_neq rfl rfl) ?_
      refine WL.quiet (d := 90) rfl rfl rfl (q_move rfl) ?_
      refine WL.cut0 True [(2, (.int .i64 x_28045)), (7, (.int .i64 (Int.tmod (i64 n_28044) 8))), (8, (.slice ao_28638 x_28633.length cap_28639)), (66, (.slice (some ⟨b_28955, 0, none⟩) v_29105.length 6)), (67, (.int .i64 (([(⟨[], 0⟩ : S52), (⟨List.replicate (17 : Int).toNat (0 : Int), Int.tmod (i64 n_28044) 8⟩ : S52), (⟨x_28633, (-1)⟩ : S52), (⟨x_28633, i64 (Int.tdiv (i64 (((x_28633.length : Nat) : Int) + 1)) 2)⟩ : S52), (⟨(([] : List Int) ++ x_28633).set (0 : Int).toNat (max x_28045 1073741825), Int.tmod (i64 n_28044) 8⟩ : S52), (⟨(([] : List Int) ++ x_28633).set ((i64 (((x_28633.length : Nat) : Int) - 1)) : Int).toNat (min x_28045 (-1073741825)), Int.tmod (i64 n_28044) 8⟩ : S52)].length : Nat) : Int))), (68, (.int .i64 v_29108)), (15, (.slice ao_29171 x_29166.1.length cap_29172)), (16, (.int .i64 x_29166.2)), (93, (.bool ((decide (x_29164.1 ≠ 0)) || (decide (x_29164.2 ≠ 2)))))] [row (.slice ao_29171 x_29166.1.length cap_29172) 3 1 (x_29166.1.flatMap e3), stb b_29163 52 [(.slice ao_29156 (((nth v_29105 v_29108).fL).length) cap_29157), (.int .i64 ((nth v_29105 v_29108).fF))], fz Zn_28952, row (.slice (some ⟨b_28955, 0, none⟩) v_29105.length 6) 52 2 cs_29106] 3 ?_ (fun _ => ?_)
      · rcases Bool.eq_false_or_eq_true (decide (x_29164.1 ≠ 0)) with hb' | hb'
        · have hg_29174 := hb'; clear hb'
          refine WL.pin (i := 90) rfl hg_29174 ?_
          refine WL.skip rfl rfl rfl ?_
          refine WL.skip rfl rfl rfl ?_
          refine WL.quiet (d := 93) rfl rfl rfl (q_pickT rfl rfl) ?_
          exact WL.cutEnd () trivial (.cons rfl (.cons rfl (.cons rfl (.cons rfl (.cons rfl (.cons rfl (.cons rfl (.cons rfl (.cons (some_bool (or_l hg_29174)) .nil))))))))) (.cons .here (.cons .here (.cons .here (.cons .here .nil))))
        · have hg_29175 := hb'; clear hb'
          refine WL.pin (i := 90) rfl hg_29175 ?_
          refine WL.quiet (d := 91) rfl rfl rfl (q_move rfl) ?_
          refine WL.quiet (d := 92) rfl rfl rfl (q_neq rfl rfl) ?_
          refine WL.quiet (d := 93) rfl rfl rfl (q_pickF rfl rfl) ?_
          exact WL.cutEnd () trivial (.cons rfl (.cons rfl (.cons rfl (.cons rfl (.cons rfl (.cons rfl (.cons rfl (.cons rfl (.cons (some_bool (or_r hg_29175)) .nil))))))))) (.cons .here (.cons .here (.cons .here (.cons .here .nil))))
      · skip
        refine WL.quiet (d := 94) rfl rfl rfl (q_move rfl) ?_
        refine WL.cut0 True [(2, (.int .i64 x_28045)), (7, (.int .i64 (Int.tmod (i64 n_28044) 8))), (8, (.slice ao_28638 x_28633.length cap_28639)), (66, (.slice (some ⟨b_28955, 0, none⟩) v_29105.length 6)), (67, (.int .i64 (([(⟨[], 0⟩ : S52), (⟨List.replicate (17 : Int).toNat (0 : Int), Int.tmod (i64 n_28044) 8⟩ : S52), (⟨x_28633, (-1)⟩ : S52), (⟨x_28633, i64 (Int.tdiv (i64 (((x_28633.length : Nat) : Int) + 1)) 2)⟩ : S52), (⟨(([] : List Int) ++ x_28633).set (0 : Int).toNat (max x_28045 1073741825), Int.tmod (i64 n_28044) 8⟩ : S52), (⟨(([] : List Int) ++ x_28633).set ((i64 (((x_28633.length : Nat) : Int) - 1)) : Int).toNat (min x_28045 (-1073741825)), Int.tmod (i64 n_28044) 8⟩ : S52)].length : Nat) : Int))), (68, (.int .i64 v_29108)), (16, (.int .i64 x_29166.2)), (98, (.bool (((decide (x_29164.1 ≠ 0)) || (decide (x_29164.2 ≠ 2))) || (decide (((x_29166.1.length : Nat) : Int) ≠ 0)))))] [row (.slice ao_29171 x_29166.1.length cap_29172) 3 1 (x_29166.1.flatMap e3), stb b_29163 52 [(.slice ao_29156 (((nth v_29105 v_29108).fL).length) cap_29157), (.int .i64 ((nth v_29105 v_29108).fF))], fz Zn_28952, row (.slice (some ⟨b_28955, 0, none⟩) v_29105.length 6) 52 2 cs_29106] 4 ?_ (fun _ => ?_)
        · rcases Bool.eq_false_or_eq_true ((decide (x_29164.1 ≠ 0)) || (decide (x_29164.2 ≠ 2))) with hb' | hb'
          · have hg_29176 := hb'; clear hb'
            refine WL.pin (i := 94) rfl hg_29176 ?_
            refine WL.skip rfl rfl rfl ?_
            refine WL.skip rfl rfl rfl ?_
            refine WL.skip rfl rfl rfl ?_
            refine WL.quiet (d := 98) rfl rfl rfl (q_pickT rfl rfl) ?_
            exact WL.cutEnd () trivial (.cons rfl (.cons rfl (.cons rfl (.cons rfl (.cons rfl (.cons rfl (.cons rfl (.cons (some_bool (or_l hg_29176)) .nil)))))))) (.cons .here (.cons .here (.cons .here (.cons .here .nil))))
          · have hg_29177 := hb'; clear hb'
            refine WL.pin (i := 94) rfl hg_29177 ?_
            refine WL.quiet (d := 95) rfl rfl rfl (q_move rfl) ?_
            refine WL.quiet (d := 96) rfl rfl rfl (q_len Try.underlying22 rfl) ?_
            refine WL.quiet (d := 97) rfl rfl rfl (q_neq rfl rfl) ?_
            refine WL.quiet (d := 98) rfl rfl rfl (q_pickF rfl rfl) ?_
            exact WL.cutEnd () trivial (.cons rfl (.cons rfl (.cons rfl (.cons rfl (.cons rfl (.cons rfl (.cons rfl (.cons (some_bool (or_r hg_29177)) .nil)))))))) (.cons .here (.cons .here (.cons .here (.cons .here .nil))))
        · skip
          refine WL.quiet (d := 99) rfl rfl rfl (q_move rfl) ?_
          refine WL.cut0 True [(2, (.int .i64 x_28045)), (7, (.int .i64 (Int.tmod (i64 n_28044) 8))), (8, (.slice ao_28638 x_28633.length cap_28639)), (66, (.slice (some ⟨b_28955, 0, none⟩) v_29105.length 6)), (67, (.int .i64 (([(⟨[], 0⟩ : S52), (⟨List.replicate (17 : Int).toNat (0 : Int), Int.tmod (i64 n_28044) 8⟩ : S52), (⟨x_28633, (-1)⟩ : S52), (⟨x_28633, i64 (Int.tdiv (i64 (((x_28633.length : Nat) : Int) + 1)) 2)⟩ : S52), (⟨(([] : List Int) ++ x_28633).set (0 : Int).toNat (max x_28045 1073741825), Int.tmod (i64 n_28044) 8⟩ : S52), (⟨(([] : List Int) ++ x_28633).set ((i64 (((x_28633.length : Nat) : Int) - 1)) : Int).toNat (min x_28045 (-1073741825)), Int.tmod (i64 n_28044) 8⟩ : S52)].length : Nat) : Int))), (68, (.int .i64 v_29108)), (102, (.bool ((((decide (x_29164.1 ≠ 0)) || (decide (x_29164.2 ≠ 2))) || (decide (((x_29166.1.length : Nat) : Int) ≠ 0))) || (decide (x_29166.2 ≠ 2)))))] [row (.slice ao_29171 x_29166.1.length cap_29172) 3 1 (x_29166.1.flatMap e3), stb b_29163 52 [(.slice ao_29156 (((nth v_29105 v_29108).fL).length) cap_29157), (.int .i64 ((nth v_29105 v_29108).fF))], fz Zn_28952, row (.slice (some ⟨b_28955, 0, none⟩) v_29105.length 6) 52 2 cs_29106] 3 ?_ (fun _ => ?_)
          · rcases Bool.eq_false_or_eq_true (((decide (x_29164.1 ≠ 0)) || (decide (x_29164.2 ≠ 2))) || (decide (((x_29166.1.length : Nat) : Int) ≠ 0))) with hb' | hb'
            · have hg_29178 := hb'; clear hb'
              refine WL.pin (i := 99) rfl hg_29178 ?_
              refine WL.skip rfl rfl rfl ?_
              refine WL.skip rfl rfl rfl ?_
              refine WL.quiet (d := 102) rfl rfl rfl (q_pickT rfl rfl) ?_
              exact WL.cutEnd () trivial (.cons rfl (.cons rfl (.cons rfl (.cons rfl (.cons rfl (.cons rfl (.cons (some_bool (or_l hg_29178)) .nil))))))) (.cons .here (.cons .here (.cons .here (.cons .here .nil))))
            · have hg_29179 := hb'; clear hb'
              refine WL.pin (i := 99) rfl hg_29179 ?_
              refine WL.quiet (d := 100) rfl rfl rfl (q_move rfl) ?_
              refine WL.quiet (d := 101) rfl rfl rfl (q_neq rfl rfl) ?_
              refine WL.quiet (d := 102) rfl rfl rfl (q_pickF rfl rfl) ?_
              exact WL.cutEnd () trivial (.cons rfl (.cons rfl (.cons rfl (.cons rfl (.cons rfl (.cons rfl (.cons (some_bool (or_r hg_29179)) .nil))))))) (.cons .here (.cons .here (.cons .here (.cons .here .nil))))
          · skip
            refine WL.nil ?_
            refine WX.then ?_
            refine WC.cond rfl (fun hb_29180 => ?_) (fun hb_29180 => ?_)
            · replace h := ite_t h hb_29180
              refine WC.seq ?_
              refine WC.region ?_
              refine WL.quiet (d := 6) rfl rfl rfl (q_assign rfl) ?_
              refine WL.nil ?_
              refine WX.then ?_
              refine WC.ret ?_
              refine WX.blockRet ?_
              refine WX.thenRet ?_
              refine WX.thenRet ?_
              refine WX.blockRet ?_
              refine WX.thenRet ?_
              obtain rfl := Option.some.inj h
              refine WX.bpRet Try.results9 (.tmp rfl .nil) (fun w hw => ?_)
              exact ⟨Zn_28952, ret1 rfl, trivial, hw.sub (.cons (.there (.there .here)) .nil)⟩
            · replace h := ite_f h hb_29180
              refine WC.skip ?_
              refine WX.blockNormal ?_
              refine WX.then ?_
              refine WC.region ?_
              refine WL.quiet (d := 103) rfl rfl rfl (q_add rfl rfl rfl) ?_
              refine WL.quiet (d := 68) rfl rfl rfl (q_move rfl) ?_
              refine WL.nil ?_
              exact WX.round (G := Nat × List S52 × Int × List Value) ⟨n_29110, v_29105, (i64 (v_29108 + 1)), cs_29106⟩ ⟨h, rel_29107⟩ (Nat.lt_succ_self _) (.cons rfl (.cons rfl (.cons rfl (.cons rfl (.cons rfl (.cons rfl .nil)))))) (.cons (.there (.there .here)) (.cons (.there (.there .here)) .nil))
    · replace h := ite_f h hb_29112
      refine WC.exit ?_
      refine WX.thenExit ?_
      refine WX.thenExit ?_
      refine WX.blockHit ?_
      exact WX.mid (G := List Int × Zp × Option Addr × Nat) ⟨x_28633, Zn_28952, ao_28638, cap_28639⟩ ⟨h, (hle_28944.trans (hle_28947.trans (hle_28950.trans hle_28953))), (hf_28948.mono (hle_28950.trans hle_28953))⟩ (.cons rfl (.cons rfl (.cons rfl .nil))) (.cons .here .nil)
  · rintro t_28919 Zn_28917 ao_28920 cap_28921 ⟨h, hle_28918, hs_28922⟩
    replace h := (hk_28924 t_28919).symm.trans h
    refine WC.seq ?_
    obtain ⟨x_29181, hx_29182, h⟩ := bind_elim h
    refine WC.region ?_
    refine WL.quiet (d := 105) rfl rfl rfl (q_move rfl) ?_
    refine WL.quiet (d := 106) rfl rfl rfl (q_move rfl) ?_
    refine WL.enter2 (dd := 107) rfl rfl rfl (run_call (l := [.tmp 105, .tmp 106, .const (.int .i64 (-1))]) Try.call13 (.cons rfl (.cons rfl (.cons rfl .nil)))) (.nil : Sel [fz Zn_28917] [] [fz Zn_28917]) (fun w hw => by have pz := (hz.call2 hw (.nil : Sel [fz Zn_28917] [] [fz Zn_28917]) .here); exact w_clock_Suspects (Z := _) (ao_1033 := ao_28920) (cap_1034 := cap_28921) (l_1032 := t_28919) (f_1036 := (Int.tmod (i64 n_28044) 8)) (width_1037 := (-1)) (r := x_29181) w pz hs_28922 hx_29182) ?_
    rintro ao_29186 cap_29187 _
    refine WL.quiet (d := 104) rfl rfl rfl (q_move rfl) ?_
    refine WL.quiet (d := 108) rfl rfl rfl (q_extract rfl rfl) ?_
    refine WL.quiet (d := 109) rfl rfl rfl (q_extract rfl rfl) ?_
    refine WL.quiet (d := 17) rfl rfl rfl (q_assign rfl) ?_
    refine WL.quiet (d := 18) rfl rfl rfl (q_assign rfl) ?_
    refine WL.nil ?_
    refine WX.then ?_
    refine WC.seq ?_
    obtain ⟨x_29190, hx_29191, h⟩ := bind_elim h
    refine WC.region ?_
    refine WL.quiet (d := 111) rfl rfl rfl (q_build (v := (.agg #[(.int .i64 1), (.int .i64 0)])) (Eos.parts (l := [.const (.int .i64 1), .const (.int .i64 0)]) (.cons rfl (.cons rfl .nil)) [0, 1]) (fun _ => by kernel_rfl)) ?_
    refine WL.new (dd := 112) rfl rfl rfl (e_buildSlice (cs := [(⟨1, 0⟩ : Sapi_Span)].flatMap e35) elT_23 (Eos.parts (l := [.tmp 111]) (.cons rfl .nil) [0]) (fun _ => by kernel_rfl) rfl (by unfold maxLen; omega)) ?_
    intro b_29193 _
    refine WL.callD (dd := 113) rfl rfl rfl (run_call (l := [.tmp 112, .const (.int .i64 0)]) Try.call15 (.cons rfl (.cons rfl .nil))) (.nil : Sel [row (.slice (some ⟨b_29193, 0, none⟩) ([(⟨1, 0⟩ : Sapi_Span)].length) 1) 35 2 ([(⟨1, 0⟩ : Sapi_Span)].flatMap e35), row (.slice ao_29186 x_29181.1.length cap_29187) 3 1 (x_29181.1.flatMap e3), fz Zn_28917] [] [row (.slice (some ⟨b_29193, 0, none⟩) ([(⟨1, 0⟩ : Sapi_Span)].length) 1) 35 2 ([(⟨1, 0⟩ : Sapi_Span)].flatMap e35), row (.slice ao_29186 x_29181.1.length cap_29187) 3 1 (x_29181.1.flatMap e3), fz Zn_28917]) (fun w hw => by have pz := (hz.call2 hw (.nil : Sel [row (.slice (some ⟨b_29193, 0, none⟩) ([(⟨1, 0⟩ : Sapi_Span)].length) 1) 35 2 ([(⟨1, 0⟩ : Sapi_Span)].flatMap e35), row (.slice ao_29186 x_29181.1.length cap_29187) 3 1 (x_29181.1.flatMap e3), fz Zn_28917] [] [row (.slice (some ⟨b_29193, 0, none⟩) ([(⟨1, 0⟩ : Sapi_Span)].length) 1) 35 2 ([(⟨1, 0⟩ : Sapi_Span)].flatMap e35), row (.slice ao_29186 x_29181.1.length cap_29187) 3 1 (x_29181.1.flatMap e3), fz Zn_28917]) (.there (.there .here))).lend hw (.nil : Sel [row (.slice (some ⟨b_29193, 0, none⟩) ([(⟨1, 0⟩ : Sapi_Span)].length) 1) 35 2 ([(⟨1, 0⟩ : Sapi_Span)].flatMap e35), row (.slice ao_29186 x_29181.1.length cap_29187) 3 1 (x_29181.1.flatMap e3), fz Zn_28917] [] [row (.slice (some ⟨b_29193, 0, none⟩) ([(⟨1, 0⟩ : Sapi_Span)].length) 1) 35 2 ([(⟨1, 0⟩ : Sapi_Span)].flatMap e35), row (.slice ao_29186 x_29181.1.length cap_29187) 3 1 (x_29181.1.flatMap e3), fz Zn_28917]) (B := [row (.slice (some ⟨b_29193, 0, none⟩) ([(⟨1, 0⟩ : Sapi_Span)].length) 1) 35 2 ([(⟨1, 0⟩ : Sapi_Span)].flatMap e35)]) (fun _ hx' => ((.cons .here .nil) : Sel _ [row (.slice (some ⟨b_29193, 0, none⟩) ([(⟨1, 0⟩ : Sapi_Span)].length) 1) 35 2 ([(⟨1, 0⟩ : Sapi_Span)].flatMap e35)] _).mem hx'); exact w_clock_Meet (Z := _) (ao_1653 := (some ⟨b_29193, 0, none⟩)) (cap_1654 := 1) (l_1652 := [(⟨1, 0⟩ : Sapi_Span)]) (f_1656 := 0) (r := x_29190) w pz (ZA.row (hw.lent (.nil : Sel [row (.slice (some ⟨b_29193, 0, none⟩) ([(⟨1, 0⟩ : Sapi_Span)].length) 1) 35 2 ([(⟨1, 0⟩ : Sapi_Span)].flatMap e35), row (.slice ao_29186 x_29181.1.length cap_29187) 3 1 (x_29181.1.flatMap e3), fz Zn_28917] [] [row (.slice (some ⟨b_29193, 0, none⟩) ([(⟨1, 0⟩ : Sapi_Span)].length) 1) 35 2 ([(⟨1, 0⟩ : Sapi_Span)].flatMap e35), row (.slice ao_29186 x_29181.1.length cap_29187) 3 1 (x_29181.1.flatMap e3), fz Zn_28917]) (B := [row (.slice (some ⟨b_29193, 0, none⟩) ([(⟨1, 0⟩ : Sapi_Span)].length) 1) 35 2 ([(⟨1, 0⟩ : Sapi_Span)].flatMap e35)]) (fun _ hx' => ((.cons .here .nil) : Sel _ [row (.slice (some ⟨b_29193, 0, none⟩) ([(⟨1, 0⟩ : Sapi_Span)].length) 1) 35 2 ([(⟨1, 0⟩ : Sapi_Span)].flatMap e35)] _).mem hx') (.head _) _) (RR.flat (enc := e35) (fun _ => rfl) _) ⟨w, pz.1⟩) hx_29191) ?_
    refine WL.quiet (d := 110) rfl rfl rfl (q_move rfl) ?_
    refine WL.quiet (d := 114) rfl rfl rfl (q_extract rfl rfl) ?_
    refine WL.quiet (d := 115) rfl rfl rfl (q_extract rfl rfl) ?_
    refine WL.new (dd := 19) rfl rfl rfl (e_alloc (cs := [(.int .i64 0), (.int .i64 0)]) zeroT_35 rfl) ?_
    intro b_29194 _
    refine WL.eff0 rfl rfl (e_store (vs := [(.int .i64 x_29190.1.fLo), (.int .i64 x_29190.1.fHi)]) (ds := [(.int .i64 x_29190.1.fLo), (.int .i64 x_29190.1.fHi)]) sizT_35 rfl rfl rfl rfl (oc_cons rfl (oc_cons rfl oc_nil)) .here (Nat.le_of_ble_eq_true rfl) rfl) ?_
    refine WL.quiet (d := 20) rfl rfl rfl (q_assign rfl) ?_
    refine WL.nil ?_
    refine WX.then ?_
    refine WC.seq ?_
    obtain ⟨x_29196, hx_29197, h⟩ := bind_elim h
    refine WC.region ?_
    refine WL.quiet (d := 117) rfl rfl rfl (q_move rfl) ?_
    refine WL.quiet (d := 118) rfl rfl rfl (q_max rfl rfl rfl) ?_
    refine WL.quiet (d := 119) rfl rfl rfl (q_build (v := (.agg #[(.int .i64 0), (.int .i64 (max x_28045 1073741825))])) (Eos.parts (l := [.const (.int .i64 0), .tmp 118]) (.cons rfl (.cons rfl .nil)) [0, 1]) (fun _ => by kernel_rfl)) ?_
    refine WL.new (dd := 120) rfl rfl rfl (e_buildSlice (cs := [(⟨0, max x_28045 1073741825⟩ : Sapi_Span)].flatMap e35) elT_23 (Eos.parts (l := [.tmp 119]) (.cons rfl .nil) [0]) (fun _ => by kernel_rfl) rfl (by unfold maxLen; omega)) ?_
    intro b_29199 _
    refine WL.callD (dd := 121) rfl rfl rfl (run_call (l := [.tmp 120, .const (.int .i64 0)]) Try.call15 (.cons rfl (.cons rfl .nil))) (.nil : Sel [row (.slice (some ⟨b_29199, 0, none⟩) ([(⟨0, max x_28045 1073741825⟩ : Sapi_Span)].length) 1) 35 2 ([(⟨0, max x_28045 1073741825⟩ : Sapi_Span)].flatMap e35), stb b_29194 35 [(.int .i64 x_29190.1.fLo), (.int .i64 x_29190.1.fHi)], row (.slice (some ⟨b_29193, 0, none⟩) ([(⟨1, 0⟩ : Sapi_Span)].length) 1) 35 2 ([(⟨1, 0⟩ : Sapi_Span)].flatMap e35), row (.slice ao_29186 x_29181.1.length cap_29187) 3 1 (x_29181.1.flatMap e3), fz Zn_28917] [] [row (.slice (some ⟨b_29199, 0, none⟩) ([(⟨0, max x_28045 1073741825⟩ : Sapi_Span)].length) 1) 35 2 ([(⟨0, max x_28045 1073741825⟩ : Sapi_Span)].flatMap e35), stb b_29194 35 [(.int .i64 x_29190.1.fLo), (.int .i64 x_29190.1.fHi)], row (.slice (some ⟨b_29193, 0, none⟩) ([(⟨1, 0⟩ : Sapi_Span)].length) 1) 35 2 ([(⟨1, 0⟩ : Sapi_Span)].flatMap e35), row (.slice ao_29186 x_29181.1.length cap_29187) 3 1 (x_29181.1.flatMap e3), fz Zn_28917]) (fun w hw => by have pz := (hz.call2 hw (.nil : Sel [row (.slice (some ⟨b_29199, 0, none⟩) ([(⟨0, max x_28045 1073741825⟩ : Sapi_Span)].length) 1) 35 2 ([(⟨0, max x_28045 1073741825⟩ : Sapi_Span)].flatMap e35), stb b_29194 35 [(.int .i64 x_29190.1.fLo), (.int .i64 x_29190.1.fHi)], row (.slice (some ⟨b_29193, 0, none⟩) ([(⟨1, 0⟩ : Sapi_Span)].length) 1) 35 2 ([(⟨1, 0⟩ : Sapi_Span)].flatMap e35), row (.slice ao_29186 x_29181.1.length cap_29187) 3 1 (x_29181.1.flatMap e3), fz Zn_28917] [] [row (.slice (some ⟨b_29199, 0, none⟩) ([(⟨0, max x_28045 1073741825⟩ : Sapi_Span)].length) 1) 35 2 ([(⟨0, max x_28045 1073741825⟩ : Sapi_Span)].flatMap e35), stb b_29194 35 [(.int .i64 x_29190.1.fLo), (.int .i64 x_29190.1.fHi)], row (.slice (some ⟨b_29193, 0, none⟩) ([(⟨1, 0⟩ : Sapi_Span)].length) 1) 35 2 ([(⟨1, 0⟩ : Sapi_Span)].flatMap e35), row (.slice ao_29186 x_29181.1.length cap_29187) 3 1 (x_29181.1.flatMap e3), fz Zn_28917]) (.there (.there (.there (.there .here))))).lend hw (.nil : Sel [row (.slice (some ⟨b_29199, 0, none⟩) ([(⟨0, max x_28045 1073741825⟩ : Sapi_Span)].length) 1) 35 2 ([(⟨0, max x_28045 1073741825⟩ : Sapi_Span)].flatMap e35), stb b_29194 35 [(.int .i64 x_29190.1.fLo), (.int .i64 x_29190.1.fHi)], row (.slice (some ⟨b_29193, 0, none⟩) ([(⟨1, 0⟩ : Sapi_Span)].length) 1) 35 2 ([(⟨1, 0⟩ : Sapi_Span)].flatMap e35), row (.slice ao_29186 x_29181.1.length cap_29187) 3 1 (x_29181.1.flatMap e3), fz Zn_28917] [] [row (.slice (some ⟨b_29199, 0, none⟩) ([(⟨0, max x_28045 1073741825⟩ : Sapi_Span)].length) 1) 35 2 ([(⟨0, max x_28045 1073741825⟩ : Sapi_Span)].flatMap e35), stb b_29194 35 [(.int .i64 x_29190.1.fLo), (.int .i64 x_29190.1.fHi)], row (.slice (some ⟨b_29193, 0, none⟩) ([(⟨1, 0⟩ : Sapi_Span)].length) 1) 35 2 ([(⟨1, 0⟩ : Sapi_Span)].flatMap e35), row (.slice ao_29186 x_29181.1.length cap_29187) 3 1 (x_29181.1.flatMap e3), fz Zn_28917]) (B := [row (.slice (some ⟨b_29199, 0, none⟩) ([(⟨0, max x_28045 1073741825⟩ : Sapi_Span)].length) 1) 35 2 ([(⟨0, max x_28045 1073741825⟩ : Sapi_Span)].flatMap e35)]) (fun _ hx' => ((.cons .here .nil) : Sel _ [row (.slice (some ⟨b_29199, 0, none⟩) ([(⟨0, max x_28045 1073741825⟩ : Sapi_Span)].length) 1) 35 2 ([(⟨0, max x_28045 1073741825⟩ : Sapi_Span)].flatMap e35)] _).mem hx'); exact w_clock_Meet (Z := _) (ao_1653 := (some ⟨b_29199, 0, none⟩)) (cap_1654 := 1) (l_1652 := [(⟨0, max x_28045 1073741825⟩ : Sapi_Span)]) (f_1656 := 0) (r := x_29196) w pz (ZA.row (hw.lent (.nil : Sel [row (.slice (some ⟨b_29199, 0, none⟩) ([(⟨0, max x_28045 1073741825⟩ : Sapi_Span)].length) 1) 35 2 ([(⟨0, max x_28045 1073741825⟩ : Sapi_Span)].flatMap e35), stb b_29194 35 [(.int .i64 x_29190.1.fLo), (.int .i64 x_29190.1.fHi)], row (.slice (some ⟨b_29193, 0, none⟩) ([(⟨1, 0⟩ : Sapi_Span)].length) 1) 35 2 ([(⟨1, 0⟩ : Sapi_Span)].flatMap e35), row (.slice ao_29186 x_29181.1.length cap_29187) 3 1 (x_29181.1.flatMap e3), fz Zn_28917] [] [row (.slice (some ⟨b_29199, 0, none⟩) ([(⟨0, max x_28045 1073741825⟩ : Sapi_Span)].length) 1) 35 2 ([(⟨0, max x_28045 1073741825⟩ : Sapi_Span)].flatMap e35), stb b_29194 35 [(.int .i64 x_29190.1.fLo), (.int .i64 x_29190.1.fHi)], row (.slice (some ⟨b_29193, 0, none⟩) ([(⟨1, 0⟩ : Sapi_Span)].length) 1) 35 2 ([(⟨1, 0⟩ : Sapi_Span)].flatMap e35), row (.slice ao_29186 x_29181.1.length cap_29187) 3 1 (x_29181.1.flatMap e3), fz Zn_28917]) (B := [row (.slice (some ⟨b_29199, 0, none⟩) ([(⟨0, max x_28045 1073741825⟩ : Sapi_Span)].length) 1) 35 2 ([(⟨0, max x_28045 1073741825⟩ : Sapi_Span)].flatMap e35)]) (fun _ hx' => ((.cons .here .nil) : Sel _ [row (.slice (some ⟨b_29199, 0, none⟩) ([(⟨0, max x_28045 1073741825⟩ : Sapi_Span)].length) 1) 35 2 ([(⟨0, max x_28045 1073741825⟩ : Sapi_Span)].flatMap e35)] _).mem hx') (.head _) _) (RR.flat (enc := e35) (fun _ => rfl) _) ⟨w, pz.1⟩) hx_29197) ?_
    refine WL.quiet (d := 116) rfl rfl rfl (q_move rfl) ?_
    refine WL.quiet (d := 122) rfl rfl rfl (q_extract rfl rfl) ?_
    refine WL.quiet (d := 123) rfl rfl rfl (q_extract rfl rfl) ?_
    refine WL.new (dd := 21) rfl rfl rfl (e_alloc (cs := [(.int .i64 0), (.int .i64 0)]) zeroT_35 rfl) ?_
    intro b_29200 _
    refine WL.eff0 rfl rfl (e_store (vs := [(.int .i64 x_29196.1.fLo), (.int .i64 x_29196.1.fHi)]) (ds := [(.int .i64 x_29196.1.fLo), (.int .i64 x_29196.1.fHi)]) sizT_35 rfl rfl rfl rfl (oc_cons rfl (oc_cons rfl oc_nil)) .here (Nat.le_of_ble_eq_true rfl) rfl) ?_
    refine WL.quiet (d := 22) rfl rfl rfl (q_assign rfl) ?_
    refine WL.nil ?_
    refine WX.then ?_
    refine WC.seq ?_
    obtain ⟨x_29201, hx_29202, h⟩ := bind_elim h
    refine WC.region ?_
    refine WL.callD (dd := 125) rfl rfl rfl (run_call (l := [.const (.slice none 0 0), .const (.int .i64 0)]) Try.call15 (.cons rfl (.cons rfl .nil))) (.nil : Sel [stb b_29200 35 [(.int .i64 x_29196.1.fLo), (.int .i64 x_29196.1.fHi)], row (.slice (some ⟨b_29199, 0, none⟩) ([(⟨0, max x_28045 1073741825⟩ : Sapi_Span)].length) 1) 35 2 ([(⟨0, max x_28045 1073741825⟩ : Sapi_Span)].flatMap e35), stb b_29194 35 [(.int .i64 x_29190.1.fLo), (.int .i64 x_29190.1.fHi)], row (.slice (some ⟨b_29193, 0, none⟩) ([(⟨1, 0⟩ : Sapi_Span)].length) 1) 35 2 ([(⟨1, 0⟩ : Sapi_Span)].flatMap e35), row (.slice ao_29186 x_29181.1.length cap_29187) 3 1 (x_29181.1.flatMap e3), fz Zn_28917] [] [stb b_29200 35 [(.int .i64 x_29196.1.fLo), (.int .i64 x_29196.1.fHi)], row (.slice (some ⟨b_29199, 0, none⟩) ([(⟨0, max x_28045 1073741825⟩ : Sapi_Span)].length) 1) 35 2 ([(⟨0, max x_28045 1073741825⟩ : Sapi_Span)].flatMap e35), stb b_29194 35 [(.int .i64 x_29190.1.fLo), (.int .i64 x_29190.1.fHi)], row (.slice (some ⟨b_29193, 0, none⟩) ([(⟨1, 0⟩ : Sapi_Span)].length) 1) 35 2 ([(⟨1, 0⟩ : Sapi_Span)].flatMap e35), row (.slice ao_29186 x_29181.1.length cap_29187) 3 1 (x_29181.1.flatMap e3), fz Zn_28917]) (fun w hw => by have pz := (hz.call2 hw (.nil : Sel [stb b_29200 35 [(.int .i64 x_29196.1.fLo), (.int .i64 x_29196.1.fHi)], row (.slice (some ⟨b_29199, 0, none⟩) ([(⟨0, max x_28045 1073741825⟩ : Sapi_Span)].length) 1) 35 2 ([(⟨0, max x_28045 1073741825⟩ : Sapi_Span)].flatMap e35), stb b_29194 35 [(.int .i64 x_29190.1.fLo), (.int .i64 x_29190.1.fHi)], row (.slice (some ⟨b_29193, 0, none⟩) ([(⟨1, 0⟩ : Sapi_Span)].length) 1) 35 2 ([(⟨1, 0⟩ : Sapi_Span)].flatMap e35), row (.slice ao_29186 x_29181.1.length cap_29187) 3 1 (x_29181.1.flatMap e3), fz Zn_28917] [] [stb b_29200 35 [(.int .i64 x_29196.1.fLo), (.int .i64 x_29196.1.fHi)], row (.slice (some ⟨b_29199, 0, none⟩) ([(⟨0, max x_28045 1073741825⟩ : Sapi_Span)].length) 1) 35 2 ([(⟨0, max x_28045 1073741825⟩ : Sapi_Span)].flatMap e35), stb b_29194 35 [(.int .i64 x_29190.1.fLo), (.int .i64 x_29190.1.fHi)], row (.slice (some ⟨b_29193, 0, none⟩) ([(⟨1, 0⟩ : Sapi_Span)].length) 1) 35 2 ([(⟨1, 0⟩ : Sapi_Span)].flatMap e35), row (.slice ao_29186 x_29181.1.length cap_29187) 3 1 (x_29181.1.flatMap e3), fz Zn_28917]) (.there (.there (.there (.there (.there .here)))))); exact w_clock_Meet (Z := _) (ao_1653 := none) (cap_1654 := 0) (l_1652 := []) (f_1656 := 0) (r := x_29201) w pz (ZS.nil _ _ _) hx_29202) ?_
    refine WL.quiet (d := 124) rfl rfl rfl (q_move rfl) ?_
    refine WL.quiet (d := 126) rfl rfl rfl (q_extract rfl rfl) ?_
    refine WL.quiet (d := 127) rfl rfl rfl (q_extract rfl rfl) ?_
    refine WL.new (dd := 23) rfl rfl rfl (e_alloc (cs := [(.int .i64 0), (.int .i64 0)]) zeroT_35 rfl) ?_
    intro b_29204 _
    refine WL.eff0 rfl rfl (e_store (vs := [(.int .i64 x_29201.1.fLo), (.int .i64 x_29201.1.fHi)]) (ds := [(.int .i64 x_29201.1.fLo), (.int .i64 x_29201.1.fHi)]) sizT_35 rfl rfl rfl rfl (oc_cons rfl (oc_cons rfl oc_nil)) .here (Nat.le_of_ble_eq_true rfl) rfl) ?_
    refine WL.quiet (d := 24) rfl rfl rfl (q_assign rfl) ?_
    refine WL.nil ?_
    refine WX.then ?_
    refine WC.seq ?_
    obtain ⟨b_29207, hb_29208, h⟩ := bind_elim h
    refine WC.region ?_
    refine WL.quiet (d := 128) rfl rfl rfl (q_move rfl) ?_
    refine WL.quiet (d := 129) rfl rfl rfl (q_eql rfl rfl) ?_
    refine WL.quiet (d := 130) rfl rfl rfl (q_move rfl) ?_
    refine WL.cut0 True [(22, (.int .i64 x_29196.2)), (24, (.int .i64 x_29201.2)), (133, (.bool ((decide (x_29181.2 = 2)) && (decide (x_29190.2 = 2)))))] [stb b_29204 35 [(.int .i64 x_29201.1.fLo), (.int .i64 x_29201.1.fHi)], stb b_29200 35 [(.int .i64 x_29196.1.fLo), (.int .i64 x_29196.1.fHi)], row (.slice (some ⟨b_29199, 0, none⟩) ([(⟨0, max x_28045 1073741825⟩ : Sapi_Span)].length) 1) 35 2 ([(⟨0, max x_28045 1073741825⟩ : Sapi_Span)].flatMap e35), stb b_29194 35 [(.int .i64 x_29190.1.fLo), (.int .i64 x_29190.1.fHi)], row (.slice (some ⟨b_29193, 0, none⟩) ([(⟨1, 0⟩ : Sapi_Span)].length) 1) 35 2 ([(⟨1, 0⟩ : Sapi_Span)].flatMap e35), row (.slice ao_29186 x_29181.1.length cap_29187) 3 1 (x_29181.1.flatMap e3), fz Zn_28917] 3 ?_ (fun _ => ?_)
    · rcases Bool.eq_false_or_eq_true (decide (x_29181.2 = 2)) with hb' | hb'
      · have hg_29209 := hb'; clear hb'
        refine WL.pin (i := 130) rfl hg_29209 ?_
        refine WL.quiet (d := 131) rfl rfl rfl (q_move rfl) ?_
        refine WL.quiet (d := 132) rfl rfl rfl (q_eql rfl rfl) ?_
        refine WL.quiet (d := 133) rfl rfl rfl (q_pickT rfl rfl) ?_
        exact WL.cutEnd () trivial (.cons rfl (.cons rfl (.cons (some_bool (and_r hg_29209)) .nil))) (.cons .here (.cons .here (.cons .here (.cons .here (.cons .here (.cons .here (.cons .here .nil)))))))
      · have hg_29210 := hb'; clear hb'
        refine WL.pin (i := 130) rfl hg_29210 ?_
        refine WL.skip rfl rfl rfl ?_
        refine WL.skip rfl rfl rfl ?_
        refine WL.quiet (d := 133) rfl rfl rfl (q_pickF rfl rfl) ?_
        exact WL.cutEnd () trivial (.cons rfl (.cons rfl (.cons (some_bool (and_l hg_29210)) .nil))) (.cons .here (.cons .here (.cons .here (.cons .here (.cons .here (.cons .here (.cons .here .nil)))))))
    · skip
      refine WL.quiet (d := 134) rfl rfl rfl (q_move rfl) ?_
      refine WL.cut0 True [(24, (.int .i64 x_29201.2)), (137, (.bool (((decide (x_29181.2 = 2)) && (decide (x_29190.2 = 2))) && (decide (x_29196.2 = 2)))))] [stb b_29204 35 [(.int .i64 x_29201.1.fLo), (.int .i64 x_29201.1.fHi)], stb b_29200 35 [(.int .i64 x_29196.1.fLo), (.int .i64 x_29196.1.fHi)], row (.slice (some ⟨b_29199, 0, none⟩) ([(⟨0, max x_28045 1073741825⟩ : Sapi_Span)].length) 1) 35 2 ([(⟨0, max x_28045 1073741825⟩ : Sapi_Span)].flatMap e35), stb b_29194 35 [(.int .i64 x_29190.1.fLo), (.int .i64 x_29190.1.fHi)], row (.slice (some ⟨b_29193, 0, none⟩) ([(⟨1, 0⟩ : Sapi_Span)].length) 1) 35 2 ([(⟨1, 0⟩ : Sapi_Span)].flatMap e35), row (.slice ao_29186 x_29181.1.length cap_29187) 3 1 (x_29181.1.flatMap e3), fz Zn_28917] 3 ?_ (fun _ => ?_)
      · rcases Bool.eq_false_or_eq_true ((decide (x_29181.2 = 2)) && (decide (x_29190.2 = 2))) with hb' | hb'
        · have hg_29211 := hb'; clear hb'
          refine WL.pin (i := 134) rfl hg_29211 ?_
          refine WL.quiet (d := 135) rfl rfl rfl (q_move rfl) ?_
          refine WL.quiet (d := 136) rfl rfl rfl (q_eql rfl rfl) ?_
          refine WL.quiet (d := 137) rfl rfl rfl (q_pickT rfl rfl) ?_
          exact WL.cutEnd () trivial (.cons rfl (.cons (some_bool (and_r hg_29211)) .nil)) (.cons .here (.cons .here (.cons .here (.cons .here (.cons .here (.cons .here (.cons .here .nil)))))))
        · have hg_29212 := hb'; clear hb'
          refine WL.pin (i := 134) rfl hg_29212 ?_
          refine WL.skip rfl rfl rfl ?_
          refine WL.skip rfl rfl rfl ?_
          refine WL.quiet (d := 137) rfl rfl rfl (q_pickF rfl rfl) ?_
          exact WL.cutEnd () trivial (.cons rfl (.cons (some_bool (and_l hg_29212)) .nil)) (.cons .here (.cons .here (.cons .here (.cons .here (.cons .here (.cons .here (.cons .here .nil)))))))
      · skip
        refine WL.quiet (d := 138) rfl rfl rfl (q_move rfl) ?_
        refine WL.cut0 True [(141, (.bool ((((decide (x_29181.2 = 2)) && (decide (x_29190.2 = 2))) && (decide (x_29196.2 = 2))) && (decide (x_29201.2 = 2)))))] [stb b_29204 35 [(.int .i64 x_29201.1.fLo), (.int .i64 x_29201.1.fHi)], stb b_29200 35 [(.int .i64 x_29196.1.fLo), (.int .i64 x_29196.1.fHi)], row (.slice (some ⟨b_29199, 0, none⟩) ([(⟨0, max x_28045 1073741825⟩ : Sapi_Span)].length) 1) 35 2 ([(⟨0, max x_28045 1073741825⟩ : Sapi_Span)].flatMap e35), stb b_29194 35 [(.int .i64 x_29190.1.fLo), (.int .i64 x_29190.1.fHi)], row (.slice (some ⟨b_29193, 0, none⟩) ([(⟨1, 0⟩ : Sapi_Span)].length) 1) 35 2 ([(⟨1, 0⟩ : Sapi_Span)].flatMap e35), row (.slice ao_29186 x_29181.1.length cap_29187) 3 1 (x_29181.1.flatMap e3), fz Zn_28917] 3 ?_ (fun _ => ?_)
        · rcases Bool.eq_false_or_eq_true (((decide (x_29181.2 = 2)) && (decide (x_29190.2 = 2))) && (decide (x_29196.2 = 2))) with hb' | hb'
          · have hg_29213 := hb'; clear hb'
            refine WL.pin (i := 138) rfl hg_29213 ?_
            refine WL.quiet (d := 139) rfl rfl rfl (q_move rfl) ?_
            refine WL.quiet (d := 140) rfl rfl rfl (q_eql rfl rfl) ?_
            refine WL.quiet (d := 141) rfl rfl rfl (q_pickT rfl rfl) ?_
            exact WL.cutEnd () trivial (.cons (some_bool (and_r hg_29213)) .nil) (.cons .here (.cons .here (.cons .here (.cons .here (.cons .here (.cons .here (.cons .here .nil)))))))
          · have hg_29214 := hb'; clear hb'
            refine WL.pin (i := 138) rfl hg_29214 ?_
            refine WL.skip rfl rfl rfl ?_
            refine WL.skip rfl rfl rfl ?_
            refine WL.quiet (d := 141) rfl rfl rfl (q_pickF rfl rfl) ?_
            exact WL.cutEnd () trivial (.cons (some_bool (and_l hg_29214)) .nil) (.cons .here (.cons .here (.cons .here (.cons .here (.cons .here (.cons .here (.cons .here .nil)))))))
        · skip
          refine WL.quiet (d := 142) rfl rfl rfl (q_move rfl) ?_
          refine WL.cut0 True [(144, (.bool b_29207))] [stb b_29204 35 [(.int .i64 x_29201.1.fLo), (.int .i64 x_29201.1.fHi)], stb b_29200 35 [(.int .i64 x_29196.1.fLo), (.int .i64 x_29196.1.fHi)], row (.slice (some ⟨b_29199, 0, none⟩) ([(⟨0, max x_28045 1073741825⟩ : Sapi_Span)].length) 1) 35 2 ([(⟨0, max x_28045 1073741825⟩ : Sapi_Span)].flatMap e35), stb b_29194 35 [(.int .i64 x_29190.1.fLo), (.int .i64 x_29190.1.fHi)], row (.slice (some ⟨b_29193, 0, none⟩) ([(⟨1, 0⟩ : Sapi_Span)].length) 1) 35 2 ([(⟨1, 0⟩ : Sapi_Span)].flatMap e35), row (.slice ao_29186 x_29181.1.length cap_29187) 3 1 (x_29181.1.flatMap e3), fz Zn_28917] 2 ?_ (fun _ => ?_)
          · rcases Bool.eq_false_or_eq_true ((((decide (x_29181.2 = 2)) && (decide (x_29190.2 = 2))) && (decide (x_29196.2 = 2))) && (decide (x_29201.2 = 2))) with hb' | hb'
            · have hg_29215 := hb'; clear hb'
              have hq_29216 := ite_t hb_29208 hg_29215
              obtain ⟨x_29205, hx_29206, hq_29216⟩ := bind_elim hq_29216
              replace hq_29216 := Option.some.inj hq_29216
              refine WL.pin (i := 142) rfl hg_29215 ?_
              refine WL.callD (dd := 143) rfl rfl rfl (run_call (l := []) Try.call10 .nil) (.nil : Sel [stb b_29204 35 [(.int .i64 x_29201.1.fLo), (.int .i64 x_29201.1.fHi)], stb b_29200 35 [(.int .i64 x_29196.1.fLo), (.int .i64 x_29196.1.fHi)], row (.slice (some ⟨b_29199, 0, none⟩) ([(⟨0, max x_28045 1073741825⟩ : Sapi_Span)].length) 1) 35 2 ([(⟨0, max x_28045 1073741825⟩ : Sapi_Span)].flatMap e35), stb b_29194 35 [(.int .i64 x_29190.1.fLo), (.int .i64 x_29190.1.fHi)], row (.slice (some ⟨b_29193, 0, none⟩) ([(⟨1, 0⟩ : Sapi_Span)].length) 1) 35 2 ([(⟨1, 0⟩ : Sapi_Span)].flatMap e35), row (.slice ao_29186 x_29181.1.length cap_29187) 3 1 (x_29181.1.flatMap e3), fz Zn_28917] [] [stb b_29204 35 [(.int .i64 x_29201.1.fLo), (.int .i64 x_29201.1.fHi)], stb b_29200 35 [(.int .i64 x_29196.1.fLo), (.int .i64 x_29196.1.fHi)], row (.slice (some ⟨b_29199, 0, none⟩) ([(⟨0, max x_28045 1073741825⟩ : Sapi_Span)].length) 1) 35 2 ([(⟨0, max x_28045 1073741825⟩ : Sapi_Span)].flatMap e35), stb b_29194 35 [(.int .i64 x_29190.1.fLo), (.int .i64 x_29190.1.fHi)], row (.slice (some ⟨b_29193, 0, none⟩) ([(⟨1, 0⟩ : Sapi_Span)].length) 1) 35 2 ([(⟨1, 0⟩ : Sapi_Span)].flatMap e35), row (.slice ao_29186 x_29181.1.length cap_29187) 3 1 (x_29181.1.flatMap e3), fz Zn_28917]) (fun w hw => by have pz := (hz.call2 hw (.nil : Sel [stb b_29204 35 [(.int .i64 x_29201.1.fLo), (.int .i64 x_29201.1.fHi)], stb b_29200 35 [(.int .i64 x_29196.1.fLo), (.int .i64 x_29196.1.fHi)], row (.slice (some ⟨b_29199, 0, none⟩) ([(⟨0, max x_28045 1073741825⟩ : Sapi_Span)].length) 1) 35 2 ([(⟨0, max x_28045 1073741825⟩ : Sapi_Span)].flatMap e35), stb b_29194 35 [(.int .i64 x_29190.1.fLo), (.int .i64 x_29190.1.fHi)], row (.slice (some ⟨b_29193, 0, none⟩) ([(⟨1, 0⟩ : Sapi_Span)].length) 1) 35 2 ([(⟨1, 0⟩ : Sapi_Span)].flatMap e35), row (.slice ao_29186 x_29181.1.length cap_29187) 3 1 (x_29181.1.flatMap e3), fz Zn_28917] [] [stb b_29204 35 [(.int .i64 x_29201.1.fLo), (.int .i64 x_29201.1.fHi)], stb b_29200 35 [(.int .i64 x_29196.1.fLo), (.int .i64 x_29196.1.fHi)], row (.slice (some ⟨b_29199, 0, none⟩) ([(⟨0, max x_28045 1073741825⟩ : Sapi_Span)].length) 1) 35 2 ([(⟨0, max x_28045 1073741825⟩ : Sapi_Span)].flatMap e35), stb b_29194 35 [(.int .i64 x_29190.1.fLo), (.int .i64 x_29190.1.fHi)], row (.slice (some ⟨b_29193, 0, none⟩) ([(⟨1, 0⟩ : Sapi_Span)].length) 1) 35 2 ([(⟨1, 0⟩ : Sapi_Span)].flatMap e35), row (.slice ao_29186 x_29181.1.length cap_29187) 3 1 (x_29181.1.flatMap e3), fz Zn_28917]) (.there (.there (.there (.there (.there (.there .here))))))); exact w_law33_awake (Z := _)   (r := x_29205) w pz  hx_29206) ?_
              refine WL.quiet (d := 144) rfl rfl rfl (q_pickT rfl rfl) ?_
              exact WL.cutEnd () trivial (.cons (some_bool hq_29216) .nil) (.cons .here (.cons .here (.cons .here (.cons .here (.cons .here (.cons .here (.cons .here .nil)))))))
            · have hg_29217 := hb'; clear hb'
              have hq_29218 := ite_f hb_29208 hg_29217
              replace hq_29218 := Option.some.inj hq_29218
              refine WL.pin (i := 142) rfl hg_29217 ?_
              refine WL.skip rfl rfl rfl ?_
              refine WL.quiet (d := 144) rfl rfl rfl (q_pickF rfl rfl) ?_
              exact WL.cutEnd () trivial (.cons (some_bool hq_29218) .nil) (.cons .here (.cons .here (.cons .here (.cons .here (.cons .here (.cons .here (.cons .here .nil)))))))
          · skip
            refine WL.quiet (d := 6) rfl rfl rfl (q_assign rfl) ?_
            refine WL.nil ?_
            refine WX.then ?_
            refine WC.ret ?_
            obtain rfl := Option.some.inj h
            refine WX.bpRet Try.results9 (.tmp rfl .nil) (fun w hw => ?_)
            exact ⟨Zn_28917, ret1 rfl, trivial, hw.sub (.cons (.there (.there (.there (.there (.there (.there .here)))))) .nil)⟩
end Go.Proofs.Ytkhiiafgikioiaa
