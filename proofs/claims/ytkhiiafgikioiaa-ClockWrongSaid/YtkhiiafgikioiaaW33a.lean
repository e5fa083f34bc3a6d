/- A part of this claim's proof: models of the functions that the law reaches, with the proof that the functions compute them; plain laws about the models. No conditions beyond those in each theorem's statement. -/
import Derived.Test.YtkhiiafgikioiaaZSort
import Derived.Test.YtkhiiafgikioiaaShelf33
import Derived.Test.YtkhiiafgikioiaaProg
namespace Go.Proofs.Ytkhiiafgikioiaa
open Go Go.RowKit Sep
set_option linter.all false
def e3 (x : Int) : List Value := [(.int .i64 x)]
theorem e3_oc : ∀ x, ∀ u ∈ e3 x, u.oneCell' = true := fun _ => (oc_cons rfl oc_nil)
structure Sapi_Span where
  fLo : Int
  fHi : Int
  deriving Inhabited, DecidableEq
def e35 (x : Sapi_Span) : List Value := [(.int .i64 x.fLo), (.int .i64 x.fHi)]
theorem e35_oc : ∀ x, ∀ u ∈ e35 x, u.oneCell' = true := fun _ => (oc_cons rfl (oc_cons rfl oc_nil))
structure S7 where
  fX : Int
  fY : Int
  fSigned : Bool
  fCode : Int
  deriving Inhabited, DecidableEq
structure S13 where
  fMsg : ByteArray
  fAddr : Int
  deriving Inhabited, DecidableEq
def e45 (x : Int) : List Value := [(.int .i16 x)]
theorem e45_oc : ∀ x, ∀ u ∈ e45 x, u.oneCell' = true := fun _ => (oc_cons rfl oc_nil)
structure S52 where
  fL : List Int
  fF : Int
  deriving Inhabited, DecidableEq
def p52 (Z : Zp) (r : List Value) (x : S52) : Prop := ∃ (ao0 : Option Addr) (cap0 : Nat), r = [(.slice ao0 x.fL.length cap0), (.int .i64 x.fF)] ∧ ZS Z 1 (fun r x => r = e3 x) ao0 cap0 x.fL
theorem p52_mono {Z Z' : Zp} (k : Zle Z Z') {r : List Value} {x : S52} (h : p52 Z r x) : p52 Z' r x := by
  obtain ⟨ao0, cap0, hr, h0⟩ := h
  exact ⟨ao0, cap0, hr, h0.mono k⟩
theorem p52_len {Z : Zp} {r : List Value} {x : S52} (h : p52 Z r x) : r.length = 2 := by
  obtain ⟨ao0, cap0, hr, h0⟩ := h
  rw [hr]; rfl
theorem elT_22 : elT Try.prog 22 3 1 8 := ⟨Try.underlying22, ⟨Try.t3, _, rfl, rfl, rfl, rfl, rfl⟩, by decide⟩
theorem oneT_3 : oneT Try.prog 3 := oneT_of Try.underlying3 rfl
theorem elT_23 : elT Try.prog 23 35 2 16 := ⟨Try.underlying23, ⟨Try.t35, _, rfl, rfl, rfl, rfl, rfl⟩, by decide⟩
theorem zeroT_35 : zeroT Try.prog 35 (.agg #[(.int .i64 0), (.int .i64 0)]) := zeroT_of (i := Try.t35) rfl rfl
theorem oneT_23 : oneT Try.prog 23 := oneT_of Try.underlying23 rfl
theorem fo_35_0 : fieldOff Try.prog 35 0 0 := fieldOff_of (i := Try.t3) Try.underlying35 rfl rfl (by decide) rfl
theorem fo_35_1 : fieldOff Try.prog 35 1 1 := fieldOff_of (i := Try.t3) Try.underlying35 rfl rfl (by decide) rfl
theorem aggT_35 : aggT Try.prog 35 2 := aggT_of (i := Try.t35) Try.underlying35 rfl rfl
theorem sizT_35 : sizT Try.prog 35 2 := sizT_of (i := Try.t35) rfl
theorem zeroT_57 : zeroT Try.prog 57 .nilFunc := zeroT_of (i := Try.t57) rfl rfl
theorem sizT_57 : sizT Try.prog 57 1 := sizT_of (i := Try.t57) rfl
theorem oneT_57 : oneT Try.prog 57 := oneT_of Try.underlying57 rfl
theorem sizT_3 : sizT Try.prog 3 1 := sizT_of (i := Try.t3) rfl
theorem zeroT_3 : zeroT Try.prog 3 (.int .i64 0) := zeroT_of (i := Try.t3) rfl rfl
theorem eqT_35 : EqT Try.prog 35 e35 := ⟨fun u v w => by
  have i35_10000 := fun (w : World) (a b : Array Value) => run_equalIn_agg (P := Try.prog) w 9999 35 a b (by simp [Program.fieldsOf, Try.underlying35]) (by kernel_rfl)
  have i3_9999 := fun (w : World) (a b : Int) => run_equalIn_int (P := Try.prog) w 9998 3 .i64 .i64 a b Try.underlying3
  rw [i35_10000]
  simp [Program.fieldsOf, Op.eqFields, part, e35, i35_10000, Try.underlying35, i3_9999]
  rcases u with ⟨u1, u2⟩
  rcases v with ⟨v1, v2⟩
  by_cases h1 : u1 = v1 <;> by_cases h2 : u2 = v2 <;> simp [h1, h2], by kernel_rfl⟩
theorem elT_42 : elT Try.prog 42 45 1 2 := ⟨Try.underlying42, ⟨Try.t45, _, rfl, rfl, rfl, rfl, rfl⟩, by decide⟩
theorem oneT_45 : oneT Try.prog 45 := oneT_of Try.underlying45 rfl
theorem zeroT_23 : zeroT Try.prog 23 (.slice none 0 0) := zeroT_of (i := Try.t23) rfl rfl
theorem sizT_23 : sizT Try.prog 23 1 := sizT_of (i := Try.t23) rfl
theorem elT_53 : elT Try.prog 53 52 2 32 := ⟨Try.underlying53, ⟨Try.t52, _, rfl, rfl, rfl, rfl, rfl⟩, by decide⟩
theorem aggT_52 : aggT Try.prog 52 2 := aggT_of (i := Try.t52) Try.underlying52 rfl rfl
theorem zeroT_52 : zeroT Try.prog 52 (.agg #[(.slice none 0 0), (.int .i64 0)]) := zeroT_of (i := Try.t52) rfl rfl
theorem sizT_52 : sizT Try.prog 52 2 := sizT_of (i := Try.t52) rfl
theorem fo_52_0 : fieldOff Try.prog 52 0 0 := fieldOff_of (i := Try.t22) Try.underlying52 rfl rfl (by decide) rfl
theorem oneT_22 : oneT Try.prog 22 := oneT_of Try.underlying22 rfl
theorem fo_52_1 : fieldOff Try.prog 52 1 1 := fieldOff_of (i := Try.t3) Try.underlying52 rfl rfl (by decide) rfl
def m_slices_Sort (l : List Int) : Option (List Int) := chk (0 < l.length ∧ l.length < 4611686018427387904) (some (isort l))
theorem w_slices_Sort (Z : Zp) (ao : Option Addr) (cap : Nat) (l : List Int) (r : List Int) (w₀ : World) (hz : PZ (fps [row (.slice ao l.length cap) 3 1 (l.flatMap e3)]) w₀ Z)
    (h : m_slices_Sort l = some r) (hown : Hp (fps [row (.slice ao l.length cap) 3 1 (l.flatMap e3)]) w₀ w₀ [row (.slice ao l.length cap) 3 1 (l.flatMap e3)]) :
    Calls Try.prog 40 #[.slice ao l.length cap] w₀ fun e w' => e = .returned (.tuple #[]) ∧ (r.length = l.length) ∧ Hp (fps [row (.slice ao l.length cap) 3 1 (l.flatMap e3)]) w₀ w' [row (.slice ao r.length cap) 3 1 (r.flatMap e3)] := by
  obtain ⟨h0, h⟩ := chk_elim h
  exact sort_int (fun _ => rfl) Try.slices_Sort_int ao cap l r w₀ h0 ((Option.some.inj h).symm.trans (mergeSort_eq l).symm) hown


/-- clock.fits -/
def m_clock_fits (n_21 : Int) (f_22 : Int) : Option Bool :=
  some ((((decide (n_21 ≥ 1)) && (decide (n_21 ≤ 16))) && (decide (f_22 ≥ 0))) && (decide (f_22 ≤ (i64 (Int.tdiv (i64 (n_21 - 1)) 2)))))

set_option maxRecDepth 20000 in
theorem w_clock_fits (Z : Zp)  (n_21 : Int) (f_22 : Int) (r : Bool) (w₀ : World) (hz : PZ [] w₀ Z)
    (h : m_clock_fits n_21 f_22 = some r) :
    Calls Try.prog 20 #[(.int .i64 n_21), (.int .i64 f_22)] w₀ fun e w' => e = .returned (.bool r) ∧ Hp [] w₀ w' [] := by
  unfold m_clock_fits at h
  refine Calls.ofWC (vs := [(.int .i64 n_21), (.int .i64 f_22)]) (pre := []) (env := [(0, (.int .i64 n_21)), (1, (.int .i64 f_22))]) Try.func20 rfl Try.ntmps20 rfl (Hp.nil w₀ _) rfl ?_
  refine WC.seq ?_
  refine WC.region ?_
  refine WL.quiet (d := 4) rfl rfl rfl (q_assign rfl) ?_
  refine WL.nil ?_
  refine WX.then ?_
  refine WC.seq ?_
  refine WC.region ?_
  refine WL.quiet (d := 5) rfl rfl rfl (q_move rfl) ?_
  refine WL.quiet (d := 6) rfl rfl rfl (q_geq rfl rfl) ?_
  refine WL.quiet (d := 7) rfl rfl rfl (q_move rfl) ?_
  refine WL.cut0 True [(0, (.int .i64 n_21)), (1, (.int .i64 f_22)), (4, (.bool false)), (10, (.bool ((decide (n_21 ≥ 1)) && (decide (n_21 ≤ 16)))))] [] 3 ?_ (fun _ => ?_)
  · rcases Bool.eq_false_or_eq_true (decide (n_21 ≥ 1)) with hb' | hb'
    · have hg_30 := hb'; clear hb'
      refine WL.pin (i := 7) rfl hg_30 ?_
      refine WL.quiet (d := 8) rfl rfl rfl (q_move rfl) ?_
      refine WL.quiet (d := 9) rfl rfl rfl (q_leq rfl rfl) ?_
      refine WL.quiet (d := 10) rfl rfl rfl (q_pickT rfl rfl) ?_
      exact WL.cutEnd () trivial (.cons rfl (.cons rfl (.cons rfl (.cons (some_bool (and_r hg_30)) .nil)))) .nil
    · have hg_31 := hb'; clear hb'
      refine WL.pin (i := 7) rfl hg_31 ?_
      refine WL.skip rfl rfl rfl ?_
      refine WL.skip rfl rfl rfl ?_
      refine WL.quiet (d := 10) rfl rfl rfl (q_pickF rfl rfl) ?_
      exact WL.cutEnd () trivial (.cons rfl (.cons rfl (.cons rfl (.cons (some_bool (and_l hg_31)) .nil)))) .nil
  · skip
    refine WL.quiet (d := 11) rfl rfl rfl (q_move rfl) ?_
    refine WL.cut0 True [(0, (.int .i64 n_21)), (1, (.int .i64 f_22)), (4, (.bool false)), (14, (.bool (((decide (n_21 ≥ 1)) && (decide (n_21 ≤ 16))) && (decide (f_22 ≥ 0)))))] [] 3 ?_ (fun _ => ?_)
    · rcases Bool.eq_false_or_eq_true ((decide (n_21 ≥ 1)) && (decide (n_21 ≤ 16))) with hb' | hb'
      · have hg_32 := hb'; clear hb'
        refine WL.pin (i := 11) rfl hg_32 ?_
        refine WL.quiet (d := 12) rfl rfl rfl (q_move rfl) ?_
        refine WL.quiet (d := 13) rfl rfl rfl (q_geq rfl rfl) ?_
        refine WL.quiet (d := 14) rfl rfl rfl (q_pickT rfl rfl) ?_
        exact WL.cutEnd () trivial (.cons rfl (.cons rfl (.cons rfl (.cons (some_bool (and_r hg_32)) .nil)))) .nil
      · have hg_33 := hb'; clear hb'
        refine WL.pin (i := 11) rfl hg_33 ?_
        refine WL.skip rfl rfl rfl ?_
        refine WL.skip rfl rfl rfl ?_
        refine WL.quiet (d := 14) rfl rfl rfl (q_pickF rfl rfl) ?_
        exact WL.cutEnd () trivial (.cons rfl (.cons rfl (.cons rfl (.cons (some_bool (and_l hg_33)) .nil)))) .nil
    · skip
      refine WL.quiet (d := 15) rfl rfl rfl (q_move rfl) ?_
      refine WL.cut0 True [(4, (.bool false)), (21, (.bool ((((decide (n_21 ≥ 1)) && (decide (n_21 ≤ 16))) && (decide (f_22 ≥ 0))) && (decide (f_22 ≤ (i64 (Int.tdiv (i64 (n_21 - 1)) 2)))))))] [] 6 ?_ (fun _ => ?_)
      · rcases Bool.eq_false_or_eq_true (((decide (n_21 ≥ 1)) && (decide (n_21 ≤ 16))) && (decide (f_22 ≥ 0))) with hb' | hb'
        · have hg_34 := hb'; clear hb'
          refine WL.pin (i := 15) rfl hg_34 ?_
          refine WL.quiet (d := 16) rfl rfl rfl (q_move rfl) ?_
          refine WL.quiet (d := 17) rfl rfl rfl (q_move rfl) ?_
          refine WL.quiet (d := 18) rfl rfl rfl (q_sub rfl rfl rfl) ?_
          refine WL.quiet (d := 19) rfl rfl rfl (q_quo rfl rfl (by decide) rfl) ?_
          refine WL.quiet (d := 20) rfl rfl rfl (q_leq rfl rfl) ?_
          refine WL.quiet (d := 21) rfl rfl rfl (q_pickT rfl rfl) ?_
          exact WL.cutEnd () trivial (.cons rfl (.cons (some_bool (and_r hg_34)) .nil)) .nil
        · have hg_35 := hb'; clear hb'
          refine WL.pin (i := 15) rfl hg_35 ?_
          refine WL.skip rfl rfl rfl ?_
          refine WL.skip rfl rfl rfl ?_
          refine WL.skip rfl rfl rfl ?_
          refine WL.skip rfl rfl rfl ?_
          refine WL.skip rfl rfl rfl ?_
          refine WL.quiet (d := 21) rfl rfl rfl (q_pickF rfl rfl) ?_
          exact WL.cutEnd () trivial (.cons rfl (.cons (some_bool (and_l hg_35)) .nil)) .nil
      · skip
        refine WL.quiet (d := 4) rfl rfl rfl (q_assign rfl) ?_
        refine WL.nil ?_
        refine WX.then ?_
        refine WC.ret ?_
        obtain rfl := Option.some.inj h
        refine WX.bpRet Try.results20 (.tmp rfl .nil) (fun w hw => ?_)
        exact ⟨ret1 rfl, hw.sub .nil⟩
/-- clock.in -/
def m_clock_in (t_39 : Int) : Option Bool :=
  some ((decide (t_39 ≥ (-1073741824))) && (decide (t_39 ≤ 1073741824)))

set_option maxRecDepth 20000 in
theorem w_clock_in (Z : Zp)  (t_39 : Int) (r : Bool) (w₀ : World) (hz : PZ [] w₀ Z)
    (h : m_clock_in t_39 = some r) :
    Calls Try.prog 23 #[(.int .i64 t_39)] w₀ fun e w' => e = .returned (.bool r) ∧ Hp [] w₀ w' [] := by
  unfold m_clock_in at h
  refine Calls.ofWC (vs := [(.int .i64 t_39)]) (pre := []) (env := [(0, (.int .i64 t_39))]) Try.func23 rfl Try.ntmps23 rfl (Hp.nil w₀ _) rfl ?_
  refine WC.seq ?_
  refine WC.region ?_
  refine WL.quiet (d := 2) rfl rfl rfl (q_assign rfl) ?_
  refine WL.nil ?_
  refine WX.then ?_
  refine WC.seq ?_
  refine WC.region ?_
  refine WL.quiet (d := 3) rfl rfl rfl (q_move rfl) ?_
  refine WL.quiet (d := 4) rfl rfl rfl (q_geq rfl rfl) ?_
  refine WL.quiet (d := 5) rfl rfl rfl (q_move rfl) ?_
  refine WL.cut0 True [(2, (.bool false)), (8, (.bool ((decide (t_39 ≥ (-1073741824))) && (decide (t_39 ≤ 1073741824)))))] [] 3 ?_ (fun _ => ?_)
  · rcases Bool.eq_false_or_eq_true (decide (t_39 ≥ (-1073741824))) with hb' | hb'
    · have hg_43 := hb'; clear hb'
      refine WL.pin (i := 5) rfl hg_43 ?_
      refine WL.quiet (d := 6) rfl rfl rfl (q_move rfl) ?_
      refine WL.quiet (d := 7) rfl rfl rfl (q_leq rfl rfl) ?_
      refine WL.quiet (d := 8) rfl rfl rfl (q_pickT rfl rfl) ?_
      exact WL.cutEnd () trivial (.cons rfl (.cons (some_bool (and_r hg_43)) .nil)) .nil
    · have hg_44 := hb'; clear hb'
      refine WL.pin (i := 5) rfl hg_44 ?_
      refine WL.skip rfl rfl rfl ?_
      refine WL.skip rfl rfl rfl ?_
      refine WL.quiet (d := 8) rfl rfl rfl (q_pickF rfl rfl) ?_
      exact WL.cutEnd () trivial (.cons rfl (.cons (some_bool (and_l hg_44)) .nil)) .nil
  · skip
    refine WL.quiet (d := 2) rfl rfl rfl (q_assign rfl) ?_
    refine WL.nil ?_
    refine WX.then ?_
    refine WC.ret ?_
    obtain rfl := Option.some.inj h
    refine WX.bpRet Try.results23 (.tmp rfl .nil) (fun w hw => ?_)
    exact ⟨ret1 rfl, hw.sub .nil⟩
/-- clock.Midpoint$1 -/
def m_clock_Midpoint_1 (t_38 : Int) : Option Bool :=
  (m_clock_in t_38).bind fun x_48 => some (!x_48)

set_option maxRecDepth 20000 in
theorem w_clock_Midpoint_1 (Z : Zp)  (t_38 : Int) (r : Bool) (w₀ : World) (hz : PZ [] w₀ Z)
    (h : m_clock_Midpoint_1 t_38 = some r) :
    Calls Try.prog 22 #[(.int .i64 t_38)] w₀ fun e w' => e = .returned (.bool r) ∧ Hp [] w₀ w' [] := by
  unfold m_clock_Midpoint_1 at h
  refine Calls.ofWC (vs := [(.int .i64 t_38)]) (pre := []) (env := [(0, (.int .i64 t_38))]) Try.func22 rfl Try.ntmps22 rfl (Hp.nil w₀ _) rfl ?_
  refine WC.seq ?_
  refine WC.region ?_
  refine WL.quiet (d := 2) rfl rfl rfl (q_assign rfl) ?_
  refine WL.nil ?_
  refine WX.then ?_
  refine WC.seq ?_
  obtain ⟨x_48, hx_49, h⟩ := bind_elim h
  refine WC.region ?_
  refine WL.quiet (d := 3) rfl rfl rfl (q_move rfl) ?_
  refine WL.callD (dd := 4) rfl rfl rfl (run_call (l := [.tmp 3]) Try.call23 (.cons rfl .nil)) (.nil : Sel [] [] []) (fun w hw => by have pz := (hz.call hw (.nil : Sel [] [] [])); exact w_clock_in (Z := _)  (t_39 := t_38) (r := x_48) w pz  hx_49) ?_
  refine WL.quiet (d := 5) rfl rfl rfl (q_not rfl) ?_
  refine WL.quiet (d := 2) rfl rfl rfl (q_assign rfl) ?_
  refine WL.nil ?_
  refine WX.then ?_
  refine WC.ret ?_
  obtain rfl := Option.some.inj h
  refine WX.bpRet Try.results22 (.tmp rfl .nil) (fun w hw => ?_)
  exact ⟨ret1 rfl, hw.sub .nil⟩
def m_slices_IndexFunc_int_int_L2 (s_59 : List Int) (f_65 : Int → Option Bool) (k_317 : Option Int) : Nat → Int → Option Int
  | 0, _ => none
  | n_374 + 1, v_372 => if decide (v_372 < ((s_59.length : Nat) : Int)) then chk ((0 : Int) ≤ v_372 ∧ v_372 < ((s_59.length : Nat) : Int)) ((f_65 (nth s_59 v_372)).bind fun x_394 => if x_394 then some v_372 else m_slices_IndexFunc_int_int_L2 s_59 f_65 k_317 n_374 (i64 (v_372 + 1))) else k_317
theorem m_slices_IndexFunc_int_int_L2_fuel {n : Nat} {s_59 : List Int} {f_65 : Int → Option Bool} {k_317 : Option Int} {v_372 : Int} {r : Int} (h : m_slices_IndexFunc_int_int_L2 s_59 f_65 k_317 n v_372 = some r) : ∃ m, n = m + 1 := by
  cases n with
  | zero => cases h
  | succ m => exact ⟨m, rfl⟩

/-- slices.IndexFunc[[]int,int] -/
def m_slices_IndexFunc_int_int (s_59 : List Int) (f_65 : Int → Option Bool) : Option Int :=
  jp0 (some (-1)) fun k_317 => m_slices_IndexFunc_int_int_L2 s_59 f_65 k_317 FUEL 0

set_option maxRecDepth 20000 in
theorem w_slices_IndexFunc_int_int (Z : Zp) (ao_60 : Option Addr) (cap_61 : Nat) (fid_63 : FuncId) (fcaps_64 : List Value) (s_59 : List Int) (f_65 : Int → Option Bool) (r : Int) (w₀ : World) (hz : PZ [] w₀ Z)
    (hs_62 : ZS Z 1 (fun r x => r = e3 x) ao_60 cap_61 s_59)
    (hcf_66 : ∀ args w, (callFunc fid_63 args).run Try.prog w = .ok (.enter fid_63 args) w)
    (hfn_67 : ∀ w : World, PZ [] w Z → ∀ (x0 : Int) (r : Bool), f_65 x0 = some r → Calls Try.prog fid_63 (([(.int .i64 x0)] : List Value) ++ fcaps_64).toArray w fun e w' => e = .returned (.bool r) ∧ Hp [] w w' [])
    (h : m_slices_IndexFunc_int_int s_59 f_65 = some r) :
    Calls Try.prog 39 #[(.slice ao_60 s_59.length cap_61), (.func (.func fid_63) #[] (fcaps_64).toArray)] w₀ fun e w' => e = .returned (.int .i64 r) ∧ Hp [] w₀ w' [] := by
  unfold m_slices_IndexFunc_int_int at h
  refine Calls.ofWC (vs := [(.slice ao_60 s_59.length cap_61), (.func (.func fid_63) #[] (fcaps_64).toArray)]) (pre := []) (env := [(0, (.slice ao_60 s_59.length cap_61)), (1, (.func (.func fid_63) #[] (fcaps_64).toArray))]) Try.func39 rfl Try.ntmps39 rfl (Hp.nil w₀ _) rfl ?_
  refine WC.seq ?_
  refine WC.region ?_
  refine WL.quiet (d := 4) rfl rfl rfl (q_assign rfl) ?_
  refine WL.nil ?_
  refine WX.then ?_
  obtain ⟨k_317, hk_318, h⟩ := jp0_elim h
  refine WC.seqMid0 ((k_317 = some r)) ([]) ([]) ?_ ?_
  · skip
    refine WC.seq ?_
    refine WC.region ?_
    refine WL.quiet (d := 6) rfl rfl rfl (q_move rfl) ?_
    refine WL.quiet (d := 7) rfl rfl rfl (q_len Try.underlying22 rfl) ?_
    refine WL.quiet (d := 8) rfl rfl rfl (q_move rfl) ?_
    refine WL.nil ?_
    refine WX.then ?_
    refine WC.block ?_
    refine WC.loop2 (fun (n_373 : Nat) (v_372 : Int) => (m_slices_IndexFunc_int_int_L2 s_59 f_65 k_317 n_373 v_372 = some r)) (fun (n_373 : Nat) (v_372 : Int) => [(0, (.slice ao_60 s_59.length cap_61)), (1, (.func (.func fid_63) #[] (fcaps_64).toArray)), (7, (.int .i64 ((s_59.length : Nat) : Int))), (8, (.int .i64 v_372))]) (fun (n_373 : Nat) (v_372 : Int) => []) (fun (n_373 : Nat) (v_372 : Int) => n_373) ⟨FUEL, 0⟩ h (.cons rfl (.cons rfl (.cons rfl (.cons rfl .nil)))) .nil ?_
    rintro n_373 v_372 h
    obtain ⟨n_374, rfl⟩ := m_slices_IndexFunc_int_int_L2_fuel h
    rw [m_slices_IndexFunc_int_int_L2] at h
    refine WC.seq ?_
    refine WC.region ?_
    refine WL.quiet (d := 9) rfl rfl rfl (q_lss rfl rfl) ?_
    refine WL.nil ?_
    refine WX.then ?_
    refine WC.seq ?_
    refine WC.cond rfl (fun hb_376 => ?_) (fun hb_376 => ?_)
    · replace h := ite_t h hb_376
      refine WC.skip ?_
      refine WX.then ?_
      refine WC.seq ?_
      refine WC.block ?_
      refine WC.seq ?_
      refine WC.region ?_
      refine WL.quiet (d := 10) rfl rfl rfl (q_move rfl) ?_
      refine WL.quiet (d := 5) rfl rfl rfl (q_assign rfl) ?_
      refine WL.nil ?_
      refine WX.then ?_
      refine WC.seq ?_
      obtain ⟨c_389, h⟩ := chk_elim h
      obtain ⟨x_394, hx_395, h⟩ := bind_elim h
      refine WC.region ?_
      refine WL.quiet (d := 11) rfl rfl rfl (q_move rfl) ?_
      refine WL.quiet (d := 12) rfl rfl rfl (q_move rfl) ?_
      refine WL.quiet (d := 13) rfl rfl rfl (q_move rfl) ?_
      refine WL.znth (dd := 14) rfl rfl elT_22 rfl rfl hs_62 c_389 ?_
      rintro A_396 r_397 hA_398 hl_399 rfl
      refine WL.quiet (d := 15) rfl rfl rfl (q_load1 oneT_3 rfl (rd_z hz.pv hA_398 rfl)) ?_
      refine WL.callD (dd := 16) rfl rfl rfl (run_callv (l := [.tmp 15]) (f := fid_63) (caps := fcaps_64) hcf_66 rfl (.cons rfl .nil)) .nil (fun w hw => hfn_67 w (hz.now hw) (nth s_59 v_372) x_394  hx_395) ?_
      refine WL.nil ?_
      refine WX.then ?_
      refine WC.cond rfl (fun hb_400 => ?_) (fun hb_400 => ?_)
      · replace h := ite_t h hb_400
        refine WC.seq ?_
        refine WC.region ?_
        refine WL.quiet (d := 17) rfl rfl rfl (q_move rfl) ?_
        refine WL.quiet (d := 4) rfl rfl rfl (q_assign rfl) ?_
        refine WL.nil ?_
        refine WX.then ?_
        refine WC.ret ?_
        refine WX.blockRet ?_
        refine WX.thenRet ?_
        refine WX.thenRet ?_
        refine WX.blockRet ?_
        refine WX.thenRet ?_
        obtain rfl := Option.some.inj h
        refine WX.bpRet Try.results39 (.tmp rfl .nil) (fun w hw => ?_)
        exact ⟨ret1 rfl, hw.sub .nil⟩
      · replace h := ite_f h hb_400
        refine WC.skip ?_
        refine WX.blockNormal ?_
        refine WX.then ?_
        refine WC.region ?_
        refine WL.quiet (d := 18) rfl rfl rfl (q_add rfl rfl rfl) ?_
        refine WL.quiet (d := 8) rfl rfl rfl (q_move rfl) ?_
        refine WL.nil ?_
        exact WX.round (G := Nat × Int) ⟨n_374, (i64 (v_372 + 1))⟩ h (Nat.lt_succ_self _) (.cons rfl (.cons rfl (.cons rfl (.cons rfl .nil)))) .nil
    · replace h := ite_f h hb_376
      refine WC.exit ?_
      refine WX.thenExit ?_
      refine WX.thenExit ?_
      refine WX.blockHit ?_
      exact WX.mid (G := Unit) () h .nil .nil
  · rintro  h
    replace h := hk_318.symm.trans h
    refine WC.seq ?_
    refine WC.region ?_
    refine WL.quiet (d := 4) rfl rfl rfl (q_assign rfl) ?_
    refine WL.nil ?_
    refine WX.then ?_
    refine WC.ret ?_
    obtain rfl := Option.some.inj h
    refine WX.bpRet Try.results39 (.tmp rfl .nil) (fun w hw => ?_)
    exact ⟨ret1 rfl, hw.sub .nil⟩
/-- slices.ContainsFunc[[]int,int] -/
def m_slices_ContainsFunc_int_int (s_50 : List Int) (f_56 : Int → Option Bool) : Option Bool :=
  (m_slices_IndexFunc_int_int s_50 f_56).bind fun x_404 => some (decide (x_404 ≥ 0))

set_option maxRecDepth 20000 in
theorem w_slices_ContainsFunc_int_int (Z : Zp) (ao_51 : Option Addr) (cap_52 : Nat) (fid_54 : FuncId) (fcaps_55 : List Value) (s_50 : List Int) (f_56 : Int → Option Bool) (r : Bool) (w₀ : World) (hz : PZ [] w₀ Z)
    (hs_53 : ZS Z 1 (fun r x => r = e3 x) ao_51 cap_52 s_50)
    (hcf_57 : ∀ args w, (callFunc fid_54 args).run Try.prog w = .ok (.enter fid_54 args) w)
    (hfn_58 : ∀ w : World, PZ [] w Z → ∀ (x0 : Int) (r : Bool), f_56 x0 = some r → Calls Try.prog fid_54 (([(.int .i64 x0)] : List Value) ++ fcaps_55).toArray w fun e w' => e = .returned (.bool r) ∧ Hp [] w w' [])
    (h : m_slices_ContainsFunc_int_int s_50 f_56 = some r) :
    Calls Try.prog 21 #[(.slice ao_51 s_50.length cap_52), (.func (.func fid_54) #[] (fcaps_55).toArray)] w₀ fun e w' => e = .returned (.bool r) ∧ Hp [] w₀ w' [] := by
  unfold m_slices_ContainsFunc_int_int at h
  refine Calls.ofWC (vs := [(.slice ao_51 s_50.length cap_52), (.func (.func fid_54) #[] (fcaps_55).toArray)]) (pre := []) (env := [(0, (.slice ao_51 s_50.length cap_52)), (1, (.func (.func fid_54) #[] (fcaps_55).toArray))]) Try.func21 rfl Try.ntmps21 rfl (Hp.nil w₀ _) rfl ?_
  refine WC.seq ?_
  refine WC.region ?_
  refine WL.quiet (d := 4) rfl rfl rfl (q_assign rfl) ?_
  refine WL.nil ?_
  refine WX.then ?_
  refine WC.seq ?_
  obtain ⟨x_404, hx_405, h⟩ := bind_elim h
  refine WC.region ?_
  refine WL.quiet (d := 5) rfl rfl rfl (q_move rfl) ?_
  refine WL.quiet (d := 6) rfl rfl rfl (q_move rfl) ?_
  refine WL.callD (dd := 7) rfl rfl rfl (run_call (l := [.tmp 5, .tmp 6]) Try.call39 (.cons rfl (.cons rfl .nil))) (.nil : Sel [] [] []) (fun w hw => by have pz := (hz.call hw (.nil : Sel [] [] [])); exact w_slices_IndexFunc_int_int (Z := _) (ao_60 := ao_51) (cap_61 := cap_52) (fid_63 := fid_54) (fcaps_64 := fcaps_55) (s_59 := s_50) (f_65 := f_56) (r := x_404) w pz hs_53 hcf_57 hfn_58 hx_405) ?_
  refine WL.quiet (d := 8) rfl rfl rfl (q_geq rfl rfl) ?_
  refine WL.quiet (d := 4) rfl rfl rfl (q_assign rfl) ?_
  refine WL.nil ?_
  refine WX.then ?_
  refine WC.ret ?_
  obtain rfl := Option.some.inj h
  refine WX.bpRet Try.results21 (.tmp rfl .nil) (fun w hw => ?_)
  exact ⟨ret1 rfl, hw.sub .nil⟩
/-- clock.Midpoint$2 -/
def m_clock_Midpoint_2 (t_426 : Int) : Option Int :=
  some t_426

set_option maxRecDepth 20000 in
theorem w_clock_Midpoint_2 (Z : Zp)  (t_426 : Int) (r : Int) (w₀ : World) (hz : PZ [] w₀ Z)
    (h : m_clock_Midpoint_2 t_426 = some r) :
    Calls Try.prog 25 #[(.int .i64 t_426)] w₀ fun e w' => e = .returned (.int .i64 r) ∧ Hp [] w₀ w' [] := by
  unfold m_clock_Midpoint_2 at h
  refine Calls.ofWC (vs := [(.int .i64 t_426)]) (pre := []) (env := [(0, (.int .i64 t_426))]) Try.func25 rfl Try.ntmps25 rfl (Hp.nil w₀ _) rfl ?_
  refine WC.seq ?_
  refine WC.region ?_
  refine WL.quiet (d := 2) rfl rfl rfl (q_assign rfl) ?_
  refine WL.nil ?_
  refine WX.then ?_
  refine WC.seq ?_
  refine WC.region ?_
  refine WL.quiet (d := 3) rfl rfl rfl (q_move rfl) ?_
  refine WL.quiet (d := 2) rfl rfl rfl (q_assign rfl) ?_
  refine WL.nil ?_
  refine WX.then ?_
  refine WC.ret ?_
  obtain rfl := Option.some.inj h
  refine WX.bpRet Try.results25 (.tmp rfl .nil) (fun w hw => ?_)
  exact ⟨ret1 rfl, hw.sub .nil⟩
def m_clock_each_int_L2 (l_428 : List Int) (f_434 : Int → Option Int) (k_845 : (List Int) → Option (List Int)) : Nat → (List Int) → Int → Option (List Int)
  | 0, _, _ => none
  | n_939 + 1, out_933, v_936 => if decide (v_936 < ((l_428.length : Nat) : Int)) then chk ((0 : Int) ≤ v_936 ∧ v_936 < ((l_428.length : Nat) : Int)) ((f_434 (nth l_428 v_936)).bind fun x_969 => chk ((((out_933 ++ [x_969]).length : Nat) : Int) * 8 ≤ 140737488355328 ∧ (((out_933 ++ [x_969]).length : Nat) : Int) ≤ 4611686018427387904) (m_clock_each_int_L2 l_428 f_434 k_845 n_939 (out_933 ++ [x_969]) (i64 (v_936 + 1)))) else k_845 out_933
theorem m_clock_each_int_L2_fuel {n : Nat} {l_428 : List Int} {f_434 : Int → Option Int} {k_845 : (List Int) → Option (List Int)} {out_933 : List Int} {v_936 : Int} {r : List Int} (h : m_clock_each_int_L2 l_428 f_434 k_845 n out_933 v_936 = some r) : ∃ m, n = m + 1 := by
  cases n with
  | zero => cases h
  | succ m => exact ⟨m, rfl⟩

/-- clock.each[int] -/
def m_clock_each_int (l_428 : List Int) (f_434 : Int → Option Int) : Option (List Int) :=
  jp1 (fun (out_842 : List Int) => (m_slices_Sort out_842).bind fun x_978 => some x_978) fun k_845 => m_clock_each_int_L2 l_428 f_434 k_845 FUEL ([] : List Int) 0

set_option maxRecDepth 20000 in
theorem w_clock_each_int (Z : Zp) (ao_429 : Option Addr) (cap_430 : Nat) (fid_432 : FuncId) (fcaps_433 : List Value) (l_428 : List Int) (f_434 : Int → Option Int) (r : List Int) (w₀ : World) (hz : PZ [] w₀ Z)
    (hs_431 : ZS Z 1 (fun r x => r = e3 x) ao_429 cap_430 l_428)
    (hcf_435 : ∀ args w, (callFunc fid_432 args).run Try.prog w = .ok (.enter fid_432 args) w)
    (hfn_436 : ∀ w : World, PZ [] w Z → ∀ (x0 : Int) (r : Int), f_434 x0 = some r → Calls Try.prog fid_432 (([(.int .i64 x0)] : List Value) ++ fcaps_433).toArray w fun e w' => e = .returned (.int .i64 r) ∧ Hp [] w w' [])
    (h : m_clock_each_int l_428 f_434 = some r) :
    Calls Try.prog 24 #[(.slice ao_429 l_428.length cap_430), (.func (.func fid_432) #[] (fcaps_433).toArray)] w₀ fun e w' => ∃ ao_709 : Option Addr, ∃ cap_710 : Nat, e = .returned (.slice ao_709 r.length cap_710) ∧ True ∧ Hp [] w₀ w' [row (.slice ao_709 r.length cap_710) 3 1 (r.flatMap e3)] := by
  unfold m_clock_each_int at h
  refine Calls.ofWC (vs := [(.slice ao_429 l_428.length cap_430), (.func (.func fid_432) #[] (fcaps_433).toArray)]) (pre := []) (env := [(0, (.slice ao_429 l_428.length cap_430)), (1, (.func (.func fid_432) #[] (fcaps_433).toArray))]) Try.func24 rfl Try.ntmps24 rfl (Hp.nil w₀ _) rfl ?_
  refine WC.seq ?_
  refine WC.region ?_
  refine WL.quiet (d := 4) rfl rfl rfl (q_assign rfl) ?_
  refine WL.nil ?_
  refine WX.then ?_
  refine WC.seq ?_
  refine WC.region ?_
  refine WL.quiet (d := 5) rfl rfl rfl (q_assign rfl) ?_
  refine WL.nil ?_
  refine WX.then ?_
  obtain ⟨k_845, hk_846, h⟩ := jp1_elim h
  refine WC.seqMid3 (fun (out_842 : List Int) (ao_843 : Option Addr) (cap_844 : Nat) => (k_845 out_842 = some r)) (fun (out_842 : List Int) (ao_843 : Option Addr) (cap_844 : Nat) => [(5, (.slice ao_843 out_842.length cap_844))]) (fun (out_842 : List Int) (ao_843 : Option Addr) (cap_844 : Nat) => [row (.slice ao_843 out_842.length cap_844) 3 1 (out_842.flatMap e3)]) ?_ ?_
  · skip
    refine WC.seq ?_
    refine WC.region ?_
    refine WL.quiet (d := 8) rfl rfl rfl (q_move rfl) ?_
    refine WL.quiet (d := 9) rfl rfl rfl (q_len Try.underlying22 rfl) ?_
    refine WL.quiet (d := 10) rfl rfl rfl (q_move rfl) ?_
    refine WL.nil ?_
    refine WX.then ?_
    refine WC.block ?_
    refine WC.nilRow 3 1 ?_
    refine WC.loop5 (fun (n_937 : Nat) (out_933 : List Int) (v_936 : Int) (ao_934 : Option Addr) (cap_935 : Nat) => (m_clock_each_int_L2 l_428 f_434 k_845 n_937 out_933 v_936 = some r)) (fun (n_937 : Nat) (out_933 : List Int) (v_936 : Int) (ao_934 : Option Addr) (cap_935 : Nat) => [(1, (.func (.func fid_432) #[] (fcaps_433).toArray)), (5, (.slice ao_934 out_933.length cap_935)), (8, (.slice ao_429 l_428.length cap_430)), (9, (.int .i64 ((l_428.length : Nat) : Int))), (10, (.int .i64 v_936))]) (fun (n_937 : Nat) (out_933 : List Int) (v_936 : Int) (ao_934 : Option Addr) (cap_935 : Nat) => [row (.slice ao_934 out_933.length cap_935) 3 1 (out_933.flatMap e3)]) (fun (n_937 : Nat) (out_933 : List Int) (v_936 : Int) (ao_934 : Option Addr) (cap_935 : Nat) => n_937) ⟨FUEL, ([] : List Int), 0, none, 0⟩ h (.cons rfl (.cons rfl (.cons rfl (.cons rfl (.cons rfl .nil))))) (.cons .here .nil) ?_
    rintro n_937 out_933 v_936 ao_934 cap_935 h
    obtain ⟨n_939, rfl⟩ := m_clock_each_int_L2_fuel h
    rw [m_clock_each_int_L2] at h
    refine WC.seq ?_
    refine WC.region ?_
    refine WL.quiet (d := 11) rfl rfl rfl (q_lss rfl rfl) ?_
    refine WL.nil ?_
    refine WX.then ?_
    refine WC.seq ?_
    refine WC.cond rfl (fun hb_941 => ?_) (fun hb_941 => ?_)
    · replace h := ite_t h hb_941
      refine WC.skip ?_
      refine WX.then ?_
      refine WC.seq ?_
      refine WC.block ?_
      refine WC.seq ?_
      obtain ⟨c_960, h⟩ := chk_elim h
      refine WC.region ?_
      refine WL.znth (dd := 12) rfl rfl elT_22 rfl rfl hs_431 c_960 ?_
      rintro A_965 r_966 hA_967 hl_968 rfl
      refine WL.quiet (d := 13) rfl rfl rfl (q_load1 oneT_3 rfl (rd_z hz.pv hA_967 rfl)) ?_
      refine WL.quiet (d := 7) rfl rfl rfl (q_assign rfl) ?_
      refine WL.nil ?_
      refine WX.then ?_
      obtain ⟨x_969, hx_970, h⟩ := bind_elim h
      obtain ⟨c_972, h⟩ := chk_elim h
      refine WC.region ?_
      refine WL.quiet (d := 14) rfl rfl rfl (q_move rfl) ?_
      refine WL.quiet (d := 15) rfl rfl rfl (q_move rfl) ?_
      refine WL.quiet (d := 16) rfl rfl rfl (q_move rfl) ?_
      refine WL.callD (dd := 17) rfl rfl rfl (run_callv (l := [.tmp 16]) (f := fid_432) (caps := fcaps_433) hcf_435 rfl (.cons rfl .nil)) .nil (fun w hw => hfn_436 w (hz.now hw) (nth l_428 v_936) x_969  hx_970) ?_
      refine WL.new (dd := 18) rfl rfl rfl (e_buildSlice (cs := [x_969].flatMap e3) elT_22 (Eos.parts (l := [.tmp 17]) (.cons rfl .nil) [0]) (fun _ => by kernel_rfl) rfl (by unfold maxLen; omega)) ?_
      intro b_975 _
      refine WL.eff (d := 19) rfl rfl rfl (e_appendF (enc := e3) (l1 := out_933) (l2 := [x_969]) elT_22 rfl rfl (.there .here) (fun _ => rfl) rfl rfl (news_row .here) (oc_flat e3_oc _) c_972) ?_
      rintro ⟨ao_976, cap_977⟩ _
      refine WL.quiet (d := 5) rfl rfl rfl (q_assign rfl) ?_
      refine WL.nil ?_
      refine WX.blockNormal ?_
      refine WX.then ?_
      refine WC.region ?_
      refine WL.quiet (d := 20) rfl rfl rfl (q_add rfl rfl rfl) ?_
      refine WL.quiet (d := 10) rfl rfl rfl (q_move rfl) ?_
      refine WL.nil ?_
      exact WX.round (G := Nat × List Int × Int × Option Addr × Nat) ⟨n_939, (out_933 ++ [x_969]), (i64 (v_936 + 1)), ao_976, cap_977⟩ h (Nat.lt_succ_self _) (.cons rfl (.cons rfl (.cons rfl (.cons rfl (.cons rfl .nil))))) (.cons .here .nil)
    · replace h := ite_f h hb_941
      refine WC.exit ?_
      refine WX.thenExit ?_
      refine WX.thenExit ?_
      refine WX.blockHit ?_
      exact WX.mid (G := List Int × Option Addr × Nat) ⟨out_933, ao_934, cap_935⟩ h (.cons rfl .nil) (.cons .here .nil)
  · rintro out_842 ao_843 cap_844 h
    replace h := (hk_846 out_842).symm.trans h
    refine WC.seq ?_
    obtain ⟨x_978, hx_979, h⟩ := bind_elim h
    refine WC.region ?_
    refine WL.quiet (d := 21) rfl rfl rfl (q_move rfl) ?_
    refine WL.enter0 (dd := 22) rfl rfl rfl (run_call (l := [.tmp 21]) Try.call40 (.cons rfl .nil)) ((.cons .here .nil) : Sel [row (.slice ao_843 out_842.length cap_844) 3 1 (out_842.flatMap e3)] [row (.slice ao_843 out_842.length cap_844) 3 1 (out_842.flatMap e3)] []) (fun w hw => by have pz := (hz.call hw ((.cons .here .nil) : Sel [row (.slice ao_843 out_842.length cap_844) 3 1 (out_842.flatMap e3)] [row (.slice ao_843 out_842.length cap_844) 3 1 (out_842.flatMap e3)] [])); exact w_slices_Sort (Z := _) (ao := ao_843) (cap := cap_844) (l := out_842) (r := x_978) w pz  hx_979 (hw.owns ((.cons .here .nil) : Sel [row (.slice ao_843 out_842.length cap_844) 3 1 (out_842.flatMap e3)] [row (.slice ao_843 out_842.length cap_844) 3 1 (out_842.flatMap e3)] []))) ?_
    rintro  hf_981
    refine WL.repin (i := 5) rfl (u := (.slice ao_843 x_978.length cap_844)) (slen hf_981.symm) ?_
    refine WL.nil ?_
    refine WX.then ?_
    refine WC.seq ?_
    refine WC.region ?_
    refine WL.quiet (d := 23) rfl rfl rfl (q_move rfl) ?_
    refine WL.quiet (d := 4) rfl rfl rfl (q_assign rfl) ?_
    refine WL.nil ?_
    refine WX.then ?_
    refine WC.ret ?_
    obtain rfl := Option.some.inj h
    refine WX.bpRet Try.results24 (.tmp rfl .nil) (fun w hw => ?_)
    exact ⟨ao_843, cap_844, ret1 rfl, trivial, hw.sub (.cons .here .nil)⟩
/-- clock.Midpoint -/
def m_clock_Midpoint (l_16 : List Int) (f_20 : Int) : Option (Int × Int) :=
  (m_clock_fits ((l_16.length : Nat) : Int) f_20).bind fun x_1007 => (if !x_1007 then some true else (m_slices_ContainsFunc_int_int l_16 (fun (y0 : Int) => m_clock_Midpoint_1 y0)).bind fun x_1009 => some x_1009).bind fun b_1011 => if b_1011 then some (0, 2) else (m_clock_each_int l_16 (fun (y0 : Int) => m_clock_Midpoint_2 y0)).bind fun x_1018 => chk ((0 : Int) ≤ f_20 ∧ f_20 < ((x_1018.length : Nat) : Int)) (chk ((0 : Int) ≤ (i64 ((i64 (((x_1018.length : Nat) : Int) - 1)) - f_20)) ∧ (i64 ((i64 (((x_1018.length : Nat) : Int) - 1)) - f_20)) < ((x_1018.length : Nat) : Int)) (some (((i64 ((nth x_1018 f_20) + (nth x_1018 (i64 ((i64 (((x_1018.length : Nat) : Int) - 1)) - f_20))))) / 2 ^ min (1 : Int).toNat 64), 0)))

set_option maxRecDepth 20000 in
theorem w_clock_Midpoint (Z : Zp) (ao_17 : Option Addr) (cap_18 : Nat) (l_16 : List Int) (f_20 : Int) (r : Int × Int) (w₀ : World) (hz : PZ [] w₀ Z)
    (hs_19 : ZS Z 1 (fun r x => r = e3 x) ao_17 cap_18 l_16)
    (h : m_clock_Midpoint l_16 f_20 = some r) :
    Calls Try.prog 11 #[(.slice ao_17 l_16.length cap_18), (.int .i64 f_20)] w₀ fun e w' => e = .returned (.tuple #[(.int .i64 r.1), (.int .i64 r.2)]) ∧ Hp [] w₀ w' [] := by
  unfold m_clock_Midpoint at h
  refine Calls.ofWC (vs := [(.slice ao_17 l_16.length cap_18), (.int .i64 f_20)]) (pre := []) (env := [(0, (.slice ao_17 l_16.length cap_18)), (1, (.int .i64 f_20))]) Try.func11 rfl Try.ntmps11 rfl (Hp.nil w₀ _) rfl ?_
  refine WC.seq ?_
  refine WC.region ?_
  refine WL.quiet (d := 4) rfl rfl rfl (q_assign rfl) ?_
  refine WL.quiet (d := 5) rfl rfl rfl (q_assign rfl) ?_
  refine WL.nil ?_
  refine WX.then ?_
  refine WC.seq ?_
  refine WC.seq ?_
  obtain ⟨x_1007, hx_1008, h⟩ := bind_elim h
  obtain ⟨b_1011, hb_1012, h⟩ := bind_elim h
  refine WC.region ?_
  refine WL.quiet (d := 7) rfl rfl rfl (q_move rfl) ?_
  refine WL.quiet (d := 8) rfl rfl rfl (q_len Try.underlying22 rfl) ?_
  refine WL.quiet (d := 9) rfl rfl rfl (q_move rfl) ?_
  refine WL.callD (dd := 10) rfl rfl rfl (run_call (l := [.tmp 8, .tmp 9]) Try.call20 (.cons rfl (.cons rfl .nil))) (.nil : Sel [] [] []) (fun w hw => by have pz := (hz.call hw (.nil : Sel [] [] [])); exact w_clock_fits (Z := _)  (n_21 := ((l_16.length : Nat) : Int)) (f_22 := f_20) (r := x_1007) w pz  hx_1008) ?_
  refine WL.quiet (d := 11) rfl rfl rfl (q_not rfl) ?_
  refine WL.quiet (d := 12) rfl rfl rfl (q_move rfl) ?_
  refine WL.cut0 True [(0, (.slice ao_17 l_16.length cap_18)), (1, (.int .i64 f_20)), (15, (.bool b_1011))] [] 3 ?_ (fun _ => ?_)
  · rcases Bool.eq_false_or_eq_true (!x_1007) with hb' | hb'
    · have hg_1013 := hb'; clear hb'
      have hq_1014 := ite_t hb_1012 hg_1013
      replace hq_1014 := Option.some.inj hq_1014
      refine WL.pin (i := 12) rfl hg_1013 ?_
      refine WL.skip rfl rfl rfl ?_
      refine WL.skip rfl rfl rfl ?_
      refine WL.quiet (d := 15) rfl rfl rfl (q_pickT rfl rfl) ?_
      exact WL.cutEnd () trivial (.cons rfl (.cons rfl (.cons (some_bool hq_1014) .nil))) .nil
    · have hg_1015 := hb'; clear hb'
      have hq_1016 := ite_f hb_1012 hg_1015
      obtain ⟨x_1009, hx_1010, hq_1016⟩ := bind_elim hq_1016
      replace hq_1016 := Option.some.inj hq_1016
      refine WL.pin (i := 12) rfl hg_1015 ?_
      refine WL.quiet (d := 13) rfl rfl rfl (q_move rfl) ?_
      refine WL.callD (dd := 14) rfl rfl rfl (run_call (l := [.tmp 13, .func 22]) Try.call21 (.cons rfl (.cons rfl .nil))) (.nil : Sel [] [] []) (fun w hw => by have pz := (hz.call hw (.nil : Sel [] [] [])); exact w_slices_ContainsFunc_int_int (Z := _) (ao_51 := ao_17) (cap_52 := cap_18) (fid_54 := 22) (fcaps_55 := []) (s_50 := l_16) (f_56 := (fun (y0 : Int) => m_clock_Midpoint_1 y0)) (r := x_1009) w pz hs_19 Try.call22 (fun w' hz' y0  r  hr => w_clock_Midpoint_1 (Z := _)  (t_38 := y0) (r := r) w' hz'  hr) hx_1010) ?_
      refine WL.quiet (d := 15) rfl rfl rfl (q_pickF rfl rfl) ?_
      exact WL.cutEnd () trivial (.cons rfl (.cons rfl (.cons (some_bool hq_1016) .nil))) .nil
  · skip
    refine WL.nil ?_
    refine WX.then ?_
    refine WC.cond rfl (fun hb_1017 => ?_) (fun hb_1017 => ?_)
    · replace h := ite_t h hb_1017
      refine WC.seq ?_
      refine WC.region ?_
      refine WL.quiet (d := 4) rfl rfl rfl (q_assign rfl) ?_
      refine WL.quiet (d := 5) rfl rfl rfl (q_assign rfl) ?_
      refine WL.nil ?_
      refine WX.then ?_
      refine WC.ret ?_
      refine WX.thenRet ?_
      obtain rfl := Option.some.inj h
      refine WX.bpRet Try.results11 (.tmp rfl (.tmp rfl .nil)) (fun w hw => ?_)
      exact ⟨ret2 rfl rfl, hw.sub .nil⟩
    · replace h := ite_f h hb_1017
      refine WC.skip ?_
      refine WX.then ?_
      refine WC.seq ?_
      obtain ⟨x_1018, hx_1019, h⟩ := bind_elim h
      refine WC.region ?_
      refine WL.quiet (d := 16) rfl rfl rfl (q_move rfl) ?_
      refine WL.enter2 (dd := 17) rfl rfl rfl (run_call (l := [.tmp 16, .func 25]) Try.call24 (.cons rfl (.cons rfl .nil))) (.nil : Sel [] [] []) (fun w hw => by have pz := (hz.call hw (.nil : Sel [] [] [])); exact w_clock_each_int (Z := _) (ao_429 := ao_17) (cap_430 := cap_18) (fid_432 := 25) (fcaps_433 := []) (l_428 := l_16) (f_434 := (fun (y0 : Int) => m_clock_Midpoint_2 y0)) (r := x_1018) w pz hs_19 Try.call25 (fun w' hz' y0  r  hr => w_clock_Midpoint_2 (Z := _)  (t_426 := y0) (r := r) w' hz'  hr) hx_1019) ?_
      rintro ao_1023 cap_1024 _
      refine WL.quiet (d := 6) rfl rfl rfl (q_assign rfl) ?_
      refine WL.nil ?_
      refine WX.then ?_
      refine WC.seq ?_
      obtain ⟨c_1026, h⟩ := chk_elim h
      obtain ⟨c_1028, h⟩ := chk_elim h
      refine WC.draw (fun i => [].contains i) [] rfl ?_
      refine WD.pure (i := 0) (d := 18) (by kernel_rfl) rfl (by kernel_rfl) (by kernel_rfl) rfl rfl rfl (fun _ => q_move rfl) ?_
      refine WD.pure (i := 1) (d := 19) (by kernel_rfl) rfl (by kernel_rfl) (by kernel_rfl) rfl rfl rfl (fun _ => q_move rfl) ?_
      refine WD.know (fun w hw => Hp.expose .here hw (by intro hz'; have := c_1026; rw [hz'] at this; omega)) ?_
      rintro ⟨b_1029, rfl⟩
      refine WD.pure (i := 2) (d := 20) (by kernel_rfl) rfl (by kernel_rfl) (by kernel_rfl) rfl rfl rfl (fun _ => q_indexAddr elT_22 rfl rfl c_1026.1 c_1026.2 rowAdd) ?_
      refine WD.quiet (i := 3) (d := 21) (by kernel_rfl) rfl (by kernel_rfl) (by kernel_rfl) rfl rfl rfl (q_load1 oneT_3 rfl (rd_row .here ((flat_rd (enc := e3) (l := x_1018) (i := f_20) (sz := 1) (fun _ => rfl) c_1026.1 c_1026.2) 0 _ rfl))) ?_
      refine WD.pure (i := 4) (d := 22) (by kernel_rfl) rfl (by kernel_rfl) (by kernel_rfl) rfl rfl rfl (fun _ => q_move rfl) ?_
      refine WD.pure (i := 5) (d := 23) (by kernel_rfl) rfl (by kernel_rfl) (by kernel_rfl) rfl rfl rfl (fun _ => q_move rfl) ?_
      refine WD.pure (i := 6) (d := 24) (by kernel_rfl) rfl (by kernel_rfl) (by kernel_rfl) rfl rfl rfl (fun _ => q_len Try.underlying22 rfl) ?_
      refine WD.pure (i := 7) (d := 25) (by kernel_rfl) rfl (by kernel_rfl) (by kernel_rfl) rfl rfl rfl (fun _ => q_sub rfl rfl rfl) ?_
      refine WD.pure (i := 8) (d := 26) (by kernel_rfl) rfl (by kernel_rfl) (by kernel_rfl) rfl rfl rfl (fun _ => q_move rfl) ?_
      refine WD.pure (i := 9) (d := 27) (by kernel_rfl) rfl (by kernel_rfl) (by kernel_rfl) rfl rfl rfl (fun _ => q_sub rfl rfl rfl) ?_
      refine WD.pure (i := 10) (d := 28) (by kernel_rfl) rfl (by kernel_rfl) (by kernel_rfl) rfl rfl rfl (fun _ => q_indexAddr elT_22 rfl rfl c_1028.1 c_1028.2 rowAdd) ?_
      refine WD.quiet (i := 11) (d := 29) (by kernel_rfl) rfl (by kernel_rfl) (by kernel_rfl) rfl rfl rfl (q_load1 oneT_3 rfl (rd_row .here ((flat_rd (enc := e3) (l := x_1018) (i := i64 ((i64 (((x_1018.length : Nat) : Int) - 1)) - f_20)) (sz := 1) (fun _ => rfl) c_1028.1 c_1028.2) 0 _ rfl))) ?_
      refine WD.pure (i := 12) (d := 30) (by kernel_rfl) rfl (by kernel_rfl) (by kernel_rfl) rfl rfl rfl (fun _ => q_add rfl rfl rfl) ?_
      refine WD.pure (i := 13) (d := 31) (by kernel_rfl) rfl (by kernel_rfl) (by kernel_rfl) rfl rfl rfl (fun _ => q_shr rfl rfl (by decide) rfl) ?_
      refine WD.pure (i := 14) (d := 4) (by kernel_rfl) rfl (by kernel_rfl) (by kernel_rfl) rfl rfl rfl (fun _ => q_assign rfl) ?_
      refine WD.pure (i := 15) (d := 5) (by kernel_rfl) rfl (by kernel_rfl) (by kernel_rfl) rfl rfl rfl (fun _ => q_assign rfl) ?_
      refine WD.done (by kernel_rfl) ?_
      refine WX.then ?_
      refine WC.ret ?_
      obtain rfl := Option.some.inj h
      refine WX.bpRet Try.results11 (.tmp rfl (.tmp rfl .nil)) (fun w hw => ?_)
      exact ⟨ret2 rfl rfl, hw.sub .nil⟩
def m_clock_Suspects_L2 (l_1032 : List Int) (x_1340 : Int × Int) (width_1037 : Int) (k_1494 : (List Int) → Option (List Int × Int)) : Nat → (List Int) → Int → Option (List Int × Int)
  | 0, _, _ => none
  | n_1596 + 1, out_1590, v_1593 => if decide (v_1593 < ((l_1032.length : Nat) : Int)) then jp1 (fun (out_1616 : List Int) => m_clock_Suspects_L2 l_1032 x_1340 width_1037 k_1494 n_1596 out_1616 (i64 (v_1593 + 1))) fun k_1619 => chk ((0 : Int) ≤ v_1593 ∧ v_1593 < ((l_1032.length : Nat) : Int)) (if decide ((max (i64 ((nth l_1032 v_1593) - x_1340.1)) (i64 (x_1340.1 - (nth l_1032 v_1593)))) > width_1037) then chk ((((out_1590 ++ [v_1593]).length : Nat) : Int) * 8 ≤ 140737488355328 ∧ (((out_1590 ++ [v_1593]).length : Nat) : Int) ≤ 4611686018427387904) (k_1619 (out_1590 ++ [v_1593])) else k_1619 out_1590) else k_1494 out_1590
theorem m_clock_Suspects_L2_fuel {n : Nat} {l_1032 : List Int} {x_1340 : Int × Int} {width_1037 : Int} {k_1494 : (List Int) → Option (List Int × Int)} {out_1590 : List Int} {v_1593 : Int} {r : List Int × Int} (h : m_clock_Suspects_L2 l_1032 x_1340 width_1037 k_1494 n out_1590 v_1593 = some r) : ∃ m, n = m + 1 := by
  cases n with
  | zero => cases h
  | succ m => exact ⟨m, rfl⟩

/-- clock.Suspects -/
def m_clock_Suspects (l_1032 : List Int) (f_1036 : Int) (width_1037 : Int) : Option (List Int × Int) :=
  (m_clock_Midpoint l_1032 f_1036).bind fun x_1340 => if (decide (x_1340.2 ≠ 0)) || (decide (width_1037 < 0)) then some (([] : List Int), 2) else jp1 (fun (out_1491 : List Int) => some (out_1491, 0)) fun k_1494 => m_clock_Suspects_L2 l_1032 x_1340 width_1037 k_1494 FUEL ([] : List Int) 0

set_option maxRecDepth 20000 in
theorem w_clock_Suspects (Z : Zp) (ao_1033 : Option Addr) (cap_1034 : Nat) (l_1032 : List Int) (f_1036 : Int) (width_1037 : Int) (r : List Int × Int) (w₀ : World) (hz : PZ [] w₀ Z)
    (hs_1035 : ZS Z 1 (fun r x => r = e3 x) ao_1033 cap_1034 l_1032)
    (h : m_clock_Suspects l_1032 f_1036 width_1037 = some r) :
    Calls Try.prog 13 #[(.slice ao_1033 l_1032.length cap_1034), (.int .i64 f_1036), (.int .i64 width_1037)] w₀ fun e w' => ∃ ao_1337 : Option Addr, ∃ cap_1338 : Nat, e = .returned (.tuple #[(.slice ao_1337 r.1.length cap_1338), (.int .i64 r.2)]) ∧ True ∧ Hp [] w₀ w' [row (.slice ao_1337 r.1.length cap_1338) 3 1 (r.1.flatMap e3)] := by
  unfold m_clock_Suspects at h
  refine Calls.ofWC (vs := [(.slice ao_1033 l_1032.length cap_1034), (.int .i64 f_1036), (.int .i64 width_1037)]) (pre := []) (env := [(0, (.slice ao_1033 l_1032.length cap_1034)), (1, (.int .i64 f_1036)), (2, (.int .i64 width_1037))]) Try.func13 rfl Try.ntmps13 rfl (Hp.nil w₀ _) rfl ?_
  refine WC.seq ?_
  refine WC.region ?_
  refine WL.quiet (d := 6) rfl rfl rfl (q_assign rfl) ?_
  refine WL.quiet (d := 7) rfl rfl rfl (q_assign rfl) ?_
  refine WL.nil ?_
  refine WX.then ?_
  refine WC.seq ?_
  obtain ⟨x_1340, hx_1341, h⟩ := bind_elim h
  refine WC.region ?_
  refine WL.quiet (d := 14) rfl rfl rfl (q_move rfl) ?_
  refine WL.quiet (d := 15) rfl rfl rfl (q_move rfl) ?_
  refine WL.callD (dd := 16) rfl rfl rfl (run_call (l := [.tmp 14, .tmp 15]) Try.call11 (.cons rfl (.cons rfl .nil))) (.nil : Sel [] [] []) (fun w hw => by have pz := (hz.call hw (.nil : Sel [] [] [])); exact w_clock_Midpoint (Z := _) (ao_17 := ao_1033) (cap_18 := cap_1034) (l_16 := l_1032) (f_20 := f_1036) (r := x_1340) w pz hs_1035 hx_1341) ?_
  refine WL.quiet (d := 13) rfl rfl rfl (q_move rfl) ?_
  refine WL.quiet (d := 17) rfl rfl rfl (q_extract rfl rfl) ?_
  refine WL.quiet (d := 18) rfl rfl rfl (q_extract rfl rfl) ?_
  refine WL.quiet (d := 8) rfl rfl rfl (q_assign rfl) ?_
  refine WL.quiet (d := 9) rfl rfl rfl (q_assign rfl) ?_
  refine WL.nil ?_
  refine WX.then ?_
  refine WC.seq ?_
  refine WC.seq ?_
  refine WC.region ?_
  refine WL.quiet (d := 19) rfl rfl rfl (q_move rfl) ?_
  refine WL.quiet (d := 20) rfl rfl rfl (q_neq rfl rfl) ?_
  refine WL.quiet (d := 21) rfl rfl rfl (q_move rfl) ?_
  refine WL.cut0 True [(0, (.slice ao_1033 l_1032.length cap_1034)), (2, (.int .i64 width_1037)), (8, (.int .i64 x_1340.1)), (24, (.bool ((decide (x_1340.2 ≠ 0)) || (decide (width_1037 < 0)))))] [] 3 ?_ (fun _ => ?_)
  · rcases Bool.eq_false_or_eq_true (decide (x_1340.2 ≠ 0)) with hb' | hb'
    · have hg_1345 := hb'; clear hb'
      refine WL.pin (i := 21) rfl hg_1345 ?_
      refine WL.skip rfl rfl rfl ?_
      refine WL.skip rfl rfl rfl ?_
      refine WL.quiet (d := 24) rfl rfl rfl (q_pickT rfl rfl) ?_
      exact WL.cutEnd () trivial (.cons rfl (.cons rfl (.cons rfl (.cons (some_bool (or_l hg_1345)) .nil)))) .nil
    · have hg_1346 := hb'; clear hb'
      refine WL.pin (i := 21) rfl hg_1346 ?_
      refine WL.quiet (d := 22) rfl rfl rfl (q_move rfl) ?_
      refine WL.quiet (d := 23) rfl rfl rfl (q_lss rfl rfl) ?_
      refine WL.quiet (d := 24) rfl rfl rfl (q_pickF rfl rfl) ?_
      exact WL.cutEnd () trivial (.cons rfl (.cons rfl (.cons rfl (.cons (some_bool (or_r hg_1346)) .nil)))) .nil
  · skip
    refine WL.nil ?_
    refine WX.then ?_
    refine WC.cond rfl (fun hb_1347 => ?_) (fun hb_1347 => ?_)
    · replace h := ite_t h hb_1347
      refine WC.seq ?_
      refine WC.region ?_
      refine WL.quiet (d := 6) rfl rfl rfl (q_assign rfl) ?_
      refine WL.quiet (d := 7) rfl rfl rfl (q_assign rfl) ?_
      refine WL.nil ?_
      refine WX.then ?_
      refine WC.ret ?_
      refine WX.thenRet ?_
      refine WX.nilRow 3 1 ?_
      obtain rfl := Option.some.inj h
      refine WX.bpRet Try.results13 (.tmp rfl (.tmp rfl .nil)) (fun w hw => ?_)
      exact ⟨none, 0, ret2 rfl rfl, trivial, hw.sub (.cons .here .nil)⟩
    · replace h := ite_f h hb_1347
      refine WC.skip ?_
      refine WX.then ?_
      refine WC.seq ?_
      refine WC.region ?_
      refine WL.quiet (d := 10) rfl rfl rfl (q_assign rfl) ?_
      refine WL.nil ?_
      refine WX.then ?_
      obtain ⟨k_1494, hk_1495, h⟩ := jp1_elim h
      refine WC.seqMid3 (fun (out_1491 : List Int) (ao_1492 : Option Addr) (cap_1493 : Nat) => (k_1494 out_1491 = some r)) (fun (out_1491 : List Int) (ao_1492 : Option Addr) (cap_1493 : Nat) => [(10, (.slice ao_1492 out_1491.length cap_1493))]) (fun (out_1491 : List Int) (ao_1492 : Option Addr) (cap_1493 : Nat) => [row (.slice ao_1492 out_1491.length cap_1493) 3 1 (out_1491.flatMap e3)]) ?_ ?_
      · skip
        refine WC.seq ?_
        refine WC.region ?_
        refine WL.quiet (d := 25) rfl rfl rfl (q_move rfl) ?_
        refine WL.quiet (d := 26) rfl rfl rfl (q_len Try.underlying22 rfl) ?_
        refine WL.quiet (d := 27) rfl rfl rfl (q_move rfl) ?_
        refine WL.nil ?_
        refine WX.then ?_
        refine WC.block ?_
        refine WC.nilRow 3 1 ?_
        refine WC.loop5 (fun (n_1594 : Nat) (out_1590 : List Int) (v_1593 : Int) (ao_1591 : Option Addr) (cap_1592 : Nat) => (m_clock_Suspects_L2 l_1032 x_1340 width_1037 k_1494 n_1594 out_1590 v_1593 = some r)) (fun (n_1594 : Nat) (out_1590 : List Int) (v_1593 : Int) (ao_1591 : Option Addr) (cap_1592 : Nat) => [(2, (.int .i64 width_1037)), (8, (.int .i64 x_1340.1)), (10, (.slice ao_1591 out_1590.length cap_1592)), (25, (.slice ao_1033 l_1032.length cap_1034)), (26, (.int .i64 ((l_1032.length : Nat) : Int))), (27, (.int .i64 v_1593))]) (fun (n_1594 : Nat) (out_1590 : List Int) (v_1593 : Int) (ao_1591 : Option Addr) (cap_1592 : Nat) => [row (.slice ao_1591 out_1590.length cap_1592) 3 1 (out_1590.flatMap e3)]) (fun (n_1594 : Nat) (out_1590 : List Int) (v_1593 : Int) (ao_1591 : Option Addr) (cap_1592 : Nat) => n_1594) ⟨FUEL, ([] : List Int), 0, none, 0⟩ h (.cons rfl (.cons rfl (.cons rfl (.cons rfl (.cons rfl (.cons rfl .nil)))))) (.cons .here .nil) ?_
        rintro n_1594 out_1590 v_1593 ao_1591 cap_1592 h
        obtain ⟨n_1596, rfl⟩ := m_clock_Suspects_L2_fuel h
        rw [m_clock_Suspects_L2] at h
        refine WC.seq ?_
        refine WC.region ?_
        refine WL.quiet (d := 28) rfl rfl rfl (q_lss rfl rfl) ?_
        refine WL.nil ?_
        refine WX.then ?_
        refine WC.seq ?_
        refine WC.cond rfl (fun hb_1598 => ?_) (fun hb_1598 => ?_)
        · replace h := ite_t h hb_1598
          refine WC.skip ?_
          refine WX.then ?_
          obtain ⟨k_1619, hk_1620, h⟩ := jp1_elim h
          refine WC.seqMid3 (fun (out_1616 : List Int) (ao_1617 : Option Addr) (cap_1618 : Nat) => (k_1619 out_1616 = some r)) (fun (out_1616 : List Int) (ao_1617 : Option Addr) (cap_1618 : Nat) => [(2, (.int .i64 width_1037)), (8, (.int .i64 x_1340.1)), (10, (.slice ao_1617 out_1616.length cap_1618)), (25, (.slice ao_1033 l_1032.length cap_1034)), (26, (.int .i64 ((l_1032.length : Nat) : Int))), (27, (.int .i64 v_1593))]) (fun (out_1616 : List Int) (ao_1617 : Option Addr) (cap_1618 : Nat) => [row (.slice ao_1617 out_1616.length cap_1618) 3 1 (out_1616.flatMap e3)]) ?_ ?_
          · skip
            refine WC.block ?_
            refine WC.seq ?_
            obtain ⟨c_1621, h⟩ := chk_elim h
            refine WC.region ?_
            refine WL.quiet (d := 29) rfl rfl rfl (q_move rfl) ?_
            refine WL.znth (dd := 30) rfl rfl elT_22 rfl rfl hs_1035 c_1621 ?_
            rintro A_1626 r_1627 hA_1628 hl_1629 rfl
            refine WL.quiet (d := 31) rfl rfl rfl (q_load1 oneT_3 rfl (rd_z hz.pv hA_1628 rfl)) ?_
            refine WL.quiet (d := 11) rfl rfl rfl (q_assign rfl) ?_
            refine WL.quiet (d := 12) rfl rfl rfl (q_assign rfl) ?_
            refine WL.nil ?_
            refine WX.then ?_
            refine WC.seq ?_
            refine WC.region ?_
            refine WL.quiet (d := 32) rfl rfl rfl (q_move rfl) ?_
            refine WL.quiet (d := 33) rfl rfl rfl (q_move rfl) ?_
            refine WL.quiet (d := 34) rfl rfl rfl (q_sub rfl rfl rfl) ?_
            refine WL.quiet (d := 35) rfl rfl rfl (q_move rfl) ?_
            refine WL.quiet (d := 36) rfl rfl rfl (q_move rfl) ?_
            refine WL.quiet (d := 37) rfl rfl rfl (q_sub rfl rfl rfl) ?_
            refine WL.quiet (d := 38) rfl rfl rfl (q_max rfl rfl rfl) ?_
            refine WL.quiet (d := 39) rfl rfl rfl (q_move rfl) ?_
            refine WL.quiet (d := 40) rfl rfl rfl (q_gtr rfl rfl) ?_
            refine WL.nil ?_
            refine WX.then ?_
            refine WC.cond rfl (fun hb_1630 => ?_) (fun hb_1630 => ?_)
            · replace h := ite_t h hb_1630
              obtain ⟨c_1632, h⟩ := chk_elim h
              refine WC.region ?_
              refine WL.quiet (d := 41) rfl rfl rfl (q_move rfl) ?_
              refine WL.quiet (d := 42) rfl rfl rfl (q_move rfl) ?_
              refine WL.new (dd := 43) rfl rfl rfl (e_buildSlice (cs := [v_1593].flatMap e3) elT_22 (Eos.parts (l := [.tmp 42]) (.cons rfl .nil) [0]) (fun _ => by kernel_rfl) rfl (by unfold maxLen; omega)) ?_
              intro b_1635 _
              refine WL.eff (d := 44) rfl rfl rfl (e_appendF (enc := e3) (l1 := out_1590) (l2 := [v_1593]) elT_22 rfl rfl (.there .here) (fun _ => rfl) rfl rfl (news_row .here) (oc_flat e3_oc _) c_1632) ?_
              rintro ⟨ao_1636, cap_1637⟩ _
              refine WL.quiet (d := 10) rfl rfl rfl (q_assign rfl) ?_
              refine WL.nil ?_
              refine WX.blockNormal ?_
              exact WX.mid (G := List Int × Option Addr × Nat) ⟨(out_1590 ++ [v_1593]), ao_1636, cap_1637⟩ h (.cons rfl (.cons rfl (.cons rfl (.cons rfl (.cons rfl (.cons rfl .nil)))))) (.cons .here .nil)
            · replace h := ite_f h hb_1630
              refine WC.skip ?_
              refine WX.blockNormal ?_
              exact WX.mid (G := List Int × Option Addr × Nat) ⟨out_1590, ao_1591, cap_1592⟩ h (.cons rfl (.cons rfl (.cons rfl (.cons rfl (.cons rfl (.cons rfl .nil)))))) (.cons .here .nil)
          · rintro out_1616 ao_1617 cap_1618 h
            replace h := (hk_1620 out_1616).symm.trans h
            refine WC.region ?_
            refine WL.quiet (d := 45) rfl rfl rfl (q_add rfl rfl rfl) ?_
            refine WL.quiet (d := 27) rfl rfl rfl (q_move rfl) ?_
            refine WL.nil ?_
            exact WX.round (G := Nat × List Int × Int × Option Addr × Nat) ⟨n_1596, out_1616, (i64 (v_1593 + 1)), ao_1617, cap_1618⟩ h (Nat.lt_succ_self _) (.cons rfl (.cons rfl (.cons rfl (.cons rfl (.cons rfl (.cons rfl .nil)))))) (.cons .here .nil)
        · replace h := ite_f h hb_1598
          refine WC.exit ?_
          refine WX.thenExit ?_
          refine WX.thenExit ?_
          refine WX.blockHit ?_
          exact WX.mid (G := List Int × Option Addr × Nat) ⟨out_1590, ao_1591, cap_1592⟩ h (.cons rfl .nil) (.cons .here .nil)
      · rintro out_1491 ao_1492 cap_1493 h
        replace h := (hk_1495 out_1491).symm.trans h
        refine WC.seq ?_
        refine WC.region ?_
        refine WL.quiet (d := 46) rfl rfl rfl (q_move rfl) ?_
        refine WL.quiet (d := 6) rfl rfl rfl (q_assign rfl) ?_
        refine WL.quiet (d := 7) rfl rfl rfl (q_assign rfl) ?_
        refine WL.nil ?_
        refine WX.then ?_
        refine WC.ret ?_
        obtain rfl := Option.some.inj h
        refine WX.bpRet Try.results13 (.tmp rfl (.tmp rfl .nil)) (fun w hw => ?_)
        exact ⟨ao_1492, cap_1493, ret2 rfl rfl, trivial, hw.sub (.cons .here .nil)⟩
/-- clock.Meet$1 -/
def m_clock_Meet_1 (s_1665 : Sapi_Span) : Option Bool :=
  (m_clock_in s_1665.fLo).bind fun x_1683 => (if !x_1683 then some true else (m_clock_in s_1665.fHi).bind fun x_1685 => some (!x_1685)).bind fun b_1687 => some (b_1687 || (decide (s_1665.fLo > s_1665.fHi)))

set_option maxRecDepth 20000 in
theorem w_clock_Meet_1 (Z : Zp)  (s_1665 : Sapi_Span) (r : Bool) (w₀ : World) (hz : PZ [] w₀ Z)
    (h : m_clock_Meet_1 s_1665 = some r) :
    Calls Try.prog 30 #[(.agg #[(.int .i64 s_1665.fLo), (.int .i64 s_1665.fHi)])] w₀ fun e w' => e = .returned (.bool r) ∧ Hp [] w₀ w' [] := by
  unfold m_clock_Meet_1 at h
  refine Calls.ofWC (vs := [(.agg #[(.int .i64 s_1665.fLo), (.int .i64 s_1665.fHi)])]) (pre := []) (env := [(0, (.agg #[(.int .i64 s_1665.fLo), (.int .i64 s_1665.fHi)]))]) Try.func30 rfl Try.ntmps30 rfl (Hp.nil w₀ _) rfl ?_
  refine WC.seq ?_
  refine WC.region ?_
  refine WL.new (dd := 1) rfl rfl rfl (e_box (cs := [(.int .i64 s_1665.fLo), (.int .i64 s_1665.fHi)]) rfl rfl) ?_
  intro b_1682 _
  refine WL.quiet (d := 2) rfl rfl rfl (q_assign rfl) ?_
  refine WL.nil ?_
  refine WX.then ?_
  refine WC.seq ?_
  obtain ⟨x_1683, hx_1684, h⟩ := bind_elim h
  obtain ⟨b_1687, hb_1688, h⟩ := bind_elim h
  refine WC.region ?_
  refine WL.quiet (d := 3) rfl rfl rfl (q_fieldAddr fo_35_0 rfl rfl) ?_
  refine WL.quiet (d := 4) rfl rfl rfl (q_load1 oneT_3 rfl (rd_stb .here rfl)) ?_
  refine WL.callD (dd := 5) rfl rfl rfl (run_call (l := [.tmp 4]) Try.call23 (.cons rfl .nil)) (.nil : Sel [stb b_1682 35 [(.int .i64 s_1665.fLo), (.int .i64 s_1665.fHi)]] [] [stb b_1682 35 [(.int .i64 s_1665.fLo), (.int .i64 s_1665.fHi)]]) (fun w hw => by have pz := (hz.call hw (.nil : Sel [stb b_1682 35 [(.int .i64 s_1665.fLo), (.int .i64 s_1665.fHi)]] [] [stb b_1682 35 [(.int .i64 s_1665.fLo), (.int .i64 s_1665.fHi)]])); exact w_clock_in (Z := _)  (t_39 := s_1665.fLo) (r := x_1683) w pz  hx_1684) ?_
  refine WL.quiet (d := 6) rfl rfl rfl (q_not rfl) ?_
  refine WL.quiet (d := 7) rfl rfl rfl (q_move rfl) ?_
  refine WL.cut0 True [(1, (.pointer (some ⟨b_1682, 0, none⟩))), (2, (.bool false)), (12, (.bool b_1687))] [stb b_1682 35 [(.int .i64 s_1665.fLo), (.int .i64 s_1665.fHi)]] 5 ?_ (fun _ => ?_)
  · rcases Bool.eq_false_or_eq_true (!x_1683) with hb' | hb'
    · have hg_1689 := hb'; clear hb'
      have hq_1690 := ite_t hb_1688 hg_1689
      replace hq_1690 := Option.some.inj hq_1690
      refine WL.pin (i := 7) rfl hg_1689 ?_
      refine WL.skip rfl rfl rfl ?_
      refine WL.skip rfl rfl rfl ?_
      refine WL.skip rfl rfl rfl ?_
      refine WL.skip rfl rfl rfl ?_
      refine WL.quiet (d := 12) rfl rfl rfl (q_pickT rfl rfl) ?_
      exact WL.cutEnd () trivial (.cons rfl (.cons rfl (.cons (some_bool hq_1690) .nil))) (.cons .here .nil)
    · have hg_1691 := hb'; clear hb'
      have hq_1692 := ite_f hb_1688 hg_1691
      obtain ⟨x_1685, hx_1686, hq_1692⟩ := bind_elim hq_1692
      replace hq_1692 := Option.some.inj hq_1692
      refine WL.pin (i := 7) rfl hg_1691 ?_
      refine WL.quiet (d := 8) rfl rfl rfl (q_fieldAddr fo_35_1 rfl rfl) ?_
      refine WL.quiet (d := 9) rfl rfl rfl (q_load1 oneT_3 rfl (rd_stb .here rfl)) ?_
      refine WL.callD (dd := 10) rfl rfl rfl (run_call (l := [.tmp 9]) Try.call23 (.cons rfl .nil)) (.nil : Sel [stb b_1682 35 [(.int .i64 s_1665.fLo), (.int .i64 s_1665.fHi)]] [] [stb b_1682 35 [(.int .i64 s_1665.fLo), (.int .i64 s_1665.fHi)]]) (fun w hw => by have pz := (hz.call hw (.nil : Sel [stb b_1682 35 [(.int .i64 s_1665.fLo), (.int .i64 s_1665.fHi)]] [] [stb b_1682 35 [(.int .i64 s_1665.fLo), (.int .i64 s_1665.fHi)]])); exact w_clock_in (Z := _)  (t_39 := s_1665.fHi) (r := x_1685) w pz  hx_1686) ?_
      refine WL.quiet (d := 11) rfl rfl rfl (q_not rfl) ?_
      refine WL.quiet (d := 12) rfl rfl rfl (q_pickF rfl rfl) ?_
      exact WL.cutEnd () trivial (.cons rfl (.cons rfl (.cons (some_bool hq_1692) .nil))) (.cons .here .nil)
  · skip
    refine WL.quiet (d := 13) rfl rfl rfl (q_move rfl) ?_
    refine WL.cut0 True [(2, (.bool false)), (19, (.bool (b_1687 || (decide (s_1665.fLo > s_1665.fHi)))))] [stb b_1682 35 [(.int .i64 s_1665.fLo), (.int .i64 s_1665.fHi)]] 6 ?_ (fun _ => ?_)
    · rcases Bool.eq_false_or_eq_true b_1687 with hb' | hb'
      · have hg_1693 := hb'; clear hb'
        refine WL.pin (i := 13) rfl hg_1693 ?_
        refine WL.skip rfl rfl rfl ?_
        refine WL.skip rfl rfl rfl ?_
        refine WL.skip rfl rfl rfl ?_
        refine WL.skip rfl rfl rfl ?_
        refine WL.skip rfl rfl rfl ?_
        refine WL.quiet (d := 19) rfl rfl rfl (q_pickT rfl rfl) ?_
        exact WL.cutEnd () trivial (.cons rfl (.cons (some_bool (or_l hg_1693)) .nil)) (.cons .here .nil)
      · have hg_1694 := hb'; clear hb'
        refine WL.pin (i := 13) rfl hg_1694 ?_
        refine WL.quiet (d := 14) rfl rfl rfl (q_fieldAddr fo_35_0 rfl rfl) ?_
        refine WL.quiet (d := 15) rfl rfl rfl (q_load1 oneT_3 rfl (rd_stb .here rfl)) ?_
        refine WL.quiet (d := 16) rfl rfl rfl (q_fieldAddr fo_35_1 rfl rfl) ?_
        refine WL.quiet (d := 17) rfl rfl rfl (q_load1 oneT_3 rfl (rd_stb .here rfl)) ?_
        refine WL.quiet (d := 18) rfl rfl rfl (q_gtr rfl rfl) ?_
        refine WL.quiet (d := 19) rfl rfl rfl (q_pickF rfl rfl) ?_
        exact WL.cutEnd () trivial (.cons rfl (.cons (some_bool (or_r hg_1694)) .nil)) (.cons .here .nil)
    · skip
      refine WL.quiet (d := 2) rfl rfl rfl (q_assign rfl) ?_
      refine WL.nil ?_
      refine WX.then ?_
      refine WC.ret ?_
      obtain rfl := Option.some.inj h
      refine WX.bpRet Try.results30 (.tmp rfl .nil) (fun w hw => ?_)
      exact ⟨ret1 rfl, hw.sub .nil⟩
def m_slices_IndexFunc_api_Span_api_Span_L2 (s_1704 : List Sapi_Span) (f_1710 : Sapi_Span → Option Bool) (k_1962 : Option Int) : Nat → Int → Option Int
  | 0, _ => none
  | n_2019 + 1, v_2017 => if decide (v_2017 < ((s_1704.length : Nat) : Int)) then chk ((0 : Int) ≤ v_2017 ∧ v_2017 < ((s_1704.length : Nat) : Int)) ((f_1710 (⟨((nth s_1704 v_2017).fLo), ((nth s_1704 v_2017).fHi)⟩ : Sapi_Span)).bind fun x_2039 => if x_2039 then some v_2017 else m_slices_IndexFunc_api_Span_api_Span_L2 s_1704 f_1710 k_1962 n_2019 (i64 (v_2017 + 1))) else k_1962
theorem m_slices_IndexFunc_api_Span_api_Span_L2_fuel {n : Nat} {s_1704 : List Sapi_Span} {f_1710 : Sapi_Span → Option Bool} {k_1962 : Option Int} {v_2017 : Int} {r : Int} (h : m_slices_IndexFunc_api_Span_api_Span_L2 s_1704 f_1710 k_1962 n v_2017 = some r) : ∃ m, n = m + 1 := by
  cases n with
  | zero => cases h
  | succ m => exact ⟨m, rfl⟩

/-- slices.IndexFunc[[]api.Span,api.Span] -/
def m_slices_IndexFunc_api_Span_api_Span (s_1704 : List Sapi_Span) (f_1710 : Sapi_Span → Option Bool) : Option Int :=
  jp0 (some (-1)) fun k_1962 => m_slices_IndexFunc_api_Span_api_Span_L2 s_1704 f_1710 k_1962 FUEL 0

set_option maxRecDepth 20000 in
theorem w_slices_IndexFunc_api_Span_api_Span (Z : Zp) (ao_1705 : Option Addr) (cap_1706 : Nat) (fid_1708 : FuncId) (fcaps_1709 : List Value) (s_1704 : List Sapi_Span) (f_1710 : Sapi_Span → Option Bool) (r : Int) (w₀ : World) (hz : PZ [] w₀ Z)
    (hs_1707 : ZS Z 2 (fun r x => r = e35 x) ao_1705 cap_1706 s_1704)
    (hcf_1711 : ∀ args w, (callFunc fid_1708 args).run Try.prog w = .ok (.enter fid_1708 args) w)
    (hfn_1712 : ∀ w : World, PZ [] w Z → ∀ (x0 : Sapi_Span) (r : Bool), f_1710 x0 = some r → Calls Try.prog fid_1708 (([(.agg #[(.int .i64 x0.fLo), (.int .i64 x0.fHi)])] : List Value) ++ fcaps_1709).toArray w fun e w' => e = .returned (.bool r) ∧ Hp [] w w' [])
    (h : m_slices_IndexFunc_api_Span_api_Span s_1704 f_1710 = some r) :
    Calls Try.prog 41 #[(.slice ao_1705 s_1704.length cap_1706), (.func (.func fid_1708) #[] (fcaps_1709).toArray)] w₀ fun e w' => e = .returned (.int .i64 r) ∧ Hp [] w₀ w' [] := by
  unfold m_slices_IndexFunc_api_Span_api_Span at h
  refine Calls.ofWC (vs := [(.slice ao_1705 s_1704.length cap_1706), (.func (.func fid_1708) #[] (fcaps_1709).toArray)]) (pre := []) (env := [(0, (.slice ao_1705 s_1704.length cap_1706)), (1, (.func (.func fid_1708) #[] (fcaps_1709).toArray))]) Try.func41 rfl Try.ntmps41 rfl (Hp.nil w₀ _) rfl ?_
  refine WC.seq ?_
  refine WC.region ?_
  refine WL.quiet (d := 4) rfl rfl rfl (q_assign rfl) ?_
  refine WL.nil ?_
  refine WX.then ?_
  obtain ⟨k_1962, hk_1963, h⟩ := jp0_elim h
  refine WC.seqMid0 ((k_1962 = some r)) ([]) ([]) ?_ ?_
  · skip
    refine WC.seq ?_
    refine WC.region ?_
    refine WL.quiet (d := 6) rfl rfl rfl (q_move rfl) ?_
    refine WL.quiet (d := 7) rfl rfl rfl (q_len Try.underlying23 rfl) ?_
    refine WL.quiet (d := 8) rfl rfl rfl (q_move rfl) ?_
    refine WL.nil ?_
    refine WX.then ?_
    refine WC.block ?_
    refine WC.loop2 (fun (n_2018 : Nat) (v_2017 : Int) => (m_slices_IndexFunc_api_Span_api_Span_L2 s_1704 f_1710 k_1962 n_2018 v_2017 = some r)) (fun (n_2018 : Nat) (v_2017 : Int) => [(0, (.slice ao_1705 s_1704.length cap_1706)), (1, (.func (.func fid_1708) #[] (fcaps_1709).toArray)), (7, (.int .i64 ((s_1704.length : Nat) : Int))), (8, (.int .i64 v_2017))]) (fun (n_2018 : Nat) (v_2017 : Int) => []) (fun (n_2018 : Nat) (v_2017 : Int) => n_2018) ⟨FUEL, 0⟩ h (.cons rfl (.cons rfl (.cons rfl (.cons rfl .nil)))) .nil ?_
    rintro n_2018 v_2017 h
    obtain ⟨n_2019, rfl⟩ := m_slices_IndexFunc_api_Span_api_Span_L2_fuel h
    rw [m_slices_IndexFunc_api_Span_api_Span_L2] at h
    refine WC.seq ?_
    refine WC.region ?_
    refine WL.quiet (d := 9) rfl rfl rfl (q_lss rfl rfl) ?_
    refine WL.nil ?_
    refine WX.then ?_
    refine WC.seq ?_
    refine WC.cond rfl (fun hb_2021 => ?_) (fun hb_2021 => ?_)
    · replace h := ite_t h hb_2021
      refine WC.skip ?_
      refine WX.then ?_
      refine WC.seq ?_
      refine WC.block ?_
      refine WC.seq ?_
      refine WC.region ?_
      refine WL.quiet (d := 10) rfl rfl rfl (q_move rfl) ?_
      refine WL.quiet (d := 5) rfl rfl rfl (q_assign rfl) ?_
      refine WL.nil ?_
      refine WX.then ?_
      refine WC.seq ?_
      obtain ⟨c_2034, h⟩ := chk_elim h
      obtain ⟨x_2039, hx_2040, h⟩ := bind_elim h
      refine WC.region ?_
      refine WL.quiet (d := 11) rfl rfl rfl (q_move rfl) ?_
      refine WL.quiet (d := 12) rfl rfl rfl (q_move rfl) ?_
      refine WL.quiet (d := 13) rfl rfl rfl (q_move rfl) ?_
      refine WL.znth (dd := 14) rfl rfl elT_23 rfl rfl hs_1707 c_2034 ?_
      rintro A_2041 r_2042 hA_2043 hl_2044 rfl
      refine WL.quiet (d := 15) rfl rfl rfl (q_loadA (cs := [(.int .i64 ((nth s_1704 v_2017).fLo)), (.int .i64 ((nth s_1704 v_2017).fHi))]) aggT_35 rfl rfl (rd_zs hz.pv hA_2043)) ?_
      refine WL.callD (dd := 16) rfl rfl rfl (run_callv (l := [.tmp 15]) (f := fid_1708) (caps := fcaps_1709) hcf_1711 rfl (.cons rfl .nil)) .nil (fun w hw => hfn_1712 w (hz.now hw) (⟨((nth s_1704 v_2017).fLo), ((nth s_1704 v_2017).fHi)⟩ : Sapi_Span) x_2039  hx_2040) ?_
      refine WL.nil ?_
      refine WX.then ?_
      refine WC.cond rfl (fun hb_2045 => ?_) (fun hb_2045 => ?_)
      · replace h := ite_t h hb_2045
        refine WC.seq ?_
        refine WC.region ?_
        refine WL.quiet (d := 17) rfl rfl rfl (q_move rfl) ?_
        refine WL.quiet (d := 4) rfl rfl rfl (q_assign rfl) ?_
        refine WL.nil ?_
        refine WX.then ?_
        refine WC.ret ?_
        refine WX.blockRet ?_
        refine WX.thenRet ?_
        refine WX.thenRet ?_
        refine WX.blockRet ?_
        refine WX.thenRet ?_
        obtain rfl := Option.some.inj h
        refine WX.bpRet Try.results41 (.tmp rfl .nil) (fun w hw => ?_)
        exact ⟨ret1 rfl, hw.sub .nil⟩
      · replace h := ite_f h hb_2045
        refine WC.skip ?_
        refine WX.blockNormal ?_
        refine WX.then ?_
        refine WC.region ?_
        refine WL.quiet (d := 18) rfl rfl rfl (q_add rfl rfl rfl) ?_
        refine WL.quiet (d := 8) rfl rfl rfl (q_move rfl) ?_
        refine WL.nil ?_
        exact WX.round (G := Nat × Int) ⟨n_2019, (i64 (v_2017 + 1))⟩ h (Nat.lt_succ_self _) (.cons rfl (.cons rfl (.cons rfl (.cons rfl .nil)))) .nil
    · replace h := ite_f h hb_2021
      refine WC.exit ?_
      refine WX.thenExit ?_
      refine WX.thenExit ?_
      refine WX.blockHit ?_
      exact WX.mid (G := Unit) () h .nil .nil
  · rintro  h
    replace h := hk_1963.symm.trans h
    refine WC.seq ?_
    refine WC.region ?_
    refine WL.quiet (d := 4) rfl rfl rfl (q_assign rfl) ?_
    refine WL.nil ?_
    refine WX.then ?_
    refine WC.ret ?_
    obtain rfl := Option.some.inj h
    refine WX.bpRet Try.results41 (.tmp rfl .nil) (fun w hw => ?_)
    exact ⟨ret1 rfl, hw.sub .nil⟩
/-- slices.ContainsFunc[[]api.Span,api.Span] -/
def m_slices_ContainsFunc_api_Span_api_Span (s_1695 : List Sapi_Span) (f_1701 : Sapi_Span → Option Bool) : Option Bool :=
  (m_slices_IndexFunc_api_Span_api_Span s_1695 f_1701).bind fun x_2049 => some (decide (x_2049 ≥ 0))

set_option maxRecDepth 20000 in
theorem w_slices_ContainsFunc_api_Span_api_Span (Z : Zp) (ao_1696 : Option Addr) (cap_1697 : Nat) (fid_1699 : FuncId) (fcaps_1700 : List Value) (s_1695 : List Sapi_Span) (f_1701 : Sapi_Span → Option Bool) (r : Bool) (w₀ : World) (hz : PZ [] w₀ Z)
    (hs_1698 : ZS Z 2 (fun r x => r = e35 x) ao_1696 cap_1697 s_1695)
    (hcf_1702 : ∀ args w, (callFunc fid_1699 args).run Try.prog w = .ok (.enter fid_1699 args) w)
    (hfn_1703 : ∀ w : World, PZ [] w Z → ∀ (x0 : Sapi_Span) (r : Bool), f_1701 x0 = some r → Calls Try.prog fid_1699 (([(.agg #[(.int .i64 x0.fLo), (.int .i64 x0.fHi)])] : List Value) ++ fcaps_1700).toArray w fun e w' => e = .returned (.bool r) ∧ Hp [] w w' [])
    (h : m_slices_ContainsFunc_api_Span_api_Span s_1695 f_1701 = some r) :
    Calls Try.prog 29 #[(.slice ao_1696 s_1695.length cap_1697), (.func (.func fid_1699) #[] (fcaps_1700).toArray)] w₀ fun e w' => e = .returned (.bool r) ∧ Hp [] w₀ w' [] := by
  unfold m_slices_ContainsFunc_api_Span_api_Span at h
  refine Calls.ofWC (vs := [(.slice ao_1696 s_1695.length cap_1697), (.func (.func fid_1699) #[] (fcaps_1700).toArray)]) (pre := []) (env := [(0, (.slice ao_1696 s_1695.length cap_1697)), (1, (.func (.func fid_1699) #[] (fcaps_1700).toArray))]) Try.func29 rfl Try.ntmps29 rfl (Hp.nil w₀ _) rfl ?_
  refine WC.seq ?_
  refine WC.region ?_
  refine WL.quiet (d := 4) rfl rfl rfl (q_assign rfl) ?_
  refine WL.nil ?_
  refine WX.then ?_
  refine WC.seq ?_
  obtain ⟨x_2049, hx_2050, h⟩ := bind_elim h
  refine WC.region ?_
  refine WL.quiet (d := 5) rfl rfl rfl (q_move rfl) ?_
  refine WL.quiet (d := 6) rfl rfl rfl (q_move rfl) ?_
  refine WL.callD (dd := 7) rfl rfl rfl (run_call (l := [.tmp 5, .tmp 6]) Try.call41 (.cons rfl (.cons rfl .nil))) (.nil : Sel [] [] []) (fun w hw => by have pz := (hz.call hw (.nil : Sel [] [] [])); exact w_slices_IndexFunc_api_Span_api_Span (Z := _) (ao_1705 := ao_1696) (cap_1706 := cap_1697) (fid_1708 := fid_1699) (fcaps_1709 := fcaps_1700) (s_1704 := s_1695) (f_1710 := f_1701) (r := x_2049) w pz hs_1698 hcf_1702 hfn_1703 hx_2050) ?_
  refine WL.quiet (d := 8) rfl rfl rfl (q_geq rfl rfl) ?_
  refine WL.quiet (d := 4) rfl rfl rfl (q_assign rfl) ?_
  refine WL.nil ?_
  refine WX.then ?_
  refine WC.ret ?_
  obtain rfl := Option.some.inj h
  refine WX.bpRet Try.results29 (.tmp rfl .nil) (fun w hw => ?_)
  exact ⟨ret1 rfl, hw.sub .nil⟩
/-- clock.Meet$3 -/
def m_clock_Meet_3 (s_2073 : Sapi_Span) : Option Int :=
  some s_2073.fLo

set_option maxRecDepth 20000 in
theorem w_clock_Meet_3 (Z : Zp)  (s_2073 : Sapi_Span) (r : Int) (w₀ : World) (hz : PZ [] w₀ Z)
    (h : m_clock_Meet_3 s_2073 = some r) :
    Calls Try.prog 34 #[(.agg #[(.int .i64 s_2073.fLo), (.int .i64 s_2073.fHi)])] w₀ fun e w' => e = .returned (.int .i64 r) ∧ Hp [] w₀ w' [] := by
  unfold m_clock_Meet_3 at h
  refine Calls.ofWC (vs := [(.agg #[(.int .i64 s_2073.fLo), (.int .i64 s_2073.fHi)])]) (pre := []) (env := [(0, (.agg #[(.int .i64 s_2073.fLo), (.int .i64 s_2073.fHi)]))]) Try.func34 rfl Try.ntmps34 rfl (Hp.nil w₀ _) rfl ?_
  refine WC.seq ?_
  refine WC.region ?_
  refine WL.new (dd := 1) rfl rfl rfl (e_box (cs := [(.int .i64 s_2073.fLo), (.int .i64 s_2073.fHi)]) rfl rfl) ?_
  intro b_2078 _
  refine WL.quiet (d := 2) rfl rfl rfl (q_assign rfl) ?_
  refine WL.nil ?_
  refine WX.then ?_
  refine WC.seq ?_
  refine WC.region ?_
  refine WL.quiet (d := 3) rfl rfl rfl (q_fieldAddr fo_35_0 rfl rfl) ?_
  refine WL.quiet (d := 4) rfl rfl rfl (q_load1 oneT_3 rfl (rd_stb .here rfl)) ?_
  refine WL.quiet (d := 2) rfl rfl rfl (q_assign rfl) ?_
  refine WL.nil ?_
  refine WX.then ?_
  refine WC.ret ?_
  obtain rfl := Option.some.inj h
  refine WX.bpRet Try.results34 (.tmp rfl .nil) (fun w hw => ?_)
  exact ⟨ret1 rfl, hw.sub .nil⟩
def m_clock_each_api_Span_L2 (l_2079 : List Sapi_Span) (f_2085 : Sapi_Span → Option Int) (k_2532 : (List Int) → Option (List Int)) : Nat → (List Int) → Int → Option (List Int)
  | 0, _, _ => none
  | n_2634 + 1, out_2628, v_2631 => if decide (v_2631 < ((l_2079.length : Nat) : Int)) then chk ((0 : Int) ≤ v_2631 ∧ v_2631 < ((l_2079.length : Nat) : Int)) ((f_2085 (⟨((nth l_2079 v_2631).fLo), ((nth l_2079 v_2631).fHi)⟩ : Sapi_Span)).bind fun x_2668 => chk ((((out_2628 ++ [x_2668]).length : Nat) : Int) * 8 ≤ 140737488355328 ∧ (((out_2628 ++ [x_2668]).length : Nat) : Int) ≤ 4611686018427387904) (m_clock_each_api_Span_L2 l_2079 f_2085 k_2532 n_2634 (out_2628 ++ [x_2668]) (i64 (v_2631 + 1)))) else k_2532 out_2628
theorem m_clock_each_api_Span_L2_fuel {n : Nat} {l_2079 : List Sapi_Span} {f_2085 : Sapi_Span → Option Int} {k_2532 : (List Int) → Option (List Int)} {out_2628 : List Int} {v_2631 : Int} {r : List Int} (h : m_clock_each_api_Span_L2 l_2079 f_2085 k_2532 n out_2628 v_2631 = some r) : ∃ m, n = m + 1 := by
  cases n with
  | zero => cases h
  | succ m => exact ⟨m, rfl⟩

/-- clock.each[api.Span] -/
def m_clock_each_api_Span (l_2079 : List Sapi_Span) (f_2085 : Sapi_Span → Option Int) : Option (List Int) :=
  jp1 (fun (out_2529 : List Int) => (m_slices_Sort out_2529).bind fun x_2677 => some x_2677) fun k_2532 => m_clock_each_api_Span_L2 l_2079 f_2085 k_2532 FUEL ([] : List Int) 0

set_option maxRecDepth 20000 in
theorem w_clock_each_api_Span (Z : Zp) (ao_2080 : Option Addr) (cap_2081 : Nat) (fid_2083 : FuncId) (fcaps_2084 : List Value) (l_2079 : List Sapi_Span) (f_2085 : Sapi_Span → Option Int) (r : List Int) (w₀ : World) (hz : PZ [] w₀ Z)
    (hs_2082 : ZS Z 2 (fun r x => r = e35 x) ao_2080 cap_2081 l_2079)
    (hcf_2086 : ∀ args w, (callFunc fid_2083 args).run Try.prog w = .ok (.enter fid_2083 args) w)
    (hfn_2087 : ∀ w : World, PZ [] w Z → ∀ (x0 : Sapi_Span) (r : Int), f_2085 x0 = some r → Calls Try.prog fid_2083 (([(.agg #[(.int .i64 x0.fLo), (.int .i64 x0.fHi)])] : List Value) ++ fcaps_2084).toArray w fun e w' => e = .returned (.int .i64 r) ∧ Hp [] w w' [])
    (h : m_clock_each_api_Span l_2079 f_2085 = some r) :
    Calls Try.prog 33 #[(.slice ao_2080 l_2079.length cap_2081), (.func (.func fid_2083) #[] (fcaps_2084).toArray)] w₀ fun e w' => ∃ ao_2384 : Option Addr, ∃ cap_2385 : Nat, e = .returned (.slice ao_2384 r.length cap_2385) ∧ True ∧ Hp [] w₀ w' [row (.slice ao_2384 r.length cap_2385) 3 1 (r.flatMap e3)] := by
  unfold m_clock_each_api_Span at h
  refine Calls.ofWC (vs := [(.slice ao_2080 l_2079.length cap_2081), (.func (.func fid_2083) #[] (fcaps_2084).toArray)]) (pre := []) (env := [(0, (.slice ao_2080 l_2079.length cap_2081)), (1, (.func (.func fid_2083) #[] (fcaps_2084).toArray))]) Try.func33 rfl Try.ntmps33 rfl (Hp.nil w₀ _) rfl ?_
  refine WC.seq ?_
  refine WC.region ?_
  refine WL.quiet (d := 4) rfl rfl rfl (q_assign rfl) ?_
  refine WL.nil ?_
  refine WX.then ?_
  refine WC.seq ?_
  refine WC.region ?_
  refine WL.quiet (d := 5) rfl rfl rfl (q_assign rfl) ?_
  refine WL.nil ?_
  refine WX.then ?_
  obtain ⟨k_2532, hk_2533, h⟩ := jp1_elim h
  refine WC.seqMid3 (fun (out_2529 : List Int) (ao_2530 : Option Addr) (cap_2531 : Nat) => (k_2532 out_2529 = some r)) (fun (out_2529 : List Int) (ao_2530 : Option Addr) (cap_2531 : Nat) => [(5, (.slice ao_2530 out_2529.length cap_2531))]) (fun (out_2529 : List Int) (ao_2530 : Option Addr) (cap_2531 : Nat) => [row (.slice ao_2530 out_2529.length cap_2531) 3 1 (out_2529.flatMap e3)]) ?_ ?_
  · skip
    refine WC.seq ?_
    refine WC.region ?_
    refine WL.quiet (d := 8) rfl rfl rfl (q_move rfl) ?_
    refine WL.quiet (d := 9) rfl rfl rfl (q_len Try.underlying23 rfl) ?_
    refine WL.quiet (d := 10) rfl rfl rfl (q_move rfl) ?_
    refine WL.nil ?_
    refine WX.then ?_
    refine WC.block ?_
    refine WC.nilRow 3 1 ?_
    refine WC.loop5 (fun (n_2632 : Nat) (out_2628 : List Int) (v_2631 : Int) (ao_2629 : Option Addr) (cap_2630 : Nat) => (m_clock_each_api_Span_L2 l_2079 f_2085 k_2532 n_2632 out_2628 v_2631 = some r)) (fun (n_2632 : Nat) (out_2628 : List Int) (v_2631 : Int) (ao_2629 : Option Addr) (cap_2630 : Nat) => [(1, (.func (.func fid_2083) #[] (fcaps_2084).toArray)), (5, (.slice ao_2629 out_2628.length cap_2630)), (8, (.slice ao_2080 l_2079.length cap_2081)), (9, (.int .i64 ((l_2079.length : Nat) : Int))), (10, (.int .i64 v_2631))]) (fun (n_2632 : Nat) (out_2628 : List Int) (v_2631 : Int) (ao_2629 : Option Addr) (cap_2630 : Nat) => [row (.slice ao_2629 out_2628.length cap_2630) 3 1 (out_2628.flatMap e3)]) (fun (n_2632 : Nat) (out_2628 : List Int) (v_2631 : Int) (ao_2629 : Option Addr) (cap_2630 : Nat) => n_2632) ⟨FUEL, ([] : List Int), 0, none, 0⟩ h (.cons rfl (.cons rfl (.cons rfl (.cons rfl (.cons rfl .nil))))) (.cons .here .nil) ?_
    rintro n_2632 out_2628 v_2631 ao_2629 cap_2630 h
    obtain ⟨n_2634, rfl⟩ := m_clock_each_api_Span_L2_fuel h
    rw [m_clock_each_api_Span_L2] at h
    refine WC.seq ?_
    refine WC.region ?_
    refine WL.quiet (d := 11) rfl rfl rfl (q_lss rfl rfl) ?_
    refine WL.nil ?_
    refine WX.then ?_
    refine WC.seq ?_
    refine WC.cond rfl (fun hb_2636 => ?_) (fun hb_2636 => ?_)
    · replace h := ite_t h hb_2636
      refine WC.skip ?_
      refine WX.then ?_
      refine WC.seq ?_
      refine WC.block ?_
      refine WC.seq ?_
      obtain ⟨c_2657, h⟩ := chk_elim h
      refine WC.region ?_
      refine WL.znth (dd := 12) rfl rfl elT_23 rfl rfl hs_2082 c_2657 ?_
      rintro A_2663 r_2664 hA_2665 hl_2666 rfl
      refine WL.quiet (d := 13) rfl rfl rfl (q_loadA (cs := [(.int .i64 ((nth l_2079 v_2631).fLo)), (.int .i64 ((nth l_2079 v_2631).fHi))]) aggT_35 rfl rfl (rd_zs hz.pv hA_2665)) ?_
      refine WL.new (dd := 7) rfl rfl rfl (e_alloc (cs := [(.int .i64 0), (.int .i64 0)]) zeroT_35 rfl) ?_
      intro b_2667 _
      refine WL.eff0 rfl rfl (e_store (vs := [(.int .i64 ((nth l_2079 v_2631).fLo)), (.int .i64 ((nth l_2079 v_2631).fHi))]) (ds := [(.int .i64 ((nth l_2079 v_2631).fLo)), (.int .i64 ((nth l_2079 v_2631).fHi))]) sizT_35 rfl rfl rfl rfl (oc_cons rfl (oc_cons rfl oc_nil)) .here (Nat.le_of_ble_eq_true rfl) rfl) ?_
      refine WL.nil ?_
      refine WX.then ?_
      obtain ⟨x_2668, hx_2669, h⟩ := bind_elim h
      obtain ⟨c_2671, h⟩ := chk_elim h
      refine WC.region ?_
      refine WL.quiet (d := 14) rfl rfl rfl (q_move rfl) ?_
      refine WL.quiet (d := 15) rfl rfl rfl (q_move rfl) ?_
      refine WL.quiet (d := 16) rfl rfl rfl (q_loadA (cs := [(.int .i64 ((nth l_2079 v_2631).fLo)), (.int .i64 ((nth l_2079 v_2631).fHi))]) aggT_35 rfl rfl (rd_all .here)) ?_
      refine WL.callD (dd := 17) rfl rfl rfl (run_callv (l := [.tmp 16]) (f := fid_2083) (caps := fcaps_2084) hcf_2086 rfl (.cons rfl .nil)) .nil (fun w hw => hfn_2087 w (hz.now hw) (⟨((nth l_2079 v_2631).fLo), ((nth l_2079 v_2631).fHi)⟩ : Sapi_Span) x_2668  hx_2669) ?_
      refine WL.new (dd := 18) rfl rfl rfl (e_buildSlice (cs := [x_2668].flatMap e3) elT_22 (Eos.parts (l := [.tmp 17]) (.cons rfl .nil) [0]) (fun _ => by kernel_rfl) rfl (by unfold maxLen; omega)) ?_
      intro b_2674 _
      refine WL.eff (d := 19) rfl rfl rfl (e_appendF (enc := e3) (l1 := out_2628) (l2 := [x_2668]) elT_22 rfl rfl (.there (.there .here)) (fun _ => rfl) rfl rfl (news_row .here) (oc_flat e3_oc _) c_2671) ?_
      rintro ⟨ao_2675, cap_2676⟩ _
      refine WL.quiet (d := 5) rfl rfl rfl (q_assign rfl) ?_
      refine WL.nil ?_
      refine WX.blockNormal ?_
      refine WX.then ?_
      refine WC.region ?_
      refine WL.quiet (d := 20) rfl rfl rfl (q_add rfl rfl rfl) ?_
      refine WL.quiet (d := 10) rfl rfl rfl (q_move rfl) ?_
      refine WL.nil ?_
      exact WX.round (G := Nat × List Int × Int × Option Addr × Nat) ⟨n_2634, (out_2628 ++ [x_2668]), (i64 (v_2631 + 1)), ao_2675, cap_2676⟩ h (Nat.lt_succ_self _) (.cons rfl (.cons rfl (.cons rfl (.cons rfl (.cons rfl .nil))))) (.cons .here .nil)
    · replace h := ite_f h hb_2636
      refine WC.exit ?_
      refine WX.thenExit ?_
      refine WX.thenExit ?_
      refine WX.blockHit ?_
      exact WX.mid (G := List Int × Option Addr × Nat) ⟨out_2628, ao_2629, cap_2630⟩ h (.cons rfl .nil) (.cons .here .nil)
  · rintro out_2529 ao_2530 cap_2531 h
    replace h := (hk_2533 out_2529).symm.trans h
    refine WC.seq ?_
    obtain ⟨x_2677, hx_2678, h⟩ := bind_elim h
    refine WC.region ?_
    refine WL.quiet (d := 21) rfl rfl rfl (q_move rfl) ?_
    refine WL.enter0 (dd := 22) rfl rfl rfl (run_call (l := [.tmp 21]) Try.call40 (.cons rfl .nil)) ((.cons .here .nil) : Sel [row (.slice ao_2530 out_2529.length cap_2531) 3 1 (out_2529.flatMap e3)] [row (.slice ao_2530 out_2529.length cap_2531) 3 1 (out_2529.flatMap e3)] []) (fun w hw => by have pz := (hz.call hw ((.cons .here .nil) : Sel [row (.slice ao_2530 out_2529.length cap_2531) 3 1 (out_2529.flatMap e3)] [row (.slice ao_2530 out_2529.length cap_2531) 3 1 (out_2529.flatMap e3)] [])); exact w_slices_Sort (Z := _) (ao := ao_2530) (cap := cap_2531) (l := out_2529) (r := x_2677) w pz  hx_2678 (hw.owns ((.cons .here .nil) : Sel [row (.slice ao_2530 out_2529.length cap_2531) 3 1 (out_2529.flatMap e3)] [row (.slice ao_2530 out_2529.length cap_2531) 3 1 (out_2529.flatMap e3)] []))) ?_
    rintro  hf_2680
    refine WL.repin (i := 5) rfl (u := (.slice ao_2530 x_2677.length cap_2531)) (slen hf_2680.symm) ?_
    refine WL.nil ?_
    refine WX.then ?_
    refine WC.seq ?_
    refine WC.region ?_
    refine WL.quiet (d := 23) rfl rfl rfl (q_move rfl) ?_
    refine WL.quiet (d := 4) rfl rfl rfl (q_assign rfl) ?_
    refine WL.nil ?_
    refine WX.then ?_
    refine WC.ret ?_
    obtain rfl := Option.some.inj h
    refine WX.bpRet Try.results33 (.tmp rfl .nil) (fun w hw => ?_)
    exact ⟨ao_2530, cap_2531, ret1 rfl, trivial, hw.sub (.cons .here .nil)⟩
def m_clock_Meet_2_L2 (c_2689 : List Sapi_Span) (t_2686 : Int) (k_3024 : Int → Option Bool) : Nat → Int → Int → Option Bool
  | 0, _, _ => none
  | n_3099 + 1, n_3096, v_3097 => if decide (v_3097 < ((c_2689.length : Nat) : Int)) then jp1 (fun (n_3116 : Int) => m_clock_Meet_2_L2 c_2689 t_2686 k_3024 n_3099 n_3116 (i64 (v_3097 + 1))) fun k_3117 => chk ((0 : Int) ≤ v_3097 ∧ v_3097 < ((c_2689.length : Nat) : Int)) (if (decide (((nth c_2689 v_3097).fLo) ≤ t_2686)) && (decide (t_2686 ≤ ((nth c_2689 v_3097).fHi))) then k_3117 (i64 (n_3096 + 1)) else k_3117 n_3096) else k_3024 n_3096
theorem m_clock_Meet_2_L2_fuel {n : Nat} {c_2689 : List Sapi_Span} {t_2686 : Int} {k_3024 : Int → Option Bool} {n_3096 : Int} {v_3097 : Int} {r : Bool} (h : m_clock_Meet_2_L2 c_2689 t_2686 k_3024 n n_3096 v_3097 = some r) : ∃ m, n = m + 1 := by
  cases n with
  | zero => cases h
  | succ m => exact ⟨m, rfl⟩

/-- clock.Meet$2 -/
def m_clock_Meet_2 (t_2686 : Int) (c_2689 : List Sapi_Span) (c_2695 : Int) : Option Bool :=
  jp1 (fun (n_3023 : Int) => some (decide (n_3023 ≥ (i64 (((c_2689.length : Nat) : Int) - c_2695))))) fun k_3024 => m_clock_Meet_2_L2 c_2689 t_2686 k_3024 FUEL 0 0

set_option maxRecDepth 20000 in
theorem w_clock_Meet_2 (Z : Zp) (A_2687 : Addr) (ao_2690 : Option Addr) (cap_2691 : Nat) (A_2693 : Addr) (t_2686 : Int) (c_2689 : List Sapi_Span) (c_2695 : Int) (r : Bool) (w₀ : World) (hz : PZ [] w₀ Z)
    (hs_2692 : ZS Z 2 (fun r x => r = e35 x) ao_2690 cap_2691 c_2689)
    (hA_2688 : ZC Z A_2687 [(.slice ao_2690 c_2689.length cap_2691)])
    (hA_2694 : ZC Z A_2693 [(.int .i64 c_2695)])
    (h : m_clock_Meet_2 t_2686 c_2689 c_2695 = some r) :
    Calls Try.prog 31 #[(.int .i64 t_2686), (.pointer (some A_2687)), (.pointer (some A_2693))] w₀ fun e w' => e = .returned (.bool r) ∧ Hp [] w₀ w' [] := by
  unfold m_clock_Meet_2 at h
  refine Calls.ofWC (vs := [(.int .i64 t_2686), (.pointer (some A_2687)), (.pointer (some A_2693))]) (pre := []) (env := [(0, (.int .i64 t_2686)), (1, (.pointer (some A_2687))), (2, (.pointer (some A_2693)))]) Try.func31 rfl Try.ntmps31 rfl (Hp.nil w₀ _) rfl ?_
  refine WC.seq ?_
  refine WC.region ?_
  refine WL.quiet (d := 4) rfl rfl rfl (q_assign rfl) ?_
  refine WL.nil ?_
  refine WX.then ?_
  refine WC.seq ?_
  refine WC.region ?_
  refine WL.quiet (d := 5) rfl rfl rfl (q_assign rfl) ?_
  refine WL.nil ?_
  refine WX.then ?_
  obtain ⟨k_3024, hk_3025, h⟩ := jp1_elim h
  refine WC.seqMid1 (fun (n_3023 : Int) => (k_3024 n_3023 = some r)) (fun (n_3023 : Int) => [(1, (.pointer (some A_2687))), (2, (.pointer (some A_2693))), (5, (.int .i64 n_3023))]) (fun (n_3023 : Int) => []) ?_ ?_
  · skip
    refine WC.seq ?_
    refine WC.region ?_
    refine WL.quiet (d := 8) rfl rfl rfl (q_load1 oneT_23 rfl (rd_z hz.pv hA_2688 rfl)) ?_
    refine WL.quiet (d := 9) rfl rfl rfl (q_len Try.underlying23 rfl) ?_
    refine WL.quiet (d := 10) rfl rfl rfl (q_move rfl) ?_
    refine WL.nil ?_
    refine WX.then ?_
    refine WC.block ?_
    refine WC.loop3 (fun (n_3098 : Nat) (n_3096 : Int) (v_3097 : Int) => (m_clock_Meet_2_L2 c_2689 t_2686 k_3024 n_3098 n_3096 v_3097 = some r)) (fun (n_3098 : Nat) (n_3096 : Int) (v_3097 : Int) => [(0, (.int .i64 t_2686)), (1, (.pointer (some A_2687))), (2, (.pointer (some A_2693))), (5, (.int .i64 n_3096)), (8, (.slice ao_2690 c_2689.length cap_2691)), (9, (.int .i64 ((c_2689.length : Nat) : Int))), (10, (.int .i64 v_3097))]) (fun (n_3098 : Nat) (n_3096 : Int) (v_3097 : Int) => []) (fun (n_3098 : Nat) (n_3096 : Int) (v_3097 : Int) => n_3098) ⟨FUEL, 0, 0⟩ h (.cons rfl (.cons rfl (.cons rfl (.cons rfl (.cons rfl (.cons rfl (.cons rfl .nil))))))) .nil ?_
    rintro n_3098 n_3096 v_3097 h
    obtain ⟨n_3099, rfl⟩ := m_clock_Meet_2_L2_fuel h
    rw [m_clock_Meet_2_L2] at h
    refine WC.seq ?_
    refine WC.region ?_
    refine WL.quiet (d := 11) rfl rfl rfl (q_lss rfl rfl) ?_
    refine WL.nil ?_
    refine WX.then ?_
    refine WC.seq ?_
    refine WC.cond rfl (fun hb_3101 => ?_) (fun hb_3101 => ?_)
    · replace h := ite_t h hb_3101
      refine WC.skip ?_
      refine WX.then ?_
      obtain ⟨k_3117, hk_3118, h⟩ := jp1_elim h
      refine WC.seqMid1 (fun (n_3116 : Int) => (k_3117 n_3116 = some r)) (fun (n_3116 : Int) => [(0, (.int .i64 t_2686)), (1, (.pointer (some A_2687))), (2, (.pointer (some A_2693))), (5, (.int .i64 n_3116)), (8, (.slice ao_2690 c_2689.length cap_2691)), (9, (.int .i64 ((c_2689.length : Nat) : Int))), (10, (.int .i64 v_3097))]) (fun (n_3116 : Int) => []) ?_ ?_
      · skip
        refine WC.block ?_
        refine WC.seq ?_
        obtain ⟨c_3119, h⟩ := chk_elim h
        refine WC.region ?_
        refine WL.znth (dd := 12) rfl rfl elT_23 rfl rfl hs_2692 c_3119 ?_
        rintro A_3125 r_3126 hA_3127 hl_3128 rfl
        refine WL.quiet (d := 13) rfl rfl rfl (q_loadA (cs := [(.int .i64 ((nth c_2689 v_3097).fLo)), (.int .i64 ((nth c_2689 v_3097).fHi))]) aggT_35 rfl rfl (rd_zs hz.pv hA_3127)) ?_
        refine WL.new (dd := 7) rfl rfl rfl (e_alloc (cs := [(.int .i64 0), (.int .i64 0)]) zeroT_35 rfl) ?_
        intro b_3129 _
        refine WL.eff0 rfl rfl (e_store (vs := [(.int .i64 ((nth c_2689 v_3097).fLo)), (.int .i64 ((nth c_2689 v_3097).fHi))]) (ds := [(.int .i64 ((nth c_2689 v_3097).fLo)), (.int .i64 ((nth c_2689 v_3097).fHi))]) sizT_35 rfl rfl rfl rfl (oc_cons rfl (oc_cons rfl oc_nil)) .here (Nat.le_of_ble_eq_true rfl) rfl) ?_
        refine WL.nil ?_
        refine WX.then ?_
        refine WC.seq ?_
        refine WC.region ?_
        refine WL.quiet (d := 14) rfl rfl rfl (q_fieldAddr fo_35_0 rfl rfl) ?_
        refine WL.quiet (d := 15) rfl rfl rfl (q_load1 oneT_3 rfl (rd_stb .here rfl)) ?_
        refine WL.quiet (d := 16) rfl rfl rfl (q_move rfl) ?_
        refine WL.quiet (d := 17) rfl rfl rfl (q_leq rfl rfl) ?_
        refine WL.quiet (d := 18) rfl rfl rfl (q_move rfl) ?_
        refine WL.cut0 True [(0, (.int .i64 t_2686)), (1, (.pointer (some A_2687))), (2, (.pointer (some A_2693))), (5, (.int .i64 n_3096)), (8, (.slice ao_2690 c_2689.length cap_2691)), (9, (.int .i64 ((c_2689.length : Nat) : Int))), (10, (.int .i64 v_3097)), (23, (.bool ((decide (((nth c_2689 v_3097).fLo) ≤ t_2686)) && (decide (t_2686 ≤ ((nth c_2689 v_3097).fHi))))))] [stb b_3129 35 [(.int .i64 ((nth c_2689 v_3097).fLo)), (.int .i64 ((nth c_2689 v_3097).fHi))]] 5 ?_ (fun _ => ?_)
        · rcases Bool.eq_false_or_eq_true (decide (((nth c_2689 v_3097).fLo) ≤ t_2686)) with hb' | hb'
          · have hg_3130 := hb'; clear hb'
            refine WL.pin (i := 18) rfl hg_3130 ?_
            refine WL.quiet (d := 19) rfl rfl rfl (q_move rfl) ?_
            refine WL.quiet (d := 20) rfl rfl rfl (q_fieldAddr fo_35_1 rfl rfl) ?_
            refine WL.quiet (d := 21) rfl rfl rfl (q_load1 oneT_3 rfl (rd_stb .here rfl)) ?_
            refine WL.quiet (d := 22) rfl rfl rfl (q_leq rfl rfl) ?_
            refine WL.quiet (d := 23) rfl rfl rfl (q_pickT rfl rfl) ?_
            exact WL.cutEnd () trivial (.cons rfl (.cons rfl (.cons rfl (.cons rfl (.cons rfl (.cons rfl (.cons rfl (.cons (some_bool (and_r hg_3130)) .nil)))))))) (.cons .here .nil)
          · have hg_3131 := hb'; clear hb'
            refine WL.pin (i := 18) rfl hg_3131 ?_
            refine WL.skip rfl rfl rfl ?_
            refine WL.skip rfl rfl rfl ?_
            refine WL.skip rfl rfl rfl ?_
            refine WL.skip rfl rfl rfl ?_
            refine WL.quiet (d := 23) rfl rfl rfl (q_pickF rfl rfl) ?_
            exact WL.cutEnd () trivial (.cons rfl (.cons rfl (.cons rfl (.cons rfl (.cons rfl (.cons rfl (.cons rfl (.cons (some_bool (and_l hg_3131)) .nil)))))))) (.cons .here .nil)
        · skip
          refine WL.nil ?_
          refine WX.then ?_
          refine WC.cond rfl (fun hb_3132 => ?_) (fun hb_3132 => ?_)
          · replace h := ite_t h hb_3132
            refine WC.region ?_
            refine WL.quiet (d := 24) rfl rfl rfl (q_move rfl) ?_
            refine WL.quiet (d := 25) rfl rfl rfl (q_add rfl rfl rfl) ?_
            refine WL.quiet (d := 5) rfl rfl rfl (q_assign rfl) ?_
            refine WL.nil ?_
            refine WX.blockNormal ?_
            exact WX.mid (G := Int) (i64 (n_3096 + 1)) h (.cons rfl (.cons rfl (.cons rfl (.cons rfl (.cons rfl (.cons rfl (.cons rfl .nil))))))) .nil
          · replace h := ite_f h hb_3132
            refine WC.skip ?_
            refine WX.blockNormal ?_
            exact WX.mid (G := Int) n_3096 h (.cons rfl (.cons rfl (.cons rfl (.cons rfl (.cons rfl (.cons rfl (.cons rfl .nil))))))) .nil
      · rintro n_3116 h
        replace h := (hk_3118 n_3116).symm.trans h
        refine WC.region ?_
        refine WL.quiet (d := 26) rfl rfl rfl (q_add rfl rfl rfl) ?_
        refine WL.quiet (d := 10) rfl rfl rfl (q_move rfl) ?_
        refine WL.nil ?_
        exact WX.round (G := Nat × Int × Int) ⟨n_3099, n_3116, (i64 (v_3097 + 1))⟩ h (Nat.lt_succ_self _) (.cons rfl (.cons rfl (.cons rfl (.cons rfl (.cons rfl (.cons rfl (.cons rfl .nil))))))) .nil
    · replace h := ite_f h hb_3101
      refine WC.exit ?_
      refine WX.thenExit ?_
      refine WX.thenExit ?_
      refine WX.blockHit ?_
      exact WX.mid (G := Int) n_3096 h (.cons rfl (.cons rfl (.cons rfl .nil))) .nil
  · rintro n_3023 h
    replace h := (hk_3025 n_3023).symm.trans h
    refine WC.seq ?_
    refine WC.region ?_
    refine WL.quiet (d := 27) rfl rfl rfl (q_move rfl) ?_
    refine WL.quiet (d := 28) rfl rfl rfl (q_load1 oneT_23 rfl (rd_z hz.pv hA_2688 rfl)) ?_
    refine WL.quiet (d := 29) rfl rfl rfl (q_len Try.underlying23 rfl) ?_
    refine WL.quiet (d := 30) rfl rfl rfl (q_load1 oneT_3 rfl (rd_z hz.pv hA_2694 rfl)) ?_
    refine WL.quiet (d := 31) rfl rfl rfl (q_sub rfl rfl rfl) ?_
    refine WL.quiet (d := 32) rfl rfl rfl (q_geq rfl rfl) ?_
    refine WL.quiet (d := 4) rfl rfl rfl (q_assign rfl) ?_
    refine WL.nil ?_
    refine WX.then ?_
    refine WC.ret ?_
    obtain rfl := Option.some.inj h
    refine WX.bpRet Try.results31 (.tmp rfl .nil) (fun w hw => ?_)
    exact ⟨ret1 rfl, hw.sub .nil⟩
/-- clock.Meet$4 -/
def m_clock_Meet_4 (t_3133 : Int) (f_3138 : Int → Option Bool) : Option Bool :=
  (f_3138 t_3133).bind fun x_3144 => some (!x_3144)

set_option maxRecDepth 20000 in
theorem w_clock_Meet_4 (Z : Zp) (A_3134 : Addr) (fid_3136 : FuncId) (fcaps_3137 : List Value) (t_3133 : Int) (f_3138 : Int → Option Bool) (r : Bool) (w₀ : World) (hz : PZ [] w₀ Z)
    (hcf_3139 : ∀ args w, (callFunc fid_3136 args).run Try.prog w = .ok (.enter fid_3136 args) w)
    (hfn_3140 : ∀ w : World, PZ [] w Z → ∀ (x0 : Int) (r : Bool), f_3138 x0 = some r → Calls Try.prog fid_3136 (([(.int .i64 x0)] : List Value) ++ fcaps_3137).toArray w fun e w' => e = .returned (.bool r) ∧ Hp [] w w' [])
    (hA_3135 : ZC Z A_3134 [(.func (.func fid_3136) #[] (fcaps_3137).toArray)])
    (h : m_clock_Meet_4 t_3133 f_3138 = some r) :
    Calls Try.prog 35 #[(.int .i64 t_3133), (.pointer (some A_3134))] w₀ fun e w' => e = .returned (.bool r) ∧ Hp [] w₀ w' [] := by
  unfold m_clock_Meet_4 at h
  refine Calls.ofWC (vs := [(.int .i64 t_3133), (.pointer (some A_3134))]) (pre := []) (env := [(0, (.int .i64 t_3133)), (1, (.pointer (some A_3134)))]) Try.func35 rfl Try.ntmps35 rfl (Hp.nil w₀ _) rfl ?_
  refine WC.seq ?_
  refine WC.region ?_
  refine WL.quiet (d := 3) rfl rfl rfl (q_assign rfl) ?_
  refine WL.nil ?_
  refine WX.then ?_
  refine WC.seq ?_
  obtain ⟨x_3144, hx_3145, h⟩ := bind_elim h
  refine WC.region ?_
  refine WL.quiet (d := 4) rfl rfl rfl (q_load1 oneT_57 rfl (rd_z hz.pv hA_3135 rfl)) ?_
  refine WL.quiet (d := 5) rfl rfl rfl (q_move rfl) ?_
  refine WL.callD (dd := 6) rfl rfl rfl (run_callv (l := [.tmp 5]) (f := fid_3136) (caps := fcaps_3137) hcf_3139 rfl (.cons rfl .nil)) .nil (fun w hw => hfn_3140 w (hz.now hw) t_3133 x_3144  hx_3145) ?_
  refine WL.quiet (d := 7) rfl rfl rfl (q_not rfl) ?_
  refine WL.quiet (d := 3) rfl rfl rfl (q_assign rfl) ?_
  refine WL.nil ?_
  refine WX.then ?_
  refine WC.ret ?_
  obtain rfl := Option.some.inj h
  refine WX.bpRet Try.results35 (.tmp rfl .nil) (fun w hw => ?_)
  exact ⟨ret1 rfl, hw.sub .nil⟩
def m_slices_DeleteFunc_int_int_L2 (f_3183 : Int → Option Bool) (k_3469 : (List Int) → Int → Option (List Int)) : Nat → (List Int) → Int → Int → Option (List Int)
  | 0, _, _, _ => none
  | n_3530 + 1, s_3524, i_3527, j_3528 => if decide (j_3528 < ((s_3524.length : Nat) : Int)) then jp2 (fun (s_3540 : List Int) (i_3543 : Int) => m_slices_DeleteFunc_int_int_L2 f_3183 k_3469 n_3530 s_3540 i_3543 (i64 (j_3528 + 1))) fun k_3544 => chk ((0 : Int) ≤ j_3528 ∧ j_3528 < ((s_3524.length : Nat) : Int)) ((f_3183 (nth s_3524 j_3528)).bind fun x_3549 => if !x_3549 then chk ((0 : Int) ≤ i_3527 ∧ i_3527 < ((s_3524.length : Nat) : Int)) (k_3544 (s_3524.set (i_3527 : Int).toNat (nth s_3524 j_3528)) (i64 (i_3527 + 1))) else k_3544 s_3524 i_3527) else k_3469 s_3524 i_3527
theorem m_slices_DeleteFunc_int_int_L2_fuel {n : Nat} {f_3183 : Int → Option Bool} {k_3469 : (List Int) → Int → Option (List Int)} {s_3524 : List Int} {i_3527 : Int} {j_3528 : Int} {r : List Int} (h : m_slices_DeleteFunc_int_int_L2 f_3183 k_3469 n s_3524 i_3527 j_3528 = some r) : ∃ m, n = m + 1 := by
  cases n with
  | zero => cases h
  | succ m => exact ⟨m, rfl⟩

/-- slices.DeleteFunc[[]int,int] -/
def m_slices_DeleteFunc_int_int (s_3178 : List Int) (f_3183 : Int → Option Bool) : Option (List Int) :=
  (m_slices_IndexFunc_int_int s_3178 f_3183).bind fun x_3377 => if decide (x_3377 = (-1)) then some s_3178 else jp2 (fun (s_3465 : List Int) (i_3468 : Int) => chk ((0 : Int) ≤ i_3468 ∧ i_3468 ≤ ((s_3465.length : Nat) : Int)) (chk ((0 : Int) ≤ i_3468 ∧ i_3468 ≤ (((s_3465.take (i_3468 : Int).toNat ++ List.replicate (s_3465.length - (i_3468 : Int).toNat) (0 : Int)).length : Nat) : Int)) (some ((s_3465.take (i_3468 : Int).toNat ++ List.replicate (s_3465.length - (i_3468 : Int).toNat) (0 : Int)).take (i_3468 : Int).toNat)))) fun k_3469 => m_slices_DeleteFunc_int_int_L2 f_3183 k_3469 FUEL s_3178 x_3377 (i64 (x_3377 + 1))

set_option maxRecDepth 20000 in
theorem w_slices_DeleteFunc_int_int (Z : Zp) (ao_3179 : Option Addr) (cap_3180 : Nat) (fid_3181 : FuncId) (fcaps_3182 : List Value) (s_3178 : List Int) (f_3183 : Int → Option Bool) (r : List Int) (w₀ : World) (hz : PZ (fps [row (.slice ao_3179 s_3178.length cap_3180) 3 1 (s_3178.flatMap e3)]) w₀ Z)
    (hcf_3184 : ∀ args w, (callFunc fid_3181 args).run Try.prog w = .ok (.enter fid_3181 args) w)
    (hfn_3185 : ∀ w : World, PZ [] w Z → ∀ (x0 : Int) (r : Bool), f_3183 x0 = some r → Calls Try.prog fid_3181 (([(.int .i64 x0)] : List Value) ++ fcaps_3182).toArray w fun e w' => e = .returned (.bool r) ∧ Hp [] w w' [])
    (h : m_slices_DeleteFunc_int_int s_3178 f_3183 = some r)
    (hown : Hp (fps [row (.slice ao_3179 s_3178.length cap_3180) 3 1 (s_3178.flatMap e3)]) w₀ w₀ [row (.slice ao_3179 s_3178.length cap_3180) 3 1 (s_3178.flatMap e3)]) :
    Calls Try.prog 32 #[(.slice ao_3179 s_3178.length cap_3180), (.func (.func fid_3181) #[] (fcaps_3182).toArray)] w₀ fun e w' => ∃ ao_3375 : Option Addr, ∃ cap_3376 : Nat, e = .returned (.slice ao_3375 r.length cap_3376) ∧ True ∧ Hp (fps [row (.slice ao_3179 s_3178.length cap_3180) 3 1 (s_3178.flatMap e3)]) w₀ w' [row (.slice ao_3375 r.length cap_3376) 3 1 (r.flatMap e3)] := by
  unfold m_slices_DeleteFunc_int_int at h
  refine Calls.ofWC (vs := [(.slice ao_3179 s_3178.length cap_3180), (.func (.func fid_3181) #[] (fcaps_3182).toArray)]) (pre := [row (.slice ao_3179 s_3178.length cap_3180) 3 1 (s_3178.flatMap e3)]) (env := [(0, (.slice ao_3179 s_3178.length cap_3180)), (1, (.func (.func fid_3181) #[] (fcaps_3182).toArray))]) Try.func32 rfl Try.ntmps32 rfl (hown) rfl ?_
  refine WC.seq ?_
  refine WC.region ?_
  refine WL.quiet (d := 4) rfl rfl rfl (q_assign rfl) ?_
  refine WL.nil ?_
  refine WX.then ?_
  refine WC.seq ?_
  obtain ⟨x_3377, hx_3378, h⟩ := bind_elim h
  refine WC.region ?_
  refine WL.quiet (d := 8) rfl rfl rfl (q_move rfl) ?_
  refine WL.quiet (d := 9) rfl rfl rfl (q_move rfl) ?_
  refine WL.callD (dd := 10) rfl rfl rfl (run_call (l := [.tmp 8, .tmp 9]) Try.call39 (.cons rfl (.cons rfl .nil))) (.nil : Sel [row (.slice ao_3179 s_3178.length cap_3180) 3 1 (s_3178.flatMap e3)] [] [row (.slice ao_3179 s_3178.length cap_3180) 3 1 (s_3178.flatMap e3)]) (fun w hw => by have pz := (hz.call hw (.nil : Sel [row (.slice ao_3179 s_3178.length cap_3180) 3 1 (s_3178.flatMap e3)] [] [row (.slice ao_3179 s_3178.length cap_3180) 3 1 (s_3178.flatMap e3)])).lend hw (.nil : Sel [row (.slice ao_3179 s_3178.length cap_3180) 3 1 (s_3178.flatMap e3)] [] [row (.slice ao_3179 s_3178.length cap_3180) 3 1 (s_3178.flatMap e3)]) (B := [row (.slice ao_3179 s_3178.length cap_3180) 3 1 (s_3178.flatMap e3)]) (fun _ hx' => ((.cons .here .nil) : Sel _ [row (.slice ao_3179 s_3178.length cap_3180) 3 1 (s_3178.flatMap e3)] _).mem hx'); exact w_slices_IndexFunc_int_int (Z := _) (ao_60 := ao_3179) (cap_61 := cap_3180) (fid_63 := fid_3181) (fcaps_64 := fcaps_3182) (s_59 := s_3178) (f_65 := f_3183) (r := x_3377) w pz (ZA.row (hw.lent (.nil : Sel [row (.slice ao_3179 s_3178.length cap_3180) 3 1 (s_3178.flatMap e3)] [] [row (.slice ao_3179 s_3178.length cap_3180) 3 1 (s_3178.flatMap e3)]) (B := [row (.slice ao_3179 s_3178.length cap_3180) 3 1 (s_3178.flatMap e3)]) (fun _ hx' => ((.cons .here .nil) : Sel _ [row (.slice ao_3179 s_3178.length cap_3180) 3 1 (s_3178.flatMap e3)] _).mem hx') (.head _) _) (RR.flat (enc := e3) (fun _ => rfl) _) ⟨w, pz.1⟩) hcf_3184 (fun w' hz' => hfn_3185 w' (hz'.le (Zle.left _ _))) hx_3378) ?_
  refine WL.quiet (d := 5) rfl rfl rfl (q_assign rfl) ?_
  refine WL.nil ?_
  refine WX.then ?_
  refine WC.seq ?_
  refine WC.seq ?_
  refine WC.region ?_
  refine WL.quiet (d := 11) rfl rfl rfl (q_move rfl) ?_
  refine WL.quiet (d := 12) rfl rfl rfl (q_eql rfl rfl) ?_
  refine WL.nil ?_
  refine WX.then ?_
  refine WC.cond rfl (fun hb_3380 => ?_) (fun hb_3380 => ?_)
  · replace h := ite_t h hb_3380
    refine WC.seq ?_
    refine WC.region ?_
    refine WL.quiet (d := 13) rfl rfl rfl (q_move rfl) ?_
    refine WL.quiet (d := 4) rfl rfl rfl (q_assign rfl) ?_
    refine WL.nil ?_
    refine WX.then ?_
    refine WC.ret ?_
    refine WX.thenRet ?_
    obtain rfl := Option.some.inj h
    refine WX.bpRet Try.results32 (.tmp rfl .nil) (fun w hw => ?_)
    exact ⟨ao_3179, cap_3180, ret1 rfl, trivial, hw.sub (.cons .here .nil)⟩
  · replace h := ite_f h hb_3380
    refine WC.skip ?_
    refine WX.then ?_
    obtain ⟨k_3469, hk_3470, h⟩ := jp2_elim h
    refine WC.seqMid4 (fun (s_3465 : List Int) (i_3468 : Int) (ao_3466 : Option Addr) (cap_3467 : Nat) => (k_3469 s_3465 i_3468 = some r)) (fun (s_3465 : List Int) (i_3468 : Int) (ao_3466 : Option Addr) (cap_3467 : Nat) => [(0, (.slice ao_3466 s_3465.length cap_3467)), (5, (.int .i64 i_3468))]) (fun (s_3465 : List Int) (i_3468 : Int) (ao_3466 : Option Addr) (cap_3467 : Nat) => [row (.slice ao_3466 s_3465.length cap_3467) 3 1 (s_3465.flatMap e3)]) ?_ ?_
    · skip
      refine WC.seq ?_
      refine WC.region ?_
      refine WL.quiet (d := 14) rfl rfl rfl (q_move rfl) ?_
      refine WL.quiet (d := 15) rfl rfl rfl (q_add rfl rfl rfl) ?_
      refine WL.quiet (d := 6) rfl rfl rfl (q_assign rfl) ?_
      refine WL.nil ?_
      refine WX.then ?_
      refine WC.block ?_
      refine WC.loop6 (fun (n_3529 : Nat) (s_3524 : List Int) (i_3527 : Int) (j_3528 : Int) (ao_3525 : Option Addr) (cap_3526 : Nat) => (m_slices_DeleteFunc_int_int_L2 f_3183 k_3469 n_3529 s_3524 i_3527 j_3528 = some r)) (fun (n_3529 : Nat) (s_3524 : List Int) (i_3527 : Int) (j_3528 : Int) (ao_3525 : Option Addr) (cap_3526 : Nat) => [(0, (.slice ao_3525 s_3524.length cap_3526)), (1, (.func (.func fid_3181) #[] (fcaps_3182).toArray)), (5, (.int .i64 i_3527)), (6, (.int .i64 j_3528))]) (fun (n_3529 : Nat) (s_3524 : List Int) (i_3527 : Int) (j_3528 : Int) (ao_3525 : Option Addr) (cap_3526 : Nat) => [row (.slice ao_3525 s_3524.length cap_3526) 3 1 (s_3524.flatMap e3)]) (fun (n_3529 : Nat) (s_3524 : List Int) (i_3527 : Int) (j_3528 : Int) (ao_3525 : Option Addr) (cap_3526 : Nat) => n_3529) ⟨FUEL, s_3178, x_3377, (i64 (x_3377 + 1)), ao_3179, cap_3180⟩ h (.cons rfl (.cons rfl (.cons rfl (.cons rfl .nil)))) (.cons .here .nil) ?_
      rintro n_3529 s_3524 i_3527 j_3528 ao_3525 cap_3526 h
      obtain ⟨n_3530, rfl⟩ := m_slices_DeleteFunc_int_int_L2_fuel h
      rw [m_slices_DeleteFunc_int_int_L2] at h
      refine WC.seq ?_
      refine WC.seq ?_
      refine WC.region ?_
      refine WL.quiet (d := 16) rfl rfl rfl (q_move rfl) ?_
      refine WL.quiet (d := 17) rfl rfl rfl (q_move rfl) ?_
      refine WL.quiet (d := 18) rfl rfl rfl (q_len Try.underlying22 rfl) ?_
      refine WL.quiet (d := 19) rfl rfl rfl (q_lss rfl rfl) ?_
      refine WL.nil ?_
      refine WX.then ?_
      refine WC.cond rfl (fun hb_3532 => ?_) (fun hb_3532 => ?_)
      · replace h := ite_t h hb_3532
        refine WC.skip ?_
        refine WX.then ?_
        obtain ⟨k_3544, hk_3545, h⟩ := jp2_elim h
        refine WC.seqMid4 (fun (s_3540 : List Int) (i_3543 : Int) (ao_3541 : Option Addr) (cap_3542 : Nat) => (k_3544 s_3540 i_3543 = some r)) (fun (s_3540 : List Int) (i_3543 : Int) (ao_3541 : Option Addr) (cap_3542 : Nat) => [(0, (.slice ao_3541 s_3540.length cap_3542)), (1, (.func (.func fid_3181) #[] (fcaps_3182).toArray)), (5, (.int .i64 i_3543)), (6, (.int .i64 j_3528))]) (fun (s_3540 : List Int) (i_3543 : Int) (ao_3541 : Option Addr) (cap_3542 : Nat) => [row (.slice ao_3541 s_3540.length cap_3542) 3 1 (s_3540.flatMap e3)]) ?_ ?_
        · skip
          refine WC.block ?_
          refine WC.seq ?_
          obtain ⟨c_3546, h⟩ := chk_elim h
          refine WC.region ?_
          refine WL.quiet (d := 22) rfl rfl rfl (q_move rfl) ?_
          refine WL.quiet (d := 23) rfl rfl rfl (q_move rfl) ?_
          refine WL.know (fun w hw => Hp.expose .here hw (by intro hz'; have := c_3546; rw [hz'] at this; omega)) ?_
          rintro ⟨b_3548, rfl⟩
          refine WL.quiet (d := 24) rfl rfl rfl (q_indexAddr elT_22 rfl rfl c_3546.1 c_3546.2 rowAdd) ?_
          refine WL.quiet (d := 25) rfl rfl rfl (q_load1 oneT_3 rfl (rd_row .here ((flat_rd (enc := e3) (l := s_3524) (i := j_3528) (sz := 1) (fun _ => rfl) c_3546.1 c_3546.2) 0 _ rfl))) ?_
          refine WL.quiet (d := 7) rfl rfl rfl (q_assign rfl) ?_
          refine WL.nil ?_
          refine WX.then ?_
          refine WC.seq ?_
          obtain ⟨x_3549, hx_3550, h⟩ := bind_elim h
          refine WC.region ?_
          refine WL.quiet (d := 26) rfl rfl rfl (q_move rfl) ?_
          refine WL.quiet (d := 27) rfl rfl rfl (q_move rfl) ?_
          refine WL.callD (dd := 28) rfl rfl rfl (run_callv (l := [.tmp 27]) (f := fid_3181) (caps := fcaps_3182) hcf_3184 rfl (.cons rfl .nil)) .nil (fun w hw => hfn_3185 w (hz.now hw) (nth s_3524 j_3528) x_3549  hx_3550) ?_
          refine WL.quiet (d := 29) rfl rfl rfl (q_not rfl) ?_
          refine WL.nil ?_
          refine WX.then ?_
          refine WC.cond rfl (fun hb_3551 => ?_) (fun hb_3551 => ?_)
          · replace h := ite_t h hb_3551
            refine WC.seq ?_
            obtain ⟨c_3552, h⟩ := chk_elim h
            refine WC.region ?_
            refine WL.quiet (d := 30) rfl rfl rfl (q_move rfl) ?_
            refine WL.quiet (d := 31) rfl rfl rfl (q_move rfl) ?_
            refine WL.quiet (d := 32) rfl rfl rfl (q_move rfl) ?_
            refine WL.quiet (d := 33) rfl rfl rfl (q_indexAddr elT_22 rfl rfl c_3552.1 c_3552.2 rowAdd) ?_
            refine WL.eff0 rfl rfl (e_rowStore (vs := [(.int .i64 (nth s_3524 j_3528))]) (ds := (s_3524.set (i_3527 : Int).toNat (nth s_3524 j_3528)).flatMap e3) sizT_3 rfl rfl rfl rfl (oc_cons rfl oc_nil) .here (flat_fit (enc := e3) (sz := 1) (k := 0) (fun _ => rfl) c_3552.1 c_3552.2 (by decide)) (flat_put (enc := e3) (l := s_3524) (sz := 1) (vs := [(.int .i64 (nth s_3524 j_3528))]) (y := (nth s_3524 j_3528)) (k := 0) (fun _ => rfl) c_3552.1 c_3552.2 rfl (Nat.le_of_ble_eq_true rfl))) ?_
            refine WL.relen .here (u := (.slice (some ⟨b_3548, 0, none⟩) ((s_3524.set (i_3527 : Int).toNat (nth s_3524 j_3528)).length) cap_3526)) (slen (List.length_set).symm) ?_
            refine WL.repin (i := 0) rfl (u := (.slice (some ⟨b_3548, 0, none⟩) ((s_3524.set (i_3527 : Int).toNat (nth s_3524 j_3528)).length) cap_3526)) (slen (List.length_set).symm) ?_
            refine WL.nil ?_
            refine WX.then ?_
            refine WC.region ?_
            refine WL.quiet (d := 34) rfl rfl rfl (q_move rfl) ?_
            refine WL.quiet (d := 35) rfl rfl rfl (q_add rfl rfl rfl) ?_
            refine WL.quiet (d := 5) rfl rfl rfl (q_assign rfl) ?_
            refine WL.nil ?_
            refine WX.blockNormal ?_
            exact WX.mid (G := List Int × Int × Option Addr × Nat) ⟨(s_3524.set (i_3527 : Int).toNat (nth s_3524 j_3528)), (i64 (i_3527 + 1)), (some ⟨b_3548, 0, none⟩), cap_3526⟩ h (.cons rfl (.cons rfl (.cons rfl (.cons rfl .nil)))) (.cons .here .nil)
          · replace h := ite_f h hb_3551
            refine WC.skip ?_
            refine WX.blockNormal ?_
            exact WX.mid (G := List Int × Int × Option Addr × Nat) ⟨s_3524, i_3527, (some ⟨b_3548, 0, none⟩), cap_3526⟩ h (.cons rfl (.cons rfl (.cons rfl (.cons rfl .nil)))) (.cons .here .nil)
        · rintro s_3540 i_3543 ao_3541 cap_3542 h
          replace h := (hk_3545 s_3540 i_3543).symm.trans h
          refine WC.region ?_
          refine WL.quiet (d := 20) rfl rfl rfl (q_move rfl) ?_
          refine WL.quiet (d := 21) rfl rfl rfl (q_add rfl rfl rfl) ?_
          refine WL.quiet (d := 6) rfl rfl rfl (q_assign rfl) ?_
          refine WL.nil ?_
          exact WX.round (G := Nat × List Int × Int × Int × Option Addr × Nat) ⟨n_3530, s_3540, i_3543, (i64 (j_3528 + 1)), ao_3541, cap_3542⟩ h (Nat.lt_succ_self _) (.cons rfl (.cons rfl (.cons rfl (.cons rfl .nil)))) (.cons .here .nil)
      · replace h := ite_f h hb_3532
        refine WC.exit ?_
        refine WX.thenExit ?_
        refine WX.thenExit ?_
        refine WX.blockHit ?_
        exact WX.mid (G := List Int × Int × Option Addr × Nat) ⟨s_3524, i_3527, ao_3525, cap_3526⟩ h (.cons rfl (.cons rfl .nil)) (.cons .here .nil)
    · rintro s_3465 i_3468 ao_3466 cap_3467 h
      replace h := (hk_3470 s_3465 i_3468).symm.trans h
      refine WC.seq ?_
      obtain ⟨c_3553, h⟩ := chk_elim h
      refine WC.region ?_
      refine WL.quiet (d := 36) rfl rfl rfl (q_move rfl) ?_
      refine WL.quiet (d := 37) rfl rfl rfl (q_move rfl) ?_
      refine WL.rowLoD (dd := 38) rfl rfl elT_22 rfl rfl .here c_3553 ?_
      intro ao_3557 c_3558 hao_3559
      refine WL.eff0 rfl rfl (e_clearTailD (enc := e3) (z0 := (0 : Int)) (l := s_3465) elT_22 zeroT_3 rfl hao_3559 c_3553 (fun _ => rfl) (by decide) rfl e3_oc .here) ?_
      refine WL.relen .here (u := (.slice ao_3466 ((s_3465.take (i_3468 : Int).toNat ++ List.replicate (s_3465.length - (i_3468 : Int).toNat) (0 : Int)).length) cap_3467)) (slen (take_rep_len c_3553).symm) ?_
      refine WL.repin (i := 0) rfl (u := (.slice ao_3466 ((s_3465.take (i_3468 : Int).toNat ++ List.replicate (s_3465.length - (i_3468 : Int).toNat) (0 : Int)).length) cap_3467)) (slen (take_rep_len c_3553).symm) ?_
      refine WL.nil ?_
      refine WX.then ?_
      refine WC.seq ?_
      obtain ⟨c_3560, h⟩ := chk_elim h
      refine WC.region ?_
      refine WL.quiet (d := 39) rfl rfl rfl (q_move rfl) ?_
      refine WL.quiet (d := 40) rfl rfl rfl (q_move rfl) ?_
      refine WL.rowHiD (dd := 41) (enc := e3) (ls := s_3465.take (i_3468 : Int).toNat ++ List.replicate (s_3465.length - (i_3468 : Int).toNat) (0 : Int)) rfl rfl elT_22 rfl rfl .here (fun _ => rfl) c_3560 ?_
      intro ao_3563 cap_3564
      refine WL.quiet (d := 4) rfl rfl rfl (q_assign rfl) ?_
      refine WL.nil ?_
      refine WX.then ?_
      refine WC.ret ?_
      obtain rfl := Option.some.inj h
      refine WX.bpRet Try.results32 (.tmp rfl .nil) (fun w hw => ?_)
      exact ⟨ao_3563, cap_3564, ret1 rfl, trivial, hw.sub (.cons .here .nil)⟩
/-- clock.Meet$5 -/
def m_clock_Meet_5 (s_3574 : Sapi_Span) : Option Int :=
  some s_3574.fHi

set_option maxRecDepth 20000 in
theorem w_clock_Meet_5 (Z : Zp)  (s_3574 : Sapi_Span) (r : Int) (w₀ : World) (hz : PZ [] w₀ Z)
    (h : m_clock_Meet_5 s_3574 = some r) :
    Calls Try.prog 36 #[(.agg #[(.int .i64 s_3574.fLo), (.int .i64 s_3574.fHi)])] w₀ fun e w' => e = .returned (.int .i64 r) ∧ Hp [] w₀ w' [] := by
  unfold m_clock_Meet_5 at h
  refine Calls.ofWC (vs := [(.agg #[(.int .i64 s_3574.fLo), (.int .i64 s_3574.fHi)])]) (pre := []) (env := [(0, (.agg #[(.int .i64 s_3574.fLo), (.int .i64 s_3574.fHi)]))]) Try.func36 rfl Try.ntmps36 rfl (Hp.nil w₀ _) rfl ?_
  refine WC.seq ?_
  refine WC.region ?_
  refine WL.new (dd := 1) rfl rfl rfl (e_box (cs := [(.int .i64 s_3574.fLo), (.int .i64 s_3574.fHi)]) rfl rfl) ?_
  intro b_3579 _
  refine WL.quiet (d := 2) rfl rfl rfl (q_assign rfl) ?_
  refine WL.nil ?_
  refine WX.then ?_
  refine WC.seq ?_
  refine WC.region ?_
  refine WL.quiet (d := 3) rfl rfl rfl (q_fieldAddr fo_35_1 rfl rfl) ?_
  refine WL.quiet (d := 4) rfl rfl rfl (q_load1 oneT_3 rfl (rd_stb .here rfl)) ?_
  refine WL.quiet (d := 2) rfl rfl rfl (q_assign rfl) ?_
  refine WL.nil ?_
  refine WX.then ?_
  refine WC.ret ?_
  obtain rfl := Option.some.inj h
  refine WX.bpRet Try.results36 (.tmp rfl .nil) (fun w hw => ?_)
  exact ⟨ret1 rfl, hw.sub .nil⟩
/-- clock.Meet$6 -/
def m_clock_Meet_6 (t_3585 : Int) (f_3590 : Int → Option Bool) : Option Bool :=
  (f_3590 t_3585).bind fun x_3596 => some (!x_3596)

set_option maxRecDepth 20000 in
theorem w_clock_Meet_6 (Z : Zp) (A_3586 : Addr) (fid_3588 : FuncId) (fcaps_3589 : List Value) (t_3585 : Int) (f_3590 : Int → Option Bool) (r : Bool) (w₀ : World) (hz : PZ [] w₀ Z)
    (hcf_3591 : ∀ args w, (callFunc fid_3588 args).run Try.prog w = .ok (.enter fid_3588 args) w)
    (hfn_3592 : ∀ w : World, PZ [] w Z → ∀ (x0 : Int) (r : Bool), f_3590 x0 = some r → Calls Try.prog fid_3588 (([(.int .i64 x0)] : List Value) ++ fcaps_3589).toArray w fun e w' => e = .returned (.bool r) ∧ Hp [] w w' [])
    (hA_3587 : ZC Z A_3586 [(.func (.func fid_3588) #[] (fcaps_3589).toArray)])
    (h : m_clock_Meet_6 t_3585 f_3590 = some r) :
    Calls Try.prog 37 #[(.int .i64 t_3585), (.pointer (some A_3586))] w₀ fun e w' => e = .returned (.bool r) ∧ Hp [] w₀ w' [] := by
  unfold m_clock_Meet_6 at h
  refine Calls.ofWC (vs := [(.int .i64 t_3585), (.pointer (some A_3586))]) (pre := []) (env := [(0, (.int .i64 t_3585)), (1, (.pointer (some A_3586)))]) Try.func37 rfl Try.ntmps37 rfl (Hp.nil w₀ _) rfl ?_
  refine WC.seq ?_
  refine WC.region ?_
  refine WL.quiet (d := 3) rfl rfl rfl (q_assign rfl) ?_
  refine WL.nil ?_
  refine WX.then ?_
  refine WC.seq ?_
  obtain ⟨x_3596, hx_3597, h⟩ := bind_elim h
  refine WC.region ?_
  refine WL.quiet (d := 4) rfl rfl rfl (q_load1 oneT_57 rfl (rd_z hz.pv hA_3587 rfl)) ?_
  refine WL.quiet (d := 5) rfl rfl rfl (q_move rfl) ?_
  refine WL.callD (dd := 6) rfl rfl rfl (run_callv (l := [.tmp 5]) (f := fid_3588) (caps := fcaps_3589) hcf_3591 rfl (.cons rfl .nil)) .nil (fun w hw => hfn_3592 w (hz.now hw) t_3585 x_3596  hx_3597) ?_
  refine WL.quiet (d := 7) rfl rfl rfl (q_not rfl) ?_
  refine WL.quiet (d := 3) rfl rfl rfl (q_assign rfl) ?_
  refine WL.nil ?_
  refine WX.then ?_
  refine WC.ret ?_
  obtain rfl := Option.some.inj h
  refine WX.bpRet Try.results37 (.tmp rfl .nil) (fun w hw => ?_)
  exact ⟨ret1 rfl, hw.sub .nil⟩
/-- clock.Meet -/
def m_clock_Meet (l_1652 : List Sapi_Span) (f_1656 : Int) : Option (Sapi_Span × Int) :=
  (m_clock_fits ((l_1652.length : Nat) : Int) f_1656).bind fun x_3636 => (if !x_3636 then some true else (m_slices_ContainsFunc_api_Span_api_Span l_1652 (fun (y0 : Sapi_Span) => m_clock_Meet_1 y0)).bind fun x_3638 => some x_3638).bind fun b_3640 => if b_3640 then some ((⟨0, 0⟩ : Sapi_Span), 2) else (m_clock_each_api_Span l_1652 (fun (y0 : Sapi_Span) => m_clock_Meet_3 y0)).bind fun x_3649 => (m_slices_DeleteFunc_int_int x_3649 (fun (y0 : Int) => m_clock_Meet_4 y0 (fun (y0 : Int) => m_clock_Meet_2 y0 l_1652 f_1656))).bind fun x_3654 => (m_clock_each_api_Span l_1652 (fun (y0 : Sapi_Span) => m_clock_Meet_5 y0)).bind fun x_3663 => (m_slices_DeleteFunc_int_int x_3663 (fun (y0 : Int) => m_clock_Meet_6 y0 (fun (y0 : Int) => m_clock_Meet_2 y0 l_1652 f_1656))).bind fun x_3668 => if decide (((x_3654.length : Nat) : Int) = 0) then some ((⟨0, 0⟩ : Sapi_Span), 6) else chk ((0 : Int) ≤ 0 ∧ 0 < ((x_3654.length : Nat) : Int)) (chk ((0 : Int) ≤ (i64 (((x_3668.length : Nat) : Int) - 1)) ∧ (i64 (((x_3668.length : Nat) : Int) - 1)) < ((x_3668.length : Nat) : Int)) (some ((⟨(nth x_3654 0), (nth x_3668 (i64 (((x_3668.length : Nat) : Int) - 1)))⟩ : Sapi_Span), 0)))

set_option maxRecDepth 20000 in
theorem w_clock_Meet (Z : Zp) (ao_1653 : Option Addr) (cap_1654 : Nat) (l_1652 : List Sapi_Span) (f_1656 : Int) (r : Sapi_Span × Int) (w₀ : World) (hz : PZ [] w₀ Z)
    (hs_1655 : ZS Z 2 (fun r x => r = e35 x) ao_1653 cap_1654 l_1652)
    (h : m_clock_Meet l_1652 f_1656 = some r) :
    Calls Try.prog 15 #[(.slice ao_1653 l_1652.length cap_1654), (.int .i64 f_1656)] w₀ fun e w' => e = .returned (.tuple #[(.agg #[(.int .i64 r.1.fLo), (.int .i64 r.1.fHi)]), (.int .i64 r.2)]) ∧ Hp [] w₀ w' [] := by
  unfold m_clock_Meet at h
  refine Calls.ofWC (vs := [(.slice ao_1653 l_1652.length cap_1654), (.int .i64 f_1656)]) (pre := []) (env := [(0, (.slice ao_1653 l_1652.length cap_1654)), (1, (.int .i64 f_1656))]) Try.func15 rfl Try.ntmps15 rfl (Hp.nil w₀ _) rfl ?_
  refine WC.seq ?_
  refine WC.region ?_
  refine WL.new (dd := 2) rfl rfl rfl (e_box (cs := [(.slice ao_1653 l_1652.length cap_1654)]) rfl rfl) ?_
  intro b_3622 _
  refine WL.new (dd := 3) rfl rfl rfl (e_box (cs := [(.int .i64 f_1656)]) rfl rfl) ?_
  intro b_3623 _
  refine WL.new (dd := 4) rfl rfl rfl (e_alloc (cs := [(.int .i64 0), (.int .i64 0)]) zeroT_35 rfl) ?_
  intro b_3624 _
  refine WL.quiet (d := 5) rfl rfl rfl (q_assign rfl) ?_
  refine WL.nil ?_
  refine WX.then ?_
  refine WC.seq ?_
  refine WC.seq ?_
  obtain ⟨x_3636, hx_3637, h⟩ := bind_elim h
  obtain ⟨b_3640, hb_3641, h⟩ := bind_elim h
  refine WC.region ?_
  refine WL.quiet (d := 9) rfl rfl rfl (q_load1 oneT_23 rfl (rd_stb (.there (.there .here)) rfl)) ?_
  refine WL.quiet (d := 10) rfl rfl rfl (q_len Try.underlying23 rfl) ?_
  refine WL.quiet (d := 11) rfl rfl rfl (q_load1 oneT_3 rfl (rd_stb (.there .here) rfl)) ?_
  refine WL.callD (dd := 12) rfl rfl rfl (run_call (l := [.tmp 10, .tmp 11]) Try.call20 (.cons rfl (.cons rfl .nil))) (.nil : Sel [stb b_3624 35 [(.int .i64 0), (.int .i64 0)], stb b_3623 3 [(.int .i64 f_1656)], stb b_3622 23 [(.slice ao_1653 l_1652.length cap_1654)]] [] [stb b_3624 35 [(.int .i64 0), (.int .i64 0)], stb b_3623 3 [(.int .i64 f_1656)], stb b_3622 23 [(.slice ao_1653 l_1652.length cap_1654)]]) (fun w hw => by have pz := (hz.call hw (.nil : Sel [stb b_3624 35 [(.int .i64 0), (.int .i64 0)], stb b_3623 3 [(.int .i64 f_1656)], stb b_3622 23 [(.slice ao_1653 l_1652.length cap_1654)]] [] [stb b_3624 35 [(.int .i64 0), (.int .i64 0)], stb b_3623 3 [(.int .i64 f_1656)], stb b_3622 23 [(.slice ao_1653 l_1652.length cap_1654)]])); exact w_clock_fits (Z := _)  (n_21 := ((l_1652.length : Nat) : Int)) (f_22 := f_1656) (r := x_3636) w pz  hx_3637) ?_
  refine WL.quiet (d := 13) rfl rfl rfl (q_not rfl) ?_
  refine WL.quiet (d := 14) rfl rfl rfl (q_move rfl) ?_
  refine WL.cut0 True [(2, (.pointer (some ⟨b_3622, 0, none⟩))), (3, (.pointer (some ⟨b_3623, 0, none⟩))), (4, (.pointer (some ⟨b_3624, 0, none⟩))), (17, (.bool b_3640))] [stb b_3624 35 [(.int .i64 0), (.int .i64 0)], stb b_3623 3 [(.int .i64 f_1656)], stb b_3622 23 [(.slice ao_1653 l_1652.length cap_1654)]] 3 ?_ (fun _ => ?_)
  · rcases Bool.eq_false_or_eq_true (!x_3636) with hb' | hb'
    · have hg_3642 := hb'; clear hb'
      have hq_3643 := ite_t hb_3641 hg_3642
      replace hq_3643 := Option.some.inj hq_3643
      refine WL.pin (i := 14) rfl hg_3642 ?_
      refine WL.skip rfl rfl rfl ?_
      refine WL.skip rfl rfl rfl ?_
      refine WL.quiet (d := 17) rfl rfl rfl (q_pickT rfl rfl) ?_
      exact WL.cutEnd () trivial (.cons rfl (.cons rfl (.cons rfl (.cons (some_bool hq_3643) .nil)))) (.cons .here (.cons .here (.cons .here .nil)))
    · have hg_3644 := hb'; clear hb'
      have hq_3645 := ite_f hb_3641 hg_3644
      obtain ⟨x_3638, hx_3639, hq_3645⟩ := bind_elim hq_3645
      replace hq_3645 := Option.some.inj hq_3645
      refine WL.pin (i := 14) rfl hg_3644 ?_
      refine WL.quiet (d := 15) rfl rfl rfl (q_load1 oneT_23 rfl (rd_stb (.there (.there .here)) rfl)) ?_
      refine WL.callD (dd := 16) rfl rfl rfl (run_call (l := [.tmp 15, .func 30]) Try.call29 (.cons rfl (.cons rfl .nil))) (.nil : Sel [stb b_3624 35 [(.int .i64 0), (.int .i64 0)], stb b_3623 3 [(.int .i64 f_1656)], stb b_3622 23 [(.slice ao_1653 l_1652.length cap_1654)]] [] [stb b_3624 35 [(.int .i64 0), (.int .i64 0)], stb b_3623 3 [(.int .i64 f_1656)], stb b_3622 23 [(.slice ao_1653 l_1652.length cap_1654)]]) (fun w hw => by have pz := (hz.call hw (.nil : Sel [stb b_3624 35 [(.int .i64 0), (.int .i64 0)], stb b_3623 3 [(.int .i64 f_1656)], stb b_3622 23 [(.slice ao_1653 l_1652.length cap_1654)]] [] [stb b_3624 35 [(.int .i64 0), (.int .i64 0)], stb b_3623 3 [(.int .i64 f_1656)], stb b_3622 23 [(.slice ao_1653 l_1652.length cap_1654)]])); exact w_slices_ContainsFunc_api_Span_api_Span (Z := _) (ao_1696 := ao_1653) (cap_1697 := cap_1654) (fid_1699 := 30) (fcaps_1700 := []) (s_1695 := l_1652) (f_1701 := (fun (y0 : Sapi_Span) => m_clock_Meet_1 y0)) (r := x_3638) w pz hs_1655 Try.call30 (fun w' hz' y0  r  hr => w_clock_Meet_1 (Z := _)  (s_1665 := y0) (r := r) w' hz'  hr) hx_3639) ?_
      refine WL.quiet (d := 17) rfl rfl rfl (q_pickF rfl rfl) ?_
      exact WL.cutEnd () trivial (.cons rfl (.cons rfl (.cons rfl (.cons (some_bool hq_3645) .nil)))) (.cons .here (.cons .here (.cons .here .nil)))
  · skip
    refine WL.nil ?_
    refine WX.then ?_
    refine WC.cond rfl (fun hb_3646 => ?_) (fun hb_3646 => ?_)
    · replace h := ite_t h hb_3646
      refine WC.seq ?_
      refine WC.region ?_
      refine WL.quiet (d := 18) rfl rfl rfl (q_build (v := (.agg #[(.int .i64 0), (.int .i64 0)])) (Eos.parts (l := []) .nil []) (fun _ => by kernel_rfl)) ?_
      refine WL.eff0 rfl rfl (e_store (vs := [(.int .i64 0), (.int .i64 0)]) (ds := [(.int .i64 0), (.int .i64 0)]) sizT_35 rfl rfl rfl rfl (oc_cons rfl (oc_cons rfl oc_nil)) .here (Nat.le_of_ble_eq_true rfl) rfl) ?_
      refine WL.quiet (d := 5) rfl rfl rfl (q_assign rfl) ?_
      refine WL.nil ?_
      refine WX.then ?_
      refine WC.ret ?_
      refine WX.thenRet ?_
      obtain rfl := Option.some.inj h
      refine WX.bpRet Try.results15 (.agg rfl aggT_35 rfl (rd_all .here) (.tmp rfl .nil)) (fun w hw => ?_)
      exact ⟨ret2 rfl rfl, hw.sub .nil⟩
    · replace h := ite_f h hb_3646
      refine WC.skip ?_
      refine WX.then ?_
      refine WC.seq ?_
      refine WC.region ?_
      refine WL.quiet (d := 19) rfl rfl rfl (q_makeFunc (Eos.caps (l := [.tmp 2, .tmp 3]) (.cons rfl (.cons rfl .nil)))) ?_
      refine WL.new (dd := 6) rfl rfl rfl (e_alloc (cs := [.nilFunc]) zeroT_57 rfl) ?_
      intro b_3648 _
      refine WL.eff0 rfl rfl (e_store (vs := [(.func (.func 31) #[] #[(.pointer (some ⟨b_3622, 0, none⟩)), (.pointer (some ⟨b_3623, 0, none⟩))])]) (ds := [(.func (.func 31) #[] #[(.pointer (some ⟨b_3622, 0, none⟩)), (.pointer (some ⟨b_3623, 0, none⟩))])]) sizT_57 rfl rfl rfl rfl (oc_cons rfl oc_nil) .here (Nat.le_of_ble_eq_true rfl) rfl) ?_
      refine WL.nil ?_
      refine WX.then ?_
      refine WC.seq ?_
      obtain ⟨x_3649, hx_3650, h⟩ := bind_elim h
      obtain ⟨x_3654, hx_3655, h⟩ := bind_elim h
      refine WC.region ?_
      refine WL.quiet (d := 20) rfl rfl rfl (q_load1 oneT_23 rfl (rd_stb (.there (.there (.there .here))) rfl)) ?_
      refine WL.enter2 (dd := 21) rfl rfl rfl (run_call (l := [.tmp 20, .func 34]) Try.call33 (.cons rfl (.cons rfl .nil))) (.nil : Sel [stb b_3648 57 [(.func (.func 31) #[] #[(.pointer (some ⟨b_3622, 0, none⟩)), (.pointer (some ⟨b_3623, 0, none⟩))])], stb b_3624 35 [(.int .i64 0), (.int .i64 0)], stb b_3623 3 [(.int .i64 f_1656)], stb b_3622 23 [(.slice ao_1653 l_1652.length cap_1654)]] [] [stb b_3648 57 [(.func (.func 31) #[] #[(.pointer (some ⟨b_3622, 0, none⟩)), (.pointer (some ⟨b_3623, 0, none⟩))])], stb b_3624 35 [(.int .i64 0), (.int .i64 0)], stb b_3623 3 [(.int .i64 f_1656)], stb b_3622 23 [(.slice ao_1653 l_1652.length cap_1654)]]) (fun w hw => by have pz := (hz.call hw (.nil : Sel [stb b_3648 57 [(.func (.func 31) #[] #[(.pointer (some ⟨b_3622, 0, none⟩)), (.pointer (some ⟨b_3623, 0, none⟩))])], stb b_3624 35 [(.int .i64 0), (.int .i64 0)], stb b_3623 3 [(.int .i64 f_1656)], stb b_3622 23 [(.slice ao_1653 l_1652.length cap_1654)]] [] [stb b_3648 57 [(.func (.func 31) #[] #[(.pointer (some ⟨b_3622, 0, none⟩)), (.pointer (some ⟨b_3623, 0, none⟩))])], stb b_3624 35 [(.int .i64 0), (.int .i64 0)], stb b_3623 3 [(.int .i64 f_1656)], stb b_3622 23 [(.slice ao_1653 l_1652.length cap_1654)]])); exact w_clock_each_api_Span (Z := _) (ao_2080 := ao_1653) (cap_2081 := cap_1654) (fid_2083 := 34) (fcaps_2084 := []) (l_2079 := l_1652) (f_2085 := (fun (y0 : Sapi_Span) => m_clock_Meet_3 y0)) (r := x_3649) w pz hs_1655 Try.call34 (fun w' hz' y0  r  hr => w_clock_Meet_3 (Z := _)  (s_2073 := y0) (r := r) w' hz'  hr) hx_3650) ?_
      rintro ao_3658 cap_3659 _
      refine WL.quiet (d := 22) rfl rfl rfl (q_makeFunc (Eos.caps (l := [.tmp 6]) (.cons rfl .nil))) ?_
      refine WL.enter2 (dd := 23) rfl rfl rfl (run_call (l := [.tmp 21, .tmp 22]) Try.call32 (.cons rfl (.cons rfl .nil))) ((.cons .here .nil) : Sel [row (.slice ao_3658 x_3649.length cap_3659) 3 1 (x_3649.flatMap e3), stb b_3648 57 [(.func (.func 31) #[] #[(.pointer (some ⟨b_3622, 0, none⟩)), (.pointer (some ⟨b_3623, 0, none⟩))])], stb b_3624 35 [(.int .i64 0), (.int .i64 0)], stb b_3623 3 [(.int .i64 f_1656)], stb b_3622 23 [(.slice ao_1653 l_1652.length cap_1654)]] [row (.slice ao_3658 x_3649.length cap_3659) 3 1 (x_3649.flatMap e3)] [stb b_3648 57 [(.func (.func 31) #[] #[(.pointer (some ⟨b_3622, 0, none⟩)), (.pointer (some ⟨b_3623, 0, none⟩))])], stb b_3624 35 [(.int .i64 0), (.int .i64 0)], stb b_3623 3 [(.int .i64 f_1656)], stb b_3622 23 [(.slice ao_1653 l_1652.length cap_1654)]]) (fun w hw => by have pz := (hz.call hw ((.cons .here .nil) : Sel [row (.slice ao_3658 x_3649.length cap_3659) 3 1 (x_3649.flatMap e3), stb b_3648 57 [(.func (.func 31) #[] #[(.pointer (some ⟨b_3622, 0, none⟩)), (.pointer (some ⟨b_3623, 0, none⟩))])], stb b_3624 35 [(.int .i64 0), (.int .i64 0)], stb b_3623 3 [(.int .i64 f_1656)], stb b_3622 23 [(.slice ao_1653 l_1652.length cap_1654)]] [row (.slice ao_3658 x_3649.length cap_3659) 3 1 (x_3649.flatMap e3)] [stb b_3648 57 [(.func (.func 31) #[] #[(.pointer (some ⟨b_3622, 0, none⟩)), (.pointer (some ⟨b_3623, 0, none⟩))])], stb b_3624 35 [(.int .i64 0), (.int .i64 0)], stb b_3623 3 [(.int .i64 f_1656)], stb b_3622 23 [(.slice ao_1653 l_1652.length cap_1654)]])).lend hw ((.cons .here .nil) : Sel [row (.slice ao_3658 x_3649.length cap_3659) 3 1 (x_3649.flatMap e3), stb b_3648 57 [(.func (.func 31) #[] #[(.pointer (some ⟨b_3622, 0, none⟩)), (.pointer (some ⟨b_3623, 0, none⟩))])], stb b_3624 35 [(.int .i64 0), (.int .i64 0)], stb b_3623 3 [(.int .i64 f_1656)], stb b_3622 23 [(.slice ao_1653 l_1652.length cap_1654)]] [row (.slice ao_3658 x_3649.length cap_3659) 3 1 (x_3649.flatMap e3)] [stb b_3648 57 [(.func (.func 31) #[] #[(.pointer (some ⟨b_3622, 0, none⟩)), (.pointer (some ⟨b_3623, 0, none⟩))])], stb b_3624 35 [(.int .i64 0), (.int .i64 0)], stb b_3623 3 [(.int .i64 f_1656)], stb b_3622 23 [(.slice ao_1653 l_1652.length cap_1654)]]) (B := [stb b_3648 57 [(.func (.func 31) #[] #[(.pointer (some ⟨b_3622, 0, none⟩)), (.pointer (some ⟨b_3623, 0, none⟩))])], stb b_3622 23 [(.slice ao_1653 l_1652.length cap_1654)], stb b_3623 3 [(.int .i64 f_1656)]]) (fun _ hx' => ((.cons .here (.cons (.there (.there .here)) (.cons (.there .here) .nil))) : Sel _ [stb b_3648 57 [(.func (.func 31) #[] #[(.pointer (some ⟨b_3622, 0, none⟩)), (.pointer (some ⟨b_3623, 0, none⟩))])], stb b_3622 23 [(.slice ao_1653 l_1652.length cap_1654)], stb b_3623 3 [(.int .i64 f_1656)]] _).mem hx'); exact w_slices_DeleteFunc_int_int (Z := _) (ao_3179 := ao_3658) (cap_3180 := cap_3659) (fid_3181 := 35) (fcaps_3182 := [(.pointer (some ⟨b_3648, 0, none⟩))]) (s_3178 := x_3649) (f_3183 := (fun (y0 : Int) => m_clock_Meet_4 y0 (fun (y0 : Int) => m_clock_Meet_2 y0 l_1652 f_1656))) (r := x_3654) w pz Try.call35 (fun w' hz' y0  r  hr => w_clock_Meet_4 (Z := _) (A_3134 := ⟨b_3648, 0, none⟩) (fid_3136 := 31) (fcaps_3137 := [(.pointer (some ⟨b_3622, 0, none⟩)), (.pointer (some ⟨b_3623, 0, none⟩))]) (t_3133 := y0) (f_3138 := (fun (y0 : Int) => m_clock_Meet_2 y0 l_1652 f_1656)) (r := r) w' hz' Try.call31 (fun w' hz' y0  r  hr => w_clock_Meet_2 (Z := _) (A_2687 := ⟨b_3622, 0, none⟩) (ao_2690 := ao_1653) (cap_2691 := cap_1654) (A_2693 := ⟨b_3623, 0, none⟩) (t_2686 := y0) (c_2689 := l_1652) (c_2695 := f_1656) (r := r) w' hz' (hs_1655.mono (Zle.left _ _)) ((hw.lent ((.cons .here .nil) : Sel [row (.slice ao_3658 x_3649.length cap_3659) 3 1 (x_3649.flatMap e3), stb b_3648 57 [(.func (.func 31) #[] #[(.pointer (some ⟨b_3622, 0, none⟩)), (.pointer (some ⟨b_3623, 0, none⟩))])], stb b_3624 35 [(.int .i64 0), (.int .i64 0)], stb b_3623 3 [(.int .i64 f_1656)], stb b_3622 23 [(.slice ao_1653 l_1652.length cap_1654)]] [row (.slice ao_3658 x_3649.length cap_3659) 3 1 (x_3649.flatMap e3)] [stb b_3648 57 [(.func (.func 31) #[] #[(.pointer (some ⟨b_3622, 0, none⟩)), (.pointer (some ⟨b_3623, 0, none⟩))])], stb b_3624 35 [(.int .i64 0), (.int .i64 0)], stb b_3623 3 [(.int .i64 f_1656)], stb b_3622 23 [(.slice ao_1653 l_1652.length cap_1654)]]) (B := [stb b_3648 57 [(.func (.func 31) #[] #[(.pointer (some ⟨b_3622, 0, none⟩)), (.pointer (some ⟨b_3623, 0, none⟩))])], stb b_3622 23 [(.slice ao_1653 l_1652.length cap_1654)], stb b_3623 3 [(.int .i64 f_1656)]]) (fun _ hx' => ((.cons .here (.cons (.there (.there .here)) (.cons (.there .here) .nil))) : Sel _ [stb b_3648 57 [(.func (.func 31) #[] #[(.pointer (some ⟨b_3622, 0, none⟩)), (.pointer (some ⟨b_3623, 0, none⟩))])], stb b_3622 23 [(.slice ao_1653 l_1652.length cap_1654)], stb b_3623 3 [(.int .i64 f_1656)]] _).mem hx') (.tail _ (.head _)) _).stb) ((hw.lent ((.cons .here .nil) : Sel [row (.slice ao_3658 x_3649.length cap_3659) 3 1 (x_3649.flatMap e3), stb b_3648 57 [(.func (.func 31) #[] #[(.pointer (some ⟨b_3622, 0, none⟩)), (.pointer (some ⟨b_3623, 0, none⟩))])], stb b_3624 35 [(.int .i64 0), (.int .i64 0)], stb b_3623 3 [(.int .i64 f_1656)], stb b_3622 23 [(.slice ao_1653 l_1652.length cap_1654)]] [row (.slice ao_3658 x_3649.length cap_3659) 3 1 (x_3649.flatMap e3)] [stb b_3648 57 [(.func (.func 31) #[] #[(.pointer (some ⟨b_3622, 0, none⟩)), (.pointer (some ⟨b_3623, 0, none⟩))])], stb b_3624 35 [(.int .i64 0), (.int .i64 0)], stb b_3623 3 [(.int .i64 f_1656)], stb b_3622 23 [(.slice ao_1653 l_1652.length cap_1654)]]) (B := [stb b_3648 57 [(.func (.func 31) #[] #[(.pointer (some ⟨b_3622, 0, none⟩)), (.pointer (some ⟨b_3623, 0, none⟩))])], stb b_3622 23 [(.slice ao_1653 l_1652.length cap_1654)], stb b_3623 3 [(.int .i64 f_1656)]]) (fun _ hx' => ((.cons .here (.cons (.there (.there .here)) (.cons (.there .here) .nil))) : Sel _ [stb b_3648 57 [(.func (.func 31) #[] #[(.pointer (some ⟨b_3622, 0, none⟩)), (.pointer (some ⟨b_3623, 0, none⟩))])], stb b_3622 23 [(.slice ao_1653 l_1652.length cap_1654)], stb b_3623 3 [(.int .i64 f_1656)]] _).mem hx') (.tail _ (.tail _ (.head _))) _).stb) hr) ((hw.lent ((.cons .here .nil) : Sel [row (.slice ao_3658 x_3649.length cap_3659) 3 1 (x_3649.flatMap e3), stb b_3648 57 [(.func (.func 31) #[] #[(.pointer (some ⟨b_3622, 0, none⟩)), (.pointer (some ⟨b_3623, 0, none⟩))])], stb b_3624 35 [(.int .i64 0), (.int .i64 0)], stb b_3623 3 [(.int .i64 f_1656)], stb b_3622 23 [(.slice ao_1653 l_1652.length cap_1654)]] [row (.slice ao_3658 x_3649.length cap_3659) 3 1 (x_3649.flatMap e3)] [stb b_3648 57 [(.func (.func 31) #[] #[(.pointer (some ⟨b_3622, 0, none⟩)), (.pointer (some ⟨b_3623, 0, none⟩))])], stb b_3624 35 [(.int .i64 0), (.int .i64 0)], stb b_3623 3 [(.int .i64 f_1656)], stb b_3622 23 [(.slice ao_1653 l_1652.length cap_1654)]]) (B := [stb b_3648 57 [(.func (.func 31) #[] #[(.pointer (some ⟨b_3622, 0, none⟩)), (.pointer (some ⟨b_3623, 0, none⟩))])], stb b_3622 23 [(.slice ao_1653 l_1652.length cap_1654)], stb b_3623 3 [(.int .i64 f_1656)]]) (fun _ hx' => ((.cons .here (.cons (.there (.there .here)) (.cons (.there .here) .nil))) : Sel _ [stb b_3648 57 [(.func (.func 31) #[] #[(.pointer (some ⟨b_3622, 0, none⟩)), (.pointer (some ⟨b_3623, 0, none⟩))])], stb b_3622 23 [(.slice ao_1653 l_1652.length cap_1654)], stb b_3623 3 [(.int .i64 f_1656)]] _).mem hx') (.head _) _).stb) hr) hx_3655 (hw.owns ((.cons .here .nil) : Sel [row (.slice ao_3658 x_3649.length cap_3659) 3 1 (x_3649.flatMap e3), stb b_3648 57 [(.func (.func 31) #[] #[(.pointer (some ⟨b_3622, 0, none⟩)), (.pointer (some ⟨b_3623, 0, none⟩))])], stb b_3624 35 [(.int .i64 0), (.int .i64 0)], stb b_3623 3 [(.int .i64 f_1656)], stb b_3622 23 [(.slice ao_1653 l_1652.length cap_1654)]] [row (.slice ao_3658 x_3649.length cap_3659) 3 1 (x_3649.flatMap e3)] [stb b_3648 57 [(.func (.func 31) #[] #[(.pointer (some ⟨b_3622, 0, none⟩)), (.pointer (some ⟨b_3623, 0, none⟩))])], stb b_3624 35 [(.int .i64 0), (.int .i64 0)], stb b_3623 3 [(.int .i64 f_1656)], stb b_3622 23 [(.slice ao_1653 l_1652.length cap_1654)]]))) ?_
      rintro ao_3661 cap_3662 _
      refine WL.quiet (d := 7) rfl rfl rfl (q_assign rfl) ?_
      refine WL.nil ?_
      refine WX.then ?_
      refine WC.seq ?_
      obtain ⟨x_3663, hx_3664, h⟩ := bind_elim h
      obtain ⟨x_3668, hx_3669, h⟩ := bind_elim h
      refine WC.region ?_
      refine WL.quiet (d := 24) rfl rfl rfl (q_load1 oneT_23 rfl (rd_stb (.there (.there (.there (.there .here)))) rfl)) ?_
      refine WL.enter2 (dd := 25) rfl rfl rfl (run_call (l := [.tmp 24, .func 36]) Try.call33 (.cons rfl (.cons rfl .nil))) (.nil : Sel [row (.slice ao_3661 x_3654.length cap_3662) 3 1 (x_3654.flatMap e3), stb b_3648 57 [(.func (.func 31) #[] #[(.pointer (some ⟨b_3622, 0, none⟩)), (.pointer (some ⟨b_3623, 0, none⟩))])], stb b_3624 35 [(.int .i64 0), (.int .i64 0)], stb b_3623 3 [(.int .i64 f_1656)], stb b_3622 23 [(.slice ao_1653 l_1652.length cap_1654)]] [] [row (.slice ao_3661 x_3654.length cap_3662) 3 1 (x_3654.flatMap e3), stb b_3648 57 [(.func (.func 31) #[] #[(.pointer (some ⟨b_3622, 0, none⟩)), (.pointer (some ⟨b_3623, 0, none⟩))])], stb b_3624 35 [(.int .i64 0), (.int .i64 0)], stb b_3623 3 [(.int .i64 f_1656)], stb b_3622 23 [(.slice ao_1653 l_1652.length cap_1654)]]) (fun w hw => by have pz := (hz.call hw (.nil : Sel [row (.slice ao_3661 x_3654.length cap_3662) 3 1 (x_3654.flatMap e3), stb b_3648 57 [(.func (.func 31) #[] #[(.pointer (some ⟨b_3622, 0, none⟩)), (.pointer (some ⟨b_3623, 0, none⟩))])], stb b_3624 35 [(.int .i64 0), (.int .i64 0)], stb b_3623 3 [(.int .i64 f_1656)], stb b_3622 23 [(.slice ao_1653 l_1652.length cap_1654)]] [] [row (.slice ao_3661 x_3654.length cap_3662) 3 1 (x_3654.flatMap e3), stb b_3648 57 [(.func (.func 31) #[] #[(.pointer (some ⟨b_3622, 0, none⟩)), (.pointer (some ⟨b_3623, 0, none⟩))])], stb b_3624 35 [(.int .i64 0), (.int .i64 0)], stb b_3623 3 [(.int .i64 f_1656)], stb b_3622 23 [(.slice ao_1653 l_1652.length cap_1654)]])); exact w_clock_each_api_Span (Z := _) (ao_2080 := ao_1653) (cap_2081 := cap_1654) (fid_2083 := 36) (fcaps_2084 := []) (l_2079 := l_1652) (f_2085 := (fun (y0 : Sapi_Span) => m_clock_Meet_5 y0)) (r := x_3663) w pz hs_1655 Try.call36 (fun w' hz' y0  r  hr => w_clock_Meet_5 (Z := _)  (s_3574 := y0) (r := r) w' hz'  hr) hx_3664) ?_
      rintro ao_3672 cap_3673 _
      refine WL.quiet (d := 26) rfl rfl rfl (q_makeFunc (Eos.caps (l := [.tmp 6]) (.cons rfl .nil))) ?_
      refine WL.enter2 (dd := 27) rfl rfl rfl (run_call (l := [.tmp 25, .tmp 26]) Try.call32 (.cons rfl (.cons rfl .nil))) ((.cons .here .nil) : Sel [row (.slice ao_3672 x_3663.length cap_3673) 3 1 (x_3663.flatMap e3), row (.slice ao_3661 x_3654.length cap_3662) 3 1 (x_3654.flatMap e3), stb b_3648 57 [(.func (.func 31) #[] #[(.pointer (some ⟨b_3622, 0, none⟩)), (.pointer (some ⟨b_3623, 0, none⟩))])], stb b_3624 35 [(.int .i64 0), (.int .i64 0)], stb b_3623 3 [(.int .i64 f_1656)], stb b_3622 23 [(.slice ao_1653 l_1652.length cap_1654)]] [row (.slice ao_3672 x_3663.length cap_3673) 3 1 (x_3663.flatMap e3)] [row (.slice ao_3661 x_3654.length cap_3662) 3 1 (x_3654.flatMap e3), stb b_3648 57 [(.func (.func 31) #[] #[(.pointer (some ⟨b_3622, 0, none⟩)), (.pointer (some ⟨b_3623, 0, none⟩))])], stb b_3624 35 [(.int .i64 0), (.int .i64 0)], stb b_3623 3 [(.int .i64 f_1656)], stb b_3622 23 [(.slice ao_1653 l_1652.length cap_1654)]]) (fun w hw => by have pz := (hz.call hw ((.cons .here .nil) : Sel [row (.slice ao_3672 x_3663.length cap_3673) 3 1 (x_3663.flatMap e3), row (.slice ao_3661 x_3654.length cap_3662) 3 1 (x_3654.flatMap e3), stb b_3648 57 [(.func (.func 31) #[] #[(.pointer (some ⟨b_3622, 0, none⟩)), (.pointer (some ⟨b_3623, 0, none⟩))])], stb b_3624 35 [(.int .i64 0), (.int .i64 0)], stb b_3623 3 [(.int .i64 f_1656)], stb b_3622 23 [(.slice ao_1653 l_1652.length cap_1654)]] [row (.slice ao_3672 x_3663.length cap_3673) 3 1 (x_3663.flatMap e3)] [row (.slice ao_3661 x_3654.length cap_3662) 3 1 (x_3654.flatMap e3), stb b_3648 57 [(.func (.func 31) #[] #[(.pointer (some ⟨b_3622, 0, none⟩)), (.pointer (some ⟨b_3623, 0, none⟩))])], stb b_3624 35 [(.int .i64 0), (.int .i64 0)], stb b_3623 3 [(.int .i64 f_1656)], stb b_3622 23 [(.slice ao_1653 l_1652.length cap_1654)]])).lend hw ((.cons .here .nil) : Sel [row (.slice ao_3672 x_3663.length cap_3673) 3 1 (x_3663.flatMap e3), row (.slice ao_3661 x_3654.length cap_3662) 3 1 (x_3654.flatMap e3), stb b_3648 57 [(.func (.func 31) #[] #[(.pointer (some ⟨b_3622, 0, none⟩)), (.pointer (some ⟨b_3623, 0, none⟩))])], stb b_3624 35 [(.int .i64 0), (.int .i64 0)], stb b_3623 3 [(.int .i64 f_1656)], stb b_3622 23 [(.slice ao_1653 l_1652.length cap_1654)]] [row (.slice ao_3672 x_3663.length cap_3673) 3 1 (x_3663.flatMap e3)] [row (.slice ao_3661 x_3654.length cap_3662) 3 1 (x_3654.flatMap e3), stb b_3648 57 [(.func (.func 31) #[] #[(.pointer (some ⟨b_3622, 0, none⟩)), (.pointer (some ⟨b_3623, 0, none⟩))])], stb b_3624 35 [(.int .i64 0), (.int .i64 0)], stb b_3623 3 [(.int .i64 f_1656)], stb b_3622 23 [(.slice ao_1653 l_1652.length cap_1654)]]) (B := [stb b_3648 57 [(.func (.func 31) #[] #[(.pointer (some ⟨b_3622, 0, none⟩)), (.pointer (some ⟨b_3623, 0, none⟩))])], stb b_3622 23 [(.slice ao_1653 l_1652.length cap_1654)], stb b_3623 3 [(.int .i64 f_1656)]]) (fun _ hx' => ((.cons (.there .here) (.cons (.there (.there (.there .here))) (.cons (.there (.there .here)) .nil))) : Sel _ [stb b_3648 57 [(.func (.func 31) #[] #[(.pointer (some ⟨b_3622, 0, none⟩)), (.pointer (some ⟨b_3623, 0, none⟩))])], stb b_3622 23 [(.slice ao_1653 l_1652.length cap_1654)], stb b_3623 3 [(.int .i64 f_1656)]] _).mem hx'); exact w_slices_DeleteFunc_int_int (Z := _) (ao_3179 := ao_3672) (cap_3180 := cap_3673) (fid_3181 := 37) (fcaps_3182 := [(.pointer (some ⟨b_3648, 0, none⟩))]) (s_3178 := x_3663) (f_3183 := (fun (y0 : Int) => m_clock_Meet_6 y0 (fun (y0 : Int) => m_clock_Meet_2 y0 l_1652 f_1656))) (r := x_3668) w pz Try.call37 (fun w' hz' y0  r  hr => w_clock_Meet_6 (Z := _) (A_3586 := ⟨b_3648, 0, none⟩) (fid_3588 := 31) (fcaps_3589 := [(.pointer (some ⟨b_3622, 0, none⟩)), (.pointer (some ⟨b_3623, 0, none⟩))]) (t_3585 := y0) (f_3590 := (fun (y0 : Int) => m_clock_Meet_2 y0 l_1652 f_1656)) (r := r) w' hz' Try.call31 (fun w' hz' y0  r  hr => w_clock_Meet_2 (Z := _) (A_2687 := ⟨b_3622, 0, none⟩) (ao_2690 := ao_1653) (cap_2691 := cap_1654) (A_2693 := ⟨b_3623, 0, none⟩) (t_2686 := y0) (c_2689 := l_1652) (c_2695 := f_1656) (r := r) w' hz' (hs_1655.mono (Zle.left _ _)) ((hw.lent ((.cons .here .nil) : Sel [row (.slice ao_3672 x_3663.length cap_3673) 3 1 (x_3663.flatMap e3), row (.slice ao_3661 x_3654.length cap_3662) 3 1 (x_3654.flatMap e3), stb b_3648 57 [(.func (.func 31) #[] #[(.pointer (some ⟨b_3622, 0, none⟩)), (.pointer (some ⟨b_3623, 0, none⟩))])], stb b_3624 35 [(.int .i64 0), (.int .i64 0)], stb b_3623 3 [(.int .i64 f_1656)], stb b_3622 23 [(.slice ao_1653 l_1652.length cap_1654)]] [row (.slice ao_3672 x_3663.length cap_3673) 3 1 (x_3663.flatMap e3)] [row (.slice ao_3661 x_3654.length cap_3662) 3 1 (x_3654.flatMap e3), stb b_3648 57 [(.func (.func 31) #[] #[(.pointer (some ⟨b_3622, 0, none⟩)), (.pointer (some ⟨b_3623, 0, none⟩))])], stb b_3624 35 [(.int .i64 0), (.int .i64 0)], stb b_3623 3 [(.int .i64 f_1656)], stb b_3622 23 [(.slice ao_1653 l_1652.length cap_1654)]]) (B := [stb b_3648 57 [(.func (.func 31) #[] #[(.pointer (some ⟨b_3622, 0, none⟩)), (.pointer (some ⟨b_3623, 0, none⟩))])], stb b_3622 23 [(.slice ao_1653 l_1652.length cap_1654)], stb b_3623 3 [(.int .i64 f_1656)]]) (fun _ hx' => ((.cons (.there .here) (.cons (.there (.there (.there .here))) (.cons (.there (.there .here)) .nil))) : Sel _ [stb b_3648 57 [(.func (.func 31) #[] #[(.pointer (some ⟨b_3622, 0, none⟩)), (.pointer (some ⟨b_3623, 0, none⟩))])], stb b_3622 23 [(.slice ao_1653 l_1652.length cap_1654)], stb b_3623 3 [(.int .i64 f_1656)]] _).mem hx') (.tail _ (.head _)) _).stb) ((hw.lent ((.cons .here .nil) : Sel [row (.slice ao_3672 x_3663.length cap_3673) 3 1 (x_3663.flatMap e3), row (.slice ao_3661 x_3654.length cap_3662) 3 1 (x_3654.flatMap e3), stb b_3648 57 [(.func (.func 31) #[] #[(.pointer (some ⟨b_3622, 0, none⟩)), (.pointer (some ⟨b_3623, 0, none⟩))])], stb b_3624 35 [(.int .i64 0), (.int .i64 0)], stb b_3623 3 [(.int .i64 f_1656)], stb b_3622 23 [(.slice ao_1653 l_1652.length cap_1654)]] [row (.slice ao_3672 x_3663.length cap_3673) 3 1 (x_3663.flatMap e3)] [row (.slice ao_3661 x_3654.length cap_3662) 3 1 (x_3654.flatMap e3), stb b_3648 57 [(.func (.func 31) #[] #[(.pointer (some ⟨b_3622, 0, none⟩)), (.pointer (some ⟨b_3623, 0, none⟩))])], stb b_3624 35 [(.int .i64 0), (.int .i64 0)], stb b_3623 3 [(.int .i64 f_1656)], stb b_3622 23 [(.slice ao_1653 l_1652.length cap_1654)]]) (B := [stb b_3648 57 [(.func (.func 31) #[] #[(.pointer (some ⟨b_3622, 0, none⟩)), (.pointer (some ⟨b_3623, 0, none⟩))])], stb b_3622 23 [(.slice ao_1653 l_1652.length cap_1654)], stb b_3623 3 [(.int .i64 f_1656)]]) (fun _ hx' => ((.cons (.there .here) (.cons (.there (.there (.there .here))) (.cons (.there (.there .here)) .nil))) : Sel _ [stb b_3648 57 [(.func (.func 31) #[] #[(.pointer (some ⟨b_3622, 0, none⟩)), (.pointer (some ⟨b_3623, 0, none⟩))])], stb b_3622 23 [(.slice ao_1653 l_1652.length cap_1654)], stb b_3623 3 [(.int .i64 f_1656)]] _).mem hx') (.tail _ (.tail _ (.head _))) _).stb) hr) ((hw.lent ((.cons .here .nil) : Sel [row (.slice ao_3672 x_3663.length cap_3673) 3 1 (x_3663.flatMap e3), row (.slice ao_3661 x_3654.length cap_3662) 3 1 (x_3654.flatMap e3), stb b_3648 57 [(.func (.func 31) #[] #[(.pointer (some ⟨b_3622, 0, none⟩)), (.pointer (some ⟨b_3623, 0, none⟩))])], stb b_3624 35 [(.int .i64 0), (.int .i64 0)], stb b_3623 3 [(.int .i64 f_1656)], stb b_3622 23 [(.slice ao_1653 l_1652.length cap_1654)]] [row (.slice ao_3672 x_3663.length cap_3673) 3 1 (x_3663.flatMap e3)] [row (.slice ao_3661 x_3654.length cap_3662) 3 1 (x_3654.flatMap e3), stb b_3648 57 [(.func (.func 31) #[] #[(.pointer (some ⟨b_3622, 0, none⟩)), (.pointer (some ⟨b_3623, 0, none⟩))])], stb b_3624 35 [(.int .i64 0), (.int .i64 0)], stb b_3623 3 [(.int .i64 f_1656)], stb b_3622 23 [(.slice ao_1653 l_1652.length cap_1654)]]) (B := [stb b_3648 57 [(.func (.func 31) #[] #[(.pointer (some ⟨b_3622, 0, none⟩)), (.pointer (some ⟨b_3623, 0, none⟩))])], stb b_3622 23 [(.slice ao_1653 l_1652.length cap_1654)], stb b_3623 3 [(.int .i64 f_1656)]]) (fun _ hx' => ((.cons (.there .here) (.cons (.there (.there (.there .here))) (.cons (.there (.there .here)) .nil))) : Sel _ [stb b_3648 57 [(.func (.func 31) #[] #[(.pointer (some ⟨b_3622, 0, none⟩)), (.pointer (some ⟨b_3623, 0, none⟩))])], stb b_3622 23 [(.slice ao_1653 l_1652.length cap_1654)], stb b_3623 3 [(.int .i64 f_1656)]] _).mem hx') (.head _) _).stb) hr) hx_3669 (hw.owns ((.cons .here .nil) : Sel [row (.slice ao_3672 x_3663.length cap_3673) 3 1 (x_3663.flatMap e3), row (.slice ao_3661 x_3654.length cap_3662) 3 1 (x_3654.flatMap e3), stb b_3648 57 [(.func (.func 31) #[] #[(.pointer (some ⟨b_3622, 0, none⟩)), (.pointer (some ⟨b_3623, 0, none⟩))])], stb b_3624 35 [(.int .i64 0), (.int .i64 0)], stb b_3623 3 [(.int .i64 f_1656)], stb b_3622 23 [(.slice ao_1653 l_1652.length cap_1654)]] [row (.slice ao_3672 x_3663.length cap_3673) 3 1 (x_3663.flatMap e3)] [row (.slice ao_3661 x_3654.length cap_3662) 3 1 (x_3654.flatMap e3), stb b_3648 57 [(.func (.func 31) #[] #[(.pointer (some ⟨b_3622, 0, none⟩)), (.pointer (some ⟨b_3623, 0, none⟩))])], stb b_3624 35 [(.int .i64 0), (.int .i64 0)], stb b_3623 3 [(.int .i64 f_1656)], stb b_3622 23 [(.slice ao_1653 l_1652.length cap_1654)]]))) ?_
      rintro ao_3675 cap_3676 _
      refine WL.quiet (d := 8) rfl rfl rfl (q_assign rfl) ?_
      refine WL.nil ?_
      refine WX.then ?_
      refine WC.seq ?_
      refine WC.seq ?_
      refine WC.region ?_
      refine WL.quiet (d := 28) rfl rfl rfl (q_move rfl) ?_
      refine WL.quiet (d := 29) rfl rfl rfl (q_len Try.underlying22 rfl) ?_
      refine WL.quiet (d := 30) rfl rfl rfl (q_eql rfl rfl) ?_
      refine WL.nil ?_
      refine WX.then ?_
      refine WC.cond rfl (fun hb_3678 => ?_) (fun hb_3678 => ?_)
      · replace h := ite_t h hb_3678
        refine WC.seq ?_
        refine WC.region ?_
        refine WL.quiet (d := 31) rfl rfl rfl (q_build (v := (.agg #[(.int .i64 0), (.int .i64 0)])) (Eos.parts (l := []) .nil []) (fun _ => by kernel_rfl)) ?_
        refine WL.eff0 rfl rfl (e_store (vs := [(.int .i64 0), (.int .i64 0)]) (ds := [(.int .i64 0), (.int .i64 0)]) sizT_35 rfl rfl rfl rfl (oc_cons rfl (oc_cons rfl oc_nil)) (.there (.there (.there .here))) (Nat.le_of_ble_eq_true rfl) rfl) ?_
        refine WL.quiet (d := 5) rfl rfl rfl (q_assign rfl) ?_
        refine WL.nil ?_
        refine WX.then ?_
        refine WC.ret ?_
        refine WX.thenRet ?_
        obtain rfl := Option.some.inj h
        refine WX.bpRet Try.results15 (.agg rfl aggT_35 rfl (rd_all .here) (.tmp rfl .nil)) (fun w hw => ?_)
        exact ⟨ret2 rfl rfl, hw.sub .nil⟩
      · replace h := ite_f h hb_3678
        refine WC.skip ?_
        refine WX.then ?_
        refine WC.seq ?_
        obtain ⟨c_3679, h⟩ := chk_elim h
        obtain ⟨c_3681, h⟩ := chk_elim h
        refine WC.draw (fun i => [10].contains i) [] rfl ?_
        refine WD.pure (i := 0) (d := 32) (by kernel_rfl) rfl (by kernel_rfl) (by kernel_rfl) rfl rfl rfl (fun _ => q_move rfl) ?_
        refine WD.know (fun w hw => Hp.expose (.there .here) hw (by intro hz'; have := c_3679; rw [hz'] at this; omega)) ?_
        rintro ⟨b_3685, rfl⟩
        refine WD.pure (i := 1) (d := 33) (by kernel_rfl) rfl (by kernel_rfl) (by kernel_rfl) rfl rfl rfl (fun _ => q_indexAddr elT_22 rfl rfl c_3679.1 c_3679.2 rowAdd) ?_
        refine WD.quiet (i := 2) (d := 34) (by kernel_rfl) rfl (by kernel_rfl) (by kernel_rfl) rfl rfl rfl (q_load1 oneT_3 rfl (rd_row (.there .here) ((flat_rd (enc := e3) (l := x_3654) (i := 0) (sz := 1) (fun _ => rfl) c_3679.1 c_3679.2) 0 _ rfl))) ?_
        refine WD.pure (i := 3) (d := 35) (by kernel_rfl) rfl (by kernel_rfl) (by kernel_rfl) rfl rfl rfl (fun _ => q_move rfl) ?_
        refine WD.pure (i := 4) (d := 36) (by kernel_rfl) rfl (by kernel_rfl) (by kernel_rfl) rfl rfl rfl (fun _ => q_move rfl) ?_
        refine WD.pure (i := 5) (d := 37) (by kernel_rfl) rfl (by kernel_rfl) (by kernel_rfl) rfl rfl rfl (fun _ => q_len Try.underlying22 rfl) ?_
        refine WD.pure (i := 6) (d := 38) (by kernel_rfl) rfl (by kernel_rfl) (by kernel_rfl) rfl rfl rfl (fun _ => q_sub rfl rfl rfl) ?_
        refine WD.know (fun w hw => Hp.expose .here hw (by intro hz'; have := c_3681; rw [hz'] at this; omega)) ?_
        rintro ⟨b_3686, rfl⟩
        refine WD.pure (i := 7) (d := 39) (by kernel_rfl) rfl (by kernel_rfl) (by kernel_rfl) rfl rfl rfl (fun _ => q_indexAddr elT_22 rfl rfl c_3681.1 c_3681.2 rowAdd) ?_
        refine WD.quiet (i := 8) (d := 40) (by kernel_rfl) rfl (by kernel_rfl) (by kernel_rfl) rfl rfl rfl (q_load1 oneT_3 rfl (rd_row .here ((flat_rd (enc := e3) (l := x_3668) (i := i64 (((x_3668.length : Nat) : Int) - 1)) (sz := 1) (fun _ => rfl) c_3681.1 c_3681.2) 0 _ rfl))) ?_
        refine WD.quiet (i := 9) (d := 41) (by kernel_rfl) rfl (by kernel_rfl) (by kernel_rfl) rfl rfl rfl (q_build (v := (.agg #[(.int .i64 (nth x_3654 0)), (.int .i64 (nth x_3668 (i64 (((x_3668.length : Nat) : Int) - 1))))])) (Eos.parts (l := [.tmp 34, .tmp 40]) (.cons rfl (.cons rfl .nil)) [0, 1]) (fun _ => by kernel_rfl)) ?_
        refine WD.forced0 (i := 10) rfl (by kernel_rfl) rfl rfl rfl ⟨_, .nil⟩ (e_store (vs := [(.int .i64 (nth x_3654 0)), (.int .i64 (nth x_3668 (i64 (((x_3668.length : Nat) : Int) - 1))))]) (ds := [(.int .i64 (nth x_3654 0)), (.int .i64 (nth x_3668 (i64 (((x_3668.length : Nat) : Int) - 1))))]) sizT_35 rfl rfl rfl rfl (oc_cons rfl (oc_cons rfl oc_nil)) (.there (.there (.there .here))) (Nat.le_of_ble_eq_true rfl) rfl) ?_
        refine WD.pure (i := 11) (d := 5) (by kernel_rfl) rfl (by kernel_rfl) (by kernel_rfl) rfl rfl rfl (fun _ => q_assign rfl) ?_
        refine WD.done (by kernel_rfl) ?_
        refine WX.then ?_
        refine WC.ret ?_
        obtain rfl := Option.some.inj h
        refine WX.bpRet Try.results15 (.agg rfl aggT_35 rfl (rd_all .here) (.tmp rfl .nil)) (fun w hw => ?_)
        exact ⟨ret2 rfl rfl, hw.sub .nil⟩
def m_law33_Ints_L2 (a_3703 : List Int) (b_3707 : List Int) (k_4090 : Option Bool) : Nat → Int → Option Bool
  | 0, _ => none
  | n_4175 + 1, v_4173 => if decide (v_4173 < ((a_3703.length : Nat) : Int)) then chk ((0 : Int) ≤ v_4173 ∧ v_4173 < ((a_3703.length : Nat) : Int)) (chk ((0 : Int) ≤ v_4173 ∧ v_4173 < ((b_3707.length : Nat) : Int)) (if decide ((nth a_3703 v_4173) ≠ (nth b_3707 v_4173)) then some false else m_law33_Ints_L2 a_3703 b_3707 k_4090 n_4175 (i64 (v_4173 + 1)))) else k_4090
theorem m_law33_Ints_L2_fuel {n : Nat} {a_3703 : List Int} {b_3707 : List Int} {k_4090 : Option Bool} {v_4173 : Int} {r : Bool} (h : m_law33_Ints_L2 a_3703 b_3707 k_4090 n v_4173 = some r) : ∃ m, n = m + 1 := by
  cases n with
  | zero => cases h
  | succ m => exact ⟨m, rfl⟩

/-- nacellelaw33.Ints -/
def m_law33_Ints (a_3703 : List Int) (b_3707 : List Int) : Option Bool :=
  if decide (((a_3703.length : Nat) : Int) ≠ ((b_3707.length : Nat) : Int)) then some false else jp0 (some true) fun k_4090 => m_law33_Ints_L2 a_3703 b_3707 k_4090 FUEL 0

set_option maxRecDepth 20000 in
theorem w_law33_Ints (Z : Zp) (ao_3704 : Option Addr) (cap_3705 : Nat) (ao_3708 : Option Addr) (cap_3709 : Nat) (a_3703 : List Int) (b_3707 : List Int) (r : Bool) (w₀ : World) (hz : PZ [] w₀ Z)
    (hs_3706 : ZS Z 1 (fun r x => r = e3 x) ao_3704 cap_3705 a_3703)
    (hs_3710 : ZS Z 1 (fun r x => r = e3 x) ao_3708 cap_3709 b_3707)
    (h : m_law33_Ints a_3703 b_3707 = some r) :
    Calls Try.prog 17 #[(.slice ao_3704 a_3703.length cap_3705), (.slice ao_3708 b_3707.length cap_3709)] w₀ fun e w' => e = .returned (.bool r) ∧ Hp [] w₀ w' [] := by
  unfold m_law33_Ints at h
  refine Calls.ofWC (vs := [(.slice ao_3704 a_3703.length cap_3705), (.slice ao_3708 b_3707.length cap_3709)]) (pre := []) (env := [(0, (.slice ao_3704 a_3703.length cap_3705)), (1, (.slice ao_3708 b_3707.length cap_3709))]) Try.func17 rfl Try.ntmps17 rfl (Hp.nil w₀ _) rfl ?_
  refine WC.seq ?_
  refine WC.region ?_
  refine WL.quiet (d := 4) rfl rfl rfl (q_assign rfl) ?_
  refine WL.nil ?_
  refine WX.then ?_
  refine WC.seq ?_
  refine WC.seq ?_
  refine WC.region ?_
  refine WL.quiet (d := 6) rfl rfl rfl (q_move rfl) ?_
  refine WL.quiet (d := 7) rfl rfl rfl (q_len Try.underlying22 rfl) ?_
  refine WL.quiet (d := 8) rfl rfl rfl (q_move rfl) ?_
  refine WL.quiet (d := 9) rfl rfl rfl (q_len Try.underlying22 rfl) ?_
  refine WL.quiet (d := 10) rfl rfl rfl (q_neq rfl rfl) ?_
  refine WL.nil ?_
  refine WX.then ?_
  refine WC.cond rfl (fun hb_3965 => ?_) (fun hb_3965 => ?_)
  · replace h := ite_t h hb_3965
    refine WC.seq ?_
    refine WC.region ?_
    refine WL.quiet (d := 4) rfl rfl rfl (q_assign rfl) ?_
    refine WL.nil ?_
    refine WX.then ?_
    refine WC.ret ?_
    refine WX.thenRet ?_
    obtain rfl := Option.some.inj h
    refine WX.bpRet Try.results17 (.tmp rfl .nil) (fun w hw => ?_)
    exact ⟨ret1 rfl, hw.sub .nil⟩
  · replace h := ite_f h hb_3965
    refine WC.skip ?_
    refine WX.then ?_
    obtain ⟨k_4090, hk_4091, h⟩ := jp0_elim h
    refine WC.seqMid0 ((k_4090 = some r)) ([]) ([]) ?_ ?_
    · skip
      refine WC.seq ?_
      refine WC.region ?_
      refine WL.quiet (d := 11) rfl rfl rfl (q_move rfl) ?_
      refine WL.quiet (d := 12) rfl rfl rfl (q_len Try.underlying22 rfl) ?_
      refine WL.quiet (d := 13) rfl rfl rfl (q_move rfl) ?_
      refine WL.nil ?_
      refine WX.then ?_
      refine WC.block ?_
      refine WC.loop2 (fun (n_4174 : Nat) (v_4173 : Int) => (m_law33_Ints_L2 a_3703 b_3707 k_4090 n_4174 v_4173 = some r)) (fun (n_4174 : Nat) (v_4173 : Int) => [(0, (.slice ao_3704 a_3703.length cap_3705)), (1, (.slice ao_3708 b_3707.length cap_3709)), (12, (.int .i64 ((a_3703.length : Nat) : Int))), (13, (.int .i64 v_4173))]) (fun (n_4174 : Nat) (v_4173 : Int) => []) (fun (n_4174 : Nat) (v_4173 : Int) => n_4174) ⟨FUEL, 0⟩ h (.cons rfl (.cons rfl (.cons rfl (.cons rfl .nil)))) .nil ?_
      rintro n_4174 v_4173 h
      obtain ⟨n_4175, rfl⟩ := m_law33_Ints_L2_fuel h
      rw [m_law33_Ints_L2] at h
      refine WC.seq ?_
      refine WC.region ?_
      refine WL.quiet (d := 14) rfl rfl rfl (q_lss rfl rfl) ?_
      refine WL.nil ?_
      refine WX.then ?_
      refine WC.seq ?_
      refine WC.cond rfl (fun hb_4177 => ?_) (fun hb_4177 => ?_)
      · replace h := ite_t h hb_4177
        refine WC.skip ?_
        refine WX.then ?_
        refine WC.seq ?_
        refine WC.block ?_
        refine WC.seq ?_
        refine WC.region ?_
        refine WL.quiet (d := 15) rfl rfl rfl (q_move rfl) ?_
        refine WL.quiet (d := 5) rfl rfl rfl (q_assign rfl) ?_
        refine WL.nil ?_
        refine WX.then ?_
        refine WC.seq ?_
        obtain ⟨c_4197, h⟩ := chk_elim h
        obtain ⟨c_4202, h⟩ := chk_elim h
        refine WC.draw (fun i => [].contains i) [] rfl ?_
        refine WD.pure (i := 0) (d := 16) (by kernel_rfl) rfl (by kernel_rfl) (by kernel_rfl) rfl rfl rfl (fun _ => q_move rfl) ?_
        refine WD.pure (i := 1) (d := 17) (by kernel_rfl) rfl (by kernel_rfl) (by kernel_rfl) rfl rfl rfl (fun _ => q_move rfl) ?_
        refine WD.znth (j := 2) (dd := 18) (by kernel_rfl) rfl (by kernel_rfl) (by kernel_rfl) rfl rfl elT_22 rfl rfl hs_3706 c_4197 ?_
        rintro A_4207 r_4208 hA_4209 hl_4210 rfl
        refine WD.quiet (i := 3) (d := 19) (by kernel_rfl) rfl (by kernel_rfl) (by kernel_rfl) rfl rfl rfl (q_load1 oneT_3 rfl (rd_z hz.pv hA_4209 rfl)) ?_
        refine WD.pure (i := 4) (d := 20) (by kernel_rfl) rfl (by kernel_rfl) (by kernel_rfl) rfl rfl rfl (fun _ => q_move rfl) ?_
        refine WD.pure (i := 5) (d := 21) (by kernel_rfl) rfl (by kernel_rfl) (by kernel_rfl) rfl rfl rfl (fun _ => q_move rfl) ?_
        refine WD.znth (j := 6) (dd := 22) (by kernel_rfl) rfl (by kernel_rfl) (by kernel_rfl) rfl rfl elT_22 rfl rfl hs_3710 c_4202 ?_
        rintro A_4211 r_4212 hA_4213 hl_4214 rfl
        refine WD.quiet (i := 7) (d := 23) (by kernel_rfl) rfl (by kernel_rfl) (by kernel_rfl) rfl rfl rfl (q_load1 oneT_3 rfl (rd_z hz.pv hA_4213 rfl)) ?_
        refine WD.pure (i := 8) (d := 24) (by kernel_rfl) rfl (by kernel_rfl) (by kernel_rfl) rfl rfl rfl (fun _ => q_neq rfl rfl) ?_
        refine WD.done (by kernel_rfl) ?_
        refine WX.then ?_
        refine WC.cond rfl (fun hb_4215 => ?_) (fun hb_4215 => ?_)
        · replace h := ite_t h hb_4215
          refine WC.seq ?_
          refine WC.region ?_
          refine WL.quiet (d := 4) rfl rfl rfl (q_assign rfl) ?_
          refine WL.nil ?_
          refine WX.then ?_
          refine WC.ret ?_
          refine WX.blockRet ?_
          refine WX.thenRet ?_
          refine WX.thenRet ?_
          refine WX.blockRet ?_
          refine WX.thenRet ?_
          obtain rfl := Option.some.inj h
          refine WX.bpRet Try.results17 (.tmp rfl .nil) (fun w hw => ?_)
          exact ⟨ret1 rfl, hw.sub .nil⟩
        · replace h := ite_f h hb_4215
          refine WC.skip ?_
          refine WX.blockNormal ?_
          refine WX.then ?_
          refine WC.region ?_
          refine WL.quiet (d := 25) rfl rfl rfl (q_add rfl rfl rfl) ?_
          refine WL.quiet (d := 13) rfl rfl rfl (q_move rfl) ?_
          refine WL.nil ?_
          exact WX.round (G := Nat × Int) ⟨n_4175, (i64 (v_4173 + 1))⟩ h (Nat.lt_succ_self _) (.cons rfl (.cons rfl (.cons rfl (.cons rfl .nil)))) .nil
      · replace h := ite_f h hb_4177
        refine WC.exit ?_
        refine WX.thenExit ?_
        refine WX.thenExit ?_
        refine WX.blockHit ?_
        exact WX.mid (G := Unit) () h .nil .nil
    · rintro  h
      replace h := hk_4091.symm.trans h
      refine WC.seq ?_
      refine WC.region ?_
      refine WL.quiet (d := 4) rfl rfl rfl (q_assign rfl) ?_
      refine WL.nil ?_
      refine WX.then ?_
      refine WC.ret ?_
      obtain rfl := Option.some.inj h
      refine WX.bpRet Try.results17 (.tmp rfl .nil) (fun w hw => ?_)
      exact ⟨ret1 rfl, hw.sub .nil⟩
/-- nacellelaw33.awake -/
def m_law33_awake  : Option Bool :=
  (m_clock_Midpoint [10, 12, 900, 11] 1).bind fun x_4238 => (m_clock_Suspects [10, 12, 900, 11] 1 5).bind fun x_4240 => (m_clock_Midpoint [(-3), (-4)] 0).bind fun x_4249 => (m_clock_Meet [(⟨0, 10⟩ : Sapi_Span), (⟨8, 20⟩ : Sapi_Span), (⟨30, 40⟩ : Sapi_Span)] 1).bind fun x_4254 => (m_clock_Meet [(⟨0, 10⟩ : Sapi_Span), (⟨8, 20⟩ : Sapi_Span), (⟨30, 40⟩ : Sapi_Span)] 0).bind fun x_4258 => chk ((0 : Int) ≤ 3 ∧ 3 ≤ (([10, 12, 900, 11].length : Nat) : Int)) ((m_clock_Midpoint ([10, 12, 900, 11].take (3 : Int).toNat) 2).bind fun x_4265 => (if (decide ((i64 ((i64 ((i64 (x_4238.2 + x_4240.2)) + x_4249.2)) + x_4254.2)) = 0)) && (decide (x_4238.1 = 11)) then (m_law33_Ints x_4240.1 [2]).bind fun x_4270 => some x_4270 else some false).bind fun b_4272 => some ((((b_4272 && (decide (x_4249.1 = (-4)))) && (decide (x_4254.1 = (⟨8, 10⟩ : Sapi_Span)))) && (decide (x_4258.2 = 6))) && (decide (x_4265.2 = 2))))

set_option maxRecDepth 20000 in
theorem w_law33_awake (Z : Zp)   (r : Bool) (w₀ : World) (hz : PZ [] w₀ Z)
    (h : m_law33_awake  = some r) :
    Calls Try.prog 10 #[] w₀ fun e w' => e = .returned (.bool r) ∧ Hp [] w₀ w' [] := by
  unfold m_law33_awake at h
  refine Calls.ofWC (vs := []) (pre := []) (env := []) Try.func10 rfl Try.ntmps10 rfl (Hp.nil w₀ _) rfl ?_
  refine WC.seq ?_
  refine WC.region ?_
  refine WL.quiet (d := 0) rfl rfl rfl (q_assign rfl) ?_
  refine WL.nil ?_
  refine WX.then ?_
  refine WC.seq ?_
  refine WC.region ?_
  refine WL.new (dd := 15) rfl rfl rfl (e_buildSlice (cs := [10, 12, 900, 11].flatMap e3) elT_22 (Eos.parts (l := [.const (.int .i64 10), .const (.int .i64 12), .const (.int .i64 900), .const (.int .i64 11)]) (.cons rfl (.cons rfl (.cons rfl (.cons rfl .nil)))) [0, 1, 2, 3]) (fun _ => by kernel_rfl) rfl (by unfold maxLen; omega)) ?_
  intro b_4237 _
  refine WL.quiet (d := 1) rfl rfl rfl (q_assign rfl) ?_
  refine WL.nil ?_
  refine WX.then ?_
  refine WC.seq ?_
  obtain ⟨x_4238, hx_4239, h⟩ := bind_elim h
  refine WC.region ?_
  refine WL.quiet (d := 17) rfl rfl rfl (q_move rfl) ?_
  refine WL.callD (dd := 18) rfl rfl rfl (run_call (l := [.tmp 17, .const (.int .i64 1)]) Try.call11 (.cons rfl (.cons rfl .nil))) (.nil : Sel [row (.slice (some ⟨b_4237, 0, none⟩) ([10, 12, 900, 11].length) 4) 3 1 ([10, 12, 900, 11].flatMap e3)] [] [row (.slice (some ⟨b_4237, 0, none⟩) ([10, 12, 900, 11].length) 4) 3 1 ([10, 12, 900, 11].flatMap e3)]) (fun w hw => by have pz := (hz.call hw (.nil : Sel [row (.slice (some ⟨b_4237, 0, none⟩) ([10, 12, 900, 11].length) 4) 3 1 ([10, 12, 900, 11].flatMap e3)] [] [row (.slice (some ⟨b_4237, 0, none⟩) ([10, 12, 900, 11].length) 4) 3 1 ([10, 12, 900, 11].flatMap e3)])).lend hw (.nil : Sel [row (.slice (some ⟨b_4237, 0, none⟩) ([10, 12, 900, 11].length) 4) 3 1 ([10, 12, 900, 11].flatMap e3)] [] [row (.slice (some ⟨b_4237, 0, none⟩) ([10, 12, 900, 11].length) 4) 3 1 ([10, 12, 900, 11].flatMap e3)]) (B := [row (.slice (some ⟨b_4237, 0, none⟩) ([10, 12, 900, 11].length) 4) 3 1 ([10, 12, 900, 11].flatMap e3)]) (fun _ hx' => ((.cons .here .nil) : Sel _ [row (.slice (some ⟨b_4237, 0, none⟩) ([10, 12, 900, 11].length) 4) 3 1 ([10, 12, 900, 11].flatMap e3)] _).mem hx'); exact w_clock_Midpoint (Z := _) (ao_17 := (some ⟨b_4237, 0, none⟩)) (cap_18 := 4) (l_16 := [10, 12, 900, 11]) (f_20 := 1) (r := x_4238) w pz (ZA.row (hw.lent (.nil : Sel [row (.slice (some ⟨b_4237, 0, none⟩) ([10, 12, 900, 11].length) 4) 3 1 ([10, 12, 900, 11].flatMap e3)] [] [row (.slice (some ⟨b_4237, 0, none⟩) ([10, 12, 900, 11].length) 4) 3 1 ([10, 12, 900, 11].flatMap e3)]) (B := [row (.slice (some ⟨b_4237, 0, none⟩) ([10, 12, 900, 11].length) 4) 3 1 ([10, 12, 900, 11].flatMap e3)]) (fun _ hx' => ((.cons .here .nil) : Sel _ [row (.slice (some ⟨b_4237, 0, none⟩) ([10, 12, 900, 11].length) 4) 3 1 ([10, 12, 900, 11].flatMap e3)] _).mem hx') (.head _) _) (RR.flat (enc := e3) (fun _ => rfl) _) ⟨w, pz.1⟩) hx_4239) ?_
  refine WL.quiet (d := 16) rfl rfl rfl (q_move rfl) ?_
  refine WL.quiet (d := 19) rfl rfl rfl (q_extract rfl rfl) ?_
  refine WL.quiet (d := 20) rfl rfl rfl (q_extract rfl rfl) ?_
  refine WL.quiet (d := 2) rfl rfl rfl (q_assign rfl) ?_
  refine WL.quiet (d := 3) rfl rfl rfl (q_assign rfl) ?_
  refine WL.nil ?_
  refine WX.then ?_
  refine WC.seq ?_
  obtain ⟨x_4240, hx_4241, h⟩ := bind_elim h
  refine WC.region ?_
  refine WL.quiet (d := 22) rfl rfl rfl (q_move rfl) ?_
  refine WL.enter2 (dd := 23) rfl rfl rfl (run_call (l := [.tmp 22, .const (.int .i64 1), .const (.int .i64 5)]) Try.call13 (.cons rfl (.cons rfl (.cons rfl .nil)))) (.nil : Sel [row (.slice (some ⟨b_4237, 0, none⟩) ([10, 12, 900, 11].length) 4) 3 1 ([10, 12, 900, 11].flatMap e3)] [] [row (.slice (some ⟨b_4237, 0, none⟩) ([10, 12, 900, 11].length) 4) 3 1 ([10, 12, 900, 11].flatMap e3)]) (fun w hw => by have pz := (hz.call hw (.nil : Sel [row (.slice (some ⟨b_4237, 0, none⟩) ([10, 12, 900, 11].length) 4) 3 1 ([10, 12, 900, 11].flatMap e3)] [] [row (.slice (some ⟨b_4237, 0, none⟩) ([10, 12, 900, 11].length) 4) 3 1 ([10, 12, 900, 11].flatMap e3)])).lend hw (.nil : Sel [row (.slice (some ⟨b_4237, 0, none⟩) ([10, 12, 900, 11].length) 4) 3 1 ([10, 12, 900, 11].flatMap e3)] [] [row (.slice (some ⟨b_4237, 0, none⟩) ([10, 12, 900, 11].length) 4) 3 1 ([10, 12, 900, 11].flatMap e3)]) (B := [row (.slice (some ⟨b_4237, 0, none⟩) ([10, 12, 900, 11].length) 4) 3 1 ([10, 12, 900, 11].flatMap e3)]) (fun _ hx' => ((.cons .here .nil) : Sel _ [row (.slice (some ⟨b_4237, 0, none⟩) ([10, 12, 900, 11].length) 4) 3 1 ([10, 12, 900, 11].flatMap e3)] _).mem hx'); exact w_clock_Suspects (Z := _) (ao_1033 := (some ⟨b_4237, 0, none⟩)) (cap_1034 := 4) (l_1032 := [10, 12, 900, 11]) (f_1036 := 1) (width_1037 := 5) (r := x_4240) w pz (ZA.row (hw.lent (.nil : Sel [row (.slice (some ⟨b_4237, 0, none⟩) ([10, 12, 900, 11].length) 4) 3 1 ([10, 12, 900, 11].flatMap e3)] [] [row (.slice (some ⟨b_4237, 0, none⟩) ([10, 12, 900, 11].length) 4) 3 1 ([10, 12, 900, 11].flatMap e3)]) (B := [row (.slice (some ⟨b_4237, 0, none⟩) ([10, 12, 900, 11].length) 4) 3 1 ([10, 12, 900, 11].flatMap e3)]) (fun _ hx' => ((.cons .here .nil) : Sel _ [row (.slice (some ⟨b_4237, 0, none⟩) ([10, 12, 900, 11].length) 4) 3 1 ([10, 12, 900, 11].flatMap e3)] _).mem hx') (.head _) _) (RR.flat (enc := e3) (fun _ => rfl) _) ⟨w, pz.1⟩) hx_4241) ?_
  rintro ao_4245 cap_4246 _
  refine WL.quiet (d := 21) rfl rfl rfl (q_move rfl) ?_
  refine WL.quiet (d := 24) rfl rfl rfl (q_extract rfl rfl) ?_
  refine WL.quiet (d := 25) rfl rfl rfl (q_extract rfl rfl) ?_
  refine WL.quiet (d := 4) rfl rfl rfl (q_assign rfl) ?_
  refine WL.quiet (d := 5) rfl rfl rfl (q_assign rfl) ?_
  refine WL.nil ?_
  refine WX.then ?_
  refine WC.seq ?_
  obtain ⟨x_4249, hx_4250, h⟩ := bind_elim h
  refine WC.region ?_
  refine WL.new (dd := 27) rfl rfl rfl (e_buildSlice (cs := [(-3), (-4)].flatMap e3) elT_22 (Eos.parts (l := [.const (.int .i64 (-3)), .const (.int .i64 (-4))]) (.cons rfl (.cons rfl .nil)) [0, 1]) (fun _ => by kernel_rfl) rfl (by unfold maxLen; omega)) ?_
  intro b_4251 _
  refine WL.callD (dd := 28) rfl rfl rfl (run_call (l := [.tmp 27, .const (.int .i64 0)]) Try.call11 (.cons rfl (.cons rfl .nil))) (.nil : Sel [row (.slice (some ⟨b_4251, 0, none⟩) ([(-3), (-4)].length) 2) 3 1 ([(-3), (-4)].flatMap e3), row (.slice ao_4245 x_4240.1.length cap_4246) 3 1 (x_4240.1.flatMap e3), row (.slice (some ⟨b_4237, 0, none⟩) ([10, 12, 900, 11].length) 4) 3 1 ([10, 12, 900, 11].flatMap e3)] [] [row (.slice (some ⟨b_4251, 0, none⟩) ([(-3), (-4)].length) 2) 3 1 ([(-3), (-4)].flatMap e3), row (.slice ao_4245 x_4240.1.length cap_4246) 3 1 (x_4240.1.flatMap e3), row (.slice (some ⟨b_4237, 0, none⟩) ([10, 12, 900, 11].length) 4) 3 1 ([10, 12, 900, 11].flatMap e3)]) (fun w hw => by have pz := (hz.call hw (.nil : Sel [row (.slice (some ⟨b_4251, 0, none⟩) ([(-3), (-4)].length) 2) 3 1 ([(-3), (-4)].flatMap e3), row (.slice ao_4245 x_4240.1.length cap_4246) 3 1 (x_4240.1.flatMap e3), row (.slice (some ⟨b_4237, 0, none⟩) ([10, 12, 900, 11].length) 4) 3 1 ([10, 12, 900, 11].flatMap e3)] [] [row (.slice (some ⟨b_4251, 0, none⟩) ([(-3), (-4)].length) 2) 3 1 ([(-3), (-4)].flatMap e3), row (.slice ao_4245 x_4240.1.length cap_4246) 3 1 (x_4240.1.flatMap e3), row (.slice (some ⟨b_4237, 0, none⟩) ([10, 12, 900, 11].length) 4) 3 1 ([10, 12, 900, 11].flatMap e3)])).lend hw (.nil : Sel [row (.slice (some ⟨b_4251, 0, none⟩) ([(-3), (-4)].length) 2) 3 1 ([(-3), (-4)].flatMap e3), row (.slice ao_4245 x_4240.1.length cap_4246) 3 1 (x_4240.1.flatMap e3), row (.slice (some ⟨b_4237, 0, none⟩) ([10, 12, 900, 11].length) 4) 3 1 ([10, 12, 900, 11].flatMap e3)] [] [row (.slice (some ⟨b_4251, 0, none⟩) ([(-3), (-4)].length) 2) 3 1 ([(-3), (-4)].flatMap e3), row (.slice ao_4245 x_4240.1.length cap_4246) 3 1 (x_4240.1.flatMap e3), row (.slice (some ⟨b_4237, 0, none⟩) ([10, 12, 900, 11].length) 4) 3 1 ([10, 12, 900, 11].flatMap e3)]) (B := [row (.slice (some ⟨b_4251, 0, none⟩) ([(-3), (-4)].length) 2) 3 1 ([(-3), (-4)].flatMap e3)]) (fun _ hx' => ((.cons .here .nil) : Sel _ [row (.slice (some ⟨b_4251, 0, none⟩) ([(-3), (-4)].length) 2) 3 1 ([(-3), (-4)].flatMap e3)] _).mem hx'); exact w_clock_Midpoint (Z := _) (ao_17 := (some ⟨b_4251, 0, none⟩)) (cap_18 := 2) (l_16 := [(-3), (-4)]) (f_20 := 0) (r := x_4249) w pz (ZA.row (hw.lent (.nil : Sel [row (.slice (some ⟨b_4251, 0, none⟩) ([(-3), (-4)].length) 2) 3 1 ([(-3), (-4)].flatMap e3), row (.slice ao_4245 x_4240.1.length cap_4246) 3 1 (x_4240.1.flatMap e3), row (.slice (some ⟨b_4237, 0, none⟩) ([10, 12, 900, 11].length) 4) 3 1 ([10, 12, 900, 11].flatMap e3)] [] [row (.slice (some ⟨b_4251, 0, none⟩) ([(-3), (-4)].length) 2) 3 1 ([(-3), (-4)].flatMap e3), row (.slice ao_4245 x_4240.1.length cap_4246) 3 1 (x_4240.1.flatMap e3), row (.slice (some ⟨b_4237, 0, none⟩) ([10, 12, 900, 11].length) 4) 3 1 ([10, 12, 900, 11].flatMap e3)]) (B := [row (.slice (some ⟨b_4251, 0, none⟩) ([(-3), (-4)].length) 2) 3 1 ([(-3), (-4)].flatMap e3)]) (fun _ hx' => ((.cons .here .nil) : Sel _ [row (.slice (some ⟨b_4251, 0, none⟩) ([(-3), (-4)].length) 2) 3 1 ([(-3), (-4)].flatMap e3)] _).mem hx') (.head _) _) (RR.flat (enc := e3) (fun _ => rfl) _) ⟨w, pz.1⟩) hx_4250) ?_
  refine WL.quiet (d := 26) rfl rfl rfl (q_move rfl) ?_
  refine WL.quiet (d := 29) rfl rfl rfl (q_extract rfl rfl) ?_
  refine WL.quiet (d := 30) rfl rfl rfl (q_extract rfl rfl) ?_
  refine WL.quiet (d := 6) rfl rfl rfl (q_assign rfl) ?_
  refine WL.quiet (d := 7) rfl rfl rfl (q_assign rfl) ?_
  refine WL.nil ?_
  refine WX.then ?_
  refine WC.seq ?_
  refine WC.region ?_
  refine WL.quiet (d := 31) rfl rfl rfl (q_build (v := (.agg #[(.int .i64 0), (.int .i64 10)])) (Eos.parts (l := [.const (.int .i64 0), .const (.int .i64 10)]) (.cons rfl (.cons rfl .nil)) [0, 1]) (fun _ => by kernel_rfl)) ?_
  refine WL.quiet (d := 32) rfl rfl rfl (q_build (v := (.agg #[(.int .i64 8), (.int .i64 20)])) (Eos.parts (l := [.const (.int .i64 8), .const (.int .i64 20)]) (.cons rfl (.cons rfl .nil)) [0, 1]) (fun _ => by kernel_rfl)) ?_
  refine WL.quiet (d := 33) rfl rfl rfl (q_build (v := (.agg #[(.int .i64 30), (.int .i64 40)])) (Eos.parts (l := [.const (.int .i64 30), .const (.int .i64 40)]) (.cons rfl (.cons rfl .nil)) [0, 1]) (fun _ => by kernel_rfl)) ?_
  refine WL.new (dd := 34) rfl rfl rfl (e_buildSlice (cs := [(⟨0, 10⟩ : Sapi_Span), (⟨8, 20⟩ : Sapi_Span), (⟨30, 40⟩ : Sapi_Span)].flatMap e35) elT_23 (Eos.parts (l := [.tmp 31, .tmp 32, .tmp 33]) (.cons rfl (.cons rfl (.cons rfl .nil))) [0, 1, 2]) (fun _ => by kernel_rfl) rfl (by unfold maxLen; omega)) ?_
  intro b_4253 _
  refine WL.quiet (d := 8) rfl rfl rfl (q_assign rfl) ?_
  refine WL.nil ?_
  refine WX.then ?_
  refine WC.seq ?_
  obtain ⟨x_4254, hx_4255, h⟩ := bind_elim h
  refine WC.region ?_
  refine WL.quiet (d := 36) rfl rfl rfl (q_move rfl) ?_
  refine WL.callD (dd := 37) rfl rfl rfl (run_call (l := [.tmp 36, .const (.int .i64 1)]) Try.call15 (.cons rfl (.cons rfl .nil))) (.nil : Sel [row (.slice (some ⟨b_4253, 0, none⟩) ([(⟨0, 10⟩ : Sapi_Span), (⟨8, 20⟩ : Sapi_Span), (⟨30, 40⟩ : Sapi_Span)].length) 3) 35 2 ([(⟨0, 10⟩ : Sapi_Span), (⟨8, 20⟩ : Sapi_Span), (⟨30, 40⟩ : Sapi_Span)].flatMap e35), row (.slice (some ⟨b_4251, 0, none⟩) ([(-3), (-4)].length) 2) 3 1 ([(-3), (-4)].flatMap e3), row (.slice ao_4245 x_4240.1.length cap_4246) 3 1 (x_4240.1.flatMap e3), row (.slice (some ⟨b_4237, 0, none⟩) ([10, 12, 900, 11].length) 4) 3 1 ([10, 12, 900, 11].flatMap e3)] [] [row (.slice (some ⟨b_4253, 0, none⟩) ([(⟨0, 10⟩ : Sapi_Span), (⟨8, 20⟩ : Sapi_Span), (⟨30, 40⟩ : Sapi_Span)].length) 3) 35 2 ([(⟨0, 10⟩ : Sapi_Span), (⟨8, 20⟩ : Sapi_Span), (⟨30, 40⟩ : Sapi_Span)].flatMap e35), row (.slice (some ⟨b_4251, 0, none⟩) ([(-3), (-4)].length) 2) 3 1 ([(-3), (-4)].flatMap e3), row (.slice ao_4245 x_4240.1.length cap_4246) 3 1 (x_4240.1.flatMap e3), row (.slice (some ⟨b_4237, 0, none⟩) ([10, 12, 900, 11].length) 4) 3 1 ([10, 12, 900, 11].flatMap e3)]) (fun w hw => by have pz := (hz.call hw (.nil : Sel [row (.slice (some ⟨b_4253, 0, none⟩) ([(⟨0, 10⟩ : Sapi_Span), (⟨8, 20⟩ : Sapi_Span), (⟨30, 40⟩ : Sapi_Span)].length) 3) 35 2 ([(⟨0, 10⟩ : Sapi_Span), (⟨8, 20⟩ : Sapi_Span), (⟨30, 40⟩ : Sapi_Span)].flatMap e35), row (.slice (some ⟨b_4251, 0, none⟩) ([(-3), (-4)].length) 2) 3 1 ([(-3), (-4)].flatMap e3), row (.slice ao_4245 x_4240.1.length cap_4246) 3 1 (x_4240.1.flatMap e3), row (.slice (some ⟨b_4237, 0, none⟩) ([10, 12, 900, 11].length) 4) 3 1 ([10, 12, 900, 11].flatMap e3)] [] [row (.slice (some ⟨b_4253, 0, none⟩) ([(⟨0, 10⟩ : Sapi_Span), (⟨8, 20⟩ : Sapi_Span), (⟨30, 40⟩ : Sapi_Span)].length) 3) 35 2 ([(⟨0, 10⟩ : Sapi_Span), (⟨8, 20⟩ : Sapi_Span), (⟨30, 40⟩ : Sapi_Span)].flatMap e35), row (.slice (some ⟨b_4251, 0, none⟩) ([(-3), (-4)].length) 2) 3 1 ([(-3), (-4)].flatMap e3), row (.slice ao_4245 x_4240.1.length cap_4246) 3 1 (x_4240.1.flatMap e3), row (.slice (some ⟨b_4237, 0, none⟩) ([10, 12, 900, 11].length) 4) 3 1 ([10, 12, 900, 11].flatMap e3)])).lend hw (.nil : Sel [row (.slice (some ⟨b_4253, 0, none⟩) ([(⟨0, 10⟩ : Sapi_Span), (⟨8, 20⟩ : Sapi_Span), (⟨30, 40⟩ : Sapi_Span)].length) 3) 35 2 ([(⟨0, 10⟩ : Sapi_Span), (⟨8, 20⟩ : Sapi_Span), (⟨30, 40⟩ : Sapi_Span)].flatMap e35), row (.slice (some ⟨b_4251, 0, none⟩) ([(-3), (-4)].length) 2) 3 1 ([(-3), (-4)].flatMap e3), row (.slice ao_4245 x_4240.1.length cap_4246) 3 1 (x_4240.1.flatMap e3), row (.slice (some ⟨b_4237, 0, none⟩) ([10, 12, 900, 11].length) 4) 3 1 ([10, 12, 900, 11].flatMap e3)] [] [row (.slice (some ⟨b_4253, 0, none⟩) ([(⟨0, 10⟩ : Sapi_Span), (⟨8, 20⟩ : Sapi_Span), (⟨30, 40⟩ : Sapi_Span)].length) 3) 35 2 ([(⟨0, 10⟩ : Sapi_Span), (⟨8, 20⟩ : Sapi_Span), (⟨30, 40⟩ : Sapi_Span)].flatMap e35), row (.slice (some ⟨b_4251, 0, none⟩) ([(-3), (-4)].length) 2) 3 1 ([(-3), (-4)].flatMap e3), row (.slice ao_4245 x_4240.1.length cap_4246) 3 1 (x_4240.1.flatMap e3), row (.slice (some ⟨b_4237, 0, none⟩) ([10, 12, 900, 11].length) 4) 3 1 ([10, 12, 900, 11].flatMap e3)]) (B := [row (.slice (some ⟨b_4253, 0, none⟩) ([(⟨0, 10⟩ : Sapi_Span), (⟨8, 20⟩ : Sapi_Span), (⟨30, 40⟩ : Sapi_Span)].length) 3) 35 2 ([(⟨0, 10⟩ : Sapi_Span), (⟨8, 20⟩ : Sapi_Span), (⟨30, 40⟩ : Sapi_Span)].flatMap e35)]) (fun _ hx' => ((.cons .here .nil) : Sel _ [row (.slice (some ⟨b_4253, 0, none⟩) ([(⟨0, 10⟩ : Sapi_Span), (⟨8, 20⟩ : Sapi_Span), (⟨30, 40⟩ : Sapi_Span)].length) 3) 35 2 ([(⟨0, 10⟩ : Sapi_Span), (⟨8, 20⟩ : Sapi_Span), (⟨30, 40⟩ : Sapi_Span)].flatMap e35)] _).mem hx'); exact w_clock_Meet (Z := _) (ao_1653 := (some ⟨b_4253, 0, none⟩)) (cap_1654 := 3) (l_1652 := [(⟨0, 10⟩ : Sapi_Span), (⟨8, 20⟩ : Sapi_Span), (⟨30, 40⟩ : Sapi_Span)]) (f_1656 := 1) (r := x_4254) w pz (ZA.row (hw.lent (.nil : Sel [row (.slice (some ⟨b_4253, 0, none⟩) ([(⟨0, 10⟩ : Sapi_Span), (⟨8, 20⟩ : Sapi_Span), (⟨30, 40⟩ : Sapi_Span)].length) 3) 35 2 ([(⟨0, 10⟩ : Sapi_Span), (⟨8, 20⟩ : Sapi_Span), (⟨30, 40⟩ : Sapi_Span)].flatMap e35), row (.slice (some ⟨b_4251, 0, none⟩) ([(-3), (-4)].length) 2) 3 1 ([(-3), (-4)].flatMap e3), row (.slice ao_4245 x_4240.1.length cap_4246) 3 1 (x_4240.1.flatMap e3), row (.slice (some ⟨b_4237, 0, none⟩) ([10, 12, 900, 11].length) 4) 3 1 ([10, 12, 900, 11].flatMap e3)] [] [row (.slice (some ⟨b_4253, 0, none⟩) ([(⟨0, 10⟩ : Sapi_Span), (⟨8, 20⟩ : Sapi_Span), (⟨30, 40⟩ : Sapi_Span)].length) 3) 35 2 ([(⟨0, 10⟩ : Sapi_Span), (⟨8, 20⟩ : Sapi_Span), (⟨30, 40⟩ : Sapi_Span)].flatMap e35), row (.slice (some ⟨b_4251, 0, none⟩) ([(-3), (-4)].length) 2) 3 1 ([(-3), (-4)].flatMap e3), row (.slice ao_4245 x_4240.1.length cap_4246) 3 1 (x_4240.1.flatMap e3), row (.slice (some ⟨b_4237, 0, none⟩) ([10, 12, 900, 11].length) 4) 3 1 ([10, 12, 900, 11].flatMap e3)]) (B := [row (.slice (some ⟨b_4253, 0, none⟩) ([(⟨0, 10⟩ : Sapi_Span), (⟨8, 20⟩ : Sapi_Span), (⟨30, 40⟩ : Sapi_Span)].length) 3) 35 2 ([(⟨0, 10⟩ : Sapi_Span), (⟨8, 20⟩ : Sapi_Span), (⟨30, 40⟩ : Sapi_Span)].flatMap e35)]) (fun _ hx' => ((.cons .here .nil) : Sel _ [row (.slice (some ⟨b_4253, 0, none⟩) ([(⟨0, 10⟩ : Sapi_Span), (⟨8, 20⟩ : Sapi_Span), (⟨30, 40⟩ : Sapi_Span)].length) 3) 35 2 ([(⟨0, 10⟩ : Sapi_Span), (⟨8, 20⟩ : Sapi_Span), (⟨30, 40⟩ : Sapi_Span)].flatMap e35)] _).mem hx') (.head _) _) (RR.flat (enc := e35) (fun _ => rfl) _) ⟨w, pz.1⟩) hx_4255) ?_
  refine WL.quiet (d := 35) rfl rfl rfl (q_move rfl) ?_
  refine WL.quiet (d := 38) rfl rfl rfl (q_extract rfl rfl) ?_
  refine WL.quiet (d := 39) rfl rfl rfl (q_extract rfl rfl) ?_
  refine WL.new (dd := 9) rfl rfl rfl (e_alloc (cs := [(.int .i64 0), (.int .i64 0)]) zeroT_35 rfl) ?_
  intro b_4257 _
  refine WL.eff0 rfl rfl (e_store (vs := [(.int .i64 x_4254.1.fLo), (.int .i64 x_4254.1.fHi)]) (ds := [(.int .i64 x_4254.1.fLo), (.int .i64 x_4254.1.fHi)]) sizT_35 rfl rfl rfl rfl (oc_cons rfl (oc_cons rfl oc_nil)) .here (Nat.le_of_ble_eq_true rfl) rfl) ?_
  refine WL.quiet (d := 10) rfl rfl rfl (q_assign rfl) ?_
  refine WL.nil ?_
  refine WX.then ?_
  refine WC.seq ?_
  obtain ⟨x_4258, hx_4259, h⟩ := bind_elim h
  refine WC.region ?_
  refine WL.quiet (d := 41) rfl rfl rfl (q_move rfl) ?_
  refine WL.callD (dd := 42) rfl rfl rfl (run_call (l := [.tmp 41, .const (.int .i64 0)]) Try.call15 (.cons rfl (.cons rfl .nil))) (.nil : Sel [stb b_4257 35 [(.int .i64 x_4254.1.fLo), (.int .i64 x_4254.1.fHi)], row (.slice (some ⟨b_4253, 0, none⟩) ([(⟨0, 10⟩ : Sapi_Span), (⟨8, 20⟩ : Sapi_Span), (⟨30, 40⟩ : Sapi_Span)].length) 3) 35 2 ([(⟨0, 10⟩ : Sapi_Span), (⟨8, 20⟩ : Sapi_Span), (⟨30, 40⟩ : Sapi_Span)].flatMap e35), row (.slice (some ⟨b_4251, 0, none⟩) ([(-3), (-4)].length) 2) 3 1 ([(-3), (-4)].flatMap e3), row (.slice ao_4245 x_4240.1.length cap_4246) 3 1 (x_4240.1.flatMap e3), row (.slice (some ⟨b_4237, 0, none⟩) ([10, 12, 900, 11].length) 4) 3 1 ([10, 12, 900, 11].flatMap e3)] [] [stb b_4257 35 [(.int .i64 x_4254.1.fLo), (.int .i64 x_4254.1.fHi)], row (.slice (some ⟨b_4253, 0, none⟩) ([(⟨0, 10⟩ : Sapi_Span), (⟨8, 20⟩ : Sapi_Span), (⟨30, 40⟩ : Sapi_Span)].length) 3) 35 2 ([(⟨0, 10⟩ : Sapi_Span), (⟨8, 20⟩ : Sapi_Span), (⟨30, 40⟩ : Sapi_Span)].flatMap e35), row (.slice (some ⟨b_4251, 0, none⟩) ([(-3), (-4)].length) 2) 3 1 ([(-3), (-4)].flatMap e3), row (.slice ao_4245 x_4240.1.length cap_4246) 3 1 (x_4240.1.flatMap e3), row (.slice (some ⟨b_4237, 0, none⟩) ([10, 12, 900, 11].length) 4) 3 1 ([10, 12, 900, 11].flatMap e3)]) (fun w hw => by have pz := (hz.call hw (.nil : Sel [stb b_4257 35 [(.int .i64 x_4254.1.fLo), (.int .i64 x_4254.1.fHi)], row (.slice (some ⟨b_4253, 0, none⟩) ([(⟨0, 10⟩ : Sapi_Span), (⟨8, 20⟩ : Sapi_Span), (⟨30, 40⟩ : Sapi_Span)].length) 3) 35 2 ([(⟨0, 10⟩ : Sapi_Span), (⟨8, 20⟩ : Sapi_Span), (⟨30, 40⟩ : Sapi_Span)].flatMap e35), row (.slice (some ⟨b_4251, 0, none⟩) ([(-3), (-4)].length) 2) 3 1 ([(-3), (-4)].flatMap e3), row (.slice ao_4245 x_4240.1.length cap_4246) 3 1 (x_4240.1.flatMap e3), row (.slice (some ⟨b_4237, 0, none⟩) ([10, 12, 900, 11].length) 4) 3 1 ([10, 12, 900, 11].flatMap e3)] [] [stb b_4257 35 [(.int .i64 x_4254.1.fLo), (.int .i64 x_4254.1.fHi)], row (.slice (some ⟨b_4253, 0, none⟩) ([(⟨0, 10⟩ : Sapi_Span), (⟨8, 20⟩ : Sapi_Span), (⟨30, 40⟩ : Sapi_Span)].length) 3) 35 2 ([(⟨0, 10⟩ : Sapi_Span), (⟨8, 20⟩ : Sapi_Span), (⟨30, 40⟩ : Sapi_Span)].flatMap e35), row (.slice (some ⟨b_4251, 0, none⟩) ([(-3), (-4)].length) 2) 3 1 ([(-3), (-4)].flatMap e3), row (.slice ao_4245 x_4240.1.length cap_4246) 3 1 (x_4240.1.flatMap e3), row (.slice (some ⟨b_4237, 0, none⟩) ([10, 12, 900, 11].length) 4) 3 1 ([10, 12, 900, 11].flatMap e3)])).lend hw (.nil : Sel [stb b_4257 35 [(.int .i64 x_4254.1.fLo), (.int .i64 x_4254.1.fHi)], row (.slice (some ⟨b_4253, 0, none⟩) ([(⟨0, 10⟩ : Sapi_Span), (⟨8, 20⟩ : Sapi_Span), (⟨30, 40⟩ : Sapi_Span)].length) 3) 35 2 ([(⟨0, 10⟩ : Sapi_Span), (⟨8, 20⟩ : Sapi_Span), (⟨30, 40⟩ : Sapi_Span)].flatMap e35), row (.slice (some ⟨b_4251, 0, none⟩) ([(-3), (-4)].length) 2) 3 1 ([(-3), (-4)].flatMap e3), row (.slice ao_4245 x_4240.1.length cap_4246) 3 1 (x_4240.1.flatMap e3), row (.slice (some ⟨b_4237, 0, none⟩) ([10, 12, 900, 11].length) 4) 3 1 ([10, 12, 900, 11].flatMap e3)] [] [stb b_4257 35 [(.int .i64 x_4254.1.fLo), (.int .i64 x_4254.1.fHi)], row (.slice (some ⟨b_4253, 0, none⟩) ([(⟨0, 10⟩ : Sapi_Span), (⟨8, 20⟩ : Sapi_Span), (⟨30, 40⟩ : Sapi_Span)].length) 3) 35 2 ([(⟨0, 10⟩ : Sapi_Span), (⟨8, 20⟩ : Sapi_Span), (⟨30, 40⟩ : Sapi_Span)].flatMap e35), row (.slice (some ⟨b_4251, 0, none⟩) ([(-3), (-4)].length) 2) 3 1 ([(-3), (-4)].flatMap e3), row (.slice ao_4245 x_4240.1.length cap_4246) 3 1 (x_4240.1.flatMap e3), row (.slice (some ⟨b_4237, 0, none⟩) ([10, 12, 900, 11].length) 4) 3 1 ([10, 12, 900, 11].flatMap e3)]) (B := [row (.slice (some ⟨b_4253, 0, none⟩) ([(⟨0, 10⟩ : Sapi_Span), (⟨8, 20⟩ : Sapi_Span), (⟨30, 40⟩ : Sapi_Span)].length) 3) 35 2 ([(⟨0, 10⟩ : Sapi_Span), (⟨8, 20⟩ : Sapi_Span), (⟨30, 40⟩ : Sapi_Span)].flatMap e35)]) (fun _ hx' => ((.cons (.there .here) .nil) : Sel _ [row (.slice (some ⟨b_4253, 0, none⟩) ([(⟨0, 10⟩ : Sapi_Span), (⟨8, 20⟩ : Sapi_Span), (⟨30, 40⟩ : Sapi_Span)].length) 3) 35 2 ([(⟨0, 10⟩ : Sapi_Span), (⟨8, 20⟩ : Sapi_Span), (⟨30, 40⟩ : Sapi_Span)].flatMap e35)] _).mem hx'); exact w_clock_Meet (Z := _) (ao_1653 := (some ⟨b_4253, 0, none⟩)) (cap_1654 := 3) (l_1652 := [(⟨0, 10⟩ : Sapi_Span), (⟨8, 20⟩ : Sapi_Span), (⟨30, 40⟩ : Sapi_Span)]) (f_1656 := 0) (r := x_4258) w pz (ZA.row (hw.lent (.nil : Sel [stb b_4257 35 [(.int .i64 x_4254.1.fLo), (.int .i64 x_4254.1.fHi)], row (.slice (some ⟨b_4253, 0, none⟩) ([(⟨0, 10⟩ : Sapi_Span), (⟨8, 20⟩ : Sapi_Span), (⟨30, 40⟩ : Sapi_Span)].length) 3) 35 2 ([(⟨0, 10⟩ : Sapi_Span), (⟨8, 20⟩ : Sapi_Span), (⟨30, 40⟩ : Sapi_Span)].flatMap e35), row (.slice (some ⟨b_4251, 0, none⟩) ([(-3), (-4)].length) 2) 3 1 ([(-3), (-4)].flatMap e3), row (.slice ao_4245 x_4240.1.length cap_4246) 3 1 (x_4240.1.flatMap e3), row (.slice (some ⟨b_4237, 0, none⟩) ([10, 12, 900, 11].length) 4) 3 1 ([10, 12, 900, 11].flatMap e3)] [] [stb b_4257 35 [(.int .i64 x_4254.1.fLo), (.int .i64 x_4254.1.fHi)], row (.slice (some ⟨b_4253, 0, none⟩) ([(⟨0, 10⟩ : Sapi_Span), (⟨8, 20⟩ : Sapi_Span), (⟨30, 40⟩ : Sapi_Span)].length) 3) 35 2 ([(⟨0, 10⟩ : Sapi_Span), (⟨8, 20⟩ : Sapi_Span), (⟨30, 40⟩ : Sapi_Span)].flatMap e35), row (.slice (some ⟨b_4251, 0, none⟩) ([(-3), (-4)].length) 2) 3 1 ([(-3), (-4)].flatMap e3), row (.slice ao_4245 x_4240.1.length cap_4246) 3 1 (x_4240.1.flatMap e3), row (.slice (some ⟨b_4237, 0, none⟩) ([10, 12, 900, 11].length) 4) 3 1 ([10, 12, 900, 11].flatMap e3)]) (B := [row (.slice (some ⟨b_4253, 0, none⟩) ([(⟨0, 10⟩ : Sapi_Span), (⟨8, 20⟩ : Sapi_Span), (⟨30, 40⟩ : Sapi_Span)].length) 3) 35 2 ([(⟨0, 10⟩ : Sapi_Span), (⟨8, 20⟩ : Sapi_Span), (⟨30, 40⟩ : Sapi_Span)].flatMap e35)]) (fun _ hx' => ((.cons (.there .here) .nil) : Sel _ [row (.slice (some ⟨b_4253, 0, none⟩) ([(⟨0, 10⟩ : Sapi_Span), (⟨8, 20⟩ : Sapi_Span), (⟨30, 40⟩ : Sapi_Span)].length) 3) 35 2 ([(⟨0, 10⟩ : Sapi_Span), (⟨8, 20⟩ : Sapi_Span), (⟨30, 40⟩ : Sapi_Span)].flatMap e35)] _).mem hx') (.head _) _) (RR.flat (enc := e35) (fun _ => rfl) _) ⟨w, pz.1⟩) hx_4259) ?_
  refine WL.quiet (d := 40) rfl rfl rfl (q_move rfl) ?_
  refine WL.quiet (d := 43) rfl rfl rfl (q_extract rfl rfl) ?_
  refine WL.quiet (d := 44) rfl rfl rfl (q_extract rfl rfl) ?_
  refine WL.new (dd := 11) rfl rfl rfl (e_alloc (cs := [(.int .i64 0), (.int .i64 0)]) zeroT_35 rfl) ?_
  intro b_4261 _
  refine WL.eff0 rfl rfl (e_store (vs := [(.int .i64 x_4258.1.fLo), (.int .i64 x_4258.1.fHi)]) (ds := [(.int .i64 x_4258.1.fLo), (.int .i64 x_4258.1.fHi)]) sizT_35 rfl rfl rfl rfl (oc_cons rfl (oc_cons rfl oc_nil)) .here (Nat.le_of_ble_eq_true rfl) rfl) ?_
  refine WL.quiet (d := 12) rfl rfl rfl (q_assign rfl) ?_
  refine WL.nil ?_
  refine WX.then ?_
  refine WC.seq ?_
  obtain ⟨c_4262, h⟩ := chk_elim h
  obtain ⟨x_4265, hx_4266, h⟩ := bind_elim h
  refine WC.region ?_
  refine WL.quiet (d := 46) rfl rfl rfl (q_move rfl) ?_
  refine WL.rowHiD (dd := 47) (enc := e3) (ls := [10, 12, 900, 11]) rfl rfl elT_22 rfl rfl (.there (.there (.there (.there (.there .here))))) (fun _ => rfl) c_4262 ?_
  intro ao_4267 cap_4268
  refine WL.callD (dd := 48) rfl rfl rfl (run_call (l := [.tmp 47, .const (.int .i64 2)]) Try.call11 (.cons rfl (.cons rfl .nil))) (.nil : Sel [row (.slice ao_4267 (([10, 12, 900, 11].take (3 : Int).toNat).length) cap_4268) 3 1 (([10, 12, 900, 11].take (3 : Int).toNat).flatMap e3), stb b_4261 35 [(.int .i64 x_4258.1.fLo), (.int .i64 x_4258.1.fHi)], stb b_4257 35 [(.int .i64 x_4254.1.fLo), (.int .i64 x_4254.1.fHi)], row (.slice (some ⟨b_4253, 0, none⟩) ([(⟨0, 10⟩ : Sapi_Span), (⟨8, 20⟩ : Sapi_Span), (⟨30, 40⟩ : Sapi_Span)].length) 3) 35 2 ([(⟨0, 10⟩ : Sapi_Span), (⟨8, 20⟩ : Sapi_Span), (⟨30, 40⟩ : Sapi_Span)].flatMap e35), row (.slice (some ⟨b_4251, 0, none⟩) ([(-3), (-4)].length) 2) 3 1 ([(-3), (-4)].flatMap e3), row (.slice ao_4245 x_4240.1.length cap_4246) 3 1 (x_4240.1.flatMap e3)] [] [row (.slice ao_4267 (([10, 12, 900, 11].take (3 : Int).toNat).length) cap_4268) 3 1 (([10, 12, 900, 11].take (3 : Int).toNat).flatMap e3), stb b_4261 35 [(.int .i64 x_4258.1.fLo), (.int .i64 x_4258.1.fHi)], stb b_4257 35 [(.int .i64 x_4254.1.fLo), (.int .i64 x_4254.1.fHi)], row (.slice (some ⟨b_4253, 0, none⟩) ([(⟨0, 10⟩ : Sapi_Span), (⟨8, 20⟩ : Sapi_Span), (⟨30, 40⟩ : Sapi_Span)].length) 3) 35 2 ([(⟨0, 10⟩ : Sapi_Span), (⟨8, 20⟩ : Sapi_Span), (⟨30, 40⟩ : Sapi_Span)].flatMap e35), row (.slice (some ⟨b_4251, 0, none⟩) ([(-3), (-4)].length) 2) 3 1 ([(-3), (-4)].flatMap e3), row (.slice ao_4245 x_4240.1.length cap_4246) 3 1 (x_4240.1.flatMap e3)]) (fun w hw => by have pz := (hz.call hw (.nil : Sel [row (.slice ao_4267 (([10, 12, 900, 11].take (3 : Int).toNat).length) cap_4268) 3 1 (([10, 12, 900, 11].take (3 : Int).toNat).flatMap e3), stb b_4261 35 [(.int .i64 x_4258.1.fLo), (.int .i64 x_4258.1.fHi)], stb b_4257 35 [(.int .i64 x_4254.1.fLo), (.int .i64 x_4254.1.fHi)], row (.slice (some ⟨b_4253, 0, none⟩) ([(⟨0, 10⟩ : Sapi_Span), (⟨8, 20⟩ : Sapi_Span), (⟨30, 40⟩ : Sapi_Span)].length) 3) 35 2 ([(⟨0, 10⟩ : Sapi_Span), (⟨8, 20⟩ : Sapi_Span), (⟨30, 40⟩ : Sapi_Span)].flatMap e35), row (.slice (some ⟨b_4251, 0, none⟩) ([(-3), (-4)].length) 2) 3 1 ([(-3), (-4)].flatMap e3), row (.slice ao_4245 x_4240.1.length cap_4246) 3 1 (x_4240.1.flatMap e3)] [] [row (.slice ao_4267 (([10, 12, 900, 11].take (3 : Int).toNat).length) cap_4268) 3 1 (([10, 12, 900, 11].take (3 : Int).toNat).flatMap e3), stb b_4261 35 [(.int .i64 x_4258.1.fLo), (.int .i64 x_4258.1.fHi)], stb b_4257 35 [(.int .i64 x_4254.1.fLo), (.int .i64 x_4254.1.fHi)], row (.slice (some ⟨b_4253, 0, none⟩) ([(⟨0, 10⟩ : Sapi_Span), (⟨8, 20⟩ : Sapi_Span), (⟨30, 40⟩ : Sapi_Span)].length) 3) 35 2 ([(⟨0, 10⟩ : Sapi_Span), (⟨8, 20⟩ : Sapi_Span), (⟨30, 40⟩ : Sapi_Span)].flatMap e35), row (.slice (some ⟨b_4251, 0, none⟩) ([(-3), (-4)].length) 2) 3 1 ([(-3), (-4)].flatMap e3), row (.slice ao_4245 x_4240.1.length cap_4246) 3 1 (x_4240.1.flatMap e3)])).lend hw (.nil : Sel [row (.slice ao_4267 (([10, 12, 900, 11].take (3 : Int).toNat).length) cap_4268) 3 1 (([10, 12, 900, 11].take (3 : Int).toNat).flatMap e3), stb b_4261 35 [(.int .i64 x_4258.1.fLo), (.int .i64 x_4258.1.fHi)], stb b_4257 35 [(.int .i64 x_4254.1.fLo), (.int .i64 x_4254.1.fHi)], row (.slice (some ⟨b_4253, 0, none⟩) ([(⟨0, 10⟩ : Sapi_Span), (⟨8, 20⟩ : Sapi_Span), (⟨30, 40⟩ : Sapi_Span)].length) 3) 35 2 ([(⟨0, 10⟩ : Sapi_Span), (⟨8, 20⟩ : Sapi_Span), (⟨30, 40⟩ : Sapi_Span)].flatMap e35), row (.slice (some ⟨b_4251, 0, none⟩) ([(-3), (-4)].length) 2) 3 1 ([(-3), (-4)].flatMap e3), row (.slice ao_4245 x_4240.1.length cap_4246) 3 1 (x_4240.1.flatMap e3)] [] [row (.slice ao_4267 (([10, 12, 900, 11].take (3 : Int).toNat).length) cap_4268) 3 1 (([10, 12, 900, 11].take (3 : Int).toNat).flatMap e3), stb b_4261 35 [(.int .i64 x_4258.1.fLo), (.int .i64 x_4258.1.fHi)], stb b_4257 35 [(.int .i64 x_4254.1.fLo), (.int .i64 x_4254.1.fHi)], row (.slice (some ⟨b_4253, 0, none⟩) ([(⟨0, 10⟩ : Sapi_Span), (⟨8, 20⟩ : Sapi_Span), (⟨30, 40⟩ : Sapi_Span)].length) 3) 35 2 ([(⟨0, 10⟩ : Sapi_Span), (⟨8, 20⟩ : Sapi_Span), (⟨30, 40⟩ : Sapi_Span)].flatMap e35), row (.slice (some ⟨b_4251, 0, none⟩) ([(-3), (-4)].length) 2) 3 1 ([(-3), (-4)].flatMap e3), row (.slice ao_4245 x_4240.1.length cap_4246) 3 1 (x_4240.1.flatMap e3)]) (B := [row (.slice ao_4267 (([10, 12, 900, 11].take (3 : Int).toNat).length) cap_4268) 3 1 (([10, 12, 900, 11].take (3 : Int).toNat).flatMap e3)]) (fun _ hx' => ((.cons .here .nil) : Sel _ [row (.slice ao_4267 (([10, 12, 900, 11].take (3 : Int).toNat).length) cap_4268) 3 1 (([10, 12, 900, 11].take (3 : Int).toNat).flatMap e3)] _).mem hx'); exact w_clock_Midpoint (Z := _) (ao_17 := ao_4267) (cap_18 := cap_4268) (l_16 := ([10, 12, 900, 11].take (3 : Int).toNat)) (f_20 := 2) (r := x_4265) w pz (ZA.row (hw.lent (.nil : Sel [row (.slice ao_4267 (([10, 12, 900, 11].take (3 : Int).toNat).length) cap_4268) 3 1 (([10, 12, 900, 11].take (3 : Int).toNat).flatMap e3), stb b_4261 35 [(.int .i64 x_4258.1.fLo), (.int .i64 x_4258.1.fHi)], stb b_4257 35 [(.int .i64 x_4254.1.fLo), (.int .i64 x_4254.1.fHi)], row (.slice (some ⟨b_4253, 0, none⟩) ([(⟨0, 10⟩ : Sapi_Span), (⟨8, 20⟩ : Sapi_Span), (⟨30, 40⟩ : Sapi_Span)].length) 3) 35 2 ([(⟨0, 10⟩ : Sapi_Span), (⟨8, 20⟩ : Sapi_Span), (⟨30, 40⟩ : Sapi_Span)].flatMap e35), row (.slice (some ⟨b_4251, 0, none⟩) ([(-3), (-4)].length) 2) 3 1 ([(-3), (-4)].flatMap e3), row (.slice ao_4245 x_4240.1.length cap_4246) 3 1 (x_4240.1.flatMap e3)] [] [row (.slice ao_4267 (([10, 12, 900, 11].take (3 : Int).toNat).length) cap_4268) 3 1 (([10, 12, 900, 11].take (3 : Int).toNat).flatMap e3), stb b_4261 35 [(.int .i64 x_4258.1.fLo), (.int .i64 x_4258.1.fHi)], stb b_4257 35 [(.int .i64 x_4254.1.fLo), (.int .i64 x_4254.1.fHi)], row (.slice (some ⟨b_4253, 0, none⟩) ([(⟨0, 10⟩ : Sapi_Span), (⟨8, 20⟩ : Sapi_Span), (⟨30, 40⟩ : Sapi_Span)].length) 3) 35 2 ([(⟨0, 10⟩ : Sapi_Span), (⟨8, 20⟩ : Sapi_Span), (⟨30, 40⟩ : Sapi_Span)].flatMap e35), row (.slice (some ⟨b_4251, 0, none⟩) ([(-3), (-4)].length) 2) 3 1 ([(-3), (-4)].flatMap e3), row (.slice ao_4245 x_4240.1.length cap_4246) 3 1 (x_4240.1.flatMap e3)]) (B := [row (.slice ao_4267 (([10, 12, 900, 11].take (3 : Int).toNat).length) cap_4268) 3 1 (([10, 12, 900, 11].take (3 : Int).toNat).flatMap e3)]) (fun _ hx' => ((.cons .here .nil) : Sel _ [row (.slice ao_4267 (([10, 12, 900, 11].take (3 : Int).toNat).length) cap_4268) 3 1 (([10, 12, 900, 11].take (3 : Int).toNat).flatMap e3)] _).mem hx') (.head _) _) (RR.flat (enc := e3) (fun _ => rfl) _) ⟨w, pz.1⟩) hx_4266) ?_
  refine WL.quiet (d := 45) rfl rfl rfl (q_move rfl) ?_
  refine WL.quiet (d := 49) rfl rfl rfl (q_extract rfl rfl) ?_
  refine WL.quiet (d := 50) rfl rfl rfl (q_extract rfl rfl) ?_
  refine WL.quiet (d := 13) rfl rfl rfl (q_assign rfl) ?_
  refine WL.quiet (d := 14) rfl rfl rfl (q_assign rfl) ?_
  refine WL.nil ?_
  refine WX.then ?_
  refine WC.seq ?_
  obtain ⟨b_4272, hb_4273, h⟩ := bind_elim h
  refine WC.region ?_
  refine WL.quiet (d := 51) rfl rfl rfl (q_move rfl) ?_
  refine WL.quiet (d := 52) rfl rfl rfl (q_move rfl) ?_
  refine WL.quiet (d := 53) rfl rfl rfl (q_add rfl rfl rfl) ?_
  refine WL.quiet (d := 54) rfl rfl rfl (q_move rfl) ?_
  refine WL.quiet (d := 55) rfl rfl rfl (q_add rfl rfl rfl) ?_
  refine WL.quiet (d := 56) rfl rfl rfl (q_move rfl) ?_
  refine WL.quiet (d := 57) rfl rfl rfl (q_add rfl rfl rfl) ?_
  refine WL.quiet (d := 58) rfl rfl rfl (q_eql rfl rfl) ?_
  refine WL.quiet (d := 59) rfl rfl rfl (q_move rfl) ?_
  refine WL.cut0 True [(0, (.bool false)), (4, (.slice ao_4245 x_4240.1.length cap_4246)), (6, (.int .i64 x_4249.1)), (9, (.pointer (some ⟨b_4257, 0, none⟩))), (12, (.int .i64 x_4258.2)), (14, (.int .i64 x_4265.2)), (62, (.bool ((decide ((i64 ((i64 ((i64 (x_4238.2 + x_4240.2)) + x_4249.2)) + x_4254.2)) = 0)) && (decide (x_4238.1 = 11)))))] [row (.slice ao_4267 (([10, 12, 900, 11].take (3 : Int).toNat).length) cap_4268) 3 1 (([10, 12, 900, 11].take (3 : Int).toNat).flatMap e3), stb b_4261 35 [(.int .i64 x_4258.1.fLo), (.int .i64 x_4258.1.fHi)], stb b_4257 35 [(.int .i64 x_4254.1.fLo), (.int .i64 x_4254.1.fHi)], row (.slice (some ⟨b_4253, 0, none⟩) ([(⟨0, 10⟩ : Sapi_Span), (⟨8, 20⟩ : Sapi_Span), (⟨30, 40⟩ : Sapi_Span)].length) 3) 35 2 ([(⟨0, 10⟩ : Sapi_Span), (⟨8, 20⟩ : Sapi_Span), (⟨30, 40⟩ : Sapi_Span)].flatMap e35), row (.slice (some ⟨b_4251, 0, none⟩) ([(-3), (-4)].length) 2) 3 1 ([(-3), (-4)].flatMap e3), row (.slice ao_4245 x_4240.1.length cap_4246) 3 1 (x_4240.1.flatMap e3)] 3 ?_ (fun _ => ?_)
  · rcases Bool.eq_false_or_eq_true (decide ((i64 ((i64 ((i64 (x_4238.2 + x_4240.2)) + x_4249.2)) + x_4254.2)) = 0)) with hb' | hb'
    · have hg_4274 := hb'; clear hb'
      refine WL.pin (i := 59) rfl hg_4274 ?_
      refine WL.quiet (d := 60) rfl rfl rfl (q_move rfl) ?_
      refine WL.quiet (d := 61) rfl rfl rfl (q_eql rfl rfl) ?_
      refine WL.quiet (d := 62) rfl rfl rfl (q_pickT rfl rfl) ?_
      exact WL.cutEnd () trivial (.cons rfl (.cons rfl (.cons rfl (.cons rfl (.cons rfl (.cons rfl (.cons (some_bool (and_r hg_4274)) .nil))))))) (.cons .here (.cons .here (.cons .here (.cons .here (.cons .here (.cons .here .nil))))))
    · have hg_4275 := hb'; clear hb'
      refine WL.pin (i := 59) rfl hg_4275 ?_
      refine WL.skip rfl rfl rfl ?_
      refine WL.skip rfl rfl rfl ?_
      refine WL.quiet (d := 62) rfl rfl rfl (q_pickF rfl rfl) ?_
      exact WL.cutEnd () trivial (.cons rfl (.cons rfl (.cons rfl (.cons rfl (.cons rfl (.cons rfl (.cons (some_bool (and_l hg_4275)) .nil))))))) (.cons .here (.cons .here (.cons .here (.cons .here (.cons .here (.cons .here .nil))))))
  · skip
    refine WL.quiet (d := 63) rfl rfl rfl (q_move rfl) ?_
    refine WL.cut0 True [(0, (.bool false)), (6, (.int .i64 x_4249.1)), (9, (.pointer (some ⟨b_4257, 0, none⟩))), (12, (.int .i64 x_4258.2)), (14, (.int .i64 x_4265.2)), (67, (.bool b_4272))] [row (.slice ao_4267 (([10, 12, 900, 11].take (3 : Int).toNat).length) cap_4268) 3 1 (([10, 12, 900, 11].take (3 : Int).toNat).flatMap e3), stb b_4261 35 [(.int .i64 x_4258.1.fLo), (.int .i64 x_4258.1.fHi)], stb b_4257 35 [(.int .i64 x_4254.1.fLo), (.int .i64 x_4254.1.fHi)], row (.slice (some ⟨b_4253, 0, none⟩) ([(⟨0, 10⟩ : Sapi_Span), (⟨8, 20⟩ : Sapi_Span), (⟨30, 40⟩ : Sapi_Span)].length) 3) 35 2 ([(⟨0, 10⟩ : Sapi_Span), (⟨8, 20⟩ : Sapi_Span), (⟨30, 40⟩ : Sapi_Span)].flatMap e35), row (.slice (some ⟨b_4251, 0, none⟩) ([(-3), (-4)].length) 2) 3 1 ([(-3), (-4)].flatMap e3), row (.slice ao_4245 x_4240.1.length cap_4246) 3 1 (x_4240.1.flatMap e3)] 4 ?_ (fun _ => ?_)
    · rcases Bool.eq_false_or_eq_true ((decide ((i64 ((i64 ((i64 (x_4238.2 + x_4240.2)) + x_4249.2)) + x_4254.2)) = 0)) && (decide (x_4238.1 = 11))) with hb' | hb'
      · have hg_4276 := hb'; clear hb'
        have hq_4277 := ite_t hb_4273 hg_4276
        obtain ⟨x_4270, hx_4271, hq_4277⟩ := bind_elim hq_4277
        replace hq_4277 := Option.some.inj hq_4277
        refine WL.pin (i := 63) rfl hg_4276 ?_
        refine WL.quiet (d := 64) rfl rfl rfl (q_move rfl) ?_
        refine WL.new (dd := 65) rfl rfl rfl (e_buildSlice (cs := [2].flatMap e3) elT_22 (Eos.parts (l := [.const (.int .i64 2)]) (.cons rfl .nil) [0]) (fun _ => by kernel_rfl) rfl (by unfold maxLen; omega)) ?_
        intro b_4278 _
        refine WL.callD (dd := 66) rfl rfl rfl (run_call (l := [.tmp 64, .tmp 65]) Try.call17 (.cons rfl (.cons rfl .nil))) (.nil : Sel [row (.slice (some ⟨b_4278, 0, none⟩) ([2].length) 1) 3 1 ([2].flatMap e3), row (.slice ao_4267 (([10, 12, 900, 11].take (3 : Int).toNat).length) cap_4268) 3 1 (([10, 12, 900, 11].take (3 : Int).toNat).flatMap e3), stb b_4261 35 [(.int .i64 x_4258.1.fLo), (.int .i64 x_4258.1.fHi)], stb b_4257 35 [(.int .i64 x_4254.1.fLo), (.int .i64 x_4254.1.fHi)], row (.slice (some ⟨b_4253, 0, none⟩) ([(⟨0, 10⟩ : Sapi_Span), (⟨8, 20⟩ : Sapi_Span), (⟨30, 40⟩ : Sapi_Span)].length) 3) 35 2 ([(⟨0, 10⟩ : Sapi_Span), (⟨8, 20⟩ : Sapi_Span), (⟨30, 40⟩ : Sapi_Span)].flatMap e35), row (.slice (some ⟨b_4251, 0, none⟩) ([(-3), (-4)].length) 2) 3 1 ([(-3), (-4)].flatMap e3), row (.slice ao_4245 x_4240.1.length cap_4246) 3 1 (x_4240.1.flatMap e3)] [] [row (.slice (some ⟨b_4278, 0, none⟩) ([2].length) 1) 3 1 ([2].flatMap e3), row (.slice ao_4267 (([10, 12, 900, 11].take (3 : Int).toNat).length) cap_4268) 3 1 (([10, 12, 900, 11].take (3 : Int).toNat).flatMap e3), stb b_4261 35 [(.int .i64 x_4258.1.fLo), (.int .i64 x_4258.1.fHi)], stb b_4257 35 [(.int .i64 x_4254.1.fLo), (.int .i64 x_4254.1.fHi)], row (.slice (some ⟨b_4253, 0, none⟩) ([(⟨0, 10⟩ : Sapi_Span), (⟨8, 20⟩ : Sapi_Span), (⟨30, 40⟩ : Sapi_Span)].length) 3) 35 2 ([(⟨0, 10⟩ : Sapi_Span), (⟨8, 20⟩ : Sapi_Span), (⟨30, 40⟩ : Sapi_Span)].flatMap e35), row (.slice (some ⟨b_4251, 0, none⟩) ([(-3), (-4)].length) 2) 3 1 ([(-3), (-4)].flatMap e3), row (.slice ao_4245 x_4240.1.length cap_4246) 3 1 (x_4240.1.flatMap e3)]) (fun w hw => by have pz := (hz.call hw (.nil : Sel [row (.slice (some ⟨b_4278, 0, none⟩) ([2].length) 1) 3 1 ([2].flatMap e3), row (.slice ao_4267 (([10, 12, 900, 11].take (3 : Int).toNat).length) cap_4268) 3 1 (([10, 12, 900, 11].take (3 : Int).toNat).flatMap e3), stb b_4261 35 [(.int .i64 x_4258.1.fLo), (.int .i64 x_4258.1.fHi)], stb b_4257 35 [(.int .i64 x_4254.1.fLo), (.int .i64 x_4254.1.fHi)], row (.slice (some ⟨b_4253, 0, none⟩) ([(⟨0, 10⟩ : Sapi_Span), (⟨8, 20⟩ : Sapi_Span), (⟨30, 40⟩ : Sapi_Span)].length) 3) 35 2 ([(⟨0, 10⟩ : Sapi_Span), (⟨8, 20⟩ : Sapi_Span), (⟨30, 40⟩ : Sapi_Span)].flatMap e35), row (.slice (some ⟨b_4251, 0, none⟩) ([(-3), (-4)].length) 2) 3 1 ([(-3), (-4)].flatMap e3), row (.slice ao_4245 x_4240.1.length cap_4246) 3 1 (x_4240.1.flatMap e3)] [] [row (.slice (some ⟨b_4278, 0, none⟩) ([2].length) 1) 3 1 ([2].flatMap e3), row (.slice ao_4267 (([10, 12, 900, 11].take (3 : Int).toNat).length) cap_4268) 3 1 (([10, 12, 900, 11].take (3 : Int).toNat).flatMap e3), stb b_4261 35 [(.int .i64 x_4258.1.fLo), (.int .i64 x_4258.1.fHi)], stb b_4257 35 [(.int .i64 x_4254.1.fLo), (.int .i64 x_4254.1.fHi)], row (.slice (some ⟨b_4253, 0, none⟩) ([(⟨0, 10⟩ : Sapi_Span), (⟨8, 20⟩ : Sapi_Span), (⟨30, 40⟩ : Sapi_Span)].length) 3) 35 2 ([(⟨0, 10⟩ : Sapi_Span), (⟨8, 20⟩ : Sapi_Span), (⟨30, 40⟩ : Sapi_Span)].flatMap e35), row (.slice (some ⟨b_4251, 0, none⟩) ([(-3), (-4)].length) 2) 3 1 ([(-3), (-4)].flatMap e3), row (.slice ao_4245 x_4240.1.length cap_4246) 3 1 (x_4240.1.flatMap e3)])).lend hw (.nil : Sel [row (.slice (some ⟨b_4278, 0, none⟩) ([2].length) 1) 3 1 ([2].flatMap e3), row (.slice ao_4267 (([10, 12, 900, 11].take (3 : Int).toNat).length) cap_4268) 3 1 (([10, 12, 900, 11].take (3 : Int).toNat).flatMap e3), stb b_4261 35 [(.int .i64 x_4258.1.fLo), (.int .i64 x_4258.1.fHi)], stb b_4257 35 [(.int .i64 x_4254.1.fLo), (.int .i64 x_4254.1.fHi)], row (.slice (some ⟨b_4253, 0, none⟩) ([(⟨0, 10⟩ : Sapi_Span), (⟨8, 20⟩ : Sapi_Span), (⟨30, 40⟩ : Sapi_Span)].length) 3) 35 2 ([(⟨0, 10⟩ : Sapi_Span), (⟨8, 20⟩ : Sapi_Span), (⟨30, 40⟩ : Sapi_Span)].flatMap e35), row (.slice (some ⟨b_4251, 0, none⟩) ([(-3), (-4)].length) 2) 3 1 ([(-3), (-4)].flatMap e3), row (.slice ao_4245 x_4240.1.length cap_4246) 3 1 (x_4240.1.flatMap e3)] [] [row (.slice (some ⟨b_4278, 0, none⟩) ([2].length) 1) 3 1 ([2].flatMap e3), row (.slice ao_4267 (([10, 12, 900, 11].take (3 : Int).toNat).length) cap_4268) 3 1 (([10, 12, 900, 11].take (3 : Int).toNat).flatMap e3), stb b_4261 35 [(.int .i64 x_4258.1.fLo), (.int .i64 x_4258.1.fHi)], stb b_4257 35 [(.int .i64 x_4254.1.fLo), (.int .i64 x_4254.1.fHi)], row (.slice (some ⟨b_4253, 0, none⟩) ([(⟨0, 10⟩ : Sapi_Span), (⟨8, 20⟩ : Sapi_Span), (⟨30, 40⟩ : Sapi_Span)].length) 3) 35 2 ([(⟨0, 10⟩ : Sapi_Span), (⟨8, 20⟩ : Sapi_Span), (⟨30, 40⟩ : Sapi_Span)].flatMap e35), row (.slice (some ⟨b_4251, 0, none⟩) ([(-3), (-4)].length) 2) 3 1 ([(-3), (-4)].flatMap e3), row (.slice ao_4245 x_4240.1.length cap_4246) 3 1 (x_4240.1.flatMap e3)]) (B := [row (.slice ao_4245 x_4240.1.length cap_4246) 3 1 (x_4240.1.flatMap e3), row (.slice (some ⟨b_4278, 0, none⟩) ([2].length) 1) 3 1 ([2].flatMap e3)]) (fun _ hx' => ((.cons (.there (.there (.there (.there (.there (.there .here)))))) (.cons .here .nil)) : Sel _ [row (.slice ao_4245 x_4240.1.length cap_4246) 3 1 (x_4240.1.flatMap e3), row (.slice (some ⟨b_4278, 0, none⟩) ([2].length) 1) 3 1 ([2].flatMap e3)] _).mem hx'); exact w_law33_Ints (Z := _) (ao_3704 := ao_4245) (cap_3705 := cap_4246) (ao_3708 := (some ⟨b_4278, 0, none⟩)) (cap_3709 := 1) (a_3703 := x_4240.1) (b_3707 := [2]) (r := x_4270) w pz (ZA.row (hw.lent (.nil : Sel [row (.slice (some ⟨b_4278, 0, none⟩) ([2].length) 1) 3 1 ([2].flatMap e3), row (.slice ao_4267 (([10, 12, 900, 11].take (3 : Int).toNat).length) cap_4268) 3 1 (([10, 12, 900, 11].take (3 : Int).toNat).flatMap e3), stb b_4261 35 [(.int .i64 x_4258.1.fLo), (.int .i64 x_4258.1.fHi)], stb b_4257 35 [(.int .i64 x_4254.1.fLo), (.int .i64 x_4254.1.fHi)], row (.slice (some ⟨b_4253, 0, none⟩) ([(⟨0, 10⟩ : Sapi_Span), (⟨8, 20⟩ : Sapi_Span), (⟨30, 40⟩ : Sapi_Span)].length) 3) 35 2 ([(⟨0, 10⟩ : Sapi_Span), (⟨8, 20⟩ : Sapi_Span), (⟨30, 40⟩ : Sapi_Span)].flatMap e35), row (.slice (some ⟨b_4251, 0, none⟩) ([(-3), (-4)].length) 2) 3 1 ([(-3), (-4)].flatMap e3), row (.slice ao_4245 x_4240.1.length cap_4246) 3 1 (x_4240.1.flatMap e3)] [] [row (.slice (some ⟨b_4278, 0, none⟩) ([2].length) 1) 3 1 ([2].flatMap e3), row (.slice ao_4267 (([10, 12, 900, 11].take (3 : Int).toNat).length) cap_4268) 3 1 (([10, 12, 900, 11].take (3 : Int).toNat).flatMap e3), stb b_4261 35 [(.int .i64 x_4258.1.fLo), (.int .i64 x_4258.1.fHi)], stb b_4257 35 [(.int .i64 x_4254.1.fLo), (.int .i64 x_4254.1.fHi)], row (.slice (some ⟨b_4253, 0, none⟩) ([(⟨0, 10⟩ : Sapi_Span), (⟨8, 20⟩ : Sapi_Span), (⟨30, 40⟩ : Sapi_Span)].length) 3) 35 2 ([(⟨0, 10⟩ : Sapi_Span), (⟨8, 20⟩ : Sapi_Span), (⟨30, 40⟩ : Sapi_Span)].flatMap e35), row (.slice (some ⟨b_4251, 0, none⟩) ([(-3), (-4)].length) 2) 3 1 ([(-3), (-4)].flatMap e3), row (.slice ao_4245 x_4240.1.length cap_4246) 3 1 (x_4240.1.flatMap e3)]) (B := [row (.slice ao_4245 x_4240.1.length cap_4246) 3 1 (x_4240.1.flatMap e3), row (.slice (some ⟨b_4278, 0, none⟩) ([2].length) 1) 3 1 ([2].flatMap e3)]) (fun _ hx' => ((.cons (.there (.there (.there (.there (.there (.there .here)))))) (.cons .here .nil)) : Sel _ [row (.slice ao_4245 x_4240.1.length cap_4246) 3 1 (x_4240.1.flatMap e3), row (.slice (some ⟨b_4278, 0, none⟩) ([2].length) 1) 3 1 ([2].flatMap e3)] _).mem hx') (.head _) _) (RR.flat (enc := e3) (fun _ => rfl) _) ⟨w, pz.1⟩) (ZA.row (hw.lent (.nil : Sel [row (.slice (some ⟨b_4278, 0, none⟩) ([2].length) 1) 3 1 ([2].flatMap e3), row (.slice ao_4267 (([10, 12, 900, 11].take (3 : Int).toNat).length) cap_4268) 3 1 (([10, 12, 900, 11].take (3 : Int).toNat).flatMap e3), stb b_4261 35 [(.int .i64 x_4258.1.fLo), (.int .i64 x_4258.1.fHi)], stb b_4257 35 [(.int .i64 x_4254.1.fLo), (.int .i64 x_4254.1.fHi)], row (.slice (some ⟨b_4253, 0, none⟩) ([(⟨0, 10⟩ : Sapi_Span), (⟨8, 20⟩ : Sapi_Span), (⟨30, 40⟩ : Sapi_Span)].length) 3) 35 2 ([(⟨0, 10⟩ : Sapi_Span), (⟨8, 20⟩ : Sapi_Span), (⟨30, 40⟩ : Sapi_Span)].flatMap e35), row (.slice (some ⟨b_4251, 0, none⟩) ([(-3), (-4)].length) 2) 3 1 ([(-3), (-4)].flatMap e3), row (.slice ao_4245 x_4240.1.length cap_4246) 3 1 (x_4240.1.flatMap e3)] [] [row (.slice (some ⟨b_4278, 0, none⟩) ([2].length) 1) 3 1 ([2].flatMap e3), row (.slice ao_4267 (([10, 12, 900, 11].take (3 : Int).toNat).length) cap_4268) 3 1 (([10, 12, 900, 11].take (3 : Int).toNat).flatMap e3), stb b_4261 35 [(.int .i64 x_4258.1.fLo), (.int .i64 x_4258.1.fHi)], stb b_4257 35 [(.int .i64 x_4254.1.fLo), (.int .i64 x_4254.1.fHi)], row (.slice (some ⟨b_4253, 0, none⟩) ([(⟨0, 10⟩ : Sapi_Span), (⟨8, 20⟩ : Sapi_Span), (⟨30, 40⟩ : Sapi_Span)].length) 3) 35 2 ([(⟨0, 10⟩ : Sapi_Span), (⟨8, 20⟩ : Sapi_Span), (⟨30, 40⟩ : Sapi_Span)].flatMap e35), row (.slice (some ⟨b_4251, 0, none⟩) ([(-3), (-4)].length) 2) 3 1 ([(-3), (-4)].flatMap e3), row (.slice ao_4245 x_4240.1.length cap_4246) 3 1 (x_4240.1.flatMap e3)]) (B := [row (.slice ao_4245 x_4240.1.length cap_4246) 3 1 (x_4240.1.flatMap e3), row (.slice (some ⟨b_4278, 0, none⟩) ([2].length) 1) 3 1 ([2].flatMap e3)]) (fun _ hx' => ((.cons (.there (.there (.there (.there (.there (.there .here)))))) (.cons .here .nil)) : Sel _ [row (.slice ao_4245 x_4240.1.length cap_4246) 3 1 (x_4240.1.flatMap e3), row (.slice (some ⟨b_4278, 0, none⟩) ([2].length) 1) 3 1 ([2].flatMap e3)] _).mem hx') (.tail _ (.head _)) _) (RR.flat (enc := e3) (fun _ => rfl) _) ⟨w, pz.1⟩) hx_4271) ?_
        refine WL.quiet (d := 67) rfl rfl rfl (q_pickT rfl rfl) ?_
        exact WL.cutEnd () trivial (.cons rfl (.cons rfl (.cons rfl (.cons rfl (.cons rfl (.cons (some_bool hq_4277) .nil)))))) (.cons (.there .here) (.cons (.there .here) (.cons (.there .here) (.cons (.there .here) (.cons (.there .here) (.cons (.there .here) .nil))))))
      · have hg_4279 := hb'; clear hb'
        have hq_4280 := ite_f hb_4273 hg_4279
        replace hq_4280 := Option.some.inj hq_4280
        refine WL.pin (i := 63) rfl hg_4279 ?_
        refine WL.skip rfl rfl rfl ?_
        refine WL.skip rfl rfl rfl ?_
        refine WL.skip rfl rfl rfl ?_
        refine WL.quiet (d := 67) rfl rfl rfl (q_pickF rfl rfl) ?_
        exact WL.cutEnd () trivial (.cons rfl (.cons rfl (.cons rfl (.cons rfl (.cons rfl (.cons (some_bool hq_4280) .nil)))))) (.cons .here (.cons .here (.cons .here (.cons .here (.cons .here (.cons .here .nil))))))
    · skip
      refine WL.quiet (d := 68) rfl rfl rfl (q_move rfl) ?_
      refine WL.cut0 True [(0, (.bool false)), (9, (.pointer (some ⟨b_4257, 0, none⟩))), (12, (.int .i64 x_4258.2)), (14, (.int .i64 x_4265.2)), (71, (.bool (b_4272 && (decide (x_4249.1 = (-4))))))] [row (.slice ao_4267 (([10, 12, 900, 11].take (3 : Int).toNat).length) cap_4268) 3 1 (([10, 12, 900, 11].take (3 : Int).toNat).flatMap e3), stb b_4261 35 [(.int .i64 x_4258.1.fLo), (.int .i64 x_4258.1.fHi)], stb b_4257 35 [(.int .i64 x_4254.1.fLo), (.int .i64 x_4254.1.fHi)], row (.slice (some ⟨b_4253, 0, none⟩) ([(⟨0, 10⟩ : Sapi_Span), (⟨8, 20⟩ : Sapi_Span), (⟨30, 40⟩ : Sapi_Span)].length) 3) 35 2 ([(⟨0, 10⟩ : Sapi_Span), (⟨8, 20⟩ : Sapi_Span), (⟨30, 40⟩ : Sapi_Span)].flatMap e35), row (.slice (some ⟨b_4251, 0, none⟩) ([(-3), (-4)].length) 2) 3 1 ([(-3), (-4)].flatMap e3), row (.slice ao_4245 x_4240.1.length cap_4246) 3 1 (x_4240.1.flatMap e3)] 3 ?_ (fun _ => ?_)
      · rcases Bool.eq_false_or_eq_true b_4272 with hb' | hb'
        · have hg_4281 := hb'; clear hb'
          refine WL.pin (i := 68) rfl hg_4281 ?_
          refine WL.quiet (d := 69) rfl rfl rfl (q_move rfl) ?_
          refine WL.quiet (d := 70) rfl rfl rfl (q_eql rfl rfl) ?_
          refine WL.quiet (d := 71) rfl rfl rfl (q_pickT rfl rfl) ?_
          exact WL.cutEnd () trivial (.cons rfl (.cons rfl (.cons rfl (.cons rfl (.cons (some_bool (and_r hg_4281)) .nil))))) (.cons .here (.cons .here (.cons .here (.cons .here (.cons .here (.cons .here .nil))))))
        · have hg_4282 := hb'; clear hb'
          refine WL.pin (i := 68) rfl hg_4282 ?_
          refine WL.skip rfl rfl rfl ?_
          refine WL.skip rfl rfl rfl ?_
          refine WL.quiet (d := 71) rfl rfl rfl (q_pickF rfl rfl) ?_
          exact WL.cutEnd () trivial (.cons rfl (.cons rfl (.cons rfl (.cons rfl (.cons (some_bool (and_l hg_4282)) .nil))))) (.cons .here (.cons .here (.cons .here (.cons .here (.cons .here (.cons .here .nil))))))
      · skip
        refine WL.quiet (d := 72) rfl rfl rfl (q_move rfl) ?_
        refine WL.cut0 True [(0, (.bool false)), (12, (.int .i64 x_4258.2)), (14, (.int .i64 x_4265.2)), (76, (.bool ((b_4272 && (decide (x_4249.1 = (-4)))) && (decide (x_4254.1 = (⟨8, 10⟩ : Sapi_Span))))))] [row (.slice ao_4267 (([10, 12, 900, 11].take (3 : Int).toNat).length) cap_4268) 3 1 (([10, 12, 900, 11].take (3 : Int).toNat).flatMap e3), stb b_4261 35 [(.int .i64 x_4258.1.fLo), (.int .i64 x_4258.1.fHi)], stb b_4257 35 [(.int .i64 x_4254.1.fLo), (.int .i64 x_4254.1.fHi)], row (.slice (some ⟨b_4253, 0, none⟩) ([(⟨0, 10⟩ : Sapi_Span), (⟨8, 20⟩ : Sapi_Span), (⟨30, 40⟩ : Sapi_Span)].length) 3) 35 2 ([(⟨0, 10⟩ : Sapi_Span), (⟨8, 20⟩ : Sapi_Span), (⟨30, 40⟩ : Sapi_Span)].flatMap e35), row (.slice (some ⟨b_4251, 0, none⟩) ([(-3), (-4)].length) 2) 3 1 ([(-3), (-4)].flatMap e3), row (.slice ao_4245 x_4240.1.length cap_4246) 3 1 (x_4240.1.flatMap e3)] 4 ?_ (fun _ => ?_)
        · rcases Bool.eq_false_or_eq_true (b_4272 && (decide (x_4249.1 = (-4)))) with hb' | hb'
          · have hg_4283 := hb'; clear hb'
            refine WL.pin (i := 72) rfl hg_4283 ?_
            refine WL.quiet (d := 73) rfl rfl rfl (q_loadA (cs := [(.int .i64 x_4254.1.fLo), (.int .i64 x_4254.1.fHi)]) aggT_35 rfl rfl (rd_all (.there (.there .here)))) ?_
            refine WL.quiet (d := 74) rfl rfl rfl (q_build (v := (.agg #[(.int .i64 8), (.int .i64 10)])) (Eos.parts (l := [.const (.int .i64 8), .const (.int .i64 10)]) (.cons rfl (.cons rfl .nil)) [0, 1]) (fun _ => by kernel_rfl)) ?_
            refine WL.quiet (d := 75) rfl rfl rfl (q_aggeql (enc := e35) (a := x_4254.1) (b := (⟨8, 10⟩ : Sapi_Span)) eqT_35 rfl rfl) ?_
            refine WL.quiet (d := 76) rfl rfl rfl (q_pickT rfl rfl) ?_
            exact WL.cutEnd () trivial (.cons rfl (.cons rfl (.cons rfl (.cons (some_bool (and_r hg_4283)) .nil)))) (.cons .here (.cons .here (.cons .here (.cons .here (.cons .here (.cons .here .nil))))))
          · have hg_4284 := hb'; clear hb'
            refine WL.pin (i := 72) rfl hg_4284 ?_
            refine WL.skip rfl rfl rfl ?_
            refine WL.skip rfl rfl rfl ?_
            refine WL.skip rfl rfl rfl ?_
            refine WL.quiet (d := 76) rfl rfl rfl (q_pickF rfl rfl) ?_
            exact WL.cutEnd () trivial (.cons rfl (.cons rfl (.cons rfl (.cons (some_bool (and_l hg_4284)) .nil)))) (.cons .here (.cons .here (.cons .here (.cons .here (.cons .here (.cons .here .nil))))))
        · skip
          refine WL.quiet (d := 77) rfl rfl rfl (q_move rfl) ?_
          refine WL.cut0 True [(0, (.bool false)), (14, (.int .i64 x_4265.2)), (80, (.bool (((b_4272 && (decide (x_4249.1 = (-4)))) && (decide (x_4254.1 = (⟨8, 10⟩ : Sapi_Span)))) && (decide (x_4258.2 = 6)))))] [row (.slice ao_4267 (([10, 12, 900, 11].take (3 : Int).toNat).length) cap_4268) 3 1 (([10, 12, 900, 11].take (3 : Int).toNat).flatMap e3), stb b_4261 35 [(.int .i64 x_4258.1.fLo), (.int .i64 x_4258.1.fHi)], stb b_4257 35 [(.int .i64 x_4254.1.fLo), (.int .i64 x_4254.1.fHi)], row (.slice (some ⟨b_4253, 0, none⟩) ([(⟨0, 10⟩ : Sapi_Span), (⟨8, 20⟩ : Sapi_Span), (⟨30, 40⟩ : Sapi_Span)].length) 3) 35 2 ([(⟨0, 10⟩ : Sapi_Span), (⟨8, 20⟩ : Sapi_Span), (⟨30, 40⟩ : Sapi_Span)].flatMap e35), row (.slice (some ⟨b_4251, 0, none⟩) ([(-3), (-4)].length) 2) 3 1 ([(-3), (-4)].flatMap e3), row (.slice ao_4245 x_4240.1.length cap_4246) 3 1 (x_4240.1.flatMap e3)] 3 ?_ (fun _ => ?_)
          · rcases Bool.eq_false_or_eq_true ((b_4272 && (decide (x_4249.1 = (-4)))) && (decide (x_4254.1 = (⟨8, 10⟩ : Sapi_Span)))) with hb' | hb'
            · have hg_4285 := hb'; clear hb'
              refine WL.pin (i := 77) rfl hg_4285 ?_
              refine WL.quiet (d := 78) rfl rfl rfl (q_move rfl) ?_
              refine WL.quiet (d := 79) rfl rfl rfl (q_eql rfl rfl) ?_
              refine WL.quiet (d := 80) rfl rfl rfl (q_pickT rfl rfl) ?_
              exact WL.cutEnd () trivial (.cons rfl (.cons rfl (.cons (some_bool (and_r hg_4285)) .nil))) (.cons .here (.cons .here (.cons .here (.cons .here (.cons .here (.cons .here .nil))))))
            · have hg_4286 := hb'; clear hb'
              refine WL.pin (i := 77) rfl hg_4286 ?_
              refine WL.skip rfl rfl rfl ?_
              refine WL.skip rfl rfl rfl ?_
              refine WL.quiet (d := 80) rfl rfl rfl (q_pickF rfl rfl) ?_
              exact WL.cutEnd () trivial (.cons rfl (.cons rfl (.cons (some_bool (and_l hg_4286)) .nil))) (.cons .here (.cons .here (.cons .here (.cons .here (.cons .here (.cons .here .nil))))))
          · skip
            refine WL.quiet (d := 81) rfl rfl rfl (q_move rfl) ?_
            refine WL.cut0 True [(0, (.bool false)), (84, (.bool ((((b_4272 && (decide (x_4249.1 = (-4)))) && (decide (x_4254.1 = (⟨8, 10⟩ : Sapi_Span)))) && (decide (x_4258.2 = 6))) && (decide (x_4265.2 = 2)))))] [row (.slice ao_4267 (([10, 12, 900, 11].take (3 : Int).toNat).length) cap_4268) 3 1 (([10, 12, 900, 11].take (3 : Int).toNat).flatMap e3), stb b_4261 35 [(.int .i64 x_4258.1.fLo), (.int .i64 x_4258.1.fHi)], stb b_4257 35 [(.int .i64 x_4254.1.fLo), (.int .i64 x_4254.1.fHi)], row (.slice (some ⟨b_4253, 0, none⟩) ([(⟨0, 10⟩ : Sapi_Span), (⟨8, 20⟩ : Sapi_Span), (⟨30, 40⟩ : Sapi_Span)].length) 3) 35 2 ([(⟨0, 10⟩ : Sapi_Span), (⟨8, 20⟩ : Sapi_Span), (⟨30, 40⟩ : Sapi_Span)].flatMap e35), row (.slice (some ⟨b_4251, 0, none⟩) ([(-3), (-4)].length) 2) 3 1 ([(-3), (-4)].flatMap e3), row (.slice ao_4245 x_4240.1.length cap_4246) 3 1 (x_4240.1.flatMap e3)] 3 ?_ (fun _ => ?_)
            · rcases Bool.eq_false_or_eq_true (((b_4272 && (decide (x_4249.1 = (-4)))) && (decide (x_4254.1 = (⟨8, 10⟩ : Sapi_Span)))) && (decide (x_4258.2 = 6))) with hb' | hb'
              · have hg_4287 := hb'; clear hb'
                refine WL.pin (i := 81) rfl hg_4287 ?_
                refine WL.quiet (d := 82) rfl rfl rfl (q_move rfl) ?_
                refine WL.quiet (d := 83) rfl rfl rfl (q_eql rfl rfl) ?_
                refine WL.quiet (d := 84) rfl rfl rfl (q_pickT rfl rfl) ?_
                exact WL.cutEnd () trivial (.cons rfl (.cons (some_bool (and_r hg_4287)) .nil)) (.cons .here (.cons .here (.cons .here (.cons .here (.cons .here (.cons .here .nil))))))
              · have hg_4288 := hb'; clear hb'
                refine WL.pin (i := 81) rfl hg_4288 ?_
                refine WL.skip rfl rfl rfl ?_
                refine WL.skip rfl rfl rfl ?_
                refine WL.quiet (d := 84) rfl rfl rfl (q_pickF rfl rfl) ?_
                exact WL.cutEnd () trivial (.cons rfl (.cons (some_bool (and_l hg_4288)) .nil)) (.cons .here (.cons .here (.cons .here (.cons .here (.cons .here (.cons .here .nil))))))
            · skip
              refine WL.quiet (d := 0) rfl rfl rfl (q_assign rfl) ?_
              refine WL.nil ?_
              refine WX.then ?_
              refine WC.ret ?_
              obtain rfl := Option.some.inj h
              refine WX.bpRet Try.results10 (.tmp rfl .nil) (fun w hw => ?_)
              exact ⟨ret1 rfl, hw.sub .nil⟩
/-- nacelleref33.Fits -/
def m_ref33_Fits (n_4303 : Int) (f_4304 : Int) : Option Bool :=
  some (((((decide (n_4303 ≥ 1)) && (decide (n_4303 ≤ 16))) && (decide (f_4304 ≥ 0))) && (decide (f_4304 ≤ 16))) && (decide (n_4303 ≥ (i64 ((i64 (2 * f_4304)) + 1)))))

set_option maxRecDepth 20000 in
theorem w_ref33_Fits (Z : Zp)  (n_4303 : Int) (f_4304 : Int) (r : Bool) (w₀ : World) (hz : PZ [] w₀ Z)
    (h : m_ref33_Fits n_4303 f_4304 = some r) :
    Calls Try.prog 26 #[(.int .i64 n_4303), (.int .i64 f_4304)] w₀ fun e w' => e = .returned (.bool r) ∧ Hp [] w₀ w' [] := by
  unfold m_ref33_Fits at h
  refine Calls.ofWC (vs := [(.int .i64 n_4303), (.int .i64 f_4304)]) (pre := []) (env := [(0, (.int .i64 n_4303)), (1, (.int .i64 f_4304))]) Try.func26 rfl Try.ntmps26 rfl (Hp.nil w₀ _) rfl ?_
  refine WC.seq ?_
  refine WC.region ?_
  refine WL.quiet (d := 4) rfl rfl rfl (q_assign rfl) ?_
  refine WL.nil ?_
  refine WX.then ?_
  refine WC.seq ?_
  refine WC.region ?_
  refine WL.quiet (d := 5) rfl rfl rfl (q_move rfl) ?_
  refine WL.quiet (d := 6) rfl rfl rfl (q_geq rfl rfl) ?_
  refine WL.quiet (d := 7) rfl rfl rfl (q_move rfl) ?_
  refine WL.cut0 True [(0, (.int .i64 n_4303)), (1, (.int .i64 f_4304)), (4, (.bool false)), (10, (.bool ((decide (n_4303 ≥ 1)) && (decide (n_4303 ≤ 16)))))] [] 3 ?_ (fun _ => ?_)
  · rcases Bool.eq_false_or_eq_true (decide (n_4303 ≥ 1)) with hb' | hb'
    · have hg_4314 := hb'; clear hb'
      refine WL.pin (i := 7) rfl hg_4314 ?_
      refine WL.quiet (d := 8) rfl rfl rfl (q_move rfl) ?_
      refine WL.quiet (d := 9) rfl rfl rfl (q_leq rfl rfl) ?_
      refine WL.quiet (d := 10) rfl rfl rfl (q_pickT rfl rfl) ?_
      exact WL.cutEnd () trivial (.cons rfl (.cons rfl (.cons rfl (.cons (some_bool (and_r hg_4314)) .nil)))) .nil
    · have hg_4315 := hb'; clear hb'
      refine WL.pin (i := 7) rfl hg_4315 ?_
      refine WL.skip rfl rfl rfl ?_
      refine WL.skip rfl rfl rfl ?_
      refine WL.quiet (d := 10) rfl rfl rfl (q_pickF rfl rfl) ?_
      exact WL.cutEnd () trivial (.cons rfl (.cons rfl (.cons rfl (.cons (some_bool (and_l hg_4315)) .nil)))) .nil
  · skip
    refine WL.quiet (d := 11) rfl rfl rfl (q_move rfl) ?_
    refine WL.cut0 True [(0, (.int .i64 n_4303)), (1, (.int .i64 f_4304)), (4, (.bool false)), (14, (.bool (((decide (n_4303 ≥ 1)) && (decide (n_4303 ≤ 16))) && (decide (f_4304 ≥ 0)))))] [] 3 ?_ (fun _ => ?_)
    · rcases Bool.eq_false_or_eq_true ((decide (n_4303 ≥ 1)) && (decide (n_4303 ≤ 16))) with hb' | hb'
      · have hg_4316 := hb'; clear hb'
        refine WL.pin (i := 11) rfl hg_4316 ?_
        refine WL.quiet (d := 12) rfl rfl rfl (q_move rfl) ?_
        refine WL.quiet (d := 13) rfl rfl rfl (q_geq rfl rfl) ?_
        refine WL.quiet (d := 14) rfl rfl rfl (q_pickT rfl rfl) ?_
        exact WL.cutEnd () trivial (.cons rfl (.cons rfl (.cons rfl (.cons (some_bool (and_r hg_4316)) .nil)))) .nil
      · have hg_4317 := hb'; clear hb'
        refine WL.pin (i := 11) rfl hg_4317 ?_
        refine WL.skip rfl rfl rfl ?_
        refine WL.skip rfl rfl rfl ?_
        refine WL.quiet (d := 14) rfl rfl rfl (q_pickF rfl rfl) ?_
        exact WL.cutEnd () trivial (.cons rfl (.cons rfl (.cons rfl (.cons (some_bool (and_l hg_4317)) .nil)))) .nil
    · skip
      refine WL.quiet (d := 15) rfl rfl rfl (q_move rfl) ?_
      refine WL.cut0 True [(0, (.int .i64 n_4303)), (1, (.int .i64 f_4304)), (4, (.bool false)), (18, (.bool ((((decide (n_4303 ≥ 1)) && (decide (n_4303 ≤ 16))) && (decide (f_4304 ≥ 0))) && (decide (f_4304 ≤ 16)))))] [] 3 ?_ (fun _ => ?_)
      · rcases Bool.eq_false_or_eq_true (((decide (n_4303 ≥ 1)) && (decide (n_4303 ≤ 16))) && (decide (f_4304 ≥ 0))) with hb' | hb'
        · have hg_4318 := hb'; clear hb'
          refine WL.pin (i := 15) rfl hg_4318 ?_
          refine WL.quiet (d := 16) rfl rfl rfl (q_move rfl) ?_
          refine WL.quiet (d := 17) rfl rfl rfl (q_leq rfl rfl) ?_
          refine WL.quiet (d := 18) rfl rfl rfl (q_pickT rfl rfl) ?_
          exact WL.cutEnd () trivial (.cons rfl (.cons rfl (.cons rfl (.cons (some_bool (and_r hg_4318)) .nil)))) .nil
        · have hg_4319 := hb'; clear hb'
          refine WL.pin (i := 15) rfl hg_4319 ?_
          refine WL.skip rfl rfl rfl ?_
          refine WL.skip rfl rfl rfl ?_
          refine WL.quiet (d := 18) rfl rfl rfl (q_pickF rfl rfl) ?_
          exact WL.cutEnd () trivial (.cons rfl (.cons rfl (.cons rfl (.cons (some_bool (and_l hg_4319)) .nil)))) .nil
      · skip
        refine WL.quiet (d := 19) rfl rfl rfl (q_move rfl) ?_
        refine WL.cut0 True [(4, (.bool false)), (25, (.bool (((((decide (n_4303 ≥ 1)) && (decide (n_4303 ≤ 16))) && (decide (f_4304 ≥ 0))) && (decide (f_4304 ≤ 16))) && (decide (n_4303 ≥ (i64 ((i64 (2 * f_4304)) + 1)))))))] [] 6 ?_ (fun _ => ?_)
        · rcases Bool.eq_false_or_eq_true ((((decide (n_4303 ≥ 1)) && (decide (n_4303 ≤ 16))) && (decide (f_4304 ≥ 0))) && (decide (f_4304 ≤ 16))) with hb' | hb'
          · have hg_4320 := hb'; clear hb'
            refine WL.pin (i := 19) rfl hg_4320 ?_
            refine WL.quiet (d := 20) rfl rfl rfl (q_move rfl) ?_
            refine WL.quiet (d := 21) rfl rfl rfl (q_move rfl) ?_
            refine WL.quiet (d := 22) rfl rfl rfl (q_mul rfl rfl rfl) ?_
            refine WL.quiet (d := 23) rfl rfl rfl (q_add rfl rfl rfl) ?_
            refine WL.quiet (d := 24) rfl rfl rfl (q_geq rfl rfl) ?_
            refine WL.quiet (d := 25) rfl rfl rfl (q_pickT rfl rfl) ?_
            exact WL.cutEnd () trivial (.cons rfl (.cons (some_bool (and_r hg_4320)) .nil)) .nil
          · have hg_4321 := hb'; clear hb'
            refine WL.pin (i := 19) rfl hg_4321 ?_
            refine WL.skip rfl rfl rfl ?_
            refine WL.skip rfl rfl rfl ?_
            refine WL.skip rfl rfl rfl ?_
            refine WL.skip rfl rfl rfl ?_
            refine WL.skip rfl rfl rfl ?_
            refine WL.quiet (d := 25) rfl rfl rfl (q_pickF rfl rfl) ?_
            exact WL.cutEnd () trivial (.cons rfl (.cons (some_bool (and_l hg_4321)) .nil)) .nil
        · skip
          refine WL.quiet (d := 4) rfl rfl rfl (q_assign rfl) ?_
          refine WL.nil ?_
          refine WX.then ?_
          refine WC.ret ?_
          obtain rfl := Option.some.inj h
          refine WX.bpRet Try.results26 (.tmp rfl .nil) (fun w hw => ?_)
          exact ⟨ret1 rfl, hw.sub .nil⟩
/-- nacelleref33.In -/
def m_ref33_In (t_4335 : Int) : Option Bool :=
  some ((decide (t_4335 ≥ (-1073741824))) && (decide (t_4335 ≤ 1073741824)))

set_option maxRecDepth 20000 in
theorem w_ref33_In (Z : Zp)  (t_4335 : Int) (r : Bool) (w₀ : World) (hz : PZ [] w₀ Z)
    (h : m_ref33_In t_4335 = some r) :
    Calls Try.prog 27 #[(.int .i64 t_4335)] w₀ fun e w' => e = .returned (.bool r) ∧ Hp [] w₀ w' [] := by
  unfold m_ref33_In at h
  refine Calls.ofWC (vs := [(.int .i64 t_4335)]) (pre := []) (env := [(0, (.int .i64 t_4335))]) Try.func27 rfl Try.ntmps27 rfl (Hp.nil w₀ _) rfl ?_
  refine WC.seq ?_
  refine WC.region ?_
  refine WL.quiet (d := 2) rfl rfl rfl (q_assign rfl) ?_
  refine WL.nil ?_
  refine WX.then ?_
  refine WC.seq ?_
  refine WC.region ?_
  refine WL.quiet (d := 3) rfl rfl rfl (q_move rfl) ?_
  refine WL.quiet (d := 4) rfl rfl rfl (q_geq rfl rfl) ?_
  refine WL.quiet (d := 5) rfl rfl rfl (q_move rfl) ?_
  refine WL.cut0 True [(2, (.bool false)), (8, (.bool ((decide (t_4335 ≥ (-1073741824))) && (decide (t_4335 ≤ 1073741824)))))] [] 3 ?_ (fun _ => ?_)
  · rcases Bool.eq_false_or_eq_true (decide (t_4335 ≥ (-1073741824))) with hb' | hb'
    · have hg_4339 := hb'; clear hb'
      refine WL.pin (i := 5) rfl hg_4339 ?_
      refine WL.quiet (d := 6) rfl rfl rfl (q_move rfl) ?_
      refine WL.quiet (d := 7) rfl rfl rfl (q_leq rfl rfl) ?_
      refine WL.quiet (d := 8) rfl rfl rfl (q_pickT rfl rfl) ?_
      exact WL.cutEnd () trivial (.cons rfl (.cons (some_bool (and_r hg_4339)) .nil)) .nil
    · have hg_4340 := hb'; clear hb'
      refine WL.pin (i := 5) rfl hg_4340 ?_
      refine WL.skip rfl rfl rfl ?_
      refine WL.skip rfl rfl rfl ?_
      refine WL.quiet (d := 8) rfl rfl rfl (q_pickF rfl rfl) ?_
      exact WL.cutEnd () trivial (.cons rfl (.cons (some_bool (and_l hg_4340)) .nil)) .nil
  · skip
    refine WL.quiet (d := 2) rfl rfl rfl (q_assign rfl) ?_
    refine WL.nil ?_
    refine WX.then ?_
    refine WC.ret ?_
    obtain rfl := Option.some.inj h
    refine WX.bpRet Try.results27 (.tmp rfl .nil) (fun w hw => ?_)
    exact ⟨ret1 rfl, hw.sub .nil⟩
end Go.Proofs.Ytkhiiafgikioiaa
