/- A part of this claim's proof: models of the functions that the law reaches, with the proof that the functions compute them; plain laws about the models. No conditions beyond those in each theorem's statement. -/
import Derived.Test.YtkhiiafgikioiaaZSort
import Derived.Test.YtkhiiafgikioiaaZMap
import Derived.Test.YtkhiiafgikioiaaShelf33
import Derived.Test.YtkhiiafgikioiaaProg
namespace Go.Proofs.Ytkhiiafgikioiaa
open Go Go.RowKit Sep
set_option linter.all false
set_option maxRecDepth 30000
def e3 (x : Int) : List Value := [(.int .i64 x)]
theorem e3_oc : ∀ x, ∀ u ∈ e3 x, u.oneCell' = true := fun _ => (oc_cons rfl oc_nil)
structure Sapi_Span where
  fLo : Int
  fHi : Int
  deriving Inhabited, DecidableEq
def e35 (x : Sapi_Span) : List Value := [(.int .i64 x.fLo), (.int .i64 x.fHi)]
theorem e35_oc : ∀ x, ∀ u ∈ e35 x, u.oneCell' = true := fun _ => (oc_cons rfl (oc_cons rfl oc_nil))
structure S7 where
  fX : Int
  fY : Int
  fSigned : Bool
  fCode : Int
  deriving Inhabited, DecidableEq
structure S13 where
  fMsg : ByteArray
  fAddr : Int
  deriving Inhabited, DecidableEq
def e45 (x : Int) : List Value := [(.int .i16 x)]
theorem e45_oc : ∀ x, ∀ u ∈ e45 x, u.oneCell' = true := fun _ => (oc_cons rfl oc_nil)
structure S52 where
  fL : List Int
  fF : Int
  deriving Inhabited, DecidableEq
def p52 (Z : Zp) (r : List Value) (x : S52) : Prop := ∃ (ao0 : Option Addr) (cap0 : Nat), r = [(.slice ao0 x.fL.length cap0), (.int .i64 x.fF)] ∧ ZS Z 1 (fun r x => r = e3 x) ao0 cap0 x.fL
theorem p52_mono {Z Z' : Zp} (k : Zle Z Z') {r : List Value} {x : S52} (h : p52 Z r x) : p52 Z' r x := by
  obtain ⟨ao0, cap0, hr, h0⟩ := h
  exact ⟨ao0, cap0, hr, h0.mono k⟩
theorem p52_len {Z : Zp} {r : List Value} {x : S52} (h : p52 Z r x) : r.length = 2 := by
  obtain ⟨ao0, cap0, hr, h0⟩ := h
  rw [hr]; rfl
theorem elT_22 : elT Try.prog 22 3 1 8 := ⟨Try.underlying22, ⟨Try.t3, _, rfl, rfl, rfl, rfl, rfl⟩, by decide⟩
theorem oneT_3 : oneT Try.prog 3 := oneT_of Try.underlying3 rfl
theorem elT_23 : elT Try.prog 23 35 2 16 := ⟨Try.underlying23, ⟨Try.t35, _, rfl, rfl, rfl, rfl, rfl⟩, by decide⟩
theorem zeroT_35 : zeroT Try.prog 35 (.agg #[(.int .i64 0), (.int .i64 0)]) := zeroT_of (i := Try.t35) rfl rfl
theorem oneT_23 : oneT Try.prog 23 := oneT_of Try.underlying23 rfl
theorem fo_35_0 : fieldOff Try.prog 35 0 0 := fieldOff_of (i := Try.t3) Try.underlying35 rfl rfl (by decide) rfl
theorem fo_35_1 : fieldOff Try.prog 35 1 1 := fieldOff_of (i := Try.t3) Try.underlying35 rfl rfl (by decide) rfl
theorem aggT_35 : aggT Try.prog 35 2 := aggT_of (i := Try.t35) Try.underlying35 rfl rfl
theorem sizT_35 : sizT Try.prog 35 2 := sizT_of (i := Try.t35) rfl
theorem zeroT_57 : zeroT Try.prog 57 .nilFunc := zeroT_of (i := Try.t57) rfl rfl
theorem sizT_57 : sizT Try.prog 57 1 := sizT_of (i := Try.t57) rfl
theorem oneT_57 : oneT Try.prog 57 := oneT_of Try.underlying57 rfl
theorem sizT_3 : sizT Try.prog 3 1 := sizT_of (i := Try.t3) rfl
theorem zeroT_3 : zeroT Try.prog 3 (.int .i64 0) := zeroT_of (i := Try.t3) rfl rfl
theorem eqT_35 : EqT Try.prog 35 e35 := ⟨fun u v w => by
  have i35_10000 := fun (w : World) (a b : Array Value) => run_equalIn_agg (P := Try.prog) w 9999 35 a b (by simp [Program.fieldsOf, Try.underlying35]) (by kernel_rfl)
  have i3_9999 := fun (w : World) (a b : Int) => run_equalIn_int (P := Try.prog) w 9998 3 .i64 .i64 a b Try.underlying3
  rw [i35_10000]
  simp [Program.fieldsOf, Op.eqFields, part, e35, i35_10000, Try.underlying35, i3_9999]
  rcases u with ⟨u1, u2⟩
  rcases v with ⟨v1, v2⟩
  by_cases h1 : u1 = v1 <;> by_cases h2 : u2 = v2 <;> simp [h1, h2], by kernel_rfl⟩
theorem elT_42 : elT Try.prog 42 45 1 2 := ⟨Try.underlying42, ⟨Try.t45, _, rfl, rfl, rfl, rfl, rfl⟩, by decide⟩
theorem oneT_45 : oneT Try.prog 45 := oneT_of Try.underlying45 rfl
theorem keyT_3 : KeyT Try.prog 3 (Value.int .i64) := keyT_int Try.underlying3
theorem zeroT_23 : zeroT Try.prog 23 (.slice none 0 0) := zeroT_of (i := Try.t23) rfl rfl
theorem sizT_23 : sizT Try.prog 23 1 := sizT_of (i := Try.t23) rfl
theorem elT_53 : elT Try.prog 53 52 2 32 := ⟨Try.underlying53, ⟨Try.t52, _, rfl, rfl, rfl, rfl, rfl⟩, by decide⟩
theorem aggT_52 : aggT Try.prog 52 2 := aggT_of (i := Try.t52) Try.underlying52 rfl rfl
theorem zeroT_52 : zeroT Try.prog 52 (.agg #[(.slice none 0 0), (.int .i64 0)]) := zeroT_of (i := Try.t52) rfl rfl
theorem sizT_52 : sizT Try.prog 52 2 := sizT_of (i := Try.t52) rfl
theorem fo_52_0 : fieldOff Try.prog 52 0 0 := fieldOff_of (i := Try.t22) Try.underlying52 rfl rfl (by decide) rfl
theorem oneT_22 : oneT Try.prog 22 := oneT_of Try.underlying22 rfl
theorem fo_52_1 : fieldOff Try.prog 52 1 1 := fieldOff_of (i := Try.t3) Try.underlying52 rfl rfl (by decide) rfl
def m_slices_Sort (l : List Int) : Option (List Int) := chk (0 < l.length ∧ l.length < 4611686018427387904) (some (isort l))
theorem w_slices_Sort (Z : Zp) (ao : Option Addr) (cap : Nat) (l : List Int) (r : List Int) (w₀ : World) (hz : PZ (fps [row (.slice ao l.length cap) 3 1 (l.flatMap e3)]) w₀ Z)
    (h : m_slices_Sort l = some r) (hown : Hp (fps [row (.slice ao l.length cap) 3 1 (l.flatMap e3)]) w₀ w₀ [row (.slice ao l.length cap) 3 1 (l.flatMap e3)]) :
    Calls Try.prog 40 #[.slice ao l.length cap] w₀ fun e w' => e = .returned (.tuple #[]) ∧ (r.length = l.length) ∧ Hp (fps [row (.slice ao l.length cap) 3 1 (l.flatMap e3)]) w₀ w' [row (.slice ao r.length cap) 3 1 (r.flatMap e3)] := by
  obtain ⟨h0, h⟩ := chk_elim h
  exact sort_int (fun _ => rfl) Try.slices_Sort_int ao cap l r w₀ h0 ((Option.some.inj h).symm.trans (mergeSort_eq l).symm) hown


/-- clock.fits -/
def m_clock_fits (n_21 : Int) (f_22 : Int) : Option Bool :=
  some ((((decide (n_21 ≥ 1)) && (decide (n_21 ≤ 16))) && (decide (f_22 ≥ 0))) && (decide (f_22 ≤ (i64 (Int.tdiv (i64 (n_21 - 1)) 2)))))

set_option maxRecDepth 20000 in
theorem w_clock_fits (Z : Zp)   (n_21 : Int) (f_22 : Int) (r : Bool) (w₀ : World) (hz : PZ [] w₀ Z)
    (h : m_clock_fits n_21 f_22 = some r) :
    Calls Try.prog 20 #[(.int .i64 n_21), (.int .i64 f_22)] w₀ fun e w' => e = .returned (.bool r) ∧ Hp [] w₀ w' [] := by
  unfold m_clock_fits at h
  refine Calls.ofWC (vs := [(.int .i64 n_21), (.int .i64 f_22)]) (pre := []) (env := [(0, (.int .i64 n_21)), (1, (.int .i64 f_22))]) Try.func20 rfl Try.ntmps20 rfl (Hp.nil w₀ _) rfl ?_
  refine WC.seq ?_
  refine WC.region ?_
  refine WL.quiet (d := 4) rfl rfl rfl (q_assign rfl) ?_
  refine WL.nil ?_
  refine WX.then ?_
  refine WC.seq ?_
  refine WC.region ?_
  refine WL.quiet (d := 5) rfl rfl rfl (q_move rfl) ?_
  refine WL.quiet (d := 6) rfl rfl rfl (q_geq rfl rfl) ?_
  refine WL.quiet (d := 7) rfl rfl rfl (q_move rfl) ?_
  refine WL.cut0 True [(0, (.int .i64 n_21)), (1, (.int .i64 f_22)), (4, (.bool false)), (10, (.bool ((decide (n_21 ≥ 1)) && (decide (n_21 ≤ 16)))))] [] 3 ?_ (fun _ => ?_)
  · rcases Bool.eq_false_or_eq_true (decide (n_21 ≥ 1)) with hb' | hb'
    · have hg_30 := hb'; clear hb'
      refine WL.pin (i := 7) rfl hg_30 ?_
      refine WL.quiet (d := 8) rfl rfl rfl (q_move rfl) ?_
      refine WL.quiet (d := 9) rfl rfl rfl (q_leq rfl rfl) ?_
      refine WL.quiet (d := 10) rfl rfl rfl (q_pickT rfl rfl) ?_
      exact WL.cutEnd () trivial (.cons rfl (.cons rfl (.cons rfl (.cons (some_bool (and_r hg_30)) .nil)))) .nil
    · have hg_31 := hb'; clear hb'
      refine WL.pin (i := 7) rfl hg_31 ?_
      refine WL.skip rfl rfl rfl ?_
      refine WL.skip rfl rfl rfl ?_
      refine WL.quiet (d := 10) rfl rfl rfl (q_pickF rfl rfl) ?_
      exact WL.cutEnd () trivial (.cons rfl (.cons rfl (.cons rfl (.cons (some_bool (and_l hg_31)) .nil)))) .nil
  · skip
    refine WL.quiet (d := 11) rfl rfl rfl (q_move rfl) ?_
    refine WL.cut0 True [(0, (.int .i64 n_21)), (1, (.int .i64 f_22)), (4, (.bool false)), (14, (.bool (((decide (n_21 ≥ 1)) && (decide (n_21 ≤ 16))) && (decide (f_22 ≥ 0)))))] [] 3 ?_ (fun _ => ?_)
    · rcases Bool.eq_false_or_eq_true ((decide (n_21 ≥ 1)) && (decide (n_21 ≤ 16))) with hb' | hb'
      · have hg_32 := hb'; clear hb'
        refine WL.pin (i := 11) rfl hg_32 ?_
        refine WL.quiet (d := 12) rfl rfl rfl (q_move rfl) ?_
        refine WL.quiet (d := 13) rfl rfl rfl (q_geq rfl rfl) ?_
        refine WL.quiet (d := 14) rfl rfl rfl (q_pickT rfl rfl) ?_
        exact WL.cutEnd () trivial (.cons rfl (.cons rfl (.cons rfl (.cons (some_bool (and_r hg_32)) .nil)))) .nil
      · have hg_33 := hb'; clear hb'
        refine WL.pin (i := 11) rfl hg_33 ?_
        refine WL.skip rfl rfl rfl ?_
        refine WL.skip rfl rfl rfl ?_
        refine WL.quiet (d := 14) rfl rfl rfl (q_pickF rfl rfl) ?_
        exact WL.cutEnd () trivial (.cons rfl (.cons rfl (.cons rfl (.cons (some_bool (and_l hg_33)) .nil)))) .nil
    · skip
      refine WL.quiet (d := 15) rfl rfl rfl (q_move rfl) ?_
      refine WL.cut0 True [(4, (.bool false)), (21, (.bool ((((decide (n_21 ≥ 1)) && (decide (n_21 ≤ 16))) && (decide (f_22 ≥ 0))) && (decide (f_22 ≤ (i64 (Int.tdiv (i64 (n_21 - 1)) 2)))))))] [] 6 ?_ (fun _ => ?_)
      · rcases Bool.eq_false_or_eq_true (((decide (n_21 ≥ 1)) && (decide (n_21 ≤ 16))) && (decide (f_22 ≥ 0))) with hb' | hb'
        · have hg_34 := hb'; clear hb'
          refine WL.pin (i := 15) rfl hg_34 ?_
          refine WL.quiet (d := 16) rfl rfl rfl (q_move rfl) ?_
          refine WL.quiet (d := 17) rfl rfl rfl (q_move rfl) ?_
          refine WL.quiet (d := 18) rfl rfl rfl (q_sub rfl rfl rfl) ?_
          refine WL.quiet (d := 19) rfl rfl rfl (q_quo rfl rfl (by decide) rfl) ?_
          refine WL.quiet (d := 20) rfl rfl rfl (q_leq rfl rfl) ?_
          refine WL.quiet (d := 21) rfl rfl rfl (q_pickT rfl rfl) ?_
          exact WL.cutEnd () trivial (.cons rfl (.cons (some_bool (and_r hg_34)) .nil)) .nil
        · have hg_35 := hb'; clear hb'
          refine WL.pin (i := 15) rfl hg_35 ?_
          refine WL.skip rfl rfl rfl ?_
          refine WL.skip rfl rfl rfl ?_
          refine WL.skip rfl rfl rfl ?_
          refine WL.skip rfl rfl rfl ?_
          refine WL.skip rfl rfl rfl ?_
          refine WL.quiet (d := 21) rfl rfl rfl (q_pickF rfl rfl) ?_
          exact WL.cutEnd () trivial (.cons rfl (.cons (some_bool (and_l hg_35)) .nil)) .nil
      · skip
        refine WL.quiet (d := 4) rfl rfl rfl (q_assign rfl) ?_
        refine WL.nil ?_
        refine WX.then ?_
        refine WC.ret ?_
        obtain rfl := Option.some.inj h
        refine WX.bpRet Try.results20 (.tmp rfl .nil) (fun w hw => ?_)
        exact ⟨ret1 rfl, hw.sub .nil⟩
/-- clock.in -/
def m_clock_in (t_39 : Int) : Option Bool :=
  some ((decide (t_39 ≥ (-1073741824))) && (decide (t_39 ≤ 1073741824)))

set_option maxRecDepth 20000 in
theorem w_clock_in (Z : Zp)   (t_39 : Int) (r : Bool) (w₀ : World) (hz : PZ [] w₀ Z)
    (h : m_clock_in t_39 = some r) :
    Calls Try.prog 23 #[(.int .i64 t_39)] w₀ fun e w' => e = .returned (.bool r) ∧ Hp [] w₀ w' [] := by
  unfold m_clock_in at h
  refine Calls.ofWC (vs := [(.int .i64 t_39)]) (pre := []) (env := [(0, (.int .i64 t_39))]) Try.func23 rfl Try.ntmps23 rfl (Hp.nil w₀ _) rfl ?_
  refine WC.seq ?_
  refine WC.region ?_
  refine WL.quiet (d := 2) rfl rfl rfl (q_assign rfl) ?_
  refine WL.nil ?_
  refine WX.then ?_
  refine WC.seq ?_
  refine WC.region ?_
  refine WL.quiet (d := 3) rfl rfl rfl (q_move rfl) ?_
  refine WL.quiet (d := 4) rfl rfl rfl (q_geq rfl rfl) ?_
  refine WL.quiet (d := 5) rfl rfl rfl (q_move rfl) ?_
  refine WL.cut0 True [(2, (.bool false)), (8, (.bool ((decide (t_39 ≥ (-1073741824))) && (decide (t_39 ≤ 1073741824)))))] [] 3 ?_ (fun _ => ?_)
  · rcases Bool.eq_false_or_eq_true (decide (t_39 ≥ (-1073741824))) with hb' | hb'
    · have hg_43 := hb'; clear hb'
      refine WL.pin (i := 5) rfl hg_43 ?_
      refine WL.quiet (d := 6) rfl rfl rfl (q_move rfl) ?_
      refine WL.quiet (d := 7) rfl rfl rfl (q_leq rfl rfl) ?_
      refine WL.quiet (d := 8) rfl rfl rfl (q_pickT rfl rfl) ?_
      exact WL.cutEnd () trivial (.cons rfl (.cons (some_bool (and_r hg_43)) .nil)) .nil
    · have hg_44 := hb'; clear hb'
      refine WL.pin (i := 5) rfl hg_44 ?_
      refine WL.skip rfl rfl rfl ?_
      refine WL.skip rfl rfl rfl ?_
      refine WL.quiet (d := 8) rfl rfl rfl (q_pickF rfl rfl) ?_
      exact WL.cutEnd () trivial (.cons rfl (.cons (some_bool (and_l hg_44)) .nil)) .nil
  · skip
    refine WL.quiet (d := 2) rfl rfl rfl (q_assign rfl) ?_
    refine WL.nil ?_
    refine WX.then ?_
    refine WC.ret ?_
    obtain rfl := Option.some.inj h
    refine WX.bpRet Try.results23 (.tmp rfl .nil) (fun w hw => ?_)
    exact ⟨ret1 rfl, hw.sub .nil⟩
/-- clock.Midpoint$1 -/
def m_clock_Midpoint_1 (t_38 : Int) : Option Bool :=
  (m_clock_in t_38).bind fun x_48 => some (!x_48)

set_option maxRecDepth 20000 in
theorem w_clock_Midpoint_1 (Z : Zp)   (t_38 : Int) (r : Bool) (w₀ : World) (hz : PZ [] w₀ Z)
    (h : m_clock_Midpoint_1 t_38 = some r) :
    Calls Try.prog 22 #[(.int .i64 t_38)] w₀ fun e w' => e = .returned (.bool r) ∧ Hp [] w₀ w' [] := by
  unfold m_clock_Midpoint_1 at h
  refine Calls.ofWC (vs := [(.int .i64 t_38)]) (pre := []) (env := [(0, (.int .i64 t_38))]) Try.func22 rfl Try.ntmps22 rfl (Hp.nil w₀ _) rfl ?_
  refine WC.seq ?_
  refine WC.region ?_
  refine WL.quiet (d := 2) rfl rfl rfl (q_assign rfl) ?_
  refine WL.nil ?_
  refine WX.then ?_
  refine WC.seq ?_
  obtain ⟨x_48, hx_49, h⟩ := bind_elim h
  refine WC.region ?_
  refine WL.quiet (d := 3) rfl rfl rfl (q_move rfl) ?_
  refine WL.callD (dd := 4) rfl rfl rfl (run_call (l := [.tmp 3]) Try.call23 (.cons rfl .nil)) (.nil : Sel [] [] []) (fun w hw => by have pz := (hz.call hw (.nil : Sel [] [] [])); exact w_clock_in (Z := _)  (t_39 := t_38) (r := x_48) w pz  hx_49) ?_
  refine WL.quiet (d := 5) rfl rfl rfl (q_not rfl) ?_
  refine WL.quiet (d := 2) rfl rfl rfl (q_assign rfl) ?_
  refine WL.nil ?_
  refine WX.then ?_
  refine WC.ret ?_
  obtain rfl := Option.some.inj h
  refine WX.bpRet Try.results22 (.tmp rfl .nil) (fun w hw => ?_)
  exact ⟨ret1 rfl, hw.sub .nil⟩
def m_slices_IndexFunc_int_int_L2 (s_59 : List Int) (f_65 : Int → Option Bool) (k_291 : Option Int) : Nat → Int → Option Int
  | 0, _ => none
  | n_322 + 1, v_320 => if decide (v_320 < ((s_59.length : Nat) : Int)) then chk ((0 : Int) ≤ v_320 ∧ v_320 < ((s_59.length : Nat) : Int)) ((f_65 (nth s_59 v_320)).bind fun x_342 => if x_342 then some v_320 else m_slices_IndexFunc_int_int_L2 s_59 f_65 k_291 n_322 (i64 (v_320 + 1))) else k_291
theorem m_slices_IndexFunc_int_int_L2_fuel {n : Nat} {s_59 : List Int} {f_65 : Int → Option Bool} {k_291 : Option Int} {v_320 : Int} {r : Int} (h : m_slices_IndexFunc_int_int_L2 s_59 f_65 k_291 n v_320 = some r) : ∃ m, n = m + 1 := by
  cases n with
  | zero => cases h
  | succ m => exact ⟨m, rfl⟩

/-- slices.IndexFunc[[]int,int] -/
def m_slices_IndexFunc_int_int (s_59 : List Int) (f_65 : Int → Option Bool) : Option Int :=
  jp0 (some (-1)) fun k_291 => m_slices_IndexFunc_int_int_L2 s_59 f_65 k_291 FUEL 0

set_option maxRecDepth 20000 in
theorem w_slices_IndexFunc_int_int (Z : Zp)  (ao_60 : Option Addr) (cap_61 : Nat) (fid_63 : FuncId) (fcaps_64 : List Value) (s_59 : List Int) (f_65 : Int → Option Bool) (r : Int) (w₀ : World) (hz : PZ [] w₀ Z)
    (hs_62 : ZS Z 1 (fun r x => r = e3 x) ao_60 cap_61 s_59)
    (hcf_66 : ∀ args w, (callFunc fid_63 args).run Try.prog w = .ok (.enter fid_63 args) w)
    (hfn_67 : ∀ w : World, PZ [] w Z → ∀ (x0 : Int) (r : Bool), f_65 x0 = some r → Calls Try.prog fid_63 (([(.int .i64 x0)] : List Value) ++ fcaps_64).toArray w fun e w' => e = .returned (.bool r) ∧ Hp [] w w' [])
    (h : m_slices_IndexFunc_int_int s_59 f_65 = some r) :
    Calls Try.prog 39 #[(.slice ao_60 s_59.length cap_61), (.func (.func fid_63) #[] (fcaps_64).toArray)] w₀ fun e w' => e = .returned (.int .i64 r) ∧ Hp [] w₀ w' [] := by
  unfold m_slices_IndexFunc_int_int at h
  refine Calls.ofWC (vs := [(.slice ao_60 s_59.length cap_61), (.func (.func fid_63) #[] (fcaps_64).toArray)]) (pre := []) (env := [(0, (.slice ao_60 s_59.length cap_61)), (1, (.func (.func fid_63) #[] (fcaps_64).toArray))]) Try.func39 rfl Try.ntmps39 rfl (Hp.nil w₀ _) rfl ?_
  refine WC.seq ?_
  refine WC.region ?_
  refine WL.quiet (d := 4) rfl rfl rfl (q_assign rfl) ?_
  refine WL.nil ?_
  refine WX.then ?_
  obtain ⟨k_291, hk_292, h⟩ := jp0_elim h
  refine WC.seqMid0 ((k_291 = some r)) ([]) ([]) ?_ ?_
  · skip
    refine WC.seq ?_
    refine WC.region ?_
    refine WL.quiet (d := 6) rfl rfl rfl (q_move rfl) ?_
    refine WL.quiet (d := 7) rfl rfl rfl (q_len Try.underlying22 rfl) ?_
    refine WL.quiet (d := 8) rfl rfl rfl (q_move rfl) ?_
    refine WL.nil ?_
    refine WX.then ?_
    refine WC.block ?_
    refine WC.loop2 (fun (n_321 : Nat) (v_320 : Int) => (m_slices_IndexFunc_int_int_L2 s_59 f_65 k_291 n_321 v_320 = some r)) (fun (n_321 : Nat) (v_320 : Int) => [(0, (.slice ao_60 s_59.length cap_61)), (1, (.func (.func fid_63) #[] (fcaps_64).toArray)), (7, (.int .i64 ((s_59.length : Nat) : Int))), (8, (.int .i64 v_320))]) (fun (n_321 : Nat) (v_320 : Int) => []) (fun (n_321 : Nat) (v_320 : Int) => n_321) ⟨FUEL, 0⟩ h (.cons rfl (.cons rfl (.cons rfl (.cons rfl .nil)))) .nil ?_
    rintro n_321 v_320 h
    obtain ⟨n_322, rfl⟩ := m_slices_IndexFunc_int_int_L2_fuel h
    rw [m_slices_IndexFunc_int_int_L2] at h
    refine WC.seq ?_
    refine WC.region ?_
    refine WL.quiet (d := 9) rfl rfl rfl (q_lss rfl rfl) ?_
    refine WL.nil ?_
    refine WX.then ?_
    refine WC.seq ?_
    refine WC.cond rfl (fun hb_324 => ?_) (fun hb_324 => ?_)
    · replace h := ite_t h hb_324
      refine WC.skip ?_
      refine WX.then ?_
      refine WC.seq ?_
      refine WC.block ?_
      refine WC.seq ?_
      refine WC.region ?_
      refine WL.quiet (d := 10) rfl rfl rfl (q_move rfl) ?_
      refine WL.quiet (d := 5) rfl rfl rfl (q_assign rfl) ?_
      refine WL.nil ?_
      refine WX.then ?_
      refine WC.seq ?_
      obtain ⟨c_337, h⟩ := chk_elim h
      obtain ⟨x_342, hx_343, h⟩ := bind_elim h
      refine WC.region ?_
      refine WL.quiet (d := 11) rfl rfl rfl (q_move rfl) ?_
      refine WL.quiet (d := 12) rfl rfl rfl (q_move rfl) ?_
      refine WL.quiet (d := 13) rfl rfl rfl (q_move rfl) ?_
      refine WL.znth (dd := 14) rfl rfl (Z := Z) (Pr := (fun r x => r = e3 x)) elT_22 rfl rfl hs_62 c_337 ?_
      rintro A_344 r_345 hA_346 hl_347 rfl
      refine WL.quiet (d := 15) rfl rfl rfl (q_load1 oneT_3 rfl (rd_z hz.pv hA_346 rfl)) ?_
      refine WL.callD (dd := 16) rfl rfl rfl (run_callv (l := [.tmp 15]) (f := fid_63) (caps := fcaps_64) hcf_66 rfl (.cons rfl .nil)) .nil (fun w hw => hfn_67 w (hz.now hw) (nth s_59 v_320) x_342  hx_343) ?_
      refine WL.nil ?_
      refine WX.then ?_
      refine WC.cond rfl (fun hb_348 => ?_) (fun hb_348 => ?_)
      · replace h := ite_t h hb_348
        refine WC.seq ?_
        refine WC.region ?_
        refine WL.quiet (d := 17) rfl rfl rfl (q_move rfl) ?_
        refine WL.quiet (d := 4) rfl rfl rfl (q_assign rfl) ?_
        refine WL.nil ?_
        refine WX.then ?_
        refine WC.ret ?_
        refine WX.blockRet ?_
        refine WX.thenRet ?_
        refine WX.thenRet ?_
        refine WX.blockRet ?_
        refine WX.thenRet ?_
        obtain rfl := Option.some.inj h
        refine WX.bpRet Try.results39 (.tmp rfl .nil) (fun w hw => ?_)
        exact ⟨ret1 rfl, hw.sub .nil⟩
      · replace h := ite_f h hb_348
        refine WC.skip ?_
        refine WX.blockNormal ?_
        refine WX.then ?_
        refine WC.region ?_
        refine WL.quiet (d := 18) rfl rfl rfl (q_add rfl rfl rfl) ?_
        refine WL.quiet (d := 8) rfl rfl rfl (q_move rfl) ?_
        refine WL.nil ?_
        exact WX.round (G := Nat × Int) ⟨n_322, (i64 (v_320 + 1))⟩ h (Nat.lt_succ_self _) (.cons rfl (.cons rfl (.cons rfl (.cons rfl .nil)))) .nil
    · replace h := ite_f h hb_324
      refine WC.exit ?_
      refine WX.thenExit ?_
      refine WX.thenExit ?_
      refine WX.blockHit ?_
      exact WX.mid (G := Unit) () h .nil .nil
  · rintro  h
    replace h := hk_292.symm.trans h
    refine WC.seq ?_
    refine WC.region ?_
    refine WL.quiet (d := 4) rfl rfl rfl (q_assign rfl) ?_
    refine WL.nil ?_
    refine WX.then ?_
    refine WC.ret ?_
    obtain rfl := Option.some.inj h
    refine WX.bpRet Try.results39 (.tmp rfl .nil) (fun w hw => ?_)
    exact ⟨ret1 rfl, hw.sub .nil⟩
/-- slices.ContainsFunc[[]int,int] -/
def m_slices_ContainsFunc_int_int (s_50 : List Int) (f_56 : Int → Option Bool) : Option Bool :=
  (m_slices_IndexFunc_int_int s_50 f_56).bind fun x_352 => some (decide (x_352 ≥ 0))

set_option maxRecDepth 20000 in
theorem w_slices_ContainsFunc_int_int (Z : Zp)  (ao_51 : Option Addr) (cap_52 : Nat) (fid_54 : FuncId) (fcaps_55 : List Value) (s_50 : List Int) (f_56 : Int → Option Bool) (r : Bool) (w₀ : World) (hz : PZ [] w₀ Z)
    (hs_53 : ZS Z 1 (fun r x => r = e3 x) ao_51 cap_52 s_50)
    (hcf_57 : ∀ args w, (callFunc fid_54 args).run Try.prog w = .ok (.enter fid_54 args) w)
    (hfn_58 : ∀ w : World, PZ [] w Z → ∀ (x0 : Int) (r : Bool), f_56 x0 = some r → Calls Try.prog fid_54 (([(.int .i64 x0)] : List Value) ++ fcaps_55).toArray w fun e w' => e = .returned (.bool r) ∧ Hp [] w w' [])
    (h : m_slices_ContainsFunc_int_int s_50 f_56 = some r) :
    Calls Try.prog 21 #[(.slice ao_51 s_50.length cap_52), (.func (.func fid_54) #[] (fcaps_55).toArray)] w₀ fun e w' => e = .returned (.bool r) ∧ Hp [] w₀ w' [] := by
  unfold m_slices_ContainsFunc_int_int at h
  refine Calls.ofWC (vs := [(.slice ao_51 s_50.length cap_52), (.func (.func fid_54) #[] (fcaps_55).toArray)]) (pre := []) (env := [(0, (.slice ao_51 s_50.length cap_52)), (1, (.func (.func fid_54) #[] (fcaps_55).toArray))]) Try.func21 rfl Try.ntmps21 rfl (Hp.nil w₀ _) rfl ?_
  refine WC.seq ?_
  refine WC.region ?_
  refine WL.quiet (d := 4) rfl rfl rfl (q_assign rfl) ?_
  refine WL.nil ?_
  refine WX.then ?_
  refine WC.seq ?_
  obtain ⟨x_352, hx_353, h⟩ := bind_elim h
  refine WC.region ?_
  refine WL.quiet (d := 5) rfl rfl rfl (q_move rfl) ?_
  refine WL.quiet (d := 6) rfl rfl rfl (q_move rfl) ?_
  refine WL.callD (dd := 7) rfl rfl rfl (run_call (l := [.tmp 5, .tmp 6]) Try.call39 (.cons rfl (.cons rfl .nil))) (.nil : Sel [] [] []) (fun w hw => by have pz := (hz.call hw (.nil : Sel [] [] [])); exact w_slices_IndexFunc_int_int (Z := _) (ao_60 := ao_51) (cap_61 := cap_52) (fid_63 := fid_54) (fcaps_64 := fcaps_55) (s_59 := s_50) (f_65 := f_56) (r := x_352) w pz hs_53 hcf_57 hfn_58 hx_353) ?_
  refine WL.quiet (d := 8) rfl rfl rfl (q_geq rfl rfl) ?_
  refine WL.quiet (d := 4) rfl rfl rfl (q_assign rfl) ?_
  refine WL.nil ?_
  refine WX.then ?_
  refine WC.ret ?_
  obtain rfl := Option.some.inj h
  refine WX.bpRet Try.results21 (.tmp rfl .nil) (fun w hw => ?_)
  exact ⟨ret1 rfl, hw.sub .nil⟩
/-- clock.Midpoint$2 -/
def m_clock_Midpoint_2 (t_374 : Int) : Option Int :=
  some t_374

set_option maxRecDepth 20000 in
theorem w_clock_Midpoint_2 (Z : Zp)   (t_374 : Int) (r : Int) (w₀ : World) (hz : PZ [] w₀ Z)
    (h : m_clock_Midpoint_2 t_374 = some r) :
    Calls Try.prog 25 #[(.int .i64 t_374)] w₀ fun e w' => e = .returned (.int .i64 r) ∧ Hp [] w₀ w' [] := by
  unfold m_clock_Midpoint_2 at h
  refine Calls.ofWC (vs := [(.int .i64 t_374)]) (pre := []) (env := [(0, (.int .i64 t_374))]) Try.func25 rfl Try.ntmps25 rfl (Hp.nil w₀ _) rfl ?_
  refine WC.seq ?_
  refine WC.region ?_
  refine WL.quiet (d := 2) rfl rfl rfl (q_assign rfl) ?_
  refine WL.nil ?_
  refine WX.then ?_
  refine WC.seq ?_
  refine WC.region ?_
  refine WL.quiet (d := 3) rfl rfl rfl (q_move rfl) ?_
  refine WL.quiet (d := 2) rfl rfl rfl (q_assign rfl) ?_
  refine WL.nil ?_
  refine WX.then ?_
  refine WC.ret ?_
  obtain rfl := Option.some.inj h
  refine WX.bpRet Try.results25 (.tmp rfl .nil) (fun w hw => ?_)
  exact ⟨ret1 rfl, hw.sub .nil⟩
def m_clock_each_int_L2 (l_376 : List Int) (f_382 : Int → Option Int) (k_751 : (List Int) → Option (List Int)) : Nat → (List Int) → Int → Option (List Int)
  | 0, _, _ => none
  | n_803 + 1, out_797, v_800 => if decide (v_800 < ((l_376.length : Nat) : Int)) then chk ((0 : Int) ≤ v_800 ∧ v_800 < ((l_376.length : Nat) : Int)) ((f_382 (nth l_376 v_800)).bind fun x_833 => chk ((((out_797 ++ ([x_833] : List Int)).length : Nat) : Int) * 8 ≤ 140737488355328 ∧ (((out_797 ++ ([x_833] : List Int)).length : Nat) : Int) ≤ 4611686018427387904) (m_clock_each_int_L2 l_376 f_382 k_751 n_803 (out_797 ++ ([x_833] : List Int)) (i64 (v_800 + 1)))) else k_751 out_797
theorem m_clock_each_int_L2_fuel {n : Nat} {l_376 : List Int} {f_382 : Int → Option Int} {k_751 : (List Int) → Option (List Int)} {out_797 : List Int} {v_800 : Int} {r : List Int} (h : m_clock_each_int_L2 l_376 f_382 k_751 n out_797 v_800 = some r) : ∃ m, n = m + 1 := by
  cases n with
  | zero => cases h
  | succ m => exact ⟨m, rfl⟩

/-- clock.each[int] -/
def m_clock_each_int (l_376 : List Int) (f_382 : Int → Option Int) : Option (List Int) :=
  jp1 (fun (out_748 : List Int) => (m_slices_Sort out_748).bind fun x_842 => some x_842) fun k_751 => m_clock_each_int_L2 l_376 f_382 k_751 FUEL ([] : List Int) 0

set_option maxRecDepth 20000 in
theorem w_clock_each_int (Z : Zp)  (ao_377 : Option Addr) (cap_378 : Nat) (fid_380 : FuncId) (fcaps_381 : List Value) (l_376 : List Int) (f_382 : Int → Option Int) (r : List Int) (w₀ : World) (hz : PZ [] w₀ Z)
    (hs_379 : ZS Z 1 (fun r x => r = e3 x) ao_377 cap_378 l_376)
    (hcf_383 : ∀ args w, (callFunc fid_380 args).run Try.prog w = .ok (.enter fid_380 args) w)
    (hfn_384 : ∀ w : World, PZ [] w Z → ∀ (x0 : Int) (r : Int), f_382 x0 = some r → Calls Try.prog fid_380 (([(.int .i64 x0)] : List Value) ++ fcaps_381).toArray w fun e w' => e = .returned (.int .i64 r) ∧ Hp [] w w' [])
    (h : m_clock_each_int l_376 f_382 = some r) :
    Calls Try.prog 24 #[(.slice ao_377 l_376.length cap_378), (.func (.func fid_380) #[] (fcaps_381).toArray)] w₀ fun e w' => ∃ ao_615 : Option Addr, ∃ cap_616 : Nat, e = .returned (.slice ao_615 r.length cap_616) ∧ True ∧ Hp [] w₀ w' [row (.slice ao_615 r.length cap_616) 3 1 (r.flatMap e3)] := by
  unfold m_clock_each_int at h
  refine Calls.ofWC (vs := [(.slice ao_377 l_376.length cap_378), (.func (.func fid_380) #[] (fcaps_381).toArray)]) (pre := []) (env := [(0, (.slice ao_377 l_376.length cap_378)), (1, (.func (.func fid_380) #[] (fcaps_381).toArray))]) Try.func24 rfl Try.ntmps24 rfl (Hp.nil w₀ _) rfl ?_
  refine WC.seq ?_
  refine WC.region ?_
  refine WL.quiet (d := 4) rfl rfl rfl (q_assign rfl) ?_
  refine WL.nil ?_
  refine WX.then ?_
  refine WC.seq ?_
  refine WC.region ?_
  refine WL.quiet (d := 5) rfl rfl rfl (q_assign rfl) ?_
  refine WL.nil ?_
  refine WX.then ?_
  obtain ⟨k_751, hk_752, h⟩ := jp1_elim h
  refine WC.seqMid3 (fun (out_748 : List Int) (ao_749 : Option Addr) (cap_750 : Nat) => (k_751 out_748 = some r)) (fun (out_748 : List Int) (ao_749 : Option Addr) (cap_750 : Nat) => [(5, (.slice ao_749 out_748.length cap_750))]) (fun (out_748 : List Int) (ao_749 : Option Addr) (cap_750 : Nat) => [row (.slice ao_749 out_748.length cap_750) 3 1 (out_748.flatMap e3)]) ?_ ?_
  · skip
    refine WC.seq ?_
    refine WC.region ?_
    refine WL.quiet (d := 8) rfl rfl rfl (q_move rfl) ?_
    refine WL.quiet (d := 9) rfl rfl rfl (q_len Try.underlying22 rfl) ?_
    refine WL.quiet (d := 10) rfl rfl rfl (q_move rfl) ?_
    refine WL.nil ?_
    refine WX.then ?_
    refine WC.block ?_
    refine WC.nilRow 3 1 ?_
    refine WC.loop5 (fun (n_801 : Nat) (out_797 : List Int) (v_800 : Int) (ao_798 : Option Addr) (cap_799 : Nat) => (m_clock_each_int_L2 l_376 f_382 k_751 n_801 out_797 v_800 = some r)) (fun (n_801 : Nat) (out_797 : List Int) (v_800 : Int) (ao_798 : Option Addr) (cap_799 : Nat) => [(1, (.func (.func fid_380) #[] (fcaps_381).toArray)), (5, (.slice ao_798 out_797.length cap_799)), (8, (.slice ao_377 l_376.length cap_378)), (9, (.int .i64 ((l_376.length : Nat) : Int))), (10, (.int .i64 v_800))]) (fun (n_801 : Nat) (out_797 : List Int) (v_800 : Int) (ao_798 : Option Addr) (cap_799 : Nat) => [row (.slice ao_798 out_797.length cap_799) 3 1 (out_797.flatMap e3)]) (fun (n_801 : Nat) (out_797 : List Int) (v_800 : Int) (ao_798 : Option Addr) (cap_799 : Nat) => n_801) ⟨FUEL, ([] : List Int), 0, none, 0⟩ h (.cons rfl (.cons rfl (.cons rfl (.cons rfl (.cons rfl .nil))))) (.cons .here .nil) ?_
    rintro n_801 out_797 v_800 ao_798 cap_799 h
    obtain ⟨n_803, rfl⟩ := m_clock_each_int_L2_fuel h
    rw [m_clock_each_int_L2] at h
    refine WC.seq ?_
    refine WC.region ?_
    refine WL.quiet (d := 11) rfl rfl rfl (q_lss rfl rfl) ?_
    refine WL.nil ?_
    refine WX.then ?_
    refine WC.seq ?_
    refine WC.cond rfl (fun hb_805 => ?_) (fun hb_805 => ?_)
    · replace h := ite_t h hb_805
      refine WC.skip ?_
      refine WX.then ?_
      refine WC.seq ?_
      refine WC.block ?_
      refine WC.seq ?_
      obtain ⟨c_824, h⟩ := chk_elim h
      refine WC.region ?_
      refine WL.znth (dd := 12) rfl rfl (Z := Z) (Pr := (fun r x => r = e3 x)) elT_22 rfl rfl hs_379 c_824 ?_
      rintro A_829 r_830 hA_831 hl_832 rfl
      refine WL.quiet (d := 13) rfl rfl rfl (q_load1 oneT_3 rfl (rd_z hz.pv hA_831 rfl)) ?_
      refine WL.quiet (d := 7) rfl rfl rfl (q_assign rfl) ?_
      refine WL.nil ?_
      refine WX.then ?_
      obtain ⟨x_833, hx_834, h⟩ := bind_elim h
      obtain ⟨c_836, h⟩ := chk_elim h
      refine WC.region ?_
      refine WL.quiet (d := 14) rfl rfl rfl (q_move rfl) ?_
      refine WL.quiet (d := 15) rfl rfl rfl (q_move rfl) ?_
      refine WL.quiet (d := 16) rfl rfl rfl (q_move rfl) ?_
      refine WL.callD (dd := 17) rfl rfl rfl (run_callv (l := [.tmp 16]) (f := fid_380) (caps := fcaps_381) hcf_383 rfl (.cons rfl .nil)) .nil (fun w hw => hfn_384 w (hz.now hw) (nth l_376 v_800) x_833  hx_834) ?_
      refine WL.new (dd := 18) rfl rfl rfl (e_buildSlice (cs := ([x_833] : List Int).flatMap e3) elT_22 (Eos.parts (l := [.tmp 17]) (.cons rfl .nil) [0]) (fun _ => by kernel_rfl) rfl (by unfold maxLen; omega)) ?_
      intro b_839 _
      refine WL.eff (d := 19) rfl rfl rfl (e_appendF (enc := e3) (l1 := out_797) (l2 := ([x_833] : List Int)) elT_22 rfl rfl (.there .here) (fun _ => rfl) rfl rfl (news_row .here) (oc_flat e3_oc _) c_836) ?_
      rintro ⟨ao_840, cap_841⟩ _
      refine WL.quiet (d := 5) rfl rfl rfl (q_assign rfl) ?_
      refine WL.nil ?_
      refine WX.blockNormal ?_
      refine WX.then ?_
      refine WC.region ?_
      refine WL.quiet (d := 20) rfl rfl rfl (q_add rfl rfl rfl) ?_
      refine WL.quiet (d := 10) rfl rfl rfl (q_move rfl) ?_
      refine WL.nil ?_
      exact WX.round (G := Nat × List Int × Int × Option Addr × Nat) ⟨n_803, (out_797 ++ ([x_833] : List Int)), (i64 (v_800 + 1)), ao_840, cap_841⟩ h (Nat.lt_succ_self _) (.cons rfl (.cons rfl (.cons rfl (.cons rfl (.cons rfl .nil))))) (.cons .here .nil)
    · replace h := ite_f h hb_805
      refine WC.exit ?_
      refine WX.thenExit ?_
      refine WX.thenExit ?_
      refine WX.blockHit ?_
      exact WX.mid (G := List Int × Option Addr × Nat) ⟨out_797, ao_798, cap_799⟩ h (.cons rfl .nil) (.cons .here .nil)
  · rintro out_748 ao_749 cap_750 h
    replace h := (hk_752 out_748).symm.trans h
    refine WC.seq ?_
    obtain ⟨x_842, hx_843, h⟩ := bind_elim h
    refine WC.region ?_
    refine WL.quiet (d := 21) rfl rfl rfl (q_move rfl) ?_
    refine WL.enter0 (dd := 22) rfl rfl rfl (run_call (l := [.tmp 21]) Try.call40 (.cons rfl .nil)) ((.cons .here .nil) : Sel [row (.slice ao_749 out_748.length cap_750) 3 1 (out_748.flatMap e3)] [row (.slice ao_749 out_748.length cap_750) 3 1 (out_748.flatMap e3)] []) (fun w hw => by have pz := (hz.call hw ((.cons .here .nil) : Sel [row (.slice ao_749 out_748.length cap_750) 3 1 (out_748.flatMap e3)] [row (.slice ao_749 out_748.length cap_750) 3 1 (out_748.flatMap e3)] [])); exact w_slices_Sort (Z := _) (ao := ao_749) (cap := cap_750) (l := out_748) (r := x_842) w pz  hx_843 (hw.owns ((.cons .here .nil) : Sel [row (.slice ao_749 out_748.length cap_750) 3 1 (out_748.flatMap e3)] [row (.slice ao_749 out_748.length cap_750) 3 1 (out_748.flatMap e3)] []))) ?_
    rintro  hf_845
    refine WL.repin (i := 5) rfl (u := (.slice ao_749 x_842.length cap_750)) (slen hf_845.symm) ?_
    refine WL.nil ?_
    refine WX.then ?_
    refine WC.seq ?_
    refine WC.region ?_
    refine WL.quiet (d := 23) rfl rfl rfl (q_move rfl) ?_
    refine WL.quiet (d := 4) rfl rfl rfl (q_assign rfl) ?_
    refine WL.nil ?_
    refine WX.then ?_
    refine WC.ret ?_
    obtain rfl := Option.some.inj h
    refine WX.bpRet Try.results24 (.tmp rfl .nil) (fun w hw => ?_)
    exact ⟨ao_749, cap_750, ret1 rfl, trivial, hw.sub (.cons .here .nil)⟩
/-- clock.Midpoint -/
def m_clock_Midpoint (l_16 : List Int) (f_20 : Int) : Option (Int × Int) :=
  (m_clock_fits ((l_16.length : Nat) : Int) f_20).bind fun x_871 => (if !x_871 then some true else (m_slices_ContainsFunc_int_int l_16 (fun (y0 : Int) => m_clock_Midpoint_1 y0)).bind fun x_873 => some x_873).bind fun b_875 => if b_875 then some (0, 2) else (m_clock_each_int l_16 (fun (y0 : Int) => m_clock_Midpoint_2 y0)).bind fun x_882 => chk ((0 : Int) ≤ f_20 ∧ f_20 < ((x_882.length : Nat) : Int)) (chk ((0 : Int) ≤ (i64 ((i64 (((x_882.length : Nat) : Int) - 1)) - f_20)) ∧ (i64 ((i64 (((x_882.length : Nat) : Int) - 1)) - f_20)) < ((x_882.length : Nat) : Int)) (some (((i64 ((nth x_882 f_20) + (nth x_882 (i64 ((i64 (((x_882.length : Nat) : Int) - 1)) - f_20))))) / 2 ^ min (1 : Int).toNat 64), 0)))

set_option maxRecDepth 20000 in
theorem w_clock_Midpoint (Z : Zp)  (ao_17 : Option Addr) (cap_18 : Nat) (l_16 : List Int) (f_20 : Int) (r : Int × Int) (w₀ : World) (hz : PZ [] w₀ Z)
    (hs_19 : ZS Z 1 (fun r x => r = e3 x) ao_17 cap_18 l_16)
    (h : m_clock_Midpoint l_16 f_20 = some r) :
    Calls Try.prog 11 #[(.slice ao_17 l_16.length cap_18), (.int .i64 f_20)] w₀ fun e w' => e = .returned (.tuple #[(.int .i64 r.1), (.int .i64 r.2)]) ∧ Hp [] w₀ w' [] := by
  unfold m_clock_Midpoint at h
  refine Calls.ofWC (vs := [(.slice ao_17 l_16.length cap_18), (.int .i64 f_20)]) (pre := []) (env := [(0, (.slice ao_17 l_16.length cap_18)), (1, (.int .i64 f_20))]) Try.func11 rfl Try.ntmps11 rfl (Hp.nil w₀ _) rfl ?_
  refine WC.seq ?_
  refine WC.region ?_
  refine WL.quiet (d := 4) rfl rfl rfl (q_assign rfl) ?_
  refine WL.quiet (d := 5) rfl rfl rfl (q_assign rfl) ?_
  refine WL.nil ?_
  refine WX.then ?_
  refine WC.seq ?_
  refine WC.seq ?_
  obtain ⟨x_871, hx_872, h⟩ := bind_elim h
  obtain ⟨b_875, hb_876, h⟩ := bind_elim h
  refine WC.region ?_
  refine WL.quiet (d := 7) rfl rfl rfl (q_move rfl) ?_
  refine WL.quiet (d := 8) rfl rfl rfl (q_len Try.underlying22 rfl) ?_
  refine WL.quiet (d := 9) rfl rfl rfl (q_move rfl) ?_
  refine WL.callD (dd := 10) rfl rfl rfl (run_call (l := [.tmp 8, .tmp 9]) Try.call20 (.cons rfl (.cons rfl .nil))) (.nil : Sel [] [] []) (fun w hw => by have pz := (hz.call hw (.nil : Sel [] [] [])); exact w_clock_fits (Z := _)  (n_21 := ((l_16.length : Nat) : Int)) (f_22 := f_20) (r := x_871) w pz  hx_872) ?_
  refine WL.quiet (d := 11) rfl rfl rfl (q_not rfl) ?_
  refine WL.quiet (d := 12) rfl rfl rfl (q_move rfl) ?_
  refine WL.cut0 True [(0, (.slice ao_17 l_16.length cap_18)), (1, (.int .i64 f_20)), (15, (.bool b_875))] [] 3 ?_ (fun _ => ?_)
  · rcases Bool.eq_false_or_eq_true (!x_871) with hb' | hb'
    · have hg_877 := hb'; clear hb'
      have hq_878 := ite_t hb_876 hg_877
      replace hq_878 := Option.some.inj hq_878
      refine WL.pin (i := 12) rfl hg_877 ?_
      refine WL.skip rfl rfl rfl ?_
      refine WL.skip rfl rfl rfl ?_
      refine WL.quiet (d := 15) rfl rfl rfl (q_pickT rfl rfl) ?_
      exact WL.cutEnd () trivial (.cons rfl (.cons rfl (.cons (some_bool hq_878) .nil))) .nil
    · have hg_879 := hb'; clear hb'
      have hq_880 := ite_f hb_876 hg_879
      obtain ⟨x_873, hx_874, hq_880⟩ := bind_elim hq_880
      replace hq_880 := Option.some.inj hq_880
      refine WL.pin (i := 12) rfl hg_879 ?_
      refine WL.quiet (d := 13) rfl rfl rfl (q_move rfl) ?_
      refine WL.callD (dd := 14) rfl rfl rfl (run_call (l := [.tmp 13, .func 22]) Try.call21 (.cons rfl (.cons rfl .nil))) (.nil : Sel [] [] []) (fun w hw => by have pz := (hz.call hw (.nil : Sel [] [] [])); exact w_slices_ContainsFunc_int_int (Z := _) (ao_51 := ao_17) (cap_52 := cap_18) (fid_54 := 22) (fcaps_55 := []) (s_50 := l_16) (f_56 := (fun (y0 : Int) => m_clock_Midpoint_1 y0)) (r := x_873) w pz hs_19 Try.call22 (fun w' hz' y0  r  hr => w_clock_Midpoint_1 (Z := _)  (t_38 := y0) (r := r) w' hz'  hr) hx_874) ?_
      refine WL.quiet (d := 15) rfl rfl rfl (q_pickF rfl rfl) ?_
      exact WL.cutEnd () trivial (.cons rfl (.cons rfl (.cons (some_bool hq_880) .nil))) .nil
  · skip
    refine WL.nil ?_
    refine WX.then ?_
    refine WC.cond rfl (fun hb_881 => ?_) (fun hb_881 => ?_)
    · replace h := ite_t h hb_881
      refine WC.seq ?_
      refine WC.region ?_
      refine WL.quiet (d := 4) rfl rfl rfl (q_assign rfl) ?_
      refine WL.quiet (d := 5) rfl rfl rfl (q_assign rfl) ?_
      refine WL.nil ?_
      refine WX.then ?_
      refine WC.ret ?_
      refine WX.thenRet ?_
      obtain rfl := Option.some.inj h
      refine WX.bpRet Try.results11 (.tmp rfl (.tmp rfl .nil)) (fun w hw => ?_)
      exact ⟨ret2 rfl rfl, hw.sub .nil⟩
    · replace h := ite_f h hb_881
      refine WC.skip ?_
      refine WX.then ?_
      refine WC.seq ?_
      obtain ⟨x_882, hx_883, h⟩ := bind_elim h
      refine WC.region ?_
      refine WL.quiet (d := 16) rfl rfl rfl (q_move rfl) ?_
      refine WL.enter2 (dd := 17) rfl rfl rfl (run_call (l := [.tmp 16, .func 25]) Try.call24 (.cons rfl (.cons rfl .nil))) (.nil : Sel [] [] []) (fun w hw => by have pz := (hz.call hw (.nil : Sel [] [] [])); exact w_clock_each_int (Z := _) (ao_377 := ao_17) (cap_378 := cap_18) (fid_380 := 25) (fcaps_381 := []) (l_376 := l_16) (f_382 := (fun (y0 : Int) => m_clock_Midpoint_2 y0)) (r := x_882) w pz hs_19 Try.call25 (fun w' hz' y0  r  hr => w_clock_Midpoint_2 (Z := _)  (t_374 := y0) (r := r) w' hz'  hr) hx_883) ?_
      rintro ao_887 cap_888 _
      refine WL.quiet (d := 6) rfl rfl rfl (q_assign rfl) ?_
      refine WL.nil ?_
      refine WX.then ?_
      refine WC.seq ?_
      obtain ⟨c_890, h⟩ := chk_elim h
      obtain ⟨c_892, h⟩ := chk_elim h
      refine WC.draw (fun i => [].contains i) [] rfl ?_
      refine WD.pure (i := 0) (d := 18) (by kernel_rfl) rfl (by kernel_rfl) (by kernel_rfl) rfl rfl rfl (fun _ => q_move rfl) ?_
      refine WD.pure (i := 1) (d := 19) (by kernel_rfl) rfl (by kernel_rfl) (by kernel_rfl) rfl rfl rfl (fun _ => q_move rfl) ?_
      refine WD.know (fun w hw => Hp.expose .here hw (by intro hz'; have := c_890; rw [hz'] at this; omega)) ?_
      rintro ⟨b_893, rfl⟩
      refine WD.pure (i := 2) (d := 20) (by kernel_rfl) rfl (by kernel_rfl) (by kernel_rfl) rfl rfl rfl (fun _ => q_indexAddr elT_22 rfl rfl c_890.1 c_890.2 rowAdd) ?_
      refine WD.quiet (i := 3) (d := 21) (by kernel_rfl) rfl (by kernel_rfl) (by kernel_rfl) rfl rfl rfl (q_load1 oneT_3 rfl (rd_row .here ((flat_rd (enc := e3) (l := x_882) (i := f_20) (sz := 1) (fun _ => rfl) c_890.1 c_890.2) 0 _ rfl))) ?_
      refine WD.pure (i := 4) (d := 22) (by kernel_rfl) rfl (by kernel_rfl) (by kernel_rfl) rfl rfl rfl (fun _ => q_move rfl) ?_
      refine WD.pure (i := 5) (d := 23) (by kernel_rfl) rfl (by kernel_rfl) (by kernel_rfl) rfl rfl rfl (fun _ => q_move rfl) ?_
      refine WD.pure (i := 6) (d := 24) (by kernel_rfl) rfl (by kernel_rfl) (by kernel_rfl) rfl rfl rfl (fun _ => q_len Try.underlying22 rfl) ?_
      refine WD.pure (i := 7) (d := 25) (by kernel_rfl) rfl (by kernel_rfl) (by kernel_rfl) rfl rfl rfl (fun _ => q_sub rfl rfl rfl) ?_
      refine WD.pure (i := 8) (d := 26) (by kernel_rfl) rfl (by kernel_rfl) (by kernel_rfl) rfl rfl rfl (fun _ => q_move rfl) ?_
      refine WD.pure (i := 9) (d := 27) (by kernel_rfl) rfl (by kernel_rfl) (by kernel_rfl) rfl rfl rfl (fun _ => q_sub rfl rfl rfl) ?_
      refine WD.pure (i := 10) (d := 28) (by kernel_rfl) rfl (by kernel_rfl) (by kernel_rfl) rfl rfl rfl (fun _ => q_indexAddr elT_22 rfl rfl c_892.1 c_892.2 rowAdd) ?_
      refine WD.quiet (i := 11) (d := 29) (by kernel_rfl) rfl (by kernel_rfl) (by kernel_rfl) rfl rfl rfl (q_load1 oneT_3 rfl (rd_row .here ((flat_rd (enc := e3) (l := x_882) (i := i64 ((i64 (((x_882.length : Nat) : Int) - 1)) - f_20)) (sz := 1) (fun _ => rfl) c_892.1 c_892.2) 0 _ rfl))) ?_
      refine WD.pure (i := 12) (d := 30) (by kernel_rfl) rfl (by kernel_rfl) (by kernel_rfl) rfl rfl rfl (fun _ => q_add rfl rfl rfl) ?_
      refine WD.pure (i := 13) (d := 31) (by kernel_rfl) rfl (by kernel_rfl) (by kernel_rfl) rfl rfl rfl (fun _ => q_shr rfl rfl (by decide) rfl) ?_
      refine WD.pure (i := 14) (d := 4) (by kernel_rfl) rfl (by kernel_rfl) (by kernel_rfl) rfl rfl rfl (fun _ => q_assign rfl) ?_
      refine WD.pure (i := 15) (d := 5) (by kernel_rfl) rfl (by kernel_rfl) (by kernel_rfl) rfl rfl rfl (fun _ => q_assign rfl) ?_
      refine WD.done (by kernel_rfl) ?_
      refine WX.then ?_
      refine WC.ret ?_
      obtain rfl := Option.some.inj h
      refine WX.bpRet Try.results11 (.tmp rfl (.tmp rfl .nil)) (fun w hw => ?_)
      exact ⟨ret2 rfl rfl, hw.sub .nil⟩
def m_clock_Suspects_L2 (l_896 : List Int) (x_1157 : Int × Int) (width_901 : Int) (k_1311 : (List Int) → Option (List Int × Int)) : Nat → (List Int) → Int → Option (List Int × Int)
  | 0, _, _ => none
  | n_1366 + 1, out_1360, v_1363 => if decide (v_1363 < ((l_896.length : Nat) : Int)) then jp1 (fun (out_1386 : List Int) => m_clock_Suspects_L2 l_896 x_1157 width_901 k_1311 n_1366 out_1386 (i64 (v_1363 + 1))) fun k_1389 => chk ((0 : Int) ≤ v_1363 ∧ v_1363 < ((l_896.length : Nat) : Int)) (if decide ((max (i64 ((nth l_896 v_1363) - x_1157.1)) (i64 (x_1157.1 - (nth l_896 v_1363)))) > width_901) then chk ((((out_1360 ++ ([v_1363] : List Int)).length : Nat) : Int) * 8 ≤ 140737488355328 ∧ (((out_1360 ++ ([v_1363] : List Int)).length : Nat) : Int) ≤ 4611686018427387904) (k_1389 (out_1360 ++ ([v_1363] : List Int))) else k_1389 out_1360) else k_1311 out_1360
theorem m_clock_Suspects_L2_fuel {n : Nat} {l_896 : List Int} {x_1157 : Int × Int} {width_901 : Int} {k_1311 : (List Int) → Option (List Int × Int)} {out_1360 : List Int} {v_1363 : Int} {r : List Int × Int} (h : m_clock_Suspects_L2 l_896 x_1157 width_901 k_1311 n out_1360 v_1363 = some r) : ∃ m, n = m + 1 := by
  cases n with
  | zero => cases h
  | succ m => exact ⟨m, rfl⟩

/-- clock.Suspects -/
def m_clock_Suspects (l_896 : List Int) (f_900 : Int) (width_901 : Int) : Option (List Int × Int) :=
  (m_clock_Midpoint l_896 f_900).bind fun x_1157 => if (decide (x_1157.2 ≠ 0)) || (decide (width_901 < 0)) then some (([] : List Int), 2) else jp1 (fun (out_1308 : List Int) => some (out_1308, 0)) fun k_1311 => m_clock_Suspects_L2 l_896 x_1157 width_901 k_1311 FUEL ([] : List Int) 0

set_option maxRecDepth 20000 in
theorem w_clock_Suspects (Z : Zp)  (ao_897 : Option Addr) (cap_898 : Nat) (l_896 : List Int) (f_900 : Int) (width_901 : Int) (r : List Int × Int) (w₀ : World) (hz : PZ [] w₀ Z)
    (hs_899 : ZS Z 1 (fun r x => r = e3 x) ao_897 cap_898 l_896)
    (h : m_clock_Suspects l_896 f_900 width_901 = some r) :
    Calls Try.prog 13 #[(.slice ao_897 l_896.length cap_898), (.int .i64 f_900), (.int .i64 width_901)] w₀ fun e w' => ∃ ao_1154 : Option Addr, ∃ cap_1155 : Nat, e = .returned (.tuple #[(.slice ao_1154 r.1.length cap_1155), (.int .i64 r.2)]) ∧ True ∧ Hp [] w₀ w' [row (.slice ao_1154 r.1.length cap_1155) 3 1 (r.1.flatMap e3)] := by
  unfold m_clock_Suspects at h
  refine Calls.ofWC (vs := [(.slice ao_897 l_896.length cap_898), (.int .i64 f_900), (.int .i64 width_901)]) (pre := []) (env := [(0, (.slice ao_897 l_896.length cap_898)), (1, (.int .i64 f_900)), (2, (.int .i64 width_901))]) Try.func13 rfl Try.ntmps13 rfl (Hp.nil w₀ _) rfl ?_
  refine WC.seq ?_
  refine WC.region ?_
  refine WL.quiet (d := 6) rfl rfl rfl (q_assign rfl) ?_
  refine WL.quiet (d := 7) rfl rfl rfl (q_assign rfl) ?_
  refine WL.nil ?_
  refine WX.then ?_
  refine WC.seq ?_
  obtain ⟨x_1157, hx_1158, h⟩ := bind_elim h
  refine WC.region ?_
  refine WL.quiet (d := 14) rfl rfl rfl (q_move rfl) ?_
  refine WL.quiet (d := 15) rfl rfl rfl (q_move rfl) ?_
  refine WL.callD (dd := 16) rfl rfl rfl (run_call (l := [.tmp 14, .tmp 15]) Try.call11 (.cons rfl (.cons rfl .nil))) (.nil : Sel [] [] []) (fun w hw => by have pz := (hz.call hw (.nil : Sel [] [] [])); exact w_clock_Midpoint (Z := _) (ao_17 := ao_897) (cap_18 := cap_898) (l_16 := l_896) (f_20 := f_900) (r := x_1157) w pz hs_899 hx_1158) ?_
  refine WL.quiet (d := 13) rfl rfl rfl (q_move rfl) ?_
  refine WL.quiet (d := 17) rfl rfl rfl (q_extract rfl rfl) ?_
  refine WL.quiet (d := 18) rfl rfl rfl (q_extract rfl rfl) ?_
  refine WL.quiet (d := 8) rfl rfl rfl (q_assign rfl) ?_
  refine WL.quiet (d := 9) rfl rfl rfl (q_assign rfl) ?_
  refine WL.nil ?_
  refine WX.then ?_
  refine WC.seq ?_
  refine WC.seq ?_
  refine WC.region ?_
  refine WL.quiet (d := 19) rfl rfl rfl (q_move rfl) ?_
  refine WL.quiet (d := 20) rfl rfl rfl (q_neq rfl rfl) ?_
  refine WL.quiet (d := 21) rfl rfl rfl (q_move rfl) ?_
  refine WL.cut0 True [(0, (.slice ao_897 l_896.length cap_898)), (2, (.int .i64 width_901)), (8, (.int .i64 x_1157.1)), (24, (.bool ((decide (x_1157.2 ≠ 0)) || (decide (width_901 < 0)))))] [] 3 ?_ (fun _ => ?_)
  · rcases Bool.eq_false_or_eq_true (decide (x_1157.2 ≠ 0)) with hb' | hb'
    · have hg_1162 := hb'; clear hb'
      refine WL.pin (i := 21) rfl hg_1162 ?_
      refine WL.skip rfl rfl rfl ?_
      refine WL.skip rfl rfl rfl ?_
      refine WL.quiet (d := 24) rfl rfl rfl (q_pickT rfl rfl) ?_
      exact WL.cutEnd () trivial (.cons rfl (.cons rfl (.cons rfl (.cons (some_bool (or_l hg_1162)) .nil)))) .nil
    · have hg_1163 := hb'; clear hb'
      refine WL.pin (i := 21) rfl hg_1163 ?_
      refine WL.quiet (d := 22) rfl rfl rfl (q_move rfl) ?_
      refine WL.quiet (d := 23) rfl rfl rfl (q_lss rfl rfl) ?_
      refine WL.quiet (d := 24) rfl rfl rfl (q_pickF rfl rfl) ?_
      exact WL.cutEnd () trivial (.cons rfl (.cons rfl (.cons rfl (.cons (some_bool (or_r hg_1163)) .nil)))) .nil
  · skip
    refine WL.nil ?_
    refine WX.then ?_
    refine WC.cond rfl (fun hb_1164 => ?_) (fun hb_1164 => ?_)
    · replace h := ite_t h hb_1164
      refine WC.seq ?_
      refine WC.region ?_
      refine WL.quiet (d := 6) rfl rfl rfl (q_assign rfl) ?_
      refine WL.quiet (d := 7) rfl rfl rfl (q_assign rfl) ?_
      refine WL.nil ?_
      refine WX.then ?_
      refine WC.ret ?_
      refine WX.thenRet ?_
      refine WX.nilRow 3 1 ?_
      obtain rfl := Option.some.inj h
      refine WX.bpRet Try.results13 (.tmp rfl (.tmp rfl .nil)) (fun w hw => ?_)
      exact ⟨none, 0, ret2 rfl rfl, trivial, hw.sub (.cons .here .nil)⟩
    · replace h := ite_f h hb_1164
      refine WC.skip ?_
      refine WX.then ?_
      refine WC.seq ?_
      refine WC.region ?_
      refine WL.quiet (d := 10) rfl rfl rfl (q_assign rfl) ?_
      refine WL.nil ?_
      refine WX.then ?_
      obtain ⟨k_1311, hk_1312, h⟩ := jp1_elim h
      refine WC.seqMid3 (fun (out_1308 : List Int) (ao_1309 : Option Addr) (cap_1310 : Nat) => (k_1311 out_1308 = some r)) (fun (out_1308 : List Int) (ao_1309 : Option Addr) (cap_1310 : Nat) => [(10, (.slice ao_1309 out_1308.length cap_1310))]) (fun (out_1308 : List Int) (ao_1309 : Option Addr) (cap_1310 : Nat) => [row (.slice ao_1309 out_1308.length cap_1310) 3 1 (out_1308.flatMap e3)]) ?_ ?_
      · skip
        refine WC.seq ?_
        refine WC.region ?_
        refine WL.quiet (d := 25) rfl rfl rfl (q_move rfl) ?_
        refine WL.quiet (d := 26) rfl rfl rfl (q_len Try.underlying22 rfl) ?_
        refine WL.quiet (d := 27) rfl rfl rfl (q_move rfl) ?_
        refine WL.nil ?_
        refine WX.then ?_
        refine WC.block ?_
        refine WC.nilRow 3 1 ?_
        refine WC.loop5 (fun (n_1364 : Nat) (out_1360 : List Int) (v_1363 : Int) (ao_1361 : Option Addr) (cap_1362 : Nat) => (m_clock_Suspects_L2 l_896 x_1157 width_901 k_1311 n_1364 out_1360 v_1363 = some r)) (fun (n_1364 : Nat) (out_1360 : List Int) (v_1363 : Int) (ao_1361 : Option Addr) (cap_1362 : Nat) => [(2, (.int .i64 width_901)), (8, (.int .i64 x_1157.1)), (10, (.slice ao_1361 out_1360.length cap_1362)), (25, (.slice ao_897 l_896.length cap_898)), (26, (.int .i64 ((l_896.length : Nat) : Int))), (27, (.int .i64 v_1363))]) (fun (n_1364 : Nat) (out_1360 : List Int) (v_1363 : Int) (ao_1361 : Option Addr) (cap_1362 : Nat) => [row (.slice ao_1361 out_1360.length cap_1362) 3 1 (out_1360.flatMap e3)]) (fun (n_1364 : Nat) (out_1360 : List Int) (v_1363 : Int) (ao_1361 : Option Addr) (cap_1362 : Nat) => n_1364) ⟨FUEL, ([] : List Int), 0, none, 0⟩ h (.cons rfl (.cons rfl (.cons rfl (.cons rfl (.cons rfl (.cons rfl .nil)))))) (.cons .here .nil) ?_
        rintro n_1364 out_1360 v_1363 ao_1361 cap_1362 h
        obtain ⟨n_1366, rfl⟩ := m_clock_Suspects_L2_fuel h
        rw [m_clock_Suspects_L2] at h
        refine WC.seq ?_
        refine WC.region ?_
        refine WL.quiet (d := 28) rfl rfl rfl (q_lss rfl rfl) ?_
        refine WL.nil ?_
        refine WX.then ?_
        refine WC.seq ?_
        refine WC.cond rfl (fun hb_1368 => ?_) (fun hb_1368 => ?_)
        · replace h := ite_t h hb_1368
          refine WC.skip ?_
          refine WX.then ?_
          obtain ⟨k_1389, hk_1390, h⟩ := jp1_elim h
          refine WC.seqMid3 (fun (out_1386 : List Int) (ao_1387 : Option Addr) (cap_1388 : Nat) => (k_1389 out_1386 = some r)) (fun (out_1386 : List Int) (ao_1387 : Option Addr) (cap_1388 : Nat) => [(2, (.int .i64 width_901)), (8, (.int .i64 x_1157.1)), (10, (.slice ao_1387 out_1386.length cap_1388)), (25, (.slice ao_897 l_896.length cap_898)), (26, (.int .i64 ((l_896.length : Nat) : Int))), (27, (.int .i64 v_1363))]) (fun (out_1386 : List Int) (ao_1387 : Option Addr) (cap_1388 : Nat) => [row (.slice ao_1387 out_1386.length cap_1388) 3 1 (out_1386.flatMap e3)]) ?_ ?_
          · skip
            refine WC.block ?_
            refine WC.seq ?_
            obtain ⟨c_1391, h⟩ := chk_elim h
            refine WC.region ?_
            refine WL.quiet (d := 29) rfl rfl rfl (q_move rfl) ?_
            refine WL.znth (dd := 30) rfl rfl (Z := Z) (Pr := (fun r x => r = e3 x)) elT_22 rfl rfl hs_899 c_1391 ?_
            rintro A_1396 r_1397 hA_1398 hl_1399 rfl
            refine WL.quiet (d := 31) rfl rfl rfl (q_load1 oneT_3 rfl (rd_z hz.pv hA_1398 rfl)) ?_
            refine WL.quiet (d := 11) rfl rfl rfl (q_assign rfl) ?_
            refine WL.quiet (d := 12) rfl rfl rfl (q_assign rfl) ?_
            refine WL.nil ?_
            refine WX.then ?_
            refine WC.seq ?_
            refine WC.region ?_
            refine WL.quiet (d := 32) rfl rfl rfl (q_move rfl) ?_
            refine WL.quiet (d := 33) rfl rfl rfl (q_move rfl) ?_
            refine WL.quiet (d := 34) rfl rfl rfl (q_sub rfl rfl rfl) ?_
            refine WL.quiet (d := 35) rfl rfl rfl (q_move rfl) ?_
            refine WL.quiet (d := 36) rfl rfl rfl (q_move rfl) ?_
            refine WL.quiet (d := 37) rfl rfl rfl (q_sub rfl rfl rfl) ?_
            refine WL.quiet (d := 38) rfl rfl rfl (q_max rfl rfl rfl) ?_
            refine WL.quiet (d := 39) rfl rfl rfl (q_move rfl) ?_
            refine WL.quiet (d := 40) rfl rfl rfl (q_gtr rfl rfl) ?_
            refine WL.nil ?_
            refine WX.then ?_
            refine WC.cond rfl (fun hb_1400 => ?_) (fun hb_1400 => ?_)
            · replace h := ite_t h hb_1400
              obtain ⟨c_1402, h⟩ := chk_elim h
              refine WC.region ?_
              refine WL.quiet (d := 41) rfl rfl rfl (q_move rfl) ?_
              refine WL.quiet (d := 42) rfl rfl rfl (q_move rfl) ?_
              refine WL.new (dd := 43) rfl rfl rfl (e_buildSlice (cs := ([v_1363] : List Int).flatMap e3) elT_22 (Eos.parts (l := [.tmp 42]) (.cons rfl .nil) [0]) (fun _ => by kernel_rfl) rfl (by unfold maxLen; omega)) ?_
              intro b_1405 _
              refine WL.eff (d := 44) rfl rfl rfl (e_appendF (enc := e3) (l1 := out_1360) (l2 := ([v_1363] : List Int)) elT_22 rfl rfl (.there .here) (fun _ => rfl) rfl rfl (news_row .here) (oc_flat e3_oc _) c_1402) ?_
              rintro ⟨ao_1406, cap_1407⟩ _
              refine WL.quiet (d := 10) rfl rfl rfl (q_assign rfl) ?_
              refine WL.nil ?_
              refine WX.blockNormal ?_
              exact WX.mid (G := List Int × Option Addr × Nat) ⟨(out_1360 ++ ([v_1363] : List Int)), ao_1406, cap_1407⟩ h (.cons rfl (.cons rfl (.cons rfl (.cons rfl (.cons rfl (.cons rfl .nil)))))) (.cons .here .nil)
            · replace h := ite_f h hb_1400
              refine WC.skip ?_
              refine WX.blockNormal ?_
              exact WX.mid (G := List Int × Option Addr × Nat) ⟨out_1360, ao_1361, cap_1362⟩ h (.cons rfl (.cons rfl (.cons rfl (.cons rfl (.cons rfl (.cons rfl .nil)))))) (.cons .here .nil)
          · rintro out_1386 ao_1387 cap_1388 h
            replace h := (hk_1390 out_1386).symm.trans h
            refine WC.region ?_
            refine WL.quiet (d := 45) rfl rfl rfl (q_add rfl rfl rfl) ?_
            refine WL.quiet (d := 27) rfl rfl rfl (q_move rfl) ?_
            refine WL.nil ?_
            exact WX.round (G := Nat × List Int × Int × Option Addr × Nat) ⟨n_1366, out_1386, (i64 (v_1363 + 1)), ao_1387, cap_1388⟩ h (Nat.lt_succ_self _) (.cons rfl (.cons rfl (.cons rfl (.cons rfl (.cons rfl (.cons rfl .nil)))))) (.cons .here .nil)
        · replace h := ite_f h hb_1368
          refine WC.exit ?_
          refine WX.thenExit ?_
          refine WX.thenExit ?_
          refine WX.blockHit ?_
          exact WX.mid (G := List Int × Option Addr × Nat) ⟨out_1360, ao_1361, cap_1362⟩ h (.cons rfl .nil) (.cons .here .nil)
      · rintro out_1308 ao_1309 cap_1310 h
        replace h := (hk_1312 out_1308).symm.trans h
        refine WC.seq ?_
        refine WC.region ?_
        refine WL.quiet (d := 46) rfl rfl rfl (q_move rfl) ?_
        refine WL.quiet (d := 6) rfl rfl rfl (q_assign rfl) ?_
        refine WL.quiet (d := 7) rfl rfl rfl (q_assign rfl) ?_
        refine WL.nil ?_
        refine WX.then ?_
        refine WC.ret ?_
        obtain rfl := Option.some.inj h
        refine WX.bpRet Try.results13 (.tmp rfl (.tmp rfl .nil)) (fun w hw => ?_)
        exact ⟨ao_1309, cap_1310, ret2 rfl rfl, trivial, hw.sub (.cons .here .nil)⟩
/-- clock.Meet$1 -/
def m_clock_Meet_1 (s_1435 : Sapi_Span) : Option Bool :=
  (m_clock_in s_1435.fLo).bind fun x_1453 => (if !x_1453 then some true else (m_clock_in s_1435.fHi).bind fun x_1455 => some (!x_1455)).bind fun b_1457 => some (b_1457 || (decide (s_1435.fLo > s_1435.fHi)))

set_option maxRecDepth 20000 in
theorem w_clock_Meet_1 (Z : Zp)   (s_1435 : Sapi_Span) (r : Bool) (w₀ : World) (hz : PZ [] w₀ Z)
    (h : m_clock_Meet_1 s_1435 = some r) :
    Calls Try.prog 30 #[(.agg #[(.int .i64 s_1435.fLo), (.int .i64 s_1435.fHi)])] w₀ fun e w' => e = .returned (.bool r) ∧ Hp [] w₀ w' [] := by
  unfold m_clock_Meet_1 at h
  refine Calls.ofWC (vs := [(.agg #[(.int .i64 s_1435.fLo), (.int .i64 s_1435.fHi)])]) (pre := []) (env := [(0, (.agg #[(.int .i64 s_1435.fLo), (.int .i64 s_1435.fHi)]))]) Try.func30 rfl Try.ntmps30 rfl (Hp.nil w₀ _) rfl ?_
  refine WC.seq ?_
  refine WC.region ?_
  refine WL.new (dd := 1) rfl rfl rfl (e_box (cs := [(.int .i64 s_1435.fLo), (.int .i64 s_1435.fHi)]) rfl rfl) ?_
  intro b_1452 _
  refine WL.quiet (d := 2) rfl rfl rfl (q_assign rfl) ?_
  refine WL.nil ?_
  refine WX.then ?_
  refine WC.seq ?_
  obtain ⟨x_1453, hx_1454, h⟩ := bind_elim h
  obtain ⟨b_1457, hb_1458, h⟩ := bind_elim h
  refine WC.region ?_
  refine WL.quiet (d := 3) rfl rfl rfl (q_fieldAddr fo_35_0 rfl rfl) ?_
  refine WL.quiet (d := 4) rfl rfl rfl (q_load1 oneT_3 rfl (rd_stb .here rfl)) ?_
  refine WL.callD (dd := 5) rfl rfl rfl (run_call (l := [.tmp 4]) Try.call23 (.cons rfl .nil)) (.nil : Sel [stb b_1452 35 [(.int .i64 s_1435.fLo), (.int .i64 s_1435.fHi)]] [] [stb b_1452 35 [(.int .i64 s_1435.fLo), (.int .i64 s_1435.fHi)]]) (fun w hw => by have pz := (hz.call hw (.nil : Sel [stb b_1452 35 [(.int .i64 s_1435.fLo), (.int .i64 s_1435.fHi)]] [] [stb b_1452 35 [(.int .i64 s_1435.fLo), (.int .i64 s_1435.fHi)]])); exact w_clock_in (Z := _)  (t_39 := s_1435.fLo) (r := x_1453) w pz  hx_1454) ?_
  refine WL.quiet (d := 6) rfl rfl rfl (q_not rfl) ?_
  refine WL.quiet (d := 7) rfl rfl rfl (q_move rfl) ?_
  refine WL.cut0 True [(1, (.pointer (some ⟨b_1452, 0, none⟩))), (2, (.bool false)), (12, (.bool b_1457))] [stb b_1452 35 [(.int .i64 s_1435.fLo), (.int .i64 s_1435.fHi)]] 5 ?_ (fun _ => ?_)
  · rcases Bool.eq_false_or_eq_true (!x_1453) with hb' | hb'
    · have hg_1459 := hb'; clear hb'
      have hq_1460 := ite_t hb_1458 hg_1459
      replace hq_1460 := Option.some.inj hq_1460
      refine WL.pin (i := 7) rfl hg_1459 ?_
      refine WL.skip rfl rfl rfl ?_
      refine WL.skip rfl rfl rfl ?_
      refine WL.skip rfl rfl rfl ?_
      refine WL.skip rfl rfl rfl ?_
      refine WL.quiet (d := 12) rfl rfl rfl (q_pickT rfl rfl) ?_
      exact WL.cutEnd () trivial (.cons rfl (.cons rfl (.cons (some_bool hq_1460) .nil))) (.cons .here .nil)
    · have hg_1461 := hb'; clear hb'
      have hq_1462 := ite_f hb_1458 hg_1461
      obtain ⟨x_1455, hx_1456, hq_1462⟩ := bind_elim hq_1462
      replace hq_1462 := Option.some.inj hq_1462
      refine WL.pin (i := 7) rfl hg_1461 ?_
      refine WL.quiet (d := 8) rfl rfl rfl (q_fieldAddr fo_35_1 rfl rfl) ?_
      refine WL.quiet (d := 9) rfl rfl rfl (q_load1 oneT_3 rfl (rd_stb .here rfl)) ?_
      refine WL.callD (dd := 10) rfl rfl rfl (run_call (l := [.tmp 9]) Try.call23 (.cons rfl .nil)) (.nil : Sel [stb b_1452 35 [(.int .i64 s_1435.fLo), (.int .i64 s_1435.fHi)]] [] [stb b_1452 35 [(.int .i64 s_1435.fLo), (.int .i64 s_1435.fHi)]]) (fun w hw => by have pz := (hz.call hw (.nil : Sel [stb b_1452 35 [(.int .i64 s_1435.fLo), (.int .i64 s_1435.fHi)]] [] [stb b_1452 35 [(.int .i64 s_1435.fLo), (.int .i64 s_1435.fHi)]])); exact w_clock_in (Z := _)  (t_39 := s_1435.fHi) (r := x_1455) w pz  hx_1456) ?_
      refine WL.quiet (d := 11) rfl rfl rfl (q_not rfl) ?_
      refine WL.quiet (d := 12) rfl rfl rfl (q_pickF rfl rfl) ?_
      exact WL.cutEnd () trivial (.cons rfl (.cons rfl (.cons (some_bool hq_1462) .nil))) (.cons .here .nil)
  · skip
    refine WL.quiet (d := 13) rfl rfl rfl (q_move rfl) ?_
    refine WL.cut0 True [(2, (.bool false)), (19, (.bool (b_1457 || (decide (s_1435.fLo > s_1435.fHi)))))] [stb b_1452 35 [(.int .i64 s_1435.fLo), (.int .i64 s_1435.fHi)]] 6 ?_ (fun _ => ?_)
    · rcases Bool.eq_false_or_eq_true b_1457 with hb' | hb'
      · have hg_1463 := hb'; clear hb'
        refine WL.pin (i := 13) rfl hg_1463 ?_
        refine WL.skip rfl rfl rfl ?_
        refine WL.skip rfl rfl rfl ?_
        refine WL.skip rfl rfl rfl ?_
        refine WL.skip rfl rfl rfl ?_
        refine WL.skip rfl rfl rfl ?_
        refine WL.quiet (d := 19) rfl rfl rfl (q_pickT rfl rfl) ?_
        exact WL.cutEnd () trivial (.cons rfl (.cons (some_bool (or_l hg_1463)) .nil)) (.cons .here .nil)
      · have hg_1464 := hb'; clear hb'
        refine WL.pin (i := 13) rfl hg_1464 ?_
        refine WL.quiet (d := 14) rfl rfl rfl (q_fieldAddr fo_35_0 rfl rfl) ?_
        refine WL.quiet (d := 15) rfl rfl rfl (q_load1 oneT_3 rfl (rd_stb .here rfl)) ?_
        refine WL.quiet (d := 16) rfl rfl rfl (q_fieldAddr fo_35_1 rfl rfl) ?_
        refine WL.quiet (d := 17) rfl rfl rfl (q_load1 oneT_3 rfl (rd_stb .here rfl)) ?_
        refine WL.quiet (d := 18) rfl rfl rfl (q_gtr rfl rfl) ?_
        refine WL.quiet (d := 19) rfl rfl rfl (q_pickF rfl rfl) ?_
        exact WL.cutEnd () trivial (.cons rfl (.cons (some_bool (or_r hg_1464)) .nil)) (.cons .here .nil)
    · skip
      refine WL.quiet (d := 2) rfl rfl rfl (q_assign rfl) ?_
      refine WL.nil ?_
      refine WX.then ?_
      refine WC.ret ?_
      obtain rfl := Option.some.inj h
      refine WX.bpRet Try.results30 (.tmp rfl .nil) (fun w hw => ?_)
      exact ⟨ret1 rfl, hw.sub .nil⟩
def m_slices_IndexFunc_api_Span_api_Span_L2 (s_1474 : List Sapi_Span) (f_1480 : Sapi_Span → Option Bool) (k_1706 : Option Int) : Nat → Int → Option Int
  | 0, _ => none
  | n_1737 + 1, v_1735 => if decide (v_1735 < ((s_1474.length : Nat) : Int)) then chk ((0 : Int) ≤ v_1735 ∧ v_1735 < ((s_1474.length : Nat) : Int)) ((f_1480 (⟨((nth s_1474 v_1735).fLo), ((nth s_1474 v_1735).fHi)⟩ : Sapi_Span)).bind fun x_1757 => if x_1757 then some v_1735 else m_slices_IndexFunc_api_Span_api_Span_L2 s_1474 f_1480 k_1706 n_1737 (i64 (v_1735 + 1))) else k_1706
theorem m_slices_IndexFunc_api_Span_api_Span_L2_fuel {n : Nat} {s_1474 : List Sapi_Span} {f_1480 : Sapi_Span → Option Bool} {k_1706 : Option Int} {v_1735 : Int} {r : Int} (h : m_slices_IndexFunc_api_Span_api_Span_L2 s_1474 f_1480 k_1706 n v_1735 = some r) : ∃ m, n = m + 1 := by
  cases n with
  | zero => cases h
  | succ m => exact ⟨m, rfl⟩

/-- slices.IndexFunc[[]api.Span,api.Span] -/
def m_slices_IndexFunc_api_Span_api_Span (s_1474 : List Sapi_Span) (f_1480 : Sapi_Span → Option Bool) : Option Int :=
  jp0 (some (-1)) fun k_1706 => m_slices_IndexFunc_api_Span_api_Span_L2 s_1474 f_1480 k_1706 FUEL 0

set_option maxRecDepth 20000 in
theorem w_slices_IndexFunc_api_Span_api_Span (Z : Zp)  (ao_1475 : Option Addr) (cap_1476 : Nat) (fid_1478 : FuncId) (fcaps_1479 : List Value) (s_1474 : List Sapi_Span) (f_1480 : Sapi_Span → Option Bool) (r : Int) (w₀ : World) (hz : PZ [] w₀ Z)
    (hs_1477 : ZS Z 2 (fun r x => r = e35 x) ao_1475 cap_1476 s_1474)
    (hcf_1481 : ∀ args w, (callFunc fid_1478 args).run Try.prog w = .ok (.enter fid_1478 args) w)
    (hfn_1482 : ∀ w : World, PZ [] w Z → ∀ (x0 : Sapi_Span) (r : Bool), f_1480 x0 = some r → Calls Try.prog fid_1478 (([(.agg #[(.int .i64 x0.fLo), (.int .i64 x0.fHi)])] : List Value) ++ fcaps_1479).toArray w fun e w' => e = .returned (.bool r) ∧ Hp [] w w' [])
    (h : m_slices_IndexFunc_api_Span_api_Span s_1474 f_1480 = some r) :
    Calls Try.prog 41 #[(.slice ao_1475 s_1474.length cap_1476), (.func (.func fid_1478) #[] (fcaps_1479).toArray)] w₀ fun e w' => e = .returned (.int .i64 r) ∧ Hp [] w₀ w' [] := by
  unfold m_slices_IndexFunc_api_Span_api_Span at h
  refine Calls.ofWC (vs := [(.slice ao_1475 s_1474.length cap_1476), (.func (.func fid_1478) #[] (fcaps_1479).toArray)]) (pre := []) (env := [(0, (.slice ao_1475 s_1474.length cap_1476)), (1, (.func (.func fid_1478) #[] (fcaps_1479).toArray))]) Try.func41 rfl Try.ntmps41 rfl (Hp.nil w₀ _) rfl ?_
  refine WC.seq ?_
  refine WC.region ?_
  refine WL.quiet (d := 4) rfl rfl rfl (q_assign rfl) ?_
  refine WL.nil ?_
  refine WX.then ?_
  obtain ⟨k_1706, hk_1707, h⟩ := jp0_elim h
  refine WC.seqMid0 ((k_1706 = some r)) ([]) ([]) ?_ ?_
  · skip
    refine WC.seq ?_
    refine WC.region ?_
    refine WL.quiet (d := 6) rfl rfl rfl (q_move rfl) ?_
    refine WL.quiet (d := 7) rfl rfl rfl (q_len Try.underlying23 rfl) ?_
    refine WL.quiet (d := 8) rfl rfl rfl (q_move rfl) ?_
    refine WL.nil ?_
    refine WX.then ?_
    refine WC.block ?_
    refine WC.loop2 (fun (n_1736 : Nat) (v_1735 : Int) => (m_slices_IndexFunc_api_Span_api_Span_L2 s_1474 f_1480 k_1706 n_1736 v_1735 = some r)) (fun (n_1736 : Nat) (v_1735 : Int) => [(0, (.slice ao_1475 s_1474.length cap_1476)), (1, (.func (.func fid_1478) #[] (fcaps_1479).toArray)), (7, (.int .i64 ((s_1474.length : Nat) : Int))), (8, (.int .i64 v_1735))]) (fun (n_1736 : Nat) (v_1735 : Int) => []) (fun (n_1736 : Nat) (v_1735 : Int) => n_1736) ⟨FUEL, 0⟩ h (.cons rfl (.cons rfl (.cons rfl (.cons rfl .nil)))) .nil ?_
    rintro n_1736 v_1735 h
    obtain ⟨n_1737, rfl⟩ := m_slices_IndexFunc_api_Span_api_Span_L2_fuel h
    rw [m_slices_IndexFunc_api_Span_api_Span_L2] at h
    refine WC.seq ?_
    refine WC.region ?_
    refine WL.quiet (d := 9) rfl rfl rfl (q_lss rfl rfl) ?_
    refine WL.nil ?_
    refine WX.then ?_
    refine WC.seq ?_
    refine WC.cond rfl (fun hb_1739 => ?_) (fun hb_1739 => ?_)
    · replace h := ite_t h hb_1739
      refine WC.skip ?_
      refine WX.then ?_
      refine WC.seq ?_
      refine WC.block ?_
      refine WC.seq ?_
      refine WC.region ?_
      refine WL.quiet (d := 10) rfl rfl rfl (q_move rfl) ?_
      refine WL.quiet (d := 5) rfl rfl rfl (q_assign rfl) ?_
      refine WL.nil ?_
      refine WX.then ?_
      refine WC.seq ?_
      obtain ⟨c_1752, h⟩ := chk_elim h
      obtain ⟨x_1757, hx_1758, h⟩ := bind_elim h
      refine WC.region ?_
      refine WL.quiet (d := 11) rfl rfl rfl (q_move rfl) ?_
      refine WL.quiet (d := 12) rfl rfl rfl (q_move rfl) ?_
      refine WL.quiet (d := 13) rfl rfl rfl (q_move rfl) ?_
      refine WL.znth (dd := 14) rfl rfl (Z := Z) (Pr := (fun r x => r = e35 x)) elT_23 rfl rfl hs_1477 c_1752 ?_
      rintro A_1759 r_1760 hA_1761 hl_1762 rfl
      refine WL.quiet (d := 15) rfl rfl rfl (q_loadA (cs := [(.int .i64 ((nth s_1474 v_1735).fLo)), (.int .i64 ((nth s_1474 v_1735).fHi))]) aggT_35 rfl rfl (rd_zs hz.pv hA_1761)) ?_
      refine WL.callD (dd := 16) rfl rfl rfl (run_callv (l := [.tmp 15]) (f := fid_1478) (caps := fcaps_1479) hcf_1481 rfl (.cons rfl .nil)) .nil (fun w hw => hfn_1482 w (hz.now hw) (⟨((nth s_1474 v_1735).fLo), ((nth s_1474 v_1735).fHi)⟩ : Sapi_Span) x_1757  hx_1758) ?_
      refine WL.nil ?_
      refine WX.then ?_
      refine WC.cond rfl (fun hb_1763 => ?_) (fun hb_1763 => ?_)
      · replace h := ite_t h hb_1763
        refine WC.seq ?_
        refine WC.region ?_
        refine WL.quiet (d := 17) rfl rfl rfl (q_move rfl) ?_
        refine WL.quiet (d := 4) rfl rfl rfl (q_assign rfl) ?_
        refine WL.nil ?_
        refine WX.then ?_
        refine WC.ret ?_
        refine WX.blockRet ?_
        refine WX.thenRet ?_
        refine WX.thenRet ?_
        refine WX.blockRet ?_
        refine WX.thenRet ?_
        obtain rfl := Option.some.inj h
        refine WX.bpRet Try.results41 (.tmp rfl .nil) (fun w hw => ?_)
        exact ⟨ret1 rfl, hw.sub .nil⟩
      · replace h := ite_f h hb_1763
        refine WC.skip ?_
        refine WX.blockNormal ?_
        refine WX.then ?_
        refine WC.region ?_
        refine WL.quiet (d := 18) rfl rfl rfl (q_add rfl rfl rfl) ?_
        refine WL.quiet (d := 8) rfl rfl rfl (q_move rfl) ?_
        refine WL.nil ?_
        exact WX.round (G := Nat × Int) ⟨n_1737, (i64 (v_1735 + 1))⟩ h (Nat.lt_succ_self _) (.cons rfl (.cons rfl (.cons rfl (.cons rfl .nil)))) .nil
    · replace h := ite_f h hb_1739
      refine WC.exit ?_
      refine WX.thenExit ?_
      refine WX.thenExit ?_
      refine WX.blockHit ?_
      exact WX.mid (G := Unit) () h .nil .nil
  · rintro  h
    replace h := hk_1707.symm.trans h
    refine WC.seq ?_
    refine WC.region ?_
    refine WL.quiet (d := 4) rfl rfl rfl (q_assign rfl) ?_
    refine WL.nil ?_
    refine WX.then ?_
    refine WC.ret ?_
    obtain rfl := Option.some.inj h
    refine WX.bpRet Try.results41 (.tmp rfl .nil) (fun w hw => ?_)
    exact ⟨ret1 rfl, hw.sub .nil⟩
/-- slices.ContainsFunc[[]api.Span,api.Span] -/
def m_slices_ContainsFunc_api_Span_api_Span (s_1465 : List Sapi_Span) (f_1471 : Sapi_Span → Option Bool) : Option Bool :=
  (m_slices_IndexFunc_api_Span_api_Span s_1465 f_1471).bind fun x_1767 => some (decide (x_1767 ≥ 0))

set_option maxRecDepth 20000 in
theorem w_slices_ContainsFunc_api_Span_api_Span (Z : Zp)  (ao_1466 : Option Addr) (cap_1467 : Nat) (fid_1469 : FuncId) (fcaps_1470 : List Value) (s_1465 : List Sapi_Span) (f_1471 : Sapi_Span → Option Bool) (r : Bool) (w₀ : World) (hz : PZ [] w₀ Z)
    (hs_1468 : ZS Z 2 (fun r x => r = e35 x) ao_1466 cap_1467 s_1465)
    (hcf_1472 : ∀ args w, (callFunc fid_1469 args).run Try.prog w = .ok (.enter fid_1469 args) w)
    (hfn_1473 : ∀ w : World, PZ [] w Z → ∀ (x0 : Sapi_Span) (r : Bool), f_1471 x0 = some r → Calls Try.prog fid_1469 (([(.agg #[(.int .i64 x0.fLo), (.int .i64 x0.fHi)])] : List Value) ++ fcaps_1470).toArray w fun e w' => e = .returned (.bool r) ∧ Hp [] w w' [])
    (h : m_slices_ContainsFunc_api_Span_api_Span s_1465 f_1471 = some r) :
    Calls Try.prog 29 #[(.slice ao_1466 s_1465.length cap_1467), (.func (.func fid_1469) #[] (fcaps_1470).toArray)] w₀ fun e w' => e = .returned (.bool r) ∧ Hp [] w₀ w' [] := by
  unfold m_slices_ContainsFunc_api_Span_api_Span at h
  refine Calls.ofWC (vs := [(.slice ao_1466 s_1465.length cap_1467), (.func (.func fid_1469) #[] (fcaps_1470).toArray)]) (pre := []) (env := [(0, (.slice ao_1466 s_1465.length cap_1467)), (1, (.func (.func fid_1469) #[] (fcaps_1470).toArray))]) Try.func29 rfl Try.ntmps29 rfl (Hp.nil w₀ _) rfl ?_
  refine WC.seq ?_
  refine WC.region ?_
  refine WL.quiet (d := 4) rfl rfl rfl (q_assign rfl) ?_
  refine WL.nil ?_
  refine WX.then ?_
  refine WC.seq ?_
  obtain ⟨x_1767, hx_1768, h⟩ := bind_elim h
  refine WC.region ?_
  refine WL.quiet (d := 5) rfl rfl rfl (q_move rfl) ?_
  refine WL.quiet (d := 6) rfl rfl rfl (q_move rfl) ?_
  refine WL.callD (dd := 7) rfl rfl rfl (run_call (l := [.tmp 5, .tmp 6]) Try.call41 (.cons rfl (.cons rfl .nil))) (.nil : Sel [] [] []) (fun w hw => by have pz := (hz.call hw (.nil : Sel [] [] [])); exact w_slices_IndexFunc_api_Span_api_Span (Z := _) (ao_1475 := ao_1466) (cap_1476 := cap_1467) (fid_1478 := fid_1469) (fcaps_1479 := fcaps_1470) (s_1474 := s_1465) (f_1480 := f_1471) (r := x_1767) w pz hs_1468 hcf_1472 hfn_1473 hx_1768) ?_
  refine WL.quiet (d := 8) rfl rfl rfl (q_geq rfl rfl) ?_
  refine WL.quiet (d := 4) rfl rfl rfl (q_assign rfl) ?_
  refine WL.nil ?_
  refine WX.then ?_
  refine WC.ret ?_
  obtain rfl := Option.some.inj h
  refine WX.bpRet Try.results29 (.tmp rfl .nil) (fun w hw => ?_)
  exact ⟨ret1 rfl, hw.sub .nil⟩
/-- clock.Meet$3 -/
def m_clock_Meet_3 (s_1791 : Sapi_Span) : Option Int :=
  some s_1791.fLo

set_option maxRecDepth 20000 in
theorem w_clock_Meet_3 (Z : Zp)   (s_1791 : Sapi_Span) (r : Int) (w₀ : World) (hz : PZ [] w₀ Z)
    (h : m_clock_Meet_3 s_1791 = some r) :
    Calls Try.prog 34 #[(.agg #[(.int .i64 s_1791.fLo), (.int .i64 s_1791.fHi)])] w₀ fun e w' => e = .returned (.int .i64 r) ∧ Hp [] w₀ w' [] := by
  unfold m_clock_Meet_3 at h
  refine Calls.ofWC (vs := [(.agg #[(.int .i64 s_1791.fLo), (.int .i64 s_1791.fHi)])]) (pre := []) (env := [(0, (.agg #[(.int .i64 s_1791.fLo), (.int .i64 s_1791.fHi)]))]) Try.func34 rfl Try.ntmps34 rfl (Hp.nil w₀ _) rfl ?_
  refine WC.seq ?_
  refine WC.region ?_
  refine WL.new (dd := 1) rfl rfl rfl (e_box (cs := [(.int .i64 s_1791.fLo), (.int .i64 s_1791.fHi)]) rfl rfl) ?_
  intro b_1796 _
  refine WL.quiet (d := 2) rfl rfl rfl (q_assign rfl) ?_
  refine WL.nil ?_
  refine WX.then ?_
  refine WC.seq ?_
  refine WC.region ?_
  refine WL.quiet (d := 3) rfl rfl rfl (q_fieldAddr fo_35_0 rfl rfl) ?_
  refine WL.quiet (d := 4) rfl rfl rfl (q_load1 oneT_3 rfl (rd_stb .here rfl)) ?_
  refine WL.quiet (d := 2) rfl rfl rfl (q_assign rfl) ?_
  refine WL.nil ?_
  refine WX.then ?_
  refine WC.ret ?_
  obtain rfl := Option.some.inj h
  refine WX.bpRet Try.results34 (.tmp rfl .nil) (fun w hw => ?_)
  exact ⟨ret1 rfl, hw.sub .nil⟩
def m_clock_each_api_Span_L2 (l_1797 : List Sapi_Span) (f_1803 : Sapi_Span → Option Int) (k_2204 : (List Int) → Option (List Int)) : Nat → (List Int) → Int → Option (List Int)
  | 0, _, _ => none
  | n_2260 + 1, out_2254, v_2257 => if decide (v_2257 < ((l_1797.length : Nat) : Int)) then chk ((0 : Int) ≤ v_2257 ∧ v_2257 < ((l_1797.length : Nat) : Int)) ((f_1803 (⟨((nth l_1797 v_2257).fLo), ((nth l_1797 v_2257).fHi)⟩ : Sapi_Span)).bind fun x_2294 => chk ((((out_2254 ++ ([x_2294] : List Int)).length : Nat) : Int) * 8 ≤ 140737488355328 ∧ (((out_2254 ++ ([x_2294] : List Int)).length : Nat) : Int) ≤ 4611686018427387904) (m_clock_each_api_Span_L2 l_1797 f_1803 k_2204 n_2260 (out_2254 ++ ([x_2294] : List Int)) (i64 (v_2257 + 1)))) else k_2204 out_2254
theorem m_clock_each_api_Span_L2_fuel {n : Nat} {l_1797 : List Sapi_Span} {f_1803 : Sapi_Span → Option Int} {k_2204 : (List Int) → Option (List Int)} {out_2254 : List Int} {v_2257 : Int} {r : List Int} (h : m_clock_each_api_Span_L2 l_1797 f_1803 k_2204 n out_2254 v_2257 = some r) : ∃ m, n = m + 1 := by
  cases n with
  | zero => cases h
  | succ m => exact ⟨m, rfl⟩

/-- clock.each[api.Span] -/
def m_clock_each_api_Span (l_1797 : List Sapi_Span) (f_1803 : Sapi_Span → Option Int) : Option (List Int) :=
  jp1 (fun (out_2201 : List Int) => (m_slices_Sort out_2201).bind fun x_2303 => some x_2303) fun k_2204 => m_clock_each_api_Span_L2 l_1797 f_1803 k_2204 FUEL ([] : List Int) 0

set_option maxRecDepth 20000 in
theorem w_clock_each_api_Span (Z : Zp)  (ao_1798 : Option Addr) (cap_1799 : Nat) (fid_1801 : FuncId) (fcaps_1802 : List Value) (l_1797 : List Sapi_Span) (f_1803 : Sapi_Span → Option Int) (r : List Int) (w₀ : World) (hz : PZ [] w₀ Z)
    (hs_1800 : ZS Z 2 (fun r x => r = e35 x) ao_1798 cap_1799 l_1797)
    (hcf_1804 : ∀ args w, (callFunc fid_1801 args).run Try.prog w = .ok (.enter fid_1801 args) w)
    (hfn_1805 : ∀ w : World, PZ [] w Z → ∀ (x0 : Sapi_Span) (r : Int), f_1803 x0 = some r → Calls Try.prog fid_1801 (([(.agg #[(.int .i64 x0.fLo), (.int .i64 x0.fHi)])] : List Value) ++ fcaps_1802).toArray w fun e w' => e = .returned (.int .i64 r) ∧ Hp [] w w' [])
    (h : m_clock_each_api_Span l_1797 f_1803 = some r) :
    Calls Try.prog 33 #[(.slice ao_1798 l_1797.length cap_1799), (.func (.func fid_1801) #[] (fcaps_1802).toArray)] w₀ fun e w' => ∃ ao_2056 : Option Addr, ∃ cap_2057 : Nat, e = .returned (.slice ao_2056 r.length cap_2057) ∧ True ∧ Hp [] w₀ w' [row (.slice ao_2056 r.length cap_2057) 3 1 (r.flatMap e3)] := by
  unfold m_clock_each_api_Span at h
  refine Calls.ofWC (vs := [(.slice ao_1798 l_1797.length cap_1799), (.func (.func fid_1801) #[] (fcaps_1802).toArray)]) (pre := []) (env := [(0, (.slice ao_1798 l_1797.length cap_1799)), (1, (.func (.func fid_1801) #[] (fcaps_1802).toArray))]) Try.func33 rfl Try.ntmps33 rfl (Hp.nil w₀ _) rfl ?_
  refine WC.seq ?_
  refine WC.region ?_
  refine WL.quiet (d := 4) rfl rfl rfl (q_assign rfl) ?_
  refine WL.nil ?_
  refine WX.then ?_
  refine WC.seq ?_
  refine WC.region ?_
  refine WL.quiet (d := 5) rfl rfl rfl (q_assign rfl) ?_
  refine WL.nil ?_
  refine WX.then ?_
  obtain ⟨k_2204, hk_2205, h⟩ := jp1_elim h
  refine WC.seqMid3 (fun (out_2201 : List Int) (ao_2202 : Option Addr) (cap_2203 : Nat) => (k_2204 out_2201 = some r)) (fun (out_2201 : List Int) (ao_2202 : Option Addr) (cap_2203 : Nat) => [(5, (.slice ao_2202 out_2201.length cap_2203))]) (fun (out_2201 : List Int) (ao_2202 : Option Addr) (cap_2203 : Nat) => [row (.slice ao_2202 out_2201.length cap_2203) 3 1 (out_2201.flatMap e3)]) ?_ ?_
  · skip
    refine WC.seq ?_
    refine WC.region ?_
    refine WL.quiet (d := 8) rfl rfl rfl (q_move rfl) ?_
    refine WL.quiet (d := 9) rfl rfl rfl (q_len Try.underlying23 rfl) ?_
    refine WL.quiet (d := 10) rfl rfl rfl (q_move rfl) ?_
    refine WL.nil ?_
    refine WX.then ?_
    refine WC.block ?_
    refine WC.nilRow 3 1 ?_
    refine WC.loop5 (fun (n_2258 : Nat) (out_2254 : List Int) (v_2257 : Int) (ao_2255 : Option Addr) (cap_2256 : Nat) => (m_clock_each_api_Span_L2 l_1797 f_1803 k_2204 n_2258 out_2254 v_2257 = some r)) (fun (n_2258 : Nat) (out_2254 : List Int) (v_2257 : Int) (ao_2255 : Option Addr) (cap_2256 : Nat) => [(1, (.func (.func fid_1801) #[] (fcaps_1802).toArray)), (5, (.slice ao_2255 out_2254.length cap_2256)), (8, (.slice ao_1798 l_1797.length cap_1799)), (9, (.int .i64 ((l_1797.length : Nat) : Int))), (10, (.int .i64 v_2257))]) (fun (n_2258 : Nat) (out_2254 : List Int) (v_2257 : Int) (ao_2255 : Option Addr) (cap_2256 : Nat) => [row (.slice ao_2255 out_2254.length cap_2256) 3 1 (out_2254.flatMap e3)]) (fun (n_2258 : Nat) (out_2254 : List Int) (v_2257 : Int) (ao_2255 : Option Addr) (cap_2256 : Nat) => n_2258) ⟨FUEL, ([] : List Int), 0, none, 0⟩ h (.cons rfl (.cons rfl (.cons rfl (.cons rfl (.cons rfl .nil))))) (.cons .here .nil) ?_
    rintro n_2258 out_2254 v_2257 ao_2255 cap_2256 h
    obtain ⟨n_2260, rfl⟩ := m_clock_each_api_Span_L2_fuel h
    rw [m_clock_each_api_Span_L2] at h
    refine WC.seq ?_
    refine WC.region ?_
    refine WL.quiet (d := 11) rfl rfl rfl (q_lss rfl rfl) ?_
    refine WL.nil ?_
    refine WX.then ?_
    refine WC.seq ?_
    refine WC.cond rfl (fun hb_2262 => ?_) (fun hb_2262 => ?_)
    · replace h := ite_t h hb_2262
      refine WC.skip ?_
      refine WX.then ?_
      refine WC.seq ?_
      refine WC.block ?_
      refine WC.seq ?_
      obtain ⟨c_2283, h⟩ := chk_elim h
      refine WC.region ?_
      refine WL.znth (dd := 12) rfl rfl (Z := Z) (Pr := (fun r x => r = e35 x)) elT_23 rfl rfl hs_1800 c_2283 ?_
      rintro A_2289 r_2290 hA_2291 hl_2292 rfl
      refine WL.quiet (d := 13) rfl rfl rfl (q_loadA (cs := [(.int .i64 ((nth l_1797 v_2257).fLo)), (.int .i64 ((nth l_1797 v_2257).fHi))]) aggT_35 rfl rfl (rd_zs hz.pv hA_2291)) ?_
      refine WL.new (dd := 7) rfl rfl rfl (e_alloc (cs := [(.int .i64 0), (.int .i64 0)]) zeroT_35 rfl) ?_
      intro b_2293 _
      refine WL.eff0 rfl rfl (e_store (vs := [(.int .i64 ((nth l_1797 v_2257).fLo)), (.int .i64 ((nth l_1797 v_2257).fHi))]) (ds := [(.int .i64 ((nth l_1797 v_2257).fLo)), (.int .i64 ((nth l_1797 v_2257).fHi))]) sizT_35 rfl rfl rfl rfl (oc_cons rfl (oc_cons rfl oc_nil)) .here (Nat.le_of_ble_eq_true rfl) rfl) ?_
      refine WL.nil ?_
      refine WX.then ?_
      obtain ⟨x_2294, hx_2295, h⟩ := bind_elim h
      obtain ⟨c_2297, h⟩ := chk_elim h
      refine WC.region ?_
      refine WL.quiet (d := 14) rfl rfl rfl (q_move rfl) ?_
      refine WL.quiet (d := 15) rfl rfl rfl (q_move rfl) ?_
      refine WL.quiet (d := 16) rfl rfl rfl (q_loadA (cs := [(.int .i64 ((nth l_1797 v_2257).fLo)), (.int .i64 ((nth l_1797 v_2257).fHi))]) aggT_35 rfl rfl (rd_all .here)) ?_
      refine WL.callD (dd := 17) rfl rfl rfl (run_callv (l := [.tmp 16]) (f := fid_1801) (caps := fcaps_1802) hcf_1804 rfl (.cons rfl .nil)) .nil (fun w hw => hfn_1805 w (hz.now hw) (⟨((nth l_1797 v_2257).fLo), ((nth l_1797 v_2257).fHi)⟩ : Sapi_Span) x_2294  hx_2295) ?_
      refine WL.new (dd := 18) rfl rfl rfl (e_buildSlice (cs := ([x_2294] : List Int).flatMap e3) elT_22 (Eos.parts (l := [.tmp 17]) (.cons rfl .nil) [0]) (fun _ => by kernel_rfl) rfl (by unfold maxLen; omega)) ?_
      intro b_2300 _
      refine WL.eff (d := 19) rfl rfl rfl (e_appendF (enc := e3) (l1 := out_2254) (l2 := ([x_2294] : List Int)) elT_22 rfl rfl (.there (.there .here)) (fun _ => rfl) rfl rfl (news_row .here) (oc_flat e3_oc _) c_2297) ?_
      rintro ⟨ao_2301, cap_2302⟩ _
      refine WL.quiet (d := 5) rfl rfl rfl (q_assign rfl) ?_
      refine WL.nil ?_
      refine WX.blockNormal ?_
      refine WX.then ?_
      refine WC.region ?_
      refine WL.quiet (d := 20) rfl rfl rfl (q_add rfl rfl rfl) ?_
      refine WL.quiet (d := 10) rfl rfl rfl (q_move rfl) ?_
      refine WL.nil ?_
      exact WX.round (G := Nat × List Int × Int × Option Addr × Nat) ⟨n_2260, (out_2254 ++ ([x_2294] : List Int)), (i64 (v_2257 + 1)), ao_2301, cap_2302⟩ h (Nat.lt_succ_self _) (.cons rfl (.cons rfl (.cons rfl (.cons rfl (.cons rfl .nil))))) (.cons .here .nil)
    · replace h := ite_f h hb_2262
      refine WC.exit ?_
      refine WX.thenExit ?_
      refine WX.thenExit ?_
      refine WX.blockHit ?_
      exact WX.mid (G := List Int × Option Addr × Nat) ⟨out_2254, ao_2255, cap_2256⟩ h (.cons rfl .nil) (.cons .here .nil)
  · rintro out_2201 ao_2202 cap_2203 h
    replace h := (hk_2205 out_2201).symm.trans h
    refine WC.seq ?_
    obtain ⟨x_2303, hx_2304, h⟩ := bind_elim h
    refine WC.region ?_
    refine WL.quiet (d := 21) rfl rfl rfl (q_move rfl) ?_
    refine WL.enter0 (dd := 22) rfl rfl rfl (run_call (l := [.tmp 21]) Try.call40 (.cons rfl .nil)) ((.cons .here .nil) : Sel [row (.slice ao_2202 out_2201.length cap_2203) 3 1 (out_2201.flatMap e3)] [row (.slice ao_2202 out_2201.length cap_2203) 3 1 (out_2201.flatMap e3)] []) (fun w hw => by have pz := (hz.call hw ((.cons .here .nil) : Sel [row (.slice ao_2202 out_2201.length cap_2203) 3 1 (out_2201.flatMap e3)] [row (.slice ao_2202 out_2201.length cap_2203) 3 1 (out_2201.flatMap e3)] [])); exact w_slices_Sort (Z := _) (ao := ao_2202) (cap := cap_2203) (l := out_2201) (r := x_2303) w pz  hx_2304 (hw.owns ((.cons .here .nil) : Sel [row (.slice ao_2202 out_2201.length cap_2203) 3 1 (out_2201.flatMap e3)] [row (.slice ao_2202 out_2201.length cap_2203) 3 1 (out_2201.flatMap e3)] []))) ?_
    rintro  hf_2306
    refine WL.repin (i := 5) rfl (u := (.slice ao_2202 x_2303.length cap_2203)) (slen hf_2306.symm) ?_
    refine WL.nil ?_
    refine WX.then ?_
    refine WC.seq ?_
    refine WC.region ?_
    refine WL.quiet (d := 23) rfl rfl rfl (q_move rfl) ?_
    refine WL.quiet (d := 4) rfl rfl rfl (q_assign rfl) ?_
    refine WL.nil ?_
    refine WX.then ?_
    refine WC.ret ?_
    obtain rfl := Option.some.inj h
    refine WX.bpRet Try.results33 (.tmp rfl .nil) (fun w hw => ?_)
    exact ⟨ao_2202, cap_2203, ret1 rfl, trivial, hw.sub (.cons .here .nil)⟩
def m_clock_Meet_2_L2 (c_2315 : List Sapi_Span) (t_2312 : Int) (k_2609 : Int → Option Bool) : Nat → Int → Int → Option Bool
  | 0, _, _ => none
  | n_2649 + 1, n_2646, v_2647 => if decide (v_2647 < ((c_2315.length : Nat) : Int)) then jp1 (fun (n_2666 : Int) => m_clock_Meet_2_L2 c_2315 t_2312 k_2609 n_2649 n_2666 (i64 (v_2647 + 1))) fun k_2667 => chk ((0 : Int) ≤ v_2647 ∧ v_2647 < ((c_2315.length : Nat) : Int)) (if (decide (((nth c_2315 v_2647).fLo) ≤ t_2312)) && (decide (t_2312 ≤ ((nth c_2315 v_2647).fHi))) then k_2667 (i64 (n_2646 + 1)) else k_2667 n_2646) else k_2609 n_2646
theorem m_clock_Meet_2_L2_fuel {n : Nat} {c_2315 : List Sapi_Span} {t_2312 : Int} {k_2609 : Int → Option Bool} {n_2646 : Int} {v_2647 : Int} {r : Bool} (h : m_clock_Meet_2_L2 c_2315 t_2312 k_2609 n n_2646 v_2647 = some r) : ∃ m, n = m + 1 := by
  cases n with
  | zero => cases h
  | succ m => exact ⟨m, rfl⟩

/-- clock.Meet$2 -/
def m_clock_Meet_2 (t_2312 : Int) (c_2315 : List Sapi_Span) (c_2321 : Int) : Option Bool :=
  jp1 (fun (n_2608 : Int) => some (decide (n_2608 ≥ (i64 (((c_2315.length : Nat) : Int) - c_2321))))) fun k_2609 => m_clock_Meet_2_L2 c_2315 t_2312 k_2609 FUEL 0 0

set_option maxRecDepth 20000 in
theorem w_clock_Meet_2 (Z : Zp)  (A_2313 : Addr) (ao_2316 : Option Addr) (cap_2317 : Nat) (A_2319 : Addr) (t_2312 : Int) (c_2315 : List Sapi_Span) (c_2321 : Int) (r : Bool) (w₀ : World) (hz : PZ [] w₀ Z)
    (hs_2318 : ZS Z 2 (fun r x => r = e35 x) ao_2316 cap_2317 c_2315)
    (hA_2314 : ZC Z A_2313 [(.slice ao_2316 c_2315.length cap_2317)])
    (hA_2320 : ZC Z A_2319 [(.int .i64 c_2321)])
    (h : m_clock_Meet_2 t_2312 c_2315 c_2321 = some r) :
    Calls Try.prog 31 #[(.int .i64 t_2312), (.pointer (some A_2313)), (.pointer (some A_2319))] w₀ fun e w' => e = .returned (.bool r) ∧ Hp [] w₀ w' [] := by
  unfold m_clock_Meet_2 at h
  refine Calls.ofWC (vs := [(.int .i64 t_2312), (.pointer (some A_2313)), (.pointer (some A_2319))]) (pre := []) (env := [(0, (.int .i64 t_2312)), (1, (.pointer (some A_2313))), (2, (.pointer (some A_2319)))]) Try.func31 rfl Try.ntmps31 rfl (Hp.nil w₀ _) rfl ?_
  refine WC.seq ?_
  refine WC.region ?_
  refine WL.quiet (d := 4) rfl rfl rfl (q_assign rfl) ?_
  refine WL.nil ?_
  refine WX.then ?_
  refine WC.seq ?_
  refine WC.region ?_
  refine WL.quiet (d := 5) rfl rfl rfl (q_assign rfl) ?_
  refine WL.nil ?_
  refine WX.then ?_
  obtain ⟨k_2609, hk_2610, h⟩ := jp1_elim h
  refine WC.seqMid1 (fun (n_2608 : Int) => (k_2609 n_2608 = some r)) (fun (n_2608 : Int) => [(1, (.pointer (some A_2313))), (2, (.pointer (some A_2319))), (5, (.int .i64 n_2608))]) (fun (n_2608 : Int) => []) ?_ ?_
  · skip
    refine WC.seq ?_
    refine WC.region ?_
    refine WL.quiet (d := 8) rfl rfl rfl (q_load1 oneT_23 rfl (rd_z hz.pv hA_2314 rfl)) ?_
    refine WL.quiet (d := 9) rfl rfl rfl (q_len Try.underlying23 rfl) ?_
    refine WL.quiet (d := 10) rfl rfl rfl (q_move rfl) ?_
    refine WL.nil ?_
    refine WX.then ?_
    refine WC.block ?_
    refine WC.loop3 (fun (n_2648 : Nat) (n_2646 : Int) (v_2647 : Int) => (m_clock_Meet_2_L2 c_2315 t_2312 k_2609 n_2648 n_2646 v_2647 = some r)) (fun (n_2648 : Nat) (n_2646 : Int) (v_2647 : Int) => [(0, (.int .i64 t_2312)), (1, (.pointer (some A_2313))), (2, (.pointer (some A_2319))), (5, (.int .i64 n_2646)), (8, (.slice ao_2316 c_2315.length cap_2317)), (9, (.int .i64 ((c_2315.length : Nat) : Int))), (10, (.int .i64 v_2647))]) (fun (n_2648 : Nat) (n_2646 : Int) (v_2647 : Int) => []) (fun (n_2648 : Nat) (n_2646 : Int) (v_2647 : Int) => n_2648) ⟨FUEL, 0, 0⟩ h (.cons rfl (.cons rfl (.cons rfl (.cons rfl (.cons rfl (.cons rfl (.cons rfl .nil))))))) .nil ?_
    rintro n_2648 n_2646 v_2647 h
    obtain ⟨n_2649, rfl⟩ := m_clock_Meet_2_L2_fuel h
    rw [m_clock_Meet_2_L2] at h
    refine WC.seq ?_
    refine WC.region ?_
    refine WL.quiet (d := 11) rfl rfl rfl (q_lss rfl rfl) ?_
    refine WL.nil ?_
    refine WX.then ?_
    refine WC.seq ?_
    refine WC.cond rfl (fun hb_2651 => ?_) (fun hb_2651 => ?_)
    · replace h := ite_t h hb_2651
      refine WC.skip ?_
      refine WX.then ?_
      obtain ⟨k_2667, hk_2668, h⟩ := jp1_elim h
      refine WC.seqMid1 (fun (n_2666 : Int) => (k_2667 n_2666 = some r)) (fun (n_2666 : Int) => [(0, (.int .i64 t_2312)), (1, (.pointer (some A_2313))), (2, (.pointer (some A_2319))), (5, (.int .i64 n_2666)), (8, (.slice ao_2316 c_2315.length cap_2317)), (9, (.int .i64 ((c_2315.length : Nat) : Int))), (10, (.int .i64 v_2647))]) (fun (n_2666 : Int) => []) ?_ ?_
      · skip
        refine WC.block ?_
        refine WC.seq ?_
        obtain ⟨c_2669, h⟩ := chk_elim h
        refine WC.region ?_
        refine WL.znth (dd := 12) rfl rfl (Z := Z) (Pr := (fun r x => r = e35 x)) elT_23 rfl rfl hs_2318 c_2669 ?_
        rintro A_2675 r_2676 hA_2677 hl_2678 rfl
        refine WL.quiet (d := 13) rfl rfl rfl (q_loadA (cs := [(.int .i64 ((nth c_2315 v_2647).fLo)), (.int .i64 ((nth c_2315 v_2647).fHi))]) aggT_35 rfl rfl (rd_zs hz.pv hA_2677)) ?_
        refine WL.new (dd := 7) rfl rfl rfl (e_alloc (cs := [(.int .i64 0), (.int .i64 0)]) zeroT_35 rfl) ?_
        intro b_2679 _
        refine WL.eff0 rfl rfl (e_store (vs := [(.int .i64 ((nth c_2315 v_2647).fLo)), (.int .i64 ((nth c_2315 v_2647).fHi))]) (ds := [(.int .i64 ((nth c_2315 v_2647).fLo)), (.int .i64 ((nth c_2315 v_2647).fHi))]) sizT_35 rfl rfl rfl rfl (oc_cons rfl (oc_cons rfl oc_nil)) .here (Nat.le_of_ble_eq_true rfl) rfl) ?_
        refine WL.nil ?_
        refine WX.then ?_
        refine WC.seq ?_
        refine WC.region ?_
        refine WL.quiet (d := 14) rfl rfl rfl (q_fieldAddr fo_35_0 rfl rfl) ?_
        refine WL.quiet (d := 15) rfl rfl rfl (q_load1 oneT_3 rfl (rd_stb .here rfl)) ?_
        refine WL.quiet (d := 16) rfl rfl rfl (q_move rfl) ?_
        refine WL.quiet (d := 17) rfl rfl rfl (q_leq rfl rfl) ?_
        refine WL.quiet (d := 18) rfl rfl rfl (q_move rfl) ?_
        refine WL.cut0 True [(0, (.int .i64 t_2312)), (1, (.pointer (some A_2313))), (2, (.pointer (some A_2319))), (5, (.int .i64 n_2646)), (8, (.slice ao_2316 c_2315.length cap_2317)), (9, (.int .i64 ((c_2315.length : Nat) : Int))), (10, (.int .i64 v_2647)), (23, (.bool ((decide (((nth c_2315 v_2647).fLo) ≤ t_2312)) && (decide (t_2312 ≤ ((nth c_2315 v_2647).fHi))))))] [stb b_2679 35 [(.int .i64 ((nth c_2315 v_2647).fLo)), (.int .i64 ((nth c_2315 v_2647).fHi))]] 5 ?_ (fun _ => ?_)
        · rcases Bool.eq_false_or_eq_true (decide (((nth c_2315 v_2647).fLo) ≤ t_2312)) with hb' | hb'
          · have hg_2680 := hb'; clear hb'
            refine WL.pin (i := 18) rfl hg_2680 ?_
            refine WL.quiet (d := 19) rfl rfl rfl (q_move rfl) ?_
            refine WL.quiet (d := 20) rfl rfl rfl (q_fieldAddr fo_35_1 rfl rfl) ?_
            refine WL.quiet (d := 21) rfl rfl rfl (q_load1 oneT_3 rfl (rd_stb .here rfl)) ?_
            refine WL.quiet (d := 22) rfl rfl rfl (q_leq rfl rfl) ?_
            refine WL.quiet (d := 23) rfl rfl rfl (q_pickT rfl rfl) ?_
            exact WL.cutEnd () trivial (.cons rfl (.cons rfl (.cons rfl (.cons rfl (.cons rfl (.cons rfl (.cons rfl (.cons (some_bool (and_r hg_2680)) .nil)))))))) (.cons .here .nil)
          · have hg_2681 := hb'; clear hb'
            refine WL.pin (i := 18) rfl hg_2681 ?_
            refine WL.skip rfl rfl rfl ?_
            refine WL.skip rfl rfl rfl ?_
            refine WL.skip rfl rfl rfl ?_
            refine WL.skip rfl rfl rfl ?_
            refine WL.quiet (d := 23) rfl rfl rfl (q_pickF rfl rfl) ?_
            exact WL.cutEnd () trivial (.cons rfl (.cons rfl (.cons rfl (.cons rfl (.cons rfl (.cons rfl (.cons rfl (.cons (some_bool (and_l hg_2681)) .nil)))))))) (.cons .here .nil)
        · skip
          refine WL.nil ?_
          refine WX.then ?_
          refine WC.cond rfl (fun hb_2682 => ?_) (fun hb_2682 => ?_)
          · replace h := ite_t h hb_2682
            refine WC.region ?_
            refine WL.quiet (d := 24) rfl rfl rfl (q_move rfl) ?_
            refine WL.quiet (d := 25) rfl rfl rfl (q_add rfl rfl rfl) ?_
            refine WL.quiet (d := 5) rfl rfl rfl (q_assign rfl) ?_
            refine WL.nil ?_
            refine WX.blockNormal ?_
            exact WX.mid (G := Int) (i64 (n_2646 + 1)) h (.cons rfl (.cons rfl (.cons rfl (.cons rfl (.cons rfl (.cons rfl (.cons rfl .nil))))))) .nil
          · replace h := ite_f h hb_2682
            refine WC.skip ?_
            refine WX.blockNormal ?_
            exact WX.mid (G := Int) n_2646 h (.cons rfl (.cons rfl (.cons rfl (.cons rfl (.cons rfl (.cons rfl (.cons rfl .nil))))))) .nil
      · rintro n_2666 h
        replace h := (hk_2668 n_2666).symm.trans h
        refine WC.region ?_
        refine WL.quiet (d := 26) rfl rfl rfl (q_add rfl rfl rfl) ?_
        refine WL.quiet (d := 10) rfl rfl rfl (q_move rfl) ?_
        refine WL.nil ?_
        exact WX.round (G := Nat × Int × Int) ⟨n_2649, n_2666, (i64 (v_2647 + 1))⟩ h (Nat.lt_succ_self _) (.cons rfl (.cons rfl (.cons rfl (.cons rfl (.cons rfl (.cons rfl (.cons rfl .nil))))))) .nil
    · replace h := ite_f h hb_2651
      refine WC.exit ?_
      refine WX.thenExit ?_
      refine WX.thenExit ?_
      refine WX.blockHit ?_
      exact WX.mid (G := Int) n_2646 h (.cons rfl (.cons rfl (.cons rfl .nil))) .nil
  · rintro n_2608 h
    replace h := (hk_2610 n_2608).symm.trans h
    refine WC.seq ?_
    refine WC.region ?_
    refine WL.quiet (d := 27) rfl rfl rfl (q_move rfl) ?_
    refine WL.quiet (d := 28) rfl rfl rfl (q_load1 oneT_23 rfl (rd_z hz.pv hA_2314 rfl)) ?_
    refine WL.quiet (d := 29) rfl rfl rfl (q_len Try.underlying23 rfl) ?_
    refine WL.quiet (d := 30) rfl rfl rfl (q_load1 oneT_3 rfl (rd_z hz.pv hA_2320 rfl)) ?_
    refine WL.quiet (d := 31) rfl rfl rfl (q_sub rfl rfl rfl) ?_
    refine WL.quiet (d := 32) rfl rfl rfl (q_geq rfl rfl) ?_
    refine WL.quiet (d := 4) rfl rfl rfl (q_assign rfl) ?_
    refine WL.nil ?_
    refine WX.then ?_
    refine WC.ret ?_
    obtain rfl := Option.some.inj h
    refine WX.bpRet Try.results31 (.tmp rfl .nil) (fun w hw => ?_)
    exact ⟨ret1 rfl, hw.sub .nil⟩
/-- clock.Meet$4 -/
def m_clock_Meet_4 (t_2683 : Int) (f_2688 : Int → Option Bool) : Option Bool :=
  (f_2688 t_2683).bind fun x_2694 => some (!x_2694)

set_option maxRecDepth 20000 in
theorem w_clock_Meet_4 (Z : Zp)  (A_2684 : Addr) (fid_2686 : FuncId) (fcaps_2687 : List Value) (t_2683 : Int) (f_2688 : Int → Option Bool) (r : Bool) (w₀ : World) (hz : PZ [] w₀ Z)
    (hcf_2689 : ∀ args w, (callFunc fid_2686 args).run Try.prog w = .ok (.enter fid_2686 args) w)
    (hfn_2690 : ∀ w : World, PZ [] w Z → ∀ (x0 : Int) (r : Bool), f_2688 x0 = some r → Calls Try.prog fid_2686 (([(.int .i64 x0)] : List Value) ++ fcaps_2687).toArray w fun e w' => e = .returned (.bool r) ∧ Hp [] w w' [])
    (hA_2685 : ZC Z A_2684 [(.func (.func fid_2686) #[] (fcaps_2687).toArray)])
    (h : m_clock_Meet_4 t_2683 f_2688 = some r) :
    Calls Try.prog 35 #[(.int .i64 t_2683), (.pointer (some A_2684))] w₀ fun e w' => e = .returned (.bool r) ∧ Hp [] w₀ w' [] := by
  unfold m_clock_Meet_4 at h
  refine Calls.ofWC (vs := [(.int .i64 t_2683), (.pointer (some A_2684))]) (pre := []) (env := [(0, (.int .i64 t_2683)), (1, (.pointer (some A_2684)))]) Try.func35 rfl Try.ntmps35 rfl (Hp.nil w₀ _) rfl ?_
  refine WC.seq ?_
  refine WC.region ?_
  refine WL.quiet (d := 3) rfl rfl rfl (q_assign rfl) ?_
  refine WL.nil ?_
  refine WX.then ?_
  refine WC.seq ?_
  obtain ⟨x_2694, hx_2695, h⟩ := bind_elim h
  refine WC.region ?_
  refine WL.quiet (d := 4) rfl rfl rfl (q_load1 oneT_57 rfl (rd_z hz.pv hA_2685 rfl)) ?_
  refine WL.quiet (d := 5) rfl rfl rfl (q_move rfl) ?_
  refine WL.callD (dd := 6) rfl rfl rfl (run_callv (l := [.tmp 5]) (f := fid_2686) (caps := fcaps_2687) hcf_2689 rfl (.cons rfl .nil)) .nil (fun w hw => hfn_2690 w (hz.now hw) t_2683 x_2694  hx_2695) ?_
  refine WL.quiet (d := 7) rfl rfl rfl (q_not rfl) ?_
  refine WL.quiet (d := 3) rfl rfl rfl (q_assign rfl) ?_
  refine WL.nil ?_
  refine WX.then ?_
  refine WC.ret ?_
  obtain rfl := Option.some.inj h
  refine WX.bpRet Try.results35 (.tmp rfl .nil) (fun w hw => ?_)
  exact ⟨ret1 rfl, hw.sub .nil⟩
def m_slices_DeleteFunc_int_int_L2 (f_2733 : Int → Option Bool) (k_2981 : (List Int) → Int → Option (List Int)) : Nat → (List Int) → Int → Int → Option (List Int)
  | 0, _, _, _ => none
  | n_3016 + 1, s_3010, i_3013, j_3014 => if decide (j_3014 < ((s_3010.length : Nat) : Int)) then jp2 (fun (s_3026 : List Int) (i_3029 : Int) => m_slices_DeleteFunc_int_int_L2 f_2733 k_2981 n_3016 s_3026 i_3029 (i64 (j_3014 + 1))) fun k_3030 => chk ((0 : Int) ≤ j_3014 ∧ j_3014 < ((s_3010.length : Nat) : Int)) ((f_2733 (nth s_3010 j_3014)).bind fun x_3035 => if !x_3035 then chk ((0 : Int) ≤ i_3013 ∧ i_3013 < ((s_3010.length : Nat) : Int)) (k_3030 (s_3010.set (i_3013 : Int).toNat (nth s_3010 j_3014)) (i64 (i_3013 + 1))) else k_3030 s_3010 i_3013) else k_2981 s_3010 i_3013
theorem m_slices_DeleteFunc_int_int_L2_fuel {n : Nat} {f_2733 : Int → Option Bool} {k_2981 : (List Int) → Int → Option (List Int)} {s_3010 : List Int} {i_3013 : Int} {j_3014 : Int} {r : List Int} (h : m_slices_DeleteFunc_int_int_L2 f_2733 k_2981 n s_3010 i_3013 j_3014 = some r) : ∃ m, n = m + 1 := by
  cases n with
  | zero => cases h
  | succ m => exact ⟨m, rfl⟩

/-- slices.DeleteFunc[[]int,int] -/
def m_slices_DeleteFunc_int_int (s_2728 : List Int) (f_2733 : Int → Option Bool) : Option (List Int) :=
  (m_slices_IndexFunc_int_int s_2728 f_2733).bind fun x_2895 => if decide (x_2895 = (-1)) then some s_2728 else jp2 (fun (s_2977 : List Int) (i_2980 : Int) => chk ((0 : Int) ≤ i_2980 ∧ i_2980 ≤ ((s_2977.length : Nat) : Int)) (chk ((0 : Int) ≤ i_2980 ∧ i_2980 ≤ (((s_2977.take (i_2980 : Int).toNat ++ List.replicate (s_2977.length - (i_2980 : Int).toNat) (0 : Int)).length : Nat) : Int)) (some ((s_2977.take (i_2980 : Int).toNat ++ List.replicate (s_2977.length - (i_2980 : Int).toNat) (0 : Int)).take (i_2980 : Int).toNat)))) fun k_2981 => m_slices_DeleteFunc_int_int_L2 f_2733 k_2981 FUEL s_2728 x_2895 (i64 (x_2895 + 1))

set_option maxRecDepth 20000 in
theorem w_slices_DeleteFunc_int_int (Z : Zp)  (ao_2729 : Option Addr) (cap_2730 : Nat) (fid_2731 : FuncId) (fcaps_2732 : List Value) (s_2728 : List Int) (f_2733 : Int → Option Bool) (r : List Int) (w₀ : World) (hz : PZ (fps [row (.slice ao_2729 s_2728.length cap_2730) 3 1 (s_2728.flatMap e3)]) w₀ Z)
    (hcf_2734 : ∀ args w, (callFunc fid_2731 args).run Try.prog w = .ok (.enter fid_2731 args) w)
    (hfn_2735 : ∀ w : World, PZ [] w Z → ∀ (x0 : Int) (r : Bool), f_2733 x0 = some r → Calls Try.prog fid_2731 (([(.int .i64 x0)] : List Value) ++ fcaps_2732).toArray w fun e w' => e = .returned (.bool r) ∧ Hp [] w w' [])
    (h : m_slices_DeleteFunc_int_int s_2728 f_2733 = some r)
    (hown : Hp (fps [row (.slice ao_2729 s_2728.length cap_2730) 3 1 (s_2728.flatMap e3)]) w₀ w₀ [row (.slice ao_2729 s_2728.length cap_2730) 3 1 (s_2728.flatMap e3)]) :
    Calls Try.prog 32 #[(.slice ao_2729 s_2728.length cap_2730), (.func (.func fid_2731) #[] (fcaps_2732).toArray)] w₀ fun e w' => ∃ ao_2893 : Option Addr, ∃ cap_2894 : Nat, e = .returned (.slice ao_2893 r.length cap_2894) ∧ True ∧ Hp (fps [row (.slice ao_2729 s_2728.length cap_2730) 3 1 (s_2728.flatMap e3)]) w₀ w' [row (.slice ao_2893 r.length cap_2894) 3 1 (r.flatMap e3)] := by
  unfold m_slices_DeleteFunc_int_int at h
  refine Calls.ofWC (vs := [(.slice ao_2729 s_2728.length cap_2730), (.func (.func fid_2731) #[] (fcaps_2732).toArray)]) (pre := [row (.slice ao_2729 s_2728.length cap_2730) 3 1 (s_2728.flatMap e3)]) (env := [(0, (.slice ao_2729 s_2728.length cap_2730)), (1, (.func (.func fid_2731) #[] (fcaps_2732).toArray))]) Try.func32 rfl Try.ntmps32 rfl (hown) rfl ?_
  refine WC.seq ?_
  refine WC.region ?_
  refine WL.quiet (d := 4) rfl rfl rfl (q_assign rfl) ?_
  refine WL.nil ?_
  refine WX.then ?_
  refine WC.seq ?_
  obtain ⟨x_2895, hx_2896, h⟩ := bind_elim h
  refine WC.region ?_
  refine WL.quiet (d := 8) rfl rfl rfl (q_move rfl) ?_
  refine WL.quiet (d := 9) rfl rfl rfl (q_move rfl) ?_
  refine WL.callD (dd := 10) rfl rfl rfl (run_call (l := [.tmp 8, .tmp 9]) Try.call39 (.cons rfl (.cons rfl .nil))) (.nil : Sel [row (.slice ao_2729 s_2728.length cap_2730) 3 1 (s_2728.flatMap e3)] [] [row (.slice ao_2729 s_2728.length cap_2730) 3 1 (s_2728.flatMap e3)]) (fun w hw => by have pz := (hz.call hw (.nil : Sel [row (.slice ao_2729 s_2728.length cap_2730) 3 1 (s_2728.flatMap e3)] [] [row (.slice ao_2729 s_2728.length cap_2730) 3 1 (s_2728.flatMap e3)])).lend hw (.nil : Sel [row (.slice ao_2729 s_2728.length cap_2730) 3 1 (s_2728.flatMap e3)] [] [row (.slice ao_2729 s_2728.length cap_2730) 3 1 (s_2728.flatMap e3)]) (B := [row (.slice ao_2729 s_2728.length cap_2730) 3 1 (s_2728.flatMap e3)]) (fun _ hx' => ((.cons .here .nil) : Sel _ [row (.slice ao_2729 s_2728.length cap_2730) 3 1 (s_2728.flatMap e3)] _).mem hx'); exact w_slices_IndexFunc_int_int (Z := _) (ao_60 := ao_2729) (cap_61 := cap_2730) (fid_63 := fid_2731) (fcaps_64 := fcaps_2732) (s_59 := s_2728) (f_65 := f_2733) (r := x_2895) w pz (ZA.row (hw.lent (.nil : Sel [row (.slice ao_2729 s_2728.length cap_2730) 3 1 (s_2728.flatMap e3)] [] [row (.slice ao_2729 s_2728.length cap_2730) 3 1 (s_2728.flatMap e3)]) (B := [row (.slice ao_2729 s_2728.length cap_2730) 3 1 (s_2728.flatMap e3)]) (fun _ hx' => ((.cons .here .nil) : Sel _ [row (.slice ao_2729 s_2728.length cap_2730) 3 1 (s_2728.flatMap e3)] _).mem hx') (.head _) _) (RR.flat (enc := e3) (fun _ => rfl) _) ⟨w, pz.1⟩) hcf_2734 (fun w' hz' => hfn_2735 w' (hz'.le (Zle.left _ _))) hx_2896) ?_
  refine WL.quiet (d := 5) rfl rfl rfl (q_assign rfl) ?_
  refine WL.nil ?_
  refine WX.then ?_
  refine WC.seq ?_
  refine WC.seq ?_
  refine WC.region ?_
  refine WL.quiet (d := 11) rfl rfl rfl (q_move rfl) ?_
  refine WL.quiet (d := 12) rfl rfl rfl (q_eql rfl rfl) ?_
  refine WL.nil ?_
  refine WX.then ?_
  refine WC.cond rfl (fun hb_2898 => ?_) (fun hb_2898 => ?_)
  · replace h := ite_t h hb_2898
    refine WC.seq ?_
    refine WC.region ?_
    refine WL.quiet (d := 13) rfl rfl rfl (q_move rfl) ?_
    refine WL.quiet (d := 4) rfl rfl rfl (q_assign rfl) ?_
    refine WL.nil ?_
    refine WX.then ?_
    refine WC.ret ?_
    refine WX.thenRet ?_
    obtain rfl := Option.some.inj h
    refine WX.bpRet Try.results32 (.tmp rfl .nil) (fun w hw => ?_)
    exact ⟨ao_2729, cap_2730, ret1 rfl, trivial, hw.sub (.cons .here .nil)⟩
  · replace h := ite_f h hb_2898
    refine WC.skip ?_
    refine WX.then ?_
    obtain ⟨k_2981, hk_2982, h⟩ := jp2_elim h
    refine WC.seqMid4 (fun (s_2977 : List Int) (i_2980 : Int) (ao_2978 : Option Addr) (cap_2979 : Nat) => (k_2981 s_2977 i_2980 = some r)) (fun (s_2977 : List Int) (i_2980 : Int) (ao_2978 : Option Addr) (cap_2979 : Nat) => [(0, (.slice ao_2978 s_2977.length cap_2979)), (5, (.int .i64 i_2980))]) (fun (s_2977 : List Int) (i_2980 : Int) (ao_2978 : Option Addr) (cap_2979 : Nat) => [row (.slice ao_2978 s_2977.length cap_2979) 3 1 (s_2977.flatMap e3)]) ?_ ?_
    · skip
      refine WC.seq ?_
      refine WC.region ?_
      refine WL.quiet (d := 14) rfl rfl rfl (q_move rfl) ?_
      refine WL.quiet (d := 15) rfl rfl rfl (q_add rfl rfl rfl) ?_
      refine WL.quiet (d := 6) rfl rfl rfl (q_assign rfl) ?_
      refine WL.nil ?_
      refine WX.then ?_
      refine WC.block ?_
      refine WC.loop6 (fun (n_3015 : Nat) (s_3010 : List Int) (i_3013 : Int) (j_3014 : Int) (ao_3011 : Option Addr) (cap_3012 : Nat) => (m_slices_DeleteFunc_int_int_L2 f_2733 k_2981 n_3015 s_3010 i_3013 j_3014 = some r)) (fun (n_3015 : Nat) (s_3010 : List Int) (i_3013 : Int) (j_3014 : Int) (ao_3011 : Option Addr) (cap_3012 : Nat) => [(0, (.slice ao_3011 s_3010.length cap_3012)), (1, (.func (.func fid_2731) #[] (fcaps_2732).toArray)), (5, (.int .i64 i_3013)), (6, (.int .i64 j_3014))]) (fun (n_3015 : Nat) (s_3010 : List Int) (i_3013 : Int) (j_3014 : Int) (ao_3011 : Option Addr) (cap_3012 : Nat) => [row (.slice ao_3011 s_3010.length cap_3012) 3 1 (s_3010.flatMap e3)]) (fun (n_3015 : Nat) (s_3010 : List Int) (i_3013 : Int) (j_3014 : Int) (ao_3011 : Option Addr) (cap_3012 : Nat) => n_3015) ⟨FUEL, s_2728, x_2895, (i64 (x_2895 + 1)), ao_2729, cap_2730⟩ h (.cons rfl (.cons rfl (.cons rfl (.cons rfl .nil)))) (.cons .here .nil) ?_
      rintro n_3015 s_3010 i_3013 j_3014 ao_3011 cap_3012 h
      obtain ⟨n_3016, rfl⟩ := m_slices_DeleteFunc_int_int_L2_fuel h
      rw [m_slices_DeleteFunc_int_int_L2] at h
      refine WC.seq ?_
      refine WC.seq ?_
      refine WC.region ?_
      refine WL.quiet (d := 16) rfl rfl rfl (q_move rfl) ?_
      refine WL.quiet (d := 17) rfl rfl rfl (q_move rfl) ?_
      refine WL.quiet (d := 18) rfl rfl rfl (q_len Try.underlying22 rfl) ?_
      refine WL.quiet (d := 19) rfl rfl rfl (q_lss rfl rfl) ?_
      refine WL.nil ?_
      refine WX.then ?_
      refine WC.cond rfl (fun hb_3018 => ?_) (fun hb_3018 => ?_)
      · replace h := ite_t h hb_3018
        refine WC.skip ?_
        refine WX.then ?_
        obtain ⟨k_3030, hk_3031, h⟩ := jp2_elim h
        refine WC.seqMid4 (fun (s_3026 : List Int) (i_3029 : Int) (ao_3027 : Option Addr) (cap_3028 : Nat) => (k_3030 s_3026 i_3029 = some r)) (fun (s_3026 : List Int) (i_3029 : Int) (ao_3027 : Option Addr) (cap_3028 : Nat) => [(0, (.slice ao_3027 s_3026.length cap_3028)), (1, (.func (.func fid_2731) #[] (fcaps_2732).toArray)), (5, (.int .i64 i_3029)), (6, (.int .i64 j_3014))]) (fun (s_3026 : List Int) (i_3029 : Int) (ao_3027 : Option Addr) (cap_3028 : Nat) => [row (.slice ao_3027 s_3026.length cap_3028) 3 1 (s_3026.flatMap e3)]) ?_ ?_
        · skip
          refine WC.block ?_
          refine WC.seq ?_
          obtain ⟨c_3032, h⟩ := chk_elim h
          refine WC.region ?_
          refine WL.quiet (d := 22) rfl rfl rfl (q_move rfl) ?_
          refine WL.quiet (d := 23) rfl rfl rfl (q_move rfl) ?_
          refine WL.know (fun w hw => Hp.expose .here hw (by intro hz'; have := c_3032; rw [hz'] at this; omega)) ?_
          rintro ⟨b_3034, rfl⟩
          refine WL.quiet (d := 24) rfl rfl rfl (q_indexAddr elT_22 rfl rfl c_3032.1 c_3032.2 rowAdd) ?_
          refine WL.quiet (d := 25) rfl rfl rfl (q_load1 oneT_3 rfl (rd_row .here ((flat_rd (enc := e3) (l := s_3010) (i := j_3014) (sz := 1) (fun _ => rfl) c_3032.1 c_3032.2) 0 _ rfl))) ?_
          refine WL.quiet (d := 7) rfl rfl rfl (q_assign rfl) ?_
          refine WL.nil ?_
          refine WX.then ?_
          refine WC.seq ?_
          obtain ⟨x_3035, hx_3036, h⟩ := bind_elim h
          refine WC.region ?_
          refine WL.quiet (d := 26) rfl rfl rfl (q_move rfl) ?_
          refine WL.quiet (d := 27) rfl rfl rfl (q_move rfl) ?_
          refine WL.callD (dd := 28) rfl rfl rfl (run_callv (l := [.tmp 27]) (f := fid_2731) (caps := fcaps_2732) hcf_2734 rfl (.cons rfl .nil)) .nil (fun w hw => hfn_2735 w (hz.now hw) (nth s_3010 j_3014) x_3035  hx_3036) ?_
          refine WL.quiet (d := 29) rfl rfl rfl (q_not rfl) ?_
          refine WL.nil ?_
          refine WX.then ?_
          refine WC.cond rfl (fun hb_3037 => ?_) (fun hb_3037 => ?_)
          · replace h := ite_t h hb_3037
            refine WC.seq ?_
            obtain ⟨c_3038, h⟩ := chk_elim h
            refine WC.region ?_
            refine WL.quiet (d := 30) rfl rfl rfl (q_move rfl) ?_
            refine WL.quiet (d := 31) rfl rfl rfl (q_move rfl) ?_
            refine WL.quiet (d := 32) rfl rfl rfl (q_move rfl) ?_
            refine WL.quiet (d := 33) rfl rfl rfl (q_indexAddr elT_22 rfl rfl c_3038.1 c_3038.2 rowAdd) ?_
            refine WL.eff0 rfl rfl (e_rowStore (vs := [(.int .i64 (nth s_3010 j_3014))]) (ds := (s_3010.set (i_3013 : Int).toNat (nth s_3010 j_3014)).flatMap e3) sizT_3 rfl rfl rfl rfl (oc_cons rfl oc_nil) .here (flat_fit (enc := e3) (sz := 1) (k := 0) (fun _ => rfl) c_3038.1 c_3038.2 (by decide)) (flat_put (enc := e3) (l := s_3010) (sz := 1) (vs := [(.int .i64 (nth s_3010 j_3014))]) (y := (nth s_3010 j_3014)) (k := 0) (fun _ => rfl) c_3038.1 c_3038.2 rfl (Nat.le_of_ble_eq_true rfl))) ?_
            refine WL.relen .here (u := (.slice (some ⟨b_3034, 0, none⟩) ((s_3010.set (i_3013 : Int).toNat (nth s_3010 j_3014)).length) cap_3012)) (slen (List.length_set).symm) ?_
            refine WL.repin (i := 0) rfl (u := (.slice (some ⟨b_3034, 0, none⟩) ((s_3010.set (i_3013 : Int).toNat (nth s_3010 j_3014)).length) cap_3012)) (slen (List.length_set).symm) ?_
            refine WL.nil ?_
            refine WX.then ?_
            refine WC.region ?_
            refine WL.quiet (d := 34) rfl rfl rfl (q_move rfl) ?_
            refine WL.quiet (d := 35) rfl rfl rfl (q_add rfl rfl rfl) ?_
            refine WL.quiet (d := 5) rfl rfl rfl (q_assign rfl) ?_
            refine WL.nil ?_
            refine WX.blockNormal ?_
            exact WX.mid (G := List Int × Int × Option Addr × Nat) ⟨(s_3010.set (i_3013 : Int).toNat (nth s_3010 j_3014)), (i64 (i_3013 + 1)), (some ⟨b_3034, 0, none⟩), cap_3012⟩ h (.cons rfl (.cons rfl (.cons rfl (.cons rfl .nil)))) (.cons .here .nil)
          · replace h := ite_f h hb_3037
            refine WC.skip ?_
            refine WX.blockNormal ?_
            exact WX.mid (G := List Int × Int × Option Addr × Nat) ⟨s_3010, i_3013, (some ⟨b_3034, 0, none⟩), cap_3012⟩ h (.cons rfl (.cons rfl (.cons rfl (.cons rfl .nil)))) (.cons .here .nil)
        · rintro s_3026 i_3029 ao_3027 cap_3028 h
          replace h := (hk_3031 s_3026 i_3029).symm.trans h
          refine WC.region ?_
          refine WL.quiet (d := 20) rfl rfl rfl (q_move rfl) ?_
          refine WL.quiet (d := 21) rfl rfl rfl (q_add rfl rfl rfl) ?_
          refine WL.quiet (d := 6) rfl rfl rfl (q_assign rfl) ?_
          refine WL.nil ?_
          exact WX.round (G := Nat × List Int × Int × Int × Option Addr × Nat) ⟨n_3016, s_3026, i_3029, (i64 (j_3014 + 1)), ao_3027, cap_3028⟩ h (Nat.lt_succ_self _) (.cons rfl (.cons rfl (.cons rfl (.cons rfl .nil)))) (.cons .here .nil)
      · replace h := ite_f h hb_3018
        refine WC.exit ?_
        refine WX.thenExit ?_
        refine WX.thenExit ?_
        refine WX.blockHit ?_
        exact WX.mid (G := List Int × Int × Option Addr × Nat) ⟨s_3010, i_3013, ao_3011, cap_3012⟩ h (.cons rfl (.cons rfl .nil)) (.cons .here .nil)
    · rintro s_2977 i_2980 ao_2978 cap_2979 h
      replace h := (hk_2982 s_2977 i_2980).symm.trans h
      refine WC.seq ?_
      obtain ⟨c_3039, h⟩ := chk_elim h
      refine WC.region ?_
      refine WL.quiet (d := 36) rfl rfl rfl (q_move rfl) ?_
      refine WL.quiet (d := 37) rfl rfl rfl (q_move rfl) ?_
      refine WL.rowLoD (dd := 38) rfl rfl elT_22 rfl rfl .here c_3039 ?_
      intro ao_3043 c_3044 hao_3045
      refine WL.eff0 rfl rfl (e_clearTailD (enc := e3) (z0 := (0 : Int)) (l := s_2977) elT_22 zeroT_3 rfl hao_3045 c_3039 (fun _ => rfl) (by decide) rfl e3_oc .here) ?_
      refine WL.relen .here (u := (.slice ao_2978 ((s_2977.take (i_2980 : Int).toNat ++ List.replicate (s_2977.length - (i_2980 : Int).toNat) (0 : Int)).length) cap_2979)) (slen (take_rep_len c_3039).symm) ?_
      refine WL.repin (i := 0) rfl (u := (.slice ao_2978 ((s_2977.take (i_2980 : Int).toNat ++ List.replicate (s_2977.length - (i_2980 : Int).toNat) (0 : Int)).length) cap_2979)) (slen (take_rep_len c_3039).symm) ?_
      refine WL.nil ?_
      refine WX.then ?_
      refine WC.seq ?_
      obtain ⟨c_3046, h⟩ := chk_elim h
      refine WC.region ?_
      refine WL.quiet (d := 39) rfl rfl rfl (q_move rfl) ?_
      refine WL.quiet (d := 40) rfl rfl rfl (q_move rfl) ?_
      refine WL.rowHiD (dd := 41) (enc := e3) (ls := s_2977.take (i_2980 : Int).toNat ++ List.replicate (s_2977.length - (i_2980 : Int).toNat) (0 : Int)) rfl rfl elT_22 rfl rfl .here (fun _ => rfl) c_3046 ?_
      intro ao_3049 cap_3050
      refine WL.quiet (d := 4) rfl rfl rfl (q_assign rfl) ?_
      refine WL.nil ?_
      refine WX.then ?_
      refine WC.ret ?_
      obtain rfl := Option.some.inj h
      refine WX.bpRet Try.results32 (.tmp rfl .nil) (fun w hw => ?_)
      exact ⟨ao_3049, cap_3050, ret1 rfl, trivial, hw.sub (.cons .here .nil)⟩
/-- clock.Meet$5 -/
def m_clock_Meet_5 (s_3060 : Sapi_Span) : Option Int :=
  some s_3060.fHi

set_option maxRecDepth 20000 in
theorem w_clock_Meet_5 (Z : Zp)   (s_3060 : Sapi_Span) (r : Int) (w₀ : World) (hz : PZ [] w₀ Z)
    (h : m_clock_Meet_5 s_3060 = some r) :
    Calls Try.prog 36 #[(.agg #[(.int .i64 s_3060.fLo), (.int .i64 s_3060.fHi)])] w₀ fun e w' => e = .returned (.int .i64 r) ∧ Hp [] w₀ w' [] := by
  unfold m_clock_Meet_5 at h
  refine Calls.ofWC (vs := [(.agg #[(.int .i64 s_3060.fLo), (.int .i64 s_3060.fHi)])]) (pre := []) (env := [(0, (.agg #[(.int .i64 s_3060.fLo), (.int .i64 s_3060.fHi)]))]) Try.func36 rfl Try.ntmps36 rfl (Hp.nil w₀ _) rfl ?_
  refine WC.seq ?_
  refine WC.region ?_
  refine WL.new (dd := 1) rfl rfl rfl (e_box (cs := [(.int .i64 s_3060.fLo), (.int .i64 s_3060.fHi)]) rfl rfl) ?_
  intro b_3065 _
  refine WL.quiet (d := 2) rfl rfl rfl (q_assign rfl) ?_
  refine WL.nil ?_
  refine WX.then ?_
  refine WC.seq ?_
  refine WC.region ?_
  refine WL.quiet (d := 3) rfl rfl rfl (q_fieldAddr fo_35_1 rfl rfl) ?_
  refine WL.quiet (d := 4) rfl rfl rfl (q_load1 oneT_3 rfl (rd_stb .here rfl)) ?_
  refine WL.quiet (d := 2) rfl rfl rfl (q_assign rfl) ?_
  refine WL.nil ?_
  refine WX.then ?_
  refine WC.ret ?_
  obtain rfl := Option.some.inj h
  refine WX.bpRet Try.results36 (.tmp rfl .nil) (fun w hw => ?_)
  exact ⟨ret1 rfl, hw.sub .nil⟩
/-- clock.Meet$6 -/
def m_clock_Meet_6 (t_3071 : Int) (f_3076 : Int → Option Bool) : Option Bool :=
  (f_3076 t_3071).bind fun x_3082 => some (!x_3082)

set_option maxRecDepth 20000 in
theorem w_clock_Meet_6 (Z : Zp)  (A_3072 : Addr) (fid_3074 : FuncId) (fcaps_3075 : List Value) (t_3071 : Int) (f_3076 : Int → Option Bool) (r : Bool) (w₀ : World) (hz : PZ [] w₀ Z)
    (hcf_3077 : ∀ args w, (callFunc fid_3074 args).run Try.prog w = .ok (.enter fid_3074 args) w)
    (hfn_3078 : ∀ w : World, PZ [] w Z → ∀ (x0 : Int) (r : Bool), f_3076 x0 = some r → Calls Try.prog fid_3074 (([(.int .i64 x0)] : List Value) ++ fcaps_3075).toArray w fun e w' => e = .returned (.bool r) ∧ Hp [] w w' [])
    (hA_3073 : ZC Z A_3072 [(.func (.func fid_3074) #[] (fcaps_3075).toArray)])
    (h : m_clock_Meet_6 t_3071 f_3076 = some r) :
    Calls Try.prog 37 #[(.int .i64 t_3071), (.pointer (some A_3072))] w₀ fun e w' => e = .returned (.bool r) ∧ Hp [] w₀ w' [] := by
  unfold m_clock_Meet_6 at h
  refine Calls.ofWC (vs := [(.int .i64 t_3071), (.pointer (some A_3072))]) (pre := []) (env := [(0, (.int .i64 t_3071)), (1, (.pointer (some A_3072)))]) Try.func37 rfl Try.ntmps37 rfl (Hp.nil w₀ _) rfl ?_
  refine WC.seq ?_
  refine WC.region ?_
  refine WL.quiet (d := 3) rfl rfl rfl (q_assign rfl) ?_
  refine WL.nil ?_
  refine WX.then ?_
  refine WC.seq ?_
  obtain ⟨x_3082, hx_3083, h⟩ := bind_elim h
  refine WC.region ?_
  refine WL.quiet (d := 4) rfl rfl rfl (q_load1 oneT_57 rfl (rd_z hz.pv hA_3073 rfl)) ?_
  refine WL.quiet (d := 5) rfl rfl rfl (q_move rfl) ?_
  refine WL.callD (dd := 6) rfl rfl rfl (run_callv (l := [.tmp 5]) (f := fid_3074) (caps := fcaps_3075) hcf_3077 rfl (.cons rfl .nil)) .nil (fun w hw => hfn_3078 w (hz.now hw) t_3071 x_3082  hx_3083) ?_
  refine WL.quiet (d := 7) rfl rfl rfl (q_not rfl) ?_
  refine WL.quiet (d := 3) rfl rfl rfl (q_assign rfl) ?_
  refine WL.nil ?_
  refine WX.then ?_
  refine WC.ret ?_
  obtain rfl := Option.some.inj h
  refine WX.bpRet Try.results37 (.tmp rfl .nil) (fun w hw => ?_)
  exact ⟨ret1 rfl, hw.sub .nil⟩
/-- clock.Meet -/
def m_clock_Meet (l_1422 : List Sapi_Span) (f_1426 : Int) : Option (Sapi_Span × Int) :=
  (m_clock_fits ((l_1422.length : Nat) : Int) f_1426).bind fun x_3122 => (if !x_3122 then some true else (m_slices_ContainsFunc_api_Span_api_Span l_1422 (fun (y0 : Sapi_Span) => m_clock_Meet_1 y0)).bind fun x_3124 => some x_3124).bind fun b_3126 => if b_3126 then some ((⟨0, 0⟩ : Sapi_Span), 2) else (m_clock_each_api_Span l_1422 (fun (y0 : Sapi_Span) => m_clock_Meet_3 y0)).bind fun x_3135 => (m_slices_DeleteFunc_int_int x_3135 (fun (y0 : Int) => m_clock_Meet_4 y0 (fun (y0 : Int) => m_clock_Meet_2 y0 l_1422 f_1426))).bind fun x_3140 => (m_clock_each_api_Span l_1422 (fun (y0 : Sapi_Span) => m_clock_Meet_5 y0)).bind fun x_3149 => (m_slices_DeleteFunc_int_int x_3149 (fun (y0 : Int) => m_clock_Meet_6 y0 (fun (y0 : Int) => m_clock_Meet_2 y0 l_1422 f_1426))).bind fun x_3154 => if decide (((x_3140.length : Nat) : Int) = 0) then some ((⟨0, 0⟩ : Sapi_Span), 6) else chk ((0 : Int) ≤ 0 ∧ 0 < ((x_3140.length : Nat) : Int)) (chk ((0 : Int) ≤ (i64 (((x_3154.length : Nat) : Int) - 1)) ∧ (i64 (((x_3154.length : Nat) : Int) - 1)) < ((x_3154.length : Nat) : Int)) (some ((⟨(nth x_3140 0), (nth x_3154 (i64 (((x_3154.length : Nat) : Int) - 1)))⟩ : Sapi_Span), 0)))

set_option maxRecDepth 20000 in
theorem w_clock_Meet (Z : Zp)  (ao_1423 : Option Addr) (cap_1424 : Nat) (l_1422 : List Sapi_Span) (f_1426 : Int) (r : Sapi_Span × Int) (w₀ : World) (hz : PZ [] w₀ Z)
    (hs_1425 : ZS Z 2 (fun r x => r = e35 x) ao_1423 cap_1424 l_1422)
    (h : m_clock_Meet l_1422 f_1426 = some r) :
    Calls Try.prog 15 #[(.slice ao_1423 l_1422.length cap_1424), (.int .i64 f_1426)] w₀ fun e w' => e = .returned (.tuple #[(.agg #[(.int .i64 r.1.fLo), (.int .i64 r.1.fHi)]), (.int .i64 r.2)]) ∧ Hp [] w₀ w' [] := by
  unfold m_clock_Meet at h
  refine Calls.ofWC (vs := [(.slice ao_1423 l_1422.length cap_1424), (.int .i64 f_1426)]) (pre := []) (env := [(0, (.slice ao_1423 l_1422.length cap_1424)), (1, (.int .i64 f_1426))]) Try.func15 rfl Try.ntmps15 rfl (Hp.nil w₀ _) rfl ?_
  refine WC.seq ?_
  refine WC.region ?_
  refine WL.new (dd := 2) rfl rfl rfl (e_box (cs := [(.slice ao_1423 l_1422.length cap_1424)]) rfl rfl) ?_
  intro b_3108 _
  refine WL.new (dd := 3) rfl rfl rfl (e_box (cs := [(.int .i64 f_1426)]) rfl rfl) ?_
  intro b_3109 _
  refine WL.new (dd := 4) rfl rfl rfl (e_alloc (cs := [(.int .i64 0), (.int .i64 0)]) zeroT_35 rfl) ?_
  intro b_3110 _
  refine WL.quiet (d := 5) rfl rfl rfl (q_assign rfl) ?_
  refine WL.nil ?_
  refine WX.then ?_
  refine WC.seq ?_
  refine WC.seq ?_
  obtain ⟨x_3122, hx_3123, h⟩ := bind_elim h
  obtain ⟨b_3126, hb_3127, h⟩ := bind_elim h
  refine WC.region ?_
  refine WL.quiet (d := 9) rfl rfl rfl (q_load1 oneT_23 rfl (rd_stb (.there (.there .here)) rfl)) ?_
  refine WL.quiet (d := 10) rfl rfl rfl (q_len Try.underlying23 rfl) ?_
  refine WL.quiet (d := 11) rfl rfl rfl (q_load1 oneT_3 rfl (rd_stb (.there .here) rfl)) ?_
  refine WL.callD (dd := 12) rfl rfl rfl (run_call (l := [.tmp 10, .tmp 11]) Try.call20 (.cons rfl (.cons rfl .nil))) (.nil : Sel [stb b_3110 35 [(.int .i64 0), (.int .i64 0)], stb b_3109 3 [(.int .i64 f_1426)], stb b_3108 23 [(.slice ao_1423 l_1422.length cap_1424)]] [] [stb b_3110 35 [(.int .i64 0), (.int .i64 0)], stb b_3109 3 [(.int .i64 f_1426)], stb b_3108 23 [(.slice ao_1423 l_1422.length cap_1424)]]) (fun w hw => by have pz := (hz.call hw (.nil : Sel [stb b_3110 35 [(.int .i64 0), (.int .i64 0)], stb b_3109 3 [(.int .i64 f_1426)], stb b_3108 23 [(.slice ao_1423 l_1422.length cap_1424)]] [] [stb b_3110 35 [(.int .i64 0), (.int .i64 0)], stb b_3109 3 [(.int .i64 f_1426)], stb b_3108 23 [(.slice ao_1423 l_1422.length cap_1424)]])); exact w_clock_fits (Z := _)  (n_21 := ((l_1422.length : Nat) : Int)) (f_22 := f_1426) (r := x_3122) w pz  hx_3123) ?_
  refine WL.quiet (d := 13) rfl rfl rfl (q_not rfl) ?_
  refine WL.quiet (d := 14) rfl rfl rfl (q_move rfl) ?_
  refine WL.cut0 True [(2, (.pointer (some ⟨b_3108, 0, none⟩))), (3, (.pointer (some ⟨b_3109, 0, none⟩))), (4, (.pointer (some ⟨b_3110, 0, none⟩))), (17, (.bool b_3126))] [stb b_3110 35 [(.int .i64 0), (.int .i64 0)], stb b_3109 3 [(.int .i64 f_1426)], stb b_3108 23 [(.slice ao_1423 l_1422.length cap_1424)]] 3 ?_ (fun _ => ?_)
  · rcases Bool.eq_false_or_eq_true (!x_3122) with hb' | hb'
    · have hg_3128 := hb'; clear hb'
      have hq_3129 := ite_t hb_3127 hg_3128
      replace hq_3129 := Option.some.inj hq_3129
      refine WL.pin (i := 14) rfl hg_3128 ?_
      refine WL.skip rfl rfl rfl ?_
      refine WL.skip rfl rfl rfl ?_
      refine WL.quiet (d := 17) rfl rfl rfl (q_pickT rfl rfl) ?_
      exact WL.cutEnd () trivial (.cons rfl (.cons rfl (.cons rfl (.cons (some_bool hq_3129) .nil)))) (.cons .here (.cons .here (.cons .here .nil)))
    · have hg_3130 := hb'; clear hb'
      have hq_3131 := ite_f hb_3127 hg_3130
      obtain ⟨x_3124, hx_3125, hq_3131⟩ := bind_elim hq_3131
      replace hq_3131 := Option.some.inj hq_3131
      refine WL.pin (i := 14) rfl hg_3130 ?_
      refine WL.quiet (d := 15) rfl rfl rfl (q_load1 oneT_23 rfl (rd_stb (.there (.there .here)) rfl)) ?_
      refine WL.callD (dd := 16) rfl rfl rfl (run_call (l := [.tmp 15, .func 30]) Try.call29 (.cons rfl (.cons rfl .nil))) (.nil : Sel [stb b_3110 35 [(.int .i64 0), (.int .i64 0)], stb b_3109 3 [(.int .i64 f_1426)], stb b_3108 23 [(.slice ao_1423 l_1422.length cap_1424)]] [] [stb b_3110 35 [(.int .i64 0), (.int .i64 0)], stb b_3109 3 [(.int .i64 f_1426)], stb b_3108 23 [(.slice ao_1423 l_1422.length cap_1424)]]) (fun w hw => by have pz := (hz.call hw (.nil : Sel [stb b_3110 35 [(.int .i64 0), (.int .i64 0)], stb b_3109 3 [(.int .i64 f_1426)], stb b_3108 23 [(.slice ao_1423 l_1422.length cap_1424)]] [] [stb b_3110 35 [(.int .i64 0), (.int .i64 0)], stb b_3109 3 [(.int .i64 f_1426)], stb b_3108 23 [(.slice ao_1423 l_1422.length cap_1424)]])); exact w_slices_ContainsFunc_api_Span_api_Span (Z := _) (ao_1466 := ao_1423) (cap_1467 := cap_1424) (fid_1469 := 30) (fcaps_1470 := []) (s_1465 := l_1422) (f_1471 := (fun (y0 : Sapi_Span) => m_clock_Meet_1 y0)) (r := x_3124) w pz hs_1425 Try.call30 (fun w' hz' y0  r  hr => w_clock_Meet_1 (Z := _)  (s_1435 := y0) (r := r) w' hz'  hr) hx_3125) ?_
      refine WL.quiet (d := 17) rfl rfl rfl (q_pickF rfl rfl) ?_
      exact WL.cutEnd () trivial (.cons rfl (.cons rfl (.cons rfl (.cons (some_bool hq_3131) .nil)))) (.cons .here (.cons .here (.cons .here .nil)))
  · skip
    refine WL.nil ?_
    refine WX.then ?_
    refine WC.cond rfl (fun hb_3132 => ?_) (fun hb_3132 => ?_)
    · replace h := ite_t h hb_3132
      refine WC.seq ?_
      refine WC.region ?_
      refine WL.quiet (d := 18) rfl rfl rfl (q_build (v := (.agg #[(.int .i64 0), (.int .i64 0)])) (Eos.parts (l := []) .nil []) (fun _ => by kernel_rfl)) ?_
      refine WL.eff0 rfl rfl (e_store (vs := [(.int .i64 0), (.int .i64 0)]) (ds := [(.int .i64 0), (.int .i64 0)]) sizT_35 rfl rfl rfl rfl (oc_cons rfl (oc_cons rfl oc_nil)) .here (Nat.le_of_ble_eq_true rfl) rfl) ?_
      refine WL.quiet (d := 5) rfl rfl rfl (q_assign rfl) ?_
      refine WL.nil ?_
      refine WX.then ?_
      refine WC.ret ?_
      refine WX.thenRet ?_
      obtain rfl := Option.some.inj h
      refine WX.bpRet Try.results15 (.agg rfl aggT_35 rfl (rd_all .here) (.tmp rfl .nil)) (fun w hw => ?_)
      exact ⟨ret2 rfl rfl, hw.sub .nil⟩
    · replace h := ite_f h hb_3132
      refine WC.skip ?_
      refine WX.then ?_
      refine WC.seq ?_
      refine WC.region ?_
      refine WL.quiet (d := 19) rfl rfl rfl (q_makeFunc (Eos.caps (l := [.tmp 2, .tmp 3]) (.cons rfl (.cons rfl .nil)))) ?_
      refine WL.new (dd := 6) rfl rfl rfl (e_alloc (cs := [.nilFunc]) zeroT_57 rfl) ?_
      intro b_3134 _
      refine WL.eff0 rfl rfl (e_store (vs := [(.func (.func 31) #[] #[(.pointer (some ⟨b_3108, 0, none⟩)), (.pointer (some ⟨b_3109, 0, none⟩))])]) (ds := [(.func (.func 31) #[] #[(.pointer (some ⟨b_3108, 0, none⟩)), (.pointer (some ⟨b_3109, 0, none⟩))])]) sizT_57 rfl rfl rfl rfl (oc_cons rfl oc_nil) .here (Nat.le_of_ble_eq_true rfl) rfl) ?_
      refine WL.nil ?_
      refine WX.then ?_
      refine WC.seq ?_
      obtain ⟨x_3135, hx_3136, h⟩ := bind_elim h
      obtain ⟨x_3140, hx_3141, h⟩ := bind_elim h
      refine WC.region ?_
      refine WL.quiet (d := 20) rfl rfl rfl (q_load1 oneT_23 rfl (rd_stb (.there (.there (.there .here))) rfl)) ?_
      refine WL.enter2 (dd := 21) rfl rfl rfl (run_call (l := [.tmp 20, .func 34]) Try.call33 (.cons rfl (.cons rfl .nil))) (.nil : Sel [stb b_3134 57 [(.func (.func 31) #[] #[(.pointer (some ⟨b_3108, 0, none⟩)), (.pointer (some ⟨b_3109, 0, none⟩))])], stb b_3110 35 [(.int .i64 0), (.int .i64 0)], stb b_3109 3 [(.int .i64 f_1426)], stb b_3108 23 [(.slice ao_1423 l_1422.length cap_1424)]] [] [stb b_3134 57 [(.func (.func 31) #[] #[(.pointer (some ⟨b_3108, 0, none⟩)), (.pointer (some ⟨b_3109, 0, none⟩))])], stb b_3110 35 [(.int .i64 0), (.int .i64 0)], stb b_3109 3 [(.int .i64 f_1426)], stb b_3108 23 [(.slice ao_1423 l_1422.length cap_1424)]]) (fun w hw => by have pz := (hz.call hw (.nil : Sel [stb b_3134 57 [(.func (.func 31) #[] #[(.pointer (some ⟨b_3108, 0, none⟩)), (.pointer (some ⟨b_3109, 0, none⟩))])], stb b_3110 35 [(.int .i64 0), (.int .i64 0)], stb b_3109 3 [(.int .i64 f_1426)], stb b_3108 23 [(.slice ao_1423 l_1422.length cap_1424)]] [] [stb b_3134 57 [(.func (.func 31) #[] #[(.pointer (some ⟨b_3108, 0, none⟩)), (.pointer (some ⟨b_3109, 0, none⟩))])], stb b_3110 35 [(.int .i64 0), (.int .i64 0)], stb b_3109 3 [(.int .i64 f_1426)], stb b_3108 23 [(.slice ao_1423 l_1422.length cap_1424)]])); exact w_clock_each_api_Span (Z := _) (ao_1798 := ao_1423) (cap_1799 := cap_1424) (fid_1801 := 34) (fcaps_1802 := []) (l_1797 := l_1422) (f_1803 := (fun (y0 : Sapi_Span) => m_clock_Meet_3 y0)) (r := x_3135) w pz hs_1425 Try.call34 (fun w' hz' y0  r  hr => w_clock_Meet_3 (Z := _)  (s_1791 := y0) (r := r) w' hz'  hr) hx_3136) ?_
      rintro ao_3144 cap_3145 _
      refine WL.quiet (d := 22) rfl rfl rfl (q_makeFunc (Eos.caps (l := [.tmp 6]) (.cons rfl .nil))) ?_
      refine WL.enter2 (dd := 23) rfl rfl rfl (run_call (l := [.tmp 21, .tmp 22]) Try.call32 (.cons rfl (.cons rfl .nil))) ((.cons .here .nil) : Sel [row (.slice ao_3144 x_3135.length cap_3145) 3 1 (x_3135.flatMap e3), stb b_3134 57 [(.func (.func 31) #[] #[(.pointer (some ⟨b_3108, 0, none⟩)), (.pointer (some ⟨b_3109, 0, none⟩))])], stb b_3110 35 [(.int .i64 0), (.int .i64 0)], stb b_3109 3 [(.int .i64 f_1426)], stb b_3108 23 [(.slice ao_1423 l_1422.length cap_1424)]] [row (.slice ao_3144 x_3135.length cap_3145) 3 1 (x_3135.flatMap e3)] [stb b_3134 57 [(.func (.func 31) #[] #[(.pointer (some ⟨b_3108, 0, none⟩)), (.pointer (some ⟨b_3109, 0, none⟩))])], stb b_3110 35 [(.int .i64 0), (.int .i64 0)], stb b_3109 3 [(.int .i64 f_1426)], stb b_3108 23 [(.slice ao_1423 l_1422.length cap_1424)]]) (fun w hw => by have pz := (hz.call hw ((.cons .here .nil) : Sel [row (.slice ao_3144 x_3135.length cap_3145) 3 1 (x_3135.flatMap e3), stb b_3134 57 [(.func (.func 31) #[] #[(.pointer (some ⟨b_3108, 0, none⟩)), (.pointer (some ⟨b_3109, 0, none⟩))])], stb b_3110 35 [(.int .i64 0), (.int .i64 0)], stb b_3109 3 [(.int .i64 f_1426)], stb b_3108 23 [(.slice ao_1423 l_1422.length cap_1424)]] [row (.slice ao_3144 x_3135.length cap_3145) 3 1 (x_3135.flatMap e3)] [stb b_3134 57 [(.func (.func 31) #[] #[(.pointer (some ⟨b_3108, 0, none⟩)), (.pointer (some ⟨b_3109, 0, none⟩))])], stb b_3110 35 [(.int .i64 0), (.int .i64 0)], stb b_3109 3 [(.int .i64 f_1426)], stb b_3108 23 [(.slice ao_1423 l_1422.length cap_1424)]])).lend hw ((.cons .here .nil) : Sel [row (.slice ao_3144 x_3135.length cap_3145) 3 1 (x_3135.flatMap e3), stb b_3134 57 [(.func (.func 31) #[] #[(.pointer (some ⟨b_3108, 0, none⟩)), (.pointer (some ⟨b_3109, 0, none⟩))])], stb b_3110 35 [(.int .i64 0), (.int .i64 0)], stb b_3109 3 [(.int .i64 f_1426)], stb b_3108 23 [(.slice ao_1423 l_1422.length cap_1424)]] [row (.slice ao_3144 x_3135.length cap_3145) 3 1 (x_3135.flatMap e3)] [stb b_3134 57 [(.func (.func 31) #[] #[(.pointer (some ⟨b_3108, 0, none⟩)), (.pointer (some ⟨b_3109, 0, none⟩))])], stb b_3110 35 [(.int .i64 0), (.int .i64 0)], stb b_3109 3 [(.int .i64 f_1426)], stb b_3108 23 [(.slice ao_1423 l_1422.length cap_1424)]]) (B := [stb b_3134 57 [(.func (.func 31) #[] #[(.pointer (some ⟨b_3108, 0, none⟩)), (.pointer (some ⟨b_3109, 0, none⟩))])], stb b_3108 23 [(.slice ao_1423 l_1422.length cap_1424)], stb b_3109 3 [(.int .i64 f_1426)]]) (fun _ hx' => ((.cons .here (.cons (.there (.there .here)) (.cons (.there .here) .nil))) : Sel _ [stb b_3134 57 [(.func (.func 31) #[] #[(.pointer (some ⟨b_3108, 0, none⟩)), (.pointer (some ⟨b_3109, 0, none⟩))])], stb b_3108 23 [(.slice ao_1423 l_1422.length cap_1424)], stb b_3109 3 [(.int .i64 f_1426)]] _).mem hx'); exact w_slices_DeleteFunc_int_int (Z := _) (ao_2729 := ao_3144) (cap_2730 := cap_3145) (fid_2731 := 35) (fcaps_2732 := [(.pointer (some ⟨b_3134, 0, none⟩))]) (s_2728 := x_3135) (f_2733 := (fun (y0 : Int) => m_clock_Meet_4 y0 (fun (y0 : Int) => m_clock_Meet_2 y0 l_1422 f_1426))) (r := x_3140) w pz Try.call35 (fun w' hz' y0  r  hr => w_clock_Meet_4 (Z := _) (A_2684 := ⟨b_3134, 0, none⟩) (fid_2686 := 31) (fcaps_2687 := [(.pointer (some ⟨b_3108, 0, none⟩)), (.pointer (some ⟨b_3109, 0, none⟩))]) (t_2683 := y0) (f_2688 := (fun (y0 : Int) => m_clock_Meet_2 y0 l_1422 f_1426)) (r := r) w' hz' Try.call31 (fun w' hz' y0  r  hr => w_clock_Meet_2 (Z := _) (A_2313 := ⟨b_3108, 0, none⟩) (ao_2316 := ao_1423) (cap_2317 := cap_1424) (A_2319 := ⟨b_3109, 0, none⟩) (t_2312 := y0) (c_2315 := l_1422) (c_2321 := f_1426) (r := r) w' hz' (hs_1425.mono (Zle.left _ _)) ((hw.lent ((.cons .here .nil) : Sel [row (.slice ao_3144 x_3135.length cap_3145) 3 1 (x_3135.flatMap e3), stb b_3134 57 [(.func (.func 31) #[] #[(.pointer (some ⟨b_3108, 0, none⟩)), (.pointer (some ⟨b_3109, 0, none⟩))])], stb b_3110 35 [(.int .i64 0), (.int .i64 0)], stb b_3109 3 [(.int .i64 f_1426)], stb b_3108 23 [(.slice ao_1423 l_1422.length cap_1424)]] [row (.slice ao_3144 x_3135.length cap_3145) 3 1 (x_3135.flatMap e3)] [stb b_3134 57 [(.func (.func 31) #[] #[(.pointer (some ⟨b_3108, 0, none⟩)), (.pointer (some ⟨b_3109, 0, none⟩))])], stb b_3110 35 [(.int .i64 0), (.int .i64 0)], stb b_3109 3 [(.int .i64 f_1426)], stb b_3108 23 [(.slice ao_1423 l_1422.length cap_1424)]]) (B := [stb b_3134 57 [(.func (.func 31) #[] #[(.pointer (some ⟨b_3108, 0, none⟩)), (.pointer (some ⟨b_3109, 0, none⟩))])], stb b_3108 23 [(.slice ao_1423 l_1422.length cap_1424)], stb b_3109 3 [(.int .i64 f_1426)]]) (fun _ hx' => ((.cons .here (.cons (.there (.there .here)) (.cons (.there .here) .nil))) : Sel _ [stb b_3134 57 [(.func (.func 31) #[] #[(.pointer (some ⟨b_3108, 0, none⟩)), (.pointer (some ⟨b_3109, 0, none⟩))])], stb b_3108 23 [(.slice ao_1423 l_1422.length cap_1424)], stb b_3109 3 [(.int .i64 f_1426)]] _).mem hx') (.tail _ (.head _)) _).stb) ((hw.lent ((.cons .here .nil) : Sel [row (.slice ao_3144 x_3135.length cap_3145) 3 1 (x_3135.flatMap e3), stb b_3134 57 [(.func (.func 31) #[] #[(.pointer (some ⟨b_3108, 0, none⟩)), (.pointer (some ⟨b_3109, 0, none⟩))])], stb b_3110 35 [(.int .i64 0), (.int .i64 0)], stb b_3109 3 [(.int .i64 f_1426)], stb b_3108 23 [(.slice ao_1423 l_1422.length cap_1424)]] [row (.slice ao_3144 x_3135.length cap_3145) 3 1 (x_3135.flatMap e3)] [stb b_3134 57 [(.func (.func 31) #[] #[(.pointer (some ⟨b_3108, 0, none⟩)), (.pointer (some ⟨b_3109, 0, none⟩))])], stb b_3110 35 [(.int .i64 0), (.int .i64 0)], stb b_3109 3 [(.int .i64 f_1426)], stb b_3108 23 [(.slice ao_1423 l_1422.length cap_1424)]]) (B := [stb b_3134 57 [(.func (.func 31) #[] #[(.pointer (some ⟨b_3108, 0, none⟩)), (.pointer (some ⟨b_3109, 0, none⟩))])], stb b_3108 23 [(.slice ao_1423 l_1422.length cap_1424)], stb b_3109 3 [(.int .i64 f_1426)]]) (fun _ hx' => ((.cons .here (.cons (.there (.there .here)) (.cons (.there .here) .nil))) : Sel _ [stb b_3134 57 [(.func (.func 31) #[] #[(.pointer (some ⟨b_3108, 0, none⟩)), (.pointer (some ⟨b_3109, 0, none⟩))])], stb b_3108 23 [(.slice ao_1423 l_1422.length cap_1424)], stb b_3109 3 [(.int .i64 f_1426)]] _).mem hx') (.tail _ (.tail _ (.head _))) _).stb) hr) ((hw.lent ((.cons .here .nil) : Sel [row (.slice ao_3144 x_3135.length cap_3145) 3 1 (x_3135.flatMap e3), stb b_3134 57 [(.func (.func 31) #[] #[(.pointer (some ⟨b_3108, 0, none⟩)), (.pointer (some ⟨b_3109, 0, none⟩))])], stb b_3110 35 [(.int .i64 0), (.int .i64 0)], stb b_3109 3 [(.int .i64 f_1426)], stb b_3108 23 [(.slice ao_1423 l_1422.length cap_1424)]] [row (.slice ao_3144 x_3135.length cap_3145) 3 1 (x_3135.flatMap e3)] [stb b_3134 57 [(.func (.func 31) #[] #[(.pointer (some ⟨b_3108, 0, none⟩)), (.pointer (some ⟨b_3109, 0, none⟩))])], stb b_3110 35 [(.int .i64 0), (.int .i64 0)], stb b_3109 3 [(.int .i64 f_1426)], stb b_3108 23 [(.slice ao_1423 l_1422.length cap_1424)]]) (B := [stb b_3134 57 [(.func (.func 31) #[] #[(.pointer (some ⟨b_3108, 0, none⟩)), (.pointer (some ⟨b_3109, 0, none⟩))])], stb b_3108 23 [(.slice ao_1423 l_1422.length cap_1424)], stb b_3109 3 [(.int .i64 f_1426)]]) (fun _ hx' => ((.cons .here (.cons (.there (.there .here)) (.cons (.there .here) .nil))) : Sel _ [stb b_3134 57 [(.func (.func 31) #[] #[(.pointer (some ⟨b_3108, 0, none⟩)), (.pointer (some ⟨b_3109, 0, none⟩))])], stb b_3108 23 [(.slice ao_1423 l_1422.length cap_1424)], stb b_3109 3 [(.int .i64 f_1426)]] _).mem hx') (.head _) _).stb) hr) hx_3141 (hw.owns ((.cons .here .nil) : Sel [row (.slice ao_3144 x_3135.length cap_3145) 3 1 (x_3135.flatMap e3), stb b_3134 57 [(.func (.func 31) #[] #[(.pointer (some ⟨b_3108, 0, none⟩)), (.pointer (some ⟨b_3109, 0, none⟩))])], stb b_3110 35 [(.int .i64 0), (.int .i64 0)], stb b_3109 3 [(.int .i64 f_1426)], stb b_3108 23 [(.slice ao_1423 l_1422.length cap_1424)]] [row (.slice ao_3144 x_3135.length cap_3145) 3 1 (x_3135.flatMap e3)] [stb b_3134 57 [(.func (.func 31) #[] #[(.pointer (some ⟨b_3108, 0, none⟩)), (.pointer (some ⟨b_3109, 0, none⟩))])], stb b_3110 35 [(.int .i64 0), (.int .i64 0)], stb b_3109 3 [(.int .i64 f_1426)], stb b_3108 23 [(.slice ao_1423 l_1422.length cap_1424)]]))) ?_
      rintro ao_3147 cap_3148 _
      refine WL.quiet (d := 7) rfl rfl rfl (q_assign rfl) ?_
      refine WL.nil ?_
      refine WX.then ?_
      refine WC.seq ?_
      obtain ⟨x_3149, hx_3150, h⟩ := bind_elim h
      obtain ⟨x_3154, hx_3155, h⟩ := bind_elim h
      refine WC.region ?_
      refine WL.quiet (d := 24) rfl rfl rfl (q_load1 oneT_23 rfl (rd_stb (.there (.there (.there (.there .here)))) rfl)) ?_
      refine WL.enter2 (dd := 25) rfl rfl rfl (run_call (l := [.tmp 24, .func 36]) Try.call33 (.cons rfl (.cons rfl .nil))) (.nil : Sel [row (.slice ao_3147 x_3140.length cap_3148) 3 1 (x_3140.flatMap e3), stb b_3134 57 [(.func (.func 31) #[] #[(.pointer (some ⟨b_3108, 0, none⟩)), (.pointer (some ⟨b_3109, 0, none⟩))])], stb b_3110 35 [(.int .i64 0), (.int .i64 0)], stb b_3109 3 [(.int .i64 f_1426)], stb b_3108 23 [(.slice ao_1423 l_1422.length cap_1424)]] [] [row (.slice ao_3147 x_3140.length cap_3148) 3 1 (x_3140.flatMap e3), stb b_3134 57 [(.func (.func 31) #[] #[(.pointer (some ⟨b_3108, 0, none⟩)), (.pointer (some ⟨b_3109, 0, none⟩))])], stb b_3110 35 [(.int .i64 0), (.int .i64 0)], stb b_3109 3 [(.int .i64 f_1426)], stb b_3108 23 [(.slice ao_1423 l_1422.length cap_1424)]]) (fun w hw => by have pz := (hz.call hw (.nil : Sel [row (.slice ao_3147 x_3140.length cap_3148) 3 1 (x_3140.flatMap e3), stb b_3134 57 [(.func (.func 31) #[] #[(.pointer (some ⟨b_3108, 0, none⟩)), (.pointer (some ⟨b_3109, 0, none⟩))])], stb b_3110 35 [(.int .i64 0), (.int .i64 0)], stb b_3109 3 [(.int .i64 f_1426)], stb b_3108 23 [(.slice ao_1423 l_1422.length cap_1424)]] [] [row (.slice ao_3147 x_3140.length cap_3148) 3 1 (x_3140.flatMap e3), stb b_3134 57 [(.func (.func 31) #[] #[(.pointer (some ⟨b_3108, 0, none⟩)), (.pointer (some ⟨b_3109, 0, none⟩))])], stb b_3110 35 [(.int .i64 0), (.int .i64 0)], stb b_3109 3 [(.int .i64 f_1426)], stb b_3108 23 [(.slice ao_1423 l_1422.length cap_1424)]])); exact w_clock_each_api_Span (Z := _) (ao_1798 := ao_1423) (cap_1799 := cap_1424) (fid_1801 := 36) (fcaps_1802 := []) (l_1797 := l_1422) (f_1803 := (fun (y0 : Sapi_Span) => m_clock_Meet_5 y0)) (r := x_3149) w pz hs_1425 Try.call36 (fun w' hz' y0  r  hr => w_clock_Meet_5 (Z := _)  (s_3060 := y0) (r := r) w' hz'  hr) hx_3150) ?_
      rintro ao_3158 cap_3159 _
      refine WL.quiet (d := 26) rfl rfl rfl (q_makeFunc (Eos.caps (l := [.tmp 6]) (.cons rfl .nil))) ?_
      refine WL.enter2 (dd := 27) rfl rfl rfl (run_call (l := [.tmp 25, .tmp 26]) Try.call32 (.cons rfl (.cons rfl .nil))) ((.cons .here .nil) : Sel [row (.slice ao_3158 x_3149.length cap_3159) 3 1 (x_3149.flatMap e3), row (.slice ao_3147 x_3140.length cap_3148) 3 1 (x_3140.flatMap e3), stb b_3134 57 [(.func (.func 31) #[] #[(.pointer (some ⟨b_3108, 0, none⟩)), (.pointer (some ⟨b_3109, 0, none⟩))])], stb b_3110 35 [(.int .i64 0), (.int .i64 0)], stb b_3109 3 [(.int .i64 f_1426)], stb b_3108 23 [(.slice ao_1423 l_1422.length cap_1424)]] [row (.slice ao_3158 x_3149.length cap_3159) 3 1 (x_3149.flatMap e3)] [row (.slice ao_3147 x_3140.length cap_3148) 3 1 (x_3140.flatMap e3), stb b_3134 57 [(.func (.func 31) #[] #[(.pointer (some ⟨b_3108, 0, none⟩)), (.pointer (some ⟨b_3109, 0, none⟩))])], stb b_3110 35 [(.int .i64 0), (.int .i64 0)], stb b_3109 3 [(.int .i64 f_1426)], stb b_3108 23 [(.slice ao_1423 l_1422.length cap_1424)]]) (fun w hw => by have pz := (hz.call hw ((.cons .here .nil) : Sel [row (.slice ao_3158 x_3149.length cap_3159) 3 1 (x_3149.flatMap e3), row (.slice ao_3147 x_3140.length cap_3148) 3 1 (x_3140.flatMap e3), stb b_3134 57 [(.func (.func 31) #[] #[(.pointer (some ⟨b_3108, 0, none⟩)), (.pointer (some ⟨b_3109, 0, none⟩))])], stb b_3110 35 [(.int .i64 0), (.int .i64 0)], stb b_3109 3 [(.int .i64 f_1426)], stb b_3108 23 [(.slice ao_1423 l_1422.length cap_1424)]] [row (.slice ao_3158 x_3149.length cap_3159) 3 1 (x_3149.flatMap e3)] [row (.slice ao_3147 x_3140.length cap_3148) 3 1 (x_3140.flatMap e3), stb b_3134 57 [(.func (.func 31) #[] #[(.pointer (some ⟨b_3108, 0, none⟩)), (.pointer (some ⟨b_3109, 0, none⟩))])], stb b_3110 35 [(.int .i64 0), (.int .i64 0)], stb b_3109 3 [(.int .i64 f_1426)], stb b_3108 23 [(.slice ao_1423 l_1422.length cap_1424)]])).lend hw ((.cons .here .nil) : Sel [row (.slice ao_3158 x_3149.length cap_3159) 3 1 (x_3149.flatMap e3), row (.slice ao_3147 x_3140.length cap_3148) 3 1 (x_3140.flatMap e3), stb b_3134 57 [(.func (.func 31) #[] #[(.pointer (some ⟨b_3108, 0, none⟩)), (.pointer (some ⟨b_3109, 0, none⟩))])], stb b_3110 35 [(.int .i64 0), (.int .i64 0)], stb b_3109 3 [(.int .i64 f_1426)], stb b_3108 23 [(.slice ao_1423 l_1422.length cap_1424)]] [row (.slice ao_3158 x_3149.length cap_3159) 3 1 (x_3149.flatMap e3)] [row (.slice ao_3147 x_3140.length cap_3148) 3 1 (x_3140.flatMap e3), stb b_3134 57 [(.func (.func 31) #[] #[(.pointer (some ⟨b_3108, 0, none⟩)), (.pointer (some ⟨b_3109, 0, none⟩))])], stb b_3110 35 [(.int .i64 0), (.int .i64 0)], stb b_3109 3 [(.int .i64 f_1426)], stb b_3108 23 [(.slice ao_1423 l_1422.length cap_1424)]]) (B := [stb b_3134 57 [(.func (.func 31) #[] #[(.pointer (some ⟨b_3108, 0, none⟩)), (.pointer (some ⟨b_3109, 0, none⟩))])], stb b_3108 23 [(.slice ao_1423 l_1422.length cap_1424)], stb b_3109 3 [(.int .i64 f_1426)]]) (fun _ hx' => ((.cons (.there .here) (.cons (.there (.there (.there .here))) (.cons (.there (.there .here)) .nil))) : Sel _ [stb b_3134 57 [(.func (.func 31) #[] #[(.pointer (some ⟨b_3108, 0, none⟩)), (.pointer (some ⟨b_3109, 0, none⟩))])], stb b_3108 23 [(.slice ao_1423 l_1422.length cap_1424)], stb b_3109 3 [(.int .i64 f_1426)]] _).mem hx'); exact w_slices_DeleteFunc_int_int (Z := _) (ao_2729 := ao_3158) (cap_2730 := cap_3159) (fid_2731 := 37) (fcaps_2732 := [(.pointer (some ⟨b_3134, 0, none⟩))]) (s_2728 := x_3149) (f_2733 := (fun (y0 : Int) => m_clock_Meet_6 y0 (fun (y0 : Int) => m_clock_Meet_2 y0 l_1422 f_1426))) (r := x_3154) w pz Try.call37 (fun w' hz' y0  r  hr => w_clock_Meet_6 (Z := _) (A_3072 := ⟨b_3134, 0, none⟩) (fid_3074 := 31) (fcaps_3075 := [(.pointer (some ⟨b_3108, 0, none⟩)), (.pointer (some ⟨b_3109, 0, none⟩))]) (t_3071 := y0) (f_3076 := (fun (y0 : Int) => m_clock_Meet_2 y0 l_1422 f_1426)) (r := r) w' hz' Try.call31 (fun w' hz' y0  r  hr => w_clock_Meet_2 (Z := _) (A_2313 := ⟨b_3108, 0, none⟩) (ao_2316 := ao_1423) (cap_2317 := cap_1424) (A_2319 := ⟨b_3109, 0, none⟩) (t_2312 := y0) (c_2315 := l_1422) (c_2321 := f_1426) (r := r) w' hz' (hs_1425.mono (Zle.left _ _)) ((hw.lent ((.cons .here .nil) : Sel [row (.slice ao_3158 x_3149.length cap_3159) 3 1 (x_3149.flatMap e3), row (.slice ao_3147 x_3140.length cap_3148) 3 1 (x_3140.flatMap e3), stb b_3134 57 [(.func (.func 31) #[] #[(.pointer (some ⟨b_3108, 0, none⟩)), (.pointer (some ⟨b_3109, 0, none⟩))])], stb b_3110 35 [(.int .i64 0), (.int .i64 0)], stb b_3109 3 [(.int .i64 f_1426)], stb b_3108 23 [(.slice ao_1423 l_1422.length cap_1424)]] [row (.slice ao_3158 x_3149.length cap_3159) 3 1 (x_3149.flatMap e3)] [row (.slice ao_3147 x_3140.length cap_3148) 3 1 (x_3140.flatMap e3), stb b_3134 57 [(.func (.func 31) #[] #[(.pointer (some ⟨b_3108, 0, none⟩)), (.pointer (some ⟨b_3109, 0, none⟩))])], stb b_3110 35 [(.int .i64 0), (.int .i64 0)], stb b_3109 3 [(.int .i64 f_1426)], stb b_3108 23 [(.slice ao_1423 l_1422.length cap_1424)]]) (B := [stb b_3134 57 [(.func (.func 31) #[] #[(.pointer (some ⟨b_3108, 0, none⟩)), (.pointer (some ⟨b_3109, 0, none⟩))])], stb b_3108 23 [(.slice ao_1423 l_1422.length cap_1424)], stb b_3109 3 [(.int .i64 f_1426)]]) (fun _ hx' => ((.cons (.there .here) (.cons (.there (.there (.there .here))) (.cons (.there (.there .here)) .nil))) : Sel _ [stb b_3134 57 [(.func (.func 31) #[] #[(.pointer (some ⟨b_3108, 0, none⟩)), (.pointer (some ⟨b_3109, 0, none⟩))])], stb b_3108 23 [(.slice ao_1423 l_1422.length cap_1424)], stb b_3109 3 [(.int .i64 f_1426)]] _).mem hx') (.tail _ (.head _)) _).stb) ((hw.lent ((.cons .here .nil) : Sel [row (.slice ao_3158 x_3149.length cap_3159) 3 1 (x_3149.flatMap e3), row (.slice ao_3147 x_3140.length cap_3148) 3 1 (x_3140.flatMap e3), stb b_3134 57 [(.func (.func 31) #[] #[(.pointer (some ⟨b_3108, 0, none⟩)), (.pointer (some ⟨b_3109, 0, none⟩))])], stb b_3110 35 [(.int .i64 0), (.int .i64 0)], stb b_3109 3 [(.int .i64 f_1426)], stb b_3108 23 [(.slice ao_1423 l_1422.length cap_1424)]] [row (.slice ao_3158 x_3149.length cap_3159) 3 1 (x_3149.flatMap e3)] [row (.slice ao_3147 x_3140.length cap_3148) 3 1 (x_3140.flatMap e3), stb b_3134 57 [(.func (.func 31) #[] #[(.pointer (some ⟨b_3108, 0, none⟩)), (.pointer (some ⟨b_3109, 0, none⟩))])], stb b_3110 35 [(.int .i64 0), (.int .i64 0)], stb b_3109 3 [(.int .i64 f_1426)], stb b_3108 23 [(.slice ao_1423 l_1422.length cap_1424)]]) (B := [stb b_3134 57 [(.func (.func 31) #[] #[(.pointer (some ⟨b_3108, 0, none⟩)), (.pointer (some ⟨b_3109, 0, none⟩))])], stb b_3108 23 [(.slice ao_1423 l_1422.length cap_1424)], stb b_3109 3 [(.int .i64 f_1426)]]) (fun _ hx' => ((.cons (.there .here) (.cons (.there (.there (.there .here))) (.cons (.there (.there .here)) .nil))) : Sel _ [stb b_3134 57 [(.func (.func 31) #[] #[(.pointer (some ⟨b_3108, 0, none⟩)), (.pointer (some ⟨b_3109, 0, none⟩))])], stb b_3108 23 [(.slice ao_1423 l_1422.length cap_1424)], stb b_3109 3 [(.int .i64 f_1426)]] _).mem hx') (.tail _ (.tail _ (.head _))) _).stb) hr) ((hw.lent ((.cons .here .nil) : Sel [row (.slice ao_3158 x_3149.length cap_3159) 3 1 (x_3149.flatMap e3), row (.slice ao_3147 x_3140.length cap_3148) 3 1 (x_3140.flatMap e3), stb b_3134 57 [(.func (.func 31) #[] #[(.pointer (some ⟨b_3108, 0, none⟩)), (.pointer (some ⟨b_3109, 0, none⟩))])], stb b_3110 35 [(.int .i64 0), (.int .i64 0)], stb b_3109 3 [(.int .i64 f_1426)], stb b_3108 23 [(.slice ao_1423 l_1422.length cap_1424)]] [row (.slice ao_3158 x_3149.length cap_3159) 3 1 (x_3149.flatMap e3)] [row (.slice ao_3147 x_3140.length cap_3148) 3 1 (x_3140.flatMap e3), stb b_3134 57 [(.func (.func 31) #[] #[(.pointer (some ⟨b_3108, 0, none⟩)), (.pointer (some ⟨b_3109, 0, none⟩))])], stb b_3110 35 [(.int .i64 0), (.int .i64 0)], stb b_3109 3 [(.int .i64 f_1426)], stb b_3108 23 [(.slice ao_1423 l_1422.length cap_1424)]]) (B := [stb b_3134 57 [(.func (.func 31) #[] #[(.pointer (some ⟨b_3108, 0, none⟩)), (.pointer (some ⟨b_3109, 0, none⟩))])], stb b_3108 23 [(.slice ao_1423 l_1422.length cap_1424)], stb b_3109 3 [(.int .i64 f_1426)]]) (fun _ hx' => ((.cons (.there .here) (.cons (.there (.there (.there .here))) (.cons (.there (.there .here)) .nil))) : Sel _ [stb b_3134 57 [(.func (.func 31) #[] #[(.pointer (some ⟨b_3108, 0, none⟩)), (.pointer (some ⟨b_3109, 0, none⟩))])], stb b_3108 23 [(.slice ao_1423 l_1422.length cap_1424)], stb b_3109 3 [(.int .i64 f_1426)]] _).mem hx') (.head _) _).stb) hr) hx_3155 (hw.owns ((.cons .here .nil) : Sel [row (.slice ao_3158 x_3149.length cap_3159) 3 1 (x_3149.flatMap e3), row (.slice ao_3147 x_3140.length cap_3148) 3 1 (x_3140.flatMap e3), stb b_3134 57 [(.func (.func 31) #[] #[(.pointer (some ⟨b_3108, 0, none⟩)), (.pointer (some ⟨b_3109, 0, none⟩))])], stb b_3110 35 [(.int .i64 0), (.int .i64 0)], stb b_3109 3 [(.int .i64 f_1426)], stb b_3108 23 [(.slice ao_1423 l_1422.length cap_1424)]] [row (.slice ao_3158 x_3149.length cap_3159) 3 1 (x_3149.flatMap e3)] [row (.slice ao_3147 x_3140.length cap_3148) 3 1 (x_3140.flatMap e3), stb b_3134 57 [(.func (.func 31) #[] #[(.pointer (some ⟨b_3108, 0, none⟩)), (.pointer (some ⟨b_3109, 0, none⟩))])], stb b_3110 35 [(.int .i64 0), (.int .i64 0)], stb b_3109 3 [(.int .i64 f_1426)], stb b_3108 23 [(.slice ao_1423 l_1422.length cap_1424)]]))) ?_
      rintro ao_3161 cap_3162 _
      refine WL.quiet (d := 8) rfl rfl rfl (q_assign rfl) ?_
      refine WL.nil ?_
      refine WX.then ?_
      refine WC.seq ?_
      refine WC.seq ?_
      refine WC.region ?_
      refine WL.quiet (d := 28) rfl rfl rfl (q_move rfl) ?_
      refine WL.quiet (d := 29) rfl rfl rfl (q_len Try.underlying22 rfl) ?_
      refine WL.quiet (d := 30) rfl rfl rfl (q_eql rfl rfl) ?_
      refine WL.nil ?_
      refine WX.then ?_
      refine WC.cond rfl (fun hb_3164 => ?_) (fun hb_3164 => ?_)
      · replace h := ite_t h hb_3164
        refine WC.seq ?_
        refine WC.region ?_
        refine WL.quiet (d := 31) rfl rfl rfl (q_build (v := (.agg #[(.int .i64 0), (.int .i64 0)])) (Eos.parts (l := []) .nil []) (fun _ => by kernel_rfl)) ?_
        refine WL.eff0 rfl rfl (e_store (vs := [(.int .i64 0), (.int .i64 0)]) (ds := [(.int .i64 0), (.int .i64 0)]) sizT_35 rfl rfl rfl rfl (oc_cons rfl (oc_cons rfl oc_nil)) (.there (.there (.there .here))) (Nat.le_of_ble_eq_true rfl) rfl) ?_
        refine WL.quiet (d := 5) rfl rfl rfl (q_assign rfl) ?_
        refine WL.nil ?_
        refine WX.then ?_
        refine WC.ret ?_
        refine WX.thenRet ?_
        obtain rfl := Option.some.inj h
        refine WX.bpRet Try.results15 (.agg rfl aggT_35 rfl (rd_all .here) (.tmp rfl .nil)) (fun w hw => ?_)
        exact ⟨ret2 rfl rfl, hw.sub .nil⟩
      · replace h := ite_f h hb_3164
        refine WC.skip ?_
        refine WX.then ?_
        refine WC.seq ?_
        obtain ⟨c_3165, h⟩ := chk_elim h
        obtain ⟨c_3167, h⟩ := chk_elim h
        refine WC.draw (fun i => [10].contains i) [] rfl ?_
        refine WD.pure (i := 0) (d := 32) (by kernel_rfl) rfl (by kernel_rfl) (by kernel_rfl) rfl rfl rfl (fun _ => q_move rfl) ?_
        refine WD.know (fun w hw => Hp.expose (.there .here) hw (by intro hz'; have := c_3165; rw [hz'] at this; omega)) ?_
        rintro ⟨b_3171, rfl⟩
        refine WD.pure (i := 1) (d := 33) (by kernel_rfl) rfl (by kernel_rfl) (by kernel_rfl) rfl rfl rfl (fun _ => q_indexAddr elT_22 rfl rfl c_3165.1 c_3165.2 rowAdd) ?_
        refine WD.quiet (i := 2) (d := 34) (by kernel_rfl) rfl (by kernel_rfl) (by kernel_rfl) rfl rfl rfl (q_load1 oneT_3 rfl (rd_row (.there .here) ((flat_rd (enc := e3) (l := x_3140) (i := 0) (sz := 1) (fun _ => rfl) c_3165.1 c_3165.2) 0 _ rfl))) ?_
        refine WD.pure (i := 3) (d := 35) (by kernel_rfl) rfl (by kernel_rfl) (by kernel_rfl) rfl rfl rfl (fun _ => q_move rfl) ?_
        refine WD.pure (i := 4) (d := 36) (by kernel_rfl) rfl (by kernel_rfl) (by kernel_rfl) rfl rfl rfl (fun _ => q_move rfl) ?_
        refine WD.pure (i := 5) (d := 37) (by kernel_rfl) rfl (by kernel_rfl) (by kernel_rfl) rfl rfl rfl (fun _ => q_len Try.underlying22 rfl) ?_
        refine WD.pure (i := 6) (d := 38) (by kernel_rfl) rfl (by kernel_rfl) (by kernel_rfl) rfl rfl rfl (fun _ => q_sub rfl rfl rfl) ?_
        refine WD.know (fun w hw => Hp.expose .here hw (by intro hz'; have := c_3167; rw [hz'] at this; omega)) ?_
        rintro ⟨b_3172, rfl⟩
        refine WD.pure (i := 7) (d := 39) (by kernel_rfl) rfl (by kernel_rfl) (by kernel_rfl) rfl rfl rfl (fun _ => q_indexAddr elT_22 rfl rfl c_3167.1 c_3167.2 rowAdd) ?_
        refine WD.quiet (i := 8) (d := 40) (by kernel_rfl) rfl (by kernel_rfl) (by kernel_rfl) rfl rfl rfl (q_load1 oneT_3 rfl (rd_row .here ((flat_rd (enc := e3) (l := x_3154) (i := i64 (((x_3154.length : Nat) : Int) - 1)) (sz := 1) (fun _ => rfl) c_3167.1 c_3167.2) 0 _ rfl))) ?_
        refine WD.quiet (i := 9) (d := 41) (by kernel_rfl) rfl (by kernel_rfl) (by kernel_rfl) rfl rfl rfl (q_build (v := (.agg #[(.int .i64 (nth x_3140 0)), (.int .i64 (nth x_3154 (i64 (((x_3154.length : Nat) : Int) - 1))))])) (Eos.parts (l := [.tmp 34, .tmp 40]) (.cons rfl (.cons rfl .nil)) [0, 1]) (fun _ => by kernel_rfl)) ?_
        refine WD.forced0 (i := 10) rfl (by kernel_rfl) rfl rfl rfl (Sin.of .nil) (e_store (vs := [(.int .i64 (nth x_3140 0)), (.int .i64 (nth x_3154 (i64 (((x_3154.length : Nat) : Int) - 1))))]) (ds := [(.int .i64 (nth x_3140 0)), (.int .i64 (nth x_3154 (i64 (((x_3154.length : Nat) : Int) - 1))))]) sizT_35 rfl rfl rfl rfl (oc_cons rfl (oc_cons rfl oc_nil)) (.there (.there (.there .here))) (Nat.le_of_ble_eq_true rfl) rfl) ?_
        refine WD.pure (i := 11) (d := 5) (by kernel_rfl) rfl (by kernel_rfl) (by kernel_rfl) rfl rfl rfl (fun _ => q_assign rfl) ?_
        refine WD.done (by kernel_rfl) ?_
        refine WX.then ?_
        refine WC.ret ?_
        obtain rfl := Option.some.inj h
        refine WX.bpRet Try.results15 (.agg rfl aggT_35 rfl (rd_all .here) (.tmp rfl .nil)) (fun w hw => ?_)
        exact ⟨ret2 rfl rfl, hw.sub .nil⟩
def m_law33_Ints_L2 (a_3189 : List Int) (b_3193 : List Int) (k_3536 : Option Bool) : Nat → Int → Option Bool
  | 0, _ => none
  | n_3581 + 1, v_3579 => if decide (v_3579 < ((a_3189.length : Nat) : Int)) then chk ((0 : Int) ≤ v_3579 ∧ v_3579 < ((a_3189.length : Nat) : Int)) (chk ((0 : Int) ≤ v_3579 ∧ v_3579 < ((b_3193.length : Nat) : Int)) (if decide ((nth a_3189 v_3579) ≠ (nth b_3193 v_3579)) then some false else m_law33_Ints_L2 a_3189 b_3193 k_3536 n_3581 (i64 (v_3579 + 1)))) else k_3536
theorem m_law33_Ints_L2_fuel {n : Nat} {a_3189 : List Int} {b_3193 : List Int} {k_3536 : Option Bool} {v_3579 : Int} {r : Bool} (h : m_law33_Ints_L2 a_3189 b_3193 k_3536 n v_3579 = some r) : ∃ m, n = m + 1 := by
  cases n with
  | zero => cases h
  | succ m => exact ⟨m, rfl⟩

/-- nacellelaw33.Ints -/
def m_law33_Ints (a_3189 : List Int) (b_3193 : List Int) : Option Bool :=
  if decide (((a_3189.length : Nat) : Int) ≠ ((b_3193.length : Nat) : Int)) then some false else jp0 (some true) fun k_3536 => m_law33_Ints_L2 a_3189 b_3193 k_3536 FUEL 0

set_option maxRecDepth 20000 in
theorem w_law33_Ints (Z : Zp)  (ao_3190 : Option Addr) (cap_3191 : Nat) (ao_3194 : Option Addr) (cap_3195 : Nat) (a_3189 : List Int) (b_3193 : List Int) (r : Bool) (w₀ : World) (hz : PZ [] w₀ Z)
    (hs_3192 : ZS Z 1 (fun r x => r = e3 x) ao_3190 cap_3191 a_3189)
    (hs_3196 : ZS Z 1 (fun r x => r = e3 x) ao_3194 cap_3195 b_3193)
    (h : m_law33_Ints a_3189 b_3193 = some r) :
    Calls Try.prog 17 #[(.slice ao_3190 a_3189.length cap_3191), (.slice ao_3194 b_3193.length cap_3195)] w₀ fun e w' => e = .returned (.bool r) ∧ Hp [] w₀ w' [] := by
  unfold m_law33_Ints at h
  refine Calls.ofWC (vs := [(.slice ao_3190 a_3189.length cap_3191), (.slice ao_3194 b_3193.length cap_3195)]) (pre := []) (env := [(0, (.slice ao_3190 a_3189.length cap_3191)), (1, (.slice ao_3194 b_3193.length cap_3195))]) Try.func17 rfl Try.ntmps17 rfl (Hp.nil w₀ _) rfl ?_
  refine WC.seq ?_
  refine WC.region ?_
  refine WL.quiet (d := 4) rfl rfl rfl (q_assign rfl) ?_
  refine WL.nil ?_
  refine WX.then ?_
  refine WC.seq ?_
  refine WC.seq ?_
  refine WC.region ?_
  refine WL.quiet (d := 6) rfl rfl rfl (q_move rfl) ?_
  refine WL.quiet (d := 7) rfl rfl rfl (q_len Try.underlying22 rfl) ?_
  refine WL.quiet (d := 8) rfl rfl rfl (q_move rfl) ?_
  refine WL.quiet (d := 9) rfl rfl rfl (q_len Try.underlying22 rfl) ?_
  refine WL.quiet (d := 10) rfl rfl rfl (q_neq rfl rfl) ?_
  refine WL.nil ?_
  refine WX.then ?_
  refine WC.cond rfl (fun hb_3411 => ?_) (fun hb_3411 => ?_)
  · replace h := ite_t h hb_3411
    refine WC.seq ?_
    refine WC.region ?_
    refine WL.quiet (d := 4) rfl rfl rfl (q_assign rfl) ?_
    refine WL.nil ?_
    refine WX.then ?_
    refine WC.ret ?_
    refine WX.thenRet ?_
    obtain rfl := Option.some.inj h
    refine WX.bpRet Try.results17 (.tmp rfl .nil) (fun w hw => ?_)
    exact ⟨ret1 rfl, hw.sub .nil⟩
  · replace h := ite_f h hb_3411
    refine WC.skip ?_
    refine WX.then ?_
    obtain ⟨k_3536, hk_3537, h⟩ := jp0_elim h
    refine WC.seqMid0 ((k_3536 = some r)) ([]) ([]) ?_ ?_
    · skip
      refine WC.seq ?_
      refine WC.region ?_
      refine WL.quiet (d := 11) rfl rfl rfl (q_move rfl) ?_
      refine WL.quiet (d := 12) rfl rfl rfl (q_len Try.underlying22 rfl) ?_
      refine WL.quiet (d := 13) rfl rfl rfl (q_move rfl) ?_
      refine WL.nil ?_
      refine WX.then ?_
      refine WC.block ?_
      refine WC.loop2 (fun (n_3580 : Nat) (v_3579 : Int) => (m_law33_Ints_L2 a_3189 b_3193 k_3536 n_3580 v_3579 = some r)) (fun (n_3580 : Nat) (v_3579 : Int) => [(0, (.slice ao_3190 a_3189.length cap_3191)), (1, (.slice ao_3194 b_3193.length cap_3195)), (12, (.int .i64 ((a_3189.length : Nat) : Int))), (13, (.int .i64 v_3579))]) (fun (n_3580 : Nat) (v_3579 : Int) => []) (fun (n_3580 : Nat) (v_3579 : Int) => n_3580) ⟨FUEL, 0⟩ h (.cons rfl (.cons rfl (.cons rfl (.cons rfl .nil)))) .nil ?_
      rintro n_3580 v_3579 h
      obtain ⟨n_3581, rfl⟩ := m_law33_Ints_L2_fuel h
      rw [m_law33_Ints_L2] at h
      refine WC.seq ?_
      refine WC.region ?_
      refine WL.quiet (d := 14) rfl rfl rfl (q_lss rfl rfl) ?_
      refine WL.nil ?_
      refine WX.then ?_
      refine WC.seq ?_
      refine WC.cond rfl (fun hb_3583 => ?_) (fun hb_3583 => ?_)
      · replace h := ite_t h hb_3583
        refine WC.skip ?_
        refine WX.then ?_
        refine WC.seq ?_
        refine WC.block ?_
        refine WC.seq ?_
        refine WC.region ?_
        refine WL.quiet (d := 15) rfl rfl rfl (q_move rfl) ?_
        refine WL.quiet (d := 5) rfl rfl rfl (q_assign rfl) ?_
        refine WL.nil ?_
        refine WX.then ?_
        refine WC.seq ?_
        obtain ⟨c_3603, h⟩ := chk_elim h
        obtain ⟨c_3608, h⟩ := chk_elim h
        refine WC.draw (fun i => [].contains i) [] rfl ?_
        refine WD.pure (i := 0) (d := 16) (by kernel_rfl) rfl (by kernel_rfl) (by kernel_rfl) rfl rfl rfl (fun _ => q_move rfl) ?_
        refine WD.pure (i := 1) (d := 17) (by kernel_rfl) rfl (by kernel_rfl) (by kernel_rfl) rfl rfl rfl (fun _ => q_move rfl) ?_
        refine WD.znth (j := 2) (dd := 18) (by kernel_rfl) rfl (by kernel_rfl) (by kernel_rfl) rfl rfl (Z := Z) (Pr := (fun r x => r = e3 x)) elT_22 rfl rfl hs_3192 c_3603 ?_
        rintro A_3613 r_3614 hA_3615 hl_3616 rfl
        refine WD.quiet (i := 3) (d := 19) (by kernel_rfl) rfl (by kernel_rfl) (by kernel_rfl) rfl rfl rfl (q_load1 oneT_3 rfl (rd_z hz.pv hA_3615 rfl)) ?_
        refine WD.pure (i := 4) (d := 20) (by kernel_rfl) rfl (by kernel_rfl) (by kernel_rfl) rfl rfl rfl (fun _ => q_move rfl) ?_
        refine WD.pure (i := 5) (d := 21) (by kernel_rfl) rfl (by kernel_rfl) (by kernel_rfl) rfl rfl rfl (fun _ => q_move rfl) ?_
        refine WD.znth (j := 6) (dd := 22) (by kernel_rfl) rfl (by kernel_rfl) (by kernel_rfl) rfl rfl (Z := Z) (Pr := (fun r x => r = e3 x)) elT_22 rfl rfl hs_3196 c_3608 ?_
        rintro A_3617 r_3618 hA_3619 hl_3620 rfl
        refine WD.quiet (i := 7) (d := 23) (by kernel_rfl) rfl (by kernel_rfl) (by kernel_rfl) rfl rfl rfl (q_load1 oneT_3 rfl (rd_z hz.pv hA_3619 rfl)) ?_
        refine WD.pure (i := 8) (d := 24) (by kernel_rfl) rfl (by kernel_rfl) (by kernel_rfl) rfl rfl rfl (fun _ => q_neq rfl rfl) ?_
        refine WD.done (by kernel_rfl) ?_
        refine WX.then ?_
        refine WC.cond rfl (fun hb_3621 => ?_) (fun hb_3621 => ?_)
        · replace h := ite_t h hb_3621
          refine WC.seq ?_
          refine WC.region ?_
          refine WL.quiet (d := 4) rfl rfl rfl (q_assign rfl) ?_
          refine WL.nil ?_
          refine WX.then ?_
          refine WC.ret ?_
          refine WX.blockRet ?_
          refine WX.thenRet ?_
          refine WX.thenRet ?_
          refine WX.blockRet ?_
          refine WX.thenRet ?_
          obtain rfl := Option.some.inj h
          refine WX.bpRet Try.results17 (.tmp rfl .nil) (fun w hw => ?_)
          exact ⟨ret1 rfl, hw.sub .nil⟩
        · replace h := ite_f h hb_3621
          refine WC.skip ?_
          refine WX.blockNormal ?_
          refine WX.then ?_
          refine WC.region ?_
          refine WL.quiet (d := 25) rfl rfl rfl (q_add rfl rfl rfl) ?_
          refine WL.quiet (d := 13) rfl rfl rfl (q_move rfl) ?_
          refine WL.nil ?_
          exact WX.round (G := Nat × Int) ⟨n_3581, (i64 (v_3579 + 1))⟩ h (Nat.lt_succ_self _) (.cons rfl (.cons rfl (.cons rfl (.cons rfl .nil)))) .nil
      · replace h := ite_f h hb_3583
        refine WC.exit ?_
        refine WX.thenExit ?_
        refine WX.thenExit ?_
        refine WX.blockHit ?_
        exact WX.mid (G := Unit) () h .nil .nil
    · rintro  h
      replace h := hk_3537.symm.trans h
      refine WC.seq ?_
      refine WC.region ?_
      refine WL.quiet (d := 4) rfl rfl rfl (q_assign rfl) ?_
      refine WL.nil ?_
      refine WX.then ?_
      refine WC.ret ?_
      obtain rfl := Option.some.inj h
      refine WX.bpRet Try.results17 (.tmp rfl .nil) (fun w hw => ?_)
      exact ⟨ret1 rfl, hw.sub .nil⟩
/-- nacellelaw33.awake -/
def m_law33_awake  : Option Bool :=
  (m_clock_Midpoint ([10, 12, 900, 11] : List Int) 1).bind fun x_3644 => (m_clock_Suspects ([10, 12, 900, 11] : List Int) 1 5).bind fun x_3646 => (m_clock_Midpoint ([(-3), (-4)] : List Int) 0).bind fun x_3655 => (m_clock_Meet ([(⟨0, 10⟩ : Sapi_Span), (⟨8, 20⟩ : Sapi_Span), (⟨30, 40⟩ : Sapi_Span)] : List Sapi_Span) 1).bind fun x_3660 => (m_clock_Meet ([(⟨0, 10⟩ : Sapi_Span), (⟨8, 20⟩ : Sapi_Span), (⟨30, 40⟩ : Sapi_Span)] : List Sapi_Span) 0).bind fun x_3664 => chk ((0 : Int) ≤ 3 ∧ 3 ≤ ((([10, 12, 900, 11] : List Int).length : Nat) : Int)) ((m_clock_Midpoint (([10, 12, 900, 11] : List Int).take (3 : Int).toNat) 2).bind fun x_3671 => (if (decide ((i64 ((i64 ((i64 (x_3644.2 + x_3646.2)) + x_3655.2)) + x_3660.2)) = 0)) && (decide (x_3644.1 = 11)) then (m_law33_Ints x_3646.1 ([2] : List Int)).bind fun x_3676 => some x_3676 else some false).bind fun b_3678 => some ((((b_3678 && (decide (x_3655.1 = (-4)))) && (decide (x_3660.1 = (⟨8, 10⟩ : Sapi_Span)))) && (decide (x_3664.2 = 6))) && (decide (x_3671.2 = 2))))

set_option maxRecDepth 20000 in
theorem w_law33_awake (Z : Zp)    (r : Bool) (w₀ : World) (hz : PZ [] w₀ Z)
    (h : m_law33_awake  = some r) :
    Calls Try.prog 10 #[] w₀ fun e w' => e = .returned (.bool r) ∧ Hp [] w₀ w' [] := by
  unfold m_law33_awake at h
  refine Calls.ofWC (vs := []) (pre := []) (env := []) Try.func10 rfl Try.ntmps10 rfl (Hp.nil w₀ _) rfl ?_
  refine WC.seq ?_
  refine WC.region ?_
  refine WL.quiet (d := 0) rfl rfl rfl (q_assign rfl) ?_
  refine WL.nil ?_
  refine WX.then ?_
  refine WC.seq ?_
  refine WC.region ?_
  refine WL.new (dd := 15) rfl rfl rfl (e_buildSlice (cs := ([10, 12, 900, 11] : List Int).flatMap e3) elT_22 (Eos.parts (l := [.const (.int .i64 10), .const (.int .i64 12), .const (.int .i64 900), .const (.int .i64 11)]) (.cons rfl (.cons rfl (.cons rfl (.cons rfl .nil)))) [0, 1, 2, 3]) (fun _ => by kernel_rfl) rfl (by unfold maxLen; omega)) ?_
  intro b_3643 _
  refine WL.quiet (d := 1) rfl rfl rfl (q_assign rfl) ?_
  refine WL.nil ?_
  refine WX.then ?_
  refine WC.seq ?_
  obtain ⟨x_3644, hx_3645, h⟩ := bind_elim h
  refine WC.region ?_
  refine WL.quiet (d := 17) rfl rfl rfl (q_move rfl) ?_
  refine WL.callD (dd := 18) rfl rfl rfl (run_call (l := [.tmp 17, .const (.int .i64 1)]) Try.call11 (.cons rfl (.cons rfl .nil))) (.nil : Sel [row (.slice (some ⟨b_3643, 0, none⟩) (([10, 12, 900, 11] : List Int).length) 4) 3 1 (([10, 12, 900, 11] : List Int).flatMap e3)] [] [row (.slice (some ⟨b_3643, 0, none⟩) (([10, 12, 900, 11] : List Int).length) 4) 3 1 (([10, 12, 900, 11] : List Int).flatMap e3)]) (fun w hw => by have pz := (hz.call hw (.nil : Sel [row (.slice (some ⟨b_3643, 0, none⟩) (([10, 12, 900, 11] : List Int).length) 4) 3 1 (([10, 12, 900, 11] : List Int).flatMap e3)] [] [row (.slice (some ⟨b_3643, 0, none⟩) (([10, 12, 900, 11] : List Int).length) 4) 3 1 (([10, 12, 900, 11] : List Int).flatMap e3)])).lend hw (.nil : Sel [row (.slice (some ⟨b_3643, 0, none⟩) (([10, 12, 900, 11] : List Int).length) 4) 3 1 (([10, 12, 900, 11] : List Int).flatMap e3)] [] [row (.slice (some ⟨b_3643, 0, none⟩) (([10, 12, 900, 11] : List Int).length) 4) 3 1 (([10, 12, 900, 11] : List Int).flatMap e3)]) (B := [row (.slice (some ⟨b_3643, 0, none⟩) (([10, 12, 900, 11] : List Int).length) 4) 3 1 (([10, 12, 900, 11] : List Int).flatMap e3)]) (fun _ hx' => ((.cons .here .nil) : Sel _ [row (.slice (some ⟨b_3643, 0, none⟩) (([10, 12, 900, 11] : List Int).length) 4) 3 1 (([10, 12, 900, 11] : List Int).flatMap e3)] _).mem hx'); exact w_clock_Midpoint (Z := _) (ao_17 := (some ⟨b_3643, 0, none⟩)) (cap_18 := 4) (l_16 := ([10, 12, 900, 11] : List Int)) (f_20 := 1) (r := x_3644) w pz (ZA.row (hw.lent (.nil : Sel [row (.slice (some ⟨b_3643, 0, none⟩) (([10, 12, 900, 11] : List Int).length) 4) 3 1 (([10, 12, 900, 11] : List Int).flatMap e3)] [] [row (.slice (some ⟨b_3643, 0, none⟩) (([10, 12, 900, 11] : List Int).length) 4) 3 1 (([10, 12, 900, 11] : List Int).flatMap e3)]) (B := [row (.slice (some ⟨b_3643, 0, none⟩) (([10, 12, 900, 11] : List Int).length) 4) 3 1 (([10, 12, 900, 11] : List Int).flatMap e3)]) (fun _ hx' => ((.cons .here .nil) : Sel _ [row (.slice (some ⟨b_3643, 0, none⟩) (([10, 12, 900, 11] : List Int).length) 4) 3 1 (([10, 12, 900, 11] : List Int).flatMap e3)] _).mem hx') (.head _) _) (RR.flat (enc := e3) (fun _ => rfl) _) ⟨w, pz.1⟩) hx_3645) ?_
  refine WL.quiet (d := 16) rfl rfl rfl (q_move rfl) ?_
  refine WL.quiet (d := 19) rfl rfl rfl (q_extract rfl rfl) ?_
  refine WL.quiet (d := 20) rfl rfl rfl (q_extract rfl rfl) ?_
  refine WL.quiet (d := 2) rfl rfl rfl (q_assign rfl) ?_
  refine WL.quiet (d := 3) rfl rfl rfl (q_assign rfl) ?_
  refine WL.nil ?_
  refine WX.then ?_
  refine WC.seq ?_
  obtain ⟨x_3646, hx_3647, h⟩ := bind_elim h
  refine WC.region ?_
  refine WL.quiet (d := 22) rfl rfl rfl (q_move rfl) ?_
  refine WL.enter2 (dd := 23) rfl rfl rfl (run_call (l := [.tmp 22, .const (.int .i64 1), .const (.int .i64 5)]) Try.call13 (.cons rfl (.cons rfl (.cons rfl .nil)))) (.nil : Sel [row (.slice (some ⟨b_3643, 0, none⟩) (([10, 12, 900, 11] : List Int).length) 4) 3 1 (([10, 12, 900, 11] : List Int).flatMap e3)] [] [row (.slice (some ⟨b_3643, 0, none⟩) (([10, 12, 900, 11] : List Int).length) 4) 3 1 (([10, 12, 900, 11] : List Int).flatMap e3)]) (fun w hw => by have pz := (hz.call hw (.nil : Sel [row (.slice (some ⟨b_3643, 0, none⟩) (([10, 12, 900, 11] : List Int).length) 4) 3 1 (([10, 12, 900, 11] : List Int).flatMap e3)] [] [row (.slice (some ⟨b_3643, 0, none⟩) (([10, 12, 900, 11] : List Int).length) 4) 3 1 (([10, 12, 900, 11] : List Int).flatMap e3)])).lend hw (.nil : Sel [row (.slice (some ⟨b_3643, 0, none⟩) (([10, 12, 900, 11] : List Int).length) 4) 3 1 (([10, 12, 900, 11] : List Int).flatMap e3)] [] [row (.slice (some ⟨b_3643, 0, none⟩) (([10, 12, 900, 11] : List Int).length) 4) 3 1 (([10, 12, 900, 11] : List Int).flatMap e3)]) (B := [row (.slice (some ⟨b_3643, 0, none⟩) (([10, 12, 900, 11] : List Int).length) 4) 3 1 (([10, 12, 900, 11] : List Int).flatMap e3)]) (fun _ hx' => ((.cons .here .nil) : Sel _ [row (.slice (some ⟨b_3643, 0, none⟩) (([10, 12, 900, 11] : List Int).length) 4) 3 1 (([10, 12, 900, 11] : List Int).flatMap e3)] _).mem hx'); exact w_clock_Suspects (Z := _) (ao_897 := (some ⟨b_3643, 0, none⟩)) (cap_898 := 4) (l_896 := ([10, 12, 900, 11] : List Int)) (f_900 := 1) (width_901 := 5) (r := x_3646) w pz (ZA.row (hw.lent (.nil : Sel [row (.slice (some ⟨b_3643, 0, none⟩) (([10, 12, 900, 11] : List Int).length) 4) 3 1 (([10, 12, 900, 11] : List Int).flatMap e3)] [] [row (.slice (some ⟨b_3643, 0, none⟩) (([10, 12, 900, 11] : List Int).length) 4) 3 1 (([10, 12, 900, 11] : List Int).flatMap e3)]) (B := [row (.slice (some ⟨b_3643, 0, none⟩) (([10, 12, 900, 11] : List Int).length) 4) 3 1 (([10, 12, 900, 11] : List Int).flatMap e3)]) (fun _ hx' => ((.cons .here .nil) : Sel _ [row (.slice (some ⟨b_3643, 0, none⟩) (([10, 12, 900, 11] : List Int).length) 4) 3 1 (([10, 12, 900, 11] : List Int).flatMap e3)] _).mem hx') (.head _) _) (RR.flat (enc := e3) (fun _ => rfl) _) ⟨w, pz.1⟩) hx_3647) ?_
  rintro ao_3651 cap_3652 _
  refine WL.quiet (d := 21) rfl rfl rfl (q_move rfl) ?_
  refine WL.quiet (d := 24) rfl rfl rfl (q_extract rfl rfl) ?_
  refine WL.quiet (d := 25) rfl rfl rfl (q_extract rfl rfl) ?_
  refine WL.quiet (d := 4) rfl rfl rfl (q_assign rfl) ?_
  refine WL.quiet (d := 5) rfl rfl rfl (q_assign rfl) ?_
  refine WL.nil ?_
  refine WX.then ?_
  refine WC.seq ?_
  obtain ⟨x_3655, hx_3656, h⟩ := bind_elim h
  refine WC.region ?_
  refine WL.new (dd := 27) rfl rfl rfl (e_buildSlice (cs := ([(-3), (-4)] : List Int).flatMap e3) elT_22 (Eos.parts (l := [.const (.int .i64 (-3)), .const (.int .i64 (-4))]) (.cons rfl (.cons rfl .nil)) [0, 1]) (fun _ => by kernel_rfl) rfl (by unfold maxLen; omega)) ?_
  intro b_3657 _
  refine WL.callD (dd := 28) rfl rfl rfl (run_call (l := [.tmp 27, .const (.int .i64 0)]) Try.call11 (.cons rfl (.cons rfl .nil))) (.nil : Sel [row (.slice (some ⟨b_3657, 0, none⟩) (([(-3), (-4)] : List Int).length) 2) 3 1 (([(-3), (-4)] : List Int).flatMap e3), row (.slice ao_3651 x_3646.1.length cap_3652) 3 1 (x_3646.1.flatMap e3), row (.slice (some ⟨b_3643, 0, none⟩) (([10, 12, 900, 11] : List Int).length) 4) 3 1 (([10, 12, 900, 11] : List Int).flatMap e3)] [] [row (.slice (some ⟨b_3657, 0, none⟩) (([(-3), (-4)] : List Int).length) 2) 3 1 (([(-3), (-4)] : List Int).flatMap e3), row (.slice ao_3651 x_3646.1.length cap_3652) 3 1 (x_3646.1.flatMap e3), row (.slice (some ⟨b_3643, 0, none⟩) (([10, 12, 900, 11] : List Int).length) 4) 3 1 (([10, 12, 900, 11] : List Int).flatMap e3)]) (fun w hw => by have pz := (hz.call hw (.nil : Sel [row (.slice (some ⟨b_3657, 0, none⟩) (([(-3), (-4)] : List Int).length) 2) 3 1 (([(-3), (-4)] : List Int).flatMap e3), row (.slice ao_3651 x_3646.1.length cap_3652) 3 1 (x_3646.1.flatMap e3), row (.slice (some ⟨b_3643, 0, none⟩) (([10, 12, 900, 11] : List Int).length) 4) 3 1 (([10, 12, 900, 11] : List Int).flatMap e3)] [] [row (.slice (some ⟨b_3657, 0, none⟩) (([(-3), (-4)] : List Int).length) 2) 3 1 (([(-3), (-4)] : List Int).flatMap e3), row (.slice ao_3651 x_3646.1.length cap_3652) 3 1 (x_3646.1.flatMap e3), row (.slice (some ⟨b_3643, 0, none⟩) (([10, 12, 900, 11] : List Int).length) 4) 3 1 (([10, 12, 900, 11] : List Int).flatMap e3)])).lend hw (.nil : Sel [row (.slice (some ⟨b_3657, 0, none⟩) (([(-3), (-4)] : List Int).length) 2) 3 1 (([(-3), (-4)] : List Int).flatMap e3), row (.slice ao_3651 x_3646.1.length cap_3652) 3 1 (x_3646.1.flatMap e3), row (.slice (some ⟨b_3643, 0, none⟩) (([10, 12, 900, 11] : List Int).length) 4) 3 1 (([10, 12, 900, 11] : List Int).flatMap e3)] [] [row (.slice (some ⟨b_3657, 0, none⟩) (([(-3), (-4)] : List Int).length) 2) 3 1 (([(-3), (-4)] : List Int).flatMap e3), row (.slice ao_3651 x_3646.1.length cap_3652) 3 1 (x_3646.1.flatMap e3), row (.slice (some ⟨b_3643, 0, none⟩) (([10, 12, 900, 11] : List Int).length) 4) 3 1 (([10, 12, 900, 11] : List Int).flatMap e3)]) (B := [row (.slice (some ⟨b_3657, 0, none⟩) (([(-3), (-4)] : List Int).length) 2) 3 1 (([(-3), (-4)] : List Int).flatMap e3)]) (fun _ hx' => ((.cons .here .nil) : Sel _ [row (.slice (some ⟨b_3657, 0, none⟩) (([(-3), (-4)] : List Int).length) 2) 3 1 (([(-3), (-4)] : List Int).flatMap e3)] _).mem hx'); exact w_clock_Midpoint (Z := _) (ao_17 := (some ⟨b_3657, 0, none⟩)) (cap_18 := 2) (l_16 := ([(-3), (-4)] : List Int)) (f_20 := 0) (r := x_3655) w pz (ZA.row (hw.lent (.nil : Sel [row (.slice (some ⟨b_3657, 0, none⟩) (([(-3), (-4)] : List Int).length) 2) 3 1 (([(-3), (-4)] : List Int).flatMap e3), row (.slice ao_3651 x_3646.1.length cap_3652) 3 1 (x_3646.1.flatMap e3), row (.slice (some ⟨b_3643, 0, none⟩) (([10, 12, 900, 11] : List Int).length) 4) 3 1 (([10, 12, 900, 11] : List Int).flatMap e3)] [] [row (.slice (some ⟨b_3657, 0, none⟩) (([(-3), (-4)] : List Int).length) 2) 3 1 (([(-3), (-4)] : List Int).flatMap e3), row (.slice ao_3651 x_3646.1.length cap_3652) 3 1 (x_3646.1.flatMap e3), row (.slice (some ⟨b_3643, 0, none⟩) (([10, 12, 900, 11] : List Int).length) 4) 3 1 (([10, 12, 900, 11] : List Int).flatMap e3)]) (B := [row (.slice (some ⟨b_3657, 0, none⟩) (([(-3), (-4)] : List Int).length) 2) 3 1 (([(-3), (-4)] : List Int).flatMap e3)]) (fun _ hx' => ((.cons .here .nil) : Sel _ [row (.slice (some ⟨b_3657, 0, none⟩) (([(-3), (-4)] : List Int).length) 2) 3 1 (([(-3), (-4)] : List Int).flatMap e3)] _).mem hx') (.head _) _) (RR.flat (enc := e3) (fun _ => rfl) _) ⟨w, pz.1⟩) hx_3656) ?_
  refine WL.quiet (d := 26) rfl rfl rfl (q_move rfl) ?_
  refine WL.quiet (d := 29) rfl rfl rfl (q_extract rfl rfl) ?_
  refine WL.quiet (d := 30) rfl rfl rfl (q_extract rfl rfl) ?_
  refine WL.quiet (d := 6) rfl rfl rfl (q_assign rfl) ?_
  refine WL.quiet (d := 7) rfl rfl rfl (q_assign rfl) ?_
  refine WL.nil ?_
  refine WX.then ?_
  refine WC.seq ?_
  refine WC.region ?_
  refine WL.quiet (d := 31) rfl rfl rfl (q_build (v := (.agg #[(.int .i64 0), (.int .i64 10)])) (Eos.parts (l := [.const (.int .i64 0), .const (.int .i64 10)]) (.cons rfl (.cons rfl .nil)) [0, 1]) (fun _ => by kernel_rfl)) ?_
  refine WL.quiet (d := 32) rfl rfl rfl (q_build (v := (.agg #[(.int .i64 8), (.int .i64 20)])) (Eos.parts (l := [.const (.int .i64 8), .const (.int .i64 20)]) (.cons rfl (.cons rfl .nil)) [0, 1]) (fun _ => by kernel_rfl)) ?_
  refine WL.quiet (d := 33) rfl rfl rfl (q_build (v := (.agg #[(.int .i64 30), (.int .i64 40)])) (Eos.parts (l := [.const (.int .i64 30), .const (.int .i64 40)]) (.cons rfl (.cons rfl .nil)) [0, 1]) (fun _ => by kernel_rfl)) ?_
  refine WL.new (dd := 34) rfl rfl rfl (e_buildSlice (cs := ([(⟨0, 10⟩ : Sapi_Span), (⟨8, 20⟩ : Sapi_Span), (⟨30, 40⟩ : Sapi_Span)] : List Sapi_Span).flatMap e35) elT_23 (Eos.parts (l := [.tmp 31, .tmp 32, .tmp 33]) (.cons rfl (.cons rfl (.cons rfl .nil))) [0, 1, 2]) (fun _ => by kernel_rfl) rfl (by unfold maxLen; omega)) ?_
  intro b_3659 _
  refine WL.quiet (d := 8) rfl rfl rfl (q_assign rfl) ?_
  refine WL.nil ?_
  refine WX.then ?_
  refine WC.seq ?_
  obtain ⟨x_3660, hx_3661, h⟩ := bind_elim h
  refine WC.region ?_
  refine WL.quiet (d := 36) rfl rfl rfl (q_move rfl) ?_
  refine WL.callD (dd := 37) rfl rfl rfl (run_call (l := [.tmp 36, .const (.int .i64 1)]) Try.call15 (.cons rfl (.cons rfl .nil))) (.nil : Sel [row (.slice (some ⟨b_3659, 0, none⟩) (([(⟨0, 10⟩ : Sapi_Span), (⟨8, 20⟩ : Sapi_Span), (⟨30, 40⟩ : Sapi_Span)] : List Sapi_Span).length) 3) 35 2 (([(⟨0, 10⟩ : Sapi_Span), (⟨8, 20⟩ : Sapi_Span), (⟨30, 40⟩ : Sapi_Span)] : List Sapi_Span).flatMap e35), row (.slice (some ⟨b_3657, 0, none⟩) (([(-3), (-4)] : List Int).length) 2) 3 1 (([(-3), (-4)] : List Int).flatMap e3), row (.slice ao_3651 x_3646.1.length cap_3652) 3 1 (x_3646.1.flatMap e3), row (.slice (some ⟨b_3643, 0, none⟩) (([10, 12, 900, 11] : List Int).length) 4) 3 1 (([10, 12, 900, 11] : List Int).flatMap e3)] [] [row (.slice (some ⟨b_3659, 0, none⟩) (([(⟨0, 10⟩ : Sapi_Span), (⟨8, 20⟩ : Sapi_Span), (⟨30, 40⟩ : Sapi_Span)] : List Sapi_Span).length) 3) 35 2 (([(⟨0, 10⟩ : Sapi_Span), (⟨8, 20⟩ : Sapi_Span), (⟨30, 40⟩ : Sapi_Span)] : List Sapi_Span).flatMap e35), row (.slice (some ⟨b_3657, 0, none⟩) (([(-3), (-4)] : List Int).length) 2) 3 1 (([(-3), (-4)] : List Int).flatMap e3), row (.slice ao_3651 x_3646.1.length cap_3652) 3 1 (x_3646.1.flatMap e3), row (.slice (some ⟨b_3643, 0, none⟩) (([10, 12, 900, 11] : List Int).length) 4) 3 1 (([10, 12, 900, 11] : List Int).flatMap e3)]) (fun w hw => by have pz := (hz.call hw (.nil : Sel [row (.slice (some ⟨b_3659, 0, none⟩) (([(⟨0, 10⟩ : Sapi_Span), (⟨8, 20⟩ : Sapi_Span), (⟨30, 40⟩ : Sapi_Span)] : List Sapi_Span).length) 3) 35 2 (([(⟨0, 10⟩ : Sapi_Span), (⟨8, 20⟩ : Sapi_Span), (⟨30, 40⟩ : Sapi_Span)] : List Sapi_Span).flatMap e35), row (.slice (some ⟨b_3657, 0, none⟩) (([(-3), (-4)] : List Int).length) 2) 3 1 (([(-3), (-4)] : List Int).flatMap e3), row (.slice ao_3651 x_3646.1.length cap_3652) 3 1 (x_3646.1.flatMap e3), row (.slice (some ⟨b_3643, 0, none⟩) (([10, 12, 900, 11] : List Int).length) 4) 3 1 (([10, 12, 900, 11] : List Int).flatMap e3)] [] [row (.slice (some ⟨b_3659, 0, none⟩) (([(⟨0, 10⟩ : Sapi_Span), (⟨8, 20⟩ : Sapi_Span), (⟨30, 40⟩ : Sapi_Span)] : List Sapi_Span).length) 3) 35 2 (([(⟨0, 10⟩ : Sapi_Span), (⟨8, 20⟩ : Sapi_Span), (⟨30, 40⟩ : Sapi_Span)] : List Sapi_Span).flatMap e35), row (.slice (some ⟨b_3657, 0, none⟩) (([(-3), (-4)] : List Int).length) 2) 3 1 (([(-3), (-4)] : List Int).flatMap e3), row (.slice ao_3651 x_3646.1.length cap_3652) 3 1 (x_3646.1.flatMap e3), row (.slice (some ⟨b_3643, 0, none⟩) (([10, 12, 900, 11] : List Int).length) 4) 3 1 (([10, 12, 900, 11] : List Int).flatMap e3)])).lend hw (.nil : Sel [row (.slice (some ⟨b_3659, 0, none⟩) (([(⟨0, 10⟩ : Sapi_Span), (⟨8, 20⟩ : Sapi_Span), (⟨30, 40⟩ : Sapi_Span)] : List Sapi_Span).length) 3) 35 2 (([(⟨0, 10⟩ : Sapi_Span), (⟨8, 20⟩ : Sapi_Span), (⟨30, 40⟩ : Sapi_Span)] : List Sapi_Span).flatMap e35), row (.slice (some ⟨b_3657, 0, none⟩) (([(-3), (-4)] : List Int).length) 2) 3 1 (([(-3), (-4)] : List Int).flatMap e3), row (.slice ao_3651 x_3646.1.length cap_3652) 3 1 (x_3646.1.flatMap e3), row (.slice (some ⟨b_3643, 0, none⟩) (([10, 12, 900, 11] : List Int).length) 4) 3 1 (([10, 12, 900, 11] : List Int).flatMap e3)] [] [row (.slice (some ⟨b_3659, 0, none⟩) (([(⟨0, 10⟩ : Sapi_Span), (⟨8, 20⟩ : Sapi_Span), (⟨30, 40⟩ : Sapi_Span)] : List Sapi_Span).length) 3) 35 2 (([(⟨0, 10⟩ : Sapi_Span), (⟨8, 20⟩ : Sapi_Span), (⟨30, 40⟩ : Sapi_Span)] : List Sapi_Span).flatMap e35), row (.slice (some ⟨b_3657, 0, none⟩) (([(-3), (-4)] : List Int).length) 2) 3 1 (([(-3), (-4)] : List Int).flatMap e3), row (.slice ao_3651 x_3646.1.length cap_3652) 3 1 (x_3646.1.flatMap e3), row (.slice (some ⟨b_3643, 0, none⟩) (([10, 12, 900, 11] : List Int).length) 4) 3 1 (([10, 12, 900, 11] : List Int).flatMap e3)]) (B := [row (.slice (some ⟨b_3659, 0, none⟩) (([(⟨0, 10⟩ : Sapi_Span), (⟨8, 20⟩ : Sapi_Span), (⟨30, 40⟩ : Sapi_Span)] : List Sapi_Span).length) 3) 35 2 (([(⟨0, 10⟩ : Sapi_Span), (⟨8, 20⟩ : Sapi_Span), (⟨30, 40⟩ : Sapi_Span)] : List Sapi_Span).flatMap e35)]) (fun _ hx' => ((.cons .here .nil) : Sel _ [row (.slice (some ⟨b_3659, 0, none⟩) (([(⟨0, 10⟩ : Sapi_Span), (⟨8, 20⟩ : Sapi_Span), (⟨30, 40⟩ : Sapi_Span)] : List Sapi_Span).length) 3) 35 2 (([(⟨0, 10⟩ : Sapi_Span), (⟨8, 20⟩ : Sapi_Span), (⟨30, 40⟩ : Sapi_Span)] : List Sapi_Span).flatMap e35)] _).mem hx'); exact w_clock_Meet (Z := _) (ao_1423 := (some ⟨b_3659, 0, none⟩)) (cap_1424 := 3) (l_1422 := ([(⟨0, 10⟩ : Sapi_Span), (⟨8, 20⟩ : Sapi_Span), (⟨30, 40⟩ : Sapi_Span)] : List Sapi_Span)) (f_1426 := 1) (r := x_3660) w pz (ZA.row (hw.lent (.nil : Sel [row (.slice (some ⟨b_3659, 0, none⟩) (([(⟨0, 10⟩ : Sapi_Span), (⟨8, 20⟩ : Sapi_Span), (⟨30, 40⟩ : Sapi_Span)] : List Sapi_Span).length) 3) 35 2 (([(⟨0, 10⟩ : Sapi_Span), (⟨8, 20⟩ : Sapi_Span), (⟨30, 40⟩ : Sapi_Span)] : List Sapi_Span).flatMap e35), row (.slice (some ⟨b_3657, 0, none⟩) (([(-3), (-4)] : List Int).length) 2) 3 1 (([(-3), (-4)] : List Int).flatMap e3), row (.slice ao_3651 x_3646.1.length cap_3652) 3 1 (x_3646.1.flatMap e3), row (.slice (some ⟨b_3643, 0, none⟩) (([10, 12, 900, 11] : List Int).length) 4) 3 1 (([10, 12, 900, 11] : List Int).flatMap e3)] [] [row (.slice (some ⟨b_3659, 0, none⟩) (([(⟨0, 10⟩ : Sapi_Span), (⟨8, 20⟩ : Sapi_Span), (⟨30, 40⟩ : Sapi_Span)] : List Sapi_Span).length) 3) 35 2 (([(⟨0, 10⟩ : Sapi_Span), (⟨8, 20⟩ : Sapi_Span), (⟨30, 40⟩ : Sapi_Span)] : List Sapi_Span).flatMap e35), row (.slice (some ⟨b_3657, 0, none⟩) (([(-3), (-4)] : List Int).length) 2) 3 1 (([(-3), (-4)] : List Int).flatMap e3), row (.slice ao_3651 x_3646.1.length cap_3652) 3 1 (x_3646.1.flatMap e3), row (.slice (some ⟨b_3643, 0, none⟩) (([10, 12, 900, 11] : List Int).length) 4) 3 1 (([10, 12, 900, 11] : List Int).flatMap e3)]) (B := [row (.slice (some ⟨b_3659, 0, none⟩) (([(⟨0, 10⟩ : Sapi_Span), (⟨8, 20⟩ : Sapi_Span), (⟨30, 40⟩ : Sapi_Span)] : List Sapi_Span).length) 3) 35 2 (([(⟨0, 10⟩ : Sapi_Span), (⟨8, 20⟩ : Sapi_Span), (⟨30, 40⟩ : Sapi_Span)] : List Sapi_Span).flatMap e35)]) (fun _ hx' => ((.cons .here .nil) : Sel _ [row (.slice (some ⟨b_3659, 0, none⟩) (([(⟨0, 10⟩ : Sapi_Span), (⟨8, 20⟩ : Sapi_Span), (⟨30, 40⟩ : Sapi_Span)] : List Sapi_Span).length) 3) 35 2 (([(⟨0, 10⟩ : Sapi_Span), (⟨8, 20⟩ : Sapi_Span), (⟨30, 40⟩ : Sapi_Span)] : List Sapi_Span).flatMap e35)] _).mem hx') (.head _) _) (RR.flat (enc := e35) (fun _ => rfl) _) ⟨w, pz.1⟩) hx_3661) ?_
  refine WL.quiet (d := 35) rfl rfl rfl (q_move rfl) ?_
  refine WL.quiet (d := 38) rfl rfl rfl (q_extract rfl rfl) ?_
  refine WL.quiet (d := 39) rfl rfl rfl (q_extract rfl rfl) ?_
  refine WL.new (dd := 9) rfl rfl rfl (e_alloc (cs := [(.int .i64 0), (.int .i64 0)]) zeroT_35 rfl) ?_
  intro b_3663 _
  refine WL.eff0 rfl rfl (e_store (vs := [(.int .i64 x_3660.1.fLo), (.int .i64 x_3660.1.fHi)]) (ds := [(.int .i64 x_3660.1.fLo), (.int .i64 x_3660.1.fHi)]) sizT_35 rfl rfl rfl rfl (oc_cons rfl (oc_cons rfl oc_nil)) .here (Nat.le_of_ble_eq_true rfl) rfl) ?_
  refine WL.quiet (d := 10) rfl rfl rfl (q_assign rfl) ?_
  refine WL.nil ?_
  refine WX.then ?_
  refine WC.seq ?_
  obtain ⟨x_3664, hx_3665, h⟩ := bind_elim h
  refine WC.region ?_
  refine WL.quiet (d := 41) rfl rfl rfl (q_move rfl) ?_
  refine WL.callD (dd := 42) rfl rfl rfl (run_call (l := [.tmp 41, .const (.int .i64 0)]) Try.call15 (.cons rfl (.cons rfl .nil))) (.nil : Sel [stb b_3663 35 [(.int .i64 x_3660.1.fLo), (.int .i64 x_3660.1.fHi)], row (.slice (some ⟨b_3659, 0, none⟩) (([(⟨0, 10⟩ : Sapi_Span), (⟨8, 20⟩ : Sapi_Span), (⟨30, 40⟩ : Sapi_Span)] : List Sapi_Span).length) 3) 35 2 (([(⟨0, 10⟩ : Sapi_Span), (⟨8, 20⟩ : Sapi_Span), (⟨30, 40⟩ : Sapi_Span)] : List Sapi_Span).flatMap e35), row (.slice (some ⟨b_3657, 0, none⟩) (([(-3), (-4)] : List Int).length) 2) 3 1 (([(-3), (-4)] : List Int).flatMap e3), row (.slice ao_3651 x_3646.1.length cap_3652) 3 1 (x_3646.1.flatMap e3), row (.slice (some ⟨b_3643, 0, none⟩) (([10, 12, 900, 11] : List Int).length) 4) 3 1 (([10, 12, 900, 11] : List Int).flatMap e3)] [] [stb b_3663 35 [(.int .i64 x_3660.1.fLo), (.int .i64 x_3660.1.fHi)], row (.slice (some ⟨b_3659, 0, none⟩) (([(⟨0, 10⟩ : Sapi_Span), (⟨8, 20⟩ : Sapi_Span), (⟨30, 40⟩ : Sapi_Span)] : List Sapi_Span).length) 3) 35 2 (([(⟨0, 10⟩ : Sapi_Span), (⟨8, 20⟩ : Sapi_Span), (⟨30, 40⟩ : Sapi_Span)] : List Sapi_Span).flatMap e35), row (.slice (some ⟨b_3657, 0, none⟩) (([(-3), (-4)] : List Int).length) 2) 3 1 (([(-3), (-4)] : List Int).flatMap e3), row (.slice ao_3651 x_3646.1.length cap_3652) 3 1 (x_3646.1.flatMap e3), row (.slice (some ⟨b_3643, 0, none⟩) (([10, 12, 900, 11] : List Int).length) 4) 3 1 (([10, 12, 900, 11] : List Int).flatMap e3)]) (fun w hw => by have pz := (hz.call hw (.nil : Sel [stb b_3663 35 [(.int .i64 x_3660.1.fLo), (.int .i64 x_3660.1.fHi)], row (.slice (some ⟨b_3659, 0, none⟩) (([(⟨0, 10⟩ : Sapi_Span), (⟨8, 20⟩ : Sapi_Span), (⟨30, 40⟩ : Sapi_Span)] : List Sapi_Span).length) 3) 35 2 (([(⟨0, 10⟩ : Sapi_Span), (⟨8, 20⟩ : Sapi_Span), (⟨30, 40⟩ : Sapi_Span)] : List Sapi_Span).flatMap e35), row (.slice (some ⟨b_3657, 0, none⟩) (([(-3), (-4)] : List Int).length) 2) 3 1 (([(-3), (-4)] : List Int).flatMap e3), row (.slice ao_3651 x_3646.1.length cap_3652) 3 1 (x_3646.1.flatMap e3), row (.slice (some ⟨b_3643, 0, none⟩) (([10, 12, 900, 11] : List Int).length) 4) 3 1 (([10, 12, 900, 11] : List Int).flatMap e3)] [] [stb b_3663 35 [(.int .i64 x_3660.1.fLo), (.int .i64 x_3660.1.fHi)], row (.slice (some ⟨b_3659, 0, none⟩) (([(⟨0, 10⟩ : Sapi_Span), (⟨8, 20⟩ : Sapi_Span), (⟨30, 40⟩ : Sapi_Span)] : List Sapi_Span).length) 3) 35 2 (([(⟨0, 10⟩ : Sapi_Span), (⟨8, 20⟩ : Sapi_Span), (⟨30, 40⟩ : Sapi_Span)] : List Sapi_Span).flatMap e35), row (.slice (some ⟨b_3657, 0, none⟩) (([(-3), (-4)] : List Int).length) 2) 3 1 (([(-3), (-4)] : List Int).flatMap e3), row (.slice ao_3651 x_3646.1.length cap_3652) 3 1 (x_3646.1.flatMap e3), row (.slice (some ⟨b_3643, 0, none⟩) (([10, 12, 900, 11] : List Int).length) 4) 3 1 (([10, 12, 900, 11] : List Int).flatMap e3)])).lend hw (.nil : Sel [stb b_3663 35 [(.int .i64 x_3660.1.fLo), (.int .i64 x_3660.1.fHi)], row (.slice (some ⟨b_3659, 0, none⟩) (([(⟨0, 10⟩ : Sapi_Span), (⟨8, 20⟩ : Sapi_Span), (⟨30, 40⟩ : Sapi_Span)] : List Sapi_Span).length) 3) 35 2 (([(⟨0, 10⟩ : Sapi_Span), (⟨8, 20⟩ : Sapi_Span), (⟨30, 40⟩ : Sapi_Span)] : List Sapi_Span).flatMap e35), row (.slice (some ⟨b_3657, 0, none⟩) (([(-3), (-4)] : List Int).length) 2) 3 1 (([(-3), (-4)] : List Int).flatMap e3), row (.slice ao_3651 x_3646.1.length cap_3652) 3 1 (x_3646.1.flatMap e3), row (.slice (some ⟨b_3643, 0, none⟩) (([10, 12, 900, 11] : List Int).length) 4) 3 1 (([10, 12, 900, 11] : List Int).flatMap e3)] [] [stb b_3663 35 [(.int .i64 x_3660.1.fLo), (.int .i64 x_3660.1.fHi)], row (.slice (some ⟨b_3659, 0, none⟩) (([(⟨0, 10⟩ : Sapi_Span), (⟨8, 20⟩ : Sapi_Span), (⟨30, 40⟩ : Sapi_Span)] : List Sapi_Span).length) 3) 35 2 (([(⟨0, 10⟩ : Sapi_Span), (⟨8, 20⟩ : Sapi_Span), (⟨30, 40⟩ : Sapi_Span)] : List Sapi_Span).flatMap e35), row (.slice (some ⟨b_3657, 0, none⟩) (([(-3), (-4)] : List Int).length) 2) 3 1 (([(-3), (-4)] : List Int).flatMap e3), row (.slice ao_3651 x_3646.1.length cap_3652) 3 1 (x_3646.1.flatMap e3), row (.slice (some ⟨b_3643, 0, none⟩) (([10, 12, 900, 11] : List Int).length) 4) 3 1 (([10, 12, 900, 11] : List Int).flatMap e3)]) (B := [row (.slice (some ⟨b_3659, 0, none⟩) (([(⟨0, 10⟩ : Sapi_Span), (⟨8, 20⟩ : Sapi_Span), (⟨30, 40⟩ : Sapi_Span)] : List Sapi_Span).length) 3) 35 2 (([(⟨0, 10⟩ : Sapi_Span), (⟨8, 20⟩ : Sapi_Span), (⟨30, 40⟩ : Sapi_Span)] : List Sapi_Span).flatMap e35)]) (fun _ hx' => ((.cons (.there .here) .nil) : Sel _ [row (.slice (some ⟨b_3659, 0, none⟩) (([(⟨0, 10⟩ : Sapi_Span), (⟨8, 20⟩ : Sapi_Span), (⟨30, 40⟩ : Sapi_Span)] : List Sapi_Span).length) 3) 35 2 (([(⟨0, 10⟩ : Sapi_Span), (⟨8, 20⟩ : Sapi_Span), (⟨30, 40⟩ : Sapi_Span)] : List Sapi_Span).flatMap e35)] _).mem hx'); exact w_clock_Meet (Z := _) (ao_1423 := (some ⟨b_3659, 0, none⟩)) (cap_1424 := 3) (l_1422 := ([(⟨0, 10⟩ : Sapi_Span), (⟨8, 20⟩ : Sapi_Span), (⟨30, 40⟩ : Sapi_Span)] : List Sapi_Span)) (f_1426 := 0) (r := x_3664) w pz (ZA.row (hw.lent (.nil : Sel [stb b_3663 35 [(.int .i64 x_3660.1.fLo), (.int .i64 x_3660.1.fHi)], row (.slice (some ⟨b_3659, 0, none⟩) (([(⟨0, 10⟩ : Sapi_Span), (⟨8, 20⟩ : Sapi_Span), (⟨30, 40⟩ : Sapi_Span)] : List Sapi_Span).length) 3) 35 2 (([(⟨0, 10⟩ : Sapi_Span), (⟨8, 20⟩ : Sapi_Span), (⟨30, 40⟩ : Sapi_Span)] : List Sapi_Span).flatMap e35), row (.slice (some ⟨b_3657, 0, none⟩) (([(-3), (-4)] : List Int).length) 2) 3 1 (([(-3), (-4)] : List Int).flatMap e3), row (.slice ao_3651 x_3646.1.length cap_3652) 3 1 (x_3646.1.flatMap e3), row (.slice (some ⟨b_3643, 0, none⟩) (([10, 12, 900, 11] : List Int).length) 4) 3 1 (([10, 12, 900, 11] : List Int).flatMap e3)] [] [stb b_3663 35 [(.int .i64 x_3660.1.fLo), (.int .i64 x_3660.1.fHi)], row (.slice (some ⟨b_3659, 0, none⟩) (([(⟨0, 10⟩ : Sapi_Span), (⟨8, 20⟩ : Sapi_Span), (⟨30, 40⟩ : Sapi_Span)] : List Sapi_Span).length) 3) 35 2 (([(⟨0, 10⟩ : Sapi_Span), (⟨8, 20⟩ : Sapi_Span), (⟨30, 40⟩ : Sapi_Span)] : List Sapi_Span).flatMap e35), row (.slice (some ⟨b_3657, 0, none⟩) (([(-3), (-4)] : List Int).length) 2) 3 1 (([(-3), (-4)] : List Int).flatMap e3), row (.slice ao_3651 x_3646.1.length cap_3652) 3 1 (x_3646.1.flatMap e3), row (.slice (some ⟨b_3643, 0, none⟩) (([10, 12, 900, 11] : List Int).length) 4) 3 1 (([10, 12, 900, 11] : List Int).flatMap e3)]) (B := [row (.slice (some ⟨b_3659, 0, none⟩) (([(⟨0, 10⟩ : Sapi_Span), (⟨8, 20⟩ : Sapi_Span), (⟨30, 40⟩ : Sapi_Span)] : List Sapi_Span).length) 3) 35 2 (([(⟨0, 10⟩ : Sapi_Span), (⟨8, 20⟩ : Sapi_Span), (⟨30, 40⟩ : Sapi_Span)] : List Sapi_Span).flatMap e35)]) (fun _ hx' => ((.cons (.there .here) .nil) : Sel _ [row (.slice (some ⟨b_3659, 0, none⟩) (([(⟨0, 10⟩ : Sapi_Span), (⟨8, 20⟩ : Sapi_Span), (⟨30, 40⟩ : Sapi_Span)] : List Sapi_Span).length) 3) 35 2 (([(⟨0, 10⟩ : Sapi_Span), (⟨8, 20⟩ : Sapi_Span), (⟨30, 40⟩ : Sapi_Span)] : List Sapi_Span).flatMap e35)] _).mem hx') (.head _) _) (RR.flat (enc := e35) (fun _ => rfl) _) ⟨w, pz.1⟩) hx_3665) ?_
  refine WL.quiet (d := 40) rfl rfl rfl (q_move rfl) ?_
  refine WL.quiet (d := 43) rfl rfl rfl (q_extract rfl rfl) ?_
  refine WL.quiet (d := 44) rfl rfl rfl (q_extract rfl rfl) ?_
  refine WL.new (dd := 11) rfl rfl rfl (e_alloc (cs := [(.int .i64 0), (.int .i64 0)]) zeroT_35 rfl) ?_
  intro b_3667 _
  refine WL.eff0 rfl rfl (e_store (vs := [(.int .i64 x_3664.1.fLo), (.int .i64 x_3664.1.fHi)]) (ds := [(.int .i64 x_3664.1.fLo), (.int .i64 x_3664.1.fHi)]) sizT_35 rfl rfl rfl rfl (oc_cons rfl (oc_cons rfl oc_nil)) .here (Nat.le_of_ble_eq_true rfl) rfl) ?_
  refine WL.quiet (d := 12) rfl rfl rfl (q_assign rfl) ?_
  refine WL.nil ?_
  refine WX.then ?_
  refine WC.seq ?_
  obtain ⟨c_3668, h⟩ := chk_elim h
  obtain ⟨x_3671, hx_3672, h⟩ := bind_elim h
  refine WC.region ?_
  refine WL.quiet (d := 46) rfl rfl rfl (q_move rfl) ?_
  refine WL.rowHiD (dd := 47) (enc := e3) (ls := ([10, 12, 900, 11] : List Int)) rfl rfl elT_22 rfl rfl (.there (.there (.there (.there (.there .here))))) (fun _ => rfl) c_3668 ?_
  intro ao_3673 cap_3674
  refine WL.callD (dd := 48) rfl rfl rfl (run_call (l := [.tmp 47, .const (.int .i64 2)]) Try.call11 (.cons rfl (.cons rfl .nil))) (.nil : Sel [row (.slice ao_3673 ((([10, 12, 900, 11] : List Int).take (3 : Int).toNat).length) cap_3674) 3 1 ((([10, 12, 900, 11] : List Int).take (3 : Int).toNat).flatMap e3), stb b_3667 35 [(.int .i64 x_3664.1.fLo), (.int .i64 x_3664.1.fHi)], stb b_3663 35 [(.int .i64 x_3660.1.fLo), (.int .i64 x_3660.1.fHi)], row (.slice (some ⟨b_3659, 0, none⟩) (([(⟨0, 10⟩ : Sapi_Span), (⟨8, 20⟩ : Sapi_Span), (⟨30, 40⟩ : Sapi_Span)] : List Sapi_Span).length) 3) 35 2 (([(⟨0, 10⟩ : Sapi_Span), (⟨8, 20⟩ : Sapi_Span), (⟨30, 40⟩ : Sapi_Span)] : List Sapi_Span).flatMap e35), row (.slice (some ⟨b_3657, 0, none⟩) (([(-3), (-4)] : List Int).length) 2) 3 1 (([(-3), (-4)] : List Int).flatMap e3), row (.slice ao_3651 x_3646.1.length cap_3652) 3 1 (x_3646.1.flatMap e3)] [] [row (.slice ao_3673 ((([10, 12, 900, 11] : List Int).take (3 : Int).toNat).length) cap_3674) 3 1 ((([10, 12, 900, 11] : List Int).take (3 : Int).toNat).flatMap e3), stb b_3667 35 [(.int .i64 x_3664.1.fLo), (.int .i64 x_3664.1.fHi)], stb b_3663 35 [(.int .i64 x_3660.1.fLo), (.int .i64 x_3660.1.fHi)], row (.slice (some ⟨b_3659, 0, none⟩) (([(⟨0, 10⟩ : Sapi_Span), (⟨8, 20⟩ : Sapi_Span), (⟨30, 40⟩ : Sapi_Span)] : List Sapi_Span).length) 3) 35 2 (([(⟨0, 10⟩ : Sapi_Span), (⟨8, 20⟩ : Sapi_Span), (⟨30, 40⟩ : Sapi_Span)] : List Sapi_Span).flatMap e35), row (.slice (some ⟨b_3657, 0, none⟩) (([(-3), (-4)] : List Int).length) 2) 3 1 (([(-3), (-4)] : List Int).flatMap e3), row (.slice ao_3651 x_3646.1.length cap_3652) 3 1 (x_3646.1.flatMap e3)]) (fun w hw => by have pz := (hz.call hw (.nil : Sel [row (.slice ao_3673 ((([10, 12, 900, 11] : List Int).take (3 : Int).toNat).length) cap_3674) 3 1 ((([10, 12, 900, 11] : List Int).take (3 : Int).toNat).flatMap e3), stb b_3667 35 [(.int .i64 x_3664.1.fLo), (.int .i64 x_3664.1.fHi)], stb b_3663 35 [(.int .i64 x_3660.1.fLo), (.int .i64 x_3660.1.fHi)], row (.slice (some ⟨b_3659, 0, none⟩) (([(⟨0, 10⟩ : Sapi_Span), (⟨8, 20⟩ : Sapi_Span), (⟨30, 40⟩ : Sapi_Span)] : List Sapi_Span).length) 3) 35 2 (([(⟨0, 10⟩ : Sapi_Span), (⟨8, 20⟩ : Sapi_Span), (⟨30, 40⟩ : Sapi_Span)] : List Sapi_Span).flatMap e35), row (.slice (some ⟨b_3657, 0, none⟩) (([(-3), (-4)] : List Int).length) 2) 3 1 (([(-3), (-4)] : List Int).flatMap e3), row (.slice ao_3651 x_3646.1.length cap_3652) 3 1 (x_3646.1.flatMap e3)] [] [row (.slice ao_3673 ((([10, 12, 900, 11] : List Int).take (3 : Int).toNat).length) cap_3674) 3 1 ((([10, 12, 900, 11] : List Int).take (3 : Int).toNat).flatMap e3), stb b_3667 35 [(.int .i64 x_3664.1.fLo), (.int .i64 x_3664.1.fHi)], stb b_3663 35 [(.int .i64 x_3660.1.fLo), (.int .i64 x_3660.1.fHi)], row (.slice (some ⟨b_3659, 0, none⟩) (([(⟨0, 10⟩ : Sapi_Span), (⟨8, 20⟩ : Sapi_Span), (⟨30, 40⟩ : Sapi_Span)] : List Sapi_Span).length) 3) 35 2 (([(⟨0, 10⟩ : Sapi_Span), (⟨8, 20⟩ : Sapi_Span), (⟨30, 40⟩ : Sapi_Span)] : List Sapi_Span).flatMap e35), row (.slice (some ⟨b_3657, 0, none⟩) (([(-3), (-4)] : List Int).length) 2) 3 1 (([(-3), (-4)] : List Int).flatMap e3), row (.slice ao_3651 x_3646.1.length cap_3652) 3 1 (x_3646.1.flatMap e3)])).lend hw (.nil : Sel [row (.slice ao_3673 ((([10, 12, 900, 11] : List Int).take (3 : Int).toNat).length) cap_3674) 3 1 ((([10, 12, 900, 11] : List Int).take (3 : Int).toNat).flatMap e3), stb b_3667 35 [(.int .i64 x_3664.1.fLo), (.int .i64 x_3664.1.fHi)], stb b_3663 35 [(.int .i64 x_3660.1.fLo), (.int .i64 x_3660.1.fHi)], row (.slice (some ⟨b_3659, 0, none⟩) (([(⟨0, 10⟩ : Sapi_Span), (⟨8, 20⟩ : Sapi_Span), (⟨30, 40⟩ : Sapi_Span)] : List Sapi_Span).length) 3) 35 2 (([(⟨0, 10⟩ : Sapi_Span), (⟨8, 20⟩ : Sapi_Span), (⟨30, 40⟩ : Sapi_Span)] : List Sapi_Span).flatMap e35), row (.slice (some ⟨b_3657, 0, none⟩) (([(-3), (-4)] : List Int).length) 2) 3 1 (([(-3), (-4)] : List Int).flatMap e3), row (.slice ao_3651 x_3646.1.length cap_3652) 3 1 (x_3646.1.flatMap e3)] [] [row (.slice ao_3673 ((([10, 12, 900, 11] : List Int).take (3 : Int).toNat).length) cap_3674) 3 1 ((([10, 12, 900, 11] : List Int).take (3 : Int).toNat).flatMap e3), stb b_3667 35 [(.int .i64 x_3664.1.fLo), (.int .i64 x_3664.1.fHi)], stb b_3663 35 [(.int .i64 x_3660.1.fLo), (.int .i64 x_3660.1.fHi)], row (.slice (some ⟨b_3659, 0, none⟩) (([(⟨0, 10⟩ : Sapi_Span), (⟨8, 20⟩ : Sapi_Span), (⟨30, 40⟩ : Sapi_Span)] : List Sapi_Span).length) 3) 35 2 (([(⟨0, 10⟩ : Sapi_Span), (⟨8, 20⟩ : Sapi_Span), (⟨30, 40⟩ : Sapi_Span)] : List Sapi_Span).flatMap e35), row (.slice (some ⟨b_3657, 0, none⟩) (([(-3), (-4)] : List Int).length) 2) 3 1 (([(-3), (-4)] : List Int).flatMap e3), row (.slice ao_3651 x_3646.1.length cap_3652) 3 1 (x_3646.1.flatMap e3)]) (B := [row (.slice ao_3673 ((([10, 12, 900, 11] : List Int).take (3 : Int).toNat).length) cap_3674) 3 1 ((([10, 12, 900, 11] : List Int).take (3 : Int).toNat).flatMap e3)]) (fun _ hx' => ((.cons .here .nil) : Sel _ [row (.slice ao_3673 ((([10, 12, 900, 11] : List Int).take (3 : Int).toNat).length) cap_3674) 3 1 ((([10, 12, 900, 11] : List Int).take (3 : Int).toNat).flatMap e3)] _).mem hx'); exact w_clock_Midpoint (Z := _) (ao_17 := ao_3673) (cap_18 := cap_3674) (l_16 := (([10, 12, 900, 11] : List Int).take (3 : Int).toNat)) (f_20 := 2) (r := x_3671) w pz (ZA.row (hw.lent (.nil : Sel [row (.slice ao_3673 ((([10, 12, 900, 11] : List Int).take (3 : Int).toNat).length) cap_3674) 3 1 ((([10, 12, 900, 11] : List Int).take (3 : Int).toNat).flatMap e3), stb b_3667 35 [(.int .i64 x_3664.1.fLo), (.int .i64 x_3664.1.fHi)], stb b_3663 35 [(.int .i64 x_3660.1.fLo), (.int .i64 x_3660.1.fHi)], row (.slice (some ⟨b_3659, 0, none⟩) (([(⟨0, 10⟩ : Sapi_Span), (⟨8, 20⟩ : Sapi_Span), (⟨30, 40⟩ : Sapi_Span)] : List Sapi_Span).length) 3) 35 2 (([(⟨0, 10⟩ : Sapi_Span), (⟨8, 20⟩ : Sapi_Span), (⟨30, 40⟩ : Sapi_Span)] : List Sapi_Span).flatMap e35), row (.slice (some ⟨b_3657, 0, none⟩) (([(-3), (-4)] : List Int).length) 2) 3 1 (([(-3), (-4)] : List Int).flatMap e3), row (.slice ao_3651 x_3646.1.length cap_3652) 3 1 (x_3646.1.flatMap e3)] [] [row (.slice ao_3673 ((([10, 12, 900, 11] : List Int).take (3 : Int).toNat).length) cap_3674) 3 1 ((([10, 12, 900, 11] : List Int).take (3 : Int).toNat).flatMap e3), stb b_3667 35 [(.int .i64 x_3664.1.fLo), (.int .i64 x_3664.1.fHi)], stb b_3663 35 [(.int .i64 x_3660.1.fLo), (.int .i64 x_3660.1.fHi)], row (.slice (some ⟨b_3659, 0, none⟩) (([(⟨0, 10⟩ : Sapi_Span), (⟨8, 20⟩ : Sapi_Span), (⟨30, 40⟩ : Sapi_Span)] : List Sapi_Span).length) 3) 35 2 (([(⟨0, 10⟩ : Sapi_Span), (⟨8, 20⟩ : Sapi_Span), (⟨30, 40⟩ : Sapi_Span)] : List Sapi_Span).flatMap e35), row (.slice (some ⟨b_3657, 0, none⟩) (([(-3), (-4)] : List Int).length) 2) 3 1 (([(-3), (-4)] : List Int).flatMap e3), row (.slice ao_3651 x_3646.1.length cap_3652) 3 1 (x_3646.1.flatMap e3)]) (B := [row (.slice ao_3673 ((([10, 12, 900, 11] : List Int).take (3 : Int).toNat).length) cap_3674) 3 1 ((([10, 12, 900, 11] : List Int).take (3 : Int).toNat).flatMap e3)]) (fun _ hx' => ((.cons .here .nil) : Sel _ [row (.slice ao_3673 ((([10, 12, 900, 11] : List Int).take (3 : Int).toNat).length) cap_3674) 3 1 ((([10, 12, 900, 11] : List Int).take (3 : Int).toNat).flatMap e3)] _).mem hx') (.head _) _) (RR.flat (enc := e3) (fun _ => rfl) _) ⟨w, pz.1⟩) hx_3672) ?_
  refine WL.quiet (d := 45) rfl rfl rfl (q_move rfl) ?_
  refine WL.quiet (d := 49) rfl rfl rfl (q_extract rfl rfl) ?_
  refine WL.quiet (d := 50) rfl rfl rfl (q_extract rfl rfl) ?_
  refine WL.quiet (d := 13) rfl rfl rfl (q_assign rfl) ?_
  refine WL.quiet (d := 14) rfl rfl rfl (q_assign rfl) ?_
  refine WL.nil ?_
  refine WX.then ?_
  refine WC.seq ?_
  obtain ⟨b_3678, hb_3679, h⟩ := bind_elim h
  refine WC.region ?_
  refine WL.quiet (d := 51) rfl rfl rfl (q_move rfl) ?_
  refine WL.quiet (d := 52) rfl rfl rfl (q_move rfl) ?_
  refine WL.quiet (d := 53) rfl rfl rfl (q_add rfl rfl rfl) ?_
  refine WL.quiet (d := 54) rfl rfl rfl (q_move rfl) ?_
  refine WL.quiet (d := 55) rfl rfl rfl (q_add rfl rfl rfl) ?_
  refine WL.quiet (d := 56) rfl rfl rfl (q_move rfl) ?_
  refine WL.quiet (d := 57) rfl rfl rfl (q_add rfl rfl rfl) ?_
  refine WL.quiet (d := 58) rfl rfl rfl (q_eql rfl rfl) ?_
  refine WL.quiet (d := 59) rfl rfl rfl (q_move rfl) ?_
  refine WL.cut0 True [(0, (.bool false)), (4, (.slice ao_3651 x_3646.1.length cap_3652)), (6, (.int .i64 x_3655.1)), (9, (.pointer (some ⟨b_3663, 0, none⟩))), (12, (.int .i64 x_3664.2)), (14, (.int .i64 x_3671.2)), (62, (.bool ((decide ((i64 ((i64 ((i64 (x_3644.2 + x_3646.2)) + x_3655.2)) + x_3660.2)) = 0)) && (decide (x_3644.1 = 11)))))] [row (.slice ao_3673 ((([10, 12, 900, 11] : List Int).take (3 : Int).toNat).length) cap_3674) 3 1 ((([10, 12, 900, 11] : List Int).take (3 : Int).toNat).flatMap e3), stb b_3667 35 [(.int .i64 x_3664.1.fLo), (.int .i64 x_3664.1.fHi)], stb b_3663 35 [(.int .i64 x_3660.1.fLo), (.int .i64 x_3660.1.fHi)], row (.slice (some ⟨b_3659, 0, none⟩) (([(⟨0, 10⟩ : Sapi_Span), (⟨8, 20⟩ : Sapi_Span), (⟨30, 40⟩ : Sapi_Span)] : List Sapi_Span).length) 3) 35 2 (([(⟨0, 10⟩ : Sapi_Span), (⟨8, 20⟩ : Sapi_Span), (⟨30, 40⟩ : Sapi_Span)] : List Sapi_Span).flatMap e35), row (.slice (some ⟨b_3657, 0, none⟩) (([(-3), (-4)] : List Int).length) 2) 3 1 (([(-3), (-4)] : List Int).flatMap e3), row (.slice ao_3651 x_3646.1.length cap_3652) 3 1 (x_3646.1.flatMap e3)] 3 ?_ (fun _ => ?_)
  · rcases Bool.eq_false_or_eq_true (decide ((i64 ((i64 ((i64 (x_3644.2 + x_3646.2)) + x_3655.2)) + x_3660.2)) = 0)) with hb' | hb'
    · have hg_3680 := hb'; clear hb'
      refine WL.pin (i := 59) rfl hg_3680 ?_
      refine WL.quiet (d := 60) rfl rfl rfl (q_move rfl) ?_
      refine WL.quiet (d := 61) rfl rfl rfl (q_eql rfl rfl) ?_
      refine WL.quiet (d := 62) rfl rfl rfl (q_pickT rfl rfl) ?_
      exact WL.cutEnd () trivial (.cons rfl (.cons rfl (.cons rfl (.cons rfl (.cons rfl (.cons rfl (.cons (some_bool (and_r hg_3680)) .nil))))))) (.cons .here (.cons .here (.cons .here (.cons .here (.cons .here (.cons .here .nil))))))
    · have hg_3681 := hb'; clear hb'
      refine WL.pin (i := 59) rfl hg_3681 ?_
      refine WL.skip rfl rfl rfl ?_
      refine WL.skip rfl rfl rfl ?_
      refine WL.quiet (d := 62) rfl rfl rfl (q_pickF rfl rfl) ?_
      exact WL.cutEnd () trivial (.cons rfl (.cons rfl (.cons rfl (.cons rfl (.cons rfl (.cons rfl (.cons (some_bool (and_l hg_3681)) .nil))))))) (.cons .here (.cons .here (.cons .here (.cons .here (.cons .here (.cons .here .nil))))))
  · skip
    refine WL.quiet (d := 63) rfl rfl rfl (q_move rfl) ?_
    refine WL.cut0 True [(0, (.bool false)), (6, (.int .i64 x_3655.1)), (9, (.pointer (some ⟨b_3663, 0, none⟩))), (12, (.int .i64 x_3664.2)), (14, (.int .i64 x_3671.2)), (67, (.bool b_3678))] [row (.slice ao_3673 ((([10, 12, 900, 11] : List Int).take (3 : Int).toNat).length) cap_3674) 3 1 ((([10, 12, 900, 11] : List Int).take (3 : Int).toNat).flatMap e3), stb b_3667 35 [(.int .i64 x_3664.1.fLo), (.int .i64 x_3664.1.fHi)], stb b_3663 35 [(.int .i64 x_3660.1.fLo), (.int .i64 x_3660.1.fHi)], row (.slice (some ⟨b_3659, 0, none⟩) (([(⟨0, 10⟩ : Sapi_Span), (⟨8, 20⟩ : Sapi_Span), (⟨30, 40⟩ : Sapi_Span)] : List Sapi_Span).length) 3) 35 2 (([(⟨0, 10⟩ : Sapi_Span), (⟨8, 20⟩ : Sapi_Span), (⟨30, 40⟩ : Sapi_Span)] : List Sapi_Span).flatMap e35), row (.slice (some ⟨b_3657, 0, none⟩) (([(-3), (-4)] : List Int).length) 2) 3 1 (([(-3), (-4)] : List Int).flatMap e3), row (.slice ao_3651 x_3646.1.length cap_3652) 3 1 (x_3646.1.flatMap e3)] 4 ?_ (fun _ => ?_)
    · rcases Bool.eq_false_or_eq_true ((decide ((i64 ((i64 ((i64 (x_3644.2 + x_3646.2)) + x_3655.2)) + x_3660.2)) = 0)) && (decide (x_3644.1 = 11))) with hb' | hb'
      · have hg_3682 := hb'; clear hb'
        have hq_3683 := ite_t hb_3679 hg_3682
        obtain ⟨x_3676, hx_3677, hq_3683⟩ := bind_elim hq_3683
        replace hq_3683 := Option.some.inj hq_3683
        refine WL.pin (i := 63) rfl hg_3682 ?_
        refine WL.quiet (d := 64) rfl rfl rfl (q_move rfl) ?_
        refine WL.new (dd := 65) rfl rfl rfl (e_buildSlice (cs := ([2] : List Int).flatMap e3) elT_22 (Eos.parts (l := [.const (.int .i64 2)]) (.cons rfl .nil) [0]) (fun _ => by kernel_rfl) rfl (by unfold maxLen; omega)) ?_
        intro b_3684 _
        refine WL.callD (dd := 66) rfl rfl rfl (run_call (l := [.tmp 64, .tmp 65]) Try.call17 (.cons rfl (.cons rfl .nil))) (.nil : Sel [row (.slice (some ⟨b_3684, 0, none⟩) (([2] : List Int).length) 1) 3 1 (([2] : List Int).flatMap e3), row (.slice ao_3673 ((([10, 12, 900, 11] : List Int).take (3 : Int).toNat).length) cap_3674) 3 1 ((([10, 12, 900, 11] : List Int).take (3 : Int).toNat).flatMap e3), stb b_3667 35 [(.int .i64 x_3664.1.fLo), (.int .i64 x_3664.1.fHi)], stb b_3663 35 [(.int .i64 x_3660.1.fLo), (.int .i64 x_3660.1.fHi)], row (.slice (some ⟨b_3659, 0, none⟩) (([(⟨0, 10⟩ : Sapi_Span), (⟨8, 20⟩ : Sapi_Span), (⟨30, 40⟩ : Sapi_Span)] : List Sapi_Span).length) 3) 35 2 (([(⟨0, 10⟩ : Sapi_Span), (⟨8, 20⟩ : Sapi_Span), (⟨30, 40⟩ : Sapi_Span)] : List Sapi_Span).flatMap e35), row (.slice (some ⟨b_3657, 0, none⟩) (([(-3), (-4)] : List Int).length) 2) 3 1 (([(-3), (-4)] : List Int).flatMap e3), row (.slice ao_3651 x_3646.1.length cap_3652) 3 1 (x_3646.1.flatMap e3)] [] [row (.slice (some ⟨b_3684, 0, none⟩) (([2] : List Int).length) 1) 3 1 (([2] : List Int).flatMap e3), row (.slice ao_3673 ((([10, 12, 900, 11] : List Int).take (3 : Int).toNat).length) cap_3674) 3 1 ((([10, 12, 900, 11] : List Int).take (3 : Int).toNat).flatMap e3), stb b_3667 35 [(.int .i64 x_3664.1.fLo), (.int .i64 x_3664.1.fHi)], stb b_3663 35 [(.int .i64 x_3660.1.fLo), (.int .i64 x_3660.1.fHi)], row (.slice (some ⟨b_3659, 0, none⟩) (([(⟨0, 10⟩ : Sapi_Span), (⟨8, 20⟩ : Sapi_Span), (⟨30, 40⟩ : Sapi_Span)] : List Sapi_Span).length) 3) 35 2 (([(⟨0, 10⟩ : Sapi_Span), (⟨8, 20⟩ : Sapi_Span), (⟨30, 40⟩ : Sapi_Span)] : List Sapi_Span).flatMap e35), row (.slice (some ⟨b_3657, 0, none⟩) (([(-3), (-4)] : List Int).length) 2) 3 1 (([(-3), (-4)] : List Int).flatMap e3), row (.slice ao_3651 x_3646.1.length cap_3652) 3 1 (x_3646.1.flatMap e3)]) (fun w hw => by have pz := (hz.call hw (.nil : Sel [row (.slice (some ⟨b_3684, 0, none⟩) (([2] : List Int).length) 1) 3 1 (([2] : List Int).flatMap e3), row (.slice ao_3673 ((([10, 12, 900, 11] : List Int).take (3 : Int).toNat).length) cap_3674) 3 1 ((([10, 12, 900, 11] : List Int).take (3 : Int).toNat).flatMap e3), stb b_3667 35 [(.int .i64 x_3664.1.fLo), (.int .i64 x_3664.1.fHi)], stb b_3663 35 [(.int .i64 x_3660.1.fLo), (.int .i64 x_3660.1.fHi)], row (.slice (some ⟨b_3659, 0, none⟩) (([(⟨0, 10⟩ : Sapi_Span), (⟨8, 20⟩ : Sapi_Span), (⟨30, 40⟩ : Sapi_Span)] : List Sapi_Span).length) 3) 35 2 (([(⟨0, 10⟩ : Sapi_Span), (⟨8, 20⟩ : Sapi_Span), (⟨30, 40⟩ : Sapi_Span)] : List Sapi_Span).flatMap e35), row (.slice (some ⟨b_3657, 0, none⟩) (([(-3), (-4)] : List Int).length) 2) 3 1 (([(-3), (-4)] : List Int).flatMap e3), row (.slice ao_3651 x_3646.1.length cap_3652) 3 1 (x_3646.1.flatMap e3)] [] [row (.slice (some ⟨b_3684, 0, none⟩) (([2] : List Int).length) 1) 3 1 (([2] : List Int).flatMap e3), row (.slice ao_3673 ((([10, 12, 900, 11] : List Int).take (3 : Int).toNat).length) cap_3674) 3 1 ((([10, 12, 900, 11] : List Int).take (3 : Int).toNat).flatMap e3), stb b_3667 35 [(.int .i64 x_3664.1.fLo), (.int .i64 x_3664.1.fHi)], stb b_3663 35 [(.int .i64 x_3660.1.fLo), (.int .i64 x_3660.1.fHi)], row (.slice (some ⟨b_3659, 0, none⟩) (([(⟨0, 10⟩ : Sapi_Span), (⟨8, 20⟩ : Sapi_Span), (⟨30, 40⟩ : Sapi_Span)] : List Sapi_Span).length) 3) 35 2 (([(⟨0, 10⟩ : Sapi_Span), (⟨8, 20⟩ : Sapi_Span), (⟨30, 40⟩ : Sapi_Span)] : List Sapi_Span).flatMap e35), row (.slice (some ⟨b_3657, 0, none⟩) (([(-3), (-4)] : List Int).length) 2) 3 1 (([(-3), (-4)] : List Int).flatMap e3), row (.slice ao_3651 x_3646.1.length cap_3652) 3 1 (x_3646.1.flatMap e3)])).lend hw (.nil : Sel [row (.slice (some ⟨b_3684, 0, none⟩) (([2] : List Int).length) 1) 3 1 (([2] : List Int).flatMap e3), row (.slice ao_3673 ((([10, 12, 900, 11] : List Int).take (3 : Int).toNat).length) cap_3674) 3 1 ((([10, 12, 900, 11] : List Int).take (3 : Int).toNat).flatMap e3), stb b_3667 35 [(.int .i64 x_3664.1.fLo), (.int .i64 x_3664.1.fHi)], stb b_3663 35 [(.int .i64 x_3660.1.fLo), (.int .i64 x_3660.1.fHi)], row (.slice (some ⟨b_3659, 0, none⟩) (([(⟨0, 10⟩ : Sapi_Span), (⟨8, 20⟩ : Sapi_Span), (⟨30, 40⟩ : Sapi_Span)] : List Sapi_Span).length) 3) 35 2 (([(⟨0, 10⟩ : Sapi_Span), (⟨8, 20⟩ : Sapi_Span), (⟨30, 40⟩ : Sapi_Span)] : List Sapi_Span).flatMap e35), row (.slice (some ⟨b_3657, 0, none⟩) (([(-3), (-4)] : List Int).length) 2) 3 1 (([(-3), (-4)] : List Int).flatMap e3), row (.slice ao_3651 x_3646.1.length cap_3652) 3 1 (x_3646.1.flatMap e3)] [] [row (.slice (some ⟨b_3684, 0, none⟩) (([2] : List Int).length) 1) 3 1 (([2] : List Int).flatMap e3), row (.slice ao_3673 ((([10, 12, 900, 11] : List Int).take (3 : Int).toNat).length) cap_3674) 3 1 ((([10, 12, 900, 11] : List Int).take (3 : Int).toNat).flatMap e3), stb b_3667 35 [(.int .i64 x_3664.1.fLo), (.int .i64 x_3664.1.fHi)], stb b_3663 35 [(.int .i64 x_3660.1.fLo), (.int .i64 x_3660.1.fHi)], row (.slice (some ⟨b_3659, 0, none⟩) (([(⟨0, 10⟩ : Sapi_Span), (⟨8, 20⟩ : Sapi_Span), (⟨30, 40⟩ : Sapi_Span)] : List Sapi_Span).length) 3) 35 2 (([(⟨0, 10⟩ : Sapi_Span), (⟨8, 20⟩ : Sapi_Span), (⟨30, 40⟩ : Sapi_Span)] : List Sapi_Span).flatMap e35), row (.slice (some ⟨b_3657, 0, none⟩) (([(-3), (-4)] : List Int).length) 2) 3 1 (([(-3), (-4)] : List Int).flatMap e3), row (.slice ao_3651 x_3646.1.length cap_3652) 3 1 (x_3646.1.flatMap e3)]) (B := [row (.slice ao_3651 x_3646.1.length cap_3652) 3 1 (x_3646.1.flatMap e3), row (.slice (some ⟨b_3684, 0, none⟩) (([2] : List Int).length) 1) 3 1 (([2] : List Int).flatMap e3)]) (fun _ hx' => ((.cons (.there (.there (.there (.there (.there (.there .here)))))) (.cons .here .nil)) : Sel _ [row (.slice ao_3651 x_3646.1.length cap_3652) 3 1 (x_3646.1.flatMap e3), row (.slice (some ⟨b_3684, 0, none⟩) (([2] : List Int).length) 1) 3 1 (([2] : List Int).flatMap e3)] _).mem hx'); exact w_law33_Ints (Z := _) (ao_3190 := ao_3651) (cap_3191 := cap_3652) (ao_3194 := (some ⟨b_3684, 0, none⟩)) (cap_3195 := 1) (a_3189 := x_3646.1) (b_3193 := ([2] : List Int)) (r := x_3676) w pz (ZA.row (hw.lent (.nil : Sel [row (.slice (some ⟨b_3684, 0, none⟩) (([2] : List Int).length) 1) 3 1 (([2] : List Int).flatMap e3), row (.slice ao_3673 ((([10, 12, 900, 11] : List Int).take (3 : Int).toNat).length) cap_3674) 3 1 ((([10, 12, 900, 11] : List Int).take (3 : Int).toNat).flatMap e3), stb b_3667 35 [(.int .i64 x_3664.1.fLo), (.int .i64 x_3664.1.fHi)], stb b_3663 35 [(.int .i64 x_3660.1.fLo), (.int .i64 x_3660.1.fHi)], row (.slice (some ⟨b_3659, 0, none⟩) (([(⟨0, 10⟩ : Sapi_Span), (⟨8, 20⟩ : Sapi_Span), (⟨30, 40⟩ : Sapi_Span)] : List Sapi_Span).length) 3) 35 2 (([(⟨0, 10⟩ : Sapi_Span), (⟨8, 20⟩ : Sapi_Span), (⟨30, 40⟩ : Sapi_Span)] : List Sapi_Span).flatMap e35), row (.slice (some ⟨b_3657, 0, none⟩) (([(-3), (-4)] : List Int).length) 2) 3 1 (([(-3), (-4)] : List Int).flatMap e3), row (.slice ao_3651 x_3646.1.length cap_3652) 3 1 (x_3646.1.flatMap e3)] [] [row (.slice (some ⟨b_3684, 0, none⟩) (([2] : List Int).length) 1) 3 1 (([2] : List Int).flatMap e3), row (.slice ao_3673 ((([10, 12, 900, 11] : List Int).take (3 : Int).toNat).length) cap_3674) 3 1 ((([10, 12, 900, 11] : List Int).take (3 : Int).toNat).flatMap e3), stb b_3667 35 [(.int .i64 x_3664.1.fLo), (.int .i64 x_3664.1.fHi)], stb b_3663 35 [(.int .i64 x_3660.1.fLo), (.int .i64 x_3660.1.fHi)], row (.slice (some ⟨b_3659, 0, none⟩) (([(⟨0, 10⟩ : Sapi_Span), (⟨8, 20⟩ : Sapi_Span), (⟨30, 40⟩ : Sapi_Span)] : List Sapi_Span).length) 3) 35 2 (([(⟨0, 10⟩ : Sapi_Span), (⟨8, 20⟩ : Sapi_Span), (⟨30, 40⟩ : Sapi_Span)] : List Sapi_Span).flatMap e35), row (.slice (some ⟨b_3657, 0, none⟩) (([(-3), (-4)] : List Int).length) 2) 3 1 (([(-3), (-4)] : List Int).flatMap e3), row (.slice ao_3651 x_3646.1.length cap_3652) 3 1 (x_3646.1.flatMap e3)]) (B := [row (.slice ao_3651 x_3646.1.length cap_3652) 3 1 (x_3646.1.flatMap e3), row (.slice (some ⟨b_3684, 0, none⟩) (([2] : List Int).length) 1) 3 1 (([2] : List Int).flatMap e3)]) (fun _ hx' => ((.cons (.there (.there (.there (.there (.there (.there .here)))))) (.cons .here .nil)) : Sel _ [row (.slice ao_3651 x_3646.1.length cap_3652) 3 1 (x_3646.1.flatMap e3), row (.slice (some ⟨b_3684, 0, none⟩) (([2] : List Int).length) 1) 3 1 (([2] : List Int).flatMap e3)] _).mem hx') (.head _) _) (RR.flat (enc := e3) (fun _ => rfl) _) ⟨w, pz.1⟩) (ZA.row (hw.lent (.nil : Sel [row (.slice (some ⟨b_3684, 0, none⟩) (([2] : List Int).length) 1) 3 1 (([2] : List Int).flatMap e3), row (.slice ao_3673 ((([10, 12, 900, 11] : List Int).take (3 : Int).toNat).length) cap_3674) 3 1 ((([10, 12, 900, 11] : List Int).take (3 : Int).toNat).flatMap e3), stb b_3667 35 [(.int .i64 x_3664.1.fLo), (.int .i64 x_3664.1.fHi)], stb b_3663 35 [(.int .i64 x_3660.1.fLo), (.int .i64 x_3660.1.fHi)], row (.slice (some ⟨b_3659, 0, none⟩) (([(⟨0, 10⟩ : Sapi_Span), (⟨8, 20⟩ : Sapi_Span), (⟨30, 40⟩ : Sapi_Span)] : List Sapi_Span).length) 3) 35 2 (([(⟨0, 10⟩ : Sapi_Span), (⟨8, 20⟩ : Sapi_Span), (⟨30, 40⟩ : Sapi_Span)] : List Sapi_Span).flatMap e35), row (.slice (some ⟨b_3657, 0, none⟩) (([(-3), (-4)] : List Int).length) 2) 3 1 (([(-3), (-4)] : List Int).flatMap e3), row (.slice ao_3651 x_3646.1.length cap_3652) 3 1 (x_3646.1.flatMap e3)] [] [row (.slice (some ⟨b_3684, 0, none⟩) (([2] : List Int).length) 1) 3 1 (([2] : List Int).flatMap e3), row (.slice ao_3673 ((([10, 12, 900, 11] : List Int).take (3 : Int).toNat).length) cap_3674) 3 1 ((([10, 12, 900, 11] : List Int).take (3 : Int).toNat).flatMap e3), stb b_3667 35 [(.int .i64 x_3664.1.fLo), (.int .i64 x_3664.1.fHi)], stb b_3663 35 [(.int .i64 x_3660.1.fLo), (.int .i64 x_3660.1.fHi)], row (.slice (some ⟨b_3659, 0, none⟩) (([(⟨0, 10⟩ : Sapi_Span), (⟨8, 20⟩ : Sapi_Span), (⟨30, 40⟩ : Sapi_Span)] : List Sapi_Span).length) 3) 35 2 (([(⟨0, 10⟩ : Sapi_Span), (⟨8, 20⟩ : Sapi_Span), (⟨30, 40⟩ : Sapi_Span)] : List Sapi_Span).flatMap e35), row (.slice (some ⟨b_3657, 0, none⟩) (([(-3), (-4)] : List Int).length) 2) 3 1 (([(-3), (-4)] : List Int).flatMap e3), row (.slice ao_3651 x_3646.1.length cap_3652) 3 1 (x_3646.1.flatMap e3)]) (B := [row (.slice ao_3651 x_3646.1.length cap_3652) 3 1 (x_3646.1.flatMap e3), row (.slice (some ⟨b_3684, 0, none⟩) (([2] : List Int).length) 1) 3 1 (([2] : List Int).flatMap e3)]) (fun _ hx' => ((.cons (.there (.there (.there (.there (.there (.there .here)))))) (.cons .here .nil)) : Sel _ [row (.slice ao_3651 x_3646.1.length cap_3652) 3 1 (x_3646.1.flatMap e3), row (.slice (some ⟨b_3684, 0, none⟩) (([2] : List Int).length) 1) 3 1 (([2] : List Int).flatMap e3)] _).mem hx') (.tail _ (.head _)) _) (RR.flat (enc := e3) (fun _ => rfl) _) ⟨w, pz.1⟩) hx_3677) ?_
        refine WL.quiet (d := 67) rfl rfl rfl (q_pickT rfl rfl) ?_
        exact WL.cutEnd () trivial (.cons rfl (.cons rfl (.cons rfl (.cons rfl (.cons rfl (.cons (some_bool hq_3683) .nil)))))) (.cons (.there .here) (.cons (.there .here) (.cons (.there .here) (.cons (.there .here) (.cons (.there .here) (.cons (.there .here) .nil))))))
      · have hg_3685 := hb'; clear hb'
        have hq_3686 := ite_f hb_3679 hg_3685
        replace hq_3686 := Option.some.inj hq_3686
        refine WL.pin (i := 63) rfl hg_3685 ?_
        refine WL.skip rfl rfl rfl ?_
        refine WL.skip rfl rfl rfl ?_
        refine WL.skip rfl rfl rfl ?_
        refine WL.quiet (d := 67) rfl rfl rfl (q_pickF rfl rfl) ?_
        exact WL.cutEnd () trivial (.cons rfl (.cons rfl (.cons rfl (.cons rfl (.cons rfl (.cons (some_bool hq_3686) .nil)))))) (.cons .here (.cons .here (.cons .here (.cons .here (.cons .here (.cons .here .nil))))))
    · skip
      refine WL.quiet (d := 68) rfl rfl rfl (q_move rfl) ?_
      refine WL.cut0 True [(0, (.bool false)), (9, (.pointer (some ⟨b_3663, 0, none⟩))), (12, (.int .i64 x_3664.2)), (14, (.int .i64 x_3671.2)), (71, (.bool (b_3678 && (decide (x_3655.1 = (-4))))))] [row (.slice ao_3673 ((([10, 12, 900, 11] : List Int).take (3 : Int).toNat).length) cap_3674) 3 1 ((([10, 12, 900, 11] : List Int).take (3 : Int).toNat).flatMap e3), stb b_3667 35 [(.int .i64 x_3664.1.fLo), (.int .i64 x_3664.1.fHi)], stb b_3663 35 [(.int .i64 x_3660.1.fLo), (.int .i64 x_3660.1.fHi)], row (.slice (some ⟨b_3659, 0, none⟩) (([(⟨0, 10⟩ : Sapi_Span), (⟨8, 20⟩ : Sapi_Span), (⟨30, 40⟩ : Sapi_Span)] : List Sapi_Span).length) 3) 35 2 (([(⟨0, 10⟩ : Sapi_Span), (⟨8, 20⟩ : Sapi_Span), (⟨30, 40⟩ : Sapi_Span)] : List Sapi_Span).flatMap e35), row (.slice (some ⟨b_3657, 0, none⟩) (([(-3), (-4)] : List Int).length) 2) 3 1 (([(-3), (-4)] : List Int).flatMap e3), row (.slice ao_3651 x_3646.1.length cap_3652) 3 1 (x_3646.1.flatMap e3)] 3 ?_ (fun _ => ?_)
      · rcases Bool.eq_false_or_eq_true b_3678 with hb' | hb'
        · have hg_3687 := hb'; clear hb'
          refine WL.pin (i := 68) rfl hg_3687 ?_
          refine WL.quiet (d := 69) rfl rfl rfl (q_move rfl) ?_
          refine WL.quiet (d := 70) rfl rfl rfl (q_eql rfl rfl) ?_
          refine WL.quiet (d := 71) rfl rfl rfl (q_pickT rfl rfl) ?_
          exact WL.cutEnd () trivial (.cons rfl (.cons rfl (.cons rfl (.cons rfl (.cons (some_bool (and_r hg_3687)) .nil))))) (.cons .here (.cons .here (.cons .here (.cons .here (.cons .here (.cons .here .nil))))))
        · have hg_3688 := hb'; clear hb'
          refine WL.pin (i := 68) rfl hg_3688 ?_
          refine WL.skip rfl rfl rfl ?_
          refine WL.skip rfl rfl rfl ?_
          refine WL.quiet (d := 71) rfl rfl rfl (q_pickF rfl rfl) ?_
          exact WL.cutEnd () trivial (.cons rfl (.cons rfl (.cons rfl (.cons rfl (.cons (some_bool (and_l hg_3688)) .nil))))) (.cons .here (.cons .here (.cons .here (.cons .here (.cons .here (.cons .here .nil))))))
      · skip
        refine WL.quiet (d := 72) rfl rfl rfl (q_move rfl) ?_
        refine WL.cut0 True [(0, (.bool false)), (12, (.int .i64 x_3664.2)), (14, (.int .i64 x_3671.2)), (76, (.bool ((b_3678 && (decide (x_3655.1 = (-4)))) && (decide (x_3660.1 = (⟨8, 10⟩ : Sapi_Span))))))] [row (.slice ao_3673 ((([10, 12, 900, 11] : List Int).take (3 : Int).toNat).length) cap_3674) 3 1 ((([10, 12, 900, 11] : List Int).take (3 : Int).toNat).flatMap e3), stb b_3667 35 [(.int .i64 x_3664.1.fLo), (.int .i64 x_3664.1.fHi)], stb b_3663 35 [(.int .i64 x_3660.1.fLo), (.int .i64 x_3660.1.fHi)], row (.slice (some ⟨b_3659, 0, none⟩) (([(⟨0, 10⟩ : Sapi_Span), (⟨8, 20⟩ : Sapi_Span), (⟨30, 40⟩ : Sapi_Span)] : List Sapi_Span).length) 3) 35 2 (([(⟨0, 10⟩ : Sapi_Span), (⟨8, 20⟩ : Sapi_Span), (⟨30, 40⟩ : Sapi_Span)] : List Sapi_Span).flatMap e35), row (.slice (some ⟨b_3657, 0, none⟩) (([(-3), (-4)] : List Int).length) 2) 3 1 (([(-3), (-4)] : List Int).flatMap e3), row (.slice ao_3651 x_3646.1.length cap_3652) 3 1 (x_3646.1.flatMap e3)] 4 ?_ (fun _ => ?_)
        · rcases Bool.eq_false_or_eq_true (b_3678 && (decide (x_3655.1 = (-4)))) with hb' | hb'
          · have hg_3689 := hb'; clear hb'
            refine WL.pin (i := 72) rfl hg_3689 ?_
            refine WL.quiet (d := 73) rfl rfl rfl (q_loadA (cs := [(.int .i64 x_3660.1.fLo), (.int .i64 x_3660.1.fHi)]) aggT_35 rfl rfl (rd_all (.there (.there .here)))) ?_
            refine WL.quiet (d := 74) rfl rfl rfl (q_build (v := (.agg #[(.int .i64 8), (.int .i64 10)])) (Eos.parts (l := [.const (.int .i64 8), .const (.int .i64 10)]) (.cons rfl (.cons rfl .nil)) [0, 1]) (fun _ => by kernel_rfl)) ?_
            refine WL.quiet (d := 75) rfl rfl rfl (q_aggeql (enc := e35) (a := x_3660.1) (b := (⟨8, 10⟩ : Sapi_Span)) eqT_35 rfl rfl) ?_
            refine WL.quiet (d := 76) rfl rfl rfl (q_pickT rfl rfl) ?_
            exact WL.cutEnd () trivial (.cons rfl (.cons rfl (.cons rfl (.cons (some_bool (and_r hg_3689)) .nil)))) (.cons .here (.cons .here (.cons .here (.cons .here (.cons .here (.cons .here .nil))))))
          · have hg_3690 := hb'; clear hb'
            refine WL.pin (i := 72) rfl hg_3690 ?_
            refine WL.skip rfl rfl rfl ?_
            refine WL.skip rfl rfl rfl ?_
            refine WL.skip rfl rfl rfl ?_
            refine WL.quiet (d := 76) rfl rfl rfl (q_pickF rfl rfl) ?_
            exact WL.cutEnd () trivial (.cons rfl (.cons rfl (.cons rfl (.cons (some_bool (and_l hg_3690)) .nil)))) (.cons .here (.cons .here (.cons .here (.cons .here (.cons .here (.cons .here .nil))))))
        · skip
          refine WL.quiet (d := 77) rfl rfl rfl (q_move rfl) ?_
          refine WL.cut0 True [(0, (.bool false)), (14, (.int .i64 x_3671.2)), (80, (.bool (((b_3678 && (decide (x_3655.1 = (-4)))) && (decide (x_3660.1 = (⟨8, 10⟩ : Sapi_Span)))) && (decide (x_3664.2 = 6)))))] [row (.slice ao_3673 ((([10, 12, 900, 11] : List Int).take (3 : Int).toNat).length) cap_3674) 3 1 ((([10, 12, 900, 11] : List Int).take (3 : Int).toNat).flatMap e3), stb b_3667 35 [(.int .i64 x_3664.1.fLo), (.int .i64 x_3664.1.fHi)], stb b_3663 35 [(.int .i64 x_3660.1.fLo), (.int .i64 x_3660.1.fHi)], row (.slice (some ⟨b_3659, 0, none⟩) (([(⟨0, 10⟩ : Sapi_Span), (⟨8, 20⟩ : Sapi_Span), (⟨30, 40⟩ : Sapi_Span)] : List Sapi_Span).length) 3) 35 2 (([(⟨0, 10⟩ : Sapi_Span), (⟨8, 20⟩ : Sapi_Span), (⟨30, 40⟩ : Sapi_Span)] : List Sapi_Span).flatMap e35), row (.slice (some ⟨b_3657, 0, none⟩) (([(-3), (-4)] : List Int).length) 2) 3 1 (([(-3), (-4)] : List Int).flatMap e3), row (.slice ao_3651 x_3646.1.length cap_3652) 3 1 (x_3646.1.flatMap e3)] 3 ?_ (fun _ => ?_)
          · rcases Bool.eq_false_or_eq_true ((b_3678 && (decide (x_3655.1 = (-4)))) && (decide (x_3660.1 = (⟨8, 10⟩ : Sapi_Span)))) with hb' | hb'
            · have hg_3691 := hb'; clear hb'
              refine WL.pin (i := 77) rfl hg_3691 ?_
              refine WL.quiet (d := 78) rfl rfl rfl (q_move rfl) ?_
              refine WL.quiet (d := 79) rfl rfl rfl (q_eql rfl rfl) ?_
              refine WL.quiet (d := 80) rfl rfl rfl (q_pickT rfl rfl) ?_
              exact WL.cutEnd () trivial (.cons rfl (.cons rfl (.cons (some_bool (and_r hg_3691)) .nil))) (.cons .here (.cons .here (.cons .here (.cons .here (.cons .here (.cons .here .nil))))))
            · have hg_3692 := hb'; clear hb'
              refine WL.pin (i := 77) rfl hg_3692 ?_
              refine WL.skip rfl rfl rfl ?_
              refine WL.skip rfl rfl rfl ?_
              refine WL.quiet (d := 80) rfl rfl rfl (q_pickF rfl rfl) ?_
              exact WL.cutEnd () trivial (.cons rfl (.cons rfl (.cons (some_bool (and_l hg_3692)) .nil))) (.cons .here (.cons .here (.cons .here (.cons .here (.cons .here (.cons .here .nil))))))
          · skip
            refine WL.quiet (d := 81) rfl rfl rfl (q_move rfl) ?_
            refine WL.cut0 True [(0, (.bool false)), (84, (.bool ((((b_3678 && (decide (x_3655.1 = (-4)))) && (decide (x_3660.1 = (⟨8, 10⟩ : Sapi_Span)))) && (decide (x_3664.2 = 6))) && (decide (x_3671.2 = 2)))))] [row (.slice ao_3673 ((([10, 12, 900, 11] : List Int).take (3 : Int).toNat).length) cap_3674) 3 1 ((([10, 12, 900, 11] : List Int).take (3 : Int).toNat).flatMap e3), stb b_3667 35 [(.int .i64 x_3664.1.fLo), (.int .i64 x_3664.1.fHi)], stb b_3663 35 [(.int .i64 x_3660.1.fLo), (.int .i64 x_3660.1.fHi)], row (.slice (some ⟨b_3659, 0, none⟩) (([(⟨0, 10⟩ : Sapi_Span), (⟨8, 20⟩ : Sapi_Span), (⟨30, 40⟩ : Sapi_Span)] : List Sapi_Span).length) 3) 35 2 (([(⟨0, 10⟩ : Sapi_Span), (⟨8, 20⟩ : Sapi_Span), (⟨30, 40⟩ : Sapi_Span)] : List Sapi_Span).flatMap e35), row (.slice (some ⟨b_3657, 0, none⟩) (([(-3), (-4)] : List Int).length) 2) 3 1 (([(-3), (-4)] : List Int).flatMap e3), row (.slice ao_3651 x_3646.1.length cap_3652) 3 1 (x_3646.1.flatMap e3)] 3 ?_ (fun _ => ?_)
            · rcases Bool.eq_false_or_eq_true (((b_3678 && (decide (x_3655.1 = (-4)))) && (decide (x_3660.1 = (⟨8, 10⟩ : Sapi_Span)))) && (decide (x_3664.2 = 6))) with hb' | hb'
              · have hg_3693 := hb'; clear hb'
                refine WL.pin (i := 81) rfl hg_3693 ?_
                refine WL.quiet (d := 82) rfl rfl rfl (q_move rfl) ?_
                refine WL.quiet (d := 83) rfl rfl rfl (q_eql rfl rfl) ?_
                refine WL.quiet (d := 84) rfl rfl rfl (q_pickT rfl rfl) ?_
                exact WL.cutEnd () trivial (.cons rfl (.cons (some_bool (and_r hg_3693)) .nil)) (.cons .here (.cons .here (.cons .here (.cons .here (.cons .here (.cons .here .nil))))))
              · have hg_3694 := hb'; clear hb'
                refine WL.pin (i := 81) rfl hg_3694 ?_
                refine WL.skip rfl rfl rfl ?_
                refine WL.skip rfl rfl rfl ?_
                refine WL.quiet (d := 84) rfl rfl rfl (q_pickF rfl rfl) ?_
                exact WL.cutEnd () trivial (.cons rfl (.cons (some_bool (and_l hg_3694)) .nil)) (.cons .here (.cons .here (.cons .here (.cons .here (.cons .here (.cons .here .nil))))))
            · skip
              refine WL.quiet (d := 0) rfl rfl rfl (q_assign rfl) ?_
              refine WL.nil ?_
              refine WX.then ?_
              refine WC.ret ?_
              obtain rfl := Option.some.inj h
              refine WX.bpRet Try.results10 (.tmp rfl .nil) (fun w hw => ?_)
              exact ⟨ret1 rfl, hw.sub .nil⟩
end Go.Proofs.Ytkhiiafgikioiaa
