/-
  Whatever the input, the law ClockFair of layer 33 returns true, and its arguments read behind the call as before it. No conditions.
-/
import Derived.Test.YtkhiiafgikioiaaPFair
import Derived.Test.YtkhiiafgikioiaaZFrame
import Derived.Test.YtkhiiafgikioiaaRows
set_option linter.all false
namespace Go.Proofs.Ytkhiiafgikioiaa.clockFair
open Go.ChangeShapes Go.WideShapes Go.ChangeAt Go.RowKit Sep
set_option linter.unusedVariables false
theorem el_45 {H : Type} {enc : TypeId × Value → H} {W : World} {spare : Nat → Bool} {held : Bool} (n : Nat) (cs : List Value) (y : DataW H × List MemPlace) (h : DataW.trod enc Try.prog W 0 spare held n 45 cs = some y) (hl : cs.length = 1) : ∃ a : Int, (cs = e45 a) ∧ (-32768 ≤ a ∧ a ≤ 32767) := by
  obtain ⟨a, rfl, -, wf⟩ := DataW.trod_int Try.underlying45 h
  exact ⟨a, rfl, Go.bounds_i16 wf⟩
theorem own : ownKnob Try.prog.godebug = none := by kernel_rfl
theorem laid : laidOutB Try.prog = true := by kernel_rfl
set_option maxRecDepth 100000 in
theorem lifted (os : Os) (started : os.Started) (H : Type) (enc : TypeId × Value → H) :
    ReturnsInHanded {} Try.checked os 5 .any (Rows.clockFairSpec.pre6 enc Try.prog Try.f5 Rows.clockFairRow.domain false) (Rows.clockFairSpec.post enc Try.prog Try.f5 false true false false) := by
  refine returnsInHanded_of_change (C := Try.checked) own started (by kernel_rfl) Try.func5
    (ChangeSpec.witness6 (enc := enc) (C := Try.checked) false ⟨#[], #[.slice none 0 0, .int .u8 0, .int .u16 0, .slice none 0 0], []⟩ 8 (by kernel_rfl) (by kernel_rfl) (by kernel_rfl) (by kernel_rfl)) ?_
  intro W base args ds gs before hval0 hW hcnd _
  have hval : ∀ (j : Nat) t v, Try.f5.params[j]? = some t → args[j]? = some v → Value.okWide Try.prog W .any base t v := hval0
  have hW' := hW
  obtain ⟨p, q, hA0, hV, rfl, hfz, hnd⟩ := hW
  have hA : DataW.TrodAll enc Try.prog W 0 (fun _ => true) true Try.f5.params.toList args.toList ds p := hA0
  rw [Try.params5] at hA hval
  obtain ⟨v0, vs0, d0, ds0, p0, q0, hargs, rfl, rfl, h0, r0⟩ := trodAll_cons hA
  obtain ⟨v1, vs1, d1, ds1, p1, q1, rfl, rfl, rfl, h1, r1⟩ := trodAll_cons r0
  obtain ⟨v2, vs2, d2, ds2, p2, q2, rfl, rfl, rfl, h2, r2⟩ := trodAll_cons r1
  obtain ⟨v3, vs3, d3, ds3, p3, q3, rfl, rfl, rfl, h3, r3⟩ := trodAll_cons r2
  obtain ⟨rfl, rfl, rfl⟩ := trodAll_nil r3
  obtain rfl : args = #[v0, v1, v2, v3] := by cases args; simp_all
  obtain ⟨rfl, rfl⟩ := trodVars_none hV
  obtain ⟨ao0, m0, cap0, x0, rfl, hs0, hL0⟩ := open_sl (Pr := fun r x => (r = e45 x) ∧ (-32768 ≤ x ∧ x ≤ 32767)) (sz := 1) Try.underlying42 (by kernel_rfl) (by decide) el_45 (hval 0 42 v0 rfl rfl) h0
  unfold maxLen at hL0
  obtain ⟨rfl, hz0⟩ := ZW_of_slp hs0
  have bd0 := hz0.all (q := fun x => -32768 ≤ x ∧ x ≤ 32767) (fun _ _ h => h.2)
  replace hz0 := hz0.weak (Pr' := (fun r x => r = e45 x)) (fun _ _ h => h.1)
  obtain ⟨x1, rfl, hd1, hp1, wf1⟩ := open_int Try.underlying5 (hval 1 5 v1 rfl rfl) h1
  have bd1 := Go.bounds_u8 wf1
  obtain ⟨x2, rfl, hd2, hp2, wf2⟩ := open_int Try.underlying43 (hval 2 43 v2 rfl rfl) h2
  have bd2 := Go.bounds_u16 wf2
  obtain ⟨ao3, m3, cap3, x3, rfl, hs3, hL3⟩ := open_sl (Pr := fun r x => (r = e45 x) ∧ (-32768 ≤ x ∧ x ≤ 32767)) (sz := 1) Try.underlying42 (by kernel_rfl) (by decide) el_45 (hval 3 42 v3 rfl rfl) h3
  unfold maxLen at hL3
  obtain ⟨rfl, hz3⟩ := ZW_of_slp hs3
  have bd3 := hz3.all (q := fun x => -32768 ≤ x ∧ x ≤ 32767) (fun _ _ h => h.2)
  replace hz3 := hz3.weak (Pr' := (fun r x => r = e45 x)) (fun _ _ h => h.1)
  have htrue := clockFair_true (l := x0) (n := x1) (faulty := x2) (lies := x3) (by omega) (fun x hx => bd0 x hx) bd1 (fun x hx => bd3 x hx)
  refine (w_law33_ClockFair (Z := ZW W) (ao_19557 := ao0) (cap_19558 := cap0) (ao_19563 := ao3) (cap_19564 := cap3) (l_19556 := x0) (n_19560 := x1) (faulty_19561 := x2) (lies_19562 := x3) (r := true) W (ZW_pz W) hz0 hz3 htrue).mono fun e W' ⟨he, hh⟩ => ?_
  subst he
  exact ⟨_, rfl, post_true laid (by kernel_rfl) rfl rfl Try.underlying4 hW' (fun _ => ⟨rfl, rfl, rfl⟩) hh.below⟩

theorem over : Rows.clockFairRow.holds Try.pinned (OpenSpec.ofChange Rows.clockFairSpec) :=
  OpenClaim.holds_of_wide 5 Try.f5 rfl rfl rfl rfl rfl rfl rfl ⟨rfl, rfl, rfl, rfl, rfl⟩ rfl rfl rfl rfl rfl (by kernel_rfl) Try.func5 (by kernel_rfl)
    (of_decide_eq_true (by kernel_rfl)) (by unfold Func.isWrapper; first | (rw [if_pos (by decide +kernel)]; kernel_rfl) | (rw [if_neg (by decide +kernel)]; exact ⟨rfl, rfl⟩))
    (fun os started H enc _ => lifted os started H enc)

theorem proved : Rows.ClockFairSaid := over
#print axioms proved
end Go.Proofs.Ytkhiiafgikioiaa.clockFair
