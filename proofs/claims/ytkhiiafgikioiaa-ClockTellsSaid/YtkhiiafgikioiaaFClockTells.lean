/-
  Whatever the input, the law ClockTells of layer 33 returns true, and its arguments read behind the call as before it. No conditions.
-/
import Derived.Test.YtkhiiafgikioiaaP4
import Derived.Test.YtkhiiafgikioiaaZFrame
import Derived.Test.YtkhiiafgikioiaaRows
set_option linter.all false
namespace Go.Proofs.Ytkhiiafgikioiaa.clockTells
open Go.ChangeShapes Go.WideShapes Go.ChangeAt Go.RowKit Sep
set_option linter.unusedVariables false
theorem el_3 {H : Type} {enc : TypeId × Value → H} {W : World} {spare : Nat → Bool} {held : Bool} (n : Nat) (cs : List Value) (y : DataW H × List MemPlace) (h : DataW.trod enc Try.prog W 0 spare held n 3 cs = some y) (hl : cs.length = 1) : ∃ a : Int, (cs = e3 a) ∧ (-9223372036854775808 ≤ a ∧ a ≤ 9223372036854775807) := by
  obtain ⟨a, rfl, -, wf⟩ := DataW.trod_int Try.underlying3 h
  exact ⟨a, rfl, Go.bounds_i64 wf⟩
theorem el_35 {H : Type} {enc : TypeId × Value → H} {W : World} {spare : Nat → Bool} {held : Bool} (n : Nat) (cs : List Value) (y : DataW H × List MemPlace) (h : DataW.trod enc Try.prog W 0 spare held n 35 cs = some y) (hl : cs.length = 2) : ∃ a : Sapi_Span, (cs = e35 a) ∧ ((-9223372036854775808 ≤ a.fLo ∧ a.fLo ≤ 9223372036854775807) ∧ (-9223372036854775808 ≤ a.fHi ∧ a.fHi ≤ 9223372036854775807)) := by
  obtain ⟨y0, m0, h0⟩ := trod_field 0 Try.underlying35 h rfl
  have c0 : Try.prog.cellsOf 3 = 1 := by kernel_rfl
  try dsimp only at h0
  rw [c0] at h0
  obtain ⟨a0, r0, k0⟩ := el_3 _ _ _ h0 (by simp [hl])
  obtain ⟨y1, m1, h1⟩ := trod_field 1 Try.underlying35 h rfl
  have c1 : Try.prog.cellsOf 3 = 1 := by kernel_rfl
  try dsimp only at h1
  rw [c1] at h1
  obtain ⟨a1, r1, k1⟩ := el_3 _ _ _ h1 (by simp [hl])
  obtain ⟨u0, u1, rfl⟩ : ∃ u0 u1, cs = [u0, u1] := by match cs, hl with | [u0, u1], _ => exact ⟨_, _, rfl⟩
  simp [e3] at r0
  simp [e3] at r1
  exact ⟨⟨a0, a1⟩, by simp [e35, *], ⟨k0, k1⟩⟩
theorem own : ownKnob Try.prog.godebug = none := by kernel_rfl
theorem laid : laidOutB Try.prog = true := by kernel_rfl
set_option maxRecDepth 100000 in
theorem lifted (os : Os) (started : os.Started) (H : Type) (enc : TypeId × Value → H) :
    ReturnsInHanded {} Try.checked os 3 .any (Rows.clockTellsSpec.pre6 enc Try.prog Try.f3 Rows.clockTellsRow.domain false) (Rows.clockTellsSpec.post enc Try.prog Try.f3 false true false false) := by
  refine returnsInHanded_of_change (C := Try.checked) own started (by kernel_rfl) Try.func3
    (ChangeSpec.witness6 (enc := enc) (C := Try.checked) false ⟨#[], #[.slice none 0 0, .slice none 0 0, .int .i64 0, .int .i64 0], []⟩ 8 (by kernel_rfl) (by kernel_rfl) (by kernel_rfl) (by kernel_rfl)) ?_
  intro W base args ds gs before hval0 hW hcnd _
  have hval : ∀ (j : Nat) t v, Try.f3.params[j]? = some t → args[j]? = some v → Value.okWide Try.prog W .any base t v := hval0
  have hW' := hW
  obtain ⟨p, q, hA0, hV, rfl, hfz, hnd⟩ := hW
  have hA : DataW.TrodAll enc Try.prog W 0 (fun _ => true) true Try.f3.params.toList args.toList ds p := hA0
  rw [Try.params3] at hA hval
  obtain ⟨v0, vs0, d0, ds0, p0, q0, hargs, rfl, rfl, h0, r0⟩ := trodAll_cons hA
  obtain ⟨v1, vs1, d1, ds1, p1, q1, rfl, rfl, rfl, h1, r1⟩ := trodAll_cons r0
  obtain ⟨v2, vs2, d2, ds2, p2, q2, rfl, rfl, rfl, h2, r2⟩ := trodAll_cons r1
  obtain ⟨v3, vs3, d3, ds3, p3, q3, rfl, rfl, rfl, h3, r3⟩ := trodAll_cons r2
  obtain ⟨rfl, rfl, rfl⟩ := trodAll_nil r3
  obtain rfl : args = #[v0, v1, v2, v3] := by cases args; simp_all
  obtain ⟨rfl, rfl⟩ := trodVars_none hV
  obtain ⟨ao0, m0, cap0, x0, rfl, hs0, hL0⟩ := open_sl (Pr := fun r x => (r = e3 x) ∧ (-9223372036854775808 ≤ x ∧ x ≤ 9223372036854775807)) (sz := 1) Try.underlying22 (by kernel_rfl) (by decide) el_3 (hval 0 22 v0 rfl rfl) h0
  unfold maxLen at hL0
  obtain ⟨rfl, hz0⟩ := ZW_of_slp hs0
  have bd0 := hz0.all (q := fun x => -9223372036854775808 ≤ x ∧ x ≤ 9223372036854775807) (fun _ _ h => h.2)
  replace hz0 := hz0.weak (Pr' := (fun r x => r = e3 x)) (fun _ _ h => h.1)
  obtain ⟨ao1, m1, cap1, x1, rfl, hs1, hL1⟩ := open_sl (Pr := fun r x => (r = e35 x) ∧ ((-9223372036854775808 ≤ x.fLo ∧ x.fLo ≤ 9223372036854775807) ∧ (-9223372036854775808 ≤ x.fHi ∧ x.fHi ≤ 9223372036854775807))) (sz := 2) Try.underlying23 (by kernel_rfl) (by decide) el_35 (hval 1 23 v1 rfl rfl) h1
  unfold maxLen at hL1
  obtain ⟨rfl, hz1⟩ := ZW_of_slp hs1
  have bd1 := hz1.all (q := fun x => (-9223372036854775808 ≤ x.fLo ∧ x.fLo ≤ 9223372036854775807) ∧ (-9223372036854775808 ≤ x.fHi ∧ x.fHi ≤ 9223372036854775807)) (fun _ _ h => h.2)
  replace hz1 := hz1.weak (Pr' := (fun r x => r = e35 x)) (fun _ _ h => h.1)
  obtain ⟨x2, rfl, hd2, hp2, wf2⟩ := open_int Try.underlying3 (hval 2 3 v2 rfl rfl) h2
  have bd2 := Go.bounds_i64 wf2
  obtain ⟨x3, rfl, hd3, hp3, wf3⟩ := open_int Try.underlying3 (hval 3 3 v3 rfl rfl) h3
  have bd3 := Go.bounds_i64 wf3
  have htrue := clockTells_true (l := x0) (spans := x1) (f := x2) (w := x3)
  refine (w_law33_ClockTells (Z := ZW W) (ao_2 := ao0) (cap_3 := cap0) (ao_6 := ao1) (cap_7 := cap1) (l_1 := x0) (spans_5 := x1) (f_9 := x2) (width_10 := x3) (r := true) W (ZW_pz W) hz0 hz1 htrue).mono fun e W' ⟨he, hh⟩ => ?_
  subst he
  exact ⟨_, rfl, post_true laid (by kernel_rfl) rfl rfl Try.underlying4 hW' (fun _ => ⟨rfl, rfl, rfl⟩) hh.below⟩

theorem over : Rows.clockTellsRow.holds Try.pinned (OpenSpec.ofChange Rows.clockTellsSpec) :=
  OpenClaim.holds_of_wide 3 Try.f3 rfl rfl rfl rfl rfl rfl rfl ⟨rfl, rfl, rfl, rfl, rfl⟩ rfl rfl rfl rfl rfl (by kernel_rfl) Try.func3 (by kernel_rfl)
    (of_decide_eq_true (by kernel_rfl)) (by unfold Func.isWrapper; first | (rw [if_pos (by decide +kernel)]; kernel_rfl) | (rw [if_neg (by decide +kernel)]; exact ⟨rfl, rfl⟩))
    (fun os started H enc _ => lifted os started H enc)

theorem proved : Rows.ClockTellsSaid := over
#print axioms proved
end Go.Proofs.Ytkhiiafgikioiaa.clockTells
