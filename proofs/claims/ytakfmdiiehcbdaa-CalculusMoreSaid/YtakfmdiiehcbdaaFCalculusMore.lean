/-
 Whatever the input, the law CalculusMore of layer 3 returns true, and its arguments read behind the call as before it. No conditions.
-/
import Derived.Test.YtakfmdiiehcbdaaPMore
import Derived.Test.YtakfmdiiehcbdaaZFrame
import Derived.Test.YtakfmdiiehcbdaaRows
set_option linter.all false
namespace Go.Proofs.Ytakfmdiiehcbdaa.calculusMore
open Go.ChangeShapes Go.WideShapes Go.ChangeAt Go.RowKit Sep
set_option linter.unusedVariables false
theorem el_5 {H : Type} {enc : TypeId × Value → H} {W : World} {spare : Nat → Bool} {held : Bool} (n : Nat) (cs : List Value) (y : DataW H × List MemPlace) (h : DataW.trod enc Try.prog W 0 spare held n 5 cs = some y) (hl : cs.length = 1) : ∃ a : Int, (cs = e5 a) ∧ (0 ≤ a ∧ a ≤ 255) := by
 obtain ⟨a, rfl, -, wf⟩ := DataW.trod_int Try.underlying5 h
 exact ⟨a, rfl, Go.bounds_u8 wf⟩
theorem own : ownKnob Try.prog.godebug = none := by kernel_rfl
theorem laid : laidOutB Try.prog = true := by kernel_rfl
set_option maxRecDepth 100000 in
theorem lifted (os : Os) (started : os.Started) (H : Type) (enc : TypeId × Value → H) :
  ReturnsInHanded {} Try.checked os 5 .any (Rows.calculusMoreSpec.pre6 enc Try.prog Try.f5 Rows.calculusMoreRow.domain false) (Rows.calculusMoreSpec.post enc Try.prog Try.f5 false true false false) := by
 refine returnsInHanded_of_change (C := Try.checked) own started (by kernel_rfl) Try.func5
  (ChangeSpec.witness6 (enc := enc) (C := Try.checked) false ⟨#[], #[.slice none 0 0, .slice none 0 0, .int .u8 0, .int .u8 0, .int .u8 0], []⟩ 8 (by kernel_rfl) (by kernel_rfl) (by kernel_rfl) (by kernel_rfl)) ?_
 intro W base args ds gs before hval0 hW hcnd _
 have hval : ∀ (j : Nat) t v, Try.f5.params[j]? = some t → args[j]? = some v → Value.okWide Try.prog W .any base t v := hval0
 have hW' := hW
 obtain ⟨p, q, hA0, hV, rfl, hfz, hnd⟩ := hW
 have hA : DataW.TrodAll enc Try.prog W 0 (fun _ => true) true Try.f5.params.toList args.toList ds p := hA0
 rw [Try.params5] at hA hval
 obtain ⟨v0, vs0, d0, ds0, p0, q0, hargs, rfl, rfl, h0, r0⟩ := trodAll_cons hA
 obtain ⟨v1, vs1, d1, ds1, p1, q1, rfl, rfl, rfl, h1, r1⟩ := trodAll_cons r0
 obtain ⟨v2, vs2, d2, ds2, p2, q2, rfl, rfl, rfl, h2, r2⟩ := trodAll_cons r1
 obtain ⟨v3, vs3, d3, ds3, p3, q3, rfl, rfl, rfl, h3, r3⟩ := trodAll_cons r2
 obtain ⟨v4, vs4, d4, ds4, p4, q4, rfl, rfl, rfl, h4, r4⟩ := trodAll_cons r3
 obtain ⟨rfl, rfl, rfl⟩ := trodAll_nil r4
 obtain rfl : args = #[v0, v1, v2, v3, v4] := by cases args; simp_all
 obtain ⟨rfl, rfl⟩ := trodVars_none hV
 obtain ⟨ao0, m0, cap0, x0, rfl, hs0, hL0⟩ := ya0 (Pr := fun r x => (r = e5 x) ∧ (0 ≤ x ∧ x ≤ 255)) (sz := 1) Try.underlying22 (by kernel_rfl) (by decide) el_5 (hval 0 22 v0 rfl rfl) h0
 unfold maxLen at hL0
 obtain ⟨rfl, hz0⟩ := y8V hs0
 have bd0 := hz0.all (q := fun x => 0 ≤ x ∧ x ≤ 255) (fun _ _ h => h.2)
 replace hz0 := hz0.weak (Pr' := (fun r x => r = e5 x)) (fun _ _ h => h.1)
 obtain ⟨ao1, m1, cap1, x1, rfl, hs1, hL1⟩ := ya0 (Pr := fun r x => (r = e5 x) ∧ (0 ≤ x ∧ x ≤ 255)) (sz := 1) Try.underlying22 (by kernel_rfl) (by decide) el_5 (hval 1 22 v1 rfl rfl) h1
 unfold maxLen at hL1
 obtain ⟨rfl, hz1⟩ := y8V hs1
 have bd1 := hz1.all (q := fun x => 0 ≤ x ∧ x ≤ 255) (fun _ _ h => h.2)
 replace hz1 := hz1.weak (Pr' := (fun r x => r = e5 x)) (fun _ _ h => h.1)
 obtain ⟨x2, rfl, hd2, hp2, wf2⟩ := open_int Try.underlying5 (hval 2 5 v2 rfl rfl) h2
 have bd2 := Go.bounds_u8 wf2
 obtain ⟨x3, rfl, hd3, hp3, wf3⟩ := open_int Try.underlying5 (hval 3 5 v3 rfl rfl) h3
 have bd3 := Go.bounds_u8 wf3
 obtain ⟨x4, rfl, hd4, hp4, wf4⟩ := open_int Try.underlying5 (hval 4 5 v4 rfl rfl) h4
 have bd4 := Go.bounds_u8 wf4
 have htrue := y7V (m := x0) (n := x1) (r := x2) (d := x3) (more := x4) bd0 bd1 bd2 bd3 bd4
 refine (y78 (Z := ZW W) (zdy := ao0) (zdz := cap0) (zdA := ao1) (zdB := cap1) (z8n := x0) (z8o := x1) (z8p := x2) (z4w := x3) (z4x := x4) (r := true) htrue W (ZW_pz W) hz0 hz1).mono fun e W' ⟨Zn, he, _, hh⟩ => ?_
 subst he
 exact ⟨_, rfl, yaE laid (by kernel_rfl) rfl rfl Try.underlying4 hW' (fun _ => ⟨rfl, rfl, rfl⟩) hh.below⟩
theorem over : Rows.calculusMoreRow.holds Try.pinned (OpenSpec.ofChange Rows.calculusMoreSpec) :=
 OpenClaim.holds_of_wide 5 Try.f5 rfl rfl rfl rfl rfl rfl rfl ⟨rfl, rfl, rfl, rfl, rfl⟩ rfl rfl rfl rfl rfl (by kernel_rfl) Try.func5 (by kernel_rfl)
  (of_decide_eq_true (by kernel_rfl)) (by unfold Func.isWrapper; first | (rw [if_pos (by decide +kernel)]; kernel_rfl) | (rw [if_neg (by decide +kernel)]; exact ⟨rfl, rfl⟩))
  (fun os started H enc _ => lifted os started H enc)
theorem proved : Rows.CalculusMoreSaid := over
#print axioms proved
end Go.Proofs.Ytakfmdiiehcbdaa.calculusMore
