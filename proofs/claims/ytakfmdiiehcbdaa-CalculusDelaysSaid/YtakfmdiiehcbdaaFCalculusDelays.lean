/-
 Whatever the input, the law CalculusDelays of layer 3 returns true, and its arguments read behind the call as before it. No conditions.
-/
import Derived.Test.YtakfmdiiehcbdaaPDelays
import Derived.Test.YtakfmdiiehcbdaaZFrame
import Derived.Test.YtakfmdiiehcbdaaRows
set_option linter.all false
namespace Go.Proofs.Ytakfmdiiehcbdaa.calculusDelays
open Go.ChangeShapes Go.WideShapes Go.ChangeAt Go.RowKit Sep
set_option linter.unusedVariables false
theorem el_5 {H : Type} {enc : TypeId × Value → H} {W : World} {spare : Nat → Bool} {y2E : Bool} (n : Nat) (cs : List Value) (y : DataW H × List MemPlace) (h : DataW.trod enc Try.prog W 0 spare y2E n 5 cs = some y) (hl : cs.length = 1) : ∃ a : Int, (cs = e5 a) ∧ (0 ≤ a ∧ a ≤ 255) := by
 obtain ⟨a, rfl, -, wf⟩ := DataW.trod_int Try.underlying5 h
 exact ⟨a, rfl, Go.bounds_u8 wf⟩
theorem own : ownKnob Try.prog.godebug = none := by kernel_rfl
theorem laid : laidOutB Try.prog = true := by kernel_rfl
set_option maxRecDepth 100000 in
theorem lifted (os : Os) (started : os.Started) (H : Type) (enc : TypeId × Value → H) :
  ReturnsInHanded {} Try.checked os 3 .any (Rows.calculusDelaysSpec.pre6 enc Try.prog Try.f3 Rows.calculusDelaysRow.domain false) (Rows.calculusDelaysSpec.post enc Try.prog Try.f3 false true false false) := by
 refine returnsInHanded_of_change (C := Try.checked) own started (by kernel_rfl) Try.func3
  (ChangeSpec.witness6 (enc := enc) (C := Try.checked) false ⟨#[], #[.slice none 0 0, .slice none 0 0, .slice none 0 0, .slice none 0 0, .int .u16 0, .int .u16 0, .int .u8 0, .int .u8 0], []⟩ 8 (by kernel_rfl) (by kernel_rfl) (by kernel_rfl) (by kernel_rfl)) ?_
 intro W base args ds gs before hval0 hW hcnd _
 have hval : ∀ (j : Nat) t v, Try.f3.params[j]? = some t → args[j]? = some v → Value.okWide Try.prog W .any base t v := hval0
 have hW' := hW
 obtain ⟨p, q, hA0, hV, rfl, hfz, hnd⟩ := hW
 have hA : DataW.TrodAll enc Try.prog W 0 (fun _ => true) true Try.f3.params.toList args.toList ds p := hA0
 rw [Try.params3] at hA hval
 obtain ⟨v0, vs0, d0, ds0, p0, q0, hargs, rfl, rfl, h0, r0⟩ := trodAll_cons hA
 obtain ⟨v1, vs1, d1, ds1, p1, q1, rfl, rfl, rfl, h1, r1⟩ := trodAll_cons r0
 obtain ⟨v2, vs2, d2, ds2, p2, q2, rfl, rfl, rfl, h2, r2⟩ := trodAll_cons r1
 obtain ⟨v3, vs3, d3, ds3, p3, q3, rfl, rfl, rfl, h3, r3⟩ := trodAll_cons r2
 obtain ⟨v4, vs4, d4, ds4, p4, q4, rfl, rfl, rfl, h4, r4⟩ := trodAll_cons r3
 obtain ⟨v5, vs5, d5, ds5, p5, q5, rfl, rfl, rfl, h5, r5⟩ := trodAll_cons r4
 obtain ⟨v6, vs6, d6, ds6, p6, q6, rfl, rfl, rfl, h6, r6⟩ := trodAll_cons r5
 obtain ⟨v7, vs7, d7, ds7, p7, q7, rfl, rfl, rfl, h7, r7⟩ := trodAll_cons r6
 obtain ⟨rfl, rfl, rfl⟩ := trodAll_nil r7
 obtain rfl : args = #[v0, v1, v2, v3, v4, v5, v6, v7] := by cases args; simp_all
 obtain ⟨rfl, rfl⟩ := trodVars_none hV
 obtain ⟨ao0, m0, cap0, x0, rfl, hs0, hL0⟩ := y7u (Pr := fun r x => (r = e5 x) ∧ (0 ≤ x ∧ x ≤ 255)) (sz := 1) Try.underlying22 (by kernel_rfl) (by decide) el_5 (hval 0 22 v0 rfl rfl) h0
 unfold maxLen at hL0
 obtain ⟨rfl, hz0⟩ := y6o hs0
 have bd0 := hz0.all (q := fun x => 0 ≤ x ∧ x ≤ 255) (fun _ _ h => h.2)
 replace hz0 := hz0.weak (Pr' := (fun r x => r = e5 x)) (fun _ _ h => h.1)
 obtain ⟨ao1, m1, cap1, x1, rfl, hs1, hL1⟩ := y7u (Pr := fun r x => (r = e5 x) ∧ (0 ≤ x ∧ x ≤ 255)) (sz := 1) Try.underlying22 (by kernel_rfl) (by decide) el_5 (hval 1 22 v1 rfl rfl) h1
 unfold maxLen at hL1
 obtain ⟨rfl, hz1⟩ := y6o hs1
 have bd1 := hz1.all (q := fun x => 0 ≤ x ∧ x ≤ 255) (fun _ _ h => h.2)
 replace hz1 := hz1.weak (Pr' := (fun r x => r = e5 x)) (fun _ _ h => h.1)
 obtain ⟨ao2, m2, cap2, x2, rfl, hs2, hL2⟩ := y7u (Pr := fun r x => (r = e5 x) ∧ (0 ≤ x ∧ x ≤ 255)) (sz := 1) Try.underlying22 (by kernel_rfl) (by decide) el_5 (hval 2 22 v2 rfl rfl) h2
 unfold maxLen at hL2
 obtain ⟨rfl, hz2⟩ := y6o hs2
 have bd2 := hz2.all (q := fun x => 0 ≤ x ∧ x ≤ 255) (fun _ _ h => h.2)
 replace hz2 := hz2.weak (Pr' := (fun r x => r = e5 x)) (fun _ _ h => h.1)
 obtain ⟨ao3, m3, cap3, x3, rfl, hs3, hL3⟩ := y7u (Pr := fun r x => (r = e5 x) ∧ (0 ≤ x ∧ x ≤ 255)) (sz := 1) Try.underlying22 (by kernel_rfl) (by decide) el_5 (hval 3 22 v3 rfl rfl) h3
 unfold maxLen at hL3
 obtain ⟨rfl, hz3⟩ := y6o hs3
 have bd3 := hz3.all (q := fun x => 0 ≤ x ∧ x ≤ 255) (fun _ _ h => h.2)
 replace hz3 := hz3.weak (Pr' := (fun r x => r = e5 x)) (fun _ _ h => h.1)
 obtain ⟨x4, rfl, hd4, hp4, wf4⟩ := open_int Try.underlying23 (hval 4 23 v4 rfl rfl) h4
 have bd4 := Go.bounds_u16 wf4
 obtain ⟨x5, rfl, hd5, hp5, wf5⟩ := open_int Try.underlying23 (hval 5 23 v5 rfl rfl) h5
 have bd5 := Go.bounds_u16 wf5
 obtain ⟨x6, rfl, hd6, hp6, wf6⟩ := open_int Try.underlying5 (hval 6 5 v6 rfl rfl) h6
 have bd6 := Go.bounds_u8 wf6
 obtain ⟨x7, rfl, hd7, hp7, wf7⟩ := open_int Try.underlying5 (hval 7 5 v7 rfl rfl) h7
 have bd7 := Go.bounds_u8 wf7
 have htrue := y77 (m := x0) (n := x1) (p := x2) (q := x3) (g := x4) (h := x5) (slow := x6) (delay := x7) bd0 bd1 bd2 bd3 bd4 bd5 bd6 bd7
 refine (y6x (Z := ZW W) (zeX := ao0) (zeY := cap0) (zeZ := ao1) (zf0 := cap1) (zf1 := ao2) (zf2 := cap2) (zf3 := ao3) (zf4 := cap3) (zbb := x0) (zbc := x1) (zbd := x2) (zbe := x3) (z3c := x4) (z3d := x5) (z6Z := x6) (z7Y := x7) (r := true) W (ZW_pz W) hz0 hz1 hz2 hz3 htrue).mono fun e W' ⟨Zn, he, _, hh⟩ => ?_
 subst he
 exact ⟨_, rfl, yae laid (by kernel_rfl) rfl rfl Try.underlying4 hW' (fun _ => ⟨rfl, rfl, rfl⟩) hh.below⟩
theorem over : Rows.calculusDelaysRow.holds Try.pinned (OpenSpec.ofChange Rows.calculusDelaysSpec) :=
 OpenClaim.holds_of_wide 3 Try.f3 rfl rfl rfl rfl rfl rfl rfl ⟨rfl, rfl, rfl, rfl, rfl⟩ rfl rfl rfl rfl rfl (by kernel_rfl) Try.func3 (by kernel_rfl)
  (of_decide_eq_true (by kernel_rfl)) (by unfold Func.isWrapper; first | (rw [if_pos (by decide +kernel)]; kernel_rfl) | (rw [if_neg (by decide +kernel)]; exact ⟨rfl, rfl⟩))
  (fun os started H enc _ => lifted os started H enc)
theorem proved : Rows.CalculusDelaysSaid := over
#print axioms proved
end Go.Proofs.Ytakfmdiiehcbdaa.calculusDelays
