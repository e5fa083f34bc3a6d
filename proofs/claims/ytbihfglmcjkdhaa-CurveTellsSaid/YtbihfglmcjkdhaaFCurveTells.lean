/-
 Whatever the input, the law CurveTells of layer 2 returns true, and its arguments read behind the call as before it. No conditions.
-/
import Derived.Test.YtbihfglmcjkdhaaPTells
import Derived.Test.YtbihfglmcjkdhaaZFrame
import Derived.Test.YtbihfglmcjkdhaaRows
set_option linter.all false
namespace Go.Proofs.Ytbihfglmcjkdhaa.curveTells
open Go.ChangeShapes Go.WideShapes Go.ChangeAt Go.RowKit Sep
set_option linter.unusedVariables false
def e3 (x : Int) : List Value := [(.int .i64 x)]
theorem e3_oc : ∀ x, ∀ u ∈ e3 x, u.oneCell' = true := fun _ => (oc_cons rfl oc_nil)
theorem el_3 {H : Type} {enc : TypeId × Value → H} {W : World} {spare : Nat → Bool} {held : Bool} (n : Nat) (cs : List Value) (y : DataW H × List MemPlace) (h : DataW.trod enc Try.prog W 0 spare held n 3 cs = some y) (hl : cs.length = 1) : ∃ a : Int, (cs = e3 a) ∧ (-9223372036854775808 ≤ a ∧ a ≤ 9223372036854775807) := by
 obtain ⟨a, rfl, -, wf⟩ := DataW.trod_int Try.underlying3 h
 exact ⟨a, rfl, Go.bounds_i64 wf⟩
theorem el_28 {H : Type} {enc : TypeId × Value → H} {W : World} {spare : Nat → Bool} {held : Bool} (n : Nat) (cs : List Value) (y : DataW H × List MemPlace) (h : DataW.trod enc Try.prog W 0 spare held n 28 cs = some y) (hl : cs.length = 2) : ∃ a : z2, (cs = e28 a) ∧ ((-9223372036854775808 ≤ a.fN ∧ a.fN ≤ 9223372036854775807) ∧ (-9223372036854775808 ≤ a.fD ∧ a.fD ≤ 9223372036854775807)) := by
 obtain ⟨y0, m0, h0⟩ := trod_field 0 Try.underlying28 h rfl
 have c0 : Try.prog.cellsOf 3 = 1 := by kernel_rfl
 try dsimp only at h0
 rw [c0] at h0
 obtain ⟨a0, r0, k0⟩ := el_3 _ _ _ h0 (by simp [hl])
 obtain ⟨y1, m1, h1⟩ := trod_field 1 Try.underlying28 h rfl
 have c1 : Try.prog.cellsOf 3 = 1 := by kernel_rfl
 try dsimp only at h1
 rw [c1] at h1
 obtain ⟨a1, r1, k1⟩ := el_3 _ _ _ h1 (by simp [hl])
 obtain ⟨u0, u1, rfl⟩ : ∃ u0 u1, cs = [u0, u1] := by match cs, hl with | [u0, u1], _ => exact ⟨_, _, rfl⟩
 simp [e3] at r0
 simp [e3] at r1
 exact ⟨⟨a0, a1⟩, by simp [e28, *], ⟨k0, k1⟩⟩
theorem el_42 {H : Type} {enc : TypeId × Value → H} {W : World} {spare : Nat → Bool} {held : Bool} (n : Nat) (cs : List Value) (y : DataW H × List MemPlace) (h : DataW.trod enc Try.prog W 0 spare held n 42 cs = some y) (hl : cs.length = 4) : ∃ a : z1, (cs = e42 a) ∧ (((-9223372036854775808 ≤ a.fBurst.fN ∧ a.fBurst.fN ≤ 9223372036854775807) ∧ (-9223372036854775808 ≤ a.fBurst.fD ∧ a.fBurst.fD ≤ 9223372036854775807)) ∧ ((-9223372036854775808 ≤ a.fRate.fN ∧ a.fRate.fN ≤ 9223372036854775807) ∧ (-9223372036854775808 ≤ a.fRate.fD ∧ a.fRate.fD ≤ 9223372036854775807))) := by
 obtain ⟨y0, m0, h0⟩ := trod_field 0 Try.underlying42 h rfl
 have c0 : Try.prog.cellsOf 28 = 2 := by kernel_rfl
 try dsimp only at h0
 rw [c0] at h0
 obtain ⟨a0, r0, k0⟩ := el_28 _ _ _ h0 (by simp [hl])
 obtain ⟨y1, m1, h1⟩ := trod_field 1 Try.underlying42 h rfl
 have c1 : Try.prog.cellsOf 28 = 2 := by kernel_rfl
 try dsimp only at h1
 rw [c1] at h1
 obtain ⟨a1, r1, k1⟩ := el_28 _ _ _ h1 (by simp [hl])
 obtain ⟨u0, u1, u2, u3, rfl⟩ : ∃ u0 u1 u2 u3, cs = [u0, u1, u2, u3] := by match cs, hl with | [u0, u1, u2, u3], _ => exact ⟨_, _, _, _, rfl⟩
 simp [e28] at r0
 simp [e28] at r1
 exact ⟨⟨a0, a1⟩, by simp [e42, *], ⟨k0, k1⟩⟩
theorem own : ownKnob Try.prog.godebug = none := by kernel_rfl
theorem laid : laidOutB Try.prog = true := by kernel_rfl
set_option maxRecDepth 100000 in
theorem lifted (os : Os) (started : os.Started) (H : Type) (enc : TypeId × Value → H) :
  ReturnsInHanded {} Try.checked os 6 .any (Rows.curveTellsSpec.pre6 enc Try.prog Try.f6 Rows.curveTellsRow.domain false) (Rows.curveTellsSpec.post enc Try.prog Try.f6 false true false false) := by
 refine returnsInHanded_of_change (C := Try.checked) own started (by kernel_rfl) Try.func6
  (ChangeSpec.witness6 (enc := enc) (C := Try.checked) false ⟨#[], #[.slice none 0 0, .slice none 0 0, (.agg #[.int .i64 0, .int .i64 0])], []⟩ 8 (by kernel_rfl) (by kernel_rfl) (by kernel_rfl) (by kernel_rfl)) ?_
 intro W base args ds gs before hval0 hW hcnd _
 have hval : ∀ (j : Nat) t v, Try.f6.params[j]? = some t → args[j]? = some v → Value.okWide Try.prog W .any base t v := hval0
 have hW' := hW
 obtain ⟨p, q, hA0, hV, rfl, hfz, hnd⟩ := hW
 have hA : DataW.TrodAll enc Try.prog W 0 (fun _ => true) true Try.f6.params.toList args.toList ds p := hA0
 rw [Try.params6] at hA hval
 obtain ⟨v0, vs0, d0, ds0, p0, q0, hargs, rfl, rfl, h0, r0⟩ := trodAll_cons hA
 obtain ⟨v1, vs1, d1, ds1, p1, q1, rfl, rfl, rfl, h1, r1⟩ := trodAll_cons r0
 obtain ⟨v2, vs2, d2, ds2, p2, q2, rfl, rfl, rfl, h2, r2⟩ := trodAll_cons r1
 obtain ⟨rfl, rfl, rfl⟩ := trodAll_nil r2
 obtain rfl : args = #[v0, v1, v2] := by cases args; simp_all
 obtain ⟨rfl, rfl⟩ := trodVars_none hV
 obtain ⟨ao0, m0, cap0, x0, rfl, hs0, hL0⟩ := open_sl (Pr := fun r x => (r = e42 x) ∧ (((-9223372036854775808 ≤ x.fBurst.fN ∧ x.fBurst.fN ≤ 9223372036854775807) ∧ (-9223372036854775808 ≤ x.fBurst.fD ∧ x.fBurst.fD ≤ 9223372036854775807)) ∧ ((-9223372036854775808 ≤ x.fRate.fN ∧ x.fRate.fN ≤ 9223372036854775807) ∧ (-9223372036854775808 ≤ x.fRate.fD ∧ x.fRate.fD ≤ 9223372036854775807)))) (sz := 4) Try.underlying25 (by kernel_rfl) (by decide) el_42 (hval 0 25 v0 rfl rfl) h0
 unfold maxLen at hL0
 obtain ⟨rfl, hz0⟩ := ZW_of_slp hs0
 have bd0 := hz0.all (q := fun x => ((-9223372036854775808 ≤ x.fBurst.fN ∧ x.fBurst.fN ≤ 9223372036854775807) ∧ (-9223372036854775808 ≤ x.fBurst.fD ∧ x.fBurst.fD ≤ 9223372036854775807)) ∧ ((-9223372036854775808 ≤ x.fRate.fN ∧ x.fRate.fN ≤ 9223372036854775807) ∧ (-9223372036854775808 ≤ x.fRate.fD ∧ x.fRate.fD ≤ 9223372036854775807))) (fun _ _ h => h.2)
 replace hz0 := hz0.weak (Pr' := (fun r x => r = e42 x)) (fun _ _ h => h.1)
 obtain ⟨ao1, m1, cap1, x1, rfl, hs1, hL1⟩ := open_sl (Pr := fun r x => (r = e42 x) ∧ (((-9223372036854775808 ≤ x.fBurst.fN ∧ x.fBurst.fN ≤ 9223372036854775807) ∧ (-9223372036854775808 ≤ x.fBurst.fD ∧ x.fBurst.fD ≤ 9223372036854775807)) ∧ ((-9223372036854775808 ≤ x.fRate.fN ∧ x.fRate.fN ≤ 9223372036854775807) ∧ (-9223372036854775808 ≤ x.fRate.fD ∧ x.fRate.fD ≤ 9223372036854775807)))) (sz := 4) Try.underlying25 (by kernel_rfl) (by decide) el_42 (hval 1 25 v1 rfl rfl) h1
 unfold maxLen at hL1
 obtain ⟨rfl, hz1⟩ := ZW_of_slp hs1
 have bd1 := hz1.all (q := fun x => ((-9223372036854775808 ≤ x.fBurst.fN ∧ x.fBurst.fN ≤ 9223372036854775807) ∧ (-9223372036854775808 ≤ x.fBurst.fD ∧ x.fBurst.fD ≤ 9223372036854775807)) ∧ ((-9223372036854775808 ≤ x.fRate.fN ∧ x.fRate.fN ≤ 9223372036854775807) ∧ (-9223372036854775808 ≤ x.fRate.fD ∧ x.fRate.fD ≤ 9223372036854775807))) (fun _ _ h => h.2)
 replace hz1 := hz1.weak (Pr' := (fun r x => r = e42 x)) (fun _ _ h => h.1)
 obtain ⟨fuel2, hf2⟩ := h2
 obtain ⟨cs2, rfl, hl2, hg2⟩ := agg_of (hval 2 28 v2 rfl rfl) hf2 Try.underlying28 (show Try.prog.cellsOf 28 = 2 by kernel_rfl)
 obtain ⟨x2, hr2, bd2⟩ := el_28 _ _ _ hg2 hl2
 obtain rfl := hr2
 have htrue := curveTells_true (a := x0) (b := x1) (t := x2)
 refine (w_law02_CurveTells (Z := ZW W) (z3H := ao0) (z3I := cap0) (z6l := ao1) (z6m := cap1) (z21 := x0) (z4u := x1) (z8 := x2) (r := true) W (ZW_pz W) hz0 hz1 htrue).mono fun e W' ⟨Zn, he, _, hh⟩ => ?_
 subst he
 exact ⟨_, rfl, post_true laid (by kernel_rfl) rfl rfl Try.underlying4 hW' (fun _ => ⟨rfl, rfl, rfl⟩) hh.below⟩
theorem over : Rows.curveTellsRow.holds Try.pinned (OpenSpec.ofChange Rows.curveTellsSpec) :=
 OpenClaim.holds_of_wide 6 Try.f6 rfl rfl rfl rfl rfl rfl rfl ⟨rfl, rfl, rfl, rfl, rfl⟩ rfl rfl rfl rfl rfl (by kernel_rfl) Try.func6 (by kernel_rfl)
  (of_decide_eq_true (by kernel_rfl)) (by unfold Func.isWrapper; first | (rw [if_pos (by decide +kernel)]; kernel_rfl) | (rw [if_neg (by decide +kernel)]; exact ⟨rfl, rfl⟩))
  (fun os started H enc _ => lifted os started H enc)
theorem proved : Rows.CurveTellsSaid := over
#print axioms proved
end Go.Proofs.Ytbihfglmcjkdhaa.curveTells
