/-
 Whatever the input, the law CalculusServes of layer 3 returns true, and its arguments read behind the call as before it. No conditions.
-/
import Derived.Test.YtakfmdiiehcbdaaGreatPServes
import Derived.Test.YtakfmdiiehcbdaaGreatZFrame
import Derived.Test.YtakfmdiiehcbdaaGreatRows
set_option linter.all false
namespace Go.Proofs.YtakfmdiiehcbdaaGreat.calculusServes
open Go.ChangeShapes Go.WideShapes Go.ChangeAt Go.RowKit Sep
set_option linter.unusedVariables false
theorem el_3 {H : Type} {enc : TypeId × Value → H} {W : World} {spare : Nat → Bool} {held : Bool} (n : Nat) (cs : List Value) (y : DataW H × List MemPlace) (h : DataW.trod enc Tryz.prog W 0 spare held n 3 cs = some y) (hl : cs.length = 1) : ∃ a : Int, (cs = e3 a) ∧ (-9223372036854775808 ≤ a ∧ a ≤ 9223372036854775807) := by
 obtain ⟨a, rfl, -, wf⟩ := DataW.trod_int Tryz.underlying3 h
 exact ⟨a, rfl, Go.bounds_i64 wf⟩
theorem el_40 {H : Type} {enc : TypeId × Value → H} {W : World} {spare : Nat → Bool} {held : Bool} (n : Nat) (cs : List Value) (y : DataW H × List MemPlace) (h : DataW.trod enc Tryz.prog W 0 spare held n 40 cs = some y) (hl : cs.length = 2) : ∃ a : z2, (cs = e40 a) ∧ ((-9223372036854775808 ≤ a.fN ∧ a.fN ≤ 9223372036854775807) ∧ (-9223372036854775808 ≤ a.fD ∧ a.fD ≤ 9223372036854775807)) := by
 obtain ⟨y0, m0, h0⟩ := trod_field 0 Tryz.underlying40 h rfl
 have c0 : Tryz.prog.cellsOf 3 = 1 := by kernel_rfl
 try dsimp only at h0
 rw [c0] at h0
 obtain ⟨a0, r0, k0⟩ := el_3 _ _ _ h0 (by simp [hl])
 obtain ⟨y1, m1, h1⟩ := trod_field 1 Tryz.underlying40 h rfl
 have c1 : Tryz.prog.cellsOf 3 = 1 := by kernel_rfl
 try dsimp only at h1
 rw [c1] at h1
 obtain ⟨a1, r1, k1⟩ := el_3 _ _ _ h1 (by simp [hl])
 obtain ⟨u0, u1, rfl⟩ : ∃ u0 u1, cs = [u0, u1] := by match cs, hl with | [u0, u1], _ => exact ⟨_, _, rfl⟩
 simp [e3] at r0
 simp [e3] at r1
 exact ⟨⟨a0, a1⟩, by simp [e40, *], ⟨k0, k1⟩⟩
theorem el_54 {H : Type} {enc : TypeId × Value → H} {W : World} {spare : Nat → Bool} {held : Bool} (n : Nat) (cs : List Value) (y : DataW H × List MemPlace) (h : DataW.trod enc Tryz.prog W 0 spare held n 54 cs = some y) (hl : cs.length = 4) : ∃ a : z1, (cs = e54 a) ∧ (((-9223372036854775808 ≤ a.fBurst.fN ∧ a.fBurst.fN ≤ 9223372036854775807) ∧ (-9223372036854775808 ≤ a.fBurst.fD ∧ a.fBurst.fD ≤ 9223372036854775807)) ∧ ((-9223372036854775808 ≤ a.fRate.fN ∧ a.fRate.fN ≤ 9223372036854775807) ∧ (-9223372036854775808 ≤ a.fRate.fD ∧ a.fRate.fD ≤ 9223372036854775807))) := by
 obtain ⟨y0, m0, h0⟩ := trod_field 0 Tryz.underlying54 h rfl
 have c0 : Tryz.prog.cellsOf 40 = 2 := by kernel_rfl
 try dsimp only at h0
 rw [c0] at h0
 obtain ⟨a0, r0, k0⟩ := el_40 _ _ _ h0 (by simp [hl])
 obtain ⟨y1, m1, h1⟩ := trod_field 1 Tryz.underlying54 h rfl
 have c1 : Tryz.prog.cellsOf 40 = 2 := by kernel_rfl
 try dsimp only at h1
 rw [c1] at h1
 obtain ⟨a1, r1, k1⟩ := el_40 _ _ _ h1 (by simp [hl])
 obtain ⟨u0, u1, u2, u3, rfl⟩ : ∃ u0 u1 u2 u3, cs = [u0, u1, u2, u3] := by match cs, hl with | [u0, u1, u2, u3], _ => exact ⟨_, _, _, _, rfl⟩
 simp [e40] at r0
 simp [e40] at r1
 exact ⟨⟨a0, a1⟩, by simp [e54, *], ⟨k0, k1⟩⟩
theorem el_58 {H : Type} {enc : TypeId × Value → H} {W : World} {spare : Nat → Bool} {held : Bool} (n : Nat) (cs : List Value) (y : DataW H × List MemPlace) (h : DataW.trod enc Tryz.prog W 0 spare held n 58 cs = some y) (hl : cs.length = 3) : ∃ a : Sapi_Sent, (cs = e58 a) ∧ ((-9223372036854775808 ≤ a.fTime ∧ a.fTime ≤ 9223372036854775807) ∧ (-9223372036854775808 ≤ a.fVL ∧ a.fVL ≤ 9223372036854775807) ∧ (-9223372036854775808 ≤ a.fSize ∧ a.fSize ≤ 9223372036854775807)) := by
 obtain ⟨y0, m0, h0⟩ := trod_field 0 Tryz.underlying58 h rfl
 have c0 : Tryz.prog.cellsOf 3 = 1 := by kernel_rfl
 try dsimp only at h0
 rw [c0] at h0
 obtain ⟨a0, r0, k0⟩ := el_3 _ _ _ h0 (by simp [hl])
 obtain ⟨y1, m1, h1⟩ := trod_field 1 Tryz.underlying58 h rfl
 have c1 : Tryz.prog.cellsOf 3 = 1 := by kernel_rfl
 try dsimp only at h1
 rw [c1] at h1
 obtain ⟨a1, r1, k1⟩ := el_3 _ _ _ h1 (by simp [hl])
 obtain ⟨y2, m2, h2⟩ := trod_field 2 Tryz.underlying58 h rfl
 have c2 : Tryz.prog.cellsOf 3 = 1 := by kernel_rfl
 try dsimp only at h2
 rw [c2] at h2
 obtain ⟨a2, r2, k2⟩ := el_3 _ _ _ h2 (by simp [hl])
 obtain ⟨u0, u1, u2, rfl⟩ : ∃ u0 u1 u2, cs = [u0, u1, u2] := by match cs, hl with | [u0, u1, u2], _ => exact ⟨_, _, _, rfl⟩
 simp [e3] at r0
 simp [e3] at r1
 simp [e3] at r2
 exact ⟨⟨a0, a1, a2⟩, by simp [e58, *], ⟨k0, k1, k2⟩⟩
theorem own : ownKnob Tryz.prog.godebug = none := by kernel_rfl
theorem laid : laidOutB Tryz.prog = true := by kernel_rfl
set_option maxRecDepth 100000 in
theorem lifted (os : Os) (started : os.Started) (H : Type) (enc : TypeId × Value → H) :
  ReturnsInHanded {} Tryz.checked os 3 .any (Rows.calculusServesSpec.pre6 enc Tryz.prog Tryz.f3 Rows.calculusServesRow.domain false) (Rows.calculusServesSpec.post enc Tryz.prog Tryz.f3 false true false false) := by
 refine returnsInHanded_of_change (C := Tryz.checked) own started (by kernel_rfl) Tryz.func3
  (ChangeSpec.witness6 (enc := enc) (C := Tryz.checked) false ⟨#[], #[.slice none 0 0, .slice none 0 0, .int .i64 0, .int .i64 0], []⟩ 8 (by kernel_rfl) (by kernel_rfl) (by kernel_rfl) (by kernel_rfl)) ?_
 intro W base args ds gs before hval0 hW hcnd _
 have hval : ∀ (j : Nat) t v, Tryz.f3.params[j]? = some t → args[j]? = some v → Value.okWide Tryz.prog W .any base t v := hval0
 have hW' := hW
 obtain ⟨p, q, hA0, hV, rfl, hfz, hnd⟩ := hW
 have hA : DataW.TrodAll enc Tryz.prog W 0 (fun _ => true) true Tryz.f3.params.toList args.toList ds p := hA0
 rw [Tryz.params3] at hA hval
 obtain ⟨v0, vs0, d0, ds0, p0, q0, hargs, rfl, rfl, h0, r0⟩ := trodAll_cons hA
 obtain ⟨v1, vs1, d1, ds1, p1, q1, rfl, rfl, rfl, h1, r1⟩ := trodAll_cons r0
 obtain ⟨v2, vs2, d2, ds2, p2, q2, rfl, rfl, rfl, h2, r2⟩ := trodAll_cons r1
 obtain ⟨v3, vs3, d3, ds3, p3, q3, rfl, rfl, rfl, h3, r3⟩ := trodAll_cons r2
 obtain ⟨rfl, rfl, rfl⟩ := trodAll_nil r3
 obtain rfl : args = #[v0, v1, v2, v3] := by cases args; simp_all
 obtain ⟨rfl, rfl⟩ := trodVars_none hV
 obtain ⟨ao0, m0, cap0, x0, rfl, hs0, hL0⟩ := open_sl (Pr := fun r x => (r = e54 x) ∧ (((-9223372036854775808 ≤ x.fBurst.fN ∧ x.fBurst.fN ≤ 9223372036854775807) ∧ (-9223372036854775808 ≤ x.fBurst.fD ∧ x.fBurst.fD ≤ 9223372036854775807)) ∧ ((-9223372036854775808 ≤ x.fRate.fN ∧ x.fRate.fN ≤ 9223372036854775807) ∧ (-9223372036854775808 ≤ x.fRate.fD ∧ x.fRate.fD ≤ 9223372036854775807)))) (sz := 4) Tryz.underlying23 (by kernel_rfl) (by decide) el_54 (hval 0 23 v0 rfl rfl) h0
 unfold maxLen at hL0
 obtain ⟨rfl, hz0⟩ := ZW_of_slp hs0
 have bd0 := hz0.all (q := fun x => ((-9223372036854775808 ≤ x.fBurst.fN ∧ x.fBurst.fN ≤ 9223372036854775807) ∧ (-9223372036854775808 ≤ x.fBurst.fD ∧ x.fBurst.fD ≤ 9223372036854775807)) ∧ ((-9223372036854775808 ≤ x.fRate.fN ∧ x.fRate.fN ≤ 9223372036854775807) ∧ (-9223372036854775808 ≤ x.fRate.fD ∧ x.fRate.fD ≤ 9223372036854775807))) (fun _ _ h => h.2)
 replace hz0 := hz0.weak (Pr' := (fun r x => r = e54 x)) (fun _ _ h => h.1)
 obtain ⟨ao1, m1, cap1, x1, rfl, hs1, hL1⟩ := open_sl (Pr := fun r x => (r = e58 x) ∧ ((-9223372036854775808 ≤ x.fTime ∧ x.fTime ≤ 9223372036854775807) ∧ (-9223372036854775808 ≤ x.fVL ∧ x.fVL ≤ 9223372036854775807) ∧ (-9223372036854775808 ≤ x.fSize ∧ x.fSize ≤ 9223372036854775807))) (sz := 3) Tryz.underlying24 (by kernel_rfl) (by decide) el_58 (hval 1 24 v1 rfl rfl) h1
 unfold maxLen at hL1
 obtain ⟨rfl, hz1⟩ := ZW_of_slp hs1
 have bd1 := hz1.all (q := fun x => (-9223372036854775808 ≤ x.fTime ∧ x.fTime ≤ 9223372036854775807) ∧ (-9223372036854775808 ≤ x.fVL ∧ x.fVL ≤ 9223372036854775807) ∧ (-9223372036854775808 ≤ x.fSize ∧ x.fSize ≤ 9223372036854775807)) (fun _ _ h => h.2)
 replace hz1 := hz1.weak (Pr' := (fun r x => r = e58 x)) (fun _ _ h => h.1)
 obtain ⟨x2, rfl, hd2, hp2, wf2⟩ := open_int Tryz.underlying3 (hval 2 3 v2 rfl rfl) h2
 have bd2 := Go.bounds_i64 wf2
 obtain ⟨x3, rfl, hd3, hp3, wf3⟩ := open_int Tryz.underlying3 (hval 3 3 v3 rfl rfl) h3
 have bd3 := Go.bounds_i64 wf3
 have htrue := calculusServes_true (c := x0) (l := x1) (slow := x2) (delay := x3) (by omega)
 refine (w_law03_CalculusServes (Z := ZW W) (zbg := ao0) (zbh := cap0) (z9j := ao1) (z9k := cap1) (z7a := x0) (z4Q := x1) (z8O := x2) (z8P := x3) (r := true) W (ZW_pz W) hz0 hz1 htrue).mono fun e W' ⟨Zn, he, _, hh⟩ => ?_
 subst he
 exact ⟨_, rfl, post_true laid (by kernel_rfl) rfl rfl Tryz.underlying4 hW' (fun _ => ⟨rfl, rfl, rfl⟩) hh.below⟩
theorem over : Rows.calculusServesRow.holds Tryz.pinned (OpenSpec.ofChange Rows.calculusServesSpec) :=
 OpenClaim.holds_of_wide 3 Tryz.f3 rfl rfl rfl rfl rfl rfl rfl ⟨rfl, rfl, rfl, rfl, rfl⟩ rfl rfl rfl rfl rfl (by kernel_rfl) Tryz.func3 (by kernel_rfl)
  (of_decide_eq_true (by kernel_rfl)) (by unfold Func.isWrapper; first | (rw [if_pos (by decide +kernel)]; kernel_rfl) | (rw [if_neg (by decide +kernel)]; exact ⟨rfl, rfl⟩))
  (fun os started H enc _ => lifted os started H enc)
theorem proved : Rows.CalculusServesSaid := over
#print axioms proved
end Go.Proofs.YtakfmdiiehcbdaaGreat.calculusServes
