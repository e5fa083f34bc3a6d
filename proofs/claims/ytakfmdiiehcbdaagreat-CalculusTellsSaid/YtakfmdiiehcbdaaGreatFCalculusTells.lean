/-
 Whatever the input, the law CalculusTells of layer 3 returns true, and its arguments read behind the call as before it. No conditions.
-/
import Derived.Test.YtakfmdiiehcbdaaGreatPTells
import Derived.Test.YtakfmdiiehcbdaaGreatZFrame
import Derived.Test.YtakfmdiiehcbdaaGreatRows
set_option linter.all false
namespace Go.Proofs.YtakfmdiiehcbdaaGreat.calculusTells
open Go.ChangeShapes Go.WideShapes Go.ChangeAt Go.RowKit Sep
set_option linter.unusedVariables false
abbrev kd40 (a : z1) : Prop := (-9223372036854775808 ≤ a.fN ∧ a.fN ≤ 9223372036854775807) ∧ (-9223372036854775808 ≤ a.fD ∧ a.fD ≤ 9223372036854775807)
abbrev kd54 (a : z2) : Prop := (kd40 a.fB) ∧ (kd40 a.fR)
abbrev kd42 (a : S41) : Prop := (kd40 a.fR) ∧ (kd40 a.fL)
theorem el_3 {H : Type} {enc : TypeId × Value → H} {W : World} {spare : Nat → Bool} {held : Bool} (n : Nat) (cs : List Value) (y : DataW H × List MemPlace) (h : DataW.trod enc Tryz.prog W 0 spare held n 3 cs = some y) (hl : cs.length = 1) : ∃ a : Int, (cs = e3 a) ∧ (-9223372036854775808 ≤ a ∧ a ≤ 9223372036854775807) := by
 obtain ⟨a, rfl, -, wf⟩ := DataW.trod_int Tryz.underlying3 h
 exact ⟨a, rfl, Go.bounds_i64 wf⟩
theorem el_40 {H : Type} {enc : TypeId × Value → H} {W : World} {spare : Nat → Bool} {held : Bool} (n : Nat) (cs : List Value) (y : DataW H × List MemPlace) (h : DataW.trod enc Tryz.prog W 0 spare held n 40 cs = some y) (hl : cs.length = 2) : ∃ a : z1, (cs = e40 a) ∧ (kd40 a) := by
 obtain ⟨y0, m0, h0⟩ := y5a 0 Tryz.underlying40 h rfl
 have c0 : Tryz.prog.cellsOf 3 = 1 := by kernel_rfl
 try dsimp only at h0
 rw [c0] at h0
 obtain ⟨a0, r0, k0⟩ := el_3 _ _ _ h0 (by simp [hl])
 obtain ⟨y1, m1, h1⟩ := y5a 1 Tryz.underlying40 h rfl
 have c1 : Tryz.prog.cellsOf 3 = 1 := by kernel_rfl
 try dsimp only at h1
 rw [c1] at h1
 obtain ⟨a1, r1, k1⟩ := el_3 _ _ _ h1 (by simp [hl])
 obtain ⟨u0, u1, rfl⟩ : ∃ u0 u1, cs = [u0, u1] := by match cs, hl with | [u0, u1], _ => exact ⟨_, _, rfl⟩
 simp [e3] at r0
 simp [e3] at r1
 exact ⟨⟨a0, a1⟩, by simp [e40, *], ⟨k0, k1⟩⟩
theorem el_54 {H : Type} {enc : TypeId × Value → H} {W : World} {spare : Nat → Bool} {held : Bool} (n : Nat) (cs : List Value) (y : DataW H × List MemPlace) (h : DataW.trod enc Tryz.prog W 0 spare held n 54 cs = some y) (hl : cs.length = 4) : ∃ a : z2, (cs = e54 a) ∧ (kd54 a) := by
 obtain ⟨y0, m0, h0⟩ := y5a 0 Tryz.underlying54 h rfl
 have c0 : Tryz.prog.cellsOf 40 = 2 := by kernel_rfl
 try dsimp only at h0
 rw [c0] at h0
 obtain ⟨a0, r0, k0⟩ := el_40 _ _ _ h0 (by simp [hl])
 obtain ⟨y1, m1, h1⟩ := y5a 1 Tryz.underlying54 h rfl
 have c1 : Tryz.prog.cellsOf 40 = 2 := by kernel_rfl
 try dsimp only at h1
 rw [c1] at h1
 obtain ⟨a1, r1, k1⟩ := el_40 _ _ _ h1 (by simp [hl])
 obtain ⟨u0, u1, u2, u3, rfl⟩ : ∃ u0 u1 u2 u3, cs = [u0, u1, u2, u3] := by match cs, hl with | [u0, u1, u2, u3], _ => exact ⟨_, _, _, _, rfl⟩
 simp [e40] at r0
 simp [e40] at r1
 exact ⟨⟨a0, a1⟩, by simp [e54, *], ⟨k0, k1⟩⟩
theorem el_23 {H : Type} {enc : TypeId × Value → H} {W : World} {spare : Nat → Bool} {held : Bool} (n : Nat) (cs : List Value) (y : DataW H × List MemPlace) (h : DataW.trod enc Tryz.prog W 0 spare held n 23 cs = some y) (hl : cs.length = 1) : ∃ a : List z2, (p23 (ZW W) cs a) ∧ (a.length ≤ 9223372036854775807 ∧ ∀ x ∈ a, kd54 x) := by
 obtain ⟨ao, cap, l, rfl, hz, hL⟩ := sl_cells (Pr := fun r x => (r = e54 x) ∧ (kd54 x)) (sz := 4) Tryz.underlying23 (by kernel_rfl) (by decide) el_54 h
 unfold maxLen at hL
 exact ⟨l, ⟨ao, cap, rfl, hz.weak (fun _ _ h => h.1)⟩, ⟨by omega, hz.all (q := fun x => kd54 x) (fun _ _ h => h.2)⟩⟩
theorem el_42 {H : Type} {enc : TypeId × Value → H} {W : World} {spare : Nat → Bool} {held : Bool} (n : Nat) (cs : List Value) (y : DataW H × List MemPlace) (h : DataW.trod enc Tryz.prog W 0 spare held n 42 cs = some y) (hl : cs.length = 4) : ∃ a : S41, (cs = e42 a) ∧ (kd42 a) := by
 obtain ⟨y0, m0, h0⟩ := y5a 0 Tryz.underlying42 h rfl
 have c0 : Tryz.prog.cellsOf 40 = 2 := by kernel_rfl
 try dsimp only at h0
 rw [c0] at h0
 obtain ⟨a0, r0, k0⟩ := el_40 _ _ _ h0 (by simp [hl])
 obtain ⟨y1, m1, h1⟩ := y5a 1 Tryz.underlying42 h rfl
 have c1 : Tryz.prog.cellsOf 40 = 2 := by kernel_rfl
 try dsimp only at h1
 rw [c1] at h1
 obtain ⟨a1, r1, k1⟩ := el_40 _ _ _ h1 (by simp [hl])
 obtain ⟨u0, u1, u2, u3, rfl⟩ : ∃ u0 u1 u2 u3, cs = [u0, u1, u2, u3] := by match cs, hl with | [u0, u1, u2, u3], _ => exact ⟨_, _, _, _, rfl⟩
 simp [e40] at r0
 simp [e40] at r1
 exact ⟨⟨a0, a1⟩, by simp [e42, *], ⟨k0, k1⟩⟩
theorem own : ownKnob Tryz.prog.godebug = none := by kernel_rfl
theorem laid : laidOutB Tryz.prog = true := by kernel_rfl
set_option maxRecDepth 100000 in
theorem lifted (os : Os) (started : os.Started) (H : Type) (enc : TypeId × Value → H) :
  ReturnsInHanded {} Tryz.checked os 4 .any (Rows.calculusTellsSpec.pre6 enc Tryz.prog Tryz.f4 Rows.calculusTellsRow.domain false) (Rows.calculusTellsSpec.post enc Tryz.prog Tryz.f4 false true false false) := by
 refine returnsInHanded_of_change (C := Tryz.checked) own started (by kernel_rfl) Tryz.func4
  (ChangeSpec.witness6 (enc := enc) (C := Tryz.checked) false ⟨#[], #[.slice none 0 0, (.agg #[.int .i64 0, .int .i64 0, .int .i64 0, .int .i64 0]), (.agg #[.int .i64 0, .int .i64 0, .int .i64 0, .int .i64 0])], []⟩ 8 (by kernel_rfl) (by kernel_rfl) (by kernel_rfl) (by kernel_rfl)) ?_
 intro W base args ds gs before hval0 hW hcnd _
 have hval : ∀ (j : Nat) t v, Tryz.f4.params[j]? = some t → args[j]? = some v → Value.okWide Tryz.prog W .any base t v := hval0
 have hW' := hW
 obtain ⟨p, q, hA0, hV, rfl, hfz, hnd⟩ := hW
 have hA : DataW.TrodAll enc Tryz.prog W 0 (fun _ => true) true Tryz.f4.params.toList args.toList ds p := hA0
 rw [Tryz.params4] at hA hval
 obtain ⟨v0, vs0, d0, ds0, p0, q0, hargs, rfl, rfl, h0, r0⟩ := trodAll_cons hA
 obtain ⟨v1, vs1, d1, ds1, p1, q1, rfl, rfl, rfl, h1, r1⟩ := trodAll_cons r0
 obtain ⟨v2, vs2, d2, ds2, p2, q2, rfl, rfl, rfl, h2, r2⟩ := trodAll_cons r1
 obtain ⟨rfl, rfl, rfl⟩ := trodAll_nil r2
 obtain rfl : args = #[v0, v1, v2] := by cases args; simp_all
 obtain ⟨rfl, rfl⟩ := trodVars_none hV
 obtain ⟨ao0, m0, cap0, x0, rfl, hs0, hL0⟩ := open_sl (Pr := fun r x => (p23 (ZW W) r x) ∧ (x.length ≤ 9223372036854775807 ∧ ∀ y ∈ x, kd54 y)) (sz := 1) Tryz.underlying38 (by kernel_rfl) (by decide) el_23 (hval 0 38 v0 rfl rfl) h0
 unfold maxLen at hL0
 obtain ⟨rfl, hz0⟩ := yaf hs0
 have bd0 := hz0.all (q := fun x => x.length ≤ 9223372036854775807 ∧ ∀ y ∈ x, kd54 y) (fun _ _ h => h.2)
 replace hz0 := hz0.weak (Pr' := (p23 (ZW W))) (fun _ _ h => h.1)
 obtain ⟨fuel1, hf1⟩ := h1
 obtain ⟨cs1, rfl, hl1, hg1⟩ := agg_of (hval 1 42 v1 rfl rfl) hf1 Tryz.underlying42 (show Tryz.prog.cellsOf 42 = 4 by kernel_rfl)
 obtain ⟨x1, hr1, bd1⟩ := el_42 _ _ _ hg1 hl1
 obtain rfl := hr1
 obtain ⟨fuel2, hf2⟩ := h2
 obtain ⟨cs2, rfl, hl2, hg2⟩ := agg_of (hval 2 42 v2 rfl rfl) hf2 Tryz.underlying42 (show Tryz.prog.cellsOf 42 = 4 by kernel_rfl)
 obtain ⟨x2, hr2, bd2⟩ := el_42 _ _ _ hg2 hl2
 obtain rfl := hr2
 have htrue := y8L (l := x0) (s := x1) (t := x2)
 refine (y7V (Z := ZW W) (zao := ao0) (zap := cap0) (z20 := x0) (z15 := x1) (z1m := x2) (r := true) htrue W (ZW_pz W) hz0).mono fun e W' ⟨Zn, he, _, hh⟩ => ?_
 subst he
 exact ⟨_, rfl, ych laid (by kernel_rfl) rfl rfl Tryz.underlying4 hW' (fun _ => ⟨rfl, rfl, rfl⟩) hh.below⟩
theorem over : Rows.calculusTellsRow.holds Tryz.pinned (OpenSpec.ofChange Rows.calculusTellsSpec) :=
 OpenClaim.holds_of_wide 4 Tryz.f4 rfl rfl rfl rfl rfl rfl rfl ⟨rfl, rfl, rfl, rfl, rfl⟩ rfl rfl rfl rfl rfl (by kernel_rfl) Tryz.func4 (by kernel_rfl)
  (of_decide_eq_true (by kernel_rfl)) (by unfold Func.isWrapper; first | (rw [if_pos (by decide +kernel)]; kernel_rfl) | (rw [if_neg (by decide +kernel)]; exact ⟨rfl, rfl⟩))
  (fun os started H enc _ => lifted os started H enc)
theorem proved : Rows.CalculusTellsSaid := over
#print axioms proved
end Go.Proofs.YtakfmdiiehcbdaaGreat.calculusTells
