/-
  Whatever the input, the law TimebaseTells of layer 34 returns true, and its arguments read behind the call as before it. No conditions.
-/
import Derived.Test.YtbejngeaocfieaaPTells
import Derived.Test.YtbejngeaocfieaaZFrame
import Derived.Test.YtbejngeaocfieaaRows
set_option linter.all false
namespace Go.Proofs.Ytbejngeaocfieaa.timebaseTells
open Go.ChangeShapes Go.WideShapes Go.ChangeAt Go.RowKit Sep
set_option linter.unusedVariables false
def p24 (Z : Zp) (r : List Value) (x : Stimebase_Setup) : Prop := ∃ (ao0 : Option Addr) (cap0 : Nat) (ao1 : Option Addr) (cap1 : Nat) (ao2 : Option Addr) (cap2 : Nat) (ao3 : Option Addr) (cap3 : Nat) (ao4 : Option Addr) (cap4 : Nat), r = [(.slice ao0 x.fStart.length cap0), (.slice ao1 x.fDrift.length cap1), (.slice ao2 x.fFaulty.length cap2), (.int .i64 x.fF), (.int .i64 x.fE), (.slice ao3 x.fErrs.length cap3), (.slice ao4 x.fLies.length cap4)] ∧ ZS Z 1 (fun r x => r = e3 x) ao0 cap0 x.fStart ∧ ZS Z 1 (fun r x => r = e3 x) ao1 cap1 x.fDrift ∧ ZS Z 1 (fun r x => r = e3 x) ao2 cap2 x.fFaulty ∧ ZS Z 1 (fun r x => r = e3 x) ao3 cap3 x.fErrs ∧ ZS Z 1 (fun r x => r = e3 x) ao4 cap4 x.fLies
theorem p24_mono {Z Z' : Zp} (k : Zle Z Z') {r : List Value} {x : Stimebase_Setup} (h : p24 Z r x) : p24 Z' r x := by
  obtain ⟨ao0, cap0, ao1, cap1, ao2, cap2, ao3, cap3, ao4, cap4, hr, h0, h1, h2, h3, h4⟩ := h
  exact ⟨ao0, cap0, ao1, cap1, ao2, cap2, ao3, cap3, ao4, cap4, hr, h0.mono k, h1.mono k, h2.mono k, h3.mono k, h4.mono k⟩
theorem p24_len {Z : Zp} {r : List Value} {x : Stimebase_Setup} (h : p24 Z r x) : r.length = 7 := by
  obtain ⟨ao0, cap0, ao1, cap1, ao2, cap2, ao3, cap3, ao4, cap4, hr, h0, h1, h2, h3, h4⟩ := h
  rw [hr]; rfl
theorem el_3 {H : Type} {enc : TypeId × Value → H} {W : World} {spare : Nat → Bool} {held : Bool} (n : Nat) (cs : List Value) (y : DataW H × List MemPlace) (h : DataW.trod enc Try.prog W 0 spare held n 3 cs = some y) (hl : cs.length = 1) : ∃ a : Int, (cs = e3 a) ∧ (-9223372036854775808 ≤ a ∧ a ≤ 9223372036854775807) := by
  obtain ⟨a, rfl, -, wf⟩ := DataW.trod_int Try.underlying3 h
  exact ⟨a, rfl, Go.bounds_i64 wf⟩
theorem el_22 {H : Type} {enc : TypeId × Value → H} {W : World} {spare : Nat → Bool} {held : Bool} (n : Nat) (cs : List Value) (y : DataW H × List MemPlace) (h : DataW.trod enc Try.prog W 0 spare held n 22 cs = some y) (hl : cs.length = 1) : ∃ a : List Int, (p22 (ZW W) cs a) ∧ (a.length ≤ 9223372036854775807 ∧ ∀ x ∈ a, -9223372036854775808 ≤ x ∧ x ≤ 9223372036854775807) := by
  obtain ⟨ao, cap, l, rfl, hz, hL⟩ := sl_cells (Pr := fun r x => (r = e3 x) ∧ (-9223372036854775808 ≤ x ∧ x ≤ 9223372036854775807)) (sz := 1) Try.underlying22 (by kernel_rfl) (by decide) el_3 h
  unfold maxLen at hL
  exact ⟨l, ⟨ao, cap, rfl, hz.weak (fun _ _ h => h.1)⟩, ⟨by omega, hz.all (q := fun x => -9223372036854775808 ≤ x ∧ x ≤ 9223372036854775807) (fun _ _ h => h.2)⟩⟩
theorem el_24 {H : Type} {enc : TypeId × Value → H} {W : World} {spare : Nat → Bool} {held : Bool} (n : Nat) (cs : List Value) (y : DataW H × List MemPlace) (h : DataW.trod enc Try.prog W 0 spare held n 24 cs = some y) (hl : cs.length = 7) : ∃ a : Stimebase_Setup, (p24 (ZW W) cs a) ∧ ((a.fStart.length ≤ 9223372036854775807 ∧ ∀ x ∈ a.fStart, -9223372036854775808 ≤ x ∧ x ≤ 9223372036854775807) ∧ (a.fDrift.length ≤ 9223372036854775807 ∧ ∀ x ∈ a.fDrift, -9223372036854775808 ≤ x ∧ x ≤ 9223372036854775807) ∧ (a.fFaulty.length ≤ 9223372036854775807 ∧ ∀ x ∈ a.fFaulty, -9223372036854775808 ≤ x ∧ x ≤ 9223372036854775807) ∧ (-9223372036854775808 ≤ a.fF ∧ a.fF ≤ 9223372036854775807) ∧ (-9223372036854775808 ≤ a.fE ∧ a.fE ≤ 9223372036854775807) ∧ (a.fErrs.length ≤ 9223372036854775807 ∧ ∀ x ∈ a.fErrs, -9223372036854775808 ≤ x ∧ x ≤ 9223372036854775807) ∧ (a.fLies.length ≤ 9223372036854775807 ∧ ∀ x ∈ a.fLies, -9223372036854775808 ≤ x ∧ x ≤ 9223372036854775807)) := by
  obtain ⟨y0, m0, h0⟩ := trod_field 0 Try.underlying24 h rfl
  have c0 : Try.prog.cellsOf 22 = 1 := by kernel_rfl
  try dsimp only at h0
  rw [c0] at h0
  obtain ⟨a0, r0, k0⟩ := el_22 _ _ _ h0 (by simp [hl])
  obtain ⟨y1, m1, h1⟩ := trod_field 1 Try.underlying24 h rfl
  have c1 : Try.prog.cellsOf 22 = 1 := by kernel_rfl
  try dsimp only at h1
  rw [c1] at h1
  obtain ⟨a1, r1, k1⟩ := el_22 _ _ _ h1 (by simp [hl])
  obtain ⟨y2, m2, h2⟩ := trod_field 2 Try.underlying24 h rfl
  have c2 : Try.prog.cellsOf 22 = 1 := by kernel_rfl
  try dsimp only at h2
  rw [c2] at h2
  obtain ⟨a2, r2, k2⟩ := el_22 _ _ _ h2 (by simp [hl])
  obtain ⟨y3, m3, h3⟩ := trod_field 3 Try.underlying24 h rfl
  have c3 : Try.prog.cellsOf 3 = 1 := by kernel_rfl
  try dsimp only at h3
  rw [c3] at h3
  obtain ⟨a3, r3, k3⟩ := el_3 _ _ _ h3 (by simp [hl])
  obtain ⟨y4, m4, h4⟩ := trod_field 4 Try.underlying24 h rfl
  have c4 : Try.prog.cellsOf 3 = 1 := by kernel_rfl
  try dsimp only at h4
  rw [c4] at h4
  obtain ⟨a4, r4, k4⟩ := el_3 _ _ _ h4 (by simp [hl])
  obtain ⟨y5, m5, h5⟩ := trod_field 5 Try.underlying24 h rfl
  have c5 : Try.prog.cellsOf 22 = 1 := by kernel_rfl
  try dsimp only at h5
  rw [c5] at h5
  obtain ⟨a5, r5, k5⟩ := el_22 _ _ _ h5 (by simp [hl])
  obtain ⟨y6, m6, h6⟩ := trod_field 6 Try.underlying24 h rfl
  have c6 : Try.prog.cellsOf 22 = 1 := by kernel_rfl
  try dsimp only at h6
  rw [c6] at h6
  obtain ⟨a6, r6, k6⟩ := el_22 _ _ _ h6 (by simp [hl])
  obtain ⟨u0, u1, u2, u3, u4, u5, u6, rfl⟩ : ∃ u0 u1 u2 u3 u4 u5 u6, cs = [u0, u1, u2, u3, u4, u5, u6] := by match cs, hl with | [u0, u1, u2, u3, u4, u5, u6], _ => exact ⟨_, _, _, _, _, _, _, rfl⟩
  obtain ⟨ao0x0, cp0x0, r0, z0x0⟩ := r0
  simp at r0
  obtain ⟨ao1x0, cp1x0, r1, z1x0⟩ := r1
  simp at r1
  obtain ⟨ao2x0, cp2x0, r2, z2x0⟩ := r2
  simp at r2
  simp [e3] at r3
  simp [e3] at r4
  obtain ⟨ao5x0, cp5x0, r5, z5x0⟩ := r5
  simp at r5
  obtain ⟨ao6x0, cp6x0, r6, z6x0⟩ := r6
  simp at r6
  refine ⟨⟨a0, a1, a2, a3, a4, a5, a6⟩, ⟨ao0x0, cp0x0, ao1x0, cp1x0, ao2x0, cp2x0, ao5x0, cp5x0, ao6x0, cp6x0, by simp [*], z0x0, z1x0, z2x0, z5x0, z6x0⟩, ⟨k0, k1, k2, k3, k4, k5, k6⟩⟩
theorem own : ownKnob Try.prog.godebug = none := by kernel_rfl
theorem laid : laidOutB Try.prog = true := by kernel_rfl
set_option maxRecDepth 100000 in
theorem lifted (os : Os) (started : os.Started) (H : Type) (enc : TypeId × Value → H) :
    ReturnsInHanded {} Try.checked os 3 .any (Rows.timebaseTellsSpec.pre6 enc Try.prog Try.f3 Rows.timebaseTellsRow.domain false) (Rows.timebaseTellsSpec.post enc Try.prog Try.f3 false true false false) := by
  refine returnsInHanded_of_change (C := Try.checked) own started (by kernel_rfl) Try.func3
    (ChangeSpec.witness6 (enc := enc) (C := Try.checked) false ⟨#[], #[(.agg #[.slice none 0 0, .slice none 0 0, .slice none 0 0, .int .i64 0, .int .i64 0, .slice none 0 0, .slice none 0 0]), .slice none 0 0, .int .i64 0, .int .i64 0], []⟩ 8 (by kernel_rfl) (by kernel_rfl) (by kernel_rfl) (by kernel_rfl)) ?_
  intro W base args ds gs before hval0 hW hcnd _
  have hval : ∀ (j : Nat) t v, Try.f3.params[j]? = some t → args[j]? = some v → Value.okWide Try.prog W .any base t v := hval0
  have hW' := hW
  obtain ⟨p, q, hA0, hV, rfl, hfz, hnd⟩ := hW
  have hA : DataW.TrodAll enc Try.prog W 0 (fun _ => true) true Try.f3.params.toList args.toList ds p := hA0
  rw [Try.params3] at hA hval
  obtain ⟨v0, vs0, d0, ds0, p0, q0, hargs, rfl, rfl, h0, r0⟩ := trodAll_cons hA
  obtain ⟨v1, vs1, d1, ds1, p1, q1, rfl, rfl, rfl, h1, r1⟩ := trodAll_cons r0
  obtain ⟨v2, vs2, d2, ds2, p2, q2, rfl, rfl, rfl, h2, r2⟩ := trodAll_cons r1
  obtain ⟨v3, vs3, d3, ds3, p3, q3, rfl, rfl, rfl, h3, r3⟩ := trodAll_cons r2
  obtain ⟨rfl, rfl, rfl⟩ := trodAll_nil r3
  obtain rfl : args = #[v0, v1, v2, v3] := by cases args; simp_all
  obtain ⟨rfl, rfl⟩ := trodVars_none hV
  obtain ⟨fuel0, hf0⟩ := h0
  obtain ⟨cs0, rfl, hl0, hg0⟩ := agg_of (hval 0 24 v0 rfl rfl) hf0 Try.underlying24 (show Try.prog.cellsOf 24 = 7 by kernel_rfl)
  obtain ⟨x0, hr0, bd0⟩ := el_24 _ _ _ hg0 hl0
  obtain ⟨ao0x0, cp0x0, ao0x1, cp0x1, ao0x2, cp0x2, ao0x3, cp0x3, ao0x4, cp0x4, rfl, z0x0, z0x1, z0x2, z0x3, z0x4⟩ := hr0
  obtain ⟨ao1, m1, cap1, x1, rfl, hs1, hL1⟩ := open_sl (Pr := fun r x => (r = e3 x) ∧ (-9223372036854775808 ≤ x ∧ x ≤ 9223372036854775807)) (sz := 1) Try.underlying22 (by kernel_rfl) (by decide) el_3 (hval 1 22 v1 rfl rfl) h1
  unfold maxLen at hL1
  obtain ⟨rfl, hz1⟩ := ZW_of_slp hs1
  have bd1 := hz1.all (q := fun x => -9223372036854775808 ≤ x ∧ x ≤ 9223372036854775807) (fun _ _ h => h.2)
  replace hz1 := hz1.weak (Pr' := (fun r x => r = e3 x)) (fun _ _ h => h.1)
  obtain ⟨x2, rfl, hd2, hp2, wf2⟩ := open_int Try.underlying3 (hval 2 3 v2 rfl rfl) h2
  have bd2 := Go.bounds_i64 wf2
  obtain ⟨x3, rfl, hd3, hp3, wf3⟩ := open_int Try.underlying3 (hval 3 3 v3 rfl rfl) h3
  have bd3 := Go.bounds_i64 wf3
  have htrue := tells_true (s := x0) (c := x1) (round := x2) (rounds := x3)
  refine (w_law34_TimebaseTells (Z := ZW W) (ao_15819 := ao0x0) (cap_15820 := cp0x0) (ao_15822 := ao0x1) (cap_15823 := cp0x1) (ao_15825 := ao0x2) (cap_15826 := cp0x2) (ao_15828 := ao0x3) (cap_15829 := cp0x3) (ao_15831 := ao0x4) (cap_15832 := cp0x4) (ao_15835 := ao1) (cap_15836 := cap1) (s_15818 := x0) (clocks_15834 := x1) (round_15838 := x2) (rounds_15839 := x3) (r := true) W (ZW_pz W) z0x0 z0x1 z0x2 z0x3 z0x4 hz1 htrue).mono fun e W' ⟨Zn, he, _, hh⟩ => ?_
  subst he
  exact ⟨_, rfl, post_true laid (by kernel_rfl) rfl rfl Try.underlying4 hW' (fun _ => ⟨rfl, rfl, rfl⟩) hh.below⟩

theorem over : Rows.timebaseTellsRow.holds Try.pinned (OpenSpec.ofChange Rows.timebaseTellsSpec) :=
  OpenClaim.holds_of_wide 3 Try.f3 rfl rfl rfl rfl rfl rfl rfl ⟨rfl, rfl, rfl, rfl, rfl⟩ rfl rfl rfl rfl rfl (by kernel_rfl) Try.func3 (by kernel_rfl)
    (of_decide_eq_true (by kernel_rfl)) (by unfold Func.isWrapper; first | (rw [if_pos (by decide +kernel)]; kernel_rfl) | (rw [if_neg (by decide +kernel)]; exact ⟨rfl, rfl⟩))
    (fun os started H enc _ => lifted os started H enc)

theorem proved : Rows.TimebaseTellsSaid := over
#print axioms proved
end Go.Proofs.Ytbejngeaocfieaa.timebaseTells
