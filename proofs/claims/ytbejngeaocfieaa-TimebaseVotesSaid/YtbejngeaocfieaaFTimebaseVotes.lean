/-
  Whatever the input, the law TimebaseVotes of layer 34 returns true, and its arguments read behind the call as before it. No conditions.
-/
import Derived.Test.YtbejngeaocfieaaPVotes
import Derived.Test.YtbejngeaocfieaaZFrame
import Derived.Test.YtbejngeaocfieaaRows
set_option linter.all false
namespace Go.Proofs.Ytbejngeaocfieaa.timebaseVotes
open Go.ChangeShapes Go.WideShapes Go.ChangeAt Go.RowKit Sep
set_option linter.unusedVariables false
theorem el_3 {H : Type} {enc : TypeId × Value → H} {W : World} {spare : Nat → Bool} {held : Bool} (n : Nat) (cs : List Value) (y : DataW H × List MemPlace) (h : DataW.trod enc Try.prog W 0 spare held n 3 cs = some y) (hl : cs.length = 1) : ∃ a : Int, (cs = e3 a) ∧ (-9223372036854775808 ≤ a ∧ a ≤ 9223372036854775807) := by
  obtain ⟨a, rfl, -, wf⟩ := DataW.trod_int Try.underlying3 h
  exact ⟨a, rfl, Go.bounds_i64 wf⟩
theorem el_22 {H : Type} {enc : TypeId × Value → H} {W : World} {spare : Nat → Bool} {held : Bool} (n : Nat) (cs : List Value) (y : DataW H × List MemPlace) (h : DataW.trod enc Try.prog W 0 spare held n 22 cs = some y) (hl : cs.length = 1) : ∃ a : List Int, (p22 (ZW W) cs a) ∧ (a.length ≤ 9223372036854775807 ∧ ∀ x ∈ a, -9223372036854775808 ≤ x ∧ x ≤ 9223372036854775807) := by
  obtain ⟨ao, cap, l, rfl, hz, hL⟩ := sl_cells (Pr := fun r x => (r = e3 x) ∧ (-9223372036854775808 ≤ x ∧ x ≤ 9223372036854775807)) (sz := 1) Try.underlying22 (by kernel_rfl) (by decide) el_3 h
  unfold maxLen at hL
  exact ⟨l, ⟨ao, cap, rfl, hz.weak (fun _ _ h => h.1)⟩, ⟨by omega, hz.all (q := fun x => -9223372036854775808 ≤ x ∧ x ≤ 9223372036854775807) (fun _ _ h => h.2)⟩⟩
theorem own : ownKnob Try.prog.godebug = none := by kernel_rfl
theorem laid : laidOutB Try.prog = true := by kernel_rfl
set_option maxRecDepth 100000 in
theorem lifted (os : Os) (started : os.Started) (H : Type) (enc : TypeId × Value → H) :
    ReturnsInHanded {} Try.checked os 4 .any (Rows.timebaseVotesSpec.pre6 enc Try.prog Try.f4 Rows.timebaseVotesRow.domain false) (Rows.timebaseVotesSpec.post enc Try.prog Try.f4 false true false false) := by
  refine returnsInHanded_of_change (C := Try.checked) own started (by kernel_rfl) Try.func4
    (ChangeSpec.witness6 (enc := enc) (C := Try.checked) false ⟨#[], #[.slice none 0 0, .int .i64 0], []⟩ 8 (by kernel_rfl) (by kernel_rfl) (by kernel_rfl) (by kernel_rfl)) ?_
  intro W base args ds gs before hval0 hW hcnd _
  have hval : ∀ (j : Nat) t v, Try.f4.params[j]? = some t → args[j]? = some v → Value.okWide Try.prog W .any base t v := hval0
  have hW' := hW
  obtain ⟨p, q, hA0, hV, rfl, hfz, hnd⟩ := hW
  have hA : DataW.TrodAll enc Try.prog W 0 (fun _ => true) true Try.f4.params.toList args.toList ds p := hA0
  rw [Try.params4] at hA hval
  obtain ⟨v0, vs0, d0, ds0, p0, q0, hargs, rfl, rfl, h0, r0⟩ := trodAll_cons hA
  obtain ⟨v1, vs1, d1, ds1, p1, q1, rfl, rfl, rfl, h1, r1⟩ := trodAll_cons r0
  obtain ⟨rfl, rfl, rfl⟩ := trodAll_nil r1
  obtain rfl : args = #[v0, v1] := by cases args; simp_all
  obtain ⟨rfl, rfl⟩ := trodVars_none hV
  obtain ⟨ao0, m0, cap0, x0, rfl, hs0, hL0⟩ := open_sl (Pr := fun r x => (p22 (ZW W) r x) ∧ (x.length ≤ 9223372036854775807 ∧ ∀ y ∈ x, -9223372036854775808 ≤ y ∧ y ≤ 9223372036854775807)) (sz := 1) Try.underlying30 (by kernel_rfl) (by decide) el_22 (hval 0 30 v0 rfl rfl) h0
  unfold maxLen at hL0
  obtain ⟨rfl, hz0⟩ := ZW_of_slp hs0
  have bd0 := hz0.all (q := fun x => x.length ≤ 9223372036854775807 ∧ ∀ y ∈ x, -9223372036854775808 ≤ y ∧ y ≤ 9223372036854775807) (fun _ _ h => h.2)
  replace hz0 := hz0.weak (Pr' := (p22 (ZW W))) (fun _ _ h => h.1)
  obtain ⟨x1, rfl, hd1, hp1, wf1⟩ := open_int Try.underlying3 (hval 1 3 v1 rfl rfl) h1
  have bd1 := Go.bounds_i64 wf1
  have htrue := votes_true (l := x0) (f := x1)
  refine (w_law34_TimebaseVotes (Z := ZW W) (ao_56110 := ao0) (cap_56111 := cap0) (reads_56109 := x0) (f_56113 := x1) (r := true) W (ZW_pz W) hz0 htrue).mono fun e W' ⟨Zn, he, _, hh⟩ => ?_
  subst he
  exact ⟨_, rfl, post_true laid (by kernel_rfl) rfl rfl Try.underlying4 hW' (fun _ => ⟨rfl, rfl, rfl⟩) hh.below⟩

theorem over : Rows.timebaseVotesRow.holds Try.pinned (OpenSpec.ofChange Rows.timebaseVotesSpec) :=
  OpenClaim.holds_of_wide 4 Try.f4 rfl rfl rfl rfl rfl rfl rfl ⟨rfl, rfl, rfl, rfl, rfl⟩ rfl rfl rfl rfl rfl (by kernel_rfl) Try.func4 (by kernel_rfl)
    (of_decide_eq_true (by kernel_rfl)) (by unfold Func.isWrapper; first | (rw [if_pos (by decide +kernel)]; kernel_rfl) | (rw [if_neg (by decide +kernel)]; exact ⟨rfl, rfl⟩))
    (fun os started H enc _ => lifted os started H enc)

theorem proved : Rows.TimebaseVotesSaid := over
#print axioms proved
end Go.Proofs.Ytbejngeaocfieaa.timebaseVotes
