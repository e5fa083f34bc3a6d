/-
 Whatever the input, the law PortNone of layer 30 returns true, and its arguments read behind the call as before it. No conditions.
-/
import Derived.Test.YtahpdiojgdlmgaaPPortNone
import Derived.Test.YtahpdiojgdlmgaaZFrame
import Derived.Test.YtahpdiojgdlmgaaRows
set_option linter.all false
namespace Go.Proofs.Ytahpdiojgdlmgaa.portNone
open Go.ChangeShapes Go.WideShapes Go.ChangeAt Go.RowKit Sep
set_option linter.unusedVariables false
theorem own : ownKnob Try.prog.godebug = none := by kernel_rfl
theorem laid : laidOutB Try.prog = true := by kernel_rfl
set_option maxRecDepth 100000 in
theorem lifted (os : Os) (started : os.Started) (H : Type) (enc : TypeId × Value → H) :
  ReturnsInHanded {} Try.checked os 7 .any (Rows.portNoneSpec.pre6 enc Try.prog Try.f7 Rows.portNoneRow.domain false) (Rows.portNoneSpec.post enc Try.prog Try.f7 false true false false) := by
 refine returnsInHanded_of_change (C := Try.checked) own started (by kernel_rfl) Try.func7
  (ChangeSpec.witness6 (enc := enc) (C := Try.checked) false ⟨#[], #[.int .i64 0, .int .i64 0, .int .i64 0], []⟩ 8 (by kernel_rfl) (by kernel_rfl) (by kernel_rfl) (by kernel_rfl)) ?_
 intro W base args ds gs before hval0 hW hcnd _
 have hval : ∀ (j : Nat) t v, Try.f7.params[j]? = some t → args[j]? = some v → Value.okWide Try.prog W .any base t v := hval0
 have hW' := hW
 obtain ⟨p, q, hA0, hV, rfl, hfz, hnd⟩ := hW
 have hA : DataW.TrodAll enc Try.prog W 0 (fun _ => true) true Try.f7.params.toList args.toList ds p := hA0
 rw [Try.params7] at hA hval
 obtain ⟨v0, vs0, d0, ds0, p0, q0, hargs, rfl, rfl, h0, r0⟩ := trodAll_cons hA
 obtain ⟨v1, vs1, d1, ds1, p1, q1, rfl, rfl, rfl, h1, r1⟩ := trodAll_cons r0
 obtain ⟨v2, vs2, d2, ds2, p2, q2, rfl, rfl, rfl, h2, r2⟩ := trodAll_cons r1
 obtain ⟨rfl, rfl, rfl⟩ := trodAll_nil r2
 obtain rfl : args = #[v0, v1, v2] := by cases args; simp_all
 obtain ⟨rfl, rfl⟩ := trodVars_none hV
 obtain ⟨x0, rfl, hd0, hp0, wf0⟩ := open_int Try.underlying3 (hval 0 3 v0 rfl rfl) h0
 have bd0 := Go.bounds_i64 wf0
 obtain ⟨x1, rfl, hd1, hp1, wf1⟩ := open_int Try.underlying3 (hval 1 3 v1 rfl rfl) h1
 have bd1 := Go.bounds_i64 wf1
 obtain ⟨x2, rfl, hd2, hp2, wf2⟩ := open_int Try.underlying3 (hval 2 3 v2 rfl rfl) h2
 have bd2 := Go.bounds_i64 wf2
 have htrue := y2v x0 x1 x2
 refine (y2a (Z := ZW W)  (n_1 := x0) (t_2 := x1) (size_3 := x2) (r := true) W (ZW_pz W)  htrue).mono fun e W' ⟨he, hh⟩ => ?_
 subst he
 exact ⟨_, rfl, y35 laid (by kernel_rfl) rfl rfl Try.underlying4 hW' (fun _ => ⟨rfl, rfl, rfl⟩) hh.below⟩
theorem over : Rows.portNoneRow.holds Try.pinned (OpenSpec.ofChange Rows.portNoneSpec) :=
 OpenClaim.holds_of_wide 7 Try.f7 rfl rfl rfl rfl rfl rfl rfl ⟨rfl, rfl, rfl, rfl, rfl⟩ rfl rfl rfl rfl rfl (by kernel_rfl) Try.func7 (by kernel_rfl)
  (of_decide_eq_true (by kernel_rfl)) (by unfold Func.isWrapper; first | (rw [if_pos (by decide +kernel)]; kernel_rfl) | (rw [if_neg (by decide +kernel)]; exact ⟨rfl, rfl⟩))
  (fun os started H enc _ => lifted os started H enc)
theorem proved : Rows.PortNoneSaid := over
#print axioms proved
end Go.Proofs.Ytahpdiojgdlmgaa.portNone
