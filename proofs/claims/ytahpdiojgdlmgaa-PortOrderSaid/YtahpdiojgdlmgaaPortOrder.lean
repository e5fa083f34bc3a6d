/-
  Whatever the input, the law PortOrder of layer 30 returns true, and its arguments read behind the call as before it. No conditions.
-/
import Derived.Test.YtahpdiojgdlmgaaPortB
import Derived.Test.YtahpdiojgdlmgaaSepFrame
import Derived.Test.YtahpdiojgdlmgaaRows
set_option linter.all false
namespace Go.Proofs.Ytahpdiojgdlmgaa.portOrder
open Go.ChangeShapes Go.WideShapes Go.ChangeAt Go.RowKit Sep
set_option linter.unusedVariables false
theorem own : ownKnob Try.prog.godebug = none := by kernel_rfl
theorem laid : laidOutB Try.prog = true := by kernel_rfl
set_option maxRecDepth 100000 in
theorem lifted (os : Os) (started : os.Started) (H : Type) (enc : TypeId × Value → H) :
    ReturnsInHanded {} Try.checked os 4 .any (Rows.portOrderSpec.pre6 enc Try.prog Try.f4 Rows.portOrderRow.domain false) (Rows.portOrderSpec.post enc Try.prog Try.f4 false true false false) := by
  refine returnsInHanded_of_change (C := Try.checked) own started (by kernel_rfl) Try.func4
    (ChangeSpec.witness6 (enc := enc) (C := Try.checked) false ⟨#[], #[.slice none 0 0, .slice none 0 0, .int .u8 0, .int .u8 0, .int .u16 0], []⟩ 8 (by kernel_rfl) (by kernel_rfl) (by kernel_rfl) (by kernel_rfl)) ?_
  intro W base args ds gs before hval0 hW hcnd _
  have hval : ∀ (j : Nat) t v, Try.f4.params[j]? = some t → args[j]? = some v → Value.okWide Try.prog W .any base t v := hval0
  have hW' := hW
  obtain ⟨p, q, hA0, hV, rfl, hfz, hnd⟩ := hW
  have hA : DataW.TrodAll enc Try.prog W 0 (fun _ => true) true Try.f4.params.toList args.toList ds p := hA0
  rw [Try.params4] at hA hval
  obtain ⟨v0, vs0, d0, ds0, p0, q0, hargs, rfl, rfl, h0, r0⟩ := trodAll_cons hA
  obtain ⟨v1, vs1, d1, ds1, p1, q1, rfl, rfl, rfl, h1, r1⟩ := trodAll_cons r0
  obtain ⟨v2, vs2, d2, ds2, p2, q2, rfl, rfl, rfl, h2, r2⟩ := trodAll_cons r1
  obtain ⟨v3, vs3, d3, ds3, p3, q3, rfl, rfl, rfl, h3, r3⟩ := trodAll_cons r2
  obtain ⟨v4, vs4, d4, ds4, p4, q4, rfl, rfl, rfl, h4, r4⟩ := trodAll_cons r3
  obtain ⟨rfl, rfl, rfl⟩ := trodAll_nil r4
  obtain rfl : args = #[v0, v1, v2, v3, v4] := by cases args; simp_all
  obtain ⟨rfl, rfl⟩ := trodVars_none hV
  obtain ⟨aoS, mS, capS, ss, rfl, hsS, hL0⟩ := open_sl (Pr := u8P) (sz := 1) Try.underlying42 (by kernel_rfl) (by decide) (fun _ _ _ h _ => let ⟨m, hm, _, hw⟩ := DataW.trod_int Try.underlying5 h; ⟨m, hm, (Go.bounds_u8 hw).1, (Go.bounds_u8 hw).2⟩) (hval 0 42 v0 rfl rfl) h0
  unfold maxLen at hL0
  obtain ⟨aoW, mW, capW, ws, rfl, hsW, hL1⟩ := open_sl (Pr := u8P) (sz := 1) Try.underlying42 (by kernel_rfl) (by decide) (fun _ _ _ h _ => let ⟨m, hm, _, hw⟩ := DataW.trod_int Try.underlying5 h; ⟨m, hm, (Go.bounds_u8 hw).1, (Go.bounds_u8 hw).2⟩) (hval 1 42 v1 rfl rfl) h1
  unfold maxLen at hL1
  obtain ⟨slow, rfl, hd2, hp2, wf2⟩ := open_int Try.underlying5 (hval 2 5 v2 rfl rfl) h2
  have bd2 := Go.bounds_u8 wf2
  obtain ⟨delay, rfl, hd3, hp3, wf3⟩ := open_int Try.underlying5 (hval 3 5 v3 rfl rfl) h3
  have bd3 := Go.bounds_u8 wf3
  obtain ⟨store, rfl, hd4, hp4, wf4⟩ := open_int Try.underlying43 (hval 4 43 v4 rfl rfl) h4
  have bd4 := Go.bounds_u16 wf4
  refine (order_law aoS mS capS ss aoW mW capW ws slow delay store W hsS hsW (by omega) (hsW.all (fun _ _ h => h.2)) (hsS.all (fun _ _ h => h.2)) (by omega)).mono fun e W' ⟨he, hh⟩ => ?_
  subst he
  exact ⟨_, rfl, post_true laid (by kernel_rfl) rfl rfl Try.underlying4 hW' (fun _ => ⟨rfl, rfl, rfl⟩) hh.below⟩

theorem over : Rows.portOrderRow.holds Try.pinned (OpenSpec.ofChange Rows.portOrderSpec) :=
  OpenClaim.holds_of_wide 4 Try.f4 rfl rfl rfl rfl rfl rfl rfl ⟨rfl, rfl, rfl, rfl, rfl⟩ rfl rfl rfl rfl rfl (by kernel_rfl) Try.func4 (by kernel_rfl)
    (of_decide_eq_true (by kernel_rfl)) (by unfold Func.isWrapper; first | (rw [if_pos (by decide +kernel)]; kernel_rfl) | (rw [if_neg (by decide +kernel)]; exact ⟨rfl, rfl⟩))
    (fun os started H enc _ => lifted os started H enc)

theorem proved : Rows.PortOrderSaid := over
#print axioms proved
end Go.Proofs.Ytahpdiojgdlmgaa.portOrder
