/-
 Whatever the input, the law ProcWork of layer 26 returns true, and its arguments read behind the call as before it. No conditions.
-/
import Derived.Test.YtjdnejbngloieaaDoorPWork
import Derived.Test.YtjdnejbngloieaaDoorZFrame
import Derived.Test.YtjdnejbngloieaaDoorZGlob
import Derived.Test.YtjdnejbngloieaaDoorRows
import Derived.Test.YtjdnejbngloieaaDoorCards
import Derived.Test.YtjdnejbngloieaaDoorTie
set_option linter.all false
namespace Go.Proofs.YtjdnejbngloieaaDoor.procWork
open Go.ChangeShapes Go.WideShapes Go.ChangeAt Go.RowKit Sep
set_option linter.unusedVariables false
abbrev kd34 (a : S34) : Prop := (0 ≤ a.a0 ∧ a.a0 ≤ 255) ∧ (0 ≤ a.a1 ∧ a.a1 ≤ 255) ∧ (0 ≤ a.a2 ∧ a.a2 ≤ 255) ∧ (0 ≤ a.a3 ∧ a.a3 ≤ 255)
theorem el_5 {H : Type} {enc : TypeId × Value → H} {W : World} {spare : Nat → Bool} {held : Bool} (n : Nat) (cs : List Value) (y : DataW H × List MemPlace) (h : DataW.trod enc Tryd.prog W 0 spare held n 5 cs = some y) (hl : cs.length = 1) : ∃ a : Int, (cs = e5 a) ∧ (0 ≤ a ∧ a ≤ 255) := by
 obtain ⟨a, rfl, -, wf⟩ := DataW.trod_int Tryd.underlying5 h
 exact ⟨a, rfl, Go.bounds_u8 wf⟩
theorem el_34 {H : Type} {enc : TypeId × Value → H} {W : World} {spare : Nat → Bool} {held : Bool} (n : Nat) (cs : List Value) (y : DataW H × List MemPlace) (h : DataW.trod enc Tryd.prog W 0 spare held n 34 cs = some y) (hl : cs.length = 4) : ∃ a : S34, (cs = e34 a) ∧ (kd34 a) := by
 obtain ⟨y0, m0, h0⟩ := y3B 0 Tryd.underlying34 h (by decide) (show Tryd.prog.cellsOf 5 = 1 by kernel_rfl)
 obtain ⟨a0, r0, k0⟩ := el_5 _ _ _ h0 (by simp [hl])
 obtain ⟨y1, m1, h1⟩ := y3B 1 Tryd.underlying34 h (by decide) (show Tryd.prog.cellsOf 5 = 1 by kernel_rfl)
 obtain ⟨a1, r1, k1⟩ := el_5 _ _ _ h1 (by simp [hl])
 obtain ⟨y2, m2, h2⟩ := y3B 2 Tryd.underlying34 h (by decide) (show Tryd.prog.cellsOf 5 = 1 by kernel_rfl)
 obtain ⟨a2, r2, k2⟩ := el_5 _ _ _ h2 (by simp [hl])
 obtain ⟨y3, m3, h3⟩ := y3B 3 Tryd.underlying34 h (by decide) (show Tryd.prog.cellsOf 5 = 1 by kernel_rfl)
 obtain ⟨a3, r3, k3⟩ := el_5 _ _ _ h3 (by simp [hl])
 obtain ⟨u0, u1, u2, u3, rfl⟩ : ∃ u0 u1 u2 u3, cs = [u0, u1, u2, u3] := by match cs, hl with | [u0, u1, u2, u3], _ => exact ⟨_, _, _, _, rfl⟩
 simp [e5] at r0
 simp [e5] at r1
 simp [e5] at r2
 simp [e5] at r3
 exact ⟨⟨a0, a1, a2, a3⟩, by simp [e34, *], ⟨k0, k1, k2, k3⟩⟩
theorem own : ownKnob Tryd.prog.godebug = none := by kernel_rfl
theorem laid : laidOutB Tryd.prog = true := by kernel_rfl
theorem hG0 {W : World} (hL : laidMetH Tryd.prog Rows.procWorkRow.laid W) : ZC (ZW W) ⟨0, 0, none⟩ tabG0 :=
 y6B (name := "nacelle/proc.instructions") hL (List.mem_cons_of_mem _ (List.mem_singleton.2 rfl)) (by kernel_rfl) (by kernel_rfl) Tryd.underlying67 Tryd.underlying66 (by kernel_rfl) (by kernel_rfl) (by kernel_rfl)
theorem hG1 {W : World} (hL : laidMetH Tryd.prog Rows.procWorkRow.laid W) : ZS (ZW W) 1 (p74 (ZW W)) (some ⟨1, 0, none⟩) 26 yP :=
 glob_tab (name := "nacelle/proc.operands") (d := Rows.laid_nacelle_proc_operands) (rest := []) (k := .u8) hL (by kernel_rfl) (by kernel_rfl) Tryd.underlying75 Tryd.underlying74 Tryd.underlying76 (by kernel_rfl) (by kernel_rfl) (by kernel_rfl) (by decide) (by kernel_rfl) (by kernel_rfl)
theorem laid_met (os : Os) : laidMetH Tryd.prog Rows.procWorkRow.laid ((World.doorLaid Tryd.prog 400 os).forCall (fun _ _ => 0) ⟨#[], #[.int .i64 0, (.agg #[.int .u8 0, .int .u8 0, .int .u8 0, .int .u8 0]), .slice none 0 0], []⟩).memory :=
 laidMetH_of_parts3 (fuel := 8) (laidMet_of_run' 8 (by kernel_rfl) (by kernel_rfl)) (by kernel_rfl) (by kernel_rfl)
theorem reads (os : Os) {H : Type} (enc : TypeId × Value → H) : ∃ places, DataW.whole enc Tryd.prog ((World.doorLaid Tryd.prog 400 os).forCall (fun _ _ => 0) ⟨#[], #[.int .i64 0, (.agg #[.int .u8 0, .int .u8 0, .int .u8 0, .int .u8 0]), .slice none 0 0], []⟩).memory Tryd.f5.params.toList Rows.procWorkSpec.vars false (#[.int .i64 0, (.agg #[.int .u8 0, .int .u8 0, .int .u8 0, .int .u8 0]), .slice none 0 0] : Array Value).toList 8 = some ([.lit (.int .i64 0), .agg [.lit (.int .u8 0), .lit (.int .u8 0), .lit (.int .u8 0), .lit (.int .u8 0)], .nil], [], places) :=
 ⟨[], by kernel_rfl⟩
set_option maxRecDepth 100000 in
theorem lifted (os : Os) (started : os.Started) (H : Type) (enc : TypeId × Value → H) (F : Stop.Interp) :
  ReturnsInHanded {} Tryd.checked os 5 .any ((OpenSpec.ofChange Rows.procWorkSpec).preRow enc Tryd.prog Tryd.f5 Rows.procWorkRow.domain false Rows.procWorkRow.laid) (((OpenSpec.ofChange Rows.procWorkSpec).at F).post enc Tryd.prog Tryd.f5 false true false false) := by
 obtain ⟨places, hx⟩ := reads os enc
 refine returnsInHanded_of_row (C := Tryd.checked) (s := OpenSpec.ofChange Rows.procWorkSpec) own started (by kernel_rfl) Tryd.func5
  (witness_row_atRef (enc := enc) (C := Tryd.checked) false (World.doorLaid Tryd.prog 400 os) #[.int .i64 0, (.agg #[.int .u8 0, .int .u8 0, .int .u8 0, .int .u8 0]), .slice none 0 0] rfl (by kernel_rfl) (by kernel_rfl) (by kernel_rfl)
   (OpenSpec.preRow_of_cond 8 hx (by kernel_rfl) (fun k hk => by cases hk) (by kernel_rfl) (laid_met os))) ?_
 intro W base args ds gs before hval0 hW hcnd _ _ hL _ _
 have hval : ∀ (j : Nat) t v, Tryd.f5.params[j]? = some t → args[j]? = some v → Value.okWide Tryd.prog W .any base t v := hval0
 have hW' := hW
 obtain ⟨p, q, hA0, hV, rfl, hfz, hnd⟩ := hW
 have hA : DataW.TrodAll enc Tryd.prog W 0 (fun _ => true) true Tryd.f5.params.toList args.toList ds p := hA0
 rw [Tryd.params5] at hA hval
 obtain ⟨v0, vs0, d0, ds0, p0, q0, hargs, rfl, rfl, h0, r0⟩ := trodAll_cons hA
 obtain ⟨v1, vs1, d1, ds1, p1, q1, rfl, rfl, rfl, h1, r1⟩ := trodAll_cons r0
 obtain ⟨v2, vs2, d2, ds2, p2, q2, rfl, rfl, rfl, h2, r2⟩ := trodAll_cons r1
 obtain ⟨rfl, rfl, rfl⟩ := trodAll_nil r2
 obtain rfl : args = #[v0, v1, v2] := by cases args; simp_all
 obtain ⟨rfl, rfl⟩ := trodVars_none hV
 obtain ⟨x0, rfl, hd0, hp0, wf0⟩ := open_int Tryd.underlying3 (hval 0 3 v0 rfl rfl) h0
 have bd0 := Go.bounds_i64 wf0
 obtain ⟨fuel1, hf1⟩ := h1
 obtain ⟨cs1, rfl, hl1, hg1⟩ := agg_ofA (hval 1 34 v1 rfl rfl) hf1 Tryd.underlying34 (show Tryd.prog.cellsOf 34 = 4 by kernel_rfl)
 obtain ⟨x1, hr1, bd1⟩ := el_34 _ _ _ hg1 hl1
 obtain rfl := hr1
 obtain ⟨ao2, m2, cap2, x2, rfl, hs2, hL2⟩ := open_sl (Pr := fun r x => (r = e5 x) ∧ (0 ≤ x ∧ x ≤ 255)) (sz := 1) Tryd.underlying35 (by kernel_rfl) (by decide) el_5 (hval 2 35 v2 rfl rfl) h2
 unfold maxLen at hL2
 obtain ⟨rfl, hz2⟩ := y6P hs2
 have bd2 := hz2.all (q := fun x => 0 ≤ x ∧ x ≤ 255) (fun _ _ h => h.2)
 replace hz2 := hz2.weak (Pr' := (fun r x => r = e5 x)) (fun _ _ h => h.1)
 have htrue := y66 (ticks := x0) (regs := x1) (mem := x2) bd0 bd1 bd2
 refine (y54 (Z := ZW W) (z6S := ao2) (z6T := cap2) (z5n := x0) (zM := x1) (z2d := x2) (r := true) htrue W (ZW_pz W) (hG0 hL) (hG1 hL) hz2).mono fun e W' ⟨Zn, he, _, hh⟩ => ?_
 subst he
 exact ⟨_, rfl, y6K laid (by kernel_rfl) rfl rfl Tryd.underlying4 hW' (fun _ => ⟨rfl, rfl, rfl⟩) hh.below⟩
theorem over : Rows.ProcWorkSaid :=
 OpenClaim.holds_of_cond 5 Tryd.f5 rfl rfl rfl rfl rfl rfl rfl ⟨rfl, rfl, rfl, rfl, rfl⟩ rfl rfl rfl rfl rfl (by kernel_rfl) Tryd.func5 (by kernel_rfl)
  (of_decide_eq_true (by kernel_rfl)) (by unfold Func.isWrapper; first | (rw [if_pos (by decide +kernel)]; kernel_rfl) | (rw [if_neg (by decide +kernel)]; exact ⟨rfl, rfl⟩))
  (fun os started H enc _ F => by rw [OpenClaim.pre_eq_preRow]; exact lifted os started H enc F)
theorem plain (f : FuncId) (fn : Func) (hf : Tryd.pinned.checked.prog.funcNamed "nacelle/nacellelaw26.ProcWork" = some f) (hfn : Tryd.pinned.checked.prog.funcs[f]? = some fn) :
  false = Tryd.pinned.checked.prog.looks [] ∧ ∀ (j : Nat) t, fn.params[j]? = some t → Tryd.pinned.checked.prog.wantsStandIn t = false := by
 obtain rfl : f = 5 := Option.some.inj ((show Tryd.prog.funcNamed "nacelle/nacellelaw26.ProcWork" = some 5 by kernel_rfl).symm.trans hf) |>.symm
 obtain rfl : fn = Tryd.f5 := (Option.some.inj (Tryd.func5.symm.trans hfn)).symm
 refine ⟨by kernel_rfl, fun j t ht => ?_⟩
 have hall : (Tryd.f5.params.toList.all fun t => !(Tryd.prog.wantsStandIn t)) = true := by kernel_rfl
 have h1 := List.all_eq_true.1 hall t (Array.mem_toList_iff.2 (Array.mem_of_getElem? ht))
 exact (Bool.not_eq_true' _).mp h1
theorem proved : Rows.ProcWorkCardSaid :=
 Claim7.holds_tied_plain_at .later [] _ _ _ _ over (fun _ h => by cases h) (by kernel_rfl) (fun _ h => by cases h) procWork_row_tie rfl ⟨rfl, rfl⟩ (by kernel_rfl) rfl plain (by kernel_rfl)
#print axioms proved
end Go.Proofs.YtjdnejbngloieaaDoor.procWork
