/-
 Whatever the input, the law ProcPaths of layer 26 returns true, and its arguments read behind the call as before it. No conditions.
-/
import Derived.Test.YtjdnejbngloieaaDoorPPaths
import Derived.Test.YtjdnejbngloieaaDoorZFrame
import Derived.Test.YtjdnejbngloieaaDoorZGlob
import Derived.Test.YtjdnejbngloieaaDoorRows
import Derived.Test.YtjdnejbngloieaaDoorCards
import Derived.Test.YtjdnejbngloieaaDoorTie
set_option linter.all false
namespace Go.Proofs.YtjdnejbngloieaaDoor.procPaths
open Go.ChangeShapes Go.WideShapes Go.ChangeAt Go.RowKit Sep
set_option linter.unusedVariables false
abbrev kd33 (a : Sapi_Ins) : Prop := (0 ≤ a.fOp ∧ a.fOp ≤ 255) ∧ (-9223372036854775808 ≤ a.fA ∧ a.fA ≤ 9223372036854775807) ∧ (-9223372036854775808 ≤ a.fB ∧ a.fB ≤ 9223372036854775807) ∧ (-9223372036854775808 ≤ a.fC ∧ a.fC ≤ 9223372036854775807)
theorem el_5 {H : Type} {enc : TypeId × Value → H} {W : World} {spare : Nat → Bool} {held : Bool} (n : Nat) (cs : List Value) (y : DataW H × List MemPlace) (h : DataW.trod enc Tryd.prog W 0 spare held n 5 cs = some y) (hl : cs.length = 1) : ∃ a : Int, (cs = e5 a) ∧ (0 ≤ a ∧ a ≤ 255) := by
 obtain ⟨a, rfl, -, wf⟩ := DataW.trod_int Tryd.underlying5 h
 exact ⟨a, rfl, Go.bounds_u8 wf⟩
theorem el_3 {H : Type} {enc : TypeId × Value → H} {W : World} {spare : Nat → Bool} {held : Bool} (n : Nat) (cs : List Value) (y : DataW H × List MemPlace) (h : DataW.trod enc Tryd.prog W 0 spare held n 3 cs = some y) (hl : cs.length = 1) : ∃ a : Int, (cs = e3 a) ∧ (-9223372036854775808 ≤ a ∧ a ≤ 9223372036854775807) := by
 obtain ⟨a, rfl, -, wf⟩ := DataW.trod_int Tryd.underlying3 h
 exact ⟨a, rfl, Go.bounds_i64 wf⟩
theorem el_33 {H : Type} {enc : TypeId × Value → H} {W : World} {spare : Nat → Bool} {held : Bool} (n : Nat) (cs : List Value) (y : DataW H × List MemPlace) (h : DataW.trod enc Tryd.prog W 0 spare held n 33 cs = some y) (hl : cs.length = 4) : ∃ a : Sapi_Ins, (cs = e33 a) ∧ (kd33 a) := by
 obtain ⟨y0, m0, h0⟩ := y3W 0 Tryd.underlying33 h rfl
 have c0 : Tryd.prog.cellsOf 5 = 1 := by kernel_rfl
 try dsimp only at h0
 rw [c0] at h0
 obtain ⟨a0, r0, k0⟩ := el_5 _ _ _ h0 (by simp [hl])
 obtain ⟨y1, m1, h1⟩ := y3W 1 Tryd.underlying33 h rfl
 have c1 : Tryd.prog.cellsOf 3 = 1 := by kernel_rfl
 try dsimp only at h1
 rw [c1] at h1
 obtain ⟨a1, r1, k1⟩ := el_3 _ _ _ h1 (by simp [hl])
 obtain ⟨y2, m2, h2⟩ := y3W 2 Tryd.underlying33 h rfl
 have c2 : Tryd.prog.cellsOf 3 = 1 := by kernel_rfl
 try dsimp only at h2
 rw [c2] at h2
 obtain ⟨a2, r2, k2⟩ := el_3 _ _ _ h2 (by simp [hl])
 obtain ⟨y3, m3, h3⟩ := y3W 3 Tryd.underlying33 h rfl
 have c3 : Tryd.prog.cellsOf 3 = 1 := by kernel_rfl
 try dsimp only at h3
 rw [c3] at h3
 obtain ⟨a3, r3, k3⟩ := el_3 _ _ _ h3 (by simp [hl])
 obtain ⟨u0, u1, u2, u3, rfl⟩ : ∃ u0 u1 u2 u3, cs = [u0, u1, u2, u3] := by match cs, hl with | [u0, u1, u2, u3], _ => exact ⟨_, _, _, _, rfl⟩
 simp [e5] at r0
 simp [e3] at r1
 simp [e3] at r2
 simp [e3] at r3
 exact ⟨⟨a0, a1, a2, a3⟩, by simp [e33, *], ⟨k0, k1, k2, k3⟩⟩
theorem own : ownKnob Tryd.prog.godebug = none := by kernel_rfl
theorem laid : laidOutB Tryd.prog = true := by kernel_rfl
theorem hG0 {W : World} (hL : laidMetH Tryd.prog Rows.procPathsRow.laid W) : ZC (ZW W) ⟨0, 0, none⟩ tabG0 :=
 y7S (name := "nacelle/proc.instructions") hL (List.mem_cons_of_mem _ (List.mem_singleton.2 rfl)) (by kernel_rfl) (by kernel_rfl) Tryd.underlying67 Tryd.underlying66 (by kernel_rfl) (by kernel_rfl) (by kernel_rfl)
theorem hG1 {W : World} (hL : laidMetH Tryd.prog Rows.procPathsRow.laid W) : ZS (ZW W) 1 (p74 (ZW W)) (some ⟨1, 0, none⟩) 26 y18 :=
 glob_tab (name := "nacelle/proc.operands") (d := Rows.laid_nacelle_proc_operands) (rest := []) (k := .u8) hL (by kernel_rfl) (by kernel_rfl) Tryd.underlying75 Tryd.underlying74 Tryd.underlying76 (by kernel_rfl) (by kernel_rfl) (by kernel_rfl) (by decide) (by kernel_rfl) (by kernel_rfl)
theorem laid_met (os : Os) : laidMetH Tryd.prog Rows.procPathsRow.laid ((World.doorLaid Tryd.prog 400 os).forCall (fun _ _ => 0) ⟨#[], #[.slice none 0 0, .int .i64 0], []⟩).memory :=
 laidMetH_of_parts3 (fuel := 8) (laidMet_of_run' 8 (by kernel_rfl) (by kernel_rfl)) (by kernel_rfl) (by kernel_rfl)
theorem reads (os : Os) {H : Type} (enc : TypeId × Value → H) : ∃ places, DataW.whole enc Tryd.prog ((World.doorLaid Tryd.prog 400 os).forCall (fun _ _ => 0) ⟨#[], #[.slice none 0 0, .int .i64 0], []⟩).memory Tryd.f3.params.toList Rows.procPathsSpec.vars false (#[.slice none 0 0, .int .i64 0] : Array Value).toList 8 = some ([.nil, .lit (.int .i64 0)], [], places) :=
 ⟨[], by kernel_rfl⟩
set_option maxRecDepth 100000 in
theorem lifted (os : Os) (started : os.Started) (H : Type) (enc : TypeId × Value → H) (F : Stop.Interp) :
  ReturnsInHanded {} Tryd.checked os 3 .any ((OpenSpec.ofChange Rows.procPathsSpec).preRow enc Tryd.prog Tryd.f3 Rows.procPathsRow.domain false Rows.procPathsRow.laid) (((OpenSpec.ofChange Rows.procPathsSpec).at F).post enc Tryd.prog Tryd.f3 false true false false) := by
 obtain ⟨places, hx⟩ := reads os enc
 refine returnsInHanded_of_row (C := Tryd.checked) (s := OpenSpec.ofChange Rows.procPathsSpec) own started (by kernel_rfl) Tryd.func3
  (witness_row_atRef (enc := enc) (C := Tryd.checked) false (World.doorLaid Tryd.prog 400 os) #[.slice none 0 0, .int .i64 0] rfl (by kernel_rfl) (by kernel_rfl) (by kernel_rfl)
   (OpenSpec.preRow_of_cond 8 hx (by kernel_rfl) (fun k hk => by cases hk) (by kernel_rfl) (laid_met os))) ?_
 intro W base args ds gs before hval0 hW hcnd _ _ hL _ _
 have hval : ∀ (j : Nat) t v, Tryd.f3.params[j]? = some t → args[j]? = some v → Value.okWide Tryd.prog W .any base t v := hval0
 have hW' := hW
 obtain ⟨p, q, hA0, hV, rfl, hfz, hnd⟩ := hW
 have hA : DataW.TrodAll enc Tryd.prog W 0 (fun _ => true) true Tryd.f3.params.toList args.toList ds p := hA0
 rw [Tryd.params3] at hA hval
 obtain ⟨v0, vs0, d0, ds0, p0, q0, hargs, rfl, rfl, h0, r0⟩ := trodAll_cons hA
 obtain ⟨v1, vs1, d1, ds1, p1, q1, rfl, rfl, rfl, h1, r1⟩ := trodAll_cons r0
 obtain ⟨rfl, rfl, rfl⟩ := trodAll_nil r1
 obtain rfl : args = #[v0, v1] := by cases args; simp_all
 obtain ⟨rfl, rfl⟩ := trodVars_none hV
 obtain ⟨ao0, m0, cap0, x0, rfl, hs0, hL0⟩ := open_sl (Pr := fun r x => (r = e33 x) ∧ (kd33 x)) (sz := 4) Tryd.underlying22 (by kernel_rfl) (by decide) el_33 (hval 0 22 v0 rfl rfl) h0
 unfold maxLen at hL0
 obtain ⟨rfl, hz0⟩ := y82 hs0
 have bd0 := hz0.all (q := fun x => kd33 x) (fun _ _ h => h.2)
 replace hz0 := hz0.weak (Pr' := (fun r x => r = e33 x)) (fun _ _ h => h.1)
 obtain ⟨x1, rfl, hd1, hp1, wf1⟩ := open_int Tryd.underlying3 (hval 1 3 v1 rfl rfl) h1
 have bd1 := Go.bounds_i64 wf1
 have htrue := y6U (code := x0) (i := x1)
 refine (y5X (Z := ZW W) (z8h := ao0) (z8i := cap0) (z2Z := x0) (z6w := x1) (r := true) htrue W (ZW_pz W) (hG0 hL) (hG1 hL) hz0).mono fun e W' ⟨Zn, he, _, hh⟩ => ?_
 subst he
 exact ⟨_, rfl, y7Y laid (by kernel_rfl) rfl rfl Tryd.underlying4 hW' (fun _ => ⟨rfl, rfl, rfl⟩) hh.below⟩
theorem over : Rows.ProcPathsSaid :=
 OpenClaim.holds_of_cond 3 Tryd.f3 rfl rfl rfl rfl rfl rfl rfl ⟨rfl, rfl, rfl, rfl, rfl⟩ rfl rfl rfl rfl rfl (by kernel_rfl) Tryd.func3 (by kernel_rfl)
  (of_decide_eq_true (by kernel_rfl)) (by unfold Func.isWrapper; first | (rw [if_pos (by decide +kernel)]; kernel_rfl) | (rw [if_neg (by decide +kernel)]; exact ⟨rfl, rfl⟩))
  (fun os started H enc _ F => by rw [OpenClaim.pre_eq_preRow]; exact lifted os started H enc F)
theorem plain (f : FuncId) (fn : Func) (hf : Tryd.pinned.checked.prog.funcNamed "nacelle/nacellelaw26.ProcPaths" = some f) (hfn : Tryd.pinned.checked.prog.funcs[f]? = some fn) :
  false = Tryd.pinned.checked.prog.looks [] ∧ ∀ (j : Nat) t, fn.params[j]? = some t → Tryd.pinned.checked.prog.wantsStandIn t = false := by
 obtain rfl : f = 3 := Option.some.inj ((show Tryd.prog.funcNamed "nacelle/nacellelaw26.ProcPaths" = some 3 by kernel_rfl).symm.trans hf) |>.symm
 obtain rfl : fn = Tryd.f3 := (Option.some.inj (Tryd.func3.symm.trans hfn)).symm
 refine ⟨by kernel_rfl, fun j t ht => ?_⟩
 have hall : (Tryd.f3.params.toList.all fun t => !(Tryd.prog.wantsStandIn t)) = true := by kernel_rfl
 have h1 := List.all_eq_true.1 hall t (Array.mem_toList_iff.2 (Array.mem_of_getElem? ht))
 exact (Bool.not_eq_true' _).mp h1
theorem proved : Rows.ProcPathsCardSaid :=
 Claim7.holds_tied_plain_at .later [] _ _ _ _ over (fun _ h => by cases h) (by kernel_rfl) (fun _ h => by cases h) procPaths_row_tie rfl ⟨rfl, rfl⟩ (by kernel_rfl) rfl plain (by kernel_rfl)
#print axioms proved
end Go.Proofs.YtjdnejbngloieaaDoor.procPaths
