/-
 Whatever the input, the law ProcLongest of layer 26 returns true, and its arguments read behind the call as before it. No conditions.
-/
import Derived.Test.YtjdnejbngloieaaDoorPLongest
import Derived.Test.YtjdnejbngloieaaDoorZFrame
import Derived.Test.YtjdnejbngloieaaDoorZGlob
import Derived.Test.YtjdnejbngloieaaDoorRows
import Derived.Test.YtjdnejbngloieaaDoorCards
import Derived.Test.YtjdnejbngloieaaDoorTie
set_option linter.all false
namespace Go.Proofs.YtjdnejbngloieaaDoor.procLongest
open Go.ChangeShapes Go.WideShapes Go.ChangeAt Go.RowKit Sep
set_option linter.unusedVariables false
abbrev kd33 (a : Sapi_Ins) : Prop := (0 ≤ a.fOp ∧ a.fOp ≤ 255) ∧ (-9223372036854775808 ≤ a.fA ∧ a.fA ≤ 9223372036854775807) ∧ (-9223372036854775808 ≤ a.fB ∧ a.fB ≤ 9223372036854775807) ∧ (-9223372036854775808 ≤ a.fC ∧ a.fC ≤ 9223372036854775807)
abbrev kd34 (a : S34) : Prop := (0 ≤ a.a0 ∧ a.a0 ≤ 255) ∧ (0 ≤ a.a1 ∧ a.a1 ≤ 255) ∧ (0 ≤ a.a2 ∧ a.a2 ≤ 255) ∧ (0 ≤ a.a3 ∧ a.a3 ≤ 255)
theorem el_5 {H : Type} {enc : TypeId × Value → H} {W : World} {spare : Nat → Bool} {held : Bool} (n : Nat) (cs : List Value) (y : DataW H × List MemPlace) (h : DataW.trod enc Tryd.prog W 0 spare held n 5 cs = some y) (hl : cs.length = 1) : ∃ a : Int, (cs = e5 a) ∧ (0 ≤ a ∧ a ≤ 255) := by
 obtain ⟨a, rfl, -, wf⟩ := DataW.trod_int Tryd.underlying5 h
 exact ⟨a, rfl, Go.bounds_u8 wf⟩
theorem el_3 {H : Type} {enc : TypeId × Value → H} {W : World} {spare : Nat → Bool} {held : Bool} (n : Nat) (cs : List Value) (y : DataW H × List MemPlace) (h : DataW.trod enc Tryd.prog W 0 spare held n 3 cs = some y) (hl : cs.length = 1) : ∃ a : Int, (cs = e3 a) ∧ (-9223372036854775808 ≤ a ∧ a ≤ 9223372036854775807) := by
 obtain ⟨a, rfl, -, wf⟩ := DataW.trod_int Tryd.underlying3 h
 exact ⟨a, rfl, Go.bounds_i64 wf⟩
theorem el_33 {H : Type} {enc : TypeId × Value → H} {W : World} {spare : Nat → Bool} {held : Bool} (n : Nat) (cs : List Value) (y : DataW H × List MemPlace) (h : DataW.trod enc Tryd.prog W 0 spare held n 33 cs = some y) (hl : cs.length = 4) : ∃ a : Sapi_Ins, (cs = e33 a) ∧ (kd33 a) := by
 obtain ⟨y0, m0, h0⟩ := y45 0 Tryd.underlying33 h rfl
 have c0 : Tryd.prog.cellsOf 5 = 1 := by kernel_rfl
 try dsimp only at h0
 rw [c0] at h0
 obtain ⟨a0, r0, k0⟩ := el_5 _ _ _ h0 (by simp [hl])
 obtain ⟨y1, m1, h1⟩ := y45 1 Tryd.underlying33 h rfl
 have c1 : Tryd.prog.cellsOf 3 = 1 := by kernel_rfl
 try dsimp only at h1
 rw [c1] at h1
 obtain ⟨a1, r1, k1⟩ := el_3 _ _ _ h1 (by simp [hl])
 obtain ⟨y2, m2, h2⟩ := y45 2 Tryd.underlying33 h rfl
 have c2 : Tryd.prog.cellsOf 3 = 1 := by kernel_rfl
 try dsimp only at h2
 rw [c2] at h2
 obtain ⟨a2, r2, k2⟩ := el_3 _ _ _ h2 (by simp [hl])
 obtain ⟨y3, m3, h3⟩ := y45 3 Tryd.underlying33 h rfl
 have c3 : Tryd.prog.cellsOf 3 = 1 := by kernel_rfl
 try dsimp only at h3
 rw [c3] at h3
 obtain ⟨a3, r3, k3⟩ := el_3 _ _ _ h3 (by simp [hl])
 obtain ⟨u0, u1, u2, u3, rfl⟩ : ∃ u0 u1 u2 u3, cs = [u0, u1, u2, u3] := by match cs, hl with | [u0, u1, u2, u3], _ => exact ⟨_, _, _, _, rfl⟩
 simp [e5] at r0
 simp [e3] at r1
 simp [e3] at r2
 simp [e3] at r3
 exact ⟨⟨a0, a1, a2, a3⟩, by simp [e33, *], ⟨k0, k1, k2, k3⟩⟩
theorem el_34 {H : Type} {enc : TypeId × Value → H} {W : World} {spare : Nat → Bool} {held : Bool} (n : Nat) (cs : List Value) (y : DataW H × List MemPlace) (h : DataW.trod enc Tryd.prog W 0 spare held n 34 cs = some y) (hl : cs.length = 4) : ∃ a : S34, (cs = e34 a) ∧ (kd34 a) := by
 obtain ⟨y0, m0, h0⟩ := y4A 0 Tryd.underlying34 h (by decide) (show Tryd.prog.cellsOf 5 = 1 by kernel_rfl)
 obtain ⟨a0, r0, k0⟩ := el_5 _ _ _ h0 (by simp [hl])
 obtain ⟨y1, m1, h1⟩ := y4A 1 Tryd.underlying34 h (by decide) (show Tryd.prog.cellsOf 5 = 1 by kernel_rfl)
 obtain ⟨a1, r1, k1⟩ := el_5 _ _ _ h1 (by simp [hl])
 obtain ⟨y2, m2, h2⟩ := y4A 2 Tryd.underlying34 h (by decide) (show Tryd.prog.cellsOf 5 = 1 by kernel_rfl)
 obtain ⟨a2, r2, k2⟩ := el_5 _ _ _ h2 (by simp [hl])
 obtain ⟨y3, m3, h3⟩ := y4A 3 Tryd.underlying34 h (by decide) (show Tryd.prog.cellsOf 5 = 1 by kernel_rfl)
 obtain ⟨a3, r3, k3⟩ := el_5 _ _ _ h3 (by simp [hl])
 obtain ⟨u0, u1, u2, u3, rfl⟩ : ∃ u0 u1 u2 u3, cs = [u0, u1, u2, u3] := by match cs, hl with | [u0, u1, u2, u3], _ => exact ⟨_, _, _, _, rfl⟩
 simp [e5] at r0
 simp [e5] at r1
 simp [e5] at r2
 simp [e5] at r3
 exact ⟨⟨a0, a1, a2, a3⟩, by simp [e34, *], ⟨k0, k1, k2, k3⟩⟩
theorem own : ownKnob Tryd.prog.godebug = none := by kernel_rfl
theorem laid : laidOutB Tryd.prog = true := by kernel_rfl
theorem hG0 {W : World} (hL : laidMetH Tryd.prog Rows.procLongestRow.laid W) : ZC (ZW W) ⟨0, 0, none⟩ y67 :=
 y7Y (name := "nacelle/proc.instructions") hL (List.mem_cons_of_mem _ (List.mem_singleton.2 rfl)) (by kernel_rfl) (by kernel_rfl) Tryd.underlying67 Tryd.underlying66 (by kernel_rfl) (by kernel_rfl) (by kernel_rfl)
theorem hG1 {W : World} (hL : laidMetH Tryd.prog Rows.procLongestRow.laid W) : ZS (ZW W) 1 (p74 (ZW W)) (some ⟨1, 0, none⟩) 26 y17 :=
 glob_tab (name := "nacelle/proc.operands") (d := Rows.laid_nacelle_proc_operands) (rest := []) (k := .u8) hL (by kernel_rfl) (by kernel_rfl) Tryd.underlying75 Tryd.underlying74 Tryd.underlying76 (by kernel_rfl) (by kernel_rfl) (by kernel_rfl) (by decide) (by kernel_rfl) (by kernel_rfl)
theorem laid_met (os : Os) : laidMetH Tryd.prog Rows.procLongestRow.laid ((World.doorLaid Tryd.prog 400 os).forCall (fun _ _ => 0) ⟨#[], #[.slice none 0 0, .int .i64 0, (.agg #[.int .u8 0, .int .u8 0, .int .u8 0, .int .u8 0]), .slice none 0 0, .slice none 0 0], []⟩).memory :=
 laidMetH_of_parts3 (fuel := 8) (laidMet_of_run' 8 (by kernel_rfl) (by kernel_rfl)) (by kernel_rfl) (by kernel_rfl)
theorem reads (os : Os) {H : Type} (enc : TypeId × Value → H) : ∃ places, DataW.whole enc Tryd.prog ((World.doorLaid Tryd.prog 400 os).forCall (fun _ _ => 0) ⟨#[], #[.slice none 0 0, .int .i64 0, (.agg #[.int .u8 0, .int .u8 0, .int .u8 0, .int .u8 0]), .slice none 0 0, .slice none 0 0], []⟩).memory Tryd.f7.params.toList Rows.procLongestSpec.vars false (#[.slice none 0 0, .int .i64 0, (.agg #[.int .u8 0, .int .u8 0, .int .u8 0, .int .u8 0]), .slice none 0 0, .slice none 0 0] : Array Value).toList 8 = some ([.nil, .lit (.int .i64 0), .agg [.lit (.int .u8 0), .lit (.int .u8 0), .lit (.int .u8 0), .lit (.int .u8 0)], .nil, .nil], [], places) :=
 ⟨[], by kernel_rfl⟩
set_option maxRecDepth 100000 in
theorem lifted (os : Os) (started : os.Started) (H : Type) (enc : TypeId × Value → H) (F : Stop.Interp) :
  ReturnsInHanded {} Tryd.checked os 7 .any ((OpenSpec.ofChange Rows.procLongestSpec).preRow enc Tryd.prog Tryd.f7 Rows.procLongestRow.domain false Rows.procLongestRow.laid) (((OpenSpec.ofChange Rows.procLongestSpec).at F).post enc Tryd.prog Tryd.f7 false true false false) := by
 obtain ⟨places, hx⟩ := reads os enc
 refine returnsInHanded_of_row (C := Tryd.checked) (s := OpenSpec.ofChange Rows.procLongestSpec) own started (by kernel_rfl) Tryd.func7
  (witness_row_atRef (enc := enc) (C := Tryd.checked) false (World.doorLaid Tryd.prog 400 os) #[.slice none 0 0, .int .i64 0, (.agg #[.int .u8 0, .int .u8 0, .int .u8 0, .int .u8 0]), .slice none 0 0, .slice none 0 0] rfl (by kernel_rfl) (by kernel_rfl) (by kernel_rfl)
   (OpenSpec.preRow_of_cond 8 hx (by kernel_rfl) (fun k hk => by cases hk) (by kernel_rfl) (laid_met os))) ?_
 intro W base args ds gs before hval0 hW hcnd _ _ hL _ _
 have hval : ∀ (j : Nat) t v, Tryd.f7.params[j]? = some t → args[j]? = some v → Value.okWide Tryd.prog W .any base t v := hval0
 have hW' := hW
 obtain ⟨p, q, hA0, hV, rfl, hfz, hnd⟩ := hW
 have hA : DataW.TrodAll enc Tryd.prog W 0 (fun _ => true) true Tryd.f7.params.toList args.toList ds p := hA0
 rw [Tryd.params7] at hA hval
 obtain ⟨v0, vs0, d0, ds0, p0, q0, hargs, rfl, rfl, h0, r0⟩ := trodAll_cons hA
 obtain ⟨v1, vs1, d1, ds1, p1, q1, rfl, rfl, rfl, h1, r1⟩ := trodAll_cons r0
 obtain ⟨v2, vs2, d2, ds2, p2, q2, rfl, rfl, rfl, h2, r2⟩ := trodAll_cons r1
 obtain ⟨v3, vs3, d3, ds3, p3, q3, rfl, rfl, rfl, h3, r3⟩ := trodAll_cons r2
 obtain ⟨v4, vs4, d4, ds4, p4, q4, rfl, rfl, rfl, h4, r4⟩ := trodAll_cons r3
 obtain ⟨rfl, rfl, rfl⟩ := trodAll_nil r4
 obtain rfl : args = #[v0, v1, v2, v3, v4] := by cases args; simp_all
 obtain ⟨rfl, rfl⟩ := trodVars_none hV
 obtain ⟨ao0, m0, cap0, x0, rfl, hs0, hL0⟩ := y6J (Pr := fun r x => (r = e33 x) ∧ (kd33 x)) (sz := 4) Tryd.underlying22 (by kernel_rfl) (by decide) el_33 (hval 0 22 v0 rfl rfl) h0
 unfold maxLen at hL0
 obtain ⟨rfl, hz0⟩ := y5V hs0
 have bd0 := hz0.all (q := fun x => kd33 x) (fun _ _ h => h.2)
 replace hz0 := hz0.weak (Pr' := (fun r x => r = e33 x)) (fun _ _ h => h.1)
 obtain ⟨x1, rfl, hd1, hp1, wf1⟩ := open_int Tryd.underlying3 (hval 1 3 v1 rfl rfl) h1
 have bd1 := Go.bounds_i64 wf1
 obtain ⟨fuel2, hf2⟩ := h2
 obtain ⟨cs2, rfl, hl2, hg2⟩ := agg_ofA (hval 2 34 v2 rfl rfl) hf2 Tryd.underlying34 (show Tryd.prog.cellsOf 34 = 4 by kernel_rfl)
 obtain ⟨x2, hr2, bd2⟩ := el_34 _ _ _ hg2 hl2
 obtain rfl := hr2
 obtain ⟨ao3, m3, cap3, x3, rfl, hs3, hL3⟩ := y6J (Pr := fun r x => (r = e5 x) ∧ (0 ≤ x ∧ x ≤ 255)) (sz := 1) Tryd.underlying35 (by kernel_rfl) (by decide) el_5 (hval 3 35 v3 rfl rfl) h3
 unfold maxLen at hL3
 obtain ⟨rfl, hz3⟩ := y5V hs3
 have bd3 := hz3.all (q := fun x => 0 ≤ x ∧ x ≤ 255) (fun _ _ h => h.2)
 replace hz3 := hz3.weak (Pr' := (fun r x => r = e5 x)) (fun _ _ h => h.1)
 obtain ⟨ao4, m4, cap4, x4, rfl, hs4, hL4⟩ := y6J (Pr := fun r x => (r = e5 x) ∧ (0 ≤ x ∧ x ≤ 255)) (sz := 1) Tryd.underlying35 (by kernel_rfl) (by decide) el_5 (hval 4 35 v4 rfl rfl) h4
 unfold maxLen at hL4
 obtain ⟨rfl, hz4⟩ := y5V hs4
 have bd4 := hz4.all (q := fun x => 0 ≤ x ∧ x ≤ 255) (fun _ _ h => h.2)
 replace hz4 := hz4.weak (Pr' := (fun r x => r = e5 x)) (fun _ _ h => h.1)
 have htrue := y6G (code := x0) (i := x1) (regs := x2) (mem := x3) (data := x4) bd2 bd3 bd4 (by omega)
 refine (y5M (Z := ZW W) (zer := ao0) (zes := cap0) (zet := ao3) (zeu := cap3) (zev := ao4) (zew := cap4) (z5r := x0) (z9M := x1) (z2O := x2) (z88 := x3) (zbv := x4) (r := true) htrue W (ZW_pz W) (hG0 hL) (hG1 hL) hz0 hz3 hz4).mono fun e W' ⟨Zn, he, _, hh⟩ => ?_
 subst he
 exact ⟨_, rfl, y83 laid (by kernel_rfl) rfl rfl Tryd.underlying4 hW' (fun _ => ⟨rfl, rfl, rfl⟩) hh.below⟩
theorem over : Rows.ProcLongestSaid :=
 OpenClaim.holds_of_cond 7 Tryd.f7 rfl rfl rfl rfl rfl rfl rfl ⟨rfl, rfl, rfl, rfl, rfl⟩ rfl rfl rfl rfl rfl (by kernel_rfl) Tryd.func7 (by kernel_rfl)
  (of_decide_eq_true (by kernel_rfl)) (by unfold Func.isWrapper; first | (rw [if_pos (by decide +kernel)]; kernel_rfl) | (rw [if_neg (by decide +kernel)]; exact ⟨rfl, rfl⟩))
  (fun os started H enc _ F => by rw [OpenClaim.pre_eq_preRow]; exact lifted os started H enc F)
theorem plain (f : FuncId) (fn : Func) (hf : Tryd.pinned.checked.prog.funcNamed "nacelle/nacellelaw26.ProcLongest" = some f) (hfn : Tryd.pinned.checked.prog.funcs[f]? = some fn) :
  false = Tryd.pinned.checked.prog.looks [] ∧ ∀ (j : Nat) t, fn.params[j]? = some t → Tryd.pinned.checked.prog.wantsStandIn t = false := by
 obtain rfl : f = 7 := Option.some.inj ((show Tryd.prog.funcNamed "nacelle/nacellelaw26.ProcLongest" = some 7 by kernel_rfl).symm.trans hf) |>.symm
 obtain rfl : fn = Tryd.f7 := (Option.some.inj (Tryd.func7.symm.trans hfn)).symm
 refine ⟨by kernel_rfl, fun j t ht => ?_⟩
 have hall : (Tryd.f7.params.toList.all fun t => !(Tryd.prog.wantsStandIn t)) = true := by kernel_rfl
 have h1 := List.all_eq_true.1 hall t (Array.mem_toList_iff.2 (Array.mem_of_getElem? ht))
 exact (Bool.not_eq_true' _).mp h1
theorem proved : Rows.ProcLongestCardSaid :=
 Claim7.holds_tied_plain_at .later [] _ _ _ _ over (fun _ h => by cases h) (by kernel_rfl) (fun _ h => by cases h) procLongest_row_tie rfl ⟨rfl, rfl⟩ (by kernel_rfl) rfl plain (by kernel_rfl)
#print axioms proved
end Go.Proofs.YtjdnejbngloieaaDoor.procLongest
