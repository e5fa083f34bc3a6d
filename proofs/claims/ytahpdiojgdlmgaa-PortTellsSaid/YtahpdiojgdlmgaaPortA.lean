/- The engine of this claim's walks: contracts of the functions that the law reaches. No conditions beyond those in each theorem's statement. -/
import Derived.Test.YtahpdiojgdlmgaaSepTail
import Derived.Test.YtahpdiojgdlmgaaProg
set_option linter.all false
namespace Go.Proofs.Ytahpdiojgdlmgaa
open Go Go.RowKit Sep

structure Call where
  t : Int
  size : Int
  deriving Inhabited
structure Sent where
  time : Int
  vl : Int
  size : Int
  deriving Inhabited
structure Fr where
  size : Int
  fin : Int
  deriving Inhabited
def intE (x : Int) : List Value := [.int .i64 x]
def u8E (x : Int) : List Value := [.int .u8 x]
def callE (x : Call) : List Value := [.int .i64 x.t, .int .i64 x.size]
def sentE (x : Sent) : List Value := [.int .i64 x.time, .int .i64 x.vl, .int .i64 x.size]
def frE (x : Fr) : List Value := [.int .i64 x.size, .int .i64 x.fin]
abbrev intP (r : List Value) (x : Int) : Prop := r = intE x
def u8P (r : List Value) (x : Int) : Prop := r = u8E x ∧ 0 ≤ x ∧ x ≤ 255
abbrev callP (r : List Value) (x : Call) : Prop := r = callE x
abbrev sentP (r : List Value) (x : Sent) : Prop := r = sentE x
abbrev frP (r : List Value) (x : Fr) : Prop := r = frE x
theorem intE_oc : ∀ x, ∀ u ∈ intE x, u.oneCell' = true := fun _ => oc_cons rfl oc_nil
theorem u8E_oc : ∀ x, ∀ u ∈ u8E x, u.oneCell' = true := fun _ => oc_cons rfl oc_nil
theorem callE_oc : ∀ x, ∀ u ∈ callE x, u.oneCell' = true := fun _ => oc_cons rfl (oc_cons rfl oc_nil)
theorem sentE_oc : ∀ x, ∀ u ∈ sentE x, u.oneCell' = true := fun _ => oc_cons rfl (oc_cons rfl (oc_cons rfl oc_nil))
theorem frE_oc : ∀ x, ∀ u ∈ frE x, u.oneCell' = true := fun _ => oc_cons rfl (oc_cons rfl oc_nil)

theorem fo_57_0 : fieldOff Try.prog 57 0 0 := fieldOff_of (i := Try.t54) Try.underlying57 rfl rfl (by decide) rfl
theorem fo_54_0 : fieldOff Try.prog 54 0 0 := fieldOff_of (i := Try.t3) Try.underlying54 rfl rfl (by decide) rfl
theorem oneT_3 : oneT Try.prog 3 := oneT_of Try.underlying3 rfl
theorem fo_57_2 : fieldOff Try.prog 57 2 4 := fieldOff_of (i := Try.t3) Try.underlying57 rfl rfl (by decide) rfl
theorem fo_67_1 : fieldOff Try.prog 67 1 1 := fieldOff_of (i := Try.t3) Try.underlying67 rfl rfl (by decide) rfl
theorem fo_57_3 : fieldOff Try.prog 57 3 5 := fieldOff_of (i := Try.t55) Try.underlying57 rfl rfl (by decide) rfl
theorem oneT_55 : oneT Try.prog 55 := oneT_of Try.underlying55 rfl
theorem elT_55 : elT Try.prog 55 67 2 16 := ⟨Try.underlying55, ⟨Try.t67, _, rfl, rfl, rfl, rfl, rfl⟩, by decide⟩
theorem aggT_67 : aggT Try.prog 67 2 := aggT_of (i := Try.t67) Try.underlying67 rfl rfl
theorem zeroT_67 : zeroT Try.prog 67 (.agg #[(.int .i64 0), (.int .i64 0)]) := zeroT_of (i := Try.t67) rfl rfl
theorem sizT_67 : sizT Try.prog 67 2 := sizT_of (i := Try.t67) rfl
theorem fo_67_0 : fieldOff Try.prog 67 0 0 := fieldOff_of (i := Try.t3) Try.underlying67 rfl rfl (by decide) rfl
theorem fo_57_1 : fieldOff Try.prog 57 1 3 := fieldOff_of (i := Try.t3) Try.underlying57 rfl rfl (by decide) rfl
theorem sizT_3 : sizT Try.prog 3 1 := sizT_of (i := Try.t3) rfl
theorem sizT_55 : sizT Try.prog 55 1 := sizT_of (i := Try.t55) rfl
theorem fo_54_2 : fieldOff Try.prog 54 2 2 := fieldOff_of (i := Try.t3) Try.underlying54 rfl rfl (by decide) rfl
theorem fo_54_1 : fieldOff Try.prog 54 1 1 := fieldOff_of (i := Try.t3) Try.underlying54 rfl rfl (by decide) rfl
theorem zeroT_29 : zeroT Try.prog 29 (.agg #[(.int .i64 0), (.int .i64 0), (.int .i64 0), (.int .i64 0), (.slice none 0 0), (.slice none 0 0), (.slice none 0 0)]) := zeroT_of (i := Try.t29) rfl rfl
theorem sizT_29 : sizT Try.prog 29 7 := sizT_of (i := Try.t29) rfl
theorem aggT_29 : aggT Try.prog 29 7 := aggT_of (i := Try.t29) Try.underlying29 rfl rfl
theorem fo_29_3 : fieldOff Try.prog 29 3 3 := fieldOff_of (i := Try.t3) Try.underlying29 rfl rfl (by decide) rfl
theorem fo_29_4 : fieldOff Try.prog 29 4 4 := fieldOff_of (i := Try.t27) Try.underlying29 rfl rfl (by decide) rfl
theorem oneT_27 : oneT Try.prog 27 := oneT_of Try.underlying27 rfl
theorem elT_27 : elT Try.prog 27 3 1 8 := ⟨Try.underlying27, ⟨Try.t3, _, rfl, rfl, rfl, rfl, rfl⟩, by decide⟩
theorem fo_29_6 : fieldOff Try.prog 29 6 6 := fieldOff_of (i := Try.t27) Try.underlying29 rfl rfl (by decide) rfl
theorem fo_29_5 : fieldOff Try.prog 29 5 5 := fieldOff_of (i := Try.t27) Try.underlying29 rfl rfl (by decide) rfl
theorem fo_29_2 : fieldOff Try.prog 29 2 2 := fieldOff_of (i := Try.t3) Try.underlying29 rfl rfl (by decide) rfl
theorem fo_29_1 : fieldOff Try.prog 29 1 1 := fieldOff_of (i := Try.t3) Try.underlying29 rfl rfl (by decide) rfl
theorem fo_29_0 : fieldOff Try.prog 29 0 0 := fieldOff_of (i := Try.t3) Try.underlying29 rfl rfl (by decide) rfl
theorem sizT_27 : sizT Try.prog 27 1 := sizT_of (i := Try.t27) rfl
theorem elT_42 : elT Try.prog 42 5 1 1 := ⟨Try.underlying42, ⟨Try.t5, _, rfl, rfl, rfl, rfl, rfl⟩, by decide⟩
theorem oneT_5 : oneT Try.prog 5 := oneT_of Try.underlying5 rfl
theorem elT_44 : elT Try.prog 44 47 3 24 := ⟨Try.underlying44, ⟨Try.t47, _, rfl, rfl, rfl, rfl, rfl⟩, by decide⟩
theorem aggT_47 : aggT Try.prog 47 3 := aggT_of (i := Try.t47) Try.underlying47 rfl rfl
theorem zeroT_47 : zeroT Try.prog 47 (.agg #[(.int .i64 0), (.int .i64 0), (.int .i64 0)]) := zeroT_of (i := Try.t47) rfl rfl
theorem sizT_47 : sizT Try.prog 47 3 := sizT_of (i := Try.t47) rfl
theorem fo_47_0 : fieldOff Try.prog 47 0 0 := fieldOff_of (i := Try.t3) Try.underlying47 rfl rfl (by decide) rfl
theorem fo_47_2 : fieldOff Try.prog 47 2 2 := fieldOff_of (i := Try.t3) Try.underlying47 rfl rfl (by decide) rfl

set_option maxRecDepth 20000 in
theorem none_nil  (w₀ : World) :
    Calls Try.prog 21 #[(.pointer none)] w₀ fun e w' => e = .returned (.bool true) ∧ Hp [] w₀ w' [] := by
  refine Calls.ofWC (vs := [(.pointer none)]) (pre := []) (env := [(0, (.pointer none))]) Try.func21 rfl Try.ntmps21 rfl (Hp.nil w₀ _) rfl ?_
  refine WC.seq ?_
  refine WC.region ?_
  refine WL.quiet (d := 2) rfl rfl rfl (q_assign rfl) ?_
  refine WL.nil ?_
  refine WX.then ?_
  refine WC.seq ?_
  refine WC.region ?_
  refine WL.quiet (d := 3) rfl rfl rfl (q_move rfl) ?_
  refine WL.quiet (d := 4) rfl rfl rfl (q_eqlNil Try.underlying23 rfl rfl) ?_
  refine WL.quiet (d := 5) rfl rfl rfl (q_move rfl) ?_
  refine WL.skip rfl rfl rfl ?_
  refine WL.skip rfl rfl rfl ?_
  refine WL.skip rfl rfl rfl ?_
  refine WL.skip rfl rfl rfl ?_
  refine WL.skip rfl rfl rfl ?_
  refine WL.skip rfl rfl rfl ?_
  refine WL.quiet (d := 12) rfl rfl rfl (q_pickT rfl rfl) ?_
  refine WL.quiet (d := 2) rfl rfl rfl (q_assign rfl) ?_
  refine WL.nil ?_
  refine WX.then ?_
  refine WC.ret ?_
  refine WX.bpRet Try.results21 (.tmp rfl .nil) (fun w hw => ?_)
  exact ⟨ret1 rfl, (hw.sub .nil)⟩

set_option maxRecDepth 20000 in
theorem none_no (A : Addr) (slow delay store now last : Int) (fr : Value) (w₀ : World)
    (hA : CellsAt [] w₀ A [.int .i64 slow, .int .i64 delay, .int .i64 store, .int .i64 now, .int .i64 last, fr]) :
    Calls Try.prog 21 #[(.pointer (some A))] w₀ fun e w' => e = .returned (.bool (decide (slow = 0))) ∧ Hp [] w₀ w' [] := by
  refine Calls.ofWC (vs := [(.pointer (some A))]) (pre := []) (env := [(0, (.pointer (some A)))]) Try.func21 rfl Try.ntmps21 rfl (Hp.nil w₀ _) rfl ?_
  refine WC.seq ?_
  refine WC.region ?_
  refine WL.quiet (d := 2) rfl rfl rfl (q_assign rfl) ?_
  refine WL.nil ?_
  refine WX.then ?_
  refine WC.seq ?_
  refine WC.region ?_
  refine WL.quiet (d := 3) rfl rfl rfl (q_move rfl) ?_
  refine WL.quiet (d := 4) rfl rfl rfl (q_eqlNil Try.underlying23 rfl rfl) ?_
  refine WL.quiet (d := 5) rfl rfl rfl (q_move rfl) ?_
  refine WL.quiet (d := 6) rfl rfl rfl (q_move rfl) ?_
  refine WL.quiet (d := 7) rfl rfl rfl (q_nilCheck rfl) ?_
  refine WL.quiet (d := 8) rfl rfl rfl (q_fieldAddr fo_57_0 rfl rfl) ?_
  refine WL.quiet (d := 9) rfl rfl rfl (q_fieldAddr fo_54_0 rfl rfl) ?_
  refine WL.quiet (d := 10) rfl rfl rfl (q_load1 oneT_3 rfl (rd_cell hA rfl)) ?_
  refine WL.quiet (d := 11) rfl rfl rfl (q_eql rfl rfl) ?_
  refine WL.quiet (d := 12) rfl rfl rfl (q_pickF rfl rfl) ?_
  refine WL.quiet (d := 2) rfl rfl rfl (q_assign rfl) ?_
  refine WL.nil ?_
  refine WX.then ?_
  refine WC.ret ?_
  refine WX.bpRet Try.results21 (.tmp rfl .nil) (fun w hw => ?_)
  exact ⟨ret1 rfl, (hw.sub .nil)⟩

set_option maxRecDepth 20000 in
theorem new_bad (slow delay store : Int) (w₀ : World)
    (hb : slow < 1 ∨ slow > 16 ∨ delay < 0 ∨ delay > 1000 ∨ store < 0 ∨ store > 1073741824) :
    Calls Try.prog 9 #[(.int .i64 slow), (.int .i64 delay), (.int .i64 store)] w₀ fun e w' => e = .returned (.tuple #[(.pointer none), (.int .i64 2)]) ∧ Hp [] w₀ w' [] := by
  refine Calls.ofWC (vs := [(.int .i64 slow), (.int .i64 delay), (.int .i64 store)]) (pre := []) (env := [(0, (.int .i64 slow)), (1, (.int .i64 delay)), (2, (.int .i64 store))]) Try.func9 rfl Try.ntmps9 rfl (Hp.nil w₀ _) rfl ?_
  refine WC.seq ?_
  refine WC.region ?_
  refine WL.quiet (d := 6) rfl rfl rfl (q_assign rfl) ?_
  refine WL.quiet (d := 7) rfl rfl rfl (q_assign rfl) ?_
  refine WL.nil ?_
  refine WX.then ?_
  refine WC.seq ?_
  refine WC.seq ?_
  refine WC.region ?_
  refine WL.quiet (d := 8) rfl rfl rfl (q_move rfl) ?_
  refine WL.quiet (d := 9) rfl rfl rfl (q_lss rfl rfl) ?_
  refine WL.quiet (d := 10) rfl rfl rfl (q_move rfl) ?_
  refine WL.cut0 True [(0, (.int .i64 slow)), (1, (.int .i64 delay)), (2, (.int .i64 store)), (6, (.pointer none)), (7, (.int .i64 0)), (13, (.bool ((decide (slow < 1)) || (decide (slow > 16)))))] [] 3 ?_ (fun _ => ?_)
  · by_cases hb1 : slow < 1
    · refine WL.pin (i := 10) rfl (bT (decide_eq_true_iff) hb1) ?_
      refine WL.skip rfl rfl rfl ?_
      refine WL.skip rfl rfl rfl ?_
      refine WL.quiet (d := 13) rfl rfl rfl (q_pickT rfl rfl) ?_
      exact WL.cutEnd () trivial (.cons rfl (.cons rfl (.cons rfl (.cons rfl (.cons rfl (.cons (some_bool (or_l (bT (decide_eq_true_iff) hb1))) .nil)))))) .nil
    · refine WL.pin (i := 10) rfl (bF (decide_eq_true_iff) hb1) ?_
      refine WL.quiet (d := 11) rfl rfl rfl (q_move rfl) ?_
      refine WL.quiet (d := 12) rfl rfl rfl (q_gtr rfl rfl) ?_
      refine WL.quiet (d := 13) rfl rfl rfl (q_pickF rfl rfl) ?_
      exact WL.cutEnd () trivial (.cons rfl (.cons rfl (.cons rfl (.cons rfl (.cons rfl (.cons (some_bool (or_r (bF (decide_eq_true_iff) hb1))) .nil)))))) .nil
  · skip
    refine WL.quiet (d := 14) rfl rfl rfl (q_move rfl) ?_
    refine WL.cut0 True [(0, (.int .i64 slow)), (1, (.int .i64 delay)), (2, (.int .i64 store)), (6, (.pointer none)), (7, (.int .i64 0)), (17, (.bool (((decide (slow < 1)) || (decide (slow > 16))) || (decide (delay < 0)))))] [] 3 ?_ (fun _ => ?_)
    · by_cases hb2 : (slow < 1) ∨ (slow > 16)
      · refine WL.pin (i := 14) rfl (bT (biff_or (decide_eq_true_iff) (decide_eq_true_iff)) hb2) ?_
        refine WL.skip rfl rfl rfl ?_
        refine WL.skip rfl rfl rfl ?_
        refine WL.quiet (d := 17) rfl rfl rfl (q_pickT rfl rfl) ?_
        exact WL.cutEnd () trivial (.cons rfl (.cons rfl (.cons rfl (.cons rfl (.cons rfl (.cons (some_bool (or_l (bT (biff_or (decide_eq_true_iff) (decide_eq_true_iff)) hb2))) .nil)))))) .nil
      · refine WL.pin (i := 14) rfl (bF (biff_or (decide_eq_true_iff) (decide_eq_true_iff)) hb2) ?_
        refine WL.quiet (d := 15) rfl rfl rfl (q_move rfl) ?_
        refine WL.quiet (d := 16) rfl rfl rfl (q_lss rfl rfl) ?_
        refine WL.quiet (d := 17) rfl rfl rfl (q_pickF rfl rfl) ?_
        exact WL.cutEnd () trivial (.cons rfl (.cons rfl (.cons rfl (.cons rfl (.cons rfl (.cons (some_bool (or_r (bF (biff_or (decide_eq_true_iff) (decide_eq_true_iff)) hb2))) .nil)))))) .nil
    · skip
      refine WL.quiet (d := 18) rfl rfl rfl (q_move rfl) ?_
      refine WL.cut0 True [(0, (.int .i64 slow)), (1, (.int .i64 delay)), (2, (.int .i64 store)), (6, (.pointer none)), (7, (.int .i64 0)), (21, (.bool ((((decide (slow < 1)) || (decide (slow > 16))) || (decide (delay < 0))) || (decide (delay > 1000)))))] [] 3 ?_ (fun _ => ?_)
      · by_cases hb3 : ((slow < 1) ∨ (slow > 16)) ∨ (delay < 0)
        · refine WL.pin (i := 18) rfl (bT (biff_or (biff_or (decide_eq_true_iff) (decide_eq_true_iff)) (decide_eq_true_iff)) hb3) ?_
          refine WL.skip rfl rfl rfl ?_
          refine WL.skip rfl rfl rfl ?_
          refine WL.quiet (d := 21) rfl rfl rfl (q_pickT rfl rfl) ?_
          exact WL.cutEnd () trivial (.cons rfl (.cons rfl (.cons rfl (.cons rfl (.cons rfl (.cons (some_bool (or_l (bT (biff_or (biff_or (decide_eq_true_iff) (decide_eq_true_iff)) (decide_eq_true_iff)) hb3))) .nil)))))) .nil
        · refine WL.pin (i := 18) rfl (bF (biff_or (biff_or (decide_eq_true_iff) (decide_eq_true_iff)) (decide_eq_true_iff)) hb3) ?_
          refine WL.quiet (d := 19) rfl rfl rfl (q_move rfl) ?_
          refine WL.quiet (d := 20) rfl rfl rfl (q_gtr rfl rfl) ?_
          refine WL.quiet (d := 21) rfl rfl rfl (q_pickF rfl rfl) ?_
          exact WL.cutEnd () trivial (.cons rfl (.cons rfl (.cons rfl (.cons rfl (.cons rfl (.cons (some_bool (or_r (bF (biff_or (biff_or (decide_eq_true_iff) (decide_eq_true_iff)) (decide_eq_true_iff)) hb3))) .nil)))))) .nil
      · skip
        refine WL.quiet (d := 22) rfl rfl rfl (q_move rfl) ?_
        refine WL.cut0 True [(0, (.int .i64 slow)), (1, (.int .i64 delay)), (2, (.int .i64 store)), (6, (.pointer none)), (7, (.int .i64 0)), (25, (.bool (((((decide (slow < 1)) || (decide (slow > 16))) || (decide (delay < 0))) || (decide (delay > 1000))) || (decide (store < 0)))))] [] 3 ?_ (fun _ => ?_)
        · by_cases hb4 : (((slow < 1) ∨ (slow > 16)) ∨ (delay < 0)) ∨ (delay > 1000)
          · refine WL.pin (i := 22) rfl (bT (biff_or (biff_or (biff_or (decide_eq_true_iff) (decide_eq_true_iff)) (decide_eq_true_iff)) (decide_eq_true_iff)) hb4) ?_
            refine WL.skip rfl rfl rfl ?_
            refine WL.skip rfl rfl rfl ?_
            refine WL.quiet (d := 25) rfl rfl rfl (q_pickT rfl rfl) ?_
            exact WL.cutEnd () trivial (.cons rfl (.cons rfl (.cons rfl (.cons rfl (.cons rfl (.cons (some_bool (or_l (bT (biff_or (biff_or (biff_or (decide_eq_true_iff) (decide_eq_true_iff)) (decide_eq_true_iff)) (decide_eq_true_iff)) hb4))) .nil)))))) .nil
          · refine WL.pin (i := 22) rfl (bF (biff_or (biff_or (biff_or (decide_eq_true_iff) (decide_eq_true_iff)) (decide_eq_true_iff)) (decide_eq_true_iff)) hb4) ?_
            refine WL.quiet (d := 23) rfl rfl rfl (q_move rfl) ?_
            refine WL.quiet (d := 24) rfl rfl rfl (q_lss rfl rfl) ?_
            refine WL.quiet (d := 25) rfl rfl rfl (q_pickF rfl rfl) ?_
            exact WL.cutEnd () trivial (.cons rfl (.cons rfl (.cons rfl (.cons rfl (.cons rfl (.cons (some_bool (or_r (bF (biff_or (biff_or (biff_or (decide_eq_true_iff) (decide_eq_true_iff)) (decide_eq_true_iff)) (decide_eq_true_iff)) hb4))) .nil)))))) .nil
        · skip
          refine WL.quiet (d := 26) rfl rfl rfl (q_move rfl) ?_
          refine WL.cut0 True [(0, (.int .i64 slow)), (1, (.int .i64 delay)), (2, (.int .i64 store)), (6, (.pointer none)), (7, (.int .i64 0)), (29, (.bool ((((((decide (slow < 1)) || (decide (slow > 16))) || (decide (delay < 0))) || (decide (delay > 1000))) || (decide (store < 0))) || (decide (store > 1073741824)))))] [] 3 ?_ (fun _ => ?_)
          · by_cases hb5 : ((((slow < 1) ∨ (slow > 16)) ∨ (delay < 0)) ∨ (delay > 1000)) ∨ (store < 0)
            · refine WL.pin (i := 26) rfl (bT (biff_or (biff_or (biff_or (biff_or (decide_eq_true_iff) (decide_eq_true_iff)) (decide_eq_true_iff)) (decide_eq_true_iff)) (decide_eq_true_iff)) hb5) ?_
              refine WL.skip rfl rfl rfl ?_
              refine WL.skip rfl rfl rfl ?_
              refine WL.quiet (d := 29) rfl rfl rfl (q_pickT rfl rfl) ?_
              exact WL.cutEnd () trivial (.cons rfl (.cons rfl (.cons rfl (.cons rfl (.cons rfl (.cons (some_bool (or_l (bT (biff_or (biff_or (biff_or (biff_or (decide_eq_true_iff) (decide_eq_true_iff)) (decide_eq_true_iff)) (decide_eq_true_iff)) (decide_eq_true_iff)) hb5))) .nil)))))) .nil
            · refine WL.pin (i := 26) rfl (bF (biff_or (biff_or (biff_or (biff_or (decide_eq_true_iff) (decide_eq_true_iff)) (decide_eq_true_iff)) (decide_eq_true_iff)) (decide_eq_true_iff)) hb5) ?_
              refine WL.quiet (d := 27) rfl rfl rfl (q_move rfl) ?_
              refine WL.quiet (d := 28) rfl rfl rfl (q_gtr rfl rfl) ?_
              refine WL.quiet (d := 29) rfl rfl rfl (q_pickF rfl rfl) ?_
              exact WL.cutEnd () trivial (.cons rfl (.cons rfl (.cons rfl (.cons rfl (.cons rfl (.cons (some_bool (or_r (bF (biff_or (biff_or (biff_or (biff_or (decide_eq_true_iff) (decide_eq_true_iff)) (decide_eq_true_iff)) (decide_eq_true_iff)) (decide_eq_true_iff)) hb5))) .nil)))))) .nil
          · skip
            refine WL.nil ?_
            refine WX.then ?_
            refine WC.cond rfl (fun _ => ?_) (fun h => absurd (biffF (biff_or (biff_or (biff_or (biff_or (biff_or (decide_eq_true_iff) (decide_eq_true_iff)) (decide_eq_true_iff)) (decide_eq_true_iff)) (decide_eq_true_iff)) (decide_eq_true_iff)) h) (not_not_intro (by omega)))
            refine WC.seq ?_
            refine WC.region ?_
            refine WL.quiet (d := 6) rfl rfl rfl (q_assign rfl) ?_
            refine WL.quiet (d := 7) rfl rfl rfl (q_assign rfl) ?_
            refine WL.nil ?_
            refine WX.then ?_
            refine WC.ret ?_
            refine WX.thenRet ?_
            refine WX.bpRet Try.results9 (.tmp rfl (.tmp rfl .nil)) (fun w hw => ?_)
            exact ⟨ret2 rfl rfl, (hw.sub .nil)⟩

set_option maxRecDepth 20000 in
theorem new_ok (slow delay store : Int) (w₀ : World)
    (hb : ¬ (slow < 1 ∨ slow > 16 ∨ delay < 0 ∨ delay > 1000 ∨ store < 0 ∨ store > 1073741824)) :
    Calls Try.prog 9 #[(.int .i64 slow), (.int .i64 delay), (.int .i64 store)] w₀ fun e w' => ∃ b : Nat, e = .returned (.tuple #[(.pointer (some ⟨b, 0, none⟩)), (.int .i64 0)]) ∧ True ∧ Hp [] w₀ w' [stb b 57 [(.int .i64 slow), (.int .i64 delay), (.int .i64 store), (.int .i64 0), (.int .i64 0), (.slice none 0 0)]] := by
  refine Calls.ofWC (vs := [(.int .i64 slow), (.int .i64 delay), (.int .i64 store)]) (pre := []) (env := [(0, (.int .i64 slow)), (1, (.int .i64 delay)), (2, (.int .i64 store))]) Try.func9 rfl Try.ntmps9 rfl (Hp.nil w₀ _) rfl ?_
  refine WC.seq ?_
  refine WC.region ?_
  refine WL.quiet (d := 6) rfl rfl rfl (q_assign rfl) ?_
  refine WL.quiet (d := 7) rfl rfl rfl (q_assign rfl) ?_
  refine WL.nil ?_
  refine WX.then ?_
  refine WC.seq ?_
  refine WC.seq ?_
  refine WC.region ?_
  refine WL.quiet (d := 8) rfl rfl rfl (q_move rfl) ?_
  refine WL.quiet (d := 9) rfl rfl rfl (q_lss rfl rfl) ?_
  refine WL.quiet (d := 10) rfl rfl rfl (q_move rfl) ?_
  refine WL.cut0 True [(0, (.int .i64 slow)), (1, (.int .i64 delay)), (2, (.int .i64 store)), (6, (.pointer none)), (7, (.int .i64 0)), (13, (.bool ((decide (slow < 1)) || (decide (slow > 16)))))] [] 3 ?_ (fun _ => ?_)
  · by_cases hb1 : slow < 1
    · refine WL.pin (i := 10) rfl (bT (decide_eq_true_iff) hb1) ?_
      refine WL.skip rfl rfl rfl ?_
      refine WL.skip rfl rfl rfl ?_
      refine WL.quiet (d := 13) rfl rfl rfl (q_pickT rfl rfl) ?_
      exact WL.cutEnd () trivial (.cons rfl (.cons rfl (.cons rfl (.cons rfl (.cons rfl (.cons (some_bool (or_l (bT (decide_eq_true_iff) hb1))) .nil)))))) .nil
    · refine WL.pin (i := 10) rfl (bF (decide_eq_true_iff) hb1) ?_
      refine WL.quiet (d := 11) rfl rfl rfl (q_move rfl) ?_
      refine WL.quiet (d := 12) rfl rfl rfl (q_gtr rfl rfl) ?_
      refine WL.quiet (d := 13) rfl rfl rfl (q_pickF rfl rfl) ?_
      exact WL.cutEnd () trivial (.cons rfl (.cons rfl (.cons rfl (.cons rfl (.cons rfl (.cons (some_bool (or_r (bF (decide_eq_true_iff) hb1))) .nil)))))) .nil
  · skip
    refine WL.quiet (d := 14) rfl rfl rfl (q_move rfl) ?_
    refine WL.cut0 True [(0, (.int .i64 slow)), (1, (.int .i64 delay)), (2, (.int .i64 store)), (6, (.pointer none)), (7, (.int .i64 0)), (17, (.bool (((decide (slow < 1)) || (decide (slow > 16))) || (decide (delay < 0)))))] [] 3 ?_ (fun _ => ?_)
    · by_cases hb2 : (slow < 1) ∨ (slow > 16)
      · refine WL.pin (i := 14) rfl (bT (biff_or (decide_eq_true_iff) (decide_eq_true_iff)) hb2) ?_
        refine WL.skip rfl rfl rfl ?_
        refine WL.skip rfl rfl rfl ?_
        refine WL.quiet (d := 17) rfl rfl rfl (q_pickT rfl rfl) ?_
        exact WL.cutEnd () trivial (.cons rfl (.cons rfl (.cons rfl (.cons rfl (.cons rfl (.cons (some_bool (or_l (bT (biff_or (decide_eq_true_iff) (decide_eq_true_iff)) hb2))) .nil)))))) .nil
      · refine WL.pin (i := 14) rfl (bF (biff_or (decide_eq_true_iff) (decide_eq_true_iff)) hb2) ?_
        refine WL.quiet (d := 15) rfl rfl rfl (q_move rfl) ?_
        refine WL.quiet (d := 16) rfl rfl rfl (q_lss rfl rfl) ?_
        refine WL.quiet (d := 17) rfl rfl rfl (q_pickF rfl rfl) ?_
        exact WL.cutEnd () trivial (.cons rfl (.cons rfl (.cons rfl (.cons rfl (.cons rfl (.cons (some_bool (or_r (bF (biff_or (decide_eq_true_iff) (decide_eq_true_iff)) hb2))) .nil)))))) .nil
    · skip
      refine WL.quiet (d := 18) rfl rfl rfl (q_move rfl) ?_
      refine WL.cut0 True [(0, (.int .i64 slow)), (1, (.int .i64 delay)), (2, (.int .i64 store)), (6, (.pointer none)), (7, (.int .i64 0)), (21, (.bool ((((decide (slow < 1)) || (decide (slow > 16))) || (decide (delay < 0))) || (decide (delay > 1000)))))] [] 3 ?_ (fun _ => ?_)
      · by_cases hb3 : ((slow < 1) ∨ (slow > 16)) ∨ (delay < 0)
        · refine WL.pin (i := 18) rfl (bT (biff_or (biff_or (decide_eq_true_iff) (decide_eq_true_iff)) (decide_eq_true_iff)) hb3) ?_
          refine WL.skip rfl rfl rfl ?_
          refine WL.skip rfl rfl rfl ?_
          refine WL.quiet (d := 21) rfl rfl rfl (q_pickT rfl rfl) ?_
          exact WL.cutEnd () trivial (.cons rfl (.cons rfl (.cons rfl (.cons rfl (.cons rfl (.cons (some_bool (or_l (bT (biff_or (biff_or (decide_eq_true_iff) (decide_eq_true_iff)) (decide_eq_true_iff)) hb3))) .nil)))))) .nil
        · refine WL.pin (i := 18) rfl (bF (biff_or (biff_or (decide_eq_true_iff) (decide_eq_true_iff)) (decide_eq_true_iff)) hb3) ?_
          refine WL.quiet (d := 19) rfl rfl rfl (q_move rfl) ?_
          refine WL.quiet (d := 20) rfl rfl rfl (q_gtr rfl rfl) ?_
          refine WL.quiet (d := 21) rfl rfl rfl (q_pickF rfl rfl) ?_
          exact WL.cutEnd () trivial (.cons rfl (.cons rfl (.cons rfl (.cons rfl (.cons rfl (.cons (some_bool (or_r (bF (biff_or (biff_or (decide_eq_true_iff) (decide_eq_true_iff)) (decide_eq_true_iff)) hb3))) .nil)))))) .nil
      · skip
        refine WL.quiet (d := 22) rfl rfl rfl (q_move rfl) ?_
        refine WL.cut0 True [(0, (.int .i64 slow)), (1, (.int .i64 delay)), (2, (.int .i64 store)), (6, (.pointer none)), (7, (.int .i64 0)), (25, (.bool (((((decide (slow < 1)) || (decide (slow > 16))) || (decide (delay < 0))) || (decide (delay > 1000))) || (decide (store < 0)))))] [] 3 ?_ (fun _ => ?_)
        · by_cases hb4 : (((slow < 1) ∨ (slow > 16)) ∨ (delay < 0)) ∨ (delay > 1000)
          · refine WL.pin (i := 22) rfl (bT (biff_or (biff_or (biff_or (decide_eq_true_iff) (decide_eq_true_iff)) (decide_eq_true_iff)) (decide_eq_true_iff)) hb4) ?_
            refine WL.skip rfl rfl rfl ?_
            refine WL.skip rfl rfl rfl ?_
            refine WL.quiet (d := 25) rfl rfl rfl (q_pickT rfl rfl) ?_
            exact WL.cutEnd () trivial (.cons rfl (.cons rfl (.cons rfl (.cons rfl (.cons rfl (.cons (some_bool (or_l (bT (biff_or (biff_or (biff_or (decide_eq_true_iff) (decide_eq_true_iff)) (decide_eq_true_iff)) (decide_eq_true_iff)) hb4))) .nil)))))) .nil
          · refine WL.pin (i := 22) rfl (bF (biff_or (biff_or (biff_or (decide_eq_true_iff) (decide_eq_true_iff)) (decide_eq_true_iff)) (decide_eq_true_iff)) hb4) ?_
            refine WL.quiet (d := 23) rfl rfl rfl (q_move rfl) ?_
            refine WL.quiet (d := 24) rfl rfl rfl (q_lss rfl rfl) ?_
            refine WL.quiet (d := 25) rfl rfl rfl (q_pickF rfl rfl) ?_
            exact WL.cutEnd () trivial (.cons rfl (.cons rfl (.cons rfl (.cons rfl (.cons rfl (.cons (some_bool (or_r (bF (biff_or (biff_or (biff_or (decide_eq_true_iff) (decide_eq_true_iff)) (decide_eq_true_iff)) (decide_eq_true_iff)) hb4))) .nil)))))) .nil
        · skip
          refine WL.quiet (d := 26) rfl rfl rfl (q_move rfl) ?_
          refine WL.cut0 True [(0, (.int .i64 slow)), (1, (.int .i64 delay)), (2, (.int .i64 store)), (6, (.pointer none)), (7, (.int .i64 0)), (29, (.bool ((((((decide (slow < 1)) || (decide (slow > 16))) || (decide (delay < 0))) || (decide (delay > 1000))) || (decide (store < 0))) || (decide (store > 1073741824)))))] [] 3 ?_ (fun _ => ?_)
          · by_cases hb5 : ((((slow < 1) ∨ (slow > 16)) ∨ (delay < 0)) ∨ (delay > 1000)) ∨ (store < 0)
            · refine WL.pin (i := 26) rfl (bT (biff_or (biff_or (biff_or (biff_or (decide_eq_true_iff) (decide_eq_true_iff)) (decide_eq_true_iff)) (decide_eq_true_iff)) (decide_eq_true_iff)) hb5) ?_
              refine WL.skip rfl rfl rfl ?_
              refine WL.skip rfl rfl rfl ?_
              refine WL.quiet (d := 29) rfl rfl rfl (q_pickT rfl rfl) ?_
              exact WL.cutEnd () trivial (.cons rfl (.cons rfl (.cons rfl (.cons rfl (.cons rfl (.cons (some_bool (or_l (bT (biff_or (biff_or (biff_or (biff_or (decide_eq_true_iff) (decide_eq_true_iff)) (decide_eq_true_iff)) (decide_eq_true_iff)) (decide_eq_true_iff)) hb5))) .nil)))))) .nil
            · refine WL.pin (i := 26) rfl (bF (biff_or (biff_or (biff_or (biff_or (decide_eq_true_iff) (decide_eq_true_iff)) (decide_eq_true_iff)) (decide_eq_true_iff)) (decide_eq_true_iff)) hb5) ?_
              refine WL.quiet (d := 27) rfl rfl rfl (q_move rfl) ?_
              refine WL.quiet (d := 28) rfl rfl rfl (q_gtr rfl rfl) ?_
              refine WL.quiet (d := 29) rfl rfl rfl (q_pickF rfl rfl) ?_
              exact WL.cutEnd () trivial (.cons rfl (.cons rfl (.cons rfl (.cons rfl (.cons rfl (.cons (some_bool (or_r (bF (biff_or (biff_or (biff_or (biff_or (decide_eq_true_iff) (decide_eq_true_iff)) (decide_eq_true_iff)) (decide_eq_true_iff)) (decide_eq_true_iff)) hb5))) .nil)))))) .nil
          · skip
            refine WL.nil ?_
            refine WX.then ?_
            refine WC.cond rfl (fun h => absurd ((biff_or (biff_or (biff_or (biff_or (biff_or (decide_eq_true_iff) (decide_eq_true_iff)) (decide_eq_true_iff)) (decide_eq_true_iff)) (decide_eq_true_iff)) (decide_eq_true_iff)).1 h) (by omega)) (fun _ => ?_)
            refine WC.skip ?_
            refine WX.then ?_
            refine WC.seq ?_
            refine WC.region ?_
            refine WL.quiet (d := 30) rfl rfl rfl (q_move rfl) ?_
            refine WL.quiet (d := 31) rfl rfl rfl (q_move rfl) ?_
            refine WL.quiet (d := 32) rfl rfl rfl (q_move rfl) ?_
            refine WL.quiet (d := 33) rfl rfl rfl (q_build (v := (.agg #[(.int .i64 slow), (.int .i64 delay), (.int .i64 store)])) (Eos.parts (l := [.tmp 30, .tmp 31, .tmp 32]) (.cons rfl (.cons rfl (.cons rfl .nil))) [0, 1, 2]) (fun _ => by kernel_rfl)) ?_
            refine WL.quiet (d := 34) rfl rfl rfl (q_build (v := (.agg #[(.int .i64 slow), (.int .i64 delay), (.int .i64 store), (.int .i64 0), (.int .i64 0), (.slice none 0 0)])) (Eos.parts (l := [.tmp 33]) (.cons rfl .nil) [0]) (fun _ => by kernel_rfl)) ?_
            refine WL.new (dd := 35) rfl rfl rfl (e_box (cs := [(.int .i64 slow), (.int .i64 delay), (.int .i64 store), (.int .i64 0), (.int .i64 0), (.slice none 0 0)]) rfl rfl) ?_
            intro b6 _
            refine WL.quiet (d := 6) rfl rfl rfl (q_assign rfl) ?_
            refine WL.quiet (d := 7) rfl rfl rfl (q_assign rfl) ?_
            refine WL.nil ?_
            refine WX.then ?_
            refine WC.ret ?_
            refine WX.bpRet Try.results9 (.tmp rfl (.tmp rfl .nil)) (fun w hw => ?_)
            exact ⟨b6, ret2 rfl rfl, trivial, (hw.sub (.cons .here .nil))⟩

set_option maxRecDepth 20000 in
theorem free_nil  (w₀ : World) :
    Calls Try.prog 14 #[(.pointer none)] w₀ fun e w' => e = .returned (.int .i64 0) ∧ Hp [] w₀ w' [] := by
  refine Calls.ofWC (vs := [(.pointer none)]) (pre := []) (env := [(0, (.pointer none))]) Try.func14 rfl Try.ntmps14 rfl (Hp.nil w₀ _) rfl ?_
  refine WC.seq ?_
  refine WC.region ?_
  refine WL.quiet (d := 2) rfl rfl rfl (q_assign rfl) ?_
  refine WL.nil ?_
  refine WX.then ?_
  refine WC.seq ?_
  refine WC.seq ?_
  refine WC.region ?_
  refine WL.quiet (d := 3) rfl rfl rfl (q_move rfl) ?_
  refine WL.callD (dd := 4) rfl rfl rfl (run_call (l := [.tmp 3]) Try.call21 (.cons rfl .nil)) .nil (fun w hw => none_nil  (w₀ := w) ) ?_
  refine WL.nil ?_
  refine WX.then ?_
  refine WC.cond rfl (fun h => ?_) (fun h => (by cases h))
  clear h
  refine WC.seq ?_
  refine WC.region ?_
  refine WL.quiet (d := 2) rfl rfl rfl (q_assign rfl) ?_
  refine WL.nil ?_
  refine WX.then ?_
  refine WC.ret ?_
  refine WX.thenRet ?_
  refine WX.bpRet Try.results14 (.tmp rfl .nil) (fun w hw => ?_)
  exact ⟨ret1 rfl, (hw.sub .nil)⟩

set_option maxRecDepth 20000 in
theorem free_no (A : Addr) (slow delay store now last : Int) (fr : Value) (w₀ : World)
    (hA : CellsAt [] w₀ A [.int .i64 slow, .int .i64 delay, .int .i64 store, .int .i64 now, .int .i64 last, fr])
    (hs : slow ≠ 0) :
    Calls Try.prog 14 #[(.pointer (some A))] w₀ fun e w' => e = .returned (.int .i64 last) ∧ Hp [] w₀ w' [] := by
  refine Calls.ofWC (vs := [(.pointer (some A))]) (pre := []) (env := [(0, (.pointer (some A)))]) Try.func14 rfl Try.ntmps14 rfl (Hp.nil w₀ _) rfl ?_
  refine WC.seq ?_
  refine WC.region ?_
  refine WL.quiet (d := 2) rfl rfl rfl (q_assign rfl) ?_
  refine WL.nil ?_
  refine WX.then ?_
  refine WC.seq ?_
  refine WC.seq ?_
  refine WC.region ?_
  refine WL.quiet (d := 3) rfl rfl rfl (q_move rfl) ?_
  refine WL.callD (dd := 4) rfl rfl rfl (run_call (l := [.tmp 3]) Try.call21 (.cons rfl .nil)) .nil (fun w hw => none_no (A := A) (slow := slow) (delay := delay) (store := store) (now := now) (last := last) (fr := fr) (w₀ := w) (hA.call hw .nil (by simp))) ?_
  refine WL.nil ?_
  refine WX.then ?_
  refine WC.cond rfl (fun h => absurd ((decide_eq_true_iff).1 h) (by omega)) (fun _ => ?_)
  refine WC.skip ?_
  refine WX.then ?_
  refine WC.seq ?_
  refine WC.region ?_
  refine WL.quiet (d := 5) rfl rfl rfl (q_move rfl) ?_
  refine WL.quiet (d := 6) rfl rfl rfl (q_nilCheck rfl) ?_
  refine WL.quiet (d := 7) rfl rfl rfl (q_fieldAddr fo_57_2 rfl rfl) ?_
  refine WL.quiet (d := 8) rfl rfl rfl (q_load1 oneT_3 rfl (rd_cellAt hA rfl)) ?_
  refine WL.quiet (d := 2) rfl rfl rfl (q_assign rfl) ?_
  refine WL.nil ?_
  refine WX.then ?_
  refine WC.ret ?_
  refine WX.bpRet Try.results14 (.tmp rfl .nil) (fun w hw => ?_)
  exact ⟨ret1 rfl, (hw.sub .nil)⟩

set_option maxRecDepth 20000 in
theorem put1 (A : Addr) (t : Int) (x : Fr) (w₀ : World)
    (hA : CellsAt [] w₀ A [.int .i64 t]) :
    Calls Try.prog 25 #[(.agg (((frE x)).toArray)), (.pointer (some A))] w₀ fun e w' => e = .returned (.bool (decide (x.fin ≤ t))) ∧ Hp [] w₀ w' [] := by
  refine Calls.ofWC (vs := [(.agg (((frE x)).toArray)), (.pointer (some A))]) (pre := []) (env := [(0, (.agg (((frE x)).toArray))), (1, (.pointer (some A)))]) Try.func25 rfl Try.ntmps25 rfl (Hp.nil w₀ _) rfl ?_
  refine WC.seq ?_
  refine WC.region ?_
  refine WL.new (dd := 2) rfl rfl rfl (e_box (cs := (frE x)) rfl rfl) ?_
  intro b1 _
  refine WL.quiet (d := 3) rfl rfl rfl (q_assign rfl) ?_
  refine WL.nil ?_
  refine WX.then ?_
  refine WC.seq ?_
  refine WC.region ?_
  refine WL.quiet (d := 4) rfl rfl rfl (q_fieldAddr fo_67_1 rfl rfl) ?_
  refine WL.quiet (d := 5) rfl rfl rfl (q_load1 oneT_3 rfl (rd_stb .here rfl)) ?_
  refine WL.quiet (d := 6) rfl rfl rfl (q_load1 oneT_3 rfl (rd_cell hA rfl)) ?_
  refine WL.quiet (d := 7) rfl rfl rfl (q_leq rfl rfl) ?_
  refine WL.quiet (d := 3) rfl rfl rfl (q_assign rfl) ?_
  refine WL.nil ?_
  refine WX.then ?_
  refine WC.ret ?_
  refine WX.bpRet Try.results25 (.tmp rfl .nil) (fun w hw => ?_)
  exact ⟨ret1 rfl, (hw.sub .nil)⟩

set_option maxRecDepth 20000 in
theorem held1 (A : Addr) (t : Int) (x : Fr) (w₀ : World)
    (hA : CellsAt [] w₀ A [.int .i64 t]) :
    Calls Try.prog 23 #[(.agg (((frE x)).toArray)), (.pointer (some A))] w₀ fun e w' => e = .returned (.bool (decide (x.fin > t))) ∧ Hp [] w₀ w' [] := by
  refine Calls.ofWC (vs := [(.agg (((frE x)).toArray)), (.pointer (some A))]) (pre := []) (env := [(0, (.agg (((frE x)).toArray))), (1, (.pointer (some A)))]) Try.func23 rfl Try.ntmps23 rfl (Hp.nil w₀ _) rfl ?_
  refine WC.seq ?_
  refine WC.region ?_
  refine WL.new (dd := 2) rfl rfl rfl (e_box (cs := (frE x)) rfl rfl) ?_
  intro b1 _
  refine WL.quiet (d := 3) rfl rfl rfl (q_assign rfl) ?_
  refine WL.nil ?_
  refine WX.then ?_
  refine WC.seq ?_
  refine WC.region ?_
  refine WL.quiet (d := 4) rfl rfl rfl (q_fieldAddr fo_67_1 rfl rfl) ?_
  refine WL.quiet (d := 5) rfl rfl rfl (q_load1 oneT_3 rfl (rd_stb .here rfl)) ?_
  refine WL.quiet (d := 6) rfl rfl rfl (q_load1 oneT_3 rfl (rd_cell hA rfl)) ?_
  refine WL.quiet (d := 7) rfl rfl rfl (q_gtr rfl rfl) ?_
  refine WL.quiet (d := 3) rfl rfl rfl (q_assign rfl) ?_
  refine WL.nil ?_
  refine WX.then ?_
  refine WC.ret ?_
  refine WX.bpRet Try.results23 (.tmp rfl .nil) (fun w hw => ?_)
  exact ⟨ret1 rfl, (hw.sub .nil)⟩

def sumF (p : Fr → Bool) (l : List Fr) : Int := (l.map fun x => if p x = true then x.size else 0).sum
theorem sumF_snoc (p : Fr → Bool) (l : List Fr) (x : Fr) : sumF p (l ++ [x]) = sumF p l + if p x = true then x.size else 0 := by simp [sumF]
theorem take_nth {α : Type} [Inhabited α] (l : List α) {i : Int} (h0 : 0 ≤ i) (h : i < l.length) : l.take (i + 1).toNat = l.take i.toNat ++ [nth l i] := by
  have e : (i + 1).toNat = i.toNat + 1 := by omega
  rw [e, List.take_succ_eq_append_getElem (by omega), nth_lt h0 h]
theorem nth_mem {α : Type} [Inhabited α] {l : List α} {i : Int} (h0 : 0 ≤ i) (h : i < l.length) : nth l i ∈ l := by
  rw [← nth_lt h0 h]; exact List.getElem_mem _
theorem sumF_bd (p : Fr → Bool) (l : List Fr) (h : ∀ x ∈ l, 1 ≤ x.size ∧ x.size ≤ 72) : 0 ≤ sumF p l ∧ sumF p l ≤ 72 * l.length := by
  induction l with
  | nil => simp [sumF]
  | cons x l ih =>
    have h1 := h x (by simp)
    have h2 := ih (fun y hy => h y (List.mem_cons_of_mem _ hy))
    simp only [sumF, List.map_cons, List.sum_cons, List.length_cons] at h2 ⊢
    split <;> omega
theorem sumF_step (p : Fr → Bool) (l : List Fr) {i : Int} (h0 : 0 ≤ i) (h : i < l.length) : sumF p (l.take (i + 1).toNat) = sumF p (l.take i.toNat) + if p (nth l i) = true then (nth l i).size else 0 := by
  rw [take_nth l h0 h, sumF_snoc]

set_option maxRecDepth 20000 in
theorem sum_c (A : Addr) (slow delay store now last : Int) (ao : Option Addr) (m cap : Nat) (l : List Fr) (fid : FuncId) (caps : List Value) (p : Fr → Bool) (w₀ : World)
    (hA : CellsAt [] w₀ A [.int .i64 slow, .int .i64 delay, .int .i64 store, .int .i64 now, .int .i64 last, .slice ao m cap])
    (hs : SlP [] w₀ (.slice ao m cap) 2 frP l)
    (hsz : ∀ x ∈ l, 1 ≤ x.size ∧ x.size ≤ 72)
    (hll : l.length ≤ 1099511627776)
    (hcf : ∀ args w, (callFunc fid args).run Try.prog w = .ok (.enter fid args) w)
    (hf : ∀ w', Keep [] w₀ w' → ∀ x : Fr, Calls Try.prog fid ([Value.agg (frE x).toArray] ++ caps).toArray w' fun e w'' => e = .returned (.bool (p x)) ∧ Hp [] w' w'' []) :
    Calls Try.prog 22 #[(.pointer (some A)), (.func (.func fid) #[] (caps).toArray)] w₀ fun e w' => e = .returned (.int .i64 (sumF p l)) ∧ Hp [] w₀ w' [] := by
  have hlm := hs.len
  refine Calls.ofWC (vs := [(.pointer (some A)), (.func (.func fid) #[] (caps).toArray)]) (pre := []) (env := [(0, (.pointer (some A))), (1, (.func (.func fid) #[] (caps).toArray))]) Try.func22 rfl Try.ntmps22 rfl (Hp.nil w₀ _) rfl ?_
  refine WC.seq ?_
  refine WC.region ?_
  refine WL.quiet (d := 4) rfl rfl rfl (q_assign rfl) ?_
  refine WL.nil ?_
  refine WX.then ?_
  refine WC.seq ?_
  refine WC.region ?_
  refine WL.quiet (d := 5) rfl rfl rfl (q_assign rfl) ?_
  refine WL.nil ?_
  refine WX.then ?_
  refine WC.seq ?_
  refine WC.seq ?_
  refine WC.region ?_
  refine WL.quiet (d := 8) rfl rfl rfl (q_move rfl) ?_
  refine WL.quiet (d := 9) rfl rfl rfl (q_nilCheck rfl) ?_
  refine WL.quiet (d := 10) rfl rfl rfl (q_fieldAddr fo_57_3 rfl rfl) ?_
  refine WL.quiet (d := 11) rfl rfl rfl (q_load1 oneT_55 rfl (rd_cellAt hA rfl)) ?_
  refine WL.quiet (d := 12) rfl rfl rfl (q_len Try.underlying55 rfl) ?_
  refine WL.quiet (d := 13) rfl rfl rfl (q_move rfl) ?_
  refine WL.nil ?_
  refine WX.then ?_
  refine WC.block ?_
  refine WC.loop2 (fun (i : Int) (acc : Int) => (0 ≤ i) ∧ (i ≤ l.length) ∧ (acc = sumF p (l.take i.toNat))) (fun (i : Int) (acc : Int) => [(1, (.func (.func fid) #[] (caps).toArray)), (11, (.slice ao m cap)), (12, (.int .i64 ((m : Nat) : Int))), (13, (.int .i64 i)), (5, (.int .i64 acc))]) (fun (i : Int) (acc : Int) => []) (fun (i : Int) (acc : Int) => (l.length - i.toNat)) ⟨0, 0⟩ ⟨(by first | omega | (dsimp only; omega)), (by first | omega | (dsimp only; omega)), (by first | (dsimp only; simp [sumF]) | (simp [sumF]))⟩ (.cons rfl (.cons rfl (.cons rfl (.cons rfl (.cons rfl .nil))))) .nil ?_
  rintro i acc ⟨h0, h1, ha⟩
  have hbd := sumF_bd p (l.take i.toNat) (fun x hx => hsz x (List.mem_of_mem_take hx))
  have hbl : (l.take i.toNat).length ≤ l.length := by simp; omega
  have hn : i < l.length → 1 ≤ (nth l i).size ∧ (nth l i).size ≤ 72 := fun h => hsz _ (nth_mem h0 h)
  refine WC.seq ?_
  refine WC.region ?_
  refine WL.quiet (d := 14) rfl rfl rfl (q_lss rfl rfl) ?_
  refine WL.nil ?_
  refine WX.then ?_
  refine WC.seq ?_
  refine WC.cond rfl (fun h => ?_) (fun h => ?_)
  · have hc1 : i < ((m : Nat) : Int) := ((decide_eq_true_iff)).1 h; clear h
    refine WC.skip ?_
    refine WX.then ?_
    refine WC.seq ?_
    refine WC.block ?_
    refine WC.seq ?_
    refine WC.region ?_
    refine WL.nth (dd := 15) rfl rfl elT_55 rfl rfl hs (by omega) (by omega) ?_
    rintro A2 r3 hA4 hl5 rfl; clear hl5
    refine WL.quiet (d := 16) rfl rfl rfl (q_loadA (cs := (frE (nth l i))) aggT_67 rfl rfl (rd_cells hA4)) ?_
    refine WL.new (dd := 7) rfl rfl rfl (e_alloc (cs := [(.int .i64 0), (.int .i64 0)]) zeroT_67 rfl) ?_
    intro b7 _
    refine WL.eff0 rfl rfl (e_store (vs := (frE (nth l i))) (ds := [(.int .i64 ((nth l i).size)), (.int .i64 ((nth l i).fin))]) sizT_67 rfl rfl rfl rfl (oc_cons rfl (oc_cons rfl oc_nil)) .here (Nat.le_of_ble_eq_true rfl) rfl) ?_
    refine WL.nil ?_
    refine WX.then ?_
    refine WC.seq ?_
    refine WC.region ?_
    refine WL.quiet (d := 17) rfl rfl rfl (q_move rfl) ?_
    refine WL.quiet (d := 18) rfl rfl rfl (q_loadA (cs := [(.int .i64 ((nth l i).size)), (.int .i64 ((nth l i).fin))]) aggT_67 rfl rfl (rd_all .here)) ?_
    refine WL.callD (dd := 19) rfl rfl rfl (run_callv (l := [.tmp 18]) (f := fid) (caps := caps) hcf rfl (.cons rfl .nil)) .nil (fun w hw => hf w hw.kept (nth l i)) ?_
    refine WL.nil ?_
    refine WX.then ?_
    refine WC.cond rfl (fun h => ?_) (fun h => ?_)
    · have hc8 : (p (nth l i)) = true := (Iff.rfl).1 h; clear h
      refine WC.region ?_
      refine WL.quiet (d := 20) rfl rfl rfl (q_move rfl) ?_
      refine WL.quiet (d := 21) rfl rfl rfl (q_fieldAddr fo_67_0 rfl rfl) ?_
      refine WL.quiet (d := 22) rfl rfl rfl (q_load1 oneT_3 rfl (rd_stb .here rfl)) ?_
      refine WL.quiet (d := 23) rfl rfl rfl (q_add rfl rfl (w64 (by omega))) ?_
      refine WL.quiet (d := 5) rfl rfl rfl (q_assign rfl) ?_
      refine WL.nil ?_
      refine WX.blockNormal ?_
      refine WX.then ?_
      refine WC.region ?_
      refine WL.quiet (d := 24) rfl rfl rfl (q_add rfl rfl (w64 (by omega))) ?_
      refine WL.quiet (d := 13) rfl rfl rfl (q_move rfl) ?_
      refine WL.nil ?_
      exact WX.round (G := Int × Int) ⟨(i + 1), (acc + ((nth l i).size))⟩ ⟨(by first | omega | (dsimp only; omega)), (by first | omega | (dsimp only; omega)), (by first | (dsimp only; rw [sumF_step p l h0 (by omega), ha]; simp [*]) | (rw [sumF_step p l h0 (by omega), ha]; simp [*]))⟩ (by first | omega | (dsimp only; omega)) (.cons rfl (.cons rfl (.cons rfl (.cons rfl (.cons rfl .nil))))) .nil
    · have hc8 : ¬ ((p (nth l i)) = true) := biffF Iff.rfl h; clear h
      refine WC.skip ?_
      refine WX.blockNormal ?_
      refine WX.then ?_
      refine WC.region ?_
      refine WL.quiet (d := 24) rfl rfl rfl (q_add rfl rfl (w64 (by omega))) ?_
      refine WL.quiet (d := 13) rfl rfl rfl (q_move rfl) ?_
      refine WL.nil ?_
      exact WX.round (G := Int × Int) ⟨(i + 1), acc⟩ ⟨(by first | omega | (dsimp only; omega)), (by first | omega | (dsimp only; omega)), (by first | (dsimp only; rw [sumF_step p l h0 (by omega), ha]; simp [*]) | (rw [sumF_step p l h0 (by omega), ha]; simp [*]))⟩ (by first | omega | (dsimp only; omega)) (.cons rfl (.cons rfl (.cons rfl (.cons rfl (.cons rfl .nil))))) .nil
  · have hc1 : ¬ (i < ((m : Nat) : Int)) := biffF (decide_eq_true_iff) h; clear h
    refine WC.exit ?_
    refine WX.thenExit ?_
    refine WX.thenExit ?_
    refine WX.blockHit ?_
    refine WX.then ?_
    refine WC.seq ?_
    refine WC.region ?_
    refine WL.quiet (d := 25) rfl rfl rfl (q_move rfl) ?_
    refine WL.quiet (d := 4) rfl rfl rfl (q_assign rfl) ?_
    refine WL.nil ?_
    refine WX.then ?_
    refine WC.ret ?_
    refine WX.bpRet Try.results22 (.tmp rfl .nil) (fun w hw => ?_)
    exact ⟨ret1 (vint (by rw [ha]; rw [List.take_of_length_le (by omega)])), (hw.sub .nil)⟩

theorem pre_step {α : Type} [Inhabited α] {p : α → Bool} {l : List α} {i : Int} (h0 : 0 ≤ i) (h : i < l.length) (hp : ∀ x ∈ l.take i.toNat, p x = false) (hn : ¬ p (nth l i) = true) : ∀ x ∈ l.take (i + 1).toNat, p x = false := by
  rw [take_nth l h0 h]
  intro x hx
  rcases List.mem_append.1 hx with hx | hx
  · exact hp x hx
  · simp at hx; subst hx; simpa using hn
theorem del_keep {α : Type} [Inhabited α] {p : α → Bool} {l cur : List α} {i j : Int} (h1 : 0 ≤ i) (h2 : i < j) (h3 : j < l.length) (hl : cur.length = l.length) (ht : cur.take i.toNat = (l.take j.toNat).filter (fun x => !p x)) (hd : cur.drop j.toNat = l.drop j.toNat)
    (hn : ¬ p (nth cur j) = true) : (cur.set i.toNat (nth cur j)).take (i + 1).toNat = (l.take (j + 1).toNat).filter (fun x => !p x) ∧ (cur.set i.toNat (nth cur j)).drop (j + 1).toNat = l.drop (j + 1).toNat ∧ nth cur j = nth l j := by
  have e : nth cur j = nth l j := by
    have h := congrArg (fun z => z[0]?) hd
    simp only [List.getElem?_drop, Nat.add_zero] at h
    rw [← nth_lt (by omega) h3, ← nth_lt (by omega) (by omega)]
    rw [List.getElem?_eq_getElem (by omega), List.getElem?_eq_getElem (by omega)] at h
    exact Option.some.inj h
  refine ⟨?_, ?_, e⟩
  · rw [take_nth l (by omega) h3, List.filter_append, ← ht, show (i + 1).toNat = i.toNat + 1 from by omega, List.take_succ_eq_append_getElem (by simp; omega), List.take_set_of_le (Nat.le_refl _), ← e]
    simp [hn]
  · rw [List.drop_set_of_lt (by omega)]
    have h := congrArg (fun z => z.drop 1) hd
    simpa [List.drop_drop, show (j + 1).toNat = j.toNat + 1 from by omega] using h
theorem del_skip {α : Type} [Inhabited α] {p : α → Bool} {l cur : List α} {i j : Int} (h1 : 0 ≤ i) (h2 : i < j) (h3 : j < l.length) (hl : cur.length = l.length) (ht : cur.take i.toNat = (l.take j.toNat).filter (fun x => !p x)) (hd : cur.drop j.toNat = l.drop j.toNat)
    (hn : p (nth cur j) = true) : cur.take i.toNat = (l.take (j + 1).toNat).filter (fun x => !p x) ∧ cur.drop (j + 1).toNat = l.drop (j + 1).toNat := by
  have e : nth cur j = nth l j := by
    have h := congrArg (fun z => z[0]?) hd
    simp only [List.getElem?_drop, Nat.add_zero] at h
    rw [← nth_lt (by omega) h3, ← nth_lt (by omega) (by omega)]
    rw [List.getElem?_eq_getElem (by omega), List.getElem?_eq_getElem (by omega)] at h
    exact Option.some.inj h
  refine ⟨?_, ?_⟩
  · rw [take_nth l (by omega) h3, List.filter_append, ← ht, ← e]; simp [hn]
  · have h := congrArg (fun z => z.drop 1) hd
    simpa [List.drop_drop, show (j + 1).toNat = j.toNat + 1 from by omega] using h

set_option maxRecDepth 20000 in
theorem idx_c (ao : Option Addr) (m cap : Nat) (l : List Fr) (fid : FuncId) (caps : List Value) (p : Fr → Bool) (w₀ : World)
    (hs : SlP [] w₀ (.slice ao m cap) 2 frP l)
    (hll : l.length ≤ 1099511627776)
    (hcf : ∀ args w, (callFunc fid args).run Try.prog w = .ok (.enter fid args) w)
    (hf : ∀ w', Keep [] w₀ w' → ∀ x : Fr, Calls Try.prog fid ([Value.agg (frE x).toArray] ++ caps).toArray w' fun e w'' => e = .returned (.bool (p x)) ∧ Hp [] w' w'' []) :
    Calls Try.prog 27 #[(.slice ao m cap), (.func (.func fid) #[] (caps).toArray)] w₀ fun e w' => ∃ i : Int, e = .returned (.int .i64 i) ∧ ((i = -1 ∧ ∀ x ∈ l, p x = false) ∨ (0 ≤ i ∧ i < l.length ∧ p (nth l i) = true ∧ ∀ x ∈ l.take i.toNat, p x = false)) ∧ Hp [] w₀ w' [] := by
  have hlm := hs.len
  refine Calls.ofWC (vs := [(.slice ao m cap), (.func (.func fid) #[] (caps).toArray)]) (pre := []) (env := [(0, (.slice ao m cap)), (1, (.func (.func fid) #[] (caps).toArray))]) Try.func27 rfl Try.ntmps27 rfl (Hp.nil w₀ _) rfl ?_
  refine WC.seq ?_
  refine WC.region ?_
  refine WL.quiet (d := 4) rfl rfl rfl (q_assign rfl) ?_
  refine WL.nil ?_
  refine WX.then ?_
  refine WC.seq ?_
  refine WC.seq ?_
  refine WC.region ?_
  refine WL.quiet (d := 6) rfl rfl rfl (q_move rfl) ?_
  refine WL.quiet (d := 7) rfl rfl rfl (q_len Try.underlying55 rfl) ?_
  refine WL.quiet (d := 8) rfl rfl rfl (q_move rfl) ?_
  refine WL.nil ?_
  refine WX.then ?_
  refine WC.block ?_
  refine WC.loop1 (fun (i : Int) => (0 ≤ i) ∧ (i ≤ l.length) ∧ (∀ x ∈ l.take i.toNat, p x = false)) (fun (i : Int) => [(0, (.slice ao m cap)), (1, (.func (.func fid) #[] (caps).toArray)), (7, (.int .i64 ((m : Nat) : Int))), (8, (.int .i64 i))]) (fun (i : Int) => []) (fun (i : Int) => (l.length - i.toNat)) 0 ⟨(by first | omega | (dsimp only; omega)), (by first | omega | (dsimp only; omega)), (by first | (dsimp only; intro x hx; simp at hx) | (intro x hx; simp at hx))⟩ (.cons rfl (.cons rfl (.cons rfl (.cons rfl .nil)))) .nil ?_
  rintro i ⟨h0, h1, h2⟩
  refine WC.seq ?_
  refine WC.region ?_
  refine WL.quiet (d := 9) rfl rfl rfl (q_lss rfl rfl) ?_
  refine WL.nil ?_
  refine WX.then ?_
  refine WC.seq ?_
  refine WC.cond rfl (fun h => ?_) (fun h => ?_)
  · have hc1 : i < ((m : Nat) : Int) := ((decide_eq_true_iff)).1 h; clear h
    refine WC.skip ?_
    refine WX.then ?_
    refine WC.seq ?_
    refine WC.block ?_
    refine WC.seq ?_
    refine WC.region ?_
    refine WL.quiet (d := 10) rfl rfl rfl (q_move rfl) ?_
    refine WL.quiet (d := 5) rfl rfl rfl (q_assign rfl) ?_
    refine WL.nil ?_
    refine WX.then ?_
    refine WC.seq ?_
    refine WC.region ?_
    refine WL.quiet (d := 11) rfl rfl rfl (q_move rfl) ?_
    refine WL.quiet (d := 12) rfl rfl rfl (q_move rfl) ?_
    refine WL.quiet (d := 13) rfl rfl rfl (q_move rfl) ?_
    refine WL.nth (dd := 14) rfl rfl elT_55 rfl rfl hs (by omega) (by omega) ?_
    rintro A2 r3 hA4 hl5 rfl; clear hl5
    refine WL.quiet (d := 15) rfl rfl rfl (q_loadA (cs := (frE (nth l i))) aggT_67 rfl rfl (rd_cells hA4)) ?_
    refine WL.callD (dd := 16) rfl rfl rfl (run_callv (l := [.tmp 15]) (f := fid) (caps := caps) hcf rfl (.cons rfl .nil)) .nil (fun w hw => hf w hw.kept (nth l i)) ?_
    refine WL.nil ?_
    refine WX.then ?_
    refine WC.cond rfl (fun h => ?_) (fun h => ?_)
    · have hc7 : (p (nth l i)) = true := (Iff.rfl).1 h; clear h
      refine WC.seq ?_
      refine WC.region ?_
      refine WL.quiet (d := 17) rfl rfl rfl (q_move rfl) ?_
      refine WL.quiet (d := 4) rfl rfl rfl (q_assign rfl) ?_
      refine WL.nil ?_
      refine WX.then ?_
      refine WC.ret ?_
      refine WX.blockRet ?_
      refine WX.thenRet ?_
      refine WX.thenRet ?_
      refine WX.blockRet ?_
      refine WX.thenRet ?_
      refine WX.bpRet Try.results27 (.tmp rfl .nil) (fun w hw => ?_)
      exact ⟨i, ret1 rfl, (by first | exact .inr ⟨h0, by omega, ‹_›, h2⟩ | exact .inl ⟨rfl, by rwa [List.take_of_length_le (by omega)] at h2⟩), (hw.sub .nil)⟩
    · have hc7 : ¬ ((p (nth l i)) = true) := biffF Iff.rfl h; clear h
      refine WC.skip ?_
      refine WX.blockNormal ?_
      refine WX.then ?_
      refine WC.region ?_
      refine WL.quiet (d := 18) rfl rfl rfl (q_add rfl rfl (w64 (by omega))) ?_
      refine WL.quiet (d := 8) rfl rfl rfl (q_move rfl) ?_
      refine WL.nil ?_
      exact WX.round (G := Int) (i + 1) ⟨(by first | omega | (dsimp only; omega)), (by first | omega | (dsimp only; omega)), (by first | (dsimp only; exact pre_step h0 (by omega) h2 ‹_›) | (exact pre_step h0 (by omega) h2 ‹_›))⟩ (by first | omega | (dsimp only; omega)) (.cons rfl (.cons rfl (.cons rfl (.cons rfl .nil)))) .nil
  · have hc1 : ¬ (i < ((m : Nat) : Int)) := biffF (decide_eq_true_iff) h; clear h
    refine WC.exit ?_
    refine WX.thenExit ?_
    refine WX.thenExit ?_
    refine WX.blockHit ?_
    refine WX.then ?_
    refine WC.seq ?_
    refine WC.region ?_
    refine WL.quiet (d := 4) rfl rfl rfl (q_assign rfl) ?_
    refine WL.nil ?_
    refine WX.then ?_
    refine WC.ret ?_
    refine WX.bpRet Try.results27 (.tmp rfl .nil) (fun w hw => ?_)
    exact ⟨(-1), ret1 rfl, (by first | exact .inr ⟨h0, by omega, ‹_›, h2⟩ | exact .inl ⟨rfl, by rwa [List.take_of_length_le (by omega)] at h2⟩), (hw.sub .nil)⟩

set_option maxRecDepth 20000 in
theorem del_c (ao : Option Addr) (m cap : Nat) (l : List Fr) (fid : FuncId) (caps : List Value) (p : Fr → Bool) (w₀ : World)
    (hlm : m = l.length)
    (hll : l.length ≤ 1099511627776)
    (hcf : ∀ args w, (callFunc fid args).run Try.prog w = .ok (.enter fid args) w)
    (hf : ∀ w', Keep (fps [row (.slice ao m cap) 67 2 (l.flatMap frE)]) w₀ w' → ∀ x : Fr, Calls Try.prog fid ([Value.agg (frE x).toArray] ++ caps).toArray w' fun e w'' => e = .returned (.bool (p x)) ∧ Hp [] w' w'' [])
    (hown : Hp (fps [row (.slice ao m cap) 67 2 (l.flatMap frE)]) w₀ w₀ [row (.slice ao m cap) 67 2 (l.flatMap frE)]) :
    Calls Try.prog 24 #[(.slice ao m cap), (.func (.func fid) #[] (caps).toArray)] w₀ fun e w' => ∃ ao' : Option Addr, ∃ m' : Nat, ∃ cap' : Nat, ∃ l' : List Fr, e = .returned (.slice ao' m' cap') ∧ ((l' = l.filter (fun x => !p x)) ∧ (m' = l'.length)) ∧ Hp (fps [row (.slice ao m cap) 67 2 (l.flatMap frE)]) w₀ w' [row (.slice ao' m' cap') 67 2 (l'.flatMap frE)] := by
  refine Calls.ofWC (vs := [(.slice ao m cap), (.func (.func fid) #[] (caps).toArray)]) (pre := [row (.slice ao m cap) 67 2 (l.flatMap frE)]) (env := [(0, (.slice ao m cap)), (1, (.func (.func fid) #[] (caps).toArray))]) Try.func24 rfl Try.ntmps24 rfl (hown) rfl ?_
  refine WC.seq ?_
  refine WC.region ?_
  refine WL.quiet (d := 4) rfl rfl rfl (q_assign rfl) ?_
  refine WL.nil ?_
  refine WX.then ?_
  refine WC.seq ?_
  refine WC.region ?_
  refine WL.quiet (d := 8) rfl rfl rfl (q_move rfl) ?_
  refine WL.quiet (d := 9) rfl rfl rfl (q_move rfl) ?_
  refine WL.enter1 (dd := 10) rfl rfl rfl (run_call (l := [.tmp 8, .tmp 9]) Try.call27 (.cons rfl (.cons rfl .nil))) .nil (fun w hw => idx_c (ao := ao) (m := m) (cap := cap) (l := l) (fid := fid) (caps := caps) (p := p) (w₀ := w) (hw.slpRow .nil .here (fun _ _ => rfl) (by decide)) (by omega) hcf (fun w' hk => hf w' (hw.keptCall (Sel.fps .nil) hk))) ?_
  rintro i1 hhi2
  have hidx := hhi2
  refine WL.quiet (d := 5) rfl rfl rfl (q_assign rfl) ?_
  refine WL.nil ?_
  refine WX.then ?_
  refine WC.seq ?_
  refine WC.seq ?_
  refine WC.region ?_
  refine WL.quiet (d := 11) rfl rfl rfl (q_move rfl) ?_
  refine WL.quiet (d := 12) rfl rfl rfl (q_eql rfl rfl) ?_
  refine WL.nil ?_
  refine WX.then ?_
  refine WC.cond rfl (fun h => ?_) (fun h => ?_)
  · have hc3 : i1 = (-1) := ((decide_eq_true_iff)).1 h; clear h
    refine WC.seq ?_
    refine WC.region ?_
    refine WL.quiet (d := 13) rfl rfl rfl (q_move rfl) ?_
    refine WL.quiet (d := 4) rfl rfl rfl (q_assign rfl) ?_
    refine WL.nil ?_
    refine WX.then ?_
    refine WC.ret ?_
    refine WX.thenRet ?_
    refine WX.bpRet Try.results24 (.tmp rfl .nil) (fun w hw => ?_)
    exact ⟨ao, m, cap, l, ret1 rfl, ⟨(by first | (rw [List.filter_eq_self.2]; intro x hx; simp; rcases hidx with h | h; exact h.2 x hx; omega) | (rw [List.take_append_of_le_length (by simp; omega), List.take_take, Nat.min_self, h4, List.take_of_length_le (by omega)])), (by first | rfl | omega | (simp; omega))⟩, (hw.sub (.cons .here .nil))⟩
  · have hc3 : ¬ (i1 = (-1)) := biffF (decide_eq_true_iff) h; clear h
    have hq := hidx.resolve_left (fun h => absurd h.1 ‹_›)
    refine WC.skip ?_
    refine WX.then ?_
    refine WC.seq ?_
    refine WC.seq ?_
    refine WC.region ?_
    refine WL.quiet (d := 14) rfl rfl rfl (q_move rfl) ?_
    refine WL.quiet (d := 15) rfl rfl rfl (q_add rfl rfl (w64 (by omega))) ?_
    refine WL.quiet (d := 6) rfl rfl rfl (q_assign rfl) ?_
    refine WL.nil ?_
    refine WX.then ?_
    refine WC.block ?_
    refine WC.loop3 (fun (i : Int) (j : Int) (cur : List Fr) => (0 ≤ i) ∧ (i < j) ∧ (j ≤ l.length) ∧ (cur.length = l.length) ∧ (cur.take i.toNat = (l.take j.toNat).filter (fun x => !p x)) ∧ (cur.drop j.toNat = l.drop j.toNat)) (fun (i : Int) (j : Int) (cur : List Fr) => [(0, (.slice ao m cap)), (1, (.func (.func fid) #[] (caps).toArray)), (5, (.int .i64 i)), (6, (.int .i64 j))]) (fun (i : Int) (j : Int) (cur : List Fr) => [row (.slice ao m cap) 67 2 (cur.flatMap frE)]) (fun (i : Int) (j : Int) (cur : List Fr) => (l.length - j.toNat)) ⟨i1, (i1 + 1), l⟩ ⟨(by first | omega | (dsimp only; omega)), (by first | omega | (dsimp only; omega)), (by first | omega | (dsimp only; omega)), (by first | (dsimp only; rfl) | (rfl)), (by first | (dsimp only; rw [take_nth l hq.1 hq.2.1, List.filter_append, List.filter_eq_self.2 (fun x hx => by simp [hq.2.2.2 x hx])]; simp [hq.2.2.1]) | (rw [take_nth l hq.1 hq.2.1, List.filter_append, List.filter_eq_self.2 (fun x hx => by simp [hq.2.2.2 x hx])]; simp [hq.2.2.1])), (by first | (dsimp only; rfl) | (rfl))⟩ (.cons rfl (.cons rfl (.cons rfl (.cons rfl .nil)))) (.cons .here .nil) ?_
    rintro i j cur ⟨h0, h1, h2, h3, h4, h5⟩
    refine WC.seq ?_
    refine WC.seq ?_
    refine WC.region ?_
    refine WL.quiet (d := 16) rfl rfl rfl (q_move rfl) ?_
    refine WL.quiet (d := 17) rfl rfl rfl (q_move rfl) ?_
    refine WL.quiet (d := 18) rfl rfl rfl (q_len Try.underlying55 rfl) ?_
    refine WL.quiet (d := 19) rfl rfl rfl (q_lss rfl rfl) ?_
    refine WL.nil ?_
    refine WX.then ?_
    refine WC.cond rfl (fun h => ?_) (fun h => ?_)
    · have hc4 : j < ((m : Nat) : Int) := ((decide_eq_true_iff)).1 h; clear h
      refine WC.skip ?_
      refine WX.then ?_
      refine WC.seq ?_
      refine WC.block ?_
      refine WC.seq ?_
      refine WC.region ?_
      refine WL.quiet (d := 22) rfl rfl rfl (q_move rfl) ?_
      refine WL.quiet (d := 23) rfl rfl rfl (q_move rfl) ?_
      refine WL.know (fun w hw => Hp.expose .here hw (by omega)) ?_
      rintro ⟨b5, rfl⟩
      refine WL.quiet (d := 24) rfl rfl rfl (q_indexAddr elT_55 rfl rfl (by omega) (by omega) rowAdd) ?_
      refine WL.quiet (d := 25) rfl rfl rfl (q_loadA (cs := (frE (nth cur j))) aggT_67 rfl rfl (rd_rows .here (flat_rd (enc := frE) (l := cur) (sz := 2) (fun _ => rfl) (by omega) (by omega)))) ?_
      refine WL.new (dd := 7) rfl rfl rfl (e_alloc (cs := [(.int .i64 0), (.int .i64 0)]) zeroT_67 rfl) ?_
      intro b6 _
      refine WL.eff0 rfl rfl (e_store (vs := (frE (nth cur j))) (ds := [(.int .i64 ((nth cur j).size)), (.int .i64 ((nth cur j).fin))]) sizT_67 rfl rfl rfl rfl (oc_cons rfl (oc_cons rfl oc_nil)) .here (Nat.le_of_ble_eq_true rfl) rfl) ?_
      refine WL.nil ?_
      refine WX.then ?_
      refine WC.seq ?_
      refine WC.region ?_
      refine WL.quiet (d := 26) rfl rfl rfl (q_move rfl) ?_
      refine WL.quiet (d := 27) rfl rfl rfl (q_loadA (cs := [(.int .i64 ((nth cur j).size)), (.int .i64 ((nth cur j).fin))]) aggT_67 rfl rfl (rd_all .here)) ?_
      refine WL.callD (dd := 28) rfl rfl rfl (run_callv (l := [.tmp 27]) (f := fid) (caps := caps) hcf rfl (.cons rfl .nil)) .nil (fun w hw => hf w hw.kept (nth cur j)) ?_
      refine WL.quiet (d := 29) rfl rfl rfl (q_not rfl) ?_
      refine WL.nil ?_
      refine WX.then ?_
      refine WC.cond rfl (fun h => ?_) (fun h => ?_)
      · have hc7 : ¬ ((p (nth cur j)) = true) := ((biff_not Iff.rfl)).1 h; clear h
        refine WC.seq ?_
        refine WC.region ?_
        refine WL.quiet (d := 30) rfl rfl rfl (q_move rfl) ?_
        refine WL.quiet (d := 31) rfl rfl rfl (q_move rfl) ?_
        refine WL.quiet (d := 32) rfl rfl rfl (q_loadA (cs := [(.int .i64 ((nth cur j).size)), (.int .i64 ((nth cur j).fin))]) aggT_67 rfl rfl (rd_all .here)) ?_
        refine WL.quiet (d := 33) rfl rfl rfl (q_indexAddr elT_55 rfl rfl (by omega) (by omega) rowAdd) ?_
        refine WL.eff0 rfl rfl (e_rowStore (vs := (frE (nth cur j))) (ds := (cur.set i.toNat (nth cur j)).flatMap frE) sizT_67 rfl rfl rfl rfl (oc_cons rfl (oc_cons rfl oc_nil)) (.there .here) (by rw [flat_len (enc := frE) (sz := 2) (fun _ => rfl)]; omega) (flat_put (enc := frE) (l := cur) (sz := 2) (vs := (frE (nth cur j))) (k := 0) (fun _ => rfl) (by omega) (by omega) rfl (Nat.le_of_ble_eq_true rfl))) ?_
        refine WL.nil ?_
        refine WX.then ?_
        refine WC.region ?_
        refine WL.quiet (d := 34) rfl rfl rfl (q_move rfl) ?_
        refine WL.quiet (d := 35) rfl rfl rfl (q_add rfl rfl (w64 (by omega))) ?_
        refine WL.quiet (d := 5) rfl rfl rfl (q_assign rfl) ?_
        refine WL.nil ?_
        refine WX.blockNormal ?_
        refine WX.then ?_
        refine WC.region ?_
        refine WL.quiet (d := 20) rfl rfl rfl (q_move rfl) ?_
        refine WL.quiet (d := 21) rfl rfl rfl (q_add rfl rfl (w64 (by omega))) ?_
        refine WL.quiet (d := 6) rfl rfl rfl (q_assign rfl) ?_
        refine WL.nil ?_
        exact WX.round (G := Int × Int × (List Fr)) ⟨(i + 1), (j + 1), (cur.set i.toNat (nth cur j))⟩ ⟨(by first | omega | (dsimp only; omega)), (by first | omega | (dsimp only; omega)), (by first | omega | (dsimp only; omega)), (by first | (dsimp only; simp [h3]) | (simp [h3])), (by first | (dsimp only; first | (refine (del_keep h0 h1 (by omega) h3 h4 h5 ?_).1; assumption) | (refine (del_skip h0 h1 (by omega) h3 h4 h5 ?_).1; simpa using ‹¬ ¬ _›)) | (first | (refine (del_keep h0 h1 (by omega) h3 h4 h5 ?_).1; assumption) | (refine (del_skip h0 h1 (by omega) h3 h4 h5 ?_).1; simpa using ‹¬ ¬ _›))), (by first | (dsimp only; first | (refine (del_keep h0 h1 (by omega) h3 h4 h5 ?_).2.1; assumption) | (refine (del_skip h0 h1 (by omega) h3 h4 h5 ?_).2; simpa using ‹¬ ¬ _›)) | (first | (refine (del_keep h0 h1 (by omega) h3 h4 h5 ?_).2.1; assumption) | (refine (del_skip h0 h1 (by omega) h3 h4 h5 ?_).2; simpa using ‹¬ ¬ _›)))⟩ (by first | omega | (dsimp only; omega)) (.cons rfl (.cons rfl (.cons rfl (.cons rfl .nil)))) (.cons .here .nil)
      · have hc7 : ¬ (¬ ((p (nth cur j)) = true)) := biffF (biff_not Iff.rfl) h; clear h
        refine WC.skip ?_
        refine WX.blockNormal ?_
        refine WX.then ?_
        refine WC.region ?_
        refine WL.quiet (d := 20) rfl rfl rfl (q_move rfl) ?_
        refine WL.quiet (d := 21) rfl rfl rfl (q_add rfl rfl (w64 (by omega))) ?_
        refine WL.quiet (d := 6) rfl rfl rfl (q_assign rfl) ?_
        refine WL.nil ?_
        exact WX.round (G := Int × Int × (List Fr)) ⟨i, (j + 1), cur⟩ ⟨(by first | omega | (dsimp only; omega)), (by first | omega | (dsimp only; omega)), (by first | omega | (dsimp only; omega)), (by first | (dsimp only; simp [h3]) | (simp [h3])), (by first | (dsimp only; first | (refine (del_keep h0 h1 (by omega) h3 h4 h5 ?_).1; assumption) | (refine (del_skip h0 h1 (by omega) h3 h4 h5 ?_).1; simpa using ‹¬ ¬ _›)) | (first | (refine (del_keep h0 h1 (by omega) h3 h4 h5 ?_).1; assumption) | (refine (del_skip h0 h1 (by omega) h3 h4 h5 ?_).1; simpa using ‹¬ ¬ _›))), (by first | (dsimp only; first | (refine (del_keep h0 h1 (by omega) h3 h4 h5 ?_).2.1; assumption) | (refine (del_skip h0 h1 (by omega) h3 h4 h5 ?_).2; simpa using ‹¬ ¬ _›)) | (first | (refine (del_keep h0 h1 (by omega) h3 h4 h5 ?_).2.1; assumption) | (refine (del_skip h0 h1 (by omega) h3 h4 h5 ?_).2; simpa using ‹¬ ¬ _›)))⟩ (by first | omega | (dsimp only; omega)) (.cons rfl (.cons rfl (.cons rfl (.cons rfl .nil)))) (.cons (.there .here) .nil)
    · have hc4 : ¬ (j < ((m : Nat) : Int)) := biffF (decide_eq_true_iff) h; clear h
      refine WC.exit ?_
      refine WX.thenExit ?_
      refine WX.thenExit ?_
      refine WX.blockHit ?_
      refine WX.then ?_
      refine WC.seq ?_
      refine WC.region ?_
      refine WL.quiet (d := 36) rfl rfl rfl (q_move rfl) ?_
      refine WL.quiet (d := 37) rfl rfl rfl (q_move rfl) ?_
      refine WL.know (fun w hw => Hp.expose .here hw (by omega)) ?_
      rintro ⟨b8, rfl⟩
      refine WL.rowLo (i := (i).toNat) (dd := 38) rfl rfl elT_55 rfl rfl .here (by omega) (by omega) ?_
      intro ao9 c10 hao11
      refine WL.eff0 rfl rfl (e_clearTail (ds := (cur.take ((i).toNat) ++ List.replicate (m - ((i).toNat)) ((⟨0, 0⟩ : Fr) : Fr)).flatMap frE) elT_55 zeroT_67 rfl hao11 (by omega) (oc_zero (enc := frE) (sz := 2) (z0 := ((⟨0, 0⟩ : Fr) : Fr)) (fun _ => rfl) (by decide) rfl frE_oc) .here (clear_data (enc := frE) (sz := 2) (l := cur) (z0 := ((⟨0, 0⟩ : Fr) : Fr)) (fun _ => rfl) (by decide) rfl (by omega))) ?_
      refine WL.nil ?_
      refine WX.then ?_
      refine WC.seq ?_
      refine WC.region ?_
      refine WL.quiet (d := 39) rfl rfl rfl (q_move rfl) ?_
      refine WL.quiet (d := 40) rfl rfl rfl (q_move rfl) ?_
      refine WL.rowHi (i := (i).toNat) (dd := 41) rfl rfl elT_55 rfl rfl .here (by omega) (by omega) ?_
      refine WL.rowEq .here (flat_take (enc := frE) (sz := 2) (fun _ => rfl) (cur.take ((i).toNat) ++ List.replicate (m - ((i).toNat)) ((⟨0, 0⟩ : Fr) : Fr)) ((i).toNat) (by first | omega | (simp; omega))) ?_
      refine WL.quiet (d := 4) rfl rfl rfl (q_assign rfl) ?_
      refine WL.nil ?_
      refine WX.then ?_
      refine WC.ret ?_
      refine WX.bpRet Try.results24 (.tmp rfl .nil) (fun w hw => ?_)
      exact ⟨(some ⟨b8, 0, none⟩), ((i).toNat), cap, ((cur.take ((i).toNat) ++ List.replicate (m - ((i).toNat)) ((⟨0, 0⟩ : Fr) : Fr)).take ((i).toNat)), ret1 rfl, ⟨(by first | (rw [List.filter_eq_self.2]; intro x hx; simp; rcases hidx with h | h; exact h.2 x hx; omega) | (rw [List.take_append_of_le_length (by simp; omega), List.take_take, Nat.min_self, h4, List.take_of_length_le (by omega)])), (by first | rfl | omega | (simp; omega))⟩, (hw.sub (.cons .here .nil))⟩

set_option maxRecDepth 20000 in
theorem held_nil (t : Int) (w₀ : World) :
    Calls Try.prog 12 #[(.pointer none), (.int .i64 t)] w₀ fun e w' => e = .returned (.int .i64 0) ∧ Hp [] w₀ w' [] := by
  refine Calls.ofWC (vs := [(.pointer none), (.int .i64 t)]) (pre := []) (env := [(0, (.pointer none)), (1, (.int .i64 t))]) Try.func12 rfl Try.ntmps12 rfl (Hp.nil w₀ _) rfl ?_
  refine WC.seq ?_
  refine WC.region ?_
  refine WL.new (dd := 3) rfl rfl rfl (e_box (cs := [(.int .i64 t)]) rfl rfl) ?_
  intro b1 _
  refine WL.quiet (d := 4) rfl rfl rfl (q_assign rfl) ?_
  refine WL.nil ?_
  refine WX.then ?_
  refine WC.seq ?_
  refine WC.seq ?_
  refine WC.region ?_
  refine WL.quiet (d := 5) rfl rfl rfl (q_move rfl) ?_
  refine WL.callD (dd := 6) rfl rfl rfl (run_call (l := [.tmp 5]) Try.call21 (.cons rfl .nil)) .nil (fun w hw => none_nil  (w₀ := w) ) ?_
  refine WL.nil ?_
  refine WX.then ?_
  refine WC.cond rfl (fun h => ?_) (fun h => (by cases h))
  clear h
  refine WC.seq ?_
  refine WC.region ?_
  refine WL.quiet (d := 4) rfl rfl rfl (q_assign rfl) ?_
  refine WL.nil ?_
  refine WX.then ?_
  refine WC.ret ?_
  refine WX.thenRet ?_
  refine WX.bpRet Try.results12 (.tmp rfl .nil) (fun w hw => ?_)
  exact ⟨ret1 rfl, (hw.sub .nil)⟩

set_option maxRecDepth 20000 in
theorem held_c (A : Addr) (slow delay store now last : Int) (ao : Option Addr) (m cap : Nat) (l : List Fr) (t : Int) (w₀ : World)
    (hA : CellsAt [] w₀ A [.int .i64 slow, .int .i64 delay, .int .i64 store, .int .i64 now, .int .i64 last, .slice ao m cap])
    (hs : SlP [] w₀ (.slice ao m cap) 2 frP l)
    (hsz : ∀ x ∈ l, 1 ≤ x.size ∧ x.size ≤ 72)
    (hll : l.length ≤ 1099511627776)
    (hslow : slow ≠ 0) :
    Calls Try.prog 12 #[(.pointer (some A)), (.int .i64 t)] w₀ fun e w' => e = .returned (.int .i64 (sumF (fun x => decide (x.fin > max t now)) l)) ∧ Hp [] w₀ w' [] := by
  refine Calls.ofWC (vs := [(.pointer (some A)), (.int .i64 t)]) (pre := []) (env := [(0, (.pointer (some A))), (1, (.int .i64 t))]) Try.func12 rfl Try.ntmps12 rfl (Hp.nil w₀ _) rfl ?_
  refine WC.seq ?_
  refine WC.region ?_
  refine WL.new (dd := 3) rfl rfl rfl (e_box (cs := [(.int .i64 t)]) rfl rfl) ?_
  intro b1 _
  refine WL.quiet (d := 4) rfl rfl rfl (q_assign rfl) ?_
  refine WL.nil ?_
  refine WX.then ?_
  refine WC.seq ?_
  refine WC.seq ?_
  refine WC.region ?_
  refine WL.quiet (d := 5) rfl rfl rfl (q_move rfl) ?_
  refine WL.callD (dd := 6) rfl rfl rfl (run_call (l := [.tmp 5]) Try.call21 (.cons rfl .nil)) .nil (fun w hw => none_no (A := A) (slow := slow) (delay := delay) (store := store) (now := now) (last := last) (fr := (.slice ao m cap)) (w₀ := w) (hA.call hw .nil (by simp))) ?_
  refine WL.nil ?_
  refine WX.then ?_
  refine WC.cond rfl (fun h => absurd ((decide_eq_true_iff).1 h) (by omega)) (fun _ => ?_)
  refine WC.skip ?_
  refine WX.then ?_
  refine WC.seq ?_
  refine WC.draw (fun i => [6].contains i) [] rfl ?_
  refine WD.quiet (i := 0) (d := 7) (by kernel_rfl) rfl (by kernel_rfl) (by kernel_rfl) rfl rfl rfl (q_load1 oneT_3 rfl (rd_stb .here rfl)) ?_
  refine WD.pure (i := 1) (d := 8) (by kernel_rfl) rfl (by kernel_rfl) (by kernel_rfl) rfl rfl rfl (fun _ => q_move rfl) ?_
  refine WD.pure (i := 2) (d := 9) (by kernel_rfl) rfl (by kernel_rfl) (by kernel_rfl) rfl rfl rfl (fun _ => q_nilCheck rfl) ?_
  refine WD.pure (i := 3) (d := 10) (by kernel_rfl) rfl (by kernel_rfl) (by kernel_rfl) rfl rfl rfl (fun _ => q_fieldAddr fo_57_1 rfl rfl) ?_
  refine WD.quiet (i := 4) (d := 11) (by kernel_rfl) rfl (by kernel_rfl) (by kernel_rfl) rfl rfl rfl (q_load1 oneT_3 rfl (rd_cellAt hA rfl)) ?_
  refine WD.pure (i := 5) (d := 12) (by kernel_rfl) rfl (by kernel_rfl) (by kernel_rfl) rfl rfl rfl (fun _ => q_max rfl rfl rfl) ?_
  refine WD.forced0 (i := 6) rfl (by kernel_rfl) rfl rfl rfl ⟨_, .nil⟩ (e_store (vs := [(.int .i64 (max t now))]) (ds := [(.int .i64 (max t now))]) sizT_3 rfl rfl rfl rfl (oc_cons rfl oc_nil) .here (Nat.le_of_ble_eq_true rfl) rfl) ?_
  refine WD.done (by kernel_rfl) ?_
  refine WX.then ?_
  refine WC.seq ?_
  refine WC.region ?_
  refine WL.quiet (d := 13) rfl rfl rfl (q_move rfl) ?_
  refine WL.quiet (d := 14) rfl rfl rfl (q_makeFunc (Eos.caps (l := [.tmp 3]) (.cons rfl .nil))) ?_
  refine WL.callD (dd := 15) rfl rfl rfl (run_call (l := [.tmp 13, .tmp 14]) Try.call22 (.cons rfl (.cons rfl .nil))) .nil (fun w hw => sum_c (A := A) (slow := slow) (delay := delay) (store := store) (now := now) (last := last) (ao := ao) (m := m) (cap := cap) (l := l) (fid := 23) (caps := [(.pointer (some ⟨b1, 0, none⟩))]) (p := (fun x : Fr => decide (x.fin > (max t now)))) (w₀ := w) (hA.call hw .nil (by simp)) (hs.call hw .nil (by decide) (fun _ _ h => h)) (by omega) (by omega) Try.call23 (fun w' hk x => held1 ⟨b1, 0, none⟩ (max t now) x w' ((hw.cellsStb .nil .here).keep hk))) ?_
  refine WL.quiet (d := 4) rfl rfl rfl (q_assign rfl) ?_
  refine WL.nil ?_
  refine WX.then ?_
  refine WC.ret ?_
  refine WX.bpRet Try.results12 (.tmp rfl .nil) (fun w hw => ?_)
  exact ⟨ret1 (vint (by first | rfl | omega | (simp; done))), (hw.sub .nil)⟩

theorem mul_bd {a b A B : Int} (h1 : 0 ≤ a) (h2 : a ≤ A) (h3 : 0 ≤ b) (h4 : b ≤ B) : 0 ≤ a * b ∧ a * b ≤ A * B :=
  ⟨Int.mul_nonneg h1 h3, Int.mul_le_mul h2 h4 h3 (by omega)⟩
def putR (slow delay store now last : Int) (l : List Fr) (t size : Int) : Int × Int × Int × Int × List Fr :=
  if size < 1 ∨ size > 72 ∨ t < now ∨ t > 1073741824 then (0, 2, now, last, l) else
  if sumF (fun x => decide (x.fin > max t t)) (l.filter (fun x => !decide (x.fin ≤ t))) + size > store then (0, 4, t, last, l.filter (fun x => !decide (x.fin ≤ t))) else
  (max (t + delay) last + size * slow, 0, t, max (t + delay) last + size * slow, l.filter (fun x => !decide (x.fin ≤ t)) ++ [⟨size, max (t + delay) last + size * slow⟩])
theorem sz_filter {l : List Fr} {q : Fr → Bool} (h : ∀ x ∈ l, 1 ≤ x.size ∧ x.size ≤ 72) : ∀ x ∈ l.filter q, 1 ≤ x.size ∧ x.size ≤ 72 := fun x hx => h x (List.mem_filter.1 hx).1


set_option maxRecDepth 20000 in
theorem put_nil (t size : Int) (w₀ : World) :
    Calls Try.prog 16 #[(.pointer none), (.int .i64 t), (.int .i64 size)] w₀ fun e w' => e = .returned (.tuple #[(.int .i64 0), (.int .i64 1)]) ∧ Hp [] w₀ w' [] := by
  refine Calls.ofWC (vs := [(.pointer none), (.int .i64 t), (.int .i64 size)]) (pre := []) (env := [(0, (.pointer none)), (1, (.int .i64 t)), (2, (.int .i64 size))]) Try.func16 rfl Try.ntmps16 rfl (Hp.nil w₀ _) rfl ?_
  refine WC.seq ?_
  refine WC.region ?_
  refine WL.new (dd := 4) rfl rfl rfl (e_box (cs := [(.int .i64 t)]) rfl rfl) ?_
  intro b1 _
  refine WL.quiet (d := 6) rfl rfl rfl (q_assign rfl) ?_
  refine WL.quiet (d := 7) rfl rfl rfl (q_assign rfl) ?_
  refine WL.nil ?_
  refine WX.then ?_
  refine WC.seq ?_
  refine WC.block ?_
  refine WC.seq ?_
  refine WC.region ?_
  refine WL.quiet (d := 9) rfl rfl rfl (q_move rfl) ?_
  refine WL.callD (dd := 10) rfl rfl rfl (run_call (l := [.tmp 9]) Try.call21 (.cons rfl .nil)) .nil (fun w hw => none_nil  (w₀ := w) ) ?_
  refine WL.quiet (d := 8) rfl rfl rfl (q_assign rfl) ?_
  refine WL.nil ?_
  refine WX.then ?_
  refine WC.cond rfl (fun h => ?_) (fun h => (by cases h))
  clear h
  refine WC.seq ?_
  refine WC.region ?_
  refine WL.quiet (d := 6) rfl rfl rfl (q_assign rfl) ?_
  refine WL.quiet (d := 7) rfl rfl rfl (q_assign rfl) ?_
  refine WL.nil ?_
  refine WX.then ?_
  refine WC.ret ?_
  refine WX.blockRet ?_
  refine WX.thenRet ?_
  refine WX.bpRet Try.results16 (.tmp rfl (.tmp rfl .nil)) (fun w hw => ?_)
  exact ⟨ret2 rfl rfl, (hw.sub .nil)⟩

set_option maxRecDepth 20000 in
theorem put_zero (b : Nat) (delay store now last : Int) (fr : Value) (t size : Int) (w₀ : World)
    (hown : Hp (fps [stb b 57 [(.int .i64 0), (.int .i64 delay), (.int .i64 store), (.int .i64 now), (.int .i64 last), fr]]) w₀ w₀ [stb b 57 [(.int .i64 0), (.int .i64 delay), (.int .i64 store), (.int .i64 now), (.int .i64 last), fr]]) :
    Calls Try.prog 16 #[(.pointer (some ⟨b, 0, none⟩)), (.int .i64 t), (.int .i64 size)] w₀ fun e w' => e = .returned (.tuple #[(.int .i64 0), (.int .i64 1)]) ∧ Hp (fps [stb b 57 [(.int .i64 0), (.int .i64 delay), (.int .i64 store), (.int .i64 now), (.int .i64 last), fr]]) w₀ w' [stb b 57 [(.int .i64 0), (.int .i64 delay), (.int .i64 store), (.int .i64 now), (.int .i64 last), fr]] := by
  refine Calls.ofWC (vs := [(.pointer (some ⟨b, 0, none⟩)), (.int .i64 t), (.int .i64 size)]) (pre := [stb b 57 [(.int .i64 0), (.int .i64 delay), (.int .i64 store), (.int .i64 now), (.int .i64 last), fr]]) (env := [(0, (.pointer (some ⟨b, 0, none⟩))), (1, (.int .i64 t)), (2, (.int .i64 size))]) Try.func16 rfl Try.ntmps16 rfl (hown) rfl ?_
  refine WC.seq ?_
  refine WC.region ?_
  refine WL.new (dd := 4) rfl rfl rfl (e_box (cs := [(.int .i64 t)]) rfl rfl) ?_
  intro b1 _
  refine WL.quiet (d := 6) rfl rfl rfl (q_assign rfl) ?_
  refine WL.quiet (d := 7) rfl rfl rfl (q_assign rfl) ?_
  refine WL.nil ?_
  refine WX.then ?_
  refine WC.seq ?_
  refine WC.block ?_
  refine WC.seq ?_
  refine WC.region ?_
  refine WL.quiet (d := 9) rfl rfl rfl (q_move rfl) ?_
  refine WL.callD (dd := 10) rfl rfl rfl (run_call (l := [.tmp 9]) Try.call21 (.cons rfl .nil)) .nil (fun w hw => none_no (A := ⟨b, 0, none⟩) (slow := 0) (delay := delay) (store := store) (now := now) (last := last) (fr := fr) (w₀ := w) (hw.cellsStb .nil (.there .here))) ?_
  refine WL.quiet (d := 8) rfl rfl rfl (q_assign rfl) ?_
  refine WL.nil ?_
  refine WX.then ?_
  refine WC.cond rfl (fun _ => ?_) (fun h => absurd (biffF (decide_eq_true_iff) h) (not_not_intro (by rfl)))
  refine WC.seq ?_
  refine WC.region ?_
  refine WL.quiet (d := 6) rfl rfl rfl (q_assign rfl) ?_
  refine WL.quiet (d := 7) rfl rfl rfl (q_assign rfl) ?_
  refine WL.nil ?_
  refine WX.then ?_
  refine WC.ret ?_
  refine WX.blockRet ?_
  refine WX.thenRet ?_
  refine WX.bpRet Try.results16 (.tmp rfl (.tmp rfl .nil)) (fun w hw => ?_)
  exact ⟨ret2 rfl rfl, (hw.sub (.cons (.there .here) .nil))⟩

set_option maxRecDepth 20000 in
theorem put_c (b : Nat) (slow delay store now last : Int) (ao : Option Addr) (m cap : Nat) (l : List Fr) (t size : Int) (w₀ : World)
    (hm : m = l.length)
    (hsz : ∀ x ∈ l, 1 ≤ x.size ∧ x.size ≤ 72)
    (hll : l.length ≤ 1099511627776)
    (hb : 1 ≤ slow ∧ slow ≤ 16 ∧ 0 ≤ delay ∧ delay ≤ 1000 ∧ 0 ≤ store ∧ store ≤ 1073741824 ∧ 0 ≤ now ∧ 0 ≤ last ∧ last ≤ 4611686018427387904)
    (hown : Hp (fps [stb b 57 [(.int .i64 slow), (.int .i64 delay), (.int .i64 store), (.int .i64 now), (.int .i64 last), (.slice ao m cap)], row (.slice ao m cap) 67 2 (l.flatMap frE)]) w₀ w₀ [stb b 57 [(.int .i64 slow), (.int .i64 delay), (.int .i64 store), (.int .i64 now), (.int .i64 last), (.slice ao m cap)], row (.slice ao m cap) 67 2 (l.flatMap frE)]) :
    Calls Try.prog 16 #[(.pointer (some ⟨b, 0, none⟩)), (.int .i64 t), (.int .i64 size)] w₀ fun e w' => ∃ r : Int, ∃ er : Int, ∃ now' : Int, ∃ last' : Int, ∃ l' : List Fr, ∃ ao' : Option Addr, ∃ cap' : Nat, ∃ m' : Nat, e = .returned (.tuple #[(.int .i64 r), (.int .i64 er)]) ∧ ((putR slow delay store now last l t size = (r, er, now', last', l')) ∧ (m' = l'.length) ∧ (er = 0 ∨ er = 2 ∨ er = 4)) ∧ Hp (fps [stb b 57 [(.int .i64 slow), (.int .i64 delay), (.int .i64 store), (.int .i64 now), (.int .i64 last), (.slice ao m cap)], row (.slice ao m cap) 67 2 (l.flatMap frE)]) w₀ w' [stb b 57 [(.int .i64 slow), (.int .i64 delay), (.int .i64 store), (.int .i64 now'), (.int .i64 last'), (.slice ao' m' cap')], row (.slice ao' m' cap') 67 2 (l'.flatMap frE)] := by
  refine Calls.ofWC (vs := [(.pointer (some ⟨b, 0, none⟩)), (.int .i64 t), (.int .i64 size)]) (pre := [stb b 57 [(.int .i64 slow), (.int .i64 delay), (.int .i64 store), (.int .i64 now), (.int .i64 last), (.slice ao m cap)], row (.slice ao m cap) 67 2 (l.flatMap frE)]) (env := [(0, (.pointer (some ⟨b, 0, none⟩))), (1, (.int .i64 t)), (2, (.int .i64 size))]) Try.func16 rfl Try.ntmps16 rfl (hown) rfl ?_
  refine WC.seq ?_
  refine WC.region ?_
  refine WL.new (dd := 4) rfl rfl rfl (e_box (cs := [(.int .i64 t)]) rfl rfl) ?_
  intro b1 _
  refine WL.quiet (d := 6) rfl rfl rfl (q_assign rfl) ?_
  refine WL.quiet (d := 7) rfl rfl rfl (q_assign rfl) ?_
  refine WL.nil ?_
  refine WX.then ?_
  refine WC.seq ?_
  refine WC.block ?_
  refine WC.seq ?_
  refine WC.region ?_
  refine WL.quiet (d := 9) rfl rfl rfl (q_move rfl) ?_
  refine WL.callD (dd := 10) rfl rfl rfl (run_call (l := [.tmp 9]) Try.call21 (.cons rfl .nil)) .nil (fun w hw => none_no (A := ⟨b, 0, none⟩) (slow := slow) (delay := delay) (store := store) (now := now) (last := last) (fr := (.slice ao m cap)) (w₀ := w) (hw.cellsStb .nil (.there .here))) ?_
  refine WL.quiet (d := 8) rfl rfl rfl (q_assign rfl) ?_
  refine WL.nil ?_
  refine WX.then ?_
  refine WC.cond rfl (fun h => absurd ((decide_eq_true_iff).1 h) (by omega)) (fun _ => ?_)
  refine WC.seq ?_
  refine WC.draw (fun i => [].contains i) [] rfl ?_
  refine WD.pure (i := 0) (d := 12) (by kernel_rfl) rfl (by kernel_rfl) (by kernel_rfl) rfl rfl rfl (fun _ => q_move rfl) ?_
  refine WD.pure (i := 1) (d := 13) (by kernel_rfl) rfl (by kernel_rfl) (by kernel_rfl) rfl rfl rfl (fun _ => q_lss rfl rfl) ?_
  refine WD.pure (i := 2) (d := 14) (by kernel_rfl) rfl (by kernel_rfl) (by kernel_rfl) rfl rfl rfl (fun _ => q_move rfl) ?_
  refine WD.mid (fuel' := 13) [(0, (.pointer (some ⟨b, 0, none⟩))), (1, (.int .i64 t)), (2, (.int .i64 size)), (4, (.pointer (some ⟨b1, 0, none⟩))), (6, (.int .i64 0)), (7, (.int .i64 0)), (9, (.pointer (some ⟨b, 0, none⟩))), (10, (.bool (decide (slow = 0)))), (8, (.bool (decide (slow = 0)))), (12, (.int .i64 size)), (13, (.bool (decide (size < 1)))), (14, (.bool (decide (size < 1)))), (17, (.bool ((decide (size < 1)) || (decide (size > 72)))))] (listedA 19 [5, 4, 3, 2, 1, 0]) ?_ (fun K3 => ?_)
  rotate_left
  · by_cases hb2 : size < 1
    · refine WD.pin (i := 14) rfl (bT (decide_eq_true_iff) hb2) ?_
      refine WD.skip (i := 3) (d := 15) (by kernel_rfl) rfl (by kernel_rfl) (by kernel_rfl) rfl rfl rfl ?_
      refine WD.skip (i := 4) (d := 16) (by kernel_rfl) rfl (by kernel_rfl) (by kernel_rfl) rfl rfl rfl ?_
      refine WD.pure (i := 5) (d := 17) (by kernel_rfl) rfl (by kernel_rfl) (by kernel_rfl) rfl rfl rfl (fun _ => q_pickT rfl rfl) ?_
      refine WD.restr ?_ K3
      exact (.cons rfl (.cons rfl (.cons rfl (.cons rfl (.cons rfl (.cons rfl (.cons rfl (.cons rfl (.cons rfl (.cons rfl (.cons rfl (.cons (some_bool (Eq.symm (bT (decide_eq_true_iff) hb2))) (.cons (some_bool (or_l (bT (decide_eq_true_iff) hb2))) .nil)))))))))))))
    · refine WD.pin (i := 14) rfl (bF (decide_eq_true_iff) hb2) ?_
      refine WD.pure (i := 3) (d := 15) (by kernel_rfl) rfl (by kernel_rfl) (by kernel_rfl) rfl rfl rfl (fun _ => q_move rfl) ?_
      refine WD.pure (i := 4) (d := 16) (by kernel_rfl) rfl (by kernel_rfl) (by kernel_rfl) rfl rfl rfl (fun _ => q_gtr rfl rfl) ?_
      refine WD.pure (i := 5) (d := 17) (by kernel_rfl) rfl (by kernel_rfl) (by kernel_rfl) rfl rfl rfl (fun _ => q_pickF rfl rfl) ?_
      refine WD.restr ?_ K3
      exact (.cons rfl (.cons rfl (.cons rfl (.cons rfl (.cons rfl (.cons rfl (.cons rfl (.cons rfl (.cons rfl (.cons rfl (.cons rfl (.cons (some_bool (Eq.symm (bF (decide_eq_true_iff) hb2))) (.cons (some_bool (or_r (bF (decide_eq_true_iff) hb2))) .nil)))))))))))))
  refine WD.pure (i := 6) (d := 18) (by kernel_rfl) rfl (by kernel_rfl) (by kernel_rfl) rfl rfl rfl (fun _ => q_move rfl) ?_
  refine WD.mid (fuel' := 5) [(0, (.pointer (some ⟨b, 0, none⟩))), (1, (.int .i64 t)), (2, (.int .i64 size)), (4, (.pointer (some ⟨b1, 0, none⟩))), (6, (.int .i64 0)), (7, (.int .i64 0)), (9, (.pointer (some ⟨b, 0, none⟩))), (10, (.bool (decide (slow = 0)))), (8, (.bool (decide (slow = 0)))), (12, (.int .i64 size)), (13, (.bool (decide (size < 1)))), (14, (.bool (decide (size < 1)))), (17, (.bool ((decide (size < 1)) || (decide (size > 72))))), (18, (.bool ((decide (size < 1)) || (decide (size > 72))))), (25, (.bool (((decide (size < 1)) || (decide (size > 72))) || (decide (t < now)))))] (listedA 19 [13, 12, 11, 10, 9, 8, 7, 6, 5, 4, 3, 2, 1, 0]) ?_ (fun K5 => ?_)
  rotate_left
  · by_cases hb4 : (size < 1) ∨ (size > 72)
    · refine WD.pin (i := 18) rfl (bT (biff_or (decide_eq_true_iff) (decide_eq_true_iff)) hb4) ?_
      refine WD.skip (i := 7) (d := 19) (by kernel_rfl) rfl (by kernel_rfl) (by kernel_rfl) rfl rfl rfl ?_
      refine WD.skip (i := 8) (d := 20) (by kernel_rfl) rfl (by kernel_rfl) (by kernel_rfl) rfl rfl rfl ?_
      refine WD.skip (i := 9) (d := 21) (by kernel_rfl) rfl (by kernel_rfl) (by kernel_rfl) rfl rfl rfl ?_
      refine WD.skip (i := 10) (d := 22) (by kernel_rfl) rfl (by kernel_rfl) (by kernel_rfl) rfl rfl rfl ?_
      refine WD.skip (i := 11) (d := 23) (by kernel_rfl) rfl (by kernel_rfl) (by kernel_rfl) rfl rfl rfl ?_
      refine WD.skip (i := 12) (d := 24) (by kernel_rfl) rfl (by kernel_rfl) (by kernel_rfl) rfl rfl rfl ?_
      refine WD.pure (i := 13) (d := 25) (by kernel_rfl) rfl (by kernel_rfl) (by kernel_rfl) rfl rfl rfl (fun _ => q_pickT rfl rfl) ?_
      refine WD.restr ?_ K5
      exact (.cons rfl (.cons rfl (.cons rfl (.cons rfl (.cons rfl (.cons rfl (.cons rfl (.cons rfl (.cons rfl (.cons rfl (.cons rfl (.cons rfl (.cons rfl (.cons (some_bool (Eq.symm (bT (biff_or (decide_eq_true_iff) (decide_eq_true_iff)) hb4))) (.cons (some_bool (or_l (bT (biff_or (decide_eq_true_iff) (decide_eq_true_iff)) hb4))) .nil)))))))))))))))
    · refine WD.pin (i := 18) rfl (bF (biff_or (decide_eq_true_iff) (decide_eq_true_iff)) hb4) ?_
      refine WD.quiet (i := 7) (d := 19) (by kernel_rfl) rfl (by kernel_rfl) (by kernel_rfl) rfl rfl rfl (q_load1 oneT_3 rfl (rd_stb .here rfl)) ?_
      refine WD.pure (i := 8) (d := 20) (by kernel_rfl) rfl (by kernel_rfl) (by kernel_rfl) rfl rfl rfl (fun _ => q_move rfl) ?_
      refine WD.pure (i := 9) (d := 21) (by kernel_rfl) rfl (by kernel_rfl) (by kernel_rfl) rfl rfl rfl (fun _ => q_nilCheck rfl) ?_
      refine WD.pure (i := 10) (d := 22) (by kernel_rfl) rfl (by kernel_rfl) (by kernel_rfl) rfl rfl rfl (fun _ => q_fieldAddr fo_57_1 rfl rfl) ?_
      refine WD.quiet (i := 11) (d := 23) (by kernel_rfl) rfl (by kernel_rfl) (by kernel_rfl) rfl rfl rfl (q_load1 oneT_3 rfl (rd_stb (.there .here) rfl)) ?_
      refine WD.pure (i := 12) (d := 24) (by kernel_rfl) rfl (by kernel_rfl) (by kernel_rfl) rfl rfl rfl (fun _ => q_lss rfl rfl) ?_
      refine WD.pure (i := 13) (d := 25) (by kernel_rfl) rfl (by kernel_rfl) (by kernel_rfl) rfl rfl rfl (fun _ => q_pickF rfl rfl) ?_
      refine WD.restr ?_ K5
      exact (.cons rfl (.cons rfl (.cons rfl (.cons rfl (.cons rfl (.cons rfl (.cons rfl (.cons rfl (.cons rfl (.cons rfl (.cons rfl (.cons rfl (.cons rfl (.cons (some_bool (Eq.symm (bF (biff_or (decide_eq_true_iff) (decide_eq_true_iff)) hb4))) (.cons (some_bool (or_r (bF (biff_or (decide_eq_true_iff) (decide_eq_true_iff)) hb4))) .nil)))))))))))))))
  refine WD.pure (i := 14) (d := 26) (by kernel_rfl) rfl (by kernel_rfl) (by kernel_rfl) rfl rfl rfl (fun _ => q_move rfl) ?_
  refine WD.mid (fuel' := 1) [(0, (.pointer (some ⟨b, 0, none⟩))), (1, (.int .i64 t)), (2, (.int .i64 size)), (4, (.pointer (some ⟨b1, 0, none⟩))), (6, (.int .i64 0)), (7, (.int .i64 0)), (9, (.pointer (some ⟨b, 0, none⟩))), (10, (.bool (decide (slow = 0)))), (8, (.bool (decide (slow = 0)))), (12, (.int .i64 size)), (13, (.bool (decide (size < 1)))), (14, (.bool (decide (size < 1)))), (17, (.bool ((decide (size < 1)) || (decide (size > 72))))), (18, (.bool ((decide (size < 1)) || (decide (size > 72))))), (25, (.bool (((decide (size < 1)) || (decide (size > 72))) || (decide (t < now))))), (26, (.bool (((decide (size < 1)) || (decide (size > 72))) || (decide (t < now))))), (29, (.bool ((((decide (size < 1)) || (decide (size > 72))) || (decide (t < now))) || (decide (t > 1073741824)))))] (listedA 19 [17, 16, 15, 14, 13, 12, 11, 10, 9, 8, 7, 6, 5, 4, 3, 2, 1, 0]) ?_ (fun K7 => ?_)
  rotate_left
  · by_cases hb6 : ((size < 1) ∨ (size > 72)) ∨ (t < now)
    · refine WD.pin (i := 26) rfl (bT (biff_or (biff_or (decide_eq_true_iff) (decide_eq_true_iff)) (decide_eq_true_iff)) hb6) ?_
      refine WD.skip (i := 15) (d := 27) (by kernel_rfl) rfl (by kernel_rfl) (by kernel_rfl) rfl rfl rfl ?_
      refine WD.skip (i := 16) (d := 28) (by kernel_rfl) rfl (by kernel_rfl) (by kernel_rfl) rfl rfl rfl ?_
      refine WD.pure (i := 17) (d := 29) (by kernel_rfl) rfl (by kernel_rfl) (by kernel_rfl) rfl rfl rfl (fun _ => q_pickT rfl rfl) ?_
      refine WD.restr ?_ K7
      exact (.cons rfl (.cons rfl (.cons rfl (.cons rfl (.cons rfl (.cons rfl (.cons rfl (.cons rfl (.cons rfl (.cons rfl (.cons rfl (.cons rfl (.cons rfl (.cons rfl (.cons rfl (.cons (some_bool (Eq.symm (bT (biff_or (biff_or (decide_eq_true_iff) (decide_eq_true_iff)) (decide_eq_true_iff)) hb6))) (.cons (some_bool (or_l (bT (biff_or (biff_or (decide_eq_true_iff) (decide_eq_true_iff)) (decide_eq_true_iff)) hb6))) .nil)))))))))))))))))
    · refine WD.pin (i := 26) rfl (bF (biff_or (biff_or (decide_eq_true_iff) (decide_eq_true_iff)) (decide_eq_true_iff)) hb6) ?_
      refine WD.quiet (i := 15) (d := 27) (by kernel_rfl) rfl (by kernel_rfl) (by kernel_rfl) rfl rfl rfl (q_load1 oneT_3 rfl (rd_stb .here rfl)) ?_
      refine WD.pure (i := 16) (d := 28) (by kernel_rfl) rfl (by kernel_rfl) (by kernel_rfl) rfl rfl rfl (fun _ => q_gtr rfl rfl) ?_
      refine WD.pure (i := 17) (d := 29) (by kernel_rfl) rfl (by kernel_rfl) (by kernel_rfl) rfl rfl rfl (fun _ => q_pickF rfl rfl) ?_
      refine WD.restr ?_ K7
      exact (.cons rfl (.cons rfl (.cons rfl (.cons rfl (.cons rfl (.cons rfl (.cons rfl (.cons rfl (.cons rfl (.cons rfl (.cons rfl (.cons rfl (.cons rfl (.cons rfl (.cons rfl (.cons (some_bool (Eq.symm (bF (biff_or (biff_or (decide_eq_true_iff) (decide_eq_true_iff)) (decide_eq_true_iff)) hb6))) (.cons (some_bool (or_r (bF (biff_or (biff_or (decide_eq_true_iff) (decide_eq_true_iff)) (decide_eq_true_iff)) hb6))) .nil)))))))))))))))))
  refine WD.pure (i := 18) (d := 11) (by kernel_rfl) rfl (by kernel_rfl) (by kernel_rfl) rfl rfl rfl (fun _ => q_assign rfl) ?_
  refine WD.done (by kernel_rfl) ?_
  refine WX.then ?_
  refine WC.cond rfl (fun h => ?_) (fun h => ?_)
  · have hc8 : (((size < 1) ∨ (size > 72)) ∨ (t < now)) ∨ (t > 1073741824) := ((biff_or (biff_or (biff_or (decide_eq_true_iff) (decide_eq_true_iff)) (decide_eq_true_iff)) (decide_eq_true_iff))).1 h; clear h
    refine WC.seq ?_
    refine WC.region ?_
    refine WL.quiet (d := 6) rfl rfl rfl (q_assign rfl) ?_
    refine WL.quiet (d := 7) rfl rfl rfl (q_assign rfl) ?_
    refine WL.nil ?_
    refine WX.then ?_
    refine WC.ret ?_
    refine WX.blockRet ?_
    refine WX.thenRet ?_
    refine WX.bpRet Try.results16 (.tmp rfl (.tmp rfl .nil)) (fun w hw => ?_)
    exact ⟨0, 2, now, last, l, ao, cap, m, ret2 rfl rfl, ⟨(by unfold putR; first | (rw [if_pos (by omega)]; done) | (rw [if_neg (by omega), if_pos (by rw [← hl1]; omega), ← hl1]; done) | (rw [if_neg (by omega), if_neg (by rw [← hl1]; omega), ← hl1]; done)), (by first | omega | (simp; omega)), (by omega)⟩, (hw.sub (.cons (.there .here) (.cons (.there .here) .nil)))⟩
  · have hc8 : ¬ ((((size < 1) ∨ (size > 72)) ∨ (t < now)) ∨ (t > 1073741824)) := biffF (biff_or (biff_or (biff_or (decide_eq_true_iff) (decide_eq_true_iff)) (decide_eq_true_iff)) (decide_eq_true_iff)) h; clear h
    have hmu := mul_bd (a := size) (b := slow) (A := 72) (B := 16) (by omega) (by omega) (by omega) (by omega)
    refine WC.skip ?_
    refine WX.blockNormal ?_
    refine WX.then ?_
    refine WC.seq ?_
    refine WC.region ?_
    refine WL.quiet (d := 30) rfl rfl rfl (q_move rfl) ?_
    refine WL.quiet (d := 31) rfl rfl rfl (q_load1 oneT_3 rfl (rd_stb .here rfl)) ?_
    refine WL.quiet (d := 32) rfl rfl rfl (q_nilCheck rfl) ?_
    refine WL.quiet (d := 33) rfl rfl rfl (q_fieldAddr fo_57_1 rfl rfl) ?_
    refine WL.eff0 rfl rfl (e_store (vs := [(.int .i64 t)]) (ds := [(.int .i64 slow), (.int .i64 delay), (.int .i64 store), (.int .i64 t), (.int .i64 last), (.slice ao m cap)]) sizT_3 rfl rfl rfl rfl (oc_cons rfl oc_nil) (.there .here) (Nat.le_of_ble_eq_true rfl) rfl) ?_
    refine WL.nil ?_
    refine WX.then ?_
    refine WC.seq ?_
    refine WC.region ?_
    refine WL.quiet (d := 34) rfl rfl rfl (q_move rfl) ?_
    refine WL.quiet (d := 35) rfl rfl rfl (q_move rfl) ?_
    refine WL.quiet (d := 36) rfl rfl rfl (q_nilCheck rfl) ?_
    refine WL.quiet (d := 37) rfl rfl rfl (q_fieldAddr fo_57_3 rfl rfl) ?_
    refine WL.quiet (d := 38) rfl rfl rfl (q_load1 oneT_55 rfl (rd_stb .here rfl)) ?_
    refine WL.quiet (d := 39) rfl rfl rfl (q_makeFunc (Eos.caps (l := [.tmp 4]) (.cons rfl .nil))) ?_
    refine WL.enter4 (dd := 40) rfl rfl rfl (run_call (l := [.tmp 38, .tmp 39]) Try.call24 (.cons rfl (.cons rfl .nil))) (.cons (.there (.there .here)) .nil) (fun w hw => del_c (ao := ao) (m := m) (cap := cap) (l := l) (fid := 25) (caps := [(.pointer (some ⟨b1, 0, none⟩))]) (p := (fun x : Fr => decide (x.fin ≤ t))) (w₀ := w) (by omega) (by omega) Try.call25 (fun w' hk x => put1 ⟨b1, 0, none⟩ t x w' ((hw.cellsStb (.cons (.there (.there .here)) .nil) (.there .here)).keep hk)) (hw.owns (.cons (.there (.there .here)) .nil))) ?_
    rintro ao'9 m'10 cap'11 l'12 ⟨hhl13, hhm14⟩
    have hsz1 : ∀ x ∈ l'12, 1 ≤ x.size ∧ x.size ≤ 72 := by rw [hhl13]; exact sz_filter hsz
    have hll1 : l'12.length ≤ 1099511627776 := by rw [hhl13]; exact Nat.le_trans (List.length_filter_le _ _) hll
    have hl1 := hhl13
    have hbd1 := sumF_bd (fun x => decide (x.fin > max t t)) l'12 hsz1
    refine WL.quiet (d := 41) rfl rfl rfl (q_nilCheck rfl) ?_
    refine WL.quiet (d := 42) rfl rfl rfl (q_fieldAddr fo_57_3 rfl rfl) ?_
    refine WL.eff0 rfl rfl (e_store (vs := [(.slice ao'9 m'10 cap'11)]) (ds := [(.int .i64 slow), (.int .i64 delay), (.int .i64 store), (.int .i64 t), (.int .i64 last), (.slice ao'9 m'10 cap'11)]) sizT_55 rfl rfl rfl rfl (oc_cons rfl oc_nil) (.there .here) (Nat.le_of_ble_eq_true rfl) rfl) ?_
    refine WL.nil ?_
    refine WX.then ?_
    refine WC.seq ?_
    refine WC.seq ?_
    refine WC.draw (fun i => [].contains i) [] rfl ?_
    refine WD.pure (i := 0) (d := 43) (by kernel_rfl) rfl (by kernel_rfl) (by kernel_rfl) rfl rfl rfl (fun _ => q_move rfl) ?_
    refine WD.quiet (i := 1) (d := 44) (by kernel_rfl) rfl (by kernel_rfl) (by kernel_rfl) rfl rfl rfl (q_load1 oneT_3 rfl (rd_stb (.there (.there .here)) rfl)) ?_
    refine WD.enter (i := 2) (d := 45) (by kernel_rfl) rfl (by kernel_rfl) (by kernel_rfl) rfl rfl rfl (run_call (l := [.tmp 43, .tmp 44]) Try.call12 (.cons rfl (.cons rfl .nil))) (fun w hw => held_c (A := ⟨b, 0, none⟩) (slow := slow) (delay := delay) (store := store) (now := t) (last := last) (ao := ao'9) (m := m'10) (cap := cap'11) (l := l'12) (t := t) (w₀ := w) (hw.cellsStb .nil .here) (hw.slpRow .nil (.there .here) (fun _ _ => rfl) (by decide)) (by first | assumption | (simp; done)) (by first | omega | (simp; done)) (by omega)) ?_
    refine WD.pure (i := 3) (d := 46) (by kernel_rfl) rfl (by kernel_rfl) (by kernel_rfl) rfl rfl rfl (fun _ => q_move rfl) ?_
    refine WD.pure (i := 4) (d := 47) (by kernel_rfl) rfl (by kernel_rfl) (by kernel_rfl) rfl rfl rfl (fun _ => q_add rfl rfl (w64 (by omega))) ?_
    refine WD.pure (i := 5) (d := 48) (by kernel_rfl) rfl (by kernel_rfl) (by kernel_rfl) rfl rfl rfl (fun _ => q_move rfl) ?_
    refine WD.pure (i := 6) (d := 49) (by kernel_rfl) rfl (by kernel_rfl) (by kernel_rfl) rfl rfl rfl (fun _ => q_nilCheck rfl) ?_
    refine WD.pure (i := 7) (d := 50) (by kernel_rfl) rfl (by kernel_rfl) (by kernel_rfl) rfl rfl rfl (fun _ => q_fieldAddr fo_57_0 rfl rfl) ?_
    refine WD.pure (i := 8) (d := 51) (by kernel_rfl) rfl (by kernel_rfl) (by kernel_rfl) rfl rfl rfl (fun _ => q_fieldAddr fo_54_2 rfl rfl) ?_
    refine WD.quiet (i := 9) (d := 52) (by kernel_rfl) rfl (by kernel_rfl) (by kernel_rfl) rfl rfl rfl (q_load1 oneT_3 rfl (rd_stb .here rfl)) ?_
    refine WD.pure (i := 10) (d := 53) (by kernel_rfl) rfl (by kernel_rfl) (by kernel_rfl) rfl rfl rfl (fun _ => q_gtr rfl rfl) ?_
    refine WD.done (by kernel_rfl) ?_
    refine WX.then ?_
    refine WC.cond rfl (fun h => ?_) (fun h => ?_)
    · have hc15 : ((sumF (fun x => decide (x.fin > max t t)) l'12) + size) > store := ((decide_eq_true_iff)).1 h; clear h
      refine WC.seq ?_
      refine WC.region ?_
      refine WL.quiet (d := 6) rfl rfl rfl (q_assign rfl) ?_
      refine WL.quiet (d := 7) rfl rfl rfl (q_assign rfl) ?_
      refine WL.nil ?_
      refine WX.then ?_
      refine WC.ret ?_
      refine WX.thenRet ?_
      refine WX.bpRet Try.results16 (.tmp rfl (.tmp rfl .nil)) (fun w hw => ?_)
      exact ⟨0, 4, t, last, l'12, ao'9, cap'11, m'10, ret2 rfl rfl, ⟨(by unfold putR; first | (rw [if_pos (by omega)]; done) | (rw [if_neg (by omega), if_pos (by rw [← hl1]; omega), ← hl1]; done) | (rw [if_neg (by omega), if_neg (by rw [← hl1]; omega), ← hl1]; done)), (by first | omega | (simp; omega)), (by omega)⟩, (hw.sub (.cons .here (.cons .here .nil)))⟩
    · have hc15 : ¬ (((sumF (fun x => decide (x.fin > max t t)) l'12) + size) > store) := biffF (decide_eq_true_iff) h; clear h
      refine WC.skip ?_
      refine WX.then ?_
      refine WC.seq ?_
      refine WC.draw (fun i => [23].contains i) [] rfl ?_
      refine WD.pure (i := 0) (d := 54) (by kernel_rfl) rfl (by kernel_rfl) (by kernel_rfl) rfl rfl rfl (fun _ => q_move rfl) ?_
      refine WD.quiet (i := 1) (d := 55) (by kernel_rfl) rfl (by kernel_rfl) (by kernel_rfl) rfl rfl rfl (q_load1 oneT_3 rfl (rd_stb (.there (.there .here)) rfl)) ?_
      refine WD.pure (i := 2) (d := 56) (by kernel_rfl) rfl (by kernel_rfl) (by kernel_rfl) rfl rfl rfl (fun _ => q_move rfl) ?_
      refine WD.pure (i := 3) (d := 57) (by kernel_rfl) rfl (by kernel_rfl) (by kernel_rfl) rfl rfl rfl (fun _ => q_nilCheck rfl) ?_
      refine WD.pure (i := 4) (d := 58) (by kernel_rfl) rfl (by kernel_rfl) (by kernel_rfl) rfl rfl rfl (fun _ => q_fieldAddr fo_57_0 rfl rfl) ?_
      refine WD.pure (i := 5) (d := 59) (by kernel_rfl) rfl (by kernel_rfl) (by kernel_rfl) rfl rfl rfl (fun _ => q_fieldAddr fo_54_1 rfl rfl) ?_
      refine WD.quiet (i := 6) (d := 60) (by kernel_rfl) rfl (by kernel_rfl) (by kernel_rfl) rfl rfl rfl (q_load1 oneT_3 rfl (rd_stb .here rfl)) ?_
      refine WD.pure (i := 7) (d := 61) (by kernel_rfl) rfl (by kernel_rfl) (by kernel_rfl) rfl rfl rfl (fun _ => q_add rfl rfl (w64 (by omega))) ?_
      refine WD.pure (i := 8) (d := 62) (by kernel_rfl) rfl (by kernel_rfl) (by kernel_rfl) rfl rfl rfl (fun _ => q_move rfl) ?_
      refine WD.pure (i := 9) (d := 63) (by kernel_rfl) rfl (by kernel_rfl) (by kernel_rfl) rfl rfl rfl (fun _ => q_nilCheck rfl) ?_
      refine WD.pure (i := 10) (d := 64) (by kernel_rfl) rfl (by kernel_rfl) (by kernel_rfl) rfl rfl rfl (fun _ => q_fieldAddr fo_57_2 rfl rfl) ?_
      refine WD.quiet (i := 11) (d := 65) (by kernel_rfl) rfl (by kernel_rfl) (by kernel_rfl) rfl rfl rfl (q_load1 oneT_3 rfl (rd_stb .here rfl)) ?_
      refine WD.pure (i := 12) (d := 66) (by kernel_rfl) rfl (by kernel_rfl) (by kernel_rfl) rfl rfl rfl (fun _ => q_max rfl rfl rfl) ?_
      refine WD.pure (i := 13) (d := 67) (by kernel_rfl) rfl (by kernel_rfl) (by kernel_rfl) rfl rfl rfl (fun _ => q_move rfl) ?_
      refine WD.pure (i := 14) (d := 68) (by kernel_rfl) rfl (by kernel_rfl) (by kernel_rfl) rfl rfl rfl (fun _ => q_move rfl) ?_
      refine WD.pure (i := 15) (d := 69) (by kernel_rfl) rfl (by kernel_rfl) (by kernel_rfl) rfl rfl rfl (fun _ => q_nilCheck rfl) ?_
      refine WD.pure (i := 16) (d := 70) (by kernel_rfl) rfl (by kernel_rfl) (by kernel_rfl) rfl rfl rfl (fun _ => q_fieldAddr fo_57_0 rfl rfl) ?_
      refine WD.pure (i := 17) (d := 71) (by kernel_rfl) rfl (by kernel_rfl) (by kernel_rfl) rfl rfl rfl (fun _ => q_fieldAddr fo_54_0 rfl rfl) ?_
      refine WD.quiet (i := 18) (d := 72) (by kernel_rfl) rfl (by kernel_rfl) (by kernel_rfl) rfl rfl rfl (q_load1 oneT_3 rfl (rd_stb .here rfl)) ?_
      refine WD.pure (i := 19) (d := 73) (by kernel_rfl) rfl (by kernel_rfl) (by kernel_rfl) rfl rfl rfl (fun _ => q_mul rfl rfl (w64 (by omega))) ?_
      refine WD.pure (i := 20) (d := 74) (by kernel_rfl) rfl (by kernel_rfl) (by kernel_rfl) rfl rfl rfl (fun _ => q_add rfl rfl (w64 (by omega))) ?_
      refine WD.pure (i := 21) (d := 75) (by kernel_rfl) rfl (by kernel_rfl) (by kernel_rfl) rfl rfl rfl (fun _ => q_nilCheck rfl) ?_
      refine WD.pure (i := 22) (d := 76) (by kernel_rfl) rfl (by kernel_rfl) (by kernel_rfl) rfl rfl rfl (fun _ => q_fieldAddr fo_57_2 rfl rfl) ?_
      refine WD.forced0 (i := 23) rfl (by kernel_rfl) rfl rfl rfl ⟨_, .nil⟩ (e_store (vs := [(.int .i64 ((max (t + delay) last) + (size * slow)))]) (ds := [(.int .i64 slow), (.int .i64 delay), (.int .i64 store), (.int .i64 t), (.int .i64 ((max (t + delay) last) + (size * slow))), (.slice ao'9 m'10 cap'11)]) sizT_3 rfl rfl rfl rfl (oc_cons rfl oc_nil) .here (Nat.le_of_ble_eq_true rfl) rfl) ?_
      refine WD.done (by kernel_rfl) ?_
      refine WX.then ?_
      refine WC.seq ?_
      refine WC.draw (fun i => [12, 15].contains i) [] rfl ?_
      refine WD.pure (i := 0) (d := 77) (by kernel_rfl) rfl (by kernel_rfl) (by kernel_rfl) rfl rfl rfl (fun _ => q_move rfl) ?_
      refine WD.pure (i := 1) (d := 78) (by kernel_rfl) rfl (by kernel_rfl) (by kernel_rfl) rfl rfl rfl (fun _ => q_move rfl) ?_
      refine WD.pure (i := 2) (d := 79) (by kernel_rfl) rfl (by kernel_rfl) (by kernel_rfl) rfl rfl rfl (fun _ => q_nilCheck rfl) ?_
      refine WD.pure (i := 3) (d := 80) (by kernel_rfl) rfl (by kernel_rfl) (by kernel_rfl) rfl rfl rfl (fun _ => q_fieldAddr fo_57_3 rfl rfl) ?_
      refine WD.quiet (i := 4) (d := 81) (by kernel_rfl) rfl (by kernel_rfl) (by kernel_rfl) rfl rfl rfl (q_load1 oneT_55 rfl (rd_stb .here rfl)) ?_
      refine WD.pure (i := 5) (d := 82) (by kernel_rfl) rfl (by kernel_rfl) (by kernel_rfl) rfl rfl rfl (fun _ => q_move rfl) ?_
      refine WD.pure (i := 6) (d := 83) (by kernel_rfl) rfl (by kernel_rfl) (by kernel_rfl) rfl rfl rfl (fun _ => q_move rfl) ?_
      refine WD.pure (i := 7) (d := 84) (by kernel_rfl) rfl (by kernel_rfl) (by kernel_rfl) rfl rfl rfl (fun _ => q_nilCheck rfl) ?_
      refine WD.pure (i := 8) (d := 85) (by kernel_rfl) rfl (by kernel_rfl) (by kernel_rfl) rfl rfl rfl (fun _ => q_fieldAddr fo_57_2 rfl rfl) ?_
      refine WD.quiet (i := 9) (d := 86) (by kernel_rfl) rfl (by kernel_rfl) (by kernel_rfl) rfl rfl rfl (q_load1 oneT_3 rfl (rd_stb .here rfl)) ?_
      refine WD.quiet (i := 10) (d := 87) (by kernel_rfl) rfl (by kernel_rfl) (by kernel_rfl) rfl rfl rfl (q_build (v := (.agg #[(.int .i64 size), (.int .i64 ((max (t + delay) last) + (size * slow)))])) (Eos.parts (l := [.tmp 82, .tmp 86]) (.cons rfl (.cons rfl .nil)) [0, 1]) (fun _ => by kernel_rfl)) ?_
      refine WD.new (i := 11) (dd := 88) rfl (by kernel_rfl) rfl rfl rfl (e_buildSlice (cs := [(.int .i64 size), (.int .i64 ((max (t + delay) last) + (size * slow)))]) elT_55 (Eos.parts (l := [.tmp 87]) (.cons rfl .nil) [0]) (fun _ => by kernel_rfl) rfl (by unfold maxLen; omega)) (fun h => absurd h (by decide)) ?_
      intro b16 _
      refine WD.old (i := 12) (dd := 89) rfl (by kernel_rfl) rfl rfl rfl rfl (fun _ => ⟨_, .nil⟩) (e_append elT_55 rfl rfl (.there (.there .here)) (by rfl) (news_row .here) (oc_cons rfl (oc_cons rfl oc_nil)) (by unfold maxLen; omega) (by omega)) ?_
      rintro ⟨ao17, cap18⟩ _
      refine WD.rowEq .here (show _ = (l'12 ++ [(⟨size, (max (t + delay) last) + (size * slow)⟩ : Fr)]).flatMap frE from by simp [frE]) ?_
      refine WD.pure (i := 13) (d := 90) (by kernel_rfl) rfl (by kernel_rfl) (by kernel_rfl) rfl rfl rfl (fun _ => q_nilCheck rfl) ?_
      refine WD.pure (i := 14) (d := 91) (by kernel_rfl) rfl (by kernel_rfl) (by kernel_rfl) rfl rfl rfl (fun _ => q_fieldAddr fo_57_3 rfl rfl) ?_
      refine WD.forced0 (i := 15) rfl (by kernel_rfl) rfl rfl rfl ⟨_, .nil⟩ (e_store (vs := [(.slice ao17 (m'10 + 1) cap18)]) (ds := [(.int .i64 slow), (.int .i64 delay), (.int .i64 store), (.int .i64 t), (.int .i64 ((max (t + delay) last) + (size * slow))), (.slice ao17 (m'10 + 1) cap18)]) sizT_55 rfl rfl rfl rfl (oc_cons rfl oc_nil) (.there (.there .here)) (Nat.le_of_ble_eq_true rfl) rfl) ?_
      refine WD.done (by kernel_rfl) ?_
      refine WX.then ?_
      refine WC.seq ?_
      refine WC.region ?_
      refine WL.quiet (d := 92) rfl rfl rfl (q_move rfl) ?_
      refine WL.quiet (d := 93) rfl rfl rfl (q_nilCheck rfl) ?_
      refine WL.quiet (d := 94) rfl rfl rfl (q_fieldAddr fo_57_2 rfl rfl) ?_
      refine WL.quiet (d := 95) rfl rfl rfl (q_load1 oneT_3 rfl (rd_stb .here rfl)) ?_
      refine WL.quiet (d := 6) rfl rfl rfl (q_assign rfl) ?_
      refine WL.quiet (d := 7) rfl rfl rfl (q_assign rfl) ?_
      refine WL.nil ?_
      refine WX.then ?_
      refine WC.ret ?_
      refine WX.bpRet Try.results16 (.tmp rfl (.tmp rfl .nil)) (fun w hw => ?_)
      exact ⟨((max (t + delay) last) + (size * slow)), 0, t, ((max (t + delay) last) + (size * slow)), (l'12 ++ [(⟨size, (max (t + delay) last) + (size * slow)⟩ : Fr)]), ao17, cap18, (m'10 + 1), ret2 rfl rfl, ⟨(by unfold putR; first | (rw [if_pos (by omega)]; done) | (rw [if_neg (by omega), if_pos (by rw [← hl1]; omega), ← hl1]; done) | (rw [if_neg (by omega), if_neg (by rw [← hl1]; omega), ← hl1]; done)), (by first | omega | (simp; omega)), (by omega)⟩, (hw.sub (.cons .here (.cons .here .nil)))⟩

set_option maxRecDepth 20000 in
theorem lput_c (b : Nat) (slow delay store now last : Int) (ao : Option Addr) (m cap : Nat) (l : List Fr) (t size : Int) (w₀ : World)
    (hm : m = l.length)
    (hsz : ∀ x ∈ l, 1 ≤ x.size ∧ x.size ≤ 72)
    (hll : l.length ≤ 1099511627776)
    (hb : 1 ≤ slow ∧ slow ≤ 16 ∧ 0 ≤ delay ∧ delay ≤ 1000 ∧ 0 ≤ store ∧ store ≤ 1073741824 ∧ 0 ≤ now ∧ 0 ≤ last ∧ last ≤ 4611686018427387904)
    (hown : Hp (fps [stb b 57 [(.int .i64 slow), (.int .i64 delay), (.int .i64 store), (.int .i64 now), (.int .i64 last), (.slice ao m cap)], row (.slice ao m cap) 67 2 (l.flatMap frE)]) w₀ w₀ [stb b 57 [(.int .i64 slow), (.int .i64 delay), (.int .i64 store), (.int .i64 now), (.int .i64 last), (.slice ao m cap)], row (.slice ao m cap) 67 2 (l.flatMap frE)]) :
    Calls Try.prog 19 #[(.pointer (some ⟨b, 0, none⟩)), (.int .i64 t), (.int .i64 size)] w₀ fun e w' => ∃ q : Int, ∃ r : Int, ∃ er : Int, ∃ now' : Int, ∃ last' : Int, ∃ l' : List Fr, ∃ ao' : Option Addr, ∃ cap' : Nat, ∃ m' : Nat, e = .returned (.int .i64 q) ∧ ((putR slow delay store now last l t size = (r, er, now', last', l')) ∧ (m' = l'.length) ∧ (er = 0 ∨ er = 2 ∨ er = 4) ∧ (q = if er = 0 then r else 0 - er)) ∧ Hp (fps [stb b 57 [(.int .i64 slow), (.int .i64 delay), (.int .i64 store), (.int .i64 now), (.int .i64 last), (.slice ao m cap)], row (.slice ao m cap) 67 2 (l.flatMap frE)]) w₀ w' [stb b 57 [(.int .i64 slow), (.int .i64 delay), (.int .i64 store), (.int .i64 now'), (.int .i64 last'), (.slice ao' m' cap')], row (.slice ao' m' cap') 67 2 (l'.flatMap frE)] := by
  refine Calls.ofWC (vs := [(.pointer (some ⟨b, 0, none⟩)), (.int .i64 t), (.int .i64 size)]) (pre := [stb b 57 [(.int .i64 slow), (.int .i64 delay), (.int .i64 store), (.int .i64 now), (.int .i64 last), (.slice ao m cap)], row (.slice ao m cap) 67 2 (l.flatMap frE)]) (env := [(0, (.pointer (some ⟨b, 0, none⟩))), (1, (.int .i64 t)), (2, (.int .i64 size))]) Try.func19 rfl Try.ntmps19 rfl (hown) rfl ?_
  refine WC.seq ?_
  refine WC.region ?_
  refine WL.quiet (d := 6) rfl rfl rfl (q_assign rfl) ?_
  refine WL.nil ?_
  refine WX.then ?_
  refine WC.seq ?_
  refine WC.region ?_
  refine WL.quiet (d := 10) rfl rfl rfl (q_move rfl) ?_
  refine WL.quiet (d := 11) rfl rfl rfl (q_move rfl) ?_
  refine WL.quiet (d := 12) rfl rfl rfl (q_move rfl) ?_
  refine WL.enter8 (dd := 13) rfl rfl rfl (run_call (l := [.tmp 10, .tmp 11, .tmp 12]) Try.call16 (.cons rfl (.cons rfl (.cons rfl .nil)))) (.cons .here (.cons .here .nil)) (fun w hw => put_c (b := b) (slow := slow) (delay := delay) (store := store) (now := now) (last := last) (ao := ao) (m := m) (cap := cap) (l := l) (t := t) (size := size) (w₀ := w) (by first | omega | (simp; done)) (by first | assumption | (simp; done)) (by first | omega | (simp; done)) (by omega) (hw.owns (.cons .here (.cons .here .nil)))) ?_
  rintro r1 er2 now'3 last'4 l'5 ao'6 cap'7 m'8 ⟨hhr9, hhm10, hhe11⟩
  have hr1 := hhr9; have he1 := hhe11; have hm1 := hhm10
  refine WL.quiet (d := 9) rfl rfl rfl (q_move rfl) ?_
  refine WL.quiet (d := 14) rfl rfl rfl (q_extract rfl rfl) ?_
  refine WL.quiet (d := 15) rfl rfl rfl (q_extract rfl rfl) ?_
  refine WL.quiet (d := 7) rfl rfl rfl (q_assign rfl) ?_
  refine WL.quiet (d := 8) rfl rfl rfl (q_assign rfl) ?_
  refine WL.nil ?_
  refine WX.then ?_
  refine WC.seq ?_
  refine WC.seq ?_
  refine WC.region ?_
  refine WL.quiet (d := 16) rfl rfl rfl (q_move rfl) ?_
  refine WL.quiet (d := 17) rfl rfl rfl (q_neq rfl rfl) ?_
  refine WL.nil ?_
  refine WX.then ?_
  refine WC.cond rfl (fun h => ?_) (fun h => ?_)
  · have hc12 : er2 ≠ 0 := ((decide_eq_true_iff)).1 h; clear h
    refine WC.seq ?_
    refine WC.region ?_
    refine WL.quiet (d := 18) rfl rfl rfl (q_move rfl) ?_
    refine WL.quiet (d := 19) rfl rfl rfl (q_neg rfl (w64 (by omega))) ?_
    refine WL.quiet (d := 6) rfl rfl rfl (q_assign rfl) ?_
    refine WL.nil ?_
    refine WX.then ?_
    refine WC.ret ?_
    refine WX.thenRet ?_
    refine WX.bpRet Try.results19 (.tmp rfl .nil) (fun w hw => ?_)
    exact ⟨(0 - er2), r1, er2, now'3, last'4, l'5, ao'6, cap'7, m'8, ret1 rfl, ⟨(by exact hr1), (by exact hm1), (by exact he1), (by split <;> omega)⟩, (hw.sub (.cons .here (.cons .here .nil)))⟩
  · have hc12 : ¬ (er2 ≠ 0) := biffF (decide_eq_true_iff) h; clear h
    refine WC.skip ?_
    refine WX.then ?_
    refine WC.seq ?_
    refine WC.region ?_
    refine WL.quiet (d := 20) rfl rfl rfl (q_move rfl) ?_
    refine WL.quiet (d := 6) rfl rfl rfl (q_assign rfl) ?_
    refine WL.nil ?_
    refine WX.then ?_
    refine WC.ret ?_
    refine WX.bpRet Try.results19 (.tmp rfl .nil) (fun w hw => ?_)
    exact ⟨r1, r1, er2, now'3, last'4, l'5, ao'6, cap'7, m'8, ret1 rfl, ⟨(by exact hr1), (by exact hm1), (by exact he1), (by split <;> omega)⟩, (hw.sub (.cons .here (.cons .here .nil)))⟩

set_option maxRecDepth 20000 in
theorem rnew_bad (slow delay store : Int) (w₀ : World)
    (hb : slow < 1 ∨ slow > 16 ∨ delay < 0 ∨ delay > 1000 ∨ store < 0 ∨ store > 1073741824) :
    Calls Try.prog 10 #[(.int .i64 slow), (.int .i64 delay), (.int .i64 store)] w₀ fun e w' => e = .returned (.tuple #[(.agg #[(.int .i64 0), (.int .i64 0), (.int .i64 0), (.int .i64 0), (.slice none 0 0), (.slice none 0 0), (.slice none 0 0)]), (.int .i64 2)]) ∧ Hp [] w₀ w' [] := by
  refine Calls.ofWC (vs := [(.int .i64 slow), (.int .i64 delay), (.int .i64 store)]) (pre := []) (env := [(0, (.int .i64 slow)), (1, (.int .i64 delay)), (2, (.int .i64 store))]) Try.func10 rfl Try.ntmps10 rfl (Hp.nil w₀ _) rfl ?_
  refine WC.seq ?_
  refine WC.region ?_
  refine WL.new (dd := 6) rfl rfl rfl (e_alloc (cs := [(.int .i64 0), (.int .i64 0), (.int .i64 0), (.int .i64 0), (.slice none 0 0), (.slice none 0 0), (.slice none 0 0)]) zeroT_29 rfl) ?_
  intro b1 _
  refine WL.quiet (d := 7) rfl rfl rfl (q_assign rfl) ?_
  refine WL.nil ?_
  refine WX.then ?_
  refine WC.seq ?_
  refine WC.seq ?_
  refine WC.region ?_
  refine WL.quiet (d := 8) rfl rfl rfl (q_move rfl) ?_
  refine WL.quiet (d := 9) rfl rfl rfl (q_lss rfl rfl) ?_
  refine WL.quiet (d := 10) rfl rfl rfl (q_move rfl) ?_
  refine WL.cut0 True [(0, (.int .i64 slow)), (1, (.int .i64 delay)), (2, (.int .i64 store)), (6, (.pointer (some ⟨b1, 0, none⟩))), (7, (.int .i64 0)), (13, (.bool ((decide (slow < 1)) || (decide (slow > 16)))))] [stb b1 29 [(.int .i64 0), (.int .i64 0), (.int .i64 0), (.int .i64 0), (.slice none 0 0), (.slice none 0 0), (.slice none 0 0)]] 3 ?_ (fun _ => ?_)
  · by_cases hb2 : slow < 1
    · refine WL.pin (i := 10) rfl (bT (decide_eq_true_iff) hb2) ?_
      refine WL.skip rfl rfl rfl ?_
      refine WL.skip rfl rfl rfl ?_
      refine WL.quiet (d := 13) rfl rfl rfl (q_pickT rfl rfl) ?_
      exact WL.cutEnd () trivial (.cons rfl (.cons rfl (.cons rfl (.cons rfl (.cons rfl (.cons (some_bool (or_l (bT (decide_eq_true_iff) hb2))) .nil)))))) (.cons .here .nil)
    · refine WL.pin (i := 10) rfl (bF (decide_eq_true_iff) hb2) ?_
      refine WL.quiet (d := 11) rfl rfl rfl (q_move rfl) ?_
      refine WL.quiet (d := 12) rfl rfl rfl (q_gtr rfl rfl) ?_
      refine WL.quiet (d := 13) rfl rfl rfl (q_pickF rfl rfl) ?_
      exact WL.cutEnd () trivial (.cons rfl (.cons rfl (.cons rfl (.cons rfl (.cons rfl (.cons (some_bool (or_r (bF (decide_eq_true_iff) hb2))) .nil)))))) (.cons .here .nil)
  · skip
    refine WL.quiet (d := 14) rfl rfl rfl (q_move rfl) ?_
    refine WL.cut0 True [(0, (.int .i64 slow)), (1, (.int .i64 delay)), (2, (.int .i64 store)), (6, (.pointer (some ⟨b1, 0, none⟩))), (7, (.int .i64 0)), (17, (.bool (((decide (slow < 1)) || (decide (slow > 16))) || (decide (delay < 0)))))] [stb b1 29 [(.int .i64 0), (.int .i64 0), (.int .i64 0), (.int .i64 0), (.slice none 0 0), (.slice none 0 0), (.slice none 0 0)]] 3 ?_ (fun _ => ?_)
    · by_cases hb3 : (slow < 1) ∨ (slow > 16)
      · refine WL.pin (i := 14) rfl (bT (biff_or (decide_eq_true_iff) (decide_eq_true_iff)) hb3) ?_
        refine WL.skip rfl rfl rfl ?_
        refine WL.skip rfl rfl rfl ?_
        refine WL.quiet (d := 17) rfl rfl rfl (q_pickT rfl rfl) ?_
        exact WL.cutEnd () trivial (.cons rfl (.cons rfl (.cons rfl (.cons rfl (.cons rfl (.cons (some_bool (or_l (bT (biff_or (decide_eq_true_iff) (decide_eq_true_iff)) hb3))) .nil)))))) (.cons .here .nil)
      · refine WL.pin (i := 14) rfl (bF (biff_or (decide_eq_true_iff) (decide_eq_true_iff)) hb3) ?_
        refine WL.quiet (d := 15) rfl rfl rfl (q_move rfl) ?_
        refine WL.quiet (d := 16) rfl rfl rfl (q_lss rfl rfl) ?_
        refine WL.quiet (d := 17) rfl rfl rfl (q_pickF rfl rfl) ?_
        exact WL.cutEnd () trivial (.cons rfl (.cons rfl (.cons rfl (.cons rfl (.cons rfl (.cons (some_bool (or_r (bF (biff_or (decide_eq_true_iff) (decide_eq_true_iff)) hb3))) .nil)))))) (.cons .here .nil)
    · skip
      refine WL.quiet (d := 18) rfl rfl rfl (q_move rfl) ?_
      refine WL.cut0 True [(0, (.int .i64 slow)), (1, (.int .i64 delay)), (2, (.int .i64 store)), (6, (.pointer (some ⟨b1, 0, none⟩))), (7, (.int .i64 0)), (21, (.bool ((((decide (slow < 1)) || (decide (slow > 16))) || (decide (delay < 0))) || (decide (delay > 1000)))))] [stb b1 29 [(.int .i64 0), (.int .i64 0), (.int .i64 0), (.int .i64 0), (.slice none 0 0), (.slice none 0 0), (.slice none 0 0)]] 3 ?_ (fun _ => ?_)
      · by_cases hb4 : ((slow < 1) ∨ (slow > 16)) ∨ (delay < 0)
        · refine WL.pin (i := 18) rfl (bT (biff_or (biff_or (decide_eq_true_iff) (decide_eq_true_iff)) (decide_eq_true_iff)) hb4) ?_
          refine WL.skip rfl rfl rfl ?_
          refine WL.skip rfl rfl rfl ?_
          refine WL.quiet (d := 21) rfl rfl rfl (q_pickT rfl rfl) ?_
          exact WL.cutEnd () trivial (.cons rfl (.cons rfl (.cons rfl (.cons rfl (.cons rfl (.cons (some_bool (or_l (bT (biff_or (biff_or (decide_eq_true_iff) (decide_eq_true_iff)) (decide_eq_true_iff)) hb4))) .nil)))))) (.cons .here .nil)
        · refine WL.pin (i := 18) rfl (bF (biff_or (biff_or (decide_eq_true_iff) (decide_eq_true_iff)) (decide_eq_true_iff)) hb4) ?_
          refine WL.quiet (d := 19) rfl rfl rfl (q_move rfl) ?_
          refine WL.quiet (d := 20) rfl rfl rfl (q_gtr rfl rfl) ?_
          refine WL.quiet (d := 21) rfl rfl rfl (q_pickF rfl rfl) ?_
          exact WL.cutEnd () trivial (.cons rfl (.cons rfl (.cons rfl (.cons rfl (.cons rfl (.cons (some_bool (or_r (bF (biff_or (biff_or (decide_eq_true_iff) (decide_eq_true_iff)) (decide_eq_true_iff)) hb4))) .nil)))))) (.cons .here .nil)
      · skip
        refine WL.quiet (d := 22) rfl rfl rfl (q_move rfl) ?_
        refine WL.cut0 True [(0, (.int .i64 slow)), (1, (.int .i64 delay)), (2, (.int .i64 store)), (6, (.pointer (some ⟨b1, 0, none⟩))), (7, (.int .i64 0)), (25, (.bool (((((decide (slow < 1)) || (decide (slow > 16))) || (decide (delay < 0))) || (decide (delay > 1000))) || (decide (store < 0)))))] [stb b1 29 [(.int .i64 0), (.int .i64 0), (.int .i64 0), (.int .i64 0), (.slice none 0 0), (.slice none 0 0), (.slice none 0 0)]] 3 ?_ (fun _ => ?_)
        · by_cases hb5 : (((slow < 1) ∨ (slow > 16)) ∨ (delay < 0)) ∨ (delay > 1000)
          · refine WL.pin (i := 22) rfl (bT (biff_or (biff_or (biff_or (decide_eq_true_iff) (decide_eq_true_iff)) (decide_eq_true_iff)) (decide_eq_true_iff)) hb5) ?_
            refine WL.skip rfl rfl rfl ?_
            refine WL.skip rfl rfl rfl ?_
            refine WL.quiet (d := 25) rfl rfl rfl (q_pickT rfl rfl) ?_
            exact WL.cutEnd () trivial (.cons rfl (.cons rfl (.cons rfl (.cons rfl (.cons rfl (.cons (some_bool (or_l (bT (biff_or (biff_or (biff_or (decide_eq_true_iff) (decide_eq_true_iff)) (decide_eq_true_iff)) (decide_eq_true_iff)) hb5))) .nil)))))) (.cons .here .nil)
          · refine WL.pin (i := 22) rfl (bF (biff_or (biff_or (biff_or (decide_eq_true_iff) (decide_eq_true_iff)) (decide_eq_true_iff)) (decide_eq_true_iff)) hb5) ?_
            refine WL.quiet (d := 23) rfl rfl rfl (q_move rfl) ?_
            refine WL.quiet (d := 24) rfl rfl rfl (q_lss rfl rfl) ?_
            refine WL.quiet (d := 25) rfl rfl rfl (q_pickF rfl rfl) ?_
            exact WL.cutEnd () trivial (.cons rfl (.cons rfl (.cons rfl (.cons rfl (.cons rfl (.cons (some_bool (or_r (bF (biff_or (biff_or (biff_or (decide_eq_true_iff) (decide_eq_true_iff)) (decide_eq_true_iff)) (decide_eq_true_iff)) hb5))) .nil)))))) (.cons .here .nil)
        · skip
          refine WL.quiet (d := 26) rfl rfl rfl (q_move rfl) ?_
          refine WL.cut0 True [(0, (.int .i64 slow)), (1, (.int .i64 delay)), (2, (.int .i64 store)), (6, (.pointer (some ⟨b1, 0, none⟩))), (7, (.int .i64 0)), (29, (.bool ((((((decide (slow < 1)) || (decide (slow > 16))) || (decide (delay < 0))) || (decide (delay > 1000))) || (decide (store < 0))) || (decide (store > 1073741824)))))] [stb b1 29 [(.int .i64 0), (.int .i64 0), (.int .i64 0), (.int .i64 0), (.slice none 0 0), (.slice none 0 0), (.slice none 0 0)]] 3 ?_ (fun _ => ?_)
          · by_cases hb6 : ((((slow < 1) ∨ (slow > 16)) ∨ (delay < 0)) ∨ (delay > 1000)) ∨ (store < 0)
            · refine WL.pin (i := 26) rfl (bT (biff_or (biff_or (biff_or (biff_or (decide_eq_true_iff) (decide_eq_true_iff)) (decide_eq_true_iff)) (decide_eq_true_iff)) (decide_eq_true_iff)) hb6) ?_
              refine WL.skip rfl rfl rfl ?_
              refine WL.skip rfl rfl rfl ?_
              refine WL.quiet (d := 29) rfl rfl rfl (q_pickT rfl rfl) ?_
              exact WL.cutEnd () trivial (.cons rfl (.cons rfl (.cons rfl (.cons rfl (.cons rfl (.cons (some_bool (or_l (bT (biff_or (biff_or (biff_or (biff_or (decide_eq_true_iff) (decide_eq_true_iff)) (decide_eq_true_iff)) (decide_eq_true_iff)) (decide_eq_true_iff)) hb6))) .nil)))))) (.cons .here .nil)
            · refine WL.pin (i := 26) rfl (bF (biff_or (biff_or (biff_or (biff_or (decide_eq_true_iff) (decide_eq_true_iff)) (decide_eq_true_iff)) (decide_eq_true_iff)) (decide_eq_true_iff)) hb6) ?_
              refine WL.quiet (d := 27) rfl rfl rfl (q_move rfl) ?_
              refine WL.quiet (d := 28) rfl rfl rfl (q_gtr rfl rfl) ?_
              refine WL.quiet (d := 29) rfl rfl rfl (q_pickF rfl rfl) ?_
              exact WL.cutEnd () trivial (.cons rfl (.cons rfl (.cons rfl (.cons rfl (.cons rfl (.cons (some_bool (or_r (bF (biff_or (biff_or (biff_or (biff_or (decide_eq_true_iff) (decide_eq_true_iff)) (decide_eq_true_iff)) (decide_eq_true_iff)) (decide_eq_true_iff)) hb6))) .nil)))))) (.cons .here .nil)
          · skip
            refine WL.nil ?_
            refine WX.then ?_
            refine WC.cond rfl (fun _ => ?_) (fun h => absurd (biffF (biff_or (biff_or (biff_or (biff_or (biff_or (decide_eq_true_iff) (decide_eq_true_iff)) (decide_eq_true_iff)) (decide_eq_true_iff)) (decide_eq_true_iff)) (decide_eq_true_iff)) h) (not_not_intro (by omega)))
            refine WC.seq ?_
            refine WC.region ?_
            refine WL.quiet (d := 30) rfl rfl rfl (q_build (v := (.agg #[(.int .i64 0), (.int .i64 0), (.int .i64 0), (.int .i64 0), (.slice none 0 0), (.slice none 0 0), (.slice none 0 0)])) (Eos.parts (l := []) .nil []) (fun _ => by kernel_rfl)) ?_
            refine WL.eff0 rfl rfl (e_store (vs := [(.int .i64 0), (.int .i64 0), (.int .i64 0), (.int .i64 0), (.slice none 0 0), (.slice none 0 0), (.slice none 0 0)]) (ds := [(.int .i64 0), (.int .i64 0), (.int .i64 0), (.int .i64 0), (.slice none 0 0), (.slice none 0 0), (.slice none 0 0)]) sizT_29 rfl rfl rfl rfl (oc_cons rfl (oc_cons rfl (oc_cons rfl (oc_cons rfl (oc_cons rfl (oc_cons rfl (oc_cons rfl oc_nil))))))) .here (Nat.le_of_ble_eq_true rfl) rfl) ?_
            refine WL.quiet (d := 7) rfl rfl rfl (q_assign rfl) ?_
            refine WL.nil ?_
            refine WX.then ?_
            refine WC.ret ?_
            refine WX.thenRet ?_
            refine WX.bpRet Try.results10 (.agg rfl aggT_29 rfl (rd_all .here) (.tmp rfl .nil)) (fun w hw => ?_)
            exact ⟨ret2 rfl rfl, (hw.sub .nil)⟩

set_option maxRecDepth 20000 in
theorem rnew_ok (slow delay store : Int) (w₀ : World)
    (hb : ¬ (slow < 1 ∨ slow > 16 ∨ delay < 0 ∨ delay > 1000 ∨ store < 0 ∨ store > 1073741824)) :
    Calls Try.prog 10 #[(.int .i64 slow), (.int .i64 delay), (.int .i64 store)] w₀ fun e w' => e = .returned (.tuple #[(.agg #[(.int .i64 slow), (.int .i64 delay), (.int .i64 store), (.int .i64 0), (.slice none 0 0), (.slice none 0 0), (.slice none 0 0)]), (.int .i64 0)]) ∧ Hp [] w₀ w' [] := by
  refine Calls.ofWC (vs := [(.int .i64 slow), (.int .i64 delay), (.int .i64 store)]) (pre := []) (env := [(0, (.int .i64 slow)), (1, (.int .i64 delay)), (2, (.int .i64 store))]) Try.func10 rfl Try.ntmps10 rfl (Hp.nil w₀ _) rfl ?_
  refine WC.seq ?_
  refine WC.region ?_
  refine WL.new (dd := 6) rfl rfl rfl (e_alloc (cs := [(.int .i64 0), (.int .i64 0), (.int .i64 0), (.int .i64 0), (.slice none 0 0), (.slice none 0 0), (.slice none 0 0)]) zeroT_29 rfl) ?_
  intro b1 _
  refine WL.quiet (d := 7) rfl rfl rfl (q_assign rfl) ?_
  refine WL.nil ?_
  refine WX.then ?_
  refine WC.seq ?_
  refine WC.seq ?_
  refine WC.region ?_
  refine WL.quiet (d := 8) rfl rfl rfl (q_move rfl) ?_
  refine WL.quiet (d := 9) rfl rfl rfl (q_lss rfl rfl) ?_
  refine WL.quiet (d := 10) rfl rfl rfl (q_move rfl) ?_
  refine WL.cut0 True [(0, (.int .i64 slow)), (1, (.int .i64 delay)), (2, (.int .i64 store)), (6, (.pointer (some ⟨b1, 0, none⟩))), (7, (.int .i64 0)), (13, (.bool ((decide (slow < 1)) || (decide (slow > 16)))))] [stb b1 29 [(.int .i64 0), (.int .i64 0), (.int .i64 0), (.int .i64 0), (.slice none 0 0), (.slice none 0 0), (.slice none 0 0)]] 3 ?_ (fun _ => ?_)
  · by_cases hb2 : slow < 1
    · refine WL.pin (i := 10) rfl (bT (decide_eq_true_iff) hb2) ?_
      refine WL.skip rfl rfl rfl ?_
      refine WL.skip rfl rfl rfl ?_
      refine WL.quiet (d := 13) rfl rfl rfl (q_pickT rfl rfl) ?_
      exact WL.cutEnd () trivial (.cons rfl (.cons rfl (.cons rfl (.cons rfl (.cons rfl (.cons (some_bool (or_l (bT (decide_eq_true_iff) hb2))) .nil)))))) (.cons .here .nil)
    · refine WL.pin (i := 10) rfl (bF (decide_eq_true_iff) hb2) ?_
      refine WL.quiet (d := 11) rfl rfl rfl (q_move rfl) ?_
      refine WL.quiet (d := 12) rfl rfl rfl (q_gtr rfl rfl) ?_
      refine WL.quiet (d := 13) rfl rfl rfl (q_pickF rfl rfl) ?_
      exact WL.cutEnd () trivial (.cons rfl (.cons rfl (.cons rfl (.cons rfl (.cons rfl (.cons (some_bool (or_r (bF (decide_eq_true_iff) hb2))) .nil)))))) (.cons .here .nil)
  · skip
    refine WL.quiet (d := 14) rfl rfl rfl (q_move rfl) ?_
    refine WL.cut0 True [(0, (.int .i64 slow)), (1, (.int .i64 delay)), (2, (.int .i64 store)), (6, (.pointer (some ⟨b1, 0, none⟩))), (7, (.int .i64 0)), (17, (.bool (((decide (slow < 1)) || (decide (slow > 16))) || (decide (delay < 0)))))] [stb b1 29 [(.int .i64 0), (.int .i64 0), (.int .i64 0), (.int .i64 0), (.slice none 0 0), (.slice none 0 0), (.slice none 0 0)]] 3 ?_ (fun _ => ?_)
    · by_cases hb3 : (slow < 1) ∨ (slow > 16)
      · refine WL.pin (i := 14) rfl (bT (biff_or (decide_eq_true_iff) (decide_eq_true_iff)) hb3) ?_
        refine WL.skip rfl rfl rfl ?_
        refine WL.skip rfl rfl rfl ?_
        refine WL.quiet (d := 17) rfl rfl rfl (q_pickT rfl rfl) ?_
        exact WL.cutEnd () trivial (.cons rfl (.cons rfl (.cons rfl (.cons rfl (.cons rfl (.cons (some_bool (or_l (bT (biff_or (decide_eq_true_iff) (decide_eq_true_iff)) hb3))) .nil)))))) (.cons .here .nil)
      · refine WL.pin (i := 14) rfl (bF (biff_or (decide_eq_true_iff) (decide_eq_true_iff)) hb3) ?_
        refine WL.quiet (d := 15) rfl rfl rfl (q_move rfl) ?_
        refine WL.quiet (d := 16) rfl rfl rfl (q_lss rfl rfl) ?_
        refine WL.quiet (d := 17) rfl rfl rfl (q_pickF rfl rfl) ?_
        exact WL.cutEnd () trivial (.cons rfl (.cons rfl (.cons rfl (.cons rfl (.cons rfl (.cons (some_bool (or_r (bF (biff_or (decide_eq_true_iff) (decide_eq_true_iff)) hb3))) .nil)))))) (.cons .here .nil)
    · skip
      refine WL.quiet (d := 18) rfl rfl rfl (q_move rfl) ?_
      refine WL.cut0 True [(0, (.int .i64 slow)), (1, (.int .i64 delay)), (2, (.int .i64 store)), (6, (.pointer (some ⟨b1, 0, none⟩))), (7, (.int .i64 0)), (21, (.bool ((((decide (slow < 1)) || (decide (slow > 16))) || (decide (delay < 0))) || (decide (delay > 1000)))))] [stb b1 29 [(.int .i64 0), (.int .i64 0), (.int .i64 0), (.int .i64 0), (.slice none 0 0), (.slice none 0 0), (.slice none 0 0)]] 3 ?_ (fun _ => ?_)
      · by_cases hb4 : ((slow < 1) ∨ (slow > 16)) ∨ (delay < 0)
        · refine WL.pin (i := 18) rfl (bT (biff_or (biff_or (decide_eq_true_iff) (decide_eq_true_iff)) (decide_eq_true_iff)) hb4) ?_
          refine WL.skip rfl rfl rfl ?_
          refine WL.skip rfl rfl rfl ?_
          refine WL.quiet (d := 21) rfl rfl rfl (q_pickT rfl rfl) ?_
          exact WL.cutEnd () trivial (.cons rfl (.cons rfl (.cons rfl (.cons rfl (.cons rfl (.cons (some_bool (or_l (bT (biff_or (biff_or (decide_eq_true_iff) (decide_eq_true_iff)) (decide_eq_true_iff)) hb4))) .nil)))))) (.cons .here .nil)
        · refine WL.pin (i := 18) rfl (bF (biff_or (biff_or (decide_eq_true_iff) (decide_eq_true_iff)) (decide_eq_true_iff)) hb4) ?_
          refine WL.quiet (d := 19) rfl rfl rfl (q_move rfl) ?_
          refine WL.quiet (d := 20) rfl rfl rfl (q_gtr rfl rfl) ?_
          refine WL.quiet (d := 21) rfl rfl rfl (q_pickF rfl rfl) ?_
          exact WL.cutEnd () trivial (.cons rfl (.cons rfl (.cons rfl (.cons rfl (.cons rfl (.cons (some_bool (or_r (bF (biff_or (biff_or (decide_eq_true_iff) (decide_eq_true_iff)) (decide_eq_true_iff)) hb4))) .nil)))))) (.cons .here .nil)
      · skip
        refine WL.quiet (d := 22) rfl rfl rfl (q_move rfl) ?_
        refine WL.cut0 True [(0, (.int .i64 slow)), (1, (.int .i64 delay)), (2, (.int .i64 store)), (6, (.pointer (some ⟨b1, 0, none⟩))), (7, (.int .i64 0)), (25, (.bool (((((decide (slow < 1)) || (decide (slow > 16))) || (decide (delay < 0))) || (decide (delay > 1000))) || (decide (store < 0)))))] [stb b1 29 [(.int .i64 0), (.int .i64 0), (.int .i64 0), (.int .i64 0), (.slice none 0 0), (.slice none 0 0), (.slice none 0 0)]] 3 ?_ (fun _ => ?_)
        · by_cases hb5 : (((slow < 1) ∨ (slow > 16)) ∨ (delay < 0)) ∨ (delay > 1000)
          · refine WL.pin (i := 22) rfl (bT (biff_or (biff_or (biff_or (decide_eq_true_iff) (decide_eq_true_iff)) (decide_eq_true_iff)) (decide_eq_true_iff)) hb5) ?_
            refine WL.skip rfl rfl rfl ?_
            refine WL.skip rfl rfl rfl ?_
            refine WL.quiet (d := 25) rfl rfl rfl (q_pickT rfl rfl) ?_
            exact WL.cutEnd () trivial (.cons rfl (.cons rfl (.cons rfl (.cons rfl (.cons rfl (.cons (some_bool (or_l (bT (biff_or (biff_or (biff_or (decide_eq_true_iff) (decide_eq_true_iff)) (decide_eq_true_iff)) (decide_eq_true_iff)) hb5))) .nil)))))) (.cons .here .nil)
          · refine WL.pin (i := 22) rfl (bF (biff_or (biff_or (biff_or (decide_eq_true_iff) (decide_eq_true_iff)) (decide_eq_true_iff)) (decide_eq_true_iff)) hb5) ?_
            refine WL.quiet (d := 23) rfl rfl rfl (q_move rfl) ?_
            refine WL.quiet (d := 24) rfl rfl rfl (q_lss rfl rfl) ?_
            refine WL.quiet (d := 25) rfl rfl rfl (q_pickF rfl rfl) ?_
            exact WL.cutEnd () trivial (.cons rfl (.cons rfl (.cons rfl (.cons rfl (.cons rfl (.cons (some_bool (or_r (bF (biff_or (biff_or (biff_or (decide_eq_true_iff) (decide_eq_true_iff)) (decide_eq_true_iff)) (decide_eq_true_iff)) hb5))) .nil)))))) (.cons .here .nil)
        · skip
          refine WL.quiet (d := 26) rfl rfl rfl (q_move rfl) ?_
          refine WL.cut0 True [(0, (.int .i64 slow)), (1, (.int .i64 delay)), (2, (.int .i64 store)), (6, (.pointer (some ⟨b1, 0, none⟩))), (7, (.int .i64 0)), (29, (.bool ((((((decide (slow < 1)) || (decide (slow > 16))) || (decide (delay < 0))) || (decide (delay > 1000))) || (decide (store < 0))) || (decide (store > 1073741824)))))] [stb b1 29 [(.int .i64 0), (.int .i64 0), (.int .i64 0), (.int .i64 0), (.slice none 0 0), (.slice none 0 0), (.slice none 0 0)]] 3 ?_ (fun _ => ?_)
          · by_cases hb6 : ((((slow < 1) ∨ (slow > 16)) ∨ (delay < 0)) ∨ (delay > 1000)) ∨ (store < 0)
            · refine WL.pin (i := 26) rfl (bT (biff_or (biff_or (biff_or (biff_or (decide_eq_true_iff) (decide_eq_true_iff)) (decide_eq_true_iff)) (decide_eq_true_iff)) (decide_eq_true_iff)) hb6) ?_
              refine WL.skip rfl rfl rfl ?_
              refine WL.skip rfl rfl rfl ?_
              refine WL.quiet (d := 29) rfl rfl rfl (q_pickT rfl rfl) ?_
              exact WL.cutEnd () trivial (.cons rfl (.cons rfl (.cons rfl (.cons rfl (.cons rfl (.cons (some_bool (or_l (bT (biff_or (biff_or (biff_or (biff_or (decide_eq_true_iff) (decide_eq_true_iff)) (decide_eq_true_iff)) (decide_eq_true_iff)) (decide_eq_true_iff)) hb6))) .nil)))))) (.cons .here .nil)
            · refine WL.pin (i := 26) rfl (bF (biff_or (biff_or (biff_or (biff_or (decide_eq_true_iff) (decide_eq_true_iff)) (decide_eq_true_iff)) (decide_eq_true_iff)) (decide_eq_true_iff)) hb6) ?_
              refine WL.quiet (d := 27) rfl rfl rfl (q_move rfl) ?_
              refine WL.quiet (d := 28) rfl rfl rfl (q_gtr rfl rfl) ?_
              refine WL.quiet (d := 29) rfl rfl rfl (q_pickF rfl rfl) ?_
              exact WL.cutEnd () trivial (.cons rfl (.cons rfl (.cons rfl (.cons rfl (.cons rfl (.cons (some_bool (or_r (bF (biff_or (biff_or (biff_or (biff_or (decide_eq_true_iff) (decide_eq_true_iff)) (decide_eq_true_iff)) (decide_eq_true_iff)) (decide_eq_true_iff)) hb6))) .nil)))))) (.cons .here .nil)
          · skip
            refine WL.nil ?_
            refine WX.then ?_
            refine WC.cond rfl (fun h => absurd ((biff_or (biff_or (biff_or (biff_or (biff_or (decide_eq_true_iff) (decide_eq_true_iff)) (decide_eq_true_iff)) (decide_eq_true_iff)) (decide_eq_true_iff)) (decide_eq_true_iff)).1 h) (by omega)) (fun _ => ?_)
            refine WC.skip ?_
            refine WX.then ?_
            refine WC.seq ?_
            refine WC.region ?_
            refine WL.quiet (d := 31) rfl rfl rfl (q_move rfl) ?_
            refine WL.quiet (d := 32) rfl rfl rfl (q_move rfl) ?_
            refine WL.quiet (d := 33) rfl rfl rfl (q_move rfl) ?_
            refine WL.quiet (d := 34) rfl rfl rfl (q_build (v := (.agg #[(.int .i64 slow), (.int .i64 delay), (.int .i64 store), (.int .i64 0), (.slice none 0 0), (.slice none 0 0), (.slice none 0 0)])) (Eos.parts (l := [.tmp 31, .tmp 32, .tmp 33]) (.cons rfl (.cons rfl (.cons rfl .nil))) [0, 1, 2]) (fun _ => by kernel_rfl)) ?_
            refine WL.eff0 rfl rfl (e_store (vs := [(.int .i64 slow), (.int .i64 delay), (.int .i64 store), (.int .i64 0), (.slice none 0 0), (.slice none 0 0), (.slice none 0 0)]) (ds := [(.int .i64 slow), (.int .i64 delay), (.int .i64 store), (.int .i64 0), (.slice none 0 0), (.slice none 0 0), (.slice none 0 0)]) sizT_29 rfl rfl rfl rfl (oc_cons rfl (oc_cons rfl (oc_cons rfl (oc_cons rfl (oc_cons rfl (oc_cons rfl (oc_cons rfl oc_nil))))))) .here (Nat.le_of_ble_eq_true rfl) rfl) ?_
            refine WL.quiet (d := 7) rfl rfl rfl (q_assign rfl) ?_
            refine WL.nil ?_
            refine WX.then ?_
            refine WC.ret ?_
            refine WX.bpRet Try.results10 (.agg rfl aggT_29 rfl (rd_all .here) (.tmp rfl .nil)) (fun w hw => ?_)
            exact ⟨ret2 rfl rfl, (hw.sub .nil)⟩

def heldI (ats szs ens : List Int) (t : Int) (i : Int) : Int := if nth ats i ≤ t ∧ nth ens i > t then nth szs i else 0
def heldT (ats szs ens : List Int) (t : Int) : Nat → Int
  | 0 => 0
  | n + 1 => heldT ats szs ens t n + heldI ats szs ens t n
theorem heldT_bd {ats szs ens : List Int} {t : Int} (h : ∀ x ∈ szs, 1 ≤ x ∧ x ≤ 72) : ∀ n : Nat, n ≤ szs.length → 0 ≤ heldT ats szs ens t n ∧ heldT ats szs ens t n ≤ 72 * n := by
  intro n
  induction n with
  | zero => intro _; simp [heldT]
  | succ n ih =>
    intro hn
    have h1 := ih (by omega)
    have h2 : 0 ≤ heldI ats szs ens t n ∧ heldI ats szs ens t n ≤ 72 := by
      have := h _ (nth_mem (l := szs) (i := (n : Int)) (by omega) (by omega))
      unfold heldI; split <;> omega
    simp only [heldT]
    omega
theorem heldT_step {ats szs ens : List Int} {t i : Int} (h : 0 ≤ i) : heldT ats szs ens t (i + 1).toNat = heldT ats szs ens t i.toNat + heldI ats szs ens t i := by
  obtain ⟨n, rfl⟩ : ∃ n : Nat, i = n := ⟨i.toNat, by omega⟩
  rw [show ((n : Int) + 1).toNat = n + 1 from by omega]; simp [heldT]

set_option maxRecDepth 20000 in
theorem rheld_c (slow delay store now : Int) (aoA : Option Addr) (mA capA : Nat) (ats : List Int) (aoZ : Option Addr) (mZ capZ : Nat) (szs : List Int) (aoE : Option Addr) (mE capE : Nat) (ens : List Int) (t : Int) (w₀ : World)
    (hsA : SlP [] w₀ (.slice aoA mA capA) 1 intP ats)
    (hsZ : SlP [] w₀ (.slice aoZ mZ capZ) 1 intP szs)
    (hsE : SlP [] w₀ (.slice aoE mE capE) 1 intP ens)
    (hl : szs.length = ats.length ∧ ens.length = ats.length ∧ ats.length ≤ 1099511627776)
    (hz : ∀ x ∈ szs, 1 ≤ x ∧ x ≤ 72) :
    Calls Try.prog 13 #[(.agg #[(.int .i64 slow), (.int .i64 delay), (.int .i64 store), (.int .i64 now), (.slice aoA mA capA), (.slice aoZ mZ capZ), (.slice aoE mE capE)]), (.int .i64 t)] w₀ fun e w' => e = .returned (.int .i64 (heldT ats szs ens (max t now) ats.length)) ∧ Hp [] w₀ w' [] := by
  have hlA := hsA.len
  have hlZ := hsZ.len
  have hlE := hsE.len
  refine Calls.ofWC (vs := [(.agg #[(.int .i64 slow), (.int .i64 delay), (.int .i64 store), (.int .i64 now), (.slice aoA mA capA), (.slice aoZ mZ capZ), (.slice aoE mE capE)]), (.int .i64 t)]) (pre := []) (env := [(0, (.agg #[(.int .i64 slow), (.int .i64 delay), (.int .i64 store), (.int .i64 now), (.slice aoA mA capA), (.slice aoZ mZ capZ), (.slice aoE mE capE)])), (1, (.int .i64 t))]) Try.func13 rfl Try.ntmps13 rfl (Hp.nil w₀ _) rfl ?_
  refine WC.seq ?_
  refine WC.region ?_
  refine WL.new (dd := 2) rfl rfl rfl (e_box (cs := [(.int .i64 slow), (.int .i64 delay), (.int .i64 store), (.int .i64 now), (.slice aoA mA capA), (.slice aoZ mZ capZ), (.slice aoE mE capE)]) rfl rfl) ?_
  intro b1 _
  refine WL.quiet (d := 4) rfl rfl rfl (q_assign rfl) ?_
  refine WL.nil ?_
  refine WX.then ?_
  refine WC.seq ?_
  refine WC.seq ?_
  refine WC.region ?_
  refine WL.quiet (d := 7) rfl rfl rfl (q_move rfl) ?_
  refine WL.quiet (d := 8) rfl rfl rfl (q_fieldAddr fo_29_3 rfl rfl) ?_
  refine WL.quiet (d := 9) rfl rfl rfl (q_load1 oneT_3 rfl (rd_stb .here rfl)) ?_
  refine WL.quiet (d := 10) rfl rfl rfl (q_lss rfl rfl) ?_
  refine WL.nil ?_
  refine WX.then ?_
  refine WC.cond rfl (fun h => ?_) (fun h => ?_)
  · have hc2 : t < now := ((decide_eq_true_iff)).1 h; clear h
    refine WC.region ?_
    refine WL.quiet (d := 11) rfl rfl rfl (q_fieldAddr fo_29_3 rfl rfl) ?_
    refine WL.quiet (d := 12) rfl rfl rfl (q_load1 oneT_3 rfl (rd_stb .here rfl)) ?_
    refine WL.quiet (d := 1) rfl rfl rfl (q_assign rfl) ?_
    refine WL.nil ?_
    refine WX.then ?_
    refine WC.seq ?_
    refine WC.region ?_
    refine WL.quiet (d := 5) rfl rfl rfl (q_assign rfl) ?_
    refine WL.nil ?_
    refine WX.then ?_
    refine WC.seq ?_
    refine WC.seq ?_
    refine WC.region ?_
    refine WL.quiet (d := 6) rfl rfl rfl (q_assign rfl) ?_
    refine WL.nil ?_
    refine WX.then ?_
    refine WC.block ?_
    have htm : now = max t now := by omega
    refine WC.loop2 (fun (i : Int) (acc : Int) => (0 ≤ i) ∧ (i ≤ ats.length) ∧ (acc = heldT ats szs ens (max t now) i.toNat)) (fun (i : Int) (acc : Int) => [(1, (.int .i64 now)), (2, (.pointer (some ⟨b1, 0, none⟩))), (6, (.int .i64 i)), (5, (.int .i64 acc))]) (fun (i : Int) (acc : Int) => [stb b1 29 [(.int .i64 slow), (.int .i64 delay), (.int .i64 store), (.int .i64 now), (.slice aoA mA capA), (.slice aoZ mZ capZ), (.slice aoE mE capE)]]) (fun (i : Int) (acc : Int) => (ats.length - i.toNat)) ⟨0, 0⟩ ⟨(by first | omega | (dsimp only; omega)), (by first | omega | (dsimp only; omega)), (by first | (dsimp only; rfl) | (rfl))⟩ (.cons rfl (.cons rfl (.cons rfl (.cons rfl .nil)))) (.cons .here .nil) ?_
    rintro i acc ⟨h0, h1, ha⟩
    have hbd := heldT_bd (ats := ats) (ens := ens) (t := max t now) hz i.toNat (by omega)
    have hn : i < ats.length → 1 ≤ nth szs i ∧ nth szs i ≤ 72 := fun h => hz _ (nth_mem h0 (by omega))
    refine WC.seq ?_
    refine WC.seq ?_
    refine WC.region ?_
    refine WL.quiet (d := 13) rfl rfl rfl (q_move rfl) ?_
    refine WL.quiet (d := 14) rfl rfl rfl (q_fieldAddr fo_29_4 rfl rfl) ?_
    refine WL.quiet (d := 15) rfl rfl rfl (q_load1 oneT_27 rfl (rd_stb .here rfl)) ?_
    refine WL.quiet (d := 16) rfl rfl rfl (q_len Try.underlying27 rfl) ?_
    refine WL.quiet (d := 17) rfl rfl rfl (q_lss rfl rfl) ?_
    refine WL.nil ?_
    refine WX.then ?_
    refine WC.cond rfl (fun h => ?_) (fun h => ?_)
    · have hc3 : i < ((mA : Nat) : Int) := ((decide_eq_true_iff)).1 h; clear h
      refine WC.skip ?_
      refine WX.then ?_
      refine WC.seq ?_
      refine WC.block ?_
      refine WC.seq ?_
      refine WC.region ?_
      refine WL.quiet (d := 20) rfl rfl rfl (q_fieldAddr fo_29_4 rfl rfl) ?_
      refine WL.quiet (d := 21) rfl rfl rfl (q_load1 oneT_27 rfl (rd_stb .here rfl)) ?_
      refine WL.quiet (d := 22) rfl rfl rfl (q_move rfl) ?_
      refine WL.nth (dd := 23) rfl rfl elT_27 rfl rfl hsA (by omega) (by omega) ?_
      rintro A4 r5 hA6 hl7 rfl; clear hl7
      refine WL.quiet (d := 24) rfl rfl rfl (q_load1 oneT_3 rfl (rd_cell hA6 rfl)) ?_
      refine WL.quiet (d := 25) rfl rfl rfl (q_move rfl) ?_
      refine WL.quiet (d := 26) rfl rfl rfl (q_leq rfl rfl) ?_
      refine WL.quiet (d := 27) rfl rfl rfl (q_move rfl) ?_
      refine WL.cut0 True [(1, (.int .i64 now)), (2, (.pointer (some ⟨b1, 0, none⟩))), (6, (.int .i64 i)), (5, (.int .i64 acc)), (17, (.bool (decide (i < ((mA : Nat) : Int))))), (35, (.bool ((decide ((nth ats i) ≤ now)) && (decide ((nth ens i) > now)))))] [stb b1 29 [(.int .i64 slow), (.int .i64 delay), (.int .i64 store), (.int .i64 now), (.slice aoA mA capA), (.slice aoZ mZ capZ), (.slice aoE mE capE)]] 8 ?_ (fun _ => ?_)
      · by_cases hb9 : (nth ats i) ≤ now
        · refine WL.pin (i := 27) rfl (bT (decide_eq_true_iff) hb9) ?_
          refine WL.quiet (d := 28) rfl rfl rfl (q_fieldAddr fo_29_6 rfl rfl) ?_
          refine WL.quiet (d := 29) rfl rfl rfl (q_load1 oneT_27 rfl (rd_stb .here rfl)) ?_
          refine WL.quiet (d := 30) rfl rfl rfl (q_move rfl) ?_
          refine WL.nth (dd := 31) rfl rfl elT_27 rfl rfl hsE (by omega) (by omega) ?_
          rintro A10 r11 hA12 hl13 rfl; clear hl13
          refine WL.quiet (d := 32) rfl rfl rfl (q_load1 oneT_3 rfl (rd_cell hA12 rfl)) ?_
          refine WL.quiet (d := 33) rfl rfl rfl (q_move rfl) ?_
          refine WL.quiet (d := 34) rfl rfl rfl (q_gtr rfl rfl) ?_
          refine WL.quiet (d := 35) rfl rfl rfl (q_pickT rfl rfl) ?_
          exact WL.cutEnd () trivial (.cons rfl (.cons rfl (.cons rfl (.cons rfl (.cons rfl (.cons (some_bool (and_r (bT (decide_eq_true_iff) hb9))) .nil)))))) (.cons .here .nil)
        · refine WL.pin (i := 27) rfl (bF (decide_eq_true_iff) hb9) ?_
          refine WL.skip rfl rfl rfl ?_
          refine WL.skip rfl rfl rfl ?_
          refine WL.skip rfl rfl rfl ?_
          refine WL.skip rfl rfl rfl ?_
          refine WL.skip rfl rfl rfl ?_
          refine WL.skip rfl rfl rfl ?_
          refine WL.skip rfl rfl rfl ?_
          refine WL.quiet (d := 35) rfl rfl rfl (q_pickF rfl rfl) ?_
          exact WL.cutEnd () trivial (.cons rfl (.cons rfl (.cons rfl (.cons rfl (.cons rfl (.cons (some_bool (and_l (bF (decide_eq_true_iff) hb9))) .nil)))))) (.cons .here .nil)
      · skip
        refine WL.nil ?_
        refine WX.then ?_
        refine WC.cond rfl (fun h => ?_) (fun h => ?_)
        · have hc15 : ((nth ats i) ≤ now) ∧ ((nth ens i) > now) := ((biff_and (decide_eq_true_iff) (decide_eq_true_iff))).1 h; clear h
          refine WC.region ?_
          refine WL.quiet (d := 36) rfl rfl rfl (q_move rfl) ?_
          refine WL.quiet (d := 37) rfl rfl rfl (q_fieldAddr fo_29_5 rfl rfl) ?_
          refine WL.quiet (d := 38) rfl rfl rfl (q_load1 oneT_27 rfl (rd_stb .here rfl)) ?_
          refine WL.quiet (d := 39) rfl rfl rfl (q_move rfl) ?_
          refine WL.nth (dd := 40) rfl rfl elT_27 rfl rfl hsZ (by omega) (by omega) ?_
          rintro A16 r17 hA18 hl19 rfl; clear hl19
          refine WL.quiet (d := 41) rfl rfl rfl (q_load1 oneT_3 rfl (rd_cell hA18 rfl)) ?_
          refine WL.quiet (d := 42) rfl rfl rfl (q_add rfl rfl (w64 (by omega))) ?_
          refine WL.quiet (d := 5) rfl rfl rfl (q_assign rfl) ?_
          refine WL.nil ?_
          refine WX.blockNormal ?_
          refine WX.then ?_
          refine WC.region ?_
          refine WL.quiet (d := 18) rfl rfl rfl (q_move rfl) ?_
          refine WL.quiet (d := 19) rfl rfl rfl (q_add rfl rfl (w64 (by omega))) ?_
          refine WL.quiet (d := 6) rfl rfl rfl (q_assign rfl) ?_
          refine WL.nil ?_
          exact WX.round (G := Int × Int) ⟨(i + 1), (acc + (nth szs i))⟩ ⟨(by first | omega | (dsimp only; omega)), (by first | omega | (dsimp only; omega)), (by first | (dsimp only; rw [heldT_step h0, ha, ← htm]; unfold heldI; first | (rw [if_pos ‹_›]; done) | (rw [if_neg ‹_›]; omega)) | (rw [heldT_step h0, ha, ← htm]; unfold heldI; first | (rw [if_pos ‹_›]; done) | (rw [if_neg ‹_›]; omega)))⟩ (by first | omega | (dsimp only; omega)) (.cons rfl (.cons rfl (.cons rfl (.cons rfl .nil)))) (.cons .here .nil)
        · have hc15 : ¬ (((nth ats i) ≤ now) ∧ ((nth ens i) > now)) := biffF (biff_and (decide_eq_true_iff) (decide_eq_true_iff)) h; clear h
          refine WC.skip ?_
          refine WX.blockNormal ?_
          refine WX.then ?_
          refine WC.region ?_
          refine WL.quiet (d := 18) rfl rfl rfl (q_move rfl) ?_
          refine WL.quiet (d := 19) rfl rfl rfl (q_add rfl rfl (w64 (by omega))) ?_
          refine WL.quiet (d := 6) rfl rfl rfl (q_assign rfl) ?_
          refine WL.nil ?_
          exact WX.round (G := Int × Int) ⟨(i + 1), acc⟩ ⟨(by first | omega | (dsimp only; omega)), (by first | omega | (dsimp only; omega)), (by first | (dsimp only; rw [heldT_step h0, ha, ← htm]; unfold heldI; first | (rw [if_pos ‹_›]; done) | (rw [if_neg ‹_›]; omega)) | (rw [heldT_step h0, ha, ← htm]; unfold heldI; first | (rw [if_pos ‹_›]; done) | (rw [if_neg ‹_›]; omega)))⟩ (by first | omega | (dsimp only; omega)) (.cons rfl (.cons rfl (.cons rfl (.cons rfl .nil)))) (.cons .here .nil)
    · have hc3 : ¬ (i < ((mA : Nat) : Int)) := biffF (decide_eq_true_iff) h; clear h
      refine WC.exit ?_
      refine WX.thenExit ?_
      refine WX.thenExit ?_
      refine WX.blockHit ?_
      refine WX.then ?_
      refine WC.seq ?_
      refine WC.region ?_
      refine WL.quiet (d := 43) rfl rfl rfl (q_move rfl) ?_
      refine WL.quiet (d := 4) rfl rfl rfl (q_assign rfl) ?_
      refine WL.nil ?_
      refine WX.then ?_
      refine WC.ret ?_
      refine WX.bpRet Try.results13 (.tmp rfl .nil) (fun w hw => ?_)
      exact ⟨ret1 (vint (by rw [ha]; congr 1; omega)), (hw.sub .nil)⟩
  · have hc2 : ¬ (t < now) := biffF (decide_eq_true_iff) h; clear h
    refine WC.skip ?_
    refine WX.then ?_
    refine WC.seq ?_
    refine WC.region ?_
    refine WL.quiet (d := 5) rfl rfl rfl (q_assign rfl) ?_
    refine WL.nil ?_
    refine WX.then ?_
    refine WC.seq ?_
    refine WC.seq ?_
    refine WC.region ?_
    refine WL.quiet (d := 6) rfl rfl rfl (q_assign rfl) ?_
    refine WL.nil ?_
    refine WX.then ?_
    refine WC.block ?_
    have htm : t = max t now := by omega
    refine WC.loop2 (fun (i : Int) (acc : Int) => (0 ≤ i) ∧ (i ≤ ats.length) ∧ (acc = heldT ats szs ens (max t now) i.toNat)) (fun (i : Int) (acc : Int) => [(1, (.int .i64 t)), (2, (.pointer (some ⟨b1, 0, none⟩))), (6, (.int .i64 i)), (5, (.int .i64 acc))]) (fun (i : Int) (acc : Int) => [stb b1 29 [(.int .i64 slow), (.int .i64 delay), (.int .i64 store), (.int .i64 now), (.slice aoA mA capA), (.slice aoZ mZ capZ), (.slice aoE mE capE)]]) (fun (i : Int) (acc : Int) => (ats.length - i.toNat)) ⟨0, 0⟩ ⟨(by first | omega | (dsimp only; omega)), (by first | omega | (dsimp only; omega)), (by first | (dsimp only; rfl) | (rfl))⟩ (.cons rfl (.cons rfl (.cons rfl (.cons rfl .nil)))) (.cons .here .nil) ?_
    rintro i acc ⟨h0, h1, ha⟩
    have hbd := heldT_bd (ats := ats) (ens := ens) (t := max t now) hz i.toNat (by omega)
    have hn : i < ats.length → 1 ≤ nth szs i ∧ nth szs i ≤ 72 := fun h => hz _ (nth_mem h0 (by omega))
    refine WC.seq ?_
    refine WC.seq ?_
    refine WC.region ?_
    refine WL.quiet (d := 13) rfl rfl rfl (q_move rfl) ?_
    refine WL.quiet (d := 14) rfl rfl rfl (q_fieldAddr fo_29_4 rfl rfl) ?_
    refine WL.quiet (d := 15) rfl rfl rfl (q_load1 oneT_27 rfl (rd_stb .here rfl)) ?_
    refine WL.quiet (d := 16) rfl rfl rfl (q_len Try.underlying27 rfl) ?_
    refine WL.quiet (d := 17) rfl rfl rfl (q_lss rfl rfl) ?_
    refine WL.nil ?_
    refine WX.then ?_
    refine WC.cond rfl (fun h => ?_) (fun h => ?_)
    · have hc21 : i < ((mA : Nat) : Int) := ((decide_eq_true_iff)).1 h; clear h
      refine WC.skip ?_
      refine WX.then ?_
      refine WC.seq ?_
      refine WC.block ?_
      refine WC.seq ?_
      refine WC.region ?_
      refine WL.quiet (d := 20) rfl rfl rfl (q_fieldAddr fo_29_4 rfl rfl) ?_
      refine WL.quiet (d := 21) rfl rfl rfl (q_load1 oneT_27 rfl (rd_stb .here rfl)) ?_
      refine WL.quiet (d := 22) rfl rfl rfl (q_move rfl) ?_
      refine WL.nth (dd := 23) rfl rfl elT_27 rfl rfl hsA (by omega) (by omega) ?_
      rintro A22 r23 hA24 hl25 rfl; clear hl25
      refine WL.quiet (d := 24) rfl rfl rfl (q_load1 oneT_3 rfl (rd_cell hA24 rfl)) ?_
      refine WL.quiet (d := 25) rfl rfl rfl (q_move rfl) ?_
      refine WL.quiet (d := 26) rfl rfl rfl (q_leq rfl rfl) ?_
      refine WL.quiet (d := 27) rfl rfl rfl (q_move rfl) ?_
      refine WL.cut0 True [(1, (.int .i64 t)), (2, (.pointer (some ⟨b1, 0, none⟩))), (6, (.int .i64 i)), (5, (.int .i64 acc)), (17, (.bool (decide (i < ((mA : Nat) : Int))))), (35, (.bool ((decide ((nth ats i) ≤ t)) && (decide ((nth ens i) > t)))))] [stb b1 29 [(.int .i64 slow), (.int .i64 delay), (.int .i64 store), (.int .i64 now), (.slice aoA mA capA), (.slice aoZ mZ capZ), (.slice aoE mE capE)]] 8 ?_ (fun _ => ?_)
      · by_cases hb27 : (nth ats i) ≤ t
        · refine WL.pin (i := 27) rfl (bT (decide_eq_true_iff) hb27) ?_
          refine WL.quiet (d := 28) rfl rfl rfl (q_fieldAddr fo_29_6 rfl rfl) ?_
          refine WL.quiet (d := 29) rfl rfl rfl (q_load1 oneT_27 rfl (rd_stb .here rfl)) ?_
          refine WL.quiet (d := 30) rfl rfl rfl (q_move rfl) ?_
          refine WL.nth (dd := 31) rfl rfl elT_27 rfl rfl hsE (by omega) (by omega) ?_
          rintro A28 r29 hA30 hl31 rfl; clear hl31
          refine WL.quiet (d := 32) rfl rfl rfl (q_load1 oneT_3 rfl (rd_cell hA30 rfl)) ?_
          refine WL.quiet (d := 33) rfl rfl rfl (q_move rfl) ?_
          refine WL.quiet (d := 34) rfl rfl rfl (q_gtr rfl rfl) ?_
          refine WL.quiet (d := 35) rfl rfl rfl (q_pickT rfl rfl) ?_
          exact WL.cutEnd () trivial (.cons rfl (.cons rfl (.cons rfl (.cons rfl (.cons rfl (.cons (some_bool (and_r (bT (decide_eq_true_iff) hb27))) .nil)))))) (.cons .here .nil)
        · refine WL.pin (i := 27) rfl (bF (decide_eq_true_iff) hb27) ?_
          refine WL.skip rfl rfl rfl ?_
          refine WL.skip rfl rfl rfl ?_
          refine WL.skip rfl rfl rfl ?_
          refine WL.skip rfl rfl rfl ?_
          refine WL.skip rfl rfl rfl ?_
          refine WL.skip rfl rfl rfl ?_
          refine WL.skip rfl rfl rfl ?_
          refine WL.quiet (d := 35) rfl rfl rfl (q_pickF rfl rfl) ?_
          exact WL.cutEnd () trivial (.cons rfl (.cons rfl (.cons rfl (.cons rfl (.cons rfl (.cons (some_bool (and_l (bF (decide_eq_true_iff) hb27))) .nil)))))) (.cons .here .nil)
      · skip
        refine WL.nil ?_
        refine WX.then ?_
        refine WC.cond rfl (fun h => ?_) (fun h => ?_)
        · have hc33 : ((nth ats i) ≤ t) ∧ ((nth ens i) > t) := ((biff_and (decide_eq_true_iff) (decide_eq_true_iff))).1 h; clear h
          refine WC.region ?_
          refine WL.quiet (d := 36) rfl rfl rfl (q_move rfl) ?_
          refine WL.quiet (d := 37) rfl rfl rfl (q_fieldAddr fo_29_5 rfl rfl) ?_
          refine WL.quiet (d := 38) rfl rfl rfl (q_load1 oneT_27 rfl (rd_stb .here rfl)) ?_
          refine WL.quiet (d := 39) rfl rfl rfl (q_move rfl) ?_
          refine WL.nth (dd := 40) rfl rfl elT_27 rfl rfl hsZ (by omega) (by omega) ?_
          rintro A34 r35 hA36 hl37 rfl; clear hl37
          refine WL.quiet (d := 41) rfl rfl rfl (q_load1 oneT_3 rfl (rd_cell hA36 rfl)) ?_
          refine WL.quiet (d := 42) rfl rfl rfl (q_add rfl rfl (w64 (by omega))) ?_
          refine WL.quiet (d := 5) rfl rfl rfl (q_assign rfl) ?_
          refine WL.nil ?_
          refine WX.blockNormal ?_
          refine WX.then ?_
          refine WC.region ?_
          refine WL.quiet (d := 18) rfl rfl rfl (q_move rfl) ?_
          refine WL.quiet (d := 19) rfl rfl rfl (q_add rfl rfl (w64 (by omega))) ?_
          refine WL.quiet (d := 6) rfl rfl rfl (q_assign rfl) ?_
          refine WL.nil ?_
          exact WX.round (G := Int × Int) ⟨(i + 1), (acc + (nth szs i))⟩ ⟨(by first | omega | (dsimp only; omega)), (by first | omega | (dsimp only; omega)), (by first | (dsimp only; rw [heldT_step h0, ha, ← htm]; unfold heldI; first | (rw [if_pos ‹_›]; done) | (rw [if_neg ‹_›]; omega)) | (rw [heldT_step h0, ha, ← htm]; unfold heldI; first | (rw [if_pos ‹_›]; done) | (rw [if_neg ‹_›]; omega)))⟩ (by first | omega | (dsimp only; omega)) (.cons rfl (.cons rfl (.cons rfl (.cons rfl .nil)))) (.cons .here .nil)
        · have hc33 : ¬ (((nth ats i) ≤ t) ∧ ((nth ens i) > t)) := biffF (biff_and (decide_eq_true_iff) (decide_eq_true_iff)) h; clear h
          refine WC.skip ?_
          refine WX.blockNormal ?_
          refine WX.then ?_
          refine WC.region ?_
          refine WL.quiet (d := 18) rfl rfl rfl (q_move rfl) ?_
          refine WL.quiet (d := 19) rfl rfl rfl (q_add rfl rfl (w64 (by omega))) ?_
          refine WL.quiet (d := 6) rfl rfl rfl (q_assign rfl) ?_
          refine WL.nil ?_
          exact WX.round (G := Int × Int) ⟨(i + 1), acc⟩ ⟨(by first | omega | (dsimp only; omega)), (by first | omega | (dsimp only; omega)), (by first | (dsimp only; rw [heldT_step h0, ha, ← htm]; unfold heldI; first | (rw [if_pos ‹_›]; done) | (rw [if_neg ‹_›]; omega)) | (rw [heldT_step h0, ha, ← htm]; unfold heldI; first | (rw [if_pos ‹_›]; done) | (rw [if_neg ‹_›]; omega)))⟩ (by first | omega | (dsimp only; omega)) (.cons rfl (.cons rfl (.cons rfl (.cons rfl .nil)))) (.cons .here .nil)
    · have hc21 : ¬ (i < ((mA : Nat) : Int)) := biffF (decide_eq_true_iff) h; clear h
      refine WC.exit ?_
      refine WX.thenExit ?_
      refine WX.thenExit ?_
      refine WX.blockHit ?_
      refine WX.then ?_
      refine WC.seq ?_
      refine WC.region ?_
      refine WL.quiet (d := 43) rfl rfl rfl (q_move rfl) ?_
      refine WL.quiet (d := 4) rfl rfl rfl (q_assign rfl) ?_
      refine WL.nil ?_
      refine WX.then ?_
      refine WC.ret ?_
      refine WX.bpRet Try.results13 (.tmp rfl .nil) (fun w hw => ?_)
      exact ⟨ret1 (vint (by rw [ha]; congr 1; omega)), (hw.sub .nil)⟩

def rputR (slow delay store now : Int) (ats szs ens : List Int) (t size : Int) : Int × Int × Int × List Int × List Int × List Int :=
  if size < 1 ∨ size > 72 ∨ t < now ∨ t > 1073741824 then (0, 2, now, ats, szs, ens) else
  if heldT ats szs ens (max t t) ats.length + size > store then (0, 4, t, ats, szs, ens) else
  let fin := (if 0 < ens.length ∧ nth ens (ens.length - 1) > t + delay then nth ens (ens.length - 1) else t + delay) + size * slow
  (fin, 0, t, ats ++ [t], szs ++ [size], ens ++ [fin])

set_option maxRecDepth 20000 in
theorem rput_c (slow delay store now : Int) (aoA : Option Addr) (mA capA : Nat) (ats : List Int) (aoZ : Option Addr) (mZ capZ : Nat) (szs : List Int) (aoE : Option Addr) (mE capE : Nat) (ens : List Int) (t size : Int) (w₀ : World)
    (hlm : mA = ats.length ∧ mZ = szs.length ∧ mE = ens.length)
    (hl : szs.length = ats.length ∧ ens.length = ats.length ∧ ats.length ≤ 1099511627776)
    (hz : ∀ x ∈ szs, 1 ≤ x ∧ x ≤ 72)
    (he : ∀ x ∈ ens, 0 ≤ x ∧ x ≤ 4611686018427387904)
    (hb : 1 ≤ slow ∧ slow ≤ 16 ∧ 0 ≤ delay ∧ delay ≤ 1000 ∧ 0 ≤ store ∧ store ≤ 1073741824 ∧ 0 ≤ now)
    (hown : Hp (fps [row (.slice aoA mA capA) 3 1 (ats.flatMap intE), row (.slice aoZ mZ capZ) 3 1 (szs.flatMap intE), row (.slice aoE mE capE) 3 1 (ens.flatMap intE)]) w₀ w₀ [row (.slice aoA mA capA) 3 1 (ats.flatMap intE), row (.slice aoZ mZ capZ) 3 1 (szs.flatMap intE), row (.slice aoE mE capE) 3 1 (ens.flatMap intE)]) :
    Calls Try.prog 17 #[(.agg #[(.int .i64 slow), (.int .i64 delay), (.int .i64 store), (.int .i64 now), (.slice aoA mA capA), (.slice aoZ mZ capZ), (.slice aoE mE capE)]), (.int .i64 t), (.int .i64 size)] w₀ fun e w' => ∃ r : Int, ∃ er : Int, ∃ now' : Int, ∃ ats' : List Int, ∃ szs' : List Int, ∃ ens' : List Int, ∃ aoA' : Option Addr, ∃ mA' : Nat, ∃ capA' : Nat, ∃ aoZ' : Option Addr, ∃ mZ' : Nat, ∃ capZ' : Nat, ∃ aoE' : Option Addr, ∃ mE' : Nat, ∃ capE' : Nat, e = .returned (.tuple #[(.agg #[(.int .i64 slow), (.int .i64 delay), (.int .i64 store), (.int .i64 now'), (.slice aoA' mA' capA'), (.slice aoZ' mZ' capZ'), (.slice aoE' mE' capE')]), (.int .i64 r), (.int .i64 er)]) ∧ ((rputR slow delay store now ats szs ens t size = (r, er, now', ats', szs', ens')) ∧ (mA' = ats'.length ∧ mZ' = szs'.length ∧ mE' = ens'.length)) ∧ Hp (fps [row (.slice aoA mA capA) 3 1 (ats.flatMap intE), row (.slice aoZ mZ capZ) 3 1 (szs.flatMap intE), row (.slice aoE mE capE) 3 1 (ens.flatMap intE)]) w₀ w' [row (.slice aoA' mA' capA') 3 1 (ats'.flatMap intE), row (.slice aoZ' mZ' capZ') 3 1 (szs'.flatMap intE), row (.slice aoE' mE' capE') 3 1 (ens'.flatMap intE)] := by
  refine Calls.ofWC (vs := [(.agg #[(.int .i64 slow), (.int .i64 delay), (.int .i64 store), (.int .i64 now), (.slice aoA mA capA), (.slice aoZ mZ capZ), (.slice aoE mE capE)]), (.int .i64 t), (.int .i64 size)]) (pre := [row (.slice aoA mA capA) 3 1 (ats.flatMap intE), row (.slice aoZ mZ capZ) 3 1 (szs.flatMap intE), row (.slice aoE mE capE) 3 1 (ens.flatMap intE)]) (env := [(0, (.agg #[(.int .i64 slow), (.int .i64 delay), (.int .i64 store), (.int .i64 now), (.slice aoA mA capA), (.slice aoZ mZ capZ), (.slice aoE mE capE)])), (1, (.int .i64 t)), (2, (.int .i64 size))]) Try.func17 rfl Try.ntmps17 rfl (hown) rfl ?_
  refine WC.seq ?_
  refine WC.region ?_
  refine WL.new (dd := 3) rfl rfl rfl (e_box (cs := [(.int .i64 slow), (.int .i64 delay), (.int .i64 store), (.int .i64 now), (.slice aoA mA capA), (.slice aoZ mZ capZ), (.slice aoE mE capE)]) rfl rfl) ?_
  intro b1 _
  refine WL.new (dd := 6) rfl rfl rfl (e_alloc (cs := [(.int .i64 0), (.int .i64 0), (.int .i64 0), (.int .i64 0), (.slice none 0 0), (.slice none 0 0), (.slice none 0 0)]) zeroT_29 rfl) ?_
  intro b2 _
  refine WL.quiet (d := 7) rfl rfl rfl (q_assign rfl) ?_
  refine WL.quiet (d := 8) rfl rfl rfl (q_assign rfl) ?_
  refine WL.nil ?_
  refine WX.then ?_
  refine WC.seq ?_
  refine WC.seq ?_
  refine WC.region ?_
  refine WL.quiet (d := 11) rfl rfl rfl (q_move rfl) ?_
  refine WL.quiet (d := 12) rfl rfl rfl (q_lss rfl rfl) ?_
  refine WL.quiet (d := 13) rfl rfl rfl (q_move rfl) ?_
  refine WL.cut0 True [(0, (.agg #[(.int .i64 slow), (.int .i64 delay), (.int .i64 store), (.int .i64 now), (.slice aoA mA capA), (.slice aoZ mZ capZ), (.slice aoE mE capE)])), (1, (.int .i64 t)), (2, (.int .i64 size)), (3, (.pointer (some ⟨b1, 0, none⟩))), (6, (.pointer (some ⟨b2, 0, none⟩))), (7, (.int .i64 0)), (8, (.int .i64 0)), (16, (.bool ((decide (size < 1)) || (decide (size > 72)))))] [stb b2 29 [(.int .i64 0), (.int .i64 0), (.int .i64 0), (.int .i64 0), (.slice none 0 0), (.slice none 0 0), (.slice none 0 0)], stb b1 29 [(.int .i64 slow), (.int .i64 delay), (.int .i64 store), (.int .i64 now), (.slice aoA mA capA), (.slice aoZ mZ capZ), (.slice aoE mE capE)], row (.slice aoA mA capA) 3 1 (ats.flatMap intE), row (.slice aoZ mZ capZ) 3 1 (szs.flatMap intE), row (.slice aoE mE capE) 3 1 (ens.flatMap intE)] 3 ?_ (fun _ => ?_)
  · by_cases hb3 : size < 1
    · refine WL.pin (i := 13) rfl (bT (decide_eq_true_iff) hb3) ?_
      refine WL.skip rfl rfl rfl ?_
      refine WL.skip rfl rfl rfl ?_
      refine WL.quiet (d := 16) rfl rfl rfl (q_pickT rfl rfl) ?_
      exact WL.cutEnd () trivial (.cons rfl (.cons rfl (.cons rfl (.cons rfl (.cons rfl (.cons rfl (.cons rfl (.cons (some_bool (or_l (bT (decide_eq_true_iff) hb3))) .nil)))))))) (.cons .here (.cons .here (.cons .here (.cons .here (.cons .here .nil)))))
    · refine WL.pin (i := 13) rfl (bF (decide_eq_true_iff) hb3) ?_
      refine WL.quiet (d := 14) rfl rfl rfl (q_move rfl) ?_
      refine WL.quiet (d := 15) rfl rfl rfl (q_gtr rfl rfl) ?_
      refine WL.quiet (d := 16) rfl rfl rfl (q_pickF rfl rfl) ?_
      exact WL.cutEnd () trivial (.cons rfl (.cons rfl (.cons rfl (.cons rfl (.cons rfl (.cons rfl (.cons rfl (.cons (some_bool (or_r (bF (decide_eq_true_iff) hb3))) .nil)))))))) (.cons .here (.cons .here (.cons .here (.cons .here (.cons .here .nil)))))
  · skip
    refine WL.quiet (d := 17) rfl rfl rfl (q_move rfl) ?_
    refine WL.cut0 True [(0, (.agg #[(.int .i64 slow), (.int .i64 delay), (.int .i64 store), (.int .i64 now), (.slice aoA mA capA), (.slice aoZ mZ capZ), (.slice aoE mE capE)])), (1, (.int .i64 t)), (2, (.int .i64 size)), (3, (.pointer (some ⟨b1, 0, none⟩))), (6, (.pointer (some ⟨b2, 0, none⟩))), (7, (.int .i64 0)), (8, (.int .i64 0)), (22, (.bool (((decide (size < 1)) || (decide (size > 72))) || (decide (t < now)))))] [stb b2 29 [(.int .i64 0), (.int .i64 0), (.int .i64 0), (.int .i64 0), (.slice none 0 0), (.slice none 0 0), (.slice none 0 0)], stb b1 29 [(.int .i64 slow), (.int .i64 delay), (.int .i64 store), (.int .i64 now), (.slice aoA mA capA), (.slice aoZ mZ capZ), (.slice aoE mE capE)], row (.slice aoA mA capA) 3 1 (ats.flatMap intE), row (.slice aoZ mZ capZ) 3 1 (szs.flatMap intE), row (.slice aoE mE capE) 3 1 (ens.flatMap intE)] 5 ?_ (fun _ => ?_)
    · by_cases hb4 : (size < 1) ∨ (size > 72)
      · refine WL.pin (i := 17) rfl (bT (biff_or (decide_eq_true_iff) (decide_eq_true_iff)) hb4) ?_
        refine WL.skip rfl rfl rfl ?_
        refine WL.skip rfl rfl rfl ?_
        refine WL.skip rfl rfl rfl ?_
        refine WL.skip rfl rfl rfl ?_
        refine WL.quiet (d := 22) rfl rfl rfl (q_pickT rfl rfl) ?_
        exact WL.cutEnd () trivial (.cons rfl (.cons rfl (.cons rfl (.cons rfl (.cons rfl (.cons rfl (.cons rfl (.cons (some_bool (or_l (bT (biff_or (decide_eq_true_iff) (decide_eq_true_iff)) hb4))) .nil)))))))) (.cons .here (.cons .here (.cons .here (.cons .here (.cons .here .nil)))))
      · refine WL.pin (i := 17) rfl (bF (biff_or (decide_eq_true_iff) (decide_eq_true_iff)) hb4) ?_
        refine WL.quiet (d := 18) rfl rfl rfl (q_move rfl) ?_
        refine WL.quiet (d := 19) rfl rfl rfl (q_fieldAddr fo_29_3 rfl rfl) ?_
        refine WL.quiet (d := 20) rfl rfl rfl (q_load1 oneT_3 rfl (rd_stb (.there .here) rfl)) ?_
        refine WL.quiet (d := 21) rfl rfl rfl (q_lss rfl rfl) ?_
        refine WL.quiet (d := 22) rfl rfl rfl (q_pickF rfl rfl) ?_
        exact WL.cutEnd () trivial (.cons rfl (.cons rfl (.cons rfl (.cons rfl (.cons rfl (.cons rfl (.cons rfl (.cons (some_bool (or_r (bF (biff_or (decide_eq_true_iff) (decide_eq_true_iff)) hb4))) .nil)))))))) (.cons .here (.cons .here (.cons .here (.cons .here (.cons .here .nil)))))
    · skip
      refine WL.quiet (d := 23) rfl rfl rfl (q_move rfl) ?_
      refine WL.cut0 True [(0, (.agg #[(.int .i64 slow), (.int .i64 delay), (.int .i64 store), (.int .i64 now), (.slice aoA mA capA), (.slice aoZ mZ capZ), (.slice aoE mE capE)])), (1, (.int .i64 t)), (2, (.int .i64 size)), (3, (.pointer (some ⟨b1, 0, none⟩))), (6, (.pointer (some ⟨b2, 0, none⟩))), (7, (.int .i64 0)), (8, (.int .i64 0)), (26, (.bool ((((decide (size < 1)) || (decide (size > 72))) || (decide (t < now))) || (decide (t > 1073741824)))))] [stb b2 29 [(.int .i64 0), (.int .i64 0), (.int .i64 0), (.int .i64 0), (.slice none 0 0), (.slice none 0 0), (.slice none 0 0)], stb b1 29 [(.int .i64 slow), (.int .i64 delay), (.int .i64 store), (.int .i64 now), (.slice aoA mA capA), (.slice aoZ mZ capZ), (.slice aoE mE capE)], row (.slice aoA mA capA) 3 1 (ats.flatMap intE), row (.slice aoZ mZ capZ) 3 1 (szs.flatMap intE), row (.slice aoE mE capE) 3 1 (ens.flatMap intE)] 3 ?_ (fun _ => ?_)
      · by_cases hb5 : ((size < 1) ∨ (size > 72)) ∨ (t < now)
        · refine WL.pin (i := 23) rfl (bT (biff_or (biff_or (decide_eq_true_iff) (decide_eq_true_iff)) (decide_eq_true_iff)) hb5) ?_
          refine WL.skip rfl rfl rfl ?_
          refine WL.skip rfl rfl rfl ?_
          refine WL.quiet (d := 26) rfl rfl rfl (q_pickT rfl rfl) ?_
          exact WL.cutEnd () trivial (.cons rfl (.cons rfl (.cons rfl (.cons rfl (.cons rfl (.cons rfl (.cons rfl (.cons (some_bool (or_l (bT (biff_or (biff_or (decide_eq_true_iff) (decide_eq_true_iff)) (decide_eq_true_iff)) hb5))) .nil)))))))) (.cons .here (.cons .here (.cons .here (.cons .here (.cons .here .nil)))))
        · refine WL.pin (i := 23) rfl (bF (biff_or (biff_or (decide_eq_true_iff) (decide_eq_true_iff)) (decide_eq_true_iff)) hb5) ?_
          refine WL.quiet (d := 24) rfl rfl rfl (q_move rfl) ?_
          refine WL.quiet (d := 25) rfl rfl rfl (q_gtr rfl rfl) ?_
          refine WL.quiet (d := 26) rfl rfl rfl (q_pickF rfl rfl) ?_
          exact WL.cutEnd () trivial (.cons rfl (.cons rfl (.cons rfl (.cons rfl (.cons rfl (.cons rfl (.cons rfl (.cons (some_bool (or_r (bF (biff_or (biff_or (decide_eq_true_iff) (decide_eq_true_iff)) (decide_eq_true_iff)) hb5))) .nil)))))))) (.cons .here (.cons .here (.cons .here (.cons .here (.cons .here .nil)))))
      · skip
        refine WL.nil ?_
        refine WX.then ?_
        refine WC.cond rfl (fun h => ?_) (fun h => ?_)
        · have hc6 : (((size < 1) ∨ (size > 72)) ∨ (t < now)) ∨ (t > 1073741824) := ((biff_or (biff_or (biff_or (decide_eq_true_iff) (decide_eq_true_iff)) (decide_eq_true_iff)) (decide_eq_true_iff))).1 h; clear h
          refine WC.seq ?_
          refine WC.region ?_
          refine WL.quiet (d := 27) rfl rfl rfl (q_loadA (cs := [(.int .i64 slow), (.int .i64 delay), (.int .i64 store), (.int .i64 now), (.slice aoA mA capA), (.slice aoZ mZ capZ), (.slice aoE mE capE)]) aggT_29 rfl rfl (rd_all (.there .here))) ?_
          refine WL.eff0 rfl rfl (e_store (vs := [(.int .i64 slow), (.int .i64 delay), (.int .i64 store), (.int .i64 now), (.slice aoA mA capA), (.slice aoZ mZ capZ), (.slice aoE mE capE)]) (ds := [(.int .i64 slow), (.int .i64 delay), (.int .i64 store), (.int .i64 now), (.slice aoA mA capA), (.slice aoZ mZ capZ), (.slice aoE mE capE)]) sizT_29 rfl rfl rfl rfl (oc_cons rfl (oc_cons rfl (oc_cons rfl (oc_cons rfl (oc_cons rfl (oc_cons rfl (oc_cons rfl oc_nil))))))) .here (Nat.le_of_ble_eq_true rfl) rfl) ?_
          refine WL.quiet (d := 7) rfl rfl rfl (q_assign rfl) ?_
          refine WL.quiet (d := 8) rfl rfl rfl (q_assign rfl) ?_
          refine WL.nil ?_
          refine WX.then ?_
          refine WC.ret ?_
          refine WX.thenRet ?_
          refine WX.bpRet Try.results17 (.agg rfl aggT_29 rfl (rd_all .here) (.tmp rfl (.tmp rfl .nil))) (fun w hw => ?_)
          exact ⟨0, 2, now, ats, szs, ens, aoA, mA, capA, aoZ, mZ, capZ, aoE, mE, capE, ret3 rfl rfl rfl, ⟨(by unfold rputR; rw [← hlm.2.2]; first | (rw [if_pos (by omega)]; done) | (rw [if_neg (by omega), if_pos (by omega)]; done) | (rw [if_neg (by omega), if_neg (by omega)]; simp only []; rw [if_pos (by omega)]; done) | (rw [if_neg (by omega), if_neg (by omega)]; simp only []; rw [if_neg (by omega)]; done)), (by refine ⟨?_, ?_, ?_⟩ <;> first | omega | (simp; omega))⟩, (hw.sub (.cons (.there (.there .here)) (.cons (.there (.there .here)) (.cons (.there (.there .here)) .nil))))⟩
        · have hc6 : ¬ ((((size < 1) ∨ (size > 72)) ∨ (t < now)) ∨ (t > 1073741824)) := biffF (biff_or (biff_or (biff_or (decide_eq_true_iff) (decide_eq_true_iff)) (decide_eq_true_iff)) (decide_eq_true_iff)) h; clear h
          have hmu := mul_bd (a := size) (b := slow) (A := 72) (B := 16) (by omega) (by omega) (by omega) (by omega)
          have hbd := heldT_bd (ats := ats) (ens := ens) (t := max t t) hz ats.length (by omega)
          have hen : 0 < ens.length → 0 ≤ nth ens (((mE : Nat) : Int) - 1) ∧ nth ens (((mE : Nat) : Int) - 1) ≤ 4611686018427387904 := fun h => he _ (nth_mem (by omega) (by omega))
          refine WC.skip ?_
          refine WX.then ?_
          refine WC.seq ?_
          refine WC.region ?_
          refine WL.quiet (d := 28) rfl rfl rfl (q_move rfl) ?_
          refine WL.quiet (d := 29) rfl rfl rfl (q_fieldAddr fo_29_3 rfl rfl) ?_
          refine WL.eff0 rfl rfl (e_store (vs := [(.int .i64 t)]) (ds := [(.int .i64 slow), (.int .i64 delay), (.int .i64 store), (.int .i64 t), (.slice aoA mA capA), (.slice aoZ mZ capZ), (.slice aoE mE capE)]) sizT_3 rfl rfl rfl rfl (oc_cons rfl oc_nil) (.there .here) (Nat.le_of_ble_eq_true rfl) rfl) ?_
          refine WL.nil ?_
          refine WX.then ?_
          refine WC.seq ?_
          refine WC.seq ?_
          refine WC.draw (fun i => [].contains i) [] rfl ?_
          refine WD.quiet (i := 0) (d := 30) (by kernel_rfl) rfl (by kernel_rfl) (by kernel_rfl) rfl rfl rfl (q_loadA (cs := [(.int .i64 slow), (.int .i64 delay), (.int .i64 store), (.int .i64 t), (.slice aoA mA capA), (.slice aoZ mZ capZ), (.slice aoE mE capE)]) aggT_29 rfl rfl (rd_all .here)) ?_
          refine WD.pure (i := 1) (d := 31) (by kernel_rfl) rfl (by kernel_rfl) (by kernel_rfl) rfl rfl rfl (fun _ => q_move rfl) ?_
          refine WD.enter (i := 2) (d := 32) (by kernel_rfl) rfl (by kernel_rfl) (by kernel_rfl) rfl rfl rfl (run_call (l := [.tmp 30, .tmp 31]) Try.call13 (.cons rfl (.cons rfl .nil))) (fun w hw => rheld_c (slow := slow) (delay := delay) (store := store) (now := t) (aoA := aoA) (mA := mA) (capA := capA) (ats := ats) (aoZ := aoZ) (mZ := mZ) (capZ := capZ) (szs := szs) (aoE := aoE) (mE := mE) (capE := capE) (ens := ens) (t := t) (w₀ := w) (hw.slpRow .nil (.there (.there .here)) (fun _ _ => rfl) (by decide)) (hw.slpRow .nil (.there (.there (.there .here))) (fun _ _ => rfl) (by decide)) (hw.slpRow .nil (.there (.there (.there (.there .here)))) (fun _ _ => rfl) (by decide)) (by omega) (by assumption)) ?_
          refine WD.pure (i := 3) (d := 33) (by kernel_rfl) rfl (by kernel_rfl) (by kernel_rfl) rfl rfl rfl (fun _ => q_move rfl) ?_
          refine WD.pure (i := 4) (d := 34) (by kernel_rfl) rfl (by kernel_rfl) (by kernel_rfl) rfl rfl rfl (fun _ => q_add rfl rfl (w64 (by omega))) ?_
          refine WD.pure (i := 5) (d := 35) (by kernel_rfl) rfl (by kernel_rfl) (by kernel_rfl) rfl rfl rfl (fun _ => q_fieldAddr fo_29_2 rfl rfl) ?_
          refine WD.quiet (i := 6) (d := 36) (by kernel_rfl) rfl (by kernel_rfl) (by kernel_rfl) rfl rfl rfl (q_load1 oneT_3 rfl (rd_stb .here rfl)) ?_
          refine WD.pure (i := 7) (d := 37) (by kernel_rfl) rfl (by kernel_rfl) (by kernel_rfl) rfl rfl rfl (fun _ => q_gtr rfl rfl) ?_
          refine WD.done (by kernel_rfl) ?_
          refine WX.then ?_
          refine WC.cond rfl (fun h => ?_) (fun h => ?_)
          · have hc7 : ((heldT ats szs ens (max t t) ats.length) + size) > store := ((decide_eq_true_iff)).1 h; clear h
            refine WC.seq ?_
            refine WC.region ?_
            refine WL.quiet (d := 38) rfl rfl rfl (q_loadA (cs := [(.int .i64 slow), (.int .i64 delay), (.int .i64 store), (.int .i64 t), (.slice aoA mA capA), (.slice aoZ mZ capZ), (.slice aoE mE capE)]) aggT_29 rfl rfl (rd_all .here)) ?_
            refine WL.eff0 rfl rfl (e_store (vs := [(.int .i64 slow), (.int .i64 delay), (.int .i64 store), (.int .i64 t), (.slice aoA mA capA), (.slice aoZ mZ capZ), (.slice aoE mE capE)]) (ds := [(.int .i64 slow), (.int .i64 delay), (.int .i64 store), (.int .i64 t), (.slice aoA mA capA), (.slice aoZ mZ capZ), (.slice aoE mE capE)]) sizT_29 rfl rfl rfl rfl (oc_cons rfl (oc_cons rfl (oc_cons rfl (oc_cons rfl (oc_cons rfl (oc_cons rfl (oc_cons rfl oc_nil))))))) (.there .here) (Nat.le_of_ble_eq_true rfl) rfl) ?_
            refine WL.quiet (d := 7) rfl rfl rfl (q_assign rfl) ?_
            refine WL.quiet (d := 8) rfl rfl rfl (q_assign rfl) ?_
            refine WL.nil ?_
            refine WX.then ?_
            refine WC.ret ?_
            refine WX.thenRet ?_
            refine WX.bpRet Try.results17 (.agg rfl aggT_29 rfl (rd_all .here) (.tmp rfl (.tmp rfl .nil))) (fun w hw => ?_)
            exact ⟨0, 4, t, ats, szs, ens, aoA, mA, capA, aoZ, mZ, capZ, aoE, mE, capE, ret3 rfl rfl rfl, ⟨(by unfold rputR; rw [← hlm.2.2]; first | (rw [if_pos (by omega)]; done) | (rw [if_neg (by omega), if_pos (by omega)]; done) | (rw [if_neg (by omega), if_neg (by omega)]; simp only []; rw [if_pos (by omega)]; done) | (rw [if_neg (by omega), if_neg (by omega)]; simp only []; rw [if_neg (by omega)]; done)), (by refine ⟨?_, ?_, ?_⟩ <;> first | omega | (simp; omega))⟩, (hw.sub (.cons (.there (.there .here)) (.cons (.there (.there .here)) (.cons (.there (.there .here)) .nil))))⟩
          · have hc7 : ¬ (((heldT ats szs ens (max t t) ats.length) + size) > store) := biffF (decide_eq_true_iff) h; clear h
            refine WC.skip ?_
            refine WX.then ?_
            refine WC.seq ?_
            refine WC.region ?_
            refine WL.quiet (d := 39) rfl rfl rfl (q_move rfl) ?_
            refine WL.quiet (d := 40) rfl rfl rfl (q_fieldAddr fo_29_1 rfl rfl) ?_
            refine WL.quiet (d := 41) rfl rfl rfl (q_load1 oneT_3 rfl (rd_stb .here rfl)) ?_
            refine WL.quiet (d := 42) rfl rfl rfl (q_add rfl rfl (w64 (by omega))) ?_
            refine WL.quiet (d := 9) rfl rfl rfl (q_assign rfl) ?_
            refine WL.nil ?_
            refine WX.then ?_
            refine WC.seq ?_
            refine WC.seq ?_
            refine WC.region ?_
            refine WL.quiet (d := 43) rfl rfl rfl (q_fieldAddr fo_29_6 rfl rfl) ?_
            refine WL.quiet (d := 44) rfl rfl rfl (q_load1 oneT_27 rfl (rd_stb .here rfl)) ?_
            refine WL.quiet (d := 45) rfl rfl rfl (q_len Try.underlying27 rfl) ?_
            refine WL.quiet (d := 46) rfl rfl rfl (q_gtr rfl rfl) ?_
            refine WL.quiet (d := 47) rfl rfl rfl (q_move rfl) ?_
            refine WL.cut0 True [(0, (.agg #[(.int .i64 slow), (.int .i64 delay), (.int .i64 store), (.int .i64 now), (.slice aoA mA capA), (.slice aoZ mZ capZ), (.slice aoE mE capE)])), (1, (.int .i64 t)), (2, (.int .i64 size)), (3, (.pointer (some ⟨b1, 0, none⟩))), (6, (.pointer (some ⟨b2, 0, none⟩))), (7, (.int .i64 0)), (8, (.int .i64 0)), (26, (.bool ((((decide (size < 1)) || (decide (size > 72))) || (decide (t < now))) || (decide (t > 1073741824))))), (37, (.bool (decide (((heldT ats szs ens (max t t) ats.length) + size) > store)))), (9, (.int .i64 (t + delay))), (58, (.bool ((decide (((mE : Nat) : Int) > 0)) && (decide ((nth ens (((mE : Nat) : Int) - 1)) > (t + delay))))))] [stb b1 29 [(.int .i64 slow), (.int .i64 delay), (.int .i64 store), (.int .i64 t), (.slice aoA mA capA), (.slice aoZ mZ capZ), (.slice aoE mE capE)], stb b2 29 [(.int .i64 0), (.int .i64 0), (.int .i64 0), (.int .i64 0), (.slice none 0 0), (.slice none 0 0), (.slice none 0 0)], row (.slice aoA mA capA) 3 1 (ats.flatMap intE), row (.slice aoZ mZ capZ) 3 1 (szs.flatMap intE), row (.slice aoE mE capE) 3 1 (ens.flatMap intE)] 11 ?_ (fun _ => ?_)
            · by_cases hb8 : ((mE : Nat) : Int) > 0
              · refine WL.pin (i := 47) rfl (bT (decide_eq_true_iff) hb8) ?_
                refine WL.quiet (d := 48) rfl rfl rfl (q_fieldAddr fo_29_6 rfl rfl) ?_
                refine WL.quiet (d := 49) rfl rfl rfl (q_load1 oneT_27 rfl (rd_stb .here rfl)) ?_
                refine WL.quiet (d := 50) rfl rfl rfl (q_fieldAddr fo_29_6 rfl rfl) ?_
                refine WL.quiet (d := 51) rfl rfl rfl (q_load1 oneT_27 rfl (rd_stb .here rfl)) ?_
                refine WL.quiet (d := 52) rfl rfl rfl (q_len Try.underlying27 rfl) ?_
                refine WL.quiet (d := 53) rfl rfl rfl (q_sub rfl rfl (w64 (by omega))) ?_
                refine WL.know (fun w hw => Hp.expose (.there (.there (.there (.there .here)))) hw (by omega)) ?_
                rintro ⟨b9, rfl⟩
                refine WL.quiet (d := 54) rfl rfl rfl (q_indexAddr elT_27 rfl rfl (by omega) (by omega) rowAdd) ?_
                refine WL.quiet (d := 55) rfl rfl rfl (q_load1 oneT_3 rfl (rd_row (.there (.there (.there (.there .here)))) ((flat_rd (enc := intE) (l := ens) (sz := 1) (fun _ => rfl) (by omega) (by omega)) 0 _ rfl))) ?_
                refine WL.quiet (d := 56) rfl rfl rfl (q_move rfl) ?_
                refine WL.quiet (d := 57) rfl rfl rfl (q_gtr rfl rfl) ?_
                refine WL.quiet (d := 58) rfl rfl rfl (q_pickT rfl rfl) ?_
                exact WL.cutEnd () trivial (.cons rfl (.cons rfl (.cons rfl (.cons rfl (.cons rfl (.cons rfl (.cons rfl (.cons rfl (.cons rfl (.cons rfl (.cons (some_bool (and_r (bT (decide_eq_true_iff) hb8))) .nil))))))))))) (.cons .here (.cons .here (.cons .here (.cons .here (.cons .here .nil)))))
              · refine WL.pin (i := 47) rfl (bF (decide_eq_true_iff) hb8) ?_
                refine WL.skip rfl rfl rfl ?_
                refine WL.skip rfl rfl rfl ?_
                refine WL.skip rfl rfl rfl ?_
                refine WL.skip rfl rfl rfl ?_
                refine WL.skip rfl rfl rfl ?_
                refine WL.skip rfl rfl rfl ?_
                refine WL.skip rfl rfl rfl ?_
                refine WL.skip rfl rfl rfl ?_
                refine WL.skip rfl rfl rfl ?_
                refine WL.skip rfl rfl rfl ?_
                refine WL.quiet (d := 58) rfl rfl rfl (q_pickF rfl rfl) ?_
                exact WL.cutEnd () trivial (.cons rfl (.cons rfl (.cons rfl (.cons rfl (.cons rfl (.cons rfl (.cons rfl (.cons rfl (.cons rfl (.cons rfl (.cons (some_bool (and_l (bF (decide_eq_true_iff) hb8))) .nil))))))))))) (.cons .here (.cons .here (.cons .here (.cons .here (.cons .here .nil)))))
            · skip
              refine WL.nil ?_
              refine WX.then ?_
              refine WC.cond rfl (fun h => ?_) (fun h => ?_)
              · have hc10 : (((mE : Nat) : Int) > 0) ∧ ((nth ens (((mE : Nat) : Int) - 1)) > (t + delay)) := ((biff_and (decide_eq_true_iff) (decide_eq_true_iff))).1 h; clear h
                refine WC.region ?_
                refine WL.quiet (d := 59) rfl rfl rfl (q_fieldAddr fo_29_6 rfl rfl) ?_
                refine WL.quiet (d := 60) rfl rfl rfl (q_load1 oneT_27 rfl (rd_stb .here rfl)) ?_
                refine WL.quiet (d := 61) rfl rfl rfl (q_fieldAddr fo_29_6 rfl rfl) ?_
                refine WL.quiet (d := 62) rfl rfl rfl (q_load1 oneT_27 rfl (rd_stb .here rfl)) ?_
                refine WL.quiet (d := 63) rfl rfl rfl (q_len Try.underlying27 rfl) ?_
                refine WL.quiet (d := 64) rfl rfl rfl (q_sub rfl rfl (w64 (by omega))) ?_
                refine WL.know (fun w hw => Hp.expose (.there (.there (.there (.there .here)))) hw (by omega)) ?_
                rintro ⟨b11, rfl⟩
                refine WL.quiet (d := 65) rfl rfl rfl (q_indexAddr elT_27 rfl rfl (by omega) (by omega) rowAdd) ?_
                refine WL.quiet (d := 66) rfl rfl rfl (q_load1 oneT_3 rfl (rd_row (.there (.there (.there (.there .here)))) ((flat_rd (enc := intE) (l := ens) (sz := 1) (fun _ => rfl) (by omega) (by omega)) 0 _ rfl))) ?_
                refine WL.quiet (d := 9) rfl rfl rfl (q_assign rfl) ?_
                refine WL.nil ?_
                refine WX.then ?_
                refine WC.seq ?_
                refine WC.region ?_
                refine WL.quiet (d := 67) rfl rfl rfl (q_move rfl) ?_
                refine WL.quiet (d := 68) rfl rfl rfl (q_move rfl) ?_
                refine WL.quiet (d := 69) rfl rfl rfl (q_fieldAddr fo_29_0 rfl rfl) ?_
                refine WL.quiet (d := 70) rfl rfl rfl (q_load1 oneT_3 rfl (rd_stb .here rfl)) ?_
                refine WL.quiet (d := 71) rfl rfl rfl (q_mul rfl rfl (w64 (by omega))) ?_
                refine WL.quiet (d := 72) rfl rfl rfl (q_add rfl rfl (w64 (by omega))) ?_
                refine WL.quiet (d := 10) rfl rfl rfl (q_assign rfl) ?_
                refine WL.nil ?_
                refine WX.then ?_
                refine WC.seq ?_
                refine WC.region ?_
                refine WL.new (dd := 73) rfl rfl rfl (e_buildSlice (cs := []) elT_27 (Eos.parts (l := []) .nil []) (fun _ => by kernel_rfl) rfl (by unfold maxLen; omega)) ?_
                intro b12 _
                refine WL.quiet (d := 74) rfl rfl rfl (q_fieldAddr fo_29_4 rfl rfl) ?_
                refine WL.quiet (d := 75) rfl rfl rfl (q_load1 oneT_27 rfl (rd_stb (.there .here) rfl)) ?_
                refine WL.eff (d := 76) rfl rfl rfl (e_append elT_27 rfl rfl .here (by rw [flat_len (enc := intE) (sz := 1) (fun _ => rfl)]; omega) (news_row (.there (.there (.there .here)))) (oc_flat intE_oc _) (by unfold maxLen; omega) (by omega)) ?_
                rintro ⟨ao13, cap14⟩ _
                refine WL.rowEq .here (show _ = ats.flatMap intE from by simp [intE]) ?_
                refine WL.quiet (d := 77) rfl rfl rfl (q_move rfl) ?_
                refine WL.new (dd := 78) rfl rfl rfl (e_buildSlice (cs := [(.int .i64 t)]) elT_27 (Eos.parts (l := [.tmp 77]) (.cons rfl .nil) [0]) (fun _ => by kernel_rfl) rfl (by unfold maxLen; omega)) ?_
                intro b15 _
                refine WL.eff (d := 79) rfl rfl rfl (e_append elT_27 rfl rfl (.there .here) (by rfl) (news_row .here) (oc_cons rfl oc_nil) (by unfold maxLen; omega) (by omega)) ?_
                rintro ⟨ao16, cap17⟩ _
                refine WL.rowEq .here (show _ = (ats ++ [t]).flatMap intE from by simp [intE]) ?_
                refine WL.quiet (d := 80) rfl rfl rfl (q_fieldAddr fo_29_4 rfl rfl) ?_
                refine WL.eff0 rfl rfl (e_store (vs := [(.slice ao16 ((0 + mA) + 1) cap17)]) (ds := [(.int .i64 slow), (.int .i64 delay), (.int .i64 store), (.int .i64 t), (.slice ao16 ((0 + mA) + 1) cap17), (.slice aoZ mZ capZ), (.slice (some ⟨b11, 0, none⟩) mE capE)]) sizT_27 rfl rfl rfl rfl (oc_cons rfl oc_nil) (.there (.there .here)) (Nat.le_of_ble_eq_true rfl) rfl) ?_
                refine WL.nil ?_
                refine WX.then ?_
                refine WC.seq ?_
                refine WC.region ?_
                refine WL.new (dd := 81) rfl rfl rfl (e_buildSlice (cs := []) elT_27 (Eos.parts (l := []) .nil []) (fun _ => by kernel_rfl) rfl (by unfold maxLen; omega)) ?_
                intro b18 _
                refine WL.quiet (d := 82) rfl rfl rfl (q_fieldAddr fo_29_5 rfl rfl) ?_
                refine WL.quiet (d := 83) rfl rfl rfl (q_load1 oneT_27 rfl (rd_stb (.there .here) rfl)) ?_
                refine WL.eff (d := 84) rfl rfl rfl (e_append elT_27 rfl rfl .here (by rw [flat_len (enc := intE) (sz := 1) (fun _ => rfl)]; omega) (news_row (.there (.there (.there (.there (.there (.there .here))))))) (oc_flat intE_oc _) (by unfold maxLen; omega) (by omega)) ?_
                rintro ⟨ao19, cap20⟩ _
                refine WL.rowEq .here (show _ = szs.flatMap intE from by simp [intE]) ?_
                refine WL.quiet (d := 85) rfl rfl rfl (q_move rfl) ?_
                refine WL.new (dd := 86) rfl rfl rfl (e_buildSlice (cs := [(.int .i64 size)]) elT_27 (Eos.parts (l := [.tmp 85]) (.cons rfl .nil) [0]) (fun _ => by kernel_rfl) rfl (by unfold maxLen; omega)) ?_
                intro b21 _
                refine WL.eff (d := 87) rfl rfl rfl (e_append elT_27 rfl rfl (.there .here) (by rfl) (news_row .here) (oc_cons rfl oc_nil) (by unfold maxLen; omega) (by omega)) ?_
                rintro ⟨ao22, cap23⟩ _
                refine WL.rowEq .here (show _ = (szs ++ [size]).flatMap intE from by simp [intE]) ?_
                refine WL.quiet (d := 88) rfl rfl rfl (q_fieldAddr fo_29_5 rfl rfl) ?_
                refine WL.eff0 rfl rfl (e_store (vs := [(.slice ao22 ((0 + mZ) + 1) cap23)]) (ds := [(.int .i64 slow), (.int .i64 delay), (.int .i64 store), (.int .i64 t), (.slice ao16 ((0 + mA) + 1) cap17), (.slice ao22 ((0 + mZ) + 1) cap23), (.slice (some ⟨b11, 0, none⟩) mE capE)]) sizT_27 rfl rfl rfl rfl (oc_cons rfl oc_nil) (.there (.there .here)) (Nat.le_of_ble_eq_true rfl) rfl) ?_
                refine WL.nil ?_
                refine WX.then ?_
                refine WC.seq ?_
                refine WC.region ?_
                refine WL.new (dd := 89) rfl rfl rfl (e_buildSlice (cs := []) elT_27 (Eos.parts (l := []) .nil []) (fun _ => by kernel_rfl) rfl (by unfold maxLen; omega)) ?_
                intro b24 _
                refine WL.quiet (d := 90) rfl rfl rfl (q_fieldAddr fo_29_6 rfl rfl) ?_
                refine WL.quiet (d := 91) rfl rfl rfl (q_load1 oneT_27 rfl (rd_stb (.there .here) rfl)) ?_
                refine WL.eff (d := 92) rfl rfl rfl (e_append elT_27 rfl rfl .here (by rw [flat_len (enc := intE) (sz := 1) (fun _ => rfl)]; omega) (news_row (.there (.there (.there (.there (.there (.there (.there (.there (.there .here)))))))))) (oc_flat intE_oc _) (by unfold maxLen; omega) (by omega)) ?_
                rintro ⟨ao25, cap26⟩ _
                refine WL.rowEq .here (show _ = ens.flatMap intE from by simp [intE]) ?_
                refine WL.quiet (d := 93) rfl rfl rfl (q_move rfl) ?_
                refine WL.new (dd := 94) rfl rfl rfl (e_buildSlice (cs := [(.int .i64 ((nth ens (((mE : Nat) : Int) - 1)) + (size * slow)))]) elT_27 (Eos.parts (l := [.tmp 93]) (.cons rfl .nil) [0]) (fun _ => by kernel_rfl) rfl (by unfold maxLen; omega)) ?_
                intro b27 _
                refine WL.eff (d := 95) rfl rfl rfl (e_append elT_27 rfl rfl (.there .here) (by rfl) (news_row .here) (oc_cons rfl oc_nil) (by unfold maxLen; omega) (by omega)) ?_
                rintro ⟨ao28, cap29⟩ _
                refine WL.rowEq .here (show _ = (ens ++ [(nth ens (((mE : Nat) : Int) - 1)) + (size * slow)]).flatMap intE from by simp [intE]) ?_
                refine WL.quiet (d := 96) rfl rfl rfl (q_fieldAddr fo_29_6 rfl rfl) ?_
                refine WL.eff0 rfl rfl (e_store (vs := [(.slice ao28 ((0 + mE) + 1) cap29)]) (ds := [(.int .i64 slow), (.int .i64 delay), (.int .i64 store), (.int .i64 t), (.slice ao16 ((0 + mA) + 1) cap17), (.slice ao22 ((0 + mZ) + 1) cap23), (.slice ao28 ((0 + mE) + 1) cap29)]) sizT_27 rfl rfl rfl rfl (oc_cons rfl oc_nil) (.there (.there .here)) (Nat.le_of_ble_eq_true rfl) rfl) ?_
                refine WL.nil ?_
                refine WX.then ?_
                refine WC.seq ?_
                refine WC.region ?_
                refine WL.quiet (d := 97) rfl rfl rfl (q_loadA (cs := [(.int .i64 slow), (.int .i64 delay), (.int .i64 store), (.int .i64 t), (.slice ao16 ((0 + mA) + 1) cap17), (.slice ao22 ((0 + mZ) + 1) cap23), (.slice ao28 ((0 + mE) + 1) cap29)]) aggT_29 rfl rfl (rd_all .here)) ?_
                refine WL.quiet (d := 98) rfl rfl rfl (q_move rfl) ?_
                refine WL.eff0 rfl rfl (e_store (vs := [(.int .i64 slow), (.int .i64 delay), (.int .i64 store), (.int .i64 t), (.slice ao16 ((0 + mA) + 1) cap17), (.slice ao22 ((0 + mZ) + 1) cap23), (.slice ao28 ((0 + mE) + 1) cap29)]) (ds := [(.int .i64 slow), (.int .i64 delay), (.int .i64 store), (.int .i64 t), (.slice ao16 ((0 + mA) + 1) cap17), (.slice ao22 ((0 + mZ) + 1) cap23), (.slice ao28 ((0 + mE) + 1) cap29)]) sizT_29 rfl rfl rfl rfl (oc_cons rfl (oc_cons rfl (oc_cons rfl (oc_cons rfl (oc_cons rfl (oc_cons rfl (oc_cons rfl oc_nil))))))) (.there (.there (.there (.there (.there (.there (.there .here))))))) (Nat.le_of_ble_eq_true rfl) rfl) ?_
                refine WL.quiet (d := 7) rfl rfl rfl (q_assign rfl) ?_
                refine WL.quiet (d := 8) rfl rfl rfl (q_assign rfl) ?_
                refine WL.nil ?_
                refine WX.then ?_
                refine WC.ret ?_
                refine WX.bpRet Try.results17 (.agg rfl aggT_29 rfl (rd_all .here) (.tmp rfl (.tmp rfl .nil))) (fun w hw => ?_)
                exact ⟨((nth ens (((mE : Nat) : Int) - 1)) + (size * slow)), 0, t, (ats ++ [t]), (szs ++ [size]), (ens ++ [(nth ens (((mE : Nat) : Int) - 1)) + (size * slow)]), ao16, ((0 + mA) + 1), cap17, ao22, ((0 + mZ) + 1), cap23, ao28, ((0 + mE) + 1), cap29, ret3 rfl rfl rfl, ⟨(by unfold rputR; rw [← hlm.2.2]; first | (rw [if_pos (by omega)]; done) | (rw [if_neg (by omega), if_pos (by omega)]; done) | (rw [if_neg (by omega), if_neg (by omega)]; simp only []; rw [if_pos (by omega)]; done) | (rw [if_neg (by omega), if_neg (by omega)]; simp only []; rw [if_neg (by omega)]; done)), (by refine ⟨?_, ?_, ?_⟩ <;> first | omega | (simp; omega))⟩, (hw.sub (.cons (.there (.there (.there (.there (.there (.there .here)))))) (.cons (.there (.there (.there (.there .here)))) (.cons (.there (.there .here)) .nil))))⟩
              · have hc10 : ¬ ((((mE : Nat) : Int) > 0) ∧ ((nth ens (((mE : Nat) : Int) - 1)) > (t + delay))) := biffF (biff_and (decide_eq_true_iff) (decide_eq_true_iff)) h; clear h
                refine WC.skip ?_
                refine WX.then ?_
                refine WC.seq ?_
                refine WC.region ?_
                refine WL.quiet (d := 67) rfl rfl rfl (q_move rfl) ?_
                refine WL.quiet (d := 68) rfl rfl rfl (q_move rfl) ?_
                refine WL.quiet (d := 69) rfl rfl rfl (q_fieldAddr fo_29_0 rfl rfl) ?_
                refine WL.quiet (d := 70) rfl rfl rfl (q_load1 oneT_3 rfl (rd_stb .here rfl)) ?_
                refine WL.quiet (d := 71) rfl rfl rfl (q_mul rfl rfl (w64 (by omega))) ?_
                refine WL.quiet (d := 72) rfl rfl rfl (q_add rfl rfl (w64 (by omega))) ?_
                refine WL.quiet (d := 10) rfl rfl rfl (q_assign rfl) ?_
                refine WL.nil ?_
                refine WX.then ?_
                refine WC.seq ?_
                refine WC.region ?_
                refine WL.new (dd := 73) rfl rfl rfl (e_buildSlice (cs := []) elT_27 (Eos.parts (l := []) .nil []) (fun _ => by kernel_rfl) rfl (by unfold maxLen; omega)) ?_
                intro b30 _
                refine WL.quiet (d := 74) rfl rfl rfl (q_fieldAddr fo_29_4 rfl rfl) ?_
                refine WL.quiet (d := 75) rfl rfl rfl (q_load1 oneT_27 rfl (rd_stb (.there .here) rfl)) ?_
                refine WL.eff (d := 76) rfl rfl rfl (e_append elT_27 rfl rfl .here (by rw [flat_len (enc := intE) (sz := 1) (fun _ => rfl)]; omega) (news_row (.there (.there (.there .here)))) (oc_flat intE_oc _) (by unfold maxLen; omega) (by omega)) ?_
                rintro ⟨ao31, cap32⟩ _
                refine WL.rowEq .here (show _ = ats.flatMap intE from by simp [intE]) ?_
                refine WL.quiet (d := 77) rfl rfl rfl (q_move rfl) ?_
                refine WL.new (dd := 78) rfl rfl rfl (e_buildSlice (cs := [(.int .i64 t)]) elT_27 (Eos.parts (l := [.tmp 77]) (.cons rfl .nil) [0]) (fun _ => by kernel_rfl) rfl (by unfold maxLen; omega)) ?_
                intro b33 _
                refine WL.eff (d := 79) rfl rfl rfl (e_append elT_27 rfl rfl (.there .here) (by rfl) (news_row .here) (oc_cons rfl oc_nil) (by unfold maxLen; omega) (by omega)) ?_
                rintro ⟨ao34, cap35⟩ _
                refine WL.rowEq .here (show _ = (ats ++ [t]).flatMap intE from by simp [intE]) ?_
                refine WL.quiet (d := 80) rfl rfl rfl (q_fieldAddr fo_29_4 rfl rfl) ?_
                refine WL.eff0 rfl rfl (e_store (vs := [(.slice ao34 ((0 + mA) + 1) cap35)]) (ds := [(.int .i64 slow), (.int .i64 delay), (.int .i64 store), (.int .i64 t), (.slice ao34 ((0 + mA) + 1) cap35), (.slice aoZ mZ capZ), (.slice aoE mE capE)]) sizT_27 rfl rfl rfl rfl (oc_cons rfl oc_nil) (.there (.there .here)) (Nat.le_of_ble_eq_true rfl) rfl) ?_
                refine WL.nil ?_
                refine WX.then ?_
                refine WC.seq ?_
                refine WC.region ?_
                refine WL.new (dd := 81) rfl rfl rfl (e_buildSlice (cs := []) elT_27 (Eos.parts (l := []) .nil []) (fun _ => by kernel_rfl) rfl (by unfold maxLen; omega)) ?_
                intro b36 _
                refine WL.quiet (d := 82) rfl rfl rfl (q_fieldAddr fo_29_5 rfl rfl) ?_
                refine WL.quiet (d := 83) rfl rfl rfl (q_load1 oneT_27 rfl (rd_stb (.there .here) rfl)) ?_
                refine WL.eff (d := 84) rfl rfl rfl (e_append elT_27 rfl rfl .here (by rw [flat_len (enc := intE) (sz := 1) (fun _ => rfl)]; omega) (news_row (.there (.there (.there (.there (.there (.there .here))))))) (oc_flat intE_oc _) (by unfold maxLen; omega) (by omega)) ?_
                rintro ⟨ao37, cap38⟩ _
                refine WL.rowEq .here (show _ = szs.flatMap intE from by simp [intE]) ?_
                refine WL.quiet (d := 85) rfl rfl rfl (q_move rfl) ?_
                refine WL.new (dd := 86) rfl rfl rfl (e_buildSlice (cs := [(.int .i64 size)]) elT_27 (Eos.parts (l := [.tmp 85]) (.cons rfl .nil) [0]) (fun _ => by kernel_rfl) rfl (by unfold maxLen; omega)) ?_
                intro b39 _
                refine WL.eff (d := 87) rfl rfl rfl (e_append elT_27 rfl rfl (.there .here) (by rfl) (news_row .here) (oc_cons rfl oc_nil) (by unfold maxLen; omega) (by omega)) ?_
                rintro ⟨ao40, cap41⟩ _
                refine WL.rowEq .here (show _ = (szs ++ [size]).flatMap intE from by simp [intE]) ?_
                refine WL.quiet (d := 88) rfl rfl rfl (q_fieldAddr fo_29_5 rfl rfl) ?_
                refine WL.eff0 rfl rfl (e_store (vs := [(.slice ao40 ((0 + mZ) + 1) cap41)]) (ds := [(.int .i64 slow), (.int .i64 delay), (.int .i64 store), (.int .i64 t), (.slice ao34 ((0 + mA) + 1) cap35), (.slice ao40 ((0 + mZ) + 1) cap41), (.slice aoE mE capE)]) sizT_27 rfl rfl rfl rfl (oc_cons rfl oc_nil) (.there (.there .here)) (Nat.le_of_ble_eq_true rfl) rfl) ?_
                refine WL.nil ?_
                refine WX.then ?_
                refine WC.seq ?_
                refine WC.region ?_
                refine WL.new (dd := 89) rfl rfl rfl (e_buildSlice (cs := []) elT_27 (Eos.parts (l := []) .nil []) (fun _ => by kernel_rfl) rfl (by unfold maxLen; omega)) ?_
                intro b42 _
                refine WL.quiet (d := 90) rfl rfl rfl (q_fieldAddr fo_29_6 rfl rfl) ?_
                refine WL.quiet (d := 91) rfl rfl rfl (q_load1 oneT_27 rfl (rd_stb (.there .here) rfl)) ?_
                refine WL.eff (d := 92) rfl rfl rfl (e_append elT_27 rfl rfl .here (by rw [flat_len (enc := intE) (sz := 1) (fun _ => rfl)]; omega) (news_row (.there (.there (.there (.there (.there (.there (.there (.there (.there .here)))))))))) (oc_flat intE_oc _) (by unfold maxLen; omega) (by omega)) ?_
                rintro ⟨ao43, cap44⟩ _
                refine WL.rowEq .here (show _ = ens.flatMap intE from by simp [intE]) ?_
                refine WL.quiet (d := 93) rfl rfl rfl (q_move rfl) ?_
                refine WL.new (dd := 94) rfl rfl rfl (e_buildSlice (cs := [(.int .i64 ((t + delay) + (size * slow)))]) elT_27 (Eos.parts (l := [.tmp 93]) (.cons rfl .nil) [0]) (fun _ => by kernel_rfl) rfl (by unfold maxLen; omega)) ?_
                intro b45 _
                refine WL.eff (d := 95) rfl rfl rfl (e_append elT_27 rfl rfl (.there .here) (by rfl) (news_row .here) (oc_cons rfl oc_nil) (by unfold maxLen; omega) (by omega)) ?_
                rintro ⟨ao46, cap47⟩ _
                refine WL.rowEq .here (show _ = (ens ++ [(t + delay) + (size * slow)]).flatMap intE from by simp [intE]) ?_
                refine WL.quiet (d := 96) rfl rfl rfl (q_fieldAddr fo_29_6 rfl rfl) ?_
                refine WL.eff0 rfl rfl (e_store (vs := [(.slice ao46 ((0 + mE) + 1) cap47)]) (ds := [(.int .i64 slow), (.int .i64 delay), (.int .i64 store), (.int .i64 t), (.slice ao34 ((0 + mA) + 1) cap35), (.slice ao40 ((0 + mZ) + 1) cap41), (.slice ao46 ((0 + mE) + 1) cap47)]) sizT_27 rfl rfl rfl rfl (oc_cons rfl oc_nil) (.there (.there .here)) (Nat.le_of_ble_eq_true rfl) rfl) ?_
                refine WL.nil ?_
                refine WX.then ?_
                refine WC.seq ?_
                refine WC.region ?_
                refine WL.quiet (d := 97) rfl rfl rfl (q_loadA (cs := [(.int .i64 slow), (.int .i64 delay), (.int .i64 store), (.int .i64 t), (.slice ao34 ((0 + mA) + 1) cap35), (.slice ao40 ((0 + mZ) + 1) cap41), (.slice ao46 ((0 + mE) + 1) cap47)]) aggT_29 rfl rfl (rd_all .here)) ?_
                refine WL.quiet (d := 98) rfl rfl rfl (q_move rfl) ?_
                refine WL.eff0 rfl rfl (e_store (vs := [(.int .i64 slow), (.int .i64 delay), (.int .i64 store), (.int .i64 t), (.slice ao34 ((0 + mA) + 1) cap35), (.slice ao40 ((0 + mZ) + 1) cap41), (.slice ao46 ((0 + mE) + 1) cap47)]) (ds := [(.int .i64 slow), (.int .i64 delay), (.int .i64 store), (.int .i64 t), (.slice ao34 ((0 + mA) + 1) cap35), (.slice ao40 ((0 + mZ) + 1) cap41), (.slice ao46 ((0 + mE) + 1) cap47)]) sizT_29 rfl rfl rfl rfl (oc_cons rfl (oc_cons rfl (oc_cons rfl (oc_cons rfl (oc_cons rfl (oc_cons rfl (oc_cons rfl oc_nil))))))) (.there (.there (.there (.there (.there (.there (.there .here))))))) (Nat.le_of_ble_eq_true rfl) rfl) ?_
                refine WL.quiet (d := 7) rfl rfl rfl (q_assign rfl) ?_
                refine WL.quiet (d := 8) rfl rfl rfl (q_assign rfl) ?_
                refine WL.nil ?_
                refine WX.then ?_
                refine WC.ret ?_
                refine WX.bpRet Try.results17 (.agg rfl aggT_29 rfl (rd_all .here) (.tmp rfl (.tmp rfl .nil))) (fun w hw => ?_)
                exact ⟨((t + delay) + (size * slow)), 0, t, (ats ++ [t]), (szs ++ [size]), (ens ++ [(t + delay) + (size * slow)]), ao34, ((0 + mA) + 1), cap35, ao40, ((0 + mZ) + 1), cap41, ao46, ((0 + mE) + 1), cap47, ret3 rfl rfl rfl, ⟨(by unfold rputR; rw [← hlm.2.2]; first | (rw [if_pos (by omega)]; done) | (rw [if_neg (by omega), if_pos (by omega)]; done) | (rw [if_neg (by omega), if_neg (by omega)]; simp only []; rw [if_pos (by omega)]; done) | (rw [if_neg (by omega), if_neg (by omega)]; simp only []; rw [if_neg (by omega)]; done)), (by refine ⟨?_, ?_, ?_⟩ <;> first | omega | (simp; omega))⟩, (hw.sub (.cons (.there (.there (.there (.there (.there (.there .here)))))) (.cons (.there (.there (.there (.there .here)))) (.cons (.there (.there .here)) .nil))))⟩

set_option maxRecDepth 20000 in
theorem awake_c  (w₀ : World) :
    Calls Try.prog 11 #[] w₀ fun e w' => e = .returned (.bool true) ∧ Hp [] w₀ w' [] := by
  refine Calls.ofWC (vs := []) (pre := []) (env := []) Try.func11 rfl Try.ntmps11 rfl (Hp.nil w₀ _) rfl ?_
  refine WC.seq ?_
  refine WC.region ?_
  refine WL.quiet (d := 0) rfl rfl rfl (q_assign rfl) ?_
  refine WL.nil ?_
  refine WX.then ?_
  refine WC.seq ?_
  refine WC.region ?_
  refine WL.enter1 (dd := 8) rfl rfl rfl (run_call (l := [.const (.int .i64 2), .const (.int .i64 5), .const (.int .i64 25)]) Try.call9 (.cons rfl (.cons rfl (.cons rfl .nil)))) .nil (fun w hw => new_ok (slow := 2) (delay := 5) (store := 25) (w₀ := w) (by omega)) ?_
  rintro b1 _
  refine WL.quiet (d := 7) rfl rfl rfl (q_move rfl) ?_
  refine WL.quiet (d := 9) rfl rfl rfl (q_extract rfl rfl) ?_
  refine WL.quiet (d := 10) rfl rfl rfl (q_extract rfl rfl) ?_
  refine WL.quiet (d := 1) rfl rfl rfl (q_assign rfl) ?_
  refine WL.quiet (d := 2) rfl rfl rfl (q_assign rfl) ?_
  refine WL.nil ?_
  refine WX.then ?_
  refine WC.seq ?_
  refine WC.seq ?_
  refine WC.region ?_
  refine WL.quiet (d := 11) rfl rfl rfl (q_move rfl) ?_
  refine WL.quiet (d := 12) rfl rfl rfl (q_neq rfl rfl) ?_
  refine WL.nil ?_
  refine WX.then ?_
  refine WC.cond rfl (fun h => absurd ((decide_eq_true_iff).1 h) (by omega)) (fun _ => ?_)
  refine WC.skip ?_
  refine WX.then ?_
  refine WC.seq ?_
  refine WC.region ?_
  refine WL.quiet (d := 13) rfl rfl rfl (q_move rfl) ?_
  refine WL.nilRow 67 2 ?_
  refine WL.enter9 (dd := 14) rfl rfl rfl (run_call (l := [.tmp 13, .const (.int .i64 0), .const (.int .i64 10)]) Try.call19 (.cons rfl (.cons rfl (.cons rfl .nil)))) (.cons (.there .here) (.cons .here .nil)) (fun w hw => lput_c (b := b1) (slow := 2) (delay := 5) (store := 25) (now := 0) (last := 0) (ao := none) (m := 0) (cap := 0) (l := []) (t := 0) (size := 10) (w₀ := w) (by first | omega | (simp; done)) (by first | assumption | (simp; done)) (by first | omega | (simp; done)) (by omega) (hw.owns (.cons (.there .here) (.cons .here .nil)))) ?_
  rintro q4 r5 er6 now'7 last'8 l'9 ao'10 cap'11 m'12 ⟨hhr13, hhm14, hhe15, hhq16⟩
  obtain ⟨er1, ee1, en1, el1, ef1⟩ : ((25 : Int) = r5) ∧ ((0 : Int) = er6) ∧ ((0 : Int) = now'7) ∧ ((25 : Int) = last'8) ∧ (([⟨10, 25⟩] : List Fr) = l'9) := by have h := hhr13; rw [show putR 2 5 25 0 0 [] 0 10 = (25, 0, 0, 25, [⟨10, 25⟩]) from rfl] at h; simpa only [Prod.mk.injEq] using h
  have qq1 : q4 = if (0 : Int) = 0 then 25 else 0 - 0 := by rw [hhq16, ← er1, ← ee1]
  have hsz1 : ∀ x ∈ l'9, 1 ≤ x.size ∧ x.size ≤ 72 := by rw [← ef1]; simp
  have hll1 : l'9.length ≤ 10 := by rw [← ef1]; simp
  refine WL.quiet (d := 15) rfl rfl rfl (q_move rfl) ?_
  refine WL.enter9 (dd := 16) rfl rfl rfl (run_call (l := [.tmp 15, .const (.int .i64 3), .const (.int .i64 10)]) Try.call19 (.cons rfl (.cons rfl (.cons rfl .nil)))) (.cons .here (.cons .here .nil)) (fun w hw => lput_c (b := b1) (slow := 2) (delay := 5) (store := 25) (now := now'7) (last := last'8) (ao := ao'10) (m := m'12) (cap := cap'11) (l := l'9) (t := 3) (size := 10) (w₀ := w) (by first | omega | (simp; done)) (by first | assumption | (simp; done)) (by first | omega | (simp; done)) (by omega) (hw.owns (.cons .here (.cons .here .nil)))) ?_
  rintro q17 r18 er19 now'20 last'21 l'22 ao'23 cap'24 m'25 ⟨hhr26, hhm27, hhe28, hhq29⟩
  obtain ⟨er2, ee2, en2, el2, ef2⟩ : ((45 : Int) = r18) ∧ ((0 : Int) = er19) ∧ ((3 : Int) = now'20) ∧ ((45 : Int) = last'21) ∧ (([⟨10, 25⟩, ⟨10, 45⟩] : List Fr) = l'22) := by have h := hhr26; rw [← en1, ← el1, ← ef1] at h; rw [show putR 2 5 25 0 25 [⟨10, 25⟩] 3 10 = (45, 0, 3, 45, [⟨10, 25⟩, ⟨10, 45⟩]) from rfl] at h; simpa only [Prod.mk.injEq] using h
  have qq2 : q17 = if (0 : Int) = 0 then 45 else 0 - 0 := by rw [hhq29, ← er2, ← ee2]
  have hsz2 : ∀ x ∈ l'22, 1 ≤ x.size ∧ x.size ≤ 72 := by rw [← ef2]; simp
  have hll2 : l'22.length ≤ 10 := by rw [← ef2]; simp
  refine WL.quiet (d := 17) rfl rfl rfl (q_move rfl) ?_
  refine WL.enter9 (dd := 18) rfl rfl rfl (run_call (l := [.tmp 17, .const (.int .i64 4), .const (.int .i64 6)]) Try.call19 (.cons rfl (.cons rfl (.cons rfl .nil)))) (.cons .here (.cons .here .nil)) (fun w hw => lput_c (b := b1) (slow := 2) (delay := 5) (store := 25) (now := now'20) (last := last'21) (ao := ao'23) (m := m'25) (cap := cap'24) (l := l'22) (t := 4) (size := 6) (w₀ := w) (by first | omega | (simp; done)) (by first | assumption | (simp; done)) (by first | omega | (simp; done)) (by omega) (hw.owns (.cons .here (.cons .here .nil)))) ?_
  rintro q30 r31 er32 now'33 last'34 l'35 ao'36 cap'37 m'38 ⟨hhr39, hhm40, hhe41, hhq42⟩
  obtain ⟨er3, ee3, en3, el3, ef3⟩ : ((0 : Int) = r31) ∧ ((4 : Int) = er32) ∧ ((4 : Int) = now'33) ∧ ((45 : Int) = last'34) ∧ (([⟨10, 25⟩, ⟨10, 45⟩] : List Fr) = l'35) := by have h := hhr39; rw [← en2, ← el2, ← ef2] at h; rw [show putR 2 5 25 3 45 [⟨10, 25⟩, ⟨10, 45⟩] 4 6 = (0, 4, 4, 45, [⟨10, 25⟩, ⟨10, 45⟩]) from rfl] at h; simpa only [Prod.mk.injEq] using h
  have qq3 : q30 = if (4 : Int) = 0 then 0 else 0 - 4 := by rw [hhq42, ← er3, ← ee3]
  have hsz3 : ∀ x ∈ l'35, 1 ≤ x.size ∧ x.size ≤ 72 := by rw [← ef3]; simp
  have hll3 : l'35.length ≤ 10 := by rw [← ef3]; simp
  refine WL.quiet (d := 19) rfl rfl rfl (q_move rfl) ?_
  refine WL.enter9 (dd := 20) rfl rfl rfl (run_call (l := [.tmp 19, .const (.int .i64 4), .const (.int .i64 5)]) Try.call19 (.cons rfl (.cons rfl (.cons rfl .nil)))) (.cons .here (.cons .here .nil)) (fun w hw => lput_c (b := b1) (slow := 2) (delay := 5) (store := 25) (now := now'33) (last := last'34) (ao := ao'36) (m := m'38) (cap := cap'37) (l := l'35) (t := 4) (size := 5) (w₀ := w) (by first | omega | (simp; done)) (by first | assumption | (simp; done)) (by first | omega | (simp; done)) (by omega) (hw.owns (.cons .here (.cons .here .nil)))) ?_
  rintro q43 r44 er45 now'46 last'47 l'48 ao'49 cap'50 m'51 ⟨hhr52, hhm53, hhe54, hhq55⟩
  obtain ⟨er4, ee4, en4, el4, ef4⟩ : ((55 : Int) = r44) ∧ ((0 : Int) = er45) ∧ ((4 : Int) = now'46) ∧ ((55 : Int) = last'47) ∧ (([⟨10, 25⟩, ⟨10, 45⟩, ⟨5, 55⟩] : List Fr) = l'48) := by have h := hhr52; rw [← en3, ← el3, ← ef3] at h; rw [show putR 2 5 25 4 45 [⟨10, 25⟩, ⟨10, 45⟩] 4 5 = (55, 0, 4, 55, [⟨10, 25⟩, ⟨10, 45⟩, ⟨5, 55⟩]) from rfl] at h; simpa only [Prod.mk.injEq] using h
  have qq4 : q43 = if (0 : Int) = 0 then 55 else 0 - 0 := by rw [hhq55, ← er4, ← ee4]
  have hsz4 : ∀ x ∈ l'48, 1 ≤ x.size ∧ x.size ≤ 72 := by rw [← ef4]; simp
  have hll4 : l'48.length ≤ 10 := by rw [← ef4]; simp
  refine WL.quiet (d := 3) rfl rfl rfl (q_assign rfl) ?_
  refine WL.quiet (d := 4) rfl rfl rfl (q_assign rfl) ?_
  refine WL.quiet (d := 5) rfl rfl rfl (q_assign rfl) ?_
  refine WL.quiet (d := 6) rfl rfl rfl (q_assign rfl) ?_
  refine WL.nil ?_
  refine WX.then ?_
  refine WC.seq ?_
  refine WC.region ?_
  refine WL.quiet (d := 21) rfl rfl rfl (q_move rfl) ?_
  refine WL.quiet (d := 22) rfl rfl rfl (q_eql rfl rfl) ?_
  refine WL.quiet (d := 23) rfl rfl rfl (q_move rfl) ?_
  refine WL.cut0 True [(0, (.bool false)), (1, (.pointer (some ⟨b1, 0, none⟩))), (2, (.int .i64 0)), (12, (.bool (decide ((0 : Int) ≠ 0)))), (3, (.int .i64 q4)), (4, (.int .i64 q17)), (5, (.int .i64 q30)), (6, (.int .i64 q43)), (26, (.bool ((decide (q4 = 25)) && (decide (q17 = 45)))))] [stb b1 57 [(.int .i64 2), (.int .i64 5), (.int .i64 25), (.int .i64 now'46), (.int .i64 last'47), (.slice ao'49 m'51 cap'50)], row (.slice ao'49 m'51 cap'50) 67 2 (l'48.flatMap frE)] 3 ?_ (fun _ => ?_)
  · by_cases hb56 : q4 = 25
    · refine WL.pin (i := 23) rfl (bT (decide_eq_true_iff) hb56) ?_
      refine WL.quiet (d := 24) rfl rfl rfl (q_move rfl) ?_
      refine WL.quiet (d := 25) rfl rfl rfl (q_eql rfl rfl) ?_
      refine WL.quiet (d := 26) rfl rfl rfl (q_pickT rfl rfl) ?_
      exact WL.cutEnd () trivial (.cons rfl (.cons rfl (.cons rfl (.cons rfl (.cons rfl (.cons rfl (.cons rfl (.cons rfl (.cons (some_bool (and_r (bT (decide_eq_true_iff) hb56))) .nil))))))))) (.cons .here (.cons .here .nil))
    · refine WL.pin (i := 23) rfl (bF (decide_eq_true_iff) hb56) ?_
      refine WL.skip rfl rfl rfl ?_
      refine WL.skip rfl rfl rfl ?_
      refine WL.quiet (d := 26) rfl rfl rfl (q_pickF rfl rfl) ?_
      exact WL.cutEnd () trivial (.cons rfl (.cons rfl (.cons rfl (.cons rfl (.cons rfl (.cons rfl (.cons rfl (.cons rfl (.cons (some_bool (and_l (bF (decide_eq_true_iff) hb56))) .nil))))))))) (.cons .here (.cons .here .nil))
  · skip
    refine WL.quiet (d := 27) rfl rfl rfl (q_move rfl) ?_
    refine WL.cut0 True [(0, (.bool false)), (1, (.pointer (some ⟨b1, 0, none⟩))), (2, (.int .i64 0)), (12, (.bool (decide ((0 : Int) ≠ 0)))), (3, (.int .i64 q4)), (4, (.int .i64 q17)), (5, (.int .i64 q30)), (6, (.int .i64 q43)), (30, (.bool (((decide (q4 = 25)) && (decide (q17 = 45))) && (decide (q30 = (-4))))))] [stb b1 57 [(.int .i64 2), (.int .i64 5), (.int .i64 25), (.int .i64 now'46), (.int .i64 last'47), (.slice ao'49 m'51 cap'50)], row (.slice ao'49 m'51 cap'50) 67 2 (l'48.flatMap frE)] 3 ?_ (fun _ => ?_)
    · by_cases hb57 : (q4 = 25) ∧ (q17 = 45)
      · refine WL.pin (i := 27) rfl (bT (biff_and (decide_eq_true_iff) (decide_eq_true_iff)) hb57) ?_
        refine WL.quiet (d := 28) rfl rfl rfl (q_move rfl) ?_
        refine WL.quiet (d := 29) rfl rfl rfl (q_eql rfl rfl) ?_
        refine WL.quiet (d := 30) rfl rfl rfl (q_pickT rfl rfl) ?_
        exact WL.cutEnd () trivial (.cons rfl (.cons rfl (.cons rfl (.cons rfl (.cons rfl (.cons rfl (.cons rfl (.cons rfl (.cons (some_bool (and_r (bT (biff_and (decide_eq_true_iff) (decide_eq_true_iff)) hb57))) .nil))))))))) (.cons .here (.cons .here .nil))
      · refine WL.pin (i := 27) rfl (bF (biff_and (decide_eq_true_iff) (decide_eq_true_iff)) hb57) ?_
        refine WL.skip rfl rfl rfl ?_
        refine WL.skip rfl rfl rfl ?_
        refine WL.quiet (d := 30) rfl rfl rfl (q_pickF rfl rfl) ?_
        exact WL.cutEnd () trivial (.cons rfl (.cons rfl (.cons rfl (.cons rfl (.cons rfl (.cons rfl (.cons rfl (.cons rfl (.cons (some_bool (and_l (bF (biff_and (decide_eq_true_iff) (decide_eq_true_iff)) hb57))) .nil))))))))) (.cons .here (.cons .here .nil))
    · skip
      refine WL.quiet (d := 31) rfl rfl rfl (q_move rfl) ?_
      refine WL.cut0 True [(0, (.bool false)), (1, (.pointer (some ⟨b1, 0, none⟩))), (2, (.int .i64 0)), (12, (.bool (decide ((0 : Int) ≠ 0)))), (3, (.int .i64 q4)), (4, (.int .i64 q17)), (5, (.int .i64 q30)), (6, (.int .i64 q43)), (34, (.bool ((((decide (q4 = 25)) && (decide (q17 = 45))) && (decide (q30 = (-4)))) && (decide (q43 = 55)))))] [stb b1 57 [(.int .i64 2), (.int .i64 5), (.int .i64 25), (.int .i64 now'46), (.int .i64 last'47), (.slice ao'49 m'51 cap'50)], row (.slice ao'49 m'51 cap'50) 67 2 (l'48.flatMap frE)] 3 ?_ (fun _ => ?_)
      · by_cases hb58 : ((q4 = 25) ∧ (q17 = 45)) ∧ (q30 = (-4))
        · refine WL.pin (i := 31) rfl (bT (biff_and (biff_and (decide_eq_true_iff) (decide_eq_true_iff)) (decide_eq_true_iff)) hb58) ?_
          refine WL.quiet (d := 32) rfl rfl rfl (q_move rfl) ?_
          refine WL.quiet (d := 33) rfl rfl rfl (q_eql rfl rfl) ?_
          refine WL.quiet (d := 34) rfl rfl rfl (q_pickT rfl rfl) ?_
          exact WL.cutEnd () trivial (.cons rfl (.cons rfl (.cons rfl (.cons rfl (.cons rfl (.cons rfl (.cons rfl (.cons rfl (.cons (some_bool (and_r (bT (biff_and (biff_and (decide_eq_true_iff) (decide_eq_true_iff)) (decide_eq_true_iff)) hb58))) .nil))))))))) (.cons .here (.cons .here .nil))
        · refine WL.pin (i := 31) rfl (bF (biff_and (biff_and (decide_eq_true_iff) (decide_eq_true_iff)) (decide_eq_true_iff)) hb58) ?_
          refine WL.skip rfl rfl rfl ?_
          refine WL.skip rfl rfl rfl ?_
          refine WL.quiet (d := 34) rfl rfl rfl (q_pickF rfl rfl) ?_
          exact WL.cutEnd () trivial (.cons rfl (.cons rfl (.cons rfl (.cons rfl (.cons rfl (.cons rfl (.cons rfl (.cons rfl (.cons (some_bool (and_l (bF (biff_and (biff_and (decide_eq_true_iff) (decide_eq_true_iff)) (decide_eq_true_iff)) hb58))) .nil))))))))) (.cons .here (.cons .here .nil))
      · skip
        refine WL.quiet (d := 35) rfl rfl rfl (q_move rfl) ?_
        refine WL.cut0 True [(0, (.bool false)), (1, (.pointer (some ⟨b1, 0, none⟩))), (2, (.int .i64 0)), (12, (.bool (decide ((0 : Int) ≠ 0)))), (3, (.int .i64 q4)), (4, (.int .i64 q17)), (5, (.int .i64 q30)), (6, (.int .i64 q43)), (39, (.bool (((((decide (q4 = 25)) && (decide (q17 = 45))) && (decide (q30 = (-4)))) && (decide (q43 = 55))) && (decide ((sumF (fun x => decide (x.fin > max 24 now'46)) l'48) = 25)))))] [stb b1 57 [(.int .i64 2), (.int .i64 5), (.int .i64 25), (.int .i64 now'46), (.int .i64 last'47), (.slice ao'49 m'51 cap'50)], row (.slice ao'49 m'51 cap'50) 67 2 (l'48.flatMap frE)] 4 ?_ (fun _ => ?_)
        · by_cases hb59 : (((q4 = 25) ∧ (q17 = 45)) ∧ (q30 = (-4))) ∧ (q43 = 55)
          · refine WL.pin (i := 35) rfl (bT (biff_and (biff_and (biff_and (decide_eq_true_iff) (decide_eq_true_iff)) (decide_eq_true_iff)) (decide_eq_true_iff)) hb59) ?_
            refine WL.quiet (d := 36) rfl rfl rfl (q_move rfl) ?_
            refine WL.callD (dd := 37) rfl rfl rfl (run_call (l := [.tmp 36, .const (.int .i64 24)]) Try.call12 (.cons rfl (.cons rfl .nil))) .nil (fun w hw => held_c (A := ⟨b1, 0, none⟩) (slow := 2) (delay := 5) (store := 25) (now := now'46) (last := last'47) (ao := ao'49) (m := m'51) (cap := cap'50) (l := l'48) (t := 24) (w₀ := w) (hw.cellsStb .nil .here) (hw.slpRow .nil (.there .here) (fun _ _ => rfl) (by decide)) (by first | assumption | (simp; done)) (by first | omega | (simp; done)) (by omega)) ?_
            refine WL.quiet (d := 38) rfl rfl rfl (q_eql rfl rfl) ?_
            refine WL.quiet (d := 39) rfl rfl rfl (q_pickT rfl rfl) ?_
            exact WL.cutEnd () trivial (.cons rfl (.cons rfl (.cons rfl (.cons rfl (.cons rfl (.cons rfl (.cons rfl (.cons rfl (.cons (some_bool (and_r (bT (biff_and (biff_and (biff_and (decide_eq_true_iff) (decide_eq_true_iff)) (decide_eq_true_iff)) (decide_eq_true_iff)) hb59))) .nil))))))))) (.cons .here (.cons .here .nil))
          · refine WL.pin (i := 35) rfl (bF (biff_and (biff_and (biff_and (decide_eq_true_iff) (decide_eq_true_iff)) (decide_eq_true_iff)) (decide_eq_true_iff)) hb59) ?_
            refine WL.skip rfl rfl rfl ?_
            refine WL.skip rfl rfl rfl ?_
            refine WL.skip rfl rfl rfl ?_
            refine WL.quiet (d := 39) rfl rfl rfl (q_pickF rfl rfl) ?_
            exact WL.cutEnd () trivial (.cons rfl (.cons rfl (.cons rfl (.cons rfl (.cons rfl (.cons rfl (.cons rfl (.cons rfl (.cons (some_bool (and_l (bF (biff_and (biff_and (biff_and (decide_eq_true_iff) (decide_eq_true_iff)) (decide_eq_true_iff)) (decide_eq_true_iff)) hb59))) .nil))))))))) (.cons .here (.cons .here .nil))
        · skip
          refine WL.quiet (d := 40) rfl rfl rfl (q_move rfl) ?_
          refine WL.cut0 True [(0, (.bool false)), (1, (.pointer (some ⟨b1, 0, none⟩))), (2, (.int .i64 0)), (12, (.bool (decide ((0 : Int) ≠ 0)))), (3, (.int .i64 q4)), (4, (.int .i64 q17)), (5, (.int .i64 q30)), (6, (.int .i64 q43)), (44, (.bool ((((((decide (q4 = 25)) && (decide (q17 = 45))) && (decide (q30 = (-4)))) && (decide (q43 = 55))) && (decide ((sumF (fun x => decide (x.fin > max 24 now'46)) l'48) = 25))) && (decide ((sumF (fun x => decide (x.fin > max 25 now'46)) l'48) = 15)))))] [stb b1 57 [(.int .i64 2), (.int .i64 5), (.int .i64 25), (.int .i64 now'46), (.int .i64 last'47), (.slice ao'49 m'51 cap'50)], row (.slice ao'49 m'51 cap'50) 67 2 (l'48.flatMap frE)] 4 ?_ (fun _ => ?_)
          · by_cases hb60 : ((((q4 = 25) ∧ (q17 = 45)) ∧ (q30 = (-4))) ∧ (q43 = 55)) ∧ ((sumF (fun x => decide (x.fin > max 24 now'46)) l'48) = 25)
            · refine WL.pin (i := 40) rfl (bT (biff_and (biff_and (biff_and (biff_and (decide_eq_true_iff) (decide_eq_true_iff)) (decide_eq_true_iff)) (decide_eq_true_iff)) (decide_eq_true_iff)) hb60) ?_
              refine WL.quiet (d := 41) rfl rfl rfl (q_move rfl) ?_
              refine WL.callD (dd := 42) rfl rfl rfl (run_call (l := [.tmp 41, .const (.int .i64 25)]) Try.call12 (.cons rfl (.cons rfl .nil))) .nil (fun w hw => held_c (A := ⟨b1, 0, none⟩) (slow := 2) (delay := 5) (store := 25) (now := now'46) (last := last'47) (ao := ao'49) (m := m'51) (cap := cap'50) (l := l'48) (t := 25) (w₀ := w) (hw.cellsStb .nil .here) (hw.slpRow .nil (.there .here) (fun _ _ => rfl) (by decide)) (by first | assumption | (simp; done)) (by first | omega | (simp; done)) (by omega)) ?_
              refine WL.quiet (d := 43) rfl rfl rfl (q_eql rfl rfl) ?_
              refine WL.quiet (d := 44) rfl rfl rfl (q_pickT rfl rfl) ?_
              exact WL.cutEnd () trivial (.cons rfl (.cons rfl (.cons rfl (.cons rfl (.cons rfl (.cons rfl (.cons rfl (.cons rfl (.cons (some_bool (and_r (bT (biff_and (biff_and (biff_and (biff_and (decide_eq_true_iff) (decide_eq_true_iff)) (decide_eq_true_iff)) (decide_eq_true_iff)) (decide_eq_true_iff)) hb60))) .nil))))))))) (.cons .here (.cons .here .nil))
            · refine WL.pin (i := 40) rfl (bF (biff_and (biff_and (biff_and (biff_and (decide_eq_true_iff) (decide_eq_true_iff)) (decide_eq_true_iff)) (decide_eq_true_iff)) (decide_eq_true_iff)) hb60) ?_
              refine WL.skip rfl rfl rfl ?_
              refine WL.skip rfl rfl rfl ?_
              refine WL.skip rfl rfl rfl ?_
              refine WL.quiet (d := 44) rfl rfl rfl (q_pickF rfl rfl) ?_
              exact WL.cutEnd () trivial (.cons rfl (.cons rfl (.cons rfl (.cons rfl (.cons rfl (.cons rfl (.cons rfl (.cons rfl (.cons (some_bool (and_l (bF (biff_and (biff_and (biff_and (biff_and (decide_eq_true_iff) (decide_eq_true_iff)) (decide_eq_true_iff)) (decide_eq_true_iff)) (decide_eq_true_iff)) hb60))) .nil))))))))) (.cons .here (.cons .here .nil))
          · skip
            refine WL.quiet (d := 45) rfl rfl rfl (q_move rfl) ?_
            refine WL.cut0 True [(0, (.bool false)), (1, (.pointer (some ⟨b1, 0, none⟩))), (2, (.int .i64 0)), (12, (.bool (decide ((0 : Int) ≠ 0)))), (3, (.int .i64 q4)), (4, (.int .i64 q17)), (5, (.int .i64 q30)), (6, (.int .i64 q43)), (49, (.bool (((((((decide (q4 = 25)) && (decide (q17 = 45))) && (decide (q30 = (-4)))) && (decide (q43 = 55))) && (decide ((sumF (fun x => decide (x.fin > max 24 now'46)) l'48) = 25))) && (decide ((sumF (fun x => decide (x.fin > max 25 now'46)) l'48) = 15))) && (decide (last'47 = 55)))))] [stb b1 57 [(.int .i64 2), (.int .i64 5), (.int .i64 25), (.int .i64 now'46), (.int .i64 last'47), (.slice ao'49 m'51 cap'50)], row (.slice ao'49 m'51 cap'50) 67 2 (l'48.flatMap frE)] 4 ?_ (fun _ => ?_)
            · by_cases hb61 : (((((q4 = 25) ∧ (q17 = 45)) ∧ (q30 = (-4))) ∧ (q43 = 55)) ∧ ((sumF (fun x => decide (x.fin > max 24 now'46)) l'48) = 25)) ∧ ((sumF (fun x => decide (x.fin > max 25 now'46)) l'48) = 15)
              · refine WL.pin (i := 45) rfl (bT (biff_and (biff_and (biff_and (biff_and (biff_and (decide_eq_true_iff) (decide_eq_true_iff)) (decide_eq_true_iff)) (decide_eq_true_iff)) (decide_eq_true_iff)) (decide_eq_true_iff)) hb61) ?_
                refine WL.quiet (d := 46) rfl rfl rfl (q_move rfl) ?_
                refine WL.callD (dd := 47) rfl rfl rfl (run_call (l := [.tmp 46]) Try.call14 (.cons rfl .nil)) .nil (fun w hw => free_no (A := ⟨b1, 0, none⟩) (slow := 2) (delay := 5) (store := 25) (now := now'46) (last := last'47) (fr := (.slice ao'49 m'51 cap'50)) (w₀ := w) (hw.cellsStb .nil .here) (by omega)) ?_
                refine WL.quiet (d := 48) rfl rfl rfl (q_eql rfl rfl) ?_
                refine WL.quiet (d := 49) rfl rfl rfl (q_pickT rfl rfl) ?_
                exact WL.cutEnd () trivial (.cons rfl (.cons rfl (.cons rfl (.cons rfl (.cons rfl (.cons rfl (.cons rfl (.cons rfl (.cons (some_bool (and_r (bT (biff_and (biff_and (biff_and (biff_and (biff_and (decide_eq_true_iff) (decide_eq_true_iff)) (decide_eq_true_iff)) (decide_eq_true_iff)) (decide_eq_true_iff)) (decide_eq_true_iff)) hb61))) .nil))))))))) (.cons .here (.cons .here .nil))
              · refine WL.pin (i := 45) rfl (bF (biff_and (biff_and (biff_and (biff_and (biff_and (decide_eq_true_iff) (decide_eq_true_iff)) (decide_eq_true_iff)) (decide_eq_true_iff)) (decide_eq_true_iff)) (decide_eq_true_iff)) hb61) ?_
                refine WL.skip rfl rfl rfl ?_
                refine WL.skip rfl rfl rfl ?_
                refine WL.skip rfl rfl rfl ?_
                refine WL.quiet (d := 49) rfl rfl rfl (q_pickF rfl rfl) ?_
                exact WL.cutEnd () trivial (.cons rfl (.cons rfl (.cons rfl (.cons rfl (.cons rfl (.cons rfl (.cons rfl (.cons rfl (.cons (some_bool (and_l (bF (biff_and (biff_and (biff_and (biff_and (biff_and (decide_eq_true_iff) (decide_eq_true_iff)) (decide_eq_true_iff)) (decide_eq_true_iff)) (decide_eq_true_iff)) (decide_eq_true_iff)) hb61))) .nil))))))))) (.cons .here (.cons .here .nil))
            · skip
              refine WL.quiet (d := 0) rfl rfl rfl (q_assign rfl) ?_
              refine WL.nil ?_
              refine WX.then ?_
              refine WC.ret ?_
              refine WX.bpRet Try.results11 (.tmp rfl .nil) (fun w hw => ?_)
              exact ⟨ret1 (vbool (by rw [qq1, qq2, qq3, qq4, ← en4, ← el4, ← ef4]; rfl)), (hw.sub .nil)⟩

set_option maxRecDepth 20000 in
theorem rfree_c (slow delay store now : Int) (aoA : Option Addr) (mA capA : Nat) (ats : List Int) (aoZ : Option Addr) (mZ capZ : Nat) (szs : List Int) (aoE : Option Addr) (mE capE : Nat) (ens : List Int) (w₀ : World)
    (hsA : SlP [] w₀ (.slice aoA mA capA) 1 intP ats)
    (hsZ : SlP [] w₀ (.slice aoZ mZ capZ) 1 intP szs)
    (hsE : SlP [] w₀ (.slice aoE mE capE) 1 intP ens)
    (hl : ens.length ≤ 1099511627776) :
    Calls Try.prog 15 #[(.agg #[(.int .i64 slow), (.int .i64 delay), (.int .i64 store), (.int .i64 now), (.slice aoA mA capA), (.slice aoZ mZ capZ), (.slice aoE mE capE)])] w₀ fun e w' => ∃ r : Int, e = .returned (.int .i64 r) ∧ (r = if ens.length = 0 then 0 else nth ens (ens.length - 1)) ∧ Hp [] w₀ w' [] := by
  have hlE := hsE.len
  refine Calls.ofWC (vs := [(.agg #[(.int .i64 slow), (.int .i64 delay), (.int .i64 store), (.int .i64 now), (.slice aoA mA capA), (.slice aoZ mZ capZ), (.slice aoE mE capE)])]) (pre := []) (env := [(0, (.agg #[(.int .i64 slow), (.int .i64 delay), (.int .i64 store), (.int .i64 now), (.slice aoA mA capA), (.slice aoZ mZ capZ), (.slice aoE mE capE)]))]) Try.func15 rfl Try.ntmps15 rfl (Hp.nil w₀ _) rfl ?_
  refine WC.seq ?_
  refine WC.region ?_
  refine WL.new (dd := 1) rfl rfl rfl (e_box (cs := [(.int .i64 slow), (.int .i64 delay), (.int .i64 store), (.int .i64 now), (.slice aoA mA capA), (.slice aoZ mZ capZ), (.slice aoE mE capE)]) rfl rfl) ?_
  intro b1 _
  refine WL.quiet (d := 2) rfl rfl rfl (q_assign rfl) ?_
  refine WL.nil ?_
  refine WX.then ?_
  refine WC.seq ?_
  refine WC.seq ?_
  refine WC.region ?_
  refine WL.quiet (d := 3) rfl rfl rfl (q_fieldAddr fo_29_6 rfl rfl) ?_
  refine WL.quiet (d := 4) rfl rfl rfl (q_load1 oneT_27 rfl (rd_stb .here rfl)) ?_
  refine WL.quiet (d := 5) rfl rfl rfl (q_len Try.underlying27 rfl) ?_
  refine WL.quiet (d := 6) rfl rfl rfl (q_eql rfl rfl) ?_
  refine WL.nil ?_
  refine WX.then ?_
  refine WC.cond rfl (fun h => ?_) (fun h => ?_)
  · have hc2 : ((mE : Nat) : Int) = 0 := ((decide_eq_true_iff)).1 h; clear h
    refine WC.seq ?_
    refine WC.region ?_
    refine WL.quiet (d := 2) rfl rfl rfl (q_assign rfl) ?_
    refine WL.nil ?_
    refine WX.then ?_
    refine WC.ret ?_
    refine WX.thenRet ?_
    refine WX.bpRet Try.results15 (.tmp rfl .nil) (fun w hw => ?_)
    exact ⟨0, ret1 rfl, (by first | (rw [if_pos (by omega)]; done) | (rw [if_neg (by omega), ← hlE])), (hw.sub .nil)⟩
  · have hc2 : ¬ (((mE : Nat) : Int) = 0) := biffF (decide_eq_true_iff) h; clear h
    refine WC.skip ?_
    refine WX.then ?_
    refine WC.seq ?_
    refine WC.region ?_
    refine WL.quiet (d := 7) rfl rfl rfl (q_fieldAddr fo_29_6 rfl rfl) ?_
    refine WL.quiet (d := 8) rfl rfl rfl (q_load1 oneT_27 rfl (rd_stb .here rfl)) ?_
    refine WL.quiet (d := 9) rfl rfl rfl (q_fieldAddr fo_29_6 rfl rfl) ?_
    refine WL.quiet (d := 10) rfl rfl rfl (q_load1 oneT_27 rfl (rd_stb .here rfl)) ?_
    refine WL.quiet (d := 11) rfl rfl rfl (q_len Try.underlying27 rfl) ?_
    refine WL.quiet (d := 12) rfl rfl rfl (q_sub rfl rfl (w64 (by omega))) ?_
    refine WL.nth (dd := 13) rfl rfl elT_27 rfl rfl hsE (by omega) (by omega) ?_
    rintro A3 r4 hA5 hl6 rfl; clear hl6
    refine WL.quiet (d := 14) rfl rfl rfl (q_load1 oneT_3 rfl (rd_cell hA5 rfl)) ?_
    refine WL.quiet (d := 2) rfl rfl rfl (q_assign rfl) ?_
    refine WL.nil ?_
    refine WX.then ?_
    refine WC.ret ?_
    refine WX.bpRet Try.results15 (.tmp rfl .nil) (fun w hw => ?_)
    exact ⟨(nth ens (((mE : Nat) : Int) - 1)), ret1 rfl, (by first | (rw [if_pos (by omega)]; done) | (rw [if_neg (by omega), ← hlE])), (hw.sub .nil)⟩

def frT (ws : List Int) : Nat → Int
  | 0 => 0
  | n + 1 => frT ws n + if (n : Int) < ws.length then nth ws n else 0
def frameL (ss ws : List Int) : List Sent := (List.range (min ss.length 40)).map fun n => ⟨frT ws (n + 1), 0, 1 + nth ss n % 72⟩
theorem frT_step {ws : List Int} {i : Int} (h : 0 ≤ i) : frT ws (i + 1).toNat = frT ws i.toNat + if i < ws.length then nth ws i else 0 := by
  obtain ⟨n, rfl⟩ : ∃ n : Nat, i = n := ⟨i.toNat, by omega⟩
  rw [show ((n : Int) + 1).toNat = n + 1 from by omega]; simp [frT]
theorem frL_step {ss ws : List Int} {i : Int} (h : 0 ≤ i) : (List.range (i + 1).toNat).map (fun n => (⟨frT ws (n + 1), 0, 1 + nth ss n % 72⟩ : Sent)) = (List.range i.toNat).map (fun n => (⟨frT ws (n + 1), 0, 1 + nth ss n % 72⟩ : Sent)) ++ [⟨frT ws (i + 1).toNat, 0, 1 + nth ss i % 72⟩] := by
  obtain ⟨n, rfl⟩ : ∃ n : Nat, i = n := ⟨i.toNat, by omega⟩
  rw [show ((n : Int) + 1).toNat = n + 1 from by omega, List.range_succ, List.map_append]; simp
theorem nth_take {α : Type} [Inhabited α] {l : List α} {k : Nat} {i : Int} (h0 : 0 ≤ i) (h : i < k) (hk : k ≤ l.length) : nth (l.take k) i = nth l i := by
  rw [← nth_lt (l := l.take k) h0 (by simp; omega), ← nth_lt (l := l) h0 (by omega)]
  simp

set_option maxRecDepth 20000 in
theorem lfr_c (aoS : Option Addr) (mS capS : Nat) (ss : List Int) (aoW : Option Addr) (mW capW : Nat) (ws : List Int) (w₀ : World)
    (hsS : SlP [] w₀ (.slice aoS mS capS) 1 u8P ss)
    (hsW : SlP [] w₀ (.slice aoW mW capW) 1 u8P ws)
    (hll : ss.length ≤ 9223372036854775807 ∧ ws.length ≤ 9223372036854775807) :
    Calls Try.prog 18 #[(.slice aoS mS capS), (.slice aoW mW capW)] w₀ fun e w' => ∃ ao : Option Addr, ∃ m : Nat, ∃ cap : Nat, ∃ out : List Sent, e = .returned (.slice ao m cap) ∧ ((out = frameL ss ws) ∧ (m = out.length)) ∧ Hp [] w₀ w' [row (.slice ao m cap) 47 3 (out.flatMap sentE)] := by
  have hlS := hsS.len
  have hlW := hsW.len
  have hmin : min (((mS : Nat) : Int)) 40 = ((min ss.length 40 : Nat) : Int) := by omega
  have htl : (ss.take (min ss.length 40)).length = min ss.length 40 := by simp
  refine Calls.ofWC (vs := [(.slice aoS mS capS), (.slice aoW mW capW)]) (pre := []) (env := [(0, (.slice aoS mS capS)), (1, (.slice aoW mW capW))]) Try.func18 rfl Try.ntmps18 rfl (Hp.nil w₀ _) rfl ?_
  refine WC.seq ?_
  refine WC.region ?_
  refine WL.quiet (d := 4) rfl rfl rfl (q_assign rfl) ?_
  refine WL.nil ?_
  refine WX.then ?_
  refine WC.seq ?_
  refine WC.region ?_
  refine WL.quiet (d := 5) rfl rfl rfl (q_assign rfl) ?_
  refine WL.nil ?_
  refine WX.then ?_
  refine WC.seq ?_
  refine WC.region ?_
  refine WL.quiet (d := 6) rfl rfl rfl (q_assign rfl) ?_
  refine WL.nil ?_
  refine WX.then ?_
  refine WC.seq ?_
  refine WC.seq ?_
  refine WC.region ?_
  refine WL.quiet (d := 9) rfl rfl rfl (q_move rfl) ?_
  refine WL.quiet (d := 10) rfl rfl rfl (q_move rfl) ?_
  refine WL.quiet (d := 11) rfl rfl rfl (q_len Try.underlying42 rfl) ?_
  refine WL.quiet (d := 12) rfl rfl rfl (q_min rfl rfl rfl) ?_
  refine WL.subHi (hi := (min ss.length 40)) (dd := 13) rfl rfl elT_42 rfl rfl hsS (by omega) (by omega) ?_
  intro ao1 cap2 hs3
  refine WL.quiet (d := 14) rfl rfl rfl (q_len Try.underlying42 rfl) ?_
  refine WL.quiet (d := 15) rfl rfl rfl (q_move rfl) ?_
  refine WL.nil ?_
  refine WX.then ?_
  refine WC.block ?_
  refine WC.nilRow 47 3 ?_
  refine WC.loop6 (fun (i : Int) (t : Int) (ao : Option Addr) (m : Nat) (cap : Nat) (out : List Sent) => (0 ≤ i) ∧ (i ≤ (min ss.length 40 : Nat)) ∧ (t = frT ws i.toNat) ∧ (0 ≤ t ∧ t ≤ 255 * i) ∧ (out = (List.range i.toNat).map (fun n => (⟨frT ws (n + 1), 0, 1 + nth ss n % 72⟩ : Sent))) ∧ (m = out.length)) (fun (i : Int) (t : Int) (ao : Option Addr) (m : Nat) (cap : Nat) (out : List Sent) => [(1, (.slice aoW mW capW)), (13, (.slice ao1 ((ss.take (min ss.length 40)).length) cap2)), (14, (.int .i64 (((ss.take (min ss.length 40)).length : Nat) : Int))), (15, (.int .i64 i)), (6, (.int .i64 t)), (5, (.slice ao m cap))]) (fun (i : Int) (t : Int) (ao : Option Addr) (m : Nat) (cap : Nat) (out : List Sent) => [row (.slice ao m cap) 47 3 (out.flatMap sentE)]) (fun (i : Int) (t : Int) (ao : Option Addr) (m : Nat) (cap : Nat) (out : List Sent) => (40 - i.toNat)) ⟨0, 0, none, 0, 0, []⟩ ⟨(by first | omega | (dsimp only; omega)), (by first | omega | (dsimp only; omega)), (by first | (dsimp only; rfl) | (rfl)), (by first | omega | (dsimp only; omega)), (by first | (dsimp only; rfl) | (rfl)), (by first | (dsimp only; rfl) | (rfl))⟩ (.cons rfl (.cons rfl (.cons rfl (.cons rfl (.cons rfl (.cons rfl .nil)))))) (.cons .here .nil) ?_
  rintro i t ao m cap out ⟨h0, h1, ht, htb, ho, hm⟩
  have hol : out.length = i.toNat := by rw [ho]; simp
  have hnt : i < (min ss.length 40 : Nat) → nth (ss.take (min ss.length 40)) i = nth ss i := fun h => nth_take h0 h (by omega)
  refine WC.seq ?_
  refine WC.region ?_
  refine WL.quiet (d := 16) rfl rfl rfl (q_lss rfl rfl) ?_
  refine WL.nil ?_
  refine WX.then ?_
  refine WC.seq ?_
  refine WC.cond rfl (fun h => ?_) (fun h => ?_)
  · have hc4 : i < (((ss.take (min ss.length 40)).length : Nat) : Int) := ((decide_eq_true_iff)).1 h; clear h
    refine WC.skip ?_
    refine WX.then ?_
    refine WC.seq ?_
    refine WC.block ?_
    refine WC.seq ?_
    refine WC.region ?_
    refine WL.quiet (d := 17) rfl rfl rfl (q_move rfl) ?_
    refine WL.nth (dd := 18) rfl rfl elT_42 rfl rfl hs3 (by omega) (by simp; omega) ?_
    rintro A5 r6 hA7 hl8 ⟨rfl, hP9, hP92⟩; clear hl8
    refine WL.quiet (d := 19) rfl rfl rfl (q_load1 oneT_5 rfl (rd_cell hA7 rfl)) ?_
    refine WL.quiet (d := 7) rfl rfl rfl (q_assign rfl) ?_
    refine WL.quiet (d := 8) rfl rfl rfl (q_assign rfl) ?_
    refine WL.nil ?_
    refine WX.then ?_
    refine WC.seq ?_
    refine WC.seq ?_
    refine WC.region ?_
    refine WL.quiet (d := 20) rfl rfl rfl (q_move rfl) ?_
    refine WL.quiet (d := 21) rfl rfl rfl (q_move rfl) ?_
    refine WL.quiet (d := 22) rfl rfl rfl (q_len Try.underlying42 rfl) ?_
    refine WL.quiet (d := 23) rfl rfl rfl (q_lss rfl rfl) ?_
    refine WL.nil ?_
    refine WX.then ?_
    refine WC.cond rfl (fun h => ?_) (fun h => ?_)
    · have hc10 : i < ((mW : Nat) : Int) := ((decide_eq_true_iff)).1 h; clear h
      refine WC.region ?_
      refine WL.quiet (d := 24) rfl rfl rfl (q_move rfl) ?_
      refine WL.quiet (d := 25) rfl rfl rfl (q_move rfl) ?_
      refine WL.quiet (d := 26) rfl rfl rfl (q_move rfl) ?_
      refine WL.nth (dd := 27) rfl rfl elT_42 rfl rfl hsW (by omega) (by omega) ?_
      rintro A11 r12 hA13 hl14 ⟨rfl, hP15, hP152⟩; clear hl14
      refine WL.quiet (d := 28) rfl rfl rfl (q_load1 oneT_5 rfl (rd_cell hA13 rfl)) ?_
      refine WL.quiet (d := 29) rfl rfl rfl (q_conv Try.underlying5 Try.underlying3 rfl (w64 (by omega))) ?_
      refine WL.quiet (d := 30) rfl rfl rfl (q_add rfl rfl (w64 (by omega))) ?_
      refine WL.quiet (d := 6) rfl rfl rfl (q_assign rfl) ?_
      refine WL.nil ?_
      refine WX.then ?_
      refine WC.region ?_
      refine WL.quiet (d := 31) rfl rfl rfl (q_move rfl) ?_
      refine WL.quiet (d := 32) rfl rfl rfl (q_move rfl) ?_
      refine WL.quiet (d := 33) rfl rfl rfl (q_move rfl) ?_
      refine WL.quiet (d := 34) rfl rfl rfl (q_conv Try.underlying5 Try.underlying3 rfl (w64 (by omega))) ?_
      refine WL.quiet (d := 35) rfl rfl rfl (q_rem rfl rfl (by omega) (tmodp (by omega))) ?_
      refine WL.quiet (d := 36) rfl rfl rfl (q_add rfl rfl (w64 (by omega))) ?_
      refine WL.quiet (d := 37) rfl rfl rfl (q_build (v := (.agg #[(.int .i64 (t + (nth ws i))), (.int .i64 0), (.int .i64 (1 + ((nth (ss.take (min ss.length 40)) i) % 72)))])) (Eos.parts (l := [.tmp 32, .tmp 36]) (.cons rfl (.cons rfl .nil)) [0, 2]) (fun _ => by kernel_rfl)) ?_
      refine WL.new (dd := 38) rfl rfl rfl (e_buildSlice (cs := [(.int .i64 (t + (nth ws i))), (.int .i64 0), (.int .i64 (1 + ((nth (ss.take (min ss.length 40)) i) % 72)))]) elT_44 (Eos.parts (l := [.tmp 37]) (.cons rfl .nil) [0]) (fun _ => by kernel_rfl) rfl (by unfold maxLen; omega)) ?_
      intro b16 _
      refine WL.eff (d := 39) rfl rfl rfl (e_append elT_44 rfl rfl (.there .here) (by rfl) (news_row .here) (oc_cons rfl (oc_cons rfl (oc_cons rfl oc_nil))) (by unfold maxLen; omega) (by omega)) ?_
      rintro ⟨ao17, cap18⟩ _
      refine WL.rowEq .here (show _ = (out ++ [(⟨t + (nth ws i), 0, 1 + ((nth (ss.take (min ss.length 40)) i) % 72)⟩ : Sent)]).flatMap sentE from by simp [sentE]) ?_
      refine WL.quiet (d := 5) rfl rfl rfl (q_assign rfl) ?_
      refine WL.nil ?_
      refine WX.blockNormal ?_
      refine WX.then ?_
      refine WC.region ?_
      refine WL.quiet (d := 40) rfl rfl rfl (q_add rfl rfl (w64 (by omega))) ?_
      refine WL.quiet (d := 15) rfl rfl rfl (q_move rfl) ?_
      refine WL.nil ?_
      exact WX.round (G := Int × Int × (Option Addr) × Nat × Nat × (List Sent)) ⟨(i + 1), (t + (nth ws i)), ao17, (m + 1), cap18, (out ++ [(⟨t + (nth ws i), 0, 1 + ((nth (ss.take (min ss.length 40)) i) % 72)⟩ : Sent)])⟩ ⟨(by first | omega | (dsimp only; omega)), (by first | omega | (dsimp only; omega)), (by first | (dsimp only; rw [frT_step h0, ht]; first | rw [if_pos (by omega)] | (rw [if_neg (by omega)]; omega)) | (rw [frT_step h0, ht]; first | rw [if_pos (by omega)] | (rw [if_neg (by omega)]; omega))), (by first | omega | (dsimp only; omega)), (by first | (dsimp only; rw [frL_step h0, ho, frT_step h0, ← ht, ← hnt (by omega)]; first | (rw [if_pos (by omega)]; done) | (rw [if_neg (by omega)]; simp; done)) | (rw [frL_step h0, ho, frT_step h0, ← ht, ← hnt (by omega)]; first | (rw [if_pos (by omega)]; done) | (rw [if_neg (by omega)]; simp; done))), (by first | (dsimp only; simp; omega) | (simp; omega))⟩ (by first | omega | (dsimp only; omega)) (.cons rfl (.cons rfl (.cons rfl (.cons rfl (.cons rfl (.cons rfl .nil)))))) (.cons .here .nil)
    · have hc10 : ¬ (i < ((mW : Nat) : Int)) := biffF (decide_eq_true_iff) h; clear h
      refine WC.skip ?_
      refine WX.then ?_
      refine WC.region ?_
      refine WL.quiet (d := 31) rfl rfl rfl (q_move rfl) ?_
      refine WL.quiet (d := 32) rfl rfl rfl (q_move rfl) ?_
      refine WL.quiet (d := 33) rfl rfl rfl (q_move rfl) ?_
      refine WL.quiet (d := 34) rfl rfl rfl (q_conv Try.underlying5 Try.underlying3 rfl (w64 (by omega))) ?_
      refine WL.quiet (d := 35) rfl rfl rfl (q_rem rfl rfl (by omega) (tmodp (by omega))) ?_
      refine WL.quiet (d := 36) rfl rfl rfl (q_add rfl rfl (w64 (by omega))) ?_
      refine WL.quiet (d := 37) rfl rfl rfl (q_build (v := (.agg #[(.int .i64 t), (.int .i64 0), (.int .i64 (1 + ((nth (ss.take (min ss.length 40)) i) % 72)))])) (Eos.parts (l := [.tmp 32, .tmp 36]) (.cons rfl (.cons rfl .nil)) [0, 2]) (fun _ => by kernel_rfl)) ?_
      refine WL.new (dd := 38) rfl rfl rfl (e_buildSlice (cs := [(.int .i64 t), (.int .i64 0), (.int .i64 (1 + ((nth (ss.take (min ss.length 40)) i) % 72)))]) elT_44 (Eos.parts (l := [.tmp 37]) (.cons rfl .nil) [0]) (fun _ => by kernel_rfl) rfl (by unfold maxLen; omega)) ?_
      intro b19 _
      refine WL.eff (d := 39) rfl rfl rfl (e_append elT_44 rfl rfl (.there .here) (by rfl) (news_row .here) (oc_cons rfl (oc_cons rfl (oc_cons rfl oc_nil))) (by unfold maxLen; omega) (by omega)) ?_
      rintro ⟨ao20, cap21⟩ _
      refine WL.rowEq .here (show _ = (out ++ [(⟨t, 0, 1 + ((nth (ss.take (min ss.length 40)) i) % 72)⟩ : Sent)]).flatMap sentE from by simp [sentE]) ?_
      refine WL.quiet (d := 5) rfl rfl rfl (q_assign rfl) ?_
      refine WL.nil ?_
      refine WX.blockNormal ?_
      refine WX.then ?_
      refine WC.region ?_
      refine WL.quiet (d := 40) rfl rfl rfl (q_add rfl rfl (w64 (by omega))) ?_
      refine WL.quiet (d := 15) rfl rfl rfl (q_move rfl) ?_
      refine WL.nil ?_
      exact WX.round (G := Int × Int × (Option Addr) × Nat × Nat × (List Sent)) ⟨(i + 1), t, ao20, (m + 1), cap21, (out ++ [(⟨t, 0, 1 + ((nth (ss.take (min ss.length 40)) i) % 72)⟩ : Sent)])⟩ ⟨(by first | omega | (dsimp only; omega)), (by first | omega | (dsimp only; omega)), (by first | (dsimp only; rw [frT_step h0, ht]; first | rw [if_pos (by omega)] | (rw [if_neg (by omega)]; omega)) | (rw [frT_step h0, ht]; first | rw [if_pos (by omega)] | (rw [if_neg (by omega)]; omega))), (by first | omega | (dsimp only; omega)), (by first | (dsimp only; rw [frL_step h0, ho, frT_step h0, ← ht, ← hnt (by omega)]; first | (rw [if_pos (by omega)]; done) | (rw [if_neg (by omega)]; simp; done)) | (rw [frL_step h0, ho, frT_step h0, ← ht, ← hnt (by omega)]; first | (rw [if_pos (by omega)]; done) | (rw [if_neg (by omega)]; simp; done))), (by first | (dsimp only; simp; omega) | (simp; omega))⟩ (by first | omega | (dsimp only; omega)) (.cons rfl (.cons rfl (.cons rfl (.cons rfl (.cons rfl (.cons rfl .nil)))))) (.cons .here .nil)
  · have hc4 : ¬ (i < (((ss.take (min ss.length 40)).length : Nat) : Int)) := biffF (decide_eq_true_iff) h; clear h
    refine WC.exit ?_
    refine WX.thenExit ?_
    refine WX.thenExit ?_
    refine WX.blockHit ?_
    refine WX.then ?_
    refine WC.seq ?_
    refine WC.region ?_
    refine WL.quiet (d := 41) rfl rfl rfl (q_move rfl) ?_
    refine WL.quiet (d := 4) rfl rfl rfl (q_assign rfl) ?_
    refine WL.nil ?_
    refine WX.then ?_
    refine WC.ret ?_
    refine WX.bpRet Try.results18 (.tmp rfl .nil) (fun w hw => ?_)
    exact ⟨ao, m, cap, out, ret1 rfl, ⟨(by rw [ho, frameL]; congr 2; simp at *; omega), (by exact hm)⟩, (hw.sub (.cons .here .nil))⟩

structure SentsOk (l : List Sent) : Prop where
  one : ∀ i : Int, 0 ≤ i → i < l.length → 0 ≤ (nth l i).time ∧ (nth l i).time ≤ 1073741824 ∧ 1 ≤ (nth l i).size ∧ (nth l i).size ≤ 72
  two : ∀ i : Int, 0 < i → i < l.length → (nth l (i - 1)).time ≤ (nth l i).time
  len : l.length ≤ 4000
def servE (l : List Sent) (slow delay : Int) : Nat → Int
  | 0 => 0
  | n + 1 => max (servE l slow delay n) ((nth l n).time + delay) + (nth l n).size * slow
def serveL (l : List Sent) (slow delay : Int) : List Int := (List.range l.length).map fun n => servE l slow delay (n + 1)
theorem servE_step {l : List Sent} {slow delay i : Int} (h : 0 ≤ i) : servE l slow delay (i + 1).toNat = max (servE l slow delay i.toNat) ((nth l i).time + delay) + (nth l i).size * slow := by
  obtain ⟨n, rfl⟩ : ∃ n : Nat, i = n := ⟨i.toNat, by omega⟩
  rw [show ((n : Int) + 1).toNat = n + 1 from by omega]; simp [servE]
theorem rng_step {β : Type} (f : Nat → β) {i : Int} (h : 0 ≤ i) : (List.range (i + 1).toNat).map f = (List.range i.toNat).map f ++ [f i.toNat] := by
  rw [show (i + 1).toNat = i.toNat + 1 from by omega, List.range_succ, List.map_append]; simp

set_option maxRecDepth 20000 in
theorem cfr_ok (ao : Option Addr) (m cap : Nat) (l : List Sent) (w₀ : World)
    (hs : SlP [] w₀ (.slice ao m cap) 3 sentP l)
    (hv : SentsOk l) :
    Calls Try.prog 26 #[(.slice ao m cap)] w₀ fun e w' => e = .returned (.bool true) ∧ Hp [] w₀ w' [] := by
  have hlm := hs.len
  have hln := hv.len
  refine Calls.ofWC (vs := [(.slice ao m cap)]) (pre := []) (env := [(0, (.slice ao m cap))]) Try.func26 rfl Try.ntmps26 rfl (Hp.nil w₀ _) rfl ?_
  refine WC.seq ?_
  refine WC.region ?_
  refine WL.quiet (d := 2) rfl rfl rfl (q_assign rfl) ?_
  refine WL.nil ?_
  refine WX.then ?_
  refine WC.seq ?_
  refine WC.seq ?_
  refine WC.region ?_
  refine WL.quiet (d := 5) rfl rfl rfl (q_move rfl) ?_
  refine WL.quiet (d := 6) rfl rfl rfl (q_len Try.underlying44 rfl) ?_
  refine WL.quiet (d := 7) rfl rfl rfl (q_move rfl) ?_
  refine WL.nil ?_
  refine WX.then ?_
  refine WC.block ?_
  refine WC.loop1 (fun (i : Int) => (0 ≤ i) ∧ (i ≤ l.length)) (fun (i : Int) => [(0, (.slice ao m cap)), (5, (.slice ao m cap)), (6, (.int .i64 ((m : Nat) : Int))), (7, (.int .i64 i))]) (fun (i : Int) => []) (fun (i : Int) => (l.length - i.toNat)) 0 ⟨(by first | omega | (dsimp only; omega)), (by first | omega | (dsimp only; omega))⟩ (.cons rfl (.cons rfl (.cons rfl (.cons rfl .nil)))) .nil ?_
  rintro i ⟨h0, h1⟩
  have h3 := hv.one i h0
  have h4 := hv.two i
  refine WC.seq ?_
  refine WC.region ?_
  refine WL.quiet (d := 8) rfl rfl rfl (q_lss rfl rfl) ?_
  refine WL.nil ?_
  refine WX.then ?_
  refine WC.seq ?_
  refine WC.cond rfl (fun h => ?_) (fun h => ?_)
  · have hc1 : i < ((m : Nat) : Int) := ((decide_eq_true_iff)).1 h; clear h
    refine WC.skip ?_
    refine WX.then ?_
    refine WC.seq ?_
    refine WC.block ?_
    refine WC.seq ?_
    refine WC.region ?_
    refine WL.quiet (d := 9) rfl rfl rfl (q_move rfl) ?_
    refine WL.nth (dd := 10) rfl rfl elT_44 rfl rfl hs (by omega) (by omega) ?_
    rintro A2 r3 hA4 hl5 rfl; clear hl5
    refine WL.quiet (d := 11) rfl rfl rfl (q_loadA (cs := (sentE (nth l i))) aggT_47 rfl rfl (rd_cells hA4)) ?_
    refine WL.new (dd := 4) rfl rfl rfl (e_alloc (cs := [(.int .i64 0), (.int .i64 0), (.int .i64 0)]) zeroT_47 rfl) ?_
    intro b7 _
    refine WL.quiet (d := 3) rfl rfl rfl (q_assign rfl) ?_
    refine WL.eff0 rfl rfl (e_store (vs := (sentE (nth l i))) (ds := [(.int .i64 ((nth l i).time)), (.int .i64 ((nth l i).vl)), (.int .i64 ((nth l i).size))]) sizT_47 rfl rfl rfl rfl (oc_cons rfl (oc_cons rfl (oc_cons rfl oc_nil))) .here (Nat.le_of_ble_eq_true rfl) rfl) ?_
    refine WL.nil ?_
    refine WX.then ?_
    refine WC.seq ?_
    refine WC.draw (fun i => [].contains i) [] rfl ?_
    refine WD.pure (i := 0) (d := 12) (by kernel_rfl) rfl (by kernel_rfl) (by kernel_rfl) rfl rfl rfl (fun _ => q_fieldAddr fo_47_0 rfl rfl) ?_
    refine WD.quiet (i := 1) (d := 13) (by kernel_rfl) rfl (by kernel_rfl) (by kernel_rfl) rfl rfl rfl (q_load1 oneT_3 rfl (rd_stb .here rfl)) ?_
    refine WD.pure (i := 2) (d := 14) (by kernel_rfl) rfl (by kernel_rfl) (by kernel_rfl) rfl rfl rfl (fun _ => q_lss rfl rfl) ?_
    refine WD.pure (i := 3) (d := 15) (by kernel_rfl) rfl (by kernel_rfl) (by kernel_rfl) rfl rfl rfl (fun _ => q_move rfl) ?_
    refine WD.mid (fuel' := 25) [(0, (.slice ao m cap)), (5, (.slice ao m cap)), (6, (.int .i64 ((m : Nat) : Int))), (7, (.int .i64 i)), (8, (.bool (decide (i < ((m : Nat) : Int))))), (9, (.int .i64 i)), (10, (.pointer (some A2))), (11, (.agg (((sentE (nth l i))).toArray))), (4, (.pointer (some ⟨b7, 0, none⟩))), (3, (.int .i64 i)), (12, (.pointer (some ⟨b7, 0, none⟩))), (13, (.int .i64 ((nth l i).time))), (14, (.bool (decide (((nth l i).time) < 0)))), (15, (.bool (decide (((nth l i).time) < 0)))), (19, (.bool ((decide (((nth l i).time) < 0)) || (decide (((nth l i).time) > 1073741824)))))] (listedA 33 [7, 6, 5, 4, 3, 2, 1, 0]) ?_ (fun K9 => ?_)
    rotate_left
    · by_cases hb8 : ((nth l i).time) < 0
      · refine WD.pin (i := 15) rfl (bT (decide_eq_true_iff) hb8) ?_
        refine WD.skip (i := 4) (d := 16) (by kernel_rfl) rfl (by kernel_rfl) (by kernel_rfl) rfl rfl rfl ?_
        refine WD.skip (i := 5) (d := 17) (by kernel_rfl) rfl (by kernel_rfl) (by kernel_rfl) rfl rfl rfl ?_
        refine WD.skip (i := 6) (d := 18) (by kernel_rfl) rfl (by kernel_rfl) (by kernel_rfl) rfl rfl rfl ?_
        refine WD.pure (i := 7) (d := 19) (by kernel_rfl) rfl (by kernel_rfl) (by kernel_rfl) rfl rfl rfl (fun _ => q_pickT rfl rfl) ?_
        refine WD.restr ?_ K9
        exact (.cons rfl (.cons rfl (.cons rfl (.cons rfl (.cons rfl (.cons rfl (.cons rfl (.cons rfl (.cons rfl (.cons rfl (.cons rfl (.cons rfl (.cons rfl (.cons (some_bool (Eq.symm (bT (decide_eq_true_iff) hb8))) (.cons (some_bool (or_l (bT (decide_eq_true_iff) hb8))) .nil)))))))))))))))
      · refine WD.pin (i := 15) rfl (bF (decide_eq_true_iff) hb8) ?_
        refine WD.pure (i := 4) (d := 16) (by kernel_rfl) rfl (by kernel_rfl) (by kernel_rfl) rfl rfl rfl (fun _ => q_fieldAddr fo_47_0 rfl rfl) ?_
        refine WD.quiet (i := 5) (d := 17) (by kernel_rfl) rfl (by kernel_rfl) (by kernel_rfl) rfl rfl rfl (q_load1 oneT_3 rfl (rd_stb .here rfl)) ?_
        refine WD.pure (i := 6) (d := 18) (by kernel_rfl) rfl (by kernel_rfl) (by kernel_rfl) rfl rfl rfl (fun _ => q_gtr rfl rfl) ?_
        refine WD.pure (i := 7) (d := 19) (by kernel_rfl) rfl (by kernel_rfl) (by kernel_rfl) rfl rfl rfl (fun _ => q_pickF rfl rfl) ?_
        refine WD.restr ?_ K9
        exact (.cons rfl (.cons rfl (.cons rfl (.cons rfl (.cons rfl (.cons rfl (.cons rfl (.cons rfl (.cons rfl (.cons rfl (.cons rfl (.cons rfl (.cons rfl (.cons (some_bool (Eq.symm (bF (decide_eq_true_iff) hb8))) (.cons (some_bool (or_r (bF (decide_eq_true_iff) hb8))) .nil)))))))))))))))
    refine WD.pure (i := 8) (d := 20) (by kernel_rfl) rfl (by kernel_rfl) (by kernel_rfl) rfl rfl rfl (fun _ => q_move rfl) ?_
    refine WD.mid (fuel' := 20) [(0, (.slice ao m cap)), (5, (.slice ao m cap)), (6, (.int .i64 ((m : Nat) : Int))), (7, (.int .i64 i)), (8, (.bool (decide (i < ((m : Nat) : Int))))), (9, (.int .i64 i)), (10, (.pointer (some A2))), (11, (.agg (((sentE (nth l i))).toArray))), (4, (.pointer (some ⟨b7, 0, none⟩))), (3, (.int .i64 i)), (12, (.pointer (some ⟨b7, 0, none⟩))), (13, (.int .i64 ((nth l i).time))), (14, (.bool (decide (((nth l i).time) < 0)))), (15, (.bool (decide (((nth l i).time) < 0)))), (19, (.bool ((decide (((nth l i).time) < 0)) || (decide (((nth l i).time) > 1073741824))))), (20, (.bool ((decide (((nth l i).time) < 0)) || (decide (((nth l i).time) > 1073741824))))), (24, (.bool (((decide (((nth l i).time) < 0)) || (decide (((nth l i).time) > 1073741824))) || (decide (((nth l i).size) < 1)))))] (listedA 33 [12, 11, 10, 9, 8, 7, 6, 5, 4, 3, 2, 1, 0]) ?_ (fun K11 => ?_)
    rotate_left
    · by_cases hb10 : (((nth l i).time) < 0) ∨ (((nth l i).time) > 1073741824)
      · refine WD.pin (i := 20) rfl (bT (biff_or (decide_eq_true_iff) (decide_eq_true_iff)) hb10) ?_
        refine WD.skip (i := 9) (d := 21) (by kernel_rfl) rfl (by kernel_rfl) (by kernel_rfl) rfl rfl rfl ?_
        refine WD.skip (i := 10) (d := 22) (by kernel_rfl) rfl (by kernel_rfl) (by kernel_rfl) rfl rfl rfl ?_
        refine WD.skip (i := 11) (d := 23) (by kernel_rfl) rfl (by kernel_rfl) (by kernel_rfl) rfl rfl rfl ?_
        refine WD.pure (i := 12) (d := 24) (by kernel_rfl) rfl (by kernel_rfl) (by kernel_rfl) rfl rfl rfl (fun _ => q_pickT rfl rfl) ?_
        refine WD.restr ?_ K11
        exact (.cons rfl (.cons rfl (.cons rfl (.cons rfl (.cons rfl (.cons rfl (.cons rfl (.cons rfl (.cons rfl (.cons rfl (.cons rfl (.cons rfl (.cons rfl (.cons rfl (.cons rfl (.cons (some_bool (Eq.symm (bT (biff_or (decide_eq_true_iff) (decide_eq_true_iff)) hb10))) (.cons (some_bool (or_l (bT (biff_or (decide_eq_true_iff) (decide_eq_true_iff)) hb10))) .nil)))))))))))))))))
      · refine WD.pin (i := 20) rfl (bF (biff_or (decide_eq_true_iff) (decide_eq_true_iff)) hb10) ?_
        refine WD.pure (i := 9) (d := 21) (by kernel_rfl) rfl (by kernel_rfl) (by kernel_rfl) rfl rfl rfl (fun _ => q_fieldAddr fo_47_2 rfl rfl) ?_
        refine WD.quiet (i := 10) (d := 22) (by kernel_rfl) rfl (by kernel_rfl) (by kernel_rfl) rfl rfl rfl (q_load1 oneT_3 rfl (rd_stb .here rfl)) ?_
        refine WD.pure (i := 11) (d := 23) (by kernel_rfl) rfl (by kernel_rfl) (by kernel_rfl) rfl rfl rfl (fun _ => q_lss rfl rfl) ?_
        refine WD.pure (i := 12) (d := 24) (by kernel_rfl) rfl (by kernel_rfl) (by kernel_rfl) rfl rfl rfl (fun _ => q_pickF rfl rfl) ?_
        refine WD.restr ?_ K11
        exact (.cons rfl (.cons rfl (.cons rfl (.cons rfl (.cons rfl (.cons rfl (.cons rfl (.cons rfl (.cons rfl (.cons rfl (.cons rfl (.cons rfl (.cons rfl (.cons rfl (.cons rfl (.cons (some_bool (Eq.symm (bF (biff_or (decide_eq_true_iff) (decide_eq_true_iff)) hb10))) (.cons (some_bool (or_r (bF (biff_or (decide_eq_true_iff) (decide_eq_true_iff)) hb10))) .nil)))))))))))))))))
    refine WD.pure (i := 13) (d := 25) (by kernel_rfl) rfl (by kernel_rfl) (by kernel_rfl) rfl rfl rfl (fun _ => q_move rfl) ?_
    refine WD.mid (fuel' := 15) [(0, (.slice ao m cap)), (5, (.slice ao m cap)), (6, (.int .i64 ((m : Nat) : Int))), (7, (.int .i64 i)), (8, (.bool (decide (i < ((m : Nat) : Int))))), (9, (.int .i64 i)), (10, (.pointer (some A2))), (11, (.agg (((sentE (nth l i))).toArray))), (4, (.pointer (some ⟨b7, 0, none⟩))), (3, (.int .i64 i)), (12, (.pointer (some ⟨b7, 0, none⟩))), (13, (.int .i64 ((nth l i).time))), (14, (.bool (decide (((nth l i).time) < 0)))), (15, (.bool (decide (((nth l i).time) < 0)))), (19, (.bool ((decide (((nth l i).time) < 0)) || (decide (((nth l i).time) > 1073741824))))), (20, (.bool ((decide (((nth l i).time) < 0)) || (decide (((nth l i).time) > 1073741824))))), (24, (.bool (((decide (((nth l i).time) < 0)) || (decide (((nth l i).time) > 1073741824))) || (decide (((nth l i).size) < 1))))), (25, (.bool (((decide (((nth l i).time) < 0)) || (decide (((nth l i).time) > 1073741824))) || (decide (((nth l i).size) < 1))))), (29, (.bool ((((decide (((nth l i).time) < 0)) || (decide (((nth l i).time) > 1073741824))) || (decide (((nth l i).size) < 1))) || (decide (((nth l i).size) > 72)))))] (listedA 33 [17, 16, 15, 14, 13, 12, 11, 10, 9, 8, 7, 6, 5, 4, 3, 2, 1, 0]) ?_ (fun K13 => ?_)
    rotate_left
    · by_cases hb12 : ((((nth l i).time) < 0) ∨ (((nth l i).time) > 1073741824)) ∨ (((nth l i).size) < 1)
      · refine WD.pin (i := 25) rfl (bT (biff_or (biff_or (decide_eq_true_iff) (decide_eq_true_iff)) (decide_eq_true_iff)) hb12) ?_
        refine WD.skip (i := 14) (d := 26) (by kernel_rfl) rfl (by kernel_rfl) (by kernel_rfl) rfl rfl rfl ?_
        refine WD.skip (i := 15) (d := 27) (by kernel_rfl) rfl (by kernel_rfl) (by kernel_rfl) rfl rfl rfl ?_
        refine WD.skip (i := 16) (d := 28) (by kernel_rfl) rfl (by kernel_rfl) (by kernel_rfl) rfl rfl rfl ?_
        refine WD.pure (i := 17) (d := 29) (by kernel_rfl) rfl (by kernel_rfl) (by kernel_rfl) rfl rfl rfl (fun _ => q_pickT rfl rfl) ?_
        refine WD.restr ?_ K13
        exact (.cons rfl (.cons rfl (.cons rfl (.cons rfl (.cons rfl (.cons rfl (.cons rfl (.cons rfl (.cons rfl (.cons rfl (.cons rfl (.cons rfl (.cons rfl (.cons rfl (.cons rfl (.cons rfl (.cons rfl (.cons (some_bool (Eq.symm (bT (biff_or (biff_or (decide_eq_true_iff) (decide_eq_true_iff)) (decide_eq_true_iff)) hb12))) (.cons (some_bool (or_l (bT (biff_or (biff_or (decide_eq_true_iff) (decide_eq_true_iff)) (decide_eq_true_iff)) hb12))) .nil)))))))))))))))))))
      · refine WD.pin (i := 25) rfl (bF (biff_or (biff_or (decide_eq_true_iff) (decide_eq_true_iff)) (decide_eq_true_iff)) hb12) ?_
        refine WD.pure (i := 14) (d := 26) (by kernel_rfl) rfl (by kernel_rfl) (by kernel_rfl) rfl rfl rfl (fun _ => q_fieldAddr fo_47_2 rfl rfl) ?_
        refine WD.quiet (i := 15) (d := 27) (by kernel_rfl) rfl (by kernel_rfl) (by kernel_rfl) rfl rfl rfl (q_load1 oneT_3 rfl (rd_stb .here rfl)) ?_
        refine WD.pure (i := 16) (d := 28) (by kernel_rfl) rfl (by kernel_rfl) (by kernel_rfl) rfl rfl rfl (fun _ => q_gtr rfl rfl) ?_
        refine WD.pure (i := 17) (d := 29) (by kernel_rfl) rfl (by kernel_rfl) (by kernel_rfl) rfl rfl rfl (fun _ => q_pickF rfl rfl) ?_
        refine WD.restr ?_ K13
        exact (.cons rfl (.cons rfl (.cons rfl (.cons rfl (.cons rfl (.cons rfl (.cons rfl (.cons rfl (.cons rfl (.cons rfl (.cons rfl (.cons rfl (.cons rfl (.cons rfl (.cons rfl (.cons rfl (.cons rfl (.cons (some_bool (Eq.symm (bF (biff_or (biff_or (decide_eq_true_iff) (decide_eq_true_iff)) (decide_eq_true_iff)) hb12))) (.cons (some_bool (or_r (bF (biff_or (biff_or (decide_eq_true_iff) (decide_eq_true_iff)) (decide_eq_true_iff)) hb12))) .nil)))))))))))))))))))
    refine WD.pure (i := 18) (d := 30) (by kernel_rfl) rfl (by kernel_rfl) (by kernel_rfl) rfl rfl rfl (fun _ => q_move rfl) ?_
    refine WD.mid (fuel' := 0) [(0, (.slice ao m cap)), (5, (.slice ao m cap)), (6, (.int .i64 ((m : Nat) : Int))), (7, (.int .i64 i)), (8, (.bool (decide (i < ((m : Nat) : Int))))), (9, (.int .i64 i)), (10, (.pointer (some A2))), (11, (.agg (((sentE (nth l i))).toArray))), (4, (.pointer (some ⟨b7, 0, none⟩))), (3, (.int .i64 i)), (12, (.pointer (some ⟨b7, 0, none⟩))), (13, (.int .i64 ((nth l i).time))), (14, (.bool (decide (((nth l i).time) < 0)))), (15, (.bool (decide (((nth l i).time) < 0)))), (19, (.bool ((decide (((nth l i).time) < 0)) || (decide (((nth l i).time) > 1073741824))))), (20, (.bool ((decide (((nth l i).time) < 0)) || (decide (((nth l i).time) > 1073741824))))), (24, (.bool (((decide (((nth l i).time) < 0)) || (decide (((nth l i).time) > 1073741824))) || (decide (((nth l i).size) < 1))))), (25, (.bool (((decide (((nth l i).time) < 0)) || (decide (((nth l i).time) > 1073741824))) || (decide (((nth l i).size) < 1))))), (29, (.bool ((((decide (((nth l i).time) < 0)) || (decide (((nth l i).time) > 1073741824))) || (decide (((nth l i).size) < 1))) || (decide (((nth l i).size) > 72))))), (30, (.bool ((((decide (((nth l i).time) < 0)) || (decide (((nth l i).time) > 1073741824))) || (decide (((nth l i).size) < 1))) || (decide (((nth l i).size) > 72))))), (44, (.bool (((((decide (((nth l i).time) < 0)) || (decide (((nth l i).time) > 1073741824))) || (decide (((nth l i).size) < 1))) || (decide (((nth l i).size) > 72))) || ((decide (i > 0)) && (decide (((nth l (i - 1)).time) > ((nth l i).time)))))))] (listedA 33 [32, 31, 30, 29, 28, 27, 26, 25, 24, 23, 22, 21, 20, 19, 18, 17, 16, 15, 14, 13, 12, 11, 10, 9, 8, 7, 6, 5, 4, 3, 2, 1, 0]) ?_ (fun K15 => ?_)
    rotate_left
    · by_cases hb14 : (((((nth l i).time) < 0) ∨ (((nth l i).time) > 1073741824)) ∨ (((nth l i).size) < 1)) ∨ (((nth l i).size) > 72)
      · refine WD.pin (i := 30) rfl (bT (biff_or (biff_or (biff_or (decide_eq_true_iff) (decide_eq_true_iff)) (decide_eq_true_iff)) (decide_eq_true_iff)) hb14) ?_
        refine WD.skip (i := 19) (d := 31) (by kernel_rfl) rfl (by kernel_rfl) (by kernel_rfl) rfl rfl rfl ?_
        refine WD.skip (i := 20) (d := 32) (by kernel_rfl) rfl (by kernel_rfl) (by kernel_rfl) rfl rfl rfl ?_
        refine WD.skip (i := 21) (d := 33) (by kernel_rfl) rfl (by kernel_rfl) (by kernel_rfl) rfl rfl rfl ?_
        refine WD.skip (i := 22) (d := 34) (by kernel_rfl) rfl (by kernel_rfl) (by kernel_rfl) rfl rfl rfl ?_
        refine WD.skip (i := 23) (d := 35) (by kernel_rfl) rfl (by kernel_rfl) (by kernel_rfl) rfl rfl rfl ?_
        refine WD.skip (i := 24) (d := 36) (by kernel_rfl) rfl (by kernel_rfl) (by kernel_rfl) rfl rfl rfl ?_
        refine WD.skip (i := 25) (d := 37) (by kernel_rfl) rfl (by kernel_rfl) (by kernel_rfl) rfl rfl rfl ?_
        refine WD.skip (i := 26) (d := 38) (by kernel_rfl) rfl (by kernel_rfl) (by kernel_rfl) rfl rfl rfl ?_
        refine WD.skip (i := 27) (d := 39) (by kernel_rfl) rfl (by kernel_rfl) (by kernel_rfl) rfl rfl rfl ?_
        refine WD.skip (i := 28) (d := 40) (by kernel_rfl) rfl (by kernel_rfl) (by kernel_rfl) rfl rfl rfl ?_
        refine WD.skip (i := 29) (d := 41) (by kernel_rfl) rfl (by kernel_rfl) (by kernel_rfl) rfl rfl rfl ?_
        refine WD.skip (i := 30) (d := 42) (by kernel_rfl) rfl (by kernel_rfl) (by kernel_rfl) rfl rfl rfl ?_
        refine WD.skip (i := 31) (d := 43) (by kernel_rfl) rfl (by kernel_rfl) (by kernel_rfl) rfl rfl rfl ?_
        refine WD.pure (i := 32) (d := 44) (by kernel_rfl) rfl (by kernel_rfl) (by kernel_rfl) rfl rfl rfl (fun _ => q_pickT rfl rfl) ?_
        refine WD.restr ?_ K15
        exact (.cons rfl (.cons rfl (.cons rfl (.cons rfl (.cons rfl (.cons rfl (.cons rfl (.cons rfl (.cons rfl (.cons rfl (.cons rfl (.cons rfl (.cons rfl (.cons rfl (.cons rfl (.cons rfl (.cons rfl (.cons rfl (.cons rfl (.cons (some_bool (Eq.symm (bT (biff_or (biff_or (biff_or (decide_eq_true_iff) (decide_eq_true_iff)) (decide_eq_true_iff)) (decide_eq_true_iff)) hb14))) (.cons (some_bool (or_l (bT (biff_or (biff_or (biff_or (decide_eq_true_iff) (decide_eq_true_iff)) (decide_eq_true_iff)) (decide_eq_true_iff)) hb14))) .nil)))))))))))))))))))))
      · refine WD.pin (i := 30) rfl (bF (biff_or (biff_or (biff_or (decide_eq_true_iff) (decide_eq_true_iff)) (decide_eq_true_iff)) (decide_eq_true_iff)) hb14) ?_
        refine WD.pure (i := 19) (d := 31) (by kernel_rfl) rfl (by kernel_rfl) (by kernel_rfl) rfl rfl rfl (fun _ => q_move rfl) ?_
        refine WD.pure (i := 20) (d := 32) (by kernel_rfl) rfl (by kernel_rfl) (by kernel_rfl) rfl rfl rfl (fun _ => q_gtr rfl rfl) ?_
        refine WD.pure (i := 21) (d := 33) (by kernel_rfl) rfl (by kernel_rfl) (by kernel_rfl) rfl rfl rfl (fun _ => q_move rfl) ?_
        refine WD.mid (fuel' := 1) [(0, (.slice ao m cap)), (5, (.slice ao m cap)), (6, (.int .i64 ((m : Nat) : Int))), (7, (.int .i64 i)), (8, (.bool (decide (i < ((m : Nat) : Int))))), (9, (.int .i64 i)), (10, (.pointer (some A2))), (11, (.agg (((sentE (nth l i))).toArray))), (4, (.pointer (some ⟨b7, 0, none⟩))), (3, (.int .i64 i)), (12, (.pointer (some ⟨b7, 0, none⟩))), (13, (.int .i64 ((nth l i).time))), (14, (.bool (decide (((nth l i).time) < 0)))), (15, (.bool (decide (((nth l i).time) < 0)))), (19, (.bool ((decide (((nth l i).time) < 0)) || (decide (((nth l i).time) > 1073741824))))), (20, (.bool ((decide (((nth l i).time) < 0)) || (decide (((nth l i).time) > 1073741824))))), (24, (.bool (((decide (((nth l i).time) < 0)) || (decide (((nth l i).time) > 1073741824))) || (decide (((nth l i).size) < 1))))), (25, (.bool (((decide (((nth l i).time) < 0)) || (decide (((nth l i).time) > 1073741824))) || (decide (((nth l i).size) < 1))))), (29, (.bool ((((decide (((nth l i).time) < 0)) || (decide (((nth l i).time) > 1073741824))) || (decide (((nth l i).size) < 1))) || (decide (((nth l i).size) > 72))))), (30, (.bool false)), (31, (.int .i64 i)), (32, (.bool (decide (i > 0)))), (33, (.bool (decide (i > 0)))), (43, (.bool ((decide (i > 0)) && (decide (((nth l (i - 1)).time) > ((nth l i).time))))))] (listedA 33 [31, 30, 29, 28, 27, 26, 25, 24, 23, 22, 21, 20, 19, 18, 17, 16, 15, 14, 13, 12, 11, 10, 9, 8, 7, 6, 5, 4, 3, 2, 1, 0]) ?_ (fun K17 => ?_)
        rotate_left
        · by_cases hb16 : i > 0
          · refine WD.pin (i := 33) rfl (bT (decide_eq_true_iff) hb16) ?_
            refine WD.pure (i := 22) (d := 34) (by kernel_rfl) rfl (by kernel_rfl) (by kernel_rfl) rfl rfl rfl (fun _ => q_move rfl) ?_
            refine WD.pure (i := 23) (d := 35) (by kernel_rfl) rfl (by kernel_rfl) (by kernel_rfl) rfl rfl rfl (fun _ => q_move rfl) ?_
            refine WD.pure (i := 24) (d := 36) (by kernel_rfl) rfl (by kernel_rfl) (by kernel_rfl) rfl rfl rfl (fun _ => q_sub rfl rfl (w64 (by omega))) ?_
            refine WD.nth (j := 25) (dd := 37) (by kernel_rfl) rfl (by kernel_rfl) (by kernel_rfl) rfl rfl elT_44 rfl rfl hs (by omega) (by omega) ?_
            rintro A18 r19 hA20 hl21 rfl; clear hl21
            refine WD.pure (i := 26) (d := 38) (by kernel_rfl) rfl (by kernel_rfl) (by kernel_rfl) rfl rfl rfl (fun _ => q_fieldAddr fo_47_0 rfl rfl) ?_
            refine WD.quiet (i := 27) (d := 39) (by kernel_rfl) rfl (by kernel_rfl) (by kernel_rfl) rfl rfl rfl (q_load1 oneT_3 rfl (rd_cell hA20 rfl)) ?_
            refine WD.pure (i := 28) (d := 40) (by kernel_rfl) rfl (by kernel_rfl) (by kernel_rfl) rfl rfl rfl (fun _ => q_fieldAddr fo_47_0 rfl rfl) ?_
            refine WD.quiet (i := 29) (d := 41) (by kernel_rfl) rfl (by kernel_rfl) (by kernel_rfl) rfl rfl rfl (q_load1 oneT_3 rfl (rd_stb .here rfl)) ?_
            refine WD.pure (i := 30) (d := 42) (by kernel_rfl) rfl (by kernel_rfl) (by kernel_rfl) rfl rfl rfl (fun _ => q_gtr rfl rfl) ?_
            refine WD.pure (i := 31) (d := 43) (by kernel_rfl) rfl (by kernel_rfl) (by kernel_rfl) rfl rfl rfl (fun _ => q_pickT rfl rfl) ?_
            refine WD.restr ?_ K17
            exact (.cons rfl (.cons rfl (.cons rfl (.cons rfl (.cons rfl (.cons rfl (.cons rfl (.cons rfl (.cons rfl (.cons rfl (.cons rfl (.cons rfl (.cons rfl (.cons rfl (.cons rfl (.cons rfl (.cons rfl (.cons rfl (.cons rfl (.cons rfl (.cons rfl (.cons rfl (.cons (some_bool (Eq.symm (bT (decide_eq_true_iff) hb16))) (.cons (some_bool (and_r (bT (decide_eq_true_iff) hb16))) .nil))))))))))))))))))))))))
          · refine WD.pin (i := 33) rfl (bF (decide_eq_true_iff) hb16) ?_
            refine WD.skip (i := 22) (d := 34) (by kernel_rfl) rfl (by kernel_rfl) (by kernel_rfl) rfl rfl rfl ?_
            refine WD.skip (i := 23) (d := 35) (by kernel_rfl) rfl (by kernel_rfl) (by kernel_rfl) rfl rfl rfl ?_
            refine WD.skip (i := 24) (d := 36) (by kernel_rfl) rfl (by kernel_rfl) (by kernel_rfl) rfl rfl rfl ?_
            refine WD.skip (i := 25) (d := 37) (by kernel_rfl) rfl (by kernel_rfl) (by kernel_rfl) rfl rfl rfl ?_
            refine WD.skip (i := 26) (d := 38) (by kernel_rfl) rfl (by kernel_rfl) (by kernel_rfl) rfl rfl rfl ?_
            refine WD.skip (i := 27) (d := 39) (by kernel_rfl) rfl (by kernel_rfl) (by kernel_rfl) rfl rfl rfl ?_
            refine WD.skip (i := 28) (d := 40) (by kernel_rfl) rfl (by kernel_rfl) (by kernel_rfl) rfl rfl rfl ?_
            refine WD.skip (i := 29) (d := 41) (by kernel_rfl) rfl (by kernel_rfl) (by kernel_rfl) rfl rfl rfl ?_
            refine WD.skip (i := 30) (d := 42) (by kernel_rfl) rfl (by kernel_rfl) (by kernel_rfl) rfl rfl rfl ?_
            refine WD.pure (i := 31) (d := 43) (by kernel_rfl) rfl (by kernel_rfl) (by kernel_rfl) rfl rfl rfl (fun _ => q_pickF rfl rfl) ?_
            refine WD.restr ?_ K17
            exact (.cons rfl (.cons rfl (.cons rfl (.cons rfl (.cons rfl (.cons rfl (.cons rfl (.cons rfl (.cons rfl (.cons rfl (.cons rfl (.cons rfl (.cons rfl (.cons rfl (.cons rfl (.cons rfl (.cons rfl (.cons rfl (.cons rfl (.cons rfl (.cons rfl (.cons rfl (.cons (some_bool (Eq.symm (bF (decide_eq_true_iff) hb16))) (.cons (some_bool (and_l (bF (decide_eq_true_iff) hb16))) .nil))))))))))))))))))))))))
        refine WD.pure (i := 32) (d := 44) (by kernel_rfl) rfl (by kernel_rfl) (by kernel_rfl) rfl rfl rfl (fun _ => q_pickF rfl rfl) ?_
        refine WD.restr ?_ K15
        exact (.cons rfl (.cons rfl (.cons rfl (.cons rfl (.cons rfl (.cons rfl (.cons rfl (.cons rfl (.cons rfl (.cons rfl (.cons rfl (.cons rfl (.cons rfl (.cons rfl (.cons rfl (.cons rfl (.cons rfl (.cons rfl (.cons rfl (.cons (some_bool (Eq.symm (bF (biff_or (biff_or (biff_or (decide_eq_true_iff) (decide_eq_true_iff)) (decide_eq_true_iff)) (decide_eq_true_iff)) hb14))) (.cons (some_bool (or_r (bF (biff_or (biff_or (biff_or (decide_eq_true_iff) (decide_eq_true_iff)) (decide_eq_true_iff)) (decide_eq_true_iff)) hb14))) .nil)))))))))))))))))))))
    refine WD.done (by kernel_rfl) ?_
    refine WX.then ?_
    refine WC.cond rfl (fun h => absurd ((biff_or (biff_or (biff_or (biff_or (decide_eq_true_iff) (decide_eq_true_iff)) (decide_eq_true_iff)) (decide_eq_true_iff)) (biff_and (decide_eq_true_iff) (decide_eq_true_iff))).1 h) (by omega)) (fun _ => ?_)
    refine WC.skip ?_
    refine WX.blockNormal ?_
    refine WX.then ?_
    refine WC.region ?_
    refine WL.quiet (d := 45) rfl rfl rfl (q_add rfl rfl (w64 (by omega))) ?_
    refine WL.quiet (d := 7) rfl rfl rfl (q_move rfl) ?_
    refine WL.nil ?_
    exact WX.round (G := Int) (i + 1) ⟨(by first | omega | (dsimp only; omega)), (by first | omega | (dsimp only; omega))⟩ (by first | omega | (dsimp only; omega)) (.cons rfl (.cons rfl (.cons rfl (.cons rfl .nil)))) .nil
  · have hc1 : ¬ (i < ((m : Nat) : Int)) := biffF (decide_eq_true_iff) h; clear h
    refine WC.exit ?_
    refine WX.thenExit ?_
    refine WX.thenExit ?_
    refine WX.blockHit ?_
    refine WX.then ?_
    refine WC.seq ?_
    refine WC.region ?_
    refine WL.quiet (d := 46) rfl rfl rfl (q_move rfl) ?_
    refine WL.quiet (d := 47) rfl rfl rfl (q_len Try.underlying44 rfl) ?_
    refine WL.quiet (d := 48) rfl rfl rfl (q_leq rfl rfl) ?_
    refine WL.quiet (d := 2) rfl rfl rfl (q_assign rfl) ?_
    refine WL.nil ?_
    refine WX.then ?_
    refine WC.ret ?_
    refine WX.bpRet Try.results26 (.tmp rfl .nil) (fun w hw => ?_)
    exact ⟨ret1 (vbool (by exact bT decide_eq_true_iff (by omega))), (hw.sub .nil)⟩

set_option maxRecDepth 20000 in
theorem serve_c (ao : Option Addr) (m cap : Nat) (l : List Sent) (slow delay : Int) (w₀ : World)
    (hs : SlP [] w₀ (.slice ao m cap) 3 sentP l)
    (hv : SentsOk l)
    (hb : 1 ≤ slow ∧ slow ≤ 16 ∧ 0 ≤ delay ∧ delay ≤ 1000) :
    Calls Try.prog 20 #[(.slice ao m cap), (.int .i64 slow), (.int .i64 delay)] w₀ fun e w' => ∃ ao' : Option Addr, ∃ m' : Nat, ∃ cap' : Nat, ∃ out : List Int, e = .returned (.tuple #[(.slice ao' m' cap'), (.int .i64 0)]) ∧ ((out = serveL l slow delay) ∧ (m' = out.length)) ∧ Hp [] w₀ w' [row (.slice ao' m' cap') 3 1 (out.flatMap intE)] := by
  have hlm := hs.len
  have hln := hv.len
  refine Calls.ofWC (vs := [(.slice ao m cap), (.int .i64 slow), (.int .i64 delay)]) (pre := []) (env := [(0, (.slice ao m cap)), (1, (.int .i64 slow)), (2, (.int .i64 delay))]) Try.func20 rfl Try.ntmps20 rfl (Hp.nil w₀ _) rfl ?_
  refine WC.seq ?_
  refine WC.region ?_
  refine WL.quiet (d := 6) rfl rfl rfl (q_assign rfl) ?_
  refine WL.quiet (d := 7) rfl rfl rfl (q_assign rfl) ?_
  refine WL.nil ?_
  refine WX.then ?_
  refine WC.seq ?_
  refine WC.seq ?_
  refine WC.region ?_
  refine WL.quiet (d := 12) rfl rfl rfl (q_move rfl) ?_
  refine WL.callD (dd := 13) rfl rfl rfl (run_call (l := [.tmp 12]) Try.call26 (.cons rfl .nil)) .nil (fun w hw => cfr_ok (ao := ao) (m := m) (cap := cap) (l := l) (w₀ := w) (hs.call hw .nil (by decide) (fun _ _ h => h)) (by assumption)) ?_
  refine WL.quiet (d := 14) rfl rfl rfl (q_not rfl) ?_
  refine WL.quiet (d := 15) rfl rfl rfl (q_move rfl) ?_
  refine WL.quiet (d := 16) rfl rfl rfl (q_move rfl) ?_
  refine WL.quiet (d := 17) rfl rfl rfl (q_lss rfl rfl) ?_
  refine WL.quiet (d := 18) rfl rfl rfl (q_pickF rfl rfl) ?_
  refine WL.quiet (d := 19) rfl rfl rfl (q_move rfl) ?_
  refine WL.cut0 True [(0, (.slice ao m cap)), (1, (.int .i64 slow)), (2, (.int .i64 delay)), (6, (.slice none 0 0)), (7, (.int .i64 0)), (22, (.bool ((decide (slow < 1)) || (decide (slow > 16)))))] [] 3 ?_ (fun _ => ?_)
  · by_cases hb1 : slow < 1
    · refine WL.pin (i := 19) rfl (bT (decide_eq_true_iff) hb1) ?_
      refine WL.skip rfl rfl rfl ?_
      refine WL.skip rfl rfl rfl ?_
      refine WL.quiet (d := 22) rfl rfl rfl (q_pickT rfl rfl) ?_
      exact WL.cutEnd () trivial (.cons rfl (.cons rfl (.cons rfl (.cons rfl (.cons rfl (.cons (some_bool (or_l (bT (decide_eq_true_iff) hb1))) .nil)))))) .nil
    · refine WL.pin (i := 19) rfl (bF (decide_eq_true_iff) hb1) ?_
      refine WL.quiet (d := 20) rfl rfl rfl (q_move rfl) ?_
      refine WL.quiet (d := 21) rfl rfl rfl (q_gtr rfl rfl) ?_
      refine WL.quiet (d := 22) rfl rfl rfl (q_pickF rfl rfl) ?_
      exact WL.cutEnd () trivial (.cons rfl (.cons rfl (.cons rfl (.cons rfl (.cons rfl (.cons (some_bool (or_r (bF (decide_eq_true_iff) hb1))) .nil)))))) .nil
  · skip
    refine WL.quiet (d := 23) rfl rfl rfl (q_move rfl) ?_
    refine WL.cut0 True [(0, (.slice ao m cap)), (1, (.int .i64 slow)), (2, (.int .i64 delay)), (6, (.slice none 0 0)), (7, (.int .i64 0)), (26, (.bool (((decide (slow < 1)) || (decide (slow > 16))) || (decide (delay < 0)))))] [] 3 ?_ (fun _ => ?_)
    · by_cases hb2 : (slow < 1) ∨ (slow > 16)
      · refine WL.pin (i := 23) rfl (bT (biff_or (decide_eq_true_iff) (decide_eq_true_iff)) hb2) ?_
        refine WL.skip rfl rfl rfl ?_
        refine WL.skip rfl rfl rfl ?_
        refine WL.quiet (d := 26) rfl rfl rfl (q_pickT rfl rfl) ?_
        exact WL.cutEnd () trivial (.cons rfl (.cons rfl (.cons rfl (.cons rfl (.cons rfl (.cons (some_bool (or_l (bT (biff_or (decide_eq_true_iff) (decide_eq_true_iff)) hb2))) .nil)))))) .nil
      · refine WL.pin (i := 23) rfl (bF (biff_or (decide_eq_true_iff) (decide_eq_true_iff)) hb2) ?_
        refine WL.quiet (d := 24) rfl rfl rfl (q_move rfl) ?_
        refine WL.quiet (d := 25) rfl rfl rfl (q_lss rfl rfl) ?_
        refine WL.quiet (d := 26) rfl rfl rfl (q_pickF rfl rfl) ?_
        exact WL.cutEnd () trivial (.cons rfl (.cons rfl (.cons rfl (.cons rfl (.cons rfl (.cons (some_bool (or_r (bF (biff_or (decide_eq_true_iff) (decide_eq_true_iff)) hb2))) .nil)))))) .nil
    · skip
      refine WL.quiet (d := 27) rfl rfl rfl (q_move rfl) ?_
      refine WL.cut0 True [(0, (.slice ao m cap)), (1, (.int .i64 slow)), (2, (.int .i64 delay)), (6, (.slice none 0 0)), (7, (.int .i64 0)), (30, (.bool ((((decide (slow < 1)) || (decide (slow > 16))) || (decide (delay < 0))) || (decide (delay > 1000)))))] [] 3 ?_ (fun _ => ?_)
      · by_cases hb3 : ((slow < 1) ∨ (slow > 16)) ∨ (delay < 0)
        · refine WL.pin (i := 27) rfl (bT (biff_or (biff_or (decide_eq_true_iff) (decide_eq_true_iff)) (decide_eq_true_iff)) hb3) ?_
          refine WL.skip rfl rfl rfl ?_
          refine WL.skip rfl rfl rfl ?_
          refine WL.quiet (d := 30) rfl rfl rfl (q_pickT rfl rfl) ?_
          exact WL.cutEnd () trivial (.cons rfl (.cons rfl (.cons rfl (.cons rfl (.cons rfl (.cons (some_bool (or_l (bT (biff_or (biff_or (decide_eq_true_iff) (decide_eq_true_iff)) (decide_eq_true_iff)) hb3))) .nil)))))) .nil
        · refine WL.pin (i := 27) rfl (bF (biff_or (biff_or (decide_eq_true_iff) (decide_eq_true_iff)) (decide_eq_true_iff)) hb3) ?_
          refine WL.quiet (d := 28) rfl rfl rfl (q_move rfl) ?_
          refine WL.quiet (d := 29) rfl rfl rfl (q_gtr rfl rfl) ?_
          refine WL.quiet (d := 30) rfl rfl rfl (q_pickF rfl rfl) ?_
          exact WL.cutEnd () trivial (.cons rfl (.cons rfl (.cons rfl (.cons rfl (.cons rfl (.cons (some_bool (or_r (bF (biff_or (biff_or (decide_eq_true_iff) (decide_eq_true_iff)) (decide_eq_true_iff)) hb3))) .nil)))))) .nil
      · skip
        refine WL.nil ?_
        refine WX.then ?_
        refine WC.cond rfl (fun h => absurd ((biff_or (biff_or (biff_or (decide_eq_true_iff) (decide_eq_true_iff)) (decide_eq_true_iff)) (decide_eq_true_iff)).1 h) (by omega)) (fun _ => ?_)
        refine WC.skip ?_
        refine WX.then ?_
        refine WC.seq ?_
        refine WC.region ?_
        refine WL.quiet (d := 8) rfl rfl rfl (q_assign rfl) ?_
        refine WL.nil ?_
        refine WX.then ?_
        refine WC.seq ?_
        refine WC.region ?_
        refine WL.quiet (d := 9) rfl rfl rfl (q_assign rfl) ?_
        refine WL.nil ?_
        refine WX.then ?_
        refine WC.seq ?_
        refine WC.seq ?_
        refine WC.region ?_
        refine WL.quiet (d := 31) rfl rfl rfl (q_move rfl) ?_
        refine WL.quiet (d := 32) rfl rfl rfl (q_len Try.underlying44 rfl) ?_
        refine WL.quiet (d := 33) rfl rfl rfl (q_move rfl) ?_
        refine WL.nil ?_
        refine WX.then ?_
        refine WC.block ?_
        refine WC.nilRow 3 1 ?_
        refine WC.loop6 (fun (i : Int) (fin : Int) (ao' : Option Addr) (m' : Nat) (cap' : Nat) (out : List Int) => (0 ≤ i) ∧ (i ≤ l.length) ∧ (fin = servE l slow delay i.toNat) ∧ (0 ≤ fin ∧ fin ≤ 2147483648 + 1152 * i) ∧ (out = (List.range i.toNat).map (fun n => servE l slow delay (n + 1))) ∧ (m' = out.length)) (fun (i : Int) (fin : Int) (ao' : Option Addr) (m' : Nat) (cap' : Nat) (out : List Int) => [(1, (.int .i64 slow)), (2, (.int .i64 delay)), (31, (.slice ao m cap)), (32, (.int .i64 ((m : Nat) : Int))), (33, (.int .i64 i)), (9, (.int .i64 fin)), (8, (.slice ao' m' cap'))]) (fun (i : Int) (fin : Int) (ao' : Option Addr) (m' : Nat) (cap' : Nat) (out : List Int) => [row (.slice ao' m' cap') 3 1 (out.flatMap intE)]) (fun (i : Int) (fin : Int) (ao' : Option Addr) (m' : Nat) (cap' : Nat) (out : List Int) => (l.length - i.toNat)) ⟨0, 0, none, 0, 0, []⟩ ⟨(by first | omega | (dsimp only; omega)), (by first | omega | (dsimp only; omega)), (by first | (dsimp only; rfl) | (rfl)), (by first | omega | (dsimp only; omega)), (by first | (dsimp only; rfl) | (rfl)), (by first | (dsimp only; rfl) | (rfl))⟩ (.cons rfl (.cons rfl (.cons rfl (.cons rfl (.cons rfl (.cons rfl (.cons rfl .nil))))))) (.cons .here .nil) ?_
        rintro i fin ao' m' cap' out ⟨h0, h1, hf, hfb, ho, hm⟩
        have h3 := hv.one i h0
        have hmu : i < l.length → 0 ≤ (nth l i).size * slow ∧ (nth l i).size * slow ≤ 72 * 16 := fun h => mul_bd (by have := h3 h; omega) (h3 h).2.2.2 (by omega) (by omega)
        have hol : out.length = i.toNat := by rw [ho]; simp
        refine WC.seq ?_
        refine WC.region ?_
        refine WL.quiet (d := 34) rfl rfl rfl (q_lss rfl rfl) ?_
        refine WL.nil ?_
        refine WX.then ?_
        refine WC.seq ?_
        refine WC.cond rfl (fun h => ?_) (fun h => ?_)
        · have hc4 : i < ((m : Nat) : Int) := ((decide_eq_true_iff)).1 h; clear h
          refine WC.skip ?_
          refine WX.then ?_
          refine WC.seq ?_
          refine WC.block ?_
          refine WC.seq ?_
          refine WC.region ?_
          refine WL.nth (dd := 35) rfl rfl elT_44 rfl rfl hs (by omega) (by omega) ?_
          rintro A5 r6 hA7 hl8 rfl; clear hl8
          refine WL.quiet (d := 36) rfl rfl rfl (q_loadA (cs := (sentE (nth l i))) aggT_47 rfl rfl (rd_cells hA7)) ?_
          refine WL.new (dd := 11) rfl rfl rfl (e_alloc (cs := [(.int .i64 0), (.int .i64 0), (.int .i64 0)]) zeroT_47 rfl) ?_
          intro b10 _
          refine WL.eff0 rfl rfl (e_store (vs := (sentE (nth l i))) (ds := [(.int .i64 ((nth l i).time)), (.int .i64 ((nth l i).vl)), (.int .i64 ((nth l i).size))]) sizT_47 rfl rfl rfl rfl (oc_cons rfl (oc_cons rfl (oc_cons rfl oc_nil))) .here (Nat.le_of_ble_eq_true rfl) rfl) ?_
          refine WL.nil ?_
          refine WX.then ?_
          refine WC.seq ?_
          refine WC.region ?_
          refine WL.quiet (d := 37) rfl rfl rfl (q_move rfl) ?_
          refine WL.quiet (d := 38) rfl rfl rfl (q_fieldAddr fo_47_0 rfl rfl) ?_
          refine WL.quiet (d := 39) rfl rfl rfl (q_load1 oneT_3 rfl (rd_stb .here rfl)) ?_
          refine WL.quiet (d := 40) rfl rfl rfl (q_move rfl) ?_
          refine WL.quiet (d := 41) rfl rfl rfl (q_add rfl rfl (w64 (by omega))) ?_
          refine WL.quiet (d := 42) rfl rfl rfl (q_max rfl rfl rfl) ?_
          refine WL.quiet (d := 43) rfl rfl rfl (q_fieldAddr fo_47_2 rfl rfl) ?_
          refine WL.quiet (d := 44) rfl rfl rfl (q_load1 oneT_3 rfl (rd_stb .here rfl)) ?_
          refine WL.quiet (d := 45) rfl rfl rfl (q_move rfl) ?_
          refine WL.quiet (d := 46) rfl rfl rfl (q_mul rfl rfl (w64 (by omega))) ?_
          refine WL.quiet (d := 47) rfl rfl rfl (q_add rfl rfl (w64 (by omega))) ?_
          refine WL.quiet (d := 9) rfl rfl rfl (q_assign rfl) ?_
          refine WL.nil ?_
          refine WX.then ?_
          refine WC.region ?_
          refine WL.quiet (d := 48) rfl rfl rfl (q_move rfl) ?_
          refine WL.quiet (d := 49) rfl rfl rfl (q_move rfl) ?_
          refine WL.new (dd := 50) rfl rfl rfl (e_buildSlice (cs := [(.int .i64 ((max fin (((nth l i).time) + delay)) + (((nth l i).size) * slow)))]) elT_27 (Eos.parts (l := [.tmp 49]) (.cons rfl .nil) [0]) (fun _ => by kernel_rfl) rfl (by unfold maxLen; omega)) ?_
          intro b11 _
          refine WL.eff (d := 51) rfl rfl rfl (e_append elT_27 rfl rfl (.there (.there .here)) (by rfl) (news_row .here) (oc_cons rfl oc_nil) (by unfold maxLen; omega) (by omega)) ?_
          rintro ⟨ao12, cap13⟩ _
          refine WL.rowEq .here (show _ = (out ++ [(max fin (((nth l i).time) + delay)) + (((nth l i).size) * slow)]).flatMap intE from by simp [intE]) ?_
          refine WL.quiet (d := 8) rfl rfl rfl (q_assign rfl) ?_
          refine WL.nil ?_
          refine WX.blockNormal ?_
          refine WX.then ?_
          refine WC.region ?_
          refine WL.quiet (d := 52) rfl rfl rfl (q_add rfl rfl (w64 (by omega))) ?_
          refine WL.quiet (d := 33) rfl rfl rfl (q_move rfl) ?_
          refine WL.nil ?_
          exact WX.round (G := Int × Int × (Option Addr) × Nat × Nat × (List Int)) ⟨(i + 1), ((max fin (((nth l i).time) + delay)) + (((nth l i).size) * slow)), ao12, (m' + 1), cap13, (out ++ [(max fin (((nth l i).time) + delay)) + (((nth l i).size) * slow)])⟩ ⟨(by first | omega | (dsimp only; omega)), (by first | omega | (dsimp only; omega)), (by first | (dsimp only; rw [servE_step h0, hf]) | (rw [servE_step h0, hf])), (by first | omega | (dsimp only; omega)), (by first | (dsimp only; rw [rng_step _ h0, ho, ← (show (i + 1).toNat = i.toNat + 1 from by omega), servE_step h0, hf]) | (rw [rng_step _ h0, ho, ← (show (i + 1).toNat = i.toNat + 1 from by omega), servE_step h0, hf])), (by first | (dsimp only; simp; omega) | (simp; omega))⟩ (by first | omega | (dsimp only; omega)) (.cons rfl (.cons rfl (.cons rfl (.cons rfl (.cons rfl (.cons rfl (.cons rfl .nil))))))) (.cons .here .nil)
        · have hc4 : ¬ (i < ((m : Nat) : Int)) := biffF (decide_eq_true_iff) h; clear h
          refine WC.exit ?_
          refine WX.thenExit ?_
          refine WX.thenExit ?_
          refine WX.blockHit ?_
          refine WX.then ?_
          refine WC.seq ?_
          refine WC.region ?_
          refine WL.quiet (d := 53) rfl rfl rfl (q_move rfl) ?_
          refine WL.quiet (d := 6) rfl rfl rfl (q_assign rfl) ?_
          refine WL.quiet (d := 7) rfl rfl rfl (q_assign rfl) ?_
          refine WL.nil ?_
          refine WX.then ?_
          refine WC.ret ?_
          refine WX.bpRet Try.results20 (.tmp rfl (.tmp rfl .nil)) (fun w hw => ?_)
          exact ⟨ao', m', cap', out, ret2 rfl rfl, ⟨(by rw [ho, serveL]; congr 2; omega), (by exact hm)⟩, (hw.sub (.cons .here .nil))⟩
end Go.Proofs.Ytahpdiojgdlmgaa
