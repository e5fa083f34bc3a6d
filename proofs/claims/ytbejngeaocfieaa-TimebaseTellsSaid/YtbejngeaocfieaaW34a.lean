/- A part of this claim's proof: models of the functions that the law reaches, with the proof that the functions compute them; plain laws about the models. No conditions beyond those in each theorem's statement. -/
import Derived.Test.YtbejngeaocfieaaZSort
import Derived.Test.YtbejngeaocfieaaZMidR
import Derived.Test.YtbejngeaocfieaaShelf34
import Derived.Test.YtbejngeaocfieaaProg
namespace Go.Proofs.Ytbejngeaocfieaa
open Go Go.RowKit Sep
set_option linter.all false
set_option maxRecDepth 30000
structure Stimebase_Setup where
  fStart : List Int
  fDrift : List Int
  fFaulty : List Int
  fF : Int
  fE : Int
  fErrs : List Int
  fLies : List Int
  deriving Inhabited, DecidableEq
def e3 (x : Int) : List Value := [(.int .i64 x)]
theorem e3_oc : ∀ x, ∀ u ∈ e3 x, u.oneCell' = true := fun _ => (oc_cons rfl oc_nil)
structure Stimebase_plan where
  fSetup : Stimebase_Setup
  deriving Inhabited, DecidableEq
structure S7 where
  fX : Int
  fY : Int
  fSigned : Bool
  fCode : Int
  deriving Inhabited, DecidableEq
structure S13 where
  fMsg : ByteArray
  fAddr : Int
  deriving Inhabited, DecidableEq
def p22 (Z : Zp) (r : List Value) (x : List Int) : Prop := ∃ (ao0 : Option Addr) (cap0 : Nat), r = [(.slice ao0 x.length cap0)] ∧ ZS Z 1 (fun r x => r = e3 x) ao0 cap0 x
theorem p22_mono {Z Z' : Zp} (k : Zle Z Z') {r : List Value} {x : List Int} (h : p22 Z r x) : p22 Z' r x := by
  obtain ⟨ao0, cap0, hr, h0⟩ := h
  exact ⟨ao0, cap0, hr, h0.mono k⟩
theorem p22_len {Z : Zp} {r : List Value} {x : List Int} (h : p22 Z r x) : r.length = 1 := by
  obtain ⟨ao0, cap0, hr, h0⟩ := h
  rw [hr]; rfl
theorem aggT_24 : aggT Try.prog 24 7 := aggT_of (i := Try.t24) Try.underlying24 rfl rfl
theorem fo_24_0 : fieldOff Try.prog 24 0 0 := fieldOff_of (i := Try.t22) Try.underlying24 rfl rfl (by decide) rfl
theorem oneT_22 : oneT Try.prog 22 := oneT_of Try.underlying22 rfl
theorem fo_24_1 : fieldOff Try.prog 24 1 1 := fieldOff_of (i := Try.t22) Try.underlying24 rfl rfl (by decide) rfl
theorem fo_24_2 : fieldOff Try.prog 24 2 2 := fieldOff_of (i := Try.t22) Try.underlying24 rfl rfl (by decide) rfl
theorem fo_24_5 : fieldOff Try.prog 24 5 5 := fieldOff_of (i := Try.t22) Try.underlying24 rfl rfl (by decide) rfl
theorem fo_24_6 : fieldOff Try.prog 24 6 6 := fieldOff_of (i := Try.t22) Try.underlying24 rfl rfl (by decide) rfl
theorem elT_22 : elT Try.prog 22 3 1 8 := ⟨Try.underlying22, ⟨Try.t3, _, rfl, rfl, rfl, rfl, rfl⟩, by decide⟩
theorem zeroT_3 : zeroT Try.prog 3 (.int .i64 0) := zeroT_of (i := Try.t3) rfl rfl
theorem zeroT_24 : zeroT Try.prog 24 (.agg #[(.slice none 0 0), (.slice none 0 0), (.slice none 0 0), (.int .i64 0), (.int .i64 0), (.slice none 0 0), (.slice none 0 0)]) := zeroT_of (i := Try.t24) rfl rfl
theorem sizT_24 : sizT Try.prog 24 7 := sizT_of (i := Try.t24) rfl
theorem zeroT_55 : zeroT Try.prog 55 (.agg #[(.slice none 0 0), (.slice none 0 0), (.slice none 0 0), (.int .i64 0), (.int .i64 0), (.slice none 0 0), (.slice none 0 0)]) := zeroT_of (i := Try.t55) rfl rfl
theorem sizT_55 : sizT Try.prog 55 7 := sizT_of (i := Try.t55) rfl
theorem fo_24_3 : fieldOff Try.prog 24 3 3 := fieldOff_of (i := Try.t3) Try.underlying24 rfl rfl (by decide) rfl
theorem oneT_3 : oneT Try.prog 3 := oneT_of Try.underlying3 rfl
theorem fo_24_4 : fieldOff Try.prog 24 4 4 := fieldOff_of (i := Try.t3) Try.underlying24 rfl rfl (by decide) rfl
theorem aggT_55 : aggT Try.prog 55 7 := aggT_of (i := Try.t55) Try.underlying55 rfl rfl
theorem fo_55_0 : fieldOff Try.prog 55 0 0 := fieldOff_of (i := Try.t24) Try.underlying55 rfl rfl (by decide) rfl
theorem zeroT_22 : zeroT Try.prog 22 (.slice none 0 0) := zeroT_of (i := Try.t22) rfl rfl
theorem elT_30 : elT Try.prog 30 22 1 24 := ⟨Try.underlying30, ⟨Try.t22, _, rfl, rfl, rfl, rfl, rfl⟩, by decide⟩
theorem sizT_22 : sizT Try.prog 22 1 := sizT_of (i := Try.t22) rfl
theorem zeroT_30 : zeroT Try.prog 30 (.slice none 0 0) := zeroT_of (i := Try.t30) rfl rfl
theorem sizT_3 : sizT Try.prog 3 1 := sizT_of (i := Try.t3) rfl
theorem oneT_30 : oneT Try.prog 30 := oneT_of Try.underlying30 rfl
theorem sizT_30 : sizT Try.prog 30 1 := sizT_of (i := Try.t30) rfl
theorem zeroT_27 : zeroT Try.prog 27 (.agg #[(.slice none 0 0), (.slice none 0 0), (.slice none 0 0), (.int .i64 0), (.int .i64 0), (.slice none 0 0), (.slice none 0 0)]) := zeroT_of (i := Try.t27) rfl rfl
theorem sizT_27 : sizT Try.prog 27 7 := sizT_of (i := Try.t27) rfl
theorem aggT_27 : aggT Try.prog 27 7 := aggT_of (i := Try.t27) Try.underlying27 rfl rfl
theorem fo_27_0 : fieldOff Try.prog 27 0 0 := fieldOff_of (i := Try.t22) Try.underlying27 rfl rfl (by decide) rfl
theorem fo_27_1 : fieldOff Try.prog 27 1 1 := fieldOff_of (i := Try.t22) Try.underlying27 rfl rfl (by decide) rfl
theorem fo_27_3 : fieldOff Try.prog 27 3 3 := fieldOff_of (i := Try.t3) Try.underlying27 rfl rfl (by decide) rfl
theorem fo_27_2 : fieldOff Try.prog 27 2 2 := fieldOff_of (i := Try.t22) Try.underlying27 rfl rfl (by decide) rfl
theorem fo_27_4 : fieldOff Try.prog 27 4 4 := fieldOff_of (i := Try.t3) Try.underlying27 rfl rfl (by decide) rfl
theorem fo_27_5 : fieldOff Try.prog 27 5 5 := fieldOff_of (i := Try.t22) Try.underlying27 rfl rfl (by decide) rfl
theorem fo_27_6 : fieldOff Try.prog 27 6 6 := fieldOff_of (i := Try.t22) Try.underlying27 rfl rfl (by decide) rfl
def m_slices_Sort (l : List Int) : Option (List Int) := chk (0 < l.length ∧ l.length < 4611686018427387904) (some (isort l))
theorem w_slices_Sort (Z : Zp) (ao : Option Addr) (cap : Nat) (l : List Int) (r : List Int) (w₀ : World) (hz : PZ (fps [row (.slice ao l.length cap) 3 1 (l.flatMap e3)]) w₀ Z)
    (h : m_slices_Sort l = some r) (hown : Hp (fps [row (.slice ao l.length cap) 3 1 (l.flatMap e3)]) w₀ w₀ [row (.slice ao l.length cap) 3 1 (l.flatMap e3)]) :
    Calls Try.prog 56 #[.slice ao l.length cap] w₀ fun e w' => e = .returned (.tuple #[]) ∧ (r.length = l.length) ∧ Hp (fps [row (.slice ao l.length cap) 3 1 (l.flatMap e3)]) w₀ w' [row (.slice ao r.length cap) 3 1 (r.flatMap e3)] := by
  obtain ⟨h0, h⟩ := chk_elim h
  exact sort_int (fun _ => rfl) Try.slices_Sort_int ao cap l r w₀ h0 ((Option.some.inj h).symm.trans (mergeSort_eq l).symm) hown


/-- nacellelaw34.few -/
def m_law34_few (s_25 : Stimebase_Setup) : Option Bool :=
  some (((((decide (((s_25.fStart.length : Nat) : Int) ≤ 40)) && (decide (((s_25.fDrift.length : Nat) : Int) ≤ 40))) && (decide (((s_25.fFaulty.length : Nat) : Int) ≤ 40))) && (decide (((s_25.fErrs.length : Nat) : Int) ≤ 1001))) && (decide (((s_25.fLies.length : Nat) : Int) ≤ 1001)))

set_option maxRecDepth 20000 in
theorem w_law34_few (Z : Zp)  (ao_26 : Option Addr) (cap_27 : Nat) (ao_29 : Option Addr) (cap_30 : Nat) (ao_32 : Option Addr) (cap_33 : Nat) (ao_35 : Option Addr) (cap_36 : Nat) (ao_38 : Option Addr) (cap_39 : Nat) (s_25 : Stimebase_Setup) (r : Bool) (w₀ : World) (hz : PZ [] w₀ Z)
    (hs_28 : ZS Z 1 (fun r x => r = e3 x) ao_26 cap_27 s_25.fStart)
    (hs_31 : ZS Z 1 (fun r x => r = e3 x) ao_29 cap_30 s_25.fDrift)
    (hs_34 : ZS Z 1 (fun r x => r = e3 x) ao_32 cap_33 s_25.fFaulty)
    (hs_37 : ZS Z 1 (fun r x => r = e3 x) ao_35 cap_36 s_25.fErrs)
    (hs_40 : ZS Z 1 (fun r x => r = e3 x) ao_38 cap_39 s_25.fLies)
    (h : m_law34_few s_25 = some r) :
    Calls Try.prog 11 #[(.agg #[(.slice ao_26 s_25.fStart.length cap_27), (.slice ao_29 s_25.fDrift.length cap_30), (.slice ao_32 s_25.fFaulty.length cap_33), (.int .i64 s_25.fF), (.int .i64 s_25.fE), (.slice ao_35 s_25.fErrs.length cap_36), (.slice ao_38 s_25.fLies.length cap_39)])] w₀ fun e w' => e = .returned (.bool r) ∧ Hp [] w₀ w' [] := by
  unfold m_law34_few at h
  refine Calls.ofWC (vs := [(.agg #[(.slice ao_26 s_25.fStart.length cap_27), (.slice ao_29 s_25.fDrift.length cap_30), (.slice ao_32 s_25.fFaulty.length cap_33), (.int .i64 s_25.fF), (.int .i64 s_25.fE), (.slice ao_35 s_25.fErrs.length cap_36), (.slice ao_38 s_25.fLies.length cap_39)])]) (pre := []) (env := [(0, (.agg #[(.slice ao_26 s_25.fStart.length cap_27), (.slice ao_29 s_25.fDrift.length cap_30), (.slice ao_32 s_25.fFaulty.length cap_33), (.int .i64 s_25.fF), (.int .i64 s_25.fE), (.slice ao_35 s_25.fErrs.length cap_36), (.slice ao_38 s_25.fLies.length cap_39)]))]) Try.func11 rfl Try.ntmps11 rfl (Hp.nil w₀ _) rfl ?_
  refine WC.seq ?_
  refine WC.region ?_
  refine WL.new (dd := 1) rfl rfl rfl (e_box (cs := [(.slice ao_26 s_25.fStart.length cap_27), (.slice ao_29 s_25.fDrift.length cap_30), (.slice ao_32 s_25.fFaulty.length cap_33), (.int .i64 s_25.fF), (.int .i64 s_25.fE), (.slice ao_35 s_25.fErrs.length cap_36), (.slice ao_38 s_25.fLies.length cap_39)]) rfl rfl) ?_
  intro b_53 _
  refine WL.quiet (d := 2) rfl rfl rfl (q_assign rfl) ?_
  refine WL.nil ?_
  refine WX.then ?_
  refine WC.seq ?_
  refine WC.region ?_
  refine WL.quiet (d := 3) rfl rfl rfl (q_fieldAddr fo_24_0 rfl rfl) ?_
  refine WL.quiet (d := 4) rfl rfl rfl (q_load1 oneT_22 rfl (rd_stb .here rfl)) ?_
  refine WL.quiet (d := 5) rfl rfl rfl (q_len Try.underlying22 rfl) ?_
  refine WL.quiet (d := 6) rfl rfl rfl (q_leq rfl rfl) ?_
  refine WL.quiet (d := 7) rfl rfl rfl (q_move rfl) ?_
  refine WL.cut0 True [(1, (.pointer (some ⟨b_53, 0, none⟩))), (2, (.bool false)), (12, (.bool ((decide (((s_25.fStart.length : Nat) : Int) ≤ 40)) && (decide (((s_25.fDrift.length : Nat) : Int) ≤ 40)))))] [stb b_53 24 [(.slice ao_26 s_25.fStart.length cap_27), (.slice ao_29 s_25.fDrift.length cap_30), (.slice ao_32 s_25.fFaulty.length cap_33), (.int .i64 s_25.fF), (.int .i64 s_25.fE), (.slice ao_35 s_25.fErrs.length cap_36), (.slice ao_38 s_25.fLies.length cap_39)]] 5 ?_ (fun _ => ?_)
  · rcases Bool.eq_false_or_eq_true (decide (((s_25.fStart.length : Nat) : Int) ≤ 40)) with hb' | hb'
    · have hg_54 := hb'; clear hb'
      refine WL.pin (i := 7) rfl hg_54 ?_
      refine WL.quiet (d := 8) rfl rfl rfl (q_fieldAddr fo_24_1 rfl rfl) ?_
      refine WL.quiet (d := 9) rfl rfl rfl (q_load1 oneT_22 rfl (rd_stb .here rfl)) ?_
      refine WL.quiet (d := 10) rfl rfl rfl (q_len Try.underlying22 rfl) ?_
      refine WL.quiet (d := 11) rfl rfl rfl (q_leq rfl rfl) ?_
      refine WL.quiet (d := 12) rfl rfl rfl (q_pickT rfl rfl) ?_
      exact WL.cutEnd () trivial (.cons rfl (.cons rfl (.cons (some_bool (and_r hg_54)) .nil))) (.cons .here .nil)
    · have hg_55 := hb'; clear hb'
      refine WL.pin (i := 7) rfl hg_55 ?_
      refine WL.skip rfl rfl rfl ?_
      refine WL.skip rfl rfl rfl ?_
      refine WL.skip rfl rfl rfl ?_
      refine WL.skip rfl rfl rfl ?_
      refine WL.quiet (d := 12) rfl rfl rfl (q_pickF rfl rfl) ?_
      exact WL.cutEnd () trivial (.cons rfl (.cons rfl (.cons (some_bool (and_l hg_55)) .nil))) (.cons .here .nil)
  · skip
    refine WL.quiet (d := 13) rfl rfl rfl (q_move rfl) ?_
    refine WL.cut0 True [(1, (.pointer (some ⟨b_53, 0, none⟩))), (2, (.bool false)), (18, (.bool (((decide (((s_25.fStart.length : Nat) : Int) ≤ 40)) && (decide (((s_25.fDrift.length : Nat) : Int) ≤ 40))) && (decide (((s_25.fFaulty.length : Nat) : Int) ≤ 40)))))] [stb b_53 24 [(.slice ao_26 s_25.fStart.length cap_27), (.slice ao_29 s_25.fDrift.length cap_30), (.slice ao_32 s_25.fFaulty.length cap_33), (.int .i64 s_25.fF), (.int .i64 s_25.fE), (.slice ao_35 s_25.fErrs.length cap_36), (.slice ao_38 s_25.fLies.length cap_39)]] 5 ?_ (fun _ => ?_)
    · rcases Bool.eq_false_or_eq_true ((decide (((s_25.fStart.length : Nat) : Int) ≤ 40)) && (decide (((s_25.fDrift.length : Nat) : Int) ≤ 40))) with hb' | hb'
      · have hg_56 := hb'; clear hb'
        refine WL.pin (i := 13) rfl hg_56 ?_
        refine WL.quiet (d := 14) rfl rfl rfl (q_fieldAddr fo_24_2 rfl rfl) ?_
        refine WL.quiet (d := 15) rfl rfl rfl (q_load1 oneT_22 rfl (rd_stb .here rfl)) ?_
        refine WL.quiet (d := 16) rfl rfl rfl (q_len Try.underlying22 rfl) ?_
        refine WL.quiet (d := 17) rfl rfl rfl (q_leq rfl rfl) ?_
        refine WL.quiet (d := 18) rfl rfl rfl (q_pickT rfl rfl) ?_
        exact WL.cutEnd () trivial (.cons rfl (.cons rfl (.cons (some_bool (and_r hg_56)) .nil))) (.cons .here .nil)
      · have hg_57 := hb'; clear hb'
        refine WL.pin (i := 13) rfl hg_57 ?_
        refine WL.skip rfl rfl rfl ?_
        refine WL.skip rfl rfl rfl ?_
        refine WL.skip rfl rfl rfl ?_
        refine WL.skip rfl rfl rfl ?_
        refine WL.quiet (d := 18) rfl rfl rfl (q_pickF rfl rfl) ?_
        exact WL.cutEnd () trivial (.cons rfl (.cons rfl (.cons (some_bool (and_l hg_57)) .nil))) (.cons .here .nil)
    · skip
      refine WL.quiet (d := 19) rfl rfl rfl (q_move rfl) ?_
      refine WL.cut0 True [(1, (.pointer (some ⟨b_53, 0, none⟩))), (2, (.bool false)), (24, (.bool ((((decide (((s_25.fStart.length : Nat) : Int) ≤ 40)) && (decide (((s_25.fDrift.length : Nat) : Int) ≤ 40))) && (decide (((s_25.fFaulty.length : Nat) : Int) ≤ 40))) && (decide (((s_25.fErrs.length : Nat) : Int) ≤ 1001)))))] [stb b_53 24 [(.slice ao_26 s_25.fStart.length cap_27), (.slice ao_29 s_25.fDrift.length cap_30), (.slice ao_32 s_25.fFaulty.length cap_33), (.int .i64 s_25.fF), (.int .i64 s_25.fE), (.slice ao_35 s_25.fErrs.length cap_36), (.slice ao_38 s_25.fLies.length cap_39)]] 5 ?_ (fun _ => ?_)
      · rcases Bool.eq_false_or_eq_true (((decide (((s_25.fStart.length : Nat) : Int) ≤ 40)) && (decide (((s_25.fDrift.length : Nat) : Int) ≤ 40))) && (decide (((s_25.fFaulty.length : Nat) : Int) ≤ 40))) with hb' | hb'
        · have hg_58 := hb'; clear hb'
          refine WL.pin (i := 19) rfl hg_58 ?_
          refine WL.quiet (d := 20) rfl rfl rfl (q_fieldAddr fo_24_5 rfl rfl) ?_
          refine WL.quiet (d := 21) rfl rfl rfl (q_load1 oneT_22 rfl (rd_stb .here rfl)) ?_
          refine WL.quiet (d := 22) rfl rfl rfl (q_len Try.underlying22 rfl) ?_
          refine WL.quiet (d := 23) rfl rfl rfl (q_leq rfl rfl) ?_
          refine WL.quiet (d := 24) rfl rfl rfl (q_pickT rfl rfl) ?_
          exact WL.cutEnd () trivial (.cons rfl (.cons rfl (.cons (some_bool (and_r hg_58)) .nil))) (.cons .here .nil)
        · have hg_59 := hb'; clear hb'
          refine WL.pin (i := 19) rfl hg_59 ?_
          refine WL.skip rfl rfl rfl ?_
          refine WL.skip rfl rfl rfl ?_
          refine WL.skip rfl rfl rfl ?_
          refine WL.skip rfl rfl rfl ?_
          refine WL.quiet (d := 24) rfl rfl rfl (q_pickF rfl rfl) ?_
          exact WL.cutEnd () trivial (.cons rfl (.cons rfl (.cons (some_bool (and_l hg_59)) .nil))) (.cons .here .nil)
      · skip
        refine WL.quiet (d := 25) rfl rfl rfl (q_move rfl) ?_
        refine WL.cut0 True [(2, (.bool false)), (30, (.bool (((((decide (((s_25.fStart.length : Nat) : Int) ≤ 40)) && (decide (((s_25.fDrift.length : Nat) : Int) ≤ 40))) && (decide (((s_25.fFaulty.length : Nat) : Int) ≤ 40))) && (decide (((s_25.fErrs.length : Nat) : Int) ≤ 1001))) && (decide (((s_25.fLies.length : Nat) : Int) ≤ 1001)))))] [stb b_53 24 [(.slice ao_26 s_25.fStart.length cap_27), (.slice ao_29 s_25.fDrift.length cap_30), (.slice ao_32 s_25.fFaulty.length cap_33), (.int .i64 s_25.fF), (.int .i64 s_25.fE), (.slice ao_35 s_25.fErrs.length cap_36), (.slice ao_38 s_25.fLies.length cap_39)]] 5 ?_ (fun _ => ?_)
        · rcases Bool.eq_false_or_eq_true ((((decide (((s_25.fStart.length : Nat) : Int) ≤ 40)) && (decide (((s_25.fDrift.length : Nat) : Int) ≤ 40))) && (decide (((s_25.fFaulty.length : Nat) : Int) ≤ 40))) && (decide (((s_25.fErrs.length : Nat) : Int) ≤ 1001))) with hb' | hb'
          · have hg_60 := hb'; clear hb'
            refine WL.pin (i := 25) rfl hg_60 ?_
            refine WL.quiet (d := 26) rfl rfl rfl (q_fieldAddr fo_24_6 rfl rfl) ?_
            refine WL.quiet (d := 27) rfl rfl rfl (q_load1 oneT_22 rfl (rd_stb .here rfl)) ?_
            refine WL.quiet (d := 28) rfl rfl rfl (q_len Try.underlying22 rfl) ?_
            refine WL.quiet (d := 29) rfl rfl rfl (q_leq rfl rfl) ?_
            refine WL.quiet (d := 30) rfl rfl rfl (q_pickT rfl rfl) ?_
            exact WL.cutEnd () trivial (.cons rfl (.cons (some_bool (and_r hg_60)) .nil)) (.cons .here .nil)
          · have hg_61 := hb'; clear hb'
            refine WL.pin (i := 25) rfl hg_61 ?_
            refine WL.skip rfl rfl rfl ?_
            refine WL.skip rfl rfl rfl ?_
            refine WL.skip rfl rfl rfl ?_
            refine WL.skip rfl rfl rfl ?_
            refine WL.quiet (d := 30) rfl rfl rfl (q_pickF rfl rfl) ?_
            exact WL.cutEnd () trivial (.cons rfl (.cons (some_bool (and_l hg_61)) .nil)) (.cons .here .nil)
        · skip
          refine WL.quiet (d := 2) rfl rfl rfl (q_assign rfl) ?_
          refine WL.nil ?_
          refine WX.then ?_
          refine WC.ret ?_
          obtain rfl := Option.some.inj h
          refine WX.bpRet Try.results11 (.tmp rfl .nil) (fun w hw => ?_)
          exact ⟨ret1 rfl, hw.sub .nil⟩
/-- timebase.within$1 -/
def m_timebase_within_1 (x_430 : Int) (c_433 : Int) : Option Bool :=
  some ((decide (x_430 < (i64 (0 - c_433)))) || (decide (x_430 > c_433)))

set_option maxRecDepth 20000 in
theorem w_timebase_within_1 (Z : Zp)  (A_431 : Addr) (x_430 : Int) (c_433 : Int) (r : Bool) (w₀ : World) (hz : PZ [] w₀ Z)
    (hA_432 : ZC Z A_431 [(.int .i64 c_433)])
    (h : m_timebase_within_1 x_430 c_433 = some r) :
    Calls Try.prog 45 #[(.int .i64 x_430), (.pointer (some A_431))] w₀ fun e w' => e = .returned (.bool r) ∧ Hp [] w₀ w' [] := by
  unfold m_timebase_within_1 at h
  refine Calls.ofWC (vs := [(.int .i64 x_430), (.pointer (some A_431))]) (pre := []) (env := [(0, (.int .i64 x_430)), (1, (.pointer (some A_431)))]) Try.func45 rfl Try.ntmps45 rfl (Hp.nil w₀ _) rfl ?_
  refine WC.seq ?_
  refine WC.region ?_
  refine WL.quiet (d := 3) rfl rfl rfl (q_assign rfl) ?_
  refine WL.nil ?_
  refine WX.then ?_
  refine WC.seq ?_
  refine WC.region ?_
  refine WL.quiet (d := 4) rfl rfl rfl (q_move rfl) ?_
  refine WL.quiet (d := 5) rfl rfl rfl (q_load1 oneT_3 rfl (rd_z hz.pv hA_432 rfl)) ?_
  refine WL.quiet (d := 6) rfl rfl rfl (q_neg rfl rfl) ?_
  refine WL.quiet (d := 7) rfl rfl rfl (q_lss rfl rfl) ?_
  refine WL.quiet (d := 8) rfl rfl rfl (q_move rfl) ?_
  refine WL.cut0 True [(3, (.bool false)), (12, (.bool ((decide (x_430 < (i64 (0 - c_433)))) || (decide (x_430 > c_433)))))] [] 4 ?_ (fun _ => ?_)
  · rcases Bool.eq_false_or_eq_true (decide (x_430 < (i64 (0 - c_433)))) with hb' | hb'
    · have hg_437 := hb'; clear hb'
      refine WL.pin (i := 8) rfl hg_437 ?_
      refine WL.skip rfl rfl rfl ?_
      refine WL.skip rfl rfl rfl ?_
      refine WL.skip rfl rfl rfl ?_
      refine WL.quiet (d := 12) rfl rfl rfl (q_pickT rfl rfl) ?_
      exact WL.cutEnd () trivial (.cons rfl (.cons (some_bool (or_l hg_437)) .nil)) .nil
    · have hg_438 := hb'; clear hb'
      refine WL.pin (i := 8) rfl hg_438 ?_
      refine WL.quiet (d := 9) rfl rfl rfl (q_move rfl) ?_
      refine WL.quiet (d := 10) rfl rfl rfl (q_load1 oneT_3 rfl (rd_z hz.pv hA_432 rfl)) ?_
      refine WL.quiet (d := 11) rfl rfl rfl (q_gtr rfl rfl) ?_
      refine WL.quiet (d := 12) rfl rfl rfl (q_pickF rfl rfl) ?_
      exact WL.cutEnd () trivial (.cons rfl (.cons (some_bool (or_r hg_438)) .nil)) .nil
  · skip
    refine WL.quiet (d := 3) rfl rfl rfl (q_assign rfl) ?_
    refine WL.nil ?_
    refine WX.then ?_
    refine WC.ret ?_
    obtain rfl := Option.some.inj h
    refine WX.bpRet Try.results45 (.tmp rfl .nil) (fun w hw => ?_)
    exact ⟨ret1 rfl, hw.sub .nil⟩
def m_slices_IndexFunc_int_int_L2 (s_448 : List Int) (f_454 : Int → Option Bool) (k_680 : Option Int) : Nat → Int → Option Int
  | 0, _ => none
  | n_711 + 1, v_709 => if decide (v_709 < ((s_448.length : Nat) : Int)) then chk ((0 : Int) ≤ v_709 ∧ v_709 < ((s_448.length : Nat) : Int)) ((f_454 (nth s_448 v_709)).bind fun x_731 => if x_731 then some v_709 else m_slices_IndexFunc_int_int_L2 s_448 f_454 k_680 n_711 (i64 (v_709 + 1))) else k_680
theorem m_slices_IndexFunc_int_int_L2_fuel {n : Nat} {s_448 : List Int} {f_454 : Int → Option Bool} {k_680 : Option Int} {v_709 : Int} {r : Int} (h : m_slices_IndexFunc_int_int_L2 s_448 f_454 k_680 n v_709 = some r) : ∃ m, n = m + 1 := by
  cases n with
  | zero => cases h
  | succ m => exact ⟨m, rfl⟩

/-- slices.IndexFunc[[]int,int] -/
def m_slices_IndexFunc_int_int (s_448 : List Int) (f_454 : Int → Option Bool) : Option Int :=
  jp0 (some (-1)) fun k_680 => m_slices_IndexFunc_int_int_L2 s_448 f_454 k_680 FUEL 0

set_option maxRecDepth 20000 in
theorem w_slices_IndexFunc_int_int (Z : Zp)  (ao_449 : Option Addr) (cap_450 : Nat) (fid_452 : FuncId) (fcaps_453 : List Value) (s_448 : List Int) (f_454 : Int → Option Bool) (r : Int) (w₀ : World) (hz : PZ [] w₀ Z)
    (hs_451 : ZS Z 1 (fun r x => r = e3 x) ao_449 cap_450 s_448)
    (hcf_455 : ∀ args w, (callFunc fid_452 args).run Try.prog w = .ok (.enter fid_452 args) w)
    (hfn_456 : ∀ w : World, PZ [] w Z → ∀ (x0 : Int) (r : Bool), f_454 x0 = some r → Calls Try.prog fid_452 (([(.int .i64 x0)] : List Value) ++ fcaps_453).toArray w fun e w' => e = .returned (.bool r) ∧ Hp [] w w' [])
    (h : m_slices_IndexFunc_int_int s_448 f_454 = some r) :
    Calls Try.prog 55 #[(.slice ao_449 s_448.length cap_450), (.func (.func fid_452) #[] (fcaps_453).toArray)] w₀ fun e w' => e = .returned (.int .i64 r) ∧ Hp [] w₀ w' [] := by
  unfold m_slices_IndexFunc_int_int at h
  refine Calls.ofWC (vs := [(.slice ao_449 s_448.length cap_450), (.func (.func fid_452) #[] (fcaps_453).toArray)]) (pre := []) (env := [(0, (.slice ao_449 s_448.length cap_450)), (1, (.func (.func fid_452) #[] (fcaps_453).toArray))]) Try.func55 rfl Try.ntmps55 rfl (Hp.nil w₀ _) rfl ?_
  refine WC.seq ?_
  refine WC.region ?_
  refine WL.quiet (d := 4) rfl rfl rfl (q_assign rfl) ?_
  refine WL.nil ?_
  refine WX.then ?_
  obtain ⟨k_680, hk_681, h⟩ := jp0_elim h
  refine WC.seqMid0 ((k_680 = some r)) ([]) ([]) ?_ ?_
  · skip
    refine WC.seq ?_
    refine WC.region ?_
    refine WL.quiet (d := 6) rfl rfl rfl (q_move rfl) ?_
    refine WL.quiet (d := 7) rfl rfl rfl (q_len Try.underlying22 rfl) ?_
    refine WL.quiet (d := 8) rfl rfl rfl (q_move rfl) ?_
    refine WL.nil ?_
    refine WX.then ?_
    refine WC.block ?_
    refine WC.loop2 (fun (n_710 : Nat) (v_709 : Int) => (m_slices_IndexFunc_int_int_L2 s_448 f_454 k_680 n_710 v_709 = some r)) (fun (n_710 : Nat) (v_709 : Int) => [(0, (.slice ao_449 s_448.length cap_450)), (1, (.func (.func fid_452) #[] (fcaps_453).toArray)), (7, (.int .i64 ((s_448.length : Nat) : Int))), (8, (.int .i64 v_709))]) (fun (n_710 : Nat) (v_709 : Int) => []) (fun (n_710 : Nat) (v_709 : Int) => n_710) ⟨FUEL, 0⟩ h (.cons rfl (.cons rfl (.cons rfl (.cons rfl .nil)))) .nil ?_
    rintro n_710 v_709 h
    obtain ⟨n_711, rfl⟩ := m_slices_IndexFunc_int_int_L2_fuel h
    rw [m_slices_IndexFunc_int_int_L2] at h
    refine WC.seq ?_
    refine WC.region ?_
    refine WL.quiet (d := 9) rfl rfl rfl (q_lss rfl rfl) ?_
    refine WL.nil ?_
    refine WX.then ?_
    refine WC.seq ?_
    refine WC.cond rfl (fun hb_713 => ?_) (fun hb_713 => ?_)
    · replace h := ite_t h hb_713
      refine WC.skip ?_
      refine WX.then ?_
      refine WC.seq ?_
      refine WC.block ?_
      refine WC.seq ?_
      refine WC.region ?_
      refine WL.quiet (d := 10) rfl rfl rfl (q_move rfl) ?_
      refine WL.quiet (d := 5) rfl rfl rfl (q_assign rfl) ?_
      refine WL.nil ?_
      refine WX.then ?_
      refine WC.seq ?_
      obtain ⟨c_726, h⟩ := chk_elim h
      obtain ⟨x_731, hx_732, h⟩ := bind_elim h
      refine WC.region ?_
      refine WL.quiet (d := 11) rfl rfl rfl (q_move rfl) ?_
      refine WL.quiet (d := 12) rfl rfl rfl (q_move rfl) ?_
      refine WL.quiet (d := 13) rfl rfl rfl (q_move rfl) ?_
      refine WL.znth (dd := 14) rfl rfl (Z := Z) (Pr := (fun r x => r = e3 x)) elT_22 rfl rfl hs_451 c_726 ?_
      rintro A_733 r_734 hA_735 hl_736 rfl
      refine WL.quiet (d := 15) rfl rfl rfl (q_load1 oneT_3 rfl (rd_z hz.pv hA_735 rfl)) ?_
      refine WL.callD (dd := 16) rfl rfl rfl (run_callv (l := [.tmp 15]) (f := fid_452) (caps := fcaps_453) hcf_455 rfl (.cons rfl .nil)) .nil (fun w hw => hfn_456 w (hz.now hw) (nth s_448 v_709) x_731  hx_732) ?_
      refine WL.nil ?_
      refine WX.then ?_
      refine WC.cond rfl (fun hb_737 => ?_) (fun hb_737 => ?_)
      · replace h := ite_t h hb_737
        refine WC.seq ?_
        refine WC.region ?_
        refine WL.quiet (d := 17) rfl rfl rfl (q_move rfl) ?_
        refine WL.quiet (d := 4) rfl rfl rfl (q_assign rfl) ?_
        refine WL.nil ?_
        refine WX.then ?_
        refine WC.ret ?_
        refine WX.blockRet ?_
        refine WX.thenRet ?_
        refine WX.thenRet ?_
        refine WX.blockRet ?_
        refine WX.thenRet ?_
        obtain rfl := Option.some.inj h
        refine WX.bpRet Try.results55 (.tmp rfl .nil) (fun w hw => ?_)
        exact ⟨ret1 rfl, hw.sub .nil⟩
      · replace h := ite_f h hb_737
        refine WC.skip ?_
        refine WX.blockNormal ?_
        refine WX.then ?_
        refine WC.region ?_
        refine WL.quiet (d := 18) rfl rfl rfl (q_add rfl rfl rfl) ?_
        refine WL.quiet (d := 8) rfl rfl rfl (q_move rfl) ?_
        refine WL.nil ?_
        exact WX.round (G := Nat × Int) ⟨n_711, (i64 (v_709 + 1))⟩ h (Nat.lt_succ_self _) (.cons rfl (.cons rfl (.cons rfl (.cons rfl .nil)))) .nil
    · replace h := ite_f h hb_713
      refine WC.exit ?_
      refine WX.thenExit ?_
      refine WX.thenExit ?_
      refine WX.blockHit ?_
      exact WX.mid (G := Unit) () h .nil .nil
  · rintro  h
    replace h := hk_681.symm.trans h
    refine WC.seq ?_
    refine WC.region ?_
    refine WL.quiet (d := 4) rfl rfl rfl (q_assign rfl) ?_
    refine WL.nil ?_
    refine WX.then ?_
    refine WC.ret ?_
    obtain rfl := Option.some.inj h
    refine WX.bpRet Try.results55 (.tmp rfl .nil) (fun w hw => ?_)
    exact ⟨ret1 rfl, hw.sub .nil⟩
/-- slices.ContainsFunc[[]int,int] -/
def m_slices_ContainsFunc_int_int (s_439 : List Int) (f_445 : Int → Option Bool) : Option Bool :=
  (m_slices_IndexFunc_int_int s_439 f_445).bind fun x_741 => some (decide (x_741 ≥ 0))

set_option maxRecDepth 20000 in
theorem w_slices_ContainsFunc_int_int (Z : Zp)  (ao_440 : Option Addr) (cap_441 : Nat) (fid_443 : FuncId) (fcaps_444 : List Value) (s_439 : List Int) (f_445 : Int → Option Bool) (r : Bool) (w₀ : World) (hz : PZ [] w₀ Z)
    (hs_442 : ZS Z 1 (fun r x => r = e3 x) ao_440 cap_441 s_439)
    (hcf_446 : ∀ args w, (callFunc fid_443 args).run Try.prog w = .ok (.enter fid_443 args) w)
    (hfn_447 : ∀ w : World, PZ [] w Z → ∀ (x0 : Int) (r : Bool), f_445 x0 = some r → Calls Try.prog fid_443 (([(.int .i64 x0)] : List Value) ++ fcaps_444).toArray w fun e w' => e = .returned (.bool r) ∧ Hp [] w w' [])
    (h : m_slices_ContainsFunc_int_int s_439 f_445 = some r) :
    Calls Try.prog 44 #[(.slice ao_440 s_439.length cap_441), (.func (.func fid_443) #[] (fcaps_444).toArray)] w₀ fun e w' => e = .returned (.bool r) ∧ Hp [] w₀ w' [] := by
  unfold m_slices_ContainsFunc_int_int at h
  refine Calls.ofWC (vs := [(.slice ao_440 s_439.length cap_441), (.func (.func fid_443) #[] (fcaps_444).toArray)]) (pre := []) (env := [(0, (.slice ao_440 s_439.length cap_441)), (1, (.func (.func fid_443) #[] (fcaps_444).toArray))]) Try.func44 rfl Try.ntmps44 rfl (Hp.nil w₀ _) rfl ?_
  refine WC.seq ?_
  refine WC.region ?_
  refine WL.quiet (d := 4) rfl rfl rfl (q_assign rfl) ?_
  refine WL.nil ?_
  refine WX.then ?_
  refine WC.seq ?_
  obtain ⟨x_741, hx_742, h⟩ := bind_elim h
  refine WC.region ?_
  refine WL.quiet (d := 5) rfl rfl rfl (q_move rfl) ?_
  refine WL.quiet (d := 6) rfl rfl rfl (q_move rfl) ?_
  refine WL.callD (dd := 7) rfl rfl rfl (run_call (l := [.tmp 5, .tmp 6]) Try.call55 (.cons rfl (.cons rfl .nil))) (.nil : Sel [] [] []) (fun w hw => by have pz := (hz.call hw (.nil : Sel [] [] [])); exact w_slices_IndexFunc_int_int (Z := _) (ao_449 := ao_440) (cap_450 := cap_441) (fid_452 := fid_443) (fcaps_453 := fcaps_444) (s_448 := s_439) (f_454 := f_445) (r := x_741) w pz hs_442 hcf_446 hfn_447 hx_742) ?_
  refine WL.quiet (d := 8) rfl rfl rfl (q_geq rfl rfl) ?_
  refine WL.quiet (d := 4) rfl rfl rfl (q_assign rfl) ?_
  refine WL.nil ?_
  refine WX.then ?_
  refine WC.ret ?_
  obtain rfl := Option.some.inj h
  refine WX.bpRet Try.results44 (.tmp rfl .nil) (fun w hw => ?_)
  exact ⟨ret1 rfl, hw.sub .nil⟩
/-- timebase.within -/
def m_timebase_within (l_423 : List Int) (n_427 : Int) : Option Bool :=
  (m_slices_ContainsFunc_int_int l_423 (fun (y0 : Int) => m_timebase_within_1 y0 n_427)).bind fun x_748 => some (!x_748)

set_option maxRecDepth 20000 in
theorem w_timebase_within (Z : Zp)  (ao_424 : Option Addr) (cap_425 : Nat) (l_423 : List Int) (n_427 : Int) (r : Bool) (w₀ : World) (hz : PZ [] w₀ Z)
    (hs_426 : ZS Z 1 (fun r x => r = e3 x) ao_424 cap_425 l_423)
    (h : m_timebase_within l_423 n_427 = some r) :
    Calls Try.prog 33 #[(.slice ao_424 l_423.length cap_425), (.int .i64 n_427)] w₀ fun e w' => e = .returned (.bool r) ∧ Hp [] w₀ w' [] := by
  unfold m_timebase_within at h
  refine Calls.ofWC (vs := [(.slice ao_424 l_423.length cap_425), (.int .i64 n_427)]) (pre := []) (env := [(0, (.slice ao_424 l_423.length cap_425)), (1, (.int .i64 n_427))]) Try.func33 rfl Try.ntmps33 rfl (Hp.nil w₀ _) rfl ?_
  refine WC.seq ?_
  refine WC.region ?_
  refine WL.new (dd := 3) rfl rfl rfl (e_box (cs := [(.int .i64 n_427)]) rfl rfl) ?_
  intro b_747 _
  refine WL.quiet (d := 4) rfl rfl rfl (q_assign rfl) ?_
  refine WL.nil ?_
  refine WX.then ?_
  refine WC.seq ?_
  obtain ⟨x_748, hx_749, h⟩ := bind_elim h
  refine WC.region ?_
  refine WL.quiet (d := 5) rfl rfl rfl (q_move rfl) ?_
  refine WL.quiet (d := 6) rfl rfl rfl (q_makeFunc (Eos.caps (l := [.tmp 3]) (.cons rfl .nil))) ?_
  refine WL.callD (dd := 7) rfl rfl rfl (run_call (l := [.tmp 5, .tmp 6]) Try.call44 (.cons rfl (.cons rfl .nil))) (.nil : Sel [stb b_747 3 [(.int .i64 n_427)]] [] [stb b_747 3 [(.int .i64 n_427)]]) (fun w hw => by have pz := (hz.call hw (.nil : Sel [stb b_747 3 [(.int .i64 n_427)]] [] [stb b_747 3 [(.int .i64 n_427)]])).lend hw (.nil : Sel [stb b_747 3 [(.int .i64 n_427)]] [] [stb b_747 3 [(.int .i64 n_427)]]) (B := [stb b_747 3 [(.int .i64 n_427)]]) (fun _ hx' => ((.cons .here .nil) : Sel _ [stb b_747 3 [(.int .i64 n_427)]] _).mem hx'); exact w_slices_ContainsFunc_int_int (Z := _) (ao_440 := ao_424) (cap_441 := cap_425) (fid_443 := 45) (fcaps_444 := [(.pointer (some ⟨b_747, 0, none⟩))]) (s_439 := l_423) (f_445 := (fun (y0 : Int) => m_timebase_within_1 y0 n_427)) (r := x_748) w pz (hs_426.mono (Zle.left _ _)) Try.call45 (fun w' hz' y0  r  hr => w_timebase_within_1 (Z := _) (A_431 := ⟨b_747, 0, none⟩) (x_430 := y0) (c_433 := n_427) (r := r) w' hz' ((hw.lent (.nil : Sel [stb b_747 3 [(.int .i64 n_427)]] [] [stb b_747 3 [(.int .i64 n_427)]]) (B := [stb b_747 3 [(.int .i64 n_427)]]) (fun _ hx' => ((.cons .here .nil) : Sel _ [stb b_747 3 [(.int .i64 n_427)]] _).mem hx') (.head _) _).stb) hr) hx_749) ?_
  refine WL.quiet (d := 8) rfl rfl rfl (q_not rfl) ?_
  refine WL.quiet (d := 4) rfl rfl rfl (q_assign rfl) ?_
  refine WL.nil ?_
  refine WX.then ?_
  refine WC.ret ?_
  obtain rfl := Option.some.inj h
  refine WX.bpRet Try.results33 (.tmp rfl .nil) (fun w hw => ?_)
  exact ⟨ret1 rfl, hw.sub .nil⟩
def m_timebase_Valid_L2 (s_103 : Stimebase_Setup) (k_963 : Option Bool) : Nat → Int → Option Bool
  | 0, _ => none
  | n_1024 + 1, v_1022 => if decide (v_1022 < ((s_103.fFaulty.length : Nat) : Int)) then chk ((0 : Int) ≤ v_1022 ∧ v_1022 < ((s_103.fFaulty.length : Nat) : Int)) (chk (((decide ((nth s_103.fFaulty v_1022) < 0)) || (decide ((nth s_103.fFaulty v_1022) ≥ ((s_103.fStart.length : Nat) : Int)))) = false → ((decide (v_1022 > 0)) = true → ((0 : Int) ≤ (i64 (v_1022 - 1)) ∧ (i64 (v_1022 - 1)) < ((s_103.fFaulty.length : Nat) : Int)))) (if ((decide ((nth s_103.fFaulty v_1022) < 0)) || (decide ((nth s_103.fFaulty v_1022) ≥ ((s_103.fStart.length : Nat) : Int)))) || ((decide (v_1022 > 0)) && (decide ((nth s_103.fFaulty (i64 (v_1022 - 1))) ≥ (nth s_103.fFaulty v_1022)))) then some false else m_timebase_Valid_L2 s_103 k_963 n_1024 (i64 (v_1022 + 1)))) else k_963
theorem m_timebase_Valid_L2_fuel {n : Nat} {s_103 : Stimebase_Setup} {k_963 : Option Bool} {v_1022 : Int} {r : Bool} (h : m_timebase_Valid_L2 s_103 k_963 n v_1022 = some r) : ∃ m, n = m + 1 := by
  cases n with
  | zero => cases h
  | succ m => exact ⟨m, rfl⟩

/-- timebase.Valid -/
def m_timebase_Valid (s_103 : Stimebase_Setup) : Option Bool :=
  if (((((((((decide (((s_103.fStart.length : Nat) : Int) < 1)) || (decide (((s_103.fStart.length : Nat) : Int) > 13))) || (decide (((s_103.fDrift.length : Nat) : Int) ≠ ((s_103.fStart.length : Nat) : Int)))) || (decide (s_103.fF < 0))) || (decide (s_103.fF > (i64 (Int.tdiv (i64 (((s_103.fStart.length : Nat) : Int) - 1)) 3))))) || (decide (((s_103.fFaulty.length : Nat) : Int) > s_103.fF))) || (decide (s_103.fE < 0))) || (decide (s_103.fE > 1000))) || (decide (((s_103.fErrs.length : Nat) : Int) > 1000))) || (decide (((s_103.fLies.length : Nat) : Int) > 1000)) then some false else jp0 ((m_timebase_within s_103.fStart 1048576).bind fun x_1081 => (if x_1081 then (m_timebase_within s_103.fDrift 1000).bind fun x_1083 => some x_1083 else some false).bind fun b_1085 => (if b_1085 then (m_timebase_within s_103.fErrs s_103.fE).bind fun x_1087 => some x_1087 else some false).bind fun b_1089 => (if b_1089 then (m_timebase_within s_103.fLies 1048576).bind fun x_1091 => some x_1091 else some false).bind fun b_1093 => some b_1093) fun k_963 => m_timebase_Valid_L2 s_103 k_963 FUEL 0

set_option maxRecDepth 20000 in
theorem w_timebase_Valid (Z : Zp)  (ao_104 : Option Addr) (cap_105 : Nat) (ao_107 : Option Addr) (cap_108 : Nat) (ao_110 : Option Addr) (cap_111 : Nat) (ao_113 : Option Addr) (cap_114 : Nat) (ao_116 : Option Addr) (cap_117 : Nat) (s_103 : Stimebase_Setup) (r : Bool) (w₀ : World) (hz : PZ [] w₀ Z)
    (hs_106 : ZS Z 1 (fun r x => r = e3 x) ao_104 cap_105 s_103.fStart)
    (hs_109 : ZS Z 1 (fun r x => r = e3 x) ao_107 cap_108 s_103.fDrift)
    (hs_112 : ZS Z 1 (fun r x => r = e3 x) ao_110 cap_111 s_103.fFaulty)
    (hs_115 : ZS Z 1 (fun r x => r = e3 x) ao_113 cap_114 s_103.fErrs)
    (hs_118 : ZS Z 1 (fun r x => r = e3 x) ao_116 cap_117 s_103.fLies)
    (h : m_timebase_Valid s_103 = some r) :
    Calls Try.prog 19 #[(.agg #[(.slice ao_104 s_103.fStart.length cap_105), (.slice ao_107 s_103.fDrift.length cap_108), (.slice ao_110 s_103.fFaulty.length cap_111), (.int .i64 s_103.fF), (.int .i64 s_103.fE), (.slice ao_113 s_103.fErrs.length cap_114), (.slice ao_116 s_103.fLies.length cap_117)])] w₀ fun e w' => e = .returned (.bool r) ∧ Hp [] w₀ w' [] := by
  unfold m_timebase_Valid at h
  refine Calls.ofWC (vs := [(.agg #[(.slice ao_104 s_103.fStart.length cap_105), (.slice ao_107 s_103.fDrift.length cap_108), (.slice ao_110 s_103.fFaulty.length cap_111), (.int .i64 s_103.fF), (.int .i64 s_103.fE), (.slice ao_113 s_103.fErrs.length cap_114), (.slice ao_116 s_103.fLies.length cap_117)])]) (pre := []) (env := [(0, (.agg #[(.slice ao_104 s_103.fStart.length cap_105), (.slice ao_107 s_103.fDrift.length cap_108), (.slice ao_110 s_103.fFaulty.length cap_111), (.int .i64 s_103.fF), (.int .i64 s_103.fE), (.slice ao_113 s_103.fErrs.length cap_114), (.slice ao_116 s_103.fLies.length cap_117)]))]) Try.func19 rfl Try.ntmps19 rfl (Hp.nil w₀ _) rfl ?_
  refine WC.seq ?_
  refine WC.region ?_
  refine WL.new (dd := 1) rfl rfl rfl (e_box (cs := [(.slice ao_104 s_103.fStart.length cap_105), (.slice ao_107 s_103.fDrift.length cap_108), (.slice ao_110 s_103.fFaulty.length cap_111), (.int .i64 s_103.fF), (.int .i64 s_103.fE), (.slice ao_113 s_103.fErrs.length cap_114), (.slice ao_116 s_103.fLies.length cap_117)]) rfl rfl) ?_
  intro b_778 _
  refine WL.quiet (d := 2) rfl rfl rfl (q_assign rfl) ?_
  refine WL.nil ?_
  refine WX.then ?_
  refine WC.seq ?_
  refine WC.region ?_
  refine WL.quiet (d := 6) rfl rfl rfl (q_fieldAddr fo_24_0 rfl rfl) ?_
  refine WL.quiet (d := 7) rfl rfl rfl (q_load1 oneT_22 rfl (rd_stb .here rfl)) ?_
  refine WL.quiet (d := 8) rfl rfl rfl (q_len Try.underlying22 rfl) ?_
  refine WL.quiet (d := 3) rfl rfl rfl (q_assign rfl) ?_
  refine WL.nil ?_
  refine WX.then ?_
  refine WC.seq ?_
  refine WC.seq ?_
  refine WC.region ?_
  refine WL.quiet (d := 9) rfl rfl rfl (q_move rfl) ?_
  refine WL.quiet (d := 10) rfl rfl rfl (q_lss rfl rfl) ?_
  refine WL.quiet (d := 11) rfl rfl rfl (q_move rfl) ?_
  refine WL.cut0 True [(1, (.pointer (some ⟨b_778, 0, none⟩))), (3, (.int .i64 ((s_103.fStart.length : Nat) : Int))), (14, (.bool ((decide (((s_103.fStart.length : Nat) : Int) < 1)) || (decide (((s_103.fStart.length : Nat) : Int) > 13)))))] [stb b_778 24 [(.slice ao_104 s_103.fStart.length cap_105), (.slice ao_107 s_103.fDrift.length cap_108), (.slice ao_110 s_103.fFaulty.length cap_111), (.int .i64 s_103.fF), (.int .i64 s_103.fE), (.slice ao_113 s_103.fErrs.length cap_114), (.slice ao_116 s_103.fLies.length cap_117)]] 3 ?_ (fun _ => ?_)
  · rcases Bool.eq_false_or_eq_true (decide (((s_103.fStart.length : Nat) : Int) < 1)) with hb' | hb'
    · have hg_798 := hb'; clear hb'
      refine WL.pin (i := 11) rfl hg_798 ?_
      refine WL.skip rfl rfl rfl ?_
      refine WL.skip rfl rfl rfl ?_
      refine WL.quiet (d := 14) rfl rfl rfl (q_pickT rfl rfl) ?_
      exact WL.cutEnd () trivial (.cons rfl (.cons rfl (.cons (some_bool (or_l hg_798)) .nil))) (.cons .here .nil)
    · have hg_799 := hb'; clear hb'
      refine WL.pin (i := 11) rfl hg_799 ?_
      refine WL.quiet (d := 12) rfl rfl rfl (q_move rfl) ?_
      refine WL.quiet (d := 13) rfl rfl rfl (q_gtr rfl rfl) ?_
      refine WL.quiet (d := 14) rfl rfl rfl (q_pickF rfl rfl) ?_
      exact WL.cutEnd () trivial (.cons rfl (.cons rfl (.cons (some_bool (or_r hg_799)) .nil))) (.cons .here .nil)
  · skip
    refine WL.quiet (d := 15) rfl rfl rfl (q_move rfl) ?_
    refine WL.cut0 True [(1, (.pointer (some ⟨b_778, 0, none⟩))), (3, (.int .i64 ((s_103.fStart.length : Nat) : Int))), (21, (.bool (((decide (((s_103.fStart.length : Nat) : Int) < 1)) || (decide (((s_103.fStart.length : Nat) : Int) > 13))) || (decide (((s_103.fDrift.length : Nat) : Int) ≠ ((s_103.fStart.length : Nat) : Int))))))] [stb b_778 24 [(.slice ao_104 s_103.fStart.length cap_105), (.slice ao_107 s_103.fDrift.length cap_108), (.slice ao_110 s_103.fFaulty.length cap_111), (.int .i64 s_103.fF), (.int .i64 s_103.fE), (.slice ao_113 s_103.fErrs.length cap_114), (.slice ao_116 s_103.fLies.length cap_117)]] 6 ?_ (fun _ => ?_)
    · rcases Bool.eq_false_or_eq_true ((decide (((s_103.fStart.length : Nat) : Int) < 1)) || (decide (((s_103.fStart.length : Nat) : Int) > 13))) with hb' | hb'
      · have hg_800 := hb'; clear hb'
        refine WL.pin (i := 15) rfl hg_800 ?_
        refine WL.skip rfl rfl rfl ?_
        refine WL.skip rfl rfl rfl ?_
        refine WL.skip rfl rfl rfl ?_
        refine WL.skip rfl rfl rfl ?_
        refine WL.skip rfl rfl rfl ?_
        refine WL.quiet (d := 21) rfl rfl rfl (q_pickT rfl rfl) ?_
        exact WL.cutEnd () trivial (.cons rfl (.cons rfl (.cons (some_bool (or_l hg_800)) .nil))) (.cons .here .nil)
      · have hg_801 := hb'; clear hb'
        refine WL.pin (i := 15) rfl hg_801 ?_
        refine WL.quiet (d := 16) rfl rfl rfl (q_fieldAddr fo_24_1 rfl rfl) ?_
        refine WL.quiet (d := 17) rfl rfl rfl (q_load1 oneT_22 rfl (rd_stb .here rfl)) ?_
        refine WL.quiet (d := 18) rfl rfl rfl (q_len Try.underlying22 rfl) ?_
        refine WL.quiet (d := 19) rfl rfl rfl (q_move rfl) ?_
        refine WL.quiet (d := 20) rfl rfl rfl (q_neq rfl rfl) ?_
        refine WL.quiet (d := 21) rfl rfl rfl (q_pickF rfl rfl) ?_
        exact WL.cutEnd () trivial (.cons rfl (.cons rfl (.cons (some_bool (or_r hg_801)) .nil))) (.cons .here .nil)
    · skip
      refine WL.quiet (d := 22) rfl rfl rfl (q_move rfl) ?_
      refine WL.cut0 True [(1, (.pointer (some ⟨b_778, 0, none⟩))), (3, (.int .i64 ((s_103.fStart.length : Nat) : Int))), (26, (.bool ((((decide (((s_103.fStart.length : Nat) : Int) < 1)) || (decide (((s_103.fStart.length : Nat) : Int) > 13))) || (decide (((s_103.fDrift.length : Nat) : Int) ≠ ((s_103.fStart.length : Nat) : Int)))) || (decide (s_103.fF < 0)))))] [stb b_778 24 [(.slice ao_104 s_103.fStart.length cap_105), (.slice ao_107 s_103.fDrift.length cap_108), (.slice ao_110 s_103.fFaulty.length cap_111), (.int .i64 s_103.fF), (.int .i64 s_103.fE), (.slice ao_113 s_103.fErrs.length cap_114), (.slice ao_116 s_103.fLies.length cap_117)]] 4 ?_ (fun _ => ?_)
      · rcases Bool.eq_false_or_eq_true (((decide (((s_103.fStart.length : Nat) : Int) < 1)) || (decide (((s_103.fStart.length : Nat) : Int) > 13))) || (decide (((s_103.fDrift.length : Nat) : Int) ≠ ((s_103.fStart.length : Nat) : Int)))) with hb' | hb'
        · have hg_802 := hb'; clear hb'
          refine WL.pin (i := 22) rfl hg_802 ?_
          refine WL.skip rfl rfl rfl ?_
          refine WL.skip rfl rfl rfl ?_
          refine WL.skip rfl rfl rfl ?_
          refine WL.quiet (d := 26) rfl rfl rfl (q_pickT rfl rfl) ?_
          exact WL.cutEnd () trivial (.cons rfl (.cons rfl (.cons (some_bool (or_l hg_802)) .nil))) (.cons .here .nil)
        · have hg_803 := hb'; clear hb'
          refine WL.pin (i := 22) rfl hg_803 ?_
          refine WL.quiet (d := 23) rfl rfl rfl (q_fieldAddr fo_24_3 rfl rfl) ?_
          refine WL.quiet (d := 24) rfl rfl rfl (q_load1 oneT_3 rfl (rd_stb .here rfl)) ?_
          refine WL.quiet (d := 25) rfl rfl rfl (q_lss rfl rfl) ?_
          refine WL.quiet (d := 26) rfl rfl rfl (q_pickF rfl rfl) ?_
          exact WL.cutEnd () trivial (.cons rfl (.cons rfl (.cons (some_bool (or_r hg_803)) .nil))) (.cons .here .nil)
      · skip
        refine WL.quiet (d := 27) rfl rfl rfl (q_move rfl) ?_
        refine WL.cut0 True [(1, (.pointer (some ⟨b_778, 0, none⟩))), (3, (.int .i64 ((s_103.fStart.length : Nat) : Int))), (34, (.bool (((((decide (((s_103.fStart.length : Nat) : Int) < 1)) || (decide (((s_103.fStart.length : Nat) : Int) > 13))) || (decide (((s_103.fDrift.length : Nat) : Int) ≠ ((s_103.fStart.length : Nat) : Int)))) || (decide (s_103.fF < 0))) || (decide (s_103.fF > (i64 (Int.tdiv (i64 (((s_103.fStart.length : Nat) : Int) - 1)) 3)))))))] [stb b_778 24 [(.slice ao_104 s_103.fStart.length cap_105), (.slice ao_107 s_103.fDrift.length cap_108), (.slice ao_110 s_103.fFaulty.length cap_111), (.int .i64 s_103.fF), (.int .i64 s_103.fE), (.slice ao_113 s_103.fErrs.length cap_114), (.slice ao_116 s_103.fLies.length cap_117)]] 7 ?_ (fun _ => ?_)
        · rcases Bool.eq_false_or_eq_true ((((decide (((s_103.fStart.length : Nat) : Int) < 1)) || (decide (((s_103.fStart.length : Nat) : Int) > 13))) || (decide (((s_103.fDrift.length : Nat) : Int) ≠ ((s_103.fStart.length : Nat) : Int)))) || (decide (s_103.fF < 0))) with hb' | hb'
          · have hg_804 := hb'; clear hb'
            refine WL.pin (i := 27) rfl hg_804 ?_
            refine WL.skip rfl rfl rfl ?_
            refine WL.skip rfl rfl rfl ?_
            refine WL.skip rfl rfl rfl ?_
            refine WL.skip rfl rfl rfl ?_
            refine WL.skip rfl rfl rfl ?_
            refine WL.skip rfl rfl rfl ?_
            refine WL.quiet (d := 34) rfl rfl rfl (q_pickT rfl rfl) ?_
            exact WL.cutEnd () trivial (.cons rfl (.cons rfl (.cons (some_bool (or_l hg_804)) .nil))) (.cons .here .nil)
          · have hg_805 := hb'; clear hb'
            refine WL.pin (i := 27) rfl hg_805 ?_
            refine WL.quiet (d := 28) rfl rfl rfl (q_fieldAddr fo_24_3 rfl rfl) ?_
            refine WL.quiet (d := 29) rfl rfl rfl (q_load1 oneT_3 rfl (rd_stb .here rfl)) ?_
            refine WL.quiet (d := 30) rfl rfl rfl (q_move rfl) ?_
            refine WL.quiet (d := 31) rfl rfl rfl (q_sub rfl rfl rfl) ?_
            refine WL.quiet (d := 32) rfl rfl rfl (q_quo rfl rfl (by decide) rfl) ?_
            refine WL.quiet (d := 33) rfl rfl rfl (q_gtr rfl rfl) ?_
            refine WL.quiet (d := 34) rfl rfl rfl (q_pickF rfl rfl) ?_
            exact WL.cutEnd () trivial (.cons rfl (.cons rfl (.cons (some_bool (or_r hg_805)) .nil))) (.cons .here .nil)
        · skip
          refine WL.quiet (d := 35) rfl rfl rfl (q_move rfl) ?_
          refine WL.cut0 True [(1, (.pointer (some ⟨b_778, 0, none⟩))), (3, (.int .i64 ((s_103.fStart.length : Nat) : Int))), (42, (.bool ((((((decide (((s_103.fStart.length : Nat) : Int) < 1)) || (decide (((s_103.fStart.length : Nat) : Int) > 13))) || (decide (((s_103.fDrift.length : Nat) : Int) ≠ ((s_103.fStart.length : Nat) : Int)))) || (decide (s_103.fF < 0))) || (decide (s_103.fF > (i64 (Int.tdiv (i64 (((s_103.fStart.length : Nat) : Int) - 1)) 3))))) || (decide (((s_103.fFaulty.length : Nat) : Int) > s_103.fF)))))] [stb b_778 24 [(.slice ao_104 s_103.fStart.length cap_105), (.slice ao_107 s_103.fDrift.length cap_108), (.slice ao_110 s_103.fFaulty.length cap_111), (.int .i64 s_103.fF), (.int .i64 s_103.fE), (.slice ao_113 s_103.fErrs.length cap_114), (.slice ao_116 s_103.fLies.length cap_117)]] 7 ?_ (fun _ => ?_)
          · rcases Bool.eq_false_or_eq_true (((((decide (((s_103.fStart.length : Nat) : Int) < 1)) || (decide (((s_103.fStart.length : Nat) : Int) > 13))) || (decide (((s_103.fDrift.length : Nat) : Int) ≠ ((s_103.fStart.length : Nat) : Int)))) || (decide (s_103.fF < 0))) || (decide (s_103.fF > (i64 (Int.tdiv (i64 (((s_103.fStart.length : Nat) : Int) - 1)) 3))))) with hb' | hb'
            · have hg_806 := hb'; clear hb'
              refine WL.pin (i := 35) rfl hg_806 ?_
              refine WL.skip rfl rfl rfl ?_
              refine WL.skip rfl rfl rfl ?_
              refine WL.skip rfl rfl rfl ?_
              refine WL.skip rfl rfl rfl ?_
              refine WL.skip rfl rfl rfl ?_
              refine WL.skip rfl rfl rfl ?_
              refine WL.quiet (d := 42) rfl rfl rfl (q_pickT rfl rfl) ?_
              exact WL.cutEnd () trivial (.cons rfl (.cons rfl (.cons (some_bool (or_l hg_806)) .nil))) (.cons .here .nil)
            · have hg_807 := hb'; clear hb'
              refine WL.pin (i := 35) rfl hg_807 ?_
              refine WL.quiet (d := 36) rfl rfl rfl (q_fieldAddr fo_24_2 rfl rfl) ?_
              refine WL.quiet (d := 37) rfl rfl rfl (q_load1 oneT_22 rfl (rd_stb .here rfl)) ?_
              refine WL.quiet (d := 38) rfl rfl rfl (q_len Try.underlying22 rfl) ?_
              refine WL.quiet (d := 39) rfl rfl rfl (q_fieldAddr fo_24_3 rfl rfl) ?_
              refine WL.quiet (d := 40) rfl rfl rfl (q_load1 oneT_3 rfl (rd_stb .here rfl)) ?_
              refine WL.quiet (d := 41) rfl rfl rfl (q_gtr rfl rfl) ?_
              refine WL.quiet (d := 42) rfl rfl rfl (q_pickF rfl rfl) ?_
              exact WL.cutEnd () trivial (.cons rfl (.cons rfl (.cons (some_bool (or_r hg_807)) .nil))) (.cons .here .nil)
          · skip
            refine WL.quiet (d := 43) rfl rfl rfl (q_move rfl) ?_
            refine WL.cut0 True [(1, (.pointer (some ⟨b_778, 0, none⟩))), (3, (.int .i64 ((s_103.fStart.length : Nat) : Int))), (47, (.bool (((((((decide (((s_103.fStart.length : Nat) : Int) < 1)) || (decide (((s_103.fStart.length : Nat) : Int) > 13))) || (decide (((s_103.fDrift.length : Nat) : Int) ≠ ((s_103.fStart.length : Nat) : Int)))) || (decide (s_103.fF < 0))) || (decide (s_103.fF > (i64 (Int.tdiv (i64 (((s_103.fStart.length : Nat) : Int) - 1)) 3))))) || (decide (((s_103.fFaulty.length : Nat) : Int) > s_103.fF))) || (decide (s_103.fE < 0)))))] [stb b_778 24 [(.slice ao_104 s_103.fStart.length cap_105), (.slice ao_107 s_103.fDrift.length cap_108), (.slice ao_110 s_103.fFaulty.length cap_111), (.int .i64 s_103.fF), (.int .i64 s_103.fE), (.slice ao_113 s_103.fErrs.length cap_114), (.slice ao_116 s_103.fLies.length cap_117)]] 4 ?_ (fun _ => ?_)
            · rcases Bool.eq_false_or_eq_true ((((((decide (((s_103.fStart.length : Nat) : Int) < 1)) || (decide (((s_103.fStart.length : Nat) : Int) > 13))) || (decide (((s_103.fDrift.length : Nat) : Int) ≠ ((s_103.fStart.length : Nat) : Int)))) || (decide (s_103.fF < 0))) || (decide (s_103.fF > (i64 (Int.tdiv (i64 (((s_103.fStart.length : Nat) : Int) - 1)) 3))))) || (decide (((s_103.fFaulty.length : Nat) : Int) > s_103.fF))) with hb' | hb'
              · have hg_808 := hb'; clear hb'
                refine WL.pin (i := 43) rfl hg_808 ?_
                refine WL.skip rfl rfl rfl ?_
                refine WL.skip rfl rfl rfl ?_
                refine WL.skip rfl rfl rfl ?_
                refine WL.quiet (d := 47) rfl rfl rfl (q_pickT rfl rfl) ?_
                exact WL.cutEnd () trivial (.cons rfl (.cons rfl (.cons (some_bool (or_l hg_808)) .nil))) (.cons .here .nil)
              · have hg_809 := hb'; clear hb'
                refine WL.pin (i := 43) rfl hg_809 ?_
                refine WL.quiet (d := 44) rfl rfl rfl (q_fieldAddr fo_24_4 rfl rfl) ?_
                refine WL.quiet (d := 45) rfl rfl rfl (q_load1 oneT_3 rfl (rd_stb .here rfl)) ?_
                refine WL.quiet (d := 46) rfl rfl rfl (q_lss rfl rfl) ?_
                refine WL.quiet (d := 47) rfl rfl rfl (q_pickF rfl rfl) ?_
                exact WL.cutEnd () trivial (.cons rfl (.cons rfl (.cons (some_bool (or_r hg_809)) .nil))) (.cons .here .nil)
            · skip
              refine WL.quiet (d := 48) rfl rfl rfl (q_move rfl) ?_
              refine WL.cut0 True [(1, (.pointer (some ⟨b_778, 0, none⟩))), (3, (.int .i64 ((s_103.fStart.length : Nat) : Int))), (52, (.bool ((((((((decide (((s_103.fStart.length : Nat) : Int) < 1)) || (decide (((s_103.fStart.length : Nat) : Int) > 13))) || (decide (((s_103.fDrift.length : Nat) : Int) ≠ ((s_103.fStart.length : Nat) : Int)))) || (decide (s_103.fF < 0))) || (decide (s_103.fF > (i64 (Int.tdiv (i64 (((s_103.fStart.length : Nat) : Int) - 1)) 3))))) || (decide (((s_103.fFaulty.length : Nat) : Int) > s_103.fF))) || (decide (s_103.fE < 0))) || (decide (s_103.fE > 1000)))))] [stb b_778 24 [(.slice ao_104 s_103.fStart.length cap_105), (.slice ao_107 s_103.fDrift.length cap_108), (.slice ao_110 s_103.fFaulty.length cap_111), (.int .i64 s_103.fF), (.int .i64 s_103.fE), (.slice ao_113 s_103.fErrs.length cap_114), (.slice ao_116 s_103.fLies.length cap_117)]] 4 ?_ (fun _ => ?_)
              · rcases Bool.eq_false_or_eq_true (((((((decide (((s_103.fStart.length : Nat) : Int) < 1)) || (decide (((s_103.fStart.length : Nat) : Int) > 13))) || (decide (((s_103.fDrift.length : Nat) : Int) ≠ ((s_103.fStart.length : Nat) : Int)))) || (decide (s_103.fF < 0))) || (decide (s_103.fF > (i64 (Int.tdiv (i64 (((s_103.fStart.length : Nat) : Int) - 1)) 3))))) || (decide (((s_103.fFaulty.length : Nat) : Int) > s_103.fF))) || (decide (s_103.fE < 0))) with hb' | hb'
                · have hg_810 := hb'; clear hb'
                  refine WL.pin (i := 48) rfl hg_810 ?_
                  refine WL.skip rfl rfl rfl ?_
                  refine WL.skip rfl rfl rfl ?_
                  refine WL.skip rfl rfl rfl ?_
                  refine WL.quiet (d := 52) rfl rfl rfl (q_pickT rfl rfl) ?_
                  exact WL.cutEnd () trivial (.cons rfl (.cons rfl (.cons (some_bool (or_l hg_810)) .nil))) (.cons .here .nil)
                · have hg_811 := hb'; clear hb'
                  refine WL.pin (i := 48) rfl hg_811 ?_
                  refine WL.quiet (d := 49) rfl rfl rfl (q_fieldAddr fo_24_4 rfl rfl) ?_
                  refine WL.quiet (d := 50) rfl rfl rfl (q_load1 oneT_3 rfl (rd_stb .here rfl)) ?_
                  refine WL.quiet (d := 51) rfl rfl rfl (q_gtr rfl rfl) ?_
                  refine WL.quiet (d := 52) rfl rfl rfl (q_pickF rfl rfl) ?_
                  exact WL.cutEnd () trivial (.cons rfl (.cons rfl (.cons (some_bool (or_r hg_811)) .nil))) (.cons .here .nil)
              · skip
                refine WL.quiet (d := 53) rfl rfl rfl (q_move rfl) ?_
                refine WL.cut0 True [(1, (.pointer (some ⟨b_778, 0, none⟩))), (3, (.int .i64 ((s_103.fStart.length : Nat) : Int))), (58, (.bool (((((((((decide (((s_103.fStart.length : Nat) : Int) < 1)) || (decide (((s_103.fStart.length : Nat) : Int) > 13))) || (decide (((s_103.fDrift.length : Nat) : Int) ≠ ((s_103.fStart.length : Nat) : Int)))) || (decide (s_103.fF < 0))) || (decide (s_103.fF > (i64 (Int.tdiv (i64 (((s_103.fStart.length : Nat) : Int) - 1)) 3))))) || (decide (((s_103.fFaulty.length : Nat) : Int) > s_103.fF))) || (decide (s_103.fE < 0))) || (decide (s_103.fE > 1000))) || (decide (((s_103.fErrs.length : Nat) : Int) > 1000)))))] [stb b_778 24 [(.slice ao_104 s_103.fStart.length cap_105), (.slice ao_107 s_103.fDrift.length cap_108), (.slice ao_110 s_103.fFaulty.length cap_111), (.int .i64 s_103.fF), (.int .i64 s_103.fE), (.slice ao_113 s_103.fErrs.length cap_114), (.slice ao_116 s_103.fLies.length cap_117)]] 5 ?_ (fun _ => ?_)
                · rcases Bool.eq_false_or_eq_true ((((((((decide (((s_103.fStart.length : Nat) : Int) < 1)) || (decide (((s_103.fStart.length : Nat) : Int) > 13))) || (decide (((s_103.fDrift.length : Nat) : Int) ≠ ((s_103.fStart.length : Nat) : Int)))) || (decide (s_103.fF < 0))) || (decide (s_103.fF > (i64 (Int.tdiv (i64 (((s_103.fStart.length : Nat) : Int) - 1)) 3))))) || (decide (((s_103.fFaulty.length : Nat) : Int) > s_103.fF))) || (decide (s_103.fE < 0))) || (decide (s_103.fE > 1000))) with hb' | hb'
                  · have hg_812 := hb'; clear hb'
                    refine WL.pin (i := 53) rfl hg_812 ?_
                    refine WL.skip rfl rfl rfl ?_
                    refine WL.skip rfl rfl rfl ?_
                    refine WL.skip rfl rfl rfl ?_
                    refine WL.skip rfl rfl rfl ?_
                    refine WL.quiet (d := 58) rfl rfl rfl (q_pickT rfl rfl) ?_
                    exact WL.cutEnd () trivial (.cons rfl (.cons rfl (.cons (some_bool (or_l hg_812)) .nil))) (.cons .here .nil)
                  · have hg_813 := hb'; clear hb'
                    refine WL.pin (i := 53) rfl hg_813 ?_
                    refine WL.quiet (d := 54) rfl rfl rfl (q_fieldAddr fo_24_5 rfl rfl) ?_
                    refine WL.quiet (d := 55) rfl rfl rfl (q_load1 oneT_22 rfl (rd_stb .here rfl)) ?_
                    refine WL.quiet (d := 56) rfl rfl rfl (q_len Try.underlying22 rfl) ?_
                    refine WL.quiet (d := 57) rfl rfl rfl (q_gtr rfl rfl) ?_
                    refine WL.quiet (d := 58) rfl rfl rfl (q_pickF rfl rfl) ?_
                    exact WL.cutEnd () trivial (.cons rfl (.cons rfl (.cons (some_bool (or_r hg_813)) .nil))) (.cons .here .nil)
                · skip
                  refine WL.quiet (d := 59) rfl rfl rfl (q_move rfl) ?_
                  refine WL.cut0 True [(1, (.pointer (some ⟨b_778, 0, none⟩))), (3, (.int .i64 ((s_103.fStart.length : Nat) : Int))), (64, (.bool ((((((((((decide (((s_103.fStart.length : Nat) : Int) < 1)) || (decide (((s_103.fStart.length : Nat) : Int) > 13))) || (decide (((s_103.fDrift.length : Nat) : Int) ≠ ((s_103.fStart.length : Nat) : Int)))) || (decide (s_103.fF < 0))) || (decide (s_103.fF > (i64 (Int.tdiv (i64 (((s_103.fStart.length : Nat) : Int) - 1)) 3))))) || (decide (((s_103.fFaulty.length : Nat) : Int) > s_103.fF))) || (decide (s_103.fE < 0))) || (decide (s_103.fE > 1000))) || (decide (((s_103.fErrs.length : Nat) : Int) > 1000))) || (decide (((s_103.fLies.length : Nat) : Int) > 1000)))))] [stb b_778 24 [(.slice ao_104 s_103.fStart.length cap_105), (.slice ao_107 s_103.fDrift.length cap_108), (.slice ao_110 s_103.fFaulty.length cap_111), (.int .i64 s_103.fF), (.int .i64 s_103.fE), (.slice ao_113 s_103.fErrs.length cap_114), (.slice ao_116 s_103.fLies.length cap_117)]] 5 ?_ (fun _ => ?_)
                  · rcases Bool.eq_false_or_eq_true (((((((((decide (((s_103.fStart.length : Nat) : Int) < 1)) || (decide (((s_103.fStart.length : Nat) : Int) > 13))) || (decide (((s_103.fDrift.length : Nat) : Int) ≠ ((s_103.fStart.length : Nat) : Int)))) || (decide (s_103.fF < 0))) || (decide (s_103.fF > (i64 (Int.tdiv (i64 (((s_103.fStart.length : Nat) : Int) - 1)) 3))))) || (decide (((s_103.fFaulty.length : Nat) : Int) > s_103.fF))) || (decide (s_103.fE < 0))) || (decide (s_103.fE > 1000))) || (decide (((s_103.fErrs.length : Nat) : Int) > 1000))) with hb' | hb'
                    · have hg_814 := hb'; clear hb'
                      refine WL.pin (i := 59) rfl hg_814 ?_
                      refine WL.skip rfl rfl rfl ?_
                      refine WL.skip rfl rfl rfl ?_
                      refine WL.skip rfl rfl rfl ?_
                      refine WL.skip rfl rfl rfl ?_
                      refine WL.quiet (d := 64) rfl rfl rfl (q_pickT rfl rfl) ?_
                      exact WL.cutEnd () trivial (.cons rfl (.cons rfl (.cons (some_bool (or_l hg_814)) .nil))) (.cons .here .nil)
                    · have hg_815 := hb'; clear hb'
                      refine WL.pin (i := 59) rfl hg_815 ?_
                      refine WL.quiet (d := 60) rfl rfl rfl (q_fieldAddr fo_24_6 rfl rfl) ?_
                      refine WL.quiet (d := 61) rfl rfl rfl (q_load1 oneT_22 rfl (rd_stb .here rfl)) ?_
                      refine WL.quiet (d := 62) rfl rfl rfl (q_len Try.underlying22 rfl) ?_
                      refine WL.quiet (d := 63) rfl rfl rfl (q_gtr rfl rfl) ?_
                      refine WL.quiet (d := 64) rfl rfl rfl (q_pickF rfl rfl) ?_
                      exact WL.cutEnd () trivial (.cons rfl (.cons rfl (.cons (some_bool (or_r hg_815)) .nil))) (.cons .here .nil)
                  · skip
                    refine WL.nil ?_
                    refine WX.then ?_
                    refine WC.cond rfl (fun hb_816 => ?_) (fun hb_816 => ?_)
                    · replace h := ite_t h hb_816
                      refine WC.seq ?_
                      refine WC.region ?_
                      refine WL.quiet (d := 2) rfl rfl rfl (q_assign rfl) ?_
                      refine WL.nil ?_
                      refine WX.then ?_
                      refine WC.ret ?_
                      refine WX.thenRet ?_
                      obtain rfl := Option.some.inj h
                      refine WX.bpRet Try.results19 (.tmp rfl .nil) (fun w hw => ?_)
                      exact ⟨ret1 rfl, hw.sub .nil⟩
                    · replace h := ite_f h hb_816
                      refine WC.skip ?_
                      refine WX.then ?_
                      obtain ⟨k_963, hk_964, h⟩ := jp0_elim h
                      refine WC.seqMid0 ((k_963 = some r)) ([(1, (.pointer (some ⟨b_778, 0, none⟩)))]) ([stb b_778 24 [(.slice ao_104 s_103.fStart.length cap_105), (.slice ao_107 s_103.fDrift.length cap_108), (.slice ao_110 s_103.fFaulty.length cap_111), (.int .i64 s_103.fF), (.int .i64 s_103.fE), (.slice ao_113 s_103.fErrs.length cap_114), (.slice ao_116 s_103.fLies.length cap_117)]]) ?_ ?_
                      · skip
                        refine WC.seq ?_
                        refine WC.region ?_
                        refine WL.quiet (d := 65) rfl rfl rfl (q_fieldAddr fo_24_2 rfl rfl) ?_
                        refine WL.quiet (d := 66) rfl rfl rfl (q_load1 oneT_22 rfl (rd_stb .here rfl)) ?_
                        refine WL.quiet (d := 67) rfl rfl rfl (q_len Try.underlying22 rfl) ?_
                        refine WL.quiet (d := 68) rfl rfl rfl (q_move rfl) ?_
                        refine WL.nil ?_
                        refine WX.then ?_
                        refine WC.block ?_
                        refine WC.loop2 (fun (n_1023 : Nat) (v_1022 : Int) => (m_timebase_Valid_L2 s_103 k_963 n_1023 v_1022 = some r)) (fun (n_1023 : Nat) (v_1022 : Int) => [(1, (.pointer (some ⟨b_778, 0, none⟩))), (3, (.int .i64 ((s_103.fStart.length : Nat) : Int))), (66, (.slice ao_110 s_103.fFaulty.length cap_111)), (67, (.int .i64 ((s_103.fFaulty.length : Nat) : Int))), (68, (.int .i64 v_1022))]) (fun (n_1023 : Nat) (v_1022 : Int) => [stb b_778 24 [(.slice ao_104 s_103.fStart.length cap_105), (.slice ao_107 s_103.fDrift.length cap_108), (.slice ao_110 s_103.fFaulty.length cap_111), (.int .i64 s_103.fF), (.int .i64 s_103.fE), (.slice ao_113 s_103.fErrs.length cap_114), (.slice ao_116 s_103.fLies.length cap_117)]]) (fun (n_1023 : Nat) (v_1022 : Int) => n_1023) ⟨FUEL, 0⟩ h (.cons rfl (.cons rfl (.cons rfl (.cons rfl (.cons rfl .nil))))) (.cons .here .nil) ?_
                        rintro n_1023 v_1022 h
                        obtain ⟨n_1024, rfl⟩ := m_timebase_Valid_L2_fuel h
                        rw [m_timebase_Valid_L2] at h
                        refine WC.seq ?_
                        refine WC.region ?_
                        refine WL.quiet (d := 69) rfl rfl rfl (q_lss rfl rfl) ?_
                        refine WL.nil ?_
                        refine WX.then ?_
                        refine WC.seq ?_
                        refine WC.cond rfl (fun hb_1026 => ?_) (fun hb_1026 => ?_)
                        · replace h := ite_t h hb_1026
                          refine WC.skip ?_
                          refine WX.then ?_
                          refine WC.seq ?_
                          refine WC.block ?_
                          refine WC.seq ?_
                          obtain ⟨c_1054, h⟩ := chk_elim h
                          refine WC.region ?_
                          refine WL.quiet (d := 70) rfl rfl rfl (q_move rfl) ?_
                          refine WL.znth (dd := 71) rfl rfl (Z := Z) (Pr := (fun r x => r = e3 x)) elT_22 rfl rfl hs_112 c_1054 ?_
                          rintro A_1059 r_1060 hA_1061 hl_1062 rfl
                          refine WL.quiet (d := 72) rfl rfl rfl (q_load1 oneT_3 rfl (rd_z hz.pv hA_1061 rfl)) ?_
                          refine WL.quiet (d := 4) rfl rfl rfl (q_assign rfl) ?_
                          refine WL.quiet (d := 5) rfl rfl rfl (q_assign rfl) ?_
                          refine WL.nil ?_
                          refine WX.then ?_
                          refine WC.seq ?_
                          obtain ⟨c_1069, h⟩ := chk_elim h
                          refine WC.region ?_
                          refine WL.quiet (d := 73) rfl rfl rfl (q_move rfl) ?_
                          refine WL.quiet (d := 74) rfl rfl rfl (q_lss rfl rfl) ?_
                          refine WL.quiet (d := 75) rfl rfl rfl (q_move rfl) ?_
                          refine WL.cut0 True [(1, (.pointer (some ⟨b_778, 0, none⟩))), (3, (.int .i64 ((s_103.fStart.length : Nat) : Int))), (66, (.slice ao_110 s_103.fFaulty.length cap_111)), (67, (.int .i64 ((s_103.fFaulty.length : Nat) : Int))), (68, (.int .i64 v_1022)), (4, (.int .i64 v_1022)), (5, (.int .i64 (nth s_103.fFaulty v_1022))), (79, (.bool ((decide ((nth s_103.fFaulty v_1022) < 0)) || (decide ((nth s_103.fFaulty v_1022) ≥ ((s_103.fStart.length : Nat) : Int))))))] [stb b_778 24 [(.slice ao_104 s_103.fStart.length cap_105), (.slice ao_107 s_103.fDrift.length cap_108), (.slice ao_110 s_103.fFaulty.length cap_111), (.int .i64 s_103.fF), (.int .i64 s_103.fE), (.slice ao_113 s_103.fErrs.length cap_114), (.slice ao_116 s_103.fLies.length cap_117)]] 4 ?_ (fun _ => ?_)
                          · rcases Bool.eq_false_or_eq_true (decide ((nth s_103.fFaulty v_1022) < 0)) with hb' | hb'
                            · have hg_1070 := hb'; clear hb'
                              refine WL.pin (i := 75) rfl hg_1070 ?_
                              refine WL.skip rfl rfl rfl ?_
                              refine WL.skip rfl rfl rfl ?_
                              refine WL.skip rfl rfl rfl ?_
                              refine WL.quiet (d := 79) rfl rfl rfl (q_pickT rfl rfl) ?_
                              exact WL.cutEnd () trivial (.cons rfl (.cons rfl (.cons rfl (.cons rfl (.cons rfl (.cons rfl (.cons rfl (.cons (some_bool (or_l hg_1070)) .nil)))))))) (.cons .here .nil)
                            · have hg_1071 := hb'; clear hb'
                              refine WL.pin (i := 75) rfl hg_1071 ?_
                              refine WL.quiet (d := 76) rfl rfl rfl (q_move rfl) ?_
                              refine WL.quiet (d := 77) rfl rfl rfl (q_move rfl) ?_
                              refine WL.quiet (d := 78) rfl rfl rfl (q_geq rfl rfl) ?_
                              refine WL.quiet (d := 79) rfl rfl rfl (q_pickF rfl rfl) ?_
                              exact WL.cutEnd () trivial (.cons rfl (.cons rfl (.cons rfl (.cons rfl (.cons rfl (.cons rfl (.cons rfl (.cons (some_bool (or_r hg_1071)) .nil)))))))) (.cons .here .nil)
                          · skip
                            refine WL.quiet (d := 80) rfl rfl rfl (q_move rfl) ?_
                            refine WL.cut0 True [(1, (.pointer (some ⟨b_778, 0, none⟩))), (3, (.int .i64 ((s_103.fStart.length : Nat) : Int))), (66, (.slice ao_110 s_103.fFaulty.length cap_111)), (67, (.int .i64 ((s_103.fFaulty.length : Nat) : Int))), (68, (.int .i64 v_1022)), (93, (.bool (((decide ((nth s_103.fFaulty v_1022) < 0)) || (decide ((nth s_103.fFaulty v_1022) ≥ ((s_103.fStart.length : Nat) : Int)))) || ((decide (v_1022 > 0)) && (decide ((nth s_103.fFaulty (i64 (v_1022 - 1))) ≥ (nth s_103.fFaulty v_1022)))))))] [stb b_778 24 [(.slice ao_104 s_103.fStart.length cap_105), (.slice ao_107 s_103.fDrift.length cap_108), (.slice ao_110 s_103.fFaulty.length cap_111), (.int .i64 s_103.fF), (.int .i64 s_103.fE), (.slice ao_113 s_103.fErrs.length cap_114), (.slice ao_116 s_103.fLies.length cap_117)]] 13 ?_ (fun _ => ?_)
                            · rcases Bool.eq_false_or_eq_true ((decide ((nth s_103.fFaulty v_1022) < 0)) || (decide ((nth s_103.fFaulty v_1022) ≥ ((s_103.fStart.length : Nat) : Int)))) with hb' | hb'
                              · have hg_1072 := hb'; clear hb'
                                refine WL.pin (i := 80) rfl hg_1072 ?_
                                refine WL.skip rfl rfl rfl ?_
                                refine WL.skip rfl rfl rfl ?_
                                refine WL.skip rfl rfl rfl ?_
                                refine WL.skip rfl rfl rfl ?_
                                refine WL.skip rfl rfl rfl ?_
                                refine WL.skip rfl rfl rfl ?_
                                refine WL.skip rfl rfl rfl ?_
                                refine WL.skip rfl rfl rfl ?_
                                refine WL.skip rfl rfl rfl ?_
                                refine WL.skip rfl rfl rfl ?_
                                refine WL.skip rfl rfl rfl ?_
                                refine WL.skip rfl rfl rfl ?_
                                refine WL.quiet (d := 93) rfl rfl rfl (q_pickT rfl rfl) ?_
                                exact WL.cutEnd () trivial (.cons rfl (.cons rfl (.cons rfl (.cons rfl (.cons rfl (.cons (some_bool (or_l hg_1072)) .nil)))))) (.cons .here .nil)
                              · have hg_1073 := hb'; clear hb'
                                have c_1068 := c_1069 hg_1073
                                refine WL.pin (i := 80) rfl hg_1073 ?_
                                refine WL.quiet (d := 81) rfl rfl rfl (q_move rfl) ?_
                                refine WL.quiet (d := 82) rfl rfl rfl (q_gtr rfl rfl) ?_
                                refine WL.quiet (d := 83) rfl rfl rfl (q_move rfl) ?_
                                refine WL.cut0 True [(1, (.pointer (some ⟨b_778, 0, none⟩))), (3, (.int .i64 ((s_103.fStart.length : Nat) : Int))), (66, (.slice ao_110 s_103.fFaulty.length cap_111)), (67, (.int .i64 ((s_103.fFaulty.length : Nat) : Int))), (68, (.int .i64 v_1022)), (80, (.bool false)), (92, (.bool ((decide (v_1022 > 0)) && (decide ((nth s_103.fFaulty (i64 (v_1022 - 1))) ≥ (nth s_103.fFaulty v_1022))))))] [stb b_778 24 [(.slice ao_104 s_103.fStart.length cap_105), (.slice ao_107 s_103.fDrift.length cap_108), (.slice ao_110 s_103.fFaulty.length cap_111), (.int .i64 s_103.fF), (.int .i64 s_103.fE), (.slice ao_113 s_103.fErrs.length cap_114), (.slice ao_116 s_103.fLies.length cap_117)]] 9 ?_ (fun _ => ?_)
                                · rcases Bool.eq_false_or_eq_true (decide (v_1022 > 0)) with hb' | hb'
                                  · have hg_1074 := hb'; clear hb'
                                    have c_1063 := c_1068 hg_1074
                                    refine WL.pin (i := 83) rfl hg_1074 ?_
                                    refine WL.quiet (d := 84) rfl rfl rfl (q_fieldAddr fo_24_2 rfl rfl) ?_
                                    refine WL.quiet (d := 85) rfl rfl rfl (q_load1 oneT_22 rfl (rd_stb .here rfl)) ?_
                                    refine WL.quiet (d := 86) rfl rfl rfl (q_move rfl) ?_
                                    refine WL.quiet (d := 87) rfl rfl rfl (q_sub rfl rfl rfl) ?_
                                    refine WL.znth (dd := 88) rfl rfl (Z := Z) (Pr := (fun r x => r = e3 x)) elT_22 rfl rfl hs_112 c_1063 ?_
                                    rintro A_1075 r_1076 hA_1077 hl_1078 rfl
                                    refine WL.quiet (d := 89) rfl rfl rfl (q_load1 oneT_3 rfl (rd_z hz.pv hA_1077 rfl)) ?_
                                    refine WL.quiet (d := 90) rfl rfl rfl (q_move rfl) ?_
                                    refine WL.quiet (d := 91) rfl rfl rfl (q_geq rfl rfl) ?_
                                    refine WL.quiet (d := 92) rfl rfl rfl (q_pickT rfl rfl) ?_
                                    exact WL.cutEnd () trivial (.cons rfl (.cons rfl (.cons rfl (.cons rfl (.cons rfl (.cons rfl (.cons (some_bool (and_r hg_1074)) .nil))))))) (.cons .here .nil)
                                  · have hg_1079 := hb'; clear hb'
                                    refine WL.pin (i := 83) rfl hg_1079 ?_
                                    refine WL.skip rfl rfl rfl ?_
                                    refine WL.skip rfl rfl rfl ?_
                                    refine WL.skip rfl rfl rfl ?_
                                    refine WL.skip rfl rfl rfl ?_
                                    refine WL.skip rfl rfl rfl ?_
                                    refine WL.skip rfl rfl rfl ?_
                                    refine WL.skip rfl rfl rfl ?_
                                    refine WL.skip rfl rfl rfl ?_
                                    refine WL.quiet (d := 92) rfl rfl rfl (q_pickF rfl rfl) ?_
                                    exact WL.cutEnd () trivial (.cons rfl (.cons rfl (.cons rfl (.cons rfl (.cons rfl (.cons rfl (.cons (some_bool (and_l hg_1079)) .nil))))))) (.cons .here .nil)
                                · skip
                                  refine WL.quiet (d := 93) rfl rfl rfl (q_pickF rfl rfl) ?_
                                  exact WL.cutEnd () trivial (.cons rfl (.cons rfl (.cons rfl (.cons rfl (.cons rfl (.cons (some_bool (or_r hg_1073)) .nil)))))) (.cons .here .nil)
                            · skip
                              refine WL.nil ?_
                              refine WX.then ?_
                              refine WC.cond rfl (fun hb_1080 => ?_) (fun hb_1080 => ?_)
                              · replace h := ite_t h hb_1080
                                refine WC.seq ?_
                                refine WC.region ?_
                                refine WL.quiet (d := 2) rfl rfl rfl (q_assign rfl) ?_
                                refine WL.nil ?_
                                refine WX.then ?_
                                refine WC.ret ?_
                                refine WX.blockRet ?_
                                refine WX.thenRet ?_
                                refine WX.thenRet ?_
                                refine WX.blockRet ?_
                                refine WX.thenRet ?_
                                obtain rfl := Option.some.inj h
                                refine WX.bpRet Try.results19 (.tmp rfl .nil) (fun w hw => ?_)
                                exact ⟨ret1 rfl, hw.sub .nil⟩
                              · replace h := ite_f h hb_1080
                                refine WC.skip ?_
                                refine WX.blockNormal ?_
                                refine WX.then ?_
                                refine WC.region ?_
                                refine WL.quiet (d := 94) rfl rfl rfl (q_add rfl rfl rfl) ?_
                                refine WL.quiet (d := 68) rfl rfl rfl (q_move rfl) ?_
                                refine WL.nil ?_
                                exact WX.round (G := Nat × Int) ⟨n_1024, (i64 (v_1022 + 1))⟩ h (Nat.lt_succ_self _) (.cons rfl (.cons rfl (.cons rfl (.cons rfl (.cons rfl .nil))))) (.cons .here .nil)
                        · replace h := ite_f h hb_1026
                          refine WC.exit ?_
                          refine WX.thenExit ?_
                          refine WX.thenExit ?_
                          refine WX.blockHit ?_
                          exact WX.mid (G := Unit) () h (.cons rfl .nil) (.cons .here .nil)
                      · rintro  h
                        replace h := hk_964.symm.trans h
                        refine WC.seq ?_
                        obtain ⟨x_1081, hx_1082, h⟩ := bind_elim h
                        obtain ⟨b_1085, hb_1086, h⟩ := bind_elim h
                        obtain ⟨b_1089, hb_1090, h⟩ := bind_elim h
                        obtain ⟨b_1093, hb_1094, h⟩ := bind_elim h
                        refine WC.region ?_
                        refine WL.quiet (d := 95) rfl rfl rfl (q_fieldAddr fo_24_0 rfl rfl) ?_
                        refine WL.quiet (d := 96) rfl rfl rfl (q_load1 oneT_22 rfl (rd_stb .here rfl)) ?_
                        refine WL.callD (dd := 97) rfl rfl rfl (run_call (l := [.tmp 96, .const (.int .i64 1048576)]) Try.call33 (.cons rfl (.cons rfl .nil))) (.nil : Sel [stb b_778 24 [(.slice ao_104 s_103.fStart.length cap_105), (.slice ao_107 s_103.fDrift.length cap_108), (.slice ao_110 s_103.fFaulty.length cap_111), (.int .i64 s_103.fF), (.int .i64 s_103.fE), (.slice ao_113 s_103.fErrs.length cap_114), (.slice ao_116 s_103.fLies.length cap_117)]] [] [stb b_778 24 [(.slice ao_104 s_103.fStart.length cap_105), (.slice ao_107 s_103.fDrift.length cap_108), (.slice ao_110 s_103.fFaulty.length cap_111), (.int .i64 s_103.fF), (.int .i64 s_103.fE), (.slice ao_113 s_103.fErrs.length cap_114), (.slice ao_116 s_103.fLies.length cap_117)]]) (fun w hw => by have pz := (hz.call hw (.nil : Sel [stb b_778 24 [(.slice ao_104 s_103.fStart.length cap_105), (.slice ao_107 s_103.fDrift.length cap_108), (.slice ao_110 s_103.fFaulty.length cap_111), (.int .i64 s_103.fF), (.int .i64 s_103.fE), (.slice ao_113 s_103.fErrs.length cap_114), (.slice ao_116 s_103.fLies.length cap_117)]] [] [stb b_778 24 [(.slice ao_104 s_103.fStart.length cap_105), (.slice ao_107 s_103.fDrift.length cap_108), (.slice ao_110 s_103.fFaulty.length cap_111), (.int .i64 s_103.fF), (.int .i64 s_103.fE), (.slice ao_113 s_103.fErrs.length cap_114), (.slice ao_116 s_103.fLies.length cap_117)]])); exact w_timebase_within (Z := _) (ao_424 := ao_104) (cap_425 := cap_105) (l_423 := s_103.fStart) (n_427 := 1048576) (r := x_1081) w pz hs_106 hx_1082) ?_
                        refine WL.quiet (d := 98) rfl rfl rfl (q_move rfl) ?_
                        refine WL.cut0 True [(1, (.pointer (some ⟨b_778, 0, none⟩))), (102, (.bool b_1085))] [stb b_778 24 [(.slice ao_104 s_103.fStart.length cap_105), (.slice ao_107 s_103.fDrift.length cap_108), (.slice ao_110 s_103.fFaulty.length cap_111), (.int .i64 s_103.fF), (.int .i64 s_103.fE), (.slice ao_113 s_103.fErrs.length cap_114), (.slice ao_116 s_103.fLies.length cap_117)]] 4 ?_ (fun _ => ?_)
                        · rcases Bool.eq_false_or_eq_true x_1081 with hb' | hb'
                          · have hg_1095 := hb'; clear hb'
                            have hq_1096 := ite_t hb_1086 hg_1095
                            obtain ⟨x_1083, hx_1084, hq_1096⟩ := bind_elim hq_1096
                            replace hq_1096 := Option.some.inj hq_1096
                            refine WL.pin (i := 98) rfl hg_1095 ?_
                            refine WL.quiet (d := 99) rfl rfl rfl (q_fieldAddr fo_24_1 rfl rfl) ?_
                            refine WL.quiet (d := 100) rfl rfl rfl (q_load1 oneT_22 rfl (rd_stb .here rfl)) ?_
                            refine WL.callD (dd := 101) rfl rfl rfl (run_call (l := [.tmp 100, .const (.int .i64 1000)]) Try.call33 (.cons rfl (.cons rfl .nil))) (.nil : Sel [stb b_778 24 [(.slice ao_104 s_103.fStart.length cap_105), (.slice ao_107 s_103.fDrift.length cap_108), (.slice ao_110 s_103.fFaulty.length cap_111), (.int .i64 s_103.fF), (.int .i64 s_103.fE), (.slice ao_113 s_103.fErrs.length cap_114), (.slice ao_116 s_103.fLies.length cap_117)]] [] [stb b_778 24 [(.slice ao_104 s_103.fStart.length cap_105), (.slice ao_107 s_103.fDrift.length cap_108), (.slice ao_110 s_103.fFaulty.length cap_111), (.int .i64 s_103.fF), (.int .i64 s_103.fE), (.slice ao_113 s_103.fErrs.length cap_114), (.slice ao_116 s_103.fLies.length cap_117)]]) (fun w hw => by have pz := (hz.call hw (.nil : Sel [stb b_778 24 [(.slice ao_104 s_103.fStart.length cap_105), (.slice ao_107 s_103.fDrift.length cap_108), (.slice ao_110 s_103.fFaulty.length cap_111), (.int .i64 s_103.fF), (.int .i64 s_103.fE), (.slice ao_113 s_103.fErrs.length cap_114), (.slice ao_116 s_103.fLies.length cap_117)]] [] [stb b_778 24 [(.slice ao_104 s_103.fStart.length cap_105), (.slice ao_107 s_103.fDrift.length cap_108), (.slice ao_110 s_103.fFaulty.length cap_111), (.int .i64 s_103.fF), (.int .i64 s_103.fE), (.slice ao_113 s_103.fErrs.length cap_114), (.slice ao_116 s_103.fLies.length cap_117)]])); exact w_timebase_within (Z := _) (ao_424 := ao_107) (cap_425 := cap_108) (l_423 := s_103.fDrift) (n_427 := 1000) (r := x_1083) w pz hs_109 hx_1084) ?_
                            refine WL.quiet (d := 102) rfl rfl rfl (q_pickT rfl rfl) ?_
                            exact WL.cutEnd () trivial (.cons rfl (.cons (some_bool hq_1096) .nil)) (.cons .here .nil)
                          · have hg_1097 := hb'; clear hb'
                            have hq_1098 := ite_f hb_1086 hg_1097
                            replace hq_1098 := Option.some.inj hq_1098
                            refine WL.pin (i := 98) rfl hg_1097 ?_
                            refine WL.skip rfl rfl rfl ?_
                            refine WL.skip rfl rfl rfl ?_
                            refine WL.skip rfl rfl rfl ?_
                            refine WL.quiet (d := 102) rfl rfl rfl (q_pickF rfl rfl) ?_
                            exact WL.cutEnd () trivial (.cons rfl (.cons (some_bool hq_1098) .nil)) (.cons .here .nil)
                        · skip
                          refine WL.quiet (d := 103) rfl rfl rfl (q_move rfl) ?_
                          refine WL.cut0 True [(1, (.pointer (some ⟨b_778, 0, none⟩))), (109, (.bool b_1089))] [stb b_778 24 [(.slice ao_104 s_103.fStart.length cap_105), (.slice ao_107 s_103.fDrift.length cap_108), (.slice ao_110 s_103.fFaulty.length cap_111), (.int .i64 s_103.fF), (.int .i64 s_103.fE), (.slice ao_113 s_103.fErrs.length cap_114), (.slice ao_116 s_103.fLies.length cap_117)]] 6 ?_ (fun _ => ?_)
                          · rcases Bool.eq_false_or_eq_true b_1085 with hb' | hb'
                            · have hg_1099 := hb'; clear hb'
                              have hq_1100 := ite_t hb_1090 hg_1099
                              obtain ⟨x_1087, hx_1088, hq_1100⟩ := bind_elim hq_1100
                              replace hq_1100 := Option.some.inj hq_1100
                              refine WL.pin (i := 103) rfl hg_1099 ?_
                              refine WL.quiet (d := 104) rfl rfl rfl (q_fieldAddr fo_24_5 rfl rfl) ?_
                              refine WL.quiet (d := 105) rfl rfl rfl (q_load1 oneT_22 rfl (rd_stb .here rfl)) ?_
                              refine WL.quiet (d := 106) rfl rfl rfl (q_fieldAddr fo_24_4 rfl rfl) ?_
                              refine WL.quiet (d := 107) rfl rfl rfl (q_load1 oneT_3 rfl (rd_stb .here rfl)) ?_
                              refine WL.callD (dd := 108) rfl rfl rfl (run_call (l := [.tmp 105, .tmp 107]) Try.call33 (.cons rfl (.cons rfl .nil))) (.nil : Sel [stb b_778 24 [(.slice ao_104 s_103.fStart.length cap_105), (.slice ao_107 s_103.fDrift.length cap_108), (.slice ao_110 s_103.fFaulty.length cap_111), (.int .i64 s_103.fF), (.int .i64 s_103.fE), (.slice ao_113 s_103.fErrs.length cap_114), (.slice ao_116 s_103.fLies.length cap_117)]] [] [stb b_778 24 [(.slice ao_104 s_103.fStart.length cap_105), (.slice ao_107 s_103.fDrift.length cap_108), (.slice ao_110 s_103.fFaulty.length cap_111), (.int .i64 s_103.fF), (.int .i64 s_103.fE), (.slice ao_113 s_103.fErrs.length cap_114), (.slice ao_116 s_103.fLies.length cap_117)]]) (fun w hw => by have pz := (hz.call hw (.nil : Sel [stb b_778 24 [(.slice ao_104 s_103.fStart.length cap_105), (.slice ao_107 s_103.fDrift.length cap_108), (.slice ao_110 s_103.fFaulty.length cap_111), (.int .i64 s_103.fF), (.int .i64 s_103.fE), (.slice ao_113 s_103.fErrs.length cap_114), (.slice ao_116 s_103.fLies.length cap_117)]] [] [stb b_778 24 [(.slice ao_104 s_103.fStart.length cap_105), (.slice ao_107 s_103.fDrift.length cap_108), (.slice ao_110 s_103.fFaulty.length cap_111), (.int .i64 s_103.fF), (.int .i64 s_103.fE), (.slice ao_113 s_103.fErrs.length cap_114), (.slice ao_116 s_103.fLies.length cap_117)]])); exact w_timebase_within (Z := _) (ao_424 := ao_113) (cap_425 := cap_114) (l_423 := s_103.fErrs) (n_427 := s_103.fE) (r := x_1087) w pz hs_115 hx_1088) ?_
                              refine WL.quiet (d := 109) rfl rfl rfl (q_pickT rfl rfl) ?_
                              exact WL.cutEnd () trivial (.cons rfl (.cons (some_bool hq_1100) .nil)) (.cons .here .nil)
                            · have hg_1101 := hb'; clear hb'
                              have hq_1102 := ite_f hb_1090 hg_1101
                              replace hq_1102 := Option.some.inj hq_1102
                              refine WL.pin (i := 103) rfl hg_1101 ?_
                              refine WL.skip rfl rfl rfl ?_
                              refine WL.skip rfl rfl rfl ?_
                              refine WL.skip rfl rfl rfl ?_
                              refine WL.skip rfl rfl rfl ?_
                              refine WL.skip rfl rfl rfl ?_
                              refine WL.quiet (d := 109) rfl rfl rfl (q_pickF rfl rfl) ?_
                              exact WL.cutEnd () trivial (.cons rfl (.cons (some_bool hq_1102) .nil)) (.cons .here .nil)
                          · skip
                            refine WL.quiet (d := 110) rfl rfl rfl (q_move rfl) ?_
                            refine WL.cut0 True [(114, (.bool b_1093))] [stb b_778 24 [(.slice ao_104 s_103.fStart.length cap_105), (.slice ao_107 s_103.fDrift.length cap_108), (.slice ao_110 s_103.fFaulty.length cap_111), (.int .i64 s_103.fF), (.int .i64 s_103.fE), (.slice ao_113 s_103.fErrs.length cap_114), (.slice ao_116 s_103.fLies.length cap_117)]] 4 ?_ (fun _ => ?_)
                            · rcases Bool.eq_false_or_eq_true b_1089 with hb' | hb'
                              · have hg_1103 := hb'; clear hb'
                                have hq_1104 := ite_t hb_1094 hg_1103
                                obtain ⟨x_1091, hx_1092, hq_1104⟩ := bind_elim hq_1104
                                replace hq_1104 := Option.some.inj hq_1104
                                refine WL.pin (i := 110) rfl hg_1103 ?_
                                refine WL.quiet (d := 111) rfl rfl rfl (q_fieldAddr fo_24_6 rfl rfl) ?_
                                refine WL.quiet (d := 112) rfl rfl rfl (q_load1 oneT_22 rfl (rd_stb .here rfl)) ?_
                                refine WL.callD (dd := 113) rfl rfl rfl (run_call (l := [.tmp 112, .const (.int .i64 1048576)]) Try.call33 (.cons rfl (.cons rfl .nil))) (.nil : Sel [stb b_778 24 [(.slice ao_104 s_103.fStart.length cap_105), (.slice ao_107 s_103.fDrift.length cap_108), (.slice ao_110 s_103.fFaulty.length cap_111), (.int .i64 s_103.fF), (.int .i64 s_103.fE), (.slice ao_113 s_103.fErrs.length cap_114), (.slice ao_116 s_103.fLies.length cap_117)]] [] [stb b_778 24 [(.slice ao_104 s_103.fStart.length cap_105), (.slice ao_107 s_103.fDrift.length cap_108), (.slice ao_110 s_103.fFaulty.length cap_111), (.int .i64 s_103.fF), (.int .i64 s_103.fE), (.slice ao_113 s_103.fErrs.length cap_114), (.slice ao_116 s_103.fLies.length cap_117)]]) (fun w hw => by have pz := (hz.call hw (.nil : Sel [stb b_778 24 [(.slice ao_104 s_103.fStart.length cap_105), (.slice ao_107 s_103.fDrift.length cap_108), (.slice ao_110 s_103.fFaulty.length cap_111), (.int .i64 s_103.fF), (.int .i64 s_103.fE), (.slice ao_113 s_103.fErrs.length cap_114), (.slice ao_116 s_103.fLies.length cap_117)]] [] [stb b_778 24 [(.slice ao_104 s_103.fStart.length cap_105), (.slice ao_107 s_103.fDrift.length cap_108), (.slice ao_110 s_103.fFaulty.length cap_111), (.int .i64 s_103.fF), (.int .i64 s_103.fE), (.slice ao_113 s_103.fErrs.length cap_114), (.slice ao_116 s_103.fLies.length cap_117)]])); exact w_timebase_within (Z := _) (ao_424 := ao_116) (cap_425 := cap_117) (l_423 := s_103.fLies) (n_427 := 1048576) (r := x_1091) w pz hs_118 hx_1092) ?_
                                refine WL.quiet (d := 114) rfl rfl rfl (q_pickT rfl rfl) ?_
                                exact WL.cutEnd () trivial (.cons (some_bool hq_1104) .nil) (.cons .here .nil)
                              · have hg_1105 := hb'; clear hb'
                                have hq_1106 := ite_f hb_1094 hg_1105
                                replace hq_1106 := Option.some.inj hq_1106
                                refine WL.pin (i := 110) rfl hg_1105 ?_
                                refine WL.skip rfl rfl rfl ?_
                                refine WL.skip rfl rfl rfl ?_
                                refine WL.skip rfl rfl rfl ?_
                                refine WL.quiet (d := 114) rfl rfl rfl (q_pickF rfl rfl) ?_
                                exact WL.cutEnd () trivial (.cons (some_bool hq_1106) .nil) (.cons .here .nil)
                            · skip
                              refine WL.quiet (d := 2) rfl rfl rfl (q_assign rfl) ?_
                              refine WL.nil ?_
                              refine WX.then ?_
                              refine WC.ret ?_
                              obtain rfl := Option.some.inj h
                              refine WX.bpRet Try.results19 (.tmp rfl .nil) (fun w hw => ?_)
                              exact ⟨ret1 rfl, hw.sub .nil⟩
/-- (timebase.plan).fits -/
def m_timebase_plan_fits (p_1109 : Stimebase_plan) (clocks_1125 : List Int) : Option Bool :=
  (if decide (((clocks_1125.length : Nat) : Int) = ((p_1109.fSetup.fStart.length : Nat) : Int)) then (m_timebase_within clocks_1125 268435456).bind fun x_1142 => some x_1142 else some false).bind fun b_1144 => some b_1144

set_option maxRecDepth 20000 in
theorem w_timebase_plan_fits (Z : Zp)  (ao_1110 : Option Addr) (cap_1111 : Nat) (ao_1113 : Option Addr) (cap_1114 : Nat) (ao_1116 : Option Addr) (cap_1117 : Nat) (ao_1119 : Option Addr) (cap_1120 : Nat) (ao_1122 : Option Addr) (cap_1123 : Nat) (ao_1126 : Option Addr) (cap_1127 : Nat) (p_1109 : Stimebase_plan) (clocks_1125 : List Int) (r : Bool) (w₀ : World) (hz : PZ [] w₀ Z)
    (hs_1112 : ZS Z 1 (fun r x => r = e3 x) ao_1110 cap_1111 p_1109.fSetup.fStart)
    (hs_1115 : ZS Z 1 (fun r x => r = e3 x) ao_1113 cap_1114 p_1109.fSetup.fDrift)
    (hs_1118 : ZS Z 1 (fun r x => r = e3 x) ao_1116 cap_1117 p_1109.fSetup.fFaulty)
    (hs_1121 : ZS Z 1 (fun r x => r = e3 x) ao_1119 cap_1120 p_1109.fSetup.fErrs)
    (hs_1124 : ZS Z 1 (fun r x => r = e3 x) ao_1122 cap_1123 p_1109.fSetup.fLies)
    (hs_1128 : ZS Z 1 (fun r x => r = e3 x) ao_1126 cap_1127 clocks_1125)
    (h : m_timebase_plan_fits p_1109 clocks_1125 = some r) :
    Calls Try.prog 29 #[(.agg #[(.slice ao_1110 p_1109.fSetup.fStart.length cap_1111), (.slice ao_1113 p_1109.fSetup.fDrift.length cap_1114), (.slice ao_1116 p_1109.fSetup.fFaulty.length cap_1117), (.int .i64 p_1109.fSetup.fF), (.int .i64 p_1109.fSetup.fE), (.slice ao_1119 p_1109.fSetup.fErrs.length cap_1120), (.slice ao_1122 p_1109.fSetup.fLies.length cap_1123)]), (.slice ao_1126 clocks_1125.length cap_1127)] w₀ fun e w' => e = .returned (.bool r) ∧ Hp [] w₀ w' [] := by
  unfold m_timebase_plan_fits at h
  refine Calls.ofWC (vs := [(.agg #[(.slice ao_1110 p_1109.fSetup.fStart.length cap_1111), (.slice ao_1113 p_1109.fSetup.fDrift.length cap_1114), (.slice ao_1116 p_1109.fSetup.fFaulty.length cap_1117), (.int .i64 p_1109.fSetup.fF), (.int .i64 p_1109.fSetup.fE), (.slice ao_1119 p_1109.fSetup.fErrs.length cap_1120), (.slice ao_1122 p_1109.fSetup.fLies.length cap_1123)]), (.slice ao_1126 clocks_1125.length cap_1127)]) (pre := []) (env := [(0, (.agg #[(.slice ao_1110 p_1109.fSetup.fStart.length cap_1111), (.slice ao_1113 p_1109.fSetup.fDrift.length cap_1114), (.slice ao_1116 p_1109.fSetup.fFaulty.length cap_1117), (.int .i64 p_1109.fSetup.fF), (.int .i64 p_1109.fSetup.fE), (.slice ao_1119 p_1109.fSetup.fErrs.length cap_1120), (.slice ao_1122 p_1109.fSetup.fLies.length cap_1123)])), (1, (.slice ao_1126 clocks_1125.length cap_1127))]) Try.func29 rfl Try.ntmps29 rfl (Hp.nil w₀ _) rfl ?_
  refine WC.seq ?_
  refine WC.region ?_
  refine WL.new (dd := 2) rfl rfl rfl (e_box (cs := [(.slice ao_1110 p_1109.fSetup.fStart.length cap_1111), (.slice ao_1113 p_1109.fSetup.fDrift.length cap_1114), (.slice ao_1116 p_1109.fSetup.fFaulty.length cap_1117), (.int .i64 p_1109.fSetup.fF), (.int .i64 p_1109.fSetup.fE), (.slice ao_1119 p_1109.fSetup.fErrs.length cap_1120), (.slice ao_1122 p_1109.fSetup.fLies.length cap_1123)]) rfl rfl) ?_
  intro b_1141 _
  refine WL.quiet (d := 4) rfl rfl rfl (q_assign rfl) ?_
  refine WL.nil ?_
  refine WX.then ?_
  refine WC.seq ?_
  obtain ⟨b_1144, hb_1145, h⟩ := bind_elim h
  refine WC.region ?_
  refine WL.quiet (d := 5) rfl rfl rfl (q_move rfl) ?_
  refine WL.quiet (d := 6) rfl rfl rfl (q_len Try.underlying22 rfl) ?_
  refine WL.quiet (d := 7) rfl rfl rfl (q_fieldAddr fo_55_0 rfl rfl) ?_
  refine WL.quiet (d := 8) rfl rfl rfl (q_fieldAddr fo_24_0 rfl rfl) ?_
  refine WL.quiet (d := 9) rfl rfl rfl (q_load1 oneT_22 rfl (rd_stb .here rfl)) ?_
  refine WL.quiet (d := 10) rfl rfl rfl (q_len Try.underlying22 rfl) ?_
  refine WL.quiet (d := 11) rfl rfl rfl (q_eql rfl rfl) ?_
  refine WL.quiet (d := 12) rfl rfl rfl (q_move rfl) ?_
  refine WL.cut0 True [(4, (.bool false)), (15, (.bool b_1144))] [stb b_1141 55 [(.slice ao_1110 p_1109.fSetup.fStart.length cap_1111), (.slice ao_1113 p_1109.fSetup.fDrift.length cap_1114), (.slice ao_1116 p_1109.fSetup.fFaulty.length cap_1117), (.int .i64 p_1109.fSetup.fF), (.int .i64 p_1109.fSetup.fE), (.slice ao_1119 p_1109.fSetup.fErrs.length cap_1120), (.slice ao_1122 p_1109.fSetup.fLies.length cap_1123)]] 3 ?_ (fun _ => ?_)
  · rcases Bool.eq_false_or_eq_true (decide (((clocks_1125.length : Nat) : Int) = ((p_1109.fSetup.fStart.length : Nat) : Int))) with hb' | hb'
    · have hg_1146 := hb'; clear hb'
      have hq_1147 := ite_t hb_1145 hg_1146
      obtain ⟨x_1142, hx_1143, hq_1147⟩ := bind_elim hq_1147
      replace hq_1147 := Option.some.inj hq_1147
      refine WL.pin (i := 12) rfl hg_1146 ?_
      refine WL.quiet (d := 13) rfl rfl rfl (q_move rfl) ?_
      refine WL.callD (dd := 14) rfl rfl rfl (run_call (l := [.tmp 13, .const (.int .i64 268435456)]) Try.call33 (.cons rfl (.cons rfl .nil))) (.nil : Sel [stb b_1141 55 [(.slice ao_1110 p_1109.fSetup.fStart.length cap_1111), (.slice ao_1113 p_1109.fSetup.fDrift.length cap_1114), (.slice ao_1116 p_1109.fSetup.fFaulty.length cap_1117), (.int .i64 p_1109.fSetup.fF), (.int .i64 p_1109.fSetup.fE), (.slice ao_1119 p_1109.fSetup.fErrs.length cap_1120), (.slice ao_1122 p_1109.fSetup.fLies.length cap_1123)]] [] [stb b_1141 55 [(.slice ao_1110 p_1109.fSetup.fStart.length cap_1111), (.slice ao_1113 p_1109.fSetup.fDrift.length cap_1114), (.slice ao_1116 p_1109.fSetup.fFaulty.length cap_1117), (.int .i64 p_1109.fSetup.fF), (.int .i64 p_1109.fSetup.fE), (.slice ao_1119 p_1109.fSetup.fErrs.length cap_1120), (.slice ao_1122 p_1109.fSetup.fLies.length cap_1123)]]) (fun w hw => by have pz := (hz.call hw (.nil : Sel [stb b_1141 55 [(.slice ao_1110 p_1109.fSetup.fStart.length cap_1111), (.slice ao_1113 p_1109.fSetup.fDrift.length cap_1114), (.slice ao_1116 p_1109.fSetup.fFaulty.length cap_1117), (.int .i64 p_1109.fSetup.fF), (.int .i64 p_1109.fSetup.fE), (.slice ao_1119 p_1109.fSetup.fErrs.length cap_1120), (.slice ao_1122 p_1109.fSetup.fLies.length cap_1123)]] [] [stb b_1141 55 [(.slice ao_1110 p_1109.fSetup.fStart.length cap_1111), (.slice ao_1113 p_1109.fSetup.fDrift.length cap_1114), (.slice ao_1116 p_1109.fSetup.fFaulty.length cap_1117), (.int .i64 p_1109.fSetup.fF), (.int .i64 p_1109.fSetup.fE), (.slice ao_1119 p_1109.fSetup.fErrs.length cap_1120), (.slice ao_1122 p_1109.fSetup.fLies.length cap_1123)]])); exact w_timebase_within (Z := _) (ao_424 := ao_1126) (cap_425 := cap_1127) (l_423 := clocks_1125) (n_427 := 268435456) (r := x_1142) w pz hs_1128 hx_1143) ?_
      refine WL.quiet (d := 15) rfl rfl rfl (q_pickT rfl rfl) ?_
      exact WL.cutEnd () trivial (.cons rfl (.cons (some_bool hq_1147) .nil)) (.cons .here .nil)
    · have hg_1148 := hb'; clear hb'
      have hq_1149 := ite_f hb_1145 hg_1148
      replace hq_1149 := Option.some.inj hq_1149
      refine WL.pin (i := 12) rfl hg_1148 ?_
      refine WL.skip rfl rfl rfl ?_
      refine WL.skip rfl rfl rfl ?_
      refine WL.quiet (d := 15) rfl rfl rfl (q_pickF rfl rfl) ?_
      exact WL.cutEnd () trivial (.cons rfl (.cons (some_bool hq_1149) .nil)) (.cons .here .nil)
  · skip
    refine WL.quiet (d := 4) rfl rfl rfl (q_assign rfl) ?_
    refine WL.nil ?_
    refine WX.then ?_
    refine WC.ret ?_
    obtain rfl := Option.some.inj h
    refine WX.bpRet Try.results29 (.tmp rfl .nil) (fun w hw => ?_)
    exact ⟨ret1 rfl, hw.sub .nil⟩
def m_slices_Index_int_int_L2 (s_1294 : List Int) (v_1298 : Int) (k_1490 : Option Int) : Nat → Int → Option Int
  | 0, _ => none
  | n_1517 + 1, v_1515 => if decide (v_1515 < ((s_1294.length : Nat) : Int)) then chk ((0 : Int) ≤ v_1515 ∧ v_1515 < ((s_1294.length : Nat) : Int)) (if decide (v_1298 = (nth s_1294 v_1515)) then some v_1515 else m_slices_Index_int_int_L2 s_1294 v_1298 k_1490 n_1517 (i64 (v_1515 + 1))) else k_1490
theorem m_slices_Index_int_int_L2_fuel {n : Nat} {s_1294 : List Int} {v_1298 : Int} {k_1490 : Option Int} {v_1515 : Int} {r : Int} (h : m_slices_Index_int_int_L2 s_1294 v_1298 k_1490 n v_1515 = some r) : ∃ m, n = m + 1 := by
  cases n with
  | zero => cases h
  | succ m => exact ⟨m, rfl⟩

/-- slices.Index[[]int,int] -/
def m_slices_Index_int_int (s_1294 : List Int) (v_1298 : Int) : Option Int :=
  jp0 (some (-1)) fun k_1490 => m_slices_Index_int_int_L2 s_1294 v_1298 k_1490 FUEL 0

set_option maxRecDepth 20000 in
theorem w_slices_Index_int_int (Z : Zp)  (ao_1295 : Option Addr) (cap_1296 : Nat) (s_1294 : List Int) (v_1298 : Int) (r : Int) (w₀ : World) (hz : PZ [] w₀ Z)
    (hs_1297 : ZS Z 1 (fun r x => r = e3 x) ao_1295 cap_1296 s_1294)
    (h : m_slices_Index_int_int s_1294 v_1298 = some r) :
    Calls Try.prog 57 #[(.slice ao_1295 s_1294.length cap_1296), (.int .i64 v_1298)] w₀ fun e w' => e = .returned (.int .i64 r) ∧ Hp [] w₀ w' [] := by
  unfold m_slices_Index_int_int at h
  refine Calls.ofWC (vs := [(.slice ao_1295 s_1294.length cap_1296), (.int .i64 v_1298)]) (pre := []) (env := [(0, (.slice ao_1295 s_1294.length cap_1296)), (1, (.int .i64 v_1298))]) Try.func57 rfl Try.ntmps57 rfl (Hp.nil w₀ _) rfl ?_
  refine WC.seq ?_
  refine WC.region ?_
  refine WL.quiet (d := 4) rfl rfl rfl (q_assign rfl) ?_
  refine WL.nil ?_
  refine WX.then ?_
  obtain ⟨k_1490, hk_1491, h⟩ := jp0_elim h
  refine WC.seqMid0 ((k_1490 = some r)) ([]) ([]) ?_ ?_
  · skip
    refine WC.seq ?_
    refine WC.region ?_
    refine WL.quiet (d := 6) rfl rfl rfl (q_move rfl) ?_
    refine WL.quiet (d := 7) rfl rfl rfl (q_len Try.underlying22 rfl) ?_
    refine WL.quiet (d := 8) rfl rfl rfl (q_move rfl) ?_
    refine WL.nil ?_
    refine WX.then ?_
    refine WC.block ?_
    refine WC.loop2 (fun (n_1516 : Nat) (v_1515 : Int) => (m_slices_Index_int_int_L2 s_1294 v_1298 k_1490 n_1516 v_1515 = some r)) (fun (n_1516 : Nat) (v_1515 : Int) => [(0, (.slice ao_1295 s_1294.length cap_1296)), (1, (.int .i64 v_1298)), (7, (.int .i64 ((s_1294.length : Nat) : Int))), (8, (.int .i64 v_1515))]) (fun (n_1516 : Nat) (v_1515 : Int) => []) (fun (n_1516 : Nat) (v_1515 : Int) => n_1516) ⟨FUEL, 0⟩ h (.cons rfl (.cons rfl (.cons rfl (.cons rfl .nil)))) .nil ?_
    rintro n_1516 v_1515 h
    obtain ⟨n_1517, rfl⟩ := m_slices_Index_int_int_L2_fuel h
    rw [m_slices_Index_int_int_L2] at h
    refine WC.seq ?_
    refine WC.region ?_
    refine WL.quiet (d := 9) rfl rfl rfl (q_lss rfl rfl) ?_
    refine WL.nil ?_
    refine WX.then ?_
    refine WC.seq ?_
    refine WC.cond rfl (fun hb_1519 => ?_) (fun hb_1519 => ?_)
    · replace h := ite_t h hb_1519
      refine WC.skip ?_
      refine WX.then ?_
      refine WC.seq ?_
      refine WC.block ?_
      refine WC.seq ?_
      refine WC.region ?_
      refine WL.quiet (d := 10) rfl rfl rfl (q_move rfl) ?_
      refine WL.quiet (d := 5) rfl rfl rfl (q_assign rfl) ?_
      refine WL.nil ?_
      refine WX.then ?_
      refine WC.seq ?_
      obtain ⟨c_1530, h⟩ := chk_elim h
      refine WC.region ?_
      refine WL.quiet (d := 11) rfl rfl rfl (q_move rfl) ?_
      refine WL.quiet (d := 12) rfl rfl rfl (q_move rfl) ?_
      refine WL.quiet (d := 13) rfl rfl rfl (q_move rfl) ?_
      refine WL.znth (dd := 14) rfl rfl (Z := Z) (Pr := (fun r x => r = e3 x)) elT_22 rfl rfl hs_1297 c_1530 ?_
      rintro A_1535 r_1536 hA_1537 hl_1538 rfl
      refine WL.quiet (d := 15) rfl rfl rfl (q_load1 oneT_3 rfl (rd_z hz.pv hA_1537 rfl)) ?_
      refine WL.quiet (d := 16) rfl rfl rfl (q_eql rfl rfl) ?_
      refine WL.nil ?_
      refine WX.then ?_
      refine WC.cond rfl (fun hb_1539 => ?_) (fun hb_1539 => ?_)
      · replace h := ite_t h hb_1539
        refine WC.seq ?_
        refine WC.region ?_
        refine WL.quiet (d := 17) rfl rfl rfl (q_move rfl) ?_
        refine WL.quiet (d := 4) rfl rfl rfl (q_assign rfl) ?_
        refine WL.nil ?_
        refine WX.then ?_
        refine WC.ret ?_
        refine WX.blockRet ?_
        refine WX.thenRet ?_
        refine WX.thenRet ?_
        refine WX.blockRet ?_
        refine WX.thenRet ?_
        obtain rfl := Option.some.inj h
        refine WX.bpRet Try.results57 (.tmp rfl .nil) (fun w hw => ?_)
        exact ⟨ret1 rfl, hw.sub .nil⟩
      · replace h := ite_f h hb_1539
        refine WC.skip ?_
        refine WX.blockNormal ?_
        refine WX.then ?_
        refine WC.region ?_
        refine WL.quiet (d := 18) rfl rfl rfl (q_add rfl rfl rfl) ?_
        refine WL.quiet (d := 8) rfl rfl rfl (q_move rfl) ?_
        refine WL.nil ?_
        exact WX.round (G := Nat × Int) ⟨n_1517, (i64 (v_1515 + 1))⟩ h (Nat.lt_succ_self _) (.cons rfl (.cons rfl (.cons rfl (.cons rfl .nil)))) .nil
    · replace h := ite_f h hb_1519
      refine WC.exit ?_
      refine WX.thenExit ?_
      refine WX.thenExit ?_
      refine WX.blockHit ?_
      exact WX.mid (G := Unit) () h .nil .nil
  · rintro  h
    replace h := hk_1491.symm.trans h
    refine WC.seq ?_
    refine WC.region ?_
    refine WL.quiet (d := 4) rfl rfl rfl (q_assign rfl) ?_
    refine WL.nil ?_
    refine WX.then ?_
    refine WC.ret ?_
    obtain rfl := Option.some.inj h
    refine WX.bpRet Try.results57 (.tmp rfl .nil) (fun w hw => ?_)
    exact ⟨ret1 rfl, hw.sub .nil⟩
/-- slices.Contains[[]int,int] -/
def m_slices_Contains_int_int (s_1289 : List Int) (v_1293 : Int) : Option Bool :=
  (m_slices_Index_int_int s_1289 v_1293).bind fun x_1543 => some (decide (x_1543 ≥ 0))

set_option maxRecDepth 20000 in
theorem w_slices_Contains_int_int (Z : Zp)  (ao_1290 : Option Addr) (cap_1291 : Nat) (s_1289 : List Int) (v_1293 : Int) (r : Bool) (w₀ : World) (hz : PZ [] w₀ Z)
    (hs_1292 : ZS Z 1 (fun r x => r = e3 x) ao_1290 cap_1291 s_1289)
    (h : m_slices_Contains_int_int s_1289 v_1293 = some r) :
    Calls Try.prog 54 #[(.slice ao_1290 s_1289.length cap_1291), (.int .i64 v_1293)] w₀ fun e w' => e = .returned (.bool r) ∧ Hp [] w₀ w' [] := by
  unfold m_slices_Contains_int_int at h
  refine Calls.ofWC (vs := [(.slice ao_1290 s_1289.length cap_1291), (.int .i64 v_1293)]) (pre := []) (env := [(0, (.slice ao_1290 s_1289.length cap_1291)), (1, (.int .i64 v_1293))]) Try.func54 rfl Try.ntmps54 rfl (Hp.nil w₀ _) rfl ?_
  refine WC.seq ?_
  refine WC.region ?_
  refine WL.quiet (d := 4) rfl rfl rfl (q_assign rfl) ?_
  refine WL.nil ?_
  refine WX.then ?_
  refine WC.seq ?_
  obtain ⟨x_1543, hx_1544, h⟩ := bind_elim h
  refine WC.region ?_
  refine WL.quiet (d := 5) rfl rfl rfl (q_move rfl) ?_
  refine WL.quiet (d := 6) rfl rfl rfl (q_move rfl) ?_
  refine WL.callD (dd := 7) rfl rfl rfl (run_call (l := [.tmp 5, .tmp 6]) Try.call57 (.cons rfl (.cons rfl .nil))) (.nil : Sel [] [] []) (fun w hw => by have pz := (hz.call hw (.nil : Sel [] [] [])); exact w_slices_Index_int_int (Z := _) (ao_1295 := ao_1290) (cap_1296 := cap_1291) (s_1294 := s_1289) (v_1298 := v_1293) (r := x_1543) w pz hs_1292 hx_1544) ?_
  refine WL.quiet (d := 8) rfl rfl rfl (q_geq rfl rfl) ?_
  refine WL.quiet (d := 4) rfl rfl rfl (q_assign rfl) ?_
  refine WL.nil ?_
  refine WX.then ?_
  refine WC.ret ?_
  obtain rfl := Option.some.inj h
  refine WX.bpRet Try.results54 (.tmp rfl .nil) (fun w hw => ?_)
  exact ⟨ret1 rfl, hw.sub .nil⟩
/-- (timebase.plan).correct -/
def m_timebase_plan_correct (p_1270 : Stimebase_plan) (i_1286 : Int) : Option Bool :=
  (m_slices_Contains_int_int p_1270.fSetup.fFaulty i_1286).bind fun x_1550 => some (!x_1550)

set_option maxRecDepth 20000 in
theorem w_timebase_plan_correct (Z : Zp)  (ao_1271 : Option Addr) (cap_1272 : Nat) (ao_1274 : Option Addr) (cap_1275 : Nat) (ao_1277 : Option Addr) (cap_1278 : Nat) (ao_1280 : Option Addr) (cap_1281 : Nat) (ao_1283 : Option Addr) (cap_1284 : Nat) (p_1270 : Stimebase_plan) (i_1286 : Int) (r : Bool) (w₀ : World) (hz : PZ [] w₀ Z)
    (hs_1273 : ZS Z 1 (fun r x => r = e3 x) ao_1271 cap_1272 p_1270.fSetup.fStart)
    (hs_1276 : ZS Z 1 (fun r x => r = e3 x) ao_1274 cap_1275 p_1270.fSetup.fDrift)
    (hs_1279 : ZS Z 1 (fun r x => r = e3 x) ao_1277 cap_1278 p_1270.fSetup.fFaulty)
    (hs_1282 : ZS Z 1 (fun r x => r = e3 x) ao_1280 cap_1281 p_1270.fSetup.fErrs)
    (hs_1285 : ZS Z 1 (fun r x => r = e3 x) ao_1283 cap_1284 p_1270.fSetup.fLies)
    (h : m_timebase_plan_correct p_1270 i_1286 = some r) :
    Calls Try.prog 38 #[(.agg #[(.slice ao_1271 p_1270.fSetup.fStart.length cap_1272), (.slice ao_1274 p_1270.fSetup.fDrift.length cap_1275), (.slice ao_1277 p_1270.fSetup.fFaulty.length cap_1278), (.int .i64 p_1270.fSetup.fF), (.int .i64 p_1270.fSetup.fE), (.slice ao_1280 p_1270.fSetup.fErrs.length cap_1281), (.slice ao_1283 p_1270.fSetup.fLies.length cap_1284)]), (.int .i64 i_1286)] w₀ fun e w' => e = .returned (.bool r) ∧ Hp [] w₀ w' [] := by
  unfold m_timebase_plan_correct at h
  refine Calls.ofWC (vs := [(.agg #[(.slice ao_1271 p_1270.fSetup.fStart.length cap_1272), (.slice ao_1274 p_1270.fSetup.fDrift.length cap_1275), (.slice ao_1277 p_1270.fSetup.fFaulty.length cap_1278), (.int .i64 p_1270.fSetup.fF), (.int .i64 p_1270.fSetup.fE), (.slice ao_1280 p_1270.fSetup.fErrs.length cap_1281), (.slice ao_1283 p_1270.fSetup.fLies.length cap_1284)]), (.int .i64 i_1286)]) (pre := []) (env := [(0, (.agg #[(.slice ao_1271 p_1270.fSetup.fStart.length cap_1272), (.slice ao_1274 p_1270.fSetup.fDrift.length cap_1275), (.slice ao_1277 p_1270.fSetup.fFaulty.length cap_1278), (.int .i64 p_1270.fSetup.fF), (.int .i64 p_1270.fSetup.fE), (.slice ao_1280 p_1270.fSetup.fErrs.length cap_1281), (.slice ao_1283 p_1270.fSetup.fLies.length cap_1284)])), (1, (.int .i64 i_1286))]) Try.func38 rfl Try.ntmps38 rfl (Hp.nil w₀ _) rfl ?_
  refine WC.seq ?_
  refine WC.region ?_
  refine WL.new (dd := 2) rfl rfl rfl (e_box (cs := [(.slice ao_1271 p_1270.fSetup.fStart.length cap_1272), (.slice ao_1274 p_1270.fSetup.fDrift.length cap_1275), (.slice ao_1277 p_1270.fSetup.fFaulty.length cap_1278), (.int .i64 p_1270.fSetup.fF), (.int .i64 p_1270.fSetup.fE), (.slice ao_1280 p_1270.fSetup.fErrs.length cap_1281), (.slice ao_1283 p_1270.fSetup.fLies.length cap_1284)]) rfl rfl) ?_
  intro b_1549 _
  refine WL.quiet (d := 4) rfl rfl rfl (q_assign rfl) ?_
  refine WL.nil ?_
  refine WX.then ?_
  refine WC.seq ?_
  obtain ⟨x_1550, hx_1551, h⟩ := bind_elim h
  refine WC.region ?_
  refine WL.quiet (d := 5) rfl rfl rfl (q_fieldAddr fo_55_0 rfl rfl) ?_
  refine WL.quiet (d := 6) rfl rfl rfl (q_fieldAddr fo_24_2 rfl rfl) ?_
  refine WL.quiet (d := 7) rfl rfl rfl (q_load1 oneT_22 rfl (rd_stb .here rfl)) ?_
  refine WL.quiet (d := 8) rfl rfl rfl (q_move rfl) ?_
  refine WL.callD (dd := 9) rfl rfl rfl (run_call (l := [.tmp 7, .tmp 8]) Try.call54 (.cons rfl (.cons rfl .nil))) (.nil : Sel [stb b_1549 55 [(.slice ao_1271 p_1270.fSetup.fStart.length cap_1272), (.slice ao_1274 p_1270.fSetup.fDrift.length cap_1275), (.slice ao_1277 p_1270.fSetup.fFaulty.length cap_1278), (.int .i64 p_1270.fSetup.fF), (.int .i64 p_1270.fSetup.fE), (.slice ao_1280 p_1270.fSetup.fErrs.length cap_1281), (.slice ao_1283 p_1270.fSetup.fLies.length cap_1284)]] [] [stb b_1549 55 [(.slice ao_1271 p_1270.fSetup.fStart.length cap_1272), (.slice ao_1274 p_1270.fSetup.fDrift.length cap_1275), (.slice ao_1277 p_1270.fSetup.fFaulty.length cap_1278), (.int .i64 p_1270.fSetup.fF), (.int .i64 p_1270.fSetup.fE), (.slice ao_1280 p_1270.fSetup.fErrs.length cap_1281), (.slice ao_1283 p_1270.fSetup.fLies.length cap_1284)]]) (fun w hw => by have pz := (hz.call hw (.nil : Sel [stb b_1549 55 [(.slice ao_1271 p_1270.fSetup.fStart.length cap_1272), (.slice ao_1274 p_1270.fSetup.fDrift.length cap_1275), (.slice ao_1277 p_1270.fSetup.fFaulty.length cap_1278), (.int .i64 p_1270.fSetup.fF), (.int .i64 p_1270.fSetup.fE), (.slice ao_1280 p_1270.fSetup.fErrs.length cap_1281), (.slice ao_1283 p_1270.fSetup.fLies.length cap_1284)]] [] [stb b_1549 55 [(.slice ao_1271 p_1270.fSetup.fStart.length cap_1272), (.slice ao_1274 p_1270.fSetup.fDrift.length cap_1275), (.slice ao_1277 p_1270.fSetup.fFaulty.length cap_1278), (.int .i64 p_1270.fSetup.fF), (.int .i64 p_1270.fSetup.fE), (.slice ao_1280 p_1270.fSetup.fErrs.length cap_1281), (.slice ao_1283 p_1270.fSetup.fLies.length cap_1284)]])); exact w_slices_Contains_int_int (Z := _) (ao_1290 := ao_1277) (cap_1291 := cap_1278) (s_1289 := p_1270.fSetup.fFaulty) (v_1293 := i_1286) (r := x_1550) w pz hs_1279 hx_1551) ?_
  refine WL.quiet (d := 10) rfl rfl rfl (q_not rfl) ?_
  refine WL.quiet (d := 4) rfl rfl rfl (q_assign rfl) ?_
  refine WL.nil ?_
  refine WX.then ?_
  refine WC.ret ?_
  obtain rfl := Option.some.inj h
  refine WX.bpRet Try.results38 (.tmp rfl .nil) (fun w hw => ?_)
  exact ⟨ret1 rfl, hw.sub .nil⟩
/-- timebase.cyclic -/
def m_timebase_cyclic (l_1555 : List Int) (k_1559 : Int) : Option Int :=
  if decide (((l_1555.length : Nat) : Int) = 0) then some 0 else chk ((((l_1555.length : Nat) : Int) : Int) ≠ 0) (chk ((0 : Int) ≤ (Int.tmod k_1559 ((l_1555.length : Nat) : Int)) ∧ (Int.tmod k_1559 ((l_1555.length : Nat) : Int)) < ((l_1555.length : Nat) : Int)) (some (nth l_1555 (Int.tmod k_1559 ((l_1555.length : Nat) : Int)))))

set_option maxRecDepth 20000 in
theorem w_timebase_cyclic (Z : Zp)  (ao_1556 : Option Addr) (cap_1557 : Nat) (l_1555 : List Int) (k_1559 : Int) (r : Int) (w₀ : World) (hz : PZ [] w₀ Z)
    (hs_1558 : ZS Z 1 (fun r x => r = e3 x) ao_1556 cap_1557 l_1555)
    (h : m_timebase_cyclic l_1555 k_1559 = some r) :
    Calls Try.prog 39 #[(.slice ao_1556 l_1555.length cap_1557), (.int .i64 k_1559)] w₀ fun e w' => e = .returned (.int .i64 r) ∧ Hp [] w₀ w' [] := by
  unfold m_timebase_cyclic at h
  refine Calls.ofWC (vs := [(.slice ao_1556 l_1555.length cap_1557), (.int .i64 k_1559)]) (pre := []) (env := [(0, (.slice ao_1556 l_1555.length cap_1557)), (1, (.int .i64 k_1559))]) Try.func39 rfl Try.ntmps39 rfl (Hp.nil w₀ _) rfl ?_
  refine WC.seq ?_
  refine WC.region ?_
  refine WL.quiet (d := 4) rfl rfl rfl (q_assign rfl) ?_
  refine WL.nil ?_
  refine WX.then ?_
  refine WC.seq ?_
  refine WC.seq ?_
  refine WC.region ?_
  refine WL.quiet (d := 5) rfl rfl rfl (q_move rfl) ?_
  refine WL.quiet (d := 6) rfl rfl rfl (q_len Try.underlying22 rfl) ?_
  refine WL.quiet (d := 7) rfl rfl rfl (q_eql rfl rfl) ?_
  refine WL.nil ?_
  refine WX.then ?_
  refine WC.cond rfl (fun hb_1574 => ?_) (fun hb_1574 => ?_)
  · replace h := ite_t h hb_1574
    refine WC.seq ?_
    refine WC.region ?_
    refine WL.quiet (d := 4) rfl rfl rfl (q_assign rfl) ?_
    refine WL.nil ?_
    refine WX.then ?_
    refine WC.ret ?_
    refine WX.thenRet ?_
    obtain rfl := Option.some.inj h
    refine WX.bpRet Try.results39 (.tmp rfl .nil) (fun w hw => ?_)
    exact ⟨ret1 rfl, hw.sub .nil⟩
  · replace h := ite_f h hb_1574
    refine WC.skip ?_
    refine WX.then ?_
    refine WC.seq ?_
    obtain ⟨c_1575, h⟩ := chk_elim h
    obtain ⟨c_1576, h⟩ := chk_elim h
    refine WC.region ?_
    refine WL.quiet (d := 8) rfl rfl rfl (q_move rfl) ?_
    refine WL.quiet (d := 9) rfl rfl rfl (q_move rfl) ?_
    refine WL.quiet (d := 10) rfl rfl rfl (q_move rfl) ?_
    refine WL.quiet (d := 11) rfl rfl rfl (q_len Try.underlying22 rfl) ?_
    refine WL.quiet (d := 12) rfl rfl rfl (q_rem rfl rfl c_1575 rfl) ?_
    refine WL.znth (dd := 13) rfl rfl (Z := Z) (Pr := (fun r x => r = e3 x)) elT_22 rfl rfl hs_1558 c_1576 ?_
    rintro A_1581 r_1582 hA_1583 hl_1584 rfl
    refine WL.quiet (d := 14) rfl rfl rfl (q_load1 oneT_3 rfl (rd_z hz.pv hA_1583 rfl)) ?_
    refine WL.quiet (d := 4) rfl rfl rfl (q_assign rfl) ?_
    refine WL.nil ?_
    refine WX.then ?_
    refine WC.ret ?_
    obtain rfl := Option.some.inj h
    refine WX.bpRet Try.results39 (.tmp rfl .nil) (fun w hw => ?_)
    exact ⟨ret1 rfl, hw.sub .nil⟩
def m_timebase_plan_reads_L4 (clocks_1194 : List Int) (v_7338 : Int) (p_1178 : Stimebase_plan) (round_1198 : Int) (k_7806 : (List (List Int)) → Option (List (List Int))) : Nat → (List (List Int)) → Int → Option (List (List Int))
  | 0, _, _ => none
  | n_7903 + 1, out_7898, v_7901 => if decide (v_7901 < ((clocks_1194.length : Nat) : Int)) then chk ((0 : Int) ≤ v_7901 ∧ v_7901 < ((clocks_1194.length : Nat) : Int)) (jp1 (fun (c_7965 : Int) => chk ((0 : Int) ≤ v_7338 ∧ v_7338 < ((out_7898.length : Nat) : Int)) (chk (((((nth out_7898 v_7338) ++ ([c_7965] : List Int)).length : Nat) : Int) * 8 ≤ 140737488355328 ∧ ((((nth out_7898 v_7338) ++ ([c_7965] : List Int)).length : Nat) : Int) ≤ 4611686018427387904) (m_timebase_plan_reads_L4 clocks_1194 v_7338 p_1178 round_1198 k_7806 n_7903 (out_7898.set (v_7338 : Int).toNat ((nth out_7898 v_7338) ++ ([c_7965] : List Int))) (i64 (v_7901 + 1))))) fun k_7966 => if decide (v_7338 = v_7901) then k_7966 (nth clocks_1194 v_7901) else (m_timebase_plan_correct p_1178 v_7901).bind fun x_7969 => if x_7969 then (m_timebase_cyclic p_1178.fSetup.fErrs (i64 ((i64 ((i64 ((i64 (round_1198 * ((clocks_1194.length : Nat) : Int))) + v_7338)) * ((clocks_1194.length : Nat) : Int))) + v_7901))).bind fun x_7972 => k_7966 (i64 ((nth clocks_1194 v_7901) + x_7972)) else (m_timebase_cyclic p_1178.fSetup.fLies (i64 ((i64 ((i64 ((i64 (round_1198 * ((clocks_1194.length : Nat) : Int))) + v_7338)) * ((clocks_1194.length : Nat) : Int))) + v_7901))).bind fun x_7974 => k_7966 (i64 ((nth clocks_1194 v_7901) + x_7974))) else k_7806 out_7898
theorem m_timebase_plan_reads_L4_fuel {n : Nat} {clocks_1194 : List Int} {v_7338 : Int} {p_1178 : Stimebase_plan} {round_1198 : Int} {k_7806 : (List (List Int)) → Option (List (List Int))} {out_7898 : List (List Int)} {v_7901 : Int} {r : List (List Int)} (h : m_timebase_plan_reads_L4 clocks_1194 v_7338 p_1178 round_1198 k_7806 n out_7898 v_7901 = some r) : ∃ m, n = m + 1 := by
  cases n with
  | zero => cases h
  | succ m => exact ⟨m, rfl⟩

def m_timebase_plan_reads_L3 (clocks_1194 : List Int) (p_1178 : Stimebase_plan) (round_1198 : Int) (k_6680 : (List (List Int)) → Option (List (List Int))) : Nat → (List (List Int)) → Int → Option (List (List Int))
  | 0, _, _ => none
  | n_7340 + 1, out_7335, v_7338 => if decide (v_7338 < ((clocks_1194.length : Nat) : Int)) then jp1 (fun (out_7798 : List (List Int)) => m_timebase_plan_reads_L3 clocks_1194 p_1178 round_1198 k_6680 n_7340 out_7798 (i64 (v_7338 + 1))) fun k_7801 => jp1 (fun (out_7803 : List (List Int)) => k_7801 out_7803) fun k_7806 => m_timebase_plan_reads_L4 clocks_1194 v_7338 p_1178 round_1198 k_7806 FUEL out_7335 0 else k_6680 out_7335
theorem m_timebase_plan_reads_L3_fuel {n : Nat} {clocks_1194 : List Int} {p_1178 : Stimebase_plan} {round_1198 : Int} {k_6680 : (List (List Int)) → Option (List (List Int))} {out_7335 : List (List Int)} {v_7338 : Int} {r : List (List Int)} (h : m_timebase_plan_reads_L3 clocks_1194 p_1178 round_1198 k_6680 n out_7335 v_7338 = some r) : ∃ m, n = m + 1 := by
  cases n with
  | zero => cases h
  | succ m => exact ⟨m, rfl⟩

/-- (timebase.plan).reads -/
def m_timebase_plan_reads (p_1178 : Stimebase_plan) (clocks_1194 : List Int) (round_1198 : Int) : Option (List (List Int)) :=
  chk ((0 : Int) ≤ ((clocks_1194.length : Nat) : Int) ∧ (((clocks_1194.length : Nat) : Int) : Int) ≤ ((clocks_1194.length : Nat) : Int) ∧ (((clocks_1194.length : Nat) : Int) : Int) * 24 ≤ 140737488355328 ∧ (((clocks_1194.length : Nat) : Int) : Int) ≤ 4611686018427387904) (jp1 (fun (out_6677 : List (List Int)) => some out_6677) fun k_6680 => m_timebase_plan_reads_L3 clocks_1194 p_1178 round_1198 k_6680 FUEL (List.replicate (((clocks_1194.length : Nat) : Int) : Int).toNat ([] : List Int)) 0)

set_option maxRecDepth 20000 in
theorem w_timebase_plan_reads (Z : Zp)  (ao_1179 : Option Addr) (cap_1180 : Nat) (ao_1182 : Option Addr) (cap_1183 : Nat) (ao_1185 : Option Addr) (cap_1186 : Nat) (ao_1188 : Option Addr) (cap_1189 : Nat) (ao_1191 : Option Addr) (cap_1192 : Nat) (ao_1195 : Option Addr) (cap_1196 : Nat) (p_1178 : Stimebase_plan) (clocks_1194 : List Int) (round_1198 : Int) (r : List (List Int)) (w₀ : World) (hz : PZ [] w₀ Z)
    (hs_1181 : ZS Z 1 (fun r x => r = e3 x) ao_1179 cap_1180 p_1178.fSetup.fStart)
    (hs_1184 : ZS Z 1 (fun r x => r = e3 x) ao_1182 cap_1183 p_1178.fSetup.fDrift)
    (hs_1187 : ZS Z 1 (fun r x => r = e3 x) ao_1185 cap_1186 p_1178.fSetup.fFaulty)
    (hs_1190 : ZS Z 1 (fun r x => r = e3 x) ao_1188 cap_1189 p_1178.fSetup.fErrs)
    (hs_1193 : ZS Z 1 (fun r x => r = e3 x) ao_1191 cap_1192 p_1178.fSetup.fLies)
    (hs_1197 : ZS Z 1 (fun r x => r = e3 x) ao_1195 cap_1196 clocks_1194)
    (h : m_timebase_plan_reads p_1178 clocks_1194 round_1198 = some r) :
    Calls Try.prog 30 #[(.agg #[(.slice ao_1179 p_1178.fSetup.fStart.length cap_1180), (.slice ao_1182 p_1178.fSetup.fDrift.length cap_1183), (.slice ao_1185 p_1178.fSetup.fFaulty.length cap_1186), (.int .i64 p_1178.fSetup.fF), (.int .i64 p_1178.fSetup.fE), (.slice ao_1188 p_1178.fSetup.fErrs.length cap_1189), (.slice ao_1191 p_1178.fSetup.fLies.length cap_1192)]), (.slice ao_1195 clocks_1194.length cap_1196), (.int .i64 round_1198)] w₀ fun e w' => ∃ ao_4749 : Option Addr, ∃ cap_4750 : Nat, ∃ m_4751 : MG Int, e = .returned (.slice ao_4749 r.length cap_4750) ∧ (m_4751.map (·.2) = r) ∧ Hp [] w₀ w' [mat 3 1 e3 m_4751, row (.slice ao_4749 r.length cap_4750) 22 1 (m_4751.flatMap em)] := by
  unfold m_timebase_plan_reads at h
  refine Calls.ofWC (vs := [(.agg #[(.slice ao_1179 p_1178.fSetup.fStart.length cap_1180), (.slice ao_1182 p_1178.fSetup.fDrift.length cap_1183), (.slice ao_1185 p_1178.fSetup.fFaulty.length cap_1186), (.int .i64 p_1178.fSetup.fF), (.int .i64 p_1178.fSetup.fE), (.slice ao_1188 p_1178.fSetup.fErrs.length cap_1189), (.slice ao_1191 p_1178.fSetup.fLies.length cap_1192)]), (.slice ao_1195 clocks_1194.length cap_1196), (.int .i64 round_1198)]) (pre := []) (env := [(0, (.agg #[(.slice ao_1179 p_1178.fSetup.fStart.length cap_1180), (.slice ao_1182 p_1178.fSetup.fDrift.length cap_1183), (.slice ao_1185 p_1178.fSetup.fFaulty.length cap_1186), (.int .i64 p_1178.fSetup.fF), (.int .i64 p_1178.fSetup.fE), (.slice ao_1188 p_1178.fSetup.fErrs.length cap_1189), (.slice ao_1191 p_1178.fSetup.fLies.length cap_1192)])), (1, (.slice ao_1195 clocks_1194.length cap_1196)), (2, (.int .i64 round_1198))]) Try.func30 rfl Try.ntmps30 rfl (Hp.nil w₀ _) rfl ?_
  refine WC.seq ?_
  refine WC.region ?_
  refine WL.new (dd := 3) rfl rfl rfl (e_box (cs := [(.slice ao_1179 p_1178.fSetup.fStart.length cap_1180), (.slice ao_1182 p_1178.fSetup.fDrift.length cap_1183), (.slice ao_1185 p_1178.fSetup.fFaulty.length cap_1186), (.int .i64 p_1178.fSetup.fF), (.int .i64 p_1178.fSetup.fE), (.slice ao_1188 p_1178.fSetup.fErrs.length cap_1189), (.slice ao_1191 p_1178.fSetup.fLies.length cap_1192)]) rfl rfl) ?_
  intro b_4754 _
  refine WL.quiet (d := 6) rfl rfl rfl (q_assign rfl) ?_
  refine WL.nil ?_
  refine WX.then ?_
  refine WC.seq ?_
  refine WC.region ?_
  refine WL.quiet (d := 13) rfl rfl rfl (q_move rfl) ?_
  refine WL.quiet (d := 14) rfl rfl rfl (q_len Try.underlying22 rfl) ?_
  refine WL.quiet (d := 7) rfl rfl rfl (q_assign rfl) ?_
  refine WL.nil ?_
  refine WX.then ?_
  refine WC.seq ?_
  obtain ⟨c_4755, h⟩ := chk_elim h
  refine WC.region ?_
  refine WL.quiet (d := 15) rfl rfl rfl (q_move rfl) ?_
  refine WL.new (dd := 16) rfl rfl rfl (e_makeSlice (r := [(.slice none 0 0)]) (z0 := ([] : List Int)) elT_30 zeroT_22 rfl rfl rfl rfl c_4755) ?_
  intro b_4757 _
  refine WL.rowEqD .here (cs' := (List.replicate (((clocks_1194.length : Nat) : Int) : Int).toNat (((none : Option Addr), (0 : Nat)), ([] : List Int))).flatMap em) (mat_rep _) ?_
  refine WL.matNil 3 1 (((clocks_1194.length : Nat) : Int) : Int).toNat e3 ?_
  refine WL.quiet (d := 8) rfl rfl rfl (q_assign rfl) ?_
  refine WL.nil ?_
  refine WX.then ?_
  obtain ⟨k_6680, hk_6681, h⟩ := jp1_elim h
  refine WC.seqMid2 (fun (out_6677 : List (List Int)) (m_6678 : MG Int) => (k_6680 out_6677 = some r) ∧ (m_6678.map (·.2) = out_6677)) (fun (out_6677 : List (List Int)) (m_6678 : MG Int) => [(8, (.slice (some ⟨b_4757, 0, none⟩) out_6677.length ((((clocks_1194.length : Nat) : Int) : Int).toNat)))]) (fun (out_6677 : List (List Int)) (m_6678 : MG Int) => [mat 3 1 e3 m_6678, row (.slice (some ⟨b_4757, 0, none⟩) out_6677.length ((((clocks_1194.length : Nat) : Int) : Int).toNat)) 22 1 (m_6678.flatMap em)]) ?_ ?_
  · skip
    refine WC.seq ?_
    refine WC.region ?_
    refine WL.quiet (d := 17) rfl rfl rfl (q_move rfl) ?_
    refine WL.quiet (d := 18) rfl rfl rfl (q_move rfl) ?_
    refine WL.nil ?_
    refine WX.then ?_
    refine WC.block ?_
    refine WC.loop4 (fun (n_7339 : Nat) (out_7335 : List (List Int)) (v_7338 : Int) (m_7336 : MG Int) => (m_timebase_plan_reads_L3 clocks_1194 p_1178 round_1198 k_6680 n_7339 out_7335 v_7338 = some r) ∧ (m_7336.map (·.2) = out_7335)) (fun (n_7339 : Nat) (out_7335 : List (List Int)) (v_7338 : Int) (m_7336 : MG Int) => [(1, (.slice ao_1195 clocks_1194.length cap_1196)), (2, (.int .i64 round_1198)), (3, (.pointer (some ⟨b_4754, 0, none⟩))), (7, (.int .i64 ((clocks_1194.length : Nat) : Int))), (8, (.slice (some ⟨b_4757, 0, none⟩) out_7335.length ((((clocks_1194.length : Nat) : Int) : Int).toNat))), (17, (.int .i64 ((clocks_1194.length : Nat) : Int))), (18, (.int .i64 v_7338))]) (fun (n_7339 : Nat) (out_7335 : List (List Int)) (v_7338 : Int) (m_7336 : MG Int) => [mat 3 1 e3 m_7336, row (.slice (some ⟨b_4757, 0, none⟩) out_7335.length ((((clocks_1194.length : Nat) : Int) : Int).toNat)) 22 1 (m_7336.flatMap em), stb b_4754 55 [(.slice ao_1179 p_1178.fSetup.fStart.length cap_1180), (.slice ao_1182 p_1178.fSetup.fDrift.length cap_1183), (.slice ao_1185 p_1178.fSetup.fFaulty.length cap_1186), (.int .i64 p_1178.fSetup.fF), (.int .i64 p_1178.fSetup.fE), (.slice ao_1188 p_1178.fSetup.fErrs.length cap_1189), (.slice ao_1191 p_1178.fSetup.fLies.length cap_1192)]]) (fun (n_7339 : Nat) (out_7335 : List (List Int)) (v_7338 : Int) (m_7336 : MG Int) => n_7339) ⟨FUEL, (List.replicate (((clocks_1194.length : Nat) : Int) : Int).toNat ([] : List Int)), 0, (List.replicate (((clocks_1194.length : Nat) : Int) : Int).toNat (((none : Option Addr), (0 : Nat)), ([] : List Int)))⟩ ⟨h, (mat_repl _)⟩ (.cons rfl (.cons rfl (.cons rfl (.cons rfl (.cons rfl (.cons rfl (.cons rfl .nil))))))) (.cons .here (.cons .here (.cons .here .nil))) ?_
    rintro n_7339 out_7335 v_7338 m_7336 ⟨h, hm_7337⟩
    obtain ⟨n_7340, rfl⟩ := m_timebase_plan_reads_L3_fuel h
    rw [m_timebase_plan_reads_L3] at h
    refine WC.seq ?_
    refine WC.region ?_
    refine WL.quiet (d := 19) rfl rfl rfl (q_lss rfl rfl) ?_
    refine WL.nil ?_
    refine WX.then ?_
    refine WC.seq ?_
    refine WC.cond rfl (fun hb_7342 => ?_) (fun hb_7342 => ?_)
    · replace h := ite_t h hb_7342
      refine WC.skip ?_
      refine WX.then ?_
      obtain ⟨k_7801, hk_7802, h⟩ := jp1_elim h
      refine WC.seqMid2 (fun (out_7798 : List (List Int)) (m_7799 : MG Int) => (k_7801 out_7798 = some r) ∧ (m_7799.map (·.2) = out_7798)) (fun (out_7798 : List (List Int)) (m_7799 : MG Int) => [(1, (.slice ao_1195 clocks_1194.length cap_1196)), (2, (.int .i64 round_1198)), (3, (.pointer (some ⟨b_4754, 0, none⟩))), (7, (.int .i64 ((clocks_1194.length : Nat) : Int))), (8, (.slice (some ⟨b_4757, 0, none⟩) out_7798.length ((((clocks_1194.length : Nat) : Int) : Int).toNat))), (17, (.int .i64 ((clocks_1194.length : Nat) : Int))), (18, (.int .i64 v_7338))]) (fun (out_7798 : List (List Int)) (m_7799 : MG Int) => [mat 3 1 e3 m_7799, row (.slice (some ⟨b_4757, 0, none⟩) out_7798.length ((((clocks_1194.length : Nat) : Int) : Int).toNat)) 22 1 (m_7799.flatMap em), stb b_4754 55 [(.slice ao_1179 p_1178.fSetup.fStart.length cap_1180), (.slice ao_1182 p_1178.fSetup.fDrift.length cap_1183), (.slice ao_1185 p_1178.fSetup.fFaulty.length cap_1186), (.int .i64 p_1178.fSetup.fF), (.int .i64 p_1178.fSetup.fE), (.slice ao_1188 p_1178.fSetup.fErrs.length cap_1189), (.slice ao_1191 p_1178.fSetup.fLies.length cap_1192)]]) ?_ ?_
      · skip
        refine WC.block ?_
        refine WC.seq ?_
        refine WC.region ?_
        refine WL.quiet (d := 20) rfl rfl rfl (q_move rfl) ?_
        refine WL.quiet (d := 9) rfl rfl rfl (q_assign rfl) ?_
        refine WL.nil ?_
        refine WX.then ?_
        refine WC.seq ?_
        refine WC.region ?_
        refine WL.quiet (d := 21) rfl rfl rfl (q_move rfl) ?_
        refine WL.quiet (d := 22) rfl rfl rfl (q_len Try.underlying22 rfl) ?_
        refine WL.quiet (d := 23) rfl rfl rfl (q_move rfl) ?_
        refine WL.nil ?_
        refine WX.then ?_
        obtain ⟨k_7806, hk_7807, h⟩ := jp1_elim h
        refine WC.mid2 (fun (out_7803 : List (List Int)) (m_7804 : MG Int) => (k_7806 out_7803 = some r) ∧ (m_7804.map (·.2) = out_7803)) (fun (out_7803 : List (List Int)) (m_7804 : MG Int) => [(1, (.slice ao_1195 clocks_1194.length cap_1196)), (2, (.int .i64 round_1198)), (3, (.pointer (some ⟨b_4754, 0, none⟩))), (7, (.int .i64 ((clocks_1194.length : Nat) : Int))), (8, (.slice (some ⟨b_4757, 0, none⟩) out_7803.length ((((clocks_1194.length : Nat) : Int) : Int).toNat))), (17, (.int .i64 ((clocks_1194.length : Nat) : Int))), (18, (.int .i64 v_7338))]) (fun (out_7803 : List (List Int)) (m_7804 : MG Int) => [mat 3 1 e3 m_7804, row (.slice (some ⟨b_4757, 0, none⟩) out_7803.length ((((clocks_1194.length : Nat) : Int) : Int).toNat)) 22 1 (m_7804.flatMap em), stb b_4754 55 [(.slice ao_1179 p_1178.fSetup.fStart.length cap_1180), (.slice ao_1182 p_1178.fSetup.fDrift.length cap_1183), (.slice ao_1185 p_1178.fSetup.fFaulty.length cap_1186), (.int .i64 p_1178.fSetup.fF), (.int .i64 p_1178.fSetup.fE), (.slice ao_1188 p_1178.fSetup.fErrs.length cap_1189), (.slice ao_1191 p_1178.fSetup.fLies.length cap_1192)]]) ?_ ?_
        · skip
          refine WC.block ?_
          refine WC.loop4 (fun (n_7902 : Nat) (out_7898 : List (List Int)) (v_7901 : Int) (m_7899 : MG Int) => (m_timebase_plan_reads_L4 clocks_1194 v_7338 p_1178 round_1198 k_7806 n_7902 out_7898 v_7901 = some r) ∧ (m_7899.map (·.2) = out_7898)) (fun (n_7902 : Nat) (out_7898 : List (List Int)) (v_7901 : Int) (m_7899 : MG Int) => [(1, (.slice ao_1195 clocks_1194.length cap_1196)), (2, (.int .i64 round_1198)), (3, (.pointer (some ⟨b_4754, 0, none⟩))), (7, (.int .i64 ((clocks_1194.length : Nat) : Int))), (8, (.slice (some ⟨b_4757, 0, none⟩) out_7898.length ((((clocks_1194.length : Nat) : Int) : Int).toNat))), (9, (.int .i64 v_7338)), (17, (.int .i64 ((clocks_1194.length : Nat) : Int))), (18, (.int .i64 v_7338)), (21, (.slice ao_1195 clocks_1194.length cap_1196)), (22, (.int .i64 ((clocks_1194.length : Nat) : Int))), (23, (.int .i64 v_7901))]) (fun (n_7902 : Nat) (out_7898 : List (List Int)) (v_7901 : Int) (m_7899 : MG Int) => [mat 3 1 e3 m_7899, row (.slice (some ⟨b_4757, 0, none⟩) out_7898.length ((((clocks_1194.length : Nat) : Int) : Int).toNat)) 22 1 (m_7899.flatMap em), stb b_4754 55 [(.slice ao_1179 p_1178.fSetup.fStart.length cap_1180), (.slice ao_1182 p_1178.fSetup.fDrift.length cap_1183), (.slice ao_1185 p_1178.fSetup.fFaulty.length cap_1186), (.int .i64 p_1178.fSetup.fF), (.int .i64 p_1178.fSetup.fE), (.slice ao_1188 p_1178.fSetup.fErrs.length cap_1189), (.slice ao_1191 p_1178.fSetup.fLies.length cap_1192)]]) (fun (n_7902 : Nat) (out_7898 : List (List Int)) (v_7901 : Int) (m_7899 : MG Int) => n_7902) ⟨FUEL, out_7335, 0, m_7336⟩ ⟨h, hm_7337⟩ (.cons rfl (.cons rfl (.cons rfl (.cons rfl (.cons rfl (.cons rfl (.cons rfl (.cons rfl (.cons rfl (.cons rfl (.cons rfl .nil))))))))))) (.cons .here (.cons .here (.cons .here .nil))) ?_
          rintro n_7902 out_7898 v_7901 m_7899 ⟨h, hm_7900⟩
          obtain ⟨n_7903, rfl⟩ := m_timebase_plan_reads_L4_fuel h
          rw [m_timebase_plan_reads_L4] at h
          refine WC.seq ?_
          refine WC.region ?_
          refine WL.quiet (d := 24) rfl rfl rfl (q_lss rfl rfl) ?_
          refine WL.nil ?_
          refine WX.then ?_
          refine WC.seq ?_
          refine WC.cond rfl (fun hb_7905 => ?_) (fun hb_7905 => ?_)
          · replace h := ite_t h hb_7905
            refine WC.skip ?_
            refine WX.then ?_
            refine WC.seq ?_
            refine WC.block ?_
            refine WC.seq ?_
            obtain ⟨c_7948, h⟩ := chk_elim h
            refine WC.region ?_
            refine WL.quiet (d := 25) rfl rfl rfl (q_move rfl) ?_
            refine WL.znth (dd := 26) rfl rfl (Z := Z) (Pr := (fun r x => r = e3 x)) elT_22 rfl rfl hs_1197 c_7948 ?_
            rintro A_7953 r_7954 hA_7955 hl_7956 rfl
            refine WL.quiet (d := 27) rfl rfl rfl (q_load1 oneT_3 rfl (rd_z hz.pv hA_7955 rfl)) ?_
            refine WL.quiet (d := 10) rfl rfl rfl (q_assign rfl) ?_
            refine WL.quiet (d := 11) rfl rfl rfl (q_assign rfl) ?_
            refine WL.nil ?_
            refine WX.then ?_
            refine WC.seq ?_
            refine WC.region ?_
            refine WL.quiet (d := 28) rfl rfl rfl (q_move rfl) ?_
            refine WL.quiet (d := 29) rfl rfl rfl (q_move rfl) ?_
            refine WL.quiet (d := 30) rfl rfl rfl (q_mul rfl rfl rfl) ?_
            refine WL.quiet (d := 31) rfl rfl rfl (q_move rfl) ?_
            refine WL.quiet (d := 32) rfl rfl rfl (q_add rfl rfl rfl) ?_
            refine WL.quiet (d := 33) rfl rfl rfl (q_move rfl) ?_
            refine WL.quiet (d := 34) rfl rfl rfl (q_mul rfl rfl rfl) ?_
            refine WL.quiet (d := 35) rfl rfl rfl (q_move rfl) ?_
            refine WL.quiet (d := 36) rfl rfl rfl (q_add rfl rfl rfl) ?_
            refine WL.quiet (d := 12) rfl rfl rfl (q_assign rfl) ?_
            refine WL.nil ?_
            refine WX.then ?_
            obtain ⟨k_7966, hk_7967, h⟩ := jp1_elim h
            refine WC.seqMid1 (fun (c_7965 : Int) => (k_7966 c_7965 = some r)) (fun (c_7965 : Int) => [(1, (.slice ao_1195 clocks_1194.length cap_1196)), (2, (.int .i64 round_1198)), (3, (.pointer (some ⟨b_4754, 0, none⟩))), (7, (.int .i64 ((clocks_1194.length : Nat) : Int))), (8, (.slice (some ⟨b_4757, 0, none⟩) out_7898.length ((((clocks_1194.length : Nat) : Int) : Int).toNat))), (9, (.int .i64 v_7338)), (11, (.int .i64 c_7965)), (17, (.int .i64 ((clocks_1194.length : Nat) : Int))), (18, (.int .i64 v_7338)), (21, (.slice ao_1195 clocks_1194.length cap_1196)), (22, (.int .i64 ((clocks_1194.length : Nat) : Int))), (23, (.int .i64 v_7901))]) (fun (c_7965 : Int) => [row (.slice (some ⟨b_4757, 0, none⟩) out_7898.length ((((clocks_1194.length : Nat) : Int) : Int).toNat)) 22 1 (m_7899.flatMap em), mat 3 1 e3 m_7899, stb b_4754 55 [(.slice ao_1179 p_1178.fSetup.fStart.length cap_1180), (.slice ao_1182 p_1178.fSetup.fDrift.length cap_1183), (.slice ao_1185 p_1178.fSetup.fFaulty.length cap_1186), (.int .i64 p_1178.fSetup.fF), (.int .i64 p_1178.fSetup.fE), (.slice ao_1188 p_1178.fSetup.fErrs.length cap_1189), (.slice ao_1191 p_1178.fSetup.fLies.length cap_1192)]]) ?_ ?_
            · skip
              refine WC.block ?_
              refine WC.seq ?_
              refine WC.region ?_
              refine WL.quiet (d := 45) rfl rfl rfl (q_move rfl) ?_
              refine WL.quiet (d := 46) rfl rfl rfl (q_move rfl) ?_
              refine WL.quiet (d := 47) rfl rfl rfl (q_eql rfl rfl) ?_
              refine WL.quiet (d := 44) rfl rfl rfl (q_assign rfl) ?_
              refine WL.nil ?_
              refine WX.then ?_
              refine WC.cond rfl (fun hb_7968 => ?_) (fun hb_7968 => ?_)
              · replace h := ite_t h hb_7968
                refine WC.skip ?_
                refine WX.blockNormal ?_
                exact WX.mid (G := Int) (nth clocks_1194 v_7901) h (.cons rfl (.cons rfl (.cons rfl (.cons rfl (.cons rfl (.cons rfl (.cons rfl (.cons rfl (.cons rfl (.cons rfl (.cons rfl (.cons rfl .nil)))))))))))) (.cons (.there .here) (.cons .here (.cons .here .nil)))
              · replace h := ite_f h hb_7968
                refine WC.seq ?_
                obtain ⟨x_7969, hx_7970, h⟩ := bind_elim h
                refine WC.region ?_
                refine WL.quiet (d := 49) rfl rfl rfl (q_loadA (cs := [(.slice ao_1179 p_1178.fSetup.fStart.length cap_1180), (.slice ao_1182 p_1178.fSetup.fDrift.length cap_1183), (.slice ao_1185 p_1178.fSetup.fFaulty.length cap_1186), (.int .i64 p_1178.fSetup.fF), (.int .i64 p_1178.fSetup.fE), (.slice ao_1188 p_1178.fSetup.fErrs.length cap_1189), (.slice ao_1191 p_1178.fSetup.fLies.length cap_1192)]) aggT_55 rfl rfl (rd_all (.there (.there .here)))) ?_
                refine WL.quiet (d := 50) rfl rfl rfl (q_move rfl) ?_
                refine WL.callD (dd := 51) rfl rfl rfl (run_call (l := [.tmp 49, .tmp 50]) Try.call38 (.cons rfl (.cons rfl .nil))) (.nil : Sel [mat 3 1 e3 m_7899, row (.slice (some ⟨b_4757, 0, none⟩) out_7898.length ((((clocks_1194.length : Nat) : Int) : Int).toNat)) 22 1 (m_7899.flatMap em), stb b_4754 55 [(.slice ao_1179 p_1178.fSetup.fStart.length cap_1180), (.slice ao_1182 p_1178.fSetup.fDrift.length cap_1183), (.slice ao_1185 p_1178.fSetup.fFaulty.length cap_1186), (.int .i64 p_1178.fSetup.fF), (.int .i64 p_1178.fSetup.fE), (.slice ao_1188 p_1178.fSetup.fErrs.length cap_1189), (.slice ao_1191 p_1178.fSetup.fLies.length cap_1192)]] [] [mat 3 1 e3 m_7899, row (.slice (some ⟨b_4757, 0, none⟩) out_7898.length ((((clocks_1194.length : Nat) : Int) : Int).toNat)) 22 1 (m_7899.flatMap em), stb b_4754 55 [(.slice ao_1179 p_1178.fSetup.fStart.length cap_1180), (.slice ao_1182 p_1178.fSetup.fDrift.length cap_1183), (.slice ao_1185 p_1178.fSetup.fFaulty.length cap_1186), (.int .i64 p_1178.fSetup.fF), (.int .i64 p_1178.fSetup.fE), (.slice ao_1188 p_1178.fSetup.fErrs.length cap_1189), (.slice ao_1191 p_1178.fSetup.fLies.length cap_1192)]]) (fun w hw => by have pz := (hz.call hw (.nil : Sel [mat 3 1 e3 m_7899, row (.slice (some ⟨b_4757, 0, none⟩) out_7898.length ((((clocks_1194.length : Nat) : Int) : Int).toNat)) 22 1 (m_7899.flatMap em), stb b_4754 55 [(.slice ao_1179 p_1178.fSetup.fStart.length cap_1180), (.slice ao_1182 p_1178.fSetup.fDrift.length cap_1183), (.slice ao_1185 p_1178.fSetup.fFaulty.length cap_1186), (.int .i64 p_1178.fSetup.fF), (.int .i64 p_1178.fSetup.fE), (.slice ao_1188 p_1178.fSetup.fErrs.length cap_1189), (.slice ao_1191 p_1178.fSetup.fLies.length cap_1192)]] [] [mat 3 1 e3 m_7899, row (.slice (some ⟨b_4757, 0, none⟩) out_7898.length ((((clocks_1194.length : Nat) : Int) : Int).toNat)) 22 1 (m_7899.flatMap em), stb b_4754 55 [(.slice ao_1179 p_1178.fSetup.fStart.length cap_1180), (.slice ao_1182 p_1178.fSetup.fDrift.length cap_1183), (.slice ao_1185 p_1178.fSetup.fFaulty.length cap_1186), (.int .i64 p_1178.fSetup.fF), (.int .i64 p_1178.fSetup.fE), (.slice ao_1188 p_1178.fSetup.fErrs.length cap_1189), (.slice ao_1191 p_1178.fSetup.fLies.length cap_1192)]])); exact w_timebase_plan_correct (Z := _) (ao_1271 := ao_1179) (cap_1272 := cap_1180) (ao_1274 := ao_1182) (cap_1275 := cap_1183) (ao_1277 := ao_1185) (cap_1278 := cap_1186) (ao_1280 := ao_1188) (cap_1281 := cap_1189) (ao_1283 := ao_1191) (cap_1284 := cap_1192) (p_1270 := p_1178) (i_1286 := v_7901) (r := x_7969) w pz hs_1181 hs_1184 hs_1187 hs_1190 hs_1193 hx_7970) ?_
                refine WL.quiet (d := 48) rfl rfl rfl (q_assign rfl) ?_
                refine WL.nil ?_
                refine WX.then ?_
                refine WC.cond rfl (fun hb_7971 => ?_) (fun hb_7971 => ?_)
                · replace h := ite_t h hb_7971
                  obtain ⟨x_7972, hx_7973, h⟩ := bind_elim h
                  refine WC.region ?_
                  refine WL.quiet (d := 52) rfl rfl rfl (q_move rfl) ?_
                  refine WL.quiet (d := 53) rfl rfl rfl (q_fieldAddr fo_55_0 rfl rfl) ?_
                  refine WL.quiet (d := 54) rfl rfl rfl (q_fieldAddr fo_24_5 rfl rfl) ?_
                  refine WL.quiet (d := 55) rfl rfl rfl (q_load1 oneT_22 rfl (rd_stb (.there (.there .here)) rfl)) ?_
                  refine WL.quiet (d := 56) rfl rfl rfl (q_move rfl) ?_
                  refine WL.callD (dd := 57) rfl rfl rfl (run_call (l := [.tmp 55, .tmp 56]) Try.call39 (.cons rfl (.cons rfl .nil))) (.nil : Sel [mat 3 1 e3 m_7899, row (.slice (some ⟨b_4757, 0, none⟩) out_7898.length ((((clocks_1194.length : Nat) : Int) : Int).toNat)) 22 1 (m_7899.flatMap em), stb b_4754 55 [(.slice ao_1179 p_1178.fSetup.fStart.length cap_1180), (.slice ao_1182 p_1178.fSetup.fDrift.length cap_1183), (.slice ao_1185 p_1178.fSetup.fFaulty.length cap_1186), (.int .i64 p_1178.fSetup.fF), (.int .i64 p_1178.fSetup.fE), (.slice ao_1188 p_1178.fSetup.fErrs.length cap_1189), (.slice ao_1191 p_1178.fSetup.fLies.length cap_1192)]] [] [mat 3 1 e3 m_7899, row (.slice (some ⟨b_4757, 0, none⟩) out_7898.length ((((clocks_1194.length : Nat) : Int) : Int).toNat)) 22 1 (m_7899.flatMap em), stb b_4754 55 [(.slice ao_1179 p_1178.fSetup.fStart.length cap_1180), (.slice ao_1182 p_1178.fSetup.fDrift.length cap_1183), (.slice ao_1185 p_1178.fSetup.fFaulty.length cap_1186), (.int .i64 p_1178.fSetup.fF), (.int .i64 p_1178.fSetup.fE), (.slice ao_1188 p_1178.fSetup.fErrs.length cap_1189), (.slice ao_1191 p_1178.fSetup.fLies.length cap_1192)]]) (fun w hw => by have pz := (hz.call hw (.nil : Sel [mat 3 1 e3 m_7899, row (.slice (some ⟨b_4757, 0, none⟩) out_7898.length ((((clocks_1194.length : Nat) : Int) : Int).toNat)) 22 1 (m_7899.flatMap em), stb b_4754 55 [(.slice ao_1179 p_1178.fSetup.fStart.length cap_1180), (.slice ao_1182 p_1178.fSetup.fDrift.length cap_1183), (.slice ao_1185 p_1178.fSetup.fFaulty.length cap_1186), (.int .i64 p_1178.fSetup.fF), (.int .i64 p_1178.fSetup.fE), (.slice ao_1188 p_1178.fSetup.fErrs.length cap_1189), (.slice ao_1191 p_1178.fSetup.fLies.length cap_1192)]] [] [mat 3 1 e3 m_7899, row (.slice (some ⟨b_4757, 0, none⟩) out_7898.length ((((clocks_1194.length : Nat) : Int) : Int).toNat)) 22 1 (m_7899.flatMap em), stb b_4754 55 [(.slice ao_1179 p_1178.fSetup.fStart.length cap_1180), (.slice ao_1182 p_1178.fSetup.fDrift.length cap_1183), (.slice ao_1185 p_1178.fSetup.fFaulty.length cap_1186), (.int .i64 p_1178.fSetup.fF), (.int .i64 p_1178.fSetup.fE), (.slice ao_1188 p_1178.fSetup.fErrs.length cap_1189), (.slice ao_1191 p_1178.fSetup.fLies.length cap_1192)]])); exact w_timebase_cyclic (Z := _) (ao_1556 := ao_1188) (cap_1557 := cap_1189) (l_1555 := p_1178.fSetup.fErrs) (k_1559 := (i64 ((i64 ((i64 ((i64 (round_1198 * ((clocks_1194.length : Nat) : Int))) + v_7338)) * ((clocks_1194.length : Nat) : Int))) + v_7901))) (r := x_7972) w pz hs_1190 hx_7973) ?_
                  refine WL.quiet (d := 58) rfl rfl rfl (q_add rfl rfl rfl) ?_
                  refine WL.quiet (d := 11) rfl rfl rfl (q_assign rfl) ?_
                  refine WL.nil ?_
                  refine WX.blockNormal ?_
                  exact WX.mid (G := Int) (i64 ((nth clocks_1194 v_7901) + x_7972)) h (.cons rfl (.cons rfl (.cons rfl (.cons rfl (.cons rfl (.cons rfl (.cons rfl (.cons rfl (.cons rfl (.cons rfl (.cons rfl (.cons rfl .nil)))))))))))) (.cons (.there .here) (.cons .here (.cons .here .nil)))
                · replace h := ite_f h hb_7971
                  obtain ⟨x_7974, hx_7975, h⟩ := bind_elim h
                  refine WC.region ?_
                  refine WL.quiet (d := 37) rfl rfl rfl (q_move rfl) ?_
                  refine WL.quiet (d := 38) rfl rfl rfl (q_fieldAddr fo_55_0 rfl rfl) ?_
                  refine WL.quiet (d := 39) rfl rfl rfl (q_fieldAddr fo_24_6 rfl rfl) ?_
                  refine WL.quiet (d := 40) rfl rfl rfl (q_load1 oneT_22 rfl (rd_stb (.there (.there .here)) rfl)) ?_
                  refine WL.quiet (d := 41) rfl rfl rfl (q_move rfl) ?_
                  refine WL.callD (dd := 42) rfl rfl rfl (run_call (l := [.tmp 40, .tmp 41]) Try.call39 (.cons rfl (.cons rfl .nil))) (.nil : Sel [mat 3 1 e3 m_7899, row (.slice (some ⟨b_4757, 0, none⟩) out_7898.length ((((clocks_1194.length : Nat) : Int) : Int).toNat)) 22 1 (m_7899.flatMap em), stb b_4754 55 [(.slice ao_1179 p_1178.fSetup.fStart.length cap_1180), (.slice ao_1182 p_1178.fSetup.fDrift.length cap_1183), (.slice ao_1185 p_1178.fSetup.fFaulty.length cap_1186), (.int .i64 p_1178.fSetup.fF), (.int .i64 p_1178.fSetup.fE), (.slice ao_1188 p_1178.fSetup.fErrs.length cap_1189), (.slice ao_1191 p_1178.fSetup.fLies.length cap_1192)]] [] [mat 3 1 e3 m_7899, row (.slice (some ⟨b_4757, 0, none⟩) out_7898.length ((((clocks_1194.length : Nat) : Int) : Int).toNat)) 22 1 (m_7899.flatMap em), stb b_4754 55 [(.slice ao_1179 p_1178.fSetup.fStart.length cap_1180), (.slice ao_1182 p_1178.fSetup.fDrift.length cap_1183), (.slice ao_1185 p_1178.fSetup.fFaulty.length cap_1186), (.int .i64 p_1178.fSetup.fF), (.int .i64 p_1178.fSetup.fE), (.slice ao_1188 p_1178.fSetup.fErrs.length cap_1189), (.slice ao_1191 p_1178.fSetup.fLies.length cap_1192)]]) (fun w hw => by have pz := (hz.call hw (.nil : Sel [mat 3 1 e3 m_7899, row (.slice (some ⟨b_4757, 0, none⟩) out_7898.length ((((clocks_1194.length : Nat) : Int) : Int).toNat)) 22 1 (m_7899.flatMap em), stb b_4754 55 [(.slice ao_1179 p_1178.fSetup.fStart.length cap_1180), (.slice ao_1182 p_1178.fSetup.fDrift.length cap_1183), (.slice ao_1185 p_1178.fSetup.fFaulty.length cap_1186), (.int .i64 p_1178.fSetup.fF), (.int .i64 p_1178.fSetup.fE), (.slice ao_1188 p_1178.fSetup.fErrs.length cap_1189), (.slice ao_1191 p_1178.fSetup.fLies.length cap_1192)]] [] [mat 3 1 e3 m_7899, row (.slice (some ⟨b_4757, 0, none⟩) out_7898.length ((((clocks_1194.length : Nat) : Int) : Int).toNat)) 22 1 (m_7899.flatMap em), stb b_4754 55 [(.slice ao_1179 p_1178.fSetup.fStart.length cap_1180), (.slice ao_1182 p_1178.fSetup.fDrift.length cap_1183), (.slice ao_1185 p_1178.fSetup.fFaulty.length cap_1186), (.int .i64 p_1178.fSetup.fF), (.int .i64 p_1178.fSetup.fE), (.slice ao_1188 p_1178.fSetup.fErrs.length cap_1189), (.slice ao_1191 p_1178.fSetup.fLies.length cap_1192)]])); exact w_timebase_cyclic (Z := _) (ao_1556 := ao_1191) (cap_1557 := cap_1192) (l_1555 := p_1178.fSetup.fLies) (k_1559 := (i64 ((i64 ((i64 ((i64 (round_1198 * ((clocks_1194.length : Nat) : Int))) + v_7338)) * ((clocks_1194.length : Nat) : Int))) + v_7901))) (r := x_7974) w pz hs_1193 hx_7975) ?_
                  refine WL.quiet (d := 43) rfl rfl rfl (q_add rfl rfl rfl) ?_
                  refine WL.quiet (d := 11) rfl rfl rfl (q_assign rfl) ?_
                  refine WL.nil ?_
                  refine WX.blockNormal ?_
                  exact WX.mid (G := Int) (i64 ((nth clocks_1194 v_7901) + x_7974)) h (.cons rfl (.cons rfl (.cons rfl (.cons rfl (.cons rfl (.cons rfl (.cons rfl (.cons rfl (.cons rfl (.cons rfl (.cons rfl (.cons rfl .nil)))))))))))) (.cons (.there .here) (.cons .here (.cons .here .nil)))
            · rintro c_7965 h
              replace h := (hk_7967 c_7965).symm.trans h
              obtain ⟨c_7976, h⟩ := chk_elim h
              obtain ⟨c_7981, h⟩ := chk_elim h
              refine WC.region ?_
              refine WL.quiet (d := 59) rfl rfl rfl (q_move rfl) ?_
              refine WL.quiet (d := 60) rfl rfl rfl (q_move rfl) ?_
              refine WL.quiet (d := 61) rfl rfl rfl (q_move rfl) ?_
              refine WL.quiet (d := 62) rfl rfl rfl (q_move rfl) ?_
              refine WL.quiet (d := 63) rfl rfl rfl (q_indexAddr elT_30 rfl rfl c_7976.1 c_7976.2 rowAdd) ?_
              obtain ⟨tl_7984, hd_7985⟩ := mat_rd hm_7900 c_7976
              refine WL.quiet (d := 64) rfl rfl rfl (q_load1 oneT_22 rfl (rd_row .here (drop_rd hd_7985 0 _ rfl))) ?_
              refine WL.quiet (d := 65) rfl rfl rfl (q_move rfl) ?_
              refine WL.new (dd := 66) rfl rfl rfl (e_buildSlice (cs := ([c_7965] : List Int).flatMap e3) elT_22 (Eos.parts (l := [.tmp 65]) (.cons rfl .nil) [0]) (fun _ => by kernel_rfl) rfl (by unfold maxLen; omega)) ?_
              intro b_7986 _
              refine WL.matOpen (.there (.there .here)) hm_7900 c_7976 ?_
              refine WL.eff (d := 67) rfl rfl rfl (e_appendF (enc := e3) (l1 := nth out_7898 v_7338) (l2 := ([c_7965] : List Int)) elT_22 rfl rfl .here (fun _ => rfl) rfl rfl (news_row (.there (.there .here))) (oc_flat e3_oc _) c_7981) ?_
              rintro ⟨ao_7988, cap_7989⟩ _
              refine WL.quiet (d := 68) rfl rfl rfl (q_indexAddr elT_30 rfl rfl c_7976.1 c_7976.2 rowAdd) ?_
              refine WL.eff0 rfl rfl (e_rowStore (vs := [(.slice ao_7988 (((nth out_7898 v_7338) ++ ([c_7965] : List Int)).length) cap_7989)]) (ds := (m_7899.set (v_7338 : Int).toNat ((ao_7988, cap_7989), (nth out_7898 v_7338) ++ ([c_7965] : List Int))).flatMap em) sizT_22 rfl rfl rfl rfl (oc_cons rfl oc_nil) (.there (.there (.there .here))) (flat_fit (enc := em) (l := m_7899) (sz := 1) (k := 0) (fun _ => rfl) (mat_c hm_7900 c_7976).1 (mat_c hm_7900 c_7976).2 (by decide)) (flat_put (enc := em) (l := m_7899) (sz := 1) (vs := [(.slice ao_7988 (((nth out_7898 v_7338) ++ ([c_7965] : List Int)).length) cap_7989)]) (y := ((ao_7988, cap_7989), (nth out_7898 v_7338) ++ ([c_7965] : List Int))) (k := 0) (fun _ => rfl) (mat_c hm_7900 c_7976).1 (mat_c hm_7900 c_7976).2 rfl (Nat.le_of_ble_eq_true rfl))) ?_
              refine WL.matClose (.there .here) (.there .here) hm_7900 c_7976 ?_
              refine WL.relen (.there .here) (u := (.slice (some ⟨b_4757, 0, none⟩) ((out_7898.set (v_7338 : Int).toNat ((nth out_7898 v_7338) ++ ([c_7965] : List Int))).length) ((((clocks_1194.length : Nat) : Int) : Int).toNat))) (slen (List.length_set).symm) ?_
              refine WL.repin (i := 8) rfl (u := (.slice (some ⟨b_4757, 0, none⟩) ((out_7898.set (v_7338 : Int).toNat ((nth out_7898 v_7338) ++ ([c_7965] : List Int))).length) ((((clocks_1194.length : Nat) : Int) : Int).toNat))) (slen (List.length_set).symm) ?_
              refine WL.nil ?_
              refine WX.blockNormal ?_
              refine WX.then ?_
              refine WC.region ?_
              refine WL.quiet (d := 69) rfl rfl rfl (q_add rfl rfl rfl) ?_
              refine WL.quiet (d := 23) rfl rfl rfl (q_move rfl) ?_
              refine WL.nil ?_
              exact WX.round (G := Nat × List (List Int) × Int × MG Int) ⟨n_7903, (out_7898.set (v_7338 : Int).toNat ((nth out_7898 v_7338) ++ ([c_7965] : List Int))), (i64 (v_7901 + 1)), (m_7899.set (v_7338 : Int).toNat ((ao_7988, cap_7989), (nth out_7898 v_7338) ++ ([c_7965] : List Int)))⟩ ⟨h, (mat_set hm_7900 _ _ _)⟩ (Nat.lt_succ_self _) (.cons rfl (.cons rfl (.cons rfl (.cons rfl (.cons rfl (.cons rfl (.cons rfl (.cons rfl (.cons rfl (.cons rfl (.cons rfl .nil))))))))))) (.cons (.there .here) (.cons .here (.cons (.there .here) .nil)))
          · replace h := ite_f h hb_7905
            refine WC.exit ?_
            refine WX.thenExit ?_
            refine WX.thenExit ?_
            refine WX.blockHit ?_
            exact WX.mid (G := List (List Int) × MG Int) ⟨out_7898, m_7899⟩ ⟨h, hm_7900⟩ (.cons rfl (.cons rfl (.cons rfl (.cons rfl (.cons rfl (.cons rfl (.cons rfl .nil))))))) (.cons .here (.cons .here (.cons .here .nil)))
        · rintro out_7803 m_7804 ⟨h, hm_7805⟩
          replace h := (hk_7807 out_7803).symm.trans h
          refine WX.blockNormal ?_
          exact WX.mid (G := List (List Int) × MG Int) ⟨out_7803, m_7804⟩ ⟨h, hm_7805⟩ (.cons rfl (.cons rfl (.cons rfl (.cons rfl (.cons rfl (.cons rfl (.cons rfl .nil))))))) (.cons .here (.cons .here (.cons .here .nil)))
      · rintro out_7798 m_7799 ⟨h, hm_7800⟩
        replace h := (hk_7802 out_7798).symm.trans h
        refine WC.region ?_
        refine WL.quiet (d := 70) rfl rfl rfl (q_add rfl rfl rfl) ?_
        refine WL.quiet (d := 18) rfl rfl rfl (q_move rfl) ?_
        refine WL.nil ?_
        exact WX.round (G := Nat × List (List Int) × Int × MG Int) ⟨n_7340, out_7798, (i64 (v_7338 + 1)), m_7799⟩ ⟨h, hm_7800⟩ (Nat.lt_succ_self _) (.cons rfl (.cons rfl (.cons rfl (.cons rfl (.cons rfl (.cons rfl (.cons rfl .nil))))))) (.cons .here (.cons .here (.cons .here .nil)))
    · replace h := ite_f h hb_7342
      refine WC.exit ?_
      refine WX.thenExit ?_
      refine WX.thenExit ?_
      refine WX.blockHit ?_
      exact WX.mid (G := List (List Int) × MG Int) ⟨out_7335, m_7336⟩ ⟨h, hm_7337⟩ (.cons rfl .nil) (.cons .here (.cons .here .nil))
  · rintro out_6677 m_6678 ⟨h, hm_6679⟩
    replace h := (hk_6681 out_6677).symm.trans h
    refine WC.seq ?_
    refine WC.region ?_
    refine WL.quiet (d := 71) rfl rfl rfl (q_move rfl) ?_
    refine WL.quiet (d := 6) rfl rfl rfl (q_assign rfl) ?_
    refine WL.nil ?_
    refine WX.then ?_
    refine WC.ret ?_
    obtain rfl := Option.some.inj h
    refine WX.bpRet Try.results30 (.tmp rfl .nil) (fun w hw => ?_)
    exact ⟨(some ⟨b_4757, 0, none⟩), ((((clocks_1194.length : Nat) : Int) : Int).toNat), m_6678, ret1 rfl, hm_6679, hw.sub (.cons .here (.cons .here .nil))⟩
/-- timebase.Reads -/
def m_timebase_Reads (s_78 : Stimebase_Setup) (clocks_94 : List Int) (round_98 : Int) : Option (List (List Int) × Int) :=
  (m_timebase_Valid s_78).bind fun x_8028 => (if !x_8028 then some true else (m_timebase_plan_fits (⟨s_78⟩ : Stimebase_plan) clocks_94).bind fun x_8030 => some (!x_8030)).bind fun b_8032 => if (b_8032 || (decide (round_98 < 0))) || (decide (round_98 > 1000)) then some (([] : List (List Int)), 2) else (m_timebase_plan_reads (⟨s_78⟩ : Stimebase_plan) clocks_94 round_98).bind fun x_8044 => some (x_8044, 0)

set_option maxRecDepth 20000 in
theorem w_timebase_Reads (Z : Zp)  (ao_79 : Option Addr) (cap_80 : Nat) (ao_82 : Option Addr) (cap_83 : Nat) (ao_85 : Option Addr) (cap_86 : Nat) (ao_88 : Option Addr) (cap_89 : Nat) (ao_91 : Option Addr) (cap_92 : Nat) (ao_95 : Option Addr) (cap_96 : Nat) (s_78 : Stimebase_Setup) (clocks_94 : List Int) (round_98 : Int) (r : List (List Int) × Int) (w₀ : World) (hz : PZ [] w₀ Z)
    (hs_81 : ZS Z 1 (fun r x => r = e3 x) ao_79 cap_80 s_78.fStart)
    (hs_84 : ZS Z 1 (fun r x => r = e3 x) ao_82 cap_83 s_78.fDrift)
    (hs_87 : ZS Z 1 (fun r x => r = e3 x) ao_85 cap_86 s_78.fFaulty)
    (hs_90 : ZS Z 1 (fun r x => r = e3 x) ao_88 cap_89 s_78.fErrs)
    (hs_93 : ZS Z 1 (fun r x => r = e3 x) ao_91 cap_92 s_78.fLies)
    (hs_97 : ZS Z 1 (fun r x => r = e3 x) ao_95 cap_96 clocks_94)
    (h : m_timebase_Reads s_78 clocks_94 round_98 = some r) :
    Calls Try.prog 15 #[(.agg #[(.slice ao_79 s_78.fStart.length cap_80), (.slice ao_82 s_78.fDrift.length cap_83), (.slice ao_85 s_78.fFaulty.length cap_86), (.int .i64 s_78.fF), (.int .i64 s_78.fE), (.slice ao_88 s_78.fErrs.length cap_89), (.slice ao_91 s_78.fLies.length cap_92)]), (.slice ao_95 clocks_94.length cap_96), (.int .i64 round_98)] w₀ fun e w' => ∃ ao_8004 : Option Addr, ∃ cap_8005 : Nat, ∃ m_8006 : MG Int, e = .returned (.tuple #[(.slice ao_8004 r.1.length cap_8005), (.int .i64 r.2)]) ∧ (m_8006.map (·.2) = r.1) ∧ Hp [] w₀ w' [mat 3 1 e3 m_8006, row (.slice ao_8004 r.1.length cap_8005) 22 1 (m_8006.flatMap em)] := by
  unfold m_timebase_Reads at h
  refine Calls.ofWC (vs := [(.agg #[(.slice ao_79 s_78.fStart.length cap_80), (.slice ao_82 s_78.fDrift.length cap_83), (.slice ao_85 s_78.fFaulty.length cap_86), (.int .i64 s_78.fF), (.int .i64 s_78.fE), (.slice ao_88 s_78.fErrs.length cap_89), (.slice ao_91 s_78.fLies.length cap_92)]), (.slice ao_95 clocks_94.length cap_96), (.int .i64 round_98)]) (pre := []) (env := [(0, (.agg #[(.slice ao_79 s_78.fStart.length cap_80), (.slice ao_82 s_78.fDrift.length cap_83), (.slice ao_85 s_78.fFaulty.length cap_86), (.int .i64 s_78.fF), (.int .i64 s_78.fE), (.slice ao_88 s_78.fErrs.length cap_89), (.slice ao_91 s_78.fLies.length cap_92)])), (1, (.slice ao_95 clocks_94.length cap_96)), (2, (.int .i64 round_98))]) Try.func15 rfl Try.ntmps15 rfl (Hp.nil w₀ _) rfl ?_
  refine WC.seq ?_
  refine WC.region ?_
  refine WL.new (dd := 3) rfl rfl rfl (e_box (cs := [(.slice ao_79 s_78.fStart.length cap_80), (.slice ao_82 s_78.fDrift.length cap_83), (.slice ao_85 s_78.fFaulty.length cap_86), (.int .i64 s_78.fF), (.int .i64 s_78.fE), (.slice ao_88 s_78.fErrs.length cap_89), (.slice ao_91 s_78.fLies.length cap_92)]) rfl rfl) ?_
  intro b_8010 _
  refine WL.quiet (d := 6) rfl rfl rfl (q_assign rfl) ?_
  refine WL.quiet (d := 7) rfl rfl rfl (q_assign rfl) ?_
  refine WL.nil ?_
  refine WX.then ?_
  refine WC.seq ?_
  refine WC.region ?_
  refine WL.quiet (d := 9) rfl rfl rfl (q_loadA (cs := [(.slice ao_79 s_78.fStart.length cap_80), (.slice ao_82 s_78.fDrift.length cap_83), (.slice ao_85 s_78.fFaulty.length cap_86), (.int .i64 s_78.fF), (.int .i64 s_78.fE), (.slice ao_88 s_78.fErrs.length cap_89), (.slice ao_91 s_78.fLies.length cap_92)]) aggT_24 rfl rfl (rd_all .here)) ?_
  refine WL.quiet (d := 10) rfl rfl rfl (q_build (v := (.agg #[(.slice ao_79 s_78.fStart.length cap_80), (.slice ao_82 s_78.fDrift.length cap_83), (.slice ao_85 s_78.fFaulty.length cap_86), (.int .i64 s_78.fF), (.int .i64 s_78.fE), (.slice ao_88 s_78.fErrs.length cap_89), (.slice ao_91 s_78.fLies.length cap_92)])) (Eos.parts (l := [.tmp 9]) (.cons rfl .nil) [0]) (fun _ => by kernel_rfl)) ?_
  refine WL.new (dd := 8) rfl rfl rfl (e_alloc (cs := [(.slice none 0 0), (.slice none 0 0), (.slice none 0 0), (.int .i64 0), (.int .i64 0), (.slice none 0 0), (.slice none 0 0)]) zeroT_55 rfl) ?_
  intro b_8012 _
  refine WL.eff0 rfl rfl (e_store (vs := [(.slice ao_79 s_78.fStart.length cap_80), (.slice ao_82 s_78.fDrift.length cap_83), (.slice ao_85 s_78.fFaulty.length cap_86), (.int .i64 s_78.fF), (.int .i64 s_78.fE), (.slice ao_88 s_78.fErrs.length cap_89), (.slice ao_91 s_78.fLies.length cap_92)]) (ds := [(.slice ao_79 s_78.fStart.length cap_80), (.slice ao_82 s_78.fDrift.length cap_83), (.slice ao_85 s_78.fFaulty.length cap_86), (.int .i64 s_78.fF), (.int .i64 s_78.fE), (.slice ao_88 s_78.fErrs.length cap_89), (.slice ao_91 s_78.fLies.length cap_92)]) sizT_55 rfl rfl rfl rfl (oc_cons rfl (oc_cons rfl (oc_cons rfl (oc_cons rfl (oc_cons rfl (oc_cons rfl (oc_cons rfl oc_nil))))))) .here (Nat.le_of_ble_eq_true rfl) rfl) ?_
  refine WL.nil ?_
  refine WX.then ?_
  refine WC.seq ?_
  refine WC.seq ?_
  obtain ⟨x_8028, hx_8029, h⟩ := bind_elim h
  obtain ⟨b_8032, hb_8033, h⟩ := bind_elim h
  refine WC.region ?_
  refine WL.quiet (d := 11) rfl rfl rfl (q_loadA (cs := [(.slice ao_79 s_78.fStart.length cap_80), (.slice ao_82 s_78.fDrift.length cap_83), (.slice ao_85 s_78.fFaulty.length cap_86), (.int .i64 s_78.fF), (.int .i64 s_78.fE), (.slice ao_88 s_78.fErrs.length cap_89), (.slice ao_91 s_78.fLies.length cap_92)]) aggT_24 rfl rfl (rd_all (.there .here))) ?_
  refine WL.callD (dd := 12) rfl rfl rfl (run_call (l := [.tmp 11]) Try.call19 (.cons rfl .nil)) (.nil : Sel [stb b_8012 55 [(.slice ao_79 s_78.fStart.length cap_80), (.slice ao_82 s_78.fDrift.length cap_83), (.slice ao_85 s_78.fFaulty.length cap_86), (.int .i64 s_78.fF), (.int .i64 s_78.fE), (.slice ao_88 s_78.fErrs.length cap_89), (.slice ao_91 s_78.fLies.length cap_92)], stb b_8010 24 [(.slice ao_79 s_78.fStart.length cap_80), (.slice ao_82 s_78.fDrift.length cap_83), (.slice ao_85 s_78.fFaulty.length cap_86), (.int .i64 s_78.fF), (.int .i64 s_78.fE), (.slice ao_88 s_78.fErrs.length cap_89), (.slice ao_91 s_78.fLies.length cap_92)]] [] [stb b_8012 55 [(.slice ao_79 s_78.fStart.length cap_80), (.slice ao_82 s_78.fDrift.length cap_83), (.slice ao_85 s_78.fFaulty.length cap_86), (.int .i64 s_78.fF), (.int .i64 s_78.fE), (.slice ao_88 s_78.fErrs.length cap_89), (.slice ao_91 s_78.fLies.length cap_92)], stb b_8010 24 [(.slice ao_79 s_78.fStart.length cap_80), (.slice ao_82 s_78.fDrift.length cap_83), (.slice ao_85 s_78.fFaulty.length cap_86), (.int .i64 s_78.fF), (.int .i64 s_78.fE), (.slice ao_88 s_78.fErrs.length cap_89), (.slice ao_91 s_78.fLies.length cap_92)]]) (fun w hw => by have pz := (hz.call hw (.nil : Sel [stb b_8012 55 [(.slice ao_79 s_78.fStart.length cap_80), (.slice ao_82 s_78.fDrift.length cap_83), (.slice ao_85 s_78.fFaulty.length cap_86), (.int .i64 s_78.fF), (.int .i64 s_78.fE), (.slice ao_88 s_78.fErrs.length cap_89), (.slice ao_91 s_78.fLies.length cap_92)], stb b_8010 24 [(.slice ao_79 s_78.fStart.length cap_80), (.slice ao_82 s_78.fDrift.length cap_83), (.slice ao_85 s_78.fFaulty.length cap_86), (.int .i64 s_78.fF), (.int .i64 s_78.fE), (.slice ao_88 s_78.fErrs.length cap_89), (.slice ao_91 s_78.fLies.length cap_92)]] [] [stb b_8012 55 [(.slice ao_79 s_78.fStart.length cap_80), (.slice ao_82 s_78.fDrift.length cap_83), (.slice ao_85 s_78.fFaulty.length cap_86), (.int .i64 s_78.fF), (.int .i64 s_78.fE), (.slice ao_88 s_78.fErrs.length cap_89), (.slice ao_91 s_78.fLies.length cap_92)], stb b_8010 24 [(.slice ao_79 s_78.fStart.length cap_80), (.slice ao_82 s_78.fDrift.length cap_83), (.slice ao_85 s_78.fFaulty.length cap_86), (.int .i64 s_78.fF), (.int .i64 s_78.fE), (.slice ao_88 s_78.fErrs.length cap_89), (.slice ao_91 s_78.fLies.length cap_92)]])); exact w_timebase_Valid (Z := _) (ao_104 := ao_79) (cap_105 := cap_80) (ao_107 := ao_82) (cap_108 := cap_83) (ao_110 := ao_85) (cap_111 := cap_86) (ao_113 := ao_88) (cap_114 := cap_89) (ao_116 := ao_91) (cap_117 := cap_92) (s_103 := s_78) (r := x_8028) w pz hs_81 hs_84 hs_87 hs_90 hs_93 hx_8029) ?_
  refine WL.quiet (d := 13) rfl rfl rfl (q_not rfl) ?_
  refine WL.quiet (d := 14) rfl rfl rfl (q_move rfl) ?_
  refine WL.cut0 True [(1, (.slice ao_95 clocks_94.length cap_96)), (2, (.int .i64 round_98)), (8, (.pointer (some ⟨b_8012, 0, none⟩))), (19, (.bool b_8032))] [stb b_8012 55 [(.slice ao_79 s_78.fStart.length cap_80), (.slice ao_82 s_78.fDrift.length cap_83), (.slice ao_85 s_78.fFaulty.length cap_86), (.int .i64 s_78.fF), (.int .i64 s_78.fE), (.slice ao_88 s_78.fErrs.length cap_89), (.slice ao_91 s_78.fLies.length cap_92)], stb b_8010 24 [(.slice ao_79 s_78.fStart.length cap_80), (.slice ao_82 s_78.fDrift.length cap_83), (.slice ao_85 s_78.fFaulty.length cap_86), (.int .i64 s_78.fF), (.int .i64 s_78.fE), (.slice ao_88 s_78.fErrs.length cap_89), (.slice ao_91 s_78.fLies.length cap_92)]] 5 ?_ (fun _ => ?_)
  · rcases Bool.eq_false_or_eq_true (!x_8028) with hb' | hb'
    · have hg_8034 := hb'; clear hb'
      have hq_8035 := ite_t hb_8033 hg_8034
      replace hq_8035 := Option.some.inj hq_8035
      refine WL.pin (i := 14) rfl hg_8034 ?_
      refine WL.skip rfl rfl rfl ?_
      refine WL.skip rfl rfl rfl ?_
      refine WL.skip rfl rfl rfl ?_
      refine WL.skip rfl rfl rfl ?_
      refine WL.quiet (d := 19) rfl rfl rfl (q_pickT rfl rfl) ?_
      exact WL.cutEnd () trivial (.cons rfl (.cons rfl (.cons rfl (.cons (some_bool hq_8035) .nil)))) (.cons .here (.cons .here .nil))
    · have hg_8036 := hb'; clear hb'
      have hq_8037 := ite_f hb_8033 hg_8036
      obtain ⟨x_8030, hx_8031, hq_8037⟩ := bind_elim hq_8037
      replace hq_8037 := Option.some.inj hq_8037
      refine WL.pin (i := 14) rfl hg_8036 ?_
      refine WL.quiet (d := 15) rfl rfl rfl (q_loadA (cs := [(.slice ao_79 s_78.fStart.length cap_80), (.slice ao_82 s_78.fDrift.length cap_83), (.slice ao_85 s_78.fFaulty.length cap_86), (.int .i64 s_78.fF), (.int .i64 s_78.fE), (.slice ao_88 s_78.fErrs.length cap_89), (.slice ao_91 s_78.fLies.length cap_92)]) aggT_55 rfl rfl (rd_all .here)) ?_
      refine WL.quiet (d := 16) rfl rfl rfl (q_move rfl) ?_
      refine WL.callD (dd := 17) rfl rfl rfl (run_call (l := [.tmp 15, .tmp 16]) Try.call29 (.cons rfl (.cons rfl .nil))) (.nil : Sel [stb b_8012 55 [(.slice ao_79 s_78.fStart.length cap_80), (.slice ao_82 s_78.fDrift.length cap_83), (.slice ao_85 s_78.fFaulty.length cap_86), (.int .i64 s_78.fF), (.int .i64 s_78.fE), (.slice ao_88 s_78.fErrs.length cap_89), (.slice ao_91 s_78.fLies.length cap_92)], stb b_8010 24 [(.slice ao_79 s_78.fStart.length cap_80), (.slice ao_82 s_78.fDrift.length cap_83), (.slice ao_85 s_78.fFaulty.length cap_86), (.int .i64 s_78.fF), (.int .i64 s_78.fE), (.slice ao_88 s_78.fErrs.length cap_89), (.slice ao_91 s_78.fLies.length cap_92)]] [] [stb b_8012 55 [(.slice ao_79 s_78.fStart.length cap_80), (.slice ao_82 s_78.fDrift.length cap_83), (.slice ao_85 s_78.fFaulty.length cap_86), (.int .i64 s_78.fF), (.int .i64 s_78.fE), (.slice ao_88 s_78.fErrs.length cap_89), (.slice ao_91 s_78.fLies.length cap_92)], stb b_8010 24 [(.slice ao_79 s_78.fStart.length cap_80), (.slice ao_82 s_78.fDrift.length cap_83), (.slice ao_85 s_78.fFaulty.length cap_86), (.int .i64 s_78.fF), (.int .i64 s_78.fE), (.slice ao_88 s_78.fErrs.length cap_89), (.slice ao_91 s_78.fLies.length cap_92)]]) (fun w hw => by have pz := (hz.call hw (.nil : Sel [stb b_8012 55 [(.slice ao_79 s_78.fStart.length cap_80), (.slice ao_82 s_78.fDrift.length cap_83), (.slice ao_85 s_78.fFaulty.length cap_86), (.int .i64 s_78.fF), (.int .i64 s_78.fE), (.slice ao_88 s_78.fErrs.length cap_89), (.slice ao_91 s_78.fLies.length cap_92)], stb b_8010 24 [(.slice ao_79 s_78.fStart.length cap_80), (.slice ao_82 s_78.fDrift.length cap_83), (.slice ao_85 s_78.fFaulty.length cap_86), (.int .i64 s_78.fF), (.int .i64 s_78.fE), (.slice ao_88 s_78.fErrs.length cap_89), (.slice ao_91 s_78.fLies.length cap_92)]] [] [stb b_8012 55 [(.slice ao_79 s_78.fStart.length cap_80), (.slice ao_82 s_78.fDrift.length cap_83), (.slice ao_85 s_78.fFaulty.length cap_86), (.int .i64 s_78.fF), (.int .i64 s_78.fE), (.slice ao_88 s_78.fErrs.length cap_89), (.slice ao_91 s_78.fLies.length cap_92)], stb b_8010 24 [(.slice ao_79 s_78.fStart.length cap_80), (.slice ao_82 s_78.fDrift.length cap_83), (.slice ao_85 s_78.fFaulty.length cap_86), (.int .i64 s_78.fF), (.int .i64 s_78.fE), (.slice ao_88 s_78.fErrs.length cap_89), (.slice ao_91 s_78.fLies.length cap_92)]])); exact w_timebase_plan_fits (Z := _) (ao_1110 := ao_79) (cap_1111 := cap_80) (ao_1113 := ao_82) (cap_1114 := cap_83) (ao_1116 := ao_85) (cap_1117 := cap_86) (ao_1119 := ao_88) (cap_1120 := cap_89) (ao_1122 := ao_91) (cap_1123 := cap_92) (ao_1126 := ao_95) (cap_1127 := cap_96) (p_1109 := (⟨s_78⟩ : Stimebase_plan)) (clocks_1125 := clocks_94) (r := x_8030) w pz hs_81 hs_84 hs_87 hs_90 hs_93 hs_97 hx_8031) ?_
      refine WL.quiet (d := 18) rfl rfl rfl (q_not rfl) ?_
      refine WL.quiet (d := 19) rfl rfl rfl (q_pickF rfl rfl) ?_
      exact WL.cutEnd () trivial (.cons rfl (.cons rfl (.cons rfl (.cons (some_bool hq_8037) .nil)))) (.cons .here (.cons .here .nil))
  · skip
    refine WL.quiet (d := 20) rfl rfl rfl (q_move rfl) ?_
    refine WL.cut0 True [(1, (.slice ao_95 clocks_94.length cap_96)), (2, (.int .i64 round_98)), (8, (.pointer (some ⟨b_8012, 0, none⟩))), (23, (.bool (b_8032 || (decide (round_98 < 0)))))] [stb b_8012 55 [(.slice ao_79 s_78.fStart.length cap_80), (.slice ao_82 s_78.fDrift.length cap_83), (.slice ao_85 s_78.fFaulty.length cap_86), (.int .i64 s_78.fF), (.int .i64 s_78.fE), (.slice ao_88 s_78.fErrs.length cap_89), (.slice ao_91 s_78.fLies.length cap_92)], stb b_8010 24 [(.slice ao_79 s_78.fStart.length cap_80), (.slice ao_82 s_78.fDrift.length cap_83), (.slice ao_85 s_78.fFaulty.length cap_86), (.int .i64 s_78.fF), (.int .i64 s_78.fE), (.slice ao_88 s_78.fErrs.length cap_89), (.slice ao_91 s_78.fLies.length cap_92)]] 3 ?_ (fun _ => ?_)
    · rcases Bool.eq_false_or_eq_true b_8032 with hb' | hb'
      · have hg_8038 := hb'; clear hb'
        refine WL.pin (i := 20) rfl hg_8038 ?_
        refine WL.skip rfl rfl rfl ?_
        refine WL.skip rfl rfl rfl ?_
        refine WL.quiet (d := 23) rfl rfl rfl (q_pickT rfl rfl) ?_
        exact WL.cutEnd () trivial (.cons rfl (.cons rfl (.cons rfl (.cons (some_bool (or_l hg_8038)) .nil)))) (.cons .here (.cons .here .nil))
      · have hg_8039 := hb'; clear hb'
        refine WL.pin (i := 20) rfl hg_8039 ?_
        refine WL.quiet (d := 21) rfl rfl rfl (q_move rfl) ?_
        refine WL.quiet (d := 22) rfl rfl rfl (q_lss rfl rfl) ?_
        refine WL.quiet (d := 23) rfl rfl rfl (q_pickF rfl rfl) ?_
        exact WL.cutEnd () trivial (.cons rfl (.cons rfl (.cons rfl (.cons (some_bool (or_r hg_8039)) .nil)))) (.cons .here (.cons .here .nil))
    · skip
      refine WL.quiet (d := 24) rfl rfl rfl (q_move rfl) ?_
      refine WL.cut0 True [(1, (.slice ao_95 clocks_94.length cap_96)), (2, (.int .i64 round_98)), (8, (.pointer (some ⟨b_8012, 0, none⟩))), (27, (.bool ((b_8032 || (decide (round_98 < 0))) || (decide (round_98 > 1000)))))] [stb b_8012 55 [(.slice ao_79 s_78.fStart.length cap_80), (.slice ao_82 s_78.fDrift.length cap_83), (.slice ao_85 s_78.fFaulty.length cap_86), (.int .i64 s_78.fF), (.int .i64 s_78.fE), (.slice ao_88 s_78.fErrs.length cap_89), (.slice ao_91 s_78.fLies.length cap_92)], stb b_8010 24 [(.slice ao_79 s_78.fStart.length cap_80), (.slice ao_82 s_78.fDrift.length cap_83), (.slice ao_85 s_78.fFaulty.length cap_86), (.int .i64 s_78.fF), (.int .i64 s_78.fE), (.slice ao_88 s_78.fErrs.length cap_89), (.slice ao_91 s_78.fLies.length cap_92)]] 3 ?_ (fun _ => ?_)
      · rcases Bool.eq_false_or_eq_true (b_8032 || (decide (round_98 < 0))) with hb' | hb'
        · have hg_8040 := hb'; clear hb'
          refine WL.pin (i := 24) rfl hg_8040 ?_
          refine WL.skip rfl rfl rfl ?_
          refine WL.skip rfl rfl rfl ?_
          refine WL.quiet (d := 27) rfl rfl rfl (q_pickT rfl rfl) ?_
          exact WL.cutEnd () trivial (.cons rfl (.cons rfl (.cons rfl (.cons (some_bool (or_l hg_8040)) .nil)))) (.cons .here (.cons .here .nil))
        · have hg_8041 := hb'; clear hb'
          refine WL.pin (i := 24) rfl hg_8041 ?_
          refine WL.quiet (d := 25) rfl rfl rfl (q_move rfl) ?_
          refine WL.quiet (d := 26) rfl rfl rfl (q_gtr rfl rfl) ?_
          refine WL.quiet (d := 27) rfl rfl rfl (q_pickF rfl rfl) ?_
          exact WL.cutEnd () trivial (.cons rfl (.cons rfl (.cons rfl (.cons (some_bool (or_r hg_8041)) .nil)))) (.cons .here (.cons .here .nil))
      · skip
        refine WL.nil ?_
        refine WX.then ?_
        refine WC.cond rfl (fun hb_8042 => ?_) (fun hb_8042 => ?_)
        · replace h := ite_t h hb_8042
          refine WC.seq ?_
          refine WC.region ?_
          refine WL.quiet (d := 6) rfl rfl rfl (q_assign rfl) ?_
          refine WL.quiet (d := 7) rfl rfl rfl (q_assign rfl) ?_
          refine WL.nil ?_
          refine WX.then ?_
          refine WC.ret ?_
          refine WX.thenRet ?_
          refine WX.nilRow 22 1 ?_
          refine WX.matNil 3 1 0 e3 ?_
          obtain rfl := Option.some.inj h
          refine WX.bpRet Try.results15 (.tmp rfl (.tmp rfl .nil)) (fun w hw => ?_)
          exact ⟨none, 0, (List.replicate 0 (((none : Option Addr), (0 : Nat)), ([] : List Int))), ret2 rfl rfl, rfl, hw.sub (.cons .here (.cons .here .nil))⟩
        · replace h := ite_f h hb_8042
          refine WC.skip ?_
          refine WX.then ?_
          refine WC.seq ?_
          obtain ⟨x_8044, hx_8045, h⟩ := bind_elim h
          refine WC.region ?_
          refine WL.quiet (d := 28) rfl rfl rfl (q_loadA (cs := [(.slice ao_79 s_78.fStart.length cap_80), (.slice ao_82 s_78.fDrift.length cap_83), (.slice ao_85 s_78.fFaulty.length cap_86), (.int .i64 s_78.fF), (.int .i64 s_78.fE), (.slice ao_88 s_78.fErrs.length cap_89), (.slice ao_91 s_78.fLies.length cap_92)]) aggT_55 rfl rfl (rd_all .here)) ?_
          refine WL.quiet (d := 29) rfl rfl rfl (q_move rfl) ?_
          refine WL.quiet (d := 30) rfl rfl rfl (q_move rfl) ?_
          refine WL.enter3 (dd := 31) rfl rfl rfl (run_call (l := [.tmp 28, .tmp 29, .tmp 30]) Try.call30 (.cons rfl (.cons rfl (.cons rfl .nil)))) (.nil : Sel [stb b_8012 55 [(.slice ao_79 s_78.fStart.length cap_80), (.slice ao_82 s_78.fDrift.length cap_83), (.slice ao_85 s_78.fFaulty.length cap_86), (.int .i64 s_78.fF), (.int .i64 s_78.fE), (.slice ao_88 s_78.fErrs.length cap_89), (.slice ao_91 s_78.fLies.length cap_92)], stb b_8010 24 [(.slice ao_79 s_78.fStart.length cap_80), (.slice ao_82 s_78.fDrift.length cap_83), (.slice ao_85 s_78.fFaulty.length cap_86), (.int .i64 s_78.fF), (.int .i64 s_78.fE), (.slice ao_88 s_78.fErrs.length cap_89), (.slice ao_91 s_78.fLies.length cap_92)]] [] [stb b_8012 55 [(.slice ao_79 s_78.fStart.length cap_80), (.slice ao_82 s_78.fDrift.length cap_83), (.slice ao_85 s_78.fFaulty.length cap_86), (.int .i64 s_78.fF), (.int .i64 s_78.fE), (.slice ao_88 s_78.fErrs.length cap_89), (.slice ao_91 s_78.fLies.length cap_92)], stb b_8010 24 [(.slice ao_79 s_78.fStart.length cap_80), (.slice ao_82 s_78.fDrift.length cap_83), (.slice ao_85 s_78.fFaulty.length cap_86), (.int .i64 s_78.fF), (.int .i64 s_78.fE), (.slice ao_88 s_78.fErrs.length cap_89), (.slice ao_91 s_78.fLies.length cap_92)]]) (fun w hw => by have pz := (hz.call hw (.nil : Sel [stb b_8012 55 [(.slice ao_79 s_78.fStart.length cap_80), (.slice ao_82 s_78.fDrift.length cap_83), (.slice ao_85 s_78.fFaulty.length cap_86), (.int .i64 s_78.fF), (.int .i64 s_78.fE), (.slice ao_88 s_78.fErrs.length cap_89), (.slice ao_91 s_78.fLies.length cap_92)], stb b_8010 24 [(.slice ao_79 s_78.fStart.length cap_80), (.slice ao_82 s_78.fDrift.length cap_83), (.slice ao_85 s_78.fFaulty.length cap_86), (.int .i64 s_78.fF), (.int .i64 s_78.fE), (.slice ao_88 s_78.fErrs.length cap_89), (.slice ao_91 s_78.fLies.length cap_92)]] [] [stb b_8012 55 [(.slice ao_79 s_78.fStart.length cap_80), (.slice ao_82 s_78.fDrift.length cap_83), (.slice ao_85 s_78.fFaulty.length cap_86), (.int .i64 s_78.fF), (.int .i64 s_78.fE), (.slice ao_88 s_78.fErrs.length cap_89), (.slice ao_91 s_78.fLies.length cap_92)], stb b_8010 24 [(.slice ao_79 s_78.fStart.length cap_80), (.slice ao_82 s_78.fDrift.length cap_83), (.slice ao_85 s_78.fFaulty.length cap_86), (.int .i64 s_78.fF), (.int .i64 s_78.fE), (.slice ao_88 s_78.fErrs.length cap_89), (.slice ao_91 s_78.fLies.length cap_92)]])); exact w_timebase_plan_reads (Z := _) (ao_1179 := ao_79) (cap_1180 := cap_80) (ao_1182 := ao_82) (cap_1183 := cap_83) (ao_1185 := ao_85) (cap_1186 := cap_86) (ao_1188 := ao_88) (cap_1189 := cap_89) (ao_1191 := ao_91) (cap_1192 := cap_92) (ao_1195 := ao_95) (cap_1196 := cap_96) (p_1178 := (⟨s_78⟩ : Stimebase_plan)) (clocks_1194 := clocks_94) (round_1198 := round_98) (r := x_8044) w pz hs_81 hs_84 hs_87 hs_90 hs_93 hs_97 hx_8045) ?_
          rintro ao_8051 cap_8052 m_8053 hf_8054
          refine WL.quiet (d := 6) rfl rfl rfl (q_assign rfl) ?_
          refine WL.quiet (d := 7) rfl rfl rfl (q_assign rfl) ?_
          refine WL.nil ?_
          refine WX.then ?_
          refine WC.ret ?_
          obtain rfl := Option.some.inj h
          refine WX.bpRet Try.results15 (.tmp rfl (.tmp rfl .nil)) (fun w hw => ?_)
          exact ⟨ao_8051, cap_8052, m_8053, ret2 rfl rfl, hf_8054, hw.sub (.cons .here (.cons .here .nil))⟩
/-- (timebase.plan).history -/
def m_timebase_plan_history (p_8105 : Stimebase_plan) : Option Stimebase_plan :=
  some p_8105

set_option maxRecDepth 20000 in
theorem w_timebase_plan_history (Z : Zp)  (ao_8106 : Option Addr) (cap_8107 : Nat) (ao_8109 : Option Addr) (cap_8110 : Nat) (ao_8112 : Option Addr) (cap_8113 : Nat) (ao_8115 : Option Addr) (cap_8116 : Nat) (ao_8118 : Option Addr) (cap_8119 : Nat) (p_8105 : Stimebase_plan) (r : Stimebase_plan) (w₀ : World) (hz : PZ [] w₀ Z)
    (hs_8108 : ZS Z 1 (fun r x => r = e3 x) ao_8106 cap_8107 p_8105.fSetup.fStart)
    (hs_8111 : ZS Z 1 (fun r x => r = e3 x) ao_8109 cap_8110 p_8105.fSetup.fDrift)
    (hs_8114 : ZS Z 1 (fun r x => r = e3 x) ao_8112 cap_8113 p_8105.fSetup.fFaulty)
    (hs_8117 : ZS Z 1 (fun r x => r = e3 x) ao_8115 cap_8116 p_8105.fSetup.fErrs)
    (hs_8120 : ZS Z 1 (fun r x => r = e3 x) ao_8118 cap_8119 p_8105.fSetup.fLies)
    (h : m_timebase_plan_history p_8105 = some r) :
    Calls Try.prog 31 #[(.agg #[(.slice ao_8106 p_8105.fSetup.fStart.length cap_8107), (.slice ao_8109 p_8105.fSetup.fDrift.length cap_8110), (.slice ao_8112 p_8105.fSetup.fFaulty.length cap_8113), (.int .i64 p_8105.fSetup.fF), (.int .i64 p_8105.fSetup.fE), (.slice ao_8115 p_8105.fSetup.fErrs.length cap_8116), (.slice ao_8118 p_8105.fSetup.fLies.length cap_8119)])] w₀ fun e w' => ∃ b_8123 : Nat, ∃ ao_8125 : Option Addr, ∃ cap_8126 : Nat, ∃ ao_8128 : Option Addr, ∃ cap_8129 : Nat, ∃ ao_8131 : Option Addr, ∃ cap_8132 : Nat, ∃ ao_8134 : Option Addr, ∃ cap_8135 : Nat, ∃ ao_8137 : Option Addr, ∃ cap_8138 : Nat, e = .returned (.func (.func 40) #[] #[(.pointer (some ⟨b_8123, 0, none⟩))]) ∧ ((ZS Z 1 (fun r x => r = e3 x) ao_8125 cap_8126 r.fSetup.fStart) ∧ (ZS Z 1 (fun r x => r = e3 x) ao_8128 cap_8129 r.fSetup.fDrift) ∧ (ZS Z 1 (fun r x => r = e3 x) ao_8131 cap_8132 r.fSetup.fFaulty) ∧ (ZS Z 1 (fun r x => r = e3 x) ao_8134 cap_8135 r.fSetup.fErrs) ∧ (ZS Z 1 (fun r x => r = e3 x) ao_8137 cap_8138 r.fSetup.fLies)) ∧ Hp [] w₀ w' [stb b_8123 55 [(.slice ao_8125 r.fSetup.fStart.length cap_8126), (.slice ao_8128 r.fSetup.fDrift.length cap_8129), (.slice ao_8131 r.fSetup.fFaulty.length cap_8132), (.int .i64 r.fSetup.fF), (.int .i64 r.fSetup.fE), (.slice ao_8134 r.fSetup.fErrs.length cap_8135), (.slice ao_8137 r.fSetup.fLies.length cap_8138)]] := by
  unfold m_timebase_plan_history at h
  refine Calls.ofWC (vs := [(.agg #[(.slice ao_8106 p_8105.fSetup.fStart.length cap_8107), (.slice ao_8109 p_8105.fSetup.fDrift.length cap_8110), (.slice ao_8112 p_8105.fSetup.fFaulty.length cap_8113), (.int .i64 p_8105.fSetup.fF), (.int .i64 p_8105.fSetup.fE), (.slice ao_8115 p_8105.fSetup.fErrs.length cap_8116), (.slice ao_8118 p_8105.fSetup.fLies.length cap_8119)])]) (pre := []) (env := [(0, (.agg #[(.slice ao_8106 p_8105.fSetup.fStart.length cap_8107), (.slice ao_8109 p_8105.fSetup.fDrift.length cap_8110), (.slice ao_8112 p_8105.fSetup.fFaulty.length cap_8113), (.int .i64 p_8105.fSetup.fF), (.int .i64 p_8105.fSetup.fE), (.slice ao_8115 p_8105.fSetup.fErrs.length cap_8116), (.slice ao_8118 p_8105.fSetup.fLies.length cap_8119)]))]) Try.func31 rfl Try.ntmps31 rfl (Hp.nil w₀ _) rfl ?_
  refine WC.seq ?_
  refine WC.region ?_
  refine WL.new (dd := 1) rfl rfl rfl (e_box (cs := [(.slice ao_8106 p_8105.fSetup.fStart.length cap_8107), (.slice ao_8109 p_8105.fSetup.fDrift.length cap_8110), (.slice ao_8112 p_8105.fSetup.fFaulty.length cap_8113), (.int .i64 p_8105.fSetup.fF), (.int .i64 p_8105.fSetup.fE), (.slice ao_8115 p_8105.fSetup.fErrs.length cap_8116), (.slice ao_8118 p_8105.fSetup.fLies.length cap_8119)]) rfl rfl) ?_
  intro b_8141 _
  refine WL.quiet (d := 2) rfl rfl rfl (q_assign rfl) ?_
  refine WL.nil ?_
  refine WX.then ?_
  refine WC.seq ?_
  refine WC.region ?_
  refine WL.quiet (d := 3) rfl rfl rfl (q_makeFunc (Eos.caps (l := [.tmp 1]) (.cons rfl .nil))) ?_
  refine WL.quiet (d := 2) rfl rfl rfl (q_assign rfl) ?_
  refine WL.nil ?_
  refine WX.then ?_
  refine WC.ret ?_
  obtain rfl := Option.some.inj h
  refine WX.bpRet Try.results31 (.tmp rfl .nil) (fun w hw => ?_)
  exact ⟨b_8141, ao_8106, cap_8107, ao_8109, cap_8110, ao_8112, cap_8113, ao_8115, cap_8116, ao_8118, cap_8119, ret1 rfl, ⟨hs_8108, hs_8111, hs_8114, hs_8117, hs_8120⟩, hw.sub (.cons .here .nil)⟩
/-- slices.Clone[[]int,int] -/
def m_slices_Clone_int_int (s_8206 : List Int) : Option (List Int) :=
  chk ((((([] : List Int) ++ s_8206).length : Nat) : Int) * 8 ≤ 140737488355328 ∧ (((([] : List Int) ++ s_8206).length : Nat) : Int) ≤ 4611686018427387904) (some (([] : List Int) ++ s_8206))

set_option maxRecDepth 20000 in
theorem w_slices_Clone_int_int (Z : Zp)  (A_8207 : Addr) (cap_8208 : Nat) (s_8206 : List Int) (r : List Int) (w₀ : World) (hz : PZ [] w₀ Z)
    (hs_8209 : ZS Z 1 (fun r x => r = e3 x) (some A_8207) cap_8208 s_8206)
    (h : m_slices_Clone_int_int s_8206 = some r) :
    Calls Try.prog 41 #[(.slice (some A_8207) s_8206.length cap_8208)] w₀ fun e w' => ∃ ao_8218 : Option Addr, ∃ cap_8219 : Nat, e = .returned (.slice ao_8218 r.length cap_8219) ∧ True ∧ Hp [] w₀ w' [row (.slice ao_8218 r.length cap_8219) 3 1 (r.flatMap e3)] := by
  unfold m_slices_Clone_int_int at h
  refine Calls.ofWC (vs := [(.slice (some A_8207) s_8206.length cap_8208)]) (pre := []) (env := [(0, (.slice (some A_8207) s_8206.length cap_8208))]) Try.func41 rfl Try.ntmps41 rfl (Hp.nil w₀ _) rfl ?_
  refine WC.seq ?_
  refine WC.region ?_
  refine WL.quiet (d := 2) rfl rfl rfl (q_assign rfl) ?_
  refine WL.nil ?_
  refine WX.then ?_
  refine WC.seq ?_
  refine WC.seq ?_
  refine WC.region ?_
  refine WL.quiet (d := 3) rfl rfl rfl (q_move rfl) ?_
  refine WL.quiet (d := 4) rfl rfl rfl (q_eqlSN Try.underlying22 rfl rfl) ?_
  refine WL.nil ?_
  refine WX.then ?_
  refine WC.cond rfl (fun h' => (by cases h')) (fun h' => ?_)
  clear h'
  refine WC.skip ?_
  refine WX.then ?_
  refine WC.seq ?_
  obtain ⟨c_8221, h⟩ := chk_elim h
  refine WC.region ?_
  refine WL.new (dd := 5) rfl rfl rfl (e_buildSlice (cs := ([] : List Int).flatMap e3) elT_22 (Eos.parts (l := []) .nil []) (fun _ => by kernel_rfl) rfl (by unfold maxLen; omega)) ?_
  intro b_8224 _
  refine WL.quiet (d := 6) rfl rfl rfl (q_move rfl) ?_
  refine WL.eff (d := 7) rfl rfl rfl (e_appendF (enc := e3) (l1 := ([] : List Int)) (l2 := s_8206) elT_22 rfl rfl .here (fun _ => rfl) rfl rfl (news_z hz.pv hs_8209) (oc_flat e3_oc _) c_8221) ?_
  rintro ⟨ao_8225, cap_8226⟩ _
  refine WL.quiet (d := 2) rfl rfl rfl (q_assign rfl) ?_
  refine WL.nil ?_
  refine WX.then ?_
  refine WC.ret ?_
  obtain rfl := Option.some.inj h
  refine WX.bpRet Try.results41 (.tmp rfl .nil) (fun w hw => ?_)
  exact ⟨ao_8225, cap_8226, ret1 rfl, trivial, hw.sub (.cons .here .nil)⟩
/-- slices.Clone[[]int,int] -/
def m_slices_Clone_int_intb  : Option Unit :=
  some ()

set_option maxRecDepth 20000 in
theorem w_slices_Clone_int_intb (Z : Zp)  (cap_8227 : Nat)  (r : Unit) (w₀ : World) (hz : PZ [] w₀ Z)
    (h : m_slices_Clone_int_intb  = some r) :
    Calls Try.prog 41 #[(.slice none 0 cap_8227)] w₀ fun e w' => e = .returned (.slice none 0 0) ∧ Hp [] w₀ w' [] := by
  unfold m_slices_Clone_int_intb at h
  refine Calls.ofWC (vs := [(.slice none 0 cap_8227)]) (pre := []) (env := [(0, (.slice none 0 cap_8227))]) Try.func41 rfl Try.ntmps41 rfl (Hp.nil w₀ _) rfl ?_
  refine WC.seq ?_
  refine WC.region ?_
  refine WL.quiet (d := 2) rfl rfl rfl (q_assign rfl) ?_
  refine WL.nil ?_
  refine WX.then ?_
  refine WC.seq ?_
  refine WC.seq ?_
  refine WC.region ?_
  refine WL.quiet (d := 3) rfl rfl rfl (q_move rfl) ?_
  refine WL.quiet (d := 4) rfl rfl rfl (q_eqlSN Try.underlying22 rfl rfl) ?_
  refine WL.nil ?_
  refine WX.then ?_
  refine WC.cond rfl (fun h' => ?_) (fun h' => (by cases h'))
  clear h'
  refine WC.seq ?_
  refine WC.region ?_
  refine WL.quiet (d := 2) rfl rfl rfl (q_assign rfl) ?_
  refine WL.nil ?_
  refine WX.then ?_
  refine WC.ret ?_
  refine WX.thenRet ?_
  skip
  refine WX.bpRet Try.results41 (.tmp rfl .nil) (fun w hw => ?_)
  exact ⟨ret1 rfl, hw.sub .nil⟩
/-- slices.Clone -/
def m_slices_Clone_int_intV (l : List Int) : Option (List Int) := chk ((((l).length : Nat) : Int) * 8 ≤ 140737488355328 ∧ (((l).length : Nat) : Int) ≤ 4611686018427387904) (some l)
theorem w_slices_Clone_int_intV (Z : Zp) (ao : Option Addr) (cap : Nat) (l : List Int) (r : List Int) (w₀ : World) (hz : PZ [] w₀ Z) (hs : ZS Z 1 (fun r x => r = e3 x) ao cap l)
    (h : m_slices_Clone_int_intV l = some r) : Calls Try.prog 41 #[.slice ao l.length cap] w₀ fun e w' => ∃ aor : Option Addr, ∃ capr : Nat, e = .returned (.slice aor r.length capr) ∧ True ∧ Hp [] w₀ w' [row (.slice aor r.length capr) 3 1 (r.flatMap e3)] := by
  obtain ⟨h0, h⟩ := chk_elim h
  obtain rfl := Option.some.inj h
  cases ao with
  | none =>
    obtain rfl := hs.noneNil
    refine Calls.mono (w_slices_Clone_int_intb (cap_8227 := cap) (Z := Z) (r := ()) (w₀ := w₀) hz rfl) ?_
    rintro e w' ⟨rfl, hh⟩
    exact ⟨none, 0, rfl, trivial, hh.nilRow 3 1⟩
  | some A =>
    refine w_slices_Clone_int_int (A_8207 := A) (cap_8208 := cap) (s_8206 := l) (r := l) (Z := Z) (w₀ := w₀) hz hs ?_
    unfold m_slices_Clone_int_int
    simp only [List.nil_append]
    exact if_pos h0

/-- clock.fits -/
def m_clock_fits (n_8505 : Int) (f_8506 : Int) : Option Bool :=
  some ((((decide (n_8505 ≥ 1)) && (decide (n_8505 ≤ 16))) && (decide (f_8506 ≥ 0))) && (decide (f_8506 ≤ (i64 (Int.tdiv (i64 (n_8505 - 1)) 2)))))

set_option maxRecDepth 20000 in
theorem w_clock_fits (Z : Zp)   (n_8505 : Int) (f_8506 : Int) (r : Bool) (w₀ : World) (hz : PZ [] w₀ Z)
    (h : m_clock_fits n_8505 f_8506 = some r) :
    Calls Try.prog 46 #[(.int .i64 n_8505), (.int .i64 f_8506)] w₀ fun e w' => e = .returned (.bool r) ∧ Hp [] w₀ w' [] := by
  unfold m_clock_fits at h
  refine Calls.ofWC (vs := [(.int .i64 n_8505), (.int .i64 f_8506)]) (pre := []) (env := [(0, (.int .i64 n_8505)), (1, (.int .i64 f_8506))]) Try.func46 rfl Try.ntmps46 rfl (Hp.nil w₀ _) rfl ?_
  refine WC.seq ?_
  refine WC.region ?_
  refine WL.quiet (d := 4) rfl rfl rfl (q_assign rfl) ?_
  refine WL.nil ?_
  refine WX.then ?_
  refine WC.seq ?_
  refine WC.region ?_
  refine WL.quiet (d := 5) rfl rfl rfl (q_move rfl) ?_
  refine WL.quiet (d := 6) rfl rfl rfl (q_geq rfl rfl) ?_
  refine WL.quiet (d := 7) rfl rfl rfl (q_move rfl) ?_
  refine WL.cut0 True [(0, (.int .i64 n_8505)), (1, (.int .i64 f_8506)), (4, (.bool false)), (10, (.bool ((decide (n_8505 ≥ 1)) && (decide (n_8505 ≤ 16)))))] [] 3 ?_ (fun _ => ?_)
  · rcases Bool.eq_false_or_eq_true (decide (n_8505 ≥ 1)) with hb' | hb'
    · have hg_8514 := hb'; clear hb'
      refine WL.pin (i := 7) rfl hg_8514 ?_
      refine WL.quiet (d := 8) rfl rfl rfl (q_move rfl) ?_
      refine WL.quiet (d := 9) rfl rfl rfl (q_leq rfl rfl) ?_
      refine WL.quiet (d := 10) rfl rfl rfl (q_pickT rfl rfl) ?_
      exact WL.cutEnd () trivial (.cons rfl (.cons rfl (.cons rfl (.cons (some_bool (and_r hg_8514)) .nil)))) .nil
    · have hg_8515 := hb'; clear hb'
      refine WL.pin (i := 7) rfl hg_8515 ?_
      refine WL.skip rfl rfl rfl ?_
      refine WL.skip rfl rfl rfl ?_
      refine WL.quiet (d := 10) rfl rfl rfl (q_pickF rfl rfl) ?_
      exact WL.cutEnd () trivial (.cons rfl (.cons rfl (.cons rfl (.cons (some_bool (and_l hg_8515)) .nil)))) .nil
  · skip
    refine WL.quiet (d := 11) rfl rfl rfl (q_move rfl) ?_
    refine WL.cut0 True [(0, (.int .i64 n_8505)), (1, (.int .i64 f_8506)), (4, (.bool false)), (14, (.bool (((decide (n_8505 ≥ 1)) && (decide (n_8505 ≤ 16))) && (decide (f_8506 ≥ 0)))))] [] 3 ?_ (fun _ => ?_)
    · rcases Bool.eq_false_or_eq_true ((decide (n_8505 ≥ 1)) && (decide (n_8505 ≤ 16))) with hb' | hb'
      · have hg_8516 := hb'; clear hb'
        refine WL.pin (i := 11) rfl hg_8516 ?_
        refine WL.quiet (d := 12) rfl rfl rfl (q_move rfl) ?_
        refine WL.quiet (d := 13) rfl rfl rfl (q_geq rfl rfl) ?_
        refine WL.quiet (d := 14) rfl rfl rfl (q_pickT rfl rfl) ?_
        exact WL.cutEnd () trivial (.cons rfl (.cons rfl (.cons rfl (.cons (some_bool (and_r hg_8516)) .nil)))) .nil
      · have hg_8517 := hb'; clear hb'
        refine WL.pin (i := 11) rfl hg_8517 ?_
        refine WL.skip rfl rfl rfl ?_
        refine WL.skip rfl rfl rfl ?_
        refine WL.quiet (d := 14) rfl rfl rfl (q_pickF rfl rfl) ?_
        exact WL.cutEnd () trivial (.cons rfl (.cons rfl (.cons rfl (.cons (some_bool (and_l hg_8517)) .nil)))) .nil
    · skip
      refine WL.quiet (d := 15) rfl rfl rfl (q_move rfl) ?_
      refine WL.cut0 True [(4, (.bool false)), (21, (.bool ((((decide (n_8505 ≥ 1)) && (decide (n_8505 ≤ 16))) && (decide (f_8506 ≥ 0))) && (decide (f_8506 ≤ (i64 (Int.tdiv (i64 (n_8505 - 1)) 2)))))))] [] 6 ?_ (fun _ => ?_)
      · rcases Bool.eq_false_or_eq_true (((decide (n_8505 ≥ 1)) && (decide (n_8505 ≤ 16))) && (decide (f_8506 ≥ 0))) with hb' | hb'
        · have hg_8518 := hb'; clear hb'
          refine WL.pin (i := 15) rfl hg_8518 ?_
          refine WL.quiet (d := 16) rfl rfl rfl (q_move rfl) ?_
          refine WL.quiet (d := 17) rfl rfl rfl (q_move rfl) ?_
          refine WL.quiet (d := 18) rfl rfl rfl (q_sub rfl rfl rfl) ?_
          refine WL.quiet (d := 19) rfl rfl rfl (q_quo rfl rfl (by decide) rfl) ?_
          refine WL.quiet (d := 20) rfl rfl rfl (q_leq rfl rfl) ?_
          refine WL.quiet (d := 21) rfl rfl rfl (q_pickT rfl rfl) ?_
          exact WL.cutEnd () trivial (.cons rfl (.cons (some_bool (and_r hg_8518)) .nil)) .nil
        · have hg_8519 := hb'; clear hb'
          refine WL.pin (i := 15) rfl hg_8519 ?_
          refine WL.skip rfl rfl rfl ?_
          refine WL.skip rfl rfl rfl ?_
          refine WL.skip rfl rfl rfl ?_
          refine WL.skip rfl rfl rfl ?_
          refine WL.skip rfl rfl rfl ?_
          refine WL.quiet (d := 21) rfl rfl rfl (q_pickF rfl rfl) ?_
          exact WL.cutEnd () trivial (.cons rfl (.cons (some_bool (and_l hg_8519)) .nil)) .nil
      · skip
        refine WL.quiet (d := 4) rfl rfl rfl (q_assign rfl) ?_
        refine WL.nil ?_
        refine WX.then ?_
        refine WC.ret ?_
        obtain rfl := Option.some.inj h
        refine WX.bpRet Try.results46 (.tmp rfl .nil) (fun w hw => ?_)
        exact ⟨ret1 rfl, hw.sub .nil⟩
/-- clock.in -/
def m_clock_in (t_8523 : Int) : Option Bool :=
  some ((decide (t_8523 ≥ (-1073741824))) && (decide (t_8523 ≤ 1073741824)))

set_option maxRecDepth 20000 in
theorem w_clock_in (Z : Zp)   (t_8523 : Int) (r : Bool) (w₀ : World) (hz : PZ [] w₀ Z)
    (h : m_clock_in t_8523 = some r) :
    Calls Try.prog 48 #[(.int .i64 t_8523)] w₀ fun e w' => e = .returned (.bool r) ∧ Hp [] w₀ w' [] := by
  unfold m_clock_in at h
  refine Calls.ofWC (vs := [(.int .i64 t_8523)]) (pre := []) (env := [(0, (.int .i64 t_8523))]) Try.func48 rfl Try.ntmps48 rfl (Hp.nil w₀ _) rfl ?_
  refine WC.seq ?_
  refine WC.region ?_
  refine WL.quiet (d := 2) rfl rfl rfl (q_assign rfl) ?_
  refine WL.nil ?_
  refine WX.then ?_
  refine WC.seq ?_
  refine WC.region ?_
  refine WL.quiet (d := 3) rfl rfl rfl (q_move rfl) ?_
  refine WL.quiet (d := 4) rfl rfl rfl (q_geq rfl rfl) ?_
  refine WL.quiet (d := 5) rfl rfl rfl (q_move rfl) ?_
  refine WL.cut0 True [(2, (.bool false)), (8, (.bool ((decide (t_8523 ≥ (-1073741824))) && (decide (t_8523 ≤ 1073741824)))))] [] 3 ?_ (fun _ => ?_)
  · rcases Bool.eq_false_or_eq_true (decide (t_8523 ≥ (-1073741824))) with hb' | hb'
    · have hg_8527 := hb'; clear hb'
      refine WL.pin (i := 5) rfl hg_8527 ?_
      refine WL.quiet (d := 6) rfl rfl rfl (q_move rfl) ?_
      refine WL.quiet (d := 7) rfl rfl rfl (q_leq rfl rfl) ?_
      refine WL.quiet (d := 8) rfl rfl rfl (q_pickT rfl rfl) ?_
      exact WL.cutEnd () trivial (.cons rfl (.cons (some_bool (and_r hg_8527)) .nil)) .nil
    · have hg_8528 := hb'; clear hb'
      refine WL.pin (i := 5) rfl hg_8528 ?_
      refine WL.skip rfl rfl rfl ?_
      refine WL.skip rfl rfl rfl ?_
      refine WL.quiet (d := 8) rfl rfl rfl (q_pickF rfl rfl) ?_
      exact WL.cutEnd () trivial (.cons rfl (.cons (some_bool (and_l hg_8528)) .nil)) .nil
  · skip
    refine WL.quiet (d := 2) rfl rfl rfl (q_assign rfl) ?_
    refine WL.nil ?_
    refine WX.then ?_
    refine WC.ret ?_
    obtain rfl := Option.some.inj h
    refine WX.bpRet Try.results48 (.tmp rfl .nil) (fun w hw => ?_)
    exact ⟨ret1 rfl, hw.sub .nil⟩
/-- clock.Midpoint$1 -/
def m_clock_Midpoint_1 (t_8522 : Int) : Option Bool :=
  (m_clock_in t_8522).bind fun x_8532 => some (!x_8532)

set_option maxRecDepth 20000 in
theorem w_clock_Midpoint_1 (Z : Zp)   (t_8522 : Int) (r : Bool) (w₀ : World) (hz : PZ [] w₀ Z)
    (h : m_clock_Midpoint_1 t_8522 = some r) :
    Calls Try.prog 47 #[(.int .i64 t_8522)] w₀ fun e w' => e = .returned (.bool r) ∧ Hp [] w₀ w' [] := by
  unfold m_clock_Midpoint_1 at h
  refine Calls.ofWC (vs := [(.int .i64 t_8522)]) (pre := []) (env := [(0, (.int .i64 t_8522))]) Try.func47 rfl Try.ntmps47 rfl (Hp.nil w₀ _) rfl ?_
  refine WC.seq ?_
  refine WC.region ?_
  refine WL.quiet (d := 2) rfl rfl rfl (q_assign rfl) ?_
  refine WL.nil ?_
  refine WX.then ?_
  refine WC.seq ?_
  obtain ⟨x_8532, hx_8533, h⟩ := bind_elim h
  refine WC.region ?_
  refine WL.quiet (d := 3) rfl rfl rfl (q_move rfl) ?_
  refine WL.callD (dd := 4) rfl rfl rfl (run_call (l := [.tmp 3]) Try.call48 (.cons rfl .nil)) (.nil : Sel [] [] []) (fun w hw => by have pz := (hz.call hw (.nil : Sel [] [] [])); exact w_clock_in (Z := _)  (t_8523 := t_8522) (r := x_8532) w pz  hx_8533) ?_
  refine WL.quiet (d := 5) rfl rfl rfl (q_not rfl) ?_
  refine WL.quiet (d := 2) rfl rfl rfl (q_assign rfl) ?_
  refine WL.nil ?_
  refine WX.then ?_
  refine WC.ret ?_
  obtain rfl := Option.some.inj h
  refine WX.bpRet Try.results47 (.tmp rfl .nil) (fun w hw => ?_)
  exact ⟨ret1 rfl, hw.sub .nil⟩
/-- clock.Midpoint$2 -/
def m_clock_Midpoint_2 (t_8554 : Int) : Option Int :=
  some t_8554

set_option maxRecDepth 20000 in
theorem w_clock_Midpoint_2 (Z : Zp)   (t_8554 : Int) (r : Int) (w₀ : World) (hz : PZ [] w₀ Z)
    (h : m_clock_Midpoint_2 t_8554 = some r) :
    Calls Try.prog 50 #[(.int .i64 t_8554)] w₀ fun e w' => e = .returned (.int .i64 r) ∧ Hp [] w₀ w' [] := by
  unfold m_clock_Midpoint_2 at h
  refine Calls.ofWC (vs := [(.int .i64 t_8554)]) (pre := []) (env := [(0, (.int .i64 t_8554))]) Try.func50 rfl Try.ntmps50 rfl (Hp.nil w₀ _) rfl ?_
  refine WC.seq ?_
  refine WC.region ?_
  refine WL.quiet (d := 2) rfl rfl rfl (q_assign rfl) ?_
  refine WL.nil ?_
  refine WX.then ?_
  refine WC.seq ?_
  refine WC.region ?_
  refine WL.quiet (d := 3) rfl rfl rfl (q_move rfl) ?_
  refine WL.quiet (d := 2) rfl rfl rfl (q_assign rfl) ?_
  refine WL.nil ?_
  refine WX.then ?_
  refine WC.ret ?_
  obtain rfl := Option.some.inj h
  refine WX.bpRet Try.results50 (.tmp rfl .nil) (fun w hw => ?_)
  exact ⟨ret1 rfl, hw.sub .nil⟩
def m_clock_each_int_L2 (l_8556 : List Int) (f_8562 : Int → Option Int) (k_8931 : (List Int) → Option (List Int)) : Nat → (List Int) → Int → Option (List Int)
  | 0, _, _ => none
  | n_8983 + 1, out_8977, v_8980 => if decide (v_8980 < ((l_8556.length : Nat) : Int)) then chk ((0 : Int) ≤ v_8980 ∧ v_8980 < ((l_8556.length : Nat) : Int)) ((f_8562 (nth l_8556 v_8980)).bind fun x_9013 => chk ((((out_8977 ++ ([x_9013] : List Int)).length : Nat) : Int) * 8 ≤ 140737488355328 ∧ (((out_8977 ++ ([x_9013] : List Int)).length : Nat) : Int) ≤ 4611686018427387904) (m_clock_each_int_L2 l_8556 f_8562 k_8931 n_8983 (out_8977 ++ ([x_9013] : List Int)) (i64 (v_8980 + 1)))) else k_8931 out_8977
theorem m_clock_each_int_L2_fuel {n : Nat} {l_8556 : List Int} {f_8562 : Int → Option Int} {k_8931 : (List Int) → Option (List Int)} {out_8977 : List Int} {v_8980 : Int} {r : List Int} (h : m_clock_each_int_L2 l_8556 f_8562 k_8931 n out_8977 v_8980 = some r) : ∃ m, n = m + 1 := by
  cases n with
  | zero => cases h
  | succ m => exact ⟨m, rfl⟩

/-- clock.each[int] -/
def m_clock_each_int (l_8556 : List Int) (f_8562 : Int → Option Int) : Option (List Int) :=
  jp1 (fun (out_8928 : List Int) => (m_slices_Sort out_8928).bind fun x_9022 => some x_9022) fun k_8931 => m_clock_each_int_L2 l_8556 f_8562 k_8931 FUEL ([] : List Int) 0

set_option maxRecDepth 20000 in
theorem w_clock_each_int (Z : Zp)  (ao_8557 : Option Addr) (cap_8558 : Nat) (fid_8560 : FuncId) (fcaps_8561 : List Value) (l_8556 : List Int) (f_8562 : Int → Option Int) (r : List Int) (w₀ : World) (hz : PZ [] w₀ Z)
    (hs_8559 : ZS Z 1 (fun r x => r = e3 x) ao_8557 cap_8558 l_8556)
    (hcf_8563 : ∀ args w, (callFunc fid_8560 args).run Try.prog w = .ok (.enter fid_8560 args) w)
    (hfn_8564 : ∀ w : World, PZ [] w Z → ∀ (x0 : Int) (r : Int), f_8562 x0 = some r → Calls Try.prog fid_8560 (([(.int .i64 x0)] : List Value) ++ fcaps_8561).toArray w fun e w' => e = .returned (.int .i64 r) ∧ Hp [] w w' [])
    (h : m_clock_each_int l_8556 f_8562 = some r) :
    Calls Try.prog 49 #[(.slice ao_8557 l_8556.length cap_8558), (.func (.func fid_8560) #[] (fcaps_8561).toArray)] w₀ fun e w' => ∃ ao_8795 : Option Addr, ∃ cap_8796 : Nat, e = .returned (.slice ao_8795 r.length cap_8796) ∧ True ∧ Hp [] w₀ w' [row (.slice ao_8795 r.length cap_8796) 3 1 (r.flatMap e3)] := by
  unfold m_clock_each_int at h
  refine Calls.ofWC (vs := [(.slice ao_8557 l_8556.length cap_8558), (.func (.func fid_8560) #[] (fcaps_8561).toArray)]) (pre := []) (env := [(0, (.slice ao_8557 l_8556.length cap_8558)), (1, (.func (.func fid_8560) #[] (fcaps_8561).toArray))]) Try.func49 rfl Try.ntmps49 rfl (Hp.nil w₀ _) rfl ?_
  refine WC.seq ?_
  refine WC.region ?_
  refine WL.quiet (d := 4) rfl rfl rfl (q_assign rfl) ?_
  refine WL.nil ?_
  refine WX.then ?_
  refine WC.seq ?_
  refine WC.region ?_
  refine WL.quiet (d := 5) rfl rfl rfl (q_assign rfl) ?_
  refine WL.nil ?_
  refine WX.then ?_
  obtain ⟨k_8931, hk_8932, h⟩ := jp1_elim h
  refine WC.seqMid3 (fun (out_8928 : List Int) (ao_8929 : Option Addr) (cap_8930 : Nat) => (k_8931 out_8928 = some r)) (fun (out_8928 : List Int) (ao_8929 : Option Addr) (cap_8930 : Nat) => [(5, (.slice ao_8929 out_8928.length cap_8930))]) (fun (out_8928 : List Int) (ao_8929 : Option Addr) (cap_8930 : Nat) => [row (.slice ao_8929 out_8928.length cap_8930) 3 1 (out_8928.flatMap e3)]) ?_ ?_
  · skip
    refine WC.seq ?_
    refine WC.region ?_
    refine WL.quiet (d := 8) rfl rfl rfl (q_move rfl) ?_
    refine WL.quiet (d := 9) rfl rfl rfl (q_len Try.underlying22 rfl) ?_
    refine WL.quiet (d := 10) rfl rfl rfl (q_move rfl) ?_
    refine WL.nil ?_
    refine WX.then ?_
    refine WC.block ?_
    refine WC.nilRow 3 1 ?_
    refine WC.loop5 (fun (n_8981 : Nat) (out_8977 : List Int) (v_8980 : Int) (ao_8978 : Option Addr) (cap_8979 : Nat) => (m_clock_each_int_L2 l_8556 f_8562 k_8931 n_8981 out_8977 v_8980 = some r)) (fun (n_8981 : Nat) (out_8977 : List Int) (v_8980 : Int) (ao_8978 : Option Addr) (cap_8979 : Nat) => [(1, (.func (.func fid_8560) #[] (fcaps_8561).toArray)), (5, (.slice ao_8978 out_8977.length cap_8979)), (8, (.slice ao_8557 l_8556.length cap_8558)), (9, (.int .i64 ((l_8556.length : Nat) : Int))), (10, (.int .i64 v_8980))]) (fun (n_8981 : Nat) (out_8977 : List Int) (v_8980 : Int) (ao_8978 : Option Addr) (cap_8979 : Nat) => [row (.slice ao_8978 out_8977.length cap_8979) 3 1 (out_8977.flatMap e3)]) (fun (n_8981 : Nat) (out_8977 : List Int) (v_8980 : Int) (ao_8978 : Option Addr) (cap_8979 : Nat) => n_8981) ⟨FUEL, ([] : List Int), 0, none, 0⟩ h (.cons rfl (.cons rfl (.cons rfl (.cons rfl (.cons rfl .nil))))) (.cons .here .nil) ?_
    rintro n_8981 out_8977 v_8980 ao_8978 cap_8979 h
    obtain ⟨n_8983, rfl⟩ := m_clock_each_int_L2_fuel h
    rw [m_clock_each_int_L2] at h
    refine WC.seq ?_
    refine WC.region ?_
    refine WL.quiet (d := 11) rfl rfl rfl (q_lss rfl rfl) ?_
    refine WL.nil ?_
    refine WX.then ?_
    refine WC.seq ?_
    refine WC.cond rfl (fun hb_8985 => ?_) (fun hb_8985 => ?_)
    · replace h := ite_t h hb_8985
      refine WC.skip ?_
      refine WX.then ?_
      refine WC.seq ?_
      refine WC.block ?_
      refine WC.seq ?_
      obtain ⟨c_9004, h⟩ := chk_elim h
      refine WC.region ?_
      refine WL.znth (dd := 12) rfl rfl (Z := Z) (Pr := (fun r x => r = e3 x)) elT_22 rfl rfl hs_8559 c_9004 ?_
      rintro A_9009 r_9010 hA_9011 hl_9012 rfl
      refine WL.quiet (d := 13) rfl rfl rfl (q_load1 oneT_3 rfl (rd_z hz.pv hA_9011 rfl)) ?_
      refine WL.quiet (d := 7) rfl rfl rfl (q_assign rfl) ?_
      refine WL.nil ?_
      refine WX.then ?_
      obtain ⟨x_9013, hx_9014, h⟩ := bind_elim h
      obtain ⟨c_9016, h⟩ := chk_elim h
      refine WC.region ?_
      refine WL.quiet (d := 14) rfl rfl rfl (q_move rfl) ?_
      refine WL.quiet (d := 15) rfl rfl rfl (q_move rfl) ?_
      refine WL.quiet (d := 16) rfl rfl rfl (q_move rfl) ?_
      refine WL.callD (dd := 17) rfl rfl rfl (run_callv (l := [.tmp 16]) (f := fid_8560) (caps := fcaps_8561) hcf_8563 rfl (.cons rfl .nil)) .nil (fun w hw => hfn_8564 w (hz.now hw) (nth l_8556 v_8980) x_9013  hx_9014) ?_
      refine WL.new (dd := 18) rfl rfl rfl (e_buildSlice (cs := ([x_9013] : List Int).flatMap e3) elT_22 (Eos.parts (l := [.tmp 17]) (.cons rfl .nil) [0]) (fun _ => by kernel_rfl) rfl (by unfold maxLen; omega)) ?_
      intro b_9019 _
      refine WL.eff (d := 19) rfl rfl rfl (e_appendF (enc := e3) (l1 := out_8977) (l2 := ([x_9013] : List Int)) elT_22 rfl rfl (.there .here) (fun _ => rfl) rfl rfl (news_row .here) (oc_flat e3_oc _) c_9016) ?_
      rintro ⟨ao_9020, cap_9021⟩ _
      refine WL.quiet (d := 5) rfl rfl rfl (q_assign rfl) ?_
      refine WL.nil ?_
      refine WX.blockNormal ?_
      refine WX.then ?_
      refine WC.region ?_
      refine WL.quiet (d := 20) rfl rfl rfl (q_add rfl rfl rfl) ?_
      refine WL.quiet (d := 10) rfl rfl rfl (q_move rfl) ?_
      refine WL.nil ?_
      exact WX.round (G := Nat × List Int × Int × Option Addr × Nat) ⟨n_8983, (out_8977 ++ ([x_9013] : List Int)), (i64 (v_8980 + 1)), ao_9020, cap_9021⟩ h (Nat.lt_succ_self _) (.cons rfl (.cons rfl (.cons rfl (.cons rfl (.cons rfl .nil))))) (.cons .here .nil)
    · replace h := ite_f h hb_8985
      refine WC.exit ?_
      refine WX.thenExit ?_
      refine WX.thenExit ?_
      refine WX.blockHit ?_
      exact WX.mid (G := List Int × Option Addr × Nat) ⟨out_8977, ao_8978, cap_8979⟩ h (.cons rfl .nil) (.cons .here .nil)
  · rintro out_8928 ao_8929 cap_8930 h
    replace h := (hk_8932 out_8928).symm.trans h
    refine WC.seq ?_
    obtain ⟨x_9022, hx_9023, h⟩ := bind_elim h
    refine WC.region ?_
    refine WL.quiet (d := 21) rfl rfl rfl (q_move rfl) ?_
    refine WL.enter0 (dd := 22) rfl rfl rfl (run_call (l := [.tmp 21]) Try.call56 (.cons rfl .nil)) ((.cons .here .nil) : Sel [row (.slice ao_8929 out_8928.length cap_8930) 3 1 (out_8928.flatMap e3)] [row (.slice ao_8929 out_8928.length cap_8930) 3 1 (out_8928.flatMap e3)] []) (fun w hw => by have pz := (hz.call hw ((.cons .here .nil) : Sel [row (.slice ao_8929 out_8928.length cap_8930) 3 1 (out_8928.flatMap e3)] [row (.slice ao_8929 out_8928.length cap_8930) 3 1 (out_8928.flatMap e3)] [])); exact w_slices_Sort (Z := _) (ao := ao_8929) (cap := cap_8930) (l := out_8928) (r := x_9022) w pz  hx_9023 (hw.owns ((.cons .here .nil) : Sel [row (.slice ao_8929 out_8928.length cap_8930) 3 1 (out_8928.flatMap e3)] [row (.slice ao_8929 out_8928.length cap_8930) 3 1 (out_8928.flatMap e3)] []))) ?_
    rintro  hf_9025
    refine WL.repin (i := 5) rfl (u := (.slice ao_8929 x_9022.length cap_8930)) (slen hf_9025.symm) ?_
    refine WL.nil ?_
    refine WX.then ?_
    refine WC.seq ?_
    refine WC.region ?_
    refine WL.quiet (d := 23) rfl rfl rfl (q_move rfl) ?_
    refine WL.quiet (d := 4) rfl rfl rfl (q_assign rfl) ?_
    refine WL.nil ?_
    refine WX.then ?_
    refine WC.ret ?_
    obtain rfl := Option.some.inj h
    refine WX.bpRet Try.results49 (.tmp rfl .nil) (fun w hw => ?_)
    exact ⟨ao_8929, cap_8930, ret1 rfl, trivial, hw.sub (.cons .here .nil)⟩
/-- clock.Midpoint -/
def m_clock_Midpoint (l_8500 : List Int) (f_8504 : Int) : Option (Int × Int) :=
  (m_clock_fits ((l_8500.length : Nat) : Int) f_8504).bind fun x_9051 => (if !x_9051 then some true else (m_slices_ContainsFunc_int_int l_8500 (fun (y0 : Int) => m_clock_Midpoint_1 y0)).bind fun x_9053 => some x_9053).bind fun b_9055 => if b_9055 then some (0, 2) else (m_clock_each_int l_8500 (fun (y0 : Int) => m_clock_Midpoint_2 y0)).bind fun x_9062 => chk ((0 : Int) ≤ f_8504 ∧ f_8504 < ((x_9062.length : Nat) : Int)) (chk ((0 : Int) ≤ (i64 ((i64 (((x_9062.length : Nat) : Int) - 1)) - f_8504)) ∧ (i64 ((i64 (((x_9062.length : Nat) : Int) - 1)) - f_8504)) < ((x_9062.length : Nat) : Int)) (some (((i64 ((nth x_9062 f_8504) + (nth x_9062 (i64 ((i64 (((x_9062.length : Nat) : Int) - 1)) - f_8504))))) / 2 ^ min (1 : Int).toNat 64), 0)))

set_option maxRecDepth 20000 in
theorem w_clock_Midpoint (Z : Zp)  (ao_8501 : Option Addr) (cap_8502 : Nat) (l_8500 : List Int) (f_8504 : Int) (r : Int × Int) (w₀ : World) (hz : PZ [] w₀ Z)
    (hs_8503 : ZS Z 1 (fun r x => r = e3 x) ao_8501 cap_8502 l_8500)
    (h : m_clock_Midpoint l_8500 f_8504 = some r) :
    Calls Try.prog 36 #[(.slice ao_8501 l_8500.length cap_8502), (.int .i64 f_8504)] w₀ fun e w' => e = .returned (.tuple #[(.int .i64 r.1), (.int .i64 r.2)]) ∧ Hp [] w₀ w' [] := by
  unfold m_clock_Midpoint at h
  refine Calls.ofWC (vs := [(.slice ao_8501 l_8500.length cap_8502), (.int .i64 f_8504)]) (pre := []) (env := [(0, (.slice ao_8501 l_8500.length cap_8502)), (1, (.int .i64 f_8504))]) Try.func36 rfl Try.ntmps36 rfl (Hp.nil w₀ _) rfl ?_
  refine WC.seq ?_
  refine WC.region ?_
  refine WL.quiet (d := 4) rfl rfl rfl (q_assign rfl) ?_
  refine WL.quiet (d := 5) rfl rfl rfl (q_assign rfl) ?_
  refine WL.nil ?_
  refine WX.then ?_
  refine WC.seq ?_
  refine WC.seq ?_
  obtain ⟨x_9051, hx_9052, h⟩ := bind_elim h
  obtain ⟨b_9055, hb_9056, h⟩ := bind_elim h
  refine WC.region ?_
  refine WL.quiet (d := 7) rfl rfl rfl (q_move rfl) ?_
  refine WL.quiet (d := 8) rfl rfl rfl (q_len Try.underlying22 rfl) ?_
  refine WL.quiet (d := 9) rfl rfl rfl (q_move rfl) ?_
  refine WL.callD (dd := 10) rfl rfl rfl (run_call (l := [.tmp 8, .tmp 9]) Try.call46 (.cons rfl (.cons rfl .nil))) (.nil : Sel [] [] []) (fun w hw => by have pz := (hz.call hw (.nil : Sel [] [] [])); exact w_clock_fits (Z := _)  (n_8505 := ((l_8500.length : Nat) : Int)) (f_8506 := f_8504) (r := x_9051) w pz  hx_9052) ?_
  refine WL.quiet (d := 11) rfl rfl rfl (q_not rfl) ?_
  refine WL.quiet (d := 12) rfl rfl rfl (q_move rfl) ?_
  refine WL.cut0 True [(0, (.slice ao_8501 l_8500.length cap_8502)), (1, (.int .i64 f_8504)), (15, (.bool b_9055))] [] 3 ?_ (fun _ => ?_)
  · rcases Bool.eq_false_or_eq_true (!x_9051) with hb' | hb'
    · have hg_9057 := hb'; clear hb'
      have hq_9058 := ite_t hb_9056 hg_9057
      replace hq_9058 := Option.some.inj hq_9058
      refine WL.pin (i := 12) rfl hg_9057 ?_
      refine WL.skip rfl rfl rfl ?_
      refine WL.skip rfl rfl rfl ?_
      refine WL.quiet (d := 15) rfl rfl rfl (q_pickT rfl rfl) ?_
      exact WL.cutEnd () trivial (.cons rfl (.cons rfl (.cons (some_bool hq_9058) .nil))) .nil
    · have hg_9059 := hb'; clear hb'
      have hq_9060 := ite_f hb_9056 hg_9059
      obtain ⟨x_9053, hx_9054, hq_9060⟩ := bind_elim hq_9060
      replace hq_9060 := Option.some.inj hq_9060
      refine WL.pin (i := 12) rfl hg_9059 ?_
      refine WL.quiet (d := 13) rfl rfl rfl (q_move rfl) ?_
      refine WL.callD (dd := 14) rfl rfl rfl (run_call (l := [.tmp 13, .func 47]) Try.call44 (.cons rfl (.cons rfl .nil))) (.nil : Sel [] [] []) (fun w hw => by have pz := (hz.call hw (.nil : Sel [] [] [])); exact w_slices_ContainsFunc_int_int (Z := _) (ao_440 := ao_8501) (cap_441 := cap_8502) (fid_443 := 47) (fcaps_444 := []) (s_439 := l_8500) (f_445 := (fun (y0 : Int) => m_clock_Midpoint_1 y0)) (r := x_9053) w pz hs_8503 Try.call47 (fun w' hz' y0  r  hr => w_clock_Midpoint_1 (Z := _)  (t_8522 := y0) (r := r) w' hz'  hr) hx_9054) ?_
      refine WL.quiet (d := 15) rfl rfl rfl (q_pickF rfl rfl) ?_
      exact WL.cutEnd () trivial (.cons rfl (.cons rfl (.cons (some_bool hq_9060) .nil))) .nil
  · skip
    refine WL.nil ?_
    refine WX.then ?_
    refine WC.cond rfl (fun hb_9061 => ?_) (fun hb_9061 => ?_)
    · replace h := ite_t h hb_9061
      refine WC.seq ?_
      refine WC.region ?_
      refine WL.quiet (d := 4) rfl rfl rfl (q_assign rfl) ?_
      refine WL.quiet (d := 5) rfl rfl rfl (q_assign rfl) ?_
      refine WL.nil ?_
      refine WX.then ?_
      refine WC.ret ?_
      refine WX.thenRet ?_
      obtain rfl := Option.some.inj h
      refine WX.bpRet Try.results36 (.tmp rfl (.tmp rfl .nil)) (fun w hw => ?_)
      exact ⟨ret2 rfl rfl, hw.sub .nil⟩
    · replace h := ite_f h hb_9061
      refine WC.skip ?_
      refine WX.then ?_
      refine WC.seq ?_
      obtain ⟨x_9062, hx_9063, h⟩ := bind_elim h
      refine WC.region ?_
      refine WL.quiet (d := 16) rfl rfl rfl (q_move rfl) ?_
      refine WL.enter2 (dd := 17) rfl rfl rfl (run_call (l := [.tmp 16, .func 50]) Try.call49 (.cons rfl (.cons rfl .nil))) (.nil : Sel [] [] []) (fun w hw => by have pz := (hz.call hw (.nil : Sel [] [] [])); exact w_clock_each_int (Z := _) (ao_8557 := ao_8501) (cap_8558 := cap_8502) (fid_8560 := 50) (fcaps_8561 := []) (l_8556 := l_8500) (f_8562 := (fun (y0 : Int) => m_clock_Midpoint_2 y0)) (r := x_9062) w pz hs_8503 Try.call50 (fun w' hz' y0  r  hr => w_clock_Midpoint_2 (Z := _)  (t_8554 := y0) (r := r) w' hz'  hr) hx_9063) ?_
      rintro ao_9067 cap_9068 _
      refine WL.quiet (d := 6) rfl rfl rfl (q_assign rfl) ?_
      refine WL.nil ?_
      refine WX.then ?_
      refine WC.seq ?_
      obtain ⟨c_9070, h⟩ := chk_elim h
      obtain ⟨c_9072, h⟩ := chk_elim h
      refine WC.draw (fun i => [].contains i) [] rfl ?_
      refine WD.pure (i := 0) (d := 18) (by kernel_rfl) rfl (by kernel_rfl) (by kernel_rfl) rfl rfl rfl (fun _ => q_move rfl) ?_
      refine WD.pure (i := 1) (d := 19) (by kernel_rfl) rfl (by kernel_rfl) (by kernel_rfl) rfl rfl rfl (fun _ => q_move rfl) ?_
      refine WD.know (fun w hw => Hp.expose .here hw (by intro hz'; have := c_9070; rw [hz'] at this; omega)) ?_
      rintro ⟨b_9073, rfl⟩
      refine WD.pure (i := 2) (d := 20) (by kernel_rfl) rfl (by kernel_rfl) (by kernel_rfl) rfl rfl rfl (fun _ => q_indexAddr elT_22 rfl rfl c_9070.1 c_9070.2 rowAdd) ?_
      refine WD.quiet (i := 3) (d := 21) (by kernel_rfl) rfl (by kernel_rfl) (by kernel_rfl) rfl rfl rfl (q_load1 oneT_3 rfl (rd_row .here ((flat_rd (enc := e3) (l := x_9062) (i := f_8504) (sz := 1) (fun _ => rfl) c_9070.1 c_9070.2) 0 _ rfl))) ?_
      refine WD.pure (i := 4) (d := 22) (by kernel_rfl) rfl (by kernel_rfl) (by kernel_rfl) rfl rfl rfl (fun _ => q_move rfl) ?_
      refine WD.pure (i := 5) (d := 23) (by kernel_rfl) rfl (by kernel_rfl) (by kernel_rfl) rfl rfl rfl (fun _ => q_move rfl) ?_
      refine WD.pure (i := 6) (d := 24) (by kernel_rfl) rfl (by kernel_rfl) (by kernel_rfl) rfl rfl rfl (fun _ => q_len Try.underlying22 rfl) ?_
      refine WD.pure (i := 7) (d := 25) (by kernel_rfl) rfl (by kernel_rfl) (by kernel_rfl) rfl rfl rfl (fun _ => q_sub rfl rfl rfl) ?_
      refine WD.pure (i := 8) (d := 26) (by kernel_rfl) rfl (by kernel_rfl) (by kernel_rfl) rfl rfl rfl (fun _ => q_move rfl) ?_
      refine WD.pure (i := 9) (d := 27) (by kernel_rfl) rfl (by kernel_rfl) (by kernel_rfl) rfl rfl rfl (fun _ => q_sub rfl rfl rfl) ?_
      refine WD.pure (i := 10) (d := 28) (by kernel_rfl) rfl (by kernel_rfl) (by kernel_rfl) rfl rfl rfl (fun _ => q_indexAddr elT_22 rfl rfl c_9072.1 c_9072.2 rowAdd) ?_
      refine WD.quiet (i := 11) (d := 29) (by kernel_rfl) rfl (by kernel_rfl) (by kernel_rfl) rfl rfl rfl (q_load1 oneT_3 rfl (rd_row .here ((flat_rd (enc := e3) (l := x_9062) (i := i64 ((i64 (((x_9062.length : Nat) : Int) - 1)) - f_8504)) (sz := 1) (fun _ => rfl) c_9072.1 c_9072.2) 0 _ rfl))) ?_
      refine WD.pure (i := 12) (d := 30) (by kernel_rfl) rfl (by kernel_rfl) (by kernel_rfl) rfl rfl rfl (fun _ => q_add rfl rfl rfl) ?_
      refine WD.pure (i := 13) (d := 31) (by kernel_rfl) rfl (by kernel_rfl) (by kernel_rfl) rfl rfl rfl (fun _ => q_shr rfl rfl (by decide) rfl) ?_
      refine WD.pure (i := 14) (d := 4) (by kernel_rfl) rfl (by kernel_rfl) (by kernel_rfl) rfl rfl rfl (fun _ => q_assign rfl) ?_
      refine WD.pure (i := 15) (d := 5) (by kernel_rfl) rfl (by kernel_rfl) (by kernel_rfl) rfl rfl rfl (fun _ => q_assign rfl) ?_
      refine WD.done (by kernel_rfl) ?_
      refine WX.then ?_
      refine WC.ret ?_
      obtain rfl := Option.some.inj h
      refine WX.bpRet Try.results36 (.tmp rfl (.tmp rfl .nil)) (fun w hw => ?_)
      exact ⟨ret2 rfl rfl, hw.sub .nil⟩
def m_timebase_Round_L2 (reads_8478 : List (List Int)) (f_8482 : Int) (k_9551 : (List Int) → Option (List Int × Int)) : Nat → (List Int) → Int → Option (List Int × Int)
  | 0, _, _ => none
  | n_9619 + 1, out_9613, v_9616 => if decide (v_9616 < ((reads_8478.length : Nat) : Int)) then chk ((0 : Int) ≤ v_9616 ∧ v_9616 < ((reads_8478.length : Nat) : Int)) ((m_clock_Midpoint (nth reads_8478 v_9616) f_8482).bind fun x_9663 => if decide (x_9663.2 ≠ 0) then some (([] : List Int), 2) else chk ((((out_9613 ++ ([x_9663.1] : List Int)).length : Nat) : Int) * 8 ≤ 140737488355328 ∧ (((out_9613 ++ ([x_9663.1] : List Int)).length : Nat) : Int) ≤ 4611686018427387904) (m_timebase_Round_L2 reads_8478 f_8482 k_9551 n_9619 (out_9613 ++ ([x_9663.1] : List Int)) (i64 (v_9616 + 1)))) else k_9551 out_9613
theorem m_timebase_Round_L2_fuel {n : Nat} {reads_8478 : List (List Int)} {f_8482 : Int} {k_9551 : (List Int) → Option (List Int × Int)} {out_9613 : List Int} {v_9616 : Int} {r : List Int × Int} (h : m_timebase_Round_L2 reads_8478 f_8482 k_9551 n out_9613 v_9616 = some r) : ∃ m, n = m + 1 := by
  cases n with
  | zero => cases h
  | succ m => exact ⟨m, rfl⟩

/-- timebase.Round -/
def m_timebase_Round (reads_8478 : List (List Int)) (f_8482 : Int) : Option (List Int × Int) :=
  jp1 (fun (out_9548 : List Int) => if decide (((out_9548.length : Nat) : Int) = 0) then some (([] : List Int), 2) else some (out_9548, 0)) fun k_9551 => m_timebase_Round_L2 reads_8478 f_8482 k_9551 FUEL ([] : List Int) 0

set_option maxRecDepth 20000 in
theorem w_timebase_Round (Z : Zp)  (ao_8479 : Option Addr) (cap_8480 : Nat) (reads_8478 : List (List Int)) (f_8482 : Int) (r : List Int × Int) (w₀ : World) (hz : PZ [] w₀ Z)
    (hs_8481 : ZS Z 1 (p22 Z) ao_8479 cap_8480 reads_8478)
    (h : m_timebase_Round reads_8478 f_8482 = some r) :
    Calls Try.prog 24 #[(.slice ao_8479 reads_8478.length cap_8480), (.int .i64 f_8482)] w₀ fun e w' => ∃ ao_9366 : Option Addr, ∃ cap_9367 : Nat, e = .returned (.tuple #[(.slice ao_9366 r.1.length cap_9367), (.int .i64 r.2)]) ∧ True ∧ Hp [] w₀ w' [row (.slice ao_9366 r.1.length cap_9367) 3 1 (r.1.flatMap e3)] := by
  unfold m_timebase_Round at h
  refine Calls.ofWC (vs := [(.slice ao_8479 reads_8478.length cap_8480), (.int .i64 f_8482)]) (pre := []) (env := [(0, (.slice ao_8479 reads_8478.length cap_8480)), (1, (.int .i64 f_8482))]) Try.func24 rfl Try.ntmps24 rfl (Hp.nil w₀ _) rfl ?_
  refine WC.seq ?_
  refine WC.region ?_
  refine WL.quiet (d := 4) rfl rfl rfl (q_assign rfl) ?_
  refine WL.quiet (d := 5) rfl rfl rfl (q_assign rfl) ?_
  refine WL.nil ?_
  refine WX.then ?_
  refine WC.seq ?_
  refine WC.region ?_
  refine WL.quiet (d := 6) rfl rfl rfl (q_assign rfl) ?_
  refine WL.nil ?_
  refine WX.then ?_
  obtain ⟨k_9551, hk_9552, h⟩ := jp1_elim h
  refine WC.seqMid3 (fun (out_9548 : List Int) (ao_9549 : Option Addr) (cap_9550 : Nat) => (k_9551 out_9548 = some r)) (fun (out_9548 : List Int) (ao_9549 : Option Addr) (cap_9550 : Nat) => [(6, (.slice ao_9549 out_9548.length cap_9550))]) (fun (out_9548 : List Int) (ao_9549 : Option Addr) (cap_9550 : Nat) => [row (.slice ao_9549 out_9548.length cap_9550) 3 1 (out_9548.flatMap e3)]) ?_ ?_
  · skip
    refine WC.seq ?_
    refine WC.region ?_
    refine WL.quiet (d := 11) rfl rfl rfl (q_move rfl) ?_
    refine WL.quiet (d := 12) rfl rfl rfl (q_len Try.underlying30 rfl) ?_
    refine WL.quiet (d := 13) rfl rfl rfl (q_move rfl) ?_
    refine WL.nil ?_
    refine WX.then ?_
    refine WC.block ?_
    refine WC.nilRow 3 1 ?_
    refine WC.loop5 (fun (n_9617 : Nat) (out_9613 : List Int) (v_9616 : Int) (ao_9614 : Option Addr) (cap_9615 : Nat) => (m_timebase_Round_L2 reads_8478 f_8482 k_9551 n_9617 out_9613 v_9616 = some r)) (fun (n_9617 : Nat) (out_9613 : List Int) (v_9616 : Int) (ao_9614 : Option Addr) (cap_9615 : Nat) => [(1, (.int .i64 f_8482)), (6, (.slice ao_9614 out_9613.length cap_9615)), (11, (.slice ao_8479 reads_8478.length cap_8480)), (12, (.int .i64 ((reads_8478.length : Nat) : Int))), (13, (.int .i64 v_9616))]) (fun (n_9617 : Nat) (out_9613 : List Int) (v_9616 : Int) (ao_9614 : Option Addr) (cap_9615 : Nat) => [row (.slice ao_9614 out_9613.length cap_9615) 3 1 (out_9613.flatMap e3)]) (fun (n_9617 : Nat) (out_9613 : List Int) (v_9616 : Int) (ao_9614 : Option Addr) (cap_9615 : Nat) => n_9617) ⟨FUEL, ([] : List Int), 0, none, 0⟩ h (.cons rfl (.cons rfl (.cons rfl (.cons rfl (.cons rfl .nil))))) (.cons .here .nil) ?_
    rintro n_9617 out_9613 v_9616 ao_9614 cap_9615 h
    obtain ⟨n_9619, rfl⟩ := m_timebase_Round_L2_fuel h
    rw [m_timebase_Round_L2] at h
    refine WC.seq ?_
    refine WC.region ?_
    refine WL.quiet (d := 14) rfl rfl rfl (q_lss rfl rfl) ?_
    refine WL.nil ?_
    refine WX.then ?_
    refine WC.seq ?_
    refine WC.cond rfl (fun hb_9621 => ?_) (fun hb_9621 => ?_)
    · replace h := ite_t h hb_9621
      refine WC.skip ?_
      refine WX.then ?_
      refine WC.seq ?_
      refine WC.block ?_
      refine WC.seq ?_
      obtain ⟨c_9648, h⟩ := chk_elim h
      refine WC.region ?_
      refine WL.znth (dd := 15) rfl rfl (Z := Z) (Pr := (p22 Z)) elT_30 rfl rfl hs_8481 c_9648 ?_
      rintro A_9656 r_9657 hA_9658 hl_9659 ⟨ao_9660, cap_9661, rfl, hs_9662⟩
      refine WL.quiet (d := 16) rfl rfl rfl (q_load1 oneT_22 rfl (rd_z hz.pv hA_9658 rfl)) ?_
      refine WL.quiet (d := 8) rfl rfl rfl (q_assign rfl) ?_
      refine WL.nil ?_
      refine WX.then ?_
      refine WC.seq ?_
      obtain ⟨x_9663, hx_9664, h⟩ := bind_elim h
      refine WC.region ?_
      refine WL.quiet (d := 18) rfl rfl rfl (q_move rfl) ?_
      refine WL.quiet (d := 19) rfl rfl rfl (q_move rfl) ?_
      refine WL.callD (dd := 20) rfl rfl rfl (run_call (l := [.tmp 18, .tmp 19]) Try.call36 (.cons rfl (.cons rfl .nil))) (.nil : Sel [row (.slice ao_9614 out_9613.length cap_9615) 3 1 (out_9613.flatMap e3)] [] [row (.slice ao_9614 out_9613.length cap_9615) 3 1 (out_9613.flatMap e3)]) (fun w hw => by have pz := (hz.call hw (.nil : Sel [row (.slice ao_9614 out_9613.length cap_9615) 3 1 (out_9613.flatMap e3)] [] [row (.slice ao_9614 out_9613.length cap_9615) 3 1 (out_9613.flatMap e3)])); exact w_clock_Midpoint (Z := _) (ao_8501 := ao_9660) (cap_8502 := cap_9661) (l_8500 := (nth reads_8478 v_9616)) (f_8504 := f_8482) (r := x_9663) w pz hs_9662 hx_9664) ?_
      refine WL.quiet (d := 17) rfl rfl rfl (q_move rfl) ?_
      refine WL.quiet (d := 21) rfl rfl rfl (q_extract rfl rfl) ?_
      refine WL.quiet (d := 22) rfl rfl rfl (q_extract rfl rfl) ?_
      refine WL.quiet (d := 9) rfl rfl rfl (q_assign rfl) ?_
      refine WL.quiet (d := 10) rfl rfl rfl (q_assign rfl) ?_
      refine WL.nil ?_
      refine WX.then ?_
      refine WC.seq ?_
      refine WC.seq ?_
      refine WC.region ?_
      refine WL.quiet (d := 23) rfl rfl rfl (q_move rfl) ?_
      refine WL.quiet (d := 24) rfl rfl rfl (q_neq rfl rfl) ?_
      refine WL.nil ?_
      refine WX.then ?_
      refine WC.cond rfl (fun hb_9666 => ?_) (fun hb_9666 => ?_)
      · replace h := ite_t h hb_9666
        refine WC.seq ?_
        refine WC.region ?_
        refine WL.quiet (d := 4) rfl rfl rfl (q_assign rfl) ?_
        refine WL.quiet (d := 5) rfl rfl rfl (q_assign rfl) ?_
        refine WL.nil ?_
        refine WX.then ?_
        refine WC.ret ?_
        refine WX.thenRet ?_
        refine WX.blockRet ?_
        refine WX.thenRet ?_
        refine WX.thenRet ?_
        refine WX.blockRet ?_
        refine WX.thenRet ?_
        refine WX.nilRow 3 1 ?_
        obtain rfl := Option.some.inj h
        refine WX.bpRet Try.results24 (.tmp rfl (.tmp rfl .nil)) (fun w hw => ?_)
        exact ⟨none, 0, ret2 rfl rfl, trivial, hw.sub (.cons .here .nil)⟩
      · replace h := ite_f h hb_9666
        refine WC.skip ?_
        refine WX.then ?_
        obtain ⟨c_9669, h⟩ := chk_elim h
        refine WC.region ?_
        refine WL.quiet (d := 25) rfl rfl rfl (q_move rfl) ?_
        refine WL.quiet (d := 26) rfl rfl rfl (q_move rfl) ?_
        refine WL.new (dd := 27) rfl rfl rfl (e_buildSlice (cs := ([x_9663.1] : List Int).flatMap e3) elT_22 (Eos.parts (l := [.tmp 26]) (.cons rfl .nil) [0]) (fun _ => by kernel_rfl) rfl (by unfold maxLen; omega)) ?_
        intro b_9672 _
        refine WL.eff (d := 28) rfl rfl rfl (e_appendF (enc := e3) (l1 := out_9613) (l2 := ([x_9663.1] : List Int)) elT_22 rfl rfl (.there .here) (fun _ => rfl) rfl rfl (news_row .here) (oc_flat e3_oc _) c_9669) ?_
        rintro ⟨ao_9673, cap_9674⟩ _
        refine WL.quiet (d := 6) rfl rfl rfl (q_assign rfl) ?_
        refine WL.nil ?_
        refine WX.blockNormal ?_
        refine WX.then ?_
        refine WC.region ?_
        refine WL.quiet (d := 29) rfl rfl rfl (q_add rfl rfl rfl) ?_
        refine WL.quiet (d := 13) rfl rfl rfl (q_move rfl) ?_
        refine WL.nil ?_
        exact WX.round (G := Nat × List Int × Int × Option Addr × Nat) ⟨n_9619, (out_9613 ++ ([x_9663.1] : List Int)), (i64 (v_9616 + 1)), ao_9673, cap_9674⟩ h (Nat.lt_succ_self _) (.cons rfl (.cons rfl (.cons rfl (.cons rfl (.cons rfl .nil))))) (.cons .here .nil)
    · replace h := ite_f h hb_9621
      refine WC.exit ?_
      refine WX.thenExit ?_
      refine WX.thenExit ?_
      refine WX.blockHit ?_
      exact WX.mid (G := List Int × Option Addr × Nat) ⟨out_9613, ao_9614, cap_9615⟩ h (.cons rfl .nil) (.cons .here .nil)
  · rintro out_9548 ao_9549 cap_9550 h
    replace h := (hk_9552 out_9548).symm.trans h
    refine WC.seq ?_
    refine WC.seq ?_
    refine WC.region ?_
    refine WL.quiet (d := 30) rfl rfl rfl (q_move rfl) ?_
    refine WL.quiet (d := 31) rfl rfl rfl (q_len Try.underlying22 rfl) ?_
    refine WL.quiet (d := 32) rfl rfl rfl (q_eql rfl rfl) ?_
    refine WL.nil ?_
    refine WX.then ?_
    refine WC.cond rfl (fun hb_9676 => ?_) (fun hb_9676 => ?_)
    · replace h := ite_t h hb_9676
      refine WC.seq ?_
      refine WC.region ?_
      refine WL.quiet (d := 4) rfl rfl rfl (q_assign rfl) ?_
      refine WL.quiet (d := 5) rfl rfl rfl (q_assign rfl) ?_
      refine WL.nil ?_
      refine WX.then ?_
      refine WC.ret ?_
      refine WX.thenRet ?_
      refine WX.nilRow 3 1 ?_
      obtain rfl := Option.some.inj h
      refine WX.bpRet Try.results24 (.tmp rfl (.tmp rfl .nil)) (fun w hw => ?_)
      exact ⟨none, 0, ret2 rfl rfl, trivial, hw.sub (.cons .here .nil)⟩
    · replace h := ite_f h hb_9676
      refine WC.skip ?_
      refine WX.then ?_
      refine WC.seq ?_
      refine WC.region ?_
      refine WL.quiet (d := 33) rfl rfl rfl (q_move rfl) ?_
      refine WL.quiet (d := 4) rfl rfl rfl (q_assign rfl) ?_
      refine WL.quiet (d := 5) rfl rfl rfl (q_assign rfl) ?_
      refine WL.nil ?_
      refine WX.then ?_
      refine WC.ret ?_
      obtain rfl := Option.some.inj h
      refine WX.bpRet Try.results24 (.tmp rfl (.tmp rfl .nil)) (fun w hw => ?_)
      exact ⟨ao_9549, cap_9550, ret2 rfl rfl, trivial, hw.sub (.cons .here .nil)⟩
end Go.Proofs.Ytbejngeaocfieaa
