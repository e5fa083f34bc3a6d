/- A part of this claim's proof: models of the functions that the law reaches, with the proof that the functions compute them; plain laws about the models. No conditions beyond those in each theorem's statement. -/
import Derived.Test.YtbejngeaocfieaaW34b
namespace Go.Proofs.Ytbejngeaocfieaa
open Go Go.RowKit Sep
set_option linter.all false
set_option maxRecDepth 30000

/-- nacellelaw34.awake -/
def m_law34_awake  : Option Bool :=
  chk ((0 : Int) ≤ 4 ∧ (4 : Int) ≤ 4 ∧ (4 : Int) * 8 ≤ 140737488355328 ∧ (4 : Int) ≤ 4611686018427387904) ((m_timebase_Reads (⟨([0, 10, 20, 30] : List Int), List.replicate (4 : Int).toNat (0 : Int), ([3] : List Int), 1, 0, [], ([(-1000)] : List Int)⟩ : Stimebase_Setup) ([0, 10, 20, 30] : List Int) 0).bind fun x_15664 => (m_timebase_Run (⟨([0, 10, 20, 30] : List Int), List.replicate (4 : Int).toNat (0 : Int), ([3] : List Int), 1, 0, [], ([(-1000)] : List Int)⟩ : Stimebase_Setup) 1).bind fun x_15688 => (m_timebase_Skew (⟨([0, 10, 20, 30] : List Int), List.replicate (4 : Int).toNat (0 : Int), ([3] : List Int), 1, 0, [], ([(-1000)] : List Int)⟩ : Stimebase_Setup) ([0, 10, 20, 30] : List Int)).bind fun x_15716 => (m_timebase_Bound (⟨([0, 10, 20, 30] : List Int), List.replicate (4 : Int).toNat (0 : Int), ([3] : List Int), 1, 0, [], ([(-1000)] : List Int)⟩ : Stimebase_Setup)).bind fun x_15718 => (if (decide ((i64 ((i64 ((i64 (x_15664.2 + x_15688.2)) + x_15716.2)) + x_15718.2)) ≠ 0)) || (decide (((x_15664.1.length : Nat) : Int) ≠ 4)) then some true else chk ((0 : Int) ≤ 0 ∧ 0 < ((x_15664.1.length : Nat) : Int)) ((m_law33_Ints (nth x_15664.1 0) ([0, 10, 20, (-970)] : List Int)).bind fun x_15751 => some (!x_15751))).bind fun b_15753 => if ((b_15753 || (decide (((x_15688.1.length : Nat) : Int) ≠ 2))) || (decide (x_15716.1 ≠ 20))) || (decide (x_15718.1 ≠ 1)) then some false else chk ((0 : Int) ≤ 1 ∧ 1 < ((x_15688.1.length : Nat) : Int)) ((m_timebase_Skew (⟨([0, 10, 20, 30] : List Int), List.replicate (4 : Int).toNat (0 : Int), ([3] : List Int), 1, 0, [], ([(-1000)] : List Int)⟩ : Stimebase_Setup) (nth x_15688.1 1)).bind fun x_15781 => (if decide (x_15781.2 = 0) then chk ((0 : Int) ≤ 1 ∧ 1 < ((x_15688.1.length : Nat) : Int)) ((m_law33_Ints (nth x_15688.1 1) ([5, 5, 5, 15] : List Int)).bind fun x_15800 => some x_15800) else some false).bind fun b_15802 => some (b_15802 && (decide (x_15781.1 = 0)))))

set_option maxRecDepth 20000 in
theorem w_law34_awake (Z : Zp)    (r : Bool) (w₀ : World) (hz : PZ [] w₀ Z)
    (h : m_law34_awake  = some r) :
    Calls Try.prog 12 #[] w₀ fun e w' => ∃ Zn : Zp, e = .returned (.bool r) ∧ True ∧ Hp [] w₀ w' [fz Zn] := by
  unfold m_law34_awake at h
  refine Calls.ofWC (vs := []) (pre := []) (env := []) Try.func12 rfl Try.ntmps12 rfl (Hp.nil w₀ _) rfl ?_
  refine WC.pool ?_
  refine WC.seq ?_
  refine WC.region ?_
  refine WL.quiet (d := 0) rfl rfl rfl (q_assign rfl) ?_
  refine WL.nil ?_
  refine WX.then ?_
  refine WC.seq ?_
  obtain ⟨c_15654, h⟩ := chk_elim h
  refine WC.region ?_
  refine WL.new (dd := 12) rfl rfl rfl (e_buildSlice (cs := ([0, 10, 20, 30] : List Int).flatMap e3) elT_22 (Eos.parts (l := [.const (.int .i64 0), .const (.int .i64 10), .const (.int .i64 20), .const (.int .i64 30)]) (.cons rfl (.cons rfl (.cons rfl (.cons rfl .nil)))) [0, 1, 2, 3]) (fun _ => by kernel_rfl) rfl (by unfold maxLen; omega)) ?_
  intro b_15659 _
  refine WL.new (dd := 13) rfl rfl rfl (e_makeSlice (r := [(.int .i64 0)]) (z0 := (0 : Int)) elT_22 zeroT_3 rfl rfl rfl rfl c_15654) ?_
  intro b_15660 _
  refine WL.rowEqD .here (cs' := (List.replicate (4 : Int).toNat (0 : Int)).flatMap e3) (rep_flat (enc := e3) (0 : Int) _) ?_
  refine WL.new (dd := 14) rfl rfl rfl (e_buildSlice (cs := ([3] : List Int).flatMap e3) elT_22 (Eos.parts (l := [.const (.int .i64 3)]) (.cons rfl .nil) [0]) (fun _ => by kernel_rfl) rfl (by unfold maxLen; omega)) ?_
  intro b_15661 _
  refine WL.new (dd := 15) rfl rfl rfl (e_buildSlice (cs := ([(-1000)] : List Int).flatMap e3) elT_22 (Eos.parts (l := [.const (.int .i64 (-1000))]) (.cons rfl .nil) [0]) (fun _ => by kernel_rfl) rfl (by unfold maxLen; omega)) ?_
  intro b_15662 _
  refine WL.quiet (d := 16) rfl rfl rfl (q_build (v := (.agg #[(.slice (some ⟨b_15659, 0, none⟩) (([0, 10, 20, 30] : List Int).length) 4), (.slice (some ⟨b_15660, 0, none⟩) ((List.replicate (4 : Int).toNat (0 : Int)).length) ((4 : Int).toNat)), (.slice (some ⟨b_15661, 0, none⟩) (([3] : List Int).length) 1), (.int .i64 1), (.int .i64 0), (.slice none 0 0), (.slice (some ⟨b_15662, 0, none⟩) (([(-1000)] : List Int).length) 1)])) (Eos.parts (l := [.tmp 12, .tmp 13, .tmp 14, .const (.int .i64 1), .tmp 15]) (.cons rfl (.cons rfl (.cons rfl (.cons rfl (.cons rfl .nil))))) [0, 1, 2, 3, 6]) (fun _ => by kernel_rfl)) ?_
  refine WL.new (dd := 1) rfl rfl rfl (e_alloc (cs := [(.slice none 0 0), (.slice none 0 0), (.slice none 0 0), (.int .i64 0), (.int .i64 0), (.slice none 0 0), (.slice none 0 0)]) zeroT_24 rfl) ?_
  intro b_15663 _
  refine WL.eff0 rfl rfl (e_store (vs := [(.slice (some ⟨b_15659, 0, none⟩) (([0, 10, 20, 30] : List Int).length) 4), (.slice (some ⟨b_15660, 0, none⟩) ((List.replicate (4 : Int).toNat (0 : Int)).length) ((4 : Int).toNat)), (.slice (some ⟨b_15661, 0, none⟩) (([3] : List Int).length) 1), (.int .i64 1), (.int .i64 0), (.slice none 0 0), (.slice (some ⟨b_15662, 0, none⟩) (([(-1000)] : List Int).length) 1)]) (ds := [(.slice (some ⟨b_15659, 0, none⟩) (([0, 10, 20, 30] : List Int).length) 4), (.slice (some ⟨b_15660, 0, none⟩) ((List.replicate (4 : Int).toNat (0 : Int)).length) ((4 : Int).toNat)), (.slice (some ⟨b_15661, 0, none⟩) (([3] : List Int).length) 1), (.int .i64 1), (.int .i64 0), (.slice none 0 0), (.slice (some ⟨b_15662, 0, none⟩) (([(-1000)] : List Int).length) 1)]) sizT_24 rfl rfl rfl rfl (oc_cons rfl (oc_cons rfl (oc_cons rfl (oc_cons rfl (oc_cons rfl (oc_cons rfl (oc_cons rfl oc_nil))))))) .here (Nat.le_of_ble_eq_true rfl) rfl) ?_
  refine WL.nil ?_
  refine WX.then ?_
  refine WC.seq ?_
  obtain ⟨x_15664, hx_15665, h⟩ := bind_elim h
  refine WC.region ?_
  refine WL.quiet (d := 18) rfl rfl rfl (q_loadA (cs := [(.slice (some ⟨b_15659, 0, none⟩) (([0, 10, 20, 30] : List Int).length) 4), (.slice (some ⟨b_15660, 0, none⟩) ((List.replicate (4 : Int).toNat (0 : Int)).length) ((4 : Int).toNat)), (.slice (some ⟨b_15661, 0, none⟩) (([3] : List Int).length) 1), (.int .i64 1), (.int .i64 0), (.slice none 0 0), (.slice (some ⟨b_15662, 0, none⟩) (([(-1000)] : List Int).length) 1)]) aggT_24 rfl rfl (rd_all .here)) ?_
  refine WL.quiet (d := 19) rfl rfl rfl (q_fieldAddr fo_24_0 rfl rfl) ?_
  refine WL.quiet (d := 20) rfl rfl rfl (q_load1 oneT_22 rfl (rd_stb .here rfl)) ?_
  refine WL.enter3 (dd := 21) rfl rfl rfl (run_call (l := [.tmp 18, .tmp 20, .const (.int .i64 0)]) Try.call15 (.cons rfl (.cons rfl (.cons rfl .nil)))) (.nil : Sel [stb b_15663 24 [(.slice (some ⟨b_15659, 0, none⟩) (([0, 10, 20, 30] : List Int).length) 4), (.slice (some ⟨b_15660, 0, none⟩) ((List.replicate (4 : Int).toNat (0 : Int)).length) ((4 : Int).toNat)), (.slice (some ⟨b_15661, 0, none⟩) (([3] : List Int).length) 1), (.int .i64 1), (.int .i64 0), (.slice none 0 0), (.slice (some ⟨b_15662, 0, none⟩) (([(-1000)] : List Int).length) 1)], row (.slice (some ⟨b_15662, 0, none⟩) (([(-1000)] : List Int).length) 1) 3 1 (([(-1000)] : List Int).flatMap e3), row (.slice (some ⟨b_15661, 0, none⟩) (([3] : List Int).length) 1) 3 1 (([3] : List Int).flatMap e3), row (.slice (some ⟨b_15660, 0, none⟩) ((List.replicate (4 : Int).toNat (0 : Int)).length) ((4 : Int).toNat)) 3 1 ((List.replicate (4 : Int).toNat (0 : Int)).flatMap e3), row (.slice (some ⟨b_15659, 0, none⟩) (([0, 10, 20, 30] : List Int).length) 4) 3 1 (([0, 10, 20, 30] : List Int).flatMap e3), fz []] [] [stb b_15663 24 [(.slice (some ⟨b_15659, 0, none⟩) (([0, 10, 20, 30] : List Int).length) 4), (.slice (some ⟨b_15660, 0, none⟩) ((List.replicate (4 : Int).toNat (0 : Int)).length) ((4 : Int).toNat)), (.slice (some ⟨b_15661, 0, none⟩) (([3] : List Int).length) 1), (.int .i64 1), (.int .i64 0), (.slice none 0 0), (.slice (some ⟨b_15662, 0, none⟩) (([(-1000)] : List Int).length) 1)], row (.slice (some ⟨b_15662, 0, none⟩) (([(-1000)] : List Int).length) 1) 3 1 (([(-1000)] : List Int).flatMap e3), row (.slice (some ⟨b_15661, 0, none⟩) (([3] : List Int).length) 1) 3 1 (([3] : List Int).flatMap e3), row (.slice (some ⟨b_15660, 0, none⟩) ((List.replicate (4 : Int).toNat (0 : Int)).length) ((4 : Int).toNat)) 3 1 ((List.replicate (4 : Int).toNat (0 : Int)).flatMap e3), row (.slice (some ⟨b_15659, 0, none⟩) (([0, 10, 20, 30] : List Int).length) 4) 3 1 (([0, 10, 20, 30] : List Int).flatMap e3), fz []]) (fun w hw => by have pz := (hz.call2 hw (.nil : Sel [stb b_15663 24 [(.slice (some ⟨b_15659, 0, none⟩) (([0, 10, 20, 30] : List Int).length) 4), (.slice (some ⟨b_15660, 0, none⟩) ((List.replicate (4 : Int).toNat (0 : Int)).length) ((4 : Int).toNat)), (.slice (some ⟨b_15661, 0, none⟩) (([3] : List Int).length) 1), (.int .i64 1), (.int .i64 0), (.slice none 0 0), (.slice (some ⟨b_15662, 0, none⟩) (([(-1000)] : List Int).length) 1)], row (.slice (some ⟨b_15662, 0, none⟩) (([(-1000)] : List Int).length) 1) 3 1 (([(-1000)] : List Int).flatMap e3), row (.slice (some ⟨b_15661, 0, none⟩) (([3] : List Int).length) 1) 3 1 (([3] : List Int).flatMap e3), row (.slice (some ⟨b_15660, 0, none⟩) ((List.replicate (4 : Int).toNat (0 : Int)).length) ((4 : Int).toNat)) 3 1 ((List.replicate (4 : Int).toNat (0 : Int)).flatMap e3), row (.slice (some ⟨b_15659, 0, none⟩) (([0, 10, 20, 30] : List Int).length) 4) 3 1 (([0, 10, 20, 30] : List Int).flatMap e3), fz []] [] [stb b_15663 24 [(.slice (some ⟨b_15659, 0, none⟩) (([0, 10, 20, 30] : List Int).length) 4), (.slice (some ⟨b_15660, 0, none⟩) ((List.replicate (4 : Int).toNat (0 : Int)).length) ((4 : Int).toNat)), (.slice (some ⟨b_15661, 0, none⟩) (([3] : List Int).length) 1), (.int .i64 1), (.int .i64 0), (.slice none 0 0), (.slice (some ⟨b_15662, 0, none⟩) (([(-1000)] : List Int).length) 1)], row (.slice (some ⟨b_15662, 0, none⟩) (([(-1000)] : List Int).length) 1) 3 1 (([(-1000)] : List Int).flatMap e3), row (.slice (some ⟨b_15661, 0, none⟩) (([3] : List Int).length) 1) 3 1 (([3] : List Int).flatMap e3), row (.slice (some ⟨b_15660, 0, none⟩) ((List.replicate (4 : Int).toNat (0 : Int)).length) ((4 : Int).toNat)) 3 1 ((List.replicate (4 : Int).toNat (0 : Int)).flatMap e3), row (.slice (some ⟨b_15659, 0, none⟩) (([0, 10, 20, 30] : List Int).length) 4) 3 1 (([0, 10, 20, 30] : List Int).flatMap e3), fz []]) (.there (.there (.there (.there (.there .here)))))).lend hw (.nil : Sel [stb b_15663 24 [(.slice (some ⟨b_15659, 0, none⟩) (([0, 10, 20, 30] : List Int).length) 4), (.slice (some ⟨b_15660, 0, none⟩) ((List.replicate (4 : Int).toNat (0 : Int)).length) ((4 : Int).toNat)), (.slice (some ⟨b_15661, 0, none⟩) (([3] : List Int).length) 1), (.int .i64 1), (.int .i64 0), (.slice none 0 0), (.slice (some ⟨b_15662, 0, none⟩) (([(-1000)] : List Int).length) 1)], row (.slice (some ⟨b_15662, 0, none⟩) (([(-1000)] : List Int).length) 1) 3 1 (([(-1000)] : List Int).flatMap e3), row (.slice (some ⟨b_15661, 0, none⟩) (([3] : List Int).length) 1) 3 1 (([3] : List Int).flatMap e3), row (.slice (some ⟨b_15660, 0, none⟩) ((List.replicate (4 : Int).toNat (0 : Int)).length) ((4 : Int).toNat)) 3 1 ((List.replicate (4 : Int).toNat (0 : Int)).flatMap e3), row (.slice (some ⟨b_15659, 0, none⟩) (([0, 10, 20, 30] : List Int).length) 4) 3 1 (([0, 10, 20, 30] : List Int).flatMap e3), fz []] [] [stb b_15663 24 [(.slice (some ⟨b_15659, 0, none⟩) (([0, 10, 20, 30] : List Int).length) 4), (.slice (some ⟨b_15660, 0, none⟩) ((List.replicate (4 : Int).toNat (0 : Int)).length) ((4 : Int).toNat)), (.slice (some ⟨b_15661, 0, none⟩) (([3] : List Int).length) 1), (.int .i64 1), (.int .i64 0), (.slice none 0 0), (.slice (some ⟨b_15662, 0, none⟩) (([(-1000)] : List Int).length) 1)], row (.slice (some ⟨b_15662, 0, none⟩) (([(-1000)] : List Int).length) 1) 3 1 (([(-1000)] : List Int).flatMap e3), row (.slice (some ⟨b_15661, 0, none⟩) (([3] : List Int).length) 1) 3 1 (([3] : List Int).flatMap e3), row (.slice (some ⟨b_15660, 0, none⟩) ((List.replicate (4 : Int).toNat (0 : Int)).length) ((4 : Int).toNat)) 3 1 ((List.replicate (4 : Int).toNat (0 : Int)).flatMap e3), row (.slice (some ⟨b_15659, 0, none⟩) (([0, 10, 20, 30] : List Int).length) 4) 3 1 (([0, 10, 20, 30] : List Int).flatMap e3), fz []]) (B := [row (.slice (some ⟨b_15659, 0, none⟩) (([0, 10, 20, 30] : List Int).length) 4) 3 1 (([0, 10, 20, 30] : List Int).flatMap e3), row (.slice (some ⟨b_15660, 0, none⟩) ((List.replicate (4 : Int).toNat (0 : Int)).length) ((4 : Int).toNat)) 3 1 ((List.replicate (4 : Int).toNat (0 : Int)).flatMap e3), row (.slice (some ⟨b_15661, 0, none⟩) (([3] : List Int).length) 1) 3 1 (([3] : List Int).flatMap e3), row (.slice (some ⟨b_15662, 0, none⟩) (([(-1000)] : List Int).length) 1) 3 1 (([(-1000)] : List Int).flatMap e3)]) (fun _ hx' => ((.cons (.there (.there (.there (.there .here)))) (.cons (.there (.there (.there .here))) (.cons (.there (.there .here)) (.cons (.there .here) .nil)))) : Sel _ [row (.slice (some ⟨b_15659, 0, none⟩) (([0, 10, 20, 30] : List Int).length) 4) 3 1 (([0, 10, 20, 30] : List Int).flatMap e3), row (.slice (some ⟨b_15660, 0, none⟩) ((List.replicate (4 : Int).toNat (0 : Int)).length) ((4 : Int).toNat)) 3 1 ((List.replicate (4 : Int).toNat (0 : Int)).flatMap e3), row (.slice (some ⟨b_15661, 0, none⟩) (([3] : List Int).length) 1) 3 1 (([3] : List Int).flatMap e3), row (.slice (some ⟨b_15662, 0, none⟩) (([(-1000)] : List Int).length) 1) 3 1 (([(-1000)] : List Int).flatMap e3)] _).mem hx'); exact w_timebase_Reads (Z := _) (ao_79 := (some ⟨b_15659, 0, none⟩)) (cap_80 := 4) (ao_82 := (some ⟨b_15660, 0, none⟩)) (cap_83 := ((4 : Int).toNat)) (ao_85 := (some ⟨b_15661, 0, none⟩)) (cap_86 := 1) (ao_88 := none) (cap_89 := 0) (ao_91 := (some ⟨b_15662, 0, none⟩)) (cap_92 := 1) (ao_95 := (some ⟨b_15659, 0, none⟩)) (cap_96 := 4) (s_78 := (⟨([0, 10, 20, 30] : List Int), List.replicate (4 : Int).toNat (0 : Int), ([3] : List Int), 1, 0, [], ([(-1000)] : List Int)⟩ : Stimebase_Setup)) (clocks_94 := ([0, 10, 20, 30] : List Int)) (round_98 := 0) (r := x_15664) w pz (ZA.row (hw.lent (.nil : Sel [stb b_15663 24 [(.slice (some ⟨b_15659, 0, none⟩) (([0, 10, 20, 30] : List Int).length) 4), (.slice (some ⟨b_15660, 0, none⟩) ((List.replicate (4 : Int).toNat (0 : Int)).length) ((4 : Int).toNat)), (.slice (some ⟨b_15661, 0, none⟩) (([3] : List Int).length) 1), (.int .i64 1), (.int .i64 0), (.slice none 0 0), (.slice (some ⟨b_15662, 0, none⟩) (([(-1000)] : List Int).length) 1)], row (.slice (some ⟨b_15662, 0, none⟩) (([(-1000)] : List Int).length) 1) 3 1 (([(-1000)] : List Int).flatMap e3), row (.slice (some ⟨b_15661, 0, none⟩) (([3] : List Int).length) 1) 3 1 (([3] : List Int).flatMap e3), row (.slice (some ⟨b_15660, 0, none⟩) ((List.replicate (4 : Int).toNat (0 : Int)).length) ((4 : Int).toNat)) 3 1 ((List.replicate (4 : Int).toNat (0 : Int)).flatMap e3), row (.slice (some ⟨b_15659, 0, none⟩) (([0, 10, 20, 30] : List Int).length) 4) 3 1 (([0, 10, 20, 30] : List Int).flatMap e3), fz []] [] [stb b_15663 24 [(.slice (some ⟨b_15659, 0, none⟩) (([0, 10, 20, 30] : List Int).length) 4), (.slice (some ⟨b_15660, 0, none⟩) ((List.replicate (4 : Int).toNat (0 : Int)).length) ((4 : Int).toNat)), (.slice (some ⟨b_15661, 0, none⟩) (([3] : List Int).length) 1), (.int .i64 1), (.int .i64 0), (.slice none 0 0), (.slice (some ⟨b_15662, 0, none⟩) (([(-1000)] : List Int).length) 1)], row (.slice (some ⟨b_15662, 0, none⟩) (([(-1000)] : List Int).length) 1) 3 1 (([(-1000)] : List Int).flatMap e3), row (.slice (some ⟨b_15661, 0, none⟩) (([3] : List Int).length) 1) 3 1 (([3] : List Int).flatMap e3), row (.slice (some ⟨b_15660, 0, none⟩) ((List.replicate (4 : Int).toNat (0 : Int)).length) ((4 : Int).toNat)) 3 1 ((List.replicate (4 : Int).toNat (0 : Int)).flatMap e3), row (.slice (some ⟨b_15659, 0, none⟩) (([0, 10, 20, 30] : List Int).length) 4) 3 1 (([0, 10, 20, 30] : List Int).flatMap e3), fz []]) (B := [row (.slice (some ⟨b_15659, 0, none⟩) (([0, 10, 20, 30] : List Int).length) 4) 3 1 (([0, 10, 20, 30] : List Int).flatMap e3), row (.slice (some ⟨b_15660, 0, none⟩) ((List.replicate (4 : Int).toNat (0 : Int)).length) ((4 : Int).toNat)) 3 1 ((List.replicate (4 : Int).toNat (0 : Int)).flatMap e3), row (.slice (some ⟨b_15661, 0, none⟩) (([3] : List Int).length) 1) 3 1 (([3] : List Int).flatMap e3), row (.slice (some ⟨b_15662, 0, none⟩) (([(-1000)] : List Int).length) 1) 3 1 (([(-1000)] : List Int).flatMap e3)]) (fun _ hx' => ((.cons (.there (.there (.there (.there .here)))) (.cons (.there (.there (.there .here))) (.cons (.there (.there .here)) (.cons (.there .here) .nil)))) : Sel _ [row (.slice (some ⟨b_15659, 0, none⟩) (([0, 10, 20, 30] : List Int).length) 4) 3 1 (([0, 10, 20, 30] : List Int).flatMap e3), row (.slice (some ⟨b_15660, 0, none⟩) ((List.replicate (4 : Int).toNat (0 : Int)).length) ((4 : Int).toNat)) 3 1 ((List.replicate (4 : Int).toNat (0 : Int)).flatMap e3), row (.slice (some ⟨b_15661, 0, none⟩) (([3] : List Int).length) 1) 3 1 (([3] : List Int).flatMap e3), row (.slice (some ⟨b_15662, 0, none⟩) (([(-1000)] : List Int).length) 1) 3 1 (([(-1000)] : List Int).flatMap e3)] _).mem hx') (.head _) _) (RR.flat (enc := e3) (fun _ => rfl) _) ⟨w, pz.1⟩) (ZA.row (hw.lent (.nil : Sel [stb b_15663 24 [(.slice (some ⟨b_15659, 0, none⟩) (([0, 10, 20, 30] : List Int).length) 4), (.slice (some ⟨b_15660, 0, none⟩) ((List.replicate (4 : Int).toNat (0 : Int)).length) ((4 : Int).toNat)), (.slice (some ⟨b_15661, 0, none⟩) (([3] : List Int).length) 1), (.int .i64 1), (.int .i64 0), (.slice none 0 0), (.slice (some ⟨b_15662, 0, none⟩) (([(-1000)] : List Int).length) 1)], row (.slice (some ⟨b_15662, 0, none⟩) (([(-1000)] : List Int).length) 1) 3 1 (([(-1000)] : List Int).flatMap e3), row (.slice (some ⟨b_15661, 0, none⟩) (([3] : List Int).length) 1) 3 1 (([3] : List Int).flatMap e3), row (.slice (some ⟨b_15660, 0, none⟩) ((List.replicate (4 : Int).toNat (0 : Int)).length) ((4 : Int).toNat)) 3 1 ((List.replicate (4 : Int).toNat (0 : Int)).flatMap e3), row (.slice (some ⟨b_15659, 0, none⟩) (([0, 10, 20, 30] : List Int).length) 4) 3 1 (([0, 10, 20, 30] : List Int).flatMap e3), fz []] [] [stb b_15663 24 [(.slice (some ⟨b_15659, 0, none⟩) (([0, 10, 20, 30] : List Int).length) 4), (.slice (some ⟨b_15660, 0, none⟩) ((List.replicate (4 : Int).toNat (0 : Int)).length) ((4 : Int).toNat)), (.slice (some ⟨b_15661, 0, none⟩) (([3] : List Int).length) 1), (.int .i64 1), (.int .i64 0), (.slice none 0 0), (.slice (some ⟨b_15662, 0, none⟩) (([(-1000)] : List Int).length) 1)], row (.slice (some ⟨b_15662, 0, none⟩) (([(-1000)] : List Int).length) 1) 3 1 (([(-1000)] : List Int).flatMap e3), row (.slice (some ⟨b_15661, 0, none⟩) (([3] : List Int).length) 1) 3 1 (([3] : List Int).flatMap e3), row (.slice (some ⟨b_15660, 0, none⟩) ((List.replicate (4 : Int).toNat (0 : Int)).length) ((4 : Int).toNat)) 3 1 ((List.replicate (4 : Int).toNat (0 : Int)).flatMap e3), row (.slice (some ⟨b_15659, 0, none⟩) (([0, 10, 20, 30] : List Int).length) 4) 3 1 (([0, 10, 20, 30] : List Int).flatMap e3), fz []]) (B := [row (.slice (some ⟨b_15659, 0, none⟩) (([0, 10, 20, 30] : List Int).length) 4) 3 1 (([0, 10, 20, 30] : List Int).flatMap e3), row (.slice (some ⟨b_15660, 0, none⟩) ((List.replicate (4 : Int).toNat (0 : Int)).length) ((4 : Int).toNat)) 3 1 ((List.replicate (4 : Int).toNat (0 : Int)).flatMap e3), row (.slice (some ⟨b_15661, 0, none⟩) (([3] : List Int).length) 1) 3 1 (([3] : List Int).flatMap e3), row (.slice (some ⟨b_15662, 0, none⟩) (([(-1000)] : List Int).length) 1) 3 1 (([(-1000)] : List Int).flatMap e3)]) (fun _ hx' => ((.cons (.there (.there (.there (.there .here)))) (.cons (.there (.there (.there .here))) (.cons (.there (.there .here)) (.cons (.there .here) .nil)))) : Sel _ [row (.slice (some ⟨b_15659, 0, none⟩) (([0, 10, 20, 30] : List Int).length) 4) 3 1 (([0, 10, 20, 30] : List Int).flatMap e3), row (.slice (some ⟨b_15660, 0, none⟩) ((List.replicate (4 : Int).toNat (0 : Int)).length) ((4 : Int).toNat)) 3 1 ((List.replicate (4 : Int).toNat (0 : Int)).flatMap e3), row (.slice (some ⟨b_15661, 0, none⟩) (([3] : List Int).length) 1) 3 1 (([3] : List Int).flatMap e3), row (.slice (some ⟨b_15662, 0, none⟩) (([(-1000)] : List Int).length) 1) 3 1 (([(-1000)] : List Int).flatMap e3)] _).mem hx') (.tail _ (.head _)) _) (RR.flat (enc := e3) (fun _ => rfl) _) ⟨w, pz.1⟩) (ZA.row (hw.lent (.nil : Sel [stb b_15663 24 [(.slice (some ⟨b_15659, 0, none⟩) (([0, 10, 20, 30] : List Int).length) 4), (.slice (some ⟨b_15660, 0, none⟩) ((List.replicate (4 : Int).toNat (0 : Int)).length) ((4 : Int).toNat)), (.slice (some ⟨b_15661, 0, none⟩) (([3] : List Int).length) 1), (.int .i64 1), (.int .i64 0), (.slice none 0 0), (.slice (some ⟨b_15662, 0, none⟩) (([(-1000)] : List Int).length) 1)], row (.slice (some ⟨b_15662, 0, none⟩) (([(-1000)] : List Int).length) 1) 3 1 (([(-1000)] : List Int).flatMap e3), row (.slice (some ⟨b_15661, 0, none⟩) (([3] : List Int).length) 1) 3 1 (([3] : List Int).flatMap e3), row (.slice (some ⟨b_15660, 0, none⟩) ((List.replicate (4 : Int).toNat (0 : Int)).length) ((4 : Int).toNat)) 3 1 ((List.replicate (4 : Int).toNat (0 : Int)).flatMap e3), row (.slice (some ⟨b_15659, 0, none⟩) (([0, 10, 20, 30] : List Int).length) 4) 3 1 (([0, 10, 20, 30] : List Int).flatMap e3), fz []] [] [stb b_15663 24 [(.slice (some ⟨b_15659, 0, none⟩) (([0, 10, 20, 30] : List Int).length) 4), (.slice (some ⟨b_15660, 0, none⟩) ((List.replicate (4 : Int).toNat (0 : Int)).length) ((4 : Int).toNat)), (.slice (some ⟨b_15661, 0, none⟩) (([3] : List Int).length) 1), (.int .i64 1), (.int .i64 0), (.slice none 0 0), (.slice (some ⟨b_15662, 0, none⟩) (([(-1000)] : List Int).length) 1)], row (.slice (some ⟨b_15662, 0, none⟩) (([(-1000)] : List Int).length) 1) 3 1 (([(-1000)] : List Int).flatMap e3), row (.slice (some ⟨b_15661, 0, none⟩) (([3] : List Int).length) 1) 3 1 (([3] : List Int).flatMap e3), row (.slice (some ⟨b_15660, 0, none⟩) ((List.replicate (4 : Int).toNat (0 : Int)).length) ((4 : Int).toNat)) 3 1 ((List.replicate (4 : Int).toNat (0 : Int)).flatMap e3), row (.slice (some ⟨b_15659, 0, none⟩) (([0, 10, 20, 30] : List Int).length) 4) 3 1 (([0, 10, 20, 30] : List Int).flatMap e3), fz []]) (B := [row (.slice (some ⟨b_15659, 0, none⟩) (([0, 10, 20, 30] : List Int).length) 4) 3 1 (([0, 10, 20, 30] : List Int).flatMap e3), row (.slice (some ⟨b_15660, 0, none⟩) ((List.replicate (4 : Int).toNat (0 : Int)).length) ((4 : Int).toNat)) 3 1 ((List.replicate (4 : Int).toNat (0 : Int)).flatMap e3), row (.slice (some ⟨b_15661, 0, none⟩) (([3] : List Int).length) 1) 3 1 (([3] : List Int).flatMap e3), row (.slice (some ⟨b_15662, 0, none⟩) (([(-1000)] : List Int).length) 1) 3 1 (([(-1000)] : List Int).flatMap e3)]) (fun _ hx' => ((.cons (.there (.there (.there (.there .here)))) (.cons (.there (.there (.there .here))) (.cons (.there (.there .here)) (.cons (.there .here) .nil)))) : Sel _ [row (.slice (some ⟨b_15659, 0, none⟩) (([0, 10, 20, 30] : List Int).length) 4) 3 1 (([0, 10, 20, 30] : List Int).flatMap e3), row (.slice (some ⟨b_15660, 0, none⟩) ((List.replicate (4 : Int).toNat (0 : Int)).length) ((4 : Int).toNat)) 3 1 ((List.replicate (4 : Int).toNat (0 : Int)).flatMap e3), row (.slice (some ⟨b_15661, 0, none⟩) (([3] : List Int).length) 1) 3 1 (([3] : List Int).flatMap e3), row (.slice (some ⟨b_15662, 0, none⟩) (([(-1000)] : List Int).length) 1) 3 1 (([(-1000)] : List Int).flatMap e3)] _).mem hx') (.tail _ (.tail _ (.head _))) _) (RR.flat (enc := e3) (fun _ => rfl) _) ⟨w, pz.1⟩) (ZS.nil _ _ _) (ZA.row (hw.lent (.nil : Sel [stb b_15663 24 [(.slice (some ⟨b_15659, 0, none⟩) (([0, 10, 20, 30] : List Int).length) 4), (.slice (some ⟨b_15660, 0, none⟩) ((List.replicate (4 : Int).toNat (0 : Int)).length) ((4 : Int).toNat)), (.slice (some ⟨b_15661, 0, none⟩) (([3] : List Int).length) 1), (.int .i64 1), (.int .i64 0), (.slice none 0 0), (.slice (some ⟨b_15662, 0, none⟩) (([(-1000)] : List Int).length) 1)], row (.slice (some ⟨b_15662, 0, none⟩) (([(-1000)] : List Int).length) 1) 3 1 (([(-1000)] : List Int).flatMap e3), row (.slice (some ⟨b_15661, 0, none⟩) (([3] : List Int).length) 1) 3 1 (([3] : List Int).flatMap e3), row (.slice (some ⟨b_15660, 0, none⟩) ((List.replicate (4 : Int).toNat (0 : Int)).length) ((4 : Int).toNat)) 3 1 ((List.replicate (4 : Int).toNat (0 : Int)).flatMap e3), row (.slice (some ⟨b_15659, 0, none⟩) (([0, 10, 20, 30] : List Int).length) 4) 3 1 (([0, 10, 20, 30] : List Int).flatMap e3), fz []] [] [stb b_15663 24 [(.slice (some ⟨b_15659, 0, none⟩) (([0, 10, 20, 30] : List Int).length) 4), (.slice (some ⟨b_15660, 0, none⟩) ((List.replicate (4 : Int).toNat (0 : Int)).length) ((4 : Int).toNat)), (.slice (some ⟨b_15661, 0, none⟩) (([3] : List Int).length) 1), (.int .i64 1), (.int .i64 0), (.slice none 0 0), (.slice (some ⟨b_15662, 0, none⟩) (([(-1000)] : List Int).length) 1)], row (.slice (some ⟨b_15662, 0, none⟩) (([(-1000)] : List Int).length) 1) 3 1 (([(-1000)] : List Int).flatMap e3), row (.slice (some ⟨b_15661, 0, none⟩) (([3] : List Int).length) 1) 3 1 (([3] : List Int).flatMap e3), row (.slice (some ⟨b_15660, 0, none⟩) ((List.replicate (4 : Int).toNat (0 : Int)).length) ((4 : Int).toNat)) 3 1 ((List.replicate (4 : Int).toNat (0 : Int)).flatMap e3), row (.slice (some ⟨b_15659, 0, none⟩) (([0, 10, 20, 30] : List Int).length) 4) 3 1 (([0, 10, 20, 30] : List Int).flatMap e3), fz []]) (B := [row (.slice (some ⟨b_15659, 0, none⟩) (([0, 10, 20, 30] : List Int).length) 4) 3 1 (([0, 10, 20, 30] : List Int).flatMap e3), row (.slice (some ⟨b_15660, 0, none⟩) ((List.replicate (4 : Int).toNat (0 : Int)).length) ((4 : Int).toNat)) 3 1 ((List.replicate (4 : Int).toNat (0 : Int)).flatMap e3), row (.slice (some ⟨b_15661, 0, none⟩) (([3] : List Int).length) 1) 3 1 (([3] : List Int).flatMap e3), row (.slice (some ⟨b_15662, 0, none⟩) (([(-1000)] : List Int).length) 1) 3 1 (([(-1000)] : List Int).flatMap e3)]) (fun _ hx' => ((.cons (.there (.there (.there (.there .here)))) (.cons (.there (.there (.there .here))) (.cons (.there (.there .here)) (.cons (.there .here) .nil)))) : Sel _ [row (.slice (some ⟨b_15659, 0, none⟩) (([0, 10, 20, 30] : List Int).length) 4) 3 1 (([0, 10, 20, 30] : List Int).flatMap e3), row (.slice (some ⟨b_15660, 0, none⟩) ((List.replicate (4 : Int).toNat (0 : Int)).length) ((4 : Int).toNat)) 3 1 ((List.replicate (4 : Int).toNat (0 : Int)).flatMap e3), row (.slice (some ⟨b_15661, 0, none⟩) (([3] : List Int).length) 1) 3 1 (([3] : List Int).flatMap e3), row (.slice (some ⟨b_15662, 0, none⟩) (([(-1000)] : List Int).length) 1) 3 1 (([(-1000)] : List Int).flatMap e3)] _).mem hx') (.tail _ (.tail _ (.tail _ (.head _)))) _) (RR.flat (enc := e3) (fun _ => rfl) _) ⟨w, pz.1⟩) (ZA.row (hw.lent (.nil : Sel [stb b_15663 24 [(.slice (some ⟨b_15659, 0, none⟩) (([0, 10, 20, 30] : List Int).length) 4), (.slice (some ⟨b_15660, 0, none⟩) ((List.replicate (4 : Int).toNat (0 : Int)).length) ((4 : Int).toNat)), (.slice (some ⟨b_15661, 0, none⟩) (([3] : List Int).length) 1), (.int .i64 1), (.int .i64 0), (.slice none 0 0), (.slice (some ⟨b_15662, 0, none⟩) (([(-1000)] : List Int).length) 1)], row (.slice (some ⟨b_15662, 0, none⟩) (([(-1000)] : List Int).length) 1) 3 1 (([(-1000)] : List Int).flatMap e3), row (.slice (some ⟨b_15661, 0, none⟩) (([3] : List Int).length) 1) 3 1 (([3] : List Int).flatMap e3), row (.slice (some ⟨b_15660, 0, none⟩) ((List.replicate (4 : Int).toNat (0 : Int)).length) ((4 : Int).toNat)) 3 1 ((List.replicate (4 : Int).toNat (0 : Int)).flatMap e3), row (.slice (some ⟨b_15659, 0, none⟩) (([0, 10, 20, 30] : List Int).length) 4) 3 1 (([0, 10, 20, 30] : List Int).flatMap e3), fz []] [] [stb b_15663 24 [(.slice (some ⟨b_15659, 0, none⟩) (([0, 10, 20, 30] : List Int).length) 4), (.slice (some ⟨b_15660, 0, none⟩) ((List.replicate (4 : Int).toNat (0 : Int)).length) ((4 : Int).toNat)), (.slice (some ⟨b_15661, 0, none⟩) (([3] : List Int).length) 1), (.int .i64 1), (.int .i64 0), (.slice none 0 0), (.slice (some ⟨b_15662, 0, none⟩) (([(-1000)] : List Int).length) 1)], row (.slice (some ⟨b_15662, 0, none⟩) (([(-1000)] : List Int).length) 1) 3 1 (([(-1000)] : List Int).flatMap e3), row (.slice (some ⟨b_15661, 0, none⟩) (([3] : List Int).length) 1) 3 1 (([3] : List Int).flatMap e3), row (.slice (some ⟨b_15660, 0, none⟩) ((List.replicate (4 : Int).toNat (0 : Int)).length) ((4 : Int).toNat)) 3 1 ((List.replicate (4 : Int).toNat (0 : Int)).flatMap e3), row (.slice (some ⟨b_15659, 0, none⟩) (([0, 10, 20, 30] : List Int).length) 4) 3 1 (([0, 10, 20, 30] : List Int).flatMap e3), fz []]) (B := [row (.slice (some ⟨b_15659, 0, none⟩) (([0, 10, 20, 30] : List Int).length) 4) 3 1 (([0, 10, 20, 30] : List Int).flatMap e3), row (.slice (some ⟨b_15660, 0, none⟩) ((List.replicate (4 : Int).toNat (0 : Int)).length) ((4 : Int).toNat)) 3 1 ((List.replicate (4 : Int).toNat (0 : Int)).flatMap e3), row (.slice (some ⟨b_15661, 0, none⟩) (([3] : List Int).length) 1) 3 1 (([3] : List Int).flatMap e3), row (.slice (some ⟨b_15662, 0, none⟩) (([(-1000)] : List Int).length) 1) 3 1 (([(-1000)] : List Int).flatMap e3)]) (fun _ hx' => ((.cons (.there (.there (.there (.there .here)))) (.cons (.there (.there (.there .here))) (.cons (.there (.there .here)) (.cons (.there .here) .nil)))) : Sel _ [row (.slice (some ⟨b_15659, 0, none⟩) (([0, 10, 20, 30] : List Int).length) 4) 3 1 (([0, 10, 20, 30] : List Int).flatMap e3), row (.slice (some ⟨b_15660, 0, none⟩) ((List.replicate (4 : Int).toNat (0 : Int)).length) ((4 : Int).toNat)) 3 1 ((List.replicate (4 : Int).toNat (0 : Int)).flatMap e3), row (.slice (some ⟨b_15661, 0, none⟩) (([3] : List Int).length) 1) 3 1 (([3] : List Int).flatMap e3), row (.slice (some ⟨b_15662, 0, none⟩) (([(-1000)] : List Int).length) 1) 3 1 (([(-1000)] : List Int).flatMap e3)] _).mem hx') (.head _) _) (RR.flat (enc := e3) (fun _ => rfl) _) ⟨w, pz.1⟩) hx_15665) ?_
  rintro ao_15671 cap_15672 m_15673 hf_15674
  refine WL.quiet (d := 17) rfl rfl rfl (q_move rfl) ?_
  refine WL.quiet (d := 22) rfl rfl rfl (q_extract rfl rfl) ?_
  refine WL.quiet (d := 23) rfl rfl rfl (q_extract rfl rfl) ?_
  refine WL.quiet (d := 2) rfl rfl rfl (q_assign rfl) ?_
  refine WL.quiet (d := 3) rfl rfl rfl (q_assign rfl) ?_
  refine WL.nil ?_
  refine WX.then ?_
  refine WC.seq ?_
  obtain ⟨x_15688, hx_15689, h⟩ := bind_elim h
  refine WC.region ?_
  refine WL.quiet (d := 25) rfl rfl rfl (q_loadA (cs := [(.slice (some ⟨b_15659, 0, none⟩) (([0, 10, 20, 30] : List Int).length) 4), (.slice (some ⟨b_15660, 0, none⟩) ((List.replicate (4 : Int).toNat (0 : Int)).length) ((4 : Int).toNat)), (.slice (some ⟨b_15661, 0, none⟩) (([3] : List Int).length) 1), (.int .i64 1), (.int .i64 0), (.slice none 0 0), (.slice (some ⟨b_15662, 0, none⟩) (([(-1000)] : List Int).length) 1)]) aggT_24 rfl rfl (rd_all (.there (.there .here)))) ?_
  refine WL.freezeS (.there (.there (.there (.there (.there (.there .here)))))) (.there (.there (.there (.there (.there (.there .here)))))) hz (RR.flat (enc := e3) (fun _ => rfl) _) ?_
  intro Zn_15697 hle_15698 hf_15699
  refine WL.freezeS (.there (.there (.there (.there (.there (.there .here)))))) .here hz (RR.flat (enc := e3) (fun _ => rfl) _) ?_
  intro Zn_15700 hle_15701 hf_15702
  refine WL.freezeS (.there (.there (.there (.there (.there .here))))) .here hz (RR.flat (enc := e3) (fun _ => rfl) _) ?_
  intro Zn_15703 hle_15704 hf_15705
  refine WL.freezeS (.there (.there (.there (.there .here)))) .here hz (RR.flat (enc := e3) (fun _ => rfl) _) ?_
  intro Zn_15706 hle_15707 hf_15708
  refine WL.enter4 (dd := 26) rfl rfl rfl (run_call (l := [.tmp 25, .const (.int .i64 1)]) Try.call16 (.cons rfl (.cons rfl .nil))) (.nil : Sel [fz Zn_15706, mat 3 1 e3 m_15673, row (.slice ao_15671 x_15664.1.length cap_15672) 22 1 (m_15673.flatMap em), stb b_15663 24 [(.slice (some ⟨b_15659, 0, none⟩) (([0, 10, 20, 30] : List Int).length) 4), (.slice (some ⟨b_15660, 0, none⟩) ((List.replicate (4 : Int).toNat (0 : Int)).length) ((4 : Int).toNat)), (.slice (some ⟨b_15661, 0, none⟩) (([3] : List Int).length) 1), (.int .i64 1), (.int .i64 0), (.slice none 0 0), (.slice (some ⟨b_15662, 0, none⟩) (([(-1000)] : List Int).length) 1)]] [] [fz Zn_15706, mat 3 1 e3 m_15673, row (.slice ao_15671 x_15664.1.length cap_15672) 22 1 (m_15673.flatMap em), stb b_15663 24 [(.slice (some ⟨b_15659, 0, none⟩) (([0, 10, 20, 30] : List Int).length) 4), (.slice (some ⟨b_15660, 0, none⟩) ((List.replicate (4 : Int).toNat (0 : Int)).length) ((4 : Int).toNat)), (.slice (some ⟨b_15661, 0, none⟩) (([3] : List Int).length) 1), (.int .i64 1), (.int .i64 0), (.slice none 0 0), (.slice (some ⟨b_15662, 0, none⟩) (([(-1000)] : List Int).length) 1)]]) (fun w hw => by have pz := (hz.call2 hw (.nil : Sel [fz Zn_15706, mat 3 1 e3 m_15673, row (.slice ao_15671 x_15664.1.length cap_15672) 22 1 (m_15673.flatMap em), stb b_15663 24 [(.slice (some ⟨b_15659, 0, none⟩) (([0, 10, 20, 30] : List Int).length) 4), (.slice (some ⟨b_15660, 0, none⟩) ((List.replicate (4 : Int).toNat (0 : Int)).length) ((4 : Int).toNat)), (.slice (some ⟨b_15661, 0, none⟩) (([3] : List Int).length) 1), (.int .i64 1), (.int .i64 0), (.slice none 0 0), (.slice (some ⟨b_15662, 0, none⟩) (([(-1000)] : List Int).length) 1)]] [] [fz Zn_15706, mat 3 1 e3 m_15673, row (.slice ao_15671 x_15664.1.length cap_15672) 22 1 (m_15673.flatMap em), stb b_15663 24 [(.slice (some ⟨b_15659, 0, none⟩) (([0, 10, 20, 30] : List Int).length) 4), (.slice (some ⟨b_15660, 0, none⟩) ((List.replicate (4 : Int).toNat (0 : Int)).length) ((4 : Int).toNat)), (.slice (some ⟨b_15661, 0, none⟩) (([3] : List Int).length) 1), (.int .i64 1), (.int .i64 0), (.slice none 0 0), (.slice (some ⟨b_15662, 0, none⟩) (([(-1000)] : List Int).length) 1)]]) .here); exact w_timebase_Run (Z := _) (ao_13211 := (some ⟨b_15659, 0, none⟩)) (cap_13212 := 4) (ao_13214 := (some ⟨b_15660, 0, none⟩)) (cap_13215 := ((4 : Int).toNat)) (ao_13217 := (some ⟨b_15661, 0, none⟩)) (cap_13218 := 1) (ao_13220 := none) (cap_13221 := 0) (ao_13223 := (some ⟨b_15662, 0, none⟩)) (cap_13224 := 1) (s_13210 := (⟨([0, 10, 20, 30] : List Int), List.replicate (4 : Int).toNat (0 : Int), ([3] : List Int), 1, 0, [], ([(-1000)] : List Int)⟩ : Stimebase_Setup)) (rounds_13226 := 1) (r := x_15688) w pz (hf_15699.mono (hle_15701.trans (hle_15704.trans hle_15707))) (hf_15702.mono (hle_15704.trans hle_15707)) (hf_15705.mono hle_15707) (ZS.nil _ _ _) hf_15708 hx_15689) ?_
  rintro Zn_15709 ao_15710 cap_15711 cs_15712 hf_15713
  refine WL.merge .here (.there .here) ?_
  refine WL.quiet (d := 24) rfl rfl rfl (q_move rfl) ?_
  refine WL.quiet (d := 27) rfl rfl rfl (q_extract rfl rfl) ?_
  refine WL.quiet (d := 28) rfl rfl rfl (q_extract rfl rfl) ?_
  refine WL.quiet (d := 4) rfl rfl rfl (q_assign rfl) ?_
  refine WL.quiet (d := 5) rfl rfl rfl (q_assign rfl) ?_
  refine WL.nil ?_
  refine WX.then ?_
  refine WC.seq ?_
  obtain ⟨x_15716, hx_15717, h⟩ := bind_elim h
  refine WC.region ?_
  refine WL.quiet (d := 30) rfl rfl rfl (q_loadA (cs := [(.slice (some ⟨b_15659, 0, none⟩) (([0, 10, 20, 30] : List Int).length) 4), (.slice (some ⟨b_15660, 0, none⟩) ((List.replicate (4 : Int).toNat (0 : Int)).length) ((4 : Int).toNat)), (.slice (some ⟨b_15661, 0, none⟩) (([3] : List Int).length) 1), (.int .i64 1), (.int .i64 0), (.slice none 0 0), (.slice (some ⟨b_15662, 0, none⟩) (([(-1000)] : List Int).length) 1)]) aggT_24 rfl rfl (rd_all (.there (.there (.there (.there .here)))))) ?_
  refine WL.quiet (d := 31) rfl rfl rfl (q_fieldAddr fo_24_0 rfl rfl) ?_
  refine WL.quiet (d := 32) rfl rfl rfl (q_load1 oneT_22 rfl (rd_stb (.there (.there (.there (.there .here)))) rfl)) ?_
  refine WL.callD (dd := 33) rfl rfl rfl (run_call (l := [.tmp 30, .tmp 32]) Try.call17 (.cons rfl (.cons rfl .nil))) (.nil : Sel [fz (Zn_15706 ++ Zn_15709), row (.slice ao_15710 x_15688.1.length cap_15711) 22 1 cs_15712, mat 3 1 e3 m_15673, row (.slice ao_15671 x_15664.1.length cap_15672) 22 1 (m_15673.flatMap em), stb b_15663 24 [(.slice (some ⟨b_15659, 0, none⟩) (([0, 10, 20, 30] : List Int).length) 4), (.slice (some ⟨b_15660, 0, none⟩) ((List.replicate (4 : Int).toNat (0 : Int)).length) ((4 : Int).toNat)), (.slice (some ⟨b_15661, 0, none⟩) (([3] : List Int).length) 1), (.int .i64 1), (.int .i64 0), (.slice none 0 0), (.slice (some ⟨b_15662, 0, none⟩) (([(-1000)] : List Int).length) 1)]] [] [fz (Zn_15706 ++ Zn_15709), row (.slice ao_15710 x_15688.1.length cap_15711) 22 1 cs_15712, mat 3 1 e3 m_15673, row (.slice ao_15671 x_15664.1.length cap_15672) 22 1 (m_15673.flatMap em), stb b_15663 24 [(.slice (some ⟨b_15659, 0, none⟩) (([0, 10, 20, 30] : List Int).length) 4), (.slice (some ⟨b_15660, 0, none⟩) ((List.replicate (4 : Int).toNat (0 : Int)).length) ((4 : Int).toNat)), (.slice (some ⟨b_15661, 0, none⟩) (([3] : List Int).length) 1), (.int .i64 1), (.int .i64 0), (.slice none 0 0), (.slice (some ⟨b_15662, 0, none⟩) (([(-1000)] : List Int).length) 1)]]) (fun w hw => by have pz := (hz.call2 hw (.nil : Sel [fz (Zn_15706 ++ Zn_15709), row (.slice ao_15710 x_15688.1.length cap_15711) 22 1 cs_15712, mat 3 1 e3 m_15673, row (.slice ao_15671 x_15664.1.length cap_15672) 22 1 (m_15673.flatMap em), stb b_15663 24 [(.slice (some ⟨b_15659, 0, none⟩) (([0, 10, 20, 30] : List Int).length) 4), (.slice (some ⟨b_15660, 0, none⟩) ((List.replicate (4 : Int).toNat (0 : Int)).length) ((4 : Int).toNat)), (.slice (some ⟨b_15661, 0, none⟩) (([3] : List Int).length) 1), (.int .i64 1), (.int .i64 0), (.slice none 0 0), (.slice (some ⟨b_15662, 0, none⟩) (([(-1000)] : List Int).length) 1)]] [] [fz (Zn_15706 ++ Zn_15709), row (.slice ao_15710 x_15688.1.length cap_15711) 22 1 cs_15712, mat 3 1 e3 m_15673, row (.slice ao_15671 x_15664.1.length cap_15672) 22 1 (m_15673.flatMap em), stb b_15663 24 [(.slice (some ⟨b_15659, 0, none⟩) (([0, 10, 20, 30] : List Int).length) 4), (.slice (some ⟨b_15660, 0, none⟩) ((List.replicate (4 : Int).toNat (0 : Int)).length) ((4 : Int).toNat)), (.slice (some ⟨b_15661, 0, none⟩) (([3] : List Int).length) 1), (.int .i64 1), (.int .i64 0), (.slice none 0 0), (.slice (some ⟨b_15662, 0, none⟩) (([(-1000)] : List Int).length) 1)]]) .here); exact w_timebase_Skew (Z := _) (ao_13931 := (some ⟨b_15659, 0, none⟩)) (cap_13932 := 4) (ao_13934 := (some ⟨b_15660, 0, none⟩)) (cap_13935 := ((4 : Int).toNat)) (ao_13937 := (some ⟨b_15661, 0, none⟩)) (cap_13938 := 1) (ao_13940 := none) (cap_13941 := 0) (ao_13943 := (some ⟨b_15662, 0, none⟩)) (cap_13944 := 1) (ao_13947 := (some ⟨b_15659, 0, none⟩)) (cap_13948 := 4) (s_13930 := (⟨([0, 10, 20, 30] : List Int), List.replicate (4 : Int).toNat (0 : Int), ([3] : List Int), 1, 0, [], ([(-1000)] : List Int)⟩ : Stimebase_Setup)) (clocks_13946 := ([0, 10, 20, 30] : List Int)) (r := x_15716) w pz (hf_15699.mono (hle_15701.trans (hle_15704.trans (hle_15707.trans ((Zle.left _ _).trans (Zle.assoc _ _ _)))))) (hf_15702.mono (hle_15704.trans (hle_15707.trans ((Zle.left _ _).trans (Zle.assoc _ _ _))))) (hf_15705.mono (hle_15707.trans ((Zle.left _ _).trans (Zle.assoc _ _ _)))) (ZS.nil _ _ _) (hf_15708.mono ((Zle.left _ _).trans (Zle.assoc _ _ _))) (hf_15699.mono (hle_15701.trans (hle_15704.trans (hle_15707.trans ((Zle.left _ _).trans (Zle.assoc _ _ _)))))) hx_15717) ?_
  refine WL.quiet (d := 29) rfl rfl rfl (q_move rfl) ?_
  refine WL.quiet (d := 34) rfl rfl rfl (q_extract rfl rfl) ?_
  refine WL.quiet (d := 35) rfl rfl rfl (q_extract rfl rfl) ?_
  refine WL.quiet (d := 6) rfl rfl rfl (q_assign rfl) ?_
  refine WL.quiet (d := 7) rfl rfl rfl (q_assign rfl) ?_
  refine WL.nil ?_
  refine WX.then ?_
  refine WC.seq ?_
  obtain ⟨x_15718, hx_15719, h⟩ := bind_elim h
  refine WC.region ?_
  refine WL.quiet (d := 37) rfl rfl rfl (q_loadA (cs := [(.slice (some ⟨b_15659, 0, none⟩) (([0, 10, 20, 30] : List Int).length) 4), (.slice (some ⟨b_15660, 0, none⟩) ((List.replicate (4 : Int).toNat (0 : Int)).length) ((4 : Int).toNat)), (.slice (some ⟨b_15661, 0, none⟩) (([3] : List Int).length) 1), (.int .i64 1), (.int .i64 0), (.slice none 0 0), (.slice (some ⟨b_15662, 0, none⟩) (([(-1000)] : List Int).length) 1)]) aggT_24 rfl rfl (rd_all (.there (.there (.there (.there .here)))))) ?_
  refine WL.callD (dd := 38) rfl rfl rfl (run_call (l := [.tmp 37]) Try.call18 (.cons rfl .nil)) (.nil : Sel [fz (Zn_15706 ++ Zn_15709), row (.slice ao_15710 x_15688.1.length cap_15711) 22 1 cs_15712, mat 3 1 e3 m_15673, row (.slice ao_15671 x_15664.1.length cap_15672) 22 1 (m_15673.flatMap em), stb b_15663 24 [(.slice (some ⟨b_15659, 0, none⟩) (([0, 10, 20, 30] : List Int).length) 4), (.slice (some ⟨b_15660, 0, none⟩) ((List.replicate (4 : Int).toNat (0 : Int)).length) ((4 : Int).toNat)), (.slice (some ⟨b_15661, 0, none⟩) (([3] : List Int).length) 1), (.int .i64 1), (.int .i64 0), (.slice none 0 0), (.slice (some ⟨b_15662, 0, none⟩) (([(-1000)] : List Int).length) 1)]] [] [fz (Zn_15706 ++ Zn_15709), row (.slice ao_15710 x_15688.1.length cap_15711) 22 1 cs_15712, mat 3 1 e3 m_15673, row (.slice ao_15671 x_15664.1.length cap_15672) 22 1 (m_15673.flatMap em), stb b_15663 24 [(.slice (some ⟨b_15659, 0, none⟩) (([0, 10, 20, 30] : List Int).length) 4), (.slice (some ⟨b_15660, 0, none⟩) ((List.replicate (4 : Int).toNat (0 : Int)).length) ((4 : Int).toNat)), (.slice (some ⟨b_15661, 0, none⟩) (([3] : List Int).length) 1), (.int .i64 1), (.int .i64 0), (.slice none 0 0), (.slice (some ⟨b_15662, 0, none⟩) (([(-1000)] : List Int).length) 1)]]) (fun w hw => by have pz := (hz.call2 hw (.nil : Sel [fz (Zn_15706 ++ Zn_15709), row (.slice ao_15710 x_15688.1.length cap_15711) 22 1 cs_15712, mat 3 1 e3 m_15673, row (.slice ao_15671 x_15664.1.length cap_15672) 22 1 (m_15673.flatMap em), stb b_15663 24 [(.slice (some ⟨b_15659, 0, none⟩) (([0, 10, 20, 30] : List Int).length) 4), (.slice (some ⟨b_15660, 0, none⟩) ((List.replicate (4 : Int).toNat (0 : Int)).length) ((4 : Int).toNat)), (.slice (some ⟨b_15661, 0, none⟩) (([3] : List Int).length) 1), (.int .i64 1), (.int .i64 0), (.slice none 0 0), (.slice (some ⟨b_15662, 0, none⟩) (([(-1000)] : List Int).length) 1)]] [] [fz (Zn_15706 ++ Zn_15709), row (.slice ao_15710 x_15688.1.length cap_15711) 22 1 cs_15712, mat 3 1 e3 m_15673, row (.slice ao_15671 x_15664.1.length cap_15672) 22 1 (m_15673.flatMap em), stb b_15663 24 [(.slice (some ⟨b_15659, 0, none⟩) (([0, 10, 20, 30] : List Int).length) 4), (.slice (some ⟨b_15660, 0, none⟩) ((List.replicate (4 : Int).toNat (0 : Int)).length) ((4 : Int).toNat)), (.slice (some ⟨b_15661, 0, none⟩) (([3] : List Int).length) 1), (.int .i64 1), (.int .i64 0), (.slice none 0 0), (.slice (some ⟨b_15662, 0, none⟩) (([(-1000)] : List Int).length) 1)]]) .here); exact w_timebase_Bound (Z := _) (ao_15082 := (some ⟨b_15659, 0, none⟩)) (cap_15083 := 4) (ao_15085 := (some ⟨b_15660, 0, none⟩)) (cap_15086 := ((4 : Int).toNat)) (ao_15088 := (some ⟨b_15661, 0, none⟩)) (cap_15089 := 1) (ao_15091 := none) (cap_15092 := 0) (ao_15094 := (some ⟨b_15662, 0, none⟩)) (cap_15095 := 1) (s_15081 := (⟨([0, 10, 20, 30] : List Int), List.replicate (4 : Int).toNat (0 : Int), ([3] : List Int), 1, 0, [], ([(-1000)] : List Int)⟩ : Stimebase_Setup)) (r := x_15718) w pz (hf_15699.mono (hle_15701.trans (hle_15704.trans (hle_15707.trans ((Zle.left _ _).trans (Zle.assoc _ _ _)))))) (hf_15702.mono (hle_15704.trans (hle_15707.trans ((Zle.left _ _).trans (Zle.assoc _ _ _))))) (hf_15705.mono (hle_15707.trans ((Zle.left _ _).trans (Zle.assoc _ _ _)))) (ZS.nil _ _ _) (hf_15708.mono ((Zle.left _ _).trans (Zle.assoc _ _ _))) hx_15719) ?_
  refine WL.quiet (d := 36) rfl rfl rfl (q_move rfl) ?_
  refine WL.quiet (d := 39) rfl rfl rfl (q_extract rfl rfl) ?_
  refine WL.quiet (d := 40) rfl rfl rfl (q_extract rfl rfl) ?_
  refine WL.quiet (d := 8) rfl rfl rfl (q_assign rfl) ?_
  refine WL.quiet (d := 9) rfl rfl rfl (q_assign rfl) ?_
  refine WL.nil ?_
  refine WX.then ?_
  refine WC.seq ?_
  refine WC.seq ?_
  obtain ⟨b_15753, hb_15754, h⟩ := bind_elim h
  refine WC.region ?_
  refine WL.quiet (d := 41) rfl rfl rfl (q_move rfl) ?_
  refine WL.quiet (d := 42) rfl rfl rfl (q_move rfl) ?_
  refine WL.quiet (d := 43) rfl rfl rfl (q_add rfl rfl rfl) ?_
  refine WL.quiet (d := 44) rfl rfl rfl (q_move rfl) ?_
  refine WL.quiet (d := 45) rfl rfl rfl (q_add rfl rfl rfl) ?_
  refine WL.quiet (d := 46) rfl rfl rfl (q_move rfl) ?_
  refine WL.quiet (d := 47) rfl rfl rfl (q_add rfl rfl rfl) ?_
  refine WL.quiet (d := 48) rfl rfl rfl (q_neq rfl rfl) ?_
  refine WL.quiet (d := 49) rfl rfl rfl (q_move rfl) ?_
  refine WL.cut0 True [(1, (.pointer (some ⟨b_15663, 0, none⟩))), (2, (.slice ao_15671 x_15664.1.length cap_15672)), (4, (.slice ao_15710 x_15688.1.length cap_15711)), (6, (.int .i64 x_15716.1)), (8, (.int .i64 x_15718.1)), (53, (.bool ((decide ((i64 ((i64 ((i64 (x_15664.2 + x_15688.2)) + x_15716.2)) + x_15718.2)) ≠ 0)) || (decide (((x_15664.1.length : Nat) : Int) ≠ 4)))))] [fz (Zn_15706 ++ Zn_15709), row (.slice ao_15710 x_15688.1.length cap_15711) 22 1 cs_15712, mat 3 1 e3 m_15673, row (.slice ao_15671 x_15664.1.length cap_15672) 22 1 (m_15673.flatMap em), stb b_15663 24 [(.slice (some ⟨b_15659, 0, none⟩) (([0, 10, 20, 30] : List Int).length) 4), (.slice (some ⟨b_15660, 0, none⟩) ((List.replicate (4 : Int).toNat (0 : Int)).length) ((4 : Int).toNat)), (.slice (some ⟨b_15661, 0, none⟩) (([3] : List Int).length) 1), (.int .i64 1), (.int .i64 0), (.slice none 0 0), (.slice (some ⟨b_15662, 0, none⟩) (([(-1000)] : List Int).length) 1)]] 4 ?_ (fun _ => ?_)
  · rcases Bool.eq_false_or_eq_true (decide ((i64 ((i64 ((i64 (x_15664.2 + x_15688.2)) + x_15716.2)) + x_15718.2)) ≠ 0)) with hb' | hb'
    · have hg_15755 := hb'; clear hb'
      refine WL.pin (i := 49) rfl hg_15755 ?_
      refine WL.skip rfl rfl rfl ?_
      refine WL.skip rfl rfl rfl ?_
      refine WL.skip rfl rfl rfl ?_
      refine WL.quiet (d := 53) rfl rfl rfl (q_pickT rfl rfl) ?_
      exact WL.cutEnd () trivial (.cons rfl (.cons rfl (.cons rfl (.cons rfl (.cons rfl (.cons (some_bool (or_l hg_15755)) .nil)))))) (.cons .here (.cons .here (.cons .here (.cons .here (.cons .here .nil)))))
    · have hg_15756 := hb'; clear hb'
      refine WL.pin (i := 49) rfl hg_15756 ?_
      refine WL.quiet (d := 50) rfl rfl rfl (q_move rfl) ?_
      refine WL.quiet (d := 51) rfl rfl rfl (q_len Try.underlying30 rfl) ?_
      refine WL.quiet (d := 52) rfl rfl rfl (q_neq rfl rfl) ?_
      refine WL.quiet (d := 53) rfl rfl rfl (q_pickF rfl rfl) ?_
      exact WL.cutEnd () trivial (.cons rfl (.cons rfl (.cons rfl (.cons rfl (.cons rfl (.cons (some_bool (or_r hg_15756)) .nil)))))) (.cons .here (.cons .here (.cons .here (.cons .here (.cons .here .nil)))))
  · skip
    refine WL.quiet (d := 54) rfl rfl rfl (q_move rfl) ?_
    refine WL.cut0 True [(1, (.pointer (some ⟨b_15663, 0, none⟩))), (4, (.slice ao_15710 x_15688.1.length cap_15711)), (6, (.int .i64 x_15716.1)), (8, (.int .i64 x_15718.1)), (61, (.bool b_15753))] [fz (Zn_15706 ++ Zn_15709), row (.slice ao_15710 x_15688.1.length cap_15711) 22 1 cs_15712, mat 3 1 e3 m_15673, row (.slice ao_15671 x_15664.1.length cap_15672) 22 1 (m_15673.flatMap em), stb b_15663 24 [(.slice (some ⟨b_15659, 0, none⟩) (([0, 10, 20, 30] : List Int).length) 4), (.slice (some ⟨b_15660, 0, none⟩) ((List.replicate (4 : Int).toNat (0 : Int)).length) ((4 : Int).toNat)), (.slice (some ⟨b_15661, 0, none⟩) (([3] : List Int).length) 1), (.int .i64 1), (.int .i64 0), (.slice none 0 0), (.slice (some ⟨b_15662, 0, none⟩) (([(-1000)] : List Int).length) 1)]] 7 ?_ (fun _ => ?_)
    · rcases Bool.eq_false_or_eq_true ((decide ((i64 ((i64 ((i64 (x_15664.2 + x_15688.2)) + x_15716.2)) + x_15718.2)) ≠ 0)) || (decide (((x_15664.1.length : Nat) : Int) ≠ 4))) with hb' | hb'
      · have hg_15757 := hb'; clear hb'
        have hq_15758 := ite_t hb_15754 hg_15757
        replace hq_15758 := Option.some.inj hq_15758
        refine WL.pin (i := 54) rfl hg_15757 ?_
        refine WL.skip rfl rfl rfl ?_
        refine WL.skip rfl rfl rfl ?_
        refine WL.skip rfl rfl rfl ?_
        refine WL.skip rfl rfl rfl ?_
        refine WL.skip rfl rfl rfl ?_
        refine WL.skip rfl rfl rfl ?_
        refine WL.quiet (d := 61) rfl rfl rfl (q_pickT rfl rfl) ?_
        exact WL.cutEnd () trivial (.cons rfl (.cons rfl (.cons rfl (.cons rfl (.cons (some_bool hq_15758) .nil))))) (.cons .here (.cons .here (.cons .here (.cons .here (.cons .here .nil)))))
      · have hg_15759 := hb'; clear hb'
        have hq_15760 := ite_f hb_15754 hg_15759
        obtain ⟨c_15746, hq_15760⟩ := chk_elim hq_15760
        obtain ⟨x_15751, hx_15752, hq_15760⟩ := bind_elim hq_15760
        replace hq_15760 := Option.some.inj hq_15760
        refine WL.pin (i := 54) rfl hg_15759 ?_
        refine WL.quiet (d := 55) rfl rfl rfl (q_move rfl) ?_
        refine WL.know (fun w hw => Hp.expose (.there (.there (.there .here))) hw (by intro hz'; have := c_15746; rw [hz'] at this; omega)) ?_
        rintro ⟨b_15761, rfl⟩
        refine WL.quiet (d := 56) rfl rfl rfl (q_indexAddr elT_30 rfl rfl c_15746.1 c_15746.2 rowAdd) ?_
        obtain ⟨tl_15762, hd_15763⟩ := mat_rd hf_15674 c_15746
        refine WL.quiet (d := 57) rfl rfl rfl (q_load1 oneT_22 rfl (rd_row (.there (.there (.there .here))) (drop_rd hd_15763 0 _ rfl))) ?_
        refine WL.new (dd := 58) rfl rfl rfl (e_buildSlice (cs := ([0, 10, 20, (-970)] : List Int).flatMap e3) elT_22 (Eos.parts (l := [.const (.int .i64 0), .const (.int .i64 10), .const (.int .i64 20), .const (.int .i64 (-970))]) (.cons rfl (.cons rfl (.cons rfl (.cons rfl .nil)))) [0, 1, 2, 3]) (fun _ => by kernel_rfl) rfl (by unfold maxLen; omega)) ?_
        intro b_15764 _
        refine WL.callD (dd := 59) rfl rfl rfl (run_call (l := [.tmp 57, .tmp 58]) Try.call26 (.cons rfl (.cons rfl .nil))) (.nil : Sel [row (.slice (some ⟨b_15764, 0, none⟩) (([0, 10, 20, (-970)] : List Int).length) 4) 3 1 (([0, 10, 20, (-970)] : List Int).flatMap e3), fz (Zn_15706 ++ Zn_15709), row (.slice ao_15710 x_15688.1.length cap_15711) 22 1 cs_15712, mat 3 1 e3 m_15673, row (.slice (some ⟨b_15761, 0, none⟩) x_15664.1.length cap_15672) 22 1 (m_15673.flatMap em), stb b_15663 24 [(.slice (some ⟨b_15659, 0, none⟩) (([0, 10, 20, 30] : List Int).length) 4), (.slice (some ⟨b_15660, 0, none⟩) ((List.replicate (4 : Int).toNat (0 : Int)).length) ((4 : Int).toNat)), (.slice (some ⟨b_15661, 0, none⟩) (([3] : List Int).length) 1), (.int .i64 1), (.int .i64 0), (.slice none 0 0), (.slice (some ⟨b_15662, 0, none⟩) (([(-1000)] : List Int).length) 1)]] [] [row (.slice (some ⟨b_15764, 0, none⟩) (([0, 10, 20, (-970)] : List Int).length) 4) 3 1 (([0, 10, 20, (-970)] : List Int).flatMap e3), fz (Zn_15706 ++ Zn_15709), row (.slice ao_15710 x_15688.1.length cap_15711) 22 1 cs_15712, mat 3 1 e3 m_15673, row (.slice (some ⟨b_15761, 0, none⟩) x_15664.1.length cap_15672) 22 1 (m_15673.flatMap em), stb b_15663 24 [(.slice (some ⟨b_15659, 0, none⟩) (([0, 10, 20, 30] : List Int).length) 4), (.slice (some ⟨b_15660, 0, none⟩) ((List.replicate (4 : Int).toNat (0 : Int)).length) ((4 : Int).toNat)), (.slice (some ⟨b_15661, 0, none⟩) (([3] : List Int).length) 1), (.int .i64 1), (.int .i64 0), (.slice none 0 0), (.slice (some ⟨b_15662, 0, none⟩) (([(-1000)] : List Int).length) 1)]]) (fun w hw => by have pz := (hz.call2 hw (.nil : Sel [row (.slice (some ⟨b_15764, 0, none⟩) (([0, 10, 20, (-970)] : List Int).length) 4) 3 1 (([0, 10, 20, (-970)] : List Int).flatMap e3), fz (Zn_15706 ++ Zn_15709), row (.slice ao_15710 x_15688.1.length cap_15711) 22 1 cs_15712, mat 3 1 e3 m_15673, row (.slice (some ⟨b_15761, 0, none⟩) x_15664.1.length cap_15672) 22 1 (m_15673.flatMap em), stb b_15663 24 [(.slice (some ⟨b_15659, 0, none⟩) (([0, 10, 20, 30] : List Int).length) 4), (.slice (some ⟨b_15660, 0, none⟩) ((List.replicate (4 : Int).toNat (0 : Int)).length) ((4 : Int).toNat)), (.slice (some ⟨b_15661, 0, none⟩) (([3] : List Int).length) 1), (.int .i64 1), (.int .i64 0), (.slice none 0 0), (.slice (some ⟨b_15662, 0, none⟩) (([(-1000)] : List Int).length) 1)]] [] [row (.slice (some ⟨b_15764, 0, none⟩) (([0, 10, 20, (-970)] : List Int).length) 4) 3 1 (([0, 10, 20, (-970)] : List Int).flatMap e3), fz (Zn_15706 ++ Zn_15709), row (.slice ao_15710 x_15688.1.length cap_15711) 22 1 cs_15712, mat 3 1 e3 m_15673, row (.slice (some ⟨b_15761, 0, none⟩) x_15664.1.length cap_15672) 22 1 (m_15673.flatMap em), stb b_15663 24 [(.slice (some ⟨b_15659, 0, none⟩) (([0, 10, 20, 30] : List Int).length) 4), (.slice (some ⟨b_15660, 0, none⟩) ((List.replicate (4 : Int).toNat (0 : Int)).length) ((4 : Int).toNat)), (.slice (some ⟨b_15661, 0, none⟩) (([3] : List Int).length) 1), (.int .i64 1), (.int .i64 0), (.slice none 0 0), (.slice (some ⟨b_15662, 0, none⟩) (([(-1000)] : List Int).length) 1)]]) (.there .here)).lend hw (.nil : Sel [row (.slice (some ⟨b_15764, 0, none⟩) (([0, 10, 20, (-970)] : List Int).length) 4) 3 1 (([0, 10, 20, (-970)] : List Int).flatMap e3), fz (Zn_15706 ++ Zn_15709), row (.slice ao_15710 x_15688.1.length cap_15711) 22 1 cs_15712, mat 3 1 e3 m_15673, row (.slice (some ⟨b_15761, 0, none⟩) x_15664.1.length cap_15672) 22 1 (m_15673.flatMap em), stb b_15663 24 [(.slice (some ⟨b_15659, 0, none⟩) (([0, 10, 20, 30] : List Int).length) 4), (.slice (some ⟨b_15660, 0, none⟩) ((List.replicate (4 : Int).toNat (0 : Int)).length) ((4 : Int).toNat)), (.slice (some ⟨b_15661, 0, none⟩) (([3] : List Int).length) 1), (.int .i64 1), (.int .i64 0), (.slice none 0 0), (.slice (some ⟨b_15662, 0, none⟩) (([(-1000)] : List Int).length) 1)]] [] [row (.slice (some ⟨b_15764, 0, none⟩) (([0, 10, 20, (-970)] : List Int).length) 4) 3 1 (([0, 10, 20, (-970)] : List Int).flatMap e3), fz (Zn_15706 ++ Zn_15709), row (.slice ao_15710 x_15688.1.length cap_15711) 22 1 cs_15712, mat 3 1 e3 m_15673, row (.slice (some ⟨b_15761, 0, none⟩) x_15664.1.length cap_15672) 22 1 (m_15673.flatMap em), stb b_15663 24 [(.slice (some ⟨b_15659, 0, none⟩) (([0, 10, 20, 30] : List Int).length) 4), (.slice (some ⟨b_15660, 0, none⟩) ((List.replicate (4 : Int).toNat (0 : Int)).length) ((4 : Int).toNat)), (.slice (some ⟨b_15661, 0, none⟩) (([3] : List Int).length) 1), (.int .i64 1), (.int .i64 0), (.slice none 0 0), (.slice (some ⟨b_15662, 0, none⟩) (([(-1000)] : List Int).length) 1)]]) (B := [mat 3 1 e3 m_15673, row (.slice (some ⟨b_15764, 0, none⟩) (([0, 10, 20, (-970)] : List Int).length) 4) 3 1 (([0, 10, 20, (-970)] : List Int).flatMap e3)]) (fun _ hx' => ((.cons (.there (.there (.there .here))) (.cons .here .nil)) : Sel _ [mat 3 1 e3 m_15673, row (.slice (some ⟨b_15764, 0, none⟩) (([0, 10, 20, (-970)] : List Int).length) 4) 3 1 (([0, 10, 20, (-970)] : List Int).flatMap e3)] _).mem hx'); exact w_law33_Ints (Z := _) (ao_15127 := ((nth m_15673 0).1.1)) (cap_15128 := ((nth m_15673 0).1.2)) (ao_15131 := (some ⟨b_15764, 0, none⟩)) (cap_15132 := 4) (a_15126 := (nth x_15664.1 0)) (b_15130 := ([0, 10, 20, (-970)] : List Int)) (r := x_15751) w pz (ZA.mel (hw.lent (.nil : Sel [row (.slice (some ⟨b_15764, 0, none⟩) (([0, 10, 20, (-970)] : List Int).length) 4) 3 1 (([0, 10, 20, (-970)] : List Int).flatMap e3), fz (Zn_15706 ++ Zn_15709), row (.slice ao_15710 x_15688.1.length cap_15711) 22 1 cs_15712, mat 3 1 e3 m_15673, row (.slice (some ⟨b_15761, 0, none⟩) x_15664.1.length cap_15672) 22 1 (m_15673.flatMap em), stb b_15663 24 [(.slice (some ⟨b_15659, 0, none⟩) (([0, 10, 20, 30] : List Int).length) 4), (.slice (some ⟨b_15660, 0, none⟩) ((List.replicate (4 : Int).toNat (0 : Int)).length) ((4 : Int).toNat)), (.slice (some ⟨b_15661, 0, none⟩) (([3] : List Int).length) 1), (.int .i64 1), (.int .i64 0), (.slice none 0 0), (.slice (some ⟨b_15662, 0, none⟩) (([(-1000)] : List Int).length) 1)]] [] [row (.slice (some ⟨b_15764, 0, none⟩) (([0, 10, 20, (-970)] : List Int).length) 4) 3 1 (([0, 10, 20, (-970)] : List Int).flatMap e3), fz (Zn_15706 ++ Zn_15709), row (.slice ao_15710 x_15688.1.length cap_15711) 22 1 cs_15712, mat 3 1 e3 m_15673, row (.slice (some ⟨b_15761, 0, none⟩) x_15664.1.length cap_15672) 22 1 (m_15673.flatMap em), stb b_15663 24 [(.slice (some ⟨b_15659, 0, none⟩) (([0, 10, 20, 30] : List Int).length) 4), (.slice (some ⟨b_15660, 0, none⟩) ((List.replicate (4 : Int).toNat (0 : Int)).length) ((4 : Int).toNat)), (.slice (some ⟨b_15661, 0, none⟩) (([3] : List Int).length) 1), (.int .i64 1), (.int .i64 0), (.slice none 0 0), (.slice (some ⟨b_15662, 0, none⟩) (([(-1000)] : List Int).length) 1)]]) (B := [mat 3 1 e3 m_15673, row (.slice (some ⟨b_15764, 0, none⟩) (([0, 10, 20, (-970)] : List Int).length) 4) 3 1 (([0, 10, 20, (-970)] : List Int).flatMap e3)]) (fun _ hx' => ((.cons (.there (.there (.there .here))) (.cons .here .nil)) : Sel _ [mat 3 1 e3 m_15673, row (.slice (some ⟨b_15764, 0, none⟩) (([0, 10, 20, (-970)] : List Int).length) 4) 3 1 (([0, 10, 20, (-970)] : List Int).flatMap e3)] _).mem hx') (.head _) _) (fun _ => rfl) hf_15674 c_15746 ⟨w, pz.1⟩) (ZA.row (hw.lent (.nil : Sel [row (.slice (some ⟨b_15764, 0, none⟩) (([0, 10, 20, (-970)] : List Int).length) 4) 3 1 (([0, 10, 20, (-970)] : List Int).flatMap e3), fz (Zn_15706 ++ Zn_15709), row (.slice ao_15710 x_15688.1.length cap_15711) 22 1 cs_15712, mat 3 1 e3 m_15673, row (.slice (some ⟨b_15761, 0, none⟩) x_15664.1.length cap_15672) 22 1 (m_15673.flatMap em), stb b_15663 24 [(.slice (some ⟨b_15659, 0, none⟩) (([0, 10, 20, 30] : List Int).length) 4), (.slice (some ⟨b_15660, 0, none⟩) ((List.replicate (4 : Int).toNat (0 : Int)).length) ((4 : Int).toNat)), (.slice (some ⟨b_15661, 0, none⟩) (([3] : List Int).length) 1), (.int .i64 1), (.int .i64 0), (.slice none 0 0), (.slice (some ⟨b_15662, 0, none⟩) (([(-1000)] : List Int).length) 1)]] [] [row (.slice (some ⟨b_15764, 0, none⟩) (([0, 10, 20, (-970)] : List Int).length) 4) 3 1 (([0, 10, 20, (-970)] : List Int).flatMap e3), fz (Zn_15706 ++ Zn_15709), row (.slice ao_15710 x_15688.1.length cap_15711) 22 1 cs_15712, mat 3 1 e3 m_15673, row (.slice (some ⟨b_15761, 0, none⟩) x_15664.1.length cap_15672) 22 1 (m_15673.flatMap em), stb b_15663 24 [(.slice (some ⟨b_15659, 0, none⟩) (([0, 10, 20, 30] : List Int).length) 4), (.slice (some ⟨b_15660, 0, none⟩) ((List.replicate (4 : Int).toNat (0 : Int)).length) ((4 : Int).toNat)), (.slice (some ⟨b_15661, 0, none⟩) (([3] : List Int).length) 1), (.int .i64 1), (.int .i64 0), (.slice none 0 0), (.slice (some ⟨b_15662, 0, none⟩) (([(-1000)] : List Int).length) 1)]]) (B := [mat 3 1 e3 m_15673, row (.slice (some ⟨b_15764, 0, none⟩) (([0, 10, 20, (-970)] : List Int).length) 4) 3 1 (([0, 10, 20, (-970)] : List Int).flatMap e3)]) (fun _ hx' => ((.cons (.there (.there (.there .here))) (.cons .here .nil)) : Sel _ [mat 3 1 e3 m_15673, row (.slice (some ⟨b_15764, 0, none⟩) (([0, 10, 20, (-970)] : List Int).length) 4) 3 1 (([0, 10, 20, (-970)] : List Int).flatMap e3)] _).mem hx') (.tail _ (.head _)) _) (RR.flat (enc := e3) (fun _ => rfl) _) ⟨w, pz.1⟩) hx_15752) ?_
        refine WL.quiet (d := 60) rfl rfl rfl (q_not rfl) ?_
        refine WL.quiet (d := 61) rfl rfl rfl (q_pickF rfl rfl) ?_
        exact WL.cutEnd () trivial (.cons rfl (.cons rfl (.cons rfl (.cons rfl (.cons (some_bool hq_15760) .nil))))) (.cons (.there .here) (.cons (.there .here) (.cons (.there .here) (.cons (.there .here) (.cons (.there .here) .nil)))))
    · skip
      refine WL.quiet (d := 62) rfl rfl rfl (q_move rfl) ?_
      refine WL.cut0 True [(1, (.pointer (some ⟨b_15663, 0, none⟩))), (4, (.slice ao_15710 x_15688.1.length cap_15711)), (6, (.int .i64 x_15716.1)), (8, (.int .i64 x_15718.1)), (66, (.bool (b_15753 || (decide (((x_15688.1.length : Nat) : Int) ≠ 2)))))] [fz (Zn_15706 ++ Zn_15709), row (.slice ao_15710 x_15688.1.length cap_15711) 22 1 cs_15712, mat 3 1 e3 m_15673, row (.slice ao_15671 x_15664.1.length cap_15672) 22 1 (m_15673.flatMap em), stb b_15663 24 [(.slice (some ⟨b_15659, 0, none⟩) (([0, 10, 20, 30] : List Int).length) 4), (.slice (some ⟨b_15660, 0, none⟩) ((List.replicate (4 : Int).toNat (0 : Int)).length) ((4 : Int).toNat)), (.slice (some ⟨b_15661, 0, none⟩) (([3] : List Int).length) 1), (.int .i64 1), (.int .i64 0), (.slice none 0 0), (.slice (some ⟨b_15662, 0, none⟩) (([(-1000)] : List Int).length) 1)]] 4 ?_ (fun _ => ?_)
      · rcases Bool.eq_false_or_eq_true b_15753 with hb' | hb'
        · have hg_15765 := hb'; clear hb'
          refine WL.pin (i := 62) rfl hg_15765 ?_
          refine WL.skip rfl rfl rfl ?_
          refine WL.skip rfl rfl rfl ?_
          refine WL.skip rfl rfl rfl ?_
          refine WL.quiet (d := 66) rfl rfl rfl (q_pickT rfl rfl) ?_
          exact WL.cutEnd () trivial (.cons rfl (.cons rfl (.cons rfl (.cons rfl (.cons (some_bool (or_l hg_15765)) .nil))))) (.cons .here (.cons .here (.cons .here (.cons .here (.cons .here .nil)))))
        · have hg_15766 := hb'; clear hb'
          refine WL.pin (i := 62) rfl hg_15766 ?_
          refine WL.quiet (d := 63) rfl rfl rfl (q_move rfl) ?_
          refine WL.quiet (d := 64) rfl rfl rfl (q_len Try.underlying30 rfl) ?_
          refine WL.quiet (d := 65) rfl rfl rfl (q_neq rfl rfl) ?_
          refine WL.quiet (d := 66) rfl rfl rfl (q_pickF rfl rfl) ?_
          exact WL.cutEnd () trivial (.cons rfl (.cons rfl (.cons rfl (.cons rfl (.cons (some_bool (or_r hg_15766)) .nil))))) (.cons .here (.cons .here (.cons .here (.cons .here (.cons .here .nil)))))
      · skip
        refine WL.quiet (d := 67) rfl rfl rfl (q_move rfl) ?_
        refine WL.cut0 True [(1, (.pointer (some ⟨b_15663, 0, none⟩))), (4, (.slice ao_15710 x_15688.1.length cap_15711)), (8, (.int .i64 x_15718.1)), (70, (.bool ((b_15753 || (decide (((x_15688.1.length : Nat) : Int) ≠ 2))) || (decide (x_15716.1 ≠ 20)))))] [fz (Zn_15706 ++ Zn_15709), row (.slice ao_15710 x_15688.1.length cap_15711) 22 1 cs_15712, mat 3 1 e3 m_15673, row (.slice ao_15671 x_15664.1.length cap_15672) 22 1 (m_15673.flatMap em), stb b_15663 24 [(.slice (some ⟨b_15659, 0, none⟩) (([0, 10, 20, 30] : List Int).length) 4), (.slice (some ⟨b_15660, 0, none⟩) ((List.replicate (4 : Int).toNat (0 : Int)).length) ((4 : Int).toNat)), (.slice (some ⟨b_15661, 0, none⟩) (([3] : List Int).length) 1), (.int .i64 1), (.int .i64 0), (.slice none 0 0), (.slice (some ⟨b_15662, 0, none⟩) (([(-1000)] : List Int).length) 1)]] 3 ?_ (fun _ => ?_)
        · rcases Bool.eq_false_or_eq_true (b_15753 || (decide (((x_15688.1.length : Nat) : Int) ≠ 2))) with hb' | hb'
          · have hg_15767 := hb'; clear hb'
            refine WL.pin (i := 67) rfl hg_15767 ?_
            refine WL.skip rfl rfl rfl ?_
            refine WL.skip rfl rfl rfl ?_
            refine WL.quiet (d := 70) rfl rfl rfl (q_pickT rfl rfl) ?_
            exact WL.cutEnd () trivial (.cons rfl (.cons rfl (.cons rfl (.cons (some_bool (or_l hg_15767)) .nil)))) (.cons .here (.cons .here (.cons .here (.cons .here (.cons .here .nil)))))
          · have hg_15768 := hb'; clear hb'
            refine WL.pin (i := 67) rfl hg_15768 ?_
            refine WL.quiet (d := 68) rfl rfl rfl (q_move rfl) ?_
            refine WL.quiet (d := 69) rfl rfl rfl (q_neq rfl rfl) ?_
            refine WL.quiet (d := 70) rfl rfl rfl (q_pickF rfl rfl) ?_
            exact WL.cutEnd () trivial (.cons rfl (.cons rfl (.cons rfl (.cons (some_bool (or_r hg_15768)) .nil)))) (.cons .here (.cons .here (.cons .here (.cons .here (.cons .here .nil)))))
        · skip
          refine WL.quiet (d := 71) rfl rfl rfl (q_move rfl) ?_
          refine WL.cut0 True [(1, (.pointer (some ⟨b_15663, 0, none⟩))), (4, (.slice ao_15710 x_15688.1.length cap_15711)), (74, (.bool (((b_15753 || (decide (((x_15688.1.length : Nat) : Int) ≠ 2))) || (decide (x_15716.1 ≠ 20))) || (decide (x_15718.1 ≠ 1)))))] [fz (Zn_15706 ++ Zn_15709), row (.slice ao_15710 x_15688.1.length cap_15711) 22 1 cs_15712, mat 3 1 e3 m_15673, row (.slice ao_15671 x_15664.1.length cap_15672) 22 1 (m_15673.flatMap em), stb b_15663 24 [(.slice (some ⟨b_15659, 0, none⟩) (([0, 10, 20, 30] : List Int).length) 4), (.slice (some ⟨b_15660, 0, none⟩) ((List.replicate (4 : Int).toNat (0 : Int)).length) ((4 : Int).toNat)), (.slice (some ⟨b_15661, 0, none⟩) (([3] : List Int).length) 1), (.int .i64 1), (.int .i64 0), (.slice none 0 0), (.slice (some ⟨b_15662, 0, none⟩) (([(-1000)] : List Int).length) 1)]] 3 ?_ (fun _ => ?_)
          · rcases Bool.eq_false_or_eq_true ((b_15753 || (decide (((x_15688.1.length : Nat) : Int) ≠ 2))) || (decide (x_15716.1 ≠ 20))) with hb' | hb'
            · have hg_15769 := hb'; clear hb'
              refine WL.pin (i := 71) rfl hg_15769 ?_
              refine WL.skip rfl rfl rfl ?_
              refine WL.skip rfl rfl rfl ?_
              refine WL.quiet (d := 74) rfl rfl rfl (q_pickT rfl rfl) ?_
              exact WL.cutEnd () trivial (.cons rfl (.cons rfl (.cons (some_bool (or_l hg_15769)) .nil))) (.cons .here (.cons .here (.cons .here (.cons .here (.cons .here .nil)))))
            · have hg_15770 := hb'; clear hb'
              refine WL.pin (i := 71) rfl hg_15770 ?_
              refine WL.quiet (d := 72) rfl rfl rfl (q_move rfl) ?_
              refine WL.quiet (d := 73) rfl rfl rfl (q_neq rfl rfl) ?_
              refine WL.quiet (d := 74) rfl rfl rfl (q_pickF rfl rfl) ?_
              exact WL.cutEnd () trivial (.cons rfl (.cons rfl (.cons (some_bool (or_r hg_15770)) .nil))) (.cons .here (.cons .here (.cons .here (.cons .here (.cons .here .nil)))))
          · skip
            refine WL.nil ?_
            refine WX.then ?_
            refine WC.cond rfl (fun hb_15771 => ?_) (fun hb_15771 => ?_)
            · replace h := ite_t h hb_15771
              refine WC.seq ?_
              refine WC.region ?_
              refine WL.quiet (d := 0) rfl rfl rfl (q_assign rfl) ?_
              refine WL.nil ?_
              refine WX.then ?_
              refine WC.ret ?_
              refine WX.thenRet ?_
              obtain rfl := Option.some.inj h
              refine WX.bpRet Try.results12 (.tmp rfl .nil) (fun w hw => ?_)
              exact ⟨(Zn_15706 ++ Zn_15709), ret1 rfl, trivial, hw.sub (.cons .here .nil)⟩
            · replace h := ite_f h hb_15771
              refine WC.skip ?_
              refine WX.then ?_
              refine WC.seq ?_
              obtain ⟨c_15772, h⟩ := chk_elim h
              obtain ⟨x_15781, hx_15782, h⟩ := bind_elim h
              refine WC.draw (fun i => [].contains i) [] rfl ?_
              refine WD.quiet (i := 0) (d := 76) (by kernel_rfl) rfl (by kernel_rfl) (by kernel_rfl) rfl rfl rfl (q_loadA (cs := [(.slice (some ⟨b_15659, 0, none⟩) (([0, 10, 20, 30] : List Int).length) 4), (.slice (some ⟨b_15660, 0, none⟩) ((List.replicate (4 : Int).toNat (0 : Int)).length) ((4 : Int).toNat)), (.slice (some ⟨b_15661, 0, none⟩) (([3] : List Int).length) 1), (.int .i64 1), (.int .i64 0), (.slice none 0 0), (.slice (some ⟨b_15662, 0, none⟩) (([(-1000)] : List Int).length) 1)]) aggT_24 rfl rfl (rd_all (.there (.there (.there (.there .here)))))) ?_
              refine WD.pure (i := 1) (d := 77) (by kernel_rfl) rfl (by kernel_rfl) (by kernel_rfl) rfl rfl rfl (fun _ => q_move rfl) ?_
              refine WD.know (fun w hw => Hp.expose (.there .here) hw (by intro hz'; have := c_15772; rw [hz'] at this; omega)) ?_
              rintro ⟨b_15783, rfl⟩
              obtain ⟨r_15787, tl_15788, hl_15789, hd_15790, ⟨ao_15784, cap_15785, rfl, hs_15786⟩⟩ := RR.elem (hf_15713.weak (fun _ _ h => p22_mono (Zle.assoc _ _ _) h)) c_15772.1 c_15772.2
              refine WD.pure (i := 2) (d := 78) (by kernel_rfl) rfl (by kernel_rfl) (by kernel_rfl) rfl rfl rfl (fun _ => q_indexAddr elT_30 rfl rfl c_15772.1 c_15772.2 rowAdd) ?_
              refine WD.quiet (i := 3) (d := 79) (by kernel_rfl) rfl (by kernel_rfl) (by kernel_rfl) rfl rfl rfl (q_load1 oneT_22 rfl (rd_row (.there .here) (drop_rd hd_15790 0 _ rfl))) ?_
              refine WD.enter (i := 4) (d := 80) (by kernel_rfl) rfl (by kernel_rfl) (by kernel_rfl) rfl rfl rfl (run_call (l := [.tmp 76, .tmp 79]) Try.call17 (.cons rfl (.cons rfl .nil))) (fun w hw => by have pz := (hz.call2 hw (.nil : Sel [fz (Zn_15706 ++ Zn_15709), row (.slice (some ⟨b_15783, 0, none⟩) x_15688.1.length cap_15711) 22 1 cs_15712, mat 3 1 e3 m_15673, row (.slice ao_15671 x_15664.1.length cap_15672) 22 1 (m_15673.flatMap em), stb b_15663 24 [(.slice (some ⟨b_15659, 0, none⟩) (([0, 10, 20, 30] : List Int).length) 4), (.slice (some ⟨b_15660, 0, none⟩) ((List.replicate (4 : Int).toNat (0 : Int)).length) ((4 : Int).toNat)), (.slice (some ⟨b_15661, 0, none⟩) (([3] : List Int).length) 1), (.int .i64 1), (.int .i64 0), (.slice none 0 0), (.slice (some ⟨b_15662, 0, none⟩) (([(-1000)] : List Int).length) 1)]] [] [fz (Zn_15706 ++ Zn_15709), row (.slice (some ⟨b_15783, 0, none⟩) x_15688.1.length cap_15711) 22 1 cs_15712, mat 3 1 e3 m_15673, row (.slice ao_15671 x_15664.1.length cap_15672) 22 1 (m_15673.flatMap em), stb b_15663 24 [(.slice (some ⟨b_15659, 0, none⟩) (([0, 10, 20, 30] : List Int).length) 4), (.slice (some ⟨b_15660, 0, none⟩) ((List.replicate (4 : Int).toNat (0 : Int)).length) ((4 : Int).toNat)), (.slice (some ⟨b_15661, 0, none⟩) (([3] : List Int).length) 1), (.int .i64 1), (.int .i64 0), (.slice none 0 0), (.slice (some ⟨b_15662, 0, none⟩) (([(-1000)] : List Int).length) 1)]]) .here); exact w_timebase_Skew (Z := _) (ao_13931 := (some ⟨b_15659, 0, none⟩)) (cap_13932 := 4) (ao_13934 := (some ⟨b_15660, 0, none⟩)) (cap_13935 := ((4 : Int).toNat)) (ao_13937 := (some ⟨b_15661, 0, none⟩)) (cap_13938 := 1) (ao_13940 := none) (cap_13941 := 0) (ao_13943 := (some ⟨b_15662, 0, none⟩)) (cap_13944 := 1) (ao_13947 := ao_15784) (cap_13948 := cap_15785) (s_13930 := (⟨([0, 10, 20, 30] : List Int), List.replicate (4 : Int).toNat (0 : Int), ([3] : List Int), 1, 0, [], ([(-1000)] : List Int)⟩ : Stimebase_Setup)) (clocks_13946 := (nth x_15688.1 1)) (r := x_15781) w pz (hf_15699.mono (hle_15701.trans (hle_15704.trans (hle_15707.trans ((Zle.left _ _).trans (Zle.assoc _ _ _)))))) (hf_15702.mono (hle_15704.trans (hle_15707.trans ((Zle.left _ _).trans (Zle.assoc _ _ _))))) (hf_15705.mono (hle_15707.trans ((Zle.left _ _).trans (Zle.assoc _ _ _)))) (ZS.nil _ _ _) (hf_15708.mono ((Zle.left _ _).trans (Zle.assoc _ _ _))) hs_15786 hx_15782) ?_
              refine WD.pure (i := 5) (d := 75) (by kernel_rfl) rfl (by kernel_rfl) (by kernel_rfl) rfl rfl rfl (fun _ => q_move rfl) ?_
              refine WD.pure (i := 6) (d := 81) (by kernel_rfl) rfl (by kernel_rfl) (by kernel_rfl) rfl rfl rfl (fun _ => q_extract rfl rfl) ?_
              refine WD.pure (i := 7) (d := 82) (by kernel_rfl) rfl (by kernel_rfl) (by kernel_rfl) rfl rfl rfl (fun _ => q_extract rfl rfl) ?_
              refine WD.pure (i := 8) (d := 10) (by kernel_rfl) rfl (by kernel_rfl) (by kernel_rfl) rfl rfl rfl (fun _ => q_assign rfl) ?_
              refine WD.pure (i := 9) (d := 11) (by kernel_rfl) rfl (by kernel_rfl) (by kernel_rfl) rfl rfl rfl (fun _ => q_assign rfl) ?_
              refine WD.done (by kernel_rfl) ?_
              refine WX.then ?_
              refine WC.seq ?_
              obtain ⟨b_15802, hb_15803, h⟩ := bind_elim h
              refine WC.region ?_
              refine WL.quiet (d := 83) rfl rfl rfl (q_move rfl) ?_
              refine WL.quiet (d := 84) rfl rfl rfl (q_eql rfl rfl) ?_
              refine WL.quiet (d := 85) rfl rfl rfl (q_move rfl) ?_
              refine WL.cut0 True [(10, (.int .i64 x_15781.1)), (91, (.bool b_15802))] [fz (Zn_15706 ++ Zn_15709), row (.slice (some ⟨b_15783, 0, none⟩) x_15688.1.length cap_15711) 22 1 cs_15712, mat 3 1 e3 m_15673, row (.slice ao_15671 x_15664.1.length cap_15672) 22 1 (m_15673.flatMap em), stb b_15663 24 [(.slice (some ⟨b_15659, 0, none⟩) (([0, 10, 20, 30] : List Int).length) 4), (.slice (some ⟨b_15660, 0, none⟩) ((List.replicate (4 : Int).toNat (0 : Int)).length) ((4 : Int).toNat)), (.slice (some ⟨b_15661, 0, none⟩) (([3] : List Int).length) 1), (.int .i64 1), (.int .i64 0), (.slice none 0 0), (.slice (some ⟨b_15662, 0, none⟩) (([(-1000)] : List Int).length) 1)]] 6 ?_ (fun _ => ?_)
              · rcases Bool.eq_false_or_eq_true (decide (x_15781.2 = 0)) with hb' | hb'
                · have hg_15804 := hb'; clear hb'
                  have hq_15805 := ite_t hb_15803 hg_15804
                  obtain ⟨c_15791, hq_15805⟩ := chk_elim hq_15805
                  obtain ⟨x_15800, hx_15801, hq_15805⟩ := bind_elim hq_15805
                  replace hq_15805 := Option.some.inj hq_15805
                  refine WL.pin (i := 85) rfl hg_15804 ?_
                  refine WL.quiet (d := 86) rfl rfl rfl (q_move rfl) ?_
                  obtain ⟨r_15809, tl_15810, hl_15811, hd_15812, ⟨ao_15806, cap_15807, rfl, hs_15808⟩⟩ := RR.elem (hf_15713.weak (fun _ _ h => p22_mono (Zle.assoc _ _ _) h)) c_15791.1 c_15791.2
                  refine WL.quiet (d := 87) rfl rfl rfl (q_indexAddr elT_30 rfl rfl c_15791.1 c_15791.2 rowAdd) ?_
                  refine WL.quiet (d := 88) rfl rfl rfl (q_load1 oneT_22 rfl (rd_row (.there .here) (drop_rd hd_15812 0 _ rfl))) ?_
                  refine WL.new (dd := 89) rfl rfl rfl (e_buildSlice (cs := ([5, 5, 5, 15] : List Int).flatMap e3) elT_22 (Eos.parts (l := [.const (.int .i64 5), .const (.int .i64 5), .const (.int .i64 5), .const (.int .i64 15)]) (.cons rfl (.cons rfl (.cons rfl (.cons rfl .nil)))) [0, 1, 2, 3]) (fun _ => by kernel_rfl) rfl (by unfold maxLen; omega)) ?_
                  intro b_15813 _
                  refine WL.callD (dd := 90) rfl rfl rfl (run_call (l := [.tmp 88, .tmp 89]) Try.call26 (.cons rfl (.cons rfl .nil))) (.nil : Sel [row (.slice (some ⟨b_15813, 0, none⟩) (([5, 5, 5, 15] : List Int).length) 4) 3 1 (([5, 5, 5, 15] : List Int).flatMap e3), fz (Zn_15706 ++ Zn_15709), row (.slice (some ⟨b_15783, 0, none⟩) x_15688.1.length cap_15711) 22 1 cs_15712, mat 3 1 e3 m_15673, row (.slice ao_15671 x_15664.1.length cap_15672) 22 1 (m_15673.flatMap em), stb b_15663 24 [(.slice (some ⟨b_15659, 0, none⟩) (([0, 10, 20, 30] : List Int).length) 4), (.slice (some ⟨b_15660, 0, none⟩) ((List.replicate (4 : Int).toNat (0 : Int)).length) ((4 : Int).toNat)), (.slice (some ⟨b_15661, 0, none⟩) (([3] : List Int).length) 1), (.int .i64 1), (.int .i64 0), (.slice none 0 0), (.slice (some ⟨b_15662, 0, none⟩) (([(-1000)] : List Int).length) 1)]] [] [row (.slice (some ⟨b_15813, 0, none⟩) (([5, 5, 5, 15] : List Int).length) 4) 3 1 (([5, 5, 5, 15] : List Int).flatMap e3), fz (Zn_15706 ++ Zn_15709), row (.slice (some ⟨b_15783, 0, none⟩) x_15688.1.length cap_15711) 22 1 cs_15712, mat 3 1 e3 m_15673, row (.slice ao_15671 x_15664.1.length cap_15672) 22 1 (m_15673.flatMap em), stb b_15663 24 [(.slice (some ⟨b_15659, 0, none⟩) (([0, 10, 20, 30] : List Int).length) 4), (.slice (some ⟨b_15660, 0, none⟩) ((List.replicate (4 : Int).toNat (0 : Int)).length) ((4 : Int).toNat)), (.slice (some ⟨b_15661, 0, none⟩) (([3] : List Int).length) 1), (.int .i64 1), (.int .i64 0), (.slice none 0 0), (.slice (some ⟨b_15662, 0, none⟩) (([(-1000)] : List Int).length) 1)]]) (fun w hw => by have pz := (hz.call2 hw (.nil : Sel [row (.slice (some ⟨b_15813, 0, none⟩) (([5, 5, 5, 15] : List Int).length) 4) 3 1 (([5, 5, 5, 15] : List Int).flatMap e3), fz (Zn_15706 ++ Zn_15709), row (.slice (some ⟨b_15783, 0, none⟩) x_15688.1.length cap_15711) 22 1 cs_15712, mat 3 1 e3 m_15673, row (.slice ao_15671 x_15664.1.length cap_15672) 22 1 (m_15673.flatMap em), stb b_15663 24 [(.slice (some ⟨b_15659, 0, none⟩) (([0, 10, 20, 30] : List Int).length) 4), (.slice (some ⟨b_15660, 0, none⟩) ((List.replicate (4 : Int).toNat (0 : Int)).length) ((4 : Int).toNat)), (.slice (some ⟨b_15661, 0, none⟩) (([3] : List Int).length) 1), (.int .i64 1), (.int .i64 0), (.slice none 0 0), (.slice (some ⟨b_15662, 0, none⟩) (([(-1000)] : List Int).length) 1)]] [] [row (.slice (some ⟨b_15813, 0, none⟩) (([5, 5, 5, 15] : List Int).length) 4) 3 1 (([5, 5, 5, 15] : List Int).flatMap e3), fz (Zn_15706 ++ Zn_15709), row (.slice (some ⟨b_15783, 0, none⟩) x_15688.1.length cap_15711) 22 1 cs_15712, mat 3 1 e3 m_15673, row (.slice ao_15671 x_15664.1.length cap_15672) 22 1 (m_15673.flatMap em), stb b_15663 24 [(.slice (some ⟨b_15659, 0, none⟩) (([0, 10, 20, 30] : List Int).length) 4), (.slice (some ⟨b_15660, 0, none⟩) ((List.replicate (4 : Int).toNat (0 : Int)).length) ((4 : Int).toNat)), (.slice (some ⟨b_15661, 0, none⟩) (([3] : List Int).length) 1), (.int .i64 1), (.int .i64 0), (.slice none 0 0), (.slice (some ⟨b_15662, 0, none⟩) (([(-1000)] : List Int).length) 1)]]) (.there .here)).lend hw (.nil : Sel [row (.slice (some ⟨b_15813, 0, none⟩) (([5, 5, 5, 15] : List Int).length) 4) 3 1 (([5, 5, 5, 15] : List Int).flatMap e3), fz (Zn_15706 ++ Zn_15709), row (.slice (some ⟨b_15783, 0, none⟩) x_15688.1.length cap_15711) 22 1 cs_15712, mat 3 1 e3 m_15673, row (.slice ao_15671 x_15664.1.length cap_15672) 22 1 (m_15673.flatMap em), stb b_15663 24 [(.slice (some ⟨b_15659, 0, none⟩) (([0, 10, 20, 30] : List Int).length) 4), (.slice (some ⟨b_15660, 0, none⟩) ((List.replicate (4 : Int).toNat (0 : Int)).length) ((4 : Int).toNat)), (.slice (some ⟨b_15661, 0, none⟩) (([3] : List Int).length) 1), (.int .i64 1), (.int .i64 0), (.slice none 0 0), (.slice (some ⟨b_15662, 0, none⟩) (([(-1000)] : List Int).length) 1)]] [] [row (.slice (some ⟨b_15813, 0, none⟩) (([5, 5, 5, 15] : List Int).length) 4) 3 1 (([5, 5, 5, 15] : List Int).flatMap e3), fz (Zn_15706 ++ Zn_15709), row (.slice (some ⟨b_15783, 0, none⟩) x_15688.1.length cap_15711) 22 1 cs_15712, mat 3 1 e3 m_15673, row (.slice ao_15671 x_15664.1.length cap_15672) 22 1 (m_15673.flatMap em), stb b_15663 24 [(.slice (some ⟨b_15659, 0, none⟩) (([0, 10, 20, 30] : List Int).length) 4), (.slice (some ⟨b_15660, 0, none⟩) ((List.replicate (4 : Int).toNat (0 : Int)).length) ((4 : Int).toNat)), (.slice (some ⟨b_15661, 0, none⟩) (([3] : List Int).length) 1), (.int .i64 1), (.int .i64 0), (.slice none 0 0), (.slice (some ⟨b_15662, 0, none⟩) (([(-1000)] : List Int).length) 1)]]) (B := [row (.slice (some ⟨b_15813, 0, none⟩) (([5, 5, 5, 15] : List Int).length) 4) 3 1 (([5, 5, 5, 15] : List Int).flatMap e3)]) (fun _ hx' => ((.cons .here .nil) : Sel _ [row (.slice (some ⟨b_15813, 0, none⟩) (([5, 5, 5, 15] : List Int).length) 4) 3 1 (([5, 5, 5, 15] : List Int).flatMap e3)] _).mem hx'); exact w_law33_Ints (Z := _) (ao_15127 := ao_15806) (cap_15128 := cap_15807) (ao_15131 := (some ⟨b_15813, 0, none⟩)) (cap_15132 := 4) (a_15126 := (nth x_15688.1 1)) (b_15130 := ([5, 5, 5, 15] : List Int)) (r := x_15800) w pz (hs_15808.mono (Zle.left _ _)) (ZA.row (hw.lent (.nil : Sel [row (.slice (some ⟨b_15813, 0, none⟩) (([5, 5, 5, 15] : List Int).length) 4) 3 1 (([5, 5, 5, 15] : List Int).flatMap e3), fz (Zn_15706 ++ Zn_15709), row (.slice (some ⟨b_15783, 0, none⟩) x_15688.1.length cap_15711) 22 1 cs_15712, mat 3 1 e3 m_15673, row (.slice ao_15671 x_15664.1.length cap_15672) 22 1 (m_15673.flatMap em), stb b_15663 24 [(.slice (some ⟨b_15659, 0, none⟩) (([0, 10, 20, 30] : List Int).length) 4), (.slice (some ⟨b_15660, 0, none⟩) ((List.replicate (4 : Int).toNat (0 : Int)).length) ((4 : Int).toNat)), (.slice (some ⟨b_15661, 0, none⟩) (([3] : List Int).length) 1), (.int .i64 1), (.int .i64 0), (.slice none 0 0), (.slice (some ⟨b_15662, 0, none⟩) (([(-1000)] : List Int).length) 1)]] [] [row (.slice (some ⟨b_15813, 0, none⟩) (([5, 5, 5, 15] : List Int).length) 4) 3 1 (([5, 5, 5, 15] : List Int).flatMap e3), fz (Zn_15706 ++ Zn_15709), row (.slice (some ⟨b_15783, 0, none⟩) x_15688.1.length cap_15711) 22 1 cs_15712, mat 3 1 e3 m_15673, row (.slice ao_15671 x_15664.1.length cap_15672) 22 1 (m_15673.flatMap em), stb b_15663 24 [(.slice (some ⟨b_15659, 0, none⟩) (([0, 10, 20, 30] : List Int).length) 4), (.slice (some ⟨b_15660, 0, none⟩) ((List.replicate (4 : Int).toNat (0 : Int)).length) ((4 : Int).toNat)), (.slice (some ⟨b_15661, 0, none⟩) (([3] : List Int).length) 1), (.int .i64 1), (.int .i64 0), (.slice none 0 0), (.slice (some ⟨b_15662, 0, none⟩) (([(-1000)] : List Int).length) 1)]]) (B := [row (.slice (some ⟨b_15813, 0, none⟩) (([5, 5, 5, 15] : List Int).length) 4) 3 1 (([5, 5, 5, 15] : List Int).flatMap e3)]) (fun _ hx' => ((.cons .here .nil) : Sel _ [row (.slice (some ⟨b_15813, 0, none⟩) (([5, 5, 5, 15] : List Int).length) 4) 3 1 (([5, 5, 5, 15] : List Int).flatMap e3)] _).mem hx') (.head _) _) (RR.flat (enc := e3) (fun _ => rfl) _) ⟨w, pz.1⟩) hx_15801) ?_
                  refine WL.quiet (d := 91) rfl rfl rfl (q_pickT rfl rfl) ?_
                  exact WL.cutEnd () trivial (.cons rfl (.cons (some_bool hq_15805) .nil)) (.cons (.there .here) (.cons (.there .here) (.cons (.there .here) (.cons (.there .here) (.cons (.there .here) .nil)))))
                · have hg_15814 := hb'; clear hb'
                  have hq_15815 := ite_f hb_15803 hg_15814
                  replace hq_15815 := Option.some.inj hq_15815
                  refine WL.pin (i := 85) rfl hg_15814 ?_
                  refine WL.skip rfl rfl rfl ?_
                  refine WL.skip rfl rfl rfl ?_
                  refine WL.skip rfl rfl rfl ?_
                  refine WL.skip rfl rfl rfl ?_
                  refine WL.skip rfl rfl rfl ?_
                  refine WL.quiet (d := 91) rfl rfl rfl (q_pickF rfl rfl) ?_
                  exact WL.cutEnd () trivial (.cons rfl (.cons (some_bool hq_15815) .nil)) (.cons .here (.cons .here (.cons .here (.cons .here (.cons .here .nil)))))
              · skip
                refine WL.quiet (d := 92) rfl rfl rfl (q_move rfl) ?_
                refine WL.cut0 True [(95, (.bool (b_15802 && (decide (x_15781.1 = 0)))))] [fz (Zn_15706 ++ Zn_15709), row (.slice (some ⟨b_15783, 0, none⟩) x_15688.1.length cap_15711) 22 1 cs_15712, mat 3 1 e3 m_15673, row (.slice ao_15671 x_15664.1.length cap_15672) 22 1 (m_15673.flatMap em), stb b_15663 24 [(.slice (some ⟨b_15659, 0, none⟩) (([0, 10, 20, 30] : List Int).length) 4), (.slice (some ⟨b_15660, 0, none⟩) ((List.replicate (4 : Int).toNat (0 : Int)).length) ((4 : Int).toNat)), (.slice (some ⟨b_15661, 0, none⟩) (([3] : List Int).length) 1), (.int .i64 1), (.int .i64 0), (.slice none 0 0), (.slice (some ⟨b_15662, 0, none⟩) (([(-1000)] : List Int).length) 1)]] 3 ?_ (fun _ => ?_)
                · rcases Bool.eq_false_or_eq_true b_15802 with hb' | hb'
                  · have hg_15816 := hb'; clear hb'
                    refine WL.pin (i := 92) rfl hg_15816 ?_
                    refine WL.quiet (d := 93) rfl rfl rfl (q_move rfl) ?_
                    refine WL.quiet (d := 94) rfl rfl rfl (q_eql rfl rfl) ?_
                    refine WL.quiet (d := 95) rfl rfl rfl (q_pickT rfl rfl) ?_
                    exact WL.cutEnd () trivial (.cons (some_bool (and_r hg_15816)) .nil) (.cons .here (.cons .here (.cons .here (.cons .here (.cons .here .nil)))))
                  · have hg_15817 := hb'; clear hb'
                    refine WL.pin (i := 92) rfl hg_15817 ?_
                    refine WL.skip rfl rfl rfl ?_
                    refine WL.skip rfl rfl rfl ?_
                    refine WL.quiet (d := 95) rfl rfl rfl (q_pickF rfl rfl) ?_
                    exact WL.cutEnd () trivial (.cons (some_bool (and_l hg_15817)) .nil) (.cons .here (.cons .here (.cons .here (.cons .here (.cons .here .nil)))))
                · skip
                  refine WL.quiet (d := 0) rfl rfl rfl (q_assign rfl) ?_
                  refine WL.nil ?_
                  refine WX.then ?_
                  refine WC.ret ?_
                  obtain rfl := Option.some.inj h
                  refine WX.bpRet Try.results12 (.tmp rfl .nil) (fun w hw => ?_)
                  exact ⟨(Zn_15706 ++ Zn_15709), ret1 rfl, trivial, hw.sub (.cons .here .nil)⟩
def m_ref34_within_L2 (l_16662 : List Int) (n_16666 : Int) (k_17050 : Option Bool) : Nat → Int → Option Bool
  | 0, _ => none
  | n_17101 + 1, i_17099 => if decide (i_17099 < ((l_16662.length : Nat) : Int)) then chk ((0 : Int) ≤ i_17099 ∧ i_17099 < ((l_16662.length : Nat) : Int)) (chk ((decide ((nth l_16662 i_17099) < (i64 (0 - n_16666)))) = false → ((0 : Int) ≤ i_17099 ∧ i_17099 < ((l_16662.length : Nat) : Int))) (if (decide ((nth l_16662 i_17099) < (i64 (0 - n_16666)))) || (decide ((nth l_16662 i_17099) > n_16666)) then some false else m_ref34_within_L2 l_16662 n_16666 k_17050 n_17101 (i64 (i_17099 + 1)))) else k_17050
theorem m_ref34_within_L2_fuel {n : Nat} {l_16662 : List Int} {n_16666 : Int} {k_17050 : Option Bool} {i_17099 : Int} {r : Bool} (h : m_ref34_within_L2 l_16662 n_16666 k_17050 n i_17099 = some r) : ∃ m, n = m + 1 := by
  cases n with
  | zero => cases h
  | succ m => exact ⟨m, rfl⟩

/-- nacelleref34.within -/
def m_ref34_within (l_16662 : List Int) (n_16666 : Int) : Option Bool :=
  jp0 (some true) fun k_17050 => m_ref34_within_L2 l_16662 n_16666 k_17050 FUEL 0

set_option maxRecDepth 20000 in
theorem w_ref34_within (Z : Zp)  (ao_16663 : Option Addr) (cap_16664 : Nat) (l_16662 : List Int) (n_16666 : Int) (r : Bool) (w₀ : World) (hz : PZ [] w₀ Z)
    (hs_16665 : ZS Z 1 (fun r x => r = e3 x) ao_16663 cap_16664 l_16662)
    (h : m_ref34_within l_16662 n_16666 = some r) :
    Calls Try.prog 28 #[(.slice ao_16663 l_16662.length cap_16664), (.int .i64 n_16666)] w₀ fun e w' => e = .returned (.bool r) ∧ Hp [] w₀ w' [] := by
  unfold m_ref34_within at h
  refine Calls.ofWC (vs := [(.slice ao_16663 l_16662.length cap_16664), (.int .i64 n_16666)]) (pre := []) (env := [(0, (.slice ao_16663 l_16662.length cap_16664)), (1, (.int .i64 n_16666))]) Try.func28 rfl Try.ntmps28 rfl (Hp.nil w₀ _) rfl ?_
  refine WC.seq ?_
  refine WC.region ?_
  refine WL.quiet (d := 4) rfl rfl rfl (q_assign rfl) ?_
  refine WL.nil ?_
  refine WX.then ?_
  obtain ⟨k_17050, hk_17051, h⟩ := jp0_elim h
  refine WC.seqMid0 ((k_17050 = some r)) ([]) ([]) ?_ ?_
  · skip
    refine WC.seq ?_
    refine WC.region ?_
    refine WL.quiet (d := 5) rfl rfl rfl (q_assign rfl) ?_
    refine WL.nil ?_
    refine WX.then ?_
    refine WC.block ?_
    refine WC.loop2 (fun (n_17100 : Nat) (i_17099 : Int) => (m_ref34_within_L2 l_16662 n_16666 k_17050 n_17100 i_17099 = some r)) (fun (n_17100 : Nat) (i_17099 : Int) => [(0, (.slice ao_16663 l_16662.length cap_16664)), (1, (.int .i64 n_16666)), (5, (.int .i64 i_17099))]) (fun (n_17100 : Nat) (i_17099 : Int) => []) (fun (n_17100 : Nat) (i_17099 : Int) => n_17100) ⟨FUEL, 0⟩ h (.cons rfl (.cons rfl (.cons rfl .nil))) .nil ?_
    rintro n_17100 i_17099 h
    obtain ⟨n_17101, rfl⟩ := m_ref34_within_L2_fuel h
    rw [m_ref34_within_L2] at h
    refine WC.seq ?_
    refine WC.seq ?_
    refine WC.region ?_
    refine WL.quiet (d := 6) rfl rfl rfl (q_move rfl) ?_
    refine WL.quiet (d := 7) rfl rfl rfl (q_move rfl) ?_
    refine WL.quiet (d := 8) rfl rfl rfl (q_len Try.underlying22 rfl) ?_
    refine WL.quiet (d := 9) rfl rfl rfl (q_lss rfl rfl) ?_
    refine WL.nil ?_
    refine WX.then ?_
    refine WC.cond rfl (fun hb_17103 => ?_) (fun hb_17103 => ?_)
    · replace h := ite_t h hb_17103
      refine WC.skip ?_
      refine WX.then ?_
      refine WC.seq ?_
      refine WC.block ?_
      refine WC.seq ?_
      obtain ⟨c_17126, h⟩ := chk_elim h
      obtain ⟨c_17136, h⟩ := chk_elim h
      refine WC.region ?_
      refine WL.quiet (d := 12) rfl rfl rfl (q_move rfl) ?_
      refine WL.quiet (d := 13) rfl rfl rfl (q_move rfl) ?_
      refine WL.znth (dd := 14) rfl rfl (Z := Z) (Pr := (fun r x => r = e3 x)) elT_22 rfl rfl hs_16665 c_17126 ?_
      rintro A_17137 r_17138 hA_17139 hl_17140 rfl
      refine WL.quiet (d := 15) rfl rfl rfl (q_load1 oneT_3 rfl (rd_z hz.pv hA_17139 rfl)) ?_
      refine WL.quiet (d := 16) rfl rfl rfl (q_move rfl) ?_
      refine WL.quiet (d := 17) rfl rfl rfl (q_neg rfl rfl) ?_
      refine WL.quiet (d := 18) rfl rfl rfl (q_lss rfl rfl) ?_
      refine WL.quiet (d := 19) rfl rfl rfl (q_move rfl) ?_
      refine WL.cut0 True [(0, (.slice ao_16663 l_16662.length cap_16664)), (1, (.int .i64 n_16666)), (5, (.int .i64 i_17099)), (26, (.bool ((decide ((nth l_16662 i_17099) < (i64 (0 - n_16666)))) || (decide ((nth l_16662 i_17099) > n_16666)))))] [] 7 ?_ (fun _ => ?_)
      · rcases Bool.eq_false_or_eq_true (decide ((nth l_16662 i_17099) < (i64 (0 - n_16666)))) with hb' | hb'
        · have hg_17141 := hb'; clear hb'
          refine WL.pin (i := 19) rfl hg_17141 ?_
          refine WL.skip rfl rfl rfl ?_
          refine WL.skip rfl rfl rfl ?_
          refine WL.skip rfl rfl rfl ?_
          refine WL.skip rfl rfl rfl ?_
          refine WL.skip rfl rfl rfl ?_
          refine WL.skip rfl rfl rfl ?_
          refine WL.quiet (d := 26) rfl rfl rfl (q_pickT rfl rfl) ?_
          exact WL.cutEnd () trivial (.cons rfl (.cons rfl (.cons rfl (.cons (some_bool (or_l hg_17141)) .nil)))) .nil
        · have hg_17142 := hb'; clear hb'
          have c_17131 := c_17136 hg_17142
          refine WL.pin (i := 19) rfl hg_17142 ?_
          refine WL.quiet (d := 20) rfl rfl rfl (q_move rfl) ?_
          refine WL.quiet (d := 21) rfl rfl rfl (q_move rfl) ?_
          refine WL.znth (dd := 22) rfl rfl (Z := Z) (Pr := (fun r x => r = e3 x)) elT_22 rfl rfl hs_16665 c_17131 ?_
          rintro A_17143 r_17144 hA_17145 hl_17146 rfl
          refine WL.quiet (d := 23) rfl rfl rfl (q_load1 oneT_3 rfl (rd_z hz.pv hA_17145 rfl)) ?_
          refine WL.quiet (d := 24) rfl rfl rfl (q_move rfl) ?_
          refine WL.quiet (d := 25) rfl rfl rfl (q_gtr rfl rfl) ?_
          refine WL.quiet (d := 26) rfl rfl rfl (q_pickF rfl rfl) ?_
          exact WL.cutEnd () trivial (.cons rfl (.cons rfl (.cons rfl (.cons (some_bool (or_r hg_17142)) .nil)))) .nil
      · skip
        refine WL.nil ?_
        refine WX.then ?_
        refine WC.cond rfl (fun hb_17147 => ?_) (fun hb_17147 => ?_)
        · replace h := ite_t h hb_17147
          refine WC.seq ?_
          refine WC.region ?_
          refine WL.quiet (d := 4) rfl rfl rfl (q_assign rfl) ?_
          refine WL.nil ?_
          refine WX.then ?_
          refine WC.ret ?_
          refine WX.blockRet ?_
          refine WX.thenRet ?_
          refine WX.thenRet ?_
          refine WX.blockRet ?_
          refine WX.thenRet ?_
          obtain rfl := Option.some.inj h
          refine WX.bpRet Try.results28 (.tmp rfl .nil) (fun w hw => ?_)
          exact ⟨ret1 rfl, hw.sub .nil⟩
        · replace h := ite_f h hb_17147
          refine WC.skip ?_
          refine WX.blockNormal ?_
          refine WX.then ?_
          refine WC.region ?_
          refine WL.quiet (d := 10) rfl rfl rfl (q_move rfl) ?_
          refine WL.quiet (d := 11) rfl rfl rfl (q_add rfl rfl rfl) ?_
          refine WL.quiet (d := 5) rfl rfl rfl (q_assign rfl) ?_
          refine WL.nil ?_
          exact WX.round (G := Nat × Int) ⟨n_17101, (i64 (i_17099 + 1))⟩ h (Nat.lt_succ_self _) (.cons rfl (.cons rfl (.cons rfl .nil))) .nil
    · replace h := ite_f h hb_17103
      refine WC.exit ?_
      refine WX.thenExit ?_
      refine WX.thenExit ?_
      refine WX.blockHit ?_
      exact WX.mid (G := Unit) () h .nil .nil
  · rintro  h
    replace h := hk_17051.symm.trans h
    refine WC.seq ?_
    refine WC.region ?_
    refine WL.quiet (d := 4) rfl rfl rfl (q_assign rfl) ?_
    refine WL.nil ?_
    refine WX.then ?_
    refine WC.ret ?_
    obtain rfl := Option.some.inj h
    refine WX.bpRet Try.results28 (.tmp rfl .nil) (fun w hw => ?_)
    exact ⟨ret1 rfl, hw.sub .nil⟩
def m_ref34_Valid_L2 (s_15866 : Stimebase_Setup) (k_17617 : Option Bool) : Nat → Int → Option Bool
  | 0, _ => none
  | n_17788 + 1, i_17786 => if decide (i_17786 < ((s_15866.fFaulty.length : Nat) : Int)) then chk ((0 : Int) ≤ i_17786 ∧ i_17786 < ((s_15866.fFaulty.length : Nat) : Int)) (chk ((decide ((nth s_15866.fFaulty i_17786) < 0)) = false → ((0 : Int) ≤ i_17786 ∧ i_17786 < ((s_15866.fFaulty.length : Nat) : Int))) (chk (((decide ((nth s_15866.fFaulty i_17786) < 0)) || (decide ((nth s_15866.fFaulty i_17786) ≥ ((s_15866.fStart.length : Nat) : Int)))) = false → ((decide (i_17786 > 0)) = true → ((0 : Int) ≤ (i64 (i_17786 - 1)) ∧ (i64 (i_17786 - 1)) < ((s_15866.fFaulty.length : Nat) : Int)))) (chk (((decide ((nth s_15866.fFaulty i_17786) < 0)) || (decide ((nth s_15866.fFaulty i_17786) ≥ ((s_15866.fStart.length : Nat) : Int)))) = false → ((decide (i_17786 > 0)) = true → ((0 : Int) ≤ i_17786 ∧ i_17786 < ((s_15866.fFaulty.length : Nat) : Int)))) (if ((decide ((nth s_15866.fFaulty i_17786) < 0)) || (decide ((nth s_15866.fFaulty i_17786) ≥ ((s_15866.fStart.length : Nat) : Int)))) || ((decide (i_17786 > 0)) && (decide ((nth s_15866.fFaulty (i64 (i_17786 - 1))) ≥ (nth s_15866.fFaulty i_17786)))) then some false else m_ref34_Valid_L2 s_15866 k_17617 n_17788 (i64 (i_17786 + 1)))))) else k_17617
theorem m_ref34_Valid_L2_fuel {n : Nat} {s_15866 : Stimebase_Setup} {k_17617 : Option Bool} {i_17786 : Int} {r : Bool} (h : m_ref34_Valid_L2 s_15866 k_17617 n i_17786 = some r) : ∃ m, n = m + 1 := by
  cases n with
  | zero => cases h
  | succ m => exact ⟨m, rfl⟩

/-- nacelleref34.Valid -/
def m_ref34_Valid (s_15866 : Stimebase_Setup) : Option Bool :=
  if ((((((((((decide (((s_15866.fStart.length : Nat) : Int) < 1)) || (decide (((s_15866.fStart.length : Nat) : Int) > 13))) || (decide (((s_15866.fDrift.length : Nat) : Int) ≠ ((s_15866.fStart.length : Nat) : Int)))) || (decide (s_15866.fF < 0))) || (decide (s_15866.fF > 13))) || (decide (((s_15866.fStart.length : Nat) : Int) < (i64 ((i64 (3 * s_15866.fF)) + 1))))) || (decide (((s_15866.fFaulty.length : Nat) : Int) > s_15866.fF))) || (decide (s_15866.fE < 0))) || (decide (s_15866.fE > 1000))) || (decide (((s_15866.fErrs.length : Nat) : Int) > 1000))) || (decide (((s_15866.fLies.length : Nat) : Int) > 1000)) then some false else jp0 ((m_ref34_within s_15866.fStart 1048576).bind fun x_17955 => (if x_17955 then (m_ref34_within s_15866.fDrift 1000).bind fun x_17957 => some x_17957 else some false).bind fun b_17959 => (if b_17959 then (m_ref34_within s_15866.fErrs s_15866.fE).bind fun x_17961 => some x_17961 else some false).bind fun b_17963 => (if b_17963 then (m_ref34_within s_15866.fLies 1048576).bind fun x_17965 => some x_17965 else some false).bind fun b_17967 => some b_17967) fun k_17617 => m_ref34_Valid_L2 s_15866 k_17617 FUEL 0

set_option maxRecDepth 20000 in
theorem w_ref34_Valid (Z : Zp)  (ao_15867 : Option Addr) (cap_15868 : Nat) (ao_15870 : Option Addr) (cap_15871 : Nat) (ao_15873 : Option Addr) (cap_15874 : Nat) (ao_15876 : Option Addr) (cap_15877 : Nat) (ao_15879 : Option Addr) (cap_15880 : Nat) (s_15866 : Stimebase_Setup) (r : Bool) (w₀ : World) (hz : PZ [] w₀ Z)
    (hs_15869 : ZS Z 1 (fun r x => r = e3 x) ao_15867 cap_15868 s_15866.fStart)
    (hs_15872 : ZS Z 1 (fun r x => r = e3 x) ao_15870 cap_15871 s_15866.fDrift)
    (hs_15875 : ZS Z 1 (fun r x => r = e3 x) ao_15873 cap_15874 s_15866.fFaulty)
    (hs_15878 : ZS Z 1 (fun r x => r = e3 x) ao_15876 cap_15877 s_15866.fErrs)
    (hs_15881 : ZS Z 1 (fun r x => r = e3 x) ao_15879 cap_15880 s_15866.fLies)
    (h : m_ref34_Valid s_15866 = some r) :
    Calls Try.prog 13 #[(.agg #[(.slice ao_15867 s_15866.fStart.length cap_15868), (.slice ao_15870 s_15866.fDrift.length cap_15871), (.slice ao_15873 s_15866.fFaulty.length cap_15874), (.int .i64 s_15866.fF), (.int .i64 s_15866.fE), (.slice ao_15876 s_15866.fErrs.length cap_15877), (.slice ao_15879 s_15866.fLies.length cap_15880)])] w₀ fun e w' => e = .returned (.bool r) ∧ Hp [] w₀ w' [] := by
  unfold m_ref34_Valid at h
  refine Calls.ofWC (vs := [(.agg #[(.slice ao_15867 s_15866.fStart.length cap_15868), (.slice ao_15870 s_15866.fDrift.length cap_15871), (.slice ao_15873 s_15866.fFaulty.length cap_15874), (.int .i64 s_15866.fF), (.int .i64 s_15866.fE), (.slice ao_15876 s_15866.fErrs.length cap_15877), (.slice ao_15879 s_15866.fLies.length cap_15880)])]) (pre := []) (env := [(0, (.agg #[(.slice ao_15867 s_15866.fStart.length cap_15868), (.slice ao_15870 s_15866.fDrift.length cap_15871), (.slice ao_15873 s_15866.fFaulty.length cap_15874), (.int .i64 s_15866.fF), (.int .i64 s_15866.fE), (.slice ao_15876 s_15866.fErrs.length cap_15877), (.slice ao_15879 s_15866.fLies.length cap_15880)]))]) Try.func13 rfl Try.ntmps13 rfl (Hp.nil w₀ _) rfl ?_
  refine WC.seq ?_
  refine WC.region ?_
  refine WL.new (dd := 1) rfl rfl rfl (e_box (cs := [(.slice ao_15867 s_15866.fStart.length cap_15868), (.slice ao_15870 s_15866.fDrift.length cap_15871), (.slice ao_15873 s_15866.fFaulty.length cap_15874), (.int .i64 s_15866.fF), (.int .i64 s_15866.fE), (.slice ao_15876 s_15866.fErrs.length cap_15877), (.slice ao_15879 s_15866.fLies.length cap_15880)]) rfl rfl) ?_
  intro b_17176 _
  refine WL.quiet (d := 2) rfl rfl rfl (q_assign rfl) ?_
  refine WL.nil ?_
  refine WX.then ?_
  refine WC.seq ?_
  refine WC.region ?_
  refine WL.quiet (d := 5) rfl rfl rfl (q_fieldAddr fo_27_0 rfl rfl) ?_
  refine WL.quiet (d := 6) rfl rfl rfl (q_load1 oneT_22 rfl (rd_stb .here rfl)) ?_
  refine WL.quiet (d := 7) rfl rfl rfl (q_len Try.underlying22 rfl) ?_
  refine WL.quiet (d := 3) rfl rfl rfl (q_assign rfl) ?_
  refine WL.nil ?_
  refine WX.then ?_
  refine WC.seq ?_
  refine WC.seq ?_
  refine WC.region ?_
  refine WL.quiet (d := 8) rfl rfl rfl (q_move rfl) ?_
  refine WL.quiet (d := 9) rfl rfl rfl (q_lss rfl rfl) ?_
  refine WL.quiet (d := 10) rfl rfl rfl (q_move rfl) ?_
  refine WL.cut0 True [(1, (.pointer (some ⟨b_17176, 0, none⟩))), (3, (.int .i64 ((s_15866.fStart.length : Nat) : Int))), (13, (.bool ((decide (((s_15866.fStart.length : Nat) : Int) < 1)) || (decide (((s_15866.fStart.length : Nat) : Int) > 13)))))] [stb b_17176 27 [(.slice ao_15867 s_15866.fStart.length cap_15868), (.slice ao_15870 s_15866.fDrift.length cap_15871), (.slice ao_15873 s_15866.fFaulty.length cap_15874), (.int .i64 s_15866.fF), (.int .i64 s_15866.fE), (.slice ao_15876 s_15866.fErrs.length cap_15877), (.slice ao_15879 s_15866.fLies.length cap_15880)]] 3 ?_ (fun _ => ?_)
  · rcases Bool.eq_false_or_eq_true (decide (((s_15866.fStart.length : Nat) : Int) < 1)) with hb' | hb'
    · have hg_17198 := hb'; clear hb'
      refine WL.pin (i := 10) rfl hg_17198 ?_
      refine WL.skip rfl rfl rfl ?_
      refine WL.skip rfl rfl rfl ?_
      refine WL.quiet (d := 13) rfl rfl rfl (q_pickT rfl rfl) ?_
      exact WL.cutEnd () trivial (.cons rfl (.cons rfl (.cons (some_bool (or_l hg_17198)) .nil))) (.cons .here .nil)
    · have hg_17199 := hb'; clear hb'
      refine WL.pin (i := 10) rfl hg_17199 ?_
      refine WL.quiet (d := 11) rfl rfl rfl (q_move rfl) ?_
      refine WL.quiet (d := 12) rfl rfl rfl (q_gtr rfl rfl) ?_
      refine WL.quiet (d := 13) rfl rfl rfl (q_pickF rfl rfl) ?_
      exact WL.cutEnd () trivial (.cons rfl (.cons rfl (.cons (some_bool (or_r hg_17199)) .nil))) (.cons .here .nil)
  · skip
    refine WL.quiet (d := 14) rfl rfl rfl (q_move rfl) ?_
    refine WL.cut0 True [(1, (.pointer (some ⟨b_17176, 0, none⟩))), (3, (.int .i64 ((s_15866.fStart.length : Nat) : Int))), (20, (.bool (((decide (((s_15866.fStart.length : Nat) : Int) < 1)) || (decide (((s_15866.fStart.length : Nat) : Int) > 13))) || (decide (((s_15866.fDrift.length : Nat) : Int) ≠ ((s_15866.fStart.length : Nat) : Int))))))] [stb b_17176 27 [(.slice ao_15867 s_15866.fStart.length cap_15868), (.slice ao_15870 s_15866.fDrift.length cap_15871), (.slice ao_15873 s_15866.fFaulty.length cap_15874), (.int .i64 s_15866.fF), (.int .i64 s_15866.fE), (.slice ao_15876 s_15866.fErrs.length cap_15877), (.slice ao_15879 s_15866.fLies.length cap_15880)]] 6 ?_ (fun _ => ?_)
    · rcases Bool.eq_false_or_eq_true ((decide (((s_15866.fStart.length : Nat) : Int) < 1)) || (decide (((s_15866.fStart.length : Nat) : Int) > 13))) with hb' | hb'
      · have hg_17200 := hb'; clear hb'
        refine WL.pin (i := 14) rfl hg_17200 ?_
        refine WL.skip rfl rfl rfl ?_
        refine WL.skip rfl rfl rfl ?_
        refine WL.skip rfl rfl rfl ?_
        refine WL.skip rfl rfl rfl ?_
        refine WL.skip rfl rfl rfl ?_
        refine WL.quiet (d := 20) rfl rfl rfl (q_pickT rfl rfl) ?_
        exact WL.cutEnd () trivial (.cons rfl (.cons rfl (.cons (some_bool (or_l hg_17200)) .nil))) (.cons .here .nil)
      · have hg_17201 := hb'; clear hb'
        refine WL.pin (i := 14) rfl hg_17201 ?_
        refine WL.quiet (d := 15) rfl rfl rfl (q_fieldAddr fo_27_1 rfl rfl) ?_
        refine WL.quiet (d := 16) rfl rfl rfl (q_load1 oneT_22 rfl (rd_stb .here rfl)) ?_
        refine WL.quiet (d := 17) rfl rfl rfl (q_len Try.underlying22 rfl) ?_
        refine WL.quiet (d := 18) rfl rfl rfl (q_move rfl) ?_
        refine WL.quiet (d := 19) rfl rfl rfl (q_neq rfl rfl) ?_
        refine WL.quiet (d := 20) rfl rfl rfl (q_pickF rfl rfl) ?_
        exact WL.cutEnd () trivial (.cons rfl (.cons rfl (.cons (some_bool (or_r hg_17201)) .nil))) (.cons .here .nil)
    · skip
      refine WL.quiet (d := 21) rfl rfl rfl (q_move rfl) ?_
      refine WL.cut0 True [(1, (.pointer (some ⟨b_17176, 0, none⟩))), (3, (.int .i64 ((s_15866.fStart.length : Nat) : Int))), (25, (.bool ((((decide (((s_15866.fStart.length : Nat) : Int) < 1)) || (decide (((s_15866.fStart.length : Nat) : Int) > 13))) || (decide (((s_15866.fDrift.length : Nat) : Int) ≠ ((s_15866.fStart.length : Nat) : Int)))) || (decide (s_15866.fF < 0)))))] [stb b_17176 27 [(.slice ao_15867 s_15866.fStart.length cap_15868), (.slice ao_15870 s_15866.fDrift.length cap_15871), (.slice ao_15873 s_15866.fFaulty.length cap_15874), (.int .i64 s_15866.fF), (.int .i64 s_15866.fE), (.slice ao_15876 s_15866.fErrs.length cap_15877), (.slice ao_15879 s_15866.fLies.length cap_15880)]] 4 ?_ (fun _ => ?_)
      · rcases Bool.eq_false_or_eq_true (((decide (((s_15866.fStart.length : Nat) : Int) < 1)) || (decide (((s_15866.fStart.length : Nat) : Int) > 13))) || (decide (((s_15866.fDrift.length : Nat) : Int) ≠ ((s_15866.fStart.length : Nat) : Int)))) with hb' | hb'
        · have hg_17202 := hb'; clear hb'
          refine WL.pin (i := 21) rfl hg_17202 ?_
          refine WL.skip rfl rfl rfl ?_
          refine WL.skip rfl rfl rfl ?_
          refine WL.skip rfl rfl rfl ?_
          refine WL.quiet (d := 25) rfl rfl rfl (q_pickT rfl rfl) ?_
          exact WL.cutEnd () trivial (.cons rfl (.cons rfl (.cons (some_bool (or_l hg_17202)) .nil))) (.cons .here .nil)
        · have hg_17203 := hb'; clear hb'
          refine WL.pin (i := 21) rfl hg_17203 ?_
          refine WL.quiet (d := 22) rfl rfl rfl (q_fieldAddr fo_27_3 rfl rfl) ?_
          refine WL.quiet (d := 23) rfl rfl rfl (q_load1 oneT_3 rfl (rd_stb .here rfl)) ?_
          refine WL.quiet (d := 24) rfl rfl rfl (q_lss rfl rfl) ?_
          refine WL.quiet (d := 25) rfl rfl rfl (q_pickF rfl rfl) ?_
          exact WL.cutEnd () trivial (.cons rfl (.cons rfl (.cons (some_bool (or_r hg_17203)) .nil))) (.cons .here .nil)
      · skip
        refine WL.quiet (d := 26) rfl rfl rfl (q_move rfl) ?_
        refine WL.cut0 True [(1, (.pointer (some ⟨b_17176, 0, none⟩))), (3, (.int .i64 ((s_15866.fStart.length : Nat) : Int))), (30, (.bool (((((decide (((s_15866.fStart.length : Nat) : Int) < 1)) || (decide (((s_15866.fStart.length : Nat) : Int) > 13))) || (decide (((s_15866.fDrift.length : Nat) : Int) ≠ ((s_15866.fStart.length : Nat) : Int)))) || (decide (s_15866.fF < 0))) || (decide (s_15866.fF > 13)))))] [stb b_17176 27 [(.slice ao_15867 s_15866.fStart.length cap_15868), (.slice ao_15870 s_15866.fDrift.length cap_15871), (.slice ao_15873 s_15866.fFaulty.length cap_15874), (.int .i64 s_15866.fF), (.int .i64 s_15866.fE), (.slice ao_15876 s_15866.fErrs.length cap_15877), (.slice ao_15879 s_15866.fLies.length cap_15880)]] 4 ?_ (fun _ => ?_)
        · rcases Bool.eq_false_or_eq_true ((((decide (((s_15866.fStart.length : Nat) : Int) < 1)) || (decide (((s_15866.fStart.length : Nat) : Int) > 13))) || (decide (((s_15866.fDrift.length : Nat) : Int) ≠ ((s_15866.fStart.length : Nat) : Int)))) || (decide (s_15866.fF < 0))) with hb' | hb'
          · have hg_17204 := hb'; clear hb'
            refine WL.pin (i := 26) rfl hg_17204 ?_
            refine WL.skip rfl rfl rfl ?_
            refine WL.skip rfl rfl rfl ?_
            refine WL.skip rfl rfl rfl ?_
            refine WL.quiet (d := 30) rfl rfl rfl (q_pickT rfl rfl) ?_
            exact WL.cutEnd () trivial (.cons rfl (.cons rfl (.cons (some_bool (or_l hg_17204)) .nil))) (.cons .here .nil)
          · have hg_17205 := hb'; clear hb'
            refine WL.pin (i := 26) rfl hg_17205 ?_
            refine WL.quiet (d := 27) rfl rfl rfl (q_fieldAddr fo_27_3 rfl rfl) ?_
            refine WL.quiet (d := 28) rfl rfl rfl (q_load1 oneT_3 rfl (rd_stb .here rfl)) ?_
            refine WL.quiet (d := 29) rfl rfl rfl (q_gtr rfl rfl) ?_
            refine WL.quiet (d := 30) rfl rfl rfl (q_pickF rfl rfl) ?_
            exact WL.cutEnd () trivial (.cons rfl (.cons rfl (.cons (some_bool (or_r hg_17205)) .nil))) (.cons .here .nil)
        · skip
          refine WL.quiet (d := 31) rfl rfl rfl (q_move rfl) ?_
          refine WL.cut0 True [(1, (.pointer (some ⟨b_17176, 0, none⟩))), (3, (.int .i64 ((s_15866.fStart.length : Nat) : Int))), (38, (.bool ((((((decide (((s_15866.fStart.length : Nat) : Int) < 1)) || (decide (((s_15866.fStart.length : Nat) : Int) > 13))) || (decide (((s_15866.fDrift.length : Nat) : Int) ≠ ((s_15866.fStart.length : Nat) : Int)))) || (decide (s_15866.fF < 0))) || (decide (s_15866.fF > 13))) || (decide (((s_15866.fStart.length : Nat) : Int) < (i64 ((i64 (3 * s_15866.fF)) + 1)))))))] [stb b_17176 27 [(.slice ao_15867 s_15866.fStart.length cap_15868), (.slice ao_15870 s_15866.fDrift.length cap_15871), (.slice ao_15873 s_15866.fFaulty.length cap_15874), (.int .i64 s_15866.fF), (.int .i64 s_15866.fE), (.slice ao_15876 s_15866.fErrs.length cap_15877), (.slice ao_15879 s_15866.fLies.length cap_15880)]] 7 ?_ (fun _ => ?_)
          · rcases Bool.eq_false_or_eq_true (((((decide (((s_15866.fStart.length : Nat) : Int) < 1)) || (decide (((s_15866.fStart.length : Nat) : Int) > 13))) || (decide (((s_15866.fDrift.length : Nat) : Int) ≠ ((s_15866.fStart.length : Nat) : Int)))) || (decide (s_15866.fF < 0))) || (decide (s_15866.fF > 13))) with hb' | hb'
            · have hg_17206 := hb'; clear hb'
              refine WL.pin (i := 31) rfl hg_17206 ?_
              refine WL.skip rfl rfl rfl ?_
              refine WL.skip rfl rfl rfl ?_
              refine WL.skip rfl rfl rfl ?_
              refine WL.skip rfl rfl rfl ?_
              refine WL.skip rfl rfl rfl ?_
              refine WL.skip rfl rfl rfl ?_
              refine WL.quiet (d := 38) rfl rfl rfl (q_pickT rfl rfl) ?_
              exact WL.cutEnd () trivial (.cons rfl (.cons rfl (.cons (some_bool (or_l hg_17206)) .nil))) (.cons .here .nil)
            · have hg_17207 := hb'; clear hb'
              refine WL.pin (i := 31) rfl hg_17207 ?_
              refine WL.quiet (d := 32) rfl rfl rfl (q_move rfl) ?_
              refine WL.quiet (d := 33) rfl rfl rfl (q_fieldAddr fo_27_3 rfl rfl) ?_
              refine WL.quiet (d := 34) rfl rfl rfl (q_load1 oneT_3 rfl (rd_stb .here rfl)) ?_
              refine WL.quiet (d := 35) rfl rfl rfl (q_mul rfl rfl rfl) ?_
              refine WL.quiet (d := 36) rfl rfl rfl (q_add rfl rfl rfl) ?_
              refine WL.quiet (d := 37) rfl rfl rfl (q_lss rfl rfl) ?_
              refine WL.quiet (d := 38) rfl rfl rfl (q_pickF rfl rfl) ?_
              exact WL.cutEnd () trivial (.cons rfl (.cons rfl (.cons (some_bool (or_r hg_17207)) .nil))) (.cons .here .nil)
          · skip
            refine WL.quiet (d := 39) rfl rfl rfl (q_move rfl) ?_
            refine WL.cut0 True [(1, (.pointer (some ⟨b_17176, 0, none⟩))), (3, (.int .i64 ((s_15866.fStart.length : Nat) : Int))), (46, (.bool (((((((decide (((s_15866.fStart.length : Nat) : Int) < 1)) || (decide (((s_15866.fStart.length : Nat) : Int) > 13))) || (decide (((s_15866.fDrift.length : Nat) : Int) ≠ ((s_15866.fStart.length : Nat) : Int)))) || (decide (s_15866.fF < 0))) || (decide (s_15866.fF > 13))) || (decide (((s_15866.fStart.length : Nat) : Int) < (i64 ((i64 (3 * s_15866.fF)) + 1))))) || (decide (((s_15866.fFaulty.length : Nat) : Int) > s_15866.fF)))))] [stb b_17176 27 [(.slice ao_15867 s_15866.fStart.length cap_15868), (.slice ao_15870 s_15866.fDrift.length cap_15871), (.slice ao_15873 s_15866.fFaulty.length cap_15874), (.int .i64 s_15866.fF), (.int .i64 s_15866.fE), (.slice ao_15876 s_15866.fErrs.length cap_15877), (.slice ao_15879 s_15866.fLies.length cap_15880)]] 7 ?_ (fun _ => ?_)
            · rcases Bool.eq_false_or_eq_true ((((((decide (((s_15866.fStart.length : Nat) : Int) < 1)) || (decide (((s_15866.fStart.length : Nat) : Int) > 13))) || (decide (((s_15866.fDrift.length : Nat) : Int) ≠ ((s_15866.fStart.length : Nat) : Int)))) || (decide (s_15866.fF < 0))) || (decide (s_15866.fF > 13))) || (decide (((s_15866.fStart.length : Nat) : Int) < (i64 ((i64 (3 * s_15866.fF)) + 1))))) with hb' | hb'
              · have hg_17208 := hb'; clear hb'
                refine WL.pin (i := 39) rfl hg_17208 ?_
                refine WL.skip rfl rfl rfl ?_
                refine WL.skip rfl rfl rfl ?_
                refine WL.skip rfl rfl rfl ?_
                refine WL.skip rfl rfl rfl ?_
                refine WL.skip rfl rfl rfl ?_
                refine WL.skip rfl rfl rfl ?_
                refine WL.quiet (d := 46) rfl rfl rfl (q_pickT rfl rfl) ?_
                exact WL.cutEnd () trivial (.cons rfl (.cons rfl (.cons (some_bool (or_l hg_17208)) .nil))) (.cons .here .nil)
              · have hg_17209 := hb'; clear hb'
                refine WL.pin (i := 39) rfl hg_17209 ?_
                refine WL.quiet (d := 40) rfl rfl rfl (q_fieldAddr fo_27_2 rfl rfl) ?_
                refine WL.quiet (d := 41) rfl rfl rfl (q_load1 oneT_22 rfl (rd_stb .here rfl)) ?_
                refine WL.quiet (d := 42) rfl rfl rfl (q_len Try.underlying22 rfl) ?_
                refine WL.quiet (d := 43) rfl rfl rfl (q_fieldAddr fo_27_3 rfl rfl) ?_
                refine WL.quiet (d := 44) rfl rfl rfl (q_load1 oneT_3 rfl (rd_stb .here rfl)) ?_
                refine WL.quiet (d := 45) rfl rfl rfl (q_gtr rfl rfl) ?_
                refine WL.quiet (d := 46) rfl rfl rfl (q_pickF rfl rfl) ?_
                exact WL.cutEnd () trivial (.cons rfl (.cons rfl (.cons (some_bool (or_r hg_17209)) .nil))) (.cons .here .nil)
            · skip
              refine WL.quiet (d := 47) rfl rfl rfl (q_move rfl) ?_
              refine WL.cut0 True [(1, (.pointer (some ⟨b_17176, 0, none⟩))), (3, (.int .i64 ((s_15866.fStart.length : Nat) : Int))), (51, (.bool ((((((((decide (((s_15866.fStart.length : Nat) : Int) < 1)) || (decide (((s_15866.fStart.length : Nat) : Int) > 13))) || (decide (((s_15866.fDrift.length : Nat) : Int) ≠ ((s_15866.fStart.length : Nat) : Int)))) || (decide (s_15866.fF < 0))) || (decide (s_15866.fF > 13))) || (decide (((s_15866.fStart.length : Nat) : Int) < (i64 ((i64 (3 * s_15866.fF)) + 1))))) || (decide (((s_15866.fFaulty.length : Nat) : Int) > s_15866.fF))) || (decide (s_15866.fE < 0)))))] [stb b_17176 27 [(.slice ao_15867 s_15866.fStart.length cap_15868), (.slice ao_15870 s_15866.fDrift.length cap_15871), (.slice ao_15873 s_15866.fFaulty.length cap_15874), (.int .i64 s_15866.fF), (.int .i64 s_15866.fE), (.slice ao_15876 s_15866.fErrs.length cap_15877), (.slice ao_15879 s_15866.fLies.length cap_15880)]] 4 ?_ (fun _ => ?_)
              · rcases Bool.eq_false_or_eq_true (((((((decide (((s_15866.fStart.length : Nat) : Int) < 1)) || (decide (((s_15866.fStart.length : Nat) : Int) > 13))) || (decide (((s_15866.fDrift.length : Nat) : Int) ≠ ((s_15866.fStart.length : Nat) : Int)))) || (decide (s_15866.fF < 0))) || (decide (s_15866.fF > 13))) || (decide (((s_15866.fStart.length : Nat) : Int) < (i64 ((i64 (3 * s_15866.fF)) + 1))))) || (decide (((s_15866.fFaulty.length : Nat) : Int) > s_15866.fF))) with hb' | hb'
                · have hg_17210 := hb'; clear hb'
                  refine WL.pin (i := 47) rfl hg_17210 ?_
                  refine WL.skip rfl rfl rfl ?_
                  refine WL.skip rfl rfl rfl ?_
                  refine WL.skip rfl rfl rfl ?_
                  refine WL.quiet (d := 51) rfl rfl rfl (q_pickT rfl rfl) ?_
                  exact WL.cutEnd () trivial (.cons rfl (.cons rfl (.cons (some_bool (or_l hg_17210)) .nil))) (.cons .here .nil)
                · have hg_17211 := hb'; clear hb'
                  refine WL.pin (i := 47) rfl hg_17211 ?_
                  refine WL.quiet (d := 48) rfl rfl rfl (q_fieldAddr fo_27_4 rfl rfl) ?_
                  refine WL.quiet (d := 49) rfl rfl rfl (q_load1 oneT_3 rfl (rd_stb .here rfl)) ?_
                  refine WL.quiet (d := 50) rfl rfl rfl (q_lss rfl rfl) ?_
                  refine WL.quiet (d := 51) rfl rfl rfl (q_pickF rfl rfl) ?_
                  exact WL.cutEnd () trivial (.cons rfl (.cons rfl (.cons (some_bool (or_r hg_17211)) .nil))) (.cons .here .nil)
              · skip
                refine WL.quiet (d := 52) rfl rfl rfl (q_move rfl) ?_
                refine WL.cut0 True [(1, (.pointer (some ⟨b_17176, 0, none⟩))), (3, (.int .i64 ((s_15866.fStart.length : Nat) : Int))), (56, (.bool (((((((((decide (((s_15866.fStart.length : Nat) : Int) < 1)) || (decide (((s_15866.fStart.length : Nat) : Int) > 13))) || (decide (((s_15866.fDrift.length : Nat) : Int) ≠ ((s_15866.fStart.length : Nat) : Int)))) || (decide (s_15866.fF < 0))) || (decide (s_15866.fF > 13))) || (decide (((s_15866.fStart.length : Nat) : Int) < (i64 ((i64 (3 * s_15866.fF)) + 1))))) || (decide (((s_15866.fFaulty.length : Nat) : Int) > s_15866.fF))) || (decide (s_15866.fE < 0))) || (decide (s_15866.fE > 1000)))))] [stb b_17176 27 [(.slice ao_15867 s_15866.fStart.length cap_15868), (.slice ao_15870 s_15866.fDrift.length cap_15871), (.slice ao_15873 s_15866.fFaulty.length cap_15874), (.int .i64 s_15866.fF), (.int .i64 s_15866.fE), (.slice ao_15876 s_15866.fErrs.length cap_15877), (.slice ao_15879 s_15866.fLies.length cap_15880)]] 4 ?_ (fun _ => ?_)
                · rcases Bool.eq_false_or_eq_true ((((((((decide (((s_15866.fStart.length : Nat) : Int) < 1)) || (decide (((s_15866.fStart.length : Nat) : Int) > 13))) || (decide (((s_15866.fDrift.length : Nat) : Int) ≠ ((s_15866.fStart.length : Nat) : Int)))) || (decide (s_15866.fF < 0))) || (decide (s_15866.fF > 13))) || (decide (((s_15866.fStart.length : Nat) : Int) < (i64 ((i64 (3 * s_15866.fF)) + 1))))) || (decide (((s_15866.fFaulty.length : Nat) : Int) > s_15866.fF))) || (decide (s_15866.fE < 0))) with hb' | hb'
                  · have hg_17212 := hb'; clear hb'
                    refine WL.pin (i := 52) rfl hg_17212 ?_
                    refine WL.skip rfl rfl rfl ?_
                    refine WL.skip rfl rfl rfl ?_
                    refine WL.skip rfl rfl rfl ?_
                    refine WL.quiet (d := 56) rfl rfl rfl (q_pickT rfl rfl) ?_
                    exact WL.cutEnd () trivial (.cons rfl (.cons rfl (.cons (some_bool (or_l hg_17212)) .nil))) (.cons .here .nil)
                  · have hg_17213 := hb'; clear hb'
                    refine WL.pin (i := 52) rfl hg_17213 ?_
                    refine WL.quiet (d := 53) rfl rfl rfl (q_fieldAddr fo_27_4 rfl rfl) ?_
                    refine WL.quiet (d := 54) rfl rfl rfl (q_load1 oneT_3 rfl (rd_stb .here rfl)) ?_
                    refine WL.quiet (d := 55) rfl rfl rfl (q_gtr rfl rfl) ?_
                    refine WL.quiet (d := 56) rfl rfl rfl (q_pickF rfl rfl) ?_
                    exact WL.cutEnd () trivial (.cons rfl (.cons rfl (.cons (some_bool (or_r hg_17213)) .nil))) (.cons .here .nil)
                · skip
                  refine WL.quiet (d := 57) rfl rfl rfl (q_move rfl) ?_
                  refine WL.cut0 True [(1, (.pointer (some ⟨b_17176, 0, none⟩))), (3, (.int .i64 ((s_15866.fStart.length : Nat) : Int))), (62, (.bool ((((((((((decide (((s_15866.fStart.length : Nat) : Int) < 1)) || (decide (((s_15866.fStart.length : Nat) : Int) > 13))) || (decide (((s_15866.fDrift.length : Nat) : Int) ≠ ((s_15866.fStart.length : Nat) : Int)))) || (decide (s_15866.fF < 0))) || (decide (s_15866.fF > 13))) || (decide (((s_15866.fStart.length : Nat) : Int) < (i64 ((i64 (3 * s_15866.fF)) + 1))))) || (decide (((s_15866.fFaulty.length : Nat) : Int) > s_15866.fF))) || (decide (s_15866.fE < 0))) || (decide (s_15866.fE > 1000))) || (decide (((s_15866.fErrs.length : Nat) : Int) > 1000)))))] [stb b_17176 27 [(.slice ao_15867 s_15866.fStart.length cap_15868), (.slice ao_15870 s_15866.fDrift.length cap_15871), (.slice ao_15873 s_15866.fFaulty.length cap_15874), (.int .i64 s_15866.fF), (.int .i64 s_15866.fE), (.slice ao_15876 s_15866.fErrs.length cap_15877), (.slice ao_15879 s_15866.fLies.length cap_15880)]] 5 ?_ (fun _ => ?_)
                  · rcases Bool.eq_false_or_eq_true (((((((((decide (((s_15866.fStart.length : Nat) : Int) < 1)) || (decide (((s_15866.fStart.length : Nat) : Int) > 13))) || (decide (((s_15866.fDrift.length : Nat) : Int) ≠ ((s_15866.fStart.length : Nat) : Int)))) || (decide (s_15866.fF < 0))) || (decide (s_15866.fF > 13))) || (decide (((s_15866.fStart.length : Nat) : Int) < (i64 ((i64 (3 * s_15866.fF)) + 1))))) || (decide (((s_15866.fFaulty.length : Nat) : Int) > s_15866.fF))) || (decide (s_15866.fE < 0))) || (decide (s_15866.fE > 1000))) with hb' | hb'
                    · have hg_17214 := hb'; clear hb'
                      refine WL.pin (i := 57) rfl hg_17214 ?_
                      refine WL.skip rfl rfl rfl ?_
                      refine WL.skip rfl rfl rfl ?_
                      refine WL.skip rfl rfl rfl ?_
                      refine WL.skip rfl rfl rfl ?_
                      refine WL.quiet (d := 62) rfl rfl rfl (q_pickT rfl rfl) ?_
                      exact WL.cutEnd () trivial (.cons rfl (.cons rfl (.cons (some_bool (or_l hg_17214)) .nil))) (.cons .here .nil)
                    · have hg_17215 := hb'; clear hb'
                      refine WL.pin (i := 57) rfl hg_17215 ?_
                      refine WL.quiet (d := 58) rfl rfl rfl (q_fieldAddr fo_27_5 rfl rfl) ?_
                      refine WL.quiet (d := 59) rfl rfl rfl (q_load1 oneT_22 rfl (rd_stb .here rfl)) ?_
                      refine WL.quiet (d := 60) rfl rfl rfl (q_len Try.underlying22 rfl) ?_
                      refine WL.quiet (d := 61) rfl rfl rfl (q_gtr rfl rfl) ?_
                      refine WL.quiet (d := 62) rfl rfl rfl (q_pickF rfl rfl) ?_
                      exact WL.cutEnd () trivial (.cons rfl (.cons rfl (.cons (some_bool (or_r hg_17215)) .nil))) (.cons .here .nil)
                  · skip
                    refine WL.quiet (d := 63) rfl rfl rfl (q_move rfl) ?_
                    refine WL.cut0 True [(1, (.pointer (some ⟨b_17176, 0, none⟩))), (3, (.int .i64 ((s_15866.fStart.length : Nat) : Int))), (68, (.bool (((((((((((decide (((s_15866.fStart.length : Nat) : Int) < 1)) || (decide (((s_15866.fStart.length : Nat) : Int) > 13))) || (decide (((s_15866.fDrift.length : Nat) : Int) ≠ ((s_15866.fStart.length : Nat) : Int)))) || (decide (s_15866.fF < 0))) || (decide (s_15866.fF > 13))) || (decide (((s_15866.fStart.length : Nat) : Int) < (i64 ((i64 (3 * s_15866.fF)) + 1))))) || (decide (((s_15866.fFaulty.length : Nat) : Int) > s_15866.fF))) || (decide (s_15866.fE < 0))) || (decide (s_15866.fE > 1000))) || (decide (((s_15866.fErrs.length : Nat) : Int) > 1000))) || (decide (((s_15866.fLies.length : Nat) : Int) > 1000)))))] [stb b_17176 27 [(.slice ao_15867 s_15866.fStart.length cap_15868), (.slice ao_15870 s_15866.fDrift.length cap_15871), (.slice ao_15873 s_15866.fFaulty.length cap_15874), (.int .i64 s_15866.fF), (.int .i64 s_15866.fE), (.slice ao_15876 s_15866.fErrs.length cap_15877), (.slice ao_15879 s_15866.fLies.length cap_15880)]] 5 ?_ (fun _ => ?_)
                    · rcases Bool.eq_false_or_eq_true ((((((((((decide (((s_15866.fStart.length : Nat) : Int) < 1)) || (decide (((s_15866.fStart.length : Nat) : Int) > 13))) || (decide (((s_15866.fDrift.length : Nat) : Int) ≠ ((s_15866.fStart.length : Nat) : Int)))) || (decide (s_15866.fF < 0))) || (decide (s_15866.fF > 13))) || (decide (((s_15866.fStart.length : Nat) : Int) < (i64 ((i64 (3 * s_15866.fF)) + 1))))) || (decide (((s_15866.fFaulty.length : Nat) : Int) > s_15866.fF))) || (decide (s_15866.fE < 0))) || (decide (s_15866.fE > 1000))) || (decide (((s_15866.fErrs.length : Nat) : Int) > 1000))) with hb' | hb'
                      · have hg_17216 := hb'; clear hb'
                        refine WL.pin (i := 63) rfl hg_17216 ?_
                        refine WL.skip rfl rfl rfl ?_
                        refine WL.skip rfl rfl rfl ?_
                        refine WL.skip rfl rfl rfl ?_
                        refine WL.skip rfl rfl rfl ?_
                        refine WL.quiet (d := 68) rfl rfl rfl (q_pickT rfl rfl) ?_
                        exact WL.cutEnd () trivial (.cons rfl (.cons rfl (.cons (some_bool (or_l hg_17216)) .nil))) (.cons .here .nil)
                      · have hg_17217 := hb'; clear hb'
                        refine WL.pin (i := 63) rfl hg_17217 ?_
                        refine WL.quiet (d := 64) rfl rfl rfl (q_fieldAddr fo_27_6 rfl rfl) ?_
                        refine WL.quiet (d := 65) rfl rfl rfl (q_load1 oneT_22 rfl (rd_stb .here rfl)) ?_
                        refine WL.quiet (d := 66) rfl rfl rfl (q_len Try.underlying22 rfl) ?_
                        refine WL.quiet (d := 67) rfl rfl rfl (q_gtr rfl rfl) ?_
                        refine WL.quiet (d := 68) rfl rfl rfl (q_pickF rfl rfl) ?_
                        exact WL.cutEnd () trivial (.cons rfl (.cons rfl (.cons (some_bool (or_r hg_17217)) .nil))) (.cons .here .nil)
                    · skip
                      refine WL.nil ?_
                      refine WX.then ?_
                      refine WC.cond rfl (fun hb_17218 => ?_) (fun hb_17218 => ?_)
                      · replace h := ite_t h hb_17218
                        refine WC.seq ?_
                        refine WC.region ?_
                        refine WL.quiet (d := 2) rfl rfl rfl (q_assign rfl) ?_
                        refine WL.nil ?_
                        refine WX.then ?_
                        refine WC.ret ?_
                        refine WX.thenRet ?_
                        obtain rfl := Option.some.inj h
                        refine WX.bpRet Try.results13 (.tmp rfl .nil) (fun w hw => ?_)
                        exact ⟨ret1 rfl, hw.sub .nil⟩
                      · replace h := ite_f h hb_17218
                        refine WC.skip ?_
                        refine WX.then ?_
                        obtain ⟨k_17617, hk_17618, h⟩ := jp0_elim h
                        refine WC.seqMid0 ((k_17617 = some r)) ([(1, (.pointer (some ⟨b_17176, 0, none⟩)))]) ([stb b_17176 27 [(.slice ao_15867 s_15866.fStart.length cap_15868), (.slice ao_15870 s_15866.fDrift.length cap_15871), (.slice ao_15873 s_15866.fFaulty.length cap_15874), (.int .i64 s_15866.fF), (.int .i64 s_15866.fE), (.slice ao_15876 s_15866.fErrs.length cap_15877), (.slice ao_15879 s_15866.fLies.length cap_15880)]]) ?_ ?_
                        · skip
                          refine WC.seq ?_
                          refine WC.region ?_
                          refine WL.quiet (d := 4) rfl rfl rfl (q_assign rfl) ?_
                          refine WL.nil ?_
                          refine WX.then ?_
                          refine WC.block ?_
                          refine WC.loop2 (fun (n_17787 : Nat) (i_17786 : Int) => (m_ref34_Valid_L2 s_15866 k_17617 n_17787 i_17786 = some r)) (fun (n_17787 : Nat) (i_17786 : Int) => [(1, (.pointer (some ⟨b_17176, 0, none⟩))), (3, (.int .i64 ((s_15866.fStart.length : Nat) : Int))), (4, (.int .i64 i_17786))]) (fun (n_17787 : Nat) (i_17786 : Int) => [stb b_17176 27 [(.slice ao_15867 s_15866.fStart.length cap_15868), (.slice ao_15870 s_15866.fDrift.length cap_15871), (.slice ao_15873 s_15866.fFaulty.length cap_15874), (.int .i64 s_15866.fF), (.int .i64 s_15866.fE), (.slice ao_15876 s_15866.fErrs.length cap_15877), (.slice ao_15879 s_15866.fLies.length cap_15880)]]) (fun (n_17787 : Nat) (i_17786 : Int) => n_17787) ⟨FUEL, 0⟩ h (.cons rfl (.cons rfl (.cons rfl .nil))) (.cons .here .nil) ?_
                          rintro n_17787 i_17786 h
                          obtain ⟨n_17788, rfl⟩ := m_ref34_Valid_L2_fuel h
                          rw [m_ref34_Valid_L2] at h
                          refine WC.seq ?_
                          refine WC.seq ?_
                          refine WC.region ?_
                          refine WL.quiet (d := 69) rfl rfl rfl (q_move rfl) ?_
                          refine WL.quiet (d := 70) rfl rfl rfl (q_fieldAddr fo_27_2 rfl rfl) ?_
                          refine WL.quiet (d := 71) rfl rfl rfl (q_load1 oneT_22 rfl (rd_stb .here rfl)) ?_
                          refine WL.quiet (d := 72) rfl rfl rfl (q_len Try.underlying22 rfl) ?_
                          refine WL.quiet (d := 73) rfl rfl rfl (q_lss rfl rfl) ?_
                          refine WL.nil ?_
                          refine WX.then ?_
                          refine WC.cond rfl (fun hb_17790 => ?_) (fun hb_17790 => ?_)
                          · replace h := ite_t h hb_17790
                            refine WC.skip ?_
                            refine WX.then ?_
                            refine WC.seq ?_
                            refine WC.block ?_
                            refine WC.seq ?_
                            obtain ⟨c_17873, h⟩ := chk_elim h
                            obtain ⟨c_17883, h⟩ := chk_elim h
                            obtain ⟨c_17896, h⟩ := chk_elim h
                            obtain ⟨c_17897, h⟩ := chk_elim h
                            refine WC.draw (fun i => [].contains i) [] rfl ?_
                            refine WD.pure (i := 0) (d := 76) (by kernel_rfl) rfl (by kernel_rfl) (by kernel_rfl) rfl rfl rfl (fun _ => q_fieldAddr fo_27_2 rfl rfl) ?_
                            refine WD.quiet (i := 1) (d := 77) (by kernel_rfl) rfl (by kernel_rfl) (by kernel_rfl) rfl rfl rfl (q_load1 oneT_22 rfl (rd_stb .here rfl)) ?_
                            refine WD.pure (i := 2) (d := 78) (by kernel_rfl) rfl (by kernel_rfl) (by kernel_rfl) rfl rfl rfl (fun _ => q_move rfl) ?_
                            refine WD.znth (j := 3) (dd := 79) (by kernel_rfl) rfl (by kernel_rfl) (by kernel_rfl) rfl rfl (Z := Z) (Pr := (fun r x => r = e3 x)) elT_22 rfl rfl hs_15875 c_17873 ?_
                            rintro A_17898 r_17899 hA_17900 hl_17901 rfl
                            refine WD.quiet (i := 4) (d := 80) (by kernel_rfl) rfl (by kernel_rfl) (by kernel_rfl) rfl rfl rfl (q_load1 oneT_3 rfl (rd_z hz.pv hA_17900 rfl)) ?_
                            refine WD.pure (i := 5) (d := 81) (by kernel_rfl) rfl (by kernel_rfl) (by kernel_rfl) rfl rfl rfl (fun _ => q_lss rfl rfl) ?_
                            refine WD.pure (i := 6) (d := 82) (by kernel_rfl) rfl (by kernel_rfl) (by kernel_rfl) rfl rfl rfl (fun _ => q_move rfl) ?_
                            refine WD.mid (fuel' := 18) [(1, (.pointer (some ⟨b_17176, 0, none⟩))), (3, (.int .i64 ((s_15866.fStart.length : Nat) : Int))), (4, (.int .i64 i_17786)), (69, (.int .i64 i_17786)), (70, (.pointer (some ⟨b_17176, 2, none⟩))), (71, (.slice ao_15873 s_15866.fFaulty.length cap_15874)), (72, (.int .i64 ((s_15866.fFaulty.length : Nat) : Int))), (73, (.bool (decide (i_17786 < ((s_15866.fFaulty.length : Nat) : Int))))), (76, (.pointer (some ⟨b_17176, 2, none⟩))), (77, (.slice ao_15873 s_15866.fFaulty.length cap_15874)), (78, (.int .i64 i_17786)), (79, (.pointer (some A_17898))), (80, (.int .i64 (nth s_15866.fFaulty i_17786))), (81, (.bool (decide ((nth s_15866.fFaulty i_17786) < 0)))), (82, (.bool (decide ((nth s_15866.fFaulty i_17786) < 0)))), (90, (.bool ((decide ((nth s_15866.fFaulty i_17786) < 0)) || (decide ((nth s_15866.fFaulty i_17786) ≥ ((s_15866.fStart.length : Nat) : Int))))))] (listedA 33 [14, 13, 12, 11, 10, 9, 8, 7, 6, 5, 4, 3, 2, 1, 0]) ?_ (fun K_17906 => ?_)
                            rotate_left
                            · rcases Bool.eq_false_or_eq_true (decide ((nth s_15866.fFaulty i_17786) < 0)) with hb' | hb'
                              · have hg_17907 := hb'; clear hb'
                                refine WD.pin (i := 82) rfl hg_17907 ?_
                                refine WD.skip (i := 7) (d := 83) (by kernel_rfl) rfl (by kernel_rfl) (by kernel_rfl) rfl rfl rfl ?_
                                refine WD.skip (i := 8) (d := 84) (by kernel_rfl) rfl (by kernel_rfl) (by kernel_rfl) rfl rfl rfl ?_
                                refine WD.skip (i := 9) (d := 85) (by kernel_rfl) rfl (by kernel_rfl) (by kernel_rfl) rfl rfl rfl ?_
                                refine WD.skip (i := 10) (d := 86) (by kernel_rfl) rfl (by kernel_rfl) (by kernel_rfl) rfl rfl rfl ?_
                                refine WD.skip (i := 11) (d := 87) (by kernel_rfl) rfl (by kernel_rfl) (by kernel_rfl) rfl rfl rfl ?_
                                refine WD.skip (i := 12) (d := 88) (by kernel_rfl) rfl (by kernel_rfl) (by kernel_rfl) rfl rfl rfl ?_
                                refine WD.skip (i := 13) (d := 89) (by kernel_rfl) rfl (by kernel_rfl) (by kernel_rfl) rfl rfl rfl ?_
                                refine WD.pure (i := 14) (d := 90) (by kernel_rfl) rfl (by kernel_rfl) (by kernel_rfl) rfl rfl rfl (fun _ => q_pickT rfl rfl) ?_
                                refine WD.reL (.cons .here .nil) ?_ K_17906
                                exact (.cons rfl (.cons rfl (.cons rfl (.cons rfl (.cons rfl (.cons rfl (.cons rfl (.cons rfl (.cons rfl (.cons rfl (.cons rfl (.cons rfl (.cons rfl (.cons rfl (.cons (some_bool (Eq.symm hg_17907)) (.cons (some_bool (or_l hg_17907)) .nil))))))))))))))))
                              · have hg_17908 := hb'; clear hb'
                                have c_17878 := c_17883 hg_17908
                                refine WD.pin (i := 82) rfl hg_17908 ?_
                                refine WD.pure (i := 7) (d := 83) (by kernel_rfl) rfl (by kernel_rfl) (by kernel_rfl) rfl rfl rfl (fun _ => q_fieldAddr fo_27_2 rfl rfl) ?_
                                refine WD.quiet (i := 8) (d := 84) (by kernel_rfl) rfl (by kernel_rfl) (by kernel_rfl) rfl rfl rfl (q_load1 oneT_22 rfl (rd_stb .here rfl)) ?_
                                refine WD.pure (i := 9) (d := 85) (by kernel_rfl) rfl (by kernel_rfl) (by kernel_rfl) rfl rfl rfl (fun _ => q_move rfl) ?_
                                refine WD.znth (j := 10) (dd := 86) (by kernel_rfl) rfl (by kernel_rfl) (by kernel_rfl) rfl rfl (Z := Z) (Pr := (fun r x => r = e3 x)) elT_22 rfl rfl hs_15875 c_17878 ?_
                                rintro A_17909 r_17910 hA_17911 hl_17912 rfl
                                refine WD.quiet (i := 11) (d := 87) (by kernel_rfl) rfl (by kernel_rfl) (by kernel_rfl) rfl rfl rfl (q_load1 oneT_3 rfl (rd_z hz.pv hA_17911 rfl)) ?_
                                refine WD.pure (i := 12) (d := 88) (by kernel_rfl) rfl (by kernel_rfl) (by kernel_rfl) rfl rfl rfl (fun _ => q_move rfl) ?_
                                refine WD.pure (i := 13) (d := 89) (by kernel_rfl) rfl (by kernel_rfl) (by kernel_rfl) rfl rfl rfl (fun _ => q_geq rfl rfl) ?_
                                refine WD.pure (i := 14) (d := 90) (by kernel_rfl) rfl (by kernel_rfl) (by kernel_rfl) rfl rfl rfl (fun _ => q_pickF rfl rfl) ?_
                                refine WD.reL (.cons .here .nil) ?_ K_17906
                                exact (.cons rfl (.cons rfl (.cons rfl (.cons rfl (.cons rfl (.cons rfl (.cons rfl (.cons rfl (.cons rfl (.cons rfl (.cons rfl (.cons rfl (.cons rfl (.cons rfl (.cons (some_bool (Eq.symm hg_17908)) (.cons (some_bool (or_r hg_17908)) .nil))))))))))))))))
                            refine WD.pure (i := 15) (d := 91) (by kernel_rfl) rfl (by kernel_rfl) (by kernel_rfl) rfl rfl rfl (fun _ => q_move rfl) ?_
                            refine WD.mid (fuel' := 0) [(1, (.pointer (some ⟨b_17176, 0, none⟩))), (3, (.int .i64 ((s_15866.fStart.length : Nat) : Int))), (4, (.int .i64 i_17786)), (69, (.int .i64 i_17786)), (70, (.pointer (some ⟨b_17176, 2, none⟩))), (71, (.slice ao_15873 s_15866.fFaulty.length cap_15874)), (72, (.int .i64 ((s_15866.fFaulty.length : Nat) : Int))), (73, (.bool (decide (i_17786 < ((s_15866.fFaulty.length : Nat) : Int))))), (76, (.pointer (some ⟨b_17176, 2, none⟩))), (77, (.slice ao_15873 s_15866.fFaulty.length cap_15874)), (78, (.int .i64 i_17786)), (79, (.pointer (some A_17898))), (80, (.int .i64 (nth s_15866.fFaulty i_17786))), (81, (.bool (decide ((nth s_15866.fFaulty i_17786) < 0)))), (82, (.bool (decide ((nth s_15866.fFaulty i_17786) < 0)))), (90, (.bool ((decide ((nth s_15866.fFaulty i_17786) < 0)) || (decide ((nth s_15866.fFaulty i_17786) ≥ ((s_15866.fStart.length : Nat) : Int)))))), (91, (.bool ((decide ((nth s_15866.fFaulty i_17786) < 0)) || (decide ((nth s_15866.fFaulty i_17786) ≥ ((s_15866.fStart.length : Nat) : Int)))))), (108, (.bool (((decide ((nth s_15866.fFaulty i_17786) < 0)) || (decide ((nth s_15866.fFaulty i_17786) ≥ ((s_15866.fStart.length : Nat) : Int)))) || ((decide (i_17786 > 0)) && (decide ((nth s_15866.fFaulty (i64 (i_17786 - 1))) ≥ (nth s_15866.fFaulty i_17786)))))))] (listedA 33 [32, 31, 30, 29, 28, 27, 26, 25, 24, 23, 22, 21, 20, 19, 18, 17, 16, 15, 14, 13, 12, 11, 10, 9, 8, 7, 6, 5, 4, 3, 2, 1, 0]) ?_ (fun K_17932 => ?_)
                            rotate_left
                            · rcases Bool.eq_false_or_eq_true ((decide ((nth s_15866.fFaulty i_17786) < 0)) || (decide ((nth s_15866.fFaulty i_17786) ≥ ((s_15866.fStart.length : Nat) : Int)))) with hb' | hb'
                              · have hg_17933 := hb'; clear hb'
                                refine WD.pin (i := 91) rfl hg_17933 ?_
                                refine WD.skip (i := 16) (d := 92) (by kernel_rfl) rfl (by kernel_rfl) (by kernel_rfl) rfl rfl rfl ?_
                                refine WD.skip (i := 17) (d := 93) (by kernel_rfl) rfl (by kernel_rfl) (by kernel_rfl) rfl rfl rfl ?_
                                refine WD.skip (i := 18) (d := 94) (by kernel_rfl) rfl (by kernel_rfl) (by kernel_rfl) rfl rfl rfl ?_
                                refine WD.skip (i := 19) (d := 95) (by kernel_rfl) rfl (by kernel_rfl) (by kernel_rfl) rfl rfl rfl ?_
                                refine WD.skip (i := 20) (d := 96) (by kernel_rfl) rfl (by kernel_rfl) (by kernel_rfl) rfl rfl rfl ?_
                                refine WD.skip (i := 21) (d := 97) (by kernel_rfl) rfl (by kernel_rfl) (by kernel_rfl) rfl rfl rfl ?_
                                refine WD.skip (i := 22) (d := 98) (by kernel_rfl) rfl (by kernel_rfl) (by kernel_rfl) rfl rfl rfl ?_
                                refine WD.skip (i := 23) (d := 99) (by kernel_rfl) rfl (by kernel_rfl) (by kernel_rfl) rfl rfl rfl ?_
                                refine WD.skip (i := 24) (d := 100) (by kernel_rfl) rfl (by kernel_rfl) (by kernel_rfl) rfl rfl rfl ?_
                                refine WD.skip (i := 25) (d := 101) (by kernel_rfl) rfl (by kernel_rfl) (by kernel_rfl) rfl rfl rfl ?_
                                refine WD.skip (i := 26) (d := 102) (by kernel_rfl) rfl (by kernel_rfl) (by kernel_rfl) rfl rfl rfl ?_
                                refine WD.skip (i := 27) (d := 103) (by kernel_rfl) rfl (by kernel_rfl) (by kernel_rfl) rfl rfl rfl ?_
                                refine WD.skip (i := 28) (d := 104) (by kernel_rfl) rfl (by kernel_rfl) (by kernel_rfl) rfl rfl rfl ?_
                                refine WD.skip (i := 29) (d := 105) (by kernel_rfl) rfl (by kernel_rfl) (by kernel_rfl) rfl rfl rfl ?_
                                refine WD.skip (i := 30) (d := 106) (by kernel_rfl) rfl (by kernel_rfl) (by kernel_rfl) rfl rfl rfl ?_
                                refine WD.skip (i := 31) (d := 107) (by kernel_rfl) rfl (by kernel_rfl) (by kernel_rfl) rfl rfl rfl ?_
                                refine WD.pure (i := 32) (d := 108) (by kernel_rfl) rfl (by kernel_rfl) (by kernel_rfl) rfl rfl rfl (fun _ => q_pickT rfl rfl) ?_
                                refine WD.reL (.cons .here .nil) ?_ K_17932
                                exact (.cons rfl (.cons rfl (.cons rfl (.cons rfl (.cons rfl (.cons rfl (.cons rfl (.cons rfl (.cons rfl (.cons rfl (.cons rfl (.cons rfl (.cons rfl (.cons rfl (.cons rfl (.cons rfl (.cons (some_bool (Eq.symm hg_17933)) (.cons (some_bool (or_l hg_17933)) .nil))))))))))))))))))
                              · have hg_17934 := hb'; clear hb'
                                have c_17894 := c_17896 hg_17934
                                have c_17895 := c_17897 hg_17934
                                refine WD.pin (i := 91) rfl hg_17934 ?_
                                refine WD.pure (i := 16) (d := 92) (by kernel_rfl) rfl (by kernel_rfl) (by kernel_rfl) rfl rfl rfl (fun _ => q_move rfl) ?_
                                refine WD.pure (i := 17) (d := 93) (by kernel_rfl) rfl (by kernel_rfl) (by kernel_rfl) rfl rfl rfl (fun _ => q_gtr rfl rfl) ?_
                                refine WD.pure (i := 18) (d := 94) (by kernel_rfl) rfl (by kernel_rfl) (by kernel_rfl) rfl rfl rfl (fun _ => q_move rfl) ?_
                                refine WD.mid (fuel' := 1) [(1, (.pointer (some ⟨b_17176, 0, none⟩))), (3, (.int .i64 ((s_15866.fStart.length : Nat) : Int))), (4, (.int .i64 i_17786)), (69, (.int .i64 i_17786)), (70, (.pointer (some ⟨b_17176, 2, none⟩))), (71, (.slice ao_15873 s_15866.fFaulty.length cap_15874)), (72, (.int .i64 ((s_15866.fFaulty.length : Nat) : Int))), (73, (.bool (decide (i_17786 < ((s_15866.fFaulty.length : Nat) : Int))))), (76, (.pointer (some ⟨b_17176, 2, none⟩))), (77, (.slice ao_15873 s_15866.fFaulty.length cap_15874)), (78, (.int .i64 i_17786)), (79, (.pointer (some A_17898))), (80, (.int .i64 (nth s_15866.fFaulty i_17786))), (81, (.bool (decide ((nth s_15866.fFaulty i_17786) < 0)))), (82, (.bool (decide ((nth s_15866.fFaulty i_17786) < 0)))), (90, (.bool ((decide ((nth s_15866.fFaulty i_17786) < 0)) || (decide ((nth s_15866.fFaulty i_17786) ≥ ((s_15866.fStart.length : Nat) : Int)))))), (91, (.bool false)), (92, (.int .i64 i_17786)), (93, (.bool (decide (i_17786 > 0)))), (94, (.bool (decide (i_17786 > 0)))), (107, (.bool ((decide (i_17786 > 0)) && (decide ((nth s_15866.fFaulty (i64 (i_17786 - 1))) ≥ (nth s_15866.fFaulty i_17786))))))] (listedA 33 [31, 30, 29, 28, 27, 26, 25, 24, 23, 22, 21, 20, 19, 18, 17, 16, 15, 14, 13, 12, 11, 10, 9, 8, 7, 6, 5, 4, 3, 2, 1, 0]) ?_ (fun K_17943 => ?_)
                                rotate_left
                                · rcases Bool.eq_false_or_eq_true (decide (i_17786 > 0)) with hb' | hb'
                                  · have hg_17944 := hb'; clear hb'
                                    have c_17884 := c_17894 hg_17944
                                    have c_17889 := c_17895 hg_17944
                                    refine WD.pin (i := 94) rfl hg_17944 ?_
                                    refine WD.pure (i := 19) (d := 95) (by kernel_rfl) rfl (by kernel_rfl) (by kernel_rfl) rfl rfl rfl (fun _ => q_fieldAddr fo_27_2 rfl rfl) ?_
                                    refine WD.quiet (i := 20) (d := 96) (by kernel_rfl) rfl (by kernel_rfl) (by kernel_rfl) rfl rfl rfl (q_load1 oneT_22 rfl (rd_stb .here rfl)) ?_
                                    refine WD.pure (i := 21) (d := 97) (by kernel_rfl) rfl (by kernel_rfl) (by kernel_rfl) rfl rfl rfl (fun _ => q_move rfl) ?_
                                    refine WD.pure (i := 22) (d := 98) (by kernel_rfl) rfl (by kernel_rfl) (by kernel_rfl) rfl rfl rfl (fun _ => q_sub rfl rfl rfl) ?_
                                    refine WD.znth (j := 23) (dd := 99) (by kernel_rfl) rfl (by kernel_rfl) (by kernel_rfl) rfl rfl (Z := Z) (Pr := (fun r x => r = e3 x)) elT_22 rfl rfl hs_15875 c_17884 ?_
                                    rintro A_17945 r_17946 hA_17947 hl_17948 rfl
                                    refine WD.quiet (i := 24) (d := 100) (by kernel_rfl) rfl (by kernel_rfl) (by kernel_rfl) rfl rfl rfl (q_load1 oneT_3 rfl (rd_z hz.pv hA_17947 rfl)) ?_
                                    refine WD.pure (i := 25) (d := 101) (by kernel_rfl) rfl (by kernel_rfl) (by kernel_rfl) rfl rfl rfl (fun _ => q_fieldAddr fo_27_2 rfl rfl) ?_
                                    refine WD.quiet (i := 26) (d := 102) (by kernel_rfl) rfl (by kernel_rfl) (by kernel_rfl) rfl rfl rfl (q_load1 oneT_22 rfl (rd_stb .here rfl)) ?_
                                    refine WD.pure (i := 27) (d := 103) (by kernel_rfl) rfl (by kernel_rfl) (by kernel_rfl) rfl rfl rfl (fun _ => q_move rfl) ?_
                                    refine WD.znth (j := 28) (dd := 104) (by kernel_rfl) rfl (by kernel_rfl) (by kernel_rfl) rfl rfl (Z := Z) (Pr := (fun r x => r = e3 x)) elT_22 rfl rfl hs_15875 c_17889 ?_
                                    rintro A_17949 r_17950 hA_17951 hl_17952 rfl
                                    refine WD.quiet (i := 29) (d := 105) (by kernel_rfl) rfl (by kernel_rfl) (by kernel_rfl) rfl rfl rfl (q_load1 oneT_3 rfl (rd_z hz.pv hA_17951 rfl)) ?_
                                    refine WD.pure (i := 30) (d := 106) (by kernel_rfl) rfl (by kernel_rfl) (by kernel_rfl) rfl rfl rfl (fun _ => q_geq rfl rfl) ?_
                                    refine WD.pure (i := 31) (d := 107) (by kernel_rfl) rfl (by kernel_rfl) (by kernel_rfl) rfl rfl rfl (fun _ => q_pickT rfl rfl) ?_
                                    refine WD.reL (.cons .here .nil) ?_ K_17943
                                    exact (.cons rfl (.cons rfl (.cons rfl (.cons rfl (.cons rfl (.cons rfl (.cons rfl (.cons rfl (.cons rfl (.cons rfl (.cons rfl (.cons rfl (.cons rfl (.cons rfl (.cons rfl (.cons rfl (.cons rfl (.cons rfl (.cons rfl (.cons (some_bool (Eq.symm hg_17944)) (.cons (some_bool (and_r hg_17944)) .nil)))))))))))))))))))))
                                  · have hg_17953 := hb'; clear hb'
                                    refine WD.pin (i := 94) rfl hg_17953 ?_
                                    refine WD.skip (i := 19) (d := 95) (by kernel_rfl) rfl (by kernel_rfl) (by kernel_rfl) rfl rfl rfl ?_
                                    refine WD.skip (i := 20) (d := 96) (by kernel_rfl) rfl (by kernel_rfl) (by kernel_rfl) rfl rfl rfl ?_
                                    refine WD.skip (i := 21) (d := 97) (by kernel_rfl) rfl (by kernel_rfl) (by kernel_rfl) rfl rfl rfl ?_
                                    refine WD.skip (i := 22) (d := 98) (by kernel_rfl) rfl (by kernel_rfl) (by kernel_rfl) rfl rfl rfl ?_
                                    refine WD.skip (i := 23) (d := 99) (by kernel_rfl) rfl (by kernel_rfl) (by kernel_rfl) rfl rfl rfl ?_
                                    refine WD.skip (i := 24) (d := 100) (by kernel_rfl) rfl (by kernel_rfl) (by kernel_rfl) rfl rfl rfl ?_
                                    refine WD.skip (i := 25) (d := 101) (by kernel_rfl) rfl (by kernel_rfl) (by kernel_rfl) rfl rfl rfl ?_
                                    refine WD.skip (i := 26) (d := 102) (by kernel_rfl) rfl (by kernel_rfl) (by kernel_rfl) rfl rfl rfl ?_
                                    refine WD.skip (i := 27) (d := 103) (by kernel_rfl) rfl (by kernel_rfl) (by kernel_rfl) rfl rfl rfl ?_
                                    refine WD.skip (i := 28) (d := 104) (by kernel_rfl) rfl (by kernel_rfl) (by kernel_rfl) rfl rfl rfl ?_
                                    refine WD.skip (i := 29) (d := 105) (by kernel_rfl) rfl (by kernel_rfl) (by kernel_rfl) rfl rfl rfl ?_
                                    refine WD.skip (i := 30) (d := 106) (by kernel_rfl) rfl (by kernel_rfl) (by kernel_rfl) rfl rfl rfl ?_
                                    refine WD.pure (i := 31) (d := 107) (by kernel_rfl) rfl (by kernel_rfl) (by kernel_rfl) rfl rfl rfl (fun _ => q_pickF rfl rfl) ?_
                                    refine WD.reL (.cons .here .nil) ?_ K_17943
                                    exact (.cons rfl (.cons rfl (.cons rfl (.cons rfl (.cons rfl (.cons rfl (.cons rfl (.cons rfl (.cons rfl (.cons rfl (.cons rfl (.cons rfl (.cons rfl (.cons rfl (.cons rfl (.cons rfl (.cons rfl (.cons rfl (.cons rfl (.cons (some_bool (Eq.symm hg_17953)) (.cons (some_bool (and_l hg_17953)) .nil)))))))))))))))))))))
                                refine WD.pure (i := 32) (d := 108) (by kernel_rfl) rfl (by kernel_rfl) (by kernel_rfl) rfl rfl rfl (fun _ => q_pickF rfl rfl) ?_
                                refine WD.reL (.cons .here .nil) ?_ K_17932
                                exact (.cons rfl (.cons rfl (.cons rfl (.cons rfl (.cons rfl (.cons rfl (.cons rfl (.cons rfl (.cons rfl (.cons rfl (.cons rfl (.cons rfl (.cons rfl (.cons rfl (.cons rfl (.cons rfl (.cons (some_bool (Eq.symm hg_17934)) (.cons (some_bool (or_r hg_17934)) .nil))))))))))))))))))
                            refine WD.done (by kernel_rfl) ?_
                            refine WX.then ?_
                            refine WC.cond rfl (fun hb_17954 => ?_) (fun hb_17954 => ?_)
                            · replace h := ite_t h hb_17954
                              refine WC.seq ?_
                              refine WC.region ?_
                              refine WL.quiet (d := 2) rfl rfl rfl (q_assign rfl) ?_
                              refine WL.nil ?_
                              refine WX.then ?_
                              refine WC.ret ?_
                              refine WX.blockRet ?_
                              refine WX.thenRet ?_
                              refine WX.thenRet ?_
                              refine WX.blockRet ?_
                              refine WX.thenRet ?_
                              obtain rfl := Option.some.inj h
                              refine WX.bpRet Try.results13 (.tmp rfl .nil) (fun w hw => ?_)
                              exact ⟨ret1 rfl, hw.sub .nil⟩
                            · replace h := ite_f h hb_17954
                              refine WC.skip ?_
                              refine WX.blockNormal ?_
                              refine WX.then ?_
                              refine WC.region ?_
                              refine WL.quiet (d := 74) rfl rfl rfl (q_move rfl) ?_
                              refine WL.quiet (d := 75) rfl rfl rfl (q_add rfl rfl rfl) ?_
                              refine WL.quiet (d := 4) rfl rfl rfl (q_assign rfl) ?_
                              refine WL.nil ?_
                              exact WX.round (G := Nat × Int) ⟨n_17788, (i64 (i_17786 + 1))⟩ h (Nat.lt_succ_self _) (.cons rfl (.cons rfl (.cons rfl .nil))) (.cons .here .nil)
                          · replace h := ite_f h hb_17790
                            refine WC.exit ?_
                            refine WX.thenExit ?_
                            refine WX.thenExit ?_
                            refine WX.blockHit ?_
                            exact WX.mid (G := Unit) () h (.cons rfl .nil) (.cons .here .nil)
                        · rintro  h
                          replace h := hk_17618.symm.trans h
                          refine WC.seq ?_
                          obtain ⟨x_17955, hx_17956, h⟩ := bind_elim h
                          obtain ⟨b_17959, hb_17960, h⟩ := bind_elim h
                          obtain ⟨b_17963, hb_17964, h⟩ := bind_elim h
                          obtain ⟨b_17967, hb_17968, h⟩ := bind_elim h
                          refine WC.region ?_
                          refine WL.quiet (d := 109) rfl rfl rfl (q_fieldAddr fo_27_0 rfl rfl) ?_
                          refine WL.quiet (d := 110) rfl rfl rfl (q_load1 oneT_22 rfl (rd_stb .here rfl)) ?_
                          refine WL.callD (dd := 111) rfl rfl rfl (run_call (l := [.tmp 110, .const (.int .i64 1048576)]) Try.call28 (.cons rfl (.cons rfl .nil))) (.nil : Sel [stb b_17176 27 [(.slice ao_15867 s_15866.fStart.length cap_15868), (.slice ao_15870 s_15866.fDrift.length cap_15871), (.slice ao_15873 s_15866.fFaulty.length cap_15874), (.int .i64 s_15866.fF), (.int .i64 s_15866.fE), (.slice ao_15876 s_15866.fErrs.length cap_15877), (.slice ao_15879 s_15866.fLies.length cap_15880)]] [] [stb b_17176 27 [(.slice ao_15867 s_15866.fStart.length cap_15868), (.slice ao_15870 s_15866.fDrift.length cap_15871), (.slice ao_15873 s_15866.fFaulty.length cap_15874), (.int .i64 s_15866.fF), (.int .i64 s_15866.fE), (.slice ao_15876 s_15866.fErrs.length cap_15877), (.slice ao_15879 s_15866.fLies.length cap_15880)]]) (fun w hw => by have pz := (hz.call hw (.nil : Sel [stb b_17176 27 [(.slice ao_15867 s_15866.fStart.length cap_15868), (.slice ao_15870 s_15866.fDrift.length cap_15871), (.slice ao_15873 s_15866.fFaulty.length cap_15874), (.int .i64 s_15866.fF), (.int .i64 s_15866.fE), (.slice ao_15876 s_15866.fErrs.length cap_15877), (.slice ao_15879 s_15866.fLies.length cap_15880)]] [] [stb b_17176 27 [(.slice ao_15867 s_15866.fStart.length cap_15868), (.slice ao_15870 s_15866.fDrift.length cap_15871), (.slice ao_15873 s_15866.fFaulty.length cap_15874), (.int .i64 s_15866.fF), (.int .i64 s_15866.fE), (.slice ao_15876 s_15866.fErrs.length cap_15877), (.slice ao_15879 s_15866.fLies.length cap_15880)]])); exact w_ref34_within (Z := _) (ao_16663 := ao_15867) (cap_16664 := cap_15868) (l_16662 := s_15866.fStart) (n_16666 := 1048576) (r := x_17955) w pz hs_15869 hx_17956) ?_
                          refine WL.quiet (d := 112) rfl rfl rfl (q_move rfl) ?_
                          refine WL.cut0 True [(1, (.pointer (some ⟨b_17176, 0, none⟩))), (116, (.bool b_17959))] [stb b_17176 27 [(.slice ao_15867 s_15866.fStart.length cap_15868), (.slice ao_15870 s_15866.fDrift.length cap_15871), (.slice ao_15873 s_15866.fFaulty.length cap_15874), (.int .i64 s_15866.fF), (.int .i64 s_15866.fE), (.slice ao_15876 s_15866.fErrs.length cap_15877), (.slice ao_15879 s_15866.fLies.length cap_15880)]] 4 ?_ (fun _ => ?_)
                          · rcases Bool.eq_false_or_eq_true x_17955 with hb' | hb'
                            · have hg_17969 := hb'; clear hb'
                              have hq_17970 := ite_t hb_17960 hg_17969
                              obtain ⟨x_17957, hx_17958, hq_17970⟩ := bind_elim hq_17970
                              replace hq_17970 := Option.some.inj hq_17970
                              refine WL.pin (i := 112) rfl hg_17969 ?_
                              refine WL.quiet (d := 113) rfl rfl rfl (q_fieldAddr fo_27_1 rfl rfl) ?_
                              refine WL.quiet (d := 114) rfl rfl rfl (q_load1 oneT_22 rfl (rd_stb .here rfl)) ?_
                              refine WL.callD (dd := 115) rfl rfl rfl (run_call (l := [.tmp 114, .const (.int .i64 1000)]) Try.call28 (.cons rfl (.cons rfl .nil))) (.nil : Sel [stb b_17176 27 [(.slice ao_15867 s_15866.fStart.length cap_15868), (.slice ao_15870 s_15866.fDrift.length cap_15871), (.slice ao_15873 s_15866.fFaulty.length cap_15874), (.int .i64 s_15866.fF), (.int .i64 s_15866.fE), (.slice ao_15876 s_15866.fErrs.length cap_15877), (.slice ao_15879 s_15866.fLies.length cap_15880)]] [] [stb b_17176 27 [(.slice ao_15867 s_15866.fStart.length cap_15868), (.slice ao_15870 s_15866.fDrift.length cap_15871), (.slice ao_15873 s_15866.fFaulty.length cap_15874), (.int .i64 s_15866.fF), (.int .i64 s_15866.fE), (.slice ao_15876 s_15866.fErrs.length cap_15877), (.slice ao_15879 s_15866.fLies.length cap_15880)]]) (fun w hw => by have pz := (hz.call hw (.nil : Sel [stb b_17176 27 [(.slice ao_15867 s_15866.fStart.length cap_15868), (.slice ao_15870 s_15866.fDrift.length cap_15871), (.slice ao_15873 s_15866.fFaulty.length cap_15874), (.int .i64 s_15866.fF), (.int .i64 s_15866.fE), (.slice ao_15876 s_15866.fErrs.length cap_15877), (.slice ao_15879 s_15866.fLies.length cap_15880)]] [] [stb b_17176 27 [(.slice ao_15867 s_15866.fStart.length cap_15868), (.slice ao_15870 s_15866.fDrift.length cap_15871), (.slice ao_15873 s_15866.fFaulty.length cap_15874), (.int .i64 s_15866.fF), (.int .i64 s_15866.fE), (.slice ao_15876 s_15866.fErrs.length cap_15877), (.slice ao_15879 s_15866.fLies.length cap_15880)]])); exact w_ref34_within (Z := _) (ao_16663 := ao_15870) (cap_16664 := cap_15871) (l_16662 := s_15866.fDrift) (n_16666 := 1000) (r := x_17957) w pz hs_15872 hx_17958) ?_
                              refine WL.quiet (d := 116) rfl rfl rfl (q_pickT rfl rfl) ?_
                              exact WL.cutEnd () trivial (.cons rfl (.cons (some_bool hq_17970) .nil)) (.cons .here .nil)
                            · have hg_17971 := hb'; clear hb'
                              have hq_17972 := ite_f hb_17960 hg_17971
                              replace hq_17972 := Option.some.inj hq_17972
                              refine WL.pin (i := 112) rfl hg_17971 ?_
                              refine WL.skip rfl rfl rfl ?_
                              refine WL.skip rfl rfl rfl ?_
                              refine WL.skip rfl rfl rfl ?_
                              refine WL.quiet (d := 116) rfl rfl rfl (q_pickF rfl rfl) ?_
                              exact WL.cutEnd () trivial (.cons rfl (.cons (some_bool hq_17972) .nil)) (.cons .here .nil)
                          · skip
                            refine WL.quiet (d := 117) rfl rfl rfl (q_move rfl) ?_
                            refine WL.cut0 True [(1, (.pointer (some ⟨b_17176, 0, none⟩))), (123, (.bool b_17963))] [stb b_17176 27 [(.slice ao_15867 s_15866.fStart.length cap_15868), (.slice ao_15870 s_15866.fDrift.length cap_15871), (.slice ao_15873 s_15866.fFaulty.length cap_15874), (.int .i64 s_15866.fF), (.int .i64 s_15866.fE), (.slice ao_15876 s_15866.fErrs.length cap_15877), (.slice ao_15879 s_15866.fLies.length cap_15880)]] 6 ?_ (fun _ => ?_)
                            · rcases Bool.eq_false_or_eq_true b_17959 with hb' | hb'
                              · have hg_17973 := hb'; clear hb'
                                have hq_17974 := ite_t hb_17964 hg_17973
                                obtain ⟨x_17961, hx_17962, hq_17974⟩ := bind_elim hq_17974
                                replace hq_17974 := Option.some.inj hq_17974
                                refine WL.pin (i := 117) rfl hg_17973 ?_
                                refine WL.quiet (d := 118) rfl rfl rfl (q_fieldAddr fo_27_5 rfl rfl) ?_
                                refine WL.quiet (d := 119) rfl rfl rfl (q_load1 oneT_22 rfl (rd_stb .here rfl)) ?_
                                refine WL.quiet (d := 120) rfl rfl rfl (q_fieldAddr fo_27_4 rfl rfl) ?_
                                refine WL.quiet (d := 121) rfl rfl rfl (q_load1 oneT_3 rfl (rd_stb .here rfl)) ?_
                                refine WL.callD (dd := 122) rfl rfl rfl (run_call (l := [.tmp 119, .tmp 121]) Try.call28 (.cons rfl (.cons rfl .nil))) (.nil : Sel [stb b_17176 27 [(.slice ao_15867 s_15866.fStart.length cap_15868), (.slice ao_15870 s_15866.fDrift.length cap_15871), (.slice ao_15873 s_15866.fFaulty.length cap_15874), (.int .i64 s_15866.fF), (.int .i64 s_15866.fE), (.slice ao_15876 s_15866.fErrs.length cap_15877), (.slice ao_15879 s_15866.fLies.length cap_15880)]] [] [stb b_17176 27 [(.slice ao_15867 s_15866.fStart.length cap_15868), (.slice ao_15870 s_15866.fDrift.length cap_15871), (.slice ao_15873 s_15866.fFaulty.length cap_15874), (.int .i64 s_15866.fF), (.int .i64 s_15866.fE), (.slice ao_15876 s_15866.fErrs.length cap_15877), (.slice ao_15879 s_15866.fLies.length cap_15880)]]) (fun w hw => by have pz := (hz.call hw (.nil : Sel [stb b_17176 27 [(.slice ao_15867 s_15866.fStart.length cap_15868), (.slice ao_15870 s_15866.fDrift.length cap_15871), (.slice ao_15873 s_15866.fFaulty.length cap_15874), (.int .i64 s_15866.fF), (.int .i64 s_15866.fE), (.slice ao_15876 s_15866.fErrs.length cap_15877), (.slice ao_15879 s_15866.fLies.length cap_15880)]] [] [stb b_17176 27 [(.slice ao_15867 s_15866.fStart.length cap_15868), (.slice ao_15870 s_15866.fDrift.length cap_15871), (.slice ao_15873 s_15866.fFaulty.length cap_15874), (.int .i64 s_15866.fF), (.int .i64 s_15866.fE), (.slice ao_15876 s_15866.fErrs.length cap_15877), (.slice ao_15879 s_15866.fLies.length cap_15880)]])); exact w_ref34_within (Z := _) (ao_16663 := ao_15876) (cap_16664 := cap_15877) (l_16662 := s_15866.fErrs) (n_16666 := s_15866.fE) (r := x_17961) w pz hs_15878 hx_17962) ?_
                                refine WL.quiet (d := 123) rfl rfl rfl (q_pickT rfl rfl) ?_
                                exact WL.cutEnd () trivial (.cons rfl (.cons (some_bool hq_17974) .nil)) (.cons .here .nil)
                              · have hg_17975 := hb'; clear hb'
                                have hq_17976 := ite_f hb_17964 hg_17975
                                replace hq_17976 := Option.some.inj hq_17976
                                refine WL.pin (i := 117) rfl hg_17975 ?_
                                refine WL.skip rfl rfl rfl ?_
                                refine WL.skip rfl rfl rfl ?_
                                refine WL.skip rfl rfl rfl ?_
                                refine WL.skip rfl rfl rfl ?_
                                refine WL.skip rfl rfl rfl ?_
                                refine WL.quiet (d := 123) rfl rfl rfl (q_pickF rfl rfl) ?_
                                exact WL.cutEnd () trivial (.cons rfl (.cons (some_bool hq_17976) .nil)) (.cons .here .nil)
                            · skip
                              refine WL.quiet (d := 124) rfl rfl rfl (q_move rfl) ?_
                              refine WL.cut0 True [(128, (.bool b_17967))] [stb b_17176 27 [(.slice ao_15867 s_15866.fStart.length cap_15868), (.slice ao_15870 s_15866.fDrift.length cap_15871), (.slice ao_15873 s_15866.fFaulty.length cap_15874), (.int .i64 s_15866.fF), (.int .i64 s_15866.fE), (.slice ao_15876 s_15866.fErrs.length cap_15877), (.slice ao_15879 s_15866.fLies.length cap_15880)]] 4 ?_ (fun _ => ?_)
                              · rcases Bool.eq_false_or_eq_true b_17963 with hb' | hb'
                                · have hg_17977 := hb'; clear hb'
                                  have hq_17978 := ite_t hb_17968 hg_17977
                                  obtain ⟨x_17965, hx_17966, hq_17978⟩ := bind_elim hq_17978
                                  replace hq_17978 := Option.some.inj hq_17978
                                  refine WL.pin (i := 124) rfl hg_17977 ?_
                                  refine WL.quiet (d := 125) rfl rfl rfl (q_fieldAddr fo_27_6 rfl rfl) ?_
                                  refine WL.quiet (d := 126) rfl rfl rfl (q_load1 oneT_22 rfl (rd_stb .here rfl)) ?_
                                  refine WL.callD (dd := 127) rfl rfl rfl (run_call (l := [.tmp 126, .const (.int .i64 1048576)]) Try.call28 (.cons rfl (.cons rfl .nil))) (.nil : Sel [stb b_17176 27 [(.slice ao_15867 s_15866.fStart.length cap_15868), (.slice ao_15870 s_15866.fDrift.length cap_15871), (.slice ao_15873 s_15866.fFaulty.length cap_15874), (.int .i64 s_15866.fF), (.int .i64 s_15866.fE), (.slice ao_15876 s_15866.fErrs.length cap_15877), (.slice ao_15879 s_15866.fLies.length cap_15880)]] [] [stb b_17176 27 [(.slice ao_15867 s_15866.fStart.length cap_15868), (.slice ao_15870 s_15866.fDrift.length cap_15871), (.slice ao_15873 s_15866.fFaulty.length cap_15874), (.int .i64 s_15866.fF), (.int .i64 s_15866.fE), (.slice ao_15876 s_15866.fErrs.length cap_15877), (.slice ao_15879 s_15866.fLies.length cap_15880)]]) (fun w hw => by have pz := (hz.call hw (.nil : Sel [stb b_17176 27 [(.slice ao_15867 s_15866.fStart.length cap_15868), (.slice ao_15870 s_15866.fDrift.length cap_15871), (.slice ao_15873 s_15866.fFaulty.length cap_15874), (.int .i64 s_15866.fF), (.int .i64 s_15866.fE), (.slice ao_15876 s_15866.fErrs.length cap_15877), (.slice ao_15879 s_15866.fLies.length cap_15880)]] [] [stb b_17176 27 [(.slice ao_15867 s_15866.fStart.length cap_15868), (.slice ao_15870 s_15866.fDrift.length cap_15871), (.slice ao_15873 s_15866.fFaulty.length cap_15874), (.int .i64 s_15866.fF), (.int .i64 s_15866.fE), (.slice ao_15876 s_15866.fErrs.length cap_15877), (.slice ao_15879 s_15866.fLies.length cap_15880)]])); exact w_ref34_within (Z := _) (ao_16663 := ao_15879) (cap_16664 := cap_15880) (l_16662 := s_15866.fLies) (n_16666 := 1048576) (r := x_17965) w pz hs_15881 hx_17966) ?_
                                  refine WL.quiet (d := 128) rfl rfl rfl (q_pickT rfl rfl) ?_
                                  exact WL.cutEnd () trivial (.cons (some_bool hq_17978) .nil) (.cons .here .nil)
                                · have hg_17979 := hb'; clear hb'
                                  have hq_17980 := ite_f hb_17968 hg_17979
                                  replace hq_17980 := Option.some.inj hq_17980
                                  refine WL.pin (i := 124) rfl hg_17979 ?_
                                  refine WL.skip rfl rfl rfl ?_
                                  refine WL.skip rfl rfl rfl ?_
                                  refine WL.skip rfl rfl rfl ?_
                                  refine WL.quiet (d := 128) rfl rfl rfl (q_pickF rfl rfl) ?_
                                  exact WL.cutEnd () trivial (.cons (some_bool hq_17980) .nil) (.cons .here .nil)
                              · skip
                                refine WL.quiet (d := 2) rfl rfl rfl (q_assign rfl) ?_
                                refine WL.nil ?_
                                refine WX.then ?_
                                refine WC.ret ?_
                                obtain rfl := Option.some.inj h
                                refine WX.bpRet Try.results13 (.tmp rfl .nil) (fun w hw => ?_)
                                exact ⟨ret1 rfl, hw.sub .nil⟩
/-- nacelleref34.Fits -/
def m_ref34_Fits (s_17983 : Stimebase_Setup) (clocks_17999 : List Int) : Option Bool :=
  (m_ref34_Valid s_17983).bind fun x_18020 => (if x_18020 && (decide (((clocks_17999.length : Nat) : Int) = ((s_17983.fStart.length : Nat) : Int))) then (m_ref34_within clocks_17999 268435456).bind fun x_18022 => some x_18022 else some false).bind fun b_18024 => some b_18024

set_option maxRecDepth 20000 in
theorem w_ref34_Fits (Z : Zp)  (ao_17984 : Option Addr) (cap_17985 : Nat) (ao_17987 : Option Addr) (cap_17988 : Nat) (ao_17990 : Option Addr) (cap_17991 : Nat) (ao_17993 : Option Addr) (cap_17994 : Nat) (ao_17996 : Option Addr) (cap_17997 : Nat) (ao_18000 : Option Addr) (cap_18001 : Nat) (s_17983 : Stimebase_Setup) (clocks_17999 : List Int) (r : Bool) (w₀ : World) (hz : PZ [] w₀ Z)
    (hs_17986 : ZS Z 1 (fun r x => r = e3 x) ao_17984 cap_17985 s_17983.fStart)
    (hs_17989 : ZS Z 1 (fun r x => r = e3 x) ao_17987 cap_17988 s_17983.fDrift)
    (hs_17992 : ZS Z 1 (fun r x => r = e3 x) ao_17990 cap_17991 s_17983.fFaulty)
    (hs_17995 : ZS Z 1 (fun r x => r = e3 x) ao_17993 cap_17994 s_17983.fErrs)
    (hs_17998 : ZS Z 1 (fun r x => r = e3 x) ao_17996 cap_17997 s_17983.fLies)
    (hs_18002 : ZS Z 1 (fun r x => r = e3 x) ao_18000 cap_18001 clocks_17999)
    (h : m_ref34_Fits s_17983 clocks_17999 = some r) :
    Calls Try.prog 14 #[(.agg #[(.slice ao_17984 s_17983.fStart.length cap_17985), (.slice ao_17987 s_17983.fDrift.length cap_17988), (.slice ao_17990 s_17983.fFaulty.length cap_17991), (.int .i64 s_17983.fF), (.int .i64 s_17983.fE), (.slice ao_17993 s_17983.fErrs.length cap_17994), (.slice ao_17996 s_17983.fLies.length cap_17997)]), (.slice ao_18000 clocks_17999.length cap_18001)] w₀ fun e w' => e = .returned (.bool r) ∧ Hp [] w₀ w' [] := by
  unfold m_ref34_Fits at h
  refine Calls.ofWC (vs := [(.agg #[(.slice ao_17984 s_17983.fStart.length cap_17985), (.slice ao_17987 s_17983.fDrift.length cap_17988), (.slice ao_17990 s_17983.fFaulty.length cap_17991), (.int .i64 s_17983.fF), (.int .i64 s_17983.fE), (.slice ao_17993 s_17983.fErrs.length cap_17994), (.slice ao_17996 s_17983.fLies.length cap_17997)]), (.slice ao_18000 clocks_17999.length cap_18001)]) (pre := []) (env := [(0, (.agg #[(.slice ao_17984 s_17983.fStart.length cap_17985), (.slice ao_17987 s_17983.fDrift.length cap_17988), (.slice ao_17990 s_17983.fFaulty.length cap_17991), (.int .i64 s_17983.fF), (.int .i64 s_17983.fE), (.slice ao_17993 s_17983.fErrs.length cap_17994), (.slice ao_17996 s_17983.fLies.length cap_17997)])), (1, (.slice ao_18000 clocks_17999.length cap_18001))]) Try.func14 rfl Try.ntmps14 rfl (Hp.nil w₀ _) rfl ?_
  refine WC.seq ?_
  refine WC.region ?_
  refine WL.new (dd := 2) rfl rfl rfl (e_box (cs := [(.slice ao_17984 s_17983.fStart.length cap_17985), (.slice ao_17987 s_17983.fDrift.length cap_17988), (.slice ao_17990 s_17983.fFaulty.length cap_17991), (.int .i64 s_17983.fF), (.int .i64 s_17983.fE), (.slice ao_17993 s_17983.fErrs.length cap_17994), (.slice ao_17996 s_17983.fLies.length cap_17997)]) rfl rfl) ?_
  intro b_18019 _
  refine WL.quiet (d := 4) rfl rfl rfl (q_assign rfl) ?_
  refine WL.nil ?_
  refine WX.then ?_
  refine WC.seq ?_
  obtain ⟨x_18020, hx_18021, h⟩ := bind_elim h
  obtain ⟨b_18024, hb_18025, h⟩ := bind_elim h
  refine WC.region ?_
  refine WL.quiet (d := 5) rfl rfl rfl (q_loadA (cs := [(.slice ao_17984 s_17983.fStart.length cap_17985), (.slice ao_17987 s_17983.fDrift.length cap_17988), (.slice ao_17990 s_17983.fFaulty.length cap_17991), (.int .i64 s_17983.fF), (.int .i64 s_17983.fE), (.slice ao_17993 s_17983.fErrs.length cap_17994), (.slice ao_17996 s_17983.fLies.length cap_17997)]) aggT_27 rfl rfl (rd_all .here)) ?_
  refine WL.callD (dd := 6) rfl rfl rfl (run_call (l := [.tmp 5]) Try.call13 (.cons rfl .nil)) (.nil : Sel [stb b_18019 27 [(.slice ao_17984 s_17983.fStart.length cap_17985), (.slice ao_17987 s_17983.fDrift.length cap_17988), (.slice ao_17990 s_17983.fFaulty.length cap_17991), (.int .i64 s_17983.fF), (.int .i64 s_17983.fE), (.slice ao_17993 s_17983.fErrs.length cap_17994), (.slice ao_17996 s_17983.fLies.length cap_17997)]] [] [stb b_18019 27 [(.slice ao_17984 s_17983.fStart.length cap_17985), (.slice ao_17987 s_17983.fDrift.length cap_17988), (.slice ao_17990 s_17983.fFaulty.length cap_17991), (.int .i64 s_17983.fF), (.int .i64 s_17983.fE), (.slice ao_17993 s_17983.fErrs.length cap_17994), (.slice ao_17996 s_17983.fLies.length cap_17997)]]) (fun w hw => by have pz := (hz.call hw (.nil : Sel [stb b_18019 27 [(.slice ao_17984 s_17983.fStart.length cap_17985), (.slice ao_17987 s_17983.fDrift.length cap_17988), (.slice ao_17990 s_17983.fFaulty.length cap_17991), (.int .i64 s_17983.fF), (.int .i64 s_17983.fE), (.slice ao_17993 s_17983.fErrs.length cap_17994), (.slice ao_17996 s_17983.fLies.length cap_17997)]] [] [stb b_18019 27 [(.slice ao_17984 s_17983.fStart.length cap_17985), (.slice ao_17987 s_17983.fDrift.length cap_17988), (.slice ao_17990 s_17983.fFaulty.length cap_17991), (.int .i64 s_17983.fF), (.int .i64 s_17983.fE), (.slice ao_17993 s_17983.fErrs.length cap_17994), (.slice ao_17996 s_17983.fLies.length cap_17997)]])); exact w_ref34_Valid (Z := _) (ao_15867 := ao_17984) (cap_15868 := cap_17985) (ao_15870 := ao_17987) (cap_15871 := cap_17988) (ao_15873 := ao_17990) (cap_15874 := cap_17991) (ao_15876 := ao_17993) (cap_15877 := cap_17994) (ao_15879 := ao_17996) (cap_15880 := cap_17997) (s_15866 := s_17983) (r := x_18020) w pz hs_17986 hs_17989 hs_17992 hs_17995 hs_17998 hx_18021) ?_
  refine WL.quiet (d := 7) rfl rfl rfl (q_move rfl) ?_
  refine WL.cut0 True [(1, (.slice ao_18000 clocks_17999.length cap_18001)), (4, (.bool false)), (14, (.bool (x_18020 && (decide (((clocks_17999.length : Nat) : Int) = ((s_17983.fStart.length : Nat) : Int))))))] [stb b_18019 27 [(.slice ao_17984 s_17983.fStart.length cap_17985), (.slice ao_17987 s_17983.fDrift.length cap_17988), (.slice ao_17990 s_17983.fFaulty.length cap_17991), (.int .i64 s_17983.fF), (.int .i64 s_17983.fE), (.slice ao_17993 s_17983.fErrs.length cap_17994), (.slice ao_17996 s_17983.fLies.length cap_17997)]] 7 ?_ (fun _ => ?_)
  · rcases Bool.eq_false_or_eq_true x_18020 with hb' | hb'
    · have hg_18026 := hb'; clear hb'
      refine WL.pin (i := 7) rfl hg_18026 ?_
      refine WL.quiet (d := 8) rfl rfl rfl (q_move rfl) ?_
      refine WL.quiet (d := 9) rfl rfl rfl (q_len Try.underlying22 rfl) ?_
      refine WL.quiet (d := 10) rfl rfl rfl (q_fieldAddr fo_27_0 rfl rfl) ?_
      refine WL.quiet (d := 11) rfl rfl rfl (q_load1 oneT_22 rfl (rd_stb .here rfl)) ?_
      refine WL.quiet (d := 12) rfl rfl rfl (q_len Try.underlying22 rfl) ?_
      refine WL.quiet (d := 13) rfl rfl rfl (q_eql rfl rfl) ?_
      refine WL.quiet (d := 14) rfl rfl rfl (q_pickT rfl rfl) ?_
      exact WL.cutEnd () trivial (.cons rfl (.cons rfl (.cons (some_bool (and_r hg_18026)) .nil))) (.cons .here .nil)
    · have hg_18027 := hb'; clear hb'
      refine WL.pin (i := 7) rfl hg_18027 ?_
      refine WL.skip rfl rfl rfl ?_
      refine WL.skip rfl rfl rfl ?_
      refine WL.skip rfl rfl rfl ?_
      refine WL.skip rfl rfl rfl ?_
      refine WL.skip rfl rfl rfl ?_
      refine WL.skip rfl rfl rfl ?_
      refine WL.quiet (d := 14) rfl rfl rfl (q_pickF rfl rfl) ?_
      exact WL.cutEnd () trivial (.cons rfl (.cons rfl (.cons (some_bool (and_l hg_18027)) .nil))) (.cons .here .nil)
  · skip
    refine WL.quiet (d := 15) rfl rfl rfl (q_move rfl) ?_
    refine WL.cut0 True [(4, (.bool false)), (18, (.bool b_18024))] [stb b_18019 27 [(.slice ao_17984 s_17983.fStart.length cap_17985), (.slice ao_17987 s_17983.fDrift.length cap_17988), (.slice ao_17990 s_17983.fFaulty.length cap_17991), (.int .i64 s_17983.fF), (.int .i64 s_17983.fE), (.slice ao_17993 s_17983.fErrs.length cap_17994), (.slice ao_17996 s_17983.fLies.length cap_17997)]] 3 ?_ (fun _ => ?_)
    · rcases Bool.eq_false_or_eq_true (x_18020 && (decide (((clocks_17999.length : Nat) : Int) = ((s_17983.fStart.length : Nat) : Int)))) with hb' | hb'
      · have hg_18028 := hb'; clear hb'
        have hq_18029 := ite_t hb_18025 hg_18028
        obtain ⟨x_18022, hx_18023, hq_18029⟩ := bind_elim hq_18029
        replace hq_18029 := Option.some.inj hq_18029
        refine WL.pin (i := 15) rfl hg_18028 ?_
        refine WL.quiet (d := 16) rfl rfl rfl (q_move rfl) ?_
        refine WL.callD (dd := 17) rfl rfl rfl (run_call (l := [.tmp 16, .const (.int .i64 268435456)]) Try.call28 (.cons rfl (.cons rfl .nil))) (.nil : Sel [stb b_18019 27 [(.slice ao_17984 s_17983.fStart.length cap_17985), (.slice ao_17987 s_17983.fDrift.length cap_17988), (.slice ao_17990 s_17983.fFaulty.length cap_17991), (.int .i64 s_17983.fF), (.int .i64 s_17983.fE), (.slice ao_17993 s_17983.fErrs.length cap_17994), (.slice ao_17996 s_17983.fLies.length cap_17997)]] [] [stb b_18019 27 [(.slice ao_17984 s_17983.fStart.length cap_17985), (.slice ao_17987 s_17983.fDrift.length cap_17988), (.slice ao_17990 s_17983.fFaulty.length cap_17991), (.int .i64 s_17983.fF), (.int .i64 s_17983.fE), (.slice ao_17993 s_17983.fErrs.length cap_17994), (.slice ao_17996 s_17983.fLies.length cap_17997)]]) (fun w hw => by have pz := (hz.call hw (.nil : Sel [stb b_18019 27 [(.slice ao_17984 s_17983.fStart.length cap_17985), (.slice ao_17987 s_17983.fDrift.length cap_17988), (.slice ao_17990 s_17983.fFaulty.length cap_17991), (.int .i64 s_17983.fF), (.int .i64 s_17983.fE), (.slice ao_17993 s_17983.fErrs.length cap_17994), (.slice ao_17996 s_17983.fLies.length cap_17997)]] [] [stb b_18019 27 [(.slice ao_17984 s_17983.fStart.length cap_17985), (.slice ao_17987 s_17983.fDrift.length cap_17988), (.slice ao_17990 s_17983.fFaulty.length cap_17991), (.int .i64 s_17983.fF), (.int .i64 s_17983.fE), (.slice ao_17993 s_17983.fErrs.length cap_17994), (.slice ao_17996 s_17983.fLies.length cap_17997)]])); exact w_ref34_within (Z := _) (ao_16663 := ao_18000) (cap_16664 := cap_18001) (l_16662 := clocks_17999) (n_16666 := 268435456) (r := x_18022) w pz hs_18002 hx_18023) ?_
        refine WL.quiet (d := 18) rfl rfl rfl (q_pickT rfl rfl) ?_
        exact WL.cutEnd () trivial (.cons rfl (.cons (some_bool hq_18029) .nil)) (.cons .here .nil)
      · have hg_18030 := hb'; clear hb'
        have hq_18031 := ite_f hb_18025 hg_18030
        replace hq_18031 := Option.some.inj hq_18031
        refine WL.pin (i := 15) rfl hg_18030 ?_
        refine WL.skip rfl rfl rfl ?_
        refine WL.skip rfl rfl rfl ?_
        refine WL.quiet (d := 18) rfl rfl rfl (q_pickF rfl rfl) ?_
        exact WL.cutEnd () trivial (.cons rfl (.cons (some_bool hq_18031) .nil)) (.cons .here .nil)
    · skip
      refine WL.quiet (d := 4) rfl rfl rfl (q_assign rfl) ?_
      refine WL.nil ?_
      refine WX.then ?_
      refine WC.ret ?_
      obtain rfl := Option.some.inj h
      refine WX.bpRet Try.results14 (.tmp rfl .nil) (fun w hw => ?_)
      exact ⟨ret1 rfl, hw.sub .nil⟩
def m_ref34_Faulty_L2 (s_18149 : Stimebase_Setup) (i_18165 : Int) (k_18361 : Option Bool) : Nat → Int → Option Bool
  | 0, _ => none
  | n_18388 + 1, k_18386 => if decide (k_18386 < ((s_18149.fFaulty.length : Nat) : Int)) then chk ((0 : Int) ≤ k_18386 ∧ k_18386 < ((s_18149.fFaulty.length : Nat) : Int)) (if decide ((nth s_18149.fFaulty k_18386) = i_18165) then some true else m_ref34_Faulty_L2 s_18149 i_18165 k_18361 n_18388 (i64 (k_18386 + 1))) else k_18361
theorem m_ref34_Faulty_L2_fuel {n : Nat} {s_18149 : Stimebase_Setup} {i_18165 : Int} {k_18361 : Option Bool} {k_18386 : Int} {r : Bool} (h : m_ref34_Faulty_L2 s_18149 i_18165 k_18361 n k_18386 = some r) : ∃ m, n = m + 1 := by
  cases n with
  | zero => cases h
  | succ m => exact ⟨m, rfl⟩

/-- nacelleref34.Faulty -/
def m_ref34_Faulty (s_18149 : Stimebase_Setup) (i_18165 : Int) : Option Bool :=
  jp0 (some false) fun k_18361 => m_ref34_Faulty_L2 s_18149 i_18165 k_18361 FUEL 0

set_option maxRecDepth 20000 in
theorem w_ref34_Faulty (Z : Zp)  (ao_18150 : Option Addr) (cap_18151 : Nat) (ao_18153 : Option Addr) (cap_18154 : Nat) (ao_18156 : Option Addr) (cap_18157 : Nat) (ao_18159 : Option Addr) (cap_18160 : Nat) (ao_18162 : Option Addr) (cap_18163 : Nat) (s_18149 : Stimebase_Setup) (i_18165 : Int) (r : Bool) (w₀ : World) (hz : PZ [] w₀ Z)
    (hs_18152 : ZS Z 1 (fun r x => r = e3 x) ao_18150 cap_18151 s_18149.fStart)
    (hs_18155 : ZS Z 1 (fun r x => r = e3 x) ao_18153 cap_18154 s_18149.fDrift)
    (hs_18158 : ZS Z 1 (fun r x => r = e3 x) ao_18156 cap_18157 s_18149.fFaulty)
    (hs_18161 : ZS Z 1 (fun r x => r = e3 x) ao_18159 cap_18160 s_18149.fErrs)
    (hs_18164 : ZS Z 1 (fun r x => r = e3 x) ao_18162 cap_18163 s_18149.fLies)
    (h : m_ref34_Faulty s_18149 i_18165 = some r) :
    Calls Try.prog 35 #[(.agg #[(.slice ao_18150 s_18149.fStart.length cap_18151), (.slice ao_18153 s_18149.fDrift.length cap_18154), (.slice ao_18156 s_18149.fFaulty.length cap_18157), (.int .i64 s_18149.fF), (.int .i64 s_18149.fE), (.slice ao_18159 s_18149.fErrs.length cap_18160), (.slice ao_18162 s_18149.fLies.length cap_18163)]), (.int .i64 i_18165)] w₀ fun e w' => e = .returned (.bool r) ∧ Hp [] w₀ w' [] := by
  unfold m_ref34_Faulty at h
  refine Calls.ofWC (vs := [(.agg #[(.slice ao_18150 s_18149.fStart.length cap_18151), (.slice ao_18153 s_18149.fDrift.length cap_18154), (.slice ao_18156 s_18149.fFaulty.length cap_18157), (.int .i64 s_18149.fF), (.int .i64 s_18149.fE), (.slice ao_18159 s_18149.fErrs.length cap_18160), (.slice ao_18162 s_18149.fLies.length cap_18163)]), (.int .i64 i_18165)]) (pre := []) (env := [(0, (.agg #[(.slice ao_18150 s_18149.fStart.length cap_18151), (.slice ao_18153 s_18149.fDrift.length cap_18154), (.slice ao_18156 s_18149.fFaulty.length cap_18157), (.int .i64 s_18149.fF), (.int .i64 s_18149.fE), (.slice ao_18159 s_18149.fErrs.length cap_18160), (.slice ao_18162 s_18149.fLies.length cap_18163)])), (1, (.int .i64 i_18165))]) Try.func35 rfl Try.ntmps35 rfl (Hp.nil w₀ _) rfl ?_
  refine WC.seq ?_
  refine WC.region ?_
  refine WL.new (dd := 2) rfl rfl rfl (e_box (cs := [(.slice ao_18150 s_18149.fStart.length cap_18151), (.slice ao_18153 s_18149.fDrift.length cap_18154), (.slice ao_18156 s_18149.fFaulty.length cap_18157), (.int .i64 s_18149.fF), (.int .i64 s_18149.fE), (.slice ao_18159 s_18149.fErrs.length cap_18160), (.slice ao_18162 s_18149.fLies.length cap_18163)]) rfl rfl) ?_
  intro b_18290 _
  refine WL.quiet (d := 4) rfl rfl rfl (q_assign rfl) ?_
  refine WL.nil ?_
  refine WX.then ?_
  obtain ⟨k_18361, hk_18362, h⟩ := jp0_elim h
  refine WC.seqMid0 ((k_18361 = some r)) ([]) ([]) ?_ ?_
  · skip
    refine WC.seq ?_
    refine WC.region ?_
    refine WL.quiet (d := 5) rfl rfl rfl (q_assign rfl) ?_
    refine WL.nil ?_
    refine WX.then ?_
    refine WC.block ?_
    refine WC.loop2 (fun (n_18387 : Nat) (k_18386 : Int) => (m_ref34_Faulty_L2 s_18149 i_18165 k_18361 n_18387 k_18386 = some r)) (fun (n_18387 : Nat) (k_18386 : Int) => [(1, (.int .i64 i_18165)), (2, (.pointer (some ⟨b_18290, 0, none⟩))), (5, (.int .i64 k_18386))]) (fun (n_18387 : Nat) (k_18386 : Int) => [stb b_18290 27 [(.slice ao_18150 s_18149.fStart.length cap_18151), (.slice ao_18153 s_18149.fDrift.length cap_18154), (.slice ao_18156 s_18149.fFaulty.length cap_18157), (.int .i64 s_18149.fF), (.int .i64 s_18149.fE), (.slice ao_18159 s_18149.fErrs.length cap_18160), (.slice ao_18162 s_18149.fLies.length cap_18163)]]) (fun (n_18387 : Nat) (k_18386 : Int) => n_18387) ⟨FUEL, 0⟩ h (.cons rfl (.cons rfl (.cons rfl .nil))) (.cons .here .nil) ?_
    rintro n_18387 k_18386 h
    obtain ⟨n_18388, rfl⟩ := m_ref34_Faulty_L2_fuel h
    rw [m_ref34_Faulty_L2] at h
    refine WC.seq ?_
    refine WC.seq ?_
    refine WC.region ?_
    refine WL.quiet (d := 6) rfl rfl rfl (q_move rfl) ?_
    refine WL.quiet (d := 7) rfl rfl rfl (q_fieldAddr fo_27_2 rfl rfl) ?_
    refine WL.quiet (d := 8) rfl rfl rfl (q_load1 oneT_22 rfl (rd_stb .here rfl)) ?_
    refine WL.quiet (d := 9) rfl rfl rfl (q_len Try.underlying22 rfl) ?_
    refine WL.quiet (d := 10) rfl rfl rfl (q_lss rfl rfl) ?_
    refine WL.nil ?_
    refine WX.then ?_
    refine WC.cond rfl (fun hb_18390 => ?_) (fun hb_18390 => ?_)
    · replace h := ite_t h hb_18390
      refine WC.skip ?_
      refine WX.then ?_
      refine WC.seq ?_
      refine WC.block ?_
      refine WC.seq ?_
      obtain ⟨c_18401, h⟩ := chk_elim h
      refine WC.region ?_
      refine WL.quiet (d := 13) rfl rfl rfl (q_fieldAddr fo_27_2 rfl rfl) ?_
      refine WL.quiet (d := 14) rfl rfl rfl (q_load1 oneT_22 rfl (rd_stb .here rfl)) ?_
      refine WL.quiet (d := 15) rfl rfl rfl (q_move rfl) ?_
      refine WL.znth (dd := 16) rfl rfl (Z := Z) (Pr := (fun r x => r = e3 x)) elT_22 rfl rfl hs_18158 c_18401 ?_
      rintro A_18406 r_18407 hA_18408 hl_18409 rfl
      refine WL.quiet (d := 17) rfl rfl rfl (q_load1 oneT_3 rfl (rd_z hz.pv hA_18408 rfl)) ?_
      refine WL.quiet (d := 18) rfl rfl rfl (q_move rfl) ?_
      refine WL.quiet (d := 19) rfl rfl rfl (q_eql rfl rfl) ?_
      refine WL.nil ?_
      refine WX.then ?_
      refine WC.cond rfl (fun hb_18410 => ?_) (fun hb_18410 => ?_)
      · replace h := ite_t h hb_18410
        refine WC.seq ?_
        refine WC.region ?_
        refine WL.quiet (d := 4) rfl rfl rfl (q_assign rfl) ?_
        refine WL.nil ?_
        refine WX.then ?_
        refine WC.ret ?_
        refine WX.blockRet ?_
        refine WX.thenRet ?_
        refine WX.thenRet ?_
        refine WX.blockRet ?_
        refine WX.thenRet ?_
        obtain rfl := Option.some.inj h
        refine WX.bpRet Try.results35 (.tmp rfl .nil) (fun w hw => ?_)
        exact ⟨ret1 rfl, hw.sub .nil⟩
      · replace h := ite_f h hb_18410
        refine WC.skip ?_
        refine WX.blockNormal ?_
        refine WX.then ?_
        refine WC.region ?_
        refine WL.quiet (d := 11) rfl rfl rfl (q_move rfl) ?_
        refine WL.quiet (d := 12) rfl rfl rfl (q_add rfl rfl rfl) ?_
        refine WL.quiet (d := 5) rfl rfl rfl (q_assign rfl) ?_
        refine WL.nil ?_
        exact WX.round (G := Nat × Int) ⟨n_18388, (i64 (k_18386 + 1))⟩ h (Nat.lt_succ_self _) (.cons rfl (.cons rfl (.cons rfl .nil))) (.cons .here .nil)
    · replace h := ite_f h hb_18390
      refine WC.exit ?_
      refine WX.thenExit ?_
      refine WX.thenExit ?_
      refine WX.blockHit ?_
      exact WX.mid (G := Unit) () h .nil .nil
  · rintro  h
    replace h := hk_18362.symm.trans h
    refine WC.seq ?_
    refine WC.region ?_
    refine WL.quiet (d := 4) rfl rfl rfl (q_assign rfl) ?_
    refine WL.nil ?_
    refine WX.then ?_
    refine WC.ret ?_
    obtain rfl := Option.some.inj h
    refine WX.bpRet Try.results35 (.tmp rfl .nil) (fun w hw => ?_)
    exact ⟨ret1 rfl, hw.sub .nil⟩
/-- nacelleref34.read -/
def m_ref34_read (s_18104 : Stimebase_Setup) (clocks_18120 : List Int) (round_18124 : Int) (i_18125 : Int) (j_18126 : Int) : Option Int :=
  if decide (i_18125 = j_18126) then chk ((0 : Int) ≤ j_18126 ∧ j_18126 < ((clocks_18120.length : Nat) : Int)) (some (nth clocks_18120 j_18126)) else (m_ref34_Faulty s_18104 j_18126).bind fun x_18599 => if x_18599 then if decide (((s_18104.fLies.length : Nat) : Int) = 0) then chk ((0 : Int) ≤ j_18126 ∧ j_18126 < ((clocks_18120.length : Nat) : Int)) (some (nth clocks_18120 j_18126)) else chk ((0 : Int) ≤ j_18126 ∧ j_18126 < ((clocks_18120.length : Nat) : Int)) (chk ((((s_18104.fLies.length : Nat) : Int) : Int) ≠ 0) (chk ((0 : Int) ≤ (Int.tmod (i64 ((i64 ((i64 ((i64 (round_18124 * ((clocks_18120.length : Nat) : Int))) * ((clocks_18120.length : Nat) : Int))) + (i64 (i_18125 * ((clocks_18120.length : Nat) : Int))))) + j_18126)) ((s_18104.fLies.length : Nat) : Int)) ∧ (Int.tmod (i64 ((i64 ((i64 ((i64 (round_18124 * ((clocks_18120.length : Nat) : Int))) * ((clocks_18120.length : Nat) : Int))) + (i64 (i_18125 * ((clocks_18120.length : Nat) : Int))))) + j_18126)) ((s_18104.fLies.length : Nat) : Int)) < ((s_18104.fLies.length : Nat) : Int)) (some (i64 ((nth clocks_18120 j_18126) + (nth s_18104.fLies (Int.tmod (i64 ((i64 ((i64 ((i64 (round_18124 * ((clocks_18120.length : Nat) : Int))) * ((clocks_18120.length : Nat) : Int))) + (i64 (i_18125 * ((clocks_18120.length : Nat) : Int))))) + j_18126)) ((s_18104.fLies.length : Nat) : Int)))))))) else if decide (((s_18104.fErrs.length : Nat) : Int) = 0) then chk ((0 : Int) ≤ j_18126 ∧ j_18126 < ((clocks_18120.length : Nat) : Int)) (some (nth clocks_18120 j_18126)) else chk ((0 : Int) ≤ j_18126 ∧ j_18126 < ((clocks_18120.length : Nat) : Int)) (chk ((((s_18104.fErrs.length : Nat) : Int) : Int) ≠ 0) (chk ((0 : Int) ≤ (Int.tmod (i64 ((i64 ((i64 ((i64 (round_18124 * ((clocks_18120.length : Nat) : Int))) * ((clocks_18120.length : Nat) : Int))) + (i64 (i_18125 * ((clocks_18120.length : Nat) : Int))))) + j_18126)) ((s_18104.fErrs.length : Nat) : Int)) ∧ (Int.tmod (i64 ((i64 ((i64 ((i64 (round_18124 * ((clocks_18120.length : Nat) : Int))) * ((clocks_18120.length : Nat) : Int))) + (i64 (i_18125 * ((clocks_18120.length : Nat) : Int))))) + j_18126)) ((s_18104.fErrs.length : Nat) : Int)) < ((s_18104.fErrs.length : Nat) : Int)) (some (i64 ((nth clocks_18120 j_18126) + (nth s_18104.fErrs (Int.tmod (i64 ((i64 ((i64 ((i64 (round_18124 * ((clocks_18120.length : Nat) : Int))) * ((clocks_18120.length : Nat) : Int))) + (i64 (i_18125 * ((clocks_18120.length : Nat) : Int))))) + j_18126)) ((s_18104.fErrs.length : Nat) : Int))))))))

set_option maxRecDepth 20000 in
theorem w_ref34_read (Z : Zp)  (ao_18105 : Option Addr) (cap_18106 : Nat) (ao_18108 : Option Addr) (cap_18109 : Nat) (ao_18111 : Option Addr) (cap_18112 : Nat) (ao_18114 : Option Addr) (cap_18115 : Nat) (ao_18117 : Option Addr) (cap_18118 : Nat) (ao_18121 : Option Addr) (cap_18122 : Nat) (s_18104 : Stimebase_Setup) (clocks_18120 : List Int) (round_18124 : Int) (i_18125 : Int) (j_18126 : Int) (r : Int) (w₀ : World) (hz : PZ [] w₀ Z)
    (hs_18107 : ZS Z 1 (fun r x => r = e3 x) ao_18105 cap_18106 s_18104.fStart)
    (hs_18110 : ZS Z 1 (fun r x => r = e3 x) ao_18108 cap_18109 s_18104.fDrift)
    (hs_18113 : ZS Z 1 (fun r x => r = e3 x) ao_18111 cap_18112 s_18104.fFaulty)
    (hs_18116 : ZS Z 1 (fun r x => r = e3 x) ao_18114 cap_18115 s_18104.fErrs)
    (hs_18119 : ZS Z 1 (fun r x => r = e3 x) ao_18117 cap_18118 s_18104.fLies)
    (hs_18123 : ZS Z 1 (fun r x => r = e3 x) ao_18121 cap_18122 clocks_18120)
    (h : m_ref34_read s_18104 clocks_18120 round_18124 i_18125 j_18126 = some r) :
    Calls Try.prog 34 #[(.agg #[(.slice ao_18105 s_18104.fStart.length cap_18106), (.slice ao_18108 s_18104.fDrift.length cap_18109), (.slice ao_18111 s_18104.fFaulty.length cap_18112), (.int .i64 s_18104.fF), (.int .i64 s_18104.fE), (.slice ao_18114 s_18104.fErrs.length cap_18115), (.slice ao_18117 s_18104.fLies.length cap_18118)]), (.slice ao_18121 clocks_18120.length cap_18122), (.int .i64 round_18124), (.int .i64 i_18125), (.int .i64 j_18126)] w₀ fun e w' => e = .returned (.int .i64 r) ∧ Hp [] w₀ w' [] := by
  unfold m_ref34_read at h
  refine Calls.ofWC (vs := [(.agg #[(.slice ao_18105 s_18104.fStart.length cap_18106), (.slice ao_18108 s_18104.fDrift.length cap_18109), (.slice ao_18111 s_18104.fFaulty.length cap_18112), (.int .i64 s_18104.fF), (.int .i64 s_18104.fE), (.slice ao_18114 s_18104.fErrs.length cap_18115), (.slice ao_18117 s_18104.fLies.length cap_18118)]), (.slice ao_18121 clocks_18120.length cap_18122), (.int .i64 round_18124), (.int .i64 i_18125), (.int .i64 j_18126)]) (pre := []) (env := [(0, (.agg #[(.slice ao_18105 s_18104.fStart.length cap_18106), (.slice ao_18108 s_18104.fDrift.length cap_18109), (.slice ao_18111 s_18104.fFaulty.length cap_18112), (.int .i64 s_18104.fF), (.int .i64 s_18104.fE), (.slice ao_18114 s_18104.fErrs.length cap_18115), (.slice ao_18117 s_18104.fLies.length cap_18118)])), (1, (.slice ao_18121 clocks_18120.length cap_18122)), (2, (.int .i64 round_18124)), (3, (.int .i64 i_18125)), (4, (.int .i64 j_18126))]) Try.func34 rfl Try.ntmps34 rfl (Hp.nil w₀ _) rfl ?_
  refine WC.seq ?_
  refine WC.region ?_
  refine WL.new (dd := 5) rfl rfl rfl (e_box (cs := [(.slice ao_18105 s_18104.fStart.length cap_18106), (.slice ao_18108 s_18104.fDrift.length cap_18109), (.slice ao_18111 s_18104.fFaulty.length cap_18112), (.int .i64 s_18104.fF), (.int .i64 s_18104.fE), (.slice ao_18114 s_18104.fErrs.length cap_18115), (.slice ao_18117 s_18104.fLies.length cap_18118)]) rfl rfl) ?_
  intro b_18536 _
  refine WL.quiet (d := 10) rfl rfl rfl (q_assign rfl) ?_
  refine WL.nil ?_
  refine WX.then ?_
  refine WC.seq ?_
  refine WC.region ?_
  refine WL.quiet (d := 13) rfl rfl rfl (q_move rfl) ?_
  refine WL.quiet (d := 14) rfl rfl rfl (q_len Try.underlying22 rfl) ?_
  refine WL.quiet (d := 11) rfl rfl rfl (q_assign rfl) ?_
  refine WL.nil ?_
  refine WX.then ?_
  refine WC.seq ?_
  refine WC.region ?_
  refine WL.quiet (d := 15) rfl rfl rfl (q_move rfl) ?_
  refine WL.quiet (d := 16) rfl rfl rfl (q_move rfl) ?_
  refine WL.quiet (d := 17) rfl rfl rfl (q_mul rfl rfl rfl) ?_
  refine WL.quiet (d := 18) rfl rfl rfl (q_move rfl) ?_
  refine WL.quiet (d := 19) rfl rfl rfl (q_mul rfl rfl rfl) ?_
  refine WL.quiet (d := 20) rfl rfl rfl (q_move rfl) ?_
  refine WL.quiet (d := 21) rfl rfl rfl (q_move rfl) ?_
  refine WL.quiet (d := 22) rfl rfl rfl (q_mul rfl rfl rfl) ?_
  refine WL.quiet (d := 23) rfl rfl rfl (q_add rfl rfl rfl) ?_
  refine WL.quiet (d := 24) rfl rfl rfl (q_move rfl) ?_
  refine WL.quiet (d := 25) rfl rfl rfl (q_add rfl rfl rfl) ?_
  refine WL.quiet (d := 12) rfl rfl rfl (q_assign rfl) ?_
  refine WL.nil ?_
  refine WX.then ?_
  refine WC.seq ?_
  refine WC.seq ?_
  refine WC.region ?_
  refine WL.quiet (d := 26) rfl rfl rfl (q_move rfl) ?_
  refine WL.quiet (d := 27) rfl rfl rfl (q_move rfl) ?_
  refine WL.quiet (d := 28) rfl rfl rfl (q_eql rfl rfl) ?_
  refine WL.nil ?_
  refine WX.then ?_
  refine WC.cond rfl (fun hb_18547 => ?_) (fun hb_18547 => ?_)
  · replace h := ite_t h hb_18547
    refine WC.seq ?_
    obtain ⟨c_18548, h⟩ := chk_elim h
    refine WC.region ?_
    refine WL.quiet (d := 29) rfl rfl rfl (q_move rfl) ?_
    refine WL.quiet (d := 30) rfl rfl rfl (q_move rfl) ?_
    refine WL.znth (dd := 31) rfl rfl (Z := Z) (Pr := (fun r x => r = e3 x)) elT_22 rfl rfl hs_18123 c_18548 ?_
    rintro A_18553 r_18554 hA_18555 hl_18556 rfl
    refine WL.quiet (d := 32) rfl rfl rfl (q_load1 oneT_3 rfl (rd_z hz.pv hA_18555 rfl)) ?_
    refine WL.quiet (d := 10) rfl rfl rfl (q_assign rfl) ?_
    refine WL.nil ?_
    refine WX.then ?_
    refine WC.ret ?_
    refine WX.thenRet ?_
    obtain rfl := Option.some.inj h
    refine WX.bpRet Try.results34 (.tmp rfl .nil) (fun w hw => ?_)
    exact ⟨ret1 rfl, hw.sub .nil⟩
  · replace h := ite_f h hb_18547
    refine WC.skip ?_
    refine WX.then ?_
    refine WC.seq ?_
    refine WC.seq ?_
    obtain ⟨x_18599, hx_18600, h⟩ := bind_elim h
    refine WC.region ?_
    refine WL.quiet (d := 33) rfl rfl rfl (q_loadA (cs := [(.slice ao_18105 s_18104.fStart.length cap_18106), (.slice ao_18108 s_18104.fDrift.length cap_18109), (.slice ao_18111 s_18104.fFaulty.length cap_18112), (.int .i64 s_18104.fF), (.int .i64 s_18104.fE), (.slice ao_18114 s_18104.fErrs.length cap_18115), (.slice ao_18117 s_18104.fLies.length cap_18118)]) aggT_27 rfl rfl (rd_all .here)) ?_
    refine WL.quiet (d := 34) rfl rfl rfl (q_move rfl) ?_
    refine WL.callD (dd := 35) rfl rfl rfl (run_call (l := [.tmp 33, .tmp 34]) Try.call35 (.cons rfl (.cons rfl .nil))) (.nil : Sel [stb b_18536 27 [(.slice ao_18105 s_18104.fStart.length cap_18106), (.slice ao_18108 s_18104.fDrift.length cap_18109), (.slice ao_18111 s_18104.fFaulty.length cap_18112), (.int .i64 s_18104.fF), (.int .i64 s_18104.fE), (.slice ao_18114 s_18104.fErrs.length cap_18115), (.slice ao_18117 s_18104.fLies.length cap_18118)]] [] [stb b_18536 27 [(.slice ao_18105 s_18104.fStart.length cap_18106), (.slice ao_18108 s_18104.fDrift.length cap_18109), (.slice ao_18111 s_18104.fFaulty.length cap_18112), (.int .i64 s_18104.fF), (.int .i64 s_18104.fE), (.slice ao_18114 s_18104.fErrs.length cap_18115), (.slice ao_18117 s_18104.fLies.length cap_18118)]]) (fun w hw => by have pz := (hz.call hw (.nil : Sel [stb b_18536 27 [(.slice ao_18105 s_18104.fStart.length cap_18106), (.slice ao_18108 s_18104.fDrift.length cap_18109), (.slice ao_18111 s_18104.fFaulty.length cap_18112), (.int .i64 s_18104.fF), (.int .i64 s_18104.fE), (.slice ao_18114 s_18104.fErrs.length cap_18115), (.slice ao_18117 s_18104.fLies.length cap_18118)]] [] [stb b_18536 27 [(.slice ao_18105 s_18104.fStart.length cap_18106), (.slice ao_18108 s_18104.fDrift.length cap_18109), (.slice ao_18111 s_18104.fFaulty.length cap_18112), (.int .i64 s_18104.fF), (.int .i64 s_18104.fE), (.slice ao_18114 s_18104.fErrs.length cap_18115), (.slice ao_18117 s_18104.fLies.length cap_18118)]])); exact w_ref34_Faulty (Z := _) (ao_18150 := ao_18105) (cap_18151 := cap_18106) (ao_18153 := ao_18108) (cap_18154 := cap_18109) (ao_18156 := ao_18111) (cap_18157 := cap_18112) (ao_18159 := ao_18114) (cap_18160 := cap_18115) (ao_18162 := ao_18117) (cap_18163 := cap_18118) (s_18149 := s_18104) (i_18165 := j_18126) (r := x_18599) w pz hs_18107 hs_18110 hs_18113 hs_18116 hs_18119 hx_18600) ?_
    refine WL.nil ?_
    refine WX.then ?_
    refine WC.cond rfl (fun hb_18601 => ?_) (fun hb_18601 => ?_)
    · replace h := ite_t h hb_18601
      refine WC.seq ?_
      refine WC.seq ?_
      refine WC.region ?_
      refine WL.quiet (d := 36) rfl rfl rfl (q_fieldAddr fo_27_6 rfl rfl) ?_
      refine WL.quiet (d := 37) rfl rfl rfl (q_load1 oneT_22 rfl (rd_stb .here rfl)) ?_
      refine WL.quiet (d := 38) rfl rfl rfl (q_len Try.underlying22 rfl) ?_
      refine WL.quiet (d := 39) rfl rfl rfl (q_eql rfl rfl) ?_
      refine WL.nil ?_
      refine WX.then ?_
      refine WC.cond rfl (fun hb_18612 => ?_) (fun hb_18612 => ?_)
      · replace h := ite_t h hb_18612
        refine WC.seq ?_
        obtain ⟨c_18613, h⟩ := chk_elim h
        refine WC.region ?_
        refine WL.quiet (d := 40) rfl rfl rfl (q_move rfl) ?_
        refine WL.quiet (d := 41) rfl rfl rfl (q_move rfl) ?_
        refine WL.znth (dd := 42) rfl rfl (Z := Z) (Pr := (fun r x => r = e3 x)) elT_22 rfl rfl hs_18123 c_18613 ?_
        rintro A_18618 r_18619 hA_18620 hl_18621 rfl
        refine WL.quiet (d := 43) rfl rfl rfl (q_load1 oneT_3 rfl (rd_z hz.pv hA_18620 rfl)) ?_
        refine WL.quiet (d := 10) rfl rfl rfl (q_assign rfl) ?_
        refine WL.nil ?_
        refine WX.then ?_
        refine WC.ret ?_
        refine WX.thenRet ?_
        refine WX.thenRet ?_
        obtain rfl := Option.some.inj h
        refine WX.bpRet Try.results34 (.tmp rfl .nil) (fun w hw => ?_)
        exact ⟨ret1 rfl, hw.sub .nil⟩
      · replace h := ite_f h hb_18612
        refine WC.skip ?_
        refine WX.then ?_
        refine WC.seq ?_
        obtain ⟨c_18622, h⟩ := chk_elim h
        obtain ⟨c_18627, h⟩ := chk_elim h
        obtain ⟨c_18628, h⟩ := chk_elim h
        refine WC.draw (fun i => [].contains i) [] rfl ?_
        refine WD.pure (i := 0) (d := 44) (by kernel_rfl) rfl (by kernel_rfl) (by kernel_rfl) rfl rfl rfl (fun _ => q_move rfl) ?_
        refine WD.pure (i := 1) (d := 45) (by kernel_rfl) rfl (by kernel_rfl) (by kernel_rfl) rfl rfl rfl (fun _ => q_move rfl) ?_
        refine WD.znth (j := 2) (dd := 46) (by kernel_rfl) rfl (by kernel_rfl) (by kernel_rfl) rfl rfl (Z := Z) (Pr := (fun r x => r = e3 x)) elT_22 rfl rfl hs_18123 c_18622 ?_
        rintro A_18633 r_18634 hA_18635 hl_18636 rfl
        refine WD.quiet (i := 3) (d := 47) (by kernel_rfl) rfl (by kernel_rfl) (by kernel_rfl) rfl rfl rfl (q_load1 oneT_3 rfl (rd_z hz.pv hA_18635 rfl)) ?_
        refine WD.pure (i := 4) (d := 48) (by kernel_rfl) rfl (by kernel_rfl) (by kernel_rfl) rfl rfl rfl (fun _ => q_fieldAddr fo_27_6 rfl rfl) ?_
        refine WD.quiet (i := 5) (d := 49) (by kernel_rfl) rfl (by kernel_rfl) (by kernel_rfl) rfl rfl rfl (q_load1 oneT_22 rfl (rd_stb .here rfl)) ?_
        refine WD.pure (i := 6) (d := 50) (by kernel_rfl) rfl (by kernel_rfl) (by kernel_rfl) rfl rfl rfl (fun _ => q_move rfl) ?_
        refine WD.pure (i := 7) (d := 51) (by kernel_rfl) rfl (by kernel_rfl) (by kernel_rfl) rfl rfl rfl (fun _ => q_fieldAddr fo_27_6 rfl rfl) ?_
        refine WD.quiet (i := 8) (d := 52) (by kernel_rfl) rfl (by kernel_rfl) (by kernel_rfl) rfl rfl rfl (q_load1 oneT_22 rfl (rd_stb .here rfl)) ?_
        refine WD.pure (i := 9) (d := 53) (by kernel_rfl) rfl (by kernel_rfl) (by kernel_rfl) rfl rfl rfl (fun _ => q_len Try.underlying22 rfl) ?_
        refine WD.pure (i := 10) (d := 54) (by kernel_rfl) rfl (by kernel_rfl) (by kernel_rfl) rfl rfl rfl (fun _ => q_rem rfl rfl c_18627 rfl) ?_
        refine WD.znth (j := 11) (dd := 55) (by kernel_rfl) rfl (by kernel_rfl) (by kernel_rfl) rfl rfl (Z := Z) (Pr := (fun r x => r = e3 x)) elT_22 rfl rfl hs_18119 c_18628 ?_
        rintro A_18637 r_18638 hA_18639 hl_18640 rfl
        refine WD.quiet (i := 12) (d := 56) (by kernel_rfl) rfl (by kernel_rfl) (by kernel_rfl) rfl rfl rfl (q_load1 oneT_3 rfl (rd_z hz.pv hA_18639 rfl)) ?_
        refine WD.pure (i := 13) (d := 57) (by kernel_rfl) rfl (by kernel_rfl) (by kernel_rfl) rfl rfl rfl (fun _ => q_add rfl rfl rfl) ?_
        refine WD.pure (i := 14) (d := 10) (by kernel_rfl) rfl (by kernel_rfl) (by kernel_rfl) rfl rfl rfl (fun _ => q_assign rfl) ?_
        refine WD.done (by kernel_rfl) ?_
        refine WX.then ?_
        refine WC.ret ?_
        refine WX.thenRet ?_
        obtain rfl := Option.some.inj h
        refine WX.bpRet Try.results34 (.tmp rfl .nil) (fun w hw => ?_)
        exact ⟨ret1 rfl, hw.sub .nil⟩
    · replace h := ite_f h hb_18601
      refine WC.skip ?_
      refine WX.then ?_
      refine WC.seq ?_
      refine WC.seq ?_
      refine WC.region ?_
      refine WL.quiet (d := 58) rfl rfl rfl (q_fieldAddr fo_27_5 rfl rfl) ?_
      refine WL.quiet (d := 59) rfl rfl rfl (q_load1 oneT_22 rfl (rd_stb .here rfl)) ?_
      refine WL.quiet (d := 60) rfl rfl rfl (q_len Try.underlying22 rfl) ?_
      refine WL.quiet (d := 61) rfl rfl rfl (q_eql rfl rfl) ?_
      refine WL.nil ?_
      refine WX.then ?_
      refine WC.cond rfl (fun hb_18651 => ?_) (fun hb_18651 => ?_)
      · replace h := ite_t h hb_18651
        refine WC.seq ?_
        obtain ⟨c_18652, h⟩ := chk_elim h
        refine WC.region ?_
        refine WL.quiet (d := 62) rfl rfl rfl (q_move rfl) ?_
        refine WL.quiet (d := 63) rfl rfl rfl (q_move rfl) ?_
        refine WL.znth (dd := 64) rfl rfl (Z := Z) (Pr := (fun r x => r = e3 x)) elT_22 rfl rfl hs_18123 c_18652 ?_
        rintro A_18657 r_18658 hA_18659 hl_18660 rfl
        refine WL.quiet (d := 65) rfl rfl rfl (q_load1 oneT_3 rfl (rd_z hz.pv hA_18659 rfl)) ?_
        refine WL.quiet (d := 10) rfl rfl rfl (q_assign rfl) ?_
        refine WL.nil ?_
        refine WX.then ?_
        refine WC.ret ?_
        refine WX.thenRet ?_
        obtain rfl := Option.some.inj h
        refine WX.bpRet Try.results34 (.tmp rfl .nil) (fun w hw => ?_)
        exact ⟨ret1 rfl, hw.sub .nil⟩
      · replace h := ite_f h hb_18651
        refine WC.skip ?_
        refine WX.then ?_
        refine WC.seq ?_
        obtain ⟨c_18661, h⟩ := chk_elim h
        obtain ⟨c_18666, h⟩ := chk_elim h
        obtain ⟨c_18667, h⟩ := chk_elim h
        refine WC.draw (fun i => [].contains i) [] rfl ?_
        refine WD.pure (i := 0) (d := 66) (by kernel_rfl) rfl (by kernel_rfl) (by kernel_rfl) rfl rfl rfl (fun _ => q_move rfl) ?_
        refine WD.pure (i := 1) (d := 67) (by kernel_rfl) rfl (by kernel_rfl) (by kernel_rfl) rfl rfl rfl (fun _ => q_move rfl) ?_
        refine WD.znth (j := 2) (dd := 68) (by kernel_rfl) rfl (by kernel_rfl) (by kernel_rfl) rfl rfl (Z := Z) (Pr := (fun r x => r = e3 x)) elT_22 rfl rfl hs_18123 c_18661 ?_
        rintro A_18672 r_18673 hA_18674 hl_18675 rfl
        refine WD.quiet (i := 3) (d := 69) (by kernel_rfl) rfl (by kernel_rfl) (by kernel_rfl) rfl rfl rfl (q_load1 oneT_3 rfl (rd_z hz.pv hA_18674 rfl)) ?_
        refine WD.pure (i := 4) (d := 70) (by kernel_rfl) rfl (by kernel_rfl) (by kernel_rfl) rfl rfl rfl (fun _ => q_fieldAddr fo_27_5 rfl rfl) ?_
        refine WD.quiet (i := 5) (d := 71) (by kernel_rfl) rfl (by kernel_rfl) (by kernel_rfl) rfl rfl rfl (q_load1 oneT_22 rfl (rd_stb .here rfl)) ?_
        refine WD.pure (i := 6) (d := 72) (by kernel_rfl) rfl (by kernel_rfl) (by kernel_rfl) rfl rfl rfl (fun _ => q_move rfl) ?_
        refine WD.pure (i := 7) (d := 73) (by kernel_rfl) rfl (by kernel_rfl) (by kernel_rfl) rfl rfl rfl (fun _ => q_fieldAddr fo_27_5 rfl rfl) ?_
        refine WD.quiet (i := 8) (d := 74) (by kernel_rfl) rfl (by kernel_rfl) (by kernel_rfl) rfl rfl rfl (q_load1 oneT_22 rfl (rd_stb .here rfl)) ?_
        refine WD.pure (i := 9) (d := 75) (by kernel_rfl) rfl (by kernel_rfl) (by kernel_rfl) rfl rfl rfl (fun _ => q_len Try.underlying22 rfl) ?_
        refine WD.pure (i := 10) (d := 76) (by kernel_rfl) rfl (by kernel_rfl) (by kernel_rfl) rfl rfl rfl (fun _ => q_rem rfl rfl c_18666 rfl) ?_
        refine WD.znth (j := 11) (dd := 77) (by kernel_rfl) rfl (by kernel_rfl) (by kernel_rfl) rfl rfl (Z := Z) (Pr := (fun r x => r = e3 x)) elT_22 rfl rfl hs_18116 c_18667 ?_
        rintro A_18676 r_18677 hA_18678 hl_18679 rfl
        refine WD.quiet (i := 12) (d := 78) (by kernel_rfl) rfl (by kernel_rfl) (by kernel_rfl) rfl rfl rfl (q_load1 oneT_3 rfl (rd_z hz.pv hA_18678 rfl)) ?_
        refine WD.pure (i := 13) (d := 79) (by kernel_rfl) rfl (by kernel_rfl) (by kernel_rfl) rfl rfl rfl (fun _ => q_add rfl rfl rfl) ?_
        refine WD.pure (i := 14) (d := 10) (by kernel_rfl) rfl (by kernel_rfl) (by kernel_rfl) rfl rfl rfl (fun _ => q_assign rfl) ?_
        refine WD.done (by kernel_rfl) ?_
        refine WX.then ?_
        refine WC.ret ?_
        obtain rfl := Option.some.inj h
        refine WX.bpRet Try.results34 (.tmp rfl .nil) (fun w hw => ?_)
        exact ⟨ret1 rfl, hw.sub .nil⟩
end Go.Proofs.Ytbejngeaocfieaa
