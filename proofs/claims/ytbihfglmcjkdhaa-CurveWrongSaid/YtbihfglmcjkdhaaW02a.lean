/- A part of this claim's proof: models of functions, walks, plain laws. No conditions. -/
import Derived.Test.YtbihfglmcjkdhaaZSortF
import Derived.Test.YtbihfglmcjkdhaaZFast
import Derived.Test.YtbihfglmcjkdhaaShelf02
import Derived.Test.YtbihfglmcjkdhaaProg
namespace Go.Proofs.Ytbihfglmcjkdhaa
open Go Go.RowKit Sep
set_option linter.all false
set_option maxRecDepth 30000
set_option maxHeartbeats 4000000
def e5 (x : Int) : List Value := [(.int .u8 x)]
structure Sapi_Rat where
  fN : Int
  fD : Int
  deriving Inhabited, DecidableEq
structure S7 where
  fX : Int
  fY : Int
  fSigned : Bool
  fCode : Int
  deriving Inhabited, DecidableEq
structure S13 where
  fMsg : ByteArray
  fAddr : Int
  deriving Inhabited, DecidableEq
structure Sapi_Bucket where
  fBurst : Sapi_Rat
  fRate : Sapi_Rat
  deriving Inhabited, DecidableEq
def e42 (x : Sapi_Bucket) : List Value := [(.int .i64 x.fBurst.fN), (.int .i64 x.fBurst.fD), (.int .i64 x.fRate.fN), (.int .i64 x.fRate.fD)]
theorem e42_oc : ∀ x, ∀ u ∈ e42 x, u.oneCell' = true := fun _ => (oc_cons rfl (oc_cons rfl (oc_cons rfl (oc_cons rfl oc_nil))))
structure Scurve_calc where
  fE : Int
  deriving Inhabited, DecidableEq
def e28 (x : Sapi_Rat) : List Value := [(.int .i64 x.fN), (.int .i64 x.fD)]
theorem e28_oc : ∀ x, ∀ u ∈ e28 x, u.oneCell' = true := fun _ => (oc_cons rfl (oc_cons rfl oc_nil))
def p25 (Z : Zp) (r : List Value) (x : List Sapi_Bucket) : Prop := ∃ (ao0 : Option Addr) (cap0 : Nat), r = [(.slice ao0 x.length cap0)] ∧ ZS Z 4 (fun r x => r = e42 x) ao0 cap0 x
theorem p25_mono {Z Z' : Zp} (k : Zle Z Z') {r : List Value} {x : List Sapi_Bucket} (h : p25 Z r x) : p25 Z' r x := by
  obtain ⟨ao0, cap0, hr, h0⟩ := h
  exact ⟨ao0, cap0, hr, h0.mono k⟩
def e30 (x : Int) : List Value := [(.int .i64 x)]
theorem elT_22 : elT Try.prog 22 5 1 1 := ⟨Try.underlying22, ⟨Try.t5, _, rfl, rfl, rfl, rfl, rfl⟩, by decide⟩
theorem oneT_5 : oneT Try.prog 5 := oneT_of Try.underlying5 rfl
theorem zeroT_28 : zeroT Try.prog 28 (.agg #[(.int .i64 0), (.int .i64 0)]) := zeroT_of (i := Try.t28) rfl rfl
theorem sizT_28 : sizT Try.prog 28 2 := sizT_of (i := Try.t28) rfl
theorem aggT_28 : aggT Try.prog 28 2 := aggT_of (i := Try.t28) Try.underlying28 rfl rfl
theorem fo_28_0 : fieldOff Try.prog 28 0 0 := fieldOff_of (i := Try.t3) Try.underlying28 rfl rfl (by decide) rfl
theorem oneT_3 : oneT Try.prog 3 := oneT_of Try.underlying3 rfl
theorem sizT_3 : sizT Try.prog 3 1 := sizT_of (i := Try.t3) rfl
theorem elT_25 : elT Try.prog 25 42 4 32 := ⟨Try.underlying25, ⟨Try.t42, _, rfl, rfl, rfl, rfl, rfl⟩, by decide⟩
theorem fo_28_1 : fieldOff Try.prog 28 1 1 := fieldOff_of (i := Try.t3) Try.underlying28 rfl rfl (by decide) rfl
theorem keyT_9 : KeyT Try.prog 9 Value.string := keyT_str Try.underlying9
theorem zeroT_93 : zeroT Try.prog 93 .nilFunc := zeroT_of (i := Try.t93) rfl rfl
theorem fo_42_0 : fieldOff Try.prog 42 0 0 := fieldOff_of (i := Try.t28) Try.underlying42 rfl rfl (by decide) rfl
theorem fo_42_1 : fieldOff Try.prog 42 1 2 := fieldOff_of (i := Try.t28) Try.underlying42 rfl rfl (by decide) rfl
theorem aggT_42 : aggT Try.prog 42 4 := aggT_of (i := Try.t42) Try.underlying42 rfl rfl
theorem zeroT_74 : zeroT Try.prog 74 (.agg #[(.int .i64 0)]) := zeroT_of (i := Try.t74) rfl rfl
theorem zeroT_42 : zeroT Try.prog 42 (.agg #[(.int .i64 0), (.int .i64 0), (.int .i64 0), (.int .i64 0)]) := zeroT_of (i := Try.t42) rfl rfl
theorem sizT_42 : sizT Try.prog 42 4 := sizT_of (i := Try.t42) rfl
theorem fo_74_0 : fieldOff Try.prog 74 0 0 := fieldOff_of (i := Try.t30) Try.underlying74 rfl rfl (by decide) rfl
theorem oneT_30 : oneT Try.prog 30 := oneT_of Try.underlying30 rfl
theorem sizT_30 : sizT Try.prog 30 1 := sizT_of (i := Try.t30) rfl
theorem elT_44 : elT Try.prog 44 28 2 16 := ⟨Try.underlying44, ⟨Try.t28, _, rfl, rfl, rfl, rfl, rfl⟩, by decide⟩
theorem fldT_42_1 : fldT Try.prog 42 1 2 28 := fldT_of Try.underlying42 rfl rfl rfl
theorem eqT_42 : EqT Try.prog 42 e42 := ⟨fun u v w => by
  have i42_10000 := fun (w : World) (a b : Array Value) => run_equalIn_agg (P := Try.prog) w 9999 42 a b (by simp [Program.fieldsOf, Try.underlying42]) (by kernel_rfl)
  have i28_9999 := fun (w : World) (a b : Array Value) => run_equalIn_agg (P := Try.prog) w 9998 28 a b (by simp [Program.fieldsOf, Try.underlying28]) (by kernel_rfl)
  have i3_9998 := fun (w : World) (a b : Int) => run_equalIn_int (P := Try.prog) w 9997 3 .i64 .i64 a b Try.underlying3
  rw [i42_10000]
  simp [Program.fieldsOf, Op.eqFields, part, e42, i42_10000, Try.underlying42, i28_9999, Try.underlying28, i3_9998]
  rcases u with ⟨⟨u1, u2⟩, ⟨u3, u4⟩⟩
  rcases v with ⟨⟨v1, v2⟩, ⟨v3, v4⟩⟩
  by_cases h1 : u1 = v1 <;> by_cases h2 : u2 = v2 <;> by_cases h3 : u3 = v3 <;> by_cases h4 : u4 = v4 <;> simp [h1, h2, h3, h4], by kernel_rfl⟩
theorem zeroT_44 : zeroT Try.prog 44 (.slice none 0 0) := zeroT_of (i := Try.t44) rfl rfl
theorem oneT_25 : oneT Try.prog 25 := oneT_of Try.underlying25 rfl
theorem oneT_44 : oneT Try.prog 44 := oneT_of Try.underlying44 rfl
theorem sizT_44 : sizT Try.prog 44 1 := sizT_of (i := Try.t44) rfl
theorem eqT_28 : EqT Try.prog 28 e28 := ⟨fun u v w => by
  have i28_10000 := fun (w : World) (a b : Array Value) => run_equalIn_agg (P := Try.prog) w 9999 28 a b (by simp [Program.fieldsOf, Try.underlying28]) (by kernel_rfl)
  have i3_9999 := fun (w : World) (a b : Int) => run_equalIn_int (P := Try.prog) w 9998 3 .i64 .i64 a b Try.underlying3
  rw [i28_10000]
  simp [Program.fieldsOf, Op.eqFields, part, e28, i28_10000, Try.underlying28, i3_9999]
  rcases u with ⟨u1, u2⟩
  rcases v with ⟨v1, v2⟩
  by_cases h1 : u1 = v1 <;> by_cases h2 : u2 = v2 <;> simp [h1, h2], by kernel_rfl⟩
theorem zeroT_25 : zeroT Try.prog 25 (.slice none 0 0) := zeroT_of (i := Try.t25) rfl rfl
theorem sizT_25 : sizT Try.prog 25 1 := sizT_of (i := Try.t25) rfl
theorem elT_105 : elT Try.prog 105 25 1 24 := ⟨Try.underlying105, ⟨Try.t25, _, rfl, rfl, rfl, rfl, rfl⟩, by decide⟩
theorem elT_65 : elT Try.prog 65 30 1 8 := ⟨Try.underlying65, ⟨Try.t30, _, rfl, rfl, rfl, rfl, rfl⟩, by decide⟩


/-- rat.size -/
def m_rat_size (n_28 : Int) : Option Int :=
  if decide (n_28 < 0) then some (u64 ((u64 (i64 (0 - (i64 (n_28 + 1))))) + 1)) else some (u64 n_28)

set_option maxRecDepth 20000 in
theorem w_rat_size (Z : Zp)   (n_28 : Int) (r : Int) (w₀ : World) (hz : PZ [] w₀ Z)
    (h : m_rat_size n_28 = some r) :
    Calls Try.prog 62 #[(.int .i64 n_28)] w₀ fun e w' => e = .returned (.int .u64 r) ∧ Hp [] w₀ w' [] := by
  unfold m_rat_size at h
  refine Calls.ofWC (vs := [(.int .i64 n_28)]) (pre := []) (env := [(0, (.int .i64 n_28))]) Try.func62 rfl Try.ntmps62 rfl (Hp.nil w₀ _) rfl ?_
  refine WC.seq ?_
  refine WC.region ?_
  refine WL.quiet (d := 2) rfl rfl rfl (q_assign rfl) ?_
  refine WL.nil ?_
  refine WX.then ?_
  refine WC.seq ?_
  refine WC.seq ?_
  refine WC.region ?_
  refine WL.quiet (d := 3) rfl rfl rfl (q_move rfl) ?_
  refine WL.quiet (d := 4) rfl rfl rfl (q_lss rfl rfl) ?_
  refine WL.nil ?_
  refine WX.then ?_
  refine WC.cond rfl (fun hb_33 => ?_) (fun hb_33 => ?_)
  · replace h := ite_t h hb_33
    refine WC.seq ?_
    refine WC.region ?_
    refine WL.quiet (d := 5) rfl rfl rfl (q_move rfl) ?_
    refine WL.quiet (d := 6) rfl rfl rfl (q_add rfl rfl rfl) ?_
    refine WL.quiet (d := 7) rfl rfl rfl (q_neg rfl rfl) ?_
    refine WL.quiet (d := 8) rfl rfl rfl (q_conv Try.underlying3 Try.underlying90 rfl rfl) ?_
    refine WL.quiet (d := 9) rfl rfl rfl (q_add rfl rfl rfl) ?_
    refine WL.quiet (d := 2) rfl rfl rfl (q_assign rfl) ?_
    refine WL.nil ?_
    refine WX.then ?_
    refine WC.ret ?_
    refine WX.thenRet ?_
    obtain rfl := Option.some.inj h
    refine WX.bpRet Try.results62 (.tmp rfl .nil) (fun w hw => ?_)
    exact ⟨ret1 rfl, hw.sub .nil⟩
  · replace h := ite_f h hb_33
    refine WC.skip ?_
    refine WX.then ?_
    refine WC.seq ?_
    refine WC.region ?_
    refine WL.quiet (d := 10) rfl rfl rfl (q_move rfl) ?_
    refine WL.quiet (d := 11) rfl rfl rfl (q_conv Try.underlying3 Try.underlying90 rfl rfl) ?_
    refine WL.quiet (d := 2) rfl rfl rfl (q_assign rfl) ?_
    refine WL.nil ?_
    refine WX.then ?_
    refine WC.ret ?_
    obtain rfl := Option.some.inj h
    refine WX.bpRet Try.results62 (.tmp rfl .nil) (fun w hw => ?_)
    exact ⟨ret1 rfl, hw.sub .nil⟩
def m_rat_gcd_uint64_L2 (k_87 : Int → Option Int) : Nat → Int → Int → Option Int
  | 0, _, _ => none
  | n_97 + 1, a_94, b_95 => if decide (b_95 ≠ 0) then chk ((b_95 : Int) ≠ 0) (m_rat_gcd_uint64_L2 k_87 n_97 b_95 (Int.tmod a_94 b_95)) else k_87 a_94
theorem m_rat_gcd_uint64_L2_fuel {n : Nat} {k_87 : Int → Option Int} {a_94 : Int} {b_95 : Int} {r : Int} (h : m_rat_gcd_uint64_L2 k_87 n a_94 b_95 = some r) : ∃ m, n = m + 1 := by
  cases n with
  | zero => cases h
  | succ m => exact ⟨m, rfl⟩

/-- rat.gcd[uint64] -/
def m_rat_gcd_uint64 (a_38 : Int) (b_39 : Int) : Option Int :=
  jp1 (fun (a_86 : Int) => some a_86) fun k_87 => m_rat_gcd_uint64_L2 k_87 FUEL a_38 b_39

set_option maxRecDepth 20000 in
theorem w_rat_gcd_uint64 (Z : Zp)   (a_38 : Int) (b_39 : Int) (r : Int) (w₀ : World) (hz : PZ [] w₀ Z)
    (h : m_rat_gcd_uint64 a_38 b_39 = some r) :
    Calls Try.prog 63 #[(.int .u64 a_38), (.int .u64 b_39)] w₀ fun e w' => e = .returned (.int .u64 r) ∧ Hp [] w₀ w' [] := by
  unfold m_rat_gcd_uint64 at h
  refine Calls.ofWC (vs := [(.int .u64 a_38), (.int .u64 b_39)]) (pre := []) (env := [(0, (.int .u64 a_38)), (1, (.int .u64 b_39))]) Try.func63 rfl Try.ntmps63 rfl (Hp.nil w₀ _) rfl ?_
  refine WC.seq ?_
  refine WC.region ?_
  refine WL.quiet (d := 4) rfl rfl rfl (q_assign rfl) ?_
  refine WL.nil ?_
  refine WX.then ?_
  obtain ⟨k_87, hk_88, h⟩ := jp1_elim h
  refine WC.seqMid1 (fun (a_86 : Int) => (k_87 a_86 = some r)) (fun (a_86 : Int) => [(0, (.int .u64 a_86))]) (fun (a_86 : Int) => []) ?_ ?_
  · skip
    refine WC.block ?_
    refine WC.loop3 (fun (n_96 : Nat) (a_94 : Int) (b_95 : Int) => (m_rat_gcd_uint64_L2 k_87 n_96 a_94 b_95 = some r)) (fun (n_96 : Nat) (a_94 : Int) (b_95 : Int) => [(0, (.int .u64 a_94)), (1, (.int .u64 b_95))]) (fun (n_96 : Nat) (a_94 : Int) (b_95 : Int) => []) (fun (n_96 : Nat) (a_94 : Int) (b_95 : Int) => n_96) ⟨FUEL, a_38, b_39⟩ h (.cons rfl (.cons rfl .nil)) .nil ?_
    rintro n_96 a_94 b_95 h
    obtain ⟨n_97, rfl⟩ := m_rat_gcd_uint64_L2_fuel h
    rw [m_rat_gcd_uint64_L2] at h
    refine WC.seq ?_
    refine WC.seq ?_
    refine WC.region ?_
    refine WL.quiet (d := 5) rfl rfl rfl (q_move rfl) ?_
    refine WL.quiet (d := 6) rfl rfl rfl (q_neq rfl rfl) ?_
    refine WL.nil ?_
    refine WX.then ?_
    refine WC.cond rfl (fun hb_99 => ?_) (fun hb_99 => ?_)
    · replace h := ite_t h hb_99
      refine WC.skip ?_
      refine WX.then ?_
      refine WC.block ?_
      obtain ⟨c_100, h⟩ := chk_elim h
      refine WC.draw (fun i => [].contains i) [] rfl ?_
      refine WD.pure (i := 0) (d := 7) (by kernel_rfl) rfl (readyF_of (by kernel_rfl)) (freeF_of (by kernel_rfl)) rfl rfl rfl (fun _ => q_move rfl) ?_
      refine WD.pure (i := 1) (d := 8) (by kernel_rfl) rfl (readyF_of (by kernel_rfl)) (freeF_of (by kernel_rfl)) rfl rfl rfl (fun _ => q_move rfl) ?_
      refine WD.pure (i := 2) (d := 9) (by kernel_rfl) rfl (readyF_of (by kernel_rfl)) (freeF_of (by kernel_rfl)) rfl rfl rfl (fun _ => q_move rfl) ?_
      refine WD.pure (i := 3) (d := 10) (by kernel_rfl) rfl (readyF_of (by kernel_rfl)) (freeF_of (by kernel_rfl)) rfl rfl rfl (fun _ => q_rem rfl rfl c_100 rfl) ?_
      refine WD.pure (i := 4) (d := 0) (by kernel_rfl) rfl (readyF_of (by kernel_rfl)) (freeF_of (by kernel_rfl)) rfl rfl rfl (fun _ => q_assign rfl) ?_
      refine WD.pure (i := 5) (d := 1) (by kernel_rfl) rfl (readyF_of (by kernel_rfl)) (freeF_of (by kernel_rfl)) rfl rfl rfl (fun _ => q_assign rfl) ?_
      refine WD.done (by kernel_rfl) ?_
      refine WX.blockNormal ?_
      exact WX.round (G := Nat × Int × Int) ⟨n_97, b_95, (Int.tmod a_94 b_95)⟩ h (Nat.lt_succ_self _) (.cons rfl (.cons rfl .nil)) .nil
    · replace h := ite_f h hb_99
      refine WC.exit ?_
      refine WX.thenExit ?_
      refine WX.thenExit ?_
      refine WX.blockHit ?_
      exact WX.mid (G := Int) a_94 h (.cons rfl .nil) .nil
  · rintro a_86 h
    replace h := (hk_88 a_86).symm.trans h
    refine WC.seq ?_
    refine WC.region ?_
    refine WL.quiet (d := 11) rfl rfl rfl (q_move rfl) ?_
    refine WL.quiet (d := 4) rfl rfl rfl (q_assign rfl) ?_
    refine WL.nil ?_
    refine WX.then ?_
    refine WC.ret ?_
    obtain rfl := Option.some.inj h
    refine WX.bpRet Try.results63 (.tmp rfl .nil) (fun w hw => ?_)
    exact ⟨ret1 rfl, hw.sub .nil⟩
/-- rat.Make -/
def m_rat_Make (n_22 : Int) (d_23 : Int) : Option (Sapi_Rat × Int) :=
  if decide (d_23 = 0) then some ((⟨0, 0⟩ : Sapi_Rat), 2) else (m_rat_size n_22).bind fun x_123 => (m_rat_size d_23).bind fun x_125 => (m_rat_gcd_uint64 x_123 x_125).bind fun x_127 => chk ((x_127 : Int) ≠ 0) (if (decide ((u64 (Int.tdiv x_123 x_127)) > 1073741824)) || (decide ((u64 (Int.tdiv x_125 x_127)) > 1073741824)) then some ((⟨0, 0⟩ : Sapi_Rat), 3) else jp1 (fun (c_139 : Int) => some ((⟨c_139, i64 (u64 (Int.tdiv x_125 x_127))⟩ : Sapi_Rat), 0)) fun k_140 => if (decide (n_22 < 0)) != (decide (d_23 < 0)) then k_140 (i64 (0 - (i64 (u64 (Int.tdiv x_123 x_127))))) else k_140 (i64 (u64 (Int.tdiv x_123 x_127))))

set_option maxRecDepth 20000 in
theorem w_rat_Make (Z : Zp)   (n_22 : Int) (d_23 : Int) (r : Sapi_Rat × Int) (w₀ : World) (hz : PZ [] w₀ Z)
    (h : m_rat_Make n_22 d_23 = some r) :
    Calls Try.prog 38 #[(.int .i64 n_22), (.int .i64 d_23)] w₀ fun e w' => e = .returned (.tuple #[(.agg #[(.int .i64 r.1.fN), (.int .i64 r.1.fD)]), (.int .i64 r.2)]) ∧ Hp [] w₀ w' [] := by
  unfold m_rat_Make at h
  refine Calls.ofWC (vs := [(.int .i64 n_22), (.int .i64 d_23)]) (pre := []) (env := [(0, (.int .i64 n_22)), (1, (.int .i64 d_23))]) Try.func38 rfl Try.ntmps38 rfl (Hp.nil w₀ _) rfl ?_
  refine WC.seq ?_
  refine WC.region ?_
  refine WL.new (dd := 4) rfl rfl rfl (e_alloc (cs := [(.int .i64 0), (.int .i64 0)]) zeroT_28 rfl) ?_
  intro b_120 _
  refine WL.quiet (d := 5) rfl rfl rfl (q_assign rfl) ?_
  refine WL.nil ?_
  refine WX.then ?_
  refine WC.seq ?_
  refine WC.seq ?_
  refine WC.region ?_
  refine WL.quiet (d := 10) rfl rfl rfl (q_move rfl) ?_
  refine WL.quiet (d := 11) rfl rfl rfl (q_eql rfl rfl) ?_
  refine WL.nil ?_
  refine WX.then ?_
  refine WC.cond rfl (fun hb_122 => ?_) (fun hb_122 => ?_)
  · replace h := ite_t h hb_122
    refine WC.seq ?_
    refine WC.region ?_
    refine WL.quiet (d := 12) rfl rfl rfl (q_build (v := (.agg #[(.int .i64 0), (.int .i64 0)])) (Eos.parts (l := []) .nil []) (fun _ => by kernel_rfl)) ?_
    refine WL.eff0 rfl rfl (e_store (vs := [(.int .i64 0), (.int .i64 0)]) (ds := [(.int .i64 0), (.int .i64 0)]) sizT_28 rfl rfl rfl rfl (oc_cons rfl (oc_cons rfl oc_nil)) .here (Nat.le_of_ble_eq_true rfl) rfl) ?_
    refine WL.quiet (d := 5) rfl rfl rfl (q_assign rfl) ?_
    refine WL.nil ?_
    refine WX.then ?_
    refine WC.ret ?_
    refine WX.thenRet ?_
    obtain rfl := Option.some.inj h
    refine WX.bpRet Try.results38 (.agg rfl aggT_28 rfl (rd_all .here) (.tmp rfl .nil)) (fun w hw => ?_)
    exact ⟨ret2 rfl rfl, hw.sub .nil⟩
  · replace h := ite_f h hb_122
    refine WC.skip ?_
    refine WX.then ?_
    refine WC.seq ?_
    obtain ⟨x_123, hx_124, h⟩ := bind_elim h
    obtain ⟨x_125, hx_126, h⟩ := bind_elim h
    refine WC.region ?_
    refine WL.quiet (d := 13) rfl rfl rfl (q_move rfl) ?_
    refine WL.callD (dd := 14) rfl rfl rfl (run_call (l := [.tmp 13]) Try.call62 (.cons rfl .nil)) (.nil : Sel [stb b_120 28 [(.int .i64 0), (.int .i64 0)]] [] [stb b_120 28 [(.int .i64 0), (.int .i64 0)]]) (fun w hw => by have pz := (hz.call hw (.nil : Sel [stb b_120 28 [(.int .i64 0), (.int .i64 0)]] [] [stb b_120 28 [(.int .i64 0), (.int .i64 0)]])); exact w_rat_size (Z := _)  (n_28 := n_22) (r := x_123) w pz  hx_124) ?_
    refine WL.quiet (d := 15) rfl rfl rfl (q_move rfl) ?_
    refine WL.callD (dd := 16) rfl rfl rfl (run_call (l := [.tmp 15]) Try.call62 (.cons rfl .nil)) (.nil : Sel [stb b_120 28 [(.int .i64 0), (.int .i64 0)]] [] [stb b_120 28 [(.int .i64 0), (.int .i64 0)]]) (fun w hw => by have pz := (hz.call hw (.nil : Sel [stb b_120 28 [(.int .i64 0), (.int .i64 0)]] [] [stb b_120 28 [(.int .i64 0), (.int .i64 0)]])); exact w_rat_size (Z := _)  (n_28 := d_23) (r := x_125) w pz  hx_126) ?_
    refine WL.quiet (d := 6) rfl rfl rfl (q_assign rfl) ?_
    refine WL.quiet (d := 7) rfl rfl rfl (q_assign rfl) ?_
    refine WL.nil ?_
    refine WX.then ?_
    refine WC.seq ?_
    obtain ⟨x_127, hx_128, h⟩ := bind_elim h
    refine WC.region ?_
    refine WL.quiet (d := 17) rfl rfl rfl (q_move rfl) ?_
    refine WL.quiet (d := 18) rfl rfl rfl (q_move rfl) ?_
    refine WL.callD (dd := 19) rfl rfl rfl (run_call (l := [.tmp 17, .tmp 18]) Try.call63 (.cons rfl (.cons rfl .nil))) (.nil : Sel [stb b_120 28 [(.int .i64 0), (.int .i64 0)]] [] [stb b_120 28 [(.int .i64 0), (.int .i64 0)]]) (fun w hw => by have pz := (hz.call hw (.nil : Sel [stb b_120 28 [(.int .i64 0), (.int .i64 0)]] [] [stb b_120 28 [(.int .i64 0), (.int .i64 0)]])); exact w_rat_gcd_uint64 (Z := _)  (a_38 := x_123) (b_39 := x_125) (r := x_127) w pz  hx_128) ?_
    refine WL.quiet (d := 8) rfl rfl rfl (q_assign rfl) ?_
    refine WL.nil ?_
    refine WX.then ?_
    refine WC.seq ?_
    obtain ⟨c_129, h⟩ := chk_elim h
    refine WC.draw (fun i => [].contains i) [] rfl ?_
    refine WD.pure (i := 0) (d := 20) (by kernel_rfl) rfl (readyF_of (by kernel_rfl)) (freeF_of (by kernel_rfl)) rfl rfl rfl (fun _ => q_move rfl) ?_
    refine WD.pure (i := 1) (d := 21) (by kernel_rfl) rfl (readyF_of (by kernel_rfl)) (freeF_of (by kernel_rfl)) rfl rfl rfl (fun _ => q_move rfl) ?_
    refine WD.pure (i := 2) (d := 22) (by kernel_rfl) rfl (readyF_of (by kernel_rfl)) (freeF_of (by kernel_rfl)) rfl rfl rfl (fun _ => q_quo rfl rfl c_129 rfl) ?_
    refine WD.pure (i := 3) (d := 23) (by kernel_rfl) rfl (readyF_of (by kernel_rfl)) (freeF_of (by kernel_rfl)) rfl rfl rfl (fun _ => q_move rfl) ?_
    refine WD.pure (i := 4) (d := 24) (by kernel_rfl) rfl (readyF_of (by kernel_rfl)) (freeF_of (by kernel_rfl)) rfl rfl rfl (fun _ => q_move rfl) ?_
    refine WD.pure (i := 5) (d := 25) (by kernel_rfl) rfl (readyF_of (by kernel_rfl)) (freeF_of (by kernel_rfl)) rfl rfl rfl (fun _ => q_quo rfl rfl c_129 rfl) ?_
    refine WD.pure (i := 6) (d := 6) (by kernel_rfl) rfl (readyF_of (by kernel_rfl)) (freeF_of (by kernel_rfl)) rfl rfl rfl (fun _ => q_assign rfl) ?_
    refine WD.pure (i := 7) (d := 7) (by kernel_rfl) rfl (readyF_of (by kernel_rfl)) (freeF_of (by kernel_rfl)) rfl rfl rfl (fun _ => q_assign rfl) ?_
    refine WD.done (by kernel_rfl) ?_
    refine WX.then ?_
    refine WC.seq ?_
    refine WC.seq ?_
    refine WC.region ?_
    refine WL.quiet (d := 26) rfl rfl rfl (q_move rfl) ?_
    refine WL.quiet (d := 27) rfl rfl rfl (q_gtr rfl rfl) ?_
    refine WL.quiet (d := 28) rfl rfl rfl (q_move rfl) ?_
    refine WL.cut0 True [(0, (.int .i64 n_22)), (1, (.int .i64 d_23)), (4, (.pointer (some ⟨b_120, 0, none⟩))), (6, (.int .u64 (u64 (Int.tdiv x_123 x_127)))), (7, (.int .u64 (u64 (Int.tdiv x_125 x_127)))), (31, (.bool ((decide ((u64 (Int.tdiv x_123 x_127)) > 1073741824)) || (decide ((u64 (Int.tdiv x_125 x_127)) > 1073741824)))))] [stb b_120 28 [(.int .i64 0), (.int .i64 0)]] 3 ?_ (fun _ => ?_)
    · rcases Bool.eq_false_or_eq_true (decide ((u64 (Int.tdiv x_123 x_127)) > 1073741824)) with hb' | hb'
      · have hg_133 := hb'; clear hb'
        refine WL.pin (i := 28) rfl hg_133 ?_
        refine WL.skip rfl rfl rfl ?_
        refine WL.skip rfl rfl rfl ?_
        refine WL.quiet (d := 31) rfl rfl rfl (q_pickT rfl rfl) ?_
        exact WL.cutEnd () trivial (.cons rfl (.cons rfl (.cons rfl (.cons rfl (.cons rfl (.cons (some_bool (or_l hg_133)) .nil)))))) (.cons .here .nil)
      · have hg_134 := hb'; clear hb'
        refine WL.pin (i := 28) rfl hg_134 ?_
        refine WL.quiet (d := 29) rfl rfl rfl (q_move rfl) ?_
        refine WL.quiet (d := 30) rfl rfl rfl (q_gtr rfl rfl) ?_
        refine WL.quiet (d := 31) rfl rfl rfl (q_pickF rfl rfl) ?_
        exact WL.cutEnd () trivial (.cons rfl (.cons rfl (.cons rfl (.cons rfl (.cons rfl (.cons (some_bool (or_r hg_134)) .nil)))))) (.cons .here .nil)
    · skip
      refine WL.nil ?_
      refine WX.then ?_
      refine WC.cond rfl (fun hb_135 => ?_) (fun hb_135 => ?_)
      · replace h := ite_t h hb_135
        refine WC.seq ?_
        refine WC.region ?_
        refine WL.quiet (d := 32) rfl rfl rfl (q_build (v := (.agg #[(.int .i64 0), (.int .i64 0)])) (Eos.parts (l := []) .nil []) (fun _ => by kernel_rfl)) ?_
        refine WL.eff0 rfl rfl (e_store (vs := [(.int .i64 0), (.int .i64 0)]) (ds := [(.int .i64 0), (.int .i64 0)]) sizT_28 rfl rfl rfl rfl (oc_cons rfl (oc_cons rfl oc_nil)) .here (Nat.le_of_ble_eq_true rfl) rfl) ?_
        refine WL.quiet (d := 5) rfl rfl rfl (q_assign rfl) ?_
        refine WL.nil ?_
        refine WX.then ?_
        refine WC.ret ?_
        refine WX.thenRet ?_
        obtain rfl := Option.some.inj h
        refine WX.bpRet Try.results38 (.agg rfl aggT_28 rfl (rd_all .here) (.tmp rfl .nil)) (fun w hw => ?_)
        exact ⟨ret2 rfl rfl, hw.sub .nil⟩
      · replace h := ite_f h hb_135
        refine WC.skip ?_
        refine WX.then ?_
        refine WC.seq ?_
        refine WC.region ?_
        refine WL.quiet (d := 33) rfl rfl rfl (q_move rfl) ?_
        refine WL.quiet (d := 34) rfl rfl rfl (q_conv Try.underlying90 Try.underlying3 rfl rfl) ?_
        refine WL.quiet (d := 35) rfl rfl rfl (q_move rfl) ?_
        refine WL.quiet (d := 36) rfl rfl rfl (q_conv Try.underlying90 Try.underlying3 rfl rfl) ?_
        refine WL.quiet (d := 37) rfl rfl rfl (q_build (v := (.agg #[(.int .i64 (i64 (u64 (Int.tdiv x_123 x_127)))), (.int .i64 (i64 (u64 (Int.tdiv x_125 x_127))))])) (Eos.parts (l := [.tmp 34, .tmp 36]) (.cons rfl (.cons rfl .nil)) [0, 1]) (fun _ => by kernel_rfl)) ?_
        refine WL.new (dd := 9) rfl rfl rfl (e_alloc (cs := [(.int .i64 0), (.int .i64 0)]) zeroT_28 rfl) ?_
        intro b_137 _
        refine WL.eff0 rfl rfl (e_store (vs := [(.int .i64 (i64 (u64 (Int.tdiv x_123 x_127)))), (.int .i64 (i64 (u64 (Int.tdiv x_125 x_127))))]) (ds := [(.int .i64 (i64 (u64 (Int.tdiv x_123 x_127)))), (.int .i64 (i64 (u64 (Int.tdiv x_125 x_127))))]) sizT_28 rfl rfl rfl rfl (oc_cons rfl (oc_cons rfl oc_nil)) .here (Nat.le_of_ble_eq_true rfl) rfl) ?_
        refine WL.nil ?_
        refine WX.then ?_
        obtain ⟨k_140, hk_141, h⟩ := jp1_elim h
        refine WC.seqMid1 (fun (c_139 : Int) => (k_140 c_139 = some r)) (fun (c_139 : Int) => [(4, (.pointer (some ⟨b_120, 0, none⟩))), (9, (.pointer (some ⟨b_137, 0, none⟩)))]) (fun (c_139 : Int) => [stb b_120 28 [(.int .i64 0), (.int .i64 0)], stb b_137 28 [(.int .i64 c_139), (.int .i64 (i64 (u64 (Int.tdiv x_125 x_127))))]]) ?_ ?_
        · skip
          refine WC.seq ?_
          refine WC.region ?_
          refine WL.quiet (d := 38) rfl rfl rfl (q_move rfl) ?_
          refine WL.quiet (d := 39) rfl rfl rfl (q_lss rfl rfl) ?_
          refine WL.quiet (d := 40) rfl rfl rfl (q_move rfl) ?_
          refine WL.quiet (d := 41) rfl rfl rfl (q_lss rfl rfl) ?_
          refine WL.quiet (d := 42) rfl rfl rfl (q_bneq Try.underlying4 rfl rfl) ?_
          refine WL.nil ?_
          refine WX.then ?_
          refine WC.cond rfl (fun hb_142 => ?_) (fun hb_142 => ?_)
          · replace h := ite_t h hb_142
            refine WC.region ?_
            refine WL.quiet (d := 43) rfl rfl rfl (q_fieldAddr fo_28_0 rfl rfl) ?_
            refine WL.quiet (d := 44) rfl rfl rfl (q_load1 oneT_3 rfl (rd_stb .here rfl)) ?_
            refine WL.quiet (d := 45) rfl rfl rfl (q_neg rfl rfl) ?_
            refine WL.quiet (d := 46) rfl rfl rfl (q_fieldAddr fo_28_0 rfl rfl) ?_
            refine WL.eff0 rfl rfl (e_store (vs := [(.int .i64 (i64 (0 - (i64 (u64 (Int.tdiv x_123 x_127))))))]) (ds := [(.int .i64 (i64 (0 - (i64 (u64 (Int.tdiv x_123 x_127)))))), (.int .i64 (i64 (u64 (Int.tdiv x_125 x_127))))]) sizT_3 rfl rfl rfl rfl (oc_cons rfl oc_nil) .here (Nat.le_of_ble_eq_true rfl) rfl) ?_
            refine WL.nil ?_
            exact WX.mid (G := Int) (i64 (0 - (i64 (u64 (Int.tdiv x_123 x_127))))) h (.cons rfl (.cons rfl .nil)) (.cons (.there .here) (.cons .here .nil))
          · replace h := ite_f h hb_142
            refine WC.skip ?_
            exact WX.mid (G := Int) (i64 (u64 (Int.tdiv x_123 x_127))) h (.cons rfl (.cons rfl .nil)) (.cons (.there .here) (.cons .here .nil))
        · rintro c_139 h
          replace h := (hk_141 c_139).symm.trans h
          refine WC.seq ?_
          refine WC.region ?_
          refine WL.quiet (d := 47) rfl rfl rfl (q_loadA (cs := [(.int .i64 c_139), (.int .i64 (i64 (u64 (Int.tdiv x_125 x_127))))]) aggT_28 rfl rfl (rd_all (.there .here))) ?_
          refine WL.eff0 rfl rfl (e_store (vs := [(.int .i64 c_139), (.int .i64 (i64 (u64 (Int.tdiv x_125 x_127))))]) (ds := [(.int .i64 c_139), (.int .i64 (i64 (u64 (Int.tdiv x_125 x_127))))]) sizT_28 rfl rfl rfl rfl (oc_cons rfl (oc_cons rfl oc_nil)) .here (Nat.le_of_ble_eq_true rfl) rfl) ?_
          refine WL.quiet (d := 5) rfl rfl rfl (q_assign rfl) ?_
          refine WL.nil ?_
          refine WX.then ?_
          refine WC.ret ?_
          obtain rfl := Option.some.inj h
          refine WX.bpRet Try.results38 (.agg rfl aggT_28 rfl (rd_all .here) (.tmp rfl .nil)) (fun w hw => ?_)
          exact ⟨ret2 rfl rfl, hw.sub .nil⟩
/-- nacellelaw02.num -/
def m_law02_num (n_528 : Int) (d_529 : Int) : Option Sapi_Rat :=
  some (⟨n_528, d_529⟩ : Sapi_Rat)

set_option maxRecDepth 20000 in
theorem w_law02_num (Z : Zp)   (n_528 : Int) (d_529 : Int) (r : Sapi_Rat) (w₀ : World) (hz : PZ [] w₀ Z)
    (h : m_law02_num n_528 d_529 = some r) :
    Calls Try.prog 22 #[(.int .i64 n_528), (.int .i64 d_529)] w₀ fun e w' => e = .returned (.agg #[(.int .i64 r.fN), (.int .i64 r.fD)]) ∧ Hp [] w₀ w' [] := by
  unfold m_law02_num at h
  refine Calls.ofWC (vs := [(.int .i64 n_528), (.int .i64 d_529)]) (pre := []) (env := [(0, (.int .i64 n_528)), (1, (.int .i64 d_529))]) Try.func22 rfl Try.ntmps22 rfl (Hp.nil w₀ _) rfl ?_
  refine WC.seq ?_
  refine WC.region ?_
  refine WL.new (dd := 4) rfl rfl rfl (e_alloc (cs := [(.int .i64 0), (.int .i64 0)]) zeroT_28 rfl) ?_
  intro b_534 _
  refine WL.nil ?_
  refine WX.then ?_
  refine WC.seq ?_
  refine WC.region ?_
  refine WL.quiet (d := 5) rfl rfl rfl (q_move rfl) ?_
  refine WL.quiet (d := 6) rfl rfl rfl (q_move rfl) ?_
  refine WL.quiet (d := 7) rfl rfl rfl (q_build (v := (.agg #[(.int .i64 n_528), (.int .i64 d_529)])) (Eos.parts (l := [.tmp 5, .tmp 6]) (.cons rfl (.cons rfl .nil)) [0, 1]) (fun _ => by kernel_rfl)) ?_
  refine WL.eff0 rfl rfl (e_store (vs := [(.int .i64 n_528), (.int .i64 d_529)]) (ds := [(.int .i64 n_528), (.int .i64 d_529)]) sizT_28 rfl rfl rfl rfl (oc_cons rfl (oc_cons rfl oc_nil)) .here (Nat.le_of_ble_eq_true rfl) rfl) ?_
  refine WL.nil ?_
  refine WX.then ?_
  refine WC.ret ?_
  obtain rfl := Option.some.inj h
  refine WX.bpRet Try.results22 (.agg rfl aggT_28 rfl (rd_all .here) .nil) (fun w hw => ?_)
  exact ⟨ret1 rfl, hw.sub .nil⟩
def m_law02_Small_L2 (nums_7 : List Int) (k_793 : (List Sapi_Bucket) → Option (List Sapi_Bucket)) : Nat → (List Sapi_Bucket) → Int → Option (List Sapi_Bucket)
  | 0, _, _ => none
  | n_879 + 1, c_873, i_876 => if (decide ((i64 (i_876 + 1)) < ((nums_7.length : Nat) : Int))) && (decide (((c_873.length : Nat) : Int) < 4)) then chk ((0 : Int) ≤ i_876 ∧ i_876 < ((nums_7.length : Nat) : Int)) ((m_rat_Make (Int.tmod (i64 (nth nums_7 i_876)) 101) 1).bind fun x_924 => chk ((0 : Int) ≤ (i64 (i_876 + 1)) ∧ (i64 (i_876 + 1)) < ((nums_7.length : Nat) : Int)) ((m_rat_Make (Int.tmod (i64 (nth nums_7 (i64 (i_876 + 1)))) 41) 8).bind fun x_937 => chk ((((c_873 ++ ([(⟨x_924.1, x_937.1⟩ : Sapi_Bucket)] : List Sapi_Bucket)).length : Nat) : Int) * 32 ≤ 140737488355328 ∧ (((c_873 ++ ([(⟨x_924.1, x_937.1⟩ : Sapi_Bucket)] : List Sapi_Bucket)).length : Nat) : Int) ≤ 4611686018427387904) (m_law02_Small_L2 nums_7 k_793 n_879 (c_873 ++ ([(⟨x_924.1, x_937.1⟩ : Sapi_Bucket)] : List Sapi_Bucket)) (i64 (i_876 + 2))))) else k_793 c_873
theorem m_law02_Small_L2_fuel {n : Nat} {nums_7 : List Int} {k_793 : (List Sapi_Bucket) → Option (List Sapi_Bucket)} {c_873 : List Sapi_Bucket} {i_876 : Int} {r : List Sapi_Bucket} (h : m_law02_Small_L2 nums_7 k_793 n c_873 i_876 = some r) : ∃ m, n = m + 1 := by
  cases n with
  | zero => cases h
  | succ m => exact ⟨m, rfl⟩

/-- nacellelaw02.Small -/
def m_law02_Small (nums_7 : List Int) : Option (List Sapi_Bucket) :=
  jp1 (fun (c_790 : List Sapi_Bucket) => jp1 (fun (c_960 : List Sapi_Bucket) => some c_960) fun k_963 => if decide (((c_790.length : Nat) : Int) = 0) then (m_law02_num 7 1).bind fun x_966 => (m_law02_num 1 8).bind fun x_968 => k_963 ([(⟨x_966, x_968⟩ : Sapi_Bucket)] : List Sapi_Bucket) else k_963 c_790) fun k_793 => m_law02_Small_L2 nums_7 k_793 FUEL ([] : List Sapi_Bucket) 0

set_option maxRecDepth 20000 in
theorem w_law02_Small (Z : Zp)  (ao_8 : Option Addr) (cap_9 : Nat) (nums_7 : List Int) (r : List Sapi_Bucket) (w₀ : World) (hz : PZ [] w₀ Z)
    (hs_10 : ZS Z 1 (fun r x => r = e5 x) ao_8 cap_9 nums_7)
    (h : m_law02_Small nums_7 = some r) :
    Calls Try.prog 10 #[(.slice ao_8 nums_7.length cap_9)] w₀ fun e w' => ∃ ao_555 : Option Addr, ∃ cap_556 : Nat, e = .returned (.slice ao_555 r.length cap_556) ∧ True ∧ Hp [] w₀ w' [row (.slice ao_555 r.length cap_556) 42 4 (r.flatMap e42)] := by
  unfold m_law02_Small at h
  refine Calls.ofWC (vs := [(.slice ao_8 nums_7.length cap_9)]) (pre := []) (env := [(0, (.slice ao_8 nums_7.length cap_9))]) Try.func10 rfl Try.ntmps10 rfl (Hp.nil w₀ _) rfl ?_
  refine WC.seq ?_
  refine WC.region ?_
  refine WL.quiet (d := 2) rfl rfl rfl (q_assign rfl) ?_
  refine WL.nil ?_
  refine WX.then ?_
  refine WC.seq ?_
  refine WC.region ?_
  refine WL.quiet (d := 3) rfl rfl rfl (q_assign rfl) ?_
  refine WL.nil ?_
  refine WX.then ?_
  obtain ⟨k_793, hk_794, h⟩ := jp1_elim h
  refine WC.seqMid3 (fun (c_790 : List Sapi_Bucket) (ao_791 : Option Addr) (cap_792 : Nat) => (k_793 c_790 = some r)) (fun (c_790 : List Sapi_Bucket) (ao_791 : Option Addr) (cap_792 : Nat) => [(3, (.slice ao_791 c_790.length cap_792))]) (fun (c_790 : List Sapi_Bucket) (ao_791 : Option Addr) (cap_792 : Nat) => [row (.slice ao_791 c_790.length cap_792) 42 4 (c_790.flatMap e42)]) ?_ ?_
  · skip
    refine WC.seq ?_
    refine WC.region ?_
    refine WL.quiet (d := 4) rfl rfl rfl (q_assign rfl) ?_
    refine WL.nil ?_
    refine WX.then ?_
    refine WC.block ?_
    refine WC.nilRow 42 4 ?_
    refine WC.loop5 (fun (n_877 : Nat) (c_873 : List Sapi_Bucket) (i_876 : Int) (ao_874 : Option Addr) (cap_875 : Nat) => (m_law02_Small_L2 nums_7 k_793 n_877 c_873 i_876 = some r)) (fun (n_877 : Nat) (c_873 : List Sapi_Bucket) (i_876 : Int) (ao_874 : Option Addr) (cap_875 : Nat) => [(0, (.slice ao_8 nums_7.length cap_9)), (3, (.slice ao_874 c_873.length cap_875)), (4, (.int .i64 i_876))]) (fun (n_877 : Nat) (c_873 : List Sapi_Bucket) (i_876 : Int) (ao_874 : Option Addr) (cap_875 : Nat) => [row (.slice ao_874 c_873.length cap_875) 42 4 (c_873.flatMap e42)]) (fun (n_877 : Nat) (c_873 : List Sapi_Bucket) (i_876 : Int) (ao_874 : Option Addr) (cap_875 : Nat) => n_877) ⟨FUEL, ([] : List Sapi_Bucket), 0, none, 0⟩ h (.cons rfl (.cons rfl (.cons rfl .nil))) (.cons .here .nil) ?_
    rintro n_877 c_873 i_876 ao_874 cap_875 h
    obtain ⟨n_879, rfl⟩ := m_law02_Small_L2_fuel h
    rw [m_law02_Small_L2] at h
    refine WC.seq ?_
    refine WC.seq ?_
    refine WC.region ?_
    refine WL.quiet (d := 9) rfl rfl rfl (q_move rfl) ?_
    refine WL.quiet (d := 10) rfl rfl rfl (q_add rfl rfl rfl) ?_
    refine WL.quiet (d := 11) rfl rfl rfl (q_move rfl) ?_
    refine WL.quiet (d := 12) rfl rfl rfl (q_len Try.underlying22 rfl) ?_
    refine WL.quiet (d := 13) rfl rfl rfl (q_lss rfl rfl) ?_
    refine WL.quiet (d := 14) rfl rfl rfl (q_move rfl) ?_
    refine WL.cut0 True [(0, (.slice ao_8 nums_7.length cap_9)), (3, (.slice ao_874 c_873.length cap_875)), (4, (.int .i64 i_876)), (18, (.bool ((decide ((i64 (i_876 + 1)) < ((nums_7.length : Nat) : Int))) && (decide (((c_873.length : Nat) : Int) < 4)))))] [row (.slice ao_874 c_873.length cap_875) 42 4 (c_873.flatMap e42)] 4 ?_ (fun _ => ?_)
    · rcases Bool.eq_false_or_eq_true (decide ((i64 (i_876 + 1)) < ((nums_7.length : Nat) : Int))) with hb' | hb'
      · have hg_883 := hb'; clear hb'
        refine WL.pin (i := 14) rfl hg_883 ?_
        refine WL.quiet (d := 15) rfl rfl rfl (q_move rfl) ?_
        refine WL.quiet (d := 16) rfl rfl rfl (q_len Try.underlying25 rfl) ?_
        refine WL.quiet (d := 17) rfl rfl rfl (q_lss rfl rfl) ?_
        refine WL.quiet (d := 18) rfl rfl rfl (q_pickT rfl rfl) ?_
        exact WL.cutEnd () trivial (.cons rfl (.cons rfl (.cons rfl (.cons (some_bool (and_r hg_883)) .nil)))) (.cons .here .nil)
      · have hg_884 := hb'; clear hb'
        refine WL.pin (i := 14) rfl hg_884 ?_
        refine WL.skip rfl rfl rfl ?_
        refine WL.skip rfl rfl rfl ?_
        refine WL.skip rfl rfl rfl ?_
        refine WL.quiet (d := 18) rfl rfl rfl (q_pickF rfl rfl) ?_
        exact WL.cutEnd () trivial (.cons rfl (.cons rfl (.cons rfl (.cons (some_bool (and_l hg_884)) .nil)))) (.cons .here .nil)
    · skip
      refine WL.nil ?_
      refine WX.then ?_
      refine WC.cond rfl (fun hb_885 => ?_) (fun hb_885 => ?_)
      · replace h := ite_t h hb_885
        refine WC.skip ?_
        refine WX.then ?_
        refine WC.seq ?_
        refine WC.block ?_
        refine WC.seq ?_
        obtain ⟨c_919, h⟩ := chk_elim h
        obtain ⟨x_924, hx_925, h⟩ := bind_elim h
        refine WC.region ?_
        refine WL.quiet (d := 22) rfl rfl rfl (q_move rfl) ?_
        refine WL.quiet (d := 23) rfl rfl rfl (q_move rfl) ?_
        refine WL.znth (dd := 24) rfl rfl (Z := Z) (Pr := (fun r x => r = e5 x)) elT_22 rfl rfl hs_10 c_919 ?_
        rintro A_927 r_928 hA_929 hl_930 rfl
        refine WL.quiet (d := 25) rfl rfl rfl (q_load1 oneT_5 rfl (rd_z hz.pv hA_929 rfl)) ?_
        refine WL.quiet (d := 26) rfl rfl rfl (q_conv Try.underlying5 Try.underlying3 rfl rfl) ?_
        refine WL.quiet (d := 27) rfl rfl rfl (q_rem rfl rfl (by decide) rfl) ?_
        refine WL.callD (dd := 28) rfl rfl rfl (run_call (l := [.tmp 27, .const (.int .i64 1)]) Try.call38 (.cons rfl (.cons rfl .nil))) (.nil : Sel [row (.slice ao_874 c_873.length cap_875) 42 4 (c_873.flatMap e42)] [] [row (.slice ao_874 c_873.length cap_875) 42 4 (c_873.flatMap e42)]) (fun w hw => by have pz := (hz.call hw (.nil : Sel [row (.slice ao_874 c_873.length cap_875) 42 4 (c_873.flatMap e42)] [] [row (.slice ao_874 c_873.length cap_875) 42 4 (c_873.flatMap e42)])); exact w_rat_Make (Z := _)  (n_22 := (Int.tmod (i64 (nth nums_7 i_876)) 101)) (d_23 := 1) (r := x_924) w pz  hx_925) ?_
        refine WL.quiet (d := 21) rfl rfl rfl (q_move rfl) ?_
        refine WL.quiet (d := 29) rfl rfl rfl (q_extract rfl rfl) ?_
        refine WL.quiet (d := 30) rfl rfl rfl (q_extract rfl rfl) ?_
        refine WL.new (dd := 5) rfl rfl rfl (e_alloc (cs := [(.int .i64 0), (.int .i64 0)]) zeroT_28 rfl) ?_
        intro b_931 _
        refine WL.eff0 rfl rfl (e_store (vs := [(.int .i64 x_924.1.fN), (.int .i64 x_924.1.fD)]) (ds := [(.int .i64 x_924.1.fN), (.int .i64 x_924.1.fD)]) sizT_28 rfl rfl rfl rfl (oc_cons rfl (oc_cons rfl oc_nil)) .here (Nat.le_of_ble_eq_true rfl) rfl) ?_
        refine WL.quiet (d := 6) rfl rfl rfl (q_assign rfl) ?_
        refine WL.nil ?_
        refine WX.then ?_
        refine WC.seq ?_
        obtain ⟨c_932, h⟩ := chk_elim h
        obtain ⟨x_937, hx_938, h⟩ := bind_elim h
        refine WC.region ?_
        refine WL.quiet (d := 32) rfl rfl rfl (q_move rfl) ?_
        refine WL.quiet (d := 33) rfl rfl rfl (q_move rfl) ?_
        refine WL.quiet (d := 34) rfl rfl rfl (q_add rfl rfl rfl) ?_
        refine WL.znth (dd := 35) rfl rfl (Z := Z) (Pr := (fun r x => r = e5 x)) elT_22 rfl rfl hs_10 c_932 ?_
        rintro A_940 r_941 hA_942 hl_943 rfl
        refine WL.quiet (d := 36) rfl rfl rfl (q_load1 oneT_5 rfl (rd_z hz.pv hA_942 rfl)) ?_
        refine WL.quiet (d := 37) rfl rfl rfl (q_conv Try.underlying5 Try.underlying3 rfl rfl) ?_
        refine WL.quiet (d := 38) rfl rfl rfl (q_rem rfl rfl (by decide) rfl) ?_
        refine WL.callD (dd := 39) rfl rfl rfl (run_call (l := [.tmp 38, .const (.int .i64 8)]) Try.call38 (.cons rfl (.cons rfl .nil))) (.nil : Sel [stb b_931 28 [(.int .i64 x_924.1.fN), (.int .i64 x_924.1.fD)], row (.slice ao_874 c_873.length cap_875) 42 4 (c_873.flatMap e42)] [] [stb b_931 28 [(.int .i64 x_924.1.fN), (.int .i64 x_924.1.fD)], row (.slice ao_874 c_873.length cap_875) 42 4 (c_873.flatMap e42)]) (fun w hw => by have pz := (hz.call hw (.nil : Sel [stb b_931 28 [(.int .i64 x_924.1.fN), (.int .i64 x_924.1.fD)], row (.slice ao_874 c_873.length cap_875) 42 4 (c_873.flatMap e42)] [] [stb b_931 28 [(.int .i64 x_924.1.fN), (.int .i64 x_924.1.fD)], row (.slice ao_874 c_873.length cap_875) 42 4 (c_873.flatMap e42)])); exact w_rat_Make (Z := _)  (n_22 := (Int.tmod (i64 (nth nums_7 (i64 (i_876 + 1)))) 41)) (d_23 := 8) (r := x_937) w pz  hx_938) ?_
        refine WL.quiet (d := 31) rfl rfl rfl (q_move rfl) ?_
        refine WL.quiet (d := 40) rfl rfl rfl (q_extract rfl rfl) ?_
        refine WL.quiet (d := 41) rfl rfl rfl (q_extract rfl rfl) ?_
        refine WL.new (dd := 7) rfl rfl rfl (e_alloc (cs := [(.int .i64 0), (.int .i64 0)]) zeroT_28 rfl) ?_
        intro b_944 _
        refine WL.eff0 rfl rfl (e_store (vs := [(.int .i64 x_937.1.fN), (.int .i64 x_937.1.fD)]) (ds := [(.int .i64 x_937.1.fN), (.int .i64 x_937.1.fD)]) sizT_28 rfl rfl rfl rfl (oc_cons rfl (oc_cons rfl oc_nil)) .here (Nat.le_of_ble_eq_true rfl) rfl) ?_
        refine WL.quiet (d := 8) rfl rfl rfl (q_assign rfl) ?_
        refine WL.nil ?_
        refine WX.then ?_
        obtain ⟨c_946, h⟩ := chk_elim h
        refine WC.region ?_
        refine WL.quiet (d := 42) rfl rfl rfl (q_move rfl) ?_
        refine WL.quiet (d := 43) rfl rfl rfl (q_loadA (cs := [(.int .i64 x_924.1.fN), (.int .i64 x_924.1.fD)]) aggT_28 rfl rfl (rd_all (.there .here))) ?_
        refine WL.quiet (d := 44) rfl rfl rfl (q_loadA (cs := [(.int .i64 x_937.1.fN), (.int .i64 x_937.1.fD)]) aggT_28 rfl rfl (rd_all .here)) ?_
        refine WL.quiet (d := 45) rfl rfl rfl (q_build (v := (.agg #[(.int .i64 x_924.1.fN), (.int .i64 x_924.1.fD), (.int .i64 x_937.1.fN), (.int .i64 x_937.1.fD)])) (Eos.parts (l := [.tmp 43, .tmp 44]) (.cons rfl (.cons rfl .nil)) [0, 1]) (fun _ => by kernel_rfl)) ?_
        refine WL.new (dd := 46) rfl rfl rfl (e_buildSlice (cs := ([(⟨x_924.1, x_937.1⟩ : Sapi_Bucket)] : List Sapi_Bucket).flatMap e42) elT_25 (Eos.parts (l := [.tmp 45]) (.cons rfl .nil) [0]) (fun _ => by kernel_rfl) rfl (by unfold maxLen; omega)) ?_
        intro b_949 _
        refine WL.eff (d := 47) rfl rfl rfl (e_appendF (enc := e42) (l1 := c_873) (l2 := ([(⟨x_924.1, x_937.1⟩ : Sapi_Bucket)] : List Sapi_Bucket)) elT_25 rfl rfl (.there (.there (.there .here))) (fun _ => rfl) rfl rfl (news_row .here) (oc_flat e42_oc _) c_946) ?_
        rintro ⟨ao_950, cap_951⟩ _
        refine WL.quiet (d := 3) rfl rfl rfl (q_assign rfl) ?_
        refine WL.nil ?_
        refine WX.blockNormal ?_
        refine WX.then ?_
        refine WC.region ?_
        refine WL.quiet (d := 19) rfl rfl rfl (q_move rfl) ?_
        refine WL.quiet (d := 20) rfl rfl rfl (q_add rfl rfl rfl) ?_
        refine WL.quiet (d := 4) rfl rfl rfl (q_assign rfl) ?_
        refine WL.nil ?_
        exact WX.round (G := Nat × List Sapi_Bucket × Int × Option Addr × Nat) ⟨n_879, (c_873 ++ ([(⟨x_924.1, x_937.1⟩ : Sapi_Bucket)] : List Sapi_Bucket)), (i64 (i_876 + 2)), ao_950, cap_951⟩ h (Nat.lt_succ_self _) (.cons rfl (.cons rfl (.cons rfl .nil))) (.cons .here .nil)
      · replace h := ite_f h hb_885
        refine WC.exit ?_
        refine WX.thenExit ?_
        refine WX.thenExit ?_
        refine WX.blockHit ?_
        exact WX.mid (G := List Sapi_Bucket × Option Addr × Nat) ⟨c_873, ao_874, cap_875⟩ h (.cons rfl .nil) (.cons .here .nil)
  · rintro c_790 ao_791 cap_792 h
    replace h := (hk_794 c_790).symm.trans h
    obtain ⟨k_963, hk_964, h⟩ := jp1_elim h
    refine WC.seqMid3 (fun (c_960 : List Sapi_Bucket) (ao_961 : Option Addr) (cap_962 : Nat) => (k_963 c_960 = some r)) (fun (c_960 : List Sapi_Bucket) (ao_961 : Option Addr) (cap_962 : Nat) => [(3, (.slice ao_961 c_960.length cap_962))]) (fun (c_960 : List Sapi_Bucket) (ao_961 : Option Addr) (cap_962 : Nat) => [row (.slice ao_961 c_960.length cap_962) 42 4 (c_960.flatMap e42)]) ?_ ?_
    · skip
      refine WC.seq ?_
      refine WC.region ?_
      refine WL.quiet (d := 48) rfl rfl rfl (q_move rfl) ?_
      refine WL.quiet (d := 49) rfl rfl rfl (q_len Try.underlying25 rfl) ?_
      refine WL.quiet (d := 50) rfl rfl rfl (q_eql rfl rfl) ?_
      refine WL.nil ?_
      refine WX.then ?_
      refine WC.cond rfl (fun hb_965 => ?_) (fun hb_965 => ?_)
      · replace h := ite_t h hb_965
        obtain ⟨x_966, hx_967, h⟩ := bind_elim h
        obtain ⟨x_968, hx_969, h⟩ := bind_elim h
        refine WC.region ?_
        refine WL.callD (dd := 51) rfl rfl rfl (run_call (l := [.const (.int .i64 7), .const (.int .i64 1)]) Try.call22 (.cons rfl (.cons rfl .nil))) (.nil : Sel [row (.slice ao_791 c_790.length cap_792) 42 4 (c_790.flatMap e42)] [] [row (.slice ao_791 c_790.length cap_792) 42 4 (c_790.flatMap e42)]) (fun w hw => by have pz := (hz.call hw (.nil : Sel [row (.slice ao_791 c_790.length cap_792) 42 4 (c_790.flatMap e42)] [] [row (.slice ao_791 c_790.length cap_792) 42 4 (c_790.flatMap e42)])); exact w_law02_num (Z := _)  (n_528 := 7) (d_529 := 1) (r := x_966) w pz  hx_967) ?_
        refine WL.callD (dd := 52) rfl rfl rfl (run_call (l := [.const (.int .i64 1), .const (.int .i64 8)]) Try.call22 (.cons rfl (.cons rfl .nil))) (.nil : Sel [row (.slice ao_791 c_790.length cap_792) 42 4 (c_790.flatMap e42)] [] [row (.slice ao_791 c_790.length cap_792) 42 4 (c_790.flatMap e42)]) (fun w hw => by have pz := (hz.call hw (.nil : Sel [row (.slice ao_791 c_790.length cap_792) 42 4 (c_790.flatMap e42)] [] [row (.slice ao_791 c_790.length cap_792) 42 4 (c_790.flatMap e42)])); exact w_law02_num (Z := _)  (n_528 := 1) (d_529 := 8) (r := x_968) w pz  hx_969) ?_
        refine WL.quiet (d := 53) rfl rfl rfl (q_build (v := (.agg #[(.int .i64 x_966.fN), (.int .i64 x_966.fD), (.int .i64 x_968.fN), (.int .i64 x_968.fD)])) (Eos.parts (l := [.tmp 51, .tmp 52]) (.cons rfl (.cons rfl .nil)) [0, 1]) (fun _ => by kernel_rfl)) ?_
        refine WL.new (dd := 54) rfl rfl rfl (e_buildSlice (cs := ([(⟨x_966, x_968⟩ : Sapi_Bucket)] : List Sapi_Bucket).flatMap e42) elT_25 (Eos.parts (l := [.tmp 53]) (.cons rfl .nil) [0]) (fun _ => by kernel_rfl) rfl (by unfold maxLen; omega)) ?_
        intro b_971 _
        refine WL.quiet (d := 3) rfl rfl rfl (q_assign rfl) ?_
        refine WL.nil ?_
        exact WX.mid (G := List Sapi_Bucket × Option Addr × Nat) ⟨([(⟨x_966, x_968⟩ : Sapi_Bucket)] : List Sapi_Bucket), (some ⟨b_971, 0, none⟩), 1⟩ h (.cons rfl .nil) (.cons .here .nil)
      · replace h := ite_f h hb_965
        refine WC.skip ?_
        exact WX.mid (G := List Sapi_Bucket × Option Addr × Nat) ⟨c_790, ao_791, cap_792⟩ h (.cons rfl .nil) (.cons .here .nil)
    · rintro c_960 ao_961 cap_962 h
      replace h := (hk_964 c_960).symm.trans h
      refine WC.seq ?_
      refine WC.region ?_
      refine WL.quiet (d := 55) rfl rfl rfl (q_move rfl) ?_
      refine WL.quiet (d := 2) rfl rfl rfl (q_assign rfl) ?_
      refine WL.nil ?_
      refine WX.then ?_
      refine WC.ret ?_
      obtain rfl := Option.some.inj h
      refine WX.bpRet Try.results10 (.tmp rfl .nil) (fun w hw => ?_)
      exact ⟨ao_961, cap_962, ret1 rfl, trivial, hw.sub (.cons .here .nil)⟩
/-- rat.Valid -/
def m_rat_Valid (x_1018 : Sapi_Rat) : Option Bool :=
  (if (((decide (x_1018.fD ≥ 1)) && (decide (x_1018.fD ≤ 1073741824))) && (decide (x_1018.fN ≥ (-1073741824)))) && (decide (x_1018.fN ≤ 1073741824)) then (m_rat_size x_1018.fN).bind fun x_1046 => (m_rat_size x_1018.fD).bind fun x_1048 => (m_rat_gcd_uint64 x_1046 x_1048).bind fun x_1050 => some (decide (x_1050 = 1)) else some false).bind fun b_1052 => some b_1052

set_option maxRecDepth 20000 in
theorem w_rat_Valid (Z : Zp)   (x_1018 : Sapi_Rat) (r : Bool) (w₀ : World) (hz : PZ [] w₀ Z)
    (h : m_rat_Valid x_1018 = some r) :
    Calls Try.prog 42 #[(.agg #[(.int .i64 x_1018.fN), (.int .i64 x_1018.fD)])] w₀ fun e w' => e = .returned (.bool r) ∧ Hp [] w₀ w' [] := by
  unfold m_rat_Valid at h
  refine Calls.ofWC (vs := [(.agg #[(.int .i64 x_1018.fN), (.int .i64 x_1018.fD)])]) (pre := []) (env := [(0, (.agg #[(.int .i64 x_1018.fN), (.int .i64 x_1018.fD)]))]) Try.func42 rfl Try.ntmps42 rfl (Hp.nil w₀ _) rfl ?_
  refine WC.seq ?_
  refine WC.region ?_
  refine WL.new (dd := 1) rfl rfl rfl (e_box (cs := [(.int .i64 x_1018.fN), (.int .i64 x_1018.fD)]) rfl rfl) ?_
  intro b_1045 _
  refine WL.quiet (d := 2) rfl rfl rfl (q_assign rfl) ?_
  refine WL.nil ?_
  refine WX.then ?_
  refine WC.seq ?_
  obtain ⟨b_1052, hb_1053, h⟩ := bind_elim h
  refine WC.draw (fun i => [].contains i) [] rfl ?_
  refine WD.pure (i := 0) (d := 3) (by kernel_rfl) rfl (readyF_of (by kernel_rfl)) (freeF_of (by kernel_rfl)) rfl rfl rfl (fun _ => q_fieldAddr fo_28_1 rfl rfl) ?_
  refine WD.quiet (i := 1) (d := 4) (by kernel_rfl) rfl (readyF_of (by kernel_rfl)) (freeF_of (by kernel_rfl)) rfl rfl rfl (q_load1 oneT_3 rfl (rd_stb .here rfl)) ?_
  refine WD.pure (i := 2) (d := 5) (by kernel_rfl) rfl (readyF_of (by kernel_rfl)) (freeF_of (by kernel_rfl)) rfl rfl rfl (fun _ => q_geq rfl rfl) ?_
  refine WD.pure (i := 3) (d := 6) (by kernel_rfl) rfl (readyF_of (by kernel_rfl)) (freeF_of (by kernel_rfl)) rfl rfl rfl (fun _ => q_move rfl) ?_
  refine WD.mid (fuel' := 21) [(1, (.pointer (some ⟨b_1045, 0, none⟩))), (2, (.bool false)), (6, (.bool (decide (x_1018.fD ≥ 1)))), (10, (.bool ((decide (x_1018.fD ≥ 1)) && (decide (x_1018.fD ≤ 1073741824)))))] (listedA 29 [7, 6, 5, 4, 3, 2, 1, 0]) ?_ (fun K_1054 => ?_)
  rotate_left
  · rcases Bool.eq_false_or_eq_true (decide (x_1018.fD ≥ 1)) with hb' | hb'
    · have hg_1055 := hb'; clear hb'
      refine WD.pin (i := 6) rfl hg_1055 ?_
      refine WD.pure (i := 4) (d := 7) (by kernel_rfl) rfl (readyF_of (by kernel_rfl)) (freeF_of (by kernel_rfl)) rfl rfl rfl (fun _ => q_fieldAddr fo_28_1 rfl rfl) ?_
      refine WD.quiet (i := 5) (d := 8) (by kernel_rfl) rfl (readyF_of (by kernel_rfl)) (freeF_of (by kernel_rfl)) rfl rfl rfl (q_load1 oneT_3 rfl (rd_stb .here rfl)) ?_
      refine WD.pure (i := 6) (d := 9) (by kernel_rfl) rfl (readyF_of (by kernel_rfl)) (freeF_of (by kernel_rfl)) rfl rfl rfl (fun _ => q_leq rfl rfl) ?_
      refine WD.pure (i := 7) (d := 10) (by kernel_rfl) rfl (readyF_of (by kernel_rfl)) (freeF_of (by kernel_rfl)) rfl rfl rfl (fun _ => q_pickT rfl rfl) ?_
      refine WD.reL (.cons .here .nil) ?_ K_1054
      exact (.cons rfl (.cons rfl (.cons (some_bool (Eq.symm hg_1055)) (.cons (some_bool (and_r hg_1055)) .nil))))
    · have hg_1056 := hb'; clear hb'
      refine WD.pin (i := 6) rfl hg_1056 ?_
      refine WD.skip (i := 4) (d := 7) (by kernel_rfl) rfl (readyF_of (by kernel_rfl)) (freeF_of (by kernel_rfl)) rfl rfl rfl ?_
      refine WD.skip (i := 5) (d := 8) (by kernel_rfl) rfl (readyF_of (by kernel_rfl)) (freeF_of (by kernel_rfl)) rfl rfl rfl ?_
      refine WD.skip (i := 6) (d := 9) (by kernel_rfl) rfl (readyF_of (by kernel_rfl)) (freeF_of (by kernel_rfl)) rfl rfl rfl ?_
      refine WD.pure (i := 7) (d := 10) (by kernel_rfl) rfl (readyF_of (by kernel_rfl)) (freeF_of (by kernel_rfl)) rfl rfl rfl (fun _ => q_pickF rfl rfl) ?_
      refine WD.reL (.cons .here .nil) ?_ K_1054
      exact (.cons rfl (.cons rfl (.cons (some_bool (Eq.symm hg_1056)) (.cons (some_bool (and_l hg_1056)) .nil))))
  refine WD.relist #[true, true, true, true, true, true, true, true, false, false, false, false, false, false, false, false, false, false, false, false, false, false, false, false, false, false, false, false, false] (by kernel_rfl) ?_
  refine WD.pure (i := 8) (d := 11) (by kernel_rfl) rfl (readyF_of (by kernel_rfl)) (freeF_of (by kernel_rfl)) rfl rfl rfl (fun _ => q_move rfl) ?_
  refine WD.mid (fuel' := 16) [(1, (.pointer (some ⟨b_1045, 0, none⟩))), (2, (.bool false)), (11, (.bool ((decide (x_1018.fD ≥ 1)) && (decide (x_1018.fD ≤ 1073741824))))), (15, (.bool (((decide (x_1018.fD ≥ 1)) && (decide (x_1018.fD ≤ 1073741824))) && (decide (x_1018.fN ≥ (-1073741824))))))] (listedA 29 [12, 11, 10, 9, 8, 7, 6, 5, 4, 3, 2, 1, 0]) ?_ (fun K_1057 => ?_)
  rotate_left
  · rcases Bool.eq_false_or_eq_true ((decide (x_1018.fD ≥ 1)) && (decide (x_1018.fD ≤ 1073741824))) with hb' | hb'
    · have hg_1058 := hb'; clear hb'
      refine WD.pin (i := 11) rfl hg_1058 ?_
      refine WD.pure (i := 9) (d := 12) (by kernel_rfl) rfl (readyF_of (by kernel_rfl)) (freeF_of (by kernel_rfl)) rfl rfl rfl (fun _ => q_fieldAddr fo_28_0 rfl rfl) ?_
      refine WD.quiet (i := 10) (d := 13) (by kernel_rfl) rfl (readyF_of (by kernel_rfl)) (freeF_of (by kernel_rfl)) rfl rfl rfl (q_load1 oneT_3 rfl (rd_stb .here rfl)) ?_
      refine WD.pure (i := 11) (d := 14) (by kernel_rfl) rfl (readyF_of (by kernel_rfl)) (freeF_of (by kernel_rfl)) rfl rfl rfl (fun _ => q_geq rfl rfl) ?_
      refine WD.pure (i := 12) (d := 15) (by kernel_rfl) rfl (readyF_of (by kernel_rfl)) (freeF_of (by kernel_rfl)) rfl rfl rfl (fun _ => q_pickT rfl rfl) ?_
      refine WD.reL (.cons .here .nil) ?_ K_1057
      exact (.cons rfl (.cons rfl (.cons (some_bool (Eq.symm hg_1058)) (.cons (some_bool (and_r hg_1058)) .nil))))
    · have hg_1059 := hb'; clear hb'
      refine WD.pin (i := 11) rfl hg_1059 ?_
      refine WD.skip (i := 9) (d := 12) (by kernel_rfl) rfl (readyF_of (by kernel_rfl)) (freeF_of (by kernel_rfl)) rfl rfl rfl ?_
      refine WD.skip (i := 10) (d := 13) (by kernel_rfl) rfl (readyF_of (by kernel_rfl)) (freeF_of (by kernel_rfl)) rfl rfl rfl ?_
      refine WD.skip (i := 11) (d := 14) (by kernel_rfl) rfl (readyF_of (by kernel_rfl)) (freeF_of (by kernel_rfl)) rfl rfl rfl ?_
      refine WD.pure (i := 12) (d := 15) (by kernel_rfl) rfl (readyF_of (by kernel_rfl)) (freeF_of (by kernel_rfl)) rfl rfl rfl (fun _ => q_pickF rfl rfl) ?_
      refine WD.reL (.cons .here .nil) ?_ K_1057
      exact (.cons rfl (.cons rfl (.cons (some_bool (Eq.symm hg_1059)) (.cons (some_bool (and_l hg_1059)) .nil))))
  refine WD.relist #[true, true, true, true, true, true, true, true, true, true, true, true, true, false, false, false, false, false, false, false, false, false, false, false, false, false, false, false, false] (by kernel_rfl) ?_
  refine WD.pure (i := 13) (d := 16) (by kernel_rfl) rfl (readyF_of (by kernel_rfl)) (freeF_of (by kernel_rfl)) rfl rfl rfl (fun _ => q_move rfl) ?_
  refine WD.mid (fuel' := 11) [(1, (.pointer (some ⟨b_1045, 0, none⟩))), (2, (.bool false)), (16, (.bool (((decide (x_1018.fD ≥ 1)) && (decide (x_1018.fD ≤ 1073741824))) && (decide (x_1018.fN ≥ (-1073741824)))))), (20, (.bool ((((decide (x_1018.fD ≥ 1)) && (decide (x_1018.fD ≤ 1073741824))) && (decide (x_1018.fN ≥ (-1073741824)))) && (decide (x_1018.fN ≤ 1073741824)))))] (listedA 29 [17, 16, 15, 14, 13, 12, 11, 10, 9, 8, 7, 6, 5, 4, 3, 2, 1, 0]) ?_ (fun K_1060 => ?_)
  rotate_left
  · rcases Bool.eq_false_or_eq_true (((decide (x_1018.fD ≥ 1)) && (decide (x_1018.fD ≤ 1073741824))) && (decide (x_1018.fN ≥ (-1073741824)))) with hb' | hb'
    · have hg_1061 := hb'; clear hb'
      refine WD.pin (i := 16) rfl hg_1061 ?_
      refine WD.pure (i := 14) (d := 17) (by kernel_rfl) rfl (readyF_of (by kernel_rfl)) (freeF_of (by kernel_rfl)) rfl rfl rfl (fun _ => q_fieldAddr fo_28_0 rfl rfl) ?_
      refine WD.quiet (i := 15) (d := 18) (by kernel_rfl) rfl (readyF_of (by kernel_rfl)) (freeF_of (by kernel_rfl)) rfl rfl rfl (q_load1 oneT_3 rfl (rd_stb .here rfl)) ?_
      refine WD.pure (i := 16) (d := 19) (by kernel_rfl) rfl (readyF_of (by kernel_rfl)) (freeF_of (by kernel_rfl)) rfl rfl rfl (fun _ => q_leq rfl rfl) ?_
      refine WD.pure (i := 17) (d := 20) (by kernel_rfl) rfl (readyF_of (by kernel_rfl)) (freeF_of (by kernel_rfl)) rfl rfl rfl (fun _ => q_pickT rfl rfl) ?_
      refine WD.reL (.cons .here .nil) ?_ K_1060
      exact (.cons rfl (.cons rfl (.cons (some_bool (Eq.symm hg_1061)) (.cons (some_bool (and_r hg_1061)) .nil))))
    · have hg_1062 := hb'; clear hb'
      refine WD.pin (i := 16) rfl hg_1062 ?_
      refine WD.skip (i := 14) (d := 17) (by kernel_rfl) rfl (readyF_of (by kernel_rfl)) (freeF_of (by kernel_rfl)) rfl rfl rfl ?_
      refine WD.skip (i := 15) (d := 18) (by kernel_rfl) rfl (readyF_of (by kernel_rfl)) (freeF_of (by kernel_rfl)) rfl rfl rfl ?_
      refine WD.skip (i := 16) (d := 19) (by kernel_rfl) rfl (readyF_of (by kernel_rfl)) (freeF_of (by kernel_rfl)) rfl rfl rfl ?_
      refine WD.pure (i := 17) (d := 20) (by kernel_rfl) rfl (readyF_of (by kernel_rfl)) (freeF_of (by kernel_rfl)) rfl rfl rfl (fun _ => q_pickF rfl rfl) ?_
      refine WD.reL (.cons .here .nil) ?_ K_1060
      exact (.cons rfl (.cons rfl (.cons (some_bool (Eq.symm hg_1062)) (.cons (some_bool (and_l hg_1062)) .nil))))
  refine WD.relist #[true, true, true, true, true, true, true, true, true, true, true, true, true, true, true, true, true, true, false, false, false, false, false, false, false, false, false, false, false] (by kernel_rfl) ?_
  refine WD.pure (i := 18) (d := 21) (by kernel_rfl) rfl (readyF_of (by kernel_rfl)) (freeF_of (by kernel_rfl)) rfl rfl rfl (fun _ => q_move rfl) ?_
  refine WD.mid (fuel' := 1) [(2, (.bool false)), (21, (.bool ((((decide (x_1018.fD ≥ 1)) && (decide (x_1018.fD ≤ 1073741824))) && (decide (x_1018.fN ≥ (-1073741824)))) && (decide (x_1018.fN ≤ 1073741824))))), (30, (.bool b_1052))] (listedA 29 [27, 26, 25, 24, 23, 22, 21, 20, 19, 18, 17, 16, 15, 14, 13, 12, 11, 10, 9, 8, 7, 6, 5, 4, 3, 2, 1, 0]) ?_ (fun K_1063 => ?_)
  rotate_left
  · rcases Bool.eq_false_or_eq_true ((((decide (x_1018.fD ≥ 1)) && (decide (x_1018.fD ≤ 1073741824))) && (decide (x_1018.fN ≥ (-1073741824)))) && (decide (x_1018.fN ≤ 1073741824))) with hb' | hb'
    · have hg_1064 := hb'; clear hb'
      have hq_1065 := ite_t hb_1053 hg_1064
      obtain ⟨x_1046, hx_1047, hq_1065⟩ := bind_elim hq_1065
      obtain ⟨x_1048, hx_1049, hq_1065⟩ := bind_elim hq_1065
      obtain ⟨x_1050, hx_1051, hq_1065⟩ := bind_elim hq_1065
      replace hq_1065 := Option.some.inj hq_1065
      refine WD.pin (i := 21) rfl hg_1064 ?_
      refine WD.pure (i := 19) (d := 22) (by kernel_rfl) rfl (readyF_of (by kernel_rfl)) (freeF_of (by kernel_rfl)) rfl rfl rfl (fun _ => q_fieldAddr fo_28_0 rfl rfl) ?_
      refine WD.quiet (i := 20) (d := 23) (by kernel_rfl) rfl (readyF_of (by kernel_rfl)) (freeF_of (by kernel_rfl)) rfl rfl rfl (q_load1 oneT_3 rfl (rd_stb .here rfl)) ?_
      refine WD.enter (i := 21) (d := 24) (by kernel_rfl) rfl (readyF_of (by kernel_rfl)) (freeF_of (by kernel_rfl)) rfl rfl rfl (run_call (l := [.tmp 23]) Try.call62 (.cons rfl .nil)) (fun w hw => by have pz := (hz.call hw (.nil : Sel [stb b_1045 28 [(.int .i64 x_1018.fN), (.int .i64 x_1018.fD)]] [] [stb b_1045 28 [(.int .i64 x_1018.fN), (.int .i64 x_1018.fD)]])); exact w_rat_size (Z := _)  (n_28 := x_1018.fN) (r := x_1046) w pz  hx_1047) ?_
      refine WD.pure (i := 22) (d := 25) (by kernel_rfl) rfl (readyF_of (by kernel_rfl)) (freeF_of (by kernel_rfl)) rfl rfl rfl (fun _ => q_fieldAddr fo_28_1 rfl rfl) ?_
      refine WD.quiet (i := 23) (d := 26) (by kernel_rfl) rfl (readyF_of (by kernel_rfl)) (freeF_of (by kernel_rfl)) rfl rfl rfl (q_load1 oneT_3 rfl (rd_stb .here rfl)) ?_
      refine WD.enter (i := 24) (d := 27) (by kernel_rfl) rfl (readyF_of (by kernel_rfl)) (freeF_of (by kernel_rfl)) rfl rfl rfl (run_call (l := [.tmp 26]) Try.call62 (.cons rfl .nil)) (fun w hw => by have pz := (hz.call hw (.nil : Sel [stb b_1045 28 [(.int .i64 x_1018.fN), (.int .i64 x_1018.fD)]] [] [stb b_1045 28 [(.int .i64 x_1018.fN), (.int .i64 x_1018.fD)]])); exact w_rat_size (Z := _)  (n_28 := x_1018.fD) (r := x_1048) w pz  hx_1049) ?_
      refine WD.enter (i := 25) (d := 28) (by kernel_rfl) rfl (readyF_of (by kernel_rfl)) (freeF_of (by kernel_rfl)) rfl rfl rfl (run_call (l := [.tmp 24, .tmp 27]) Try.call63 (.cons rfl (.cons rfl .nil))) (fun w hw => by have pz := (hz.call hw (.nil : Sel [stb b_1045 28 [(.int .i64 x_1018.fN), (.int .i64 x_1018.fD)]] [] [stb b_1045 28 [(.int .i64 x_1018.fN), (.int .i64 x_1018.fD)]])); exact w_rat_gcd_uint64 (Z := _)  (a_38 := x_1046) (b_39 := x_1048) (r := x_1050) w pz  hx_1051) ?_
      refine WD.pure (i := 26) (d := 29) (by kernel_rfl) rfl (readyF_of (by kernel_rfl)) (freeF_of (by kernel_rfl)) rfl rfl rfl (fun _ => q_eql rfl rfl) ?_
      refine WD.pure (i := 27) (d := 30) (by kernel_rfl) rfl (readyF_of (by kernel_rfl)) (freeF_of (by kernel_rfl)) rfl rfl rfl (fun _ => q_pickT rfl rfl) ?_
      refine WD.reL (.cons .here .nil) ?_ K_1063
      exact (.cons rfl (.cons (some_bool (Eq.symm hg_1064)) (.cons (some_bool hq_1065) .nil)))
    · have hg_1066 := hb'; clear hb'
      have hq_1067 := ite_f hb_1053 hg_1066
      replace hq_1067 := Option.some.inj hq_1067
      refine WD.pin (i := 21) rfl hg_1066 ?_
      refine WD.skip (i := 19) (d := 22) (by kernel_rfl) rfl (readyF_of (by kernel_rfl)) (freeF_of (by kernel_rfl)) rfl rfl rfl ?_
      refine WD.skip (i := 20) (d := 23) (by kernel_rfl) rfl (readyF_of (by kernel_rfl)) (freeF_of (by kernel_rfl)) rfl rfl rfl ?_
      refine WD.skip (i := 21) (d := 24) (by kernel_rfl) rfl (readyF_of (by kernel_rfl)) (freeF_of (by kernel_rfl)) rfl rfl rfl ?_
      refine WD.skip (i := 22) (d := 25) (by kernel_rfl) rfl (readyF_of (by kernel_rfl)) (freeF_of (by kernel_rfl)) rfl rfl rfl ?_
      refine WD.skip (i := 23) (d := 26) (by kernel_rfl) rfl (readyF_of (by kernel_rfl)) (freeF_of (by kernel_rfl)) rfl rfl rfl ?_
      refine WD.skip (i := 24) (d := 27) (by kernel_rfl) rfl (readyF_of (by kernel_rfl)) (freeF_of (by kernel_rfl)) rfl rfl rfl ?_
      refine WD.skip (i := 25) (d := 28) (by kernel_rfl) rfl (readyF_of (by kernel_rfl)) (freeF_of (by kernel_rfl)) rfl rfl rfl ?_
      refine WD.skip (i := 26) (d := 29) (by kernel_rfl) rfl (readyF_of (by kernel_rfl)) (freeF_of (by kernel_rfl)) rfl rfl rfl ?_
      refine WD.pure (i := 27) (d := 30) (by kernel_rfl) rfl (readyF_of (by kernel_rfl)) (freeF_of (by kernel_rfl)) rfl rfl rfl (fun _ => q_pickF rfl rfl) ?_
      refine WD.reL (.cons .here .nil) ?_ K_1063
      exact (.cons rfl (.cons (some_bool (Eq.symm hg_1066)) (.cons (some_bool hq_1067) .nil)))
  refine WD.relist #[true, true, true, true, true, true, true, true, true, true, true, true, true, true, true, true, true, true, true, true, true, true, true, true, true, true, true, true, false] (by kernel_rfl) ?_
  refine WD.pure (i := 28) (d := 2) (by kernel_rfl) rfl (readyF_of (by kernel_rfl)) (freeF_of (by kernel_rfl)) rfl rfl rfl (fun _ => q_assign rfl) ?_
  refine WD.done (by kernel_rfl) ?_
  refine WX.then ?_
  refine WC.ret ?_
  obtain rfl := Option.some.inj h
  refine WX.bpRet Try.results42 (.tmp rfl .nil) (fun w hw => ?_)
  exact ⟨ret1 rfl, hw.sub .nil⟩
/-- rat.do$1 -/
def m_rat_do_1 (c_1098 : Sapi_Rat) (c_1101 : Sapi_Rat) : Option (Int × Int) :=
  some ((i64 ((i64 (c_1098.fN * c_1101.fD)) + (i64 (c_1101.fN * c_1098.fD)))), (i64 (c_1098.fD * c_1101.fD)))

set_option maxRecDepth 20000 in
theorem w_rat_do_1 (Z : Zp)  (A_1096 : Addr) (A_1099 : Addr) (c_1098 : Sapi_Rat) (c_1101 : Sapi_Rat) (r : Int × Int) (w₀ : World) (hz : PZ [] w₀ Z)
    (hA_1097 : ZC Z A_1096 [(.int .i64 c_1098.fN), (.int .i64 c_1098.fD)])
    (hA_1100 : ZC Z A_1099 [(.int .i64 c_1101.fN), (.int .i64 c_1101.fD)])
    (h : m_rat_do_1 c_1098 c_1101 = some r) :
    Calls Try.prog 64 #[(.pointer (some A_1096)), (.pointer (some A_1099))] w₀ fun e w' => e = .returned (.tuple #[(.int .i64 r.1), (.int .i64 r.2)]) ∧ Hp [] w₀ w' [] := by
  unfold m_rat_do_1 at h
  refine Calls.ofWC (vs := [(.pointer (some A_1096)), (.pointer (some A_1099))]) (pre := []) (env := [(0, (.pointer (some A_1096))), (1, (.pointer (some A_1099)))]) Try.func64 rfl Try.ntmps64 rfl (Hp.nil w₀ _) rfl ?_
  refine WC.seq ?_
  refine WC.region ?_
  refine WL.quiet (d := 2) rfl rfl rfl (q_assign rfl) ?_
  refine WL.quiet (d := 3) rfl rfl rfl (q_assign rfl) ?_
  refine WL.nil ?_
  refine WX.then ?_
  refine WC.seq ?_
  refine WC.draw (fun i => [].contains i) [] rfl ?_
  refine WD.pure (i := 0) (d := 4) (by kernel_rfl) rfl (readyF_of (by kernel_rfl)) (freeF_of (by kernel_rfl)) rfl rfl rfl (fun _ => q_fieldAddr fo_28_0 rfl rfl) ?_
  refine WD.quiet (i := 1) (d := 5) (by kernel_rfl) rfl (readyF_of (by kernel_rfl)) (freeF_of (by kernel_rfl)) rfl rfl rfl (q_load1 oneT_3 rfl (rd_zAt hz.pv hA_1097 rfl)) ?_
  refine WD.pure (i := 2) (d := 6) (by kernel_rfl) rfl (readyF_of (by kernel_rfl)) (freeF_of (by kernel_rfl)) rfl rfl rfl (fun _ => q_fieldAddr fo_28_1 rfl rfl) ?_
  refine WD.quiet (i := 3) (d := 7) (by kernel_rfl) rfl (readyF_of (by kernel_rfl)) (freeF_of (by kernel_rfl)) rfl rfl rfl (q_load1 oneT_3 rfl (rd_zAt hz.pv hA_1100 rfl)) ?_
  refine WD.pure (i := 4) (d := 8) (by kernel_rfl) rfl (readyF_of (by kernel_rfl)) (freeF_of (by kernel_rfl)) rfl rfl rfl (fun _ => q_mul rfl rfl rfl) ?_
  refine WD.pure (i := 5) (d := 9) (by kernel_rfl) rfl (readyF_of (by kernel_rfl)) (freeF_of (by kernel_rfl)) rfl rfl rfl (fun _ => q_fieldAddr fo_28_0 rfl rfl) ?_
  refine WD.quiet (i := 6) (d := 10) (by kernel_rfl) rfl (readyF_of (by kernel_rfl)) (freeF_of (by kernel_rfl)) rfl rfl rfl (q_load1 oneT_3 rfl (rd_zAt hz.pv hA_1100 rfl)) ?_
  refine WD.pure (i := 7) (d := 11) (by kernel_rfl) rfl (readyF_of (by kernel_rfl)) (freeF_of (by kernel_rfl)) rfl rfl rfl (fun _ => q_fieldAddr fo_28_1 rfl rfl) ?_
  refine WD.quiet (i := 8) (d := 12) (by kernel_rfl) rfl (readyF_of (by kernel_rfl)) (freeF_of (by kernel_rfl)) rfl rfl rfl (q_load1 oneT_3 rfl (rd_zAt hz.pv hA_1097 rfl)) ?_
  refine WD.pure (i := 9) (d := 13) (by kernel_rfl) rfl (readyF_of (by kernel_rfl)) (freeF_of (by kernel_rfl)) rfl rfl rfl (fun _ => q_mul rfl rfl rfl) ?_
  refine WD.pure (i := 10) (d := 14) (by kernel_rfl) rfl (readyF_of (by kernel_rfl)) (freeF_of (by kernel_rfl)) rfl rfl rfl (fun _ => q_add rfl rfl rfl) ?_
  refine WD.pure (i := 11) (d := 15) (by kernel_rfl) rfl (readyF_of (by kernel_rfl)) (freeF_of (by kernel_rfl)) rfl rfl rfl (fun _ => q_fieldAddr fo_28_1 rfl rfl) ?_
  refine WD.quiet (i := 12) (d := 16) (by kernel_rfl) rfl (readyF_of (by kernel_rfl)) (freeF_of (by kernel_rfl)) rfl rfl rfl (q_load1 oneT_3 rfl (rd_zAt hz.pv hA_1097 rfl)) ?_
  refine WD.pure (i := 13) (d := 17) (by kernel_rfl) rfl (readyF_of (by kernel_rfl)) (freeF_of (by kernel_rfl)) rfl rfl rfl (fun _ => q_fieldAddr fo_28_1 rfl rfl) ?_
  refine WD.quiet (i := 14) (d := 18) (by kernel_rfl) rfl (readyF_of (by kernel_rfl)) (freeF_of (by kernel_rfl)) rfl rfl rfl (q_load1 oneT_3 rfl (rd_zAt hz.pv hA_1100 rfl)) ?_
  refine WD.pure (i := 15) (d := 19) (by kernel_rfl) rfl (readyF_of (by kernel_rfl)) (freeF_of (by kernel_rfl)) rfl rfl rfl (fun _ => q_mul rfl rfl rfl) ?_
  refine WD.pure (i := 16) (d := 2) (by kernel_rfl) rfl (readyF_of (by kernel_rfl)) (freeF_of (by kernel_rfl)) rfl rfl rfl (fun _ => q_assign rfl) ?_
  refine WD.pure (i := 17) (d := 3) (by kernel_rfl) rfl (readyF_of (by kernel_rfl)) (freeF_of (by kernel_rfl)) rfl rfl rfl (fun _ => q_assign rfl) ?_
  refine WD.done (by kernel_rfl) ?_
  refine WX.then ?_
  refine WC.ret ?_
  obtain rfl := Option.some.inj h
  refine WX.bpRet Try.results64 (.tmp rfl (.tmp rfl .nil)) (fun w hw => ?_)
  exact ⟨ret2 rfl rfl, hw.sub .nil⟩
/-- rat.do -/
def m_rat_do (x_1010 : Sapi_Rat) (y_1011 : Sapi_Rat) : Option (Sapi_Rat × Int) :=
  (m_rat_Valid x_1010).bind fun x_1129 => (if !x_1129 then some true else (m_rat_Valid y_1011).bind fun x_1131 => some (!x_1131)).bind fun b_1133 => if b_1133 then some ((⟨0, 0⟩ : Sapi_Rat), 2) else (m_rat_do_1 x_1010 y_1011).bind fun x_1144 => (m_rat_Make x_1144.1 x_1144.2).bind fun x_1146 => some (x_1146.1, x_1146.2)

set_option maxRecDepth 20000 in
theorem w_rat_do (Z : Zp)   (x_1010 : Sapi_Rat) (y_1011 : Sapi_Rat) (r : Sapi_Rat × Int) (w₀ : World) (hz : PZ [] w₀ Z)
    (h : m_rat_do x_1010 y_1011 = some r) :
    Calls Try.prog 39 #[(.string ⟨#[43]⟩), (.agg #[(.int .i64 x_1010.fN), (.int .i64 x_1010.fD)]), (.agg #[(.int .i64 y_1011.fN), (.int .i64 y_1011.fD)])] w₀ fun e w' => e = .returned (.tuple #[(.agg #[(.int .i64 r.1.fN), (.int .i64 r.1.fD)]), (.int .i64 r.2)]) ∧ Hp [] w₀ w' [] := by
  unfold m_rat_do at h
  refine Calls.ofWC (vs := [(.string ⟨#[43]⟩), (.agg #[(.int .i64 x_1010.fN), (.int .i64 x_1010.fD)]), (.agg #[(.int .i64 y_1011.fN), (.int .i64 y_1011.fD)])]) (pre := []) (env := [(0, (.string ⟨#[43]⟩)), (1, (.agg #[(.int .i64 x_1010.fN), (.int .i64 x_1010.fD)])), (2, (.agg #[(.int .i64 y_1011.fN), (.int .i64 y_1011.fD)]))]) Try.func39 rfl Try.ntmps39 rfl (Hp.nil w₀ _) rfl ?_
  refine WC.seq ?_
  refine WC.region ?_
  refine WL.new (dd := 4) rfl rfl rfl (e_box (cs := [(.int .i64 x_1010.fN), (.int .i64 x_1010.fD)]) rfl rfl) ?_
  intro b_1113 _
  refine WL.new (dd := 5) rfl rfl rfl (e_box (cs := [(.int .i64 y_1011.fN), (.int .i64 y_1011.fD)]) rfl rfl) ?_
  intro b_1114 _
  refine WL.new (dd := 6) rfl rfl rfl (e_alloc (cs := [(.int .i64 0), (.int .i64 0)]) zeroT_28 rfl) ?_
  intro b_1115 _
  refine WL.quiet (d := 7) rfl rfl rfl (q_assign rfl) ?_
  refine WL.nil ?_
  refine WX.then ?_
  refine WC.seq ?_
  refine WC.seq ?_
  obtain ⟨x_1129, hx_1130, h⟩ := bind_elim h
  obtain ⟨b_1133, hb_1134, h⟩ := bind_elim h
  refine WC.region ?_
  refine WL.quiet (d := 9) rfl rfl rfl (q_loadA (cs := [(.int .i64 x_1010.fN), (.int .i64 x_1010.fD)]) aggT_28 rfl rfl (rd_all (.there (.there .here)))) ?_
  refine WL.callD (dd := 10) rfl rfl rfl (run_call (l := [.tmp 9]) Try.call42 (.cons rfl .nil)) (.nil : Sel [stb b_1115 28 [(.int .i64 0), (.int .i64 0)], stb b_1114 28 [(.int .i64 y_1011.fN), (.int .i64 y_1011.fD)], stb b_1113 28 [(.int .i64 x_1010.fN), (.int .i64 x_1010.fD)]] [] [stb b_1115 28 [(.int .i64 0), (.int .i64 0)], stb b_1114 28 [(.int .i64 y_1011.fN), (.int .i64 y_1011.fD)], stb b_1113 28 [(.int .i64 x_1010.fN), (.int .i64 x_1010.fD)]]) (fun w hw => by have pz := (hz.call hw (.nil : Sel [stb b_1115 28 [(.int .i64 0), (.int .i64 0)], stb b_1114 28 [(.int .i64 y_1011.fN), (.int .i64 y_1011.fD)], stb b_1113 28 [(.int .i64 x_1010.fN), (.int .i64 x_1010.fD)]] [] [stb b_1115 28 [(.int .i64 0), (.int .i64 0)], stb b_1114 28 [(.int .i64 y_1011.fN), (.int .i64 y_1011.fD)], stb b_1113 28 [(.int .i64 x_1010.fN), (.int .i64 x_1010.fD)]])); exact w_rat_Valid (Z := _)  (x_1018 := x_1010) (r := x_1129) w pz  hx_1130) ?_
  refine WL.quiet (d := 11) rfl rfl rfl (q_not rfl) ?_
  refine WL.quiet (d := 12) rfl rfl rfl (q_move rfl) ?_
  refine WL.cut0 True [(0, (.string ⟨#[43]⟩)), (4, (.pointer (some ⟨b_1113, 0, none⟩))), (5, (.pointer (some ⟨b_1114, 0, none⟩))), (6, (.pointer (some ⟨b_1115, 0, none⟩))), (16, (.bool b_1133))] [stb b_1115 28 [(.int .i64 0), (.int .i64 0)], stb b_1114 28 [(.int .i64 y_1011.fN), (.int .i64 y_1011.fD)], stb b_1113 28 [(.int .i64 x_1010.fN), (.int .i64 x_1010.fD)]] 4 ?_ (fun _ => ?_)
  · rcases Bool.eq_false_or_eq_true (!x_1129) with hb' | hb'
    · have hg_1135 := hb'; clear hb'
      have hq_1136 := ite_t hb_1134 hg_1135
      replace hq_1136 := Option.some.inj hq_1136
      refine WL.pin (i := 12) rfl hg_1135 ?_
      refine WL.skip rfl rfl rfl ?_
      refine WL.skip rfl rfl rfl ?_
      refine WL.skip rfl rfl rfl ?_
      refine WL.quiet (d := 16) rfl rfl rfl (q_pickT rfl rfl) ?_
      exact WL.cutEnd () trivial (.cons rfl (.cons rfl (.cons rfl (.cons rfl (.cons (some_bool hq_1136) .nil))))) (.cons .here (.cons .here (.cons .here .nil)))
    · have hg_1137 := hb'; clear hb'
      have hq_1138 := ite_f hb_1134 hg_1137
      obtain ⟨x_1131, hx_1132, hq_1138⟩ := bind_elim hq_1138
      replace hq_1138 := Option.some.inj hq_1138
      refine WL.pin (i := 12) rfl hg_1137 ?_
      refine WL.quiet (d := 13) rfl rfl rfl (q_loadA (cs := [(.int .i64 y_1011.fN), (.int .i64 y_1011.fD)]) aggT_28 rfl rfl (rd_all (.there .here))) ?_
      refine WL.callD (dd := 14) rfl rfl rfl (run_call (l := [.tmp 13]) Try.call42 (.cons rfl .nil)) (.nil : Sel [stb b_1115 28 [(.int .i64 0), (.int .i64 0)], stb b_1114 28 [(.int .i64 y_1011.fN), (.int .i64 y_1011.fD)], stb b_1113 28 [(.int .i64 x_1010.fN), (.int .i64 x_1010.fD)]] [] [stb b_1115 28 [(.int .i64 0), (.int .i64 0)], stb b_1114 28 [(.int .i64 y_1011.fN), (.int .i64 y_1011.fD)], stb b_1113 28 [(.int .i64 x_1010.fN), (.int .i64 x_1010.fD)]]) (fun w hw => by have pz := (hz.call hw (.nil : Sel [stb b_1115 28 [(.int .i64 0), (.int .i64 0)], stb b_1114 28 [(.int .i64 y_1011.fN), (.int .i64 y_1011.fD)], stb b_1113 28 [(.int .i64 x_1010.fN), (.int .i64 x_1010.fD)]] [] [stb b_1115 28 [(.int .i64 0), (.int .i64 0)], stb b_1114 28 [(.int .i64 y_1011.fN), (.int .i64 y_1011.fD)], stb b_1113 28 [(.int .i64 x_1010.fN), (.int .i64 x_1010.fD)]])); exact w_rat_Valid (Z := _)  (x_1018 := y_1011) (r := x_1131) w pz  hx_1132) ?_
      refine WL.quiet (d := 15) rfl rfl rfl (q_not rfl) ?_
      refine WL.quiet (d := 16) rfl rfl rfl (q_pickF rfl rfl) ?_
      exact WL.cutEnd () trivial (.cons rfl (.cons rfl (.cons rfl (.cons rfl (.cons (some_bool hq_1138) .nil))))) (.cons .here (.cons .here (.cons .here .nil)))
  · skip
    refine WL.quiet (d := 17) rfl rfl rfl (q_move rfl) ?_
    refine WL.cut0 True [(0, (.string ⟨#[43]⟩)), (4, (.pointer (some ⟨b_1113, 0, none⟩))), (5, (.pointer (some ⟨b_1114, 0, none⟩))), (6, (.pointer (some ⟨b_1115, 0, none⟩))), (25, (.bool b_1133))] [stb b_1115 28 [(.int .i64 0), (.int .i64 0)], stb b_1114 28 [(.int .i64 y_1011.fN), (.int .i64 y_1011.fD)], stb b_1113 28 [(.int .i64 x_1010.fN), (.int .i64 x_1010.fD)]] 8 ?_ (fun _ => ?_)
    · rcases Bool.eq_false_or_eq_true b_1133 with hb' | hb'
      · have hg_1139 := hb'; clear hb'
        refine WL.pin (i := 17) rfl hg_1139 ?_
        refine WL.skip rfl rfl rfl ?_
        refine WL.skip rfl rfl rfl ?_
        refine WL.skip rfl rfl rfl ?_
        refine WL.skip rfl rfl rfl ?_
        refine WL.skip rfl rfl rfl ?_
        refine WL.skip rfl rfl rfl ?_
        refine WL.skip rfl rfl rfl ?_
        refine WL.quiet (d := 25) rfl rfl rfl (q_pickT rfl rfl) ?_
        exact WL.cutEnd () trivial (.cons rfl (.cons rfl (.cons rfl (.cons rfl (.cons (some_bool (Eq.symm hg_1139)) .nil))))) (.cons .here (.cons .here (.cons .here .nil)))
      · have hg_1140 := hb'; clear hb'
        refine WL.pin (i := 17) rfl hg_1140 ?_
        refine WL.quiet (d := 18) rfl rfl rfl (q_move rfl) ?_
        refine WL.quiet (d := 19) rfl rfl rfl (q_seqlC (r := false) (by decide) rfl rfl) ?_
        refine WL.quiet (d := 20) rfl rfl rfl (q_move rfl) ?_
        refine WL.skip rfl rfl rfl ?_
        refine WL.skip rfl rfl rfl ?_
        refine WL.skip rfl rfl rfl ?_
        refine WL.quiet (d := 24) rfl rfl rfl (q_pickF rfl rfl) ?_
        refine WL.quiet (d := 25) rfl rfl rfl (q_pickF rfl rfl) ?_
        exact WL.cutEnd () trivial (.cons rfl (.cons rfl (.cons rfl (.cons rfl (.cons (some_bool (Eq.symm hg_1140)) .nil))))) (.cons .here (.cons .here (.cons .here .nil)))
    · skip
      refine WL.nil ?_
      refine WX.then ?_
      refine WC.cond rfl (fun hb_1141 => ?_) (fun hb_1141 => ?_)
      · replace h := ite_t h hb_1141
        refine WC.seq ?_
        refine WC.region ?_
        refine WL.quiet (d := 26) rfl rfl rfl (q_build (v := (.agg #[(.int .i64 0), (.int .i64 0)])) (Eos.parts (l := []) .nil []) (fun _ => by kernel_rfl)) ?_
        refine WL.eff0 rfl rfl (e_store (vs := [(.int .i64 0), (.int .i64 0)]) (ds := [(.int .i64 0), (.int .i64 0)]) sizT_28 rfl rfl rfl rfl (oc_cons rfl (oc_cons rfl oc_nil)) .here (Nat.le_of_ble_eq_true rfl) rfl) ?_
        refine WL.quiet (d := 7) rfl rfl rfl (q_assign rfl) ?_
        refine WL.nil ?_
        refine WX.then ?_
        refine WC.ret ?_
        refine WX.thenRet ?_
        obtain rfl := Option.some.inj h
        refine WX.bpRet Try.results39 (.agg rfl aggT_28 rfl (rd_all .here) (.tmp rfl .nil)) (fun w hw => ?_)
        exact ⟨ret2 rfl rfl, hw.sub .nil⟩
      · replace h := ite_f h hb_1141
        refine WC.skip ?_
        refine WX.then ?_
        refine WC.seq ?_
        refine WC.region ?_
        refine WL.new (dd := 27) rfl rfl rfl (e_makeMap Value.string (fun x => x)) ?_
        intro b_1143 _
        refine WL.quiet (d := 28) rfl rfl rfl (q_makeFunc (Eos.caps (l := [.tmp 4, .tmp 5]) (.cons rfl (.cons rfl .nil)))) ?_
        refine WL.eff0 rfl rfl (e_insert (k := ⟨#[43]⟩) (v := (.func (.func 64) #[] #[(.pointer (some ⟨b_1113, 0, none⟩)), (.pointer (some ⟨b_1114, 0, none⟩))])) keyT_9 Try.underlying94 rfl rfl rfl rfl .here) ?_
        refine WL.quiet (d := 29) rfl rfl rfl (q_makeFunc (Eos.caps (l := [.tmp 4, .tmp 5]) (.cons rfl (.cons rfl .nil)))) ?_
        refine WL.eff0 rfl rfl (e_insert (k := ⟨#[45]⟩) (v := (.func (.func 65) #[] #[(.pointer (some ⟨b_1113, 0, none⟩)), (.pointer (some ⟨b_1114, 0, none⟩))])) keyT_9 Try.underlying94 rfl rfl rfl rfl .here) ?_
        refine WL.quiet (d := 30) rfl rfl rfl (q_makeFunc (Eos.caps (l := [.tmp 4, .tmp 5]) (.cons rfl (.cons rfl .nil)))) ?_
        refine WL.eff0 rfl rfl (e_insert (k := ⟨#[42]⟩) (v := (.func (.func 66) #[] #[(.pointer (some ⟨b_1113, 0, none⟩)), (.pointer (some ⟨b_1114, 0, none⟩))])) keyT_9 Try.underlying94 rfl rfl rfl rfl .here) ?_
        refine WL.quiet (d := 31) rfl rfl rfl (q_makeFunc (Eos.caps (l := [.tmp 4, .tmp 5]) (.cons rfl (.cons rfl .nil)))) ?_
        refine WL.eff0 rfl rfl (e_insert (k := ⟨#[47]⟩) (v := (.func (.func 67) #[] #[(.pointer (some ⟨b_1113, 0, none⟩)), (.pointer (some ⟨b_1114, 0, none⟩))])) keyT_9 Try.underlying94 rfl rfl rfl rfl .here) ?_
        refine WL.quiet (d := 32) rfl rfl rfl (q_move rfl) ?_
        refine WL.quiet (d := 8) rfl rfl rfl (q_assign rfl) ?_
        refine WL.nil ?_
        refine WX.then ?_
        refine WC.seq ?_
        obtain ⟨x_1144, hx_1145, h⟩ := bind_elim h
        obtain ⟨x_1146, hx_1147, h⟩ := bind_elim h
        refine WC.region ?_
        refine WL.quiet (d := 33) rfl rfl rfl (q_move rfl) ?_
        refine WL.quiet (d := 34) rfl rfl rfl (q_move rfl) ?_
        refine WL.quiet (d := 35) rfl rfl rfl (q_lookC (k := ⟨#[43]⟩) (dflt := .nilFunc) (r := (.func (.func 64) #[] #[(.pointer (some ⟨b_1113, 0, none⟩)), (.pointer (some ⟨b_1114, 0, none⟩))])) keyT_9 Try.underlying94 zeroT_93 rfl rfl rfl .here (by rfl)) ?_
        refine WL.callD (dd := 36) rfl rfl rfl (run_callv (l := []) Try.call64 rfl .nil) (.nil : Sel [mapA b_1143 Value.string (fun x => x) [(⟨#[43]⟩, (.func (.func 64) #[] #[(.pointer (some ⟨b_1113, 0, none⟩)), (.pointer (some ⟨b_1114, 0, none⟩))])), (⟨#[45]⟩, (.func (.func 65) #[] #[(.pointer (some ⟨b_1113, 0, none⟩)), (.pointer (some ⟨b_1114, 0, none⟩))])), (⟨#[42]⟩, (.func (.func 66) #[] #[(.pointer (some ⟨b_1113, 0, none⟩)), (.pointer (some ⟨b_1114, 0, none⟩))])), (⟨#[47]⟩, (.func (.func 67) #[] #[(.pointer (some ⟨b_1113, 0, none⟩)), (.pointer (some ⟨b_1114, 0, none⟩))]))], stb b_1115 28 [(.int .i64 0), (.int .i64 0)], stb b_1114 28 [(.int .i64 y_1011.fN), (.int .i64 y_1011.fD)], stb b_1113 28 [(.int .i64 x_1010.fN), (.int .i64 x_1010.fD)]] [] [mapA b_1143 Value.string (fun x => x) [(⟨#[43]⟩, (.func (.func 64) #[] #[(.pointer (some ⟨b_1113, 0, none⟩)), (.pointer (some ⟨b_1114, 0, none⟩))])), (⟨#[45]⟩, (.func (.func 65) #[] #[(.pointer (some ⟨b_1113, 0, none⟩)), (.pointer (some ⟨b_1114, 0, none⟩))])), (⟨#[42]⟩, (.func (.func 66) #[] #[(.pointer (some ⟨b_1113, 0, none⟩)), (.pointer (some ⟨b_1114, 0, none⟩))])), (⟨#[47]⟩, (.func (.func 67) #[] #[(.pointer (some ⟨b_1113, 0, none⟩)), (.pointer (some ⟨b_1114, 0, none⟩))]))], stb b_1115 28 [(.int .i64 0), (.int .i64 0)], stb b_1114 28 [(.int .i64 y_1011.fN), (.int .i64 y_1011.fD)], stb b_1113 28 [(.int .i64 x_1010.fN), (.int .i64 x_1010.fD)]]) (fun w hw => by have pz := (hz.call hw (.nil : Sel [mapA b_1143 Value.string (fun x => x) [(⟨#[43]⟩, (.func (.func 64) #[] #[(.pointer (some ⟨b_1113, 0, none⟩)), (.pointer (some ⟨b_1114, 0, none⟩))])), (⟨#[45]⟩, (.func (.func 65) #[] #[(.pointer (some ⟨b_1113, 0, none⟩)), (.pointer (some ⟨b_1114, 0, none⟩))])), (⟨#[42]⟩, (.func (.func 66) #[] #[(.pointer (some ⟨b_1113, 0, none⟩)), (.pointer (some ⟨b_1114, 0, none⟩))])), (⟨#[47]⟩, (.func (.func 67) #[] #[(.pointer (some ⟨b_1113, 0, none⟩)), (.pointer (some ⟨b_1114, 0, none⟩))]))], stb b_1115 28 [(.int .i64 0), (.int .i64 0)], stb b_1114 28 [(.int .i64 y_1011.fN), (.int .i64 y_1011.fD)], stb b_1113 28 [(.int .i64 x_1010.fN), (.int .i64 x_1010.fD)]] [] [mapA b_1143 Value.string (fun x => x) [(⟨#[43]⟩, (.func (.func 64) #[] #[(.pointer (some ⟨b_1113, 0, none⟩)), (.pointer (some ⟨b_1114, 0, none⟩))])), (⟨#[45]⟩, (.func (.func 65) #[] #[(.pointer (some ⟨b_1113, 0, none⟩)), (.pointer (some ⟨b_1114, 0, none⟩))])), (⟨#[42]⟩, (.func (.func 66) #[] #[(.pointer (some ⟨b_1113, 0, none⟩)), (.pointer (some ⟨b_1114, 0, none⟩))])), (⟨#[47]⟩, (.func (.func 67) #[] #[(.pointer (some ⟨b_1113, 0, none⟩)), (.pointer (some ⟨b_1114, 0, none⟩))]))], stb b_1115 28 [(.int .i64 0), (.int .i64 0)], stb b_1114 28 [(.int .i64 y_1011.fN), (.int .i64 y_1011.fD)], stb b_1113 28 [(.int .i64 x_1010.fN), (.int .i64 x_1010.fD)]])).lend hw (.nil : Sel [mapA b_1143 Value.string (fun x => x) [(⟨#[43]⟩, (.func (.func 64) #[] #[(.pointer (some ⟨b_1113, 0, none⟩)), (.pointer (some ⟨b_1114, 0, none⟩))])), (⟨#[45]⟩, (.func (.func 65) #[] #[(.pointer (some ⟨b_1113, 0, none⟩)), (.pointer (some ⟨b_1114, 0, none⟩))])), (⟨#[42]⟩, (.func (.func 66) #[] #[(.pointer (some ⟨b_1113, 0, none⟩)), (.pointer (some ⟨b_1114, 0, none⟩))])), (⟨#[47]⟩, (.func (.func 67) #[] #[(.pointer (some ⟨b_1113, 0, none⟩)), (.pointer (some ⟨b_1114, 0, none⟩))]))], stb b_1115 28 [(.int .i64 0), (.int .i64 0)], stb b_1114 28 [(.int .i64 y_1011.fN), (.int .i64 y_1011.fD)], stb b_1113 28 [(.int .i64 x_1010.fN), (.int .i64 x_1010.fD)]] [] [mapA b_1143 Value.string (fun x => x) [(⟨#[43]⟩, (.func (.func 64) #[] #[(.pointer (some ⟨b_1113, 0, none⟩)), (.pointer (some ⟨b_1114, 0, none⟩))])), (⟨#[45]⟩, (.func (.func 65) #[] #[(.pointer (some ⟨b_1113, 0, none⟩)), (.pointer (some ⟨b_1114, 0, none⟩))])), (⟨#[42]⟩, (.func (.func 66) #[] #[(.pointer (some ⟨b_1113, 0, none⟩)), (.pointer (some ⟨b_1114, 0, none⟩))])), (⟨#[47]⟩, (.func (.func 67) #[] #[(.pointer (some ⟨b_1113, 0, none⟩)), (.pointer (some ⟨b_1114, 0, none⟩))]))], stb b_1115 28 [(.int .i64 0), (.int .i64 0)], stb b_1114 28 [(.int .i64 y_1011.fN), (.int .i64 y_1011.fD)], stb b_1113 28 [(.int .i64 x_1010.fN), (.int .i64 x_1010.fD)]]) (B := [stb b_1113 28 [(.int .i64 x_1010.fN), (.int .i64 x_1010.fD)], stb b_1114 28 [(.int .i64 y_1011.fN), (.int .i64 y_1011.fD)]]) (fun _ hx' => ((.cons (.there (.there (.there .here))) (.cons (.there (.there .here)) .nil)) : Sel _ [stb b_1113 28 [(.int .i64 x_1010.fN), (.int .i64 x_1010.fD)], stb b_1114 28 [(.int .i64 y_1011.fN), (.int .i64 y_1011.fD)]] _).mem hx'); exact w_rat_do_1 (Z := _) (A_1096 := ⟨b_1113, 0, none⟩) (A_1099 := ⟨b_1114, 0, none⟩) (c_1098 := x_1010) (c_1101 := y_1011) (r := x_1144) w pz ((hw.lent (.nil : Sel [mapA b_1143 Value.string (fun x => x) [(⟨#[43]⟩, (.func (.func 64) #[] #[(.pointer (some ⟨b_1113, 0, none⟩)), (.pointer (some ⟨b_1114, 0, none⟩))])), (⟨#[45]⟩, (.func (.func 65) #[] #[(.pointer (some ⟨b_1113, 0, none⟩)), (.pointer (some ⟨b_1114, 0, none⟩))])), (⟨#[42]⟩, (.func (.func 66) #[] #[(.pointer (some ⟨b_1113, 0, none⟩)), (.pointer (some ⟨b_1114, 0, none⟩))])), (⟨#[47]⟩, (.func (.func 67) #[] #[(.pointer (some ⟨b_1113, 0, none⟩)), (.pointer (some ⟨b_1114, 0, none⟩))]))], stb b_1115 28 [(.int .i64 0), (.int .i64 0)], stb b_1114 28 [(.int .i64 y_1011.fN), (.int .i64 y_1011.fD)], stb b_1113 28 [(.int .i64 x_1010.fN), (.int .i64 x_1010.fD)]] [] [mapA b_1143 Value.string (fun x => x) [(⟨#[43]⟩, (.func (.func 64) #[] #[(.pointer (some ⟨b_1113, 0, none⟩)), (.pointer (some ⟨b_1114, 0, none⟩))])), (⟨#[45]⟩, (.func (.func 65) #[] #[(.pointer (some ⟨b_1113, 0, none⟩)), (.pointer (some ⟨b_1114, 0, none⟩))])), (⟨#[42]⟩, (.func (.func 66) #[] #[(.pointer (some ⟨b_1113, 0, none⟩)), (.pointer (some ⟨b_1114, 0, none⟩))])), (⟨#[47]⟩, (.func (.func 67) #[] #[(.pointer (some ⟨b_1113, 0, none⟩)), (.pointer (some ⟨b_1114, 0, none⟩))]))], stb b_1115 28 [(.int .i64 0), (.int .i64 0)], stb b_1114 28 [(.int .i64 y_1011.fN), (.int .i64 y_1011.fD)], stb b_1113 28 [(.int .i64 x_1010.fN), (.int .i64 x_1010.fD)]]) (B := [stb b_1113 28 [(.int .i64 x_1010.fN), (.int .i64 x_1010.fD)], stb b_1114 28 [(.int .i64 y_1011.fN), (.int .i64 y_1011.fD)]]) (fun _ hx' => ((.cons (.there (.there (.there .here))) (.cons (.there (.there .here)) .nil)) : Sel _ [stb b_1113 28 [(.int .i64 x_1010.fN), (.int .i64 x_1010.fD)], stb b_1114 28 [(.int .i64 y_1011.fN), (.int .i64 y_1011.fD)]] _).mem hx') (.head _) _).stb) ((hw.lent (.nil : Sel [mapA b_1143 Value.string (fun x => x) [(⟨#[43]⟩, (.func (.func 64) #[] #[(.pointer (some ⟨b_1113, 0, none⟩)), (.pointer (some ⟨b_1114, 0, none⟩))])), (⟨#[45]⟩, (.func (.func 65) #[] #[(.pointer (some ⟨b_1113, 0, none⟩)), (.pointer (some ⟨b_1114, 0, none⟩))])), (⟨#[42]⟩, (.func (.func 66) #[] #[(.pointer (some ⟨b_1113, 0, none⟩)), (.pointer (some ⟨b_1114, 0, none⟩))])), (⟨#[47]⟩, (.func (.func 67) #[] #[(.pointer (some ⟨b_1113, 0, none⟩)), (.pointer (some ⟨b_1114, 0, none⟩))]))], stb b_1115 28 [(.int .i64 0), (.int .i64 0)], stb b_1114 28 [(.int .i64 y_1011.fN), (.int .i64 y_1011.fD)], stb b_1113 28 [(.int .i64 x_1010.fN), (.int .i64 x_1010.fD)]] [] [mapA b_1143 Value.string (fun x => x) [(⟨#[43]⟩, (.func (.func 64) #[] #[(.pointer (some ⟨b_1113, 0, none⟩)), (.pointer (some ⟨b_1114, 0, none⟩))])), (⟨#[45]⟩, (.func (.func 65) #[] #[(.pointer (some ⟨b_1113, 0, none⟩)), (.pointer (some ⟨b_1114, 0, none⟩))])), (⟨#[42]⟩, (.func (.func 66) #[] #[(.pointer (some ⟨b_1113, 0, none⟩)), (.pointer (some ⟨b_1114, 0, none⟩))])), (⟨#[47]⟩, (.func (.func 67) #[] #[(.pointer (some ⟨b_1113, 0, none⟩)), (.pointer (some ⟨b_1114, 0, none⟩))]))], stb b_1115 28 [(.int .i64 0), (.int .i64 0)], stb b_1114 28 [(.int .i64 y_1011.fN), (.int .i64 y_1011.fD)], stb b_1113 28 [(.int .i64 x_1010.fN), (.int .i64 x_1010.fD)]]) (B := [stb b_1113 28 [(.int .i64 x_1010.fN), (.int .i64 x_1010.fD)], stb b_1114 28 [(.int .i64 y_1011.fN), (.int .i64 y_1011.fD)]]) (fun _ hx' => ((.cons (.there (.there (.there .here))) (.cons (.there (.there .here)) .nil)) : Sel _ [stb b_1113 28 [(.int .i64 x_1010.fN), (.int .i64 x_1010.fD)], stb b_1114 28 [(.int .i64 y_1011.fN), (.int .i64 y_1011.fD)]] _).mem hx') (.tail _ (.head _)) _).stb) hx_1145) ?_
        refine WL.quiet (d := 37) rfl rfl rfl (q_extract rfl rfl) ?_
        refine WL.quiet (d := 38) rfl rfl rfl (q_extract rfl rfl) ?_
        refine WL.callD (dd := 39) rfl rfl rfl (run_call (l := [.tmp 37, .tmp 38]) Try.call38 (.cons rfl (.cons rfl .nil))) (.nil : Sel [mapA b_1143 Value.string (fun x => x) [(⟨#[43]⟩, (.func (.func 64) #[] #[(.pointer (some ⟨b_1113, 0, none⟩)), (.pointer (some ⟨b_1114, 0, none⟩))])), (⟨#[45]⟩, (.func (.func 65) #[] #[(.pointer (some ⟨b_1113, 0, none⟩)), (.pointer (some ⟨b_1114, 0, none⟩))])), (⟨#[42]⟩, (.func (.func 66) #[] #[(.pointer (some ⟨b_1113, 0, none⟩)), (.pointer (some ⟨b_1114, 0, none⟩))])), (⟨#[47]⟩, (.func (.func 67) #[] #[(.pointer (some ⟨b_1113, 0, none⟩)), (.pointer (some ⟨b_1114, 0, none⟩))]))], stb b_1115 28 [(.int .i64 0), (.int .i64 0)], stb b_1114 28 [(.int .i64 y_1011.fN), (.int .i64 y_1011.fD)], stb b_1113 28 [(.int .i64 x_1010.fN), (.int .i64 x_1010.fD)]] [] [mapA b_1143 Value.string (fun x => x) [(⟨#[43]⟩, (.func (.func 64) #[] #[(.pointer (some ⟨b_1113, 0, none⟩)), (.pointer (some ⟨b_1114, 0, none⟩))])), (⟨#[45]⟩, (.func (.func 65) #[] #[(.pointer (some ⟨b_1113, 0, none⟩)), (.pointer (some ⟨b_1114, 0, none⟩))])), (⟨#[42]⟩, (.func (.func 66) #[] #[(.pointer (some ⟨b_1113, 0, none⟩)), (.pointer (some ⟨b_1114, 0, none⟩))])), (⟨#[47]⟩, (.func (.func 67) #[] #[(.pointer (some ⟨b_1113, 0, none⟩)), (.pointer (some ⟨b_1114, 0, none⟩))]))], stb b_1115 28 [(.int .i64 0), (.int .i64 0)], stb b_1114 28 [(.int .i64 y_1011.fN), (.int .i64 y_1011.fD)], stb b_1113 28 [(.int .i64 x_1010.fN), (.int .i64 x_1010.fD)]]) (fun w hw => by have pz := (hz.call hw (.nil : Sel [mapA b_1143 Value.string (fun x => x) [(⟨#[43]⟩, (.func (.func 64) #[] #[(.pointer (some ⟨b_1113, 0, none⟩)), (.pointer (some ⟨b_1114, 0, none⟩))])), (⟨#[45]⟩, (.func (.func 65) #[] #[(.pointer (some ⟨b_1113, 0, none⟩)), (.pointer (some ⟨b_1114, 0, none⟩))])), (⟨#[42]⟩, (.func (.func 66) #[] #[(.pointer (some ⟨b_1113, 0, none⟩)), (.pointer (some ⟨b_1114, 0, none⟩))])), (⟨#[47]⟩, (.func (.func 67) #[] #[(.pointer (some ⟨b_1113, 0, none⟩)), (.pointer (some ⟨b_1114, 0, none⟩))]))], stb b_1115 28 [(.int .i64 0), (.int .i64 0)], stb b_1114 28 [(.int .i64 y_1011.fN), (.int .i64 y_1011.fD)], stb b_1113 28 [(.int .i64 x_1010.fN), (.int .i64 x_1010.fD)]] [] [mapA b_1143 Value.string (fun x => x) [(⟨#[43]⟩, (.func (.func 64) #[] #[(.pointer (some ⟨b_1113, 0, none⟩)), (.pointer (some ⟨b_1114, 0, none⟩))])), (⟨#[45]⟩, (.func (.func 65) #[] #[(.pointer (some ⟨b_1113, 0, none⟩)), (.pointer (some ⟨b_1114, 0, none⟩))])), (⟨#[42]⟩, (.func (.func 66) #[] #[(.pointer (some ⟨b_1113, 0, none⟩)), (.pointer (some ⟨b_1114, 0, none⟩))])), (⟨#[47]⟩, (.func (.func 67) #[] #[(.pointer (some ⟨b_1113, 0, none⟩)), (.pointer (some ⟨b_1114, 0, none⟩))]))], stb b_1115 28 [(.int .i64 0), (.int .i64 0)], stb b_1114 28 [(.int .i64 y_1011.fN), (.int .i64 y_1011.fD)], stb b_1113 28 [(.int .i64 x_1010.fN), (.int .i64 x_1010.fD)]])); exact w_rat_Make (Z := _)  (n_22 := x_1144.1) (d_23 := x_1144.2) (r := x_1146) w pz  hx_1147) ?_
        refine WL.quiet (d := 40) rfl rfl rfl (q_extract rfl rfl) ?_
        refine WL.quiet (d := 41) rfl rfl rfl (q_extract rfl rfl) ?_
        refine WL.eff0 rfl rfl (e_store (vs := [(.int .i64 x_1146.1.fN), (.int .i64 x_1146.1.fD)]) (ds := [(.int .i64 x_1146.1.fN), (.int .i64 x_1146.1.fD)]) sizT_28 rfl rfl rfl rfl (oc_cons rfl (oc_cons rfl oc_nil)) (.there .here) (Nat.le_of_ble_eq_true rfl) rfl) ?_
        refine WL.quiet (d := 7) rfl rfl rfl (q_assign rfl) ?_
        refine WL.nil ?_
        refine WX.then ?_
        refine WC.ret ?_
        obtain rfl := Option.some.inj h
        refine WX.bpRet Try.results39 (.agg rfl aggT_28 rfl (rd_all .here) (.tmp rfl .nil)) (fun w hw => ?_)
        exact ⟨ret2 rfl rfl, hw.sub .nil⟩
/-- rat.Add -/
def m_rat_Add (x_1002 : Sapi_Rat) (y_1003 : Sapi_Rat) : Option (Sapi_Rat × Int) :=
  (m_rat_do x_1002 y_1003).bind fun x_1158 => some (x_1158.1, x_1158.2)

set_option maxRecDepth 20000 in
theorem w_rat_Add (Z : Zp)   (x_1002 : Sapi_Rat) (y_1003 : Sapi_Rat) (r : Sapi_Rat × Int) (w₀ : World) (hz : PZ [] w₀ Z)
    (h : m_rat_Add x_1002 y_1003 = some r) :
    Calls Try.prog 12 #[(.agg #[(.int .i64 x_1002.fN), (.int .i64 x_1002.fD)]), (.agg #[(.int .i64 y_1003.fN), (.int .i64 y_1003.fD)])] w₀ fun e w' => e = .returned (.tuple #[(.agg #[(.int .i64 r.1.fN), (.int .i64 r.1.fD)]), (.int .i64 r.2)]) ∧ Hp [] w₀ w' [] := by
  unfold m_rat_Add at h
  refine Calls.ofWC (vs := [(.agg #[(.int .i64 x_1002.fN), (.int .i64 x_1002.fD)]), (.agg #[(.int .i64 y_1003.fN), (.int .i64 y_1003.fD)])]) (pre := []) (env := [(0, (.agg #[(.int .i64 x_1002.fN), (.int .i64 x_1002.fD)])), (1, (.agg #[(.int .i64 y_1003.fN), (.int .i64 y_1003.fD)]))]) Try.func12 rfl Try.ntmps12 rfl (Hp.nil w₀ _) rfl ?_
  refine WC.seq ?_
  refine WC.region ?_
  refine WL.new (dd := 2) rfl rfl rfl (e_box (cs := [(.int .i64 x_1002.fN), (.int .i64 x_1002.fD)]) rfl rfl) ?_
  intro b_1155 _
  refine WL.new (dd := 3) rfl rfl rfl (e_box (cs := [(.int .i64 y_1003.fN), (.int .i64 y_1003.fD)]) rfl rfl) ?_
  intro b_1156 _
  refine WL.new (dd := 4) rfl rfl rfl (e_alloc (cs := [(.int .i64 0), (.int .i64 0)]) zeroT_28 rfl) ?_
  intro b_1157 _
  refine WL.quiet (d := 5) rfl rfl rfl (q_assign rfl) ?_
  refine WL.nil ?_
  refine WX.then ?_
  refine WC.seq ?_
  obtain ⟨x_1158, hx_1159, h⟩ := bind_elim h
  refine WC.region ?_
  refine WL.quiet (d := 6) rfl rfl rfl (q_loadA (cs := [(.int .i64 x_1002.fN), (.int .i64 x_1002.fD)]) aggT_28 rfl rfl (rd_all (.there (.there .here)))) ?_
  refine WL.quiet (d := 7) rfl rfl rfl (q_loadA (cs := [(.int .i64 y_1003.fN), (.int .i64 y_1003.fD)]) aggT_28 rfl rfl (rd_all (.there .here))) ?_
  refine WL.callD (dd := 8) rfl rfl rfl (run_call (l := [.const (.string ⟨#[43]⟩), .tmp 6, .tmp 7]) Try.call39 (.cons rfl (.cons rfl (.cons rfl .nil)))) (.nil : Sel [stb b_1157 28 [(.int .i64 0), (.int .i64 0)], stb b_1156 28 [(.int .i64 y_1003.fN), (.int .i64 y_1003.fD)], stb b_1155 28 [(.int .i64 x_1002.fN), (.int .i64 x_1002.fD)]] [] [stb b_1157 28 [(.int .i64 0), (.int .i64 0)], stb b_1156 28 [(.int .i64 y_1003.fN), (.int .i64 y_1003.fD)], stb b_1155 28 [(.int .i64 x_1002.fN), (.int .i64 x_1002.fD)]]) (fun w hw => by have pz := (hz.call hw (.nil : Sel [stb b_1157 28 [(.int .i64 0), (.int .i64 0)], stb b_1156 28 [(.int .i64 y_1003.fN), (.int .i64 y_1003.fD)], stb b_1155 28 [(.int .i64 x_1002.fN), (.int .i64 x_1002.fD)]] [] [stb b_1157 28 [(.int .i64 0), (.int .i64 0)], stb b_1156 28 [(.int .i64 y_1003.fN), (.int .i64 y_1003.fD)], stb b_1155 28 [(.int .i64 x_1002.fN), (.int .i64 x_1002.fD)]])); exact w_rat_do (Z := _)  (x_1010 := x_1002) (y_1011 := y_1003) (r := x_1158) w pz  hx_1159) ?_
  refine WL.quiet (d := 9) rfl rfl rfl (q_extract rfl rfl) ?_
  refine WL.quiet (d := 10) rfl rfl rfl (q_extract rfl rfl) ?_
  refine WL.eff0 rfl rfl (e_store (vs := [(.int .i64 x_1158.1.fN), (.int .i64 x_1158.1.fD)]) (ds := [(.int .i64 x_1158.1.fN), (.int .i64 x_1158.1.fD)]) sizT_28 rfl rfl rfl rfl (oc_cons rfl (oc_cons rfl oc_nil)) .here (Nat.le_of_ble_eq_true rfl) rfl) ?_
  refine WL.quiet (d := 5) rfl rfl rfl (q_assign rfl) ?_
  refine WL.nil ?_
  refine WX.then ?_
  refine WC.ret ?_
  obtain rfl := Option.some.inj h
  refine WX.bpRet Try.results12 (.agg rfl aggT_28 rfl (rd_all .here) (.tmp rfl .nil)) (fun w hw => ?_)
  exact ⟨ret2 rfl rfl, hw.sub .nil⟩
/-- curve.good -/
def m_curve_good (x_1193 : Sapi_Rat) : Option Bool :=
  (m_rat_Valid x_1193).bind fun x_1203 => some (x_1203 && (decide (x_1193.fN ≥ 0)))

set_option maxRecDepth 20000 in
theorem w_curve_good (Z : Zp)   (x_1193 : Sapi_Rat) (r : Bool) (w₀ : World) (hz : PZ [] w₀ Z)
    (h : m_curve_good x_1193 = some r) :
    Calls Try.prog 50 #[(.agg #[(.int .i64 x_1193.fN), (.int .i64 x_1193.fD)])] w₀ fun e w' => e = .returned (.bool r) ∧ Hp [] w₀ w' [] := by
  unfold m_curve_good at h
  refine Calls.ofWC (vs := [(.agg #[(.int .i64 x_1193.fN), (.int .i64 x_1193.fD)])]) (pre := []) (env := [(0, (.agg #[(.int .i64 x_1193.fN), (.int .i64 x_1193.fD)]))]) Try.func50 rfl Try.ntmps50 rfl (Hp.nil w₀ _) rfl ?_
  refine WC.seq ?_
  refine WC.region ?_
  refine WL.new (dd := 1) rfl rfl rfl (e_box (cs := [(.int .i64 x_1193.fN), (.int .i64 x_1193.fD)]) rfl rfl) ?_
  intro b_1202 _
  refine WL.quiet (d := 2) rfl rfl rfl (q_assign rfl) ?_
  refine WL.nil ?_
  refine WX.then ?_
  refine WC.seq ?_
  obtain ⟨x_1203, hx_1204, h⟩ := bind_elim h
  refine WC.region ?_
  refine WL.quiet (d := 3) rfl rfl rfl (q_loadA (cs := [(.int .i64 x_1193.fN), (.int .i64 x_1193.fD)]) aggT_28 rfl rfl (rd_all .here)) ?_
  refine WL.callD (dd := 4) rfl rfl rfl (run_call (l := [.tmp 3]) Try.call42 (.cons rfl .nil)) (.nil : Sel [stb b_1202 28 [(.int .i64 x_1193.fN), (.int .i64 x_1193.fD)]] [] [stb b_1202 28 [(.int .i64 x_1193.fN), (.int .i64 x_1193.fD)]]) (fun w hw => by have pz := (hz.call hw (.nil : Sel [stb b_1202 28 [(.int .i64 x_1193.fN), (.int .i64 x_1193.fD)]] [] [stb b_1202 28 [(.int .i64 x_1193.fN), (.int .i64 x_1193.fD)]])); exact w_rat_Valid (Z := _)  (x_1018 := x_1193) (r := x_1203) w pz  hx_1204) ?_
  refine WL.quiet (d := 5) rfl rfl rfl (q_move rfl) ?_
  refine WL.cut0 True [(2, (.bool false)), (9, (.bool (x_1203 && (decide (x_1193.fN ≥ 0)))))] [stb b_1202 28 [(.int .i64 x_1193.fN), (.int .i64 x_1193.fD)]] 4 ?_ (fun _ => ?_)
  · rcases Bool.eq_false_or_eq_true x_1203 with hb' | hb'
    · have hg_1205 := hb'; clear hb'
      refine WL.pin (i := 5) rfl hg_1205 ?_
      refine WL.quiet (d := 6) rfl rfl rfl (q_fieldAddr fo_28_0 rfl rfl) ?_
      refine WL.quiet (d := 7) rfl rfl rfl (q_load1 oneT_3 rfl (rd_stb .here rfl)) ?_
      refine WL.quiet (d := 8) rfl rfl rfl (q_geq rfl rfl) ?_
      refine WL.quiet (d := 9) rfl rfl rfl (q_pickT rfl rfl) ?_
      exact WL.cutEnd () trivial (.cons rfl (.cons (some_bool (and_r hg_1205)) .nil)) (.cons .here .nil)
    · have hg_1206 := hb'; clear hb'
      refine WL.pin (i := 5) rfl hg_1206 ?_
      refine WL.skip rfl rfl rfl ?_
      refine WL.skip rfl rfl rfl ?_
      refine WL.skip rfl rfl rfl ?_
      refine WL.quiet (d := 9) rfl rfl rfl (q_pickF rfl rfl) ?_
      exact WL.cutEnd () trivial (.cons rfl (.cons (some_bool (and_l hg_1206)) .nil)) (.cons .here .nil)
  · skip
    refine WL.quiet (d := 2) rfl rfl rfl (q_assign rfl) ?_
    refine WL.nil ?_
    refine WX.then ?_
    refine WC.ret ?_
    obtain rfl := Option.some.inj h
    refine WX.bpRet Try.results50 (.tmp rfl .nil) (fun w hw => ?_)
    exact ⟨ret1 rfl, hw.sub .nil⟩
/-- curve.Valid$1 -/
def m_curve_Valid_1 (b_1190 : Sapi_Bucket) : Option Bool :=
  (m_curve_good b_1190.fBurst).bind fun x_1220 => (if !x_1220 then some true else (m_curve_good b_1190.fRate).bind fun x_1222 => some (!x_1222)).bind fun b_1224 => some b_1224

set_option maxRecDepth 20000 in
theorem w_curve_Valid_1 (Z : Zp)   (b_1190 : Sapi_Bucket) (r : Bool) (w₀ : World) (hz : PZ [] w₀ Z)
    (h : m_curve_Valid_1 b_1190 = some r) :
    Calls Try.prog 57 #[(.agg #[(.int .i64 b_1190.fBurst.fN), (.int .i64 b_1190.fBurst.fD), (.int .i64 b_1190.fRate.fN), (.int .i64 b_1190.fRate.fD)])] w₀ fun e w' => e = .returned (.bool r) ∧ Hp [] w₀ w' [] := by
  unfold m_curve_Valid_1 at h
  refine Calls.ofWC (vs := [(.agg #[(.int .i64 b_1190.fBurst.fN), (.int .i64 b_1190.fBurst.fD), (.int .i64 b_1190.fRate.fN), (.int .i64 b_1190.fRate.fD)])]) (pre := []) (env := [(0, (.agg #[(.int .i64 b_1190.fBurst.fN), (.int .i64 b_1190.fBurst.fD), (.int .i64 b_1190.fRate.fN), (.int .i64 b_1190.fRate.fD)]))]) Try.func57 rfl Try.ntmps57 rfl (Hp.nil w₀ _) rfl ?_
  refine WC.seq ?_
  refine WC.region ?_
  refine WL.new (dd := 1) rfl rfl rfl (e_box (cs := [(.int .i64 b_1190.fBurst.fN), (.int .i64 b_1190.fBurst.fD), (.int .i64 b_1190.fRate.fN), (.int .i64 b_1190.fRate.fD)]) rfl rfl) ?_
  intro b_1219 _
  refine WL.quiet (d := 2) rfl rfl rfl (q_assign rfl) ?_
  refine WL.nil ?_
  refine WX.then ?_
  refine WC.seq ?_
  obtain ⟨x_1220, hx_1221, h⟩ := bind_elim h
  obtain ⟨b_1224, hb_1225, h⟩ := bind_elim h
  refine WC.region ?_
  refine WL.quiet (d := 3) rfl rfl rfl (q_fieldAddr fo_42_0 rfl rfl) ?_
  refine WL.quiet (d := 4) rfl rfl rfl (q_loadA (cs := [(.int .i64 b_1190.fBurst.fN), (.int .i64 b_1190.fBurst.fD)]) aggT_28 rfl rfl (rd_sub (s := 2) .here rfl)) ?_
  refine WL.callD (dd := 5) rfl rfl rfl (run_call (l := [.tmp 4]) Try.call50 (.cons rfl .nil)) (.nil : Sel [stb b_1219 42 [(.int .i64 b_1190.fBurst.fN), (.int .i64 b_1190.fBurst.fD), (.int .i64 b_1190.fRate.fN), (.int .i64 b_1190.fRate.fD)]] [] [stb b_1219 42 [(.int .i64 b_1190.fBurst.fN), (.int .i64 b_1190.fBurst.fD), (.int .i64 b_1190.fRate.fN), (.int .i64 b_1190.fRate.fD)]]) (fun w hw => by have pz := (hz.call hw (.nil : Sel [stb b_1219 42 [(.int .i64 b_1190.fBurst.fN), (.int .i64 b_1190.fBurst.fD), (.int .i64 b_1190.fRate.fN), (.int .i64 b_1190.fRate.fD)]] [] [stb b_1219 42 [(.int .i64 b_1190.fBurst.fN), (.int .i64 b_1190.fBurst.fD), (.int .i64 b_1190.fRate.fN), (.int .i64 b_1190.fRate.fD)]])); exact w_curve_good (Z := _)  (x_1193 := b_1190.fBurst) (r := x_1220) w pz  hx_1221) ?_
  refine WL.quiet (d := 6) rfl rfl rfl (q_not rfl) ?_
  refine WL.quiet (d := 7) rfl rfl rfl (q_move rfl) ?_
  refine WL.cut0 True [(2, (.bool false)), (12, (.bool b_1224))] [stb b_1219 42 [(.int .i64 b_1190.fBurst.fN), (.int .i64 b_1190.fBurst.fD), (.int .i64 b_1190.fRate.fN), (.int .i64 b_1190.fRate.fD)]] 5 ?_ (fun _ => ?_)
  · rcases Bool.eq_false_or_eq_true (!x_1220) with hb' | hb'
    · have hg_1226 := hb'; clear hb'
      have hq_1227 := ite_t hb_1225 hg_1226
      replace hq_1227 := Option.some.inj hq_1227
      refine WL.pin (i := 7) rfl hg_1226 ?_
      refine WL.skip rfl rfl rfl ?_
      refine WL.skip rfl rfl rfl ?_
      refine WL.skip rfl rfl rfl ?_
      refine WL.skip rfl rfl rfl ?_
      refine WL.quiet (d := 12) rfl rfl rfl (q_pickT rfl rfl) ?_
      exact WL.cutEnd () trivial (.cons rfl (.cons (some_bool hq_1227) .nil)) (.cons .here .nil)
    · have hg_1228 := hb'; clear hb'
      have hq_1229 := ite_f hb_1225 hg_1228
      obtain ⟨x_1222, hx_1223, hq_1229⟩ := bind_elim hq_1229
      replace hq_1229 := Option.some.inj hq_1229
      refine WL.pin (i := 7) rfl hg_1228 ?_
      refine WL.quiet (d := 8) rfl rfl rfl (q_fieldAddr fo_42_1 rfl rfl) ?_
      refine WL.quiet (d := 9) rfl rfl rfl (q_loadA (cs := [(.int .i64 b_1190.fRate.fN), (.int .i64 b_1190.fRate.fD)]) aggT_28 rfl rfl (rd_sub (s := 2) .here rfl)) ?_
      refine WL.callD (dd := 10) rfl rfl rfl (run_call (l := [.tmp 9]) Try.call50 (.cons rfl .nil)) (.nil : Sel [stb b_1219 42 [(.int .i64 b_1190.fBurst.fN), (.int .i64 b_1190.fBurst.fD), (.int .i64 b_1190.fRate.fN), (.int .i64 b_1190.fRate.fD)]] [] [stb b_1219 42 [(.int .i64 b_1190.fBurst.fN), (.int .i64 b_1190.fBurst.fD), (.int .i64 b_1190.fRate.fN), (.int .i64 b_1190.fRate.fD)]]) (fun w hw => by have pz := (hz.call hw (.nil : Sel [stb b_1219 42 [(.int .i64 b_1190.fBurst.fN), (.int .i64 b_1190.fBurst.fD), (.int .i64 b_1190.fRate.fN), (.int .i64 b_1190.fRate.fD)]] [] [stb b_1219 42 [(.int .i64 b_1190.fBurst.fN), (.int .i64 b_1190.fBurst.fD), (.int .i64 b_1190.fRate.fN), (.int .i64 b_1190.fRate.fD)]])); exact w_curve_good (Z := _)  (x_1193 := b_1190.fRate) (r := x_1222) w pz  hx_1223) ?_
      refine WL.quiet (d := 11) rfl rfl rfl (q_not rfl) ?_
      refine WL.quiet (d := 12) rfl rfl rfl (q_pickF rfl rfl) ?_
      exact WL.cutEnd () trivial (.cons rfl (.cons (some_bool hq_1229) .nil)) (.cons .here .nil)
  · skip
    refine WL.quiet (d := 2) rfl rfl rfl (q_assign rfl) ?_
    refine WL.nil ?_
    refine WX.then ?_
    refine WC.ret ?_
    obtain rfl := Option.some.inj h
    refine WX.bpRet Try.results57 (.tmp rfl .nil) (fun w hw => ?_)
    exact ⟨ret1 rfl, hw.sub .nil⟩
def m_slices_IndexFunc_api_Curve_api_Bucket_L2 (s_1239 : List Sapi_Bucket) (f_1245 : Sapi_Bucket → Option Bool) (k_1471 : Option Int) : Nat → Int → Option Int
  | 0, _ => none
  | n_1502 + 1, v_1500 => if decide (v_1500 < ((s_1239.length : Nat) : Int)) then chk ((0 : Int) ≤ v_1500 ∧ v_1500 < ((s_1239.length : Nat) : Int)) ((f_1245 (⟨(⟨(((nth s_1239 v_1500).fBurst).fN), (((nth s_1239 v_1500).fBurst).fD)⟩ : Sapi_Rat), (⟨(((nth s_1239 v_1500).fRate).fN), (((nth s_1239 v_1500).fRate).fD)⟩ : Sapi_Rat)⟩ : Sapi_Bucket)).bind fun x_1522 => if x_1522 then some v_1500 else m_slices_IndexFunc_api_Curve_api_Bucket_L2 s_1239 f_1245 k_1471 n_1502 (i64 (v_1500 + 1))) else k_1471
theorem m_slices_IndexFunc_api_Curve_api_Bucket_L2_fuel {n : Nat} {s_1239 : List Sapi_Bucket} {f_1245 : Sapi_Bucket → Option Bool} {k_1471 : Option Int} {v_1500 : Int} {r : Int} (h : m_slices_IndexFunc_api_Curve_api_Bucket_L2 s_1239 f_1245 k_1471 n v_1500 = some r) : ∃ m, n = m + 1 := by
  cases n with
  | zero => cases h
  | succ m => exact ⟨m, rfl⟩

/-- slices.IndexFunc[api.Curve,api.Bucket] -/
def m_slices_IndexFunc_api_Curve_api_Bucket (s_1239 : List Sapi_Bucket) (f_1245 : Sapi_Bucket → Option Bool) : Option Int :=
  jp0 (some (-1)) fun k_1471 => m_slices_IndexFunc_api_Curve_api_Bucket_L2 s_1239 f_1245 k_1471 FUEL 0

set_option maxRecDepth 20000 in
theorem w_slices_IndexFunc_api_Curve_api_Bucket (Z : Zp)  (ao_1240 : Option Addr) (cap_1241 : Nat) (fid_1243 : FuncId) (fcaps_1244 : List Value) (s_1239 : List Sapi_Bucket) (f_1245 : Sapi_Bucket → Option Bool) (r : Int) (w₀ : World) (hz : PZ [] w₀ Z)
    (hs_1242 : ZS Z 4 (fun r x => r = e42 x) ao_1240 cap_1241 s_1239)
    (hcf_1246 : ∀ args w, (callFunc fid_1243 args).run Try.prog w = .ok (.enter fid_1243 args) w)
    (hfn_1247 : ∀ w : World, PZ [] w Z → ∀ (x0 : Sapi_Bucket) (r : Bool), f_1245 x0 = some r → Calls Try.prog fid_1243 (([(.agg #[(.int .i64 x0.fBurst.fN), (.int .i64 x0.fBurst.fD), (.int .i64 x0.fRate.fN), (.int .i64 x0.fRate.fD)])] : List Value) ++ fcaps_1244).toArray w fun e w' => e = .returned (.bool r) ∧ Hp [] w w' [])
    (h : m_slices_IndexFunc_api_Curve_api_Bucket s_1239 f_1245 = some r) :
    Calls Try.prog 77 #[(.slice ao_1240 s_1239.length cap_1241), (.func (.func fid_1243) #[] (fcaps_1244).toArray)] w₀ fun e w' => e = .returned (.int .i64 r) ∧ Hp [] w₀ w' [] := by
  unfold m_slices_IndexFunc_api_Curve_api_Bucket at h
  refine Calls.ofWC (vs := [(.slice ao_1240 s_1239.length cap_1241), (.func (.func fid_1243) #[] (fcaps_1244).toArray)]) (pre := []) (env := [(0, (.slice ao_1240 s_1239.length cap_1241)), (1, (.func (.func fid_1243) #[] (fcaps_1244).toArray))]) Try.func77 rfl Try.ntmps77 rfl (Hp.nil w₀ _) rfl ?_
  refine WC.seq ?_
  refine WC.region ?_
  refine WL.quiet (d := 4) rfl rfl rfl (q_assign rfl) ?_
  refine WL.nil ?_
  refine WX.then ?_
  obtain ⟨k_1471, hk_1472, h⟩ := jp0_elim h
  refine WC.seqMid0 ((k_1471 = some r)) ([]) ([]) ?_ ?_
  · skip
    refine WC.seq ?_
    refine WC.region ?_
    refine WL.quiet (d := 6) rfl rfl rfl (q_move rfl) ?_
    refine WL.quiet (d := 7) rfl rfl rfl (q_len Try.underlying25 rfl) ?_
    refine WL.quiet (d := 8) rfl rfl rfl (q_move rfl) ?_
    refine WL.nil ?_
    refine WX.then ?_
    refine WC.block ?_
    refine WC.loop2 (fun (n_1501 : Nat) (v_1500 : Int) => (m_slices_IndexFunc_api_Curve_api_Bucket_L2 s_1239 f_1245 k_1471 n_1501 v_1500 = some r)) (fun (n_1501 : Nat) (v_1500 : Int) => [(0, (.slice ao_1240 s_1239.length cap_1241)), (1, (.func (.func fid_1243) #[] (fcaps_1244).toArray)), (7, (.int .i64 ((s_1239.length : Nat) : Int))), (8, (.int .i64 v_1500))]) (fun (n_1501 : Nat) (v_1500 : Int) => []) (fun (n_1501 : Nat) (v_1500 : Int) => n_1501) ⟨FUEL, 0⟩ h (.cons rfl (.cons rfl (.cons rfl (.cons rfl .nil)))) .nil ?_
    rintro n_1501 v_1500 h
    obtain ⟨n_1502, rfl⟩ := m_slices_IndexFunc_api_Curve_api_Bucket_L2_fuel h
    rw [m_slices_IndexFunc_api_Curve_api_Bucket_L2] at h
    refine WC.seq ?_
    refine WC.region ?_
    refine WL.quiet (d := 9) rfl rfl rfl (q_lss rfl rfl) ?_
    refine WL.nil ?_
    refine WX.then ?_
    refine WC.seq ?_
    refine WC.cond rfl (fun hb_1504 => ?_) (fun hb_1504 => ?_)
    · replace h := ite_t h hb_1504
      refine WC.skip ?_
      refine WX.then ?_
      refine WC.seq ?_
      refine WC.block ?_
      refine WC.seq ?_
      refine WC.region ?_
      refine WL.quiet (d := 10) rfl rfl rfl (q_move rfl) ?_
      refine WL.quiet (d := 5) rfl rfl rfl (q_assign rfl) ?_
      refine WL.nil ?_
      refine WX.then ?_
      refine WC.seq ?_
      obtain ⟨c_1517, h⟩ := chk_elim h
      obtain ⟨x_1522, hx_1523, h⟩ := bind_elim h
      refine WC.region ?_
      refine WL.quiet (d := 11) rfl rfl rfl (q_move rfl) ?_
      refine WL.quiet (d := 12) rfl rfl rfl (q_move rfl) ?_
      refine WL.quiet (d := 13) rfl rfl rfl (q_move rfl) ?_
      refine WL.znth (dd := 14) rfl rfl (Z := Z) (Pr := (fun r x => r = e42 x)) elT_25 rfl rfl hs_1242 c_1517 ?_
      rintro A_1524 r_1525 hA_1526 hl_1527 rfl
      refine WL.quiet (d := 15) rfl rfl rfl (q_loadA (cs := [(.int .i64 (((nth s_1239 v_1500).fBurst).fN)), (.int .i64 (((nth s_1239 v_1500).fBurst).fD)), (.int .i64 (((nth s_1239 v_1500).fRate).fN)), (.int .i64 (((nth s_1239 v_1500).fRate).fD))]) aggT_42 rfl rfl (rd_zs hz.pv hA_1526)) ?_
      refine WL.callD (dd := 16) rfl rfl rfl (run_callv (l := [.tmp 15]) (f := fid_1243) (caps := fcaps_1244) hcf_1246 rfl (.cons rfl .nil)) .nil (fun w hw => hfn_1247 w (hz.now hw) (⟨(⟨(((nth s_1239 v_1500).fBurst).fN), (((nth s_1239 v_1500).fBurst).fD)⟩ : Sapi_Rat), (⟨(((nth s_1239 v_1500).fRate).fN), (((nth s_1239 v_1500).fRate).fD)⟩ : Sapi_Rat)⟩ : Sapi_Bucket) x_1522  hx_1523) ?_
      refine WL.nil ?_
      refine WX.then ?_
      refine WC.cond rfl (fun hb_1528 => ?_) (fun hb_1528 => ?_)
      · replace h := ite_t h hb_1528
        refine WC.seq ?_
        refine WC.region ?_
        refine WL.quiet (d := 17) rfl rfl rfl (q_move rfl) ?_
        refine WL.quiet (d := 4) rfl rfl rfl (q_assign rfl) ?_
        refine WL.nil ?_
        refine WX.then ?_
        refine WC.ret ?_
        refine WX.blockRet ?_
        refine WX.thenRet ?_
        refine WX.thenRet ?_
        refine WX.blockRet ?_
        refine WX.thenRet ?_
        obtain rfl := Option.some.inj h
        refine WX.bpRet Try.results77 (.tmp rfl .nil) (fun w hw => ?_)
        exact ⟨ret1 rfl, hw.sub .nil⟩
      · replace h := ite_f h hb_1528
        refine WC.skip ?_
        refine WX.blockNormal ?_
        refine WX.then ?_
        refine WC.region ?_
        refine WL.quiet (d := 18) rfl rfl rfl (q_add rfl rfl rfl) ?_
        refine WL.quiet (d := 8) rfl rfl rfl (q_move rfl) ?_
        refine WL.nil ?_
        exact WX.round (G := Nat × Int) ⟨n_1502, (i64 (v_1500 + 1))⟩ h (Nat.lt_succ_self _) (.cons rfl (.cons rfl (.cons rfl (.cons rfl .nil)))) .nil
    · replace h := ite_f h hb_1504
      refine WC.exit ?_
      refine WX.thenExit ?_
      refine WX.thenExit ?_
      refine WX.blockHit ?_
      exact WX.mid (G := Unit) () h .nil .nil
  · rintro  h
    replace h := hk_1472.symm.trans h
    refine WC.seq ?_
    refine WC.region ?_
    refine WL.quiet (d := 4) rfl rfl rfl (q_assign rfl) ?_
    refine WL.nil ?_
    refine WX.then ?_
    refine WC.ret ?_
    obtain rfl := Option.some.inj h
    refine WX.bpRet Try.results77 (.tmp rfl .nil) (fun w hw => ?_)
    exact ⟨ret1 rfl, hw.sub .nil⟩
/-- slices.ContainsFunc[api.Curve,api.Bucket] -/
def m_slices_ContainsFunc_api_Curve_api_Bucket (s_1230 : List Sapi_Bucket) (f_1236 : Sapi_Bucket → Option Bool) : Option Bool :=
  (m_slices_IndexFunc_api_Curve_api_Bucket s_1230 f_1236).bind fun x_1532 => some (decide (x_1532 ≥ 0))

set_option maxRecDepth 20000 in
theorem w_slices_ContainsFunc_api_Curve_api_Bucket (Z : Zp)  (ao_1231 : Option Addr) (cap_1232 : Nat) (fid_1234 : FuncId) (fcaps_1235 : List Value) (s_1230 : List Sapi_Bucket) (f_1236 : Sapi_Bucket → Option Bool) (r : Bool) (w₀ : World) (hz : PZ [] w₀ Z)
    (hs_1233 : ZS Z 4 (fun r x => r = e42 x) ao_1231 cap_1232 s_1230)
    (hcf_1237 : ∀ args w, (callFunc fid_1234 args).run Try.prog w = .ok (.enter fid_1234 args) w)
    (hfn_1238 : ∀ w : World, PZ [] w Z → ∀ (x0 : Sapi_Bucket) (r : Bool), f_1236 x0 = some r → Calls Try.prog fid_1234 (([(.agg #[(.int .i64 x0.fBurst.fN), (.int .i64 x0.fBurst.fD), (.int .i64 x0.fRate.fN), (.int .i64 x0.fRate.fD)])] : List Value) ++ fcaps_1235).toArray w fun e w' => e = .returned (.bool r) ∧ Hp [] w w' [])
    (h : m_slices_ContainsFunc_api_Curve_api_Bucket s_1230 f_1236 = some r) :
    Calls Try.prog 56 #[(.slice ao_1231 s_1230.length cap_1232), (.func (.func fid_1234) #[] (fcaps_1235).toArray)] w₀ fun e w' => e = .returned (.bool r) ∧ Hp [] w₀ w' [] := by
  unfold m_slices_ContainsFunc_api_Curve_api_Bucket at h
  refine Calls.ofWC (vs := [(.slice ao_1231 s_1230.length cap_1232), (.func (.func fid_1234) #[] (fcaps_1235).toArray)]) (pre := []) (env := [(0, (.slice ao_1231 s_1230.length cap_1232)), (1, (.func (.func fid_1234) #[] (fcaps_1235).toArray))]) Try.func56 rfl Try.ntmps56 rfl (Hp.nil w₀ _) rfl ?_
  refine WC.seq ?_
  refine WC.region ?_
  refine WL.quiet (d := 4) rfl rfl rfl (q_assign rfl) ?_
  refine WL.nil ?_
  refine WX.then ?_
  refine WC.seq ?_
  obtain ⟨x_1532, hx_1533, h⟩ := bind_elim h
  refine WC.region ?_
  refine WL.quiet (d := 5) rfl rfl rfl (q_move rfl) ?_
  refine WL.quiet (d := 6) rfl rfl rfl (q_move rfl) ?_
  refine WL.callD (dd := 7) rfl rfl rfl (run_call (l := [.tmp 5, .tmp 6]) Try.call77 (.cons rfl (.cons rfl .nil))) (.nil : Sel [] [] []) (fun w hw => by have pz := (hz.call hw (.nil : Sel [] [] [])); exact w_slices_IndexFunc_api_Curve_api_Bucket (Z := _) (ao_1240 := ao_1231) (cap_1241 := cap_1232) (fid_1243 := fid_1234) (fcaps_1244 := fcaps_1235) (s_1239 := s_1230) (f_1245 := f_1236) (r := x_1532) w pz hs_1233 hcf_1237 hfn_1238 hx_1533) ?_
  refine WL.quiet (d := 8) rfl rfl rfl (q_geq rfl rfl) ?_
  refine WL.quiet (d := 4) rfl rfl rfl (q_assign rfl) ?_
  refine WL.nil ?_
  refine WX.then ?_
  refine WC.ret ?_
  obtain rfl := Option.some.inj h
  refine WX.bpRet Try.results56 (.tmp rfl .nil) (fun w hw => ?_)
  exact ⟨ret1 rfl, hw.sub .nil⟩
/-- curve.Valid -/
def m_curve_Valid (c_1186 : List Sapi_Bucket) : Option Bool :=
  (if (decide (((c_1186.length : Nat) : Int) ≥ 1)) && (decide (((c_1186.length : Nat) : Int) ≤ 32)) then (m_slices_ContainsFunc_api_Curve_api_Bucket c_1186 (fun (y0 : Sapi_Bucket) => m_curve_Valid_1 y0)).bind fun x_1545 => some (!x_1545) else some false).bind fun b_1547 => some b_1547

set_option maxRecDepth 20000 in
theorem w_curve_Valid (Z : Zp)  (ao_1187 : Option Addr) (cap_1188 : Nat) (c_1186 : List Sapi_Bucket) (r : Bool) (w₀ : World) (hz : PZ [] w₀ Z)
    (hs_1189 : ZS Z 4 (fun r x => r = e42 x) ao_1187 cap_1188 c_1186)
    (h : m_curve_Valid c_1186 = some r) :
    Calls Try.prog 26 #[(.slice ao_1187 c_1186.length cap_1188)] w₀ fun e w' => e = .returned (.bool r) ∧ Hp [] w₀ w' [] := by
  unfold m_curve_Valid at h
  refine Calls.ofWC (vs := [(.slice ao_1187 c_1186.length cap_1188)]) (pre := []) (env := [(0, (.slice ao_1187 c_1186.length cap_1188))]) Try.func26 rfl Try.ntmps26 rfl (Hp.nil w₀ _) rfl ?_
  refine WC.seq ?_
  refine WC.region ?_
  refine WL.quiet (d := 2) rfl rfl rfl (q_assign rfl) ?_
  refine WL.nil ?_
  refine WX.then ?_
  refine WC.seq ?_
  obtain ⟨b_1547, hb_1548, h⟩ := bind_elim h
  refine WC.region ?_
  refine WL.quiet (d := 3) rfl rfl rfl (q_move rfl) ?_
  refine WL.quiet (d := 4) rfl rfl rfl (q_len Try.underlying25 rfl) ?_
  refine WL.quiet (d := 5) rfl rfl rfl (q_geq rfl rfl) ?_
  refine WL.quiet (d := 6) rfl rfl rfl (q_move rfl) ?_
  refine WL.cut0 True [(0, (.slice ao_1187 c_1186.length cap_1188)), (2, (.bool false)), (10, (.bool ((decide (((c_1186.length : Nat) : Int) ≥ 1)) && (decide (((c_1186.length : Nat) : Int) ≤ 32)))))] [] 4 ?_ (fun _ => ?_)
  · rcases Bool.eq_false_or_eq_true (decide (((c_1186.length : Nat) : Int) ≥ 1)) with hb' | hb'
    · have hg_1549 := hb'; clear hb'
      refine WL.pin (i := 6) rfl hg_1549 ?_
      refine WL.quiet (d := 7) rfl rfl rfl (q_move rfl) ?_
      refine WL.quiet (d := 8) rfl rfl rfl (q_len Try.underlying25 rfl) ?_
      refine WL.quiet (d := 9) rfl rfl rfl (q_leq rfl rfl) ?_
      refine WL.quiet (d := 10) rfl rfl rfl (q_pickT rfl rfl) ?_
      exact WL.cutEnd () trivial (.cons rfl (.cons rfl (.cons (some_bool (and_r hg_1549)) .nil))) .nil
    · have hg_1550 := hb'; clear hb'
      refine WL.pin (i := 6) rfl hg_1550 ?_
      refine WL.skip rfl rfl rfl ?_
      refine WL.skip rfl rfl rfl ?_
      refine WL.skip rfl rfl rfl ?_
      refine WL.quiet (d := 10) rfl rfl rfl (q_pickF rfl rfl) ?_
      exact WL.cutEnd () trivial (.cons rfl (.cons rfl (.cons (some_bool (and_l hg_1550)) .nil))) .nil
  · skip
    refine WL.quiet (d := 11) rfl rfl rfl (q_move rfl) ?_
    refine WL.cut0 True [(2, (.bool false)), (15, (.bool b_1547))] [] 4 ?_ (fun _ => ?_)
    · rcases Bool.eq_false_or_eq_true ((decide (((c_1186.length : Nat) : Int) ≥ 1)) && (decide (((c_1186.length : Nat) : Int) ≤ 32))) with hb' | hb'
      · have hg_1551 := hb'; clear hb'
        have hq_1552 := ite_t hb_1548 hg_1551
        obtain ⟨x_1545, hx_1546, hq_1552⟩ := bind_elim hq_1552
        replace hq_1552 := Option.some.inj hq_1552
        refine WL.pin (i := 11) rfl hg_1551 ?_
        refine WL.quiet (d := 12) rfl rfl rfl (q_move rfl) ?_
        refine WL.callD (dd := 13) rfl rfl rfl (run_call (l := [.tmp 12, .func 57]) Try.call56 (.cons rfl (.cons rfl .nil))) (.nil : Sel [] [] []) (fun w hw => by have pz := (hz.call hw (.nil : Sel [] [] [])); exact w_slices_ContainsFunc_api_Curve_api_Bucket (Z := _) (ao_1231 := ao_1187) (cap_1232 := cap_1188) (fid_1234 := 57) (fcaps_1235 := []) (s_1230 := c_1186) (f_1236 := (fun (y0 : Sapi_Bucket) => m_curve_Valid_1 y0)) (r := x_1545) w pz hs_1189 Try.call57 (fun w' hz' y0  r  hr => w_curve_Valid_1 (Z := _)  (b_1190 := y0) (r := r) w' hz'  hr) hx_1546) ?_
        refine WL.quiet (d := 14) rfl rfl rfl (q_not rfl) ?_
        refine WL.quiet (d := 15) rfl rfl rfl (q_pickT rfl rfl) ?_
        exact WL.cutEnd () trivial (.cons rfl (.cons (some_bool hq_1552) .nil)) .nil
      · have hg_1553 := hb'; clear hb'
        have hq_1554 := ite_f hb_1548 hg_1553
        replace hq_1554 := Option.some.inj hq_1554
        refine WL.pin (i := 11) rfl hg_1553 ?_
        refine WL.skip rfl rfl rfl ?_
        refine WL.skip rfl rfl rfl ?_
        refine WL.skip rfl rfl rfl ?_
        refine WL.quiet (d := 15) rfl rfl rfl (q_pickF rfl rfl) ?_
        exact WL.cutEnd () trivial (.cons rfl (.cons (some_bool hq_1554) .nil)) .nil
    · skip
      refine WL.quiet (d := 2) rfl rfl rfl (q_assign rfl) ?_
      refine WL.nil ?_
      refine WX.then ?_
      refine WC.ret ?_
      obtain rfl := Option.some.inj h
      refine WX.bpRet Try.results26 (.tmp rfl .nil) (fun w hw => ?_)
      exact ⟨ret1 rfl, hw.sub .nil⟩
/-- rat.do$3 -/
def m_rat_do_3 (c_1649 : Sapi_Rat) (c_1652 : Sapi_Rat) : Option (Int × Int) :=
  some ((i64 (c_1649.fN * c_1652.fN)), (i64 (c_1649.fD * c_1652.fD)))

set_option maxRecDepth 20000 in
theorem w_rat_do_3 (Z : Zp)  (A_1647 : Addr) (A_1650 : Addr) (c_1649 : Sapi_Rat) (c_1652 : Sapi_Rat) (r : Int × Int) (w₀ : World) (hz : PZ [] w₀ Z)
    (hA_1648 : ZC Z A_1647 [(.int .i64 c_1649.fN), (.int .i64 c_1649.fD)])
    (hA_1651 : ZC Z A_1650 [(.int .i64 c_1652.fN), (.int .i64 c_1652.fD)])
    (h : m_rat_do_3 c_1649 c_1652 = some r) :
    Calls Try.prog 66 #[(.pointer (some A_1647)), (.pointer (some A_1650))] w₀ fun e w' => e = .returned (.tuple #[(.int .i64 r.1), (.int .i64 r.2)]) ∧ Hp [] w₀ w' [] := by
  unfold m_rat_do_3 at h
  refine Calls.ofWC (vs := [(.pointer (some A_1647)), (.pointer (some A_1650))]) (pre := []) (env := [(0, (.pointer (some A_1647))), (1, (.pointer (some A_1650)))]) Try.func66 rfl Try.ntmps66 rfl (Hp.nil w₀ _) rfl ?_
  refine WC.seq ?_
  refine WC.region ?_
  refine WL.quiet (d := 2) rfl rfl rfl (q_assign rfl) ?_
  refine WL.quiet (d := 3) rfl rfl rfl (q_assign rfl) ?_
  refine WL.nil ?_
  refine WX.then ?_
  refine WC.seq ?_
  refine WC.draw (fun i => [].contains i) [] rfl ?_
  refine WD.pure (i := 0) (d := 4) (by kernel_rfl) rfl (readyF_of (by kernel_rfl)) (freeF_of (by kernel_rfl)) rfl rfl rfl (fun _ => q_fieldAddr fo_28_0 rfl rfl) ?_
  refine WD.quiet (i := 1) (d := 5) (by kernel_rfl) rfl (readyF_of (by kernel_rfl)) (freeF_of (by kernel_rfl)) rfl rfl rfl (q_load1 oneT_3 rfl (rd_zAt hz.pv hA_1648 rfl)) ?_
  refine WD.pure (i := 2) (d := 6) (by kernel_rfl) rfl (readyF_of (by kernel_rfl)) (freeF_of (by kernel_rfl)) rfl rfl rfl (fun _ => q_fieldAddr fo_28_0 rfl rfl) ?_
  refine WD.quiet (i := 3) (d := 7) (by kernel_rfl) rfl (readyF_of (by kernel_rfl)) (freeF_of (by kernel_rfl)) rfl rfl rfl (q_load1 oneT_3 rfl (rd_zAt hz.pv hA_1651 rfl)) ?_
  refine WD.pure (i := 4) (d := 8) (by kernel_rfl) rfl (readyF_of (by kernel_rfl)) (freeF_of (by kernel_rfl)) rfl rfl rfl (fun _ => q_mul rfl rfl rfl) ?_
  refine WD.pure (i := 5) (d := 9) (by kernel_rfl) rfl (readyF_of (by kernel_rfl)) (freeF_of (by kernel_rfl)) rfl rfl rfl (fun _ => q_fieldAddr fo_28_1 rfl rfl) ?_
  refine WD.quiet (i := 6) (d := 10) (by kernel_rfl) rfl (readyF_of (by kernel_rfl)) (freeF_of (by kernel_rfl)) rfl rfl rfl (q_load1 oneT_3 rfl (rd_zAt hz.pv hA_1648 rfl)) ?_
  refine WD.pure (i := 7) (d := 11) (by kernel_rfl) rfl (readyF_of (by kernel_rfl)) (freeF_of (by kernel_rfl)) rfl rfl rfl (fun _ => q_fieldAddr fo_28_1 rfl rfl) ?_
  refine WD.quiet (i := 8) (d := 12) (by kernel_rfl) rfl (readyF_of (by kernel_rfl)) (freeF_of (by kernel_rfl)) rfl rfl rfl (q_load1 oneT_3 rfl (rd_zAt hz.pv hA_1651 rfl)) ?_
  refine WD.pure (i := 9) (d := 13) (by kernel_rfl) rfl (readyF_of (by kernel_rfl)) (freeF_of (by kernel_rfl)) rfl rfl rfl (fun _ => q_mul rfl rfl rfl) ?_
  refine WD.pure (i := 10) (d := 2) (by kernel_rfl) rfl (readyF_of (by kernel_rfl)) (freeF_of (by kernel_rfl)) rfl rfl rfl (fun _ => q_assign rfl) ?_
  refine WD.pure (i := 11) (d := 3) (by kernel_rfl) rfl (readyF_of (by kernel_rfl)) (freeF_of (by kernel_rfl)) rfl rfl rfl (fun _ => q_assign rfl) ?_
  refine WD.done (by kernel_rfl) ?_
  refine WX.then ?_
  refine WC.ret ?_
  obtain rfl := Option.some.inj h
  refine WX.bpRet Try.results66 (.tmp rfl (.tmp rfl .nil)) (fun w hw => ?_)
  exact ⟨ret2 rfl rfl, hw.sub .nil⟩
/-- rat.do -/
def m_rat_dob (x_1611 : Sapi_Rat) (y_1612 : Sapi_Rat) : Option (Sapi_Rat × Int) :=
  (m_rat_Valid x_1611).bind fun x_1680 => (if !x_1680 then some true else (m_rat_Valid y_1612).bind fun x_1682 => some (!x_1682)).bind fun b_1684 => if b_1684 then some ((⟨0, 0⟩ : Sapi_Rat), 2) else (m_rat_do_3 x_1611 y_1612).bind fun x_1695 => (m_rat_Make x_1695.1 x_1695.2).bind fun x_1697 => some (x_1697.1, x_1697.2)

set_option maxRecDepth 20000 in
theorem w_rat_dob (Z : Zp)   (x_1611 : Sapi_Rat) (y_1612 : Sapi_Rat) (r : Sapi_Rat × Int) (w₀ : World) (hz : PZ [] w₀ Z)
    (h : m_rat_dob x_1611 y_1612 = some r) :
    Calls Try.prog 39 #[(.string ⟨#[42]⟩), (.agg #[(.int .i64 x_1611.fN), (.int .i64 x_1611.fD)]), (.agg #[(.int .i64 y_1612.fN), (.int .i64 y_1612.fD)])] w₀ fun e w' => e = .returned (.tuple #[(.agg #[(.int .i64 r.1.fN), (.int .i64 r.1.fD)]), (.int .i64 r.2)]) ∧ Hp [] w₀ w' [] := by
  unfold m_rat_dob at h
  refine Calls.ofWC (vs := [(.string ⟨#[42]⟩), (.agg #[(.int .i64 x_1611.fN), (.int .i64 x_1611.fD)]), (.agg #[(.int .i64 y_1612.fN), (.int .i64 y_1612.fD)])]) (pre := []) (env := [(0, (.string ⟨#[42]⟩)), (1, (.agg #[(.int .i64 x_1611.fN), (.int .i64 x_1611.fD)])), (2, (.agg #[(.int .i64 y_1612.fN), (.int .i64 y_1612.fD)]))]) Try.func39 rfl Try.ntmps39 rfl (Hp.nil w₀ _) rfl ?_
  refine WC.seq ?_
  refine WC.region ?_
  refine WL.new (dd := 4) rfl rfl rfl (e_box (cs := [(.int .i64 x_1611.fN), (.int .i64 x_1611.fD)]) rfl rfl) ?_
  intro b_1664 _
  refine WL.new (dd := 5) rfl rfl rfl (e_box (cs := [(.int .i64 y_1612.fN), (.int .i64 y_1612.fD)]) rfl rfl) ?_
  intro b_1665 _
  refine WL.new (dd := 6) rfl rfl rfl (e_alloc (cs := [(.int .i64 0), (.int .i64 0)]) zeroT_28 rfl) ?_
  intro b_1666 _
  refine WL.quiet (d := 7) rfl rfl rfl (q_assign rfl) ?_
  refine WL.nil ?_
  refine WX.then ?_
  refine WC.seq ?_
  refine WC.seq ?_
  obtain ⟨x_1680, hx_1681, h⟩ := bind_elim h
  obtain ⟨b_1684, hb_1685, h⟩ := bind_elim h
  refine WC.region ?_
  refine WL.quiet (d := 9) rfl rfl rfl (q_loadA (cs := [(.int .i64 x_1611.fN), (.int .i64 x_1611.fD)]) aggT_28 rfl rfl (rd_all (.there (.there .here)))) ?_
  refine WL.callD (dd := 10) rfl rfl rfl (run_call (l := [.tmp 9]) Try.call42 (.cons rfl .nil)) (.nil : Sel [stb b_1666 28 [(.int .i64 0), (.int .i64 0)], stb b_1665 28 [(.int .i64 y_1612.fN), (.int .i64 y_1612.fD)], stb b_1664 28 [(.int .i64 x_1611.fN), (.int .i64 x_1611.fD)]] [] [stb b_1666 28 [(.int .i64 0), (.int .i64 0)], stb b_1665 28 [(.int .i64 y_1612.fN), (.int .i64 y_1612.fD)], stb b_1664 28 [(.int .i64 x_1611.fN), (.int .i64 x_1611.fD)]]) (fun w hw => by have pz := (hz.call hw (.nil : Sel [stb b_1666 28 [(.int .i64 0), (.int .i64 0)], stb b_1665 28 [(.int .i64 y_1612.fN), (.int .i64 y_1612.fD)], stb b_1664 28 [(.int .i64 x_1611.fN), (.int .i64 x_1611.fD)]] [] [stb b_1666 28 [(.int .i64 0), (.int .i64 0)], stb b_1665 28 [(.int .i64 y_1612.fN), (.int .i64 y_1612.fD)], stb b_1664 28 [(.int .i64 x_1611.fN), (.int .i64 x_1611.fD)]])); exact w_rat_Valid (Z := _)  (x_1018 := x_1611) (r := x_1680) w pz  hx_1681) ?_
  refine WL.quiet (d := 11) rfl rfl rfl (q_not rfl) ?_
  refine WL.quiet (d := 12) rfl rfl rfl (q_move rfl) ?_
  refine WL.cut0 True [(0, (.string ⟨#[42]⟩)), (4, (.pointer (some ⟨b_1664, 0, none⟩))), (5, (.pointer (some ⟨b_1665, 0, none⟩))), (6, (.pointer (some ⟨b_1666, 0, none⟩))), (16, (.bool b_1684))] [stb b_1666 28 [(.int .i64 0), (.int .i64 0)], stb b_1665 28 [(.int .i64 y_1612.fN), (.int .i64 y_1612.fD)], stb b_1664 28 [(.int .i64 x_1611.fN), (.int .i64 x_1611.fD)]] 4 ?_ (fun _ => ?_)
  · rcases Bool.eq_false_or_eq_true (!x_1680) with hb' | hb'
    · have hg_1686 := hb'; clear hb'
      have hq_1687 := ite_t hb_1685 hg_1686
      replace hq_1687 := Option.some.inj hq_1687
      refine WL.pin (i := 12) rfl hg_1686 ?_
      refine WL.skip rfl rfl rfl ?_
      refine WL.skip rfl rfl rfl ?_
      refine WL.skip rfl rfl rfl ?_
      refine WL.quiet (d := 16) rfl rfl rfl (q_pickT rfl rfl) ?_
      exact WL.cutEnd () trivial (.cons rfl (.cons rfl (.cons rfl (.cons rfl (.cons (some_bool hq_1687) .nil))))) (.cons .here (.cons .here (.cons .here .nil)))
    · have hg_1688 := hb'; clear hb'
      have hq_1689 := ite_f hb_1685 hg_1688
      obtain ⟨x_1682, hx_1683, hq_1689⟩ := bind_elim hq_1689
      replace hq_1689 := Option.some.inj hq_1689
      refine WL.pin (i := 12) rfl hg_1688 ?_
      refine WL.quiet (d := 13) rfl rfl rfl (q_loadA (cs := [(.int .i64 y_1612.fN), (.int .i64 y_1612.fD)]) aggT_28 rfl rfl (rd_all (.there .here))) ?_
      refine WL.callD (dd := 14) rfl rfl rfl (run_call (l := [.tmp 13]) Try.call42 (.cons rfl .nil)) (.nil : Sel [stb b_1666 28 [(.int .i64 0), (.int .i64 0)], stb b_1665 28 [(.int .i64 y_1612.fN), (.int .i64 y_1612.fD)], stb b_1664 28 [(.int .i64 x_1611.fN), (.int .i64 x_1611.fD)]] [] [stb b_1666 28 [(.int .i64 0), (.int .i64 0)], stb b_1665 28 [(.int .i64 y_1612.fN), (.int .i64 y_1612.fD)], stb b_1664 28 [(.int .i64 x_1611.fN), (.int .i64 x_1611.fD)]]) (fun w hw => by have pz := (hz.call hw (.nil : Sel [stb b_1666 28 [(.int .i64 0), (.int .i64 0)], stb b_1665 28 [(.int .i64 y_1612.fN), (.int .i64 y_1612.fD)], stb b_1664 28 [(.int .i64 x_1611.fN), (.int .i64 x_1611.fD)]] [] [stb b_1666 28 [(.int .i64 0), (.int .i64 0)], stb b_1665 28 [(.int .i64 y_1612.fN), (.int .i64 y_1612.fD)], stb b_1664 28 [(.int .i64 x_1611.fN), (.int .i64 x_1611.fD)]])); exact w_rat_Valid (Z := _)  (x_1018 := y_1612) (r := x_1682) w pz  hx_1683) ?_
      refine WL.quiet (d := 15) rfl rfl rfl (q_not rfl) ?_
      refine WL.quiet (d := 16) rfl rfl rfl (q_pickF rfl rfl) ?_
      exact WL.cutEnd () trivial (.cons rfl (.cons rfl (.cons rfl (.cons rfl (.cons (some_bool hq_1689) .nil))))) (.cons .here (.cons .here (.cons .here .nil)))
  · skip
    refine WL.quiet (d := 17) rfl rfl rfl (q_move rfl) ?_
    refine WL.cut0 True [(0, (.string ⟨#[42]⟩)), (4, (.pointer (some ⟨b_1664, 0, none⟩))), (5, (.pointer (some ⟨b_1665, 0, none⟩))), (6, (.pointer (some ⟨b_1666, 0, none⟩))), (25, (.bool b_1684))] [stb b_1666 28 [(.int .i64 0), (.int .i64 0)], stb b_1665 28 [(.int .i64 y_1612.fN), (.int .i64 y_1612.fD)], stb b_1664 28 [(.int .i64 x_1611.fN), (.int .i64 x_1611.fD)]] 8 ?_ (fun _ => ?_)
    · rcases Bool.eq_false_or_eq_true b_1684 with hb' | hb'
      · have hg_1690 := hb'; clear hb'
        refine WL.pin (i := 17) rfl hg_1690 ?_
        refine WL.skip rfl rfl rfl ?_
        refine WL.skip rfl rfl rfl ?_
        refine WL.skip rfl rfl rfl ?_
        refine WL.skip rfl rfl rfl ?_
        refine WL.skip rfl rfl rfl ?_
        refine WL.skip rfl rfl rfl ?_
        refine WL.skip rfl rfl rfl ?_
        refine WL.quiet (d := 25) rfl rfl rfl (q_pickT rfl rfl) ?_
        exact WL.cutEnd () trivial (.cons rfl (.cons rfl (.cons rfl (.cons rfl (.cons (some_bool (Eq.symm hg_1690)) .nil))))) (.cons .here (.cons .here (.cons .here .nil)))
      · have hg_1691 := hb'; clear hb'
        refine WL.pin (i := 17) rfl hg_1691 ?_
        refine WL.quiet (d := 18) rfl rfl rfl (q_move rfl) ?_
        refine WL.quiet (d := 19) rfl rfl rfl (q_seqlC (r := false) (by decide) rfl rfl) ?_
        refine WL.quiet (d := 20) rfl rfl rfl (q_move rfl) ?_
        refine WL.skip rfl rfl rfl ?_
        refine WL.skip rfl rfl rfl ?_
        refine WL.skip rfl rfl rfl ?_
        refine WL.quiet (d := 24) rfl rfl rfl (q_pickF rfl rfl) ?_
        refine WL.quiet (d := 25) rfl rfl rfl (q_pickF rfl rfl) ?_
        exact WL.cutEnd () trivial (.cons rfl (.cons rfl (.cons rfl (.cons rfl (.cons (some_bool (Eq.symm hg_1691)) .nil))))) (.cons .here (.cons .here (.cons .here .nil)))
    · skip
      refine WL.nil ?_
      refine WX.then ?_
      refine WC.cond rfl (fun hb_1692 => ?_) (fun hb_1692 => ?_)
      · replace h := ite_t h hb_1692
        refine WC.seq ?_
        refine WC.region ?_
        refine WL.quiet (d := 26) rfl rfl rfl (q_build (v := (.agg #[(.int .i64 0), (.int .i64 0)])) (Eos.parts (l := []) .nil []) (fun _ => by kernel_rfl)) ?_
        refine WL.eff0 rfl rfl (e_store (vs := [(.int .i64 0), (.int .i64 0)]) (ds := [(.int .i64 0), (.int .i64 0)]) sizT_28 rfl rfl rfl rfl (oc_cons rfl (oc_cons rfl oc_nil)) .here (Nat.le_of_ble_eq_true rfl) rfl) ?_
        refine WL.quiet (d := 7) rfl rfl rfl (q_assign rfl) ?_
        refine WL.nil ?_
        refine WX.then ?_
        refine WC.ret ?_
        refine WX.thenRet ?_
        obtain rfl := Option.some.inj h
        refine WX.bpRet Try.results39 (.agg rfl aggT_28 rfl (rd_all .here) (.tmp rfl .nil)) (fun w hw => ?_)
        exact ⟨ret2 rfl rfl, hw.sub .nil⟩
      · replace h := ite_f h hb_1692
        refine WC.skip ?_
        refine WX.then ?_
        refine WC.seq ?_
        refine WC.region ?_
        refine WL.new (dd := 27) rfl rfl rfl (e_makeMap Value.string (fun x => x)) ?_
        intro b_1694 _
        refine WL.quiet (d := 28) rfl rfl rfl (q_makeFunc (Eos.caps (l := [.tmp 4, .tmp 5]) (.cons rfl (.cons rfl .nil)))) ?_
        refine WL.eff0 rfl rfl (e_insert (k := ⟨#[43]⟩) (v := (.func (.func 64) #[] #[(.pointer (some ⟨b_1664, 0, none⟩)), (.pointer (some ⟨b_1665, 0, none⟩))])) keyT_9 Try.underlying94 rfl rfl rfl rfl .here) ?_
        refine WL.quiet (d := 29) rfl rfl rfl (q_makeFunc (Eos.caps (l := [.tmp 4, .tmp 5]) (.cons rfl (.cons rfl .nil)))) ?_
        refine WL.eff0 rfl rfl (e_insert (k := ⟨#[45]⟩) (v := (.func (.func 65) #[] #[(.pointer (some ⟨b_1664, 0, none⟩)), (.pointer (some ⟨b_1665, 0, none⟩))])) keyT_9 Try.underlying94 rfl rfl rfl rfl .here) ?_
        refine WL.quiet (d := 30) rfl rfl rfl (q_makeFunc (Eos.caps (l := [.tmp 4, .tmp 5]) (.cons rfl (.cons rfl .nil)))) ?_
        refine WL.eff0 rfl rfl (e_insert (k := ⟨#[42]⟩) (v := (.func (.func 66) #[] #[(.pointer (some ⟨b_1664, 0, none⟩)), (.pointer (some ⟨b_1665, 0, none⟩))])) keyT_9 Try.underlying94 rfl rfl rfl rfl .here) ?_
        refine WL.quiet (d := 31) rfl rfl rfl (q_makeFunc (Eos.caps (l := [.tmp 4, .tmp 5]) (.cons rfl (.cons rfl .nil)))) ?_
        refine WL.eff0 rfl rfl (e_insert (k := ⟨#[47]⟩) (v := (.func (.func 67) #[] #[(.pointer (some ⟨b_1664, 0, none⟩)), (.pointer (some ⟨b_1665, 0, none⟩))])) keyT_9 Try.underlying94 rfl rfl rfl rfl .here) ?_
        refine WL.quiet (d := 32) rfl rfl rfl (q_move rfl) ?_
        refine WL.quiet (d := 8) rfl rfl rfl (q_assign rfl) ?_
        refine WL.nil ?_
        refine WX.then ?_
        refine WC.seq ?_
        obtain ⟨x_1695, hx_1696, h⟩ := bind_elim h
        obtain ⟨x_1697, hx_1698, h⟩ := bind_elim h
        refine WC.region ?_
        refine WL.quiet (d := 33) rfl rfl rfl (q_move rfl) ?_
        refine WL.quiet (d := 34) rfl rfl rfl (q_move rfl) ?_
        refine WL.quiet (d := 35) rfl rfl rfl (q_lookC (k := ⟨#[42]⟩) (dflt := .nilFunc) (r := (.func (.func 66) #[] #[(.pointer (some ⟨b_1664, 0, none⟩)), (.pointer (some ⟨b_1665, 0, none⟩))])) keyT_9 Try.underlying94 zeroT_93 rfl rfl rfl .here (by rfl)) ?_
        refine WL.callD (dd := 36) rfl rfl rfl (run_callv (l := []) Try.call66 rfl .nil) (.nil : Sel [mapA b_1694 Value.string (fun x => x) [(⟨#[43]⟩, (.func (.func 64) #[] #[(.pointer (some ⟨b_1664, 0, none⟩)), (.pointer (some ⟨b_1665, 0, none⟩))])), (⟨#[45]⟩, (.func (.func 65) #[] #[(.pointer (some ⟨b_1664, 0, none⟩)), (.pointer (some ⟨b_1665, 0, none⟩))])), (⟨#[42]⟩, (.func (.func 66) #[] #[(.pointer (some ⟨b_1664, 0, none⟩)), (.pointer (some ⟨b_1665, 0, none⟩))])), (⟨#[47]⟩, (.func (.func 67) #[] #[(.pointer (some ⟨b_1664, 0, none⟩)), (.pointer (some ⟨b_1665, 0, none⟩))]))], stb b_1666 28 [(.int .i64 0), (.int .i64 0)], stb b_1665 28 [(.int .i64 y_1612.fN), (.int .i64 y_1612.fD)], stb b_1664 28 [(.int .i64 x_1611.fN), (.int .i64 x_1611.fD)]] [] [mapA b_1694 Value.string (fun x => x) [(⟨#[43]⟩, (.func (.func 64) #[] #[(.pointer (some ⟨b_1664, 0, none⟩)), (.pointer (some ⟨b_1665, 0, none⟩))])), (⟨#[45]⟩, (.func (.func 65) #[] #[(.pointer (some ⟨b_1664, 0, none⟩)), (.pointer (some ⟨b_1665, 0, none⟩))])), (⟨#[42]⟩, (.func (.func 66) #[] #[(.pointer (some ⟨b_1664, 0, none⟩)), (.pointer (some ⟨b_1665, 0, none⟩))])), (⟨#[47]⟩, (.func (.func 67) #[] #[(.pointer (some ⟨b_1664, 0, none⟩)), (.pointer (some ⟨b_1665, 0, none⟩))]))], stb b_1666 28 [(.int .i64 0), (.int .i64 0)], stb b_1665 28 [(.int .i64 y_1612.fN), (.int .i64 y_1612.fD)], stb b_1664 28 [(.int .i64 x_1611.fN), (.int .i64 x_1611.fD)]]) (fun w hw => by have pz := (hz.call hw (.nil : Sel [mapA b_1694 Value.string (fun x => x) [(⟨#[43]⟩, (.func (.func 64) #[] #[(.pointer (some ⟨b_1664, 0, none⟩)), (.pointer (some ⟨b_1665, 0, none⟩))])), (⟨#[45]⟩, (.func (.func 65) #[] #[(.pointer (some ⟨b_1664, 0, none⟩)), (.pointer (some ⟨b_1665, 0, none⟩))])), (⟨#[42]⟩, (.func (.func 66) #[] #[(.pointer (some ⟨b_1664, 0, none⟩)), (.pointer (some ⟨b_1665, 0, none⟩))])), (⟨#[47]⟩, (.func (.func 67) #[] #[(.pointer (some ⟨b_1664, 0, none⟩)), (.pointer (some ⟨b_1665, 0, none⟩))]))], stb b_1666 28 [(.int .i64 0), (.int .i64 0)], stb b_1665 28 [(.int .i64 y_1612.fN), (.int .i64 y_1612.fD)], stb b_1664 28 [(.int .i64 x_1611.fN), (.int .i64 x_1611.fD)]] [] [mapA b_1694 Value.string (fun x => x) [(⟨#[43]⟩, (.func (.func 64) #[] #[(.pointer (some ⟨b_1664, 0, none⟩)), (.pointer (some ⟨b_1665, 0, none⟩))])), (⟨#[45]⟩, (.func (.func 65) #[] #[(.pointer (some ⟨b_1664, 0, none⟩)), (.pointer (some ⟨b_1665, 0, none⟩))])), (⟨#[42]⟩, (.func (.func 66) #[] #[(.pointer (some ⟨b_1664, 0, none⟩)), (.pointer (some ⟨b_1665, 0, none⟩))])), (⟨#[47]⟩, (.func (.func 67) #[] #[(.pointer (some ⟨b_1664, 0, none⟩)), (.pointer (some ⟨b_1665, 0, none⟩))]))], stb b_1666 28 [(.int .i64 0), (.int .i64 0)], stb b_1665 28 [(.int .i64 y_1612.fN), (.int .i64 y_1612.fD)], stb b_1664 28 [(.int .i64 x_1611.fN), (.int .i64 x_1611.fD)]])).lend hw (.nil : Sel [mapA b_1694 Value.string (fun x => x) [(⟨#[43]⟩, (.func (.func 64) #[] #[(.pointer (some ⟨b_1664, 0, none⟩)), (.pointer (some ⟨b_1665, 0, none⟩))])), (⟨#[45]⟩, (.func (.func 65) #[] #[(.pointer (some ⟨b_1664, 0, none⟩)), (.pointer (some ⟨b_1665, 0, none⟩))])), (⟨#[42]⟩, (.func (.func 66) #[] #[(.pointer (some ⟨b_1664, 0, none⟩)), (.pointer (some ⟨b_1665, 0, none⟩))])), (⟨#[47]⟩, (.func (.func 67) #[] #[(.pointer (some ⟨b_1664, 0, none⟩)), (.pointer (some ⟨b_1665, 0, none⟩))]))], stb b_1666 28 [(.int .i64 0), (.int .i64 0)], stb b_1665 28 [(.int .i64 y_1612.fN), (.int .i64 y_1612.fD)], stb b_1664 28 [(.int .i64 x_1611.fN), (.int .i64 x_1611.fD)]] [] [mapA b_1694 Value.string (fun x => x) [(⟨#[43]⟩, (.func (.func 64) #[] #[(.pointer (some ⟨b_1664, 0, none⟩)), (.pointer (some ⟨b_1665, 0, none⟩))])), (⟨#[45]⟩, (.func (.func 65) #[] #[(.pointer (some ⟨b_1664, 0, none⟩)), (.pointer (some ⟨b_1665, 0, none⟩))])), (⟨#[42]⟩, (.func (.func 66) #[] #[(.pointer (some ⟨b_1664, 0, none⟩)), (.pointer (some ⟨b_1665, 0, none⟩))])), (⟨#[47]⟩, (.func (.func 67) #[] #[(.pointer (some ⟨b_1664, 0, none⟩)), (.pointer (some ⟨b_1665, 0, none⟩))]))], stb b_1666 28 [(.int .i64 0), (.int .i64 0)], stb b_1665 28 [(.int .i64 y_1612.fN), (.int .i64 y_1612.fD)], stb b_1664 28 [(.int .i64 x_1611.fN), (.int .i64 x_1611.fD)]]) (B := [stb b_1664 28 [(.int .i64 x_1611.fN), (.int .i64 x_1611.fD)], stb b_1665 28 [(.int .i64 y_1612.fN), (.int .i64 y_1612.fD)]]) (fun _ hx' => ((.cons (.there (.there (.there .here))) (.cons (.there (.there .here)) .nil)) : Sel _ [stb b_1664 28 [(.int .i64 x_1611.fN), (.int .i64 x_1611.fD)], stb b_1665 28 [(.int .i64 y_1612.fN), (.int .i64 y_1612.fD)]] _).mem hx'); exact w_rat_do_3 (Z := _) (A_1647 := ⟨b_1664, 0, none⟩) (A_1650 := ⟨b_1665, 0, none⟩) (c_1649 := x_1611) (c_1652 := y_1612) (r := x_1695) w pz ((hw.lent (.nil : Sel [mapA b_1694 Value.string (fun x => x) [(⟨#[43]⟩, (.func (.func 64) #[] #[(.pointer (some ⟨b_1664, 0, none⟩)), (.pointer (some ⟨b_1665, 0, none⟩))])), (⟨#[45]⟩, (.func (.func 65) #[] #[(.pointer (some ⟨b_1664, 0, none⟩)), (.pointer (some ⟨b_1665, 0, none⟩))])), (⟨#[42]⟩, (.func (.func 66) #[] #[(.pointer (some ⟨b_1664, 0, none⟩)), (.pointer (some ⟨b_1665, 0, none⟩))])), (⟨#[47]⟩, (.func (.func 67) #[] #[(.pointer (some ⟨b_1664, 0, none⟩)), (.pointer (some ⟨b_1665, 0, none⟩))]))], stb b_1666 28 [(.int .i64 0), (.int .i64 0)], stb b_1665 28 [(.int .i64 y_1612.fN), (.int .i64 y_1612.fD)], stb b_1664 28 [(.int .i64 x_1611.fN), (.int .i64 x_1611.fD)]] [] [mapA b_1694 Value.string (fun x => x) [(⟨#[43]⟩, (.func (.func 64) #[] #[(.pointer (some ⟨b_1664, 0, none⟩)), (.pointer (some ⟨b_1665, 0, none⟩))])), (⟨#[45]⟩, (.func (.func 65) #[] #[(.pointer (some ⟨b_1664, 0, none⟩)), (.pointer (some ⟨b_1665, 0, none⟩))])), (⟨#[42]⟩, (.func (.func 66) #[] #[(.pointer (some ⟨b_1664, 0, none⟩)), (.pointer (some ⟨b_1665, 0, none⟩))])), (⟨#[47]⟩, (.func (.func 67) #[] #[(.pointer (some ⟨b_1664, 0, none⟩)), (.pointer (some ⟨b_1665, 0, none⟩))]))], stb b_1666 28 [(.int .i64 0), (.int .i64 0)], stb b_1665 28 [(.int .i64 y_1612.fN), (.int .i64 y_1612.fD)], stb b_1664 28 [(.int .i64 x_1611.fN), (.int .i64 x_1611.fD)]]) (B := [stb b_1664 28 [(.int .i64 x_1611.fN), (.int .i64 x_1611.fD)], stb b_1665 28 [(.int .i64 y_1612.fN), (.int .i64 y_1612.fD)]]) (fun _ hx' => ((.cons (.there (.there (.there .here))) (.cons (.there (.there .here)) .nil)) : Sel _ [stb b_1664 28 [(.int .i64 x_1611.fN), (.int .i64 x_1611.fD)], stb b_1665 28 [(.int .i64 y_1612.fN), (.int .i64 y_1612.fD)]] _).mem hx') (.head _) _).stb) ((hw.lent (.nil : Sel [mapA b_1694 Value.string (fun x => x) [(⟨#[43]⟩, (.func (.func 64) #[] #[(.pointer (some ⟨b_1664, 0, none⟩)), (.pointer (some ⟨b_1665, 0, none⟩))])), (⟨#[45]⟩, (.func (.func 65) #[] #[(.pointer (some ⟨b_1664, 0, none⟩)), (.pointer (some ⟨b_1665, 0, none⟩))])), (⟨#[42]⟩, (.func (.func 66) #[] #[(.pointer (some ⟨b_1664, 0, none⟩)), (.pointer (some ⟨b_1665, 0, none⟩))])), (⟨#[47]⟩, (.func (.func 67) #[] #[(.pointer (some ⟨b_1664, 0, none⟩)), (.pointer (some ⟨b_1665, 0, none⟩))]))], stb b_1666 28 [(.int .i64 0), (.int .i64 0)], stb b_1665 28 [(.int .i64 y_1612.fN), (.int .i64 y_1612.fD)], stb b_1664 28 [(.int .i64 x_1611.fN), (.int .i64 x_1611.fD)]] [] [mapA b_1694 Value.string (fun x => x) [(⟨#[43]⟩, (.func (.func 64) #[] #[(.pointer (some ⟨b_1664, 0, none⟩)), (.pointer (some ⟨b_1665, 0, none⟩))])), (⟨#[45]⟩, (.func (.func 65) #[] #[(.pointer (some ⟨b_1664, 0, none⟩)), (.pointer (some ⟨b_1665, 0, none⟩))])), (⟨#[42]⟩, (.func (.func 66) #[] #[(.pointer (some ⟨b_1664, 0, none⟩)), (.pointer (some ⟨b_1665, 0, none⟩))])), (⟨#[47]⟩, (.func (.func 67) #[] #[(.pointer (some ⟨b_1664, 0, none⟩)), (.pointer (some ⟨b_1665, 0, none⟩))]))], stb b_1666 28 [(.int .i64 0), (.int .i64 0)], stb b_1665 28 [(.int .i64 y_1612.fN), (.int .i64 y_1612.fD)], stb b_1664 28 [(.int .i64 x_1611.fN), (.int .i64 x_1611.fD)]]) (B := [stb b_1664 28 [(.int .i64 x_1611.fN), (.int .i64 x_1611.fD)], stb b_1665 28 [(.int .i64 y_1612.fN), (.int .i64 y_1612.fD)]]) (fun _ hx' => ((.cons (.there (.there (.there .here))) (.cons (.there (.there .here)) .nil)) : Sel _ [stb b_1664 28 [(.int .i64 x_1611.fN), (.int .i64 x_1611.fD)], stb b_1665 28 [(.int .i64 y_1612.fN), (.int .i64 y_1612.fD)]] _).mem hx') (.tail _ (.head _)) _).stb) hx_1696) ?_
        refine WL.quiet (d := 37) rfl rfl rfl (q_extract rfl rfl) ?_
        refine WL.quiet (d := 38) rfl rfl rfl (q_extract rfl rfl) ?_
        refine WL.callD (dd := 39) rfl rfl rfl (run_call (l := [.tmp 37, .tmp 38]) Try.call38 (.cons rfl (.cons rfl .nil))) (.nil : Sel [mapA b_1694 Value.string (fun x => x) [(⟨#[43]⟩, (.func (.func 64) #[] #[(.pointer (some ⟨b_1664, 0, none⟩)), (.pointer (some ⟨b_1665, 0, none⟩))])), (⟨#[45]⟩, (.func (.func 65) #[] #[(.pointer (some ⟨b_1664, 0, none⟩)), (.pointer (some ⟨b_1665, 0, none⟩))])), (⟨#[42]⟩, (.func (.func 66) #[] #[(.pointer (some ⟨b_1664, 0, none⟩)), (.pointer (some ⟨b_1665, 0, none⟩))])), (⟨#[47]⟩, (.func (.func 67) #[] #[(.pointer (some ⟨b_1664, 0, none⟩)), (.pointer (some ⟨b_1665, 0, none⟩))]))], stb b_1666 28 [(.int .i64 0), (.int .i64 0)], stb b_1665 28 [(.int .i64 y_1612.fN), (.int .i64 y_1612.fD)], stb b_1664 28 [(.int .i64 x_1611.fN), (.int .i64 x_1611.fD)]] [] [mapA b_1694 Value.string (fun x => x) [(⟨#[43]⟩, (.func (.func 64) #[] #[(.pointer (some ⟨b_1664, 0, none⟩)), (.pointer (some ⟨b_1665, 0, none⟩))])), (⟨#[45]⟩, (.func (.func 65) #[] #[(.pointer (some ⟨b_1664, 0, none⟩)), (.pointer (some ⟨b_1665, 0, none⟩))])), (⟨#[42]⟩, (.func (.func 66) #[] #[(.pointer (some ⟨b_1664, 0, none⟩)), (.pointer (some ⟨b_1665, 0, none⟩))])), (⟨#[47]⟩, (.func (.func 67) #[] #[(.pointer (some ⟨b_1664, 0, none⟩)), (.pointer (some ⟨b_1665, 0, none⟩))]))], stb b_1666 28 [(.int .i64 0), (.int .i64 0)], stb b_1665 28 [(.int .i64 y_1612.fN), (.int .i64 y_1612.fD)], stb b_1664 28 [(.int .i64 x_1611.fN), (.int .i64 x_1611.fD)]]) (fun w hw => by have pz := (hz.call hw (.nil : Sel [mapA b_1694 Value.string (fun x => x) [(⟨#[43]⟩, (.func (.func 64) #[] #[(.pointer (some ⟨b_1664, 0, none⟩)), (.pointer (some ⟨b_1665, 0, none⟩))])), (⟨#[45]⟩, (.func (.func 65) #[] #[(.pointer (some ⟨b_1664, 0, none⟩)), (.pointer (some ⟨b_1665, 0, none⟩))])), (⟨#[42]⟩, (.func (.func 66) #[] #[(.pointer (some ⟨b_1664, 0, none⟩)), (.pointer (some ⟨b_1665, 0, none⟩))])), (⟨#[47]⟩, (.func (.func 67) #[] #[(.pointer (some ⟨b_1664, 0, none⟩)), (.pointer (some ⟨b_1665, 0, none⟩))]))], stb b_1666 28 [(.int .i64 0), (.int .i64 0)], stb b_1665 28 [(.int .i64 y_1612.fN), (.int .i64 y_1612.fD)], stb b_1664 28 [(.int .i64 x_1611.fN), (.int .i64 x_1611.fD)]] [] [mapA b_1694 Value.string (fun x => x) [(⟨#[43]⟩, (.func (.func 64) #[] #[(.pointer (some ⟨b_1664, 0, none⟩)), (.pointer (some ⟨b_1665, 0, none⟩))])), (⟨#[45]⟩, (.func (.func 65) #[] #[(.pointer (some ⟨b_1664, 0, none⟩)), (.pointer (some ⟨b_1665, 0, none⟩))])), (⟨#[42]⟩, (.func (.func 66) #[] #[(.pointer (some ⟨b_1664, 0, none⟩)), (.pointer (some ⟨b_1665, 0, none⟩))])), (⟨#[47]⟩, (.func (.func 67) #[] #[(.pointer (some ⟨b_1664, 0, none⟩)), (.pointer (some ⟨b_1665, 0, none⟩))]))], stb b_1666 28 [(.int .i64 0), (.int .i64 0)], stb b_1665 28 [(.int .i64 y_1612.fN), (.int .i64 y_1612.fD)], stb b_1664 28 [(.int .i64 x_1611.fN), (.int .i64 x_1611.fD)]])); exact w_rat_Make (Z := _)  (n_22 := x_1695.1) (d_23 := x_1695.2) (r := x_1697) w pz  hx_1698) ?_
        refine WL.quiet (d := 40) rfl rfl rfl (q_extract rfl rfl) ?_
        refine WL.quiet (d := 41) rfl rfl rfl (q_extract rfl rfl) ?_
        refine WL.eff0 rfl rfl (e_store (vs := [(.int .i64 x_1697.1.fN), (.int .i64 x_1697.1.fD)]) (ds := [(.int .i64 x_1697.1.fN), (.int .i64 x_1697.1.fD)]) sizT_28 rfl rfl rfl rfl (oc_cons rfl (oc_cons rfl oc_nil)) (.there .here) (Nat.le_of_ble_eq_true rfl) rfl) ?_
        refine WL.quiet (d := 7) rfl rfl rfl (q_assign rfl) ?_
        refine WL.nil ?_
        refine WX.then ?_
        refine WC.ret ?_
        obtain rfl := Option.some.inj h
        refine WX.bpRet Try.results39 (.agg rfl aggT_28 rfl (rd_all .here) (.tmp rfl .nil)) (fun w hw => ?_)
        exact ⟨ret2 rfl rfl, hw.sub .nil⟩
/-- rat.Mul -/
def m_rat_Mul (x_1603 : Sapi_Rat) (y_1604 : Sapi_Rat) : Option (Sapi_Rat × Int) :=
  (m_rat_dob x_1603 y_1604).bind fun x_1709 => some (x_1709.1, x_1709.2)

set_option maxRecDepth 20000 in
theorem w_rat_Mul (Z : Zp)   (x_1603 : Sapi_Rat) (y_1604 : Sapi_Rat) (r : Sapi_Rat × Int) (w₀ : World) (hz : PZ [] w₀ Z)
    (h : m_rat_Mul x_1603 y_1604 = some r) :
    Calls Try.prog 16 #[(.agg #[(.int .i64 x_1603.fN), (.int .i64 x_1603.fD)]), (.agg #[(.int .i64 y_1604.fN), (.int .i64 y_1604.fD)])] w₀ fun e w' => e = .returned (.tuple #[(.agg #[(.int .i64 r.1.fN), (.int .i64 r.1.fD)]), (.int .i64 r.2)]) ∧ Hp [] w₀ w' [] := by
  unfold m_rat_Mul at h
  refine Calls.ofWC (vs := [(.agg #[(.int .i64 x_1603.fN), (.int .i64 x_1603.fD)]), (.agg #[(.int .i64 y_1604.fN), (.int .i64 y_1604.fD)])]) (pre := []) (env := [(0, (.agg #[(.int .i64 x_1603.fN), (.int .i64 x_1603.fD)])), (1, (.agg #[(.int .i64 y_1604.fN), (.int .i64 y_1604.fD)]))]) Try.func16 rfl Try.ntmps16 rfl (Hp.nil w₀ _) rfl ?_
  refine WC.seq ?_
  refine WC.region ?_
  refine WL.new (dd := 2) rfl rfl rfl (e_box (cs := [(.int .i64 x_1603.fN), (.int .i64 x_1603.fD)]) rfl rfl) ?_
  intro b_1706 _
  refine WL.new (dd := 3) rfl rfl rfl (e_box (cs := [(.int .i64 y_1604.fN), (.int .i64 y_1604.fD)]) rfl rfl) ?_
  intro b_1707 _
  refine WL.new (dd := 4) rfl rfl rfl (e_alloc (cs := [(.int .i64 0), (.int .i64 0)]) zeroT_28 rfl) ?_
  intro b_1708 _
  refine WL.quiet (d := 5) rfl rfl rfl (q_assign rfl) ?_
  refine WL.nil ?_
  refine WX.then ?_
  refine WC.seq ?_
  obtain ⟨x_1709, hx_1710, h⟩ := bind_elim h
  refine WC.region ?_
  refine WL.quiet (d := 6) rfl rfl rfl (q_loadA (cs := [(.int .i64 x_1603.fN), (.int .i64 x_1603.fD)]) aggT_28 rfl rfl (rd_all (.there (.there .here)))) ?_
  refine WL.quiet (d := 7) rfl rfl rfl (q_loadA (cs := [(.int .i64 y_1604.fN), (.int .i64 y_1604.fD)]) aggT_28 rfl rfl (rd_all (.there .here))) ?_
  refine WL.callD (dd := 8) rfl rfl rfl (run_call (l := [.const (.string ⟨#[42]⟩), .tmp 6, .tmp 7]) Try.call39 (.cons rfl (.cons rfl (.cons rfl .nil)))) (.nil : Sel [stb b_1708 28 [(.int .i64 0), (.int .i64 0)], stb b_1707 28 [(.int .i64 y_1604.fN), (.int .i64 y_1604.fD)], stb b_1706 28 [(.int .i64 x_1603.fN), (.int .i64 x_1603.fD)]] [] [stb b_1708 28 [(.int .i64 0), (.int .i64 0)], stb b_1707 28 [(.int .i64 y_1604.fN), (.int .i64 y_1604.fD)], stb b_1706 28 [(.int .i64 x_1603.fN), (.int .i64 x_1603.fD)]]) (fun w hw => by have pz := (hz.call hw (.nil : Sel [stb b_1708 28 [(.int .i64 0), (.int .i64 0)], stb b_1707 28 [(.int .i64 y_1604.fN), (.int .i64 y_1604.fD)], stb b_1706 28 [(.int .i64 x_1603.fN), (.int .i64 x_1603.fD)]] [] [stb b_1708 28 [(.int .i64 0), (.int .i64 0)], stb b_1707 28 [(.int .i64 y_1604.fN), (.int .i64 y_1604.fD)], stb b_1706 28 [(.int .i64 x_1603.fN), (.int .i64 x_1603.fD)]])); exact w_rat_dob (Z := _)  (x_1611 := x_1603) (y_1612 := y_1604) (r := x_1709) w pz  hx_1710) ?_
  refine WL.quiet (d := 9) rfl rfl rfl (q_extract rfl rfl) ?_
  refine WL.quiet (d := 10) rfl rfl rfl (q_extract rfl rfl) ?_
  refine WL.eff0 rfl rfl (e_store (vs := [(.int .i64 x_1709.1.fN), (.int .i64 x_1709.1.fD)]) (ds := [(.int .i64 x_1709.1.fN), (.int .i64 x_1709.1.fD)]) sizT_28 rfl rfl rfl rfl (oc_cons rfl (oc_cons rfl oc_nil)) .here (Nat.le_of_ble_eq_true rfl) rfl) ?_
  refine WL.quiet (d := 5) rfl rfl rfl (q_assign rfl) ?_
  refine WL.nil ?_
  refine WX.then ?_
  refine WC.ret ?_
  obtain rfl := Option.some.inj h
  refine WX.bpRet Try.results16 (.agg rfl aggT_28 rfl (rd_all .here) (.tmp rfl .nil)) (fun w hw => ?_)
  exact ⟨ret2 rfl rfl, hw.sub .nil⟩
/-- (*curve.calc).do -/
def m_curve_calc_do (k_1734 : Scurve_calc) (f_1737 : Sapi_Rat → Sapi_Rat → Option (Sapi_Rat × Int)) (x_1740 : Sapi_Rat) (y_1741 : Sapi_Rat) : Option (Sapi_Rat × Scurve_calc) :=
  if decide (k_1734.fE ≠ 0) then some ((⟨0, 0⟩ : Sapi_Rat), k_1734) else (f_1737 x_1740 y_1741).bind fun x_1764 => some (x_1764.1, (⟨x_1764.2⟩ : Scurve_calc))

set_option maxRecDepth 20000 in
theorem w_curve_calc_do (Z : Zp)  (b_1733 : Nat) (fid_1735 : FuncId) (fcaps_1736 : List Value) (k_1734 : Scurve_calc) (f_1737 : Sapi_Rat → Sapi_Rat → Option (Sapi_Rat × Int)) (x_1740 : Sapi_Rat) (y_1741 : Sapi_Rat) (r : Sapi_Rat × Scurve_calc) (w₀ : World) (hz : PZ (fps [stb b_1733 74 [(.int .i64 k_1734.fE)]]) w₀ Z)
    (hcf_1738 : ∀ args w, (callFunc fid_1735 args).run Try.prog w = .ok (.enter fid_1735 args) w)
    (hfn_1739 : ∀ w : World, PZ [] w Z → ∀ (x0 : Sapi_Rat) (x1 : Sapi_Rat) (r : Sapi_Rat × Int), f_1737 x0 x1 = some r → Calls Try.prog fid_1735 (([(.agg #[(.int .i64 x0.fN), (.int .i64 x0.fD)]), (.agg #[(.int .i64 x1.fN), (.int .i64 x1.fD)])] : List Value) ++ fcaps_1736).toArray w fun e w' => e = .returned (.tuple #[(.agg #[(.int .i64 r.1.fN), (.int .i64 r.1.fD)]), (.int .i64 r.2)]) ∧ Hp [] w w' [])
    (h : m_curve_calc_do k_1734 f_1737 x_1740 y_1741 = some r)
    (hown : Hp (fps [stb b_1733 74 [(.int .i64 k_1734.fE)]]) w₀ w₀ [stb b_1733 74 [(.int .i64 k_1734.fE)]]) :
    Calls Try.prog 47 #[(.pointer (some ⟨b_1733, 0, none⟩)), (.func (.func fid_1735) #[] (fcaps_1736).toArray), (.agg #[(.int .i64 x_1740.fN), (.int .i64 x_1740.fD)]), (.agg #[(.int .i64 y_1741.fN), (.int .i64 y_1741.fD)])] w₀ fun e w' => e = .returned (.agg #[(.int .i64 r.1.fN), (.int .i64 r.1.fD)]) ∧ Hp (fps [stb b_1733 74 [(.int .i64 k_1734.fE)]]) w₀ w' [stb b_1733 74 [(.int .i64 r.2.fE)]] := by
  unfold m_curve_calc_do at h
  refine Calls.ofWC (vs := [(.pointer (some ⟨b_1733, 0, none⟩)), (.func (.func fid_1735) #[] (fcaps_1736).toArray), (.agg #[(.int .i64 x_1740.fN), (.int .i64 x_1740.fD)]), (.agg #[(.int .i64 y_1741.fN), (.int .i64 y_1741.fD)])]) (pre := [stb b_1733 74 [(.int .i64 k_1734.fE)]]) (env := [(0, (.pointer (some ⟨b_1733, 0, none⟩))), (1, (.func (.func fid_1735) #[] (fcaps_1736).toArray)), (2, (.agg #[(.int .i64 x_1740.fN), (.int .i64 x_1740.fD)])), (3, (.agg #[(.int .i64 y_1741.fN), (.int .i64 y_1741.fD)]))]) Try.func47 rfl Try.ntmps47 rfl (hown) rfl ?_
  refine WC.seq ?_
  refine WC.region ?_
  refine WL.new (dd := 6) rfl rfl rfl (e_box (cs := [(.int .i64 x_1740.fN), (.int .i64 x_1740.fD)]) rfl rfl) ?_
  intro b_1759 _
  refine WL.new (dd := 7) rfl rfl rfl (e_box (cs := [(.int .i64 y_1741.fN), (.int .i64 y_1741.fD)]) rfl rfl) ?_
  intro b_1760 _
  refine WL.new (dd := 8) rfl rfl rfl (e_alloc (cs := [(.int .i64 0), (.int .i64 0)]) zeroT_28 rfl) ?_
  intro b_1761 _
  refine WL.nil ?_
  refine WX.then ?_
  refine WC.seq ?_
  refine WC.seq ?_
  refine WC.region ?_
  refine WL.quiet (d := 11) rfl rfl rfl (q_move rfl) ?_
  refine WL.quiet (d := 12) rfl rfl rfl (q_nilCheck rfl) ?_
  refine WL.quiet (d := 13) rfl rfl rfl (q_fieldAddr fo_74_0 rfl rfl) ?_
  refine WL.quiet (d := 14) rfl rfl rfl (q_load1 oneT_30 rfl (rd_stb (.there (.there (.there .here))) rfl)) ?_
  refine WL.quiet (d := 15) rfl rfl rfl (q_neq rfl rfl) ?_
  refine WL.nil ?_
  refine WX.then ?_
  refine WC.cond rfl (fun hb_1763 => ?_) (fun hb_1763 => ?_)
  · replace h := ite_t h hb_1763
    refine WC.seq ?_
    refine WC.region ?_
    refine WL.quiet (d := 16) rfl rfl rfl (q_build (v := (.agg #[(.int .i64 0), (.int .i64 0)])) (Eos.parts (l := []) .nil []) (fun _ => by kernel_rfl)) ?_
    refine WL.eff0 rfl rfl (e_store (vs := [(.int .i64 0), (.int .i64 0)]) (ds := [(.int .i64 0), (.int .i64 0)]) sizT_28 rfl rfl rfl rfl (oc_cons rfl (oc_cons rfl oc_nil)) .here (Nat.le_of_ble_eq_true rfl) rfl) ?_
    refine WL.nil ?_
    refine WX.then ?_
    refine WC.ret ?_
    refine WX.thenRet ?_
    obtain rfl := Option.some.inj h
    refine WX.bpRet Try.results47 (.agg rfl aggT_28 rfl (rd_all .here) .nil) (fun w hw => ?_)
    exact ⟨ret1 rfl, hw.sub (.cons (.there (.there (.there .here))) .nil)⟩
  · replace h := ite_f h hb_1763
    refine WC.skip ?_
    refine WX.then ?_
    refine WC.seq ?_
    obtain ⟨x_1764, hx_1765, h⟩ := bind_elim h
    refine WC.region ?_
    refine WL.quiet (d := 18) rfl rfl rfl (q_move rfl) ?_
    refine WL.quiet (d := 19) rfl rfl rfl (q_loadA (cs := [(.int .i64 x_1740.fN), (.int .i64 x_1740.fD)]) aggT_28 rfl rfl (rd_all (.there (.there .here)))) ?_
    refine WL.quiet (d := 20) rfl rfl rfl (q_loadA (cs := [(.int .i64 y_1741.fN), (.int .i64 y_1741.fD)]) aggT_28 rfl rfl (rd_all (.there .here))) ?_
    refine WL.callD (dd := 21) rfl rfl rfl (run_callv (l := [.tmp 19, .tmp 20]) (f := fid_1735) (caps := fcaps_1736) hcf_1738 rfl (.cons rfl (.cons rfl .nil))) .nil (fun w hw => hfn_1739 w (hz.now hw) x_1740 y_1741 x_1764  hx_1765) ?_
    refine WL.quiet (d := 17) rfl rfl rfl (q_move rfl) ?_
    refine WL.quiet (d := 22) rfl rfl rfl (q_extract rfl rfl) ?_
    refine WL.quiet (d := 23) rfl rfl rfl (q_extract rfl rfl) ?_
    refine WL.new (dd := 9) rfl rfl rfl (e_alloc (cs := [(.int .i64 0), (.int .i64 0)]) zeroT_28 rfl) ?_
    intro b_1767 _
    refine WL.eff0 rfl rfl (e_store (vs := [(.int .i64 x_1764.1.fN), (.int .i64 x_1764.1.fD)]) (ds := [(.int .i64 x_1764.1.fN), (.int .i64 x_1764.1.fD)]) sizT_28 rfl rfl rfl rfl (oc_cons rfl (oc_cons rfl oc_nil)) .here (Nat.le_of_ble_eq_true rfl) rfl) ?_
    refine WL.quiet (d := 10) rfl rfl rfl (q_assign rfl) ?_
    refine WL.nil ?_
    refine WX.then ?_
    refine WC.seq ?_
    refine WC.region ?_
    refine WL.quiet (d := 24) rfl rfl rfl (q_move rfl) ?_
    refine WL.quiet (d := 25) rfl rfl rfl (q_move rfl) ?_
    refine WL.quiet (d := 26) rfl rfl rfl (q_nilCheck rfl) ?_
    refine WL.quiet (d := 27) rfl rfl rfl (q_fieldAddr fo_74_0 rfl rfl) ?_
    refine WL.eff0 rfl rfl (e_store (vs := [(.int .i64 x_1764.2)]) (ds := [(.int .i64 x_1764.2)]) sizT_30 rfl rfl rfl rfl (oc_cons rfl oc_nil) (.there (.there (.there (.there .here)))) (Nat.le_of_ble_eq_true rfl) rfl) ?_
    refine WL.nil ?_
    refine WX.then ?_
    refine WC.seq ?_
    refine WC.region ?_
    refine WL.quiet (d := 28) rfl rfl rfl (q_loadA (cs := [(.int .i64 x_1764.1.fN), (.int .i64 x_1764.1.fD)]) aggT_28 rfl rfl (rd_all (.there .here))) ?_
    refine WL.eff0 rfl rfl (e_store (vs := [(.int .i64 x_1764.1.fN), (.int .i64 x_1764.1.fD)]) (ds := [(.int .i64 x_1764.1.fN), (.int .i64 x_1764.1.fD)]) sizT_28 rfl rfl rfl rfl (oc_cons rfl (oc_cons rfl oc_nil)) (.there (.there .here)) (Nat.le_of_ble_eq_true rfl) rfl) ?_
    refine WL.nil ?_
    refine WX.then ?_
    refine WC.ret ?_
    obtain rfl := Option.some.inj h
    refine WX.bpRet Try.results47 (.agg rfl aggT_28 rfl (rd_all .here) .nil) (fun w hw => ?_)
    exact ⟨ret1 rfl, hw.sub (.cons (.there .here) .nil)⟩
/-- (*curve.calc).value -/
def m_curve_calc_value (k_1769 : Scurve_calc) (b_1770 : Sapi_Bucket) (t_1771 : Sapi_Rat) : Option (Sapi_Rat × Scurve_calc) :=
  (m_curve_calc_do k_1769 (fun (y0 : Sapi_Rat) (y1 : Sapi_Rat) => m_rat_Mul y0 y1) b_1770.fRate t_1771).bind fun x_1790 => (m_curve_calc_do x_1790.2 (fun (y0 : Sapi_Rat) (y1 : Sapi_Rat) => m_rat_Add y0 y1) b_1770.fBurst x_1790.1).bind fun x_1792 => some (x_1792.1, x_1792.2)

set_option maxRecDepth 20000 in
theorem w_curve_calc_value (Z : Zp)  (b_1768 : Nat) (k_1769 : Scurve_calc) (b_1770 : Sapi_Bucket) (t_1771 : Sapi_Rat) (r : Sapi_Rat × Scurve_calc) (w₀ : World) (hz : PZ (fps [stb b_1768 74 [(.int .i64 k_1769.fE)]]) w₀ Z)
    (h : m_curve_calc_value k_1769 b_1770 t_1771 = some r)
    (hown : Hp (fps [stb b_1768 74 [(.int .i64 k_1769.fE)]]) w₀ w₀ [stb b_1768 74 [(.int .i64 k_1769.fE)]]) :
    Calls Try.prog 51 #[(.pointer (some ⟨b_1768, 0, none⟩)), (.agg #[(.int .i64 b_1770.fBurst.fN), (.int .i64 b_1770.fBurst.fD), (.int .i64 b_1770.fRate.fN), (.int .i64 b_1770.fRate.fD)]), (.agg #[(.int .i64 t_1771.fN), (.int .i64 t_1771.fD)])] w₀ fun e w' => e = .returned (.agg #[(.int .i64 r.1.fN), (.int .i64 r.1.fD)]) ∧ Hp (fps [stb b_1768 74 [(.int .i64 k_1769.fE)]]) w₀ w' [stb b_1768 74 [(.int .i64 r.2.fE)]] := by
  unfold m_curve_calc_value at h
  refine Calls.ofWC (vs := [(.pointer (some ⟨b_1768, 0, none⟩)), (.agg #[(.int .i64 b_1770.fBurst.fN), (.int .i64 b_1770.fBurst.fD), (.int .i64 b_1770.fRate.fN), (.int .i64 b_1770.fRate.fD)]), (.agg #[(.int .i64 t_1771.fN), (.int .i64 t_1771.fD)])]) (pre := [stb b_1768 74 [(.int .i64 k_1769.fE)]]) (env := [(0, (.pointer (some ⟨b_1768, 0, none⟩))), (1, (.agg #[(.int .i64 b_1770.fBurst.fN), (.int .i64 b_1770.fBurst.fD), (.int .i64 b_1770.fRate.fN), (.int .i64 b_1770.fRate.fD)])), (2, (.agg #[(.int .i64 t_1771.fN), (.int .i64 t_1771.fD)]))]) Try.func51 rfl Try.ntmps51 rfl (hown) rfl ?_
  refine WC.seq ?_
  refine WC.region ?_
  refine WL.new (dd := 4) rfl rfl rfl (e_box (cs := [(.int .i64 b_1770.fBurst.fN), (.int .i64 b_1770.fBurst.fD), (.int .i64 b_1770.fRate.fN), (.int .i64 b_1770.fRate.fD)]) rfl rfl) ?_
  intro b_1787 _
  refine WL.new (dd := 5) rfl rfl rfl (e_box (cs := [(.int .i64 t_1771.fN), (.int .i64 t_1771.fD)]) rfl rfl) ?_
  intro b_1788 _
  refine WL.new (dd := 6) rfl rfl rfl (e_alloc (cs := [(.int .i64 0), (.int .i64 0)]) zeroT_28 rfl) ?_
  intro b_1789 _
  refine WL.nil ?_
  refine WX.then ?_
  refine WC.seq ?_
  obtain ⟨x_1790, hx_1791, h⟩ := bind_elim h
  obtain ⟨x_1792, hx_1793, h⟩ := bind_elim h
  refine WC.draw (fun i => [7, 8, 9].contains i) [stb b_1787 42 [(.int .i64 b_1770.fBurst.fN), (.int .i64 b_1770.fBurst.fD), (.int .i64 b_1770.fRate.fN), (.int .i64 b_1770.fRate.fD)]] rfl ?_
  refine WD.pure (i := 0) (d := 7) (by kernel_rfl) rfl (readyF_of (by kernel_rfl)) (freeF_of (by kernel_rfl)) rfl rfl rfl (fun _ => q_move rfl) ?_
  refine WD.pure (i := 1) (d := 8) (by kernel_rfl) rfl (readyF_of (by kernel_rfl)) (freeF_of (by kernel_rfl)) rfl rfl rfl (fun _ => q_fieldAddr fo_42_0 rfl rfl) ?_
  refine WD.stable (i := 2) (d := 9) (by kernel_rfl) rfl (readyF_of (by kernel_rfl)) (freeF_of (by kernel_rfl)) rfl rfl rfl (Sin.of (.cons (.there (.there .here)) .nil)) (q_loadA (cs := [(.int .i64 b_1770.fBurst.fN), (.int .i64 b_1770.fBurst.fD)]) aggT_28 rfl rfl (rd_sub (s := 2) .here rfl)) ?_
  refine WD.pure (i := 3) (d := 10) (by kernel_rfl) rfl (readyF_of (by kernel_rfl)) (freeF_of (by kernel_rfl)) rfl rfl rfl (fun _ => q_move rfl) ?_
  refine WD.pure (i := 4) (d := 11) (by kernel_rfl) rfl (readyF_of (by kernel_rfl)) (freeF_of (by kernel_rfl)) rfl rfl rfl (fun _ => q_fieldAddr fo_42_1 rfl rfl) ?_
  refine WD.quiet (i := 5) (d := 12) (by kernel_rfl) rfl (readyF_of (by kernel_rfl)) (freeF_of (by kernel_rfl)) rfl rfl rfl (q_loadA (cs := [(.int .i64 b_1770.fRate.fN), (.int .i64 b_1770.fRate.fD)]) aggT_28 rfl rfl (rd_sub (s := 2) (.there (.there .here)) rfl)) ?_
  refine WD.quiet (i := 6) (d := 13) (by kernel_rfl) rfl (readyF_of (by kernel_rfl)) (freeF_of (by kernel_rfl)) rfl rfl rfl (q_loadA (cs := [(.int .i64 t_1771.fN), (.int .i64 t_1771.fD)]) aggT_28 rfl rfl (rd_all (.there .here))) ?_
  refine WD.call0 (i := 7) (dd := 14) rfl (by kernel_rfl) rfl rfl rfl (.inl ⟨rfl, (Sin.of (.cons (.there (.there (.there .here))) .nil))⟩) (run_call (l := [.tmp 10, .func 16, .tmp 12, .tmp 13]) Try.call47 (.cons rfl (.cons rfl (.cons rfl (.cons rfl .nil))))) ((.cons (.there (.there (.there .here))) .nil) : Sel [stb b_1789 28 [(.int .i64 0), (.int .i64 0)], stb b_1788 28 [(.int .i64 t_1771.fN), (.int .i64 t_1771.fD)], stb b_1787 42 [(.int .i64 b_1770.fBurst.fN), (.int .i64 b_1770.fBurst.fD), (.int .i64 b_1770.fRate.fN), (.int .i64 b_1770.fRate.fD)], stb b_1768 74 [(.int .i64 k_1769.fE)]] [stb b_1768 74 [(.int .i64 k_1769.fE)]] [stb b_1789 28 [(.int .i64 0), (.int .i64 0)], stb b_1788 28 [(.int .i64 t_1771.fN), (.int .i64 t_1771.fD)], stb b_1787 42 [(.int .i64 b_1770.fBurst.fN), (.int .i64 b_1770.fBurst.fD), (.int .i64 b_1770.fRate.fN), (.int .i64 b_1770.fRate.fD)]]) (fun w hw => by have pz := (hz.call hw ((.cons (.there (.there (.there .here))) .nil) : Sel [stb b_1789 28 [(.int .i64 0), (.int .i64 0)], stb b_1788 28 [(.int .i64 t_1771.fN), (.int .i64 t_1771.fD)], stb b_1787 42 [(.int .i64 b_1770.fBurst.fN), (.int .i64 b_1770.fBurst.fD), (.int .i64 b_1770.fRate.fN), (.int .i64 b_1770.fRate.fD)], stb b_1768 74 [(.int .i64 k_1769.fE)]] [stb b_1768 74 [(.int .i64 k_1769.fE)]] [stb b_1789 28 [(.int .i64 0), (.int .i64 0)], stb b_1788 28 [(.int .i64 t_1771.fN), (.int .i64 t_1771.fD)], stb b_1787 42 [(.int .i64 b_1770.fBurst.fN), (.int .i64 b_1770.fBurst.fD), (.int .i64 b_1770.fRate.fN), (.int .i64 b_1770.fRate.fD)]])); exact Calls.mono (w_curve_calc_do (Z := _) (b_1733 := b_1768) (fid_1735 := 16) (fcaps_1736 := []) (k_1734 := k_1769) (f_1737 := (fun (y0 : Sapi_Rat) (y1 : Sapi_Rat) => m_rat_Mul y0 y1)) (x_1740 := b_1770.fRate) (y_1741 := t_1771) (r := x_1790) w pz Try.call16 (fun w' hz' y0 y1  r  hr => w_rat_Mul (Z := _)  (x_1603 := y0) (y_1604 := y1) (r := r) w' hz'  hr) hx_1791 (hw.owns ((.cons (.there (.there (.there .here))) .nil) : Sel [stb b_1789 28 [(.int .i64 0), (.int .i64 0)], stb b_1788 28 [(.int .i64 t_1771.fN), (.int .i64 t_1771.fD)], stb b_1787 42 [(.int .i64 b_1770.fBurst.fN), (.int .i64 b_1770.fBurst.fD), (.int .i64 b_1770.fRate.fN), (.int .i64 b_1770.fRate.fD)], stb b_1768 74 [(.int .i64 k_1769.fE)]] [stb b_1768 74 [(.int .i64 k_1769.fE)]] [stb b_1789 28 [(.int .i64 0), (.int .i64 0)], stb b_1788 28 [(.int .i64 t_1771.fN), (.int .i64 t_1771.fD)], stb b_1787 42 [(.int .i64 b_1770.fBurst.fN), (.int .i64 b_1770.fBurst.fD), (.int .i64 b_1770.fRate.fN), (.int .i64 b_1770.fRate.fD)]]))) (fun _ _ h' => ⟨h'.1, trivial, h'.2⟩)) ?_
  intro _
  refine WD.call0 (i := 8) (dd := 15) rfl (by kernel_rfl) rfl rfl rfl (.inl ⟨rfl, (Sin.of (.cons (.there (.there (.there .here))) .nil))⟩) (run_call (l := [.tmp 7, .func 12, .tmp 9, .tmp 14]) Try.call47 (.cons rfl (.cons rfl (.cons rfl (.cons rfl .nil))))) ((.cons .here .nil) : Sel [stb b_1768 74 [(.int .i64 x_1790.2.fE)], stb b_1789 28 [(.int .i64 0), (.int .i64 0)], stb b_1788 28 [(.int .i64 t_1771.fN), (.int .i64 t_1771.fD)], stb b_1787 42 [(.int .i64 b_1770.fBurst.fN), (.int .i64 b_1770.fBurst.fD), (.int .i64 b_1770.fRate.fN), (.int .i64 b_1770.fRate.fD)]] [stb b_1768 74 [(.int .i64 x_1790.2.fE)]] [stb b_1789 28 [(.int .i64 0), (.int .i64 0)], stb b_1788 28 [(.int .i64 t_1771.fN), (.int .i64 t_1771.fD)], stb b_1787 42 [(.int .i64 b_1770.fBurst.fN), (.int .i64 b_1770.fBurst.fD), (.int .i64 b_1770.fRate.fN), (.int .i64 b_1770.fRate.fD)]]) (fun w hw => by have pz := (hz.call hw ((.cons .here .nil) : Sel [stb b_1768 74 [(.int .i64 x_1790.2.fE)], stb b_1789 28 [(.int .i64 0), (.int .i64 0)], stb b_1788 28 [(.int .i64 t_1771.fN), (.int .i64 t_1771.fD)], stb b_1787 42 [(.int .i64 b_1770.fBurst.fN), (.int .i64 b_1770.fBurst.fD), (.int .i64 b_1770.fRate.fN), (.int .i64 b_1770.fRate.fD)]] [stb b_1768 74 [(.int .i64 x_1790.2.fE)]] [stb b_1789 28 [(.int .i64 0), (.int .i64 0)], stb b_1788 28 [(.int .i64 t_1771.fN), (.int .i64 t_1771.fD)], stb b_1787 42 [(.int .i64 b_1770.fBurst.fN), (.int .i64 b_1770.fBurst.fD), (.int .i64 b_1770.fRate.fN), (.int .i64 b_1770.fRate.fD)]])); exact Calls.mono (w_curve_calc_do (Z := _) (b_1733 := b_1768) (fid_1735 := 12) (fcaps_1736 := []) (k_1734 := x_1790.2) (f_1737 := (fun (y0 : Sapi_Rat) (y1 : Sapi_Rat) => m_rat_Add y0 y1)) (x_1740 := b_1770.fBurst) (y_1741 := x_1790.1) (r := x_1792) w pz Try.call12 (fun w' hz' y0 y1  r  hr => w_rat_Add (Z := _)  (x_1002 := y0) (y_1003 := y1) (r := r) w' hz'  hr) hx_1793 (hw.owns ((.cons .here .nil) : Sel [stb b_1768 74 [(.int .i64 x_1790.2.fE)], stb b_1789 28 [(.int .i64 0), (.int .i64 0)], stb b_1788 28 [(.int .i64 t_1771.fN), (.int .i64 t_1771.fD)], stb b_1787 42 [(.int .i64 b_1770.fBurst.fN), (.int .i64 b_1770.fBurst.fD), (.int .i64 b_1770.fRate.fN), (.int .i64 b_1770.fRate.fD)]] [stb b_1768 74 [(.int .i64 x_1790.2.fE)]] [stb b_1789 28 [(.int .i64 0), (.int .i64 0)], stb b_1788 28 [(.int .i64 t_1771.fN), (.int .i64 t_1771.fD)], stb b_1787 42 [(.int .i64 b_1770.fBurst.fN), (.int .i64 b_1770.fBurst.fD), (.int .i64 b_1770.fRate.fN), (.int .i64 b_1770.fRate.fD)]]))) (fun _ _ h' => ⟨h'.1, trivial, h'.2⟩)) ?_
  intro _
  refine WD.last0 (i := 9) rfl (by kernel_rfl) rfl rfl rfl (by kernel_rfl) (e_store (vs := [(.int .i64 x_1792.1.fN), (.int .i64 x_1792.1.fD)]) (ds := [(.int .i64 x_1792.1.fN), (.int .i64 x_1792.1.fD)]) sizT_28 rfl rfl rfl rfl (oc_cons rfl (oc_cons rfl oc_nil)) (.there .here) (Nat.le_of_ble_eq_true rfl) rfl) ?_
  refine WD.done (by kernel_rfl) ?_
  refine WX.then ?_
  refine WC.ret ?_
  obtain rfl := Option.some.inj h
  refine WX.bpRet Try.results51 (.agg rfl aggT_28 rfl (rd_all .here) .nil) (fun w hw => ?_)
  exact ⟨ret1 rfl, hw.sub (.cons (.there .here) .nil)⟩
/-- rat.Cmp -/
def m_rat_Cmp (x_2033 : Sapi_Rat) (y_2034 : Sapi_Rat) : Option Int :=
  (m_rat_Valid x_2033).bind fun x_2081 => (if !x_2081 then some true else (m_rat_Valid y_2034).bind fun x_2083 => some (!x_2083)).bind fun b_2085 => if b_2085 then some 0 else if decide ((i64 (x_2033.fN * y_2034.fD)) < (i64 (y_2034.fN * x_2033.fD))) then some (-1) else if decide ((i64 (x_2033.fN * y_2034.fD)) > (i64 (y_2034.fN * x_2033.fD))) then some 1 else some 0

set_option maxRecDepth 20000 in
theorem w_rat_Cmp (Z : Zp)   (x_2033 : Sapi_Rat) (y_2034 : Sapi_Rat) (r : Int) (w₀ : World) (hz : PZ [] w₀ Z)
    (h : m_rat_Cmp x_2033 y_2034 = some r) :
    Calls Try.prog 17 #[(.agg #[(.int .i64 x_2033.fN), (.int .i64 x_2033.fD)]), (.agg #[(.int .i64 y_2034.fN), (.int .i64 y_2034.fD)])] w₀ fun e w' => e = .returned (.int .i64 r) ∧ Hp [] w₀ w' [] := by
  unfold m_rat_Cmp at h
  refine Calls.ofWC (vs := [(.agg #[(.int .i64 x_2033.fN), (.int .i64 x_2033.fD)]), (.agg #[(.int .i64 y_2034.fN), (.int .i64 y_2034.fD)])]) (pre := []) (env := [(0, (.agg #[(.int .i64 x_2033.fN), (.int .i64 x_2033.fD)])), (1, (.agg #[(.int .i64 y_2034.fN), (.int .i64 y_2034.fD)]))]) Try.func17 rfl Try.ntmps17 rfl (Hp.nil w₀ _) rfl ?_
  refine WC.seq ?_
  refine WC.region ?_
  refine WL.new (dd := 2) rfl rfl rfl (e_box (cs := [(.int .i64 x_2033.fN), (.int .i64 x_2033.fD)]) rfl rfl) ?_
  intro b_2068 _
  refine WL.new (dd := 3) rfl rfl rfl (e_box (cs := [(.int .i64 y_2034.fN), (.int .i64 y_2034.fD)]) rfl rfl) ?_
  intro b_2069 _
  refine WL.quiet (d := 4) rfl rfl rfl (q_assign rfl) ?_
  refine WL.nil ?_
  refine WX.then ?_
  refine WC.seq ?_
  refine WC.seq ?_
  obtain ⟨x_2081, hx_2082, h⟩ := bind_elim h
  obtain ⟨b_2085, hb_2086, h⟩ := bind_elim h
  refine WC.region ?_
  refine WL.quiet (d := 7) rfl rfl rfl (q_loadA (cs := [(.int .i64 x_2033.fN), (.int .i64 x_2033.fD)]) aggT_28 rfl rfl (rd_all (.there .here))) ?_
  refine WL.callD (dd := 8) rfl rfl rfl (run_call (l := [.tmp 7]) Try.call42 (.cons rfl .nil)) (.nil : Sel [stb b_2069 28 [(.int .i64 y_2034.fN), (.int .i64 y_2034.fD)], stb b_2068 28 [(.int .i64 x_2033.fN), (.int .i64 x_2033.fD)]] [] [stb b_2069 28 [(.int .i64 y_2034.fN), (.int .i64 y_2034.fD)], stb b_2068 28 [(.int .i64 x_2033.fN), (.int .i64 x_2033.fD)]]) (fun w hw => by have pz := (hz.call hw (.nil : Sel [stb b_2069 28 [(.int .i64 y_2034.fN), (.int .i64 y_2034.fD)], stb b_2068 28 [(.int .i64 x_2033.fN), (.int .i64 x_2033.fD)]] [] [stb b_2069 28 [(.int .i64 y_2034.fN), (.int .i64 y_2034.fD)], stb b_2068 28 [(.int .i64 x_2033.fN), (.int .i64 x_2033.fD)]])); exact w_rat_Valid (Z := _)  (x_1018 := x_2033) (r := x_2081) w pz  hx_2082) ?_
  refine WL.quiet (d := 9) rfl rfl rfl (q_not rfl) ?_
  refine WL.quiet (d := 10) rfl rfl rfl (q_move rfl) ?_
  refine WL.cut0 True [(2, (.pointer (some ⟨b_2068, 0, none⟩))), (3, (.pointer (some ⟨b_2069, 0, none⟩))), (14, (.bool b_2085))] [stb b_2069 28 [(.int .i64 y_2034.fN), (.int .i64 y_2034.fD)], stb b_2068 28 [(.int .i64 x_2033.fN), (.int .i64 x_2033.fD)]] 4 ?_ (fun _ => ?_)
  · rcases Bool.eq_false_or_eq_true (!x_2081) with hb' | hb'
    · have hg_2087 := hb'; clear hb'
      have hq_2088 := ite_t hb_2086 hg_2087
      replace hq_2088 := Option.some.inj hq_2088
      refine WL.pin (i := 10) rfl hg_2087 ?_
      refine WL.skip rfl rfl rfl ?_
      refine WL.skip rfl rfl rfl ?_
      refine WL.skip rfl rfl rfl ?_
      refine WL.quiet (d := 14) rfl rfl rfl (q_pickT rfl rfl) ?_
      exact WL.cutEnd () trivial (.cons rfl (.cons rfl (.cons (some_bool hq_2088) .nil))) (.cons .here (.cons .here .nil))
    · have hg_2089 := hb'; clear hb'
      have hq_2090 := ite_f hb_2086 hg_2089
      obtain ⟨x_2083, hx_2084, hq_2090⟩ := bind_elim hq_2090
      replace hq_2090 := Option.some.inj hq_2090
      refine WL.pin (i := 10) rfl hg_2089 ?_
      refine WL.quiet (d := 11) rfl rfl rfl (q_loadA (cs := [(.int .i64 y_2034.fN), (.int .i64 y_2034.fD)]) aggT_28 rfl rfl (rd_all .here)) ?_
      refine WL.callD (dd := 12) rfl rfl rfl (run_call (l := [.tmp 11]) Try.call42 (.cons rfl .nil)) (.nil : Sel [stb b_2069 28 [(.int .i64 y_2034.fN), (.int .i64 y_2034.fD)], stb b_2068 28 [(.int .i64 x_2033.fN), (.int .i64 x_2033.fD)]] [] [stb b_2069 28 [(.int .i64 y_2034.fN), (.int .i64 y_2034.fD)], stb b_2068 28 [(.int .i64 x_2033.fN), (.int .i64 x_2033.fD)]]) (fun w hw => by have pz := (hz.call hw (.nil : Sel [stb b_2069 28 [(.int .i64 y_2034.fN), (.int .i64 y_2034.fD)], stb b_2068 28 [(.int .i64 x_2033.fN), (.int .i64 x_2033.fD)]] [] [stb b_2069 28 [(.int .i64 y_2034.fN), (.int .i64 y_2034.fD)], stb b_2068 28 [(.int .i64 x_2033.fN), (.int .i64 x_2033.fD)]])); exact w_rat_Valid (Z := _)  (x_1018 := y_2034) (r := x_2083) w pz  hx_2084) ?_
      refine WL.quiet (d := 13) rfl rfl rfl (q_not rfl) ?_
      refine WL.quiet (d := 14) rfl rfl rfl (q_pickF rfl rfl) ?_
      exact WL.cutEnd () trivial (.cons rfl (.cons rfl (.cons (some_bool hq_2090) .nil))) (.cons .here (.cons .here .nil))
  · skip
    refine WL.nil ?_
    refine WX.then ?_
    refine WC.cond rfl (fun hb_2091 => ?_) (fun hb_2091 => ?_)
    · replace h := ite_t h hb_2091
      refine WC.seq ?_
      refine WC.region ?_
      refine WL.quiet (d := 4) rfl rfl rfl (q_assign rfl) ?_
      refine WL.nil ?_
      refine WX.then ?_
      refine WC.ret ?_
      refine WX.thenRet ?_
      obtain rfl := Option.some.inj h
      refine WX.bpRet Try.results17 (.tmp rfl .nil) (fun w hw => ?_)
      exact ⟨ret1 rfl, hw.sub .nil⟩
    · replace h := ite_f h hb_2091
      refine WC.skip ?_
      refine WX.then ?_
      refine WC.seq ?_
      refine WC.seq ?_
      refine WC.draw (fun i => [].contains i) [] rfl ?_
      refine WD.pure (i := 0) (d := 15) (by kernel_rfl) rfl (readyF_of (by kernel_rfl)) (freeF_of (by kernel_rfl)) rfl rfl rfl (fun _ => q_fieldAddr fo_28_0 rfl rfl) ?_
      refine WD.quiet (i := 1) (d := 16) (by kernel_rfl) rfl (readyF_of (by kernel_rfl)) (freeF_of (by kernel_rfl)) rfl rfl rfl (q_load1 oneT_3 rfl (rd_stb (.there .here) rfl)) ?_
      refine WD.pure (i := 2) (d := 17) (by kernel_rfl) rfl (readyF_of (by kernel_rfl)) (freeF_of (by kernel_rfl)) rfl rfl rfl (fun _ => q_fieldAddr fo_28_1 rfl rfl) ?_
      refine WD.quiet (i := 3) (d := 18) (by kernel_rfl) rfl (readyF_of (by kernel_rfl)) (freeF_of (by kernel_rfl)) rfl rfl rfl (q_load1 oneT_3 rfl (rd_stb .here rfl)) ?_
      refine WD.pure (i := 4) (d := 19) (by kernel_rfl) rfl (readyF_of (by kernel_rfl)) (freeF_of (by kernel_rfl)) rfl rfl rfl (fun _ => q_mul rfl rfl rfl) ?_
      refine WD.pure (i := 5) (d := 20) (by kernel_rfl) rfl (readyF_of (by kernel_rfl)) (freeF_of (by kernel_rfl)) rfl rfl rfl (fun _ => q_fieldAddr fo_28_0 rfl rfl) ?_
      refine WD.quiet (i := 6) (d := 21) (by kernel_rfl) rfl (readyF_of (by kernel_rfl)) (freeF_of (by kernel_rfl)) rfl rfl rfl (q_load1 oneT_3 rfl (rd_stb .here rfl)) ?_
      refine WD.pure (i := 7) (d := 22) (by kernel_rfl) rfl (readyF_of (by kernel_rfl)) (freeF_of (by kernel_rfl)) rfl rfl rfl (fun _ => q_fieldAddr fo_28_1 rfl rfl) ?_
      refine WD.quiet (i := 8) (d := 23) (by kernel_rfl) rfl (readyF_of (by kernel_rfl)) (freeF_of (by kernel_rfl)) rfl rfl rfl (q_load1 oneT_3 rfl (rd_stb (.there .here) rfl)) ?_
      refine WD.pure (i := 9) (d := 24) (by kernel_rfl) rfl (readyF_of (by kernel_rfl)) (freeF_of (by kernel_rfl)) rfl rfl rfl (fun _ => q_mul rfl rfl rfl) ?_
      refine WD.pure (i := 10) (d := 5) (by kernel_rfl) rfl (readyF_of (by kernel_rfl)) (freeF_of (by kernel_rfl)) rfl rfl rfl (fun _ => q_assign rfl) ?_
      refine WD.pure (i := 11) (d := 6) (by kernel_rfl) rfl (readyF_of (by kernel_rfl)) (freeF_of (by kernel_rfl)) rfl rfl rfl (fun _ => q_assign rfl) ?_
      refine WD.done (by kernel_rfl) ?_
      refine WX.then ?_
      refine WC.block ?_
      refine WC.seq ?_
      refine WC.region ?_
      refine WL.quiet (d := 26) rfl rfl rfl (q_move rfl) ?_
      refine WL.quiet (d := 27) rfl rfl rfl (q_move rfl) ?_
      refine WL.quiet (d := 28) rfl rfl rfl (q_lss rfl rfl) ?_
      refine WL.quiet (d := 25) rfl rfl rfl (q_assign rfl) ?_
      refine WL.nil ?_
      refine WX.then ?_
      refine WC.cond rfl (fun hb_2094 => ?_) (fun hb_2094 => ?_)
      · replace h := ite_t h hb_2094
        refine WC.seq ?_
        refine WC.region ?_
        refine WL.quiet (d := 4) rfl rfl rfl (q_assign rfl) ?_
        refine WL.nil ?_
        refine WX.then ?_
        refine WC.ret ?_
        refine WX.blockRet ?_
        refine WX.thenRet ?_
        obtain rfl := Option.some.inj h
        refine WX.bpRet Try.results17 (.tmp rfl .nil) (fun w hw => ?_)
        exact ⟨ret1 rfl, hw.sub .nil⟩
      · replace h := ite_f h hb_2094
        refine WC.seq ?_
        refine WC.region ?_
        refine WL.quiet (d := 30) rfl rfl rfl (q_move rfl) ?_
        refine WL.quiet (d := 31) rfl rfl rfl (q_move rfl) ?_
        refine WL.quiet (d := 32) rfl rfl rfl (q_gtr rfl rfl) ?_
        refine WL.quiet (d := 29) rfl rfl rfl (q_assign rfl) ?_
        refine WL.nil ?_
        refine WX.then ?_
        refine WC.cond rfl (fun hb_2095 => ?_) (fun hb_2095 => ?_)
        · replace h := ite_t h hb_2095
          refine WC.seq ?_
          refine WC.region ?_
          refine WL.quiet (d := 4) rfl rfl rfl (q_assign rfl) ?_
          refine WL.nil ?_
          refine WX.then ?_
          refine WC.ret ?_
          refine WX.blockRet ?_
          refine WX.thenRet ?_
          obtain rfl := Option.some.inj h
          refine WX.bpRet Try.results17 (.tmp rfl .nil) (fun w hw => ?_)
          exact ⟨ret1 rfl, hw.sub .nil⟩
        · replace h := ite_f h hb_2095
          refine WC.skip ?_
          refine WX.blockNormal ?_
          refine WX.then ?_
          refine WC.seq ?_
          refine WC.region ?_
          refine WL.quiet (d := 4) rfl rfl rfl (q_assign rfl) ?_
          refine WL.nil ?_
          refine WX.then ?_
          refine WC.ret ?_
          obtain rfl := Option.some.inj h
          refine WX.bpRet Try.results17 (.tmp rfl .nil) (fun w hw => ?_)
          exact ⟨ret1 rfl, hw.sub .nil⟩
def m_slices_MinFunc_api_Rat_api_Rat_L2 (x_2096 : List Sapi_Rat) (f_2102 : Sapi_Rat → Sapi_Rat → Option Int) (k_2550 : Int → Int → Option Sapi_Rat) : Nat → Int → Int → Int → Option Sapi_Rat
  | 0, _, _, _ => none
  | n_2607 + 1, i_2603, c_2604, c_2605 => if decide (i_2603 < ((x_2096.length : Nat) : Int)) then jp2 (fun (c_2631 : Int) (c_2632 : Int) => m_slices_MinFunc_api_Rat_api_Rat_L2 x_2096 f_2102 k_2550 n_2607 (i64 (i_2603 + 1)) c_2631 c_2632) fun k_2633 => chk ((0 : Int) ≤ i_2603 ∧ i_2603 < ((x_2096.length : Nat) : Int)) ((f_2102 (⟨((nth x_2096 i_2603).fN), ((nth x_2096 i_2603).fD)⟩ : Sapi_Rat) (⟨c_2604, c_2605⟩ : Sapi_Rat)).bind fun x_2640 => if decide (x_2640 < 0) then chk ((0 : Int) ≤ i_2603 ∧ i_2603 < ((x_2096.length : Nat) : Int)) (k_2633 ((nth x_2096 i_2603).fN) ((nth x_2096 i_2603).fD)) else k_2633 c_2604 c_2605) else k_2550 c_2604 c_2605
theorem m_slices_MinFunc_api_Rat_api_Rat_L2_fuel {n : Nat} {x_2096 : List Sapi_Rat} {f_2102 : Sapi_Rat → Sapi_Rat → Option Int} {k_2550 : Int → Int → Option Sapi_Rat} {i_2603 : Int} {c_2604 : Int} {c_2605 : Int} {r : Sapi_Rat} (h : m_slices_MinFunc_api_Rat_api_Rat_L2 x_2096 f_2102 k_2550 n i_2603 c_2604 c_2605 = some r) : ∃ m, n = m + 1 := by
  cases n with
  | zero => cases h
  | succ m => exact ⟨m, rfl⟩

/-- slices.MinFunc[[]api.Rat,api.Rat] -/
def m_slices_MinFunc_api_Rat_api_Rat (x_2096 : List Sapi_Rat) (f_2102 : Sapi_Rat → Sapi_Rat → Option Int) : Option Sapi_Rat :=
  if decide (((x_2096.length : Nat) : Int) < 1) then none else chk ((0 : Int) ≤ 0 ∧ 0 < ((x_2096.length : Nat) : Int)) (jp2 (fun (c_2548 : Int) (c_2549 : Int) => some (⟨c_2548, c_2549⟩ : Sapi_Rat)) fun k_2550 => m_slices_MinFunc_api_Rat_api_Rat_L2 x_2096 f_2102 k_2550 FUEL 1 ((nth x_2096 0).fN) ((nth x_2096 0).fD))

set_option maxRecDepth 20000 in
theorem w_slices_MinFunc_api_Rat_api_Rat (Z : Zp)  (ao_2097 : Option Addr) (cap_2098 : Nat) (fid_2100 : FuncId) (fcaps_2101 : List Value) (x_2096 : List Sapi_Rat) (f_2102 : Sapi_Rat → Sapi_Rat → Option Int) (r : Sapi_Rat) (w₀ : World) (hz : PZ [] w₀ Z)
    (hs_2099 : ZS Z 2 (fun r x => r = e28 x) ao_2097 cap_2098 x_2096)
    (hcf_2103 : ∀ args w, (callFunc fid_2100 args).run Try.prog w = .ok (.enter fid_2100 args) w)
    (hfn_2104 : ∀ w : World, PZ [] w Z → ∀ (x0 : Sapi_Rat) (x1 : Sapi_Rat) (r : Int), f_2102 x0 x1 = some r → Calls Try.prog fid_2100 (([(.agg #[(.int .i64 x0.fN), (.int .i64 x0.fD)]), (.agg #[(.int .i64 x1.fN), (.int .i64 x1.fD)])] : List Value) ++ fcaps_2101).toArray w fun e w' => e = .returned (.int .i64 r) ∧ Hp [] w w' [])
    (h : m_slices_MinFunc_api_Rat_api_Rat x_2096 f_2102 = some r) :
    Calls Try.prog 52 #[(.slice ao_2097 x_2096.length cap_2098), (.func (.func fid_2100) #[] (fcaps_2101).toArray)] w₀ fun e w' => e = .returned (.agg #[(.int .i64 r.fN), (.int .i64 r.fD)]) ∧ Hp [] w₀ w' [] := by
  unfold m_slices_MinFunc_api_Rat_api_Rat at h
  refine Calls.ofWC (vs := [(.slice ao_2097 x_2096.length cap_2098), (.func (.func fid_2100) #[] (fcaps_2101).toArray)]) (pre := []) (env := [(0, (.slice ao_2097 x_2096.length cap_2098)), (1, (.func (.func fid_2100) #[] (fcaps_2101).toArray))]) Try.func52 rfl Try.ntmps52 rfl (Hp.nil w₀ _) rfl ?_
  refine WC.seq ?_
  refine WC.region ?_
  refine WL.new (dd := 4) rfl rfl rfl (e_alloc (cs := [(.int .i64 0), (.int .i64 0)]) zeroT_28 rfl) ?_
  intro b_2382 _
  refine WL.nil ?_
  refine WX.then ?_
  refine WC.seq ?_
  refine WC.seq ?_
  refine WC.region ?_
  refine WL.quiet (d := 7) rfl rfl rfl (q_move rfl) ?_
  refine WL.quiet (d := 8) rfl rfl rfl (q_len Try.underlying44 rfl) ?_
  refine WL.quiet (d := 9) rfl rfl rfl (q_lss rfl rfl) ?_
  refine WL.nil ?_
  refine WX.then ?_
  refine WC.cond rfl (fun hb_2384 => ?_) (fun hb_2384 => ?_)
  · replace h := ite_t h hb_2384
    cases h
  · replace h := ite_f h hb_2384
    refine WC.skip ?_
    refine WX.then ?_
    refine WC.seq ?_
    obtain ⟨c_2385, h⟩ := chk_elim h
    refine WC.region ?_
    refine WL.quiet (d := 11) rfl rfl rfl (q_move rfl) ?_
    refine WL.znth (dd := 12) rfl rfl (Z := Z) (Pr := (fun r x => r = e28 x)) elT_44 rfl rfl hs_2099 c_2385 ?_
    rintro A_2391 r_2392 hA_2393 hl_2394 rfl
    refine WL.quiet (d := 13) rfl rfl rfl (q_loadA (cs := [(.int .i64 ((nth x_2096 0).fN)), (.int .i64 ((nth x_2096 0).fD))]) aggT_28 rfl rfl (rd_zs hz.pv hA_2393)) ?_
    refine WL.new (dd := 5) rfl rfl rfl (e_alloc (cs := [(.int .i64 0), (.int .i64 0)]) zeroT_28 rfl) ?_
    intro b_2395 _
    refine WL.eff0 rfl rfl (e_store (vs := [(.int .i64 ((nth x_2096 0).fN)), (.int .i64 ((nth x_2096 0).fD))]) (ds := [(.int .i64 ((nth x_2096 0).fN)), (.int .i64 ((nth x_2096 0).fD))]) sizT_28 rfl rfl rfl rfl (oc_cons rfl (oc_cons rfl oc_nil)) .here (Nat.le_of_ble_eq_true rfl) rfl) ?_
    refine WL.nil ?_
    refine WX.then ?_
    obtain ⟨k_2550, hk_2551, h⟩ := jp2_elim h
    refine WC.seqMid2 (fun (c_2548 : Int) (c_2549 : Int) => (k_2550 c_2548 c_2549 = some r)) (fun (c_2548 : Int) (c_2549 : Int) => [(4, (.pointer (some ⟨b_2382, 0, none⟩))), (5, (.pointer (some ⟨b_2395, 0, none⟩)))]) (fun (c_2548 : Int) (c_2549 : Int) => [stb b_2382 28 [(.int .i64 0), (.int .i64 0)], stb b_2395 28 [(.int .i64 c_2548), (.int .i64 c_2549)]]) ?_ ?_
    · skip
      refine WC.seq ?_
      refine WC.region ?_
      refine WL.quiet (d := 6) rfl rfl rfl (q_assign rfl) ?_
      refine WL.nil ?_
      refine WX.then ?_
      refine WC.block ?_
      refine WC.loop4 (fun (n_2606 : Nat) (i_2603 : Int) (c_2604 : Int) (c_2605 : Int) => (m_slices_MinFunc_api_Rat_api_Rat_L2 x_2096 f_2102 k_2550 n_2606 i_2603 c_2604 c_2605 = some r)) (fun (n_2606 : Nat) (i_2603 : Int) (c_2604 : Int) (c_2605 : Int) => [(0, (.slice ao_2097 x_2096.length cap_2098)), (1, (.func (.func fid_2100) #[] (fcaps_2101).toArray)), (4, (.pointer (some ⟨b_2382, 0, none⟩))), (5, (.pointer (some ⟨b_2395, 0, none⟩))), (6, (.int .i64 i_2603))]) (fun (n_2606 : Nat) (i_2603 : Int) (c_2604 : Int) (c_2605 : Int) => [stb b_2382 28 [(.int .i64 0), (.int .i64 0)], stb b_2395 28 [(.int .i64 c_2604), (.int .i64 c_2605)]]) (fun (n_2606 : Nat) (i_2603 : Int) (c_2604 : Int) (c_2605 : Int) => n_2606) ⟨FUEL, 1, ((nth x_2096 0).fN), ((nth x_2096 0).fD)⟩ h (.cons rfl (.cons rfl (.cons rfl (.cons rfl (.cons rfl .nil))))) (.cons (.there .here) (.cons .here .nil)) ?_
      rintro n_2606 i_2603 c_2604 c_2605 h
      obtain ⟨n_2607, rfl⟩ := m_slices_MinFunc_api_Rat_api_Rat_L2_fuel h
      rw [m_slices_MinFunc_api_Rat_api_Rat_L2] at h
      refine WC.seq ?_
      refine WC.seq ?_
      refine WC.region ?_
      refine WL.quiet (d := 14) rfl rfl rfl (q_move rfl) ?_
      refine WL.quiet (d := 15) rfl rfl rfl (q_move rfl) ?_
      refine WL.quiet (d := 16) rfl rfl rfl (q_len Try.underlying44 rfl) ?_
      refine WL.quiet (d := 17) rfl rfl rfl (q_lss rfl rfl) ?_
      refine WL.nil ?_
      refine WX.then ?_
      refine WC.cond rfl (fun hb_2609 => ?_) (fun hb_2609 => ?_)
      · replace h := ite_t h hb_2609
        refine WC.skip ?_
        refine WX.then ?_
        obtain ⟨k_2633, hk_2634, h⟩ := jp2_elim h
        refine WC.seqMid2 (fun (c_2631 : Int) (c_2632 : Int) => (k_2633 c_2631 c_2632 = some r)) (fun (c_2631 : Int) (c_2632 : Int) => [(0, (.slice ao_2097 x_2096.length cap_2098)), (1, (.func (.func fid_2100) #[] (fcaps_2101).toArray)), (4, (.pointer (some ⟨b_2382, 0, none⟩))), (5, (.pointer (some ⟨b_2395, 0, none⟩))), (6, (.int .i64 i_2603))]) (fun (c_2631 : Int) (c_2632 : Int) => [stb b_2382 28 [(.int .i64 0), (.int .i64 0)], stb b_2395 28 [(.int .i64 c_2631), (.int .i64 c_2632)]]) ?_ ?_
        · skip
          refine WC.block ?_
          refine WC.seq ?_
          obtain ⟨c_2635, h⟩ := chk_elim h
          obtain ⟨x_2640, hx_2641, h⟩ := bind_elim h
          refine WC.draw (fun i => [].contains i) [] rfl ?_
          refine WD.pure (i := 0) (d := 20) (by kernel_rfl) rfl (readyF_of (by kernel_rfl)) (freeF_of (by kernel_rfl)) rfl rfl rfl (fun _ => q_move rfl) ?_
          refine WD.pure (i := 1) (d := 21) (by kernel_rfl) rfl (readyF_of (by kernel_rfl)) (freeF_of (by kernel_rfl)) rfl rfl rfl (fun _ => q_move rfl) ?_
          refine WD.pure (i := 2) (d := 22) (by kernel_rfl) rfl (readyF_of (by kernel_rfl)) (freeF_of (by kernel_rfl)) rfl rfl rfl (fun _ => q_move rfl) ?_
          refine WD.znth (j := 3) (dd := 23) (by kernel_rfl) rfl (readyF_of (by kernel_rfl)) (freeF_of (by kernel_rfl)) rfl rfl (Z := Z) (Pr := (fun r x => r = e28 x)) elT_44 rfl rfl hs_2099 c_2635 ?_
          rintro A_2642 r_2643 hA_2644 hl_2645 rfl
          refine WD.quiet (i := 4) (d := 24) (by kernel_rfl) rfl (readyF_of (by kernel_rfl)) (freeF_of (by kernel_rfl)) rfl rfl rfl (q_loadA (cs := [(.int .i64 ((nth x_2096 i_2603).fN)), (.int .i64 ((nth x_2096 i_2603).fD))]) aggT_28 rfl rfl (rd_zs hz.pv hA_2644)) ?_
          refine WD.quiet (i := 5) (d := 25) (by kernel_rfl) rfl (readyF_of (by kernel_rfl)) (freeF_of (by kernel_rfl)) rfl rfl rfl (q_loadA (cs := [(.int .i64 c_2604), (.int .i64 c_2605)]) aggT_28 rfl rfl (rd_all (.there .here))) ?_
          refine WD.enter (i := 6) (d := 26) (by kernel_rfl) rfl (readyF_of (by kernel_rfl)) (freeF_of (by kernel_rfl)) rfl rfl rfl (run_callv (l := [.tmp 24, .tmp 25]) (f := fid_2100) (caps := fcaps_2101) hcf_2103 rfl (.cons rfl (.cons rfl .nil))) (fun w hw => hfn_2104 w (hz.now hw) (⟨((nth x_2096 i_2603).fN), ((nth x_2096 i_2603).fD)⟩ : Sapi_Rat) (⟨c_2604, c_2605⟩ : Sapi_Rat) x_2640  hx_2641) ?_
          refine WD.pure (i := 7) (d := 27) (by kernel_rfl) rfl (readyF_of (by kernel_rfl)) (freeF_of (by kernel_rfl)) rfl rfl rfl (fun _ => q_lss rfl rfl) ?_
          refine WD.done (by kernel_rfl) ?_
          refine WX.then ?_
          refine WC.cond rfl (fun hb_2646 => ?_) (fun hb_2646 => ?_)
          · replace h := ite_t h hb_2646
            obtain ⟨c_2647, h⟩ := chk_elim h
            refine WC.region ?_
            refine WL.quiet (d := 28) rfl rfl rfl (q_move rfl) ?_
            refine WL.quiet (d := 29) rfl rfl rfl (q_move rfl) ?_
            refine WL.znth (dd := 30) rfl rfl (Z := Z) (Pr := (fun r x => r = e28 x)) elT_44 rfl rfl hs_2099 c_2647 ?_
            rintro A_2652 r_2653 hA_2654 hl_2655 rfl
            refine WL.quiet (d := 31) rfl rfl rfl (q_loadA (cs := [(.int .i64 ((nth x_2096 i_2603).fN)), (.int .i64 ((nth x_2096 i_2603).fD))]) aggT_28 rfl rfl (rd_zs hz.pv hA_2654)) ?_
            refine WL.eff0 rfl rfl (e_store (vs := [(.int .i64 ((nth x_2096 i_2603).fN)), (.int .i64 ((nth x_2096 i_2603).fD))]) (ds := [(.int .i64 ((nth x_2096 i_2603).fN)), (.int .i64 ((nth x_2096 i_2603).fD))]) sizT_28 rfl rfl rfl rfl (oc_cons rfl (oc_cons rfl oc_nil)) (.there .here) (Nat.le_of_ble_eq_true rfl) rfl) ?_
            refine WL.nil ?_
            refine WX.blockNormal ?_
            exact WX.mid (G := Int × Int) ⟨((nth x_2096 i_2603).fN), ((nth x_2096 i_2603).fD)⟩ h (.cons rfl (.cons rfl (.cons rfl (.cons rfl (.cons rfl .nil))))) (.cons (.there .here) (.cons .here .nil))
          · replace h := ite_f h hb_2646
            refine WC.skip ?_
            refine WX.blockNormal ?_
            exact WX.mid (G := Int × Int) ⟨c_2604, c_2605⟩ h (.cons rfl (.cons rfl (.cons rfl (.cons rfl (.cons rfl .nil))))) (.cons .here (.cons .here .nil))
        · rintro c_2631 c_2632 h
          replace h := (hk_2634 c_2631 c_2632).symm.trans h
          refine WC.region ?_
          refine WL.quiet (d := 18) rfl rfl rfl (q_move rfl) ?_
          refine WL.quiet (d := 19) rfl rfl rfl (q_add rfl rfl rfl) ?_
          refine WL.quiet (d := 6) rfl rfl rfl (q_assign rfl) ?_
          refine WL.nil ?_
          exact WX.round (G := Nat × Int × Int × Int) ⟨n_2607, (i64 (i_2603 + 1)), c_2631, c_2632⟩ h (Nat.lt_succ_self _) (.cons rfl (.cons rfl (.cons rfl (.cons rfl (.cons rfl .nil))))) (.cons .here (.cons .here .nil))
      · replace h := ite_f h hb_2609
        refine WC.exit ?_
        refine WX.thenExit ?_
        refine WX.thenExit ?_
        refine WX.blockHit ?_
        exact WX.mid (G := Int × Int) ⟨c_2604, c_2605⟩ h (.cons rfl (.cons rfl .nil)) (.cons .here (.cons .here .nil))
    · rintro c_2548 c_2549 h
      replace h := (hk_2551 c_2548 c_2549).symm.trans h
      refine WC.seq ?_
      refine WC.region ?_
      refine WL.quiet (d := 32) rfl rfl rfl (q_loadA (cs := [(.int .i64 c_2548), (.int .i64 c_2549)]) aggT_28 rfl rfl (rd_all (.there .here))) ?_
      refine WL.eff0 rfl rfl (e_store (vs := [(.int .i64 c_2548), (.int .i64 c_2549)]) (ds := [(.int .i64 c_2548), (.int .i64 c_2549)]) sizT_28 rfl rfl rfl rfl (oc_cons rfl (oc_cons rfl oc_nil)) .here (Nat.le_of_ble_eq_true rfl) rfl) ?_
      refine WL.nil ?_
      refine WX.then ?_
      refine WC.ret ?_
      obtain rfl := Option.some.inj h
      refine WX.bpRet Try.results52 (.agg rfl aggT_28 rfl (rd_all .here) .nil) (fun w hw => ?_)
      exact ⟨ret1 rfl, hw.sub .nil⟩
def m_curve_At_L2 (c_1177 : List Sapi_Bucket) (t_1181 : Sapi_Rat) (k_2837 : (List Sapi_Rat) → Int → Option (Sapi_Rat × Int)) : Nat → (List Sapi_Rat) → Int → Int → Option (Sapi_Rat × Int)
  | 0, _, _, _ => none
  | n_2895 + 1, l_2888, v_2891, c_2892 => if decide (v_2891 < ((c_1177.length : Nat) : Int)) then chk ((0 : Int) ≤ v_2891 ∧ v_2891 < ((c_1177.length : Nat) : Int)) ((m_curve_calc_value (⟨c_2892⟩ : Scurve_calc) (⟨(⟨(((nth c_1177 v_2891).fBurst).fN), (((nth c_1177 v_2891).fBurst).fD)⟩ : Sapi_Rat), (⟨(((nth c_1177 v_2891).fRate).fN), (((nth c_1177 v_2891).fRate).fD)⟩ : Sapi_Rat)⟩ : Sapi_Bucket) t_1181).bind fun x_2929 => chk ((((l_2888 ++ ([x_2929.1] : List Sapi_Rat)).length : Nat) : Int) * 16 ≤ 140737488355328 ∧ (((l_2888 ++ ([x_2929.1] : List Sapi_Rat)).length : Nat) : Int) ≤ 4611686018427387904) (m_curve_At_L2 c_1177 t_1181 k_2837 n_2895 (l_2888 ++ ([x_2929.1] : List Sapi_Rat)) (i64 (v_2891 + 1)) x_2929.2.fE)) else k_2837 l_2888 c_2892
theorem m_curve_At_L2_fuel {n : Nat} {c_1177 : List Sapi_Bucket} {t_1181 : Sapi_Rat} {k_2837 : (List Sapi_Rat) → Int → Option (Sapi_Rat × Int)} {l_2888 : List Sapi_Rat} {v_2891 : Int} {c_2892 : Int} {r : Sapi_Rat × Int} (h : m_curve_At_L2 c_1177 t_1181 k_2837 n l_2888 v_2891 c_2892 = some r) : ∃ m, n = m + 1 := by
  cases n with
  | zero => cases h
  | succ m => exact ⟨m, rfl⟩

/-- curve.At -/
def m_curve_At (c_1177 : List Sapi_Bucket) (t_1181 : Sapi_Rat) : Option (Sapi_Rat × Int) :=
  (m_curve_Valid c_1177).bind fun x_2675 => (if !x_2675 then some true else (m_curve_good t_1181).bind fun x_2677 => some (!x_2677)).bind fun b_2679 => if b_2679 then some ((⟨0, 0⟩ : Sapi_Rat), 2) else jp2 (fun (l_2833 : List Sapi_Rat) (c_2836 : Int) => if decide (c_2836 ≠ 0) then some ((⟨0, 0⟩ : Sapi_Rat), c_2836) else (m_slices_MinFunc_api_Rat_api_Rat l_2833 (fun (y0 : Sapi_Rat) (y1 : Sapi_Rat) => m_rat_Cmp y0 y1)).bind fun x_2940 => some (x_2940, 0)) fun k_2837 => m_curve_At_L2 c_1177 t_1181 k_2837 FUEL ([] : List Sapi_Rat) 0 0

set_option maxRecDepth 20000 in
theorem w_curve_At (Z : Zp)  (ao_1178 : Option Addr) (cap_1179 : Nat) (c_1177 : List Sapi_Bucket) (t_1181 : Sapi_Rat) (r : Sapi_Rat × Int) (w₀ : World) (hz : PZ [] w₀ Z)
    (hs_1180 : ZS Z 4 (fun r x => r = e42 x) ao_1178 cap_1179 c_1177)
    (h : m_curve_At c_1177 t_1181 = some r) :
    Calls Try.prog 23 #[(.slice ao_1178 c_1177.length cap_1179), (.agg #[(.int .i64 t_1181.fN), (.int .i64 t_1181.fD)])] w₀ fun e w' => e = .returned (.tuple #[(.agg #[(.int .i64 r.1.fN), (.int .i64 r.1.fD)]), (.int .i64 r.2)]) ∧ Hp [] w₀ w' [] := by
  unfold m_curve_At at h
  refine Calls.ofWC (vs := [(.slice ao_1178 c_1177.length cap_1179), (.agg #[(.int .i64 t_1181.fN), (.int .i64 t_1181.fD)])]) (pre := []) (env := [(0, (.slice ao_1178 c_1177.length cap_1179)), (1, (.agg #[(.int .i64 t_1181.fN), (.int .i64 t_1181.fD)]))]) Try.func23 rfl Try.ntmps23 rfl (Hp.nil w₀ _) rfl ?_
  refine WC.seq ?_
  refine WC.region ?_
  refine WL.new (dd := 3) rfl rfl rfl (e_box (cs := [(.int .i64 t_1181.fN), (.int .i64 t_1181.fD)]) rfl rfl) ?_
  intro b_2662 _
  refine WL.new (dd := 4) rfl rfl rfl (e_alloc (cs := [(.int .i64 0), (.int .i64 0)]) zeroT_28 rfl) ?_
  intro b_2663 _
  refine WL.quiet (d := 5) rfl rfl rfl (q_assign rfl) ?_
  refine WL.nil ?_
  refine WX.then ?_
  refine WC.seq ?_
  refine WC.seq ?_
  obtain ⟨x_2675, hx_2676, h⟩ := bind_elim h
  obtain ⟨b_2679, hb_2680, h⟩ := bind_elim h
  refine WC.region ?_
  refine WL.quiet (d := 10) rfl rfl rfl (q_move rfl) ?_
  refine WL.callD (dd := 11) rfl rfl rfl (run_call (l := [.tmp 10]) Try.call26 (.cons rfl .nil)) (.nil : Sel [stb b_2663 28 [(.int .i64 0), (.int .i64 0)], stb b_2662 28 [(.int .i64 t_1181.fN), (.int .i64 t_1181.fD)]] [] [stb b_2663 28 [(.int .i64 0), (.int .i64 0)], stb b_2662 28 [(.int .i64 t_1181.fN), (.int .i64 t_1181.fD)]]) (fun w hw => by have pz := (hz.call hw (.nil : Sel [stb b_2663 28 [(.int .i64 0), (.int .i64 0)], stb b_2662 28 [(.int .i64 t_1181.fN), (.int .i64 t_1181.fD)]] [] [stb b_2663 28 [(.int .i64 0), (.int .i64 0)], stb b_2662 28 [(.int .i64 t_1181.fN), (.int .i64 t_1181.fD)]])); exact w_curve_Valid (Z := _) (ao_1187 := ao_1178) (cap_1188 := cap_1179) (c_1186 := c_1177) (r := x_2675) w pz hs_1180 hx_2676) ?_
  refine WL.quiet (d := 12) rfl rfl rfl (q_not rfl) ?_
  refine WL.quiet (d := 13) rfl rfl rfl (q_move rfl) ?_
  refine WL.cut0 True [(0, (.slice ao_1178 c_1177.length cap_1179)), (3, (.pointer (some ⟨b_2662, 0, none⟩))), (4, (.pointer (some ⟨b_2663, 0, none⟩))), (17, (.bool b_2679))] [stb b_2663 28 [(.int .i64 0), (.int .i64 0)], stb b_2662 28 [(.int .i64 t_1181.fN), (.int .i64 t_1181.fD)]] 4 ?_ (fun _ => ?_)
  · rcases Bool.eq_false_or_eq_true (!x_2675) with hb' | hb'
    · have hg_2681 := hb'; clear hb'
      have hq_2682 := ite_t hb_2680 hg_2681
      replace hq_2682 := Option.some.inj hq_2682
      refine WL.pin (i := 13) rfl hg_2681 ?_
      refine WL.skip rfl rfl rfl ?_
      refine WL.skip rfl rfl rfl ?_
      refine WL.skip rfl rfl rfl ?_
      refine WL.quiet (d := 17) rfl rfl rfl (q_pickT rfl rfl) ?_
      exact WL.cutEnd () trivial (.cons rfl (.cons rfl (.cons rfl (.cons (some_bool hq_2682) .nil)))) (.cons .here (.cons .here .nil))
    · have hg_2683 := hb'; clear hb'
      have hq_2684 := ite_f hb_2680 hg_2683
      obtain ⟨x_2677, hx_2678, hq_2684⟩ := bind_elim hq_2684
      replace hq_2684 := Option.some.inj hq_2684
      refine WL.pin (i := 13) rfl hg_2683 ?_
      refine WL.quiet (d := 14) rfl rfl rfl (q_loadA (cs := [(.int .i64 t_1181.fN), (.int .i64 t_1181.fD)]) aggT_28 rfl rfl (rd_all (.there .here))) ?_
      refine WL.callD (dd := 15) rfl rfl rfl (run_call (l := [.tmp 14]) Try.call50 (.cons rfl .nil)) (.nil : Sel [stb b_2663 28 [(.int .i64 0), (.int .i64 0)], stb b_2662 28 [(.int .i64 t_1181.fN), (.int .i64 t_1181.fD)]] [] [stb b_2663 28 [(.int .i64 0), (.int .i64 0)], stb b_2662 28 [(.int .i64 t_1181.fN), (.int .i64 t_1181.fD)]]) (fun w hw => by have pz := (hz.call hw (.nil : Sel [stb b_2663 28 [(.int .i64 0), (.int .i64 0)], stb b_2662 28 [(.int .i64 t_1181.fN), (.int .i64 t_1181.fD)]] [] [stb b_2663 28 [(.int .i64 0), (.int .i64 0)], stb b_2662 28 [(.int .i64 t_1181.fN), (.int .i64 t_1181.fD)]])); exact w_curve_good (Z := _)  (x_1193 := t_1181) (r := x_2677) w pz  hx_2678) ?_
      refine WL.quiet (d := 16) rfl rfl rfl (q_not rfl) ?_
      refine WL.quiet (d := 17) rfl rfl rfl (q_pickF rfl rfl) ?_
      exact WL.cutEnd () trivial (.cons rfl (.cons rfl (.cons rfl (.cons (some_bool hq_2684) .nil)))) (.cons .here (.cons .here .nil))
  · skip
    refine WL.nil ?_
    refine WX.then ?_
    refine WC.cond rfl (fun hb_2685 => ?_) (fun hb_2685 => ?_)
    · replace h := ite_t h hb_2685
      refine WC.seq ?_
      refine WC.region ?_
      refine WL.quiet (d := 18) rfl rfl rfl (q_build (v := (.agg #[(.int .i64 0), (.int .i64 0)])) (Eos.parts (l := []) .nil []) (fun _ => by kernel_rfl)) ?_
      refine WL.eff0 rfl rfl (e_store (vs := [(.int .i64 0), (.int .i64 0)]) (ds := [(.int .i64 0), (.int .i64 0)]) sizT_28 rfl rfl rfl rfl (oc_cons rfl (oc_cons rfl oc_nil)) .here (Nat.le_of_ble_eq_true rfl) rfl) ?_
      refine WL.quiet (d := 5) rfl rfl rfl (q_assign rfl) ?_
      refine WL.nil ?_
      refine WX.then ?_
      refine WC.ret ?_
      refine WX.thenRet ?_
      obtain rfl := Option.some.inj h
      refine WX.bpRet Try.results23 (.agg rfl aggT_28 rfl (rd_all .here) (.tmp rfl .nil)) (fun w hw => ?_)
      exact ⟨ret2 rfl rfl, hw.sub .nil⟩
    · replace h := ite_f h hb_2685
      refine WC.skip ?_
      refine WX.then ?_
      refine WC.seq ?_
      refine WC.region ?_
      refine WL.new (dd := 6) rfl rfl rfl (e_alloc (cs := [(.int .i64 0)]) zeroT_74 rfl) ?_
      intro b_2687 _
      refine WL.nil ?_
      refine WX.then ?_
      refine WC.seq ?_
      refine WC.region ?_
      refine WL.quiet (d := 7) rfl rfl rfl (q_assign rfl) ?_
      refine WL.nil ?_
      refine WX.then ?_
      obtain ⟨k_2837, hk_2838, h⟩ := jp2_elim h
      refine WC.seqMid4 (fun (l_2833 : List Sapi_Rat) (c_2836 : Int) (ao_2834 : Option Addr) (cap_2835 : Nat) => (k_2837 l_2833 c_2836 = some r)) (fun (l_2833 : List Sapi_Rat) (c_2836 : Int) (ao_2834 : Option Addr) (cap_2835 : Nat) => [(4, (.pointer (some ⟨b_2663, 0, none⟩))), (6, (.pointer (some ⟨b_2687, 0, none⟩))), (7, (.slice ao_2834 l_2833.length cap_2835))]) (fun (l_2833 : List Sapi_Rat) (c_2836 : Int) (ao_2834 : Option Addr) (cap_2835 : Nat) => [row (.slice ao_2834 l_2833.length cap_2835) 28 2 (l_2833.flatMap e28), stb b_2663 28 [(.int .i64 0), (.int .i64 0)], stb b_2687 74 [(.int .i64 c_2836)]]) ?_ ?_
      · skip
        refine WC.seq ?_
        refine WC.region ?_
        refine WL.quiet (d := 19) rfl rfl rfl (q_move rfl) ?_
        refine WL.quiet (d := 20) rfl rfl rfl (q_len Try.underlying25 rfl) ?_
        refine WL.quiet (d := 21) rfl rfl rfl (q_move rfl) ?_
        refine WL.nil ?_
        refine WX.then ?_
        refine WC.block ?_
        refine WC.nilRow 28 2 ?_
        refine WC.loop6 (fun (n_2893 : Nat) (l_2888 : List Sapi_Rat) (v_2891 : Int) (c_2892 : Int) (ao_2889 : Option Addr) (cap_2890 : Nat) => (m_curve_At_L2 c_1177 t_1181 k_2837 n_2893 l_2888 v_2891 c_2892 = some r)) (fun (n_2893 : Nat) (l_2888 : List Sapi_Rat) (v_2891 : Int) (c_2892 : Int) (ao_2889 : Option Addr) (cap_2890 : Nat) => [(3, (.pointer (some ⟨b_2662, 0, none⟩))), (4, (.pointer (some ⟨b_2663, 0, none⟩))), (6, (.pointer (some ⟨b_2687, 0, none⟩))), (7, (.slice ao_2889 l_2888.length cap_2890)), (19, (.slice ao_1178 c_1177.length cap_1179)), (20, (.int .i64 ((c_1177.length : Nat) : Int))), (21, (.int .i64 v_2891))]) (fun (n_2893 : Nat) (l_2888 : List Sapi_Rat) (v_2891 : Int) (c_2892 : Int) (ao_2889 : Option Addr) (cap_2890 : Nat) => [row (.slice ao_2889 l_2888.length cap_2890) 28 2 (l_2888.flatMap e28), stb b_2662 28 [(.int .i64 t_1181.fN), (.int .i64 t_1181.fD)], stb b_2663 28 [(.int .i64 0), (.int .i64 0)], stb b_2687 74 [(.int .i64 c_2892)]]) (fun (n_2893 : Nat) (l_2888 : List Sapi_Rat) (v_2891 : Int) (c_2892 : Int) (ao_2889 : Option Addr) (cap_2890 : Nat) => n_2893) ⟨FUEL, ([] : List Sapi_Rat), 0, 0, none, 0⟩ h (.cons rfl (.cons rfl (.cons rfl (.cons rfl (.cons rfl (.cons rfl (.cons rfl .nil))))))) (.cons .here (.cons (.there (.there .here)) (.cons (.there .here) (.cons .here .nil)))) ?_
        rintro n_2893 l_2888 v_2891 c_2892 ao_2889 cap_2890 h
        obtain ⟨n_2895, rfl⟩ := m_curve_At_L2_fuel h
        rw [m_curve_At_L2] at h
        refine WC.seq ?_
        refine WC.region ?_
        refine WL.quiet (d := 22) rfl rfl rfl (q_lss rfl rfl) ?_
        refine WL.nil ?_
        refine WX.then ?_
        refine WC.seq ?_
        refine WC.cond rfl (fun hb_2897 => ?_) (fun hb_2897 => ?_)
        · replace h := ite_t h hb_2897
          refine WC.skip ?_
          refine WX.then ?_
          refine WC.seq ?_
          refine WC.block ?_
          refine WC.seq ?_
          obtain ⟨c_2918, h⟩ := chk_elim h
          refine WC.region ?_
          refine WL.znth (dd := 23) rfl rfl (Z := Z) (Pr := (fun r x => r = e42 x)) elT_25 rfl rfl hs_1180 c_2918 ?_
          rintro A_2924 r_2925 hA_2926 hl_2927 rfl
          refine WL.quiet (d := 24) rfl rfl rfl (q_loadA (cs := [(.int .i64 (((nth c_1177 v_2891).fBurst).fN)), (.int .i64 (((nth c_1177 v_2891).fBurst).fD)), (.int .i64 (((nth c_1177 v_2891).fRate).fN)), (.int .i64 (((nth c_1177 v_2891).fRate).fD))]) aggT_42 rfl rfl (rd_zs hz.pv hA_2926)) ?_
          refine WL.new (dd := 9) rfl rfl rfl (e_alloc (cs := [(.int .i64 0), (.int .i64 0), (.int .i64 0), (.int .i64 0)]) zeroT_42 rfl) ?_
          intro b_2928 _
          refine WL.eff0 rfl rfl (e_store (vs := [(.int .i64 (((nth c_1177 v_2891).fBurst).fN)), (.int .i64 (((nth c_1177 v_2891).fBurst).fD)), (.int .i64 (((nth c_1177 v_2891).fRate).fN)), (.int .i64 (((nth c_1177 v_2891).fRate).fD))]) (ds := [(.int .i64 (((nth c_1177 v_2891).fBurst).fN)), (.int .i64 (((nth c_1177 v_2891).fBurst).fD)), (.int .i64 (((nth c_1177 v_2891).fRate).fN)), (.int .i64 (((nth c_1177 v_2891).fRate).fD))]) sizT_42 rfl rfl rfl rfl (oc_cons rfl (oc_cons rfl (oc_cons rfl (oc_cons rfl oc_nil)))) .here (Nat.le_of_ble_eq_true rfl) rfl) ?_
          refine WL.nil ?_
          refine WX.then ?_
          obtain ⟨x_2929, hx_2930, h⟩ := bind_elim h
          obtain ⟨c_2932, h⟩ := chk_elim h
          refine WC.region ?_
          refine WL.quiet (d := 25) rfl rfl rfl (q_move rfl) ?_
          refine WL.quiet (d := 26) rfl rfl rfl (q_loadA (cs := [(.int .i64 (((nth c_1177 v_2891).fBurst).fN)), (.int .i64 (((nth c_1177 v_2891).fBurst).fD)), (.int .i64 (((nth c_1177 v_2891).fRate).fN)), (.int .i64 (((nth c_1177 v_2891).fRate).fD))]) aggT_42 rfl rfl (rd_all .here)) ?_
          refine WL.quiet (d := 27) rfl rfl rfl (q_loadA (cs := [(.int .i64 t_1181.fN), (.int .i64 t_1181.fD)]) aggT_28 rfl rfl (rd_all (.there (.there .here)))) ?_
          refine WL.callD (dd := 28) rfl rfl rfl (run_call (l := [.tmp 6, .tmp 26, .tmp 27]) Try.call51 (.cons rfl (.cons rfl (.cons rfl .nil)))) ((.cons (.there (.there (.there (.there .here)))) .nil) : Sel [stb b_2928 42 [(.int .i64 (((nth c_1177 v_2891).fBurst).fN)), (.int .i64 (((nth c_1177 v_2891).fBurst).fD)), (.int .i64 (((nth c_1177 v_2891).fRate).fN)), (.int .i64 (((nth c_1177 v_2891).fRate).fD))], row (.slice ao_2889 l_2888.length cap_2890) 28 2 (l_2888.flatMap e28), stb b_2662 28 [(.int .i64 t_1181.fN), (.int .i64 t_1181.fD)], stb b_2663 28 [(.int .i64 0), (.int .i64 0)], stb b_2687 74 [(.int .i64 c_2892)]] [stb b_2687 74 [(.int .i64 c_2892)]] [stb b_2928 42 [(.int .i64 (((nth c_1177 v_2891).fBurst).fN)), (.int .i64 (((nth c_1177 v_2891).fBurst).fD)), (.int .i64 (((nth c_1177 v_2891).fRate).fN)), (.int .i64 (((nth c_1177 v_2891).fRate).fD))], row (.slice ao_2889 l_2888.length cap_2890) 28 2 (l_2888.flatMap e28), stb b_2662 28 [(.int .i64 t_1181.fN), (.int .i64 t_1181.fD)], stb b_2663 28 [(.int .i64 0), (.int .i64 0)]]) (fun w hw => by have pz := (hz.call hw ((.cons (.there (.there (.there (.there .here)))) .nil) : Sel [stb b_2928 42 [(.int .i64 (((nth c_1177 v_2891).fBurst).fN)), (.int .i64 (((nth c_1177 v_2891).fBurst).fD)), (.int .i64 (((nth c_1177 v_2891).fRate).fN)), (.int .i64 (((nth c_1177 v_2891).fRate).fD))], row (.slice ao_2889 l_2888.length cap_2890) 28 2 (l_2888.flatMap e28), stb b_2662 28 [(.int .i64 t_1181.fN), (.int .i64 t_1181.fD)], stb b_2663 28 [(.int .i64 0), (.int .i64 0)], stb b_2687 74 [(.int .i64 c_2892)]] [stb b_2687 74 [(.int .i64 c_2892)]] [stb b_2928 42 [(.int .i64 (((nth c_1177 v_2891).fBurst).fN)), (.int .i64 (((nth c_1177 v_2891).fBurst).fD)), (.int .i64 (((nth c_1177 v_2891).fRate).fN)), (.int .i64 (((nth c_1177 v_2891).fRate).fD))], row (.slice ao_2889 l_2888.length cap_2890) 28 2 (l_2888.flatMap e28), stb b_2662 28 [(.int .i64 t_1181.fN), (.int .i64 t_1181.fD)], stb b_2663 28 [(.int .i64 0), (.int .i64 0)]])); exact w_curve_calc_value (Z := _) (b_1768 := b_2687) (k_1769 := (⟨c_2892⟩ : Scurve_calc)) (b_1770 := (⟨(⟨(((nth c_1177 v_2891).fBurst).fN), (((nth c_1177 v_2891).fBurst).fD)⟩ : Sapi_Rat), (⟨(((nth c_1177 v_2891).fRate).fN), (((nth c_1177 v_2891).fRate).fD)⟩ : Sapi_Rat)⟩ : Sapi_Bucket)) (t_1771 := t_1181) (r := x_2929) w pz  hx_2930 (hw.owns ((.cons (.there (.there (.there (.there .here)))) .nil) : Sel [stb b_2928 42 [(.int .i64 (((nth c_1177 v_2891).fBurst).fN)), (.int .i64 (((nth c_1177 v_2891).fBurst).fD)), (.int .i64 (((nth c_1177 v_2891).fRate).fN)), (.int .i64 (((nth c_1177 v_2891).fRate).fD))], row (.slice ao_2889 l_2888.length cap_2890) 28 2 (l_2888.flatMap e28), stb b_2662 28 [(.int .i64 t_1181.fN), (.int .i64 t_1181.fD)], stb b_2663 28 [(.int .i64 0), (.int .i64 0)], stb b_2687 74 [(.int .i64 c_2892)]] [stb b_2687 74 [(.int .i64 c_2892)]] [stb b_2928 42 [(.int .i64 (((nth c_1177 v_2891).fBurst).fN)), (.int .i64 (((nth c_1177 v_2891).fBurst).fD)), (.int .i64 (((nth c_1177 v_2891).fRate).fN)), (.int .i64 (((nth c_1177 v_2891).fRate).fD))], row (.slice ao_2889 l_2888.length cap_2890) 28 2 (l_2888.flatMap e28), stb b_2662 28 [(.int .i64 t_1181.fN), (.int .i64 t_1181.fD)], stb b_2663 28 [(.int .i64 0), (.int .i64 0)]]))) ?_
          refine WL.new (dd := 29) rfl rfl rfl (e_buildSlice (cs := ([x_2929.1] : List Sapi_Rat).flatMap e28) elT_44 (Eos.parts (l := [.tmp 28]) (.cons rfl .nil) [0]) (fun _ => by kernel_rfl) rfl (by unfold maxLen; omega)) ?_
          intro b_2935 _
          refine WL.eff (d := 30) rfl rfl rfl (e_appendF (enc := e28) (l1 := l_2888) (l2 := ([x_2929.1] : List Sapi_Rat)) elT_44 rfl rfl (.there (.there (.there .here))) (fun _ => rfl) rfl rfl (news_row .here) (oc_flat e28_oc _) c_2932) ?_
          rintro ⟨ao_2936, cap_2937⟩ _
          refine WL.quiet (d := 7) rfl rfl rfl (q_assign rfl) ?_
          refine WL.nil ?_
          refine WX.blockNormal ?_
          refine WX.then ?_
          refine WC.region ?_
          refine WL.quiet (d := 31) rfl rfl rfl (q_add rfl rfl rfl) ?_
          refine WL.quiet (d := 21) rfl rfl rfl (q_move rfl) ?_
          refine WL.nil ?_
          exact WX.round (G := Nat × List Sapi_Rat × Int × Int × Option Addr × Nat) ⟨n_2895, (l_2888 ++ ([x_2929.1] : List Sapi_Rat)), (i64 (v_2891 + 1)), x_2929.2.fE, ao_2936, cap_2937⟩ h (Nat.lt_succ_self _) (.cons rfl (.cons rfl (.cons rfl (.cons rfl (.cons rfl (.cons rfl (.cons rfl .nil))))))) (.cons .here (.cons (.there (.there (.there .here))) (.cons (.there (.there (.there .here))) (.cons (.there .here) .nil))))
        · replace h := ite_f h hb_2897
          refine WC.exit ?_
          refine WX.thenExit ?_
          refine WX.thenExit ?_
          refine WX.blockHit ?_
          exact WX.mid (G := List Sapi_Rat × Int × Option Addr × Nat) ⟨l_2888, c_2892, ao_2889, cap_2890⟩ h (.cons rfl (.cons rfl (.cons rfl .nil))) (.cons .here (.cons (.there .here) (.cons (.there .here) .nil)))
      · rintro l_2833 c_2836 ao_2834 cap_2835 h
        replace h := (hk_2838 l_2833 c_2836).symm.trans h
        refine WC.seq ?_
        refine WC.seq ?_
        refine WC.region ?_
        refine WL.quiet (d := 32) rfl rfl rfl (q_fieldAddr fo_74_0 rfl rfl) ?_
        refine WL.quiet (d := 33) rfl rfl rfl (q_load1 oneT_30 rfl (rd_stb (.there (.there .here)) rfl)) ?_
        refine WL.quiet (d := 34) rfl rfl rfl (q_neq rfl rfl) ?_
        refine WL.nil ?_
        refine WX.then ?_
        refine WC.cond rfl (fun hb_2939 => ?_) (fun hb_2939 => ?_)
        · replace h := ite_t h hb_2939
          refine WC.seq ?_
          refine WC.draw (fun i => [3].contains i) [stbp b_2687 74 [(0, (.int .i64 c_2836))]] rfl ?_
          refine WD.quiet (i := 0) (d := 35) (by kernel_rfl) rfl (readyF_of (by kernel_rfl)) (freeF_of (by kernel_rfl)) rfl rfl rfl (q_build (v := (.agg #[(.int .i64 0), (.int .i64 0)])) (Eos.parts (l := []) .nil []) (fun _ => by kernel_rfl)) ?_
          refine WD.pure (i := 1) (d := 36) (by kernel_rfl) rfl (readyF_of (by kernel_rfl)) (freeF_of (by kernel_rfl)) rfl rfl rfl (fun _ => q_fieldAddr fo_74_0 rfl rfl) ?_
          refine WD.stable (i := 2) (d := 37) (by kernel_rfl) rfl (readyF_of (by kernel_rfl)) (freeF_of (by kernel_rfl)) rfl rfl rfl (Sin.wk (.cons (.there (.there .here)) .nil) (.stb (.cons rfl .nil) .nil)) (q_load1 oneT_30 rfl (rd_stbp .here (.head _))) ?_
          refine WD.forced0 (i := 3) rfl (by kernel_rfl) rfl rfl rfl (Sin.wk (.cons (.there (.there .here)) .nil) (.stb (.cons rfl .nil) .nil)) (e_store (vs := [(.int .i64 0), (.int .i64 0)]) (ds := [(.int .i64 0), (.int .i64 0)]) sizT_28 rfl rfl rfl rfl (oc_cons rfl (oc_cons rfl oc_nil)) (.there .here) (Nat.le_of_ble_eq_true rfl) rfl) ?_
          refine WD.pure (i := 4) (d := 5) (by kernel_rfl) rfl (readyF_of (by kernel_rfl)) (freeF_of (by kernel_rfl)) rfl rfl rfl (fun _ => q_assign rfl) ?_
          refine WD.done (by kernel_rfl) ?_
          refine WX.then ?_
          refine WC.ret ?_
          refine WX.thenRet ?_
          obtain rfl := Option.some.inj h
          refine WX.bpRet Try.results23 (.agg rfl aggT_28 rfl (rd_all .here) (.tmp rfl .nil)) (fun w hw => ?_)
          exact ⟨ret2 rfl rfl, hw.sub .nil⟩
        · replace h := ite_f h hb_2939
          refine WC.skip ?_
          refine WX.then ?_
          refine WC.seq ?_
          obtain ⟨x_2940, hx_2941, h⟩ := bind_elim h
          refine WC.region ?_
          refine WL.quiet (d := 38) rfl rfl rfl (q_move rfl) ?_
          refine WL.callD (dd := 39) rfl rfl rfl (run_call (l := [.tmp 38, .func 17]) Try.call52 (.cons rfl (.cons rfl .nil))) (.nil : Sel [row (.slice ao_2834 l_2833.length cap_2835) 28 2 (l_2833.flatMap e28), stb b_2663 28 [(.int .i64 0), (.int .i64 0)], stb b_2687 74 [(.int .i64 c_2836)]] [] [row (.slice ao_2834 l_2833.length cap_2835) 28 2 (l_2833.flatMap e28), stb b_2663 28 [(.int .i64 0), (.int .i64 0)], stb b_2687 74 [(.int .i64 c_2836)]]) (fun w hw => by have pz := (hz.call hw (.nil : Sel [row (.slice ao_2834 l_2833.length cap_2835) 28 2 (l_2833.flatMap e28), stb b_2663 28 [(.int .i64 0), (.int .i64 0)], stb b_2687 74 [(.int .i64 c_2836)]] [] [row (.slice ao_2834 l_2833.length cap_2835) 28 2 (l_2833.flatMap e28), stb b_2663 28 [(.int .i64 0), (.int .i64 0)], stb b_2687 74 [(.int .i64 c_2836)]])).lend hw (.nil : Sel [row (.slice ao_2834 l_2833.length cap_2835) 28 2 (l_2833.flatMap e28), stb b_2663 28 [(.int .i64 0), (.int .i64 0)], stb b_2687 74 [(.int .i64 c_2836)]] [] [row (.slice ao_2834 l_2833.length cap_2835) 28 2 (l_2833.flatMap e28), stb b_2663 28 [(.int .i64 0), (.int .i64 0)], stb b_2687 74 [(.int .i64 c_2836)]]) (B := [row (.slice ao_2834 l_2833.length cap_2835) 28 2 (l_2833.flatMap e28)]) (fun _ hx' => ((.cons .here .nil) : Sel _ [row (.slice ao_2834 l_2833.length cap_2835) 28 2 (l_2833.flatMap e28)] _).mem hx'); exact w_slices_MinFunc_api_Rat_api_Rat (Z := _) (ao_2097 := ao_2834) (cap_2098 := cap_2835) (fid_2100 := 17) (fcaps_2101 := []) (x_2096 := l_2833) (f_2102 := (fun (y0 : Sapi_Rat) (y1 : Sapi_Rat) => m_rat_Cmp y0 y1)) (r := x_2940) w pz (ZA.row (hw.lent (.nil : Sel [row (.slice ao_2834 l_2833.length cap_2835) 28 2 (l_2833.flatMap e28), stb b_2663 28 [(.int .i64 0), (.int .i64 0)], stb b_2687 74 [(.int .i64 c_2836)]] [] [row (.slice ao_2834 l_2833.length cap_2835) 28 2 (l_2833.flatMap e28), stb b_2663 28 [(.int .i64 0), (.int .i64 0)], stb b_2687 74 [(.int .i64 c_2836)]]) (B := [row (.slice ao_2834 l_2833.length cap_2835) 28 2 (l_2833.flatMap e28)]) (fun _ hx' => ((.cons .here .nil) : Sel _ [row (.slice ao_2834 l_2833.length cap_2835) 28 2 (l_2833.flatMap e28)] _).mem hx') (.head _) _) (RR.flat (enc := e28) (fun _ => rfl) _) ⟨w, pz.1⟩) Try.call17 (fun w' hz' y0 y1  r  hr => w_rat_Cmp (Z := _)  (x_2033 := y0) (y_2034 := y1) (r := r) w' hz'  hr) hx_2941) ?_
          refine WL.eff0 rfl rfl (e_store (vs := [(.int .i64 x_2940.fN), (.int .i64 x_2940.fD)]) (ds := [(.int .i64 x_2940.fN), (.int .i64 x_2940.fD)]) sizT_28 rfl rfl rfl rfl (oc_cons rfl (oc_cons rfl oc_nil)) (.there .here) (Nat.le_of_ble_eq_true rfl) rfl) ?_
          refine WL.quiet (d := 5) rfl rfl rfl (q_assign rfl) ?_
          refine WL.nil ?_
          refine WX.then ?_
          refine WC.ret ?_
          obtain rfl := Option.some.inj h
          refine WX.bpRet Try.results23 (.agg rfl aggT_28 rfl (rd_all .here) (.tmp rfl .nil)) (fun w hw => ?_)
          exact ⟨ret2 rfl rfl, hw.sub .nil⟩
/-- rat.do$2 -/
def m_rat_do_2 (c_3014 : Sapi_Rat) (c_3017 : Sapi_Rat) : Option (Int × Int) :=
  some ((i64 ((i64 (c_3014.fN * c_3017.fD)) - (i64 (c_3017.fN * c_3014.fD)))), (i64 (c_3014.fD * c_3017.fD)))

set_option maxRecDepth 20000 in
theorem w_rat_do_2 (Z : Zp)  (A_3012 : Addr) (A_3015 : Addr) (c_3014 : Sapi_Rat) (c_3017 : Sapi_Rat) (r : Int × Int) (w₀ : World) (hz : PZ [] w₀ Z)
    (hA_3013 : ZC Z A_3012 [(.int .i64 c_3014.fN), (.int .i64 c_3014.fD)])
    (hA_3016 : ZC Z A_3015 [(.int .i64 c_3017.fN), (.int .i64 c_3017.fD)])
    (h : m_rat_do_2 c_3014 c_3017 = some r) :
    Calls Try.prog 65 #[(.pointer (some A_3012)), (.pointer (some A_3015))] w₀ fun e w' => e = .returned (.tuple #[(.int .i64 r.1), (.int .i64 r.2)]) ∧ Hp [] w₀ w' [] := by
  unfold m_rat_do_2 at h
  refine Calls.ofWC (vs := [(.pointer (some A_3012)), (.pointer (some A_3015))]) (pre := []) (env := [(0, (.pointer (some A_3012))), (1, (.pointer (some A_3015)))]) Try.func65 rfl Try.ntmps65 rfl (Hp.nil w₀ _) rfl ?_
  refine WC.seq ?_
  refine WC.region ?_
  refine WL.quiet (d := 2) rfl rfl rfl (q_assign rfl) ?_
  refine WL.quiet (d := 3) rfl rfl rfl (q_assign rfl) ?_
  refine WL.nil ?_
  refine WX.then ?_
  refine WC.seq ?_
  refine WC.draw (fun i => [].contains i) [] rfl ?_
  refine WD.pure (i := 0) (d := 4) (by kernel_rfl) rfl (readyF_of (by kernel_rfl)) (freeF_of (by kernel_rfl)) rfl rfl rfl (fun _ => q_fieldAddr fo_28_0 rfl rfl) ?_
  refine WD.quiet (i := 1) (d := 5) (by kernel_rfl) rfl (readyF_of (by kernel_rfl)) (freeF_of (by kernel_rfl)) rfl rfl rfl (q_load1 oneT_3 rfl (rd_zAt hz.pv hA_3013 rfl)) ?_
  refine WD.pure (i := 2) (d := 6) (by kernel_rfl) rfl (readyF_of (by kernel_rfl)) (freeF_of (by kernel_rfl)) rfl rfl rfl (fun _ => q_fieldAddr fo_28_1 rfl rfl) ?_
  refine WD.quiet (i := 3) (d := 7) (by kernel_rfl) rfl (readyF_of (by kernel_rfl)) (freeF_of (by kernel_rfl)) rfl rfl rfl (q_load1 oneT_3 rfl (rd_zAt hz.pv hA_3016 rfl)) ?_
  refine WD.pure (i := 4) (d := 8) (by kernel_rfl) rfl (readyF_of (by kernel_rfl)) (freeF_of (by kernel_rfl)) rfl rfl rfl (fun _ => q_mul rfl rfl rfl) ?_
  refine WD.pure (i := 5) (d := 9) (by kernel_rfl) rfl (readyF_of (by kernel_rfl)) (freeF_of (by kernel_rfl)) rfl rfl rfl (fun _ => q_fieldAddr fo_28_0 rfl rfl) ?_
  refine WD.quiet (i := 6) (d := 10) (by kernel_rfl) rfl (readyF_of (by kernel_rfl)) (freeF_of (by kernel_rfl)) rfl rfl rfl (q_load1 oneT_3 rfl (rd_zAt hz.pv hA_3016 rfl)) ?_
  refine WD.pure (i := 7) (d := 11) (by kernel_rfl) rfl (readyF_of (by kernel_rfl)) (freeF_of (by kernel_rfl)) rfl rfl rfl (fun _ => q_fieldAddr fo_28_1 rfl rfl) ?_
  refine WD.quiet (i := 8) (d := 12) (by kernel_rfl) rfl (readyF_of (by kernel_rfl)) (freeF_of (by kernel_rfl)) rfl rfl rfl (q_load1 oneT_3 rfl (rd_zAt hz.pv hA_3013 rfl)) ?_
  refine WD.pure (i := 9) (d := 13) (by kernel_rfl) rfl (readyF_of (by kernel_rfl)) (freeF_of (by kernel_rfl)) rfl rfl rfl (fun _ => q_mul rfl rfl rfl) ?_
  refine WD.pure (i := 10) (d := 14) (by kernel_rfl) rfl (readyF_of (by kernel_rfl)) (freeF_of (by kernel_rfl)) rfl rfl rfl (fun _ => q_sub rfl rfl rfl) ?_
  refine WD.pure (i := 11) (d := 15) (by kernel_rfl) rfl (readyF_of (by kernel_rfl)) (freeF_of (by kernel_rfl)) rfl rfl rfl (fun _ => q_fieldAddr fo_28_1 rfl rfl) ?_
  refine WD.quiet (i := 12) (d := 16) (by kernel_rfl) rfl (readyF_of (by kernel_rfl)) (freeF_of (by kernel_rfl)) rfl rfl rfl (q_load1 oneT_3 rfl (rd_zAt hz.pv hA_3013 rfl)) ?_
  refine WD.pure (i := 13) (d := 17) (by kernel_rfl) rfl (readyF_of (by kernel_rfl)) (freeF_of (by kernel_rfl)) rfl rfl rfl (fun _ => q_fieldAddr fo_28_1 rfl rfl) ?_
  refine WD.quiet (i := 14) (d := 18) (by kernel_rfl) rfl (readyF_of (by kernel_rfl)) (freeF_of (by kernel_rfl)) rfl rfl rfl (q_load1 oneT_3 rfl (rd_zAt hz.pv hA_3016 rfl)) ?_
  refine WD.pure (i := 15) (d := 19) (by kernel_rfl) rfl (readyF_of (by kernel_rfl)) (freeF_of (by kernel_rfl)) rfl rfl rfl (fun _ => q_mul rfl rfl rfl) ?_
  refine WD.pure (i := 16) (d := 2) (by kernel_rfl) rfl (readyF_of (by kernel_rfl)) (freeF_of (by kernel_rfl)) rfl rfl rfl (fun _ => q_assign rfl) ?_
  refine WD.pure (i := 17) (d := 3) (by kernel_rfl) rfl (readyF_of (by kernel_rfl)) (freeF_of (by kernel_rfl)) rfl rfl rfl (fun _ => q_assign rfl) ?_
  refine WD.done (by kernel_rfl) ?_
  refine WX.then ?_
  refine WC.ret ?_
  obtain rfl := Option.some.inj h
  refine WX.bpRet Try.results65 (.tmp rfl (.tmp rfl .nil)) (fun w hw => ?_)
  exact ⟨ret2 rfl rfl, hw.sub .nil⟩
end Go.Proofs.Ytbihfglmcjkdhaa
