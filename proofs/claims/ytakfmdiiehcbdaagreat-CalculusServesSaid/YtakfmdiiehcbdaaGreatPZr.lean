/- A part of this claim's proof: models of functions, walks, plain laws. No conditions. -/
import Derived.Test.YtakfmdiiehcbdaaGreatPZc
namespace Go.Proofs.YtakfmdiiehcbdaaGreat
open Go Go.RowKit Sep
set_option linter.all false
theorem jp0_ex' {R : Type} {K : Option R} {F : Option R → Option R} {P : Option R → Prop} (h : ∀ k : Option R, k = K → P (F k)) : P (jp0 K F) := h K rfl
/-! ### the reference's numbers -/
theorem rsize_eq {n : Int} (h : -9223372036854775808 ≤ n ∧ n ≤ 9223372036854775807) : m_ref01_size n = some (n.natAbs : Int) := by
 unfold m_ref01_size
 by_cases hn : n ≥ 0
 ·rw [if_pos (decide_eq_true hn), u64_id (by omega)]
  congr 1; omega
 ·rw [if_neg (by simpa using by omega)]
  have e : u64 n = 18446744073709551616 + n := by
   unfold u64 IntKind.wrap; simp [IntKind.signed, IntKind.bits]; omega
  rw [e, u64_id (x := 18446744073709551615 - _) (by omega), u64_id (by omega)]
  congr 1; omega
theorem rgcd_rec : ∀ (m n x y : Nat), y < 2 ^ m → 2 * m < n → m_ref01_gcd_rec n x y = some ((Nat.gcd x y : Nat) : Int)
 | 0, n + 1, x, y, hy, _ => by
  have : y = 0 := by omega
  subst this
  rw [m_ref01_gcd_rec]; simp
 | m + 1, n + 2, x, y, hy, hn => by
  rw [m_ref01_gcd_rec]
  by_cases h0 : y = 0
  ·subst h0; simp
  ·rw [if_neg (by simpa using h0), chk_pos (by simpa using h0), tmod_nat]
   rw [m_ref01_gcd_rec]
   have hg : Nat.gcd x y = Nat.gcd y (x % y) := by rw [Nat.gcd_comm x y, Nat.gcd_rec, Nat.gcd_comm]
   by_cases h1 : x % y = 0
   ·rw [h1] at hg ⊢; simp [hg]
   ·have h1' : ((x % y : Nat) : Int) ≠ 0 := fun h => h1 (by exact_mod_cast h)
    rw [if_neg (by simpa using h1'), chk_pos h1', tmod_nat]
    have hr : x % y < y := Nat.mod_lt _ (by omega)
    have hg2 : Nat.gcd y (x % y) = Nat.gcd (x % y) (y % (x % y)) := by rw [Nat.gcd_comm y (x % y), Nat.gcd_rec, Nat.gcd_comm]
    have h2 : y % (x % y) < x % y := Nat.mod_lt _ (by omega)
    have h3 : 2 * (y % (x % y)) ≤ y := by
     have h4 := Nat.div_add_mod y (x % y)
     have h5 : 1 ≤ y / (x % y) := (Nat.one_le_div_iff (by omega)).2 (by omega)
     have h6 : x % y * 1 ≤ x % y * (y / (x % y)) := Nat.mul_le_mul_left _ h5
     omega
    have h7 : 2 ^ (m + 1) = 2 * 2 ^ m := by rw [Nat.pow_succ, Nat.mul_comm]
    rw [rgcd_rec m n (x % y) (y % (x % y)) (by omega) (by omega), hg, hg2]
    rfl
theorem rgcd_eq {x y : Nat} (hy : y < 2 ^ 64) : m_ref01_gcd x y = some ((Nat.gcd x y : Nat) : Int) := rgcd_rec 64 FUEL x y hy (by rw [FUEL_eq]; omega)
theorem rvalid_eq (x : R) : m_ref01_Valid x = some (V x) := by
 unfold m_ref01_Valid V
 by_cases h : (x.fD ≥ 1 ∧ x.fD ≤ 1073741824 ∧ x.fN ≥ (-1073741824) ∧ x.fN ≤ 1073741824)
 ·rw [if_pos (by simp; omega), rsize_eq (by omega), Option.bind_some, u64_id (x := x.fD) (by omega)]
  have hd : x.fD = (x.fD.natAbs : Int) := by omega
  rw [hd, rgcd_eq (by omega), Option.bind_some, Option.bind_some]
  congr 1
  rw [Bool.eq_iff_iff]
  simp only [decide_eq_true_eq, Int.natAbs_natCast]
  omega
 ·rw [if_neg (by simp; omega), Option.bind_some]
  congr 1
  symm
  rw [decide_eq_false_iff_not]
  omega
theorem rmake_eq {n d : Int} (hd : d ≠ 0) (h : n.natAbs ≤ 4611686018427387904 ∧ d.natAbs ≤ 4611686018427387904) : m_ref01_Make n d = some (mk (Rat.divInt n d)) := by
 rw [← make_eq hd h]
 unfold m_ref01_Make m_rat_Make
 rw [if_neg (by simpa using hd), if_neg (by simpa using hd), rsize_eq (by omega), rsize_eq (by omega), size_eq (by omega), size_eq (by omega)]
 simp only [Option.bind_some]
 rw [rgcd_eq (by omega), gcd_eq (by omega), Option.bind_some, Option.bind_some]
 have hg : 0 < Nat.gcd n.natAbs d.natAbs := Nat.gcd_pos_of_pos_right _ (by omega)
 rw [chk_pos (by omega), chk_pos (by omega)]
 split
 ·rfl
 ·simp only [jp1]
  by_cases hn : n < 0 <;> by_cases hdd : d < 0
  ·have h1 : ¬ d > 0 := by omega
   have h2 : ¬ n > 0 := by omega
   simp [hn, hdd, h1, h2]
  ·have h1 : d > 0 := by omega
   simp [hn, hdd, h1]
  ·have h1 : ¬ d > 0 := by omega
   by_cases h2 : n > 0
   ·simp [hn, hdd, h1, h2]
   ·have h3 : n = 0 := by omega
    subst h3
    simp only [hdd, h1, h2, Int.natAbs_zero]
    have e : u64 (Int.tdiv ((0 : Nat) : Int) ((Nat.gcd 0 d.natAbs : Nat) : Int)) = 0 := by
     rw [Int.natCast_zero, Int.zero_tdiv]; decide
    rw [e]
    have e2 : i64 (0 - (i64 0)) = i64 0 := by decide
    rw [e2]
    simp
  ·have h1 : d > 0 := by omega
   by_cases h2 : n > 0
   ·simp [hn, hdd, h1, h2]
   ·simp [hn, hdd, h1, h2]
theorem radd_eq {x y : R} (hx : V x = true) (hy : V y = true) : m_ref01_Do 0 x y = some (mk (val x + val y)) := by
 rw [← add_eq hx hy]
 have bx := V_bd hx; have b2 := V_bd hy
 have h1 := mulb bx.1 b2.2.1; have h2 := mulb b2.1 bx.2.1; have h3 := mulb bx.2.1 b2.2.1
 unfold m_ref01_Do m_rat_Add m_rat_doc m_rat_do_1
 rw [rvalid_eq, rvalid_eq, valid_eq, valid_eq, hx, hy]
 simp only [Option.bind_some, Bool.not_true, Bool.false_eq_true, if_false]
 rw [if_neg (by simp), if_pos (by decide)]
 rw [i64_id (x := x.fN * y.fD) (by omega), i64_id (x := y.fN * x.fD) (by omega), i64_id (x := x.fD * y.fD) (by omega), i64_id (x := x.fN * y.fD + _) (by omega), make_eq (D_ne hx hy) (by omega), rmake_eq (D_ne hx hy) (by omega)]
 rfl
theorem rmul_eq {x y : R} (hx : V x = true) (hy : V y = true) : m_ref01_Do 2 x y = some (mk (val x * val y)) := by
 rw [← mul_eq hx hy]
 have bx := V_bd hx; have b2 := V_bd hy
 have h1 := mulb bx.1 b2.1; have h3 := mulb bx.2.1 b2.2.1
 unfold m_ref01_Do m_rat_Mul m_rat_dod m_rat_do_3
 rw [rvalid_eq, rvalid_eq, valid_eq, valid_eq, hx, hy]
 simp only [Option.bind_some, Bool.not_true, Bool.false_eq_true, if_false]
 rw [if_neg (by simp), if_neg (by decide), if_neg (by decide), if_pos (by decide)]
 rw [i64_id (x := x.fN * y.fN) (by omega), i64_id (x := x.fD * y.fD) (by omega), make_eq (D_ne hx hy) (by omega), rmake_eq (D_ne hx hy) (by omega)]
 rfl
theorem rcmp_eq {x y : R} (hx : V x = true) (hy : V y = true) : m_ref01_Cmp x y = some (cmpQ (val x) (val y)) := by
 rw [← cmp_eq hx hy]
 unfold m_ref01_Cmp m_rat_Cmp
 rw [rvalid_eq, rvalid_eq, valid_eq, valid_eq, hx, hy]
 simp only [Option.bind_some, Bool.not_true, Bool.false_or, Bool.false_eq_true, if_false, decide_eq_true_eq]
 by_cases h1 : i64 (x.fN * y.fD) < i64 (y.fN * x.fD)
 ·rw [if_neg (by omega), if_pos h1, if_pos h1]
 ·by_cases h2 : i64 (x.fN * y.fD) = i64 (y.fN * x.fD)
  ·rw [if_pos h2, if_neg h1, if_neg (by omega)]
  ·rw [if_neg h2, if_neg h1, if_neg h1, if_pos (by omega)]
theorem rgood_eq (x : R) : m_ref02_Good x = some (GR x) := by unfold m_ref02_Good GR; rw [rvalid_eq, Option.bind_some]
theorem rvc_loop {c : List B} {k : Option Bool} (hs : (c.length : Int) ≤ 1000000) : ∀ (n : Nat) (i : Int), 0 ≤ i → i ≤ c.length → c.length < n + i → m_ref02_Valid_L2 c k n i = if (c.drop i.toNat).all GB then k else some false
 | 0, i, h0, h1, h2 => by omega
 | n + 1, i, h0, h1, h2 => by
  rw [m_ref02_Valid_L2]
  by_cases h : i < c.length
  ·rw [if_pos (decide_eq_true h), chk_pos ⟨h0, h⟩, chk_pos ⟨h0, h⟩, drop_cons h0 h, List.all_cons]
   show Option.bind (m_ref02_Good (nth c i).fBurst) (fun x => Option.bind (if !x then some true else (m_ref02_Good (nth c i).fRate).bind _) _) = _
   rw [rgood_eq, rgood_eq, Option.bind_some, Option.bind_some, i64_id (by omega), rvc_loop hs n (i + 1) (by omega) (by omega) (by omega)]
   unfold GB
   cases GR (nth c i).fBurst <;> cases GR (nth c i).fRate <;> simp
  ·rw [if_neg (by simpa using h), drop_end h]; rfl
theorem rvc_eq {c : List B} : m_ref02_Valid c = some (VC c) := by
 unfold m_ref02_Valid VC
 by_cases h : 1 ≤ c.length ∧ c.length ≤ 32
 ·rw [if_neg (by simp; omega)]
  refine jp0_ex' (P := fun o => o = _) fun k hk => ?_
  rw [rvc_loop (by omega) FUEL 0 (by omega) (by omega) (by rw [FUEL_eq]; omega), Int.toNat_zero, List.drop_zero, hk]
  cases c.all GB <;> simp [h]
 ·rw [if_pos (by simp; omega)]
  simp [h]
theorem rvalue_ok {b : B} {t : R} (hb : GB b = true) (ht : GR t = true) : m_ref02_value b t = some (if vfit (val t) b then (ofQ (vq (val t) b), 0) else (⟨0, 0⟩, 3)) := by
 unfold m_ref02_value
 rw [rmul_eq (GR_V (GB_r hb)) (GR_V ht), Option.bind_some]
 have hr : val b.fRate * val t = rq b * val t := rfl
 rw [hr]
 unfold vfit
 cases h : fits (rq b * val t) with
 | true =>
  rw [mk_fits h, if_neg (by simp)]
  simp only []
  rw [radd_eq (GR_V (GB_b hb)) (V_ofQ h), val_ofQ]
  simp only [Option.bind_some, Bool.true_and]
  have hv : val b.fBurst + rq b * val t = vq (val t) b := rfl
  rw [hv]
  cases h2 : fits (vq (val t) b) with
  | true => rw [mk_fits h2]; rfl
  | false => unfold mk; rw [h2]
 | false =>
  unfold mk
  rw [h]
  simp
/-! ### At, Rate -/
theorem rat_loop {c : List B} {t : R} {k : Int → Int → Option (R × Int)} (hc : ∀ b ∈ c, GB b = true) (ht : GR t = true) (hs : (c.length : Int) ≤ 1000000) :
  ∀ (n : Nat) (i : Int) (best : R), 0 ≤ i → i ≤ c.length → c.length < n + i → 0 < c.length → (0 < i → V best = true ∧ IsMin ((c.take i.toNat).map (vq (val t))) (val best)) →
   m_ref02_At_L2 c t k n i best.fN best.fD = if (c.drop i.toNat).all (vfit (val t)) then k (ofQ (AT c (val t))).fN (ofQ (AT c (val t))).fD else some (⟨0, 0⟩, 3)
 | 0, i, best, h0, h1, h2, h3, h4 => by omega
 | n + 1, i, best, h0, h1, h2, h3, h4 => by
  rw [m_ref02_At_L2]
  by_cases h : i < c.length
  ·rw [if_pos (decide_eq_true h)]
   refine jp2_ex (P := fun o => o = _) fun k1 hk1 => ?_
   rw [chk_pos ⟨h0, h⟩, drop_cons h0 h, List.all_cons]
   show Option.bind (m_ref02_value (nth c i) t) _ = _
   have hm := hc _ (nth_mem h0 h)
   rw [rvalue_ok hm ht, Option.bind_some]
   cases hf : vfit (val t) (nth c i) with
   | false => simp
   | true =>
    rw [if_pos rfl, if_neg (by simp), Bool.true_and]
    have hfv : fits (vq (val t) (nth c i)) = true := by
     unfold vfit at hf; rw [Bool.and_eq_true] at hf; exact hf.2
    have hV := V_ofQ hfv
    have hk1' : ∀ x : R, k1 x.fN x.fD = m_ref02_At_L2 c t k n (i + 1) x.fN x.fD := fun x => by rw [hk1, i64_id (by omega)]
    have tk := take_succ c h0 h
    by_cases hi : i = 0
    ·rw [if_pos (decide_eq_true hi), Option.bind_some, if_pos rfl, hk1' (ofQ (vq (val t) (nth c i)))]
     refine rat_loop hc ht hs n (i + 1) _ (by omega) (by omega) (by omega) h3 fun _ => ⟨hV, ?_⟩
     rw [tk, hi, Int.toNat_zero, List.take_zero, List.nil_append, val_ofQ]
     exact ⟨by simp, fun x hx => by simp at hx; subst hx; exact Rat.le_refl⟩
    ·obtain ⟨hb, hmin⟩ := h4 (by omega)
     rw [if_neg (by simpa using hi)]
     show Option.bind (Option.bind (m_ref01_Cmp (ofQ (vq (val t) (nth c i))) best) _) _ = _
     rw [rcmp_eq hV hb, val_ofQ, Option.bind_some, Option.bind_some]
     by_cases hlt : vq (val t) (nth c i) < val best
     ·rw [if_pos (decide_eq_true (cmpQ_lt.2 hlt)), hk1' (ofQ (vq (val t) (nth c i)))]
      refine rat_loop hc ht hs n (i + 1) _ (by omega) (by omega) (by omega) h3 fun _ => ⟨hV, ?_⟩
      rw [tk, List.map_append, val_ofQ]
      refine ⟨by simp, fun x hx => ?_⟩
      rcases List.mem_append.1 hx with hx | hx
      ·exact Rat.le_trans (Rat.le_of_lt hlt) (hmin.2 x hx)
      ·simp at hx; subst hx; exact Rat.le_refl
     ·rw [if_neg (fun h => hlt (cmpQ_lt.1 (of_decide_eq_true h))), hk1' best]
      refine rat_loop hc ht hs n (i + 1) _ (by omega) (by omega) (by omega) h3 fun _ => ⟨hb, ?_⟩
      rw [tk, List.map_append]
      refine ⟨List.mem_append_left _ hmin.1, fun x hx => ?_⟩
      rcases List.mem_append.1 hx with hx | hx
      ·exact hmin.2 x hx
      ·simp at hx; subst hx; exact Rat.not_lt.1 hlt
  ·rw [if_neg (by simpa using h), drop_end h]
   obtain ⟨hb, hmin⟩ := h4 (by omega)
   rw [List.take_of_length_le (by omega)] at hmin
   have e : ofQ (AT c (val t)) = best := by
    unfold AT; rw [minQ_eq hmin, ofQ_val hb]
   rw [e]; rfl
theorem rat_eq (c : List B) (t : R) : m_ref02_At c t = m_curve_At c t := by
 by_cases h : VC c = true ∧ GR t = true
 ·rw [at_eq h.1 h.2]
  have hl := VC_len h.1
  unfold m_ref02_At
  rw [rvc_eq, rgood_eq, h.1, h.2]
  simp only [Option.bind_some, Bool.not_true, Bool.false_eq_true, if_false]
  refine jp2_ex (P := fun o => o = _) fun k hk => ?_
  have := rat_loop (k := k) (VC_all h.1) h.2 (by omega) FUEL 0 ⟨0, 0⟩ (by omega) (by omega) (by rw [FUEL_eq]; omega) (by omega) (fun h => by omega)
  rw [Int.toNat_zero, List.drop_zero] at this
  refine Eq.trans this ?_
  rw [hk]
  cases c.all (vfit (val t)) <;> rfl
 ·rw [at_bad h]
  unfold m_ref02_At
  rw [rvc_eq, rgood_eq]
  cases h1 : VC c <;> cases h2 : GR t <;> simp_all
end Go.Proofs.YtakfmdiiehcbdaaGreat
