/- A part of this claim's proof: models of functions, walks, plain laws. No conditions. -/
import Derived.Test.YtbihfglmcjkdhaaP02s
namespace Go.Proofs.Ytbihfglmcjkdhaa
open Go Go.RowKit Sep
set_option linter.all false
theorem rsame_loop {a : List B} {k : Option Bool} (hs : (a.length : Int) ≤ 1000000) : ∀ (n : Nat) (v : Int), 0 ≤ v → v ≤ a.length → a.length < n + v → m_ref02_Same_L2 a a k n v = k
 | 0, v, h0, h1, h2 => by omega
 | n + 1, v, h0, h1, h2 => by
  rw [m_ref02_Same_L2]
  by_cases h : v < a.length
  ·rw [if_pos (decide_eq_true h), chk_pos ⟨h0, h⟩, chk_pos ⟨h0, h⟩, if_neg (by simp), i64_id (by omega), rsame_loop hs n (v + 1) (by omega) (by omega) (by omega)]
  ·rw [if_neg (by simpa using h)]
theorem same_self {a : List B} {e : Int} (hs : (a.length : Int) ≤ 1000000) : m_law02_same a e a e = some true := by
 unfold m_law02_same
 rw [if_pos (by simp)]
 have : m_ref02_Same a a = some true := by
  unfold m_ref02_Same
  rw [if_neg (by simp)]
  refine jp0_ex' (P := fun o => o = _) fun k hk => ?_
  rw [rsame_loop hs FUEL 0 (by omega) (by omega) (by rw [FUEL_eq]; omega), hk]
 rw [this]; rfl
/-! ### Sum -/
theorem rsum4 {x y : List B} {i : Int} {k : List B → Option (List B × Int)} (hx : ∀ b ∈ x, GB b = true) (hy : ∀ b ∈ y, GB b = true) (hi : 0 ≤ i ∧ i < x.length) (hs : (y.length : Int) ≤ 1000) :
  ∀ (n : Nat) (o : List B) (v : Int), 0 ≤ v → v ≤ y.length → y.length < n + v → (o.length : Int) ≤ 1000000 + v →
   m_ref02_Sum_L4 y i x k n o v = if ((y.drop v.toNat).map fun z => (nth x i, z)).all sfit then k (o ++ ((y.drop v.toNat).map fun z => (nth x i, z)).map sB) else some ([], 3)
 | 0, o, v, h0, h1, h2, h3 => by omega
 | n + 1, o, v, h0, h1, h2, h3 => by
  rw [m_ref02_Sum_L4]
  by_cases h : v < y.length
  ·have cv : (0 : Int) ≤ v ∧ v < y.length := ⟨h0, h⟩
   rw [if_pos (decide_eq_true h), chk_pos hi, chk_pos cv, drop_cons h0 h, List.map_cons, List.all_cons, List.map_cons]
   have g1 := hx _ (nth_mem hi.1 hi.2); have g2 := hy _ (nth_mem h0 h)
   have a1 := radd_eq (GR_V (GB_b g1)) (GR_V (GB_b g2))
   have a2 := radd_eq (GR_V (GB_r g1)) (GR_V (GB_r g2))
   have e1 : val (nth x i).fBurst + val (nth y v).fBurst = bq (nth x i) + bq (nth y v) := rfl
   have e2 : val (nth x i).fRate + val (nth y v).fRate = rq (nth x i) + rq (nth y v) := rfl
   rw [e1] at a1; rw [e2] at a2
   show Option.bind (m_ref01_Do 0 (nth x i).fBurst (nth y v).fBurst) _ = _
   rw [a1, Option.bind_some, chk_pos hi, chk_pos cv]
   show Option.bind (m_ref01_Do 0 (nth x i).fRate (nth y v).fRate) _ = _
   rw [a2, Option.bind_some]
   unfold mk
   have hsf : sfit (nth x i, nth y v) = (fits (bq (nth x i) + bq (nth y v)) && fits (rq (nth x i) + rq (nth y v))) := rfl
   rw [hsf]
   cases h4 : fits (bq (nth x i) + bq (nth y v)) with
   | false => simp
   | true =>
    cases h5 : fits (rq (nth x i) + rq (nth y v)) with
    | false => simp
    | true =>
     rw [if_pos rfl, if_pos rfl, if_neg (by simp), chk_pos (by simp only [List.length_append, List.length_cons, List.length_nil]; omega), i64_id (by omega)]
     rw [rsum4 hx hy hi hs n _ (v + 1) (by omega) (by omega) (by omega) (by simp only [List.length_append, List.length_cons, List.length_nil]; omega)]
     rw [List.append_assoc, Bool.true_and, Bool.true_and]
     rfl
  ·rw [if_neg (by simpa using h), drop_end h]
   simp
theorem rsum3 {x y : List B} {k : List B → Option (List B × Int)} {n0 : Nat} (hx : ∀ b ∈ x, GB b = true) (hy : ∀ b ∈ y, GB b = true) (hs : (y.length : Int) ≤ 1000) (hsx : (x.length : Int) ≤ 900) :
  ∀ (n : Nat) (o : List B) (v : Int), 0 ≤ v → v ≤ x.length → x.length < n + v → (o.length : Int) ≤ 1000 * v →
   m_ref02_Sum_L3 x y k n o v = if (prod (x.drop v.toNat) y).all sfit then k (o ++ SUM (x.drop v.toNat) y) else some ([], 3)
 | 0, o, v, h0, h1, h2, h3 => by omega
 | n + 1, o, v, h0, h1, h2, h3 => by
  rw [m_ref02_Sum_L3]
  by_cases h : v < x.length
  ·rw [if_pos (decide_eq_true h)]
   refine jp1_ex (P := fun o => o = _) fun k1 hk1 => ?_
   refine jp1_ex (P := fun o => o = _) fun k2 hk2 => ?_
   rw [rsum4 hx hy ⟨h0, h⟩ hs FUEL o 0 (by omega) (by omega) (by rw [FUEL_eq]; omega) (by omega), Int.toNat_zero, List.drop_zero, drop_cons h0 h]
   have e : prod (nth x v :: x.drop (v + 1).toNat) y = (y.map fun z => (nth x v, z)) ++ prod (x.drop (v + 1).toNat) y := rfl
   unfold SUM
   rw [e, List.all_append, List.map_append]
   cases ha : (y.map fun z => (nth x v, z)).all sfit with
   | false => simp
   | true =>
    rw [if_pos rfl, hk2, hk1, i64_id (by omega), rsum3 (n0 := n0) hx hy hs hsx n _ (v + 1) (by omega) (by omega) (by omega) (by simp only [List.length_append, List.length_map]; omega), Bool.true_and, List.append_assoc]
    rfl
  ·rw [if_neg (by simpa using h), drop_end h]
   simp [prod, SUM]
theorem rsum_eq (a b : List B) : m_ref02_Sum a b = m_curve_Sum a b := by
 by_cases h : VC a = true ∧ VC b = true
 ·obtain ⟨ha, hb⟩ := h
  have la := VC_len ha; have lb := VC_len hb
  have na := NORM_len a; have nb := NORM_len b
  have ga := NORM_all (VC_all ha); have gb := NORM_all (VC_all hb)
  rw [Sum_eq ha hb]
  unfold m_ref02_Sum
  rw [rvc_eq, rvc_eq, ha, hb, rnorm_eq (VC_all ha) (by omega), rnorm_eq (VC_all hb) (by omega)]
  simp only [Option.bind_some, Bool.not_true, Bool.false_eq_true, if_false]
  have hm : (NORM a).length * (NORM b).length ≤ 32 * 32 := Nat.mul_le_mul (by omega) (by omega)
  have hi : i64 (((NORM a).length : Int) * (NORM b).length) = (((NORM a).length * (NORM b).length : Nat) : Int) := by
   rw [← Int.natCast_mul]; exact i64_id (by omega)
  rw [hi]
  by_cases h : (NORM a).length * (NORM b).length > 32
  ·rw [if_pos (by simpa using by omega), if_pos h]
  ·rw [if_neg (by simpa using by omega), if_neg h]
   refine jp1_ex (P := fun o => o = _) fun k hk => ?_
   rw [rsum3 (n0 := 0) ga gb (by omega) (by omega) FUEL [] 0 (by omega) (by omega) (by rw [FUEL_eq]; omega) (by simp), Int.toNat_zero, List.drop_zero, List.nil_append]
   cases hf : (prod (NORM a) (NORM b)).all sfit with
   | true =>
    rw [if_pos rfl, if_pos rfl, hk, rnorm_eq (SUM_all ga gb hf) (by unfold SUM; rw [List.length_map, prod_length]; omega)]
    rfl
   | false => simp
 ·rw [Sum_bad h]
  unfold m_ref02_Sum
  rw [rvc_eq, rvc_eq]
  cases h1 : VC a <;> cases h2 : VC b <;> simp_all
theorem rmin_eq (a b : List B) : m_ref02_Min a b = m_curve_Min a b := by
 by_cases h : VC a = true ∧ VC b = true
 ·obtain ⟨ha, hb⟩ := h
  have la := VC_len ha; have lb := VC_len hb
  rw [Min_eq ha hb]
  unfold m_ref02_Min
  rw [rvc_eq, rvc_eq, ha, hb]
  simp only [Option.bind_some, Bool.not_true, Bool.false_eq_true, if_false]
  rw [List.nil_append, chk_pos (by omega), chk_pos (by rw [List.length_append]; omega), rnorm_eq (fun x hx => ?_) (by rw [List.length_append]; omega), Option.bind_some]
  ·by_cases h : (NORM (a ++ b)).length > 32
   ·rw [if_pos (by simpa using by omega), if_pos h]
   ·rw [if_neg (by simpa using by omega), if_neg h]
  ·rcases List.mem_append.1 hx with h | h
   ·exact VC_all ha x h
   ·exact VC_all hb x h
 ·rw [Min_bad h]
  unfold m_ref02_Min
  rw [rvc_eq, rvc_eq]
  cases h1 : VC a <;> cases h2 : VC b <;> simp_all
/-! ### Shift -/
theorem rshift_loop {c : List B} {t : R} {k : List B → Option (List B × Int)} (hc : ∀ b ∈ c, GB b = true) (ht : GR t = true) (hs : (c.length : Int) ≤ 1000000) :
  ∀ (n : Nat) (o : List B) (i : Int), 0 ≤ i → (o.length : Int) = i → i ≤ c.length → c.length < n + i →
   m_ref02_Shift_L3 c t k n o i = if (c.drop i.toNat).all (vfit (val t)) then k (o ++ (c.drop i.toNat).map (sh1 (val t))) else some ([], 3)
 | 0, o, i, h0, ho, h1, h2 => by omega
 | n + 1, o, i, h0, ho, h1, h2 => by
  rw [m_ref02_Shift_L3]
  by_cases h : i < c.length
  ·rw [if_pos (decide_eq_true h), chk_pos ⟨h0, h⟩, drop_cons h0 h, List.all_cons, List.map_cons]
   show Option.bind (m_ref02_value (nth c i) t) _ = _
   rw [rvalue_ok (hc _ (nth_mem h0 h)) ht, Option.bind_some]
   cases hf : vfit (val t) (nth c i) with
   | false => simp
   | true =>
    rw [if_pos rfl, if_neg (by simp), chk_pos ⟨h0, h⟩, chk_pos (by simp only [List.length_append, List.length_cons, List.length_nil]; omega), i64_id (by omega)]
    rw [rshift_loop hc ht hs n _ (i + 1) (by omega) (by simp only [List.length_append, List.length_cons, List.length_nil]; omega) (by omega) (by omega), List.append_assoc, Bool.true_and]
    rfl
  ·rw [if_neg (by simpa using h), drop_end h]
   simp
theorem rshift_eq (c : List B) (t : R) : m_ref02_Shift c t = m_curve_Shift c t := by
 by_cases h : VC c = true ∧ GR t = true
 ·obtain ⟨hc, ht⟩ := h
  have hl := VC_len hc
  rw [Shift_eq hc ht]
  unfold m_ref02_Shift
  rw [rvc_eq, rgood_eq, hc, ht]
  simp only [Option.bind_some, Bool.not_true, Bool.false_eq_true, if_false]
  refine jp1_ex (P := fun o => o = _) fun k hk => ?_
  rw [rshift_loop (VC_all hc) ht (by omega) FUEL [] 0 (by omega) rfl (by omega) (by rw [FUEL_eq]; omega), Int.toNat_zero, List.drop_zero, List.nil_append]
  cases ha : c.all (vfit (val t)) with
  | true =>
   rw [if_pos rfl, if_pos rfl, hk, rnorm_eq (c := c.map (sh1 (val t))) ?_ (by rw [List.length_map]; omega), Option.bind_some]
   intro b hb
   obtain ⟨x, hx, rfl⟩ := List.mem_map.1 hb
   exact sh1_GB (VC_all hc x hx) (GR_pos ht) (List.all_eq_true.1 ha x hx)
  | false => simp
 ·rw [Shift_bad h]
  unfold m_ref02_Shift
  rw [rvc_eq, rgood_eq]
  cases h1 : VC c <;> cases h2 : GR t <;> simp_all
end Go.Proofs.Ytbihfglmcjkdhaa
