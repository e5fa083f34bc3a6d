/- A part of this claim's proof: models of functions, walks, plain laws. No conditions. -/
import Derived.Test.YtbihfglmcjkdhaaP02d
namespace Go.Proofs.Ytbihfglmcjkdhaa
open Go Go.RowKit Sep
set_option linter.all false
/-! ### a loop over a function's pairs -/
def runY {β Sg : Type} (y : β → Sg → Option (Bool × Sg)) (k : Sg → Option Sg) : List β → Sg → Option Sg
 | [], s => k s
 | p :: l, s => (y p s).bind fun x => if !x.1 then some x.2 else runY y k l x.2
theorem runY_append {β Sg : Type} {y : β → Sg → Option (Bool × Sg)} {k : Sg → Option Sg} {m : List β} : ∀ (l : List β) (s : Sg), runY y k (l ++ m) s = runY y (runY y k m) l s
 | [], s => rfl
 | p :: l, s => by
  show Option.bind _ _ = Option.bind _ _
  congr 1
  funext x
  show (if _ then _ else runY y k (l ++ m) x.2) = _
  rw [runY_append l]
theorem runY_congr {β Sg : Type} {y : β → Sg → Option (Bool × Sg)} {k k' : Sg → Option Sg} (h : ∀ s, k s = k' s) : ∀ (l : List β) (s : Sg), runY y k l s = runY y k' l s
 | [], s => h s
 | p :: l, s => by
  show Option.bind _ _ = Option.bind _ _
  congr 1
  funext x
  rw [runY_congr h l]
theorem pairs_inner {Sg : Type} {c d : List B} {y : B × B → Sg → Option (Bool × Sg)} {v : Int} {k : Sg → Option Sg} (hs : (d.length : Int) ≤ 1000000) :
  ∀ (n : Nat) (i : Int) (s : Sg), 0 ≤ i → i ≤ d.length → d.length < n + i → m_curve_pairs_1_L4 Sg d y c v k n i s = runY y k ((d.drop i.toNat).map fun z => (nth c v, z)) s
 | 0, i, s, h0, h1, h2 => by omega
 | n + 1, i, s, h0, h1, h2 => by
  rw [m_curve_pairs_1_L4]
  by_cases h : i < d.length
  ·rw [if_pos (decide_eq_true h), chk_pos ⟨h0, h⟩, drop_cons h0 h, List.map_cons, runY]
   show Option.bind (y (nth c v, nth d i) s) _ = _
   congr 1
   funext x
   rw [i64_id (by omega), pairs_inner hs n (i + 1) x.2 (by omega) (by omega) (by omega)]
  ·rw [if_neg (by simpa using h), drop_end h]
   rfl
def prod (a b : List B) : List (B × B) := a.flatMap fun x => b.map fun z => (x, z)
theorem prod_mem {a b : List B} {p : B × B} : p ∈ prod a b ↔ p.1 ∈ a ∧ p.2 ∈ b := by
 unfold prod
 simp only [List.mem_flatMap, List.mem_map]
 constructor
 ·rintro ⟨x, hx, z, hz, rfl⟩; exact ⟨hx, hz⟩
 ·intro h; exact ⟨p.1, h.1, p.2, h.2, rfl⟩
theorem prod_length (a b : List B) : (prod a b).length = a.length * b.length := by
 induction a with
 | nil => simp [prod]
 | cons x a ih =>
  have : prod (x :: a) b = b.map (fun z => (x, z)) ++ prod a b := rfl
  rw [this, List.length_append, ih, List.length_map, List.length_cons, Nat.succ_mul]; omega
theorem pairs_outer {Sg : Type} {c d : List B} {y : B × B → Sg → Option (Bool × Sg)} {k : Sg → Option Sg} (hs : (c.length : Int) ≤ 1000000) (hd : (d.length : Int) ≤ 1000000) :
  ∀ (n : Nat) (i : Int) (s : Sg), 0 ≤ i → i ≤ c.length → c.length < n + i → m_curve_pairs_1_L3 Sg c d y k n i s = runY y k (prod (c.drop i.toNat) d) s
 | 0, i, s, h0, h1, h2 => by omega
 | n + 1, i, s, h0, h1, h2 => by
  rw [m_curve_pairs_1_L3]
  by_cases h : i < c.length
  ·rw [if_pos (decide_eq_true h)]
   refine jp1_ex (P := fun o => o = _) fun k1 hk1 => ?_
   rw [chk_pos ⟨h0, h⟩]
   refine jp1_ex (P := fun o => o = _) fun k2 hk2 => ?_
   rw [pairs_inner hd FUEL 0 s (by omega) (by omega) (by rw [FUEL_eq]; omega), drop_cons h0 h]
   show _ = runY y k (((d.map fun z => (nth c i, z))) ++ prod (c.drop (i + 1).toNat) d) s
   rw [runY_append, Int.toNat_zero, List.drop_zero]
   refine runY_congr (fun s' => ?_) _ _
   rw [hk2, hk1, i64_id (by omega), pairs_outer hs hd n (i + 1) s' (by omega) (by omega) (by omega)]
  ·rw [if_neg (by simpa using h), drop_end h]
   rfl
theorem pairs_eq {Sg : Type} {c d : List B} {y : B × B → Sg → Option (Bool × Sg)} {s : Sg} (hs : (c.length : Int) ≤ 1000000) (hd : (d.length : Int) ≤ 1000000) :
  m_curve_pairs_1 Sg y s c d = runY y some (prod c d) s := by
 unfold m_curve_pairs_1
 refine jp1_ex (P := fun o => o = _) fun k hk => ?_
 rw [pairs_outer hs hd FUEL 0 s (by omega) (by omega) (by rw [FUEL_eq]; omega), Int.toNat_zero, List.drop_zero]
 exact runY_congr hk _ _
theorem run_err {β γ : Type} {y : β → Nat × List γ × Int → Option (Bool × (Nat × List γ × Int))} {ok : β → Bool} {g : β → List γ} {N : Nat} :
  ∀ (l : List β) (out : List γ), out.length + l.length ≤ N →
   (∀ p ∈ l, (g p).length ≤ 1 ∧ ∀ out : List γ, out.length < N → (ok p = true → y p (0, out, 0) = some (true, (0, out ++ g p, 0))) ∧ (ok p = false → ∃ o, o.length ≤ out.length + 1 ∧ y p (0, out, 0) = some (true, (0, o, 3))) ∧ ∃ o, o.length ≤ out.length + 1 ∧ y p (0, out, 3) = some (true, (0, o, 3))) →
   (∃ out', runY y some l (0, out, 3) = some (0, out', 3)) ∧ ∃ out', runY y some l (0, out, 0) = some (0, if l.all ok then (out ++ l.flatMap g, 0) else (out', 3))
 | [], out, hl, h => ⟨⟨out, rfl⟩, ⟨out, by simp [runY]⟩⟩
 | p :: l, out, hl, h => by
  simp only [List.length_cons] at hl
  obtain ⟨h1, hp⟩ := h p (by simp)
  obtain ⟨h2, h3, h4⟩ := hp out (by omega)
  have ih := fun o ho => run_err l o ho fun q hq => h q (by simp [hq])
  constructor
  ·obtain ⟨o1, hl1, e1⟩ := h4
   obtain ⟨o, ho⟩ := (ih o1 (by omega)).1
   exact ⟨o, by rw [runY, e1, Option.bind_some]; exact ho⟩
  ·cases hb : ok p with
   | true =>
    obtain ⟨o, ho⟩ := (ih (out ++ g p) (by rw [List.length_append]; omega)).2
    refine ⟨o, ?_⟩
    rw [runY, h2 hb, Option.bind_some]
    refine Eq.trans (show _ = runY y some l (0, out ++ g p, 0) from rfl) (ho.trans ?_)
    rw [List.all_cons, hb, Bool.true_and, List.flatMap_cons, List.append_assoc]
   | false =>
    obtain ⟨o1, hl1, e1⟩ := h3 hb
    obtain ⟨o, ho⟩ := (ih o1 (by omega)).1
    refine ⟨o, ?_⟩
    rw [runY, e1, Option.bind_some]
    refine Eq.trans (show _ = runY y some l (0, o1, 3) from rfl) (ho.trans ?_)
    rw [List.all_cons, hb, Bool.false_and, if_neg Bool.false_ne_true]
/-! ### Sum -/
def sB (p : B × B) : B := ⟨ofQ (bq p.1 + bq p.2), ofQ (rq p.1 + rq p.2)⟩
def sfit (p : B × B) : Bool := fits (bq p.1 + bq p.2) && fits (rq p.1 + rq p.2)
theorem sB_GB {p : B × B} (h1 : GB p.1 = true) (h2 : GB p.2 = true) (hf : sfit p = true) : GB (sB p) = true := by
 unfold sfit at hf
 rw [Bool.and_eq_true] at hf
 unfold GB
 rw [Bool.and_eq_true]
 exact ⟨GR_of (Rat.add_nonneg (GR_pos (GB_b h1)) (GR_pos (GB_b h2))) hf.1, GR_of (Rat.add_nonneg (GR_pos (GB_r h1)) (GR_pos (GB_r h2))) hf.2⟩
theorem do_err {e : Int} (he : e ≠ 0) {f : R → R → Option (R × Int)} {x y : R} : m_curve_calc_do ⟨e⟩ f x y = some (⟨0, 0⟩, ⟨e⟩) := by
 unfold m_curve_calc_do; rw [if_pos (by simpa using he)]
theorem do_ok {f : R → R → Option (R × Int)} {x y : R} {q : Rat} (h : f x y = some (mk q)) : m_curve_calc_do ⟨0⟩ f x y = some (if fits q then (ofQ q, ⟨0⟩) else (⟨0, 0⟩, ⟨3⟩)) := by
 unfold m_curve_calc_do
 rw [if_neg (by simp), h, Option.bind_some]
 unfold mk
 cases fits q <;> rfl
theorem sum_step {p : B × B} {out : List B} (h1 : GB p.1 = true) (h2 : GB p.2 = true) (hl : out.length < 1000) : m_curve_Sum_R4 p out 0 = some (true, (0, if sfit p then (out ++ [sB p], 0) else (out ++ [(⟨if fits (bq p.1 + bq p.2) then ofQ (bq p.1 + bq p.2) else ⟨0, 0⟩, ⟨0, 0⟩⟩ : B)], 3))) := by
 unfold m_curve_Sum_R4
 have a1 := do_ok (f := fun y0 y1 => m_rat_Add y0 y1) (add_eq (GR_V (GB_b h1)) (GR_V (GB_b h2)))
 have a2 := do_ok (f := fun y0 y1 => m_rat_Add y0 y1) (add_eq (GR_V (GB_r h1)) (GR_V (GB_r h2)))
 have e1 : val p.1.fBurst + val p.2.fBurst = bq p.1 + bq p.2 := rfl
 have e2 : val p.1.fRate + val p.2.fRate = rq p.1 + rq p.2 := rfl
 rw [e1] at a1; rw [e2] at a2
 rw [a1, Option.bind_some]
 unfold sfit sB
 cases hb : fits (bq p.1 + bq p.2) with
 | true =>
  rw [if_pos rfl]
  simp only []
  rw [a2, Option.bind_some]
  cases hr : fits (rq p.1 + rq p.2) <;> (simp only [Bool.false_eq_true, if_false, if_true, Bool.and_true, Bool.and_false, Bool.true_and]; rw [chk_pos (by simp only [List.length_append, List.length_cons, List.length_nil]; omega)])
 | false =>
  rw [if_neg Bool.false_ne_true]
  simp only []
  rw [do_err (by decide), Option.bind_some]
  simp only [Bool.false_eq_true, if_false, Bool.false_and]
  rw [chk_pos (by simp only [List.length_append, List.length_cons, List.length_nil]; omega)]
theorem sum_step3 {p : B × B} {out : List B} (hl : out.length < 1000) : m_curve_Sum_R4 p out 3 = some (true, (0, (out ++ [(⟨⟨0, 0⟩, ⟨0, 0⟩⟩ : B)], 3))) := by
 unfold m_curve_Sum_R4
 rw [do_err (by decide), Option.bind_some]
 simp only []
 rw [do_err (by decide), Option.bind_some]
 simp only []
 rw [chk_pos (by simp only [List.length_append, List.length_cons, List.length_nil]; omega)]
def SUM (a b : List B) : List B := (prod a b).map sB
theorem SUM_all {a b : List B} (ha : ∀ x ∈ a, GB x = true) (hb : ∀ x ∈ b, GB x = true) (hf : (prod a b).all sfit = true) : ∀ x ∈ SUM a b, GB x = true := by
 intro x hx
 obtain ⟨p, hp, rfl⟩ := List.mem_map.1 hx
 have := prod_mem.1 hp
 exact sB_GB (ha _ this.1) (hb _ this.2) (List.all_eq_true.1 hf p hp)
theorem Sum_eq {a b : List B} (ha : VC a = true) (hb : VC b = true) : m_curve_Sum a b = some (if (NORM a).length * (NORM b).length > 32 then ([], 5) else if (prod (NORM a) (NORM b)).all sfit then (NORM (SUM (NORM a) (NORM b)), 0) else ([], 3)) := by
 have la := VC_len ha; have lb := VC_len hb
 have na := NORM_len a; have nb := NORM_len b
 have ga := NORM_all (VC_all ha); have gb := NORM_all (VC_all hb)
 unfold m_curve_Sum
 rw [curve_valid, curve_valid, ha, hb, norm_eq (VC_all ha) (by omega), norm_eq (VC_all hb) (by omega)]
 simp only [Option.bind_some, Bool.not_true, Bool.false_eq_true, if_false]
 have hm : (NORM a).length * (NORM b).length ≤ 32 * 32 := Nat.mul_le_mul (by omega) (by omega)
 have hi : i64 (((NORM a).length : Int) * (NORM b).length) = (((NORM a).length * (NORM b).length : Nat) : Int) := by
  rw [← Int.natCast_mul]; exact i64_id (by omega)
 rw [hi]
 by_cases h : (NORM a).length * (NORM b).length > 32
 ·rw [if_pos (by simpa using by omega), if_pos h]
 ·rw [if_neg (by simpa using by omega), if_neg h]
  refine jp2_ex (P := fun o => o = _) fun k hk => ?_
  unfold m_curve_pairs
  rw [Option.bind_some]
  simp only []
  rw [pairs_eq (by omega) (by omega)]
  have hp := prod_length (NORM a) (NORM b)
  obtain ⟨o, ho⟩ := (run_err (y := fun (x : B × B) (s : Nat × List B × Int) => chk (s.1 = 0) (m_curve_Sum_R4 x s.2.1 s.2.2)) (ok := sfit) (g := fun p => [sB p]) (N := 40) (prod (NORM a) (NORM b)) [] (by rw [hp]; simp; omega) (by
   intro p hp
   have hm := prod_mem.1 hp
   refine ⟨by simp, fun out hl => ⟨fun hk => ?_, fun hk => ⟨out ++ [(⟨if fits (bq p.1 + bq p.2) then ofQ (bq p.1 + bq p.2) else ⟨0, 0⟩, ⟨0, 0⟩⟩ : B)], by simp, ?_⟩, ⟨out ++ [(⟨⟨0, 0⟩, ⟨0, 0⟩⟩ : B)], by simp, ?_⟩⟩⟩
   ·show chk (0 = 0) (m_curve_Sum_R4 p out 0) = _
    rw [chk_pos rfl, sum_step (ga _ hm.1) (gb _ hm.2) (by omega), hk, if_pos rfl]
   ·show chk (0 = 0) (m_curve_Sum_R4 p out 0) = _
    rw [chk_pos rfl, sum_step (ga _ hm.1) (gb _ hm.2) (by omega), hk, if_neg Bool.false_ne_true]
   ·show chk (0 = 0) (m_curve_Sum_R4 p out 3) = _
    rw [chk_pos rfl, sum_step3 (by omega)])).2
  rw [ho, Option.bind_some]
  simp only []
  rw [hk]
  cases hf : (prod (NORM a) (NORM b)).all sfit with
  | true =>
   simp only [if_true]
   rw [if_neg (by simp), List.nil_append]
   have e : (prod (NORM a) (NORM b)).flatMap (fun p => [sB p]) = SUM (NORM a) (NORM b) := by unfold SUM; exact List.map_eq_flatMap.symm
   rw [e, norm_eq (SUM_all ga gb hf) (by unfold SUM; rw [List.length_map, hp]; omega)]
   rfl
  | false => simp
theorem Sum_bad {a b : List B} (h : ¬ (VC a = true ∧ VC b = true)) : m_curve_Sum a b = some ([], 2) := by
 unfold m_curve_Sum
 rw [curve_valid, curve_valid]
 cases h1 : VC a <;> cases h2 : VC b <;> simp_all
/-! ### Min -/
theorem concat_eq {a b : List B} (ha : a.length ≤ 1000) (hb : b.length ≤ 1000) : m_slices_Concat_api_Curve_api_Bucket ([a, b] : List (List B)) = some (a ++ b) := by
 have n0 : nth ([a, b] : List (List B)) 0 = a := rfl
 have n1 : nth ([a, b] : List (List B)) 1 = b := rfl
 have l3 : ∀ (k : Int → Option (List B)) (n : Nat), m_slices_Concat_api_Curve_api_Bucket_L3 [a, b] k (n + 3) 0 0 = k ((a.length : Int) + b.length) := by
  intro k n
  rw [m_slices_Concat_api_Curve_api_Bucket_L3, if_pos (by simp), chk_pos (by simp), n0]
  rw [i64_id (x := 0 + (a.length : Int)) (by omega), i64_id (x := 0 + 1) (by omega), if_neg (by simp)]
  rw [m_slices_Concat_api_Curve_api_Bucket_L3, if_pos (by simp), chk_pos (by simp), show (0 : Int) + 1 = 1 from rfl, n1]
  rw [i64_id (x := 0 + (a.length : Int) + b.length) (by omega), i64_id (x := 1 + 1) (by omega), if_neg (by simp; omega)]
  rw [m_slices_Concat_api_Curve_api_Bucket_L3, if_neg (by simp)]
  congr 1; omega
 have l4 : ∀ (k : List B → Option (List B)) (n : Nat), m_slices_Concat_api_Curve_api_Bucket_L4 [a, b] k (n + 3) [] 0 = k (a ++ b) := by
  intro k n
  rw [m_slices_Concat_api_Curve_api_Bucket_L4, if_pos (by simp), chk_pos (by simp), n0, chk_pos (by simp; omega)]
  rw [i64_id (x := 0 + 1) (by omega)]
  rw [m_slices_Concat_api_Curve_api_Bucket_L4, if_pos (by simp), chk_pos (by simp), show (0 : Int) + 1 = 1 from rfl, n1, chk_pos (by simp; omega)]
  rw [i64_id (x := 1 + 1) (by omega)]
  rw [m_slices_Concat_api_Curve_api_Bucket_L4, if_neg (by simp)]
  rfl
 unfold m_slices_Concat_api_Curve_api_Bucket
 refine jp1_ex (P := fun o => o = _) fun k hk => ?_
 rw [show FUEL = (FUEL - 3) + 3 by rw [FUEL_eq], l3, hk]
 have hg : m_slices_Grow_api_Curve_api_Bucket ((a.length : Int) + b.length) = some [] := by
  unfold m_slices_Grow_api_Curve_api_Bucket
  rw [if_neg (by simp; omega)]
  refine jp1_ex (P := fun o => o = _) fun k hk => ?_
  rw [i64_id (by omega)]
  by_cases h : (a.length : Int) + b.length - 0 > 0
  ·rw [if_pos (decide_eq_true h), chk_pos (by omega), chk_pos (by omega), chk_pos (by omega), hk]
   rfl
  ·rw [if_neg (by simpa using h), hk]
 rw [hg, Option.bind_some]
 refine jp1_ex (P := fun o => o = _) fun k hk => ?_
 rw [show FUEL = (FUEL - 3) + 3 by rw [FUEL_eq], l4, hk]
theorem Min_eq {a b : List B} (ha : VC a = true) (hb : VC b = true) : m_curve_Min a b = some (if (NORM (a ++ b)).length > 32 then ([], 5) else (NORM (a ++ b), 0)) := by
 have la := VC_len ha; have lb := VC_len hb
 unfold m_curve_Min
 rw [curve_valid, curve_valid, ha, hb, concat_eq (by omega) (by omega)]
 simp only [Option.bind_some, Bool.not_true, Bool.false_eq_true, if_false]
 rw [norm_eq (fun x hx => ?_) (by rw [List.length_append]; omega), Option.bind_some]
 ·by_cases h : (NORM (a ++ b)).length > 32
  ·rw [if_pos (by simpa using by omega), if_pos h]
  ·rw [if_neg (by simpa using by omega), if_neg h]
 ·rcases List.mem_append.1 hx with h | h
  ·exact VC_all ha x h
  ·exact VC_all hb x h
theorem Min_bad {a b : List B} (h : ¬ (VC a = true ∧ VC b = true)) : m_curve_Min a b = some ([], 2) := by
 unfold m_curve_Min
 rw [curve_valid, curve_valid]
 cases h1 : VC a <;> cases h2 : VC b <;> simp_all
end Go.Proofs.Ytbihfglmcjkdhaa
