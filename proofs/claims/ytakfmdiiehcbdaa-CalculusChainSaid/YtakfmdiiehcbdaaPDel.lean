/- A part of this claim's proof: models of functions, walks, plain laws. No conditions. -/
import Derived.Test.YtakfmdiiehcbdaaPCg
namespace Go.Proofs.Ytakfmdiiehcbdaa
open Go Go.RowKit Sep
set_option linter.all false
abbrev SV := Sapi_Server
def VS (s : SV) : Bool := (V s.fRate && decide (s.fRate.fN > 0) && V s.fLatency) && decide (s.fLatency.fN ≥ 0)
theorem cvalid_eq (s : SV) : m_calculus_Valid s = some (VS s) := by
 unfold m_calculus_Valid VS
 rw [valid_eq, valid_eq, Option.bind_some, Option.bind_some]
 cases V s.fRate <;> cases decide (s.fRate.fN > 0) <;> simp
theorem VS_r {s : SV} (h : VS s = true) : V s.fRate = true ∧ 0 < s.fRate.fN ∧ V s.fLatency = true ∧ 0 ≤ s.fLatency.fN := by
 simp only [VS, Bool.and_eq_true, decide_eq_true_eq] at h
 exact ⟨h.1.1.1, h.1.1.2, h.1.2, h.2⟩
def RS (s : SV) : Rat := val s.fRate
def LS (s : SV) : Rat := val s.fLatency
theorem RS_pos {s : SV} (h : VS s = true) : 0 < RS s := by
 obtain ⟨h1, h2, _, _⟩ := VS_r h
 have h3 : 0 < (val s.fRate).num := by rw [(V_num h1).1]; exact h2
 have h4 : 0 ≤ val s.fRate := Rat.num_nonneg.1 (by omega)
 refine Rat.not_le.1 fun h5 => ?_
 have h6 : RS s = 0 := Rat.le_antisymm h5 h4
 rw [show val s.fRate = 0 from h6] at h3
 exact absurd h3 (by decide)
theorem LS_nonneg {s : SV} (h : VS s = true) : 0 ≤ LS s := by
 obtain ⟨_, _, h1, h2⟩ := VS_r h
 exact Rat.num_nonneg.1 (by show 0 ≤ (val s.fLatency).num; rw [(V_num h1).1]; exact h2)
theorem zero_eq : m_calculus_zero = some ⟨0, 1⟩ := rfl
theorem V_zero : V ⟨0, 1⟩ = true := by decide +kernel
theorem GR_zero : GR ⟨0, 1⟩ = true := by decide +kernel
theorem val_zero : val ⟨0, 1⟩ = 0 := by decide +kernel
theorem fits_zero : fits 0 = true := by decide +kernel
theorem cdo_ok {f : R → R → Option (R × Int)} {x y : R} {q : Rat} (h : f x y = some (mk q)) : m_calculus_calc_do ⟨0⟩ f x y = some (if fits q then (ofQ q, ⟨0⟩) else (⟨0, 1⟩, ⟨3⟩)) := by
 unfold m_calculus_calc_do
 rw [if_neg (by simp), h, Option.bind_some, zero_eq]
 unfold mk
 cases fits q <;> rfl
theorem cdo_err {e : Int} (he : e ≠ 0) {f : R → R → Option (R × Int)} {x y : R} : m_calculus_calc_do ⟨e⟩ f x y = some (⟨0, 1⟩, ⟨e⟩) := by
 unfold m_calculus_calc_do; rw [if_pos (by simpa using he), zero_eq]; rfl
/-! ### a single bucket -/
theorem VC_one {b : B} (hb : GB b = true) : VC [b] = true := VC_of (fun x hx => by rw [List.mem_singleton.1 hx]; exact hb) (by simp) (by simp)
theorem breaks_one {b : B} (hb : GB b = true) : m_curve_Breaks [b] = some ([], 0) := by
 have h := Breaks_eq (VC_one hb)
 have hm : ∀ x ∈ NORM [b], x = b := fun x hx => List.mem_singleton.1 (NORM_sub hx)
 have hbl : ∀ p : B × B, p.1 ∈ NORM [b] ∧ p.2 ∈ NORM [b] → bl p = false := by
  intro p hp
  unfold bl
  rw [hm _ hp.1, hm _ hp.2]
  exact decide_eq_false (by grind)
 rw [if_pos] at h
 ·obtain ⟨r, e, _, h2, _⟩ := h
  have : r = [] := by
   cases r with
   | nil => rfl
   | cons x r =>
    obtain ⟨p, hp, h3, _⟩ := (h2 x).1 (by simp)
    rw [hbl p hp] at h3
    cases h3
  rw [e, this]
 ·rw [List.all_eq_true]
  intro p hp
  unfold bok
  rw [hbl p (prod_mem.1 hp)]
  rfl
theorem vq_zero (b : B) : vq 0 b = bq b := by unfold vq; rw [Rat.mul_zero, Rat.add_zero]
theorem vfit_zero {b : B} (hb : GB b = true) : vfit 0 b = true := by
 unfold vfit
 rw [vq_zero, Rat.mul_zero, fits_zero, Bool.true_and]
 exact fits_val (GR_V (GB_b hb))
theorem at_one {b : B} (hb : GB b = true) : m_curve_At [b] ⟨0, 1⟩ = some (b.fBurst, 0) := by
 rw [at_ok (VC_one hb) GR_zero (fun x hx => by rw [List.mem_singleton.1 hx, val_zero]; exact vfit_zero hb), val_zero]
 have : AT [b] 0 = bq b := vq_zero b
 rw [this]
 unfold bq
 rw [ofQ_val (GR_V (GB_b hb))]
theorem rate_one {b : B} (hb : GB b = true) : m_curve_Rate [b] = some (b.fRate, 0) := by
 obtain ⟨d, e, hd, _⟩ := rate_ok (VC_one hb)
 rw [e, List.mem_singleton.1 hd]
theorem check_one {b : B} {s : SV} {c : List (List B)} {t : SV} {m : List R} (hb : GB b = true) (hs : VS s = true) : m_calculus_search_check [[b]] s c t m = some (if RS s < rq b then 6 else 0) := by
 unfold m_calculus_search_check
 have hF : 2 ≤ FUEL := by rw [FUEL_eq]; omega
 have h1 : m_slices_ContainsFunc_api_Curve_api_Curve [[b]] (fun y0 => m_calculus_search_check_1 y0) = some ([[b]].any fun c => !VC c) :=
  contains_func (index_func (L := fun k => m_slices_IndexFunc_api_Curve_api_Curve_L2 [[b]] (fun y0 => m_calculus_search_check_1 y0) k) (fun _ _ _ => rfl) (fun x _ => by unfold m_calculus_search_check_1; rw [curve_valid]; rfl) (by simp))
 have h2 : ([[b]].any fun c => !VC c) = false := by simp [VC_one hb]
 rw [if_neg (by simp), h1, h2, cvalid_eq, hs, zero_eq]
 simp only [Option.bind_some, Bool.not_true, Bool.false_eq_true, if_false]
 refine jp3_ex (P := fun o => o = _) fun k hk => ?_
 have e0 : val ⟨0, 1⟩ + val b.fRate = rq b := by rw [val_zero, Rat.zero_add]; rfl
 have step : ∀ n : Nat, m_calculus_search_check_L2 [[b]] k (n + 2) 0 0 0 1 = k 0 b.fRate.fN b.fRate.fD := by
  intro n
  have hn : nth ([[b]] : List (List B)) 0 = [b] := rfl
  rw [m_calculus_search_check_L2, if_pos (by simp), chk_pos (by simp), hn, breaks_one hb, Option.bind_some, if_neg (by simp), rate_one hb, Option.bind_some]
  simp only []
  have a1 := cdo_ok (f := fun y0 y1 => m_rat_Add y0 y1) (add_eq V_zero (GR_V (GB_r hb)))
  rw [e0, show fits (rq b) = true from fits_val (GR_V (GB_r hb)), if_pos rfl, show ofQ (rq b) = b.fRate from ofQ_val (GR_V (GB_r hb))] at a1
  rw [a1, Option.bind_some, m_calculus_search_check_L2, if_neg (by simp [i64_id])]
 obtain ⟨n, hn⟩ : ∃ n, FUEL = n + 2 := ⟨FUEL - 2, by omega⟩
 rw [hn, step n, hk, if_pos (by simp)]
 show Option.bind (Option.bind (m_rat_Cmp b.fRate s.fRate) _) _ = _
 rw [cmp_eq (GR_V (GB_r hb)) (VS_r hs).1, Option.bind_some, Option.bind_some]
 have ec : cmpQ (val b.fRate) (val s.fRate) = cmpQ (rq b) (RS s) := rfl
 rw [ec]
 by_cases h : RS s < rq b
 ·rw [if_pos h, if_pos (decide_eq_true (cmpQ_gt.2 h))]
 ·rw [if_neg h, if_neg (fun h' => h (cmpQ_gt.1 (of_decide_eq_true h')))]
where jp3_ex {R A0 A1 A2 : Type} {K : A0 → A1 → A2 → Option R} {F : (A0 → A1 → A2 → Option R) → Option R} {P : Option R → Prop} (h : ∀ k : A0 → A1 → A2 → Option R, (∀ x0 x1 x2, k x0 x1 x2 = K x0 x1 x2) → P (F k)) : P (jp3 K F) := h K fun _ _ _ => rfl
theorem jp3_ex {R A0 A1 A2 : Type} {K : A0 → A1 → A2 → Option R} {F : (A0 → A1 → A2 → Option R) → Option R} {P : Option R → Prop} (h : ∀ k : A0 → A1 → A2 → Option R, (∀ x0 x1 x2, k x0 x1 x2 = K x0 x1 x2) → P (F k)) : P (jp3 K F) := h K fun _ _ _ => rfl
theorem total_one {b : B} (hb : GB b = true) : m_calculus_calc_total ⟨0⟩ [[b]] ⟨0, 1⟩ = some (b.fBurst, ⟨0⟩) := by
 unfold m_calculus_calc_total
 have hF : 2 ≤ FUEL := by rw [FUEL_eq]; omega
 rw [zero_eq, Option.bind_some]
 refine jp3_ex (P := fun o => o = _) fun k hk => ?_
 have e0 : val ⟨0, 1⟩ + val b.fBurst = bq b := by rw [val_zero, Rat.zero_add]; rfl
 have step : ∀ n : Nat, m_calculus_calc_total_L2 [[b]] ⟨0, 1⟩ k (n + 2) 0 0 0 1 = k b.fBurst.fN b.fBurst.fD 0 := by
  intro n
  have hn : nth ([[b]] : List (List B)) 0 = [b] := rfl
  rw [m_calculus_calc_total_L2, if_pos (by simp), chk_pos (by simp), hn, at_one hb, Option.bind_some]
  refine jp1_ex (P := fun o => o = _) fun k1 hk1 => ?_
  rw [if_pos (by simp), hk1]
  have a1 := cdo_ok (f := fun y0 y1 => m_rat_Add y0 y1) (add_eq V_zero (GR_V (GB_b hb)))
  rw [e0, show fits (bq b) = true from fits_val (GR_V (GB_b hb)), if_pos rfl, show ofQ (bq b) = b.fBurst from ofQ_val (GR_V (GB_b hb))] at a1
  rw [a1, Option.bind_some, m_calculus_calc_total_L2, if_neg (by simp [i64_id])]
 obtain ⟨n, hn⟩ : ∃ n, FUEL = n + 2 := ⟨FUEL - 2, by omega⟩
 rw [hn]
 refine (step n).trans ?_
 rw [hk]
def D1 (b : B) (s : SV) : Rat := bq b / RS s + LS s
def d1fit (b : B) (s : SV) : Bool := fits (bq b / RS s) && fits (D1 b s)
theorem RS_ne {s : SV} (h : VS s = true) : s.fRate.fN ≠ 0 := by have := (VS_r h).2.1; omega
theorem value_one {b : B} {s : SV} (hb : GB b = true) (hs : VS s = true) : m_calculus_Delay_1 ⟨0⟩ ⟨0, 1⟩ [[b]] s = some (if d1fit b s then (ofQ (D1 b s), ⟨0⟩) else (⟨0, 1⟩, ⟨3⟩)) := by
 obtain ⟨v1, v2, v3, v4⟩ := VS_r hs
 unfold m_calculus_Delay_1
 rw [total_one hb, Option.bind_some]
 simp only []
 have a1 := cdo_ok (f := fun y0 y1 => m_rat_Div y0 y1) (div_eq (GR_V (GB_b hb)) v1 (RS_ne hs))
 have e1 : val b.fBurst / val s.fRate = bq b / RS s := rfl
 rw [e1] at a1
 unfold d1fit
 rw [a1, Option.bind_some]
 cases f1 : fits (bq b / RS s) with
 | false =>
  rw [if_neg Bool.false_ne_true]
  simp only []
  rw [cdo_err (by decide), Option.bind_some]
  simp only []
  rw [cdo_err (by decide), Option.bind_some]
  rfl
 | true =>
  rw [if_pos rfl]
  simp only []
  have a2 := cdo_ok (f := fun y0 y1 => m_rat_Sub y0 y1) (sub_eq (V_ofQ f1) V_zero)
  rw [val_ofQ, val_zero, Rat.sub_eq_add_neg, Rat.neg_zero, Rat.add_zero, f1, if_pos rfl] at a2
  rw [a2, Option.bind_some]
  simp only []
  have a3 := cdo_ok (f := fun y0 y1 => m_rat_Add y0 y1) (add_eq (V_ofQ f1) v3)
  have e3 : val (ofQ (bq b / RS s)) + val s.fLatency = D1 b s := by rw [val_ofQ]; rfl
  rw [e3] at a3
  rw [a3, Option.bind_some, Bool.true_and]
theorem points_one {Sg : Type} {b : B} {y : R → Sg → Option (Bool × Sg)} {s0 s1 : Sg} {t t' : SV} {c : List (List B)} (hb : GB b = true) (hy : y ⟨0, 1⟩ s0 = some (true, s1)) : m_calculus_search_points_1 Sg y s0 [[b]] t c t' [] = some s1 := by
 unfold m_calculus_search_points_1
 have hF : 2 ≤ FUEL := by rw [FUEL_eq]; omega
 obtain ⟨n, hn⟩ : ∃ n, FUEL = n + 2 := ⟨FUEL - 2, by omega⟩
 rw [zero_eq, Option.bind_some, hy, Option.bind_some, if_neg (by simp)]
 refine jp1_ex (P := fun o => o = _) fun k hk => ?_
 have h6 : ∀ (k' : Sg → Option Sg) (n : Nat) (s : Sg), m_calculus_search_points_1_L6 Sg [] y k' (n + 1) 0 s = k' s := by
  intro k' n s
  rw [m_calculus_search_points_1_L6, if_neg (by simp)]
 have h4 : ∀ n : Nat, m_calculus_search_points_1_L4 Sg [[b]] y k (n + 2) 0 s1 = k s1 := by
  intro n
  have hnn : nth ([[b]] : List (List B)) 0 = [b] := rfl
  rw [m_calculus_search_points_1_L4, if_pos (by simp)]
  refine jp1_ex (P := fun o => o = _) fun k1 hk1 => ?_
  rw [chk_pos (by simp), hnn, breaks_one hb, Option.bind_some]
  refine jp1_ex (P := fun o => o = _) fun k2 hk2 => ?_
  have h5 : ∀ m : Nat, m_calculus_search_points_1_L5 Sg ([], 0) y k2 (m + 1) 0 s1 = k2 s1 := by
   intro m
   rw [m_calculus_search_points_1_L5, if_neg (by simp)]
  obtain ⟨m, hm⟩ : ∃ m, FUEL = m + 1 := ⟨FUEL - 1, by omega⟩
  rw [hm, h5, hk2, hk1, m_calculus_search_points_1_L4, if_neg (by simp [i64_id])]
 rw [hn, h4, hk]
 refine jp1_ex (P := fun o => o = _) fun k3 hk3 => ?_
 obtain ⟨m, hm⟩ : ∃ m, FUEL = m + 1 := ⟨FUEL - 1, by omega⟩
 rw [hm, h6, hk3]
theorem delay_one {b : B} {s : SV} (hb : GB b = true) (hs : VS s = true) : m_calculus_Delay [[b]] s = some (if RS s < rq b then (⟨0, 0⟩, 6) else if d1fit b s then (ofQ (D1 b s), 0) else (⟨0, 0⟩, 3)) := by
 unfold m_calculus_Delay m_calculus_search_max
 rw [check_one hb hs, Option.bind_some]
 by_cases h : RS s < rq b
 ·rw [if_pos h, if_pos h, if_pos (by decide), Option.bind_some]
 ·rw [if_neg h, if_neg h, if_neg (by decide)]
  have key : ∀ (o : Option (R × Int)) (x : R × Int), o = some x → (o.bind fun z93 => some (z93.1, z93.2)) = some x := by
   intro o x h; rw [h]; rfl
  apply key
  refine jp2_ex (P := fun o => o = _) fun k hk => ?_
  unfold m_calculus_search_points
  rw [Option.bind_some]
  have hy : (fun (x : R) (s' : Nat × List R × Int) => chk (s'.1 = 0) (m_calculus_search_max_R4 [[b]] s x s'.2.1 s'.2.2)) ⟨0, 1⟩ (0, ([] : List R), 0) = some (true, (0, [if d1fit b s then ofQ (D1 b s) else ⟨0, 1⟩], if d1fit b s then 0 else 3)) := by
   show chk (0 = 0) (m_calculus_search_max_R4 [[b]] s ⟨0, 1⟩ [] 0) = _
   rw [chk_pos rfl]
   unfold m_calculus_search_max_R4
   rw [value_one hb hs, Option.bind_some, if_pos (by simp), Option.bind_some, if_pos rfl]
   cases d1fit b s <;> rfl
  rw [points_one hb hy, Option.bind_some, hk]
  cases d1fit b s with
  | true =>
   simp only [if_true]
   rw [if_neg (by simp), chk_pos (by simp)]
   rfl
  | false => simp
end Go.Proofs.Ytakfmdiiehcbdaa
