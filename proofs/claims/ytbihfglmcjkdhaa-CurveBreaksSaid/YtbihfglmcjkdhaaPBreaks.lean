/- A part of this claim's proof: models of functions, walks, plain laws. No conditions. -/
import Derived.Test.YtbihfglmcjkdhaaP02g
import Derived.Test.YtbihfglmcjkdhaaP02w
import Derived.Test.YtbihfglmcjkdhaaWCurveBreaks
namespace Go.Proofs.Ytbihfglmcjkdhaa
open Go Go.RowKit Sep
set_option linter.all false
theorem SB.bpfit {p : B × B} (h1 : SB p.1) (h2 : SB p.2) (hd : bl p = true → rq p.2 < rq p.1) : bok p = true := by
  unfold bok
  cases hb : bl p with
  | false => rfl
  | true =>
    have g1 : G (100 + 100) 1 (bpA p) := h2.2.1.sub (by omega) h1.2.1
    have g2 : G (5 + 5) 8 (bpD p) := h1.2.2.sub (by omega) h2.2.2
    have hpos : 0 < bpD p := by have := hd hb; unfold bpD; grind
    have f1 := g1.fits (by omega) (by omega) (by omega)
    have f2 := g2.fits (by omega) (by omega) (by omega)
    obtain ⟨n, hn, en⟩ := g1
    obtain ⟨j, hj, ej⟩ := g2
    have hj0 : 0 < j := by
      rw [ej] at hpos
      rcases Int.lt_or_le 0 j with h | h
      · exact h
      · have : Rat.divInt (-j) ((8 : Nat) : Int) ≥ 0 := Rat.divInt_nonneg (by omega) (by omega)
        rw [← Rat.neg_divInt] at this
        grind
    unfold bfit
    rw [f1, f2]
    simp only [Bool.not_true, Bool.false_or, Bool.true_and]
    unfold bp
    rw [en, ej, Rat.div_def, Rat.inv_divInt, Rat.divInt_mul_divInt]
    exact fits_divInt (by omega) (by omega)
theorem SC.breaks {c : List B} (h : SC c) : ∃ r, m_curve_Breaks c = some (r, 0) ∧ Inc r ∧ (∀ v, v ∈ r ↔ ∃ p, (p.1 ∈ NORM c ∧ p.2 ∈ NORM c) ∧ bl p = true ∧ v = ofQ (bp p)) ∧ (∀ v ∈ r, V v = true) ∧ r.length ≤ 1100 := by
  have := Breaks_eq h.VC
  rwa [if_pos] at this
  rw [List.all_eq_true]
  intro p hp
  have hm := prod_mem.1 hp
  exact (h.2.2 _ (NORM_sub hm.1)).bpfit (h.2.2 _ (NORM_sub hm.2)) (fun h => mem_order NORM_sorted hm.1 hm.2 (of_decide_eq_true h))
theorem bp_mul {p : B × B} (h : 0 < bpD p) : bp p * bpD p = bpA p := by
  unfold bp
  exact Rat.div_mul_cancel (by grind)
theorem bp_gt {p : B × B} {t : Rat} (h : 0 < bpD p) (ht : vq t p.1 < vq t p.2) : t < bp p := by
  have e := bp_mul h
  refine Rat.not_le.1 fun hle => ?_
  have := Rat.mul_le_mul_of_nonneg_right hle (Rat.le_of_lt h)
  unfold vq at ht; unfold bpA bpD at *
  grind
theorem bp_le {p : B × B} {t : Rat} (h : 0 < bpD p) (ht : vq t p.2 ≤ vq t p.1) : bp p ≤ t := by
  have e := bp_mul h
  refine Rat.not_lt.1 fun hlt => ?_
  have := Rat.mul_lt_mul_of_pos_right hlt h
  unfold vq at ht; unfold bpA bpD at *
  grind
theorem bp_lt {p : B × B} {t : Rat} (h : 0 < bpD p) (ht : vq t p.2 < vq t p.1) : bp p < t := by
  have e := bp_mul h
  refine Rat.not_le.1 fun hle => ?_
  have := Rat.mul_le_mul_of_nonneg_right hle (Rat.le_of_lt h)
  unfold vq at ht; unfold bpA bpD at *
  grind
theorem bp_ge {p : B × B} {t : Rat} (h : 0 < bpD p) (ht : vq t p.1 ≤ vq t p.2) : t ≤ bp p := by
  have e := bp_mul h
  refine Rat.not_lt.1 fun hlt => ?_
  have := Rat.mul_lt_mul_of_pos_right hlt h
  unfold vq at ht; unfold bpA bpD at *
  grind
theorem order_inv : ∀ {l : List B}, (l.Pairwise fun x y => bq x < bq y ∧ rq y < rq x) → ∀ {x y : B}, x ∈ l → y ∈ l → rq y < rq x → bq x < bq y
  | [], _, x, y, hx, _, _ => by simp at hx
  | z :: l, h, x, y, hx, hy, hxy => by
    obtain ⟨h1, h2⟩ := List.pairwise_cons.1 h
    rcases List.mem_cons.1 hx with e | hx'
    · subst e
      rcases List.mem_cons.1 hy with e | hy'
      · subst e; grind
      · exact (h1 y hy').1
    · rcases List.mem_cons.1 hy with e | hy'
      · subst e; have := (h1 x hx').2; grind
      · exact order_inv h2 hx' hy' hxy
theorem AT_ex {c : List B} (h : c ≠ []) (t : Rat) : ∃ b ∈ c, AT c t = vq t b := by
  obtain ⟨b, hb, e⟩ := List.mem_map.1 (AT_is (t := t) h).1
  exact ⟨b, hb, e.symm⟩
theorem AT_low {c : List B} {t : Rat} {b : B} (hb : b ∈ c) : AT c t ≤ vq t b := (AT_is (t := t) (List.ne_nil_of_mem hb)).2 _ (List.mem_map_of_mem hb)
/-- linear between breakpoints -/
theorem linear {nn : List B} (hne : nn ≠ []) (hs : nn.Pairwise fun x y => bq x < bq y ∧ rq y < rq x) {x y z : Rat} (hxy : x ≤ y) (hz : z + z = x + y)
    (hno : ∀ p : B × B, p.1 ∈ nn → p.2 ∈ nn → bq p.1 < bq p.2 → ¬ (x < bp p ∧ bp p < y)) : AT nn z + AT nn z = AT nn x + AT nn y := by
  obtain ⟨b, hb, eb⟩ := AT_ex hne z
  have hmin : ∀ b' ∈ nn, vq z b ≤ vq z b' := fun b' h => by rw [← eb]; exact AT_low h
  have hX : AT nn x = vq x b := by
    refine minQ_eq ⟨List.mem_map_of_mem hb, fun q hq => ?_⟩
    obtain ⟨b', hb', rfl⟩ := List.mem_map.1 hq
    refine Rat.not_lt.1 fun hlt => ?_
    have h1 := hmin b' hb'
    have hr : rq b < rq b' := by
      refine Rat.not_le.1 fun hle => ?_
      have h2 := Rat.mul_le_mul_of_nonneg_right hle (show 0 ≤ z - x by grind)
      unfold vq at hlt h1; grind
    have hbq := order_inv hs hb' hb hr
    have hD : 0 < bpD (b', b) := by unfold bpD; grind
    have g1 := bp_gt (p := (b', b)) hD hlt
    have g2 := bp_le (p := (b', b)) hD h1
    exact hno (b', b) hb' hb hbq ⟨g1, by grind⟩
  have hY : AT nn y = vq y b := by
    refine minQ_eq ⟨List.mem_map_of_mem hb, fun q hq => ?_⟩
    obtain ⟨b', hb', rfl⟩ := List.mem_map.1 hq
    refine Rat.not_lt.1 fun hlt => ?_
    have h1 := hmin b' hb'
    have hr : rq b' < rq b := by
      refine Rat.not_le.1 fun hle => ?_
      have h2 := Rat.mul_le_mul_of_nonneg_right hle (show 0 ≤ y - z by grind)
      unfold vq at hlt h1; grind
    have hbq := order_inv hs hb hb' hr
    have hD : 0 < bpD (b, b') := by unfold bpD; grind
    have g1 := bp_lt (p := (b, b')) hD hlt
    have g2 := bp_ge (p := (b, b')) hD h1
    exact hno (b, b') hb hb' hbq ⟨by grind, g1⟩
  rw [hX, hY, eb]
  have : rq b * z + rq b * z = rq b * x + rq b * y := by rw [← Rat.mul_add, hz, Rat.mul_add]
  unfold vq
  grind
theorem brk_loop {r : List R} {e : Int} {x y : R} {k : Option Bool} (hs : (r.length : Int) ≤ 1000000) (hV : ∀ v ∈ r, V v = true) (hi : Inc r) (hpos : ∀ v ∈ r, 0 < v.fN) (hx : V x = true) (hy : V y = true) :
    ∀ (n : Nat) (v : Int), 0 ≤ v → v ≤ r.length → r.length < n + v → (∀ b ∈ r.take v.toNat, ¬ (val x < val b ∧ val b < val y)) →
      m_law02_CurveBreaks_L2 (r, e) x.fN x.fD y.fN y.fD k n v = some true ∨ ((∀ b ∈ r, ¬ (val x < val b ∧ val b < val y)) ∧ m_law02_CurveBreaks_L2 (r, e) x.fN x.fD y.fN y.fD k n v = k)
  | 0, v, h0, h1, h2, h3 => by omega
  | n + 1, v, h0, h1, h2, h3 => by
    rw [m_law02_CurveBreaks_L2]
    by_cases h : v < r.length
    · rw [if_pos (decide_eq_true h), chk_pos ⟨h0, h⟩]
      have hm := nth_mem h0 h
      have p1 := hpos _ hm
      rw [if_neg (by simpa using p1)]
      have hc1 : (if decide (v > 0) then chk ((0 : Int) ≤ (i64 (v - 1)) ∧ (i64 (v - 1)) < ((r.length : Nat) : Int)) ((m_rat_Cmp (⟨((nth r (i64 (v - 1))).fN), ((nth r (i64 (v - 1))).fD)⟩ : Sapi_Rat) (⟨((nth r v).fN), ((nth r v).fD)⟩ : Sapi_Rat)).bind fun x_31591 => some (decide (x_31591 ≥ 0))) else some false) = some false := by
        by_cases hv : v > 0
        · rw [if_pos (decide_eq_true hv), i64_id (by omega), chk_pos (by omega)]
          have hm' := nth_mem (l := r) (i := v - 1) (by omega) (by omega)
          have hlt : val (nth r (v - 1)) < val (nth r v) := by
            have := List.pairwise_iff_getElem.1 hi (v - 1).toNat v.toNat (by omega) (by omega) (by omega)
            rw [nth_lt (by omega) (by omega), nth_lt (by omega) (by omega)] at this
            exact this
          show Option.bind (m_rat_Cmp (nth r (v - 1)) (nth r v)) _ = _
          rw [cmp_eq (hV _ hm') (hV _ hm), Option.bind_some]
          have := cmpQ_lt.2 hlt
          congr 1
          exact decide_eq_false (by omega)
        · rw [if_neg (by simpa using hv)]
      have hc2 : ((m_rat_Cmp (nth r v) x).bind fun x_31613 => (if decide (x_31613 > 0) then (m_rat_Cmp (nth r v) y).bind fun x_31615 => some (decide (x_31615 < 0)) else some false)) = some (decide (val x < val (nth r v) ∧ val (nth r v) < val y)) := by
        rw [cmp_eq (hV _ hm) hx, cmp_eq (hV _ hm) hy, Option.bind_some, Option.bind_some]
        by_cases g1 : val x < val (nth r v)
        · rw [if_pos (decide_eq_true (cmpQ_gt.2 g1))]
          congr 1
          rw [decide_eq_decide]
          exact ⟨fun h => ⟨g1, cmpQ_lt.1 h⟩, fun h => cmpQ_lt.2 h.2⟩
        · rw [if_neg (fun h => g1 (cmpQ_gt.1 (of_decide_eq_true h)))]
          congr 1
          symm
          exact decide_eq_false fun h => g1 h.1
      have hstep : ∀ o, (Option.bind (m_rat_Cmp (nth r v) x) fun x_31613 => (if decide (x_31613 > 0) then (m_rat_Cmp (nth r v) y).bind fun x_31615 => some (decide (x_31615 < 0)) else some false).bind fun b_31617 => if b_31617 then (m_law02_awake).bind fun x_31624 => some x_31624 else o) = if decide (val x < val (nth r v) ∧ val (nth r v) < val y) then some true else o := by
        intro o
        rw [← Option.bind_assoc, hc2, Option.bind_some, awake_eq]
        rfl
      rw [hc1, Option.bind_some, Option.bind_some, if_neg Bool.false_ne_true]
      rw [i64_id (by omega)]
      have hst := hstep (m_law02_CurveBreaks_L2 (r, e) x.fN x.fD y.fN y.fD k n (v + 1))
      by_cases g : val x < val (nth r v) ∧ val (nth r v) < val y
      · left
        rw [if_pos (decide_eq_true g)] at hst
        exact hst
      · rw [if_neg (by simpa using g)] at hst
        have h3' : ∀ b ∈ r.take (v + 1).toNat, ¬ (val x < val b ∧ val b < val y) := by
          intro b hb
          rw [take_succ r h0 h] at hb
          rcases List.mem_append.1 hb with hb | hb
          · exact h3 b hb
          · obtain rfl := List.mem_singleton.1 hb
            exact g
        rcases brk_loop hs hV hi hpos hx hy n (v + 1) (by omega) (by omega) (by omega) h3' (e := e) (k := k) with h4 | h4
        · left; exact hst.trans h4
        · right; exact ⟨h4.1, hst.trans h4.2⟩
    · rw [if_neg (by simpa using h)]
      right
      refine ⟨fun b hb => h3 b ?_, rfl⟩
      rwa [List.take_of_length_le (by omega)]
theorem SB.valk {b : B} {m k : Nat} (hk : 0 < k) {t : Rat} (h : SB b) (ht : G m k t) : G (5 * m) (8 * k) (rq b * t) ∧ G (100 + 5 * m) (8 * k) (vq t b) := by
  have h1 := h.2.2.mul ht
  refine ⟨h1, ?_⟩
  have h2 := h.2.1.fine (8 * k) (by omega)
  rw [Nat.one_mul] at h2
  exact h2.add (by omega) h1
theorem SC.law_atk {c : List B} {m k : Nat} {t : R} (h : SC c) (hk : 0 < k) (hk2 : k ≤ 1000) (hm : m ≤ 4000) (h0 : GR t = true) (ht : G m k (val t)) : m_law02_at c t = some (ofQ (AT c (val t)), true) ∧ G (100 + 5 * m) (8 * k) (AT c (val t)) := by
  constructor
  · refine law_at_ok h.VC h0 fun b hb => ?_
    have hv := (h.2.2 b hb).valk hk ht
    have b1 : (5 * m) * (8 * k) ≤ (5 * 4000) * (8 * 1000) := Nat.mul_le_mul (by omega) (by omega)
    have b2 : (100 + 5 * m) * (8 * k) ≤ (100 + 5 * 4000) * (8 * 1000) := Nat.mul_le_mul (by omega) (by omega)
    unfold Ytbihfglmcjkdhaa.vfit
    rw [Bool.and_eq_true]
    exact ⟨hv.1.fits (by omega) (by omega) (by omega), hv.2.fits (by omega) (by omega) (by omega)⟩
  · obtain ⟨b, hb, e⟩ := AT_ex h.ne (val t)
    rw [e]
    exact ((h.2.2 b hb).valk hk ht).2
/-- the law behind the loop -/
theorem brk_end {c : List B} {x y : R} (hc : SC c) (hx : PT x) (hy : PT y) (hxy : val x ≤ val y)
    (hno : ∀ p : B × B, p.1 ∈ NORM c → p.2 ∈ NORM c → bq p.1 < bq p.2 → ¬ (val x < bp p ∧ bp p < val y)) :
    ((m_rat_Add x y).bind fun x_31630 => (m_law02_num 2 1).bind fun x_31634 => (m_rat_Div x_31630.1 x_31634).bind fun x_31636 => (m_law02_at c x).bind fun x_31641 => (m_law02_at c y).bind fun x_31645 => (m_law02_at c x_31636.1).bind fun x_31649 => (m_rat_Add x_31641.1 x_31645.1).bind fun x_31653 => (m_rat_Add x_31649.1 x_31649.1).bind fun x_31657 => (if (((x_31641.2 && x_31645.2) && x_31649.2) && (decide ((i64 ((i64 ((i64 (x_31630.2 + x_31636.2)) + x_31653.2)) + x_31657.2)) = 0))) && (decide (x_31657.1 = x_31653.1)) then (m_law02_awake).bind fun x_31661 => some x_31661 else some false).bind fun b_31665 => some b_31665) = some true := by
  obtain ⟨hx, gx⟩ := hx; obtain ⟨hy, gy⟩ := hy
  have px := GR_pos hx; have py := GR_pos hy
  have gs := gx.add (by omega) gy
  have fs := gs.fits (by omega) (by omega) (by omega)
  have e2 : val ⟨2, 1⟩ = 2 := by decide +kernel
  have v2 : V ⟨2, 1⟩ = true := by decide +kernel
  have half : G 1 2 (2⁻¹ : Rat) := ⟨1, by omega, by decide +kernel⟩
  have gz := gs.mul half
  rw [← Rat.div_def] at gz
  have fz := gz.fits (by omega) (by omega) (by omega)
  have pz : 0 ≤ (val x + val y) / 2 := by
    rw [Rat.div_def]
    exact Rat.mul_nonneg (Rat.add_nonneg px py) (by decide +kernel)
  have hz := GR_of pz fz
  have ez : val (ofQ ((val x + val y) / 2)) = (val x + val y) / 2 := val_ofQ _
  obtain ⟨ax, ga⟩ := hc.law_atk (m := 1000) (k := 4) (by omega) (by omega) (by omega) hx gx
  obtain ⟨ay, gb⟩ := hc.law_atk (m := 1000) (k := 4) (by omega) (by omega) (by omega) hy gy
  obtain ⟨az, gv⟩ := hc.law_atk (m := (1000 + 1000) * 1) (k := 4 * 2) (by omega) (by omega) (by omega) hz (by rw [ez]; exact gz)
  rw [ez] at az gv
  have fa := ga.fits (by omega) (by omega) (by omega)
  have fb := gb.fits (by omega) (by omega) (by omega)
  have fv := gv.fits (by omega) (by omega) (by omega)
  have fab := (ga.add (by omega) gb).fits (by omega) (by omega) (by omega)
  have fvv := (gv.add (by omega) gv).fits (by omega) (by omega) (by omega)
  unfold m_law02_num
  rw [add_eq (GR_V hx) (GR_V hy), mk_fits fs, Option.bind_some, Option.bind_some]
  simp only []
  rw [div_eq (V_ofQ fs) v2 (by decide), val_ofQ, e2, mk_fits fz, Option.bind_some, ax, ay, Option.bind_some, Option.bind_some]
  simp only []
  rw [az, Option.bind_some]
  simp only []
  rw [add_eq (V_ofQ fa) (V_ofQ fb), val_ofQ, val_ofQ, mk_fits fab, Option.bind_some, add_eq (V_ofQ fv) (V_ofQ fv), val_ofQ, mk_fits fvv, Option.bind_some]
  have hlin : AT c ((val x + val y) / 2) + AT c ((val x + val y) / 2) = AT c (val x) + AT c (val y) := by
    have := linear (NORM_ne hc.all hc.ne) NORM_sorted hxy (z := (val x + val y) / 2) (by grind) hno
    rwa [AT_NORM hc.all hc.ne pz, AT_NORM hc.all hc.ne px, AT_NORM hc.all hc.ne py] at this
  rw [hlin]
  have i0 : i64 (i64 (i64 (0 + 0) + 0) + 0) = 0 := by decide
  simp only [i0, decide_true, Bool.and_self, if_true, awake_eq, Option.bind_some]
theorem brk_all {c : List B} {r : List R} {x y : R} (hc : SC c) (hx : PT x) (hy : PT y) (hxy : val x ≤ val y) (hi : Inc r) (hr : ∀ v, v ∈ r ↔ ∃ p, (p.1 ∈ NORM c ∧ p.2 ∈ NORM c) ∧ bl p = true ∧ v = ofQ (bp p)) (hV : ∀ v ∈ r, V v = true) (hs : (r.length : Int) ≤ 1000000) {k : Option Bool}
    (hk : (∀ p : B × B, p.1 ∈ NORM c → p.2 ∈ NORM c → bq p.1 < bq p.2 → ¬ (val x < bp p ∧ bp p < val y)) → k = some true) : m_law02_CurveBreaks_L2 (r, 0) x.fN x.fD y.fN y.fD k FUEL 0 = some true := by
  have hpos : ∀ v ∈ r, 0 < v.fN := by
    intro v hv
    obtain ⟨p, hp, hb, rfl⟩ := (hr v).1 hv
    have hlt : bq p.1 < bq p.2 := of_decide_eq_true hb
    have := mem_order NORM_sorted hp.1 hp.2 hlt
    have hD : 0 < bpD p := by unfold bpD; grind
    have h0 : 0 < bp p := bp_gt hD (by unfold vq; grind)
    show 0 < (bp p).num
    have h1 : 0 ≤ (bp p).num := Rat.num_nonneg.2 (Rat.le_of_lt h0)
    have h2 : (bp p).num ≠ 0 := fun h => by rw [Rat.num_eq_zero.1 h] at h0; exact absurd h0 (by decide)
    omega
  rcases brk_loop (e := 0) (k := k) hs hV hi hpos (GR_V hx.1) (GR_V hy.1) FUEL 0 (by omega) (by omega) (by rw [FUEL_eq]; omega) (by simp) with h | ⟨h1, h2⟩
  · exact h
  · rw [h2]
    refine hk fun p h3 h4 h5 h6 => ?_
    have := h1 (ofQ (bp p)) ((hr _).2 ⟨p, ⟨h3, h4⟩, decide_eq_true h5, rfl⟩)
    rw [val_ofQ] at this
    exact this h6
theorem le_total' (a b : Rat) (h : ¬ b < a) : a ≤ b := Rat.not_lt.1 h
theorem curveBreaks_true {m : List Int} {t u : Int} (hm : ∀ x ∈ m, 0 ≤ x ∧ x ≤ 255) (ht : 0 ≤ t ∧ t ≤ 65535) (hu : 0 ≤ u ∧ u ≤ 65535) : m_law02_CurveBreaks m t u = some true := by
  obtain ⟨c, e1, hc⟩ := small_eq hm
  obtain ⟨x, e2, hx⟩ := point_eq ht
  obtain ⟨y, e3, hy⟩ := point_eq hu
  obtain ⟨r, e4, hi, hr, hV, hl⟩ := hc.breaks
  unfold m_law02_CurveBreaks
  rw [e1, Option.bind_some, e4, Option.bind_some, if_neg (by simp), e2, Option.bind_some, e3, Option.bind_some]
  refine jp4_ex (P := fun o => o = _) fun k hk => ?_
  rw [cmp_eq (GR_V hy.1) (GR_V hx.1), Option.bind_some]
  by_cases h : val y < val x
  · rw [if_pos (decide_eq_true (cmpQ_lt.2 h)), hk]
    refine jp0_ex' (P := fun o => o = _) fun k1 hk1 => ?_
    refine brk_all hc hy hx (Rat.le_of_lt h) hi hr hV (by omega) fun hno => ?_
    rw [hk1]
    exact brk_end hc hy hx (Rat.le_of_lt h) hno
  · rw [if_neg (fun h' => h (cmpQ_lt.1 (of_decide_eq_true h'))), hk]
    refine jp0_ex' (P := fun o => o = _) fun k1 hk1 => ?_
    refine brk_all hc hx hy (le_total' _ _ h) hi hr hV (by omega) fun hno => ?_
    rw [hk1]
    exact brk_end hc hx hy (le_total' _ _ h) hno
end Go.Proofs.Ytbihfglmcjkdhaa
