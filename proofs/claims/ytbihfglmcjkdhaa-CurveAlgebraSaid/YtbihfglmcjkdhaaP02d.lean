/- A part of this claim's proof: models of functions, walks, plain laws. No conditions. -/
import Derived.Test.YtbihfglmcjkdhaaP02c
namespace Go.Proofs.Ytbihfglmcjkdhaa
open Go Go.RowKit Sep
set_option linter.all false
/-! ### the order of buckets -/
def le2 (a b : B) : Prop := bq a ≤ bq b ∧ rq a ≤ rq b
instance (a b : B) : Decidable (le2 a b) := inferInstanceAs (Decidable (_ ∧ _))
theorem le2_refl (a : B) : le2 a a := ⟨Rat.le_refl, Rat.le_refl⟩
theorem le2_trans {a b c : B} (h : le2 a b) (h' : le2 b c) : le2 a c := ⟨Rat.le_trans h.1 h'.1, Rat.le_trans h.2 h'.2⟩
theorem le2_anti {a b : B} (ha : GB a = true) (hb : GB b = true) (h : le2 a b) (h' : le2 b a) : a = b := bucket_ext ha hb (Rat.le_antisymm h.1 h'.1) (Rat.le_antisymm h.2 h'.2)
theorem dom_iff {a b : B} : dom a b = true ↔ a ≠ b ∧ le2 a b := by unfold dom le2; simp [and_assoc]
theorem dom_false {a b : B} : dom a b = false ↔ (le2 a b → a = b) := by
  rw [Bool.eq_false_iff, ne_eq, dom_iff]
  constructor
  · intro h h'
    exact Classical.byContradiction fun hn => h ⟨hn, h'⟩
  · intro h h'
    exact h'.1 (h h'.2)
theorem NORM_in {c : List B} {v : B} : v ∈ NORM c ↔ v ∈ c ∧ ∀ a ∈ c, le2 a v → a = v := by
  rw [NORM_mem]; simp only [dom_false]
theorem exists_least {α : Type} (key : α → Rat) (l : List α) (h : l ≠ []) : ∃ x ∈ l, ∀ y ∈ l, key x ≤ key y := by
  have hm := minQ_is (l.map key) (by simpa using h)
  obtain ⟨x, hx, e⟩ := List.mem_map.1 hm.1
  exact ⟨x, hx, fun y hy => by rw [e]; exact hm.2 _ (List.mem_map_of_mem hy)⟩
theorem NORM_cover {c : List B} (hc : ∀ b ∈ c, GB b = true) {v : B} (hv : v ∈ c) : ∃ a ∈ NORM c, le2 a v := by
  have hne : (c.filter fun a => decide (le2 a v)) ≠ [] := List.ne_nil_of_mem (List.mem_filter.2 ⟨hv, decide_eq_true (le2_refl v)⟩)
  obtain ⟨a, ha, hle⟩ := exists_least (fun b => bq b + rq b) _ hne
  obtain ⟨ha, hav⟩ := List.mem_filter.1 ha
  have hav := of_decide_eq_true hav
  refine ⟨a, NORM_in.2 ⟨ha, fun b hb hba => ?_⟩, hav⟩
  have h1 := hle b (List.mem_filter.2 ⟨hb, decide_eq_true (le2_trans hba hav)⟩)
  have h2 := hba.1; have h3 := hba.2
  refine bucket_ext (hc b hb) (hc a ha) ?_ ?_ <;> grind
theorem NORM_all {c : List B} (hc : ∀ b ∈ c, GB b = true) : ∀ b ∈ NORM c, GB b = true := fun b hb => hc b (NORM_in.1 hb).1
theorem NORM_sub {c : List B} {b : B} (hb : b ∈ NORM c) : b ∈ c := (NORM_in.1 hb).1
theorem NORM_ne {c : List B} (hc : ∀ b ∈ c, GB b = true) (h : c ≠ []) : NORM c ≠ [] := by
  obtain ⟨v, hv⟩ := List.exists_mem_of_ne_nil c h
  obtain ⟨a, ha, _⟩ := NORM_cover hc hv
  exact List.ne_nil_of_mem ha
theorem VC_of {c : List B} (hc : ∀ b ∈ c, GB b = true) (h : c ≠ []) (hl : c.length ≤ 32) : VC c = true := by
  unfold VC
  rw [Bool.and_eq_true, decide_eq_true_eq, List.all_eq_true]
  have := List.length_pos_iff.2 h
  exact ⟨⟨by omega, hl⟩, hc⟩
theorem VC_NORM {c : List B} (h : VC c = true) : VC (NORM c) = true :=
  VC_of (NORM_all (VC_all h)) (NORM_ne (VC_all h) (VC_ne h)) (by have := NORM_len c; have := VC_len h; omega)
theorem sorted_ext : ∀ {l m : List B}, (l.Pairwise fun x y => bq x < bq y ∧ rq y < rq x) → (m.Pairwise fun x y => bq x < bq y ∧ rq y < rq x) → (∀ v, v ∈ l ↔ v ∈ m) → l = m
  | [], [], _, _, _ => rfl
  | [], y :: m, _, _, h => by have := (h y).2 (by simp); simp at this
  | x :: l, [], _, _, h => by have := (h x).1 (by simp); simp at this
  | x :: l, y :: m, hl, hm, h => by
    obtain ⟨h1, hl'⟩ := List.pairwise_cons.1 hl
    obtain ⟨h2, hm'⟩ := List.pairwise_cons.1 hm
    have e : x = y := by
      rcases List.mem_cons.1 ((h x).1 (by simp)) with e | h3
      · exact e
      · rcases List.mem_cons.1 ((h y).2 (by simp)) with e | h4
        · exact e.symm
        · have := (h1 y h4).1; have := (h2 x h3).1; grind
    subst e
    refine congrArg (x :: ·) (sorted_ext hl' hm' fun v => ?_)
    constructor
    · intro hv
      rcases List.mem_cons.1 ((h v).1 (by simp [hv])) with e | h3
      · subst e; have := (h1 v hv).1; grind
      · exact h3
    · intro hv
      rcases List.mem_cons.1 ((h v).2 (by simp [hv])) with e | h3
      · subst e; have := (h2 v hv).1; grind
      · exact h3
theorem NORM_congr_sub {c d : List B} (hc : ∀ b ∈ c, GB b = true) (hd : ∀ b ∈ d, GB b = true) (h1 : ∀ v ∈ c, ∃ a ∈ d, le2 a v) (h2 : ∀ v ∈ d, ∃ a ∈ c, le2 a v) {v : B} (hv : v ∈ NORM c) : v ∈ NORM d := by
  obtain ⟨hv, hu⟩ := NORM_in.1 hv
  obtain ⟨a, ha, hav⟩ := h1 v hv
  obtain ⟨b, hb, hba⟩ := h2 a ha
  have e := hu b hb (le2_trans hba hav)
  subst e
  have e2 := le2_anti (hd a ha) (hc b hb) hav hba
  subst e2
  refine NORM_in.2 ⟨ha, fun w hw hwa => ?_⟩
  obtain ⟨u, hu', huw⟩ := h2 w hw
  have e3 := hu u hu' (le2_trans huw hwa)
  subst e3
  exact le2_anti (hd w hw) (hd u ha) hwa huw
/-- two lists that cover each other have the same normal form -/
theorem NORM_congr {c d : List B} (hc : ∀ b ∈ c, GB b = true) (hd : ∀ b ∈ d, GB b = true) (h1 : ∀ v ∈ c, ∃ a ∈ d, le2 a v) (h2 : ∀ v ∈ d, ∃ a ∈ c, le2 a v) : NORM c = NORM d :=
  sorted_ext NORM_sorted NORM_sorted fun _ => ⟨NORM_congr_sub hc hd h1 h2, NORM_congr_sub hd hc h2 h1⟩
theorem NORM_mems {c d : List B} (hc : ∀ b ∈ c, GB b = true) (h : ∀ v, v ∈ c ↔ v ∈ d) : NORM c = NORM d :=
  NORM_congr hc (fun b hb => hc b ((h b).2 hb)) (fun v hv => ⟨v, (h v).1 hv, le2_refl v⟩) (fun v hv => ⟨v, (h v).2 hv, le2_refl v⟩)
theorem Norm_eq (c : List B) : m_curve_Norm c = some (if VC c then (NORM c, 0) else ([], 2)) := by
  unfold m_curve_Norm
  rw [curve_valid, Option.bind_some]
  cases h : VC c with
  | true => rw [norm_eq (VC_all h) (by have := VC_len h; omega)]; rfl
  | false => rfl
/-! values of lists -/
theorem vq_le {a b : B} {t : Rat} (h : le2 a b) (ht : 0 ≤ t) : vq t a ≤ vq t b := by
  have h1 := h.1
  have h2 := Rat.mul_le_mul_of_nonneg_right h.2 ht
  unfold vq
  grind
/-! ### Shift -/
def sh1 (t : Rat) (b : B) : B := ⟨ofQ (vq t b), b.fRate⟩
theorem sh1_bq (t : Rat) (b : B) : bq (sh1 t b) = vq t b := val_ofQ _
theorem sh1_rq (t : Rat) (b : B) : rq (sh1 t b) = rq b := rfl
theorem sh1_GB {t : Rat} {b : B} (hb : GB b = true) (ht : 0 ≤ t) (hf : vfit t b = true) : GB (sh1 t b) = true := by
  unfold vfit at hf
  rw [Bool.and_eq_true] at hf
  unfold GB
  rw [Bool.and_eq_true]
  exact ⟨GR_of (vq_pos hb ht) hf.2, (GB_r hb : GR b.fRate = true)⟩
theorem sh1_vq (t x : Rat) (b : B) : vq x (sh1 t b) = vq (x + t) b := by
  unfold vq
  rw [sh1_bq, sh1_rq]
  unfold vq
  grind
theorem shift_step {c : List B} {t : R} {k : List B → Int → Option (List B × Int)} {n : Nat} {out : List B} {i e : Int} {v : R} {e' : Int} (h0 : 0 ≤ i) (h : i < c.length) (ho : (out.length : Int) = i) (hs : (c.length : Int) ≤ 1000000)
    (hv : m_curve_calc_value ⟨e⟩ (nth c i) t = some (v, ⟨e'⟩)) : m_curve_Shift_L2 c t k (n + 1) out i e = m_curve_Shift_L2 c t k n (out ++ [(⟨v, (nth c i).fRate⟩ : B)]) (i + 1) e' := by
  rw [m_curve_Shift_L2, if_pos (decide_eq_true h), chk_pos ⟨h0, h⟩]
  show Option.bind (m_curve_calc_value ⟨e⟩ (nth c i) t) _ = _
  rw [hv, Option.bind_some, chk_pos (by simp only [List.length_append, List.length_cons, List.length_nil]; omega), i64_id (by omega)]
theorem shift_loop {c : List B} {t : R} {k : List B → Int → Option (List B × Int)} {K3 : Option (List B × Int)} (hc : ∀ b ∈ c, GB b = true) (ht : GR t = true) (hs : (c.length : Int) ≤ 1000000) (hK : ∀ out, k out 3 = K3) :
    ∀ (n : Nat) (out : List B) (i : Int), 0 ≤ i → (out.length : Int) = i → i ≤ c.length → c.length < n + i →
      m_curve_Shift_L2 c t k n out i 3 = K3 ∧ m_curve_Shift_L2 c t k n out i 0 = if (c.drop i.toNat).all (vfit (val t)) then k (out ++ (c.drop i.toNat).map (sh1 (val t))) 0 else K3
  | 0, out, i, h0, ho, h1, h2 => by omega
  | n + 1, out, i, h0, ho, h1, h2 => by
    by_cases h : i < c.length
    · have ih := fun out' ho' => shift_loop hc ht hs hK n out' (i + 1) (by omega) ho' (by omega) (by omega)
      have hv := value_ok (hc _ (nth_mem h0 h)) ht
      refine ⟨?_, ?_⟩
      · rw [shift_step h0 h ho hs (value_err (by decide))]
        exact (ih _ (by simp; omega)).1
      · rw [drop_cons h0 h, List.all_cons, List.map_cons]
        cases hb : vfit (val t) (nth c i) with
        | true =>
          rw [hb, if_pos rfl] at hv
          rw [shift_step h0 h ho hs hv, (ih _ (by simp; omega)).2, List.append_assoc, Bool.true_and]
          unfold sh1
          rw [List.singleton_append]
        | false =>
          rw [hb, if_neg Bool.false_ne_true] at hv
          rw [shift_step h0 h ho hs hv, (ih _ (by simp; omega)).1, Bool.false_and, if_neg Bool.false_ne_true]
    · rw [m_curve_Shift_L2, m_curve_Shift_L2, if_neg (by simpa using h), if_neg (by simpa using h), drop_end h, hK]
      simp
theorem Shift_eq {c : List B} {t : R} (hc : VC c = true) (ht : GR t = true) : m_curve_Shift c t = some (if c.all (vfit (val t)) then (NORM (c.map (sh1 (val t))), 0) else ([], 3)) := by
  have hl := VC_len hc
  unfold m_curve_Shift
  rw [curve_valid, good_eq, hc, ht]
  simp only [Option.bind_some, Bool.not_true, Bool.false_eq_true, if_false]
  refine jp2_ex (P := fun o => o = _) fun k hk => ?_
  have := (shift_loop (K3 := some ([], 3)) (k := k) (VC_all hc) ht (by omega) (fun out => by rw [hk]; rfl) FUEL [] 0 (by omega) rfl (by omega) (by rw [FUEL_eq]; omega)).2
  rw [Int.toNat_zero, List.drop_zero, List.nil_append] at this
  rw [this]
  cases ha : c.all (vfit (val t)) with
  | true =>
    rw [if_pos rfl, if_pos rfl, hk, if_neg (by simp)]
    rw [norm_eq (c := c.map (sh1 (val t))) ?_ (by rw [List.length_map]; omega), Option.bind_some]
    intro b hb
    obtain ⟨x, hx, rfl⟩ := List.mem_map.1 hb
    exact sh1_GB (VC_all hc x hx) (GR_pos ht) (List.all_eq_true.1 ha x hx)
  | false => simp
end Go.Proofs.Ytbihfglmcjkdhaa
