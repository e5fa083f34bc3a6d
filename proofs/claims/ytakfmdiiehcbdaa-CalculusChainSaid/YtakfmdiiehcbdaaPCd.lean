/- A part of this claim's proof: models of functions, walks, plain laws. No conditions. -/
import Derived.Test.YtakfmdiiehcbdaaPCc
namespace Go.Proofs.Ytakfmdiiehcbdaa
open Go Go.RowKit Sep
set_option linter.all false
/-! ### the order of buckets -/
def le2 (a b : B) : Prop := bq a ≤ bq b ∧ rq a ≤ rq b
instance (a b : B) : Decidable (le2 a b) := inferInstanceAs (Decidable (_ ∧ _))
theorem le2_refl (a : B) : le2 a a := ⟨Rat.le_refl, Rat.le_refl⟩
theorem le2_trans {a b c : B} (h : le2 a b) (h' : le2 b c) : le2 a c := ⟨Rat.le_trans h.1 h'.1, Rat.le_trans h.2 h'.2⟩
theorem dom_iff {a b : B} : dom a b = true ↔ a ≠ b ∧ le2 a b := by unfold dom le2; simp [and_assoc]
theorem dom_false {a b : B} : dom a b = false ↔ (le2 a b → a = b) := by
 rw [Bool.eq_false_iff, ne_eq, dom_iff]
 constructor
 ·intro h h'
  exact Classical.byContradiction fun hn => h ⟨hn, h'⟩
 ·intro h h'
  exact h'.1 (h h'.2)
theorem NORM_in {c : List B} {v : B} : v ∈ NORM c ↔ v ∈ c ∧ ∀ a ∈ c, le2 a v → a = v := by
 rw [NORM_mem]; simp only [dom_false]
theorem cmpb {a b : B} (ha : GB a = true) (hb : GB b = true) : m_rat_Cmp a.fBurst b.fBurst = some (cmpQ (bq a) (bq b)) := cmp_eq (GR_V (GB_b ha)) (GR_V (GB_b hb))
theorem exists_least {α : Type} (key : α → Rat) (l : List α) (h : l ≠ []) : ∃ x ∈ l, ∀ y ∈ l, key x ≤ key y := by
 have hm := minQ_is (l.map key) (by simpa using h)
 obtain ⟨x, hx, e⟩ := List.mem_map.1 hm.1
 exact ⟨x, hx, fun y hy => by rw [e]; exact hm.2 _ (List.mem_map_of_mem hy)⟩
theorem NORM_cover {c : List B} (hc : ∀ b ∈ c, GB b = true) {v : B} (hv : v ∈ c) : ∃ a ∈ NORM c, le2 a v := by
 have hne : (c.filter fun a => decide (le2 a v)) ≠ [] := List.ne_nil_of_mem (List.mem_filter.2 ⟨hv, decide_eq_true (le2_refl v)⟩)
 obtain ⟨a, ha, hle⟩ := exists_least (fun b => bq b + rq b) _ hne
 obtain ⟨ha, hav⟩ := List.mem_filter.1 ha
 have hav := of_decide_eq_true hav
 refine ⟨a, NORM_in.2 ⟨ha, fun b hb hba => ?_⟩, hav⟩
 have h1 := hle b (List.mem_filter.2 ⟨hb, decide_eq_true (le2_trans hba hav)⟩)
 have h2 := hba.1; have h3 := hba.2
 refine bucket_ext (hc b hb) (hc a ha) ?_ ?_ <;> grind
theorem NORM_all {c : List B} (hc : ∀ b ∈ c, GB b = true) : ∀ b ∈ NORM c, GB b = true := fun b hb => hc b (NORM_in.1 hb).1
theorem NORM_sub {c : List B} {b : B} (hb : b ∈ NORM c) : b ∈ c := (NORM_in.1 hb).1
theorem NORM_ne {c : List B} (hc : ∀ b ∈ c, GB b = true) (h : c ≠ []) : NORM c ≠ [] := by
 obtain ⟨v, hv⟩ := List.exists_mem_of_ne_nil c h
 obtain ⟨a, ha, _⟩ := NORM_cover hc hv
 exact List.ne_nil_of_mem ha
theorem VC_of {c : List B} (hc : ∀ b ∈ c, GB b = true) (h : c ≠ []) (hl : c.length ≤ 32) : VC c = true := by
 unfold VC
 rw [Bool.and_eq_true, decide_eq_true_eq, List.all_eq_true]
 have := List.length_pos_iff.2 h
 exact ⟨⟨by omega, hl⟩, hc⟩
/-! values of lists -/
/-! ### Shift -/
def sh1 (t : Rat) (b : B) : B := ⟨ofQ (vq t b), b.fRate⟩
theorem sh1_bq (t : Rat) (b : B) : bq (sh1 t b) = vq t b := val_ofQ _
theorem sh1_GB {t : Rat} {b : B} (hb : GB b = true) (ht : 0 ≤ t) (hf : vfit t b = true) : GB (sh1 t b) = true := by
 unfold vfit at hf
 rw [Bool.and_eq_true] at hf
 unfold GB
 rw [Bool.and_eq_true]
 exact ⟨GR_of (vq_pos hb ht) hf.2, (GB_r hb : GR b.fRate = true)⟩
theorem shift_step {c : List B} {t : R} {k : List B → Int → Option (List B × Int)} {n : Nat} {out : List B} {i e : Int} {v : R} {e' : Int} (h0 : 0 ≤ i) (h : i < c.length) (ho : (out.length : Int) = i) (hs : (c.length : Int) ≤ 1000000)
  (hv : m_curve_calc_value ⟨e⟩ (nth c i) t = some (v, ⟨e'⟩)) : m_curve_Shift_L2 c t k (n + 1) out i e = m_curve_Shift_L2 c t k n (out ++ [(⟨v, (nth c i).fRate⟩ : B)]) (i + 1) e' := by
 rw [m_curve_Shift_L2, if_pos (decide_eq_true h), chk_pos ⟨h0, h⟩]
 show Option.bind (m_curve_calc_value ⟨e⟩ (nth c i) t) _ = _
 rw [hv, Option.bind_some, chk_pos (by simp only [List.length_append, List.length_cons, List.length_nil]; omega), i64_id (by omega)]
theorem shift_loop {c : List B} {t : R} {k : List B → Int → Option (List B × Int)} {K3 : Option (List B × Int)} (hc : ∀ b ∈ c, GB b = true) (ht : GR t = true) (hs : (c.length : Int) ≤ 1000000) (hK : ∀ out, k out 3 = K3) :
  ∀ (n : Nat) (out : List B) (i : Int), 0 ≤ i → (out.length : Int) = i → i ≤ c.length → c.length < n + i →
   m_curve_Shift_L2 c t k n out i 3 = K3 ∧ m_curve_Shift_L2 c t k n out i 0 = if (c.drop i.toNat).all (vfit (val t)) then k (out ++ (c.drop i.toNat).map (sh1 (val t))) 0 else K3
 | 0, out, i, h0, ho, h1, h2 => by omega
 | n + 1, out, i, h0, ho, h1, h2 => by
  by_cases h : i < c.length
  ·have ih := fun out' ho' => shift_loop hc ht hs hK n out' (i + 1) (by omega) ho' (by omega) (by omega)
   have hv := value_ok (hc _ (nth_mem h0 h)) ht
   refine ⟨?_, ?_⟩
   ·rw [shift_step h0 h ho hs (value_err (by decide))]
    exact (ih _ (by simp; omega)).1
   ·rw [drop_cons h0 h, List.all_cons, List.map_cons]
    cases hb : vfit (val t) (nth c i) with
    | true =>
     rw [hb, if_pos rfl] at hv
     rw [shift_step h0 h ho hs hv, (ih _ (by simp; omega)).2, List.append_assoc, Bool.true_and]
     unfold sh1
     rw [List.singleton_append]
    | false =>
     rw [hb, if_neg Bool.false_ne_true] at hv
     rw [shift_step h0 h ho hs hv, (ih _ (by simp; omega)).1, Bool.false_and, if_neg Bool.false_ne_true]
  ·rw [m_curve_Shift_L2, m_curve_Shift_L2, if_neg (by simpa using h), if_neg (by simpa using h), drop_end h, hK]
   simp
theorem Shift_eq {c : List B} {t : R} (hc : VC c = true) (ht : GR t = true) : m_curve_Shift c t = some (if c.all (vfit (val t)) then (NORM (c.map (sh1 (val t))), 0) else ([], 3)) := by
 have hl := VC_len hc
 unfold m_curve_Shift
 rw [curve_valid, good_eq, hc, ht]
 simp only [Option.bind_some, Bool.not_true, Bool.false_eq_true, if_false]
 refine jp2_ex (P := fun o => o = _) fun k hk => ?_
 have := (shift_loop (K3 := some ([], 3)) (k := k) (VC_all hc) ht (by omega) (fun out => by rw [hk]; rfl) FUEL [] 0 (by omega) rfl (by omega) (by rw [FUEL_eq]; omega)).2
 rw [Int.toNat_zero, List.drop_zero, List.nil_append] at this
 rw [this]
 cases ha : c.all (vfit (val t)) with
 | true =>
  rw [if_pos rfl, if_pos rfl, hk, if_neg (by simp)]
  rw [norm_eq (c := c.map (sh1 (val t))) ?_ (by rw [List.length_map]; omega), Option.bind_some]
  intro b hb
  obtain ⟨x, hx, rfl⟩ := List.mem_map.1 hb
  exact sh1_GB (VC_all hc x hx) (GR_pos ht) (List.all_eq_true.1 ha x hx)
 | false => simp
end Go.Proofs.Ytakfmdiiehcbdaa
