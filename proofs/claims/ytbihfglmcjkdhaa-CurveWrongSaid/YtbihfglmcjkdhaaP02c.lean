/- A part of this claim's proof: models of functions, walks, plain laws. No conditions. -/
import Derived.Test.YtbihfglmcjkdhaaP02b
namespace Go.Proofs.Ytbihfglmcjkdhaa
open Go Go.RowKit Sep
set_option linter.all false
/-! ### grids -/
theorem fits_divInt {n d : Int} (hd : 0 < d) (h : n.natAbs ≤ 1073741824 ∧ d ≤ 1073741824) : fits (Rat.divInt n d) = true := by
  simp only [fits, decide_eq_true_eq]
  rw [Rat.den_divInt, if_neg (by omega), Rat.num_divInt]
  have hs : d.sign = 1 := Int.sign_eq_one_of_pos hd
  rw [hs, Int.one_mul]
  constructor
  · have h1 : (n / (Int.gcd d n : Int)).natAbs ≤ n.natAbs := by
      have h2 : ((Int.gcd d n : Nat) : Int) ∣ n := Int.gcd_dvd_right ..
      rw [Int.natAbs_ediv_of_dvd h2]
      exact Nat.div_le_self _ _
    omega
  · have := Nat.div_le_self d.natAbs (Int.gcd d n)
    omega
/-- multiples of 1/k of at most m in absolute value -/
def G (m k : Nat) (q : Rat) : Prop := ∃ n : Int, n.natAbs ≤ m * k ∧ q = Rat.divInt n k
theorem G.fits {m k : Nat} {q : Rat} (h : G m k q) (hk : 0 < k) (hk2 : k ≤ 1073741824) (hm : m * k ≤ 1073741824) : fits q = true := by
  obtain ⟨n, hn, rfl⟩ := h
  exact fits_divInt (by omega) ⟨by omega, by omega⟩
theorem G.add {m m' k : Nat} {p q : Rat} (hk : 0 < k) (hp : G m k p) (hq : G m' k q) : G (m + m') k (p + q) := by
  obtain ⟨n, hn, rfl⟩ := hp; obtain ⟨n', hn', rfl⟩ := hq
  refine ⟨n + n', ?_, ?_⟩
  · have := Nat.add_mul m m' k
    omega
  · rw [Rat.divInt_add_divInt _ _ (by omega) (by omega), show n * (k : Int) + n' * k = (n + n') * k by rw [Int.add_mul], Rat.divInt_mul_right (by omega)]
theorem G.neg {m k : Nat} {p : Rat} (hp : G m k p) : G m k (-p) := by
  obtain ⟨n, hn, rfl⟩ := hp
  exact ⟨-n, by omega, by rw [Rat.neg_divInt]⟩
theorem G.sub {m m' k : Nat} {p q : Rat} (hk : 0 < k) (hp : G m k p) (hq : G m' k q) : G (m + m') k (p - q) := by
  rw [Rat.sub_eq_add_neg]; exact hp.add hk hq.neg
theorem G.mul {m m' k k' : Nat} {p q : Rat} (hp : G m k p) (hq : G m' k' q) : G (m * m') (k * k') (p * q) := by
  obtain ⟨n, hn, rfl⟩ := hp; obtain ⟨n', hn', rfl⟩ := hq
  refine ⟨n * n', ?_, ?_⟩
  · rw [Int.natAbs_mul, show m * m' * (k * k') = (m * k) * (m' * k') by rw [Nat.mul_mul_mul_comm]]
    exact Nat.mul_le_mul hn hn'
  · rw [Rat.divInt_mul_divInt]; rfl
theorem G.fine {m k : Nat} {p : Rat} (j : Nat) (hj : 0 < j) (hp : G m k p) : G m (k * j) p := by
  obtain ⟨n, hn, rfl⟩ := hp
  refine ⟨n * j, ?_, ?_⟩
  · rw [Int.natAbs_mul, ← Nat.mul_assoc]; exact Nat.mul_le_mul hn (by omega)
  · rw [show ((k * j : Nat) : Int) = (k : Int) * j by push_cast; rfl, Rat.divInt_mul_right (by omega)]
theorem G.le {m m' k : Nat} {p : Rat} (h : m ≤ m') (hp : G m k p) : G m' k p := by
  obtain ⟨n, hn, rfl⟩ := hp
  exact ⟨n, Nat.le_trans hn (Nat.mul_le_mul_right _ h), rfl⟩
theorem mk_fits {q : Rat} (h : fits q = true) : mk q = (ofQ q, 0) := by unfold mk; rw [if_pos h]
theorem divInt_nonneg {n d : Int} (h : 0 ≤ n) (hd : 0 ≤ d) : (0 : Rat) ≤ Rat.divInt n d := Rat.divInt_nonneg h hd
/-! ### the law's points and curves -/
theorem tmod_id {a b : Int} (h : 0 ≤ a) : Int.tmod a b = a % b := Int.tmod_eq_emod_of_nonneg h
def SB (b : B) : Prop := GB b = true ∧ G 100 1 (bq b) ∧ G 5 8 (rq b)
def SC (c : List B) : Prop := 1 ≤ c.length ∧ c.length ≤ 4 ∧ ∀ b ∈ c, SB b
theorem SC.all {c : List B} (h : SC c) : ∀ b ∈ c, GB b = true := fun b hb => (h.2.2 b hb).1
theorem SC.VC {c : List B} (h : SC c) : VC c = true := by
  unfold Ytbihfglmcjkdhaa.VC
  rw [Bool.and_eq_true, decide_eq_true_eq, List.all_eq_true]
  exact ⟨⟨h.1, by have := h.2.1; omega⟩, h.all⟩
theorem SB.pos {b : B} (h : SB b) : 0 ≤ bq b ∧ 0 ≤ rq b := ⟨GR_pos (GB_b h.1), GR_pos (GB_r h.1)⟩
theorem SB_mk {i j : Int} (hi : 0 ≤ i ∧ i ≤ 100) (hj : 0 ≤ j ∧ j ≤ 40) : SB ⟨ofQ (Rat.divInt i 1), ofQ (Rat.divInt j 8)⟩ := by
  refine ⟨?_, ?_, ?_⟩
  · simp only [GB, Bool.and_eq_true]
    exact ⟨GR_of (divInt_nonneg (by omega) (by decide)) (fits_divInt (by decide) (by omega)), GR_of (divInt_nonneg (by omega) (by decide)) (fits_divInt (by decide) (by omega))⟩
  · show G 100 1 (val _); rw [val_ofQ]; exact ⟨i, by omega, rfl⟩
  · show G 5 8 (val _); rw [val_ofQ]; exact ⟨j, by omega, rfl⟩
theorem small_loop {l : List Int} {k : List B → Option (List B)} (hl : ∀ x ∈ l, 0 ≤ x ∧ x ≤ 255) :
    ∀ (n : Nat) (c : List B) (i : Int), (∀ b ∈ c, SB b) → c.length ≤ 4 → i = 2 * c.length → 4 < n + c.length → ∃ d, m_law02_Small_L2 l k n c i = k d ∧ (∀ b ∈ d, SB b) ∧ d.length ≤ 4
  | 0, c, i, hc, h4, hi, hn => by omega
  | n + 1, c, i, hc, h4, hi, hn => by
    rw [m_law02_Small_L2]
    rw [i64_id (x := i + 1) (by omega), i64_id (x := i + 2) (by omega)]
    by_cases h : i + 1 < l.length ∧ c.length < 4
    · rw [if_pos (by simp; omega), chk_pos (by omega)]
      have b1 := hl _ (nth_mem (l := l) (i := i) (by omega) (by omega))
      have b2 := hl _ (nth_mem (l := l) (i := i + 1) (by omega) (by omega))
      rw [i64_id (x := nth l i) (by omega), tmod_id b1.1, make_eq (by decide) (by omega), Option.bind_some, chk_pos (by omega)]
      rw [i64_id (x := nth l (i + 1)) (by omega), tmod_id b2.1, make_eq (by decide) (by omega), Option.bind_some]
      rw [mk_fits (fits_divInt (by decide) (by omega)), mk_fits (fits_divInt (by decide) (by omega))]
      rw [chk_pos (by simp only [List.length_append, List.length_cons, List.length_nil]; omega)]
      refine small_loop hl n _ (i + 2) ?_ (by simp; omega) (by simp; omega) (by simp; omega)
      intro b hb
      rcases List.mem_append.1 hb with hb | hb
      · exact hc b hb
      · obtain rfl := List.mem_singleton.1 hb
        exact SB_mk (by omega) (by omega)
    · rw [if_neg (by simp; omega)]
      exact ⟨c, rfl, hc, h4⟩
theorem jp1_ex {R A0 : Type} {K : A0 → Option R} {F : (A0 → Option R) → Option R} {P : Option R → Prop} (h : ∀ k : A0 → Option R, (∀ x0, k x0 = K x0) → P (F k)) : P (jp1 K F) := h K fun _ => rfl
theorem small_eq {l : List Int} (hl : ∀ x ∈ l, 0 ≤ x ∧ x ≤ 255) : ∃ c, m_law02_Small l = some c ∧ SC c := by
  unfold m_law02_Small
  refine jp1_ex (P := fun o => ∃ c, o = some c ∧ SC c) fun k hk => ?_
  obtain ⟨d, e, hd, h4⟩ := small_loop (k := k) hl FUEL [] 0 (by simp) (by simp) (by simp) (by rw [FUEL_eq]; omega)
  rw [e, hk]
  simp only [jp1, m_law02_num, Option.bind_some]
  by_cases h : d.length = 0
  · rw [if_pos (by simpa using h)]
    refine ⟨_, rfl, by simp, by simp, ?_⟩
    intro b hb
    obtain rfl := List.mem_singleton.1 hb
    have := SB_mk (i := 7) (j := 1) (by omega) (by omega)
    have e1 : ofQ (Rat.divInt 7 1) = ⟨7, 1⟩ := by decide +kernel
    have e2 : ofQ (Rat.divInt 1 8) = ⟨1, 8⟩ := by decide +kernel
    rwa [e1, e2] at this
  · rw [if_neg (by simpa using h)]
    exact ⟨d, rfl, by omega, h4, hd⟩

/-! ### values -/
/-- a bucket's value at t -/
def vq (t : Rat) (b : B) : Rat := bq b + rq b * t
/-! ### least -/
def minQ : List Rat → Rat
  | [] => 0
  | [x] => x
  | x :: y :: l => let m := minQ (y :: l); if x ≤ m then x else m
def IsMin (l : List Rat) (q : Rat) : Prop := q ∈ l ∧ ∀ x ∈ l, q ≤ x
theorem minQ_is : ∀ (l : List Rat), l ≠ [] → IsMin l (minQ l)
  | [], h => absurd rfl h
  | [x], _ => ⟨by simp [minQ], fun y hy => by simp at hy; subst hy; exact Rat.le_refl⟩
  | x :: y :: l, _ => by
    have ih := minQ_is (y :: l) (by simp)
    unfold minQ
    by_cases h : x ≤ minQ (y :: l)
    · rw [if_pos h]
      refine ⟨by simp, fun z hz => ?_⟩
      rcases List.mem_cons.1 hz with rfl | hz
      · exact Rat.le_refl
      · exact Rat.le_trans h (ih.2 z hz)
    · rw [if_neg h]
      refine ⟨List.mem_cons_of_mem _ ih.1, fun z hz => ?_⟩
      rcases List.mem_cons.1 hz with rfl | hz
      · exact Rat.le_of_lt (Rat.not_le.1 h)
      · exact ih.2 z hz
/-! ### At and Rate -/
def AT (c : List B) (t : Rat) : Rat := minQ (c.map (vq t))
theorem AT_is {c : List B} {t : Rat} (h : c ≠ []) : IsMin (c.map (vq t)) (AT c t) := minQ_is _ (by simpa using h)
theorem at_bad {c : List B} {t : R} (h : ¬ (VC c = true ∧ GR t = true)) : m_curve_At c t = some (⟨0, 0⟩, 2) := by
  unfold m_curve_At
  rw [curve_valid, good_eq]
  cases h1 : VC c <;> cases h2 : GR t <;> simp_all
theorem VC_ne {c : List B} (hc : VC c = true) : c ≠ [] := fun h => by have := VC_len hc; subst h; simp at this
/-- a small bucket's value at a point -/
theorem SB.val {b : B} {m : Nat} {t : Rat} (h : SB b) (ht : G m 4 t) : G (5 * m) 32 (rq b * t) ∧ G (100 + 5 * m) 32 (vq t b) := by
  have h1 := h.2.2.mul ht
  exact ⟨h1, (h.2.1.fine 32 (by omega)).add (by omega) h1⟩
theorem SC.ne {c : List B} (h : SC c) : c ≠ [] := VC_ne h.VC
theorem SC.at {c : List B} {m : Nat} {t : Rat} (h : SC c) (ht : G m 4 t) : G (100 + 5 * m) 32 (AT c t) := by
  obtain ⟨b, hb, e⟩ := List.mem_map.1 (AT_is (t := t) h.ne).1
  rw [← e]
  exact ((h.2.2 b hb).val ht).2
end Go.Proofs.Ytbihfglmcjkdhaa
