/- A part of this claim's proof: models of functions, walks, plain laws. No conditions. -/
import Derived.Test.YtakfmdiiehcbdaaGreatPYe
namespace Go.Proofs.YtakfmdiiehcbdaaGreat
open Go Go.RowKit Sep
set_option linter.all false
theorem y5R {R : Type} {K : Option R} {F : Option R → Option R} {P : Option R → Prop} (h : ∀ k : Option R, k = K → P (F k)) : P (jp0 K F) := h K rfl
/-! ### Compact -/
def Inc (l : List R) : Prop := l.Pairwise fun x y => val x < val y
theorem Inc.ext : ∀ {l m : List R}, Inc l → Inc m → (∀ v, v ∈ l ↔ v ∈ m) → l = m
 | [], [], _, _, _ => rfl
 | [], y :: m, _, _, h => by have := (h y).2 (by simp); simp at this
 | x :: l, [], _, _, h => by have := (h x).1 (by simp); simp at this
 | x :: l, y :: m, hl, hm, h => by
  obtain ⟨h1, hl'⟩ := List.pairwise_cons.1 hl
  obtain ⟨h2, hm'⟩ := List.pairwise_cons.1 hm
  have e : x = y := by
   rcases List.mem_cons.1 ((h x).1 (by simp)) with e | h3
   ·exact e
   ·rcases List.mem_cons.1 ((h y).2 (by simp)) with e | h4
    ·exact e.symm
    ·have := h1 y h4; have := h2 x h3; grind
  subst e
  refine congrArg (x :: ·) (Inc.ext hl' hm' fun v => ?_)
  constructor
  ·intro hv
   rcases List.mem_cons.1 ((h v).1 (by simp [hv])) with e | h3
   ·subst e; have := h1 v hv; grind
   ·exact h3
  ·intro hv
   rcases List.mem_cons.1 ((h v).2 (by simp [hv])) with e | h3
   ·subst e; have := h2 v hv; grind
   ·exact h3
theorem ybw {a b c : Rat} (h : a ≤ b) (h' : b < c) : a < c := by grind
def y6m (s0 : List R) (m : Int) (r : List R) : Prop := Inc r ∧ (∀ v, v ∈ r ↔ v ∈ s0.take m.toNat) ∧ (r.length : Int) ≤ m
theorem y6m.yap {s0 : List R} (hv : ∀ x ∈ s0, V x = true) (hs : s0.Pairwise fun x y => val x ≤ val y) {m : Int} (h0 : 1 ≤ m) (h : m < s0.length) {r : List R} (hr : y6m s0 m r) :
  (nth s0 m = nth s0 (m - 1) → y6m s0 (m + 1) r) ∧ (nth s0 m ≠ nth s0 (m - 1) → y6m s0 (m + 1) (r ++ [nth s0 m])) := by
 have ht := y4Y s0 (i := m) (by omega) h
 have hp := y4Y s0 (i := m - 1) (by omega) (by omega)
 have hm1 : nth s0 (m - 1) ∈ s0.take m.toNat := by
  rw [show m = m - 1 + 1 by omega, hp]; simp
 constructor
 ·intro e
  refine ⟨hr.1, fun v => ?_, by have := hr.2.2; omega⟩
  rw [ht, hr.2.1, List.mem_append, List.mem_singleton]
  constructor
  ·exact fun h => .inl h
  ·rintro (h | rfl)
   ·exact h
   ·rw [e]; exact hm1
 ·intro e
  have hlt : val (nth s0 (m - 1)) < val (nth s0 m) := by
   have h1 := List.pairwise_iff_getElem.1 hs (m - 1).toNat m.toNat (by omega) (by omega) (by omega)
   rw [y1I (by omega) (by omega), y1I (by omega) (by omega)] at h1
   rcases y7f h1 with h | h
   ·exact h
   ·exact absurd (y8X (hv _ (y1j (by omega) (by omega))) (hv _ (y1j (by omega) (by omega))) h).symm e
  constructor
  ·unfold Inc
   rw [List.pairwise_append]
   refine ⟨hr.1, by simp, fun a ha b hb => ?_⟩
   obtain rfl := List.mem_singleton.1 hb
   have ha := (hr.2.1 a).1 ha
   obtain ⟨i, hi, rfl⟩ := List.mem_iff_getElem.1 ha
   rw [List.length_take] at hi
   rw [List.getElem_take]
   refine ybw ?_ hlt
   by_cases e2 : i = (m - 1).toNat
   ·subst e2
    rw [y1I (by omega) (by omega)]; exact Rat.le_refl
   ·have h1 := List.pairwise_iff_getElem.1 hs i (m - 1).toNat (by omega) (by omega) (by omega)
    rw [y1I (i := m - 1) (by omega) (by omega)] at h1
    exact h1
  ·refine ⟨fun v => ?_, by have := hr.2.2; rw [List.length_append, List.length_singleton]; omega⟩
   rw [ht, List.mem_append, List.mem_append, hr.2.1]
theorem yc5 {s : List R} {k j : Int} {v : R} (h0 : 0 ≤ k) (h1 : 0 ≤ j) (h : k ≠ j) : nth (s.set k.toNat v) j = nth s j := by
 unfold nth
 rw [List.getD_eq_getElem?_getD, List.getD_eq_getElem?_getD, List.getElem?_set_ne (by omega)]
theorem take_set {s : List R} {k : Int} {v : R} (h0 : 0 ≤ k) (h : k < s.length) : (s.set k.toNat v).take (k + 1).toNat = s.take k.toNat ++ [v] := by
 rw [show (k + 1).toNat = k.toNat + 1 by omega, List.take_add_one, List.take_set_of_le (by omega), List.getElem?_set_self (by omega)]
 rfl
theorem y9t {s0 : List R} {K : Int} {k : List R → Int → Option (List R)} (hv : ∀ x ∈ s0, V x = true) (hs : s0.Pairwise fun x y => val x ≤ val y) (hK : 1 ≤ K ∧ K < s0.length) (hl : (s0.length : Int) ≤ 1000000) :
  ∀ (n : Nat) (s : List R) (j i : Int), 1 ≤ i → K + i ≤ s0.length → s0.length - K < n + i → K ≤ j → j ≤ K + i - 1 → s.length = s0.length → (∀ q : Int, K + i - 1 ≤ q → nth s q = nth s0 q) → y6m s0 (K + i) (s.take j.toNat) →
   ∃ s' j', yX s0 K k n s j i = k s' j' ∧ 0 ≤ j' ∧ j' ≤ s'.length ∧ y6m s0 s0.length (s'.take j'.toNat)
 | 0, s, j, i, h0, h1, h2, h3, h4, h5, h6, h7 => by omega
 | n + 1, s, j, i, h0, h1, h2, h3, h4, h5, h6, h7 => by
  rw [yX]
  by_cases h : i < ((s0.length - K.toNat : Nat) : Int)
  ·rw [if_pos (decide_eq_true h)]
   simp only [jp2]
   rw [yq (x := i - 1) (by omega), ym (by omega), ym (by omega)]
   have e1 : nth s (K + i) = nth s0 (K + i) := h6 _ (by omega)
   have e2 : nth s (K + (i - 1)) = nth s0 (K + i - 1) := by rw [show K + (i - 1) = K + i - 1 by omega]; exact h6 _ (by omega)
   show ∃ s' j', (if decide (nth s (K + i) ≠ nth s (K + (i - 1))) then _ else _) = _ ∧ _
   rw [e1, e2]
   have st := y6m.yap hv hs (m := K + i) (by omega) (by omega) h7
   by_cases he : nth s0 (K + i) = nth s0 (K + i - 1)
   ·rw [if_neg (by simpa using he), yq (x := i + 1) (by omega)]
    refine y9t (k := k) hv hs hK hl n s j (i + 1) (by omega) (by omega) (by omega) h3 (by omega) h5 (fun q hq => h6 q (by omega)) ?_
    rw [show K + (i + 1) = K + i + 1 by omega]
    exact st.1 he
   ·rw [if_pos (decide_eq_true he), ym (by omega), ym (by omega), yq (x := i + 1) (by omega), yq (x := j + 1) (by omega)]
    have eta : (⟨(nth s0 (K + i)).fN, (nth s0 (K + i)).fD⟩ : R) = nth s0 (K + i) := rfl
    rw [eta]
    refine y9t (k := k) hv hs hK hl n (s.set j.toNat (nth s0 (K + i))) (j + 1) (i + 1) (by omega) (by omega) (by omega) (by omega) (by omega) (by rw [List.length_set]; exact h5) (fun q hq => ?_) ?_
    ·rw [yc5 (by omega) (by omega) (by omega)]
     exact h6 q (by omega)
    ·rw [take_set (by omega) (by omega), show K + (i + 1) = K + i + 1 by omega]
     exact st.2 he
  ·rw [if_neg (by simpa using h)]
   refine ⟨s, j, rfl, by omega, by omega, ?_⟩
   rw [show (s0.length : Int) = K + i by omega]
   exact h7
theorem ybf {s0 : List R} {k : Option (List R)} (hv : ∀ x ∈ s0, V x = true) (hs : s0.Pairwise fun x y => val x ≤ val y) (hl : (s0.length : Int) ≤ 1000000) (hk : k = some s0) :
  ∀ (n : Nat) (i : Int), 1 ≤ i → i ≤ s0.length → s0.length < n + i → y6m s0 i (s0.take i.toNat) →
   ∃ r, yY s0 k n i = some r ∧ y6m s0 s0.length r
 | 0, i, h0, h1, h2, h3 => by omega
 | n + 1, i, h0, h1, h2, h3 => by
  rw [yY]
  by_cases h : i < s0.length
  ·rw [if_pos (decide_eq_true h)]
   refine y5R (P := fun o => ∃ r, o = some r ∧ y6m s0 s0.length r) fun k1 hk1 => ?_
   rw [yq (x := i + 1) (by omega)] at hk1
   rw [yq (x := i - 1) (by omega), ym (by omega), ym (by omega)]
   have st := y6m.yap hv hs (m := i) h0 h h3
   show ∃ r, (if decide (nth s0 i = nth s0 (i - 1)) then _ else _) = _ ∧ _
   by_cases he : nth s0 i = nth s0 (i - 1)
   ·rw [if_pos (decide_eq_true he), ym (by omega)]
    refine y3o (P := fun o => ∃ r, o = some r ∧ y6m s0 s0.length r) fun k2 hk2 => ?_
    obtain ⟨s', j', e, h4, h5, h6⟩ := y9t (k := k2) hv hs ⟨h0, h⟩ hl yu s0 i 1 (by omega) (by omega) (by rw [yU]; omega) (by omega) (by omega) rfl (fun q _ => rfl) (by exact st.1 he)
    rw [e, hk2]
    have ht : (s'.take j'.toNat ++ List.replicate (s'.length - j'.toNat) ((⟨0, 0⟩ : R) : R)).take j'.toNat = s'.take j'.toNat := by
     rw [List.take_append_of_le_length (by rw [List.length_take]; omega), List.take_take, Nat.min_self]
    rw [ym ⟨h4, h5⟩, ym ⟨h4, by rw [List.length_append, List.length_take, List.length_replicate]; omega⟩]
    exact ⟨_, congrArg some ht, h6⟩
   ·rw [if_neg (by simpa using he), hk1]
    refine ybf hv hs hl hk n (i + 1) (by omega) (by omega) (by omega) ?_
    rw [y4Y s0 (by omega) h]
    exact st.2 he
  ·rw [if_neg (by simpa using h)]
   refine ⟨s0, hk, ?_⟩
   rw [show (s0.length : Int) = i by omega]
   have := h3
   rwa [List.take_of_length_le (by omega)] at this
theorem yc6 {s0 : List R} (hv : ∀ x ∈ s0, V x = true) (hs : s0.Pairwise fun x y => val x ≤ val y) (hl : (s0.length : Int) ≤ 1000000) :
  ∃ r, y1A s0 = some r ∧ Inc r ∧ (∀ v, v ∈ r ↔ v ∈ s0) ∧ r.length ≤ s0.length := by
 unfold y1A
 by_cases h : (s0.length : Int) < 2
 ·rw [if_pos (decide_eq_true h)]
  refine ⟨s0, rfl, ?_, fun _ => Iff.rfl, Nat.le_refl _⟩
  unfold Inc
  rcases s0 with _ | ⟨x, _ | ⟨y, l⟩⟩
  ·exact .nil
  ·simp
  ·simp only [List.length_cons] at h; omega
 ·rw [if_neg (by simpa using h)]
  refine y5R (P := fun o => ∃ r, o = some r ∧ Inc r ∧ (∀ v, v ∈ r ↔ v ∈ s0) ∧ r.length ≤ s0.length) fun k hk => ?_
  have h1 : y6m s0 1 (s0.take (1 : Int).toNat) := by
   refine ⟨?_, fun _ => Iff.rfl, by rw [List.length_take]; omega⟩
   have := y4Y s0 (i := 0) (by omega) (by omega)
   rw [show ((0 : Int) + 1) = 1 from rfl, Int.toNat_zero, List.take_zero, List.nil_append] at this
   rw [this]
   simp [Inc]
  obtain ⟨r, e, hr⟩ := ybf hv hs hl hk yu 1 (by omega) (by omega) (by rw [yU]; omega) h1
  refine ⟨r, e, hr.1, fun v => ?_, by have := hr.2.2; omega⟩
  rw [hr.2.1, Int.toNat_natCast, List.take_length]
end Go.Proofs.YtakfmdiiehcbdaaGreat
