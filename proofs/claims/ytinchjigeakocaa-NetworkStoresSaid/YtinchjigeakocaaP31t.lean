/- A part of this claim's proof: models of functions, walks, plain laws. No conditions. -/
import Derived.Test.YtinchjigeakocaaP31s
namespace Go.Proofs.Ytinchjigeakocaa
open Go Go.RowKit Sep
set_option linter.all false
section
variable {f : Cm → Cm → Option Int} {lt : Cm → Cm → Prop}
theorem nthD {d : List Cm} {i : Int} : (⟨(nth d i).fSent, (nth d i).fNode, (nth d i).fTime⟩ : Cm) = nth d i := rfl
theorem bs6 (C : Cmp f lt) {k : Int → Option (List Cm)} {d : List Cm} {a m b : Int} (ha : 0 ≤ a ∧ a < d.length) (hm : 0 ≤ m) (hb : b ≤ d.length) (hd : d.length < 1152921504606846976) : ∀ (n : Nat) (i j : Int), j - i < n → m ≤ i → i ≤ j → j ≤ b → (i = m ∨ lt (nth d (i - 1)) (nth d a)) → (j = b ∨ ¬ lt (nth d j) (nth d a)) →
    ∃ r, yH d a f k n i j = k r ∧ m ≤ r ∧ r ≤ b ∧ (r = m ∨ lt (nth d (r - 1)) (nth d a)) ∧ (r = b ∨ ¬ lt (nth d r) (nth d a))
  | 0, i, j, h0, h1, h2, h3, h4, h5 => by omega
  | n + 1, i, j, h0, h1, h2, h3, h4, h5 => by
    rw [yH]
    by_cases h : i < j
    · rw [if_pos (decide_eq_true h), y56 (s := i + j) (by omega) (by omega)]
      have q : (0 : Int) ≤ (i + j) / 2 ∧ (i + j) / 2 < d.length := by omega
      rw [yo q, yo ha]
      simp only [nthD]
      obtain ⟨v, v1, v2⟩ := C.eq (nth d ((i + j) / 2)) (nth d a)
      rw [v1]
      simp only [Option.bind_some]
      by_cases hv : v < 0
      · rw [if_pos (decide_eq_true hv), yn (x := (i + j) / 2 + 1) (by omega)]
        exact bs6 C ha hm hb hd n _ j (by omega) (by omega) (by omega) h3 (.inr (by rw [show (i + j) / 2 + 1 - 1 = (i + j) / 2 by omega]; exact v2.1 hv)) h5
      · rw [if_neg (by simpa using hv)]
        exact bs6 C ha hm hb hd n i _ (by omega) h1 (by omega) (by omega) h4 (.inr fun hc => hv (v2.2 hc))
    · rw [if_neg (by simpa using h)]
      have : i = j := by omega
      subst this
      exact ⟨i, rfl, h1, h3, h4, h5⟩
theorem bs8 (C : Cmp f lt) {k : Int → Option (List Cm)} {d : List Cm} {a m : Int} (ha : 0 ≤ a) (hm : 0 ≤ m ∧ m < d.length) (hd : d.length < 1152921504606846976) : ∀ (n : Nat) (i j : Int), j - i < n → a ≤ i → i ≤ j → j ≤ m → (i = a ∨ ¬ lt (nth d m) (nth d (i - 1))) → (j = m ∨ lt (nth d m) (nth d j)) →
    ∃ r, yJ m d f k n i j = k r ∧ a ≤ r ∧ r ≤ m ∧ (r = a ∨ ¬ lt (nth d m) (nth d (r - 1))) ∧ (r = m ∨ lt (nth d m) (nth d r))
  | 0, i, j, h0, h1, h2, h3, h4, h5 => by omega
  | n + 1, i, j, h0, h1, h2, h3, h4, h5 => by
    rw [yJ]
    by_cases h : i < j
    · rw [if_pos (decide_eq_true h), y56 (s := i + j) (by omega) (by omega)]
      have q : (0 : Int) ≤ (i + j) / 2 ∧ (i + j) / 2 < d.length := by omega
      rw [yo hm, yo q]
      simp only [nthD]
      obtain ⟨v, v1, v2⟩ := C.eq (nth d m) (nth d ((i + j) / 2))
      rw [v1]
      simp only [Option.bind_some]
      by_cases hv : v < 0
      · rw [if_neg (by simpa using hv)]
        exact bs8 C ha hm hd n i _ (by omega) h1 (by omega) (by omega) h4 (.inr (v2.1 hv))
      · rw [if_pos (by simpa using hv), yn (x := (i + j) / 2 + 1) (by omega)]
        exact bs8 C ha hm hd n _ j (by omega) (by omega) (by omega) h3 (.inr (by rw [show (i + j) / 2 + 1 - 1 = (i + j) / 2 by omega]; exact fun hc => hv (v2.2 hc))) h5
    · rw [if_neg (by simpa using h)]
      have : i = j := by omega
      subst this
      exact ⟨i, rfl, h1, h3, h4, h5⟩
theorem bs10 (C : Cmp f lt) {k : Int → Option (List Cm)} {d : List Cm} {a m b lo hi : Int} (h0 : 0 ≤ lo) (hb : 0 ≤ a ∧ a ≤ b ∧ 0 ≤ m ∧ b ≤ d.length ∧ m ≤ d.length) (hd : d.length < 1152921504606846976) (hh : hi ≤ d.length) (hp : hi ≤ (a + b) / 2 + m) (hq : (a + b) / 2 + m - 1 - lo < d.length) :
    ∀ (n : Nat) (i j : Int), j - i < n → lo ≤ i → i ≤ j → j ≤ hi → (i = lo ∨ ¬ lt (nth d ((a + b) / 2 + m - i)) (nth d (i - 1))) → (j = hi ∨ lt (nth d ((a + b) / 2 + m - 1 - j)) (nth d j)) →
    ∃ r, yF a b m d f k n i j = k r ∧ lo ≤ r ∧ r ≤ hi ∧ (r = lo ∨ ¬ lt (nth d ((a + b) / 2 + m - r)) (nth d (r - 1))) ∧ (r = hi ∨ lt (nth d ((a + b) / 2 + m - 1 - r)) (nth d r))
  | 0, i, j, h0, h1, h2, h3, h4, h5 => by omega
  | n + 1, i, j, h0, h1, h2, h3, h4, h5 => by
    rw [yF]
    by_cases h : i < j
    · rw [if_pos (decide_eq_true h), y56 (s := i + j) (by omega) (by omega), y56 (s := a + b) (by omega) (by omega), yn (x := (a + b) / 2 + m) (by omega), yn (x := (a + b) / 2 + m - 1) (by omega), yn (x := (a + b) / 2 + m - 1 - (i + j) / 2) (by omega)]
      have q : (0 : Int) ≤ (i + j) / 2 ∧ (i + j) / 2 < d.length := by omega
      have q2 : (0 : Int) ≤ (a + b) / 2 + m - 1 - (i + j) / 2 ∧ (a + b) / 2 + m - 1 - (i + j) / 2 < d.length := by omega
      rw [yo q2, yo q]
      simp only [nthD]
      obtain ⟨v, v1, v2⟩ := C.eq (nth d ((a + b) / 2 + m - 1 - (i + j) / 2)) (nth d ((i + j) / 2))
      rw [v1]
      simp only [Option.bind_some]
      by_cases hv : v < 0
      · rw [if_neg (by simpa using hv)]
        exact bs10 C (by omega) hb hd hh hp hq n i _ (by omega) h1 (by omega) (by omega) h4 (.inr (v2.1 hv))
      · rw [if_pos (by simpa using hv), yn (x := (i + j) / 2 + 1) (by omega)]
        exact bs10 C (by omega) hb hd hh hp hq n _ j (by omega) (by omega) (by omega) h3 (.inr (by rw [show (i + j) / 2 + 1 - 1 = (i + j) / 2 by omega, show (a + b) / 2 + m - ((i + j) / 2 + 1) = (a + b) / 2 + m - 1 - (i + j) / 2 by omega]; exact fun hc => hv (v2.2 hc))) h5
    · rw [if_neg (by simpa using h)]
      have : i = j := by omega
      subst this
      exact ⟨i, rfl, h1, h3, h4, h5⟩
theorem mv7 {k : List Cm → Option (List Cm)} {P S : List Cm} {x : Cm} {i : Int} : ∀ (n : Nat) (Q R : List Cm) (j : Int), R.length < n → j = P.length + Q.length → i = P.length + Q.length + 1 + R.length → (P ++ (Q ++ x :: (R ++ S))).length < 1152921504606846976 →
    yI i k n (P ++ (Q ++ x :: (R ++ S))) j = k (P ++ (Q ++ (R ++ x :: S)))
  | 0, Q, R, j, h0, hj, hi, hl => by omega
  | n + 1, Q, [], j, h0, hj, hi, hl => by
    have hl' := hl
    simp only [List.length_append, List.length_cons, List.length_nil] at hl' hi
    rw [yI, yn (x := i - 1) (by omega), if_neg (by simp; omega)]; rfl
  | n + 1, Q, y :: R, j, h0, hj, hi, hl => by
    have hl' := hl
    simp only [List.length_append, List.length_cons] at hl' hi h0
    rw [yI, yn (x := i - 1) (by omega), if_pos (decide_eq_true (by omega)), yn (x := j + 1) (by omega)]
    have e1 : P ++ (Q ++ x :: (y :: R ++ S)) = (P ++ Q) ++ x :: (y :: R ++ S) := by simp
    have e2 : P ++ (Q ++ x :: (y :: R ++ S)) = (P ++ Q ++ [x]) ++ y :: (R ++ S) := by simp
    have q1 : (0 : Int) ≤ j ∧ j < (((P ++ (Q ++ x :: (y :: R ++ S))).length : Nat) : Int) := by simp; omega
    have q2 : (0 : Int) ≤ j + 1 ∧ j + 1 < (((P ++ (Q ++ x :: (y :: R ++ S))).length : Nat) : Int) := by simp; omega
    have n1 : nth (P ++ (Q ++ x :: (y :: R ++ S))) j = x := by rw [e1, y4Y (by simp; omega)]
    have n2 : nth (P ++ (Q ++ x :: (y :: R ++ S))) (j + 1) = y := by rw [e2, y4Y (by simp; omega)]
    rw [yo q2, yo q1, yo (by rw [List.length_set]; exact q2), n1, n2]
    simp only [y7H]
    have s1 : (P ++ (Q ++ x :: (y :: R ++ S))).set j.toNat y = (P ++ Q ++ [y]) ++ y :: (R ++ S) := by
      rw [e1, y4Z (by simp; omega)]; simp
    have s2 : ((P ++ Q ++ [y]) ++ y :: (R ++ S)).set (j + 1).toNat x = P ++ ((Q ++ [y]) ++ x :: (R ++ S)) := by
      rw [y4Z (by simp; omega)]; simp
    rw [s1, s2, mv7 n (Q ++ [y]) R (j + 1) (by omega) (by simp; omega) (by simp; omega) (by simp; omega)]
    simp
theorem mv9 {k : List Cm → Option (List Cm)} {P : List Cm} {y : Cm} {i : Int} (hi : i = P.length) : ∀ (n : Nat) (R S : List Cm) (j : Int), R.length < n → j = P.length + R.length → (P ++ (R ++ y :: S)).length < 1152921504606846976 →
    yR i k n (P ++ (R ++ y :: S)) j = k (P ++ (y :: (R ++ S)))
  | 0, R, S, j, h0, hj, hl => by omega
  | n + 1, R, S, j, h0, hj, hl => by
    have hl' := hl
    simp only [List.length_append, List.length_cons] at hl'
    rw [yR]
    rcases List.eq_nil_or_concat R with rfl | ⟨R, x, rfl⟩
    · rw [if_neg (by simp at hj ⊢; omega)]; rfl
    · rw [List.concat_eq_append] at *
      simp only [List.length_append, List.length_singleton] at h0 hj hl'
      rw [if_pos (decide_eq_true (by omega)), yn (x := j - 1) (by omega)]
      have e1 : P ++ (R ++ [x] ++ y :: S) = (P ++ R) ++ x :: (y :: S) := by simp
      have e2 : P ++ (R ++ [x] ++ y :: S) = (P ++ R ++ [x]) ++ y :: S := by simp
      have q1 : (0 : Int) ≤ j ∧ j < (((P ++ (R ++ [x] ++ y :: S)).length : Nat) : Int) := by simp; omega
      have q2 : (0 : Int) ≤ j - 1 ∧ j - 1 < (((P ++ (R ++ [x] ++ y :: S)).length : Nat) : Int) := by simp; omega
      have n1 : nth (P ++ (R ++ [x] ++ y :: S)) j = y := by rw [e2, y4Y (by simp; omega)]
      have n2 : nth (P ++ (R ++ [x] ++ y :: S)) (j - 1) = x := by rw [e1, y4Y (by simp; omega)]
      rw [yo q2, yo q1, yo (by rw [List.length_set]; exact q2), n1, n2]
      simp only [y7H]
      have s1 : (P ++ (R ++ [x] ++ y :: S)).set j.toNat x = (P ++ R) ++ x :: x :: S := by
        rw [e2, y4Z (by simp; omega)]; simp
      have s2 : ((P ++ R) ++ x :: x :: S).set (j - 1).toNat y = P ++ (R ++ y :: (x :: S)) := by
        rw [y4Z (by simp; omega)]; simp
      first
      | rw [s1, s2, mv9 hi n R (x :: S) (j - 1) (by omega) (by omega) (by simp; omega)]
      | (have s1 : (P ++ (R ++ [x] ++ y :: S)).set (j - 1).toNat y = (P ++ R) ++ y :: y :: S := by
          rw [e1, y4Z (by simp; omega)]
         have s2 : ((P ++ R) ++ y :: y :: S).set j.toNat x = P ++ (R ++ y :: (x :: S)) := by
          rw [show (P ++ R) ++ y :: y :: S = (P ++ R ++ [y]) ++ y :: S by simp, y4Z (by simp; omega)]; simp
         rw [s1, s2, mv9 hi n R (x :: S) (j - 1) (by omega) (by omega) (by simp; omega)])
      simp
end
end Go.Proofs.Ytinchjigeakocaa
