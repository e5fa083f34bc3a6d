/- A part of this claim's proof: plain laws: the loops of generic functions, order statistics. No conditions beyond those in each theorem's statement. -/
import Derived.Test.YtbejngeaocfieaaZPure
set_option linter.all false
namespace Sep
open Go Go.RowKit
set_option linter.unusedSectionVars false
variable [Rnd]
/-! ### plain laws of the loops that the library's generic functions make -/
theorem drop_cons {α : Type} [Inhabited α] {l : List α} {i : Int} (h0 : 0 ≤ i) (h : i < l.length) : l.drop i.toNat = nth l i :: l.drop (i + 1).toNat := by
  rw [show (i + 1).toNat = i.toNat + 1 from by omega, List.drop_eq_getElem_cons (by omega), nth_lt h0 h]
theorem drop_end {α : Type} {l : List α} {i : Int} (h : ¬ i < l.length) : l.drop i.toNat = [] := List.drop_eq_nil_of_le (by omega)
theorem nth_mem {α : Type} [Inhabited α] {l : List α} {i : Int} (h0 : 0 ≤ i) (h : i < l.length) : nth l i ∈ l := by
  rw [← nth_lt h0 h]; exact List.getElem_mem _
theorem take_succ {α : Type} [Inhabited α] (l : List α) {i : Int} (h0 : 0 ≤ i) (h : i < l.length) : l.take (i + 1).toNat = l.take i.toNat ++ [nth l i] := by
  rw [show (i + 1).toNat = i.toNat + 1 from by omega, List.take_succ_eq_append_getElem (by omega), nth_lt h0 h]
theorem step64 {i : Int} {n : Nat} (h0 : 0 ≤ i) (h : i < n) (hn : (n : Int) ≤ 9223372036854775807) : i64 (i + 1) = i + 1 := i64_id (by omega)

/-- slices.IndexFunc -/
theorem index_loop {α : Type} [Inhabited α] {s : List α} {f : α → Option Bool} {p : α → Bool} {k : Option Int} {L : Nat → Int → Option Int}
    (hL : ∀ n i, L (n + 1) i = if decide (i < ((s.length : Nat) : Int)) then chk ((0 : Int) ≤ i ∧ i < ((s.length : Nat) : Int)) ((f (nth s i)).bind fun x => if x then some i else L n (i64 (i + 1))) else k)
    (hf : ∀ x ∈ s, f x = some (p x)) (hs : (s.length : Int) ≤ 9223372036854775807) :
    ∀ (n : Nat) (i : Int), 0 ≤ i → i ≤ s.length → s.length - i < n → L n i = match (s.drop i.toNat).findIdx? p with | some j => some (i + j) | none => k := by
  intro n
  induction n with
  | zero => intro i h0 h1 h2; omega
  | succ n ih =>
    intro i h0 h1 h2
    rw [hL]
    by_cases hi : i < s.length
    · rw [if_pos (by simpa using hi), chk_pos ⟨h0, hi⟩, hf _ (nth_mem h0 hi), Option.bind_some, drop_cons h0 hi, List.findIdx?_cons]
      cases hp : p (nth s i)
      · rw [if_neg (by simp), if_neg (by simp), step64 h0 hi hs, ih (i + 1) (by omega) (by omega) (by omega)]
        cases List.findIdx? p (s.drop (i + 1).toNat) with
        | none => rfl
        | some j => simp; omega
      · simp
    · rw [if_neg (by simpa using hi), drop_end hi]; rfl
theorem index_func {α : Type} [Inhabited α] {s : List α} {f : α → Option Bool} {p : α → Bool} {L : Option Int → Nat → Int → Option Int}
    (hL : ∀ k n i, L k (n + 1) i = if decide (i < ((s.length : Nat) : Int)) then chk ((0 : Int) ≤ i ∧ i < ((s.length : Nat) : Int)) ((f (nth s i)).bind fun x => if x then some i else L k n (i64 (i + 1))) else k)
    (hf : ∀ x ∈ s, f x = some (p x)) (hs : (s.length : Int) ≤ 4611686018427387000) :
    (jp0 (some (-1)) fun k => L k FUEL 0) = some (match s.findIdx? p with | some j => (j : Int) | none => -1) := by
  simp only [jp0]
  rw [index_loop (hL (some (-1))) hf (by omega) FUEL 0 (by omega) (by omega) (by rw [FUEL_eq]; omega)]
  simp only [Int.toNat_zero, List.drop_zero]
  cases s.findIdx? p with
  | none => rfl
  | some j => simp
theorem contains_func {α : Type} {s : List α} {p : α → Bool} {o : Option Int} (h : o = some (match s.findIdx? p with | some j => (j : Int) | none => -1)) : (o.bind fun x => some (decide (x ≥ 0))) = some (s.any p) := by
  rw [h, Option.bind_some]
  congr 1
  cases hq : s.findIdx? p with
  | none =>
    have := List.findIdx?_eq_none_iff.1 hq
    simp only [show ¬ ((-1 : Int) ≥ 0) from by omega, decide_false]
    symm
    rw [List.any_eq_false]
    intro x hx; simp [this x hx]
  | some j =>
    obtain ⟨hj, hpj, _⟩ := List.findIdx?_eq_some_iff_getElem.1 hq
    simp only [ge_iff_le, Int.natCast_nonneg, decide_true]
    symm
    rw [List.any_eq_true]
    exact ⟨s[j], List.getElem_mem _, hpj⟩

/-- a loop that appends f of each element -/
theorem each_loop {α β R : Type} [Inhabited α] {l : List α} {f : α → Option β} {g : α → β} {k : List β → Option R} {by_ : Nat} {L : Nat → List β → Int → Option R}
    (hL : ∀ n out i, L (n + 1) out i = if decide (i < ((l.length : Nat) : Int)) then chk ((0 : Int) ≤ i ∧ i < ((l.length : Nat) : Int)) ((f (nth l i)).bind fun x => chk ((((out ++ [x]).length : Nat) : Int) * by_ ≤ 140737488355328 ∧ (((out ++ [x]).length : Nat) : Int) ≤ 4611686018427387904) (L n (out ++ [x]) (i64 (i + 1)))) else k out)
    (hf : ∀ x ∈ l, f x = some (g x)) (hs : (l.length : Int) * by_ ≤ 140737488355328) (hs2 : (l.length : Int) ≤ 4611686018427387904) :
    ∀ (n : Nat) (out : List β) (i : Int), 0 ≤ i → i ≤ l.length → l.length - i < n → (out.length : Int) = i → L n out i = k (out ++ (l.drop i.toNat).map g) := by
  intro n
  induction n with
  | zero => intro out i h0 h1 h2; omega
  | succ n ih =>
    intro out i h0 h1 h2 h3
    rw [hL]
    by_cases hi : i < l.length
    · have hle : (i + 1) * (by_ : Int) ≤ 140737488355328 := Int.le_trans (Int.mul_le_mul_of_nonneg_right (show i + 1 ≤ (l.length : Int) from by omega) (by omega)) hs
      rw [if_pos (by simpa using hi), chk_pos ⟨h0, hi⟩, hf _ (nth_mem h0 hi), Option.bind_some]
      rw [chk_pos ⟨by rw [List.length_append, List.length_singleton]; push_cast; rw [h3]; exact hle, by rw [List.length_append, List.length_singleton]; omega⟩]
      rw [step64 h0 hi (by omega), ih _ (i + 1) (by omega) (by omega) (by omega) (by simp; omega), drop_cons h0 hi]
      simp
    · rw [if_neg (by simpa using hi), drop_end hi]; simp

/-- slices.DeleteFunc behind the first that goes -/
theorem delete_loop {α R : Type} [Inhabited α] {l : List α} {f : α → Option Bool} {p : α → Bool} {k : List α → Int → Option R} {L : Nat → List α → Int → Int → Option R}
    (hL : ∀ n s i j, L (n + 1) s i j = if decide (j < ((s.length : Nat) : Int)) then jp2 (fun (s' : List α) (i' : Int) => L n s' i' (i64 (j + 1))) fun kk => chk ((0 : Int) ≤ j ∧ j < ((s.length : Nat) : Int)) ((f (nth s j)).bind fun x => if !x then chk ((0 : Int) ≤ i ∧ i < ((s.length : Nat) : Int)) (kk (s.set (i : Int).toNat (nth s j)) (i64 (i + 1))) else kk s i) else k s i)
    (hf : ∀ x ∈ l, f x = some (p x)) (hs : (l.length : Int) ≤ 9223372036854775807) :
    ∀ (n : Nat) (s : List α) (i j : Int), 0 ≤ i → i < j → j ≤ l.length → l.length - j < n → s.length = l.length → s.take i.toNat = (l.take j.toNat).filter (fun x => !p x) → s.drop j.toNat = l.drop j.toNat →
      ∃ s' i', L n s i j = k s' i' ∧ s'.length = l.length ∧ 0 ≤ i' ∧ i' ≤ l.length ∧ s'.take i'.toNat = l.filter (fun x => !p x) := by
  intro n
  induction n with
  | zero => intro s i j h0 h1 h2 h3; omega
  | succ n ih =>
    intro s i j h0 h1 h2 h3 hl ht hd
    rw [hL]
    by_cases hj : j < l.length
    · have e : nth s j = nth l j := by
        have h' := congrArg (fun z => z[0]?) hd
        simp only [List.getElem?_drop, Nat.add_zero] at h'
        rw [← nth_lt (by omega) hj, ← nth_lt (by omega) (by omega)]
        rw [List.getElem?_eq_getElem (by omega), List.getElem?_eq_getElem (by omega)] at h'
        exact Option.some.inj h'
      have hd1 : ∀ s' : List α, s'.drop j.toNat = l.drop j.toNat → s'.drop (j + 1).toNat = l.drop (j + 1).toNat := by
        intro s' hd'
        have h' := congrArg (fun z => z.drop 1) hd'
        simpa [List.drop_drop, show (j + 1).toNat = j.toNat + 1 from by omega] using h'
      rw [if_pos (by simp; omega)]
      simp only [jp2]
      rw [chk_pos ⟨by omega, by omega⟩, e, hf _ (nth_mem (by omega) hj), Option.bind_some]
      cases hp : p (nth l j)
      · simp only [Bool.not_false, if_true]
        rw [chk_pos ⟨h0, by omega⟩, step64 (i := j) (n := l.length) (by omega) hj hs, i64_id (x := i + 1) (by omega)]
        refine ih _ _ _ (by omega) (by omega) (by omega) (by omega) (by simpa using hl) ?_ ?_
        · rw [take_succ l (by omega) hj, List.filter_append, ← ht, show (i + 1).toNat = i.toNat + 1 from by omega, List.take_succ_eq_append_getElem (by simp; omega), List.take_set_of_le (Nat.le_refl _)]
          simp [hp]
        · exact hd1 _ (by rw [List.drop_set_of_lt (by omega)]; exact hd)
      · simp only [Bool.not_true, Bool.false_eq_true, if_false]
        rw [step64 (i := j) (n := l.length) (by omega) hj hs]
        refine ih _ _ _ h0 (by omega) (by omega) (by omega) hl ?_ (hd1 _ hd)
        rw [take_succ l (by omega) hj, List.filter_append, ← ht]; simp [hp]
    · rw [if_neg (by simp; omega)]
      refine ⟨s, i, rfl, hl, h0, by omega, ?_⟩
      rw [ht, List.take_of_length_le (by omega)]

theorem delete_func {α : Type} [Inhabited α] {l : List α} {f : α → Option Bool} {p : α → Bool} {z0 : α} {idx : Option Int} {L : (List α → Int → Option (List α)) → Nat → List α → Int → Int → Option (List α)}
    (hidx : idx = some (match l.findIdx? p with | some j => (j : Int) | none => -1))
    (hL : ∀ k n s i j, L k (n + 1) s i j = if decide (j < ((s.length : Nat) : Int)) then jp2 (fun (s' : List α) (i' : Int) => L k n s' i' (i64 (j + 1))) fun kk => chk ((0 : Int) ≤ j ∧ j < ((s.length : Nat) : Int)) ((f (nth s j)).bind fun x => if !x then chk ((0 : Int) ≤ i ∧ i < ((s.length : Nat) : Int)) (kk (s.set (i : Int).toNat (nth s j)) (i64 (i + 1))) else kk s i) else k s i)
    (hf : ∀ x ∈ l, f x = some (p x)) (hs : (l.length : Int) ≤ 4611686018427387000) :
    (idx.bind fun x => if decide (x = (-1)) then some l else jp2 (fun (s : List α) (i : Int) => chk ((0 : Int) ≤ i ∧ i ≤ ((s.length : Nat) : Int)) (chk ((0 : Int) ≤ i ∧ i ≤ (((s.take (i : Int).toNat ++ List.replicate (s.length - (i : Int).toNat) z0).length : Nat) : Int)) (some ((s.take (i : Int).toNat ++ List.replicate (s.length - (i : Int).toNat) z0).take (i : Int).toNat)))) fun k => L k FUEL l x (i64 (x + 1))) = some (l.filter fun x => !p x) := by
  rw [hidx, Option.bind_some]
  cases hq : l.findIdx? p with
  | none =>
    have := List.findIdx?_eq_none_iff.1 hq
    simp only [decide_true, if_true]
    congr 1
    symm
    exact List.filter_eq_self.2 fun x hx => by simp [this x hx]
  | some j =>
    obtain ⟨hj, hpj, hlt⟩ := List.findIdx?_eq_some_iff_getElem.1 hq
    simp only [jp2]
    rw [if_neg (by simp), i64_id (x := (j : Int) + 1) (by omega)]
    have ht : l.take j = (l.take (j + 1)).filter (fun x => !p x) := by
      rw [List.take_succ_eq_append_getElem hj, List.filter_append]
      rw [List.filter_eq_self.2 (fun x hx => by
        obtain ⟨i, hi, rfl⟩ := List.getElem_of_mem hx
        have := hlt i (by simp at hi; omega)
        simpa using this)]
      simp [hpj]
    obtain ⟨s', i', he, hl', h0, h1, h2⟩ := delete_loop (hL _) hf (by omega) FUEL l j (j + 1) (by omega) (by omega) (by omega) (by rw [FUEL_eq]; omega) rfl
      (by rw [Int.toNat_natCast, show ((j : Int) + 1).toNat = j + 1 from by omega]; exact ht) rfl
    rw [he, chk_pos ⟨h0, by omega⟩, chk_pos ⟨h0, by simp; omega⟩]
    rw [List.take_append_of_le_length (by simp; omega), List.take_take, Nat.min_self, h2]

/-! ### order statistics -/
theorem countP_pair {p q : Int → Bool} {s : List Int} (h : ∀ x ∈ s, p x = true → q x = true) : s.countP p ≤ s.countP q := List.countP_mono_left h
/-- in a sorted list: how many are smaller than the one at k, and how many at most it -/
theorem sorted_count : ∀ {s : List Int} (_ : s.Pairwise (· ≤ ·)) (k : Nat) (hk : k < s.length), s.countP (fun x => decide (x < s[k])) ≤ k ∧ k < s.countP (fun x => decide (x ≤ s[k]))
  | [], _, k, hk => by simp at hk
  | x :: s, h, 0, _ => by
    obtain ⟨h1, h2⟩ := List.pairwise_cons.1 h
    constructor
    · simp only [List.getElem_cons_zero]
      rw [List.countP_eq_zero.2]
      · exact Nat.le_refl _
      · intro y hy
        rcases List.mem_cons.1 hy with rfl | hy
        · simp
        · have := h1 y hy; simp; omega
    · simp only [List.getElem_cons_zero, List.countP_cons, Int.le_refl, decide_true, if_true]; omega
  | x :: s, h, k + 1, hk => by
    obtain ⟨h1, h2⟩ := List.pairwise_cons.1 h
    have hk' : k < s.length := by simpa using hk
    obtain ⟨i1, i2⟩ := sorted_count h2 k hk'
    have hx := h1 _ (List.getElem_mem hk')
    simp only [List.getElem_cons_succ, List.countP_cons]
    constructor
    · split <;> omega
    · rw [if_pos (by simpa using hx)]; omega
/-- the k-th smallest -/
def stat (l : List Int) (k : Int) : Int := nth (isort l) k
theorem stat_count {l : List Int} {k : Int} (h0 : 0 ≤ k) (h1 : k < l.length) : (l.countP (fun x => decide (x < stat l k)) : Int) ≤ k ∧ k < l.countP (fun x => decide (x ≤ stat l k)) := by
  have hl := isort_length l
  have h := sorted_count (isort_sorted l) k.toNat (by omega)
  rw [(isort_perm l).countP_eq, (isort_perm l).countP_eq, nth_lt h0 (by omega)] at h
  unfold stat
  omega
theorem stat_ge {l : List Int} {k v : Int} (h0 : 0 ≤ k) (h1 : k < l.length) (h : (l.countP (fun x => decide (x < v)) : Int) ≤ k) : v ≤ stat l k := by
  rcases Int.lt_or_le (stat l k) v with h' | h'
  · have := (stat_count h0 h1).2
    have h2 : l.countP (fun x => decide (x ≤ stat l k)) ≤ l.countP (fun x => decide (x < v)) := countP_pair (fun x _ hx => by simp at hx ⊢; omega)
    omega
  · exact h'
theorem stat_le {l : List Int} {k v : Int} (h0 : 0 ≤ k) (h1 : k < l.length) (h : k < l.countP (fun x => decide (x ≤ v))) : stat l k ≤ v := by
  rcases Int.lt_or_le v (stat l k) with h' | h'
  · have := (stat_count h0 h1).1
    have h2 : l.countP (fun x => decide (x ≤ v)) ≤ l.countP (fun x => decide (x < stat l k)) := countP_pair (fun x _ hx => by simp at hx ⊢; omega)
    omega
  · exact h'
theorem stat_mem {l : List Int} {k : Int} (h0 : 0 ≤ k) (h1 : k < l.length) : stat l k ∈ l := by
  have hl := isort_length l
  exact (isort_perm l).mem_iff.1 (nth_mem h0 (by omega))
theorem stat_unique {l : List Int} {k v : Int} (h0 : 0 ≤ k) (h1 : k < l.length) (ha : (l.countP (fun x => decide (x < v)) : Int) ≤ k) (hb : k < l.countP (fun x => decide (x ≤ v))) : stat l k = v := by
  have := stat_ge h0 h1 ha
  have := stat_le h0 h1 hb
  omega
theorem stat_mono {l : List Int} {i j : Int} (h0 : 0 ≤ i) (hij : i ≤ j) (h1 : j < l.length) : stat l i ≤ stat l j :=
  stat_le h0 (by omega) (by have := (stat_count (l := l) (k := j) (by omega) h1).2; omega)
theorem isort_congr {l m : List Int} (h : l.Perm m) : isort l = isort m := sorted_unique (isort_sorted l) (isort_sorted m) (((isort_perm l).trans h).trans (isort_perm m).symm)
end Sep
