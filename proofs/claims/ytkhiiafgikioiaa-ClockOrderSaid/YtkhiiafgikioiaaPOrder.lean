/- A part of this claim's proof: models of the functions that the law reaches, with the proof that the functions compute them; plain laws about the models. No conditions beyond those in each theorem's statement. -/
import Derived.Test.YtkhiiafgikioiaaPTrue
import Derived.Test.YtkhiiafgikioiaaWClockOrder
set_option linter.all false
namespace Go.Proofs.Ytkhiiafgikioiaa
open Go Go.RowKit Sep
theorem stat_congr {l m : List Int} (h : l.Perm m) (k : Int) : stat l k = stat m k := by unfold stat; rw [isort_congr h]
theorem stat_shift {l : List Int} {c k : Int} (h0 : 0 ≤ k) (h1 : k < l.length) : stat (l.map (· + c)) k = stat l k + c := by
  have h := stat_count h0 h1
  refine stat_unique h0 (by simpa using h1) ?_ ?_
  · rw [List.countP_map]
    have : l.countP ((fun x => decide (x < stat l k + c)) ∘ (· + c)) = l.countP (fun x => decide (x < stat l k)) := by
      apply List.countP_congr; intro x _; simp
    omega
  · rw [List.countP_map]
    have : l.countP ((fun x => decide (x ≤ stat l k + c)) ∘ (· + c)) = l.countP (fun x => decide (x ≤ stat l k)) := by
      apply List.countP_congr; intro x _; simp
    omega
theorem stat_up {l : List Int} {k v : Int} {j : Nat} (h0 : 0 ≤ k) (h1 : k < l.length) (hj : j < l.length) (hv : l[j] ≤ v) : stat l k ≤ stat (l.set j v) k := by
  have h := stat_count h0 h1
  refine stat_ge h0 (by simpa using h1) ?_
  have e1 : l = l.take j ++ l[j] :: l.drop (j + 1) := by simp
  have e2 : l.set j v = l.take j ++ v :: l.drop (j + 1) := by rw [List.set_eq_take_append_cons_drop, if_pos hj]
  have c1 : l.countP (fun x => decide (x < stat l k)) = (l.take j).countP (fun x => decide (x < stat l k)) + ((l.drop (j + 1)).countP (fun x => decide (x < stat l k)) + if decide (l[j] < stat l k) = true then 1 else 0) := by
    have := congrArg (List.countP (fun x => decide (x < stat l k))) e1
    rwa [List.countP_append, List.countP_cons] at this
  rw [e2, List.countP_append, List.countP_cons]
  have : (if decide (v < stat l k) = true then 1 else 0) ≤ (if decide (l[j] < stat l k) = true then 1 else 0) := by
    by_cases hc : v < stat l k
    · rw [if_pos (by simpa using hc), if_pos (by simp; omega)]; exact Nat.le_refl _
    · rw [if_neg (by simpa using hc)]; exact Nat.zero_le _
  omega
theorem order_loop {x : List Int} {c : Int} {k : List Int → List Int → List Int → Option Bool} (hl : (x.length : Int) ≤ 16) (hx : ∀ y ∈ x, -1000 ≤ y ∧ y ≤ 1000) (hc : -32768 ≤ c ∧ c ≤ 32767) :
    ∀ (n : Nat) (tu mo : List Int) (i : Int), 0 ≤ i → i ≤ x.length → x.length - i < n → (tu.length : Int) = i → (mo.length : Int) = i →
      m_law33_ClockOrder_L2 x c k n x tu mo i = k x (tu ++ x.reverse.drop i.toNat) (mo ++ (x.drop i.toNat).map (· + c)) := by
  intro n
  induction n with
  | zero => intro tu mo i; omega
  | succ n ih =>
    intro tu mo i h0 h1 h2 h3 h4
    rw [m_law33_ClockOrder_L2]
    by_cases hi : i < x.length
    · have hb := hx _ (nth_mem h0 hi)
      have hr : nth x (x.length - 1 - i) = nth x.reverse i := by
        rw [← nth_lt (l := x) (by omega) (by omega), ← nth_lt (l := x.reverse) h0 (by simp; omega), List.getElem_reverse]
        congr 1; omega
      rw [if_pos (by simpa using hi), i64_id (x := (x.length : Int) - 1) (by omega), i64_id (x := (x.length : Int) - 1 - i) (by omega), i64_id (x := c) (by omega), i64_id (x := nth x i + c) (by omega), i64_id (x := i + 1) (by omega)]
      rw [chk_pos ⟨by omega, by omega⟩, chk_pos (by simp; omega), chk_pos ⟨h0, hi⟩, chk_pos (by simp; omega)]
      rw [ih _ _ (i + 1) (by omega) (by omega) (by omega) (by simp; omega) (by simp; omega), drop_cons h0 hi, drop_cons (l := x.reverse) h0 (by simpa using hi), hr]
      simp
    · rw [if_neg (by simpa using hi), drop_end hi, drop_end (l := x.reverse) (by simpa using hi)]; simp
theorem midOk_of {l : List Int} {f : Int} (h : okN l.length f) (hx : ∀ y ∈ l, -100000 ≤ y ∧ y ≤ 100000) : midOk l f = true := by
  unfold midOk
  rw [Bool.and_eq_true, decide_eq_true_eq, List.all_eq_true]
  exact ⟨h, fun y hy => by have := hx y hy; simp [inT]; omega⟩
theorem clockOrder_true {l : List Int} {n which shift more : Int} (hl : (l.length : Int) ≤ 9223372036854775807) (hx : ∀ x ∈ l, -32768 ≤ x ∧ x ≤ 32767) (hn : 0 ≤ n ∧ n ≤ 255) (hw : 0 ≤ which ∧ which ≤ 255) (hs : -32768 ≤ shift ∧ shift ≤ 32767) (hm : 0 ≤ more ∧ more ≤ 65535) :
    m_law33_ClockOrder l n which shift more = some true := by
  unfold m_law33_ClockOrder
  have hf := f8 hn
  obtain ⟨t, ht, ok⟩ := times_eq hf hl hx
  obtain ⟨o1, o2, o3, o4⟩ := ok
  rw [ht, Option.bind_some]
  simp only [jp3]
  rw [order_loop o3 o4 hs FUEL [] [] 0 (by omega) (by omega) (by rw [FUEL_eq]; omega) rfl rfl]
  simp only [Int.toNat_zero, List.drop_zero, List.nil_append]
  have hw2 : 0 ≤ Int.tmod (i64 which) (t.length : Int) ∧ Int.tmod (i64 which) (t.length : Int) < t.length := by
    rw [i64_id (by omega), tmodp (by omega)]
    exact ⟨Int.emod_nonneg _ (by omega), Int.emod_lt_of_pos _ (by omega)⟩
  generalize Int.tmod (i64 which) (t.length : Int) = j at hw2 ⊢
  generalize Int.tmod (i64 n) 8 = f at hf o1 ⊢
  have hbj := o4 _ (nth_mem hw2.1 hw2.2)
  rw [chk_pos (by omega), chk_pos (by omega), chk_pos hw2, i64_id (x := more) (by omega), i64_id (x := nth t j + more) (by omega), i64_id (x := shift) (by omega)]
  have hok : okN t.length f := by omega
  rw [midpoint_eq (by omega), Option.bind_some, midpoint_eq (by simp; omega), Option.bind_some, midpoint_eq (by simp; omega), Option.bind_some, midpoint_eq (by simp; omega), Option.bind_some]
  rw [if_pos (midOk_of hok (fun y hy => by have := o4 y hy; omega))]
  rw [if_pos (midOk_of (by simpa using hok) (fun y hy => by have := o4 y (List.mem_reverse.1 hy); omega))]
  rw [if_pos (midOk_of (by simpa using hok) (fun y hy => by
    obtain ⟨z, hz, rfl⟩ := List.mem_map.1 hy
    have := o4 z hz; omega))]
  rw [if_pos (midOk_of (by simpa using hok) (fun y hy => by
    rcases List.mem_or_eq_of_mem_set hy with hy | rfl
    · have := o4 y hy; omega
    · omega))]
  have E1 : mid t.reverse f = mid t f := by
    unfold mid; rw [List.length_reverse, stat_congr (List.reverse_perm t), stat_congr (List.reverse_perm t)]
  have E2 : mid (t.map (· + shift)) f = mid t f + shift := by
    unfold mid
    rw [List.length_map, stat_shift (by omega) (by omega), stat_shift (by omega) (by omega)]; omega
  have E3 : mid t f ≤ mid (t.set j.toNat (nth t j + more)) f := by
    unfold mid
    have hj : t[j.toNat]'(by omega) ≤ nth t j + more := by rw [nth_lt hw2.1 hw2.2]; omega
    have a1 := stat_up (l := t) (k := f) (j := j.toNat) (v := nth t j + more) (by omega) (by omega) (by omega) hj
    have a2 := stat_up (l := t) (k := t.length - 1 - f) (j := j.toNat) (v := nth t j + more) (by omega) (by omega) (by omega) hj
    rw [List.length_set]; omega
  have hmb : -2000 ≤ mid t f ∧ mid t f ≤ 2000 := by
    have h1 := o4 _ (stat_mem (l := t) (k := f) (by omega) (by omega))
    have h2 := o4 _ (stat_mem (l := t) (k := t.length - 1 - f) (by omega) (by omega))
    unfold mid; omega
  rw [E1, E2, i64_id (x := mid t f + shift) (by omega)]
  rw [show i64 (i64 (i64 ((0 : Int) + 0) + 0) + 0) = 0 from by kernel_rfl]
  rw [if_pos (by simp; exact E3), awake_true]
  rfl
end Go.Proofs.Ytkhiiafgikioiaa
