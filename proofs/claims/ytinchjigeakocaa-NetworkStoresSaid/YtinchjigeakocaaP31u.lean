/- A part of this claim's proof: models of functions, walks, plain laws. No conditions. -/
import Derived.Test.YtinchjigeakocaaP31t
namespace Go.Proofs.Ytinchjigeakocaa
open Go Go.RowKit Sep
set_option linter.all false
section
variable {f : Cm → Cm → Option Int} {lt : Cm → Cm → Prop}
theorem nthB {α : Type} [Inhabited α] {P B S : List α} {i : Int} (h : P.length ≤ i ∧ i < P.length + B.length) : nth (P ++ (B ++ S)) i = nth B (i - P.length) := by
 rw [y2N (by simp; omega), y2N (by omega)]
 rw [List.getElem_append_right (by omega), List.getElem_append_left (by omega)]
 congr 1; omega
theorem cut_last {B : List Cm} {n : Nat} (hn : n ≤ B.length) (h0 : 0 < n) : ∃ L, B.take n = L ++ [nth B ((n : Int) - 1)] := by
 refine ⟨B.take (n - 1), ?_⟩
 have := y88 B (i := (n : Int) - 1) (by omega) (by omega)
 rw [show ((n : Int) - 1 + 1).toNat = n by omega, show ((n : Int) - 1).toNat = n - 1 by omega] at this
 exact this
theorem y9U {B : List Cm} {n : Nat} (hn : n < B.length) : ∃ L, B.drop n = nth B (n : Int) :: L := by
 have := y87 (l := B) (i := (n : Int)) (by omega) (by omega)
 exact ⟨_, this⟩
theorem Srt.take_le (C : Cmp f lt) {B : List Cm} (h : Srt lt B) {n : Nat} (hn : n ≤ B.length) {x : Cm} (hx : n = 0 ∨ ¬ lt x (nth B ((n : Int) - 1))) : ∀ y ∈ B.take n, ¬ lt x y := by
 intro y hy
 rcases hx with rfl | hx
 ·simp at hy
 ·by_cases h0 : n = 0
  ·subst h0; simp at hy
  ·obtain ⟨L, hL⟩ := cut_last hn (by omega)
   rw [hL] at hy
   have hs : Srt lt (L ++ [nth B ((n : Int) - 1)]) := by rw [← hL]; exact List.Pairwise.sublist (List.take_sublist _ _) h
   exact C.tr _ _ _ (hs.le_last C y hy) hx
theorem Srt.le_drop (C : Cmp f lt) {B : List Cm} (h : Srt lt B) {n : Nat} {x : Cm} (hx : B.length ≤ n ∨ ¬ lt (nth B (n : Int)) x) : ∀ y ∈ B.drop n, ¬ lt y x := by
 intro y hy
 by_cases h0 : n < B.length
 ·rcases hx with hx | hx
  ·omega
  ·obtain ⟨L, hL⟩ := y9U h0
   rw [hL] at hy
   have hs : Srt lt (nth B (n : Int) :: L) := by rw [← hL]; exact List.Pairwise.sublist (List.drop_sublist _ _) h
   exact C.tr _ _ _ hx (hs.first_le C y hy)
 ·rw [List.drop_eq_nil_of_le (by omega)] at hy; simp at hy
theorem y8X (C : Cmp f lt) : ∀ (n : Nat) (P A B S : List Cm) (a m b : Int), A.length + B.length ≤ n → 0 < A.length → 0 < B.length → Srt lt A → Srt lt B → a = P.length → m = P.length + A.length → b = P.length + A.length + B.length → (P ++ (A ++ (B ++ S))).length < 1152921504606846976 →
  ∃ M, M.Perm (A ++ B) ∧ Srt lt M ∧ yQ n (P ++ (A ++ (B ++ S))) a m b f = some (P ++ (M ++ S))
 | 0, P, A, B, S, a, m, b, h0, hA, hB, sA, sB, ha, hm, hb, hl => by omega
 | n + 1, P, A, B, S, a, m, b, h0, hA, hB, sA, sB, ha, hm, hb, hl => by
  have hl' := hl
  simp only [List.length_append] at hl'
  rw [yQ]
  have hF := y1s
  have hz : ∀ x : Cm, ¬ lt x x := fun x hc => C.asym _ _ hc hc
  generalize hN : yz = N at hF ⊢
  refine y49 (P := fun o => ∃ M, M.Perm (A ++ B) ∧ Srt lt M ∧ o = some (P ++ (M ++ S))) fun k0 hk0 => ?_
  rw [yn (x := m - a) (by omega)]
  by_cases c1 : m - a = 1
  ·rw [if_pos (decide_eq_true c1)]
   obtain ⟨x, rfl⟩ : ∃ x, A = [x] := by
    match A with
    | [x] => exact ⟨x, rfl⟩
    | [] => simp at hA
    | x :: y :: A => simp at hm; omega
   simp only [List.length_singleton] at hm hb hl'
   refine y1E (P := fun o => ∃ M, M.Perm ([x] ++ B) ∧ Srt lt M ∧ o = some (P ++ (M ++ S))) fun k1 hk1 => ?_
   have e1 : P ++ ([x] ++ (B ++ S)) = P ++ x :: (B ++ S) := rfl
   have e2 : P ++ ([x] ++ (B ++ S)) = (P ++ [x]) ++ (B ++ S) := by simp
   have n0 : nth (P ++ ([x] ++ (B ++ S))) a = x := by rw [e1, y4Y ha]
   have nB : ∀ i : Int, m ≤ i → i < b → nth (P ++ ([x] ++ (B ++ S))) i = nth B (i - m) := by
    intro i h1 h2
    rw [e2, nthB (by simp; omega)]
    simp only [List.length_append, List.length_singleton]
    congr 1; omega
   obtain ⟨r, r1, r2, r3, r4, r5⟩ := bs6 C (k := k1) (d := P ++ ([x] ++ (B ++ S))) (a := a) (m := m) (b := b) (by simp; omega) (by omega) (by simp; omega) hl N m b (by omega) (by omega) (by omega) (by omega) (.inl rfl) (.inl rfl)
   rw [r1, hk1, n0] at *
   obtain ⟨q, rfl⟩ : ∃ q : Nat, r = m + q := ⟨(r - m).toNat, by omega⟩
   have t1 : ∀ y ∈ B.take q, ¬ lt x y := sB.take_le C (by omega) (by
    rcases r4 with h | h
    ·exact .inl (by omega)
    ·by_cases hq : q = 0
     ·exact .inl hq
     ·rw [nB _ (by omega) (by omega), show m + (q : Int) - 1 - m = (q : Int) - 1 by omega] at h
      exact .inr (C.asym _ _ h))
   have t2 : ∀ y ∈ B.drop q, ¬ lt y x := sB.le_drop C (by
    rcases r5 with h | h
    ·exact .inl (by omega)
    ·by_cases hq : B.length ≤ q
     ·exact .inl hq
     ·rw [nB _ (by omega) (by omega), show m + (q : Int) - m = (q : Int) by omega] at h
      exact .inr h)
   have hBq : B = B.take q ++ B.drop q := (List.take_append_drop _ _).symm
   have l1 : (B.take q).length = q := by rw [List.length_take]; omega
   generalize B.take q = B1 at *
   generalize B.drop q = B2 at *
   subst hBq
   refine y1E (P := fun o => ∃ M, M.Perm ([x] ++ (B1 ++ B2)) ∧ Srt lt M ∧ o = some (P ++ (M ++ S))) fun k2 hk2 => ?_
   have sB' := Srt.app.1 sB
   refine ⟨B1 ++ x :: B2, List.perm_middle, Srt.app.2 ⟨sB'.1, List.pairwise_cons.2 ⟨t2, sB'.2.1⟩, ?_⟩, ?_⟩
   ·intro u hu w hw
    rcases List.mem_cons.1 hw with rfl | hw
    ·exact t1 u hu
    ·exact sB'.2.2 u hu w hw
   ·simp only [List.length_append] at hb hl'
    have := mv7 (k := k2) (P := P) (S := B2 ++ S) (x := x) (i := m + q) N [] B1 a (by omega) (by simp; omega) (by simp; omega) (by simp; omega)
    rw [show P ++ ([x] ++ (B1 ++ B2 ++ S)) = P ++ ([] ++ x :: (B1 ++ (B2 ++ S))) by simp, this, hk2]; simp
  ·rw [if_neg (by simpa using c1), hk0]
   refine y49 (P := fun o => ∃ M, M.Perm (A ++ B) ∧ Srt lt M ∧ o = some (P ++ (M ++ S))) fun k0 hk0 => ?_
   rw [yn (x := b - m) (by omega)]
   by_cases c2 : b - m = 1
   ·rw [if_pos (decide_eq_true c2)]
    obtain ⟨y, rfl⟩ : ∃ y, B = [y] := by
     match B with
     | [x] => exact ⟨x, rfl⟩
     | [] => simp at hB
     | x :: y :: A => simp at hb; omega
    simp only [List.length_singleton] at hb hl'
    refine y1E (P := fun o => ∃ M, M.Perm (A ++ [y]) ∧ Srt lt M ∧ o = some (P ++ (M ++ S))) fun k1 hk1 => ?_
    have n0 : nth (P ++ (A ++ ([y] ++ S))) m = y := by
     rw [show P ++ (A ++ ([y] ++ S)) = (P ++ A) ++ y :: S by simp, y4Y (by simp; omega)]
    have nA : ∀ i : Int, a ≤ i → i < m → nth (P ++ (A ++ ([y] ++ S))) i = nth A (i - a) := by
     intro i h1 h2
     rw [nthB (by omega), ha]
    obtain ⟨r, r1, r2, r3, r4, r5⟩ := bs8 C (k := k1) (d := P ++ (A ++ ([y] ++ S))) (a := a) (m := m) (by omega) (by simp; omega) hl N a m (by omega) (by omega) (by omega) (by omega) (.inl rfl) (.inl rfl)
    rw [r1, hk1, n0] at *
    obtain ⟨q, rfl⟩ : ∃ q : Nat, r = a + q := ⟨(r - a).toNat, by omega⟩
    have t1 : ∀ x ∈ A.take q, ¬ lt y x := sA.take_le C (by omega) (by
     rcases r4 with h | h
     ·exact .inl (by omega)
     ·by_cases hq : q = 0
      ·exact .inl hq
      ·rw [nA _ (by omega) (by omega), show a + (q : Int) - 1 - a = (q : Int) - 1 by omega] at h
       exact .inr h)
    have t2 : ∀ x ∈ A.drop q, ¬ lt x y := sA.le_drop C (by
     rcases r5 with h | h
     ·exact .inl (by omega)
     ·by_cases hq : A.length ≤ q
      ·exact .inl hq
      ·rw [nA _ (by omega) (by omega), show a + (q : Int) - a = (q : Int) by omega] at h
       exact .inr (C.asym _ _ h))
    have hAq : A = A.take q ++ A.drop q := (List.take_append_drop _ _).symm
    have l1 : (A.take q).length = q := by rw [List.length_take]; omega
    generalize A.take q = A1 at *
    generalize A.drop q = A2 at *
    subst hAq
    refine y1E (P := fun o => ∃ M, M.Perm (A1 ++ A2 ++ [y]) ∧ Srt lt M ∧ o = some (P ++ (M ++ S))) fun k2 hk2 => ?_
    have sA' := Srt.app.1 sA
    refine ⟨A1 ++ y :: A2, ?_, Srt.app.2 ⟨sA'.1, List.pairwise_cons.2 ⟨t2, sA'.2.1⟩, ?_⟩, ?_⟩
    ·rw [List.append_assoc]; exact (List.perm_append_comm (l₁ := [y])).append_left _
    ·intro u hu w hw
     rcases List.mem_cons.1 hw with rfl | hw
     ·exact t1 u hu
     ·exact sA'.2.2 u hu w hw
    ·simp only [List.length_append] at hb hm hl'
     have := mv9 (k := k2) (P := P ++ A1) (y := y) (i := a + q) (by simp; omega) N A2 S m (by omega) (by simp; omega) (by simp; omega)
     rw [show P ++ (A1 ++ A2 ++ ([y] ++ S)) = P ++ A1 ++ (A2 ++ y :: S) by simp, this, hk2]; simp
   ·rw [if_neg (by simpa using c2), hk0]
    refine y4l (P := fun o => ∃ M, M.Perm (A ++ B) ∧ Srt lt M ∧ o = some (P ++ (M ++ S))) fun k2 hk2 => ?_
    rw [y56 (s := a + b) (by omega) (by omega)]
    -- the search
    have main : ∀ lo hi : Int, (m > (a + b) / 2 → lo = (a + b) / 2 + m - b ∧ hi = (a + b) / 2) → (¬ m > (a + b) / 2 → lo = a ∧ hi = m) → ∃ M, M.Perm (A ++ B) ∧ Srt lt M ∧ k2 lo hi = some (P ++ (M ++ S)) := by
     intro lo hi hg hs
     rw [hk2]
     refine y1E (P := fun o => ∃ M, M.Perm (A ++ B) ∧ Srt lt M ∧ o = some (P ++ (M ++ S))) fun k3 hk3 => ?_
     obtain ⟨r, r1, r2, r3, r4, r5⟩ := bs10 C (k := k3) (d := P ++ (A ++ (B ++ S))) (a := a) (m := m) (b := b) (lo := lo) (hi := hi) (by omega) (by simp; omega) hl (by simp; omega) (by omega) (by simp; omega) N lo hi (by omega) (by omega) (by omega) (by omega) (.inl rfl) (.inl rfl)
     rw [r1, hk3]
     simp only [y56 (s := a + b) (by omega) (by omega), yn (x := (a + b) / 2 + m) (by omega), yn (x := (a + b) / 2 + m - r) (by omega)]
     obtain ⟨p, rfl⟩ : ∃ p : Nat, r = a + p := ⟨(r - a).toNat, by omega⟩
     obtain ⟨q, hq⟩ : ∃ q : Nat, (a + b) / 2 + m - (a + p) = m + q := ⟨((a + b) / 2 - (a + p)).toNat, by omega⟩
     rw [hq] at r4 ⊢
     rw [show (a + b) / 2 + m - 1 - (a + p) = m + q - 1 by omega] at r5
     have hp : p ≤ A.length := by omega
     have hq' : q ≤ B.length := by omega
     have nA : ∀ i : Int, a ≤ i → i < m → nth (P ++ (A ++ (B ++ S))) i = nth A (i - a) := by
      intro i h1 h2
      rw [nthB (by omega), ha]
     have nB : ∀ i : Int, m ≤ i → i < b → nth (P ++ (A ++ (B ++ S))) i = nth B (i - m) := by
      intro i h1 h2
      rw [show P ++ (A ++ (B ++ S)) = (P ++ A) ++ (B ++ S) by simp, nthB (by simp; omega)]
      simp only [List.length_append]
      congr 1; omega
     -- the four parts
     have F1 : ∀ x ∈ A.take p, ∀ y ∈ B.drop q, ¬ lt y x := by
      intro x hx y hy
      by_cases hq1 : q < B.length
      ·by_cases hp1 : p = 0
       ·subst hp1; simp at hx
       ·have hr : ¬ lt (nth B (q : Int)) (nth A ((p : Int) - 1)) := by
         rcases r4 with h | h
         ·omega
         ·rw [nB _ (by omega) (by omega), nA _ (by omega) (by omega), show m + (q : Int) - m = q by omega, show a + (p : Int) - 1 - a = (p : Int) - 1 by omega] at h
          exact h
        have := sA.take_le C hp (x := nth B (q : Int)) (.inr hr) x hx
        exact sB.le_drop C (n := q) (x := x) (.inr this) y hy
      ·rw [List.drop_eq_nil_of_le (by omega)] at hy; simp at hy
     have F2 : ∀ x ∈ B.take q, ∀ y ∈ A.drop p, ¬ lt y x := by
      intro x hx y hy
      by_cases hp1 : p < A.length
      ·by_cases hq1 : q = 0
       ·subst hq1; simp at hx
       ·have hr : ¬ lt (nth A (p : Int)) (nth B ((q : Int) - 1)) := by
         rcases r5 with h | h
         ·omega
         ·rw [nB _ (by omega) (by omega), nA _ (by omega) (by omega), show a + (p : Int) - a = p by omega, show m + (q : Int) - 1 - m = (q : Int) - 1 by omega] at h
          exact C.asym _ _ h
        have := sB.take_le C hq' (x := nth A (p : Int)) (.inr hr) x hx
        exact sA.le_drop C (n := p) (x := x) (.inr this) y hy
      ·rw [List.drop_eq_nil_of_le (by omega)] at hy; simp at hy
     have hmid : (a + b) / 2 = a + p + q := by omega
     rw [hmid]
     clear nA nB r4 r5 r1
     have hAp : A = A.take p ++ A.drop p := (List.take_append_drop _ _).symm
     have hBq : B = B.take q ++ B.drop q := (List.take_append_drop _ _).symm
     have l1 : (A.take p).length = p := by rw [List.length_take]; omega
     have l2 : (B.take q).length = q := by rw [List.length_take]; omega
     generalize A.take p = A1 at *
     generalize A.drop p = A2 at *
     generalize B.take q = B1 at *
     generalize B.drop q = B2 at *
     subst hAp hBq
     simp only [List.length_append] at hm hb hl' h0 hA hB hp hq'
     have sA' := Srt.app.1 sA
     have sB' := Srt.app.1 sB
     refine y1E (P := fun o => ∃ M, M.Perm (A1 ++ A2 ++ (B1 ++ B2)) ∧ Srt lt M ∧ o = some (P ++ (M ++ S))) fun k4 hk4 => ?_
     have turned : ∃ M, M.Perm (A1 ++ A2 ++ (B1 ++ B2)) ∧ Srt lt M ∧ k4 (P ++ (A1 ++ (B1 ++ (A2 ++ (B2 ++ S))))) = some (P ++ (M ++ S)) := by
      rw [hk4]
      refine y1E (P := fun o => ∃ M, M.Perm (A1 ++ A2 ++ (B1 ++ B2)) ∧ Srt lt M ∧ o = some (P ++ (M ++ S))) fun k5 hk5 => ?_
      have second : ∀ M1, M1.Perm (A1 ++ B1) → Srt lt M1 → ∃ M, M.Perm (A1 ++ A2 ++ (B1 ++ B2)) ∧ Srt lt M ∧ k5 (P ++ (M1 ++ (A2 ++ (B2 ++ S)))) = some (P ++ (M ++ S)) := by
       intro M1 p1 s1
       have ml := p1.length_eq
       rw [List.length_append] at ml
       have fin : ∀ M2, M2.Perm (A2 ++ B2) → Srt lt M2 → (M1 ++ M2).Perm (A1 ++ A2 ++ (B1 ++ B2)) ∧ Srt lt (M1 ++ M2) := by
        intro M2 p2 s2
        constructor
        ·refine (p1.append p2).trans ?_
         rw [List.append_assoc, List.append_assoc]
         refine List.Perm.append_left _ ?_
         rw [← List.append_assoc, ← List.append_assoc]
         exact List.perm_append_comm.append_right _
        ·refine Srt.app.2 ⟨s1, s2, fun x hx y hy => ?_⟩
         rcases List.mem_append.1 (p1.mem_iff.1 hx) with hx | hx <;> rcases List.mem_append.1 (p2.mem_iff.1 hy) with hy | hy
         ·exact sA'.2.2 x hx y hy
         ·exact F1 x hx y hy
         ·exact F2 x hx y hy
         ·exact sB'.2.2 x hx y hy
       rw [hk5]
       by_cases c : a + p + q < m + q ∧ m + q < b
       ·rw [if_pos (by simpa using c)]
        obtain ⟨M2, p2, s2, e2⟩ := y8X C n (P ++ M1) A2 B2 S (a + p + q) (m + q) b (by omega) (by omega) (by omega) sA'.2.1 sB'.2.1 (by simp; omega) (by simp; omega) (by simp; omega) (by simp; omega)
        obtain ⟨f1, f2⟩ := fin M2 p2 s2
        rw [show P ++ (M1 ++ (A2 ++ (B2 ++ S))) = P ++ M1 ++ (A2 ++ (B2 ++ S)) by simp, e2]
        exact ⟨M1 ++ M2, f1, f2, by simp⟩
       ·rw [if_neg (by simpa using c)]
        have hz : Srt lt (A2 ++ B2) := by
         refine Srt.app.2 ⟨sA'.2.1, sB'.2.1, fun x hx y hy => ?_⟩
         have h1 := List.length_pos_of_mem hx
         have h2 := List.length_pos_of_mem hy
         omega
        obtain ⟨f1, f2⟩ := fin (A2 ++ B2) (.refl _) hz
        exact ⟨M1 ++ (A2 ++ B2), f1, f2, by simp⟩
      by_cases c : a < a + p ∧ a + p < a + p + q
      ·rw [if_pos (by simpa using c)]
       obtain ⟨M1, p1, s1, e1⟩ := y8X C n P A1 B1 (A2 ++ (B2 ++ S)) a (a + p) (a + p + q) (by omega) (by omega) (by omega) sA'.1 sB'.1 ha (by omega) (by omega) (by simp; omega)
       rw [e1]
       exact second M1 p1 s1
      ·rw [if_neg (by simpa using c)]
       have hz : Srt lt (A1 ++ B1) := by
        refine Srt.app.2 ⟨sA'.1, sB'.1, fun x hx y hy => ?_⟩
        have h1 := List.length_pos_of_mem hx
        have h2 := List.length_pos_of_mem hy
        omega
       have := second (A1 ++ B1) (.refl _) hz
       rw [show P ++ (A1 ++ B1 ++ (A2 ++ (B2 ++ S))) = P ++ (A1 ++ (B1 ++ (A2 ++ (B2 ++ S)))) by simp] at this
       exact this
     by_cases c : a + p < m ∧ m < m + q
     ·rw [if_pos (by simpa using c)]
      have := rot_eq (f := f) (P := P ++ A1) (U := A2) (V := B1) (S := B2 ++ S) (a := a + p) (m := m) (b := m + q) (by simp; omega) (by simp; omega) (by simp; omega) (by omega) (by omega) (by simp; omega)
      rw [show P ++ (A1 ++ A2 ++ (B1 ++ B2 ++ S)) = P ++ A1 ++ (A2 ++ (B1 ++ (B2 ++ S))) by simp, this]
      rw [show P ++ A1 ++ (B1 ++ (A2 ++ (B2 ++ S))) = P ++ (A1 ++ (B1 ++ (A2 ++ (B2 ++ S)))) by simp]
      exact turned
     ·rw [if_neg (by simpa using c)]
      have e : P ++ (A1 ++ A2 ++ (B1 ++ B2 ++ S)) = P ++ (A1 ++ (B1 ++ (A2 ++ (B2 ++ S)))) := by
       by_cases z1 : A2.length = 0
       ·rw [List.eq_nil_of_length_eq_zero z1]; simp
       ·rw [List.eq_nil_of_length_eq_zero (l := B1) (by omega)]; simp
      rw [e]; exact turned
    by_cases c : m > (a + b) / 2
    ·rw [if_pos (decide_eq_true c), yn (x := (a + b) / 2 + m) (by omega), yn (x := (a + b) / 2 + m - b) (by omega)]
     exact main _ _ (fun _ => ⟨rfl, rfl⟩) (fun h => absurd c h)
    ·rw [if_neg (by simpa using c)]
     exact main _ _ (fun h => absurd h c) (fun _ => ⟨rfl, rfl⟩)
end
end Go.Proofs.Ytinchjigeakocaa
