/- A part of this claim's proof: models of functions, walks, plain laws. No conditions. -/
import Derived.Test.YtinchjigeakocaaP31c
namespace Go.Proofs.Ytinchjigeakocaa
open Go Go.RowKit Sep
set_option linter.all false
/-! ### the stable sort -/
theorem nthA {α : Type} [Inhabited α] {P S : List α} {x : α} {i : Int} (h : i = P.length) : nth (P ++ x :: S) i = x := by
  subst h; rw [y2x (by simp; omega)]; simp
theorem setA {α : Type} {P S : List α} {x y : α} {i : Int} (h : i = P.length) : (P ++ x :: S).set i.toNat y = P ++ y :: S := by
  subst h; rw [show ((P.length : Nat) : Int).toNat = P.length from rfl, List.set_append_right _ _ (Nat.le_refl _)]; simp
theorem y5q {s : Int} (h0 : 0 ≤ s) (h1 : s < 4611686018427387904) : i64 ((u64 (i64 s)) / 2 ^ min (1 : Int).toNat 64) = s / 2 := by
  rw [ym (x := s) (by omega)]
  have e : u64 s = s := by
    unfold u64; rw [show IntKind.wrap .u64 s = s % 18446744073709551616 from rfl]; omega
  rw [e, show (2 : Int) ^ min (1 : Int).toNat 64 = 2 from rfl, ym (by omega)]
structure Cmp (f : Cm → Cm → Option Int) (lt : Cm → Cm → Prop) : Prop where
  eq : ∀ x y, ∃ v, f x y = some v ∧ (v < 0 ↔ lt x y)
  asym : ∀ x y, lt x y → ¬ lt y x
  tr : ∀ x y z, ¬ lt y x → ¬ lt z y → ¬ lt z x
def Srt (lt : Cm → Cm → Prop) (l : List Cm) : Prop := l.Pairwise fun x y => ¬ lt y x
section
variable {f : Cm → Cm → Option Int} {lt : Cm → Cm → Prop}
theorem y87 (x : Cm) : (⟨x.fSent, x.fNode, x.fTime⟩ : Cm) = x := rfl
theorem Srt.app {A B : List Cm} : Srt lt (A ++ B) ↔ Srt lt A ∧ Srt lt B ∧ ∀ x ∈ A, ∀ y ∈ B, ¬ lt y x := List.pairwise_append
theorem Srt.le_last (C : Cmp f lt) {A : List Cm} {y : Cm} (h : Srt lt (A ++ [y])) : ∀ x ∈ A ++ [y], ¬ lt y x := by
  intro x hx
  rcases List.mem_append.1 hx with hx | hx
  · exact (Srt.app.1 h).2.2 x hx y (by simp)
  · rw [List.mem_singleton.1 hx]; exact fun hc => C.asym _ _ hc hc
theorem Srt.first_le (C : Cmp f lt) {A : List Cm} {y : Cm} (h : Srt lt (y :: A)) : ∀ x ∈ y :: A, ¬ lt x y := by
  intro x hx
  rcases List.mem_cons.1 hx with hx | hx
  · rw [hx]; exact fun hc => C.asym _ _ hc hc
  · exact (List.pairwise_cons.1 h).1 x hx
theorem ins4 (C : Cmp f lt) {k : List Cm → Option (List Cm)} {P : List Cm} {a : Int} (ha : a = P.length) : ∀ (n : Nat) (A G Z : List Cm) (x : Cm) (j : Int), A.length < n → j = P.length + A.length → (P ++ (A ++ x :: (G ++ Z))).length < 1152921504606846976 → Srt lt (A ++ G) → (∀ g ∈ G, lt x g) →
    ∃ M, M.Perm (A ++ x :: G) ∧ Srt lt M ∧ yJ a f k n (P ++ (A ++ x :: (G ++ Z))) j = k (P ++ (M ++ Z))
  | 0, A, G, Z, x, j, h0, hj, hl, hs, hg => by omega
  | n + 1, A, G, Z, x, j, h0, hj, hl, hs, hg => by
    have hl' := hl
    simp only [List.length_append, List.length_cons] at hl'
    rw [yJ]
    rcases List.eq_nil_or_concat A with rfl | ⟨A', y, rfl⟩
    · have e : ¬ j > a := by simp at hj; omega
      rw [if_neg (by simpa using e)]
      simp only [Option.bind_some, Bool.false_eq_true, if_false]
      refine ⟨x :: G, by simp, List.pairwise_cons.2 ⟨fun g h => C.asym _ _ (hg g h), by simpa [Srt] using hs⟩, by simp⟩
    · rw [List.concat_eq_append] at *
      rw [List.length_append] at h0 hj hl'
      simp only [List.length_singleton] at h0 hj hl'
      have e : j > a := by omega
      have e1 : P ++ (A' ++ [y] ++ x :: (G ++ Z)) = (P ++ A') ++ y :: (x :: (G ++ Z)) := by simp
      have e2 : P ++ (A' ++ [y] ++ x :: (G ++ Z)) = (P ++ A' ++ [y]) ++ x :: (G ++ Z) := by simp
      have j1 : i64 (j - 1) = j - 1 := ym (by omega)
      rw [if_pos (decide_eq_true e), j1]
      have q1 : (0 : Int) ≤ j ∧ j < (((P ++ (A' ++ [y] ++ x :: (G ++ Z))).length : Nat) : Int) := by simp; omega
      have q2 : (0 : Int) ≤ j - 1 ∧ j - 1 < (((P ++ (A' ++ [y] ++ x :: (G ++ Z))).length : Nat) : Int) := by simp; omega
      have n1 : nth (P ++ (A' ++ [y] ++ x :: (G ++ Z))) j = x := by rw [e2, nthA (by simp; omega)]
      have n2 : nth (P ++ (A' ++ [y] ++ x :: (G ++ Z))) (j - 1) = y := by rw [e1, nthA (by simp; omega)]
      rw [yn q1, yn q2, n1, n2]
      simp only [y87]
      obtain ⟨v, v1, v2⟩ := C.eq x y
      rw [v1]
      simp only [Option.bind_some]
      by_cases hv : v < 0
      · rw [if_pos (decide_eq_true hv), yn q2, yn q1, yn (by rw [List.length_set]; exact q2)]
        have s1 : (P ++ (A' ++ [y] ++ x :: (G ++ Z))).set j.toNat y = (P ++ A') ++ y :: (y :: (G ++ Z)) := by
          rw [e2, setA (by simp; omega)]; simp
        have s2 : ((P ++ A') ++ y :: (y :: (G ++ Z))).set (j - 1).toNat x = P ++ (A' ++ x :: (y :: G ++ Z)) := by
          rw [setA (by simp; omega)]; simp
        rw [s1, s2]
        obtain ⟨M, m1, m2, m3⟩ := ins4 C (k := k) ha n A' (y :: G) Z x (j - 1) (by omega) (by omega) (by simp; omega) (by simpa using hs) (by
          intro g hg'
          rcases List.mem_cons.1 hg' with rfl | hg'
          · exact v2.1 hv
          · exact hg g hg')
        refine ⟨M, m1.trans ?_, m2, m3⟩
        rw [List.append_assoc]
        exact (List.Perm.swap ..).append_left _
      · rw [if_neg (by simpa using hv)]
        have hyx : ¬ lt x y := fun h => hv (v2.2 h)
        refine ⟨A' ++ [y] ++ x :: G, .refl _, ?_, by simp⟩
        have h1 := Srt.app.1 hs
        refine Srt.app.2 ⟨h1.1, List.pairwise_cons.2 ⟨fun g h => C.asym _ _ (hg g h), h1.2.1⟩, ?_⟩
        intro u hu w hw
        rcases List.mem_cons.1 hw with rfl | hw
        · exact C.tr _ _ _ (h1.1.le_last C u hu) hyx
        · exact h1.2.2 u hu w hw
theorem ins3 (C : Cmp f lt) {k : List Cm → Option (List Cm)} {P : List Cm} {a b : Int} (ha : a = P.length) : ∀ (n : Nat) (R A Z : List Cm) (i : Int), R.length < n → i = P.length + A.length → b = P.length + A.length + R.length → (P ++ (A ++ (R ++ Z))).length < 1152921504606846976 → Srt lt A →
    ∃ M, M.Perm (A ++ R) ∧ Srt lt M ∧ yy b a f k n (P ++ (A ++ (R ++ Z))) i = k (P ++ (M ++ Z))
  | 0, R, A, Z, i, h0, hi, hb, hl, hs => by omega
  | n + 1, [], A, Z, i, h0, hi, hb, hl, hs => by
    rw [yy, if_neg (by simp at hb ⊢; omega)]
    exact ⟨A, by simp, hs, by simp⟩
  | n + 1, x :: R, A, Z, i, h0, hi, hb, hl, hs => by
    rw [yy]
    rw [List.length_cons] at h0 hb
    have hl' := hl
    simp only [List.length_append, List.length_cons] at hl'
    rw [if_pos (decide_eq_true (by omega))]
    refine y1H (P := fun o => ∃ M, M.Perm (A ++ x :: R) ∧ Srt lt M ∧ o = k (P ++ (M ++ Z))) fun k1 hk1 => ?_
    refine y1H (P := fun o => ∃ M, M.Perm (A ++ x :: R) ∧ Srt lt M ∧ o = k (P ++ (M ++ Z))) fun k2 hk2 => ?_
    have hF := y1d
    obtain ⟨M, m1, m2, m3⟩ := ins4 C (k := k2) ha ys A [] (R ++ Z) x i (by omega) hi (by simp; omega) (by simpa using hs) (by simp)
    have ml := m1.length_eq
    simp only [List.length_append, List.length_cons, List.length_nil] at ml
    obtain ⟨M', p1, p2, p3⟩ := ins3 C (k := k) ha n R M Z (i + 1) (b := b) (by omega) (by omega) (by omega) (by simp; omega) m2
    refine ⟨M', p1.trans ((m1.append_right R).trans (by simp)), p2, ?_⟩
    rw [show P ++ (A ++ (x :: R ++ Z)) = P ++ (A ++ x :: ([] ++ (R ++ Z))) by simp, m3, hk2, hk1, ym (x := i + 1) (by omega), p3]
theorem ins_eq (C : Cmp f lt) {P R Z : List Cm} {a b : Int} (ha : a = P.length) (hb : b = P.length + R.length) (hl : (P ++ (R ++ Z)).length < 1152921504606846976) :
    ∃ M, M.Perm R ∧ Srt lt M ∧ yQ (P ++ (R ++ Z)) a b f = some (P ++ (M ++ Z)) := by
  unfold yQ
  refine y1H (P := fun o => ∃ M, M.Perm R ∧ Srt lt M ∧ o = some (P ++ (M ++ Z))) fun k hk => ?_
  have hF := y1d
  have hl' := hl
  simp only [List.length_append] at hl'
  rw [ym (x := a + 1) (by omega)]
  cases R with
  | nil =>
    generalize ys = N at hF
    cases N with
    | zero => omega
    | succ N =>
      rw [yy, if_neg (by simp at hb ⊢; omega), hk]
      exact ⟨[], .refl _, .nil, rfl⟩
  | cons x R =>
    rw [List.length_cons] at hb hl'
    obtain ⟨M, m1, m2, m3⟩ := ins3 C (k := k) ha ys R [x] Z (a + 1) (b := b) (by omega) (by simp; omega) (by simp; omega) (by simp; omega) (List.pairwise_singleton ..)
    refine ⟨M, m1, m2, ?_⟩
    rw [show P ++ (x :: R ++ Z) = P ++ ([x] ++ (R ++ Z)) by simp, m3, hk]
/-! ### swapping and turning -/
theorem swap2 {k : List Cm → Option (List Cm)} {P S Mi : List Cm} {a b n : Int} (ha : a = P.length) : ∀ (m : Nat) (X1 X2 Y1 Y2 : List Cm) (i : Int), X2.length < m → X1.length = Y1.length → X2.length = Y2.length → i = X1.length → n = X1.length + X2.length → b = P.length + X1.length + X2.length + Mi.length → (P ++ (Y1 ++ (X2 ++ (Mi ++ (X1 ++ (Y2 ++ S)))))).length < 1152921504606846976 →
    yG n b a k m (P ++ (Y1 ++ (X2 ++ (Mi ++ (X1 ++ (Y2 ++ S)))))) i = k (P ++ (Y1 ++ Y2 ++ (Mi ++ (X1 ++ X2 ++ S))))
  | 0, _, _, _, _, _, h0, _, _, _, _, _, _ => by omega
  | m + 1, X1, [], Y1, [], i, h0, h1, h2, h3, h4, h5, hl => by
    rw [yG, if_neg (by simp at h4 ⊢; omega)]; simp
  | m + 1, X1, x :: X2, Y1, y :: Y2, i, h0, h1, h2, h3, h4, h5, hl => by
    have hl' := hl
    simp only [List.length_append, List.length_cons] at hl' h0 h2 h4 h5
    rw [yG, if_pos (decide_eq_true (by omega)), ym (x := b + i) (by omega), ym (x := a + i) (by omega), ym (x := i + 1) (by omega)]
    have e1 : P ++ (Y1 ++ (x :: X2 ++ (Mi ++ (X1 ++ (y :: Y2 ++ S))))) = (P ++ Y1) ++ x :: (X2 ++ (Mi ++ (X1 ++ (y :: Y2 ++ S)))) := by simp
    have e2 : P ++ (Y1 ++ (x :: X2 ++ (Mi ++ (X1 ++ (y :: Y2 ++ S))))) = (P ++ Y1 ++ x :: X2 ++ Mi ++ X1) ++ y :: (Y2 ++ S) := by simp
    have q1 : (0 : Int) ≤ b + i ∧ b + i < (((P ++ (Y1 ++ (x :: X2 ++ (Mi ++ (X1 ++ (y :: Y2 ++ S)))))).length : Nat) : Int) := by simp; omega
    have q2 : (0 : Int) ≤ a + i ∧ a + i < (((P ++ (Y1 ++ (x :: X2 ++ (Mi ++ (X1 ++ (y :: Y2 ++ S)))))).length : Nat) : Int) := by simp; omega
    have n1 : nth (P ++ (Y1 ++ (x :: X2 ++ (Mi ++ (X1 ++ (y :: Y2 ++ S)))))) (b + i) = y := by rw [e2, nthA (by simp; omega)]
    have n2 : nth (P ++ (Y1 ++ (x :: X2 ++ (Mi ++ (X1 ++ (y :: Y2 ++ S)))))) (a + i) = x := by rw [e1, nthA (by simp; omega)]
    rw [yn q1, yn q2, yn (by rw [List.length_set]; exact q1), n1, n2]
    simp only [y87]
    have s1 : (P ++ (Y1 ++ (x :: X2 ++ (Mi ++ (X1 ++ (y :: Y2 ++ S)))))).set (a + i).toNat y = (P ++ Y1 ++ y :: X2 ++ Mi ++ X1) ++ y :: (Y2 ++ S) := by
      rw [e1, setA (by simp; omega)]; simp
    have s2 : ((P ++ Y1 ++ y :: X2 ++ Mi ++ X1) ++ y :: (Y2 ++ S)).set (b + i).toNat x = P ++ (Y1 ++ [y] ++ (X2 ++ (Mi ++ (X1 ++ [x] ++ (Y2 ++ S))))) := by
      rw [setA (by simp; omega)]; simp
    rw [s1, s2, swap2 ha m (X1 ++ [x]) X2 (Y1 ++ [y]) Y2 (i + 1) (by omega) (by simp; omega) (by omega) (by simp; omega) (by simp; omega) (by simp; omega) (by simp; omega)]
    simp
theorem y7I {P X Mi Y S : List Cm} {a b n : Int} (ha : a = P.length) (hb : b = P.length + X.length + Mi.length) (hn : n = X.length) (hxy : X.length = Y.length) (hl : (P ++ (X ++ (Mi ++ (Y ++ S)))).length < 1152921504606846976) :
    yX (P ++ (X ++ (Mi ++ (Y ++ S)))) a b n f = some (P ++ (Y ++ (Mi ++ (X ++ S)))) := by
  unfold yX
  refine y1H (P := fun o => o = some (P ++ (Y ++ (Mi ++ (X ++ S))))) fun k hk => ?_
  have hF := y1d
  have hl' := hl
  simp only [List.length_append] at hl'
  have := swap2 (k := k) (P := P) (S := S) (Mi := Mi) (b := b) (n := n) ha ys [] X [] Y 0 (by omega) rfl hxy rfl (by simp; omega) (by simp; omega) (by simpa using hl')
  simp only [List.nil_append] at this
  rw [this, hk]
theorem rot2 {m : Int} {K : List Cm → Int → Option (List Cm)} {r : Option (List Cm)} (hK : ∀ (P U V S : List Cm), U.length = V.length → m = P.length + U.length → (P ++ (U ++ (V ++ S))).length < 1152921504606846976 → K (P ++ (U ++ (V ++ S))) U.length = some (P ++ (V ++ (U ++ S)))) :
    ∀ (n : Nat) (P U V S : List Cm) (i j : Int), U.length + V.length < n → 0 < U.length → 0 < V.length → i = U.length → j = V.length → m = P.length + U.length → (P ++ (U ++ (V ++ S))).length < 1152921504606846976 →
    yN m f K n (P ++ (U ++ (V ++ S))) i j = some (P ++ (V ++ (U ++ S)))
  | 0, _, _, _, _, _, _, h0, _, _, _, _, _, _ => by omega
  | n + 1, P, U, V, S, i, j, h0, hu, hv, hi, hj, hm, hl => by
    have hl' := hl
    simp only [List.length_append] at hl'
    rw [yN]
    by_cases h : i ≠ j
    · rw [if_pos (decide_eq_true h)]
      by_cases h2 : i > j
      · rw [if_pos (decide_eq_true h2), ym (x := m - i) (by omega), ym (x := i - j) (by omega)]
        have hU : U = U.take V.length ++ U.drop V.length := (List.take_append_drop _ _).symm
        have l1 : (U.take V.length).length = V.length := by rw [List.length_take]; omega
        have l2 : (U.drop V.length).length = U.length - V.length := List.length_drop
        generalize U.take V.length = U1 at hU l1
        generalize U.drop V.length = U2 at hU l2
        subst hU
        rw [List.length_append] at hm hi hl' h0
        rw [show P ++ (U1 ++ U2 ++ (V ++ S)) = P ++ (U1 ++ (U2 ++ (V ++ S))) by simp, y7I (by omega) (by omega) (by omega) l1 (by simp; omega)]
        simp only [Option.bind_some]
        have := rot2 (r := r) hK n (P ++ V) U2 U1 S (i - j) j (by omega) (by omega) (by omega) (by omega) (by omega) (by simp; omega) (by simp; omega)
        rw [show P ++ (V ++ (U2 ++ (U1 ++ S))) = P ++ V ++ (U2 ++ (U1 ++ S)) by simp, this]
        simp
      · rw [if_neg (by simpa using h2), ym (x := m - i) (by omega), ym (x := m + j) (by omega), ym (x := m + j - i) (by omega), ym (x := j - i) (by omega)]
        have hV : V = V.take (V.length - U.length) ++ V.drop (V.length - U.length) := (List.take_append_drop _ _).symm
        have l1 : (V.take (V.length - U.length)).length = V.length - U.length := by rw [List.length_take]; omega
        have l2 : (V.drop (V.length - U.length)).length = U.length := by rw [List.length_drop]; omega
        generalize V.take (V.length - U.length) = V1 at hV l1
        generalize V.drop (V.length - U.length) = V2 at hV l2
        subst hV
        rw [List.length_append] at hj hl' h0
        rw [show P ++ (U ++ (V1 ++ V2 ++ S)) = P ++ (U ++ (V1 ++ (V2 ++ S))) by simp, y7I (by omega) (by omega) (by omega) l2.symm (by simp; omega)]
        simp only [Option.bind_some]
        have := rot2 (r := r) hK n P V2 V1 (U ++ S) i (j - i) (by omega) (by omega) (by omega) (by omega) (by omega) (by omega) (by simp; omega)
        rw [this]
        simp
    · rw [if_neg (by simpa using h)]
      rw [hi]
      exact hK P U V S (by omega) hm hl
theorem rot_eq {P U V S : List Cm} {a m b : Int} (ha : a = P.length) (hm : m = P.length + U.length) (hb : b = P.length + U.length + V.length) (hu : 0 < U.length) (hv : 0 < V.length) (hl : (P ++ (U ++ (V ++ S))).length < 1152921504606846976) :
    y1z (P ++ (U ++ (V ++ S))) a m b f = some (P ++ (V ++ (U ++ S))) := by
  unfold y1z
  refine y3y (P := fun o => o = some (P ++ (V ++ (U ++ S)))) fun k hk => ?_
  have hF := y1d
  have hl' := hl
  simp only [List.length_append] at hl'
  rw [ym (x := m - a) (by omega), ym (x := b - m) (by omega)]
  refine rot2 (r := none) ?_ ys P U V S (m - a) (b - m) (by omega) hu hv (by omega) (by omega) hm hl
  intro P U V S h1 h2 h3
  have h3' := h3
  simp only [List.length_append] at h3'
  rw [hk, ym (by omega)]
  have := y7I (f := f) (P := P) (X := U) (Mi := []) (Y := V) (S := S) (a := m - U.length) (b := m) (n := U.length) (by omega) (by simp; omega) rfl h1 (by simpa using h3')
  simp only [List.nil_append] at this
  rw [this]; rfl
end
end Go.Proofs.Ytinchjigeakocaa
namespace Go.Proofs.Ytinchjigeakocaa
open Go Go.RowKit Sep
set_option linter.all false
section
variable {f : Cm → Cm → Option Int} {lt : Cm → Cm → Prop}
theorem nthD {d : List Cm} {i : Int} : (⟨(nth d i).fSent, (nth d i).fNode, (nth d i).fTime⟩ : Cm) = nth d i := rfl
theorem bs6 (C : Cmp f lt) {k : Int → Option (List Cm)} {d : List Cm} {a m b : Int} (ha : 0 ≤ a ∧ a < d.length) (hm : 0 ≤ m) (hb : b ≤ d.length) (hd : d.length < 1152921504606846976) : ∀ (n : Nat) (i j : Int), j - i < n → m ≤ i → i ≤ j → j ≤ b → (i = m ∨ lt (nth d (i - 1)) (nth d a)) → (j = b ∨ ¬ lt (nth d j) (nth d a)) →
    ∃ r, yK d a f k n i j = k r ∧ m ≤ r ∧ r ≤ b ∧ (r = m ∨ lt (nth d (r - 1)) (nth d a)) ∧ (r = b ∨ ¬ lt (nth d r) (nth d a))
  | 0, i, j, h0, h1, h2, h3, h4, h5 => by omega
  | n + 1, i, j, h0, h1, h2, h3, h4, h5 => by
    rw [yK]
    by_cases h : i < j
    · rw [if_pos (decide_eq_true h), y5q (s := i + j) (by omega) (by omega)]
      have q : (0 : Int) ≤ (i + j) / 2 ∧ (i + j) / 2 < d.length := by omega
      rw [yn q, yn ha]
      simp only [nthD]
      obtain ⟨v, v1, v2⟩ := C.eq (nth d ((i + j) / 2)) (nth d a)
      rw [v1]
      simp only [Option.bind_some]
      by_cases hv : v < 0
      · rw [if_pos (decide_eq_true hv), ym (x := (i + j) / 2 + 1) (by omega)]
        exact bs6 C ha hm hb hd n _ j (by omega) (by omega) (by omega) h3 (.inr (by rw [show (i + j) / 2 + 1 - 1 = (i + j) / 2 by omega]; exact v2.1 hv)) h5
      · rw [if_neg (by simpa using hv)]
        exact bs6 C ha hm hb hd n i _ (by omega) h1 (by omega) (by omega) h4 (.inr fun hc => hv (v2.2 hc))
    · rw [if_neg (by simpa using h)]
      have : i = j := by omega
      subst this
      exact ⟨i, rfl, h1, h3, h4, h5⟩
theorem bs8 (C : Cmp f lt) {k : Int → Option (List Cm)} {d : List Cm} {a m : Int} (ha : 0 ≤ a) (hm : 0 ≤ m ∧ m < d.length) (hd : d.length < 1152921504606846976) : ∀ (n : Nat) (i j : Int), j - i < n → a ≤ i → i ≤ j → j ≤ m → (i = a ∨ ¬ lt (nth d m) (nth d (i - 1))) → (j = m ∨ lt (nth d m) (nth d j)) →
    ∃ r, yM m d f k n i j = k r ∧ a ≤ r ∧ r ≤ m ∧ (r = a ∨ ¬ lt (nth d m) (nth d (r - 1))) ∧ (r = m ∨ lt (nth d m) (nth d r))
  | 0, i, j, h0, h1, h2, h3, h4, h5 => by omega
  | n + 1, i, j, h0, h1, h2, h3, h4, h5 => by
    rw [yM]
    by_cases h : i < j
    · rw [if_pos (decide_eq_true h), y5q (s := i + j) (by omega) (by omega)]
      have q : (0 : Int) ≤ (i + j) / 2 ∧ (i + j) / 2 < d.length := by omega
      rw [yn hm, yn q]
      simp only [nthD]
      obtain ⟨v, v1, v2⟩ := C.eq (nth d m) (nth d ((i + j) / 2))
      rw [v1]
      simp only [Option.bind_some]
      by_cases hv : v < 0
      · rw [if_neg (by simpa using hv)]
        exact bs8 C ha hm hd n i _ (by omega) h1 (by omega) (by omega) h4 (.inr (v2.1 hv))
      · rw [if_pos (by simpa using hv), ym (x := (i + j) / 2 + 1) (by omega)]
        exact bs8 C ha hm hd n _ j (by omega) (by omega) (by omega) h3 (.inr (by rw [show (i + j) / 2 + 1 - 1 = (i + j) / 2 by omega]; exact fun hc => hv (v2.2 hc))) h5
    · rw [if_neg (by simpa using h)]
      have : i = j := by omega
      subst this
      exact ⟨i, rfl, h1, h3, h4, h5⟩
theorem bs10 (C : Cmp f lt) {k : Int → Option (List Cm)} {d : List Cm} {a m b lo hi : Int} (h0 : 0 ≤ lo) (hb : 0 ≤ a ∧ a ≤ b ∧ 0 ≤ m ∧ b ≤ d.length ∧ m ≤ d.length) (hd : d.length < 1152921504606846976) (hh : hi ≤ d.length) (hp : hi ≤ (a + b) / 2 + m) (hq : (a + b) / 2 + m - 1 - lo < d.length) :
    ∀ (n : Nat) (i j : Int), j - i < n → lo ≤ i → i ≤ j → j ≤ hi → (i = lo ∨ ¬ lt (nth d ((a + b) / 2 + m - i)) (nth d (i - 1))) → (j = hi ∨ lt (nth d ((a + b) / 2 + m - 1 - j)) (nth d j)) →
    ∃ r, yH a b m d f k n i j = k r ∧ lo ≤ r ∧ r ≤ hi ∧ (r = lo ∨ ¬ lt (nth d ((a + b) / 2 + m - r)) (nth d (r - 1))) ∧ (r = hi ∨ lt (nth d ((a + b) / 2 + m - 1 - r)) (nth d r))
  | 0, i, j, h0, h1, h2, h3, h4, h5 => by omega
  | n + 1, i, j, h0, h1, h2, h3, h4, h5 => by
    rw [yH]
    by_cases h : i < j
    · rw [if_pos (decide_eq_true h), y5q (s := i + j) (by omega) (by omega), y5q (s := a + b) (by omega) (by omega), ym (x := (a + b) / 2 + m) (by omega), ym (x := (a + b) / 2 + m - 1) (by omega), ym (x := (a + b) / 2 + m - 1 - (i + j) / 2) (by omega)]
      have q : (0 : Int) ≤ (i + j) / 2 ∧ (i + j) / 2 < d.length := by omega
      have q2 : (0 : Int) ≤ (a + b) / 2 + m - 1 - (i + j) / 2 ∧ (a + b) / 2 + m - 1 - (i + j) / 2 < d.length := by omega
      rw [yn q2, yn q]
      simp only [nthD]
      obtain ⟨v, v1, v2⟩ := C.eq (nth d ((a + b) / 2 + m - 1 - (i + j) / 2)) (nth d ((i + j) / 2))
      rw [v1]
      simp only [Option.bind_some]
      by_cases hv : v < 0
      · rw [if_neg (by simpa using hv)]
        exact bs10 C (by omega) hb hd hh hp hq n i _ (by omega) h1 (by omega) (by omega) h4 (.inr (v2.1 hv))
      · rw [if_pos (by simpa using hv), ym (x := (i + j) / 2 + 1) (by omega)]
        exact bs10 C (by omega) hb hd hh hp hq n _ j (by omega) (by omega) (by omega) h3 (.inr (by rw [show (i + j) / 2 + 1 - 1 = (i + j) / 2 by omega, show (a + b) / 2 + m - ((i + j) / 2 + 1) = (a + b) / 2 + m - 1 - (i + j) / 2 by omega]; exact fun hc => hv (v2.2 hc))) h5
    · rw [if_neg (by simpa using h)]
      have : i = j := by omega
      subst this
      exact ⟨i, rfl, h1, h3, h4, h5⟩
theorem mv7 {k : List Cm → Option (List Cm)} {P S : List Cm} {x : Cm} {i : Int} : ∀ (n : Nat) (Q R : List Cm) (j : Int), R.length < n → j = P.length + Q.length → i = P.length + Q.length + 1 + R.length → (P ++ (Q ++ x :: (R ++ S))).length < 1152921504606846976 →
    yL i k n (P ++ (Q ++ x :: (R ++ S))) j = k (P ++ (Q ++ (R ++ x :: S)))
  | 0, Q, R, j, h0, hj, hi, hl => by omega
  | n + 1, Q, [], j, h0, hj, hi, hl => by
    have hl' := hl
    simp only [List.length_append, List.length_cons, List.length_nil] at hl' hi
    rw [yL, ym (x := i - 1) (by omega), if_neg (by simp; omega)]; rfl
  | n + 1, Q, y :: R, j, h0, hj, hi, hl => by
    have hl' := hl
    simp only [List.length_append, List.length_cons] at hl' hi h0
    rw [yL, ym (x := i - 1) (by omega), if_pos (decide_eq_true (by omega)), ym (x := j + 1) (by omega)]
    have e1 : P ++ (Q ++ x :: (y :: R ++ S)) = (P ++ Q) ++ x :: (y :: R ++ S) := by simp
    have e2 : P ++ (Q ++ x :: (y :: R ++ S)) = (P ++ Q ++ [x]) ++ y :: (R ++ S) := by simp
    have q1 : (0 : Int) ≤ j ∧ j < (((P ++ (Q ++ x :: (y :: R ++ S))).length : Nat) : Int) := by simp; omega
    have q2 : (0 : Int) ≤ j + 1 ∧ j + 1 < (((P ++ (Q ++ x :: (y :: R ++ S))).length : Nat) : Int) := by simp; omega
    have n1 : nth (P ++ (Q ++ x :: (y :: R ++ S))) j = x := by rw [e1, nthA (by simp; omega)]
    have n2 : nth (P ++ (Q ++ x :: (y :: R ++ S))) (j + 1) = y := by rw [e2, nthA (by simp; omega)]
    rw [yn q2, yn q1, yn (by rw [List.length_set]; exact q2), n1, n2]
    simp only [y87]
    have s1 : (P ++ (Q ++ x :: (y :: R ++ S))).set j.toNat y = (P ++ Q ++ [y]) ++ y :: (R ++ S) := by
      rw [e1, setA (by simp; omega)]; simp
    have s2 : ((P ++ Q ++ [y]) ++ y :: (R ++ S)).set (j + 1).toNat x = P ++ ((Q ++ [y]) ++ x :: (R ++ S)) := by
      rw [setA (by simp; omega)]; simp
    rw [s1, s2, mv7 n (Q ++ [y]) R (j + 1) (by omega) (by simp; omega) (by simp; omega) (by simp; omega)]
    simp
theorem mv9 {k : List Cm → Option (List Cm)} {P : List Cm} {y : Cm} {i : Int} (hi : i = P.length) : ∀ (n : Nat) (R S : List Cm) (j : Int), R.length < n → j = P.length + R.length → (P ++ (R ++ y :: S)).length < 1152921504606846976 →
    yT i k n (P ++ (R ++ y :: S)) j = k (P ++ (y :: (R ++ S)))
  | 0, R, S, j, h0, hj, hl => by omega
  | n + 1, R, S, j, h0, hj, hl => by
    have hl' := hl
    simp only [List.length_append, List.length_cons] at hl'
    rw [yT]
    rcases List.eq_nil_or_concat R with rfl | ⟨R, x, rfl⟩
    · rw [if_neg (by simp at hj ⊢; omega)]; rfl
    · rw [List.concat_eq_append] at *
      simp only [List.length_append, List.length_singleton] at h0 hj hl'
      rw [if_pos (decide_eq_true (by omega)), ym (x := j - 1) (by omega)]
      have e1 : P ++ (R ++ [x] ++ y :: S) = (P ++ R) ++ x :: (y :: S) := by simp
      have e2 : P ++ (R ++ [x] ++ y :: S) = (P ++ R ++ [x]) ++ y :: S := by simp
      have q1 : (0 : Int) ≤ j ∧ j < (((P ++ (R ++ [x] ++ y :: S)).length : Nat) : Int) := by simp; omega
      have q2 : (0 : Int) ≤ j - 1 ∧ j - 1 < (((P ++ (R ++ [x] ++ y :: S)).length : Nat) : Int) := by simp; omega
      have n1 : nth (P ++ (R ++ [x] ++ y :: S)) j = y := by rw [e2, nthA (by simp; omega)]
      have n2 : nth (P ++ (R ++ [x] ++ y :: S)) (j - 1) = x := by rw [e1, nthA (by simp; omega)]
      rw [yn q2, yn q1, yn (by rw [List.length_set]; exact q2), n1, n2]
      simp only [y87]
      have s1 : (P ++ (R ++ [x] ++ y :: S)).set j.toNat x = (P ++ R) ++ x :: x :: S := by
        rw [e2, setA (by simp; omega)]; simp
      have s2 : ((P ++ R) ++ x :: x :: S).set (j - 1).toNat y = P ++ (R ++ y :: (x :: S)) := by
        rw [setA (by simp; omega)]; simp
      first
      | rw [s1, s2, mv9 hi n R (x :: S) (j - 1) (by omega) (by omega) (by simp; omega)]
      | (have s1 : (P ++ (R ++ [x] ++ y :: S)).set (j - 1).toNat y = (P ++ R) ++ y :: y :: S := by
          rw [e1, setA (by simp; omega)]
         have s2 : ((P ++ R) ++ y :: y :: S).set j.toNat x = P ++ (R ++ y :: (x :: S)) := by
          rw [show (P ++ R) ++ y :: y :: S = (P ++ R ++ [y]) ++ y :: S by simp, setA (by simp; omega)]; simp
         rw [s1, s2, mv9 hi n R (x :: S) (j - 1) (by omega) (by omega) (by simp; omega)])
      simp
end
end Go.Proofs.Ytinchjigeakocaa
namespace Go.Proofs.Ytinchjigeakocaa
open Go Go.RowKit Sep
set_option linter.all false
section
variable {f : Cm → Cm → Option Int} {lt : Cm → Cm → Prop}
theorem nthB {α : Type} [Inhabited α] {P B S : List α} {i : Int} (h : P.length ≤ i ∧ i < P.length + B.length) : nth (P ++ (B ++ S)) i = nth B (i - P.length) := by
  rw [y2x (by simp; omega), y2x (by omega)]
  rw [List.getElem_append_right (by omega), List.getElem_append_left (by omega)]
  congr 1; omega
theorem cut_last {B : List Cm} {n : Nat} (hn : n ≤ B.length) (h0 : 0 < n) : ∃ L, B.take n = L ++ [nth B ((n : Int) - 1)] := by
  refine ⟨B.take (n - 1), ?_⟩
  have := y8w B (i := (n : Int) - 1) (by omega) (by omega)
  rw [show ((n : Int) - 1 + 1).toNat = n by omega, show ((n : Int) - 1).toNat = n - 1 by omega] at this
  exact this
theorem yaq {B : List Cm} {n : Nat} (hn : n < B.length) : ∃ L, B.drop n = nth B (n : Int) :: L := by
  have := y8v (l := B) (i := (n : Int)) (by omega) (by omega)
  exact ⟨_, this⟩
theorem Srt.take_le (C : Cmp f lt) {B : List Cm} (h : Srt lt B) {n : Nat} (hn : n ≤ B.length) {x : Cm} (hx : n = 0 ∨ ¬ lt x (nth B ((n : Int) - 1))) : ∀ y ∈ B.take n, ¬ lt x y := by
  intro y hy
  rcases hx with rfl | hx
  · simp at hy
  · by_cases h0 : n = 0
    · subst h0; simp at hy
    · obtain ⟨L, hL⟩ := cut_last hn (by omega)
      rw [hL] at hy
      have hs : Srt lt (L ++ [nth B ((n : Int) - 1)]) := by rw [← hL]; exact List.Pairwise.sublist (List.take_sublist _ _) h
      exact C.tr _ _ _ (hs.le_last C y hy) hx
theorem Srt.le_drop (C : Cmp f lt) {B : List Cm} (h : Srt lt B) {n : Nat} {x : Cm} (hx : B.length ≤ n ∨ ¬ lt (nth B (n : Int)) x) : ∀ y ∈ B.drop n, ¬ lt y x := by
  intro y hy
  by_cases h0 : n < B.length
  · rcases hx with hx | hx
    · omega
    · obtain ⟨L, hL⟩ := yaq h0
      rw [hL] at hy
      have hs : Srt lt (nth B (n : Int) :: L) := by rw [← hL]; exact List.Pairwise.sublist (List.drop_sublist _ _) h
      exact C.tr _ _ _ hx (hs.first_le C y hy)
  · rw [List.drop_eq_nil_of_le (by omega)] at hy; simp at hy
theorem y9o (C : Cmp f lt) : ∀ (n : Nat) (P A B S : List Cm) (a m b : Int), A.length + B.length ≤ n → 0 < A.length → 0 < B.length → Srt lt A → Srt lt B → a = P.length → m = P.length + A.length → b = P.length + A.length + B.length → (P ++ (A ++ (B ++ S))).length < 1152921504606846976 →
    ∃ M, M.Perm (A ++ B) ∧ Srt lt M ∧ yR n (P ++ (A ++ (B ++ S))) a m b f = some (P ++ (M ++ S))
  | 0, P, A, B, S, a, m, b, h0, hA, hB, sA, sB, ha, hm, hb, hl => by omega
  | n + 1, P, A, B, S, a, m, b, h0, hA, hB, sA, sB, ha, hm, hb, hl => by
    have hl' := hl
    simp only [List.length_append] at hl'
    rw [yR]
    have hF := y1d
    have hz : ∀ x : Cm, ¬ lt x x := fun x hc => C.asym _ _ hc hc
    generalize hN : ys = N at hF ⊢
    refine y30 (P := fun o => ∃ M, M.Perm (A ++ B) ∧ Srt lt M ∧ o = some (P ++ (M ++ S))) fun k0 hk0 => ?_
    rw [ym (x := m - a) (by omega)]
    by_cases c1 : m - a = 1
    · rw [if_pos (decide_eq_true c1)]
      obtain ⟨x, rfl⟩ : ∃ x, A = [x] := by
        match A with
        | [x] => exact ⟨x, rfl⟩
        | [] => simp at hA
        | x :: y :: A => simp at hm; omega
      simp only [List.length_singleton] at hm hb hl'
      refine y1H (P := fun o => ∃ M, M.Perm ([x] ++ B) ∧ Srt lt M ∧ o = some (P ++ (M ++ S))) fun k1 hk1 => ?_
      have e1 : P ++ ([x] ++ (B ++ S)) = P ++ x :: (B ++ S) := rfl
      have e2 : P ++ ([x] ++ (B ++ S)) = (P ++ [x]) ++ (B ++ S) := by simp
      have n0 : nth (P ++ ([x] ++ (B ++ S))) a = x := by rw [e1, nthA ha]
      have nB : ∀ i : Int, m ≤ i → i < b → nth (P ++ ([x] ++ (B ++ S))) i = nth B (i - m) := by
        intro i h1 h2
        rw [e2, nthB (by simp; omega)]
        simp only [List.length_append, List.length_singleton]
        congr 1; omega
      obtain ⟨r, r1, r2, r3, r4, r5⟩ := bs6 C (k := k1) (d := P ++ ([x] ++ (B ++ S))) (a := a) (m := m) (b := b) (by simp; omega) (by omega) (by simp; omega) hl N m b (by omega) (by omega) (by omega) (by omega) (.inl rfl) (.inl rfl)
      rw [r1, hk1, n0] at *
      obtain ⟨q, rfl⟩ : ∃ q : Nat, r = m + q := ⟨(r - m).toNat, by omega⟩
      have t1 : ∀ y ∈ B.take q, ¬ lt x y := sB.take_le C (by omega) (by
        rcases r4 with h | h
        · exact .inl (by omega)
        · by_cases hq : q = 0
          · exact .inl hq
          · rw [nB _ (by omega) (by omega), show m + (q : Int) - 1 - m = (q : Int) - 1 by omega] at h
            exact .inr (C.asym _ _ h))
      have t2 : ∀ y ∈ B.drop q, ¬ lt y x := sB.le_drop C (by
        rcases r5 with h | h
        · exact .inl (by omega)
        · by_cases hq : B.length ≤ q
          · exact .inl hq
          · rw [nB _ (by omega) (by omega), show m + (q : Int) - m = (q : Int) by omega] at h
            exact .inr h)
      have hBq : B = B.take q ++ B.drop q := (List.take_append_drop _ _).symm
      have l1 : (B.take q).length = q := by rw [List.length_take]; omega
      generalize B.take q = B1 at *
      generalize B.drop q = B2 at *
      subst hBq
      refine y1H (P := fun o => ∃ M, M.Perm ([x] ++ (B1 ++ B2)) ∧ Srt lt M ∧ o = some (P ++ (M ++ S))) fun k2 hk2 => ?_
      have sB' := Srt.app.1 sB
      refine ⟨B1 ++ x :: B2, List.perm_middle, Srt.app.2 ⟨sB'.1, List.pairwise_cons.2 ⟨t2, sB'.2.1⟩, ?_⟩, ?_⟩
      · intro u hu w hw
        rcases List.mem_cons.1 hw with rfl | hw
        · exact t1 u hu
        · exact sB'.2.2 u hu w hw
      · simp only [List.length_append] at hb hl'
        have := mv7 (k := k2) (P := P) (S := B2 ++ S) (x := x) (i := m + q) N [] B1 a (by omega) (by simp; omega) (by simp; omega) (by simp; omega)
        rw [show P ++ ([x] ++ (B1 ++ B2 ++ S)) = P ++ ([] ++ x :: (B1 ++ (B2 ++ S))) by simp, this, hk2]; simp
    · rw [if_neg (by simpa using c1), hk0]
      refine y30 (P := fun o => ∃ M, M.Perm (A ++ B) ∧ Srt lt M ∧ o = some (P ++ (M ++ S))) fun k0 hk0 => ?_
      rw [ym (x := b - m) (by omega)]
      by_cases c2 : b - m = 1
      · rw [if_pos (decide_eq_true c2)]
        obtain ⟨y, rfl⟩ : ∃ y, B = [y] := by
          match B with
          | [x] => exact ⟨x, rfl⟩
          | [] => simp at hB
          | x :: y :: A => simp at hb; omega
        simp only [List.length_singleton] at hb hl'
        refine y1H (P := fun o => ∃ M, M.Perm (A ++ [y]) ∧ Srt lt M ∧ o = some (P ++ (M ++ S))) fun k1 hk1 => ?_
        have n0 : nth (P ++ (A ++ ([y] ++ S))) m = y := by
          rw [show P ++ (A ++ ([y] ++ S)) = (P ++ A) ++ y :: S by simp, nthA (by simp; omega)]
        have nA : ∀ i : Int, a ≤ i → i < m → nth (P ++ (A ++ ([y] ++ S))) i = nth A (i - a) := by
          intro i h1 h2
          rw [nthB (by omega), ha]
        obtain ⟨r, r1, r2, r3, r4, r5⟩ := bs8 C (k := k1) (d := P ++ (A ++ ([y] ++ S))) (a := a) (m := m) (by omega) (by simp; omega) hl N a m (by omega) (by omega) (by omega) (by omega) (.inl rfl) (.inl rfl)
        rw [r1, hk1, n0] at *
        obtain ⟨q, rfl⟩ : ∃ q : Nat, r = a + q := ⟨(r - a).toNat, by omega⟩
        have t1 : ∀ x ∈ A.take q, ¬ lt y x := sA.take_le C (by omega) (by
          rcases r4 with h | h
          · exact .inl (by omega)
          · by_cases hq : q = 0
            · exact .inl hq
            · rw [nA _ (by omega) (by omega), show a + (q : Int) - 1 - a = (q : Int) - 1 by omega] at h
              exact .inr h)
        have t2 : ∀ x ∈ A.drop q, ¬ lt x y := sA.le_drop C (by
          rcases r5 with h | h
          · exact .inl (by omega)
          · by_cases hq : A.length ≤ q
            · exact .inl hq
            · rw [nA _ (by omega) (by omega), show a + (q : Int) - a = (q : Int) by omega] at h
              exact .inr (C.asym _ _ h))
        have hAq : A = A.take q ++ A.drop q := (List.take_append_drop _ _).symm
        have l1 : (A.take q).length = q := by rw [List.length_take]; omega
        generalize A.take q = A1 at *
        generalize A.drop q = A2 at *
        subst hAq
        refine y1H (P := fun o => ∃ M, M.Perm (A1 ++ A2 ++ [y]) ∧ Srt lt M ∧ o = some (P ++ (M ++ S))) fun k2 hk2 => ?_
        have sA' := Srt.app.1 sA
        refine ⟨A1 ++ y :: A2, ?_, Srt.app.2 ⟨sA'.1, List.pairwise_cons.2 ⟨t2, sA'.2.1⟩, ?_⟩, ?_⟩
        · rw [List.append_assoc]; exact (List.perm_append_comm (l₁ := [y])).append_left _
        · intro u hu w hw
          rcases List.mem_cons.1 hw with rfl | hw
          · exact t1 u hu
          · exact sA'.2.2 u hu w hw
        · simp only [List.length_append] at hb hm hl'
          have := mv9 (k := k2) (P := P ++ A1) (y := y) (i := a + q) (by simp; omega) N A2 S m (by omega) (by simp; omega) (by simp; omega)
          rw [show P ++ (A1 ++ A2 ++ ([y] ++ S)) = P ++ A1 ++ (A2 ++ y :: S) by simp, this, hk2]; simp
      · rw [if_neg (by simpa using c2), hk0]
        refine y3y (P := fun o => ∃ M, M.Perm (A ++ B) ∧ Srt lt M ∧ o = some (P ++ (M ++ S))) fun k2 hk2 => ?_
        rw [y5q (s := a + b) (by omega) (by omega)]
        -- the search
        have main : ∀ lo hi : Int, (m > (a + b) / 2 → lo = (a + b) / 2 + m - b ∧ hi = (a + b) / 2) → (¬ m > (a + b) / 2 → lo = a ∧ hi = m) → ∃ M, M.Perm (A ++ B) ∧ Srt lt M ∧ k2 lo hi = some (P ++ (M ++ S)) := by
          intro lo hi hg hs
          rw [hk2]
          refine y1H (P := fun o => ∃ M, M.Perm (A ++ B) ∧ Srt lt M ∧ o = some (P ++ (M ++ S))) fun k3 hk3 => ?_
          obtain ⟨r, r1, r2, r3, r4, r5⟩ := bs10 C (k := k3) (d := P ++ (A ++ (B ++ S))) (a := a) (m := m) (b := b) (lo := lo) (hi := hi) (by omega) (by simp; omega) hl (by simp; omega) (by omega) (by simp; omega) N lo hi (by omega) (by omega) (by omega) (by omega) (.inl rfl) (.inl rfl)
          rw [r1, hk3]
          simp only [y5q (s := a + b) (by omega) (by omega), ym (x := (a + b) / 2 + m) (by omega), ym (x := (a + b) / 2 + m - r) (by omega)]
          obtain ⟨p, rfl⟩ : ∃ p : Nat, r = a + p := ⟨(r - a).toNat, by omega⟩
          obtain ⟨q, hq⟩ : ∃ q : Nat, (a + b) / 2 + m - (a + p) = m + q := ⟨((a + b) / 2 - (a + p)).toNat, by omega⟩
          rw [hq] at r4 ⊢
          rw [show (a + b) / 2 + m - 1 - (a + p) = m + q - 1 by omega] at r5
          have hp : p ≤ A.length := by omega
          have hq' : q ≤ B.length := by omega
          have nA : ∀ i : Int, a ≤ i → i < m → nth (P ++ (A ++ (B ++ S))) i = nth A (i - a) := by
            intro i h1 h2
            rw [nthB (by omega), ha]
          have nB : ∀ i : Int, m ≤ i → i < b → nth (P ++ (A ++ (B ++ S))) i = nth B (i - m) := by
            intro i h1 h2
            rw [show P ++ (A ++ (B ++ S)) = (P ++ A) ++ (B ++ S) by simp, nthB (by simp; omega)]
            simp only [List.length_append]
            congr 1; omega
          -- the four parts
          have F1 : ∀ x ∈ A.take p, ∀ y ∈ B.drop q, ¬ lt y x := by
            intro x hx y hy
            by_cases hq1 : q < B.length
            · by_cases hp1 : p = 0
              · subst hp1; simp at hx
              · have hr : ¬ lt (nth B (q : Int)) (nth A ((p : Int) - 1)) := by
                  rcases r4 with h | h
                  · omega
                  · rw [nB _ (by omega) (by omega), nA _ (by omega) (by omega), show m + (q : Int) - m = q by omega, show a + (p : Int) - 1 - a = (p : Int) - 1 by omega] at h
                    exact h
                have := sA.take_le C hp (x := nth B (q : Int)) (.inr hr) x hx
                exact sB.le_drop C (n := q) (x := x) (.inr this) y hy
            · rw [List.drop_eq_nil_of_le (by omega)] at hy; simp at hy
          have F2 : ∀ x ∈ B.take q, ∀ y ∈ A.drop p, ¬ lt y x := by
            intro x hx y hy
            by_cases hp1 : p < A.length
            · by_cases hq1 : q = 0
              · subst hq1; simp at hx
              · have hr : ¬ lt (nth A (p : Int)) (nth B ((q : Int) - 1)) := by
                  rcases r5 with h | h
                  · omega
                  · rw [nB _ (by omega) (by omega), nA _ (by omega) (by omega), show a + (p : Int) - a = p by omega, show m + (q : Int) - 1 - m = (q : Int) - 1 by omega] at h
                    exact C.asym _ _ h
                have := sB.take_le C hq' (x := nth A (p : Int)) (.inr hr) x hx
                exact sA.le_drop C (n := p) (x := x) (.inr this) y hy
            · rw [List.drop_eq_nil_of_le (by omega)] at hy; simp at hy
          have hmid : (a + b) / 2 = a + p + q := by omega
          rw [hmid]
          clear nA nB r4 r5 r1
          have hAp : A = A.take p ++ A.drop p := (List.take_append_drop _ _).symm
          have hBq : B = B.take q ++ B.drop q := (List.take_append_drop _ _).symm
          have l1 : (A.take p).length = p := by rw [List.length_take]; omega
          have l2 : (B.take q).length = q := by rw [List.length_take]; omega
          generalize A.take p = A1 at *
          generalize A.drop p = A2 at *
          generalize B.take q = B1 at *
          generalize B.drop q = B2 at *
          subst hAp hBq
          simp only [List.length_append] at hm hb hl' h0 hA hB hp hq'
          have sA' := Srt.app.1 sA
          have sB' := Srt.app.1 sB
          refine y1H (P := fun o => ∃ M, M.Perm (A1 ++ A2 ++ (B1 ++ B2)) ∧ Srt lt M ∧ o = some (P ++ (M ++ S))) fun k4 hk4 => ?_
          have turned : ∃ M, M.Perm (A1 ++ A2 ++ (B1 ++ B2)) ∧ Srt lt M ∧ k4 (P ++ (A1 ++ (B1 ++ (A2 ++ (B2 ++ S))))) = some (P ++ (M ++ S)) := by
            rw [hk4]
            refine y1H (P := fun o => ∃ M, M.Perm (A1 ++ A2 ++ (B1 ++ B2)) ∧ Srt lt M ∧ o = some (P ++ (M ++ S))) fun k5 hk5 => ?_
            have second : ∀ M1, M1.Perm (A1 ++ B1) → Srt lt M1 → ∃ M, M.Perm (A1 ++ A2 ++ (B1 ++ B2)) ∧ Srt lt M ∧ k5 (P ++ (M1 ++ (A2 ++ (B2 ++ S)))) = some (P ++ (M ++ S)) := by
              intro M1 p1 s1
              have ml := p1.length_eq
              rw [List.length_append] at ml
              have fin : ∀ M2, M2.Perm (A2 ++ B2) → Srt lt M2 → (M1 ++ M2).Perm (A1 ++ A2 ++ (B1 ++ B2)) ∧ Srt lt (M1 ++ M2) := by
                intro M2 p2 s2
                constructor
                · refine (p1.append p2).trans ?_
                  rw [List.append_assoc, List.append_assoc]
                  refine List.Perm.append_left _ ?_
                  rw [← List.append_assoc, ← List.append_assoc]
                  exact List.perm_append_comm.append_right _
                · refine Srt.app.2 ⟨s1, s2, fun x hx y hy => ?_⟩
                  rcases List.mem_append.1 (p1.mem_iff.1 hx) with hx | hx <;> rcases List.mem_append.1 (p2.mem_iff.1 hy) with hy | hy
                  · exact sA'.2.2 x hx y hy
                  · exact F1 x hx y hy
                  · exact F2 x hx y hy
                  · exact sB'.2.2 x hx y hy
              rw [hk5]
              by_cases c : a + p + q < m + q ∧ m + q < b
              · rw [if_pos (by simpa using c)]
                obtain ⟨M2, p2, s2, e2⟩ := y9o C n (P ++ M1) A2 B2 S (a + p + q) (m + q) b (by omega) (by omega) (by omega) sA'.2.1 sB'.2.1 (by simp; omega) (by simp; omega) (by simp; omega) (by simp; omega)
                obtain ⟨f1, f2⟩ := fin M2 p2 s2
                rw [show P ++ (M1 ++ (A2 ++ (B2 ++ S))) = P ++ M1 ++ (A2 ++ (B2 ++ S)) by simp, e2]
                exact ⟨M1 ++ M2, f1, f2, by simp⟩
              · rw [if_neg (by simpa using c)]
                have hz : Srt lt (A2 ++ B2) := by
                  refine Srt.app.2 ⟨sA'.2.1, sB'.2.1, fun x hx y hy => ?_⟩
                  have h1 := List.length_pos_of_mem hx
                  have h2 := List.length_pos_of_mem hy
                  omega
                obtain ⟨f1, f2⟩ := fin (A2 ++ B2) (.refl _) hz
                exact ⟨M1 ++ (A2 ++ B2), f1, f2, by simp⟩
            by_cases c : a < a + p ∧ a + p < a + p + q
            · rw [if_pos (by simpa using c)]
              obtain ⟨M1, p1, s1, e1⟩ := y9o C n P A1 B1 (A2 ++ (B2 ++ S)) a (a + p) (a + p + q) (by omega) (by omega) (by omega) sA'.1 sB'.1 ha (by omega) (by omega) (by simp; omega)
              rw [e1]
              exact second M1 p1 s1
            · rw [if_neg (by simpa using c)]
              have hz : Srt lt (A1 ++ B1) := by
                refine Srt.app.2 ⟨sA'.1, sB'.1, fun x hx y hy => ?_⟩
                have h1 := List.length_pos_of_mem hx
                have h2 := List.length_pos_of_mem hy
                omega
              have := second (A1 ++ B1) (.refl _) hz
              rw [show P ++ (A1 ++ B1 ++ (A2 ++ (B2 ++ S))) = P ++ (A1 ++ (B1 ++ (A2 ++ (B2 ++ S)))) by simp] at this
              exact this
          by_cases c : a + p < m ∧ m < m + q
          · rw [if_pos (by simpa using c)]
            have := rot_eq (f := f) (P := P ++ A1) (U := A2) (V := B1) (S := B2 ++ S) (a := a + p) (m := m) (b := m + q) (by simp; omega) (by simp; omega) (by simp; omega) (by omega) (by omega) (by simp; omega)
            rw [show P ++ (A1 ++ A2 ++ (B1 ++ B2 ++ S)) = P ++ A1 ++ (A2 ++ (B1 ++ (B2 ++ S))) by simp, this]
            rw [show P ++ A1 ++ (B1 ++ (A2 ++ (B2 ++ S))) = P ++ (A1 ++ (B1 ++ (A2 ++ (B2 ++ S)))) by simp]
            exact turned
          · rw [if_neg (by simpa using c)]
            have e : P ++ (A1 ++ A2 ++ (B1 ++ B2 ++ S)) = P ++ (A1 ++ (B1 ++ (A2 ++ (B2 ++ S)))) := by
              by_cases z1 : A2.length = 0
              · rw [List.eq_nil_of_length_eq_zero z1]; simp
              · rw [List.eq_nil_of_length_eq_zero (l := B1) (by omega)]; simp
            rw [e]; exact turned
        by_cases c : m > (a + b) / 2
        · rw [if_pos (decide_eq_true c), ym (x := (a + b) / 2 + m) (by omega), ym (x := (a + b) / 2 + m - b) (by omega)]
          exact main _ _ (fun _ => ⟨rfl, rfl⟩) (fun h => absurd c h)
        · rw [if_neg (by simpa using c)]
          exact main _ _ (fun h => absurd h c) (fun _ => ⟨rfl, rfl⟩)
end
end Go.Proofs.Ytinchjigeakocaa
namespace Go.Proofs.Ytinchjigeakocaa
open Go Go.RowKit Sep
set_option linter.all false
section
variable {f : Cm → Cm → Option Int} {lt : Cm → Cm → Prop}
inductive Blk (lt : Cm → Cm → Prop) (w : Nat) : List Cm → Prop
  | last {l} : Srt lt l → l.length ≤ w → Blk lt w l
  | cons {A R} : Srt lt A → A.length = w → Blk lt w R → Blk lt w (A ++ R)
theorem Blk.sorted {w : Nat} {l : List Cm} (h : Blk lt w l) (hw : 0 < w) (hl : l.length ≤ w) : Srt lt l := by
  cases h with
  | last h _ => exact h
  | cons h h2 h3 =>
    rw [List.length_append] at hl
    rename_i A R
    rw [List.eq_nil_of_length_eq_zero (l := R) (by omega), List.append_nil]; exact h
theorem Blk.split {w : Nat} {l : List Cm} (h : Blk lt w l) (hl : w < l.length) : ∃ A R, l = A ++ R ∧ A.length = w ∧ Srt lt A ∧ Blk lt w R := by
  cases h with
  | last h h2 => omega
  | cons h h2 h3 => exact ⟨_, _, rfl, h2, h, h3⟩
theorem ya0 (C : Cmp f lt) {P A B S : List Cm} {a m b : Int} (hA : 0 < A.length) (hB : 0 < B.length) (sA : Srt lt A) (sB : Srt lt B) (ha : a = P.length) (hm : m = P.length + A.length) (hb : b = P.length + A.length + B.length) (hl : (P ++ (A ++ (B ++ S))).length < 1152921504606846976) :
    ∃ M, M.Perm (A ++ B) ∧ Srt lt M ∧ y1m (P ++ (A ++ (B ++ S))) a m b f = some (P ++ (M ++ S)) := by
  have hl' := hl
  simp only [List.length_append] at hl'
  unfold y1m
  exact y9o C ys P A B S a m b (by rw [y1d]; omega) hA hB sA sB ha hm hb hl
theorem st4 (C : Cmp f lt) {N : Int} {K : List Cm → Int → Option (List Cm)} : ∀ (n : Nat) (P R : List Cm) (a b : Int), R.length < n → a = P.length → b = P.length + 20 → N = P.length + R.length → N < 1152921504606846976 →
    ∃ Q T, (Q ++ T).Perm R ∧ T.length < 20 ∧ (∀ T', Srt lt T' → T'.length = T.length → Blk lt 20 (Q ++ T')) ∧ yO N f K n (P ++ R) a b = K (P ++ Q ++ T) ((P.length : Int) + Q.length)
  | 0, P, R, a, b, h0, ha, hb, hN, hl => by omega
  | n + 1, P, R, a, b, h0, ha, hb, hN, hl => by
    rw [yO]
    by_cases h : b ≤ N
    · rw [if_pos (decide_eq_true h)]
      have hR : R = R.take 20 ++ R.drop 20 := (List.take_append_drop _ _).symm
      have l1 : (R.take 20).length = 20 := by rw [List.length_take]; omega
      generalize R.take 20 = R1 at *
      generalize R.drop 20 = R2 at *
      subst hR
      rw [List.length_append] at h0 hN
      obtain ⟨M, m1, m2, m3⟩ := ins_eq C (P := P) (R := R1) (Z := R2) (a := a) (b := b) ha (by omega) (by simp; omega)
      have ml := m1.length_eq
      rw [m3]
      simp only [Option.bind_some]
      obtain ⟨Q, T, q1, q2, q3, q4⟩ := st4 C (N := N) (K := K) n (P ++ M) R2 b (b + 20) (by omega) (by simp; omega) (by simp; omega) (by simp; omega) hl
      refine ⟨M ++ Q, T, ?_, q2, fun T' h1 h2 => ?_, ?_⟩
      · rw [List.append_assoc]; exact m1.append q1
      · rw [List.append_assoc]; exact .cons m2 (by omega) (q3 T' h1 h2)
      · rw [ym (x := b + 20) (by omega), show P ++ (M ++ R2) = P ++ M ++ R2 by simp, q4]
        congr 1
        · simp
        · simp; omega
    · rw [if_neg (by simpa using h)]
      exact ⟨[], R, by simp, by omega, fun T' h1 h2 => .last h1 (by simp; omega), by simp [ha]⟩
theorem st6 (C : Cmp f lt) {N w : Int} {W : Nat} (hw : w = W) (hW : 0 < W) (hwN : w < N) {K : List Cm → Int → Option (List Cm)} : ∀ (n : Nat) (P R : List Cm) (a b : Int), R.length < n → a = P.length → b = P.length + 2 * w → N = P.length + R.length → N < 1152921504606846976 → Blk lt W R →
    ∃ Q T, (Q ++ T).Perm R ∧ T.length < 2 * W ∧ Blk lt W T ∧ (∀ T', Srt lt T' → T'.length = T.length → Blk lt (2 * W) (Q ++ T')) ∧ yY N w f K n (P ++ R) a b = K (P ++ Q ++ T) ((P.length : Int) + Q.length)
  | 0, P, R, a, b, h0, ha, hb, hN, hl, hB => by omega
  | n + 1, P, R, a, b, h0, ha, hb, hN, hl, hB => by
    rw [yY]
    by_cases h : b ≤ N
    · rw [if_pos (decide_eq_true h)]
      obtain ⟨A, R', rfl, lA, sA, hB'⟩ := hB.split (by omega)
      rw [List.length_append] at h0 hN
      -- the second block
      obtain ⟨B, R2, rfl, lB, sB, hB2⟩ : ∃ B R2, R' = B ++ R2 ∧ B.length = W ∧ Srt lt B ∧ Blk lt W R2 := by
        by_cases hlt : W < R'.length
        · exact hB'.split hlt
        · exact ⟨R', [], by simp, by omega, hB'.sorted hW (by omega), .last .nil (by simp)⟩
      rw [List.length_append] at h0 hN
      obtain ⟨M, m1, m2, m3⟩ := ya0 C (P := P) (A := A) (B := B) (S := R2) (a := a) (m := a + w) (b := b) (by omega) (by omega) sA sB ha (by omega) (by omega) (by simp; omega)
      have ml := m1.length_eq
      rw [List.length_append] at ml
      rw [ym (x := a + w) (by omega), show P ++ (A ++ (B ++ R2)) = P ++ (A ++ (B ++ R2)) from rfl, m3]
      simp only [Option.bind_some]
      obtain ⟨Q, T, q1, q2, q3, q4, q5⟩ := st6 C hw hW hwN (K := K) n (P ++ M) R2 b (b + 2 * w) (by omega) (by simp; omega) (by simp; omega) (by simp; omega) hl hB2
      refine ⟨M ++ Q, T, ?_, q2, q3, fun T' h1 h2 => ?_, ?_⟩
      · rw [List.append_assoc, ← List.append_assoc A]; exact m1.append q1
      · rw [List.append_assoc]; exact .cons m2 (by omega) (q4 T' h1 h2)
      · rw [ym (x := 2 * w) (by omega), ym (x := b + 2 * w) (by omega), show P ++ (M ++ R2) = P ++ M ++ R2 by simp, q5]
        congr 1
        · simp
        · simp; omega
    · rw [if_neg (by simpa using h)]
      exact ⟨[], R, by simp, by omega, hB, fun T' h1 h2 => .last h1 (by simp; omega), by simp [ha]⟩
theorem st5 (C : Cmp f lt) {N : Int} {K : List Cm → Option (List Cm)} (hN : N < 1152921504606846976) : ∀ (n : Nat) (R : List Cm) (w : Int) (W : Nat), (N < n + w ∧ 0 < n) → 0 < W → w = W → w ≤ 2 * N + 20 → N = R.length → Blk lt W R →
    ∃ R', R'.Perm R ∧ Srt lt R' ∧ yP N f K n R w = K R'
  | 0, R, w, W, h0, hW, hw, hw2, hl, hB => by omega
  | n + 1, R, w, W, h0, hW, hw, hw2, hl, hB => by
    rw [yP]
    by_cases h : w < N
    · rw [if_pos (decide_eq_true h)]
      refine y1H (P := fun o => ∃ R', R'.Perm R ∧ Srt lt R' ∧ o = K R') fun k1 hk1 => ?_
      refine y3y (P := fun o => ∃ R', R'.Perm R ∧ Srt lt R' ∧ o = K R') fun k2 hk2 => ?_
      have hF := y1d
      generalize hFU : ys = FU at hF hk2 ⊢
      obtain ⟨Q, T, q1, q2, q3, q4, q5⟩ := st6 C hw hW h (K := k2) FU [] R 0 (2 * w) (by omega) (by simp) (by simp) (by simp; omega) hN hB
      have ql := q1.length_eq
      rw [List.length_append] at ql
      simp only [List.nil_append, List.length_nil, Int.ofNat_zero, Int.zero_add] at q5
      rw [ym (x := 2 * w) (by omega), q5, hk2]
      refine y1H (P := fun o => ∃ R', R'.Perm R ∧ Srt lt R' ∧ o = K R') fun k3 hk3 => ?_
      have fin : ∀ T', T'.Perm T → Srt lt T' → ∃ R', R'.Perm R ∧ Srt lt R' ∧ k3 (Q ++ T') = K R' := by
        intro T' t1 t2
        have tl := t1.length_eq
        rw [hk3, hk1, ym (x := w * 2) (by omega)]
        obtain ⟨R', r1, r2, r3⟩ := st5 C (K := K) hN n (Q ++ T') (w * 2) (2 * W) (by omega) (by omega) (by omega) (by omega) (by simp; omega) (q4 T' t2 tl)
        exact ⟨R', r1.trans ((t1.append_left Q).trans q1), r2, r3⟩
      rw [ym (x := (Q.length : Int) + w) (by omega)]
      by_cases h3 : (Q.length : Int) + w < N
      · rw [if_pos (decide_eq_true h3)]
        obtain ⟨A, B, rfl, lA, sA, hB'⟩ := q3.split (by omega)
        rw [List.length_append] at ql q2
        have sB := hB'.sorted hW (by omega)
        obtain ⟨M, m1, m2, m3⟩ := ya0 C (P := Q) (A := A) (B := B) (S := []) (a := Q.length) (m := Q.length + w) (b := N) (by omega) (by omega) sA sB rfl (by omega) (by omega) (by simp; omega)
        simp only [List.append_nil] at m3
        rw [m3]
        exact fin M m1 m2
      · rw [if_neg (by simpa using h3)]
        exact fin T (.refl _) (q3.sorted hW (by omega))
    · rw [if_neg (by simpa using h)]
      exact ⟨R, .refl _, hB.sorted hW (by omega), rfl⟩
theorem yar (C : Cmp f lt) {R : List Cm} (hl : R.length < 1152921504606846976) :
    ∃ R', R'.Perm R ∧ Srt lt R' ∧ y15 R f = some R' := by
  unfold y15 y1W
  have hF := y1d
  generalize hFU : ys = FU at hF ⊢
  suffices h : ∃ R', R'.Perm R ∧ Srt lt R' ∧ (jp2 (fun (zve : List Sapi_Come) (zvf : Int) => (yQ zve zvf R.length f).bind fun zvg => jp1 (fun (zvh : List Sapi_Come) => some zvh) fun zvi => yP R.length f zvi FU zvg 20) fun zvj => yO R.length f zvj FU R 0 20) = some R' by
    obtain ⟨R', h1, h2, h3⟩ := h
    refine ⟨R', h1, h2, ?_⟩
    rw [h3]; rfl
  refine y3y (P := fun o => ∃ R', R'.Perm R ∧ Srt lt R' ∧ o = some R') fun k1 hk1 => ?_
  obtain ⟨Q, T, q1, q2, q3, q4⟩ := st4 C (N := R.length) (K := k1) FU [] R 0 20 (by omega) (by simp) (by simp) (by simp) (by omega)
  have ql := q1.length_eq
  rw [List.length_append] at ql
  simp only [List.nil_append, List.length_nil, Int.ofNat_zero, Int.zero_add] at q4
  rw [q4, hk1]
  obtain ⟨M, m1, m2, m3⟩ := ins_eq C (P := Q) (R := T) (Z := []) (a := (Q.length : Int)) (b := R.length) (by simp) (by omega) (by simp; omega)
  have ml := m1.length_eq
  simp only [List.append_nil] at m3
  rw [m3]
  simp only [Option.bind_some]
  refine y1H (P := fun o => ∃ R', R'.Perm R ∧ Srt lt R' ∧ o = some R') fun k2 hk2 => ?_
  obtain ⟨R', r1, r2, r3⟩ := st5 C (N := R.length) (K := k2) (by omega) FU (Q ++ M) 20 20 (by omega) (by omega) rfl (by omega) (by simp; omega) (q3 M m2 ml)
  exact ⟨R', r1.trans ((m1.append_left Q).trans q1), r2, by rw [r3, hk2]⟩
end
/-! ### the order of arrivals -/
def clt (a b : Cm) : Prop := a.fTime < b.fTime ∨ a.fTime = b.fTime ∧ (a.fSent < b.fSent ∨ a.fSent = b.fSent ∧ a.fNode < b.fNode)
instance (a b : Cm) : Decidable (clt a b) := inferInstanceAs (Decidable (_ ∨ _))
theorem clt_cmp : Cmp (fun y0 y1 => y2w y0 y1) clt where
  eq x y := by
    unfold y2w
    simp only [y82, Option.bind_some]
    rw [or_eq (by simp)]
    refine ⟨_, rfl, ?_⟩
    unfold orI orI orI orI cmpI clt
    repeat' split
    repeat' split
    all_goals omega
  asym x y := by unfold clt; omega
  tr x y z := by unfold clt; omega
theorem clt_anti {x y : Cm} (h : ¬ clt x y) (k : ¬ clt y x) : x = y := by
  unfold clt at h k
  cases x; cases y
  simp only at h k
  simp only [Sapi_Come.mk.injEq]
  omega
theorem y88 : ∀ {l r : List Cm}, Srt clt l → Srt clt r → l.Perm r → l = r := by
  intro l r h1 h2 hp
  exact hp.eq_of_pairwise (fun a b _ _ h3 h4 => clt_anti h4 h3) h1 h2
theorem y8O {l : List Cm} (hl : l.length < 1152921504606846976) : ∃ l', l'.Perm l ∧ Srt clt l' ∧ y1i l = some l' := by
  obtain ⟨R, h1, h2, h3⟩ := yar clt_cmp hl
  refine ⟨R, h1, h2, ?_⟩
  unfold y1i
  rw [h3]; rfl
end Go.Proofs.Ytinchjigeakocaa
