/- A part of this claim's proof: models of functions, walks, plain laws. No conditions. -/
import Derived.Test.YtinchjigeakocaaP31c
namespace Go.Proofs.Ytinchjigeakocaa
open Go Go.RowKit Sep
set_option linter.all false
/-! ### the stable sort -/
theorem y4Y {α : Type} [Inhabited α] {P S : List α} {x : α} {i : Int} (h : i = P.length) : nth (P ++ x :: S) i = x := by
 subst h; rw [y2N (by simp; omega)]; simp
theorem y4Z {α : Type} {P S : List α} {x y : α} {i : Int} (h : i = P.length) : (P ++ x :: S).set i.toNat y = P ++ y :: S := by
 subst h; rw [show ((P.length : Nat) : Int).toNat = P.length from rfl, List.set_append_right _ _ (Nat.le_refl _)]; simp
theorem y56 {s : Int} (h0 : 0 ≤ s) (h1 : s < 4611686018427387904) : i64 ((u64 (i64 s)) / 2 ^ min (1 : Int).toNat 64) = s / 2 := by
 rw [yn (x := s) (by omega)]
 have e : u64 s = s := by
  unfold u64; rw [show IntKind.wrap .u64 s = s % 18446744073709551616 from rfl]; omega
 rw [e, show (2 : Int) ^ min (1 : Int).toNat 64 = 2 from rfl, yn (by omega)]
structure Cmp (f : Cm → Cm → Option Int) (lt : Cm → Cm → Prop) : Prop where
 eq : ∀ x y, ∃ v, f x y = some v ∧ (v < 0 ↔ lt x y)
 asym : ∀ x y, lt x y → ¬ lt y x
 tr : ∀ x y z, ¬ lt y x → ¬ lt z y → ¬ lt z x
def Srt (lt : Cm → Cm → Prop) (l : List Cm) : Prop := l.Pairwise fun x y => ¬ lt y x
section
variable {f : Cm → Cm → Option Int} {lt : Cm → Cm → Prop}
theorem y7H (x : Cm) : (⟨x.fSent, x.fNode, x.fTime⟩ : Cm) = x := rfl
theorem Srt.app {A B : List Cm} : Srt lt (A ++ B) ↔ Srt lt A ∧ Srt lt B ∧ ∀ x ∈ A, ∀ y ∈ B, ¬ lt y x := List.pairwise_append
theorem Srt.le_last (C : Cmp f lt) {A : List Cm} {y : Cm} (h : Srt lt (A ++ [y])) : ∀ x ∈ A ++ [y], ¬ lt y x := by
 intro x hx
 rcases List.mem_append.1 hx with hx | hx
 ·exact (Srt.app.1 h).2.2 x hx y (by simp)
 ·rw [List.mem_singleton.1 hx]; exact fun hc => C.asym _ _ hc hc
theorem Srt.first_le (C : Cmp f lt) {A : List Cm} {y : Cm} (h : Srt lt (y :: A)) : ∀ x ∈ y :: A, ¬ lt x y := by
 intro x hx
 rcases List.mem_cons.1 hx with hx | hx
 ·rw [hx]; exact fun hc => C.asym _ _ hc hc
 ·exact (List.pairwise_cons.1 h).1 x hx
theorem ins4 (C : Cmp f lt) {k : List Cm → Option (List Cm)} {P : List Cm} {a : Int} (ha : a = P.length) : ∀ (n : Nat) (A G Z : List Cm) (x : Cm) (j : Int), A.length < n → j = P.length + A.length → (P ++ (A ++ x :: (G ++ Z))).length < 1152921504606846976 → Srt lt (A ++ G) → (∀ g ∈ G, lt x g) →
  ∃ M, M.Perm (A ++ x :: G) ∧ Srt lt M ∧ yG a f k n (P ++ (A ++ x :: (G ++ Z))) j = k (P ++ (M ++ Z))
 | 0, A, G, Z, x, j, h0, hj, hl, hs, hg => by omega
 | n + 1, A, G, Z, x, j, h0, hj, hl, hs, hg => by
  have hl' := hl
  simp only [List.length_append, List.length_cons] at hl'
  rw [yG]
  rcases List.eq_nil_or_concat A with rfl | ⟨A', y, rfl⟩
  ·have e : ¬ j > a := by simp at hj; omega
   rw [if_neg (by simpa using e)]
   simp only [Option.bind_some, Bool.false_eq_true, if_false]
   refine ⟨x :: G, by simp, List.pairwise_cons.2 ⟨fun g h => C.asym _ _ (hg g h), by simpa [Srt] using hs⟩, by simp⟩
  ·rw [List.concat_eq_append] at *
   rw [List.length_append] at h0 hj hl'
   simp only [List.length_singleton] at h0 hj hl'
   have e : j > a := by omega
   have e1 : P ++ (A' ++ [y] ++ x :: (G ++ Z)) = (P ++ A') ++ y :: (x :: (G ++ Z)) := by simp
   have e2 : P ++ (A' ++ [y] ++ x :: (G ++ Z)) = (P ++ A' ++ [y]) ++ x :: (G ++ Z) := by simp
   have j1 : i64 (j - 1) = j - 1 := yn (by omega)
   rw [if_pos (decide_eq_true e), j1]
   have q1 : (0 : Int) ≤ j ∧ j < (((P ++ (A' ++ [y] ++ x :: (G ++ Z))).length : Nat) : Int) := by simp; omega
   have q2 : (0 : Int) ≤ j - 1 ∧ j - 1 < (((P ++ (A' ++ [y] ++ x :: (G ++ Z))).length : Nat) : Int) := by simp; omega
   have n1 : nth (P ++ (A' ++ [y] ++ x :: (G ++ Z))) j = x := by rw [e2, y4Y (by simp; omega)]
   have n2 : nth (P ++ (A' ++ [y] ++ x :: (G ++ Z))) (j - 1) = y := by rw [e1, y4Y (by simp; omega)]
   rw [yo q1, yo q2, n1, n2]
   simp only [y7H]
   obtain ⟨v, v1, v2⟩ := C.eq x y
   rw [v1]
   simp only [Option.bind_some]
   by_cases hv : v < 0
   ·rw [if_pos (decide_eq_true hv), yo q2, yo q1, yo (by rw [List.length_set]; exact q2)]
    have s1 : (P ++ (A' ++ [y] ++ x :: (G ++ Z))).set j.toNat y = (P ++ A') ++ y :: (y :: (G ++ Z)) := by
     rw [e2, y4Z (by simp; omega)]; simp
    have s2 : ((P ++ A') ++ y :: (y :: (G ++ Z))).set (j - 1).toNat x = P ++ (A' ++ x :: (y :: G ++ Z)) := by
     rw [y4Z (by simp; omega)]; simp
    rw [s1, s2]
    obtain ⟨M, m1, m2, m3⟩ := ins4 C (k := k) ha n A' (y :: G) Z x (j - 1) (by omega) (by omega) (by simp; omega) (by simpa using hs) (by
     intro g hg'
     rcases List.mem_cons.1 hg' with rfl | hg'
     ·exact v2.1 hv
     ·exact hg g hg')
    refine ⟨M, m1.trans ?_, m2, m3⟩
    rw [List.append_assoc]
    exact (List.Perm.swap ..).append_left _
   ·rw [if_neg (by simpa using hv)]
    have hyx : ¬ lt x y := fun h => hv (v2.2 h)
    refine ⟨A' ++ [y] ++ x :: G, .refl _, ?_, by simp⟩
    have h1 := Srt.app.1 hs
    refine Srt.app.2 ⟨h1.1, List.pairwise_cons.2 ⟨fun g h => C.asym _ _ (hg g h), h1.2.1⟩, ?_⟩
    intro u hu w hw
    rcases List.mem_cons.1 hw with rfl | hw
    ·exact C.tr _ _ _ (h1.1.le_last C u hu) hyx
    ·exact h1.2.2 u hu w hw
theorem ins3 (C : Cmp f lt) {k : List Cm → Option (List Cm)} {P : List Cm} {a b : Int} (ha : a = P.length) : ∀ (n : Nat) (R A Z : List Cm) (i : Int), R.length < n → i = P.length + A.length → b = P.length + A.length + R.length → (P ++ (A ++ (R ++ Z))).length < 1152921504606846976 → Srt lt A →
  ∃ M, M.Perm (A ++ R) ∧ Srt lt M ∧ yv b a f k n (P ++ (A ++ (R ++ Z))) i = k (P ++ (M ++ Z))
 | 0, R, A, Z, i, h0, hi, hb, hl, hs => by omega
 | n + 1, [], A, Z, i, h0, hi, hb, hl, hs => by
  rw [yv, if_neg (by simp at hb ⊢; omega)]
  exact ⟨A, by simp, hs, by simp⟩
 | n + 1, x :: R, A, Z, i, h0, hi, hb, hl, hs => by
  rw [yv]
  rw [List.length_cons] at h0 hb
  have hl' := hl
  simp only [List.length_append, List.length_cons] at hl'
  rw [if_pos (decide_eq_true (by omega))]
  refine y1E (P := fun o => ∃ M, M.Perm (A ++ x :: R) ∧ Srt lt M ∧ o = k (P ++ (M ++ Z))) fun k1 hk1 => ?_
  refine y1E (P := fun o => ∃ M, M.Perm (A ++ x :: R) ∧ Srt lt M ∧ o = k (P ++ (M ++ Z))) fun k2 hk2 => ?_
  have hF := y1s
  obtain ⟨M, m1, m2, m3⟩ := ins4 C (k := k2) ha yz A [] (R ++ Z) x i (by omega) hi (by simp; omega) (by simpa using hs) (by simp)
  have ml := m1.length_eq
  simp only [List.length_append, List.length_cons, List.length_nil] at ml
  obtain ⟨M', p1, p2, p3⟩ := ins3 C (k := k) ha n R M Z (i + 1) (b := b) (by omega) (by omega) (by omega) (by simp; omega) m2
  refine ⟨M', p1.trans ((m1.append_right R).trans (by simp)), p2, ?_⟩
  rw [show P ++ (A ++ (x :: R ++ Z)) = P ++ (A ++ x :: ([] ++ (R ++ Z))) by simp, m3, hk2, hk1, yn (x := i + 1) (by omega), p3]
theorem ins_eq (C : Cmp f lt) {P R Z : List Cm} {a b : Int} (ha : a = P.length) (hb : b = P.length + R.length) (hl : (P ++ (R ++ Z)).length < 1152921504606846976) :
  ∃ M, M.Perm R ∧ Srt lt M ∧ yP (P ++ (R ++ Z)) a b f = some (P ++ (M ++ Z)) := by
 unfold yP
 refine y1E (P := fun o => ∃ M, M.Perm R ∧ Srt lt M ∧ o = some (P ++ (M ++ Z))) fun k hk => ?_
 have hF := y1s
 have hl' := hl
 simp only [List.length_append] at hl'
 rw [yn (x := a + 1) (by omega)]
 cases R with
 | nil =>
  generalize yz = N at hF
  cases N with
  | zero => omega
  | succ N =>
   rw [yv, if_neg (by simp at hb ⊢; omega), hk]
   exact ⟨[], .refl _, .nil, rfl⟩
 | cons x R =>
  rw [List.length_cons] at hb hl'
  obtain ⟨M, m1, m2, m3⟩ := ins3 C (k := k) ha yz R [x] Z (a + 1) (b := b) (by omega) (by simp; omega) (by simp; omega) (by simp; omega) (List.pairwise_singleton ..)
  refine ⟨M, m1, m2, ?_⟩
  rw [show P ++ (x :: R ++ Z) = P ++ ([x] ++ (R ++ Z)) by simp, m3, hk]
/-! ### swapping and turning -/
theorem swap2 {k : List Cm → Option (List Cm)} {P S Mi : List Cm} {a b n : Int} (ha : a = P.length) : ∀ (m : Nat) (X1 X2 Y1 Y2 : List Cm) (i : Int), X2.length < m → X1.length = Y1.length → X2.length = Y2.length → i = X1.length → n = X1.length + X2.length → b = P.length + X1.length + X2.length + Mi.length → (P ++ (Y1 ++ (X2 ++ (Mi ++ (X1 ++ (Y2 ++ S)))))).length < 1152921504606846976 →
  yE n b a k m (P ++ (Y1 ++ (X2 ++ (Mi ++ (X1 ++ (Y2 ++ S)))))) i = k (P ++ (Y1 ++ Y2 ++ (Mi ++ (X1 ++ X2 ++ S))))
 | 0, _, _, _, _, _, h0, _, _, _, _, _, _ => by omega
 | m + 1, X1, [], Y1, [], i, h0, h1, h2, h3, h4, h5, hl => by
  rw [yE, if_neg (by simp at h4 ⊢; omega)]; simp
 | m + 1, X1, x :: X2, Y1, y :: Y2, i, h0, h1, h2, h3, h4, h5, hl => by
  have hl' := hl
  simp only [List.length_append, List.length_cons] at hl' h0 h2 h4 h5
  rw [yE, if_pos (decide_eq_true (by omega)), yn (x := b + i) (by omega), yn (x := a + i) (by omega), yn (x := i + 1) (by omega)]
  have e1 : P ++ (Y1 ++ (x :: X2 ++ (Mi ++ (X1 ++ (y :: Y2 ++ S))))) = (P ++ Y1) ++ x :: (X2 ++ (Mi ++ (X1 ++ (y :: Y2 ++ S)))) := by simp
  have e2 : P ++ (Y1 ++ (x :: X2 ++ (Mi ++ (X1 ++ (y :: Y2 ++ S))))) = (P ++ Y1 ++ x :: X2 ++ Mi ++ X1) ++ y :: (Y2 ++ S) := by simp
  have q1 : (0 : Int) ≤ b + i ∧ b + i < (((P ++ (Y1 ++ (x :: X2 ++ (Mi ++ (X1 ++ (y :: Y2 ++ S)))))).length : Nat) : Int) := by simp; omega
  have q2 : (0 : Int) ≤ a + i ∧ a + i < (((P ++ (Y1 ++ (x :: X2 ++ (Mi ++ (X1 ++ (y :: Y2 ++ S)))))).length : Nat) : Int) := by simp; omega
  have n1 : nth (P ++ (Y1 ++ (x :: X2 ++ (Mi ++ (X1 ++ (y :: Y2 ++ S)))))) (b + i) = y := by rw [e2, y4Y (by simp; omega)]
  have n2 : nth (P ++ (Y1 ++ (x :: X2 ++ (Mi ++ (X1 ++ (y :: Y2 ++ S)))))) (a + i) = x := by rw [e1, y4Y (by simp; omega)]
  rw [yo q1, yo q2, yo (by rw [List.length_set]; exact q1), n1, n2]
  simp only [y7H]
  have s1 : (P ++ (Y1 ++ (x :: X2 ++ (Mi ++ (X1 ++ (y :: Y2 ++ S)))))).set (a + i).toNat y = (P ++ Y1 ++ y :: X2 ++ Mi ++ X1) ++ y :: (Y2 ++ S) := by
   rw [e1, y4Z (by simp; omega)]; simp
  have s2 : ((P ++ Y1 ++ y :: X2 ++ Mi ++ X1) ++ y :: (Y2 ++ S)).set (b + i).toNat x = P ++ (Y1 ++ [y] ++ (X2 ++ (Mi ++ (X1 ++ [x] ++ (Y2 ++ S))))) := by
   rw [y4Z (by simp; omega)]; simp
  rw [s1, s2, swap2 ha m (X1 ++ [x]) X2 (Y1 ++ [y]) Y2 (i + 1) (by omega) (by simp; omega) (by omega) (by simp; omega) (by simp; omega) (by simp; omega) (by simp; omega)]
  simp
theorem y7p {P X Mi Y S : List Cm} {a b n : Int} (ha : a = P.length) (hb : b = P.length + X.length + Mi.length) (hn : n = X.length) (hxy : X.length = Y.length) (hl : (P ++ (X ++ (Mi ++ (Y ++ S)))).length < 1152921504606846976) :
  yW (P ++ (X ++ (Mi ++ (Y ++ S)))) a b n f = some (P ++ (Y ++ (Mi ++ (X ++ S)))) := by
 unfold yW
 refine y1E (P := fun o => o = some (P ++ (Y ++ (Mi ++ (X ++ S))))) fun k hk => ?_
 have hF := y1s
 have hl' := hl
 simp only [List.length_append] at hl'
 have := swap2 (k := k) (P := P) (S := S) (Mi := Mi) (b := b) (n := n) ha yz [] X [] Y 0 (by omega) rfl hxy rfl (by simp; omega) (by simp; omega) (by simpa using hl')
 simp only [List.nil_append] at this
 rw [this, hk]
theorem rot2 {m : Int} {K : List Cm → Int → Option (List Cm)} {r : Option (List Cm)} (hK : ∀ (P U V S : List Cm), U.length = V.length → m = P.length + U.length → (P ++ (U ++ (V ++ S))).length < 1152921504606846976 → K (P ++ (U ++ (V ++ S))) U.length = some (P ++ (V ++ (U ++ S)))) :
  ∀ (n : Nat) (P U V S : List Cm) (i j : Int), U.length + V.length < n → 0 < U.length → 0 < V.length → i = U.length → j = V.length → m = P.length + U.length → (P ++ (U ++ (V ++ S))).length < 1152921504606846976 →
  yM m f K n (P ++ (U ++ (V ++ S))) i j = some (P ++ (V ++ (U ++ S)))
 | 0, _, _, _, _, _, _, h0, _, _, _, _, _, _ => by omega
 | n + 1, P, U, V, S, i, j, h0, hu, hv, hi, hj, hm, hl => by
  have hl' := hl
  simp only [List.length_append] at hl'
  rw [yM]
  by_cases h : i ≠ j
  ·rw [if_pos (decide_eq_true h)]
   by_cases h2 : i > j
   ·rw [if_pos (decide_eq_true h2), yn (x := m - i) (by omega), yn (x := i - j) (by omega)]
    have hU : U = U.take V.length ++ U.drop V.length := (List.take_append_drop _ _).symm
    have l1 : (U.take V.length).length = V.length := by rw [List.length_take]; omega
    have l2 : (U.drop V.length).length = U.length - V.length := List.length_drop
    generalize U.take V.length = U1 at hU l1
    generalize U.drop V.length = U2 at hU l2
    subst hU
    rw [List.length_append] at hm hi hl' h0
    rw [show P ++ (U1 ++ U2 ++ (V ++ S)) = P ++ (U1 ++ (U2 ++ (V ++ S))) by simp, y7p (by omega) (by omega) (by omega) l1 (by simp; omega)]
    simp only [Option.bind_some]
    have := rot2 (r := r) hK n (P ++ V) U2 U1 S (i - j) j (by omega) (by omega) (by omega) (by omega) (by omega) (by simp; omega) (by simp; omega)
    rw [show P ++ (V ++ (U2 ++ (U1 ++ S))) = P ++ V ++ (U2 ++ (U1 ++ S)) by simp, this]
    simp
   ·rw [if_neg (by simpa using h2), yn (x := m - i) (by omega), yn (x := m + j) (by omega), yn (x := m + j - i) (by omega), yn (x := j - i) (by omega)]
    have hV : V = V.take (V.length - U.length) ++ V.drop (V.length - U.length) := (List.take_append_drop _ _).symm
    have l1 : (V.take (V.length - U.length)).length = V.length - U.length := by rw [List.length_take]; omega
    have l2 : (V.drop (V.length - U.length)).length = U.length := by rw [List.length_drop]; omega
    generalize V.take (V.length - U.length) = V1 at hV l1
    generalize V.drop (V.length - U.length) = V2 at hV l2
    subst hV
    rw [List.length_append] at hj hl' h0
    rw [show P ++ (U ++ (V1 ++ V2 ++ S)) = P ++ (U ++ (V1 ++ (V2 ++ S))) by simp, y7p (by omega) (by omega) (by omega) l2.symm (by simp; omega)]
    simp only [Option.bind_some]
    have := rot2 (r := r) hK n P V2 V1 (U ++ S) i (j - i) (by omega) (by omega) (by omega) (by omega) (by omega) (by omega) (by simp; omega)
    rw [this]
    simp
  ·rw [if_neg (by simpa using h)]
   rw [hi]
   exact hK P U V S (by omega) hm hl
theorem rot_eq {P U V S : List Cm} {a m b : Int} (ha : a = P.length) (hm : m = P.length + U.length) (hb : b = P.length + U.length + V.length) (hu : 0 < U.length) (hv : 0 < V.length) (hl : (P ++ (U ++ (V ++ S))).length < 1152921504606846976) :
  y1w (P ++ (U ++ (V ++ S))) a m b f = some (P ++ (V ++ (U ++ S))) := by
 unfold y1w
 refine y4l (P := fun o => o = some (P ++ (V ++ (U ++ S)))) fun k hk => ?_
 have hF := y1s
 have hl' := hl
 simp only [List.length_append] at hl'
 rw [yn (x := m - a) (by omega), yn (x := b - m) (by omega)]
 refine rot2 (r := none) ?_ yz P U V S (m - a) (b - m) (by omega) hu hv (by omega) (by omega) hm hl
 intro P U V S h1 h2 h3
 have h3' := h3
 simp only [List.length_append] at h3'
 rw [hk, yn (by omega)]
 have := y7p (f := f) (P := P) (X := U) (Mi := []) (Y := V) (S := S) (a := m - U.length) (b := m) (n := U.length) (by omega) (by simp; omega) rfl h1 (by simpa using h3')
 simp only [List.nil_append] at this
 rw [this]; rfl
end
end Go.Proofs.Ytinchjigeakocaa
