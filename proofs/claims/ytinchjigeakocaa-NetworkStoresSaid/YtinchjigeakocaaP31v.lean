/- A part of this claim's proof: models of functions, walks, plain laws. No conditions. -/
import Derived.Test.YtinchjigeakocaaP31u
namespace Go.Proofs.Ytinchjigeakocaa
open Go Go.RowKit Sep
set_option linter.all false
section
variable {f : Cm → Cm → Option Int} {lt : Cm → Cm → Prop}
inductive Blk (lt : Cm → Cm → Prop) (w : Nat) : List Cm → Prop
 | last {l} : Srt lt l → l.length ≤ w → Blk lt w l
 | cons {A R} : Srt lt A → A.length = w → Blk lt w R → Blk lt w (A ++ R)
theorem Blk.sorted {w : Nat} {l : List Cm} (h : Blk lt w l) (hw : 0 < w) (hl : l.length ≤ w) : Srt lt l := by
 cases h with
 | last h _ => exact h
 | cons h h2 h3 =>
  rw [List.length_append] at hl
  rename_i A R
  rw [List.eq_nil_of_length_eq_zero (l := R) (by omega), List.append_nil]; exact h
theorem Blk.split {w : Nat} {l : List Cm} (h : Blk lt w l) (hl : w < l.length) : ∃ A R, l = A ++ R ∧ A.length = w ∧ Srt lt A ∧ Blk lt w R := by
 cases h with
 | last h h2 => omega
 | cons h h2 h3 => exact ⟨_, _, rfl, h2, h, h3⟩
theorem y9y (C : Cmp f lt) {P A B S : List Cm} {a m b : Int} (hA : 0 < A.length) (hB : 0 < B.length) (sA : Srt lt A) (sB : Srt lt B) (ha : a = P.length) (hm : m = P.length + A.length) (hb : b = P.length + A.length + B.length) (hl : (P ++ (A ++ (B ++ S))).length < 1152921504606846976) :
  ∃ M, M.Perm (A ++ B) ∧ Srt lt M ∧ y1k (P ++ (A ++ (B ++ S))) a m b f = some (P ++ (M ++ S)) := by
 have hl' := hl
 simp only [List.length_append] at hl'
 unfold y1k
 exact y8X C yz P A B S a m b (by rw [y1s]; omega) hA hB sA sB ha hm hb hl
theorem st4 (C : Cmp f lt) {N : Int} {K : List Cm → Int → Option (List Cm)} : ∀ (n : Nat) (P R : List Cm) (a b : Int), R.length < n → a = P.length → b = P.length + 20 → N = P.length + R.length → N < 1152921504606846976 →
  ∃ Q T, (Q ++ T).Perm R ∧ T.length < 20 ∧ (∀ T', Srt lt T' → T'.length = T.length → Blk lt 20 (Q ++ T')) ∧ yN N f K n (P ++ R) a b = K (P ++ Q ++ T) ((P.length : Int) + Q.length)
 | 0, P, R, a, b, h0, ha, hb, hN, hl => by omega
 | n + 1, P, R, a, b, h0, ha, hb, hN, hl => by
  rw [yN]
  by_cases h : b ≤ N
  ·rw [if_pos (decide_eq_true h)]
   have hR : R = R.take 20 ++ R.drop 20 := (List.take_append_drop _ _).symm
   have l1 : (R.take 20).length = 20 := by rw [List.length_take]; omega
   generalize R.take 20 = R1 at *
   generalize R.drop 20 = R2 at *
   subst hR
   rw [List.length_append] at h0 hN
   obtain ⟨M, m1, m2, m3⟩ := ins_eq C (P := P) (R := R1) (Z := R2) (a := a) (b := b) ha (by omega) (by simp; omega)
   have ml := m1.length_eq
   rw [m3]
   simp only [Option.bind_some]
   obtain ⟨Q, T, q1, q2, q3, q4⟩ := st4 C (N := N) (K := K) n (P ++ M) R2 b (b + 20) (by omega) (by simp; omega) (by simp; omega) (by simp; omega) hl
   refine ⟨M ++ Q, T, ?_, q2, fun T' h1 h2 => ?_, ?_⟩
   ·rw [List.append_assoc]; exact m1.append q1
   ·rw [List.append_assoc]; exact .cons m2 (by omega) (q3 T' h1 h2)
   ·rw [yn (x := b + 20) (by omega), show P ++ (M ++ R2) = P ++ M ++ R2 by simp, q4]
    congr 1
    ·simp
    ·simp; omega
  ·rw [if_neg (by simpa using h)]
   exact ⟨[], R, by simp, by omega, fun T' h1 h2 => .last h1 (by simp; omega), by simp [ha]⟩
theorem st6 (C : Cmp f lt) {N w : Int} {W : Nat} (hw : w = W) (hW : 0 < W) (hwN : w < N) {K : List Cm → Int → Option (List Cm)} : ∀ (n : Nat) (P R : List Cm) (a b : Int), R.length < n → a = P.length → b = P.length + 2 * w → N = P.length + R.length → N < 1152921504606846976 → Blk lt W R →
  ∃ Q T, (Q ++ T).Perm R ∧ T.length < 2 * W ∧ Blk lt W T ∧ (∀ T', Srt lt T' → T'.length = T.length → Blk lt (2 * W) (Q ++ T')) ∧ yX N w f K n (P ++ R) a b = K (P ++ Q ++ T) ((P.length : Int) + Q.length)
 | 0, P, R, a, b, h0, ha, hb, hN, hl, hB => by omega
 | n + 1, P, R, a, b, h0, ha, hb, hN, hl, hB => by
  rw [yX]
  by_cases h : b ≤ N
  ·rw [if_pos (decide_eq_true h)]
   obtain ⟨A, R', rfl, lA, sA, hB'⟩ := hB.split (by omega)
   rw [List.length_append] at h0 hN
   -- the second block
   obtain ⟨B, R2, rfl, lB, sB, hB2⟩ : ∃ B R2, R' = B ++ R2 ∧ B.length = W ∧ Srt lt B ∧ Blk lt W R2 := by
    by_cases hlt : W < R'.length
    ·exact hB'.split hlt
    ·exact ⟨R', [], by simp, by omega, hB'.sorted hW (by omega), .last .nil (by simp)⟩
   rw [List.length_append] at h0 hN
   obtain ⟨M, m1, m2, m3⟩ := y9y C (P := P) (A := A) (B := B) (S := R2) (a := a) (m := a + w) (b := b) (by omega) (by omega) sA sB ha (by omega) (by omega) (by simp; omega)
   have ml := m1.length_eq
   rw [List.length_append] at ml
   rw [yn (x := a + w) (by omega), show P ++ (A ++ (B ++ R2)) = P ++ (A ++ (B ++ R2)) from rfl, m3]
   simp only [Option.bind_some]
   obtain ⟨Q, T, q1, q2, q3, q4, q5⟩ := st6 C hw hW hwN (K := K) n (P ++ M) R2 b (b + 2 * w) (by omega) (by simp; omega) (by simp; omega) (by simp; omega) hl hB2
   refine ⟨M ++ Q, T, ?_, q2, q3, fun T' h1 h2 => ?_, ?_⟩
   ·rw [List.append_assoc, ← List.append_assoc A]; exact m1.append q1
   ·rw [List.append_assoc]; exact .cons m2 (by omega) (q4 T' h1 h2)
   ·rw [yn (x := 2 * w) (by omega), yn (x := b + 2 * w) (by omega), show P ++ (M ++ R2) = P ++ M ++ R2 by simp, q5]
    congr 1
    ·simp
    ·simp; omega
  ·rw [if_neg (by simpa using h)]
   exact ⟨[], R, by simp, by omega, hB, fun T' h1 h2 => .last h1 (by simp; omega), by simp [ha]⟩
theorem st5 (C : Cmp f lt) {N : Int} {K : List Cm → Option (List Cm)} (hN : N < 1152921504606846976) : ∀ (n : Nat) (R : List Cm) (w : Int) (W : Nat), (N < n + w ∧ 0 < n) → 0 < W → w = W → w ≤ 2 * N + 20 → N = R.length → Blk lt W R →
  ∃ R', R'.Perm R ∧ Srt lt R' ∧ yO N f K n R w = K R'
 | 0, R, w, W, h0, hW, hw, hw2, hl, hB => by omega
 | n + 1, R, w, W, h0, hW, hw, hw2, hl, hB => by
  rw [yO]
  by_cases h : w < N
  ·rw [if_pos (decide_eq_true h)]
   refine y1E (P := fun o => ∃ R', R'.Perm R ∧ Srt lt R' ∧ o = K R') fun k1 hk1 => ?_
   refine y4l (P := fun o => ∃ R', R'.Perm R ∧ Srt lt R' ∧ o = K R') fun k2 hk2 => ?_
   have hF := y1s
   generalize hFU : yz = FU at hF hk2 ⊢
   obtain ⟨Q, T, q1, q2, q3, q4, q5⟩ := st6 C hw hW h (K := k2) FU [] R 0 (2 * w) (by omega) (by simp) (by simp) (by simp; omega) hN hB
   have ql := q1.length_eq
   rw [List.length_append] at ql
   simp only [List.nil_append, List.length_nil, Int.ofNat_zero, Int.zero_add] at q5
   rw [yn (x := 2 * w) (by omega), q5, hk2]
   refine y1E (P := fun o => ∃ R', R'.Perm R ∧ Srt lt R' ∧ o = K R') fun k3 hk3 => ?_
   have fin : ∀ T', T'.Perm T → Srt lt T' → ∃ R', R'.Perm R ∧ Srt lt R' ∧ k3 (Q ++ T') = K R' := by
    intro T' t1 t2
    have tl := t1.length_eq
    rw [hk3, hk1, yn (x := w * 2) (by omega)]
    obtain ⟨R', r1, r2, r3⟩ := st5 C (K := K) hN n (Q ++ T') (w * 2) (2 * W) (by omega) (by omega) (by omega) (by omega) (by simp; omega) (q4 T' t2 tl)
    exact ⟨R', r1.trans ((t1.append_left Q).trans q1), r2, r3⟩
   rw [yn (x := (Q.length : Int) + w) (by omega)]
   by_cases h3 : (Q.length : Int) + w < N
   ·rw [if_pos (decide_eq_true h3)]
    obtain ⟨A, B, rfl, lA, sA, hB'⟩ := q3.split (by omega)
    rw [List.length_append] at ql q2
    have sB := hB'.sorted hW (by omega)
    obtain ⟨M, m1, m2, m3⟩ := y9y C (P := Q) (A := A) (B := B) (S := []) (a := Q.length) (m := Q.length + w) (b := N) (by omega) (by omega) sA sB rfl (by omega) (by omega) (by simp; omega)
    simp only [List.append_nil] at m3
    rw [m3]
    exact fin M m1 m2
   ·rw [if_neg (by simpa using h3)]
    exact fin T (.refl _) (q3.sorted hW (by omega))
  ·rw [if_neg (by simpa using h)]
   exact ⟨R, .refl _, hB.sorted hW (by omega), rfl⟩
theorem y9V (C : Cmp f lt) {R : List Cm} (hl : R.length < 1152921504606846976) :
  ∃ R', R'.Perm R ∧ Srt lt R' ∧ y16 R f = some R' := by
 unfold y16 y1T
 have hF := y1s
 generalize hFU : yz = FU at hF ⊢
 suffices h : ∃ R', R'.Perm R ∧ Srt lt R' ∧ (jp2 (fun (z42 : List Sapi_Come) (z6F : Int) => (yP z42 z6F R.length f).bind fun zbt => jp1 (fun (z51 : List Sapi_Come) => some z51) fun z5k => yO R.length f z5k FU zbt 20) fun z5j => yN R.length f z5j FU R 0 20) = some R' by
  obtain ⟨R', h1, h2, h3⟩ := h
  refine ⟨R', h1, h2, ?_⟩
  rw [h3]; rfl
 refine y4l (P := fun o => ∃ R', R'.Perm R ∧ Srt lt R' ∧ o = some R') fun k1 hk1 => ?_
 obtain ⟨Q, T, q1, q2, q3, q4⟩ := st4 C (N := R.length) (K := k1) FU [] R 0 20 (by omega) (by simp) (by simp) (by simp) (by omega)
 have ql := q1.length_eq
 rw [List.length_append] at ql
 simp only [List.nil_append, List.length_nil, Int.ofNat_zero, Int.zero_add] at q4
 rw [q4, hk1]
 obtain ⟨M, m1, m2, m3⟩ := ins_eq C (P := Q) (R := T) (Z := []) (a := (Q.length : Int)) (b := R.length) (by simp) (by omega) (by simp; omega)
 have ml := m1.length_eq
 simp only [List.append_nil] at m3
 rw [m3]
 simp only [Option.bind_some]
 refine y1E (P := fun o => ∃ R', R'.Perm R ∧ Srt lt R' ∧ o = some R') fun k2 hk2 => ?_
 obtain ⟨R', r1, r2, r3⟩ := st5 C (N := R.length) (K := k2) (by omega) FU (Q ++ M) 20 20 (by omega) (by omega) rfl (by omega) (by simp; omega) (q3 M m2 ml)
 exact ⟨R', r1.trans ((m1.append_left Q).trans q1), r2, by rw [r3, hk2]⟩
end
/-! ### the order of arrivals -/
def clt (a b : Cm) : Prop := a.fTime < b.fTime ∨ a.fTime = b.fTime ∧ (a.fSent < b.fSent ∨ a.fSent = b.fSent ∧ a.fNode < b.fNode)
instance (a b : Cm) : Decidable (clt a b) := inferInstanceAs (Decidable (_ ∨ _))
theorem clt_cmp : Cmp (fun y0 y1 => y2s y0 y1) clt where
 eq x y := by
  unfold y2s
  simp only [y7D, Option.bind_some]
  rw [or_eq (by simp)]
  refine ⟨_, rfl, ?_⟩
  unfold orI orI orI orI cmpI clt
  repeat' split
  repeat' split
  all_goals omega
 asym x y := by unfold clt; omega
 tr x y z := by unfold clt; omega
theorem clt_anti {x y : Cm} (h : ¬ clt x y) (k : ¬ clt y x) : x = y := by
 unfold clt at h k
 cases x; cases y
 simp only at h k
 simp only [Sapi_Come.mk.injEq]
 omega
theorem y9H : ∀ {l r : List Cm}, Srt clt l → Srt clt r → l.Perm r → l = r := by
 intro l r h1 h2 hp
 exact hp.eq_of_pairwise (fun a b _ _ h3 h4 => clt_anti h4 h3) h1 h2
theorem y8p {l : List Cm} (hl : l.length < 1152921504606846976) : ∃ l', l'.Perm l ∧ Srt clt l' ∧ y1f l = some l' := by
 obtain ⟨R, h1, h2, h3⟩ := y9V clt_cmp hl
 refine ⟨R, h1, h2, ?_⟩
 unfold y1f
 rw [h3]; rfl
end Go.Proofs.Ytinchjigeakocaa
