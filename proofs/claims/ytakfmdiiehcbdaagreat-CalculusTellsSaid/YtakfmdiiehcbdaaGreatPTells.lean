/- A part of this claim's proof: models of functions, walks, plain laws. No conditions. -/
import Derived.Test.YtakfmdiiehcbdaaGreatPTb
import Derived.Test.YtakfmdiiehcbdaaGreatPZw
namespace Go.Proofs.YtakfmdiiehcbdaaGreat
open Go Go.RowKit Sep
set_option linter.all false
/-! ### the reference's check -/
theorem rck4 {l : List (List B)} {k : Option (List R × Int)} (hl : l.length ≤ 1000) : ∀ (n : Nat) (i : Int), 0 ≤ i → i ≤ l.length → l.length < n + i →
  y2R l k n i = if (l.drop i.toNat).all VC then k else some ([], 2)
 | 0, i, h0, h1, h2 => by omega
 | n + 1, i, h0, h1, h2 => by
  rw [y2R]
  by_cases h : i < l.length
  ·rw [if_pos (decide_eq_true h), ym ⟨h0, h⟩, y7l, Option.bind_some, y1n h0 h, List.all_cons]
   cases hc : VC (nth l i) with
   | false => rw [if_pos (by rfl), if_neg (by simp)]
   | true => rw [if_neg (by simp), yq (by omega), rck4 hl n (i + 1) (by omega) (by omega) (by omega), Bool.true_and]
  ·rw [if_neg (by simpa using h), y1y h]; rfl
def y5l (l : List (List B)) : List R := l.flatMap fun c => y3R (BRK c).1
theorem rck5 {l : List (List B)} {k : List R → Bool → Int → Int → Option (List R × Int)} (hv : ∀ c ∈ l, VC c = true) (hl : l.length ≤ 40) : ∀ (n : Nat) (i : Int) (o : List R) (a : R × Int) (c1 c2 : Int), 0 ≤ i → i ≤ l.length → l.length < n + i → (o.length : Int) ≤ 1 + 2200 * i →
  (a.2 = 0 ∧ V a.1 = true ∧ c1 = a.1.fN ∧ c2 = a.1.fD ∨ a = (Z1, 3)) →
  (∃ e, ckl (l.drop i.toNat) a = .inl e ∧ e ≠ 0 ∧ y2i l k n o (decide (a.2 ≠ 0)) i c1 c2 = some ([], e)) ∨
  (∃ r d1 d2, ckl (l.drop i.toNat) a = .inr r ∧ y2i l k n o (decide (a.2 ≠ 0)) i c1 c2 = k (o ++ y5l (l.drop i.toNat)) (decide (r.2 ≠ 0)) d1 d2 ∧ (r.2 = 0 ∧ d1 = r.1.fN ∧ d2 = r.1.fD ∨ r.2 = 3))
 | 0, i, o, a, c1, c2, h0, h1, h2, h3, h4 => by omega
 | n + 1, i, o, a, c1, c2, h0, h1, h2, h3, h4 => by
  rw [y2i]
  by_cases h : i < l.length
  ·have hc := hv _ (y1j h0 h)
   have hb := (y6W (nth l i)).2
   have hal := y9w (BRK (nth l i)).1
   rw [if_pos (decide_eq_true h), y1n h0 h, ckl]
   refine ybc (P := fun p => (∃ e, (if (BRK (nth l i)).2 ≠ 0 then _ else ckl (l.drop (i + 1).toNat) (CD a.2 (ADD a.1 (RTF (nth l i)).1))) = Sum.inl e ∧ e ≠ 0 ∧ p = some ([], e)) ∨ (∃ r d1 d2, (if (BRK (nth l i)).2 ≠ 0 then _ else ckl (l.drop (i + 1).toNat) (CD a.2 (ADD a.1 (RTF (nth l i)).1))) = Sum.inr r ∧ p = k (o ++ y5l (nth l i :: l.drop (i + 1).toNat)) (decide (r.2 ≠ 0)) d1 d2 ∧ (r.2 = 0 ∧ d1 = r.1.fN ∧ d2 = r.1.fD ∨ r.2 = 3))) fun kk hkk => ?_
   rw [ym ⟨h0, h⟩, yc9, (y6W _).1, Option.bind_some]
   by_cases hbe : (BRK (nth l i)).2 ≠ 0
   ·rw [if_pos hbe, if_pos (by simpa using hbe)]
    exact .inl ⟨_, rfl, hbe, rfl⟩
   ·rw [if_neg hbe, if_neg (by simpa using hbe), yau (by omega), Option.bind_some, ym (by simp; omega), ym ⟨h0, h⟩, rrate_eq, (rt_s hc).1, Option.bind_some]
    have hfl : ∀ r, y5l (nth l i :: r) = y3R (BRK (nth l i)).1 ++ y5l r := fun r => by unfold y5l; rw [List.flatMap_cons]
    rw [hfl]
    rcases h4 with ⟨e0, e1, e2, e3⟩ | e4
    ·rw [e0]
     simp only [ne_eq, not_true_eq_false, decide_false, Bool.not_false, if_true]
     rw [e2, e3]
     show (∃ e, ckl (l.drop (i + 1).toNat) (CD 0 (ADD a.1 (RTF (nth l i)).1)) = Sum.inl e ∧ e ≠ 0 ∧ ((yB 0 a.1 (RTF (nth l i)).1).bind _) = _) ∨ (∃ r d1 d2, ckl (l.drop (i + 1).toNat) (CD 0 (ADD a.1 (RTF (nth l i)).1)) = Sum.inr r ∧ ((yB 0 a.1 (RTF (nth l i)).1).bind _) = _ ∧ _)
     rw [(y6p _ _).2, Option.bind_some, hkk, yq (by omega), ← List.append_assoc]
     rcases ADD_ok e1 (rt_s hc).2 with ⟨g1, g2⟩ | g1
     ·have := rck5 (k := k) hv hl n (i + 1) (o ++ y3R (BRK (nth l i)).1) (ADD a.1 (RTF (nth l i)).1) _ _ (by omega) (by omega) (by omega) (by rw [List.length_append]; omega) (.inl ⟨g1, g2, rfl, rfl⟩)
      rw [y5T g1]; exact this
     ·have hne : (ADD a.1 (RTF (nth l i)).1).2 ≠ 0 := by omega
      have := rck5 (k := k) hv hl n (i + 1) (o ++ y3R (BRK (nth l i)).1) (Z1, 3) (ADD a.1 (RTF (nth l i)).1).1.fN (ADD a.1 (RTF (nth l i)).1).1.fD (by omega) (by omega) (by omega) (by rw [List.length_append]; omega) (.inr rfl)
      rw [y6C hne, g1]; exact this
    ·rw [e4]
     have := rck5 (k := k) hv hl n (i + 1) (o ++ y3R (BRK (nth l i)).1) (Z1, 3) c1 c2 (by omega) (by omega) (by omega) (by rw [List.length_append]; omega) (.inr rfl)
     rw [y56 (by decide), if_neg (by decide), hkk, yq (by omega), ← List.append_assoc]
     exact this
  ·rw [if_neg (by simpa using h), y1y h]
   refine .inr ⟨a, c1, c2, rfl, by simp [y5l], ?_⟩
   rcases h4 with ⟨e0, _, e2, e3⟩ | e4
   ·exact .inl ⟨e0, e2, e3⟩
   ·rw [e4]; exact .inr rfl
theorem yaw {l : List (List B)} {s : SV} (hl : l.length ≤ 40) : y4b l s = some (if CKF l s = 0 then (Z1 :: y5l l, 0) else ([], CKF l s)) := by
 unfold y4b
 by_cases h1 : (((l.length : Nat) : Int) > 32)
 ·have hck : CKF l s = 2 := by unfold CKF; rw [if_pos (by simp; omega)]
  rw [hck, if_pos (decide_eq_true h1), Option.bind_some, if_pos rfl, if_neg (by decide)]
 ·rw [if_neg (by simpa using h1), y5k, Option.bind_some, Option.bind_some]
  cases hs : VS s with
  | false =>
   have hck : CKF l s = 2 := by unfold CKF; rw [if_pos (by simp [hs])]
   rw [hck, if_pos (by rfl), if_neg (by decide)]
  | true =>
   rw [if_neg (by simp)]
   refine y5R (P := fun o => o = _) fun k hk => ?_
   rw [rck4 (by omega) yu 0 (by omega) (by omega) (by rw [yU]; omega), show (0 : Int).toNat = 0 from rfl, List.drop_zero]
   by_cases h2 : l.all VC = true
   ·have hck : CKF l s = match ckl l (Z1, 0) with | .inl e => e | .inr r => if r.2 ≠ 0 then r.2 else if CM r.1 s.fR > 0 then 6 else 0 := by
     unfold CKF; rw [if_neg (by simp [h2, hs]; omega)]; rfl
    rw [if_pos h2, hk, hck]
    refine ybc (P := fun o => o = _) fun k4 hk4 => ?_
    have := rck5 (k := k4) (List.all_eq_true.1 h2) hl yu 0 [Z1] (Z1, 0) 0 1 (by omega) (by omega) (by rw [yU]; omega) (by simp) (.inl ⟨rfl, V_Z1, rfl, rfl⟩)
    rw [show (0 : Int).toNat = 0 from rfl, List.drop_zero] at this
    rcases this with ⟨e, q1, q2, q3⟩ | ⟨r, d1, d2, q1, q2, q3⟩
    ·rw [q1]
     simp only
     rw [if_neg q2]
     exact q3
    ·rw [q1]
     refine q2.trans ?_
     rw [hk4]
     simp only
     rcases q3 with ⟨g1, g2, g3⟩ | g1
     ·rw [g1, g2, g3]
      simp only [ne_eq, not_true_eq_false, decide_false, Bool.false_eq_true, if_false]
      show ((yE r.1 s.fR).bind _) = _
      rw [(y6J _ _).2, Option.bind_some]
      by_cases hc : CM r.1 s.fR > 0
      ·simp [hc]
      ·simp [hc]
     ·rw [g1]
      simp
   ·have h2' : l.all VC = false := by simpa using h2
    have hck : CKF l s = 2 := by unfold CKF; rw [if_pos (by simp [h2'])]
    rw [hck, if_neg h2, if_neg (by decide)]
/-! ### the greatest value -/
def rk (k : Int → Int → Option (R × Int)) (b : R) (r : List R × Int) : Option (R × Int) :=
 if r.2 ≠ 0 then some (⟨0, 0⟩, r.2) else match r.1 with | [] => k b.fN b.fD | x :: _ => k x.fN x.fD
theorem rk_b {k : Int → Int → Option (R × Int)} {b b' : R} {r : List R × Int} (h : r.1 ≠ []) : rk k b r = rk k b' r := by
 unfold rk
 cases hr : r.1 with
 | nil => exact absurd hr h
 | cons x t => rfl
theorem y6q {P : List R} {l : List (List B)} {s : SV} {k : Int → Int → Option (R × Int)} (hl : l.length ≤ 1000) (hs : VS s = true) (hP : P.length ≤ 1000000) : ∀ (n : Nat) (i : Int) (b : R) (st : List R), 0 ≤ i → i ≤ P.length → P.length < n + i → (st = [] ∧ i = 0 ∨ 0 < i ∧ st = [b]) →
  y2S (P, 0) l s k n i b.fN b.fD = rk k b ((P.drop i.toNat).foldl (stp (dv l s)) (st, 0))
 | 0, i, b, st, h0, h1, h2, h3 => by omega
 | n + 1, i, b, st, h0, h1, h2, h3 => by
  rw [y2S]
  by_cases h : i < P.length
  ·rw [if_pos (decide_eq_true h), y1n h0 h, List.foldl_cons]
   refine y3o (P := fun o => o = _) fun kk hkk => ?_
   obtain ⟨y, y1, y2, y3⟩ := yca (t := nth P i) hl hs
   rw [ym ⟨h0, h⟩]
   show ((y3E l s (nth P i)).bind _) = _
   rw [y1, Option.bind_some]
   by_cases hy : y.2 ≠ 0
   ·rw [if_pos (by simpa using hy)]
    have e : (stp (dv l s) (st, 0) (nth P i)).2 = y.2 := y2.symm
    unfold rk
    rw [yad (fun e t he => dv_err he) _ _ (by rw [e]; exact hy), e, if_pos hy]
   ·rw [if_neg (by simpa using hy)]
    have hy0 : y.2 = 0 := by simpa using hy
    have hy1 := y3 hy0
    rw [hy0] at y2
    rcases h3 with ⟨rfl, rfl⟩ | ⟨hi, rfl⟩
    ·have e : stp (dv l s) ([], 0) (nth P 0) = ([(dv l s 0 (nth P 0)).1], 0) := by unfold stp; rw [← y2]
     rw [if_pos (by simp), Option.bind_some, if_pos rfl, hkk, yq (by omega), hy1, y6q hl hs hP n (0 + 1) _ [(dv l s 0 (nth P 0)).1] (by omega) (by omega) (by omega) (.inr ⟨by omega, rfl⟩), e]
     exact rk_b (y6D _ _ (by simp))
    ·rw [if_neg (by simp; omega)]
     show ((((yE y.1 b).bind _)).bind _) = _
     rw [(y6J _ _).2, Option.bind_some, Option.bind_some, hy1]
     by_cases hc : CM (dv l s 0 (nth P i)).1 b > 0
     ·have e : stp (dv l s) ([b], 0) (nth P i) = ([(dv l s 0 (nth P i)).1], 0) := by unfold stp; simp only; rw [← y2, if_pos hc]
      rw [if_pos (decide_eq_true hc), hkk, yq (by omega), y6q hl hs hP n (i + 1) _ [(dv l s 0 (nth P i)).1] (by omega) (by omega) (by omega) (.inr ⟨by omega, rfl⟩), e]
      exact rk_b (y6D _ _ (by simp))
     ·have e : stp (dv l s) ([b], 0) (nth P i) = ([b], 0) := by unfold stp; simp only; rw [← y2, if_neg hc]
      rw [if_neg (by simpa using hc), hkk, yq (by omega), y6q hl hs hP n (i + 1) b [b] (by omega) (by omega) (by omega) (.inr ⟨by omega, rfl⟩), e]
  ·rw [if_neg (by simpa using h), y1y h]
   rcases h3 with ⟨rfl, rfl⟩ | ⟨hi, rfl⟩
   ·rfl
   ·rfl
theorem y5A {P : List R} {X : List R × Int} {Y : List R} {l : List (List B)} {s : SV} {k : Int → Int → Option (R × Int)} (hX : X.1 ++ Y = P) (hl : l.length ≤ 1000) (hs : VS s = true) (hP : P.length ≤ 1000000) : ∀ (n : Nat) (i : Int) (b : R) (st : List R), 0 ≤ i → i ≤ P.length → P.length < n + i → (st = [] ∧ i = 0 ∨ 0 < i ∧ st = [b]) →
  y2j X Y l s k n i b.fN b.fD = rk k b ((P.drop i.toNat).foldl (stp (bv l s)) (st, 0))
 | 0, i, b, st, h0, h1, h2, h3 => by omega
 | n + 1, i, b, st, h0, h1, h2, h3 => by
  rw [y2j]
  rw [hX]
  by_cases h : i < P.length
  ·rw [if_pos (decide_eq_true h), y1n h0 h, List.foldl_cons]
   refine y3o (P := fun o => o = _) fun kk hkk => ?_
   obtain ⟨y, y1, y2, y3⟩ := ybm (s := s) (t := nth P i) hl
   rw [ym ⟨h0, h⟩]
   show ((y3h l s (nth P i)).bind _) = _
   rw [y1, Option.bind_some]
   by_cases hy : y.2 ≠ 0
   ·rw [if_pos (by simpa using hy)]
    have e : (stp (bv l s) (st, 0) (nth P i)).2 = y.2 := y2.symm
    unfold rk
    rw [yad (fun e t he => bv_err he) _ _ (by rw [e]; exact hy), e, if_pos hy]
   ·rw [if_neg (by simpa using hy)]
    have hy0 : y.2 = 0 := by simpa using hy
    have hy1 := y3 hy0
    rw [hy0] at y2
    rcases h3 with ⟨rfl, rfl⟩ | ⟨hi, rfl⟩
    ·have e : stp (bv l s) ([], 0) (nth P 0) = ([(bv l s 0 (nth P 0)).1], 0) := by unfold stp; rw [← y2]
     rw [if_pos (by simp), Option.bind_some, if_pos rfl, hkk, yq (by omega), hy1, y5A hX hl hs hP n (0 + 1) _ [(bv l s 0 (nth P 0)).1] (by omega) (by omega) (by omega) (.inr ⟨by omega, rfl⟩), e]
     exact rk_b (y6D _ _ (by simp))
    ·rw [if_neg (by simp; omega)]
     show ((((yE y.1 b).bind _)).bind _) = _
     rw [(y6J _ _).2, Option.bind_some, Option.bind_some, hy1]
     by_cases hc : CM (bv l s 0 (nth P i)).1 b > 0
     ·have e : stp (bv l s) ([b], 0) (nth P i) = ([(bv l s 0 (nth P i)).1], 0) := by unfold stp; simp only; rw [← y2, if_pos hc]
      rw [if_pos (decide_eq_true hc), hkk, yq (by omega), y5A hX hl hs hP n (i + 1) _ [(bv l s 0 (nth P i)).1] (by omega) (by omega) (by omega) (.inr ⟨by omega, rfl⟩), e]
      exact rk_b (y6D _ _ (by simp))
     ·have e : stp (bv l s) ([b], 0) (nth P i) = ([b], 0) := by unfold stp; simp only; rw [← y2, if_neg hc]
      rw [if_neg (by simpa using hc), hkk, yq (by omega), y5A hX hl hs hP n (i + 1) b [b] (by omega) (by omega) (by omega) (.inr ⟨by omega, rfl⟩), e]
  ·rw [if_neg (by simpa using h), y1y h]
   rcases h3 with ⟨rfl, rfl⟩ | ⟨hi, rfl⟩
   ·rfl
   ·rfl
theorem y9X {f : Int → R → R × Int} {P : List R} (hP : P ≠ []) {k : Int → Int → Option (R × Int)} (hk : ∀ x y, k x y = some (⟨x, y⟩, 0)) : rk k ⟨0, 0⟩ (P.foldl (stp f) ([], 0)) = some (mxv f P) := by
 unfold rk mxv
 by_cases h : (P.foldl (stp f) ([], 0)).2 ≠ 0
 ·rw [if_pos h]; simp only; rw [if_pos h]
 ·rw [if_neg h]; simp only; rw [if_neg h]
  cases P with
  | nil => exact absurd rfl hP
  | cons p P =>
   have hne : ((p :: P).foldl (stp f) ([], 0)).1 ≠ [] := by
    rw [List.foldl_cons]; exact y6D _ _ (by simp [stp])
   cases hr : ((p :: P).foldl (stp f) ([], 0)).1 with
   | nil => exact absurd hr hne
   | cons x t => simp only; rw [hk]; rfl
theorem yax (l : List (List B)) : (y5l l).length ≤ 2200 * l.length := y4W l
theorem yay {l : List (List B)} {s : SV} (hl : l.length ≤ 40) : y3I l s = some (if CKF l s = 0 then mxv (dv l s) (PTS l []) else (⟨0, 0⟩, CKF l s)) := by
 unfold y3I
 rw [yaw hl, Option.bind_some]
 by_cases h : CKF l s = 0
 ·rw [if_pos h, if_pos h, if_neg (by simp)]
  refine y3o (P := fun o => o = _) fun k hk => ?_
  have hs : VS s = true := y9W h
  have hlen := yax l
  have := y6q (P := Z1 :: y5l l) (l := l) (k := k) (by omega) hs (by simp; omega) yu 0 ⟨0, 0⟩ [] (by omega) (by omega) (by rw [yU]; simp; omega) (.inl ⟨rfl, rfl⟩)
  refine this.trans ?_
  rw [show (0 : Int).toNat = 0 from rfl, List.drop_zero, y9X (by simp) hk]
  have : PTS l [] = Z1 :: y5l l := by unfold PTS y5l y3R; simp
  rw [this]
 ·rw [if_neg h, if_neg h, if_pos (by simpa using h)]
theorem y9d {l : List (List B)} {s : SV} (hl : l.length ≤ 40) : y3F l s = some (if CKF l s = 0 then mxv (bv l s) (PTS l [s.fL]) else (⟨0, 0⟩, CKF l s)) := by
 unfold y3F
 rw [yaw hl, Option.bind_some]
 by_cases h : CKF l s = 0
 ·have hlen := yax l
  have hal := y9w [s.fL]
  rw [if_pos h, if_pos h, if_neg (by simp), yau (by simp), Option.bind_some, ym (by simp at hal ⊢; omega)]
  refine y3o (P := fun o => o = _) fun k hk => ?_
  have hs : VS s = true := y9W h
  have hpt : PTS l [s.fL] = (Z1 :: y5l l) ++ y3R [s.fL] := rfl
  have := y5A (P := PTS l [s.fL]) (X := (Z1 :: y5l l, 0)) (Y := y3R [s.fL]) (l := l) (k := k) hpt.symm (by omega) hs (by rw [hpt]; simp at hal ⊢; omega) yu 0 ⟨0, 0⟩ [] (by omega) (by omega) (by rw [yU, hpt]; simp at hal ⊢; omega) (.inl ⟨rfl, rfl⟩)
  refine this.trans ?_
  rw [show (0 : Int).toNat = 0 from rfl, List.drop_zero, y9X (by simp [PTS]) hk]
 ·rw [if_neg h, if_neg h, if_pos (by simpa using h)]
/-! ### the code's search -/
theorem R4_eq {l : List (List B)} {s : SV} (hl : l.length ≤ 1000) (hs : VS s = true) (p : R) (st : List R × Int) : chk ((0 : Nat) = 0) (y1S l s p st.1 st.2) = some (true, (0, stp (dv l s) st p)) := by
 rw [ym rfl]
 unfold y1S
 rw [ycA hl hs, Option.bind_some]
 unfold stp
 cases hst : st.1 with
 | nil => rw [if_pos (by simp), Option.bind_some, if_pos rfl]
 | cons x r =>
  rw [if_neg (by simp; omega), ym (by simp)]
  have hn : (⟨(nth (x :: r) 0).fN, (nth (x :: r) 0).fD⟩ : R) = x := rfl
  rw [hn, (y6J _ _).1, Option.bind_some, Option.bind_some]
  simp only
  by_cases hc : CM (dv l s st.2 p).1 x > 0
  ·rw [if_pos (decide_eq_true hc), if_pos hc]
  ·rw [if_neg (by simpa using hc), if_neg hc]
theorem max_eq {l : List (List B)} {s : SV} {more : List R} (hl : l.length ≤ 40) (hm : more.length ≤ 1000) : y2Y l s l s more = some (if CKF l s = 0 then mxv (dv l s) (PTS l more) else (⟨0, 0⟩, CKF l s)) := by
 unfold y2Y
 rw [check_eq hl, Option.bind_some]
 by_cases h : CKF l s = 0
 ·have hs : VS s = true := y9W h
  rw [if_pos h, if_neg (by simpa using h)]
  refine y3o (P := fun o => o = _) fun k hk => ?_
  unfold y39
  rw [Option.bind_some, ycB (f := dv l s) (fun p st => R4_eq (by omega) hs p st) (by omega) (by omega), Option.bind_some, hk]
  have := y9X (f := dv l s) (P := PTS l more) (k := fun x y => some (⟨x, y⟩, 0)) (by simp [PTS]) (fun _ _ => rfl)
  rw [← this]
  unfold rk
  generalize hr : (PTS l more).foldl (stp (dv l s)) ([], 0) = r
  have hne : r.1 ≠ [] := by
   rw [← hr]; unfold PTS; rw [List.foldl_cons]; exact y6D _ _ (by simp [stp])
  simp only
  by_cases h2 : r.2 ≠ 0
  ·rw [if_pos (by simpa using h2), if_pos h2]
  ·rw [if_neg (by simpa using h2), if_neg h2]
   cases hr1 : r.1 with
   | nil => exact absurd hr1 hne
   | cons x t => rw [ym (by simp)]; rfl
 ·rw [if_neg h, if_pos (by simpa using h)]
theorem R4b_eq {l : List (List B)} {s : SV} (hl : l.length ≤ 1000) (hs : VS s = true) (p : R) (st : List R × Int) : chk ((0 : Nat) = 0) (y1Q l s p st.1 st.2) = some (true, (0, stp (bv l s) st p)) := by
 rw [ym rfl]
 unfold y1Q
 rw [ybx hl, Option.bind_some]
 unfold stp
 cases hst : st.1 with
 | nil => rw [if_pos (by simp), Option.bind_some, if_pos rfl]
 | cons x r =>
  rw [if_neg (by simp; omega), ym (by simp)]
  have hn : (⟨(nth (x :: r) 0).fN, (nth (x :: r) 0).fD⟩ : R) = x := rfl
  rw [hn, (y6J _ _).1, Option.bind_some, Option.bind_some]
  simp only
  by_cases hc : CM (bv l s st.2 p).1 x > 0
  ·rw [if_pos (decide_eq_true hc), if_pos hc]
  ·rw [if_neg (by simpa using hc), if_neg hc]
theorem maxb_eq {l : List (List B)} {s : SV} {more : List R} (hl : l.length ≤ 40) (hm : more.length ≤ 1000) : y2D l s l s more = some (if CKF l s = 0 then mxv (bv l s) (PTS l more) else (⟨0, 0⟩, CKF l s)) := by
 unfold y2D
 rw [ycC hl, Option.bind_some]
 by_cases h : CKF l s = 0
 ·have hs : VS s = true := y9W h
  rw [if_pos h, if_neg (by simpa using h)]
  refine y3o (P := fun o => o = _) fun k hk => ?_
  unfold y32
  rw [Option.bind_some, ycb (f := bv l s) (fun p st => R4b_eq (by omega) hs p st) (by omega) (by omega), Option.bind_some, hk]
  have := y9X (f := bv l s) (P := PTS l more) (k := fun x y => some (⟨x, y⟩, 0)) (by simp [PTS]) (fun _ _ => rfl)
  rw [← this]
  unfold rk
  generalize hr : (PTS l more).foldl (stp (bv l s)) ([], 0) = r
  have hne : r.1 ≠ [] := by
   rw [← hr]; unfold PTS; rw [List.foldl_cons]; exact y6D _ _ (by simp [stp])
  simp only
  by_cases h2 : r.2 ≠ 0
  ·rw [if_pos (by simpa using h2), if_pos h2]
  ·rw [if_neg (by simpa using h2), if_neg h2]
   cases hr1 : r.1 with
   | nil => exact absurd hr1 hne
   | cons x t => rw [ym (by simp)]; rfl
 ·rw [if_neg h, if_pos (by simpa using h)]
theorem delay_eq {l : List (List B)} {s : SV} (hl : l.length ≤ 40) : y2O l s = y3I l s := by
 unfold y2O
 rw [max_eq hl (by simp), yay hl]; rfl
theorem ycc {l : List (List B)} {s : SV} (hl : l.length ≤ 40) : y2Z l s = y3F l s := by
 unfold y2Z
 rw [maxb_eq hl (by simp), y9d hl]; rfl
theorem chain_eq (a b : SV) : y41 a b = y3J a b := by
 unfold y41 y3J
 rw [y6B, y5k, Option.bind_some, Option.bind_some, y6B, y5k, (y6p _ _).1, (y6p _ _).2]
 congr 1; funext bb
 cases bb with
 | true => rfl
 | false =>
  simp only [Bool.false_eq_true, if_false, Option.bind_some]
  by_cases h : (ADD a.fL b.fL).2 ≠ 0
  ·rw [if_pos (by simpa using h), if_pos (by simpa using h)]
  ·rw [if_neg (by simpa using h), if_neg (by simpa using h)]
   unfold y14
   rw [if_neg (by simp), ym (by simp), (y6J b.fR a.fR).2, Option.bind_some]
   obtain ⟨n, hn⟩ : ∃ n, yu = n + 2 := ⟨yu - 2, by rw [yU]⟩
   have hmin : (jp2 (fun (c1 : Int) (c2 : Int) => some (⟨c1, c2⟩ : R)) fun k => yy [a.fR, b.fR] (fun y0 y1 => yM y0 y1) k yu 1 ((nth [a.fR, b.fR] 0).fN) ((nth [a.fR, b.fR] 0).fD)) = some (if CM b.fR a.fR < 0 then b.fR else a.fR) := by
    refine y3o (P := fun o => o = _) fun k hk => ?_
    rw [hn, yy, if_pos (by simp)]
    refine y3o (P := fun o => o = _) fun k2 hk2 => ?_
    rw [ym (by simp)]
    show ((yM b.fR a.fR).bind _) = _
    rw [(y6J b.fR a.fR).1, Option.bind_some]
    by_cases hc : CM b.fR a.fR < 0
    ·rw [if_pos (decide_eq_true hc), if_pos hc, ym (by simp), hk2, yy, if_neg (by simp [yq]), hk]; rfl
    ·rw [if_neg (by simpa using hc), if_neg hc, hk2, yy, if_neg (by simp [yq]), hk]; rfl
   rw [hmin, Option.bind_some]
   by_cases hc : CM b.fR a.fR < 0
   ·rw [if_pos hc, if_pos (decide_eq_true hc)]
   ·rw [if_neg hc, if_neg (by simpa using hc)]
theorem ybU {l : List (List B)} {k : Option Bool} (hl : l.length ≤ 40) (hk : k = some true) : ∀ (n : Nat) (v : Int), 0 ≤ v → v ≤ l.length → l.length < n + v → y1C l k n v = some true
 | 0, v, h0, h1, h2 => by omega
 | n + 1, v, h0, h1, h2 => by
  rw [y1C]
  by_cases h : v < l.length
  ·rw [if_pos (decide_eq_true h), ym ⟨h0, h⟩]
   by_cases hc : (((nth l v).length : Nat) : Int) > 40
   ·rw [if_pos (decide_eq_true hc), y9x]; rfl
   ·rw [if_neg (by simpa using hc), yq (by omega)]
    exact ybU hl hk n (v + 1) (by omega) (by omega) (by omega)
  ·rw [if_neg (by simpa using h)]; exact hk
theorem ycd {l : List (List B)} {s : SV} (hl : l.length ≤ 40) : ∃ x, y3I l s = some x := ⟨_, yay hl⟩
theorem yce (a b : SV) : ∃ x, y3J a b = some x := by
 unfold y3J
 rw [y5k, Option.bind_some, y5k, (y6p _ _).2]
 generalize hbb : (if !(VS a) then some true else (some (VS b)).bind fun x => some (!x)) = ob
 have hob : ∃ bb, ob = some bb := by rw [← hbb]; cases VS a <;> exact ⟨_, rfl⟩
 obtain ⟨bb, rfl⟩ := hob
 rw [Option.bind_some]
 cases bb with
 | true => exact ⟨_, rfl⟩
 | false =>
  simp only [Bool.false_eq_true, if_false, Option.bind_some]
  split
  ·exact ⟨_, rfl⟩
  ·rw [(y6J _ _).2, Option.bind_some]
   split
   ·exact ⟨_, rfl⟩
   ·exact ⟨_, rfl⟩
theorem y8L {l : List (List B)} {s t : SV} : y3G l s t = some true := by
 unfold y3G
 by_cases hl : (((l.length : Nat) : Int) > 40)
 ·rw [if_pos (decide_eq_true hl), y9x]; rfl
 ·rw [if_neg (by simpa using hl)]
  refine y5R (P := fun o => o = some true) fun k hk => ?_
  refine ybU (by omega) ?_ yu 0 (by omega) (by omega) (by rw [yU]; omega)
  rw [hk]
  obtain ⟨x, ex⟩ := ycd (l := l) (s := s) (by omega)
  obtain ⟨z, ez⟩ := yce s t
  have eb := y9d (l := l) (s := s) (by omega)
  rw [delay_eq (by omega), ex, Option.bind_some, Option.bind_some, ycc (by omega), eb, Option.bind_some, Option.bind_some, chain_eq, ez, Option.bind_some, Option.bind_some]
  rw [if_pos (by simp), y6B, y5k, Option.bind_some, Option.bind_some, Option.bind_some]
  rw [if_pos (by simp), y9x]; rfl
end Go.Proofs.YtakfmdiiehcbdaaGreat
