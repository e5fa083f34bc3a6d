/- A part of this claim's proof: models of functions, walks, plain laws. No conditions. -/
import Derived.Test.YtakfmdiiehcbdaaGreatPTa
import Derived.Test.YtakfmdiiehcbdaaGreatWCalculusTells
namespace Go.Proofs.YtakfmdiiehcbdaaGreat
open Go Go.RowKit Sep
set_option linter.all false
theorem at_some (c : List B) (t : R) : ∃ x, y2L c t = some x := by
 by_cases h : VC c = true ∧ GR t = true
 ·exact ⟨_, at_eq h.1 h.2⟩
 ·exact ⟨_, at_bad h⟩
def ATF (c : List B) (t : R) : R × Int := (y2L c t).getD (⟨0, 0⟩, 0)
theorem at_s (c : List B) (t : R) : y2L c t = some (ATF c t) := by
 obtain ⟨x, e⟩ := at_some c t
 unfold ATF; rw [e]; rfl
/-! ### the total -/
def tot (t : R) : List (List B) → R × Int → R × Int
 | [], a => a
 | c :: l, a => tot t l (CD (if a.2 = 0 then (ATF c t).2 else a.2) (ADD a.1 (ATF c t).1))
theorem y7W {t : R} {e : Int} (he : e ≠ 0) : ∀ l : List (List B), tot t l (Z1, e) = (Z1, e)
 | [] => rfl
 | c :: l => by
  rw [tot, if_neg he, y56 he, y7W he l]
theorem y9V {l : List (List B)} {t : R} {k : Int → Int → Int → Option (R × zV)} (hl : l.length ≤ 1000) : ∀ (n : Nat) (i : Int) (a : R × Int), 0 ≤ i → i ≤ l.length → l.length < n + i →
  y1B l t k n i a.2 a.1.fN a.1.fD = k (tot t (l.drop i.toNat) a).1.fN (tot t (l.drop i.toNat) a).1.fD (tot t (l.drop i.toNat) a).2
 | 0, i, a, h0, h1, h2 => by omega
 | n + 1, i, a, h0, h1, h2 => by
  rw [y1B]
  by_cases h : i < l.length
  ·rw [if_pos (decide_eq_true h), ym ⟨h0, h⟩, at_s, Option.bind_some, y1n h0 h, tot]
   refine y2p (P := fun o => o = _) fun kk hkk => ?_
   have e1 : (if decide (a.2 = 0) = true then kk (ATF (nth l i) t).2 else kk a.2) = kk (if a.2 = 0 then (ATF (nth l i) t).2 else a.2) := by
    by_cases h : a.2 = 0 <;> simp [h]
   rw [e1, hkk]
   show ((yO ⟨_⟩ (fun y0 y1 => y1o y0 y1) a.1 (ATF (nth l i) t).1).bind _) = _
   rw [cdo (y6p a.1 (ATF (nth l i) t).1).1, Option.bind_some, yq (by omega)]
   exact y9V hl n (i + 1) _ (by omega) (by omega) (by omega)
  ·rw [if_neg (by simpa using h), y1y h]
   rfl
theorem ybl {l : List (List B)} {t : R} {e : Int} (hl : l.length ≤ 1000) : y2a ⟨e⟩ l t = some ((tot t l (Z1, e)).1, ⟨(tot t l (Z1, e)).2⟩) := by
 unfold y2a
 rw [y73, Option.bind_some]
 refine ybk (P := fun o => o = _) fun k hk => ?_
 have := y9V (t := t) (k := k) hl yu 0 (Z1, e) (by omega) (by omega) (by rw [yU]; omega)
 rw [this, hk]; rfl
theorem y9c {l : List (List B)} {t : R} {k : Int → Int → Option (R × Int)} (hl : l.length ≤ 1000) : ∀ (n : Nat) (i : Int) (a : R), 0 ≤ i → i ≤ l.length → l.length < n + i →
  y21 l t k n i a.fN a.fD = if (tot t (l.drop i.toNat) (a, 0)).2 ≠ 0 then some (⟨0, 0⟩, (tot t (l.drop i.toNat) (a, 0)).2) else k (tot t (l.drop i.toNat) (a, 0)).1.fN (tot t (l.drop i.toNat) (a, 0)).1.fD
 | 0, i, a, h0, h1, h2 => by omega
 | n + 1, i, a, h0, h1, h2 => by
  rw [y21]
  by_cases h : i < l.length
  ·rw [if_pos (decide_eq_true h), ym ⟨h0, h⟩, rat_eq, at_s, Option.bind_some, y1n h0 h, tot, if_pos rfl]
   by_cases h3 : (ATF (nth l i) t).2 ≠ 0
   ·rw [if_pos (by simpa using h3), y56 h3, y7W h3, if_pos h3]
   ·rw [if_neg (by simpa using h3)]
    have h3' : (ATF (nth l i) t).2 = 0 := by simpa using h3
    rw [h3']
    show ((yB 0 a (ATF (nth l i) t).1).bind _) = _
    rw [(y6p _ _).2, Option.bind_some]
    by_cases h4 : (ADD a (ATF (nth l i) t).1).2 ≠ 0
    ·rw [if_pos (by simpa using h4), y6C h4, y7W h4, if_pos h4]
    ·have h4' : (ADD a (ATF (nth l i) t).1).2 = 0 := by simpa using h4
     rw [if_neg (by simpa using h4), y5T h4', yq (by omega), y9c hl n (i + 1) _ (by omega) (by omega) (by omega)]
     have e : ((ADD a (ATF (nth l i) t).1).1, (0 : Int)) = ADD a (ATF (nth l i) t).1 := by rw [← h4']
     rw [e, show (i + 1).toNat = (i + 1).toNat from rfl]
  ·rw [if_neg (by simpa using h), y1y h, if_neg (by simp [tot])]
   rfl
theorem yav {l : List (List B)} {t : R} (hl : l.length ≤ 1000) : y4c l t = some (if (tot t l (Z1, 0)).2 ≠ 0 then (⟨0, 0⟩, (tot t l (Z1, 0)).2) else ((tot t l (Z1, 0)).1, 0)) := by
 unfold y4c
 refine y3o (P := fun o => o = _) fun k hk => ?_
 have := y9c (t := t) (k := k) hl yu 0 Z1 (by omega) (by omega) (by rw [yU]; omega)
 rw [show (0 : Int).toNat = 0 from rfl, List.drop_zero] at this
 have h2 : y21 l t k yu 0 0 1 = y21 l t k yu 0 Z1.fN Z1.fD := rfl
 rw [h2, this, hk]
 split <;> rfl
/-! ### the values at a point -/
def dv (l : List (List B)) (s : SV) (e : Int) (t : R) : R × Int :=
 let x1 := tot t l (Z1, e)
 let x2 := CD x1.2 (DIV x1.1 s.fR)
 let x3 := CD x2.2 (SUB x2.1 t)
 CD x3.2 (ADD x3.1 s.fL)
def bv (l : List (List B)) (s : SV) (e : Int) (t : R) : R × Int :=
 let x1 := tot t l (Z1, e)
 let x2 := CD x1.2 (SUB t s.fL)
 let x3 := CD x2.2 (MUL s.fR x2.1)
 if CM t s.fL ≤ 0 then x1 else CD x3.2 (SUB x1.1 x3.1)
theorem dv_err {l : List (List B)} {s : SV} {e : Int} {t : R} (he : e ≠ 0) : dv l s e t = (Z1, e) := by
 unfold dv
 simp only [y7W he, y56 he]
theorem bv_err {l : List (List B)} {s : SV} {e : Int} {t : R} (he : e ≠ 0) : bv l s e t = (Z1, e) := by
 unfold bv
 simp only [y7W he, y56 he]
 split <;> rfl
theorem ycA {l : List (List B)} {s : SV} {e : Int} {t : R} (hl : l.length ≤ 1000) (hs : VS s = true) : y3z ⟨e⟩ t l s = some ((dv l s e t).1, ⟨(dv l s e t).2⟩) := by
 have h0 := (VS_r hs).2.1
 unfold y3z
 rw [ybl hl, Option.bind_some, cdo (div_s _ (y := s.fR) (by omega)).1, Option.bind_some, cdo (y92 _ t).1, Option.bind_some, cdo (y6p _ s.fL).1]
 rfl
theorem ybx {l : List (List B)} {s : SV} {e : Int} {t : R} (hl : l.length ≤ 1000) : y3a ⟨e⟩ t l s = some ((bv l s e t).1, ⟨(bv l s e t).2⟩) := by
 unfold y3a bv
 rw [ybl hl, Option.bind_some, (y6J t s.fL).1, Option.bind_some]
 by_cases h : CM t s.fL ≤ 0
 ·rw [if_pos (decide_eq_true h), if_pos h]
 ·rw [if_neg (by simpa using h), if_neg h, cdo (y92 t s.fL).1, Option.bind_some, cdo (mul_s s.fR _).1, Option.bind_some, cdo (y92 _ _).1]
  rfl
def RV (f : Int → R → R × Int) (t : R) (y : R × Int) : Prop := y.2 = (f 0 t).2 ∧ (y.2 = 0 → y.1 = (f 0 t).1)
theorem yca {l : List (List B)} {s : SV} {t : R} (hl : l.length ≤ 1000) (hs : VS s = true) : ∃ y, y3E l s t = some y ∧ RV (dv l s) t y := by
 have h0 := (VS_r hs).2.1
 unfold y3E RV dv
 rw [yav hl, Option.bind_some]
 simp only
 generalize tot t l (Z1, 0) = x1
 by_cases h1 : x1.2 ≠ 0
 ·rw [if_pos h1, if_pos (by simpa using h1)]
  refine ⟨_, rfl, ?_, fun h => absurd h h1⟩
  simp only [y56 h1]
 ·have h1' : x1.2 = 0 := by simpa using h1
  rw [if_neg h1, if_neg (by simp), (div_s _ (by omega)).2, Option.bind_some, h1']
  simp only
  generalize DIV x1.1 s.fR = x2
  by_cases h2 : x2.2 ≠ 0
  ·rw [if_pos (by simpa using h2)]
   refine ⟨_, rfl, ?_, fun h => absurd h h2⟩
   simp only [y6C h2, y56 h2]
  ·have h2' : x2.2 = 0 := by simpa using h2
   rw [if_neg (by simpa using h2), (y92 _ _).2, Option.bind_some, y5T h2', h2']
   generalize SUB x2.1 t = x3
   by_cases h3 : x3.2 ≠ 0
   ·rw [if_pos (by simpa using h3)]
    refine ⟨_, rfl, ?_, fun h => absurd h h3⟩
    rw [y6C h3, y56 (by simpa using h3)]
   ·have h3' : x3.2 = 0 := by simpa using h3
    rw [if_neg (by simpa using h3), (y6p _ _).2, Option.bind_some, y5T h3', h3']
    refine ⟨_, rfl, ?_⟩
    by_cases h4 : (ADD x3.1 s.fL).2 ≠ 0
    ·rw [y6C h4]; exact ⟨rfl, fun h => absurd h h4⟩
    ·rw [y5T (by simpa using h4)]; exact ⟨rfl, fun _ => rfl⟩
theorem ybm {l : List (List B)} {s : SV} {t : R} (hl : l.length ≤ 1000) : ∃ y, y3h l s t = some y ∧ RV (bv l s) t y := by
 unfold y3h RV bv
 rw [yav hl, Option.bind_some]
 simp only
 generalize tot t l (Z1, 0) = x1
 by_cases h1 : x1.2 ≠ 0
 ·rw [if_pos h1, if_pos (by simpa using h1), Option.bind_some, if_pos rfl]
  refine ⟨_, rfl, ?_, fun h => absurd h h1⟩
  split
  ·rfl
  ·simp only [y56 h1]
 ·have h1' : x1.2 = 0 := by simpa using h1
  rw [if_neg h1, if_neg (by simp), (y6J _ _).2, Option.bind_some, Option.bind_some]
  by_cases hc : CM t s.fL ≤ 0
  ·rw [if_pos (decide_eq_true hc), if_pos hc]
   exact ⟨_, rfl, h1'.symm, fun _ => rfl⟩
  ·rw [if_neg (by simpa using hc), if_neg hc, (y92 _ _).2, Option.bind_some, h1']
   generalize SUB t s.fL = x2
   by_cases h2 : x2.2 ≠ 0
   ·rw [if_pos (by simpa using h2)]
    refine ⟨_, rfl, ?_, fun h => absurd h h2⟩
    simp only [y6C h2, y56 h2]
   ·have h2' : x2.2 = 0 := by simpa using h2
    rw [if_neg (by simpa using h2), (mul_s _ _).2, Option.bind_some, y5T h2', h2']
    generalize MUL s.fR x2.1 = x3
    by_cases h3 : x3.2 ≠ 0
    ·rw [if_pos (by simpa using h3)]
     refine ⟨_, rfl, ?_, fun h => absurd h h3⟩
     rw [y6C h3, y56 (by simpa using h3)]
    ·have h3' : x3.2 = 0 := by simpa using h3
     rw [if_neg (by simpa using h3), (y92 _ _).2, Option.bind_some, y5T h3', h3']
     refine ⟨_, rfl, ?_⟩
     by_cases h4 : (SUB x1.1 x3.1).2 ≠ 0
     ·rw [y6C h4]; exact ⟨rfl, fun h => absurd h h4⟩
     ·rw [y5T (by simpa using h4)]; exact ⟨rfl, fun _ => rfl⟩
/-! ### the greatest value -/
section
variable {f : Int → R → R × Int}
def stp (f : Int → R → R × Int) (s : List R × Int) (p : R) : List R × Int :=
 (match s.1 with | [] => [(f s.2 p).1] | b :: r => if CM (f s.2 p).1 b > 0 then [(f s.2 p).1] else b :: r, (f s.2 p).2)
theorem yad (hf : ∀ e t, e ≠ 0 → f e t = (Z1, e)) : ∀ (P : List R) (s : List R × Int), s.2 ≠ 0 → (P.foldl (stp f) s).2 = s.2
 | [], s, h => rfl
 | p :: P, s, h => by
  have : (stp f s p).2 = s.2 := by unfold stp; rw [hf _ _ h]
  rw [List.foldl_cons, yad hf P _ (by rw [this]; exact h), this]
theorem y6D : ∀ (P : List R) (s : List R × Int), s.1 ≠ [] → (P.foldl (stp f) s).1 ≠ []
 | [], s, h => h
 | p :: P, s, h => by
  rw [List.foldl_cons]
  refine y6D P _ ?_
  unfold stp
  cases hs : s.1 with
  | nil => exact absurd hs h
  | cons b r => simp only; split <;> simp
def mxv (f : Int → R → R × Int) (P : List R) : R × Int :=
 let r := P.foldl (stp f) ([], 0)
 if r.2 ≠ 0 then (⟨0, 0⟩, r.2) else (nth r.1 0, 0)
end
theorem yby (a : List B) : ∃ x : List R × Int, y1k a = some x ∧ x.1.length ≤ 1100 := by
 cases h : VC a with
 | true =>
  have := yaq h
  split at this
  ·obtain ⟨r, e, _, _, _, hl⟩ := this
   exact ⟨_, e, hl⟩
  ·exact ⟨_, this, by simp⟩
 | false => exact ⟨_, y9S h, by simp⟩
def BRK (c : List B) : List R × Int := (y1k c).getD ([], 0)
theorem y6W (c : List B) : y1k c = some (BRK c) ∧ (BRK c).1.length ≤ 1100 := by
 obtain ⟨x, e, h⟩ := yby c
 unfold BRK
 rw [e]; exact ⟨rfl, h⟩
def RTF (c : List B) : R × Int := (y2C c).getD (⟨0, 0⟩, 0)
theorem rt_s {c : List B} (h : VC c = true) : y2C c = some (RTF c) ∧ V (RTF c).1 = true := by
 obtain ⟨d, e, hd, _⟩ := ybK h
 unfold RTF
 rw [e]
 exact ⟨rfl, y2I (y5s (y55 h d hd))⟩
def PTS (l : List (List B)) (more : List R) : List R := Z1 :: ((l.flatMap fun c => y3R (BRK c).1) ++ y3R more)
theorem y4W (l : List (List B)) : (l.flatMap fun c => y3R (BRK c).1).length ≤ 2200 * l.length := by
 induction l with
 | nil => simp
 | cons c l ih =>
  have := (y6W c).2
  rw [List.flatMap_cons, List.length_append, y9w, List.length_cons]; omega
/-! ### the check -/
def ckl : List (List B) → R × Int → Int ⊕ (R × Int)
 | [], a => .inr a
 | c :: l, a => if (BRK c).2 ≠ 0 then .inl (BRK c).2 else ckl l (CD a.2 (ADD a.1 (RTF c).1))
section
variable {Sg : Type} {y : R → (Nat × List R × Int) → Option (Bool × (Nat × List R × Int))} {f : Int → R → R × Int}
theorem p5 {x : List R × Int} {k : (Nat × List R × Int) → Option (Nat × List R × Int)} (hy : ∀ p s, y p (0, s) = some (true, (0, stp f s p))) (hl : x.1.length ≤ 100000) : ∀ (n : Nat) (v : Int) (s : List R × Int), 0 ≤ v → v ≤ x.1.length → x.1.length < n + v →
  y1f _ x y k n v (0, s) = k (0, (y3R (x.1.drop v.toNat)).foldl (stp f) s)
 | 0, v, s, h0, h1, h2 => by omega
 | n + 1, v, s, h0, h1, h2 => by
  rw [y1f]
  by_cases h : v < x.1.length
  ·rw [if_pos (decide_eq_true h), ym ⟨h0, h⟩]
   show Option.bind (y1s (nth x.1 v)) _ = _
   rw [(y9T _).1, Option.bind_some]
   unfold y13
   rw [Option.bind_some, hy, Option.bind_some, if_neg (by simp)]
   have e2 : (y1N (⟨(nth x.1 v).fN, (nth x.1 v).fD⟩ : R)) = some (cel (nth x.1 v)) := (y9U _).1
   rw [e2, Option.bind_some, Option.bind_some, hy, Option.bind_some, Option.bind_some, if_neg (by simp), yq (by omega), p5 hy hl n (v + 1) _ (by omega) (by omega) (by omega), y1n h0 h]
   rfl
  ·rw [if_neg (by simpa using h), y1y h]; rfl
theorem p6 {x : List R} {k : (Nat × List R × Int) → Option (Nat × List R × Int)} (hy : ∀ p s, y p (0, s) = some (true, (0, stp f s p))) (hl : x.length ≤ 100000) : ∀ (n : Nat) (v : Int) (s : List R × Int), 0 ≤ v → v ≤ x.length → x.length < n + v →
  y1h _ x y k n v (0, s) = k (0, (y3R (x.drop v.toNat)).foldl (stp f) s)
 | 0, v, s, h0, h1, h2 => by omega
 | n + 1, v, s, h0, h1, h2 => by
  rw [y1h]
  by_cases h : v < x.length
  ·rw [if_pos (decide_eq_true h), ym ⟨h0, h⟩]
   show Option.bind (y1s (nth x v)) _ = _
   rw [(y9T _).1, Option.bind_some]
   unfold y13
   rw [Option.bind_some, hy, Option.bind_some, if_neg (by simp)]
   have e2 : (y1N (⟨(nth x v).fN, (nth x v).fD⟩ : R)) = some (cel (nth x v)) := (y9U _).1
   rw [e2, Option.bind_some, Option.bind_some, hy, Option.bind_some, Option.bind_some, if_neg (by simp), yq (by omega), p6 hy hl n (v + 1) _ (by omega) (by omega) (by omega), y1n h0 h]
   rfl
  ·rw [if_neg (by simpa using h), y1y h]; rfl
theorem p4 {l : List (List B)} {k : (Nat × List R × Int) → Option (Nat × List R × Int)} (hy : ∀ p s, y p (0, s) = some (true, (0, stp f s p))) (hl : l.length ≤ 100000) : ∀ (n : Nat) (v : Int) (s : List R × Int), 0 ≤ v → v ≤ l.length → l.length < n + v →
  y1g _ l y k n v (0, s) = k (0, ((l.drop v.toNat).flatMap fun c => y3R (BRK c).1).foldl (stp f) s)
 | 0, v, s, h0, h1, h2 => by omega
 | n + 1, v, s, h0, h1, h2 => by
  rw [y1g]
  by_cases h : v < l.length
  ·rw [if_pos (decide_eq_true h)]
   refine y2p (P := fun o => o = _) fun k1 hk1 => ?_
   rw [ym ⟨h0, h⟩, (y6W _).1, Option.bind_some]
   refine y2p (P := fun o => o = _) fun k2 hk2 => ?_
   have hb := (y6W (nth l v)).2
   rw [p5 (f := f) hy (by omega) yu 0 s (by omega) (by omega) (by rw [yU]; omega), hk2, hk1, yq (by omega), p4 hy hl n (v + 1) _ (by omega) (by omega) (by omega), y1n h0 h, List.flatMap_cons, List.foldl_append]
   rfl
  ·rw [if_neg (by simpa using h), y1y h]; rfl
theorem ycB {l : List (List B)} {a b : SV} {c : List (List B)} {more : List R} (hy : ∀ p s, y p (0, s) = some (true, (0, stp f s p))) (hl : l.length ≤ 100000) (hm : more.length ≤ 100000) :
  y23 _ y (0, ([], 0)) l a c b more = some (0, (PTS l more).foldl (stp f) ([], 0)) := by
 unfold y23
 rw [y73, Option.bind_some, hy, Option.bind_some, if_neg (by simp)]
 refine y2p (P := fun o => o = _) fun k hk => ?_
 rw [p4 (f := f) hy hl yu 0 _ (by omega) (by omega) (by rw [yU]; omega), hk]
 refine y2p (P := fun o => o = _) fun k2 hk2 => ?_
 rw [p6 (f := f) hy hm yu 0 _ (by omega) (by omega) (by rw [yU]; omega), hk2]
 unfold PTS
 rw [List.foldl_cons, List.foldl_append]
 rfl
end
section
variable {Sg : Type} {y : R → (Nat × List R × Int) → Option (Bool × (Nat × List R × Int))} {f : Int → R → R × Int}
theorem p5b {x : List R × Int} {k : (Nat × List R × Int) → Option (Nat × List R × Int)} (hy : ∀ p s, y p (0, s) = some (true, (0, stp f s p))) (hl : x.1.length ≤ 100000) : ∀ (n : Nat) (v : Int) (s : List R × Int), 0 ≤ v → v ≤ x.1.length → x.1.length < n + v →
  y1b _ x y k n v (0, s) = k (0, (y3R (x.1.drop v.toNat)).foldl (stp f) s)
 | 0, v, s, h0, h1, h2 => by omega
 | n + 1, v, s, h0, h1, h2 => by
  rw [y1b]
  by_cases h : v < x.1.length
  ·rw [if_pos (decide_eq_true h), ym ⟨h0, h⟩]
   show Option.bind (y1s (nth x.1 v)) _ = _
   rw [(y9T _).1, Option.bind_some]
   unfold y13
   rw [Option.bind_some, hy, Option.bind_some, if_neg (by simp)]
   have e2 : (y1N (⟨(nth x.1 v).fN, (nth x.1 v).fD⟩ : R)) = some (cel (nth x.1 v)) := (y9U _).1
   rw [e2, Option.bind_some, Option.bind_some, hy, Option.bind_some, Option.bind_some, if_neg (by simp), yq (by omega), p5b hy hl n (v + 1) _ (by omega) (by omega) (by omega), y1n h0 h]
   rfl
  ·rw [if_neg (by simpa using h), y1y h]; rfl
theorem p6b {x : List R} {k : (Nat × List R × Int) → Option (Nat × List R × Int)} (hy : ∀ p s, y p (0, s) = some (true, (0, stp f s p))) (hl : x.length ≤ 100000) : ∀ (n : Nat) (v : Int) (s : List R × Int), 0 ≤ v → v ≤ x.length → x.length < n + v →
  y1d _ x y k n v (0, s) = k (0, (y3R (x.drop v.toNat)).foldl (stp f) s)
 | 0, v, s, h0, h1, h2 => by omega
 | n + 1, v, s, h0, h1, h2 => by
  rw [y1d]
  by_cases h : v < x.length
  ·rw [if_pos (decide_eq_true h), ym ⟨h0, h⟩]
   show Option.bind (y1s (nth x v)) _ = _
   rw [(y9T _).1, Option.bind_some]
   unfold y13
   rw [Option.bind_some, hy, Option.bind_some, if_neg (by simp)]
   have e2 : (y1N (⟨(nth x v).fN, (nth x v).fD⟩ : R)) = some (cel (nth x v)) := (y9U _).1
   rw [e2, Option.bind_some, Option.bind_some, hy, Option.bind_some, Option.bind_some, if_neg (by simp), yq (by omega), p6b hy hl n (v + 1) _ (by omega) (by omega) (by omega), y1n h0 h]
   rfl
  ·rw [if_neg (by simpa using h), y1y h]; rfl
theorem p4b {l : List (List B)} {k : (Nat × List R × Int) → Option (Nat × List R × Int)} (hy : ∀ p s, y p (0, s) = some (true, (0, stp f s p))) (hl : l.length ≤ 100000) : ∀ (n : Nat) (v : Int) (s : List R × Int), 0 ≤ v → v ≤ l.length → l.length < n + v →
  y1c _ l y k n v (0, s) = k (0, ((l.drop v.toNat).flatMap fun c => y3R (BRK c).1).foldl (stp f) s)
 | 0, v, s, h0, h1, h2 => by omega
 | n + 1, v, s, h0, h1, h2 => by
  rw [y1c]
  by_cases h : v < l.length
  ·rw [if_pos (decide_eq_true h)]
   refine y2p (P := fun o => o = _) fun k1 hk1 => ?_
   rw [ym ⟨h0, h⟩, (y6W _).1, Option.bind_some]
   refine y2p (P := fun o => o = _) fun k2 hk2 => ?_
   have hb := (y6W (nth l v)).2
   rw [p5b (f := f) hy (by omega) yu 0 s (by omega) (by omega) (by rw [yU]; omega), hk2, hk1, yq (by omega), p4b hy hl n (v + 1) _ (by omega) (by omega) (by omega), y1n h0 h, List.flatMap_cons, List.foldl_append]
   rfl
  ·rw [if_neg (by simpa using h), y1y h]; rfl
theorem ycb {l : List (List B)} {a b : SV} {c : List (List B)} {more : List R} (hy : ∀ p s, y p (0, s) = some (true, (0, stp f s p))) (hl : l.length ≤ 100000) (hm : more.length ≤ 100000) :
  y1W _ y (0, ([], 0)) l a c b more = some (0, (PTS l more).foldl (stp f) ([], 0)) := by
 unfold y1W
 rw [y73, Option.bind_some, hy, Option.bind_some, if_neg (by simp)]
 refine y2p (P := fun o => o = _) fun k hk => ?_
 rw [p4b (f := f) hy hl yu 0 _ (by omega) (by omega) (by rw [yU]; omega), hk]
 refine y2p (P := fun o => o = _) fun k2 hk2 => ?_
 rw [p6b (f := f) hy hm yu 0 _ (by omega) (by omega) (by rw [yU]; omega), hk2]
 unfold PTS
 rw [List.foldl_cons, List.foldl_append]
 rfl
end
def CKF (l : List (List B)) (s : SV) : Int :=
 if l.length > 32 || !(l.all VC) || !(VS s) then 2 else
 match ckl l (Z1, 0) with
 | .inl e => e
 | .inr r => if r.2 ≠ 0 then r.2 else if CM r.1 s.fR > 0 then 6 else 0
theorem y9W {l : List (List B)} {s : SV} (h : CKF l s = 0) : VS s = true := by
 unfold CKF at h
 cases hs : VS s with
 | true => rfl
 | false => rw [if_pos (by simp [hs])] at h; cases h
theorem rindex {s : List (List B)} {k : Option Int} (hl : s.length ≤ 100000) : ∀ (n : Nat) (v : Int), 0 ≤ v → v ≤ s.length → s.length < n + v → k = some (-1) →
  ∃ x : Int, yI s (fun y0 => y17 y0) k n v = some x ∧ (x ≥ 0 ↔ (s.drop v.toNat).all VC = false)
 | 0, v, h0, h1, h2, hk => by omega
 | n + 1, v, h0, h1, h2, hk => by
  rw [yI]
  by_cases h : v < s.length
  ·rw [if_pos (decide_eq_true h), ym ⟨h0, h⟩, y1n h0 h]
   unfold y17
   rw [y4k, Option.bind_some, Option.bind_some, List.all_cons]
   cases hc : VC (nth s v) with
   | false => exact ⟨v, by simp, by simp; omega⟩
   | true =>
    rw [if_neg (by simp), yq (by omega), Bool.true_and]
    exact rindex hl n (v + 1) (by omega) (by omega) (by omega) hk
  ·rw [if_neg (by simpa using h), y1y h, hk]
   exact ⟨-1, rfl, by simp⟩
theorem y8K {l : List (List B)} (hl : l.length ≤ 100000) : (yV l (fun y0 => y17 y0)) = some (!(l.all VC)) := by
 unfold yV y1E
 refine y5R (P := fun o => (o.bind fun x => some (decide (x ≥ 0))) = some (!(l.all VC))) fun k hk => ?_
 obtain ⟨x, e, h⟩ := rindex hl yu 0 (by omega) (by omega) (by rw [yU]; omega) hk
 rw [e, Option.bind_some]
 rw [show (0 : Int).toNat = 0 from rfl, List.drop_zero] at h
 cases ha : l.all VC with
 | true => rw [ha] at h; simp at h; simp; omega
 | false => rw [ha] at h; simp at h; simp; omega
theorem ybT {l : List (List B)} {k : Int → Int → Int → Option Int} (hv : ∀ c ∈ l, VC c = true) (hl : l.length ≤ 1000) : ∀ (n : Nat) (v : Int) (a : R × Int), 0 ≤ v → v ≤ l.length → l.length < n + v →
  y1t l k n v a.2 a.1.fN a.1.fD = match ckl (l.drop v.toNat) a with | .inl e => some e | .inr r => k r.2 r.1.fN r.1.fD
 | 0, v, a, h0, h1, h2 => by omega
 | n + 1, v, a, h0, h1, h2 => by
  rw [y1t]
  by_cases h : v < l.length
  ·have hc := hv _ (y1j h0 h)
   rw [if_pos (decide_eq_true h), ym ⟨h0, h⟩, (y6W _).1, Option.bind_some, y1n h0 h, ckl]
   by_cases hb : (BRK (nth l v)).2 ≠ 0
   ·rw [if_pos (by simpa using hb), if_pos hb]
   ·rw [if_neg (by simpa using hb), if_neg hb, (rt_s hc).1, Option.bind_some]
    show ((yO ⟨a.2⟩ (fun y0 y1 => y1o y0 y1) a.1 (RTF (nth l v)).1).bind _) = _
    rw [cdo (y6p _ _).1, Option.bind_some, yq (by omega)]
    exact ybT hv hl n (v + 1) _ (by omega) (by omega) (by omega)
  ·rw [if_neg (by simpa using h), y1y h]
   rfl
theorem check_eq {l : List (List B)} {s : SV} {c : List (List B)} {t : SV} {m : List R} (hl : l.length ≤ 40) : y2o l s c t m = some (CKF l s) := by
 unfold y2o CKF
 by_cases h1 : (((l.length : Nat) : Int) > 32)
 ·rw [if_pos (decide_eq_true h1), Option.bind_some, if_pos rfl, Option.bind_some, if_pos rfl, if_pos (by simp; omega)]
 ·rw [if_neg (by simpa using h1), y8K (by omega)]
  simp only [Option.bind_some]
  by_cases h2 : l.all VC = true
  ·rw [h2]
   simp only [Bool.not_true, Bool.false_eq_true, if_false]
   rw [y6B, Option.bind_some, Option.bind_some]
   cases hs : VS s with
   | false => rw [if_pos (by rfl), if_pos (by simp)]
   | true =>
    rw [if_neg (by simp), if_neg (by simp; omega), y73, Option.bind_some]
    refine ybk (P := fun o => o = _) fun k hk => ?_
    have := ybT (k := k) (List.all_eq_true.1 h2) (by omega) yu 0 (Z1, 0) (by omega) (by omega) (by rw [yU]; omega)
    rw [this, show (0 : Int).toNat = 0 from rfl, List.drop_zero]
    cases ckl l (Z1, 0) with
    | inl e => rfl
    | inr r =>
     simp only
     rw [hk]
     by_cases hr : r.2 = 0
     ·rw [if_pos (decide_eq_true hr), if_neg (by simp [hr])]
      show (((yM r.1 s.fR).bind _).bind _) = _
      rw [(y6J _ _).1, Option.bind_some, Option.bind_some]
      by_cases hc : CM r.1 s.fR > 0
      ·rw [if_pos (decide_eq_true hc), if_pos hc]
      ·rw [if_neg (by simpa using hc), if_neg hc, hr]
     ·rw [if_neg (by simpa using hr), Option.bind_some, if_neg (by simp), if_pos hr]
  ·have h2' : l.all VC = false := by simpa using h2
   rw [h2']
   simp only [Bool.not_false, if_true]
   rw [Option.bind_some, if_pos rfl, if_pos (by simp)]
theorem ybn {l : List (List B)} {k : Int → Int → Int → Option Int} (hv : ∀ c ∈ l, VC c = true) (hl : l.length ≤ 1000) : ∀ (n : Nat) (v : Int) (a : R × Int), 0 ≤ v → v ≤ l.length → l.length < n + v →
  y1p l k n v a.2 a.1.fN a.1.fD = match ckl (l.drop v.toNat) a with | .inl e => some e | .inr r => k r.2 r.1.fN r.1.fD
 | 0, v, a, h0, h1, h2 => by omega
 | n + 1, v, a, h0, h1, h2 => by
  rw [y1p]
  by_cases h : v < l.length
  ·have hc := hv _ (y1j h0 h)
   rw [if_pos (decide_eq_true h), ym ⟨h0, h⟩, (y6W _).1, Option.bind_some, y1n h0 h, ckl]
   by_cases hb : (BRK (nth l v)).2 ≠ 0
   ·rw [if_pos (by simpa using hb), if_pos hb]
   ·rw [if_neg (by simpa using hb), if_neg hb, (rt_s hc).1, Option.bind_some]
    show ((yO ⟨a.2⟩ (fun y0 y1 => y1o y0 y1) a.1 (RTF (nth l v)).1).bind _) = _
    rw [cdo (y6p _ _).1, Option.bind_some, yq (by omega)]
    exact ybn hv hl n (v + 1) _ (by omega) (by omega) (by omega)
  ·rw [if_neg (by simpa using h), y1y h]
   rfl
theorem ycC {l : List (List B)} {s : SV} {c : List (List B)} {t : SV} {m : List R} (hl : l.length ≤ 40) : y2h l s c t m = some (CKF l s) := by
 unfold y2h CKF
 by_cases h1 : (((l.length : Nat) : Int) > 32)
 ·rw [if_pos (decide_eq_true h1), Option.bind_some, if_pos rfl, Option.bind_some, if_pos rfl, if_pos (by simp; omega)]
 ·rw [if_neg (by simpa using h1), y8K (by omega)]
  simp only [Option.bind_some]
  by_cases h2 : l.all VC = true
  ·rw [h2]
   simp only [Bool.not_true, Bool.false_eq_true, if_false]
   rw [y6B, Option.bind_some, Option.bind_some]
   cases hs : VS s with
   | false => rw [if_pos (by rfl), if_pos (by simp)]
   | true =>
    rw [if_neg (by simp), if_neg (by simp; omega), y73, Option.bind_some]
    refine ybk (P := fun o => o = _) fun k hk => ?_
    have := ybn (k := k) (List.all_eq_true.1 h2) (by omega) yu 0 (Z1, 0) (by omega) (by omega) (by rw [yU]; omega)
    rw [this, show (0 : Int).toNat = 0 from rfl, List.drop_zero]
    cases ckl l (Z1, 0) with
    | inl e => rfl
    | inr r =>
     simp only
     rw [hk]
     by_cases hr : r.2 = 0
     ·rw [if_pos (decide_eq_true hr), if_neg (by simp [hr])]
      show (((yM r.1 s.fR).bind _).bind _) = _
      rw [(y6J _ _).1, Option.bind_some, Option.bind_some]
      by_cases hc : CM r.1 s.fR > 0
      ·rw [if_pos (decide_eq_true hc), if_pos hc]
      ·rw [if_neg (by simpa using hc), if_neg hc, hr]
     ·rw [if_neg (by simpa using hr), Option.bind_some, if_neg (by simp), if_pos hr]
  ·have h2' : l.all VC = false := by simpa using h2
   rw [h2']
   simp only [Bool.not_false, if_true]
   rw [Option.bind_some, if_pos rfl, if_pos (by simp)]
end Go.Proofs.YtakfmdiiehcbdaaGreat
