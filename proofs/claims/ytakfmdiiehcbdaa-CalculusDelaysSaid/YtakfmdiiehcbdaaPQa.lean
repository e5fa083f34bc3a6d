/- A part of this claim's proof: models of functions, walks, plain laws. No conditions. -/
import Derived.Test.YtakfmdiiehcbdaaP03a
namespace Go.Proofs.Ytakfmdiiehcbdaa
open Go Go.RowKit Sep
set_option linter.all false
/-! ### sums of sizes -/
def y3P (l : List SE) : Int := (l.map (·.fSize)).sum
theorem y4U (x : SE) (l : List SE) : y3P (x :: l) = x.fSize + y3P l := by simp [y3P]
theorem y7L (l m : List SE) : y3P (l ++ m) = y3P l + y3P m := by simp [y3P]
theorem y9j {g T1 : Int} (hg : 0 < g) : ∀ (p : List SE) (T0 : Int), T0 ≤ T1 → (∀ f ∈ p, T0 ≤ f.fTime ∧ f.fTime ≤ T1 ∧ 1 ≤ f.fSize ∧ f.fSize ≤ 72) → p.Pairwise (fun f f' => f.fTime + g ≤ f'.fTime) → g * y3P p ≤ 72 * (g + (T1 - T0))
 | [], T0, h0, _, _ => by simp [y3P]; omega
 | [x], T0, h0, h1, _ => by
  have := h1 x (by simp)
  rw [y4U]
  have h2 : y3P [] = 0 := rfl
  rw [h2, Int.add_zero]
  have h3 : g * x.fSize ≤ g * 72 := Int.mul_le_mul_of_nonneg_left (by omega) (by omega)
  omega
 | x :: y :: r, T0, h0, h1, h2 => by
  obtain ⟨h3, h4⟩ := List.pairwise_cons.1 h2
  have hx := h1 x (by simp)
  have hy := h1 y (by simp)
  have hxy := h3 y (by simp)
  have ih := y9j (T1 := T1) hg (y :: r) (x.fTime + g) (by omega) (fun f hf => by
   have a := h1 f (List.mem_cons_of_mem _ hf)
   have b := h3 f hf
   exact ⟨b, a.2⟩) h4
  rw [y4U, Int.mul_add]
  have h5 : g * x.fSize ≤ g * 72 := Int.mul_le_mul_of_nonneg_left (by omega) (by omega)
  omega
theorem y8F : ∀ (l : List SE), (∀ f ∈ l, f.fVL = 0 ∨ f.fVL = 1) → y3P l = y3P (l.filter fun f => decide (f.fVL = 0)) + y3P (l.filter fun f => decide (f.fVL = 1))
 | [], _ => rfl
 | x :: l, h => by
  have ih := y8F l fun f hf => h f (List.mem_cons_of_mem _ hf)
  rw [List.filter_cons, List.filter_cons, y4U, ih]
  rcases h x (by simp) with hx | hx
  ·rw [hx]
   simp only [decide_true, if_true]
   rw [y4U]
   simp
   omega
  ·rw [hx]
   simp only [decide_true, if_true]
   rw [y4U]
   simp
   omega
def MG2 (l : List SE) (g h : Int) : Prop := (∀ f ∈ l, f.fVL = 0 ∨ f.fVL = 1) ∧ (l.filter fun f => decide (f.fVL = 0)).Pairwise (fun f f' => f.fTime + g ≤ f'.fTime) ∧ (l.filter fun f => decide (f.fVL = 1)).Pairwise (fun f f' => f.fTime + h ≤ f'.fTime)
theorem MG2.sub {l s : List SE} {g h : Int} (hl : MG2 l g h) (hs : s.Sublist l) : MG2 s g h :=
 ⟨fun f hf => hl.1 f (hs.subset hf), hl.2.1.sublist (hs.filter _), hl.2.2.sublist (hs.filter _)⟩
theorem segment {s : List SE} {g h T0 T1 : Int} (hg : 0 < g) (hh : 0 < h) (hs : MG2 s g h) (h0 : T0 ≤ T1) (h1 : ∀ f ∈ s, T0 ≤ f.fTime ∧ f.fTime ≤ T1 ∧ 1 ≤ f.fSize ∧ f.fSize ≤ 72) : g * h * y3P s ≤ 144 * (g * h) + 72 * ((g + h) * (T1 - T0)) := by
 have a := y9j hg (s.filter fun f => decide (f.fVL = 0)) T0 h0 (fun f hf => h1 f (List.mem_filter.1 hf).1) hs.2.1
 have b := y9j hh (s.filter fun f => decide (f.fVL = 1)) T0 h0 (fun f hf => h1 f (List.mem_filter.1 hf).1) hs.2.2
 rw [y8F s hs.1]
 generalize y3P (s.filter fun f => decide (f.fVL = 0)) = A at *
 generalize y3P (s.filter fun f => decide (f.fVL = 1)) = B at *
 generalize T1 - T0 = τ at *
 have a' := Int.mul_le_mul_of_nonneg_left a (show 0 ≤ h by omega)
 have b' := Int.mul_le_mul_of_nonneg_left b (show 0 ≤ g by omega)
 have e1 : g * h * (A + B) = h * (g * A) + g * (h * B) := by grind
 have e2 : h * (72 * (g + τ)) = 72 * (g * h) + 72 * (h * τ) := by grind
 have e3 : g * (72 * (h + τ)) = 72 * (g * h) + 72 * (g * τ) := by grind
 have e4 : (g + h) * τ = g * τ + h * τ := by grind
 rw [e1, e4]
 omega
def PS (l : List SE) (n : Int) : Int := y3P (l.take n.toNat)
theorem y6M {l : List SE} {n : Int} (h0 : 0 ≤ n) (h : n < l.length) : PS l (n + 1) = PS l n + (nth l n).fSize := by
 unfold PS
 rw [y4M l h0 h, y7L, y4U]
 simp [y3P]
theorem PS_seg {l : List SE} {i j : Int} (h0 : 0 ≤ i) (h : i ≤ j) : PS l j - PS l i = y3P ((l.drop i.toNat).take (j - i).toNat) := by
 unfold PS
 have : l.take j.toNat = l.take i.toNat ++ (l.drop i.toNat).take (j - i).toNat := by
  rw [show j.toNat = i.toNat + (j - i).toNat by omega, List.take_add]
 rw [this, y7L]
 omega
theorem y8c {l : List SE} (hl : FRP l) : ∀ (n : Nat) (i : Int), 0 ≤ i → i + n < l.length → (nth l i).fTime ≤ (nth l (i + n)).fTime
 | 0, i, _, _ => by rw [show i + ((0 : Nat) : Int) = i by omega]; omega
 | n + 1, i, h0, h1 => by
  have ih := y8c hl n i h0 (by omega)
  have := (hl.1 (i + (n + 1 : Nat)) (by omega) h1).2.2.2.2 (by omega)
  rw [show i + ((n + 1 : Nat) : Int) - 1 = i + n by omega] at this
  omega
theorem tm {l : List SE} (hl : FRP l) {i j : Int} (h0 : 0 ≤ i) (h1 : i ≤ j) (h2 : j < l.length) : (nth l i).fTime ≤ (nth l j).fTime := by
 have := y8c hl (j - i).toNat i h0 (by omega)
 rwa [show i + (((j - i).toNat : Nat) : Int) = j by omega] at this
theorem y8G {l : List SE} {g h : Int} (hl : FRP l) (hm : MG2 l g h) (hg : 0 < g) (hh : 0 < h) {j i : Int} (h0 : 0 ≤ j) (h1 : j ≤ i) (h2 : i < l.length) : g * h * (PS l (i + 1) - PS l j) ≤ 144 * (g * h) + 72 * ((g + h) * ((nth l i).fTime - (nth l j).fTime)) := by
 rw [PS_seg h0 (by omega)]
 refine segment hg hh (hm.sub ((List.take_sublist _ _).trans (List.drop_sublist _ _))) (tm hl h0 h1 h2) fun f hf => ?_
 obtain ⟨q, hq, rfl⟩ := List.mem_iff_getElem.1 hf
 rw [List.length_take, List.length_drop] at hq
 rw [List.getElem_take, List.getElem_drop]
 have e : l[j.toNat + q] = nth l (j + q) := by
  rw [← y2e (by omega) (by omega)]
  congr 1; omega
 rw [e]
 have a := tm hl (i := j) (j := j + q) h0 (by omega) (by omega)
 have b := tm hl (i := j + q) (j := i) (by omega) (by omega) h2
 have c := hl.1 (j + q) (by omega) (by omega)
 exact ⟨a, b, c.2.2.1, c.2.2.2.1⟩
/-! ### ends -/
theorem y9k {slow delay : Int} {l : List SE} {v : Int} (h0 : 0 ≤ v) (h : v < l.length) : nth (SVE slow delay l 0) v = max (if v = 0 then 0 else nth (SVE slow delay l 0) (v - 1)) ((nth l v).fTime + delay) + (nth l v).fSize * slow := by
 have hl := y4q (slow := slow) (delay := delay) l 0
 rw [← y2e h0 (by omega), ← y2e h0 h, y8l l 0 v.toNat (by omega)]
 by_cases e : v = 0
 ·subst e; simp
 ·rw [if_neg e, if_neg (by omega)]
  congr 2
  rw [← y2e (by omega) (by omega)]
  congr 1; omega
theorem busy {l : List SE} {k d : Int} (hl : FRP l) (hd : 0 ≤ d) : ∀ (n : Nat), (n : Int) < l.length → ∃ j : Int, 0 ≤ j ∧ j ≤ n ∧ nth (SVE k d l 0) n = (nth l j).fTime + d + k * (PS l (n + 1) - PS l j)
 | 0, h => by
  refine ⟨0, by omega, by omega, ?_⟩
  have h1 := y9k (slow := k) (delay := d) (l := l) (v := 0) (by omega) (by simpa using h)
  have h2 := y6M (l := l) (n := 0) (by omega) (by simpa using h)
  have h3 := (hl.1 0 (by omega) (by simpa using h)).1
  rw [if_pos rfl] at h1
  rw [show ((0 : Nat) : Int) = 0 from rfl, h1, h2]
  have e : k * (PS l 0 + (nth l 0).fSize - PS l 0) = (nth l 0).fSize * k := by
   rw [show PS l 0 + (nth l 0).fSize - PS l 0 = (nth l 0).fSize by omega, Int.mul_comm]
  rw [e]; omega
 | n + 1, h => by
  have h1 := y9k (slow := k) (delay := d) (l := l) (v := ((n + 1 : Nat) : Int)) (by omega) h
  have h2 := y6M (l := l) (n := ((n + 1 : Nat) : Int)) (by omega) h
  rw [if_neg (by omega), show ((n + 1 : Nat) : Int) - 1 = n by omega] at h1
  by_cases hc : nth (SVE k d l 0) n ≤ (nth l ((n + 1 : Nat) : Int)).fTime + d
  ·refine ⟨((n + 1 : Nat) : Int), by omega, by omega, ?_⟩
   rw [h1, h2]
   have e : k * (PS l ((n + 1 : Nat) : Int) + (nth l ((n + 1 : Nat) : Int)).fSize - PS l ((n + 1 : Nat) : Int)) = (nth l ((n + 1 : Nat) : Int)).fSize * k := by
    rw [show PS l ((n + 1 : Nat) : Int) + (nth l ((n + 1 : Nat) : Int)).fSize - PS l ((n + 1 : Nat) : Int) = (nth l ((n + 1 : Nat) : Int)).fSize by omega, Int.mul_comm]
   rw [e]; omega
  ·obtain ⟨j, j0, j1, ej⟩ := busy hl hd n (by omega) (k := k)
   refine ⟨j, j0, by omega, ?_⟩
   have h3 : nth (SVE k d l 0) ((n + 1 : Nat) : Int) = nth (SVE k d l 0) n + (nth l ((n + 1 : Nat) : Int)).fSize * k := by
    rw [h1]; omega
   rw [h3, ej, h2]
   have e0 : ((n + 1 : Nat) : Int) = (n : Int) + 1 := by omega
   rw [e0]
   have e : k * (PS l ((n : Int) + 1) + (nth l ((n : Int) + 1)).fSize - PS l j) = k * (PS l ((n : Int) + 1) - PS l j) + (nth l ((n : Int) + 1)).fSize * k := by grind
   rw [e]; omega
theorem y9R {l : List SE} (hl : FRP l) : ∀ (n : Nat) (i : Int), 0 ≤ i → i + n ≤ l.length → PS l i ≤ PS l (i + n)
 | 0, i, _, _ => by rw [show i + ((0 : Nat) : Int) = i by omega]; omega
 | n + 1, i, h0, h1 => by
  have ih := y9R hl n i h0 (by omega)
  have h2 := y6M (l := l) (n := i + n) (by omega) (by omega)
  have := (hl.1 (i + n) (by omega) (by omega)).2.2.1
  rw [show i + ((n + 1 : Nat) : Int) = i + n + 1 by omega]
  omega
theorem ar_delay {g h k X τ : Int} (hg : 0 < g) (hh : 0 < h) (hk : 0 < k) (h1 : g * h * X ≤ 144 * (g * h) + 72 * ((g + h) * τ)) (h2 : 72 * k * (g + h) ≤ g * h) (h3 : 0 ≤ τ) : k * X ≤ 144 * k + τ := by
 have hP : 0 < g * h := Int.mul_pos hg hh
 generalize hPe : g * h = P at *
 generalize g + h = Q at *
 have a1 := Int.mul_le_mul_of_nonneg_left h1 (show 0 ≤ k by omega)
 have a2 := Int.mul_le_mul_of_nonneg_right h2 h3
 have e1 : P * (k * X) = k * (P * X) := by grind
 have e2 : P * (144 * k + τ) = 144 * (k * P) + P * τ := by grind
 have e3 : k * (144 * P + 72 * (Q * τ)) = 144 * (k * P) + 72 * k * Q * τ := by grind
 exact Int.le_of_mul_le_mul_left (by rw [e1, e2]; rw [e3] at a1; omega) hP
theorem y9z {l : List SE} {g h k d : Int} (hl : FRP l) (hm : MG2 l g h) (hg : 0 < g) (hh : 0 < h) (hk : 0 < k) (hd : 0 ≤ d) (h2 : 72 * k * (g + h) ≤ g * h) {i : Int} (h0 : 0 ≤ i) (hi : i < l.length) : nth (SVE k d l 0) i - (nth l i).fTime ≤ 144 * k + d := by
 obtain ⟨j, j0, j1, ej⟩ := busy (k := k) hl hd i.toNat (by omega)
 rw [show ((i.toNat : Nat) : Int) = i by omega] at ej j1
 have hs := y8G hl hm hg hh j0 j1 hi
 have ht := tm hl j0 j1 hi
 have := ar_delay hg hh hk hs h2 (by omega)
 rw [ej]; omega
def y2E (l : List SE) (e : List Int) (T : Int) : Nat → Int
 | 0 => 0
 | n + 1 => y2E l e T n + if nth e n > T then (nth l n).fSize else 0
theorem y9S {l : List SE} {e : List Int} {T : Int} (hl : FRP l) : ∀ (n : Nat), (n : Int) ≤ l.length → ∃ z : Int, 0 ≤ z ∧ z ≤ n ∧ y2E l e T n ≤ PS l n - PS l z ∧ (z < n → nth e z > T)
 | 0, h => ⟨0, by omega, by omega, by simp [y2E], fun h => by omega⟩
 | n + 1, h => by
  obtain ⟨z, z0, z1, z2, z3⟩ := y9S hl n (by omega) (e := e) (T := T)
  have h2 := y6M (l := l) (n := (n : Int)) (by omega) (by omega)
  have h4 := (hl.1 (n : Int) (by omega) (by omega)).2.2.1
  have e0 : ((n + 1 : Nat) : Int) = (n : Int) + 1 := by omega
  by_cases hc : nth e n > T
  ·refine ⟨z, z0, by omega, ?_, fun hz => ?_⟩
   ·rw [y2E, if_pos hc, e0, h2]; omega
   ·by_cases hzn : z = n
    ·rw [hzn]; exact hc
    ·exact z3 (by omega)
  ·by_cases hzn : z = n
   ·refine ⟨((n + 1 : Nat) : Int), by omega, by omega, ?_, fun hz => by omega⟩
    rw [y2E, if_neg hc]
    rw [hzn] at z2
    omega
   ·refine ⟨z, z0, by omega, ?_, fun _ => z3 (by omega)⟩
    rw [y2E, if_neg hc, e0, h2]; omega
theorem ar_held {g h k X Y s τ d H : Int} (hg : 0 < g) (hh : 0 < h) (hk : 0 < k) (hd : 0 ≤ d) (h1 : g * h * X ≤ 144 * (g * h) + 72 * ((g + h) * τ)) (h2 : 72 * k * (g + h) ≤ g * h) (h3 : 0 ≤ τ) (h4 : τ - d ≤ k * Y) (h5 : s ≤ Y) (h6 : s ≤ 72) (h7 : H ≤ X - Y + s) : g * h * H ≤ 216 * (g * h) + 72 * ((g + h) * d) := by
 have hP : 0 < g * h := Int.mul_pos hg hh
 have hQ : 0 < g + h := by omega
 generalize hPe : g * h = P at *
 generalize g + h = Q at *
 by_cases hc : τ ≤ d
 ·have a1 := Int.mul_le_mul_of_nonneg_left (show H ≤ X by omega) (show 0 ≤ P by omega)
  have a2 := Int.mul_le_mul_of_nonneg_left hc (show 0 ≤ Q by omega)
  omega
 ·have a1 := Int.mul_le_mul_of_nonneg_left (show H ≤ X - Y + 72 by omega) (show 0 ≤ k * P by exact Int.mul_nonneg (by omega) (by omega))
  have a2 := Int.mul_le_mul_of_nonneg_left h1 (show 0 ≤ k by omega)
  have a3 := Int.mul_le_mul_of_nonneg_left h4 (show 0 ≤ P by omega)
  have a4 := Int.mul_le_mul_of_nonneg_right h2 (show 0 ≤ τ - d by omega)
  have e1 : k * P * (X - Y + 72) = k * (P * X) - P * (k * Y) + 72 * (k * P) := by grind
  have e2 : k * (144 * P + 72 * (Q * τ)) = 144 * (k * P) + 72 * (k * (Q * τ)) := by grind
  have e3 : 72 * k * Q * (τ - d) = 72 * (k * (Q * τ)) - 72 * (k * (Q * d)) := by grind
  have e4 : P * (τ - d) = P * τ - P * d := by grind
  have e5 : k * (P * H) = k * P * H := by grind
  have e6 : k * (216 * P + 72 * (Q * d)) = 216 * (k * P) + 72 * (k * (Q * d)) := by grind
  refine Int.le_of_mul_le_mul_left (a := k) ?_ hk
  rw [e5, e6]
  rw [e1] at a1; rw [e2] at a2; rw [e3, e4] at a4; rw [e4] at a3
  omega
theorem ya7 {l : List SE} {g h k d : Int} (hl : FRP l) (hm : MG2 l g h) (hg : 0 < g) (hh : 0 < h) (hk : 0 < k) (hd : 0 ≤ d) (h2 : 72 * k * (g + h) ≤ g * h) {x : Int} (h0 : 0 ≤ x) (hx : x < l.length) : g * h * y2E l (SVE k d l 0) (nth l x).fTime (x + 1).toNat ≤ 216 * (g * h) + 72 * ((g + h) * d) := by
 obtain ⟨z, z0, z1, z2, z3⟩ := y9S hl (e := SVE k d l 0) (T := (nth l x).fTime) (x + 1).toNat (by omega)
 rw [show (((x + 1).toNat : Nat) : Int) = x + 1 by omega] at z1 z2 z3
 have hP : 0 < g * h := Int.mul_pos hg hh
 have hQd : 0 ≤ (g + h) * d := Int.mul_nonneg (by omega) hd
 by_cases hz : z < x + 1
 ·have ez := z3 hz
  obtain ⟨j, j0, j1, ej⟩ := busy (k := k) hl hd z.toNat (by omega)
  rw [show ((z.toNat : Nat) : Int) = z by omega] at ej j1
  have hs := y8G hl hm hg hh j0 (show j ≤ x by omega) hx
  have ht := tm hl j0 (show j ≤ x by omega) hx
  have hz2 := y6M (l := l) (n := z) z0 (by omega)
  have hz3 := hl.1 z z0 (by omega)
  have hmono := y9R hl (z - j).toNat j j0 (by omega)
  rw [show j + (((z - j).toNat : Nat) : Int) = z by omega] at hmono
  exact ar_held (X := PS l (x + 1) - PS l j) (Y := PS l (z + 1) - PS l j) (s := (nth l z).fSize) (τ := (nth l x).fTime - (nth l j).fTime) hg hh hk hd hs h2 (by omega) (by omega) (by omega) hz3.2.2.2.1 (by omega)
 ·have e : z = x + 1 := by omega
  rw [e] at z2
  have := Int.mul_le_mul_of_nonneg_left (show y2E l (SVE k d l 0) (nth l x).fTime (x + 1).toNat ≤ 0 by omega) (show 0 ≤ g * h by omega)
  omega
end Go.Proofs.Ytakfmdiiehcbdaa
