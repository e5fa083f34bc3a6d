/- A part of this claim's proof: models of functions, walks, plain laws. No conditions. -/
import Derived.Test.YtinchjigeakocaaW31ad
import Derived.Test.YtinchjigeakocaaZLoops
namespace Go.Proofs.Ytinchjigeakocaa
open Go Go.RowKit Sep
set_option linter.all false
theorem y30 {R : Type} {K : Option R} {F : Option R → Option R} {P : Option R → Prop} (h : ∀ k : Option R, k = K → P (F k)) : P (jp0 K F) := h K rfl
theorem y1H {R A0 : Type} {K : A0 → Option R} {F : (A0 → Option R) → Option R} {P : Option R → Prop} (h : ∀ k : A0 → Option R, (∀ x0, k x0 = K x0) → P (F k)) : P (jp1 K F) := h K fun _ => rfl
theorem y3y {R A0 A1 : Type} {K : A0 → A1 → Option R} {F : (A0 → A1 → Option R) → Option R} {P : Option R → Prop} (h : ∀ k : A0 → A1 → Option R, (∀ x0 x1, k x0 x1 = K x0 x1) → P (F k)) : P (jp2 K F) := h K fun _ _ => rfl
/-! ### comparisons -/
def cmpI (x y : Int) : Int := if x < y then -1 else if x > y then 1 else 0
theorem y82 (x y : Int) : y1k x y = some (cmpI x y) := by
 unfold y1k y3x cmpI
 simp only [ne_eq, not_true_eq_false, decide_false, Option.bind_some, Bool.false_eq_true, if_false, decide_eq_true_eq]
 by_cases h1 : x < y
 ·simp [h1]
 ·by_cases h2 : x > y
  ·simp [h1, h2]
  ·simp [h1, h2]
def orI : List Int → Int
 | [] => 0
 | x :: l => if x ≠ 0 then x else orI l
theorem y9S {l : List Int} {k : Option Int} (hl : l.length < 9000000000000000000) : ∀ (n : Nat) (v : Int), 0 ≤ v → v ≤ l.length → l.length < n + v →
  y2A l k n v = if orI (l.drop v.toNat) ≠ 0 then some (orI (l.drop v.toNat)) else k
 | 0, v, h0, h1, h2 => by omega
 | n + 1, v, h0, h1, h2 => by
  rw [y2A]
  by_cases h : v < l.length
  ·rw [if_pos (decide_eq_true h), yn ⟨h0, h⟩]
   have hd : l.drop v.toNat = nth l v :: l.drop (v.toNat + 1) := by
    have h3 : v.toNat < l.length := by omega
    rw [← List.getElem_cons_drop h3]
    rw [y4g (l := l) h0 h]
   rw [hd, orI]
   by_cases hz : nth l v = 0
   ·rw [if_neg (by simp [hz]), ym (by omega), y9S hl n (v + 1) (by omega) (by omega) (by omega), show (v + 1).toNat = v.toNat + 1 by omega]
    simp only [hz, ne_eq, not_true_eq_false, if_false]
   ·rw [if_pos (decide_eq_true hz), if_pos hz, if_pos hz]
  ·rw [if_neg (by simpa using h), List.drop_eq_nil_of_le (by omega)]
   simp [orI]
theorem or_eq {l : List Int} (hl : l.length < 9000000000000000000) : y3J l = some (orI l) := by
 unfold y3J
 refine y30 (P := fun o => o = some (orI l)) fun k hk => ?_
 rw [y9S hl ys 0 (by omega) (by omega) (by rw [y1d]; omega), hk]
 simp only [Int.toNat_zero, List.drop_zero]
 by_cases h : orI l = 0 <;> simp [h]
abbrev Ev := Snetwork_event
def klt (a b : Ev) : Prop := a.fTime < b.fTime ∨ a.fTime = b.fTime ∧ (a.fIn_ < b.fIn_ ∨ a.fIn_ = b.fIn_ ∧ (a.fVl < b.fVl ∨ a.fVl = b.fVl ∧ a.fSent < b.fSent))
instance (a b : Ev) : Decidable (klt a b) := inferInstanceAs (Decidable (_ ∨ _))
def kle (a b : Ev) : Prop := ¬ klt b a
theorem y6D (a : Ev) : kle a a := by unfold kle klt; omega
theorem y5Q {a b c : Ev} (h : kle a b) (k : kle b c) : kle a c := by unfold kle klt at *; omega
theorem y5f {a b : Ev} (h : klt a b) : kle a b := by unfold kle klt at *; omega
theorem yao (a b : Ev) : ∃ v, y21 a b = some v ∧ (v < 0 ↔ klt a b) := by
 unfold y21
 simp only [y82, Option.bind_some]
 rw [or_eq (by simp)]
 refine ⟨_, rfl, ?_⟩
 unfold orI orI orI orI orI cmpI klt
 repeat' split
 all_goals omega
theorem y8p {l : List Ev} {i j : Int} (hi : 0 ≤ i ∧ i < l.length) (hj : 0 ≤ j ∧ j < l.length) : y1x l i j = some (decide (klt (nth l i) (nth l j))) := by
 unfold y1x
 rw [yn hi, yn hj]
 obtain ⟨v, h1, h2⟩ := yao (nth l i) (nth l j)
 show (y21 (nth l i) (nth l j)).bind _ = _
 rw [h1]
 simp only [Option.bind_some, h2]
/-! ### swaps -/
def swp (l : List Ev) (i j : Int) : List Ev := (l.set i.toNat (nth l j)).set j.toNat (nth l i)
theorem y8q {l : List Ev} {i j : Int} (hi : 0 ≤ i ∧ i < l.length) (hj : 0 ≤ j ∧ j < l.length) : y1y l i j = some (swp l i j) := by
 unfold y1y
 rw [yn hj, yn hi, yn (by rw [List.length_set]; exact hj)]
 rfl
theorem y3d (l : List Ev) (i j : Int) : (swp l i j).length = l.length := by simp [swp]
theorem y2x {α : Type} [Inhabited α] {l : List α} {i : Int} (h : 0 ≤ i ∧ i < l.length) : nth l i = l[i.toNat]'(by omega) := by
 exact (y4g (l := l) h.1 h.2).symm
theorem y3u {l : List Ev} {i j x : Int} (hi : 0 ≤ i ∧ i < l.length) (hj : 0 ≤ j ∧ j < l.length) (hx : 0 ≤ x ∧ x < l.length) :
  nth (swp l i j) x = if x = j then nth l i else if x = i then nth l j else nth l x := by
 rw [y2x (l := swp l i j) (by rw [y3d]; exact hx), y2x hx]
 unfold swp
 rw [List.getElem_set, List.getElem_set]
 by_cases h1 : x = j
 ·subst h1; simp
 ·rw [if_neg (by omega), if_neg h1]
  by_cases h2 : x = i
  ·subst h2; simp
  ·rw [if_neg (by omega), if_neg h2]
theorem y7C {l : List Ev} {i j : Int} (hi : 0 ≤ i ∧ i < l.length) (hj : 0 ≤ j ∧ j < l.length) : (swp l i j).Perm l := by
 unfold swp
 rw [y2x hi, y2x hj]
 exact List.set_set_perm (by omega) (by omega)
/-! ### the heap -/
def y11 (x : Int) : Int := (x - 1) / 2
def HP (l : List Ev) (n : Int) : Prop := ∀ x : Int, 0 < x → x < n → kle (nth l (y11 x)) (nth l x)
def HU (l : List Ev) (n j : Int) : Prop := (∀ x : Int, 0 < x → x < n → x ≠ j → kle (nth l (y11 x)) (nth l x)) ∧ (0 < j → ∀ x : Int, 0 < x → x < n → y11 x = j → kle (nth l (y11 j)) (nth l x))
theorem y9T {k : List Ev → Option (List Ev)} : ∀ (f : Nat) (j : Int) (l : List Ev), 0 ≤ j → j < l.length → l.length < 9000000000000000000 → j < f → HU l l.length j →
  ∃ l', y1B k f j l = k l' ∧ l'.Perm l ∧ HP l' l'.length
 | 0, j, l, h0, h1, h2, h3, h4 => by omega
 | f + 1, j, l, h0, h1, h2, h3, h4 => by
  rw [y1B]
  have ei : i64 (Int.tdiv (i64 (j - 1)) 2) = if j = 0 then 0 else y11 j := by
   rw [ym (x := j - 1) (by omega)]
   by_cases hj : j = 0
   ·subst hj; rw [if_pos rfl]; rfl
   ·rw [if_neg hj, Int.tdiv_eq_ediv_of_nonneg (by omega), ym (by omega)]; rfl
  rw [ei]
  by_cases hj : j = 0
  ·subst hj
   simp only [if_true, decide_true, Option.bind_some]
   refine ⟨l, rfl, .refl _, fun x hx hn => h4.1 x hx hn (by omega)⟩
  ·simp only [hj, if_false]
   have hp : y11 j < j ∧ 0 ≤ y11 j := by unfold y11; omega
   rw [if_neg (by simp; omega), y8p ⟨h0, h1⟩ ⟨hp.2, by omega⟩]
   simp only [Option.bind_some]
   by_cases hl : klt (nth l j) (nth l (y11 j))
   ·simp only [hl, decide_true, Bool.not_true, Bool.false_eq_true, if_false]
    rw [y8q ⟨hp.2, by omega⟩ ⟨h0, h1⟩]
    simp only [Option.bind_some]
    have hpj : (0 ≤ y11 j ∧ y11 j < l.length) := ⟨hp.2, by omega⟩
    have hu : HU (swp l (y11 j) j) (swp l (y11 j) j).length (y11 j) := by
     rw [y3d]
     refine ⟨fun x hx hn hne => ?_, fun h0' x hx hn hpx => ?_⟩
     ·have hpx : 0 ≤ y11 x ∧ y11 x < x := by unfold y11; omega
      rw [y3u hpj ⟨h0, h1⟩ ⟨hpx.1, by omega⟩, y3u hpj ⟨h0, h1⟩ ⟨by omega, hn⟩]
      by_cases e1 : x = j
      ·subst e1
       rw [if_neg (by omega), if_pos rfl, if_pos rfl]
       exact y5f hl
      ·rw [if_neg e1, if_neg hne]
       by_cases e2 : y11 x = j
       ·rw [if_pos e2]
        exact h4.2 (by omega) x hx hn e2
       ·rw [if_neg e2]
        by_cases e3 : y11 x = y11 j
        ·rw [if_pos e3]
         have := h4.1 x hx hn e1
         rw [e3] at this
         exact y5Q (y5f hl) this
        ·rw [if_neg e3]; exact h4.1 x hx hn e1
     ·have hpp : 0 ≤ y11 (y11 j) ∧ y11 (y11 j) < y11 j := by unfold y11 at *; omega
      rw [y3u hpj ⟨h0, h1⟩ ⟨hpp.1, by omega⟩, y3u hpj ⟨h0, h1⟩ ⟨by omega, hn⟩]
      rw [if_neg (by omega), if_neg (by omega)]
      by_cases e1 : x = j
      ·rw [if_pos e1]; exact h4.1 (y11 j) h0' (by omega) (by omega)
      ·have hxx : x ≠ y11 j := by
        have : y11 x < x := by unfold y11; omega
        omega
       rw [if_neg e1, if_neg hxx]
       have a1 := h4.1 x hx hn e1
       rw [hpx] at a1
       exact y5Q (h4.1 (y11 j) h0' (by omega) (by omega)) a1
    obtain ⟨l', e1, e2, e3⟩ := y9T (k := k) f (y11 j) (swp l (y11 j) j) hp.2 (by rw [y3d]; omega) (by rw [y3d]; omega) (by omega) hu
    exact ⟨l', e1, e2.trans (y7C hpj ⟨h0, h1⟩), e3⟩
   ·simp only [hl, decide_false, Bool.not_false, if_true]
    refine ⟨l, rfl, .refl _, fun x hx hn => ?_⟩
    by_cases e : x = j
    ·subst e; exact hl
    ·exact h4.1 x hx hn e
theorem push_eq {l : List Ev} {x : Ev} (hl : (l.length : Int) < 1000000000) (h : HP l l.length) : ∃ l', y22 l x = some l' ∧ l'.Perm (x :: l) ∧ HP l' l'.length := by
 unfold y22 y2R y2g
 rw [yn (by simp; omega)]
 simp only [Option.bind_some]
 unfold y33
 have hlen : ((l ++ [x]).length : Int) = l.length + 1 := by simp
 rw [hlen, ym (by omega)]
 have hin : ∀ y : Int, 0 ≤ y → y < l.length → nth (l ++ [x]) y = nth l y := fun y h0 h1 => by
  rw [y2x (l := l ++ [x]) ⟨h0, by omega⟩, y2x (l := l) ⟨h0, h1⟩, List.getElem_append_left]
 have hu : HU (l ++ [x]) (l ++ [x]).length (l.length + 1 - 1) := by
  rw [hlen]
  refine ⟨fun y hy hn hne => ?_, fun h0 y hy hn hp => ?_⟩
  ·have : 0 ≤ y11 y ∧ y11 y < y := by unfold y11; omega
   rw [hin _ this.1 (by omega), hin y (by omega) (by omega)]
   exact h y hy (by omega)
  ·exfalso
   have : y11 y < y := by unfold y11; omega
   omega
 refine y1H (P := fun o => ∃ l', (o.bind fun z => some z) = some l' ∧ l'.Perm (x :: l) ∧ HP l' l'.length) fun k hk => ?_
 obtain ⟨l', e1, e2, e3⟩ := y9T (k := k) ys (l.length + 1 - 1) (l ++ [x]) (by omega) (by omega) (by omega) (by rw [y1d]; omega) hu
 rw [e1, hk]
 exact ⟨l', rfl, e2.trans (List.perm_append_comm (l₁ := l) (l₂ := [x])), e3⟩
def HD (l : List Ev) (n i : Int) : Prop := (∀ x : Int, 0 < x → x < n → y11 x ≠ i → kle (nth l (y11 x)) (nth l x)) ∧ (0 < i → ∀ x : Int, 0 < x → x < n → y11 x = i → kle (nth l (y11 i)) (nth l x))
theorem y8I {n : Int} {k : Int → List Ev → Option (Bool × List Ev)} : ∀ (f : Nat) (i : Int) (l : List Ev), 0 ≤ i → n ≤ l.length → l.length < 1000000000 → i ≤ l.length → l.length < f + i → HD l n i →
  ∃ i' l', y1c n k f i l = k i' l' ∧ l'.Perm l ∧ HP l' n ∧ (∀ x : Int, n ≤ x → x < l.length → nth l' x = nth l x)
 | 0, i, l, h0, h1, h2, h3, h4, h5 => by omega
 | f + 1, i, l, h0, h1, h2, h3, h4, h5 => by
  rw [y1c]
  rw [ym (x := 2 * i) (by omega), ym (x := 2 * i + 1) (by omega), ym (x := 2 * i + 1 + 1) (by omega)]
  by_cases hs : 2 * i + 1 ≥ n
  ·rw [if_pos (by simp [hs])]
   refine ⟨i, l, rfl, .refl _, fun x hx hn => h5.1 x hx hn ?_, fun _ _ _ => rfl⟩
   unfold y11; omega
  ·rw [if_neg (by simp only [Bool.or_eq_true, decide_eq_true_eq]; omega)]
   -- the child that is not greater
   have key : ∀ j : Int, (j = 2 * i + 1 ∨ j = 2 * i + 2) → j < n → (∀ x : Int, 0 < x → x < n → y11 x = i → kle (nth l j) (nth l x)) →
     ∃ i' l', ((y1x l j i).bind fun x => if (!x) = true then k i l else (y1y l i j).bind fun x => y1c n k f j x) = k i' l' ∧ l'.Perm l ∧ HP l' n ∧ (∀ x : Int, n ≤ x → x < l.length → nth l' x = nth l x) := by
    intro j hj hjn hmin
    have hji : y11 j = i := by unfold y11; omega
    have hjb : 0 ≤ j ∧ j < l.length := by omega
    have hib : 0 ≤ i ∧ i < l.length := by omega
    rw [y8p hjb hib]
    simp only [Option.bind_some]
    by_cases hl : klt (nth l j) (nth l i)
    ·simp only [hl, decide_true, Bool.not_true, Bool.false_eq_true, if_false]
     rw [y8q hib hjb]
     simp only [Option.bind_some]
     have hd : HD (swp l i j) n j := by
      refine ⟨fun x hx hn hp => ?_, fun _ x hx hn hp => ?_⟩
      ·have hpx : 0 ≤ y11 x ∧ y11 x < x := by unfold y11; omega
       rw [y3u hib hjb ⟨hpx.1, by omega⟩, y3u hib hjb ⟨by omega, by omega⟩, if_neg hp]
       by_cases e1 : y11 x = i
       ·rw [if_pos e1]
        by_cases e2 : x = j
        ·rw [if_pos e2]; exact y5f hl
        ·rw [if_neg e2, if_neg (by omega)]; exact hmin x hx hn e1
       ·rw [if_neg e1]
        by_cases e2 : x = j
        ·subst e2; exact absurd hji e1
        ·rw [if_neg e2]
         by_cases e3 : x = i
         ·rw [if_pos e3]
          have := h5.2 (by omega) j (by omega) hjn hji
          rw [e3]; exact this
         ·rw [if_neg e3]; exact h5.1 x hx hn e1
      ·have hpx : y11 x < x := by unfold y11; omega
       rw [hji, y3u hib hjb hib, y3u hib hjb ⟨by omega, by omega⟩, if_neg (by omega), if_pos rfl, if_neg (by omega), if_neg (by omega)]
       have := h5.1 x hx hn (by omega)
       rw [hp] at this; exact this
     obtain ⟨i', l', e1, e2, e3, e4⟩ := y8I (n := n) (k := k) f j (swp l i j) hjb.1 (by rw [y3d]; exact h1) (by rw [y3d]; exact h2) (by rw [y3d]; omega) (by rw [y3d]; omega) hd
     refine ⟨i', l', e1, e2.trans (y7C hib hjb), e3, fun x hx hn => ?_⟩
     rw [e4 x hx (by rw [y3d]; exact hn), y3u hib hjb ⟨by omega, hn⟩, if_neg (by omega), if_neg (by omega)]
    ·simp only [hl, decide_false, Bool.not_false, if_true]
     refine ⟨i, l, rfl, .refl _, fun x hx hn => ?_, fun _ _ _ => rfl⟩
     by_cases e : y11 x = i
     ·rw [e]; exact y5Q hl (hmin x hx hn e)
     ·exact h5.1 x hx hn e
   refine y1H (P := fun o => ∃ i' l', o = k i' l' ∧ l'.Perm l ∧ HP l' n ∧ (∀ x : Int, n ≤ x → x < l.length → nth l' x = nth l x)) fun kk hkk => ?_
   have hch : ∀ x : Int, 0 < x → y11 x = i → x = 2 * i + 1 ∨ x = 2 * i + 2 := fun x hx hp => by unfold y11 at hp; omega
   by_cases h6 : 2 * i + 1 + 1 < n
   ·rw [if_pos (decide_eq_true h6), y8p ⟨by omega, by omega⟩ ⟨by omega, by omega⟩]
    simp only [Option.bind_some, decide_eq_true_eq]
    by_cases h7 : klt (nth l (2 * i + 1 + 1)) (nth l (2 * i + 1))
    ·rw [if_pos h7, hkk]
     refine key _ (by omega) h6 fun x hx hn hp => ?_
     rcases hch x hx hp with rfl | rfl
     ·exact y5f h7
     ·rw [show 2 * i + 2 = 2 * i + 1 + 1 by omega]; exact y6D _
    ·rw [if_neg h7, hkk]
     refine key _ (by omega) (by omega) fun x hx hn hp => ?_
     rcases hch x hx hp with rfl | rfl
     ·exact y6D _
     ·rw [show 2 * i + 2 = 2 * i + 1 + 1 by omega]; exact h7
   ·rw [if_neg (by simpa using h6)]
    simp only [Option.bind_some, Bool.false_eq_true, if_false]
    rw [hkk]
    refine key _ (by omega) (by omega) fun x hx hn hp => ?_
    rcases hch x hx hp with rfl | rfl
    ·exact y6D _
    ·omega
theorem root_le {l : List Ev} {n : Int} (h : HP l n) : ∀ (m : Nat) (x : Int), x = m → x < n → kle (nth l 0) (nth l x) := by
 intro m
 induction m using Nat.strongRecOn with
 | _ m ih =>
  intro x hx hn
  by_cases h0 : x = 0
  ·rw [h0]; exact y6D _
  ·have hp : 0 ≤ y11 x ∧ y11 x < x := by unfold y11; omega
   exact y5Q (ih (y11 x).toNat (by omega) (y11 x) (by omega) (by omega)) (h x (by omega) hn)
theorem down_eq {n : Int} {l : List Ev} (h1 : n ≤ l.length) (h2 : l.length < 1000000000) (h5 : HD l n 0) :
  ∃ b l', y2o l 0 n = some (b, l') ∧ l'.Perm l ∧ HP l' n ∧ (∀ x : Int, n ≤ x → x < l.length → nth l' x = nth l x) := by
 unfold y2o
 refine y3y (P := fun o => ∃ b l', o = some (b, l') ∧ l'.Perm l ∧ HP l' n ∧ (∀ x : Int, n ≤ x → x < l.length → nth l' x = nth l x)) fun k hk => ?_
 have hF := y1d
 generalize ys = N at hF ⊢
 obtain ⟨i', l', e1, e2, e3, e4⟩ := y8I (n := n) (k := k) N 0 l (by omega) h1 h2 (by omega) (by omega) h5
 rw [e1, hk]
 exact ⟨_, l', rfl, e2, e3, e4⟩
theorem pop_eq {l : List Ev} (h0 : l ≠ []) (hl : (l.length : Int) < 1000000000) (h : HP l l.length) : ∃ e l', y2u l = some (e, l') ∧ (e :: l').Perm l ∧ HP l' l'.length ∧ ∀ x ∈ l, kle e x := by
 have hpos : 0 < (l.length : Int) := by cases l with | nil => exact absurd rfl h0 | cons => simp
 unfold y2u y2g
 simp only [Option.bind_some]
 rw [ym (x := (l.length : Int) - 1) (by omega), y8q ⟨by omega, hpos⟩ ⟨by omega, by omega⟩]
 simp only [Option.bind_some]
 have hb0 : (0 : Int) ≤ 0 ∧ (0 : Int) < l.length := ⟨by omega, hpos⟩
 have hbn : (0 : Int) ≤ (l.length : Int) - 1 ∧ (l.length : Int) - 1 < l.length := ⟨by omega, by omega⟩
 have hd : HD (swp l 0 ((l.length : Int) - 1)) ((l.length : Int) - 1) 0 := by
  refine ⟨fun x hx hn hp => ?_, fun h => absurd h (by omega)⟩
  have hpx : 0 ≤ y11 x ∧ y11 x < x := by unfold y11; omega
  rw [y3u hb0 hbn ⟨hpx.1, by omega⟩, y3u hb0 hbn ⟨by omega, by omega⟩, if_neg (by omega), if_neg hp, if_neg (by omega), if_neg (by omega)]
  exact h x hx (by omega)
 obtain ⟨b', l', e1, e2, e3, e4⟩ := down_eq (n := (l.length : Int) - 1) (l := swp l 0 ((l.length : Int) - 1)) (by rw [y3d]; omega) (by rw [y3d]; omega) hd
 rw [e1]
 have hlen : (l'.length : Int) = l.length := by have := e2.length_eq; rw [y3d] at this; omega
 simp only [Option.bind_some]
 unfold y2X
 rw [hlen, ym (by omega), yn ⟨by omega, by omega⟩, yn ⟨by omega, by omega⟩]
 simp only [Option.bind_some]
 have hlast : nth l' ((l.length : Int) - 1) = nth l 0 := by
  rw [e4 _ (Int.le_refl _) (by rw [y3d]; omega), y3u hb0 hbn hbn, if_pos rfl]
 have happ : l' = l'.take ((l.length : Int) - 1).toNat ++ [nth l' ((l.length : Int) - 1)] := by
  have h1 : ((l.length : Int) - 1).toNat < l'.length := by omega
  rw [y2x ⟨by omega, by omega⟩, List.take_append_getElem h1, List.take_of_length_le (by omega)]
 refine ⟨nth l' ((l.length : Int) - 1), l'.take ((l.length : Int) - 1).toNat, rfl, ?_, ?_, ?_⟩
 ·refine List.Perm.trans ?_ (e2.trans (y7C hb0 hbn))
  refine List.Perm.trans ?_ (List.Perm.of_eq happ.symm)
  exact (List.perm_append_comm (l₁ := [_]))
 ·intro x hx hn
  rw [List.length_take] at hn
  have hpx : 0 ≤ y11 x ∧ y11 x < x := by unfold y11; omega
  have hin : ∀ y : Int, 0 ≤ y → y < (l.length : Int) - 1 → nth (l'.take ((l.length : Int) - 1).toNat) y = nth l' y := fun y a b => by
   rw [y2x (l := l'.take _) ⟨a, by rw [List.length_take]; omega⟩, y2x (l := l') ⟨a, by omega⟩, List.getElem_take]
  rw [hin _ hpx.1 (by omega), hin x (by omega) (by omega)]
  exact e3 x hx (by omega)
 ·intro x hx
  rw [hlast]
  obtain ⟨i, hi, rfl⟩ := List.getElem_of_mem hx
  have := root_le h i (i : Int) rfl (by omega)
  rw [y2x (l := l) (i := (i : Int)) ⟨by omega, by omega⟩] at this
  simpa using this
end Go.Proofs.Ytinchjigeakocaa
