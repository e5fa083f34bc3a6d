/- A part of this claim's proof: models of functions, walks, plain laws. No conditions. -/
import Derived.Test.YtcahmabkeaijdaaGreatW35of
import Derived.Test.YtcahmabkeaijdaaGreatZLoops
namespace Go.Proofs.YtcahmabkeaijdaaGreat
open Go Go.RowKit Sep
set_option linter.all false
theorem y4r {R : Type} {K : Option R} {F : Option R → Option R} {P : Option R → Prop} (h : ∀ k : Option R, k = K → P (F k)) : P (jp0 K F) := h K rfl
theorem y4Y {R A0 : Type} {K : A0 → Option R} {F : (A0 → Option R) → Option R} {P : Option R → Prop} (h : ∀ k : A0 → Option R, (∀ x0, k x0 = K x0) → P (F k)) : P (jp1 K F) := h K fun _ => rfl
/-! ### comparisons -/
def cmpI (x y : Int) : Int := if x < y then -1 else if x > y then 1 else 0
theorem ydF (x y : Int) : y3u x y = some (cmpI x y) := by
 unfold y3u y4L cmpI
 simp only [ne_eq, not_true_eq_false, decide_false, Option.bind_some, Bool.false_eq_true, if_false, decide_eq_true_eq]
 by_cases h1 : x < y
 ·simp [h1]
 ·by_cases h2 : x > y
  ·simp [h1, h2]
  ·simp [h1, h2]
def orI : List Int → Int
 | [] => 0
 | x :: l => if x ≠ 0 then x else orI l
theorem ydf {l : List Int} {k : Option Int} (hl : l.length < 9000000000000000000) : ∀ (n : Nat) (v : Int), 0 ≤ v → v ≤ l.length → l.length < n + v →
  y3p l k n v = if orI (l.drop v.toNat) ≠ 0 then some (orI (l.drop v.toNat)) else k
 | 0, v, h0, h1, h2 => by omega
 | n + 1, v, h0, h1, h2 => by
  rw [y3p]
  by_cases h : v < l.length
  ·rw [if_pos (decide_eq_true h), y1c ⟨h0, h⟩]
   have hd : l.drop v.toNat = nth l v :: l.drop (v.toNat + 1) := by
    have h3 : v.toNat < l.length := by omega
    rw [← List.getElem_cons_drop h3]
    rw [y66 (l := l) h0 h]
   rw [hd, orI]
   by_cases hz : nth l v = 0
   ·rw [if_neg (by simp [hz]), y1H (by omega), ydf hl n (v + 1) (by omega) (by omega) (by omega), show (v + 1).toNat = v.toNat + 1 by omega]
    simp only [hz, ne_eq, not_true_eq_false, if_false]
   ·rw [if_pos (decide_eq_true hz), if_pos hz, if_pos hz]
  ·rw [if_neg (by simpa using h), List.drop_eq_nil_of_le (by omega)]
   simp [orI]
theorem or_eq {l : List Int} (hl : l.length < 9000000000000000000) : y6b l = some (orI l) := by
 unfold y6b
 refine y4r (P := fun o => o = some (orI l)) fun k hk => ?_
 rw [ydf hl yB 0 (by omega) (by omega) (by rw [y2f]; omega), hk]
 simp only [Int.toNat_zero, List.drop_zero]
 by_cases h : orI l = 0 <;> simp [h]
theorem nthEq {α : Type} [Inhabited α] {l : List α} {i : Int} (h : 0 ≤ i ∧ i < l.length) : nth l i = l[i.toNat]'(by omega) := by
 exact (y66 (l := l) h.1 h.2).symm
theorem y3b {α : Type} [Inhabited α] {l : List α} {v : Int} (h0 : 0 ≤ v) (h : v < l.length) : l.drop v.toNat = nth l v :: l.drop (v.toNat + 1) := by
 have h3 : v.toNat < l.length := by omega
 rw [← List.getElem_cons_drop h3, y66 (l := l) h0 h]
abbrev Cf := Sapi_Config
abbrev Hop := Sapi_Hop
def nM (c : Cf) : Int := c.fModules.length
def nN (c : Cf) : Int := c.fModules.length + c.fSwitches.length
structure Small (c : Cf) : Prop where
 m : c.fModules.length ≤ 1000
 s : c.fSwitches.length ≤ 1000
 l : c.fLinks.length ≤ 1000
 v : c.fVLs.length ≤ 1000
def sw (c : Cf) (n : Int) : Sapi_Switch := nth c.fSwitches (n - nM c)
def nameS (c : Cf) (n : Int) : ByteArray := if n < 0 ∨ n ≥ nN c then ⟨#[]⟩ else if n < nM c then (nth c.fModules n).fName else (sw c n).fName
theorem ycM {c : Cf} (h : Small c) : y3R c = some (nN c) := by
 have := h.m; have := h.s
 unfold y3R nN
 rw [y1H (by omega)]
theorem name_eq {c : Cf} (h : Small c) (n : Int) (hn : -1000000 ≤ n ∧ n ≤ 1000000) : y5g c n = some (nameS c n) := by
 have := h.m; have := h.s
 unfold y5g nameS
 rw [ycM h]
 by_cases h1 : n < 0
 ·simp [h1]
 ·rw [if_neg (by simpa using h1)]
  simp only [Option.bind_some, decide_eq_true_eq]
  by_cases h2 : n ≥ nN c
  ·rw [if_pos h2, if_pos (.inr h2)]
  ·rw [if_neg h2, if_neg (show ¬ (n < 0 ∨ n ≥ nN c) by omega)]
   unfold nN nM at *
   by_cases h3 : n < c.fModules.length
   ·rw [if_pos h3, y1c ⟨by omega, h3⟩, if_pos h3]
   ·rw [if_neg h3, y1H (by omega), y1c ⟨by omega, by omega⟩, if_neg h3]
    rfl
theorem ycd {c : Cf} (h : Small c) {nm : ByteArray} {k : Option Int} : ∀ (f : Nat) (v : Int), 0 ≤ v → v ≤ nN c → nN c < f + v →
  (∃ i : Int, 0 ≤ i ∧ i < nN c ∧ y2q (nN c) c nm k f v = some i) ∨ y2q (nN c) c nm k f v = k
 | 0, v, h0, h1, h2 => by omega
 | f + 1, v, h0, h1, h2 => by
  have hb : nN c ≤ 2000 := by have := h.m; have := h.s; unfold nN; omega
  rw [y2q]
  by_cases h3 : v < nN c
  ·rw [if_pos (decide_eq_true h3), name_eq h v (by omega)]
   simp only [Option.bind_some, decide_eq_true_eq]
   by_cases h4 : nameS c v = nm
   ·rw [if_pos h4]; exact .inl ⟨v, h0, h3, rfl⟩
   ·rw [if_neg h4, y1H (by omega)]
    exact ycd h f (v + 1) (by omega) (by omega) (by omega)
  ·rw [if_neg (by simpa using h3)]; exact .inr rfl
theorem ydg {c : Cf} (h : Small c) (nm : ByteArray) : ∃ i : Int, -1 ≤ i ∧ i < nN c ∧ y2p c nm = some i := by
 unfold y2p
 rw [ycM h]
 have hF := y2f
 generalize yB = N at hF ⊢
 refine y4r (P := fun o => ∃ i : Int, -1 ≤ i ∧ i < nN c ∧ o = some i) fun k hk => ?_
 have hb : 0 ≤ nN c ∧ nN c ≤ 2000 := by have := h.m; have := h.s; unfold nN; omega
 simp only [Option.bind_some]
 rcases ycd h (nm := nm) (k := k) N 0 (by omega) hb.1 (by omega) with ⟨i, h1, h2, h3⟩ | h3
 ·exact ⟨i, by omega, h2, h3⟩
 ·exact ⟨-1, by omega, by omega, h3.trans hk⟩
def fA (c : Cf) (l : Int) : Int := (y2p c (nth c.fLinks l).fA).getD (-1)
def fB (c : Cf) (l : Int) : Int := (y2p c (nth c.fLinks l).fB).getD (-1)
theorem fA_eq {c : Cf} (h : Small c) (l : Int) : y2p c (nth c.fLinks l).fA = some (fA c l) ∧ -1 ≤ fA c l ∧ fA c l < nN c := by
 obtain ⟨i, h1, h2, h3⟩ := ydg h (nth c.fLinks l).fA
 unfold fA; rw [h3]; exact ⟨rfl, h1, h2⟩
theorem fB_eq {c : Cf} (h : Small c) (l : Int) : y2p c (nth c.fLinks l).fB = some (fB c l) ∧ -1 ≤ fB c l ∧ fB c l < nN c := by
 obtain ⟨i, h1, h2, h3⟩ := ydg h (nth c.fLinks l).fB
 unfold fB; rw [h3]; exact ⟨rfl, h1, h2⟩
def y9T (c : Cf) (net n : Int) : Prop := 0 ≤ n ∧ (n < nM c ∨ (sw c n).fNet = net ∧ 0 ≤ (sw c n).fDelay ∧ (sw c n).fDelay ≤ 1000 ∧ 0 ≤ (sw c n).fStore ∧ (sw c n).fStore ≤ 1073741824)
instance (c : Cf) (net n : Int) : Decidable (y9T c net n) := inferInstanceAs (Decidable (_ ∧ _))
theorem ydh {c : Cf} (h : Small c) {net n : Int} (hn : -1 ≤ n ∧ n < nN c) : y4i c net n = some (decide (y9T c net n)) := by
 have := h.m; have := h.s
 unfold y4i
 unfold nN at hn
 by_cases h1 : n < c.fModules.length
 ·rw [if_pos (decide_eq_true h1)]
  refine congrArg some ?_
  rw [Bool.eq_iff_iff, decide_eq_true_iff, decide_eq_true_iff]
  unfold y9T nM
  exact ⟨fun h => ⟨h, .inl h1⟩, fun h => h.1⟩
 ·rw [if_neg (by simpa using h1), y1H (by omega), y1c ⟨by omega, by omega⟩]
  refine congrArg some ?_
  rw [Bool.eq_iff_iff, decide_eq_true_iff]
  unfold y9T sw nM
  simp only [Bool.and_eq_true, decide_eq_true_eq]
  constructor
  ·rintro ⟨⟨⟨⟨a, b⟩, e⟩, d⟩, f⟩; exact ⟨by omega, .inr ⟨a, b, e, d, f⟩⟩
  ·rintro ⟨_, a | ⟨a, b, e, d, f⟩⟩
   ·exact absurd a h1
   ·exact ⟨⟨⟨⟨a, b⟩, e⟩, d⟩, f⟩
def JN (c : Cf) (net link a b : Int) : Prop := 0 ≤ link ∧ link < c.fLinks.length ∧ (nth c.fLinks link).fNet = net ∧ 1 ≤ (nth c.fLinks link).fSlow ∧ (nth c.fLinks link).fSlow ≤ 16 ∧ fA c link ≠ fB c link ∧
 y9T c net (fA c link) ∧ y9T c net (fB c link) ∧ (fA c link = a ∧ fB c link = b ∨ fA c link = b ∧ fB c link = a)
instance (c : Cf) (net link a b : Int) : Decidable (JN c net link a b) := inferInstanceAs (Decidable (_ ∧ _))
theorem joins_eq {c : Cf} (h : Small c) (net link a b : Int) : y4I c net link a b = some (decide (JN c net link a b)) := by
 unfold y4I
 by_cases h1 : link < 0 ∨ link ≥ c.fLinks.length
 ·rw [if_pos (by simpa using h1)]
  congr 1; symm
  rw [decide_eq_false_iff_not]
  rintro ⟨a, b, _⟩; omega
 ·rw [if_neg (by simpa using h1), y1c ⟨by omega, by omega⟩]
  obtain ⟨a1, a2, a3⟩ := fA_eq h link
  obtain ⟨b1, b2, b3⟩ := fB_eq h link
  rw [a1, b1]
  simp only [Option.bind_some]
  rw [ydh h ⟨a2, a3⟩, ydh h ⟨b2, b3⟩]
  simp only [Option.bind_some]
  by_cases h2 : (nth c.fLinks link).fNet = net ∧ 1 ≤ (nth c.fLinks link).fSlow ∧ (nth c.fLinks link).fSlow ≤ 16 ∧ fA c link ≠ fB c link
  ·rw [if_pos (by simp only [Bool.and_eq_true, decide_eq_true_eq]; exact ⟨⟨⟨h2.1, h2.2.1⟩, h2.2.2.1⟩, h2.2.2.2⟩)]
   simp only [Option.bind_some]
   by_cases h3 : y9T c net (fA c link)
   ·rw [if_pos (decide_eq_true h3)]
    simp only [Option.bind_some]
    congr 1
    rw [Bool.eq_iff_iff]
    simp only [Bool.and_eq_true, Bool.or_eq_true, decide_eq_true_eq]
    constructor
    ·rintro ⟨x, y⟩; exact ⟨by omega, by omega, h2.1, h2.2.1, h2.2.2.1, h2.2.2.2, h3, x, y⟩
    ·rintro ⟨_, _, _, _, _, _, _, x, y⟩; exact ⟨x, y⟩
   ·rw [if_neg (by simpa using h3)]
    simp only [Option.bind_some, Bool.false_and]
    congr 1; symm
    rw [decide_eq_false_iff_not]
    rintro ⟨_, _, _, _, _, _, x, _⟩; exact h3 x
  ·rw [if_neg (by simp only [Bool.and_eq_true, decide_eq_true_eq]; rintro ⟨⟨⟨x, y⟩, z⟩, w⟩; exact h2 ⟨x, y, z, w⟩)]
   simp only [Option.bind_some, Bool.false_eq_true, if_false, Bool.false_and]
   congr 1; symm
   rw [decide_eq_false_iff_not]
   rintro ⟨_, _, x, y, z, w, _⟩; exact h2 ⟨x, y, z, w⟩
/-! ### routes -/
def RK (r : List Hop) (v k : Int) : Prop := k = (nth r 0).fNode ∨ ∃ q : Int, 0 ≤ q ∧ q < v ∧ (nth r q).fNext = k
def y9U (c : Cf) (net : Int) (r : List Hop) (v : Int) : Prop :=
 RK r v (nth r v).fNode ∧ ¬ RK r v (nth r v).fNext ∧ ((nth r v).fNode = (nth r 0).fNode ∨ nM c ≤ (nth r v).fNode) ∧ JN c net (nth r v).fLink (nth r v).fNode (nth r v).fNext
structure VR (c : Cf) (net : Int) (r : List Hop) : Prop where
 len : r.length ≤ 32
 cond : ∀ v : Int, 0 ≤ v → v < r.length → y9U c net r v
theorem yaN {κ γ : Type} [DecidableEq κ] {k k' : κ} {u d : γ} (h : k' ≠ k) : ∀ (l : List (κ × γ)), yp (yG l k u) k' d = yp l k' d
 | [] => by simp [yG, yp, h]
 | p :: l => by
  by_cases hk : k = p.1
  ·subst hk; simp [yG, yp, h]
  ·simp only [yG, hk, if_false, yp]; rw [yaN h l]
theorem yaO {κ γ : Type} [DecidableEq κ] {k : κ} {u d : γ} : ∀ (l : List (κ × γ)), yp (yG l k u) k d = u
 | [] => by simp [yG, yp]
 | p :: l => by
  by_cases hk : k = p.1
  ·subst hk; simp [yG, yp]
  ·simp only [yG, hk, if_false, yp]; exact yaO l
theorem ybA {c : Cf} (h : Small c) {net : Int} {r : List Hop} {k : Option Bool} (hr : r.length < 1000000000) : ∀ (f : Nat) (v : Int) (mp : List (Int × Int)), 0 ≤ v → v ≤ r.length → r.length < f + v →
  (∀ x, 0 ≤ yp mp x 0 ∧ yp mp x 0 ≤ 2 * v ∧ (0 < yp mp x 0 ↔ 0 < v ∧ RK r v x)) →
  ((∃ q : Int, v ≤ q ∧ q < r.length ∧ ¬ y9U c net r q) ∧ y2d r c net k f v mp = some false) ∨ ((∀ q : Int, v ≤ q → q < r.length → y9U c net r q) ∧ y2d r c net k f v mp = k)
 | 0, v, mp, h0, h1, h2, h3 => by omega
 | f + 1, v, mp, h0, h1, h2, h3 => by
  rw [y2d]
  by_cases hv : v < r.length
  ·rw [if_pos (decide_eq_true hv), y1c ⟨h0, hv⟩]
   refine y4Y (P := fun o => ((∃ q : Int, v ≤ q ∧ q < r.length ∧ ¬ y9U c net r q) ∧ o = some false) ∨ ((∀ q : Int, v ≤ q → q < r.length → y9U c net r q) ∧ o = k)) fun kk hkk => ?_
   -- the map in which the start is counted
   have hm : ∃ mp1, (if decide (v = 0) = true then kk (yG mp ((nth r v).fNode) (i64 ((yp mp ((nth r v).fNode) 0) + 1))) else kk mp) = kk mp1 ∧ (∀ x, 0 ≤ yp mp1 x 0 ∧ yp mp1 x 0 ≤ 2 * v + 1 ∧ (0 < yp mp1 x 0 ↔ RK r v x)) := by
    by_cases hv0 : v = 0
    ·subst hv0
     rw [if_pos (by simp)]
     refine ⟨_, rfl, fun x => ?_⟩
     have h4 := h3 (nth r 0).fNode
     rw [y1H (by omega)]
     by_cases hx : x = (nth r 0).fNode
     ·subst hx; rw [yaO]
      refine ⟨by omega, by omega, fun _ => .inl rfl, fun _ => by omega⟩
     ·rw [yaN hx]
      have h5 := h3 x
      refine ⟨by omega, by omega, fun h6 => absurd (h5.2.2.1 h6).1 (by omega), fun h6 => ?_⟩
      rcases h6 with h6 | ⟨q, q1, q2, _⟩
      ·exact absurd h6 hx
      ·omega
    ·rw [if_neg (by simpa using hv0)]
     refine ⟨mp, rfl, fun x => ?_⟩
     have h5 := h3 x
     exact ⟨by omega, by omega, fun h6 => (h5.2.2.1 h6).2, fun h6 => h5.2.2.2 ⟨by omega, h6⟩⟩
   obtain ⟨mp1, e1, h4⟩ := hm
   rw [e1, hkk, y1c (fun _ hc => ⟨by omega, by omega⟩), joins_eq h]
   simp only [Option.bind_some]
   have hN := h4 (nth r v).fNode
   have hX := h4 (nth r v).fNext
   -- the condition
   have hc : ∃ b, (if ((decide ((yp mp1 ((nth r v).fNode) 0) = 0)) || (decide ((yp mp1 ((nth r v).fNext) 0) > 0)) || ((decide (v > 0)) && (decide (((nth r v).fNode) ≠ ((nth r 0).fNode))) && (decide (((nth r v).fNode) < ((c.fModules.length : Nat) : Int))))) = true then some true else some (!decide (JN c net ((nth r v).fLink) ((nth r v).fNode) ((nth r v).fNext)))) = some b ∧ (b = true ↔ ¬ y9U c net r v) := by
    by_cases hb : (decide ((yp mp1 ((nth r v).fNode) 0) = 0) || decide ((yp mp1 ((nth r v).fNext) 0) > 0) || (decide (v > 0) && decide (((nth r v).fNode) ≠ ((nth r 0).fNode)) && decide (((nth r v).fNode) < ((c.fModules.length : Nat) : Int)))) = true
    ·rw [if_pos hb]
     refine ⟨true, rfl, fun _ => ?_, fun _ => rfl⟩
     rintro ⟨a1, a2, a3, _⟩
     simp only [Bool.or_eq_true, Bool.and_eq_true, decide_eq_true_eq] at hb
     rcases hb with (hb | hb) | ⟨⟨b1, b2⟩, b3⟩
     ·have := hN.2.2.2 a1; omega
     ·exact a2 (hX.2.2.1 hb)
     ·unfold nM at a3; rcases a3 with a3 | a3
      ·exact b2 a3
      ·omega
    ·rw [if_neg hb]
     refine ⟨_, rfl, ?_⟩
     simp only [Bool.or_eq_true, Bool.and_eq_true, decide_eq_true_eq, not_or, not_and] at hb
     obtain ⟨⟨b1, b2⟩, b3⟩ := hb
     have c1 : RK r v (nth r v).fNode := hN.2.2.1 (by omega)
     have c2 : ¬ RK r v (nth r v).fNext := fun hk => b2 (hX.2.2.2 hk)
     have c3 : (nth r v).fNode = (nth r 0).fNode ∨ nM c ≤ (nth r v).fNode := by
      unfold nM
      by_cases e : (nth r v).fNode = (nth r 0).fNode
      ·exact .inl e
      ·refine .inr ?_
       by_cases e0 : v = 0
       ·subst e0; exact absurd rfl e
       ·have := b3 ⟨by omega, e⟩; omega
     simp only [Bool.not_eq_true', decide_eq_false_iff_not]
     exact ⟨fun hj hc => hj hc.2.2.2, fun hc hj => hc ⟨c1, c2, c3, hj⟩⟩
   obtain ⟨b, hb1, hb2⟩ := hc
   rw [hb1]
   simp only [Option.bind_some]
   by_cases hb : b = true
   ·rw [if_pos hb]; exact .inl ⟨⟨v, Int.le_refl _, hv, hb2.1 hb⟩, rfl⟩
   ·rw [if_neg hb]
    have hcv : y9U c net r v := Classical.byContradiction fun hn => hb (hb2.2 hn)
    rw [y1H (x := v + 1) (by omega), y1H (by omega)]
    have hnx : ∀ x, 0 ≤ yp (yG mp1 ((nth r v).fNext) ((yp mp1 ((nth r v).fNext) 0) + 1)) x 0 ∧ yp (yG mp1 ((nth r v).fNext) ((yp mp1 ((nth r v).fNext) 0) + 1)) x 0 ≤ 2 * (v + 1) ∧ (0 < yp (yG mp1 ((nth r v).fNext) ((yp mp1 ((nth r v).fNext) 0) + 1)) x 0 ↔ 0 < v + 1 ∧ RK r (v + 1) x) := by
     intro x
     by_cases hx : x = (nth r v).fNext
     ·subst hx; rw [yaO]
      exact ⟨by omega, by omega, fun _ => ⟨by omega, .inr ⟨v, h0, by omega, rfl⟩⟩, fun _ => by omega⟩
     ·rw [yaN hx]
      have h5 := h4 x
      refine ⟨by omega, by omega, fun h6 => ⟨by omega, ?_⟩, fun h6 => h5.2.2.2 ?_⟩
      ·rcases h5.2.2.1 h6 with h7 | ⟨q, q1, q2, q3⟩
       ·exact .inl h7
       ·exact .inr ⟨q, q1, by omega, q3⟩
      ·rcases h6.2 with h7 | ⟨q, q1, q2, q3⟩
       ·exact .inl h7
       ·by_cases e : q = v
        ·subst e; exact absurd q3.symm hx
        ·exact .inr ⟨q, q1, by omega, q3⟩
    rcases ybA h hr f (v + 1) (yG mp1 ((nth r v).fNext) ((yp mp1 ((nth r v).fNext) 0) + 1)) (by omega) (by omega) (by omega) hnx (k := k) (net := net) with ⟨⟨q, q1, q2, q3⟩, h5⟩ | ⟨h5, h6⟩
    ·exact .inl ⟨⟨q, by omega, q2, q3⟩, h5⟩
    ·refine .inr ⟨fun q q1 q2 => ?_, h6⟩
     by_cases e : q = v
     ·rw [e]; exact hcv
     ·exact h5 q (by omega) q2
  ·rw [if_neg (by simpa using hv)]
   exact .inr ⟨fun q h1 h2 => by omega, rfl⟩
theorem ybg {c : Cf} (h : Small c) {net : Int} {r : List Hop} (hr : r.length < 1000000000) : ∃ b, y4J c net r = some b ∧ (b = true ↔ VR c net r) := by
 unfold y4J
 have hF := y2f
 generalize yB = N at hF ⊢
 refine y4r (P := fun o => ∃ b, o = some b ∧ (b = true ↔ VR c net r)) fun k hk => ?_
 rcases ybA h hr N 0 [] (by omega) (by omega) (by omega) (fun x => by simp [yp]) (k := k) (net := net) with ⟨⟨q, q1, q2, q3⟩, h5⟩ | ⟨h5, h6⟩
 ·refine ⟨false, h5, ?_⟩
  simp only [Bool.false_eq_true, false_iff]
  exact fun hv => q3 (hv.cond q q1 q2)
 ·refine ⟨_, h6.trans hk, ?_⟩
  rw [decide_eq_true_eq]
  exact ⟨fun hl => ⟨by omega, h5⟩, fun hv => by have := hv.len; omega⟩
theorem yb0 {l : List (List Hop)} {f : List Hop → Option Bool} {k : Option Int} (hf : ∀ y ∈ l, ∃ b, f y = some b) (hl : l.length < 1000000000) : ∀ (n : Nat) (v : Int), 0 ≤ v → v ≤ l.length → l.length < n + v →
  (∃ i : Int, v ≤ i ∧ i < l.length ∧ f (nth l i) = some true ∧ yK l f k n v = some i) ∨ ((∀ i : Int, v ≤ i → i < l.length → f (nth l i) = some false) ∧ yK l f k n v = k)
 | 0, v, h0, h1, h2 => by omega
 | n + 1, v, h0, h1, h2 => by
  rw [yK]
  by_cases h : v < l.length
  ·rw [if_pos (decide_eq_true h), y1c ⟨h0, h⟩]
   obtain ⟨b, hb⟩ := hf _ (y5c h0 h)
   rw [hb]
   simp only [Option.bind_some]
   cases b with
   | true => exact .inl ⟨v, Int.le_refl _, h, hb, by simp⟩
   | false =>
    simp only [Bool.false_eq_true, if_false]
    rw [y1H (x := v + 1) (by omega)]
    rcases yb0 hf hl n (v + 1) (by omega) (by omega) (by omega) (k := k) with ⟨i, i1, i2, i3, i4⟩ | ⟨i1, i2⟩
    ·exact .inl ⟨i, by omega, i2, i3, i4⟩
    ·refine .inr ⟨fun i j1 j2 => ?_, i2⟩
     by_cases e : i = v
     ·rw [e]; exact hb
     ·exact i1 i (by omega) j2
  ·rw [if_neg (by simpa using h)]
   exact .inr ⟨fun i h1 h2 => by omega, rfl⟩
structure VA (c : Cf) (net : Int) (rs : List (List Hop)) : Prop where
 nt : net = 0 ∨ net = 1
 len : rs.length = c.fVLs.length
 most : rs.length ≤ 16
 each : ∀ r ∈ rs, VR c net r
theorem ycN {c : Cf} (h : Small c) {net : Int} {rs : List (List Hop)} (hr : ∀ r ∈ rs, r.length < 1000000000) (hl : rs.length < 1000000000) : ∃ b, y3n c net rs = some b ∧ (b = true ↔ VA c net rs) := by
 unfold y3n
 by_cases h1 : (net = 0 ∨ net = 1) ∧ rs.length = c.fVLs.length ∧ rs.length ≤ 16
 ·rw [if_pos (by simp only [Bool.and_eq_true, Bool.or_eq_true, decide_eq_true_eq]; omega)]
  unfold y18 y1E
  have hF := y2f
  generalize yB = N at hF ⊢
  have hf : ∀ y ∈ rs, ∃ b, (fun (y0 : List Hop) => y12 y0 c net) y = some b := fun y hy => by
   obtain ⟨b, hb, _⟩ := ybg h (net := net) (hr y hy)
   exact ⟨!b, by show y12 y c net = _; unfold y12; rw [hb]; rfl⟩
  have hi : ∃ x : Int, (jp0 (some (-1)) fun k => yK rs (fun (y0 : List Hop) => y12 y0 c net) k N 0) = some x ∧ (x < 0 ↔ ∀ i : Int, 0 ≤ i → i < rs.length → y12 (nth rs i) c net = some false) := by
   refine y4r (P := fun o => ∃ x : Int, o = some x ∧ (x < 0 ↔ ∀ i : Int, 0 ≤ i → i < rs.length → y12 (nth rs i) c net = some false)) fun k hk => ?_
   rcases yb0 hf hl N 0 (by omega) (by omega) (by omega) (k := k) with ⟨i, i1, i2, i3, i4⟩ | ⟨i1, i2⟩
   ·refine ⟨i, i4, fun hx => absurd hx (by omega), fun hx => ?_⟩
    have := hx i i1 i2
    have i3' : y12 (nth rs i) c net = some true := i3
    rw [this] at i3'; cases i3'
   ·exact ⟨-1, i2.trans hk, fun _ => i1, fun _ => by omega⟩
  obtain ⟨x, hx1, hx2⟩ := hi
  rw [hx1]
  refine ⟨_, rfl, ?_⟩
  simp only [Bool.not_eq_true', decide_eq_false_iff_not]
  have hall : (∀ i : Int, 0 ≤ i → i < rs.length → y12 (nth rs i) c net = some false) ↔ ∀ r ∈ rs, VR c net r := by
   constructor
   ·intro hh r hrm
    obtain ⟨i, hi, rfl⟩ := List.getElem_of_mem hrm
    have h3 := hh (i : Int) (by omega) (by omega)
    rw [nthEq ⟨by omega, by omega⟩] at h3
    simp only [Int.toNat_natCast] at h3
    obtain ⟨b, hb, hb2⟩ := ybg h (net := net) (hr _ (List.getElem_mem hi))
    unfold y12 at h3
    rw [hb] at h3
    simp at h3
    exact hb2.1 h3
   ·intro hh i i1 i2
    have hm := y5c i1 i2
    obtain ⟨b, hb, hb2⟩ := ybg h (net := net) (hr _ hm)
    unfold y12
    rw [hb, hb2.2 (hh _ hm)]; rfl
  constructor
  ·intro hh; exact ⟨h1.1, h1.2.1, h1.2.2, hall.1 (hx2.1 (by omega))⟩
  ·intro hh; have := hx2.2 (hall.2 hh.each); omega
 ·rw [if_neg (by simp only [Bool.and_eq_true, Bool.or_eq_true, decide_eq_true_eq]; omega)]
  refine ⟨false, rfl, ?_⟩
  simp only [Bool.false_eq_true, false_iff]
  exact fun hv => h1 ⟨hv.nt, hv.len, hv.most⟩
/-! ### frames -/
structure FewP (c : Cf) (rs : List (List Hop)) : Prop where
 m : c.fModules.length ≤ 8
 s : c.fSwitches.length ≤ 8
 l : c.fLinks.length ≤ 20
 v : c.fVLs.length ≤ 20
 r : rs.length ≤ 20
 e : ∀ r ∈ rs, r.length ≤ 40
theorem FewP.small {c : Cf} {rs : List (List Hop)} (h : FewP c rs) : Small c := ⟨by have := h.m; omega, by have := h.s; omega, by have := h.l; omega, by have := h.v; omega⟩
theorem ycO {rs : List (List Hop)} {k : Option Bool} (hl : rs.length ≤ 20) : ∀ (n : Nat) (v : Int), 0 ≤ v → v ≤ rs.length → rs.length < n + v →
  y3F rs k n v = if ∀ r ∈ rs.drop v.toNat, r.length ≤ 40 then k else some false
 | 0, v, h0, h1, h2 => by omega
 | n + 1, v, h0, h1, h2 => by
  rw [y3F]
  by_cases h : v < rs.length
  ·rw [if_pos (decide_eq_true h), y1c ⟨h0, h⟩, y3b h0 h]
   by_cases hr : (((nth rs v).length : Nat) : Int) > 40
   ·rw [if_pos (decide_eq_true hr), if_neg]
    intro hc; have := hc (nth rs v) (by simp); omega
   ·rw [if_neg (by simpa using hr), y1H (x := v + 1) (by omega), ycO hl n (v + 1) (by omega) (by omega) (by omega), show (v + 1).toNat = v.toNat + 1 by omega]
    by_cases hq : ∀ r ∈ rs.drop (v.toNat + 1), r.length ≤ 40
    ·rw [if_pos hq, if_pos]
     intro r hr'
     rcases List.mem_cons.1 hr' with rfl | hr'
     ·omega
     ·exact hq r hr'
    ·rw [if_neg hq, if_neg]
     exact fun hc => hq fun r hr' => hc r (List.mem_cons_of_mem _ hr')
  ·rw [if_neg (by simpa using h), if_pos]
   rw [List.drop_eq_nil_of_le (by omega)]; simp
theorem Few_eq (c : Cf) (rs : List (List Hop)) : ∃ b, y6M c rs = some b ∧ (b = true ↔ FewP c rs) := by
 unfold y6M
 by_cases h : c.fModules.length ≤ 8 ∧ c.fSwitches.length ≤ 8 ∧ c.fLinks.length ≤ 20 ∧ c.fVLs.length ≤ 20 ∧ rs.length ≤ 20
 ·obtain ⟨h1, h2, h3, h4, h5⟩ := h
  rw [if_neg (by simp only [Bool.or_eq_true, Bool.and_eq_true, decide_eq_true_eq]; omega)]
  refine y4r (P := fun o => ∃ b, o = some b ∧ (b = true ↔ FewP c rs)) fun k hk => ?_
  rw [ycO h5 yB 0 (by omega) (by omega) (by rw [y2f]; omega), hk]
  simp only [Int.toNat_zero, List.drop_zero]
  by_cases hq : ∀ r ∈ rs, r.length ≤ 40
  ·rw [if_pos hq]; exact ⟨true, rfl, by simp; exact ⟨h1, h2, h3, h4, h5, hq⟩⟩
  ·rw [if_neg hq]; exact ⟨false, rfl, by simp; exact fun hc => hq hc.e⟩
 ·rw [if_pos (by simp only [Bool.or_eq_true, Bool.and_eq_true, decide_eq_true_eq]; omega)]
  refine ⟨false, rfl, by simp; exact fun hc => h ⟨hc.m, hc.s, hc.l, hc.v, hc.r⟩⟩
end Go.Proofs.YtcahmabkeaijdaaGreat
