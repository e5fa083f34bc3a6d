/- A part of this claim's proof: models of functions, walks, plain laws. No conditions. -/
import Derived.Test.YtcahmabkeaijdaaGreatW35xf
import Derived.Test.YtcahmabkeaijdaaGreatZMem
set_option linter.all false
namespace Go.Proofs.YtcahmabkeaijdaaGreat
open Go Go.RowKit Sep
theorem y50 {R : Type} {K : Option R} {F : Option R → Option R} {P : Option R → Prop} (h : ∀ k : Option R, k = K → P (F k)) : P (jp0 K F) := h K rfl
theorem y2h {R A0 : Type} {K : A0 → Option R} {F : (A0 → Option R) → Option R} {P : Option R → Prop} (h : ∀ k : A0 → Option R, (∀ x0, k x0 = K x0) → P (F k)) : P (jp1 K F) := h K fun _ => rfl
theorem y90 {R A0 A1 : Type} {K : A0 → A1 → Option R} {F : (A0 → A1 → Option R) → Option R} {P : Option R → Prop} (h : ∀ k : A0 → A1 → Option R, (∀ x0 x1, k x0 x1 = K x0 x1) → P (F k)) : P (jp2 K F) := h K fun _ _ => rfl
/-! ### comparisons -/
def cmpI (x y : Int) : Int := if x < y then -1 else if x > y then 1 else 0
theorem yft (x y : Int) : y44 x y = some (cmpI x y) := by
 unfold y44 y5j cmpI
 simp only [ne_eq, not_true_eq_false, decide_false, Option.bind_some, Bool.false_eq_true, if_false, decide_eq_true_eq]
 by_cases h1 : x < y
 ·simp [h1]
 ·by_cases h2 : x > y
  ·simp [h1, h2]
  ·simp [h1, h2]
def orI : List Int → Int
 | [] => 0
 | x :: l => if x ≠ 0 then x else orI l
theorem yeU {l : List Int} {k : Option Int} (hl : l.length < 9000000000000000000) : ∀ (n : Nat) (v : Int), 0 ≤ v → v ≤ l.length → l.length < n + v →
  y3V l k n v = if orI (l.drop v.toNat) ≠ 0 then some (orI (l.drop v.toNat)) else k
 | 0, v, h0, h1, h2 => by omega
 | n + 1, v, h0, h1, h2 => by
  rw [y3V]
  by_cases h : v < l.length
  ·rw [if_pos (decide_eq_true h), yr ⟨h0, h⟩]
   have hd : l.drop v.toNat = nth l v :: l.drop (v.toNat + 1) := by
    have h3 : v.toNat < l.length := by omega
    rw [← List.getElem_cons_drop h3]
    rw [y4S (l := l) h0 h]
   rw [hd, orI]
   by_cases hz : nth l v = 0
   ·rw [if_neg (by simp [hz]), yD (by omega), yeU hl n (v + 1) (by omega) (by omega) (by omega), show (v + 1).toNat = v.toNat + 1 by omega]
    simp only [hz, ne_eq, not_true_eq_false, if_false]
   ·rw [if_pos (decide_eq_true hz), if_pos hz, if_pos hz]
  ·rw [if_neg (by simpa using h), List.drop_eq_nil_of_le (by omega)]
   simp [orI]
theorem or_eq {l : List Int} (hl : l.length < 9000000000000000000) : y6x l = some (orI l) := by
 unfold y6x
 refine y50 (P := fun o => o = some (orI l)) fun k hk => ?_
 rw [yeU hl yz 0 (by omega) (by omega) (by rw [yU]; omega), hk]
 simp only [Int.toNat_zero, List.drop_zero]
 by_cases h : orI l = 0 <;> simp [h]
theorem yaa {α : Type} [Inhabited α] {l : List α} {i : Int} (h : 0 ≤ i ∧ i < l.length) : nth l i = l[i.toNat]'(by omega) := by
 exact (y4S (l := l) h.1 h.2).symm
theorem y4z {α : Type} [Inhabited α] {l : List α} {v : Int} (h0 : 0 ≤ v) (h : v < l.length) : l.drop v.toNat = nth l v :: l.drop (v.toNat + 1) := by
 have h3 : v.toNat < l.length := by omega
 rw [← List.getElem_cons_drop h3, y4S (l := l) h0 h]
abbrev Cf := Sapi_Config
abbrev Hop := Sapi_Hop
def nM (c : Cf) : Int := c.fModules.length
def nN (c : Cf) : Int := c.fModules.length + c.fSwitches.length
structure Small (c : Cf) : Prop where
 m : c.fModules.length ≤ 1000
 s : c.fSwitches.length ≤ 1000
 l : c.fLinks.length ≤ 1000
 v : c.fVLs.length ≤ 1000
def sw (c : Cf) (n : Int) : Sapi_Switch := nth c.fSwitches (n - nM c)
def nameS (c : Cf) (n : Int) : ByteArray := if n < 0 ∨ n ≥ nN c then ⟨#[]⟩ else if n < nM c then (nth c.fModules n).fName else (sw c n).fName
theorem ydU {c : Cf} (h : Small c) : y4p c = some (nN c) := by
 have := h.m; have := h.s
 unfold y4p nN
 rw [yD (by omega)]
theorem name_eq {c : Cf} (h : Small c) (n : Int) (hn : -1000000 ≤ n ∧ n ≤ 1000000) : y5H c n = some (nameS c n) := by
 have := h.m; have := h.s
 unfold y5H nameS
 rw [ydU h]
 by_cases h1 : n < 0
 ·simp [h1]
 ·rw [if_neg (by simpa using h1)]
  simp only [Option.bind_some, decide_eq_true_eq]
  by_cases h2 : n ≥ nN c
  ·rw [if_pos h2, if_pos (.inr h2)]
  ·rw [if_neg h2, if_neg (show ¬ (n < 0 ∨ n ≥ nN c) by omega)]
   unfold nN nM at *
   by_cases h3 : n < c.fModules.length
   ·rw [if_pos h3, yr ⟨by omega, h3⟩, if_pos h3]
   ·rw [if_neg h3, yD (by omega), yr ⟨by omega, by omega⟩, if_neg h3]
    rfl
theorem yd7 {c : Cf} (h : Small c) {nm : ByteArray} {k : Option Int} : ∀ (f : Nat) (v : Int), 0 ≤ v → v ≤ nN c → nN c < f + v →
  (∃ i : Int, 0 ≤ i ∧ i < nN c ∧ y2R (nN c) c nm k f v = some i) ∨ y2R (nN c) c nm k f v = k
 | 0, v, h0, h1, h2 => by omega
 | f + 1, v, h0, h1, h2 => by
  have hb : nN c ≤ 2000 := by have := h.m; have := h.s; unfold nN; omega
  rw [y2R]
  by_cases h3 : v < nN c
  ·rw [if_pos (decide_eq_true h3), name_eq h v (by omega)]
   simp only [Option.bind_some, decide_eq_true_eq]
   by_cases h4 : nameS c v = nm
   ·rw [if_pos h4]; exact .inl ⟨v, h0, h3, rfl⟩
   ·rw [if_neg h4, yD (by omega)]
    exact yd7 h f (v + 1) (by omega) (by omega) (by omega)
  ·rw [if_neg (by simpa using h3)]; exact .inr rfl
theorem yeV {c : Cf} (h : Small c) (nm : ByteArray) : ∃ i : Int, -1 ≤ i ∧ i < nN c ∧ y2O c nm = some i := by
 unfold y2O
 rw [ydU h]
 have hF := yU
 generalize yz = N at hF ⊢
 refine y50 (P := fun o => ∃ i : Int, -1 ≤ i ∧ i < nN c ∧ o = some i) fun k hk => ?_
 have hb : 0 ≤ nN c ∧ nN c ≤ 2000 := by have := h.m; have := h.s; unfold nN; omega
 simp only [Option.bind_some]
 rcases yd7 h (nm := nm) (k := k) N 0 (by omega) hb.1 (by omega) with ⟨i, h1, h2, h3⟩ | h3
 ·exact ⟨i, by omega, h2, h3⟩
 ·exact ⟨-1, by omega, by omega, h3.trans hk⟩
def fA (c : Cf) (l : Int) : Int := (y2O c (nth c.fLinks l).fA).getD (-1)
def fB (c : Cf) (l : Int) : Int := (y2O c (nth c.fLinks l).fB).getD (-1)
theorem fA_eq {c : Cf} (h : Small c) (l : Int) : y2O c (nth c.fLinks l).fA = some (fA c l) ∧ -1 ≤ fA c l ∧ fA c l < nN c := by
 obtain ⟨i, h1, h2, h3⟩ := yeV h (nth c.fLinks l).fA
 unfold fA; rw [h3]; exact ⟨rfl, h1, h2⟩
theorem fB_eq {c : Cf} (h : Small c) (l : Int) : y2O c (nth c.fLinks l).fB = some (fB c l) ∧ -1 ≤ fB c l ∧ fB c l < nN c := by
 obtain ⟨i, h1, h2, h3⟩ := yeV h (nth c.fLinks l).fB
 unfold fB; rw [h3]; exact ⟨rfl, h1, h2⟩
def y9j (c : Cf) (net n : Int) : Prop := 0 ≤ n ∧ (n < nM c ∨ (sw c n).fNet = net ∧ 0 ≤ (sw c n).fDelay ∧ (sw c n).fDelay ≤ 1000 ∧ 0 ≤ (sw c n).fStore ∧ (sw c n).fStore ≤ 1073741824)
instance (c : Cf) (net n : Int) : Decidable (y9j c net n) := inferInstanceAs (Decidable (_ ∧ _))
theorem yeW {c : Cf} (h : Small c) {net n : Int} (hn : -1 ≤ n ∧ n < nN c) : y4Q c net n = some (decide (y9j c net n)) := by
 have := h.m; have := h.s
 unfold y4Q
 unfold nN at hn
 by_cases h1 : n < c.fModules.length
 ·rw [if_pos (decide_eq_true h1)]
  refine congrArg some ?_
  rw [Bool.eq_iff_iff, decide_eq_true_iff, decide_eq_true_iff]
  unfold y9j nM
  exact ⟨fun h => ⟨h, .inl h1⟩, fun h => h.1⟩
 ·rw [if_neg (by simpa using h1), yD (by omega), yr ⟨by omega, by omega⟩]
  refine congrArg some ?_
  rw [Bool.eq_iff_iff, decide_eq_true_iff]
  unfold y9j sw nM
  simp only [Bool.and_eq_true, decide_eq_true_eq]
  constructor
  ·rintro ⟨⟨⟨⟨a, b⟩, e⟩, d⟩, f⟩; exact ⟨by omega, .inr ⟨a, b, e, d, f⟩⟩
  ·rintro ⟨_, a | ⟨a, b, e, d, f⟩⟩
   ·exact absurd a h1
   ·exact ⟨⟨⟨⟨a, b⟩, e⟩, d⟩, f⟩
def JN (c : Cf) (net link a b : Int) : Prop := 0 ≤ link ∧ link < c.fLinks.length ∧ (nth c.fLinks link).fNet = net ∧ 1 ≤ (nth c.fLinks link).fSlow ∧ (nth c.fLinks link).fSlow ≤ 16 ∧ fA c link ≠ fB c link ∧
 y9j c net (fA c link) ∧ y9j c net (fB c link) ∧ (fA c link = a ∧ fB c link = b ∨ fA c link = b ∧ fB c link = a)
instance (c : Cf) (net link a b : Int) : Decidable (JN c net link a b) := inferInstanceAs (Decidable (_ ∧ _))
theorem joins_eq {c : Cf} (h : Small c) (net link a b : Int) : y5g c net link a b = some (decide (JN c net link a b)) := by
 unfold y5g
 by_cases h1 : link < 0 ∨ link ≥ c.fLinks.length
 ·rw [if_pos (by simpa using h1)]
  congr 1; symm
  rw [decide_eq_false_iff_not]
  rintro ⟨a, b, _⟩; omega
 ·rw [if_neg (by simpa using h1), yr ⟨by omega, by omega⟩]
  obtain ⟨a1, a2, a3⟩ := fA_eq h link
  obtain ⟨b1, b2, b3⟩ := fB_eq h link
  rw [a1, b1]
  simp only [Option.bind_some]
  rw [yeW h ⟨a2, a3⟩, yeW h ⟨b2, b3⟩]
  simp only [Option.bind_some]
  by_cases h2 : (nth c.fLinks link).fNet = net ∧ 1 ≤ (nth c.fLinks link).fSlow ∧ (nth c.fLinks link).fSlow ≤ 16 ∧ fA c link ≠ fB c link
  ·rw [if_pos (by simp only [Bool.and_eq_true, decide_eq_true_eq]; exact ⟨⟨⟨h2.1, h2.2.1⟩, h2.2.2.1⟩, h2.2.2.2⟩)]
   simp only [Option.bind_some]
   by_cases h3 : y9j c net (fA c link)
   ·rw [if_pos (decide_eq_true h3)]
    simp only [Option.bind_some]
    congr 1
    rw [Bool.eq_iff_iff]
    simp only [Bool.and_eq_true, Bool.or_eq_true, decide_eq_true_eq]
    constructor
    ·rintro ⟨x, y⟩; exact ⟨by omega, by omega, h2.1, h2.2.1, h2.2.2.1, h2.2.2.2, h3, x, y⟩
    ·rintro ⟨_, _, _, _, _, _, _, x, y⟩; exact ⟨x, y⟩
   ·rw [if_neg (by simpa using h3)]
    simp only [Option.bind_some, Bool.false_and]
    congr 1; symm
    rw [decide_eq_false_iff_not]
    rintro ⟨_, _, _, _, _, _, x, _⟩; exact h3 x
  ·rw [if_neg (by simp only [Bool.and_eq_true, decide_eq_true_eq]; rintro ⟨⟨⟨x, y⟩, z⟩, w⟩; exact h2 ⟨x, y, z, w⟩)]
   simp only [Option.bind_some, Bool.false_eq_true, if_false, Bool.false_and]
   congr 1; symm
   rw [decide_eq_false_iff_not]
   rintro ⟨_, _, x, y, z, w, _⟩; exact h2 ⟨x, y, z, w⟩
/-! ### routes -/
def RK (r : List Hop) (v k : Int) : Prop := k = (nth r 0).fNode ∨ ∃ q : Int, 0 ≤ q ∧ q < v ∧ (nth r q).fNext = k
def yab (c : Cf) (net : Int) (r : List Hop) (v : Int) : Prop :=
 RK r v (nth r v).fNode ∧ ¬ RK r v (nth r v).fNext ∧ ((nth r v).fNode = (nth r 0).fNode ∨ nM c ≤ (nth r v).fNode) ∧ JN c net (nth r v).fLink (nth r v).fNode (nth r v).fNext
structure VR (c : Cf) (net : Int) (r : List Hop) : Prop where
 len : r.length ≤ 32
 cond : ∀ v : Int, 0 ≤ v → v < r.length → yab c net r v
theorem ybc {κ γ : Type} [DecidableEq κ] {k k' : κ} {u d : γ} (h : k' ≠ k) : ∀ (l : List (κ × γ)), yn (yJ l k u) k' d = yn l k' d
 | [] => by simp [yJ, yn, h]
 | p :: l => by
  by_cases hk : k = p.1
  ·subst hk; simp [yJ, yn, h]
  ·simp only [yJ, hk, if_false, yn]; rw [ybc h l]
theorem y9K {κ γ : Type} [DecidableEq κ] {k : κ} {u d : γ} : ∀ (l : List (κ × γ)), yn (yJ l k u) k d = u
 | [] => by simp [yJ, yn]
 | p :: l => by
  by_cases hk : k = p.1
  ·subst hk; simp [yJ, yn]
  ·simp only [yJ, hk, if_false, yn]; exact y9K l
theorem ycf {c : Cf} (h : Small c) {net : Int} {r : List Hop} {k : Option Bool} (hr : r.length < 1000000000) : ∀ (f : Nat) (v : Int) (mp : List (Int × Int)), 0 ≤ v → v ≤ r.length → r.length < f + v →
  (∀ x, 0 ≤ yn mp x 0 ∧ yn mp x 0 ≤ 2 * v ∧ (0 < yn mp x 0 ↔ 0 < v ∧ RK r v x)) →
  ((∃ q : Int, v ≤ q ∧ q < r.length ∧ ¬ yab c net r q) ∧ y2A r c net k f v mp = some false) ∨ ((∀ q : Int, v ≤ q → q < r.length → yab c net r q) ∧ y2A r c net k f v mp = k)
 | 0, v, mp, h0, h1, h2, h3 => by omega
 | f + 1, v, mp, h0, h1, h2, h3 => by
  rw [y2A]
  by_cases hv : v < r.length
  ·rw [if_pos (decide_eq_true hv), yr ⟨h0, hv⟩]
   refine y2h (P := fun o => ((∃ q : Int, v ≤ q ∧ q < r.length ∧ ¬ yab c net r q) ∧ o = some false) ∨ ((∀ q : Int, v ≤ q → q < r.length → yab c net r q) ∧ o = k)) fun kk hkk => ?_
   -- the map in which the start is counted
   have hm : ∃ mp1, (if decide (v = 0) = true then kk (yJ mp ((nth r v).fNode) (i64 ((yn mp ((nth r v).fNode) 0) + 1))) else kk mp) = kk mp1 ∧ (∀ x, 0 ≤ yn mp1 x 0 ∧ yn mp1 x 0 ≤ 2 * v + 1 ∧ (0 < yn mp1 x 0 ↔ RK r v x)) := by
    by_cases hv0 : v = 0
    ·subst hv0
     rw [if_pos (by simp)]
     refine ⟨_, rfl, fun x => ?_⟩
     have h4 := h3 (nth r 0).fNode
     rw [yD (by omega)]
     by_cases hx : x = (nth r 0).fNode
     ·subst hx; rw [y9K]
      refine ⟨by omega, by omega, fun _ => .inl rfl, fun _ => by omega⟩
     ·rw [ybc hx]
      have h5 := h3 x
      refine ⟨by omega, by omega, fun h6 => absurd (h5.2.2.1 h6).1 (by omega), fun h6 => ?_⟩
      rcases h6 with h6 | ⟨q, q1, q2, _⟩
      ·exact absurd h6 hx
      ·omega
    ·rw [if_neg (by simpa using hv0)]
     refine ⟨mp, rfl, fun x => ?_⟩
     have h5 := h3 x
     exact ⟨by omega, by omega, fun h6 => (h5.2.2.1 h6).2, fun h6 => h5.2.2.2 ⟨by omega, h6⟩⟩
   obtain ⟨mp1, e1, h4⟩ := hm
   rw [e1, hkk, yr (fun _ hc => ⟨by omega, by omega⟩), joins_eq h]
   simp only [Option.bind_some]
   have hN := h4 (nth r v).fNode
   have hX := h4 (nth r v).fNext
   -- the condition
   have hc : ∃ b, (if ((decide ((yn mp1 ((nth r v).fNode) 0) = 0)) || (decide ((yn mp1 ((nth r v).fNext) 0) > 0)) || ((decide (v > 0)) && (decide (((nth r v).fNode) ≠ ((nth r 0).fNode))) && (decide (((nth r v).fNode) < ((c.fModules.length : Nat) : Int))))) = true then some true else some (!decide (JN c net ((nth r v).fLink) ((nth r v).fNode) ((nth r v).fNext)))) = some b ∧ (b = true ↔ ¬ yab c net r v) := by
    by_cases hb : (decide ((yn mp1 ((nth r v).fNode) 0) = 0) || decide ((yn mp1 ((nth r v).fNext) 0) > 0) || (decide (v > 0) && decide (((nth r v).fNode) ≠ ((nth r 0).fNode)) && decide (((nth r v).fNode) < ((c.fModules.length : Nat) : Int)))) = true
    ·rw [if_pos hb]
     refine ⟨true, rfl, fun _ => ?_, fun _ => rfl⟩
     rintro ⟨a1, a2, a3, _⟩
     simp only [Bool.or_eq_true, Bool.and_eq_true, decide_eq_true_eq] at hb
     rcases hb with (hb | hb) | ⟨⟨b1, b2⟩, b3⟩
     ·have := hN.2.2.2 a1; omega
     ·exact a2 (hX.2.2.1 hb)
     ·unfold nM at a3; rcases a3 with a3 | a3
      ·exact b2 a3
      ·omega
    ·rw [if_neg hb]
     refine ⟨_, rfl, ?_⟩
     simp only [Bool.or_eq_true, Bool.and_eq_true, decide_eq_true_eq, not_or, not_and] at hb
     obtain ⟨⟨b1, b2⟩, b3⟩ := hb
     have c1 : RK r v (nth r v).fNode := hN.2.2.1 (by omega)
     have c2 : ¬ RK r v (nth r v).fNext := fun hk => b2 (hX.2.2.2 hk)
     have c3 : (nth r v).fNode = (nth r 0).fNode ∨ nM c ≤ (nth r v).fNode := by
      unfold nM
      by_cases e : (nth r v).fNode = (nth r 0).fNode
      ·exact .inl e
      ·refine .inr ?_
       by_cases e0 : v = 0
       ·subst e0; exact absurd rfl e
       ·have := b3 ⟨by omega, e⟩; omega
     simp only [Bool.not_eq_true', decide_eq_false_iff_not]
     exact ⟨fun hj hc => hj hc.2.2.2, fun hc hj => hc ⟨c1, c2, c3, hj⟩⟩
   obtain ⟨b, hb1, hb2⟩ := hc
   rw [hb1]
   simp only [Option.bind_some]
   by_cases hb : b = true
   ·rw [if_pos hb]; exact .inl ⟨⟨v, Int.le_refl _, hv, hb2.1 hb⟩, rfl⟩
   ·rw [if_neg hb]
    have hcv : yab c net r v := Classical.byContradiction fun hn => hb (hb2.2 hn)
    rw [yD (x := v + 1) (by omega), yD (by omega)]
    have hnx : ∀ x, 0 ≤ yn (yJ mp1 ((nth r v).fNext) ((yn mp1 ((nth r v).fNext) 0) + 1)) x 0 ∧ yn (yJ mp1 ((nth r v).fNext) ((yn mp1 ((nth r v).fNext) 0) + 1)) x 0 ≤ 2 * (v + 1) ∧ (0 < yn (yJ mp1 ((nth r v).fNext) ((yn mp1 ((nth r v).fNext) 0) + 1)) x 0 ↔ 0 < v + 1 ∧ RK r (v + 1) x) := by
     intro x
     by_cases hx : x = (nth r v).fNext
     ·subst hx; rw [y9K]
      exact ⟨by omega, by omega, fun _ => ⟨by omega, .inr ⟨v, h0, by omega, rfl⟩⟩, fun _ => by omega⟩
     ·rw [ybc hx]
      have h5 := h4 x
      refine ⟨by omega, by omega, fun h6 => ⟨by omega, ?_⟩, fun h6 => h5.2.2.2 ?_⟩
      ·rcases h5.2.2.1 h6 with h7 | ⟨q, q1, q2, q3⟩
       ·exact .inl h7
       ·exact .inr ⟨q, q1, by omega, q3⟩
      ·rcases h6.2 with h7 | ⟨q, q1, q2, q3⟩
       ·exact .inl h7
       ·by_cases e : q = v
        ·subst e; exact absurd q3.symm hx
        ·exact .inr ⟨q, q1, by omega, q3⟩
    rcases ycf h hr f (v + 1) (yJ mp1 ((nth r v).fNext) ((yn mp1 ((nth r v).fNext) 0) + 1)) (by omega) (by omega) (by omega) hnx (k := k) (net := net) with ⟨⟨q, q1, q2, q3⟩, h5⟩ | ⟨h5, h6⟩
    ·exact .inl ⟨⟨q, by omega, q2, q3⟩, h5⟩
    ·refine .inr ⟨fun q q1 q2 => ?_, h6⟩
     by_cases e : q = v
     ·rw [e]; exact hcv
     ·exact h5 q (by omega) q2
  ·rw [if_neg (by simpa using hv)]
   exact .inr ⟨fun q h1 h2 => by omega, rfl⟩
theorem ybL {c : Cf} (h : Small c) {net : Int} {r : List Hop} (hr : r.length < 1000000000) : ∃ b, y5h c net r = some b ∧ (b = true ↔ VR c net r) := by
 unfold y5h
 have hF := yU
 generalize yz = N at hF ⊢
 refine y50 (P := fun o => ∃ b, o = some b ∧ (b = true ↔ VR c net r)) fun k hk => ?_
 rcases ycf h hr N 0 [] (by omega) (by omega) (by omega) (fun x => by simp [yn]) (k := k) (net := net) with ⟨⟨q, q1, q2, q3⟩, h5⟩ | ⟨h5, h6⟩
 ·refine ⟨false, h5, ?_⟩
  simp only [Bool.false_eq_true, false_iff]
  exact fun hv => q3 (hv.cond q q1 q2)
 ·refine ⟨_, h6.trans hk, ?_⟩
  rw [decide_eq_true_eq]
  exact ⟨fun hl => ⟨by omega, h5⟩, fun hv => by have := hv.len; omega⟩
theorem y9r {l : List (List Hop)} {f : List Hop → Option Bool} {k : Option Int} (hf : ∀ y ∈ l, ∃ b, f y = some b) (hl : l.length < 1000000000) : ∀ (n : Nat) (v : Int), 0 ≤ v → v ≤ l.length → l.length < n + v →
  (∃ i : Int, v ≤ i ∧ i < l.length ∧ f (nth l i) = some true ∧ yK l f k n v = some i) ∨ ((∀ i : Int, v ≤ i → i < l.length → f (nth l i) = some false) ∧ yK l f k n v = k)
 | 0, v, h0, h1, h2 => by omega
 | n + 1, v, h0, h1, h2 => by
  rw [yK]
  by_cases h : v < l.length
  ·rw [if_pos (decide_eq_true h), yr ⟨h0, h⟩]
   obtain ⟨b, hb⟩ := hf _ (y1B h0 h)
   rw [hb]
   simp only [Option.bind_some]
   cases b with
   | true => exact .inl ⟨v, Int.le_refl _, h, hb, by simp⟩
   | false =>
    simp only [Bool.false_eq_true, if_false]
    rw [yD (x := v + 1) (by omega)]
    rcases y9r hf hl n (v + 1) (by omega) (by omega) (by omega) (k := k) with ⟨i, i1, i2, i3, i4⟩ | ⟨i1, i2⟩
    ·exact .inl ⟨i, by omega, i2, i3, i4⟩
    ·refine .inr ⟨fun i j1 j2 => ?_, i2⟩
     by_cases e : i = v
     ·rw [e]; exact hb
     ·exact i1 i (by omega) j2
  ·rw [if_neg (by simpa using h)]
   exact .inr ⟨fun i h1 h2 => by omega, rfl⟩
structure VA (c : Cf) (net : Int) (rs : List (List Hop)) : Prop where
 nt : net = 0 ∨ net = 1
 len : rs.length = c.fVLs.length
 most : rs.length ≤ 16
 each : ∀ r ∈ rs, VR c net r
theorem ydV {c : Cf} (h : Small c) {net : Int} {rs : List (List Hop)} (hr : ∀ r ∈ rs, r.length < 1000000000) (hl : rs.length < 1000000000) : ∃ b, y3T c net rs = some b ∧ (b = true ↔ VA c net rs) := by
 unfold y3T
 by_cases h1 : (net = 0 ∨ net = 1) ∧ rs.length = c.fVLs.length ∧ rs.length ≤ 16
 ·rw [if_pos (by simp only [Bool.and_eq_true, Bool.or_eq_true, decide_eq_true_eq]; omega)]
  unfold yV y1D
  have hF := yU
  generalize yz = N at hF ⊢
  have hf : ∀ y ∈ rs, ∃ b, (fun (y0 : List Hop) => y1l y0 c net) y = some b := fun y hy => by
   obtain ⟨b, hb, _⟩ := ybL h (net := net) (hr y hy)
   exact ⟨!b, by show y1l y c net = _; unfold y1l; rw [hb]; rfl⟩
  have hi : ∃ x : Int, (jp0 (some (-1)) fun k => yK rs (fun (y0 : List Hop) => y1l y0 c net) k N 0) = some x ∧ (x < 0 ↔ ∀ i : Int, 0 ≤ i → i < rs.length → y1l (nth rs i) c net = some false) := by
   refine y50 (P := fun o => ∃ x : Int, o = some x ∧ (x < 0 ↔ ∀ i : Int, 0 ≤ i → i < rs.length → y1l (nth rs i) c net = some false)) fun k hk => ?_
   rcases y9r hf hl N 0 (by omega) (by omega) (by omega) (k := k) with ⟨i, i1, i2, i3, i4⟩ | ⟨i1, i2⟩
   ·refine ⟨i, i4, fun hx => absurd hx (by omega), fun hx => ?_⟩
    have := hx i i1 i2
    have i3' : y1l (nth rs i) c net = some true := i3
    rw [this] at i3'; cases i3'
   ·exact ⟨-1, i2.trans hk, fun _ => i1, fun _ => by omega⟩
  obtain ⟨x, hx1, hx2⟩ := hi
  rw [hx1]
  refine ⟨_, rfl, ?_⟩
  simp only [Bool.not_eq_true', decide_eq_false_iff_not]
  have hall : (∀ i : Int, 0 ≤ i → i < rs.length → y1l (nth rs i) c net = some false) ↔ ∀ r ∈ rs, VR c net r := by
   constructor
   ·intro hh r hrm
    obtain ⟨i, hi, rfl⟩ := List.getElem_of_mem hrm
    have h3 := hh (i : Int) (by omega) (by omega)
    rw [yaa ⟨by omega, by omega⟩] at h3
    simp only [Int.toNat_natCast] at h3
    obtain ⟨b, hb, hb2⟩ := ybL h (net := net) (hr _ (List.getElem_mem hi))
    unfold y1l at h3
    rw [hb] at h3
    simp at h3
    exact hb2.1 h3
   ·intro hh i i1 i2
    have hm := y1B i1 i2
    obtain ⟨b, hb, hb2⟩ := ybL h (net := net) (hr _ hm)
    unfold y1l
    rw [hb, hb2.2 (hh _ hm)]; rfl
  constructor
  ·intro hh; exact ⟨h1.1, h1.2.1, h1.2.2, hall.1 (hx2.1 (by omega))⟩
  ·intro hh; have := hx2.2 (hall.2 hh.each); omega
 ·rw [if_neg (by simp only [Bool.and_eq_true, Bool.or_eq_true, decide_eq_true_eq]; omega)]
  refine ⟨false, rfl, ?_⟩
  simp only [Bool.false_eq_true, false_iff]
  exact fun hv => h1 ⟨hv.nt, hv.len, hv.most⟩
/-! ### frames -/
structure FewP (c : Cf) (rs : List (List Hop)) : Prop where
 m : c.fModules.length ≤ 8
 s : c.fSwitches.length ≤ 8
 l : c.fLinks.length ≤ 20
 v : c.fVLs.length ≤ 20
 r : rs.length ≤ 20
 e : ∀ r ∈ rs, r.length ≤ 40
theorem FewP.small {c : Cf} {rs : List (List Hop)} (h : FewP c rs) : Small c := ⟨by have := h.m; omega, by have := h.s; omega, by have := h.l; omega, by have := h.v; omega⟩
theorem ydW {rs : List (List Hop)} {k : Option Bool} (hl : rs.length ≤ 20) : ∀ (n : Nat) (v : Int), 0 ≤ v → v ≤ rs.length → rs.length < n + v →
  y4e rs k n v = if ∀ r ∈ rs.drop v.toNat, r.length ≤ 40 then k else some false
 | 0, v, h0, h1, h2 => by omega
 | n + 1, v, h0, h1, h2 => by
  rw [y4e]
  by_cases h : v < rs.length
  ·rw [if_pos (decide_eq_true h), yr ⟨h0, h⟩, y4z h0 h]
   by_cases hr : (((nth rs v).length : Nat) : Int) > 40
   ·rw [if_pos (decide_eq_true hr), if_neg]
    intro hc; have := hc (nth rs v) (by simp); omega
   ·rw [if_neg (by simpa using hr), yD (x := v + 1) (by omega), ydW hl n (v + 1) (by omega) (by omega) (by omega), show (v + 1).toNat = v.toNat + 1 by omega]
    by_cases hq : ∀ r ∈ rs.drop (v.toNat + 1), r.length ≤ 40
    ·rw [if_pos hq, if_pos]
     intro r hr'
     rcases List.mem_cons.1 hr' with rfl | hr'
     ·omega
     ·exact hq r hr'
    ·rw [if_neg hq, if_neg]
     exact fun hc => hq fun r hr' => hc r (List.mem_cons_of_mem _ hr')
  ·rw [if_neg (by simpa using h), if_pos]
   rw [List.drop_eq_nil_of_le (by omega)]; simp
theorem Few_eq (c : Cf) (rs : List (List Hop)) : ∃ b, y74 c rs = some b ∧ (b = true ↔ FewP c rs) := by
 unfold y74
 by_cases h : c.fModules.length ≤ 8 ∧ c.fSwitches.length ≤ 8 ∧ c.fLinks.length ≤ 20 ∧ c.fVLs.length ≤ 20 ∧ rs.length ≤ 20
 ·obtain ⟨h1, h2, h3, h4, h5⟩ := h
  rw [if_neg (by simp only [Bool.or_eq_true, Bool.and_eq_true, decide_eq_true_eq]; omega)]
  refine y50 (P := fun o => ∃ b, o = some b ∧ (b = true ↔ FewP c rs)) fun k hk => ?_
  rw [ydW h5 yz 0 (by omega) (by omega) (by rw [yU]; omega), hk]
  simp only [Int.toNat_zero, List.drop_zero]
  by_cases hq : ∀ r ∈ rs, r.length ≤ 40
  ·rw [if_pos hq]; exact ⟨true, rfl, by simp; exact ⟨h1, h2, h3, h4, h5, hq⟩⟩
  ·rw [if_neg hq]; exact ⟨false, rfl, by simp; exact fun hc => hq hc.e⟩
 ·rw [if_pos (by simp only [Bool.or_eq_true, Bool.and_eq_true, decide_eq_true_eq]; omega)]
  refine ⟨false, rfl, by simp; exact fun hc => h ⟨hc.m, hc.s, hc.l, hc.v, hc.r⟩⟩
end Go.Proofs.YtcahmabkeaijdaaGreat
namespace Go.Proofs.YtcahmabkeaijdaaGreat
open Go Go.RowKit Sep
theorem jp3_ex' {RR A0 A1 A2 : Type} {K : A0 → A1 → A2 → Option RR} {F : (A0 → A1 → A2 → Option RR) → Option RR} {P : Option RR → Prop} (h : ∀ k : A0 → A1 → A2 → Option RR, (∀ x0 x1 x2, k x0 x1 x2 = K x0 x1 x2) → P (F k)) : P (jp3 K F) := h K fun _ _ _ => rfl
/-! ### maps -/
theorem ybM {κ γ : Type} [DecidableEq κ] {k k' : κ} {u : γ} : ∀ l : List (κ × γ), y2J (yJ l k u) k' = (decide (k' = k) || y2J l k')
 | [] => by simp [yJ, y2J]
 | p :: l => by
  by_cases hk : k = p.1
  ·subst hk
   by_cases h2 : k' = p.1 <;> simp [yJ, y2J, h2]
  ·simp only [yJ, hk, if_false, y2J, ybM l]
   by_cases h2 : k' = p.1
   ·simp [h2]
   ·simp [h2]
theorem y7i {κ γ : Type} [DecidableEq κ] {k k' : κ} {u d : γ} (l : List (κ × γ)) : yn (yJ l k u) k' d = if k' = k then u else yn l k' d := by
 by_cases h : k' = k
 ·subst h; rw [y9K, if_pos rfl]
 ·rw [ybc h, if_neg h]
/-! ### sorting by a strict order -/
theorem yaV {α : Type} {p : α → α → Option Int} {lt : α → α → Prop} {l0 : List α} (hp : ∀ x ∈ l0, ∀ y ∈ l0, (cby p x y ≤ 0 ↔ ¬ lt y x)) (hasym : ∀ x y, lt x y → ¬ lt y x) (htr : ∀ x y z, ¬ lt y x → ¬ lt z y → ¬ lt z x) {x : α} (hx : x ∈ l0) : ∀ l : List α, (∀ y ∈ l, y ∈ l0) → (l.Pairwise fun a b => ¬ lt b a) → (y6G p x l).Pairwise fun a b => ¬ lt b a
 | [], _, _ => by simp [y6G]
 | y :: l, hl, h => by
  obtain ⟨h1, h2⟩ := List.pairwise_cons.1 h
  unfold y6G
  split
  ·rename_i hxy
   have hxy := (hp x hx y (hl y (by simp))).1 hxy
   refine List.pairwise_cons.2 ⟨fun z hz => ?_, h⟩
   rcases List.mem_cons.1 hz with rfl | hz
   ·exact hxy
   ·exact htr _ _ _ hxy (h1 z hz)
  ·rename_i hxy
   have hyx : lt y x := by
    by_cases hc : lt y x
    ·exact hc
    ·exact absurd ((hp x hx y (hl y (by simp))).2 hc) hxy
   refine List.pairwise_cons.2 ⟨fun z hz => ?_, yaV hp hasym htr hx l (fun z hz => hl z (List.mem_cons_of_mem _ hz)) h2⟩
   rcases List.mem_cons.1 ((y9W _ x l).mem_iff.1 hz) with rfl | hz
   ·exact hasym _ _ hyx
   ·exact h1 z hz
theorem yam {α : Type} {p : α → α → Option Int} {lt : α → α → Prop} {l0 : List α} (hp : ∀ x ∈ l0, ∀ y ∈ l0, (cby p x y ≤ 0 ↔ ¬ lt y x)) (hasym : ∀ x y, lt x y → ¬ lt y x) (htr : ∀ x y z, ¬ lt y x → ¬ lt z y → ¬ lt z x) : ∀ l : List α, (∀ y ∈ l, y ∈ l0) → (yS p l).Pairwise fun a b => ¬ lt b a
 | [], _ => by simp [yS]
 | x :: l, hl => by
  unfold yS
  exact yaV hp hasym htr (hl x (by simp)) _ (fun y hy => hl y (List.mem_cons_of_mem _ ((y3x p l).mem_iff.1 hy))) (yam hp hasym htr l fun y hy => hl y (List.mem_cons_of_mem _ hy))
theorem ycM {α : Type} [DecidableEq α] {p : α → α → Option Int} {lt : α → α → Prop} {l : List α} (hp : ∀ x ∈ l, ∀ y ∈ l, ∃ v, p x y = some v ∧ (v < 0 ↔ lt x y) ∧ (v ≤ 0 ↔ ¬ lt y x)) (hasym : ∀ x y, lt x y → ¬ lt y x) (htr : ∀ x y z, ¬ lt y x → ¬ lt z y → ¬ lt z x)
  (heq : ∀ x ∈ l, ∀ y ∈ l, ¬ lt x y → ¬ lt y x → x = y) : y7d p (yS p l) = true ∧ (yS p l).Pairwise fun a b => ¬ lt b a := by
 have hc : ∀ x ∈ l, ∀ y ∈ l, p x y = some (cby p x y) ∧ (cby p x y < 0 ↔ lt x y) ∧ (cby p x y ≤ 0 ↔ ¬ lt y x) := fun x hx y hy => by
  obtain ⟨v, h1, h2, h3⟩ := hp x hx y hy
  unfold cby; rw [h1]; exact ⟨rfl, h2, h3⟩
 have hm : ∀ x ∈ yS p l, x ∈ l := fun x hx => (y3x p l).mem_iff.1 hx
 have hs := yam (fun x hx y hy => (hc x hx y hy).2.2) hasym htr l (fun y hy => hy)
 refine ⟨?_, hs⟩
 simp only [y7d, Bool.and_eq_true, List.all_eq_true, Bool.not_eq_true', decide_eq_false_iff_not, y9X]
 refine ⟨fun x hx => ⟨fun y hy => by rw [(hc x (hm x hx) y (hm y hy)).1]; rfl, fun h => ?_⟩, ?_⟩
 ·have := ((hc x (hm x hx) x (hm x hx)).2.1).1 h; exact hasym _ _ this this
 ·refine List.Pairwise.imp_of_mem ?_ hs
  intro x y hx hy hxy
  rw [(hc x (hm x hx) y (hm y hy)).2.1, (hc y (hm y hy) x (hm x hx)).2.1]
  by_cases h : lt x y
  ·exact .inr ⟨h, hxy⟩
  ·exact .inl (heq x (hm x hx) y (hm y hy) h hxy)
theorem ybN (n : Nat) (h : n < 4611686018427387904) : Go.Lib.bitLen n ≤ 62 := Go.Lib.bitLen_le n 62 (by omega) (by omega)
theorem ycN {x : Int} (h : 0 ≤ x ∧ x ≤ 18446744073709551615) : u64 x = x := by
 unfold u64 IntKind.wrap; simp [IntKind.signed, IntKind.bits]; omega
/-! ### places -/
abbrev Pl := Sbound_place
def pk (h : Hop) : Pl := ⟨h.fNode, h.fLink⟩
theorem ycg (h : Hop) : y3U h = some (pk h) := rfl
def plt (a b : Pl) : Prop := a.fNode < b.fNode ∨ a.fNode = b.fNode ∧ a.fLink < b.fLink
theorem ych (a b : Pl) : ∃ v, y1j a b = some v ∧ (v < 0 ↔ plt a b) ∧ (v ≤ 0 ↔ ¬ plt b a) := by
 unfold y1j
 simp only [yft, Option.bind_some]
 rw [or_eq (by simp)]
 refine ⟨_, rfl, ?_⟩
 unfold orI orI orI cmpI plt
 repeat' split
 all_goals first | omega | (constructor <;> omega)
theorem ydX (x y : Pl) : plt x y → ¬ plt y x := by unfold plt; omega
theorem plt_tr (x y z : Pl) : ¬ plt y x → ¬ plt z y → ¬ plt z x := by unfold plt; omega
theorem plt_eq (x y : Pl) (h1 : ¬ plt x y) (h2 : ¬ plt y x) : x = y := by
 unfold plt at h1 h2
 obtain ⟨a, b⟩ := x; obtain ⟨c, d⟩ := y
 simp only at h1 h2
 have : a = c := by omega
 have : b = d := by omega
 subst_vars; rfl
theorem sortP_eq {l : List Pl} (hs : l.length ≤ 1000000) :
  y1r l (fun y0 y1 => y1j y0 y1) = some (yS y1j l) ∧ (yS y1j l).Pairwise fun a b => ¬ plt b a := by
 obtain ⟨ho, hsrt⟩ := ycM (p := y1j) (l := l) (fun x _ y _ => ych x y) ydX plt_tr (fun x _ y _ => plt_eq x y)
 refine ⟨?_, hsrt⟩
 unfold y1r y3W y3f
 rw [ycN (by omega), yr (by omega), Option.bind_some]
 have hb := ybN l.length (by omega)
 rw [Int.toNat_natCast, yr ⟨⟨rfl, rfl⟩, by omega, by omega, by omega⟩, yr ho, Option.bind_some]
theorem ybx {l : List Pl} {v : Pl} {k : Option Int} (hl : l.length < 1000000000) : ∀ (n : Nat) (i : Int), 0 ≤ i → i ≤ l.length → l.length < n + i →
  (v ∈ l.drop i.toNat ∧ ∃ j : Int, 0 ≤ j ∧ yN l v k n i = some j) ∨ (v ∉ l.drop i.toNat ∧ yN l v k n i = k)
 | 0, i, h0, h1, h2 => by omega
 | n + 1, i, h0, h1, h2 => by
  rw [yN]
  by_cases h : i < l.length
  ·rw [if_pos (decide_eq_true h), yr ⟨h0, h⟩, y4z h0 h]
   have e : (⟨((nth l i).fNode), ((nth l i).fLink)⟩ : Sbound_place) = nth l i := rfl
   rw [e]
   by_cases hv : v = nth l i
   ·rw [if_pos (decide_eq_true hv)]
    exact .inl ⟨by rw [hv]; simp, i, h0, rfl⟩
   ·rw [if_neg (by simpa using hv), yD (x := i + 1) (by omega)]
    have e2 : (i + 1).toNat = i.toNat + 1 := by omega
    rcases ybx hl n (i + 1) (by omega) (by omega) (by omega) (v := v) (k := k) with ⟨h3, h4⟩ | ⟨h3, h4⟩
    ·rw [e2] at h3; exact .inl ⟨List.mem_cons_of_mem _ h3, h4⟩
    ·rw [e2] at h3
     refine .inr ⟨fun hc => ?_, h4⟩
     rcases List.mem_cons.1 hc with hc | hc
     ·exact hv hc
     ·exact h3 hc
  ·rw [if_neg (by simpa using h), List.drop_eq_nil_of_le (by omega)]
   exact .inr ⟨by simp, rfl⟩
theorem ydY {l : List Pl} {v : Pl} (hl : l.length < 1000000000) : y1q l v = some (decide (v ∈ l)) := by
 unfold y1q y20
 have hF := yU
 generalize yz = N at hF ⊢
 refine y50 (P := fun o => (o.bind fun x => some (decide (x ≥ 0))) = some (decide (v ∈ l))) fun k hk => ?_
 rcases ybx hl N 0 (by omega) (by omega) (by omega) (v := v) (k := k) with ⟨h1, j, h2, h3⟩ | ⟨h1, h2⟩
 ·rw [h3]; simp only [Int.toNat_zero, List.drop_zero] at h1
  simp [h1, h2]
 ·rw [h2, hk]; simp only [Int.toNat_zero, List.drop_zero] at h1
  simp [h1]
def y5Z (l : List Pl) (h : Hop) : List Pl := if pk h ∈ l then l else l ++ [pk h]
theorem ybO (hs : List Hop) (l : List Pl) : (hs.foldl y5Z l).length ≤ l.length + hs.length := by
 induction hs generalizing l with
 | nil => simp
 | cons h hs ih =>
  have := ih (y5Z l h)
  have h2 : (y5Z l h).length ≤ l.length + 1 := by unfold y5Z; split <;> simp
  simp only [List.foldl_cons, List.length_cons]; omega
theorem yd8 (hs : List Hop) (l : List Pl) (hn : l.Nodup) : (hs.foldl y5Z l).Nodup ∧ ∀ p, p ∈ hs.foldl y5Z l ↔ p ∈ l ∨ ∃ h ∈ hs, pk h = p := by
 induction hs generalizing l with
 | nil => simp [hn]
 | cons h hs ih =>
  have h2 : (y5Z l h).Nodup ∧ ∀ p, p ∈ y5Z l h ↔ p ∈ l ∨ pk h = p := by
   unfold y5Z
   split
   ·rename_i hc
    refine ⟨hn, fun p => ⟨.inl, ?_⟩⟩
    rintro (h | rfl)
    ·exact h
    ·exact hc
   ·rename_i hc
    refine ⟨List.nodup_append.2 ⟨hn, by simp, fun a ha b hb => ?_⟩, fun p => by simp [eq_comm]⟩
    simp at hb; subst hb; exact fun e => hc (e ▸ ha)
  obtain ⟨i1, i2⟩ := ih _ h2.1
  refine ⟨i1, fun p => ?_⟩
  rw [List.foldl_cons, i2, h2.2]
  simp only [List.mem_cons, exists_eq_or_imp, or_assoc]
theorem yd9 {rs : List (List Hop)} {v : Int} {k : List Pl → Option (List Pl)} (hr : (nth rs v).length ≤ 1000) (h0 : 0 ≤ v) (hv : v < rs.length) : ∀ (n : Nat) (o : List Pl) (i : Int), 0 ≤ i → i ≤ (nth rs v).length → (nth rs v).length < n + i → (o.length : Int) + ((nth rs v).length - i) ≤ 1000000 →
  y3n rs v k n o i = k (((nth rs v).drop i.toNat).foldl y5Z o)
 | 0, o, i, a0, a1, a2, a3 => by omega
 | n + 1, o, i, a0, a1, a2, a3 => by
  rw [y3n]
  by_cases h : i < (nth rs v).length
  ·rw [if_pos (decide_eq_true h), y4z a0 h, List.foldl_cons]
   refine y2h (P := fun x => x = _) fun kk hkk => ?_
   rw [yr ⟨a0, h⟩]
   have e : (⟨((nth (nth rs v) i).fNode), ((nth (nth rs v) i).fNext), ((nth (nth rs v) i).fLink)⟩ : Sapi_Hop) = nth (nth rs v) i := rfl
   rw [e, ycg, Option.bind_some, ydY (by omega), Option.bind_some]
   have e2 : (i + 1).toNat = i.toNat + 1 := by omega
   have hlen : (y5Z o (nth (nth rs v) i)).length ≤ o.length + 1 := by unfold y5Z; split <;> simp
   have hgo : kk (y5Z o (nth (nth rs v) i)) = k (((nth rs v).drop (i.toNat + 1)).foldl y5Z (y5Z o (nth (nth rs v) i))) := by
    rw [hkk, yD (x := i + 1) (by omega), yd9 hr h0 hv n _ (i + 1) (by omega) (by omega) (by omega) (by omega), e2]
   by_cases hc : pk (nth (nth rs v) i) ∈ o
   ·rw [if_neg (by simpa using hc), ← hgo]
    unfold y5Z; rw [if_pos hc]
   ·rw [if_pos (by simpa using hc), Option.bind_some, yr (by simp; omega), ← hgo]
    unfold y5Z; rw [if_neg hc]
  ·rw [if_neg (by simpa using h), List.drop_eq_nil_of_le (by omega)]; rfl
def allH (rs : List (List Hop)) : List Hop := rs.flatten
theorem yci {rs : List (List Hop)} {k : List Pl → Option (List Pl)} (hr : ∀ r ∈ rs, r.length ≤ 1000) (hl : rs.length ≤ 100) : ∀ (n : Nat) (o : List Pl) (v : Int), 0 ≤ v → v ≤ rs.length → rs.length < n + v → (o.length : Int) + 1000 * (rs.length - v) ≤ 1000000 →
  y3o rs k n o v = k ((allH (rs.drop v.toNat)).foldl y5Z o)
 | 0, o, i, a0, a1, a2, a3 => by omega
 | n + 1, o, v, a0, a1, a2, a3 => by
  rw [y3o]
  by_cases h : v < rs.length
  ·have hrl := hr _ (y1B a0 h)
   rw [if_pos (decide_eq_true h), y4z a0 h]
   unfold allH
   rw [List.flatten_cons, List.foldl_append]
   refine y2h (P := fun x => x = _) fun kk hkk => ?_
   rw [yr ⟨a0, h⟩]
   refine y2h (P := fun x => x = _) fun k2 hk2 => ?_
   rw [yd9 hrl a0 h yz o 0 (by omega) (by omega) (by rw [yU]; omega) (by omega)]
   simp only [Int.toNat_zero, List.drop_zero]
   have := ybO (nth rs v) o
   rw [hk2, hkk, yD (x := v + 1) (by omega), yci hr hl n _ (v + 1) (by omega) (by omega) (by omega) (by omega), show (v + 1).toNat = v.toNat + 1 by omega]
   rfl
  ·rw [if_neg (by simpa using h), List.drop_eq_nil_of_le (by omega)]; rfl
def PS (rs : List (List Hop)) : List Pl := yS y1j ((allH rs).foldl y5Z [])
theorem ydZ (rs : List (List Hop)) : (PS rs).Nodup := (y3x _ _).nodup_iff.2 (yd8 _ [] (by simp)).1
theorem y91 (rs : List (List Hop)) (p : Pl) : p ∈ PS rs ↔ ∃ r ∈ rs, ∃ h ∈ r, pk h = p := by
 unfold PS
 rw [(y3x _ _).mem_iff, (yd8 _ [] (by simp)).2]
 unfold allH
 simp only [List.not_mem_nil, false_or, List.mem_flatten]
 exact ⟨fun ⟨h, ⟨r, hr, hh⟩, e⟩ => ⟨r, hr, h, hh, e⟩, fun ⟨r, hr, h, hh, e⟩ => ⟨h, ⟨r, hr, hh⟩, e⟩⟩
theorem ye0 {rs : List (List Hop)} {m : Nat} (hr : ∀ r ∈ rs, r.length ≤ m) : (allH rs).length ≤ rs.length * m := by
 unfold allH
 induction rs with
 | nil => simp
 | cons r rs ih =>
  have := ih fun r h => hr r (List.mem_cons_of_mem _ h)
  have h1 := hr r (by simp)
  rw [List.flatten_cons, List.length_append, List.length_cons, Nat.succ_mul]; omega
theorem ye1 {rs : List (List Hop)} {m : Nat} (hr : ∀ r ∈ rs, r.length ≤ m) : (PS rs).length ≤ rs.length * m := by
 unfold PS
 rw [y5b]
 have := ybO (allH rs) []
 have := ye0 hr
 simp at *; omega
theorem yfY {rs : List (List Hop)} (hr : ∀ r ∈ rs, r.length ≤ 1000) (hl : rs.length ≤ 100) : y5I rs = some (PS rs) := by
 unfold y5I
 refine y2h (P := fun o => o = some (PS rs)) fun k hk => ?_
 rw [yci hr hl yz [] 0 (by omega) (by omega) (by rw [yU]; omega) (by simp; omega), hk]
 simp only [Int.toNat_zero, List.drop_zero]
 have h1 := ybO (allH rs) []
 have h2 := ye0 hr
 have h3 : rs.length * 1000 ≤ 100 * 1000 := Nat.mul_le_mul_right _ hl
 rw [(sortP_eq (by simp at h1; omega)).1]
 rfl
/-! ### the hop by which a node is reached -/
def y2I (r : List Hop) (n : Int) : Hop × Bool := match r.find? (fun h => decide (h.fNext = n)) with | some h => (h, true) | none => (⟨0, 0, 0⟩, false)
theorem ybd {r : List Hop} {n : Int} (h : (y2I r n).2 = true) : (y2I r n).1 ∈ r ∧ (y2I r n).1.fNext = n := by
 unfold y2I at *
 split at h
 ·rename_i x hx
  simp only [hx]
  exact ⟨List.mem_of_find?_eq_some hx, by simpa using List.find?_some hx⟩
 ·cases h
theorem ye2 {r : List Hop} {g : Hop} (h : g ∈ r) : (y2I r g.fNext).2 = true := by
 unfold y2I
 split
 ·rfl
 ·rename_i hx
  have := List.find?_eq_none.1 hx g h
  simp at this
theorem yby {r : List Hop} {f : Hop → Option Bool} {p : Hop → Bool} {k : Option Int} (hf : ∀ h ∈ r, f h = some (p h)) (hl : r.length < 1000000000) : ∀ (n : Nat) (i : Int), 0 ≤ i → i ≤ r.length → r.length < n + i →
  (∃ j : Int, 0 ≤ j ∧ j < r.length ∧ (r.drop i.toNat).find? p = some (nth r j) ∧ yT r f k n i = some j) ∨ ((r.drop i.toNat).find? p = none ∧ yT r f k n i = k)
 | 0, i, h0, h1, h2 => by omega
 | n + 1, i, h0, h1, h2 => by
  rw [yT]
  by_cases h : i < r.length
  ·rw [if_pos (decide_eq_true h), yr ⟨h0, h⟩, y4z h0 h]
   have e : (⟨((nth r i).fNode), ((nth r i).fNext), ((nth r i).fLink)⟩ : Sapi_Hop) = nth r i := rfl
   rw [e, hf _ (y1B h0 h), Option.bind_some]
   by_cases hp : p (nth r i) = true
   ·rw [if_pos hp, List.find?_cons_of_pos hp]; exact .inl ⟨i, h0, h, rfl, rfl⟩
   ·rw [if_neg hp, List.find?_cons_of_neg hp, yD (x := i + 1) (by omega)]
    have e2 : (i + 1).toNat = i.toNat + 1 := by omega
    rw [← e2]
    exact yby hf hl n (i + 1) (by omega) (by omega) (by omega)
  ·rw [if_neg (by simpa using h), List.drop_eq_nil_of_le (by omega)]
   exact .inr ⟨rfl, rfl⟩
theorem yda {r : List Hop} {f : Hop → Option Bool} {p : Hop → Bool} (hf : ∀ h ∈ r, f h = some (p h)) (hl : r.length < 1000000000) :
  (∃ j : Int, 0 ≤ j ∧ j < r.length ∧ r.find? p = some (nth r j) ∧ y15 r f = some j) ∨ (r.find? p = none ∧ y15 r f = some (-1)) := by
 unfold y15
 have hF := yU
 generalize yz = N at hF ⊢
 refine y50 (P := fun o => (∃ j : Int, 0 ≤ j ∧ j < r.length ∧ r.find? p = some (nth r j) ∧ o = some j) ∨ (r.find? p = none ∧ o = some (-1))) fun k hk => ?_
 have := yby hf hl N 0 (by omega) (by omega) (by omega) (k := k)
 simp only [Int.toNat_zero, List.drop_zero] at this
 rw [hk] at this ⊢
 exact this
theorem ycO {r : List Hop} {n : Int} (hl : r.length < 1000000000) : y4W r n = some (y2I r n) := by
 unfold y4W y2I
 rcases yda (r := r) (f := fun y0 => y5J y0 n) (p := fun h => decide (h.fNext = n)) (fun h _ => rfl) hl with ⟨j, j0, j1, j2, j3⟩ | ⟨j2, j3⟩
 ·rw [j3, j2, Option.bind_some, if_neg (by simpa using j0), yr ⟨j0, j1⟩]
 ·rw [j3, j2, Option.bind_some]; rfl
theorem ye3 {r : List Hop} {f : Hop → Option Bool} {p : Hop → Bool} (hf : ∀ h ∈ r, f h = some (p h)) (hl : r.length < 1000000000) : y19 r f = some (r.any p) := by
 unfold y19
 rcases yda hf hl with ⟨j, j0, j1, j2, j3⟩ | ⟨j2, j3⟩
 ·rw [j3, Option.bind_some, decide_eq_true j0]
  rw [eq_comm, Option.some.injEq, eq_comm, eq_comm, List.any_eq_true]
  exact ⟨_, y1B j0 j1, List.find?_some j2⟩
 ·rw [j3, Option.bind_some]
  have : r.any p = false := by
   rw [List.any_eq_false]; exact List.find?_eq_none.1 j2
  rw [this]; rfl
end Go.Proofs.YtcahmabkeaijdaaGreat
namespace Go.Proofs.YtcahmabkeaijdaaGreat
open Go Go.RowKit Sep
/-! ### the order of computation -/
def blk1 (r : List Hop) (p : Pl) (mp : List (Pl × Int)) (h : Hop) : Bool := (decide (pk h = p) && (y2I r h.fNode).2) && decide (yn mp (pk (y2I r h.fNode).1) 0 = 0)
theorem yfu {r : List Hop} {p : Pl} {mp : List (Pl × Int)} {h : Hop} (hl : r.length < 1000000000) : y4B h r p mp = some (blk1 r p mp h) := by
 unfold y4B blk1
 rw [ycO hl, ycg, Option.bind_some, Option.bind_some]
 by_cases hc : (decide (pk h = p) && (y2I r h.fNode).2) = true
 ·rw [if_pos hc, ycg, hc]; rfl
 ·rw [if_neg hc]; simp only [Bool.not_eq_true] at hc; rw [hc]; rfl
theorem yeX {s r : List Hop} {p : Pl} {mp : List (Pl × Int)} {k : Option Int} (hr : r.length < 1000000000) (hl : s.length < 1000000000) : ∀ (n : Nat) (i : Int), 0 ≤ i → i ≤ s.length → s.length < n + i →
  ((s.drop i.toNat).any (blk1 r p mp) = true ∧ ∃ j : Int, 0 ≤ j ∧ yQ s r p mp k n i = some j) ∨ ((s.drop i.toNat).any (blk1 r p mp) = false ∧ yQ s r p mp k n i = k)
 | 0, i, h0, h1, h2 => by omega
 | n + 1, i, h0, h1, h2 => by
  rw [yQ]
  by_cases h : i < s.length
  ·rw [if_pos (decide_eq_true h), yr ⟨h0, h⟩, y4z h0 h]
   have e : (⟨((nth s i).fNode), ((nth s i).fNext), ((nth s i).fLink)⟩ : Sapi_Hop) = nth s i := rfl
   rw [e, yfu hr, Option.bind_some, List.any_cons]
   cases hb : blk1 r p mp (nth s i) with
   | true => rw [if_pos rfl]; exact .inl ⟨rfl, i, h0, rfl⟩
   | false =>
    rw [if_neg (by simp), Bool.false_or, yD (x := i + 1) (by omega)]
    have e2 : (i + 1).toNat = i.toNat + 1 := by omega
    rw [← e2]
    exact yeX hr hl n (i + 1) (by omega) (by omega) (by omega)
  ·rw [if_neg (by simpa using h), List.drop_eq_nil_of_le (by omega)]
   exact .inr ⟨rfl, rfl⟩
def blkR (p : Pl) (mp : List (Pl × Int)) (r : List Hop) : Bool := r.any (blk1 r p mp)
theorem yfZ {r : List Hop} {p : Pl} {mp : List (Pl × Int)} (hl : r.length < 1000000000) : y5l r p mp = some (blkR p mp r) := by
 unfold y5l y1V y28
 have hF := yU
 generalize yz = N at hF ⊢
 refine y50 (P := fun o => ((o.bind fun x => some (decide (x ≥ 0))).bind fun x => some x) = some (blkR p mp r)) fun k hk => ?_
 have := yeX (s := r) (r := r) (p := p) (mp := mp) (k := k) hl hl N 0 (by omega) (by omega) (by omega)
 simp only [Int.toNat_zero, List.drop_zero] at this
 unfold blkR
 rcases this with ⟨h1, j, h2, h3⟩ | ⟨h1, h2⟩
 ·rw [h3, h1]; simp [h2]
 ·rw [h2, hk, h1]; simp
theorem yeY {s : List (List Hop)} {p : Pl} {mp : List (Pl × Int)} {k : Option Int} (hr : ∀ r ∈ s, r.length < 1000000000) (hl : s.length < 1000000000) : ∀ (n : Nat) (i : Int), 0 ≤ i → i ≤ s.length → s.length < n + i →
  ((s.drop i.toNat).any (blkR p mp) = true ∧ ∃ j : Int, 0 ≤ j ∧ yM s p mp k n i = some j) ∨ ((s.drop i.toNat).any (blkR p mp) = false ∧ yM s p mp k n i = k)
 | 0, i, h0, h1, h2 => by omega
 | n + 1, i, h0, h1, h2 => by
  rw [yM]
  by_cases h : i < s.length
  ·rw [if_pos (decide_eq_true h), yr ⟨h0, h⟩, y4z h0 h]
   rw [yfZ (hr _ (y1B h0 h)), Option.bind_some, List.any_cons]
   cases hb : blkR p mp (nth s i) with
   | true => rw [if_pos rfl]; exact .inl ⟨rfl, i, h0, rfl⟩
   | false =>
    rw [if_neg (by simp), Bool.false_or, yD (x := i + 1) (by omega)]
    have e2 : (i + 1).toNat = i.toNat + 1 := by omega
    rw [← e2]
    exact yeY hr hl n (i + 1) (by omega) (by omega) (by omega)
  ·rw [if_neg (by simpa using h), List.drop_eq_nil_of_le (by omega)]
   exact .inr ⟨rfl, rfl⟩
def blk (rs : List (List Hop)) (mp : List (Pl × Int)) (p : Pl) : Bool := rs.any (blkR p mp)
theorem blk_eq {rs : List (List Hop)} {p : Pl} {mp : List (Pl × Int)} (hr : ∀ r ∈ rs, r.length < 1000000000) (hl : rs.length < 1000000000) : y1n rs p mp = some (blk rs mp p) := by
 unfold y1n y1W
 have hF := yU
 generalize yz = N at hF ⊢
 refine y50 (P := fun o => (o.bind fun x => some (decide (x ≥ 0))) = some (blk rs mp p)) fun k hk => ?_
 have := yeY (s := rs) (p := p) (mp := mp) (k := k) hr hl N 0 (by omega) (by omega) (by omega)
 simp only [Int.toNat_zero, List.drop_zero] at this
 unfold blk
 rcases this with ⟨h1, j, h2, h3⟩ | ⟨h1, h2⟩
 ·rw [h3, h1]; simp [h2]
 ·rw [h2, hk, h1]; simp
def Pred (rs : List (List Hop)) (p q : Pl) : Prop := ∃ r ∈ rs, ∃ h ∈ r, pk h = p ∧ (y2I r h.fNode).2 = true ∧ pk (y2I r h.fNode).1 = q
theorem ycP {rs : List (List Hop)} {p : Pl} {mp : List (Pl × Int)} : blk rs mp p = true ↔ ∃ q, Pred rs p q ∧ yn mp q 0 = 0 := by
 unfold blk blkR blk1 Pred
 simp only [List.any_eq_true, Bool.and_eq_true, decide_eq_true_eq]
 constructor
 ·rintro ⟨r, hr, h, hh, ⟨e, i⟩, z⟩; exact ⟨_, ⟨r, hr, h, hh, e, i, rfl⟩, z⟩
 ·rintro ⟨q, ⟨r, hr, h, hh, e, i, rfl⟩, z⟩; exact ⟨r, hr, h, hh, ⟨e, i⟩, z⟩
theorem Pred.mem {rs : List (List Hop)} {p q : Pl} (h : Pred rs p q) : q ∈ PS rs := by
 obtain ⟨r, hr, h, hh, e, i, rfl⟩ := h
 exact (y91 rs _).2 ⟨r, hr, _, (ybd i).1, rfl⟩
abbrev OR := List Sbound_place × Int
theorem ye4 {rest out : List Pl} {rs : List (List Hop)} {mp : List (Pl × Int)} {k1 : List Pl → List Pl → List (Pl × Int) → Option OR} {k2 : Option OR} (hr : ∀ r ∈ rs, r.length < 1000000000) (hl : rs.length < 1000000000)
  (hs : rest.length + out.length ≤ 1000000) : ∀ (n : Nat) (v : Int), 0 ≤ v → v ≤ rest.length → rest.length < n + v →
  (∃ (l1 : List Pl) (p : Pl) (l2 : List Pl), rest = l1 ++ p :: l2 ∧ blk rs mp p = false ∧ y38 rest rs mp out k1 k2 n v = k1 (l1 ++ l2) (out ++ [p]) (yJ mp p (i64 (yn mp p 0 + 1)))) ∨
  ((∀ p ∈ rest.drop v.toNat, blk rs mp p = true) ∧ y38 rest rs mp out k1 k2 n v = k2)
 | 0, v, h0, h1, h2 => by omega
 | n + 1, v, h0, h1, h2 => by
  rw [y38]
  by_cases h : v < rest.length
  ·rw [if_pos (decide_eq_true h), yr ⟨h0, h⟩]
   have e : (⟨((nth rest v).fNode), ((nth rest v).fLink)⟩ : Sbound_place) = nth rest v := rfl
   rw [e, blk_eq hr hl, Option.bind_some]
   cases hb : blk rs mp (nth rest v) with
   | false =>
    rw [if_pos (by rfl), yr (by simp; omega)]
    refine .inl ⟨rest.take v.toNat, nth rest v, rest.drop (v.toNat + 1), ?_, hb, ?_⟩
    ·rw [← y4z h0 h, List.take_append_drop]
    ·unfold y7E
     rw [yD (x := v + 1) (by omega), yr (by omega), Option.bind_some, show (v + 1).toNat = v.toNat + 1 by omega]
   | true =>
    rw [if_neg (by simp), yD (x := v + 1) (by omega)]
    have e2 : (v + 1).toNat = v.toNat + 1 := by omega
    rcases ye4 hr hl hs n (v + 1) (by omega) (by omega) (by omega) (k1 := k1) (k2 := k2) (mp := mp) with h3 | ⟨h3, h4⟩
    ·exact .inl h3
    ·refine .inr ⟨?_, h4⟩
     rw [y4z h0 h, ← e2]
     intro p hp
     rcases List.mem_cons.1 hp with rfl | hp
     ·exact hb
     ·exact h3 p hp
  ·rw [if_neg (by simpa using h), List.drop_eq_nil_of_le (by omega)]
   exact .inr ⟨by simp, rfl⟩
def y6R (rs : List (List Hop)) (l : List Pl) : Prop := ∀ l1 p l2, l = l1 ++ p :: l2 → ∀ q, Pred rs p q → q ∈ l1
def y9k (rs : List (List Hop)) (s : List Pl) : Prop := s ≠ [] ∧ ∀ p ∈ s, p ∈ PS rs ∧ ∃ q ∈ s, Pred rs p q
theorem ycj {rs : List (List Hop)} {k : List Pl → Option OR} (hr : ∀ r ∈ rs, r.length < 1000000000) (hl : rs.length < 1000000000) (hp : (PS rs).length ≤ 1000000) : ∀ (n : Nat) (rest out : List Pl) (mp : List (Pl × Int)), rest.length < n →
  (rest ++ out).Perm (PS rs) → (∀ q, yn mp q 0 = if q ∈ out then 1 else 0) → y6R rs out →
  (∃ l, l.Perm (PS rs) ∧ y6R rs l ∧ y39 rs k n rest out mp = k l) ∨ (∃ s, y9k rs s ∧ y39 rs k n rest out mp = some ([], 351))
 | 0, rest, out, mp, h0, h1, h2, h3 => by omega
 | n + 1, rest, out, mp, h0, h1, h2, h3 => by
  rw [y39]
  have hlen := h1.length_eq
  rw [List.length_append] at hlen
  have hnd : (rest ++ out).Nodup := h1.nodup_iff.2 (ydZ rs)
  by_cases h : rest.length > 0
  ·rw [if_pos (by simpa using h)]
   refine jp3_ex' (P := fun o => (∃ l, l.Perm (PS rs) ∧ y6R rs l ∧ o = k l) ∨ (∃ s, y9k rs s ∧ o = some ([], 351))) fun k1 hk1 => ?_
   refine y50 (P := fun o => (∃ l, l.Perm (PS rs) ∧ y6R rs l ∧ o = k l) ∨ (∃ s, y9k rs s ∧ o = some ([], 351))) fun k2 hk2 => ?_
   rcases ye4 hr hl (show rest.length + out.length ≤ 1000000 by omega) yz 0 (by omega) (by omega) (by rw [yU]; omega) (k1 := k1) (k2 := k2) (mp := mp) with ⟨l1, p, l2, e1, e2, e3⟩ | ⟨e1, e2⟩
   ·subst e1
    have hpo : p ∉ out := fun hc => by
     have := (List.nodup_append.1 hnd).2.2 p (by simp) p hc; exact this rfl
    rw [e3, hk1]
    have hm : yn mp p 0 = 0 := by rw [h2, if_neg hpo]
    rw [hm, yD (by omega)]
    refine ycj hr hl hp n _ _ _ (by simp at h0 ⊢; omega) ?_ ?_ ?_
    ·refine List.Perm.trans ?_ h1
     rw [← List.append_assoc]
     refine (List.perm_append_comm).trans ?_
     simp only [List.singleton_append, List.append_assoc, List.cons_append]
     refine List.Perm.trans ?_ (List.perm_middle (l₁ := l1)).symm
     simp
    ·intro q
     rw [y7i, h2]
     by_cases hq : q = p
     ·subst hq; simp
     ·simp [hq]
    ·intro a q b hab q' hq'
     rcases List.append_eq_append_iff.1 hab with ⟨w, hw1, hw2⟩ | ⟨w, hw1, hw2⟩
     ·-- the last one
      cases w with
      | nil =>
       simp at hw2 hw1
       obtain ⟨rfl, rfl⟩ := hw2
       subst hw1
       by_cases hc : yn mp q' 0 = 0
       ·exact absurd (ycP.2 ⟨q', hq', hc⟩) (by rw [e2]; simp)
       ·rw [h2] at hc
        by_cases hc2 : q' ∈ a
        ·exact hc2
        ·rw [if_neg hc2] at hc; exact absurd rfl hc
      | cons x w => simp at hw2
     ·cases w with
      | nil =>
       simp at hw2 hw1
       obtain ⟨rfl, rfl⟩ := hw2
       subst hw1
       by_cases hc : yn mp q' 0 = 0
       ·exact absurd (ycP.2 ⟨q', hq', hc⟩) (by rw [e2]; simp)
       ·rw [h2] at hc
        by_cases hc2 : q' ∈ out
        ·exact hc2
        ·rw [if_neg hc2] at hc; exact absurd rfl hc
      | cons x w =>
       rw [List.cons_append] at hw2
       injection hw2 with hx hw2
       subst hx
       exact h3 a q w hw1 q' hq'
   ·refine .inr ⟨rest, ⟨by rintro rfl; simp at h, fun p hp => ⟨h1.subset (by simp [hp]), ?_⟩⟩, by rw [e2, hk2]⟩
    obtain ⟨q, hq, hz⟩ := ycP.1 (e1 p (by simpa using hp))
    refine ⟨q, ?_, hq⟩
    have hm := h1.symm.subset hq.mem
    rcases List.mem_append.1 hm with hm | hm
    ·exact hm
    ·rw [h2, if_pos hm] at hz; omega
  ·rw [if_neg (by simpa using h)]
   have : rest = [] := List.eq_nil_of_length_eq_zero (by omega)
   subst this
   exact .inl ⟨out, h1, h3, rfl⟩
theorem order_eq {rs : List (List Hop)} (hr : ∀ r ∈ rs, r.length ≤ 1000) (hl : rs.length ≤ 100) :
  (∃ l, l.Perm (PS rs) ∧ y6R rs l ∧ y4w rs = some (l, 0)) ∨ (∃ s, y9k rs s ∧ y4w rs = some ([], 351)) := by
 unfold y4w
 have hps := ye1 hr
 have h3 : rs.length * 1000 ≤ 100 * 1000 := Nat.mul_le_mul_right _ hl
 rw [yfY hr hl, Option.bind_some]
 refine y2h (P := fun o : Option OR => (∃ l, l.Perm (PS rs) ∧ y6R rs l ∧ o = some (l, 0)) ∨ (∃ s, y9k rs s ∧ o = some ([], 351))) fun k hk => ?_
 rcases ycj (k := k) (fun r h => by have := hr r h; omega) (by omega) (by omega) yz (PS rs) [] [] (by rw [yU]; omega) (by simp) (by simp [yn]) (fun l1 p l2 h => by simp at h) with ⟨l, e1, e2, e3⟩ | ⟨s, e1, e2⟩
 ·exact .inl ⟨l, e1, e2, by rw [e3, hk]⟩
 ·exact .inr ⟨s, e1, e2⟩
end Go.Proofs.YtcahmabkeaijdaaGreat
namespace Go.Proofs.YtcahmabkeaijdaaGreat
open Go Go.RowKit Sep
/-! ### what a valid route is -/
theorem y7Z {α : Type} [Inhabited α] {l : List α} {x : α} (h : x ∈ l) : ∃ i : Int, 0 ≤ i ∧ i < l.length ∧ nth l i = x := by
 obtain ⟨i, hi, rfl⟩ := List.getElem_of_mem h
 refine ⟨(i : Int), by omega, by omega, ?_⟩
 rw [yaa ⟨by omega, by omega⟩]; rfl
theorem VR.uniq {c : Cf} {net : Int} {r : List Hop} (h : VR c net r) {x y : Hop} (hx : x ∈ r) (hy : y ∈ r) (e : x.fNext = y.fNext) : x = y := by
 obtain ⟨i, i0, i1, rfl⟩ := y7Z hx
 obtain ⟨j, j0, j1, rfl⟩ := y7Z hy
 rcases Int.lt_trichotomy i j with k | k | k
 ·exact absurd (.inr ⟨i, i0, k, e⟩) (h.cond j j0 j1).2.1
 ·rw [k]
 ·exact absurd (.inr ⟨j, j0, k, e.symm⟩) (h.cond i i0 i1).2.1
theorem VR.into {c : Cf} {net : Int} {r : List Hop} (h : VR c net r) {g : Hop} (hg : g ∈ r) : y2I r g.fNext = (g, true) := by
 have h1 := ye2 hg
 obtain ⟨h2, h3⟩ := ybd h1
 exact Prod.ext (h.uniq h2 hg h3) h1
def Edg (rs : List (List Hop)) (a b : Pl) : Prop := ∃ r ∈ rs, ∃ g ∈ r, ∃ h ∈ r, g.fNext = h.fNode ∧ pk g = a ∧ pk h = b
theorem yg0 {c : Cf} {net : Int} {rs : List (List Hop)} (hv : VA c net rs) {a b : Pl} : Edg rs a b ↔ Pred rs b a := by
 constructor
 ·rintro ⟨r, hr, g, hg, h, hh, e, rfl, rfl⟩
  refine ⟨r, hr, h, hh, rfl, ?_⟩
  rw [← e, (hv.each r hr).into hg]; exact ⟨rfl, rfl⟩
 ·rintro ⟨r, hr, h, hh, rfl, e, rfl⟩
  obtain ⟨h2, h3⟩ := ybd e
  exact ⟨r, hr, _, h2, h, hh, h3, rfl, rfl⟩
theorem Edg.left {rs : List (List Hop)} {a b : Pl} (h : Edg rs a b) : a ∈ PS rs := by
 obtain ⟨r, hr, g, hg, h, hh, e, rfl, rfl⟩ := h; exact (y91 rs _).2 ⟨r, hr, g, hg, rfl⟩
theorem Edg.right {rs : List (List Hop)} {a b : Pl} (h : Edg rs a b) : b ∈ PS rs := by
 obtain ⟨r, hr, g, hg, h, hh, e, rfl, rfl⟩ := h; exact (y91 rs _).2 ⟨r, hr, h, hh, rfl⟩
theorem y9k.no {c : Cf} {net : Int} {rs : List (List Hop)} (hv : VA c net rs) {s : List Pl} (h : y9k rs s) (f : Pl → Int) (h0 : ∀ p ∈ PS rs, 0 ≤ f p) (hf : ∀ a b, Edg rs a b → f a < f b) : False := by
 obtain ⟨hne, hs⟩ := h
 have key : ∀ n : Nat, ∀ p ∈ s, (f p).toNat < n → False := by
  intro n
  induction n with
  | zero => intro p hp h; omega
  | succ n ih =>
   intro p hp hlt
   obtain ⟨hp1, q, hq, hqp⟩ := hs p hp
   have h1 := hf q p ((yg0 hv).2 hqp)
   have h2 := h0 q (hs q hq).1
   exact ih q hq (by omega)
 cases s with
 | nil => exact hne rfl
 | cons p s => exact key ((f p).toNat + 1) p (by simp) (by omega)
end Go.Proofs.YtcahmabkeaijdaaGreat
namespace Go.Proofs.YtcahmabkeaijdaaGreat
open Go Go.RowKit Sep
abbrev R := z2
theorem y92 {x : Int} (h : 0 ≤ x ∧ x ≤ 18446744073709551615) : u64 x = x := by
 unfold u64 IntKind.wrap; simp [IntKind.signed, IntKind.bits]; omega
theorem ybe {n : Int} (h : -9223372036854775808 ≤ n ∧ n ≤ 9223372036854775807) : y5m n = some (n.natAbs : Int) := by
 unfold y5m
 by_cases hn : n < 0
 ·rw [if_pos (by simpa using hn)]
  rw [yD (x := n + 1) (by omega), yD (x := 0 - (n + 1)) (by omega), y92 (x := 0 - (n + 1)) (by omega), y92 (by omega)]
  congr 1; omega
 ·rw [if_neg (by simpa using hn), y92 (by omega)]
  congr 1; omega
theorem ye5 (x y : Nat) : Int.tmod (x : Int) (y : Int) = ((x % y : Nat) : Int) := rfl
theorem ye6 {k : Int → Option Int} : ∀ (m n x y : Nat), y < 2 ^ m → 2 * m < n → y21 k n x y = k (Nat.gcd x y : Nat)
 | 0, n + 1, x, y, hy, _ => by
  have : y = 0 := by omega
  subst this
  rw [y21]; simp
 | m + 1, n + 2, x, y, hy, hn => by
  rw [y21]
  by_cases h0 : y = 0
  ·subst h0; simp
  ·rw [if_pos (by simpa using h0), yr (by simpa using h0), ye5]
   rw [y21]
   have hg : Nat.gcd x y = Nat.gcd y (x % y) := by rw [Nat.gcd_comm x y, Nat.gcd_rec, Nat.gcd_comm]
   by_cases h1 : x % y = 0
   ·rw [h1] at hg ⊢; simp [hg]
   ·have h1' : ((x % y : Nat) : Int) ≠ 0 := fun h => h1 (by exact_mod_cast h)
    rw [if_pos (decide_eq_true h1'), yr h1', ye5]
    have hr : x % y < y := Nat.mod_lt _ (by omega)
    have hg2 : Nat.gcd y (x % y) = Nat.gcd (x % y) (y % (x % y)) := by rw [Nat.gcd_comm y (x % y), Nat.gcd_rec, Nat.gcd_comm]
    rw [ye6 m n (x % y) (y % (x % y)) ?_ (by omega), hg, hg2]
    have h2 : y % (x % y) < x % y := Nat.mod_lt _ (by omega)
    have h3 : 2 * (y % (x % y)) ≤ y := by
     have h4 := Nat.div_add_mod y (x % y)
     have h5 : 1 ≤ y / (x % y) := (Nat.one_le_div_iff (by omega)).2 (by omega)
     have h6 : x % y * 1 ≤ x % y * (y / (x % y)) := Nat.mul_le_mul_left _ h5
     omega
    have h7 : 2 ^ (m + 1) = 2 * 2 ^ m := by rw [Nat.pow_succ, Nat.mul_comm]
    omega
theorem gcd_eq {x y : Nat} (hy : y < 2 ^ 64) : y4f x y = some ((Nat.gcd x y : Nat) : Int) := by
 unfold y4f
 simp only [jp1]
 exact ye6 64 yz x y hy (by rw [yU]; omega)
/-! ### numbers -/
def fits (q : Rat) : Bool := decide (q.num.natAbs ≤ 1073741824 ∧ q.den ≤ 1073741824)
def ofQ (q : Rat) : R := ⟨q.num, (q.den : Int)⟩
def val (x : R) : Rat := Rat.divInt x.fN x.fD
def V (x : R) : Bool := decide (1 ≤ x.fD ∧ x.fD ≤ 1073741824 ∧ -1073741824 ≤ x.fN ∧ x.fN ≤ 1073741824 ∧ Nat.gcd x.fN.natAbs x.fD.natAbs = 1)
theorem y5c (q : Rat) : val (ofQ q) = q := Rat.num_divInt_den q
theorem y6S {q : Rat} (h : fits q = true) : V (ofQ q) = true := by
 simp only [fits, decide_eq_true_eq] at h
 have hr := q.reduced
 have hd := q.den_pos
 unfold V ofQ
 rw [decide_eq_true_eq]
 refine ⟨by show (1 : Int) ≤ (q.den : Int); omega, by show (q.den : Int) ≤ 1073741824; omega, by show _ ≤ q.num; omega, by show q.num ≤ _; omega, hr⟩
theorem yac {x : R} (h : V x = true) : (val x).num = x.fN ∧ ((val x).den : Int) = x.fD := by
 simp only [V, decide_eq_true_eq] at h
 obtain ⟨h1, h2, h3, h4, h5⟩ := h
 have hg : Int.gcd x.fD x.fN = 1 := by rw [Int.gcd, Nat.gcd_comm]; exact h5
 constructor
 ·rw [val, Rat.num_divInt, hg, Int.sign_eq_one_of_pos (by omega)]; simp
 ·rw [val, Rat.den_divInt, hg, if_neg (by omega)]; simp; omega
theorem ycQ {x : R} (h : V x = true) : ofQ (val x) = x := by
 obtain ⟨h1, h2⟩ := yac h
 simp only [ofQ, h1, h2]
theorem yeZ {x y : R} (hx : V x = true) (hy : V y = true) (h : val x = val y) : x = y := by rw [← ycQ hx, ← ycQ hy, h]
def mk (q : Rat) : R × Int := if fits q then (ofQ q, 0) else (⟨0, 0⟩, 3)
theorem y9L {n d : Int} (hd : d ≠ 0) (h : n.natAbs ≤ 4611686018427387904 ∧ d.natAbs ≤ 4611686018427387904) : y4J n d = some (mk (Rat.divInt n d)) := by
 unfold y4J
 rw [if_neg (by simpa using hd), ybe (by omega), ybe (by omega), Option.bind_some, Option.bind_some, gcd_eq (by omega), Option.bind_some]
 have hg : 0 < Nat.gcd n.natAbs d.natAbs := Nat.gcd_pos_of_pos_right _ (by omega)
 rw [yr (by omega)]
 have hn := Nat.div_le_self n.natAbs (Nat.gcd n.natAbs d.natAbs)
 have hdd := Nat.div_le_self d.natAbs (Nat.gcd n.natAbs d.natAbs)
 have en : u64 (Int.tdiv (n.natAbs : Int) (Nat.gcd n.natAbs d.natAbs : Nat)) = ((n.natAbs / Nat.gcd n.natAbs d.natAbs : Nat) : Int) := y92 ⟨Int.natCast_nonneg _, by
  show ((n.natAbs / Nat.gcd n.natAbs d.natAbs : Nat) : Int) ≤ _
  omega⟩
 have ed : u64 (Int.tdiv (d.natAbs : Int) (Nat.gcd n.natAbs d.natAbs : Nat)) = ((d.natAbs / Nat.gcd n.natAbs d.natAbs : Nat) : Int) := y92 ⟨Int.natCast_nonneg _, by
  show ((d.natAbs / Nat.gcd n.natAbs d.natAbs : Nat) : Int) ≤ _
  omega⟩
 rw [en, ed]
 have hG : Int.gcd d n = Nat.gcd n.natAbs d.natAbs := by rw [Int.gcd, Nat.gcd_comm]
 have qd : (Rat.divInt n d).den = d.natAbs / Nat.gcd n.natAbs d.natAbs := by rw [Rat.den_divInt, if_neg hd, hG]
 have qn : (Rat.divInt n d).num = if (decide (n < 0)) != (decide (d < 0)) then -((n.natAbs / Nat.gcd n.natAbs d.natAbs : Nat) : Int) else ((n.natAbs / Nat.gcd n.natAbs d.natAbs : Nat) : Int) := by
  rw [Rat.num_divInt, hG]
  have hdv : (Nat.gcd n.natAbs d.natAbs : Int) ∣ (n.natAbs : Int) := Int.natCast_dvd_natCast.2 (Nat.gcd_dvd_left _ _)
  rcases Int.lt_or_le n 0 with h1 | h1 <;> rcases Int.lt_or_le d 0 with h2 | h2
  ·rw [Int.sign_eq_neg_one_of_neg h2, show (-1 : Int) * n = (n.natAbs : Int) by omega]
   simp [h1, h2]
  ·rw [Int.sign_eq_one_of_pos (by omega), show (1 : Int) * n = -(n.natAbs : Int) by omega, Int.neg_ediv_of_dvd hdv]
   have h2' : ¬ d < 0 := by omega
   simp [h1, h2']
  ·rw [Int.sign_eq_neg_one_of_neg h2, show (-1 : Int) * n = -(n.natAbs : Int) by omega, Int.neg_ediv_of_dvd hdv]
   have h1' : ¬ n < 0 := by omega
   simp [h2, h1']
  ·rw [Int.sign_eq_one_of_pos (by omega), show (1 : Int) * n = (n.natAbs : Int) by omega]
   have h1' : ¬ n < 0 := by omega
   have h2' : ¬ d < 0 := by omega
   simp [h2', h1']
 generalize hA : n.natAbs / Nat.gcd n.natAbs d.natAbs = A at *
 generalize hB : d.natAbs / Nat.gcd n.natAbs d.natAbs = B at *
 have hqn : (Rat.divInt n d).num.natAbs = A := by rw [qn]; split <;> omega
 unfold mk fits
 rw [hqn, qd]
 by_cases hf : A ≤ 1073741824 ∧ B ≤ 1073741824
 ·rw [if_neg (by simp; omega)]
  simp only [jp1, hf, and_self, decide_true, if_true]
  rw [yD (x := (A : Int)) (by omega), yD (x := (B : Int)) (by omega), yD (by omega)]
  unfold ofQ
  rw [qd, qn]
  split <;> simp
 ·rw [if_pos (by simp; omega)]
  simp only [hf, decide_false]
  rfl
theorem y1E (x : R) : y1H x = some (V x) := by
 unfold y1H V
 by_cases h : (x.fD ≥ 1 ∧ x.fD ≤ 1073741824 ∧ x.fN ≥ (-1073741824) ∧ x.fN ≤ 1073741824)
 ·rw [if_pos (by simp; omega), ybe (by omega), ybe (by omega), Option.bind_some, Option.bind_some, gcd_eq (by omega), Option.bind_some, Option.bind_some]
  congr 1
  rw [Bool.eq_iff_iff]
  simp only [decide_eq_true_eq]
  omega
 ·rw [if_neg (by simp; omega), Option.bind_some]
  congr 1
  symm
  rw [decide_eq_false_iff_not]
  omega
end Go.Proofs.YtcahmabkeaijdaaGreat
namespace Go.Proofs.YtcahmabkeaijdaaGreat
open Go Go.RowKit Sep
theorem y8n {a b : Int} (ha : a.natAbs ≤ 1073741824) (hb : b.natAbs ≤ 1073741824) : (a * b).natAbs ≤ 1152921504606846976 := by
 rw [Int.natAbs_mul]
 exact Nat.mul_le_mul ha hb
theorem y8o {x : R} (h : V x = true) : x.fN.natAbs ≤ 1073741824 ∧ x.fD.natAbs ≤ 1073741824 ∧ 1 ≤ x.fD := by
 simp only [V, decide_eq_true_eq] at h; omega
theorem D_ne {x y : R} (hx : V x = true) (hy : V y = true) : x.fD * y.fD ≠ 0 := Int.mul_ne_zero (by have := y8o hx; omega) (by have := y8o hy; omega)
theorem ye7 {x y : R} (hx : V x = true) (hy : V y = true) : y1d x y = some (mk (val x + val y)) := by
 have bx := y8o hx; have b2 := y8o hy
 have h1 := y8n bx.1 b2.2.1; have h2 := y8n b2.1 bx.2.1; have h3 := y8n bx.2.1 b2.2.1
 unfold y1d y8a y8x
 rw [y1E, y1E, hx, hy]
 simp only [Option.bind_some, Bool.not_true, Bool.false_eq_true, if_false]
 rw [yD (x := x.fN * y.fD) (by omega), yD (x := y.fN * x.fD) (by omega), yD (by omega), yD (by omega), y9L (D_ne hx hy) (by omega)]
 rw [val, val, Rat.divInt_add_divInt _ _ (by omega) (by omega)]
 rfl
theorem yck {x y : R} (hx : V x = true) (hy : V y = true) : y24 x y = some (mk (val x - val y)) := by
 have bx := y8o hx; have b2 := y8o hy
 have h1 := y8n bx.1 b2.2.1; have h2 := y8n b2.1 bx.2.1; have h3 := y8n bx.2.1 b2.2.1
 unfold y24 y8e y8y
 rw [y1E, y1E, hx, hy]
 simp only [Option.bind_some, Bool.not_true, Bool.false_eq_true, if_false]
 rw [yD (x := x.fN * y.fD) (by omega), yD (x := y.fN * x.fD) (by omega), yD (by omega), yD (by omega), y9L (D_ne hx hy) (by omega)]
 rw [val, val, Rat.divInt_sub_divInt _ _ (by omega) (by omega)]
 rfl
theorem ye8 {x y : R} (hx : V x = true) (hy : V y = true) : y3a x y = some (mk (val x * val y)) := by
 have bx := y8o hx; have b2 := y8o hy
 have h1 := y8n bx.1 b2.1; have h3 := y8n bx.2.1 b2.2.1
 unfold y3a y8U y8w
 rw [y1E, y1E, hx, hy]
 simp only [Option.bind_some, Bool.not_true, Bool.false_eq_true, if_false]
 rw [yD (by omega), yD (by omega), y9L (D_ne hx hy) (by omega)]
 rw [val, val, Rat.divInt_mul_divInt]
 rfl
theorem ycl {x y : R} (hx : V x = true) (hy : V y = true) (h0 : y.fN ≠ 0) : y3v x y = some (mk (val x / val y)) := by
 have bx := y8o hx; have b2 := y8o hy
 have h1 := y8n bx.1 b2.2.1; have h3 := y8n bx.2.1 b2.1
 unfold y3v y8g y8z
 rw [y1E, y1E, hx, hy]
 simp only [Option.bind_some, Bool.not_true, Bool.false_or, decide_eq_true_eq, h0, if_false, Bool.false_eq_true]
 rw [yD (by omega), yD (by omega), y9L (Int.mul_ne_zero (by omega) h0) (by omega)]
 rw [val, val, Rat.div_def, Rat.inv_divInt, Rat.divInt_mul_divInt]
 rfl
def y59 (p q : Rat) : Int := if p < q then -1 else if q < p then 1 else 0
theorem lt_val {x y : R} (hx : V x = true) (hy : V y = true) : val x < val y ↔ x.fN * y.fD < y.fN * x.fD := by
 rw [Rat.lt_iff, (yac hx).1, (yac hx).2, (yac hy).1, (yac hy).2]
theorem y7G {x y : R} (hx : V x = true) (hy : V y = true) : y1i x y = some (y59 (val x) (val y)) := by
 have bx := y8o hx; have b2 := y8o hy
 have h1 := y8n bx.1 b2.2.1; have h2 := y8n b2.1 bx.2.1
 unfold y1i y59
 rw [y1E, y1E, hx, hy]
 simp only [Option.bind_some, Bool.not_true, Bool.false_eq_true, if_false, decide_eq_true_eq]
 rw [yD (x := x.fN * y.fD) (by omega), yD (x := y.fN * x.fD) (by omega)]
 simp only [lt_val hx hy, lt_val hy hx]
 by_cases h : x.fN * y.fD < y.fN * x.fD
 ·simp [h]
 ·by_cases h' : y.fN * x.fD < x.fN * y.fD <;> simp [h, h']
theorem ybf {p q : Rat} : y59 p q ≤ 0 ↔ p ≤ q := by unfold y59; grind
theorem y6T {p q : Rat} : y59 p q < 0 ↔ p < q := by unfold y59; grind
theorem ycR {p q : Rat} : 0 < y59 p q ↔ q < p := by unfold y59; grind
theorem ybP {p q : Rat} (h : p ≤ q) : p < q ∨ p = q := by grind
theorem yg1 (p : Rat) : y59 p p = 0 := by unfold y59; simp [Rat.lt_irrefl]
/-! ### buckets -/
abbrev B := z6
def GR (x : R) : Bool := V x && decide (0 ≤ x.fN)
def GB (b : B) : Bool := GR b.fBurst && GR b.fRate
def bq (b : B) : Rat := val b.fBurst
def rq (b : B) : Rat := val b.fRate
theorem y5M {x : R} (h : GR x = true) : V x = true := by simp [GR] at h; exact h.1
theorem ye9 {x : R} (h : GR x = true) : 0 ≤ val x := by
 have hv := y5M h
 simp [GR] at h
 rw [← Rat.num_nonneg, (yac hv).1]; exact h.2
theorem GB_b {b : B} (h : GB b = true) : GR b.fBurst = true := by simp [GB] at h; exact h.1
theorem GB_r {b : B} (h : GB b = true) : GR b.fRate = true := by simp [GB] at h; exact h.2
theorem ybg (x : R) : y4X x = some (GR x) := by unfold y4X GR; rw [y1E, Option.bind_some]
theorem yg2 (b : B) : y4q b = some (!GB b) := by
 unfold y4q GB
 rw [ybg, ybg]
 cases GR b.fBurst <;> simp
theorem ydb {s : List B} {f : B → Option Bool} {p : B → Bool} (hf : ∀ x ∈ s, f x = some (p x)) (hs : (s.length : Int) ≤ 4611686018427387000) : y1o s f = some (s.any p) :=
 yaj (yc2 (L := fun k => y12 s f k) (fun _ _ _ => rfl) hf hs)
theorem yex {s : List B} {v : B} (hs : (s.length : Int) ≤ 4611686018427387000) : y23 s v = some (s.any fun x => decide (v = x)) :=
 yaj (yc2 (L := fun k => y1g s v k) (f := fun x => some (decide (v = x))) (fun _ _ _ => rfl) (fun _ _ => rfl) hs)
def VC (c : List B) : Bool := decide (1 ≤ c.length ∧ c.length ≤ 32) && c.all GB
theorem y6b (c : List B) : y46 c = some (VC c) := by
 unfold y46 VC
 by_cases h : 1 ≤ c.length ∧ c.length ≤ 32
 ·rw [if_pos (by simp; omega), ydb (p := fun b => !GB b) (fun x _ => yg2 x) (by omega)]
  simp only [Option.bind_some, h, and_self, decide_true, Bool.true_and]
  congr 1
  rw [List.all_eq_not_any_not]
 ·rw [if_neg (by simp; omega)]
  simp [h]
theorem yaW {c : List B} (h : VC c = true) : ∀ b ∈ c, GB b = true := by simp [VC] at h; exact h.2
theorem ycm {c : List B} (h : VC c = true) : 1 ≤ c.length ∧ c.length ≤ 32 := by simp [VC] at h; omega
def dom (a b : B) : Bool := decide (a ≠ b) && decide (bq a ≤ bq b) && decide (rq a ≤ rq b)
theorem yea {a b : B} (ha : GB a = true) (hb : GB b = true) : y4C a b = some (dom a b) := by
 unfold y4C dom
 rw [y7G (y5M (GB_b ha)) (y5M (GB_b hb)), y7G (y5M (GB_r ha)) (y5M (GB_r hb))]
 have e1 : decide (y59 (val a.fBurst) (val b.fBurst) ≤ 0) = decide (bq a ≤ bq b) := decide_eq_decide.2 ybf
 have e2 : decide (y59 (val a.fRate) (val b.fRate) ≤ 0) = decide (rq a ≤ rq b) := decide_eq_decide.2 ybf
 by_cases hab : a ≠ b
 ·rw [if_pos (by simpa using hab), Option.bind_some, Option.bind_some, e1]
  by_cases h1 : bq a ≤ bq b
  ·rw [if_pos (by simpa using h1), Option.bind_some, e2]; simp [hab, h1]
  ·rw [if_neg (by simpa using h1), Option.bind_some]; simp [h1]
 ·rw [if_neg (by simpa using hab)]; simp [hab]
/-! ### the normal form -/
def y80 (c : List B) (out : List B) (v : B) : List B := if (!(out.any fun x => decide (v = x)) && !(c.any fun a => dom a v)) = true then out ++ [v] else out
theorem yg3 {c : List B} {k : List B → Option (List B)} (hc : ∀ b ∈ c, GB b = true) (hs : (c.length : Int) ≤ 1000000) :
  ∀ (n : Nat) (out : List B) (i : Int), 0 ≤ i → i ≤ c.length → c.length - i < n → (out.length : Int) ≤ i → y3Y c k n out i = k ((c.drop i.toNat).foldl (y80 c) out) := by
 intro n
 induction n with
 | zero => intro out i h0 h1 h2; omega
 | succ n ih =>
  intro out i h0 h1 h2 h3
  rw [y3Y]
  by_cases h : i < c.length
  ·rw [if_pos (by simpa using h)]
   simp only [jp1]
   rw [yr ⟨h0, h⟩, y32 h0 h, List.foldl_cons]
   have hm := hc _ (y1B h0 h)
   have e1 := yex (s := out) (v := nth c i) (by omega)
   have e2 := ydb (s := c) (f := fun y0 => y4R y0 (nth c i)) (p := fun a => dom a (nth c i)) (fun x hx => by unfold y4R; rw [yea (hc x hx) hm]; rfl) (by omega)
   refine (congrArg (fun o => Option.bind o _) e1).trans ?_
   rw [Option.bind_some]
   have hlen : (out.length : Int) + 1 ≤ 1000000 := by omega
   cases hA : out.any fun x => decide (nth c i = x) with
   | true =>
    simp only [Bool.not_true, Bool.false_eq_true, if_false, Option.bind_some]
    rw [yD (by omega), ih out (i + 1) (by omega) (by omega) (by omega) (by omega)]
    congr 2
    unfold y80; simp [hA]
   | false =>
    simp only [Bool.not_false, if_true]
    refine (congrArg (fun o => Option.bind (Option.bind o _) _) e2).trans ?_
    simp only [Option.bind_some]
    cases hB : c.any fun a => dom a (nth c i) with
    | true =>
     simp only [Bool.not_true, Bool.false_eq_true, if_false]
     rw [yD (by omega), ih out (i + 1) (by omega) (by omega) (by omega) (by omega)]
     congr 2
     unfold y80; simp [hA, hB]
    | false =>
     simp only [Bool.not_false, if_true]
     rw [yr (by simp only [List.length_append, List.length_cons, List.length_nil]; omega), yD (by omega)]
     refine (ih _ (i + 1) (by omega) (by omega) (by omega) (by simp; omega)).trans ?_
     congr 2
     unfold y80; simp [hA, hB]
  ·rw [if_neg (by simpa using h), y3B h]; rfl
/-! sorting by a key -/
def y8D {α : Type} (key : α → Rat) (l : List α) : List α := yS (fun x y => some (y59 (key x) (key y))) l
theorem yey {α : Type} {p q : α → α → Option Int} {x : α} {l : List α} (h : ∀ y ∈ l, cby p x y = cby q x y) : y6G p x l = y6G q x l := by
 induction l with
 | nil => rfl
 | cons y l ih =>
  unfold y6G
  rw [h y (by simp), ih fun z hz => h z (by simp [hz])]
theorem yeb {α : Type} {p q : α → α → Option Int} {l : List α} (h : ∀ x ∈ l, ∀ y ∈ l, cby p x y = cby q x y) : yS p l = yS q l := by
 induction l with
 | nil => rfl
 | cons x l ih =>
  unfold yS
  rw [ih fun a ha b hb => h a (by simp [ha]) b (by simp [hb])]
  exact yey fun y hy => h x (by simp) y (by simp [(y3x q l).mem_iff.1 hy])
theorem yez {α : Type} {key : α → Rat} (x : α) (l : List α) (h : l.Pairwise fun a b => key a ≤ key b) : (y6G (fun x y => some (y59 (key x) (key y))) x l).Pairwise fun a b => key a ≤ key b := by
 induction l with
 | nil => simp [y6G]
 | cons y l ih =>
  obtain ⟨h1, h2⟩ := List.pairwise_cons.1 h
  unfold y6G
  split
  ·rename_i hxy
   have hxy : key x ≤ key y := ybf.1 hxy
   refine List.pairwise_cons.2 ⟨fun z hz => ?_, h⟩
   rcases List.mem_cons.1 hz with rfl | hz
   ·exact hxy
   ·exact Rat.le_trans hxy (h1 z hz)
  ·rename_i hxy
   have hxy : key y ≤ key x := Rat.le_of_lt (Rat.not_le.1 fun h => hxy (ybf.2 h))
   refine List.pairwise_cons.2 ⟨fun z hz => ?_, ih h2⟩
   rcases List.mem_cons.1 ((y9W _ x l).mem_iff.1 hz) with rfl | hz
   ·exact hxy
   ·exact h1 z hz
theorem y93 {α : Type} (key : α → Rat) (l : List α) : (y8D key l).Pairwise fun a b => key a ≤ key b := by
 unfold y8D
 induction l with
 | nil => simp [yS]
 | cons x l ih => exact yez x _ ih
theorem y8E {α : Type} (key : α → Rat) (l : List α) : (y8D key l).Perm l := y3x _ l
theorem yec {α : Type} [DecidableEq α] {key : α → Rat} {p : α → α → Option Int} {l : List α} (hp : ∀ x ∈ l, ∀ y ∈ l, p x y = some (y59 (key x) (key y))) (hi : ∀ x ∈ l, ∀ y ∈ l, key x = key y → x = y) :
  yS p l = y8D key l ∧ y7d p (yS p l) = true := by
 have hc : ∀ x ∈ l, ∀ y ∈ l, cby p x y = y59 (key x) (key y) := fun x hx y hy => by unfold cby; rw [hp x hx y hy]; rfl
 have e : yS p l = y8D key l := yeb fun x hx y hy => by rw [hc x hx y hy]; rfl
 refine ⟨e, ?_⟩
 have hm : ∀ x ∈ yS p l, x ∈ l := fun x hx => (y3x p l).mem_iff.1 hx
 have hs := y93 key l
 rw [← e] at hs
 simp only [y7d, Bool.and_eq_true, List.all_eq_true, Bool.not_eq_true', decide_eq_false_iff_not, y9X]
 refine ⟨fun x hx => ⟨fun y hy => by rw [hp x (hm x hx) y (hm y hy)]; rfl, by rw [hc x (hm x hx) x (hm x hx), yg1]; omega⟩, ?_⟩
 refine List.Pairwise.imp_of_mem ?_ hs
 intro x y hx hy hxy
 rw [hc x (hm x hx) y (hm y hy), hc y (hm y hy) x (hm x hx), y6T, y6T]
 rcases ybP hxy with h | h
 ·exact .inr ⟨h, Rat.not_lt.2 hxy⟩
 ·exact .inl (hi x (hm x hx) y (hm y hy) h)
theorem ydc (n : Nat) (h : n < 4611686018427387904) : Go.Lib.bitLen n ≤ 62 := Go.Lib.bitLen_le n 62 (by omega) (by omega)
theorem sortB_eq {l : List B} {p : B → B → Option Int} {key : B → Rat} (hp : ∀ x ∈ l, ∀ y ∈ l, p x y = some (y59 (key x) (key y))) (hi : ∀ x ∈ l, ∀ y ∈ l, key x = key y → x = y) (hs : (l.length : Int) ≤ 1000000) :
  y1h l p = some (y8D key l) := by
 obtain ⟨e, ho⟩ := yec hp hi
 unfold y1h y3W y3q
 rw [y92 (by omega), yr (by omega), Option.bind_some]
 have hb := ydc l.length (by omega)
 rw [Int.toNat_natCast, yr ⟨⟨rfl, rfl⟩, by omega, by omega, by omega⟩, yr ho, Option.bind_some, e]
theorem sortR_eq {l : List R} {p : R → R → Option Int} {key : R → Rat} (hp : ∀ x ∈ l, ∀ y ∈ l, p x y = some (y59 (key x) (key y))) (hi : ∀ x ∈ l, ∀ y ∈ l, key x = key y → x = y) (hs : (l.length : Int) ≤ 1000000) :
  y1R l p = some (y8D key l) := by
 obtain ⟨e, ho⟩ := yec hp hi
 unfold y1R y3W y3O
 rw [y92 (by omega), yr (by omega), Option.bind_some]
 have hb := ydc l.length (by omega)
 rw [Int.toNat_natCast, yr ⟨⟨rfl, rfl⟩, by omega, by omega, by omega⟩, yr ho, Option.bind_some, e]
theorem yed {c : List B} : ∀ (l out : List B) (v : B), v ∈ l.foldl (y80 c) out ↔ v ∈ out ∨ (v ∈ l ∧ (c.any fun a => dom a v) = false)
 | [], out, v => by simp
 | x :: l, out, v => by
  rw [List.foldl_cons, yed l]
  unfold y80
  by_cases h1 : (out.any fun y => decide (x = y)) = true
  ·have hx : x ∈ out := by simpa using h1
   rw [if_neg (by simp [h1])]
   constructor
   ·rintro (h | h)
    ·exact .inl h
    ·exact .inr ⟨by simp [h.1], h.2⟩
   ·rintro (h | ⟨h, h'⟩)
    ·exact .inl h
    ·rcases List.mem_cons.1 h with rfl | h
     ·exact .inl hx
     ·exact .inr ⟨h, h'⟩
  ·by_cases h2 : (c.any fun a => dom a x) = true
   ·rw [if_neg (by simp [h2])]
    constructor
    ·rintro (h | h)
     ·exact .inl h
     ·exact .inr ⟨by simp [h.1], h.2⟩
    ·rintro (h | ⟨h, h'⟩)
     ·exact .inl h
     ·rcases List.mem_cons.1 h with rfl | h
      ·rw [h2] at h'; cases h'
      ·exact .inr ⟨h, h'⟩
   ·rw [if_pos (by simp [h1, h2])]
    simp only [List.mem_append, List.mem_singleton]
    constructor
    ·rintro ((h | rfl) | h)
     ·exact .inl h
     ·exact .inr ⟨by simp, by simpa using h2⟩
     ·exact .inr ⟨by simp [h.1], h.2⟩
    ·rintro (h | ⟨h, h'⟩)
     ·exact .inl (.inl h)
     ·rcases List.mem_cons.1 h with rfl | h
      ·exact .inl (.inr rfl)
      ·exact .inr ⟨h, h'⟩
theorem ycn {c : List B} : ∀ (l out : List B), out.Nodup → (l.foldl (y80 c) out).Nodup
 | [], out, h => h
 | x :: l, out, h => by
  rw [List.foldl_cons]
  apply ycn l
  unfold y80
  split
  ·rename_i h1
   simp only [Bool.and_eq_true, Bool.not_eq_true'] at h1
   have hx : x ∉ out := by have := h1.1; simp at this; exact fun hm => this x hm rfl
   rw [List.nodup_append]
   refine ⟨h, by simp, fun a ha b hb => ?_⟩
   simp at hb; subst hb
   intro e; subst e; exact hx ha
  ·exact h
theorem ybQ {c : List B} : ∀ (l out : List B), (l.foldl (y80 c) out).length ≤ out.length + l.length
 | [], out => by simp
 | x :: l, out => by
  rw [List.foldl_cons]
  have := ybQ (c := c) l (y80 c out x)
  have h : (y80 c out x).length ≤ out.length + 1 := by unfold y80; split <;> simp
  simp; omega
def nrm0 (c : List B) : List B := c.foldl (y80 c) []
def y2n (c : List B) : List B := y8D bq (nrm0 c)
theorem y94 {c : List B} {v : B} : v ∈ nrm0 c ↔ v ∈ c ∧ ∀ a ∈ c, dom a v = false := by
 unfold nrm0; rw [yed]; simp
theorem ybR {c : List B} {v : B} : v ∈ y2n c ↔ v ∈ c ∧ ∀ a ∈ c, dom a v = false := by
 unfold y2n; rw [(y8E _ _).mem_iff, y94]
theorem NORM_len (c : List B) : (y2n c).length ≤ c.length := by
 unfold y2n; rw [(y8E _ _).length_eq]
 have := ybQ (c := c) c []
 simpa [nrm0] using this
theorem nd_inj {c : List B} {x y : B} (hx : x ∈ c ∧ ∀ a ∈ c, dom a x = false) (hy : y ∈ c ∧ ∀ a ∈ c, dom a y = false) (h : bq x = bq y) : x = y := by
 have h1 := hx.2 y hy.1
 have h2 := hy.2 x hx.1
 by_cases e : x = y
 ·exact e
 ·exfalso
  have e' : y ≠ x := fun h => e h.symm
  unfold dom at h1 h2
  rw [h] at h1 h2
  simp [e, e', Rat.le_refl] at h1 h2
  grind
theorem norm_eq {c : List B} (hc : ∀ b ∈ c, GB b = true) (hs : (c.length : Int) ≤ 1000000) : y6y c = some (y2n c) := by
 unfold y6y
 simp only [jp1]
 rw [yg3 hc hs yz [] 0 (by omega) (by omega) (by rw [yU]; omega) (by simp)]
 show Option.bind (y1h (nrm0 c) _) _ = _
 have hl : (nrm0 c).length ≤ c.length := by have := ybQ (c := c) c []; simpa [nrm0] using this
 rw [sortB_eq (key := bq) (fun x hx y hy => ?_) (fun x hx y hy h => nd_inj (y94.1 hx) (y94.1 hy) h) (by omega)]
 ·rfl
 ·unfold y5L
  rw [y7G (y5M (GB_b (hc x (y94.1 hx).1))) (y5M (GB_b (hc y (y94.1 hy).1)))]; rfl
theorem yeA {c : List B} : (y2n c).Pairwise fun x y => bq x < bq y ∧ rq y < rq x := by
 have h := y93 bq (nrm0 c)
 have hn : (y2n c).Nodup := (y8E bq (nrm0 c)).nodup_iff.2 (ycn c [] (by simp))
 have h2 := List.Pairwise.and h hn
 refine List.Pairwise.imp_of_mem ?_ h2
 intro x y hx hy hxy
 have hx := ybR.1 hx; have hy := ybR.1 hy
 have hlt : bq x < bq y := by
  rcases ybP hxy.1 with h | h
  ·exact h
  ·exact absurd (nd_inj hx hy h) hxy.2
 refine ⟨hlt, ?_⟩
 have := hy.2 x hx.1
 unfold dom at this
 simp [hxy.2, hxy.1] at this
 grind
end Go.Proofs.YtcahmabkeaijdaaGreat
namespace Go.Proofs.YtcahmabkeaijdaaGreat
open Go Go.RowKit Sep
/-! ### grids -/
theorem ybz {n d : Int} (hd : 0 < d) (h : n.natAbs ≤ 1073741824 ∧ d ≤ 1073741824) : fits (Rat.divInt n d) = true := by
 simp only [fits, decide_eq_true_eq]
 rw [Rat.den_divInt, if_neg (by omega), Rat.num_divInt]
 have hs : d.sign = 1 := Int.sign_eq_one_of_pos hd
 rw [hs, Int.one_mul]
 constructor
 ·have h1 : (n / (Int.gcd d n : Int)).natAbs ≤ n.natAbs := by
   have h2 : ((Int.gcd d n : Nat) : Int) ∣ n := Int.gcd_dvd_right ..
   rw [Int.natAbs_ediv_of_dvd h2]
   exact Nat.div_le_self _ _
  omega
 ·have := Nat.div_le_self d.natAbs (Int.gcd d n)
  omega
def G (m k : Nat) (q : Rat) : Prop := ∃ n : Int, n.natAbs ≤ m * k ∧ q = Rat.divInt n k
theorem G.fits {m k : Nat} {q : Rat} (h : G m k q) (hk : 0 < k) (hk2 : k ≤ 1073741824) (hm : m * k ≤ 1073741824) : fits q = true := by
 obtain ⟨n, hn, rfl⟩ := h
 exact ybz (by omega) ⟨by omega, by omega⟩
theorem G.add {m m' k : Nat} {p q : Rat} (hk : 0 < k) (hp : G m k p) (hq : G m' k q) : G (m + m') k (p + q) := by
 obtain ⟨n, hn, rfl⟩ := hp; obtain ⟨n', hn', rfl⟩ := hq
 refine ⟨n + n', ?_, ?_⟩
 ·have := Nat.add_mul m m' k
  omega
 ·rw [Rat.divInt_add_divInt _ _ (by omega) (by omega), show n * (k : Int) + n' * k = (n + n') * k by rw [Int.add_mul], Rat.divInt_mul_right (by omega)]
theorem G.neg {m k : Nat} {p : Rat} (hp : G m k p) : G m k (-p) := by
 obtain ⟨n, hn, rfl⟩ := hp
 exact ⟨-n, by omega, by rw [Rat.neg_divInt]⟩
theorem G.sub {m m' k : Nat} {p q : Rat} (hk : 0 < k) (hp : G m k p) (hq : G m' k q) : G (m + m') k (p - q) := by
 rw [Rat.sub_eq_add_neg]; exact hp.add hk hq.neg
theorem G.mul {m m' k k' : Nat} {p q : Rat} (hp : G m k p) (hq : G m' k' q) : G (m * m') (k * k') (p * q) := by
 obtain ⟨n, hn, rfl⟩ := hp; obtain ⟨n', hn', rfl⟩ := hq
 refine ⟨n * n', ?_, ?_⟩
 ·rw [Int.natAbs_mul, show m * m' * (k * k') = (m * k) * (m' * k') by rw [Nat.mul_mul_mul_comm]]
  exact Nat.mul_le_mul hn hn'
 ·rw [Rat.divInt_mul_divInt]; rfl
theorem G.fine {m k : Nat} {p : Rat} (j : Nat) (hj : 0 < j) (hp : G m k p) : G m (k * j) p := by
 obtain ⟨n, hn, rfl⟩ := hp
 refine ⟨n * j, ?_, ?_⟩
 ·rw [Int.natAbs_mul, ← Nat.mul_assoc]; exact Nat.mul_le_mul hn (by omega)
 ·rw [show ((k * j : Nat) : Int) = (k : Int) * j by push_cast; rfl, Rat.divInt_mul_right (by omega)]
theorem G.le {m m' k : Nat} {p : Rat} (h : m ≤ m') (hp : G m k p) : G m' k p := by
 obtain ⟨n, hn, rfl⟩ := hp
 exact ⟨n, Nat.le_trans hn (Nat.mul_le_mul_right _ h), rfl⟩
theorem ycS {q : Rat} (h : fits q = true) : mk q = (ofQ q, 0) := by unfold mk; rw [if_pos h]
theorem divInt_nonneg {n d : Int} (h : 0 ≤ n) (hd : 0 ≤ d) : (0 : Rat) ≤ Rat.divInt n d := Rat.divInt_nonneg h hd
/-! ### the law's points and curves -/
def SB (b : B) : Prop := GB b = true ∧ G 100 1 (bq b) ∧ G 5 8 (rq b)
def SC (c : List B) : Prop := 1 ≤ c.length ∧ c.length ≤ 4 ∧ ∀ b ∈ c, SB b
theorem SC.all {c : List B} (h : SC c) : ∀ b ∈ c, GB b = true := fun b hb => (h.2.2 b hb).1
theorem SC.VC {c : List B} (h : SC c) : VC c = true := by
 unfold YtcahmabkeaijdaaGreat.VC
 rw [Bool.and_eq_true, decide_eq_true_eq, List.all_eq_true]
 exact ⟨⟨h.1, by have := h.2.1; omega⟩, h.all⟩
theorem SB.pos {b : B} (h : SB b) : 0 ≤ bq b ∧ 0 ≤ rq b := ⟨ye9 (GB_b h.1), ye9 (GB_r h.1)⟩
/-! ### values -/
def vq (t : Rat) (b : B) : Rat := bq b + rq b * t
def y95 (t : Rat) (b : B) : Bool := fits (rq b * t) && fits (vq t b)
theorem value_ok {b : B} {t : R} (hb : GB b = true) (ht : GR t = true) : y1S ⟨0⟩ b t = some (if y95 (val t) b then (ofQ (vq (val t) b), (⟨0⟩ : z18)) else (⟨0, 0⟩, ⟨3⟩)) := by
 unfold y1S y1N
 rw [if_neg (by simp)]
 simp only []
 rw [ye8 (y5M (GB_r hb)) (y5M ht), Option.bind_some, Option.bind_some]
 show Option.bind (if _ then _ else _) _ = _
 have hr : val b.fRate * val t = rq b * val t := rfl
 rw [hr]
 unfold y95
 cases h : fits (rq b * val t) with
 | true =>
  rw [ycS h]
  rw [if_neg (by simp)]
  rw [ye7 (y5M (GB_b hb)) (y6S h), y5c]
  simp only [Option.bind_some, Bool.true_and]
  have hv : val b.fBurst + rq b * val t = vq (val t) b := rfl
  rw [hv]
  cases h2 : fits (vq (val t) b) with
  | true => rw [ycS h2]; rfl
  | false => unfold mk; rw [h2]; rfl
 | false =>
  unfold mk
  rw [h]
  simp
theorem yg4 {b : B} {t : R} {e : Int} (he : e ≠ 0) : y1S ⟨e⟩ b t = some (⟨0, 0⟩, ⟨e⟩) := by
 unfold y1S y1N
 simp [he]
theorem yee {α β R : Type} [Inhabited α] {c : List α} {S : Int → α → Option (β × Int)} {ok : α → Bool} {g : α → β} {z : β} {k : List β → Int → Option R} {K3 : Option R} {L : Nat → List β → Int → Int → Option R}
  (hS : ∀ b ∈ c, S 0 b = some (if ok b then (g b, 0) else (z, 3)) ∧ S 3 b = some (z, 3))
  (hL : ∀ n out (i : Int) e v e', 0 ≤ i → i < c.length → (out.length : Int) = i → S e (nth c i) = some (v, e') → L (n + 1) out i e = L n (out ++ [v]) (i + 1) e')
  (hE : ∀ n out (i : Int) e, ¬ i < c.length → L (n + 1) out i e = k out e)
  (hK : ∀ out, k out 3 = K3) :
  ∀ (n : Nat) (out : List β) (i : Int), 0 ≤ i → (out.length : Int) = i → i ≤ c.length → c.length < n + i →
   L n out i 3 = K3 ∧ L n out i 0 = if (c.drop i.toNat).all ok then k (out ++ (c.drop i.toNat).map g) 0 else K3
 | 0, out, i, h0, ho, h1, h2 => by omega
 | n + 1, out, i, h0, ho, h1, h2 => by
  by_cases h : i < c.length
  ·have hm := hS _ (y1B h0 h)
   have ih := fun out' ho' => yee hS hL hE hK n out' (i + 1) (by omega) ho' (by omega) (by omega)
   refine ⟨?_, ?_⟩
   ·rw [hL n out i 3 _ _ h0 h ho hm.2]
    exact (ih _ (by simp; omega)).1
   ·rw [y32 h0 h, List.all_cons, List.map_cons]
    cases hb : ok (nth c i) with
    | true =>
     have h3 := hm.1
     rw [hb, if_pos rfl] at h3
     rw [hL n out i 0 _ _ h0 h ho h3, (ih _ (by simp; omega)).2]
     simp
    | false =>
     have h3 := hm.1
     rw [hb, if_neg (by simp)] at h3
     rw [hL n out i 0 _ _ h0 h ho h3, (ih _ (by simp; omega)).1]
     simp
  ·rw [hE n out i 3 h, hE n out i 0 h, y3B h, hK]
   simp
/-! ### least -/
def minQ : List Rat → Rat
 | [] => 0
 | [x] => x
 | x :: y :: l => let m := minQ (y :: l); if x ≤ m then x else m
def ybh (l : List Rat) (q : Rat) : Prop := q ∈ l ∧ ∀ x ∈ l, q ≤ x
theorem ybh.unique {l : List Rat} {p q : Rat} (hp : ybh l p) (hq : ybh l q) : p = q := Rat.le_antisymm (hp.2 _ hq.1) (hq.2 _ hp.1)
theorem ycT : ∀ (l : List Rat), l ≠ [] → ybh l (minQ l)
 | [], h => absurd rfl h
 | [x], _ => ⟨by simp [minQ], fun y hy => by simp at hy; subst hy; exact Rat.le_refl⟩
 | x :: y :: l, _ => by
  have ih := ycT (y :: l) (by simp)
  unfold minQ
  by_cases h : x ≤ minQ (y :: l)
  ·rw [if_pos h]
   refine ⟨by simp, fun z hz => ?_⟩
   rcases List.mem_cons.1 hz with rfl | hz
   ·exact Rat.le_refl
   ·exact Rat.le_trans h (ih.2 z hz)
  ·rw [if_neg h]
   refine ⟨List.mem_cons_of_mem _ ih.1, fun z hz => ?_⟩
   rcases List.mem_cons.1 hz with rfl | hz
   ·exact Rat.le_of_lt (Rat.not_le.1 h)
   ·exact ih.2 z hz
theorem minQ_eq {l : List Rat} {q : Rat} (h : ybh l q) : minQ l = q := (ycT l (List.ne_nil_of_mem h.1)).unique h
theorem y5d {α : Type} [Inhabited α] {l : List α} {i : Int} {x : α} (h0 : 0 ≤ i) (h : i < l.length) : x ∈ l.take (i + 1).toNat ↔ x ∈ l.take i.toNat ∨ x = nth l i := by
 rw [take_succ l h0 h, List.mem_append, List.mem_singleton]
theorem yaX {l : List R} {k : Int → Int → Option R} (hl : ∀ x ∈ l, V x = true) (hs : (l.length : Int) ≤ 1000000) :
  ∀ (n : Nat) (i : Int) (c : R), 0 ≤ i → i ≤ l.length → l.length < n + i → c ∈ l → (∀ x ∈ l.take i.toNat, val c ≤ val x) →
   ∃ d : R, y1c l (fun y0 y1 => y1i y0 y1) k n i c.fN c.fD = k d.fN d.fD ∧ d ∈ l ∧ ∀ x ∈ l, val d ≤ val x
 | 0, i, c, h0, h1, h2, hc, hm => by omega
 | n + 1, i, c, h0, h1, h2, hc, hm => by
  rw [y1c]
  by_cases h : i < l.length
  ·rw [if_pos (by simpa using h)]
   simp only [jp2]
   rw [yr ⟨h0, h⟩, yr ⟨h0, h⟩, yD (by omega)]
   have hx := y1B h0 h
   show ∃ d : R, Option.bind (y1i (nth l i) c) _ = _ ∧ _
   rw [y7G (hl _ hx) (hl _ hc), Option.bind_some]
   by_cases hlt : val (nth l i) < val c
   ·rw [if_pos (by simpa using y6T.2 hlt)]
    refine yaX hl hs n (i + 1) (nth l i) (by omega) (by omega) (by omega) hx fun x hx' => ?_
    rcases (y5d h0 h).1 hx' with h3 | rfl
    ·exact Rat.le_trans (Rat.le_of_lt hlt) (hm x h3)
    ·exact Rat.le_refl
   ·rw [if_neg (by simpa using fun h => hlt (y6T.1 h))]
    refine yaX hl hs n (i + 1) c (by omega) (by omega) (by omega) hc fun x hx' => ?_
    rcases (y5d h0 h).1 hx' with h3 | rfl
    ·exact hm x h3
    ·exact Rat.not_lt.1 hlt
  ·rw [if_neg (by simpa using h)]
   refine ⟨c, rfl, hc, fun x hx => hm x ?_⟩
   rwa [List.take_of_length_le (by omega)]
theorem minR_eq {l : List R} (hl : ∀ x ∈ l, V x = true) (h0 : l ≠ []) (hs : (l.length : Int) ≤ 1000000) : y1Y l (fun y0 y1 => y1i y0 y1) = some (ofQ (minQ (l.map val))) := by
 have hp := List.length_pos_iff.2 h0
 unfold y1Y
 rw [if_neg (by simp; omega), yr (by omega)]
 refine y90 (P := fun o => o = _) fun k hk => ?_
 have hm0 := y1B (l := l) (i := 0) (by omega) (by omega)
 obtain ⟨d, e, hd, hle⟩ := yaX (k := k) hl hs yz 1 (nth l 0) (by omega) (by omega) (by rw [yU]; omega) hm0 (by
  intro x hx
  have h1 : (1 : Int) = 0 + 1 := rfl
  rw [h1] at hx
  rcases (y5d (by omega) (by omega)).1 hx with h3 | rfl
  ·simp at h3
  ·exact Rat.le_refl)
 have h1 : minQ (l.map val) = val d := minQ_eq ⟨List.mem_map_of_mem hd, fun x hx => by
  obtain ⟨y, hy, rfl⟩ := List.mem_map.1 hx
  exact hle y hy⟩
 rw [e, hk, h1, ycQ (hl d hd)]
theorem rate1_eq {a b : B} (ha : GB a = true) (hb : GB b = true) : y3h a b = some (y59 (rq a) (rq b)) := by
 unfold y3h
 rw [y7G (y5M (GB_r ha)) (y5M (GB_r hb))]; rfl
theorem yaY {l : List B} {k : Int → Int → Int → Int → Option B} (hl : ∀ x ∈ l, GB x = true) (hs : (l.length : Int) ≤ 1000000) :
  ∀ (n : Nat) (i : Int) (c : B), 0 ≤ i → i ≤ l.length → l.length < n + i → c ∈ l → (∀ x ∈ l.take i.toNat, rq c ≤ rq x) →
   ∃ d : B, yY l (fun y0 y1 => y3h y0 y1) k n i c.fBurst.fN c.fBurst.fD c.fRate.fN c.fRate.fD = k d.fBurst.fN d.fBurst.fD d.fRate.fN d.fRate.fD ∧ d ∈ l ∧ ∀ x ∈ l, rq d ≤ rq x
 | 0, i, c, h0, h1, h2, hc, hm => by omega
 | n + 1, i, c, h0, h1, h2, hc, hm => by
  rw [yY]
  by_cases h : i < l.length
  ·rw [if_pos (by simpa using h)]
   simp only [jp4]
   rw [yr ⟨h0, h⟩, yr ⟨h0, h⟩, yD (by omega)]
   have hx := y1B h0 h
   show ∃ d : B, Option.bind (y3h (nth l i) c) _ = _ ∧ _
   rw [rate1_eq (hl _ hx) (hl _ hc), Option.bind_some]
   by_cases hlt : rq (nth l i) < rq c
   ·rw [if_pos (decide_eq_true (y6T.2 hlt))]
    refine yaY hl hs n (i + 1) (nth l i) (by omega) (by omega) (by omega) hx fun x hx' => ?_
    rcases (y5d h0 h).1 hx' with h3 | rfl
    ·exact Rat.le_trans (Rat.le_of_lt hlt) (hm x h3)
    ·exact Rat.le_refl
   ·rw [if_neg (fun h => hlt (y6T.1 (of_decide_eq_true h)))]
    refine yaY hl hs n (i + 1) c (by omega) (by omega) (by omega) hc fun x hx' => ?_
    rcases (y5d h0 h).1 hx' with h3 | rfl
    ·exact hm x h3
    ·exact Rat.not_lt.1 hlt
  ·rw [if_neg (by simpa using h)]
   refine ⟨c, rfl, hc, fun x hx => hm x ?_⟩
   rwa [List.take_of_length_le (by omega)]
theorem jp4_ex {R A0 A1 A2 A3 : Type} {K : A0 → A1 → A2 → A3 → Option R} {F : (A0 → A1 → A2 → A3 → Option R) → Option R} {P : Option R → Prop} (h : ∀ k : A0 → A1 → A2 → A3 → Option R, (∀ x0 x1 x2 x3, k x0 x1 x2 x3 = K x0 x1 x2 x3) → P (F k)) : P (jp4 K F) := h K fun _ _ _ _ => rfl
theorem minB_eq {l : List B} (hl : ∀ x ∈ l, GB x = true) (h0 : l ≠ []) (hs : (l.length : Int) ≤ 1000000) : ∃ d, y1F l (fun y0 y1 => y3h y0 y1) = some d ∧ d ∈ l ∧ ∀ x ∈ l, rq d ≤ rq x := by
 have hp := List.length_pos_iff.2 h0
 unfold y1F
 rw [if_neg (by simp; omega), yr (by omega)]
 refine jp4_ex (P := fun o => ∃ d, o = some d ∧ d ∈ l ∧ ∀ x ∈ l, rq d ≤ rq x) fun k hk => ?_
 have hm0 := y1B (l := l) (i := 0) (by omega) (by omega)
 obtain ⟨d, e, hd, hle⟩ := yaY (k := k) hl hs yz 1 (nth l 0) (by omega) (by omega) (by rw [yU]; omega) hm0 (by
  intro x hx
  have h1 : (1 : Int) = 0 + 1 := rfl
  rw [h1] at hx
  rcases (y5d (by omega) (by omega)).1 hx with h3 | rfl
  ·simp at h3
  ·exact Rat.le_refl)
 rw [e, hk]
 exact ⟨d, rfl, hd, hle⟩
/-! ### At and Rate -/
def AT (c : List B) (t : Rat) : Rat := minQ (c.map (vq t))
theorem AT_is {c : List B} {t : Rat} (h : c ≠ []) : ybh (c.map (vq t)) (AT c t) := ycT _ (by simpa using h)
theorem at_loop {c : List B} {t : R} {k : List R → Int → Option (R × Int)} {K3 : Option (R × Int)} (hc : ∀ b ∈ c, GB b = true) (ht : GR t = true) (hs : (c.length : Int) ≤ 1000000) (hK : ∀ out, k out 3 = K3)
  {n : Nat} (hn : c.length < n) : y2M c t k n [] 0 0 = if c.all (y95 (val t)) then k (c.map fun b => ofQ (vq (val t) b)) 0 else K3 := by
 have := (yee (c := c) (S := fun e b => (y1S ⟨e⟩ b t).bind fun x => some (x.1, x.2.fE)) (ok := y95 (val t)) (g := fun b => ofQ (vq (val t) b)) (z := ⟨0, 0⟩) (k := k) (K3 := K3) (L := fun n out i e => y2M c t k n out i e)
  (fun b hb => ⟨by rw [value_ok (hc b hb) ht]; cases y95 (val t) b <;> rfl, by rw [yg4 (by decide)]; rfl⟩) ?_ ?_ hK n [] 0 (by omega) rfl (by omega) (by omega)).2
 ·simpa using this
 ·intro n out i e v e' h0 h ho hS
  show y2M c t k (n + 1) out i e = _
  rw [y2M, if_pos (by simpa using h), yr ⟨h0, h⟩]
  show Option.bind (y1S ⟨e⟩ (nth c i) t) _ = _
  cases hv : y1S ⟨e⟩ (nth c i) t with
  | none => rw [hv] at hS; cases hS
  | some x =>
   rw [hv] at hS
   have hS : some (x.1, x.2.fE) = some (v, e') := hS
   obtain ⟨rfl, rfl⟩ := Prod.mk.inj (Option.some.inj hS)
   rw [Option.bind_some, yr (by simp only [List.length_append, List.length_cons, List.length_nil]; omega), yD (by omega)]
 ·intro n out i e h
  show y2M c t k (n + 1) out i e = _
  rw [y2M, if_neg (by simpa using h)]
theorem at_eq {c : List B} {t : R} (hc : VC c = true) (ht : GR t = true) : y4i c t = some (if c.all (y95 (val t)) then (ofQ (AT c (val t)), 0) else (⟨0, 0⟩, 3)) := by
 have hl := ycm hc
 unfold y4i
 rw [y6b, ybg, hc, ht]
 simp only [Option.bind_some, Bool.not_true, Bool.false_eq_true, if_false]
 refine y90 (P := fun o => o = _) fun k hk => ?_
 rw [at_loop (K3 := some (⟨0, 0⟩, 3)) (yaW hc) ht (by omega) (fun out => by rw [hk]; rfl) (by rw [yU]; omega)]
 cases ha : c.all (y95 (val t)) with
 | true =>
  rw [if_pos rfl, if_pos rfl, hk, if_neg (by simp)]
  rw [List.all_eq_true] at ha
  rw [minR_eq (l := c.map fun b => ofQ (vq (val t) b)) ?_ ?_ (by simp; omega), Option.bind_some]
  ·rw [List.map_map]
   congr 3
   unfold AT
   congr 2
   funext b
   exact y5c _
  ·intro x hx
   obtain ⟨b, hb, rfl⟩ := List.mem_map.1 hx
   have := ha b hb
   simp only [y95, Bool.and_eq_true] at this
   exact y6S this.2
  ·intro h
   have := congrArg List.length h
   simp at this; subst this; simp at hl
 | false => simp
theorem at_bad {c : List B} {t : R} (h : ¬ (VC c = true ∧ GR t = true)) : y4i c t = some (⟨0, 0⟩, 2) := by
 unfold y4i
 rw [y6b, ybg]
 cases h1 : VC c <;> cases h2 : GR t <;> simp_all
theorem VC_ne {c : List B} (hc : VC c = true) : c ≠ [] := fun h => by have := ycm hc; subst h; simp at this
theorem yf0 {c : List B} (hc : VC c = true) : ∃ d, y4m c = some (d.fRate, 0) ∧ d ∈ c ∧ ∀ x ∈ c, rq d ≤ rq x := by
 have hl := ycm hc
 unfold y4m
 rw [y6b, hc]
 simp only [Option.bind_some, Bool.not_true, Bool.false_eq_true, if_false]
 obtain ⟨d, e, h1, h2⟩ := minB_eq (yaW hc) (VC_ne hc) (by omega)
 rw [e]
 exact ⟨d, rfl, h1, h2⟩
theorem SB.val {b : B} {m : Nat} {t : Rat} (h : SB b) (ht : G m 4 t) : G (5 * m) 32 (rq b * t) ∧ G (100 + 5 * m) 32 (vq t b) := by
 have h1 := h.2.2.mul ht
 exact ⟨h1, (h.2.1.fine 32 (by omega)).add (by omega) h1⟩
theorem SC.ne {c : List B} (h : SC c) : c ≠ [] := VC_ne h.VC
theorem SC.at {c : List B} {m : Nat} {t : Rat} (h : SC c) (ht : G m 4 t) : G (100 + 5 * m) 32 (AT c t) := by
 obtain ⟨b, hb, e⟩ := List.mem_map.1 (AT_is (t := t) h.ne).1
 rw [← e]
 exact ((h.2.2 b hb).val ht).2
end Go.Proofs.YtcahmabkeaijdaaGreat
namespace Go.Proofs.YtcahmabkeaijdaaGreat
open Go Go.RowKit Sep
/-! ### the order of buckets -/
def le2 (a b : B) : Prop := bq a ≤ bq b ∧ rq a ≤ rq b
instance (a b : B) : Decidable (le2 a b) := inferInstanceAs (Decidable (_ ∧ _))
theorem dom_iff {a b : B} : dom a b = true ↔ a ≠ b ∧ le2 a b := by unfold dom le2; simp [and_assoc]
theorem yg5 {a b : B} : dom a b = false ↔ (le2 a b → a = b) := by
 rw [Bool.eq_false_iff, ne_eq, dom_iff]
 constructor
 ·intro h h'
  exact Classical.byContradiction fun hn => h ⟨hn, h'⟩
 ·intro h h'
  exact h'.1 (h h'.2)
theorem NORM_in {c : List B} {v : B} : v ∈ y2n c ↔ v ∈ c ∧ ∀ a ∈ c, le2 a v → a = v := by
 rw [ybR]; simp only [yg5]
theorem cmpb {a b : B} (ha : GB a = true) (hb : GB b = true) : y1i a.fBurst b.fBurst = some (y59 (bq a) (bq b)) := y7G (y5M (GB_b ha)) (y5M (GB_b hb))
theorem NORM_all {c : List B} (hc : ∀ b ∈ c, GB b = true) : ∀ b ∈ y2n c, GB b = true := fun b hb => hc b (NORM_in.1 hb).1
/-! values of lists -/
/-! ### Shift -/
end Go.Proofs.YtcahmabkeaijdaaGreat
namespace Go.Proofs.YtcahmabkeaijdaaGreat
open Go Go.RowKit Sep
/-! ### a loop over a function's pairs -/
def y5N {β Sg : Type} (y : β → Sg → Option (Bool × Sg)) (k : Sg → Option Sg) : List β → Sg → Option Sg
 | [], s => k s
 | p :: l, s => (y p s).bind fun x => if !x.1 then some x.2 else y5N y k l x.2
theorem ybA {β Sg : Type} {y : β → Sg → Option (Bool × Sg)} {k : Sg → Option Sg} {m : List β} : ∀ (l : List β) (s : Sg), y5N y k (l ++ m) s = y5N y (y5N y k m) l s
 | [], s => rfl
 | p :: l, s => by
  show Option.bind _ _ = Option.bind _ _
  congr 1
  funext x
  show (if _ then _ else y5N y k (l ++ m) x.2) = _
  rw [ybA l]
theorem yad {β Sg : Type} {y : β → Sg → Option (Bool × Sg)} {k k' : Sg → Option Sg} (h : ∀ s, k s = k' s) : ∀ (l : List β) (s : Sg), y5N y k l s = y5N y k' l s
 | [], s => h s
 | p :: l, s => by
  show Option.bind _ _ = Option.bind _ _
  congr 1
  funext x
  rw [yad h l]
theorem ybB {Sg : Type} {c d : List B} {y : B × B → Sg → Option (Bool × Sg)} {v : Int} {k : Sg → Option Sg} (hs : (d.length : Int) ≤ 1000000) :
  ∀ (n : Nat) (i : Int) (s : Sg), 0 ≤ i → i ≤ d.length → d.length < n + i → y3b Sg d y c v k n i s = y5N y k ((d.drop i.toNat).map fun z => (nth c v, z)) s
 | 0, i, s, h0, h1, h2 => by omega
 | n + 1, i, s, h0, h1, h2 => by
  rw [y3b]
  by_cases h : i < d.length
  ·rw [if_pos (decide_eq_true h), yr ⟨h0, h⟩, y32 h0 h, List.map_cons, y5N]
   show Option.bind (y (nth c v, nth d i) s) _ = _
   congr 1
   funext x
   rw [yD (by omega), ybB hs n (i + 1) x.2 (by omega) (by omega) (by omega)]
  ·rw [if_neg (by simpa using h), y3B h]
   rfl
def y5O (a b : List B) : List (B × B) := a.flatMap fun x => b.map fun z => (x, z)
theorem yae {a b : List B} {p : B × B} : p ∈ y5O a b ↔ p.1 ∈ a ∧ p.2 ∈ b := by
 unfold y5O
 simp only [List.mem_flatMap, List.mem_map]
 constructor
 ·rintro ⟨x, hx, z, hz, rfl⟩; exact ⟨hx, hz⟩
 ·intro h; exact ⟨p.1, h.1, p.2, h.2, rfl⟩
theorem yeB (a b : List B) : (y5O a b).length = a.length * b.length := by
 induction a with
 | nil => simp [y5O]
 | cons x a ih =>
  have : y5O (x :: a) b = b.map (fun z => (x, z)) ++ y5O a b := rfl
  rw [this, List.length_append, ih, List.length_map, List.length_cons, Nat.succ_mul]; omega
theorem ybC {Sg : Type} {c d : List B} {y : B × B → Sg → Option (Bool × Sg)} {k : Sg → Option Sg} (hs : (c.length : Int) ≤ 1000000) (hd : (d.length : Int) ≤ 1000000) :
  ∀ (n : Nat) (i : Int) (s : Sg), 0 ≤ i → i ≤ c.length → c.length < n + i → y3c Sg c d y k n i s = y5N y k (y5O (c.drop i.toNat) d) s
 | 0, i, s, h0, h1, h2 => by omega
 | n + 1, i, s, h0, h1, h2 => by
  rw [y3c]
  by_cases h : i < c.length
  ·rw [if_pos (decide_eq_true h)]
   refine y2h (P := fun o => o = _) fun k1 hk1 => ?_
   rw [yr ⟨h0, h⟩]
   refine y2h (P := fun o => o = _) fun k2 hk2 => ?_
   rw [ybB hd yz 0 s (by omega) (by omega) (by rw [yU]; omega), y32 h0 h]
   show _ = y5N y k (((d.map fun z => (nth c i, z))) ++ y5O (c.drop (i + 1).toNat) d) s
   rw [ybA, Int.toNat_zero, List.drop_zero]
   refine yad (fun s' => ?_) _ _
   rw [hk2, hk1, yD (by omega), ybC hs hd n (i + 1) s' (by omega) (by omega) (by omega)]
  ·rw [if_neg (by simpa using h), y3B h]
   rfl
theorem pairs_eq {Sg : Type} {c d : List B} {y : B × B → Sg → Option (Bool × Sg)} {s : Sg} (hs : (c.length : Int) ≤ 1000000) (hd : (d.length : Int) ≤ 1000000) :
  y4r Sg y s c d = y5N y some (y5O c d) s := by
 unfold y4r
 refine y2h (P := fun o => o = _) fun k hk => ?_
 rw [ybC hs hd yz 0 s (by omega) (by omega) (by rw [yU]; omega), Int.toNat_zero, List.drop_zero]
 exact yad hk _ _
theorem yf1 {β γ : Type} {y : β → Nat × List γ × Int → Option (Bool × (Nat × List γ × Int))} {ok : β → Bool} {g : β → List γ} {N : Nat} :
  ∀ (l : List β) (out : List γ), out.length + l.length ≤ N →
   (∀ p ∈ l, (g p).length ≤ 1 ∧ ∀ out : List γ, out.length < N → (ok p = true → y p (0, out, 0) = some (true, (0, out ++ g p, 0))) ∧ (ok p = false → ∃ o, o.length ≤ out.length + 1 ∧ y p (0, out, 0) = some (true, (0, o, 3))) ∧ ∃ o, o.length ≤ out.length + 1 ∧ y p (0, out, 3) = some (true, (0, o, 3))) →
   (∃ out', y5N y some l (0, out, 3) = some (0, out', 3)) ∧ ∃ out', y5N y some l (0, out, 0) = some (0, if l.all ok then (out ++ l.flatMap g, 0) else (out', 3))
 | [], out, hl, h => ⟨⟨out, rfl⟩, ⟨out, by simp [y5N]⟩⟩
 | p :: l, out, hl, h => by
  simp only [List.length_cons] at hl
  obtain ⟨h1, hp⟩ := h p (by simp)
  obtain ⟨h2, h3, h4⟩ := hp out (by omega)
  have ih := fun o ho => yf1 l o ho fun q hq => h q (by simp [hq])
  constructor
  ·obtain ⟨o1, hl1, e1⟩ := h4
   obtain ⟨o, ho⟩ := (ih o1 (by omega)).1
   exact ⟨o, by rw [y5N, e1, Option.bind_some]; exact ho⟩
  ·cases hb : ok p with
   | true =>
    obtain ⟨o, ho⟩ := (ih (out ++ g p) (by rw [List.length_append]; omega)).2
    refine ⟨o, ?_⟩
    rw [y5N, h2 hb, Option.bind_some]
    refine Eq.trans (show _ = y5N y some l (0, out ++ g p, 0) from rfl) (ho.trans ?_)
    rw [List.all_cons, hb, Bool.true_and, List.flatMap_cons, List.append_assoc]
   | false =>
    obtain ⟨o1, hl1, e1⟩ := h3 hb
    obtain ⟨o, ho⟩ := (ih o1 (by omega)).1
    refine ⟨o, ?_⟩
    rw [y5N, e1, Option.bind_some]
    refine Eq.trans (show _ = y5N y some l (0, o1, 3) from rfl) (ho.trans ?_)
    rw [List.all_cons, hb, Bool.false_and, if_neg Bool.false_ne_true]
/-! ### Sum -/
theorem y9M {e : Int} (he : e ≠ 0) {f : R → R → Option (R × Int)} {x y : R} : y1N ⟨e⟩ f x y = some (⟨0, 0⟩, ⟨e⟩) := by
 unfold y1N; rw [if_pos (by simpa using he)]
theorem do_ok {f : R → R → Option (R × Int)} {x y : R} {q : Rat} (h : f x y = some (mk q)) : y1N ⟨0⟩ f x y = some (if fits q then (ofQ q, ⟨0⟩) else (⟨0, 0⟩, ⟨3⟩)) := by
 unfold y1N
 rw [if_neg (by simp), h, Option.bind_some]
 unfold mk
 cases fits q <;> rfl
/-! ### Min -/
end Go.Proofs.YtcahmabkeaijdaaGreat
namespace Go.Proofs.YtcahmabkeaijdaaGreat
open Go Go.RowKit Sep
theorem ycU {R : Type} {K : Option R} {F : Option R → Option R} {P : Option R → Prop} (h : ∀ k : Option R, k = K → P (F k)) : P (jp0 K F) := h K rfl
/-! ### Compact -/
def Inc (l : List R) : Prop := l.Pairwise fun x y => val x < val y
theorem Inc.ext : ∀ {l m : List R}, Inc l → Inc m → (∀ v, v ∈ l ↔ v ∈ m) → l = m
 | [], [], _, _, _ => rfl
 | [], y :: m, _, _, h => by have := (h y).2 (by simp); simp at this
 | x :: l, [], _, _, h => by have := (h x).1 (by simp); simp at this
 | x :: l, y :: m, hl, hm, h => by
  obtain ⟨h1, hl'⟩ := List.pairwise_cons.1 hl
  obtain ⟨h2, hm'⟩ := List.pairwise_cons.1 hm
  have e : x = y := by
   rcases List.mem_cons.1 ((h x).1 (by simp)) with e | h3
   ·exact e
   ·rcases List.mem_cons.1 ((h y).2 (by simp)) with e | h4
    ·exact e.symm
    ·have := h1 y h4; have := h2 x h3; grind
  subst e
  refine congrArg (x :: ·) (Inc.ext hl' hm' fun v => ?_)
  constructor
  ·intro hv
   rcases List.mem_cons.1 ((h v).1 (by simp [hv])) with e | h3
   ·subst e; have := h1 v hv; grind
   ·exact h3
  ·intro hv
   rcases List.mem_cons.1 ((h v).2 (by simp [hv])) with e | h3
   ·subst e; have := h2 v hv; grind
   ·exact h3
theorem yeC {a b c : Rat} (h : a ≤ b) (h' : b < c) : a < c := by grind
def y81 (s0 : List R) (m : Int) (r : List R) : Prop := Inc r ∧ (∀ v, v ∈ r ↔ v ∈ s0.take m.toNat) ∧ (r.length : Int) ≤ m
theorem y81.step {s0 : List R} (hv : ∀ x ∈ s0, V x = true) (hs : s0.Pairwise fun x y => val x ≤ val y) {m : Int} (h0 : 1 ≤ m) (h : m < s0.length) {r : List R} (hr : y81 s0 m r) :
  (nth s0 m = nth s0 (m - 1) → y81 s0 (m + 1) r) ∧ (nth s0 m ≠ nth s0 (m - 1) → y81 s0 (m + 1) (r ++ [nth s0 m])) := by
 have ht := take_succ s0 (i := m) (by omega) h
 have hp := take_succ s0 (i := m - 1) (by omega) (by omega)
 have hm1 : nth s0 (m - 1) ∈ s0.take m.toNat := by
  rw [show m = m - 1 + 1 by omega, hp]; simp
 constructor
 ·intro e
  refine ⟨hr.1, fun v => ?_, by have := hr.2.2; omega⟩
  rw [ht, hr.2.1, List.mem_append, List.mem_singleton]
  constructor
  ·exact fun h => .inl h
  ·rintro (h | rfl)
   ·exact h
   ·rw [e]; exact hm1
 ·intro e
  have hlt : val (nth s0 (m - 1)) < val (nth s0 m) := by
   have h1 := List.pairwise_iff_getElem.1 hs (m - 1).toNat m.toNat (by omega) (by omega) (by omega)
   rw [y4S (by omega) (by omega), y4S (by omega) (by omega)] at h1
   rcases ybP h1 with h | h
   ·exact h
   ·exact absurd (yeZ (hv _ (y1B (by omega) (by omega))) (hv _ (y1B (by omega) (by omega))) h).symm e
  constructor
  ·unfold Inc
   rw [List.pairwise_append]
   refine ⟨hr.1, by simp, fun a ha b hb => ?_⟩
   obtain rfl := List.mem_singleton.1 hb
   have ha := (hr.2.1 a).1 ha
   obtain ⟨i, hi, rfl⟩ := List.mem_iff_getElem.1 ha
   rw [List.length_take] at hi
   rw [List.getElem_take]
   refine yeC ?_ hlt
   by_cases e2 : i = (m - 1).toNat
   ·subst e2
    rw [y4S (by omega) (by omega)]; exact Rat.le_refl
   ·have h1 := List.pairwise_iff_getElem.1 hs i (m - 1).toNat (by omega) (by omega) (by omega)
    rw [y4S (i := m - 1) (by omega) (by omega)] at h1
    exact h1
  ·refine ⟨fun v => ?_, by have := hr.2.2; rw [List.length_append, List.length_singleton]; omega⟩
   rw [ht, List.mem_append, List.mem_append, hr.2.1]
theorem yfv {s : List R} {k j : Int} {v : R} (h0 : 0 ≤ k) (h1 : 0 ≤ j) (h : k ≠ j) : nth (s.set k.toNat v) j = nth s j := by
 unfold nth
 rw [List.getD_eq_getElem?_getD, List.getD_eq_getElem?_getD, List.getElem?_set_ne (by omega)]
theorem take_set {s : List R} {k : Int} {v : R} (h0 : 0 ≤ k) (h : k < s.length) : (s.set k.toNat v).take (k + 1).toNat = s.take k.toNat ++ [v] := by
 rw [show (k + 1).toNat = k.toNat + 1 by omega, List.take_add_one, List.take_set_of_le (by omega), List.getElem?_set_self (by omega)]
 rfl
theorem ybS {s0 : List R} {K : Int} {k : List R → Int → Option (List R)} (hv : ∀ x ∈ s0, V x = true) (hs : s0.Pairwise fun x y => val x ≤ val y) (hK : 1 ≤ K ∧ K < s0.length) (hl : (s0.length : Int) ≤ 1000000) :
  ∀ (n : Nat) (s : List R) (j i : Int), 1 ≤ i → K + i ≤ s0.length → s0.length - K < n + i → K ≤ j → j ≤ K + i - 1 → s.length = s0.length → (∀ q : Int, K + i - 1 ≤ q → nth s q = nth s0 q) → y81 s0 (K + i) (s.take j.toNat) →
   ∃ s' j', y1a s0 K k n s j i = k s' j' ∧ 0 ≤ j' ∧ j' ≤ s'.length ∧ y81 s0 s0.length (s'.take j'.toNat)
 | 0, s, j, i, h0, h1, h2, h3, h4, h5, h6, h7 => by omega
 | n + 1, s, j, i, h0, h1, h2, h3, h4, h5, h6, h7 => by
  rw [y1a]
  by_cases h : i < ((s0.length - K.toNat : Nat) : Int)
  ·rw [if_pos (decide_eq_true h)]
   simp only [jp2]
   rw [yD (x := i - 1) (by omega), yr (by omega), yr (by omega)]
   have e1 : nth s (K + i) = nth s0 (K + i) := h6 _ (by omega)
   have e2 : nth s (K + (i - 1)) = nth s0 (K + i - 1) := by rw [show K + (i - 1) = K + i - 1 by omega]; exact h6 _ (by omega)
   show ∃ s' j', (if decide (nth s (K + i) ≠ nth s (K + (i - 1))) then _ else _) = _ ∧ _
   rw [e1, e2]
   have st := y81.step hv hs (m := K + i) (by omega) (by omega) h7
   by_cases he : nth s0 (K + i) = nth s0 (K + i - 1)
   ·rw [if_neg (by simpa using he), yD (x := i + 1) (by omega)]
    refine ybS (k := k) hv hs hK hl n s j (i + 1) (by omega) (by omega) (by omega) h3 (by omega) h5 (fun q hq => h6 q (by omega)) ?_
    rw [show K + (i + 1) = K + i + 1 by omega]
    exact st.1 he
   ·rw [if_pos (decide_eq_true he), yr (by omega), yr (by omega), yD (x := i + 1) (by omega), yD (x := j + 1) (by omega)]
    have eta : (⟨(nth s0 (K + i)).fN, (nth s0 (K + i)).fD⟩ : R) = nth s0 (K + i) := rfl
    rw [eta]
    refine ybS (k := k) hv hs hK hl n (s.set j.toNat (nth s0 (K + i))) (j + 1) (i + 1) (by omega) (by omega) (by omega) (by omega) (by omega) (by rw [List.length_set]; exact h5) (fun q hq => ?_) ?_
    ·rw [yfv (by omega) (by omega) (by omega)]
     exact h6 q (by omega)
    ·rw [take_set (by omega) (by omega), show K + (i + 1) = K + i + 1 by omega]
     exact st.2 he
  ·rw [if_neg (by simpa using h)]
   refine ⟨s, j, rfl, by omega, by omega, ?_⟩
   rw [show (s0.length : Int) = K + i by omega]
   exact h7
theorem yef {s0 : List R} {k : Option (List R)} (hv : ∀ x ∈ s0, V x = true) (hs : s0.Pairwise fun x y => val x ≤ val y) (hl : (s0.length : Int) ≤ 1000000) (hk : k = some s0) :
  ∀ (n : Nat) (i : Int), 1 ≤ i → i ≤ s0.length → s0.length < n + i → y81 s0 i (s0.take i.toNat) →
   ∃ r, y1b s0 k n i = some r ∧ y81 s0 s0.length r
 | 0, i, h0, h1, h2, h3 => by omega
 | n + 1, i, h0, h1, h2, h3 => by
  rw [y1b]
  by_cases h : i < s0.length
  ·rw [if_pos (decide_eq_true h)]
   refine ycU (P := fun o => ∃ r, o = some r ∧ y81 s0 s0.length r) fun k1 hk1 => ?_
   rw [yD (x := i + 1) (by omega)] at hk1
   rw [yD (x := i - 1) (by omega), yr (by omega), yr (by omega)]
   have st := y81.step hv hs (m := i) h0 h h3
   show ∃ r, (if decide (nth s0 i = nth s0 (i - 1)) then _ else _) = _ ∧ _
   by_cases he : nth s0 i = nth s0 (i - 1)
   ·rw [if_pos (decide_eq_true he), yr (by omega)]
    refine y90 (P := fun o => ∃ r, o = some r ∧ y81 s0 s0.length r) fun k2 hk2 => ?_
    obtain ⟨s', j', e, h4, h5, h6⟩ := ybS (k := k2) hv hs ⟨h0, h⟩ hl yz s0 i 1 (by omega) (by omega) (by rw [yU]; omega) (by omega) (by omega) rfl (fun q _ => rfl) (by exact st.1 he)
    rw [e, hk2]
    have ht : (s'.take j'.toNat ++ List.replicate (s'.length - j'.toNat) ((⟨0, 0⟩ : R) : R)).take j'.toNat = s'.take j'.toNat := by
     rw [List.take_append_of_le_length (by rw [List.length_take]; omega), List.take_take, Nat.min_self]
    rw [yr ⟨h4, h5⟩, yr ⟨h4, by rw [List.length_append, List.length_take, List.length_replicate]; omega⟩]
    exact ⟨_, congrArg some ht, h6⟩
   ·rw [if_neg (by simpa using he), hk1]
    refine yef hv hs hl hk n (i + 1) (by omega) (by omega) (by omega) ?_
    rw [take_succ s0 (by omega) h]
    exact st.2 he
  ·rw [if_neg (by simpa using h)]
   refine ⟨s0, hk, ?_⟩
   rw [show (s0.length : Int) = i by omega]
   have := h3
   rwa [List.take_of_length_le (by omega)] at this
theorem yfw {s0 : List R} (hv : ∀ x ∈ s0, V x = true) (hs : s0.Pairwise fun x y => val x ≤ val y) (hl : (s0.length : Int) ≤ 1000000) :
  ∃ r, y1X s0 = some r ∧ Inc r ∧ (∀ v, v ∈ r ↔ v ∈ s0) ∧ r.length ≤ s0.length := by
 unfold y1X
 by_cases h : (s0.length : Int) < 2
 ·rw [if_pos (decide_eq_true h)]
  refine ⟨s0, rfl, ?_, fun _ => Iff.rfl, Nat.le_refl _⟩
  unfold Inc
  rcases s0 with _ | ⟨x, _ | ⟨y, l⟩⟩
  ·exact .nil
  ·simp
  ·simp only [List.length_cons] at h; omega
 ·rw [if_neg (by simpa using h)]
  refine ycU (P := fun o => ∃ r, o = some r ∧ Inc r ∧ (∀ v, v ∈ r ↔ v ∈ s0) ∧ r.length ≤ s0.length) fun k hk => ?_
  have h1 : y81 s0 1 (s0.take (1 : Int).toNat) := by
   refine ⟨?_, fun _ => Iff.rfl, by rw [List.length_take]; omega⟩
   have := take_succ s0 (i := 0) (by omega) (by omega)
   rw [show ((0 : Int) + 1) = 1 from rfl, Int.toNat_zero, List.take_zero, List.nil_append] at this
   rw [this]
   simp [Inc]
  obtain ⟨r, e, hr⟩ := yef hv hs hl hk yz 1 (by omega) (by omega) (by rw [yU]; omega) h1
  refine ⟨r, e, hr.1, fun v => ?_, by have := hr.2.2; omega⟩
  rw [hr.2.1, Int.toNat_natCast, List.take_length]
end Go.Proofs.YtcahmabkeaijdaaGreat
namespace Go.Proofs.YtcahmabkeaijdaaGreat
open Go Go.RowKit Sep
/-! ### Breaks -/
def bpA (p : B × B) : Rat := bq p.2 - bq p.1
def bpD (p : B × B) : Rat := rq p.1 - rq p.2
def bp (p : B × B) : Rat := bpA p / bpD p
def bfit (p : B × B) : Bool := fits (bpA p) && fits (bpD p) && fits (bp p)
def bl (p : B × B) : Bool := decide (bq p.1 < bq p.2)
def bok (p : B × B) : Bool := !bl p || bfit p
def bg (p : B × B) : List R := if bl p then [ofQ (bp p)] else []
theorem yfx {p : B × B} {out : List R} (h1 : GB p.1 = true) (h2 : GB p.2 = true) (hd : bl p = true → rq p.2 < rq p.1) (hl : out.length < 2000) :
  (bok p = true → y1w p out 0 = some (true, (0, out ++ bg p, 0))) ∧ (bok p = false → ∃ o, o.length ≤ out.length + 1 ∧ y1w p out 0 = some (true, (0, o, 3))) ∧ ∃ o, o.length ≤ out.length + 1 ∧ y1w p out 3 = some (true, (0, o, 3)) := by
 unfold y1w
 rw [cmpb h1 h2]
 simp only [Option.bind_some]
 have a1 := do_ok (f := fun y0 y1 => y24 y0 y1) (yck (y5M (GB_b h2)) (y5M (GB_b h1)))
 have a2 := do_ok (f := fun y0 y1 => y24 y0 y1) (yck (y5M (GB_r h1)) (y5M (GB_r h2)))
 have e1 : val p.2.fBurst - val p.1.fBurst = bpA p := rfl
 have e2 : val p.1.fRate - val p.2.fRate = bpD p := rfl
 rw [e1] at a1; rw [e2] at a2
 unfold bok bg
 by_cases hb : bq p.1 < bq p.2
 ·have hbl : bl p = true := decide_eq_true hb
  rw [if_pos (decide_eq_true (y6T.2 hb)), if_pos (decide_eq_true (y6T.2 hb))]
  rw [hbl, if_pos rfl]
  have hpos : 0 < bpD p := by have := hd hbl; unfold bpD; grind
  have l1 : ∀ v : R, (((out ++ [v]).length : Nat) : Int) * 16 ≤ 140737488355328 ∧ (((out ++ [v]).length : Nat) : Int) ≤ 4611686018427387904 := fun v => by
   simp only [List.length_append, List.length_cons, List.length_nil]; omega
  refine ⟨fun hk => ?_, fun hk => ?_, ?_⟩
  ·simp only [Bool.not_true, Bool.false_or, bfit, Bool.and_eq_true] at hk
   obtain ⟨⟨f1, f2⟩, f3⟩ := hk
   rw [a1, f1, if_pos rfl, Option.bind_some]
   simp only []
   rw [a2, f2, if_pos rfl, Option.bind_some]
   simp only []
   have hn : (ofQ (bpD p)).fN ≠ 0 := by
    intro h0
    have h1 : (bpD p).num = 0 := h0
    rw [Rat.num_eq_zero.1 h1] at hpos
    exact absurd hpos (by decide)
   have a3 := do_ok (f := fun y0 y1 => y3v y0 y1) (ycl (y6S f1) (y6S f2) hn)
   rw [y5c, y5c] at a3
   have e3 : bpA p / bpD p = bp p := rfl
   rw [e3, f3, if_pos rfl] at a3
   rw [a3, Option.bind_some]
   rw [yr (l1 _)]
  ·simp only [Bool.not_true, Bool.false_or, bfit] at hk
   cases f1 : fits (bpA p) with
   | false =>
    rw [a1, f1, if_neg Bool.false_ne_true, Option.bind_some]
    simp only []
    rw [y9M (by decide), Option.bind_some]
    simp only []
    rw [y9M (by decide), Option.bind_some, yr (l1 _)]
    exact ⟨_, by simp, rfl⟩
   | true =>
    rw [a1, f1, if_pos rfl, Option.bind_some]
    simp only []
    cases f2 : fits (bpD p) with
    | false =>
     rw [a2, f2, if_neg Bool.false_ne_true, Option.bind_some]
     simp only []
     rw [y9M (by decide), Option.bind_some, yr (l1 _)]
     exact ⟨_, by simp, rfl⟩
    | true =>
     rw [a2, f2, if_pos rfl, Option.bind_some]
     simp only []
     have hn : (ofQ (bpD p)).fN ≠ 0 := by
      intro h0
      have h1 : (bpD p).num = 0 := h0
      rw [Rat.num_eq_zero.1 h1] at hpos
      exact absurd hpos (by decide)
     have a3 := do_ok (f := fun y0 y1 => y3v y0 y1) (ycl (y6S f1) (y6S f2) hn)
     rw [y5c, y5c] at a3
     have e3 : bpA p / bpD p = bp p := rfl
     rw [f1, f2, Bool.true_and, Bool.true_and] at hk
     rw [e3, hk, if_neg Bool.false_ne_true] at a3
     rw [a3, Option.bind_some, yr (l1 _)]
     exact ⟨_, by simp, rfl⟩
  ·rw [y9M (by decide), Option.bind_some]
   simp only []
   rw [y9M (by decide), Option.bind_some]
   simp only []
   rw [y9M (by decide), Option.bind_some, yr (l1 _)]
   exact ⟨_, by simp, rfl⟩
 ·have hbl : bl p = false := decide_eq_false hb
  have hn : ¬ decide (y59 (bq p.1) (bq p.2) < 0) = true := fun h => hb (y6T.1 (of_decide_eq_true h))
  rw [if_neg hn, if_neg hn, hbl, if_neg Bool.false_ne_true]
  refine ⟨fun _ => by rw [List.append_nil], fun h => by simp at h, ⟨out, by omega, rfl⟩⟩
theorem ydd : ∀ {l : List B}, (l.Pairwise fun x y => bq x < bq y ∧ rq y < rq x) → ∀ {x y : B}, x ∈ l → y ∈ l → bq x < bq y → rq y < rq x
 | [], _, x, y, hx, _, _ => by simp at hx
 | z :: l, h, x, y, hx, hy, hxy => by
  obtain ⟨h1, h2⟩ := List.pairwise_cons.1 h
  rcases List.mem_cons.1 hx with e | hx'
  ·subst e
   rcases List.mem_cons.1 hy with e | hy'
   ·subst e; grind
   ·exact (h1 y hy').2
  ·rcases List.mem_cons.1 hy with e | hy'
   ·subst e; have := (h1 x hx').1; grind
   ·exact ydd h2 hx' hy' hxy
theorem bok_fit {p : B × B} (h : bok p = true) (h2 : bl p = true) : fits (bp p) = true := by
 unfold bok bfit at h
 rw [h2] at h
 simp only [Bool.not_true, Bool.false_or, Bool.and_eq_true] at h
 exact h.2
theorem yg6 {c : List B} (hc : VC c = true) :
  if (y5O (y2n c) (y2n c)).all bok then ∃ r, y1O c = some (r, 0) ∧ Inc r ∧ (∀ v, v ∈ r ↔ ∃ p, (p.1 ∈ y2n c ∧ p.2 ∈ y2n c) ∧ bl p = true ∧ v = ofQ (bp p)) ∧ (∀ v ∈ r, V v = true) ∧ r.length ≤ 1100
  else y1O c = some ([], 3) := by
 have la := ycm hc; have na := NORM_len c
 have ga := NORM_all (yaW hc)
 unfold y1O
 rw [y6b, hc, norm_eq (yaW hc) (by omega)]
 simp only [Option.bind_some, Bool.not_true, Bool.false_eq_true, if_false]
 have hp := yeB (y2n c) (y2n c)
 have hm : (y2n c).length * (y2n c).length ≤ 32 * 32 := Nat.mul_le_mul (by omega) (by omega)
 obtain ⟨o, ho⟩ := (yf1 (y := fun (x : B × B) (s : Nat × List R × Int) => chk (s.1 = 0) (y1w x s.2.1 s.2.2)) (ok := bok) (g := bg) (N := 1100) (y5O (y2n c) (y2n c)) [] (by rw [hp]; simp; omega) (by
   intro p hp
   have hm := yae.1 hp
   refine ⟨by unfold bg; split <;> simp, fun out hl => ?_⟩
   have st := yfx (p := p) (out := out) (ga _ hm.1) (ga _ hm.2) (fun h => ydd yeA hm.1 hm.2 (of_decide_eq_true h)) (by omega)
   refine ⟨fun hk => ?_, fun hk => ?_, ?_⟩
   ·show chk (0 = 0) (y1w p out 0) = _
    rw [yr rfl]; exact st.1 hk
   ·obtain ⟨o, h1, h2⟩ := st.2.1 hk
    refine ⟨o, h1, ?_⟩
    show chk (0 = 0) (y1w p out 0) = _
    rw [yr rfl]; exact h2
   ·obtain ⟨o, h1, h2⟩ := st.2.2
    refine ⟨o, h1, ?_⟩
    show chk (0 = 0) (y1w p out 3) = _
    rw [yr rfl]; exact h2)).2
 have key : ∀ k : Int → List R → Option (List R × Int), (y65 (y2n c) (y2n c)).bind (fun zD8 => (y4r (Nat × List R × Int) (fun (x : B × B) (s : Nat × List R × Int) => chk (s.1 = 0) (y1w x s.2.1 s.2.2)) (0, ([] : List R), 0) zD8.1 zD8.2).bind fun zD9 => k zD9.2.2 zD9.2.1) = if (y5O (y2n c) (y2n c)).all bok then k 0 ((y5O (y2n c) (y2n c)).flatMap bg) else k 3 o := by
  intro k
  unfold y65
  rw [Option.bind_some]
  simp only []
  rw [pairs_eq (by omega) (by omega), ho, Option.bind_some]
  split <;> simp
 cases hf : (y5O (y2n c) (y2n c)).all bok with
 | true =>
  rw [if_pos rfl]
  refine y90 (P := fun (o : Option (List R × Int)) => ∃ r, o = some (r, 0) ∧ Inc r ∧ (∀ v, v ∈ r ↔ ∃ p, (p.1 ∈ y2n c ∧ p.2 ∈ y2n c) ∧ bl p = true ∧ v = ofQ (bp p)) ∧ (∀ v ∈ r, V v = true) ∧ r.length ≤ 1100) fun k hk => ?_
  rw [key, hf, if_pos rfl, hk, if_neg (by simp)]
  have hmem : ∀ v, v ∈ (y5O (y2n c) (y2n c)).flatMap bg ↔ ∃ p, (p.1 ∈ y2n c ∧ p.2 ∈ y2n c) ∧ bl p = true ∧ v = ofQ (bp p) := by
   intro v
   rw [List.mem_flatMap]
   constructor
   ·rintro ⟨p, hp, hv⟩
    unfold bg at hv
    cases hb : bl p with
    | true => rw [hb, if_pos rfl] at hv; exact ⟨p, yae.1 hp, hb, by simpa using hv⟩
    | false => rw [hb] at hv; simp at hv
   ·rintro ⟨p, hp, hb, rfl⟩
    exact ⟨p, yae.2 hp, by unfold bg; rw [hb, if_pos rfl]; simp⟩
  have hV : ∀ v ∈ (y5O (y2n c) (y2n c)).flatMap bg, V v = true := by
   intro v hv
   obtain ⟨p, hp, hb, rfl⟩ := (hmem v).1 hv
   exact y6S (bok_fit (List.all_eq_true.1 hf p (yae.2 hp)) hb)
  have hlen : ((y5O (y2n c) (y2n c)).flatMap bg).length ≤ 1100 := by
   have : ∀ l : List (B × B), (l.flatMap bg).length ≤ l.length := by
    intro l
    induction l with
    | nil => simp
    | cons x l ih =>
     rw [List.flatMap_cons, List.length_append, List.length_cons]
     have : (bg x).length ≤ 1 := by unfold bg; split <;> simp
     omega
   have := this (y5O (y2n c) (y2n c)); omega
  rw [sortR_eq (key := val) (fun x hx y hy => y7G (hV x hx) (hV y hy)) (fun x hx y hy h => yeZ (hV x hx) (hV y hy) h) (by omega), Option.bind_some]
  have hperm := y8E val ((y5O (y2n c) (y2n c)).flatMap bg)
  obtain ⟨r, e, h1, h2, h3⟩ := yfw (s0 := y8D val ((y5O (y2n c) (y2n c)).flatMap bg)) (fun x hx => hV x (hperm.mem_iff.1 hx)) (y93 _ _) (by rw [hperm.length_eq]; omega)
  rw [e, Option.bind_some]
  refine ⟨r, rfl, h1, fun v => ?_, fun v hv => hV v (hperm.mem_iff.1 ((h2 v).1 hv)), by rw [hperm.length_eq] at h3; omega⟩
  rw [h2, hperm.mem_iff, hmem]
 | false =>
  rw [if_neg Bool.false_ne_true]
  refine y90 (P := fun o => o = _) fun k hk => ?_
  rw [key, hf, if_neg Bool.false_ne_true, hk]
  simp
theorem yfy {c : List B} (h : VC c = false) : y1O c = some ([], 2) := by
 unfold y1O
 rw [y6b, h]; rfl
end Go.Proofs.YtcahmabkeaijdaaGreat
namespace Go.Proofs.YtcahmabkeaijdaaGreat
open Go Go.RowKit Sep
abbrev SV := zSv
def Z1 : R := ⟨0, 1⟩
theorem y8N : y2z = some Z1 := rfl
theorem V_Z1 : V Z1 = true := by decide +kernel
theorem yeg {RR A0 A1 A2 : Type} {K : A0 → A1 → A2 → Option RR} {F : (A0 → A1 → A2 → Option RR) → Option RR} {P : Option RR → Prop} (h : ∀ k : A0 → A1 → A2 → Option RR, (∀ x0 x1 x2, k x0 x1 x2 = K x0 x1 x2) → P (F k)) : P (jp3 K F) := h K fun _ _ _ => rfl
/-! ### operations agree -/
theorem y8i {x y : R} (h : ¬ (V x = true ∧ V y = true)) : (if !(V x) then some true else (some (V y)).bind fun v => some (!v)) = some true := by
 cases hx : V x with
 | false => rfl
 | true =>
  cases hy : V y with
  | false => rfl
  | true => exact absurd ⟨hx, hy⟩ h
theorem yf2 {x y : R} (h : ¬ (V x = true ∧ V y = true)) : y1d x y = some (⟨0, 0⟩, 2) := by
 unfold y1d y8a
 rw [y1E, y1E, Option.bind_some, y8i h]; rfl
theorem yf3 {x y : R} (h : ¬ (V x = true ∧ V y = true)) : y24 x y = some (⟨0, 0⟩, 2) := by
 unfold y24 y8e
 rw [y1E, y1E, Option.bind_some, y8i h]; rfl
theorem yf4 {x y : R} (h : ¬ (V x = true ∧ V y = true)) : y3a x y = some (⟨0, 0⟩, 2) := by
 unfold y3a y8U
 rw [y1E, y1E, Option.bind_some, y8i h]; rfl
theorem yf5 {x y : R} (h : ¬ (V x = true ∧ V y = true)) : y3v x y = some (⟨0, 0⟩, 2) := by
 unfold y3v y8g
 rw [y1E, y1E, Option.bind_some, y8i h]; rfl
theorem cmp_bad {x y : R} (h : ¬ (V x = true ∧ V y = true)) : y1i x y = some 0 := by
 unfold y1i
 rw [y1E, y1E, Option.bind_some, y8i h]; rfl
def ADD (x y : R) : R × Int := (y1d x y).getD (⟨0, 0⟩, 0)
def SUB (x y : R) : R × Int := (y24 x y).getD (⟨0, 0⟩, 0)
def MUL (x y : R) : R × Int := (y3a x y).getD (⟨0, 0⟩, 0)
def DIV (x y : R) : R × Int := (y3v x y).getD (⟨0, 0⟩, 0)
def CM (x y : R) : Int := (y1i x y).getD 0
theorem yaf (x y : R) : y1d x y = some (ADD x y) ∧ True := by
 unfold ADD
 by_cases h : V x = true ∧ V y = true
 ·rw [ye7 h.1 h.2]; exact ⟨rfl, trivial⟩
 ·rw [yf2 h]; exact ⟨rfl, trivial⟩
theorem sub_s (x y : R) : y24 x y = some (SUB x y) ∧ True := by
 unfold SUB
 by_cases h : V x = true ∧ V y = true
 ·rw [yck h.1 h.2]; exact ⟨rfl, trivial⟩
 ·rw [yf3 h]; exact ⟨rfl, trivial⟩
theorem mul_s (x y : R) : y3a x y = some (MUL x y) ∧ True := by
 unfold MUL
 by_cases h : V x = true ∧ V y = true
 ·rw [ye8 h.1 h.2]; exact ⟨rfl, trivial⟩
 ·rw [yf4 h]; exact ⟨rfl, trivial⟩
theorem div_s (x : R) {y : R} (h0 : y.fN ≠ 0) : y3v x y = some (DIV x y) ∧ True := by
 unfold DIV
 by_cases h : V x = true ∧ V y = true
 ·rw [ycl h.1 h.2 h0]; exact ⟨rfl, trivial⟩
 ·rw [yf5 h]; exact ⟨rfl, trivial⟩
theorem cm_s (x y : R) : y1i x y = some (CM x y) ∧ True := by
 unfold CM
 by_cases h : V x = true ∧ V y = true
 ·rw [y7G h.1 h.2]; exact ⟨rfl, trivial⟩
 ·rw [cmp_bad h]; exact ⟨rfl, trivial⟩
/-! ### rounding -/
theorem yfz {N D : Int} (hD : 0 < D) : ∃ f : Int, (f = if Int.tmod N D < 0 then Int.tdiv N D - 1 else Int.tdiv N D) ∧ f * D ≤ N ∧ N < (f + 1) * D := by
 have h1 := Int.mul_tdiv_add_tmod N D
 have h2 : Int.tmod N D < D := Int.tmod_lt_of_pos N hD
 have h3 : -D < Int.tmod N D := by
  have h4 := Int.tmod_lt_of_pos (-N) hD
  rw [Int.neg_tmod] at h4
  omega
 by_cases h : Int.tmod N D < 0
 ·refine ⟨_, rfl, ?_⟩
  rw [if_pos h]
  have e1 : (Int.tdiv N D - 1) * D = D * Int.tdiv N D - D := by rw [Int.sub_mul, Int.one_mul, Int.mul_comm]
  have e2 : (Int.tdiv N D - 1 + 1) * D = D * Int.tdiv N D := by rw [Int.sub_add_cancel, Int.mul_comm]
  rw [e1, e2]
  omega
 ·refine ⟨_, rfl, ?_⟩
  rw [if_neg h]
  have e1 : Int.tdiv N D * D = D * Int.tdiv N D := Int.mul_comm _ _
  have e2 : (Int.tdiv N D + 1) * D = D * Int.tdiv N D + D := by rw [Int.add_mul, Int.one_mul, Int.mul_comm]
  rw [e1, e2]
  omega
theorem fl_bd {f N D : Int} (hD : 1 ≤ D) (hN : -1073741824 ≤ N ∧ N ≤ 1073741824) (h1 : f * D ≤ N) (h2 : N < (f + 1) * D) : -1073741824 ≤ f ∧ f ≤ 1073741824 := by
 constructor
 ·refine Int.not_lt.1 fun h => ?_
  have := Int.mul_le_mul_of_nonneg_left hD (show 0 ≤ -(f + 1) by omega)
  have e : -(f + 1) * D = -((f + 1) * D) := Int.neg_mul _ _
  omega
 ·refine Int.not_lt.1 fun h => ?_
  have := Int.mul_le_mul_of_nonneg_left hD (show 0 ≤ f by omega)
  omega
theorem ybT {x : R} (hx : V x = true) : ∃ f : Int, y1I x = some f ∧ f * x.fD ≤ x.fN ∧ x.fN < (f + 1) * x.fD ∧ -1073741824 ≤ f ∧ f ≤ 1073741824 := by
 have hv := hx
 simp only [V, decide_eq_true_eq] at hv
 obtain ⟨f, hf, h1, h2⟩ := yfz (N := x.fN) (D := x.fD) (by omega)
 have hb := fl_bd hv.1 (by omega) h1 h2
 refine ⟨f, ?_, h1, h2, hb⟩
 unfold y1I
 rw [y1E, hx, Option.bind_some, if_neg (by simp), yr (by omega)]
 simp only [jp1]
 rw [yr (by omega)]
 have hq : -1073741824 ≤ Int.tdiv x.fN x.fD ∧ Int.tdiv x.fN x.fD ≤ 1073741825 := by
  by_cases h : Int.tmod x.fN x.fD < 0
  ·rw [if_pos h] at hf; omega
  ·rw [if_neg h] at hf; omega
 by_cases h : Int.tmod x.fN x.fD < 0
 ·rw [if_pos (decide_eq_true h), yD (x := Int.tdiv x.fN x.fD) (by omega), yD (by omega), hf, if_pos h]
 ·rw [if_neg (by simpa using h), yD (by omega), hf, if_neg h]
theorem ceil_eq {x : R} (hx : V x = true) : ∃ e : Int, y2u x = some e ∧ (e - 1) * x.fD < x.fN ∧ x.fN ≤ e * x.fD ∧ -1073741824 ≤ e ∧ e ≤ 1073741824 := by
 have hv := hx
 simp only [V, decide_eq_true_eq] at hv
 have hn : V ⟨-x.fN, x.fD⟩ = true := by
  unfold V
  rw [decide_eq_true_eq]
  refine ⟨hv.1, hv.2.1, by show -1073741824 ≤ -x.fN; omega, by show -x.fN ≤ 1073741824; omega, ?_⟩
  show Nat.gcd (-x.fN).natAbs x.fD.natAbs = 1
  rw [Int.natAbs_neg]; exact hv.2.2.2.2
 obtain ⟨f, ef, f1, f2, f3, f4⟩ := ybT hn
 have f1 : f * x.fD ≤ -x.fN := f1
 have f2 : -x.fN < (f + 1) * x.fD := f2
 refine ⟨-f, ?_, ?_, ?_, by omega, by omega⟩
 ·unfold y2u
  rw [y1E, hx, Option.bind_some, if_neg (by simp), yD (x := 0 - x.fN) (by omega), show (0 : Int) - x.fN = -x.fN by omega, ef, Option.bind_some, yD (by omega)]
  congr 1; omega
 ·have e : (-f - 1) * x.fD = -((f + 1) * x.fD) := by rw [show -f - 1 = -(f + 1) by omega, Int.neg_mul]
  rw [e]; omega
 ·rw [Int.neg_mul]; omega
def flr (x : R) : Int := (y1I x).getD 0
def cel (x : R) : Int := (y2u x).getD 0
theorem ybi (x : R) : y1I x = some (flr x) ∧ True := by
 unfold flr
 cases hx : V x with
 | true =>
  obtain ⟨f, ef, _⟩ := ybT hx
  rw [ef]; exact ⟨rfl, trivial⟩
 | false =>
  have h1 : y1I x = some 0 := by unfold y1I; rw [y1E, hx]; rfl
  rw [h1]; exact ⟨rfl, trivial⟩
theorem cel_s (x : R) : y2u x = some (cel x) ∧ True := by
 unfold cel
 cases hx : V x with
 | true =>
  obtain ⟨f, ef, _⟩ := ceil_eq hx
  rw [ef]; exact ⟨rfl, trivial⟩
 | false =>
  have h1 : y2u x = some 0 := by unfold y2u; rw [y1E, hx]; rfl
  rw [h1]; exact ⟨rfl, trivial⟩
def y96 (r : List R) : List R := r.flatMap fun x => [⟨flr x, 1⟩, ⟨cel x, 1⟩]
theorem arnd_len (r : List R) : (y96 r).length = 2 * r.length := by
 unfold y96
 induction r with
 | nil => rfl
 | cons x r ih => rw [List.flatMap_cons, List.length_append, ih]; simp; omega
/-! ### servers -/
def VS (s : SV) : Bool := (V s.fRate && decide (s.fRate.fN > 0) && V s.fL) && decide (s.fL.fN ≥ 0)
theorem yde (s : SV) : y4g s = some (VS s) := by
 unfold y4g VS
 rw [y1E, y1E, Option.bind_some, Option.bind_some]
 cases V s.fRate <;> cases decide (s.fRate.fN > 0) <;> simp
theorem VS_r {s : SV} (h : VS s = true) : V s.fRate = true ∧ 0 < s.fRate.fN ∧ V s.fL = true ∧ 0 ≤ s.fL.fN := by
 simp only [VS, Bool.and_eq_true, decide_eq_true_eq] at h
 exact ⟨h.1.1.1, h.1.1.2, h.1.2, h.2⟩
/-! ### the calculator that keeps the first error -/
def CD (e : Int) (r : R × Int) : R × Int := if e ≠ 0 then (Z1, e) else if r.2 ≠ 0 then (Z1, r.2) else r
theorem cdo {e : Int} {f : R → R → Option (R × Int)} {x y : R} {r : R × Int} (h : f x y = some r) : y10 ⟨e⟩ f x y = some ((CD e r).1, ⟨(CD e r).2⟩) := by
 unfold y10 CD
 rw [h, y8N]
 by_cases he : e ≠ 0
 ·rw [if_pos (by simpa using he), if_pos he]; rfl
 ·rw [if_neg (by simpa using he), if_neg he, Option.bind_some]
  by_cases hr : r.2 ≠ 0
  ·rw [if_pos (by simpa using hr), if_pos hr]; rfl
  ·rw [if_neg (by simpa using hr), if_neg hr]
theorem yeh {e : Int} (he : e ≠ 0) (r : R × Int) : CD e r = (Z1, e) := if_pos he
theorem CD_zero {r : R × Int} (h : r.2 = 0) : CD 0 r = r := by unfold CD; rw [if_neg (by simp), if_neg (by simpa using h)]
theorem CD_bad {r : R × Int} (h : r.2 ≠ 0) : CD 0 r = (Z1, r.2) := by unfold CD; rw [if_neg (by simp), if_pos h]
end Go.Proofs.YtcahmabkeaijdaaGreat
namespace Go.Proofs.YtcahmabkeaijdaaGreat
open Go Go.RowKit Sep
theorem at_some (c : List B) (t : R) : ∃ x, y4i c t = some x := by
 by_cases h : VC c = true ∧ GR t = true
 ·exact ⟨_, at_eq h.1 h.2⟩
 ·exact ⟨_, at_bad h⟩
def ATF (c : List B) (t : R) : R × Int := (y4i c t).getD (⟨0, 0⟩, 0)
theorem at_s (c : List B) (t : R) : y4i c t = some (ATF c t) := by
 obtain ⟨x, e⟩ := at_some c t
 unfold ATF; rw [e]; rfl
/-! ### the total -/
def tot (t : R) : List (List B) → R × Int → R × Int
 | [], a => a
 | c :: l, a => tot t l (CD (if a.2 = 0 then (ATF c t).2 else a.2) (ADD a.1 (ATF c t).1))
theorem yf6 {t : R} {e : Int} (he : e ≠ 0) : ∀ l : List (List B), tot t l (Z1, e) = (Z1, e)
 | [] => rfl
 | c :: l => by
  rw [tot, if_neg he, yeh he, yf6 he l]
theorem yco {l : List (List B)} {t : R} {k : Int → Int → Int → Option (R × z18)} (hl : l.length ≤ 1000) : ∀ (n : Nat) (i : Int) (a : R × Int), 0 ≤ i → i ≤ l.length → l.length < n + i →
  y1Z l t k n i a.2 a.1.fN a.1.fD = k (tot t (l.drop i.toNat) a).1.fN (tot t (l.drop i.toNat) a).1.fD (tot t (l.drop i.toNat) a).2
 | 0, i, a, h0, h1, h2 => by omega
 | n + 1, i, a, h0, h1, h2 => by
  rw [y1Z]
  by_cases h : i < l.length
  ·rw [if_pos (decide_eq_true h), yr ⟨h0, h⟩, at_s, Option.bind_some, y32 h0 h, tot]
   refine y2h (P := fun o => o = _) fun kk hkk => ?_
   have e1 : (if decide (a.2 = 0) = true then kk (ATF (nth l i) t).2 else kk a.2) = kk (if a.2 = 0 then (ATF (nth l i) t).2 else a.2) := by
    by_cases h : a.2 = 0 <;> simp [h]
   rw [e1, hkk]
   show ((y10 ⟨_⟩ (fun y0 y1 => y1d y0 y1) a.1 (ATF (nth l i) t).1).bind _) = _
   rw [cdo (yaf a.1 (ATF (nth l i) t).1).1, Option.bind_some, yD (by omega)]
   exact yco hl n (i + 1) _ (by omega) (by omega) (by omega)
  ·rw [if_neg (by simpa using h), y3B h]
   rfl
theorem yei {l : List (List B)} {t : R} {e : Int} (hl : l.length ≤ 1000) : y2Z ⟨e⟩ l t = some ((tot t l (Z1, e)).1, ⟨(tot t l (Z1, e)).2⟩) := by
 unfold y2Z
 rw [y8N, Option.bind_some]
 refine yeg (P := fun o => o = _) fun k hk => ?_
 have := yco (t := t) (k := k) hl yz 0 (Z1, e) (by omega) (by omega) (by rw [yU]; omega)
 rw [this, hk]; rfl
/-! ### the values at a point -/
def dv (l : List (List B)) (s : SV) (e : Int) (t : R) : R × Int :=
 let x1 := tot t l (Z1, e)
 let x2 := CD x1.2 (DIV x1.1 s.fRate)
 let x3 := CD x2.2 (SUB x2.1 t)
 CD x3.2 (ADD x3.1 s.fL)
def bv (l : List (List B)) (s : SV) (e : Int) (t : R) : R × Int :=
 let x1 := tot t l (Z1, e)
 let x2 := CD x1.2 (SUB t s.fL)
 let x3 := CD x2.2 (MUL s.fRate x2.1)
 if CM t s.fL ≤ 0 then x1 else CD x3.2 (SUB x1.1 x3.1)
theorem dv_err {l : List (List B)} {s : SV} {e : Int} {t : R} (he : e ≠ 0) : dv l s e t = (Z1, e) := by
 unfold dv
 simp only [yf6 he, yeh he]
theorem yg7 {l : List (List B)} {s : SV} {e : Int} {t : R} (hl : l.length ≤ 1000) (hs : VS s = true) : y4n ⟨e⟩ t l s = some ((dv l s e t).1, ⟨(dv l s e t).2⟩) := by
 have h0 := (VS_r hs).2.1
 unfold y4n
 rw [yei hl, Option.bind_some, cdo (div_s _ (y := s.fRate) (by omega)).1, Option.bind_some, cdo (sub_s _ t).1, Option.bind_some, cdo (yaf _ s.fL).1]
 rfl
theorem yeD {l : List (List B)} {s : SV} {e : Int} {t : R} (hl : l.length ≤ 1000) : y40 ⟨e⟩ t l s = some ((bv l s e t).1, ⟨(bv l s e t).2⟩) := by
 unfold y40 bv
 rw [yei hl, Option.bind_some, (cm_s t s.fL).1, Option.bind_some]
 by_cases h : CM t s.fL ≤ 0
 ·rw [if_pos (decide_eq_true h), if_pos h]
 ·rw [if_neg (by simpa using h), if_neg h, cdo (sub_s t s.fL).1, Option.bind_some, cdo (mul_s s.fRate _).1, Option.bind_some, cdo (sub_s _ _).1]
  rfl
/-! ### the greatest value -/
section
variable {f : Int → R → R × Int}
def stp (f : Int → R → R × Int) (s : List R × Int) (p : R) : List R × Int :=
 (match s.1 with | [] => [(f s.2 p).1] | b :: r => if CM (f s.2 p).1 b > 0 then [(f s.2 p).1] else b :: r, (f s.2 p).2)
theorem ycV (hf : ∀ e t, e ≠ 0 → f e t = (Z1, e)) : ∀ (P : List R) (s : List R × Int), s.2 ≠ 0 → (P.foldl (stp f) s).2 = s.2
 | [], s, h => rfl
 | p :: P, s, h => by
  have : (stp f s p).2 = s.2 := by unfold stp; rw [hf _ _ h]
  rw [List.foldl_cons, ycV hf P _ (by rw [this]; exact h), this]
theorem ycp : ∀ (P : List R) (s : List R × Int), s.1 ≠ [] → (P.foldl (stp f) s).1 ≠ []
 | [], s, h => h
 | p :: P, s, h => by
  rw [List.foldl_cons]
  refine ycp P _ ?_
  unfold stp
  cases hs : s.1 with
  | nil => exact absurd hs h
  | cons b r => simp only; split <;> simp
def mxv (f : Int → R → R × Int) (P : List R) : R × Int :=
 let r := P.foldl (stp f) ([], 0)
 if r.2 ≠ 0 then (⟨0, 0⟩, r.2) else (nth r.1 0, 0)
end
theorem yeE (a : List B) : ∃ x : List R × Int, y1O a = some x ∧ x.1.length ≤ 1100 := by
 cases h : VC a with
 | true =>
  have := yg6 h
  split at this
  ·obtain ⟨r, e, _, _, _, hl⟩ := this
   exact ⟨_, e, hl⟩
  ·exact ⟨_, this, by simp⟩
 | false => exact ⟨_, yfy h, by simp⟩
def BRK (c : List B) : List R × Int := (y1O c).getD ([], 0)
theorem yag (c : List B) : y1O c = some (BRK c) ∧ (BRK c).1.length ≤ 1100 := by
 obtain ⟨x, e, h⟩ := yeE c
 unfold BRK
 rw [e]; exact ⟨rfl, h⟩
def RTF (c : List B) : R × Int := (y4m c).getD (⟨0, 0⟩, 0)
theorem rt_s {c : List B} (h : VC c = true) : y4m c = some (RTF c) ∧ V (RTF c).1 = true := by
 obtain ⟨d, e, hd, _⟩ := yf0 h
 unfold RTF
 rw [e]
 exact ⟨rfl, y5M (GB_r (yaW h d hd))⟩
def PTS (l : List (List B)) (more : List R) : List R := Z1 :: ((l.flatMap fun c => y96 (BRK c).1) ++ y96 more)
theorem y6t (l : List (List B)) : (l.flatMap fun c => y96 (BRK c).1).length ≤ 2200 * l.length := by
 induction l with
 | nil => simp
 | cons c l ih =>
  have := (yag c).2
  rw [List.flatMap_cons, List.length_append, arnd_len, List.length_cons]; omega
/-! ### the check -/
def ckl : List (List B) → R × Int → Int ⊕ (R × Int)
 | [], a => .inr a
 | c :: l, a => if (BRK c).2 ≠ 0 then .inl (BRK c).2 else ckl l (CD a.2 (ADD a.1 (RTF c).1))
section
variable {Sg : Type} {y : R → (Nat × List R × Int) → Option (Bool × (Nat × List R × Int))} {f : Int → R → R × Int}
theorem p5 {x : List R × Int} {k : (Nat × List R × Int) → Option (Nat × List R × Int)} (hy : ∀ p s, y p (0, s) = some (true, (0, stp f s p))) (hl : x.1.length ≤ 100000) : ∀ (n : Nat) (v : Int) (s : List R × Int), 0 ≤ v → v ≤ x.1.length → x.1.length < n + v →
  y1y _ x y k n v (0, s) = k (0, (y96 (x.1.drop v.toNat)).foldl (stp f) s)
 | 0, v, s, h0, h1, h2 => by omega
 | n + 1, v, s, h0, h1, h2 => by
  rw [y1y]
  by_cases h : v < x.1.length
  ·rw [if_pos (decide_eq_true h), yr ⟨h0, h⟩]
   show Option.bind (y1I (nth x.1 v)) _ = _
   rw [(ybi _).1, Option.bind_some]
   unfold y1k
   rw [Option.bind_some, hy, Option.bind_some, if_neg (by simp)]
   have e2 : (y2u (⟨(nth x.1 v).fN, (nth x.1 v).fD⟩ : R)) = some (cel (nth x.1 v)) := (cel_s _).1
   rw [e2, Option.bind_some, Option.bind_some, hy, Option.bind_some, Option.bind_some, if_neg (by simp), yD (by omega), p5 hy hl n (v + 1) _ (by omega) (by omega) (by omega), y32 h0 h]
   rfl
  ·rw [if_neg (by simpa using h), y3B h]; rfl
theorem p6 {x : List R} {k : (Nat × List R × Int) → Option (Nat × List R × Int)} (hy : ∀ p s, y p (0, s) = some (true, (0, stp f s p))) (hl : x.length ≤ 100000) : ∀ (n : Nat) (v : Int) (s : List R × Int), 0 ≤ v → v ≤ x.length → x.length < n + v →
  y1A _ x y k n v (0, s) = k (0, (y96 (x.drop v.toNat)).foldl (stp f) s)
 | 0, v, s, h0, h1, h2 => by omega
 | n + 1, v, s, h0, h1, h2 => by
  rw [y1A]
  by_cases h : v < x.length
  ·rw [if_pos (decide_eq_true h), yr ⟨h0, h⟩]
   show Option.bind (y1I (nth x v)) _ = _
   rw [(ybi _).1, Option.bind_some]
   unfold y1k
   rw [Option.bind_some, hy, Option.bind_some, if_neg (by simp)]
   have e2 : (y2u (⟨(nth x v).fN, (nth x v).fD⟩ : R)) = some (cel (nth x v)) := (cel_s _).1
   rw [e2, Option.bind_some, Option.bind_some, hy, Option.bind_some, Option.bind_some, if_neg (by simp), yD (by omega), p6 hy hl n (v + 1) _ (by omega) (by omega) (by omega), y32 h0 h]
   rfl
  ·rw [if_neg (by simpa using h), y3B h]; rfl
theorem p4 {l : List (List B)} {k : (Nat × List R × Int) → Option (Nat × List R × Int)} (hy : ∀ p s, y p (0, s) = some (true, (0, stp f s p))) (hl : l.length ≤ 100000) : ∀ (n : Nat) (v : Int) (s : List R × Int), 0 ≤ v → v ≤ l.length → l.length < n + v →
  y1z _ l y k n v (0, s) = k (0, ((l.drop v.toNat).flatMap fun c => y96 (BRK c).1).foldl (stp f) s)
 | 0, v, s, h0, h1, h2 => by omega
 | n + 1, v, s, h0, h1, h2 => by
  rw [y1z]
  by_cases h : v < l.length
  ·rw [if_pos (decide_eq_true h)]
   refine y2h (P := fun o => o = _) fun k1 hk1 => ?_
   rw [yr ⟨h0, h⟩, (yag _).1, Option.bind_some]
   refine y2h (P := fun o => o = _) fun k2 hk2 => ?_
   have hb := (yag (nth l v)).2
   rw [p5 (f := f) hy (by omega) yz 0 s (by omega) (by omega) (by rw [yU]; omega), hk2, hk1, yD (by omega), p4 hy hl n (v + 1) _ (by omega) (by omega) (by omega), y32 h0 h, List.flatMap_cons, List.foldl_append]
   rfl
  ·rw [if_neg (by simpa using h), y3B h]; rfl
theorem yg8 {l : List (List B)} {a b : SV} {c : List (List B)} {more : List R} (hy : ∀ p s, y p (0, s) = some (true, (0, stp f s p))) (hl : l.length ≤ 100000) (hm : more.length ≤ 100000) :
  y2L _ y (0, ([], 0)) l a c b more = some (0, (PTS l more).foldl (stp f) ([], 0)) := by
 unfold y2L
 rw [y8N, Option.bind_some, hy, Option.bind_some, if_neg (by simp)]
 refine y2h (P := fun o => o = _) fun k hk => ?_
 rw [p4 (f := f) hy hl yz 0 _ (by omega) (by omega) (by rw [yU]; omega), hk]
 refine y2h (P := fun o => o = _) fun k2 hk2 => ?_
 rw [p6 (f := f) hy hm yz 0 _ (by omega) (by omega) (by rw [yU]; omega), hk2]
 unfold PTS
 rw [List.foldl_cons, List.foldl_append]
 rfl
end
section
variable {Sg : Type} {y : R → (Nat × List R × Int) → Option (Bool × (Nat × List R × Int))} {f : Int → R → R × Int}
theorem p5b {x : List R × Int} {k : (Nat × List R × Int) → Option (Nat × List R × Int)} (hy : ∀ p s, y p (0, s) = some (true, (0, stp f s p))) (hl : x.1.length ≤ 100000) : ∀ (n : Nat) (v : Int) (s : List R × Int), 0 ≤ v → v ≤ x.1.length → x.1.length < n + v →
  y1t _ x y k n v (0, s) = k (0, (y96 (x.1.drop v.toNat)).foldl (stp f) s)
 | 0, v, s, h0, h1, h2 => by omega
 | n + 1, v, s, h0, h1, h2 => by
  rw [y1t]
  by_cases h : v < x.1.length
  ·rw [if_pos (decide_eq_true h), yr ⟨h0, h⟩]
   show Option.bind (y1I (nth x.1 v)) _ = _
   rw [(ybi _).1, Option.bind_some]
   unfold y1k
   rw [Option.bind_some, hy, Option.bind_some, if_neg (by simp)]
   have e2 : (y2u (⟨(nth x.1 v).fN, (nth x.1 v).fD⟩ : R)) = some (cel (nth x.1 v)) := (cel_s _).1
   rw [e2, Option.bind_some, Option.bind_some, hy, Option.bind_some, Option.bind_some, if_neg (by simp), yD (by omega), p5b hy hl n (v + 1) _ (by omega) (by omega) (by omega), y32 h0 h]
   rfl
  ·rw [if_neg (by simpa using h), y3B h]; rfl
theorem p6b {x : List R} {k : (Nat × List R × Int) → Option (Nat × List R × Int)} (hy : ∀ p s, y p (0, s) = some (true, (0, stp f s p))) (hl : x.length ≤ 100000) : ∀ (n : Nat) (v : Int) (s : List R × Int), 0 ≤ v → v ≤ x.length → x.length < n + v →
  y1v _ x y k n v (0, s) = k (0, (y96 (x.drop v.toNat)).foldl (stp f) s)
 | 0, v, s, h0, h1, h2 => by omega
 | n + 1, v, s, h0, h1, h2 => by
  rw [y1v]
  by_cases h : v < x.length
  ·rw [if_pos (decide_eq_true h), yr ⟨h0, h⟩]
   show Option.bind (y1I (nth x v)) _ = _
   rw [(ybi _).1, Option.bind_some]
   unfold y1k
   rw [Option.bind_some, hy, Option.bind_some, if_neg (by simp)]
   have e2 : (y2u (⟨(nth x v).fN, (nth x v).fD⟩ : R)) = some (cel (nth x v)) := (cel_s _).1
   rw [e2, Option.bind_some, Option.bind_some, hy, Option.bind_some, Option.bind_some, if_neg (by simp), yD (by omega), p6b hy hl n (v + 1) _ (by omega) (by omega) (by omega), y32 h0 h]
   rfl
  ·rw [if_neg (by simpa using h), y3B h]; rfl
theorem p4b {l : List (List B)} {k : (Nat × List R × Int) → Option (Nat × List R × Int)} (hy : ∀ p s, y p (0, s) = some (true, (0, stp f s p))) (hl : l.length ≤ 100000) : ∀ (n : Nat) (v : Int) (s : List R × Int), 0 ≤ v → v ≤ l.length → l.length < n + v →
  y1u _ l y k n v (0, s) = k (0, ((l.drop v.toNat).flatMap fun c => y96 (BRK c).1).foldl (stp f) s)
 | 0, v, s, h0, h1, h2 => by omega
 | n + 1, v, s, h0, h1, h2 => by
  rw [y1u]
  by_cases h : v < l.length
  ·rw [if_pos (decide_eq_true h)]
   refine y2h (P := fun o => o = _) fun k1 hk1 => ?_
   rw [yr ⟨h0, h⟩, (yag _).1, Option.bind_some]
   refine y2h (P := fun o => o = _) fun k2 hk2 => ?_
   have hb := (yag (nth l v)).2
   rw [p5b (f := f) hy (by omega) yz 0 s (by omega) (by omega) (by rw [yU]; omega), hk2, hk1, yD (by omega), p4b hy hl n (v + 1) _ (by omega) (by omega) (by omega), y32 h0 h, List.flatMap_cons, List.foldl_append]
   rfl
  ·rw [if_neg (by simpa using h), y3B h]; rfl
theorem yfA {l : List (List B)} {a b : SV} {c : List (List B)} {more : List R} (hy : ∀ p s, y p (0, s) = some (true, (0, stp f s p))) (hl : l.length ≤ 100000) (hm : more.length ≤ 100000) :
  y2B _ y (0, ([], 0)) l a c b more = some (0, (PTS l more).foldl (stp f) ([], 0)) := by
 unfold y2B
 rw [y8N, Option.bind_some, hy, Option.bind_some, if_neg (by simp)]
 refine y2h (P := fun o => o = _) fun k hk => ?_
 rw [p4b (f := f) hy hl yz 0 _ (by omega) (by omega) (by rw [yU]; omega), hk]
 refine y2h (P := fun o => o = _) fun k2 hk2 => ?_
 rw [p6b (f := f) hy hm yz 0 _ (by omega) (by omega) (by rw [yU]; omega), hk2]
 unfold PTS
 rw [List.foldl_cons, List.foldl_append]
 rfl
end
def CKF (l : List (List B)) (s : SV) : Int :=
 if l.length > 32 || !(l.all VC) || !(VS s) then 2 else
 match ckl l (Z1, 0) with
 | .inl e => e
 | .inr r => if r.2 ≠ 0 then r.2 else if CM r.1 s.fRate > 0 then 6 else 0
theorem yej {l : List (List B)} {s : SV} (h : CKF l s = 0) : VS s = true := by
 unfold CKF at h
 cases hs : VS s with
 | true => rfl
 | false => rw [if_pos (by simp [hs])] at h; cases h
theorem rindex {s : List (List B)} {k : Option Int} (hl : s.length ≤ 100000) : ∀ (n : Nat) (v : Int), 0 ≤ v → v ≤ s.length → s.length < n + v → k = some (-1) →
  ∃ x : Int, yW s (fun y0 => y1p y0) k n v = some x ∧ (x ≥ 0 ↔ (s.drop v.toNat).all VC = false)
 | 0, v, h0, h1, h2, hk => by omega
 | n + 1, v, h0, h1, h2, hk => by
  rw [yW]
  by_cases h : v < s.length
  ·rw [if_pos (decide_eq_true h), yr ⟨h0, h⟩, y32 h0 h]
   unfold y1p
   rw [y6b, Option.bind_some, Option.bind_some, List.all_cons]
   cases hc : VC (nth s v) with
   | false => exact ⟨v, by simp, by simp; omega⟩
   | true =>
    rw [if_neg (by simp), yD (by omega), Bool.true_and]
    exact rindex hl n (v + 1) (by omega) (by omega) (by omega) hk
  ·rw [if_neg (by simpa using h), y3B h, hk]
   exact ⟨-1, rfl, by simp⟩
theorem yaZ {l : List (List B)} (hl : l.length ≤ 100000) : (y16 l (fun y0 => y1p y0)) = some (!(l.all VC)) := by
 unfold y16 y22
 refine ycU (P := fun o => (o.bind fun x => some (decide (x ≥ 0))) = some (!(l.all VC))) fun k hk => ?_
 obtain ⟨x, e, h⟩ := rindex hl yz 0 (by omega) (by omega) (by rw [yU]; omega) hk
 rw [e, Option.bind_some]
 rw [show (0 : Int).toNat = 0 from rfl, List.drop_zero] at h
 cases ha : l.all VC with
 | true => rw [ha] at h; simp at h; simp; omega
 | false => rw [ha] at h; simp at h; simp; omega
theorem yf7 {l : List (List B)} {k : Int → Int → Int → Option Int} (hv : ∀ c ∈ l, VC c = true) (hl : l.length ≤ 1000) : ∀ (n : Nat) (v : Int) (a : R × Int), 0 ≤ v → v ≤ l.length → l.length < n + v →
  y1Q l k n v a.2 a.1.fN a.1.fD = match ckl (l.drop v.toNat) a with | .inl e => some e | .inr r => k r.2 r.1.fN r.1.fD
 | 0, v, a, h0, h1, h2 => by omega
 | n + 1, v, a, h0, h1, h2 => by
  rw [y1Q]
  by_cases h : v < l.length
  ·have hc := hv _ (y1B h0 h)
   rw [if_pos (decide_eq_true h), yr ⟨h0, h⟩, (yag _).1, Option.bind_some, y32 h0 h, ckl]
   by_cases hb : (BRK (nth l v)).2 ≠ 0
   ·rw [if_pos (by simpa using hb), if_pos hb]
   ·rw [if_neg (by simpa using hb), if_neg hb, (rt_s hc).1, Option.bind_some]
    show ((y10 ⟨a.2⟩ (fun y0 y1 => y1d y0 y1) a.1 (RTF (nth l v)).1).bind _) = _
    rw [cdo (yaf _ _).1, Option.bind_some, yD (by omega)]
    exact yf7 hv hl n (v + 1) _ (by omega) (by omega) (by omega)
  ·rw [if_neg (by simpa using h), y3B h]
   rfl
theorem check_eq {l : List (List B)} {s : SV} {c : List (List B)} {t : SV} {m : List R} (hl : l.length ≤ 40) : y3k l s c t m = some (CKF l s) := by
 unfold y3k CKF
 by_cases h1 : (((l.length : Nat) : Int) > 32)
 ·rw [if_pos (decide_eq_true h1), Option.bind_some, if_pos rfl, Option.bind_some, if_pos rfl, if_pos (by simp; omega)]
 ·rw [if_neg (by simpa using h1), yaZ (by omega)]
  simp only [Option.bind_some]
  by_cases h2 : l.all VC = true
  ·rw [h2]
   simp only [Bool.not_true, Bool.false_eq_true, if_false]
   rw [yde, Option.bind_some, Option.bind_some]
   cases hs : VS s with
   | false => rw [if_pos (by rfl), if_pos (by simp)]
   | true =>
    rw [if_neg (by simp), if_neg (by simp; omega), y8N, Option.bind_some]
    refine yeg (P := fun o => o = _) fun k hk => ?_
    have := yf7 (k := k) (List.all_eq_true.1 h2) (by omega) yz 0 (Z1, 0) (by omega) (by omega) (by rw [yU]; omega)
    rw [this, show (0 : Int).toNat = 0 from rfl, List.drop_zero]
    cases ckl l (Z1, 0) with
    | inl e => rfl
    | inr r =>
     simp only
     rw [hk]
     by_cases hr : r.2 = 0
     ·rw [if_pos (decide_eq_true hr), if_neg (by simp [hr])]
      show (((y1i r.1 s.fRate).bind _).bind _) = _
      rw [(cm_s _ _).1, Option.bind_some, Option.bind_some]
      by_cases hc : CM r.1 s.fRate > 0
      ·rw [if_pos (decide_eq_true hc), if_pos hc]
      ·rw [if_neg (by simpa using hc), if_neg hc, hr]
     ·rw [if_neg (by simpa using hr), Option.bind_some, if_neg (by simp), if_pos hr]
  ·have h2' : l.all VC = false := by simpa using h2
   rw [h2']
   simp only [Bool.not_false, if_true]
   rw [Option.bind_some, if_pos rfl, if_pos (by simp)]
theorem yek {l : List (List B)} {k : Int → Int → Int → Option Int} (hv : ∀ c ∈ l, VC c = true) (hl : l.length ≤ 1000) : ∀ (n : Nat) (v : Int) (a : R × Int), 0 ≤ v → v ≤ l.length → l.length < n + v →
  y1L l k n v a.2 a.1.fN a.1.fD = match ckl (l.drop v.toNat) a with | .inl e => some e | .inr r => k r.2 r.1.fN r.1.fD
 | 0, v, a, h0, h1, h2 => by omega
 | n + 1, v, a, h0, h1, h2 => by
  rw [y1L]
  by_cases h : v < l.length
  ·have hc := hv _ (y1B h0 h)
   rw [if_pos (decide_eq_true h), yr ⟨h0, h⟩, (yag _).1, Option.bind_some, y32 h0 h, ckl]
   by_cases hb : (BRK (nth l v)).2 ≠ 0
   ·rw [if_pos (by simpa using hb), if_pos hb]
   ·rw [if_neg (by simpa using hb), if_neg hb, (rt_s hc).1, Option.bind_some]
    show ((y10 ⟨a.2⟩ (fun y0 y1 => y1d y0 y1) a.1 (RTF (nth l v)).1).bind _) = _
    rw [cdo (yaf _ _).1, Option.bind_some, yD (by omega)]
    exact yek hv hl n (v + 1) _ (by omega) (by omega) (by omega)
  ·rw [if_neg (by simpa using h), y3B h]
   rfl
theorem yg9 {l : List (List B)} {s : SV} {c : List (List B)} {t : SV} {m : List R} (hl : l.length ≤ 40) : y3d l s c t m = some (CKF l s) := by
 unfold y3d CKF
 by_cases h1 : (((l.length : Nat) : Int) > 32)
 ·rw [if_pos (decide_eq_true h1), Option.bind_some, if_pos rfl, Option.bind_some, if_pos rfl, if_pos (by simp; omega)]
 ·rw [if_neg (by simpa using h1), yaZ (by omega)]
  simp only [Option.bind_some]
  by_cases h2 : l.all VC = true
  ·rw [h2]
   simp only [Bool.not_true, Bool.false_eq_true, if_false]
   rw [yde, Option.bind_some, Option.bind_some]
   cases hs : VS s with
   | false => rw [if_pos (by rfl), if_pos (by simp)]
   | true =>
    rw [if_neg (by simp), if_neg (by simp; omega), y8N, Option.bind_some]
    refine yeg (P := fun o => o = _) fun k hk => ?_
    have := yek (k := k) (List.all_eq_true.1 h2) (by omega) yz 0 (Z1, 0) (by omega) (by omega) (by rw [yU]; omega)
    rw [this, show (0 : Int).toNat = 0 from rfl, List.drop_zero]
    cases ckl l (Z1, 0) with
    | inl e => rfl
    | inr r =>
     simp only
     rw [hk]
     by_cases hr : r.2 = 0
     ·rw [if_pos (decide_eq_true hr), if_neg (by simp [hr])]
      show (((y1i r.1 s.fRate).bind _).bind _) = _
      rw [(cm_s _ _).1, Option.bind_some, Option.bind_some]
      by_cases hc : CM r.1 s.fRate > 0
      ·rw [if_pos (decide_eq_true hc), if_pos hc]
      ·rw [if_neg (by simpa using hc), if_neg hc, hr]
     ·rw [if_neg (by simpa using hr), Option.bind_some, if_neg (by simp), if_pos hr]
  ·have h2' : l.all VC = false := by simpa using h2
   rw [h2']
   simp only [Bool.not_false, if_true]
   rw [Option.bind_some, if_pos rfl, if_pos (by simp)]
end Go.Proofs.YtcahmabkeaijdaaGreat
namespace Go.Proofs.YtcahmabkeaijdaaGreat
open Go Go.RowKit Sep
/-! ### the reference's check -/
/-! ### the greatest value -/
def rk (k : Int → Int → Option (R × Int)) (b : R) (r : List R × Int) : Option (R × Int) :=
 if r.2 ≠ 0 then some (⟨0, 0⟩, r.2) else match r.1 with | [] => k b.fN b.fD | x :: _ => k x.fN x.fD
theorem mxv_rk {f : Int → R → R × Int} {P : List R} (hP : P ≠ []) {k : Int → Int → Option (R × Int)} (hk : ∀ x y, k x y = some (⟨x, y⟩, 0)) : rk k ⟨0, 0⟩ (P.foldl (stp f) ([], 0)) = some (mxv f P) := by
 unfold rk mxv
 by_cases h : (P.foldl (stp f) ([], 0)).2 ≠ 0
 ·rw [if_pos h]; simp only; rw [if_pos h]
 ·rw [if_neg h]; simp only; rw [if_neg h]
  cases P with
  | nil => exact absurd rfl hP
  | cons p P =>
   have hne : ((p :: P).foldl (stp f) ([], 0)).1 ≠ [] := by
    rw [List.foldl_cons]; exact ycp _ _ (by simp [stp])
   cases hr : ((p :: P).foldl (stp f) ([], 0)).1 with
   | nil => exact absurd hr hne
   | cons x t => simp only; rw [hk]; rfl
/-! ### the code's search -/
theorem R4_eq {l : List (List B)} {s : SV} (hl : l.length ≤ 1000) (hs : VS s = true) (p : R) (st : List R × Int) : chk ((0 : Nat) = 0) (y2x l s p st.1 st.2) = some (true, (0, stp (dv l s) st p)) := by
 rw [yr rfl]
 unfold y2x
 rw [yg7 hl hs, Option.bind_some]
 unfold stp
 cases hst : st.1 with
 | nil => rw [if_pos (by simp), Option.bind_some, if_pos rfl]
 | cons x r =>
  rw [if_neg (by simp; omega), yr (by simp)]
  have hn : (⟨(nth (x :: r) 0).fN, (nth (x :: r) 0).fD⟩ : R) = x := rfl
  rw [hn, (cm_s _ _).1, Option.bind_some, Option.bind_some]
  simp only
  by_cases hc : CM (dv l s st.2 p).1 x > 0
  ·rw [if_pos (decide_eq_true hc), if_pos hc]
  ·rw [if_neg (by simpa using hc), if_neg hc]
theorem max_eq {l : List (List B)} {s : SV} {more : List R} (hl : l.length ≤ 40) (hm : more.length ≤ 1000) : y3L l s l s more = some (if CKF l s = 0 then mxv (dv l s) (PTS l more) else (⟨0, 0⟩, CKF l s)) := by
 unfold y3L
 rw [check_eq hl, Option.bind_some]
 by_cases h : CKF l s = 0
 ·have hs : VS s = true := yej h
  rw [if_pos h, if_neg (by simpa using h)]
  refine y90 (P := fun o => o = _) fun k hk => ?_
  unfold y3Z
  rw [Option.bind_some, yg8 (f := dv l s) (fun p st => R4_eq (by omega) hs p st) (by omega) (by omega), Option.bind_some, hk]
  have := mxv_rk (f := dv l s) (P := PTS l more) (k := fun x y => some (⟨x, y⟩, 0)) (by simp [PTS]) (fun _ _ => rfl)
  rw [← this]
  unfold rk
  generalize hr : (PTS l more).foldl (stp (dv l s)) ([], 0) = r
  have hne : r.1 ≠ [] := by
   rw [← hr]; unfold PTS; rw [List.foldl_cons]; exact ycp _ _ (by simp [stp])
  simp only
  by_cases h2 : r.2 ≠ 0
  ·rw [if_pos (by simpa using h2), if_pos h2]
  ·rw [if_neg (by simpa using h2), if_neg h2]
   cases hr1 : r.1 with
   | nil => exact absurd hr1 hne
   | cons x t => rw [yr (by simp)]; rfl
 ·rw [if_neg h, if_pos (by simpa using h)]
theorem R4b_eq {l : List (List B)} {s : SV} (hl : l.length ≤ 1000) (hs : VS s = true) (p : R) (st : List R × Int) : chk ((0 : Nat) = 0) (y2p l s p st.1 st.2) = some (true, (0, stp (bv l s) st p)) := by
 rw [yr rfl]
 unfold y2p
 rw [yeD hl, Option.bind_some]
 unfold stp
 cases hst : st.1 with
 | nil => rw [if_pos (by simp), Option.bind_some, if_pos rfl]
 | cons x r =>
  rw [if_neg (by simp; omega), yr (by simp)]
  have hn : (⟨(nth (x :: r) 0).fN, (nth (x :: r) 0).fD⟩ : R) = x := rfl
  rw [hn, (cm_s _ _).1, Option.bind_some, Option.bind_some]
  simp only
  by_cases hc : CM (bv l s st.2 p).1 x > 0
  ·rw [if_pos (decide_eq_true hc), if_pos hc]
  ·rw [if_neg (by simpa using hc), if_neg hc]
theorem maxb_eq {l : List (List B)} {s : SV} {more : List R} (hl : l.length ≤ 40) (hm : more.length ≤ 1000) : y3y l s l s more = some (if CKF l s = 0 then mxv (bv l s) (PTS l more) else (⟨0, 0⟩, CKF l s)) := by
 unfold y3y
 rw [yg9 hl, Option.bind_some]
 by_cases h : CKF l s = 0
 ·have hs : VS s = true := yej h
  rw [if_pos h, if_neg (by simpa using h)]
  refine y90 (P := fun o => o = _) fun k hk => ?_
  unfold y3N
  rw [Option.bind_some, yfA (f := bv l s) (fun p st => R4b_eq (by omega) hs p st) (by omega) (by omega), Option.bind_some, hk]
  have := mxv_rk (f := bv l s) (P := PTS l more) (k := fun x y => some (⟨x, y⟩, 0)) (by simp [PTS]) (fun _ _ => rfl)
  rw [← this]
  unfold rk
  generalize hr : (PTS l more).foldl (stp (bv l s)) ([], 0) = r
  have hne : r.1 ≠ [] := by
   rw [← hr]; unfold PTS; rw [List.foldl_cons]; exact ycp _ _ (by simp [stp])
  simp only
  by_cases h2 : r.2 ≠ 0
  ·rw [if_pos (by simpa using h2), if_pos h2]
  ·rw [if_neg (by simpa using h2), if_neg h2]
   cases hr1 : r.1 with
   | nil => exact absurd hr1 hne
   | cons x t => rw [yr (by simp)]; rfl
 ·rw [if_neg h, if_pos (by simpa using h)]
end Go.Proofs.YtcahmabkeaijdaaGreat
