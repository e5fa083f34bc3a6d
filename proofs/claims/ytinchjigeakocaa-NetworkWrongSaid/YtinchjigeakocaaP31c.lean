/- A part of this claim's proof: models of functions, walks, plain laws. No conditions. -/
import Derived.Test.YtinchjigeakocaaP31b
namespace Go.Proofs.Ytinchjigeakocaa
open Go Go.RowKit Sep
set_option linter.all false
abbrev Cf := Sapi_Config
abbrev Hop := Sapi_Hop
abbrev Snt := zSt
abbrev Cm := Sapi_Come
def nM (c : Cf) : Int := c.fModules.length
def nN (c : Cf) : Int := c.fModules.length + c.fSwitches.length
structure Small (c : Cf) : Prop where
 m : c.fModules.length ≤ 1000
 s : c.fSwitches.length ≤ 1000
 l : c.fLinks.length ≤ 1000
 v : c.fVLs.length ≤ 1000
def sw (c : Cf) (n : Int) : Sapi_Switch := nth c.fSwitches (n - nM c)
def nameS (c : Cf) (n : Int) : ByteArray := if n < 0 ∨ n ≥ nN c then ⟨#[]⟩ else if n < nM c then (nth c.fModules n).fName else (sw c n).fName
theorem y7J {c : Cf} (h : Small c) : y2f c = some (nN c) := by
 have := h.m; have := h.s
 unfold y2f nN
 rw [y2t (by omega)]
theorem name_eq {c : Cf} (h : Small c) (n : Int) (hn : -1000000 ≤ n ∧ n ≤ 1000000) : y2G c n = some (nameS c n) := by
 have := h.m; have := h.s
 unfold y2G nameS
 rw [y7J h]
 by_cases h1 : n < 0
 ·simp [h1]
 ·rw [if_neg (by simpa using h1)]
  simp only [Option.bind_some, decide_eq_true_eq]
  by_cases h2 : n ≥ nN c
  ·rw [if_pos h2, if_pos (.inr h2)]
  ·rw [if_neg h2, if_neg (show ¬ (n < 0 ∨ n ≥ nN c) by omega)]
   unfold nN nM at *
   by_cases h3 : n < c.fModules.length
   ·rw [if_pos h3, y18 ⟨by omega, h3⟩, if_pos h3]
   ·rw [if_neg h3, y2t (by omega), y18 ⟨by omega, by omega⟩, if_neg h3]
    rfl
theorem y7k {c : Cf} (h : Small c) {nm : ByteArray} {k : Option Int} : ∀ (f : Nat) (v : Int), 0 ≤ v → v ≤ nN c → nN c < f + v →
  (∃ i : Int, 0 ≤ i ∧ i < nN c ∧ y1N (nN c) c nm k f v = some i) ∨ y1N (nN c) c nm k f v = k
 | 0, v, h0, h1, h2 => by omega
 | f + 1, v, h0, h1, h2 => by
  have hb : nN c ≤ 2000 := by have := h.m; have := h.s; unfold nN; omega
  rw [y1N]
  by_cases h3 : v < nN c
  ·rw [if_pos (decide_eq_true h3), name_eq h v (by omega)]
   simp only [Option.bind_some, decide_eq_true_eq]
   by_cases h4 : nameS c v = nm
   ·rw [if_pos h4]; exact .inl ⟨v, h0, h3, rfl⟩
   ·rw [if_neg h4, y2t (by omega)]
    exact y7k h f (v + 1) (by omega) (by omega) (by omega)
  ·rw [if_neg (by simpa using h3)]; exact .inr rfl
theorem y87 {c : Cf} (h : Small c) (nm : ByteArray) : ∃ i : Int, -1 ≤ i ∧ i < nN c ∧ y1M c nm = some i := by
 unfold y1M
 rw [y7J h]
 have hF := y4I
 generalize yP = N at hF ⊢
 refine y5z (P := fun o => ∃ i : Int, -1 ≤ i ∧ i < nN c ∧ o = some i) fun k hk => ?_
 have hb : 0 ≤ nN c ∧ nN c ≤ 2000 := by have := h.m; have := h.s; unfold nN; omega
 simp only [Option.bind_some]
 rcases y7k h (nm := nm) (k := k) N 0 (by omega) hb.1 (by omega) with ⟨i, h1, h2, h3⟩ | h3
 ·exact ⟨i, by omega, h2, h3⟩
 ·exact ⟨-1, by omega, by omega, h3.trans hk⟩
def fA (c : Cf) (l : Int) : Int := (y1M c (nth c.fLinks l).fA).getD (-1)
def fB (c : Cf) (l : Int) : Int := (y1M c (nth c.fLinks l).fB).getD (-1)
theorem fA_eq {c : Cf} (h : Small c) (l : Int) : y1M c (nth c.fLinks l).fA = some (fA c l) ∧ -1 ≤ fA c l ∧ fA c l < nN c := by
 obtain ⟨i, h1, h2, h3⟩ := y87 h (nth c.fLinks l).fA
 unfold fA; rw [h3]; exact ⟨rfl, h1, h2⟩
theorem fB_eq {c : Cf} (h : Small c) (l : Int) : y1M c (nth c.fLinks l).fB = some (fB c l) ∧ -1 ≤ fB c l ∧ fB c l < nN c := by
 obtain ⟨i, h1, h2, h3⟩ := y87 h (nth c.fLinks l).fB
 unfold fB; rw [h3]; exact ⟨rfl, h1, h2⟩
def y4H (c : Cf) (net n : Int) : Prop := 0 ≤ n ∧ (n < nM c ∨ (sw c n).fNet = net ∧ 0 ≤ (sw c n).fDelay ∧ (sw c n).fDelay ≤ 1000 ∧ 0 ≤ (sw c n).fStore ∧ (sw c n).fStore ≤ 1073741824)
instance (c : Cf) (net n : Int) : Decidable (y4H c net n) := inferInstanceAs (Decidable (_ ∧ _))
theorem y88 {c : Cf} (h : Small c) {net n : Int} (hn : -1 ≤ n ∧ n < nN c) : y2H c net n = some (decide (y4H c net n)) := by
 have := h.m; have := h.s
 unfold y2H
 unfold nN at hn
 by_cases h1 : n < c.fModules.length
 ·rw [if_pos (decide_eq_true h1)]
  refine congrArg some ?_
  rw [Bool.eq_iff_iff, decide_eq_true_iff, decide_eq_true_iff]
  unfold y4H nM
  exact ⟨fun h => ⟨h, .inl h1⟩, fun h => h.1⟩
 ·rw [if_neg (by simpa using h1), y2t (by omega), y18 ⟨by omega, by omega⟩]
  refine congrArg some ?_
  rw [Bool.eq_iff_iff, decide_eq_true_iff]
  unfold y4H sw nM
  simp only [Bool.and_eq_true, decide_eq_true_eq]
  constructor
  ·rintro ⟨⟨⟨⟨a, b⟩, e⟩, d⟩, f⟩; exact ⟨by omega, .inr ⟨a, b, e, d, f⟩⟩
  ·rintro ⟨_, a | ⟨a, b, e, d, f⟩⟩
   ·exact absurd a h1
   ·exact ⟨⟨⟨⟨a, b⟩, e⟩, d⟩, f⟩
def JN (c : Cf) (net link a b : Int) : Prop := 0 ≤ link ∧ link < c.fLinks.length ∧ (nth c.fLinks link).fNet = net ∧ 1 ≤ (nth c.fLinks link).fSlow ∧ (nth c.fLinks link).fSlow ≤ 16 ∧ fA c link ≠ fB c link ∧
 y4H c net (fA c link) ∧ y4H c net (fB c link) ∧ (fA c link = a ∧ fB c link = b ∨ fA c link = b ∧ fB c link = a)
instance (c : Cf) (net link a b : Int) : Decidable (JN c net link a b) := inferInstanceAs (Decidable (_ ∧ _))
theorem joins_eq {c : Cf} (h : Small c) (net link a b : Int) : y2X c net link a b = some (decide (JN c net link a b)) := by
 unfold y2X
 by_cases h1 : link < 0 ∨ link ≥ c.fLinks.length
 ·rw [if_pos (by simpa using h1)]
  congr 1; symm
  rw [decide_eq_false_iff_not]
  rintro ⟨a, b, _⟩; omega
 ·rw [if_neg (by simpa using h1), y18 ⟨by omega, by omega⟩]
  obtain ⟨a1, a2, a3⟩ := fA_eq h link
  obtain ⟨b1, b2, b3⟩ := fB_eq h link
  rw [a1, b1]
  simp only [Option.bind_some]
  rw [y88 h ⟨a2, a3⟩, y88 h ⟨b2, b3⟩]
  simp only [Option.bind_some]
  by_cases h2 : (nth c.fLinks link).fNet = net ∧ 1 ≤ (nth c.fLinks link).fSlow ∧ (nth c.fLinks link).fSlow ≤ 16 ∧ fA c link ≠ fB c link
  ·rw [if_pos (by simp only [Bool.and_eq_true, decide_eq_true_eq]; exact ⟨⟨⟨h2.1, h2.2.1⟩, h2.2.2.1⟩, h2.2.2.2⟩)]
   simp only [Option.bind_some]
   by_cases h3 : y4H c net (fA c link)
   ·rw [if_pos (decide_eq_true h3)]
    simp only [Option.bind_some]
    congr 1
    rw [Bool.eq_iff_iff]
    simp only [Bool.and_eq_true, Bool.or_eq_true, decide_eq_true_eq]
    constructor
    ·rintro ⟨x, y⟩; exact ⟨by omega, by omega, h2.1, h2.2.1, h2.2.2.1, h2.2.2.2, h3, x, y⟩
    ·rintro ⟨_, _, _, _, _, _, _, x, y⟩; exact ⟨x, y⟩
   ·rw [if_neg (by simpa using h3)]
    simp only [Option.bind_some, Bool.false_and]
    congr 1; symm
    rw [decide_eq_false_iff_not]
    rintro ⟨_, _, _, _, _, _, x, _⟩; exact h3 x
  ·rw [if_neg (by simp only [Bool.and_eq_true, decide_eq_true_eq]; rintro ⟨⟨⟨x, y⟩, z⟩, w⟩; exact h2 ⟨x, y, z, w⟩)]
   simp only [Option.bind_some, Bool.false_eq_true, if_false, Bool.false_and]
   congr 1; symm
   rw [decide_eq_false_iff_not]
   rintro ⟨_, _, x, y, z, w, _⟩; exact h2 ⟨x, y, z, w⟩
/-! ### routes -/
def RK (r : List Hop) (v k : Int) : Prop := k = (nth r 0).fNode ∨ ∃ q : Int, 0 ≤ q ∧ q < v ∧ (nth r q).fNext = k
def y5Q (c : Cf) (net : Int) (r : List Hop) (v : Int) : Prop :=
 RK r v (nth r v).fNode ∧ ¬ RK r v (nth r v).fNext ∧ ((nth r v).fNode = (nth r 0).fNode ∨ nM c ≤ (nth r v).fNode) ∧ JN c net (nth r v).fLink (nth r v).fNode (nth r v).fNext
structure VR (c : Cf) (net : Int) (r : List Hop) : Prop where
 len : r.length ≤ 32
 cond : ∀ v : Int, 0 ≤ v → v < r.length → y5Q c net r v
theorem y76 {κ γ : Type} [DecidableEq κ] {k k' : κ} {u d : γ} (h : k' ≠ k) : ∀ (l : List (κ × γ)), yB (y1g l k u) k' d = yB l k' d
 | [] => by simp [y1g, yB, h]
 | p :: l => by
  by_cases hk : k = p.1
  ·subst hk; simp [y1g, yB, h]
  ·simp only [y1g, hk, if_false, yB]; rw [y76 h l]
theorem y77 {κ γ : Type} [DecidableEq κ] {k : κ} {u d : γ} : ∀ (l : List (κ × γ)), yB (y1g l k u) k d = u
 | [] => by simp [y1g, yB]
 | p :: l => by
  by_cases hk : k = p.1
  ·subst hk; simp [y1g, yB]
  ·simp only [y1g, hk, if_false, yB]; exact y77 l
theorem y6Q {c : Cf} (h : Small c) {net : Int} {r : List Hop} {k : Option Bool} (hr : r.length < 1000000000) : ∀ (f : Nat) (v : Int) (mp : List (Int × Int)), 0 ≤ v → v ≤ r.length → r.length < f + v →
  (∀ x, 0 ≤ yB mp x 0 ∧ yB mp x 0 ≤ 2 * v ∧ (0 < yB mp x 0 ↔ 0 < v ∧ RK r v x)) →
  ((∃ q : Int, v ≤ q ∧ q < r.length ∧ ¬ y5Q c net r q) ∧ y1E r c net k f v mp = some false) ∨ ((∀ q : Int, v ≤ q → q < r.length → y5Q c net r q) ∧ y1E r c net k f v mp = k)
 | 0, v, mp, h0, h1, h2, h3 => by omega
 | f + 1, v, mp, h0, h1, h2, h3 => by
  rw [y1E]
  by_cases hv : v < r.length
  ·rw [if_pos (decide_eq_true hv), y18 ⟨h0, hv⟩]
   refine y4o (P := fun o => ((∃ q : Int, v ≤ q ∧ q < r.length ∧ ¬ y5Q c net r q) ∧ o = some false) ∨ ((∀ q : Int, v ≤ q → q < r.length → y5Q c net r q) ∧ o = k)) fun kk hkk => ?_
   -- the map in which the start is counted
   have hm : ∃ mp1, (if decide (v = 0) = true then kk (y1g mp ((nth r v).fNode) (i64 ((yB mp ((nth r v).fNode) 0) + 1))) else kk mp) = kk mp1 ∧ (∀ x, 0 ≤ yB mp1 x 0 ∧ yB mp1 x 0 ≤ 2 * v + 1 ∧ (0 < yB mp1 x 0 ↔ RK r v x)) := by
    by_cases hv0 : v = 0
    ·subst hv0
     rw [if_pos (by simp)]
     refine ⟨_, rfl, fun x => ?_⟩
     have h4 := h3 (nth r 0).fNode
     rw [y2t (by omega)]
     by_cases hx : x = (nth r 0).fNode
     ·subst hx; rw [y77]
      refine ⟨by omega, by omega, fun _ => .inl rfl, fun _ => by omega⟩
     ·rw [y76 hx]
      have h5 := h3 x
      refine ⟨by omega, by omega, fun h6 => absurd (h5.2.2.1 h6).1 (by omega), fun h6 => ?_⟩
      rcases h6 with h6 | ⟨q, q1, q2, _⟩
      ·exact absurd h6 hx
      ·omega
    ·rw [if_neg (by simpa using hv0)]
     refine ⟨mp, rfl, fun x => ?_⟩
     have h5 := h3 x
     exact ⟨by omega, by omega, fun h6 => (h5.2.2.1 h6).2, fun h6 => h5.2.2.2 ⟨by omega, h6⟩⟩
   obtain ⟨mp1, e1, h4⟩ := hm
   rw [e1, hkk, y18 (fun _ hc => ⟨by omega, by omega⟩), joins_eq h]
   simp only [Option.bind_some]
   have hN := h4 (nth r v).fNode
   have hX := h4 (nth r v).fNext
   -- the condition
   have hc : ∃ b, (if ((decide ((yB mp1 ((nth r v).fNode) 0) = 0)) || (decide ((yB mp1 ((nth r v).fNext) 0) > 0)) || ((decide (v > 0)) && (decide (((nth r v).fNode) ≠ ((nth r 0).fNode))) && (decide (((nth r v).fNode) < ((c.fModules.length : Nat) : Int))))) = true then some true else some (!decide (JN c net ((nth r v).fLink) ((nth r v).fNode) ((nth r v).fNext)))) = some b ∧ (b = true ↔ ¬ y5Q c net r v) := by
    by_cases hb : (decide ((yB mp1 ((nth r v).fNode) 0) = 0) || decide ((yB mp1 ((nth r v).fNext) 0) > 0) || (decide (v > 0) && decide (((nth r v).fNode) ≠ ((nth r 0).fNode)) && decide (((nth r v).fNode) < ((c.fModules.length : Nat) : Int)))) = true
    ·rw [if_pos hb]
     refine ⟨true, rfl, fun _ => ?_, fun _ => rfl⟩
     rintro ⟨a1, a2, a3, _⟩
     simp only [Bool.or_eq_true, Bool.and_eq_true, decide_eq_true_eq] at hb
     rcases hb with (hb | hb) | ⟨⟨b1, b2⟩, b3⟩
     ·have := hN.2.2.2 a1; omega
     ·exact a2 (hX.2.2.1 hb)
     ·unfold nM at a3; rcases a3 with a3 | a3
      ·exact b2 a3
      ·omega
    ·rw [if_neg hb]
     refine ⟨_, rfl, ?_⟩
     simp only [Bool.or_eq_true, Bool.and_eq_true, decide_eq_true_eq, not_or, not_and] at hb
     obtain ⟨⟨b1, b2⟩, b3⟩ := hb
     have c1 : RK r v (nth r v).fNode := hN.2.2.1 (by omega)
     have c2 : ¬ RK r v (nth r v).fNext := fun hk => b2 (hX.2.2.2 hk)
     have c3 : (nth r v).fNode = (nth r 0).fNode ∨ nM c ≤ (nth r v).fNode := by
      unfold nM
      by_cases e : (nth r v).fNode = (nth r 0).fNode
      ·exact .inl e
      ·refine .inr ?_
       by_cases e0 : v = 0
       ·subst e0; exact absurd rfl e
       ·have := b3 ⟨by omega, e⟩; omega
     simp only [Bool.not_eq_true', decide_eq_false_iff_not]
     exact ⟨fun hj hc => hj hc.2.2.2, fun hc hj => hc ⟨c1, c2, c3, hj⟩⟩
   obtain ⟨b, hb1, hb2⟩ := hc
   rw [hb1]
   simp only [Option.bind_some]
   by_cases hb : b = true
   ·rw [if_pos hb]; exact .inl ⟨⟨v, Int.le_refl _, hv, hb2.1 hb⟩, rfl⟩
   ·rw [if_neg hb]
    have hcv : y5Q c net r v := Classical.byContradiction fun hn => hb (hb2.2 hn)
    rw [y2t (x := v + 1) (by omega), y2t (by omega)]
    have hnx : ∀ x, 0 ≤ yB (y1g mp1 ((nth r v).fNext) ((yB mp1 ((nth r v).fNext) 0) + 1)) x 0 ∧ yB (y1g mp1 ((nth r v).fNext) ((yB mp1 ((nth r v).fNext) 0) + 1)) x 0 ≤ 2 * (v + 1) ∧ (0 < yB (y1g mp1 ((nth r v).fNext) ((yB mp1 ((nth r v).fNext) 0) + 1)) x 0 ↔ 0 < v + 1 ∧ RK r (v + 1) x) := by
     intro x
     by_cases hx : x = (nth r v).fNext
     ·subst hx; rw [y77]
      exact ⟨by omega, by omega, fun _ => ⟨by omega, .inr ⟨v, h0, by omega, rfl⟩⟩, fun _ => by omega⟩
     ·rw [y76 hx]
      have h5 := h4 x
      refine ⟨by omega, by omega, fun h6 => ⟨by omega, ?_⟩, fun h6 => h5.2.2.2 ?_⟩
      ·rcases h5.2.2.1 h6 with h7 | ⟨q, q1, q2, q3⟩
       ·exact .inl h7
       ·exact .inr ⟨q, q1, by omega, q3⟩
      ·rcases h6.2 with h7 | ⟨q, q1, q2, q3⟩
       ·exact .inl h7
       ·by_cases e : q = v
        ·subst e; exact absurd q3.symm hx
        ·exact .inr ⟨q, q1, by omega, q3⟩
    rcases y6Q h hr f (v + 1) (y1g mp1 ((nth r v).fNext) ((yB mp1 ((nth r v).fNext) 0) + 1)) (by omega) (by omega) (by omega) hnx (k := k) (net := net) with ⟨⟨q, q1, q2, q3⟩, h5⟩ | ⟨h5, h6⟩
    ·exact .inl ⟨⟨q, by omega, q2, q3⟩, h5⟩
    ·refine .inr ⟨fun q q1 q2 => ?_, h6⟩
     by_cases e : q = v
     ·rw [e]; exact hcv
     ·exact h5 q (by omega) q2
  ·rw [if_neg (by simpa using hv)]
   exact .inr ⟨fun q h1 h2 => by omega, rfl⟩
theorem y6A {c : Cf} (h : Small c) {net : Int} {r : List Hop} (hr : r.length < 1000000000) : ∃ b, y2Y c net r = some b ∧ (b = true ↔ VR c net r) := by
 unfold y2Y
 have hF := y4I
 generalize yP = N at hF ⊢
 refine y5z (P := fun o => ∃ b, o = some b ∧ (b = true ↔ VR c net r)) fun k hk => ?_
 rcases y6Q h hr N 0 [] (by omega) (by omega) (by omega) (fun x => by simp [yB]) (k := k) (net := net) with ⟨⟨q, q1, q2, q3⟩, h5⟩ | ⟨h5, h6⟩
 ·refine ⟨false, h5, ?_⟩
  simp only [Bool.false_eq_true, false_iff]
  exact fun hv => q3 (hv.cond q q1 q2)
 ·refine ⟨_, h6.trans hk, ?_⟩
  rw [decide_eq_true_eq]
  exact ⟨fun hl => ⟨by omega, h5⟩, fun hv => by have := hv.len; omega⟩
theorem y6p {l : List (List Hop)} {f : List Hop → Option Bool} {k : Option Int} (hf : ∀ y ∈ l, ∃ b, f y = some b) (hl : l.length < 1000000000) : ∀ (n : Nat) (v : Int), 0 ≤ v → v ≤ l.length → l.length < n + v →
  (∃ i : Int, v ≤ i ∧ i < l.length ∧ f (nth l i) = some true ∧ yw l f k n v = some i) ∨ ((∀ i : Int, v ≤ i → i < l.length → f (nth l i) = some false) ∧ yw l f k n v = k)
 | 0, v, h0, h1, h2 => by omega
 | n + 1, v, h0, h1, h2 => by
  rw [yw]
  by_cases h : v < l.length
  ·rw [if_pos (decide_eq_true h), y18 ⟨h0, h⟩]
   obtain ⟨b, hb⟩ := hf _ (y6f h0 h)
   rw [hb]
   simp only [Option.bind_some]
   cases b with
   | true => exact .inl ⟨v, Int.le_refl _, h, hb, by simp⟩
   | false =>
    simp only [Bool.false_eq_true, if_false]
    rw [y2t (x := v + 1) (by omega)]
    rcases y6p hf hl n (v + 1) (by omega) (by omega) (by omega) (k := k) with ⟨i, i1, i2, i3, i4⟩ | ⟨i1, i2⟩
    ·exact .inl ⟨i, by omega, i2, i3, i4⟩
    ·refine .inr ⟨fun i j1 j2 => ?_, i2⟩
     by_cases e : i = v
     ·rw [e]; exact hb
     ·exact i1 i (by omega) j2
  ·rw [if_neg (by simpa using h)]
   exact .inr ⟨fun i h1 h2 => by omega, rfl⟩
structure VA (c : Cf) (net : Int) (rs : List (List Hop)) : Prop where
 nt : net = 0 ∨ net = 1
 len : rs.length = c.fVLs.length
 most : rs.length ≤ 16
 each : ∀ r ∈ rs, VR c net r
theorem y6B {c : Cf} (h : Small c) {net : Int} {rs : List (List Hop)} (hr : ∀ r ∈ rs, r.length < 1000000000) (hl : rs.length < 1000000000) : ∃ b, yA c net rs = some b ∧ (b = true ↔ VA c net rs) := by
 unfold yA
 by_cases h1 : (net = 0 ∨ net = 1) ∧ rs.length = c.fVLs.length ∧ rs.length ≤ 16
 ·rw [if_pos (by simp only [Bool.and_eq_true, Bool.or_eq_true, decide_eq_true_eq]; omega)]
  unfold y1f y1p
  have hF := y4I
  generalize yP = N at hF ⊢
  have hf : ∀ y ∈ rs, ∃ b, (fun (y0 : List Hop) => yU y0 c net) y = some b := fun y hy => by
   obtain ⟨b, hb, _⟩ := y6A h (net := net) (hr y hy)
   exact ⟨!b, by show yU y c net = _; unfold yU; rw [hb]; rfl⟩
  have hi : ∃ x : Int, (jp0 (some (-1)) fun k => yw rs (fun (y0 : List Hop) => yU y0 c net) k N 0) = some x ∧ (x < 0 ↔ ∀ i : Int, 0 ≤ i → i < rs.length → yU (nth rs i) c net = some false) := by
   refine y5z (P := fun o => ∃ x : Int, o = some x ∧ (x < 0 ↔ ∀ i : Int, 0 ≤ i → i < rs.length → yU (nth rs i) c net = some false)) fun k hk => ?_
   rcases y6p hf hl N 0 (by omega) (by omega) (by omega) (k := k) with ⟨i, i1, i2, i3, i4⟩ | ⟨i1, i2⟩
   ·refine ⟨i, i4, fun hx => absurd hx (by omega), fun hx => ?_⟩
    have := hx i i1 i2
    have i3' : yU (nth rs i) c net = some true := i3
    rw [this] at i3'; cases i3'
   ·exact ⟨-1, i2.trans hk, fun _ => i1, fun _ => by omega⟩
  obtain ⟨x, hx1, hx2⟩ := hi
  rw [hx1]
  refine ⟨_, rfl, ?_⟩
  simp only [Bool.not_eq_true', decide_eq_false_iff_not]
  have hall : (∀ i : Int, 0 ≤ i → i < rs.length → yU (nth rs i) c net = some false) ↔ ∀ r ∈ rs, VR c net r := by
   constructor
   ·intro hh r hrm
    obtain ⟨i, hi, rfl⟩ := List.getElem_of_mem hrm
    have h3 := hh (i : Int) (by omega) (by omega)
    rw [y6P ⟨by omega, by omega⟩] at h3
    simp only [Int.toNat_natCast] at h3
    obtain ⟨b, hb, hb2⟩ := y6A h (net := net) (hr _ (List.getElem_mem hi))
    unfold yU at h3
    rw [hb] at h3
    simp at h3
    exact hb2.1 h3
   ·intro hh i i1 i2
    have hm := y6f i1 i2
    obtain ⟨b, hb, hb2⟩ := y6A h (net := net) (hr _ hm)
    unfold yU
    rw [hb, hb2.2 (hh _ hm)]; rfl
  constructor
  ·intro hh; exact ⟨h1.1, h1.2.1, h1.2.2, hall.1 (hx2.1 (by omega))⟩
  ·intro hh; have := hx2.2 (hall.2 hh.each); omega
 ·rw [if_neg (by simp only [Bool.and_eq_true, Bool.or_eq_true, decide_eq_true_eq]; omega)]
  refine ⟨false, rfl, ?_⟩
  simp only [Bool.false_eq_true, false_iff]
  exact fun hv => h1 ⟨hv.nt, hv.len, hv.most⟩
/-! ### frames -/
def FG (c : Cf) (l : List Snt) (q : Int) : Prop := 0 ≤ (nth l q).fTime ∧ (nth l q).fTime ≤ 536870912 ∧ 0 ≤ (nth l q).fVL ∧ (nth l q).fVL < c.fVLs.length ∧ 1 ≤ (nth l q).fSize ∧ (nth l q).fSize ≤ 72 ∧ (0 < q → (nth l (q - 1)).fTime ≤ (nth l q).fTime)
instance (c : Cf) (l : List Snt) (q : Int) : Decidable (FG c l q) := inferInstanceAs (Decidable (_ ∧ _))
theorem y6R {c : Cf} {l : List Snt} {v : Int} (h0 : 0 ≤ v) (hv : v ≤ 9223372036854775807) : (((((((decide (((nth l v).fTime) < 0)) || (decide (((nth l v).fTime) > 536870912))) || (decide (((nth l v).fVL) < 0))) || (decide (((nth l v).fVL) ≥ ((c.fVLs.length : Nat) : Int)))) || (decide (((nth l v).fSize) < 1))) || (decide (((nth l v).fSize) > 72))) || ((decide (v > 0)) && (decide (((nth l (i64 (v - 1))).fTime) > ((nth l v).fTime))))) = true ↔ ¬ FG c l v := by
 rw [y2t (by omega)]
 unfold FG
 simp only [Bool.or_eq_true, Bool.and_eq_true, decide_eq_true_eq]
 constructor
 ·rintro h ⟨a, b, d, e, f, g, i⟩
  rcases h with (((((h | h) | h) | h) | h) | h) | ⟨h, h'⟩
  ·omega
  ·omega
  ·omega
  ·omega
  ·omega
  ·omega
  ·have := i h; omega
 ·intro h
  refine Classical.byContradiction fun hn => h ?_
  simp only [not_or, not_and] at hn
  obtain ⟨⟨⟨⟨⟨⟨a1, a2⟩, a3⟩, a4⟩, a5⟩, a6⟩, a7⟩ := hn
  exact ⟨by omega, by omega, by omega, by omega, by omega, by omega, fun h => by have := a7 h; omega⟩
theorem y6q {c : Cf} {l : List Snt} {k : Option Bool} (hs : (l.length : Int) ≤ 9223372036854775807) : ∀ (n : Nat) (v : Int), 0 ≤ v → v ≤ l.length → l.length < n + v →
  (∃ q : Int, v ≤ q ∧ q < l.length ∧ ¬ FG c l q) ∧ y1v l c k n v = some false ∨ (∀ q : Int, v ≤ q → q < l.length → FG c l q) ∧ y1v l c k n v = k
 | 0, v, h0, h1, h2 => by omega
 | n + 1, v, h0, h1, h2 => by
  rw [y1v]
  by_cases h : v < l.length
  ·rw [if_pos (decide_eq_true h), y18 ⟨h0, h⟩, y18 (fun _ h' => by have h' := of_decide_eq_true h'; rw [y2t (by omega)]; omega)]
   rw [y2t (x := v + 1) (by omega)]
   by_cases hg : FG c l v
   ·rw [if_neg (fun hc => (y6R h0 (by omega)).1 hc hg)]
    rcases y6q hs n (v + 1) (by omega) (by omega) (by omega) (k := k) with ⟨⟨q, q1, q2, q3⟩, h3⟩ | ⟨h3, h4⟩
    ·exact .inl ⟨⟨q, by omega, q2, q3⟩, h3⟩
    ·refine .inr ⟨fun q q1 q2 => ?_, h4⟩
     by_cases e : q = v
     ·rw [e]; exact hg
     ·exact h3 q (by omega) q2
   ·rw [if_pos ((y6R h0 (by omega)).2 hg)]
    exact .inl ⟨⟨v, Int.le_refl _, h, hg⟩, rfl⟩
  ·rw [if_neg (by simpa using h)]
   exact .inr ⟨fun q h1 h2 => by omega, rfl⟩
structure FRm (c : Cf) (m : Nat) (l : List Snt) : Prop where
 each : ∀ q : Int, 0 ≤ q → q < l.length → FG c l q
 len : l.length ≤ m
theorem y8q {c : Cf} {l : List Snt} (hs : (l.length : Int) ≤ 9223372036854775807) : ∃ r, y2M c l = some r ∧ (r = true ↔ FRm c 4000 l) := by
 unfold y2M
 have hF := y4I
 generalize yP = N at hF ⊢
 refine y5z (P := fun o => ∃ r, o = some r ∧ (r = true ↔ FRm c 4000 l)) fun k hk => ?_
 rcases y6q (c := c) (l := l) (k := k) hs N 0 (by omega) (by omega) (by omega) with ⟨⟨q, q1, q2, q3⟩, h3⟩ | ⟨h3, h4⟩
 ·refine ⟨false, h3, ?_⟩
  simp only [Bool.false_eq_true, false_iff]
  exact fun h => q3 (h.each q q1 q2)
 ·refine ⟨_, h4.trans hk, ?_⟩
  rw [decide_eq_true_eq]
  exact ⟨fun h => ⟨h3, by omega⟩, fun h => by have := h.len; omega⟩
theorem y6e {c : Cf} {l : List Snt} {k : Option Bool} (hs : l.length < 1000000000) : ∀ (n : Nat) (v : Int), 0 ≤ v → v ≤ l.length → l.length < n + v →
  (∃ q : Int, v ≤ q ∧ q < l.length ∧ ¬ FG c l q) ∧ y1O l c k n v = some false ∨ (∀ q : Int, v ≤ q → q < l.length → FG c l q) ∧ y1O l c k n v = k
 | 0, v, h0, h1, h2 => by omega
 | n + 1, v, h0, h1, h2 => by
  rw [y1O]
  by_cases h : v < l.length
  ·rw [if_pos (decide_eq_true h), y18 ⟨h0, h⟩, y18 (fun _ h' => by have h' := of_decide_eq_true h'; rw [y2t (by omega)]; omega)]
   rw [y2t (x := v + 1) (by omega)]
   by_cases hg : FG c l v
   ·rw [if_neg (fun hc => (y6R h0 (by omega)).1 hc hg)]
    rcases y6e hs n (v + 1) (by omega) (by omega) (by omega) (k := k) with ⟨⟨q, q1, q2, q3⟩, h3⟩ | ⟨h3, h4⟩
    ·exact .inl ⟨⟨q, by omega, q2, q3⟩, h3⟩
    ·refine .inr ⟨fun q q1 q2 => ?_, h4⟩
     by_cases e : q = v
     ·rw [e]; exact hg
     ·exact h3 q (by omega) q2
   ·rw [if_pos ((y6R h0 (by omega)).2 hg)]
    exact .inl ⟨⟨v, Int.le_refl _, h, hg⟩, rfl⟩
  ·rw [if_neg (by simpa using h)]
   exact .inr ⟨fun q h1 h2 => by omega, rfl⟩
theorem y8g {c : Cf} {l : List Snt} (hs : (l.length : Int) ≤ 9223372036854775807) : ∃ r, y3e c l = some r ∧ (r = true ↔ FRm c 40 l) := by
 unfold y3e
 by_cases hl : (l.length : Int) > 40
 ·rw [if_pos (decide_eq_true hl)]
  refine ⟨false, rfl, ?_⟩
  simp only [Bool.false_eq_true, false_iff]
  exact fun h => by have := h.len; omega
 ·rw [if_neg (by simpa using hl)]
  have hF := y4I
  generalize yP = N at hF ⊢
  refine y5z (P := fun o => ∃ r, o = some r ∧ (r = true ↔ FRm c 40 l)) fun k hk => ?_
  rcases y6e (c := c) (l := l) (k := k) (by omega) N 0 (by omega) (by omega) (by omega) with ⟨⟨q, q1, q2, q3⟩, h3⟩ | ⟨h3, h4⟩
  ·refine ⟨false, h3, ?_⟩
   simp only [Bool.false_eq_true, false_iff]
   exact fun h => q3 (h.each q q1 q2)
  ·exact ⟨true, h4.trans hk, fun _ => ⟨h3, by omega⟩, fun _ => rfl⟩
end Go.Proofs.Ytinchjigeakocaa
